/-
  DERIVED. GIVEN WITH THE SEED: THE CARDS: each row of YtpoedfmkiiijnaaDoorRows.lean that lists a variable, with what it lists TIED to the program's text (the seventh form; the later family's looks); each row that meets fmt, with fmt's text TOLD by the authors' own Lean function (tested against real Go, not proved from fmt's source: count such statements apart). THE CARD IS WHAT COUNTS. Prove the row's statement (the work); the ties are given (YtpoedfmkiiijnaaDoorTie.lean); close each card by the builder's one call (the guide's Derived/Test/ToyasCard.lean, 'card_holds'). Laid BY PROGRAM, IN A SANDBOX (cutbox-door.mjs). By AI agents, Wed Nov 11 2026. No macro, syntax, notation, axiom, sorry.
-/
import Derived.Test.YtpoedfmkiiijnaaDoorRows
import GoSem.ClaimSeven
namespace Go.Proofs.YtpoedfmkiiijnaaDoor
namespace Rows

/-- THE TIED CARD OF 'laws.FnExactAnswer'. -/
def fnExactAnswerCard : Claim7 := { stood := { row := fnExactAnswerRow, standIns := [], harness := (true, "6efae8b205cfa6b265ff91bf23d67e5ba557a3c712f0ed98da0472195234d0a1"), looks := false }, kinds := [], alts := [], laidByText := true, laidKinds := [.data, .data, .data], laidTests := true, laidLooks := .later }
def FnExactAnswerCardSaid : Prop := Claim7.holds Tryd.pinned (.plain (OpenSpec.ofChange fnExactAnswerSpec)) fnExactAnswerCard

/-- THE TIED CARD OF 'laws.FnTrue'. -/
def fnTrueCard : Claim7 := { stood := { row := fnTrueRow, standIns := [], harness := (true, "6efae8b205cfa6b265ff91bf23d67e5ba557a3c712f0ed98da0472195234d0a1"), looks := false }, kinds := [], alts := [], laidByText := true, laidKinds := [.data, .data, .data], laidTests := true, laidLooks := .later }
def FnTrueCardSaid : Prop := Claim7.holds Tryd.pinned (.plain (OpenSpec.ofChange fnTrueSpec)) fnTrueCard

/-- THE SECOND FORM's CARD OF 'laws.FnExactAnswer'. -/
def fnExactAnswerUptoCard : Claim7 := { stood := { row := fnExactAnswerUptoRow, standIns := [], harness := (true, "6efae8b205cfa6b265ff91bf23d67e5ba557a3c712f0ed98da0472195234d0a1"), looks := false }, kinds := [], alts := [], laidByText := true, laidKinds := [.data, .data, .data], laidTests := true, laidLooks := .later }
def FnExactAnswerUptoCardSaid : Prop := Claim7.holds Tryd.pinned (.plain (OpenSpec.upto fnExactAnswerSpec)) fnExactAnswerUptoCard

/-- THE SECOND FORM's CARD OF 'laws.FnTrue'. -/
def fnTrueUptoCard : Claim7 := { stood := { row := fnTrueUptoRow, standIns := [], harness := (true, "6efae8b205cfa6b265ff91bf23d67e5ba557a3c712f0ed98da0472195234d0a1"), looks := false }, kinds := [], alts := [], laidByText := true, laidKinds := [.data, .data, .data], laidTests := true, laidLooks := .later }
def FnTrueUptoCardSaid : Prop := Claim7.holds Tryd.pinned (.plain (OpenSpec.upto fnTrueSpec)) fnTrueUptoCard
end Rows
end Go.Proofs.YtpoedfmkiiijnaaDoor
