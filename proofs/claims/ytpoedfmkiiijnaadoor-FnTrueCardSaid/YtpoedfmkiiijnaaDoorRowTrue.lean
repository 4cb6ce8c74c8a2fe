/- The statement FnTrue: its row and its tied card, out of the walk. The listed tables are tied by the given text; the row speaks of every argument. -/
import Derived.Test.YtpoedfmkiiijnaaDoorRows
import Derived.Test.YtpoedfmkiiijnaaDoorCards
import Derived.Test.YtpoedfmkiiijnaaDoorTie
import Derived.Test.YtpoedfmkiiijnaaDoorLaT
import Derived.Test.YtpoedfmkiiijnaaDoorGD
import Derived.Test.YtpoedfmkiiijnaaDoorGP
import Derived.Test.YtpoedfmkiiijnaaDoorGl
import Derived.ProofKit
import Derived.OpenShut
import Derived.ShutString
import Derived.ChangeOld
import Derived.Below
import Derived.Carry
import Derived.SizedLaws
import Derived.LaidMore
import Derived.Lay
import Derived.SevenTiedAt
import Derived.Stop.Joined
namespace Go.Proofs.YtpoedfmkiiijnaaDoor.rFnTrue
open Go Go.ChangeShapes Go.WideShapes Go.ChangeAt Go.RowKit
open Go.Proofs.YtpoedfmkiiijnaaDoorAm (AC.law HR.none VRs.ints iv VR VRs HRi HRi.none Rdb Phi.le_refl Phi.le_trans RPp.frm RP.frm RS.ext Frm.ext VR.mono VRs.cons VRs.nil GOk)
set_option linter.unusedVariables false
set_option linter.unusedSimpArgs false
theorem own : ownKnob Tryd.prog.godebug = none := by kernel_rfl
theorem laid : laidOutB Tryd.prog = true := by kernel_rfl
set_option maxRecDepth 100000 in
theorem lifted (os : Os) (started : os.Started) (H : Type) (enc : TypeId × Value → H) :
  ReturnsInHanded {} Tryd.checked os 4 .any (fun w args => (Rows.fnTrueSpec.pre enc Tryd.prog Tryd.f4 Rows.fnTrueRow.domain false w args ∧ laidMetH Tryd.prog Rows.fnTrueRow.laid w) ∧ sizedMet enc Tryd.prog Tryd.f4 (OpenSpec.ofChange Rows.fnTrueSpec) false w args) (Rows.fnTrueSpec.post enc Tryd.prog Tryd.f4 false true false false) := by
 refine returnsInHanded_of_change_and (C := Tryd.checked) (X := fun w _ => laidMetH Tryd.prog Rows.fnTrueRow.laid w) (fun _ _ _ hh h => h.of_heap hh) own started (by kernel_rfl) Tryd.func4
  (ChangeSpec.witness_shaped (enc := enc) (C := Tryd.checked) (os := os) (X := fun w _ => laidMetH Tryd.prog Rows.fnTrueRow.laid w) false (World.laidAll Tryd.prog os Rows.fnTrueRow.laid) #[.slice none 0 0] 8 (World.laidAll_os _ _ _)
   (World.shaped_of_ZipB (by kernel_rfl) (by kernel_rfl)) (by kernel_rfl) (by kernel_rfl) (by kernel_rfl)
   (by rw [MakeChecks.laidMetH_plain _ _ _ (by kernel_rfl)]; exact laidMet_laidAll _ (by kernel_rfl) (by kernel_rfl))) ?_
 intro W base args ds gs before hval0 hW hcnd hsz0 hL _
 have hG : GOk Tryd.prog W.heap.size W := gl_of (by rw [MakeChecks.laidMetH_plain _ _ _ (by kernel_rfl)] at hL; exact hL)
 have hval : ∀ (j : Nat) t v, Tryd.f4.params[j]? = some t → args[j]? = some v → Value.okWide Tryd.prog W .any base t v := hval0
 have hW' := hW
 obtain ⟨p, q, hA0, hV, rfl, hfz, hnd⟩ := hW
 have hA : DataW.TrodAll enc Tryd.prog W 0 (fun _ => true) true Tryd.f4.params.toList args.toList ds p := hA0
 have hsz : (DataW.weightsEach Tryd.prog (Tryd.f4.params.toList ++ Rows.fnTrueSpec.plain.varTypes Tryd.prog) (ds ++ gs)).all (· ≤ reachBytes) = true := hsz0
 rw [Tryd.params4] at hA hval hsz
 obtain ⟨v0, vs0, d0, ds0, p0, q0, hargs, rfl, rfl, h0, r0⟩ := trodAll_cons hA
 obtain ⟨rfl, rfl, rfl⟩ := trodAll_nil r0
 obtain rfl : args = #[v0] := by cases args; simp_all
 obtain ⟨rfl, rfl⟩ := trodVars_none hV
 have hlt : ∀ x, x ∈ p0 → x.block < W.heap.size := fun x hx => hW'.lt x (by simpa using hx)
 simp only [List.append_nil, List.cons_append, List.nil_append, DataW.weightsEach, List.all_append, Bool.and_eq_true, Array.toList] at hsz
 obtain ⟨z0, _⟩ := hsz
 clear hA0 hval0 hsz0
 have i0 : HRi Tryd.prog W (fun _ => none) [] := HRi.none _ _
 obtain ⟨fu0, hf0⟩ := h0
 obtain ⟨φ1, J1, x0, xs0, E0, i1, l1, ⟨u0, rfl, R0⟩, V0⟩ := lays_bys (enc := enc) (W := W) _ _ _ ⟨fu0, _, hf0, z0⟩ i0
 obtain ⟨aa0, ln0, cp0, rfl⟩ := okWide_slice Tryd.underlying32 (hval 0 32 v0 rfl rfl)
 obtain ⟨y0, _, ey0, V0, _⟩ := V0.inv
 simp [Value.cells] at ey0
 obtain ⟨rfl, _⟩ := ey0
 refine ((lawTrue_ac R0).law hG i1.hr (VRs.cons V0 (VRs.nil _))).mono fun e W' ⟨he, bel⟩ => ?_
 subst he
 exact ⟨_, rfl, _, _, _, [], _, [], hW', trodAll_mk1 (shut_bool Tryd.underlying4 _), (trodAll_cons_mk (Below.trod laid (by kernel_rfl) (of_decide_eq_true (by kernel_rfl)) ⟨fu0, hf0⟩ bel fun x hx => hlt x (by simp [hx])) trodAll_mk0), rfl, bel.frame _, fun h => by cases h⟩
theorem pIn : (Rows.fnTrueRow.inPlace == Program.inPlace Tryd.pinned.checked.prog 4) = true := by kernel_rfl
theorem pUn : (Rows.fnTrueRow.unfollowed == Program.unfollowed Tryd.pinned.checked.prog 4) = true := by kernel_rfl
theorem pRe : (Rows.fnTrueRow.recurses == Program.recurses Tryd.pinned.checked.prog 4) = true := by kernel_rfl
theorem pNa : (Rows.fnTrueRow.named == Program.varsNamed Tryd.pinned.checked.prog 4) = true := by kernel_rfl
theorem closed : joinedFacts Tryd.pinned.checked.prog 4 Tryd.f4 Rows.fnTrueSpec Rows.fnTrueRow = true := by
  unfold joinedFacts
  repeat' (with_reducible refine Bool.and_eq_true_iff.2 ⟨?_, ?_⟩)
  all_goals first
    | with_reducible exact pf.mayEnter
    | with_reducible exact pf.lifts
    | (have e : Rows.fnTrueRow.lifted = Rows.fnTrueRow.lifted := rfl
       rw [e]; with_reducible exact pf.lifts)
    | (with_reducible exact pIn)
    | (with_reducible exact pUn)
    | (with_reducible exact pRe)
    | (with_reducible exact pNa)
    | kernel_rfl
theorem said : Rows.FnTrueSaid :=
 OpenClaim.holds_of_wide 4 Tryd.f4 rfl rfl rfl rfl rfl rfl rfl ⟨rfl, rfl, rfl, rfl, rfl⟩ rfl rfl rfl rfl rfl (by kernel_rfl) Tryd.func4 closed
  (of_decide_eq_true (by kernel_rfl)) (by unfold Func.isWrapper; first | (rw [if_pos (by decide +kernel)]; kernel_rfl) | (rw [if_neg (by decide +kernel)]; exact ⟨rfl, rfl⟩))
  (fun os started H enc _ => lifted os started H enc)
/-- No parameter wants a stand-in; the program's own looks are off: what the card asks. -/
theorem plain (f : FuncId) (fn : Func) (hf : Tryd.pinned.checked.prog.funcNamed Rows.fnTrueRow.func = some f) (hfn : Tryd.pinned.checked.prog.funcs[f]? = some fn) :
  false = Tryd.pinned.checked.prog.looks [] ∧ ∀ (j : Nat) t, fn.params[j]? = some t → Tryd.pinned.checked.prog.wantsStandIn t = false := by
 obtain rfl : f = 4 := Option.some.inj ((show Tryd.prog.funcNamed Rows.fnTrueRow.func = some 4 by kernel_rfl).symm.trans hf) |>.symm
 obtain rfl : fn = Tryd.f4 := (Option.some.inj (Tryd.func4.symm.trans hfn)).symm
 refine ⟨by kernel_rfl, fun j t ht => ?_⟩
 rw [Tryd.params4] at ht
 have hm : t ∈ [32] := by simpa using Array.mem_of_getElem? ht
 have hall : ([32].all fun u => !Tryd.prog.wantsStandIn u) = true := by kernel_rfl
 exact (show Tryd.prog.wantsStandIn t = false by simpa using List.all_eq_true.1 hall t hm)
theorem card : Rows.FnTrueCardSaid :=
 Claim7.holds_tied_plain_at .later [] _ _ _ _ said (fun _ h => by cases h) (by kernel_rfl) (fun _ h => by cases h) fnTrue_row_tie rfl ⟨rfl, rfl⟩ (by kernel_rfl) rfl plain (by kernel_rfl)
end Go.Proofs.YtpoedfmkiiijnaaDoor.rFnTrue
namespace Go.Proofs.YtpoedfmkiiijnaaDoor
/-- The card, under a short name, for the claim. -/
theorem fnTrueCard_holds : Rows.FnTrueCardSaid := rFnTrue.card
end Go.Proofs.YtpoedfmkiiijnaaDoor
