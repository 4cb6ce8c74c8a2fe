/- The statement FnExactAnswer: its row and its tied card, out of the walk. The listed tables are tied by the given text; the row speaks of every argument. -/
import Derived.Test.YtpoedfmkiiijnaaDoorRows
import Derived.Test.YtpoedfmkiiijnaaDoorCards
import Derived.Test.YtpoedfmkiiijnaaDoorTie
import Derived.Test.YtpoedfmkiiijnaaDoorLaX
import Derived.Test.YtpoedfmkiiijnaaDoorGD
import Derived.Test.YtpoedfmkiiijnaaDoorGP
import Derived.Test.YtpoedfmkiiijnaaDoorGl
import Derived.ProofKit
import Derived.OpenShut
import Derived.ShutString
import Derived.ChangeOld
import Derived.Below
import Derived.Carry
import Derived.SizedLaws
import Derived.LaidMore
import Derived.Lay
import Derived.SevenTiedAt
import Derived.Stop.Joined
namespace Go.Proofs.YtpoedfmkiiijnaaDoor.rFnExactAnswer
open Go Go.ChangeShapes Go.WideShapes Go.ChangeAt Go.RowKit
open Go.Proofs.YtpoedfmkiiijnaaDoorAm (AC.law HR.none VRs.ints iv VR VRs HRi HRi.none Rdb Phi.le_refl Phi.le_trans RPp.frm RP.frm RS.ext Frm.ext VR.mono VRs.cons VRs.nil GOk)
set_option linter.unusedVariables false
set_option linter.unusedSimpArgs false
theorem own : ownKnob Tryd.prog.godebug = none := by kernel_rfl
theorem laid : laidOutB Tryd.prog = true := by kernel_rfl
set_option maxRecDepth 100000 in
theorem lifted (os : Os) (started : os.Started) (H : Type) (enc : TypeId × Value → H) :
    ReturnsInHanded {} Tryd.checked os 3 .any (fun w args => (Rows.fnExactAnswerSpec.pre enc Tryd.prog Tryd.f3 Rows.fnExactAnswerRow.domain false w args ∧ laidMetH Tryd.prog Rows.fnExactAnswerRow.laid w) ∧ sizedMet enc Tryd.prog Tryd.f3 (OpenSpec.ofChange Rows.fnExactAnswerSpec) false w args) (Rows.fnExactAnswerSpec.post enc Tryd.prog Tryd.f3 false true false false) := by
  refine returnsInHanded_of_change_and (C := Tryd.checked) (X := fun w _ => laidMetH Tryd.prog Rows.fnExactAnswerRow.laid w) (fun _ _ _ hh h => h.of_heap hh) own started (by kernel_rfl) Tryd.func3
    (ChangeSpec.witness_shaped (enc := enc) (C := Tryd.checked) (os := os) (X := fun w _ => laidMetH Tryd.prog Rows.fnExactAnswerRow.laid w) false (World.laidAll Tryd.prog os Rows.fnExactAnswerRow.laid) #[.int .i64 0, .slice none 0 0, .slice none 0 0] 8 (World.laidAll_os _ _ _)
      (World.shaped_of_ZipB (by kernel_rfl) (by kernel_rfl)) (by kernel_rfl) (by kernel_rfl) (by kernel_rfl)
      (by rw [MakeChecks.laidMetH_plain _ _ _ (by kernel_rfl)]; exact laidMet_laidAll _ (by kernel_rfl) (by kernel_rfl))) ?_
  intro W base args ds gs before hval0 hW hcnd hsz0 hL _
  have hG : GOk Tryd.prog W.heap.size W := gl_of (by rw [MakeChecks.laidMetH_plain _ _ _ (by kernel_rfl)] at hL; exact hL)
  have hval : ∀ (j : Nat) t v, Tryd.f3.params[j]? = some t → args[j]? = some v → Value.okWide Tryd.prog W .any base t v := hval0
  have hW' := hW
  obtain ⟨p, q, hA0, hV, rfl, hfz, hnd⟩ := hW
  have hA : DataW.TrodAll enc Tryd.prog W 0 (fun _ => true) true Tryd.f3.params.toList args.toList ds p := hA0
  have hsz : (DataW.weightsEach Tryd.prog (Tryd.f3.params.toList ++ Rows.fnExactAnswerSpec.plain.varTypes Tryd.prog) (ds ++ gs)).all (· ≤ reachBytes) = true := hsz0
  rw [Tryd.params3] at hA hval hsz
  obtain ⟨v0, vs0, d0, ds0, p0, q0, hargs, rfl, rfl, h0, r0⟩ := trodAll_cons hA
  obtain ⟨v1, vs1, d1, ds1, p1, q1, rfl, rfl, rfl, h1, r1⟩ := trodAll_cons r0
  obtain ⟨v2, vs2, d2, ds2, p2, q2, rfl, rfl, rfl, h2, r2⟩ := trodAll_cons r1
  obtain ⟨rfl, rfl, rfl⟩ := trodAll_nil r2
  obtain rfl : args = #[v0, v1, v2] := by cases args; simp_all
  obtain ⟨rfl, rfl⟩ := trodVars_none hV
  have hlt : ∀ x, x ∈ p0 ++ p1 ++ p2 → x.block < W.heap.size := fun x hx => hW'.lt x (by simpa using hx)
  simp only [List.append_nil, List.cons_append, List.nil_append, DataW.weightsEach, List.all_append, Bool.and_eq_true, Array.toList] at hsz
  obtain ⟨z0, z1, z2, _⟩ := hsz
  clear hA0 hval0 hsz0
  obtain ⟨a0, rfl, rfl, rfl, w0⟩ := open_int Tryd.underlying3 (hval 0 3 v0 rfl rfl) h0
  have i0 : HRi Tryd.prog W (fun _ => none) [] := HRi.none _ _
  obtain ⟨fu1, hf1⟩ := h1
  obtain ⟨φ1, J1, x1, xs1, E1, i1, l1, ⟨u1, rfl, R1⟩, V1⟩ := lays_ints (enc := enc) (W := W) _ _ _ ⟨fu1, _, hf1, z1⟩ i0
  obtain ⟨aa1, ln1, cp1, rfl⟩ := okWide_slice Tryd.underlying22 (hval 1 22 v1 rfl rfl)
  obtain ⟨y1, _, ey1, V1, _⟩ := V1.inv
  simp [Value.cells] at ey1
  obtain ⟨rfl, _⟩ := ey1
  obtain ⟨fu2, hf2⟩ := h2
  obtain ⟨φ2, J2, x2, xs2, E2, i2, l2, ⟨u2, rfl, R2⟩, V2⟩ := lays_acsR (enc := enc) (W := W) _ _ _ ⟨fu2, _, hf2, z2⟩ i1
  obtain ⟨aa2, ln2, cp2, rfl⟩ := okWide_slice Tryd.underlying23 (hval 2 23 v2 rfl rfl)
  obtain ⟨y2, _, ey2, V2, _⟩ := V2.inv
  simp [Value.cells] at ey2
  obtain ⟨rfl, _⟩ := ey2
  have R1 := R1.ext (L := J2) (RP.frm _)
  have V1 := V1.mono l2
  refine ((lawAnswer_ac R1 R2 a0).law hG i2.hr (VRs.cons (.int _ _) (VRs.cons V1 (VRs.cons V2 (VRs.nil _))))).mono fun e W' ⟨he, bel⟩ => ?_
  subst he
  exact ⟨_, rfl, _, _, _, [], _, [], hW', trodAll_mk1 (shut_bool Tryd.underlying4 _), (trodAll_cons_mk (shut_int Tryd.underlying3 w0) (trodAll_cons_mk (Below.trod laid (by kernel_rfl) (of_decide_eq_true (by kernel_rfl)) ⟨fu1, hf1⟩ bel fun x hx => hlt x (by simp [hx])) (trodAll_cons_mk (Below.trod laid (by kernel_rfl) (of_decide_eq_true (by kernel_rfl)) ⟨fu2, hf2⟩ bel fun x hx => hlt x (by simp [hx])) trodAll_mk0))), rfl, bel.frame _, fun h => by cases h⟩
theorem pIn : (Rows.fnExactAnswerRow.inPlace == Program.inPlace Tryd.pinned.checked.prog 3) = true := by kernel_rfl
theorem pUn : (Rows.fnExactAnswerRow.unfollowed == Program.unfollowed Tryd.pinned.checked.prog 3) = true := by kernel_rfl
theorem pRe : (Rows.fnExactAnswerRow.recurses == Program.recurses Tryd.pinned.checked.prog 3) = true := by kernel_rfl
theorem pNa : (Rows.fnExactAnswerRow.named == Program.varsNamed Tryd.pinned.checked.prog 3) = true := by kernel_rfl
theorem closed : joinedFacts Tryd.pinned.checked.prog 3 Tryd.f3 Rows.fnExactAnswerSpec Rows.fnExactAnswerRow = true := by
  unfold joinedFacts
  repeat' (with_reducible refine Bool.and_eq_true_iff.2 ⟨?_, ?_⟩)
  all_goals first
    | with_reducible exact pf.mayEnter
    | with_reducible exact pf.lifts
    | (have e : Rows.fnExactAnswerRow.lifted = Rows.fnTrueRow.lifted := rfl
       rw [e]; with_reducible exact pf.lifts)
    | (with_reducible exact pIn)
    | (with_reducible exact pUn)
    | (with_reducible exact pRe)
    | (with_reducible exact pNa)
    | kernel_rfl
theorem said : Rows.FnExactAnswerSaid :=
  OpenClaim.holds_of_wide 3 Tryd.f3 rfl rfl rfl rfl rfl rfl rfl ⟨rfl, rfl, rfl, rfl, rfl⟩ rfl rfl rfl rfl rfl (by kernel_rfl) Tryd.func3 closed
    (of_decide_eq_true (by kernel_rfl)) (by unfold Func.isWrapper; first | (rw [if_pos (by decide +kernel)]; kernel_rfl) | (rw [if_neg (by decide +kernel)]; exact ⟨rfl, rfl⟩))
    (fun os started H enc _ => lifted os started H enc)
/-- No parameter wants a stand-in; the program's own looks are off: what the card asks. -/
theorem plain (f : FuncId) (fn : Func) (hf : Tryd.pinned.checked.prog.funcNamed Rows.fnExactAnswerRow.func = some f) (hfn : Tryd.pinned.checked.prog.funcs[f]? = some fn) :
    false = Tryd.pinned.checked.prog.looks [] ∧ ∀ (j : Nat) t, fn.params[j]? = some t → Tryd.pinned.checked.prog.wantsStandIn t = false := by
  obtain rfl : f = 3 := Option.some.inj ((show Tryd.prog.funcNamed Rows.fnExactAnswerRow.func = some 3 by kernel_rfl).symm.trans hf) |>.symm
  obtain rfl : fn = Tryd.f3 := (Option.some.inj (Tryd.func3.symm.trans hfn)).symm
  refine ⟨by kernel_rfl, fun j t ht => ?_⟩
  rw [Tryd.params3] at ht
  have hm : t ∈ [3, 22, 23] := by simpa using Array.mem_of_getElem? ht
  have hall : ([3, 22, 23].all fun u => !Tryd.prog.wantsStandIn u) = true := by kernel_rfl
  exact (show Tryd.prog.wantsStandIn t = false by simpa using List.all_eq_true.1 hall t hm)
theorem card : Rows.FnExactAnswerCardSaid :=
  Claim7.holds_tied_plain_at .later [] _ _ _ _ said (fun _ h => by cases h) (by kernel_rfl) (fun _ h => by cases h) fnExactAnswer_row_tie rfl ⟨rfl, rfl⟩ (by kernel_rfl) rfl plain (by kernel_rfl)
end Go.Proofs.YtpoedfmkiiijnaaDoor.rFnExactAnswer
namespace Go.Proofs.YtpoedfmkiiijnaaDoor
/-- The card, under a short name, for the claim. -/
theorem fnExactAnswerCard_holds : Rows.FnExactAnswerCardSaid := rFnExactAnswer.card
end Go.Proofs.YtpoedfmkiiijnaaDoor
