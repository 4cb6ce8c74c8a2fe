/- The statement FnExactDrive: its row, out of the walk. Printed by gen_row.py of this repo. -/
import Derived.Test.YtpoedfmkiiijnaaRows
import Derived.Test.YtpoedfmkiiijnaaLwH
import Derived.Test.YtpoedfmkiiijnaaGD
import Derived.Test.YtpoedfmkiiijnaaGP
import Derived.ProofKit
import Derived.OpenShut
import Derived.ShutString
import Derived.ChangeOld
import Derived.Below
import Derived.Carry
import Derived.SizedLaws
namespace Go.Proofs.Ytpoedfmkiiijnaa.rFnExactDrive
open Go Go.ChangeShapes Go.WideShapes Go.ChangeAt Go.RowKit
open Go.Proofs.YtpoedfmkiiijnaaAm (AC.law HR.none VRs.ints iv VR VRs HRi HRi.none Rdb Phi.le_refl Phi.le_trans RLn.frm RBk.frm RWd.frm RWdR.frm RPp.frm RP.frm RS.ext Frm.ext VR.mono VRs.cons VRs.nil)
set_option linter.unusedVariables false
set_option linter.unusedSimpArgs false
theorem own : ownKnob Try.prog.godebug = none := by kernel_rfl
theorem laid : laidOutB Try.prog = true := by kernel_rfl
set_option maxRecDepth 100000 in
theorem lifted (os : Os) (started : os.Started) (H : Type) (enc : TypeId × Value → H) :
    ReturnsInHanded {} Try.checked os 19 .any (Rows.fnExactDriveSpec.pre6 enc Try.prog Try.f19 Rows.fnExactDriveRow.domain false) (Rows.fnExactDriveSpec.post enc Try.prog Try.f19 false true false false) := by
  refine returnsInHanded_of_change_sized (C := Try.checked) own started (by kernel_rfl) Try.func19
    (ChangeSpec.witness6 (enc := enc) (C := Try.checked) false ⟨#[], #[.int .i64 0, .slice none 0 0, .slice none 0 0], []⟩ 8 (by kernel_rfl) (by kernel_rfl) (by kernel_rfl) (by kernel_rfl)) ?_
  intro W base args ds gs before hval0 hW hcnd hsz0 _
  have hval : ∀ (j : Nat) t v, Try.f19.params[j]? = some t → args[j]? = some v → Value.okWide Try.prog W .any base t v := hval0
  have hW' := hW
  obtain ⟨p, q, hA0, hV, rfl, hfz, hnd⟩ := hW
  have hA : DataW.TrodAll enc Try.prog W 0 (fun _ => true) true Try.f19.params.toList args.toList ds p := hA0
  have hsz : (DataW.weightsEach Try.prog (Try.f19.params.toList ++ Rows.fnExactDriveSpec.plain.varTypes Try.prog) (ds ++ gs)).all (· ≤ reachBytes) = true := hsz0
  rw [Try.params19] at hA hval hsz
  obtain ⟨v0, vs0, d0, ds0, p0, q0, hargs, rfl, rfl, h0, r0⟩ := trodAll_cons hA
  obtain ⟨v1, vs1, d1, ds1, p1, q1, rfl, rfl, rfl, h1, r1⟩ := trodAll_cons r0
  obtain ⟨v2, vs2, d2, ds2, p2, q2, rfl, rfl, rfl, h2, r2⟩ := trodAll_cons r1
  obtain ⟨rfl, rfl, rfl⟩ := trodAll_nil r2
  obtain rfl : args = #[v0, v1, v2] := by cases args; simp_all
  obtain ⟨rfl, rfl⟩ := trodVars_none hV
  have hlt : ∀ x, x ∈ p0 ++ p1 ++ p2 → x.block < W.heap.size := fun x hx => hW'.lt x (by simpa using hx)
  simp only [List.append_nil, List.cons_append, List.nil_append, DataW.weightsEach, List.all_append, Bool.and_eq_true, Array.toList] at hsz
  obtain ⟨z0, z1, z2, _⟩ := hsz
  clear hA0 hval0 hsz0
  obtain ⟨a0, rfl, rfl, rfl, w0⟩ := open_int Try.underlying3 (hval 0 3 v0 rfl rfl) h0
  have i0 : HRi Try.prog W (fun _ => none) [] := HRi.none _ _
  obtain ⟨fu1, hf1⟩ := h1
  obtain ⟨φ1, J1, x1, xs1, E1, i1, l1, ⟨u1, rfl, R1⟩, V1⟩ := lays_ints (enc := enc) (W := W) _ _ _ ⟨fu1, _, hf1, z1⟩ i0
  obtain ⟨aa1, ln1, cp1, rfl⟩ := okWide_slice Try.underlying40 (hval 1 40 v1 rfl rfl)
  obtain ⟨y1, _, ey1, V1, _⟩ := V1.inv
  simp [Value.cells] at ey1
  obtain ⟨rfl, _⟩ := ey1
  obtain ⟨fu2, hf2⟩ := h2
  obtain ⟨φ2, J2, x2, xs2, E2, i2, l2, ⟨u2, rfl, R2⟩, V2⟩ := lays_acsR (enc := enc) (W := W) _ _ _ ⟨fu2, _, hf2, z2⟩ i1
  obtain ⟨aa2, ln2, cp2, rfl⟩ := okWide_slice Try.underlying103 (hval 2 103 v2 rfl rfl)
  obtain ⟨y2, _, ey2, V2, _⟩ := V2.inv
  simp [Value.cells] at ey2
  obtain ⟨rfl, _⟩ := ey2
  have R1 := R1.ext (L := J2) (RP.frm _)
  have V1 := V1.mono l2
  refine ((lawDrive_ac R1 R2 a0).law i2.hr (VRs.cons (.int _ _) (VRs.cons V1 (VRs.cons V2 (VRs.nil _))))).mono fun e W' ⟨he, bel⟩ => ?_
  subst he
  exact ⟨_, rfl, _, _, _, [], _, [], hW', trodAll_mk1 (shut_bool Try.underlying4 _), (trodAll_cons_mk (shut_int Try.underlying3 w0) (trodAll_cons_mk (Below.trod laid (by kernel_rfl) (of_decide_eq_true (by kernel_rfl)) ⟨fu1, hf1⟩ bel fun x hx => hlt x (by simp [hx])) (trodAll_cons_mk (Below.trod laid (by kernel_rfl) (of_decide_eq_true (by kernel_rfl)) ⟨fu2, hf2⟩ bel fun x hx => hlt x (by simp [hx])) trodAll_mk0))), rfl, bel.frame _, fun h => by cases h⟩
theorem pIn : (Rows.fnExactDriveRow.inPlace == Program.inPlace Try.pinned.checked.prog 19) = true := by kernel_rfl
theorem pUn : (Rows.fnExactDriveRow.unfollowed == Program.unfollowed Try.pinned.checked.prog 19) = true := by kernel_rfl
theorem pRe : (Rows.fnExactDriveRow.recurses == Program.recurses Try.pinned.checked.prog 19) = true := by kernel_rfl
theorem pNa : (Rows.fnExactDriveRow.named == Program.varsNamed Try.pinned.checked.prog 19) = true := by kernel_rfl
theorem closed : joinedFacts Try.pinned.checked.prog 19 Try.f19 Rows.fnExactDriveSpec Rows.fnExactDriveRow = true := by
  unfold joinedFacts
  repeat' (with_reducible refine Bool.and_eq_true_iff.2 ⟨?_, ?_⟩)
  all_goals first
    | with_reducible exact pf.mayEnter
    | with_reducible exact pf.lifts
    | (have e : Rows.fnExactDriveRow.lifted = Rows.fnExactDriveRow.lifted := rfl
       rw [e]; with_reducible exact pf.lifts)
    | (with_reducible exact pIn)
    | (with_reducible exact pUn)
    | (with_reducible exact pRe)
    | (with_reducible exact pNa)
    | kernel_rfl
theorem over : Rows.fnExactDriveRow.holds Try.pinned (OpenSpec.ofChange Rows.fnExactDriveSpec) :=
  OpenClaim.holds_of_wide 19 Try.f19 rfl rfl rfl rfl rfl rfl rfl ⟨rfl, rfl, rfl, rfl, rfl⟩ rfl rfl rfl rfl rfl (by kernel_rfl) Try.func19 closed
    (of_decide_eq_true (by kernel_rfl)) (by unfold Func.isWrapper; first | (rw [if_pos (by decide +kernel)]; kernel_rfl) | (rw [if_neg (by decide +kernel)]; exact ⟨rfl, rfl⟩))
    (fun os started H enc _ => lifted os started H enc)
end Go.Proofs.Ytpoedfmkiiijnaa.rFnExactDrive
namespace Go.Proofs.Ytpoedfmkiiijnaa
/-- The row, under a short name, for the claim. -/
theorem fnExactDrive_holds : Rows.FnExactDriveSaid := rFnExactDrive.over
end Go.Proofs.Ytpoedfmkiiijnaa
