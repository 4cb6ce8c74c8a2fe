/- The statement FnSpoilt: its row, out of the walk. Printed by gen_row.py of this repo. -/
import Derived.Test.YtpoedfmkiiijnaaRows
import Derived.Test.YtpoedfmkiiijnaaLwL
import Derived.Test.YtpoedfmkiiijnaaGD
import Derived.Test.YtpoedfmkiiijnaaGP
import Derived.ProofKit
import Derived.OpenShut
import Derived.ShutString
import Derived.ChangeOld
import Derived.Below
import Derived.Carry
import Derived.SizedLaws
namespace Go.Proofs.Ytpoedfmkiiijnaa.rFnSpoilt
open Go Go.ChangeShapes Go.WideShapes Go.ChangeAt Go.RowKit
open Go.Proofs.YtpoedfmkiiijnaaAm (AC.law HR.none VRs.ints iv VR VRs HRi HRi.none Rdb Phi.le_refl Phi.le_trans RLn.frm RBk.frm RWd.frm RWdR.frm RPp.frm RP.frm RS.ext Frm.ext VR.mono VRs.cons VRs.nil)
set_option linter.unusedVariables false
set_option linter.unusedSimpArgs false
theorem own : ownKnob Try.prog.godebug = none := by kernel_rfl
theorem laid : laidOutB Try.prog = true := by kernel_rfl
set_option maxRecDepth 100000 in
theorem lifted (os : Os) (started : os.Started) (H : Type) (enc : TypeId × Value → H) :
    ReturnsInHanded {} Try.checked os 15 .any (Rows.fnSpoiltSpec.pre6 enc Try.prog Try.f15 Rows.fnSpoiltRow.domain false) (Rows.fnSpoiltSpec.post enc Try.prog Try.f15 false true false false) := by
  refine returnsInHanded_of_change_sized (C := Try.checked) own started (by kernel_rfl) Try.func15
    (ChangeSpec.witness6 (enc := enc) (C := Try.checked) false ⟨#[], #[.slice none 0 0], []⟩ 8 (by kernel_rfl) (by kernel_rfl) (by kernel_rfl) (by kernel_rfl)) ?_
  intro W base args ds gs before hval0 hW hcnd hsz0 _
  have hval : ∀ (j : Nat) t v, Try.f15.params[j]? = some t → args[j]? = some v → Value.okWide Try.prog W .any base t v := hval0
  have hW' := hW
  obtain ⟨p, q, hA0, hV, rfl, hfz, hnd⟩ := hW
  have hA : DataW.TrodAll enc Try.prog W 0 (fun _ => true) true Try.f15.params.toList args.toList ds p := hA0
  have hsz : (DataW.weightsEach Try.prog (Try.f15.params.toList ++ Rows.fnSpoiltSpec.plain.varTypes Try.prog) (ds ++ gs)).all (· ≤ reachBytes) = true := hsz0
  rw [Try.params15] at hA hval hsz
  obtain ⟨v0, vs0, d0, ds0, p0, q0, hargs, rfl, rfl, h0, r0⟩ := trodAll_cons hA
  obtain ⟨rfl, rfl, rfl⟩ := trodAll_nil r0
  obtain rfl : args = #[v0] := by cases args; simp_all
  obtain ⟨rfl, rfl⟩ := trodVars_none hV
  have hlt : ∀ x, x ∈ p0 → x.block < W.heap.size := fun x hx => hW'.lt x (by simpa using hx)
  simp only [List.append_nil, List.cons_append, List.nil_append, DataW.weightsEach, List.all_append, Bool.and_eq_true, Array.toList] at hsz
  obtain ⟨z0, _⟩ := hsz
  clear hA0 hval0 hsz0
  have i0 : HRi Try.prog W (fun _ => none) [] := HRi.none _ _
  obtain ⟨fu0, hf0⟩ := h0
  obtain ⟨φ1, J1, x0, xs0, E0, i1, l1, ⟨u0, rfl, R0⟩, V0⟩ := lays_bys (enc := enc) (W := W) _ _ _ ⟨fu0, _, hf0, z0⟩ i0
  obtain ⟨aa0, ln0, cp0, rfl⟩ := okWide_slice Try.underlying30 (hval 0 30 v0 rfl rfl)
  obtain ⟨y0, _, ey0, V0, _⟩ := V0.inv
  simp [Value.cells] at ey0
  obtain ⟨rfl, _⟩ := ey0
  refine ((lawSpoilt_ac R0).law i1.hr (VRs.cons V0 (VRs.nil _))).mono fun e W' ⟨he, bel⟩ => ?_
  subst he
  exact ⟨_, rfl, _, _, _, [], _, [], hW', trodAll_mk1 (shut_bool Try.underlying4 _), (trodAll_cons_mk (Below.trod laid (by kernel_rfl) (of_decide_eq_true (by kernel_rfl)) ⟨fu0, hf0⟩ bel fun x hx => hlt x (by simp [hx])) trodAll_mk0), rfl, bel.frame _, fun h => by cases h⟩
theorem pIn : (Rows.fnSpoiltRow.inPlace == Program.inPlace Try.pinned.checked.prog 15) = true := by kernel_rfl
theorem pUn : (Rows.fnSpoiltRow.unfollowed == Program.unfollowed Try.pinned.checked.prog 15) = true := by kernel_rfl
theorem pRe : (Rows.fnSpoiltRow.recurses == Program.recurses Try.pinned.checked.prog 15) = true := by kernel_rfl
theorem pNa : (Rows.fnSpoiltRow.named == Program.varsNamed Try.pinned.checked.prog 15) = true := by kernel_rfl
theorem closed : joinedFacts Try.pinned.checked.prog 15 Try.f15 Rows.fnSpoiltSpec Rows.fnSpoiltRow = true := by
  unfold joinedFacts
  repeat' (with_reducible refine Bool.and_eq_true_iff.2 ⟨?_, ?_⟩)
  all_goals first
    | with_reducible exact pf.mayEnter
    | with_reducible exact pf.lifts
    | (have e : Rows.fnSpoiltRow.lifted = Rows.fnSpoiltRow.lifted := rfl
       rw [e]; with_reducible exact pf.lifts)
    | (with_reducible exact pIn)
    | (with_reducible exact pUn)
    | (with_reducible exact pRe)
    | (with_reducible exact pNa)
    | kernel_rfl
theorem over : Rows.fnSpoiltRow.holds Try.pinned (OpenSpec.ofChange Rows.fnSpoiltSpec) :=
  OpenClaim.holds_of_wide 15 Try.f15 rfl rfl rfl rfl rfl rfl rfl ⟨rfl, rfl, rfl, rfl, rfl⟩ rfl rfl rfl rfl rfl (by kernel_rfl) Try.func15 closed
    (of_decide_eq_true (by kernel_rfl)) (by unfold Func.isWrapper; first | (rw [if_pos (by decide +kernel)]; kernel_rfl) | (rw [if_neg (by decide +kernel)]; exact ⟨rfl, rfl⟩))
    (fun os started H enc _ => lifted os started H enc)
end Go.Proofs.Ytpoedfmkiiijnaa.rFnSpoilt
namespace Go.Proofs.Ytpoedfmkiiijnaa
/-- The row, under a short name, for the claim. -/
theorem fnSpoilt_holds : Rows.FnSpoiltSaid := rFnSpoilt.over
end Go.Proofs.Ytpoedfmkiiijnaa
