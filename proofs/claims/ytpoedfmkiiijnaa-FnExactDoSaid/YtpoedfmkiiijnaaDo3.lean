/- Do of the program. A walk. -/
import Derived.Test.YtpoedfmkiiijnaaDo2
namespace Go.Proofs.Ytpoedfmkiiijnaa
open Go Go.RowKit Go.Proofs.YtpoedfmkiiijnaaAm
set_option linter.unusedVariables false
set_option linter.unusedSimpArgs false
set_option maxRecDepth 10000
set_option maxHeartbeats 8000000
theorem evOk_book {b : Bk} {e : Evt} (h : evOkB b e = true) : bookOkB b = 0 := by
  simp only [evOkB, Bool.and_eq_true, decide_eq_true_eq] at h
  exact h.1
def B32 : SC := .seq (.reg [⟨some 2, .box 25 (.tmp 0), none, []⟩, ⟨some 3, .box 49 (.tmp 1), none, []⟩, ⟨some 4, .alloc 39, none, []⟩]) (.seq (.seq (.reg [⟨some 5, .load 25 (.tmp 2), none, []⟩, ⟨some 6, .load 49 (.tmp 3), none, []⟩, ⟨some 7, .call { callee := (.value (.func 40)), args := #[(.tmp 5), (.tmp 6)], argTypes := #[25, 49] }, none, []⟩, ⟨some 8, .unOp .not 4 (.tmp 7), none, []⟩]) (.cond (.tmp 8) (.seq (.reg [⟨some 9, .build 39 #[(0, (.const (.int .i64 1)))], none, []⟩, ⟨none, .store 39 (.tmp 4) (.tmp 9), none, []⟩]) .ret) .skip)) (.seq (.reg [⟨some 10, .load 25 (.tmp 2), none, []⟩, ⟨some 11, .load 49 (.tmp 3), none, []⟩, ⟨some 12, .call { callee := (.value (.func 94)), args := #[(.tmp 10), (.tmp 11)], argTypes := #[25, 49] }, none, []⟩, ⟨none, .store 39 (.tmp 4) (.tmp 12), none, []⟩]) .ret))
theorem s32 : Try.f32.body.bind (stripC 13) = some B32 := by kernel_rfl
theorem implDoX_mk {H : Heap} {E : List Nat} {b : Bk} {cs : List Value} (h : RBk H E b cs) (e : Evt) : Mkr Try.prog 32 [.agg cs.toArray, vEv e] H fun H' E' v' => ∃ cs', v' = .agg cs'.toArray ∧ RDn H' E' (doB b e) cs' := by
  have h0 := h
  obtain ⟨v, rfl, hv⟩ := h
  have x := hv.one
  have eac := fun L : Heap => implEventOk_ac (H := H ++ L) (RBk.frm.ext h0) e
  refine Mkr.of_bodyS (N := 13) Try.func32 s32 (by kernel_rfl) rfl rfl (by simp) ?_; unfold B32
  by_cases q : evOkB b e = true
  case neg =>
    have q' : evOkB b e = false := by simpa using q
    have hd : doB b e = ⟨1, bk0⟩ := by simp [doB, q']
    rw [q'] at eac
    repeat (first | refine sk_seq ?_ | refine sk_block ?_ | refine sk_blk ?_ | refine sk_skip ?_ | refine sk_exit rfl ?_ | refine sk_cond_t rfl ?_ | refine sk_cond_f rfl ?_ | (refine sk_reg fun K hK => ?_; simp [x]; (repeat (first | (refine AskX.go (eac _) ?_; simp [x]))); refine hK _ ?_; clear hK K) | (refine sk_drw mix fun K hK => ?_; simp [x]; (repeat (first | (refine AskD.go (eac _) ?_; simp [x]))); refine hK _ ?_; clear hK K))
    refine sk_ret ?_; simp
    rw [hd]
    exact ⟨fun i hi => List.getElem?_append_left hi, [], ⟨_, rfl, _, rfl, ⟨by simp [bk0], .inl ⟨.inl rfl, rfl, rfl⟩⟩⟩, ⟨List.nodup_nil, fun i hi => by simp at hi⟩, fun i hi => by simp at hi⟩
  have hd : doB b e = doV b e := by simp [doB, q]
  rw [q] at eac
  rw [hd]
  repeat (first | refine sk_seq ?_ | refine sk_block ?_ | refine sk_blk ?_ | refine sk_skip ?_ | refine sk_exit rfl ?_ | refine sk_cond_t rfl ?_ | refine sk_cond_f rfl ?_ | (refine sk_reg fun K hK => ?_; simp [x]; (repeat (first | (refine AskX.go (eac _) ?_; simp [x]))); refine hK _ ?_; clear hK K) | (refine sk_drw mix fun K hK => ?_; simp [x]; (repeat (first | (refine AskD.go (eac _) ?_; simp [x]))); refine hK _ ?_; clear hK K))
  refine sk_reg fun K hK => ?_; simp [x]
  refine AskX.mkr (implDo_mk (RBk.frm.gro h0 (by first | exact Gro.refl _ | exact ⟨_, rfl⟩ | exact ⟨_, by simp only [List.append_assoc, List.cons_append, List.nil_append]; rfl⟩ | exact ⟨[], by simp⟩)) e (evOk_book q) q) ?_; rintro _ J A ⟨_, rfl, _, rfl, w, rfl, r⟩ o n; simp [x, r.one, r.cv]
  refine hK _ ?_; clear hK K
  repeat (first | refine sk_seq ?_ | refine sk_block ?_ | refine sk_blk ?_ | refine sk_skip ?_ | refine sk_exit rfl ?_ | refine sk_cond_t rfl ?_ | refine sk_cond_f rfl ?_ | (refine sk_reg fun K hK => ?_; simp; refine hK _ ?_; clear hK K) | (refine sk_drw mix fun K hK => ?_; simp; refine hK _ ?_; clear hK K))
  refine sk_ret ?_; simp [r.one, r.cv]
  simp only [List.append_assoc, List.cons_append, List.nil_append, List.length_append, List.length_cons, List.length_nil] at r o n
  have n' : ∀ e, e ∈ A → H.length + 3 ≤ e := fun e he => by have := n e he; omega
  refine ⟨fun i hi => List.getElem?_append_left hi, A, ⟨_, rfl, _, rfl, r.fr RLn.frm fun e he _ => ?_⟩, o.fr fun e he => ?_, fun e he => by have := n' e he; omega⟩
  · rw [get_t3 _ _ _ _ _ (n' e he), get_t3 _ _ _ _ _ (n' e he)]
  · rw [get_t3 _ _ _ _ _ (n' e he), get_t3 _ _ _ _ _ (n' e he)]
end Go.Proofs.Ytpoedfmkiiijnaa
