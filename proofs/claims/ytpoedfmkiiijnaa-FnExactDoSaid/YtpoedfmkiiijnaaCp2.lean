/- Clones of plain elements. Walks; printed by gen_cp.py of this repo. -/
import Derived.Test.YtpoedfmkiiijnaaSy
import Derived.Test.YtpoedfmkiiijnaaCp1
namespace Go.Proofs.Ytpoedfmkiiijnaa
open Go Go.RowKit Go.Proofs.YtpoedfmkiiijnaaAm
set_option linter.unusedVariables false
set_option linter.unusedSimpArgs false
set_option maxRecDepth 10000
set_option maxHeartbeats 4000000

def B127 : SC := .seq (.reg [⟨some 2, .assign (.const (.slice none 0 0)), none, []⟩]) (.seq (.seq (.reg [⟨some 3, .move (.tmp 0), none, []⟩, ⟨some 4, .binOp .eql 40 (.tmp 3) (.const (.slice none 0 0)) 40, none, []⟩]) (.cond (.tmp 4) (.seq (.reg [⟨some 2, .assign (.const (.slice none 0 0)), none, []⟩]) .ret) .skip)) (.seq (.reg [⟨some 5, .buildSlice 40 0 #[], none, []⟩, ⟨some 6, .move (.tmp 0), none, []⟩, ⟨some 7, .call { callee := (.builtin .append), args := #[(.tmp 5), (.tmp 6)], argTypes := #[40, 40] }, none, []⟩, ⟨some 2, .assign (.tmp 7), none, []⟩]) .ret))
theorem s127 : Try.f127.body.bind (stripC 8) = some B127 := by kernel_rfl
theorem cloneI_mk {H : Heap} {E : List Nat} {v : Value} {xs : List Int} (h : RS 1 RInt H E v xs) (hb : xs.length ≤ 1048576) : Mkr Try.prog 127 [v] H fun H' E' v' => RW 3 1 RInt H' E' v' xs := by
  refine Mkr.of_bodyS (N := 8) Try.func127 s127 (by kernel_rfl) rfl rfl (by simp) ?_; unfold B127
  by_cases hn : v = nl
  · subst hn
    obtain rfl := h.nilx
    repeat (first | refine sk_seq ?_ | refine sk_block ?_ | refine sk_blk ?_ | refine sk_skip ?_ | refine sk_exit rfl ?_ | refine sk_cond_t rfl ?_ | refine sk_cond_f rfl ?_ | (refine sk_reg fun K hK => ?_; simp; refine hK _ ?_; clear hK K) | (refine sk_drw mix fun K hK => ?_; simp; refine hK _ ?_; clear hK K))
    refine sk_ret ?_; simp
    exact ⟨[], .inl ⟨rfl, rfl, rfl⟩, ⟨List.nodup_nil, fun i hi => by simp at hi⟩, fun i hi => by simp at hi⟩
  · obtain ⟨k, v', H2, E', e1, e2, e3, e4, e5, e6⟩ := clone_app (P := Try.prog) (t := 40) (e := 3) (sz := 0) (by' := 8) (z := iv 0) (by simp) (by simp) (by simp) (by simp) rfl (g := cInt) (fun _ => rfl) h (by omega) (by simp [maxLen]; omega)
    obtain ⟨a, c, rfl⟩ := h.some hn
    repeat (first | refine sk_seq ?_ | refine sk_block ?_ | refine sk_blk ?_ | refine sk_skip ?_ | refine sk_exit rfl ?_ | refine sk_cond_t rfl ?_ | refine sk_cond_f rfl ?_ | (refine sk_reg fun K hK => ?_; simp [e1, e2]; refine hK _ ?_; clear hK K) | (refine sk_drw mix fun K hK => ?_; simp [e1, e2]; refine hK _ ?_; clear hK K))
    refine sk_ret ?_; simp
    exact ⟨e3.len, fun i hi => e3.same hi, E', e4, e5, e6⟩

def B128 : SC := .seq (.reg [⟨some 2, .assign (.const (.slice none 0 0)), none, []⟩]) (.seq (.seq (.reg [⟨some 3, .move (.tmp 0), none, []⟩, ⟨some 4, .binOp .eql 41 (.tmp 3) (.const (.slice none 0 0)) 41, none, []⟩]) (.cond (.tmp 4) (.seq (.reg [⟨some 2, .assign (.const (.slice none 0 0)), none, []⟩]) .ret) .skip)) (.seq (.reg [⟨some 5, .buildSlice 41 0 #[], none, []⟩, ⟨some 6, .move (.tmp 0), none, []⟩, ⟨some 7, .call { callee := (.builtin .append), args := #[(.tmp 5), (.tmp 6)], argTypes := #[41, 41] }, none, []⟩, ⟨some 2, .assign (.tmp 7), none, []⟩]) .ret))
theorem s128 : Try.f128.body.bind (stripC 8) = some B128 := by kernel_rfl
theorem cloneG_mk {H : Heap} {E : List Nat} {v : Value} {xs : List Gr} (h : RS 2 RGr H E v xs) (hb : xs.length ≤ 1048576) : Mkr Try.prog 128 [v] H fun H' E' v' => RW 45 2 RGr H' E' v' xs := by
  refine Mkr.of_bodyS (N := 8) Try.func128 s128 (by kernel_rfl) rfl rfl (by simp) ?_; unfold B128
  by_cases hn : v = nl
  · subst hn
    obtain rfl := h.nilx
    repeat (first | refine sk_seq ?_ | refine sk_block ?_ | refine sk_blk ?_ | refine sk_skip ?_ | refine sk_exit rfl ?_ | refine sk_cond_t rfl ?_ | refine sk_cond_f rfl ?_ | (refine sk_reg fun K hK => ?_; simp; refine hK _ ?_; clear hK K) | (refine sk_drw mix fun K hK => ?_; simp; refine hK _ ?_; clear hK K))
    refine sk_ret ?_; simp
    exact ⟨[], .inl ⟨rfl, rfl, rfl⟩, ⟨List.nodup_nil, fun i hi => by simp at hi⟩, fun i hi => by simp at hi⟩
  · obtain ⟨k, v', H2, E', e1, e2, e3, e4, e5, e6⟩ := clone_app (P := Try.prog) (t := 41) (e := 45) (sz := 1) (by' := 16) (z := .agg #[iv 0, iv 0]) (by simp) (by simp) (by simp) (by simp) rfl (g := cGr) (fun _ => rfl) h (by omega) (by simp [maxLen]; omega)
    obtain ⟨a, c, rfl⟩ := h.some hn
    repeat (first | refine sk_seq ?_ | refine sk_block ?_ | refine sk_blk ?_ | refine sk_skip ?_ | refine sk_exit rfl ?_ | refine sk_cond_t rfl ?_ | refine sk_cond_f rfl ?_ | (refine sk_reg fun K hK => ?_; simp [e1, e2]; refine hK _ ?_; clear hK K) | (refine sk_drw mix fun K hK => ?_; simp [e1, e2]; refine hK _ ?_; clear hK K))
    refine sk_ret ?_; simp
    exact ⟨e3.len, fun i hi => e3.same hi, E', e4, e5, e6⟩

def B135 : SC := .seq (.reg [⟨some 2, .assign (.const (.slice none 0 0)), none, []⟩]) (.seq (.seq (.reg [⟨some 3, .move (.tmp 0), none, []⟩, ⟨some 4, .binOp .eql 62 (.tmp 3) (.const (.slice none 0 0)) 62, none, []⟩]) (.cond (.tmp 4) (.seq (.reg [⟨some 2, .assign (.const (.slice none 0 0)), none, []⟩]) .ret) .skip)) (.seq (.reg [⟨some 5, .buildSlice 62 0 #[], none, []⟩, ⟨some 6, .move (.tmp 0), none, []⟩, ⟨some 7, .call { callee := (.builtin .append), args := #[(.tmp 5), (.tmp 6)], argTypes := #[62, 62] }, none, []⟩, ⟨some 2, .assign (.tmp 7), none, []⟩]) .ret))
theorem s135 : Try.f135.body.bind (stripC 8) = some B135 := by kernel_rfl
theorem cloneB_mk {H : Heap} {E : List Nat} {v : Value} {xs : List Bd} (h : RS 4 RBd H E v xs) (hb : xs.length ≤ 1048576) : Mkr Try.prog 135 [v] H fun H' E' v' => RW 72 4 RBd H' E' v' xs := by
  refine Mkr.of_bodyS (N := 8) Try.func135 s135 (by kernel_rfl) rfl rfl (by simp) ?_; unfold B135
  by_cases hn : v = nl
  · subst hn
    obtain rfl := h.nilx
    repeat (first | refine sk_seq ?_ | refine sk_block ?_ | refine sk_blk ?_ | refine sk_skip ?_ | refine sk_exit rfl ?_ | refine sk_cond_t rfl ?_ | refine sk_cond_f rfl ?_ | (refine sk_reg fun K hK => ?_; simp; refine hK _ ?_; clear hK K) | (refine sk_drw mix fun K hK => ?_; simp; refine hK _ ?_; clear hK K))
    refine sk_ret ?_; simp
    exact ⟨[], .inl ⟨rfl, rfl, rfl⟩, ⟨List.nodup_nil, fun i hi => by simp at hi⟩, fun i hi => by simp at hi⟩
  · obtain ⟨k, v', H2, E', e1, e2, e3, e4, e5, e6⟩ := clone_app (P := Try.prog) (t := 62) (e := 72) (sz := 3) (by' := 32) (z := .agg #[iv 0, iv 0, iv 0, iv 0]) (by simp) (by simp) (by simp) (by simp) rfl (g := cBd) (fun _ => rfl) h (by omega) (by simp [maxLen]; omega)
    obtain ⟨a, c, rfl⟩ := h.some hn
    repeat (first | refine sk_seq ?_ | refine sk_block ?_ | refine sk_blk ?_ | refine sk_skip ?_ | refine sk_exit rfl ?_ | refine sk_cond_t rfl ?_ | refine sk_cond_f rfl ?_ | (refine sk_reg fun K hK => ?_; simp [e1, e2]; refine hK _ ?_; clear hK K) | (refine sk_drw mix fun K hK => ?_; simp [e1, e2]; refine hK _ ?_; clear hK K))
    refine sk_ret ?_; simp
    exact ⟨e3.len, fun i hi => e3.same hi, E', e4, e5, e6⟩

end Go.Proofs.Ytpoedfmkiiijnaa
