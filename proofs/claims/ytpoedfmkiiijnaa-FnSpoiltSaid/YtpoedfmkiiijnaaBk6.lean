/- Owner and Reach. Walks. -/
import Derived.Test.YtpoedfmkiiijnaaGG
namespace Go.Proofs.Ytpoedfmkiiijnaa
open Go Go.RowKit Go.Proofs.YtpoedfmkiiijnaaAm
set_option linter.unusedVariables false
set_option linter.unusedSimpArgs false
set_option maxRecDepth 10000
set_option maxHeartbeats 4000000

def B44 : SC := .seq (.reg [⟨some 2, .box 25 (.tmp 0), none, []⟩, ⟨some 4, .assign (.const (.int .i64 0)), none, []⟩]) (.seq (.seq (.reg [⟨some 5, .load 25 (.tmp 2), none, []⟩, ⟨some 6, .call { callee := (.value (.func 29)), args := #[(.tmp 5)], argTypes := #[25] }, none, []⟩, ⟨some 7, .binOp .neq 3 (.tmp 6) (.const (.int .i64 0)) 3, none, []⟩]) (.cond (.tmp 7) (.seq (.reg [⟨some 4, .assign (.const (.int .i64 (-1))), none, []⟩]) .ret) .skip)) (.seq (.reg [⟨some 8, .load 25 (.tmp 2), none, []⟩, ⟨some 9, .move (.tmp 1), none, []⟩, ⟨some 10, .call { callee := (.value (.func 105)), args := #[(.tmp 8), (.tmp 9)], argTypes := #[25, 3] }, none, []⟩, ⟨some 4, .assign (.tmp 10), none, []⟩]) .ret))
theorem s44 : Try.f44.body.bind (stripC 11) = some B44 := by kernel_rfl
theorem implOwner_ac {H : Heap} {E : List Nat} {b : Bk} {cs : List Value} (h : RBk H E b cs) (s : Int) : AC Try.prog 44 [.agg cs.toArray, iv s] H (iv (ownerB b s)) H [] := by
  have h0 := h
  obtain ⟨v, rfl, hv⟩ := h
  have hx := hv.one
  have bac := fun L : Heap => implBookOk_ac (H := H ++ L) (RBk.frm.ext h0)
  have oac := fun L : Heap => owner_ac (H := H ++ L) (RBk.frm.ext h0) s
  refine AC.of_pureS (N := 11) Try.func44 s44 (by kernel_rfl) rfl rfl (by simp) rfl ?_; unfold B44
  by_cases q : bookOkB b = 0
  · have hr : ownerB b s = ownB b.lines s := by simp [ownerB, q]
    rw [q] at bac
    repeat (first | refine sA ?_ | refine sB ?_ | refine sC ?_ | refine sD ?_ | refine sE rfl ?_ | refine sF rfl ?_ | refine sG rfl ?_ | (refine sk_reg fun K hK => ?_; simp [hx]; (repeat ((first | refine AskX.go (bac _) ?_ | refine AskX.go (oac _) ?_); simp [hx])); refine hK _ ?_; clear hK K))
    refine sk_ret ?_; simp [hr]
  · have hr : ownerB b s = -1 := by simp [ownerB, q]
    repeat (first | refine sA ?_ | refine sB ?_ | refine sC ?_ | refine sD ?_ | refine sE rfl ?_ | refine sF rfl ?_ | refine sG rfl ?_ | (refine sk_reg fun K hK => ?_; simp [hx, q]; (repeat ((first | refine AskX.go (bac _) ?_); simp [hx, q])); refine hK _ ?_; clear hK K))
    refine sk_ret ?_; simp [hr]
theorem lnAt_eq {b : Bk} {i : Nat} (h : i < b.lines.length) : lnAt b i = b.lines[i] := by simp [lnAt, h]
def B37 : SC := .seq (.reg [⟨some 2, .box 25 (.tmp 0), none, []⟩, ⟨some 4, .assign (.const (.int .i64 0)), none, []⟩]) (.seq (.seq (.reg [⟨some 5, .load 25 (.tmp 2), none, []⟩, ⟨some 6, .call { callee := (.value (.func 29)), args := #[(.tmp 5)], argTypes := #[25] }, none, []⟩, ⟨some 7, .binOp .neq 3 (.tmp 6) (.const (.int .i64 0)) 3, none, []⟩, ⟨some 8, .move (.tmp 7), none, []⟩, ⟨some 9, .move (.tmp 1), some (8, false), []⟩, ⟨some 10, .fieldAddr 25 (.tmp 2) 2, some (8, false), []⟩, ⟨some 11, .load 23 (.tmp 10), some (8, false), []⟩, ⟨some 12, .call { callee := (.builtin .len), args := #[(.tmp 11)], argTypes := #[23] }, some (8, false), []⟩, ⟨some 13, .binOp .sub 3 (.tmp 12) (.const (.int .i64 1)) 3, some (8, false), []⟩, ⟨some 14, .call { callee := (.value (.func 84)), args := #[(.tmp 9), (.const (.int .i64 0)), (.tmp 13)], argTypes := #[3, 3, 3] }, some (8, false), []⟩, ⟨some 15, .unOp .not 4 (.tmp 14), some (8, false), []⟩, ⟨some 16, .pick (.tmp 8) (.const (.bool true)) (.tmp 15), none, []⟩]) (.cond (.tmp 16) (.seq (.reg [⟨some 4, .assign (.const (.int .i64 (-1))), none, []⟩]) .ret) .skip)) (.seq (.reg [⟨some 17, .fieldAddr 25 (.tmp 2) 2, none, []⟩, ⟨some 18, .load 23 (.tmp 17), none, []⟩, ⟨some 19, .move (.tmp 1), none, []⟩, ⟨some 20, .indexAddr 23 (.tmp 18) (.tmp 19), none, []⟩, ⟨some 21, .fieldAddr 43 (.tmp 20) 2, none, []⟩, ⟨some 22, .load 41 (.tmp 21), none, []⟩, ⟨some 23, .call { callee := (.value (.func 92)), args := #[(.tmp 22)], argTypes := #[41] }, none, []⟩, ⟨some 4, .assign (.tmp 23), none, []⟩]) .ret))
theorem s37 : Try.f37.body.bind (stripC 24) = some B37 := by kernel_rfl
theorem implReach_ac {H : Heap} {E : List Nat} {b : Bk} {cs : List Value} (h : RBk H E b cs) (t : Int) : AC Try.prog 37 [.agg cs.toArray, iv t] H (iv (reachB b t)) H [] := by
  have h0 := h
  obtain ⟨v, rfl, hv⟩ := h
  obtain ⟨a0, c0, rfl⟩ := hv.form
  have hn := hv.1
  have bac := fun L : Heap => implBookOk_ac (H := H ++ L) (RBk.frm.ext h0)
  have hwl := wrap_id (x := (b.lines.length : Int) - 1) (by omega) (by omega)
  refine AC.of_pureS (N := 24) Try.func37 s37 (by kernel_rfl) rfl rfl (by simp) rfl ?_; unfold B37
  by_cases q0 : bookOkB b = 0
  case neg =>
    have hr : reachB b t = -1 := by simp [reachB, q0]
    repeat (first | refine sA ?_ | refine sB ?_ | refine sC ?_ | refine sD ?_ | refine sE rfl ?_ | refine sF rfl ?_ | refine sG rfl ?_ | (refine sk_reg fun K hK => ?_; simp [q0]; (repeat ((first | refine AskX.go (bac _) ?_); simp [q0])); refine hK _ ?_; clear hK K))
    refine sk_ret ?_; simp [hr]
  rw [q0] at bac
  cases q1 : inB t 0 ((b.lines.length : Int) - 1)
  · have hr : reachB b t = -1 := by simp [reachB, q1]
    repeat (first | refine sA ?_ | refine sB ?_ | refine sC ?_ | refine sD ?_ | refine sE rfl ?_ | refine sF rfl ?_ | refine sG rfl ?_ | (refine sk_reg fun K hK => ?_; simp [hwl, q1]; (repeat ((first | refine AskX.go (bac _) ?_ | refine AskX.go (in_ac _ _ _) ?_); simp [hwl, q1])); refine hK _ ?_; clear hK K))
    refine sk_ret ?_; simp [hr]
  have hq := q1
  simp only [inB, Bool.and_eq_true, decide_eq_true_eq] at hq
  obtain ⟨i, rfl⟩ : ∃ i : Nat, t = i := ⟨t.toNat, by omega⟩
  have hi : i < b.lines.length := by omega
  have hr : reachB b i = reachL b.lines[i].grs := by simp [reachB, q0, q1, lnAt_eq hi]
  obtain ⟨id, o, v1, v2, E1, E2, hve, hid, d0, d1, d2, d3, hw1, hw2, x1, x2, _⟩ := hv.line hi
  cases hve
  repeat (first | refine sA ?_ | refine sB ?_ | refine sC ?_ | refine sD ?_ | refine sE rfl ?_ | refine sF rfl ?_ | refine sG rfl ?_ | (refine sk_reg fun K hK => ?_; simp [hwl, q1, hi, d2.s]; (repeat ((first | refine AskX.go (bac _) ?_ | refine AskX.go (in_ac _ _ _) ?_ | refine AskX.go (reach_ac (hw2.ext (RP.frm _))) ?_); simp [hwl, q1, hi, d2.s])); refine hK _ ?_; clear hK K))
  refine sk_ret ?_; simp [hr]
def B36 : SC := .seq (.reg [⟨some 2, .box 25 (.tmp 0), none, []⟩, ⟨some 4, .assign (.const (.int .i64 0)), none, []⟩]) (.seq (.seq (.reg [⟨some 5, .load 25 (.tmp 2), none, []⟩, ⟨some 6, .call { callee := (.value (.func 34)), args := #[(.tmp 5)], argTypes := #[25] }, none, []⟩, ⟨some 7, .binOp .neq 3 (.tmp 6) (.const (.int .i64 0)) 3, none, []⟩, ⟨some 8, .move (.tmp 7), none, []⟩, ⟨some 9, .move (.tmp 1), some (8, false), []⟩, ⟨some 10, .fieldAddr 25 (.tmp 2) 2, some (8, false), []⟩, ⟨some 11, .load 23 (.tmp 10), some (8, false), []⟩, ⟨some 12, .call { callee := (.builtin .len), args := #[(.tmp 11)], argTypes := #[23] }, some (8, false), []⟩, ⟨some 13, .binOp .sub 3 (.tmp 12) (.const (.int .i64 1)) 3, some (8, false), []⟩, ⟨some 14, .call { callee := (.value (.func 83)), args := #[(.tmp 9), (.const (.int .i64 0)), (.tmp 13)], argTypes := #[3, 3, 3] }, some (8, false), []⟩, ⟨some 15, .unOp .not 4 (.tmp 14), some (8, false), []⟩, ⟨some 16, .pick (.tmp 8) (.const (.bool true)) (.tmp 15), none, []⟩]) (.cond (.tmp 16) (.seq (.reg [⟨some 4, .assign (.const (.int .i64 (-1))), none, []⟩]) .ret) .skip)) (.seq (.reg [⟨some 17, .fieldAddr 25 (.tmp 2) 2, none, []⟩, ⟨some 18, .load 23 (.tmp 17), none, []⟩, ⟨some 19, .move (.tmp 1), none, []⟩, ⟨some 20, .indexAddr 23 (.tmp 18) (.tmp 19), none, []⟩, ⟨some 21, .load 43 (.tmp 20), none, []⟩, ⟨some 22, .call { callee := (.value (.func 98)), args := #[(.tmp 21)], argTypes := #[43] }, none, []⟩, ⟨some 4, .assign (.tmp 22), none, []⟩]) .ret))
theorem s36 : Try.f36.body.bind (stripC 23) = some B36 := by kernel_rfl
theorem specReach_ac {H : Heap} {E : List Nat} {b : Bk} {cs : List Value} (h : RBk H E b cs) (t : Int) : AC Try.prog 36 [.agg cs.toArray, iv t] H (iv (reachB b t)) H [] := by
  have h0 := h
  obtain ⟨v, rfl, hv⟩ := h
  obtain ⟨a0, c0, rfl⟩ := hv.form
  have hn := hv.1
  have bac := fun L : Heap => specBookOk_ac (H := H ++ L) (RBk.frm.ext h0)
  have hwl := wrap_id (x := (b.lines.length : Int) - 1) (by omega) (by omega)
  refine AC.of_pureS (N := 23) Try.func36 s36 (by kernel_rfl) rfl rfl (by simp) rfl ?_; unfold B36
  by_cases q0 : bookOkB b = 0
  case neg =>
    have hr : reachB b t = -1 := by simp [reachB, q0]
    repeat (first | refine sA ?_ | refine sB ?_ | refine sC ?_ | refine sD ?_ | refine sE rfl ?_ | refine sF rfl ?_ | refine sG rfl ?_ | (refine sk_reg fun K hK => ?_; simp [q0]; (repeat ((first | refine AskX.go (bac _) ?_); simp [q0])); refine hK _ ?_; clear hK K))
    refine sk_ret ?_; simp [hr]
  rw [q0] at bac
  cases q1 : inB t 0 ((b.lines.length : Int) - 1)
  · have hr : reachB b t = -1 := by simp [reachB, q1]
    repeat (first | refine sA ?_ | refine sB ?_ | refine sC ?_ | refine sD ?_ | refine sE rfl ?_ | refine sF rfl ?_ | refine sG rfl ?_ | (refine sk_reg fun K hK => ?_; simp [hwl, q1]; (repeat ((first | refine AskX.go (bac _) ?_ | refine AskX.go (l1in_ac _ _ _) ?_); simp [hwl, q1])); refine hK _ ?_; clear hK K))
    refine sk_ret ?_; simp [hr]
  have hq := q1
  simp only [inB, Bool.and_eq_true, decide_eq_true_eq] at hq
  obtain ⟨i, rfl⟩ : ∃ i : Nat, t = i := ⟨t.toNat, by omega⟩
  have hi : i < b.lines.length := by omega
  have hr : reachB b i = reachL b.lines[i].grs := by simp [reachB, q0, q1, lnAt_eq hi]
  obtain ⟨id, o, v1, v2, E1, E2, hve, hid, d0, d1, d2, d3, hw1, hw2, x1, x2, _⟩ := hv.line hi
  cases hve
  obtain ⟨a1, c1, rfl⟩ := hw1.form
  repeat (first | refine sA ?_ | refine sB ?_ | refine sC ?_ | refine sD ?_ | refine sE rfl ?_ | refine sF rfl ?_ | refine sG rfl ?_ | (refine sk_reg fun K hK => ?_; simp [hwl, q1, hi, d0.s, d1.s, d2.s, d3.s]; (repeat ((first | refine AskX.go (bac _) ?_ | refine AskX.go (l1in_ac _ _ _) ?_ | refine AskX.go (l1most_ac ⟨_, _, _, rfl⟩ (hw2.ext (RP.frm _))) ?_); simp [hwl, q1, hi, d0.s, d1.s, d2.s, d3.s])); refine hK _ ?_; clear hK K))
  refine sk_ret ?_; simp [hr]
end Go.Proofs.Ytpoedfmkiiijnaa
