/- Reach of the program. A walk. -/
import Derived.Test.YtpoedfmkiiijnaaDoorGG
namespace Go.Proofs.YtpoedfmkiiijnaaDoor
open Go Go.RowKit Go.Proofs.YtpoedfmkiiijnaaDoorAm
set_option linter.unusedVariables false
set_option linter.unusedSimpArgs false
set_option maxRecDepth 10000
set_option maxHeartbeats 4000000
def B16 : SC := .seq (.reg [⟨some 2, .box 39 (.tmp 0), none, []⟩, ⟨some 4, .assign (.const (.int .i64 0)), none, []⟩]) (.seq (.seq (.reg [⟨some 5, .load 39 (.tmp 2), none, []⟩, ⟨some 6, .call ⟨.value (.func 35), #[.tmp 5], #[39]⟩, none, []⟩, ⟨some 7, .binOp .neq 3 (.tmp 6) (.const (.int .i64 0)) 3, none, []⟩, ⟨some 8, .move (.tmp 7), none, []⟩, ⟨some 9, .move (.tmp 1), some (8, false), []⟩, ⟨some 10, .fieldAddr 39 (.tmp 2) 2, some (8, false), []⟩, ⟨some 11, .load 37 (.tmp 10), some (8, false), []⟩, ⟨some 12, .call ⟨.builtin .len, #[.tmp 11], #[37]⟩, some (8, false), []⟩, ⟨some 13, .binOp .sub 3 (.tmp 12) (.const (.int .i64 1)) 3, some (8, false), []⟩, ⟨some 14, .call ⟨.value (.func 23), #[.tmp 9, .const (.int .i64 0), .tmp 13], #[3, 3, 3]⟩, some (8, false), []⟩, ⟨some 15, .unOp .not 4 (.tmp 14), some (8, false), []⟩, ⟨some 16, .pick (.tmp 8) (.const (.bool true)) (.tmp 15), none, []⟩]) (.cond (.tmp 16) (.seq (.reg [⟨some 4, .assign (.const (.int .i64 (-1))), none, []⟩]) .ret) .skip)) (.seq (.reg [⟨some 17, .fieldAddr 39 (.tmp 2) 2, none, []⟩, ⟨some 18, .load 37 (.tmp 17), none, []⟩, ⟨some 19, .move (.tmp 1), none, []⟩, ⟨some 20, .indexAddr 37 (.tmp 18) (.tmp 19), none, []⟩, ⟨some 21, .fieldAddr 50 (.tmp 20) 2, none, []⟩, ⟨some 22, .load 48 (.tmp 21), none, []⟩, ⟨some 23, .call ⟨.value (.func 24), #[.tmp 22], #[48]⟩, none, []⟩, ⟨some 4, .assign (.tmp 23), none, []⟩]) .ret))
theorem s16 : Tryd.f16.body.bind (stripC 24) = some B16 := by kernel_rfl
theorem implReach_ac {H : Heap} {E : List Nat} {b : Bk} {cs : List Value} (h : RBk H E b cs) (t : Int) : AC Tryd.prog 16 [.agg cs.toArray, iv t] H (iv (reachB b t)) H [] := by
 have h0 := h
 obtain ⟨v, rfl, hv⟩ := h
 obtain ⟨a0, c0, rfl⟩ := hv.form
 have hn := hv.1
 have bac := fun L : Heap => implBookOk_ac (H := H ++ L) (RBk.frm.ext h0)
 have hwl := wrap_id (x := (b.lines.length : Int) - 1) (by omega) (by omega)
 refine AC.of_pureS (N := 24) Tryd.func16 s16 (by kernel_rfl) rfl rfl (by simp) rfl ?_; unfold B16
 by_cases q0 : bookOkB b = 0
 case neg =>
  have hr : reachB b t = -1 := by simp [reachB, q0]
  repeat (first | refine sA ?_ | refine sB ?_ | refine sC ?_ | refine sD ?_ | refine sE rfl ?_ | refine sF rfl ?_ | refine sG rfl ?_ | (refine sk_reg fun K hK => ?_; simp [q0]; (repeat ((first | refine AskX.go (bac _) ?_); simp [q0])); refine hK _ ?_; clear hK K))
  refine sk_ret ?_; simp [hr]
 rw [q0] at bac
 cases q1 : inB t 0 ((b.lines.length : Int) - 1)
 ·have hr : reachB b t = -1 := by simp [reachB, q1]
  repeat (first | refine sA ?_ | refine sB ?_ | refine sC ?_ | refine sD ?_ | refine sE rfl ?_ | refine sF rfl ?_ | refine sG rfl ?_ | (refine sk_reg fun K hK => ?_; simp [hwl, q1]; (repeat ((first | refine AskX.go (bac _) ?_ | refine AskX.go (in_ac _ _ _) ?_); simp [hwl, q1])); refine hK _ ?_; clear hK K))
  refine sk_ret ?_; simp [hr]
 have hq := q1
 simp only [inB, Bool.and_eq_true, decide_eq_true_eq] at hq
 obtain ⟨i, rfl⟩ : ∃ i : Nat, t = i := ⟨t.toNat, by omega⟩
 have hi : i < b.lines.length := by omega
 have hr : reachB b i = reachL b.lines[i].grs := by simp [reachB, q0, q1, lnAt, hi]
 obtain ⟨id, o, v1, v2, E1, E2, hve, hid, d0, d1, d2, d3, hw1, hw2, x1, x2, _⟩ := hv.line hi
 cases hve
 repeat (first | refine sA ?_ | refine sB ?_ | refine sC ?_ | refine sD ?_ | refine sE rfl ?_ | refine sF rfl ?_ | refine sG rfl ?_ | (refine sk_reg fun K hK => ?_; simp [hwl, q1, hi, d2.s]; (repeat ((first | refine AskX.go (bac _) ?_ | refine AskX.go (in_ac _ _ _) ?_ | refine AskX.go (reach_ac (hw2.ext (RP.frm _))) ?_); simp [hwl, q1, hi, d2.s])); refine hK _ ?_; clear hK K))
 refine sk_ret ?_; simp [hr]
end Go.Proofs.YtpoedfmkiiijnaaDoor
