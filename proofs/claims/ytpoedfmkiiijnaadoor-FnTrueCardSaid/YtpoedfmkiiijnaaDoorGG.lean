/- Texts of this repo, one behind the other (Bk3 Bk4 Bk5). Plain lemmas and walks. -/
import Derived.Test.YtpoedfmkiiijnaaDoorGF
namespace Go.Proofs.YtpoedfmkiiijnaaDoor
open Go Go.RowKit Go.Proofs.YtpoedfmkiiijnaaDoorAm
set_option linter.unusedVariables false
set_option linter.unusedSimpArgs false
set_option maxRecDepth 10000
set_option maxHeartbeats 4000000

def B71 : SC := .seq (.reg [⟨some 2, .box 39 (.tmp 0), none, []⟩, ⟨some 3, .box 50 (.tmp 1), none, []⟩, ⟨some 4, .assign (.const (.int .i64 0)), none, []⟩]) (.seq (.seq (.reg [⟨some 10, .fieldAddr 50 (.tmp 3) 0, none, []⟩, ⟨some 11, .load 3 (.tmp 10), none, []⟩, ⟨some 12, .call ⟨.value (.func 53), #[.tmp 11, .const (.int .i64 0), .const (.int .i64 1000000)], #[3, 3, 3]⟩, none, []⟩, ⟨some 13, .unOp .not 4 (.tmp 12), none, []⟩, ⟨some 14, .move (.tmp 13), none, []⟩, ⟨some 15, .fieldAddr 50 (.tmp 3) 1, some (14, false), []⟩, ⟨some 16, .load 22 (.tmp 15), some (14, false), []⟩, ⟨some 17, .call ⟨.builtin .len, #[.tmp 16], #[22]⟩, some (14, false), []⟩, ⟨some 18, .binOp .gtr 3 (.tmp 17) (.const (.int .i64 100)) 3, some (14, false), []⟩, ⟨some 19, .pick (.tmp 14) (.const (.bool true)) (.tmp 18), none, []⟩, ⟨some 20, .move (.tmp 19), none, []⟩, ⟨some 21, .load 50 (.tmp 3), some (20, false), []⟩, ⟨some 22, .call ⟨.value (.func 74), #[.tmp 21], #[50]⟩, some (20, false), []⟩, ⟨some 23, .binOp .gtr 3 (.tmp 22) (.const (.int .i64 1000000)) 3, some (20, false), []⟩, ⟨some 24, .pick (.tmp 20) (.const (.bool true)) (.tmp 23), none, []⟩]) (.cond (.tmp 24) (.seq (.reg [⟨some 4, .assign (.const (.int .i64 2)), none, []⟩]) .ret) .skip)) (.seq (.seq (.reg [⟨some 25, .fieldAddr 50 (.tmp 3) 1, none, []⟩, ⟨some 26, .load 22 (.tmp 25), none, []⟩, ⟨some 27, .call ⟨.builtin .len, #[.tmp 26], #[22]⟩, none, []⟩, ⟨some 28, .move (.const (.int .i64 0)), none, []⟩]) (.block 0 (.loop (.seq (.reg [⟨some 29, .binOp .lss 3 (.tmp 28) (.tmp 27) 3, none, []⟩]) (.seq (.cond (.tmp 29) .skip (.exit 0)) (.seq (.block 1 (.seq (.reg [⟨some 30, .indexAddr 22 (.tmp 26) (.tmp 28), none, []⟩, ⟨some 31, .load 3 (.tmp 30), none, []⟩, ⟨some 6, .assign (.tmp 31), none, []⟩]) (.seq (.reg [⟨some 32, .move (.tmp 6), none, []⟩, ⟨some 33, .fieldAddr 39 (.tmp 2) 1, none, []⟩, ⟨some 34, .load 3 (.tmp 33), none, []⟩, ⟨some 35, .binOp .sub 3 (.tmp 34) (.const (.int .i64 1)) 3, none, []⟩, ⟨some 36, .call ⟨.value (.func 53), #[.tmp 32, .const (.int .i64 0), .tmp 35], #[3, 3, 3]⟩, none, []⟩, ⟨some 37, .unOp .not 4 (.tmp 36), none, []⟩]) (.cond (.tmp 37) (.seq (.reg [⟨some 4, .assign (.const (.int .i64 2)), none, []⟩]) .ret) .skip)))) (.reg [⟨some 38, .binOp .add 3 (.tmp 28) (.const (.int .i64 1)) 3, none, []⟩, ⟨some 28, .move (.tmp 38), none, []⟩]))))))) (.seq (.seq (.reg [⟨some 39, .fieldAddr 50 (.tmp 3) 2, none, []⟩, ⟨some 40, .load 48 (.tmp 39), none, []⟩, ⟨some 41, .call ⟨.builtin .len, #[.tmp 40], #[48]⟩, none, []⟩, ⟨some 42, .binOp .eql 3 (.tmp 41) (.const (.int .i64 0)) 3, none, []⟩, ⟨some 43, .move (.tmp 42), none, []⟩, ⟨some 44, .fieldAddr 50 (.tmp 3) 2, some (43, false), []⟩, ⟨some 45, .load 48 (.tmp 44), some (43, false), []⟩, ⟨some 46, .call ⟨.builtin .len, #[.tmp 45], #[48]⟩, some (43, false), []⟩, ⟨some 47, .binOp .gtr 3 (.tmp 46) (.const (.int .i64 20)) 3, some (43, false), []⟩, ⟨some 48, .pick (.tmp 43) (.const (.bool true)) (.tmp 47), none, []⟩]) (.cond (.tmp 48) (.seq (.reg [⟨some 4, .assign (.const (.int .i64 3)), none, []⟩]) .ret) .skip)) (.seq (.seq (.reg [⟨some 49, .fieldAddr 50 (.tmp 3) 2, none, []⟩, ⟨some 50, .load 48 (.tmp 49), none, []⟩, ⟨some 51, .call ⟨.builtin .len, #[.tmp 50], #[48]⟩, none, []⟩, ⟨some 52, .move (.const (.int .i64 0)), none, []⟩]) (.block 2 (.loop (.seq (.reg [⟨some 53, .binOp .lss 3 (.tmp 52) (.tmp 51) 3, none, []⟩]) (.seq (.cond (.tmp 53) .skip (.exit 2)) (.seq (.block 3 (.seq (.reg [⟨some 54, .move (.tmp 52), none, []⟩, ⟨some 55, .indexAddr 48 (.tmp 50) (.tmp 52), none, []⟩, ⟨some 56, .load 88 (.tmp 55), none, []⟩, ⟨some 8, .alloc 88, none, []⟩, ⟨some 7, .assign (.tmp 54), none, []⟩, ⟨none, .store 88 (.tmp 8) (.tmp 56), none, []⟩]) (.seq (.drw 0 [⟨some 57, .fieldAddr 88 (.tmp 8) 1, none, []⟩, ⟨some 58, .load 3 (.tmp 57), none, [0]⟩, ⟨some 59, .load 50 (.tmp 3), none, []⟩, ⟨some 60, .call ⟨.value (.func 74), #[.tmp 59], #[50]⟩, none, [2]⟩, ⟨some 61, .call ⟨.value (.func 53), #[.tmp 58, .const (.int .i64 0), .tmp 60], #[3, 3, 3]⟩, none, [1, 0, 3, 2]⟩, ⟨some 62, .unOp .not 4 (.tmp 61), none, [4, 1, 0, 3, 2]⟩, ⟨some 63, .move (.tmp 62), none, [5, 4, 1, 0, 3, 2]⟩, ⟨some 64, .fieldAddr 88 (.tmp 8) 0, some (63, false), [6, 5, 4, 1, 0, 3, 2]⟩, ⟨some 65, .load 3 (.tmp 64), some (63, false), [7, 6, 5, 4, 1, 0, 3, 2]⟩, ⟨some 66, .binOp .lss 3 (.tmp 65) (.const (.int .i64 0)) 3, some (63, false), [8, 7, 6, 5, 4, 1, 0, 3, 2]⟩, ⟨some 67, .pick (.tmp 63) (.const (.bool true)) (.tmp 66), none, [6, 5, 4, 1, 0, 3, 2, 9, 8, 7]⟩, ⟨some 68, .move (.tmp 67), none, [10, 6, 5, 4, 1, 0, 3, 2, 9, 8, 7]⟩, ⟨some 69, .move (.tmp 7), some (68, false), [11, 10, 6, 5, 4, 1, 0, 3, 2, 9, 8, 7]⟩, ⟨some 70, .binOp .gtr 3 (.tmp 69) (.const (.int .i64 0)) 3, some (68, false), [12, 11, 10, 6, 5, 4, 1, 0, 3, 2, 9, 8, 7]⟩, ⟨some 71, .move (.tmp 70), some (68, false), [13, 12, 11, 10, 6, 5, 4, 1, 0, 3, 2, 9, 8, 7]⟩, ⟨some 72, .fieldAddr 88 (.tmp 8) 0, some (71, true), [14, 13, 12, 11, 10, 6, 5, 4, 1, 0, 3, 2, 9, 8, 7]⟩, ⟨some 73, .load 3 (.tmp 72), some (71, true), [15, 14, 13, 12, 11, 10, 6, 5, 4, 1, 0, 3, 2, 9, 8, 7]⟩, ⟨some 74, .fieldAddr 50 (.tmp 3) 2, some (71, true), [14, 13, 12, 11, 10, 6, 5, 4, 1, 0, 3, 2, 9, 8, 7]⟩, ⟨some 75, .load 48 (.tmp 74), some (71, true), [17, 14, 13, 12, 11, 10, 6, 5, 4, 1, 0, 3, 2, 9, 8, 7]⟩, ⟨some 76, .move (.tmp 7), some (71, true), [14, 13, 12, 11, 10, 6, 5, 4, 1, 0, 3, 2, 9, 8, 7]⟩, ⟨some 77, .binOp .sub 3 (.tmp 76) (.const (.int .i64 1)) 3, some (71, true), [19, 14, 13, 12, 11, 10, 6, 5, 4, 1, 0, 3, 2, 9, 8, 7]⟩, ⟨some 78, .indexAddr 48 (.tmp 75) (.tmp 77), some (71, true), [18, 17, 14, 13, 12, 11, 10, 6, 5, 4, 1, 0, 3, 2, 9, 8, 7, 20, 19]⟩, ⟨some 79, .fieldAddr 88 (.tmp 78) 0, some (71, true), [21, 18, 17, 14, 13, 12, 11, 10, 6, 5, 4, 1, 0, 3, 2, 9, 8, 7, 20, 19]⟩, ⟨some 80, .load 3 (.tmp 79), some (71, true), [22, 21, 18, 17, 14, 13, 12, 11, 10, 6, 5, 4, 1, 0, 3, 2, 9, 8, 7, 20, 19]⟩, ⟨some 81, .binOp .add 3 (.tmp 80) (.const (.int .i64 1)) 3, some (71, true), [23, 22, 21, 18, 17, 14, 13, 12, 11, 10, 6, 5, 4, 1, 0, 3, 2, 9, 8, 7, 20, 19]⟩, ⟨some 82, .binOp .neq 3 (.tmp 73) (.tmp 81) 3, some (71, true), [16, 15, 14, 13, 12, 11, 10, 6, 5, 4, 1, 0, 3, 2, 9, 8, 7, 24, 23, 22, 21, 18, 17, 20, 19]⟩, ⟨some 83, .pick (.tmp 71) (.tmp 82) (.const (.bool false)), some (68, false), [14, 13, 12, 11, 10, 6, 5, 4, 1, 0, 3, 2, 9, 8, 7, 25, 16, 15, 24, 23, 22, 21, 18, 17, 20, 19]⟩, ⟨some 84, .pick (.tmp 68) (.const (.bool true)) (.tmp 83), none, [11, 10, 6, 5, 4, 1, 0, 3, 2, 9, 8, 7, 26, 14, 13, 12, 25, 16, 15, 24, 23, 22, 21, 18, 17, 20, 19]⟩, ⟨some 85, .move (.tmp 84), none, [27, 11, 10, 6, 5, 4, 1, 0, 3, 2, 9, 8, 7, 26, 14, 13, 12, 25, 16, 15, 24, 23, 22, 21, 18, 17, 20, 19]⟩, ⟨some 86, .fieldAddr 88 (.tmp 8) 0, some (85, false), [28, 27, 11, 10, 6, 5, 4, 1, 0, 3, 2, 9, 8, 7, 26, 14, 13, 12, 25, 16, 15, 24, 23, 22, 21, 18, 17, 20, 19]⟩, ⟨some 87, .load 3 (.tmp 86), some (85, false), [29, 28, 27, 11, 10, 6, 5, 4, 1, 0, 3, 2, 9, 8, 7, 26, 14, 13, 12, 25, 16, 15, 24, 23, 22, 21, 18, 17, 20, 19]⟩, ⟨some 88, .binOp .gtr 3 (.tmp 87) (.const (.int .i64 1000000)) 3, some (85, false), [30, 29, 28, 27, 11, 10, 6, 5, 4, 1, 0, 3, 2, 9, 8, 7, 26, 14, 13, 12, 25, 16, 15, 24, 23, 22, 21, 18, 17, 20, 19]⟩, ⟨some 89, .pick (.tmp 85) (.const (.bool true)) (.tmp 88), none, [28, 27, 11, 10, 6, 5, 4, 1, 0, 3, 2, 9, 8, 7, 26, 14, 13, 12, 25, 16, 15, 24, 23, 22, 21, 18, 17, 20, 19, 31, 30, 29]⟩]) (.cond (.tmp 89) (.seq (.reg [⟨some 4, .assign (.const (.int .i64 3)), none, []⟩]) .ret) .skip)))) (.reg [⟨some 90, .binOp .add 3 (.tmp 52) (.const (.int .i64 1)) 3, none, []⟩, ⟨some 52, .move (.tmp 90), none, []⟩]))))))) (.seq (.reg [⟨some 91, .fieldAddr 50 (.tmp 3) 2, none, []⟩, ⟨some 92, .load 48 (.tmp 91), none, []⟩, ⟨some 93, .fieldAddr 50 (.tmp 3) 2, none, []⟩, ⟨some 94, .load 48 (.tmp 93), none, []⟩, ⟨some 95, .call ⟨.builtin .len, #[.tmp 94], #[48]⟩, none, []⟩, ⟨some 96, .binOp .sub 3 (.tmp 95) (.const (.int .i64 1)) 3, none, []⟩, ⟨some 97, .indexAddr 48 (.tmp 92) (.tmp 96), none, []⟩, ⟨some 98, .load 88 (.tmp 97), none, []⟩, ⟨some 9, .alloc 88, none, []⟩, ⟨none, .store 88 (.tmp 9) (.tmp 98), none, []⟩]) (.seq (.seq (.drw 0 [⟨some 99, .load 50 (.tmp 3), none, []⟩, ⟨some 100, .call ⟨.value (.func 19), #[.tmp 99], #[50]⟩, none, [0]⟩, ⟨some 101, .fieldAddr 50 (.tmp 3) 0, none, []⟩, ⟨some 102, .load 3 (.tmp 101), none, [2]⟩, ⟨some 103, .binOp .lss 3 (.tmp 100) (.tmp 102) 3, none, [1, 0, 3, 2]⟩]) (.cond (.tmp 103) (.seq (.reg [⟨some 4, .assign (.const (.int .i64 3)), none, []⟩]) .ret) .skip)) (.seq (.seq (.drw 0 [⟨some 104, .fieldAddr 50 (.tmp 3) 3, none, []⟩, ⟨some 105, .load 3 (.tmp 104), none, [0]⟩, ⟨some 106, .binOp .neq 3 (.tmp 105) (.const (.int .i64 (-1))) 3, none, [1, 0]⟩, ⟨some 107, .move (.tmp 106), none, [2, 1, 0]⟩, ⟨some 108, .fieldAddr 50 (.tmp 3) 3, some (107, true), [3, 2, 1, 0]⟩, ⟨some 109, .load 3 (.tmp 108), some (107, true), [4, 3, 2, 1, 0]⟩, ⟨some 110, .fieldAddr 50 (.tmp 3) 0, some (107, true), [3, 2, 1, 0]⟩, ⟨some 111, .load 3 (.tmp 110), some (107, true), [6, 3, 2, 1, 0]⟩, ⟨some 112, .load 50 (.tmp 3), some (107, true), [3, 2, 1, 0]⟩, ⟨some 113, .call ⟨.value (.func 74), #[.tmp 112], #[50]⟩, some (107, true), [8, 3, 2, 1, 0]⟩, ⟨some 114, .binOp .sub 3 (.tmp 113) (.const (.int .i64 1)) 3, some (107, true), [9, 8, 3, 2, 1, 0]⟩, ⟨some 115, .call ⟨.value (.func 53), #[.tmp 109, .tmp 111, .tmp 114], #[3, 3, 3]⟩, some (107, true), [5, 4, 3, 2, 1, 0, 7, 6, 10, 9, 8]⟩, ⟨some 116, .unOp .not 4 (.tmp 115), some (107, true), [11, 5, 4, 3, 2, 1, 0, 7, 6, 10, 9, 8]⟩, ⟨some 117, .move (.tmp 116), some (107, true), [12, 11, 5, 4, 3, 2, 1, 0, 7, 6, 10, 9, 8]⟩, ⟨some 118, .fieldAddr 88 (.tmp 9) 1, some (117, false), [13, 12, 11, 5, 4, 3, 2, 1, 0, 7, 6, 10, 9, 8]⟩, ⟨some 119, .load 3 (.tmp 118), some (117, false), [14, 13, 12, 11, 5, 4, 3, 2, 1, 0, 7, 6, 10, 9, 8]⟩, ⟨some 120, .fieldAddr 50 (.tmp 3) 3, some (117, false), [13, 12, 11, 5, 4, 3, 2, 1, 0, 7, 6, 10, 9, 8]⟩, ⟨some 121, .load 3 (.tmp 120), some (117, false), [16, 13, 12, 11, 5, 4, 3, 2, 1, 0, 7, 6, 10, 9, 8]⟩, ⟨some 122, .binOp .gtr 3 (.tmp 119) (.tmp 121) 3, some (117, false), [15, 14, 13, 12, 11, 5, 4, 3, 2, 1, 0, 7, 6, 10, 9, 8, 17, 16]⟩, ⟨some 123, .pick (.tmp 117) (.const (.bool true)) (.tmp 122), some (107, true), [13, 12, 11, 5, 4, 3, 2, 1, 0, 7, 6, 10, 9, 8, 18, 15, 14, 17, 16]⟩, ⟨some 124, .move (.tmp 123), some (107, true), [19, 13, 12, 11, 5, 4, 3, 2, 1, 0, 7, 6, 10, 9, 8, 18, 15, 14, 17, 16]⟩, ⟨some 125, .load 50 (.tmp 3), some (124, false), [20, 19, 13, 12, 11, 5, 4, 3, 2, 1, 0, 7, 6, 10, 9, 8, 18, 15, 14, 17, 16]⟩, ⟨some 126, .call ⟨.value (.func 19), #[.tmp 125], #[50]⟩, some (124, false), [21, 20, 19, 13, 12, 11, 5, 4, 3, 2, 1, 0, 7, 6, 10, 9, 8, 18, 15, 14, 17, 16]⟩, ⟨some 127, .load 50 (.tmp 3), some (124, false), [20, 19, 13, 12, 11, 5, 4, 3, 2, 1, 0, 7, 6, 10, 9, 8, 18, 15, 14, 17, 16]⟩, ⟨some 128, .call ⟨.value (.func 74), #[.tmp 127], #[50]⟩, some (124, false), [23, 20, 19, 13, 12, 11, 5, 4, 3, 2, 1, 0, 7, 6, 10, 9, 8, 18, 15, 14, 17, 16, 22, 21]⟩, ⟨some 129, .binOp .lss 3 (.tmp 126) (.tmp 128) 3, some (124, false), [22, 21, 20, 19, 13, 12, 11, 5, 4, 3, 2, 1, 0, 7, 6, 10, 9, 8, 18, 15, 14, 17, 16, 24, 23]⟩, ⟨some 130, .pick (.tmp 124) (.const (.bool true)) (.tmp 129), some (107, true), [20, 19, 13, 12, 11, 5, 4, 3, 2, 1, 0, 7, 6, 10, 9, 8, 18, 15, 14, 17, 16, 25, 22, 21, 24, 23]⟩, ⟨some 131, .pick (.tmp 107) (.tmp 130) (.const (.bool false)), none, [3, 2, 1, 0, 26, 20, 19, 13, 12, 11, 5, 4, 7, 6, 10, 9, 8, 18, 15, 14, 17, 16, 25, 22, 21, 24, 23]⟩]) (.cond (.tmp 131) (.seq (.reg [⟨some 4, .assign (.const (.int .i64 4)), none, []⟩]) .ret) .skip)) (.seq (.reg [⟨some 4, .assign (.const (.int .i64 0)), none, []⟩]) .ret))))))))
theorem s71 : Tryd.f71.body.bind (stripC 132) = some B71 := by kernel_rfl
theorem l1line_ac {H : Heap} {E1 E2 : List Nat} {ok : Bool} {sec : Int} {v v1 v2 : Value} {l : Ln} (hs : 1 ≤ sec ∧ sec ≤ 200) (hv1 : v.oneCell' = true) (hw1 : RS 1 RInt H E1 v1 l.way) (hw2 : RS 2 RGr H E2 v2 l.grs) :
  AC Tryd.prog 71 [.agg #[.bool ok, iv sec, v], .agg #[iv l.gone, v1, v2, iv l.drop]] H (iv (lineB sec l)) H [] := by
 obtain ⟨a1, c1, rfl⟩ := hw1.form
 obtain ⟨a2, c2, rfl⟩ := hw2.form
 have hn1 := hw1.1
 have hn2 := hw2.1
 have hws := wrap_id (x := sec - 1) (by omega) (by omega)
 refine AC.of_pureS (N := 132) Tryd.func71 s71 (by kernel_rfl) rfl rfl (by simp) rfl ?_; unfold B71
 cases q1 : inB l.gone 0 1000000
 ·have hr := lineB_2 (sec := sec) (l := l) (by simp [ok2, q1])
  repeat (first | refine sA ?_ | refine sB ?_ | refine sC ?_ | refine sD ?_ | refine sE rfl ?_ | refine sF rfl ?_ | refine sG rfl ?_ | ((first | refine sk_reg fun K hK => ?_ | refine sk_drw mix fun K hK => ?_); simp [hv1, q1]; (repeat ((first | refine AskX.go (l1in_ac _ _ _) ?_ | refine AskD.go (l1in_ac _ _ _) ?_); simp [hv1, q1])); refine hK _ ?_; clear hK K))
  refine sk_ret ?_; simp [hr]
 have hq := q1
 simp only [inB, Bool.and_eq_true, decide_eq_true_eq] at hq
 have htot := wrap_id (x := l.gone + l.way.length) (by omega) (by omega)
 have htot : IntKind.i64.wrap (l.gone + l.way.length) = totL l := htot
 have ht0 : 0 ≤ totL l := by unfold totL; omega
 by_cases q3 : l.way.length ≤ 100
 case neg =>
  have hr := lineB_2 (sec := sec) (l := l) (by simp [ok2, q3])
  have q3' : (100 : Int) < l.way.length := by omega
  repeat (first | refine sA ?_ | refine sB ?_ | refine sC ?_ | refine sD ?_ | refine sE rfl ?_ | refine sF rfl ?_ | refine sG rfl ?_ | ((first | refine sk_reg fun K hK => ?_ | refine sk_drw mix fun K hK => ?_); simp [hv1, q1, q3']; (repeat ((first | refine AskX.go (l1in_ac _ _ _) ?_ | refine AskD.go (l1in_ac _ _ _) ?_); simp [hv1, q1, q3'])); refine hK _ ?_; clear hK K))
  refine sk_ret ?_; simp [hr]
 have q3' : ¬ (100 : Int) < l.way.length := by omega
 by_cases q2 : 1000000 < totL l
 ·have hr := lineB_2 (sec := sec) (l := l) (by simp [ok2, inB]; omega)
  repeat (first | refine sA ?_ | refine sB ?_ | refine sC ?_ | refine sD ?_ | refine sE rfl ?_ | refine sF rfl ?_ | refine sG rfl ?_ | ((first | refine sk_reg fun K hK => ?_ | refine sk_drw mix fun K hK => ?_); simp [hv1, q1, q3', htot, q2]; (repeat ((first | refine AskX.go (l1in_ac _ _ _) ?_ | refine AskD.go (l1in_ac _ _ _) ?_ | refine AskX.go (l1total_ac ⟨_, _, rfl⟩ rfl) ?_ | refine AskD.go (l1total_ac ⟨_, _, rfl⟩ rfl) ?_); simp [hv1, q1, q3', htot, q2])); refine hK _ ?_; clear hK K))
  refine sk_ret ?_; simp [hr]
 repeat (first | refine sA ?_ | refine sB ?_ | refine sC ?_ | refine sD ?_ | refine sE rfl ?_ | refine sF rfl ?_ | refine sG rfl ?_ | ((first | refine sk_reg fun K hK => ?_ | refine sk_drw mix fun K hK => ?_); simp [hv1, q1, q3', htot, q2]; (repeat ((first | refine AskX.go (l1in_ac _ _ _) ?_ | refine AskD.go (l1in_ac _ _ _) ?_ | refine AskX.go (l1total_ac ⟨_, _, rfl⟩ rfl) ?_ | refine AskD.go (l1total_ac ⟨_, _, rfl⟩ rfl) ?_); simp [hv1, q1, q3', htot, q2])); refine hK _ ?_; clear hK K))
 have k2 : inB (totL l) 0 1000000 = true := by simp [inB]; omega
 refine sk_rng l.way.length (fun j => [(2, pt H.length 0), (3, pt (H.length + 1) 0), (26, .slice a1 l.way.length c1), (27, iv l.way.length), (28, iv j)])
  (fun j H2 => Gro H H2 ∧ H2[H.length]? = some ⟨39, [.bool ok, iv sec, v], true, true⟩ ∧ H2[H.length + 1]? = some ⟨50, [iv l.gone, .slice a1 l.way.length c1, .slice a2 l.grs.length c2, iv l.drop], true, true⟩ ∧ ∀ q (hj : q < j) (hx : q < l.way.length), inB l.way[q] 0 (sec - 1) = true) (by simp [subL, getT]) ⟨(by first | exact Gro.refl _ | exact Gro.one _ _), by simp, by simp, fun j hj => by omega⟩ ?_ ?_
 ·rintro j H2 hj ⟨hg, hb, hb2, hpre⟩
  have cb1 : CF H2 H.length 1 (iv sec) := CF.of hb rfl rfl
  obtain ⟨id2, o2, hv2, hid2, e0⟩ := (hw1.gro hg (RP.frm _)).int hj
  have hwj := wrap_id (x := (j : Int) + 1) (by omega) (by omega)
  cases q4 : inB l.way[j] 0 (sec - 1)
  ·have hr := lineB_2 (sec := sec) (l := l) (by simp only [ok2, all_false_at (p := fun s => inB s 0 (sec - 1)) hj q4, Bool.and_false])
   repeat (first | refine sA ?_ | refine sB ?_ | refine sC ?_ | refine sD ?_ | refine sE rfl ?_ | refine sF rfl ?_ | refine sG rfl ?_ | ((first | refine sk_reg fun K hK => ?_ | refine sk_drw mix fun K hK => ?_); simp [hj, hv2, e0.s, cb1.s, hws, q4]; (repeat ((first | refine AskX.go (l1in_ac _ _ _) ?_ | refine AskD.go (l1in_ac _ _ _) ?_); simp [hj, hv2, e0.s, cb1.s, hws, q4])); refine hK _ ?_; clear hK K))
   refine sk_ret ?_; simp [hr]
   exact hg
  ·repeat (first | refine sA ?_ | refine sB ?_ | refine sC ?_ | refine sD ?_ | refine sE rfl ?_ | refine sF rfl ?_ | refine sG rfl ?_ | ((first | refine sk_reg fun K hK => ?_ | refine sk_drw mix fun K hK => ?_); simp [hj, hv2, e0.s, cb1.s, hws, q4, hwj]; (repeat ((first | refine AskX.go (l1in_ac _ _ _) ?_ | refine AskD.go (l1in_ac _ _ _) ?_); simp [hj, hv2, e0.s, cb1.s, hws, q4, hwj])); refine hK _ ?_; clear hK K))
   refine sk_inv ⟨by simp [subL, getT, hv2], hg, hb, hb2, fun q hq hx => ?_⟩
   by_cases e : q = j
   ·subst e; exact q4
   ·exact hpre q (by omega) hx
 rintro H1 ⟨hg, hb, hb2, hpre⟩
 have k1 : ok2 sec l = true := by
  simp only [ok2, q1, k2, q3, decide_true, Bool.and_true, Bool.true_and]
  exact all_true_at fun q hq => hpre q hq hq
 have d0 : CF H1 (H.length + 1) 0 (iv l.gone) := CF.of hb2 rfl rfl
 have d1 : CF H1 (H.length + 1) 1 (.slice a1 l.way.length c1) := CF.of hb2 rfl rfl
 have d2 : CF H1 (H.length + 1) 2 (.slice a2 l.grs.length c2) := CF.of hb2 rfl rfl
 have d3 : CF H1 (H.length + 1) 3 (iv l.drop) := CF.of hb2 rfl rfl
 by_cases p0 : l.grs.length = 0
 ·have hr := lineB_3 (sec := sec) (l := l) k1 (by simp [ok3, inB, p0])
  have p0' := eq_true p0
  repeat (first | refine sA ?_ | refine sB ?_ | refine sC ?_ | refine sD ?_ | refine sE rfl ?_ | refine sF rfl ?_ | refine sG rfl ?_ | ((first | refine sk_reg fun K hK => ?_ | refine sk_drw mix fun K hK => ?_); simp [d2.s, p0']; refine hK _ ?_; clear hK K))
  refine sk_ret ?_; simp [hr]
  exact hg
 by_cases p1 : l.grs.length ≤ 20
 case neg =>
  have hr := lineB_3 (sec := sec) (l := l) k1 (by simp [ok3, inB]; omega)
  have p1' : (20 : Int) < l.grs.length := by omega
  repeat (first | refine sA ?_ | refine sB ?_ | refine sC ?_ | refine sD ?_ | refine sE rfl ?_ | refine sF rfl ?_ | refine sG rfl ?_ | ((first | refine sk_reg fun K hK => ?_ | refine sk_drw mix fun K hK => ?_); simp [d2.s, p0, p1']; refine hK _ ?_; clear hK K))
  refine sk_ret ?_; simp [hr]
  exact hg
 have p1' : ¬ (20 : Int) < l.grs.length := by omega
 have p2 : inB l.grs.length 1 20 = true := by simp [inB]; omega
 repeat (first | refine sA ?_ | refine sB ?_ | refine sC ?_ | refine sD ?_ | refine sE rfl ?_ | refine sF rfl ?_ | refine sG rfl ?_ | ((first | refine sk_reg fun K hK => ?_ | refine sk_drw mix fun K hK => ?_); simp [d2.s, p0, p1']; refine hK _ ?_; clear hK K))
 clear d0 d1 d2 d3
 refine sk_rng l.grs.length (fun j => [(3, pt (H.length + 1) 0), (50, .slice a2 l.grs.length c2), (51, iv l.grs.length), (52, iv j)])
  (fun j H2 => Gro H H2 ∧ H2[H.length + 1]? = some ⟨50, [iv l.gone, .slice a1 l.way.length c1, .slice a2 l.grs.length c2, iv l.drop], true, true⟩ ∧ ∀ q (hj : q < j), gOk (totL l) l.grs q = true) (by simp [subL, getT]) ⟨hg, hb2, fun j hj => by omega⟩ ?_ ?_
 ·clear hg hb hb2 hpre H1
  rintro j H1 hj ⟨hg, hb, hpre⟩
  have hl := hg.len
  have hl3 : H.length ≤ H1.length := by omega
  have e0 : CF H1 (H.length + 1) 0 (iv l.gone) := CF.of hb rfl rfl
  have e1 : CF H1 (H.length + 1) 1 (.slice a1 l.way.length c1) := CF.of hb rfl rfl
  have e2 : CF H1 (H.length + 1) 2 (.slice a2 l.grs.length c2) := CF.of hb rfl rfl
  have e3 : CF H1 (H.length + 1) 3 (iv l.drop) := CF.of hb rfl rfl
  obtain ⟨id2, o2, hv2, hid2, f0, f1⟩ := (hw2.gro hg (RP.frm _)).gr hj
  have hwj := wrap_id (x := (j : Int) + 1) (by omega) (by omega)
  have badj : gOk (totL l) l.grs j = false → lineB sec l = 3 := fun e => lineB_3 k1 (by
   have : (List.range l.grs.length).all (gOk (totL l) l.grs) = false := by rw [List.all_eq_false]; exact ⟨j, List.mem_range.2 hj, by simp [e]⟩
   simp only [ok3, this, Bool.and_false, Bool.false_and])
  have gok : gOk (totL l) l.grs j = (inB l.grs[j].cel 0 (totL l) && inB l.grs[j].ver 0 1000000 && (decide (j = 0) || decide (l.grs[j].ver = (gAt l.grs (j - 1)).ver + 1))) := by simp only [gOk, gAt_eq hj]
  have next : ∀ H3, Gro H1 H3 → gOk (totL l) l.grs j = true → Gro H H3 ∧ H3[H.length + 1]? = some ⟨50, [iv l.gone, .slice a1 l.way.length c1, .slice a2 l.grs.length c2, iv l.drop], true, true⟩ ∧ ∀ q (hj : q < j + 1), gOk (totL l) l.grs q = true := fun H3 g3 hg0 => ⟨hg.trans g3, g3.get hb, fun q hq => by
   by_cases e : q = j
   ·subst e; exact hg0
   ·exact hpre q (by omega)⟩
  cases q2 : inB l.grs[j].cel 0 (totL l)
  ·have hr := badj (by rw [gok, q2]; simp)
   repeat (first | refine sA ?_ | refine sB ?_ | refine sC ?_ | refine sD ?_ | refine sE rfl ?_ | refine sF rfl ?_ | refine sG rfl ?_ | ((first | refine sk_reg fun K hK => ?_ | refine sk_drw mix fun K hK => ?_); simp [hj, hv2, e0.s, e1.s, e2.s, e3.s, f0.s, f1.s, hl3, htot, q2]; (repeat ((first | refine AskX.go (l1in_ac _ _ _) ?_ | refine AskD.go (l1in_ac _ _ _) ?_ | refine AskX.go (l1total_ac ⟨_, _, rfl⟩ rfl) ?_ | refine AskD.go (l1total_ac ⟨_, _, rfl⟩ rfl) ?_); simp [hj, hv2, e0.s, e1.s, e2.s, e3.s, f0.s, f1.s, hl3, htot, q2])); refine hK _ ?_; clear hK K))
   refine sk_ret ?_; simp [hr]
   exact hg.app _
  by_cases q3 : l.grs[j].ver < 0
  ·have hr := badj (by rw [gok]; simp [inB]; omega)
   repeat (first | refine sA ?_ | refine sB ?_ | refine sC ?_ | refine sD ?_ | refine sE rfl ?_ | refine sF rfl ?_ | refine sG rfl ?_ | ((first | refine sk_reg fun K hK => ?_ | refine sk_drw mix fun K hK => ?_); simp [hj, hv2, e0.s, e1.s, e2.s, e3.s, f0.s, f1.s, hl3, htot, q2, q3]; (repeat ((first | refine AskX.go (l1in_ac _ _ _) ?_ | refine AskD.go (l1in_ac _ _ _) ?_ | refine AskX.go (l1total_ac ⟨_, _, rfl⟩ rfl) ?_ | refine AskD.go (l1total_ac ⟨_, _, rfl⟩ rfl) ?_); simp [hj, hv2, e0.s, e1.s, e2.s, e3.s, f0.s, f1.s, hl3, htot, q2, q3])); refine hK _ ?_; clear hK K))
   refine sk_ret ?_; simp [hr]
   exact hg.app _
  by_cases hp : 0 < j
  ·have hp1 : j - 1 < l.grs.length := by omega
   obtain ⟨id3, o3, hv3, hid3, g0, g1⟩ := (hw2.gro hg (RP.frm _)).gr hp1
   have hio : id3 = id2 ∧ o3 = o2 := by rw [hv2] at hv3; simp at hv3; exact ⟨hv3.1.symm, hv3.2.symm⟩
   obtain ⟨rfl, rfl⟩ := hio
   have hwp : IntKind.i64.wrap ((j : Int) - 1) = ((j - 1 : Nat) : Int) := by rw [wrap_id (by omega) (by omega)]; omega
   have hv := hpre (j - 1) (by omega)
   rw [gOk, gAt_eq hp1] at hv
   simp only [inB, Bool.and_eq_true, decide_eq_true_eq] at hv
   have hwv := wrap_id (x := l.grs[j - 1].ver + 1) (by omega) (by omega)
   rw [gAt_eq hp1] at gok
   by_cases q4 : l.grs[j].ver = l.grs[j - 1].ver + 1
   ·have q4' := eq_true q4
    by_cases q5 : 1000000 < l.grs[j].ver
    ·have hr := badj (by rw [gok]; simp [inB]; omega)
     repeat (first | refine sA ?_ | refine sB ?_ | refine sC ?_ | refine sD ?_ | refine sE rfl ?_ | refine sF rfl ?_ | refine sG rfl ?_ | ((first | refine sk_reg fun K hK => ?_ | refine sk_drw mix fun K hK => ?_); simp [hj, hv2, e0.s, e1.s, e2.s, e3.s, f0.s, f1.s, g0.s, g1.s, hl3, htot, q2, q3, hp, hp1, hwp, hwv, q4', q5]; (repeat ((first | refine AskX.go (l1in_ac _ _ _) ?_ | refine AskD.go (l1in_ac _ _ _) ?_ | refine AskX.go (l1total_ac ⟨_, _, rfl⟩ rfl) ?_ | refine AskD.go (l1total_ac ⟨_, _, rfl⟩ rfl) ?_); simp [hj, hv2, e0.s, e1.s, e2.s, e3.s, f0.s, f1.s, g0.s, g1.s, hl3, htot, q2, q3, hp, hp1, hwp, hwv, q4', q5])); refine hK _ ?_; clear hK K))
     refine sk_ret ?_; simp [hr]
     exact hg.app _
    ·have g := next (H1 ++ [⟨88, [iv l.grs[j].ver, iv l.grs[j].cel], true, true⟩]) (Gro.one _ _) (by rw [gok, q2, decide_eq_true q4]; simp [inB]; omega)
     repeat (first | refine sA ?_ | refine sB ?_ | refine sC ?_ | refine sD ?_ | refine sE rfl ?_ | refine sF rfl ?_ | refine sG rfl ?_ | ((first | refine sk_reg fun K hK => ?_ | refine sk_drw mix fun K hK => ?_); simp [hj, hv2, e0.s, e1.s, e2.s, e3.s, f0.s, f1.s, g0.s, g1.s, hl3, htot, q2, q3, hp, hp1, hwp, hwv, q4', q5, hwj]; (repeat ((first | refine AskX.go (l1in_ac _ _ _) ?_ | refine AskD.go (l1in_ac _ _ _) ?_ | refine AskX.go (l1total_ac ⟨_, _, rfl⟩ rfl) ?_ | refine AskD.go (l1total_ac ⟨_, _, rfl⟩ rfl) ?_); simp [hj, hv2, e0.s, e1.s, e2.s, e3.s, f0.s, f1.s, g0.s, g1.s, hl3, htot, q2, q3, hp, hp1, hwp, hwv, q4', q5, hwj])); refine hK _ ?_; clear hK K))
     exact sk_inv ⟨by simp [subL, getT, hv2], g⟩
   ·have hr := badj (by rw [gok]; simp [q4]; omega)
    repeat (first | refine sA ?_ | refine sB ?_ | refine sC ?_ | refine sD ?_ | refine sE rfl ?_ | refine sF rfl ?_ | refine sG rfl ?_ | ((first | refine sk_reg fun K hK => ?_ | refine sk_drw mix fun K hK => ?_); simp [hj, hv2, e0.s, e1.s, e2.s, e3.s, f0.s, f1.s, g0.s, g1.s, hl3, htot, q2, q3, hp, hp1, hwp, hwv, q4]; (repeat ((first | refine AskX.go (l1in_ac _ _ _) ?_ | refine AskD.go (l1in_ac _ _ _) ?_ | refine AskX.go (l1total_ac ⟨_, _, rfl⟩ rfl) ?_ | refine AskD.go (l1total_ac ⟨_, _, rfl⟩ rfl) ?_); simp [hj, hv2, e0.s, e1.s, e2.s, e3.s, f0.s, f1.s, g0.s, g1.s, hl3, htot, q2, q3, hp, hp1, hwp, hwv, q4])); refine hK _ ?_; clear hK K))
    refine sk_ret ?_; simp [hr]
    exact hg.app _
  ·by_cases q5 : 1000000 < l.grs[j].ver
   ·have hr := badj (by rw [gok]; simp [inB]; omega)
    repeat (first | refine sA ?_ | refine sB ?_ | refine sC ?_ | refine sD ?_ | refine sE rfl ?_ | refine sF rfl ?_ | refine sG rfl ?_ | ((first | refine sk_reg fun K hK => ?_ | refine sk_drw mix fun K hK => ?_); simp [hj, hv2, e0.s, e1.s, e2.s, e3.s, f0.s, f1.s, hl3, htot, q2, q3, hp, q5]; (repeat ((first | refine AskX.go (l1in_ac _ _ _) ?_ | refine AskD.go (l1in_ac _ _ _) ?_ | refine AskX.go (l1total_ac ⟨_, _, rfl⟩ rfl) ?_ | refine AskD.go (l1total_ac ⟨_, _, rfl⟩ rfl) ?_); simp [hj, hv2, e0.s, e1.s, e2.s, e3.s, f0.s, f1.s, hl3, htot, q2, q3, hp, q5])); refine hK _ ?_; clear hK K))
    refine sk_ret ?_; simp [hr]
    exact hg.app _
   ·have g := next (H1 ++ [⟨88, [iv l.grs[j].ver, iv l.grs[j].cel], true, true⟩]) (Gro.one _ _) (by rw [gok, q2]; simp [inB]; omega)
    repeat (first | refine sA ?_ | refine sB ?_ | refine sC ?_ | refine sD ?_ | refine sE rfl ?_ | refine sF rfl ?_ | refine sG rfl ?_ | ((first | refine sk_reg fun K hK => ?_ | refine sk_drw mix fun K hK => ?_); simp [hj, hv2, e0.s, e1.s, e2.s, e3.s, f0.s, f1.s, hl3, htot, q2, q3, hp, q5, hwj]; (repeat ((first | refine AskX.go (l1in_ac _ _ _) ?_ | refine AskD.go (l1in_ac _ _ _) ?_ | refine AskX.go (l1total_ac ⟨_, _, rfl⟩ rfl) ?_ | refine AskD.go (l1total_ac ⟨_, _, rfl⟩ rfl) ?_); simp [hj, hv2, e0.s, e1.s, e2.s, e3.s, f0.s, f1.s, hl3, htot, q2, q3, hp, q5, hwj])); refine hK _ ?_; clear hK K))
    exact sk_inv ⟨by simp [subL, getT, hv2], g⟩
 clear hg hb hb2 hpre H1
 rintro H1 ⟨hg, hb, hpre⟩
 have hl := hg.len
 have hgs : (List.range l.grs.length).all (gOk (totL l) l.grs) = true := by rw [List.all_eq_true]; exact fun q hq => hpre q (List.mem_range.1 hq)
 have d0 : CF H1 (H.length + 1) 0 (iv l.gone) := CF.of hb rfl rfl
 have d1 : CF H1 (H.length + 1) 1 (.slice a1 l.way.length c1) := CF.of hb rfl rfl
 have d2 : CF H1 (H.length + 1) 2 (.slice a2 l.grs.length c2) := CF.of hb rfl rfl
 have d3 : CF H1 (H.length + 1) 3 (iv l.drop) := CF.of hb rfl rfl
 have hp1 : l.grs.length - 1 < l.grs.length := by omega
 have hwg : IntKind.i64.wrap ((l.grs.length : Int) - 1) = ((l.grs.length - 1 : Nat) : Int) := by rw [wrap_id (by omega) (by omega)]; omega
 obtain ⟨id3, o3, hv3, hid3, g0, g1⟩ := (hw2.gro hg (RP.frm _)).gr hp1
 have hwt := wrap_id (x := totL l - 1) (by omega) (by omega)
 have hm := fun L : Heap => l1most_ac (H := H1 ++ L) (g := l.gone) (d := l.drop) ⟨a1, l.way.length, c1, rfl⟩ (hw2.gro (hg.app L) (RP.frm _))
 rw [hv3] at hm
 by_cases q2 : reachL l.grs < l.gone
 ·have hr := lineB_3 (sec := sec) (l := l) k1 (by simp only [ok3, p2, hgs]; simp; omega)
  repeat (first | refine sA ?_ | refine sB ?_ | refine sC ?_ | refine sD ?_ | refine sE rfl ?_ | refine sF rfl ?_ | refine sG rfl ?_ | ((first | refine sk_reg fun K hK => ?_ | refine sk_drw mix fun K hK => ?_); simp [d0.s, d1.s, d2.s, d3.s, q2, hv3, g0.s, g1.s, hwg, hp1, hl]; (repeat ((first | refine AskX.go (hm _) ?_ | refine AskD.go (hm _) ?_); simp [d0.s, d1.s, d2.s, d3.s, q2, hv3, g0.s, g1.s, hwg, hp1, hl])); refine hK _ ?_; clear hK K))
  refine sk_ret ?_; simp [hr]
  exact hg.app _
 have k3 : ok3 l = true := by simp only [ok3, p2, hgs]; simp; omega
 have key : ok4 l = (decide (l.drop = -1) || (inB l.drop l.gone (totL l - 1) && decide (l.grs[l.grs.length - 1].cel ≤ l.drop) && decide (totL l ≤ reachL l.grs))) := by rw [ok4, gAt_eq hp1]
 by_cases r1 : l.drop = -1
 ·have hr := lineB_0 k1 k3 (by rw [key]; simp [r1])
  have r1' := eq_true r1
  repeat (first | refine sA ?_ | refine sB ?_ | refine sC ?_ | refine sD ?_ | refine sE rfl ?_ | refine sF rfl ?_ | refine sG rfl ?_ | ((first | refine sk_reg fun K hK => ?_ | refine sk_drw mix fun K hK => ?_); simp [d0.s, d1.s, d2.s, d3.s, q2, hv3, g0.s, g1.s, hwg, hp1, hl, r1']; (repeat ((first | refine AskX.go (hm _) ?_ | refine AskD.go (hm _) ?_); simp [d0.s, d1.s, d2.s, d3.s, q2, hv3, g0.s, g1.s, hwg, hp1, hl, r1'])); refine hK _ ?_; clear hK K))
  refine sk_ret ?_; simp [hr]
  exact hg.app _
 cases r2 : inB l.drop l.gone (totL l - 1)
 ·have hr := lineB_4 (sec := sec) k1 k3 (by rw [key]; simp [r1, r2])
  repeat (first | refine sA ?_ | refine sB ?_ | refine sC ?_ | refine sD ?_ | refine sE rfl ?_ | refine sF rfl ?_ | refine sG rfl ?_ | ((first | refine sk_reg fun K hK => ?_ | refine sk_drw mix fun K hK => ?_); simp [d0.s, d1.s, d2.s, d3.s, q2, hv3, g0.s, g1.s, hwg, hp1, hl, r1, r2, htot, hwt]; (repeat ((first | refine AskX.go (hm _) ?_ | refine AskD.go (hm _) ?_ | refine AskX.go (l1in_ac _ _ _) ?_ | refine AskD.go (l1in_ac _ _ _) ?_ | refine AskX.go (l1total_ac ⟨_, _, rfl⟩ rfl) ?_ | refine AskD.go (l1total_ac ⟨_, _, rfl⟩ rfl) ?_); simp [d0.s, d1.s, d2.s, d3.s, q2, hv3, g0.s, g1.s, hwg, hp1, hl, r1, r2, htot, hwt])); refine hK _ ?_; clear hK K))
  refine sk_ret ?_; simp [hr]
  exact hg.app _
 by_cases r3 : l.drop < l.grs[l.grs.length - 1].cel
 ·have hr := lineB_4 (sec := sec) k1 k3 (by rw [key]; simp [r1, r2]; omega)
  repeat (first | refine sA ?_ | refine sB ?_ | refine sC ?_ | refine sD ?_ | refine sE rfl ?_ | refine sF rfl ?_ | refine sG rfl ?_ | ((first | refine sk_reg fun K hK => ?_ | refine sk_drw mix fun K hK => ?_); simp [d0.s, d1.s, d2.s, d3.s, q2, hv3, g0.s, g1.s, hwg, hp1, hl, r1, r2, r3, htot, hwt]; (repeat ((first | refine AskX.go (hm _) ?_ | refine AskD.go (hm _) ?_ | refine AskX.go (l1in_ac _ _ _) ?_ | refine AskD.go (l1in_ac _ _ _) ?_ | refine AskX.go (l1total_ac ⟨_, _, rfl⟩ rfl) ?_ | refine AskD.go (l1total_ac ⟨_, _, rfl⟩ rfl) ?_); simp [d0.s, d1.s, d2.s, d3.s, q2, hv3, g0.s, g1.s, hwg, hp1, hl, r1, r2, r3, htot, hwt])); refine hK _ ?_; clear hK K))
  refine sk_ret ?_; simp [hr]
  exact hg.app _
 by_cases r4 : reachL l.grs < totL l
 ·have hr := lineB_4 (sec := sec) k1 k3 (by rw [key]; simp [r1, r2]; omega)
  repeat (first | refine sA ?_ | refine sB ?_ | refine sC ?_ | refine sD ?_ | refine sE rfl ?_ | refine sF rfl ?_ | refine sG rfl ?_ | ((first | refine sk_reg fun K hK => ?_ | refine sk_drw mix fun K hK => ?_); simp [d0.s, d1.s, d2.s, d3.s, q2, hv3, g0.s, g1.s, hwg, hp1, hl, r1, r2, r3, r4, htot, hwt]; (repeat ((first | refine AskX.go (hm _) ?_ | refine AskD.go (hm _) ?_ | refine AskX.go (l1in_ac _ _ _) ?_ | refine AskD.go (l1in_ac _ _ _) ?_ | refine AskX.go (l1total_ac ⟨_, _, rfl⟩ rfl) ?_ | refine AskD.go (l1total_ac ⟨_, _, rfl⟩ rfl) ?_); simp [d0.s, d1.s, d2.s, d3.s, q2, hv3, g0.s, g1.s, hwg, hp1, hl, r1, r2, r3, r4, htot, hwt])); refine hK _ ?_; clear hK K))
  refine sk_ret ?_; simp [hr]
  exact hg.app _
 ·have hr := lineB_0 (sec := sec) k1 k3 (by rw [key]; simp [r1, r2]; omega)
  repeat (first | refine sA ?_ | refine sB ?_ | refine sC ?_ | refine sD ?_ | refine sE rfl ?_ | refine sF rfl ?_ | refine sG rfl ?_ | ((first | refine sk_reg fun K hK => ?_ | refine sk_drw mix fun K hK => ?_); simp [d0.s, d1.s, d2.s, d3.s, q2, hv3, g0.s, g1.s, hwg, hp1, hl, r1, r2, r3, r4, htot, hwt]; (repeat ((first | refine AskX.go (hm _) ?_ | refine AskD.go (hm _) ?_ | refine AskX.go (l1in_ac _ _ _) ?_ | refine AskD.go (l1in_ac _ _ _) ?_ | refine AskX.go (l1total_ac ⟨_, _, rfl⟩ rfl) ?_ | refine AskD.go (l1total_ac ⟨_, _, rfl⟩ rfl) ?_); simp [d0.s, d1.s, d2.s, d3.s, q2, hv3, g0.s, g1.s, hwg, hp1, hl, r1, r2, r3, r4, htot, hwt])); refine hK _ ?_; clear hK K))
  refine sk_ret ?_; simp [hr]
  exact hg.app _
def B54 : SC := .seq (.reg [⟨some 1, .box 39 (.tmp 0), none, []⟩, ⟨some 2, .assign (.const (.int .i64 0)), none, []⟩]) (.seq (.seq (.reg [⟨some 11, .fieldAddr 39 (.tmp 1) 0, none, []⟩, ⟨some 12, .load 4 (.tmp 11), none, []⟩, ⟨some 13, .unOp .not 4 (.tmp 12), none, []⟩, ⟨some 14, .move (.tmp 13), none, []⟩, ⟨some 15, .fieldAddr 39 (.tmp 1) 1, some (14, false), []⟩, ⟨some 16, .load 3 (.tmp 15), some (14, false), []⟩, ⟨some 17, .call ⟨.value (.func 53), #[.tmp 16, .const (.int .i64 1), .const (.int .i64 200)], #[3, 3, 3]⟩, some (14, false), []⟩, ⟨some 18, .unOp .not 4 (.tmp 17), some (14, false), []⟩, ⟨some 19, .pick (.tmp 14) (.const (.bool true)) (.tmp 18), none, []⟩, ⟨some 20, .move (.tmp 19), none, []⟩, ⟨some 21, .fieldAddr 39 (.tmp 1) 2, some (20, false), []⟩, ⟨some 22, .load 37 (.tmp 21), some (20, false), []⟩, ⟨some 23, .call ⟨.builtin .len, #[.tmp 22], #[37]⟩, some (20, false), []⟩, ⟨some 24, .binOp .gtr 3 (.tmp 23) (.const (.int .i64 20)) 3, some (20, false), []⟩, ⟨some 25, .pick (.tmp 20) (.const (.bool true)) (.tmp 24), none, []⟩]) (.cond (.tmp 25) (.seq (.reg [⟨some 2, .assign (.const (.int .i64 1)), none, []⟩]) .ret) .skip)) (.seq (.seq (.reg [⟨some 3, .assign (.const (.int .i64 2)), none, []⟩]) (.block 0 (.loop (.seq (.seq (.reg [⟨some 26, .move (.tmp 3), none, []⟩, ⟨some 27, .binOp .leq 3 (.tmp 26) (.const (.int .i64 4)) 3, none, []⟩]) (.cond (.tmp 27) .skip (.exit 0))) (.seq (.block 1 (.seq (.reg [⟨some 30, .fieldAddr 39 (.tmp 1) 2, none, []⟩, ⟨some 31, .load 37 (.tmp 30), none, []⟩, ⟨some 32, .call ⟨.builtin .len, #[.tmp 31], #[37]⟩, none, []⟩, ⟨some 33, .move (.const (.int .i64 0)), none, []⟩]) (.block 2 (.loop (.seq (.reg [⟨some 34, .binOp .lss 3 (.tmp 33) (.tmp 32) 3, none, []⟩]) (.seq (.cond (.tmp 34) .skip (.exit 2)) (.seq (.block 3 (.seq (.reg [⟨some 35, .indexAddr 37 (.tmp 31) (.tmp 33), none, []⟩, ⟨some 36, .load 50 (.tmp 35), none, []⟩, ⟨some 5, .alloc 50, none, []⟩, ⟨none, .store 50 (.tmp 5) (.tmp 36), none, []⟩]) (.seq (.reg [⟨some 37, .load 39 (.tmp 1), none, []⟩, ⟨some 38, .load 50 (.tmp 5), none, []⟩, ⟨some 39, .call ⟨.value (.func 71), #[.tmp 37, .tmp 38], #[39, 50]⟩, none, []⟩, ⟨some 40, .move (.tmp 3), none, []⟩, ⟨some 41, .binOp .eql 3 (.tmp 39) (.tmp 40) 3, none, []⟩]) (.cond (.tmp 41) (.seq (.reg [⟨some 42, .move (.tmp 3), none, []⟩, ⟨some 2, .assign (.tmp 42), none, []⟩]) .ret) .skip)))) (.reg [⟨some 43, .binOp .add 3 (.tmp 33) (.const (.int .i64 1)) 3, none, []⟩, ⟨some 33, .move (.tmp 43), none, []⟩])))))))) (.reg [⟨some 28, .move (.tmp 3), none, []⟩, ⟨some 29, .binOp .add 3 (.tmp 28) (.const (.int .i64 1)) 3, none, []⟩, ⟨some 3, .assign (.tmp 29), none, []⟩])))))) (.seq (.reg [⟨some 44, .fieldAddr 39 (.tmp 1) 1, none, []⟩, ⟨some 45, .load 3 (.tmp 44), none, []⟩, ⟨some 46, .makeSlice 120 (.tmp 45) (.tmp 45), none, []⟩, ⟨some 6, .assign (.tmp 46), none, []⟩]) (.seq (.seq (.reg [⟨some 47, .fieldAddr 39 (.tmp 1) 2, none, []⟩, ⟨some 48, .load 37 (.tmp 47), none, []⟩, ⟨some 49, .call ⟨.builtin .len, #[.tmp 48], #[37]⟩, none, []⟩, ⟨some 50, .move (.const (.int .i64 0)), none, []⟩]) (.block 4 (.loop (.seq (.reg [⟨some 51, .binOp .lss 3 (.tmp 50) (.tmp 49) 3, none, []⟩]) (.seq (.cond (.tmp 51) .skip (.exit 4)) (.seq (.block 5 (.seq (.reg [⟨some 52, .indexAddr 37 (.tmp 48) (.tmp 50), none, []⟩, ⟨some 53, .load 50 (.tmp 52), none, []⟩, ⟨some 8, .alloc 50, none, []⟩, ⟨none, .store 50 (.tmp 8) (.tmp 53), none, []⟩]) (.seq (.reg [⟨some 54, .fieldAddr 50 (.tmp 8) 1, none, []⟩, ⟨some 55, .load 22 (.tmp 54), none, []⟩, ⟨some 56, .call ⟨.builtin .len, #[.tmp 55], #[22]⟩, none, []⟩, ⟨some 57, .move (.const (.int .i64 0)), none, []⟩]) (.block 6 (.loop (.seq (.reg [⟨some 58, .binOp .lss 3 (.tmp 57) (.tmp 56) 3, none, []⟩]) (.seq (.cond (.tmp 58) .skip (.exit 6)) (.seq (.block 7 (.seq (.reg [⟨some 59, .indexAddr 22 (.tmp 55) (.tmp 57), none, []⟩, ⟨some 60, .load 3 (.tmp 59), none, []⟩, ⟨some 10, .assign (.tmp 60), none, []⟩]) (.seq (.seq (.reg [⟨some 61, .move (.tmp 6), none, []⟩, ⟨some 62, .move (.tmp 10), none, []⟩, ⟨some 63, .indexAddr 120 (.tmp 61) (.tmp 62), none, []⟩, ⟨some 64, .load 4 (.tmp 63), none, []⟩]) (.cond (.tmp 64) (.seq (.reg [⟨some 2, .assign (.const (.int .i64 5)), none, []⟩]) .ret) .skip)) (.reg [⟨some 65, .move (.tmp 6), none, []⟩, ⟨some 66, .move (.tmp 10), none, []⟩, ⟨some 67, .indexAddr 120 (.tmp 65) (.tmp 66), none, []⟩, ⟨none, .store 4 (.tmp 67) (.const (.bool true)), none, []⟩])))) (.reg [⟨some 68, .binOp .add 3 (.tmp 57) (.const (.int .i64 1)) 3, none, []⟩, ⟨some 57, .move (.tmp 68), none, []⟩]))))))))) (.reg [⟨some 69, .binOp .add 3 (.tmp 50) (.const (.int .i64 1)) 3, none, []⟩, ⟨some 50, .move (.tmp 69), none, []⟩]))))))) (.seq (.reg [⟨some 2, .assign (.const (.int .i64 0)), none, []⟩]) .ret)))))
theorem s54 : Tryd.f54.body.bind (stripC 70) = some B54 := by kernel_rfl
theorem specBookOk_ac {H : Heap} {E : List Nat} {b : Bk} {cs : List Value} (h : RBk H E b cs) : AC Tryd.prog 54 [.agg cs.toArray] H (iv (bookOkB b)) H [] := by
 obtain ⟨v, rfl, hv⟩ := h
 obtain ⟨a0, c0, rfl⟩ := hv.form
 have hx := hv.one
 have hn := hv.1
 refine AC.of_pureS (N := 70) Tryd.func54 s54 (by kernel_rfl) rfl rfl (by simp) rfl ?_; unfold B54
 cases h1 : b.ok
 ·have hr := bookOkB_1 (b := b) (by simp [ok1, h1])
  repeat (first | refine sA ?_ | refine sB ?_ | refine sC ?_ | refine sD ?_ | refine sE rfl ?_ | refine sF rfl ?_ | refine sG rfl ?_ | (refine sk_reg fun K hK => ?_; simp [hx, h1]; refine hK _ ?_; clear hK K))
  refine sk_ret ?_; simp [hr]
 cases h2 : inB b.sec 1 200
 ·have hr := bookOkB_1 (b := b) (by simp [ok1, h2])
  repeat (first | refine sA ?_ | refine sB ?_ | refine sC ?_ | refine sD ?_ | refine sE rfl ?_ | refine sF rfl ?_ | refine sG rfl ?_ | (refine sk_reg fun K hK => ?_; simp [hx, h1, h2]; (repeat ((first | refine AskX.go (l1in_ac _ _ _) ?_); simp [hx, h1, h2])); refine hK _ ?_; clear hK K))
  refine sk_ret ?_; simp [hr]
 by_cases h3 : b.lines.length ≤ 20
 case neg =>
  have hr := bookOkB_1 (b := b) (by simp [ok1, h3])
  have h3' : (20 : Int) < b.lines.length := by omega
  repeat (first | refine sA ?_ | refine sB ?_ | refine sC ?_ | refine sD ?_ | refine sE rfl ?_ | refine sF rfl ?_ | refine sG rfl ?_ | (refine sk_reg fun K hK => ?_; simp [hx, h1, h2, h3']; (repeat ((first | refine AskX.go (l1in_ac _ _ _) ?_); simp [hx, h1, h2, h3'])); refine hK _ ?_; clear hK K))
  refine sk_ret ?_; simp [hr]
 have hk1 : ok1 b = true := by simp [ok1, h1, h2, h3]
 have h3' : ¬ (20 : Int) < b.lines.length := by omega
 simp only [inB, Bool.and_eq_true, decide_eq_true_eq] at h2
 have h2' : inB b.sec 1 200 = true := by simp [inB]; omega
 repeat (first | refine sA ?_ | refine sB ?_ | refine sC ?_ | refine sD ?_ | refine sE rfl ?_ | refine sF rfl ?_ | refine sG rfl ?_ | (refine sk_reg fun K hK => ?_; simp [hx, h1, h2', h3']; (repeat ((first | refine AskX.go (l1in_ac _ _ _) ?_); simp [hx, h1, h2', h3'])); refine hK _ ?_; clear hK K))
 -- the codes 2, 3, 4
 refine sk_rng 3 (fun i => [(1, pt H.length 0), (3, iv ((i : Int) + 2))]) (fun i H1 => Gro H H1 ∧ H1[H.length]? = some ⟨39, [.bool true, iv b.sec, .slice a0 b.lines.length c0], true, true⟩ ∧ stage b i) (by simp [subL, getT]) ⟨(by first | exact Gro.refl _ | exact Gro.one _ _), by simp [h1], ⟨fun h => by omega, fun h => by omega, fun h => by omega⟩⟩ ?_ ?_
 ·rintro i H1 hi ⟨hg, hb, hst⟩
  have hl := hg.len
  have c0' : CF H1 H.length 0 (.bool true) := CF.of hb rfl rfl
  have c1' : CF H1 H.length 1 (iv b.sec) := CF.of hb rfl rfl
  have c2' : CF H1 H.length 2 (.slice a0 b.lines.length c0) := CF.of hb rfl rfl
  have hle : (i : Int) + 2 ≤ 4 := by omega
  have hle2 : (i : Int) ≤ 2 := by omega
  have hwi := wrap_id (x := (i : Int) + 2 + 1) (by omega) (by omega)
  repeat (first | refine sA ?_ | refine sB ?_ | refine sC ?_ | refine sD ?_ | refine sE rfl ?_ | refine sF rfl ?_ | refine sG rfl ?_ | (refine sk_reg fun K hK => ?_; simp [hle, hle2, c0'.s, c1'.s, c2'.s]; refine hK _ ?_; clear hK K))
  refine sk_rng b.lines.length (fun j => [(1, pt H.length 0), (3, iv ((i : Int) + 2)), (31, .slice a0 b.lines.length c0), (32, iv b.lines.length), (33, iv j)])
   (fun j H2 => Gro H1 H2 ∧ ∀ q (hj : q < j) (hx : q < b.lines.length), lineB b.sec b.lines[q] ≠ (i : Int) + 2) (by simp [subL, getT]) ⟨(by first | exact Gro.refl _ | exact Gro.one _ _), fun j hj => by omega⟩ ?_ ?_
  ·rintro j H2 hj ⟨hg2, hpre⟩
   have hl2 := hg2.len
   have hl3 : H.length ≤ H2.length := by omega
   have b0 := c0'.gro hg2
   have b1 := c1'.gro hg2
   have b2 := c2'.gro hg2
   obtain ⟨id, o, v1, v2, E1, E2, hve, hid, d0, d1, d2, d3, hw1, hw2, x1, x2, _⟩ := (hv.gro (hg.trans hg2) RLn.frm).line hj
   have hit := fun h => stage_hit hk1 hst hi hj h
   generalize hln : b.lines[j] = l at *
   have hwj := wrap_id (x := (j : Int) + 1) (by omega) (by omega)
   have lac := fun L : Heap => l1line_ac (H := H2 ++ L) (ok := true) (sec := b.sec) (v := sl id o b.lines.length) h2 rfl (hw1.ext (RP.frm _)) (hw2.ext (RP.frm _))
   by_cases q : lineB b.sec l = (i : Int) + 2
   ·have hr := hit q
    rw [q] at lac
    repeat (first | refine sA ?_ | refine sB ?_ | refine sC ?_ | refine sD ?_ | refine sE rfl ?_ | refine sF rfl ?_ | refine sG rfl ?_ | (refine sk_reg fun K hK => ?_; simp [hj, hve, b0.s, b1.s, b2.s, d0.s, d1.s, d2.s, d3.s, x1, x2, hl3]; (repeat ((first | refine AskX.go (lac _) ?_); simp [hj, hve, b0.s, b1.s, b2.s, d0.s, d1.s, d2.s, d3.s, x1, x2, hl3])); refine hK _ ?_; clear hK K))
    refine sk_ret ?_; simp [hr]
    exact (hg.trans hg2).app _
   ·have q' := eq_false q
    repeat (first | refine sA ?_ | refine sB ?_ | refine sC ?_ | refine sD ?_ | refine sE rfl ?_ | refine sF rfl ?_ | refine sG rfl ?_ | (refine sk_reg fun K hK => ?_; simp [hj, hve, b0.s, b1.s, b2.s, d0.s, d1.s, d2.s, d3.s, x1, x2, hl3, q', hwj]; (repeat ((first | refine AskX.go (lac _) ?_); simp [hj, hve, b0.s, b1.s, b2.s, d0.s, d1.s, d2.s, d3.s, x1, x2, hl3, q', hwj])); refine hK _ ?_; clear hK K))
    refine sk_inv ⟨by simp [subL, getT, hve], hg2.app _, fun k hk hx => ?_⟩
    by_cases e : k = j
    ·subst e; rw [hln]; exact q
    ·exact hpre k (by omega) hx
  ·rintro H2 ⟨hg2, hpre⟩
   repeat (first | refine sA ?_ | refine sB ?_ | refine sC ?_ | refine sD ?_ | refine sE rfl ?_ | refine sF rfl ?_ | refine sG rfl ?_ | (refine sk_reg fun K hK => ?_; simp [hwi]; refine hK _ ?_; clear hK K))
   refine sk_inv ⟨?_, hg.trans hg2, hg2.get hb, stage_next hst hi fun j hj => hpre j hj hj⟩
   simp [subL, getT]; omega
 rintro H1 ⟨hg, hb, hst⟩
 obtain ⟨s1, s2, s3⟩ := hst
 have hk2 := s1 (by omega)
 have hk3 := s2 (by omega)
 have hk4 := s3 (by omega)
 have hl := hg.len
 have hlt : H.length < H1.length := lt_of_get hb
 have c1' : CF H1 H.length 1 (iv b.sec) := CF.of hb rfl rfl
 have c2' : CF H1 H.length 2 (.slice a0 b.lines.length c0) := CF.of hb rfl rfl
 obtain ⟨n, hns⟩ : ∃ n : Nat, b.sec = (n : Int) := ⟨b.sec.toNat, by omega⟩
 rw [hns] at c1'
 have hb0 : (0 : Int) ≤ n := by omega
 have hb1 : (n : Int) ≤ 281474976710656 := by omega
 have hb2 : (n : Int) ≤ 9223372036854775807 := by omega
 repeat (first | refine sA ?_ | refine sB ?_ | refine sC ?_ | refine sD ?_ | refine sE rfl ?_ | refine sF rfl ?_ | refine sG rfl ?_ | (refine sk_reg fun K hK => ?_; simp [c1'.s, c2'.s, hl, hb0, hb1, hb2]; refine hK _ ?_; clear hK K))
 have hsec : ∀ k (hk : k < b.lines.length) j (hj : j < b.lines[k].way.length), 0 ≤ b.lines[k].way[j] ∧ b.lines[k].way[j] < (n : Int) := fun k hk j hj => by
  have := all_at hk2 hk
  simp only [ok2, Bool.and_eq_true] at this
  have := all_at this.2 hj
  simp only [inB, Bool.and_eq_true, decide_eq_true_eq] at this
  omega
 refine sk_rng b.lines.length (fun i => [(1, pt H.length 0), (6, sl H1.length 0 n), (48, .slice a0 b.lines.length c0), (49, iv b.lines.length), (50, iv i)])
  (fun i H2 => Gro H H2 ∧ H2[H1.length]? = some ⟨4, bitsL n (secs (b.lines.take i)), true, true⟩ ∧ (secs (b.lines.take i)).Nodup) (by simp [subL, getT]) ⟨hg.app _, by simp [secs, bitsL_nil], by simp [secs]⟩ ?_ ?_
 ·rintro i H2 hi ⟨hg2, hm, hnd⟩
  have hl2 := hg2.len
  obtain ⟨id, o, v1, v2, E1, E2, hve, hid, d0, d1, d2, d3, hw1, hw2, x1, x2, _⟩ := hv.line hi
  have e0 := d0.gro hg2
  have e1 := d1.gro hg2
  have e2 := d2.gro hg2
  have e3 := d3.gro hg2
  have hst := secs_take hi
  obtain ⟨rest, hsp⟩ := secs_split hi
  have hse := hsec i hi
  generalize hln : b.lines[i] = l at *
  obtain ⟨a1, c1, rfl⟩ := hw1.form
  have hwi := wrap_id (x := (i : Int) + 1) (by omega) (by omega)
  have hn1 := hw1.1
  repeat (first | refine sA ?_ | refine sB ?_ | refine sC ?_ | refine sD ?_ | refine sE rfl ?_ | refine sF rfl ?_ | refine sG rfl ?_ | (refine sk_reg fun K hK => ?_; simp [hi, hve, e0.s, e1.s, e2.s, e3.s, x1, x2, hl2]; refine hK _ ?_; clear hK K))
  refine sk_rng l.way.length (fun j => [(1, pt H.length 0), (6, sl H1.length 0 n), (48, .slice a0 b.lines.length c0), (49, iv b.lines.length), (50, iv i), (55, .slice a1 l.way.length c1), (56, iv l.way.length), (57, iv j)])
   (fun j H2 => Gro H H2 ∧ H2[H1.length]? = some ⟨4, bitsL n (secs (b.lines.take i) ++ l.way.take j), true, true⟩ ∧ (secs (b.lines.take i) ++ l.way.take j).Nodup) (by simp [subL, getT, hve]) ⟨hg2.app _, by simpa using (Gro.one _ _).get hm, by simpa using hnd⟩ ?_ ?_
  ·rintro j H3 hj ⟨hg3, hm3, hnd3⟩
   have hl3 := hg3.len
   have hlt3 : H1.length < H3.length := lt_of_get hm3
   obtain ⟨id2, o2, hv2, hid2, f0⟩ := (hw1.gro hg3 (RP.frm _)).int hj
   have hwj := wrap_id (x := (j : Int) + 1) (by omega) (by omega)
   obtain ⟨g0, g1⟩ := hse j hj
   have hcast : ((l.way[j].toNat : Nat) : Int) = l.way[j] := Int.toNat_of_nonneg g0
   have htn : l.way[j].toNat < n := by omega
   have lk : CF H3 H1.length l.way[j].toNat (.bool (decide (l.way[j] ∈ secs (b.lines.take i) ++ l.way.take j))) := CF.of hm3 rfl (by
    have := bitsL_get htn (secs (b.lines.take i) ++ l.way.take j)
    rw [hcast] at this; exact this)
   have hrw : Heap.rwOk H3 H1.length = true := by unfold Heap.rwOk; rw [hm3]; rfl
   have htk := take_snoc hj
   by_cases q : l.way[j] ∈ secs (b.lines.take i) ++ l.way.take j
   ·have hr := bookOkB_5 hk1 hk2 hk3 hk4 (fun hh => by
     rw [hsp, ← List.append_assoc] at hh
     have e : l.way = l.way.take j ++ l.way[j] :: l.way.drop (j + 1) := by rw [List.getElem_cons_drop]; exact (List.take_append_drop j l.way).symm
     rw [e, ← List.append_assoc, List.append_assoc] at hh
     exact (List.nodup_append.1 hh).2.2 _ q l.way[j] (List.mem_append_left _ List.mem_cons_self) rfl)
    rw [decide_eq_true q] at lk
    repeat (first | refine sA ?_ | refine sB ?_ | refine sC ?_ | refine sD ?_ | refine sE rfl ?_ | refine sF rfl ?_ | refine sG rfl ?_ | (refine sk_reg fun K hK => ?_; simp [hj, hv2, f0.s, lk.s, g0, g1, htn]; refine hK _ ?_; clear hK K))
    refine sk_ret ?_; simp [hr]
    exact hg3
   ·rw [decide_eq_false q] at lk
    repeat (first | refine sA ?_ | refine sB ?_ | refine sC ?_ | refine sD ?_ | refine sE rfl ?_ | refine sF rfl ?_ | refine sG rfl ?_ | (refine sk_reg fun K hK => ?_; simp [hj, hv2, f0.s, lk.s, g0, g1, htn, hwj, hl, hrw]; refine hK _ ?_; clear hK K))
    refine sk_inv ⟨by simp [subL, getT, hv2], ?_, ?_, ?_⟩
    ·exact Gro.of (by rw [length_put]; exact hl3) fun k hk => by rw [get_put_ne _ _ _ (by omega)]; exact hg3.same hk
    ·rw [htk, ← List.append_assoc, get_put, hm3]
     simp only [Option.map_some]
     rw [bitsL_set htn, hcast]
    ·rw [htk, ← List.append_assoc, List.nodup_append]
     exact ⟨hnd3, by simp, fun a ha b hb hab => by simp at hb; subst hb; subst hab; exact q ha⟩
  ·rintro H3 ⟨hg3, hm3, hnd3⟩
   repeat (first | refine sA ?_ | refine sB ?_ | refine sC ?_ | refine sD ?_ | refine sE rfl ?_ | refine sF rfl ?_ | refine sG rfl ?_ | (refine sk_reg fun K hK => ?_; simp [hwi]; refine hK _ ?_; clear hK K))
   rw [List.take_length, ← hst] at hm3 hnd3
   exact sk_inv ⟨by simp [subL, getT, hve], hg3, hm3, hnd3⟩
 ·rintro H2 ⟨hg2, hm, hnd⟩
  rw [List.take_length] at hnd
  have hr := bookOkB_0 hk1 hk2 hk3 hk4 hnd
  repeat (first | refine sA ?_ | refine sB ?_ | refine sC ?_ | refine sD ?_ | refine sE rfl ?_ | refine sF rfl ?_ | refine sG rfl ?_ | (refine sk_reg fun K hK => ?_; simp; refine hK _ ?_; clear hK K))
  refine sk_ret ?_; simp [hr]
  exact hg2
def B83 : SC := .seq (.reg [⟨some 2, .box 39 (.tmp 0), none, []⟩, ⟨some 4, .assign (.const (.int .i64 0)), none, []⟩]) (.seq (.seq (.reg [⟨some 7, .fieldAddr 39 (.tmp 2) 2, none, []⟩, ⟨some 8, .load 37 (.tmp 7), none, []⟩, ⟨some 9, .call ⟨.builtin .len, #[.tmp 8], #[37]⟩, none, []⟩, ⟨some 10, .move (.const (.int .i64 0)), none, []⟩]) (.block 0 (.loop (.seq (.reg [⟨some 11, .binOp .lss 3 (.tmp 10) (.tmp 9) 3, none, []⟩]) (.seq (.cond (.tmp 11) .skip (.exit 0)) (.seq (.block 1 (.seq (.reg [⟨some 12, .move (.tmp 10), none, []⟩, ⟨some 13, .indexAddr 37 (.tmp 8) (.tmp 10), none, []⟩, ⟨some 14, .load 50 (.tmp 13), none, []⟩, ⟨some 6, .alloc 50, none, []⟩, ⟨some 5, .assign (.tmp 12), none, []⟩, ⟨none, .store 50 (.tmp 6) (.tmp 14), none, []⟩]) (.seq (.reg [⟨some 15, .fieldAddr 50 (.tmp 6) 1, none, []⟩, ⟨some 16, .load 22 (.tmp 15), none, []⟩, ⟨some 17, .move (.tmp 1), none, []⟩, ⟨some 18, .call ⟨.value (.func 45), #[.tmp 16, .tmp 17], #[22, 3]⟩, none, []⟩]) (.cond (.tmp 18) (.seq (.reg [⟨some 19, .move (.tmp 5), none, []⟩, ⟨some 4, .assign (.tmp 19), none, []⟩]) .ret) .skip)))) (.reg [⟨some 20, .binOp .add 3 (.tmp 10) (.const (.int .i64 1)) 3, none, []⟩, ⟨some 10, .move (.tmp 20), none, []⟩]))))))) (.seq (.reg [⟨some 4, .assign (.const (.int .i64 (-1))), none, []⟩]) .ret))
theorem s83 : Tryd.f83.body.bind (stripC 21) = some B83 := by kernel_rfl
theorem owner_ac {H : Heap} {E : List Nat} {b : Bk} {cs : List Value} (h : RBk H E b cs) (s : Int) : AC Tryd.prog 83 [.agg cs.toArray, iv s] H (iv (ownB b.lines s)) H [] := by
 obtain ⟨v, rfl, hv⟩ := h
 obtain ⟨a0, c0, rfl⟩ := hv.form
 have hn := hv.1
 refine AC.of_pureS (N := 21) Tryd.func83 s83 (by kernel_rfl) rfl rfl (by simp) rfl ?_; unfold B83
 repeat (first | refine sA ?_ | refine sB ?_ | refine sC ?_ | refine sD ?_ | refine sE rfl ?_ | refine sF rfl ?_ | refine sG rfl ?_ | (refine sk_reg fun K hK => ?_; simp; refine hK _ ?_; clear hK K))
 refine sk_rng b.lines.length (fun i => [(1, iv s), (8, .slice a0 b.lines.length c0), (9, iv b.lines.length), (10, iv i)]) (fun i H1 => Gro H H1 ∧ ∀ j (hj : j < i) (hx : j < b.lines.length), inWay s b.lines[j] = false) (by simp [subL, getT]) ⟨(by first | exact Gro.refl _ | exact Gro.one _ _), fun j hj => by omega⟩ ?_ ?_
 ·rintro i H1 hi ⟨hg, hpre⟩
  have hl := hg.len
  obtain ⟨id, o, v1, v2, E1, E2, hve, hid, d0, d1, d2, d3, hw1, hw2, x1, x2, _⟩ := (hv.gro hg RLn.frm).line hi
  have hwi := wrap_id (x := (i : Int) + 1) (by omega) (by omega)
  have hfs := fun h => fstI_some (p := inWay s) hi h fun j hj => hpre j hj (by omega)
  generalize hln : b.lines[i] = l at *
  have cac := fun L : Heap => containsI_ac (H := H1 ++ L) (hw1.ext (RP.frm _)) s
  by_cases q : s ∈ l.way
  ·have hr := hfs (by simp [inWay, q])
   rw [decide_eq_true q] at cac
   repeat (first | refine sA ?_ | refine sB ?_ | refine sC ?_ | refine sD ?_ | refine sE rfl ?_ | refine sF rfl ?_ | refine sG rfl ?_ | (refine sk_reg fun K hK => ?_; simp [hi, hve, d0.s, d1.s, d2.s, d3.s, x1, x2, hl]; (repeat ((first | refine AskX.go (cac _) ?_); simp [hi, hve, d0.s, d1.s, d2.s, d3.s, x1, x2, hl])); refine hK _ ?_; clear hK K))
   refine sk_ret ?_; simp [ownB, hr]
   exact hg.app _
  ·rw [decide_eq_false q] at cac
   repeat (first | refine sA ?_ | refine sB ?_ | refine sC ?_ | refine sD ?_ | refine sE rfl ?_ | refine sF rfl ?_ | refine sG rfl ?_ | (refine sk_reg fun K hK => ?_; simp [hi, hve, d0.s, d1.s, d2.s, d3.s, x1, x2, hl, hwi]; (repeat ((first | refine AskX.go (cac _) ?_); simp [hi, hve, d0.s, d1.s, d2.s, d3.s, x1, x2, hl, hwi])); refine hK _ ?_; clear hK K))
   refine sk_inv ⟨by simp [subL, getT, hve], hg.app _, fun j hj hx => ?_⟩
   by_cases e : j = i
   ·subst e; rw [hln]; simp [inWay, q]
   ·exact hpre j (by omega) hx
 ·rintro H1 ⟨hg, hpre⟩
  have hr := fstI_none (p := inWay s) (xs := b.lines) fun j hj => hpre j hj hj
  repeat (first | refine sA ?_ | refine sB ?_ | refine sC ?_ | refine sD ?_ | refine sE rfl ?_ | refine sF rfl ?_ | refine sG rfl ?_ | (refine sk_reg fun K hK => ?_; simp; refine hK _ ?_; clear hK K))
  refine sk_ret ?_; simp [ownB, hr]
  exact hg
def B73 : SC := .seq (.reg [⟨some 2, .box 39 (.tmp 0), none, []⟩, ⟨some 4, .assign (.const (.int .i64 0)), none, []⟩]) (.seq (.seq (.reg [⟨some 9, .load 39 (.tmp 2), none, []⟩, ⟨some 10, .call ⟨.value (.func 54), #[.tmp 9], #[39]⟩, none, []⟩, ⟨some 11, .binOp .neq 3 (.tmp 10) (.const (.int .i64 0)) 3, none, []⟩]) (.cond (.tmp 11) (.seq (.reg [⟨some 4, .assign (.const (.int .i64 (-1))), none, []⟩]) .ret) .skip)) (.seq (.seq (.reg [⟨some 12, .fieldAddr 39 (.tmp 2) 2, none, []⟩, ⟨some 13, .load 37 (.tmp 12), none, []⟩, ⟨some 14, .call ⟨.builtin .len, #[.tmp 13], #[37]⟩, none, []⟩, ⟨some 15, .move (.const (.int .i64 0)), none, []⟩]) (.block 0 (.loop (.seq (.reg [⟨some 16, .binOp .lss 3 (.tmp 15) (.tmp 14) 3, none, []⟩]) (.seq (.cond (.tmp 16) .skip (.exit 0)) (.seq (.block 1 (.seq (.reg [⟨some 17, .move (.tmp 15), none, []⟩, ⟨some 18, .indexAddr 37 (.tmp 13) (.tmp 15), none, []⟩, ⟨some 19, .load 50 (.tmp 18), none, []⟩, ⟨some 6, .alloc 50, none, []⟩, ⟨some 5, .assign (.tmp 17), none, []⟩, ⟨none, .store 50 (.tmp 6) (.tmp 19), none, []⟩]) (.seq (.reg [⟨some 20, .fieldAddr 50 (.tmp 6) 1, none, []⟩, ⟨some 21, .load 22 (.tmp 20), none, []⟩, ⟨some 22, .call ⟨.builtin .len, #[.tmp 21], #[22]⟩, none, []⟩, ⟨some 23, .move (.const (.int .i64 0)), none, []⟩]) (.block 2 (.loop (.seq (.reg [⟨some 24, .binOp .lss 3 (.tmp 23) (.tmp 22) 3, none, []⟩]) (.seq (.cond (.tmp 24) .skip (.exit 2)) (.seq (.block 3 (.seq (.reg [⟨some 25, .indexAddr 22 (.tmp 21) (.tmp 23), none, []⟩, ⟨some 26, .load 3 (.tmp 25), none, []⟩, ⟨some 8, .assign (.tmp 26), none, []⟩]) (.seq (.reg [⟨some 27, .move (.tmp 8), none, []⟩, ⟨some 28, .move (.tmp 1), none, []⟩, ⟨some 29, .binOp .eql 3 (.tmp 27) (.tmp 28) 3, none, []⟩]) (.cond (.tmp 29) (.seq (.reg [⟨some 30, .move (.tmp 5), none, []⟩, ⟨some 4, .assign (.tmp 30), none, []⟩]) .ret) .skip)))) (.reg [⟨some 31, .binOp .add 3 (.tmp 23) (.const (.int .i64 1)) 3, none, []⟩, ⟨some 23, .move (.tmp 31), none, []⟩]))))))))) (.reg [⟨some 32, .binOp .add 3 (.tmp 15) (.const (.int .i64 1)) 3, none, []⟩, ⟨some 15, .move (.tmp 32), none, []⟩]))))))) (.seq (.reg [⟨some 4, .assign (.const (.int .i64 (-1))), none, []⟩]) .ret)))
theorem s73 : Tryd.f73.body.bind (stripC 33) = some B73 := by kernel_rfl
theorem specOwner_ac {H : Heap} {E : List Nat} {b : Bk} {cs : List Value} (h : RBk H E b cs) (s : Int) : AC Tryd.prog 73 [.agg cs.toArray, iv s] H (iv (ownerB b s)) H [] := by
 have h0 := h
 obtain ⟨v, rfl, hv⟩ := h
 obtain ⟨a0, c0, rfl⟩ := hv.form
 have hn := hv.1
 have bac := fun L : Heap => specBookOk_ac (H := H ++ L) (RBk.frm.ext h0)
 refine AC.of_pureS (N := 33) Tryd.func73 s73 (by kernel_rfl) rfl rfl (by simp) rfl ?_; unfold B73
 by_cases q0 : bookOkB b = 0
 case neg =>
  have hr : ownerB b s = -1 := by simp [ownerB, q0]
  repeat (first | refine sA ?_ | refine sB ?_ | refine sC ?_ | refine sD ?_ | refine sE rfl ?_ | refine sF rfl ?_ | refine sG rfl ?_ | (refine sk_reg fun K hK => ?_; simp [q0]; (repeat ((first | refine AskX.go (bac _) ?_); simp [q0])); refine hK _ ?_; clear hK K))
  refine sk_ret ?_; simp [hr]
 have hr0 : ownerB b s = ownB b.lines s := by simp [ownerB, q0]
 rw [q0] at bac
 repeat (first | refine sA ?_ | refine sB ?_ | refine sC ?_ | refine sD ?_ | refine sE rfl ?_ | refine sF rfl ?_ | refine sG rfl ?_ | (refine sk_reg fun K hK => ?_; simp; (repeat ((first | refine AskX.go (bac _) ?_); simp)); refine hK _ ?_; clear hK K))
 refine sk_rng b.lines.length (fun i => [(1, iv s), (13, .slice a0 b.lines.length c0), (14, iv b.lines.length), (15, iv i)]) (fun i H1 => Gro H H1 ∧ ∀ j (hj : j < i) (hx : j < b.lines.length), inWay s b.lines[j] = false) (by simp [subL, getT]) ⟨(by first | exact Gro.refl _ | exact Gro.one _ _), fun j hj => by omega⟩ ?_ ?_
 ·rintro i H1 hi ⟨hg, hpre⟩
  have hl := hg.len
  obtain ⟨id, o, v1, v2, E1, E2, hve, hid, d0, d1, d2, d3, hw1, hw2, x1, x2, _⟩ := (hv.gro hg RLn.frm).line hi
  have hwi := wrap_id (x := (i : Int) + 1) (by omega) (by omega)
  have hfs := fun h => fstI_some (p := inWay s) hi h fun j hj => hpre j hj (by omega)
  generalize hln : b.lines[i] = l at *
  obtain ⟨a1, c1, rfl⟩ := hw1.form
  have hn1 := hw1.1
  repeat (first | refine sA ?_ | refine sB ?_ | refine sC ?_ | refine sD ?_ | refine sE rfl ?_ | refine sF rfl ?_ | refine sG rfl ?_ | (refine sk_reg fun K hK => ?_; simp [hi, hve, d0.s, d1.s, d2.s, d3.s, x1, x2, hl]; refine hK _ ?_; clear hK K))
  refine sk_rng l.way.length (fun j => [(1, iv s), (13, .slice a0 b.lines.length c0), (14, iv b.lines.length), (15, iv i), (5, iv i), (21, .slice a1 l.way.length c1), (22, iv l.way.length), (23, iv j)])
   (fun j H2 => Gro H1 H2 ∧ ∀ q (hj : q < j) (hx : q < l.way.length), l.way[q] ≠ s) (by simp [subL, getT, hve]) ⟨(by first | exact Gro.refl _ | exact Gro.one _ _), fun j hj => by omega⟩ ?_ ?_
  ·rintro j H2 hj ⟨hg2, hpre2⟩
   obtain ⟨id2, o2, hv2, hid2, f0⟩ := (hw1.gro hg2 (RP.frm _)).int hj
   have hwj := wrap_id (x := (j : Int) + 1) (by omega) (by omega)
   by_cases q : l.way[j] = s
   ·have hr := hfs (by simp only [inWay, decide_eq_true_eq]; rw [← q]; exact List.getElem_mem hj)
    repeat (first | refine sA ?_ | refine sB ?_ | refine sC ?_ | refine sD ?_ | refine sE rfl ?_ | refine sF rfl ?_ | refine sG rfl ?_ | (refine sk_reg fun K hK => ?_; simp [hj, hv2, f0.s, q]; refine hK _ ?_; clear hK K))
    refine sk_ret ?_; simp [hr0, ownB, hr]
    exact hg.trans hg2
   ·repeat (first | refine sA ?_ | refine sB ?_ | refine sC ?_ | refine sD ?_ | refine sE rfl ?_ | refine sF rfl ?_ | refine sG rfl ?_ | (refine sk_reg fun K hK => ?_; simp [hj, hv2, f0.s, q, hwj]; refine hK _ ?_; clear hK K))
    refine sk_inv ⟨by simp [subL, getT, hv2], hg2, fun k hk hx => ?_⟩
    by_cases e : k = j
    ·subst e; exact q
    ·exact hpre2 k (by omega) hx
  ·rintro H2 ⟨hg2, hpre2⟩
   repeat (first | refine sA ?_ | refine sB ?_ | refine sC ?_ | refine sD ?_ | refine sE rfl ?_ | refine sF rfl ?_ | refine sG rfl ?_ | (refine sk_reg fun K hK => ?_; simp [hwi]; refine hK _ ?_; clear hK K))
   refine sk_inv ⟨by simp [subL, getT, hve], hg.trans hg2, fun j hj hx => ?_⟩
   by_cases e : j = i
   ·subst e
    rw [hln]
    simp only [inWay, decide_eq_false_iff_not]
    intro hm
    obtain ⟨q, hq, e⟩ := List.getElem_of_mem hm
    exact hpre2 q hq hq e
   ·exact hpre j (by omega) hx
 ·rintro H1 ⟨hg, hpre⟩
  have hr := fstI_none (p := inWay s) (xs := b.lines) fun j hj => hpre j hj hj
  repeat (first | refine sA ?_ | refine sB ?_ | refine sC ?_ | refine sD ?_ | refine sE rfl ?_ | refine sF rfl ?_ | refine sG rfl ?_ | (refine sk_reg fun K hK => ?_; simp; refine hK _ ?_; clear hK K))
  refine sk_ret ?_; simp [hr0, ownB, hr]
  exact hg
def B66 : SC := .seq (.reg [⟨some 2, .box 39 (.tmp 0), none, []⟩, ⟨some 3, .box 57 (.tmp 1), none, []⟩, ⟨some 4, .assign (.const (.bool false)), none, []⟩]) (.seq (.seq (.reg [⟨some 5, .load 39 (.tmp 2), none, []⟩, ⟨some 6, .call ⟨.value (.func 35), #[.tmp 5], #[39]⟩, none, []⟩, ⟨some 7, .binOp .neq 3 (.tmp 6) (.const (.int .i64 0)) 3, none, []⟩, ⟨some 8, .move (.tmp 7), none, []⟩, ⟨some 9, .fieldAddr 57 (.tmp 3) 0, some (8, false), []⟩, ⟨some 10, .load 3 (.tmp 9), some (8, false), []⟩, ⟨some 11, .call ⟨.value (.func 23), #[.tmp 10, .const (.int .i64 1), .const (.int .i64 5)], #[3, 3, 3]⟩, some (8, false), []⟩, ⟨some 12, .unOp .not 4 (.tmp 11), some (8, false), []⟩, ⟨some 13, .pick (.tmp 8) (.const (.bool true)) (.tmp 12), none, []⟩, ⟨some 14, .move (.tmp 13), none, []⟩, ⟨some 15, .fieldAddr 57 (.tmp 3) 1, some (14, false), []⟩, ⟨some 16, .load 3 (.tmp 15), some (14, false), []⟩, ⟨some 17, .fieldAddr 39 (.tmp 2) 2, some (14, false), []⟩, ⟨some 18, .load 37 (.tmp 17), some (14, false), []⟩, ⟨some 19, .call ⟨.builtin .len, #[.tmp 18], #[37]⟩, some (14, false), []⟩, ⟨some 20, .binOp .sub 3 (.tmp 19) (.const (.int .i64 1)) 3, some (14, false), []⟩, ⟨some 21, .call ⟨.value (.func 23), #[.tmp 16, .const (.int .i64 0), .tmp 20], #[3, 3, 3]⟩, some (14, false), []⟩, ⟨some 22, .unOp .not 4 (.tmp 21), some (14, false), []⟩, ⟨some 23, .pick (.tmp 14) (.const (.bool true)) (.tmp 22), none, []⟩]) (.cond (.tmp 23) (.seq (.reg [⟨some 4, .assign (.const (.bool false)), none, []⟩]) .ret) .skip)) (.seq (.seq (.reg [⟨some 24, .fieldAddr 57 (.tmp 3) 0, none, []⟩, ⟨some 25, .load 3 (.tmp 24), none, []⟩, ⟨some 26, .binOp .eql 3 (.tmp 25) (.const (.int .i64 1)) 3, none, []⟩]) (.cond (.tmp 26) (.seq (.reg [⟨some 27, .fieldAddr 57 (.tmp 3) 2, none, []⟩, ⟨some 28, .load 3 (.tmp 27), none, []⟩, ⟨some 29, .fieldAddr 39 (.tmp 2) 1, none, []⟩, ⟨some 30, .load 3 (.tmp 29), none, []⟩, ⟨some 31, .binOp .sub 3 (.tmp 30) (.const (.int .i64 1)) 3, none, []⟩, ⟨some 32, .call ⟨.value (.func 23), #[.tmp 28, .const (.int .i64 0), .tmp 31], #[3, 3, 3]⟩, none, []⟩, ⟨some 4, .assign (.tmp 32), none, []⟩]) .ret) .skip)) (.seq (.reg [⟨some 33, .fieldAddr 57 (.tmp 3) 2, none, []⟩, ⟨some 34, .load 3 (.tmp 33), none, []⟩, ⟨some 35, .call ⟨.value (.func 23), #[.tmp 34, .const (.int .i64 0), .const (.int .i64 1000000)], #[3, 3, 3]⟩, none, []⟩, ⟨some 4, .assign (.tmp 35), none, []⟩]) .ret)))
theorem s66 : Tryd.f66.body.bind (stripC 36) = some B66 := by kernel_rfl
theorem implEventOk_ac {H : Heap} {E : List Nat} {b : Bk} {cs : List Value} (h : RBk H E b cs) (e : Evt) : AC Tryd.prog 66 [.agg cs.toArray, vEv e] H (.bool (evOkB b e)) H [] := by
 have h0 := h
 obtain ⟨v, rfl, hv⟩ := h
 obtain ⟨a0, c0, rfl⟩ := hv.form
 have hn := hv.1
 have bac := fun L : Heap => implBookOk_ac (H := H ++ L) (RBk.frm.ext h0)
 have hwl := wrap_id (x := (b.lines.length : Int) - 1) (by omega) (by omega)
 refine AC.of_pureS (N := 36) Tryd.func66 s66 (by kernel_rfl) rfl rfl (by simp) rfl ?_; unfold B66
 by_cases q0 : bookOkB b = 0
 case neg =>
  have hr : evOkB b e = false := by simp [evOkB, q0]
  repeat (first | refine sA ?_ | refine sB ?_ | refine sC ?_ | refine sD ?_ | refine sE rfl ?_ | refine sF rfl ?_ | refine sG rfl ?_ | (refine sk_reg fun K hK => ?_; simp [q0]; (repeat ((first | refine AskX.go (bac _) ?_); simp [q0])); refine hK _ ?_; clear hK K))
  refine sk_ret ?_; simp [hr]
 obtain ⟨s1, s2, _⟩ := bookOk_sec q0
 have hws := wrap_id (x := b.sec - 1) (by omega) (by omega)
 rw [q0] at bac
 cases q1 : inB e.op 1 5
 ·have hr : evOkB b e = false := by simp [evOkB, q1]
  repeat (first | refine sA ?_ | refine sB ?_ | refine sC ?_ | refine sD ?_ | refine sE rfl ?_ | refine sF rfl ?_ | refine sG rfl ?_ | (refine sk_reg fun K hK => ?_; simp [hwl, q1]; (repeat ((first | refine AskX.go (bac _) ?_ | refine AskX.go (in_ac _ _ _) ?_); simp [hwl, q1])); refine hK _ ?_; clear hK K))
  refine sk_ret ?_; simp [hr]
 cases q2 : inB e.train 0 ((b.lines.length : Int) - 1)
 ·have hr : evOkB b e = false := by simp [evOkB, q2]
  repeat (first | refine sA ?_ | refine sB ?_ | refine sC ?_ | refine sD ?_ | refine sE rfl ?_ | refine sF rfl ?_ | refine sG rfl ?_ | (refine sk_reg fun K hK => ?_; simp [hwl, q1, q2]; (repeat ((first | refine AskX.go (bac _) ?_ | refine AskX.go (in_ac _ _ _) ?_); simp [hwl, q1, q2])); refine hK _ ?_; clear hK K))
  refine sk_ret ?_; simp [hr]
 by_cases q3 : e.op = 1
 ·have hr : evOkB b e = inB e.n 0 (b.sec - 1) := by simp [evOkB, q0, q1, q2, q3]; simp [inB]
  have q3' := eq_true q3
  repeat (first | refine sA ?_ | refine sB ?_ | refine sC ?_ | refine sD ?_ | refine sE rfl ?_ | refine sF rfl ?_ | refine sG rfl ?_ | (refine sk_reg fun K hK => ?_; simp [hwl, q1, q2, q3', hws]; (repeat ((first | refine AskX.go (bac _) ?_ | refine AskX.go (in_ac _ _ _) ?_); simp [hwl, q1, q2, q3', hws])); refine hK _ ?_; clear hK K))
  refine sk_ret ?_; simp [hr]
 ·have hr : evOkB b e = inB e.n 0 1000000 := by simp [evOkB, q0, q1, q2, q3]
  repeat (first | refine sA ?_ | refine sB ?_ | refine sC ?_ | refine sD ?_ | refine sE rfl ?_ | refine sF rfl ?_ | refine sG rfl ?_ | (refine sk_reg fun K hK => ?_; simp [hwl, q1, q2, q3, hws]; (repeat ((first | refine AskX.go (bac _) ?_ | refine AskX.go (in_ac _ _ _) ?_); simp [hwl, q1, q2, q3, hws])); refine hK _ ?_; clear hK K))
  refine sk_ret ?_; simp [hr]
def B72 : SC := .seq (.reg [⟨some 2, .box 39 (.tmp 0), none, []⟩, ⟨some 3, .box 57 (.tmp 1), none, []⟩, ⟨some 4, .assign (.const (.bool false)), none, []⟩]) (.seq (.seq (.reg [⟨some 5, .load 39 (.tmp 2), none, []⟩, ⟨some 6, .call ⟨.value (.func 54), #[.tmp 5], #[39]⟩, none, []⟩, ⟨some 7, .binOp .neq 3 (.tmp 6) (.const (.int .i64 0)) 3, none, []⟩, ⟨some 8, .move (.tmp 7), none, []⟩, ⟨some 9, .fieldAddr 57 (.tmp 3) 1, some (8, false), []⟩, ⟨some 10, .load 3 (.tmp 9), some (8, false), []⟩, ⟨some 11, .fieldAddr 39 (.tmp 2) 2, some (8, false), []⟩, ⟨some 12, .load 37 (.tmp 11), some (8, false), []⟩, ⟨some 13, .call ⟨.builtin .len, #[.tmp 12], #[37]⟩, some (8, false), []⟩, ⟨some 14, .binOp .sub 3 (.tmp 13) (.const (.int .i64 1)) 3, some (8, false), []⟩, ⟨some 15, .call ⟨.value (.func 53), #[.tmp 10, .const (.int .i64 0), .tmp 14], #[3, 3, 3]⟩, some (8, false), []⟩, ⟨some 16, .unOp .not 4 (.tmp 15), some (8, false), []⟩, ⟨some 17, .pick (.tmp 8) (.const (.bool true)) (.tmp 16), none, []⟩, ⟨some 18, .move (.tmp 17), none, []⟩, ⟨some 19, .fieldAddr 57 (.tmp 3) 0, some (18, false), []⟩, ⟨some 20, .load 3 (.tmp 19), some (18, false), []⟩, ⟨some 21, .call ⟨.value (.func 53), #[.tmp 20, .const (.int .i64 1), .const (.int .i64 5)], #[3, 3, 3]⟩, some (18, false), []⟩, ⟨some 22, .unOp .not 4 (.tmp 21), some (18, false), []⟩, ⟨some 23, .pick (.tmp 18) (.const (.bool true)) (.tmp 22), none, []⟩]) (.cond (.tmp 23) (.seq (.reg [⟨some 4, .assign (.const (.bool false)), none, []⟩]) .ret) .skip)) (.seq (.seq (.reg [⟨some 24, .fieldAddr 57 (.tmp 3) 0, none, []⟩, ⟨some 25, .load 3 (.tmp 24), none, []⟩, ⟨some 26, .binOp .eql 3 (.tmp 25) (.const (.int .i64 1)) 3, none, []⟩]) (.cond (.tmp 26) (.seq (.reg [⟨some 27, .fieldAddr 57 (.tmp 3) 2, none, []⟩, ⟨some 28, .load 3 (.tmp 27), none, []⟩, ⟨some 29, .fieldAddr 39 (.tmp 2) 1, none, []⟩, ⟨some 30, .load 3 (.tmp 29), none, []⟩, ⟨some 31, .binOp .sub 3 (.tmp 30) (.const (.int .i64 1)) 3, none, []⟩, ⟨some 32, .call ⟨.value (.func 53), #[.tmp 28, .const (.int .i64 0), .tmp 31], #[3, 3, 3]⟩, none, []⟩, ⟨some 4, .assign (.tmp 32), none, []⟩]) .ret) .skip)) (.seq (.reg [⟨some 33, .fieldAddr 57 (.tmp 3) 2, none, []⟩, ⟨some 34, .load 3 (.tmp 33), none, []⟩, ⟨some 35, .call ⟨.value (.func 53), #[.tmp 34, .const (.int .i64 0), .const (.int .i64 1000000)], #[3, 3, 3]⟩, none, []⟩, ⟨some 4, .assign (.tmp 35), none, []⟩]) .ret)))
theorem s72 : Tryd.f72.body.bind (stripC 36) = some B72 := by kernel_rfl
theorem specEventOk_ac {H : Heap} {E : List Nat} {b : Bk} {cs : List Value} (h : RBk H E b cs) (e : Evt) : AC Tryd.prog 72 [.agg cs.toArray, vEv e] H (.bool (evOkB b e)) H [] := by
 have h0 := h
 obtain ⟨v, rfl, hv⟩ := h
 obtain ⟨a0, c0, rfl⟩ := hv.form
 have hn := hv.1
 have bac := fun L : Heap => specBookOk_ac (H := H ++ L) (RBk.frm.ext h0)
 have hwl := wrap_id (x := (b.lines.length : Int) - 1) (by omega) (by omega)
 refine AC.of_pureS (N := 36) Tryd.func72 s72 (by kernel_rfl) rfl rfl (by simp) rfl ?_; unfold B72
 by_cases q0 : bookOkB b = 0
 case neg =>
  have hr : evOkB b e = false := by simp [evOkB, q0]
  repeat (first | refine sA ?_ | refine sB ?_ | refine sC ?_ | refine sD ?_ | refine sE rfl ?_ | refine sF rfl ?_ | refine sG rfl ?_ | (refine sk_reg fun K hK => ?_; simp [q0]; (repeat ((first | refine AskX.go (bac _) ?_); simp [q0])); refine hK _ ?_; clear hK K))
  refine sk_ret ?_; simp [hr]
 obtain ⟨s1, s2, _⟩ := bookOk_sec q0
 have hws := wrap_id (x := b.sec - 1) (by omega) (by omega)
 rw [q0] at bac
 cases q2 : inB e.train 0 ((b.lines.length : Int) - 1)
 ·have hr : evOkB b e = false := by simp [evOkB, q2]
  repeat (first | refine sA ?_ | refine sB ?_ | refine sC ?_ | refine sD ?_ | refine sE rfl ?_ | refine sF rfl ?_ | refine sG rfl ?_ | (refine sk_reg fun K hK => ?_; simp [hwl, q2]; (repeat ((first | refine AskX.go (bac _) ?_ | refine AskX.go (l1in_ac _ _ _) ?_); simp [hwl, q2])); refine hK _ ?_; clear hK K))
  refine sk_ret ?_; simp [hr]
 cases q1 : inB e.op 1 5
 ·have hr : evOkB b e = false := by simp [evOkB, q1]
  repeat (first | refine sA ?_ | refine sB ?_ | refine sC ?_ | refine sD ?_ | refine sE rfl ?_ | refine sF rfl ?_ | refine sG rfl ?_ | (refine sk_reg fun K hK => ?_; simp [hwl, q1, q2]; (repeat ((first | refine AskX.go (bac _) ?_ | refine AskX.go (l1in_ac _ _ _) ?_); simp [hwl, q1, q2])); refine hK _ ?_; clear hK K))
  refine sk_ret ?_; simp [hr]
 by_cases q3 : e.op = 1
 ·have hr : evOkB b e = inB e.n 0 (b.sec - 1) := by simp [evOkB, q0, q1, q2, q3]; simp [inB]
  have q3' := eq_true q3
  repeat (first | refine sA ?_ | refine sB ?_ | refine sC ?_ | refine sD ?_ | refine sE rfl ?_ | refine sF rfl ?_ | refine sG rfl ?_ | (refine sk_reg fun K hK => ?_; simp [hwl, q1, q2, q3', hws]; (repeat ((first | refine AskX.go (bac _) ?_ | refine AskX.go (l1in_ac _ _ _) ?_); simp [hwl, q1, q2, q3', hws])); refine hK _ ?_; clear hK K))
  refine sk_ret ?_; simp [hr]
 ·have hr : evOkB b e = inB e.n 0 1000000 := by simp [evOkB, q0, q1, q2, q3]
  repeat (first | refine sA ?_ | refine sB ?_ | refine sC ?_ | refine sD ?_ | refine sE rfl ?_ | refine sF rfl ?_ | refine sG rfl ?_ | (refine sk_reg fun K hK => ?_; simp [hwl, q1, q2, q3, hws]; (repeat ((first | refine AskX.go (bac _) ?_ | refine AskX.go (l1in_ac _ _ _) ?_); simp [hwl, q1, q2, q3, hws])); refine hK _ ?_; clear hK K))
  refine sk_ret ?_; simp [hr]
end Go.Proofs.YtpoedfmkiiijnaaDoor
