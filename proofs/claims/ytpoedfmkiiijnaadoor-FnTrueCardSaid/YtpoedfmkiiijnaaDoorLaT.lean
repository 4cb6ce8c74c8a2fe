/- The statement's own function FnTrue: it answers true. A walk. -/
import Derived.Test.YtpoedfmkiiijnaaDoorDw5
import Derived.Test.YtpoedfmkiiijnaaDoorDr1
import Derived.Test.YtpoedfmkiiijnaaDoorDr2
import Derived.Test.YtpoedfmkiiijnaaDoorAn1
import Derived.Test.YtpoedfmkiiijnaaDoorAn2
import Derived.Test.YtpoedfmkiiijnaaDoorWw
import Derived.Test.YtpoedfmkiiijnaaDoorOn1
import Derived.Test.YtpoedfmkiiijnaaDoorBk6
import Derived.Test.YtpoedfmkiiijnaaDoorPuW
namespace Go.Proofs.YtpoedfmkiiijnaaDoor
open Go Go.RowKit Go.Proofs.YtpoedfmkiiijnaaDoorAm
set_option linter.unusedVariables false
set_option linter.unusedSimpArgs false
set_option maxRecDepth 10000
set_option maxHeartbeats 8000000
/-- The counts' block, beside what was there. -/
structure AlO (H H1 : Heap) (O : Nat) (arr : List Int) : Prop where
 g : Gro H H1
 o : H1[O]? = some ⟨3, arr.map (fun x => iv x), true, true⟩
 h : H.length ≤ O
theorem AlO.gro {H H1 H2 : Heap} {O : Nat} {arr : List Int} (h : AlO H H1 O arr) (g : Gro H1 H2) : AlO H H2 O arr := ⟨h.g.trans g, (g.same (lt_of_get h.o)).trans h.o, h.h⟩
theorem AlO.cf {H H1 : Heap} {O : Nat} {arr : List Int} (h : AlO H H1 O arr) {j : Nat} (hj : j < arr.length) : CF H1 O j (iv arr[j]) := CF.of h.o rfl (by simp [hj])
theorem AlO.put {H H1 : Heap} {O : Nat} {arr : List Int} (h : AlO H H1 O arr) (j : Nat) (x : Int) : AlO H (H1.put O j (iv x)) O (arr.set j x) := by
 have hh := h.h
 refine ⟨Gro.of (by rw [length_put]; exact h.g.len) fun i hi => (get_put_ne _ _ _ (by omega)).trans (h.g.same hi), ?_, hh⟩
 rw [get_put, h.o]
 simp [List.map_set]
def B4 : SC := .seq (.reg [⟨some 2, .assign (.const (.bool false)), none, []⟩]) (.seq (.seq (.reg [⟨some 17, .move (.tmp 0), none, []⟩, ⟨some 18, .call ⟨.builtin .len, #[.tmp 17], #[32]⟩, none, []⟩, ⟨some 19, .binOp .gtr 3 (.tmp 18) (.const (.int .i64 1048576)) 3, none, []⟩]) (.cond (.tmp 19) (.seq (.reg [⟨some 2, .assign (.const (.bool true)), none, []⟩]) .ret) .skip)) (.seq (.reg [⟨some 21, .move (.tmp 0), none, []⟩, ⟨some 22, .call ⟨.value (.func 12), #[.tmp 21], #[32]⟩, none, []⟩, ⟨some 20, .move (.tmp 22), none, []⟩, ⟨some 23, .extract (.tmp 20) 0, none, []⟩, ⟨some 24, .extract (.tmp 20) 1, none, []⟩, ⟨some 25, .extract (.tmp 20) 2, none, []⟩, ⟨some 3, .assign (.tmp 23), none, []⟩, ⟨some 4, .assign (.tmp 24), none, []⟩, ⟨some 5, .assign (.tmp 25), none, []⟩]) (.seq (.reg [⟨some 26, .move (.tmp 3), none, []⟩, ⟨some 27, .move (.tmp 4), none, []⟩, ⟨some 28, .move (.tmp 5), none, []⟩, ⟨some 29, .call ⟨.value (.func 13), #[.tmp 26, .tmp 27, .tmp 28], #[3, 22, 27]⟩, none, []⟩, ⟨some 6, .assign (.tmp 29), none, []⟩]) (.seq (.reg [⟨some 30, .move (.tmp 3), none, []⟩, ⟨some 31, .move (.tmp 4), none, []⟩, ⟨some 32, .move (.tmp 5), none, []⟩, ⟨some 33, .call ⟨.value (.func 14), #[.tmp 30, .tmp 31, .tmp 32], #[3, 22, 27]⟩, none, []⟩, ⟨some 7, .assign (.tmp 33), none, []⟩]) (.seq (.seq (.reg [⟨some 34, .move (.tmp 6), none, []⟩, ⟨some 35, .call ⟨.builtin .len, #[.tmp 34], #[35]⟩, none, []⟩, ⟨some 36, .move (.tmp 7), none, []⟩, ⟨some 37, .call ⟨.builtin .len, #[.tmp 36], #[35]⟩, none, []⟩, ⟨some 38, .binOp .neq 3 (.tmp 35) (.tmp 37) 3, none, []⟩]) (.cond (.tmp 38) (.seq (.reg [⟨some 2, .assign (.const (.bool false)), none, []⟩]) .ret) .skip)) (.seq (.seq (.reg [⟨some 39, .move (.tmp 6), none, []⟩, ⟨some 40, .call ⟨.builtin .len, #[.tmp 39], #[35]⟩, none, []⟩, ⟨some 41, .move (.const (.int .i64 0)), none, []⟩]) (.block 0 (.loop (.seq (.reg [⟨some 42, .binOp .lss 3 (.tmp 41) (.tmp 40) 3, none, []⟩]) (.seq (.cond (.tmp 42) .skip (.exit 0)) (.seq (.block 1 (.seq (.reg [⟨some 43, .move (.tmp 41), none, []⟩, ⟨some 44, .indexAddr 35 (.tmp 39) (.tmp 41), none, []⟩, ⟨some 45, .load 44 (.tmp 44), none, []⟩, ⟨some 9, .alloc 44, none, []⟩, ⟨some 8, .assign (.tmp 43), none, []⟩, ⟨none, .store 44 (.tmp 9) (.tmp 45), none, []⟩]) (.seq (.seq (.drw 0 [⟨some 46, .fieldAddr 44 (.tmp 9) 0, none, []⟩, ⟨some 47, .load 3 (.tmp 46), none, [0]⟩, ⟨some 48, .move (.tmp 7), none, []⟩, ⟨some 49, .move (.tmp 8), none, []⟩, ⟨some 50, .indexAddr 35 (.tmp 48) (.tmp 49), none, [2, 3]⟩, ⟨some 51, .fieldAddr 44 (.tmp 50) 0, none, [4, 2, 3]⟩, ⟨some 52, .load 3 (.tmp 51), none, [5, 4, 2, 3]⟩, ⟨some 53, .binOp .neq 3 (.tmp 47) (.tmp 52) 3, none, [1, 0, 6, 5, 4, 2, 3]⟩, ⟨some 54, .move (.tmp 53), none, [7, 1, 0, 6, 5, 4, 2, 3]⟩, ⟨some 55, .fieldAddr 44 (.tmp 9) 1, some (54, false), [8, 7, 1, 0, 6, 5, 4, 2, 3]⟩, ⟨some 56, .load 42 (.tmp 55), some (54, false), [9, 8, 7, 1, 0, 6, 5, 4, 2, 3]⟩, ⟨some 57, .move (.tmp 7), some (54, false), [8, 7, 1, 0, 6, 5, 4, 2, 3]⟩, ⟨some 58, .move (.tmp 8), some (54, false), [8, 7, 1, 0, 6, 5, 4, 2, 3]⟩, ⟨some 59, .indexAddr 35 (.tmp 57) (.tmp 58), some (54, false), [11, 8, 7, 1, 0, 6, 5, 4, 2, 3, 12]⟩, ⟨some 60, .fieldAddr 44 (.tmp 59) 1, some (54, false), [13, 11, 8, 7, 1, 0, 6, 5, 4, 2, 3, 12]⟩, ⟨some 61, .load 42 (.tmp 60), some (54, false), [14, 13, 11, 8, 7, 1, 0, 6, 5, 4, 2, 3, 12]⟩, ⟨some 62, .call ⟨.value (.func 15), #[.tmp 56, .tmp 61], #[42, 42]⟩, some (54, false), [10, 9, 8, 7, 1, 0, 6, 5, 4, 2, 3, 15, 14, 13, 11, 12]⟩, ⟨some 63, .unOp .not 4 (.tmp 62), some (54, false), [16, 10, 9, 8, 7, 1, 0, 6, 5, 4, 2, 3, 15, 14, 13, 11, 12]⟩, ⟨some 64, .pick (.tmp 54) (.const (.bool true)) (.tmp 63), none, [8, 7, 1, 0, 6, 5, 4, 2, 3, 17, 16, 10, 9, 15, 14, 13, 11, 12]⟩]) (.cond (.tmp 64) (.seq (.reg [⟨some 2, .assign (.const (.bool false)), none, []⟩]) .ret) .skip)) (.seq (.reg [⟨some 65, .move (.tmp 3), none, []⟩, ⟨some 66, .makeSlice 22 (.tmp 65) (.tmp 65), none, []⟩, ⟨some 10, .assign (.tmp 66), none, []⟩]) (.seq (.seq (.reg [⟨some 67, .fieldAddr 44 (.tmp 9) 1, none, []⟩, ⟨some 68, .fieldAddr 42 (.tmp 67) 2, none, []⟩, ⟨some 69, .load 40 (.tmp 68), none, []⟩, ⟨some 70, .call ⟨.builtin .len, #[.tmp 69], #[40]⟩, none, []⟩, ⟨some 71, .move (.const (.int .i64 0)), none, []⟩]) (.block 2 (.loop (.seq (.reg [⟨some 72, .binOp .lss 3 (.tmp 71) (.tmp 70) 3, none, []⟩]) (.seq (.cond (.tmp 72) .skip (.exit 2)) (.seq (.block 3 (.seq (.reg [⟨some 73, .move (.tmp 71), none, []⟩, ⟨some 74, .indexAddr 40 (.tmp 69) (.tmp 71), none, []⟩, ⟨some 75, .load 47 (.tmp 74), none, []⟩, ⟨some 12, .alloc 47, none, []⟩, ⟨some 11, .assign (.tmp 73), none, []⟩, ⟨none, .store 47 (.tmp 12) (.tmp 75), none, []⟩]) (.seq (.reg [⟨some 76, .fieldAddr 44 (.tmp 9) 1, none, []⟩, ⟨some 77, .fieldAddr 42 (.tmp 76) 1, none, []⟩, ⟨some 78, .fieldAddr 39 (.tmp 77) 2, none, []⟩, ⟨some 79, .load 37 (.tmp 78), none, []⟩, ⟨some 80, .move (.tmp 11), none, []⟩, ⟨some 81, .indexAddr 37 (.tmp 79) (.tmp 80), none, []⟩, ⟨some 82, .load 50 (.tmp 81), none, []⟩, ⟨some 13, .alloc 50, none, []⟩, ⟨none, .store 50 (.tmp 13) (.tmp 82), none, []⟩]) (.seq (.seq (.drw 0 [⟨some 83, .fieldAddr 47 (.tmp 12) 2, none, []⟩, ⟨some 84, .load 3 (.tmp 83), none, [0]⟩, ⟨some 85, .fieldAddr 50 (.tmp 13) 0, none, []⟩, ⟨some 86, .load 3 (.tmp 85), none, [2]⟩, ⟨some 87, .binOp .lss 3 (.tmp 84) (.tmp 86) 3, none, [1, 0, 3, 2]⟩, ⟨some 88, .move (.tmp 87), none, [4, 1, 0, 3, 2]⟩, ⟨some 89, .fieldAddr 47 (.tmp 12) 3, some (88, false), [5, 4, 1, 0, 3, 2]⟩, ⟨some 90, .load 3 (.tmp 89), some (88, false), [6, 5, 4, 1, 0, 3, 2]⟩, ⟨some 91, .fieldAddr 47 (.tmp 12) 2, some (88, false), [5, 4, 1, 0, 3, 2]⟩, ⟨some 92, .load 3 (.tmp 91), some (88, false), [8, 5, 4, 1, 0, 3, 2]⟩, ⟨some 93, .binOp .lss 3 (.tmp 90) (.tmp 92) 3, some (88, false), [7, 6, 5, 4, 1, 0, 3, 2, 9, 8]⟩, ⟨some 94, .pick (.tmp 88) (.const (.bool true)) (.tmp 93), none, [5, 4, 1, 0, 3, 2, 10, 7, 6, 9, 8]⟩, ⟨some 95, .move (.tmp 94), none, [11, 5, 4, 1, 0, 3, 2, 10, 7, 6, 9, 8]⟩, ⟨some 96, .fieldAddr 47 (.tmp 12) 3, some (95, false), [12, 11, 5, 4, 1, 0, 3, 2, 10, 7, 6, 9, 8]⟩, ⟨some 97, .load 3 (.tmp 96), some (95, false), [13, 12, 11, 5, 4, 1, 0, 3, 2, 10, 7, 6, 9, 8]⟩, ⟨some 98, .fieldAddr 47 (.tmp 12) 1, some (95, false), [12, 11, 5, 4, 1, 0, 3, 2, 10, 7, 6, 9, 8]⟩, ⟨some 99, .load 3 (.tmp 98), some (95, false), [15, 12, 11, 5, 4, 1, 0, 3, 2, 10, 7, 6, 9, 8]⟩, ⟨some 100, .binOp .geq 3 (.tmp 97) (.tmp 99) 3, some (95, false), [14, 13, 12, 11, 5, 4, 1, 0, 3, 2, 10, 7, 6, 9, 8, 16, 15]⟩, ⟨some 101, .pick (.tmp 95) (.const (.bool true)) (.tmp 100), none, [12, 11, 5, 4, 1, 0, 3, 2, 10, 7, 6, 9, 8, 17, 14, 13, 16, 15]⟩, ⟨some 102, .move (.tmp 101), none, [18, 12, 11, 5, 4, 1, 0, 3, 2, 10, 7, 6, 9, 8, 17, 14, 13, 16, 15]⟩, ⟨some 103, .fieldAddr 47 (.tmp 12) 1, some (102, false), [19, 18, 12, 11, 5, 4, 1, 0, 3, 2, 10, 7, 6, 9, 8, 17, 14, 13, 16, 15]⟩, ⟨some 104, .load 3 (.tmp 103), some (102, false), [20, 19, 18, 12, 11, 5, 4, 1, 0, 3, 2, 10, 7, 6, 9, 8, 17, 14, 13, 16, 15]⟩, ⟨some 105, .fieldAddr 44 (.tmp 9) 1, some (102, false), [19, 18, 12, 11, 5, 4, 1, 0, 3, 2, 10, 7, 6, 9, 8, 17, 14, 13, 16, 15]⟩, ⟨some 106, .fieldAddr 42 (.tmp 105) 1, some (102, false), [22, 19, 18, 12, 11, 5, 4, 1, 0, 3, 2, 10, 7, 6, 9, 8, 17, 14, 13, 16, 15]⟩, ⟨some 107, .load 39 (.tmp 106), some (102, false), [23, 22, 19, 18, 12, 11, 5, 4, 1, 0, 3, 2, 10, 7, 6, 9, 8, 17, 14, 13, 16, 15]⟩, ⟨some 108, .move (.tmp 11), some (102, false), [19, 18, 12, 11, 5, 4, 1, 0, 3, 2, 10, 7, 6, 9, 8, 17, 14, 13, 16, 15]⟩, ⟨some 109, .call ⟨.value (.func 16), #[.tmp 107, .tmp 108], #[39, 3]⟩, some (102, false), [24, 23, 22, 19, 18, 12, 11, 5, 4, 1, 0, 3, 2, 10, 7, 6, 9, 8, 17, 14, 13, 16, 15, 25]⟩, ⟨some 110, .binOp .gtr 3 (.tmp 104) (.tmp 109) 3, some (102, false), [21, 20, 19, 18, 12, 11, 5, 4, 1, 0, 3, 2, 10, 7, 6, 9, 8, 17, 14, 13, 16, 15, 26, 24, 23, 22, 25]⟩, ⟨some 111, .pick (.tmp 102) (.const (.bool true)) (.tmp 110), none, [19, 18, 12, 11, 5, 4, 1, 0, 3, 2, 10, 7, 6, 9, 8, 17, 14, 13, 16, 15, 27, 21, 20, 26, 24, 23, 22, 25]⟩]) (.cond (.tmp 111) (.seq (.reg [⟨some 2, .assign (.const (.bool false)), none, []⟩]) .ret) .skip)) (.seq (.reg [⟨some 112, .fieldAddr 47 (.tmp 12) 2, none, []⟩, ⟨some 113, .load 3 (.tmp 112), none, []⟩, ⟨some 14, .assign (.tmp 113), none, []⟩]) (.block 4 (.loop (.seq (.seq (.reg [⟨some 114, .move (.tmp 14), none, []⟩, ⟨some 115, .fieldAddr 47 (.tmp 12) 3, none, []⟩, ⟨some 116, .load 3 (.tmp 115), none, []⟩, ⟨some 117, .binOp .leq 3 (.tmp 114) (.tmp 116) 3, none, []⟩]) (.cond (.tmp 117) .skip (.exit 4))) (.seq (.block 5 (.reg [⟨some 120, .move (.tmp 10), none, []⟩, ⟨some 121, .fieldAddr 50 (.tmp 13) 1, none, []⟩, ⟨some 122, .load 22 (.tmp 121), none, []⟩, ⟨some 123, .move (.tmp 14), none, []⟩, ⟨some 124, .fieldAddr 50 (.tmp 13) 0, none, []⟩, ⟨some 125, .load 3 (.tmp 124), none, []⟩, ⟨some 126, .binOp .sub 3 (.tmp 123) (.tmp 125) 3, none, []⟩, ⟨some 127, .indexAddr 22 (.tmp 122) (.tmp 126), none, []⟩, ⟨some 128, .load 3 (.tmp 127), none, []⟩, ⟨some 129, .indexAddr 22 (.tmp 120) (.tmp 128), none, []⟩, ⟨some 130, .load 3 (.tmp 129), none, []⟩, ⟨some 131, .binOp .add 3 (.tmp 130) (.const (.int .i64 1)) 3, none, []⟩, ⟨some 132, .indexAddr 22 (.tmp 120) (.tmp 128), none, []⟩, ⟨none, .store 3 (.tmp 132) (.tmp 131), none, []⟩])) (.reg [⟨some 118, .move (.tmp 14), none, []⟩, ⟨some 119, .binOp .add 3 (.tmp 118) (.const (.int .i64 1)) 3, none, []⟩, ⟨some 14, .assign (.tmp 119), none, []⟩])))))))))) (.reg [⟨some 133, .binOp .add 3 (.tmp 71) (.const (.int .i64 1)) 3, none, []⟩, ⟨some 71, .move (.tmp 133), none, []⟩]))))))) (.seq (.reg [⟨some 134, .move (.tmp 10), none, []⟩, ⟨some 135, .call ⟨.builtin .len, #[.tmp 134], #[22]⟩, none, []⟩, ⟨some 136, .move (.const (.int .i64 0)), none, []⟩]) (.block 6 (.loop (.seq (.reg [⟨some 137, .binOp .lss 3 (.tmp 136) (.tmp 135) 3, none, []⟩]) (.seq (.cond (.tmp 137) .skip (.exit 6)) (.seq (.block 7 (.seq (.reg [⟨some 138, .move (.tmp 136), none, []⟩, ⟨some 139, .indexAddr 22 (.tmp 134) (.tmp 136), none, []⟩, ⟨some 140, .load 3 (.tmp 139), none, []⟩, ⟨some 15, .assign (.tmp 138), none, []⟩, ⟨some 16, .assign (.tmp 140), none, []⟩]) (.seq (.reg [⟨some 141, .move (.tmp 16), none, []⟩, ⟨some 142, .binOp .gtr 3 (.tmp 141) (.const (.int .i64 1)) 3, none, []⟩, ⟨some 143, .move (.tmp 142), none, []⟩, ⟨some 144, .fieldAddr 44 (.tmp 9) 1, some (143, false), []⟩, ⟨some 145, .load 42 (.tmp 144), some (143, false), []⟩, ⟨some 146, .move (.tmp 15), some (143, false), []⟩, ⟨some 147, .call ⟨.value (.func 17), #[.tmp 145, .tmp 146], #[42, 3]⟩, some (143, false), []⟩, ⟨some 148, .call ⟨.builtin .len, #[.tmp 147], #[22]⟩, some (143, false), []⟩, ⟨some 149, .move (.tmp 16), some (143, false), []⟩, ⟨some 150, .binOp .neq 3 (.tmp 148) (.tmp 149) 3, some (143, false), []⟩, ⟨some 151, .pick (.tmp 143) (.const (.bool true)) (.tmp 150), none, []⟩]) (.cond (.tmp 151) (.seq (.reg [⟨some 2, .assign (.const (.bool false)), none, []⟩]) .ret) .skip)))) (.reg [⟨some 152, .binOp .add 3 (.tmp 136) (.const (.int .i64 1)) 3, none, []⟩, ⟨some 136, .move (.tmp 152), none, []⟩])))))))))))) (.reg [⟨some 153, .binOp .add 3 (.tmp 41) (.const (.int .i64 1)) 3, none, []⟩, ⟨some 41, .move (.tmp 153), none, []⟩]))))))) (.seq (.reg [⟨some 154, .move (.tmp 3), none, []⟩, ⟨some 155, .move (.tmp 4), none, []⟩, ⟨some 156, .move (.tmp 5), none, []⟩, ⟨some 157, .call ⟨.value (.func 9), #[.tmp 154, .tmp 155, .tmp 156], #[3, 22, 27]⟩, none, []⟩, ⟨some 158, .move (.tmp 3), none, []⟩, ⟨some 159, .move (.tmp 4), none, []⟩, ⟨some 160, .move (.tmp 5), none, []⟩, ⟨some 161, .call ⟨.value (.func 6), #[.tmp 158, .tmp 159, .tmp 160], #[3, 22, 27]⟩, none, []⟩, ⟨some 162, .binOp .eql 9 (.tmp 157) (.tmp 161) 9, none, []⟩, ⟨some 2, .assign (.tmp 162), none, []⟩]) .ret)))))))
theorem s4 : Tryd.f4.body.bind (stripC 163) = some B4 := by kernel_rfl
theorem lawTrue_ac {H : Heap} {E : List Nat} {v : Value} {bs : List Int} (h : RS 1 RBy H E v bs) : AC Tryd.prog 4 [v] H (.bool true) H [] := by
 obtain ⟨a1, c1, rfl⟩ := h.form
 have hn := h.1
 refine AC.of_pureS (N := 163) Tryd.func4 s4 (by kernel_rfl) rfl rfl (by simp) rfl ?_; unfold B4
 by_cases q : bs.length ≤ 1048576
 case neg =>
  have q' : (1048576 : Int) < bs.length := by omega
  repeat (first | refine sA ?_ | refine sB ?_ | refine sC ?_ | refine sD ?_ | refine sE rfl ?_ | refine sF rfl ?_ | refine sG rfl ?_ | ((first | refine sk_reg fun K hK => ?_ | refine sk_drw mix fun K hK => ?_); simp [q']; refine hK _ ?_; clear hK K))
  refine sk_ret ?_; simp
 have q' : ¬ (1048576 : Int) < bs.length := by omega
 repeat (first | refine sA ?_ | refine sB ?_ | refine sC ?_ | refine sD ?_ | refine sE rfl ?_ | refine sF rfl ?_ | refine sG rfl ?_ | ((first | refine sk_reg fun K hK => ?_ | refine sk_drw mix fun K hK => ?_); simp [q']; refine hK _ ?_; clear hK K))
 refine sk_reg fun K hK => ?_; simp
 refine AskX.mkr (drives_mk h) ?_; rintro _ J1 A1 ⟨s, l, vt, ve, T, es', A', rfl, _, s1, s2, rt, re, hac, hel⟩ o1 n1; simp [rt.one, rt.cv, re.one, re.cv]
 refine hK _ ?_; clear hK K
 obtain ⟨S, rfl⟩ : ∃ S : Nat, s = S := ⟨s.toNat, by omega⟩
 have hDat := driveW_at (s := (S : Int)) (l := l) (es := es')
 have hDl := (driveW_B (s := (S : Int)) (l := l) (es := es')).2
 obtain ⟨at1, ct1, rfl⟩ := rt.form
 obtain ⟨av, cv, rfl⟩ := re.form
 repeat (first | refine sA ?_ | refine sB ?_ | refine sC ?_ | refine sD ?_ | refine sE rfl ?_ | refine sF rfl ?_ | refine sG rfl ?_ | ((first | refine sk_reg fun K hK => ?_ | refine sk_drw mix fun K hK => ?_); simp; refine hK _ ?_; clear hK K))
 refine sk_reg fun K hK => ?_; simp
 refine AskX.mkr (implDrive_mk (rt.gro (by first | exact Gro.refl _ | exact ⟨_, rfl⟩ | exact ⟨_, by simp only [List.append_assoc, List.cons_append, List.nil_append]; rfl⟩ | exact ⟨[], by simp⟩) (RP.frm _)) (re.gro (by first | exact Gro.refl _ | exact ⟨_, rfl⟩ | exact ⟨_, by simp only [List.append_assoc, List.cons_append, List.nil_append]; rfl⟩ | exact ⟨[], by simp⟩) (RP.frm _)) (S : Int)) ?_; rintro w6 J6 A6 r6 o6 n6; simp [r6.one, r6.cv]
 refine hK _ ?_; clear hK K
 repeat (first | refine sA ?_ | refine sB ?_ | refine sC ?_ | refine sD ?_ | refine sE rfl ?_ | refine sF rfl ?_ | refine sG rfl ?_ | ((first | refine sk_reg fun K hK => ?_ | refine sk_drw mix fun K hK => ?_); simp; refine hK _ ?_; clear hK K))
 refine sk_reg fun K hK => ?_; simp
 refine AskX.mkr (specDrive_mk (rt.gro (by first | exact Gro.refl _ | exact ⟨_, rfl⟩ | exact ⟨_, by simp only [List.append_assoc, List.cons_append, List.nil_append]; rfl⟩ | exact ⟨[], by simp⟩) (RP.frm _)) (re.gro (by first | exact Gro.refl _ | exact ⟨_, rfl⟩ | exact ⟨_, by simp only [List.append_assoc, List.cons_append, List.nil_append]; rfl⟩ | exact ⟨[], by simp⟩) (RP.frm _)) hac (S : Int)) ?_; rintro w7 J7 A7 r7 o7 n7; simp [r7.one, r7.cv]
 refine hK _ ?_; clear hK K
 obtain ⟨a6, c6, rfl⟩ := r6.form
 obtain ⟨a7, c7, rfl⟩ := r7.form
 generalize hD : driveW S l es' = D at *
 repeat (first | refine sA ?_ | refine sB ?_ | refine sC ?_ | refine sD ?_ | refine sE rfl ?_ | refine sF rfl ?_ | refine sG rfl ?_ | ((first | refine sk_reg fun K hK => ?_ | refine sk_drw mix fun K hK => ?_); simp; refine hK _ ?_; clear hK K))
 have p6 : RS 6 RMv (H ++ (J1 ++ (J6 ++ J7))) A6 (.slice a6 D.length c6) D := r6.gro ⟨J7, by simp only [List.append_assoc]⟩ RMv.frm
 have p7 : RS 6 RMv (H ++ (J1 ++ (J6 ++ J7))) A7 (.slice a7 D.length c7) D := by simpa only [List.append_assoc] using r7
 have pt' : RS 1 RInt (H ++ (J1 ++ (J6 ++ J7))) T (.slice at1 l.length ct1) l := rt.gro ⟨J6 ++ J7, by simp only [List.append_assoc]⟩ (RP.frm _)
 have pe : RS 6 RAc (H ++ (J1 ++ (J6 ++ J7))) A' (.slice av es'.length cv) es' := re.gro ⟨J6 ++ J7, by simp only [List.append_assoc]⟩ (RP.frm _)
 clear r6 r7 o6 o7 n6 n7 o1 n1 rt re
 obtain ⟨H1, hH1⟩ : ∃ H1, H1 = H ++ (J1 ++ (J6 ++ J7)) := ⟨_, rfl⟩
 rw [← hH1] at p6 p7 pt' pe ⊢
 have hg1 : Gro H H1 := ⟨_, hH1⟩
 clear hH1
 have xt := pt'.one
 have xe := pe.one
 refine sk_loop (fun m ts H' => ∃ i : Nat, i ≤ D.length ∧ m = D.length - i ∧ Gro H1 H' ∧ ts = [(3, iv S), (4, .slice at1 l.length ct1), (5, .slice av es'.length cv), (7, .slice a7 D.length c7), (39, .slice a6 D.length c6), (40, iv D.length), (41, iv i)]) D.length _ ?_ ⟨0, by omega, rfl, Gro.refl _, rfl⟩ ?_
 ·simp [subL, getT]
 rintro m ts H2 ⟨i, hi, rfl, hg2, rfl⟩
 have hl2 : H.length ≤ H2.length := (hg1.trans hg2).len
 by_cases hlt : i < D.length
 case neg =>
  obtain rfl : i = D.length := by omega
  repeat (first | refine sA ?_ | refine sB ?_ | refine sC ?_ | refine sD ?_ | refine sE rfl ?_ | refine sF rfl ?_ | refine sG rfl ?_ | ((first | refine sk_reg fun K hK => ?_ | refine sk_drw mix fun K hK => ?_); simp; refine hK _ ?_; clear hK K))
  refine sk_reg fun K hK => ?_; simp [xt, xe]
  refine AskX.go (implAnswer_ac (pt'.gro hg2 (RP.frm _)) (pe.gro hg2 (RP.frm _)) S) ?_; simp
  refine AskX.go (specAnswer_ac (pt'.gro hg2 (RP.frm _)) (pe.gro hg2 (RP.frm _)) hac S) ?_; simp
  refine hK _ ?_; clear hK K
  repeat (first | refine sA ?_ | refine sB ?_ | refine sC ?_ | refine sD ?_ | refine sE rfl ?_ | refine sF rfl ?_ | refine sG rfl ?_ | ((first | refine sk_reg fun K hK => ?_ | refine sk_drw mix fun K hK => ?_); simp; refine hK _ ?_; clear hK K))
  refine sk_ret ?_; simp
  exact hg1.trans hg2
 obtain ⟨hrt, hse⟩ := hDat D[i] (List.getElem_mem hlt)
 obtain ⟨id, o, Ek, cs, hv, hid, _, _, hR, hsz, hc⟩ := (p6.gro hg2 RMv.frm).at (k := i) hlt
 obtain ⟨id7, o7, Ek7, cs7, hv7, hid7, _, _, hR7, hsz7, hc7⟩ := (p7.gro hg2 RMv.frm).at (k := i) hlt
 simp only [Value.slice.injEq, true_and] at hv hv7
 obtain ⟨rfl, rfl⟩ := hv
 obtain ⟨rfl, rfl⟩ := hv7
 obtain ⟨_, rfl, hw6⟩ := hR
 obtain ⟨_, rfl, hw7⟩ := hR7
 obtain ⟨vl, vb, E1, E2, rfl, rfl, rl, rb⟩ := RWd.five hw6
 obtain ⟨ul, ub, F1, F2, rfl, rfl, kl, kb⟩ := RWd.five hw7
 obtain ⟨d, hdi⟩ : ∃ d, d = D[i] := ⟨_, rfl⟩
 rw [← hdi] at hrt hse rl rb kl kb hc hc7
 have c0 : CF H2 id (o + i * 6) (iv d.code) := fun L => by have := hc 0 _ rfl L; simpa using this
 have c1 : CF H2 id (o + i * 6 + 1) (.bool d.world.ok) := fun L => hc 1 _ rfl L
 have c2 : CF H2 id (o + i * 6 + 2) (.bool d.world.book.ok) := fun L => hc 2 _ rfl L
 have c3 : CF H2 id (o + i * 6 + 3) (iv d.world.book.sec) := fun L => hc 3 _ rfl L
 have c4 : CF H2 id (o + i * 6 + 4) vl := fun L => hc 4 _ rfl L
 have c5 : CF H2 id (o + i * 6 + 5) vb := fun L => hc 5 _ rfl L
 have f0 : CF H2 id7 (o7 + i * 6) (iv d.code) := fun L => by have := hc7 0 _ rfl L; simpa using this
 have f1 : CF H2 id7 (o7 + i * 6 + 1) (.bool d.world.ok) := fun L => hc7 1 _ rfl L
 have f2 : CF H2 id7 (o7 + i * 6 + 2) (.bool d.world.book.ok) := fun L => hc7 2 _ rfl L
 have f3 : CF H2 id7 (o7 + i * 6 + 3) (iv d.world.book.sec) := fun L => hc7 3 _ rfl L
 have f4 : CF H2 id7 (o7 + i * 6 + 4) ul := fun L => hc7 4 _ rfl L
 have f5 : CF H2 id7 (o7 + i * 6 + 5) ub := fun L => hc7 5 _ rfl L
 have xl := rl.one
 have yl := rl.cv
 have xb := rb.one
 have yb := rb.cv
 have xk := kl.one
 have yk := kl.cv
 have xkb := kb.one
 have ykb := kb.cv
 repeat (first | refine sA ?_ | refine sB ?_ | refine sC ?_ | refine sD ?_ | refine sE rfl ?_ | refine sF rfl ?_ | refine sG rfl ?_ | ((first | refine sk_reg fun K hK => ?_ | refine sk_drw mix fun K hK => ?_); simp [hlt, c0.s, c1.s, c2.s, c3.s, c4.s, c5.s, xl, yl, xb, yb, hl2]; refine hK _ ?_; clear hK K))
 obtain ⟨T8, hT8⟩ : ∃ T8, T8 = H2.length := ⟨_, rfl⟩
 refine sk_at [(3, iv S), (4, .slice at1 l.length ct1), (5, .slice av es'.length cv), (7, sl id7 o7 D.length), (39, sl id o D.length), (40, iv D.length), (41, iv i), (8, iv i), (9, pt T8 0)] (fun H3 => Gro H2 H3 ∧ H3[T8]? = some ⟨44, [iv d.code, .bool d.world.ok, .bool d.world.book.ok, iv d.world.book.sec, vl, vb], true, true⟩) (by simp [subL, getT, hT8]) ⟨Gro.one _ _, by rw [hT8]; simp⟩ ?_
 rintro H3 ⟨g3, b8⟩
 have rl3 := rl.gro g3 RLn.frm
 have rb3 := rb.gro g3 (RP.frm _)
 have kl3 := kl.gro g3 RLn.frm
 have kb3 := kb.gro g3 (RP.frm _)
 have hl3 : H.length ≤ H3.length := ((hg1.trans hg2).trans g3).len
 have hz3 : ∀ n, H.length ≤ H3.length + n := fun n => by omega
 have hm1 : (8 : Int) * (S : Int) ≤ 281474976710656 := by omega
 have hm2 : (S : Int) ≤ 9223372036854775807 := by omega
 have hg3 : Gro H H3 := (hg1.trans hg2).trans g3
 have hg13 : Gro H1 H3 := hg2.trans g3
 have e0 := f0.gro g3
 have e1 := f1.gro g3
 have e2 := f2.gro g3
 have e3 := f3.gro g3
 have e4 := f4.gro g3
 have e5 := f5.gro g3
 clear c0 c1 c2 c3 c4 c5 f0 f1 f2 f3 f4 f5 rl rb kl kb p6 p7 hc hsz hc7 hsz7 hw6 hw7 hl2
 have d0 : CF H3 T8 0 (iv d.code) := CF.of b8 rfl rfl
 have d1 : CF H3 T8 1 (.bool d.world.ok) := CF.of b8 rfl rfl
 have d2 : CF H3 T8 2 (.bool d.world.book.ok) := CF.of b8 rfl rfl
 have d3 : CF H3 T8 3 (iv d.world.book.sec) := CF.of b8 rfl rfl
 have d4 : CF H3 T8 4 vl := CF.of b8 rfl rfl
 have d5 : CF H3 T8 5 vb := CF.of b8 rfl rfl
 repeat refine sk_seq ?_
 refine sk_drw mix fun K hK => ?_; simp [d0.s, d1.s, d2.s, d3.s, d4.s, d5.s, e0.s, e1.s, e2.s, e3.s, e4.s, e5.s, xl, xb, xk, xkb, hlt]
 refine AskD.go (wWorld_ac rl3 rb3 kl3 kb3) ?_; simp
 refine hK _ ?_; clear hK K
 repeat (first | refine sA ?_ | refine sB ?_ | refine sC ?_ | refine sD ?_ | refine sE rfl ?_ | refine sF rfl ?_ | refine sG rfl ?_ | ((first | refine sk_reg fun K hK => ?_ | refine sk_drw mix fun K hK => ?_); simp [hm1, hm2, hl3]; refine hK _ ?_; clear hK K))
 obtain ⟨w, hw⟩ : ∃ w, w = d.world := ⟨_, rfl⟩
 rw [← hw] at hrt hse rl3 rb3 kl3 kb3 b8
 clear d0 d1 d2 d3 d4 d5 e0 e1 e2 e3 e4 e5 kl3 kb3 xk yk xkb ykb
 obtain ⟨O, hO⟩ : ∃ O, O = H3.length := ⟨_, rfl⟩
 have hOT : T8 < O := by rw [hO]; exact lt_of_get b8
 obtain ⟨r1, r2, r3, r4⟩ := rightB_all hrt
 obtain ⟨k1, k2, k20, _⟩ := bookOk_sec r2
 obtain ⟨_, hrg2, _, _, hnd⟩ := bookOk_all r2
 obtain ⟨al, cl, rfl⟩ := rl3.form
 obtain ⟨ab, cb, rfl⟩ := rb3.form
 refine sk_at [(3, iv S), (4, .slice at1 l.length ct1), (5, .slice av es'.length cv), (7, sl id7 o7 D.length), (39, sl id o D.length), (40, iv D.length), (41, iv i), (9, pt T8 0), (10, sl O 0 S)] (fun H4 => AlO H3 H4 O (cntL w 0 0 0 S)) (by simp [subL, getT, hO]) ⟨Gro.one _ _, by rw [cntL_0, hO]; simp, by omega⟩ ?_
 have hgT : ∀ {H' : Heap} {arr : List Int}, AlO H3 H' O arr → H'[T8]? = some ⟨44, [iv d.code, .bool w.ok, .bool w.book.ok, iv w.book.sec, .slice al w.book.lines.length cl, .slice ab w.bodies.length cb], true, true⟩ := fun h => (h.g.same (lt_of_get b8)).trans b8
 rintro H4 hA
 have d5 : CF H4 T8 5 (.slice ab w.bodies.length cb) := CF.of (hgT hA) rfl rfl
 repeat (first | refine sA ?_ | refine sB ?_ | refine sC ?_ | refine sD ?_ | refine sE rfl ?_ | refine sF rfl ?_ | refine sG rfl ?_ | ((first | refine sk_reg fun K hK => ?_ | refine sk_drw mix fun K hK => ?_); simp [d5.s]; refine hK _ ?_; clear hK K))
 clear d5
 refine sk_loop (fun m ts H' => ∃ k : Nat, k ≤ w.bodies.length ∧ m = w.bodies.length - k ∧ AlO H3 H' O (cntL w k 0 0 S) ∧ ts = [(3, iv S), (4, .slice at1 l.length ct1), (5, .slice av es'.length cv), (7, sl id7 o7 D.length), (39, sl id o D.length), (40, iv D.length), (41, iv i), (9, pt T8 0), (10, sl O 0 S), (69, .slice ab w.bodies.length cb), (70, iv w.bodies.length), (71, iv k)]) w.bodies.length _ ?_ ⟨0, by omega, rfl, hA, rfl⟩ ?_
 ·simp [subL, getT]
 clear hA
 rintro m ts H5 ⟨k, hk, rfl, hA, rfl⟩
 have hl5 : H.length ≤ H5.length := (hg3.trans hA.g).len
 by_cases hkt : k < w.bodies.length
 case neg =>
  obtain rfl : k = w.bodies.length := by omega
  repeat (first | refine sA ?_ | refine sB ?_ | refine sC ?_ | refine sD ?_ | refine sE rfl ?_ | refine sF rfl ?_ | refine sG rfl ?_ | ((first | refine sk_reg fun K hK => ?_ | refine sk_drw mix fun K hK => ?_); simp; refine hK _ ?_; clear hK K))
  refine sk_loop (fun m ts H' => ∃ q : Nat, q ≤ S ∧ m = S - q ∧ AlO H3 H' O (cntL w w.bodies.length 0 0 S) ∧ ts = [(3, iv S), (4, .slice at1 l.length ct1), (5, .slice av es'.length cv), (7, sl id7 o7 D.length), (39, sl id o D.length), (40, iv D.length), (41, iv i), (9, pt T8 0), (134, sl O 0 S), (135, iv S), (136, iv q)]) S _ ?_ ⟨0, by omega, rfl, hA, rfl⟩ ?_
  ·simp [subL, getT]
  clear hA hl5
  rintro m ts H6 ⟨q, hq, rfl, hA, rfl⟩
  have hl6 : H.length ≤ H6.length := (hg3.trans hA.g).len
  have hz6 : ∀ n, H.length ≤ H6.length + n := fun n => by omega
  have d1 : CF H6 T8 1 (.bool w.ok) := CF.of (hgT hA) rfl rfl
  have d2 : CF H6 T8 2 (.bool w.book.ok) := CF.of (hgT hA) rfl rfl
  have d3 : CF H6 T8 3 (iv w.book.sec) := CF.of (hgT hA) rfl rfl
  have d4 : CF H6 T8 4 (.slice al w.book.lines.length cl) := CF.of (hgT hA) rfl rfl
  have d5 : CF H6 T8 5 (.slice ab w.bodies.length cb) := CF.of (hgT hA) rfl rfl
  by_cases hqt : q < S
  ·have hwq : IntKind.i64.wrap ((q : Int) + 1) = (q : Int) + 1 := wrap_id (by omega) (by omega)
   have cq := hA.cf (j := q) (by simp [cntL]; omega)
   rw [cntL_end hrt 0 S hqt] at cq
   have hon := onW_one hrt (q : Int)
   have hq1 : ¬ (1 : Int) < ((onW w q).length : Int) := by omega
   have hwd : RWd H6 _ w _ := RWd.frm.gro (rwd_five rl3 rb3) hA.g
   repeat (first | refine sA ?_ | refine sB ?_ | refine sC ?_ | refine sD ?_ | refine sE rfl ?_ | refine sF rfl ?_ | refine sG rfl ?_ | ((first | refine sk_reg fun K hK => ?_ | refine sk_drw mix fun K hK => ?_); simp [hqt, cq.s]; refine hK _ ?_; clear hK K))
   repeat refine sk_seq ?_
   refine sk_reg fun K hK => ?_; simp [d1.s, d2.s, d3.s, d4.s, d5.s, hq1]
   refine AskX.mkr (implOn_mk hwd (q : Int)) ?_; rintro wn Jn An rn on nn; simp [d1.s, d2.s, d3.s, d4.s, d5.s, hq1]
   obtain ⟨an, cn, rfl⟩ := rn.form
   simp [hq1, d1.s]
   refine hK _ ?_; clear hK K
   repeat (first | refine sA ?_ | refine sB ?_ | refine sC ?_ | refine sD ?_ | refine sE rfl ?_ | refine sF rfl ?_ | refine sG rfl ?_ | ((first | refine sk_reg fun K hK => ?_ | refine sk_drw mix fun K hK => ?_); simp [hwq]; refine hK _ ?_; clear hK K))
   refine sk_inv ⟨S - (q + 1), _, by omega, ?_, q + 1, by omega, rfl, hA.gro (by first | exact Gro.refl _ | exact ⟨_, rfl⟩ | exact ⟨_, by simp only [List.append_assoc, List.cons_append, List.nil_append]; rfl⟩ | exact ⟨[], by simp⟩), rfl⟩
   simp [subL, getT]
  obtain rfl : S = q := by omega
  have hwi : IntKind.i64.wrap ((i : Int) + 1) = (i : Int) + 1 := wrap_id (by omega) (by omega)
  repeat (first | refine sA ?_ | refine sB ?_ | refine sC ?_ | refine sD ?_ | refine sE rfl ?_ | refine sF rfl ?_ | refine sG rfl ?_ | ((first | refine sk_reg fun K hK => ?_ | refine sk_drw mix fun K hK => ?_); simp [hwi]; refine hK _ ?_; clear hK K))
  refine sk_inv ⟨D.length - (i + 1), _, by omega, ?_, i + 1, by omega, rfl, hg13.trans hA.g, rfl⟩
  simp [subL, getT]
 have hkl : k < w.book.lines.length := by omega
 have hln := bookOk_ln r2 hkl
 obtain ⟨b, m, q1, q2, q3, q4, q5, q6, q7, q8, q9, q10⟩ := right_on hrt hkt hkl
 obtain ⟨ib, ob, Eb, bcs, hvb, hib, _, _, hRb, hszb, hcb⟩ := (rb3.gro hA.g (RP.frm _)).at (k := k) hkt
 obtain ⟨_, rfl⟩ := hRb
 simp only [Value.slice.injEq, true_and] at hvb
 obtain ⟨rfl, rfl⟩ := hvb
 obtain ⟨il, ol, vw, vg, G1, G2, hpl, hil, l0, l1, l2, l3, rw1, rg1, yo1, yo2, _⟩ := rl3.line hkl
 simp only [Value.slice.injEq, true_and] at hpl
 obtain ⟨rfl, rfl⟩ := hpl
 obtain ⟨aw, cw, rfl⟩ := rw1.form
 have l0' := l0.gro hA.g
 have l1' := l1.gro hA.g
 have l2' := l2.gro hA.g
 have l3' := l3.gro hA.g
 have c0 : CF H5 ib (ob + k * 4) (iv w.bodies[k].ver) := fun L => by have := hcb 0 _ rfl L; simpa using this
 have c1 : CF H5 ib (ob + k * 4 + 1) (iv w.bodies[k].cel) := fun L => hcb 1 _ rfl L
 have c2 : CF H5 ib (ob + k * 4 + 2) (iv w.bodies[k].tail) := fun L => hcb 2 _ rfl L
 have c3 : CF H5 ib (ob + k * 4 + 3) (iv w.bodies[k].front) := fun L => hcb 3 _ rfl L
 have d4 : CF H5 T8 4 (sl il ol w.book.lines.length) := CF.of (hgT hA) rfl rfl
 repeat (first | refine sA ?_ | refine sB ?_ | refine sC ?_ | refine sD ?_ | refine sE rfl ?_ | refine sF rfl ?_ | refine sG rfl ?_ | ((first | refine sk_reg fun K hK => ?_ | refine sk_drw mix fun K hK => ?_); simp [hkt, hkl, c0.s, c1.s, c2.s, c3.s, d4.s, l0'.s, l1'.s, l2'.s, l3'.s, yo2, hl5]; refine hK _ ?_; clear hK K))
 have hT8l := lt_of_get (hgT hA)
 have hOl5 := lt_of_get hA.o
 obtain ⟨TB, hTB⟩ : ∃ TB, TB = H5.length := ⟨_, rfl⟩
 refine sk_at [(3, iv S), (4, .slice at1 l.length ct1), (5, .slice av es'.length cv), (7, sl id7 o7 D.length), (39, sl id o D.length), (40, iv D.length), (41, iv i), (9, pt T8 0), (10, sl O 0 S), (69, sl ib ob w.bodies.length), (70, iv w.bodies.length), (71, iv k), (11, iv k), (12, pt TB 0)] (fun H6 => AlO H3 H6 O (cntL w k 0 0 S) ∧ H6[TB]? = some ⟨47, [iv w.bodies[k].ver, iv w.bodies[k].cel, iv w.bodies[k].tail, iv w.bodies[k].front], true, true⟩) (by simp [subL, getT, hTB]) ⟨hA.gro (Gro.one _ _), by rw [hTB]; simp⟩ ?_
 clear hA c0 c1 c2 c3 d4 l0' l1' l2' l3' hl5
 rintro H6 ⟨hA, bB⟩
 have hl6 : H.length ≤ H6.length := (hg3.trans hA.g).len
 have l0' := l0.gro hA.g
 have l1' := l1.gro hA.g
 have l2' := l2.gro hA.g
 have l3' := l3.gro hA.g
 have d4 : CF H6 T8 4 (sl il ol w.book.lines.length) := CF.of (hgT hA) rfl rfl
 repeat (first | refine sA ?_ | refine sB ?_ | refine sC ?_ | refine sD ?_ | refine sE rfl ?_ | refine sF rfl ?_ | refine sG rfl ?_ | ((first | refine sk_reg fun K hK => ?_ | refine sk_drw mix fun K hK => ?_); simp [hkl, d4.s, l0'.s, l1'.s, l2'.s, l3'.s, yo2, hl6]; refine hK _ ?_; clear hK K))
 have hTBl := lt_of_get bB
 obtain ⟨TL, hTL⟩ : ∃ TL, TL = H6.length := ⟨_, rfl⟩
 refine sk_at [(3, iv S), (4, .slice at1 l.length ct1), (5, .slice av es'.length cv), (7, sl id7 o7 D.length), (39, sl id o D.length), (40, iv D.length), (41, iv i), (9, pt T8 0), (10, sl O 0 S), (69, sl ib ob w.bodies.length), (70, iv w.bodies.length), (71, iv k), (11, iv k), (12, pt TB 0), (13, pt TL 0)] (fun H7 => AlO H3 H7 O (cntL w k 0 0 S) ∧ H7[TB]? = some ⟨47, [iv w.bodies[k].ver, iv w.bodies[k].cel, iv w.bodies[k].tail, iv w.bodies[k].front], true, true⟩ ∧ H7[TL]? = some ⟨50, [iv w.book.lines[k].gone, .slice aw w.book.lines[k].way.length cw, vg, iv w.book.lines[k].drop], true, true⟩) (by simp [subL, getT, hTL]) ⟨hA.gro (Gro.one _ _), (List.getElem?_append_left hTBl).trans bB, by rw [hTL]; simp⟩ ?_
 clear hA bB l0' l1' l2' l3' d4 hl6
 rintro H7 ⟨hA, bB, bL⟩
 have hl7 : H.length ≤ H7.length := (hg3.trans hA.g).len
 have c1 : CF H7 TB 1 (iv w.bodies[k].cel) := CF.of bB rfl rfl
 have c2 : CF H7 TB 2 (iv w.bodies[k].tail) := CF.of bB rfl rfl
 have c3 : CF H7 TB 3 (iv w.bodies[k].front) := CF.of bB rfl rfl
 have l0' : CF H7 TL 0 (iv w.book.lines[k].gone) := CF.of bL rfl rfl
 have d2 : CF H7 T8 2 (.bool w.book.ok) := CF.of (hgT hA) rfl rfl
 have d3 : CF H7 T8 3 (iv w.book.sec) := CF.of (hgT hA) rfl rfl
 have d4 : CF H7 T8 4 (sl il ol w.book.lines.length) := CF.of (hgT hA) rfl rfl
 have aco := implReach_ac (H := H7) (b := w.book) (cs := [.bool w.book.ok, iv w.book.sec, sl il ol w.book.lines.length]) ⟨_, rfl, rl3.gro hA.g RLn.frm⟩ k
 have g1 : ¬ w.bodies[k].tail < w.book.lines[k].gone := by omega
 have g2 : ¬ w.bodies[k].front < w.bodies[k].tail := by omega
 have g3' : ¬ w.bodies[k].cel ≤ w.bodies[k].front := by omega
 have g4 : ¬ reachB w.book k < w.bodies[k].cel := by omega
 repeat refine sk_seq ?_
 refine sk_drw mix fun K hK => ?_; simp [c1.s, c2.s, c3.s, l0'.s, d2.s, d3.s, d4.s, g1, g2, g3', g4]
 refine AskD.go (aco) ?_; simp [c1.s, c2.s, c3.s, l0'.s, d2.s, d3.s, d4.s, g1, g2, g3', g4]
 refine hK _ ?_; clear hK K
 repeat (first | refine sA ?_ | refine sB ?_ | refine sC ?_ | refine sD ?_ | refine sE rfl ?_ | refine sF rfl ?_ | refine sG rfl ?_ | ((first | refine sk_reg fun K hK => ?_ | refine sk_drw mix fun K hK => ?_); simp [c2.s]; refine hK _ ?_; clear hK K))
 clear c1 c2 c3 l0' d2 d3 d4 aco
 rw [cntL_b w k 0 b S] at hA
 have hOL : O < TL := by omega
 have hOB : O < TB := by omega
 refine sk_loop (fun u ts H' => ∃ t : Nat, t ≤ m + 1 ∧ u = m + 1 - t ∧ AlO H3 H' O (cntL w k b t S) ∧ H'[TB]? = some ⟨47, [iv w.bodies[k].ver, iv w.bodies[k].cel, iv w.bodies[k].tail, iv w.bodies[k].front], true, true⟩ ∧ H'[TL]? = some ⟨50, [iv w.book.lines[k].gone, .slice aw w.book.lines[k].way.length cw, vg, iv w.book.lines[k].drop], true, true⟩ ∧ ts = [(3, iv S), (4, .slice at1 l.length ct1), (5, .slice av es'.length cv), (7, sl id7 o7 D.length), (39, sl id o D.length), (40, iv D.length), (41, iv i), (9, pt T8 0), (10, sl O 0 S), (69, sl ib ob w.bodies.length), (70, iv w.bodies.length), (71, iv k), (12, pt TB 0), (13, pt TL 0), (14, iv (w.bodies[k].tail + t))]) (m + 1) _ ?_ ⟨0, by omega, rfl, hA, bB, bL, rfl⟩ ?_
 ·simp [subL, getT]
 clear hA bB bL hl7
 rintro u ts H8 ⟨t, ht, rfl, hA, bB, bL, rfl⟩
 have hl8 : H.length ≤ H8.length := (hg3.trans hA.g).len
 have c3 : CF H8 TB 3 (iv w.bodies[k].front) := CF.of bB rfl rfl
 have l0' : CF H8 TL 0 (iv w.book.lines[k].gone) := CF.of bL rfl rfl
 have l1' : CF H8 TL 1 (.slice aw w.book.lines[k].way.length cw) := CF.of bL rfl rfl
 by_cases htt : t ≤ m
 case neg =>
  obtain rfl : t = m + 1 := by omega
  have htt' : ¬ w.bodies[k].tail + ((m : Int) + 1) ≤ w.bodies[k].front := by omega
  have hwk : IntKind.i64.wrap ((k : Int) + 1) = (k : Int) + 1 := wrap_id (by omega) (by omega)
  repeat (first | refine sA ?_ | refine sB ?_ | refine sC ?_ | refine sD ?_ | refine sE rfl ?_ | refine sF rfl ?_ | refine sG rfl ?_ | ((first | refine sk_reg fun K hK => ?_ | refine sk_drw mix fun K hK => ?_); simp [c3.s, htt', hwk]; refine hK _ ?_; clear hK K))
  refine sk_inv ⟨w.bodies.length - (k + 1), _, by omega, ?_, k + 1, by omega, rfl, by rw [← cntL_next hkt hkl q1 q2 S 0]; exact hA, rfl⟩
  simp [subL, getT]
 have htt' : w.bodies[k].tail + (t : Int) ≤ w.bodies[k].front := by omega
 obtain ⟨c, hc⟩ : ∃ c : Nat, c = b + t := ⟨_, rfl⟩
 have hbt : c < w.book.lines[k].way.length := by omega
 obtain ⟨iw, ow, hvw, hiw, cx⟩ := ((rw1.gro hA.g (RP.frm _))).int hbt
 simp only [Value.slice.injEq, true_and] at hvw
 obtain ⟨rfl, rfl⟩ := hvw
 have hr2 := all_at hrg2 hkl
 rw [hse] at hr2
 simp only [ok2, inB, Bool.and_eq_true, decide_eq_true_eq, List.all_eq_true] at hr2
 have hxr := hr2.2 w.book.lines[k].way[c] (List.getElem_mem hbt)
 obtain ⟨x, hx⟩ : ∃ x : Nat, w.book.lines[k].way[c] = x := ⟨w.book.lines[k].way[c].toNat, by omega⟩
 rw [hx] at cx hxr
 have hxS : x < S := by omega
 have hset := cntL_set (b := b) (d := t) (S := S) hkl (by omega) (by simp only [← hc]; exact hx) hxS
 have ca := hA.cf (j := x) (by simp [cntL]; omega)
 rw [show (cntL w k b t S)[x]'(by simp [cntL]; omega) = (cntW w k b t (x : Int) : Int) from by simp only [cntL, List.getElem_map, List.getElem_range]] at ca
 have ar := RF.of hA.o
 have hOl : H.length ≤ O := by have := hA.h; omega
 have wO : ∀ n, H.length ≤ O + n := fun n => by omega
 have hwx : IntKind.i64.wrap (w.bodies[k].tail + (t : Int) - w.book.lines[k].gone) = (c : Int) := by rw [wrap_id (by omega) (by omega)]; omega
 have hwt : IntKind.i64.wrap (w.bodies[k].tail + (t : Int) + 1) = w.bodies[k].tail + ((t : Int) + 1) := by rw [wrap_id (by omega) (by omega)]; omega
 have hcn : cntW w k b t (x : Int) ≤ 1000000 := by
  have h1 := onN_len (ls := w.book.lines) (xs := w.bodies) (s := (x : Int)) (n := k) fun j hj => by
   have hjl : j < w.book.lines.length := by omega
   have hjb : j < w.bodies.length := by omega
   rw [lAt_eq hjl, bAt_eq hjb]
   exact ⟨bookOk_ln r2 hjl, r4 j hjb hjl⟩
  have h2 := onC_len (lAt w.book.lines k).way b x k t
  have h3 := hln.w1
  unfold cntW
  omega
 have hwc : IntKind.i64.wrap ((cntW w k b t (x : Int) : Int) + 1) = (cntW w k b t (x : Int) : Int) + 1 := wrap_id (by omega) (by omega)
 repeat (first | refine sA ?_ | refine sB ?_ | refine sC ?_ | refine sD ?_ | refine sE rfl ?_ | refine sF rfl ?_ | refine sG rfl ?_ | ((first | refine sk_reg fun K hK => ?_ | refine sk_drw mix fun K hK => ?_); simp [c3.s, l0'.s, l1'.s, htt', hbt, hwx, cx.s, hxS, ca.s, ar.s, hl8, wO, hOl, hwc, hwt]; refine hK _ ?_; clear hK K))
 refine sk_inv ⟨m + 1 - (t + 1), _, by omega, ?_, t + 1, by omega, rfl, by rw [← hset]; exact hA.put x _, (get_put_ne _ _ _ (by omega)).trans bB, (get_put_ne _ _ _ (by omega)).trans bL, rfl⟩
 simp [subL, getT]
end Go.Proofs.YtpoedfmkiiijnaaDoor
