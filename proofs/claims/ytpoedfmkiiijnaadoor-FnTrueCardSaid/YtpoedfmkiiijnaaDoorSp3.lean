/- Step of the reference. A walk. -/
import Derived.Test.YtpoedfmkiiijnaaDoorSp2
import Derived.Test.YtpoedfmkiiijnaaDoorGJ
namespace Go.Proofs.YtpoedfmkiiijnaaDoor
open Go Go.RowKit Go.Proofs.YtpoedfmkiiijnaaDoorAm
set_option linter.unusedVariables false
set_option linter.unusedSimpArgs false
set_option maxRecDepth 10000
set_option maxHeartbeats 8000000
/-- What is known of memory when the reference's Step has copied its world. -/
structure SqI (H : Heap) (X5 : Nat) (w : Wd) (a : Actn) (vl vb ul ub : Value) (H1 : Heap) (AL AB : List Nat) : Prop where
 g : Gro H H1
 b2 : H1[H.length]? = some ⟨42, [.bool w.ok, .bool w.book.ok, iv w.book.sec, vl, vb], true, true⟩
 b3 : H1[H.length + 1]? = some ⟨59, [iv a.op, iv a.ev.op, iv a.ev.train, iv a.ev.n, iv a.train, iv a.n], true, true⟩
 b4 : H1[H.length + 2]? = some ⟨44, [iv 0, .bool false, .bool false, iv 0, nl, nl], true, true⟩
 b5 : H1[X5]? = some ⟨42, [.bool w.ok, .bool w.book.ok, iv w.book.sec, ul, ub], true, true⟩
 rl : RS 4 RLn H1 AL ul w.book.lines
 rb : RS 4 RBd H1 AB ub w.bodies
 o : Own H1 (AL ++ AB)
 l : ∀ e, e ∈ AL ++ AB → H.length + 2 < e ∧ e < X5
 hx : H.length + 2 < X5
/-- What is left when the switch is behind. -/
def SqJ (H : Heap) (X5 : Nat) (w' : Wd) (F : Heap) : Prop := Gro H F ∧ F[H.length + 2]? = some ⟨44, [iv 0, .bool false, .bool false, iv 0, nl, nl], true, true⟩ ∧
 ∃ ul ub EL EB, F[X5]? = some ⟨42, [.bool w'.ok, .bool w'.book.ok, iv w'.book.sec, ul, ub], true, true⟩ ∧ RS 4 RLn F EL ul w'.book.lines ∧ RS 4 RBd F EB ub w'.bodies ∧ Own F (EL ++ EB) ∧ ∀ e, e ∈ EL ++ EB → H.length + 2 < e ∧ e ≠ X5
def B32 : SC := .seq (.reg [⟨some 2, .box 42 (.tmp 0), none, []⟩, ⟨some 3, .box 59 (.tmp 1), none, []⟩, ⟨some 4, .alloc 44, none, []⟩]) (.seq (.seq (.reg [⟨some 13, .load 42 (.tmp 2), none, []⟩, ⟨some 14, .call ⟨.value (.func 55), #[.tmp 13], #[42]⟩, none, []⟩, ⟨some 15, .unOp .not 4 (.tmp 14), none, []⟩, ⟨some 16, .move (.tmp 15), none, []⟩, ⟨some 17, .fieldAddr 59 (.tmp 3) 0, some (16, false), []⟩, ⟨some 18, .load 3 (.tmp 17), some (16, false), []⟩, ⟨some 19, .call ⟨.value (.func 53), #[.tmp 18, .const (.int .i64 1), .const (.int .i64 5)], #[3, 3, 3]⟩, some (16, false), []⟩, ⟨some 20, .unOp .not 4 (.tmp 19), some (16, false), []⟩, ⟨some 21, .pick (.tmp 16) (.const (.bool true)) (.tmp 20), none, []⟩, ⟨some 22, .move (.tmp 21), none, []⟩, ⟨some 23, .fieldAddr 59 (.tmp 3) 2, some (22, false), []⟩, ⟨some 24, .load 3 (.tmp 23), some (22, false), []⟩, ⟨some 25, .fieldAddr 42 (.tmp 2) 2, some (22, false), []⟩, ⟨some 26, .load 40 (.tmp 25), some (22, false), []⟩, ⟨some 27, .call ⟨.builtin .len, #[.tmp 26], #[40]⟩, some (22, false), []⟩, ⟨some 28, .binOp .sub 3 (.tmp 27) (.const (.int .i64 1)) 3, some (22, false), []⟩, ⟨some 29, .call ⟨.value (.func 53), #[.tmp 24, .const (.int .i64 0), .tmp 28], #[3, 3, 3]⟩, some (22, false), []⟩, ⟨some 30, .unOp .not 4 (.tmp 29), some (22, false), []⟩, ⟨some 31, .pick (.tmp 22) (.const (.bool true)) (.tmp 30), none, []⟩]) (.cond (.tmp 31) (.seq (.reg [⟨some 32, .build 44 #[(0, (.const (.int .i64 1)))], none, []⟩, ⟨none, .store 44 (.tmp 4) (.tmp 32), none, []⟩]) .ret) .skip)) (.seq (.reg [⟨some 33, .load 42 (.tmp 2), none, []⟩, ⟨some 34, .call ⟨.value (.func 33), #[.tmp 33], #[42]⟩, none, []⟩, ⟨some 5, .alloc 42, none, []⟩, ⟨none, .store 42 (.tmp 5) (.tmp 34), none, []⟩]) (.seq (.reg [⟨some 35, .fieldAddr 42 (.tmp 5) 2, none, []⟩, ⟨some 36, .load 40 (.tmp 35), none, []⟩, ⟨some 37, .fieldAddr 59 (.tmp 3) 2, none, []⟩, ⟨some 38, .load 3 (.tmp 37), none, []⟩, ⟨some 39, .indexAddr 40 (.tmp 36) (.tmp 38), none, []⟩, ⟨some 6, .assign (.tmp 39), none, []⟩]) (.seq (.reg [⟨some 7, .assign (.const (.int .i64 0)), none, []⟩]) (.seq (.seq (.reg [⟨some 40, .fieldAddr 59 (.tmp 3) 0, none, []⟩, ⟨some 41, .load 3 (.tmp 40), none, []⟩]) (.block 0 (.seq (.reg [⟨some 43, .binOp .eql 3 (.tmp 41) (.const (.int .i64 1)) 3, none, []⟩, ⟨some 42, .assign (.tmp 43), none, []⟩]) (.cond (.tmp 42) (.seq (.seq (.reg [⟨some 44, .fieldAddr 59 (.tmp 3) 1, none, []⟩, ⟨some 45, .fieldAddr 57 (.tmp 44) 0, none, []⟩, ⟨some 46, .load 3 (.tmp 45), none, []⟩, ⟨some 47, .binOp .eql 3 (.tmp 46) (.const (.int .i64 3)) 3, none, []⟩, ⟨some 48, .move (.tmp 47), none, []⟩, ⟨some 49, .fieldAddr 59 (.tmp 3) 1, some (48, false), []⟩, ⟨some 50, .fieldAddr 57 (.tmp 49) 0, some (48, false), []⟩, ⟨some 51, .load 3 (.tmp 50), some (48, false), []⟩, ⟨some 52, .binOp .eql 3 (.tmp 51) (.const (.int .i64 4)) 3, some (48, false), []⟩, ⟨some 53, .pick (.tmp 48) (.const (.bool true)) (.tmp 52), none, []⟩]) (.cond (.tmp 53) (.seq (.reg [⟨some 54, .build 44 #[(0, (.const (.int .i64 1)))], none, []⟩, ⟨none, .store 44 (.tmp 4) (.tmp 54), none, []⟩]) .ret) .skip)) (.seq (.reg [⟨some 55, .fieldAddr 42 (.tmp 2) 1, none, []⟩, ⟨some 56, .load 39 (.tmp 55), none, []⟩, ⟨some 57, .fieldAddr 59 (.tmp 3) 1, none, []⟩, ⟨some 58, .load 57 (.tmp 57), none, []⟩, ⟨some 59, .call ⟨.value (.func 56), #[.tmp 56, .tmp 58], #[39, 57]⟩, none, []⟩, ⟨some 8, .alloc 99, none, []⟩, ⟨none, .store 99 (.tmp 8) (.tmp 59), none, []⟩]) (.seq (.seq (.reg [⟨some 60, .fieldAddr 99 (.tmp 8) 0, none, []⟩, ⟨some 61, .load 3 (.tmp 60), none, []⟩, ⟨some 62, .binOp .eql 3 (.tmp 61) (.const (.int .i64 1)) 3, none, []⟩]) (.cond (.tmp 62) (.seq (.reg [⟨some 63, .build 44 #[(0, (.const (.int .i64 1)))], none, []⟩, ⟨none, .store 44 (.tmp 4) (.tmp 63), none, []⟩]) .ret) .skip)) (.seq (.reg [⟨some 64, .fieldAddr 99 (.tmp 8) 1, none, []⟩, ⟨some 65, .load 39 (.tmp 64), none, []⟩, ⟨some 66, .fieldAddr 42 (.tmp 5) 1, none, []⟩, ⟨none, .store 39 (.tmp 66) (.tmp 65), none, []⟩]) (.reg [⟨some 67, .fieldAddr 99 (.tmp 8) 0, none, []⟩, ⟨some 68, .load 3 (.tmp 67), none, []⟩, ⟨some 7, .assign (.tmp 68), none, []⟩]))))) (.seq (.reg [⟨some 70, .binOp .eql 3 (.tmp 41) (.const (.int .i64 2)) 3, none, []⟩, ⟨some 69, .assign (.tmp 70), none, []⟩]) (.cond (.tmp 69) (.seq (.reg [⟨some 71, .fieldAddr 42 (.tmp 2) 1, none, []⟩, ⟨some 72, .fieldAddr 39 (.tmp 71) 2, none, []⟩, ⟨some 73, .load 37 (.tmp 72), none, []⟩, ⟨some 74, .fieldAddr 59 (.tmp 3) 2, none, []⟩, ⟨some 75, .load 3 (.tmp 74), none, []⟩, ⟨some 76, .indexAddr 37 (.tmp 73) (.tmp 75), none, []⟩, ⟨some 77, .load 50 (.tmp 76), none, []⟩, ⟨some 9, .alloc 50, none, []⟩, ⟨none, .store 50 (.tmp 9) (.tmp 77), none, []⟩]) (.seq (.drw 0 [⟨some 78, .fieldAddr 59 (.tmp 3) 3, none, []⟩, ⟨some 79, .load 3 (.tmp 78), none, [0]⟩, ⟨some 80, .fieldAddr 50 (.tmp 9) 2, none, []⟩, ⟨some 81, .load 48 (.tmp 80), none, [2]⟩, ⟨some 82, .indexAddr 48 (.tmp 81) (.const (.int .i64 0)), none, [3, 2]⟩, ⟨some 83, .fieldAddr 88 (.tmp 82) 0, none, [4, 3, 2]⟩, ⟨some 84, .load 3 (.tmp 83), none, [5, 4, 3, 2]⟩, ⟨some 85, .binOp .sub 3 (.tmp 79) (.tmp 84) 3, none, [1, 0, 6, 5, 4, 3, 2]⟩, ⟨some 10, .assign (.tmp 85), none, [7, 1, 0, 6, 5, 4, 3, 2]⟩]) (.seq (.drw 0 [⟨some 86, .move (.tmp 10), none, []⟩, ⟨some 87, .binOp .lss 3 (.tmp 86) (.const (.int .i64 0)) 3, none, [0]⟩, ⟨some 88, .move (.tmp 87), none, [1, 0]⟩, ⟨some 89, .move (.tmp 10), some (88, false), [2, 1, 0]⟩, ⟨some 90, .fieldAddr 50 (.tmp 9) 2, some (88, false), [2, 1, 0]⟩, ⟨some 91, .load 48 (.tmp 90), some (88, false), [4, 2, 1, 0]⟩, ⟨some 92, .call ⟨.builtin .len, #[.tmp 91], #[48]⟩, some (88, false), [5, 4, 2, 1, 0]⟩, ⟨some 93, .binOp .geq 3 (.tmp 89) (.tmp 92) 3, some (88, false), [3, 2, 1, 0, 6, 5, 4]⟩, ⟨some 94, .pick (.tmp 88) (.const (.bool true)) (.tmp 93), none, [2, 1, 0, 7, 3, 6, 5, 4]⟩, ⟨some 95, .move (.tmp 94), none, [8, 2, 1, 0, 7, 3, 6, 5, 4]⟩, ⟨some 96, .fieldAddr 59 (.tmp 3) 3, some (95, false), [9, 8, 2, 1, 0, 7, 3, 6, 5, 4]⟩, ⟨some 97, .load 3 (.tmp 96), some (95, false), [10, 9, 8, 2, 1, 0, 7, 3, 6, 5, 4]⟩, ⟨some 98, .move (.tmp 6), some (95, false), [9, 8, 2, 1, 0, 7, 3, 6, 5, 4]⟩, ⟨some 99, .nilCheck (.tmp 98), some (95, false), [12, 9, 8, 2, 1, 0, 7, 3, 6, 5, 4]⟩, ⟨some 100, .fieldAddr 47 (.tmp 99) 0, some (95, false), [13, 12, 9, 8, 2, 1, 0, 7, 3, 6, 5, 4]⟩, ⟨some 101, .load 3 (.tmp 100), some (95, false), [14, 13, 12, 9, 8, 2, 1, 0, 7, 3, 6, 5, 4]⟩, ⟨some 102, .binOp .leq 3 (.tmp 97) (.tmp 101) 3, some (95, false), [11, 10, 9, 8, 2, 1, 0, 7, 3, 6, 5, 4, 15, 14, 13, 12]⟩, ⟨some 103, .pick (.tmp 95) (.const (.bool true)) (.tmp 102), none, [9, 8, 2, 1, 0, 7, 3, 6, 5, 4, 16, 11, 10, 15, 14, 13, 12]⟩]) (.cond (.tmp 103) (.reg [⟨some 7, .assign (.const (.int .i64 2)), none, []⟩]) (.seq (.drw 0 [⟨some 104, .fieldAddr 50 (.tmp 9) 2, none, []⟩, ⟨some 105, .load 48 (.tmp 104), none, [0]⟩, ⟨some 106, .move (.tmp 10), none, []⟩, ⟨some 107, .indexAddr 48 (.tmp 105) (.tmp 106), none, [1, 0, 2]⟩, ⟨some 108, .fieldAddr 88 (.tmp 107) 1, none, [3, 1, 0, 2]⟩, ⟨some 109, .load 3 (.tmp 108), none, [4, 3, 1, 0, 2]⟩, ⟨some 110, .move (.tmp 6), none, []⟩, ⟨some 111, .nilCheck (.tmp 110), none, [6]⟩, ⟨some 112, .fieldAddr 47 (.tmp 111) 3, none, [7, 6]⟩, ⟨some 113, .load 3 (.tmp 112), none, [8, 7, 6]⟩, ⟨some 114, .binOp .leq 3 (.tmp 109) (.tmp 113) 3, none, [5, 4, 3, 1, 0, 2, 9, 8, 7, 6]⟩]) (.cond (.tmp 114) (.reg [⟨some 7, .assign (.const (.int .i64 3)), none, []⟩]) (.seq (.reg [⟨some 115, .move (.tmp 6), none, []⟩, ⟨some 116, .fieldAddr 59 (.tmp 3) 3, none, []⟩, ⟨some 117, .load 3 (.tmp 116), none, []⟩, ⟨some 118, .nilCheck (.tmp 115), none, []⟩, ⟨some 119, .fieldAddr 47 (.tmp 118) 0, none, []⟩, ⟨none, .store 3 (.tmp 119) (.tmp 117), none, []⟩]) (.reg [⟨some 120, .move (.tmp 6), none, []⟩, ⟨some 121, .fieldAddr 50 (.tmp 9) 2, none, []⟩, ⟨some 122, .load 48 (.tmp 121), none, []⟩, ⟨some 123, .move (.tmp 10), none, []⟩, ⟨some 124, .indexAddr 48 (.tmp 122) (.tmp 123), none, []⟩, ⟨some 125, .fieldAddr 88 (.tmp 124) 1, none, []⟩, ⟨some 126, .load 3 (.tmp 125), none, []⟩, ⟨some 127, .nilCheck (.tmp 120), none, []⟩, ⟨some 128, .fieldAddr 47 (.tmp 127) 1, none, []⟩, ⟨none, .store 3 (.tmp 128) (.tmp 126), none, []⟩])))))))) (.seq (.reg [⟨some 130, .binOp .eql 3 (.tmp 41) (.const (.int .i64 3)) 3, none, []⟩, ⟨some 129, .assign (.tmp 130), none, []⟩]) (.cond (.tmp 129) (.seq (.drw 1 [⟨some 131, .fieldAddr 42 (.tmp 2) 1, none, []⟩, ⟨some 132, .load 39 (.tmp 131), none, [0]⟩, ⟨some 133, .fieldAddr 59 (.tmp 3) 2, none, []⟩, ⟨some 134, .load 3 (.tmp 133), none, [2]⟩, ⟨some 135, .move (.tmp 6), none, []⟩, ⟨some 136, .nilCheck (.tmp 135), none, [4]⟩, ⟨some 137, .fieldAddr 47 (.tmp 136) 0, none, [5, 4]⟩, ⟨some 138, .load 3 (.tmp 137), none, [6, 5, 4]⟩, ⟨some 139, .build 57 #[(0, (.const (.int .i64 3))), (1, (.tmp 134)), (2, (.tmp 138))], none, [3, 2, 7, 6, 5, 4]⟩, ⟨some 140, .call ⟨.value (.func 56), #[.tmp 132, .tmp 139], #[39, 57]⟩, none, [1, 0, 8, 3, 2, 7, 6, 5, 4]⟩, ⟨some 11, .alloc 99, none, []⟩, ⟨none, .store 99 (.tmp 11) (.tmp 140), none, [10, 9, 1, 0, 8, 3, 2, 7, 6, 5, 4]⟩]) (.seq (.reg [⟨some 141, .fieldAddr 99 (.tmp 11) 1, none, []⟩, ⟨some 142, .load 39 (.tmp 141), none, []⟩, ⟨some 143, .fieldAddr 42 (.tmp 5) 1, none, []⟩, ⟨none, .store 39 (.tmp 143) (.tmp 142), none, []⟩]) (.reg [⟨some 144, .fieldAddr 99 (.tmp 11) 0, none, []⟩, ⟨some 145, .load 3 (.tmp 144), none, []⟩, ⟨some 7, .assign (.tmp 145), none, []⟩]))) (.seq (.reg [⟨some 147, .binOp .eql 3 (.tmp 41) (.const (.int .i64 4)) 3, none, []⟩, ⟨some 146, .assign (.tmp 147), none, []⟩]) (.cond (.tmp 146) (.seq (.drw 0 [⟨some 148, .move (.tmp 6), none, []⟩, ⟨some 149, .nilCheck (.tmp 148), none, [0]⟩, ⟨some 150, .fieldAddr 47 (.tmp 149) 3, none, [1, 0]⟩, ⟨some 151, .load 3 (.tmp 150), none, [2, 1, 0]⟩, ⟨some 152, .binOp .add 3 (.tmp 151) (.const (.int .i64 1)) 3, none, [3, 2, 1, 0]⟩, ⟨some 153, .move (.tmp 6), none, []⟩, ⟨some 154, .nilCheck (.tmp 153), none, [5]⟩, ⟨some 155, .fieldAddr 47 (.tmp 154) 1, none, [6, 5]⟩, ⟨some 156, .load 3 (.tmp 155), none, [7, 6, 5]⟩, ⟨some 157, .binOp .geq 3 (.tmp 152) (.tmp 156) 3, none, [4, 3, 2, 1, 0, 8, 7, 6, 5]⟩]) (.cond (.tmp 157) (.reg [⟨some 7, .assign (.const (.int .i64 3)), none, []⟩]) (.reg [⟨some 158, .move (.tmp 6), none, []⟩, ⟨some 159, .nilCheck (.tmp 158), none, []⟩, ⟨some 160, .fieldAddr 47 (.tmp 159) 3, none, []⟩, ⟨some 161, .load 3 (.tmp 160), none, []⟩, ⟨some 162, .binOp .add 3 (.tmp 161) (.const (.int .i64 1)) 3, none, []⟩, ⟨some 163, .nilCheck (.tmp 158), none, []⟩, ⟨some 164, .fieldAddr 47 (.tmp 163) 3, none, []⟩, ⟨none, .store 3 (.tmp 164) (.tmp 162), none, []⟩]))) (.seq (.reg [⟨some 166, .binOp .eql 3 (.tmp 41) (.const (.int .i64 5)) 3, none, []⟩, ⟨some 165, .assign (.tmp 166), none, []⟩]) (.cond (.tmp 165) (.seq (.drw 0 [⟨some 167, .move (.tmp 6), none, []⟩, ⟨some 168, .nilCheck (.tmp 167), none, [0]⟩, ⟨some 169, .fieldAddr 47 (.tmp 168) 2, none, [1, 0]⟩, ⟨some 170, .load 3 (.tmp 169), none, [2, 1, 0]⟩, ⟨some 171, .move (.tmp 6), none, []⟩, ⟨some 172, .nilCheck (.tmp 171), none, [4]⟩, ⟨some 173, .fieldAddr 47 (.tmp 172) 3, none, [5, 4]⟩, ⟨some 174, .load 3 (.tmp 173), none, [6, 5, 4]⟩, ⟨some 175, .binOp .eql 3 (.tmp 170) (.tmp 174) 3, none, [3, 2, 1, 0, 7, 6, 5, 4]⟩]) (.cond (.tmp 175) (.reg [⟨some 7, .assign (.const (.int .i64 3)), none, []⟩]) (.seq (.reg [⟨some 176, .move (.tmp 6), none, []⟩, ⟨some 177, .nilCheck (.tmp 176), none, []⟩, ⟨some 178, .fieldAddr 47 (.tmp 177) 2, none, []⟩, ⟨some 179, .load 3 (.tmp 178), none, []⟩, ⟨some 180, .binOp .add 3 (.tmp 179) (.const (.int .i64 1)) 3, none, []⟩, ⟨some 181, .nilCheck (.tmp 176), none, []⟩, ⟨some 182, .fieldAddr 47 (.tmp 181) 2, none, []⟩, ⟨none, .store 3 (.tmp 182) (.tmp 180), none, []⟩]) (.seq (.drw 1 [⟨some 183, .fieldAddr 42 (.tmp 2) 1, none, []⟩, ⟨some 184, .load 39 (.tmp 183), none, [0]⟩, ⟨some 185, .fieldAddr 59 (.tmp 3) 2, none, []⟩, ⟨some 186, .load 3 (.tmp 185), none, [2]⟩, ⟨some 187, .move (.tmp 6), none, []⟩, ⟨some 188, .nilCheck (.tmp 187), none, [4]⟩, ⟨some 189, .fieldAddr 47 (.tmp 188) 2, none, [5, 4]⟩, ⟨some 190, .load 3 (.tmp 189), none, [6, 5, 4]⟩, ⟨some 191, .build 57 #[(0, (.const (.int .i64 4))), (1, (.tmp 186)), (2, (.tmp 190))], none, [3, 2, 7, 6, 5, 4]⟩, ⟨some 192, .call ⟨.value (.func 56), #[.tmp 184, .tmp 191], #[39, 57]⟩, none, [1, 0, 8, 3, 2, 7, 6, 5, 4]⟩, ⟨some 12, .alloc 99, none, []⟩, ⟨none, .store 99 (.tmp 12) (.tmp 192), none, [10, 9, 1, 0, 8, 3, 2, 7, 6, 5, 4]⟩]) (.seq (.reg [⟨some 193, .fieldAddr 99 (.tmp 12) 1, none, []⟩, ⟨some 194, .load 39 (.tmp 193), none, []⟩, ⟨some 195, .fieldAddr 42 (.tmp 5) 1, none, []⟩, ⟨none, .store 39 (.tmp 195) (.tmp 194), none, []⟩]) (.reg [⟨some 196, .fieldAddr 99 (.tmp 12) 0, none, []⟩, ⟨some 197, .load 3 (.tmp 196), none, []⟩, ⟨some 7, .assign (.tmp 197), none, []⟩])))))) .skip)))))))))))) (.seq (.reg [⟨some 198, .move (.tmp 7), none, []⟩, ⟨some 199, .load 42 (.tmp 5), none, []⟩, ⟨some 200, .build 44 #[(0, (.tmp 198)), (1, (.tmp 199))], none, []⟩, ⟨none, .store 44 (.tmp 4) (.tmp 200), none, []⟩]) .ret))))))
theorem s32 : Tryd.f32.body.bind (stripC 201) = some B32 := by kernel_rfl
theorem specStep_mk {H : Heap} {E : List Nat} {w : Wd} {cs : List Value} (h : RWd H E w cs) (hrg : ∀ b, b ∈ w.bodies → bdR b) (a : Actn) (han : acR a) : Mkr Tryd.prog 32 [.agg cs.toArray, vAc a] H fun H' E' v' => ∃ cs', v' = .agg cs'.toArray ∧ RMv H' E' (stepWd w a) cs' := by
 have h0 := h
 obtain ⟨vl, vb, E1, E2, rfl, rfl, hl, hb⟩ := RWd.five h
 have x := hl.one
 have y := hb.one
 have ac := fun L : Heap => l3ok_ac (H := H ++ L) (RWd.frm.ext h0) hrg
 obtain ⟨aB, cB, hvb⟩ := hb.form
 subst hvb
 have hn2 := hb.1
 have hwl : IntKind.i64.wrap ((w.bodies.length : Int) - 1) = (w.bodies.length : Int) - 1 := wrap_id (by omega) (by omega)
 have bad : actOk w a = false → stepWd w a = ⟨1, wd0⟩ := fun hh => by unfold stepWd; rw [hh]; simp
 have fin0 : ∀ (F : Heap), Gro H F → stepWd w a = ⟨1, wd0⟩ → (∀ i, i < H.length → F[i]? = H[i]?) ∧ ∃ E', RMv F E' (stepWd w a) [iv 1, .bool false, .bool false, iv 0, nl, nl] ∧ Own F E' ∧ ∀ e, e ∈ E' → H.length ≤ e := fun F hF he =>
  ⟨fun i hi => hF.same hi, [], by rw [he]; exact ⟨_, rfl, rdWd0 F⟩, ⟨List.nodup_nil, fun i hi => by simp at hi⟩, fun i hi => by simp at hi⟩
 refine Mkr.of_bodyS (N := 201) Tryd.func32 s32 (by kernel_rfl) rfl rfl (by simp) ?_; unfold B32
 cases hr : rightB w
 ·have hs := bad (by simp [actOk, hr])
  rw [hr] at ac
  repeat (first | refine sA ?_ | refine sB ?_ | refine sC ?_ | refine sD ?_ | refine sE rfl ?_ | refine sF rfl ?_ | refine sG rfl ?_ | ((first | refine sk_reg fun K hK => ?_ | refine sk_drw mix fun K hK => ?_); simp [x]; (repeat ((first | refine AskX.go (ac _) ?_ | refine AskD.go (ac _) ?_); simp [x])); refine hK _ ?_; clear hK K))
  refine sk_ret ?_; simp
  exact fin0 _ (Gro.one _ _) hs
 rw [hr] at ac
 cases ho : inB a.op 1 5
 ·have hs := bad (by simp [actOk, ho])
  repeat (first | refine sA ?_ | refine sB ?_ | refine sC ?_ | refine sD ?_ | refine sE rfl ?_ | refine sF rfl ?_ | refine sG rfl ?_ | ((first | refine sk_reg fun K hK => ?_ | refine sk_drw mix fun K hK => ?_); simp [x, ho]; (repeat ((first | refine AskX.go (ac _) ?_ | refine AskD.go (ac _) ?_ | refine AskX.go (l1in_ac _ _ _) ?_ | refine AskD.go (l1in_ac _ _ _) ?_); simp [x, ho])); refine hK _ ?_; clear hK K))
  refine sk_ret ?_; simp
  exact fin0 _ (Gro.one _ _) hs
 cases htr : inB a.train 0 ((w.bodies.length : Int) - 1)
 ·have hs := bad (by simp [actOk, htr])
  repeat (first | refine sA ?_ | refine sB ?_ | refine sC ?_ | refine sD ?_ | refine sE rfl ?_ | refine sF rfl ?_ | refine sG rfl ?_ | ((first | refine sk_reg fun K hK => ?_ | refine sk_drw mix fun K hK => ?_); simp [x, ho, htr, hwl]; (repeat ((first | refine AskX.go (ac _) ?_ | refine AskD.go (ac _) ?_ | refine AskX.go (l1in_ac _ _ _) ?_ | refine AskD.go (l1in_ac _ _ _) ?_); simp [x, ho, htr, hwl])); refine hK _ ?_; clear hK K))
  refine sk_ret ?_; simp
  exact fin0 _ (Gro.one _ _) hs
 have hact : actOk w a = true := by simp [actOk, hr, ho, htr]
 have hsv : stepWd w a = stepV w a := by unfold stepWd; rw [if_pos hact]
 have hlen := W2len hr
 have ho2 := ho
 simp only [inB, Bool.and_eq_true, decide_eq_true_eq] at ho2 htr
 obtain ⟨k, hk⟩ : ∃ k : Nat, a.train = k := ⟨a.train.toNat, by omega⟩
 have hkl : k < w.bodies.length := by omega
 have htr' : inB a.train 0 ((w.bodies.length : Int) - 1) = true := by simp [inB]; omega
 obtain ⟨hll, hbk0, hlo, hbo⟩ := right_at hr hkl
 repeat (first | refine sA ?_ | refine sB ?_ | refine sC ?_ | refine sD ?_ | refine sE rfl ?_ | refine sF rfl ?_ | refine sG rfl ?_ | ((first | refine sk_reg fun K hK => ?_ | refine sk_drw mix fun K hK => ?_); simp [x, ho, htr', hwl]; (repeat ((first | refine AskX.go (ac _) ?_ | refine AskD.go (ac _) ?_ | refine AskX.go (l1in_ac _ _ _) ?_ | refine AskD.go (l1in_ac _ _ _) ?_); simp [x, ho, htr', hwl])); refine hK _ ?_; clear hK K))
 refine sk_reg fun K hK => ?_; simp [x]
 refine AskX.mkr (l3copy_mk (RWd.frm.gro h0 (by first | exact Gro.refl _ | exact ⟨_, rfl⟩ | exact ⟨_, by simp only [List.append_assoc, List.cons_append, List.nil_append]; rfl⟩ | exact ⟨[], by simp⟩)) hlen) ?_; rintro _ J1 A1 ⟨cs1, rfl, r1⟩ o1 n1; simp [x]
 obtain ⟨ul, ub, F1, F2, rfl, rfl, hul, hub⟩ := RWd.five r1
 simp [hul.one, hub.one, hul.cv, hub.cv]
 refine hK _ ?_; clear hK K
 simp only [List.append_assoc, List.cons_append, List.nil_append, List.length_append, List.length_cons, List.length_nil] at hul hub o1 n1
 have l1 := o1.lt
 obtain ⟨X5, hX5⟩ : ∃ X, X = H.length + (J1.length + 3) := ⟨_, rfl⟩
 have xul := hul.one
 have xub := hub.one
 refine sk_at [(2, pt H.length 0), (3, pt (H.length + 1) 0), (4, pt (H.length + 2) 0), (5, pt X5 0)] (fun H1 => SqI H X5 w a vl (.slice aB w.bodies.length cB) ul ub H1 F1 F2) (by simp [subL, getT, hX5]) ?_ ?_
 ·have kf : ∀ e, e ∈ F1 ++ F2 → H.length + 3 ≤ e ∧ e < X5 := fun e he => by
   have h1 := n1 e he
   have h2 := l1 e he
   simp only [List.length_append, List.length_cons] at h2
   omega
  refine { g := Gro.one _ _, b2 := by simp, b3 := by simp, b4 := by simp, b5 := ?_, rl := hul.gro (by first | exact Gro.refl _ | exact ⟨_, rfl⟩ | exact ⟨_, by simp only [List.append_assoc, List.cons_append, List.nil_append]; rfl⟩ | exact ⟨[], by simp⟩) RLn.frm, rb := hub.gro (by first | exact Gro.refl _ | exact ⟨_, rfl⟩ | exact ⟨_, by simp only [List.append_assoc, List.cons_append, List.nil_append]; rfl⟩ | exact ⟨[], by simp⟩) (RP.frm _), o := o1.gro (by first | exact Gro.refl _ | exact ⟨_, rfl⟩ | exact ⟨_, by simp only [List.append_assoc, List.cons_append, List.nil_append]; rfl⟩ | exact ⟨[], by simp⟩), l := fun e he => ⟨by have := (kf e he).1; omega, (kf e he).2⟩, hx := by omega }
  rw [hX5, List.getElem?_append_right (by omega), Nat.add_sub_cancel_left]
  simp
 clear hul hub o1 n1 l1
 rintro H1 ⟨hg, b2, b3, b4, b5, rl, rb, o, l, hx⟩
 have hl1 := hg.len
 have hgz : ∀ n, H.length ≤ H1.length + n := fun n => by omega
 have w1 : CF H1 H.length 1 (.bool w.book.ok) := CF.of b2 rfl rfl
 have w2 : CF H1 H.length 2 (iv w.book.sec) := CF.of b2 rfl rfl
 have w3 : CF H1 H.length 3 vl := CF.of b2 rfl rfl
 have a0 : CF H1 (H.length + 1) 0 (iv a.op) := CF.of b3 rfl rfl
 have a1 : CF H1 (H.length + 1) 1 (iv a.ev.op) := CF.of b3 rfl rfl
 have a2 : CF H1 (H.length + 1) 2 (iv a.ev.train) := CF.of b3 rfl rfl
 have a3 : CF H1 (H.length + 1) 3 (iv a.ev.n) := CF.of b3 rfl rfl
 have a4 : CF H1 (H.length + 1) 4 (iv k) := by rw [← hk]; exact CF.of b3 rfl rfl
 have a5 : CF H1 (H.length + 1) 5 (iv a.n) := CF.of b3 rfl rfl
 have z0 : CF H1 (H.length + 2) 0 (iv 0) := CF.of b4 rfl rfl
 have z1 : CF H1 (H.length + 2) 1 (.bool false) := CF.of b4 rfl rfl
 have z2 : CF H1 (H.length + 2) 2 (.bool false) := CF.of b4 rfl rfl
 have z3 : CF H1 (H.length + 2) 3 (iv 0) := CF.of b4 rfl rfl
 have z4 : CF H1 (H.length + 2) 4 nl := CF.of b4 rfl rfl
 have z5 : CF H1 (H.length + 2) 5 nl := CF.of b4 rfl rfl
 have zr := RF.of b4
 have y1 : CF H1 X5 1 (.bool w.book.ok) := CF.of b5 rfl rfl
 have y2 : CF H1 X5 2 (iv w.book.sec) := CF.of b5 rfl rfl
 have y3 : CF H1 X5 3 ul := CF.of b5 rfl rfl
 have y4 : CF H1 X5 4 ub := CF.of b5 rfl rfl
 have yr := RF.of b5
 have b5l := lt_of_get b5
 have oal := o.left
 have oab := o.right
 have bdl := oal.lt
 have bdb := oab.lt
 obtain ⟨ib, ob, Eb, cb, hub, hib, _, _, _, ⟨rfl, rfl⟩, _, hcb, hclb⟩ := rb.opn (RP.frm cBd) oab.1 hkl
 subst hub
 have hib2 := l ib (List.mem_append_right _ hib)
 have hln : lnAt w.book a.train = w.book.lines[k] := by simp [lnAt, hk, hll]
 have hbd : bdAt w a.train = w.bodies[k] := by simp [bdAt, bAt, hk, hkl]
 have v0 : CF H1 ib (ob + k * 4) (iv w.bodies[k].ver) := CF.cell (by have := hcb 0 _ rfl; simpa using this)
 have v1 : CF H1 ib (ob + k * 4 + 1) (iv w.bodies[k].cel) := CF.cell (hcb 1 _ rfl)
 have v2 : CF H1 ib (ob + k * 4 + 2) (iv w.bodies[k].tail) := CF.cell (hcb 2 _ rfl)
 have v3 : CF H1 ib (ob + k * 4 + 3) (iv w.bodies[k].front) := CF.cell (hcb 3 _ rfl)
 have vr := RF.ok (oab.2 ib hib)
 -- the book behind an event
 have finD : ∀ (Hc Hd F : Heap) (bods : List Bd) (D : Dn) (w' : Value) (A' : List Nat), Hc.length = H1.length → (∀ j, j ≠ ib → Hc[j]? = H1[j]?) → RS 4 RBd Hc F2 (sl ib ob w.bodies.length) bods → Own Hc F2 → Gro Hc Hd → RS 4 RLn Hd A' w' D.book.lines → Own Hd A' → (∀ e, e ∈ A' → Hc.length ≤ e) →
   (∀ j, j ≠ X5 → F[j]? = Hd[j]?) → F[X5]? = some ⟨42, [.bool w.ok, .bool D.book.ok, iv D.book.sec, w', sl ib ob w.bodies.length], true, true⟩ → F.length = Hd.length → stepWd w a = ⟨D.code, { w with book := D.book, bodies := bods }⟩ → SqJ H X5 (stepWd w a).world F := by
  intro Hc Hd F bods D w' A' hc1 hc2 hc3 hc4 hd1 rw' ow' lw' hF hFX hFl hs
  have hdl := hd1.len
  rw [hs]
  have hB : ∀ e, e ∈ F2 → F[e]? = Hc[e]? ∧ e < H1.length := fun e he => by
   have h1 := l e (List.mem_append_right _ he)
   have h2 := bdb e he
   exact ⟨(hF e (by omega)).trans (hd1.same (by omega)), h2⟩
  have hA : ∀ e, e ∈ A' → F[e]? = Hd[e]? := fun e he => hF e (by have := lw' e he; omega)
  refine ⟨Gro.of (by omega) fun j hj => (hF j (by omega)).trans ((hd1.same (by omega)).trans ((hc2 j (by omega)).trans (hg.same hj))), (hF _ (by omega)).trans ((hd1.same (by have := lt_of_get b4; omega)).trans ((hc2 _ (by omega)).trans b4)), w', sl ib ob w.bodies.length, A', F2, hFX, rw'.fr RLn.frm fun e he _ => hA e he, hc3.fr (RP.frm _) fun e he _ => (hB e he).1, (ow'.fr hA).app (hc4.fr fun e he => (hB e he).1) fun e h1 h2 => ?_, fun e he => ?_⟩
  ·have := lw' e h1; have := (hB e h2).2; omega
  ·rcases List.mem_append.1 he with h1 | h1
   ·have := lw' e h1; omega
   ·have := l e (List.mem_append_right _ h1); omega
 -- a body changed, or nothing
 have finE : ∀ (F : Heap) (bods : List Bd) (c : Int), H1.length ≤ F.length → (∀ j, j < H1.length → j ≠ ib → F[j]? = H1[j]?) → RS 4 RBd F F2 (sl ib ob w.bodies.length) bods → Own F F2 → stepWd w a = ⟨c, { w with bodies := bods }⟩ → SqJ H X5 (stepWd w a).world F := by
  intro F bods c hFl hF hb3 hb4 hs
  rw [hs]
  have hap := o.apart
  have hA : ∀ e, e ∈ F1 → F[e]? = H1[e]? := fun e he => hF e (bdl e he) fun hh => hap e he (hh ▸ hib)
  exact ⟨Gro.of (by omega) fun j hj => (hF j (by omega) (by omega)).trans (hg.same hj), (hF _ (lt_of_get b4) (by omega)).trans b4, ul, sl ib ob w.bodies.length, F1, F2, (hF _ b5l (by omega)).trans b5, rl.fr RLn.frm fun e he _ => hA e he, hb3, (oal.fr hA).app hb4 hap, fun e he => by have := l e he; omega⟩
 refine sk_seq ?_
 refine sk_reg fun K hK => ?_; simp [a4.s, y4.s, hkl]
 refine hK _ ?_; clear hK K
 refine sk_seq ?_
 refine sk_reg fun K hK => ?_; simp
 refine hK _ ?_; clear hK K
 refine sk_seq ?_
 refine sk_cut [(4, pt (H.length + 2) 0), (5, pt X5 0), (7, iv (stepWd w a).code)] (SqJ H X5 (stepWd w a).world) ?_ ?_
 case refine_2 =>
  rintro H3 ⟨g3, b43, ul3, ub3, EL, EB, b53, rl3, rb3, o3, l3⟩
  have q0 : CF H3 X5 0 _ := CF.of b53 rfl rfl
  have q1 : CF H3 X5 1 _ := CF.of b53 rfl rfl
  have q2 : CF H3 X5 2 _ := CF.of b53 rfl rfl
  have q3 : CF H3 X5 3 _ := CF.of b53 rfl rfl
  have q4 : CF H3 X5 4 _ := CF.of b53 rfl rfl
  have z0 : CF H3 (H.length + 2) 0 (iv 0) := CF.of b43 rfl rfl
  have z1 : CF H3 (H.length + 2) 1 (.bool false) := CF.of b43 rfl rfl
  have z2 : CF H3 (H.length + 2) 2 (.bool false) := CF.of b43 rfl rfl
  have z3 : CF H3 (H.length + 2) 3 (iv 0) := CF.of b43 rfl rfl
  have z4 : CF H3 (H.length + 2) 4 nl := CF.of b43 rfl rfl
  have z5 : CF H3 (H.length + 2) 5 nl := CF.of b43 rfl rfl
  have zr := RF.of b43
  have xa := rl3.one
  have xb := rb3.one
  have hg3 := g3.len
  repeat (first | refine sA ?_ | refine sB ?_ | refine sC ?_ | refine sD ?_ | refine sE rfl ?_ | refine sF rfl ?_ | refine sG rfl ?_ | ((first | refine sk_reg fun K hK => ?_ | refine sk_drw mix fun K hK => ?_); simp [q0.s, q1.s, q2.s, q3.s, q4.s, z0.s, z1.s, z2.s, z3.s, z4.s, z5.s, zr.s, xa, xb]; refine hK _ ?_; clear hK K))
  refine sk_ret ?_; simp [z0.s, z1.s, z2.s, z3.s, z4.s, z5.s, zr.s, xa, xb]
  have hF : ∀ j, j ≠ H.length + 2 → ((((((H3.put (H.length + 2) 0 (iv (stepWd w a).code)).put (H.length + 2) 1 (.bool (stepWd w a).world.ok)).put (H.length + 2) 2 (.bool (stepWd w a).world.book.ok)).put (H.length + 2) 3 (iv (stepWd w a).world.book.sec)).put (H.length + 2) 4 ul3).put (H.length + 2) 5 ub3)[j]? = H3[j]? := fun j hj => by
   rw [get_put_ne _ _ _ hj, get_put_ne _ _ _ hj, get_put_ne _ _ _ hj, get_put_ne _ _ _ hj, get_put_ne _ _ _ hj, get_put_ne _ _ _ hj]
  have hn : ∀ e, e ∈ EL ++ EB → ((((((H3.put (H.length + 2) 0 (iv (stepWd w a).code)).put (H.length + 2) 1 (.bool (stepWd w a).world.ok)).put (H.length + 2) 2 (.bool (stepWd w a).world.book.ok)).put (H.length + 2) 3 (iv (stepWd w a).world.book.sec)).put (H.length + 2) 4 ul3).put (H.length + 2) 5 ub3)[e]? = H3[e]? := fun e he => hF e (by have := (l3 e he).1; omega)
  exact ⟨by simp only [length_put]; exact hg3, fun j hj => (hF j (by omega)).trans (g3.same hj), EL ++ EB, ⟨_, rfl, RWd.frm.fr (rwd_five rl3 rb3) fun e he _ => hn e he⟩, o3.fr hn, fun e he => by have := (l3 e he).1; omega⟩
 have nib : ¬ ib = H.length := by omega
 have nib2 : ¬ ib = H.length + 2 := by omega
 have nib3 : ¬ ib = H.length + 1 := by omega
 have nib5 : ¬ ib = X5 := by omega
 have hibl : H.length ≤ ib := by omega
 have hx5l : H.length ≤ X5 := by omega
 repeat (first | refine sA ?_ | refine sB ?_ | refine sC ?_ | refine sD ?_ | refine sE rfl ?_ | refine sF rfl ?_ | refine sG rfl ?_ | ((first | refine sk_reg fun K hK => ?_ | refine sk_drw mix fun K hK => ?_); simp [a0.s]; refine hK _ ?_; clear hK K))
 by_cases p1 : a.op = 1
 ·rw [decide_eq_true p1]
  by_cases p2 : a.ev.op = 3 ∨ a.ev.op = 4
  ·have hs : stepWd w a = ⟨1, wd0⟩ := by rw [hsv]; unfold stepV; simp only; rw [if_pos p1, if_pos p2]
   have hF : ∀ j, j ≠ H.length + 2 → ((((((H1.put (H.length + 2) 0 (iv 1)).put (H.length + 2) 1 (.bool false)).put (H.length + 2) 2 (.bool false)).put (H.length + 2) 3 (iv 0)).put (H.length + 2) 4 nl).put (H.length + 2) 5 nl)[j]? = H1[j]? := fun j hj => by
    rw [get_put_ne _ _ _ hj, get_put_ne _ _ _ hj, get_put_ne _ _ _ hj, get_put_ne _ _ _ hj, get_put_ne _ _ _ hj, get_put_ne _ _ _ hj]
   have hlF : List.length ((((((H1.put (H.length + 2) 0 (iv 1)).put (H.length + 2) 1 (.bool false)).put (H.length + 2) 2 (.bool false)).put (H.length + 2) 3 (iv 0)).put (H.length + 2) 4 nl).put (H.length + 2) 5 nl) = H1.length := by simp only [length_put]
   rcases p2 with p2 | p2
   ·repeat (first | refine sA ?_ | refine sB ?_ | refine sC ?_ | refine sD ?_ | refine sE rfl ?_ | refine sF rfl ?_ | refine sG rfl ?_ | ((first | refine sk_reg fun K hK => ?_ | refine sk_drw mix fun K hK => ?_); simp [p2, a1.s, z0.s, z1.s, z2.s, z3.s, z4.s, z5.s, zr.s]; refine hK _ ?_; clear hK K))
    refine sk_ret ?_; simp [z0.s, z1.s, z2.s, z3.s, z4.s, z5.s, zr.s]
    exact ⟨Nat.le_trans hl1 (Nat.le_of_eq hlF.symm), fin0 _ (Gro.of (Nat.le_trans hl1 (Nat.le_of_eq hlF.symm)) fun j hj => (hF j (by omega)).trans (hg.same hj)) hs⟩
   ·repeat (first | refine sA ?_ | refine sB ?_ | refine sC ?_ | refine sD ?_ | refine sE rfl ?_ | refine sF rfl ?_ | refine sG rfl ?_ | ((first | refine sk_reg fun K hK => ?_ | refine sk_drw mix fun K hK => ?_); simp [p2, a1.s, z0.s, z1.s, z2.s, z3.s, z4.s, z5.s, zr.s]; refine hK _ ?_; clear hK K))
    refine sk_ret ?_; simp [z0.s, z1.s, z2.s, z3.s, z4.s, z5.s, zr.s]
    exact ⟨Nat.le_trans hl1 (Nat.le_of_eq hlF.symm), fin0 _ (Gro.of (Nat.le_trans hl1 (Nat.le_of_eq hlF.symm)) fun j hj => (hF j (by omega)).trans (hg.same hj)) hs⟩
  have p3 : ¬ a.ev.op = 3 := fun hh => p2 (.inl hh)
  have p4 : ¬ a.ev.op = 4 := fun hh => p2 (.inr hh)
  have hs : stepWd w a = bookW w a.ev := by rw [hsv]; unfold stepV; simp only; rw [if_pos p1, if_neg p2]
  repeat (first | refine sA ?_ | refine sB ?_ | refine sC ?_ | refine sD ?_ | refine sE rfl ?_ | refine sF rfl ?_ | refine sG rfl ?_ | ((first | refine sk_reg fun K hK => ?_ | refine sk_drw mix fun K hK => ?_); simp [p3, p4, a1.s]; refine hK _ ?_; clear hK K))
  refine sk_reg fun K hK => ?_; simp [w1.s, w2.s, w3.s, x, a1.s, a2.s, a3.s]
  refine AskX.mkr (specDo_mk (show RBk _ E1 w.book [.bool w.book.ok, iv w.book.sec, vl] from ⟨vl, rfl, hl.gro (hg.trans (by first | exact Gro.refl _ | exact ⟨_, rfl⟩ | exact ⟨_, by simp only [List.append_assoc, List.cons_append, List.nil_append]; rfl⟩ | exact ⟨[], by simp⟩)) RLn.frm⟩) a.ev) ?_; rintro _ J A' ⟨_, rfl, _, rfl, w', rfl, rw'⟩ ow' lw'; simp [x, hgz, hl1]
  have xw' := rw'.one
  have xcv := rw'.cv
  simp [xw', xcv, hgz, hl1]
  refine hK _ ?_; clear hK K
  obtain ⟨T, hT⟩ : ∃ T, T = H1.length + J.length := ⟨_, rfl⟩
  generalize hDd : doB w.book a.ev = D at *
  refine sk_at [(2, pt H.length 0), (3, pt (H.length + 1) 0), (4, pt (H.length + 2) 0), (5, pt X5 0), (6, pt ib (ob + k * 4)), (8, pt T 0)] (fun Hd => Gro H1 Hd ∧ Hd[T]? = some ⟨99, [iv D.code, .bool D.book.ok, iv D.book.sec, w'], true, true⟩ ∧ RS 4 RLn Hd A' w' D.book.lines ∧ Own Hd A') (by simp [subL, getT, hT]) ⟨Gro.one _ _, ?_, rw'.gro (by first | exact Gro.refl _ | exact ⟨_, rfl⟩ | exact ⟨_, by simp only [List.append_assoc, List.cons_append, List.nil_append]; rfl⟩ | exact ⟨[], by simp⟩) RLn.frm, ow'.gro (by first | exact Gro.refl _ | exact ⟨_, rfl⟩ | exact ⟨_, by simp only [List.append_assoc, List.cons_append, List.nil_append]; rfl⟩ | exact ⟨[], by simp⟩)⟩ ?_
  ·rw [hT, List.getElem?_append_right (by omega), Nat.add_sub_cancel_left]
   simp
  clear rw' ow'
  rintro Hd ⟨gd, bT, rw', ow'⟩
  have hdl := gd.len
  have c0 : CF Hd T 0 (iv D.code) := CF.of bT rfl rfl
  have c1 : CF Hd T 1 (.bool D.book.ok) := CF.of bT rfl rfl
  have c2 : CF Hd T 2 (iv D.book.sec) := CF.of bT rfl rfl
  have c3 : CF Hd T 3 w' := CF.of bT rfl rfl
  have b5d := gd.get b5
  have x0 : CF Hd X5 0 (.bool w.ok) := CF.of b5d rfl rfl
  have x1 : CF Hd X5 1 (.bool w.book.ok) := CF.of b5d rfl rfl
  have x2 : CF Hd X5 2 (iv w.book.sec) := CF.of b5d rfl rfl
  have x3 : CF Hd X5 3 ul := CF.of b5d rfl rfl
  have xr := RF.of b5d
  have nT : ¬ X5 = T := by omega
  by_cases c1' : D.code = 1
  ·have hs2 : stepWd w a = ⟨1, wd0⟩ := by rw [hs]; unfold bookW; rw [hDd, if_pos c1']
   have b4d := gd.get b4
   have z0 : CF Hd (H.length + 2) 0 (iv 0) := CF.of b4d rfl rfl
   have z1 : CF Hd (H.length + 2) 1 (.bool false) := CF.of b4d rfl rfl
   have z2 : CF Hd (H.length + 2) 2 (.bool false) := CF.of b4d rfl rfl
   have z3 : CF Hd (H.length + 2) 3 (iv 0) := CF.of b4d rfl rfl
   have z4 : CF Hd (H.length + 2) 4 nl := CF.of b4d rfl rfl
   have z5 : CF Hd (H.length + 2) 5 nl := CF.of b4d rfl rfl
   have zr := RF.of b4d
   rw [c1'] at c0
   repeat (first | refine sA ?_ | refine sB ?_ | refine sC ?_ | refine sD ?_ | refine sE rfl ?_ | refine sF rfl ?_ | refine sG rfl ?_ | ((first | refine sk_reg fun K hK => ?_ | refine sk_drw mix fun K hK => ?_); simp [c0.s, z0.s, z1.s, z2.s, z3.s, z4.s, z5.s, zr.s]; refine hK _ ?_; clear hK K))
   refine sk_ret ?_; simp [z0.s, z1.s, z2.s, z3.s, z4.s, z5.s, zr.s]
   have hF : ∀ j, j ≠ H.length + 2 → ((((((Hd.put (H.length + 2) 0 (iv 1)).put (H.length + 2) 1 (.bool false)).put (H.length + 2) 2 (.bool false)).put (H.length + 2) 3 (iv 0)).put (H.length + 2) 4 nl).put (H.length + 2) 5 nl)[j]? = Hd[j]? := fun j hj => by
    rw [get_put_ne _ _ _ hj, get_put_ne _ _ _ hj, get_put_ne _ _ _ hj, get_put_ne _ _ _ hj, get_put_ne _ _ _ hj, get_put_ne _ _ _ hj]
   have hlF : H.length ≤ List.length ((((((Hd.put (H.length + 2) 0 (iv 1)).put (H.length + 2) 1 (.bool false)).put (H.length + 2) 2 (.bool false)).put (H.length + 2) 3 (iv 0)).put (H.length + 2) 4 nl).put (H.length + 2) 5 nl) := by simp only [length_put]; omega
   exact ⟨hlF, fin0 _ (Gro.of hlF fun j hj => (hF j (by omega)).trans ((gd.same (by omega)).trans (hg.same hj))) hs2⟩
  have hs : stepWd w a = ⟨D.code, { w with book := D.book, bodies := w.bodies }⟩ := by rw [hs]; unfold bookW; rw [hDd, if_neg c1']
  repeat (first | refine sA ?_ | refine sB ?_ | refine sC ?_ | refine sD ?_ | refine sE rfl ?_ | refine sF rfl ?_ | refine sG rfl ?_ | ((first | refine sk_reg fun K hK => ?_ | refine sk_drw mix fun K hK => ?_); simp [c0.s, c1.s, c2.s, c3.s, c1', x0.s, x1.s, x2.s, x3.s, xr.s, xw', hx5l, nT]; refine hK _ ?_; clear hK K))
  have hF5 : (((Hd.put X5 1 (.bool D.book.ok)).put X5 2 (iv D.book.sec)).put X5 3 w')[X5]? = some ⟨42, [.bool w.ok, .bool D.book.ok, iv D.book.sec, w', sl ib ob w.bodies.length], true, true⟩ := by
   rw [get_put, get_put, get_put, b5d]; rfl
  refine sk_inv ⟨by simp [subL, getT, hs], ?_⟩
  exact finD H1 Hd _ w.bodies D w' A' rfl (fun _ _ => rfl) rb oab gd rw' ow' lw' (fun j hj => by rw [get_put_ne _ _ _ hj, get_put_ne _ _ _ hj, get_put_ne _ _ _ hj]) hF5 (by simp only [length_put]) hs
 rw [decide_eq_false p1]
 repeat (first | refine sA ?_ | refine sB ?_ | refine sC ?_ | refine sD ?_ | refine sE rfl ?_ | refine sF rfl ?_ | refine sG rfl ?_ | ((first | refine sk_reg fun K hK => ?_ | refine sk_drw mix fun K hK => ?_); simp; refine hK _ ?_; clear hK K))
 by_cases p2 : a.op = 2
 ·rw [decide_eq_true p2]
  obtain ⟨il, ol, l1', l2', F1', F2', hvl', hidl, m0, m1, m2, m3, rw1, rg1, yo1, yo2, _⟩ := hl.line hll
  subst hvl'
  have m0 := m0.gro hg
  have m1 := m1.gro hg
  have m2 := m2.gro hg
  have m3 := m3.gro hg
  have rgH := rg1
  have rg1 := rg1.gro hg (RP.frm _)
  have hst := hsv
  unfold stepV at hst
  simp only [hln, hbd] at hst
  rw [if_neg p1, if_pos p2, hlo.find] at hst
  generalize hgs : w.book.lines[k] = ln at *
  have hn0 := hlo.n0
  have hn1 := hlo.n1
  have hw0 : 0 < ln.grs.length := by omega
  have hne : ¬ ln.grs = [] := fun hh => by rw [hh] at hw0; simp at hw0
  obtain ⟨ig, og, hvg, hidg, q0, _⟩ := rgH.gr (k := 0) (by omega)
  have q0 := q0.gro hg
  subst hvg
  have gv0 := hlo.gs 0 (by omega)
  simp only [Nat.zero_mul, Nat.add_zero] at q0
  rw [← gAt_eq (show 0 < ln.grs.length by omega)] at q0 gv0
  have finC : ∀ (F : Heap) (c : Int), Gro H1 F → stepWd w a = ⟨c, w⟩ → SqJ H X5 (stepWd w a).world F := fun F c hF he => finE F w.bodies c hF.len (fun j hj _ => hF.same hj) (rb.gro hF (RP.frm _)) (oab.gro hF) he
  by_cases hk' : (gAt ln.grs 0).ver ≤ a.n ∧ a.n < (gAt ln.grs 0).ver + ln.grs.length
  case neg =>
   rw [if_neg hk', if_pos (.inl (by decide))] at hst
   have hkw : IntKind.i64.wrap (a.n - (gAt ln.grs 0).ver) < 0 ∨ (ln.grs.length : Int) ≤ IntKind.i64.wrap (a.n - (gAt ln.grs 0).ver) := by
    have h1 := han.1
    have h2 := han.2
    rw [IntKind.wrap_i64]
    omega
   generalize hkk : IntKind.i64.wrap (a.n - (gAt ln.grs 0).ver) = kk at hkw
   by_cases hk1 : kk < 0
   ·repeat (first | refine sA ?_ | refine sB ?_ | refine sC ?_ | refine sD ?_ | refine sE rfl ?_ | refine sF rfl ?_ | refine sG rfl ?_ | ((first | refine sk_reg fun K hK => ?_ | refine sk_drw mix fun K hK => ?_); simp [w3.s, a4.s, hll, m0.s, m1.s, m2.s, m3.s, yo1, a5.s, hw0, hne, q0.s, hkk, hk1, hgz, hl1]; refine hK _ ?_; clear hK K))
    exact sk_inv ⟨by simp [subL, getT, hst], finC _ 2 (Gro.one _ _) hst⟩
   ·have hk2 : (ln.grs.length : Int) ≤ kk := by omega
    repeat (first | refine sA ?_ | refine sB ?_ | refine sC ?_ | refine sD ?_ | refine sE rfl ?_ | refine sF rfl ?_ | refine sG rfl ?_ | ((first | refine sk_reg fun K hK => ?_ | refine sk_drw mix fun K hK => ?_); simp [w3.s, a4.s, hll, m0.s, m1.s, m2.s, m3.s, yo1, a5.s, hw0, hne, q0.s, hkk, hk1, hk2, hgz, hl1]; refine hK _ ?_; clear hK K))
    exact sk_inv ⟨by simp [subL, getT, hst], finC _ 2 (Gro.one _ _) hst⟩
  obtain ⟨i, hkv⟩ : ∃ i : Nat, a.n = (gAt ln.grs 0).ver + i := ⟨(a.n - (gAt ln.grs 0).ver).toNat, by omega⟩
  have hi : i < ln.grs.length := by omega
  have hkk : IntKind.i64.wrap (a.n - (gAt ln.grs 0).ver) = (i : Int) := by rw [wrap_id (by omega) (by omega)]; omega
  rw [if_pos hk', show a.n - (gAt ln.grs 0).ver = (i : Int) by omega] at hst
  have hk1 : ¬ (i : Int) < 0 := by omega
  have hk2 : ¬ (ln.grs.length : Int) ≤ (i : Int) := by omega
  have hk3 : ¬ ln.grs.length ≤ i := by omega
  obtain ⟨_, _, hvg2, _, _, q1⟩ := rg1.gr hi
  simp at hvg2
  obtain ⟨rfl, rfl⟩ := hvg2
  by_cases r1 : a.n ≤ w.bodies[k].ver
  ·rw [if_pos (.inr r1)] at hst
   repeat (first | refine sA ?_ | refine sB ?_ | refine sC ?_ | refine sD ?_ | refine sE rfl ?_ | refine sF rfl ?_ | refine sG rfl ?_ | ((first | refine sk_reg fun K hK => ?_ | refine sk_drw mix fun K hK => ?_); simp [w3.s, a4.s, hll, m0.s, m1.s, m2.s, m3.s, yo1, a5.s, hw0, hne, q0.s, hkk, hk1, hk2, hk3, hgz, hl1, v0.s, v1.s, v2.s, v3.s, r1]; refine hK _ ?_; clear hK K))
   exact sk_inv ⟨by simp [subL, getT, hst], finC _ 2 (Gro.one _ _) hst⟩
  rw [if_neg (by omega), Int.toNat_natCast, gAt_eq hi] at hst
  by_cases r2 : ln.grs[i].cel ≤ w.bodies[k].front
  ·rw [if_pos r2] at hst
   repeat (first | refine sA ?_ | refine sB ?_ | refine sC ?_ | refine sD ?_ | refine sE rfl ?_ | refine sF rfl ?_ | refine sG rfl ?_ | ((first | refine sk_reg fun K hK => ?_ | refine sk_drw mix fun K hK => ?_); simp [w3.s, a4.s, hll, m0.s, m1.s, m2.s, m3.s, yo1, a5.s, hw0, hne, q0.s, q1.s, hi, hkk, hk1, hk2, hk3, hgz, hl1, v0.s, v1.s, v2.s, v3.s, r1, r2]; refine hK _ ?_; clear hK K))
   exact sk_inv ⟨by simp [subL, getT, hst], finC _ 3 (Gro.one _ _) hst⟩
  rw [if_neg r2, hk] at hst
  have nH1 : ¬ ib = H1.length := by have := bdb ib hib; omega
  have nH1' : ¬ ib = ig := fun hh => by omega
  repeat (first | refine sA ?_ | refine sB ?_ | refine sC ?_ | refine sD ?_ | refine sE rfl ?_ | refine sF rfl ?_ | refine sG rfl ?_ | ((first | refine sk_reg fun K hK => ?_ | refine sk_drw mix fun K hK => ?_); simp [w3.s, a4.s, hll, m0.s, m1.s, m2.s, m3.s, yo1, a5.s, hw0, hne, q0.s, q1.s, hi, hkk, hk1, hk2, hk3, hgz, hl1, v0.s, v1.s, v2.s, v3.s, vr.s, r1, r2, nib, nib2, nib3, nib5, nH1, nH1', hibl]; refine hK _ ?_; clear hK K))
  refine sk_inv ⟨by simp [subL, getT, hst], finE _ (w.bodies.set k ⟨a.n, ln.grs[i].cel, w.bodies[k].tail, w.bodies[k].front⟩) 0 (by simp only [length_put, List.length_append]; omega) (fun j hj hji => ?_) ?_ ((oab.ext bdb).mk ((MK.put _ _ hib rfl).trans (MK.put _ _ hib rfl))) (by rw [hst]; simp [setBd])⟩
  ·rw [get_put_ne _ _ _ hji, get_put_ne _ _ _ hji, List.getElem?_append_left hj]
  ·refine hclb _ _ (cBd ⟨a.n, ln.grs[i].cel, w.bodies[k].tail, w.bodies[k].front⟩) rfl ⟨rfl, rfl⟩ (fun e he hei _ => by rw [get_put_ne _ _ _ hei, get_put_ne _ _ _ hei, List.getElem?_append_left (bdb e he)]) fun a' z' b' hb' hc' ha' => ?_
   rw [get_put, get_put, List.getElem?_append_left (bdb ib hib), hb']
   simp only [Option.map_some, hc', ← ha']
   simp [cBd]
 rw [decide_eq_false p2]
 repeat (first | refine sA ?_ | refine sB ?_ | refine sC ?_ | refine sD ?_ | refine sE rfl ?_ | refine sF rfl ?_ | refine sG rfl ?_ | ((first | refine sk_reg fun K hK => ?_ | refine sk_drw mix fun K hK => ?_); simp; refine hK _ ?_; clear hK K))
 by_cases p3 : a.op = 3
 ·rw [decide_eq_true p3]
  have hst := hsv
  unfold stepV at hst
  simp only [hbd] at hst
  rw [if_neg p1, if_neg p2, if_pos p3, hk] at hst
  obtain ⟨hev, hc0⟩ := tell_ok hr hkl
  have hevv : vEv ⟨3, (k : Int), w.bodies[k].ver⟩ = .agg #[iv 3, iv k, iv w.bodies[k].ver] := rfl
  repeat (first | refine sA ?_ | refine sB ?_ | refine sC ?_ | refine sD ?_ | refine sE rfl ?_ | refine sF rfl ?_ | refine sG rfl ?_ | ((first | refine sk_reg fun K hK => ?_ | refine sk_drw mix fun K hK => ?_); simp; refine hK _ ?_; clear hK K))
  refine sk_drw mix fun K hK => ?_; simp [w1.s, w2.s, w3.s, x, a4.s, v0.s]
  refine AskD.mkr (specDo_mk (show RBk _ E1 w.book [.bool w.book.ok, iv w.book.sec, vl] from ⟨vl, rfl, hl.gro (hg.trans (by first | exact Gro.refl _ | exact ⟨_, rfl⟩ | exact ⟨_, by simp only [List.append_assoc, List.cons_append, List.nil_append]; rfl⟩ | exact ⟨[], by simp⟩)) RLn.frm⟩) ⟨3, (k : Int), w.bodies[k].ver⟩) ?_; rintro _ J A' ⟨_, rfl, _, rfl, w', rfl, rw'⟩ ow' lw'; simp [x, hgz, hl1]
  have xw' := rw'.one
  have xcv := rw'.cv
  simp [xw', xcv, hgz, hl1]
  refine hK _ ?_; clear hK K
  simp only [List.append_assoc, List.cons_append, List.nil_append, List.length_append, List.length_cons, List.length_nil] at rw' ow' lw'
  obtain ⟨T, hT⟩ : ∃ T, T = H1.length := ⟨_, rfl⟩
  generalize hDd : doB w.book ⟨3, (k : Int), w.bodies[k].ver⟩ = D at *
  refine sk_at [(2, pt H.length 0), (3, pt (H.length + 1) 0), (4, pt (H.length + 2) 0), (5, pt X5 0), (6, pt ib (ob + k * 4)), (11, pt T 0)] (fun Hd => Gro H1 Hd ∧ Hd[T]? = some ⟨99, [iv D.code, .bool D.book.ok, iv D.book.sec, w'], true, true⟩ ∧ RS 4 RLn Hd A' w' D.book.lines ∧ Own Hd A') (by simp [subL, getT, hT]) ⟨Gro.one _ _, by simp [hT], ?_, ?_⟩ ?_
  ·exact rw'.fr RLn.frm fun e he hl => by
    have := lw' e he
    rw [List.getElem?_append_right (by omega), List.getElem?_append_right (by omega)]
    rw [show e - H1.length = (e - H1.length - 1) + 1 by omega]
    rfl
  ·exact ow'.fr fun e he => by
    have := lw' e he
    rw [List.getElem?_append_right (by omega), List.getElem?_append_right (by omega)]
    rw [show e - H1.length = (e - H1.length - 1) + 1 by omega]
    rfl
  clear rw' ow'
  rintro Hd ⟨gd, bT, rw', ow'⟩
  have hdl := gd.len
  have c0 : CF Hd T 0 (iv D.code) := CF.of bT rfl rfl
  have c1 : CF Hd T 1 (.bool D.book.ok) := CF.of bT rfl rfl
  have c2 : CF Hd T 2 (iv D.book.sec) := CF.of bT rfl rfl
  have c3 : CF Hd T 3 w' := CF.of bT rfl rfl
  have b5d := gd.get b5
  have x0 : CF Hd X5 0 (.bool w.ok) := CF.of b5d rfl rfl
  have x1 : CF Hd X5 1 (.bool w.book.ok) := CF.of b5d rfl rfl
  have x2 : CF Hd X5 2 (iv w.book.sec) := CF.of b5d rfl rfl
  have x3 : CF Hd X5 3 ul := CF.of b5d rfl rfl
  have xr := RF.of b5d
  have nT : ¬ X5 = T := by omega
  have hs : stepWd w a = ⟨D.code, { w with book := D.book, bodies := w.bodies }⟩ := by rw [hst]; unfold bookW; rw [hDd, if_neg (by rw [hc0]; decide)]
  repeat (first | refine sA ?_ | refine sB ?_ | refine sC ?_ | refine sD ?_ | refine sE rfl ?_ | refine sF rfl ?_ | refine sG rfl ?_ | ((first | refine sk_reg fun K hK => ?_ | refine sk_drw mix fun K hK => ?_); simp [c0.s, c1.s, c2.s, c3.s, x0.s, x1.s, x2.s, x3.s, xr.s, xw', hx5l, nT]; refine hK _ ?_; clear hK K))
  have hF5 : (((Hd.put X5 1 (.bool D.book.ok)).put X5 2 (iv D.book.sec)).put X5 3 w')[X5]? = some ⟨42, [.bool w.ok, .bool D.book.ok, iv D.book.sec, w', sl ib ob w.bodies.length], true, true⟩ := by
   rw [get_put, get_put, get_put, b5d]; rfl
  refine sk_inv ⟨by simp [subL, getT, hs], ?_⟩
  exact finD H1 Hd _ w.bodies D w' A' rfl (fun _ _ => rfl) rb oab gd rw' ow' (fun e he => by have := lw' e he; omega) (fun j hj => by rw [get_put_ne _ _ _ hj, get_put_ne _ _ _ hj, get_put_ne _ _ _ hj]) hF5 (by simp only [length_put]) hs
 rw [decide_eq_false p3]
 repeat (first | refine sA ?_ | refine sB ?_ | refine sC ?_ | refine sD ?_ | refine sE rfl ?_ | refine sF rfl ?_ | refine sG rfl ?_ | ((first | refine sk_reg fun K hK => ?_ | refine sk_drw mix fun K hK => ?_); simp; refine hK _ ?_; clear hK K))
 have hbb := body_leash hlo hbo
 obtain ⟨_, _, _, _, _, _, bc1, _, bt0, bt1, bt2, bt3, bc2⟩ := hbb
 have hwf := wrap_id (x := w.bodies[k].front + 1) (by omega) (by omega)
 have hwt := wrap_id (x := w.bodies[k].tail + 1) (by omega) (by omega)
 by_cases p4 : a.op = 4
 ·rw [decide_eq_true p4]
  have hst := hsv
  unfold stepV at hst
  simp only [hbd] at hst
  rw [if_neg p1, if_neg p2, if_neg p3, if_pos p4] at hst
  by_cases q1 : w.bodies[k].cel ≤ w.bodies[k].front + 1
  ·rw [if_pos q1] at hst
   repeat (first | refine sA ?_ | refine sB ?_ | refine sC ?_ | refine sD ?_ | refine sE rfl ?_ | refine sF rfl ?_ | refine sG rfl ?_ | ((first | refine sk_reg fun K hK => ?_ | refine sk_drw mix fun K hK => ?_); simp [v0.s, v1.s, v2.s, v3.s, hwf, q1]; refine hK _ ?_; clear hK K))
   exact sk_inv ⟨by simp [subL, getT, hst], finE _ w.bodies 3 (Nat.le_refl _) (fun _ _ _ => rfl) rb oab hst⟩
  rw [if_neg q1, hk] at hst
  repeat (first | refine sA ?_ | refine sB ?_ | refine sC ?_ | refine sD ?_ | refine sE rfl ?_ | refine sF rfl ?_ | refine sG rfl ?_ | ((first | refine sk_reg fun K hK => ?_ | refine sk_drw mix fun K hK => ?_); simp [v0.s, v1.s, v2.s, v3.s, vr.s, hwf, q1, nib, nib2, nib3, nib5, hibl]; refine hK _ ?_; clear hK K))
  refine sk_inv ⟨by simp [subL, getT, hst], finE _ (w.bodies.set k { w.bodies[k] with front := w.bodies[k].front + 1 }) 0 (by simp only [length_put]; omega) (fun j hj hji => get_put_ne _ _ _ hji) ?_ (oab.mk (MK.put _ _ hib rfl)) (by rw [hst]; simp [setBd])⟩
  refine hclb _ _ (cBd { w.bodies[k] with front := w.bodies[k].front + 1 }) rfl ⟨rfl, rfl⟩ (fun e he hei _ => get_put_ne _ _ _ hei) fun a' z' b' hb' hc' ha' => ?_
  rw [get_put, hb']
  simp only [Option.map_some, hc', ← ha']
  simp [cBd]
 rw [decide_eq_false p4]
 repeat (first | refine sA ?_ | refine sB ?_ | refine sC ?_ | refine sD ?_ | refine sE rfl ?_ | refine sF rfl ?_ | refine sG rfl ?_ | ((first | refine sk_reg fun K hK => ?_ | refine sk_drw mix fun K hK => ?_); simp; refine hK _ ?_; clear hK K))
 have p5 : a.op = 5 := by omega
 rw [decide_eq_true p5]
 have hst := hsv
 unfold stepV at hst
 simp only [hbd] at hst
 rw [if_neg p1, if_neg p2, if_neg p3, if_neg p4] at hst
 by_cases q1 : w.bodies[k].tail = w.bodies[k].front
 ·rw [if_pos q1] at hst
  repeat (first | refine sA ?_ | refine sB ?_ | refine sC ?_ | refine sD ?_ | refine sE rfl ?_ | refine sF rfl ?_ | refine sG rfl ?_ | ((first | refine sk_reg fun K hK => ?_ | refine sk_drw mix fun K hK => ?_); simp [v0.s, v1.s, v2.s, v3.s, q1]; refine hK _ ?_; clear hK K))
  exact sk_inv ⟨by simp [subL, getT, hst], finE _ w.bodies 3 (Nat.le_refl _) (fun _ _ _ => rfl) rb oab hst⟩
 rw [if_neg q1, hk] at hst
 obtain ⟨hev, hc0⟩ := tail_ok hr hkl q1
 repeat (first | refine sA ?_ | refine sB ?_ | refine sC ?_ | refine sD ?_ | refine sE rfl ?_ | refine sF rfl ?_ | refine sG rfl ?_ | ((first | refine sk_reg fun K hK => ?_ | refine sk_drw mix fun K hK => ?_); simp [v0.s, v1.s, v2.s, v3.s, vr.s, hwt, q1, nib, nib2, nib3, nib5, hibl]; refine hK _ ?_; clear hK K))
 refine sk_at [(2, pt H.length 0), (3, pt (H.length + 1) 0), (4, pt (H.length + 2) 0), (5, pt X5 0), (6, pt ib (ob + k * 4))]
  (fun Hc => Hc.length = H1.length ∧ (∀ j, j ≠ ib → Hc[j]? = H1[j]?) ∧ RS 4 RBd Hc F2 (sl ib ob w.bodies.length) (w.bodies.set k { w.bodies[k] with tail := w.bodies[k].tail + 1 }) ∧ Own Hc F2 ∧ CF Hc ib (ob + k * 4 + 2) (iv (w.bodies[k].tail + 1))) (by simp [subL, getT]) ⟨by simp only [length_put], fun j hj => get_put_ne _ _ _ hj, ?_, oab.mk (MK.put _ _ hib rfl), ?_⟩ ?_
 ·refine hclb _ _ (cBd { w.bodies[k] with tail := w.bodies[k].tail + 1 }) rfl ⟨rfl, rfl⟩ (fun e _ he _ => get_put_ne _ _ _ he) fun a' z' b' hb' hc' ha' => ?_
  rw [get_put, hb']
  simp only [Option.map_some, hc', ← ha']
  simp [cBd]
 ·refine CF.cell ?_
  rw [cell_put, if_pos ⟨rfl, rfl, by rw [v2.b]; rfl⟩]
 rintro Hc ⟨n1, n2, n3, n4, n5⟩
 have b2c : Hc[H.length]? = _ := (n2 _ (Ne.symm nib)).trans b2
 have b3c : Hc[H.length + 1]? = _ := (n2 _ (Ne.symm nib3)).trans b3
 have b5c : Hc[X5]? = _ := (n2 _ (Ne.symm nib5)).trans b5
 have a4c : CF Hc (H.length + 1) 4 (iv k) := by rw [← hk]; exact CF.of b3c rfl rfl
 have w1c : CF Hc H.length 1 (.bool w.book.ok) := CF.of b2c rfl rfl
 have w2c : CF Hc H.length 2 (iv w.book.sec) := CF.of b2c rfl rfl
 have w3c : CF Hc H.length 3 vl := CF.of b2c rfl rfl
 have hgc : Gro H Hc := Gro.of (by omega) fun j hj => (n2 j (by omega)).trans (hg.same hj)
 have hlc := hgc.len
 have hgzc : ∀ n, H.length ≤ Hc.length + n := fun n => by omega
 have hevv : vEv ⟨4, (k : Int), w.bodies[k].tail + 1⟩ = .agg #[iv 4, iv k, iv (w.bodies[k].tail + 1)] := rfl
 refine sk_drw mix fun K hK => ?_; simp [w1c.s, w2c.s, w3c.s, x, a4c.s, n5.s]
 refine AskD.mkr (specDo_mk (show RBk _ E1 w.book [.bool w.book.ok, iv w.book.sec, vl] from ⟨vl, rfl, hl.gro (hgc.trans (by first | exact Gro.refl _ | exact ⟨_, rfl⟩ | exact ⟨_, by simp only [List.append_assoc, List.cons_append, List.nil_append]; rfl⟩ | exact ⟨[], by simp⟩)) RLn.frm⟩) ⟨4, (k : Int), w.bodies[k].tail + 1⟩) ?_; rintro _ J A' ⟨_, rfl, _, rfl, w', rfl, rw'⟩ ow' lw'; simp [x, hgzc, hlc]
 have xw' := rw'.one
 have xcv := rw'.cv
 simp [xw', xcv, hgzc, hlc]
 refine hK _ ?_; clear hK K
 simp only [List.append_assoc, List.cons_append, List.nil_append, List.length_append, List.length_cons, List.length_nil] at rw' ow' lw'
 obtain ⟨T, hT⟩ : ∃ T, T = Hc.length := ⟨_, rfl⟩
 generalize hDd : doB w.book ⟨4, (k : Int), w.bodies[k].tail + 1⟩ = D at *
 refine sk_at [(2, pt H.length 0), (3, pt (H.length + 1) 0), (4, pt (H.length + 2) 0), (5, pt X5 0), (6, pt ib (ob + k * 4)), (12, pt T 0)] (fun Hd => Gro Hc Hd ∧ Hd[T]? = some ⟨99, [iv D.code, .bool D.book.ok, iv D.book.sec, w'], true, true⟩ ∧ RS 4 RLn Hd A' w' D.book.lines ∧ Own Hd A') (by simp [subL, getT, hT]) ⟨Gro.one _ _, by simp [hT], ?_, ?_⟩ ?_
 ·exact rw'.fr RLn.frm fun e he hl => by
   have := lw' e he
   rw [List.getElem?_append_right (by omega), List.getElem?_append_right (by omega)]
   rw [show e - Hc.length = (e - Hc.length - 1) + 1 by omega]
   rfl
 ·exact ow'.fr fun e he => by
   have := lw' e he
   rw [List.getElem?_append_right (by omega), List.getElem?_append_right (by omega)]
   rw [show e - Hc.length = (e - Hc.length - 1) + 1 by omega]
   rfl
 clear rw' ow'
 rintro Hd ⟨gd, bT, rw', ow'⟩
 have hdl := gd.len
 have c0 : CF Hd T 0 (iv D.code) := CF.of bT rfl rfl
 have c1 : CF Hd T 1 (.bool D.book.ok) := CF.of bT rfl rfl
 have c2 : CF Hd T 2 (iv D.book.sec) := CF.of bT rfl rfl
 have c3 : CF Hd T 3 w' := CF.of bT rfl rfl
 have b5d := gd.get b5c
 have x0 : CF Hd X5 0 (.bool w.ok) := CF.of b5d rfl rfl
 have x1 : CF Hd X5 1 (.bool w.book.ok) := CF.of b5d rfl rfl
 have x2 : CF Hd X5 2 (iv w.book.sec) := CF.of b5d rfl rfl
 have x3 : CF Hd X5 3 ul := CF.of b5d rfl rfl
 have xr := RF.of b5d
 have nT : ¬ X5 = T := by omega
 have hs : stepWd w a = ⟨D.code, { w with book := D.book, bodies := w.bodies.set k { w.bodies[k] with tail := w.bodies[k].tail + 1 } }⟩ := by
  rw [hst]
  unfold bookW
  rw [show (setBd w (k : Int) { w.bodies[k] with tail := w.bodies[k].tail + 1 }).book = w.book from rfl, hDd, if_neg (by rw [hc0]; decide)]
  simp [setBd]
 repeat (first | refine sA ?_ | refine sB ?_ | refine sC ?_ | refine sD ?_ | refine sE rfl ?_ | refine sF rfl ?_ | refine sG rfl ?_ | ((first | refine sk_reg fun K hK => ?_ | refine sk_drw mix fun K hK => ?_); simp [c0.s, c1.s, c2.s, c3.s, x0.s, x1.s, x2.s, x3.s, xr.s, xw', hx5l, nT]; refine hK _ ?_; clear hK K))
 have hF5 : (((Hd.put X5 1 (.bool D.book.ok)).put X5 2 (iv D.book.sec)).put X5 3 w')[X5]? = some ⟨42, [.bool w.ok, .bool D.book.ok, iv D.book.sec, w', sl ib ob w.bodies.length], true, true⟩ := by
  rw [get_put, get_put, get_put, b5d]; rfl
 refine sk_inv ⟨by simp [subL, getT, hs], ?_⟩
 exact finD Hc Hd _ _ D w' A' n1 n2 n3 n4 gd rw' ow' (fun e he => by have := lw' e he; omega) (fun j hj => by rw [get_put_ne _ _ _ hj, get_put_ne _ _ _ hj, get_put_ne _ _ _ hj]) hF5 (by simp only [length_put]) hs
end Go.Proofs.YtpoedfmkiiijnaaDoor
