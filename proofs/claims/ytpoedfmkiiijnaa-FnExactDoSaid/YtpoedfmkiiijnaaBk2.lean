/- BookOk of the program. A walk. -/
import Derived.Test.YtpoedfmkiiijnaaBk1
namespace Go.Proofs.Ytpoedfmkiiijnaa
open Go Go.RowKit Go.Proofs.YtpoedfmkiiijnaaAm
set_option linter.unusedVariables false
set_option linter.unusedSimpArgs false
set_option maxRecDepth 10000
set_option maxHeartbeats 4000000

def B29 : SC := .seq (.reg [⟨some 1, .box 25 (.tmp 0), none, []⟩, ⟨some 2, .assign (.const (.int .i64 0)), none, []⟩]) (.seq (.seq (.reg [⟨some 18, .fieldAddr 25 (.tmp 1) 0, none, []⟩, ⟨some 19, .load 4 (.tmp 18), none, []⟩, ⟨some 20, .unOp .not 4 (.tmp 19), none, []⟩, ⟨some 21, .move (.tmp 20), none, []⟩, ⟨some 22, .fieldAddr 25 (.tmp 1) 1, some (21, false), []⟩, ⟨some 23, .load 3 (.tmp 22), some (21, false), []⟩, ⟨some 24, .call { callee := (.value (.func 84)), args := #[(.tmp 23), (.const (.int .i64 1)), (.const (.int .i64 200))], argTypes := #[3, 3, 3] }, some (21, false), []⟩, ⟨some 25, .unOp .not 4 (.tmp 24), some (21, false), []⟩, ⟨some 26, .pick (.tmp 21) (.const (.bool true)) (.tmp 25), none, []⟩, ⟨some 27, .move (.tmp 26), none, []⟩, ⟨some 28, .fieldAddr 25 (.tmp 1) 2, some (27, false), []⟩, ⟨some 29, .load 23 (.tmp 28), some (27, false), []⟩, ⟨some 30, .call { callee := (.builtin .len), args := #[(.tmp 29)], argTypes := #[23] }, some (27, false), []⟩, ⟨some 31, .binOp .gtr 3 (.tmp 30) (.const (.int .i64 20)) 3, some (27, false), []⟩, ⟨some 32, .pick (.tmp 27) (.const (.bool true)) (.tmp 31), none, []⟩]) (.cond (.tmp 32) (.seq (.reg [⟨some 2, .assign (.const (.int .i64 1)), none, []⟩]) .ret) .skip)) (.seq (.seq (.reg [⟨some 33, .fieldAddr 25 (.tmp 1) 2, none, []⟩, ⟨some 34, .load 23 (.tmp 33), none, []⟩, ⟨some 35, .call { callee := (.builtin .len), args := #[(.tmp 34)], argTypes := #[23] }, none, []⟩, ⟨some 36, .move (.const (.int .i64 0)), none, []⟩]) (.block 0 (.loop (.seq (.reg [⟨some 37, .binOp .lss 3 (.tmp 36) (.tmp 35) 3, none, []⟩]) (.seq (.cond (.tmp 37) .skip (.exit 0)) (.seq (.block 1 (.seq (.reg [⟨some 38, .indexAddr 23 (.tmp 34) (.tmp 36), none, []⟩, ⟨some 39, .load 43 (.tmp 38), none, []⟩, ⟨some 4, .alloc 43, none, []⟩, ⟨none, .store 43 (.tmp 4) (.tmp 39), none, []⟩]) (.seq (.seq (.reg [⟨some 40, .fieldAddr 43 (.tmp 4) 0, none, []⟩, ⟨some 41, .load 3 (.tmp 40), none, []⟩, ⟨some 42, .call { callee := (.value (.func 84)), args := #[(.tmp 41), (.const (.int .i64 0)), (.const (.int .i64 1000000))], argTypes := #[3, 3, 3] }, none, []⟩, ⟨some 43, .unOp .not 4 (.tmp 42), none, []⟩, ⟨some 44, .move (.tmp 43), none, []⟩, ⟨some 45, .load 43 (.tmp 4), some (44, false), []⟩, ⟨some 46, .call { callee := (.value (.func 91)), args := #[(.tmp 45)], argTypes := #[43] }, some (44, false), []⟩, ⟨some 47, .call { callee := (.value (.func 84)), args := #[(.tmp 46), (.const (.int .i64 0)), (.const (.int .i64 1000000))], argTypes := #[3, 3, 3] }, some (44, false), []⟩, ⟨some 48, .unOp .not 4 (.tmp 47), some (44, false), []⟩, ⟨some 49, .pick (.tmp 44) (.const (.bool true)) (.tmp 48), none, []⟩, ⟨some 50, .move (.tmp 49), none, []⟩, ⟨some 51, .fieldAddr 43 (.tmp 4) 1, some (50, false), []⟩, ⟨some 52, .load 40 (.tmp 51), some (50, false), []⟩, ⟨some 53, .call { callee := (.builtin .len), args := #[(.tmp 52)], argTypes := #[40] }, some (50, false), []⟩, ⟨some 54, .binOp .gtr 3 (.tmp 53) (.const (.int .i64 100)) 3, some (50, false), []⟩, ⟨some 55, .pick (.tmp 50) (.const (.bool true)) (.tmp 54), none, []⟩]) (.cond (.tmp 55) (.seq (.reg [⟨some 2, .assign (.const (.int .i64 2)), none, []⟩]) .ret) .skip)) (.seq (.reg [⟨some 56, .fieldAddr 43 (.tmp 4) 1, none, []⟩, ⟨some 57, .load 40 (.tmp 56), none, []⟩, ⟨some 58, .call { callee := (.builtin .len), args := #[(.tmp 57)], argTypes := #[40] }, none, []⟩, ⟨some 59, .move (.const (.int .i64 0)), none, []⟩]) (.block 2 (.loop (.seq (.reg [⟨some 60, .binOp .lss 3 (.tmp 59) (.tmp 58) 3, none, []⟩]) (.seq (.cond (.tmp 60) .skip (.exit 2)) (.seq (.block 3 (.seq (.reg [⟨some 61, .indexAddr 40 (.tmp 57) (.tmp 59), none, []⟩, ⟨some 62, .load 3 (.tmp 61), none, []⟩, ⟨some 6, .assign (.tmp 62), none, []⟩]) (.seq (.reg [⟨some 63, .move (.tmp 6), none, []⟩, ⟨some 64, .fieldAddr 25 (.tmp 1) 1, none, []⟩, ⟨some 65, .load 3 (.tmp 64), none, []⟩, ⟨some 66, .binOp .sub 3 (.tmp 65) (.const (.int .i64 1)) 3, none, []⟩, ⟨some 67, .call { callee := (.value (.func 84)), args := #[(.tmp 63), (.const (.int .i64 0)), (.tmp 66)], argTypes := #[3, 3, 3] }, none, []⟩, ⟨some 68, .unOp .not 4 (.tmp 67), none, []⟩]) (.cond (.tmp 68) (.seq (.reg [⟨some 2, .assign (.const (.int .i64 2)), none, []⟩]) .ret) .skip)))) (.reg [⟨some 69, .binOp .add 3 (.tmp 59) (.const (.int .i64 1)) 3, none, []⟩, ⟨some 59, .move (.tmp 69), none, []⟩])))))))))) (.reg [⟨some 70, .binOp .add 3 (.tmp 36) (.const (.int .i64 1)) 3, none, []⟩, ⟨some 36, .move (.tmp 70), none, []⟩]))))))) (.seq (.seq (.reg [⟨some 71, .fieldAddr 25 (.tmp 1) 2, none, []⟩, ⟨some 72, .load 23 (.tmp 71), none, []⟩, ⟨some 73, .call { callee := (.builtin .len), args := #[(.tmp 72)], argTypes := #[23] }, none, []⟩, ⟨some 74, .move (.const (.int .i64 0)), none, []⟩]) (.block 4 (.loop (.seq (.reg [⟨some 75, .binOp .lss 3 (.tmp 74) (.tmp 73) 3, none, []⟩]) (.seq (.cond (.tmp 75) .skip (.exit 4)) (.seq (.block 5 (.seq (.reg [⟨some 76, .indexAddr 23 (.tmp 72) (.tmp 74), none, []⟩, ⟨some 77, .load 43 (.tmp 76), none, []⟩, ⟨some 8, .alloc 43, none, []⟩, ⟨none, .store 43 (.tmp 8) (.tmp 77), none, []⟩]) (.seq (.seq (.reg [⟨some 78, .fieldAddr 43 (.tmp 8) 2, none, []⟩, ⟨some 79, .load 41 (.tmp 78), none, []⟩, ⟨some 80, .call { callee := (.builtin .len), args := #[(.tmp 79)], argTypes := #[41] }, none, []⟩, ⟨some 81, .call { callee := (.value (.func 84)), args := #[(.tmp 80), (.const (.int .i64 1)), (.const (.int .i64 20))], argTypes := #[3, 3, 3] }, none, []⟩, ⟨some 82, .unOp .not 4 (.tmp 81), none, []⟩]) (.cond (.tmp 82) (.seq (.reg [⟨some 2, .assign (.const (.int .i64 3)), none, []⟩]) .ret) .skip)) (.seq (.seq (.reg [⟨some 83, .fieldAddr 43 (.tmp 8) 2, none, []⟩, ⟨some 84, .load 41 (.tmp 83), none, []⟩, ⟨some 85, .call { callee := (.builtin .len), args := #[(.tmp 84)], argTypes := #[41] }, none, []⟩, ⟨some 86, .move (.const (.int .i64 0)), none, []⟩]) (.block 6 (.loop (.seq (.reg [⟨some 87, .binOp .lss 3 (.tmp 86) (.tmp 85) 3, none, []⟩]) (.seq (.cond (.tmp 87) .skip (.exit 6)) (.seq (.block 7 (.seq (.reg [⟨some 88, .move (.tmp 86), none, []⟩, ⟨some 89, .indexAddr 41 (.tmp 84) (.tmp 86), none, []⟩, ⟨some 90, .load 45 (.tmp 89), none, []⟩, ⟨some 10, .alloc 45, none, []⟩, ⟨some 9, .assign (.tmp 88), none, []⟩, ⟨none, .store 45 (.tmp 10) (.tmp 90), none, []⟩]) (.seq (.drw 0 [⟨some 91, .fieldAddr 45 (.tmp 10) 1, none, []⟩, ⟨some 92, .load 3 (.tmp 91), none, [0]⟩, ⟨some 93, .load 43 (.tmp 8), none, []⟩, ⟨some 94, .call { callee := (.value (.func 91)), args := #[(.tmp 93)], argTypes := #[43] }, none, [2]⟩, ⟨some 95, .call { callee := (.value (.func 84)), args := #[(.tmp 92), (.const (.int .i64 0)), (.tmp 94)], argTypes := #[3, 3, 3] }, none, [1, 0, 3, 2]⟩, ⟨some 96, .unOp .not 4 (.tmp 95), none, [4, 1, 0, 3, 2]⟩, ⟨some 97, .move (.tmp 96), none, [5, 4, 1, 0, 3, 2]⟩, ⟨some 98, .fieldAddr 45 (.tmp 10) 0, some (97, false), [6, 5, 4, 1, 0, 3, 2]⟩, ⟨some 99, .load 3 (.tmp 98), some (97, false), [7, 6, 5, 4, 1, 0, 3, 2]⟩, ⟨some 100, .call { callee := (.value (.func 84)), args := #[(.tmp 99), (.const (.int .i64 0)), (.const (.int .i64 1000000))], argTypes := #[3, 3, 3] }, some (97, false), [8, 7, 6, 5, 4, 1, 0, 3, 2]⟩, ⟨some 101, .unOp .not 4 (.tmp 100), some (97, false), [9, 8, 7, 6, 5, 4, 1, 0, 3, 2]⟩, ⟨some 102, .pick (.tmp 97) (.const (.bool true)) (.tmp 101), none, [6, 5, 4, 1, 0, 3, 2, 10, 9, 8, 7]⟩, ⟨some 103, .move (.tmp 102), none, [11, 6, 5, 4, 1, 0, 3, 2, 10, 9, 8, 7]⟩, ⟨some 104, .move (.tmp 9), some (103, false), [12, 11, 6, 5, 4, 1, 0, 3, 2, 10, 9, 8, 7]⟩, ⟨some 105, .binOp .gtr 3 (.tmp 104) (.const (.int .i64 0)) 3, some (103, false), [13, 12, 11, 6, 5, 4, 1, 0, 3, 2, 10, 9, 8, 7]⟩, ⟨some 106, .move (.tmp 105), some (103, false), [14, 13, 12, 11, 6, 5, 4, 1, 0, 3, 2, 10, 9, 8, 7]⟩, ⟨some 107, .fieldAddr 45 (.tmp 10) 0, some (106, true), [15, 14, 13, 12, 11, 6, 5, 4, 1, 0, 3, 2, 10, 9, 8, 7]⟩, ⟨some 108, .load 3 (.tmp 107), some (106, true), [16, 15, 14, 13, 12, 11, 6, 5, 4, 1, 0, 3, 2, 10, 9, 8, 7]⟩, ⟨some 109, .fieldAddr 43 (.tmp 8) 2, some (106, true), [15, 14, 13, 12, 11, 6, 5, 4, 1, 0, 3, 2, 10, 9, 8, 7]⟩, ⟨some 110, .load 41 (.tmp 109), some (106, true), [18, 15, 14, 13, 12, 11, 6, 5, 4, 1, 0, 3, 2, 10, 9, 8, 7]⟩, ⟨some 111, .move (.tmp 9), some (106, true), [15, 14, 13, 12, 11, 6, 5, 4, 1, 0, 3, 2, 10, 9, 8, 7]⟩, ⟨some 112, .binOp .sub 3 (.tmp 111) (.const (.int .i64 1)) 3, some (106, true), [20, 15, 14, 13, 12, 11, 6, 5, 4, 1, 0, 3, 2, 10, 9, 8, 7]⟩, ⟨some 113, .indexAddr 41 (.tmp 110) (.tmp 112), some (106, true), [19, 18, 15, 14, 13, 12, 11, 6, 5, 4, 1, 0, 3, 2, 10, 9, 8, 7, 21, 20]⟩, ⟨some 114, .fieldAddr 45 (.tmp 113) 0, some (106, true), [22, 19, 18, 15, 14, 13, 12, 11, 6, 5, 4, 1, 0, 3, 2, 10, 9, 8, 7, 21, 20]⟩, ⟨some 115, .load 3 (.tmp 114), some (106, true), [23, 22, 19, 18, 15, 14, 13, 12, 11, 6, 5, 4, 1, 0, 3, 2, 10, 9, 8, 7, 21, 20]⟩, ⟨some 116, .binOp .add 3 (.tmp 115) (.const (.int .i64 1)) 3, some (106, true), [24, 23, 22, 19, 18, 15, 14, 13, 12, 11, 6, 5, 4, 1, 0, 3, 2, 10, 9, 8, 7, 21, 20]⟩, ⟨some 117, .binOp .neq 3 (.tmp 108) (.tmp 116) 3, some (106, true), [17, 16, 15, 14, 13, 12, 11, 6, 5, 4, 1, 0, 3, 2, 10, 9, 8, 7, 25, 24, 23, 22, 19, 18, 21, 20]⟩, ⟨some 118, .pick (.tmp 106) (.tmp 117) (.const (.bool false)), some (103, false), [15, 14, 13, 12, 11, 6, 5, 4, 1, 0, 3, 2, 10, 9, 8, 7, 26, 17, 16, 25, 24, 23, 22, 19, 18, 21, 20]⟩, ⟨some 119, .pick (.tmp 103) (.const (.bool true)) (.tmp 118), none, [12, 11, 6, 5, 4, 1, 0, 3, 2, 10, 9, 8, 7, 27, 15, 14, 13, 26, 17, 16, 25, 24, 23, 22, 19, 18, 21, 20]⟩]) (.cond (.tmp 119) (.seq (.reg [⟨some 2, .assign (.const (.int .i64 3)), none, []⟩]) .ret) .skip)))) (.reg [⟨some 120, .binOp .add 3 (.tmp 86) (.const (.int .i64 1)) 3, none, []⟩, ⟨some 86, .move (.tmp 120), none, []⟩]))))))) (.seq (.drw 0 [⟨some 121, .fieldAddr 43 (.tmp 8) 2, none, []⟩, ⟨some 122, .load 41 (.tmp 121), none, [0]⟩, ⟨some 123, .call { callee := (.value (.func 92)), args := #[(.tmp 122)], argTypes := #[41] }, none, [1, 0]⟩, ⟨some 124, .fieldAddr 43 (.tmp 8) 0, none, []⟩, ⟨some 125, .load 3 (.tmp 124), none, [3]⟩, ⟨some 126, .binOp .lss 3 (.tmp 123) (.tmp 125) 3, none, [2, 1, 0, 4, 3]⟩]) (.cond (.tmp 126) (.seq (.reg [⟨some 2, .assign (.const (.int .i64 3)), none, []⟩]) .ret) .skip)))))) (.reg [⟨some 127, .binOp .add 3 (.tmp 74) (.const (.int .i64 1)) 3, none, []⟩, ⟨some 74, .move (.tmp 127), none, []⟩]))))))) (.seq (.seq (.reg [⟨some 128, .fieldAddr 25 (.tmp 1) 2, none, []⟩, ⟨some 129, .load 23 (.tmp 128), none, []⟩, ⟨some 130, .call { callee := (.builtin .len), args := #[(.tmp 129)], argTypes := #[23] }, none, []⟩, ⟨some 131, .move (.const (.int .i64 0)), none, []⟩]) (.block 8 (.loop (.seq (.reg [⟨some 132, .binOp .lss 3 (.tmp 131) (.tmp 130) 3, none, []⟩]) (.seq (.cond (.tmp 132) .skip (.exit 8)) (.seq (.block 9 (.seq (.reg [⟨some 133, .indexAddr 23 (.tmp 129) (.tmp 131), none, []⟩, ⟨some 134, .load 43 (.tmp 133), none, []⟩, ⟨some 12, .alloc 43, none, []⟩, ⟨none, .store 43 (.tmp 12) (.tmp 134), none, []⟩]) (.seq (.drw 0 [⟨some 135, .fieldAddr 43 (.tmp 12) 3, none, []⟩, ⟨some 136, .load 3 (.tmp 135), none, [0]⟩, ⟨some 137, .binOp .neq 3 (.tmp 136) (.const (.int .i64 (-1))) 3, none, [1, 0]⟩, ⟨some 138, .move (.tmp 137), none, [2, 1, 0]⟩, ⟨some 139, .fieldAddr 43 (.tmp 12) 3, some (138, true), [3, 2, 1, 0]⟩, ⟨some 140, .load 3 (.tmp 139), some (138, true), [4, 3, 2, 1, 0]⟩, ⟨some 141, .fieldAddr 43 (.tmp 12) 0, some (138, true), [3, 2, 1, 0]⟩, ⟨some 142, .load 3 (.tmp 141), some (138, true), [6, 3, 2, 1, 0]⟩, ⟨some 143, .load 43 (.tmp 12), some (138, true), [3, 2, 1, 0]⟩, ⟨some 144, .call { callee := (.value (.func 91)), args := #[(.tmp 143)], argTypes := #[43] }, some (138, true), [8, 3, 2, 1, 0]⟩, ⟨some 145, .binOp .sub 3 (.tmp 144) (.const (.int .i64 1)) 3, some (138, true), [9, 8, 3, 2, 1, 0]⟩, ⟨some 146, .call { callee := (.value (.func 84)), args := #[(.tmp 140), (.tmp 142), (.tmp 145)], argTypes := #[3, 3, 3] }, some (138, true), [5, 4, 3, 2, 1, 0, 7, 6, 10, 9, 8]⟩, ⟨some 147, .unOp .not 4 (.tmp 146), some (138, true), [11, 5, 4, 3, 2, 1, 0, 7, 6, 10, 9, 8]⟩, ⟨some 148, .move (.tmp 147), some (138, true), [12, 11, 5, 4, 3, 2, 1, 0, 7, 6, 10, 9, 8]⟩, ⟨some 149, .fieldAddr 43 (.tmp 12) 2, some (148, false), [13, 12, 11, 5, 4, 3, 2, 1, 0, 7, 6, 10, 9, 8]⟩, ⟨some 150, .load 41 (.tmp 149), some (148, false), [14, 13, 12, 11, 5, 4, 3, 2, 1, 0, 7, 6, 10, 9, 8]⟩, ⟨some 151, .fieldAddr 43 (.tmp 12) 2, some (148, false), [13, 12, 11, 5, 4, 3, 2, 1, 0, 7, 6, 10, 9, 8]⟩, ⟨some 152, .load 41 (.tmp 151), some (148, false), [16, 13, 12, 11, 5, 4, 3, 2, 1, 0, 7, 6, 10, 9, 8]⟩, ⟨some 153, .call { callee := (.builtin .len), args := #[(.tmp 152)], argTypes := #[41] }, some (148, false), [17, 16, 13, 12, 11, 5, 4, 3, 2, 1, 0, 7, 6, 10, 9, 8]⟩, ⟨some 154, .binOp .sub 3 (.tmp 153) (.const (.int .i64 1)) 3, some (148, false), [18, 17, 16, 13, 12, 11, 5, 4, 3, 2, 1, 0, 7, 6, 10, 9, 8]⟩, ⟨some 155, .indexAddr 41 (.tmp 150) (.tmp 154), some (148, false), [15, 14, 13, 12, 11, 5, 4, 3, 2, 1, 0, 7, 6, 10, 9, 8, 19, 18, 17, 16]⟩, ⟨some 156, .fieldAddr 45 (.tmp 155) 1, some (148, false), [20, 15, 14, 13, 12, 11, 5, 4, 3, 2, 1, 0, 7, 6, 10, 9, 8, 19, 18, 17, 16]⟩, ⟨some 157, .load 3 (.tmp 156), some (148, false), [21, 20, 15, 14, 13, 12, 11, 5, 4, 3, 2, 1, 0, 7, 6, 10, 9, 8, 19, 18, 17, 16]⟩, ⟨some 158, .fieldAddr 43 (.tmp 12) 3, some (148, false), [13, 12, 11, 5, 4, 3, 2, 1, 0, 7, 6, 10, 9, 8]⟩, ⟨some 159, .load 3 (.tmp 158), some (148, false), [23, 13, 12, 11, 5, 4, 3, 2, 1, 0, 7, 6, 10, 9, 8]⟩, ⟨some 160, .binOp .gtr 3 (.tmp 157) (.tmp 159) 3, some (148, false), [22, 21, 20, 15, 14, 13, 12, 11, 5, 4, 3, 2, 1, 0, 7, 6, 10, 9, 8, 19, 18, 17, 16, 24, 23]⟩, ⟨some 161, .pick (.tmp 148) (.const (.bool true)) (.tmp 160), some (138, true), [13, 12, 11, 5, 4, 3, 2, 1, 0, 7, 6, 10, 9, 8, 25, 22, 21, 20, 15, 14, 19, 18, 17, 16, 24, 23]⟩, ⟨some 162, .move (.tmp 161), some (138, true), [26, 13, 12, 11, 5, 4, 3, 2, 1, 0, 7, 6, 10, 9, 8, 25, 22, 21, 20, 15, 14, 19, 18, 17, 16, 24, 23]⟩, ⟨some 163, .fieldAddr 43 (.tmp 12) 2, some (162, false), [27, 26, 13, 12, 11, 5, 4, 3, 2, 1, 0, 7, 6, 10, 9, 8, 25, 22, 21, 20, 15, 14, 19, 18, 17, 16, 24, 23]⟩, ⟨some 164, .load 41 (.tmp 163), some (162, false), [28, 27, 26, 13, 12, 11, 5, 4, 3, 2, 1, 0, 7, 6, 10, 9, 8, 25, 22, 21, 20, 15, 14, 19, 18, 17, 16, 24, 23]⟩, ⟨some 165, .call { callee := (.value (.func 92)), args := #[(.tmp 164)], argTypes := #[41] }, some (162, false), [29, 28, 27, 26, 13, 12, 11, 5, 4, 3, 2, 1, 0, 7, 6, 10, 9, 8, 25, 22, 21, 20, 15, 14, 19, 18, 17, 16, 24, 23]⟩, ⟨some 166, .load 43 (.tmp 12), some (162, false), [27, 26, 13, 12, 11, 5, 4, 3, 2, 1, 0, 7, 6, 10, 9, 8, 25, 22, 21, 20, 15, 14, 19, 18, 17, 16, 24, 23]⟩, ⟨some 167, .call { callee := (.value (.func 91)), args := #[(.tmp 166)], argTypes := #[43] }, some (162, false), [31, 27, 26, 13, 12, 11, 5, 4, 3, 2, 1, 0, 7, 6, 10, 9, 8, 25, 22, 21, 20, 15, 14, 19, 18, 17, 16, 24, 23, 30, 29, 28]⟩, ⟨some 168, .binOp .lss 3 (.tmp 165) (.tmp 167) 3, some (162, false), [30, 29, 28, 27, 26, 13, 12, 11, 5, 4, 3, 2, 1, 0, 7, 6, 10, 9, 8, 25, 22, 21, 20, 15, 14, 19, 18, 17, 16, 24, 23, 32, 31]⟩, ⟨some 169, .pick (.tmp 162) (.const (.bool true)) (.tmp 168), some (138, true), [27, 26, 13, 12, 11, 5, 4, 3, 2, 1, 0, 7, 6, 10, 9, 8, 25, 22, 21, 20, 15, 14, 19, 18, 17, 16, 24, 23, 33, 30, 29, 28, 32, 31]⟩, ⟨some 170, .pick (.tmp 138) (.tmp 169) (.const (.bool false)), none, [3, 2, 1, 0, 34, 27, 26, 13, 12, 11, 5, 4, 7, 6, 10, 9, 8, 25, 22, 21, 20, 15, 14, 19, 18, 17, 16, 24, 23, 33, 30, 29, 28, 32, 31]⟩]) (.cond (.tmp 170) (.seq (.reg [⟨some 2, .assign (.const (.int .i64 4)), none, []⟩]) .ret) .skip)))) (.reg [⟨some 171, .binOp .add 3 (.tmp 131) (.const (.int .i64 1)) 3, none, []⟩, ⟨some 131, .move (.tmp 171), none, []⟩]))))))) (.seq (.reg [⟨some 172, .makeMap 125 none, none, []⟩, ⟨some 13, .assign (.tmp 172), none, []⟩]) (.seq (.seq (.reg [⟨some 173, .fieldAddr 25 (.tmp 1) 2, none, []⟩, ⟨some 174, .load 23 (.tmp 173), none, []⟩, ⟨some 175, .call { callee := (.builtin .len), args := #[(.tmp 174)], argTypes := #[23] }, none, []⟩, ⟨some 176, .move (.const (.int .i64 0)), none, []⟩]) (.block 10 (.loop (.seq (.reg [⟨some 177, .binOp .lss 3 (.tmp 176) (.tmp 175) 3, none, []⟩]) (.seq (.cond (.tmp 177) .skip (.exit 10)) (.seq (.block 11 (.seq (.reg [⟨some 178, .indexAddr 23 (.tmp 174) (.tmp 176), none, []⟩, ⟨some 179, .load 43 (.tmp 178), none, []⟩, ⟨some 15, .alloc 43, none, []⟩, ⟨none, .store 43 (.tmp 15) (.tmp 179), none, []⟩]) (.seq (.reg [⟨some 180, .fieldAddr 43 (.tmp 15) 1, none, []⟩, ⟨some 181, .load 40 (.tmp 180), none, []⟩, ⟨some 182, .call { callee := (.builtin .len), args := #[(.tmp 181)], argTypes := #[40] }, none, []⟩, ⟨some 183, .move (.const (.int .i64 0)), none, []⟩]) (.block 12 (.loop (.seq (.reg [⟨some 184, .binOp .lss 3 (.tmp 183) (.tmp 182) 3, none, []⟩]) (.seq (.cond (.tmp 184) .skip (.exit 12)) (.seq (.block 13 (.seq (.reg [⟨some 185, .indexAddr 40 (.tmp 181) (.tmp 183), none, []⟩, ⟨some 186, .load 3 (.tmp 185), none, []⟩, ⟨some 17, .assign (.tmp 186), none, []⟩]) (.seq (.seq (.reg [⟨some 187, .move (.tmp 13), none, []⟩, ⟨some 188, .move (.tmp 17), none, []⟩, ⟨some 189, .lookup 125 (.tmp 187) (.tmp 188) false, none, []⟩]) (.cond (.tmp 189) (.seq (.reg [⟨some 2, .assign (.const (.int .i64 5)), none, []⟩]) .ret) .skip)) (.reg [⟨some 190, .move (.tmp 13), none, []⟩, ⟨some 191, .move (.tmp 17), none, []⟩, ⟨none, .mapUpdate 125 (.tmp 190) (.tmp 191) (.const (.bool true)), none, []⟩])))) (.reg [⟨some 192, .binOp .add 3 (.tmp 183) (.const (.int .i64 1)) 3, none, []⟩, ⟨some 183, .move (.tmp 192), none, []⟩]))))))))) (.reg [⟨some 193, .binOp .add 3 (.tmp 176) (.const (.int .i64 1)) 3, none, []⟩, ⟨some 176, .move (.tmp 193), none, []⟩]))))))) (.seq (.reg [⟨some 2, .assign (.const (.int .i64 0)), none, []⟩]) .ret)))))))
theorem s29 : Try.f29.body.bind (stripC 194) = some B29 := by kernel_rfl
theorem implBookOk_ac {H : Heap} {E : List Nat} {b : Bk} {cs : List Value} (h : RBk H E b cs) : AC Try.prog 29 [.agg cs.toArray] H (iv (bookOkB b)) H [] := by
  obtain ⟨v, rfl, hv⟩ := h
  obtain ⟨a0, c0, rfl⟩ := hv.form
  have hx := hv.one
  have hn := hv.1
  refine AC.of_pureS (N := 194) Try.func29 s29 (by kernel_rfl) rfl rfl (by simp) rfl ?_; unfold B29
  cases h1 : b.ok
  · have hr := bookOkB_1 (b := b) (by simp [ok1, h1])
    repeat (first | refine sk_seq ?_ | refine sk_block ?_ | refine sk_blk ?_ | refine sk_skip ?_ | refine sk_exit rfl ?_ | refine sk_cond_t rfl ?_ | refine sk_cond_f rfl ?_ | (refine sk_reg fun K hK => ?_; simp [hx, h1]; refine hK _ ?_; clear hK K) | (refine sk_drw mix fun K hK => ?_; simp [hx, h1]; refine hK _ ?_; clear hK K))
    refine sk_ret ?_; simp [hr]
  cases h2 : inB b.sec 1 200
  · have hr := bookOkB_1 (b := b) (by simp [ok1, h2])
    repeat (first | refine sk_seq ?_ | refine sk_block ?_ | refine sk_blk ?_ | refine sk_skip ?_ | refine sk_exit rfl ?_ | refine sk_cond_t rfl ?_ | refine sk_cond_f rfl ?_ | (refine sk_reg fun K hK => ?_; simp [hx, h1, h2]; (repeat (first | (refine AskX.go (in_ac _ _ _) ?_; simp [hx, h1, h2]))); refine hK _ ?_; clear hK K) | (refine sk_drw mix fun K hK => ?_; simp [hx, h1, h2]; (repeat (first | (refine AskD.go (in_ac _ _ _) ?_; simp [hx, h1, h2]))); refine hK _ ?_; clear hK K))
    refine sk_ret ?_; simp [hr]
  by_cases h3 : b.lines.length ≤ 20
  case neg =>
    have hr := bookOkB_1 (b := b) (by simp [ok1, h3])
    have h3' : (20 : Int) < b.lines.length := by omega
    repeat (first | refine sk_seq ?_ | refine sk_block ?_ | refine sk_blk ?_ | refine sk_skip ?_ | refine sk_exit rfl ?_ | refine sk_cond_t rfl ?_ | refine sk_cond_f rfl ?_ | (refine sk_reg fun K hK => ?_; simp [hx, h1, h2, h3']; (repeat (first | (refine AskX.go (in_ac _ _ _) ?_; simp [hx, h1, h2, h3']))); refine hK _ ?_; clear hK K) | (refine sk_drw mix fun K hK => ?_; simp [hx, h1, h2, h3']; (repeat (first | (refine AskD.go (in_ac _ _ _) ?_; simp [hx, h1, h2, h3']))); refine hK _ ?_; clear hK K))
    refine sk_ret ?_; simp [hr]
  have hk1 : ok1 b = true := by simp [ok1, h1, h2, h3]
  have h3' : ¬ (20 : Int) < b.lines.length := by omega
  simp only [inB, Bool.and_eq_true, decide_eq_true_eq] at h2
  have h2' : inB b.sec 1 200 = true := by simp [inB]; omega
  have hws := wrap_id (x := b.sec - 1) (by omega) (by omega)
  repeat (first | refine sk_seq ?_ | refine sk_block ?_ | refine sk_blk ?_ | refine sk_skip ?_ | refine sk_exit rfl ?_ | refine sk_cond_t rfl ?_ | refine sk_cond_f rfl ?_ | (refine sk_reg fun K hK => ?_; simp [hx, h1, h2', h3']; (repeat (first | (refine AskX.go (in_ac _ _ _) ?_; simp [hx, h1, h2', h3']))); refine hK _ ?_; clear hK K) | (refine sk_drw mix fun K hK => ?_; simp [hx, h1, h2', h3']; (repeat (first | (refine AskD.go (in_ac _ _ _) ?_; simp [hx, h1, h2', h3']))); refine hK _ ?_; clear hK K))
  refine sk_rng b.lines.length (fun i => [(1, pt H.length 0), (34, .slice a0 b.lines.length c0), (35, iv b.lines.length), (36, iv i)]) (fun i H1 => Gro H H1 ∧ H1[H.length]? = some ⟨25, [.bool b.ok, iv b.sec, .slice a0 b.lines.length c0], true, true⟩ ∧ ∀ j (hj : j < i) (hx : j < b.lines.length), ok2 b.sec b.lines[j] = true) (by simp [subL, getT]) ⟨(by first | exact Gro.refl _ | exact Gro.one _ _), by simp [h1], fun j hj => by omega⟩ ?_ ?_
  · rintro i H1 hi ⟨hg, hb, hpre⟩
    have hl := hg.len
    have cb1 : CF H1 H.length 1 (iv b.sec) := CF.of hb rfl rfl
    obtain ⟨id, o, v1, v2, E1, E2, hve, hid, d0, d1, d2, d3, hw1, hw2, x1, x2, _⟩ := (hv.gro hg RLn.frm).line hi
    generalize hln : b.lines[i] = l at *
    obtain ⟨a1, c1, rfl⟩ := hw1.form
    have hwi := wrap_id (x := (i : Int) + 1) (by omega) (by omega)
    have hn1 := hw1.1
    have bad : ok2 b.sec l = false → bookOkB b = 2 := fun e => bookOkB_2 hk1 (all_false_at hi (by rw [hln]; exact e))
    cases q1 : inB l.gone 0 1000000
    · have hr := bad (by simp [ok2, q1])
      repeat (first | refine sk_seq ?_ | refine sk_block ?_ | refine sk_blk ?_ | refine sk_skip ?_ | refine sk_exit rfl ?_ | refine sk_cond_t rfl ?_ | refine sk_cond_f rfl ?_ | (refine sk_reg fun K hK => ?_; simp [hi, hve, d0.a, d0.b, d1.a, d1.b, d2.a, d2.b, d3.a, d3.b, cb1.a, cb1.b, x1, x2, hl, q1]; (repeat (first | (refine AskX.go (in_ac _ _ _) ?_; simp [hi, hve, d0.a, d0.b, d1.a, d1.b, d2.a, d2.b, d3.a, d3.b, cb1.a, cb1.b, x1, x2, hl, q1]))); refine hK _ ?_; clear hK K) | (refine sk_drw mix fun K hK => ?_; simp [hi, hve, d0.a, d0.b, d1.a, d1.b, d2.a, d2.b, d3.a, d3.b, cb1.a, cb1.b, x1, x2, hl, q1]; (repeat (first | (refine AskD.go (in_ac _ _ _) ?_; simp [hi, hve, d0.a, d0.b, d1.a, d1.b, d2.a, d2.b, d3.a, d3.b, cb1.a, cb1.b, x1, x2, hl, q1]))); refine hK _ ?_; clear hK K))
      refine sk_ret ?_; simp [hr]
      exact hg.app _
    have hq := q1
    simp only [inB, Bool.and_eq_true, decide_eq_true_eq] at hq
    have htot := wrap_id (x := l.gone + l.way.length) (by omega) (by omega)
    have htot : IntKind.i64.wrap (l.gone + l.way.length) = totL l := htot
    cases q2 : inB (totL l) 0 1000000
    · have hr := bad (by simp [ok2, q2])
      repeat (first | refine sk_seq ?_ | refine sk_block ?_ | refine sk_blk ?_ | refine sk_skip ?_ | refine sk_exit rfl ?_ | refine sk_cond_t rfl ?_ | refine sk_cond_f rfl ?_ | (refine sk_reg fun K hK => ?_; simp [hi, hve, d0.a, d0.b, d1.a, d1.b, d2.a, d2.b, d3.a, d3.b, cb1.a, cb1.b, x1, x2, hl, q1, q2, htot]; (repeat (first | (refine AskX.go (in_ac _ _ _) ?_; simp [hi, hve, d0.a, d0.b, d1.a, d1.b, d2.a, d2.b, d3.a, d3.b, cb1.a, cb1.b, x1, x2, hl, q1, q2, htot]) | (refine AskX.go (total_ac ⟨_, _, rfl⟩ x2) ?_; simp [hi, hve, d0.a, d0.b, d1.a, d1.b, d2.a, d2.b, d3.a, d3.b, cb1.a, cb1.b, x1, x2, hl, q1, q2, htot]))); refine hK _ ?_; clear hK K) | (refine sk_drw mix fun K hK => ?_; simp [hi, hve, d0.a, d0.b, d1.a, d1.b, d2.a, d2.b, d3.a, d3.b, cb1.a, cb1.b, x1, x2, hl, q1, q2, htot]; (repeat (first | (refine AskD.go (in_ac _ _ _) ?_; simp [hi, hve, d0.a, d0.b, d1.a, d1.b, d2.a, d2.b, d3.a, d3.b, cb1.a, cb1.b, x1, x2, hl, q1, q2, htot]) | (refine AskD.go (total_ac ⟨_, _, rfl⟩ x2) ?_; simp [hi, hve, d0.a, d0.b, d1.a, d1.b, d2.a, d2.b, d3.a, d3.b, cb1.a, cb1.b, x1, x2, hl, q1, q2, htot]))); refine hK _ ?_; clear hK K))
      refine sk_ret ?_; simp [hr]
      exact hg.app _
    by_cases q3 : l.way.length ≤ 100
    case neg =>
      have hr := bad (by simp [ok2, q3])
      have q3' : (100 : Int) < l.way.length := by omega
      repeat (first | refine sk_seq ?_ | refine sk_block ?_ | refine sk_blk ?_ | refine sk_skip ?_ | refine sk_exit rfl ?_ | refine sk_cond_t rfl ?_ | refine sk_cond_f rfl ?_ | (refine sk_reg fun K hK => ?_; simp [hi, hve, d0.a, d0.b, d1.a, d1.b, d2.a, d2.b, d3.a, d3.b, cb1.a, cb1.b, x1, x2, hl, q1, q2, htot, q3']; (repeat (first | (refine AskX.go (in_ac _ _ _) ?_; simp [hi, hve, d0.a, d0.b, d1.a, d1.b, d2.a, d2.b, d3.a, d3.b, cb1.a, cb1.b, x1, x2, hl, q1, q2, htot, q3']) | (refine AskX.go (total_ac ⟨_, _, rfl⟩ x2) ?_; simp [hi, hve, d0.a, d0.b, d1.a, d1.b, d2.a, d2.b, d3.a, d3.b, cb1.a, cb1.b, x1, x2, hl, q1, q2, htot, q3']))); refine hK _ ?_; clear hK K) | (refine sk_drw mix fun K hK => ?_; simp [hi, hve, d0.a, d0.b, d1.a, d1.b, d2.a, d2.b, d3.a, d3.b, cb1.a, cb1.b, x1, x2, hl, q1, q2, htot, q3']; (repeat (first | (refine AskD.go (in_ac _ _ _) ?_; simp [hi, hve, d0.a, d0.b, d1.a, d1.b, d2.a, d2.b, d3.a, d3.b, cb1.a, cb1.b, x1, x2, hl, q1, q2, htot, q3']) | (refine AskD.go (total_ac ⟨_, _, rfl⟩ x2) ?_; simp [hi, hve, d0.a, d0.b, d1.a, d1.b, d2.a, d2.b, d3.a, d3.b, cb1.a, cb1.b, x1, x2, hl, q1, q2, htot, q3']))); refine hK _ ?_; clear hK K))
      refine sk_ret ?_; simp [hr]
      exact hg.app _
    have q3' : ¬ (100 : Int) < l.way.length := by omega
    repeat (first | refine sk_seq ?_ | refine sk_block ?_ | refine sk_blk ?_ | refine sk_skip ?_ | refine sk_exit rfl ?_ | refine sk_cond_t rfl ?_ | refine sk_cond_f rfl ?_ | (refine sk_reg fun K hK => ?_; simp [hi, hve, d0.a, d0.b, d1.a, d1.b, d2.a, d2.b, d3.a, d3.b, cb1.a, cb1.b, x1, x2, hl, q1, q2, htot, q3']; (repeat (first | (refine AskX.go (in_ac _ _ _) ?_; simp [hi, hve, d0.a, d0.b, d1.a, d1.b, d2.a, d2.b, d3.a, d3.b, cb1.a, cb1.b, x1, x2, hl, q1, q2, htot, q3']) | (refine AskX.go (total_ac ⟨_, _, rfl⟩ x2) ?_; simp [hi, hve, d0.a, d0.b, d1.a, d1.b, d2.a, d2.b, d3.a, d3.b, cb1.a, cb1.b, x1, x2, hl, q1, q2, htot, q3']))); refine hK _ ?_; clear hK K) | (refine sk_drw mix fun K hK => ?_; simp [hi, hve, d0.a, d0.b, d1.a, d1.b, d2.a, d2.b, d3.a, d3.b, cb1.a, cb1.b, x1, x2, hl, q1, q2, htot, q3']; (repeat (first | (refine AskD.go (in_ac _ _ _) ?_; simp [hi, hve, d0.a, d0.b, d1.a, d1.b, d2.a, d2.b, d3.a, d3.b, cb1.a, cb1.b, x1, x2, hl, q1, q2, htot, q3']) | (refine AskD.go (total_ac ⟨_, _, rfl⟩ x2) ?_; simp [hi, hve, d0.a, d0.b, d1.a, d1.b, d2.a, d2.b, d3.a, d3.b, cb1.a, cb1.b, x1, x2, hl, q1, q2, htot, q3']))); refine hK _ ?_; clear hK K))
    refine sk_rng l.way.length (fun j => [(1, pt H.length 0), (34, .slice a0 b.lines.length c0), (35, iv b.lines.length), (36, iv i), (57, .slice a1 l.way.length c1), (58, iv l.way.length), (59, iv j)]) (fun j H2 => Gro H1 H2 ∧ ∀ q (hj : q < j) (hx : q < l.way.length), inB l.way[q] 0 (b.sec - 1) = true) (by simp [subL, getT, hve]) ⟨(by first | exact Gro.refl _ | exact Gro.one _ _), fun j hj => by omega⟩ ?_ ?_
    · rintro j H2 hj ⟨hg2, hpre2⟩
      have hl2 := hg2.len
      have cb2 := cb1.gro hg2
      obtain ⟨id2, o2, hv2, hid2, e0⟩ := (hw1.gro hg2 (RP.frm _)).int hj
      have hwj := wrap_id (x := (j : Int) + 1) (by omega) (by omega)
      cases q4 : inB l.way[j] 0 (b.sec - 1)
      · have hr := bad (by simp only [ok2, all_false_at (p := fun s => inB s 0 (b.sec - 1)) hj q4, Bool.and_false])
        repeat (first | refine sk_seq ?_ | refine sk_block ?_ | refine sk_blk ?_ | refine sk_skip ?_ | refine sk_exit rfl ?_ | refine sk_cond_t rfl ?_ | refine sk_cond_f rfl ?_ | (refine sk_reg fun K hK => ?_; simp [hj, hv2, e0.a, e0.b, cb2.a, cb2.b, hws, q4]; (repeat (first | (refine AskX.go (in_ac _ _ _) ?_; simp [hj, hv2, e0.a, e0.b, cb2.a, cb2.b, hws, q4]))); refine hK _ ?_; clear hK K) | (refine sk_drw mix fun K hK => ?_; simp [hj, hv2, e0.a, e0.b, cb2.a, cb2.b, hws, q4]; (repeat (first | (refine AskD.go (in_ac _ _ _) ?_; simp [hj, hv2, e0.a, e0.b, cb2.a, cb2.b, hws, q4]))); refine hK _ ?_; clear hK K))
        refine sk_ret ?_; simp [hr]
        exact hg.trans hg2
      · repeat (first | refine sk_seq ?_ | refine sk_block ?_ | refine sk_blk ?_ | refine sk_skip ?_ | refine sk_exit rfl ?_ | refine sk_cond_t rfl ?_ | refine sk_cond_f rfl ?_ | (refine sk_reg fun K hK => ?_; simp [hj, hv2, e0.a, e0.b, cb2.a, cb2.b, hws, q4, hwj]; (repeat (first | (refine AskX.go (in_ac _ _ _) ?_; simp [hj, hv2, e0.a, e0.b, cb2.a, cb2.b, hws, q4, hwj]))); refine hK _ ?_; clear hK K) | (refine sk_drw mix fun K hK => ?_; simp [hj, hv2, e0.a, e0.b, cb2.a, cb2.b, hws, q4, hwj]; (repeat (first | (refine AskD.go (in_ac _ _ _) ?_; simp [hj, hv2, e0.a, e0.b, cb2.a, cb2.b, hws, q4, hwj]))); refine hK _ ?_; clear hK K))
        refine sk_inv ⟨?_, hg2, fun q hq hx => ?_⟩
        · simp [subL, getT, hv2]
        · by_cases e : q = j
          · subst e; exact q4
          · exact hpre2 q (by omega) hx
    · rintro H2 ⟨hg2, hpre2⟩
      repeat (first | refine sk_seq ?_ | refine sk_block ?_ | refine sk_blk ?_ | refine sk_skip ?_ | refine sk_exit rfl ?_ | refine sk_cond_t rfl ?_ | refine sk_cond_f rfl ?_ | (refine sk_reg fun K hK => ?_; simp [hwi]; refine hK _ ?_; clear hK K) | (refine sk_drw mix fun K hK => ?_; simp [hwi]; refine hK _ ?_; clear hK K))
      refine sk_inv ⟨?_, hg.trans hg2, hg2.get hb, fun j hj hx => ?_⟩
      · simp [subL, getT]
      · by_cases e : j = i
        · subst e
          rw [hln]
          simp only [ok2, q1, q2, q3, decide_true, Bool.and_true, Bool.true_and]
          exact all_true_at fun q hq => hpre2 q hq hq
        · exact hpre j (by omega) hx
  rintro H1 ⟨hg, hb, hall⟩
  have hk2 : b.lines.all (ok2 b.sec) = true := all_true_at fun j hj => hall j hj hj
  have cb2 : CF H1 H.length 2 (.slice a0 b.lines.length c0) := CF.of hb rfl rfl
  repeat (first | refine sk_seq ?_ | refine sk_block ?_ | refine sk_blk ?_ | refine sk_skip ?_ | refine sk_exit rfl ?_ | refine sk_cond_t rfl ?_ | refine sk_cond_f rfl ?_ | (refine sk_reg fun K hK => ?_; simp [cb2.a, cb2.b]; refine hK _ ?_; clear hK K) | (refine sk_drw mix fun K hK => ?_; simp [cb2.a, cb2.b]; refine hK _ ?_; clear hK K))
  clear cb2
  -- the second loop: the leashes
  refine sk_rng b.lines.length (fun i => [(1, pt H.length 0), (72, .slice a0 b.lines.length c0), (73, iv b.lines.length), (74, iv i)]) (fun i H2 => Gro H H2 ∧ H2[H.length]? = some ⟨25, [.bool b.ok, iv b.sec, .slice a0 b.lines.length c0], true, true⟩ ∧ ∀ j (hj : j < i) (hx : j < b.lines.length), ok3 b.lines[j] = true) (by simp [subL, getT]) ⟨hg, hb, fun j hj => by omega⟩ ?_ ?_
  · clear hg hb hall H1
    rintro i H1 hi ⟨hg, hb, hpre⟩
    have hl := hg.len
    obtain ⟨id, o, v1, v2, E1, E2, hve, hid, d0, d1, d2, d3, hw1, hw2, x1, x2, _⟩ := (hv.gro hg RLn.frm).line hi
    have hok2 := ok2_in (all_at hk2 hi)
    generalize hln : b.lines[i] = l at *
    obtain ⟨a1, c1, rfl⟩ := hw1.form
    obtain ⟨a2, c2, rfl⟩ := hw2.form
    have hwi := wrap_id (x := (i : Int) + 1) (by omega) (by omega)
    have hn1 := hw1.1
    have hn2 := hw2.1
    have htot := wrap_id (x := l.gone + l.way.length) (by unfold totL at hok2; omega) (by unfold totL at hok2; omega)
    have htot : IntKind.i64.wrap (l.gone + l.way.length) = totL l := htot
    have bad : ok3 l = false → bookOkB b = 3 := fun e => bookOkB_3 hk1 hk2 (all_false_at hi (by rw [hln]; exact e))
    cases q1 : inB l.grs.length 1 20
    · have hr := bad (by simp [ok3, q1])
      repeat (first | refine sk_seq ?_ | refine sk_block ?_ | refine sk_blk ?_ | refine sk_skip ?_ | refine sk_exit rfl ?_ | refine sk_cond_t rfl ?_ | refine sk_cond_f rfl ?_ | (refine sk_reg fun K hK => ?_; simp [hi, hve, d0.a, d0.b, d1.a, d1.b, d2.a, d2.b, d3.a, d3.b, x1, x2, hl, q1]; (repeat (first | (refine AskX.go (in_ac _ _ _) ?_; simp [hi, hve, d0.a, d0.b, d1.a, d1.b, d2.a, d2.b, d3.a, d3.b, x1, x2, hl, q1]))); refine hK _ ?_; clear hK K) | (refine sk_drw mix fun K hK => ?_; simp [hi, hve, d0.a, d0.b, d1.a, d1.b, d2.a, d2.b, d3.a, d3.b, x1, x2, hl, q1]; (repeat (first | (refine AskD.go (in_ac _ _ _) ?_; simp [hi, hve, d0.a, d0.b, d1.a, d1.b, d2.a, d2.b, d3.a, d3.b, x1, x2, hl, q1]))); refine hK _ ?_; clear hK K))
      refine sk_ret ?_; simp [hr]
      exact hg.app _
    have hq := q1
    simp only [inB, Bool.and_eq_true, decide_eq_true_eq] at hq
    repeat (first | refine sk_seq ?_ | refine sk_block ?_ | refine sk_blk ?_ | refine sk_skip ?_ | refine sk_exit rfl ?_ | refine sk_cond_t rfl ?_ | refine sk_cond_f rfl ?_ | (refine sk_reg fun K hK => ?_; simp [hi, hve, d0.a, d0.b, d1.a, d1.b, d2.a, d2.b, d3.a, d3.b, x1, x2, hl, q1]; (repeat (first | (refine AskX.go (in_ac _ _ _) ?_; simp [hi, hve, d0.a, d0.b, d1.a, d1.b, d2.a, d2.b, d3.a, d3.b, x1, x2, hl, q1]))); refine hK _ ?_; clear hK K) | (refine sk_drw mix fun K hK => ?_; simp [hi, hve, d0.a, d0.b, d1.a, d1.b, d2.a, d2.b, d3.a, d3.b, x1, x2, hl, q1]; (repeat (first | (refine AskD.go (in_ac _ _ _) ?_; simp [hi, hve, d0.a, d0.b, d1.a, d1.b, d2.a, d2.b, d3.a, d3.b, x1, x2, hl, q1]))); refine hK _ ?_; clear hK K))
    refine sk_rng l.grs.length (fun j => [(1, pt H.length 0), (72, .slice a0 b.lines.length c0), (73, iv b.lines.length), (74, iv i), (8, pt H1.length 0), (84, .slice a2 l.grs.length c2), (85, iv l.grs.length), (86, iv j)])
      (fun j H2 => Gro H1 H2 ∧ H2[H1.length]? = some ⟨43, [iv l.gone, .slice a1 l.way.length c1, .slice a2 l.grs.length c2, iv l.drop], true, true⟩ ∧ ∀ q (hj : q < j), gOk (totL l) l.grs q = true) (by simp [subL, getT, hve]) ⟨(by first | exact Gro.refl _ | exact Gro.one _ _), by simp, fun j hj => by omega⟩ ?_ ?_
    · rintro j H2 hj ⟨hg2, hb2, hpre2⟩
      have hl2 := hg2.len
      have hl3 : H.length ≤ H2.length := by omega
      have e0 : CF H2 H1.length 0 (iv l.gone) := CF.of hb2 rfl rfl
      have e1 : CF H2 H1.length 1 (.slice a1 l.way.length c1) := CF.of hb2 rfl rfl
      have e2 : CF H2 H1.length 2 (.slice a2 l.grs.length c2) := CF.of hb2 rfl rfl
      have e3 : CF H2 H1.length 3 (iv l.drop) := CF.of hb2 rfl rfl
      obtain ⟨id2, o2, hv2, hid2, f0, f1⟩ := (hw2.gro hg2 (RP.frm _)).gr hj
      have hwj := wrap_id (x := (j : Int) + 1) (by omega) (by omega)
      have badj : gOk (totL l) l.grs j = false → bookOkB b = 3 := fun e => bad (by
        have : (List.range l.grs.length).all (gOk (totL l) l.grs) = false := by rw [List.all_eq_false]; exact ⟨j, List.mem_range.2 hj, by simp [e]⟩
        simp only [ok3, this, Bool.and_false, Bool.false_and])
      have gok : gOk (totL l) l.grs j = (inB l.grs[j].cel 0 (totL l) && inB l.grs[j].ver 0 1000000 && (decide (j = 0) || decide (l.grs[j].ver = (gAt l.grs (j - 1)).ver + 1))) := by simp only [gOk, gAt_eq hj]
      cases q2 : inB l.grs[j].cel 0 (totL l)
      · have hr := badj (by rw [gok, q2]; simp)
        repeat (first | refine sk_seq ?_ | refine sk_block ?_ | refine sk_blk ?_ | refine sk_skip ?_ | refine sk_exit rfl ?_ | refine sk_cond_t rfl ?_ | refine sk_cond_f rfl ?_ | (refine sk_reg fun K hK => ?_; simp [hj, hv2, e0.a, e0.b, e1.a, e1.b, e2.a, e2.b, e3.a, e3.b, f0.a, f0.b, f1.a, f1.b, hl3, htot, q2]; (repeat (first | (refine AskX.go (in_ac _ _ _) ?_; simp [hj, hv2, e0.a, e0.b, e1.a, e1.b, e2.a, e2.b, e3.a, e3.b, f0.a, f0.b, f1.a, f1.b, hl3, htot, q2]) | (refine AskX.go (total_ac ⟨_, _, rfl⟩ rfl) ?_; simp [hj, hv2, e0.a, e0.b, e1.a, e1.b, e2.a, e2.b, e3.a, e3.b, f0.a, f0.b, f1.a, f1.b, hl3, htot, q2]))); refine hK _ ?_; clear hK K) | (refine sk_drw mix fun K hK => ?_; simp [hj, hv2, e0.a, e0.b, e1.a, e1.b, e2.a, e2.b, e3.a, e3.b, f0.a, f0.b, f1.a, f1.b, hl3, htot, q2]; (repeat (first | (refine AskD.go (in_ac _ _ _) ?_; simp [hj, hv2, e0.a, e0.b, e1.a, e1.b, e2.a, e2.b, e3.a, e3.b, f0.a, f0.b, f1.a, f1.b, hl3, htot, q2]) | (refine AskD.go (total_ac ⟨_, _, rfl⟩ rfl) ?_; simp [hj, hv2, e0.a, e0.b, e1.a, e1.b, e2.a, e2.b, e3.a, e3.b, f0.a, f0.b, f1.a, f1.b, hl3, htot, q2]))); refine hK _ ?_; clear hK K))
        refine sk_ret ?_; simp [hr]
        exact (hg.trans hg2).app _
      cases q3 : inB l.grs[j].ver 0 1000000
      · have hr := badj (by rw [gok, q3]; simp)
        repeat (first | refine sk_seq ?_ | refine sk_block ?_ | refine sk_blk ?_ | refine sk_skip ?_ | refine sk_exit rfl ?_ | refine sk_cond_t rfl ?_ | refine sk_cond_f rfl ?_ | (refine sk_reg fun K hK => ?_; simp [hj, hv2, e0.a, e0.b, e1.a, e1.b, e2.a, e2.b, e3.a, e3.b, f0.a, f0.b, f1.a, f1.b, hl3, htot, q2, q3]; (repeat (first | (refine AskX.go (in_ac _ _ _) ?_; simp [hj, hv2, e0.a, e0.b, e1.a, e1.b, e2.a, e2.b, e3.a, e3.b, f0.a, f0.b, f1.a, f1.b, hl3, htot, q2, q3]) | (refine AskX.go (total_ac ⟨_, _, rfl⟩ rfl) ?_; simp [hj, hv2, e0.a, e0.b, e1.a, e1.b, e2.a, e2.b, e3.a, e3.b, f0.a, f0.b, f1.a, f1.b, hl3, htot, q2, q3]))); refine hK _ ?_; clear hK K) | (refine sk_drw mix fun K hK => ?_; simp [hj, hv2, e0.a, e0.b, e1.a, e1.b, e2.a, e2.b, e3.a, e3.b, f0.a, f0.b, f1.a, f1.b, hl3, htot, q2, q3]; (repeat (first | (refine AskD.go (in_ac _ _ _) ?_; simp [hj, hv2, e0.a, e0.b, e1.a, e1.b, e2.a, e2.b, e3.a, e3.b, f0.a, f0.b, f1.a, f1.b, hl3, htot, q2, q3]) | (refine AskD.go (total_ac ⟨_, _, rfl⟩ rfl) ?_; simp [hj, hv2, e0.a, e0.b, e1.a, e1.b, e2.a, e2.b, e3.a, e3.b, f0.a, f0.b, f1.a, f1.b, hl3, htot, q2, q3]))); refine hK _ ?_; clear hK K))
        refine sk_ret ?_; simp [hr]
        exact (hg.trans hg2).app _
      have next : ∀ H3, Gro H2 H3 → gOk (totL l) l.grs j = true → Gro H1 H3 ∧ H3[H1.length]? = some ⟨43, [iv l.gone, .slice a1 l.way.length c1, .slice a2 l.grs.length c2, iv l.drop], true, true⟩ ∧ ∀ q (hj : q < j + 1), gOk (totL l) l.grs q = true := fun H3 g3 hg0 => ⟨hg2.trans g3, g3.get hb2, fun q hq => by
        by_cases e : q = j
        · subst e; exact hg0
        · exact hpre2 q (by omega)⟩
      by_cases hp : 0 < j
      · have hp1 : j - 1 < l.grs.length := by omega
        obtain ⟨id3, o3, hv3, hid3, g0, g1⟩ := (hw2.gro hg2 (RP.frm _)).gr hp1
        have hio : id3 = id2 ∧ o3 = o2 := by rw [hv2] at hv3; simp at hv3; exact ⟨hv3.1.symm, hv3.2.symm⟩
        obtain ⟨rfl, rfl⟩ := hio
        have hwp : IntKind.i64.wrap ((j : Int) - 1) = ((j - 1 : Nat) : Int) := by rw [wrap_id (by omega) (by omega)]; omega
        have hv := hpre2 (j - 1) (by omega)
        rw [gOk, gAt_eq hp1] at hv
        simp only [inB, Bool.and_eq_true, decide_eq_true_eq] at hv
        have hwv := wrap_id (x := l.grs[j - 1].ver + 1) (by omega) (by omega)
        rw [gAt_eq hp1] at gok
        by_cases q4 : l.grs[j].ver = l.grs[j - 1].ver + 1
        · have g := next (H2 ++ [⟨45, [iv l.grs[j].ver, iv l.grs[j].cel], true, true⟩]) (Gro.one _ _) (by rw [gok, q2, q3, q4]; simp)
          have q4' := eq_true q4
          repeat (first | refine sk_seq ?_ | refine sk_block ?_ | refine sk_blk ?_ | refine sk_skip ?_ | refine sk_exit rfl ?_ | refine sk_cond_t rfl ?_ | refine sk_cond_f rfl ?_ | (refine sk_reg fun K hK => ?_; simp [hj, hv2, e0.a, e0.b, e1.a, e1.b, e2.a, e2.b, e3.a, e3.b, f0.a, f0.b, f1.a, f1.b, g0.a, g0.b, g1.a, g1.b, hl3, htot, q2, q3, hp, hp1, hwp, hwv, q4', hwj]; (repeat (first | (refine AskX.go (in_ac _ _ _) ?_; simp [hj, hv2, e0.a, e0.b, e1.a, e1.b, e2.a, e2.b, e3.a, e3.b, f0.a, f0.b, f1.a, f1.b, g0.a, g0.b, g1.a, g1.b, hl3, htot, q2, q3, hp, hp1, hwp, hwv, q4', hwj]) | (refine AskX.go (total_ac ⟨_, _, rfl⟩ rfl) ?_; simp [hj, hv2, e0.a, e0.b, e1.a, e1.b, e2.a, e2.b, e3.a, e3.b, f0.a, f0.b, f1.a, f1.b, g0.a, g0.b, g1.a, g1.b, hl3, htot, q2, q3, hp, hp1, hwp, hwv, q4', hwj]))); refine hK _ ?_; clear hK K) | (refine sk_drw mix fun K hK => ?_; simp [hj, hv2, e0.a, e0.b, e1.a, e1.b, e2.a, e2.b, e3.a, e3.b, f0.a, f0.b, f1.a, f1.b, g0.a, g0.b, g1.a, g1.b, hl3, htot, q2, q3, hp, hp1, hwp, hwv, q4', hwj]; (repeat (first | (refine AskD.go (in_ac _ _ _) ?_; simp [hj, hv2, e0.a, e0.b, e1.a, e1.b, e2.a, e2.b, e3.a, e3.b, f0.a, f0.b, f1.a, f1.b, g0.a, g0.b, g1.a, g1.b, hl3, htot, q2, q3, hp, hp1, hwp, hwv, q4', hwj]) | (refine AskD.go (total_ac ⟨_, _, rfl⟩ rfl) ?_; simp [hj, hv2, e0.a, e0.b, e1.a, e1.b, e2.a, e2.b, e3.a, e3.b, f0.a, f0.b, f1.a, f1.b, g0.a, g0.b, g1.a, g1.b, hl3, htot, q2, q3, hp, hp1, hwp, hwv, q4', hwj]))); refine hK _ ?_; clear hK K))
          exact sk_inv ⟨by simp [subL, getT, hv2], g⟩
        · have hr := badj (by rw [gok, q2, q3]; simp [q4]; omega)
          repeat (first | refine sk_seq ?_ | refine sk_block ?_ | refine sk_blk ?_ | refine sk_skip ?_ | refine sk_exit rfl ?_ | refine sk_cond_t rfl ?_ | refine sk_cond_f rfl ?_ | (refine sk_reg fun K hK => ?_; simp [hj, hv2, e0.a, e0.b, e1.a, e1.b, e2.a, e2.b, e3.a, e3.b, f0.a, f0.b, f1.a, f1.b, g0.a, g0.b, g1.a, g1.b, hl3, htot, q2, q3, hp, hp1, hwp, hwv, q4]; (repeat (first | (refine AskX.go (in_ac _ _ _) ?_; simp [hj, hv2, e0.a, e0.b, e1.a, e1.b, e2.a, e2.b, e3.a, e3.b, f0.a, f0.b, f1.a, f1.b, g0.a, g0.b, g1.a, g1.b, hl3, htot, q2, q3, hp, hp1, hwp, hwv, q4]) | (refine AskX.go (total_ac ⟨_, _, rfl⟩ rfl) ?_; simp [hj, hv2, e0.a, e0.b, e1.a, e1.b, e2.a, e2.b, e3.a, e3.b, f0.a, f0.b, f1.a, f1.b, g0.a, g0.b, g1.a, g1.b, hl3, htot, q2, q3, hp, hp1, hwp, hwv, q4]))); refine hK _ ?_; clear hK K) | (refine sk_drw mix fun K hK => ?_; simp [hj, hv2, e0.a, e0.b, e1.a, e1.b, e2.a, e2.b, e3.a, e3.b, f0.a, f0.b, f1.a, f1.b, g0.a, g0.b, g1.a, g1.b, hl3, htot, q2, q3, hp, hp1, hwp, hwv, q4]; (repeat (first | (refine AskD.go (in_ac _ _ _) ?_; simp [hj, hv2, e0.a, e0.b, e1.a, e1.b, e2.a, e2.b, e3.a, e3.b, f0.a, f0.b, f1.a, f1.b, g0.a, g0.b, g1.a, g1.b, hl3, htot, q2, q3, hp, hp1, hwp, hwv, q4]) | (refine AskD.go (total_ac ⟨_, _, rfl⟩ rfl) ?_; simp [hj, hv2, e0.a, e0.b, e1.a, e1.b, e2.a, e2.b, e3.a, e3.b, f0.a, f0.b, f1.a, f1.b, g0.a, g0.b, g1.a, g1.b, hl3, htot, q2, q3, hp, hp1, hwp, hwv, q4]))); refine hK _ ?_; clear hK K))
          refine sk_ret ?_; simp [hr]
          exact (hg.trans hg2).app _
      · have g := next (H2 ++ [⟨45, [iv l.grs[j].ver, iv l.grs[j].cel], true, true⟩]) (Gro.one _ _) (by rw [gok, q2, q3]; simp; omega)
        repeat (first | refine sk_seq ?_ | refine sk_block ?_ | refine sk_blk ?_ | refine sk_skip ?_ | refine sk_exit rfl ?_ | refine sk_cond_t rfl ?_ | refine sk_cond_f rfl ?_ | (refine sk_reg fun K hK => ?_; simp [hj, hv2, e0.a, e0.b, e1.a, e1.b, e2.a, e2.b, e3.a, e3.b, f0.a, f0.b, f1.a, f1.b, hl3, htot, q2, q3, hp, hwj]; (repeat (first | (refine AskX.go (in_ac _ _ _) ?_; simp [hj, hv2, e0.a, e0.b, e1.a, e1.b, e2.a, e2.b, e3.a, e3.b, f0.a, f0.b, f1.a, f1.b, hl3, htot, q2, q3, hp, hwj]) | (refine AskX.go (total_ac ⟨_, _, rfl⟩ rfl) ?_; simp [hj, hv2, e0.a, e0.b, e1.a, e1.b, e2.a, e2.b, e3.a, e3.b, f0.a, f0.b, f1.a, f1.b, hl3, htot, q2, q3, hp, hwj]))); refine hK _ ?_; clear hK K) | (refine sk_drw mix fun K hK => ?_; simp [hj, hv2, e0.a, e0.b, e1.a, e1.b, e2.a, e2.b, e3.a, e3.b, f0.a, f0.b, f1.a, f1.b, hl3, htot, q2, q3, hp, hwj]; (repeat (first | (refine AskD.go (in_ac _ _ _) ?_; simp [hj, hv2, e0.a, e0.b, e1.a, e1.b, e2.a, e2.b, e3.a, e3.b, f0.a, f0.b, f1.a, f1.b, hl3, htot, q2, q3, hp, hwj]) | (refine AskD.go (total_ac ⟨_, _, rfl⟩ rfl) ?_; simp [hj, hv2, e0.a, e0.b, e1.a, e1.b, e2.a, e2.b, e3.a, e3.b, f0.a, f0.b, f1.a, f1.b, hl3, htot, q2, q3, hp, hwj]))); refine hK _ ?_; clear hK K))
        exact sk_inv ⟨by simp [subL, getT, hv2], g⟩
    · rintro H2 ⟨hg2, hb2, hpre2⟩
      have e0 : CF H2 H1.length 0 (iv l.gone) := CF.of hb2 rfl rfl
      have e2 : CF H2 H1.length 2 (.slice a2 l.grs.length c2) := CF.of hb2 rfl rfl
      have hgs : (List.range l.grs.length).all (gOk (totL l) l.grs) = true := by rw [List.all_eq_true]; exact fun q hq => hpre2 q (List.mem_range.1 hq)
      by_cases q2 : reachL l.grs < l.gone
      · have hr := bad (by simp only [ok3, q1, hgs]; simp; omega)
        repeat (first | refine sk_seq ?_ | refine sk_block ?_ | refine sk_blk ?_ | refine sk_skip ?_ | refine sk_exit rfl ?_ | refine sk_cond_t rfl ?_ | refine sk_cond_f rfl ?_ | (refine sk_reg fun K hK => ?_; simp [e0.a, e0.b, e2.a, e2.b, q2]; (repeat (first | (refine AskX.go (reach_ac (hw2.gro hg2 (RP.frm _))) ?_; simp [e0.a, e0.b, e2.a, e2.b, q2]))); refine hK _ ?_; clear hK K) | (refine sk_drw mix fun K hK => ?_; simp [e0.a, e0.b, e2.a, e2.b, q2]; (repeat (first | (refine AskD.go (reach_ac (hw2.gro hg2 (RP.frm _))) ?_; simp [e0.a, e0.b, e2.a, e2.b, q2]))); refine hK _ ?_; clear hK K))
        refine sk_ret ?_; simp [hr]
        exact hg.trans hg2
      · repeat (first | refine sk_seq ?_ | refine sk_block ?_ | refine sk_blk ?_ | refine sk_skip ?_ | refine sk_exit rfl ?_ | refine sk_cond_t rfl ?_ | refine sk_cond_f rfl ?_ | (refine sk_reg fun K hK => ?_; simp [e0.a, e0.b, e2.a, e2.b, q2, hwi]; (repeat (first | (refine AskX.go (reach_ac (hw2.gro hg2 (RP.frm _))) ?_; simp [e0.a, e0.b, e2.a, e2.b, q2, hwi]))); refine hK _ ?_; clear hK K) | (refine sk_drw mix fun K hK => ?_; simp [e0.a, e0.b, e2.a, e2.b, q2, hwi]; (repeat (first | (refine AskD.go (reach_ac (hw2.gro hg2 (RP.frm _))) ?_; simp [e0.a, e0.b, e2.a, e2.b, q2, hwi]))); refine hK _ ?_; clear hK K))
        refine sk_inv ⟨by simp [subL, getT, hve], hg.trans hg2, hg2.get hb, fun j hj hx => ?_⟩
        by_cases e : j = i
        · subst e; rw [hln]; simp only [ok3, q1, hgs]; simp; omega
        · exact hpre j (by omega) hx
  clear hg hb hall H1
  rintro H1 ⟨hg, hb, hall⟩
  have hk3 : b.lines.all ok3 = true := all_true_at fun j hj => hall j hj hj
  have cb2 : CF H1 H.length 2 (.slice a0 b.lines.length c0) := CF.of hb rfl rfl
  repeat (first | refine sk_seq ?_ | refine sk_block ?_ | refine sk_blk ?_ | refine sk_skip ?_ | refine sk_exit rfl ?_ | refine sk_cond_t rfl ?_ | refine sk_cond_f rfl ?_ | (refine sk_reg fun K hK => ?_; simp [cb2.a, cb2.b]; refine hK _ ?_; clear hK K) | (refine sk_drw mix fun K hK => ?_; simp [cb2.a, cb2.b]; refine hK _ ?_; clear hK K))
  clear cb2
  -- the third loop: shortened ways
  refine sk_rng b.lines.length (fun i => [(1, pt H.length 0), (129, .slice a0 b.lines.length c0), (130, iv b.lines.length), (131, iv i)]) (fun i H2 => Gro H H2 ∧ H2[H.length]? = some ⟨25, [.bool b.ok, iv b.sec, .slice a0 b.lines.length c0], true, true⟩ ∧ ∀ j (hj : j < i) (hx : j < b.lines.length), ok4 b.lines[j] = true) (by simp [subL, getT]) ⟨hg, hb, fun j hj => by omega⟩ ?_ ?_
  · clear hg hb hall H1
    rintro i H1 hi ⟨hg, hb, hpre⟩
    have hl := hg.len
    obtain ⟨id, o, v1, v2, E1, E2, hve, hid, d0, d1, d2, d3, hw1, hw2, x1, x2, _⟩ := (hv.gro hg RLn.frm).line hi
    have hok2 := ok2_in (all_at hk2 hi)
    have hok3 := all_at hk3 hi
    generalize hln : b.lines[i] = l at *
    obtain ⟨a1, c1, rfl⟩ := hw1.form
    obtain ⟨a2, c2, rfl⟩ := hw2.form
    have hwi := wrap_id (x := (i : Int) + 1) (by omega) (by omega)
    have hn1 := hw1.1
    have hn2 := hw2.1
    have htot := wrap_id (x := l.gone + l.way.length) (by unfold totL at hok2; omega) (by unfold totL at hok2; omega)
    have htot : IntKind.i64.wrap (l.gone + l.way.length) = totL l := htot
    have hwt := wrap_id (x := totL l - 1) (by omega) (by omega)
    simp only [ok3, inB, Bool.and_eq_true, decide_eq_true_eq] at hok3
    have hp1 : l.grs.length - 1 < l.grs.length := by omega
    have hwg : IntKind.i64.wrap ((l.grs.length : Int) - 1) = ((l.grs.length - 1 : Nat) : Int) := by rw [wrap_id (by omega) (by omega)]; omega
    obtain ⟨id3, o3, hv3, hid3, g0, g1⟩ := hw2.gr hp1
    have bad : ok4 l = false → bookOkB b = 4 := fun e => bookOkB_4 hk1 hk2 hk3 (all_false_at hi (by rw [hln]; exact e))
    have next : ∀ H3, Gro H1 H3 → ok4 l = true → Gro H H3 ∧ H3[H.length]? = some ⟨25, [.bool b.ok, iv b.sec, .slice a0 b.lines.length c0], true, true⟩ ∧ ∀ j (hj : j < i + 1) (hx : j < b.lines.length), ok4 b.lines[j] = true := fun H3 g3 e => ⟨hg.trans g3, g3.get hb, fun j hj hx => by
      by_cases e : j = i
      · subst e; rw [hln]; assumption
      · exact hpre j (by omega) hx⟩
    have key : ok4 l = (decide (l.drop = -1) || (inB l.drop l.gone (totL l - 1) && decide (l.grs[l.grs.length - 1].cel ≤ l.drop) && decide (totL l ≤ reachL l.grs))) := by rw [ok4, gAt_eq hp1]
    by_cases q1 : l.drop = -1
    · have g := next (H1 ++ [⟨43, [iv l.gone, .slice a1 l.way.length c1, .slice a2 l.grs.length c2, iv l.drop], true, true⟩]) (Gro.one _ _) (by rw [key]; simp [q1])
      have q1' := eq_true q1
      repeat (first | refine sk_seq ?_ | refine sk_block ?_ | refine sk_blk ?_ | refine sk_skip ?_ | refine sk_exit rfl ?_ | refine sk_cond_t rfl ?_ | refine sk_cond_f rfl ?_ | (refine sk_reg fun K hK => ?_; simp [hi, hve, d0.a, d0.b, d1.a, d1.b, d2.a, d2.b, d3.a, d3.b, x1, x2, hl, q1', hwi]; refine hK _ ?_; clear hK K) | (refine sk_drw mix fun K hK => ?_; simp [hi, hve, d0.a, d0.b, d1.a, d1.b, d2.a, d2.b, d3.a, d3.b, x1, x2, hl, q1', hwi]; refine hK _ ?_; clear hK K))
      exact sk_inv ⟨by simp [subL, getT, hve], g⟩
    cases q2 : inB l.drop l.gone (totL l - 1)
    · have hr := bad (by rw [key]; simp [q1, q2])
      repeat (first | refine sk_seq ?_ | refine sk_block ?_ | refine sk_blk ?_ | refine sk_skip ?_ | refine sk_exit rfl ?_ | refine sk_cond_t rfl ?_ | refine sk_cond_f rfl ?_ | (refine sk_reg fun K hK => ?_; simp [hi, hve, d0.a, d0.b, d1.a, d1.b, d2.a, d2.b, d3.a, d3.b, x1, x2, hl, q1, q2, htot, hwt]; (repeat (first | (refine AskX.go (in_ac _ _ _) ?_; simp [hi, hve, d0.a, d0.b, d1.a, d1.b, d2.a, d2.b, d3.a, d3.b, x1, x2, hl, q1, q2, htot, hwt]) | (refine AskX.go (total_ac ⟨_, _, rfl⟩ rfl) ?_; simp [hi, hve, d0.a, d0.b, d1.a, d1.b, d2.a, d2.b, d3.a, d3.b, x1, x2, hl, q1, q2, htot, hwt]))); refine hK _ ?_; clear hK K) | (refine sk_drw mix fun K hK => ?_; simp [hi, hve, d0.a, d0.b, d1.a, d1.b, d2.a, d2.b, d3.a, d3.b, x1, x2, hl, q1, q2, htot, hwt]; (repeat (first | (refine AskD.go (in_ac _ _ _) ?_; simp [hi, hve, d0.a, d0.b, d1.a, d1.b, d2.a, d2.b, d3.a, d3.b, x1, x2, hl, q1, q2, htot, hwt]) | (refine AskD.go (total_ac ⟨_, _, rfl⟩ rfl) ?_; simp [hi, hve, d0.a, d0.b, d1.a, d1.b, d2.a, d2.b, d3.a, d3.b, x1, x2, hl, q1, q2, htot, hwt]))); refine hK _ ?_; clear hK K))
      refine sk_ret ?_; simp [hr]
      exact hg.app _
    by_cases q3 : l.drop < l.grs[l.grs.length - 1].cel
    · have hr := bad (by rw [key]; simp [q1, q2]; omega)
      repeat (first | refine sk_seq ?_ | refine sk_block ?_ | refine sk_blk ?_ | refine sk_skip ?_ | refine sk_exit rfl ?_ | refine sk_cond_t rfl ?_ | refine sk_cond_f rfl ?_ | (refine sk_reg fun K hK => ?_; simp [hi, hve, hv3, d0.a, d0.b, d1.a, d1.b, d2.a, d2.b, d3.a, d3.b, g0.a, g0.b, g1.a, g1.b, x1, x2, hl, q1, q2, q3, htot, hwt, hwg, hp1]; (repeat (first | (refine AskX.go (in_ac _ _ _) ?_; simp [hi, hve, hv3, d0.a, d0.b, d1.a, d1.b, d2.a, d2.b, d3.a, d3.b, g0.a, g0.b, g1.a, g1.b, x1, x2, hl, q1, q2, q3, htot, hwt, hwg, hp1]) | (refine AskX.go (total_ac ⟨_, _, rfl⟩ rfl) ?_; simp [hi, hve, hv3, d0.a, d0.b, d1.a, d1.b, d2.a, d2.b, d3.a, d3.b, g0.a, g0.b, g1.a, g1.b, x1, x2, hl, q1, q2, q3, htot, hwt, hwg, hp1]))); refine hK _ ?_; clear hK K) | (refine sk_drw mix fun K hK => ?_; simp [hi, hve, hv3, d0.a, d0.b, d1.a, d1.b, d2.a, d2.b, d3.a, d3.b, g0.a, g0.b, g1.a, g1.b, x1, x2, hl, q1, q2, q3, htot, hwt, hwg, hp1]; (repeat (first | (refine AskD.go (in_ac _ _ _) ?_; simp [hi, hve, hv3, d0.a, d0.b, d1.a, d1.b, d2.a, d2.b, d3.a, d3.b, g0.a, g0.b, g1.a, g1.b, x1, x2, hl, q1, q2, q3, htot, hwt, hwg, hp1]) | (refine AskD.go (total_ac ⟨_, _, rfl⟩ rfl) ?_; simp [hi, hve, hv3, d0.a, d0.b, d1.a, d1.b, d2.a, d2.b, d3.a, d3.b, g0.a, g0.b, g1.a, g1.b, x1, x2, hl, q1, q2, q3, htot, hwt, hwg, hp1]))); refine hK _ ?_; clear hK K))
      refine sk_ret ?_; simp [hr]
      exact hg.app _
    by_cases q4 : reachL l.grs < totL l
    · have hr := bad (by rw [key]; simp [q1, q2]; omega)
      rw [hv3] at hw2
      repeat (first | refine sk_seq ?_ | refine sk_block ?_ | refine sk_blk ?_ | refine sk_skip ?_ | refine sk_exit rfl ?_ | refine sk_cond_t rfl ?_ | refine sk_cond_f rfl ?_ | (refine sk_reg fun K hK => ?_; simp [hi, hve, hv3, d0.a, d0.b, d1.a, d1.b, d2.a, d2.b, d3.a, d3.b, g0.a, g0.b, g1.a, g1.b, x1, x2, hl, q1, q2, q3, q4, htot, hwt, hwg, hp1]; (repeat (first | (refine AskX.go (in_ac _ _ _) ?_; simp [hi, hve, hv3, d0.a, d0.b, d1.a, d1.b, d2.a, d2.b, d3.a, d3.b, g0.a, g0.b, g1.a, g1.b, x1, x2, hl, q1, q2, q3, q4, htot, hwt, hwg, hp1]) | (refine AskX.go (total_ac ⟨_, _, rfl⟩ rfl) ?_; simp [hi, hve, hv3, d0.a, d0.b, d1.a, d1.b, d2.a, d2.b, d3.a, d3.b, g0.a, g0.b, g1.a, g1.b, x1, x2, hl, q1, q2, q3, q4, htot, hwt, hwg, hp1]) | (refine AskX.go (reach_ac (hw2.ext (RP.frm _))) ?_; simp [hi, hve, hv3, d0.a, d0.b, d1.a, d1.b, d2.a, d2.b, d3.a, d3.b, g0.a, g0.b, g1.a, g1.b, x1, x2, hl, q1, q2, q3, q4, htot, hwt, hwg, hp1]))); refine hK _ ?_; clear hK K) | (refine sk_drw mix fun K hK => ?_; simp [hi, hve, hv3, d0.a, d0.b, d1.a, d1.b, d2.a, d2.b, d3.a, d3.b, g0.a, g0.b, g1.a, g1.b, x1, x2, hl, q1, q2, q3, q4, htot, hwt, hwg, hp1]; (repeat (first | (refine AskD.go (in_ac _ _ _) ?_; simp [hi, hve, hv3, d0.a, d0.b, d1.a, d1.b, d2.a, d2.b, d3.a, d3.b, g0.a, g0.b, g1.a, g1.b, x1, x2, hl, q1, q2, q3, q4, htot, hwt, hwg, hp1]) | (refine AskD.go (total_ac ⟨_, _, rfl⟩ rfl) ?_; simp [hi, hve, hv3, d0.a, d0.b, d1.a, d1.b, d2.a, d2.b, d3.a, d3.b, g0.a, g0.b, g1.a, g1.b, x1, x2, hl, q1, q2, q3, q4, htot, hwt, hwg, hp1]) | (refine AskD.go (reach_ac (hw2.ext (RP.frm _))) ?_; simp [hi, hve, hv3, d0.a, d0.b, d1.a, d1.b, d2.a, d2.b, d3.a, d3.b, g0.a, g0.b, g1.a, g1.b, x1, x2, hl, q1, q2, q3, q4, htot, hwt, hwg, hp1]))); refine hK _ ?_; clear hK K))
      refine sk_ret ?_; simp [hr]
      exact hg.app _
    · have g := next (H1 ++ [⟨43, [iv l.gone, .slice a1 l.way.length c1, .slice a2 l.grs.length c2, iv l.drop], true, true⟩]) (Gro.one _ _) (by rw [key]; simp [q1, q2]; omega)
      rw [hv3] at hw2 g
      repeat (first | refine sk_seq ?_ | refine sk_block ?_ | refine sk_blk ?_ | refine sk_skip ?_ | refine sk_exit rfl ?_ | refine sk_cond_t rfl ?_ | refine sk_cond_f rfl ?_ | (refine sk_reg fun K hK => ?_; simp [hi, hve, hv3, d0.a, d0.b, d1.a, d1.b, d2.a, d2.b, d3.a, d3.b, g0.a, g0.b, g1.a, g1.b, x1, x2, hl, q1, q2, q3, q4, htot, hwt, hwg, hp1, hwi]; (repeat (first | (refine AskX.go (in_ac _ _ _) ?_; simp [hi, hve, hv3, d0.a, d0.b, d1.a, d1.b, d2.a, d2.b, d3.a, d3.b, g0.a, g0.b, g1.a, g1.b, x1, x2, hl, q1, q2, q3, q4, htot, hwt, hwg, hp1, hwi]) | (refine AskX.go (total_ac ⟨_, _, rfl⟩ rfl) ?_; simp [hi, hve, hv3, d0.a, d0.b, d1.a, d1.b, d2.a, d2.b, d3.a, d3.b, g0.a, g0.b, g1.a, g1.b, x1, x2, hl, q1, q2, q3, q4, htot, hwt, hwg, hp1, hwi]) | (refine AskX.go (reach_ac (hw2.ext (RP.frm _))) ?_; simp [hi, hve, hv3, d0.a, d0.b, d1.a, d1.b, d2.a, d2.b, d3.a, d3.b, g0.a, g0.b, g1.a, g1.b, x1, x2, hl, q1, q2, q3, q4, htot, hwt, hwg, hp1, hwi]))); refine hK _ ?_; clear hK K) | (refine sk_drw mix fun K hK => ?_; simp [hi, hve, hv3, d0.a, d0.b, d1.a, d1.b, d2.a, d2.b, d3.a, d3.b, g0.a, g0.b, g1.a, g1.b, x1, x2, hl, q1, q2, q3, q4, htot, hwt, hwg, hp1, hwi]; (repeat (first | (refine AskD.go (in_ac _ _ _) ?_; simp [hi, hve, hv3, d0.a, d0.b, d1.a, d1.b, d2.a, d2.b, d3.a, d3.b, g0.a, g0.b, g1.a, g1.b, x1, x2, hl, q1, q2, q3, q4, htot, hwt, hwg, hp1, hwi]) | (refine AskD.go (total_ac ⟨_, _, rfl⟩ rfl) ?_; simp [hi, hve, hv3, d0.a, d0.b, d1.a, d1.b, d2.a, d2.b, d3.a, d3.b, g0.a, g0.b, g1.a, g1.b, x1, x2, hl, q1, q2, q3, q4, htot, hwt, hwg, hp1, hwi]) | (refine AskD.go (reach_ac (hw2.ext (RP.frm _))) ?_; simp [hi, hve, hv3, d0.a, d0.b, d1.a, d1.b, d2.a, d2.b, d3.a, d3.b, g0.a, g0.b, g1.a, g1.b, x1, x2, hl, q1, q2, q3, q4, htot, hwt, hwg, hp1, hwi]))); refine hK _ ?_; clear hK K))
      exact sk_inv ⟨by simp [subL, getT, hve], g⟩
  clear hg hb hall H1
  rintro H1 ⟨hg, hb, hall⟩
  have hk4 : b.lines.all ok4 = true := all_true_at fun j hj => hall j hj hj
  have cb2 : CF H1 H.length 2 (.slice a0 b.lines.length c0) := CF.of hb rfl rfl
  have hl := hg.len
  have hlt : H.length < H1.length := lt_of_get hb
  repeat (first | refine sk_seq ?_ | refine sk_block ?_ | refine sk_blk ?_ | refine sk_skip ?_ | refine sk_exit rfl ?_ | refine sk_cond_t rfl ?_ | refine sk_cond_f rfl ?_ | (refine sk_reg fun K hK => ?_; simp [cb2.a, cb2.b, hl]; refine hK _ ?_; clear hK K) | (refine sk_drw mix fun K hK => ?_; simp [cb2.a, cb2.b, hl]; refine hK _ ?_; clear hK K))
  -- the fourth loop: every section once
  refine sk_rng b.lines.length (fun i => [(1, pt H.length 0), (13, .map (some H1.length)), (174, .slice a0 b.lines.length c0), (175, iv b.lines.length), (176, iv i)])
    (fun i H2 => Gro H H2 ∧ H2[H1.length]? = some ⟨125, encM (secs (b.lines.take i)), true, false⟩ ∧ (secs (b.lines.take i)).Nodup) (by simp [subL, getT]) ⟨hg.app _, by simp [secs, encM], by simp [secs]⟩ ?_ ?_
  · rintro i H2 hi ⟨hg2, hm, hnd⟩
    have hl2 := hg2.len
    obtain ⟨id, o, v1, v2, E1, E2, hve, hid, d0, d1, d2, d3, hw1, hw2, x1, x2, _⟩ := hv.line hi
    have e0 := d0.gro hg2
    have e1 := d1.gro hg2
    have e2 := d2.gro hg2
    have e3 := d3.gro hg2
    have hst := secs_take hi
    obtain ⟨rest, hsp⟩ := secs_split hi
    generalize hln : b.lines[i] = l at *
    obtain ⟨a1, c1, rfl⟩ := hw1.form
    have hwi := wrap_id (x := (i : Int) + 1) (by omega) (by omega)
    have hn1 := hw1.1
    repeat (first | refine sk_seq ?_ | refine sk_block ?_ | refine sk_blk ?_ | refine sk_skip ?_ | refine sk_exit rfl ?_ | refine sk_cond_t rfl ?_ | refine sk_cond_f rfl ?_ | (refine sk_reg fun K hK => ?_; simp [hi, hve, e0.a, e0.b, e1.a, e1.b, e2.a, e2.b, e3.a, e3.b, x1, x2, hl2]; refine hK _ ?_; clear hK K) | (refine sk_drw mix fun K hK => ?_; simp [hi, hve, e0.a, e0.b, e1.a, e1.b, e2.a, e2.b, e3.a, e3.b, x1, x2, hl2]; refine hK _ ?_; clear hK K))
    refine sk_rng l.way.length (fun j => [(1, pt H.length 0), (13, .map (some H1.length)), (174, .slice a0 b.lines.length c0), (175, iv b.lines.length), (176, iv i), (181, .slice a1 l.way.length c1), (182, iv l.way.length), (183, iv j)])
      (fun j H2 => Gro H H2 ∧ H2[H1.length]? = some ⟨125, encM (secs (b.lines.take i) ++ l.way.take j), true, false⟩ ∧ (secs (b.lines.take i) ++ l.way.take j).Nodup) (by simp [subL, getT, hve]) ⟨hg2.app _, by simpa using (Gro.one _ _).get hm, by simpa using hnd⟩ ?_ ?_
    · rintro j H3 hj ⟨hg3, hm3, hnd3⟩
      have hl3 := hg3.len
      have hlt3 : H1.length < H3.length := lt_of_get hm3
      obtain ⟨id2, o2, hv2, hid2, f0⟩ := (hw1.gro hg3 (RP.frm _)).int hj
      have hwj := wrap_id (x := (j : Int) + 1) (by omega) (by omega)
      have lk := lookA_enc l.way[j] mz_125 hm3
      have htk := take_snoc hj
      by_cases q : l.way[j] ∈ secs (b.lines.take i) ++ l.way.take j
      · have hr := bookOkB_5 hk1 hk2 hk3 hk4 (fun hh => by
          rw [hsp, ← List.append_assoc] at hh
          have e : l.way = l.way.take j ++ l.way[j] :: l.way.drop (j + 1) := by rw [List.getElem_cons_drop]; exact (List.take_append_drop j l.way).symm
          rw [e, ← List.append_assoc, List.append_assoc] at hh
          exact (List.nodup_append.1 hh).2.2 _ q l.way[j] (List.mem_append_left _ List.mem_cons_self) rfl)
        rw [decide_eq_true q] at lk
        repeat (first | refine sk_seq ?_ | refine sk_block ?_ | refine sk_blk ?_ | refine sk_skip ?_ | refine sk_exit rfl ?_ | refine sk_cond_t rfl ?_ | refine sk_cond_f rfl ?_ | (refine sk_reg fun K hK => ?_; simp [hj, hv2, f0.a, f0.b, lk]; refine hK _ ?_; clear hK K) | (refine sk_drw mix fun K hK => ?_; simp [hj, hv2, f0.a, f0.b, lk]; refine hK _ ?_; clear hK K))
        refine sk_ret ?_; simp [hr]
        exact hg3
      · have mp := mputA_enc mz_125 hm3 q
        rw [decide_eq_false q] at lk
        repeat (first | refine sk_seq ?_ | refine sk_block ?_ | refine sk_blk ?_ | refine sk_skip ?_ | refine sk_exit rfl ?_ | refine sk_cond_t rfl ?_ | refine sk_cond_f rfl ?_ | (refine sk_reg fun K hK => ?_; simp [hj, hv2, f0.a, f0.b, lk, mp, hwj, hl]; refine hK _ ?_; clear hK K) | (refine sk_drw mix fun K hK => ?_; simp [hj, hv2, f0.a, f0.b, lk, mp, hwj, hl]; refine hK _ ?_; clear hK K))
        refine sk_inv ⟨by simp [subL, getT, hv2], hg3.set hl _, ?_, ?_⟩
        · rw [htk, ← List.append_assoc]; simp [hlt3]
        · rw [htk, ← List.append_assoc, List.nodup_append]
          exact ⟨hnd3, by simp, fun a ha b hb hab => by simp at hb; subst hb; subst hab; exact q ha⟩
    · rintro H3 ⟨hg3, hm3, hnd3⟩
      repeat (first | refine sk_seq ?_ | refine sk_block ?_ | refine sk_blk ?_ | refine sk_skip ?_ | refine sk_exit rfl ?_ | refine sk_cond_t rfl ?_ | refine sk_cond_f rfl ?_ | (refine sk_reg fun K hK => ?_; simp [hwi]; refine hK _ ?_; clear hK K) | (refine sk_drw mix fun K hK => ?_; simp [hwi]; refine hK _ ?_; clear hK K))
      rw [List.take_length, ← hst] at hm3 hnd3
      exact sk_inv ⟨by simp [subL, getT, hve], hg3, hm3, hnd3⟩
  · rintro H2 ⟨hg2, hm, hnd⟩
    rw [List.take_length] at hnd
    have hr := bookOkB_0 hk1 hk2 hk3 hk4 hnd
    repeat (first | refine sk_seq ?_ | refine sk_block ?_ | refine sk_blk ?_ | refine sk_skip ?_ | refine sk_exit rfl ?_ | refine sk_cond_t rfl ?_ | refine sk_cond_f rfl ?_ | (refine sk_reg fun K hK => ?_; simp; refine hK _ ?_; clear hK K) | (refine sk_drw mix fun K hK => ?_; simp; refine hK _ ?_; clear hK K))
    refine sk_ret ?_; simp [hr]
    exact hg2
end Go.Proofs.Ytpoedfmkiiijnaa
