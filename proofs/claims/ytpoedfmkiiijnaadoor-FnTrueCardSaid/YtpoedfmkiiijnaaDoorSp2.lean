/- Step of the program. A walk. -/
import Derived.Test.YtpoedfmkiiijnaaDoorSp1
namespace Go.Proofs.YtpoedfmkiiijnaaDoor
open Go Go.RowKit Go.Proofs.YtpoedfmkiiijnaaDoorAm
set_option linter.unusedVariables false
set_option linter.unusedSimpArgs false
set_option maxRecDepth 10000
set_option maxHeartbeats 8000000
theorem rdWd0 (H : Heap) : RWd H [] wd0 [.bool false, .bool false, iv 0, nl, nl] := ⟨[], [], [.bool false, iv 0, nl], nl, rfl, rfl, ⟨nl, rfl, by simp [wd0, bk0], .inl ⟨.inl rfl, rfl, rfl⟩⟩, by simp [wd0], .inl ⟨.inl rfl, rfl, rfl⟩⟩
theorem RWd.five {H : Heap} {E : List Nat} {w : Wd} {cs : List Value} (h : RWd H E w cs) : ∃ vl vb E1 E2, cs = [.bool w.ok, .bool w.book.ok, iv w.book.sec, vl, vb] ∧ E = E1 ++ E2 ∧ RS 4 RLn H E1 vl w.book.lines ∧ RS 4 RBd H E2 vb w.bodies := by
 obtain ⟨E1, E2, _, vb, rfl, rfl, ⟨vl, rfl, hl⟩, hb2⟩ := h
 exact ⟨vl, vb, E1, E2, rfl, rfl, hl, hb2⟩
theorem rwd_five {H : Heap} {E1 E2 : List Nat} {w : Wd} {vl vb : Value} (hl : RS 4 RLn H E1 vl w.book.lines) (hb : RS 4 RBd H E2 vb w.bodies) : RWd H (E1 ++ E2) w [.bool w.ok, .bool w.book.ok, iv w.book.sec, vl, vb] := ⟨E1, E2, [.bool w.book.ok, iv w.book.sec, vl], vb, rfl, rfl, ⟨vl, rfl, hl⟩, hb⟩
/-- What is known of memory when Step has copied its world. -/
structure SpI (H : Heap) (X5 : Nat) (w : Wd) (a : Actn) (vl vb ul ub : Value) (H1 : Heap) (AL AB A5 : List Nat) : Prop where
 g : Gro H H1
 b2 : H1[H.length]? = some ⟨42, [.bool w.ok, .bool w.book.ok, iv w.book.sec, vl, vb], true, true⟩
 b3 : H1[H.length + 1]? = some ⟨59, [iv a.op, iv a.ev.op, iv a.ev.train, iv a.ev.n, iv a.train, iv a.n], true, true⟩
 b4 : H1[H.length + 2]? = some ⟨44, [iv 0, .bool false, .bool false, iv 0, nl, nl], true, true⟩
 b5 : H1[X5]? = some ⟨42, [.bool w.ok, .bool w.book.ok, iv w.book.sec, ul, ub], true, true⟩
 rl : RS 4 RLn H1 AL vl w.book.lines
 rb : RS 4 RBd H1 AB vb w.bodies
 o : Own H1 (AL ++ AB)
 r5 : RWd H1 A5 w [.bool w.ok, .bool w.book.ok, iv w.book.sec, ul, ub]
 o5 : Own H1 A5
 l : ∀ e, e ∈ AL ++ AB → X5 < e
 l5 : ∀ e, e ∈ A5 → H.length + 2 < e ∧ e < X5
 hx : H.length + 2 < X5
def B29 : SC := .seq (.reg [⟨some 2, .box 42 (.tmp 0), none, []⟩, ⟨some 3, .box 59 (.tmp 1), none, []⟩, ⟨some 4, .alloc 44, none, []⟩]) (.seq (.seq (.reg [⟨some 10, .load 42 (.tmp 2), none, []⟩, ⟨some 11, .call ⟨.value (.func 36), #[.tmp 10], #[42]⟩, none, []⟩, ⟨some 12, .unOp .not 4 (.tmp 11), none, []⟩, ⟨some 13, .move (.tmp 12), none, []⟩, ⟨some 14, .fieldAddr 59 (.tmp 3) 0, some (13, false), []⟩, ⟨some 15, .load 3 (.tmp 14), some (13, false), []⟩, ⟨some 16, .call ⟨.value (.func 23), #[.tmp 15, .const (.int .i64 1), .const (.int .i64 5)], #[3, 3, 3]⟩, some (13, false), []⟩, ⟨some 17, .unOp .not 4 (.tmp 16), some (13, false), []⟩, ⟨some 18, .pick (.tmp 13) (.const (.bool true)) (.tmp 17), none, []⟩, ⟨some 19, .move (.tmp 18), none, []⟩, ⟨some 20, .fieldAddr 59 (.tmp 3) 2, some (19, false), []⟩, ⟨some 21, .load 3 (.tmp 20), some (19, false), []⟩, ⟨some 22, .fieldAddr 42 (.tmp 2) 2, some (19, false), []⟩, ⟨some 23, .load 40 (.tmp 22), some (19, false), []⟩, ⟨some 24, .call ⟨.builtin .len, #[.tmp 23], #[40]⟩, some (19, false), []⟩, ⟨some 25, .binOp .sub 3 (.tmp 24) (.const (.int .i64 1)) 3, some (19, false), []⟩, ⟨some 26, .call ⟨.value (.func 23), #[.tmp 21, .const (.int .i64 0), .tmp 25], #[3, 3, 3]⟩, some (19, false), []⟩, ⟨some 27, .unOp .not 4 (.tmp 26), some (19, false), []⟩, ⟨some 28, .pick (.tmp 19) (.const (.bool true)) (.tmp 27), none, []⟩]) (.cond (.tmp 28) (.seq (.reg [⟨some 29, .build 44 #[(0, (.const (.int .i64 1)))], none, []⟩, ⟨none, .store 44 (.tmp 4) (.tmp 29), none, []⟩]) .ret) .skip)) (.seq (.reg [⟨some 30, .load 42 (.tmp 2), none, []⟩, ⟨some 31, .call ⟨.value (.func 30), #[.tmp 30], #[42]⟩, none, []⟩, ⟨some 5, .alloc 42, none, []⟩, ⟨none, .store 42 (.tmp 5) (.tmp 31), none, []⟩]) (.seq (.reg [⟨some 32, .load 42 (.tmp 2), none, []⟩, ⟨some 33, .call ⟨.value (.func 30), #[.tmp 32], #[42]⟩, none, []⟩, ⟨none, .store 42 (.tmp 2) (.tmp 33), none, []⟩]) (.seq (.reg [⟨some 34, .fieldAddr 42 (.tmp 2) 2, none, []⟩, ⟨some 35, .load 40 (.tmp 34), none, []⟩, ⟨some 36, .fieldAddr 59 (.tmp 3) 2, none, []⟩, ⟨some 37, .load 3 (.tmp 36), none, []⟩, ⟨some 38, .indexAddr 40 (.tmp 35) (.tmp 37), none, []⟩, ⟨some 6, .assign (.tmp 38), none, []⟩]) (.seq (.reg [⟨some 39, .makeFunc (.func 46) #[] #[(.tmp 2), (.tmp 5)], none, []⟩, ⟨some 7, .assign (.tmp 39), none, []⟩]) (.seq (.seq (.reg [⟨some 40, .fieldAddr 59 (.tmp 3) 0, none, []⟩, ⟨some 41, .load 3 (.tmp 40), none, []⟩]) (.block 0 (.seq (.reg [⟨some 43, .binOp .eql 3 (.tmp 41) (.const (.int .i64 1)) 3, none, []⟩, ⟨some 42, .assign (.tmp 43), none, []⟩]) (.cond (.tmp 42) (.seq (.seq (.reg [⟨some 44, .fieldAddr 59 (.tmp 3) 1, none, []⟩, ⟨some 45, .fieldAddr 57 (.tmp 44) 0, none, []⟩, ⟨some 46, .load 3 (.tmp 45), none, []⟩, ⟨some 47, .binOp .eql 3 (.tmp 46) (.const (.int .i64 3)) 3, none, []⟩, ⟨some 48, .move (.tmp 47), none, []⟩, ⟨some 49, .fieldAddr 59 (.tmp 3) 1, some (48, false), []⟩, ⟨some 50, .fieldAddr 57 (.tmp 49) 0, some (48, false), []⟩, ⟨some 51, .load 3 (.tmp 50), some (48, false), []⟩, ⟨some 52, .binOp .eql 3 (.tmp 51) (.const (.int .i64 4)) 3, some (48, false), []⟩, ⟨some 53, .pick (.tmp 48) (.const (.bool true)) (.tmp 52), none, []⟩]) (.cond (.tmp 53) (.seq (.reg [⟨some 54, .build 44 #[(0, (.const (.int .i64 1)))], none, []⟩, ⟨none, .store 44 (.tmp 4) (.tmp 54), none, []⟩]) .ret) .skip)) (.seq (.reg [⟨some 55, .move (.tmp 7), none, []⟩, ⟨some 56, .fieldAddr 59 (.tmp 3) 1, none, []⟩, ⟨some 57, .load 57 (.tmp 56), none, []⟩, ⟨some 58, .call ⟨.value (.tmp 55), #[.tmp 57], #[57]⟩, none, []⟩, ⟨none, .store 44 (.tmp 4) (.tmp 58), none, []⟩]) .ret)) (.seq (.reg [⟨some 60, .binOp .eql 3 (.tmp 41) (.const (.int .i64 2)) 3, none, []⟩, ⟨some 59, .assign (.tmp 60), none, []⟩]) (.cond (.tmp 59) (.seq (.reg [⟨some 61, .fieldAddr 42 (.tmp 2) 1, none, []⟩, ⟨some 62, .fieldAddr 39 (.tmp 61) 2, none, []⟩, ⟨some 63, .load 37 (.tmp 62), none, []⟩, ⟨some 64, .fieldAddr 59 (.tmp 3) 2, none, []⟩, ⟨some 65, .load 3 (.tmp 64), none, []⟩, ⟨some 66, .indexAddr 37 (.tmp 63) (.tmp 65), none, []⟩, ⟨some 67, .fieldAddr 50 (.tmp 66) 2, none, []⟩, ⟨some 68, .load 48 (.tmp 67), none, []⟩, ⟨some 8, .assign (.tmp 68), none, []⟩]) (.seq (.reg [⟨some 69, .move (.tmp 8), none, []⟩, ⟨some 70, .makeFunc (.func 49) #[] #[(.tmp 3)], none, []⟩, ⟨some 71, .call ⟨.value (.func 48), #[.tmp 69, .tmp 70], #[48, 103]⟩, none, []⟩, ⟨some 9, .assign (.tmp 71), none, []⟩]) (.seq (.block 1 (.seq (.drw 0 [⟨some 73, .move (.tmp 9), none, []⟩, ⟨some 74, .binOp .lss 3 (.tmp 73) (.const (.int .i64 0)) 3, none, [0]⟩, ⟨some 75, .move (.tmp 74), none, [1, 0]⟩, ⟨some 76, .fieldAddr 59 (.tmp 3) 3, some (75, false), [2, 1, 0]⟩, ⟨some 77, .load 3 (.tmp 76), some (75, false), [3, 2, 1, 0]⟩, ⟨some 78, .move (.tmp 6), some (75, false), [2, 1, 0]⟩, ⟨some 79, .nilCheck (.tmp 78), some (75, false), [5, 2, 1, 0]⟩, ⟨some 80, .fieldAddr 47 (.tmp 79) 0, some (75, false), [6, 5, 2, 1, 0]⟩, ⟨some 81, .load 3 (.tmp 80), some (75, false), [7, 6, 5, 2, 1, 0]⟩, ⟨some 82, .binOp .leq 3 (.tmp 77) (.tmp 81) 3, some (75, false), [4, 3, 2, 1, 0, 8, 7, 6, 5]⟩, ⟨some 83, .pick (.tmp 75) (.const (.bool true)) (.tmp 82), none, [2, 1, 0, 9, 4, 3, 8, 7, 6, 5]⟩, ⟨some 72, .assign (.tmp 83), none, [10, 2, 1, 0, 9, 4, 3, 8, 7, 6, 5]⟩]) (.cond (.tmp 72) (.seq (.reg [⟨some 84, .load 42 (.tmp 5), none, []⟩, ⟨some 85, .build 44 #[(0, (.const (.int .i64 2))), (1, (.tmp 84))], none, []⟩, ⟨none, .store 44 (.tmp 4) (.tmp 85), none, []⟩]) .ret) (.seq (.drw 0 [⟨some 87, .move (.tmp 8), none, []⟩, ⟨some 88, .move (.tmp 9), none, []⟩, ⟨some 89, .indexAddr 48 (.tmp 87) (.tmp 88), none, [0, 1]⟩, ⟨some 90, .fieldAddr 88 (.tmp 89) 1, none, [2, 0, 1]⟩, ⟨some 91, .load 3 (.tmp 90), none, [3, 2, 0, 1]⟩, ⟨some 92, .move (.tmp 6), none, []⟩, ⟨some 93, .nilCheck (.tmp 92), none, [5]⟩, ⟨some 94, .fieldAddr 47 (.tmp 93) 3, none, [6, 5]⟩, ⟨some 95, .load 3 (.tmp 94), none, [7, 6, 5]⟩, ⟨some 96, .binOp .leq 3 (.tmp 91) (.tmp 95) 3, none, [4, 3, 2, 0, 1, 8, 7, 6, 5]⟩, ⟨some 86, .assign (.tmp 96), none, [9, 4, 3, 2, 0, 1, 8, 7, 6, 5]⟩]) (.cond (.tmp 86) (.seq (.reg [⟨some 97, .load 42 (.tmp 5), none, []⟩, ⟨some 98, .build 44 #[(0, (.const (.int .i64 3))), (1, (.tmp 97))], none, []⟩, ⟨none, .store 44 (.tmp 4) (.tmp 98), none, []⟩]) .ret) .skip))))) (.drw 0 [⟨some 99, .move (.tmp 6), none, []⟩, ⟨some 100, .move (.tmp 6), none, []⟩, ⟨some 101, .fieldAddr 59 (.tmp 3) 3, none, []⟩, ⟨some 102, .load 3 (.tmp 101), none, [2]⟩, ⟨some 103, .move (.tmp 8), none, []⟩, ⟨some 104, .move (.tmp 9), none, []⟩, ⟨some 105, .indexAddr 48 (.tmp 103) (.tmp 104), none, [4, 5]⟩, ⟨some 106, .fieldAddr 88 (.tmp 105) 1, none, [6, 4, 5]⟩, ⟨some 107, .load 3 (.tmp 106), none, [7, 6, 4, 5]⟩, ⟨some 108, .nilCheck (.tmp 99), none, [0, 2, 3, 8, 7, 6, 4, 5]⟩, ⟨some 109, .fieldAddr 47 (.tmp 108) 0, none, [9, 0, 2, 3, 8, 7, 6, 4, 5]⟩, ⟨none, .store 3 (.tmp 109) (.tmp 102), none, [10, 9, 0, 2, 3, 8, 7, 6, 4, 5]⟩, ⟨some 110, .nilCheck (.tmp 100), none, [1, 0, 2, 3, 4, 5, 6, 7, 8, 9, 10, 11]⟩, ⟨some 111, .fieldAddr 47 (.tmp 110) 1, none, [12, 1, 0, 2, 3, 4, 5, 6, 7, 8, 9, 10, 11]⟩, ⟨none, .store 3 (.tmp 111) (.tmp 107), none, [13, 12, 1, 0, 2, 3, 4, 5, 6, 7, 8, 9, 10, 11]⟩])))) (.seq (.reg [⟨some 113, .binOp .eql 3 (.tmp 41) (.const (.int .i64 3)) 3, none, []⟩, ⟨some 112, .assign (.tmp 113), none, []⟩]) (.cond (.tmp 112) (.seq (.drw 0 [⟨some 114, .move (.tmp 7), none, []⟩, ⟨some 115, .fieldAddr 59 (.tmp 3) 2, none, []⟩, ⟨some 116, .load 3 (.tmp 115), none, [1]⟩, ⟨some 117, .move (.tmp 6), none, []⟩, ⟨some 118, .nilCheck (.tmp 117), none, [3]⟩, ⟨some 119, .fieldAddr 47 (.tmp 118) 0, none, [4, 3]⟩, ⟨some 120, .load 3 (.tmp 119), none, [5, 4, 3]⟩, ⟨some 121, .build 57 #[(0, (.const (.int .i64 3))), (1, (.tmp 116)), (2, (.tmp 120))], none, [2, 1, 6, 5, 4, 3]⟩, ⟨some 122, .call ⟨.value (.tmp 114), #[.tmp 121], #[57]⟩, none, [0, 7, 2, 1, 6, 5, 4, 3]⟩, ⟨none, .store 44 (.tmp 4) (.tmp 122), none, [8, 0, 7, 2, 1, 6, 5, 4, 3]⟩]) .ret) (.seq (.reg [⟨some 124, .binOp .eql 3 (.tmp 41) (.const (.int .i64 4)) 3, none, []⟩, ⟨some 123, .assign (.tmp 124), none, []⟩]) (.cond (.tmp 123) (.seq (.seq (.drw 0 [⟨some 125, .move (.tmp 6), none, []⟩, ⟨some 126, .nilCheck (.tmp 125), none, [0]⟩, ⟨some 127, .fieldAddr 47 (.tmp 126) 3, none, [1, 0]⟩, ⟨some 128, .load 3 (.tmp 127), none, [2, 1, 0]⟩, ⟨some 129, .binOp .add 3 (.tmp 128) (.const (.int .i64 1)) 3, none, [3, 2, 1, 0]⟩, ⟨some 130, .move (.tmp 6), none, []⟩, ⟨some 131, .nilCheck (.tmp 130), none, [5]⟩, ⟨some 132, .fieldAddr 47 (.tmp 131) 1, none, [6, 5]⟩, ⟨some 133, .load 3 (.tmp 132), none, [7, 6, 5]⟩, ⟨some 134, .binOp .geq 3 (.tmp 129) (.tmp 133) 3, none, [4, 3, 2, 1, 0, 8, 7, 6, 5]⟩]) (.cond (.tmp 134) (.seq (.reg [⟨some 135, .load 42 (.tmp 5), none, []⟩, ⟨some 136, .build 44 #[(0, (.const (.int .i64 3))), (1, (.tmp 135))], none, []⟩, ⟨none, .store 44 (.tmp 4) (.tmp 136), none, []⟩]) .ret) .skip)) (.reg [⟨some 137, .move (.tmp 6), none, []⟩, ⟨some 138, .nilCheck (.tmp 137), none, []⟩, ⟨some 139, .fieldAddr 47 (.tmp 138) 3, none, []⟩, ⟨some 140, .load 3 (.tmp 139), none, []⟩, ⟨some 141, .binOp .add 3 (.tmp 140) (.const (.int .i64 1)) 3, none, []⟩, ⟨some 142, .nilCheck (.tmp 137), none, []⟩, ⟨some 143, .fieldAddr 47 (.tmp 142) 3, none, []⟩, ⟨none, .store 3 (.tmp 143) (.tmp 141), none, []⟩])) (.seq (.reg [⟨some 145, .binOp .eql 3 (.tmp 41) (.const (.int .i64 5)) 3, none, []⟩, ⟨some 144, .assign (.tmp 145), none, []⟩]) (.cond (.tmp 144) (.seq (.seq (.drw 0 [⟨some 146, .move (.tmp 6), none, []⟩, ⟨some 147, .nilCheck (.tmp 146), none, [0]⟩, ⟨some 148, .fieldAddr 47 (.tmp 147) 2, none, [1, 0]⟩, ⟨some 149, .load 3 (.tmp 148), none, [2, 1, 0]⟩, ⟨some 150, .move (.tmp 6), none, []⟩, ⟨some 151, .nilCheck (.tmp 150), none, [4]⟩, ⟨some 152, .fieldAddr 47 (.tmp 151) 3, none, [5, 4]⟩, ⟨some 153, .load 3 (.tmp 152), none, [6, 5, 4]⟩, ⟨some 154, .binOp .eql 3 (.tmp 149) (.tmp 153) 3, none, [3, 2, 1, 0, 7, 6, 5, 4]⟩]) (.cond (.tmp 154) (.seq (.reg [⟨some 155, .load 42 (.tmp 5), none, []⟩, ⟨some 156, .build 44 #[(0, (.const (.int .i64 3))), (1, (.tmp 155))], none, []⟩, ⟨none, .store 44 (.tmp 4) (.tmp 156), none, []⟩]) .ret) .skip)) (.seq (.reg [⟨some 157, .move (.tmp 6), none, []⟩, ⟨some 158, .nilCheck (.tmp 157), none, []⟩, ⟨some 159, .fieldAddr 47 (.tmp 158) 2, none, []⟩, ⟨some 160, .load 3 (.tmp 159), none, []⟩, ⟨some 161, .binOp .add 3 (.tmp 160) (.const (.int .i64 1)) 3, none, []⟩, ⟨some 162, .nilCheck (.tmp 157), none, []⟩, ⟨some 163, .fieldAddr 47 (.tmp 162) 2, none, []⟩, ⟨none, .store 3 (.tmp 163) (.tmp 161), none, []⟩]) (.seq (.drw 0 [⟨some 164, .move (.tmp 7), none, []⟩, ⟨some 165, .fieldAddr 59 (.tmp 3) 2, none, []⟩, ⟨some 166, .load 3 (.tmp 165), none, [1]⟩, ⟨some 167, .move (.tmp 6), none, []⟩, ⟨some 168, .nilCheck (.tmp 167), none, [3]⟩, ⟨some 169, .fieldAddr 47 (.tmp 168) 2, none, [4, 3]⟩, ⟨some 170, .load 3 (.tmp 169), none, [5, 4, 3]⟩, ⟨some 171, .build 57 #[(0, (.const (.int .i64 4))), (1, (.tmp 166)), (2, (.tmp 170))], none, [2, 1, 6, 5, 4, 3]⟩, ⟨some 172, .call ⟨.value (.tmp 164), #[.tmp 171], #[57]⟩, none, [0, 7, 2, 1, 6, 5, 4, 3]⟩, ⟨none, .store 44 (.tmp 4) (.tmp 172), none, [8, 0, 7, 2, 1, 6, 5, 4, 3]⟩]) .ret))) .skip)))))))))))) (.seq (.reg [⟨some 173, .load 42 (.tmp 2), none, []⟩, ⟨some 174, .build 44 #[(0, (.const (.int .i64 0))), (1, (.tmp 173))], none, []⟩, ⟨none, .store 44 (.tmp 4) (.tmp 174), none, []⟩]) .ret)))))))
theorem s29 : Tryd.f29.body.bind (stripC 175) = some B29 := by kernel_rfl
theorem implStep_mk {H : Heap} {E : List Nat} {w : Wd} {cs : List Value} (h : RWd H E w cs) (a : Actn) : Mkr Tryd.prog 29 [.agg cs.toArray, vAc a] H fun H' E' v' => ∃ cs', v' = .agg cs'.toArray ∧ RMv H' E' (stepWd w a) cs' := by
 have h0 := h
 obtain ⟨vl, vb, E1, E2, rfl, rfl, hl, hb⟩ := RWd.five h
 have x := hl.one
 have y := hb.one
 have ac := fun L : Heap => right_ac (H := H ++ L) (RWd.frm.ext h0)
 obtain ⟨aB, cB, hvb⟩ := hb.form
 subst hvb
 have hn2 := hb.1
 have hwl : IntKind.i64.wrap ((w.bodies.length : Int) - 1) = (w.bodies.length : Int) - 1 := wrap_id (by omega) (by omega)
 have bad : actOk w a = false → stepWd w a = ⟨1, wd0⟩ := fun hh => by unfold stepWd; rw [hh]; simp
 have fin0 : ∀ (F : Heap), Gro H F → stepWd w a = ⟨1, wd0⟩ → (∀ i, i < H.length → F[i]? = H[i]?) ∧ ∃ E', RMv F E' (stepWd w a) [iv 1, .bool false, .bool false, iv 0, nl, nl] ∧ Own F E' ∧ ∀ e, e ∈ E' → H.length ≤ e := fun F hF he =>
  ⟨fun i hi => hF.same hi, [], by rw [he]; exact ⟨_, rfl, rdWd0 F⟩, ⟨List.nodup_nil, fun i hi => by simp at hi⟩, fun i hi => by simp at hi⟩
 refine Mkr.of_bodyS (N := 175) Tryd.func29 s29 (by kernel_rfl) rfl rfl (by simp) ?_; unfold B29
 cases hr : rightB w
 ·have hs := bad (by simp [actOk, hr])
  rw [hr] at ac
  repeat (first | refine sA ?_ | refine sB ?_ | refine sC ?_ | refine sD ?_ | refine sE rfl ?_ | refine sF rfl ?_ | refine sG rfl ?_ | ((first | refine sk_reg fun K hK => ?_ | refine sk_drw mix fun K hK => ?_); simp [x]; (repeat ((first | refine AskX.go (ac _) ?_ | refine AskD.go (ac _) ?_); simp [x])); refine hK _ ?_; clear hK K))
  refine sk_ret ?_; simp
  exact fin0 _ (Gro.one _ _) hs
 rw [hr] at ac
 cases ho : inB a.op 1 5
 ·have hs := bad (by simp [actOk, ho])
  repeat (first | refine sA ?_ | refine sB ?_ | refine sC ?_ | refine sD ?_ | refine sE rfl ?_ | refine sF rfl ?_ | refine sG rfl ?_ | ((first | refine sk_reg fun K hK => ?_ | refine sk_drw mix fun K hK => ?_); simp [x, ho]; (repeat ((first | refine AskX.go (ac _) ?_ | refine AskD.go (ac _) ?_ | refine AskX.go (in_ac _ _ _) ?_ | refine AskD.go (in_ac _ _ _) ?_); simp [x, ho])); refine hK _ ?_; clear hK K))
  refine sk_ret ?_; simp
  exact fin0 _ (Gro.one _ _) hs
 cases htr : inB a.train 0 ((w.bodies.length : Int) - 1)
 ·have hs := bad (by simp [actOk, htr])
  repeat (first | refine sA ?_ | refine sB ?_ | refine sC ?_ | refine sD ?_ | refine sE rfl ?_ | refine sF rfl ?_ | refine sG rfl ?_ | ((first | refine sk_reg fun K hK => ?_ | refine sk_drw mix fun K hK => ?_); simp [x, ho, htr, hwl]; (repeat ((first | refine AskX.go (ac _) ?_ | refine AskD.go (ac _) ?_ | refine AskX.go (in_ac _ _ _) ?_ | refine AskD.go (in_ac _ _ _) ?_); simp [x, ho, htr, hwl])); refine hK _ ?_; clear hK K))
  refine sk_ret ?_; simp
  exact fin0 _ (Gro.one _ _) hs
 have hact : actOk w a = true := by simp [actOk, hr, ho, htr]
 have hsv : stepWd w a = stepV w a := by unfold stepWd; rw [if_pos hact]
 have hlen := W2len hr
 have ho2 := ho
 simp only [inB, Bool.and_eq_true, decide_eq_true_eq] at ho2 htr
 obtain ⟨k, hk⟩ : ∃ k : Nat, a.train = k := ⟨a.train.toNat, by omega⟩
 have hkl : k < w.bodies.length := by omega
 have htr' : inB a.train 0 ((w.bodies.length : Int) - 1) = true := by simp [inB]; omega
 obtain ⟨hll, hbk0, hlo, hbo⟩ := right_at hr hkl
 repeat (first | refine sA ?_ | refine sB ?_ | refine sC ?_ | refine sD ?_ | refine sE rfl ?_ | refine sF rfl ?_ | refine sG rfl ?_ | ((first | refine sk_reg fun K hK => ?_ | refine sk_drw mix fun K hK => ?_); simp [x, ho, htr', hwl]; (repeat ((first | refine AskX.go (ac _) ?_ | refine AskD.go (ac _) ?_ | refine AskX.go (in_ac _ _ _) ?_ | refine AskD.go (in_ac _ _ _) ?_); simp [x, ho, htr', hwl])); refine hK _ ?_; clear hK K))
 refine sk_reg fun K hK => ?_; simp [x]
 refine AskX.mkr (again_mk (RWd.frm.gro h0 (by first | exact Gro.refl _ | exact ⟨_, rfl⟩ | exact ⟨_, by simp only [List.append_assoc, List.cons_append, List.nil_append]; rfl⟩ | exact ⟨[], by simp⟩)) hlen) ?_; rintro _ J1 A1 ⟨cs1, rfl, r1⟩ o1 n1; simp [x]
 obtain ⟨ul, ub, F1, F2, rfl, rfl, hul, hub⟩ := RWd.five r1
 simp [hul.one, hub.one, hul.cv, hub.cv]
 refine hK _ ?_; clear hK K
 repeat (first | refine sA ?_ | refine sB ?_ | refine sC ?_ | refine sD ?_ | refine sE rfl ?_ | refine sF rfl ?_ | refine sG rfl ?_ | ((first | refine sk_reg fun K hK => ?_ | refine sk_drw mix fun K hK => ?_); simp [x]; refine hK _ ?_; clear hK K))
 refine sk_reg fun K hK => ?_; simp [x]
 refine AskX.mkr (again_mk (RWd.frm.gro h0 (by first | exact Gro.refl _ | exact ⟨_, rfl⟩ | exact ⟨_, by simp only [List.append_assoc, List.cons_append, List.nil_append]; rfl⟩ | exact ⟨[], by simp⟩)) hlen) ?_; rintro _ J2 A2 ⟨cs2, rfl, r2⟩ o2 n2; simp [x]
 obtain ⟨tl, tb, G1, G2, rfl, rfl, htl, htb⟩ := RWd.five r2
 simp [htl.one, htb.one, htl.cv, htb.cv]
 refine hK _ ?_; clear hK K
 simp only [List.append_assoc, List.cons_append, List.nil_append, List.length_append, List.length_cons, List.length_nil] at hul hub o1 n1 htl htb o2 n2
 have l1 := o1.lt
 have l2 := o2.lt
 obtain ⟨X5, hX5⟩ : ∃ X, X = H.length + (J1.length + 3) := ⟨_, rfl⟩
 have xul := hul.one
 have xub := hub.one
 have xtl := htl.one
 have xtb := htb.one
 refine sk_at [(2, pt H.length 0), (3, pt (H.length + 1) 0), (4, pt (H.length + 2) 0), (5, pt X5 0)] (fun H1 => SpI H X5 w a tl tb ul ub H1 G1 G2 (F1 ++ F2)) (by simp [subL, getT, hX5]) ?_ ?_
 ·have kf : ∀ e, e ∈ F1 ++ F2 → H.length + 3 ≤ e ∧ e < X5 := fun e he => by
   have h1 := n1 e he
   have h2 := l1 e he
   simp only [List.length_append, List.length_cons] at h2
   omega
  have kg : ∀ e, e ∈ G1 ++ G2 → X5 < e := fun e he => by have := n2 e he; omega
  have sF : ∀ e, e ∈ F1 ++ F2 → ∀ (q1 q2 q3 q4 : Blk) (q5 q6 : Heap), (H ++ q1 :: q2 :: q3 :: (J1 ++ q5))[e]? = J1[e - (H.length + 3)]? := fun e he q1 q2 q3 q4 q5 q6 => by
   have := kf e he
   rw [get_t3 _ _ _ _ _ (by omega), List.getElem?_append_left (by omega)]
  have sF0 : ∀ e, e ∈ F1 ++ F2 → ∀ (q1 q2 q3 : Blk), (H ++ q1 :: q2 :: q3 :: J1)[e]? = J1[e - (H.length + 3)]? := fun e he q1 q2 q3 => by
   have := kf e he
   rw [get_t3 _ _ _ _ _ (by omega)]
  have sG : ∀ e, e ∈ G1 ++ G2 → ∀ (q1 q2 q3 q4 : Blk), (H ++ q1 :: q2 :: q3 :: (J1 ++ q4 :: J2))[e]? = (J1 ++ ⟨42, [.bool w.ok, .bool w.book.ok, iv w.book.sec, ul, ub], true, true⟩ :: J2)[e - (H.length + 3)]? := fun e he q1 q2 q3 q4 => by
   have := kg e he
   rw [get_t3 _ _ _ _ _ (by omega), List.getElem?_append_right (by omega), List.getElem?_append_right (by omega)]
   rw [show e - (H.length + 3) - J1.length = (e - (H.length + 3) - J1.length - 1) + 1 by omega]
   rfl
  refine { g := Gro.one _ _, b2 := by simp, b3 := by simp, b4 := by simp, b5 := ?_, rl := htl.fr RLn.frm fun e he _ => ?_, rb := htb.fr (RP.frm _) fun e he _ => ?_, o := o2.fr fun e he => ?_, r5 := RWd.frm.fr (rwd_five hul hub) fun e he _ => ?_, o5 := o1.fr fun e he => ?_, l := kg, l5 := fun e he => ⟨by have := (kf e he).1; omega, (kf e he).2⟩, hx := by omega }
  ·rw [hX5, List.getElem?_append_right (by omega), Nat.add_sub_cancel_left]
   simp
  ·rw [sG e (List.mem_append_left _ he), sG e (List.mem_append_left _ he)]
  ·rw [sG e (List.mem_append_right _ he), sG e (List.mem_append_right _ he)]
  ·rw [sG e he, sG e he]
  ·rw [sF e he _ _ _ ⟨0, [], true, true⟩ _ [], sF0 e he]
  ·rw [sF e he _ _ _ ⟨0, [], true, true⟩ _ [], sF0 e he]
 clear hul hub htl htb o1 n1 o2 n2 l1 l2
 rintro H1 ⟨hg, b2, b3, b4, b5, rl, rb, o, r5, o5, l, l5, hx⟩
 have hl1 := hg.len
 have w0 : CF H1 H.length 0 (.bool w.ok) := CF.of b2 rfl rfl
 have w1 : CF H1 H.length 1 (.bool w.book.ok) := CF.of b2 rfl rfl
 have w2 : CF H1 H.length 2 (iv w.book.sec) := CF.of b2 rfl rfl
 have w3 : CF H1 H.length 3 tl := CF.of b2 rfl rfl
 have w4 : CF H1 H.length 4 tb := CF.of b2 rfl rfl
 have a0 : CF H1 (H.length + 1) 0 (iv a.op) := CF.of b3 rfl rfl
 have a1 : CF H1 (H.length + 1) 1 (iv a.ev.op) := CF.of b3 rfl rfl
 have a2 : CF H1 (H.length + 1) 2 (iv a.ev.train) := CF.of b3 rfl rfl
 have a3 : CF H1 (H.length + 1) 3 (iv a.ev.n) := CF.of b3 rfl rfl
 have a4 : CF H1 (H.length + 1) 4 (iv k) := by rw [← hk]; exact CF.of b3 rfl rfl
 have a5 : CF H1 (H.length + 1) 5 (iv a.n) := CF.of b3 rfl rfl
 have z0 : CF H1 (H.length + 2) 0 (iv 0) := CF.of b4 rfl rfl
 have z1 : CF H1 (H.length + 2) 1 (.bool false) := CF.of b4 rfl rfl
 have z2 : CF H1 (H.length + 2) 2 (.bool false) := CF.of b4 rfl rfl
 have z3 : CF H1 (H.length + 2) 3 (iv 0) := CF.of b4 rfl rfl
 have z4 : CF H1 (H.length + 2) 4 nl := CF.of b4 rfl rfl
 have z5 : CF H1 (H.length + 2) 5 nl := CF.of b4 rfl rfl
 have zr := RF.of b4
 have y0 : CF H1 X5 0 (.bool w.ok) := CF.of b5 rfl rfl
 have y1 : CF H1 X5 1 (.bool w.book.ok) := CF.of b5 rfl rfl
 have y2 : CF H1 X5 2 (iv w.book.sec) := CF.of b5 rfl rfl
 have y3 : CF H1 X5 3 ul := CF.of b5 rfl rfl
 have y4 : CF H1 X5 4 ub := CF.of b5 rfl rfl
 have oal := o.left
 have oab := o.right
 have bdl := oal.lt
 have bdb := oab.lt
 have bd5 := o5.lt
 obtain ⟨ib, ob, Eb, cb, htb, hib, _, _, _, ⟨rfl, rfl⟩, _, hcb, hclb⟩ := rb.opn (RP.frm cBd) oab.1 hkl
 subst htb
 have hib2 := l ib (List.mem_append_right _ hib)
 have hln : lnAt w.book a.train = w.book.lines[k] := by simp [lnAt, hk, hll]
 have hbd : bdAt w a.train = w.bodies[k] := by simp [bdAt, bAt, hk, hkl]
 have v0 : CF H1 ib (ob + k * 4) (iv w.bodies[k].ver) := CF.cell (by have := hcb 0 _ rfl; simpa using this)
 have v1 : CF H1 ib (ob + k * 4 + 1) (iv w.bodies[k].cel) := CF.cell (hcb 1 _ rfl)
 have v2 : CF H1 ib (ob + k * 4 + 2) (iv w.bodies[k].tail) := CF.cell (hcb 2 _ rfl)
 have v3 : CF H1 ib (ob + k * 4 + 3) (iv w.bodies[k].front) := CF.cell (hcb 3 _ rfl)
 have vr := RF.ok (oab.2 ib hib)
 -- the copy ahead of the act, as an answer
 have finW : ∀ (F : Heap) (c : Int), H1.length ≤ F.length → (∀ j, j < H1.length → j ≠ H.length + 2 → j ≠ H.length → F[j]? = H1[j]?) → stepWd w a = ⟨c, w⟩ → H.length ≤ F.length ∧ (∀ i, i < H.length → F[i]? = H[i]?) ∧ ∃ E', RMv F E' (stepWd w a) [iv c, .bool w.ok, .bool w.book.ok, iv w.book.sec, ul, ub] ∧ Own F E' ∧ ∀ e, e ∈ E' → H.length ≤ e := fun F c hF1 hF he => by
  have h5 : ∀ e, e ∈ F1 ++ F2 → F[e]? = H1[e]? := fun e he => hF e (bd5 e he) (by have := (l5 e he).1; omega) (by have := (l5 e he).1; omega)
  refine ⟨by omega, fun i hi => (hF i (by omega) (by omega) (by omega)).trans (hg.same hi), F1 ++ F2, by rw [he]; exact ⟨_, rfl, RWd.frm.fr r5 fun e he _ => h5 e he⟩, o5.fr h5, fun e he => by have := (l5 e he).1; omega⟩
 -- the book behind an event, as an answer
 have finB : ∀ (Hc H' F : Heap) (bods : List Bd) (b' : Bk) (w' : Value) (A' : List Nat), Hc.length = H1.length → (∀ j, j < H1.length → j ≠ ib → Hc[j]? = H1[j]?) → RS 4 RBd Hc G2 (sl ib ob w.bodies.length) bods → Own Hc G2 → Hc.length ≤ H'.length → (∀ i, i < Hc.length → i ≠ H.length → H'[i]? = Hc[i]?) → RS 4 RLn H' A' w' b'.lines → Own H' A' → (∀ e, e ∈ A' → Hc.length ≤ e) →
   (∀ j, j ≠ H.length + 2 → F[j]? = H'[j]?) → H.length ≤ F.length → stepWd w a = ⟨0, { w with book := b', bodies := bods }⟩ → H.length ≤ F.length ∧ (∀ i, i < H.length → F[i]? = H[i]?) ∧ ∃ E', RMv F E' (stepWd w a) [iv 0, .bool w.ok, .bool b'.ok, iv b'.sec, w', sl ib ob w.bodies.length] ∧ Own F E' ∧ ∀ e, e ∈ E' → H.length ≤ e := by
  intro Hc H' F bods b' w' A' hc1 hc2 hc3 hc4 hc5 hc6 hc7 hc8 hc9 hF1 hF2 he
  have hb : ∀ e, e ∈ G2 → F[e]? = Hc[e]? ∧ X5 < e := fun e he => by
   have h1 := l e (List.mem_append_right _ he)
   have h2 := bdb e he
   exact ⟨(hF1 e (by omega)).trans (hc6 e (by omega) (by omega)), h1⟩
  have hn4 : ∀ e, e ∈ A' → F[e]? = H'[e]? := fun e he => hF1 e (by have := hc9 e he; have := lt_of_get b4; omega)
  refine ⟨hF2, fun i hi => ((hF1 i (by omega)).trans (hc6 i (by omega) (by omega))).trans ((hc2 i (by omega) (by omega)).trans (hg.same hi)), A' ++ G2, ?_, (hc8.fr hn4).app (hc4.fr fun e he => (hb e he).1) fun e h1 h2 => ?_, fun e he => ?_⟩
  ·rw [he]
   exact ⟨_, rfl, rwd_five (w := { w with book := b', bodies := bods }) (hc7.fr RLn.frm fun e he _ => hn4 e he) (hc3.fr (RP.frm _) fun e he _ => (hb e he).1)⟩
  ·have := hc9 e h1; have := bdb e h2; omega
  ·rcases List.mem_append.1 he with h1 | h1
   ·have := hc9 e h1; omega
   ·have := (hb e h1).2; omega
 repeat (first | refine sA ?_ | refine sB ?_ | refine sC ?_ | refine sD ?_ | refine sE rfl ?_ | refine sF rfl ?_ | refine sG rfl ?_ | ((first | refine sk_reg fun K hK => ?_ | refine sk_drw mix fun K hK => ?_); simp [a0.s, a4.s, w4.s, hkl]; refine hK _ ?_; clear hK K))
 by_cases p1 : a.op = 1
 ·rw [decide_eq_true p1]
  by_cases p2 : a.ev.op = 3 ∨ a.ev.op = 4
  ·have hs : stepWd w a = ⟨1, wd0⟩ := by rw [hsv]; unfold stepV; simp only; rw [if_pos p1, if_pos p2]
   have hF : ∀ j, j ≠ H.length + 2 → ((((((H1.put (H.length + 2) 0 (iv 1)).put (H.length + 2) 1 (.bool false)).put (H.length + 2) 2 (.bool false)).put (H.length + 2) 3 (iv 0)).put (H.length + 2) 4 nl).put (H.length + 2) 5 nl)[j]? = H1[j]? := fun j hj => by
    rw [get_put_ne _ _ _ hj, get_put_ne _ _ _ hj, get_put_ne _ _ _ hj, get_put_ne _ _ _ hj, get_put_ne _ _ _ hj, get_put_ne _ _ _ hj]
   have hlF : List.length ((((((H1.put (H.length + 2) 0 (iv 1)).put (H.length + 2) 1 (.bool false)).put (H.length + 2) 2 (.bool false)).put (H.length + 2) 3 (iv 0)).put (H.length + 2) 4 nl).put (H.length + 2) 5 nl) = H1.length := by simp only [length_put]
   rcases p2 with p2 | p2
   ·repeat (first | refine sA ?_ | refine sB ?_ | refine sC ?_ | refine sD ?_ | refine sE rfl ?_ | refine sF rfl ?_ | refine sG rfl ?_ | ((first | refine sk_reg fun K hK => ?_ | refine sk_drw mix fun K hK => ?_); simp [p2, a1.s, z0.s, z1.s, z2.s, z3.s, z4.s, z5.s, zr.s]; refine hK _ ?_; clear hK K))
    refine sk_ret ?_; simp [z0.s, z1.s, z2.s, z3.s, z4.s, z5.s, zr.s]
    exact ⟨Nat.le_trans hl1 (Nat.le_of_eq hlF.symm), fin0 _ (Gro.of (Nat.le_trans hl1 (Nat.le_of_eq hlF.symm)) fun j hj => (hF j (by omega)).trans (hg.same hj)) hs⟩
   ·repeat (first | refine sA ?_ | refine sB ?_ | refine sC ?_ | refine sD ?_ | refine sE rfl ?_ | refine sF rfl ?_ | refine sG rfl ?_ | ((first | refine sk_reg fun K hK => ?_ | refine sk_drw mix fun K hK => ?_); simp [p2, a1.s, z0.s, z1.s, z2.s, z3.s, z4.s, z5.s, zr.s]; refine hK _ ?_; clear hK K))
    refine sk_ret ?_; simp [z0.s, z1.s, z2.s, z3.s, z4.s, z5.s, zr.s]
    exact ⟨Nat.le_trans hl1 (Nat.le_of_eq hlF.symm), fin0 _ (Gro.of (Nat.le_trans hl1 (Nat.le_of_eq hlF.symm)) fun j hj => (hF j (by omega)).trans (hg.same hj)) hs⟩
  have p3 : ¬ a.ev.op = 3 := fun hh => p2 (.inl hh)
  have p4 : ¬ a.ev.op = 4 := fun hh => p2 (.inr hh)
  obtain ⟨v', H', ac2, hB⟩ := stepBook_bd b2 b5 (by omega) (show RBk H1 G1 w.book [.bool w.book.ok, iv w.book.sec, tl] from ⟨tl, rfl, rl⟩) (fun e he => by have := l e (List.mem_append_left _ he); omega) xtl rfl xul xub a.ev
  have hev : vEv a.ev = .agg #[iv a.ev.op, iv a.ev.train, iv a.ev.n] := rfl
  rw [hev] at ac2
  have hwr : wrL H.length [] [H.length] := fun d hd => .inl (by simp at hd; omega)
  have hb4 : H'[H.length + 2]? = _ := (hB.out _ (lt_of_get b4) (by omega)).trans b4
  have z0' : CF H' (H.length + 2) 0 (iv 0) := CF.of hb4 rfl rfl
  have z1' : CF H' (H.length + 2) 1 (.bool false) := CF.of hb4 rfl rfl
  have z2' : CF H' (H.length + 2) 2 (.bool false) := CF.of hb4 rfl rfl
  have z3' : CF H' (H.length + 2) 3 (iv 0) := CF.of hb4 rfl rfl
  have z4' : CF H' (H.length + 2) 4 nl := CF.of hb4 rfl rfl
  have z5' : CF H' (H.length + 2) 5 nl := CF.of hb4 rfl rfl
  have zr' := RF.of hb4
  have hs : stepWd w a = bookW w a.ev := by rw [hsv]; unfold stepV; simp only; rw [if_pos p1, if_neg p2]
  have hlB := hB.len
  by_cases c1 : (doB w.book a.ev).code = 1
  ·have hv := hB.one c1
   subst hv
   have hs2 : stepWd w a = ⟨1, wd0⟩ := by rw [hs]; unfold bookW; rw [if_pos c1]
   have hF : ∀ j, j ≠ H.length + 2 → ((((((H'.put (H.length + 2) 0 (iv 1)).put (H.length + 2) 1 (.bool false)).put (H.length + 2) 2 (.bool false)).put (H.length + 2) 3 (iv 0)).put (H.length + 2) 4 nl).put (H.length + 2) 5 nl)[j]? = H'[j]? := fun j hj => by
    rw [get_put_ne _ _ _ hj, get_put_ne _ _ _ hj, get_put_ne _ _ _ hj, get_put_ne _ _ _ hj, get_put_ne _ _ _ hj, get_put_ne _ _ _ hj]
   have hlF : H.length ≤ List.length ((((((H'.put (H.length + 2) 0 (iv 1)).put (H.length + 2) 1 (.bool false)).put (H.length + 2) 2 (.bool false)).put (H.length + 2) 3 (iv 0)).put (H.length + 2) 4 nl).put (H.length + 2) 5 nl) := by simp only [length_put]; omega
   repeat (first | refine sA ?_ | refine sB ?_ | refine sC ?_ | refine sD ?_ | refine sE rfl ?_ | refine sF rfl ?_ | refine sG rfl ?_ | ((first | refine sk_reg fun K hK => ?_ | refine sk_drw mix fun K hK => ?_); simp [p3, p4, a1.s, a2.s, a3.s, z0'.s, z1'.s, z2'.s, z3'.s, z4'.s, z5'.s, zr'.s, hwr]; (repeat ((first | refine AskX.go (ac2) ?_ | refine AskD.go (ac2) ?_); simp [p3, p4, a1.s, a2.s, a3.s, z0'.s, z1'.s, z2'.s, z3'.s, z4'.s, z5'.s, zr'.s, hwr])); refine hK _ ?_; clear hK K))
   refine sk_ret ?_; simp [z0'.s, z1'.s, z2'.s, z3'.s, z4'.s, z5'.s, zr'.s]
   exact ⟨hlF, fin0 _ (Gro.of hlF fun j hj => (hF j (by omega)).trans ((hB.out j (by omega) (by omega)).trans (hg.same hj))) hs2⟩
  by_cases c0 : (doB w.book a.ev).code = 0
  ·obtain ⟨w', A', hv, xw', rw', ow', lw', hb2'⟩ := hB.zero c0
   subst hv
   have hs2 : stepWd w a = ⟨0, { w with book := (doB w.book a.ev).book }⟩ := by rw [hs]; unfold bookW; rw [if_neg c1, c0]
   generalize (doB w.book a.ev).book = b' at *
   repeat (first | refine sA ?_ | refine sB ?_ | refine sC ?_ | refine sD ?_ | refine sE rfl ?_ | refine sF rfl ?_ | refine sG rfl ?_ | ((first | refine sk_reg fun K hK => ?_ | refine sk_drw mix fun K hK => ?_); simp [p3, p4, a1.s, a2.s, a3.s, z0'.s, z1'.s, z2'.s, z3'.s, z4'.s, z5'.s, zr'.s, hwr, xw']; (repeat ((first | refine AskX.go (ac2) ?_ | refine AskD.go (ac2) ?_); simp [p3, p4, a1.s, a2.s, a3.s, z0'.s, z1'.s, z2'.s, z3'.s, z4'.s, z5'.s, zr'.s, hwr, xw'])); refine hK _ ?_; clear hK K))
   refine sk_ret ?_; simp [z0'.s, z1'.s, z2'.s, z3'.s, z4'.s, z5'.s, zr'.s, xw']
   refine finB H1 H' _ w.bodies b' w' A' rfl (fun _ _ _ => rfl) rb oab hlB hB.out rw' ow' lw' (fun j hj => ?_) (by simp only [length_put]; omega) hs2
   rw [get_put_ne _ _ _ hj, get_put_ne _ _ _ hj, get_put_ne _ _ _ hj, get_put_ne _ _ _ hj, get_put_ne _ _ _ hj, get_put_ne _ _ _ hj]
  ·have hv := hB.more c0 c1
   subst hv
   have hs2 : stepWd w a = ⟨(doB w.book a.ev).code, w⟩ := by rw [hs]; unfold bookW; rw [if_neg c1, doB_fail c1 c0]
   generalize (doB w.book a.ev).code = c at *
   repeat (first | refine sA ?_ | refine sB ?_ | refine sC ?_ | refine sD ?_ | refine sE rfl ?_ | refine sF rfl ?_ | refine sG rfl ?_ | ((first | refine sk_reg fun K hK => ?_ | refine sk_drw mix fun K hK => ?_); simp [p3, p4, a1.s, a2.s, a3.s, z0'.s, z1'.s, z2'.s, z3'.s, z4'.s, z5'.s, zr'.s, hwr, xul, xub]; (repeat ((first | refine AskX.go (ac2) ?_ | refine AskD.go (ac2) ?_); simp [p3, p4, a1.s, a2.s, a3.s, z0'.s, z1'.s, z2'.s, z3'.s, z4'.s, z5'.s, zr'.s, hwr, xul, xub])); refine hK _ ?_; clear hK K))
   refine sk_ret ?_; simp [z0'.s, z1'.s, z2'.s, z3'.s, z4'.s, z5'.s, zr'.s, xul, xub]
   refine finW _ c (by simp only [length_put]; exact hlB) (fun j hj h1 h2 => ?_) hs2
   rw [get_put_ne _ _ _ h1, get_put_ne _ _ _ h1, get_put_ne _ _ _ h1, get_put_ne _ _ _ h1, get_put_ne _ _ _ h1, get_put_ne _ _ _ h1, hB.out j hj h2]
 -- a body changed, as an answer
 have finS : ∀ (Hc F : Heap) (bods : List Bd), Hc.length = H1.length → (∀ j, j < H1.length → j ≠ ib → Hc[j]? = H1[j]?) → RS 4 RBd Hc G2 (sl ib ob w.bodies.length) bods → Own Hc G2 → (∀ j, j ≠ H.length + 2 → F[j]? = Hc[j]?) → H.length ≤ F.length → stepWd w a = ⟨0, { w with bodies := bods }⟩ →
   H.length ≤ F.length ∧ (∀ i, i < H.length → F[i]? = H[i]?) ∧ ∃ E', RMv F E' (stepWd w a) [iv 0, .bool w.ok, .bool w.book.ok, iv w.book.sec, tl, sl ib ob w.bodies.length] ∧ Own F E' ∧ ∀ e, e ∈ E' → H.length ≤ e := by
  intro Hc F bods hc1 hc2 hc3 hc4 hF1 hF2 he
  have hap := o.apart
  have hb : ∀ e, e ∈ G2 → F[e]? = Hc[e]? := fun e he => hF1 e (by have := l e (List.mem_append_right _ he); omega)
  have hn4 : ∀ e, e ∈ G1 → F[e]? = H1[e]? := fun e he => (hF1 e (by have := l e (List.mem_append_left _ he); omega)).trans (hc2 e (bdl e he) fun hh => hap e he (hh ▸ hib))
  refine ⟨hF2, fun i hi => ((hF1 i (by omega)).trans (hc2 i (by omega) (by omega))).trans (hg.same hi), G1 ++ G2, ?_, (oal.fr hn4).app (hc4.fr hb) hap, fun e he => by have := l e he; omega⟩
  rw [he]
  exact ⟨_, rfl, rwd_five (w := { w with bodies := bods }) (rl.fr RLn.frm fun e he _ => hn4 e he) (hc3.fr (RP.frm _) fun e he _ => hb e he)⟩
 rw [decide_eq_false p1]
 have hlive : Heap.live H1 H.length = true := by unfold Heap.live; rw [b2]
 have hif : ∀ F : Heap, (∀ j, j ≠ H.length + 2 → F[j]? = H1[j]?) → F.length = H1.length → ∀ c, stepWd w a = ⟨c, w⟩ → H.length ≤ F.length ∧ (∀ i, i < H.length → F[i]? = H[i]?) ∧ ∃ E', RMv F E' (stepWd w a) [iv c, .bool w.ok, .bool w.book.ok, iv w.book.sec, ul, ub] ∧ Own F E' ∧ ∀ e, e ∈ E' → H.length ≤ e := fun F h1 h2 c h3 => finW F c (by omega) (fun j _ hj _ => h1 j hj) h3
 repeat (first | refine sA ?_ | refine sB ?_ | refine sC ?_ | refine sD ?_ | refine sE rfl ?_ | refine sF rfl ?_ | refine sG rfl ?_ | ((first | refine sk_reg fun K hK => ?_ | refine sk_drw mix fun K hK => ?_); simp; refine hK _ ?_; clear hK K))
 by_cases p2 : a.op = 2
 ·rw [decide_eq_true p2]
  obtain ⟨il, ol, l1', l2', F1', F2', htl', hidl, m0, m1, m2, m3, rw1, rg1, yo1, yo2, hsubl⟩ := rl.line hll
  subst htl'
  have sp := fun (H2 : Heap) (g : Gr) (hg2 : Gro H1 H2) => stepPred_ac (a5.gro hg2) g
  have hif2 := indexF_ac rg1 (f := 49) (cap := [pt (H.length + 1) 0]) (p := hasV a.n) fun H2 g hg2 => sp H2 g hg2
  have hx1 : bdAt w a.train = w.bodies[k] := hbd
  generalize hgs : w.book.lines[k].grs = gs at *
  have hst := hsv
  unfold stepV at hst
  simp only [hln, hbd, hgs] at hst
  rw [if_neg p1, if_pos p2] at hst
  rcases fstI_range (p := hasV a.n) (xs := gs) with ⟨e1, _⟩ | ⟨i, hi, e1, e2, _⟩
  ·rw [e1] at hif2 hst
   rw [if_pos (.inl (by decide))] at hst
   repeat (first | refine sA ?_ | refine sB ?_ | refine sC ?_ | refine sD ?_ | refine sE rfl ?_ | refine sF rfl ?_ | refine sG rfl ?_ | ((first | refine sk_reg fun K hK => ?_ | refine sk_drw mix fun K hK => ?_); simp [w3.s, a4.s, hll, m2.s, z0.s, z1.s, z2.s, z3.s, z4.s, z5.s, zr.s, y0.s, y1.s, y2.s, y3.s, y4.s, xul, xub]; (repeat ((first | refine AskX.go (hif2) ?_ | refine AskD.go (hif2) ?_); simp [w3.s, a4.s, hll, m2.s, z0.s, z1.s, z2.s, z3.s, z4.s, z5.s, zr.s, y0.s, y1.s, y2.s, y3.s, y4.s, xul, xub])); refine hK _ ?_; clear hK K))
   refine sk_ret ?_; simp [z0.s, z1.s, z2.s, z3.s, z4.s, z5.s, zr.s, xul, xub]
   refine hif _ (fun j hj => ?_) (by simp only [length_put]) 2 hst
   rw [get_put_ne _ _ _ hj, get_put_ne _ _ _ hj, get_put_ne _ _ _ hj, get_put_ne _ _ _ hj, get_put_ne _ _ _ hj, get_put_ne _ _ _ hj]
  rw [e1] at hif2 hst
  have hi0 : ¬ ((i : Int) < 0) := by omega
  obtain ⟨ig, og, _, _, hvg, hidg, hmemg, _, ⟨_, rfl⟩, _, hcg⟩ := rg1.at hi
  have g0 : CF H1 ig (og + i * 2) (iv gs[i].ver) := fun L => by have := hcg 0 _ rfl L; simpa using this
  have g1 : CF H1 ig (og + i * 2 + 1) (iv gs[i].cel) := fun L => hcg 1 _ rfl L
  subst hvg
  by_cases q1 : a.n ≤ w.bodies[k].ver
  ·rw [if_pos (.inr q1)] at hst
   repeat (first | refine sA ?_ | refine sB ?_ | refine sC ?_ | refine sD ?_ | refine sE rfl ?_ | refine sF rfl ?_ | refine sG rfl ?_ | ((first | refine sk_reg fun K hK => ?_ | refine sk_drw mix fun K hK => ?_); simp [w3.s, a4.s, hll, m2.s, hi0, a5.s, v0.s, v1.s, v2.s, v3.s, q1, z0.s, z1.s, z2.s, z3.s, z4.s, z5.s, zr.s, y0.s, y1.s, y2.s, y3.s, y4.s, xul, xub]; (repeat ((first | refine AskX.go (hif2) ?_ | refine AskD.go (hif2) ?_); simp [w3.s, a4.s, hll, m2.s, hi0, a5.s, v0.s, v1.s, v2.s, v3.s, q1, z0.s, z1.s, z2.s, z3.s, z4.s, z5.s, zr.s, y0.s, y1.s, y2.s, y3.s, y4.s, xul, xub])); refine hK _ ?_; clear hK K))
   refine sk_ret ?_; simp [z0.s, z1.s, z2.s, z3.s, z4.s, z5.s, zr.s, xul, xub]
   refine hif _ (fun j hj => ?_) (by simp only [length_put]) 2 hst
   rw [get_put_ne _ _ _ hj, get_put_ne _ _ _ hj, get_put_ne _ _ _ hj, get_put_ne _ _ _ hj, get_put_ne _ _ _ hj, get_put_ne _ _ _ hj]
  rw [if_neg (by omega), Int.toNat_natCast, gAt_eq hi] at hst
  by_cases q2 : gs[i].cel ≤ w.bodies[k].front
  ·rw [if_pos q2] at hst
   repeat (first | refine sA ?_ | refine sB ?_ | refine sC ?_ | refine sD ?_ | refine sE rfl ?_ | refine sF rfl ?_ | refine sG rfl ?_ | ((first | refine sk_reg fun K hK => ?_ | refine sk_drw mix fun K hK => ?_); simp [w3.s, a4.s, hll, m2.s, hi0, a5.s, v0.s, v1.s, v2.s, v3.s, q1, hi, g0.s, g1.s, q2, z0.s, z1.s, z2.s, z3.s, z4.s, z5.s, zr.s, y0.s, y1.s, y2.s, y3.s, y4.s, xul, xub]; (repeat ((first | refine AskX.go (hif2) ?_ | refine AskD.go (hif2) ?_); simp [w3.s, a4.s, hll, m2.s, hi0, a5.s, v0.s, v1.s, v2.s, v3.s, q1, hi, g0.s, g1.s, q2, z0.s, z1.s, z2.s, z3.s, z4.s, z5.s, zr.s, y0.s, y1.s, y2.s, y3.s, y4.s, xul, xub])); refine hK _ ?_; clear hK K))
   refine sk_ret ?_; simp [z0.s, z1.s, z2.s, z3.s, z4.s, z5.s, zr.s, xul, xub]
   refine hif _ (fun j hj => ?_) (by simp only [length_put]) 3 hst
   rw [get_put_ne _ _ _ hj, get_put_ne _ _ _ hj, get_put_ne _ _ _ hj, get_put_ne _ _ _ hj, get_put_ne _ _ _ hj, get_put_ne _ _ _ hj]
  rw [if_neg q2, hk] at hst
  have nib : ¬ ib = H.length := by omega
  have nib2 : ¬ ib = H.length + 2 := by omega
  have nib3 : ¬ ib = H.length + 1 := by omega
  have nibg : ¬ ib = ig := fun hh => o.apart ig (hsubl ig (List.mem_append_right _ hmemg)) (hh ▸ hib)
  have hibl : H.length ≤ ib := by omega
  repeat (first | refine sA ?_ | refine sB ?_ | refine sC ?_ | refine sD ?_ | refine sE rfl ?_ | refine sF rfl ?_ | refine sG rfl ?_ | ((first | refine sk_reg fun K hK => ?_ | refine sk_drw mix fun K hK => ?_); simp [w3.s, a4.s, hll, m2.s, hi0, a5.s, v0.s, v1.s, v2.s, v3.s, q1, hi, g0.s, g1.s, q2, vr.s, nib, nib2, nib3, nibg, hibl, z0.s, z1.s, z2.s, z3.s, z4.s, z5.s, zr.s, y0.s, y1.s, y2.s, y3.s, y4.s, xul, xub, w0.s, w1.s, w2.s, w3.s, w4.s, xtl]; (repeat ((first | refine AskX.go (hif2) ?_ | refine AskD.go (hif2) ?_); simp [w3.s, a4.s, hll, m2.s, hi0, a5.s, v0.s, v1.s, v2.s, v3.s, q1, hi, g0.s, g1.s, q2, vr.s, nib, nib2, nib3, nibg, hibl, z0.s, z1.s, z2.s, z3.s, z4.s, z5.s, zr.s, y0.s, y1.s, y2.s, y3.s, y4.s, xul, xub, w0.s, w1.s, w2.s, w3.s, w4.s, xtl])); refine hK _ ?_; clear hK K))
  refine sk_ret ?_; simp [z0.s, z1.s, z2.s, z3.s, z4.s, z5.s, zr.s, nib, nib2, xtl]
  have hput : ∀ j, j ≠ ib → (Heap.put (H1.put ib (ob + k * 4) (iv a.n)) ib (ob + k * 4 + 1) (iv gs[i].cel))[j]? = H1[j]? := fun j hj => by rw [get_put_ne _ _ _ hj, get_put_ne _ _ _ hj]
  refine finS (Heap.put (H1.put ib (ob + k * 4) (iv a.n)) ib (ob + k * 4 + 1) (iv gs[i].cel)) _ (w.bodies.set k ⟨a.n, gs[i].cel, w.bodies[k].tail, w.bodies[k].front⟩) (by simp only [length_put]) (fun j _ hj => hput j hj) ?_ (oab.mk ((MK.put _ _ hib rfl).trans (MK.put _ _ hib rfl))) (fun j hj => ?_) (by simp only [length_put]; omega) ?_
  ·refine hclb _ _ (cBd ⟨a.n, gs[i].cel, w.bodies[k].tail, w.bodies[k].front⟩) rfl ⟨rfl, rfl⟩ (fun e _ he _ => hput e he) fun a' z' b' hb' hc' ha' => ?_
   rw [get_put, get_put, hb']
   simp only [Option.map_some, hc', ← ha']
   simp [cBd]
  ·rw [get_put_ne _ _ _ hj, get_put_ne _ _ _ hj, get_put_ne _ _ _ hj, get_put_ne _ _ _ hj, get_put_ne _ _ _ hj, get_put_ne _ _ _ hj]
  ·rw [hst]; simp [setBd]
 rw [decide_eq_false p2]
 repeat (first | refine sA ?_ | refine sB ?_ | refine sC ?_ | refine sD ?_ | refine sE rfl ?_ | refine sF rfl ?_ | refine sG rfl ?_ | ((first | refine sk_reg fun K hK => ?_ | refine sk_drw mix fun K hK => ?_); simp; refine hK _ ?_; clear hK K))
 by_cases p3 : a.op = 3
 ·rw [decide_eq_true p3]
  have hst := hsv
  unfold stepV at hst
  simp only [hbd] at hst
  rw [if_neg p1, if_neg p2, if_pos p3, hk] at hst
  obtain ⟨hev, hc0⟩ := tell_ok hr hkl
  obtain ⟨v', H', ac2, hB⟩ := stepBook_bd b2 b5 (by omega) (show RBk H1 G1 w.book [.bool w.book.ok, iv w.book.sec, tl] from ⟨tl, rfl, rl⟩) (fun e he => by have := l e (List.mem_append_left _ he); omega) xtl rfl xul xub ⟨3, (k : Int), w.bodies[k].ver⟩
  have hwr : wrL H.length [] [H.length] := fun d hd => .inl (by simp at hd; omega)
  have hb4 : H'[H.length + 2]? = _ := (hB.out _ (by exact lt_of_get b4) (by omega)).trans b4
  have z0' : CF H' (H.length + 2) 0 (iv 0) := CF.of hb4 rfl rfl
  have z1' : CF H' (H.length + 2) 1 (.bool false) := CF.of hb4 rfl rfl
  have z2' : CF H' (H.length + 2) 2 (.bool false) := CF.of hb4 rfl rfl
  have z3' : CF H' (H.length + 2) 3 (iv 0) := CF.of hb4 rfl rfl
  have z4' : CF H' (H.length + 2) 4 nl := CF.of hb4 rfl rfl
  have z5' : CF H' (H.length + 2) 5 nl := CF.of hb4 rfl rfl
  have zr' := RF.of hb4
  have hlB := hB.len
  obtain ⟨w', A', hv, xw', rw', ow', lw', hb2'⟩ := hB.zero hc0
  subst hv
  have hs2 : stepWd w a = ⟨0, { w with book := (doB w.book ⟨3, (k : Int), w.bodies[k].ver⟩).book, bodies := w.bodies }⟩ := by rw [hst]; unfold bookW; rw [if_neg (by rw [hc0]; decide), hc0]
  generalize (doB w.book ⟨3, (k : Int), w.bodies[k].ver⟩).book = b' at *
  have hev : vEv ⟨3, (k : Int), w.bodies[k].ver⟩ = .agg #[iv 3, iv k, iv w.bodies[k].ver] := rfl
  rw [hev] at ac2
  repeat (first | refine sA ?_ | refine sB ?_ | refine sC ?_ | refine sD ?_ | refine sE rfl ?_ | refine sF rfl ?_ | refine sG rfl ?_ | ((first | refine sk_reg fun K hK => ?_ | refine sk_drw mix fun K hK => ?_); simp [a4.s, v0.s, z0'.s, z1'.s, z2'.s, z3'.s, z4'.s, z5'.s, zr'.s, hwr, xw', hlive, hlB]; (repeat ((first | refine AskX.go (ac2) ?_ | refine AskD.go (ac2) ?_); simp [a4.s, v0.s, z0'.s, z1'.s, z2'.s, z3'.s, z4'.s, z5'.s, zr'.s, hwr, xw', hlive, hlB])); refine hK _ ?_; clear hK K))
  refine sk_ret ?_; simp [z0'.s, z1'.s, z2'.s, z3'.s, z4'.s, z5'.s, zr'.s, xw']
  refine finB H1 H' _ w.bodies b' w' A' rfl (fun _ _ _ => rfl) rb oab hlB hB.out rw' ow' lw' (fun j hj => ?_) (by simp only [length_put]; omega) hs2
  rw [get_put_ne _ _ _ hj, get_put_ne _ _ _ hj, get_put_ne _ _ _ hj, get_put_ne _ _ _ hj, get_put_ne _ _ _ hj, get_put_ne _ _ _ hj]
 rw [decide_eq_false p3]
 repeat (first | refine sA ?_ | refine sB ?_ | refine sC ?_ | refine sD ?_ | refine sE rfl ?_ | refine sF rfl ?_ | refine sG rfl ?_ | ((first | refine sk_reg fun K hK => ?_ | refine sk_drw mix fun K hK => ?_); simp; refine hK _ ?_; clear hK K))
 have hbb := body_leash hlo hbo
 obtain ⟨_, _, _, _, _, _, bc1, _, bt0, bt1, bt2, bt3, bc2⟩ := hbb
 have hwf := wrap_id (x := w.bodies[k].front + 1) (by omega) (by omega)
 have hwt := wrap_id (x := w.bodies[k].tail + 1) (by omega) (by omega)
 have nib : ¬ ib = H.length := by omega
 have nib2 : ¬ ib = H.length + 2 := by omega
 have nib3 : ¬ ib = H.length + 1 := by omega
 have nib5 : ¬ ib = X5 := by omega
 have hibl : H.length ≤ ib := by omega
 by_cases p4 : a.op = 4
 ·rw [decide_eq_true p4]
  have hst := hsv
  unfold stepV at hst
  simp only [hbd] at hst
  rw [if_neg p1, if_neg p2, if_neg p3, if_pos p4] at hst
  by_cases q1 : w.bodies[k].cel ≤ w.bodies[k].front + 1
  ·rw [if_pos q1] at hst
   repeat (first | refine sA ?_ | refine sB ?_ | refine sC ?_ | refine sD ?_ | refine sE rfl ?_ | refine sF rfl ?_ | refine sG rfl ?_ | ((first | refine sk_reg fun K hK => ?_ | refine sk_drw mix fun K hK => ?_); simp [v0.s, v1.s, v2.s, v3.s, hwf, q1, z0.s, z1.s, z2.s, z3.s, z4.s, z5.s, zr.s, y0.s, y1.s, y2.s, y3.s, y4.s, xul, xub]; refine hK _ ?_; clear hK K))
   refine sk_ret ?_; simp [z0.s, z1.s, z2.s, z3.s, z4.s, z5.s, zr.s, xul, xub]
   refine hif _ (fun j hj => ?_) (by simp only [length_put]) 3 hst
   rw [get_put_ne _ _ _ hj, get_put_ne _ _ _ hj, get_put_ne _ _ _ hj, get_put_ne _ _ _ hj, get_put_ne _ _ _ hj, get_put_ne _ _ _ hj]
  rw [if_neg q1, hk] at hst
  repeat (first | refine sA ?_ | refine sB ?_ | refine sC ?_ | refine sD ?_ | refine sE rfl ?_ | refine sF rfl ?_ | refine sG rfl ?_ | ((first | refine sk_reg fun K hK => ?_ | refine sk_drw mix fun K hK => ?_); simp [v0.s, v1.s, v2.s, v3.s, vr.s, hwf, q1, z0.s, z1.s, z2.s, z3.s, z4.s, z5.s, zr.s, nib, nib2, nib3, hibl, w0.s, w1.s, w2.s, w3.s, w4.s, xtl]; refine hK _ ?_; clear hK K))
  refine sk_ret ?_; simp [z0.s, z1.s, z2.s, z3.s, z4.s, z5.s, zr.s, nib, nib2, xtl]
  have hput : ∀ j, j ≠ ib → (Heap.put H1 ib (ob + k * 4 + 3) (iv (w.bodies[k].front + 1)))[j]? = H1[j]? := fun j hj => by rw [get_put_ne _ _ _ hj]
  refine finS (Heap.put H1 ib (ob + k * 4 + 3) (iv (w.bodies[k].front + 1))) _ (w.bodies.set k { w.bodies[k] with front := w.bodies[k].front + 1 }) (by simp only [length_put]) (fun j _ hj => hput j hj) ?_ (oab.mk (MK.put _ _ hib rfl)) (fun j hj => ?_) (by simp only [length_put]; omega) ?_
  ·refine hclb _ _ (cBd { w.bodies[k] with front := w.bodies[k].front + 1 }) rfl ⟨rfl, rfl⟩ (fun e _ he _ => hput e he) fun a' z' b' hb' hc' ha' => ?_
   rw [get_put, hb']
   simp only [Option.map_some, hc', ← ha']
   simp [cBd]
  ·rw [get_put_ne _ _ _ hj, get_put_ne _ _ _ hj, get_put_ne _ _ _ hj, get_put_ne _ _ _ hj, get_put_ne _ _ _ hj, get_put_ne _ _ _ hj]
  ·rw [hst]; simp [setBd]
 rw [decide_eq_false p4]
 repeat (first | refine sA ?_ | refine sB ?_ | refine sC ?_ | refine sD ?_ | refine sE rfl ?_ | refine sF rfl ?_ | refine sG rfl ?_ | ((first | refine sk_reg fun K hK => ?_ | refine sk_drw mix fun K hK => ?_); simp; refine hK _ ?_; clear hK K))
 have p5 : a.op = 5 := by omega
 rw [decide_eq_true p5]
 have hst := hsv
 unfold stepV at hst
 simp only [hbd] at hst
 rw [if_neg p1, if_neg p2, if_neg p3, if_neg p4] at hst
 by_cases q1 : w.bodies[k].tail = w.bodies[k].front
 ·rw [if_pos q1] at hst
  repeat (first | refine sA ?_ | refine sB ?_ | refine sC ?_ | refine sD ?_ | refine sE rfl ?_ | refine sF rfl ?_ | refine sG rfl ?_ | ((first | refine sk_reg fun K hK => ?_ | refine sk_drw mix fun K hK => ?_); simp [v0.s, v1.s, v2.s, v3.s, q1, z0.s, z1.s, z2.s, z3.s, z4.s, z5.s, zr.s, y0.s, y1.s, y2.s, y3.s, y4.s, xul, xub]; refine hK _ ?_; clear hK K))
  refine sk_ret ?_; simp [z0.s, z1.s, z2.s, z3.s, z4.s, z5.s, zr.s, xul, xub]
  refine hif _ (fun j hj => ?_) (by simp only [length_put]) 3 hst
  rw [get_put_ne _ _ _ hj, get_put_ne _ _ _ hj, get_put_ne _ _ _ hj, get_put_ne _ _ _ hj, get_put_ne _ _ _ hj, get_put_ne _ _ _ hj]
 rw [if_neg q1, hk] at hst
 obtain ⟨hev, hc0⟩ := tail_ok hr hkl q1
 repeat (first | refine sA ?_ | refine sB ?_ | refine sC ?_ | refine sD ?_ | refine sE rfl ?_ | refine sF rfl ?_ | refine sG rfl ?_ | ((first | refine sk_reg fun K hK => ?_ | refine sk_drw mix fun K hK => ?_); simp [v0.s, v1.s, v2.s, v3.s, vr.s, hwt, q1, nib, nib2, nib3, hibl]; refine hK _ ?_; clear hK K))
 refine sk_at [(2, pt H.length 0), (3, pt (H.length + 1) 0), (4, pt (H.length + 2) 0), (5, pt X5 0), (6, pt ib (ob + k * 4)), (7, .func (.func 46) #[] #[pt H.length 0, pt X5 0])]
  (fun Hc => Hc.length = H1.length ∧ (∀ j, j ≠ ib → Hc[j]? = H1[j]?) ∧ RS 4 RBd Hc G2 (sl ib ob w.bodies.length) (w.bodies.set k { w.bodies[k] with tail := w.bodies[k].tail + 1 }) ∧ Own Hc G2 ∧ CF Hc ib (ob + k * 4 + 2) (iv (w.bodies[k].tail + 1))) (by simp [subL, getT]) ⟨by simp only [length_put], fun j hj => get_put_ne _ _ _ hj, ?_, oab.mk (MK.put _ _ hib rfl), ?_⟩ ?_
 ·refine hclb _ _ (cBd { w.bodies[k] with tail := w.bodies[k].tail + 1 }) rfl ⟨rfl, rfl⟩ (fun e _ he _ => get_put_ne _ _ _ he) fun a' z' b' hb' hc' ha' => ?_
  rw [get_put, hb']
  simp only [Option.map_some, hc', ← ha']
  simp [cBd]
 ·refine CF.cell ?_
  rw [cell_put, if_pos ⟨rfl, rfl, by rw [v2.b]; rfl⟩]
 rintro Hc ⟨n1, n2, n3, n4, n5⟩
 have b2c : Hc[H.length]? = _ := (n2 _ (Ne.symm nib)).trans b2
 have b3c : Hc[H.length + 1]? = _ := (n2 _ (Ne.symm nib3)).trans b3
 have b4c : Hc[H.length + 2]? = _ := (n2 _ (Ne.symm nib2)).trans b4
 have b5c : Hc[X5]? = _ := (n2 _ (Ne.symm nib5)).trans b5
 have a4c : CF Hc (H.length + 1) 4 (iv k) := by rw [← hk]; exact CF.of b3c rfl rfl
 have hlivec : Heap.live Hc H.length = true := by unfold Heap.live; rw [b2c]
 have rlc := rl.fr RLn.frm (H' := Hc) fun e he _ => n2 e fun hh => o.apart e he (hh ▸ hib)
 obtain ⟨v', H', ac2, hB⟩ := stepBook_bd b2c b5c (by omega) (show RBk Hc G1 w.book [.bool w.book.ok, iv w.book.sec, tl] from ⟨tl, rfl, rlc⟩) (fun e he => by have := l e (List.mem_append_left _ he); omega) xtl rfl xul xub ⟨4, (k : Int), w.bodies[k].tail + 1⟩
 have hwr : wrL H.length [] [H.length] := fun d hd => .inl (by simp at hd; omega)
 have hb4 : H'[H.length + 2]? = _ := (hB.out _ (lt_of_get b4c) (by omega)).trans b4c
 have z0' : CF H' (H.length + 2) 0 (iv 0) := CF.of hb4 rfl rfl
 have z1' : CF H' (H.length + 2) 1 (.bool false) := CF.of hb4 rfl rfl
 have z2' : CF H' (H.length + 2) 2 (.bool false) := CF.of hb4 rfl rfl
 have z3' : CF H' (H.length + 2) 3 (iv 0) := CF.of hb4 rfl rfl
 have z4' : CF H' (H.length + 2) 4 nl := CF.of hb4 rfl rfl
 have z5' : CF H' (H.length + 2) 5 nl := CF.of hb4 rfl rfl
 have zr' := RF.of hb4
 have hlB := hB.len
 obtain ⟨w', A', hv, xw', rw', ow', lw', hb2'⟩ := hB.zero hc0
 subst hv
 have hs2 : stepWd w a = ⟨0, { w with book := (doB w.book ⟨4, (k : Int), w.bodies[k].tail + 1⟩).book, bodies := w.bodies.set k { w.bodies[k] with tail := w.bodies[k].tail + 1 } }⟩ := by
  rw [hst]
  unfold bookW
  rw [show (setBd w (k : Int) { w.bodies[k] with tail := w.bodies[k].tail + 1 }).book = w.book from rfl, if_neg (by rw [hc0]; decide), hc0]
  simp [setBd]
 generalize (doB w.book ⟨4, (k : Int), w.bodies[k].tail + 1⟩).book = b' at *
 have hev2 : vEv ⟨4, (k : Int), w.bodies[k].tail + 1⟩ = .agg #[iv 4, iv k, iv (w.bodies[k].tail + 1)] := rfl
 rw [hev2] at ac2
 repeat (first | refine sA ?_ | refine sB ?_ | refine sC ?_ | refine sD ?_ | refine sE rfl ?_ | refine sF rfl ?_ | refine sG rfl ?_ | ((first | refine sk_reg fun K hK => ?_ | refine sk_drw mix fun K hK => ?_); simp [a4c.s, n5.s, z0'.s, z1'.s, z2'.s, z3'.s, z4'.s, z5'.s, zr'.s, hwr, xw', hlivec, hlB]; (repeat ((first | refine AskX.go (ac2) ?_ | refine AskD.go (ac2) ?_); simp [a4c.s, n5.s, z0'.s, z1'.s, z2'.s, z3'.s, z4'.s, z5'.s, zr'.s, hwr, xw', hlivec, hlB])); refine hK _ ?_; clear hK K))
 refine sk_ret ?_; simp [z0'.s, z1'.s, z2'.s, z3'.s, z4'.s, z5'.s, zr'.s, xw']
 refine finB Hc H' _ _ b' w' A' n1 (fun j _ hj => n2 j hj) n3 n4 hlB hB.out rw' ow' lw' (fun j hj => ?_) (by simp only [length_put]; omega) hs2
 rw [get_put_ne _ _ _ hj, get_put_ne _ _ _ hj, get_put_ne _ _ _ hj, get_put_ne _ _ _ hj, get_put_ne _ _ _ hj, get_put_ne _ _ _ hj]
end Go.Proofs.YtpoedfmkiiijnaaDoor
