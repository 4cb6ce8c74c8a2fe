/- The statement's own function FnBack: it answers true. A walk. -/
import Derived.Test.YtpoedfmkiiijnaaRn1
import Derived.Test.YtpoedfmkiiijnaaWb
import Derived.Test.YtpoedfmkiiijnaaPuB
namespace Go.Proofs.Ytpoedfmkiiijnaa
open Go Go.RowKit Go.Proofs.YtpoedfmkiiijnaaAm
set_option linter.unusedVariables false
set_option linter.unusedSimpArgs false
set_option maxRecDepth 10000
set_option maxHeartbeats 8000000
theorem own_nil (H : Heap) : Own H [] := ⟨List.nodup_nil, fun i hi => by simp at hi⟩
def B6 : SC := .seq (.reg [⟨some 2, .assign (.const (.bool false)), none, []⟩]) (.seq (.seq (.reg [⟨some 12, .move (.tmp 0), none, []⟩, ⟨some 13, .call { callee := (.builtin .len), args := #[(.tmp 12)], argTypes := #[30] }, none, []⟩, ⟨some 14, .binOp .gtr 3 (.tmp 13) (.const (.int .i64 1048576)) 3, none, []⟩]) (.cond (.tmp 14) (.seq (.reg [⟨some 2, .assign (.const (.bool true)), none, []⟩]) .ret) .skip)) (.seq (.reg [⟨some 15, .move (.tmp 0), none, []⟩, ⟨some 16, .call { callee := (.value (.func 31)), args := #[(.tmp 15), (.const (.int .i64 0))], argTypes := #[30, 3] }, none, []⟩, ⟨some 17, .binOp .rem 3 (.tmp 16) (.const (.int .i64 20)) 3, none, []⟩, ⟨some 18, .binOp .add 3 (.const (.int .i64 2)) (.tmp 17) 3, none, []⟩, ⟨some 3, .assign (.tmp 18), none, []⟩]) (.seq (.reg [⟨some 19, .move (.tmp 0), none, []⟩, ⟨some 20, .call { callee := (.value (.func 31)), args := #[(.tmp 19), (.const (.int .i64 1))], argTypes := #[30, 3] }, none, []⟩, ⟨some 21, .move (.tmp 3), none, []⟩, ⟨some 22, .binOp .rem 3 (.tmp 20) (.tmp 21) 3, none, []⟩, ⟨some 23, .binOp .add 3 (.const (.int .i64 1)) (.tmp 22) 3, none, []⟩, ⟨some 4, .assign (.tmp 23), none, []⟩]) (.seq (.reg [⟨some 24, .move (.tmp 0), none, []⟩, ⟨some 25, .call { callee := (.value (.func 31)), args := #[(.tmp 24), (.const (.int .i64 2))], argTypes := #[30, 3] }, none, []⟩, ⟨some 26, .move (.tmp 4), none, []⟩, ⟨some 27, .binOp .rem 3 (.tmp 25) (.tmp 26) 3, none, []⟩, ⟨some 5, .assign (.tmp 27), none, []⟩]) (.seq (.reg [⟨some 6, .assign (.const (.slice none 0 0)), none, []⟩]) (.seq (.seq (.reg [⟨some 7, .assign (.const (.int .i64 0)), none, []⟩]) (.block 0 (.loop (.seq (.seq (.reg [⟨some 28, .move (.tmp 7), none, []⟩, ⟨some 29, .move (.tmp 3), none, []⟩, ⟨some 30, .binOp .lss 3 (.tmp 28) (.tmp 29) 3, none, []⟩]) (.cond (.tmp 30) .skip (.exit 0))) (.seq (.block 1 (.reg [⟨some 33, .move (.tmp 6), none, []⟩, ⟨some 34, .move (.tmp 7), none, []⟩, ⟨some 35, .build 49 #[(0, (.const (.int .i64 1))), (2, (.tmp 34))], none, []⟩, ⟨some 36, .buildSlice 31 1 #[(0, (.tmp 35))], none, []⟩, ⟨some 37, .call { callee := (.builtin .append), args := #[(.tmp 33), (.tmp 36)], argTypes := #[31, 31] }, none, []⟩, ⟨some 6, .assign (.tmp 37), none, []⟩])) (.reg [⟨some 31, .move (.tmp 7), none, []⟩, ⟨some 32, .binOp .add 3 (.tmp 31) (.const (.int .i64 1)) 3, none, []⟩, ⟨some 7, .assign (.tmp 32), none, []⟩])))))) (.seq (.reg [⟨some 38, .move (.tmp 6), none, []⟩, ⟨some 39, .move (.tmp 4), none, []⟩, ⟨some 40, .build 49 #[(0, (.const (.int .i64 2))), (2, (.tmp 39))], none, []⟩, ⟨some 41, .move (.tmp 5), none, []⟩, ⟨some 42, .build 49 #[(0, (.const (.int .i64 2))), (2, (.tmp 41))], none, []⟩, ⟨some 43, .move (.tmp 5), none, []⟩, ⟨some 44, .build 49 #[(0, (.const (.int .i64 5))), (2, (.tmp 43))], none, []⟩, ⟨some 45, .buildSlice 31 3 #[(0, (.tmp 40)), (1, (.tmp 42)), (2, (.tmp 44))], none, []⟩, ⟨some 46, .call { callee := (.builtin .append), args := #[(.tmp 38), (.tmp 45)], argTypes := #[31, 31] }, none, []⟩, ⟨some 6, .assign (.tmp 46), none, []⟩]) (.seq (.reg [⟨some 47, .move (.tmp 3), none, []⟩, ⟨some 48, .move (.tmp 6), none, []⟩, ⟨some 49, .call { callee := (.value (.func 27)), args := #[(.tmp 47), (.const (.int .i64 2)), (.tmp 48)], argTypes := #[3, 3, 31] }, none, []⟩, ⟨some 8, .assign (.tmp 49), none, []⟩]) (.seq (.seq (.reg [⟨some 50, .move (.tmp 8), none, []⟩, ⟨some 51, .call { callee := (.builtin .len), args := #[(.tmp 50)], argTypes := #[34] }, none, []⟩, ⟨some 52, .move (.tmp 6), none, []⟩, ⟨some 53, .call { callee := (.builtin .len), args := #[(.tmp 52)], argTypes := #[31] }, none, []⟩, ⟨some 54, .binOp .neq 3 (.tmp 51) (.tmp 53) 3, none, []⟩, ⟨some 55, .move (.tmp 54), none, []⟩, ⟨some 56, .move (.tmp 8), some (55, false), []⟩, ⟨some 57, .move (.tmp 3), some (55, false), []⟩, ⟨some 58, .binOp .add 3 (.tmp 57) (.const (.int .i64 2)) 3, some (55, false), []⟩, ⟨some 59, .indexAddr 34 (.tmp 56) (.tmp 58), some (55, false), []⟩, ⟨some 60, .fieldAddr 39 (.tmp 59) 1, some (55, false), []⟩, ⟨some 61, .fieldAddr 25 (.tmp 60) 2, some (55, false), []⟩, ⟨some 62, .load 23 (.tmp 61), some (55, false), []⟩, ⟨some 63, .call { callee := (.builtin .len), args := #[(.tmp 62)], argTypes := #[23] }, some (55, false), []⟩, ⟨some 64, .binOp .neq 3 (.tmp 63) (.const (.int .i64 2)) 3, some (55, false), []⟩, ⟨some 65, .pick (.tmp 55) (.const (.bool true)) (.tmp 64), none, []⟩]) (.cond (.tmp 65) (.seq (.reg [⟨some 2, .assign (.const (.bool false)), none, []⟩]) .ret) .skip)) (.seq (.reg [⟨some 66, .move (.tmp 8), none, []⟩, ⟨some 67, .move (.tmp 3), none, []⟩, ⟨some 68, .binOp .add 3 (.tmp 67) (.const (.int .i64 2)) 3, none, []⟩, ⟨some 69, .indexAddr 34 (.tmp 66) (.tmp 68), none, []⟩, ⟨some 70, .fieldAddr 39 (.tmp 69) 1, none, []⟩, ⟨some 71, .load 25 (.tmp 70), none, []⟩, ⟨some 9, .alloc 25, none, []⟩, ⟨none, .store 25 (.tmp 9) (.tmp 71), none, []⟩]) (.seq (.seq (.reg [⟨some 72, .move (.tmp 8), none, []⟩, ⟨some 73, .move (.tmp 3), none, []⟩, ⟨some 74, .binOp .add 3 (.tmp 73) (.const (.int .i64 2)) 3, none, []⟩, ⟨some 75, .indexAddr 34 (.tmp 72) (.tmp 74), none, []⟩, ⟨some 76, .fieldAddr 39 (.tmp 75) 0, none, []⟩, ⟨some 77, .load 3 (.tmp 76), none, []⟩, ⟨some 78, .binOp .neq 3 (.tmp 77) (.const (.int .i64 0)) 3, none, []⟩, ⟨some 79, .move (.tmp 78), none, []⟩, ⟨some 80, .fieldAddr 25 (.tmp 9) 2, some (79, false), []⟩, ⟨some 81, .load 23 (.tmp 80), some (79, false), []⟩, ⟨some 82, .indexAddr 23 (.tmp 81) (.const (.int .i64 0)), some (79, false), []⟩, ⟨some 83, .fieldAddr 43 (.tmp 82) 1, some (79, false), []⟩, ⟨some 84, .load 40 (.tmp 83), some (79, false), []⟩, ⟨some 85, .call { callee := (.builtin .len), args := #[(.tmp 84)], argTypes := #[40] }, some (79, false), []⟩, ⟨some 86, .move (.tmp 4), some (79, false), []⟩, ⟨some 87, .binOp .neq 3 (.tmp 85) (.tmp 86) 3, some (79, false), []⟩, ⟨some 88, .pick (.tmp 79) (.const (.bool true)) (.tmp 87), none, []⟩, ⟨some 89, .move (.tmp 88), none, []⟩, ⟨some 90, .fieldAddr 25 (.tmp 9) 2, some (89, false), []⟩, ⟨some 91, .load 23 (.tmp 90), some (89, false), []⟩, ⟨some 92, .indexAddr 23 (.tmp 91) (.const (.int .i64 0)), some (89, false), []⟩, ⟨some 93, .fieldAddr 43 (.tmp 92) 3, some (89, false), []⟩, ⟨some 94, .load 3 (.tmp 93), some (89, false), []⟩, ⟨some 95, .move (.tmp 5), some (89, false), []⟩, ⟨some 96, .binOp .neq 3 (.tmp 94) (.tmp 95) 3, some (89, false), []⟩, ⟨some 97, .pick (.tmp 89) (.const (.bool true)) (.tmp 96), none, []⟩]) (.cond (.tmp 97) (.seq (.reg [⟨some 2, .assign (.const (.bool false)), none, []⟩]) .ret) .skip)) (.seq (.seq (.reg [⟨some 98, .load 25 (.tmp 9), none, []⟩, ⟨some 99, .move (.tmp 4), none, []⟩, ⟨some 100, .binOp .sub 3 (.tmp 99) (.const (.int .i64 1)) 3, none, []⟩, ⟨some 101, .build 49 #[(0, (.const (.int .i64 1))), (1, (.const (.int .i64 1))), (2, (.tmp 100))], none, []⟩, ⟨some 102, .call { callee := (.value (.func 32)), args := #[(.tmp 98), (.tmp 101)], argTypes := #[25, 49] }, none, []⟩, ⟨some 103, .field 39 (.tmp 102) 0, none, []⟩, ⟨some 104, .binOp .neq 3 (.tmp 103) (.const (.int .i64 2)) 3, none, []⟩, ⟨some 105, .move (.tmp 104), none, []⟩, ⟨some 106, .move (.tmp 4), some (105, false), []⟩, ⟨some 107, .move (.tmp 3), some (105, false), []⟩, ⟨some 108, .binOp .lss 3 (.tmp 106) (.tmp 107) 3, some (105, false), []⟩, ⟨some 109, .move (.tmp 108), some (105, false), []⟩, ⟨some 110, .load 25 (.tmp 9), some (109, true), []⟩, ⟨some 111, .move (.tmp 4), some (109, true), []⟩, ⟨some 112, .build 49 #[(0, (.const (.int .i64 1))), (1, (.const (.int .i64 1))), (2, (.tmp 111))], some (109, true), []⟩, ⟨some 113, .call { callee := (.value (.func 32)), args := #[(.tmp 110), (.tmp 112)], argTypes := #[25, 49] }, some (109, true), []⟩, ⟨some 114, .field 39 (.tmp 113) 0, some (109, true), []⟩, ⟨some 115, .binOp .neq 3 (.tmp 114) (.const (.int .i64 0)) 3, some (109, true), []⟩, ⟨some 116, .pick (.tmp 109) (.tmp 115) (.const (.bool false)), some (105, false), []⟩, ⟨some 117, .pick (.tmp 105) (.const (.bool true)) (.tmp 116), none, []⟩]) (.cond (.tmp 117) (.seq (.reg [⟨some 2, .assign (.const (.bool false)), none, []⟩]) .ret) .skip)) (.seq (.reg [⟨some 118, .load 25 (.tmp 9), none, []⟩, ⟨some 119, .build 49 #[(0, (.const (.int .i64 3))), (2, (.const (.int .i64 1)))], none, []⟩, ⟨some 120, .call { callee := (.value (.func 32)), args := #[(.tmp 118), (.tmp 119)], argTypes := #[25, 49] }, none, []⟩, ⟨some 10, .alloc 39, none, []⟩, ⟨none, .store 39 (.tmp 10) (.tmp 120), none, []⟩]) (.seq (.reg [⟨some 121, .load 25 (.tmp 9), none, []⟩, ⟨some 122, .build 49 #[(0, (.const (.int .i64 3))), (2, (.const (.int .i64 2)))], none, []⟩, ⟨some 123, .call { callee := (.value (.func 32)), args := #[(.tmp 121), (.tmp 122)], argTypes := #[25, 49] }, none, []⟩, ⟨some 11, .alloc 39, none, []⟩, ⟨none, .store 39 (.tmp 11) (.tmp 123), none, []⟩]) (.seq (.seq (.reg [⟨some 124, .fieldAddr 39 (.tmp 10) 0, none, []⟩, ⟨some 125, .load 3 (.tmp 124), none, []⟩, ⟨some 126, .binOp .neq 3 (.tmp 125) (.const (.int .i64 0)) 3, none, []⟩, ⟨some 127, .move (.tmp 126), none, []⟩, ⟨some 128, .fieldAddr 39 (.tmp 11) 0, some (127, false), []⟩, ⟨some 129, .load 3 (.tmp 128), some (127, false), []⟩, ⟨some 130, .binOp .neq 3 (.tmp 129) (.const (.int .i64 0)) 3, some (127, false), []⟩, ⟨some 131, .pick (.tmp 127) (.const (.bool true)) (.tmp 130), none, []⟩, ⟨some 132, .move (.tmp 131), none, []⟩, ⟨some 133, .fieldAddr 39 (.tmp 10) 1, some (132, false), []⟩, ⟨some 134, .fieldAddr 25 (.tmp 133) 2, some (132, false), []⟩, ⟨some 135, .load 23 (.tmp 134), some (132, false), []⟩, ⟨some 136, .call { callee := (.builtin .len), args := #[(.tmp 135)], argTypes := #[23] }, some (132, false), []⟩, ⟨some 137, .binOp .neq 3 (.tmp 136) (.const (.int .i64 2)) 3, some (132, false), []⟩, ⟨some 138, .pick (.tmp 132) (.const (.bool true)) (.tmp 137), none, []⟩, ⟨some 139, .move (.tmp 138), none, []⟩, ⟨some 140, .fieldAddr 39 (.tmp 11) 1, some (139, false), []⟩, ⟨some 141, .fieldAddr 25 (.tmp 140) 2, some (139, false), []⟩, ⟨some 142, .load 23 (.tmp 141), some (139, false), []⟩, ⟨some 143, .call { callee := (.builtin .len), args := #[(.tmp 142)], argTypes := #[23] }, some (139, false), []⟩, ⟨some 144, .binOp .neq 3 (.tmp 143) (.const (.int .i64 2)) 3, some (139, false), []⟩, ⟨some 145, .pick (.tmp 139) (.const (.bool true)) (.tmp 144), none, []⟩]) (.cond (.tmp 145) (.seq (.reg [⟨some 2, .assign (.const (.bool false)), none, []⟩]) .ret) .skip)) (.seq (.reg [⟨some 146, .fieldAddr 39 (.tmp 10) 1, none, []⟩, ⟨some 147, .fieldAddr 25 (.tmp 146) 2, none, []⟩, ⟨some 148, .load 23 (.tmp 147), none, []⟩, ⟨some 149, .indexAddr 23 (.tmp 148) (.const (.int .i64 0)), none, []⟩, ⟨some 150, .fieldAddr 43 (.tmp 149) 1, none, []⟩, ⟨some 151, .load 40 (.tmp 150), none, []⟩, ⟨some 152, .call { callee := (.builtin .len), args := #[(.tmp 151)], argTypes := #[40] }, none, []⟩, ⟨some 153, .move (.tmp 4), none, []⟩, ⟨some 154, .binOp .eql 3 (.tmp 152) (.tmp 153) 3, none, []⟩, ⟨some 155, .move (.tmp 154), none, []⟩, ⟨some 156, .fieldAddr 39 (.tmp 11) 1, some (155, true), []⟩, ⟨some 157, .fieldAddr 25 (.tmp 156) 2, some (155, true), []⟩, ⟨some 158, .load 23 (.tmp 157), some (155, true), []⟩, ⟨some 159, .indexAddr 23 (.tmp 158) (.const (.int .i64 0)), some (155, true), []⟩, ⟨some 160, .fieldAddr 43 (.tmp 159) 1, some (155, true), []⟩, ⟨some 161, .load 40 (.tmp 160), some (155, true), []⟩, ⟨some 162, .call { callee := (.builtin .len), args := #[(.tmp 161)], argTypes := #[40] }, some (155, true), []⟩, ⟨some 163, .move (.tmp 5), some (155, true), []⟩, ⟨some 164, .binOp .eql 3 (.tmp 162) (.tmp 163) 3, some (155, true), []⟩, ⟨some 165, .pick (.tmp 155) (.tmp 164) (.const (.bool false)), none, []⟩, ⟨some 166, .move (.tmp 165), none, []⟩, ⟨some 167, .fieldAddr 39 (.tmp 11) 1, some (166, true), []⟩, ⟨some 168, .fieldAddr 25 (.tmp 167) 2, some (166, true), []⟩, ⟨some 169, .load 23 (.tmp 168), some (166, true), []⟩, ⟨some 170, .indexAddr 23 (.tmp 169) (.const (.int .i64 0)), some (166, true), []⟩, ⟨some 171, .fieldAddr 43 (.tmp 170) 3, some (166, true), []⟩, ⟨some 172, .load 3 (.tmp 171), some (166, true), []⟩, ⟨some 173, .binOp .eql 3 (.tmp 172) (.const (.int .i64 (-1))) 3, some (166, true), []⟩, ⟨some 174, .pick (.tmp 166) (.tmp 173) (.const (.bool false)), none, []⟩, ⟨some 175, .move (.tmp 174), none, []⟩, ⟨some 176, .fieldAddr 39 (.tmp 11) 1, some (175, true), []⟩, ⟨some 177, .load 25 (.tmp 176), some (175, true), []⟩, ⟨some 178, .move (.tmp 4), some (175, true), []⟩, ⟨some 179, .binOp .sub 3 (.tmp 178) (.const (.int .i64 1)) 3, some (175, true), []⟩, ⟨some 180, .build 49 #[(0, (.const (.int .i64 1))), (1, (.const (.int .i64 1))), (2, (.tmp 179))], some (175, true), []⟩, ⟨some 181, .call { callee := (.value (.func 32)), args := #[(.tmp 177), (.tmp 180)], argTypes := #[25, 49] }, some (175, true), []⟩, ⟨some 182, .field 39 (.tmp 181) 0, some (175, true), []⟩, ⟨some 183, .binOp .eql 3 (.tmp 182) (.const (.int .i64 0)) 3, some (175, true), []⟩, ⟨some 184, .pick (.tmp 175) (.tmp 183) (.const (.bool false)), none, []⟩, ⟨some 2, .assign (.tmp 184), none, []⟩]) .ret))))))))))))))))
theorem s6 : Try.f6.body.bind (stripC 185) = some B6 := by kernel_rfl
theorem lawBack_ac {H : Heap} {E : List Nat} {v : Value} {bs : List Int} (h : RS 1 RBy H E v bs) : AC Try.prog 6 [v] H (.bool true) H [] := by
  obtain ⟨a1, c1, rfl⟩ := h.form
  have hn := h.1
  refine AC.of_pureS (N := 185) Try.func6 s6 (by kernel_rfl) rfl rfl (by simp) rfl ?_; unfold B6
  by_cases q : bs.length ≤ 1048576
  case neg =>
    have q' : (1048576 : Int) < bs.length := by omega
    repeat (first | refine sk_seq ?_ | refine sk_block ?_ | refine sk_blk ?_ | refine sk_skip ?_ | refine sk_exit rfl ?_ | refine sk_cond_t rfl ?_ | refine sk_cond_f rfl ?_ | ((first | refine sk_reg fun K hK => ?_ | refine sk_drw mix fun K hK => ?_); simp [q']; refine hK _ ?_; clear hK K))
    refine sk_ret ?_; simp
  have q' : ¬ (1048576 : Int) < bs.length := by omega
  have r0 := byB_rng h.prop 0
  have r1 := byB_rng h.prop 1
  have r2 := byB_rng h.prop 2
  have w0 : AC Try.prog 31 [.slice a1 bs.length c1, iv 0] H (iv (byB bs 0)) H [] := wByte_ac h 0 (by omega)
  have w1 : AC Try.prog 31 [.slice a1 bs.length c1, iv 1] H (iv (byB bs 1)) H [] := wByte_ac h 1 (by omega)
  have w2 : AC Try.prog 31 [.slice a1 bs.length c1, iv 2] H (iv (byB bs 2)) H [] := wByte_ac h 2 (by omega)
  obtain ⟨N, hN, hN2, hN21⟩ : ∃ N : Nat, 2 + (byB bs 0).tmod 20 = N ∧ 2 ≤ N ∧ N ≤ 21 := by
    rw [Int.tmod_eq_emod_of_nonneg r0.1]
    exact ⟨(2 + byB bs 0 % 20).toNat, by omega, by omega, by omega⟩
  obtain ⟨e, he, he1, heN⟩ : ∃ e : Nat, 1 + (byB bs 1).tmod N = e ∧ 1 ≤ e ∧ e ≤ N := by
    rw [Int.tmod_eq_emod_of_nonneg r1.1]
    have h1 := Int.emod_nonneg (byB bs 1) (show (N : Int) ≠ 0 by omega)
    have h2 := Int.emod_lt_of_pos (byB bs 1) (show (0 : Int) < N by omega)
    exact ⟨(1 + byB bs 1 % N).toNat, by omega, by omega, by omega⟩
  obtain ⟨t, ht, hte⟩ : ∃ t : Nat, (byB bs 2).tmod e = t ∧ t < e := by
    rw [Int.tmod_eq_emod_of_nonneg r2.1]
    have h1 := Int.emod_nonneg (byB bs 2) (show (e : Int) ≠ 0 by omega)
    have h2 := Int.emod_lt_of_pos (byB bs 2) (show (0 : Int) < e by omega)
    exact ⟨(byB bs 2 % e).toNat, by omega, by omega⟩
  have f0 := intA_rem (k := .i64) (a := byB bs 0) (b := 20) (by decide)
  have f1 := intA_rem (k := .i64) (a := byB bs 1) (b := (N : Int)) (by omega)
  have f2 := intA_rem (k := .i64) (a := byB bs 2) (b := (e : Int)) (by omega)
  rw [ht] at f2
  have hwN : IntKind.i64.wrap (2 + (byB bs 0).tmod 20) = N := by rw [hN]; exact wrap_id (by omega) (by omega)
  have hwe : IntKind.i64.wrap (1 + (byB bs 1).tmod N) = e := by rw [he]; exact wrap_id (by omega) (by omega)
  repeat (first | refine sk_seq ?_ | refine sk_block ?_ | refine sk_blk ?_ | refine sk_skip ?_ | refine sk_exit rfl ?_ | refine sk_cond_t rfl ?_ | refine sk_cond_f rfl ?_ | ((first | refine sk_reg fun K hK => ?_ | refine sk_drw mix fun K hK => ?_); simp [q', f0, f1, f2, hwN, hwe]; (repeat ((first | refine AskX.go (w0) ?_ | refine AskD.go (w0) ?_ | refine AskX.go (w1) ?_ | refine AskD.go (w1) ?_ | refine AskX.go (w2) ?_ | refine AskD.go (w2) ?_); simp [q', f0, f1, f2, hwN, hwe])); refine hK _ ?_; clear hK K))
  refine sk_loop (fun m ts H' => ∃ (k : Nat) (vl : Value) (A : List Nat), k ≤ N ∧ m = N - k ∧ Gro H H' ∧ RW 49 3 REv H' A vl (addsE k) ∧ Own H' A ∧ (∀ e, e ∈ A → H.length ≤ e) ∧ ts = [(3, iv N), (4, iv e), (5, iv t), (6, vl), (7, iv k)]) N _ ?_ ⟨0, nl, [], by omega, rfl, Gro.refl _, .inl ⟨rfl, rfl, rfl⟩, own_nil _, fun i hi => by simp at hi, rfl⟩ ?_
  · simp [subL, getT]
  rintro m ts H1 ⟨k, vl, A, hk, rfl, hg, ra, oa, la, rfl⟩
  have hl1 := hg.len
  by_cases hlt : k < N
  · have hak : (addsE k).length = k := addsE_len k
    obtain ⟨k', v', H3, A', e1, e2, e3, e4, e5, e6, e7⟩ := app_one (P := Try.prog) (t := 31) (e := 49) (sz := 2) (by' := 24) (z := .agg #[iv 0, iv 0, iv 0]) (by simp) (by simp) (by simp) (by simp) rfl (RP.frm cEv) ra oa (x := ⟨1, 0, k⟩) (cx := [iv 1, iv 0, iv k]) (Ex := []) ⟨rfl, rfl⟩ (own_nil _) (fun j _ hj => by simp at hj) rfl rfl (by rw [hak]; omega) (by rw [hak]; simp [maxLen]; omega)
    have hwr : wrO H.length [] k' := fun j hj => .inl (la j (e2 j hj).1)
    have hw := wrap_id (x := (k : Int) + 1) (by omega) (by omega)
    repeat (first | refine sk_seq ?_ | refine sk_block ?_ | refine sk_blk ?_ | refine sk_skip ?_ | refine sk_exit rfl ?_ | refine sk_cond_t rfl ?_ | refine sk_cond_f rfl ?_ | ((first | refine sk_reg fun K hK => ?_ | refine sk_drw mix fun K hK => ?_); simp [hlt, e1, hwr, hl1, hw]; refine hK _ ?_; clear hK K))
    refine sk_inv ⟨N - (k + 1), _, by omega, ?_, k + 1, v', A', by omega, rfl, ?_, ?_, e6, fun j hj => ?_, rfl⟩
    · simp [subL, getT]
    · exact Gro.of (by show H.length ≤ H3.length; omega) fun j hj => (e4 j (by omega) fun hh => by have := la j hh; omega).trans (hg.same hj)
    · have : addsE (k + 1) = addsE k ++ [⟨1, 0, k⟩] := by simp [addsE, List.range_succ]
      rw [this]; exact e5
    · rcases e7 j hj with hh | hh | hh
      · exact la j hh
      · simp at hh
      · omega
  obtain rfl : k = N := by omega
  have hak : (addsE k).length = k := addsE_len k
  obtain ⟨k', v', H3, A', e1, e2, e3, e4, e5, e6, e7⟩ := app_many (P := Try.prog) (t := 31) (e := 49) (sz := 2) (by' := 24) (z := .agg #[iv 0, iv 0, iv 0]) (by simp) (by simp) (by simp) (by simp) rfl (RP.frm cEv) ra oa (ys := [⟨2, 0, e⟩, ⟨2, 0, t⟩, ⟨5, 0, t⟩]) (cx := [iv 2, iv 0, iv e, iv 2, iv 0, iv t, iv 5, iv 0, iv t]) (Ex := [])
    (RCs.plain (sz := 3) (g := cEv) (fun _ => rfl) H1 [⟨2, 0, e⟩, ⟨2, 0, t⟩, ⟨5, 0, t⟩]) (own_nil _) (fun j _ hj => by simp at hj) rfl (by rw [hak]; simp; omega) (by rw [hak]; simp [maxLen]; omega)
  have hwr : wrO H.length [] k' := fun j hj => .inl (la j (e2 j hj).1)
  simp only [List.length_cons, List.length_nil] at e1
  have hg3 : Gro H H3 := Gro.of (by omega) fun j hj => (e4 j (by omega) fun hh => by have := la j hh; omega).trans (hg.same hj)
  have hl3 := hg3.len
  have r3 := e5.rs (by rw [List.length_append, hak]; simp; omega)
  rw [show addsE k ++ [⟨2, 0, (e : Int)⟩, ⟨2, 0, (t : Int)⟩, ⟨5, 0, (t : Int)⟩] = backE k e t from rfl] at r3
  have hbl := backE_len k e t
  obtain ⟨a3, c3, rfl⟩ := r3.form
  repeat (first | refine sk_seq ?_ | refine sk_block ?_ | refine sk_blk ?_ | refine sk_skip ?_ | refine sk_exit rfl ?_ | refine sk_cond_t rfl ?_ | refine sk_cond_f rfl ?_ | ((first | refine sk_reg fun K hK => ?_ | refine sk_drw mix fun K hK => ?_); simp [hlt, e1, hwr, hl1]; refine hK _ ?_; clear hK K))
  refine sk_reg fun K hK => ?_; simp
  refine AskX.mkr (implRun_mk r3 (k : Int) 2) ?_; rintro w8 J8 A8 r8 o8 n8; simp
  refine hK _ ?_; clear hK K
  have hrun := back_run (n := k) (e := e) (t := t) (by omega) hN21 heN he1 hte
  obtain ⟨D, hD, hlen, hlast⟩ : ∃ D, runB k 2 (backE k e t) = D ∧ D.length = k + 3 ∧ ∀ (M : Nat) (hM : M = k + 2) (h2 : M < D.length), D[M] = ⟨0, bkT k e (g3T e t) t⟩ := by
    have hl : (goB (bkT k 0 [⟨0, 0⟩] (-1)) (addsE k ++ [⟨2, 0, e⟩, ⟨2, 0, t⟩])).length = k + 2 := by rw [goB_len]; simp [addsE_len]
    refine ⟨_, hrun, by rw [List.length_append, hl]; rfl, fun M hM h2 => ?_⟩
    subst hM
    rw [List.getElem_append_right (by omega)]
    simp [hl]
  rw [hD] at r8
  clear hrun hD
  obtain ⟨M, hM⟩ : ∃ M, M = k + 2 := ⟨_, rfl⟩
  have hwM : IntKind.i64.wrap ((k : Int) + 2) = (M : Int) := by rw [wrap_id (by omega) (by omega)]; omega
  have hb1 := back1 (n := k) (e := e) (t := t) (by omega) hN21 heN he1 hte
  have hb2 := back2 (n := k) (e := e) (t := t) (by omega) hN21 heN he1 hte
  have hb3 := back3 (n := k) (e := e) (t := t) (by omega) hN21 heN he1 hte
  have hb4 := back4 (n := k) (e := e) (t := t) (by omega) hN21 heN he1 hte
  have hb5 := back5 (n := k) (e := e) (t := t) (by omega) hN21 heN he1 hte
  obtain ⟨id8, p8, Ek8, cs8, hv8, hid8, _, _, hR8, hsz8, hc8⟩ := r8.at (k := M) (by omega)
  rw [hlast M hM] at hR8
  obtain ⟨_, rfl, vb, rfl, rb⟩ := hR8
  rw [hlen] at hv8
  subst hv8
  have hMk : (M : Int) < (k : Int) + 3 := by omega
  have g8 := hg3.app J8
  generalize hH4 : H3 ++ J8 = H4 at *
  have hl4 := g8.len
  have c0 : CF H4 id8 (p8 + M * 4) (iv 0) := fun L => by have := hc8 0 _ rfl L; simpa using this
  have c1 : CF H4 id8 (p8 + M * 4 + 1) (.bool true) := fun L => hc8 1 _ rfl L
  have c2 : CF H4 id8 (p8 + M * 4 + 2) (iv k) := fun L => hc8 2 _ rfl L
  have c3 : CF H4 id8 (p8 + M * 4 + 3) vb := fun L => hc8 3 _ rfl L
  obtain ⟨idb, ob, y1, y2, F1, F2, hvb, hidb, d0, d1, d2, d3, rw1, rg1, yo1, yo2, _⟩ := rb.line (k := 0) (by simp [bkT])
  have hx1 := rw1.form
  have xvb := rb.one
  obtain ⟨a5, c5, hy1⟩ := hx1
  simp only [bkT, List.getElem_cons_zero, rngI_len, List.length_cons, List.length_nil, Nat.zero_mul, Nat.add_zero, Nat.zero_add] at hvb d0 d1 d2 d3 hy1
  subst hvb
  subst hy1
  have hte' : (t : Int) ≠ -1 := by omega
  repeat (first | refine sk_seq ?_ | refine sk_block ?_ | refine sk_blk ?_ | refine sk_skip ?_ | refine sk_exit rfl ?_ | refine sk_cond_t rfl ?_ | refine sk_cond_f rfl ?_ | ((first | refine sk_reg fun K hK => ?_ | refine sk_drw mix fun K hK => ?_); simp [hbl, hlen, hwM, hMk, c0.s, c1.s, c2.s, c3.s, d0.s, d1.s, d2.s, d3.s, hl4, hte']; refine hK _ ?_; clear hK K))
  have hrbA : ∀ H', Gro H4 H' → RBk H' Ek8 (bkT k e (g3T e t) t) [.bool true, iv k, sl idb ob 2] := fun H' g => ⟨_, rfl, rb.gro g RLn.frm⟩
  have hwe1 : IntKind.i64.wrap ((e : Int) - 1) = (e : Int) - 1 := wrap_id (by omega) (by omega)
  by_cases hen : e < k
  · have hb2' := hb2 hen
    refine sk_reg fun K hK => ?_; simp [hwe1]
    refine AskX.mkr (implDoX_mk (hrbA _ (by first | exact Gro.refl _ | exact ⟨_, rfl⟩ | exact ⟨_, by simp only [List.append_assoc, List.cons_append, List.nil_append]; rfl⟩ | exact ⟨[], by simp⟩)) ⟨1, 1, (e : Int) - 1⟩) ?_; rintro _ J1 A1 ⟨_, rfl, _, rfl, v1, rfl, q1⟩ o1 n1; simp [hb1, hen, q1.one, q1.cv, hwe1]
    refine AskX.mkr (implDoX_mk (hrbA _ (by first | exact Gro.refl _ | exact ⟨_, rfl⟩ | exact ⟨_, by simp only [List.append_assoc, List.cons_append, List.nil_append]; rfl⟩ | exact ⟨[], by simp⟩)) ⟨1, 1, (e : Int)⟩) ?_; rintro _ J2 A2 ⟨_, rfl, _, rfl, v2, rfl, q2⟩ o2 n2; simp [hb2', hen, q2.one, q2.cv, hwe1]
    refine hK _ ?_; clear hK K
    repeat (first | refine sk_seq ?_ | refine sk_block ?_ | refine sk_blk ?_ | refine sk_skip ?_ | refine sk_exit rfl ?_ | refine sk_cond_t rfl ?_ | refine sk_cond_f rfl ?_ | ((first | refine sk_reg fun K hK => ?_ | refine sk_drw mix fun K hK => ?_); simp; refine hK _ ?_; clear hK K))
    refine sk_at [(3, iv k), (4, iv e), (5, iv t), (9, pt H4.length 0)] (fun H5 => Gro H4 H5 ∧ H5[H4.length]? = some ⟨25, [.bool true, iv k, sl idb ob 2], true, true⟩) (by simp [subL, getT]) ⟨Gro.one _ _, by simp⟩ ?_
    rintro H5 ⟨g5, hx9⟩
    have hl5 := g5.len
    have z0 : CF H5 H4.length 0 (.bool true) := CF.of hx9 rfl rfl
    have z1 : CF H5 H4.length 1 (iv k) := CF.of hx9 rfl rfl
    have z2 : CF H5 H4.length 2 (sl idb ob 2) := CF.of hx9 rfl rfl
    have hl50 : H.length ≤ H5.length := by omega
    have hz5 : ∀ n, H.length ≤ H5.length + n := fun n => by omega
    refine sk_reg fun K hK => ?_; simp [z0.s, z1.s, z2.s]
    refine AskX.mkr (implDoX_mk (hrbA _ (g5.trans (by first | exact Gro.refl _ | exact ⟨_, rfl⟩ | exact ⟨_, by simp only [List.append_assoc, List.cons_append, List.nil_append]; rfl⟩ | exact ⟨[], by simp⟩))) ⟨3, 0, 1⟩) ?_; rintro _ J3 A3 ⟨_, rfl, _, rfl, v3, rfl, q3⟩ o3 n3; simp [hb3, q3.one, q3.cv, hl50, hz5]
    refine hK _ ?_; clear hK K
    rw [hb3] at q3
    refine sk_seq ?_
    refine sk_reg fun K hK => ?_; simp [z0.s, z1.s, z2.s]
    refine AskX.mkr (implDoX_mk (hrbA _ (g5.trans (by first | exact Gro.refl _ | exact ⟨_, rfl⟩ | exact ⟨_, by simp only [List.append_assoc, List.cons_append, List.nil_append]; rfl⟩ | exact ⟨[], by simp⟩))) ⟨3, 0, 2⟩) ?_; rintro _ J4 A4 ⟨_, rfl, _, rfl, v4, rfl, q4⟩ o4 n4; simp [hb4, q4.one, q4.cv, hl50, hz5]
    refine hK _ ?_; clear hK K
    rw [hb4] at q4
    have xq3 := q3.one
    have xq4 := q4.one
    obtain ⟨T10, hT10⟩ : ∃ T, T = H5.length + J3.length := ⟨_, rfl⟩
    obtain ⟨T11, hT11⟩ : ∃ T, T = H5.length + (J3.length + (J4.length + 1)) := ⟨_, rfl⟩
    refine sk_at [(3, iv k), (4, iv e), (5, iv t), (10, pt T10 0), (11, pt T11 0)] (fun H6 => Gro H4 H6 ∧ H6[T10]? = some ⟨39, [iv 0, .bool true, iv k, v3], true, true⟩ ∧ H6[T11]? = some ⟨39, [iv 0, .bool true, iv k, v4], true, true⟩ ∧ RS 4 RLn H6 A3 v3 [⟨0, rngI e, [⟨1, e⟩, ⟨2, t⟩], t⟩, line0] ∧ RS 4 RLn H6 A4 v4 (bkT k t [⟨2, t⟩] (-1)).lines) (by simp [subL, getT, hT10, hT11]) ?_ ?_
    · refine ⟨g5.trans (Gro.one _ _), ?_, ?_, q3.gro (by first | exact Gro.refl _ | exact ⟨_, rfl⟩ | exact ⟨_, by simp only [List.append_assoc, List.cons_append, List.nil_append]; rfl⟩ | exact ⟨[], by simp⟩) RLn.frm, q4.gro (by first | exact Gro.refl _ | exact ⟨_, rfl⟩ | exact ⟨_, by simp only [List.append_assoc, List.cons_append, List.nil_append]; rfl⟩ | exact ⟨[], by simp⟩) RLn.frm⟩
      · show (H5 ++ _)[T10]? = _
        rw [hT10, List.getElem?_append_right (by omega), Nat.add_sub_cancel_left]
        simp
      · show (H5 ++ _)[T11]? = _
        rw [hT11, List.getElem?_append_right (by omega), Nat.add_sub_cancel_left, List.getElem?_append_right (by omega), Nat.add_sub_cancel_left]
        simp
        exact ⟨rfl, rfl⟩
    clear q3 q4 o3 o4 n3 n4
    rintro H6 ⟨g6, ht10, ht11, q3, q4⟩
    have hl6 := g6.len
    have m0 : CF H6 T10 0 (iv 0) := CF.of ht10 rfl rfl
    have m3 : CF H6 T10 3 v3 := CF.of ht10 rfl rfl
    have l0 : CF H6 T11 0 (iv 0) := CF.of ht11 rfl rfl
    have l1 : CF H6 T11 1 (.bool true) := CF.of ht11 rfl rfl
    have l2 : CF H6 T11 2 (iv k) := CF.of ht11 rfl rfl
    have l3 : CF H6 T11 3 v4 := CF.of ht11 rfl rfl
    have hx4 := q4
    obtain ⟨id3, o3, w3, _, _, _, hv3, _, _, i1, _, _, wy3, _, _, _, _⟩ := q3.line (k := 0) (by simp)
    obtain ⟨id4, o4, w4, _, _, _, hv4, _, _, k1, _, k3, wy4, _, _, _, _⟩ := q4.line (k := 0) (by simp [bkT])
    obtain ⟨a6, c6, hw3⟩ := wy3.form
    obtain ⟨a7, c7, hw4⟩ := wy4.form
    simp only [bkT, List.getElem_cons_zero, rngI_len, List.length_cons, List.length_nil, Nat.zero_mul, Nat.add_zero, Nat.zero_add] at hv3 hv4 i1 k1 k3 hw3 hw4
    subst hv3
    subst hv4
    subst hw3
    subst hw4
    repeat (first | refine sk_seq ?_ | refine sk_block ?_ | refine sk_blk ?_ | refine sk_skip ?_ | refine sk_exit rfl ?_ | refine sk_cond_t rfl ?_ | refine sk_cond_f rfl ?_ | ((first | refine sk_reg fun K hK => ?_ | refine sk_drw mix fun K hK => ?_); simp [m0.s, m3.s, l0.s, l1.s, l2.s, l3.s, i1.s, k1.s, k3.s, hwe1]; refine hK _ ?_; clear hK K))
    refine sk_reg fun K hK => ?_; simp [m0.s, m3.s, l0.s, l1.s, l2.s, l3.s, i1.s, k1.s, k3.s, hwe1]
    refine AskX.mkr (implDoX_mk (show RBk _ A4 (bkT k t [⟨2, t⟩] (-1)) [.bool true, iv k, sl id4 o4 2] from ⟨_, rfl, q4.gro (by first | exact Gro.refl _ | exact ⟨_, rfl⟩ | exact ⟨_, by simp only [List.append_assoc, List.cons_append, List.nil_append]; rfl⟩ | exact ⟨[], by simp⟩) RLn.frm⟩) ⟨1, 1, (e : Int) - 1⟩) ?_; rintro _ J5 A5 ⟨_, rfl, _, rfl, v5, rfl, q5⟩ o5 n5; simp [hb5]
    refine hK _ ?_; clear hK K
    refine sk_ret ?_; simp
    obtain ⟨K, rfl⟩ := g8.trans g6
    exact ⟨_, List.append_assoc _ _ _⟩
  · refine sk_reg fun K hK => ?_; simp [hwe1]
    refine AskX.mkr (implDoX_mk (hrbA _ (by first | exact Gro.refl _ | exact ⟨_, rfl⟩ | exact ⟨_, by simp only [List.append_assoc, List.cons_append, List.nil_append]; rfl⟩ | exact ⟨[], by simp⟩)) ⟨1, 1, (e : Int) - 1⟩) ?_; rintro _ J1 A1 ⟨_, rfl, _, rfl, v1, rfl, q1⟩ o1 n1; simp [hb1, hen, q1.one, q1.cv, hwe1]
    refine hK _ ?_; clear hK K
    repeat (first | refine sk_seq ?_ | refine sk_block ?_ | refine sk_blk ?_ | refine sk_skip ?_ | refine sk_exit rfl ?_ | refine sk_cond_t rfl ?_ | refine sk_cond_f rfl ?_ | ((first | refine sk_reg fun K hK => ?_ | refine sk_drw mix fun K hK => ?_); simp; refine hK _ ?_; clear hK K))
    refine sk_at [(3, iv k), (4, iv e), (5, iv t), (9, pt H4.length 0)] (fun H5 => Gro H4 H5 ∧ H5[H4.length]? = some ⟨25, [.bool true, iv k, sl idb ob 2], true, true⟩) (by simp [subL, getT]) ⟨Gro.one _ _, by simp⟩ ?_
    rintro H5 ⟨g5, hx9⟩
    have hl5 := g5.len
    have z0 : CF H5 H4.length 0 (.bool true) := CF.of hx9 rfl rfl
    have z1 : CF H5 H4.length 1 (iv k) := CF.of hx9 rfl rfl
    have z2 : CF H5 H4.length 2 (sl idb ob 2) := CF.of hx9 rfl rfl
    have hl50 : H.length ≤ H5.length := by omega
    have hz5 : ∀ n, H.length ≤ H5.length + n := fun n => by omega
    refine sk_reg fun K hK => ?_; simp [z0.s, z1.s, z2.s]
    refine AskX.mkr (implDoX_mk (hrbA _ (g5.trans (by first | exact Gro.refl _ | exact ⟨_, rfl⟩ | exact ⟨_, by simp only [List.append_assoc, List.cons_append, List.nil_append]; rfl⟩ | exact ⟨[], by simp⟩))) ⟨3, 0, 1⟩) ?_; rintro _ J3 A3 ⟨_, rfl, _, rfl, v3, rfl, q3⟩ o3 n3; simp [hb3, q3.one, q3.cv, hl50, hz5]
    refine hK _ ?_; clear hK K
    rw [hb3] at q3
    refine sk_seq ?_
    refine sk_reg fun K hK => ?_; simp [z0.s, z1.s, z2.s]
    refine AskX.mkr (implDoX_mk (hrbA _ (g5.trans (by first | exact Gro.refl _ | exact ⟨_, rfl⟩ | exact ⟨_, by simp only [List.append_assoc, List.cons_append, List.nil_append]; rfl⟩ | exact ⟨[], by simp⟩))) ⟨3, 0, 2⟩) ?_; rintro _ J4 A4 ⟨_, rfl, _, rfl, v4, rfl, q4⟩ o4 n4; simp [hb4, q4.one, q4.cv, hl50, hz5]
    refine hK _ ?_; clear hK K
    rw [hb4] at q4
    have xq3 := q3.one
    have xq4 := q4.one
    obtain ⟨T10, hT10⟩ : ∃ T, T = H5.length + J3.length := ⟨_, rfl⟩
    obtain ⟨T11, hT11⟩ : ∃ T, T = H5.length + (J3.length + (J4.length + 1)) := ⟨_, rfl⟩
    refine sk_at [(3, iv k), (4, iv e), (5, iv t), (10, pt T10 0), (11, pt T11 0)] (fun H6 => Gro H4 H6 ∧ H6[T10]? = some ⟨39, [iv 0, .bool true, iv k, v3], true, true⟩ ∧ H6[T11]? = some ⟨39, [iv 0, .bool true, iv k, v4], true, true⟩ ∧ RS 4 RLn H6 A3 v3 [⟨0, rngI e, [⟨1, e⟩, ⟨2, t⟩], t⟩, line0] ∧ RS 4 RLn H6 A4 v4 (bkT k t [⟨2, t⟩] (-1)).lines) (by simp [subL, getT, hT10, hT11]) ?_ ?_
    · refine ⟨g5.trans (Gro.one _ _), ?_, ?_, q3.gro (by first | exact Gro.refl _ | exact ⟨_, rfl⟩ | exact ⟨_, by simp only [List.append_assoc, List.cons_append, List.nil_append]; rfl⟩ | exact ⟨[], by simp⟩) RLn.frm, q4.gro (by first | exact Gro.refl _ | exact ⟨_, rfl⟩ | exact ⟨_, by simp only [List.append_assoc, List.cons_append, List.nil_append]; rfl⟩ | exact ⟨[], by simp⟩) RLn.frm⟩
      · show (H5 ++ _)[T10]? = _
        rw [hT10, List.getElem?_append_right (by omega), Nat.add_sub_cancel_left]
        simp
      · show (H5 ++ _)[T11]? = _
        rw [hT11, List.getElem?_append_right (by omega), Nat.add_sub_cancel_left, List.getElem?_append_right (by omega), Nat.add_sub_cancel_left]
        simp
        exact ⟨rfl, rfl⟩
    clear q3 q4 o3 o4 n3 n4
    rintro H6 ⟨g6, ht10, ht11, q3, q4⟩
    have hl6 := g6.len
    have m0 : CF H6 T10 0 (iv 0) := CF.of ht10 rfl rfl
    have m3 : CF H6 T10 3 v3 := CF.of ht10 rfl rfl
    have l0 : CF H6 T11 0 (iv 0) := CF.of ht11 rfl rfl
    have l1 : CF H6 T11 1 (.bool true) := CF.of ht11 rfl rfl
    have l2 : CF H6 T11 2 (iv k) := CF.of ht11 rfl rfl
    have l3 : CF H6 T11 3 v4 := CF.of ht11 rfl rfl
    have hx4 := q4
    obtain ⟨id3, o3, w3, _, _, _, hv3, _, _, i1, _, _, wy3, _, _, _, _⟩ := q3.line (k := 0) (by simp)
    obtain ⟨id4, o4, w4, _, _, _, hv4, _, _, k1, _, k3, wy4, _, _, _, _⟩ := q4.line (k := 0) (by simp [bkT])
    obtain ⟨a6, c6, hw3⟩ := wy3.form
    obtain ⟨a7, c7, hw4⟩ := wy4.form
    simp only [bkT, List.getElem_cons_zero, rngI_len, List.length_cons, List.length_nil, Nat.zero_mul, Nat.add_zero, Nat.zero_add] at hv3 hv4 i1 k1 k3 hw3 hw4
    subst hv3
    subst hv4
    subst hw3
    subst hw4
    repeat (first | refine sk_seq ?_ | refine sk_block ?_ | refine sk_blk ?_ | refine sk_skip ?_ | refine sk_exit rfl ?_ | refine sk_cond_t rfl ?_ | refine sk_cond_f rfl ?_ | ((first | refine sk_reg fun K hK => ?_ | refine sk_drw mix fun K hK => ?_); simp [m0.s, m3.s, l0.s, l1.s, l2.s, l3.s, i1.s, k1.s, k3.s, hwe1]; refine hK _ ?_; clear hK K))
    refine sk_reg fun K hK => ?_; simp [m0.s, m3.s, l0.s, l1.s, l2.s, l3.s, i1.s, k1.s, k3.s, hwe1]
    refine AskX.mkr (implDoX_mk (show RBk _ A4 (bkT k t [⟨2, t⟩] (-1)) [.bool true, iv k, sl id4 o4 2] from ⟨_, rfl, q4.gro (by first | exact Gro.refl _ | exact ⟨_, rfl⟩ | exact ⟨_, by simp only [List.append_assoc, List.cons_append, List.nil_append]; rfl⟩ | exact ⟨[], by simp⟩) RLn.frm⟩) ⟨1, 1, (e : Int) - 1⟩) ?_; rintro _ J5 A5 ⟨_, rfl, _, rfl, v5, rfl, q5⟩ o5 n5; simp [hb5]
    refine hK _ ?_; clear hK K
    refine sk_ret ?_; simp
    obtain ⟨K, rfl⟩ := g8.trans g6
    exact ⟨_, List.append_assoc _ _ _⟩
end Go.Proofs.Ytpoedfmkiiijnaa
