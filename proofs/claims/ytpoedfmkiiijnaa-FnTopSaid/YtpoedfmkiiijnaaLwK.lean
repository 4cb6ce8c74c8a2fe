/- The statement's own function FnTop: it answers true. A walk. -/
import Derived.Test.YtpoedfmkiiijnaaDw3
import Derived.Test.YtpoedfmkiiijnaaRn1
import Derived.Test.YtpoedfmkiiijnaaRn2
import Derived.Test.YtpoedfmkiiijnaaBk6
import Derived.Test.YtpoedfmkiiijnaaPuA
import Derived.Test.YtpoedfmkiiijnaaW1
namespace Go.Proofs.Ytpoedfmkiiijnaa
open Go Go.RowKit Go.Proofs.YtpoedfmkiiijnaaAm
set_option linter.unusedVariables false
set_option linter.unusedSimpArgs false
set_option maxRecDepth 10000
set_option maxHeartbeats 8000000
theorem CF.atL {H : Heap} {id j : Nat} {x : Value} (h : Heap.cell H id j = some x) : CF H id j x := fun L => by
  have hlt := Heap.lt_of_live (Heap.live_of_cell h)
  unfold Heap.cell at h ⊢
  rw [List.getElem?_append_left hlt]; exact h
theorem cfCell {H : Heap} {id j : Nat} {x : Value} (h : CF H id j x) : Heap.cell H id j = some x := by have := h []; simpa using this
theorem cfMk {E : List Nat} {H H' : Heap} {id j : Nat} {x : Value} (h : CF H id j x) (m : MK E H H') (hn : id ∉ E) : CF H' id j x := CF.atL (by rw [m.cellEq hn]; exact cfCell h)
theorem RF.own {H : Heap} {id : Nat} (h : Heap.rwOk H id = true) : RF H id := fun L => by
  have hlt := Heap.lt_of_live (Heap.live_of_rwOk h)
  unfold Heap.rwOk at h ⊢
  rw [List.getElem?_append_left hlt]; exact h
def B5 : SC := .seq (.reg [⟨some 2, .assign (.const (.bool false)), none, []⟩]) (.seq (.seq (.reg [⟨some 12, .move (.tmp 0), none, []⟩, ⟨some 13, .call { callee := (.builtin .len), args := #[(.tmp 12)], argTypes := #[30] }, none, []⟩, ⟨some 14, .binOp .gtr 3 (.tmp 13) (.const (.int .i64 1048576)) 3, none, []⟩]) (.cond (.tmp 14) (.seq (.reg [⟨some 2, .assign (.const (.bool true)), none, []⟩]) .ret) .skip)) (.seq (.reg [⟨some 16, .move (.tmp 0), none, []⟩, ⟨some 17, .call { callee := (.value (.func 25)), args := #[(.tmp 16)], argTypes := #[30] }, none, []⟩, ⟨some 15, .move (.tmp 17), none, []⟩, ⟨some 18, .extract (.tmp 15) 0, none, []⟩, ⟨some 19, .extract (.tmp 15) 1, none, []⟩, ⟨some 20, .extract (.tmp 15) 2, none, []⟩, ⟨some 3, .assign (.tmp 18), none, []⟩, ⟨some 4, .assign (.tmp 19), none, []⟩, ⟨some 5, .assign (.tmp 20), none, []⟩]) (.seq (.reg [⟨some 21, .move (.tmp 3), none, []⟩, ⟨some 22, .move (.tmp 4), none, []⟩, ⟨some 23, .move (.tmp 5), none, []⟩, ⟨some 24, .call { callee := (.value (.func 26)), args := #[(.tmp 21), (.tmp 22), (.tmp 23)], argTypes := #[3, 3, 31] }, none, []⟩, ⟨some 6, .assign (.tmp 24), none, []⟩]) (.seq (.reg [⟨some 25, .move (.tmp 3), none, []⟩, ⟨some 26, .move (.tmp 4), none, []⟩, ⟨some 27, .move (.tmp 5), none, []⟩, ⟨some 28, .call { callee := (.value (.func 27)), args := #[(.tmp 25), (.tmp 26), (.tmp 27)], argTypes := #[3, 3, 31] }, none, []⟩, ⟨some 7, .assign (.tmp 28), none, []⟩]) (.seq (.seq (.reg [⟨some 29, .move (.tmp 7), none, []⟩, ⟨some 30, .move (.tmp 6), none, []⟩, ⟨some 31, .call { callee := (.value (.func 28)), args := #[(.tmp 29), (.tmp 30)], argTypes := #[34, 34] }, none, []⟩, ⟨some 32, .unOp .not 4 (.tmp 31), none, []⟩]) (.cond (.tmp 32) (.seq (.reg [⟨some 2, .assign (.const (.bool false)), none, []⟩]) .ret) .skip)) (.seq (.seq (.reg [⟨some 33, .move (.tmp 7), none, []⟩, ⟨some 34, .call { callee := (.builtin .len), args := #[(.tmp 33)], argTypes := #[34] }, none, []⟩, ⟨some 35, .move (.const (.int .i64 0)), none, []⟩]) (.block 0 (.loop (.seq (.reg [⟨some 36, .binOp .lss 3 (.tmp 35) (.tmp 34) 3, none, []⟩]) (.seq (.cond (.tmp 36) .skip (.exit 0)) (.seq (.block 1 (.seq (.reg [⟨some 37, .move (.tmp 35), none, []⟩, ⟨some 8, .assign (.tmp 37), none, []⟩]) (.seq (.seq (.reg [⟨some 38, .move (.tmp 7), none, []⟩, ⟨some 39, .move (.tmp 8), none, []⟩, ⟨some 40, .indexAddr 34 (.tmp 38) (.tmp 39), none, []⟩, ⟨some 41, .fieldAddr 39 (.tmp 40) 1, none, []⟩, ⟨some 42, .load 25 (.tmp 41), none, []⟩, ⟨some 43, .call { callee := (.value (.func 29)), args := #[(.tmp 42)], argTypes := #[25] }, none, []⟩, ⟨some 44, .binOp .neq 3 (.tmp 43) (.const (.int .i64 0)) 3, none, []⟩]) (.cond (.tmp 44) (.seq (.reg [⟨some 2, .assign (.const (.bool false)), none, []⟩]) .ret) .skip)) (.seq (.seq (.reg [⟨some 45, .move (.tmp 7), none, []⟩, ⟨some 46, .move (.tmp 8), none, []⟩, ⟨some 47, .indexAddr 34 (.tmp 45) (.tmp 46), none, []⟩, ⟨some 48, .fieldAddr 39 (.tmp 47) 1, none, []⟩, ⟨some 49, .fieldAddr 25 (.tmp 48) 2, none, []⟩, ⟨some 50, .load 23 (.tmp 49), none, []⟩, ⟨some 51, .call { callee := (.builtin .len), args := #[(.tmp 50)], argTypes := #[23] }, none, []⟩, ⟨some 52, .move (.const (.int .i64 0)), none, []⟩]) (.block 2 (.loop (.seq (.reg [⟨some 53, .binOp .lss 3 (.tmp 52) (.tmp 51) 3, none, []⟩]) (.seq (.cond (.tmp 53) .skip (.exit 2)) (.seq (.block 3 (.seq (.reg [⟨some 54, .move (.tmp 52), none, []⟩, ⟨some 9, .assign (.tmp 54), none, []⟩]) (.seq (.seq (.reg [⟨some 55, .move (.tmp 7), none, []⟩, ⟨some 56, .move (.tmp 8), none, []⟩, ⟨some 57, .indexAddr 34 (.tmp 55) (.tmp 56), none, []⟩, ⟨some 58, .fieldAddr 39 (.tmp 57) 1, none, []⟩, ⟨some 59, .fieldAddr 25 (.tmp 58) 2, none, []⟩, ⟨some 60, .load 23 (.tmp 59), none, []⟩, ⟨some 61, .move (.tmp 9), none, []⟩, ⟨some 62, .indexAddr 23 (.tmp 60) (.tmp 61), none, []⟩, ⟨some 63, .fieldAddr 43 (.tmp 62) 1, none, []⟩, ⟨some 64, .load 40 (.tmp 63), none, []⟩, ⟨some 65, .call { callee := (.builtin .len), args := #[(.tmp 64)], argTypes := #[40] }, none, []⟩, ⟨some 66, .move (.const (.int .i64 0)), none, []⟩]) (.block 4 (.loop (.seq (.reg [⟨some 67, .binOp .lss 3 (.tmp 66) (.tmp 65) 3, none, []⟩]) (.seq (.cond (.tmp 67) .skip (.exit 4)) (.seq (.block 5 (.seq (.reg [⟨some 68, .move (.tmp 66), none, []⟩, ⟨some 10, .assign (.tmp 68), none, []⟩]) (.reg [⟨some 69, .move (.tmp 7), none, []⟩, ⟨some 70, .move (.tmp 8), none, []⟩, ⟨some 71, .indexAddr 34 (.tmp 69) (.tmp 70), none, []⟩, ⟨some 72, .fieldAddr 39 (.tmp 71) 1, none, []⟩, ⟨some 73, .fieldAddr 25 (.tmp 72) 2, none, []⟩, ⟨some 74, .load 23 (.tmp 73), none, []⟩, ⟨some 75, .move (.tmp 9), none, []⟩, ⟨some 76, .indexAddr 23 (.tmp 74) (.tmp 75), none, []⟩, ⟨some 77, .fieldAddr 43 (.tmp 76) 1, none, []⟩, ⟨some 78, .load 40 (.tmp 77), none, []⟩, ⟨some 79, .move (.tmp 10), none, []⟩, ⟨some 80, .indexAddr 40 (.tmp 78) (.tmp 79), none, []⟩, ⟨none, .store 3 (.tmp 80) (.const (.int .i64 77)), none, []⟩]))) (.reg [⟨some 81, .binOp .add 3 (.tmp 66) (.const (.int .i64 1)) 3, none, []⟩, ⟨some 66, .move (.tmp 81), none, []⟩]))))))) (.seq (.reg [⟨some 82, .move (.tmp 7), none, []⟩, ⟨some 83, .move (.tmp 8), none, []⟩, ⟨some 84, .indexAddr 34 (.tmp 82) (.tmp 83), none, []⟩, ⟨some 85, .fieldAddr 39 (.tmp 84) 1, none, []⟩, ⟨some 86, .fieldAddr 25 (.tmp 85) 2, none, []⟩, ⟨some 87, .load 23 (.tmp 86), none, []⟩, ⟨some 88, .move (.tmp 9), none, []⟩, ⟨some 89, .indexAddr 23 (.tmp 87) (.tmp 88), none, []⟩, ⟨some 90, .fieldAddr 43 (.tmp 89) 2, none, []⟩, ⟨some 91, .load 41 (.tmp 90), none, []⟩, ⟨some 92, .call { callee := (.builtin .len), args := #[(.tmp 91)], argTypes := #[41] }, none, []⟩, ⟨some 93, .move (.const (.int .i64 0)), none, []⟩]) (.block 6 (.loop (.seq (.reg [⟨some 94, .binOp .lss 3 (.tmp 93) (.tmp 92) 3, none, []⟩]) (.seq (.cond (.tmp 94) .skip (.exit 6)) (.seq (.block 7 (.seq (.reg [⟨some 95, .move (.tmp 93), none, []⟩, ⟨some 11, .assign (.tmp 95), none, []⟩]) (.reg [⟨some 96, .move (.tmp 7), none, []⟩, ⟨some 97, .move (.tmp 8), none, []⟩, ⟨some 98, .indexAddr 34 (.tmp 96) (.tmp 97), none, []⟩, ⟨some 99, .fieldAddr 39 (.tmp 98) 1, none, []⟩, ⟨some 100, .fieldAddr 25 (.tmp 99) 2, none, []⟩, ⟨some 101, .load 23 (.tmp 100), none, []⟩, ⟨some 102, .move (.tmp 9), none, []⟩, ⟨some 103, .indexAddr 23 (.tmp 101) (.tmp 102), none, []⟩, ⟨some 104, .fieldAddr 43 (.tmp 103) 2, none, []⟩, ⟨some 105, .load 41 (.tmp 104), none, []⟩, ⟨some 106, .move (.tmp 11), none, []⟩, ⟨some 107, .indexAddr 41 (.tmp 105) (.tmp 106), none, []⟩, ⟨some 108, .fieldAddr 45 (.tmp 107) 1, none, []⟩, ⟨none, .store 3 (.tmp 108) (.const (.int .i64 77)), none, []⟩]))) (.reg [⟨some 109, .binOp .add 3 (.tmp 93) (.const (.int .i64 1)) 3, none, []⟩, ⟨some 93, .move (.tmp 109), none, []⟩])))))))))) (.reg [⟨some 110, .binOp .add 3 (.tmp 52) (.const (.int .i64 1)) 3, none, []⟩, ⟨some 52, .move (.tmp 110), none, []⟩]))))))) (.seq (.drw 0 [⟨some 111, .move (.tmp 8), none, []⟩, ⟨some 112, .binOp .add 3 (.tmp 111) (.const (.int .i64 1)) 3, none, [0]⟩, ⟨some 113, .move (.tmp 7), none, []⟩, ⟨some 114, .call { callee := (.builtin .len), args := #[(.tmp 113)], argTypes := #[34] }, none, [2]⟩, ⟨some 115, .binOp .lss 3 (.tmp 112) (.tmp 114) 3, none, [1, 0, 3, 2]⟩, ⟨some 116, .move (.tmp 115), none, [4, 1, 0, 3, 2]⟩, ⟨some 117, .move (.tmp 7), some (116, true), [5, 4, 1, 0, 3, 2]⟩, ⟨some 118, .move (.tmp 8), some (116, true), [5, 4, 1, 0, 3, 2]⟩, ⟨some 119, .binOp .add 3 (.tmp 118) (.const (.int .i64 1)) 3, some (116, true), [7, 5, 4, 1, 0, 3, 2]⟩, ⟨some 120, .indexAddr 34 (.tmp 117) (.tmp 119), some (116, true), [6, 5, 4, 1, 0, 3, 2, 8, 7]⟩, ⟨some 121, .fieldAddr 39 (.tmp 120) 1, some (116, true), [9, 6, 5, 4, 1, 0, 3, 2, 8, 7]⟩, ⟨some 122, .load 25 (.tmp 121), some (116, true), [10, 9, 6, 5, 4, 1, 0, 3, 2, 8, 7]⟩, ⟨some 123, .move (.tmp 6), some (116, true), [5, 4, 1, 0, 3, 2]⟩, ⟨some 124, .move (.tmp 8), some (116, true), [5, 4, 1, 0, 3, 2]⟩, ⟨some 125, .binOp .add 3 (.tmp 124) (.const (.int .i64 1)) 3, some (116, true), [13, 5, 4, 1, 0, 3, 2]⟩, ⟨some 126, .indexAddr 34 (.tmp 123) (.tmp 125), some (116, true), [12, 5, 4, 1, 0, 3, 2, 14, 13]⟩, ⟨some 127, .fieldAddr 39 (.tmp 126) 1, some (116, true), [15, 12, 5, 4, 1, 0, 3, 2, 14, 13]⟩, ⟨some 128, .load 25 (.tmp 127), some (116, true), [16, 15, 12, 5, 4, 1, 0, 3, 2, 14, 13]⟩, ⟨some 129, .call { callee := (.value (.func 30)), args := #[(.tmp 122), (.tmp 128)], argTypes := #[25, 25] }, some (116, true), [11, 10, 9, 6, 5, 4, 1, 0, 3, 2, 8, 7, 17, 16, 15, 12, 14, 13]⟩, ⟨some 130, .unOp .not 4 (.tmp 129), some (116, true), [18, 11, 10, 9, 6, 5, 4, 1, 0, 3, 2, 8, 7, 17, 16, 15, 12, 14, 13]⟩, ⟨some 131, .pick (.tmp 116) (.tmp 130) (.const (.bool false)), none, [5, 4, 1, 0, 3, 2, 19, 18, 11, 10, 9, 6, 8, 7, 17, 16, 15, 12, 14, 13]⟩]) (.cond (.tmp 131) (.seq (.reg [⟨some 2, .assign (.const (.bool false)), none, []⟩]) .ret) .skip)))))) (.reg [⟨some 132, .binOp .add 3 (.tmp 35) (.const (.int .i64 1)) 3, none, []⟩, ⟨some 35, .move (.tmp 132), none, []⟩]))))))) (.seq (.reg [⟨some 133, .move (.tmp 3), none, []⟩, ⟨some 134, .move (.tmp 4), none, []⟩, ⟨some 135, .move (.tmp 5), none, []⟩, ⟨some 136, .call { callee := (.value (.func 27)), args := #[(.tmp 133), (.tmp 134), (.tmp 135)], argTypes := #[3, 3, 31] }, none, []⟩, ⟨some 137, .move (.tmp 6), none, []⟩, ⟨some 138, .call { callee := (.value (.func 28)), args := #[(.tmp 136), (.tmp 137)], argTypes := #[34, 34] }, none, []⟩, ⟨some 2, .assign (.tmp 138), none, []⟩]) .ret)))))))
theorem s5 : Try.f5.body.bind (stripC 139) = some B5 := by kernel_rfl
theorem lawTop_ac {H : Heap} {E : List Nat} {v : Value} {bs : List Int} (h : RS 1 RBy H E v bs) : AC Try.prog 5 [v] H (.bool true) H [] := by
  obtain ⟨a1, c1, rfl⟩ := h.form
  have hn := h.1
  refine AC.of_pureS (N := 139) Try.func5 s5 (by kernel_rfl) rfl rfl (by simp) rfl ?_; unfold B5
  by_cases q : bs.length ≤ 1048576
  case neg =>
    have q' : (1048576 : Int) < bs.length := by omega
    repeat (first | refine sA ?_ | refine sB ?_ | refine sC ?_ | refine sD ?_ | refine sE rfl ?_ | refine sF rfl ?_ | refine sG rfl ?_ | ((first | refine sk_reg fun K hK => ?_ | refine sk_drw mix fun K hK => ?_); simp [q']; refine hK _ ?_; clear hK K))
    refine sk_ret ?_; simp
  have q' : ¬ (1048576 : Int) < bs.length := by omega
  repeat (first | refine sA ?_ | refine sB ?_ | refine sC ?_ | refine sD ?_ | refine sE rfl ?_ | refine sF rfl ?_ | refine sG rfl ?_ | ((first | refine sk_reg fun K hK => ?_ | refine sk_drw mix fun K hK => ?_); simp [q']; refine hK _ ?_; clear hK K))
  refine sk_reg fun K hK => ?_; simp
  refine AskX.mkr (events_mk h) ?_; rintro _ J1 A1 ⟨s, t, es', ve, rfl, s1, s2, t1, t2, r1, hel⟩ o1 n1; simp [r1.one, r1.cv]
  refine hK _ ?_; clear hK K
  obtain ⟨hrl, hrk⟩ := runB_at (s := s) (t := t) ⟨s1, s2⟩ ⟨t1, t2⟩ hel
  have xve := r1.one
  have yve := r1.cv
  repeat (first | refine sA ?_ | refine sB ?_ | refine sC ?_ | refine sD ?_ | refine sE rfl ?_ | refine sF rfl ?_ | refine sG rfl ?_ | ((first | refine sk_reg fun K hK => ?_ | refine sk_drw mix fun K hK => ?_); simp [xve, yve]; refine hK _ ?_; clear hK K))
  refine sk_reg fun K hK => ?_; simp [xve, yve]
  refine AskX.mkr (specRun_mk (r1.gro (by first | exact Gro.refl _ | exact ⟨_, rfl⟩ | exact ⟨_, by simp only [List.append_assoc, List.cons_append, List.nil_append]; rfl⟩ | exact ⟨[], by simp⟩) (RP.frm _)) s t) ?_; rintro w6 J6 A6 r6 o6 n6; simp [r6.one, r6.cv]
  refine hK _ ?_; clear hK K
  repeat (first | refine sA ?_ | refine sB ?_ | refine sC ?_ | refine sD ?_ | refine sE rfl ?_ | refine sF rfl ?_ | refine sG rfl ?_ | ((first | refine sk_reg fun K hK => ?_ | refine sk_drw mix fun K hK => ?_); simp [xve, yve]; refine hK _ ?_; clear hK K))
  refine sk_reg fun K hK => ?_; simp [xve, yve]
  refine AskX.mkr (implRun_mk (r1.gro (by first | exact Gro.refl _ | exact ⟨_, rfl⟩ | exact ⟨_, by simp only [List.append_assoc, List.cons_append, List.nil_append]; rfl⟩ | exact ⟨[], by simp⟩) (RP.frm _)) s t) ?_; rintro w8 J8 A8 r8 o8 n8; simp [r8.one, r8.cv]
  refine hK _ ?_; clear hK K
  generalize hD : runB s t es' = D at *
  have b1 := r1.bd (RP.frm _)
  have b6 := r6.bd RDn.frm
  have xw6 := r6.one
  have xw8 := r8.one
  refine sk_at [(3, iv s), (4, iv t), (5, ve), (6, w6), (7, w8)] (fun H8 => Gro H H8 ∧ RS 3 REv H8 A1 ve es' ∧ RS 4 RDn H8 A6 w6 D ∧ RS 4 RDn H8 A8 w8 D ∧ Own H8 A8 ∧ (∀ e, e ∈ A1 → e ∉ A8) ∧ (∀ e, e ∈ A6 → e ∉ A8) ∧ ∀ e, e ∈ A8 → H.length ≤ e) (by simp [subL, getT]) ?_ ?_
  · refine ⟨Gro.one _ _, r1.gro (by first | exact Gro.refl _ | exact ⟨_, rfl⟩ | exact ⟨_, by simp only [List.append_assoc, List.cons_append, List.nil_append]; rfl⟩ | exact ⟨[], by simp⟩) (RP.frm _), r6.gro (by first | exact Gro.refl _ | exact ⟨_, rfl⟩ | exact ⟨_, by simp only [List.append_assoc, List.cons_append, List.nil_append]; rfl⟩ | exact ⟨[], by simp⟩) RDn.frm, by simpa only [List.append_assoc] using r8, by simpa only [List.append_assoc] using o8, fun e h1 h2 => ?_, fun e h1 h2 => ?_, fun e h2 => ?_⟩
    · have := b1 e h1; have := n8 e h2; simp only [List.length_append] at *; omega
    · have := b6 e h1; have := n8 e h2; simp only [List.length_append] at *; omega
    · have := n8 e h2; simp only [List.length_append] at *; omega
  clear r1 r6 r8 o1 o6 o8 n1 n6 n8 b1 b6
  rintro H8 ⟨hg, r1, r6, r8, o8, d1, d6, l8⟩
  obtain ⟨a8, c8, rfl⟩ := r8.form
  have hl8 := hg.len
  have aw := wDone_ac r8 r6
  repeat (first | refine sA ?_ | refine sB ?_ | refine sC ?_ | refine sD ?_ | refine sE rfl ?_ | refine sF rfl ?_ | refine sG rfl ?_ | ((first | refine sk_reg fun K hK => ?_ | refine sk_drw mix fun K hK => ?_); simp [xw6]; (repeat ((first | refine AskX.go (aw) ?_ | refine AskD.go (aw) ?_); simp [xw6])); refine hK _ ?_; clear hK K))
  rw [hrl]
  have hn8 : D.length ≤ 100 := by omega
  generalize es'.length = L at hrl
  refine sk_loop (fun m ts H' => ∃ (i : Nat) (D' : List Dn), i ≤ L ∧ m = L - i ∧ MK A8 H8 H' ∧ D'.length = L ∧ (∀ k (h1 : k < D'.length) (h2 : k < D.length), i ≤ k → D'[k] = D[k]) ∧ RS 4 RDn H' A8 (.slice a8 L c8) D' ∧ ts = [(3, iv s), (4, iv t), (5, ve), (6, w6), (7, .slice a8 L c8), (34, iv L), (35, iv i)]) L _ ?_ ⟨0, D, by omega, rfl, MK.refl _ _, hrl, fun k h1 h2 h3 => rfl, by rw [← hrl]; exact r8, rfl⟩ ?_
  · simp [subL, getT, hrl]
  rintro m ts H1 ⟨i, D', hi, rfl, hmk, hDl, hDe, r, rfl⟩
  have hlen1 := hmk.len
  by_cases hlt : i < L
  case neg =>
    obtain rfl : i = L := by omega
    have g1 : Gro H H1 := Gro.of (by omega) fun j hj => (hmk.out j (fun hh => by have := l8 j hh; omega)).trans (hg.same hj)
    have e1 : RS 3 REv H1 A1 ve es' := r1.fr (RP.frm _) fun e he _ => hmk.out e (d1 e he)
    have e6 : RS 4 RDn H1 A6 w6 D := r6.fr RDn.frm fun e he _ => hmk.out e (d6 e he)
    repeat (first | refine sA ?_ | refine sB ?_ | refine sC ?_ | refine sD ?_ | refine sE rfl ?_ | refine sF rfl ?_ | refine sG rfl ?_ | ((first | refine sk_reg fun K hK => ?_ | refine sk_drw mix fun K hK => ?_); simp; refine hK _ ?_; clear hK K))
    refine sk_reg fun K hK => ?_; simp [xve, yve, xw6]
    refine AskX.mkr (implRun_mk e1 s t) ?_; rintro w9 J9 A9 r9 o9 n9; simp [r9.one, r9.cv, xw6]
    rw [hD] at r9
    refine AskX.go (wDone_ac r9 (e6.ext RDn.frm)) ?_; simp
    refine hK _ ?_; clear hK K
    repeat (first | refine sA ?_ | refine sB ?_ | refine sC ?_ | refine sD ?_ | refine sE rfl ?_ | refine sF rfl ?_ | refine sG rfl ?_ | ((first | refine sk_reg fun K hK => ?_ | refine sk_drw mix fun K hK => ?_); simp; refine hK _ ?_; clear hK K))
    refine sk_ret ?_; simp
    obtain ⟨J, rfl⟩ := g1
    exact ⟨_, List.append_assoc _ _ _⟩
  have own1 := o8.mk hmk
  obtain ⟨id, o, Ek, ck, hv, hid, hne, hsub, hndk, hR, hsz, hc, hcl⟩ := r.opn RDn.frm o8.1 (k := i) (by omega)
  rw [hDe i (by omega) (by omega) (Nat.le_refl _)] at hR
  obtain ⟨hbo, hse⟩ := hrk D[i] (List.getElem_mem (by omega))
  generalize hd : D[i] = d at *
  obtain ⟨_, rfl, ul, rfl, rl⟩ := hR
  rw [hDl] at hv
  simp only [Value.slice.injEq, true_and] at hv
  obtain ⟨rfl, rfl⟩ := hv
  have c0 : CF H1 id (o + i * 4) (iv d.code) := CF.atL (by simpa using hc 0 _ rfl)
  have c1 : CF H1 id (o + i * 4 + 1) (.bool d.book.ok) := CF.atL (hc 1 _ rfl)
  have c2 : CF H1 id (o + i * 4 + 2) (iv d.book.sec) := CF.atL (hc 2 _ rfl)
  have c3 : CF H1 id (o + i * 4 + 3) ul := CF.atL (hc 3 _ rfl)
  obtain ⟨au, cu, rfl⟩ := rl.form
  have aok := implBookOk_ac (H := H1) (b := d.book) (cs := [.bool d.book.ok, iv d.book.sec, .slice au d.book.lines.length cu]) ⟨_, rfl, rl⟩
  rw [hbo] at aok
  repeat (first | refine sA ?_ | refine sB ?_ | refine sC ?_ | refine sD ?_ | refine sE rfl ?_ | refine sF rfl ?_ | refine sG rfl ?_ | ((first | refine sk_reg fun K hK => ?_ | refine sk_drw mix fun K hK => ?_); simp [hlt, c0.s, c1.s, c2.s, c3.s]; (repeat ((first | refine AskX.go (aok) ?_ | refine AskD.go (aok) ?_); simp [hlt, c0.s, c1.s, c2.s, c3.s])); refine hK _ ?_; clear hK K))
  have ownk : Own H1 Ek := ⟨hndk, fun e he => own1.2 e (hsub e he)⟩
  have lk : ∀ e, e ∈ Ek → H.length ≤ e := fun e he => l8 e (hsub e he)
  have hwi : IntKind.i64.wrap ((i : Int) + 1) = (i : Int) + 1 := wrap_id (by omega) (by omega)
  obtain ⟨hs1, hs2, hnl, _⟩ := bookOk_sec hbo
  generalize hN : d.book.lines.length = N at *
  refine sk_loop (fun m ts H' => ∃ (j : Nat) (ls : List Ln), j ≤ N ∧ m = N - j ∧ MK Ek H1 H' ∧ ls.length = N ∧ RS 4 RLn H' Ek (.slice au N cu) ls ∧ ts = [(3, iv s), (4, iv t), (5, ve), (6, w6), (7, sl id o L), (34, iv L), (35, iv i), (8, iv i), (51, iv N), (52, iv j)]) N _ ?_ ⟨0, d.book.lines, by omega, rfl, MK.refl _ _, hN, rl, rfl⟩ ?_
  · simp [subL, getT]
  clear aok
  rintro m ts H2 ⟨j, ls, hj, rfl, hm2, hll, r2, rfl⟩
  have hlen2 := hm2.len
  have k3 := cfMk c3 hm2 hne
  by_cases hjt : j < N
  case neg =>
    obtain rfl : j = N := by omega
    have k0 := cfMk c0 hm2 hne
    have k1 := cfMk c1 hm2 hne
    have k2 := cfMk c2 hm2 hne
    have rD := hcl H2 ⟨d.code, { d.book with lines := ls }⟩ [iv d.code, .bool d.book.ok, iv d.book.sec, .slice au j cu] rfl ⟨_, rfl, _, rfl, r2⟩ (fun e he h1 h2 => hm2.out e h2) (fun a z b hb hbc ha => by rw [hm2.out id hne, hb]; cases b; simp only at hbc; subst hbc; rfl)
    have hDe' : ∀ k (h1 : k < (D'.set i ⟨d.code, { d.book with lines := ls }⟩).length) (h2 : k < D.length), i + 1 ≤ k → (D'.set i ⟨d.code, { d.book with lines := ls }⟩)[k] = D[k] := fun k h1 h2 h3 => by
      rw [List.getElem_set_ne (by omega)]
      exact hDe k (by simpa using h1) h2 (by omega)
    have hmk2 := hmk.trans (hm2.sub hsub)
    have hDl' : (D'.set i ⟨d.code, { d.book with lines := ls }⟩).length = L := by rw [List.length_set]; exact hDl
    generalize D'.set i ⟨d.code, { d.book with lines := ls }⟩ = D'' at *
    obtain ⟨i1, hi1e⟩ : ∃ i1, i1 = i + 1 := ⟨_, rfl⟩
    have hwi' : IntKind.i64.wrap ((i : Int) + 1) = (i1 : Int) := by rw [hwi]; omega
    rw [← hi1e] at hDe'
    by_cases hi1 : i1 < L
    · have e6 : RS 4 RDn H2 A6 w6 D := r6.fr RDn.frm fun e he _ => hmk2.out e (d6 e he)
      have hq1 : i1 < D''.length := by omega
      have hq2 : i1 < D.length := by omega
      obtain ⟨id', o', Ek', cs', hv', hid', _, _, hR', hsz', hc'⟩ := rD.at hq1
      rw [hDe' i1 hq1 hq2 (Nat.le_refl _)] at hR'
      obtain ⟨_, rfl, ul', rfl, rl'⟩ := hR'
      obtain ⟨id6, o6', Ek6, cs6, hv6, hid6, _, _, hR6, hsz6, hc6⟩ := e6.at hq2
      obtain ⟨_, rfl, ul6, rfl, rl6⟩ := hR6
      generalize D[i1] = d' at *
      rw [hDl'] at hv'
      rw [hrl] at hv6
      subst hv6
      simp only [Value.slice.injEq, Option.some.injEq, Addr.mk.injEq, and_true] at hv'
      obtain ⟨rfl, rfl⟩ := hv'
      have z1 : CF H2 id (o + i1 * 4 + 1) (.bool d'.book.ok) := fun L => hc' 1 _ rfl L
      have z2 : CF H2 id (o + i1 * 4 + 2) (iv d'.book.sec) := fun L => hc' 2 _ rfl L
      have z3 : CF H2 id (o + i1 * 4 + 3) ul' := fun L => hc' 3 _ rfl L
      have y1 : CF H2 id6 (o6' + i1 * 4 + 1) (.bool d'.book.ok) := fun L => hc6 1 _ rfl L
      have y2 : CF H2 id6 (o6' + i1 * 4 + 2) (iv d'.book.sec) := fun L => hc6 2 _ rfl L
      have y3 : CF H2 id6 (o6' + i1 * 4 + 3) ul6 := fun L => hc6 3 _ rfl L
      have aco := wBook_ac rl' rl6
      repeat (first | refine sA ?_ | refine sB ?_ | refine sC ?_ | refine sD ?_ | refine sE rfl ?_ | refine sF rfl ?_ | refine sG rfl ?_ | ((first | refine sk_reg fun K hK => ?_ | refine sk_drw mix fun K hK => ?_); simp [hwi', hi1, z1.s, z2.s, z3.s, y1.s, y2.s, y3.s, rl'.one, rl6.one]; (repeat ((first | refine AskX.go (aco) ?_ | refine AskD.go (aco) ?_); simp [hwi', hi1, z1.s, z2.s, z3.s, y1.s, y2.s, y3.s, rl'.one, rl6.one])); refine hK _ ?_; clear hK K))
      refine sk_inv ⟨L - i1, _, by omega, ?_, i1, D'', by omega, rfl, hmk2, hDl', hDe', rD, rfl⟩
      simp [subL, getT]
    · repeat (first | refine sA ?_ | refine sB ?_ | refine sC ?_ | refine sD ?_ | refine sE rfl ?_ | refine sF rfl ?_ | refine sG rfl ?_ | ((first | refine sk_reg fun K hK => ?_ | refine sk_drw mix fun K hK => ?_); simp [hwi', hi1]; refine hK _ ?_; clear hK K))
      refine sk_inv ⟨L - i1, _, by omega, ?_, i1, D'', by omega, rfl, hmk2, hDl', hDe', rD, rfl⟩
      simp [subL, getT]
  have own2 := ownk.mk hm2
  have hjl : j < ls.length := by omega
  obtain ⟨id2, o2, Ek2, ck2, hv2, hid2, hne2, hsub2, hndk2, hR2, hsz2, hc2, hcl2⟩ := r2.opn RLn.frm hndk hjl
  obtain ⟨l, hl⟩ : ∃ l, l = ls[j] := ⟨_, rfl⟩
  rw [← hl] at hR2
  obtain ⟨E1, E2, v1, v2, rfl, rfl, hw, hg2⟩ := hR2
  rw [hll] at hv2
  simp only [Value.slice.injEq, true_and] at hv2
  obtain ⟨rfl, rfl⟩ := hv2
  have own22 : Own H2 (E1 ++ E2) := ⟨hndk2, fun e he => own2.2 e (hsub2 e he)⟩
  have hap := own22.apart
  have nE1 : id2 ∉ E1 := fun he => hne2 (by simp [he])
  have nE2 : id2 ∉ E2 := fun he => hne2 (by simp [he])
  have iE1 : id ∉ E1 := fun he => hne (hsub2 id (by simp [he]))
  have iE2 : id ∉ E2 := fun he => hne (hsub2 id (by simp [he]))
  have u0 : CF H2 id2 (o2 + j * 4) (iv l.gone) := CF.atL (by simpa using hc2 0 _ rfl)
  have u1 : CF H2 id2 (o2 + j * 4 + 1) v1 := CF.atL (hc2 1 _ rfl)
  have u2 : CF H2 id2 (o2 + j * 4 + 2) v2 := CF.atL (hc2 2 _ rfl)
  obtain ⟨aw, cw, rfl⟩ := hw.form
  obtain ⟨ag, cg, rfl⟩ := hg2.form
  have hwn := hw.1
  have hgn := hg2.1
  generalize hW : l.way.length = W at *
  generalize hG : l.grs.length = G at *
  repeat (first | refine sA ?_ | refine sB ?_ | refine sC ?_ | refine sD ?_ | refine sE rfl ?_ | refine sF rfl ?_ | refine sG rfl ?_ | ((first | refine sk_reg fun K hK => ?_ | refine sk_drw mix fun K hK => ?_); simp [hlt, hjt, k3.s, u1.s]; refine hK _ ?_; clear hK K))
  refine sk_loop (fun m ts H' => ∃ (w : Nat) (xs : List Int), w ≤ W ∧ m = W - w ∧ MK E1 H2 H' ∧ xs.length = W ∧ RS 1 RInt H' E1 (.slice aw W cw) xs ∧ ts = [(3, iv s), (4, iv t), (5, ve), (6, w6), (7, sl id o L), (34, iv L), (35, iv i), (8, iv i), (51, iv N), (52, iv j), (9, iv j), (65, iv W), (66, iv w)]) W _ ?_ ⟨0, l.way, by omega, rfl, MK.refl _ _, hW, hw, rfl⟩ ?_
  · simp [subL, getT]
  rintro m ts H3 ⟨w, xs, hwW, rfl, hm3, hxl, rx, rfl⟩
  by_cases hwt : w < W
  · obtain ⟨id3, o3, E3, ck3, hv3, hid3, hne3, _, _, hR3, _, hc3, hput3, _⟩ := rx.put1 (RP.frm _) own22.left.1 (k := w) (by omega)
    obtain ⟨rfl, rfl⟩ := hR3
    rw [hxl] at hv3
    simp only [Value.slice.injEq, true_and] at hv3
    obtain ⟨rfl, rfl⟩ := hv3
    have q3 : CF H3 id3 (o3 + w) (iv xs[w]) := CF.atL (by simpa using hc3 0 _ rfl)
    have qr := RF.own ((own22.left.mk hm3).2 id3 hid3)
    have h3 := cfMk k3 hm3 iE1
    have h1 := cfMk u1 hm3 nE1
    have lid3 : H.length ≤ id3 := lk id3 (hsub2 id3 (by simp [hid3]))
    have hww : IntKind.i64.wrap ((w : Int) + 1) = (w : Int) + 1 := wrap_id (by omega) (by omega)
    have hp := hput3 0 (iv 77) 77 (by omega) ⟨rfl, rfl⟩
    simp only [Nat.mul_one, Nat.add_zero] at hp
    repeat (first | refine sA ?_ | refine sB ?_ | refine sC ?_ | refine sD ?_ | refine sE rfl ?_ | refine sF rfl ?_ | refine sG rfl ?_ | ((first | refine sk_reg fun K hK => ?_ | refine sk_drw mix fun K hK => ?_); simp [hwt, hlt, hjt, h3.s, h1.s, q3.s, qr.s, lid3, hww]; refine hK _ ?_; clear hK K))
    refine sk_inv ⟨W - (w + 1), _, by omega, ?_, w + 1, xs.set w 77, by omega, rfl, hm3.trans (MK.put _ _ hid3 rfl), by rw [List.length_set]; exact hxl, hp, rfl⟩
    simp [subL, getT]
  obtain rfl : w = W := by omega
  have hg3 : RS 2 RGr H3 E2 (.slice ag G cg) l.grs := hg2.fr (RP.frm _) fun e he _ => hm3.out e fun hh => hap e hh he
  have k3' := cfMk k3 hm3 iE1
  have u2' := cfMk u2 hm3 nE1
  repeat (first | refine sA ?_ | refine sB ?_ | refine sC ?_ | refine sD ?_ | refine sE rfl ?_ | refine sF rfl ?_ | refine sG rfl ?_ | ((first | refine sk_reg fun K hK => ?_ | refine sk_drw mix fun K hK => ?_); simp [hlt, hjt, k3'.s, u2'.s]; refine hK _ ?_; clear hK K))
  refine sk_loop (fun m ts H' => ∃ (w : Nat) (gs : List Gr), w ≤ G ∧ m = G - w ∧ MK E2 H3 H' ∧ gs.length = G ∧ RS 2 RGr H' E2 (.slice ag G cg) gs ∧ ts = [(3, iv s), (4, iv t), (5, ve), (6, w6), (7, sl id o L), (34, iv L), (35, iv i), (8, iv i), (51, iv N), (52, iv j), (9, iv j), (92, iv G), (93, iv w)]) G _ ?_ ⟨0, l.grs, by omega, rfl, MK.refl _ _, hG, hg3, rfl⟩ ?_
  · simp [subL, getT]
  clear hg3
  rintro m ts H4 ⟨y, gs, hyG, rfl, hm4, hgl, rg, rfl⟩
  by_cases hyt : y < G
  · obtain ⟨id3, o3, E3, ck3, hv3, hid3, hne3, _, _, hR3, _, hc3, hput3, _⟩ := rg.put1 (RP.frm _) own22.right.1 (k := y) (by omega)
    obtain ⟨rfl, rfl⟩ := hR3
    rw [hgl] at hv3
    simp only [Value.slice.injEq, true_and] at hv3
    obtain ⟨rfl, rfl⟩ := hv3
    have q3 : CF H4 id3 (o3 + y * 2 + 1) (iv gs[y].cel) := CF.atL (hc3 1 _ rfl)
    have qr := RF.own (((own22.right.mk hm3).mk hm4).2 id3 hid3)
    have h3 := cfMk k3' hm4 iE2
    have h1 := cfMk u2' hm4 nE2
    have lid3 : H.length ≤ id3 := lk id3 (hsub2 id3 (by simp [hid3]))
    have hww : IntKind.i64.wrap ((y : Int) + 1) = (y : Int) + 1 := wrap_id (by omega) (by omega)
    have hp := hput3 1 (iv 77) ⟨gs[y].ver, 77⟩ (by omega) ⟨rfl, rfl⟩
    repeat (first | refine sA ?_ | refine sB ?_ | refine sC ?_ | refine sD ?_ | refine sE rfl ?_ | refine sF rfl ?_ | refine sG rfl ?_ | ((first | refine sk_reg fun K hK => ?_ | refine sk_drw mix fun K hK => ?_); simp [hyt, hlt, hjt, h3.s, h1.s, q3.s, qr.s, lid3, hww]; refine hK _ ?_; clear hK K))
    refine sk_inv ⟨G - (y + 1), _, by omega, ?_, y + 1, gs.set y ⟨gs[y].ver, 77⟩, by omega, rfl, hm4.trans (MK.put _ _ hid3 rfl), by rw [List.length_set]; exact hgl, hp, rfl⟩
    simp [subL, getT]
  obtain rfl : y = G := by omega
  have hwj : IntKind.i64.wrap ((j : Int) + 1) = (j : Int) + 1 := wrap_id (by omega) (by omega)
  have hx4 : RS 1 RInt H4 E1 (.slice aw w cw) xs := rx.fr (RP.frm _) fun e he _ => hm4.out e (hap e he)
  have hm24 : MK (E1 ++ E2) H2 H4 := (hm3.sub fun e he => List.mem_append_left _ he).trans (hm4.sub fun e he => List.mem_append_right _ he)
  have rL := hcl2 H4 ⟨l.gone, xs, gs, l.drop⟩ [iv l.gone, .slice aw w cw, .slice ag y cg, iv l.drop] rfl ⟨E1, E2, _, _, rfl, rfl, hx4, rg⟩ (fun e he h1 h2 => hm24.out e h2) (fun a z b hb hbc ha => by rw [hm24.out id2 hne2, hb]; cases b; simp only at hbc; subst hbc; rfl)
  repeat (first | refine sA ?_ | refine sB ?_ | refine sC ?_ | refine sD ?_ | refine sE rfl ?_ | refine sF rfl ?_ | refine sG rfl ?_ | ((first | refine sk_reg fun K hK => ?_ | refine sk_drw mix fun K hK => ?_); simp [hwj]; refine hK _ ?_; clear hK K))
  refine sk_inv ⟨N - (j + 1), _, by omega, ?_, j + 1, _, by omega, rfl, hm2.trans (hm24.sub hsub2), by rw [List.length_set]; exact hll, rL, rfl⟩
  simp [subL, getT]
end Go.Proofs.Ytpoedfmkiiijnaa
