/- The statement's own function FnExactDo: it answers true. A walk. -/
import Derived.Test.YtpoedfmkiiijnaaDo7
namespace Go.Proofs.Ytpoedfmkiiijnaa
open Go Go.RowKit Go.Proofs.YtpoedfmkiiijnaaAm
set_option linter.unusedVariables false
set_option linter.unusedSimpArgs false
set_option maxRecDepth 10000
set_option maxHeartbeats 8000000
theorem get_x (X J : Heap) (y : Blk) {i : Nat} (h : X.length < i) : (X ++ y :: J)[i]? = J[i - (X.length + 1)]? := by
  rw [List.getElem?_append_right (by omega), show i - X.length = (i - (X.length + 1)) + 1 by omega]; rfl
def B16 : SC := .seq (.reg [⟨some 2, .box 53 (.tmp 0), none, []⟩, ⟨some 3, .box 58 (.tmp 1), none, []⟩, ⟨some 4, .assign (.const (.bool false)), none, []⟩]) (.seq (.reg [⟨some 5, .assign (.const (.int .i64 1048576)), none, []⟩]) (.seq (.reg [⟨some 13, .load 53 (.tmp 2), none, []⟩, ⟨some 14, .move (.tmp 5), none, []⟩, ⟨some 15, .call { callee := (.value (.func 33)), args := #[(.tmp 13), (.tmp 14)], argTypes := #[53, 3] }, none, []⟩, ⟨some 5, .assign (.tmp 15), none, []⟩]) (.seq (.seq (.reg [⟨some 16, .move (.tmp 5), none, []⟩, ⟨some 17, .binOp .lss 3 (.tmp 16) (.const (.int .i64 0)) 3, none, []⟩]) (.cond (.tmp 17) (.seq (.reg [⟨some 4, .assign (.const (.bool true)), none, []⟩]) .ret) .skip)) (.seq (.drw 1 [⟨some 18, .load 53 (.tmp 2), none, []⟩, ⟨some 19, .call { callee := (.value (.func 35)), args := #[(.tmp 18)], argTypes := #[53] }, none, [0]⟩, ⟨some 20, .load 58 (.tmp 3), none, []⟩, ⟨some 21, .call { callee := (.value (.func 39)), args := #[(.tmp 20)], argTypes := #[58] }, none, [2, 1, 0]⟩, ⟨some 22, .call { callee := (.value (.func 58)), args := #[(.tmp 19), (.tmp 21)], argTypes := #[25, 49] }, none, [1, 0, 3, 2]⟩, ⟨some 6, .alloc 39, none, []⟩, ⟨none, .store 39 (.tmp 6) (.tmp 22), none, [5, 4, 1, 0, 3, 2]⟩]) (.seq (.reg [⟨some 23, .load 53 (.tmp 2), none, []⟩, ⟨some 24, .call { callee := (.value (.func 35)), args := #[(.tmp 23)], argTypes := #[53] }, none, []⟩, ⟨some 7, .alloc 25, none, []⟩, ⟨none, .store 25 (.tmp 7) (.tmp 24), none, []⟩]) (.seq (.drw 1 [⟨some 25, .load 25 (.tmp 7), none, []⟩, ⟨some 26, .load 58 (.tmp 3), none, []⟩, ⟨some 27, .call { callee := (.value (.func 39)), args := #[(.tmp 26)], argTypes := #[58] }, none, [1]⟩, ⟨some 28, .call { callee := (.value (.func 32)), args := #[(.tmp 25), (.tmp 27)], argTypes := #[25, 49] }, none, [0, 2, 1]⟩, ⟨some 8, .alloc 39, none, []⟩, ⟨none, .store 39 (.tmp 8) (.tmp 28), none, [4, 3, 0, 2, 1]⟩]) (.seq (.seq (.reg [⟨some 29, .load 39 (.tmp 8), none, []⟩, ⟨some 30, .load 39 (.tmp 6), none, []⟩, ⟨some 31, .call { callee := (.value (.func 59)), args := #[(.tmp 29), (.tmp 30)], argTypes := #[39, 39] }, none, []⟩, ⟨some 32, .unOp .not 4 (.tmp 31), none, []⟩]) (.cond (.tmp 32) (.seq (.reg [⟨some 4, .assign (.const (.bool false)), none, []⟩]) .ret) .skip)) (.seq (.seq (.drw 0 [⟨some 33, .load 25 (.tmp 7), none, []⟩, ⟨some 34, .load 53 (.tmp 2), none, []⟩, ⟨some 35, .call { callee := (.value (.func 35)), args := #[(.tmp 34)], argTypes := #[53] }, none, [1]⟩, ⟨some 36, .call { callee := (.value (.func 22)), args := #[(.tmp 33), (.tmp 35)], argTypes := #[25, 25] }, none, [0, 2, 1]⟩, ⟨some 37, .unOp .not 4 (.tmp 36), none, [3, 0, 2, 1]⟩]) (.cond (.tmp 37) (.seq (.reg [⟨some 4, .assign (.const (.bool false)), none, []⟩]) .ret) .skip)) (.seq (.reg [⟨some 9, .assign (.const (.int .i64 1)), none, []⟩]) (.seq (.reg [⟨some 38, .load 25 (.tmp 7), none, []⟩, ⟨some 39, .move (.tmp 9), none, []⟩, ⟨some 40, .call { callee := (.value (.func 23)), args := #[(.tmp 38), (.tmp 39)], argTypes := #[25, 3] }, none, []⟩, ⟨some 9, .assign (.tmp 40), none, []⟩]) (.seq (.seq (.reg [⟨some 41, .move (.tmp 9), none, []⟩, ⟨some 42, .binOp .lss 3 (.tmp 41) (.const (.int .i64 0)) 3, none, []⟩, ⟨some 43, .move (.tmp 42), none, []⟩, ⟨some 44, .load 39 (.tmp 8), some (43, false), []⟩, ⟨some 45, .load 39 (.tmp 6), some (43, false), []⟩, ⟨some 46, .call { callee := (.value (.func 59)), args := #[(.tmp 44), (.tmp 45)], argTypes := #[39, 39] }, some (43, false), []⟩, ⟨some 47, .unOp .not 4 (.tmp 46), some (43, false), []⟩, ⟨some 48, .pick (.tmp 43) (.const (.bool true)) (.tmp 47), none, []⟩]) (.cond (.tmp 48) (.seq (.reg [⟨some 4, .assign (.const (.bool false)), none, []⟩]) .ret) .skip)) (.seq (.reg [⟨some 10, .assign (.const (.int .i64 1)), none, []⟩]) (.seq (.reg [⟨some 49, .load 39 (.tmp 8), none, []⟩, ⟨some 50, .move (.tmp 10), none, []⟩, ⟨some 51, .call { callee := (.value (.func 60)), args := #[(.tmp 49), (.tmp 50)], argTypes := #[39, 3] }, none, []⟩, ⟨some 10, .assign (.tmp 51), none, []⟩]) (.seq (.reg [⟨some 11, .assign (.const (.int .i64 1)), none, []⟩]) (.seq (.reg [⟨some 52, .load 39 (.tmp 8), none, []⟩, ⟨some 53, .move (.tmp 11), none, []⟩, ⟨some 54, .call { callee := (.value (.func 61)), args := #[(.tmp 52), (.tmp 53)], argTypes := #[39, 3] }, none, []⟩, ⟨some 11, .assign (.tmp 54), none, []⟩]) (.seq (.seq (.reg [⟨some 55, .move (.tmp 11), none, []⟩, ⟨some 56, .binOp .lss 3 (.tmp 55) (.const (.int .i64 0)) 3, none, []⟩]) (.cond (.tmp 56) (.seq (.reg [⟨some 4, .assign (.const (.bool false)), none, []⟩]) .ret) .skip)) (.seq (.seq (.reg [⟨some 57, .move (.tmp 11), none, []⟩, ⟨some 58, .move (.tmp 10), none, []⟩, ⟨some 59, .binOp .neq 3 (.tmp 57) (.tmp 58) 3, none, []⟩]) (.cond (.tmp 59) (.seq (.reg [⟨some 4, .assign (.const (.bool false)), none, []⟩]) .ret) .skip)) (.seq (.drw 1 [⟨some 60, .load 53 (.tmp 2), none, []⟩, ⟨some 61, .call { callee := (.value (.func 35)), args := #[(.tmp 60)], argTypes := #[53] }, none, [0]⟩, ⟨some 62, .load 58 (.tmp 3), none, []⟩, ⟨some 63, .call { callee := (.value (.func 39)), args := #[(.tmp 62)], argTypes := #[58] }, none, [2, 1, 0]⟩, ⟨some 64, .call { callee := (.value (.func 32)), args := #[(.tmp 61), (.tmp 63)], argTypes := #[25, 49] }, none, [1, 0, 3, 2]⟩, ⟨some 12, .alloc 39, none, []⟩, ⟨none, .store 39 (.tmp 12) (.tmp 64), none, [5, 4, 1, 0, 3, 2]⟩]) (.seq (.seq (.reg [⟨some 65, .load 39 (.tmp 12), none, []⟩, ⟨some 66, .load 39 (.tmp 6), none, []⟩, ⟨some 67, .call { callee := (.value (.func 59)), args := #[(.tmp 65), (.tmp 66)], argTypes := #[39, 39] }, none, []⟩, ⟨some 68, .unOp .not 4 (.tmp 67), none, []⟩]) (.cond (.tmp 68) (.seq (.reg [⟨some 4, .assign (.const (.bool false)), none, []⟩]) .ret) .skip)) (.seq (.reg [⟨some 11, .assign (.const (.int .i64 1)), none, []⟩]) (.seq (.reg [⟨some 69, .load 39 (.tmp 8), none, []⟩, ⟨some 70, .move (.tmp 11), none, []⟩, ⟨some 71, .call { callee := (.value (.func 61)), args := #[(.tmp 69), (.tmp 70)], argTypes := #[39, 3] }, none, []⟩, ⟨some 11, .assign (.tmp 71), none, []⟩]) (.seq (.seq (.reg [⟨some 72, .move (.tmp 11), none, []⟩, ⟨some 73, .binOp .lss 3 (.tmp 72) (.const (.int .i64 0)) 3, none, []⟩]) (.cond (.tmp 73) (.seq (.reg [⟨some 4, .assign (.const (.bool false)), none, []⟩]) .ret) .skip)) (.seq (.seq (.reg [⟨some 74, .move (.tmp 11), none, []⟩, ⟨some 75, .move (.tmp 10), none, []⟩, ⟨some 76, .binOp .neq 3 (.tmp 74) (.tmp 75) 3, none, []⟩]) (.cond (.tmp 76) (.seq (.reg [⟨some 4, .assign (.const (.bool false)), none, []⟩]) .ret) .skip)) (.seq (.reg [⟨some 4, .assign (.const (.bool true)), none, []⟩]) .ret))))))))))))))))))))))))
theorem s16 : Try.f16.body.bind (stripC 77) = some B16 := by kernel_rfl
theorem lawDo_ac {H : Heap} {E : List Nat} {b : Bk} {cs : List Value} (h : RBk H E b cs) (e : Evt) : AC Try.prog 16 [.agg cs.toArray, vEv e] H (.bool true) H [] := by
  have h0 := h
  obtain ⟨v, rfl, hv⟩ := h
  have x := hv.one
  have s0 := fun L : Heap => szBook_ac (H := H ++ L) (RBk.frm.ext h0) (a := 1048576) (by omega)
  have te := fun L : Heap => toEvent_ac (H := H ++ L) e
  simp only [cEv] at te
  refine AC.of_pureS (N := 77) Try.func16 s16 (by kernel_rfl) rfl rfl (by simp) rfl ?_; unfold B16
  by_cases q : szLs b.lines ≤ 1048576
  case neg =>
    rw [subN_no q] at s0
    repeat (first | refine sk_seq ?_ | refine sk_block ?_ | refine sk_blk ?_ | refine sk_skip ?_ | refine sk_exit rfl ?_ | refine sk_cond_t rfl ?_ | refine sk_cond_f rfl ?_ | (refine sk_reg fun K hK => ?_; simp [x]; (repeat (first | (refine AskX.go (s0 _) ?_; simp [x]))); refine hK _ ?_; clear hK K) | (refine sk_drw mix fun K hK => ?_; simp [x]; (repeat (first | (refine AskD.go (s0 _) ?_; simp [x]))); refine hK _ ?_; clear hK K))
    refine sk_ret ?_; simp
  rw [subN_lt q] at s0
  have q' : ¬ ((1048576 : Int) - szLs b.lines < 0) := by omega
  repeat (first | refine sk_seq ?_ | refine sk_block ?_ | refine sk_blk ?_ | refine sk_skip ?_ | refine sk_exit rfl ?_ | refine sk_cond_t rfl ?_ | refine sk_cond_f rfl ?_ | (refine sk_reg fun K hK => ?_; simp [x, q']; (repeat (first | (refine AskX.go (s0 _) ?_; simp [x, q']))); refine hK _ ?_; clear hK K) | (refine sk_drw mix fun K hK => ?_; simp [x, q']; (repeat (first | (refine AskD.go (s0 _) ?_; simp [x, q']))); refine hK _ ?_; clear hK K))
  refine sk_drw mix fun K hK => ?_; simp [x]
  refine AskD.mkr (toBook_mk (RBk.frm.gro h0 (by first | exact Gro.refl _ | exact ⟨_, rfl⟩ | exact ⟨_, by simp only [List.append_assoc, List.cons_append, List.nil_append]; rfl⟩ | exact ⟨[], by simp⟩)) q) ?_; rintro w J1 A1 ⟨cs1, rfl, w1, rfl, r1⟩ o1 n1; simp [x]
  refine AskD.go (te _) ?_; simp
  refine AskD.mkr (specDo_mk (RBk.frm.gro (show RBk _ _ _ _ from ⟨w1, rfl, r1⟩) (by first | exact Gro.refl _ | exact ⟨_, rfl⟩ | exact ⟨_, by simp only [List.append_assoc, List.cons_append, List.nil_append]; rfl⟩ | exact ⟨[], by simp⟩)) e) ?_; rintro _ J2 A2 ⟨cs2, rfl, c2, rfl, w2, rfl, r2⟩ o2 n2; simp [x, r2.one, r2.cv]
  refine hK _ ?_; clear hK K
  repeat (first | refine sk_seq ?_ | refine sk_block ?_ | refine sk_blk ?_ | refine sk_skip ?_ | refine sk_exit rfl ?_ | refine sk_cond_t rfl ?_ | refine sk_cond_f rfl ?_ | (refine sk_reg fun K hK => ?_; simp; refine hK _ ?_; clear hK K) | (refine sk_drw mix fun K hK => ?_; simp; refine hK _ ?_; clear hK K))
  refine sk_reg fun K hK => ?_; simp [x]
  refine AskX.mkr (toBook_mk (RBk.frm.gro h0 (by first | exact Gro.refl _ | exact ⟨_, rfl⟩ | exact ⟨_, by simp only [List.append_assoc, List.cons_append, List.nil_append]; rfl⟩ | exact ⟨[], by simp⟩)) q) ?_; rintro _ J3 A3 ⟨cs3, rfl, w3, rfl, r3⟩ o3 n3; simp [r3.one, r3.cv]
  refine hK _ ?_; clear hK K
  refine sk_seq ?_
  refine sk_drw mix fun K hK => ?_; simp [x, r3.one, r3.cv]
  refine AskD.go (te _) ?_; simp
  refine AskD.mkr (implDoX_mk (RBk.frm.gro (show RBk _ _ _ _ from ⟨w3, rfl, r3⟩) (by first | exact Gro.refl _ | exact ⟨_, rfl⟩ | exact ⟨_, by simp only [List.append_assoc, List.cons_append, List.nil_append]; rfl⟩ | exact ⟨[], by simp⟩)) e) ?_; rintro _ J4 A4 ⟨cs4, rfl, c4, rfl, w4, rfl, r4⟩ o4 n4; simp [x, r4.one, r4.cv]
  refine hK _ ?_; clear hK K
  have hcb := cnBk_doB b e
  have hcb' := cnBk_sz b
  have hnnb : 0 ≤ cnBk b := cnL_nn cnLn_nn b.lines
  have hidx := fun (H' : Heap) (E' : List Nat) (c : List Value) (h : RBk H' E' b c) => implDoX_mk h e
  generalize hDd : doB b e = D at *
  have hnnd : 0 ≤ cnBk D.book := cnL_nn cnLn_nn D.book.lines
  have l2 := o2.lt
  have l3 := o3.lt
  simp only [List.append_assoc, List.cons_append, List.nil_append, List.length_append, List.length_cons, List.length_nil] at r2 o2 n2 l2 r3 o3 n3 l3 r4 o4 n4
  obtain ⟨P7, hP7⟩ : ∃ P, P = H.length + (J1.length + (J2.length + J3.length) + 3) := ⟨_, rfl⟩
  obtain ⟨P8, hP8⟩ : ∃ P, P = P7 + 1 := ⟨_, rfl⟩
  obtain ⟨Q2, hQ2⟩ : ∃ Q, Q = H.length + 3 + J1.length + J2.length := ⟨_, rfl⟩
  refine sk_at [(2, pt H.length 0), (3, pt (H.length + 1) 0), (6, pt (H.length + 2) 0), (7, pt P7 0), (8, pt P8 0)]
    (fun H1 => Gro H H1 ∧ H1[H.length]? = some ⟨53, [.bool b.ok, iv b.sec, v], true, true⟩ ∧ H1[H.length + 1]? = some ⟨58, [iv e.op, iv e.train, iv e.n], true, true⟩ ∧ H1[H.length + 2]? = some ⟨39, [iv D.code, .bool D.book.ok, iv D.book.sec, w2], true, true⟩ ∧
      H1[P7]? = some ⟨25, [.bool b.ok, iv b.sec, w3], true, true⟩ ∧ H1[P8]? = some ⟨39, [iv D.code, .bool D.book.ok, iv D.book.sec, w4], true, true⟩ ∧
      RS 4 RLn H1 A2 w2 D.book.lines ∧ RS 4 RLn H1 A3 w3 b.lines ∧ RS 4 RLn H1 A4 w4 D.book.lines ∧ Own H1 A3 ∧ Own H1 A4 ∧ (∀ e, e ∈ A2 → H.length + 3 ≤ e ∧ e < Q2) ∧ (∀ e, e ∈ A3 → Q2 ≤ e ∧ e < P7) ∧ ∀ e, e ∈ A4 → P8 < e) (by simp [subL, getT, hP7, hP8]) ?_ ?_
  · have k2 : ∀ e, e ∈ A2 → H.length + 3 ≤ e ∧ e < Q2 := fun e he => by have := n2 e he; have := l2 e he; omega
    have k3 : ∀ e, e ∈ A3 → Q2 ≤ e ∧ e < P7 := fun e he => by have := n3 e he; have := l3 e he; omega
    have k4 : ∀ e, e ∈ A4 → P8 < e := fun e he => by have := n4 e he; omega
    have e7 : ∀ y : Blk, H ++ ⟨53, [.bool b.ok, iv b.sec, v], true, true⟩ :: ⟨58, [iv e.op, iv e.train, iv e.n], true, true⟩ :: ⟨39, [iv D.code, .bool D.book.ok, iv D.book.sec, w2], true, true⟩ :: (J1 ++ (J2 ++ (J3 ++ ⟨25, [.bool b.ok, iv b.sec, w3], true, true⟩ :: y :: J4)))
        = (H ++ ⟨53, [.bool b.ok, iv b.sec, v], true, true⟩ :: ⟨58, [iv e.op, iv e.train, iv e.n], true, true⟩ :: ⟨39, [iv D.code, .bool D.book.ok, iv D.book.sec, w2], true, true⟩ :: (J1 ++ (J2 ++ J3))) ++ ⟨25, [.bool b.ok, iv b.sec, w3], true, true⟩ :: y :: J4 := fun y => by simp
    show Gro H _ ∧ _
    rw [e7] at r4 o4 ⊢
    have hX : (H ++ ⟨53, [.bool b.ok, iv b.sec, v], true, true⟩ :: ⟨58, [iv e.op, iv e.train, iv e.n], true, true⟩ :: ⟨39, [iv D.code, .bool D.book.ok, iv D.book.sec, w2], true, true⟩ :: (J1 ++ (J2 ++ J3))).length = P7 := by simp; omega
    have hX0 : ∀ i, i < 3 → ∀ J, ((H ++ ⟨53, [.bool b.ok, iv b.sec, v], true, true⟩ :: ⟨58, [iv e.op, iv e.train, iv e.n], true, true⟩ :: ⟨39, [iv D.code, .bool D.book.ok, iv D.book.sec, w2], true, true⟩ :: (J1 ++ (J2 ++ J3))) ++ J)[H.length + i]? = ([⟨53, [.bool b.ok, iv b.sec, v], true, true⟩, ⟨58, [iv e.op, iv e.train, iv e.n], true, true⟩, ⟨39, [iv D.code, .bool D.book.ok, iv D.book.sec, w2], true, true⟩] : List Blk)[i]? := fun i hi J => by
      rw [List.append_assoc, List.getElem?_append_right (by omega), Nat.add_sub_cancel_left]
      rcases i with _ | _ | _ | i
      · rfl
      · rfl
      · rfl
      · omega
    have hX2 : ∀ f, f ∈ A2 → ∀ J, ((H ++ ⟨53, [.bool b.ok, iv b.sec, v], true, true⟩ :: ⟨58, [iv e.op, iv e.train, iv e.n], true, true⟩ :: ⟨39, [iv D.code, .bool D.book.ok, iv D.book.sec, w2], true, true⟩ :: (J1 ++ (J2 ++ J3))) ++ J)[f]? = (J1 ++ J2)[f - (H.length + 3)]? := fun f he J => by
      have := k2 f he
      rw [List.getElem?_append_left (by omega), get_t3 _ _ _ _ _ this.1, ← List.append_assoc, List.getElem?_append_left (by simp; omega)]
    have hXg : Gro H (H ++ ⟨53, [.bool b.ok, iv b.sec, v], true, true⟩ :: ⟨58, [iv e.op, iv e.train, iv e.n], true, true⟩ :: ⟨39, [iv D.code, .bool D.book.ok, iv D.book.sec, w2], true, true⟩ :: (J1 ++ (J2 ++ J3))) := ⟨_, rfl⟩
    generalize (H ++ ⟨53, [.bool b.ok, iv b.sec, v], true, true⟩ :: ⟨58, [iv e.op, iv e.train, iv e.n], true, true⟩ :: ⟨39, [iv D.code, .bool D.book.ok, iv D.book.sec, w2], true, true⟩ :: (J1 ++ (J2 ++ J3))) = X at *
    have g3 : ∀ J, Gro X (X ++ J) := fun J => ⟨J, rfl⟩
    have h8 : ∀ (y d : Blk) e, P8 < e → (X ++ d :: y :: J4)[e]? = J4[e - (P8 + 1)]? := fun y d e he => by
      rw [show X ++ d :: y :: J4 = (X ++ [d]) ++ y :: J4 by simp, get_x _ _ _ (by simp; omega)]
      simp only [List.length_append, List.length_cons, List.length_nil]
      rw [show X.length + (0 + 1) + 1 = P8 + 1 by omega]
    refine ⟨hXg.trans (g3 _), hX0 0 (by omega) _, hX0 1 (by omega) _, hX0 2 (by omega) _, ?_, ?_, ?_, r3.gro (g3 _) RLn.frm, ?_, o3.gro (g3 _), ?_, k2, k3, k4⟩
    · rw [← hX]; simp
    · rw [hP8, ← hX, List.getElem?_append_right (by omega)]; simp
    · refine r2.fr RLn.frm fun e he _ => ?_
      rw [hX2 e he, get_t3 _ _ _ _ _ (k2 e he).1]
    · exact r4.fr RLn.frm fun e he _ => by rw [h8 _ _ e (k4 e he), h8 _ _ e (k4 e he)]
    · exact o4.fr fun e he => by rw [h8 _ _ e (k4 e he), h8 _ _ e (k4 e he)]
  rintro H1 ⟨hg, hb0, hb1, hb2, hb7, hb8, r2, r3, r4, o3, o4, k2, k3, k4⟩
  have hl1 := hg.len
  have a0 : CF H1 H.length 0 (.bool b.ok) := CF.of hb0 rfl rfl
  have a1 : CF H1 H.length 1 (iv b.sec) := CF.of hb0 rfl rfl
  have a2 : CF H1 H.length 2 v := CF.of hb0 rfl rfl
  have c0 : CF H1 (H.length + 2) 0 (iv D.code) := CF.of hb2 rfl rfl
  have c1 : CF H1 (H.length + 2) 1 (.bool D.book.ok) := CF.of hb2 rfl rfl
  have c2 : CF H1 (H.length + 2) 2 (iv D.book.sec) := CF.of hb2 rfl rfl
  have c3 : CF H1 (H.length + 2) 3 w2 := CF.of hb2 rfl rfl
  have d0 : CF H1 P7 0 (.bool b.ok) := CF.of hb7 rfl rfl
  have d1 : CF H1 P7 1 (iv b.sec) := CF.of hb7 rfl rfl
  have d2 : CF H1 P7 2 w3 := CF.of hb7 rfl rfl
  have f0 : CF H1 P8 0 (iv D.code) := CF.of hb8 rfl rfl
  have f1 : CF H1 P8 1 (.bool D.book.ok) := CF.of hb8 rfl rfl
  have f2 : CF H1 P8 2 (iv D.book.sec) := CF.of hb8 rfl rfl
  have f3 : CF H1 P8 3 w4 := CF.of hb8 rfl rfl
  have x2 := r2.one
  have x3 := r3.one
  have x4 := r4.one
  have x2c := r2.cv
  have x3c := r3.cv
  have x4c := r4.cv
  have xc := hv.cv
  repeat (first | refine sk_seq ?_ | refine sk_block ?_ | refine sk_blk ?_ | refine sk_skip ?_ | refine sk_exit rfl ?_ | refine sk_cond_t rfl ?_ | refine sk_cond_f rfl ?_ | (refine sk_reg fun K hK => ?_; simp [c0.a, c0.b, c1.a, c1.b, c2.a, c2.b, c3.a, c3.b, f0.a, f0.b, f1.a, f1.b, f2.a, f2.b, f3.a, f3.b, x2, x4]; (repeat (first | (refine AskX.go (eqDone_ac (x := D) ⟨_, rfl, w4, rfl, r4⟩ ⟨_, rfl, w2, rfl, r2⟩) ?_; simp [c0.a, c0.b, c1.a, c1.b, c2.a, c2.b, c3.a, c3.b, f0.a, f0.b, f1.a, f1.b, f2.a, f2.b, f3.a, f3.b, x2, x4]))); refine hK _ ?_; clear hK K) | (refine sk_drw mix fun K hK => ?_; simp [c0.a, c0.b, c1.a, c1.b, c2.a, c2.b, c3.a, c3.b, f0.a, f0.b, f1.a, f1.b, f2.a, f2.b, f3.a, f3.b, x2, x4]; (repeat (first | (refine AskD.go (eqDone_ac (x := D) ⟨_, rfl, w4, rfl, r4⟩ ⟨_, rfl, w2, rfl, r2⟩) ?_; simp [c0.a, c0.b, c1.a, c1.b, c2.a, c2.b, c3.a, c3.b, f0.a, f0.b, f1.a, f1.b, f2.a, f2.b, f3.a, f3.b, x2, x4]))); refine hK _ ?_; clear hK K))
  refine sk_drw mix fun K hK => ?_; simp [a0.a, a0.b, a1.a, a1.b, a2.a, a2.b, d0.a, d0.b, d1.a, d1.b, d2.a, d2.b, x, x3]
  refine AskD.mkr (toBook_mk (RBk.frm.gro h0 hg) q) ?_; rintro _ J5 A5 ⟨cs5, rfl, w5, rfl, r5⟩ o5 n5; simp [a0.a, a0.b, a1.a, a1.b, a2.a, a2.b, d0.a, d0.b, d1.a, d1.b, d2.a, d2.b, x, x3]
  refine AskD.go (eqBook_ac (x := b) ⟨w3, rfl, r3.gro (by first | exact Gro.refl _ | exact ⟨_, rfl⟩ | exact ⟨_, by simp only [List.append_assoc, List.cons_append, List.nil_append]; rfl⟩ | exact ⟨[], by simp⟩) RLn.frm⟩ ⟨w5, rfl, r5⟩) ?_; simp
  refine hK _ ?_; clear hK K
  have b3 := r3.bd RLn.frm
  have b2 := r2.bd RLn.frm
  have b4 := r4.bd RLn.frm
  have hlt8 := lt_of_get hb8
  obtain ⟨H2, ac3, mk3, r3'⟩ := markBook_ac (k := 1) (show RBk (H1 ++ J5) A3 b [.bool b.ok, iv b.sec, w3] from ⟨w3, rfl, r3.ext RLn.frm⟩) (o3.ext b3) (by omega) (by omega)
  have wr3 : wrL H.length [] A3 := fun d hd => .inl (by have := k3 d hd; omega)
  have out3 : ∀ i, i < H1.length → i ∉ A3 → H2[i]? = H1[i]? := fun i hi hn => (mk3.out i hn).trans (List.getElem?_append_left hi)
  have m2 : H2[H.length + 2]? = _ := (out3 _ (lt_of_get hb2) fun hh => by have := k3 _ hh; omega).trans hb2
  have m8 : H2[P8]? = _ := (out3 _ hlt8 fun hh => by have := k3 _ hh; omega).trans hb8
  have m0 : H2[H.length]? = _ := (out3 _ (lt_of_get hb0) fun hh => by have := k3 _ hh; omega).trans hb0
  have m1 : H2[H.length + 1]? = _ := (out3 _ (lt_of_get hb1) fun hh => by have := k3 _ hh; omega).trans hb1
  have hl2 : H1.length ≤ H2.length := by have := mk3.len; simp at this; omega
  have g2 : Gro H H2 := Gro.of (by omega) fun i hi => (out3 i (by omega) fun hh => by have := k3 _ hh; omega).trans (hg.same hi)
  have r2' : RS 4 RLn H2 A2 w2 D.book.lines := r2.fr RLn.frm fun f hf hlt => out3 f hlt fun hh => by have := k3 _ hh; have := k2 f hf; omega
  have r4' : RS 4 RLn H2 A4 w4 D.book.lines := r4.fr RLn.frm fun f hf hlt => out3 f hlt fun hh => by have := k3 _ hh; have := k4 f hf; omega
  have o4' : Own H2 A4 := o4.fr fun f hf => out3 f (b4 f hf) fun hh => by have := k3 _ hh; have := k4 f hf; omega
  have c0' : CF H2 (H.length + 2) 0 (iv D.code) := CF.of m2 rfl rfl
  have c1' : CF H2 (H.length + 2) 1 (.bool D.book.ok) := CF.of m2 rfl rfl
  have c2' : CF H2 (H.length + 2) 2 (iv D.book.sec) := CF.of m2 rfl rfl
  have c3' : CF H2 (H.length + 2) 3 w2 := CF.of m2 rfl rfl
  have f0' : CF H2 P8 0 (iv D.code) := CF.of m8 rfl rfl
  have f1' : CF H2 P8 1 (.bool D.book.ok) := CF.of m8 rfl rfl
  have f2' : CF H2 P8 2 (iv D.book.sec) := CF.of m8 rfl rfl
  have f3' : CF H2 P8 3 w4 := CF.of m8 rfl rfl
  have p1 : ¬ (1 + cnBk b < 0) := by omega
  obtain ⟨H3, ac4, mk4, r4m⟩ := markDone_ac (n := D.code) (k := 1) (show RBk H2 A4 D.book [.bool D.book.ok, iv D.book.sec, w4] from ⟨w4, rfl, r4'⟩) o4' (by omega) (by omega)
  have wr4 : wrL H.length [] A4 := fun d hd => .inl (by have := k4 d hd; omega)
  have n2 : H3[H.length + 2]? = _ := (mk4.out _ fun hh => by have := k4 _ hh; omega).trans m2
  have n8 : H3[P8]? = _ := (mk4.out _ fun hh => by have := k4 _ hh; omega).trans m8
  have n0 : H3[H.length]? = _ := (mk4.out _ fun hh => by have := k4 _ hh; omega).trans m0
  have n1 : H3[H.length + 1]? = _ := (mk4.out _ fun hh => by have := k4 _ hh; omega).trans m1
  have hl3 : H3.length = H2.length := mk4.len
  have g3 : Gro H H3 := Gro.of (by omega) fun i hi => (mk4.out i fun hh => by have := k4 _ hh; omega).trans (g2.same hi)
  have r2n : RS 4 RLn H3 A2 w2 D.book.lines := r2'.fr RLn.frm fun f hf hlt => mk4.out f fun hh => by have := k4 _ hh; have := k2 f hf; omega
  have c0n : CF H3 (H.length + 2) 0 (iv D.code) := CF.of n2 rfl rfl
  have c1n : CF H3 (H.length + 2) 1 (.bool D.book.ok) := CF.of n2 rfl rfl
  have c2n : CF H3 (H.length + 2) 2 (iv D.book.sec) := CF.of n2 rfl rfl
  have c3n : CF H3 (H.length + 2) 3 w2 := CF.of n2 rfl rfl
  have f0n : CF H3 P8 0 (iv D.code) := CF.of n8 rfl rfl
  have f1n : CF H3 P8 1 (.bool D.book.ok) := CF.of n8 rfl rfl
  have f2n : CF H3 P8 2 (iv D.book.sec) := CF.of n8 rfl rfl
  have f3n : CF H3 P8 3 w4 := CF.of n8 rfl rfl
  have a0n : CF H3 H.length 0 (.bool b.ok) := CF.of n0 rfl rfl
  have a1n : CF H3 H.length 1 (iv b.sec) := CF.of n0 rfl rfl
  have a2n : CF H3 H.length 2 v := CF.of n0 rfl rfl
  have b0n : CF H3 (H.length + 1) 0 (iv e.op) := CF.of n1 rfl rfl
  have b1n : CF H3 (H.length + 1) 1 (iv e.train) := CF.of n1 rfl rfl
  have b2n : CF H3 (H.length + 1) 2 (iv e.n) := CF.of n1 rfl rfl
  have p2 : ¬ (1 + cnBk D.book < 0) := by omega
  have hac := heldDone_ac (b0 := b) (n := D.code) (k := 1) r4m (by omega) (by omega)
  have te3 := fun L : Heap => toEvent_ac (H := H3 ++ L) e
  simp only [cEv] at te3
  repeat (first | refine sk_seq ?_ | refine sk_block ?_ | refine sk_blk ?_ | refine sk_skip ?_ | refine sk_exit rfl ?_ | refine sk_cond_t rfl ?_ | refine sk_cond_f rfl ?_ | (refine sk_reg fun K hK => ?_; simp [d0.a, d0.b, d1.a, d1.b, d2.a, d2.b, x3, wr3, p1, p2, wr4, c0'.a, c0'.b, c1'.a, c1'.b, c2'.a, c2'.b, c3'.a, c3'.b, f0'.a, f0'.b, f1'.a, f1'.b, f2'.a, f2'.b, f3'.a, f3'.b, f0n.a, f0n.b, f1n.a, f1n.b, f2n.a, f2n.b, f3n.a, f3n.b, x2, x4]; (repeat (first | (refine AskX.go (ac3) ?_; simp [d0.a, d0.b, d1.a, d1.b, d2.a, d2.b, x3, wr3, p1, p2, wr4, c0'.a, c0'.b, c1'.a, c1'.b, c2'.a, c2'.b, c3'.a, c3'.b, f0'.a, f0'.b, f1'.a, f1'.b, f2'.a, f2'.b, f3'.a, f3'.b, f0n.a, f0n.b, f1n.a, f1n.b, f2n.a, f2n.b, f3n.a, f3n.b, x2, x4]) | (refine AskX.go (eqDone_ac (x := D) ⟨_, rfl, w4, rfl, r4'⟩ ⟨_, rfl, w2, rfl, r2'⟩) ?_; simp [d0.a, d0.b, d1.a, d1.b, d2.a, d2.b, x3, wr3, p1, p2, wr4, c0'.a, c0'.b, c1'.a, c1'.b, c2'.a, c2'.b, c3'.a, c3'.b, f0'.a, f0'.b, f1'.a, f1'.b, f2'.a, f2'.b, f3'.a, f3'.b, f0n.a, f0n.b, f1n.a, f1n.b, f2n.a, f2n.b, f3n.a, f3n.b, x2, x4]) | (refine AskX.go (ac4) ?_; simp [d0.a, d0.b, d1.a, d1.b, d2.a, d2.b, x3, wr3, p1, p2, wr4, c0'.a, c0'.b, c1'.a, c1'.b, c2'.a, c2'.b, c3'.a, c3'.b, f0'.a, f0'.b, f1'.a, f1'.b, f2'.a, f2'.b, f3'.a, f3'.b, f0n.a, f0n.b, f1n.a, f1n.b, f2n.a, f2n.b, f3n.a, f3n.b, x2, x4]) | (refine AskX.go (hac) ?_; simp [d0.a, d0.b, d1.a, d1.b, d2.a, d2.b, x3, wr3, p1, p2, wr4, c0'.a, c0'.b, c1'.a, c1'.b, c2'.a, c2'.b, c3'.a, c3'.b, f0'.a, f0'.b, f1'.a, f1'.b, f2'.a, f2'.b, f3'.a, f3'.b, f0n.a, f0n.b, f1n.a, f1n.b, f2n.a, f2n.b, f3n.a, f3n.b, x2, x4]))); refine hK _ ?_; clear hK K) | (refine sk_drw mix fun K hK => ?_; simp [d0.a, d0.b, d1.a, d1.b, d2.a, d2.b, x3, wr3, p1, p2, wr4, c0'.a, c0'.b, c1'.a, c1'.b, c2'.a, c2'.b, c3'.a, c3'.b, f0'.a, f0'.b, f1'.a, f1'.b, f2'.a, f2'.b, f3'.a, f3'.b, f0n.a, f0n.b, f1n.a, f1n.b, f2n.a, f2n.b, f3n.a, f3n.b, x2, x4]; (repeat (first | (refine AskD.go (ac3) ?_; simp [d0.a, d0.b, d1.a, d1.b, d2.a, d2.b, x3, wr3, p1, p2, wr4, c0'.a, c0'.b, c1'.a, c1'.b, c2'.a, c2'.b, c3'.a, c3'.b, f0'.a, f0'.b, f1'.a, f1'.b, f2'.a, f2'.b, f3'.a, f3'.b, f0n.a, f0n.b, f1n.a, f1n.b, f2n.a, f2n.b, f3n.a, f3n.b, x2, x4]) | (refine AskD.go (eqDone_ac (x := D) ⟨_, rfl, w4, rfl, r4'⟩ ⟨_, rfl, w2, rfl, r2'⟩) ?_; simp [d0.a, d0.b, d1.a, d1.b, d2.a, d2.b, x3, wr3, p1, p2, wr4, c0'.a, c0'.b, c1'.a, c1'.b, c2'.a, c2'.b, c3'.a, c3'.b, f0'.a, f0'.b, f1'.a, f1'.b, f2'.a, f2'.b, f3'.a, f3'.b, f0n.a, f0n.b, f1n.a, f1n.b, f2n.a, f2n.b, f3n.a, f3n.b, x2, x4]) | (refine AskD.go (ac4) ?_; simp [d0.a, d0.b, d1.a, d1.b, d2.a, d2.b, x3, wr3, p1, p2, wr4, c0'.a, c0'.b, c1'.a, c1'.b, c2'.a, c2'.b, c3'.a, c3'.b, f0'.a, f0'.b, f1'.a, f1'.b, f2'.a, f2'.b, f3'.a, f3'.b, f0n.a, f0n.b, f1n.a, f1n.b, f2n.a, f2n.b, f3n.a, f3n.b, x2, x4]) | (refine AskD.go (hac) ?_; simp [d0.a, d0.b, d1.a, d1.b, d2.a, d2.b, x3, wr3, p1, p2, wr4, c0'.a, c0'.b, c1'.a, c1'.b, c2'.a, c2'.b, c3'.a, c3'.b, f0'.a, f0'.b, f1'.a, f1'.b, f2'.a, f2'.b, f3'.a, f3'.b, f0n.a, f0n.b, f1n.a, f1n.b, f2n.a, f2n.b, f3n.a, f3n.b, x2, x4]))); refine hK _ ?_; clear hK K))
  have hacL := fun L : Heap => heldDone_ac (b0 := b) (n := D.code) (k := 1) (RBk.frm.ext (L := L) r4m) (by omega) (by omega)
  have hlH3 := g3.len
  refine sk_drw mix fun K hK => ?_; simp [a0n.a, a0n.b, a1n.a, a1n.b, a2n.a, a2n.b, b0n.a, b0n.b, b1n.a, b1n.b, b2n.a, b2n.b, x]
  refine AskD.mkr (toBook_mk (RBk.frm.gro h0 (g3.trans (by first | exact Gro.refl _ | exact ⟨_, rfl⟩ | exact ⟨_, by simp only [List.append_assoc, List.cons_append, List.nil_append]; rfl⟩ | exact ⟨[], by simp⟩))) q) ?_; rintro _ J6 A6 ⟨cs6, rfl, w6, rfl, r6⟩ o6 n6; simp [a0n.a, a0n.b, a1n.a, a1n.b, a2n.a, a2n.b, b0n.a, b0n.b, b1n.a, b1n.b, b2n.a, b2n.b, x]
  refine AskD.go (te3 _) ?_; simp
  refine AskD.mkr (hidx _ _ _ ⟨w6, rfl, r6.gro (by first | exact Gro.refl _ | exact ⟨_, rfl⟩ | exact ⟨_, by simp only [List.append_assoc, List.cons_append, List.nil_append]; rfl⟩ | exact ⟨[], by simp⟩) RLn.frm⟩) ?_; rintro _ J7 A7 ⟨cs7, rfl, c7, rfl, w7, rfl, r7⟩ o7 n7; simp [r7.one, r7.cv, hlH3]
  refine hK _ ?_; clear hK K
  simp only [List.append_assoc, List.cons_append, List.nil_append, List.length_append, List.length_cons, List.length_nil] at r7 n7
  have r7' : RS 4 RLn (H3 ++ ⟨39, [iv D.code, .bool D.book.ok, iv D.book.sec, w7], true, true⟩ :: (J6 ++ J7)) A7 w7 D.book.lines := r7.fr RLn.frm fun f hf _ => by
    have := n7 f hf
    rw [get_x _ _ _ (by omega), get_x _ _ _ (by omega)]
  have x7 := r7.one
  have x7c := r7.cv
  repeat (first | refine sk_seq ?_ | refine sk_block ?_ | refine sk_blk ?_ | refine sk_skip ?_ | refine sk_exit rfl ?_ | refine sk_cond_t rfl ?_ | refine sk_cond_f rfl ?_ | (refine sk_reg fun K hK => ?_; simp [c0n.a, c0n.b, c1n.a, c1n.b, c2n.a, c2n.b, c3n.a, c3n.b, f0n.a, f0n.b, f1n.a, f1n.b, f2n.a, f2n.b, f3n.a, f3n.b, x2, x4, x7, p2]; (repeat (first | (refine AskX.go (eqDone_ac (x := D) ⟨_, rfl, w7, rfl, r7'⟩ ⟨_, rfl, w2, rfl, r2n.gro (by first | exact Gro.refl _ | exact ⟨_, rfl⟩ | exact ⟨_, by simp only [List.append_assoc, List.cons_append, List.nil_append]; rfl⟩ | exact ⟨[], by simp⟩) RLn.frm⟩) ?_; simp [c0n.a, c0n.b, c1n.a, c1n.b, c2n.a, c2n.b, c3n.a, c3n.b, f0n.a, f0n.b, f1n.a, f1n.b, f2n.a, f2n.b, f3n.a, f3n.b, x2, x4, x7, p2]) | (refine AskX.go (hacL _) ?_; simp [c0n.a, c0n.b, c1n.a, c1n.b, c2n.a, c2n.b, c3n.a, c3n.b, f0n.a, f0n.b, f1n.a, f1n.b, f2n.a, f2n.b, f3n.a, f3n.b, x2, x4, x7, p2]))); refine hK _ ?_; clear hK K) | (refine sk_drw mix fun K hK => ?_; simp [c0n.a, c0n.b, c1n.a, c1n.b, c2n.a, c2n.b, c3n.a, c3n.b, f0n.a, f0n.b, f1n.a, f1n.b, f2n.a, f2n.b, f3n.a, f3n.b, x2, x4, x7, p2]; (repeat (first | (refine AskD.go (eqDone_ac (x := D) ⟨_, rfl, w7, rfl, r7'⟩ ⟨_, rfl, w2, rfl, r2n.gro (by first | exact Gro.refl _ | exact ⟨_, rfl⟩ | exact ⟨_, by simp only [List.append_assoc, List.cons_append, List.nil_append]; rfl⟩ | exact ⟨[], by simp⟩) RLn.frm⟩) ?_; simp [c0n.a, c0n.b, c1n.a, c1n.b, c2n.a, c2n.b, c3n.a, c3n.b, f0n.a, f0n.b, f1n.a, f1n.b, f2n.a, f2n.b, f3n.a, f3n.b, x2, x4, x7, p2]) | (refine AskD.go (hacL _) ?_; simp [c0n.a, c0n.b, c1n.a, c1n.b, c2n.a, c2n.b, c3n.a, c3n.b, f0n.a, f0n.b, f1n.a, f1n.b, f2n.a, f2n.b, f3n.a, f3n.b, x2, x4, x7, p2]))); refine hK _ ?_; clear hK K))
  refine sk_ret ?_; simp
  obtain ⟨K, rfl⟩ := g3
  exact ⟨_, List.append_assoc _ _ _⟩
end Go.Proofs.Ytpoedfmkiiijnaa
