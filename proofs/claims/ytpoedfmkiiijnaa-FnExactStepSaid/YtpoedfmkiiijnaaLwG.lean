/- The statement's own function FnExactStep: it answers true. A walk. -/
import Derived.Test.YtpoedfmkiiijnaaSp3
import Derived.Test.YtpoedfmkiiijnaaMkW
import Derived.Test.YtpoedfmkiiijnaaDo7
namespace Go.Proofs.Ytpoedfmkiiijnaa
open Go Go.RowKit Go.Proofs.YtpoedfmkiiijnaaAm
set_option linter.unusedVariables false
set_option linter.unusedSimpArgs false
set_option maxRecDepth 10000
set_option maxHeartbeats 8000000
theorem RWd.cs5 {H : Heap} {E : List Nat} {w : Wd} {cs : List Value} (h : RWd H E w cs) : ∃ vl vb, cs = [.bool w.ok, .bool w.book.ok, iv w.book.sec, vl, vb] ∧ vl.oneCell' = true ∧ vb.oneCell' = true ∧ cellsV vl = [vl] ∧ cellsV vb = [vb] := by
  obtain ⟨_, _, _, vb, _, rfl, ⟨vl, rfl, hl⟩, hb2⟩ := h
  exact ⟨vl, vb, rfl, hl.one, hb2.one, hl.cv, hb2.cv⟩
theorem get_x' (X J : Heap) (y : Blk) {i : Nat} (h : X.length < i) : (X ++ y :: J)[i]? = J[i - (X.length + 1)]? := by
  rw [List.getElem?_append_right (by omega), show i - X.length = (i - (X.length + 1)) + 1 by omega]; rfl
theorem cnWd_sz (w : Wd) (h : szW w ≤ 1048576) : cnWd w ≤ 6291456 := by
  have h1 := cnBk_sz w.book
  have h2 := cnL_one (c := cnBd) (m := 4) (fun _ => rfl) w.bodies
  have h3 : 0 ≤ szLs w.book.lines := by have := cnL_nn szL_nn w.book.lines; unfold szLs; omega
  unfold szW at h
  unfold cnWd; omega
theorem cnBk_r {b : Bk} (h : bookOkB b = 0) : cnBk b ≤ 3000 := by
  obtain ⟨s1, s2, s3, s4⟩ := bookOk_sec h
  have h1 : cnL cnLn b.lines ≤ 145 * (b.lines.length : Int) := cnL_bnd _ fun x hx => by
    obtain ⟨i, hi, rfl⟩ := List.getElem_of_mem hx
    have h1 := (bookOk_ln h hi).w1
    have h2 := (bookOk_ln h hi).n1
    rw [cnLn_eq]; omega
  unfold cnBk
  omega
theorem cnWd_r {w : Wd} (h : rightB w = true) : cnWd w ≤ 3200 := by
  obtain ⟨_, h2, h3, _⟩ := rightB_all h
  have h4 := cnBk_r h2
  obtain ⟨_, _, h5, _⟩ := bookOk_sec h2
  have h6 := cnL_one (c := cnBd) (m := 4) (fun _ => rfl) w.bodies
  unfold cnWd; omega
theorem bookW_1 {w : Wd} {e : Evt} (h : (bookW w e).code = 1) : (bookW w e).world = wd0 := by
  unfold bookW at h ⊢
  split
  · rfl
  · rename_i hh; rw [if_neg hh] at h; exact absurd h hh
theorem stepWd_1 {w : Wd} {a : Actn} (h : (stepWd w a).code = 1) : (stepWd w a).world = wd0 := by
  unfold stepWd at h ⊢
  split
  · rename_i q
    rw [if_pos q] at h
    unfold stepV at h ⊢
    simp only at h ⊢
    split
    · rename_i p1; rw [if_pos p1] at h
      split
      · rfl
      · rename_i p2; rw [if_neg p2] at h; exact bookW_1 h
    rename_i p1; rw [if_neg p1] at h
    split
    · rename_i p2; rw [if_pos p2] at h
      (repeat' split at h) <;> simp at h
    rename_i p2; rw [if_neg p2] at h
    split
    · rename_i p3; rw [if_pos p3] at h; exact bookW_1 h
    rename_i p3; rw [if_neg p3] at h
    split
    · rename_i p4; rw [if_pos p4] at h
      (repeat' split at h) <;> simp at h
    rename_i p4; rw [if_neg p4] at h
    split
    · rename_i p5; rw [if_pos p5] at h; simp at h
    · rename_i p5; rw [if_neg p5] at h; exact bookW_1 h
  · rfl
theorem cnWd_step (w : Wd) (a : Actn) : cnWd (stepWd w a).world ≤ 3200 := by
  by_cases h : (stepWd w a).code = 1
  · rw [stepWd_1 h]; simp [cnWd, wd0, bk0, cnBk, cnL]
  · exact cnWd_r (stepWd_ok h)
def B18 : SC := .seq (.reg [⟨some 2, .box 83 (.tmp 0), none, []⟩, ⟨some 3, .box 98 (.tmp 1), none, []⟩, ⟨some 4, .assign (.const (.bool false)), none, []⟩]) (.seq (.reg [⟨some 5, .assign (.const (.int .i64 1048576)), none, []⟩]) (.seq (.reg [⟨some 13, .load 83 (.tmp 2), none, []⟩, ⟨some 14, .move (.tmp 5), none, []⟩, ⟨some 15, .call { callee := (.value (.func 53)), args := #[(.tmp 13), (.tmp 14)], argTypes := #[83, 3] }, none, []⟩, ⟨some 5, .assign (.tmp 15), none, []⟩]) (.seq (.seq (.reg [⟨some 16, .move (.tmp 5), none, []⟩, ⟨some 17, .binOp .lss 3 (.tmp 16) (.const (.int .i64 0)) 3, none, []⟩]) (.cond (.tmp 17) (.seq (.reg [⟨some 4, .assign (.const (.bool true)), none, []⟩]) .ret) .skip)) (.seq (.drw 1 [⟨some 18, .load 83 (.tmp 2), none, []⟩, ⟨some 19, .call { callee := (.value (.func 55)), args := #[(.tmp 18)], argTypes := #[83] }, none, [0]⟩, ⟨some 20, .load 98 (.tmp 3), none, []⟩, ⟨some 21, .call { callee := (.value (.func 70)), args := #[(.tmp 20)], argTypes := #[98] }, none, [2, 1, 0]⟩, ⟨some 22, .call { callee := (.value (.func 69)), args := #[(.tmp 19), (.tmp 21)], argTypes := #[64, 70] }, none, [1, 0, 3, 2]⟩, ⟨some 6, .alloc 67, none, []⟩, ⟨none, .store 67 (.tmp 6) (.tmp 22), none, [5, 4, 1, 0, 3, 2]⟩]) (.seq (.reg [⟨some 23, .load 83 (.tmp 2), none, []⟩, ⟨some 24, .call { callee := (.value (.func 55)), args := #[(.tmp 23)], argTypes := #[83] }, none, []⟩, ⟨some 7, .alloc 64, none, []⟩, ⟨none, .store 64 (.tmp 7) (.tmp 24), none, []⟩]) (.seq (.drw 1 [⟨some 25, .load 64 (.tmp 7), none, []⟩, ⟨some 26, .load 98 (.tmp 3), none, []⟩, ⟨some 27, .call { callee := (.value (.func 70)), args := #[(.tmp 26)], argTypes := #[98] }, none, [1]⟩, ⟨some 28, .call { callee := (.value (.func 42)), args := #[(.tmp 25), (.tmp 27)], argTypes := #[64, 70] }, none, [0, 2, 1]⟩, ⟨some 8, .alloc 67, none, []⟩, ⟨none, .store 67 (.tmp 8) (.tmp 28), none, [4, 3, 0, 2, 1]⟩]) (.seq (.seq (.reg [⟨some 29, .load 67 (.tmp 8), none, []⟩, ⟨some 30, .load 67 (.tmp 6), none, []⟩, ⟨some 31, .call { callee := (.value (.func 71)), args := #[(.tmp 29), (.tmp 30)], argTypes := #[67, 67] }, none, []⟩, ⟨some 32, .unOp .not 4 (.tmp 31), none, []⟩]) (.cond (.tmp 32) (.seq (.reg [⟨some 4, .assign (.const (.bool false)), none, []⟩]) .ret) .skip)) (.seq (.seq (.drw 0 [⟨some 33, .load 64 (.tmp 7), none, []⟩, ⟨some 34, .load 83 (.tmp 2), none, []⟩, ⟨some 35, .call { callee := (.value (.func 55)), args := #[(.tmp 34)], argTypes := #[83] }, none, [1]⟩, ⟨some 36, .call { callee := (.value (.func 48)), args := #[(.tmp 33), (.tmp 35)], argTypes := #[64, 64] }, none, [0, 2, 1]⟩, ⟨some 37, .unOp .not 4 (.tmp 36), none, [3, 0, 2, 1]⟩]) (.cond (.tmp 37) (.seq (.reg [⟨some 4, .assign (.const (.bool false)), none, []⟩]) .ret) .skip)) (.seq (.reg [⟨some 9, .assign (.const (.int .i64 1)), none, []⟩]) (.seq (.reg [⟨some 38, .load 64 (.tmp 7), none, []⟩, ⟨some 39, .move (.tmp 9), none, []⟩, ⟨some 40, .call { callee := (.value (.func 51)), args := #[(.tmp 38), (.tmp 39)], argTypes := #[64, 3] }, none, []⟩, ⟨some 9, .assign (.tmp 40), none, []⟩]) (.seq (.seq (.reg [⟨some 41, .move (.tmp 9), none, []⟩, ⟨some 42, .binOp .lss 3 (.tmp 41) (.const (.int .i64 0)) 3, none, []⟩, ⟨some 43, .move (.tmp 42), none, []⟩, ⟨some 44, .load 67 (.tmp 8), some (43, false), []⟩, ⟨some 45, .load 67 (.tmp 6), some (43, false), []⟩, ⟨some 46, .call { callee := (.value (.func 71)), args := #[(.tmp 44), (.tmp 45)], argTypes := #[67, 67] }, some (43, false), []⟩, ⟨some 47, .unOp .not 4 (.tmp 46), some (43, false), []⟩, ⟨some 48, .pick (.tmp 43) (.const (.bool true)) (.tmp 47), none, []⟩]) (.cond (.tmp 48) (.seq (.reg [⟨some 4, .assign (.const (.bool false)), none, []⟩]) .ret) .skip)) (.seq (.reg [⟨some 10, .assign (.const (.int .i64 1)), none, []⟩]) (.seq (.reg [⟨some 49, .load 67 (.tmp 8), none, []⟩, ⟨some 50, .move (.tmp 10), none, []⟩, ⟨some 51, .call { callee := (.value (.func 72)), args := #[(.tmp 49), (.tmp 50)], argTypes := #[67, 3] }, none, []⟩, ⟨some 10, .assign (.tmp 51), none, []⟩]) (.seq (.reg [⟨some 11, .assign (.const (.int .i64 1)), none, []⟩]) (.seq (.reg [⟨some 52, .load 67 (.tmp 8), none, []⟩, ⟨some 53, .move (.tmp 11), none, []⟩, ⟨some 54, .call { callee := (.value (.func 73)), args := #[(.tmp 52), (.tmp 53)], argTypes := #[67, 3] }, none, []⟩, ⟨some 11, .assign (.tmp 54), none, []⟩]) (.seq (.seq (.reg [⟨some 55, .move (.tmp 11), none, []⟩, ⟨some 56, .binOp .lss 3 (.tmp 55) (.const (.int .i64 0)) 3, none, []⟩]) (.cond (.tmp 56) (.seq (.reg [⟨some 4, .assign (.const (.bool false)), none, []⟩]) .ret) .skip)) (.seq (.seq (.reg [⟨some 57, .move (.tmp 11), none, []⟩, ⟨some 58, .move (.tmp 10), none, []⟩, ⟨some 59, .binOp .neq 3 (.tmp 57) (.tmp 58) 3, none, []⟩]) (.cond (.tmp 59) (.seq (.reg [⟨some 4, .assign (.const (.bool false)), none, []⟩]) .ret) .skip)) (.seq (.drw 1 [⟨some 60, .load 83 (.tmp 2), none, []⟩, ⟨some 61, .call { callee := (.value (.func 55)), args := #[(.tmp 60)], argTypes := #[83] }, none, [0]⟩, ⟨some 62, .load 98 (.tmp 3), none, []⟩, ⟨some 63, .call { callee := (.value (.func 70)), args := #[(.tmp 62)], argTypes := #[98] }, none, [2, 1, 0]⟩, ⟨some 64, .call { callee := (.value (.func 42)), args := #[(.tmp 61), (.tmp 63)], argTypes := #[64, 70] }, none, [1, 0, 3, 2]⟩, ⟨some 12, .alloc 67, none, []⟩, ⟨none, .store 67 (.tmp 12) (.tmp 64), none, [5, 4, 1, 0, 3, 2]⟩]) (.seq (.seq (.reg [⟨some 65, .load 67 (.tmp 12), none, []⟩, ⟨some 66, .load 67 (.tmp 6), none, []⟩, ⟨some 67, .call { callee := (.value (.func 71)), args := #[(.tmp 65), (.tmp 66)], argTypes := #[67, 67] }, none, []⟩, ⟨some 68, .unOp .not 4 (.tmp 67), none, []⟩]) (.cond (.tmp 68) (.seq (.reg [⟨some 4, .assign (.const (.bool false)), none, []⟩]) .ret) .skip)) (.seq (.reg [⟨some 11, .assign (.const (.int .i64 1)), none, []⟩]) (.seq (.reg [⟨some 69, .load 67 (.tmp 8), none, []⟩, ⟨some 70, .move (.tmp 11), none, []⟩, ⟨some 71, .call { callee := (.value (.func 73)), args := #[(.tmp 69), (.tmp 70)], argTypes := #[67, 3] }, none, []⟩, ⟨some 11, .assign (.tmp 71), none, []⟩]) (.seq (.seq (.reg [⟨some 72, .move (.tmp 11), none, []⟩, ⟨some 73, .binOp .lss 3 (.tmp 72) (.const (.int .i64 0)) 3, none, []⟩]) (.cond (.tmp 73) (.seq (.reg [⟨some 4, .assign (.const (.bool false)), none, []⟩]) .ret) .skip)) (.seq (.seq (.reg [⟨some 74, .move (.tmp 11), none, []⟩, ⟨some 75, .move (.tmp 10), none, []⟩, ⟨some 76, .binOp .neq 3 (.tmp 74) (.tmp 75) 3, none, []⟩]) (.cond (.tmp 76) (.seq (.reg [⟨some 4, .assign (.const (.bool false)), none, []⟩]) .ret) .skip)) (.seq (.reg [⟨some 4, .assign (.const (.bool true)), none, []⟩]) .ret))))))))))))))))))))))))
theorem s18 : Try.f18.body.bind (stripC 77) = some B18 := by kernel_rfl
theorem lawStep_ac {H : Heap} {E : List Nat} {w : Wd} {cs : List Value} (hR : RWdR H E w cs) (a : Actn) (ra : acR a) : AC Try.prog 18 [.agg cs.toArray, vAc a] H (.bool true) H [] := by
  obtain ⟨h, hrg⟩ := hR.wd
  obtain ⟨xl, xb, rfl, xxl, xxb, _, _⟩ := RWd.cs5 h
  have s0 := fun L : Heap => szWorld_ac (H := H ++ L) (RWd.frm.ext h) (a := 1048576) (by omega)
  have te := fun L : Heap => toAct_ac (H := H ++ L) a
  simp only [cAc] at te
  refine AC.of_pureS (N := 77) Try.func18 s18 (by kernel_rfl) rfl rfl (by simp) rfl ?_; unfold B18
  by_cases q : szW w ≤ 1048576
  case neg =>
    rw [subN_no q] at s0
    repeat (first | refine sk_seq ?_ | refine sk_block ?_ | refine sk_blk ?_ | refine sk_skip ?_ | refine sk_exit rfl ?_ | refine sk_cond_t rfl ?_ | refine sk_cond_f rfl ?_ | ((first | refine sk_reg fun K hK => ?_ | refine sk_drw mix fun K hK => ?_); simp [xxl, xxb]; (repeat ((first | refine AskX.go (s0 _) ?_ | refine AskD.go (s0 _) ?_); simp [xxl, xxb])); refine hK _ ?_; clear hK K))
    refine sk_ret ?_; simp
  rw [subN_lt q] at s0
  have q' : ¬ ((1048576 : Int) - szW w < 0) := by omega
  repeat (first | refine sk_seq ?_ | refine sk_block ?_ | refine sk_blk ?_ | refine sk_skip ?_ | refine sk_exit rfl ?_ | refine sk_cond_t rfl ?_ | refine sk_cond_f rfl ?_ | ((first | refine sk_reg fun K hK => ?_ | refine sk_drw mix fun K hK => ?_); simp [xxl, xxb, q']; (repeat ((first | refine AskX.go (s0 _) ?_ | refine AskD.go (s0 _) ?_); simp [xxl, xxb, q'])); refine hK _ ?_; clear hK K))
  refine sk_drw mix fun K hK => ?_; simp [xxl, xxb]
  refine AskD.mkr (toWorld_mk (RWd.frm.gro h (by first | exact Gro.refl _ | exact ⟨_, rfl⟩ | exact ⟨_, by simp only [List.append_assoc, List.cons_append, List.nil_append]; rfl⟩ | exact ⟨[], by simp⟩)) q) ?_; rintro _ J1 A1 ⟨cs1, rfl, r1⟩ o1 n1; simp [xxl, xxb]
  obtain ⟨ul, ub, rfl, xul, xub, yul, yub⟩ := RWd.cs5 r1
  refine AskD.go (te _) ?_; simp
  refine AskD.mkr (specStep_mk (RWd.frm.gro r1 (by first | exact Gro.refl _ | exact ⟨_, rfl⟩ | exact ⟨_, by simp only [List.append_assoc, List.cons_append, List.nil_append]; rfl⟩ | exact ⟨[], by simp⟩)) hrg a ra) ?_; rintro _ J2 A2 ⟨cs2, rfl, c2, rfl, r2⟩ o2 n2; simp [xxl, xxb]
  obtain ⟨wl, wb, rfl, xwl, xwb, ywl, ywb⟩ := RWd.cs5 r2
  simp [xwl, xwb, ywl, ywb]
  refine hK _ ?_; clear hK K
  repeat (first | refine sk_seq ?_ | refine sk_block ?_ | refine sk_blk ?_ | refine sk_skip ?_ | refine sk_exit rfl ?_ | refine sk_cond_t rfl ?_ | refine sk_cond_f rfl ?_ | ((first | refine sk_reg fun K hK => ?_ | refine sk_drw mix fun K hK => ?_); simp [xxl, xxb]; refine hK _ ?_; clear hK K))
  refine sk_reg fun K hK => ?_; simp [xxl, xxb]
  refine AskX.mkr (toWorld_mk (RWd.frm.gro h (by first | exact Gro.refl _ | exact ⟨_, rfl⟩ | exact ⟨_, by simp only [List.append_assoc, List.cons_append, List.nil_append]; rfl⟩ | exact ⟨[], by simp⟩)) q) ?_; rintro _ J3 A3 ⟨cs3, rfl, r3⟩ o3 n3; simp [xxl, xxb]
  obtain ⟨tl, tb, rfl, xtl, xtb, ytl, ytb⟩ := RWd.cs5 r3
  simp [xtl, xtb, ytl, ytb]
  refine hK _ ?_; clear hK K
  refine sk_seq ?_
  refine sk_drw mix fun K hK => ?_; simp [xtl, xtb]
  refine AskD.go (te _) ?_; simp
  refine AskD.mkr (implStep_mk (RWd.frm.gro r3 (by first | exact Gro.refl _ | exact ⟨_, rfl⟩ | exact ⟨_, by simp only [List.append_assoc, List.cons_append, List.nil_append]; rfl⟩ | exact ⟨[], by simp⟩)) a) ?_; rintro _ J4 A4 ⟨cs4, rfl, c4, rfl, r4⟩ o4 n4; simp [xtl, xtb]
  obtain ⟨ql, qb, rfl, xql, xqb, yql, yqb⟩ := RWd.cs5 r4
  simp [xql, xqb, yql, yqb]
  refine hK _ ?_; clear hK K
  have hcb := cnWd_step w a
  have hcb' := cnWd_sz w q
  have hnnb := cnWd_nn w
  have hidx := fun (H' : Heap) (E' : List Nat) (c : List Value) (h : RWd H' E' w c) => implStep_mk h a
  generalize hDd : stepWd w a = D at *
  have hnnd := cnWd_nn D.world
  have l2 := o2.lt
  have l3 := o3.lt
  simp only [List.append_assoc, List.cons_append, List.nil_append, List.length_append, List.length_cons, List.length_nil] at r2 o2 n2 l2 r3 o3 n3 l3 r4 o4 n4
  obtain ⟨P7, hP7⟩ : ∃ P, P = H.length + (J1.length + (J2.length + J3.length) + 3) := ⟨_, rfl⟩
  obtain ⟨P8, hP8⟩ : ∃ P, P = P7 + 1 := ⟨_, rfl⟩
  obtain ⟨Q2, hQ2⟩ : ∃ Q, Q = H.length + 3 + J1.length + J2.length := ⟨_, rfl⟩
  refine sk_at [(2, pt H.length 0), (3, pt (H.length + 1) 0), (6, pt (H.length + 2) 0), (7, pt P7 0), (8, pt P8 0)]
    (fun H1 => Gro H H1 ∧ H1[H.length]? = some ⟨83, [.bool w.ok, .bool w.book.ok, iv w.book.sec, xl, xb], true, true⟩ ∧ H1[H.length + 1]? = some ⟨98, [iv a.op, iv a.ev.op, iv a.ev.train, iv a.ev.n, iv a.train, iv a.n], true, true⟩ ∧ H1[H.length + 2]? = some ⟨67, [iv D.code, .bool D.world.ok, .bool D.world.book.ok, iv D.world.book.sec, wl, wb], true, true⟩ ∧
      H1[P7]? = some ⟨64, [.bool w.ok, .bool w.book.ok, iv w.book.sec, tl, tb], true, true⟩ ∧ H1[P8]? = some ⟨67, [iv D.code, .bool D.world.ok, .bool D.world.book.ok, iv D.world.book.sec, ql, qb], true, true⟩ ∧
      RWd H1 A2 D.world [.bool D.world.ok, .bool D.world.book.ok, iv D.world.book.sec, wl, wb] ∧ RWd H1 A3 w [.bool w.ok, .bool w.book.ok, iv w.book.sec, tl, tb] ∧ RWd H1 A4 D.world [.bool D.world.ok, .bool D.world.book.ok, iv D.world.book.sec, ql, qb] ∧ Own H1 A3 ∧ Own H1 A4 ∧ (∀ e, e ∈ A2 → H.length + 3 ≤ e ∧ e < Q2) ∧ (∀ e, e ∈ A3 → Q2 ≤ e ∧ e < P7) ∧ ∀ e, e ∈ A4 → P8 < e) (by simp [subL, getT, hP7, hP8, Nat.add_assoc]) ?_ ?_
  · have k2 : ∀ e, e ∈ A2 → H.length + 3 ≤ e ∧ e < Q2 := fun e he => by have := n2 e he; have := l2 e he; omega
    have k3 : ∀ e, e ∈ A3 → Q2 ≤ e ∧ e < P7 := fun e he => by have := n3 e he; have := l3 e he; omega
    have k4 : ∀ e, e ∈ A4 → P8 < e := fun e he => by have := n4 e he; omega
    have e7 : ∀ y : Blk, H ++ ⟨83, [.bool w.ok, .bool w.book.ok, iv w.book.sec, xl, xb], true, true⟩ :: ⟨98, [iv a.op, iv a.ev.op, iv a.ev.train, iv a.ev.n, iv a.train, iv a.n], true, true⟩ :: ⟨67, [iv D.code, .bool D.world.ok, .bool D.world.book.ok, iv D.world.book.sec, wl, wb], true, true⟩ :: (J1 ++ (J2 ++ (J3 ++ ⟨64, [.bool w.ok, .bool w.book.ok, iv w.book.sec, tl, tb], true, true⟩ :: y :: J4)))
        = (H ++ ⟨83, [.bool w.ok, .bool w.book.ok, iv w.book.sec, xl, xb], true, true⟩ :: ⟨98, [iv a.op, iv a.ev.op, iv a.ev.train, iv a.ev.n, iv a.train, iv a.n], true, true⟩ :: ⟨67, [iv D.code, .bool D.world.ok, .bool D.world.book.ok, iv D.world.book.sec, wl, wb], true, true⟩ :: (J1 ++ (J2 ++ J3))) ++ ⟨64, [.bool w.ok, .bool w.book.ok, iv w.book.sec, tl, tb], true, true⟩ :: y :: J4 := fun y => by simp
    show Gro H _ ∧ _
    rw [e7] at r4 o4 ⊢
    have hX : (H ++ ⟨83, [.bool w.ok, .bool w.book.ok, iv w.book.sec, xl, xb], true, true⟩ :: ⟨98, [iv a.op, iv a.ev.op, iv a.ev.train, iv a.ev.n, iv a.train, iv a.n], true, true⟩ :: ⟨67, [iv D.code, .bool D.world.ok, .bool D.world.book.ok, iv D.world.book.sec, wl, wb], true, true⟩ :: (J1 ++ (J2 ++ J3))).length = P7 := by simp; omega
    have hX0 : ∀ i, i < 3 → ∀ J, ((H ++ ⟨83, [.bool w.ok, .bool w.book.ok, iv w.book.sec, xl, xb], true, true⟩ :: ⟨98, [iv a.op, iv a.ev.op, iv a.ev.train, iv a.ev.n, iv a.train, iv a.n], true, true⟩ :: ⟨67, [iv D.code, .bool D.world.ok, .bool D.world.book.ok, iv D.world.book.sec, wl, wb], true, true⟩ :: (J1 ++ (J2 ++ J3))) ++ J)[H.length + i]? = ([⟨83, [.bool w.ok, .bool w.book.ok, iv w.book.sec, xl, xb], true, true⟩, ⟨98, [iv a.op, iv a.ev.op, iv a.ev.train, iv a.ev.n, iv a.train, iv a.n], true, true⟩, ⟨67, [iv D.code, .bool D.world.ok, .bool D.world.book.ok, iv D.world.book.sec, wl, wb], true, true⟩] : List Blk)[i]? := fun i hi J => by
      rw [List.append_assoc, List.getElem?_append_right (by omega), Nat.add_sub_cancel_left]
      rcases i with _ | _ | _ | i
      · rfl
      · rfl
      · rfl
      · omega
    have hX2 : ∀ f, f ∈ A2 → ∀ J, ((H ++ ⟨83, [.bool w.ok, .bool w.book.ok, iv w.book.sec, xl, xb], true, true⟩ :: ⟨98, [iv a.op, iv a.ev.op, iv a.ev.train, iv a.ev.n, iv a.train, iv a.n], true, true⟩ :: ⟨67, [iv D.code, .bool D.world.ok, .bool D.world.book.ok, iv D.world.book.sec, wl, wb], true, true⟩ :: (J1 ++ (J2 ++ J3))) ++ J)[f]? = (J1 ++ J2)[f - (H.length + 3)]? := fun f he J => by
      have := k2 f he
      rw [List.getElem?_append_left (by omega), get_t3 _ _ _ _ _ this.1, ← List.append_assoc, List.getElem?_append_left (by simp; omega)]
    have hXg : Gro H (H ++ ⟨83, [.bool w.ok, .bool w.book.ok, iv w.book.sec, xl, xb], true, true⟩ :: ⟨98, [iv a.op, iv a.ev.op, iv a.ev.train, iv a.ev.n, iv a.train, iv a.n], true, true⟩ :: ⟨67, [iv D.code, .bool D.world.ok, .bool D.world.book.ok, iv D.world.book.sec, wl, wb], true, true⟩ :: (J1 ++ (J2 ++ J3))) := ⟨_, rfl⟩
    generalize (H ++ ⟨83, [.bool w.ok, .bool w.book.ok, iv w.book.sec, xl, xb], true, true⟩ :: ⟨98, [iv a.op, iv a.ev.op, iv a.ev.train, iv a.ev.n, iv a.train, iv a.n], true, true⟩ :: ⟨67, [iv D.code, .bool D.world.ok, .bool D.world.book.ok, iv D.world.book.sec, wl, wb], true, true⟩ :: (J1 ++ (J2 ++ J3))) = X at *
    have g3 : ∀ J, Gro X (X ++ J) := fun J => ⟨J, rfl⟩
    have h8 : ∀ (y d : Blk) e, P8 < e → (X ++ d :: y :: J4)[e]? = J4[e - (P8 + 1)]? := fun y d e he => by
      rw [show X ++ d :: y :: J4 = (X ++ [d]) ++ y :: J4 by simp, get_x' _ _ _ (by simp; omega)]
      simp only [List.length_append, List.length_cons, List.length_nil]
      rw [show X.length + (0 + 1) + 1 = P8 + 1 by omega]
    refine ⟨hXg.trans (g3 _), hX0 0 (by omega) _, hX0 1 (by omega) _, hX0 2 (by omega) _, ?_, ?_, ?_, RWd.frm.gro r3 (g3 _), ?_, o3.gro (g3 _), ?_, k2, k3, k4⟩
    · rw [← hX]; simp
    · rw [hP8, ← hX, List.getElem?_append_right (by omega)]; simp
    · refine RWd.frm.fr r2 fun e he _ => ?_
      rw [hX2 e he, get_t3 _ _ _ _ _ (k2 e he).1]
    · exact RWd.frm.fr r4 fun e he _ => by rw [h8 _ _ e (k4 e he), h8 _ _ e (k4 e he)]
    · exact o4.fr fun e he => by rw [h8 _ _ e (k4 e he), h8 _ _ e (k4 e he)]
  clear r1 o1 n1 r2 o2 n2 l2 r3 o3 n3 l3 r4 o4 n4
  rintro H1 ⟨hg, hb0, hb1, hb2, hb7, hb8, r2, r3, r4, o3, o4, k2, k3, k4⟩
  have hl1 := hg.len
  have a0 : CF H1 H.length 0 (.bool w.ok) := CF.of hb0 rfl rfl
  have a1 : CF H1 H.length 1 (.bool w.book.ok) := CF.of hb0 rfl rfl
  have a2 : CF H1 H.length 2 (iv w.book.sec) := CF.of hb0 rfl rfl
  have a3 : CF H1 H.length 3 xl := CF.of hb0 rfl rfl
  have a4 : CF H1 H.length 4 xb := CF.of hb0 rfl rfl
  have c0 : CF H1 (H.length + 2) 0 (iv D.code) := CF.of hb2 rfl rfl
  have c1 : CF H1 (H.length + 2) 1 (.bool D.world.ok) := CF.of hb2 rfl rfl
  have c2 : CF H1 (H.length + 2) 2 (.bool D.world.book.ok) := CF.of hb2 rfl rfl
  have c3 : CF H1 (H.length + 2) 3 (iv D.world.book.sec) := CF.of hb2 rfl rfl
  have c4 : CF H1 (H.length + 2) 4 wl := CF.of hb2 rfl rfl
  have c5 : CF H1 (H.length + 2) 5 wb := CF.of hb2 rfl rfl
  have d0 : CF H1 P7 0 (.bool w.ok) := CF.of hb7 rfl rfl
  have d1 : CF H1 P7 1 (.bool w.book.ok) := CF.of hb7 rfl rfl
  have d2 : CF H1 P7 2 (iv w.book.sec) := CF.of hb7 rfl rfl
  have d3 : CF H1 P7 3 tl := CF.of hb7 rfl rfl
  have d4 : CF H1 P7 4 tb := CF.of hb7 rfl rfl
  have f0 : CF H1 P8 0 (iv D.code) := CF.of hb8 rfl rfl
  have f1 : CF H1 P8 1 (.bool D.world.ok) := CF.of hb8 rfl rfl
  have f2 : CF H1 P8 2 (.bool D.world.book.ok) := CF.of hb8 rfl rfl
  have f3 : CF H1 P8 3 (iv D.world.book.sec) := CF.of hb8 rfl rfl
  have f4 : CF H1 P8 4 ql := CF.of hb8 rfl rfl
  have f5 : CF H1 P8 5 qb := CF.of hb8 rfl rfl
  repeat (first | refine sk_seq ?_ | refine sk_block ?_ | refine sk_blk ?_ | refine sk_skip ?_ | refine sk_exit rfl ?_ | refine sk_cond_t rfl ?_ | refine sk_cond_f rfl ?_ | ((first | refine sk_reg fun K hK => ?_ | refine sk_drw mix fun K hK => ?_); simp [c0.s, c1.s, c2.s, c3.s, c4.s, c5.s, f0.s, f1.s, f2.s, f3.s, f4.s, f5.s, xwl, xwb, xql, xqb]; (repeat ((first | refine AskX.go (eqMoved_ac (x := D) ⟨_, rfl, r4⟩ ⟨_, rfl, r2⟩) ?_ | refine AskD.go (eqMoved_ac (x := D) ⟨_, rfl, r4⟩ ⟨_, rfl, r2⟩) ?_); simp [c0.s, c1.s, c2.s, c3.s, c4.s, c5.s, f0.s, f1.s, f2.s, f3.s, f4.s, f5.s, xwl, xwb, xql, xqb])); refine hK _ ?_; clear hK K))
  refine sk_drw mix fun K hK => ?_; simp [a0.s, a1.s, a2.s, a3.s, a4.s, d0.s, d1.s, d2.s, d3.s, d4.s, xxl, xxb, xtl, xtb]
  refine AskD.mkr (toWorld_mk (RWd.frm.gro h hg) q) ?_; rintro _ J5 A5 ⟨cs5, rfl, r5⟩ o5 n5; simp [a0.s, a1.s, a2.s, a3.s, a4.s, d0.s, d1.s, d2.s, d3.s, d4.s, xxl, xxb, xtl, xtb]
  refine AskD.go (eqWorld_ac (RWd.frm.gro r3 (by first | exact Gro.refl _ | exact ⟨_, rfl⟩ | exact ⟨_, by simp only [List.append_assoc, List.cons_append, List.nil_append]; rfl⟩ | exact ⟨[], by simp⟩)) r5) ?_; simp
  refine hK _ ?_; clear hK K
  have b3 := RWd.frm.bd r3
  have b2 := RWd.frm.bd r2
  have b4 := RWd.frm.bd r4
  have hlt8 := lt_of_get hb8
  obtain ⟨H2, ac3, mk3, r3'⟩ := markWorld_ac (k := 1) (RWd.frm.ext (L := J5) r3) (o3.ext b3) (by omega) (by omega)
  have wr3 : wrL H.length [] A3 := fun d hd => .inl (by have := k3 d hd; omega)
  have out3 : ∀ i, i < H1.length → i ∉ A3 → H2[i]? = H1[i]? := fun i hi hn => (mk3.out i hn).trans (List.getElem?_append_left hi)
  have m2 : H2[H.length + 2]? = _ := (out3 _ (lt_of_get hb2) fun hh => by have := k3 _ hh; omega).trans hb2
  have m8 : H2[P8]? = _ := (out3 _ hlt8 fun hh => by have := k3 _ hh; omega).trans hb8
  have m0 : H2[H.length]? = _ := (out3 _ (lt_of_get hb0) fun hh => by have := k3 _ hh; omega).trans hb0
  have m1 : H2[H.length + 1]? = _ := (out3 _ (lt_of_get hb1) fun hh => by have := k3 _ hh; omega).trans hb1
  have hl2 : H1.length ≤ H2.length := by have := mk3.len; simp at this; omega
  have g2 : Gro H H2 := Gro.of (by omega) fun i hi => (out3 i (by omega) fun hh => by have := k3 _ hh; omega).trans (hg.same hi)
  have r2' : RWd H2 A2 D.world [.bool D.world.ok, .bool D.world.book.ok, iv D.world.book.sec, wl, wb] := RWd.frm.fr r2 fun f hf hlt => out3 f hlt fun hh => by have := k3 _ hh; have := k2 f hf; omega
  have r4' : RWd H2 A4 D.world [.bool D.world.ok, .bool D.world.book.ok, iv D.world.book.sec, ql, qb] := RWd.frm.fr r4 fun f hf hlt => out3 f hlt fun hh => by have := k3 _ hh; have := k4 f hf; omega
  have o4' : Own H2 A4 := o4.fr fun f hf => out3 f (b4 f hf) fun hh => by have := k3 _ hh; have := k4 f hf; omega
  have c'0 : CF H2 (H.length + 2) 0 (iv D.code) := CF.of m2 rfl rfl
  have c'1 : CF H2 (H.length + 2) 1 (.bool D.world.ok) := CF.of m2 rfl rfl
  have c'2 : CF H2 (H.length + 2) 2 (.bool D.world.book.ok) := CF.of m2 rfl rfl
  have c'3 : CF H2 (H.length + 2) 3 (iv D.world.book.sec) := CF.of m2 rfl rfl
  have c'4 : CF H2 (H.length + 2) 4 wl := CF.of m2 rfl rfl
  have c'5 : CF H2 (H.length + 2) 5 wb := CF.of m2 rfl rfl
  have f'0 : CF H2 P8 0 (iv D.code) := CF.of m8 rfl rfl
  have f'1 : CF H2 P8 1 (.bool D.world.ok) := CF.of m8 rfl rfl
  have f'2 : CF H2 P8 2 (.bool D.world.book.ok) := CF.of m8 rfl rfl
  have f'3 : CF H2 P8 3 (iv D.world.book.sec) := CF.of m8 rfl rfl
  have f'4 : CF H2 P8 4 ql := CF.of m8 rfl rfl
  have f'5 : CF H2 P8 5 qb := CF.of m8 rfl rfl
  have p1 : ¬ (1 + cnWd w < 0) := by omega
  obtain ⟨H3, ac4, mk4, r4m⟩ := markMoved_ac (n := D.code) (k := 1) r4' o4' (by omega) (by omega)
  have wr4 : wrL H.length [] A4 := fun d hd => .inl (by have := k4 d hd; omega)
  have n2 : H3[H.length + 2]? = _ := (mk4.out _ fun hh => by have := k4 _ hh; omega).trans m2
  have n8 : H3[P8]? = _ := (mk4.out _ fun hh => by have := k4 _ hh; omega).trans m8
  have n0 : H3[H.length]? = _ := (mk4.out _ fun hh => by have := k4 _ hh; omega).trans m0
  have n1 : H3[H.length + 1]? = _ := (mk4.out _ fun hh => by have := k4 _ hh; omega).trans m1
  have hl3 : H3.length = H2.length := mk4.len
  have g3 : Gro H H3 := Gro.of (by omega) fun i hi => (mk4.out i fun hh => by have := k4 _ hh; omega).trans (g2.same hi)
  have r2n : RWd H3 A2 D.world [.bool D.world.ok, .bool D.world.book.ok, iv D.world.book.sec, wl, wb] := RWd.frm.fr r2' fun f hf hlt => mk4.out f fun hh => by have := k4 _ hh; have := k2 f hf; omega
  have cn0 : CF H3 (H.length + 2) 0 (iv D.code) := CF.of n2 rfl rfl
  have cn1 : CF H3 (H.length + 2) 1 (.bool D.world.ok) := CF.of n2 rfl rfl
  have cn2 : CF H3 (H.length + 2) 2 (.bool D.world.book.ok) := CF.of n2 rfl rfl
  have cn3 : CF H3 (H.length + 2) 3 (iv D.world.book.sec) := CF.of n2 rfl rfl
  have cn4 : CF H3 (H.length + 2) 4 wl := CF.of n2 rfl rfl
  have cn5 : CF H3 (H.length + 2) 5 wb := CF.of n2 rfl rfl
  have fn0 : CF H3 P8 0 (iv D.code) := CF.of n8 rfl rfl
  have fn1 : CF H3 P8 1 (.bool D.world.ok) := CF.of n8 rfl rfl
  have fn2 : CF H3 P8 2 (.bool D.world.book.ok) := CF.of n8 rfl rfl
  have fn3 : CF H3 P8 3 (iv D.world.book.sec) := CF.of n8 rfl rfl
  have fn4 : CF H3 P8 4 ql := CF.of n8 rfl rfl
  have fn5 : CF H3 P8 5 qb := CF.of n8 rfl rfl
  have an0 : CF H3 H.length 0 (.bool w.ok) := CF.of n0 rfl rfl
  have an1 : CF H3 H.length 1 (.bool w.book.ok) := CF.of n0 rfl rfl
  have an2 : CF H3 H.length 2 (iv w.book.sec) := CF.of n0 rfl rfl
  have an3 : CF H3 H.length 3 xl := CF.of n0 rfl rfl
  have an4 : CF H3 H.length 4 xb := CF.of n0 rfl rfl
  have bn0 : CF H3 (H.length + 1) 0 (iv a.op) := CF.of n1 rfl rfl
  have bn1 : CF H3 (H.length + 1) 1 (iv a.ev.op) := CF.of n1 rfl rfl
  have bn2 : CF H3 (H.length + 1) 2 (iv a.ev.train) := CF.of n1 rfl rfl
  have bn3 : CF H3 (H.length + 1) 3 (iv a.ev.n) := CF.of n1 rfl rfl
  have bn4 : CF H3 (H.length + 1) 4 (iv a.train) := CF.of n1 rfl rfl
  have bn5 : CF H3 (H.length + 1) 5 (iv a.n) := CF.of n1 rfl rfl
  have p2 : ¬ (1 + cnWd D.world < 0) := by omega
  have hac := heldMoved_ac (n := D.code) (k := 1) r4m (by omega) (by omega)
  have te3 := fun L : Heap => toAct_ac (H := H3 ++ L) a
  simp only [cAc] at te3
  repeat (first | refine sk_seq ?_ | refine sk_block ?_ | refine sk_blk ?_ | refine sk_skip ?_ | refine sk_exit rfl ?_ | refine sk_cond_t rfl ?_ | refine sk_cond_f rfl ?_ | ((first | refine sk_reg fun K hK => ?_ | refine sk_drw mix fun K hK => ?_); simp [d0.s, d1.s, d2.s, d3.s, d4.s, xtl, xtb, wr3, p1, p2, wr4, c'0.s, c'1.s, c'2.s, c'3.s, c'4.s, c'5.s, f'0.s, f'1.s, f'2.s, f'3.s, f'4.s, f'5.s, fn0.s, fn1.s, fn2.s, fn3.s, fn4.s, fn5.s, xwl, xwb, xql, xqb]; (repeat ((first | refine AskX.go (ac3) ?_ | refine AskD.go (ac3) ?_ | refine AskX.go (eqMoved_ac (x := D) ⟨_, rfl, r4'⟩ ⟨_, rfl, r2'⟩) ?_ | refine AskD.go (eqMoved_ac (x := D) ⟨_, rfl, r4'⟩ ⟨_, rfl, r2'⟩) ?_ | refine AskX.go (ac4) ?_ | refine AskD.go (ac4) ?_ | refine AskX.go (hac) ?_ | refine AskD.go (hac) ?_); simp [d0.s, d1.s, d2.s, d3.s, d4.s, xtl, xtb, wr3, p1, p2, wr4, c'0.s, c'1.s, c'2.s, c'3.s, c'4.s, c'5.s, f'0.s, f'1.s, f'2.s, f'3.s, f'4.s, f'5.s, fn0.s, fn1.s, fn2.s, fn3.s, fn4.s, fn5.s, xwl, xwb, xql, xqb])); refine hK _ ?_; clear hK K))
  have hacL := fun L : Heap => heldMoved_ac (n := D.code) (k := 1) (RWd.frm.ext (L := L) r4m) (by omega) (by omega)
  have hlH3 := g3.len
  have hgz3 : ∀ n, H.length ≤ H3.length + n := fun n => by omega
  refine sk_drw mix fun K hK => ?_; simp [an0.s, an1.s, an2.s, an3.s, an4.s, bn0.s, bn1.s, bn2.s, bn3.s, bn4.s, bn5.s, xxl, xxb]
  refine AskD.mkr (toWorld_mk (RWd.frm.gro h (g3.trans (by first | exact Gro.refl _ | exact ⟨_, rfl⟩ | exact ⟨_, by simp only [List.append_assoc, List.cons_append, List.nil_append]; rfl⟩ | exact ⟨[], by simp⟩))) q) ?_; rintro _ J6 A6 ⟨cs6, rfl, r6⟩ o6 n6; simp [an0.s, an1.s, an2.s, an3.s, an4.s, bn0.s, bn1.s, bn2.s, bn3.s, bn4.s, bn5.s, xxl, xxb]
  refine AskD.go (te3 _) ?_; simp
  refine AskD.mkr (hidx _ _ _ (RWd.frm.gro r6 (by first | exact Gro.refl _ | exact ⟨_, rfl⟩ | exact ⟨_, by simp only [List.append_assoc, List.cons_append, List.nil_append]; rfl⟩ | exact ⟨[], by simp⟩))) ?_; rintro _ J7 A7 ⟨cs7, rfl, c7, rfl, r7⟩ o7 n7; simp [hlH3, hgz3]
  obtain ⟨sl', sb, rfl, xsl, xsb, ysl, ysb⟩ := RWd.cs5 r7
  simp [xsl, xsb, ysl, ysb, hlH3, hgz3]
  refine hK _ ?_; clear hK K
  simp only [List.append_assoc, List.cons_append, List.nil_append, List.length_append, List.length_cons, List.length_nil] at r7 n7
  have r7' : RWd (H3 ++ ⟨67, [iv D.code, .bool D.world.ok, .bool D.world.book.ok, iv D.world.book.sec, sl', sb], true, true⟩ :: (J6 ++ J7)) A7 D.world [.bool D.world.ok, .bool D.world.book.ok, iv D.world.book.sec, sl', sb] := RWd.frm.fr r7 fun f hf _ => by
    have := n7 f hf
    rw [get_x' _ _ _ (by omega), get_x' _ _ _ (by omega)]
  repeat (first | refine sk_seq ?_ | refine sk_block ?_ | refine sk_blk ?_ | refine sk_skip ?_ | refine sk_exit rfl ?_ | refine sk_cond_t rfl ?_ | refine sk_cond_f rfl ?_ | ((first | refine sk_reg fun K hK => ?_ | refine sk_drw mix fun K hK => ?_); simp [cn0.s, cn1.s, cn2.s, cn3.s, cn4.s, cn5.s, fn0.s, fn1.s, fn2.s, fn3.s, fn4.s, fn5.s, xwl, xwb, xql, xqb, xsl, xsb, p2]; (repeat ((first | refine AskX.go (eqMoved_ac (x := D) ⟨_, rfl, r7'⟩ ⟨_, rfl, RWd.frm.gro r2n (by first | exact Gro.refl _ | exact ⟨_, rfl⟩ | exact ⟨_, by simp only [List.append_assoc, List.cons_append, List.nil_append]; rfl⟩ | exact ⟨[], by simp⟩)⟩) ?_ | refine AskD.go (eqMoved_ac (x := D) ⟨_, rfl, r7'⟩ ⟨_, rfl, RWd.frm.gro r2n (by first | exact Gro.refl _ | exact ⟨_, rfl⟩ | exact ⟨_, by simp only [List.append_assoc, List.cons_append, List.nil_append]; rfl⟩ | exact ⟨[], by simp⟩)⟩) ?_ | refine AskX.go (hacL _) ?_ | refine AskD.go (hacL _) ?_); simp [cn0.s, cn1.s, cn2.s, cn3.s, cn4.s, cn5.s, fn0.s, fn1.s, fn2.s, fn3.s, fn4.s, fn5.s, xwl, xwb, xql, xqb, xsl, xsb, p2])); refine hK _ ?_; clear hK K))
  refine sk_ret ?_; simp
  obtain ⟨K, rfl⟩ := g3
  exact ⟨_, List.append_assoc _ _ _⟩
end Go.Proofs.Ytpoedfmkiiijnaa
