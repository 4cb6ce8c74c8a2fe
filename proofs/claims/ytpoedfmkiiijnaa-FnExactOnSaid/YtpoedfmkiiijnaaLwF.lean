/- The statement's own function FnExactOn: it answers true. A walk. -/
import Derived.Test.YtpoedfmkiiijnaaOn2
import Derived.Test.YtpoedfmkiiijnaaMkW
import Derived.Test.YtpoedfmkiiijnaaDo7
namespace Go.Proofs.Ytpoedfmkiiijnaa
open Go Go.RowKit Go.Proofs.YtpoedfmkiiijnaaAm
set_option linter.unusedVariables false
set_option linter.unusedSimpArgs false
set_option maxRecDepth 10000
set_option maxHeartbeats 8000000
theorem RWd.cs5 {H : Heap} {E : List Nat} {w : Wd} {cs : List Value} (h : RWd H E w cs) : ∃ vl vb, cs = [.bool w.ok, .bool w.book.ok, iv w.book.sec, vl, vb] ∧ vl.oneCell' = true ∧ vb.oneCell' = true ∧ cellsV vl = [vl] ∧ cellsV vb = [vb] := by
  obtain ⟨_, _, _, vb, _, rfl, ⟨vl, rfl, hl⟩, hb2⟩ := h
  exact ⟨vl, vb, rfl, hl.one, hb2.one, hl.cv, hb2.cv⟩
theorem cnWd_sz (w : Wd) (h : szW w ≤ 1048576) : cnWd w ≤ 6291456 := by
  have h1 := cnBk_sz w.book
  have h2 := cnL_one (c := cnBd) (m := 4) (fun _ => rfl) w.bodies
  have h3 : 0 ≤ szLs w.book.lines := by have := cnL_nn szL_nn w.book.lines; unfold szLs; omega
  unfold szW at h
  unfold cnWd; omega
theorem onW_len (w : Wd) (s : Int) : (onW w s).length ≤ 2020 := by
  unfold onW
  split
  · rename_i h
    obtain ⟨r1, r2, r3, r4⟩ := rightB_all h
    obtain ⟨_, _, hl20, _⟩ := bookOk_sec r2
    have := onN_len (ls := w.book.lines) (xs := w.bodies) (s := s) (n := w.bodies.length) fun i hi => by
      rw [lAt_eq (show i < w.book.lines.length by omega), bAt_eq hi]
      exact ⟨bookOk_ln r2 (by omega), r4 i hi (by omega)⟩
    omega
  · simp
def B13 : SC := .seq (.reg [⟨some 2, .box 83 (.tmp 0), none, []⟩, ⟨some 4, .assign (.const (.bool false)), none, []⟩]) (.seq (.reg [⟨some 5, .assign (.const (.int .i64 1048576)), none, []⟩]) (.seq (.reg [⟨some 13, .load 83 (.tmp 2), none, []⟩, ⟨some 14, .move (.tmp 5), none, []⟩, ⟨some 15, .call { callee := (.value (.func 53)), args := #[(.tmp 13), (.tmp 14)], argTypes := #[83, 3] }, none, []⟩, ⟨some 5, .assign (.tmp 15), none, []⟩]) (.seq (.seq (.reg [⟨some 16, .move (.tmp 5), none, []⟩, ⟨some 17, .binOp .lss 3 (.tmp 16) (.const (.int .i64 0)) 3, none, []⟩]) (.cond (.tmp 17) (.seq (.reg [⟨some 4, .assign (.const (.bool true)), none, []⟩]) .ret) .skip)) (.seq (.reg [⟨some 18, .load 83 (.tmp 2), none, []⟩, ⟨some 19, .call { callee := (.value (.func 55)), args := #[(.tmp 18)], argTypes := #[83] }, none, []⟩, ⟨some 20, .move (.tmp 1), none, []⟩, ⟨some 21, .call { callee := (.value (.func 54)), args := #[(.tmp 19), (.tmp 20)], argTypes := #[64, 3] }, none, []⟩, ⟨some 6, .assign (.tmp 21), none, []⟩]) (.seq (.reg [⟨some 22, .load 83 (.tmp 2), none, []⟩, ⟨some 23, .call { callee := (.value (.func 55)), args := #[(.tmp 22)], argTypes := #[83] }, none, []⟩, ⟨some 7, .alloc 64, none, []⟩, ⟨none, .store 64 (.tmp 7) (.tmp 23), none, []⟩]) (.seq (.reg [⟨some 24, .load 64 (.tmp 7), none, []⟩, ⟨some 25, .move (.tmp 1), none, []⟩, ⟨some 26, .call { callee := (.value (.func 43)), args := #[(.tmp 24), (.tmp 25)], argTypes := #[64, 3] }, none, []⟩, ⟨some 8, .assign (.tmp 26), none, []⟩]) (.seq (.seq (.reg [⟨some 27, .move (.tmp 8), none, []⟩, ⟨some 28, .move (.tmp 6), none, []⟩, ⟨some 29, .call { callee := (.value (.func 49)), args := #[(.tmp 27), (.tmp 28)], argTypes := #[40, 40] }, none, []⟩, ⟨some 30, .unOp .not 4 (.tmp 29), none, []⟩]) (.cond (.tmp 30) (.seq (.reg [⟨some 4, .assign (.const (.bool false)), none, []⟩]) .ret) .skip)) (.seq (.seq (.drw 0 [⟨some 31, .load 64 (.tmp 7), none, []⟩, ⟨some 32, .load 83 (.tmp 2), none, []⟩, ⟨some 33, .call { callee := (.value (.func 55)), args := #[(.tmp 32)], argTypes := #[83] }, none, [1]⟩, ⟨some 34, .call { callee := (.value (.func 48)), args := #[(.tmp 31), (.tmp 33)], argTypes := #[64, 64] }, none, [0, 2, 1]⟩, ⟨some 35, .unOp .not 4 (.tmp 34), none, [3, 0, 2, 1]⟩]) (.cond (.tmp 35) (.seq (.reg [⟨some 4, .assign (.const (.bool false)), none, []⟩]) .ret) .skip)) (.seq (.reg [⟨some 9, .assign (.const (.int .i64 1)), none, []⟩]) (.seq (.reg [⟨some 36, .load 64 (.tmp 7), none, []⟩, ⟨some 37, .move (.tmp 9), none, []⟩, ⟨some 38, .call { callee := (.value (.func 51)), args := #[(.tmp 36), (.tmp 37)], argTypes := #[64, 3] }, none, []⟩, ⟨some 9, .assign (.tmp 38), none, []⟩]) (.seq (.seq (.reg [⟨some 39, .move (.tmp 9), none, []⟩, ⟨some 40, .binOp .lss 3 (.tmp 39) (.const (.int .i64 0)) 3, none, []⟩, ⟨some 41, .move (.tmp 40), none, []⟩, ⟨some 42, .move (.tmp 8), some (41, false), []⟩, ⟨some 43, .move (.tmp 6), some (41, false), []⟩, ⟨some 44, .call { callee := (.value (.func 49)), args := #[(.tmp 42), (.tmp 43)], argTypes := #[40, 40] }, some (41, false), []⟩, ⟨some 45, .unOp .not 4 (.tmp 44), some (41, false), []⟩, ⟨some 46, .pick (.tmp 41) (.const (.bool true)) (.tmp 45), none, []⟩]) (.cond (.tmp 46) (.seq (.reg [⟨some 4, .assign (.const (.bool false)), none, []⟩]) .ret) .skip)) (.seq (.reg [⟨some 10, .assign (.const (.int .i64 1)), none, []⟩]) (.seq (.reg [⟨some 47, .move (.tmp 8), none, []⟩, ⟨some 48, .move (.tmp 10), none, []⟩, ⟨some 49, .call { callee := (.value (.func 50)), args := #[(.tmp 47), (.tmp 48)], argTypes := #[40, 3] }, none, []⟩, ⟨some 10, .assign (.tmp 49), none, []⟩]) (.seq (.reg [⟨some 11, .assign (.const (.int .i64 1)), none, []⟩]) (.seq (.reg [⟨some 50, .move (.tmp 8), none, []⟩, ⟨some 51, .move (.tmp 11), none, []⟩, ⟨some 52, .call { callee := (.value (.func 56)), args := #[(.tmp 50), (.tmp 51)], argTypes := #[40, 3] }, none, []⟩, ⟨some 11, .assign (.tmp 52), none, []⟩]) (.seq (.seq (.reg [⟨some 53, .move (.tmp 11), none, []⟩, ⟨some 54, .binOp .lss 3 (.tmp 53) (.const (.int .i64 0)) 3, none, []⟩]) (.cond (.tmp 54) (.seq (.reg [⟨some 4, .assign (.const (.bool false)), none, []⟩]) .ret) .skip)) (.seq (.seq (.reg [⟨some 55, .move (.tmp 11), none, []⟩, ⟨some 56, .move (.tmp 10), none, []⟩, ⟨some 57, .binOp .neq 3 (.tmp 55) (.tmp 56) 3, none, []⟩]) (.cond (.tmp 57) (.seq (.reg [⟨some 4, .assign (.const (.bool false)), none, []⟩]) .ret) .skip)) (.seq (.reg [⟨some 58, .load 83 (.tmp 2), none, []⟩, ⟨some 59, .call { callee := (.value (.func 55)), args := #[(.tmp 58)], argTypes := #[83] }, none, []⟩, ⟨some 60, .move (.tmp 1), none, []⟩, ⟨some 61, .call { callee := (.value (.func 43)), args := #[(.tmp 59), (.tmp 60)], argTypes := #[64, 3] }, none, []⟩, ⟨some 12, .assign (.tmp 61), none, []⟩]) (.seq (.seq (.reg [⟨some 62, .move (.tmp 12), none, []⟩, ⟨some 63, .move (.tmp 6), none, []⟩, ⟨some 64, .call { callee := (.value (.func 49)), args := #[(.tmp 62), (.tmp 63)], argTypes := #[40, 40] }, none, []⟩, ⟨some 65, .unOp .not 4 (.tmp 64), none, []⟩]) (.cond (.tmp 65) (.seq (.reg [⟨some 4, .assign (.const (.bool false)), none, []⟩]) .ret) .skip)) (.seq (.reg [⟨some 11, .assign (.const (.int .i64 1)), none, []⟩]) (.seq (.reg [⟨some 66, .move (.tmp 8), none, []⟩, ⟨some 67, .move (.tmp 11), none, []⟩, ⟨some 68, .call { callee := (.value (.func 56)), args := #[(.tmp 66), (.tmp 67)], argTypes := #[40, 3] }, none, []⟩, ⟨some 11, .assign (.tmp 68), none, []⟩]) (.seq (.seq (.reg [⟨some 69, .move (.tmp 11), none, []⟩, ⟨some 70, .binOp .lss 3 (.tmp 69) (.const (.int .i64 0)) 3, none, []⟩]) (.cond (.tmp 70) (.seq (.reg [⟨some 4, .assign (.const (.bool false)), none, []⟩]) .ret) .skip)) (.seq (.seq (.reg [⟨some 71, .move (.tmp 11), none, []⟩, ⟨some 72, .move (.tmp 10), none, []⟩, ⟨some 73, .binOp .neq 3 (.tmp 71) (.tmp 72) 3, none, []⟩]) (.cond (.tmp 73) (.seq (.reg [⟨some 4, .assign (.const (.bool false)), none, []⟩]) .ret) .skip)) (.seq (.reg [⟨some 4, .assign (.const (.bool true)), none, []⟩]) .ret))))))))))))))))))))))))
theorem s13 : Try.f13.body.bind (stripC 74) = some B13 := by kernel_rfl
theorem lawOn_ac {H : Heap} {E : List Nat} {w : Wd} {cs : List Value} (hR : RWdR H E w cs) (s : Int) : AC Try.prog 13 [.agg cs.toArray, iv s] H (.bool true) H [] := by
  obtain ⟨h, hrg⟩ := hR.wd
  obtain ⟨xl, xb, rfl, xxl, xxb, _, _⟩ := RWd.cs5 h
  have s0 := fun L : Heap => szWorld_ac (H := H ++ L) (RWd.frm.ext h) (a := 1048576) (by omega)
  refine AC.of_pureS (N := 74) Try.func13 s13 (by kernel_rfl) rfl rfl (by simp) rfl ?_; unfold B13
  by_cases q : szW w ≤ 1048576
  case neg =>
    rw [subN_no q] at s0
    repeat (first | refine sk_seq ?_ | refine sk_block ?_ | refine sk_blk ?_ | refine sk_skip ?_ | refine sk_exit rfl ?_ | refine sk_cond_t rfl ?_ | refine sk_cond_f rfl ?_ | ((first | refine sk_reg fun K hK => ?_ | refine sk_drw mix fun K hK => ?_); simp [xxl, xxb]; (repeat ((first | refine AskX.go (s0 _) ?_ | refine AskD.go (s0 _) ?_); simp [xxl, xxb])); refine hK _ ?_; clear hK K))
    refine sk_ret ?_; simp
  rw [subN_lt q] at s0
  have q' : ¬ ((1048576 : Int) - szW w < 0) := by omega
  repeat (first | refine sk_seq ?_ | refine sk_block ?_ | refine sk_blk ?_ | refine sk_skip ?_ | refine sk_exit rfl ?_ | refine sk_cond_t rfl ?_ | refine sk_cond_f rfl ?_ | ((first | refine sk_reg fun K hK => ?_ | refine sk_drw mix fun K hK => ?_); simp [xxl, xxb, q']; (repeat ((first | refine AskX.go (s0 _) ?_ | refine AskD.go (s0 _) ?_); simp [xxl, xxb, q'])); refine hK _ ?_; clear hK K))
  refine sk_reg fun K hK => ?_; simp [xxl, xxb]
  refine AskX.mkr (toWorld_mk (RWd.frm.gro h (by first | exact Gro.refl _ | exact ⟨_, rfl⟩ | exact ⟨_, by simp only [List.append_assoc, List.cons_append, List.nil_append]; rfl⟩ | exact ⟨[], by simp⟩)) q) ?_; rintro _ J1 A1 ⟨cs1, rfl, r1⟩ o1 n1; simp [xxl, xxb]
  obtain ⟨ul, ub, rfl, xul, xub, yul, yub⟩ := RWd.cs5 r1
  refine AskX.mkr (specOn_mk (RWd.frm.gro r1 (by first | exact Gro.refl _ | exact ⟨_, rfl⟩ | exact ⟨_, by simp only [List.append_assoc, List.cons_append, List.nil_append]; rfl⟩ | exact ⟨[], by simp⟩)) hrg s) ?_; rintro w2 J2 A2 r2 o2 n2; simp [xxl, xxb]
  refine hK _ ?_; clear hK K
  repeat (first | refine sk_seq ?_ | refine sk_block ?_ | refine sk_blk ?_ | refine sk_skip ?_ | refine sk_exit rfl ?_ | refine sk_cond_t rfl ?_ | refine sk_cond_f rfl ?_ | ((first | refine sk_reg fun K hK => ?_ | refine sk_drw mix fun K hK => ?_); simp [xxl, xxb]; refine hK _ ?_; clear hK K))
  refine sk_reg fun K hK => ?_; simp [xxl, xxb]
  refine AskX.mkr (toWorld_mk (RWd.frm.gro h (by first | exact Gro.refl _ | exact ⟨_, rfl⟩ | exact ⟨_, by simp only [List.append_assoc, List.cons_append, List.nil_append]; rfl⟩ | exact ⟨[], by simp⟩)) q) ?_; rintro _ J3 A3 ⟨cs3, rfl, r3⟩ o3 n3; simp [xxl, xxb]
  obtain ⟨tl, tb, rfl, xtl, xtb, ytl, ytb⟩ := RWd.cs5 r3
  simp [xtl, xtb, ytl, ytb]
  refine hK _ ?_; clear hK K
  repeat (first | refine sk_seq ?_ | refine sk_block ?_ | refine sk_blk ?_ | refine sk_skip ?_ | refine sk_exit rfl ?_ | refine sk_cond_t rfl ?_ | refine sk_cond_f rfl ?_ | ((first | refine sk_reg fun K hK => ?_ | refine sk_drw mix fun K hK => ?_); simp; refine hK _ ?_; clear hK K))
  refine sk_reg fun K hK => ?_; simp [xtl, xtb]
  refine AskX.mkr (implOn_mk (RWd.frm.gro r3 (by first | exact Gro.refl _ | exact ⟨_, rfl⟩ | exact ⟨_, by simp only [List.append_assoc, List.cons_append, List.nil_append]; rfl⟩ | exact ⟨[], by simp⟩)) s) ?_; rintro w4 J4 A4 r4 o4 n4; simp
  refine hK _ ?_; clear hK K
  have hcw := cnWd_sz w q
  have hcw0 := cnWd_nn w
  have hon := onW_len w s
  have hci := cnL_one (c := cnInt) (m := 1) (fun _ => rfl) (onW w s)
  have hidx := fun (H' : Heap) (E' : List Nat) (c : List Value) (h : RWd H' E' w c) => implOn_mk h s
  generalize hDd : onW w s = D at *
  have l2 := o2.lt
  have l3 := o3.lt
  have l4 := o4.lt
  simp only [List.append_assoc, List.cons_append, List.nil_append, List.length_append, List.length_cons, List.length_nil] at r2 o2 n2 l2 r3 o3 n3 l3 r4 o4 n4 l4
  obtain ⟨P2, hP2⟩ : ∃ P, P = H.length + (1 + J1.length + J2.length) := ⟨_, rfl⟩
  obtain ⟨P7, hP7⟩ : ∃ P, P = H.length + (J1.length + (J2.length + J3.length) + 1) := ⟨_, rfl⟩
  refine sk_at [(1, iv s), (2, pt H.length 0), (6, w2), (7, pt P7 0), (8, w4)]
    (fun H1 => Gro H H1 ∧ H1[H.length]? = some ⟨83, [.bool w.ok, .bool w.book.ok, iv w.book.sec, xl, xb], true, true⟩ ∧ H1[P7]? = some ⟨64, [.bool w.ok, .bool w.book.ok, iv w.book.sec, tl, tb], true, true⟩ ∧
      RS 1 RInt H1 A2 w2 D ∧ RWd H1 A3 w [.bool w.ok, .bool w.book.ok, iv w.book.sec, tl, tb] ∧ RS 1 RInt H1 A4 w4 D ∧ Own H1 A3 ∧ Own H1 A4 ∧ (∀ e, e ∈ A2 → H.length < e ∧ e < P2) ∧ (∀ e, e ∈ A3 → P2 ≤ e ∧ e < P7) ∧ (∀ e, e ∈ A4 → P7 < e) ∧ H.length < P2 ∧ P2 ≤ P7) (by simp [subL, getT, hP7]) ?_ ?_
  · refine ⟨Gro.one _ _, by simp, ?_, r2.gro (by first | exact Gro.refl _ | exact ⟨_, rfl⟩ | exact ⟨_, by simp only [List.append_assoc, List.cons_append, List.nil_append]; rfl⟩ | exact ⟨[], by simp⟩) (RP.frm _), RWd.frm.gro r3 (by first | exact Gro.refl _ | exact ⟨_, rfl⟩ | exact ⟨_, by simp only [List.append_assoc, List.cons_append, List.nil_append]; rfl⟩ | exact ⟨[], by simp⟩), r4.gro (by first | exact Gro.refl _ | exact ⟨_, rfl⟩ | exact ⟨_, by simp only [List.append_assoc, List.cons_append, List.nil_append]; rfl⟩ | exact ⟨[], by simp⟩) (RP.frm _), o3.gro (by first | exact Gro.refl _ | exact ⟨_, rfl⟩ | exact ⟨_, by simp only [List.append_assoc, List.cons_append, List.nil_append]; rfl⟩ | exact ⟨[], by simp⟩), o4.gro (by first | exact Gro.refl _ | exact ⟨_, rfl⟩ | exact ⟨_, by simp only [List.append_assoc, List.cons_append, List.nil_append]; rfl⟩ | exact ⟨[], by simp⟩), fun e he => ⟨by have := n2 e he; omega, by have := l2 e he; omega⟩, fun e he => ⟨by have := n3 e he; omega, by have := l3 e he; omega⟩, fun e he => by have := n4 e he; omega, by omega, by omega⟩
    show (H ++ _)[P7]? = _
    rw [hP7, List.getElem?_append_right (by omega), Nat.add_sub_cancel_left, List.getElem?_cons_succ, List.getElem?_append_right (by omega), Nat.add_sub_cancel_left, List.getElem?_append_right (by omega), Nat.add_sub_cancel_left, List.getElem?_append_right (by omega)]
    simp
  clear r1 o1 n1 r2 o2 n2 l2 r3 o3 n3 l3 r4 o4 n4 l4
  rintro H1 ⟨hg, hb2, hb7, r2, r3, r4, o3, o4, k2, k3, k4, hp2, hp7⟩
  have hl1 := hg.len
  have hgz : ∀ n, H.length ≤ H1.length + n := fun n => by omega
  have b2 := r2.bd (RP.frm _)
  have b3 := RWd.frm.bd r3
  have b4 := r4.bd (RP.frm _)
  have a0 : CF H1 H.length 0 (.bool w.ok) := CF.of hb2 rfl rfl
  have a1 : CF H1 H.length 1 (.bool w.book.ok) := CF.of hb2 rfl rfl
  have a2 : CF H1 H.length 2 (iv w.book.sec) := CF.of hb2 rfl rfl
  have a3 : CF H1 H.length 3 xl := CF.of hb2 rfl rfl
  have a4 : CF H1 H.length 4 xb := CF.of hb2 rfl rfl
  have d0 : CF H1 P7 0 (.bool w.ok) := CF.of hb7 rfl rfl
  have d1 : CF H1 P7 1 (.bool w.book.ok) := CF.of hb7 rfl rfl
  have d2 : CF H1 P7 2 (iv w.book.sec) := CF.of hb7 rfl rfl
  have d3 : CF H1 P7 3 tl := CF.of hb7 rfl rfl
  have d4 : CF H1 P7 4 tb := CF.of hb7 rfl rfl
  repeat (first | refine sk_seq ?_ | refine sk_block ?_ | refine sk_blk ?_ | refine sk_skip ?_ | refine sk_exit rfl ?_ | refine sk_cond_t rfl ?_ | refine sk_cond_f rfl ?_ | ((first | refine sk_reg fun K hK => ?_ | refine sk_drw mix fun K hK => ?_); simp; (repeat ((first | refine AskX.go (eqIntS_ac r4 r2) ?_ | refine AskD.go (eqIntS_ac r4 r2) ?_); simp)); refine hK _ ?_; clear hK K))
  refine sk_drw mix fun K hK => ?_; simp [a0.s, a1.s, a2.s, a3.s, a4.s, d0.s, d1.s, d2.s, d3.s, d4.s, xxl, xxb, xtl, xtb]
  refine AskD.mkr (toWorld_mk (RWd.frm.gro h hg) q) ?_; rintro _ J5 A5 ⟨cs5, rfl, r5⟩ o5 n5; simp [a0.s, a1.s, a2.s, a3.s, a4.s, d0.s, d1.s, d2.s, d3.s, d4.s, xxl, xxb, xtl, xtb]
  refine AskD.go (eqWorld_ac (RWd.frm.gro r3 (by first | exact Gro.refl _ | exact ⟨_, rfl⟩ | exact ⟨_, by simp only [List.append_assoc, List.cons_append, List.nil_append]; rfl⟩ | exact ⟨[], by simp⟩)) r5) ?_; simp
  refine hK _ ?_; clear hK K
  obtain ⟨H2, ac3, mk3, r3'⟩ := markWorld_ac (k := 1) (RWd.frm.ext (L := J5) r3) (o3.ext b3) (by omega) (by omega)
  have wr3 : wrL H.length [] A3 := fun d hd => .inl (by have := k3 d hd; omega)
  have out3 : ∀ i, i < H1.length → i ∉ A3 → H2[i]? = H1[i]? := fun i hi hn => (mk3.out i hn).trans (List.getElem?_append_left hi)
  have hl2 : H1.length ≤ H2.length := by have := mk3.len; simp at this; omega
  have g2 : Gro H H2 := Gro.of (by omega) fun i hi => (out3 i (by omega) fun hh => by have := k3 _ hh; omega).trans (hg.same hi)
  have r2' : RS 1 RInt H2 A2 w2 D := r2.fr (RP.frm _) fun f hf hlt => out3 f hlt fun hh => by have := k3 _ hh; have := k2 f hf; omega
  have r4' : RS 1 RInt H2 A4 w4 D := r4.fr (RP.frm _) fun f hf hlt => out3 f hlt fun hh => by have := k3 _ hh; have := k4 f hf; omega
  have o4' : Own H2 A4 := o4.fr fun f hf => out3 f (b4 f hf) fun hh => by have := k3 _ hh; have := k4 f hf; omega
  have m2 : H2[H.length]? = _ := (out3 _ (lt_of_get hb2) fun hh => by have := k3 _ hh; omega).trans hb2
  have p1 : ¬ (1 + cnWd w < 0) := by omega
  obtain ⟨H3, ac4, mk4, r4m⟩ := markIntS_ac (k := 1) r4' o4' (by omega) (by omega)
  have wr4 : wrL H.length [] A4 := fun d hd => .inl (by have := k4 d hd; omega)
  have hl3 : H3.length = H2.length := mk4.len
  have g3 : Gro H H3 := Gro.of (by omega) fun i hi => (mk4.out i fun hh => by have := k4 _ hh; omega).trans (g2.same hi)
  have r2n : RS 1 RInt H3 A2 w2 D := r2'.fr (RP.frm _) fun f hf hlt => mk4.out f fun hh => by have := k4 _ hh; have := k2 f hf; omega
  have m3 : H3[H.length]? = _ := (mk4.out _ fun hh => by have := k4 _ hh; omega).trans m2
  have e0 : CF H3 H.length 0 (.bool w.ok) := CF.of m3 rfl rfl
  have e1 : CF H3 H.length 1 (.bool w.book.ok) := CF.of m3 rfl rfl
  have e2 : CF H3 H.length 2 (iv w.book.sec) := CF.of m3 rfl rfl
  have e3 : CF H3 H.length 3 xl := CF.of m3 rfl rfl
  have e4 : CF H3 H.length 4 xb := CF.of m3 rfl rfl
  have p2 : ¬ (1 + cnL cnInt D < 0) := by omega
  have hac := heldIntS_ac (k := 1) r4m (by omega) (by omega)
  repeat (first | refine sk_seq ?_ | refine sk_block ?_ | refine sk_blk ?_ | refine sk_skip ?_ | refine sk_exit rfl ?_ | refine sk_cond_t rfl ?_ | refine sk_cond_f rfl ?_ | ((first | refine sk_reg fun K hK => ?_ | refine sk_drw mix fun K hK => ?_); simp [wr3, p1, p2, wr4, d0.s, d1.s, d2.s, d3.s, d4.s, xtl, xtb]; (repeat ((first | refine AskX.go (ac3) ?_ | refine AskD.go (ac3) ?_ | refine AskX.go (eqIntS_ac r4' r2') ?_ | refine AskD.go (eqIntS_ac r4' r2') ?_ | refine AskX.go (ac4) ?_ | refine AskD.go (ac4) ?_ | refine AskX.go (hac) ?_ | refine AskD.go (hac) ?_); simp [wr3, p1, p2, wr4, d0.s, d1.s, d2.s, d3.s, d4.s, xtl, xtb])); refine hK _ ?_; clear hK K))
  have hacL := fun L : Heap => heldIntS_ac (k := 1) (r4m.ext (L := L) (RP.frm _)) (by omega) (by omega)
  have hlH3 := g3.len
  have hgz3 : ∀ n, H.length ≤ H3.length + n := fun n => by omega
  refine sk_reg fun K hK => ?_; simp [e0.s, e1.s, e2.s, e3.s, e4.s, xxl, xxb]
  refine AskX.mkr (toWorld_mk (RWd.frm.gro h g3) q) ?_; rintro _ J6 A6 ⟨cs6, rfl, r6⟩ o6 n6; simp
  refine AskX.mkr (hidx _ _ _ (RWd.frm.gro r6 (by first | exact Gro.refl _ | exact ⟨_, rfl⟩ | exact ⟨_, by simp only [List.append_assoc, List.cons_append, List.nil_append]; rfl⟩ | exact ⟨[], by simp⟩))) ?_; rintro w7 J7 A7 r7 o7 n7; simp
  refine hK _ ?_; clear hK K
  simp only [List.append_assoc] at r7
  repeat (first | refine sk_seq ?_ | refine sk_block ?_ | refine sk_blk ?_ | refine sk_skip ?_ | refine sk_exit rfl ?_ | refine sk_cond_t rfl ?_ | refine sk_cond_f rfl ?_ | ((first | refine sk_reg fun K hK => ?_ | refine sk_drw mix fun K hK => ?_); simp [p2]; (repeat ((first | refine AskX.go (eqIntS_ac r7 (r2n.gro (by first | exact Gro.refl _ | exact ⟨_, rfl⟩ | exact ⟨_, by simp only [List.append_assoc, List.cons_append, List.nil_append]; rfl⟩ | exact ⟨[], by simp⟩) (RP.frm _))) ?_ | refine AskD.go (eqIntS_ac r7 (r2n.gro (by first | exact Gro.refl _ | exact ⟨_, rfl⟩ | exact ⟨_, by simp only [List.append_assoc, List.cons_append, List.nil_append]; rfl⟩ | exact ⟨[], by simp⟩) (RP.frm _))) ?_ | refine AskX.go (hacL _) ?_ | refine AskD.go (hacL _) ?_); simp [p2])); refine hK _ ?_; clear hK K))
  refine sk_ret ?_; simp
  obtain ⟨K, rfl⟩ := g3
  exact ⟨_, List.append_assoc _ _ _⟩
end Go.Proofs.Ytpoedfmkiiijnaa
