/- The statement's own function FnExactStart: it answers true. A walk. -/
import Derived.Test.YtpoedfmkiiijnaaSt2
import Derived.Test.YtpoedfmkiiijnaaMkW
import Derived.Test.YtpoedfmkiiijnaaDo7
namespace Go.Proofs.Ytpoedfmkiiijnaa
open Go Go.RowKit Go.Proofs.YtpoedfmkiiijnaaAm
set_option linter.unusedVariables false
set_option linter.unusedSimpArgs false
set_option maxRecDepth 10000
set_option maxHeartbeats 8000000
theorem cnBk_r {b : Bk} (h : bookOkB b = 0) : cnBk b ≤ 3000 := by
  obtain ⟨s1, s2, s3, s4⟩ := bookOk_sec h
  have h1 : cnL cnLn b.lines ≤ 145 * (b.lines.length : Int) := cnL_bnd _ fun x hx => by
    obtain ⟨i, hi, rfl⟩ := List.getElem_of_mem hx
    have h1 := (bookOk_ln h hi).w1
    have h2 := (bookOk_ln h hi).n1
    rw [cnLn_eq]; omega
  unfold cnBk
  omega
theorem cnWd_r {w : Wd} (h : rightB w = true) : cnWd w ≤ 3200 := by
  obtain ⟨_, h2, h3, _⟩ := rightB_all h
  have h4 := cnBk_r h2
  obtain ⟨_, _, h5, _⟩ := bookOk_sec h2
  have h6 := cnL_one (c := cnBd) (m := 4) (fun _ => rfl) w.bodies
  unfold cnWd; omega
theorem cnWd_0 : cnWd wd0 = 0 := by simp [cnWd, wd0, bk0, cnBk, cnL]
theorem cnWd_start (s : Int) (l : List Int) : cnWd (startW s l) ≤ 3200 := by
  unfold startW
  split
  · rename_i h; exact cnWd_r (wdS_ok h)
  · rw [cnWd_0]; omega
theorem RWd.cs5 {H : Heap} {E : List Nat} {w : Wd} {cs : List Value} (h : RWd H E w cs) : ∃ vl vb, cs = [.bool w.ok, .bool w.book.ok, iv w.book.sec, vl, vb] ∧ vl.oneCell' = true ∧ vb.oneCell' = true ∧ cellsV vl = [vl] ∧ cellsV vb = [vb] := by
  obtain ⟨_, _, _, vb, _, rfl, ⟨vl, rfl, hl⟩, hb2⟩ := h
  exact ⟨vl, vb, rfl, hl.one, hb2.one, hl.cv, hb2.cv⟩
def B12 : SC := .seq (.reg [⟨some 4, .assign (.const (.bool false)), none, []⟩]) (.seq (.seq (.reg [⟨some 12, .move (.tmp 1), none, []⟩, ⟨some 13, .call { callee := (.builtin .len), args := #[(.tmp 12)], argTypes := #[40] }, none, []⟩, ⟨some 14, .binOp .gtr 3 (.tmp 13) (.const (.int .i64 1048576)) 3, none, []⟩]) (.cond (.tmp 14) (.seq (.reg [⟨some 4, .assign (.const (.bool true)), none, []⟩]) .ret) .skip)) (.seq (.reg [⟨some 15, .move (.tmp 0), none, []⟩, ⟨some 16, .move (.tmp 1), none, []⟩, ⟨some 17, .call { callee := (.value (.func 47)), args := #[(.tmp 16)], argTypes := #[40] }, none, []⟩, ⟨some 18, .call { callee := (.value (.func 46)), args := #[(.tmp 15), (.tmp 17)], argTypes := #[3, 40] }, none, []⟩, ⟨some 5, .alloc 64, none, []⟩, ⟨none, .store 64 (.tmp 5) (.tmp 18), none, []⟩]) (.seq (.reg [⟨some 19, .move (.tmp 1), none, []⟩, ⟨some 20, .call { callee := (.value (.func 47)), args := #[(.tmp 19)], argTypes := #[40] }, none, []⟩, ⟨some 6, .assign (.tmp 20), none, []⟩]) (.seq (.reg [⟨some 21, .move (.tmp 0), none, []⟩, ⟨some 22, .move (.tmp 6), none, []⟩, ⟨some 23, .call { callee := (.value (.func 41)), args := #[(.tmp 21), (.tmp 22)], argTypes := #[3, 40] }, none, []⟩, ⟨some 7, .alloc 64, none, []⟩, ⟨none, .store 64 (.tmp 7) (.tmp 23), none, []⟩]) (.seq (.seq (.reg [⟨some 24, .load 64 (.tmp 7), none, []⟩, ⟨some 25, .load 64 (.tmp 5), none, []⟩, ⟨some 26, .call { callee := (.value (.func 48)), args := #[(.tmp 24), (.tmp 25)], argTypes := #[64, 64] }, none, []⟩, ⟨some 27, .unOp .not 4 (.tmp 26), none, []⟩]) (.cond (.tmp 27) (.seq (.reg [⟨some 4, .assign (.const (.bool false)), none, []⟩]) .ret) .skip)) (.seq (.seq (.reg [⟨some 28, .move (.tmp 6), none, []⟩, ⟨some 29, .move (.tmp 1), none, []⟩, ⟨some 30, .call { callee := (.value (.func 47)), args := #[(.tmp 29)], argTypes := #[40] }, none, []⟩, ⟨some 31, .call { callee := (.value (.func 49)), args := #[(.tmp 28), (.tmp 30)], argTypes := #[40, 40] }, none, []⟩, ⟨some 32, .unOp .not 4 (.tmp 31), none, []⟩]) (.cond (.tmp 32) (.seq (.reg [⟨some 4, .assign (.const (.bool false)), none, []⟩]) .ret) .skip)) (.seq (.reg [⟨some 8, .assign (.const (.int .i64 1)), none, []⟩]) (.seq (.reg [⟨some 33, .move (.tmp 6), none, []⟩, ⟨some 34, .move (.tmp 8), none, []⟩, ⟨some 35, .call { callee := (.value (.func 50)), args := #[(.tmp 33), (.tmp 34)], argTypes := #[40, 3] }, none, []⟩, ⟨some 8, .assign (.tmp 35), none, []⟩]) (.seq (.seq (.reg [⟨some 36, .move (.tmp 8), none, []⟩, ⟨some 37, .binOp .lss 3 (.tmp 36) (.const (.int .i64 0)) 3, none, []⟩, ⟨some 38, .move (.tmp 37), none, []⟩, ⟨some 39, .load 64 (.tmp 7), some (38, false), []⟩, ⟨some 40, .load 64 (.tmp 5), some (38, false), []⟩, ⟨some 41, .call { callee := (.value (.func 48)), args := #[(.tmp 39), (.tmp 40)], argTypes := #[64, 64] }, some (38, false), []⟩, ⟨some 42, .unOp .not 4 (.tmp 41), some (38, false), []⟩, ⟨some 43, .pick (.tmp 38) (.const (.bool true)) (.tmp 42), none, []⟩]) (.cond (.tmp 43) (.seq (.reg [⟨some 4, .assign (.const (.bool false)), none, []⟩]) .ret) .skip)) (.seq (.reg [⟨some 9, .assign (.const (.int .i64 1)), none, []⟩]) (.seq (.reg [⟨some 44, .load 64 (.tmp 7), none, []⟩, ⟨some 45, .move (.tmp 9), none, []⟩, ⟨some 46, .call { callee := (.value (.func 51)), args := #[(.tmp 44), (.tmp 45)], argTypes := #[64, 3] }, none, []⟩, ⟨some 9, .assign (.tmp 46), none, []⟩]) (.seq (.reg [⟨some 10, .assign (.const (.int .i64 1)), none, []⟩]) (.seq (.reg [⟨some 47, .load 64 (.tmp 7), none, []⟩, ⟨some 48, .move (.tmp 10), none, []⟩, ⟨some 49, .call { callee := (.value (.func 52)), args := #[(.tmp 47), (.tmp 48)], argTypes := #[64, 3] }, none, []⟩, ⟨some 10, .assign (.tmp 49), none, []⟩]) (.seq (.seq (.reg [⟨some 50, .move (.tmp 10), none, []⟩, ⟨some 51, .binOp .lss 3 (.tmp 50) (.const (.int .i64 0)) 3, none, []⟩]) (.cond (.tmp 51) (.seq (.reg [⟨some 4, .assign (.const (.bool false)), none, []⟩]) .ret) .skip)) (.seq (.seq (.reg [⟨some 52, .move (.tmp 10), none, []⟩, ⟨some 53, .move (.tmp 9), none, []⟩, ⟨some 54, .binOp .neq 3 (.tmp 52) (.tmp 53) 3, none, []⟩]) (.cond (.tmp 54) (.seq (.reg [⟨some 4, .assign (.const (.bool false)), none, []⟩]) .ret) .skip)) (.seq (.reg [⟨some 55, .move (.tmp 0), none, []⟩, ⟨some 56, .move (.tmp 1), none, []⟩, ⟨some 57, .call { callee := (.value (.func 47)), args := #[(.tmp 56)], argTypes := #[40] }, none, []⟩, ⟨some 58, .call { callee := (.value (.func 41)), args := #[(.tmp 55), (.tmp 57)], argTypes := #[3, 40] }, none, []⟩, ⟨some 11, .alloc 64, none, []⟩, ⟨none, .store 64 (.tmp 11) (.tmp 58), none, []⟩]) (.seq (.seq (.reg [⟨some 59, .load 64 (.tmp 11), none, []⟩, ⟨some 60, .load 64 (.tmp 5), none, []⟩, ⟨some 61, .call { callee := (.value (.func 48)), args := #[(.tmp 59), (.tmp 60)], argTypes := #[64, 64] }, none, []⟩, ⟨some 62, .unOp .not 4 (.tmp 61), none, []⟩]) (.cond (.tmp 62) (.seq (.reg [⟨some 4, .assign (.const (.bool false)), none, []⟩]) .ret) .skip)) (.seq (.reg [⟨some 10, .assign (.const (.int .i64 1)), none, []⟩]) (.seq (.reg [⟨some 63, .load 64 (.tmp 7), none, []⟩, ⟨some 64, .move (.tmp 10), none, []⟩, ⟨some 65, .call { callee := (.value (.func 52)), args := #[(.tmp 63), (.tmp 64)], argTypes := #[64, 3] }, none, []⟩, ⟨some 10, .assign (.tmp 65), none, []⟩]) (.seq (.seq (.reg [⟨some 66, .move (.tmp 10), none, []⟩, ⟨some 67, .binOp .lss 3 (.tmp 66) (.const (.int .i64 0)) 3, none, []⟩]) (.cond (.tmp 67) (.seq (.reg [⟨some 4, .assign (.const (.bool false)), none, []⟩]) .ret) .skip)) (.seq (.seq (.reg [⟨some 68, .move (.tmp 10), none, []⟩, ⟨some 69, .move (.tmp 9), none, []⟩, ⟨some 70, .binOp .neq 3 (.tmp 68) (.tmp 69) 3, none, []⟩]) (.cond (.tmp 70) (.seq (.reg [⟨some 4, .assign (.const (.bool false)), none, []⟩]) .ret) .skip)) (.seq (.reg [⟨some 4, .assign (.const (.bool true)), none, []⟩]) .ret))))))))))))))))))))))
theorem s12 : Try.f12.body.bind (stripC 71) = some B12 := by kernel_rfl
theorem lawStart_ac {H : Heap} {E : List Nat} {v : Value} {l : List Int} (h : RS 1 RInt H E v l) (s : Int) : AC Try.prog 12 [iv s, v] H (.bool true) H [] := by
  obtain ⟨a1, c1, rfl⟩ := h.form
  have hn := h.1
  refine AC.of_pureS (N := 71) Try.func12 s12 (by kernel_rfl) rfl rfl (by simp) rfl ?_; unfold B12
  by_cases q : l.length ≤ 1048576
  case neg =>
    have q' : (1048576 : Int) < l.length := by omega
    repeat (first | refine sk_seq ?_ | refine sk_block ?_ | refine sk_blk ?_ | refine sk_skip ?_ | refine sk_exit rfl ?_ | refine sk_cond_t rfl ?_ | refine sk_cond_f rfl ?_ | ((first | refine sk_reg fun K hK => ?_ | refine sk_drw mix fun K hK => ?_); simp [q']; refine hK _ ?_; clear hK K))
    refine sk_ret ?_; simp
  have q' : ¬ (1048576 : Int) < l.length := by omega
  repeat (first | refine sk_seq ?_ | refine sk_block ?_ | refine sk_blk ?_ | refine sk_skip ?_ | refine sk_exit rfl ?_ | refine sk_cond_t rfl ?_ | refine sk_cond_f rfl ?_ | ((first | refine sk_reg fun K hK => ?_ | refine sk_drw mix fun K hK => ?_); simp [q']; refine hK _ ?_; clear hK K))
  refine sk_reg fun K hK => ?_; simp
  refine AskX.mkr (toIntS_mk (h.gro (by first | exact Gro.refl _ | exact ⟨_, rfl⟩ | exact ⟨_, by simp only [List.append_assoc, List.cons_append, List.nil_append]; rfl⟩ | exact ⟨[], by simp⟩) (RP.frm _)) q) ?_; rintro w1 J1 A1 r1 o1 n1; simp
  refine AskX.mkr (specStart_mk (r1.gro (by first | exact Gro.refl _ | exact ⟨_, rfl⟩ | exact ⟨_, by simp only [List.append_assoc, List.cons_append, List.nil_append]; rfl⟩ | exact ⟨[], by simp⟩) (RP.frm _)) s) ?_; rintro _ J2 A2 ⟨cs2, rfl, r2⟩ o2 n2; simp
  obtain ⟨ul, ub, rfl, xul, xub, yul, yub⟩ := RWd.cs5 r2
  simp [xul, xub, yul, yub]
  refine hK _ ?_; clear hK K
  repeat (first | refine sk_seq ?_ | refine sk_block ?_ | refine sk_blk ?_ | refine sk_skip ?_ | refine sk_exit rfl ?_ | refine sk_cond_t rfl ?_ | refine sk_cond_f rfl ?_ | ((first | refine sk_reg fun K hK => ?_ | refine sk_drw mix fun K hK => ?_); simp; refine hK _ ?_; clear hK K))
  refine sk_reg fun K hK => ?_; simp
  refine AskX.mkr (toIntS_mk (h.gro (by first | exact Gro.refl _ | exact ⟨_, rfl⟩ | exact ⟨_, by simp only [List.append_assoc, List.cons_append, List.nil_append]; rfl⟩ | exact ⟨[], by simp⟩) (RP.frm _)) q) ?_; rintro w3 J3 A3 r3 o3 n3; simp
  refine hK _ ?_; clear hK K
  repeat (first | refine sk_seq ?_ | refine sk_block ?_ | refine sk_blk ?_ | refine sk_skip ?_ | refine sk_exit rfl ?_ | refine sk_cond_t rfl ?_ | refine sk_cond_f rfl ?_ | ((first | refine sk_reg fun K hK => ?_ | refine sk_drw mix fun K hK => ?_); simp; refine hK _ ?_; clear hK K))
  refine sk_reg fun K hK => ?_; simp
  refine AskX.mkr (implStart_mk (r3.gro (by first | exact Gro.refl _ | exact ⟨_, rfl⟩ | exact ⟨_, by simp only [List.append_assoc, List.cons_append, List.nil_append]; rfl⟩ | exact ⟨[], by simp⟩) (RP.frm _)) s) ?_; rintro _ J4 A4 ⟨cs4, rfl, r4⟩ o4 n4; simp
  obtain ⟨tl, tb, rfl, xtl, xtb, ytl, ytb⟩ := RWd.cs5 r4
  simp [xtl, xtb, ytl, ytb]
  refine hK _ ?_; clear hK K
  have hcn := cnWd_start s l
  have hcn0 := cnWd_nn (startW s l)
  have hci := cnL_one (c := cnInt) (m := 1) (fun _ => rfl) l
  have hidx := fun (H' : Heap) (E' : List Nat) (v' : Value) (h : RS 1 RInt H' E' v' l) => implStart_mk h s
  generalize hDd : startW s l = D at *
  have l2 := o2.lt
  have l3 := o3.lt
  have l4 := o4.lt
  simp only [List.append_assoc, List.cons_append, List.nil_append, List.length_append, List.length_cons, List.length_nil] at r2 o2 n2 l2 r3 o3 n3 l3 r4 o4 n4 l4
  obtain ⟨P5, hP5⟩ : ∃ P, P = H.length + (J1.length + J2.length) := ⟨_, rfl⟩
  obtain ⟨P7, hP7⟩ : ∃ P, P = H.length + (J1.length + (J2.length + (J3.length + J4.length + 1))) := ⟨_, rfl⟩
  obtain ⟨P6, hP6⟩ : ∃ P, P = P5 + 1 + J3.length := ⟨_, rfl⟩
  refine sk_at [(0, iv s), (1, .slice a1 l.length c1), (5, pt P5 0), (6, w3), (7, pt P7 0)]
    (fun H1 => Gro H H1 ∧ H1[P5]? = some ⟨64, [.bool D.ok, .bool D.book.ok, iv D.book.sec, ul, ub], true, true⟩ ∧ H1[P7]? = some ⟨64, [.bool D.ok, .bool D.book.ok, iv D.book.sec, tl, tb], true, true⟩ ∧
      RWd H1 A2 D [.bool D.ok, .bool D.book.ok, iv D.book.sec, ul, ub] ∧ RS 1 RInt H1 A3 w3 l ∧ RWd H1 A4 D [.bool D.ok, .bool D.book.ok, iv D.book.sec, tl, tb] ∧ Own H1 A3 ∧ Own H1 A4 ∧ (∀ e, e ∈ A2 → H.length ≤ e ∧ e < P5) ∧ (∀ e, e ∈ A3 → P5 < e ∧ e < P6) ∧ (∀ e, e ∈ A4 → P6 ≤ e ∧ e < P7) ∧ H.length ≤ P5 ∧ P5 < P6 ∧ P6 ≤ P7) (by simp [subL, getT, hP5, hP7]) ?_ ?_
  · refine ⟨Gro.one _ _, ?_, ?_, RWd.frm.gro r2 (by first | exact Gro.refl _ | exact ⟨_, rfl⟩ | exact ⟨_, by simp only [List.append_assoc, List.cons_append, List.nil_append]; rfl⟩ | exact ⟨[], by simp⟩), r3.gro (by first | exact Gro.refl _ | exact ⟨_, rfl⟩ | exact ⟨_, by simp only [List.append_assoc, List.cons_append, List.nil_append]; rfl⟩ | exact ⟨[], by simp⟩) (RP.frm _), RWd.frm.gro r4 (by first | exact Gro.refl _ | exact ⟨_, rfl⟩ | exact ⟨_, by simp only [List.append_assoc, List.cons_append, List.nil_append]; rfl⟩ | exact ⟨[], by simp⟩), o3.gro (by first | exact Gro.refl _ | exact ⟨_, rfl⟩ | exact ⟨_, by simp only [List.append_assoc, List.cons_append, List.nil_append]; rfl⟩ | exact ⟨[], by simp⟩), o4.gro (by first | exact Gro.refl _ | exact ⟨_, rfl⟩ | exact ⟨_, by simp only [List.append_assoc, List.cons_append, List.nil_append]; rfl⟩ | exact ⟨[], by simp⟩), fun e he => ⟨by have := n2 e he; omega, by have := l2 e he; omega⟩, fun e he => ⟨by have := n3 e he; omega, by have := l3 e he; omega⟩, fun e he => ⟨by have := n4 e he; omega, by have := l4 e he; omega⟩, by omega, by omega, by omega⟩
    · show (H ++ _)[P5]? = _
      rw [hP5, List.getElem?_append_right (by omega), Nat.add_sub_cancel_left, List.getElem?_append_right (by omega), Nat.add_sub_cancel_left]
      simp
    · show (H ++ _)[P7]? = _
      rw [hP7, List.getElem?_append_right (by omega), Nat.add_sub_cancel_left, List.getElem?_append_right (by omega), Nat.add_sub_cancel_left, List.getElem?_append_right (by omega), Nat.add_sub_cancel_left, show J3.length + J4.length + 1 = (J3.length + J4.length) + 1 by omega]
      simp
  clear r2 o2 n2 l2 r3 o3 n3 l3 r4 o4 n4 l4
  rintro H1 ⟨hg, hb5, hb7, r2, r3, r4, o3, o4, k2, k3, k4, hp5, hp6, hp7⟩
  have hl1 := hg.len
  have b2 := RWd.frm.bd r2
  have b3 := r3.bd (RP.frm _)
  have b4 := RWd.frm.bd r4
  have c0 : CF H1 P5 0 (.bool D.ok) := CF.of hb5 rfl rfl
  have c1' : CF H1 P5 1 (.bool D.book.ok) := CF.of hb5 rfl rfl
  have c2 : CF H1 P5 2 (iv D.book.sec) := CF.of hb5 rfl rfl
  have c3 : CF H1 P5 3 ul := CF.of hb5 rfl rfl
  have c4 : CF H1 P5 4 ub := CF.of hb5 rfl rfl
  have f0 : CF H1 P7 0 (.bool D.ok) := CF.of hb7 rfl rfl
  have f1 : CF H1 P7 1 (.bool D.book.ok) := CF.of hb7 rfl rfl
  have f2 : CF H1 P7 2 (iv D.book.sec) := CF.of hb7 rfl rfl
  have f3 : CF H1 P7 3 tl := CF.of hb7 rfl rfl
  have f4 : CF H1 P7 4 tb := CF.of hb7 rfl rfl
  repeat (first | refine sk_seq ?_ | refine sk_block ?_ | refine sk_blk ?_ | refine sk_skip ?_ | refine sk_exit rfl ?_ | refine sk_cond_t rfl ?_ | refine sk_cond_f rfl ?_ | ((first | refine sk_reg fun K hK => ?_ | refine sk_drw mix fun K hK => ?_); simp [c0.s, c1'.s, c2.s, c3.s, c4.s, f0.s, f1.s, f2.s, f3.s, f4.s, xul, xub, xtl, xtb]; (repeat ((first | refine AskX.go (eqWorld_ac r4 r2) ?_ | refine AskD.go (eqWorld_ac r4 r2) ?_); simp [c0.s, c1'.s, c2.s, c3.s, c4.s, f0.s, f1.s, f2.s, f3.s, f4.s, xul, xub, xtl, xtb])); refine hK _ ?_; clear hK K))
  refine sk_reg fun K hK => ?_; simp
  refine AskX.mkr (toIntS_mk (h.gro hg (RP.frm _)) q) ?_; rintro w5 J5 A5 r5 o5 n5; simp
  refine AskX.go (eqIntS_ac (r3.gro (by first | exact Gro.refl _ | exact ⟨_, rfl⟩ | exact ⟨_, by simp only [List.append_assoc, List.cons_append, List.nil_append]; rfl⟩ | exact ⟨[], by simp⟩) (RP.frm _)) r5) ?_; simp
  refine hK _ ?_; clear hK K
  obtain ⟨H2, ac3, mk3, r3'⟩ := markIntS_ac (k := 1) (r3.ext (L := J5) (RP.frm _)) (o3.ext b3) (by omega) (by omega)
  have wr3 : wrL H.length [] A3 := fun d hd => .inl (by have := k3 d hd; omega)
  have out3 : ∀ i, i < H1.length → i ∉ A3 → H2[i]? = H1[i]? := fun i hi hn => (mk3.out i hn).trans (List.getElem?_append_left hi)
  have hl2 : H1.length ≤ H2.length := by have := mk3.len; simp at this; omega
  have g2 : Gro H H2 := Gro.of (by omega) fun i hi => (out3 i (by omega) fun hh => by have := k3 _ hh; omega).trans (hg.same hi)
  have r2' : RWd H2 A2 D [.bool D.ok, .bool D.book.ok, iv D.book.sec, ul, ub] := RWd.frm.fr r2 fun f hf hlt => out3 f hlt fun hh => by have := k3 _ hh; have := k2 f hf; omega
  have r4' : RWd H2 A4 D [.bool D.ok, .bool D.book.ok, iv D.book.sec, tl, tb] := RWd.frm.fr r4 fun f hf hlt => out3 f hlt fun hh => by have := k3 _ hh; have := k4 f hf; omega
  have o4' : Own H2 A4 := o4.fr fun f hf => out3 f (b4 f hf) fun hh => by have := k3 _ hh; have := k4 f hf; omega
  have m5 : H2[P5]? = _ := (out3 _ (lt_of_get hb5) fun hh => by have := k3 _ hh; omega).trans hb5
  have m7 : H2[P7]? = _ := (out3 _ (lt_of_get hb7) fun hh => by have := k3 _ hh; omega).trans hb7
  have c0' : CF H2 P5 0 (.bool D.ok) := CF.of m5 rfl rfl
  have c1'' : CF H2 P5 1 (.bool D.book.ok) := CF.of m5 rfl rfl
  have c2' : CF H2 P5 2 (iv D.book.sec) := CF.of m5 rfl rfl
  have c3' : CF H2 P5 3 ul := CF.of m5 rfl rfl
  have c4' : CF H2 P5 4 ub := CF.of m5 rfl rfl
  have f0' : CF H2 P7 0 (.bool D.ok) := CF.of m7 rfl rfl
  have f1' : CF H2 P7 1 (.bool D.book.ok) := CF.of m7 rfl rfl
  have f2' : CF H2 P7 2 (iv D.book.sec) := CF.of m7 rfl rfl
  have f3' : CF H2 P7 3 tl := CF.of m7 rfl rfl
  have f4' : CF H2 P7 4 tb := CF.of m7 rfl rfl
  have p1 : ¬ (1 + cnL cnInt l < 0) := by omega
  obtain ⟨H3, ac4, mk4, r4m⟩ := markWorld_ac (k := 1) r4' o4' (by omega) (by omega)
  have wr4 : wrL H.length [] A4 := fun d hd => .inl (by have := k4 d hd; omega)
  have hl3 : H3.length = H2.length := mk4.len
  have g3 : Gro H H3 := Gro.of (by omega) fun i hi => (mk4.out i fun hh => by have := k4 _ hh; omega).trans (g2.same hi)
  have r2n : RWd H3 A2 D [.bool D.ok, .bool D.book.ok, iv D.book.sec, ul, ub] := RWd.frm.fr r2' fun f hf hlt => mk4.out f fun hh => by have := k4 _ hh; have := k2 f hf; omega
  have n5' : H3[P5]? = _ := (mk4.out _ fun hh => by have := k4 _ hh; omega).trans m5
  have n7' : H3[P7]? = _ := (mk4.out _ fun hh => by have := k4 _ hh; omega).trans m7
  have c0n : CF H3 P5 0 (.bool D.ok) := CF.of n5' rfl rfl
  have c1n : CF H3 P5 1 (.bool D.book.ok) := CF.of n5' rfl rfl
  have c2n : CF H3 P5 2 (iv D.book.sec) := CF.of n5' rfl rfl
  have c3n : CF H3 P5 3 ul := CF.of n5' rfl rfl
  have c4n : CF H3 P5 4 ub := CF.of n5' rfl rfl
  have f0n : CF H3 P7 0 (.bool D.ok) := CF.of n7' rfl rfl
  have f1n : CF H3 P7 1 (.bool D.book.ok) := CF.of n7' rfl rfl
  have f2n : CF H3 P7 2 (iv D.book.sec) := CF.of n7' rfl rfl
  have f3n : CF H3 P7 3 tl := CF.of n7' rfl rfl
  have f4n : CF H3 P7 4 tb := CF.of n7' rfl rfl
  have p2 : ¬ (1 + cnWd D < 0) := by omega
  have hac := heldWorld_ac (k := 1) r4m (by omega) (by omega)
  repeat (first | refine sk_seq ?_ | refine sk_block ?_ | refine sk_blk ?_ | refine sk_skip ?_ | refine sk_exit rfl ?_ | refine sk_cond_t rfl ?_ | refine sk_cond_f rfl ?_ | ((first | refine sk_reg fun K hK => ?_ | refine sk_drw mix fun K hK => ?_); simp [wr3, p1, p2, wr4, c0'.s, c1''.s, c2'.s, c3'.s, c4'.s, f0'.s, f1'.s, f2'.s, f3'.s, f4'.s, f0n.s, f1n.s, f2n.s, f3n.s, f4n.s, xul, xub, xtl, xtb]; (repeat ((first | refine AskX.go (ac3) ?_ | refine AskD.go (ac3) ?_ | refine AskX.go (eqWorld_ac r4' r2') ?_ | refine AskD.go (eqWorld_ac r4' r2') ?_ | refine AskX.go (ac4) ?_ | refine AskD.go (ac4) ?_ | refine AskX.go (hac) ?_ | refine AskD.go (hac) ?_); simp [wr3, p1, p2, wr4, c0'.s, c1''.s, c2'.s, c3'.s, c4'.s, f0'.s, f1'.s, f2'.s, f3'.s, f4'.s, f0n.s, f1n.s, f2n.s, f3n.s, f4n.s, xul, xub, xtl, xtb])); refine hK _ ?_; clear hK K))
  have hacL := fun L : Heap => heldWorld_ac (k := 1) (RWd.frm.ext (L := L) r4m) (by omega) (by omega)
  have hlH3 := g3.len
  have hgz3 : ∀ n, H.length ≤ H3.length + n := fun n => by omega
  refine sk_reg fun K hK => ?_; simp
  refine AskX.mkr (toIntS_mk (h.gro g3 (RP.frm _)) q) ?_; rintro w6 J6 A6 r6 o6 n6; simp
  refine AskX.mkr (hidx _ _ _ (r6.gro (by first | exact Gro.refl _ | exact ⟨_, rfl⟩ | exact ⟨_, by simp only [List.append_assoc, List.cons_append, List.nil_append]; rfl⟩ | exact ⟨[], by simp⟩) (RP.frm _))) ?_; rintro _ J7 A7 ⟨cs7, rfl, r7⟩ o7 n7; simp
  obtain ⟨sl', sb, rfl, xsl, xsb, ysl, ysb⟩ := RWd.cs5 r7
  simp [xsl, xsb, ysl, ysb, hlH3, hgz3]
  refine hK _ ?_; clear hK K
  simp only [List.append_assoc] at r7
  repeat (first | refine sk_seq ?_ | refine sk_block ?_ | refine sk_blk ?_ | refine sk_skip ?_ | refine sk_exit rfl ?_ | refine sk_cond_t rfl ?_ | refine sk_cond_f rfl ?_ | ((first | refine sk_reg fun K hK => ?_ | refine sk_drw mix fun K hK => ?_); simp [p2, c0n.s, c1n.s, c2n.s, c3n.s, c4n.s, f0n.s, f1n.s, f2n.s, f3n.s, f4n.s, xul, xub, xtl, xtb, xsl, xsb]; (repeat ((first | refine AskX.go (eqWorld_ac (RWd.frm.gro r7 (by first | exact Gro.refl _ | exact ⟨_, rfl⟩ | exact ⟨_, by simp only [List.append_assoc, List.cons_append, List.nil_append]; rfl⟩ | exact ⟨[], by simp⟩)) (RWd.frm.gro r2n (by first | exact Gro.refl _ | exact ⟨_, rfl⟩ | exact ⟨_, by simp only [List.append_assoc, List.cons_append, List.nil_append]; rfl⟩ | exact ⟨[], by simp⟩))) ?_ | refine AskD.go (eqWorld_ac (RWd.frm.gro r7 (by first | exact Gro.refl _ | exact ⟨_, rfl⟩ | exact ⟨_, by simp only [List.append_assoc, List.cons_append, List.nil_append]; rfl⟩ | exact ⟨[], by simp⟩)) (RWd.frm.gro r2n (by first | exact Gro.refl _ | exact ⟨_, rfl⟩ | exact ⟨_, by simp only [List.append_assoc, List.cons_append, List.nil_append]; rfl⟩ | exact ⟨[], by simp⟩))) ?_ | refine AskX.go (hacL _) ?_ | refine AskD.go (hacL _) ?_); simp [p2, c0n.s, c1n.s, c2n.s, c3n.s, c4n.s, f0n.s, f1n.s, f2n.s, f3n.s, f4n.s, xul, xub, xtl, xtb, xsl, xsb])); refine hK _ ?_; clear hK K))
  refine sk_ret ?_; simp
  obtain ⟨K, rfl⟩ := g3
  exact ⟨_, List.append_assoc _ _ _⟩
end Go.Proofs.Ytpoedfmkiiijnaa
