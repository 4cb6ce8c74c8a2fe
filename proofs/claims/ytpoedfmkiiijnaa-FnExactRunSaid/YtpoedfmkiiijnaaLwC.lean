/- The statement's own function FnExactRun: it answers true. A walk. -/
import Derived.Test.YtpoedfmkiiijnaaRn2
import Derived.Test.YtpoedfmkiiijnaaMkD
namespace Go.Proofs.Ytpoedfmkiiijnaa
open Go Go.RowKit Go.Proofs.YtpoedfmkiiijnaaAm
set_option linter.unusedVariables false
set_option linter.unusedSimpArgs false
set_option maxRecDepth 10000
set_option maxHeartbeats 8000000
theorem cnBk_ok {b : Bk} (h : bookOkB b = 0) : cnBk b ≤ 3000 := by
  obtain ⟨s1, s2, s3, s4⟩ := bookOk_sec h
  have h1 : cnL cnLn b.lines ≤ 145 * (b.lines.length : Int) := cnL_bnd _ fun x hx => by
    obtain ⟨i, hi, rfl⟩ := List.getElem_of_mem hx
    have h1 := (bookOk_ln h hi).w1
    have h2 := (bookOk_ln h hi).n1
    rw [cnLn_eq]; omega
  unfold cnBk
  omega
theorem runB_ok {s t : Int} {es : List Evt} : (∀ d, d ∈ runB s t es → bookOkB d.book = 0) ∧ (runB s t es).length ≤ 2000 := by
  unfold runB
  split
  · rename_i h
    exact ⟨goB_ok (begin_ok h.1) es, by rw [goB_len]; exact h.2⟩
  · simp
theorem cnRun {s t : Int} {es : List Evt} : cnL cnDn (runB s t es) ≤ 10000000 := by
  obtain ⟨h1, h2⟩ := runB_ok (s := s) (t := t) (es := es)
  have := cnL_bnd (c := cnDn) (m := 3003) (runB s t es) fun d hd => by
    have := cnBk_ok (h1 d hd)
    unfold cnBk at this
    unfold cnDn; omega
  omega
def B17 : SC := .seq (.reg [⟨some 6, .assign (.const (.bool false)), none, []⟩]) (.seq (.reg [⟨some 7, .assign (.const (.int .i64 1048576)), none, []⟩]) (.seq (.reg [⟨some 15, .move (.tmp 2), none, []⟩, ⟨some 16, .move (.tmp 7), none, []⟩, ⟨some 17, .call { callee := (.value (.func 62)), args := #[(.tmp 15), (.tmp 16)], argTypes := #[90, 3] }, none, []⟩, ⟨some 7, .assign (.tmp 17), none, []⟩]) (.seq (.seq (.reg [⟨some 18, .move (.tmp 7), none, []⟩, ⟨some 19, .binOp .lss 3 (.tmp 18) (.const (.int .i64 0)) 3, none, []⟩]) (.cond (.tmp 19) (.seq (.reg [⟨some 6, .assign (.const (.bool true)), none, []⟩]) .ret) .skip)) (.seq (.reg [⟨some 20, .move (.tmp 0), none, []⟩, ⟨some 21, .move (.tmp 1), none, []⟩, ⟨some 22, .move (.tmp 2), none, []⟩, ⟨some 23, .call { callee := (.value (.func 63)), args := #[(.tmp 22)], argTypes := #[90] }, none, []⟩, ⟨some 24, .call { callee := (.value (.func 26)), args := #[(.tmp 20), (.tmp 21), (.tmp 23)], argTypes := #[3, 3, 31] }, none, []⟩, ⟨some 8, .assign (.tmp 24), none, []⟩]) (.seq (.reg [⟨some 25, .move (.tmp 2), none, []⟩, ⟨some 26, .call { callee := (.value (.func 63)), args := #[(.tmp 25)], argTypes := #[90] }, none, []⟩, ⟨some 9, .assign (.tmp 26), none, []⟩]) (.seq (.reg [⟨some 27, .move (.tmp 0), none, []⟩, ⟨some 28, .move (.tmp 1), none, []⟩, ⟨some 29, .move (.tmp 9), none, []⟩, ⟨some 30, .call { callee := (.value (.func 27)), args := #[(.tmp 27), (.tmp 28), (.tmp 29)], argTypes := #[3, 3, 31] }, none, []⟩, ⟨some 10, .assign (.tmp 30), none, []⟩]) (.seq (.seq (.reg [⟨some 31, .move (.tmp 10), none, []⟩, ⟨some 32, .move (.tmp 8), none, []⟩, ⟨some 33, .call { callee := (.value (.func 64)), args := #[(.tmp 31), (.tmp 32)], argTypes := #[34, 34] }, none, []⟩, ⟨some 34, .unOp .not 4 (.tmp 33), none, []⟩]) (.cond (.tmp 34) (.seq (.reg [⟨some 6, .assign (.const (.bool false)), none, []⟩]) .ret) .skip)) (.seq (.seq (.reg [⟨some 35, .move (.tmp 9), none, []⟩, ⟨some 36, .move (.tmp 2), none, []⟩, ⟨some 37, .call { callee := (.value (.func 63)), args := #[(.tmp 36)], argTypes := #[90] }, none, []⟩, ⟨some 38, .call { callee := (.value (.func 65)), args := #[(.tmp 35), (.tmp 37)], argTypes := #[31, 31] }, none, []⟩, ⟨some 39, .unOp .not 4 (.tmp 38), none, []⟩]) (.cond (.tmp 39) (.seq (.reg [⟨some 6, .assign (.const (.bool false)), none, []⟩]) .ret) .skip)) (.seq (.reg [⟨some 11, .assign (.const (.int .i64 1)), none, []⟩]) (.seq (.reg [⟨some 40, .move (.tmp 9), none, []⟩, ⟨some 41, .move (.tmp 11), none, []⟩, ⟨some 42, .call { callee := (.value (.func 66)), args := #[(.tmp 40), (.tmp 41)], argTypes := #[31, 3] }, none, []⟩, ⟨some 11, .assign (.tmp 42), none, []⟩]) (.seq (.seq (.reg [⟨some 43, .move (.tmp 11), none, []⟩, ⟨some 44, .binOp .lss 3 (.tmp 43) (.const (.int .i64 0)) 3, none, []⟩, ⟨some 45, .move (.tmp 44), none, []⟩, ⟨some 46, .move (.tmp 10), some (45, false), []⟩, ⟨some 47, .move (.tmp 8), some (45, false), []⟩, ⟨some 48, .call { callee := (.value (.func 64)), args := #[(.tmp 46), (.tmp 47)], argTypes := #[34, 34] }, some (45, false), []⟩, ⟨some 49, .unOp .not 4 (.tmp 48), some (45, false), []⟩, ⟨some 50, .pick (.tmp 45) (.const (.bool true)) (.tmp 49), none, []⟩]) (.cond (.tmp 50) (.seq (.reg [⟨some 6, .assign (.const (.bool false)), none, []⟩]) .ret) .skip)) (.seq (.reg [⟨some 12, .assign (.const (.int .i64 1)), none, []⟩]) (.seq (.reg [⟨some 51, .move (.tmp 10), none, []⟩, ⟨some 52, .move (.tmp 12), none, []⟩, ⟨some 53, .call { callee := (.value (.func 67)), args := #[(.tmp 51), (.tmp 52)], argTypes := #[34, 3] }, none, []⟩, ⟨some 12, .assign (.tmp 53), none, []⟩]) (.seq (.reg [⟨some 13, .assign (.const (.int .i64 1)), none, []⟩]) (.seq (.reg [⟨some 54, .move (.tmp 10), none, []⟩, ⟨some 55, .move (.tmp 13), none, []⟩, ⟨some 56, .call { callee := (.value (.func 68)), args := #[(.tmp 54), (.tmp 55)], argTypes := #[34, 3] }, none, []⟩, ⟨some 13, .assign (.tmp 56), none, []⟩]) (.seq (.seq (.reg [⟨some 57, .move (.tmp 13), none, []⟩, ⟨some 58, .binOp .lss 3 (.tmp 57) (.const (.int .i64 0)) 3, none, []⟩]) (.cond (.tmp 58) (.seq (.reg [⟨some 6, .assign (.const (.bool false)), none, []⟩]) .ret) .skip)) (.seq (.seq (.reg [⟨some 59, .move (.tmp 13), none, []⟩, ⟨some 60, .move (.tmp 12), none, []⟩, ⟨some 61, .binOp .neq 3 (.tmp 59) (.tmp 60) 3, none, []⟩]) (.cond (.tmp 61) (.seq (.reg [⟨some 6, .assign (.const (.bool false)), none, []⟩]) .ret) .skip)) (.seq (.reg [⟨some 62, .move (.tmp 0), none, []⟩, ⟨some 63, .move (.tmp 1), none, []⟩, ⟨some 64, .move (.tmp 2), none, []⟩, ⟨some 65, .call { callee := (.value (.func 63)), args := #[(.tmp 64)], argTypes := #[90] }, none, []⟩, ⟨some 66, .call { callee := (.value (.func 27)), args := #[(.tmp 62), (.tmp 63), (.tmp 65)], argTypes := #[3, 3, 31] }, none, []⟩, ⟨some 14, .assign (.tmp 66), none, []⟩]) (.seq (.seq (.reg [⟨some 67, .move (.tmp 14), none, []⟩, ⟨some 68, .move (.tmp 8), none, []⟩, ⟨some 69, .call { callee := (.value (.func 64)), args := #[(.tmp 67), (.tmp 68)], argTypes := #[34, 34] }, none, []⟩, ⟨some 70, .unOp .not 4 (.tmp 69), none, []⟩]) (.cond (.tmp 70) (.seq (.reg [⟨some 6, .assign (.const (.bool false)), none, []⟩]) .ret) .skip)) (.seq (.reg [⟨some 13, .assign (.const (.int .i64 1)), none, []⟩]) (.seq (.reg [⟨some 71, .move (.tmp 10), none, []⟩, ⟨some 72, .move (.tmp 13), none, []⟩, ⟨some 73, .call { callee := (.value (.func 68)), args := #[(.tmp 71), (.tmp 72)], argTypes := #[34, 3] }, none, []⟩, ⟨some 13, .assign (.tmp 73), none, []⟩]) (.seq (.seq (.reg [⟨some 74, .move (.tmp 13), none, []⟩, ⟨some 75, .binOp .lss 3 (.tmp 74) (.const (.int .i64 0)) 3, none, []⟩]) (.cond (.tmp 75) (.seq (.reg [⟨some 6, .assign (.const (.bool false)), none, []⟩]) .ret) .skip)) (.seq (.seq (.reg [⟨some 76, .move (.tmp 13), none, []⟩, ⟨some 77, .move (.tmp 12), none, []⟩, ⟨some 78, .binOp .neq 3 (.tmp 76) (.tmp 77) 3, none, []⟩]) (.cond (.tmp 78) (.seq (.reg [⟨some 6, .assign (.const (.bool false)), none, []⟩]) .ret) .skip)) (.seq (.reg [⟨some 6, .assign (.const (.bool true)), none, []⟩]) .ret))))))))))))))))))))))))
theorem s17 : Try.f17.body.bind (stripC 79) = some B17 := by kernel_rfl
theorem lawRun_ac {H : Heap} {E : List Nat} {v : Value} {es' : List Evt} (h : RS 3 REv H E v es') (s t : Int) : AC Try.prog 17 [iv s, iv t, v] H (.bool true) H [] := by
  have xv := h.one
  have s0 := fun L : Heap => szEventS_ac (H := H ++ L) (h.ext (RP.frm _)) (a := 1048576) (by omega)
  refine AC.of_pureS (N := 79) Try.func17 s17 (by kernel_rfl) rfl rfl (by simp) rfl ?_; unfold B17
  by_cases q : (es'.length : Int) ≤ 1048576
  case neg =>
    rw [subN_no q] at s0
    repeat (first | refine sk_seq ?_ | refine sk_block ?_ | refine sk_blk ?_ | refine sk_skip ?_ | refine sk_exit rfl ?_ | refine sk_cond_t rfl ?_ | refine sk_cond_f rfl ?_ | ((first | refine sk_reg fun K hK => ?_ | refine sk_drw mix fun K hK => ?_); simp [subN_no q]; (repeat ((first | refine AskX.go (szEventS_ac h (a := 1048576) (by omega)) ?_ | refine AskD.go (szEventS_ac h (a := 1048576) (by omega)) ?_); simp [subN_no q])); refine hK _ ?_; clear hK K))
    refine sk_ret ?_; simp
  have q' : ¬ ((1048576 : Int) - es'.length < 0) := by omega
  have qn : es'.length ≤ 1048576 := by omega
  repeat (first | refine sk_seq ?_ | refine sk_block ?_ | refine sk_blk ?_ | refine sk_skip ?_ | refine sk_exit rfl ?_ | refine sk_cond_t rfl ?_ | refine sk_cond_f rfl ?_ | ((first | refine sk_reg fun K hK => ?_ | refine sk_drw mix fun K hK => ?_); simp [subN_lt q, q']; (repeat ((first | refine AskX.go (szEventS_ac h (a := 1048576) (by omega)) ?_ | refine AskD.go (szEventS_ac h (a := 1048576) (by omega)) ?_); simp [subN_lt q, q'])); refine hK _ ?_; clear hK K))
  refine sk_reg fun K hK => ?_; simp
  refine AskX.mkr (toEventS_mk (h.gro (by first | exact Gro.refl _ | exact ⟨_, rfl⟩ | exact ⟨_, by simp only [List.append_assoc, List.cons_append, List.nil_append]; rfl⟩ | exact ⟨[], by simp⟩) (RP.frm _)) qn) ?_; rintro w1 J1 A1 r1 o1 n1; simp
  refine AskX.mkr (specRun_mk (r1.gro (by first | exact Gro.refl _ | exact ⟨_, rfl⟩ | exact ⟨_, by simp only [List.append_assoc, List.cons_append, List.nil_append]; rfl⟩ | exact ⟨[], by simp⟩) (RP.frm _)) s t) ?_; rintro w2 J2 A2 r2 o2 n2; simp
  refine hK _ ?_; clear hK K
  repeat (first | refine sk_seq ?_ | refine sk_block ?_ | refine sk_blk ?_ | refine sk_skip ?_ | refine sk_exit rfl ?_ | refine sk_cond_t rfl ?_ | refine sk_cond_f rfl ?_ | ((first | refine sk_reg fun K hK => ?_ | refine sk_drw mix fun K hK => ?_); simp; refine hK _ ?_; clear hK K))
  refine sk_reg fun K hK => ?_; simp
  refine AskX.mkr (toEventS_mk (h.gro (by first | exact Gro.refl _ | exact ⟨_, rfl⟩ | exact ⟨_, by simp only [List.append_assoc, List.cons_append, List.nil_append]; rfl⟩ | exact ⟨[], by simp⟩) (RP.frm _)) qn) ?_; rintro w3 J3 A3 r3 o3 n3; simp
  refine hK _ ?_; clear hK K
  repeat (first | refine sk_seq ?_ | refine sk_block ?_ | refine sk_blk ?_ | refine sk_skip ?_ | refine sk_exit rfl ?_ | refine sk_cond_t rfl ?_ | refine sk_cond_f rfl ?_ | ((first | refine sk_reg fun K hK => ?_ | refine sk_drw mix fun K hK => ?_); simp; refine hK _ ?_; clear hK K))
  refine sk_reg fun K hK => ?_; simp
  refine AskX.mkr (implRun_mk (r3.gro (by first | exact Gro.refl _ | exact ⟨_, rfl⟩ | exact ⟨_, by simp only [List.append_assoc, List.cons_append, List.nil_append]; rfl⟩ | exact ⟨[], by simp⟩) (RP.frm _)) s t) ?_; rintro w4 J4 A4 r4 o4 n4; simp
  refine hK _ ?_; clear hK K
  have hcn := cnRun (s := s) (t := t) (es := es')
  have hcn0 := cnL_nn cnDn_nn (runB s t es')
  have hce := cnL_one (c := cnEv) (m := 3) (fun _ => rfl) es'
  have hidx := fun (H' : Heap) (E' : List Nat) (v' : Value) (h : RS 3 REv H' E' v' es') => implRun_mk h s t
  generalize hDd : runB s t es' = D at *
  have l2 := o2.lt
  have l3 := o3.lt
  have l4 := o4.lt
  simp only [List.append_assoc, List.cons_append, List.nil_append, List.length_append, List.length_cons, List.length_nil] at r2 o2 n2 l2 r3 o3 n3 l3 r4 o4 n4 l4
  have hz2 : ∀ K, Gro (H ++ (J1 ++ J2)) (H ++ (J1 ++ (J2 ++ K))) := fun K => ⟨K, by simp⟩
  have hz3 : ∀ K, Gro (H ++ (J1 ++ (J2 ++ J3))) (H ++ (J1 ++ (J2 ++ (J3 ++ K)))) := fun K => ⟨K, by simp⟩
  obtain ⟨P2, hP2⟩ : ∃ P, P = H.length + (J1.length + J2.length) := ⟨_, rfl⟩
  obtain ⟨P3, hP3⟩ : ∃ P, P = P2 + J3.length := ⟨_, rfl⟩
  refine sk_at [(0, iv s), (1, iv t), (2, v), (8, w2), (9, w3), (10, w4)]
    (fun H1 => Gro H H1 ∧ RS 4 RDn H1 A2 w2 D ∧ RS 3 REv H1 A3 w3 es' ∧ RS 4 RDn H1 A4 w4 D ∧ Own H1 A3 ∧ Own H1 A4 ∧ (∀ e, e ∈ A2 → H.length ≤ e ∧ e < P2) ∧ (∀ e, e ∈ A3 → P2 ≤ e ∧ e < P3) ∧ (∀ e, e ∈ A4 → P3 ≤ e) ∧ H.length ≤ P2 ∧ P2 ≤ P3) (by simp [subL, getT]) ?_ ?_
  · exact ⟨Gro.one _ _, r2.gro (hz2 _) RDn.frm, r3.gro (hz3 _) (RP.frm _), r4, o3.gro (hz3 _), o4, fun e he => ⟨by have := n2 e he; omega, by have := l2 e he; omega⟩, fun e he => ⟨by have := n3 e he; omega, by have := l3 e he; omega⟩, fun e he => by have := n4 e he; omega, by omega, by omega⟩
  clear r2 o2 n2 l2 r3 o3 n3 l3 r4 o4 n4 l4
  rintro H1 ⟨hg, r2, r3, r4, o3, o4, k2, k3, k4, hp2, hp3⟩
  have hl1 := hg.len
  have b2 := r2.bd RDn.frm
  have b3 := r3.bd (RP.frm _)
  have b4 := r4.bd RDn.frm
  repeat (first | refine sk_seq ?_ | refine sk_block ?_ | refine sk_blk ?_ | refine sk_skip ?_ | refine sk_exit rfl ?_ | refine sk_cond_t rfl ?_ | refine sk_cond_f rfl ?_ | ((first | refine sk_reg fun K hK => ?_ | refine sk_drw mix fun K hK => ?_); simp; (repeat ((first | refine AskX.go (eqDoneS_ac r4 r2) ?_ | refine AskD.go (eqDoneS_ac r4 r2) ?_); simp)); refine hK _ ?_; clear hK K))
  refine sk_reg fun K hK => ?_; simp
  refine AskX.mkr (toEventS_mk (h.gro hg (RP.frm _)) qn) ?_; rintro w5 J5 A5 r5 o5 n5; simp
  refine AskX.go (eqEventS_ac (r3.gro (by first | exact Gro.refl _ | exact ⟨_, rfl⟩ | exact ⟨_, by simp only [List.append_assoc, List.cons_append, List.nil_append]; rfl⟩ | exact ⟨[], by simp⟩) (RP.frm _)) r5) ?_; simp
  refine hK _ ?_; clear hK K
  obtain ⟨H2, ac3, mk3, r3'⟩ := markEventS_ac (k := 1) (r3.ext (L := J5) (RP.frm _)) (o3.ext b3) (by omega) (by omega)
  have wr3 : wrL H.length [] A3 := fun d hd => .inl (by have := k3 d hd; omega)
  have out3 : ∀ i, i < H1.length → i ∉ A3 → H2[i]? = H1[i]? := fun i hi hn => (mk3.out i hn).trans (List.getElem?_append_left hi)
  have hl2 : H1.length ≤ H2.length := by have := mk3.len; simp at this; omega
  have g2 : Gro H H2 := Gro.of (by omega) fun i hi => (out3 i (by omega) fun hh => by have := k3 _ hh; omega).trans (hg.same hi)
  have r2' : RS 4 RDn H2 A2 w2 D := r2.fr RDn.frm fun f hf hlt => out3 f hlt fun hh => by have := k3 _ hh; have := k2 f hf; omega
  have r4' : RS 4 RDn H2 A4 w4 D := r4.fr RDn.frm fun f hf hlt => out3 f hlt fun hh => by have := k3 _ hh; have := k4 f hf; omega
  have o4' : Own H2 A4 := o4.fr fun f hf => out3 f (b4 f hf) fun hh => by have := k3 _ hh; have := k4 f hf; omega
  have p1 : ¬ (1 + cnL cnEv es' < 0) := by omega
  obtain ⟨H3, ac4, mk4, r4m⟩ := markDoneS_ac (k := 1) r4' o4' (by omega) (by omega)
  have wr4 : wrL H.length [] A4 := fun d hd => .inl (by have := k4 d hd; omega)
  have hl3 : H3.length = H2.length := mk4.len
  have g3 : Gro H H3 := Gro.of (by omega) fun i hi => (mk4.out i fun hh => by have := k4 _ hh; omega).trans (g2.same hi)
  have r2n : RS 4 RDn H3 A2 w2 D := r2'.fr RDn.frm fun f hf hlt => mk4.out f fun hh => by have := k4 _ hh; have := k2 f hf; omega
  have p2 : ¬ (1 + cnL cnDn D < 0) := by omega
  have hac := heldDoneS_ac (k := 1) r4m (by omega) (by omega)
  repeat (first | refine sk_seq ?_ | refine sk_block ?_ | refine sk_blk ?_ | refine sk_skip ?_ | refine sk_exit rfl ?_ | refine sk_cond_t rfl ?_ | refine sk_cond_f rfl ?_ | ((first | refine sk_reg fun K hK => ?_ | refine sk_drw mix fun K hK => ?_); simp [wr3, p1, p2, wr4]; (repeat ((first | refine AskX.go (ac3) ?_ | refine AskD.go (ac3) ?_ | refine AskX.go (eqDoneS_ac r4' r2') ?_ | refine AskD.go (eqDoneS_ac r4' r2') ?_ | refine AskX.go (ac4) ?_ | refine AskD.go (ac4) ?_ | refine AskX.go (hac) ?_ | refine AskD.go (hac) ?_); simp [wr3, p1, p2, wr4])); refine hK _ ?_; clear hK K))
  have hacL := fun L : Heap => heldDoneS_ac (k := 1) (r4m.ext (L := L) RDn.frm) (by omega) (by omega)
  refine sk_reg fun K hK => ?_; simp
  refine AskX.mkr (toEventS_mk (h.gro g3 (RP.frm _)) qn) ?_; rintro w6 J6 A6 r6 o6 n6; simp
  refine AskX.mkr (hidx _ _ _ (r6.gro (by first | exact Gro.refl _ | exact ⟨_, rfl⟩ | exact ⟨_, by simp only [List.append_assoc, List.cons_append, List.nil_append]; rfl⟩ | exact ⟨[], by simp⟩) (RP.frm _))) ?_; rintro w7 J7 A7 r7 o7 n7; simp
  refine hK _ ?_; clear hK K
  simp only [List.append_assoc] at r7
  repeat (first | refine sk_seq ?_ | refine sk_block ?_ | refine sk_blk ?_ | refine sk_skip ?_ | refine sk_exit rfl ?_ | refine sk_cond_t rfl ?_ | refine sk_cond_f rfl ?_ | ((first | refine sk_reg fun K hK => ?_ | refine sk_drw mix fun K hK => ?_); simp [p2]; (repeat ((first | refine AskX.go (eqDoneS_ac r7 (r2n.gro (by first | exact Gro.refl _ | exact ⟨_, rfl⟩ | exact ⟨_, by simp only [List.append_assoc, List.cons_append, List.nil_append]; rfl⟩ | exact ⟨[], by simp⟩) RDn.frm)) ?_ | refine AskD.go (eqDoneS_ac r7 (r2n.gro (by first | exact Gro.refl _ | exact ⟨_, rfl⟩ | exact ⟨_, by simp only [List.append_assoc, List.cons_append, List.nil_append]; rfl⟩ | exact ⟨[], by simp⟩) RDn.frm)) ?_ | refine AskX.go (hacL _) ?_ | refine AskD.go (hacL _) ?_); simp [p2])); refine hK _ ?_; clear hK K))
  refine sk_ret ?_; simp
  obtain ⟨K, rfl⟩ := g3
  exact ⟨_, List.append_assoc _ _ _⟩
end Go.Proofs.Ytpoedfmkiiijnaa
