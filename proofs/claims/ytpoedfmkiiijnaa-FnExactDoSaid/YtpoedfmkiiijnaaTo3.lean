/- The copying functions of the statements over lines, books, worlds. Walks. -/
import Derived.Test.YtpoedfmkiiijnaaTo2
namespace Go.Proofs.Ytpoedfmkiiijnaa
open Go Go.RowKit Go.Proofs.YtpoedfmkiiijnaaAm
set_option linter.unusedVariables false
set_option linter.unusedSimpArgs false
set_option maxRecDepth 10000
set_option maxHeartbeats 4000000
def B132 : SC := .seq (.reg [⟨some 1, .box 159 (.tmp 0), none, []⟩, ⟨some 2, .alloc 43, none, []⟩]) (.seq (.reg [⟨some 3, .alloc 43, none, []⟩]) (.seq (.reg [⟨some 4, .fieldAddr 159 (.tmp 1) 0, none, []⟩, ⟨some 5, .load 3 (.tmp 4), none, []⟩, ⟨some 6, .fieldAddr 43 (.tmp 3) 0, none, []⟩, ⟨none, .store 3 (.tmp 6) (.tmp 5), none, []⟩]) (.seq (.reg [⟨some 7, .fieldAddr 159 (.tmp 1) 1, none, []⟩, ⟨some 8, .load 40 (.tmp 7), none, []⟩, ⟨some 9, .call { callee := (.value (.func 47)), args := #[(.tmp 8)], argTypes := #[40] }, none, []⟩, ⟨some 10, .fieldAddr 43 (.tmp 3) 1, none, []⟩, ⟨none, .store 40 (.tmp 10) (.tmp 9), none, []⟩]) (.seq (.reg [⟨some 11, .fieldAddr 159 (.tmp 1) 2, none, []⟩, ⟨some 12, .load 157 (.tmp 11), none, []⟩, ⟨some 13, .call { callee := (.value (.func 143)), args := #[(.tmp 12)], argTypes := #[157] }, none, []⟩, ⟨some 14, .fieldAddr 43 (.tmp 3) 2, none, []⟩, ⟨none, .store 41 (.tmp 14) (.tmp 13), none, []⟩]) (.seq (.reg [⟨some 15, .fieldAddr 159 (.tmp 1) 3, none, []⟩, ⟨some 16, .load 3 (.tmp 15), none, []⟩, ⟨some 17, .fieldAddr 43 (.tmp 3) 3, none, []⟩, ⟨none, .store 3 (.tmp 17) (.tmp 16), none, []⟩]) (.seq (.reg [⟨some 18, .load 43 (.tmp 3), none, []⟩, ⟨none, .store 43 (.tmp 2) (.tmp 18), none, []⟩]) .ret))))))
theorem s132 : Try.f132.body.bind (stripC 19) = some B132 := by kernel_rfl
theorem toLine_mk {H : Heap} {E1 E2 : List Nat} {v1 v2 : Value} {l : Ln} (h1 : RS 1 RInt H E1 v1 l.way) (h2 : RS 2 RGr H E2 v2 l.grs) (hb : szL l ≤ 1048576) :
    Mkr Try.prog 132 [.agg #[iv l.gone, v1, v2, iv l.drop]] H fun H' E v => ∃ cs, v = .agg cs.toArray ∧ RLn H' E l cs := by
  have x1 := h1.one
  have x2 := h2.one
  unfold szL at hb
  refine Mkr.of_bodyS (N := 19) Try.func132 s132 (by kernel_rfl) rfl rfl (by simp) ?_; unfold B132
  repeat (first | refine sk_seq ?_ | refine sk_block ?_ | refine sk_blk ?_ | refine sk_skip ?_ | refine sk_exit rfl ?_ | refine sk_cond_t rfl ?_ | refine sk_cond_f rfl ?_ | (refine sk_reg fun K hK => ?_; simp [x1, x2]; refine hK _ ?_; clear hK K) | (refine sk_drw mix fun K hK => ?_; simp [x1, x2]; refine hK _ ?_; clear hK K))
  refine sk_reg fun K hK => ?_; simp [x1, x2]
  refine AskX.mkr (toIntS_mk (h1.ext (RP.frm _)) (by omega)) ?_; rintro w1 J1 A1 r1 o1 n1; simp [x1, x2, r1.one, r1.cv]
  refine hK _ ?_; clear hK K
  repeat (first | refine sk_seq ?_ | refine sk_block ?_ | refine sk_blk ?_ | refine sk_skip ?_ | refine sk_exit rfl ?_ | refine sk_cond_t rfl ?_ | refine sk_cond_f rfl ?_ | (refine sk_reg fun K hK => ?_; simp [x1, x2]; refine hK _ ?_; clear hK K) | (refine sk_drw mix fun K hK => ?_; simp [x1, x2]; refine hK _ ?_; clear hK K))
  refine sk_reg fun K hK => ?_; simp [x1, x2]
  refine AskX.mkr (toGrantS_mk (h2.ext (RP.frm _)) (by omega)) ?_; rintro w2 J2 A2 r2 o2 n2; simp [x1, x2, r1.one, r2.one, r1.cv, r2.cv]
  refine hK _ ?_; clear hK K
  repeat (first | refine sk_seq ?_ | refine sk_block ?_ | refine sk_blk ?_ | refine sk_skip ?_ | refine sk_exit rfl ?_ | refine sk_cond_t rfl ?_ | refine sk_cond_f rfl ?_ | (refine sk_reg fun K hK => ?_; simp [x1, x2, r1.one, r2.one, r1.cv, r2.cv]; refine hK _ ?_; clear hK K) | (refine sk_drw mix fun K hK => ?_; simp [x1, x2, r1.one, r2.one, r1.cv, r2.cv]; refine hK _ ?_; clear hK K))
  refine sk_ret ?_; simp
  simp only [List.append_assoc, List.cons_append, List.nil_append, List.length_append, List.length_cons, List.length_nil] at r1 o1 n1 r2 o2 n2
  refine ⟨fun i hi => List.getElem?_append_left hi, A1 ++ A2, ?_⟩
  have q1 := o1.lt
  have q2 := o2.lt
  simp only [List.length_append, List.length_cons] at q1 q2
  generalize hF : H ++ _ = F
  have k1 : ∀ e, e ∈ A1 → H.length + 3 ≤ e := fun e he => by have := n1 e he; omega
  have k2 : ∀ e, e ∈ A2 → H.length + 3 ≤ e := fun e he => by have := n2 e he; omega
  have g1 : ∀ e, e ∈ A1 → F[e]? = J1[e - (H.length + 3)]? := fun e he => by
    have := k1 e he
    have := q1 e he
    rw [← hF, get_t3 _ _ _ _ _ (by omega), List.getElem?_append_left (by omega)]
  have g2 : ∀ e, e ∈ A2 → F[e]? = (J1 ++ J2)[e - (H.length + 3)]? := fun e he => by rw [← hF, get_t3 _ _ _ _ _ (k2 e he)]
  refine ⟨⟨A1, A2, w1, w2, rfl, rfl, r1.fr (RP.frm _) fun e he _ => (g1 e he).trans (get_t3 _ _ _ _ _ (k1 e he)).symm, r2.fr (RP.frm _) fun e he _ => (g2 e he).trans (get_t3 _ _ _ _ _ (k2 e he)).symm⟩,
    (o1.fr fun e he => (g1 e he).trans (get_t3 _ _ _ _ _ (k1 e he)).symm).app (o2.fr fun e he => (g2 e he).trans (get_t3 _ _ _ _ _ (k2 e he)).symm) fun e h1 h2 => ?_, fun e he => ?_⟩
  · have := q1 e h1
    have := n2 e h2
    omega
  · rcases List.mem_append.1 he with h | h
    · have := n1 e h; omega
    · have := n2 e h; omega
def B97 : SC := .seq (.reg [⟨some 2, .assign (.const (.slice none 0 0)), none, []⟩]) (.seq (.reg [⟨some 5, .move (.tmp 0), none, []⟩, ⟨some 6, .call { callee := (.builtin .len), args := #[(.tmp 5)], argTypes := #[51] }, none, []⟩, ⟨some 7, .makeSlice 23 (.tmp 6) (.tmp 6), none, []⟩, ⟨some 3, .assign (.tmp 7), none, []⟩]) (.seq (.seq (.reg [⟨some 4, .assign (.const (.int .i64 0)), none, []⟩]) (.block 0 (.loop (.seq (.seq (.reg [⟨some 8, .move (.tmp 4), none, []⟩, ⟨some 9, .move (.tmp 0), none, []⟩, ⟨some 10, .call { callee := (.builtin .len), args := #[(.tmp 9)], argTypes := #[51] }, none, []⟩, ⟨some 11, .binOp .lss 3 (.tmp 8) (.tmp 10) 3, none, []⟩]) (.cond (.tmp 11) .skip (.exit 0))) (.seq (.block 1 (.reg [⟨some 14, .move (.tmp 3), none, []⟩, ⟨some 15, .move (.tmp 4), none, []⟩, ⟨some 16, .move (.tmp 0), none, []⟩, ⟨some 17, .move (.tmp 4), none, []⟩, ⟨some 18, .indexAddr 51 (.tmp 16) (.tmp 17), none, []⟩, ⟨some 19, .load 159 (.tmp 18), none, []⟩, ⟨some 20, .call { callee := (.value (.func 132)), args := #[(.tmp 19)], argTypes := #[159] }, none, []⟩, ⟨some 21, .indexAddr 23 (.tmp 14) (.tmp 15), none, []⟩, ⟨none, .store 43 (.tmp 21) (.tmp 20), none, []⟩])) (.reg [⟨some 12, .move (.tmp 4), none, []⟩, ⟨some 13, .binOp .add 3 (.tmp 12) (.const (.int .i64 1)) 3, none, []⟩, ⟨some 4, .assign (.tmp 13), none, []⟩])))))) (.seq (.reg [⟨some 22, .move (.tmp 3), none, []⟩, ⟨some 2, .assign (.tmp 22), none, []⟩]) .ret)))
theorem s97 : Try.f97.body.bind (stripC 23) = some B97 := by kernel_rfl
theorem toLineS_mk {H : Heap} {E : List Nat} {v : Value} {ls : List Ln} (h : RS 4 RLn H E v ls) (hb : szLs ls ≤ 1048576) : Mkr Try.prog 97 [v] H fun H' E' v' => RS 4 RLn H' E' v' ls := by
  obtain ⟨a1, c1, rfl⟩ := h.form
  have hnn := cnL_nn szL_nn ls
  unfold szLs at hb
  have hb1 : (64 : Int) * (ls.length : Int) ≤ 281474976710656 := by omega
  have hb2 : (ls.length : Int) ≤ 9223372036854775807 := by omega
  refine Mkr.of_bodyS (N := 23) Try.func97 s97 (by kernel_rfl) rfl rfl (by simp) ?_; unfold B97
  repeat (first | refine sk_seq ?_ | refine sk_block ?_ | refine sk_blk ?_ | refine sk_skip ?_ | refine sk_exit rfl ?_ | refine sk_cond_t rfl ?_ | refine sk_cond_f rfl ?_ | (refine sk_reg fun K hK => ?_; simp [hb1, hb2]; refine hK _ ?_; clear hK K) | (refine sk_drw mix fun K hK => ?_; simp [hb1, hb2]; refine hK _ ?_; clear hK K))
  refine sk_rng ls.length (fun i => [(0, .slice a1 ls.length c1), (3, sl H.length 0 ls.length), (4, iv i)])
    (fun i H1 => Gro H H1 ∧ ∃ E done rest, H1[H.length]? = some ⟨43, done ++ rest, true, true⟩ ∧ rest.length = (ls.length - i) * 4 ∧ RCs 4 RLn H1 E (ls.take i) done ∧ Own H1 E ∧ ∀ e, e ∈ E → H.length < e) (by simp [subL, getT]) ⟨(by first | exact Gro.refl _ | exact Gro.one _ _), [], [], _, by simp; rfl, by simp, ⟨rfl, rfl⟩, ⟨List.nodup_nil, fun i hi => by simp at hi⟩, fun e he => by simp at he⟩ ?_ ?_
  · rintro i H1 hi ⟨hg, E1, done, rest, hb, hrl, hrc, ho, hE⟩
    have hl := hg.len
    have hw := wrap_id (x := (i : Int) + 1) (by omega) (by omega)
    have hdl := hrc.len
    rw [List.length_take, Nat.min_eq_left (by omega)] at hdl
    have hsl := cnL_le (c := szL) (xs := ls) szL_nn (i + 1)
    rw [cnL_succ hi] at hsl
    have hs0 := cnL_nn szL_nn (ls.take i)
    have htk := take_snoc hi
    obtain ⟨r0, r1, r2, r3, rest, rfl⟩ : ∃ r0 r1 r2 r3 rest', rest = r0 :: r1 :: r2 :: r3 :: rest' := by
      match rest, hrl with
      | [], hrl => simp at hrl; omega
      | [_], hrl => simp at hrl; omega
      | [_, _], hrl => simp at hrl; omega
      | [_, _, _], hrl => simp at hrl; omega
      | r0 :: r1 :: r2 :: r3 :: rest, _ => exact ⟨r0, r1, r2, r3, rest, rfl⟩
    obtain ⟨id, o, v1, v2, F1, F2, hve, hid, d0, d1, d2, d3, hw1, hw2, x1, x2, _⟩ := (h.gro hg RLn.frm).line hi
    generalize hln : ls[i] = l at *
    have g0 : CF H1 H.length (i * 4) r0 := CF.of hb rfl (by have := get_mid (j := 0) (z := rest) (m := [r0, r1, r2, r3]) hdl rfl; simpa using this)
    have g1 : CF H1 H.length (i * 4 + 1) r1 := CF.of hb rfl (by have := get_mid (j := 1) (z := rest) (m := [r0, r1, r2, r3]) hdl rfl; simpa using this)
    have g2 : CF H1 H.length (i * 4 + 2) r2 := CF.of hb rfl (by have := get_mid (j := 2) (z := rest) (m := [r0, r1, r2, r3]) hdl rfl; simpa using this)
    have g3 : CF H1 H.length (i * 4 + 3) r3 := CF.of hb rfl (by have := get_mid (j := 3) (z := rest) (m := [r0, r1, r2, r3]) hdl rfl; simpa using this)
    have hrw := RF.of hb
    repeat (first | refine sk_seq ?_ | refine sk_block ?_ | refine sk_blk ?_ | refine sk_skip ?_ | refine sk_exit rfl ?_ | refine sk_cond_t rfl ?_ | refine sk_cond_f rfl ?_ | (refine sk_reg fun K hK => ?_; simp [hi, hve]; refine hK _ ?_; clear hK K) | (refine sk_drw mix fun K hK => ?_; simp [hi, hve]; refine hK _ ?_; clear hK K))
    refine sk_reg fun K hK => ?_; simp [hi, hve, d0.a, d0.b, d1.a, d1.b, d2.a, d2.b, d3.a, d3.b, x1, x2]
    refine AskX.mkr (toLine_mk hw1 hw2 (by omega)) ?_; rintro w J A ⟨cs, rfl, A1, A2, u1, u2, rfl, rfl, ru1, ru2⟩ oA nA; simp [hi, g0.a, g0.b, g1.a, g1.b, g2.a, g2.b, g3.a, g3.b, hrw.a, hrw.b, ru1.one, ru2.one, hl]
    refine hK _ ?_; clear hK K
    repeat (first | refine sk_seq ?_ | refine sk_block ?_ | refine sk_blk ?_ | refine sk_skip ?_ | refine sk_exit rfl ?_ | refine sk_cond_t rfl ?_ | refine sk_cond_f rfl ?_ | (refine sk_reg fun K hK => ?_; simp [hw]; refine hK _ ?_; clear hK K) | (refine sk_drw mix fun K hK => ?_; simp [hw]; refine hK _ ?_; clear hK K))
    have hnew := puts_at H.length [iv l.gone, u1, u2, iv l.drop] (H1 ++ J) (i * 4) _ done [r0, r1, r2, r3] rest (get_app J hb) (by simp) hdl rfl
    have hlt := lt_of_get hb
    have hE1 := ho.lt
    have agr : ∀ e, e ≠ H.length → (Heap.puts (H1 ++ J) H.length (i * 4) [iv l.gone, u1, u2, iv l.drop])[e]? = (H1 ++ J)[e]? := fun e he => puts_ne _ _ _ _ he
    have agr1 : ∀ e, e ∈ E1 → (Heap.puts (H1 ++ J) H.length (i * 4) [iv l.gone, u1, u2, iv l.drop])[e]? = H1[e]? := fun e he => by
      rw [agr e (by have := hE e he; omega), List.getElem?_append_left (hE1 e he)]
    have agr2 : ∀ e, e ∈ A1 ++ A2 → (Heap.puts (H1 ++ J) H.length (i * 4) [iv l.gone, u1, u2, iv l.drop])[e]? = (H1 ++ J)[e]? := fun e he => agr e (by have := nA e he; omega)
    refine sk_inv ⟨by simp [subL, getT, hve], (((hg.app J).put (by omega) _ _).put (by omega) _ _ |>.put (by omega) _ _).put (by omega) _ _, E1 ++ (A1 ++ A2), done ++ [iv l.gone, u1, u2, iv l.drop], rest, ?_, by simp at hrl; omega, ?_, ?_, ?_⟩
    · rw [List.append_assoc]; exact hnew
    · rw [htk]
      have hR : RLn (Heap.puts (H1 ++ J) H.length (i * 4) [iv l.gone, u1, u2, iv l.drop]) (A1 ++ A2) l [iv l.gone, u1, u2, iv l.drop] := RLn.frm.fr ⟨A1, A2, u1, u2, rfl, rfl, ru1, ru2⟩ fun e he _ => agr2 e he
      exact (hrc.fr RLn.frm fun e he _ => agr1 e he).app ⟨A1 ++ A2, [], _, [], by simp, by simp, rfl, hR, rfl, rfl⟩
    · exact (ho.fr agr1).app (oA.fr agr2) fun e h1 h2 => by have := hE1 e h1; have := nA e h2; omega
    · intro e he
      rcases List.mem_append.1 he with he | he
      · exact hE e he
      · have := nA e he; omega
  · rintro H1 ⟨hg, E1, done, rest, hb, hrl, hrc, ho, hE⟩
    obtain rfl : rest = [] := by simpa using hrl
    rw [List.take_length] at hrc
    rw [List.append_nil] at hb
    repeat (first | refine sk_seq ?_ | refine sk_block ?_ | refine sk_blk ?_ | refine sk_skip ?_ | refine sk_exit rfl ?_ | refine sk_cond_t rfl ?_ | refine sk_cond_f rfl ?_ | (refine sk_reg fun K hK => ?_; simp; refine hK _ ?_; clear hK K) | (refine sk_drw mix fun K hK => ?_; simp; refine hK _ ?_; clear hK K))
    refine sk_ret ?_; simp
    refine ⟨hg.len, fun i hi => hg.same hi, H.length :: E1, ⟨by omega, .inr ⟨H.length, 0, E1, 43, true, [], done, [], rfl, rfl, by simpa using hb, rfl, hrc⟩⟩, ⟨List.nodup_cons.2 ⟨fun hm => by have := hE _ hm; omega, ho.1⟩, fun id hid => ?_⟩, fun e he => ?_⟩
    · rcases List.mem_cons.1 hid with rfl | hid
      · exact rw_get hb
      · exact ho.2 id hid
    · rcases List.mem_cons.1 he with rfl | he
      · omega
      · have := hE e he; omega
def B35 : SC := .seq (.reg [⟨some 1, .box 53 (.tmp 0), none, []⟩, ⟨some 2, .alloc 25, none, []⟩]) (.seq (.reg [⟨some 3, .alloc 25, none, []⟩]) (.seq (.reg [⟨some 4, .fieldAddr 53 (.tmp 1) 0, none, []⟩, ⟨some 5, .load 4 (.tmp 4), none, []⟩, ⟨some 6, .fieldAddr 25 (.tmp 3) 0, none, []⟩, ⟨none, .store 4 (.tmp 6) (.tmp 5), none, []⟩]) (.seq (.reg [⟨some 7, .fieldAddr 53 (.tmp 1) 1, none, []⟩, ⟨some 8, .load 3 (.tmp 7), none, []⟩, ⟨some 9, .fieldAddr 25 (.tmp 3) 1, none, []⟩, ⟨none, .store 3 (.tmp 9) (.tmp 8), none, []⟩]) (.seq (.reg [⟨some 10, .fieldAddr 53 (.tmp 1) 2, none, []⟩, ⟨some 11, .load 51 (.tmp 10), none, []⟩, ⟨some 12, .call { callee := (.value (.func 97)), args := #[(.tmp 11)], argTypes := #[51] }, none, []⟩, ⟨some 13, .fieldAddr 25 (.tmp 3) 2, none, []⟩, ⟨none, .store 23 (.tmp 13) (.tmp 12), none, []⟩]) (.seq (.reg [⟨some 14, .load 25 (.tmp 3), none, []⟩, ⟨none, .store 25 (.tmp 2) (.tmp 14), none, []⟩]) .ret)))))
theorem s35 : Try.f35.body.bind (stripC 15) = some B35 := by kernel_rfl
theorem toBook_mk {H : Heap} {E : List Nat} {b : Bk} {cs : List Value} (h : RBk H E b cs) (hb : szLs b.lines ≤ 1048576) : Mkr Try.prog 35 [.agg cs.toArray] H fun H' E' v' => ∃ cs', v' = .agg cs'.toArray ∧ RBk H' E' b cs' := by
  obtain ⟨v, rfl, hv⟩ := h
  have x := hv.one
  refine Mkr.of_bodyS (N := 15) Try.func35 s35 (by kernel_rfl) rfl rfl (by simp) ?_; unfold B35
  repeat (first | refine sk_seq ?_ | refine sk_block ?_ | refine sk_blk ?_ | refine sk_skip ?_ | refine sk_exit rfl ?_ | refine sk_cond_t rfl ?_ | refine sk_cond_f rfl ?_ | (refine sk_reg fun K hK => ?_; simp [x]; refine hK _ ?_; clear hK K) | (refine sk_drw mix fun K hK => ?_; simp [x]; refine hK _ ?_; clear hK K))
  refine sk_reg fun K hK => ?_; simp [x]
  refine AskX.mkr (toLineS_mk (hv.ext RLn.frm) hb) ?_; rintro w J A r o n; simp [x, r.one, r.cv]
  refine hK _ ?_; clear hK K
  repeat (first | refine sk_seq ?_ | refine sk_block ?_ | refine sk_blk ?_ | refine sk_skip ?_ | refine sk_exit rfl ?_ | refine sk_cond_t rfl ?_ | refine sk_cond_f rfl ?_ | (refine sk_reg fun K hK => ?_; simp [x, r.one, r.cv]; refine hK _ ?_; clear hK K) | (refine sk_drw mix fun K hK => ?_; simp [x, r.one, r.cv]; refine hK _ ?_; clear hK K))
  refine sk_ret ?_; simp
  simp only [List.append_assoc, List.cons_append, List.nil_append, List.length_append, List.length_cons, List.length_nil] at r o n
  generalize hF : H ++ _ = F
  have k1 : ∀ e, e ∈ A → H.length + 3 ≤ e := fun e he => by have := n e he; omega
  have g1 : ∀ e, e ∈ A → F[e]? = J[e - (H.length + 3)]? := fun e he => by rw [← hF, get_t3 _ _ _ _ _ (k1 e he)]
  refine ⟨fun i hi => by rw [← hF]; exact List.getElem?_append_left hi, A, ⟨w, rfl, r.fr RLn.frm fun e he _ => (g1 e he).trans (get_t3 _ _ _ _ _ (k1 e he)).symm⟩, o.fr fun e he => (g1 e he).trans (get_t3 _ _ _ _ _ (k1 e he)).symm, fun e he => by have := k1 e he; omega⟩
end Go.Proofs.Ytpoedfmkiiijnaa
