/- copied of the program: a book of its own memory. Walks. -/
import Derived.Test.YtpoedfmkiiijnaaCp2
import Derived.Test.YtpoedfmkiiijnaaPu1
namespace Go.Proofs.Ytpoedfmkiiijnaa
open Go Go.RowKit Go.Proofs.YtpoedfmkiiijnaaAm
set_option linter.unusedVariables false
set_option linter.unusedSimpArgs false
set_option maxRecDepth 10000
set_option maxHeartbeats 4000000
def clnQ (H : Heap) (E : List Nat) (ls : List Ln) (H' : Heap) (E' : List Nat) (v' : Value) : Prop :=
  (v' = nl ∧ ls = [] ∧ E' = []) ∨ ∃ id cells E0, v' = sl id 0 ls.length ∧ E' = [id] ∧ H'[id]? = some ⟨43, cells, true, true⟩ ∧ RCs 4 RLn H E0 ls cells ∧ ∀ e, e ∈ E0 → e ∈ E
theorem RLn.one {H : Heap} {E : List Nat} {l : Ln} {cs : List Value} (h : RLn H E l cs) : cs.all (·.oneCell') = true := by
  obtain ⟨E1, E2, v1, v2, rfl, rfl, h1, h2⟩ := h
  simp only [List.all_cons, List.all_nil, h1.one, h2.one]
  rfl
def B126 : SC := .seq (.reg [⟨some 2, .assign (.const (.slice none 0 0)), none, []⟩]) (.seq (.seq (.reg [⟨some 3, .move (.tmp 0), none, []⟩, ⟨some 4, .binOp .eql 23 (.tmp 3) (.const (.slice none 0 0)) 23, none, []⟩]) (.cond (.tmp 4) (.seq (.reg [⟨some 2, .assign (.const (.slice none 0 0)), none, []⟩]) .ret) .skip)) (.seq (.reg [⟨some 5, .buildSlice 23 0 #[], none, []⟩, ⟨some 6, .move (.tmp 0), none, []⟩, ⟨some 7, .call { callee := (.builtin .append), args := #[(.tmp 5), (.tmp 6)], argTypes := #[23, 23] }, none, []⟩, ⟨some 2, .assign (.tmp 7), none, []⟩]) .ret))
theorem s126 : Try.f126.body.bind (stripC 8) = some B126 := by kernel_rfl
theorem cloneL_mk {H : Heap} {E : List Nat} {v : Value} {ls : List Ln} (h : RS 4 RLn H E v ls) (hb : ls.length ≤ 1048576) : Mkr Try.prog 126 [v] H (clnQ H E ls) := by
  refine Mkr.of_bodyS (N := 8) Try.func126 s126 (by kernel_rfl) rfl rfl (by simp) ?_; unfold B126
  by_cases hn : v = nl
  · subst hn
    obtain rfl := h.nilx
    repeat (first | refine sk_seq ?_ | refine sk_block ?_ | refine sk_blk ?_ | refine sk_skip ?_ | refine sk_exit rfl ?_ | refine sk_cond_t rfl ?_ | refine sk_cond_f rfl ?_ | (refine sk_reg fun K hK => ?_; simp; refine hK _ ?_; clear hK K) | (refine sk_drw mix fun K hK => ?_; simp; refine hK _ ?_; clear hK K))
    refine sk_ret ?_; simp
    exact ⟨[], .inl ⟨rfl, rfl, rfl⟩, ⟨List.nodup_nil, fun i hi => by simp at hi⟩, fun i hi => by simp at hi⟩
  · obtain ⟨E2, news, hsrc, h2, hE2, _⟩ := (h.ext (L := [⟨43, [], true, true⟩]) RLn.frm).src
    have e1 := apA_new (P := Try.prog) (t := 23) (e := 43) (sz := 3) (by' := 64) (z := .agg #[iv 0, nl, nl, iv 0]) (by simp) (by simp) (by simp) (by simp) rfl hsrc (h2.one RLn.one) (by omega) (by simp [maxLen]; omega)
    have hbd := h.bd RLn.frm
    obtain ⟨a, c, rfl⟩ := h.some hn
    repeat (first | refine sk_seq ?_ | refine sk_block ?_ | refine sk_blk ?_ | refine sk_skip ?_ | refine sk_exit rfl ?_ | refine sk_cond_t rfl ?_ | refine sk_cond_f rfl ?_ | (refine sk_reg fun K hK => ?_; simp [e1]; refine hK _ ?_; clear hK K) | (refine sk_drw mix fun K hK => ?_; simp [e1]; refine hK _ ?_; clear hK K))
    refine sk_ret ?_; simp
    refine ⟨fun i hi => List.getElem?_append_left hi, [H.length + 1], .inr ⟨H.length + 1, news, E2, rfl, rfl, by simp, h2.fr RLn.frm (agr_cut H _ fun e he => hbd e (hE2 e he)), hE2⟩, ⟨by simp, fun i hi => ?_⟩, fun i hi => by simp at hi; omega⟩
    simp at hi; subst hi
    exact rw_get (t := 43) (cs := news) (by simp)
def B90 : SC := .seq (.reg [⟨some 1, .box 25 (.tmp 0), none, []⟩, ⟨some 2, .alloc 25, none, []⟩]) (.seq (.reg [⟨some 5, .fieldAddr 25 (.tmp 1) 2, none, []⟩, ⟨some 6, .load 23 (.tmp 5), none, []⟩, ⟨some 7, .call { callee := (.value (.func 126)), args := #[(.tmp 6)], argTypes := #[23] }, none, []⟩, ⟨some 8, .fieldAddr 25 (.tmp 1) 2, none, []⟩, ⟨none, .store 23 (.tmp 8) (.tmp 7), none, []⟩]) (.seq (.seq (.reg [⟨some 9, .fieldAddr 25 (.tmp 1) 2, none, []⟩, ⟨some 10, .load 23 (.tmp 9), none, []⟩, ⟨some 11, .call { callee := (.builtin .len), args := #[(.tmp 10)], argTypes := #[23] }, none, []⟩, ⟨some 12, .move (.const (.int .i64 0)), none, []⟩]) (.block 0 (.loop (.seq (.reg [⟨some 13, .binOp .lss 3 (.tmp 12) (.tmp 11) 3, none, []⟩]) (.seq (.cond (.tmp 13) .skip (.exit 0)) (.seq (.block 1 (.seq (.reg [⟨some 14, .move (.tmp 12), none, []⟩, ⟨some 3, .assign (.tmp 14), none, []⟩]) (.seq (.reg [⟨some 15, .fieldAddr 25 (.tmp 1) 2, none, []⟩, ⟨some 16, .load 23 (.tmp 15), none, []⟩, ⟨some 17, .move (.tmp 3), none, []⟩, ⟨some 18, .indexAddr 23 (.tmp 16) (.tmp 17), none, []⟩, ⟨some 4, .assign (.tmp 18), none, []⟩]) (.drw 0 [⟨some 19, .move (.tmp 4), none, []⟩, ⟨some 20, .move (.tmp 4), none, []⟩, ⟨some 21, .move (.tmp 4), none, []⟩, ⟨some 22, .nilCheck (.tmp 21), none, [2]⟩, ⟨some 23, .fieldAddr 43 (.tmp 22) 1, none, [3, 2]⟩, ⟨some 24, .load 40 (.tmp 23), none, [4, 3, 2]⟩, ⟨some 25, .call { callee := (.value (.func 127)), args := #[(.tmp 24)], argTypes := #[40] }, none, [5, 4, 3, 2]⟩, ⟨some 26, .move (.tmp 4), none, []⟩, ⟨some 27, .nilCheck (.tmp 26), none, [7]⟩, ⟨some 28, .fieldAddr 43 (.tmp 27) 2, none, [8, 7]⟩, ⟨some 29, .load 41 (.tmp 28), none, [9, 8, 7]⟩, ⟨some 30, .call { callee := (.value (.func 128)), args := #[(.tmp 29)], argTypes := #[41] }, none, [10, 9, 8, 7, 6, 5, 4, 3, 2]⟩, ⟨some 31, .nilCheck (.tmp 19), none, [0, 2, 3, 4, 5, 6, 10, 9, 8, 7, 11]⟩, ⟨some 32, .fieldAddr 43 (.tmp 31) 1, none, [12, 0, 2, 3, 4, 5, 6, 10, 9, 8, 7, 11]⟩, ⟨none, .store 40 (.tmp 32) (.tmp 25), none, [13, 12, 0, 2, 3, 4, 5, 6, 10, 9, 8, 7, 11]⟩, ⟨some 33, .nilCheck (.tmp 20), none, [1, 0, 2, 3, 4, 5, 6, 7, 8, 9, 10, 11, 12, 13, 14]⟩, ⟨some 34, .fieldAddr 43 (.tmp 33) 2, none, [15, 1, 0, 2, 3, 4, 5, 6, 7, 8, 9, 10, 11, 12, 13, 14]⟩, ⟨none, .store 41 (.tmp 34) (.tmp 30), none, [16, 15, 1, 0, 2, 3, 4, 5, 6, 7, 8, 9, 10, 11, 12, 13, 14]⟩])))) (.reg [⟨some 35, .binOp .add 3 (.tmp 12) (.const (.int .i64 1)) 3, none, []⟩, ⟨some 12, .move (.tmp 35), none, []⟩]))))))) (.seq (.reg [⟨some 36, .load 25 (.tmp 1), none, []⟩, ⟨none, .store 25 (.tmp 2) (.tmp 36), none, []⟩]) .ret)))
theorem s90 : Try.f90.body.bind (stripC 37) = some B90 := by kernel_rfl
theorem copied_mk {H : Heap} {E : List Nat} {b : Bk} {cs : List Value} (h : RBk H E b cs) (hb : b.lines.length ≤ 1048576) (hlen : ∀ l, l ∈ b.lines → lenOk l) :
    Mkr Try.prog 90 [.agg cs.toArray] H fun H' E' v' => ∃ w, v' = .agg #[.bool b.ok, iv b.sec, w] ∧ RS 4 RLnW H' E' w b.lines := by
  obtain ⟨v, rfl, hv⟩ := h
  have x := hv.one
  refine Mkr.of_bodyS (N := 37) Try.func90 s90 (by kernel_rfl) rfl rfl (by simp) ?_; unfold B90
  repeat (first | refine sk_seq ?_ | refine sk_block ?_ | refine sk_blk ?_ | refine sk_skip ?_ | refine sk_exit rfl ?_ | refine sk_cond_t rfl ?_ | refine sk_cond_f rfl ?_ | (refine sk_reg fun K hK => ?_; simp [x]; refine hK _ ?_; clear hK K) | (refine sk_drw mix fun K hK => ?_; simp [x]; refine hK _ ?_; clear hK K))
  refine sk_reg fun K hK => ?_; simp [x]
  refine AskX.mkr (cloneL_mk (hv.gro (by first | exact Gro.refl _ | exact ⟨_, rfl⟩ | exact ⟨_, by simp only [List.append_assoc, List.cons_append, List.nil_append]; rfl⟩ | exact ⟨[], by simp⟩) RLn.frm) hb) ?_; rintro w J A hQ o n; simp
  rcases hQ with ⟨rfl, hnil, rfl⟩ | ⟨id, cells, E0, rfl, rfl, hcell, hrc, hE0⟩
  · simp
    refine hK _ ?_; clear hK K
    repeat (first | refine sk_seq ?_ | refine sk_block ?_ | refine sk_blk ?_ | refine sk_skip ?_ | refine sk_exit rfl ?_ | refine sk_cond_t rfl ?_ | refine sk_cond_f rfl ?_ | (refine sk_reg fun K hK => ?_; simp; refine hK _ ?_; clear hK K) | (refine sk_drw mix fun K hK => ?_; simp; refine hK _ ?_; clear hK K))
    refine sk_rng 0 (fun i => [(1, pt H.length 0), (2, pt (H.length + 1) 0), (10, nl), (11, iv 0), (12, iv 0)]) (fun i H1 => H1 = H ++ ⟨25, [.bool b.ok, iv b.sec, nl], true, true⟩ :: ⟨25, [.bool false, iv 0, nl], true, true⟩ :: J) (by simp [subL, getT]) rfl (fun i H1 hi => by omega) ?_
    rintro H1 rfl
    repeat (first | refine sk_seq ?_ | refine sk_block ?_ | refine sk_blk ?_ | refine sk_skip ?_ | refine sk_exit rfl ?_ | refine sk_cond_t rfl ?_ | refine sk_cond_f rfl ?_ | (refine sk_reg fun K hK => ?_; simp; refine hK _ ?_; clear hK K) | (refine sk_drw mix fun K hK => ?_; simp; refine hK _ ?_; clear hK K))
    refine sk_ret ?_; simp
    exact ⟨fun i hi => List.getElem?_append_left hi, [], ⟨by simp [hnil], .inl ⟨.inl rfl, hnil, rfl⟩⟩, ⟨List.nodup_nil, fun i hi => by simp at hi⟩, fun i hi => by simp at hi⟩
  simp
  refine hK _ ?_; clear hK K
  repeat (first | refine sk_seq ?_ | refine sk_block ?_ | refine sk_blk ?_ | refine sk_skip ?_ | refine sk_exit rfl ?_ | refine sk_cond_t rfl ?_ | refine sk_cond_f rfl ?_ | (refine sk_reg fun K hK => ?_; simp; refine hK _ ?_; clear hK K) | (refine sk_drw mix fun K hK => ?_; simp; refine hK _ ?_; clear hK K))
  have hrc0 : RCs 4 RLn H E0 b.lines cells := hrc.fr RLn.frm (agr_cut H _ fun e he => hv.bd RLn.frm e (hE0 e he))
  have hid0 := n id (by simp)
  simp only [List.length_append, List.length_cons, List.length_nil] at hid0
  simp only [List.append_assoc, List.cons_append, List.nil_append] at hcell
  rw [get_t2 _ _ _ _ (by omega)] at hcell
  refine sk_rng b.lines.length (fun i => [(1, pt H.length 0), (2, pt (H.length + 1) 0), (10, sl id 0 b.lines.length), (11, iv b.lines.length), (12, iv i)])
    (fun i H1 => Gro H H1 ∧ H1[H.length]? = some ⟨25, [.bool b.ok, iv b.sec, sl id 0 b.lines.length], true, true⟩ ∧ H1[H.length + 1]? = some ⟨25, [.bool false, iv 0, nl], true, true⟩ ∧
      ∃ A done rest E1, H1[id]? = some ⟨43, done ++ rest, true, true⟩ ∧ RCs 4 RLnW H1 A (b.lines.take i) done ∧ RCs 4 RLn H E1 (b.lines.drop i) rest ∧ Own H1 A ∧ ∀ e, e ∈ A → H.length + 2 ≤ e ∧ e ≠ id)
    (by simp [subL, getT]) ⟨Gro.one _ _, by simp, by simp, [], [], cells, E0, by rw [get_t2 _ _ _ _ (by omega)]; exact hcell, ⟨rfl, rfl⟩, by simpa using hrc0, ⟨List.nodup_nil, fun i hi => by simp at hi⟩, fun e he => by simp at he⟩ ?_ ?_
  · clear hcell hrc hrc0 o n
    rintro i H1 hi ⟨hg, hb0, hb1, A, done, rest, E1, hbk, hdn, hrs, ho, hA⟩
    have hl := hg.len
    have hw := wrap_id (x := (i : Int) + 1) (by omega) (by omega)
    have hdl := hdn.len
    rw [List.length_take, Nat.min_eq_left (by omega)] at hdl
    have htk := take_snoc hi
    have hlo := hlen _ (List.getElem_mem hi)
    rw [drop_cons hi] at hrs
    generalize hln : b.lines[i] = l at *
    obtain ⟨_, F3, _, rest, rfl, rfl, _, ⟨F1, F2, v1, v2, rfl, rfl, r1, r2⟩, hrs⟩ := hrs
    have x1 := r1.one
    have x2 := r2.one
    have c2 : CF H1 H.length 2 (sl id 0 b.lines.length) := CF.of hb0 rfl rfl
    have g0 : CF H1 id (i * 4) (iv l.gone) := CF.of hbk rfl (by have := get_mid (j := 0) (z := rest) (m := [iv l.gone, v1, v2, iv l.drop]) hdl rfl; simpa using this)
    have g1 : CF H1 id (i * 4 + 1) v1 := CF.of hbk rfl (by have := get_mid (j := 1) (z := rest) (m := [iv l.gone, v1, v2, iv l.drop]) hdl rfl; simpa using this)
    have g2 : CF H1 id (i * 4 + 2) v2 := CF.of hbk rfl (by have := get_mid (j := 2) (z := rest) (m := [iv l.gone, v1, v2, iv l.drop]) hdl rfl; simpa using this)
    have hrw := RF.of hbk
    have hidl : H.length ≤ id := by omega
    repeat (first | refine sk_seq ?_ | refine sk_block ?_ | refine sk_blk ?_ | refine sk_skip ?_ | refine sk_exit rfl ?_ | refine sk_cond_t rfl ?_ | refine sk_cond_f rfl ?_ | (refine sk_reg fun K hK => ?_; simp [hi, c2.a, c2.b]; refine hK _ ?_; clear hK K) | (refine sk_drw mix fun K hK => ?_; simp [hi, c2.a, c2.b]; refine hK _ ?_; clear hK K))
    refine sk_drw mix fun K hK => ?_; simp [g1.a, g1.b, g2.a, g2.b]
    refine AskD.mkr (cloneI_mk (r1.gro hg (RP.frm _)) hlo.1) ?_; rintro u1 J1 A1 q1 o1 n1; simp [g1.a, g1.b, g2.a, g2.b, hrw.a, hrw.b, x1, x2]
    refine AskD.mkr (cloneG_mk (r2.gro (hg.app J1) (RP.frm _)) hlo.2) ?_; rintro u2 J2 A2 q2 o2 n2; simp [g1.a, g1.b, g2.a, g2.b, hrw.a, hrw.b, x1, x2, hidl, q1.one, q1.cv, q2.one, q2.cv]
    refine hK _ ?_; clear hK K
    repeat (first | refine sk_seq ?_ | refine sk_block ?_ | refine sk_blk ?_ | refine sk_skip ?_ | refine sk_exit rfl ?_ | refine sk_cond_t rfl ?_ | refine sk_cond_f rfl ?_ | (refine sk_reg fun K hK => ?_; simp [hw]; refine hK _ ?_; clear hK K) | (refine sk_drw mix fun K hK => ?_; simp [hw]; refine hK _ ?_; clear hK K))
    have hlt := lt_of_get hbk
    have hA1 := ho.lt
    have o1l := o1.lt
    have hbk' := get_app (J1 ++ J2) hbk
    have hF : ∀ e, e ≠ id → ((Heap.put (H1 ++ (J1 ++ J2)) id (i * 4 + 1) u1).put id (i * 4 + 2) u2)[e]? = (H1 ++ (J1 ++ J2))[e]? := fun e he => by rw [get_put_ne _ _ _ he, get_put_ne _ _ _ he]
    have hFid : ((Heap.put (H1 ++ (J1 ++ J2)) id (i * 4 + 1) u1).put id (i * 4 + 2) u2)[id]? = some ⟨43, done ++ ([iv l.gone, u1, u2, iv l.drop] ++ rest), true, true⟩ := by
      rw [get_put, get_put, hbk']
      simp only [Option.map_some]
      rw [set_mid hdl (by simp), set_mid hdl (by simp)]
      rfl
    generalize hFF : ((Heap.put (H1 ++ (J1 ++ J2)) id (i * 4 + 1) u1).put id (i * 4 + 2) u2) = F at hF hFid ⊢
    have a0 : ∀ e, e ∈ A → F[e]? = H1[e]? := fun e he => by rw [hF e (hA e he).2, List.getElem?_append_left (hA1 e he)]
    have a1 : ∀ e, e ∈ A1 → F[e]? = (H1 ++ J1)[e]? := fun e he => by
      have := n1 e he
      have := o1l e he
      rw [hF e (by omega), ← List.append_assoc, List.getElem?_append_left (o1l e he)]
    have a2 : ∀ e, e ∈ A2 → F[e]? = (H1 ++ J1 ++ J2)[e]? := fun e he => by
      have := n2 e he
      simp only [List.length_append] at this
      rw [hF e (by omega), ← List.append_assoc]
    have hgF : Gro H F := by rw [← hFF]; exact ((hg.app _).put hidl _ _).put hidl _ _
    refine sk_inv ⟨by simp [subL, getT], hgF, by rw [hF _ (by omega)]; exact get_app _ hb0, by rw [hF _ (by omega)]; exact get_app _ hb1, A ++ (A1 ++ A2), done ++ [iv l.gone, u1, u2, iv l.drop], rest, F3, ?_, ?_, hrs, ?_, ?_⟩
    · rw [hFid, List.append_assoc]
    · rw [htk]
      have hR : RLnW F (A1 ++ A2) l [iv l.gone, u1, u2, iv l.drop] := ⟨A1, A2, u1, u2, rfl, rfl, q1.fr (RP.frm _) fun e he _ => a1 e he, q2.fr (RP.frm _) fun e he _ => a2 e he⟩
      exact (hdn.fr RLnW.frm fun e he _ => a0 e he).app ⟨A1 ++ A2, [], _, [], by simp, by simp, rfl, hR, rfl, rfl⟩
    · refine (ho.fr a0).app ((o1.fr a1).app (o2.fr a2) fun e h1 h2 => ?_) fun e h1 h2 => ?_
      · have := o1l e h1; have := n2 e h2; omega
      · have := hA1 e h1
        rcases List.mem_append.1 h2 with h2 | h2
        · have := n1 e h2; omega
        · have := n2 e h2; simp at this; omega
    · intro e he
      rcases List.mem_append.1 he with he | he
      · exact hA e he
      · rcases List.mem_append.1 he with he | he
        · have := n1 e he; omega
        · have := n2 e he; simp at this; omega
  · clear hcell hrc hrc0 o n
    rintro H1 ⟨hg, hb0, hb1, A, done, rest, E1, hbk, hdn, hrs, ho, hA⟩
    rw [List.drop_length] at hrs
    obtain ⟨_, rfl⟩ := hrs
    rw [List.take_length] at hdn
    rw [List.append_nil] at hbk
    have c0 : CF H1 H.length 0 (.bool b.ok) := CF.of hb0 rfl rfl
    have c1 : CF H1 H.length 1 (iv b.sec) := CF.of hb0 rfl rfl
    have c2 : CF H1 H.length 2 (sl id 0 b.lines.length) := CF.of hb0 rfl rfl
    have d0 : CF H1 (H.length + 1) 0 (.bool false) := CF.of hb1 rfl rfl
    have d1 : CF H1 (H.length + 1) 1 (iv 0) := CF.of hb1 rfl rfl
    have d2 : CF H1 (H.length + 1) 2 nl := CF.of hb1 rfl rfl
    have hrw := RF.of hb1
    repeat (first | refine sk_seq ?_ | refine sk_block ?_ | refine sk_blk ?_ | refine sk_skip ?_ | refine sk_exit rfl ?_ | refine sk_cond_t rfl ?_ | refine sk_cond_f rfl ?_ | (refine sk_reg fun K hK => ?_; simp [c0.a, c0.b, c1.a, c1.b, c2.a, c2.b, d0.a, d0.b, d1.a, d1.b, d2.a, d2.b, hrw.a, hrw.b]; refine hK _ ?_; clear hK K) | (refine sk_drw mix fun K hK => ?_; simp [c0.a, c0.b, c1.a, c1.b, c2.a, c2.b, d0.a, d0.b, d1.a, d1.b, d2.a, d2.b, hrw.a, hrw.b]; refine hK _ ?_; clear hK K))
    refine sk_ret ?_; simp [c0.a, c0.b, c1.a, c1.b, c2.a, c2.b, d0.a, d0.b, d1.a, d1.b, d2.a, d2.b]
    have hF : ∀ e, e ≠ H.length + 1 → (((H1.put (H.length + 1) 0 (.bool b.ok)).put (H.length + 1) 1 (iv b.sec)).put (H.length + 1) 2 (sl id 0 b.lines.length))[e]? = H1[e]? := fun e he => by rw [get_put_ne _ _ _ he, get_put_ne _ _ _ he, get_put_ne _ _ _ he]
    refine ⟨by simp only [length_put]; exact hg.len, fun i hi => by rw [hF i (by omega)]; exact hg.same hi, id :: A, ⟨by omega, .inr ⟨id, 0, A, 43, true, [], done, [], rfl, rfl, by rw [hF id (by omega)]; simpa using hbk, rfl, hdn.fr RLnW.frm fun e he _ => hF e (by have := hA e he; omega)⟩⟩, ⟨List.nodup_cons.2 ⟨fun hm => (hA _ hm).2 rfl, ho.1⟩, fun e he => ?_⟩, fun e he => ?_⟩
    · rcases List.mem_cons.1 he with rfl | he
      · exact rw_get (by rw [hF _ (by omega)]; exact hbk)
      · have := ho.2 e he
        unfold Heap.rwOk at this ⊢
        rw [hF e (by have := hA e he; omega)]; exact this
    · rcases List.mem_cons.1 he with rfl | he
      · omega
      · have := hA e he; omega
end Go.Proofs.Ytpoedfmkiiijnaa
