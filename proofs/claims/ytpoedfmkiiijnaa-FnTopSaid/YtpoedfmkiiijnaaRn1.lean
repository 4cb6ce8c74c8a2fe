/- Run of the program. A walk. -/
import Derived.Test.YtpoedfmkiiijnaaDo7
import Derived.Test.YtpoedfmkiiijnaaAp1
import Derived.Test.YtpoedfmkiiijnaaGF
namespace Go.Proofs.Ytpoedfmkiiijnaa
open Go Go.RowKit Go.Proofs.YtpoedfmkiiijnaaAm
set_option linter.unusedVariables false
set_option linter.unusedSimpArgs false
set_option maxRecDepth 10000
set_option maxHeartbeats 8000000
/-- The loop of Run: the book in its block, what is answered so far. -/
structure RunI (H : Heap) (X : Nat) (b0 : Bk) (es' : List Evt) (i : Nat) (vl : Value) (H1 : Heap) (vb : Value) (Eb A : List Nat) : Prop where
  g : Gro H H1
  x : H1[X]? = some ⟨25, [.bool (endB b0 (es'.take i)).ok, iv (endB b0 (es'.take i)).sec, vb], true, true⟩
  rb : RS 4 RLn H1 Eb vb (endB b0 (es'.take i)).lines
  ra : RW 39 4 RDn H1 A vl (goB b0 (es'.take i))
  oa : Own H1 A
  la : ∀ e, e ∈ A → X < e
  hx : H.length ≤ X
theorem goB_take {b0 : Bk} {es' : List Evt} {i : Nat} (h : i < es'.length) : goB b0 (es'.take (i + 1)) = goB b0 (es'.take i) ++ [stepD (endB b0 (es'.take i)) es'[i]] := by rw [take_snoc h, goB_snoc]
theorem endB_take {b0 : Bk} {es' : List Evt} {i : Nat} (h : i < es'.length) : endB b0 (es'.take (i + 1)) = (stepD (endB b0 (es'.take i)) es'[i]).book := by rw [take_snoc h, endB_snoc]
def B27 : SC := .seq (.reg [⟨some 6, .assign (.const (.slice none 0 0)), none, []⟩]) (.seq (.reg [⟨some 12, .move (.tmp 0), none, []⟩, ⟨some 13, .move (.tmp 1), none, []⟩, ⟨some 14, .call { callee := (.value (.func 21)), args := #[(.tmp 12), (.tmp 13)], argTypes := #[3, 3] }, none, []⟩, ⟨some 7, .alloc 25, none, []⟩, ⟨none, .store 25 (.tmp 7) (.tmp 14), none, []⟩]) (.seq (.seq (.reg [⟨some 15, .fieldAddr 25 (.tmp 7) 0, none, []⟩, ⟨some 16, .load 4 (.tmp 15), none, []⟩, ⟨some 17, .unOp .not 4 (.tmp 16), none, []⟩, ⟨some 18, .move (.tmp 17), none, []⟩, ⟨some 19, .move (.tmp 2), some (18, false), []⟩, ⟨some 20, .call { callee := (.builtin .len), args := #[(.tmp 19)], argTypes := #[31] }, some (18, false), []⟩, ⟨some 21, .binOp .gtr 3 (.tmp 20) (.const (.int .i64 2000)) 3, some (18, false), []⟩, ⟨some 22, .pick (.tmp 18) (.const (.bool true)) (.tmp 21), none, []⟩]) (.cond (.tmp 22) (.seq (.reg [⟨some 6, .assign (.const (.slice none 0 0)), none, []⟩]) .ret) .skip)) (.seq (.reg [⟨some 8, .assign (.const (.slice none 0 0)), none, []⟩]) (.seq (.seq (.reg [⟨some 23, .move (.tmp 2), none, []⟩, ⟨some 24, .call { callee := (.builtin .len), args := #[(.tmp 23)], argTypes := #[31] }, none, []⟩, ⟨some 25, .move (.const (.int .i64 0)), none, []⟩]) (.block 0 (.loop (.seq (.reg [⟨some 26, .binOp .lss 3 (.tmp 25) (.tmp 24) 3, none, []⟩]) (.seq (.cond (.tmp 26) .skip (.exit 0)) (.seq (.block 1 (.seq (.reg [⟨some 27, .indexAddr 31 (.tmp 23) (.tmp 25), none, []⟩, ⟨some 28, .load 49 (.tmp 27), none, []⟩, ⟨some 10, .alloc 49, none, []⟩, ⟨none, .store 49 (.tmp 10) (.tmp 28), none, []⟩]) (.seq (.reg [⟨some 29, .load 25 (.tmp 7), none, []⟩, ⟨some 30, .load 49 (.tmp 10), none, []⟩, ⟨some 31, .call { callee := (.value (.func 32)), args := #[(.tmp 29), (.tmp 30)], argTypes := #[25, 49] }, none, []⟩, ⟨some 11, .alloc 39, none, []⟩, ⟨none, .store 39 (.tmp 11) (.tmp 31), none, []⟩]) (.seq (.seq (.reg [⟨some 32, .fieldAddr 39 (.tmp 11) 0, none, []⟩, ⟨some 33, .load 3 (.tmp 32), none, []⟩, ⟨some 34, .binOp .eql 3 (.tmp 33) (.const (.int .i64 1)) 3, none, []⟩]) (.cond (.tmp 34) (.reg [⟨some 35, .load 25 (.tmp 7), none, []⟩, ⟨some 36, .call { callee := (.value (.func 90)), args := #[(.tmp 35)], argTypes := #[25] }, none, []⟩, ⟨some 37, .fieldAddr 39 (.tmp 11) 1, none, []⟩, ⟨none, .store 25 (.tmp 37) (.tmp 36), none, []⟩]) .skip)) (.seq (.reg [⟨some 38, .move (.tmp 8), none, []⟩, ⟨some 39, .load 39 (.tmp 11), none, []⟩, ⟨some 40, .buildSlice 34 1 #[(0, (.tmp 39))], none, []⟩, ⟨some 41, .call { callee := (.builtin .append), args := #[(.tmp 38), (.tmp 40)], argTypes := #[34, 34] }, none, []⟩, ⟨some 8, .assign (.tmp 41), none, []⟩]) (.reg [⟨some 42, .fieldAddr 39 (.tmp 11) 1, none, []⟩, ⟨some 43, .load 25 (.tmp 42), none, []⟩, ⟨none, .store 25 (.tmp 7) (.tmp 43), none, []⟩])))))) (.reg [⟨some 44, .binOp .add 3 (.tmp 25) (.const (.int .i64 1)) 3, none, []⟩, ⟨some 25, .move (.tmp 44), none, []⟩]))))))) (.seq (.reg [⟨some 45, .move (.tmp 8), none, []⟩, ⟨some 6, .assign (.tmp 45), none, []⟩]) .ret)))))
theorem s27 : Try.f27.body.bind (stripC 46) = some B27 := by kernel_rfl
theorem implRun_mk {H : Heap} {E : List Nat} {v : Value} {es' : List Evt} (h : RS 3 REv H E v es') (s t : Int) : Mkr Try.prog 27 [iv s, iv t, v] H fun H' E' v' => RS 4 RDn H' E' v' (runB s t es') := by
  obtain ⟨a1, c1, rfl⟩ := h.form
  have hn := h.1
  refine Mkr.of_bodyS (N := 46) Try.func27 s27 (by kernel_rfl) rfl rfl (by simp) ?_; unfold B27
  repeat (first | refine sA ?_ | refine sB ?_ | refine sC ?_ | refine sD ?_ | refine sE rfl ?_ | refine sF rfl ?_ | refine sG rfl ?_ | (refine sk_reg fun K hK => ?_; simp; refine hK _ ?_; clear hK K))
  refine sk_reg fun K hK => ?_; simp
  refine AskX.mkr (implBegin_mk s t) ?_; rintro _ J1 A1 ⟨cs1, rfl, w1, rfl, r1⟩ o1 n1; simp [r1.one, r1.cv]
  refine hK _ ?_; clear hK K
  by_cases hb : (beginB s t).ok = true
  case neg =>
    have hb' : (beginB s t).ok = false := by simpa using hb
    repeat (first | refine sA ?_ | refine sB ?_ | refine sC ?_ | refine sD ?_ | refine sE rfl ?_ | refine sF rfl ?_ | refine sG rfl ?_ | (refine sk_reg fun K hK => ?_; simp [hb']; refine hK _ ?_; clear hK K))
    refine sk_ret ?_; simp
    exact ⟨fun i hi => List.getElem?_append_left hi, [], ⟨by simp [runB, hb'], .inl ⟨.inl rfl, by simp [runB, hb'], rfl⟩⟩, ⟨List.nodup_nil, fun i hi => by simp at hi⟩, fun i hi => by simp at hi⟩
  by_cases hlen : es'.length ≤ 2000
  case neg =>
    have hlen' : (2000 : Int) < es'.length := by omega
    repeat (first | refine sA ?_ | refine sB ?_ | refine sC ?_ | refine sD ?_ | refine sE rfl ?_ | refine sF rfl ?_ | refine sG rfl ?_ | (refine sk_reg fun K hK => ?_; simp [hb, hlen']; refine hK _ ?_; clear hK K))
    refine sk_ret ?_; simp
    exact ⟨fun i hi => List.getElem?_append_left hi, [], ⟨by simp [runB, hlen], .inl ⟨.inl rfl, by simp [runB, hlen], rfl⟩⟩, ⟨List.nodup_nil, fun i hi => by simp at hi⟩, fun i hi => by simp at hi⟩
  have hlen' : ¬ (2000 : Int) < es'.length := by omega
  have hrun : runB s t es' = goB (beginB s t) es' := by simp [runB, hb, hlen]
  have hbok := begin_ok hb
  rw [hrun]
  repeat (first | refine sA ?_ | refine sB ?_ | refine sC ?_ | refine sD ?_ | refine sE rfl ?_ | refine sF rfl ?_ | refine sG rfl ?_ | (refine sk_reg fun K hK => ?_; simp [hb, hlen']; refine hK _ ?_; clear hK K))
  obtain ⟨X, hX⟩ : ∃ X, X = H.length + J1.length := ⟨_, rfl⟩
  refine sk_loop (fun m ts H' => ∃ (i : Nat) (vl vb : Value) (Eb A : List Nat), i ≤ es'.length ∧ m = es'.length - i ∧ RunI H X (beginB s t) es' i vl H' vb Eb A ∧ ts = [(7, pt X 0), (8, vl), (23, .slice a1 es'.length c1), (24, iv es'.length), (25, iv i)]) es'.length _ ?_ ⟨0, nl, w1, A1, [], by omega, rfl, ⟨Gro.one _ _, ?_, ?_, .inl ⟨rfl, rfl, rfl⟩, ⟨List.nodup_nil, fun i hi => by simp at hi⟩, fun i hi => by simp at hi, by omega⟩, rfl⟩ ?_
  · simp [subL, getT, hX]
  · rw [hX, ← List.append_assoc, List.getElem?_append_right (by simp)]
    simp [endB, hb]
  · rw [← List.append_assoc]; exact r1.ext RLn.frm
  rintro m ts H1 ⟨i, vl, vb, Eb, A, hi, rfl, hI, rfl⟩
  obtain ⟨hg, hx, rb, ra, oa, la, hXl⟩ := hI
  have hl1 := hg.len
  have hgz : ∀ n, H.length ≤ H1.length + n := fun n => by omega
  have hxl := lt_of_get hx
  have bb := rb.bd RLn.frm
  have ba := ra.bd RDn.frm
  have hgl := goB_len (beginB s t) (es'.take i)
  rw [List.length_take, Nat.min_eq_left hi] at hgl
  by_cases hlt : i < es'.length
  case neg =>
    obtain rfl : i = es'.length := by omega
    obtain ⟨a2, c2, hvl⟩ := ra.form
    subst hvl
    repeat (first | refine sA ?_ | refine sB ?_ | refine sC ?_ | refine sD ?_ | refine sE rfl ?_ | refine sF rfl ?_ | refine sG rfl ?_ | (refine sk_reg fun K hK => ?_; simp; refine hK _ ?_; clear hK K))
    refine sk_ret ?_; simp
    rw [List.take_length] at ra
    exact ⟨hl1, fun i hi => hg.same hi, A, ra.rs (by rw [goB_len]; omega), oa, fun e he => by have := la e he; omega⟩
  have hbk : bookOkB (endB (beginB s t) (es'.take i)) = 0 := endB_ok hbok _
  have hgt := goB_take (b0 := beginB s t) hlt
  have het := endB_take (b0 := beginB s t) hlt
  generalize hB : endB (beginB s t) (es'.take i) = b at *
  obtain ⟨id, o, Ek, cs, hv, hid, _, _, hR, hsz, hc⟩ := (h.gro hg (RP.frm _)).at hlt
  obtain ⟨_, rfl⟩ := hR
  generalize hev : es'[i] = e at *
  have c0 : CF H1 id (o + i * 3) (iv e.op) := fun L => by have := hc 0 _ rfl L; simpa using this
  have c1 : CF H1 id (o + i * 3 + 1) (iv e.train) := fun L => hc 1 _ rfl L
  have c2 : CF H1 id (o + i * 3 + 2) (iv e.n) := fun L => hc 2 _ rfl L
  have x0 : CF H1 X 0 (.bool b.ok) := CF.of hx rfl rfl
  have x1 : CF H1 X 1 (iv b.sec) := CF.of hx rfl rfl
  have x2 : CF H1 X 2 vb := CF.of hx rfl rfl
  have xv := rb.one
  repeat (first | refine sA ?_ | refine sB ?_ | refine sC ?_ | refine sD ?_ | refine sE rfl ?_ | refine sF rfl ?_ | refine sG rfl ?_ | (refine sk_reg fun K hK => ?_; simp [hlt, hv, c0.s, c1.s, c2.s, hl1]; refine hK _ ?_; clear hK K))
  refine sk_reg fun K hK => ?_; simp [x0.s, x1.s, x2.s, xv]
  refine AskX.mkr (implDoX_mk (show RBk _ Eb b [.bool b.ok, iv b.sec, vb] from ⟨vb, rfl, rb.gro (by first | exact Gro.refl _ | exact ⟨_, rfl⟩ | exact ⟨_, by simp only [List.append_assoc, List.cons_append, List.nil_append]; rfl⟩ | exact ⟨[], by simp⟩) RLn.frm⟩) e) ?_; rintro _ J2 A2 ⟨_, rfl, _, rfl, w2, rfl, r2⟩ o2 n2; simp [xv, r2.one, r2.cv, hl1, hgz]
  refine hK _ ?_; clear hK K
  have hbo := bookOk_len hbk
  obtain ⟨T, hT⟩ : ∃ T, T = H1.length + (J2.length + 1) := ⟨_, rfl⟩
  generalize hD : doB b e = D at *
  have o2l := o2.lt
  simp only [List.append_assoc, List.cons_append, List.nil_append, List.length_append, List.length_cons, List.length_nil] at r2 o2 n2 o2l
  refine sk_at [(7, pt X 0), (8, vl), (11, pt T 0), (23, sl id o es'.length), (24, iv es'.length), (25, iv i)]
    (fun H2 => Gro H1 H2 ∧ H2[T]? = some ⟨39, [iv D.code, .bool D.book.ok, iv D.book.sec, w2], true, true⟩ ∧ RS 4 RLn H2 A2 w2 D.book.lines ∧ Own H2 A2 ∧ ∀ e, e ∈ A2 → H1.length ≤ e ∧ e ≠ T) (by simp [subL, getT, hT]) ?_ ?_
  · have g2 : ∀ L, Gro (H1 ++ ⟨49, [iv e.op, iv e.train, iv e.n], true, true⟩ :: J2) (H1 ++ ⟨49, [iv e.op, iv e.train, iv e.n], true, true⟩ :: (J2 ++ L)) := fun L => ⟨L, by simp⟩
    refine ⟨Gro.one _ _, ?_, r2.gro (g2 _) RLn.frm, o2.gro (g2 _), fun j hj => ⟨by have := n2 j hj; omega, by have := o2l j hj; omega⟩⟩
    show (H1 ++ _)[T]? = _
    rw [hT, List.getElem?_append_right (by omega), Nat.add_sub_cancel_left]
    simp
  clear r2 o2 n2 o2l
  rintro H2 ⟨g2, t2, r2, o2, n2⟩
  have hl2 := g2.len
  have hTl : H1.length ≤ T := by omega
  have t0 : CF H2 T 0 (iv D.code) := CF.of t2 rfl rfl
  have t1 : CF H2 T 1 (.bool D.book.ok) := CF.of t2 rfl rfl
  have t2' : CF H2 T 2 (iv D.book.sec) := CF.of t2 rfl rfl
  have t3 : CF H2 T 3 w2 := CF.of t2 rfl rfl
  have tr := RF.of t2
  have y0 := x0.gro g2
  have y1 := x1.gro g2
  have y2 := x2.gro g2
  refine sk_seq ?_
  refine sk_cut [(7, pt X 0), (8, vl), (11, pt T 0), (23, sl id o es'.length), (24, iv es'.length), (25, iv i)]
    (fun H3 => ∃ w Aw, H3[T]? = some ⟨39, [iv (stepD b e).code, .bool (stepD b e).book.ok, iv (stepD b e).book.sec, w], true, true⟩ ∧ RS 4 RLn H3 Aw w (stepD b e).book.lines ∧ Own H3 Aw ∧ (∀ e, e ∈ Aw → H1.length ≤ e ∧ e ≠ T) ∧ H1.length ≤ H3.length ∧ ∀ i, i < H1.length → H3[i]? = H1[i]?) ?_ ?_
  · by_cases hc : D.code = 1
    · have hc' := eq_true hc
      have hs : stepD b e = ⟨1, b⟩ := by simp [stepD, hD, hc]
      have hw := hg.len
      have wT : H.length ≤ T := by omega
      repeat (first | refine sA ?_ | refine sB ?_ | refine sC ?_ | refine sD ?_ | refine sE rfl ?_ | refine sF rfl ?_ | refine sG rfl ?_ | (refine sk_reg fun K hK => ?_; simp [t0.s, hc']; refine hK _ ?_; clear hK K))
      refine sk_reg fun K hK => ?_; simp [y0.s, y1.s, y2.s, xv]
      refine AskX.mkr (copied_mk (show RBk _ Eb b [.bool b.ok, iv b.sec, vb] from ⟨vb, rfl, rb.gro g2 RLn.frm⟩) hbo.1 hbo.2) ?_; rintro _ J3 A3 ⟨w3, rfl, r3⟩ o3 n3; simp [t0.s, t1.s, t2'.s, t3.s, tr.s, xv, r3.one, r3.cv, wT]
      refine hK _ ?_; clear hK K
      have o3l := o3.lt
      have hTl2 := lt_of_get t2
      have hF : ∀ i, i ≠ T → ((((H2 ++ J3).put T 1 (.bool b.ok)).put T 2 (iv b.sec)).put T 3 w3)[i]? = (H2 ++ J3)[i]? := fun i hi => by rw [get_put_ne _ _ _ hi, get_put_ne _ _ _ hi, get_put_ne _ _ _ hi]
      have nT : ∀ e, e ∈ A3 → e ≠ T := fun e he => by have := n3 e he; omega
      refine sk_inv ⟨by simp [subL, getT], w3, A3, ?_, ?_, ?_, fun j hj => ⟨by have := n3 j hj; omega, nT j hj⟩, ?_, fun j hj => ?_⟩
      · rw [hs, get_put, get_put, get_put, List.getElem?_append_left hTl2, t2]
        simp [hc]
      · rw [hs]
        exact (r3.ofW hbo.2).fr RLn.frm fun e he _ => hF e (nT e he)
      · exact o3.fr fun e he => hF e (nT e he)
      · simp only [length_put, List.length_append]; omega
      · rw [hF j (by omega), List.getElem?_append_left (by omega), g2.same hj]
    · have hs : stepD b e = D := by simp [stepD, hD, hc]
      repeat (first | refine sA ?_ | refine sB ?_ | refine sC ?_ | refine sD ?_ | refine sE rfl ?_ | refine sF rfl ?_ | refine sG rfl ?_ | (refine sk_reg fun K hK => ?_; simp [t0.s, hc]; refine hK _ ?_; clear hK K))
      refine sk_inv ⟨by simp [subL, getT], w2, A2, by rw [hs]; exact t2, by rw [hs]; exact r2, o2, n2, hl2, fun j hj => g2.same hj⟩
  clear t0 t1 t2' t3 tr y0 y1 y2 r2 o2 n2 t2
  rintro H3 ⟨w, Aw, t3, r3, o3, n3, hl3, s3⟩
  generalize hS : stepD b e = S at *
  have hd3 : RDn H3 Aw S [iv S.code, .bool S.book.ok, iv S.book.sec, w] := ⟨_, rfl, w, rfl, r3⟩
  have ra3 : RW 39 4 RDn H3 A vl (goB (beginB s t) (es'.take i)) := ra.fr RDn.frm fun j hj hl => s3 j hl
  have oa3 : Own H3 A := oa.fr fun j hj => s3 j (ba j hj)
  obtain ⟨k, v', H4, A', e1, e2, e3, e4, e5, e6, e7⟩ := app_one (P := Try.prog) (t := 34) (e := 39) (sz := 3) (by' := 48) (z := .agg #[iv 0, .bool false, iv 0, nl]) (by simp) (by simp) (by simp) (by simp) rfl RDn.frm ra3 oa3 hd3 o3 (fun j h1 h2 => by have := ba j h1; have := (n3 j h2).1; omega) rfl (by simp [r3.one]) (by rw [hgl]; omega) (by rw [hgl]; simp [maxLen]; omega)
  have hwr : wrO H.length [] k := fun j hj => .inl (by have := la j (e2 j hj).1; omega)
  have u0 : CF H3 T 0 (iv S.code) := CF.of t3 rfl rfl
  have u1 : CF H3 T 1 (.bool S.book.ok) := CF.of t3 rfl rfl
  have u2 : CF H3 T 2 (iv S.book.sec) := CF.of t3 rfl rfl
  have u3 : CF H3 T 3 w := CF.of t3 rfl rfl
  have hT4 : H4[T]? = H3[T]? := e4 T (lt_of_get t3) fun hh => by have := ba T hh; omega
  have hX4 : H4[X]? = _ := (e4 X (by omega) fun hh => by have := la X hh; omega).trans ((s3 X hxl).trans hx)
  rw [t3] at hT4
  have p1 : CF H4 T 1 (.bool S.book.ok) := CF.of hT4 rfl rfl
  have p2 : CF H4 T 2 (iv S.book.sec) := CF.of hT4 rfl rfl
  have p3 : CF H4 T 3 w := CF.of hT4 rfl rfl
  have pr := RF.of hX4
  have q0 : CF H4 X 0 (.bool b.ok) := CF.of hX4 rfl rfl
  have q1 : CF H4 X 1 (iv b.sec) := CF.of hX4 rfl rfl
  have q2 : CF H4 X 2 vb := CF.of hX4 rfl rfl
  have xw := r3.one
  have hl13 : H.length ≤ H3.length := by omega
  have hw := wrap_id (x := (i : Int) + 1) (by omega) (by omega)
  refine sk_seq ?_
  refine sk_reg fun K hK => ?_; simp [u0.s, u1.s, u2.s, u3.s, xw, hl13, e1, hwr]
  refine hK _ ?_; clear hK K
  repeat (first | refine sA ?_ | refine sB ?_ | refine sC ?_ | refine sD ?_ | refine sE rfl ?_ | refine sF rfl ?_ | refine sG rfl ?_ | (refine sk_reg fun K hK => ?_; simp [p1.s, p2.s, p3.s, q0.s, q1.s, q2.s, pr.s, xw, hXl, hw]; refine hK _ ?_; clear hK K))
  have nX' : ∀ j, j ∈ A' → X < j := fun j hj => by
    rcases e7 j hj with h | h | h
    · exact la j h
    · have := (n3 j h).1; omega
    · omega
  have nX : ∀ j, j ∈ A' → j ≠ X := fun j hj => by have := nX' j hj; omega
  have hF : ∀ j, j ≠ X → (((H4.put X 0 (.bool S.book.ok)).put X 1 (iv S.book.sec)).put X 2 w)[j]? = H4[j]? := fun j hj => by rw [get_put_ne _ _ _ hj, get_put_ne _ _ _ hj, get_put_ne _ _ _ hj]
  refine sk_inv ⟨es'.length - (i + 1), _, by omega, ?_, i + 1, v', w, Aw, A', by omega, rfl, ⟨?_, ?_, ?_, ?_, ?_, ?_, hXl⟩, rfl⟩
  · simp [subL, getT, hv]
  · refine Gro.of (by simp only [length_put]; omega) fun j hj => ?_
    rw [hF j (by omega), e4 j (by omega) fun hh => by have := la j hh; omega, s3 j (by omega), hg.same hj]
  · rw [get_put, get_put, get_put, hX4, het]
    rfl
  · rw [het]
    exact r3.fr RLn.frm fun j hj hl => (hF j (by have := (n3 j hj).1; omega)).trans (e4 j hl fun hh => by have := ba j hh; have := (n3 j hj).1; omega)
  · rw [hgt]
    exact e5.fr RDn.frm fun j hj hl => hF j (nX j hj)
  · exact e6.fr fun j hj => hF j (nX j hj)
  · exact nX'
end Go.Proofs.Ytpoedfmkiiijnaa
