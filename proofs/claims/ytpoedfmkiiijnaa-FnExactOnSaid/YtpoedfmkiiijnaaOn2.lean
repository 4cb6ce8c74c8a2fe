/- On of the reference. A walk. -/
import Derived.Test.YtpoedfmkiiijnaaOn1
namespace Go.Proofs.Ytpoedfmkiiijnaa
open Go Go.RowKit Go.Proofs.YtpoedfmkiiijnaaAm
set_option linter.unusedVariables false
set_option linter.unusedSimpArgs false
set_option maxRecDepth 10000
set_option maxHeartbeats 8000000
def B54 : SC := .seq (.reg [⟨some 2, .box 64 (.tmp 0), none, []⟩, ⟨some 4, .assign (.const (.slice none 0 0)), none, []⟩]) (.seq (.seq (.reg [⟨some 10, .load 64 (.tmp 2), none, []⟩, ⟨some 11, .call { callee := (.value (.func 110)), args := #[(.tmp 10)], argTypes := #[64] }, none, []⟩, ⟨some 12, .unOp .not 4 (.tmp 11), none, []⟩]) (.cond (.tmp 12) (.seq (.reg [⟨some 4, .assign (.const (.slice none 0 0)), none, []⟩]) .ret) .skip)) (.seq (.reg [⟨some 5, .assign (.const (.slice none 0 0)), none, []⟩]) (.seq (.seq (.reg [⟨some 13, .fieldAddr 64 (.tmp 2) 2, none, []⟩, ⟨some 14, .load 62 (.tmp 13), none, []⟩, ⟨some 15, .call { callee := (.builtin .len), args := #[(.tmp 14)], argTypes := #[62] }, none, []⟩, ⟨some 16, .move (.const (.int .i64 0)), none, []⟩]) (.block 0 (.loop (.seq (.reg [⟨some 17, .binOp .lss 3 (.tmp 16) (.tmp 15) 3, none, []⟩]) (.seq (.cond (.tmp 17) .skip (.exit 0)) (.seq (.block 1 (.seq (.reg [⟨some 18, .move (.tmp 16), none, []⟩, ⟨some 19, .indexAddr 62 (.tmp 14) (.tmp 16), none, []⟩, ⟨some 20, .load 72 (.tmp 19), none, []⟩, ⟨some 7, .alloc 72, none, []⟩, ⟨some 6, .assign (.tmp 18), none, []⟩, ⟨none, .store 72 (.tmp 7) (.tmp 20), none, []⟩]) (.seq (.reg [⟨some 21, .fieldAddr 64 (.tmp 2) 1, none, []⟩, ⟨some 22, .fieldAddr 25 (.tmp 21) 2, none, []⟩, ⟨some 23, .load 23 (.tmp 22), none, []⟩, ⟨some 24, .move (.tmp 6), none, []⟩, ⟨some 25, .indexAddr 23 (.tmp 23) (.tmp 24), none, []⟩, ⟨some 26, .load 43 (.tmp 25), none, []⟩, ⟨some 8, .alloc 43, none, []⟩, ⟨none, .store 43 (.tmp 8) (.tmp 26), none, []⟩]) (.seq (.reg [⟨some 27, .fieldAddr 72 (.tmp 7) 2, none, []⟩, ⟨some 28, .load 3 (.tmp 27), none, []⟩, ⟨some 9, .assign (.tmp 28), none, []⟩]) (.block 2 (.loop (.seq (.seq (.reg [⟨some 29, .move (.tmp 9), none, []⟩, ⟨some 30, .fieldAddr 72 (.tmp 7) 3, none, []⟩, ⟨some 31, .load 3 (.tmp 30), none, []⟩, ⟨some 32, .binOp .leq 3 (.tmp 29) (.tmp 31) 3, none, []⟩]) (.cond (.tmp 32) .skip (.exit 2))) (.seq (.block 3 (.seq (.reg [⟨some 35, .fieldAddr 43 (.tmp 8) 1, none, []⟩, ⟨some 36, .load 40 (.tmp 35), none, []⟩, ⟨some 37, .move (.tmp 9), none, []⟩, ⟨some 38, .fieldAddr 43 (.tmp 8) 0, none, []⟩, ⟨some 39, .load 3 (.tmp 38), none, []⟩, ⟨some 40, .binOp .sub 3 (.tmp 37) (.tmp 39) 3, none, []⟩, ⟨some 41, .indexAddr 40 (.tmp 36) (.tmp 40), none, []⟩, ⟨some 42, .load 3 (.tmp 41), none, []⟩, ⟨some 43, .move (.tmp 1), none, []⟩, ⟨some 44, .binOp .eql 3 (.tmp 42) (.tmp 43) 3, none, []⟩]) (.cond (.tmp 44) (.reg [⟨some 45, .move (.tmp 5), none, []⟩, ⟨some 46, .move (.tmp 6), none, []⟩, ⟨some 47, .buildSlice 40 1 #[(0, (.tmp 46))], none, []⟩, ⟨some 48, .call { callee := (.builtin .append), args := #[(.tmp 45), (.tmp 47)], argTypes := #[40, 40] }, none, []⟩, ⟨some 5, .assign (.tmp 48), none, []⟩]) .skip))) (.reg [⟨some 33, .move (.tmp 9), none, []⟩, ⟨some 34, .binOp .add 3 (.tmp 33) (.const (.int .i64 1)) 3, none, []⟩, ⟨some 9, .assign (.tmp 34), none, []⟩]))))))))) (.reg [⟨some 49, .binOp .add 3 (.tmp 16) (.const (.int .i64 1)) 3, none, []⟩, ⟨some 16, .move (.tmp 49), none, []⟩]))))))) (.seq (.reg [⟨some 50, .move (.tmp 5), none, []⟩, ⟨some 4, .assign (.tmp 50), none, []⟩]) .ret))))
theorem s54 : Try.f54.body.bind (stripC 51) = some B54 := by kernel_rfl
theorem specOn_mk {H : Heap} {E : List Nat} {w : Wd} {cs : List Value} (h : RWd H E w cs) (hrg : ∀ b, b ∈ w.bodies → bdR b) (s : Int) : Mkr Try.prog 54 [.agg cs.toArray, iv s] H fun H' E' v' => RS 1 RInt H' E' v' (onW w s) := by
  have h0 := h
  obtain ⟨E1, E2, c, vb, rfl, rfl, hbk, hbd⟩ := h
  have hbk0 := hbk
  obtain ⟨vl, rfl, hl⟩ := hbk
  have x := hl.one
  have y := hbd.one
  have ac := fun L : Heap => l3ok_ac (H := H ++ L) (RWd.frm.ext h0) hrg
  obtain ⟨aL, cL, hvl⟩ := hl.form
  obtain ⟨aB, cB, hvb⟩ := hbd.form
  subst hvl
  subst hvb
  have hn1 := hl.1
  have hn2 := hbd.1
  refine Mkr.of_bodyS (N := 51) Try.func54 s54 (by kernel_rfl) rfl rfl (by simp) ?_; unfold B54
  cases hr : rightB w
  · have ho : onW w s = [] := by simp [onW, hr]
    rw [hr] at ac
    repeat (first | refine sk_seq ?_ | refine sk_block ?_ | refine sk_blk ?_ | refine sk_skip ?_ | refine sk_exit rfl ?_ | refine sk_cond_t rfl ?_ | refine sk_cond_f rfl ?_ | ((first | refine sk_reg fun K hK => ?_ | refine sk_drw mix fun K hK => ?_); simp; (repeat ((first | refine AskX.go (ac _) ?_ | refine AskD.go (ac _) ?_); simp)); refine hK _ ?_; clear hK K))
    refine sk_ret ?_; simp
    rw [ho]
    exact ⟨fun i hi => List.getElem?_append_left hi, [], ⟨by simp, .inl ⟨.inl rfl, rfl, rfl⟩⟩, ⟨List.nodup_nil, fun i hi => by simp at hi⟩, fun i hi => by simp at hi⟩
  have ho : onW w s = onN w.book.lines w.bodies s w.bodies.length := by simp [onW, hr]
  obtain ⟨r1, r2, r3, r4⟩ := rightB_all hr
  have hat : ∀ i (hi : i < w.bodies.length), LnOk (lAt w.book.lines i) ∧ bodyOk (lAt w.book.lines i) (bAt w.bodies i) = true := fun i hi => by
    rw [lAt_eq (show i < w.book.lines.length by omega), bAt_eq hi]
    exact ⟨bookOk_ln r2 (by omega), r4 i hi (by omega)⟩
  obtain ⟨_, _, hl20, _⟩ := bookOk_sec r2
  rw [hr] at ac
  rw [ho]
  repeat (first | refine sk_seq ?_ | refine sk_block ?_ | refine sk_blk ?_ | refine sk_skip ?_ | refine sk_exit rfl ?_ | refine sk_cond_t rfl ?_ | refine sk_cond_f rfl ?_ | ((first | refine sk_reg fun K hK => ?_ | refine sk_drw mix fun K hK => ?_); simp; (repeat ((first | refine AskX.go (ac _) ?_ | refine AskD.go (ac _) ?_); simp)); refine hK _ ?_; clear hK K))
  refine sk_loop (fun m ts H' => ∃ (i : Nat) (vo : Value) (A : List Nat), i ≤ w.bodies.length ∧ m = w.bodies.length - i ∧ OnI H ⟨64, [.bool w.ok, .bool w.book.ok, iv w.book.sec, .slice aL w.book.lines.length cL, .slice aB w.bodies.length cB], true, true⟩ (fun _ => False) vo (onN w.book.lines w.bodies s i) H' A ∧
      ts = [(1, iv s), (2, pt H.length 0), (5, vo), (14, .slice aB w.bodies.length cB), (15, iv w.bodies.length), (16, iv i)]) w.bodies.length _ ?_ ⟨0, nl, [], by omega, rfl, ⟨Gro.one _ _, by simp, .inl ⟨rfl, rfl, rfl⟩, ⟨List.nodup_nil, fun i hi => by simp at hi⟩, fun i hi => by simp at hi⟩, rfl⟩ ?_
  · simp [subL, getT]
  rintro m ts H1 ⟨i, vo, A, hi, rfl, hI, rfl⟩
  have hl1 := hI.g.len
  have hN := onN_len (s := s) (n := i) fun j hj => hat j (by omega)
  by_cases hlt : i < w.bodies.length
  case neg =>
    obtain rfl : i = w.bodies.length := by omega
    obtain ⟨a2, c2, hvo⟩ := hI.r.form
    have xo := hI.r.one
    repeat (first | refine sk_seq ?_ | refine sk_block ?_ | refine sk_blk ?_ | refine sk_skip ?_ | refine sk_exit rfl ?_ | refine sk_cond_t rfl ?_ | refine sk_cond_f rfl ?_ | ((first | refine sk_reg fun K hK => ?_ | refine sk_drw mix fun K hK => ?_); simp; refine hK _ ?_; clear hK K))
    refine sk_ret ?_; simp
    exact ⟨hl1, fun j hj => hI.g.same hj, A, hI.r.rs (by omega), hI.o, fun e he => by have := (hI.l e he).1; omega⟩
  have hil : i < w.book.lines.length := by omega
  obtain ⟨ib, ob, hvb, hidb, b0, b1, b2, b3⟩ := RS.bd (hbd.gro hI.g (RP.frm _)) hlt
  obtain ⟨il, ol, v1, v2, F1, F2, hvl, hidl, l0, l1, l2, l3, rw1, rg1, yo1, yo2, _⟩ := hl.line hil
  have l0 := l0.gro hI.g
  have l1 := l1.gro hI.g
  have l2 := l2.gro hI.g
  have l3 := l3.gro hI.g
  have z3 : CF H1 H.length 3 (.slice aL w.book.lines.length cL) := CF.of hI.b rfl rfl
  have hw := wrap_id (x := (i : Int) + 1) (by omega) (by omega)
  have hgz : ∀ n, H.length ≤ H1.length + n := fun n => by omega
  obtain ⟨hlo, hbo⟩ := hat i hlt
  rw [lAt_eq hil] at hlo
  rw [lAt_eq hil, bAt_eq hlt] at hbo
  have hNs : onN w.book.lines w.bodies s (i + 1) = onN w.book.lines w.bodies s i ++ onX w.book.lines[i] w.bodies[i] s i := by simp only [onN]; rw [lAt_eq hil, bAt_eq hlt]
  generalize w.bodies[i] = bx at *
  generalize w.book.lines[i] = ln at *
  obtain ⟨b, m, ht, hf, hbm, ht0, hf1⟩ := body_way hlo hbo
  rw [onX_eq ht hf] at hNs
  repeat (first | refine sk_seq ?_ | refine sk_block ?_ | refine sk_blk ?_ | refine sk_skip ?_ | refine sk_exit rfl ?_ | refine sk_cond_t rfl ?_ | refine sk_cond_f rfl ?_ | ((first | refine sk_reg fun K hK => ?_ | refine sk_drw mix fun K hK => ?_); simp [hlt, hil, hvb, hvl, b0.s, b1.s, b2.s, b3.s, l0.s, l1.s, l2.s, l3.s, z3.s, yo1, yo2, hl1, hgz]; refine hK _ ?_; clear hK K))
  obtain ⟨X, hX⟩ : ∃ X, X = H1.length := ⟨_, rfl⟩
  have hwl := hlo.w1
  have hAl := hI.o.lt
  refine sk_loop (fun m' ts H' => ∃ (d : Nat) (vo : Value) (A : List Nat), d ≤ m + 1 ∧ m' = m + 1 - d ∧ OnI H ⟨64, [.bool w.ok, .bool w.book.ok, iv w.book.sec, .slice aL w.book.lines.length cL, .slice aB w.bodies.length cB], true, true⟩ (fun e => e = X ∨ e = X + 1) vo (onN w.book.lines w.bodies s i ++ onC ln.way b s i d) H' A ∧
      H'[X]? = some ⟨72, [iv bx.ver, iv bx.cel, iv bx.tail, iv bx.front], true, true⟩ ∧ H'[X + 1]? = some ⟨43, [iv ln.gone, v1, v2, iv ln.drop], true, true⟩ ∧
      ts = [(1, iv s), (2, pt H.length 0), (5, vo), (6, iv i), (7, pt X 0), (8, pt (X + 1) 0), (9, iv (bx.tail + d)), (14, sl ib ob w.bodies.length), (15, iv w.bodies.length), (16, iv i)]) (m + 1) _ ?_ ⟨0, vo, A, by omega, rfl, ⟨hI.g.app _, by rw [List.getElem?_append_left (lt_of_get hI.b)]; exact hI.b, ?_, hI.o.ext hAl, fun e he => ⟨(hI.l e he).1, fun hh => by have := hAl e he; omega⟩⟩, ?_, ?_, rfl⟩ ?_
  · simp [subL, getT, hX]
  · rw [show onC ln.way b s i 0 = [] from rfl, List.append_nil]; exact hI.r.ext (RP.frm _)
  · rw [hX]; simp
  · rw [hX]; simp
  clear hI hAl b0 b1 b2 b3 l0 l1 l2 l3 z3
  rintro m' ts H2 ⟨d, vo, A, hd, rfl, hI, hb7, hb8, rfl⟩
  have hl2 := hI.g.len
  have b2 : CF H2 X 2 (iv bx.tail) := CF.of hb7 rfl rfl
  have b3 : CF H2 X 3 (iv bx.front) := CF.of hb7 rfl rfl
  have l0 : CF H2 (X + 1) 0 (iv ln.gone) := CF.of hb8 rfl rfl
  have l1 : CF H2 (X + 1) 1 v1 := CF.of hb8 rfl rfl
  have hcl := onC_len ln.way b s i d
  have hx8 := lt_of_get hb8
  have hwd := wrap_id (x := bx.tail + d + 1) (by omega) (by omega)
  by_cases hdm : d < m + 1
  case neg =>
    obtain rfl : d = m + 1 := by omega
    have hc : ¬ (bx.tail + ((m + 1 : Nat) : Int) ≤ bx.front) := by omega
    rw [← hNs] at hI
    generalize ((m + 1 : Nat) : Int) = M at *
    repeat (first | refine sk_seq ?_ | refine sk_block ?_ | refine sk_blk ?_ | refine sk_skip ?_ | refine sk_exit rfl ?_ | refine sk_cond_t rfl ?_ | refine sk_cond_f rfl ?_ | ((first | refine sk_reg fun K hK => ?_ | refine sk_drw mix fun K hK => ?_); simp [b3.s, hc, hw]; refine hK _ ?_; clear hK K))
    refine sk_inv ⟨w.bodies.length - (i + 1), _, by omega, ?_, i + 1, vo, A, by omega, rfl, ⟨hI.g, hI.b, hI.r, hI.o, fun e he => ⟨(hI.l e he).1, fun hh => hh⟩⟩, rfl⟩
    simp [subL, getT, hvb]
  have hc : bx.tail + (d : Int) ≤ bx.front := by omega
  have hj : b + d < ln.way.length := by omega
  have hwj : IntKind.i64.wrap (bx.tail + (d : Int) - ln.gone) = ((b + d : Nat) : Int) := by rw [wrap_id (by omega) (by omega)]; omega
  obtain ⟨iw, ow, hvw, hidw, e0⟩ := (rw1.gro hI.g (RP.frm _)).int hj
  have hgw : ln.way.getD (b + d) 0 = ln.way[b + d] := by simp [hj]
  have hN2 : onN w.book.lines w.bodies s i ++ onC ln.way b s i (d + 1) = onN w.book.lines w.bodies s i ++ onC ln.way b s i d ++ if ln.way.getD (b + d) 0 = s then [(i : Int)] else [] := by simp only [onC, List.append_assoc]
  rw [hgw] at hN2
  rw [← hgw] at e0
  rw [← hgw] at hN2
  generalize hgq : ln.way.getD (b + d) 0 = q at *
  generalize hjj : b + d = j at *
  have hjl : (j : Int) < ln.way.length := by omega
  have hdi : ((d : Int) + 1) = ((d + 1 : Nat) : Int) := by omega
  by_cases hq : q = s
  case neg =>
    rw [if_neg hq, List.append_nil] at hN2
    repeat (first | refine sk_seq ?_ | refine sk_block ?_ | refine sk_blk ?_ | refine sk_skip ?_ | refine sk_exit rfl ?_ | refine sk_cond_t rfl ?_ | refine sk_cond_f rfl ?_ | ((first | refine sk_reg fun K hK => ?_ | refine sk_drw mix fun K hK => ?_); simp [b3.s, hc, l0.s, l1.s, yo1, hwj, hvw, hj, hjl, e0.s, hq, hwd]; refine hK _ ?_; clear hK K))
    refine sk_inv ⟨m + 1 - (d + 1), _, by omega, ?_, d + 1, vo, A, by omega, rfl, by rw [hN2]; exact hI, hb7, hb8, rfl⟩
    simp [subL, getT]; omega
  subst hq
  rw [if_pos rfl] at hN2
  have hx7 := lt_of_get hb7
  obtain ⟨k, v', H3, A', e1, hwr, e4, e5, hI'⟩ := hI.app (i : Int) (fun e hh => by omega) (by simp only [List.length_append]; omega)
  rw [← hN2] at hI'
  repeat (first | refine sk_seq ?_ | refine sk_block ?_ | refine sk_blk ?_ | refine sk_skip ?_ | refine sk_exit rfl ?_ | refine sk_cond_t rfl ?_ | refine sk_cond_f rfl ?_ | ((first | refine sk_reg fun K hK => ?_ | refine sk_drw mix fun K hK => ?_); simp [b3.s, hc, l0.s, l1.s, yo1, hwj, hvw, hj, hjl, e0.s, hwd, e1, hwr, hl2]; refine hK _ ?_; clear hK K))
  refine sk_inv ⟨m + 1 - (d + 1), _, by omega, ?_, d + 1, v', A', by omega, rfl, hI', ?_, ?_, rfl⟩
  · simp [subL, getT]; omega
  · exact (e4 X (by omega) fun hh => (hI.l X hh).2 (.inl rfl)).trans hb7
  · exact (e4 (X + 1) (by omega) fun hh => (hI.l (X + 1) hh).2 (.inr rfl)).trans hb8
end Go.Proofs.Ytpoedfmkiiijnaa
