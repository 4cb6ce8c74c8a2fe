/- On of the program. A walk. -/
import Derived.Test.YtpoedfmkiiijnaaDoorWd2
import Derived.Test.YtpoedfmkiiijnaaDoorGN
namespace Go.Proofs.YtpoedfmkiiijnaaDoor
open Go Go.RowKit Go.Proofs.YtpoedfmkiiijnaaDoorAm
set_option linter.unusedVariables false
set_option linter.unusedSimpArgs false
set_option maxRecDepth 10000
set_option maxHeartbeats 8000000
/-- What On has found, so far. -/
structure OnI (H : Heap) (B : Blk) (X : Nat → Prop) (vl : Value) (ys : List Int) (H1 : Heap) (A : List Nat) : Prop where
 g : Gro H H1
 b : H1[H.length]? = some B
 r : RW 3 1 RInt H1 A vl ys
 o : Own H1 A
 l : ∀ e, e ∈ A → H.length < e ∧ ¬ X e
/-- One more is found. -/
theorem OnI.app {H : Heap} {B : Blk} {X : Nat → Prop} {vl : Value} {ys : List Int} {H1 : Heap} {A : List Nat} (h : OnI H B X vl ys H1 A) (x : Int) (hX : ∀ e, X e → e < H1.length) (hy : ys.length ≤ 100000) :
  ∃ k v' H2 A', apA Tryd.prog (H1 ++ [⟨3, [iv x], true, true⟩]) [22, 22] vl (sl H1.length 0 1) = some (k, v', H2) ∧ wrO H.length [] k ∧ (∀ i, i < H1.length → i ∉ A → H2[i]? = H1[i]?) ∧ H1.length ≤ H2.length ∧ OnI H B X v' (ys ++ [x]) H2 A' := by
 have hl := h.g.len
 have hbl := lt_of_get h.b
 obtain ⟨k, v', H3, A', e1, e2, e3, e4, e5, e6, e7⟩ := app_one (P := Tryd.prog) (t := 22) (e := 3) (sz := 0) (by' := 8) (z := iv 0) (by simp) (by simp) (by simp) (by simp) rfl (RP.frm cInt) h.r h.o (x := x) (cx := [iv x]) (Ex := []) ⟨rfl, rfl⟩ ⟨List.nodup_nil, fun i hi => by simp at hi⟩ (fun j _ hj => by simp at hj) rfl rfl (by omega) (by simp [maxLen]; omega)
 refine ⟨k, v', H3, A', e1, fun j hj => .inl (by have := (h.l j (e2 j hj).1).1; omega), e4, e3, Gro.of (by omega) fun j hj => (e4 j (by omega) fun hh => by have := (h.l j hh).1; omega).trans (h.g.same hj), (e4 _ hbl fun hh => by have := (h.l _ hh).1; omega).trans h.b, e5, e6, fun j hj => ?_⟩
 rcases e7 j hj with hh | hh | hh
 ·exact h.l j hh
 ·simp at hh
 ·exact ⟨by omega, fun hx => by have := hX j hx; omega⟩
def B17 : SC := .seq (.reg [⟨some 2, .box 42 (.tmp 0), none, []⟩, ⟨some 4, .assign (.const (.slice none 0 0)), none, []⟩]) (.seq (.seq (.reg [⟨some 11, .load 42 (.tmp 2), none, []⟩, ⟨some 12, .call ⟨.value (.func 36), #[.tmp 11], #[42]⟩, none, []⟩, ⟨some 13, .unOp .not 4 (.tmp 12), none, []⟩]) (.cond (.tmp 13) (.seq (.reg [⟨some 4, .assign (.const (.slice none 0 0)), none, []⟩]) .ret) .skip)) (.seq (.reg [⟨some 5, .assign (.const (.slice none 0 0)), none, []⟩]) (.seq (.seq (.reg [⟨some 14, .fieldAddr 42 (.tmp 2) 2, none, []⟩, ⟨some 15, .load 40 (.tmp 14), none, []⟩, ⟨some 16, .call ⟨.builtin .len, #[.tmp 15], #[40]⟩, none, []⟩, ⟨some 17, .move (.const (.int .i64 0)), none, []⟩]) (.block 0 (.loop (.seq (.reg [⟨some 18, .binOp .lss 3 (.tmp 17) (.tmp 16) 3, none, []⟩]) (.seq (.cond (.tmp 18) .skip (.exit 0)) (.seq (.block 1 (.seq (.reg [⟨some 19, .move (.tmp 17), none, []⟩, ⟨some 20, .indexAddr 40 (.tmp 15) (.tmp 17), none, []⟩, ⟨some 21, .load 47 (.tmp 20), none, []⟩, ⟨some 7, .alloc 47, none, []⟩, ⟨some 6, .assign (.tmp 19), none, []⟩, ⟨none, .store 47 (.tmp 7) (.tmp 21), none, []⟩]) (.seq (.reg [⟨some 22, .fieldAddr 42 (.tmp 2) 1, none, []⟩, ⟨some 23, .fieldAddr 39 (.tmp 22) 2, none, []⟩, ⟨some 24, .load 37 (.tmp 23), none, []⟩, ⟨some 25, .move (.tmp 6), none, []⟩, ⟨some 26, .indexAddr 37 (.tmp 24) (.tmp 25), none, []⟩, ⟨some 27, .load 50 (.tmp 26), none, []⟩, ⟨some 8, .alloc 50, none, []⟩, ⟨none, .store 50 (.tmp 8) (.tmp 27), none, []⟩]) (.seq (.reg [⟨some 28, .fieldAddr 47 (.tmp 7) 2, none, []⟩, ⟨some 29, .load 3 (.tmp 28), none, []⟩, ⟨some 9, .assign (.tmp 29), none, []⟩]) (.block 2 (.loop (.seq (.seq (.reg [⟨some 30, .move (.tmp 9), none, []⟩, ⟨some 31, .fieldAddr 47 (.tmp 7) 3, none, []⟩, ⟨some 32, .load 3 (.tmp 31), none, []⟩, ⟨some 33, .binOp .leq 3 (.tmp 30) (.tmp 32) 3, none, []⟩]) (.cond (.tmp 33) .skip (.exit 2))) (.seq (.block 3 (.seq (.reg [⟨some 36, .move (.tmp 9), none, []⟩, ⟨some 37, .fieldAddr 50 (.tmp 8) 0, none, []⟩, ⟨some 38, .load 3 (.tmp 37), none, []⟩, ⟨some 39, .binOp .sub 3 (.tmp 36) (.tmp 38) 3, none, []⟩, ⟨some 10, .assign (.tmp 39), none, []⟩]) (.seq (.reg [⟨some 40, .move (.tmp 10), none, []⟩, ⟨some 41, .fieldAddr 50 (.tmp 8) 1, none, []⟩, ⟨some 42, .load 22 (.tmp 41), none, []⟩, ⟨some 43, .call ⟨.builtin .len, #[.tmp 42], #[22]⟩, none, []⟩, ⟨some 44, .binOp .lss 3 (.tmp 40) (.tmp 43) 3, none, []⟩, ⟨some 45, .move (.tmp 44), none, []⟩, ⟨some 46, .fieldAddr 50 (.tmp 8) 1, some (45, true), []⟩, ⟨some 47, .load 22 (.tmp 46), some (45, true), []⟩, ⟨some 48, .move (.tmp 10), some (45, true), []⟩, ⟨some 49, .indexAddr 22 (.tmp 47) (.tmp 48), some (45, true), []⟩, ⟨some 50, .load 3 (.tmp 49), some (45, true), []⟩, ⟨some 51, .move (.tmp 1), some (45, true), []⟩, ⟨some 52, .binOp .eql 3 (.tmp 50) (.tmp 51) 3, some (45, true), []⟩, ⟨some 53, .pick (.tmp 45) (.tmp 52) (.const (.bool false)), none, []⟩]) (.cond (.tmp 53) (.reg [⟨some 54, .move (.tmp 5), none, []⟩, ⟨some 55, .move (.tmp 6), none, []⟩, ⟨some 56, .buildSlice 22 1 #[(0, (.tmp 55))], none, []⟩, ⟨some 57, .call ⟨.builtin .append, #[.tmp 54, .tmp 56], #[22, 22]⟩, none, []⟩, ⟨some 5, .assign (.tmp 57), none, []⟩]) .skip)))) (.reg [⟨some 34, .move (.tmp 9), none, []⟩, ⟨some 35, .binOp .add 3 (.tmp 34) (.const (.int .i64 1)) 3, none, []⟩, ⟨some 9, .assign (.tmp 35), none, []⟩]))))))))) (.reg [⟨some 58, .binOp .add 3 (.tmp 17) (.const (.int .i64 1)) 3, none, []⟩, ⟨some 17, .move (.tmp 58), none, []⟩]))))))) (.seq (.reg [⟨some 59, .move (.tmp 5), none, []⟩, ⟨some 4, .assign (.tmp 59), none, []⟩]) .ret))))
theorem s17 : Tryd.f17.body.bind (stripC 60) = some B17 := by kernel_rfl
theorem implOn_mk {H : Heap} {E : List Nat} {w : Wd} {cs : List Value} (h : RWd H E w cs) (s : Int) : Mkr Tryd.prog 17 [.agg cs.toArray, iv s] H fun H' E' v' => RS 1 RInt H' E' v' (onW w s) := by
 have h0 := h
 obtain ⟨E1, E2, c, vb, rfl, rfl, hbk, hbd⟩ := h
 have hbk0 := hbk
 obtain ⟨vl, rfl, hl⟩ := hbk
 have x := hl.one
 have y := hbd.one
 have ac := fun L : Heap => right_ac (H := H ++ L) (RWd.frm.ext h0)
 obtain ⟨aL, cL, hvl⟩ := hl.form
 obtain ⟨aB, cB, hvb⟩ := hbd.form
 subst hvl
 subst hvb
 have hn1 := hl.1
 have hn2 := hbd.1
 refine Mkr.of_bodyS (N := 60) Tryd.func17 s17 (by kernel_rfl) rfl rfl (by simp) ?_; unfold B17
 cases hr : rightB w
 ·have ho : onW w s = [] := by simp [onW, hr]
  rw [hr] at ac
  repeat (first | refine sA ?_ | refine sB ?_ | refine sC ?_ | refine sD ?_ | refine sE rfl ?_ | refine sF rfl ?_ | refine sG rfl ?_ | (refine sk_reg fun K hK => ?_; simp; (repeat ((first | refine AskX.go (ac _) ?_); simp)); refine hK _ ?_; clear hK K))
  refine sk_ret ?_; simp
  rw [ho]
  exact ⟨fun i hi => List.getElem?_append_left hi, [], ⟨by simp, .inl ⟨.inl rfl, rfl, rfl⟩⟩, ⟨List.nodup_nil, fun i hi => by simp at hi⟩, fun i hi => by simp at hi⟩
 have ho : onW w s = onN w.book.lines w.bodies s w.bodies.length := by simp [onW, hr]
 obtain ⟨r1, r2, r3, r4⟩ := rightB_all hr
 have hat : ∀ i (hi : i < w.bodies.length), LnOk (lAt w.book.lines i) ∧ bodyOk (lAt w.book.lines i) (bAt w.bodies i) = true := fun i hi => by
  rw [lAt_eq (show i < w.book.lines.length by omega), bAt_eq hi]
  exact ⟨bookOk_ln r2 (by omega), r4 i hi (by omega)⟩
 obtain ⟨_, _, hl20, _⟩ := bookOk_sec r2
 rw [hr] at ac
 rw [ho]
 repeat (first | refine sA ?_ | refine sB ?_ | refine sC ?_ | refine sD ?_ | refine sE rfl ?_ | refine sF rfl ?_ | refine sG rfl ?_ | (refine sk_reg fun K hK => ?_; simp; (repeat ((first | refine AskX.go (ac _) ?_); simp)); refine hK _ ?_; clear hK K))
 refine sk_loop (fun m ts H' => ∃ (i : Nat) (vo : Value) (A : List Nat), i ≤ w.bodies.length ∧ m = w.bodies.length - i ∧ OnI H ⟨42, [.bool w.ok, .bool w.book.ok, iv w.book.sec, .slice aL w.book.lines.length cL, .slice aB w.bodies.length cB], true, true⟩ (fun _ => False) vo (onN w.book.lines w.bodies s i) H' A ∧
   ts = [(1, iv s), (2, pt H.length 0), (5, vo), (15, .slice aB w.bodies.length cB), (16, iv w.bodies.length), (17, iv i)]) w.bodies.length _ ?_ ⟨0, nl, [], by omega, rfl, ⟨Gro.one _ _, by simp, .inl ⟨rfl, rfl, rfl⟩, ⟨List.nodup_nil, fun i hi => by simp at hi⟩, fun i hi => by simp at hi⟩, rfl⟩ ?_
 ·simp [subL, getT]
 rintro m ts H1 ⟨i, vo, A, hi, rfl, hI, rfl⟩
 have hl1 := hI.g.len
 have hN := onN_len (s := s) (n := i) fun j hj => hat j (by omega)
 by_cases hlt : i < w.bodies.length
 case neg =>
  obtain rfl : i = w.bodies.length := by omega
  obtain ⟨a2, c2, hvo⟩ := hI.r.form
  have xo := hI.r.one
  repeat (first | refine sA ?_ | refine sB ?_ | refine sC ?_ | refine sD ?_ | refine sE rfl ?_ | refine sF rfl ?_ | refine sG rfl ?_ | (refine sk_reg fun K hK => ?_; simp; refine hK _ ?_; clear hK K))
  refine sk_ret ?_; simp
  exact ⟨hl1, fun j hj => hI.g.same hj, A, hI.r.rs (by omega), hI.o, fun e he => by have := (hI.l e he).1; omega⟩
 have hil : i < w.book.lines.length := by omega
 obtain ⟨ib, ob, hvb, hidb, b0, b1, b2, b3⟩ := RS.bd (hbd.gro hI.g (RP.frm _)) hlt
 obtain ⟨il, ol, v1, v2, F1, F2, hvl, hidl, l0, l1, l2, l3, rw1, rg1, yo1, yo2, _⟩ := hl.line hil
 have l0 := l0.gro hI.g
 have l1 := l1.gro hI.g
 have l2 := l2.gro hI.g
 have l3 := l3.gro hI.g
 have z3 : CF H1 H.length 3 (.slice aL w.book.lines.length cL) := CF.of hI.b rfl rfl
 have hw := wrap_id (x := (i : Int) + 1) (by omega) (by omega)
 have hgz : ∀ n, H.length ≤ H1.length + n := fun n => by omega
 obtain ⟨hlo, hbo⟩ := hat i hlt
 rw [lAt_eq hil] at hlo
 rw [lAt_eq hil, bAt_eq hlt] at hbo
 have hNs : onN w.book.lines w.bodies s (i + 1) = onN w.book.lines w.bodies s i ++ onX w.book.lines[i] w.bodies[i] s i := by simp only [onN]; rw [lAt_eq hil, bAt_eq hlt]
 generalize w.bodies[i] = bx at *
 generalize w.book.lines[i] = ln at *
 obtain ⟨b, m, ht, hf, hbm, ht0, hf1⟩ := body_way hlo hbo
 rw [onX_eq ht hf] at hNs
 repeat (first | refine sA ?_ | refine sB ?_ | refine sC ?_ | refine sD ?_ | refine sE rfl ?_ | refine sF rfl ?_ | refine sG rfl ?_ | (refine sk_reg fun K hK => ?_; simp [hlt, hil, hvb, hvl, b0.s, b1.s, b2.s, b3.s, l0.s, l1.s, l2.s, l3.s, z3.s, yo1, yo2, hl1, hgz]; refine hK _ ?_; clear hK K))
 obtain ⟨X, hX⟩ : ∃ X, X = H1.length := ⟨_, rfl⟩
 have hwl := hlo.w1
 have hAl := hI.o.lt
 refine sk_loop (fun m' ts H' => ∃ (d : Nat) (vo : Value) (A : List Nat), d ≤ m + 1 ∧ m' = m + 1 - d ∧ OnI H ⟨42, [.bool w.ok, .bool w.book.ok, iv w.book.sec, .slice aL w.book.lines.length cL, .slice aB w.bodies.length cB], true, true⟩ (fun e => e = X ∨ e = X + 1) vo (onN w.book.lines w.bodies s i ++ onC ln.way b s i d) H' A ∧
   H'[X]? = some ⟨47, [iv bx.ver, iv bx.cel, iv bx.tail, iv bx.front], true, true⟩ ∧ H'[X + 1]? = some ⟨50, [iv ln.gone, v1, v2, iv ln.drop], true, true⟩ ∧
   ts = [(1, iv s), (2, pt H.length 0), (5, vo), (6, iv i), (7, pt X 0), (8, pt (X + 1) 0), (9, iv (bx.tail + d)), (15, sl ib ob w.bodies.length), (16, iv w.bodies.length), (17, iv i)]) (m + 1) _ ?_ ⟨0, vo, A, by omega, rfl, ⟨hI.g.app _, by rw [List.getElem?_append_left (lt_of_get hI.b)]; exact hI.b, ?_, hI.o.ext hAl, fun e he => ⟨(hI.l e he).1, fun hh => by have := hAl e he; omega⟩⟩, ?_, ?_, rfl⟩ ?_
 ·simp [subL, getT, hX]
 ·rw [show onC ln.way b s i 0 = [] from rfl, List.append_nil]; exact hI.r.ext (RP.frm _)
 ·rw [hX]; simp
 ·rw [hX]; simp
 clear hI hAl b0 b1 b2 b3 l0 l1 l2 l3 z3
 rintro m' ts H2 ⟨d, vo, A, hd, rfl, hI, hb7, hb8, rfl⟩
 have hl2 := hI.g.len
 have b2 : CF H2 X 2 (iv bx.tail) := CF.of hb7 rfl rfl
 have b3 : CF H2 X 3 (iv bx.front) := CF.of hb7 rfl rfl
 have l0 : CF H2 (X + 1) 0 (iv ln.gone) := CF.of hb8 rfl rfl
 have l1 : CF H2 (X + 1) 1 v1 := CF.of hb8 rfl rfl
 have hcl := onC_len ln.way b s i d
 have hx8 := lt_of_get hb8
 have hwd := wrap_id (x := bx.tail + d + 1) (by omega) (by omega)
 by_cases hdm : d < m + 1
 case neg =>
  obtain rfl : d = m + 1 := by omega
  have hc : ¬ (bx.tail + ((m + 1 : Nat) : Int) ≤ bx.front) := by omega
  rw [← hNs] at hI
  generalize ((m + 1 : Nat) : Int) = M at *
  repeat (first | refine sA ?_ | refine sB ?_ | refine sC ?_ | refine sD ?_ | refine sE rfl ?_ | refine sF rfl ?_ | refine sG rfl ?_ | (refine sk_reg fun K hK => ?_; simp [b3.s, hc, hw]; refine hK _ ?_; clear hK K))
  refine sk_inv ⟨w.bodies.length - (i + 1), _, by omega, ?_, i + 1, vo, A, by omega, rfl, ⟨hI.g, hI.b, hI.r, hI.o, fun e he => ⟨(hI.l e he).1, fun hh => hh⟩⟩, rfl⟩
  simp [subL, getT, hvb]
 have hc : bx.tail + (d : Int) ≤ bx.front := by omega
 have hj : b + d < ln.way.length := by omega
 have hwj : IntKind.i64.wrap (bx.tail + (d : Int) - ln.gone) = ((b + d : Nat) : Int) := by rw [wrap_id (by omega) (by omega)]; omega
 obtain ⟨iw, ow, hvw, hidw, e0⟩ := (rw1.gro hI.g (RP.frm _)).int hj
 have hgw : ln.way.getD (b + d) 0 = ln.way[b + d] := by simp [hj]
 have hN2 : onN w.book.lines w.bodies s i ++ onC ln.way b s i (d + 1) = onN w.book.lines w.bodies s i ++ onC ln.way b s i d ++ if ln.way.getD (b + d) 0 = s then [(i : Int)] else [] := by simp only [onC, List.append_assoc]
 rw [hgw] at hN2
 rw [← hgw] at e0
 rw [← hgw] at hN2
 generalize hgq : ln.way.getD (b + d) 0 = q at *
 generalize hjj : b + d = j at *
 have hjl : (j : Int) < ln.way.length := by omega
 have hdi : ((d : Int) + 1) = ((d + 1 : Nat) : Int) := by omega
 by_cases hq : q = s
 case neg =>
  rw [if_neg hq, List.append_nil] at hN2
  repeat (first | refine sA ?_ | refine sB ?_ | refine sC ?_ | refine sD ?_ | refine sE rfl ?_ | refine sF rfl ?_ | refine sG rfl ?_ | (refine sk_reg fun K hK => ?_; simp [b3.s, hc, l0.s, l1.s, yo1, hwj, hvw, hj, hjl, e0.s, hq, hwd]; refine hK _ ?_; clear hK K))
  refine sk_inv ⟨m + 1 - (d + 1), _, by omega, ?_, d + 1, vo, A, by omega, rfl, by rw [hN2]; exact hI, hb7, hb8, rfl⟩
  simp [subL, getT]; omega
 subst hq
 rw [if_pos rfl] at hN2
 have hx7 := lt_of_get hb7
 obtain ⟨k, v', H3, A', e1, hwr, e4, e5, hI'⟩ := hI.app (i : Int) (fun e hh => by omega) (by simp only [List.length_append]; omega)
 rw [← hN2] at hI'
 repeat (first | refine sA ?_ | refine sB ?_ | refine sC ?_ | refine sD ?_ | refine sE rfl ?_ | refine sF rfl ?_ | refine sG rfl ?_ | (refine sk_reg fun K hK => ?_; simp [b3.s, hc, l0.s, l1.s, yo1, hwj, hvw, hj, hjl, e0.s, hwd, e1, hwr, hl2]; refine hK _ ?_; clear hK K))
 refine sk_inv ⟨m + 1 - (d + 1), _, by omega, ?_, d + 1, v', A', by omega, rfl, hI', ?_, ?_, rfl⟩
 ·simp [subL, getT]; omega
 ·exact (e4 X (by omega) fun hh => (hI.l X hh).2 (.inl rfl)).trans hb7
 ·exact (e4 (X + 1) (by omega) fun hh => (hI.l (X + 1) hh).2 (.inr rfl)).trans hb8
end Go.Proofs.YtpoedfmkiiijnaaDoor
