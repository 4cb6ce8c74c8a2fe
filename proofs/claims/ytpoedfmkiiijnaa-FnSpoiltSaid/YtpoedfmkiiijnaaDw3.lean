/- The drawn run: l4run, Events. Walks. -/
import Derived.Test.YtpoedfmkiiijnaaDw2
import Derived.Test.YtpoedfmkiiijnaaGJ
import Derived.Test.YtpoedfmkiiijnaaGF
import Derived.Test.YtpoedfmkiiijnaaAp1
namespace Go.Proofs.Ytpoedfmkiiijnaa
open Go Go.RowKit Go.Proofs.YtpoedfmkiiijnaaAm
set_option linter.unusedVariables false
set_option linter.unusedSimpArgs false
set_option maxRecDepth 10000
set_option maxHeartbeats 8000000
/-- Between two rounds of a drawn run. -/
structure LrI (bs : List Int) (E : List Nat) (C m : Nat) (H H1 : Heap) (X : Nat) (b : Bk) (ul : Value) (Eb : List Nat) (es' : List Evt) (ve : Value) (A : List Nat) : Prop where
  c : Cur bs E C m H1
  g : GC C H H1
  x : H1[X]? = some ⟨25, [.bool b.ok, iv b.sec, ul], true, true⟩
  rb : RBk H1 Eb b [.bool b.ok, iv b.sec, ul]
  ok : bookOkB b = 0
  nb : ∀ e, e ∈ Eb → e ≠ C ∧ e ≠ X ∧ H.length < e ∧ e ∉ A
  ra : RW 49 3 REv H1 A ve es'
  oa : Own H1 A
  la : ∀ e, e ∈ A → e ≠ C ∧ X < e
  hx : H.length < X
  hc : C < H.length
theorem LrI.step {bs : List Int} {E : List Nat} {C m m' : Nat} {H H1 H2 : Heap} {X : Nat} {b : Bk} {ul : Value} {Eb : List Nat} {es' : List Evt} {ve : Value} {A : List Nat} (h : LrI bs E C m H H1 X b ul Eb es' ve A) (c : Cur bs E C m' H2) (g : GC C H1 H2) : LrI bs E C m' H H2 X b ul Eb es' ve A := by
  have hX := h.hx
  have hC := h.hc
  have bA := h.ra.bd (RP.frm _)
  exact ⟨c, h.g.trans g, g.cf h.x (by omega), g.fr RBk.frm h.rb fun e he => (h.nb e he).1, h.ok, h.nb, h.ra.fr (RP.frm _) fun i hi hl => g.s i hl (h.la i hi).1, h.oa.fr fun i hi => g.s i (bA i hi) (h.la i hi).1, h.la, h.hx, h.hc⟩
theorem LrI.gro {bs : List Int} {E : List Nat} {C m : Nat} {H H1 H2 : Heap} {X : Nat} {b : Bk} {ul : Value} {Eb : List Nat} {es' : List Evt} {ve : Value} {A : List Nat} (h : LrI bs E C m H H1 X b ul Eb es' ve A) (g : Gro H1 H2) : LrI bs E C m H H2 X b ul Eb es' ve A := h.step (h.c.gro g) (GC.of g)
/-- A block that is none of these changes. -/
theorem LrI.off {bs : List Int} {E : List Nat} {C m : Nat} {H H1 H2 : Heap} {X : Nat} {b : Bk} {ul : Value} {Eb : List Nat} {es' : List Evt} {ve : Value} {A : List Nat} (h : LrI bs E C m H H1 X b ul Eb es' ve A) (Y : Nat) (hE : ∀ e, e ∈ E → e < H.length) (hY : H.length ≤ Y) (hX : Y ≠ X) (hb : Y ∉ Eb) (ha : Y ∉ A) (hl : H1.length ≤ H2.length) (hn : ∀ i, i ≠ Y → H2[i]? = H1[i]?) : LrI bs E C m H H2 X b ul Eb es' ve A := by
  have hc := h.hc
  exact ⟨h.c.off Y (by omega) (fun hh => by have := hE _ hh; omega) hn, h.g.off Y hY hl hn, (hn X (Ne.symm hX)).trans h.x, RBk.frm.fr h.rb fun i hi _ => hn i (fun hh => hb (hh ▸ hi)), h.ok, h.nb, h.ra.fr (RP.frm _) fun i hi _ => hn i (fun hh => ha (hh ▸ hi)), h.oa.fr fun i hi => hn i (fun hh => ha (hh ▸ hi)), h.la, h.hx, h.hc⟩
def B88 : SC := .seq (.reg [⟨some 4, .assign (.const (.int .i64 0)), none, []⟩, ⟨some 5, .assign (.const (.int .i64 0)), none, []⟩, ⟨some 6, .assign (.const (.slice none 0 0)), none, []⟩, ⟨some 7, .alloc 25, none, []⟩]) (.seq (.reg [⟨some 15, .move (.tmp 0), none, []⟩, ⟨some 16, .call { callee := (.value (.func 113)), args := #[(.tmp 15), (.const (.int .i64 12))], argTypes := #[116, 3] }, none, []⟩, ⟨some 17, .binOp .add 3 (.const (.int .i64 1)) (.tmp 16) 3, none, []⟩, ⟨some 8, .assign (.tmp 17), none, []⟩]) (.seq (.reg [⟨some 18, .move (.tmp 0), none, []⟩, ⟨some 19, .call { callee := (.value (.func 113)), args := #[(.tmp 18), (.const (.int .i64 5))], argTypes := #[116, 3] }, none, []⟩, ⟨some 9, .assign (.tmp 19), none, []⟩]) (.seq (.reg [⟨some 20, .move (.tmp 8), none, []⟩, ⟨some 21, .move (.tmp 9), none, []⟩, ⟨some 22, .call { callee := (.value (.func 20)), args := #[(.tmp 20), (.tmp 21)], argTypes := #[3, 3] }, none, []⟩, ⟨some 10, .alloc 25, none, []⟩, ⟨none, .store 25 (.tmp 10) (.tmp 22), none, []⟩]) (.seq (.reg [⟨some 11, .assign (.const (.slice none 0 0)), none, []⟩]) (.seq (.seq (.reg [⟨some 23, .move (.tmp 0), none, []⟩, ⟨some 24, .move (.tmp 1), none, []⟩, ⟨some 25, .call { callee := (.value (.func 113)), args := #[(.tmp 23), (.tmp 24)], argTypes := #[116, 3] }, none, []⟩, ⟨some 12, .assign (.tmp 25), none, []⟩]) (.block 0 (.loop (.seq (.seq (.reg [⟨some 26, .move (.tmp 12), none, []⟩, ⟨some 27, .binOp .gtr 3 (.tmp 26) (.const (.int .i64 0)) 3, none, []⟩]) (.cond (.tmp 27) .skip (.exit 0))) (.seq (.block 1 (.seq (.reg [⟨some 30, .move (.tmp 0), none, []⟩, ⟨some 31, .load 25 (.tmp 10), none, []⟩, ⟨some 32, .call { callee := (.value (.func 124)), args := #[(.tmp 30), (.tmp 31)], argTypes := #[116, 25] }, none, []⟩, ⟨some 13, .alloc 49, none, []⟩, ⟨none, .store 49 (.tmp 13) (.tmp 32), none, []⟩]) (.seq (.seq (.reg [⟨some 33, .move (.tmp 0), none, []⟩, ⟨some 34, .call { callee := (.value (.func 113)), args := #[(.tmp 33), (.const (.int .i64 30))], argTypes := #[116, 3] }, none, []⟩, ⟨some 35, .binOp .eql 3 (.tmp 34) (.const (.int .i64 0)) 3, none, []⟩]) (.cond (.tmp 35) (.reg [⟨some 36, .move (.tmp 0), none, []⟩, ⟨some 37, .call { callee := (.value (.func 125)), args := #[(.tmp 36)], argTypes := #[116] }, none, []⟩, ⟨none, .store 49 (.tmp 13) (.tmp 37), none, []⟩]) .skip)) (.seq (.reg [⟨some 38, .load 25 (.tmp 10), none, []⟩, ⟨some 39, .load 49 (.tmp 13), none, []⟩, ⟨some 40, .call { callee := (.value (.func 58)), args := #[(.tmp 38), (.tmp 39)], argTypes := #[25, 49] }, none, []⟩, ⟨some 14, .alloc 39, none, []⟩, ⟨none, .store 39 (.tmp 14) (.tmp 40), none, []⟩]) (.seq (.seq (.reg [⟨some 41, .fieldAddr 39 (.tmp 14) 0, none, []⟩, ⟨some 42, .load 3 (.tmp 41), none, []⟩, ⟨some 43, .binOp .neq 3 (.tmp 42) (.const (.int .i64 1)) 3, none, []⟩]) (.cond (.tmp 43) (.reg [⟨some 44, .fieldAddr 39 (.tmp 14) 1, none, []⟩, ⟨some 45, .load 25 (.tmp 44), none, []⟩, ⟨none, .store 25 (.tmp 10) (.tmp 45), none, []⟩]) .skip)) (.reg [⟨some 46, .move (.tmp 11), none, []⟩, ⟨some 47, .load 49 (.tmp 13), none, []⟩, ⟨some 48, .buildSlice 31 1 #[(0, (.tmp 47))], none, []⟩, ⟨some 49, .call { callee := (.builtin .append), args := #[(.tmp 46), (.tmp 48)], argTypes := #[31, 31] }, none, []⟩, ⟨some 11, .assign (.tmp 49), none, []⟩])))))) (.reg [⟨some 28, .move (.tmp 12), none, []⟩, ⟨some 29, .binOp .sub 3 (.tmp 28) (.const (.int .i64 1)) 3, none, []⟩, ⟨some 12, .assign (.tmp 29), none, []⟩])))))) (.seq (.drw 0 [⟨some 50, .move (.tmp 8), none, []⟩, ⟨some 51, .move (.tmp 9), none, []⟩, ⟨some 52, .move (.tmp 11), none, []⟩, ⟨some 53, .load 25 (.tmp 10), none, []⟩, ⟨some 4, .assign (.tmp 50), none, [0]⟩, ⟨some 5, .assign (.tmp 51), none, [1, 4, 0]⟩, ⟨some 6, .assign (.tmp 52), none, [2, 5, 1, 4, 0]⟩, ⟨none, .store 25 (.tmp 7) (.tmp 53), none, [3, 6, 2, 5, 1, 4, 0]⟩]) .ret))))))
theorem s88 : Try.f88.body.bind (stripC 54) = some B88 := by kernel_rfl
theorem l4run_ac {H : Heap} {bs : List Int} {E : List Nat} {C m : Nat} (h : Cur bs E C m H) (hm : m ≤ 1000000) (n : Nat) (hn : n ≤ 100) :
    ∃ v H', AC Try.prog 88 [pt C 0, iv n] H v H' [C] ∧ ∃ (s t : Int) (es' : List Evt) (ve : Value) (A : List Nat) (b : Bk) (ul : Value) (Eb : List Nat), v = .tuple #[iv s, iv t, ve, .agg #[.bool b.ok, iv b.sec, ul]] ∧ 1 ≤ s ∧ s ≤ 12 ∧ 0 ≤ t ∧ t ≤ 4 ∧ RS 3 REv H' A ve es' ∧ es'.length ≤ 100 ∧ bookOkB b = 0 ∧ RBk H' Eb b [.bool b.ok, iv b.sec, ul] ∧ Cur bs E C (m + 5000) H' ∧ GC C H H' ∧ (∀ e, e ∈ A → H.length ≤ e) ∧ (∀ e, e ∈ Eb → H.length ≤ e) ∧ Own H' A := by
  have hCl := h.lt
  have hEl := h.bd
  refine AC.of_bodyS (N := 54) Try.func88 s88 (by kernel_rfl) rfl rfl (by simp) ?_; unfold B88
  repeat (first | refine sA ?_ | refine sB ?_ | refine sC ?_ | refine sD ?_ | refine sE rfl ?_ | refine sF rfl ?_ | refine sG rfl ?_ | ((first | refine sk_reg fun K hK => ?_ | refine sk_drw mix fun K hK => ?_); simp; refine hK _ ?_; clear hK K))
  refine sk_at [(0, pt C 0), (1, iv n), (7, pt H.length 0)] (fun H0 => Cur bs E C m H0 ∧ GC C H H0 ∧ H0[H.length]? = some ⟨25, [.bool false, iv 0, nl], true, true⟩) (by simp [subL, getT]) ⟨h.gro (Gro.one _ _), GC.of (Gro.one _ _), by simp⟩ ?_
  rintro H0 ⟨h0, g0, b0⟩
  have hH0 : H.length < H0.length := lt_of_get b0
  obtain ⟨_, H1, ac1, x, rfl, x0, x1, _, h1, g1⟩ := pick_ac h0 (by omega) 12
  obtain ⟨_, H2, ac2, y, rfl, y0, y1, _, h2, g2⟩ := pick_ac h1 (by omega) 5
  have hx := x1 (by omega)
  have hy := y1 (by omega)
  obtain ⟨s, hs⟩ : ∃ s, s = 1 + x := ⟨_, rfl⟩
  have hs12 : 1 ≤ s ∧ s ≤ 12 := by omega
  have hw1 : IntKind.i64.wrap (1 + x) = s := by rw [hs]; exact wrap_id (by omega) (by omega)
  have hbk : bookOkB (beginB s y) = 0 := begin_ok (by unfold beginB; rw [if_pos (by simp [inB]; omega)])
  repeat (first | refine sA ?_ | refine sB ?_ | refine sC ?_ | refine sD ?_ | refine sE rfl ?_ | refine sF rfl ?_ | refine sG rfl ?_ | ((first | refine sk_reg fun K hK => ?_ | refine sk_drw mix fun K hK => ?_); simp [hw1]; (repeat ((first | refine AskX.go (ac1) ?_ | refine AskD.go (ac1) ?_ | refine AskX.go (ac2) ?_ | refine AskD.go (ac2) ?_); simp [hw1])); refine hK _ ?_; clear hK K))
  refine sk_reg fun K hK => ?_; simp
  refine AskX.mkr (specBegin_mk s y) ?_; rintro _ J1 Eb ⟨_, rfl, ul, rfl, rl⟩ o1 n1; simp
  have hl02 : H0.length ≤ H2.length := Nat.le_trans g1.l g2.l
  have hz2 : ∀ n, H.length ≤ H2.length + n := fun n => by omega
  simp [rl.one, rl.cv, hz2]
  refine hK _ ?_; clear hK K
  have o1l := o1.lt
  obtain ⟨X, hX⟩ : ∃ X, X = H2.length + J1.length := ⟨_, rfl⟩
  refine sk_at [(0, pt C 0), (1, iv n), (7, pt H.length 0), (8, iv s), (9, iv y), (10, pt X 0)] (fun Hx => LrI bs E C (m + 4) H Hx X (beginB s y) ul Eb [] nl [] ∧ Hx[H.length]? = some ⟨25, [.bool false, iv 0, nl], true, true⟩) (by simp [subL, getT, hX]) ?_ ?_
  · have b2 := g2.cf (g1.cf b0 (by omega)) (by omega)
    refine ⟨⟨h2.gro (Gro.one _ _), ((g0.trans g1).trans g2).trans (GC.of (Gro.one _ _)), ?_, ?_, hbk, fun e he => ?_, .inl ⟨rfl, rfl, rfl⟩, ⟨List.nodup_nil, fun i hi => by simp at hi⟩, fun e he => by simp at he, by omega, hCl⟩, ?_⟩
    · rw [hX, List.getElem?_append_right (by omega), Nat.add_sub_cancel_left]
      simp
    · exact RBk.frm.gro (H := H2 ++ J1) ⟨ul, rfl, rl⟩ (by first | exact Gro.refl _ | exact ⟨_, rfl⟩ | exact ⟨_, by simp only [List.append_assoc, List.cons_append, List.nil_append]; rfl⟩ | exact ⟨[], by simp⟩)
    · have h3 := n1 e he
      have h4 := o1l e he
      simp only [List.length_append] at h4
      exact ⟨by omega, by omega, by omega, by simp⟩
    · exact (List.getElem?_append_left (lt_of_get b2)).trans b2
  clear ac1 ac2 x0 x1 y1 h1 h2 g1 g2 rl o1 n1 o1l h0 g0 b0
  rintro H3 ⟨hI, b7⟩
  obtain ⟨_, H4, ac1, j0, rfl, j00, j01, j02, h4, g4⟩ := pick_ac hI.c (by omega) (n : Int)
  have hI4 := hI.step h4 g4
  have b74 := g4.cf b7 (by omega)
  obtain ⟨N, rfl⟩ : ∃ N : Nat, j0 = N := ⟨j0.toNat, by omega⟩
  have hN : N ≤ 100 := by
    by_cases q : 1 ≤ (n : Int)
    · have := j01 q; omega
    · have := j02 (by omega); omega
  repeat (first | refine sA ?_ | refine sB ?_ | refine sC ?_ | refine sD ?_ | refine sE rfl ?_ | refine sF rfl ?_ | refine sG rfl ?_ | ((first | refine sk_reg fun K hK => ?_ | refine sk_drw mix fun K hK => ?_); simp; (repeat ((first | refine AskX.go (ac1) ?_ | refine AskD.go (ac1) ?_); simp)); refine hK _ ?_; clear hK K))
  refine sk_loop (fun t ts H' => ∃ (j : Nat) (b : Bk) (ul : Value) (Eb : List Nat) (es' : List Evt) (ve : Value) (A : List Nat), j ≤ N ∧ t = j ∧ LrI bs E C (m + 10 + 40 * (N - j)) H H' X b ul Eb es' ve A ∧ es'.length = N - j ∧ H'[H.length]? = some ⟨25, [.bool false, iv 0, nl], true, true⟩ ∧ ts = [(0, pt C 0), (7, pt H.length 0), (8, iv s), (9, iv y), (10, pt X 0), (11, ve), (12, iv j)]) N _ ?_ ⟨N, beginB s y, ul, Eb, [], nl, [], by omega, rfl, ?_, by simp, b74, rfl⟩ ?_
  · simp [subL, getT]
  · rw [Nat.sub_self]; exact hI4.step (hI4.c.mono (by omega)) (GC.refl _ _)
  clear hI hI4 b7 b74 ac1 h4 g4 hbk
  rintro j ts H5 ⟨_, b, ul, Eb, es', ve, A, hj, rfl, hI, hel, b7, rfl⟩
  have hl5 := hI.g.l
  have hhx := hI.hx
  have wX : ∀ n, H.length ≤ X + n := fun n => by omega
  have x0 : CF H5 X 0 (.bool b.ok) := CF.of hI.x rfl rfl
  have x1 : CF H5 X 1 (iv b.sec) := CF.of hI.x rfl rfl
  have x2 : CF H5 X 2 ul := CF.of hI.x rfl rfl
  obtain ⟨_, hul, hll⟩ := hI.rb
  simp only [List.cons.injEq, true_and, and_true] at hul
  subst hul
  have xu := hll.one
  have yu := hll.cv
  by_cases hj0 : j = 0
  · subst hj0
    have c0 : CF H5 H.length 0 (.bool false) := CF.of b7 rfl rfl
    have c1 : CF H5 H.length 1 (iv 0) := CF.of b7 rfl rfl
    have c2 : CF H5 H.length 2 nl := CF.of b7 rfl rfl
    have cr := RF.of b7
    obtain ⟨av, cv, rfl⟩ := hI.ra.form
    have lv : H5.live C = true := hI.c.live
    repeat (first | refine sA ?_ | refine sB ?_ | refine sC ?_ | refine sD ?_ | refine sE rfl ?_ | refine sF rfl ?_ | refine sG rfl ?_ | ((first | refine sk_reg fun K hK => ?_ | refine sk_drw mix fun K hK => ?_); simp [x0.s, x1.s, x2.s, c0.s, c1.s, c2.s, cr.s, xu, yu, lv]; refine hK _ ?_; clear hK K))
    refine sk_ret ?_; simp [c0.s, c1.s, c2.s]
    have hnp : ∀ i, i ≠ H.length → ((((H5.put H.length 0 (.bool b.ok)).put H.length 1 (iv b.sec)).put H.length 2 ul) : Heap)[i]? = H5[i]? := fun i hi => by rw [get_put_ne _ _ _ hi, get_put_ne _ _ _ hi, get_put_ne _ _ _ hi]
    have hI' := hI.off H.length hEl (Nat.le_refl _) (by omega) (fun hh => by have := (hI.nb _ hh).2.2.1; omega) (fun hh => by have := (hI.la _ hh).2; omega) (H2 := (((H5.put H.length 0 (.bool b.ok)).put H.length 1 (iv b.sec)).put H.length 2 ul)) (by simp only [length_put]; omega) hnp
    exact ⟨s, y, es', _, A, b, ul, ⟨rfl, rfl, rfl, rfl, rfl, rfl⟩, by omega, by omega, by omega, by omega, hI'.ra.rs (by omega), by omega, hI'.ok, Eb, hI'.rb, hI'.c.mono (by omega), hI'.g, fun e he => by have := (hI'.la e he).2; omega, fun e he => by have := (hI'.nb e he).2.2.1; omega, hI'.oa⟩
  have hjz : 0 < j := by omega
  obtain ⟨_, H6, ac1, e, rfl, h6, g6⟩ := event_ac hI.c (by omega) hI.rb (fun e he => (hI.nb e he).1) hI.ok
  have hI6 := hI.step h6 g6
  have b76 := g6.cf b7 (by omega)
  have hl6 := hI6.g.l
  repeat (first | refine sA ?_ | refine sB ?_ | refine sC ?_ | refine sD ?_ | refine sE rfl ?_ | refine sF rfl ?_ | refine sG rfl ?_ | ((first | refine sk_reg fun K hK => ?_ | refine sk_drw mix fun K hK => ?_); simp [hjz, x0.s, x1.s, x2.s, xu, yu, hl6]; (repeat ((first | refine AskX.go (ac1) ?_ | refine AskD.go (ac1) ?_); simp [hjz, x0.s, x1.s, x2.s, xu, yu, hl6])); refine hK _ ?_; clear hK K))
  obtain ⟨Y, hY⟩ : ∃ Y, Y = H6.length := ⟨_, rfl⟩
  have bA := hI6.ra.bd (RP.frm _)
  have bE := RBk.frm.bd hI6.rb
  have bX := lt_of_get hI6.x
  refine sk_at [(0, pt C 0), (7, pt H.length 0), (8, iv s), (9, iv y), (10, pt X 0), (11, ve), (12, iv j), (13, pt Y 0)] (fun Hx => LrI bs E C (m + 10 + 40 * (N - j) + 24) H Hx X b ul Eb es' ve A ∧ Hx[H.length]? = some ⟨25, [.bool false, iv 0, nl], true, true⟩ ∧ Hx[Y]? = some ⟨49, [iv e.op, iv e.train, iv e.n], true, true⟩) (by simp [subL, getT, hY]) ⟨hI6.gro (Gro.one _ _), (List.getElem?_append_left (lt_of_get b76)).trans b76, by rw [hY]; simp⟩ ?_
  have hYl : H.length ≤ Y := by omega
  have hYC : Y ≠ C := by omega
  have hYX : Y ≠ X := by omega
  have hYA : Y ∉ A := fun hh => by have := bA _ hh; omega
  have hYE : Y ∉ Eb := fun hh => by have := bE _ hh; omega
  have hY7 : Y ≠ H.length := by omega
  have wY : ∀ n, H.length ≤ Y + n := fun n => by omega
  clear hI6 b76 bA bE bX ac1 h6 g6 hI b7 x0 x1 x2 hll hl5 hl6
  rintro H7 ⟨hI, b7, by7⟩
  obtain ⟨_, H8, ac1, z, rfl, z0, z1, _, h8, g8⟩ := pick_ac hI.c (by omega) 30
  have hI8 := hI.step h8 g8
  have b78 := g8.cf b7 (by omega)
  have by8 := g8.cf by7 hYC
  repeat refine sk_seq ?_
  refine sk_reg fun K hK => ?_; simp
  refine AskX.go (ac1) ?_; simp
  refine hK _ ?_; clear hK K
  refine sk_cut [(0, pt C 0), (7, pt H.length 0), (8, iv s), (9, iv y), (10, pt X 0), (11, ve), (12, iv j), (13, pt Y 0)] (fun Hx => ∃ e : Evt, LrI bs E C (m + 10 + 40 * (N - j) + 34) H Hx X b ul Eb es' ve A ∧ Hx[H.length]? = some ⟨25, [.bool false, iv 0, nl], true, true⟩ ∧ Hx[Y]? = some ⟨49, [iv e.op, iv e.train, iv e.n], true, true⟩) ?_ ?_
  · by_cases hz : z = 0
    · obtain ⟨_, H9, ac2, e', rfl, h9, g9⟩ := odd_ac hI8.c (by omega)
      have hI9 := hI8.step h9 g9
      have b79 := g9.cf b78 (by omega)
      have by9 := g9.cf by8 hYC
      have c0 : CF H9 Y 0 (iv e.op) := CF.of by9 rfl rfl
      have c1 : CF H9 Y 1 (iv e.train) := CF.of by9 rfl rfl
      have c2 : CF H9 Y 2 (iv e.n) := CF.of by9 rfl rfl
      have cr := RF.of by9
      rw [decide_eq_true hz]
      repeat (first | refine sA ?_ | refine sB ?_ | refine sC ?_ | refine sD ?_ | refine sE rfl ?_ | refine sF rfl ?_ | refine sG rfl ?_ | ((first | refine sk_reg fun K hK => ?_ | refine sk_drw mix fun K hK => ?_); simp [c0.s, c1.s, c2.s, cr.s, hYl, wY]; (repeat ((first | refine AskX.go (ac2) ?_ | refine AskD.go (ac2) ?_); simp [c0.s, c1.s, c2.s, cr.s, hYl, wY])); refine hK _ ?_; clear hK K))
      have hnp : ∀ i, i ≠ Y → ((((H9.put Y 0 (iv e'.op)).put Y 1 (iv e'.train)).put Y 2 (iv e'.n)) : Heap)[i]? = H9[i]? := fun i hi => by rw [get_put_ne _ _ _ hi, get_put_ne _ _ _ hi, get_put_ne _ _ _ hi]
      have hI' := hI9.off Y hEl hYl hYX hYE hYA (H2 := (((H9.put Y 0 (iv e'.op)).put Y 1 (iv e'.train)).put Y 2 (iv e'.n))) (by simp only [length_put]; omega) hnp
      refine sk_inv ⟨by simp [subL, getT], e', hI'.step (hI'.c.mono (by omega)) (GC.refl _ _), (hnp _ (Ne.symm hY7)).trans b79, by rw [get_put, get_put, get_put, by9]; rfl⟩
    · rw [decide_eq_false hz]
      repeat (first | refine sA ?_ | refine sB ?_ | refine sC ?_ | refine sD ?_ | refine sE rfl ?_ | refine sF rfl ?_ | refine sG rfl ?_ | ((first | refine sk_reg fun K hK => ?_ | refine sk_drw mix fun K hK => ?_); simp; refine hK _ ?_; clear hK K))
      refine sk_inv ⟨by simp [subL, getT], e, hI8.step (hI8.c.mono (by omega)) (GC.refl _ _), b78, by8⟩
  clear hI hI8 b7 b78 by7 by8 ac1 h8 g8 z0 z1
  rintro H9 ⟨e, hI, b7, by7⟩
  have hl9 := hI.g.l
  have hz9 : ∀ n, H.length ≤ H9.length + n := fun n => by omega
  have x0 : CF H9 X 0 (.bool b.ok) := CF.of hI.x rfl rfl
  have x1 : CF H9 X 1 (iv b.sec) := CF.of hI.x rfl rfl
  have x2 : CF H9 X 2 ul := CF.of hI.x rfl rfl
  have c0 : CF H9 Y 0 (iv e.op) := CF.of by7 rfl rfl
  have c1 : CF H9 Y 1 (iv e.train) := CF.of by7 rfl rfl
  have c2 : CF H9 Y 2 (iv e.n) := CF.of by7 rfl rfl
  repeat refine sk_seq ?_
  refine sk_reg fun K hK => ?_; simp [x0.s, x1.s, x2.s, c0.s, c1.s, c2.s, xu, yu]
  refine AskX.mkr (specDo_mk (RBk.frm.gro hI.rb (by first | exact Gro.refl _ | exact ⟨_, rfl⟩ | exact ⟨_, by simp only [List.append_assoc, List.cons_append, List.nil_append]; rfl⟩ | exact ⟨[], by simp⟩)) e) ?_; rintro _ J3 A3 ⟨_, rfl, _, rfl, wl, rfl, r3⟩ o3 n3; simp [xu, yu, x0.s, x1.s, x2.s, c0.s, c1.s, c2.s]
  simp [r3.one, r3.cv, hl9, hz9]
  refine hK _ ?_; clear hK K
  obtain ⟨Z, hZ⟩ : ∃ Z, Z = H9.length + J3.length := ⟨_, rfl⟩
  have o3l := o3.lt
  have xw := r3.one
  have yw := r3.cv
  have bA := hI.ra.bd (RP.frm _)
  have bX := lt_of_get hI.x
  generalize hD : doB b e = D at *
  refine sk_at [(0, pt C 0), (7, pt H.length 0), (8, iv s), (9, iv y), (10, pt X 0), (11, ve), (12, iv j), (13, pt Y 0), (14, pt Z 0)] (fun Hx => LrI bs E C (m + 10 + 40 * (N - j) + 34) H Hx X b ul Eb es' ve A ∧ Hx[H.length]? = some ⟨25, [.bool false, iv 0, nl], true, true⟩ ∧ Hx[Y]? = some ⟨49, [iv e.op, iv e.train, iv e.n], true, true⟩ ∧ Hx[Z]? = some ⟨39, [iv D.code, .bool D.book.ok, iv D.book.sec, wl], true, true⟩ ∧ RBk Hx A3 D.book [.bool D.book.ok, iv D.book.sec, wl]) (by simp [subL, getT, hZ]) ?_ ?_
  · refine ⟨hI.gro (Gro.one _ _), (List.getElem?_append_left (lt_of_get b7)).trans b7, (List.getElem?_append_left (lt_of_get by7)).trans by7, ?_, RBk.frm.gro (H := H9 ++ J3) ⟨wl, rfl, r3⟩ (by first | exact Gro.refl _ | exact ⟨_, rfl⟩ | exact ⟨_, by simp only [List.append_assoc, List.cons_append, List.nil_append]; rfl⟩ | exact ⟨[], by simp⟩)⟩
    rw [hZ, List.getElem?_append_right (by omega), Nat.add_sub_cancel_left]
    simp
  have n3' : ∀ e, e ∈ A3 → e ≠ C ∧ e ≠ X ∧ H.length < e ∧ e ∉ A := fun e he => by
    have h1 := n3 e he
    have hc := hI.hc
    have hx := hI.hx
    exact ⟨by omega, by omega, by omega, fun hh => by have := bA _ hh; omega⟩
  clear hI b7 by7 x0 x1 x2 c0 c1 c2 r3 o3 n3 o3l bA
  rintro H10 ⟨hI, b7, by7, bz, r3⟩
  have x0 : CF H10 X 0 (.bool b.ok) := CF.of hI.x rfl rfl
  have x1 : CF H10 X 1 (iv b.sec) := CF.of hI.x rfl rfl
  have x2 : CF H10 X 2 ul := CF.of hI.x rfl rfl
  have xr := RF.of hI.x
  have z0 : CF H10 Z 0 (iv D.code) := CF.of bz rfl rfl
  have z1 : CF H10 Z 1 (.bool D.book.ok) := CF.of bz rfl rfl
  have z2 : CF H10 Z 2 (iv D.book.sec) := CF.of bz rfl rfl
  have z3 : CF H10 Z 3 wl := CF.of bz rfl rfl
  refine sk_seq ?_
  refine sk_cut [(0, pt C 0), (7, pt H.length 0), (8, iv s), (9, iv y), (10, pt X 0), (11, ve), (12, iv j), (13, pt Y 0)] (fun Hx => ∃ (b : Bk) (ul : Value) (Eb : List Nat), LrI bs E C (m + 10 + 40 * (N - j) + 34) H Hx X b ul Eb es' ve A ∧ Hx[H.length]? = some ⟨25, [.bool false, iv 0, nl], true, true⟩ ∧ Hx[Y]? = some ⟨49, [iv e.op, iv e.train, iv e.n], true, true⟩) ?_ ?_
  · by_cases hc : D.code = 1
    · repeat (first | refine sA ?_ | refine sB ?_ | refine sC ?_ | refine sD ?_ | refine sE rfl ?_ | refine sF rfl ?_ | refine sG rfl ?_ | ((first | refine sk_reg fun K hK => ?_ | refine sk_drw mix fun K hK => ?_); simp [z0.s, hc]; refine hK _ ?_; clear hK K))
      refine sk_inv ⟨by simp [subL, getT], b, ul, Eb, hI, b7, by7⟩
    · have hok : bookOkB D.book = 0 := by rw [← hD] at hc ⊢; exact doB_ok hc
      have hXl0 : H.length ≤ X := by omega
      repeat (first | refine sA ?_ | refine sB ?_ | refine sC ?_ | refine sD ?_ | refine sE rfl ?_ | refine sF rfl ?_ | refine sG rfl ?_ | ((first | refine sk_reg fun K hK => ?_ | refine sk_drw mix fun K hK => ?_); simp [z0.s, z1.s, z2.s, z3.s, x0.s, x1.s, x2.s, xr.s, hc, xw, yw, wX, hXl0]; refine hK _ ?_; clear hK K))
      have hnp : ∀ i, i ≠ X → ((((H10.put X 0 (.bool D.book.ok)).put X 1 (iv D.book.sec)).put X 2 wl) : Heap)[i]? = H10[i]? := fun i hi => by rw [get_put_ne _ _ _ hi, get_put_ne _ _ _ hi, get_put_ne _ _ _ hi]
      have hXC : X ≠ C := by have := hI.hc; omega
      have hxA : X ∉ A := fun hh => by have := (hI.la _ hh).2; omega
      refine sk_inv ⟨by simp [subL, getT], D.book, wl, A3, ⟨hI.c.off X hXC (fun hh => by have := hEl _ hh; omega) hnp, hI.g.off X hXl0 (by simp only [length_put]; omega) hnp, by rw [get_put, get_put, get_put, hI.x]; rfl, RBk.frm.fr r3 fun i hi _ => hnp i (n3' i hi).2.1, hok, n3', hI.ra.fr (RP.frm _) fun i hi _ => hnp i (fun hh => hxA (hh ▸ hi)), hI.oa.fr fun i hi => hnp i (fun hh => hxA (hh ▸ hi)), hI.la, hI.hx, hI.hc⟩, (hnp _ (by omega)).trans b7, (hnp _ hYX).trans by7⟩
  clear hI b7 by7 bz r3 x0 x1 x2 xr z0 z1 z2 z3 xu yu
  rintro H11 ⟨b, ul, Eb, hI, b7, by7⟩
  have hl11 := hI.g.l
  have c0 : CF H11 Y 0 (iv e.op) := CF.of by7 rfl rfl
  have c1 : CF H11 Y 1 (iv e.train) := CF.of by7 rfl rfl
  have c2 : CF H11 Y 2 (iv e.n) := CF.of by7 rfl rfl
  have bA := hI.ra.bd (RP.frm _)
  obtain ⟨k', v', H12, A', e1, e2, e3, e4, e5, e6, e7⟩ := app_one (P := Try.prog) (t := 31) (e := 49) (sz := 2) (by' := 24) (z := .agg #[iv 0, iv 0, iv 0]) (by simp) (by simp) (by simp) (by simp) rfl (RP.frm cEv) hI.ra hI.oa (x := e) (cx := [iv e.op, iv e.train, iv e.n]) (Ex := []) ⟨rfl, rfl⟩ ⟨List.nodup_nil, fun i hi => by simp at hi⟩ (fun j _ hj => by simp at hj) rfl rfl (by omega) (by simp [maxLen]; omega)
  have hwr : wrO H.length [C] k' := fun i hi => .inl (by have := (hI.la i (e2 i hi).1).2; have := hI.hx; omega)
  have hwj : IntKind.i64.wrap ((j : Int) - 1) = ((j - 1 : Nat) : Int) := by rw [wrap_id (by omega) (by omega)]; omega
  repeat (first | refine sA ?_ | refine sB ?_ | refine sC ?_ | refine sD ?_ | refine sE rfl ?_ | refine sF rfl ?_ | refine sG rfl ?_ | ((first | refine sk_reg fun K hK => ?_ | refine sk_drw mix fun K hK => ?_); simp [c0.s, c1.s, c2.s, e1, hwr, hl11, hwj]; refine hK _ ?_; clear hK K))
  have hhx := hI.hx
  have hhc := hI.hc
  have hs : ∀ i, i < H11.length → i ∉ A → H12[i]? = H11[i]? := fun i hi ha => e4 i hi ha
  have bE := RBk.frm.bd hI.rb
  have hcl := lt_of_get hI.x
  refine sk_inv ⟨j - 1, _, by omega, ?_, j - 1, b, ul, Eb, es' ++ [e], v', A', by omega, rfl, ⟨?_, ⟨by show H.length ≤ H12.length; omega, fun i hi hc => (hs i (by omega) fun hh => by have := (hI.la i hh).2; omega).trans (hI.g.s i hi hc)⟩, (hs X hcl fun hh => by have := (hI.la X hh).2; omega).trans hI.x, RBk.frm.fr hI.rb fun i hi hl => hs i hl (hI.nb i hi).2.2.2, hI.ok, fun i hi => ⟨(hI.nb i hi).1, (hI.nb i hi).2.1, (hI.nb i hi).2.2.1, fun hh => ?_⟩, e5, e6, fun i hi => ?_, hhx, hhc⟩, ?_, (hs _ (by omega) fun hh => by have := (hI.la _ hh).2; omega).trans b7, rfl⟩
  · simp [subL, getT]
  · obtain ⟨a1, c1, t, s', h1, h2, h3, h4⟩ := hI.c
    exact ⟨a1, c1, t, s', (hs C (by omega) fun hh => (hI.la C hh).1 rfl).trans h1, by omega, h3.fr (RPp.frm _ _) fun i hi hl => hs i hl fun hh => by have := (hI.la i hh).2; have := hEl i hi; omega, h4⟩
  · rcases e7 i hh with h | h | h
    · exact (hI.nb i hi).2.2.2 h
    · simp at h
    · have := bE i hi; omega
  · rcases e7 i hi with h | h | h
    · exact hI.la i h
    · simp at h
    · omega
  · simp only [List.length_append, List.length_cons, List.length_nil]; omega
def B25 : SC := .seq (.reg [⟨some 2, .assign (.const (.int .i64 0)), none, []⟩, ⟨some 3, .assign (.const (.int .i64 0)), none, []⟩, ⟨some 4, .assign (.const (.slice none 0 0)), none, []⟩]) (.seq (.reg [⟨some 10, .move (.tmp 0), none, []⟩, ⟨some 11, .build 119 #[(0, (.tmp 10))], none, []⟩, ⟨some 12, .box 119 (.tmp 11), none, []⟩, ⟨some 5, .assign (.tmp 12), none, []⟩]) (.seq (.reg [⟨some 14, .move (.tmp 5), none, []⟩, ⟨some 15, .call { callee := (.value (.func 88)), args := #[(.tmp 14), (.const (.int .i64 60))], argTypes := #[116, 3] }, none, []⟩, ⟨some 13, .move (.tmp 15), none, []⟩, ⟨some 16, .extract (.tmp 13) 0, none, []⟩, ⟨some 17, .extract (.tmp 13) 1, none, []⟩, ⟨some 18, .extract (.tmp 13) 2, none, []⟩, ⟨some 19, .extract (.tmp 13) 3, none, []⟩, ⟨some 9, .alloc 25, none, []⟩, ⟨some 6, .assign (.tmp 16), none, []⟩, ⟨some 7, .assign (.tmp 17), none, []⟩, ⟨some 8, .assign (.tmp 18), none, []⟩, ⟨none, .store 25 (.tmp 9) (.tmp 19), none, []⟩]) (.seq (.reg [⟨some 20, .move (.tmp 6), none, []⟩, ⟨some 21, .move (.tmp 7), none, []⟩, ⟨some 22, .move (.tmp 8), none, []⟩, ⟨some 2, .assign (.tmp 20), none, []⟩, ⟨some 3, .assign (.tmp 21), none, []⟩, ⟨some 4, .assign (.tmp 22), none, []⟩]) .ret)))
theorem s25 : Try.f25.body.bind (stripC 23) = some B25 := by kernel_rfl
theorem events_mk {H : Heap} {bs : List Int} {E : List Nat} {v : Value} (h : RS 1 RBy H E v bs) :
    Mkr Try.prog 25 [v] H fun H' A v' => ∃ (s t : Int) (es' : List Evt) (ve : Value), v' = .tuple #[iv s, iv t, ve] ∧ 1 ≤ s ∧ s ≤ 12 ∧ 0 ≤ t ∧ t ≤ 4 ∧ RS 3 REv H' A ve es' ∧ es'.length ≤ 100 := by
  obtain ⟨a1, c1, rfl⟩ := h.form
  have hEl := h.bd (RPp.frm _ _)
  have hcur : Cur bs E H.length 0 (H ++ [(⟨119, [.slice a1 bs.length c1, iv 0, .int .u64 0], true, true⟩ : Blk)]) := ⟨a1, c1, 0, 0, by simp, Nat.le_refl _, h.ext (RPp.frm _ _), fun e he => by have := hEl e he; omega⟩
  obtain ⟨_, H1, ac1, s, t, es', ve, A, b, ul, Eb, rfl, s1, s2, t1, t2, r, hl, hok, rb, hc1, g1, hA, hB, oA⟩ := l4run_ac hcur (by omega) 60 (by omega)
  rw [show ((60 : Nat) : Int) = 60 from rfl] at ac1
  have gl := g1.l
  rw [List.length_append] at gl
  have hz1 : ∀ n, H.length ≤ H1.length + n := fun n => by omega
  refine Mkr.of_bodyS (N := 23) Try.func25 s25 (by kernel_rfl) rfl rfl (by simp) ?_; unfold B25
  have xu : ul.oneCell' = true := by
    obtain ⟨_, hul, hll⟩ := rb
    simp only [List.cons.injEq, true_and, and_true] at hul
    subst hul
    exact hll.one
  have yu : cellsV ul = [ul] := by
    obtain ⟨_, hul, hll⟩ := rb
    simp only [List.cons.injEq, true_and, and_true] at hul
    subst hul
    exact hll.cv
  have hl1 : H.length ≤ H1.length := by omega
  repeat (first | refine sA ?_ | refine sB ?_ | refine sC ?_ | refine sD ?_ | refine sE rfl ?_ | refine sF rfl ?_ | refine sG rfl ?_ | (refine sk_reg fun K hK => ?_; simp [xu, yu, hz1, hl1]; (repeat ((first | refine AskX.go (ac1) ?_); simp [xu, yu, hz1, hl1])); refine hK _ ?_; clear hK K))
  have hs1 : ∀ i, i < H.length → (H1 ++ [(⟨25, [.bool b.ok, iv b.sec, ul], true, true⟩ : Blk)])[i]? = H[i]? := fun i hi => by
    rw [List.getElem?_append_left (by omega), g1.s i (by simp; omega) (by omega), List.getElem?_append_left hi]
  refine sk_ret ?_
  refine ⟨by rw [List.length_append]; omega, hs1, A, ⟨s, t, es', ve, rfl, s1, s2, t1, t2, r.ext (RP.frm _), hl⟩, oA.gro (Gro.one _ _), fun e he => by have := hA e he; simp only [List.length_append] at this; omega⟩
end Go.Proofs.Ytpoedfmkiiijnaa
