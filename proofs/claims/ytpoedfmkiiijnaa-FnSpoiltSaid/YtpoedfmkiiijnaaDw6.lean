/- A drawn book. Walks. -/
import Derived.Test.YtpoedfmkiiijnaaDw3
import Derived.Test.YtpoedfmkiiijnaaDw4
import Derived.Test.YtpoedfmkiiijnaaDw5
namespace Go.Proofs.Ytpoedfmkiiijnaa
open Go Go.RowKit Go.Proofs.YtpoedfmkiiijnaaAm
set_option linter.unusedVariables false
set_option linter.unusedSimpArgs false
set_option maxRecDepth 10000
set_option maxHeartbeats 8000000
theorem short_ok {b : Bk} (h : bookOkB b = 0) : b.lines.length ≤ 20 ∧ shortL 100 b.lines := ⟨(bookOk_sec h).2.2.1, fun l hl => by
  obtain ⟨i, hi, rfl⟩ := List.getElem_of_mem hl
  have := bookOk_ln h hi
  exact ⟨this.w1, by have := this.n1; omega⟩⟩
theorem shortL.mono {K K' : Nat} {ls : List Ln} (h : shortL K ls) (hk : K ≤ K') : shortL K' ls := fun l hl => ⟨by have := (h l hl).1; omega, by have := (h l hl).2; omega⟩
/-- The answer's block is written last. -/
theorem bk_put {bs : List Int} {E : List Nat} {C m : Nat} {H H1 : Heap} {b : Bk} {ul : Value} {A : List Nat} (B : Nat) (hB : H.length ≤ B) (hBC : B ≠ C) (hE : ∀ e, e ∈ E → e < H.length) (c : Cur bs E C m H1) (g : ∀ i, i < H.length → H1[i]? = H[i]?) (hl : H.length ≤ H1.length) (r : RS 4 RLn H1 A ul b.lines) (n : ∀ e, e ∈ A → e ≠ B) :
    Cur bs E C m (((H1.put B 0 (.bool b.ok)).put B 1 (iv b.sec)).put B 2 ul) ∧ Gro H (((H1.put B 0 (.bool b.ok)).put B 1 (iv b.sec)).put B 2 ul) ∧ RS 4 RLn (((H1.put B 0 (.bool b.ok)).put B 1 (iv b.sec)).put B 2 ul) A ul b.lines := by
  have hnp : ∀ i, i ≠ B → ((((H1.put B 0 (.bool b.ok)).put B 1 (iv b.sec)).put B 2 ul) : Heap)[i]? = H1[i]? := fun i hi => by rw [get_put_ne _ _ _ hi, get_put_ne _ _ _ hi, get_put_ne _ _ _ hi]
  exact ⟨c.off B hBC (fun hh => by have := hE _ hh; omega) hnp, Gro.of (by simp only [length_put]; exact hl) fun i hi => (hnp i (by omega)).trans (g i hi), r.fr RLn.frm fun i hi _ => hnp i (n i hi)⟩
/-- A drawn book in its block T. -/
structure LbI (bs : List Int) (E : List Nat) (C m : Nat) (H H1 : Heap) (T : Nat) (b : Bk) (ul : Value) (A : List Nat) : Prop where
  c : Cur bs E C m H1
  g : ∀ i, i < H.length → H1[i]? = H[i]?
  l : H.length ≤ H1.length
  b2 : H1[H.length]? = some ⟨25, [.bool false, iv 0, nl], true, true⟩
  x : H1[T]? = some ⟨25, [.bool b.ok, iv b.sec, ul], true, true⟩
  r : RS 4 RLn H1 A ul b.lines
  n : ∀ e, e ∈ A → e ≠ C ∧ H.length < e ∧ e ≠ T
  hT : H.length < T
  hC : H.length < C
  hTC : T ≠ C
theorem LbI.step {bs : List Int} {E : List Nat} {C m m' : Nat} {H H1 H2 : Heap} {T : Nat} {b : Bk} {ul : Value} {A : List Nat} (h : LbI bs E C m H H1 T b ul A) (c : Cur bs E C m' H2) (g : GC C H1 H2) : LbI bs E C m' H H2 T b ul A := by
  have hT := h.hT
  have hC := h.hC
  have hl := h.l
  exact ⟨c, fun i hi => (g.s i (by omega) (by omega)).trans (h.g i hi), Nat.le_trans hl g.l, g.cf h.b2 (by omega), g.cf h.x h.hTC, g.rs RLn.frm h.r fun e he => (h.n e he).1, h.n, h.hT, h.hC, h.hTC⟩
def B112 : SC := .seq (.reg [⟨some 2, .alloc 25, none, []⟩, ⟨some 3, .assign (.const (.pointer none)), none, []⟩]) (.seq (.reg [⟨some 9, .move (.tmp 0), none, []⟩, ⟨some 10, .build 119 #[(0, (.tmp 9))], none, []⟩, ⟨some 11, .box 119 (.tmp 10), none, []⟩, ⟨some 4, .assign (.tmp 11), none, []⟩]) (.seq (.seq (.reg [⟨some 12, .move (.tmp 4), none, []⟩, ⟨some 13, .call { callee := (.value (.func 113)), args := #[(.tmp 12), (.const (.int .i64 40))], argTypes := #[116, 3] }, none, []⟩, ⟨some 14, .binOp .eql 3 (.tmp 13) (.const (.int .i64 0)) 3, none, []⟩]) (.cond (.tmp 14) (.seq (.reg [⟨some 15, .move (.tmp 4), none, []⟩, ⟨some 16, .call { callee := (.value (.func 138)), args := #[(.tmp 15)], argTypes := #[116] }, none, []⟩, ⟨some 17, .move (.tmp 4), none, []⟩, ⟨none, .store 25 (.tmp 2) (.tmp 16), none, []⟩, ⟨some 3, .assign (.tmp 17), none, []⟩]) .ret) .skip)) (.seq (.reg [⟨some 19, .move (.tmp 4), none, []⟩, ⟨some 20, .call { callee := (.value (.func 88)), args := #[(.tmp 19), (.const (.int .i64 30))], argTypes := #[116, 3] }, none, []⟩, ⟨some 18, .move (.tmp 20), none, []⟩, ⟨some 21, .extract (.tmp 18) 0, none, []⟩, ⟨some 22, .extract (.tmp 18) 1, none, []⟩, ⟨some 23, .extract (.tmp 18) 2, none, []⟩, ⟨some 24, .extract (.tmp 18) 3, none, []⟩, ⟨some 8, .alloc 25, none, []⟩, ⟨some 5, .assign (.tmp 21), none, []⟩, ⟨some 6, .assign (.tmp 22), none, []⟩, ⟨some 7, .assign (.tmp 23), none, []⟩, ⟨none, .store 25 (.tmp 8) (.tmp 24), none, []⟩]) (.seq (.seq (.reg [⟨some 25, .move (.tmp 4), none, []⟩, ⟨some 26, .call { callee := (.value (.func 113)), args := #[(.tmp 25), (.const (.int .i64 10))], argTypes := #[116, 3] }, none, []⟩, ⟨some 27, .binOp .eql 3 (.tmp 26) (.const (.int .i64 0)) 3, none, []⟩]) (.cond (.tmp 27) (.reg [⟨some 28, .move (.tmp 4), none, []⟩, ⟨some 29, .load 25 (.tmp 8), none, []⟩, ⟨some 30, .call { callee := (.value (.func 114)), args := #[(.tmp 28), (.tmp 29)], argTypes := #[116, 25] }, none, []⟩, ⟨none, .store 25 (.tmp 8) (.tmp 30), none, []⟩]) .skip)) (.seq (.reg [⟨some 31, .load 25 (.tmp 8), none, []⟩, ⟨some 32, .move (.tmp 4), none, []⟩, ⟨none, .store 25 (.tmp 2) (.tmp 31), none, []⟩, ⟨some 3, .assign (.tmp 32), none, []⟩]) .ret)))))
theorem s112 : Try.f112.body.bind (stripC 33) = some B112 := by kernel_rfl
theorem l4book_ac {H : Heap} {E : List Nat} {v : Value} {bs : List Int} (h : RS 1 RBy H E v bs) :
    ∃ v' H', AC Try.prog 112 [v] H v' H' [] ∧ ∃ (b : Bk) (ul : Value) (A : List Nat) (C : Nat), v' = .tuple #[.agg #[.bool b.ok, iv b.sec, ul], pt C 0] ∧ RS 4 RLn H' A ul b.lines ∧ b.lines.length ≤ 20 ∧ shortL 130 b.lines ∧ Cur bs E C 6000 H' ∧ Gro H H' ∧ (∀ e, e ∈ A → e ≠ C ∧ H.length ≤ e) ∧ H.length ≤ C := by
  obtain ⟨a1, c1, rfl⟩ := h.form
  have hEl := h.bd (RPp.frm _ _)
  refine AC.of_bodyS (N := 33) Try.func112 s112 (by kernel_rfl) rfl rfl (by simp) ?_; unfold B112
  repeat (first | refine sA ?_ | refine sB ?_ | refine sC ?_ | refine sD ?_ | refine sE rfl ?_ | refine sF rfl ?_ | refine sG rfl ?_ | (refine sk_reg fun K hK => ?_; simp; refine hK _ ?_; clear hK K))
  obtain ⟨C, hC⟩ : ∃ C, C = H.length + 1 := ⟨_, rfl⟩
  refine sk_at [(2, pt H.length 0), (4, pt C 0)] (fun H1 => Gro H H1 ∧ Cur bs E C 0 H1 ∧ H1[H.length]? = some ⟨25, [.bool false, iv 0, nl], true, true⟩) (by simp [subL, getT, hC]) ⟨Gro.one _ _, ⟨a1, c1, 0, 0, by rw [hC]; simp, Nat.le_refl _, h.ext (RPp.frm _ _), fun e he => by have := hEl e he; omega⟩, by simp⟩ ?_
  rintro H1 ⟨g1, hc1, b1⟩
  obtain ⟨_, H2, ac1, z, rfl, z0, z1, _, h2, g2⟩ := pick_ac hc1 (by omega) 40
  have b2 := g2.cf b1 (by omega)
  have gs2 : ∀ i, i < H.length → H2[i]? = H[i]? := fun i hi => (g2.s i (Nat.lt_of_lt_of_le hi g1.len) (by omega)).trans (g1.same hi)
  have hl2 : H.length ≤ H2.length := Nat.le_trans g1.len g2.l
  by_cases hz : z = 0
  · obtain ⟨_, H3, ac2, b, ul, A, rfl, hok, r3, h3, g3, n3⟩ := full_ac h2 (by omega)
    have b3 := g3.cf b2 (by omega)
    have r0 : CF H3 H.length 0 (.bool false) := CF.of b3 rfl rfl
    have r1 : CF H3 H.length 1 (iv 0) := CF.of b3 rfl rfl
    have r2 : CF H3 H.length 2 nl := CF.of b3 rfl rfl
    have rr := RF.of b3
    have hCw : H.length ≤ C := by omega
    repeat (first | refine sA ?_ | refine sB ?_ | refine sC ?_ | refine sD ?_ | refine sE rfl ?_ | refine sF rfl ?_ | refine sG rfl ?_ | (refine sk_reg fun K hK => ?_; simp [hz, r0.s, r1.s, r2.s, rr.s, r3.one, r3.cv, hCw]; (repeat ((first | refine AskX.go (ac1) ?_ | refine AskX.go (ac2) ?_); simp [hz, r0.s, r1.s, r2.s, rr.s, r3.one, r3.cv, hCw])); refine hK _ ?_; clear hK K))
    have gs3 : ∀ i, i < H.length → H3[i]? = H[i]? := fun i hi => (g3.s i (by omega) (by omega)).trans (gs2 i hi)
    have hl3 : H.length ≤ H3.length := Nat.le_trans hl2 g3.l
    have b2l := lt_of_get b2
    obtain ⟨k1, k2⟩ := short_ok hok
    obtain ⟨p1, p2, p3⟩ := bk_put (b := b) (ul := ul) H.length (Nat.le_refl _) (by omega) hEl (h3.mono (m' := 6000) (by omega)) gs3 hl3 r3 (fun e he => by have := n3 e he; omega)
    have nC : ∀ e, e ∈ A → e ≠ C ∧ H.length ≤ e := fun e he => ⟨fun hh => by have := n3 e he; have := h2.lt; omega, by have := n3 e he; omega⟩
    refine sk_ret ?_
    simp [r0.s, r1.s, r2.s]
    refine ⟨b, ul, A, C, ?_, p3, k1, k2.mono (by omega), p1, p2, nC, by omega⟩
    simp
  obtain ⟨_, H3, ac2, s, t, es', ve, A0, b, ul, A, rfl, _, _, _, _, rv, _, hok, rb, h3, g3, nA0, n3, oA⟩ := l4run_ac h2 (by omega) 30 (by omega)
  rw [show ((30 : Nat) : Int) = 30 from rfl] at ac2
  have b3 := g3.cf b2 (by omega)
  have gs3 : ∀ i, i < H.length → H3[i]? = H[i]? := fun i hi => (g3.s i (by omega) (by omega)).trans (gs2 i hi)
  have hl3 : H.length ≤ H3.length := Nat.le_trans hl2 g3.l
  have hz3 : ∀ n, H.length ≤ H3.length + n := fun n => by omega
  have b2l := lt_of_get b2
  have lC2 := h2.lt
  obtain ⟨_, hul, rL⟩ := rb
  simp only [List.cons.injEq, true_and, and_true] at hul
  subst hul
  have hCw : H.length ≤ C := by omega
  repeat (first | refine sA ?_ | refine sB ?_ | refine sC ?_ | refine sD ?_ | refine sE rfl ?_ | refine sF rfl ?_ | refine sG rfl ?_ | (refine sk_reg fun K hK => ?_; simp [hz, rv.one, rv.cv, rL.one, rL.cv, hCw, hl3, hz3]; (repeat ((first | refine AskX.go (ac1) ?_ | refine AskX.go (ac2) ?_); simp [hz, rv.one, rv.cv, rL.one, rL.cv, hCw, hl3, hz3])); refine hK _ ?_; clear hK K))
  obtain ⟨k1, k2⟩ := short_ok hok
  obtain ⟨T, hT⟩ : ∃ T, T = H3.length := ⟨_, rfl⟩
  have lC3 := h3.lt
  have bA := rL.bd RLn.frm
  refine sk_at [(2, pt H.length 0), (4, pt C 0), (8, pt T 0)] (fun Hx => LbI bs E C 5500 H Hx T b ul A) (by simp [subL, getT, hT]) ⟨(h3.gro (Gro.one _ _)).mono (by omega), fun i hi => (List.getElem?_append_left (by omega)).trans (gs3 i hi), by simp; omega, (List.getElem?_append_left (by omega)).trans b3, by rw [hT]; simp, rL.ext RLn.frm, fun e he => ⟨fun hh => by have := n3 e he; omega, by have := n3 e he; omega, by have := bA e he; omega⟩, by omega, by omega, by omega⟩ ?_
  clear ac1 ac2 rv rL h3 g3 nA0 n3 oA b3 gs3 hl3 hz3
  rintro H4 hI
  obtain ⟨_, H5, ac1, y, rfl, y0, y1, _, h5, g5⟩ := pick_ac hI.c (by omega) 10
  have hI5 := hI.step h5 g5
  repeat refine sk_seq ?_
  refine sk_reg fun K hK => ?_; simp
  refine AskX.go (ac1) ?_; simp [hCw]
  refine hK _ ?_; clear hK K
  refine sk_cut [(2, pt H.length 0), (4, pt C 0), (8, pt T 0)] (fun Hx => ∃ (b : Bk) (ul : Value) (A : List Nat), LbI bs E C 6000 H Hx T b ul A ∧ b.lines.length ≤ 20 ∧ shortL 130 b.lines) ?_ ?_
  · by_cases hy : y = 0
    · obtain ⟨_, H6, ac2, b', wl, A', rfl, r6, q1, q2, h6, g6, n6⟩ := bend_ac (K := 100) h5 (by omega) (by omega) hI5.r (fun e he => (hI5.n e he).1) k1 k2
      have hI6 := hI5.step h6 g6
      have x0 : CF H5 T 0 (.bool b.ok) := CF.of hI5.x rfl rfl
      have x1 : CF H5 T 1 (iv b.sec) := CF.of hI5.x rfl rfl
      have x2 : CF H5 T 2 ul := CF.of hI5.x rfl rfl
      have w0 : CF H6 T 0 (.bool b.ok) := CF.of hI6.x rfl rfl
      have w1 : CF H6 T 1 (iv b.sec) := CF.of hI6.x rfl rfl
      have w2 : CF H6 T 2 ul := CF.of hI6.x rfl rfl
      have wr := RF.of hI6.x
      have wT : ∀ n, H.length ≤ T + n := fun n => by omega
      have wT0 : H.length ≤ T := by omega
      rw [decide_eq_true hy]
      repeat (first | refine sA ?_ | refine sB ?_ | refine sC ?_ | refine sD ?_ | refine sE rfl ?_ | refine sF rfl ?_ | refine sG rfl ?_ | (refine sk_reg fun K hK => ?_; simp [x0.s, x1.s, x2.s, w0.s, w1.s, w2.s, wr.s, wT, wT0, hCw, hI5.r.one, hI5.r.cv, r6.one, r6.cv]; (repeat ((first | refine AskX.go (ac2) ?_); simp [x0.s, x1.s, x2.s, w0.s, w1.s, w2.s, wr.s, wT, wT0, hCw, hI5.r.one, hI5.r.cv, r6.one, r6.cv])); refine hK _ ?_; clear hK K))
      have hT5 := lt_of_get hI5.x
      have hC5 := hI5.c.lt
      have hnp : ∀ i, i ≠ T → ((((H6.put T 0 (.bool b'.ok)).put T 1 (iv b'.sec)).put T 2 wl) : Heap)[i]? = H6[i]? := fun i hi => by rw [get_put_ne _ _ _ hi, get_put_ne _ _ _ hi, get_put_ne _ _ _ hi]
      refine sk_inv ⟨by simp [subL, getT], b', wl, A', ⟨(h6.mono (by omega)).off T hI.hTC (fun hh => by have := hEl _ hh; omega) hnp, fun i hi => (hnp i (by omega)).trans (hI6.g i hi), by simp only [length_put]; exact hI6.l, (hnp _ (by omega)).trans hI6.b2, by rw [get_put, get_put, get_put, hI6.x]; rfl, r6.fr RLn.frm fun e he _ => hnp e (by have := n6 e he; omega), fun e he => by have := n6 e he; exact ⟨by omega, by omega, by omega⟩, hI.hT, hI.hC, hI.hTC⟩, q1, q2⟩
    · rw [decide_eq_false hy]
      repeat (first | refine sA ?_ | refine sB ?_ | refine sC ?_ | refine sD ?_ | refine sE rfl ?_ | refine sF rfl ?_ | refine sG rfl ?_ | (refine sk_reg fun K hK => ?_; simp; refine hK _ ?_; clear hK K))
      refine sk_inv ⟨by simp [subL, getT], b, ul, A, hI5.step (h5.mono (by omega)) (GC.refl _ _), k1, k2.mono (by omega)⟩
  clear hI hI5 h5 g5 ac1
  rintro H7 ⟨b, ul, A, hI, k1, k2⟩
  have x0 : CF H7 T 0 (.bool b.ok) := CF.of hI.x rfl rfl
  have x1 : CF H7 T 1 (iv b.sec) := CF.of hI.x rfl rfl
  have x2 : CF H7 T 2 ul := CF.of hI.x rfl rfl
  have r0 : CF H7 H.length 0 (.bool false) := CF.of hI.b2 rfl rfl
  have r1 : CF H7 H.length 1 (iv 0) := CF.of hI.b2 rfl rfl
  have r2 : CF H7 H.length 2 nl := CF.of hI.b2 rfl rfl
  have rr := RF.of hI.b2
  repeat (first | refine sA ?_ | refine sB ?_ | refine sC ?_ | refine sD ?_ | refine sE rfl ?_ | refine sF rfl ?_ | refine sG rfl ?_ | (refine sk_reg fun K hK => ?_; simp [x0.s, x1.s, x2.s, r0.s, r1.s, r2.s, rr.s, hI.r.one, hI.r.cv]; refine hK _ ?_; clear hK K))
  obtain ⟨p1, p2, p3⟩ := bk_put (b := b) (ul := ul) H.length (Nat.le_refl _) (by have := hI.hC; omega) hEl hI.c hI.g hI.l hI.r (fun e he => by have := (hI.n e he).2.1; omega)
  refine sk_ret ?_
  simp [r0.s, r1.s, r2.s]
  refine ⟨b, ul, A, C, ?_, p3, k1, k2, p1, p2, fun e he => ⟨(hI.n e he).1, by have := (hI.n e he).2.1; omega⟩, by omega⟩
  simp
end Go.Proofs.Ytpoedfmkiiijnaa
