/- A book, right or spoilt. A walk. -/
import Derived.Test.YtpoedfmkiiijnaaDw6
namespace Go.Proofs.Ytpoedfmkiiijnaa
open Go Go.RowKit Go.Proofs.YtpoedfmkiiijnaaAm
set_option linter.unusedVariables false
set_option linter.unusedSimpArgs false
set_option maxRecDepth 10000
set_option maxHeartbeats 8000000
def B57 : SC := .seq (.reg [⟨some 2, .alloc 25, none, []⟩]) (.seq (.reg [⟨some 7, .move (.tmp 0), none, []⟩, ⟨some 8, .call { callee := (.value (.func 112)), args := #[(.tmp 7)], argTypes := #[30] }, none, []⟩, ⟨some 6, .move (.tmp 8), none, []⟩, ⟨some 9, .extract (.tmp 6) 0, none, []⟩, ⟨some 10, .extract (.tmp 6) 1, none, []⟩, ⟨some 3, .alloc 25, none, []⟩, ⟨none, .store 25 (.tmp 3) (.tmp 9), none, []⟩, ⟨some 4, .assign (.tmp 10), none, []⟩]) (.seq (.seq (.reg [⟨some 11, .move (.tmp 4), none, []⟩, ⟨some 12, .call { callee := (.value (.func 113)), args := #[(.tmp 11), (.const (.int .i64 3))], argTypes := #[116, 3] }, none, []⟩, ⟨some 5, .assign (.tmp 12), none, []⟩]) (.block 0 (.loop (.seq (.seq (.reg [⟨some 13, .move (.tmp 5), none, []⟩, ⟨some 14, .binOp .gtr 3 (.tmp 13) (.const (.int .i64 0)) 3, none, []⟩]) (.cond (.tmp 14) .skip (.exit 0))) (.seq (.block 1 (.reg [⟨some 17, .move (.tmp 4), none, []⟩, ⟨some 18, .load 25 (.tmp 3), none, []⟩, ⟨some 19, .call { callee := (.value (.func 114)), args := #[(.tmp 17), (.tmp 18)], argTypes := #[116, 25] }, none, []⟩, ⟨none, .store 25 (.tmp 3) (.tmp 19), none, []⟩])) (.reg [⟨some 15, .move (.tmp 5), none, []⟩, ⟨some 16, .binOp .sub 3 (.tmp 15) (.const (.int .i64 1)) 3, none, []⟩, ⟨some 5, .assign (.tmp 16), none, []⟩])))))) (.seq (.reg [⟨some 20, .load 25 (.tmp 3), none, []⟩, ⟨none, .store 25 (.tmp 2) (.tmp 20), none, []⟩]) .ret)))
theorem s57 : Try.f57.body.bind (stripC 21) = some B57 := by kernel_rfl
theorem drawBookOk_ac {H : Heap} {E : List Nat} {v : Value} {bs : List Int} (h : RS 1 RBy H E v bs) :
    ∃ v' H', AC Try.prog 57 [v] H v' H' [] ∧ ∃ (b : Bk) (ul : Value) (A : List Nat), v' = .agg #[.bool b.ok, iv b.sec, ul] ∧ RS 4 RLn H' A ul b.lines ∧ Gro H H' := by
  have hEl := h.bd (RPp.frm _ _)
  have xv := h.one
  obtain ⟨a1, c1, rfl⟩ := h.form
  refine AC.of_bodyS (N := 21) Try.func57 s57 (by kernel_rfl) rfl rfl (by simp) ?_; unfold B57
  repeat (first | refine sA ?_ | refine sB ?_ | refine sC ?_ | refine sD ?_ | refine sE rfl ?_ | refine sF rfl ?_ | refine sG rfl ?_ | (refine sk_reg fun K hK => ?_; simp; refine hK _ ?_; clear hK K))
  refine sk_at [(0, .slice a1 bs.length c1), (2, pt H.length 0)] (fun H0 => Gro H H0 ∧ H0[H.length]? = some ⟨25, [.bool false, iv 0, nl], true, true⟩) (by simp [subL, getT]) ⟨Gro.one _ _, by simp⟩ ?_
  rintro H0 ⟨g0, b0⟩
  have hl0 := lt_of_get b0
  obtain ⟨_, H1, ac1, b, ul, A, C, rfl, r, k1, k2, hc, g1, n, hC⟩ := l4book_ac (h.gro g0 (RPp.frm _ _))
  have b1 := (g1.same hl0).trans b0
  have hl1 := g1.len
  have hz1 : ∀ n, H.length ≤ H1.length + n := fun n => by omega
  have hl1' : H.length ≤ H1.length := by omega
  repeat (first | refine sA ?_ | refine sB ?_ | refine sC ?_ | refine sD ?_ | refine sE rfl ?_ | refine sF rfl ?_ | refine sG rfl ?_ | (refine sk_reg fun K hK => ?_; simp [r.one, r.cv, hz1, hl1']; (repeat ((first | refine AskX.go (ac1) ?_); simp [r.one, r.cv, hz1, hl1'])); refine hK _ ?_; clear hK K))
  obtain ⟨T, hT⟩ : ∃ T, T = H1.length := ⟨_, rfl⟩
  have bA := r.bd RLn.frm
  have lC := hc.lt
  refine sk_at [(2, pt H.length 0), (4, pt C 0), (3, pt T 0)] (fun Hx => LbI bs E C 6000 H Hx T b ul A) (by simp [subL, getT, hT]) ⟨hc.gro (Gro.one _ _), fun i hi => (List.getElem?_append_left (by omega)).trans ((g1.same (by omega)).trans (g0.same hi)), by simp; omega, (List.getElem?_append_left (by omega)).trans b1, by rw [hT]; simp, r.ext RLn.frm, fun e he => ⟨(n e he).1, by have := (n e he).2; omega, by have := bA e he; omega⟩, by omega, by omega, by omega⟩ ?_
  clear ac1 r hc g1 n b1 bA
  rintro H2 hI
  obtain ⟨_, H3, ac1, y, rfl, y0, y1, _, h3, g3⟩ := pick_ac hI.c (by omega) 3
  have hI3 := hI.step h3 g3
  obtain ⟨N, rfl⟩ : ∃ N : Nat, y = N := ⟨y.toNat, by omega⟩
  have hN := y1 (by omega)
  have hCw : H.length ≤ C := by omega
  have hTC := hI.hTC
  repeat (first | refine sA ?_ | refine sB ?_ | refine sC ?_ | refine sD ?_ | refine sE rfl ?_ | refine sF rfl ?_ | refine sG rfl ?_ | (refine sk_reg fun K hK => ?_; simp [hCw]; (repeat ((first | refine AskX.go (ac1) ?_); simp [hCw])); refine hK _ ?_; clear hK K))
  refine sk_loop (fun t ts H' => ∃ (j : Nat) (b : Bk) (ul : Value) (A : List Nat), j ≤ N ∧ t = j ∧ LbI bs E C (7000 + 300 * (N - j)) H H' T b ul A ∧ b.lines.length ≤ 20 ∧ shortL (130 + 30 * (N - j)) b.lines ∧ ts = [(2, pt H.length 0), (4, pt C 0), (3, pt T 0), (5, iv j)]) N _ ?_ ⟨N, b, ul, A, by omega, rfl, hI3.step (h3.mono (by omega)) (GC.refl _ _), k1, k2.mono (by omega), rfl⟩ ?_
  · simp [subL, getT]
  clear hI hI3 h3 g3 ac1 k1 k2
  rintro j ts H5 ⟨_, b, ul, A, hj, rfl, hI5, k1, k2, rfl⟩
  have x0 : CF H5 T 0 (.bool b.ok) := CF.of hI5.x rfl rfl
  have x1 : CF H5 T 1 (iv b.sec) := CF.of hI5.x rfl rfl
  have x2 : CF H5 T 2 ul := CF.of hI5.x rfl rfl
  by_cases hj0 : j = 0
  · subst hj0
    have r0 : CF H5 H.length 0 (.bool false) := CF.of hI5.b2 rfl rfl
    have r1 : CF H5 H.length 1 (iv 0) := CF.of hI5.b2 rfl rfl
    have r2 : CF H5 H.length 2 nl := CF.of hI5.b2 rfl rfl
    have rr := RF.of hI5.b2
    repeat (first | refine sA ?_ | refine sB ?_ | refine sC ?_ | refine sD ?_ | refine sE rfl ?_ | refine sF rfl ?_ | refine sG rfl ?_ | (refine sk_reg fun K hK => ?_; simp [x0.s, x1.s, x2.s, r0.s, r1.s, r2.s, rr.s, hI5.r.one, hI5.r.cv]; refine hK _ ?_; clear hK K))
    obtain ⟨p1, p2, p3⟩ := bk_put (b := b) (ul := ul) H.length (Nat.le_refl _) (by omega) hEl hI5.c hI5.g hI5.l hI5.r (fun e he => by have := (hI5.n e he).2.1; omega)
    refine sk_ret ?_
    simp [r0.s, r1.s, r2.s]
    exact ⟨b, ul, ⟨rfl, rfl, rfl⟩, ⟨A, p3⟩, p2⟩
  have hjz : 0 < j := by omega
  obtain ⟨_, H6, ac2, b', wl, A', rfl, r6, q1, q2, h6, g6, n6⟩ := bend_ac (K := 130 + 30 * (N - j)) hI5.c (by omega) (by omega) hI5.r (fun e he => (hI5.n e he).1) k1 k2
  have hI6 := hI5.step h6 g6
  have w0 : CF H6 T 0 (.bool b.ok) := CF.of hI6.x rfl rfl
  have w1 : CF H6 T 1 (iv b.sec) := CF.of hI6.x rfl rfl
  have w2 : CF H6 T 2 ul := CF.of hI6.x rfl rfl
  have wr := RF.of hI6.x
  have wT : ∀ n, H.length ≤ T + n := fun n => by omega
  have wT0 : H.length ≤ T := by omega
  have hwj : IntKind.i64.wrap ((j : Int) - 1) = ((j - 1 : Nat) : Int) := by rw [wrap_id (by omega) (by omega)]; omega
  have hT5 := lt_of_get hI5.x
  have hC5 := hI5.c.lt
  repeat (first | refine sA ?_ | refine sB ?_ | refine sC ?_ | refine sD ?_ | refine sE rfl ?_ | refine sF rfl ?_ | refine sG rfl ?_ | (refine sk_reg fun K hK => ?_; simp [hjz, x0.s, x1.s, x2.s, w0.s, w1.s, w2.s, wr.s, wT, wT0, hCw, hI5.r.one, hI5.r.cv, r6.one, r6.cv, hwj]; (repeat ((first | refine AskX.go (ac2) ?_); simp [hjz, x0.s, x1.s, x2.s, w0.s, w1.s, w2.s, wr.s, wT, wT0, hCw, hI5.r.one, hI5.r.cv, r6.one, r6.cv, hwj])); refine hK _ ?_; clear hK K))
  have hnp : ∀ i, i ≠ T → ((((H6.put T 0 (.bool b'.ok)).put T 1 (iv b'.sec)).put T 2 wl) : Heap)[i]? = H6[i]? := fun i hi => by rw [get_put_ne _ _ _ hi, get_put_ne _ _ _ hi, get_put_ne _ _ _ hi]
  refine sk_inv ⟨j - 1, _, by omega, ?_, j - 1, b', wl, A', by omega, rfl, ⟨(h6.mono (by omega)).off T hTC (fun hh => by have := hEl _ hh; omega) hnp, fun i hi => (hnp i (by omega)).trans (hI6.g i hi), by simp only [length_put]; exact hI6.l, (hnp _ (by omega)).trans hI6.b2, by rw [get_put, get_put, get_put, hI6.x]; rfl, r6.fr RLn.frm fun e he _ => hnp e (by have := n6 e he; omega), fun e he => by have := n6 e he; exact ⟨by omega, by omega, by omega⟩, hI5.hT, hI5.hC, hTC⟩, q1, q2.mono (by omega), rfl⟩
  simp [subL, getT]
end Go.Proofs.Ytpoedfmkiiijnaa
