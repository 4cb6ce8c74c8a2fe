/- The closures of Step. Walks. -/
import Derived.Test.YtpoedfmkiiijnaaDoorWd2
import Derived.Test.YtpoedfmkiiijnaaDoorGI
namespace Go.Proofs.YtpoedfmkiiijnaaDoor
open Go Go.RowKit Go.Proofs.YtpoedfmkiiijnaaDoorAm
set_option linter.unusedVariables false
set_option linter.unusedSimpArgs false
set_option maxRecDepth 10000
set_option maxHeartbeats 8000000
def B49 : SC := .seq (.reg [⟨some 2, .box 88 (.tmp 0), none, []⟩, ⟨some 3, .assign (.const (.bool false)), none, []⟩]) (.seq (.reg [⟨some 4, .fieldAddr 88 (.tmp 2) 0, none, []⟩, ⟨some 5, .load 3 (.tmp 4), none, []⟩, ⟨some 6, .fieldAddr 59 (.tmp 1) 3, none, []⟩, ⟨some 7, .load 3 (.tmp 6), none, []⟩, ⟨some 8, .binOp .eql 3 (.tmp 5) (.tmp 7) 3, none, []⟩, ⟨some 3, .assign (.tmp 8), none, []⟩]) .ret)
theorem s49 : Tryd.f49.body.bind (stripC 9) = some B49 := by kernel_rfl
theorem stepPred_ac {H : Heap} {X : Nat} {n : Int} (hx : CF H X 5 (iv n)) (g : Gr) : AC Tryd.prog 49 [.agg #[iv g.ver, iv g.cel], pt X 0] H (.bool (hasV n g)) H [] := by
 refine AC.of_pureS (N := 9) Tryd.func49 s49 (by kernel_rfl) rfl rfl (by simp) rfl ?_; unfold B49
 repeat (first | refine sA ?_ | refine sB ?_ | refine sC ?_ | refine sD ?_ | refine sE rfl ?_ | refine sF rfl ?_ | refine sG rfl ?_ | (refine sk_reg fun K hK => ?_; simp [hx.s]; refine hK _ ?_; clear hK K))
 refine sk_ret ?_; simp [hasV]
/-- What the closure of Step answers for an event, and leaves. -/
structure BkR (H : Heap) (X2 : Nat) (wok : Bool) (vb : Value) (was : List Value) (D : Dn) (v : Value) (H' : Heap) : Prop where
 len : H.length ≤ H'.length
 out : ∀ i, i < H.length → i ≠ X2 → H'[i]? = H[i]?
 one : D.code = 1 → v = .agg #[iv 1, .bool false, .bool false, iv 0, nl, nl]
 zero : D.code = 0 → ∃ w' A', v = .agg #[iv 0, .bool wok, .bool D.book.ok, iv D.book.sec, w', vb] ∧ w'.oneCell' = true ∧ RS 4 RLn H' A' w' D.book.lines ∧ Own H' A' ∧ (∀ e, e ∈ A' → H.length ≤ e) ∧ H'[X2]? = some ⟨42, [.bool wok, .bool D.book.ok, iv D.book.sec, w', vb], true, true⟩
 more : D.code ≠ 0 → D.code ≠ 1 → v = .agg (iv D.code :: was).toArray
def B46 : SC := .seq (.reg [⟨some 3, .box 57 (.tmp 0), none, []⟩, ⟨some 4, .alloc 44, none, []⟩]) (.seq (.reg [⟨some 6, .fieldAddr 42 (.tmp 1) 1, none, []⟩, ⟨some 7, .load 39 (.tmp 6), none, []⟩, ⟨some 8, .load 57 (.tmp 3), none, []⟩, ⟨some 9, .call ⟨.value (.func 47), #[.tmp 7, .tmp 8], #[39, 57]⟩, none, []⟩, ⟨some 5, .alloc 99, none, []⟩, ⟨none, .store 99 (.tmp 5) (.tmp 9), none, []⟩]) (.seq (.seq (.reg [⟨some 10, .fieldAddr 99 (.tmp 5) 0, none, []⟩, ⟨some 11, .load 3 (.tmp 10), none, []⟩]) (.block 0 (.seq (.reg [⟨some 13, .binOp .eql 3 (.tmp 11) (.const (.int .i64 0)) 3, none, []⟩, ⟨some 12, .assign (.tmp 13), none, []⟩]) (.cond (.tmp 12) (.seq (.reg [⟨some 14, .fieldAddr 99 (.tmp 5) 1, none, []⟩, ⟨some 15, .load 39 (.tmp 14), none, []⟩, ⟨some 16, .fieldAddr 42 (.tmp 1) 1, none, []⟩, ⟨none, .store 39 (.tmp 16) (.tmp 15), none, []⟩]) (.seq (.reg [⟨some 17, .load 42 (.tmp 1), none, []⟩, ⟨some 18, .build 44 #[(0, (.const (.int .i64 0))), (1, (.tmp 17))], none, []⟩, ⟨none, .store 44 (.tmp 4) (.tmp 18), none, []⟩]) .ret)) (.seq (.reg [⟨some 20, .binOp .eql 3 (.tmp 11) (.const (.int .i64 1)) 3, none, []⟩, ⟨some 19, .assign (.tmp 20), none, []⟩]) (.cond (.tmp 19) (.seq (.reg [⟨some 21, .build 44 #[(0, (.const (.int .i64 1)))], none, []⟩, ⟨none, .store 44 (.tmp 4) (.tmp 21), none, []⟩]) .ret) .skip)))))) (.seq (.reg [⟨some 22, .fieldAddr 99 (.tmp 5) 0, none, []⟩, ⟨some 23, .load 3 (.tmp 22), none, []⟩, ⟨some 24, .load 42 (.tmp 2), none, []⟩, ⟨some 25, .build 44 #[(0, (.tmp 23)), (1, (.tmp 24))], none, []⟩, ⟨none, .store 44 (.tmp 4) (.tmp 25), none, []⟩]) .ret)))
theorem s46 : Tryd.f46.body.bind (stripC 26) = some B46 := by kernel_rfl
theorem stepBook_bd {H : Heap} {E : List Nat} {b : Bk} {vl vb ul ub : Value} {X2 X5 : Nat} {wok u0 u1 : Bool} {u2 : Int} (hb2 : H[X2]? = some ⟨42, [.bool wok, .bool b.ok, iv b.sec, vl, vb], true, true⟩) (hb5 : H[X5]? = some ⟨42, [.bool u0, .bool u1, iv u2, ul, ub], true, true⟩) (h25 : X2 ≠ X5)
  (h : RBk H E b [.bool b.ok, iv b.sec, vl]) (hE : ∀ e, e ∈ E → e ≠ X2) (x : vl.oneCell' = true) (y : vb.oneCell' = true) (xu : ul.oneCell' = true) (yu : ub.oneCell' = true) (e : Evt) :
  ∃ v H', AC Tryd.prog 46 [vEv e, pt X2 0, pt X5 0] H v H' [X2] ∧ BkR H X2 wok vb [.bool u0, .bool u1, iv u2, ul, ub] (doB b e) v H' := by
 have a0 : CF H X2 0 (.bool wok) := CF.of hb2 rfl rfl
 have a1 : CF H X2 1 (.bool b.ok) := CF.of hb2 rfl rfl
 have a2 : CF H X2 2 (iv b.sec) := CF.of hb2 rfl rfl
 have a3 : CF H X2 3 vl := CF.of hb2 rfl rfl
 have a4 : CF H X2 4 vb := CF.of hb2 rfl rfl
 have ar := RF.of hb2
 have d0 : CF H X5 0 (.bool u0) := CF.of hb5 rfl rfl
 have d1 : CF H X5 1 (.bool u1) := CF.of hb5 rfl rfl
 have d2 : CF H X5 2 (iv u2) := CF.of hb5 rfl rfl
 have d3 : CF H X5 3 ul := CF.of hb5 rfl rfl
 have d4 : CF H X5 4 ub := CF.of hb5 rfl rfl
 have hx2 := lt_of_get hb2
 have hx5 := lt_of_get hb5
 refine AC.of_bodyS (N := 26) Tryd.func46 s46 (by kernel_rfl) rfl rfl (by simp) ?_; unfold B46
 repeat (first | refine sA ?_ | refine sB ?_ | refine sC ?_ | refine sD ?_ | refine sE rfl ?_ | refine sF rfl ?_ | refine sG rfl ?_ | (refine sk_reg fun K hK => ?_; simp; refine hK _ ?_; clear hK K))
 refine sk_reg fun K hK => ?_; simp [a1.s, a2.s, a3.s, x]
 refine AskX.mkr (implDoX_mk (show RBk _ E b [.bool b.ok, iv b.sec, vl] from RBk.frm.gro h (by first | exact Gro.refl _ | exact ⟨_, rfl⟩ | exact ⟨_, by simp only [List.append_assoc, List.cons_append, List.nil_append]; rfl⟩ | exact ⟨[], by simp⟩)) e) ?_; rintro _ J A ⟨_, rfl, _, rfl, w', rfl, r⟩ o n; simp [r.one, r.cv, x]
 refine hK _ ?_; clear hK K
 generalize doB b e = D at *
 simp only [List.append_assoc, List.cons_append, List.nil_append, List.length_append, List.length_cons, List.length_nil] at r o n
 have ol := o.lt
 simp only [List.length_append, List.length_cons] at ol
 have k : ∀ e, e ∈ A → H.length + 2 ≤ e := fun e he => by have := n e he; omega
 obtain ⟨T, hT⟩ : ∃ T, T = H.length + (J.length + 2) := ⟨_, rfl⟩
 have xw := r.one
 refine sk_at [(1, pt X2 0), (2, pt X5 0), (4, pt (H.length + 1) 0), (5, pt T 0)] (fun H1 => Gro H H1 ∧ H1[H.length + 1]? = some ⟨44, [iv 0, .bool false, .bool false, iv 0, nl, nl], true, true⟩ ∧ H1[T]? = some ⟨99, [iv D.code, .bool D.book.ok, iv D.book.sec, w'], true, true⟩ ∧ RS 4 RLn H1 A w' D.book.lines ∧ Own H1 A ∧ H.length + 1 < T) (by simp [subL, getT, hT]) ⟨Gro.one _ _, by simp, ?_, ?_, ?_, by omega⟩ ?_
 ·rw [hT, List.getElem?_append_right (by omega), Nat.add_sub_cancel_left]
  simp
 ·exact r.fr RLn.frm fun e he hl => tl2 _ _ _ _ _ _ _ (k e he) hl
 ·exact o.fr fun e he => tl2 _ _ _ _ _ _ _ (k e he) (by have := ol e he; simp; omega)
 clear r o n ol
 rintro H1 ⟨hg, b4, bT, r, o, hTl⟩
 have hl1 := hg.len
 have c0 : CF H1 T 0 (iv D.code) := CF.of bT rfl rfl
 have c1 : CF H1 T 1 (.bool D.book.ok) := CF.of bT rfl rfl
 have c2 : CF H1 T 2 (iv D.book.sec) := CF.of bT rfl rfl
 have c3 : CF H1 T 3 w' := CF.of bT rfl rfl
 have a0 := a0.gro hg
 have a1 := a1.gro hg
 have a2 := a2.gro hg
 have a3 := a3.gro hg
 have a4 := a4.gro hg
 have ar := RF.of (hg.get hb2)
 have hb2' := hg.get hb2
 have d0 := d0.gro hg
 have d1 := d1.gro hg
 have d2 := d2.gro hg
 have d3 := d3.gro hg
 have d4 := d4.gro hg
 have f0 : CF H1 (H.length + 1) 0 (iv 0) := CF.of b4 rfl rfl
 have f1 : CF H1 (H.length + 1) 1 (.bool false) := CF.of b4 rfl rfl
 have f2 : CF H1 (H.length + 1) 2 (.bool false) := CF.of b4 rfl rfl
 have f3 : CF H1 (H.length + 1) 3 (iv 0) := CF.of b4 rfl rfl
 have f4 : CF H1 (H.length + 1) 4 nl := CF.of b4 rfl rfl
 have f5 : CF H1 (H.length + 1) 5 nl := CF.of b4 rfl rfl
 have fr := RF.of b4
 have q1 : ¬ H.length + 1 = X2 := by omega
 have q2 : ¬ X2 = H.length + 1 := by omega
 have q3 : ¬ X2 = T := by omega
 have q4 : ¬ X2 = X5 := h25
 by_cases e1 : D.code = 1
 ·have e1' := eq_true e1
  repeat (first | refine sA ?_ | refine sB ?_ | refine sC ?_ | refine sD ?_ | refine sE rfl ?_ | refine sF rfl ?_ | refine sG rfl ?_ | (refine sk_reg fun K hK => ?_; simp [c0.s, e1, f0.s, f1.s, f2.s, f3.s, f4.s, f5.s, fr.s]; refine hK _ ?_; clear hK K))
  refine sk_ret ?_; simp [f0.s, f1.s, f2.s, f3.s, f4.s, f5.s, fr.s]
  have hF : ∀ j, j ≠ H.length + 1 → ((((((H1.put (H.length + 1) 0 (iv 1)).put (H.length + 1) 1 (.bool false)).put (H.length + 1) 2 (.bool false)).put (H.length + 1) 3 (iv 0)).put (H.length + 1) 4 nl).put (H.length + 1) 5 nl)[j]? = H1[j]? := fun j hj => by
   rw [get_put_ne _ _ _ hj, get_put_ne _ _ _ hj, get_put_ne _ _ _ hj, get_put_ne _ _ _ hj, get_put_ne _ _ _ hj, get_put_ne _ _ _ hj]
  exact ⟨by simp only [length_put]; exact hl1, fun j hj _ => (hF j (by omega)).trans (hg.same hj), fun _ => rfl, fun h0 => by omega, fun _ h1 => absurd e1 h1⟩
 by_cases e0 : D.code = 0
 ·repeat (first | refine sA ?_ | refine sB ?_ | refine sC ?_ | refine sD ?_ | refine sE rfl ?_ | refine sF rfl ?_ | refine sG rfl ?_ | (refine sk_reg fun K hK => ?_; simp [c0.s, c1.s, c2.s, c3.s, e0, a0.s, a1.s, a2.s, a3.s, a4.s, ar.s, f0.s, f1.s, f2.s, f3.s, f4.s, f5.s, fr.s, xw, y, q1, q2, q3, q4]; refine hK _ ?_; clear hK K))
  refine sk_ret ?_; simp [f0.s, f1.s, f2.s, f3.s, f4.s, f5.s, fr.s, xw, y, q1, q2, q3, q4]
  have hF : ∀ j, j ≠ H.length + 1 → j ≠ X2 → (((((((((H1.put X2 1 (.bool D.book.ok)).put X2 2 (iv D.book.sec)).put X2 3 w').put (H.length + 1) 0 (iv 0)).put (H.length + 1) 1 (.bool wok)).put (H.length + 1) 2 (.bool D.book.ok)).put (H.length + 1) 3 (iv D.book.sec)).put (H.length + 1) 4 w').put (H.length + 1) 5 vb)[j]? = H1[j]? := fun j hj hk => by
   rw [get_put_ne _ _ _ hj, get_put_ne _ _ _ hj, get_put_ne _ _ _ hj, get_put_ne _ _ _ hj, get_put_ne _ _ _ hj, get_put_ne _ _ _ hj, get_put_ne _ _ _ hk, get_put_ne _ _ _ hk, get_put_ne _ _ _ hk]
  have hF2 : (((((((((H1.put X2 1 (.bool D.book.ok)).put X2 2 (iv D.book.sec)).put X2 3 w').put (H.length + 1) 0 (iv 0)).put (H.length + 1) 1 (.bool wok)).put (H.length + 1) 2 (.bool D.book.ok)).put (H.length + 1) 3 (iv D.book.sec)).put (H.length + 1) 4 w').put (H.length + 1) 5 vb)[X2]? = some ⟨42, [.bool wok, .bool D.book.ok, iv D.book.sec, w', vb], true, true⟩ := by
   rw [get_put_ne _ _ _ q2, get_put_ne _ _ _ q2, get_put_ne _ _ _ q2, get_put_ne _ _ _ q2, get_put_ne _ _ _ q2, get_put_ne _ _ _ q2, get_put, get_put, get_put, hb2']
   rfl
  exact ⟨by simp only [length_put]; exact hl1, fun j hj hk => (hF j (by omega) hk).trans (hg.same hj), fun h1 => absurd h1 e1, fun _ => ⟨w', A, rfl, xw, r.fr RLn.frm fun j hj _ => hF j (by have := k j hj; omega) (by have := k j hj; omega), o.fr fun j hj => hF j (by have := k j hj; omega) (by have := k j hj; omega), fun j hj => by have := k j hj; omega, hF2⟩, fun h0 => absurd e0 h0⟩
 ·repeat (first | refine sA ?_ | refine sB ?_ | refine sC ?_ | refine sD ?_ | refine sE rfl ?_ | refine sF rfl ?_ | refine sG rfl ?_ | (refine sk_reg fun K hK => ?_; simp [c0.s, e0, e1, f0.s, f1.s, f2.s, f3.s, f4.s, f5.s, fr.s, d0.s, d1.s, d2.s, d3.s, d4.s, xu, yu]; refine hK _ ?_; clear hK K))
  refine sk_ret ?_; simp [f0.s, f1.s, f2.s, f3.s, f4.s, f5.s, fr.s, xu, yu]
  have hF : ∀ j, j ≠ H.length + 1 → ((((((H1.put (H.length + 1) 0 (iv D.code)).put (H.length + 1) 1 (.bool u0)).put (H.length + 1) 2 (.bool u1)).put (H.length + 1) 3 (iv u2)).put (H.length + 1) 4 ul).put (H.length + 1) 5 ub)[j]? = H1[j]? := fun j hj => by
   rw [get_put_ne _ _ _ hj, get_put_ne _ _ _ hj, get_put_ne _ _ _ hj, get_put_ne _ _ _ hj, get_put_ne _ _ _ hj, get_put_ne _ _ _ hj]
  exact ⟨by simp only [length_put]; exact hl1, fun j hj _ => (hF j (by omega)).trans (hg.same hj), fun h1 => absurd h1 e1, fun h0 => absurd h0 e0, fun _ _ => rfl⟩
end Go.Proofs.YtpoedfmkiiijnaaDoor
