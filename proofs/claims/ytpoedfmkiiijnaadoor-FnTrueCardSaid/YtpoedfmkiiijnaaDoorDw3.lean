/- The drawing cursor: places. A walk. -/
import Derived.Test.YtpoedfmkiiijnaaDoorDw1
import Derived.Test.YtpoedfmkiiijnaaDoorAp1
namespace Go.Proofs.YtpoedfmkiiijnaaDoor
open Go Go.RowKit Go.Proofs.YtpoedfmkiiijnaaDoorAm
set_option linter.unusedVariables false
set_option linter.unusedSimpArgs false
set_option maxRecDepth 10000
set_option maxHeartbeats 8000000
/-- Between two rounds of places: what is drawn so far. -/
structure PlI (bs : List Int) (E : List Nat) (C m : Nat) (H H1 : Heap) (n : Int) (vo : Value) (A : List Nat) (l : List Int) : Prop where
 c : Cur bs E C m H1
 g : GC C H H1
 r : RW 3 1 RInt H1 A vo l
 o : Own H1 A
 la : ∀ e, e ∈ A → H.length ≤ e
 nd : l.Nodup
 rg : ∀ x, x ∈ l → 0 ≤ x ∧ x < n
theorem PlI.step {bs : List Int} {E : List Nat} {C m m' : Nat} {H H1 H2 : Heap} {n : Int} {vo : Value} {A : List Nat} {l : List Int} (h : PlI bs E C m H H1 n vo A l) (hC : C < H.length) (c : Cur bs E C m' H2) (g : GC C H1 H2) : PlI bs E C m' H H2 n vo A l :=
 ⟨c, h.g.trans g, h.r.fr (RP.frm _) fun i hi hl => g.s i hl (by have := h.la i hi; omega), h.o.fr fun i hi => g.s i (h.r.bd (RP.frm _) i hi) (by have := h.la i hi; omega), h.la, h.nd, h.rg⟩
def B42 : SC := .seq (.reg [⟨some 4, .assign (.const (.slice none 0 0)), none, []⟩]) (.seq (.reg [⟨some 5, .assign (.const (.slice none 0 0)), none, []⟩]) (.seq (.seq (.reg [⟨some 11, .move (.tmp 0), none, []⟩, ⟨some 12, .call ⟨.value (.func 41), #[.tmp 11, .const (.int .i64 4)], #[75, 3]⟩, none, []⟩, ⟨some 6, .assign (.tmp 12), none, []⟩]) (.block 0 (.loop (.seq (.seq (.reg [⟨some 13, .move (.tmp 6), none, []⟩, ⟨some 14, .binOp .geq 3 (.tmp 13) (.const (.int .i64 0)) 3, none, []⟩]) (.cond (.tmp 14) .skip (.exit 0))) (.seq (.block 1 (.seq (.reg [⟨some 17, .move (.tmp 0), none, []⟩, ⟨some 18, .move (.tmp 1), none, []⟩, ⟨some 19, .call ⟨.value (.func 41), #[.tmp 17, .tmp 18], #[75, 3]⟩, none, []⟩, ⟨some 7, .assign (.tmp 19), none, []⟩]) (.seq (.reg [⟨some 8, .assign (.const (.bool false)), none, []⟩]) (.seq (.seq (.reg [⟨some 20, .move (.tmp 5), none, []⟩, ⟨some 21, .call ⟨.builtin .len, #[.tmp 20], #[22]⟩, none, []⟩, ⟨some 22, .move (.const (.int .i64 0)), none, []⟩]) (.block 2 (.loop (.seq (.reg [⟨some 23, .binOp .lss 3 (.tmp 22) (.tmp 21) 3, none, []⟩]) (.seq (.cond (.tmp 23) .skip (.exit 2)) (.seq (.block 3 (.seq (.reg [⟨some 24, .indexAddr 22 (.tmp 20) (.tmp 22), none, []⟩, ⟨some 25, .load 3 (.tmp 24), none, []⟩, ⟨some 10, .assign (.tmp 25), none, []⟩]) (.reg [⟨some 26, .move (.tmp 8), none, []⟩, ⟨some 27, .move (.tmp 26), none, []⟩, ⟨some 28, .move (.tmp 10), some (27, false), []⟩, ⟨some 29, .move (.tmp 7), some (27, false), []⟩, ⟨some 30, .binOp .eql 3 (.tmp 28) (.tmp 29) 3, some (27, false), []⟩, ⟨some 31, .pick (.tmp 27) (.const (.bool true)) (.tmp 30), none, []⟩, ⟨some 8, .assign (.tmp 31), none, []⟩]))) (.reg [⟨some 32, .binOp .add 3 (.tmp 22) (.const (.int .i64 1)) 3, none, []⟩, ⟨some 22, .move (.tmp 32), none, []⟩]))))))) (.seq (.reg [⟨some 33, .move (.tmp 8), none, []⟩, ⟨some 34, .unOp .not 4 (.tmp 33), none, []⟩]) (.cond (.tmp 34) (.reg [⟨some 35, .move (.tmp 5), none, []⟩, ⟨some 36, .move (.tmp 7), none, []⟩, ⟨some 37, .buildSlice 22 1 #[(0, (.tmp 36))], none, []⟩, ⟨some 38, .call ⟨.builtin .append, #[.tmp 35, .tmp 37], #[22, 22]⟩, none, []⟩, ⟨some 5, .assign (.tmp 38), none, []⟩]) .skip)))))) (.reg [⟨some 15, .move (.tmp 6), none, []⟩, ⟨some 16, .binOp .sub 3 (.tmp 15) (.const (.int .i64 1)) 3, none, []⟩, ⟨some 6, .assign (.tmp 16), none, []⟩])))))) (.seq (.reg [⟨some 39, .move (.tmp 5), none, []⟩, ⟨some 4, .assign (.tmp 39), none, []⟩]) .ret)))
theorem s42 : Tryd.f42.body.bind (stripC 40) = some B42 := by kernel_rfl
theorem places_ac {H : Heap} {bs : List Int} {E : List Nat} {C m : Nat} (h : Cur bs E C m H) (hm : m ≤ 1000000) (n : Int) (hn : 1 ≤ n ∧ n ≤ 1000) :
  ∃ v H', AC Tryd.prog 42 [pt C 0, iv n] H v H' [C] ∧ ∃ (l : List Int) (A : List Nat), l ≠ [] ∧ l.length ≤ 4 ∧ l.Nodup ∧ (∀ x, x ∈ l → 0 ≤ x ∧ x < n) ∧ RS 1 RInt H' A v l ∧ (∀ e, e ∈ A → H.length ≤ e) ∧ Cur bs E C (m + 20) H' ∧ GC C H H' := by
 have hCl := h.lt
 have hEl := h.bd
 obtain ⟨_, H1, ac1, x, rfl, x0, x1, _, h1, g1⟩ := pick_ac h (by omega) 4
 have hx := x1 (by omega)
 obtain ⟨N, rfl⟩ : ∃ N : Nat, x = N := ⟨x.toNat, by omega⟩
 refine AC.of_bodyS (N := 40) Tryd.func42 s42 (by kernel_rfl) rfl rfl (by simp) ?_; unfold B42
 repeat (first | refine sA ?_ | refine sB ?_ | refine sC ?_ | refine sD ?_ | refine sE rfl ?_ | refine sF rfl ?_ | refine sG rfl ?_ | (refine sk_reg fun K hK => ?_; simp; (repeat ((first | refine AskX.go (ac1) ?_); simp)); refine hK _ ?_; clear hK K))
 refine sk_loop (fun t ts H' => ∃ (j : Nat) (vo : Value) (A : List Nat) (l : List Int), j ≤ N + 1 ∧ t = j ∧ PlI bs E C (m + 2 + 2 * (N + 1 - j)) H H' n vo A l ∧ l.length ≤ N + 1 - j ∧ (j ≤ N → l ≠ []) ∧ ts = [(0, pt C 0), (1, iv n), (5, vo), (6, iv ((j : Int) - 1))]) (N + 1) _ ?_ ⟨N + 1, nl, [], [], by omega, rfl, ⟨h1.mono (by omega), g1, .inl ⟨rfl, rfl, rfl⟩, ⟨List.nodup_nil, fun i hi => by simp at hi⟩, fun i hi => by simp at hi, List.nodup_nil, fun x hx => by simp at hx⟩, by simp, fun hh => by omega, rfl⟩ ?_
 ·simp [subL, getT]
 clear ac1 x0 x1 h1 g1
 rintro j ts H2 ⟨_, vo, A, l, hj, rfl, hI, hll, hne, rfl⟩
 obtain ⟨ao, co, rfl⟩ := hI.r.form
 by_cases hj0 : j = 0
 ·subst hj0
  have hq : ¬ ((0 : Int) ≤ ((0 : Nat) : Int) - 1) := by omega
  repeat (first | refine sA ?_ | refine sB ?_ | refine sC ?_ | refine sD ?_ | refine sE rfl ?_ | refine sF rfl ?_ | refine sG rfl ?_ | (refine sk_reg fun K hK => ?_; simp [hq]; refine hK _ ?_; clear hK K))
  refine sk_ret ?_; simp
  exact ⟨l, hne (by omega), by omega, hI.nd, hI.rg, A, hI.r.rs (by omega), hI.la, hI.c.mono (by omega), hI.g⟩
 have hq : (1 : Int) ≤ (j : Int) := by omega
 obtain ⟨_, H3, ac1, s, rfl, s0, s1, _, h3, g3⟩ := pick_ac hI.c (by omega) n
 have hs := s1 hn.1
 have hI3 := hI.step hCl h3 g3
 have hn3 := (hI3.r.rs (by omega)).1
 have hwj : IntKind.i64.wrap ((j : Int) - 1 - 1) = ((j - 1 : Nat) : Int) - 1 := by rw [wrap_id (by omega) (by omega)]; omega
 repeat (first | refine sA ?_ | refine sB ?_ | refine sC ?_ | refine sD ?_ | refine sE rfl ?_ | refine sF rfl ?_ | refine sG rfl ?_ | (refine sk_reg fun K hK => ?_; simp [hq]; (repeat ((first | refine AskX.go (ac1) ?_); simp [hq])); refine hK _ ?_; clear hK K))
 refine sk_loop (fun t ts H' => ∃ k : Nat, k ≤ l.length ∧ t = l.length - k ∧ H' = H3 ∧ ts = [(0, pt C 0), (1, iv n), (5, .slice ao l.length co), (6, iv ((j : Int) - 1)), (7, iv s), (8, .bool (decide (s ∈ l.take k))), (20, .slice ao l.length co), (21, iv l.length), (22, iv k)]) l.length _ ?_ ⟨0, by omega, rfl, rfl, rfl⟩ ?_
 ·simp [subL, getT]
 rintro t ts H4 ⟨k, hk, rfl, rfl, rfl⟩
 by_cases hkl : k < l.length
 ·obtain ⟨il, ol, hvl, hidl, e0⟩ := (hI3.r.rs (by omega)).int hkl
  simp only [Value.slice.injEq, true_and] at hvl
  obtain ⟨rfl, rfl⟩ := hvl
  have hwk := wrap_id (x := (k : Int) + 1) (by omega) (by omega)
  have htk : l.take (k + 1) = l.take k ++ [l[k]] := take_snoc hkl
  by_cases hmem : s ∈ l.take k
  ·have hm2 : s ∈ l.take (k + 1) := by rw [htk]; exact List.mem_append_left _ hmem
   repeat (first | refine sA ?_ | refine sB ?_ | refine sC ?_ | refine sD ?_ | refine sE rfl ?_ | refine sF rfl ?_ | refine sG rfl ?_ | (refine sk_reg fun K hK => ?_; simp [hkl, e0.s, hmem, hwk]; refine hK _ ?_; clear hK K))
   refine sk_inv ⟨l.length - (k + 1), _, by omega, ?_, k + 1, by omega, rfl, rfl, rfl⟩
   simp [subL, getT, hm2]
  ·have hm2 : decide (s ∈ l.take (k + 1)) = decide (l[k] = s) := by
    rw [htk]
    by_cases q : l[k] = s
    ·rw [decide_eq_true q]; exact decide_eq_true (by rw [q]; exact List.mem_append_right _ (by simp))
    ·rw [decide_eq_false q]
     refine decide_eq_false fun hh => ?_
     rcases List.mem_append.1 hh with hh | hh
     ·exact hmem hh
     ·exact q (by simp at hh; exact hh.symm)
   repeat (first | refine sA ?_ | refine sB ?_ | refine sC ?_ | refine sD ?_ | refine sE rfl ?_ | refine sF rfl ?_ | refine sG rfl ?_ | (refine sk_reg fun K hK => ?_; simp [hkl, e0.s, hmem, hwk]; refine hK _ ?_; clear hK K))
   refine sk_inv ⟨l.length - (k + 1), _, by omega, ?_, k + 1, by omega, rfl, rfl, rfl⟩
   rw [hm2]
   simp [subL, getT]
 obtain rfl : k = l.length := by omega
 rw [List.take_length]
 by_cases hmem : s ∈ l
 ·repeat (first | refine sA ?_ | refine sB ?_ | refine sC ?_ | refine sD ?_ | refine sE rfl ?_ | refine sF rfl ?_ | refine sG rfl ?_ | (refine sk_reg fun K hK => ?_; simp [hmem, hwj]; refine hK _ ?_; clear hK K))
  refine sk_inv ⟨j - 1, _, by omega, ?_, j - 1, _, A, l, by omega, rfl, hI3.step hCl (hI3.c.mono (by omega)) (GC.refl _ _), by omega, fun _ hh => by rw [hh] at hmem; simp at hmem, rfl⟩
  simp [subL, getT]
 obtain ⟨k', v', H5, A', e1, e2, e3, e4, e5, e6, e7⟩ := app_one (P := Tryd.prog) (t := 22) (e := 3) (sz := 0) (by' := 8) (z := iv 0) (by simp) (by simp) (by simp) (by simp) rfl (RP.frm cInt) hI3.r hI3.o (x := s) (cx := [iv s]) (Ex := []) ⟨rfl, rfl⟩ ⟨List.nodup_nil, fun i hi => by simp at hi⟩ (fun j _ hj => by simp at hj) rfl rfl (by omega) (by simp [maxLen]; omega)
 have hwr : wrO H.length [C] k' := fun i hi => .inl (hI3.la i (e2 i hi).1)
 have hl4 := hI3.g.l
 repeat (first | refine sA ?_ | refine sB ?_ | refine sC ?_ | refine sD ?_ | refine sE rfl ?_ | refine sF rfl ?_ | refine sG rfl ?_ | (refine sk_reg fun K hK => ?_; simp [hmem, e1, hwr, hwj, hl4]; refine hK _ ?_; clear hK K))
 have hsm : ∀ i, i < H4.length → i ∉ A → H5[i]? = H4[i]? := fun i hi ha => e4 i hi ha
 refine sk_inv ⟨j - 1, _, by omega, ?_, j - 1, v', A', l ++ [s], by omega, rfl, ⟨?_, ⟨by show H.length ≤ H5.length; omega, fun i hi hc => (hsm i (by omega) fun hh => by have := hI3.la i hh; omega).trans (hI3.g.s i hi hc)⟩, e5, e6, fun i hi => ?_, ?_, fun x hx => ?_⟩, by simp only [List.length_append, List.length_cons, List.length_nil]; omega, fun _ => by simp, rfl⟩
 ·simp [subL, getT]
 ·obtain ⟨a1, c1, t, s', k1, k2, k3, k4⟩ := hI3.c
  exact ⟨a1, c1, t, s', (hsm C (by omega) fun hh => by have := hI3.la C hh; omega).trans k1, by omega, k3.fr (RPp.frm _ _) fun i hi hl => hsm i hl fun hh => by have := hI3.la i hh; have := hEl i hi; omega, k4⟩
 ·rcases e7 i hi with hh | hh | hh
  ·exact hI3.la i hh
  ·simp at hh
  ·omega
 ·exact List.nodup_append.2 ⟨hI3.nd, by simp, fun a ha b hb hab => by simp at hb; subst hb; subst hab; exact hmem ha⟩
 ·rcases List.mem_append.1 hx with hh | hh
  ·exact hI3.rg x hh
  ·simp at hh; subst hh; exact ⟨s0, hs⟩
end Go.Proofs.YtpoedfmkiiijnaaDoor
