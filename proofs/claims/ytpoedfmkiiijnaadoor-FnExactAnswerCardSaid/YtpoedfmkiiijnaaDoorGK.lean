/- Texts of this repo, one behind the other (To0). Plain lemmas and walks. -/
import Derived.Test.YtpoedfmkiiijnaaDoorGD
import Derived.Test.YtpoedfmkiiijnaaDoorGF
namespace Go.Proofs.YtpoedfmkiiijnaaDoor
open Go Go.RowKit Go.Proofs.YtpoedfmkiiijnaaDoorAm
set_option linter.unusedVariables false
set_option linter.unusedSimpArgs false
set_option maxRecDepth 10000
set_option maxHeartbeats 4000000
def subN (a n : Int) : Int := if n ≤ a then a - n else -1
theorem subN_lt {a n : Int} (h : n ≤ a) : subN a n = a - n := by simp [subN, h]
theorem subN_no {a n : Int} (h : ¬ n ≤ a) : subN a n = -1 := by simp [subN, h]

def B7 : SC := .seq (.reg [⟨some 2, .assign (.const (.slice none 0 0)), none, []⟩]) (.seq (.reg [⟨some 5, .move (.tmp 0), none, []⟩, ⟨some 6, .call { callee := (.builtin .len), args := #[(.tmp 5)], argTypes := #[22] }, none, []⟩, ⟨some 7, .makeSlice 22 (.tmp 6) (.tmp 6), none, []⟩, ⟨some 3, .assign (.tmp 7), none, []⟩]) (.seq (.seq (.reg [⟨some 4, .assign (.const (.int .i64 0)), none, []⟩]) (.block 0 (.loop (.seq (.seq (.reg [⟨some 8, .move (.tmp 4), none, []⟩, ⟨some 9, .move (.tmp 0), none, []⟩, ⟨some 10, .call { callee := (.builtin .len), args := #[(.tmp 9)], argTypes := #[22] }, none, []⟩, ⟨some 11, .binOp .lss 3 (.tmp 8) (.tmp 10) 3, none, []⟩]) (.cond (.tmp 11) .skip (.exit 0))) (.seq (.block 1 (.reg [⟨some 14, .move (.tmp 3), none, []⟩, ⟨some 15, .move (.tmp 4), none, []⟩, ⟨some 16, .move (.tmp 0), none, []⟩, ⟨some 17, .move (.tmp 4), none, []⟩, ⟨some 18, .indexAddr 22 (.tmp 16) (.tmp 17), none, []⟩, ⟨some 19, .load 3 (.tmp 18), none, []⟩, ⟨some 20, .indexAddr 22 (.tmp 14) (.tmp 15), none, []⟩, ⟨none, .store 3 (.tmp 20) (.tmp 19), none, []⟩])) (.reg [⟨some 12, .move (.tmp 4), none, []⟩, ⟨some 13, .binOp .add 3 (.tmp 12) (.const (.int .i64 1)) 3, none, []⟩, ⟨some 4, .assign (.tmp 13), none, []⟩])))))) (.seq (.reg [⟨some 21, .move (.tmp 3), none, []⟩, ⟨some 2, .assign (.tmp 21), none, []⟩]) .ret)))
theorem s7 : Tryd.f7.body.bind (stripC 22) = some B7 := by kernel_rfl
theorem toIntS_mk {H : Heap} {E : List Nat} {v : Value} {xs : List Int} (h : RS 1 RInt H E v xs) (hb : xs.length ≤ 1048576) : Mkr Tryd.prog 7 [v] H fun H' E' v' => RS 1 RInt H' E' v' xs := by
  obtain ⟨a1, c1, rfl⟩ := h.form
  have hb1 : (8 : Int) * (xs.length : Int) ≤ 281474976710656 := by omega
  have hb2 : (xs.length : Int) ≤ 9223372036854775807 := by omega
  have hlen : ∀ x, (cInt x).length = 1 := fun _ => rfl
  refine Mkr.of_bodyS (N := 22) Tryd.func7 s7 (by kernel_rfl) rfl rfl (by simp) ?_; unfold B7
  repeat (first | refine sA ?_ | refine sB ?_ | refine sC ?_ | refine sD ?_ | refine sE rfl ?_ | refine sF rfl ?_ | refine sG rfl ?_ | (refine sk_reg fun K hK => ?_; simp [hb1, hb2]; refine hK _ ?_; clear hK K))
  refine sk_rng xs.length (fun i => [(0, .slice a1 xs.length c1), (3, sl H.length 0 xs.length), (4, iv i)]) (fun i H1 => Gro H H1 ∧ ∃ rest, H1[H.length]? = some ⟨3, (xs.take i).flatMap cInt ++ rest, true, true⟩ ∧ rest.length = (xs.length - i) * 1) (by simp [subL, getT]) ⟨(by first | exact Gro.refl _ | exact Gro.one _ _), _, by simp; rfl, by simp⟩ ?_ ?_
  · rintro i H1 hi ⟨hg, rest, hb, hrl⟩
    have hl := hg.len
    have hw := wrap_id (x := (i : Int) + 1) (by omega) (by omega)
    have hdl : ((xs.take i).flatMap cInt).length = i * 1 := by rw [flatMap_len hlen, List.length_take, Nat.min_eq_left (by omega)]
    obtain ⟨r0, rest, rfl⟩ : ∃ r0 rest', rest = r0 :: rest' := by
      match rest, hrl with
      | [], hrl => simp at hrl; omega
      | r0 :: rest, _ => exact ⟨r0, rest, rfl⟩
    obtain ⟨id, o, hv, hid, d0⟩ := (h.gro hg (RP.frm _)).int hi

    have g0 : CF H1 H.length (i * 1) r0 := CF.of hb rfl (by have := get_mid (j := 0) (z := rest) (m := [r0]) hdl rfl; simpa using this)
    simp only [Nat.mul_one] at g0
    have hrw := rw_get hb
    have hnew := puts_at H.length [iv xs[i]] H1 (i * 1) _ ((xs.take i).flatMap cInt) [r0] rest hb (by simp) hdl rfl
    repeat (first | refine sA ?_ | refine sB ?_ | refine sC ?_ | refine sD ?_ | refine sE rfl ?_ | refine sF rfl ?_ | refine sG rfl ?_ | (refine sk_reg fun K hK => ?_; simp [hi, hv, d0.s, g0.s, hw, hl, hrw]; refine hK _ ?_; clear hK K))
    refine sk_inv ⟨by simp [subL, getT, hv], hg.put (by omega) _ _, rest, ?_, by simp at hrl; omega⟩
    have e : (xs.take (i + 1)).flatMap cInt = (xs.take i).flatMap cInt ++ [iv xs[i]] := by rw [take_snoc hi, List.flatMap_append]; simp [cInt]
    rw [e, List.append_assoc]
    rw [Nat.mul_one] at hnew
    exact hnew
  · rintro H1 ⟨hg, rest, hb, hrl⟩
    obtain rfl : rest = [] := by simpa using hrl
    rw [List.take_length, List.append_nil] at hb
    repeat (first | refine sA ?_ | refine sB ?_ | refine sC ?_ | refine sD ?_ | refine sE rfl ?_ | refine sF rfl ?_ | refine sG rfl ?_ | (refine sk_reg fun K hK => ?_; simp; refine hK _ ?_; clear hK K))
    refine sk_ret ?_; simp
    refine ⟨hg.len, fun i hi => hg.same hi, [H.length], ⟨by omega, .inr ⟨H.length, 0, [], 3, true, [], _, [], rfl, rfl, by simpa using hb, rfl, RCs.plain hlen _ _⟩⟩, ⟨by simp, fun id hid => by simp at hid; subst hid; exact rw_get hb⟩, fun e he => by simp at he; omega⟩

def B37 : SC := .seq (.reg [⟨some 1, .box 61 (.tmp 0), none, []⟩, ⟨some 2, .alloc 57, none, []⟩]) (.seq (.reg [⟨some 3, .alloc 57, none, []⟩]) (.seq (.reg [⟨some 4, .fieldAddr 61 (.tmp 1) 0, none, []⟩, ⟨some 5, .load 3 (.tmp 4), none, []⟩, ⟨some 6, .fieldAddr 57 (.tmp 3) 0, none, []⟩, ⟨none, .store 3 (.tmp 6) (.tmp 5), none, []⟩]) (.seq (.reg [⟨some 7, .fieldAddr 61 (.tmp 1) 1, none, []⟩, ⟨some 8, .load 3 (.tmp 7), none, []⟩, ⟨some 9, .fieldAddr 57 (.tmp 3) 1, none, []⟩, ⟨none, .store 3 (.tmp 9) (.tmp 8), none, []⟩]) (.seq (.reg [⟨some 10, .fieldAddr 61 (.tmp 1) 2, none, []⟩, ⟨some 11, .load 3 (.tmp 10), none, []⟩, ⟨some 12, .fieldAddr 57 (.tmp 3) 2, none, []⟩, ⟨none, .store 3 (.tmp 12) (.tmp 11), none, []⟩]) (.seq (.reg [⟨some 13, .load 57 (.tmp 3), none, []⟩, ⟨none, .store 57 (.tmp 2) (.tmp 13), none, []⟩]) .ret)))))
theorem s37 : Tryd.f37.body.bind (stripC 14) = some B37 := by kernel_rfl
theorem toEvent_ac {H : Heap} (x : Evt) : AC Tryd.prog 37 [.agg (cEv x).toArray] H (.agg (cEv x).toArray) H [] := by
  refine AC.of_pureCS (N := 14) Tryd.func37 s37 (by kernel_rfl) rfl rfl (by simp) (Clo.plains rfl _) ?_; unfold B37
  simp only [cEv]
  repeat (first | refine sA ?_ | refine sB ?_ | refine sC ?_ | refine sD ?_ | refine sE rfl ?_ | refine sF rfl ?_ | refine sG rfl ?_ | (refine sk_reg fun K hK => ?_; simp; refine hK _ ?_; clear hK K))
  refine sk_ret ?_; simp

def B5 : SC := .seq (.reg [⟨some 4, .assign (.const (.int .i64 0)), none, []⟩]) (.seq (.reg [⟨some 5, .move (.tmp 1), none, []⟩, ⟨some 6, .move (.tmp 0), none, []⟩, ⟨some 7, .call { callee := (.builtin .len), args := #[(.tmp 6)], argTypes := #[23] }, none, []⟩, ⟨some 8, .binOp .sub 3 (.tmp 5) (.tmp 7) 3, none, []⟩, ⟨some 1, .assign (.tmp 8), none, []⟩]) (.seq (.seq (.reg [⟨some 9, .move (.tmp 1), none, []⟩, ⟨some 10, .binOp .lss 3 (.tmp 9) (.const (.int .i64 0)) 3, none, []⟩]) (.cond (.tmp 10) (.seq (.reg [⟨some 4, .assign (.const (.int .i64 (-1))), none, []⟩]) .ret) .skip)) (.seq (.reg [⟨some 11, .move (.tmp 1), none, []⟩, ⟨some 4, .assign (.tmp 11), none, []⟩]) .ret)))
theorem s5 : Tryd.f5.body.bind (stripC 12) = some B5 := by kernel_rfl
theorem szActS_ac {H : Heap} {E : List Nat} {v : Value} {xs : List Actn} (h : RS 6 RAc H E v xs) {a : Int} (ha : 0 ≤ a ∧ a ≤ 1048576) : AC Tryd.prog 5 [v, iv a] H (iv (subN a xs.length)) H [] := by
  obtain ⟨a1, c1, rfl⟩ := h.form
  have hn := h.1
  have hw := wrap_id (x := a - xs.length) (by omega) (by omega)
  refine AC.of_pureS (N := 12) Tryd.func5 s5 (by kernel_rfl) rfl rfl (by simp) rfl ?_; unfold B5
  by_cases q : (xs.length : Int) ≤ a
  · have q' : ¬ (a - (xs.length : Int) < 0) := by omega
    have hr := subN_lt q
    repeat (first | refine sA ?_ | refine sB ?_ | refine sC ?_ | refine sD ?_ | refine sE rfl ?_ | refine sF rfl ?_ | refine sG rfl ?_ | (refine sk_reg fun K hK => ?_; simp [hw, q']; refine hK _ ?_; clear hK K))
    refine sk_ret ?_; simp [hr]
  · have q' : a - (xs.length : Int) < 0 := by omega
    have hr := subN_no q
    repeat (first | refine sA ?_ | refine sB ?_ | refine sC ?_ | refine sD ?_ | refine sE rfl ?_ | refine sF rfl ?_ | refine sG rfl ?_ | (refine sk_reg fun K hK => ?_; simp [hw, q']; refine hK _ ?_; clear hK K))
    refine sk_ret ?_; simp [hr]

def B20 : SC := .seq (.reg [⟨some 1, .box 63 (.tmp 0), none, []⟩, ⟨some 2, .alloc 59, none, []⟩]) (.seq (.reg [⟨some 3, .alloc 59, none, []⟩]) (.seq (.reg [⟨some 4, .fieldAddr 63 (.tmp 1) 0, none, []⟩, ⟨some 5, .load 3 (.tmp 4), none, []⟩, ⟨some 6, .fieldAddr 59 (.tmp 3) 0, none, []⟩, ⟨none, .store 3 (.tmp 6) (.tmp 5), none, []⟩]) (.seq (.reg [⟨some 7, .fieldAddr 63 (.tmp 1) 1, none, []⟩, ⟨some 8, .load 61 (.tmp 7), none, []⟩, ⟨some 9, .call { callee := (.value (.func 37)), args := #[(.tmp 8)], argTypes := #[61] }, none, []⟩, ⟨some 10, .fieldAddr 59 (.tmp 3) 1, none, []⟩, ⟨none, .store 57 (.tmp 10) (.tmp 9), none, []⟩]) (.seq (.reg [⟨some 11, .fieldAddr 63 (.tmp 1) 2, none, []⟩, ⟨some 12, .load 3 (.tmp 11), none, []⟩, ⟨some 13, .fieldAddr 59 (.tmp 3) 2, none, []⟩, ⟨none, .store 3 (.tmp 13) (.tmp 12), none, []⟩]) (.seq (.reg [⟨some 14, .fieldAddr 63 (.tmp 1) 3, none, []⟩, ⟨some 15, .load 3 (.tmp 14), none, []⟩, ⟨some 16, .fieldAddr 59 (.tmp 3) 3, none, []⟩, ⟨none, .store 3 (.tmp 16) (.tmp 15), none, []⟩]) (.seq (.reg [⟨some 17, .load 59 (.tmp 3), none, []⟩, ⟨none, .store 59 (.tmp 2) (.tmp 17), none, []⟩]) .ret))))))
theorem s20 : Tryd.f20.body.bind (stripC 18) = some B20 := by kernel_rfl
theorem toAct_ac {H : Heap} (x : Actn) : AC Tryd.prog 20 [.agg (cAc x).toArray] H (.agg (cAc x).toArray) H [] := by
  have tev := fun L : Heap => toEvent_ac (H := H ++ L) x.ev
  simp only [cEv] at tev
  refine AC.of_pureCS (N := 18) Tryd.func20 s20 (by kernel_rfl) rfl rfl (by simp) (Clo.plains rfl _) ?_; unfold B20
  simp only [cAc]
  repeat (first | refine sA ?_ | refine sB ?_ | refine sC ?_ | refine sD ?_ | refine sE rfl ?_ | refine sF rfl ?_ | refine sG rfl ?_ | (refine sk_reg fun K hK => ?_; simp; (repeat ((first | refine AskX.go (tev _) ?_); simp)); refine hK _ ?_; clear hK K))
  refine sk_ret ?_; simp

def B8 : SC := .seq (.reg [⟨some 2, .assign (.const (.slice none 0 0)), none, []⟩]) (.seq (.reg [⟨some 5, .move (.tmp 0), none, []⟩, ⟨some 6, .call { callee := (.builtin .len), args := #[(.tmp 5)], argTypes := #[23] }, none, []⟩, ⟨some 7, .makeSlice 27 (.tmp 6) (.tmp 6), none, []⟩, ⟨some 3, .assign (.tmp 7), none, []⟩]) (.seq (.seq (.reg [⟨some 4, .assign (.const (.int .i64 0)), none, []⟩]) (.block 0 (.loop (.seq (.seq (.reg [⟨some 8, .move (.tmp 4), none, []⟩, ⟨some 9, .move (.tmp 0), none, []⟩, ⟨some 10, .call { callee := (.builtin .len), args := #[(.tmp 9)], argTypes := #[23] }, none, []⟩, ⟨some 11, .binOp .lss 3 (.tmp 8) (.tmp 10) 3, none, []⟩]) (.cond (.tmp 11) .skip (.exit 0))) (.seq (.block 1 (.reg [⟨some 14, .move (.tmp 3), none, []⟩, ⟨some 15, .move (.tmp 4), none, []⟩, ⟨some 16, .move (.tmp 0), none, []⟩, ⟨some 17, .move (.tmp 4), none, []⟩, ⟨some 18, .indexAddr 23 (.tmp 16) (.tmp 17), none, []⟩, ⟨some 19, .load 63 (.tmp 18), none, []⟩, ⟨some 20, .call { callee := (.value (.func 20)), args := #[(.tmp 19)], argTypes := #[63] }, none, []⟩, ⟨some 21, .indexAddr 27 (.tmp 14) (.tmp 15), none, []⟩, ⟨none, .store 59 (.tmp 21) (.tmp 20), none, []⟩])) (.reg [⟨some 12, .move (.tmp 4), none, []⟩, ⟨some 13, .binOp .add 3 (.tmp 12) (.const (.int .i64 1)) 3, none, []⟩, ⟨some 4, .assign (.tmp 13), none, []⟩])))))) (.seq (.reg [⟨some 22, .move (.tmp 3), none, []⟩, ⟨some 2, .assign (.tmp 22), none, []⟩]) .ret)))
theorem s8 : Tryd.f8.body.bind (stripC 23) = some B8 := by kernel_rfl
theorem toActS_mk {H : Heap} {E : List Nat} {v : Value} {xs : List Actn} (h : RS 6 RAc H E v xs) (hb : xs.length ≤ 1048576) : Mkr Tryd.prog 8 [v] H fun H' E' v' => RS 6 RAc H' E' v' xs := by
  obtain ⟨a1, c1, rfl⟩ := h.form
  have hb1 : (48 : Int) * (xs.length : Int) ≤ 281474976710656 := by omega
  have hb2 : (xs.length : Int) ≤ 9223372036854775807 := by omega
  have hlen : ∀ x, (cAc x).length = 6 := fun _ => rfl
  refine Mkr.of_bodyS (N := 23) Tryd.func8 s8 (by kernel_rfl) rfl rfl (by simp) ?_; unfold B8
  repeat (first | refine sA ?_ | refine sB ?_ | refine sC ?_ | refine sD ?_ | refine sE rfl ?_ | refine sF rfl ?_ | refine sG rfl ?_ | (refine sk_reg fun K hK => ?_; simp [hb1, hb2]; refine hK _ ?_; clear hK K))
  refine sk_rng xs.length (fun i => [(0, .slice a1 xs.length c1), (3, sl H.length 0 xs.length), (4, iv i)]) (fun i H1 => Gro H H1 ∧ ∃ rest, H1[H.length]? = some ⟨59, (xs.take i).flatMap cAc ++ rest, true, true⟩ ∧ rest.length = (xs.length - i) * 6) (by simp [subL, getT]) ⟨(by first | exact Gro.refl _ | exact Gro.one _ _), _, by simp; rfl, by simp⟩ ?_ ?_
  · rintro i H1 hi ⟨hg, rest, hb, hrl⟩
    have hl := hg.len
    have hw := wrap_id (x := (i : Int) + 1) (by omega) (by omega)
    have hdl : ((xs.take i).flatMap cAc).length = i * 6 := by rw [flatMap_len hlen, List.length_take, Nat.min_eq_left (by omega)]
    obtain ⟨r0, r1, r2, r3, r4, r5, rest, rfl⟩ : ∃ r0 r1 r2 r3 r4 r5 rest', rest = r0 :: r1 :: r2 :: r3 :: r4 :: r5 :: rest' := by
      match rest, hrl with
      | [], hrl => simp at hrl; omega
      | [_], hrl => simp at hrl; omega
      | [_, _], hrl => simp at hrl; omega
      | [_, _, _], hrl => simp at hrl; omega
      | [_, _, _, _], hrl => simp at hrl; omega
      | [_, _, _, _, _], hrl => simp at hrl; omega
      | r0 :: r1 :: r2 :: r3 :: r4 :: r5 :: rest, _ => exact ⟨r0, r1, r2, r3, r4, r5, rest, rfl⟩
    obtain ⟨id, o, Ek, cs, hv, hid, _, _, hR, hsz, hc⟩ := (h.gro hg (RP.frm _)).at hi
    obtain ⟨_, rfl⟩ := hR
    have d0 : CF H1 _ _ _ := hc 0 _ rfl
    have d1 : CF H1 _ _ _ := hc 1 _ rfl
    have d2 : CF H1 _ _ _ := hc 2 _ rfl
    have d3 : CF H1 _ _ _ := hc 3 _ rfl
    have d4 : CF H1 _ _ _ := hc 4 _ rfl
    have d5 : CF H1 _ _ _ := hc 5 _ rfl
    simp only [Nat.add_zero] at d0
    have tc := toAct_ac (H := H1) xs[i]
    simp only [cAc] at tc

    have g0 : CF H1 H.length (i * 6) r0 := CF.of hb rfl (by have := get_mid (j := 0) (z := rest) (m := [r0, r1, r2, r3, r4, r5]) hdl rfl; simpa using this)
    have g1 : CF H1 H.length (i * 6 + 1) r1 := CF.of hb rfl (by have := get_mid (j := 1) (z := rest) (m := [r0, r1, r2, r3, r4, r5]) hdl rfl; simpa using this)
    have g2 : CF H1 H.length (i * 6 + 2) r2 := CF.of hb rfl (by have := get_mid (j := 2) (z := rest) (m := [r0, r1, r2, r3, r4, r5]) hdl rfl; simpa using this)
    have g3 : CF H1 H.length (i * 6 + 3) r3 := CF.of hb rfl (by have := get_mid (j := 3) (z := rest) (m := [r0, r1, r2, r3, r4, r5]) hdl rfl; simpa using this)
    have g4 : CF H1 H.length (i * 6 + 4) r4 := CF.of hb rfl (by have := get_mid (j := 4) (z := rest) (m := [r0, r1, r2, r3, r4, r5]) hdl rfl; simpa using this)
    have g5 : CF H1 H.length (i * 6 + 5) r5 := CF.of hb rfl (by have := get_mid (j := 5) (z := rest) (m := [r0, r1, r2, r3, r4, r5]) hdl rfl; simpa using this)
    have hrw := rw_get hb
    have hnew := puts_at H.length [iv xs[i].op, iv xs[i].ev.op, iv xs[i].ev.train, iv xs[i].ev.n, iv xs[i].train, iv xs[i].n] H1 (i * 6) _ ((xs.take i).flatMap cAc) [r0, r1, r2, r3, r4, r5] rest hb (by simp) hdl rfl
    repeat (first | refine sA ?_ | refine sB ?_ | refine sC ?_ | refine sD ?_ | refine sE rfl ?_ | refine sF rfl ?_ | refine sG rfl ?_ | (refine sk_reg fun K hK => ?_; simp [hi, hv, d0.s, d1.s, d2.s, d3.s, d4.s, d5.s, g0.s, g1.s, g2.s, g3.s, g4.s, g5.s, hw, hl, hrw]; (repeat ((first | refine AskX.go (tc) ?_); simp [hi, hv, d0.s, d1.s, d2.s, d3.s, d4.s, d5.s, g0.s, g1.s, g2.s, g3.s, g4.s, g5.s, hw, hl, hrw])); refine hK _ ?_; clear hK K))
    refine sk_inv ⟨by simp [subL, getT, hv], hg.put (by omega) _ _ |>.put (by omega) _ _ |>.put (by omega) _ _ |>.put (by omega) _ _ |>.put (by omega) _ _ |>.put (by omega) _ _, rest, ?_, by simp at hrl; omega⟩
    have e : (xs.take (i + 1)).flatMap cAc = (xs.take i).flatMap cAc ++ [iv xs[i].op, iv xs[i].ev.op, iv xs[i].ev.train, iv xs[i].ev.n, iv xs[i].train, iv xs[i].n] := by rw [take_snoc hi, List.flatMap_append]; simp [cAc]
    rw [e, List.append_assoc]
    exact hnew
  · rintro H1 ⟨hg, rest, hb, hrl⟩
    obtain rfl : rest = [] := by simpa using hrl
    rw [List.take_length, List.append_nil] at hb
    repeat (first | refine sA ?_ | refine sB ?_ | refine sC ?_ | refine sD ?_ | refine sE rfl ?_ | refine sF rfl ?_ | refine sG rfl ?_ | (refine sk_reg fun K hK => ?_; simp; refine hK _ ?_; clear hK K))
    refine sk_ret ?_; simp
    refine ⟨hg.len, fun i hi => hg.same hi, [H.length], ⟨by omega, .inr ⟨H.length, 0, [], 59, true, [], _, [], rfl, rfl, by simpa using hb, rfl, RCs.plain hlen _ _⟩⟩, ⟨by simp, fun id hid => by simp at hid; subst hid; exact rw_get hb⟩, fun e he => by simp at he; omega⟩

end Go.Proofs.YtpoedfmkiiijnaaDoor
