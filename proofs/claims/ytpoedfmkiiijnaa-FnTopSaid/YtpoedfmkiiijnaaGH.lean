/- Texts of this repo, one behind the other (To1 To2 To3). Plain lemmas and walks. -/
import Derived.Test.YtpoedfmkiiijnaaGK
namespace Go.Proofs.Ytpoedfmkiiijnaa
open Go Go.RowKit Go.Proofs.YtpoedfmkiiijnaaAm
set_option linter.unusedVariables false
set_option linter.unusedSimpArgs false
set_option maxRecDepth 10000
set_option maxHeartbeats 4000000
def B142 : SC := .seq (.reg [⟨some 4, .assign (.const (.int .i64 0)), none, []⟩]) (.seq (.reg [⟨some 5, .move (.tmp 1), none, []⟩, ⟨some 6, .move (.tmp 0), none, []⟩, ⟨some 7, .call { callee := (.builtin .len), args := #[(.tmp 6)], argTypes := #[157] }, none, []⟩, ⟨some 8, .binOp .sub 3 (.tmp 5) (.tmp 7) 3, none, []⟩, ⟨some 1, .assign (.tmp 8), none, []⟩]) (.seq (.seq (.reg [⟨some 9, .move (.tmp 1), none, []⟩, ⟨some 10, .binOp .lss 3 (.tmp 9) (.const (.int .i64 0)) 3, none, []⟩]) (.cond (.tmp 10) (.seq (.reg [⟨some 4, .assign (.const (.int .i64 (-1))), none, []⟩]) .ret) .skip)) (.seq (.reg [⟨some 11, .move (.tmp 1), none, []⟩, ⟨some 4, .assign (.tmp 11), none, []⟩]) .ret)))
theorem s142 : Try.f142.body.bind (stripC 12) = some B142 := by kernel_rfl
theorem szGrantS_ac {H : Heap} {E : List Nat} {v : Value} {xs : List Gr} (h : RS 2 RGr H E v xs) {a : Int} (ha : 0 ≤ a ∧ a ≤ 1048576) : AC Try.prog 142 [v, iv a] H (iv (subN a xs.length)) H [] := by
  obtain ⟨a1, c1, rfl⟩ := h.form
  have hn := h.1
  have hw := wrap_id (x := a - xs.length) (by omega) (by omega)
  refine AC.of_pureS (N := 12) Try.func142 s142 (by kernel_rfl) rfl rfl (by simp) rfl ?_; unfold B142
  by_cases q : (xs.length : Int) ≤ a
  · have q' : ¬ (a - (xs.length : Int) < 0) := by omega
    have hr := subN_lt q
    repeat (first | refine sA ?_ | refine sB ?_ | refine sC ?_ | refine sD ?_ | refine sE rfl ?_ | refine sF rfl ?_ | refine sG rfl ?_ | (refine sk_reg fun K hK => ?_; simp [hw, q']; refine hK _ ?_; clear hK K))
    refine sk_ret ?_; simp [hr]
  · have q' : a - (xs.length : Int) < 0 := by omega
    have hr := subN_no q
    repeat (first | refine sA ?_ | refine sB ?_ | refine sC ?_ | refine sD ?_ | refine sE rfl ?_ | refine sF rfl ?_ | refine sG rfl ?_ | (refine sk_reg fun K hK => ?_; simp [hw, q']; refine hK _ ?_; clear hK K))
    refine sk_ret ?_; simp [hr]

def B146 : SC := .seq (.reg [⟨some 1, .box 174 (.tmp 0), none, []⟩, ⟨some 2, .alloc 45, none, []⟩]) (.seq (.reg [⟨some 3, .alloc 45, none, []⟩]) (.seq (.reg [⟨some 4, .fieldAddr 174 (.tmp 1) 0, none, []⟩, ⟨some 5, .load 3 (.tmp 4), none, []⟩, ⟨some 6, .fieldAddr 45 (.tmp 3) 0, none, []⟩, ⟨none, .store 3 (.tmp 6) (.tmp 5), none, []⟩]) (.seq (.reg [⟨some 7, .fieldAddr 174 (.tmp 1) 1, none, []⟩, ⟨some 8, .load 3 (.tmp 7), none, []⟩, ⟨some 9, .fieldAddr 45 (.tmp 3) 1, none, []⟩, ⟨none, .store 3 (.tmp 9) (.tmp 8), none, []⟩]) (.seq (.reg [⟨some 10, .load 45 (.tmp 3), none, []⟩, ⟨none, .store 45 (.tmp 2) (.tmp 10), none, []⟩]) .ret))))
theorem s146 : Try.f146.body.bind (stripC 11) = some B146 := by kernel_rfl
theorem toGrant_ac {H : Heap} (x : Gr) : AC Try.prog 146 [.agg (cGr x).toArray] H (.agg (cGr x).toArray) H [] := by
  refine AC.of_pureCS (N := 11) Try.func146 s146 (by kernel_rfl) rfl rfl (by simp) (Clo.plains rfl _) ?_; unfold B146
  simp only [cGr]
  repeat (first | refine sA ?_ | refine sB ?_ | refine sC ?_ | refine sD ?_ | refine sE rfl ?_ | refine sF rfl ?_ | refine sG rfl ?_ | (refine sk_reg fun K hK => ?_; simp; refine hK _ ?_; clear hK K))
  refine sk_ret ?_; simp

def B143 : SC := .seq (.reg [⟨some 2, .assign (.const (.slice none 0 0)), none, []⟩]) (.seq (.reg [⟨some 5, .move (.tmp 0), none, []⟩, ⟨some 6, .call { callee := (.builtin .len), args := #[(.tmp 5)], argTypes := #[157] }, none, []⟩, ⟨some 7, .makeSlice 41 (.tmp 6) (.tmp 6), none, []⟩, ⟨some 3, .assign (.tmp 7), none, []⟩]) (.seq (.seq (.reg [⟨some 4, .assign (.const (.int .i64 0)), none, []⟩]) (.block 0 (.loop (.seq (.seq (.reg [⟨some 8, .move (.tmp 4), none, []⟩, ⟨some 9, .move (.tmp 0), none, []⟩, ⟨some 10, .call { callee := (.builtin .len), args := #[(.tmp 9)], argTypes := #[157] }, none, []⟩, ⟨some 11, .binOp .lss 3 (.tmp 8) (.tmp 10) 3, none, []⟩]) (.cond (.tmp 11) .skip (.exit 0))) (.seq (.block 1 (.reg [⟨some 14, .move (.tmp 3), none, []⟩, ⟨some 15, .move (.tmp 4), none, []⟩, ⟨some 16, .move (.tmp 0), none, []⟩, ⟨some 17, .move (.tmp 4), none, []⟩, ⟨some 18, .indexAddr 157 (.tmp 16) (.tmp 17), none, []⟩, ⟨some 19, .load 174 (.tmp 18), none, []⟩, ⟨some 20, .call { callee := (.value (.func 146)), args := #[(.tmp 19)], argTypes := #[174] }, none, []⟩, ⟨some 21, .indexAddr 41 (.tmp 14) (.tmp 15), none, []⟩, ⟨none, .store 45 (.tmp 21) (.tmp 20), none, []⟩])) (.reg [⟨some 12, .move (.tmp 4), none, []⟩, ⟨some 13, .binOp .add 3 (.tmp 12) (.const (.int .i64 1)) 3, none, []⟩, ⟨some 4, .assign (.tmp 13), none, []⟩])))))) (.seq (.reg [⟨some 22, .move (.tmp 3), none, []⟩, ⟨some 2, .assign (.tmp 22), none, []⟩]) .ret)))
theorem s143 : Try.f143.body.bind (stripC 23) = some B143 := by kernel_rfl
theorem toGrantS_mk {H : Heap} {E : List Nat} {v : Value} {xs : List Gr} (h : RS 2 RGr H E v xs) (hb : xs.length ≤ 1048576) : Mkr Try.prog 143 [v] H fun H' E' v' => RS 2 RGr H' E' v' xs := by
  obtain ⟨a1, c1, rfl⟩ := h.form
  have hb1 : (16 : Int) * (xs.length : Int) ≤ 281474976710656 := by omega
  have hb2 : (xs.length : Int) ≤ 9223372036854775807 := by omega
  have hlen : ∀ x, (cGr x).length = 2 := fun _ => rfl
  refine Mkr.of_bodyS (N := 23) Try.func143 s143 (by kernel_rfl) rfl rfl (by simp) ?_; unfold B143
  repeat (first | refine sA ?_ | refine sB ?_ | refine sC ?_ | refine sD ?_ | refine sE rfl ?_ | refine sF rfl ?_ | refine sG rfl ?_ | (refine sk_reg fun K hK => ?_; simp [hb1, hb2]; refine hK _ ?_; clear hK K))
  refine sk_rng xs.length (fun i => [(0, .slice a1 xs.length c1), (3, sl H.length 0 xs.length), (4, iv i)]) (fun i H1 => Gro H H1 ∧ ∃ rest, H1[H.length]? = some ⟨45, (xs.take i).flatMap cGr ++ rest, true, true⟩ ∧ rest.length = (xs.length - i) * 2) (by simp [subL, getT]) ⟨(by first | exact Gro.refl _ | exact Gro.one _ _), _, by simp; rfl, by simp⟩ ?_ ?_
  · rintro i H1 hi ⟨hg, rest, hb, hrl⟩
    have hl := hg.len
    have hw := wrap_id (x := (i : Int) + 1) (by omega) (by omega)
    have hdl : ((xs.take i).flatMap cGr).length = i * 2 := by rw [flatMap_len hlen, List.length_take, Nat.min_eq_left (by omega)]
    obtain ⟨r0, r1, rest, rfl⟩ : ∃ r0 r1 rest', rest = r0 :: r1 :: rest' := by
      match rest, hrl with
      | [], hrl => simp at hrl; omega
      | [_], hrl => simp at hrl; omega
      | r0 :: r1 :: rest, _ => exact ⟨r0, r1, rest, rfl⟩
    obtain ⟨id, o, Ek, cs, hv, hid, _, _, hR, hsz, hc⟩ := (h.gro hg (RP.frm _)).at hi
    obtain ⟨_, rfl⟩ := hR
    have d0 : CF H1 _ _ _ := hc 0 _ rfl
    have d1 : CF H1 _ _ _ := hc 1 _ rfl
    simp only [Nat.add_zero] at d0
    have tc := toGrant_ac (H := H1) xs[i]
    simp only [cGr] at tc

    have g0 : CF H1 H.length (i * 2) r0 := CF.of hb rfl (by have := get_mid (j := 0) (z := rest) (m := [r0, r1]) hdl rfl; simpa using this)
    have g1 : CF H1 H.length (i * 2 + 1) r1 := CF.of hb rfl (by have := get_mid (j := 1) (z := rest) (m := [r0, r1]) hdl rfl; simpa using this)
    have hrw := rw_get hb
    have hnew := puts_at H.length [iv xs[i].ver, iv xs[i].cel] H1 (i * 2) _ ((xs.take i).flatMap cGr) [r0, r1] rest hb (by simp) hdl rfl
    repeat (first | refine sA ?_ | refine sB ?_ | refine sC ?_ | refine sD ?_ | refine sE rfl ?_ | refine sF rfl ?_ | refine sG rfl ?_ | (refine sk_reg fun K hK => ?_; simp [hi, hv, d0.s, d1.s, g0.s, g1.s, hw, hl, hrw]; (repeat ((first | refine AskX.go (tc) ?_); simp [hi, hv, d0.s, d1.s, g0.s, g1.s, hw, hl, hrw])); refine hK _ ?_; clear hK K))
    refine sk_inv ⟨by simp [subL, getT, hv], hg.put (by omega) _ _ |>.put (by omega) _ _, rest, ?_, by simp at hrl; omega⟩
    have e : (xs.take (i + 1)).flatMap cGr = (xs.take i).flatMap cGr ++ [iv xs[i].ver, iv xs[i].cel] := by rw [take_snoc hi, List.flatMap_append]; simp [cGr]
    rw [e, List.append_assoc]
    exact hnew
  · rintro H1 ⟨hg, rest, hb, hrl⟩
    obtain rfl : rest = [] := by simpa using hrl
    rw [List.take_length, List.append_nil] at hb
    repeat (first | refine sA ?_ | refine sB ?_ | refine sC ?_ | refine sD ?_ | refine sE rfl ?_ | refine sF rfl ?_ | refine sG rfl ?_ | (refine sk_reg fun K hK => ?_; simp; refine hK _ ?_; clear hK K))
    refine sk_ret ?_; simp
    refine ⟨hg.len, fun i hi => hg.same hi, [H.length], ⟨by omega, .inr ⟨H.length, 0, [], 45, true, [], _, [], rfl, rfl, by simpa using hb, rfl, RCs.plain hlen _ _⟩⟩, ⟨by simp, fun id hid => by simp at hid; subst hid; exact rw_get hb⟩, fun e he => by simp at he; omega⟩

def B62 : SC := .seq (.reg [⟨some 4, .assign (.const (.int .i64 0)), none, []⟩]) (.seq (.reg [⟨some 5, .move (.tmp 1), none, []⟩, ⟨some 6, .move (.tmp 0), none, []⟩, ⟨some 7, .call { callee := (.builtin .len), args := #[(.tmp 6)], argTypes := #[90] }, none, []⟩, ⟨some 8, .binOp .sub 3 (.tmp 5) (.tmp 7) 3, none, []⟩, ⟨some 1, .assign (.tmp 8), none, []⟩]) (.seq (.seq (.reg [⟨some 9, .move (.tmp 1), none, []⟩, ⟨some 10, .binOp .lss 3 (.tmp 9) (.const (.int .i64 0)) 3, none, []⟩]) (.cond (.tmp 10) (.seq (.reg [⟨some 4, .assign (.const (.int .i64 (-1))), none, []⟩]) .ret) .skip)) (.seq (.reg [⟨some 11, .move (.tmp 1), none, []⟩, ⟨some 4, .assign (.tmp 11), none, []⟩]) .ret)))
theorem s62 : Try.f62.body.bind (stripC 12) = some B62 := by kernel_rfl
theorem szEventS_ac {H : Heap} {E : List Nat} {v : Value} {xs : List Evt} (h : RS 3 REv H E v xs) {a : Int} (ha : 0 ≤ a ∧ a ≤ 1048576) : AC Try.prog 62 [v, iv a] H (iv (subN a xs.length)) H [] := by
  obtain ⟨a1, c1, rfl⟩ := h.form
  have hn := h.1
  have hw := wrap_id (x := a - xs.length) (by omega) (by omega)
  refine AC.of_pureS (N := 12) Try.func62 s62 (by kernel_rfl) rfl rfl (by simp) rfl ?_; unfold B62
  by_cases q : (xs.length : Int) ≤ a
  · have q' : ¬ (a - (xs.length : Int) < 0) := by omega
    have hr := subN_lt q
    repeat (first | refine sA ?_ | refine sB ?_ | refine sC ?_ | refine sD ?_ | refine sE rfl ?_ | refine sF rfl ?_ | refine sG rfl ?_ | (refine sk_reg fun K hK => ?_; simp [hw, q']; refine hK _ ?_; clear hK K))
    refine sk_ret ?_; simp [hr]
  · have q' : a - (xs.length : Int) < 0 := by omega
    have hr := subN_no q
    repeat (first | refine sA ?_ | refine sB ?_ | refine sC ?_ | refine sD ?_ | refine sE rfl ?_ | refine sF rfl ?_ | refine sG rfl ?_ | (refine sk_reg fun K hK => ?_; simp [hw, q']; refine hK _ ?_; clear hK K))
    refine sk_ret ?_; simp [hr]

def B63 : SC := .seq (.reg [⟨some 2, .assign (.const (.slice none 0 0)), none, []⟩]) (.seq (.reg [⟨some 5, .move (.tmp 0), none, []⟩, ⟨some 6, .call { callee := (.builtin .len), args := #[(.tmp 5)], argTypes := #[90] }, none, []⟩, ⟨some 7, .makeSlice 31 (.tmp 6) (.tmp 6), none, []⟩, ⟨some 3, .assign (.tmp 7), none, []⟩]) (.seq (.seq (.reg [⟨some 4, .assign (.const (.int .i64 0)), none, []⟩]) (.block 0 (.loop (.seq (.seq (.reg [⟨some 8, .move (.tmp 4), none, []⟩, ⟨some 9, .move (.tmp 0), none, []⟩, ⟨some 10, .call { callee := (.builtin .len), args := #[(.tmp 9)], argTypes := #[90] }, none, []⟩, ⟨some 11, .binOp .lss 3 (.tmp 8) (.tmp 10) 3, none, []⟩]) (.cond (.tmp 11) .skip (.exit 0))) (.seq (.block 1 (.reg [⟨some 14, .move (.tmp 3), none, []⟩, ⟨some 15, .move (.tmp 4), none, []⟩, ⟨some 16, .move (.tmp 0), none, []⟩, ⟨some 17, .move (.tmp 4), none, []⟩, ⟨some 18, .indexAddr 90 (.tmp 16) (.tmp 17), none, []⟩, ⟨some 19, .load 58 (.tmp 18), none, []⟩, ⟨some 20, .call { callee := (.value (.func 39)), args := #[(.tmp 19)], argTypes := #[58] }, none, []⟩, ⟨some 21, .indexAddr 31 (.tmp 14) (.tmp 15), none, []⟩, ⟨none, .store 49 (.tmp 21) (.tmp 20), none, []⟩])) (.reg [⟨some 12, .move (.tmp 4), none, []⟩, ⟨some 13, .binOp .add 3 (.tmp 12) (.const (.int .i64 1)) 3, none, []⟩, ⟨some 4, .assign (.tmp 13), none, []⟩])))))) (.seq (.reg [⟨some 22, .move (.tmp 3), none, []⟩, ⟨some 2, .assign (.tmp 22), none, []⟩]) .ret)))
theorem s63 : Try.f63.body.bind (stripC 23) = some B63 := by kernel_rfl
theorem toEventS_mk {H : Heap} {E : List Nat} {v : Value} {xs : List Evt} (h : RS 3 REv H E v xs) (hb : xs.length ≤ 1048576) : Mkr Try.prog 63 [v] H fun H' E' v' => RS 3 REv H' E' v' xs := by
  obtain ⟨a1, c1, rfl⟩ := h.form
  have hb1 : (24 : Int) * (xs.length : Int) ≤ 281474976710656 := by omega
  have hb2 : (xs.length : Int) ≤ 9223372036854775807 := by omega
  have hlen : ∀ x, (cEv x).length = 3 := fun _ => rfl
  refine Mkr.of_bodyS (N := 23) Try.func63 s63 (by kernel_rfl) rfl rfl (by simp) ?_; unfold B63
  repeat (first | refine sA ?_ | refine sB ?_ | refine sC ?_ | refine sD ?_ | refine sE rfl ?_ | refine sF rfl ?_ | refine sG rfl ?_ | (refine sk_reg fun K hK => ?_; simp [hb1, hb2]; refine hK _ ?_; clear hK K))
  refine sk_rng xs.length (fun i => [(0, .slice a1 xs.length c1), (3, sl H.length 0 xs.length), (4, iv i)]) (fun i H1 => Gro H H1 ∧ ∃ rest, H1[H.length]? = some ⟨49, (xs.take i).flatMap cEv ++ rest, true, true⟩ ∧ rest.length = (xs.length - i) * 3) (by simp [subL, getT]) ⟨(by first | exact Gro.refl _ | exact Gro.one _ _), _, by simp; rfl, by simp⟩ ?_ ?_
  · rintro i H1 hi ⟨hg, rest, hb, hrl⟩
    have hl := hg.len
    have hw := wrap_id (x := (i : Int) + 1) (by omega) (by omega)
    have hdl : ((xs.take i).flatMap cEv).length = i * 3 := by rw [flatMap_len hlen, List.length_take, Nat.min_eq_left (by omega)]
    obtain ⟨r0, r1, r2, rest, rfl⟩ : ∃ r0 r1 r2 rest', rest = r0 :: r1 :: r2 :: rest' := by
      match rest, hrl with
      | [], hrl => simp at hrl; omega
      | [_], hrl => simp at hrl; omega
      | [_, _], hrl => simp at hrl; omega
      | r0 :: r1 :: r2 :: rest, _ => exact ⟨r0, r1, r2, rest, rfl⟩
    obtain ⟨id, o, Ek, cs, hv, hid, _, _, hR, hsz, hc⟩ := (h.gro hg (RP.frm _)).at hi
    obtain ⟨_, rfl⟩ := hR
    have d0 : CF H1 _ _ _ := hc 0 _ rfl
    have d1 : CF H1 _ _ _ := hc 1 _ rfl
    have d2 : CF H1 _ _ _ := hc 2 _ rfl
    simp only [Nat.add_zero] at d0
    have tc := toEvent_ac (H := H1) xs[i]
    simp only [cEv] at tc

    have g0 : CF H1 H.length (i * 3) r0 := CF.of hb rfl (by have := get_mid (j := 0) (z := rest) (m := [r0, r1, r2]) hdl rfl; simpa using this)
    have g1 : CF H1 H.length (i * 3 + 1) r1 := CF.of hb rfl (by have := get_mid (j := 1) (z := rest) (m := [r0, r1, r2]) hdl rfl; simpa using this)
    have g2 : CF H1 H.length (i * 3 + 2) r2 := CF.of hb rfl (by have := get_mid (j := 2) (z := rest) (m := [r0, r1, r2]) hdl rfl; simpa using this)
    have hrw := rw_get hb
    have hnew := puts_at H.length [iv xs[i].op, iv xs[i].train, iv xs[i].n] H1 (i * 3) _ ((xs.take i).flatMap cEv) [r0, r1, r2] rest hb (by simp) hdl rfl
    repeat (first | refine sA ?_ | refine sB ?_ | refine sC ?_ | refine sD ?_ | refine sE rfl ?_ | refine sF rfl ?_ | refine sG rfl ?_ | (refine sk_reg fun K hK => ?_; simp [hi, hv, d0.s, d1.s, d2.s, g0.s, g1.s, g2.s, hw, hl, hrw]; (repeat ((first | refine AskX.go (tc) ?_); simp [hi, hv, d0.s, d1.s, d2.s, g0.s, g1.s, g2.s, hw, hl, hrw])); refine hK _ ?_; clear hK K))
    refine sk_inv ⟨by simp [subL, getT, hv], hg.put (by omega) _ _ |>.put (by omega) _ _ |>.put (by omega) _ _, rest, ?_, by simp at hrl; omega⟩
    have e : (xs.take (i + 1)).flatMap cEv = (xs.take i).flatMap cEv ++ [iv xs[i].op, iv xs[i].train, iv xs[i].n] := by rw [take_snoc hi, List.flatMap_append]; simp [cEv]
    rw [e, List.append_assoc]
    exact hnew
  · rintro H1 ⟨hg, rest, hb, hrl⟩
    obtain rfl : rest = [] := by simpa using hrl
    rw [List.take_length, List.append_nil] at hb
    repeat (first | refine sA ?_ | refine sB ?_ | refine sC ?_ | refine sD ?_ | refine sE rfl ?_ | refine sF rfl ?_ | refine sG rfl ?_ | (refine sk_reg fun K hK => ?_; simp; refine hK _ ?_; clear hK K))
    refine sk_ret ?_; simp
    refine ⟨hg.len, fun i hi => hg.same hi, [H.length], ⟨by omega, .inr ⟨H.length, 0, [], 49, true, [], _, [], rfl, rfl, by simpa using hb, rfl, RCs.plain hlen _ _⟩⟩, ⟨by simp, fun id hid => by simp at hid; subst hid; exact rw_get hb⟩, fun e he => by simp at he; omega⟩

def B109 : SC := .seq (.reg [⟨some 4, .assign (.const (.int .i64 0)), none, []⟩]) (.seq (.reg [⟨some 5, .move (.tmp 1), none, []⟩, ⟨some 6, .move (.tmp 0), none, []⟩, ⟨some 7, .call { callee := (.builtin .len), args := #[(.tmp 6)], argTypes := #[81] }, none, []⟩, ⟨some 8, .binOp .sub 3 (.tmp 5) (.tmp 7) 3, none, []⟩, ⟨some 1, .assign (.tmp 8), none, []⟩]) (.seq (.seq (.reg [⟨some 9, .move (.tmp 1), none, []⟩, ⟨some 10, .binOp .lss 3 (.tmp 9) (.const (.int .i64 0)) 3, none, []⟩]) (.cond (.tmp 10) (.seq (.reg [⟨some 4, .assign (.const (.int .i64 (-1))), none, []⟩]) .ret) .skip)) (.seq (.reg [⟨some 11, .move (.tmp 1), none, []⟩, ⟨some 4, .assign (.tmp 11), none, []⟩]) .ret)))
theorem s109 : Try.f109.body.bind (stripC 12) = some B109 := by kernel_rfl
theorem szBodyS_ac {H : Heap} {E : List Nat} {v : Value} {xs : List Bd} (h : RS 4 RBd H E v xs) {a : Int} (ha : 0 ≤ a ∧ a ≤ 1048576) : AC Try.prog 109 [v, iv a] H (iv (subN a xs.length)) H [] := by
  obtain ⟨a1, c1, rfl⟩ := h.form
  have hn := h.1
  have hw := wrap_id (x := a - xs.length) (by omega) (by omega)
  refine AC.of_pureS (N := 12) Try.func109 s109 (by kernel_rfl) rfl rfl (by simp) rfl ?_; unfold B109
  by_cases q : (xs.length : Int) ≤ a
  · have q' : ¬ (a - (xs.length : Int) < 0) := by omega
    have hr := subN_lt q
    repeat (first | refine sA ?_ | refine sB ?_ | refine sC ?_ | refine sD ?_ | refine sE rfl ?_ | refine sF rfl ?_ | refine sG rfl ?_ | (refine sk_reg fun K hK => ?_; simp [hw, q']; refine hK _ ?_; clear hK K))
    refine sk_ret ?_; simp [hr]
  · have q' : a - (xs.length : Int) < 0 := by omega
    have hr := subN_no q
    repeat (first | refine sA ?_ | refine sB ?_ | refine sC ?_ | refine sD ?_ | refine sE rfl ?_ | refine sF rfl ?_ | refine sG rfl ?_ | (refine sk_reg fun K hK => ?_; simp [hw, q']; refine hK _ ?_; clear hK K))
    refine sk_ret ?_; simp [hr]

def B137 : SC := .seq (.reg [⟨some 1, .box 165 (.tmp 0), none, []⟩, ⟨some 2, .alloc 72, none, []⟩]) (.seq (.reg [⟨some 3, .alloc 72, none, []⟩]) (.seq (.reg [⟨some 4, .fieldAddr 165 (.tmp 1) 0, none, []⟩, ⟨some 5, .load 3 (.tmp 4), none, []⟩, ⟨some 6, .fieldAddr 72 (.tmp 3) 0, none, []⟩, ⟨none, .store 3 (.tmp 6) (.tmp 5), none, []⟩]) (.seq (.reg [⟨some 7, .fieldAddr 165 (.tmp 1) 1, none, []⟩, ⟨some 8, .load 3 (.tmp 7), none, []⟩, ⟨some 9, .fieldAddr 72 (.tmp 3) 1, none, []⟩, ⟨none, .store 3 (.tmp 9) (.tmp 8), none, []⟩]) (.seq (.reg [⟨some 10, .fieldAddr 165 (.tmp 1) 2, none, []⟩, ⟨some 11, .load 3 (.tmp 10), none, []⟩, ⟨some 12, .fieldAddr 72 (.tmp 3) 2, none, []⟩, ⟨none, .store 3 (.tmp 12) (.tmp 11), none, []⟩]) (.seq (.reg [⟨some 13, .fieldAddr 165 (.tmp 1) 3, none, []⟩, ⟨some 14, .load 3 (.tmp 13), none, []⟩, ⟨some 15, .fieldAddr 72 (.tmp 3) 3, none, []⟩, ⟨none, .store 3 (.tmp 15) (.tmp 14), none, []⟩]) (.seq (.reg [⟨some 16, .load 72 (.tmp 3), none, []⟩, ⟨none, .store 72 (.tmp 2) (.tmp 16), none, []⟩]) .ret))))))
theorem s137 : Try.f137.body.bind (stripC 17) = some B137 := by kernel_rfl
theorem toBody_ac {H : Heap} (x : Bd) : AC Try.prog 137 [.agg (cBd x).toArray] H (.agg (cBd x).toArray) H [] := by
  refine AC.of_pureCS (N := 17) Try.func137 s137 (by kernel_rfl) rfl rfl (by simp) (Clo.plains rfl _) ?_; unfold B137
  simp only [cBd]
  repeat (first | refine sA ?_ | refine sB ?_ | refine sC ?_ | refine sD ?_ | refine sE rfl ?_ | refine sF rfl ?_ | refine sG rfl ?_ | (refine sk_reg fun K hK => ?_; simp; refine hK _ ?_; clear hK K))
  refine sk_ret ?_; simp

def B111 : SC := .seq (.reg [⟨some 2, .assign (.const (.slice none 0 0)), none, []⟩]) (.seq (.reg [⟨some 5, .move (.tmp 0), none, []⟩, ⟨some 6, .call { callee := (.builtin .len), args := #[(.tmp 5)], argTypes := #[81] }, none, []⟩, ⟨some 7, .makeSlice 62 (.tmp 6) (.tmp 6), none, []⟩, ⟨some 3, .assign (.tmp 7), none, []⟩]) (.seq (.seq (.reg [⟨some 4, .assign (.const (.int .i64 0)), none, []⟩]) (.block 0 (.loop (.seq (.seq (.reg [⟨some 8, .move (.tmp 4), none, []⟩, ⟨some 9, .move (.tmp 0), none, []⟩, ⟨some 10, .call { callee := (.builtin .len), args := #[(.tmp 9)], argTypes := #[81] }, none, []⟩, ⟨some 11, .binOp .lss 3 (.tmp 8) (.tmp 10) 3, none, []⟩]) (.cond (.tmp 11) .skip (.exit 0))) (.seq (.block 1 (.reg [⟨some 14, .move (.tmp 3), none, []⟩, ⟨some 15, .move (.tmp 4), none, []⟩, ⟨some 16, .move (.tmp 0), none, []⟩, ⟨some 17, .move (.tmp 4), none, []⟩, ⟨some 18, .indexAddr 81 (.tmp 16) (.tmp 17), none, []⟩, ⟨some 19, .load 165 (.tmp 18), none, []⟩, ⟨some 20, .call { callee := (.value (.func 137)), args := #[(.tmp 19)], argTypes := #[165] }, none, []⟩, ⟨some 21, .indexAddr 62 (.tmp 14) (.tmp 15), none, []⟩, ⟨none, .store 72 (.tmp 21) (.tmp 20), none, []⟩])) (.reg [⟨some 12, .move (.tmp 4), none, []⟩, ⟨some 13, .binOp .add 3 (.tmp 12) (.const (.int .i64 1)) 3, none, []⟩, ⟨some 4, .assign (.tmp 13), none, []⟩])))))) (.seq (.reg [⟨some 22, .move (.tmp 3), none, []⟩, ⟨some 2, .assign (.tmp 22), none, []⟩]) .ret)))
theorem s111 : Try.f111.body.bind (stripC 23) = some B111 := by kernel_rfl
theorem toBodyS_mk {H : Heap} {E : List Nat} {v : Value} {xs : List Bd} (h : RS 4 RBd H E v xs) (hb : xs.length ≤ 1048576) : Mkr Try.prog 111 [v] H fun H' E' v' => RS 4 RBd H' E' v' xs := by
  obtain ⟨a1, c1, rfl⟩ := h.form
  have hb1 : (32 : Int) * (xs.length : Int) ≤ 281474976710656 := by omega
  have hb2 : (xs.length : Int) ≤ 9223372036854775807 := by omega
  have hlen : ∀ x, (cBd x).length = 4 := fun _ => rfl
  refine Mkr.of_bodyS (N := 23) Try.func111 s111 (by kernel_rfl) rfl rfl (by simp) ?_; unfold B111
  repeat (first | refine sA ?_ | refine sB ?_ | refine sC ?_ | refine sD ?_ | refine sE rfl ?_ | refine sF rfl ?_ | refine sG rfl ?_ | (refine sk_reg fun K hK => ?_; simp [hb1, hb2]; refine hK _ ?_; clear hK K))
  refine sk_rng xs.length (fun i => [(0, .slice a1 xs.length c1), (3, sl H.length 0 xs.length), (4, iv i)]) (fun i H1 => Gro H H1 ∧ ∃ rest, H1[H.length]? = some ⟨72, (xs.take i).flatMap cBd ++ rest, true, true⟩ ∧ rest.length = (xs.length - i) * 4) (by simp [subL, getT]) ⟨(by first | exact Gro.refl _ | exact Gro.one _ _), _, by simp; rfl, by simp⟩ ?_ ?_
  · rintro i H1 hi ⟨hg, rest, hb, hrl⟩
    have hl := hg.len
    have hw := wrap_id (x := (i : Int) + 1) (by omega) (by omega)
    have hdl : ((xs.take i).flatMap cBd).length = i * 4 := by rw [flatMap_len hlen, List.length_take, Nat.min_eq_left (by omega)]
    obtain ⟨r0, r1, r2, r3, rest, rfl⟩ : ∃ r0 r1 r2 r3 rest', rest = r0 :: r1 :: r2 :: r3 :: rest' := by
      match rest, hrl with
      | [], hrl => simp at hrl; omega
      | [_], hrl => simp at hrl; omega
      | [_, _], hrl => simp at hrl; omega
      | [_, _, _], hrl => simp at hrl; omega
      | r0 :: r1 :: r2 :: r3 :: rest, _ => exact ⟨r0, r1, r2, r3, rest, rfl⟩
    obtain ⟨id, o, Ek, cs, hv, hid, _, _, hR, hsz, hc⟩ := (h.gro hg (RP.frm _)).at hi
    obtain ⟨_, rfl⟩ := hR
    have d0 : CF H1 _ _ _ := hc 0 _ rfl
    have d1 : CF H1 _ _ _ := hc 1 _ rfl
    have d2 : CF H1 _ _ _ := hc 2 _ rfl
    have d3 : CF H1 _ _ _ := hc 3 _ rfl
    simp only [Nat.add_zero] at d0
    have tc := toBody_ac (H := H1) xs[i]
    simp only [cBd] at tc

    have g0 : CF H1 H.length (i * 4) r0 := CF.of hb rfl (by have := get_mid (j := 0) (z := rest) (m := [r0, r1, r2, r3]) hdl rfl; simpa using this)
    have g1 : CF H1 H.length (i * 4 + 1) r1 := CF.of hb rfl (by have := get_mid (j := 1) (z := rest) (m := [r0, r1, r2, r3]) hdl rfl; simpa using this)
    have g2 : CF H1 H.length (i * 4 + 2) r2 := CF.of hb rfl (by have := get_mid (j := 2) (z := rest) (m := [r0, r1, r2, r3]) hdl rfl; simpa using this)
    have g3 : CF H1 H.length (i * 4 + 3) r3 := CF.of hb rfl (by have := get_mid (j := 3) (z := rest) (m := [r0, r1, r2, r3]) hdl rfl; simpa using this)
    have hrw := rw_get hb
    have hnew := puts_at H.length [iv xs[i].ver, iv xs[i].cel, iv xs[i].tail, iv xs[i].front] H1 (i * 4) _ ((xs.take i).flatMap cBd) [r0, r1, r2, r3] rest hb (by simp) hdl rfl
    repeat (first | refine sA ?_ | refine sB ?_ | refine sC ?_ | refine sD ?_ | refine sE rfl ?_ | refine sF rfl ?_ | refine sG rfl ?_ | (refine sk_reg fun K hK => ?_; simp [hi, hv, d0.s, d1.s, d2.s, d3.s, g0.s, g1.s, g2.s, g3.s, hw, hl, hrw]; (repeat ((first | refine AskX.go (tc) ?_); simp [hi, hv, d0.s, d1.s, d2.s, d3.s, g0.s, g1.s, g2.s, g3.s, hw, hl, hrw])); refine hK _ ?_; clear hK K))
    refine sk_inv ⟨by simp [subL, getT, hv], hg.put (by omega) _ _ |>.put (by omega) _ _ |>.put (by omega) _ _ |>.put (by omega) _ _, rest, ?_, by simp at hrl; omega⟩
    have e : (xs.take (i + 1)).flatMap cBd = (xs.take i).flatMap cBd ++ [iv xs[i].ver, iv xs[i].cel, iv xs[i].tail, iv xs[i].front] := by rw [take_snoc hi, List.flatMap_append]; simp [cBd]
    rw [e, List.append_assoc]
    exact hnew
  · rintro H1 ⟨hg, rest, hb, hrl⟩
    obtain rfl : rest = [] := by simpa using hrl
    rw [List.take_length, List.append_nil] at hb
    repeat (first | refine sA ?_ | refine sB ?_ | refine sC ?_ | refine sD ?_ | refine sE rfl ?_ | refine sF rfl ?_ | refine sG rfl ?_ | (refine sk_reg fun K hK => ?_; simp; refine hK _ ?_; clear hK K))
    refine sk_ret ?_; simp
    refine ⟨hg.len, fun i hi => hg.same hi, [H.length], ⟨by omega, .inr ⟨H.length, 0, [], 72, true, [], _, [], rfl, rfl, by simpa using hb, rfl, RCs.plain hlen _ _⟩⟩, ⟨by simp, fun id hid => by simp at hid; subst hid; exact rw_get hb⟩, fun e he => by simp at he; omega⟩

end Go.Proofs.Ytpoedfmkiiijnaa
namespace Go.Proofs.Ytpoedfmkiiijnaa
open Go Go.RowKit Go.Proofs.YtpoedfmkiiijnaaAm
set_option linter.unusedVariables false
set_option linter.unusedSimpArgs false
set_option maxRecDepth 10000
set_option maxHeartbeats 4000000
def szL (l : Ln) : Int := l.way.length + l.grs.length
theorem szL_nn (l : Ln) : 0 ≤ szL l := by unfold szL; omega
def szLs (ls : List Ln) : Int := ls.length + cnL szL ls
def szW (w : Wd) : Int := szLs w.book.lines + w.bodies.length
theorem subN_sub {a m n : Int} (hm : m ≤ a) (hn : 0 ≤ n) : subN (a - m) n = subN a (m + n) := by
  unfold subN; by_cases h : n ≤ a - m
  · rw [if_pos h, if_pos (by omega)]; omega
  · rw [if_neg h, if_neg (by omega)]
def B131 : SC := .seq (.reg [⟨some 2, .box 159 (.tmp 0), none, []⟩, ⟨some 4, .assign (.const (.int .i64 0)), none, []⟩]) (.seq (.reg [⟨some 5, .fieldAddr 159 (.tmp 2) 1, none, []⟩, ⟨some 6, .load 40 (.tmp 5), none, []⟩, ⟨some 7, .move (.tmp 1), none, []⟩, ⟨some 8, .call { callee := (.value (.func 141)), args := #[(.tmp 6), (.tmp 7)], argTypes := #[40, 3] }, none, []⟩, ⟨some 1, .assign (.tmp 8), none, []⟩]) (.seq (.seq (.reg [⟨some 9, .move (.tmp 1), none, []⟩, ⟨some 10, .binOp .lss 3 (.tmp 9) (.const (.int .i64 0)) 3, none, []⟩]) (.cond (.tmp 10) (.seq (.reg [⟨some 4, .assign (.const (.int .i64 (-1))), none, []⟩]) .ret) .skip)) (.seq (.reg [⟨some 11, .fieldAddr 159 (.tmp 2) 2, none, []⟩, ⟨some 12, .load 157 (.tmp 11), none, []⟩, ⟨some 13, .move (.tmp 1), none, []⟩, ⟨some 14, .call { callee := (.value (.func 142)), args := #[(.tmp 12), (.tmp 13)], argTypes := #[157, 3] }, none, []⟩, ⟨some 1, .assign (.tmp 14), none, []⟩]) (.seq (.seq (.reg [⟨some 15, .move (.tmp 1), none, []⟩, ⟨some 16, .binOp .lss 3 (.tmp 15) (.const (.int .i64 0)) 3, none, []⟩]) (.cond (.tmp 16) (.seq (.reg [⟨some 4, .assign (.const (.int .i64 (-1))), none, []⟩]) .ret) .skip)) (.seq (.reg [⟨some 17, .move (.tmp 1), none, []⟩, ⟨some 4, .assign (.tmp 17), none, []⟩]) .ret)))))
theorem s131 : Try.f131.body.bind (stripC 18) = some B131 := by kernel_rfl
theorem szLine_ac {H : Heap} {E1 E2 : List Nat} {v1 v2 : Value} {l : Ln} (h1 : RS 1 RInt H E1 v1 l.way) (h2 : RS 2 RGr H E2 v2 l.grs) {a : Int} (ha : 0 ≤ a ∧ a ≤ 1048576) :
    AC Try.prog 131 [.agg #[iv l.gone, v1, v2, iv l.drop], iv a] H (iv (subN a (szL l))) H [] := by
  have x1 := h1.one
  have x2 := h2.one
  have b1 := h1.1
  have b2 := h2.1
  refine AC.of_pureS (N := 18) Try.func131 s131 (by kernel_rfl) rfl rfl (by simp) rfl ?_; unfold B131
  by_cases q : (l.way.length : Int) ≤ a
  case neg =>
    have hr : subN a (szL l) = -1 := subN_no (by unfold szL; omega)
    have hs := subN_no q
    have s1 := fun L : Heap => szIntS_ac (H := H ++ L) (h1.ext (RP.frm _)) ha
    rw [hs] at s1
    repeat (first | refine sA ?_ | refine sB ?_ | refine sC ?_ | refine sD ?_ | refine sE rfl ?_ | refine sF rfl ?_ | refine sG rfl ?_ | (refine sk_reg fun K hK => ?_; simp [x1, x2]; (repeat ((first | refine AskX.go (s1 _) ?_); simp [x1, x2])); refine hK _ ?_; clear hK K))
    refine sk_ret ?_; simp [hr]
  have s1 := fun L : Heap => szIntS_ac (H := H ++ L) (h1.ext (RP.frm _)) ha
  rw [subN_lt q] at s1
  have q1 : ¬ (a - (l.way.length : Int) < 0) := by omega
  have s2 := fun L : Heap => szGrantS_ac (H := H ++ L) (h2.ext (RP.frm _)) (a := a - l.way.length) (by omega)
  rw [subN_sub q (by omega)] at s2
  by_cases q2 : szL l ≤ a
  · have q2' : ¬ (a - szL l < 0) := by omega
    have hr := subN_lt q2
    rw [show (l.way.length : Int) + l.grs.length = szL l from rfl, hr] at s2
    repeat (first | refine sA ?_ | refine sB ?_ | refine sC ?_ | refine sD ?_ | refine sE rfl ?_ | refine sF rfl ?_ | refine sG rfl ?_ | (refine sk_reg fun K hK => ?_; simp [x1, x2, q1, q2']; (repeat ((first | refine AskX.go (s1 _) ?_ | refine AskX.go (s2 _) ?_); simp [x1, x2, q1, q2'])); refine hK _ ?_; clear hK K))
    refine sk_ret ?_; simp [hr]
  · have hr := subN_no q2
    rw [show (l.way.length : Int) + l.grs.length = szL l from rfl, hr] at s2
    repeat (first | refine sA ?_ | refine sB ?_ | refine sC ?_ | refine sD ?_ | refine sE rfl ?_ | refine sF rfl ?_ | refine sG rfl ?_ | (refine sk_reg fun K hK => ?_; simp [x1, x2, q1]; (repeat ((first | refine AskX.go (s1 _) ?_ | refine AskX.go (s2 _) ?_); simp [x1, x2, q1])); refine hK _ ?_; clear hK K))
    refine sk_ret ?_; simp [hr]
def B95 : SC := .seq (.reg [⟨some 4, .assign (.const (.int .i64 0)), none, []⟩]) (.seq (.reg [⟨some 6, .move (.tmp 1), none, []⟩, ⟨some 7, .move (.tmp 0), none, []⟩, ⟨some 8, .call { callee := (.builtin .len), args := #[(.tmp 7)], argTypes := #[51] }, none, []⟩, ⟨some 9, .binOp .sub 3 (.tmp 6) (.tmp 8) 3, none, []⟩, ⟨some 1, .assign (.tmp 9), none, []⟩]) (.seq (.seq (.reg [⟨some 10, .move (.tmp 1), none, []⟩, ⟨some 11, .binOp .lss 3 (.tmp 10) (.const (.int .i64 0)) 3, none, []⟩]) (.cond (.tmp 11) (.seq (.reg [⟨some 4, .assign (.const (.int .i64 (-1))), none, []⟩]) .ret) .skip)) (.seq (.seq (.reg [⟨some 5, .assign (.const (.int .i64 0)), none, []⟩]) (.block 0 (.loop (.seq (.seq (.reg [⟨some 12, .move (.tmp 5), none, []⟩, ⟨some 13, .move (.tmp 0), none, []⟩, ⟨some 14, .call { callee := (.builtin .len), args := #[(.tmp 13)], argTypes := #[51] }, none, []⟩, ⟨some 15, .binOp .lss 3 (.tmp 12) (.tmp 14) 3, none, []⟩]) (.cond (.tmp 15) .skip (.exit 0))) (.seq (.block 1 (.seq (.reg [⟨some 18, .move (.tmp 0), none, []⟩, ⟨some 19, .move (.tmp 5), none, []⟩, ⟨some 20, .indexAddr 51 (.tmp 18) (.tmp 19), none, []⟩, ⟨some 21, .load 159 (.tmp 20), none, []⟩, ⟨some 22, .move (.tmp 1), none, []⟩, ⟨some 23, .call { callee := (.value (.func 131)), args := #[(.tmp 21), (.tmp 22)], argTypes := #[159, 3] }, none, []⟩, ⟨some 1, .assign (.tmp 23), none, []⟩]) (.seq (.reg [⟨some 24, .move (.tmp 1), none, []⟩, ⟨some 25, .binOp .lss 3 (.tmp 24) (.const (.int .i64 0)) 3, none, []⟩]) (.cond (.tmp 25) (.seq (.reg [⟨some 4, .assign (.const (.int .i64 (-1))), none, []⟩]) .ret) .skip)))) (.reg [⟨some 16, .move (.tmp 5), none, []⟩, ⟨some 17, .binOp .add 3 (.tmp 16) (.const (.int .i64 1)) 3, none, []⟩, ⟨some 5, .assign (.tmp 17), none, []⟩])))))) (.seq (.reg [⟨some 26, .move (.tmp 1), none, []⟩, ⟨some 4, .assign (.tmp 26), none, []⟩]) .ret))))
theorem s95 : Try.f95.body.bind (stripC 27) = some B95 := by kernel_rfl
theorem szLineS_ac {H : Heap} {E : List Nat} {v : Value} {ls : List Ln} (h : RS 4 RLn H E v ls) {a : Int} (ha : 0 ≤ a ∧ a ≤ 1048576) : AC Try.prog 95 [v, iv a] H (iv (subN a (szLs ls))) H [] := by
  obtain ⟨a1, c1, rfl⟩ := h.form
  have hn := h.1
  have hnn := cnL_nn szL_nn ls
  have hw0 := wrap_id (x := a - ls.length) (by omega) (by omega)
  refine AC.of_pureS (N := 27) Try.func95 s95 (by kernel_rfl) rfl rfl (by simp) rfl ?_; unfold B95
  by_cases q : (ls.length : Int) ≤ a
  case neg =>
    have hr : subN a (szLs ls) = -1 := subN_no (by unfold szLs; omega)
    have q' : a - (ls.length : Int) < 0 := by omega
    repeat (first | refine sA ?_ | refine sB ?_ | refine sC ?_ | refine sD ?_ | refine sE rfl ?_ | refine sF rfl ?_ | refine sG rfl ?_ | (refine sk_reg fun K hK => ?_; simp [hw0, q']; refine hK _ ?_; clear hK K))
    refine sk_ret ?_; simp [hr]
  have q' : ¬ (a - (ls.length : Int) < 0) := by omega
  repeat (first | refine sA ?_ | refine sB ?_ | refine sC ?_ | refine sD ?_ | refine sE rfl ?_ | refine sF rfl ?_ | refine sG rfl ?_ | (refine sk_reg fun K hK => ?_; simp [hw0, q']; refine hK _ ?_; clear hK K))
  refine sk_rng ls.length (fun i => [(0, .slice a1 ls.length c1), (1, iv (a - (ls.length + cnL szL (ls.take i)))), (5, iv i)]) (fun i H1 => Gro H H1 ∧ ls.length + cnL szL (ls.take i) ≤ a) (by simp [subL, getT, cnL]) ⟨(by first | exact Gro.refl _ | exact Gro.one _ _), by simpa [cnL] using q⟩ ?_ ?_
  · rintro i H1 hi ⟨hg, hle⟩
    have hl := hg.len
    have hw := wrap_id (x := (i : Int) + 1) (by omega) (by omega)
    have hsu := cnL_succ (c := szL) hi
    have hn1 := cnL_nn szL_nn (ls.take i)
    have hn2 := szL_nn ls[i]
    have hcl := cnL_le (c := szL) (xs := ls) szL_nn (i + 1)
    obtain ⟨id, o, v1, v2, E1, E2, hve, hid, d0, d1, d2, d3, hw1, hw2, x1, x2, _⟩ := (h.gro hg RLn.frm).line hi
    generalize hln : ls[i] = l at *
    have s1 := szLine_ac (H := H1) hw1 hw2 (a := a - (ls.length + cnL szL (ls.take i))) (by omega)
    rw [subN_sub hle hn2, Int.add_assoc, ← hsu] at s1
    by_cases q2 : ls.length + cnL szL (ls.take (i + 1)) ≤ a
    · have q3 : ¬ (a - (ls.length + cnL szL (ls.take (i + 1))) < 0) := by omega
      rw [subN_lt q2] at s1
      repeat (first | refine sA ?_ | refine sB ?_ | refine sC ?_ | refine sD ?_ | refine sE rfl ?_ | refine sF rfl ?_ | refine sG rfl ?_ | (refine sk_reg fun K hK => ?_; simp [hi, hve, d0.s, d1.s, d2.s, d3.s, x1, x2, hl, hw, q3]; (repeat ((first | refine AskX.go (s1) ?_); simp [hi, hve, d0.s, d1.s, d2.s, d3.s, x1, x2, hl, hw, q3])); refine hK _ ?_; clear hK K))
      exact sk_inv ⟨by simp [subL, getT, hve], hg, q2⟩
    · have hr : subN a (szLs ls) = -1 := subN_no (by unfold szLs; omega)
      rw [subN_no q2] at s1
      repeat (first | refine sA ?_ | refine sB ?_ | refine sC ?_ | refine sD ?_ | refine sE rfl ?_ | refine sF rfl ?_ | refine sG rfl ?_ | (refine sk_reg fun K hK => ?_; simp [hi, hve, d0.s, d1.s, d2.s, d3.s, x1, x2, hl]; (repeat ((first | refine AskX.go (s1) ?_); simp [hi, hve, d0.s, d1.s, d2.s, d3.s, x1, x2, hl])); refine hK _ ?_; clear hK K))
      refine sk_ret ?_; simp [hr]
      exact hg
  · rintro H1 ⟨hg, hle⟩
    rw [List.take_length] at hle ⊢
    have hr : subN a (szLs ls) = a - (ls.length + cnL szL ls) := subN_lt hle
    repeat (first | refine sA ?_ | refine sB ?_ | refine sC ?_ | refine sD ?_ | refine sE rfl ?_ | refine sF rfl ?_ | refine sG rfl ?_ | (refine sk_reg fun K hK => ?_; simp; refine hK _ ?_; clear hK K))
    refine sk_ret ?_; simp [hr]
    exact hg
def B33 : SC := .seq (.reg [⟨some 2, .box 53 (.tmp 0), none, []⟩, ⟨some 4, .assign (.const (.int .i64 0)), none, []⟩]) (.seq (.reg [⟨some 5, .fieldAddr 53 (.tmp 2) 2, none, []⟩, ⟨some 6, .load 51 (.tmp 5), none, []⟩, ⟨some 7, .move (.tmp 1), none, []⟩, ⟨some 8, .call { callee := (.value (.func 95)), args := #[(.tmp 6), (.tmp 7)], argTypes := #[51, 3] }, none, []⟩, ⟨some 1, .assign (.tmp 8), none, []⟩]) (.seq (.seq (.reg [⟨some 9, .move (.tmp 1), none, []⟩, ⟨some 10, .binOp .lss 3 (.tmp 9) (.const (.int .i64 0)) 3, none, []⟩]) (.cond (.tmp 10) (.seq (.reg [⟨some 4, .assign (.const (.int .i64 (-1))), none, []⟩]) .ret) .skip)) (.seq (.reg [⟨some 11, .move (.tmp 1), none, []⟩, ⟨some 4, .assign (.tmp 11), none, []⟩]) .ret)))
theorem s33 : Try.f33.body.bind (stripC 12) = some B33 := by kernel_rfl
theorem szBook_ac {H : Heap} {E : List Nat} {b : Bk} {cs : List Value} (h : RBk H E b cs) {a : Int} (ha : 0 ≤ a ∧ a ≤ 1048576) : AC Try.prog 33 [.agg cs.toArray, iv a] H (iv (subN a (szLs b.lines))) H [] := by
  obtain ⟨v, rfl, hv⟩ := h
  have x := hv.one
  have s1 := fun L : Heap => szLineS_ac (H := H ++ L) (hv.ext RLn.frm) ha
  refine AC.of_pureS (N := 12) Try.func33 s33 (by kernel_rfl) rfl rfl (by simp) rfl ?_; unfold B33
  by_cases q : szLs b.lines ≤ a
  · have hr := subN_lt q
    have q' : ¬ (a - szLs b.lines < 0) := by omega
    rw [hr] at s1
    repeat (first | refine sA ?_ | refine sB ?_ | refine sC ?_ | refine sD ?_ | refine sE rfl ?_ | refine sF rfl ?_ | refine sG rfl ?_ | (refine sk_reg fun K hK => ?_; simp [x, q']; (repeat ((first | refine AskX.go (s1 _) ?_); simp [x, q'])); refine hK _ ?_; clear hK K))
    refine sk_ret ?_; simp [hr]
  · have hr := subN_no q
    rw [hr] at s1
    repeat (first | refine sA ?_ | refine sB ?_ | refine sC ?_ | refine sD ?_ | refine sE rfl ?_ | refine sF rfl ?_ | refine sG rfl ?_ | (refine sk_reg fun K hK => ?_; simp [x]; (repeat ((first | refine AskX.go (s1 _) ?_); simp [x])); refine hK _ ?_; clear hK K))
    refine sk_ret ?_; simp [hr]
def B53 : SC := .seq (.reg [⟨some 2, .box 83 (.tmp 0), none, []⟩, ⟨some 4, .assign (.const (.int .i64 0)), none, []⟩]) (.seq (.reg [⟨some 5, .fieldAddr 83 (.tmp 2) 1, none, []⟩, ⟨some 6, .load 53 (.tmp 5), none, []⟩, ⟨some 7, .move (.tmp 1), none, []⟩, ⟨some 8, .call { callee := (.value (.func 33)), args := #[(.tmp 6), (.tmp 7)], argTypes := #[53, 3] }, none, []⟩, ⟨some 1, .assign (.tmp 8), none, []⟩]) (.seq (.seq (.reg [⟨some 9, .move (.tmp 1), none, []⟩, ⟨some 10, .binOp .lss 3 (.tmp 9) (.const (.int .i64 0)) 3, none, []⟩]) (.cond (.tmp 10) (.seq (.reg [⟨some 4, .assign (.const (.int .i64 (-1))), none, []⟩]) .ret) .skip)) (.seq (.reg [⟨some 11, .fieldAddr 83 (.tmp 2) 2, none, []⟩, ⟨some 12, .load 81 (.tmp 11), none, []⟩, ⟨some 13, .move (.tmp 1), none, []⟩, ⟨some 14, .call { callee := (.value (.func 109)), args := #[(.tmp 12), (.tmp 13)], argTypes := #[81, 3] }, none, []⟩, ⟨some 1, .assign (.tmp 14), none, []⟩]) (.seq (.seq (.reg [⟨some 15, .move (.tmp 1), none, []⟩, ⟨some 16, .binOp .lss 3 (.tmp 15) (.const (.int .i64 0)) 3, none, []⟩]) (.cond (.tmp 16) (.seq (.reg [⟨some 4, .assign (.const (.int .i64 (-1))), none, []⟩]) .ret) .skip)) (.seq (.reg [⟨some 17, .move (.tmp 1), none, []⟩, ⟨some 4, .assign (.tmp 17), none, []⟩]) .ret)))))
theorem s53 : Try.f53.body.bind (stripC 18) = some B53 := by kernel_rfl
theorem szWorld_ac {H : Heap} {E : List Nat} {w : Wd} {cs : List Value} (h : RWd H E w cs) {a : Int} (ha : 0 ≤ a ∧ a ≤ 1048576) : AC Try.prog 53 [.agg cs.toArray, iv a] H (iv (subN a (szW w))) H [] := by
  obtain ⟨E1, E2, c, v, rfl, rfl, hb, hv⟩ := h
  have s1 := fun L : Heap => szBook_ac (H := H ++ L) (RBk.frm.ext hb) ha
  obtain ⟨u, rfl, hu⟩ := hb
  have x := hv.one
  have y := hu.one
  have n1 : 0 ≤ szLs w.book.lines := by have := cnL_nn szL_nn w.book.lines; unfold szLs; omega
  refine AC.of_pureS (N := 18) Try.func53 s53 (by kernel_rfl) rfl rfl (by simp) rfl ?_; unfold B53
  by_cases q : szLs w.book.lines ≤ a
  case neg =>
    have hr : subN a (szW w) = -1 := subN_no (by unfold szW; omega)
    rw [subN_no q] at s1
    repeat (first | refine sA ?_ | refine sB ?_ | refine sC ?_ | refine sD ?_ | refine sE rfl ?_ | refine sF rfl ?_ | refine sG rfl ?_ | (refine sk_reg fun K hK => ?_; simp [x, y]; (repeat ((first | refine AskX.go (s1 _) ?_); simp [x, y])); refine hK _ ?_; clear hK K))
    refine sk_ret ?_; simp [hr]
  have q' : ¬ (a - szLs w.book.lines < 0) := by omega
  rw [subN_lt q] at s1
  have s2 := fun L : Heap => szBodyS_ac (H := H ++ L) (hv.ext (RP.frm _)) (a := a - szLs w.book.lines) (by omega)
  rw [subN_sub q (by omega), show szLs w.book.lines + w.bodies.length = szW w from rfl] at s2
  by_cases q2 : szW w ≤ a
  · have hr := subN_lt q2
    have q2' : ¬ (a - szW w < 0) := by omega
    rw [hr] at s2
    repeat (first | refine sA ?_ | refine sB ?_ | refine sC ?_ | refine sD ?_ | refine sE rfl ?_ | refine sF rfl ?_ | refine sG rfl ?_ | (refine sk_reg fun K hK => ?_; simp [x, y, q', q2']; (repeat ((first | refine AskX.go (s1 _) ?_ | refine AskX.go (s2 _) ?_); simp [x, y, q', q2'])); refine hK _ ?_; clear hK K))
    refine sk_ret ?_; simp [hr]
  · have hr := subN_no q2
    rw [hr] at s2
    repeat (first | refine sA ?_ | refine sB ?_ | refine sC ?_ | refine sD ?_ | refine sE rfl ?_ | refine sF rfl ?_ | refine sG rfl ?_ | (refine sk_reg fun K hK => ?_; simp [x, y, q']; (repeat ((first | refine AskX.go (s1 _) ?_ | refine AskX.go (s2 _) ?_); simp [x, y, q'])); refine hK _ ?_; clear hK K))
    refine sk_ret ?_; simp [hr]
end Go.Proofs.Ytpoedfmkiiijnaa
namespace Go.Proofs.Ytpoedfmkiiijnaa
open Go Go.RowKit Go.Proofs.YtpoedfmkiiijnaaAm
set_option linter.unusedVariables false
set_option linter.unusedSimpArgs false
set_option maxRecDepth 10000
set_option maxHeartbeats 4000000
def B132 : SC := .seq (.reg [⟨some 1, .box 159 (.tmp 0), none, []⟩, ⟨some 2, .alloc 43, none, []⟩]) (.seq (.reg [⟨some 3, .alloc 43, none, []⟩]) (.seq (.reg [⟨some 4, .fieldAddr 159 (.tmp 1) 0, none, []⟩, ⟨some 5, .load 3 (.tmp 4), none, []⟩, ⟨some 6, .fieldAddr 43 (.tmp 3) 0, none, []⟩, ⟨none, .store 3 (.tmp 6) (.tmp 5), none, []⟩]) (.seq (.reg [⟨some 7, .fieldAddr 159 (.tmp 1) 1, none, []⟩, ⟨some 8, .load 40 (.tmp 7), none, []⟩, ⟨some 9, .call { callee := (.value (.func 47)), args := #[(.tmp 8)], argTypes := #[40] }, none, []⟩, ⟨some 10, .fieldAddr 43 (.tmp 3) 1, none, []⟩, ⟨none, .store 40 (.tmp 10) (.tmp 9), none, []⟩]) (.seq (.reg [⟨some 11, .fieldAddr 159 (.tmp 1) 2, none, []⟩, ⟨some 12, .load 157 (.tmp 11), none, []⟩, ⟨some 13, .call { callee := (.value (.func 143)), args := #[(.tmp 12)], argTypes := #[157] }, none, []⟩, ⟨some 14, .fieldAddr 43 (.tmp 3) 2, none, []⟩, ⟨none, .store 41 (.tmp 14) (.tmp 13), none, []⟩]) (.seq (.reg [⟨some 15, .fieldAddr 159 (.tmp 1) 3, none, []⟩, ⟨some 16, .load 3 (.tmp 15), none, []⟩, ⟨some 17, .fieldAddr 43 (.tmp 3) 3, none, []⟩, ⟨none, .store 3 (.tmp 17) (.tmp 16), none, []⟩]) (.seq (.reg [⟨some 18, .load 43 (.tmp 3), none, []⟩, ⟨none, .store 43 (.tmp 2) (.tmp 18), none, []⟩]) .ret))))))
theorem s132 : Try.f132.body.bind (stripC 19) = some B132 := by kernel_rfl
theorem toLine_mk {H : Heap} {E1 E2 : List Nat} {v1 v2 : Value} {l : Ln} (h1 : RS 1 RInt H E1 v1 l.way) (h2 : RS 2 RGr H E2 v2 l.grs) (hb : szL l ≤ 1048576) :
    Mkr Try.prog 132 [.agg #[iv l.gone, v1, v2, iv l.drop]] H fun H' E v => ∃ cs, v = .agg cs.toArray ∧ RLn H' E l cs := by
  have x1 := h1.one
  have x2 := h2.one
  unfold szL at hb
  refine Mkr.of_bodyS (N := 19) Try.func132 s132 (by kernel_rfl) rfl rfl (by simp) ?_; unfold B132
  repeat (first | refine sA ?_ | refine sB ?_ | refine sC ?_ | refine sD ?_ | refine sE rfl ?_ | refine sF rfl ?_ | refine sG rfl ?_ | (refine sk_reg fun K hK => ?_; simp [x1, x2]; refine hK _ ?_; clear hK K))
  refine sk_reg fun K hK => ?_; simp [x1, x2]
  refine AskX.mkr (toIntS_mk (h1.ext (RP.frm _)) (by omega)) ?_; rintro w1 J1 A1 r1 o1 n1; simp [x1, x2, r1.one, r1.cv]
  refine hK _ ?_; clear hK K
  repeat (first | refine sA ?_ | refine sB ?_ | refine sC ?_ | refine sD ?_ | refine sE rfl ?_ | refine sF rfl ?_ | refine sG rfl ?_ | (refine sk_reg fun K hK => ?_; simp [x1, x2]; refine hK _ ?_; clear hK K))
  refine sk_reg fun K hK => ?_; simp [x1, x2]
  refine AskX.mkr (toGrantS_mk (h2.ext (RP.frm _)) (by omega)) ?_; rintro w2 J2 A2 r2 o2 n2; simp [x1, x2, r1.one, r2.one, r1.cv, r2.cv]
  refine hK _ ?_; clear hK K
  repeat (first | refine sA ?_ | refine sB ?_ | refine sC ?_ | refine sD ?_ | refine sE rfl ?_ | refine sF rfl ?_ | refine sG rfl ?_ | (refine sk_reg fun K hK => ?_; simp [x1, x2, r1.one, r2.one, r1.cv, r2.cv]; refine hK _ ?_; clear hK K))
  refine sk_ret ?_; simp
  simp only [List.append_assoc, List.cons_append, List.nil_append, List.length_append, List.length_cons, List.length_nil] at r1 o1 n1 r2 o2 n2
  refine ⟨fun i hi => List.getElem?_append_left hi, A1 ++ A2, ?_⟩
  have q1 := o1.lt
  have q2 := o2.lt
  simp only [List.length_append, List.length_cons] at q1 q2
  generalize hF : H ++ _ = F
  have k1 : ∀ e, e ∈ A1 → H.length + 3 ≤ e := fun e he => by have := n1 e he; omega
  have k2 : ∀ e, e ∈ A2 → H.length + 3 ≤ e := fun e he => by have := n2 e he; omega
  have g1 : ∀ e, e ∈ A1 → F[e]? = J1[e - (H.length + 3)]? := fun e he => by
    have := k1 e he
    have := q1 e he
    rw [← hF, get_t3 _ _ _ _ _ (by omega), List.getElem?_append_left (by omega)]
  have g2 : ∀ e, e ∈ A2 → F[e]? = (J1 ++ J2)[e - (H.length + 3)]? := fun e he => by rw [← hF, get_t3 _ _ _ _ _ (k2 e he)]
  refine ⟨⟨A1, A2, w1, w2, rfl, rfl, r1.fr (RP.frm _) fun e he _ => (g1 e he).trans (get_t3 _ _ _ _ _ (k1 e he)).symm, r2.fr (RP.frm _) fun e he _ => (g2 e he).trans (get_t3 _ _ _ _ _ (k2 e he)).symm⟩,
    (o1.fr fun e he => (g1 e he).trans (get_t3 _ _ _ _ _ (k1 e he)).symm).app (o2.fr fun e he => (g2 e he).trans (get_t3 _ _ _ _ _ (k2 e he)).symm) fun e h1 h2 => ?_, fun e he => ?_⟩
  · have := q1 e h1
    have := n2 e h2
    omega
  · rcases List.mem_append.1 he with h | h
    · have := n1 e h; omega
    · have := n2 e h; omega
def B97 : SC := .seq (.reg [⟨some 2, .assign (.const (.slice none 0 0)), none, []⟩]) (.seq (.reg [⟨some 5, .move (.tmp 0), none, []⟩, ⟨some 6, .call { callee := (.builtin .len), args := #[(.tmp 5)], argTypes := #[51] }, none, []⟩, ⟨some 7, .makeSlice 23 (.tmp 6) (.tmp 6), none, []⟩, ⟨some 3, .assign (.tmp 7), none, []⟩]) (.seq (.seq (.reg [⟨some 4, .assign (.const (.int .i64 0)), none, []⟩]) (.block 0 (.loop (.seq (.seq (.reg [⟨some 8, .move (.tmp 4), none, []⟩, ⟨some 9, .move (.tmp 0), none, []⟩, ⟨some 10, .call { callee := (.builtin .len), args := #[(.tmp 9)], argTypes := #[51] }, none, []⟩, ⟨some 11, .binOp .lss 3 (.tmp 8) (.tmp 10) 3, none, []⟩]) (.cond (.tmp 11) .skip (.exit 0))) (.seq (.block 1 (.reg [⟨some 14, .move (.tmp 3), none, []⟩, ⟨some 15, .move (.tmp 4), none, []⟩, ⟨some 16, .move (.tmp 0), none, []⟩, ⟨some 17, .move (.tmp 4), none, []⟩, ⟨some 18, .indexAddr 51 (.tmp 16) (.tmp 17), none, []⟩, ⟨some 19, .load 159 (.tmp 18), none, []⟩, ⟨some 20, .call { callee := (.value (.func 132)), args := #[(.tmp 19)], argTypes := #[159] }, none, []⟩, ⟨some 21, .indexAddr 23 (.tmp 14) (.tmp 15), none, []⟩, ⟨none, .store 43 (.tmp 21) (.tmp 20), none, []⟩])) (.reg [⟨some 12, .move (.tmp 4), none, []⟩, ⟨some 13, .binOp .add 3 (.tmp 12) (.const (.int .i64 1)) 3, none, []⟩, ⟨some 4, .assign (.tmp 13), none, []⟩])))))) (.seq (.reg [⟨some 22, .move (.tmp 3), none, []⟩, ⟨some 2, .assign (.tmp 22), none, []⟩]) .ret)))
theorem s97 : Try.f97.body.bind (stripC 23) = some B97 := by kernel_rfl
theorem toLineS_mk {H : Heap} {E : List Nat} {v : Value} {ls : List Ln} (h : RS 4 RLn H E v ls) (hb : szLs ls ≤ 1048576) : Mkr Try.prog 97 [v] H fun H' E' v' => RS 4 RLn H' E' v' ls := by
  obtain ⟨a1, c1, rfl⟩ := h.form
  have hnn := cnL_nn szL_nn ls
  unfold szLs at hb
  have hb1 : (64 : Int) * (ls.length : Int) ≤ 281474976710656 := by omega
  have hb2 : (ls.length : Int) ≤ 9223372036854775807 := by omega
  refine Mkr.of_bodyS (N := 23) Try.func97 s97 (by kernel_rfl) rfl rfl (by simp) ?_; unfold B97
  repeat (first | refine sA ?_ | refine sB ?_ | refine sC ?_ | refine sD ?_ | refine sE rfl ?_ | refine sF rfl ?_ | refine sG rfl ?_ | (refine sk_reg fun K hK => ?_; simp [hb1, hb2]; refine hK _ ?_; clear hK K))
  refine sk_rng ls.length (fun i => [(0, .slice a1 ls.length c1), (3, sl H.length 0 ls.length), (4, iv i)])
    (fun i H1 => Gro H H1 ∧ ∃ E done rest, H1[H.length]? = some ⟨43, done ++ rest, true, true⟩ ∧ rest.length = (ls.length - i) * 4 ∧ RCs 4 RLn H1 E (ls.take i) done ∧ Own H1 E ∧ ∀ e, e ∈ E → H.length < e) (by simp [subL, getT]) ⟨(by first | exact Gro.refl _ | exact Gro.one _ _), [], [], _, by simp; rfl, by simp, ⟨rfl, rfl⟩, ⟨List.nodup_nil, fun i hi => by simp at hi⟩, fun e he => by simp at he⟩ ?_ ?_
  · rintro i H1 hi ⟨hg, E1, done, rest, hb, hrl, hrc, ho, hE⟩
    have hl := hg.len
    have hw := wrap_id (x := (i : Int) + 1) (by omega) (by omega)
    have hdl := hrc.len
    rw [List.length_take, Nat.min_eq_left (by omega)] at hdl
    have hsl := cnL_le (c := szL) (xs := ls) szL_nn (i + 1)
    rw [cnL_succ hi] at hsl
    have hs0 := cnL_nn szL_nn (ls.take i)
    have htk := take_snoc hi
    obtain ⟨r0, r1, r2, r3, rest, rfl⟩ : ∃ r0 r1 r2 r3 rest', rest = r0 :: r1 :: r2 :: r3 :: rest' := by
      match rest, hrl with
      | [], hrl => simp at hrl; omega
      | [_], hrl => simp at hrl; omega
      | [_, _], hrl => simp at hrl; omega
      | [_, _, _], hrl => simp at hrl; omega
      | r0 :: r1 :: r2 :: r3 :: rest, _ => exact ⟨r0, r1, r2, r3, rest, rfl⟩
    obtain ⟨id, o, v1, v2, F1, F2, hve, hid, d0, d1, d2, d3, hw1, hw2, x1, x2, _⟩ := (h.gro hg RLn.frm).line hi
    generalize hln : ls[i] = l at *
    have g0 : CF H1 H.length (i * 4) r0 := CF.of hb rfl (by have := get_mid (j := 0) (z := rest) (m := [r0, r1, r2, r3]) hdl rfl; simpa using this)
    have g1 : CF H1 H.length (i * 4 + 1) r1 := CF.of hb rfl (by have := get_mid (j := 1) (z := rest) (m := [r0, r1, r2, r3]) hdl rfl; simpa using this)
    have g2 : CF H1 H.length (i * 4 + 2) r2 := CF.of hb rfl (by have := get_mid (j := 2) (z := rest) (m := [r0, r1, r2, r3]) hdl rfl; simpa using this)
    have g3 : CF H1 H.length (i * 4 + 3) r3 := CF.of hb rfl (by have := get_mid (j := 3) (z := rest) (m := [r0, r1, r2, r3]) hdl rfl; simpa using this)
    have hrw := RF.of hb
    repeat (first | refine sA ?_ | refine sB ?_ | refine sC ?_ | refine sD ?_ | refine sE rfl ?_ | refine sF rfl ?_ | refine sG rfl ?_ | (refine sk_reg fun K hK => ?_; simp [hi, hve]; refine hK _ ?_; clear hK K))
    refine sk_reg fun K hK => ?_; simp [hi, hve, d0.s, d1.s, d2.s, d3.s, x1, x2]
    refine AskX.mkr (toLine_mk hw1 hw2 (by omega)) ?_; rintro w J A ⟨cs, rfl, A1, A2, u1, u2, rfl, rfl, ru1, ru2⟩ oA nA; simp [hi, g0.s, g1.s, g2.s, g3.s, hrw.s, ru1.one, ru2.one, hl]
    refine hK _ ?_; clear hK K
    repeat (first | refine sA ?_ | refine sB ?_ | refine sC ?_ | refine sD ?_ | refine sE rfl ?_ | refine sF rfl ?_ | refine sG rfl ?_ | (refine sk_reg fun K hK => ?_; simp [hw]; refine hK _ ?_; clear hK K))
    have hnew := puts_at H.length [iv l.gone, u1, u2, iv l.drop] (H1 ++ J) (i * 4) _ done [r0, r1, r2, r3] rest (get_app J hb) (by simp) hdl rfl
    have hlt := lt_of_get hb
    have hE1 := ho.lt
    have agr : ∀ e, e ≠ H.length → (Heap.puts (H1 ++ J) H.length (i * 4) [iv l.gone, u1, u2, iv l.drop])[e]? = (H1 ++ J)[e]? := fun e he => puts_ne _ _ _ _ he
    have agr1 : ∀ e, e ∈ E1 → (Heap.puts (H1 ++ J) H.length (i * 4) [iv l.gone, u1, u2, iv l.drop])[e]? = H1[e]? := fun e he => by
      rw [agr e (by have := hE e he; omega), List.getElem?_append_left (hE1 e he)]
    have agr2 : ∀ e, e ∈ A1 ++ A2 → (Heap.puts (H1 ++ J) H.length (i * 4) [iv l.gone, u1, u2, iv l.drop])[e]? = (H1 ++ J)[e]? := fun e he => agr e (by have := nA e he; omega)
    refine sk_inv ⟨by simp [subL, getT, hve], (((hg.app J).put (by omega) _ _).put (by omega) _ _ |>.put (by omega) _ _).put (by omega) _ _, E1 ++ (A1 ++ A2), done ++ [iv l.gone, u1, u2, iv l.drop], rest, ?_, by simp at hrl; omega, ?_, ?_, ?_⟩
    · rw [List.append_assoc]; exact hnew
    · rw [htk]
      have hR : RLn (Heap.puts (H1 ++ J) H.length (i * 4) [iv l.gone, u1, u2, iv l.drop]) (A1 ++ A2) l [iv l.gone, u1, u2, iv l.drop] := RLn.frm.fr ⟨A1, A2, u1, u2, rfl, rfl, ru1, ru2⟩ fun e he _ => agr2 e he
      exact (hrc.fr RLn.frm fun e he _ => agr1 e he).app ⟨A1 ++ A2, [], _, [], by simp, by simp, rfl, hR, rfl, rfl⟩
    · exact (ho.fr agr1).app (oA.fr agr2) fun e h1 h2 => by have := hE1 e h1; have := nA e h2; omega
    · intro e he
      rcases List.mem_append.1 he with he | he
      · exact hE e he
      · have := nA e he; omega
  · rintro H1 ⟨hg, E1, done, rest, hb, hrl, hrc, ho, hE⟩
    obtain rfl : rest = [] := by simpa using hrl
    rw [List.take_length] at hrc
    rw [List.append_nil] at hb
    repeat (first | refine sA ?_ | refine sB ?_ | refine sC ?_ | refine sD ?_ | refine sE rfl ?_ | refine sF rfl ?_ | refine sG rfl ?_ | (refine sk_reg fun K hK => ?_; simp; refine hK _ ?_; clear hK K))
    refine sk_ret ?_; simp
    refine ⟨hg.len, fun i hi => hg.same hi, H.length :: E1, ⟨by omega, .inr ⟨H.length, 0, E1, 43, true, [], done, [], rfl, rfl, by simpa using hb, rfl, hrc⟩⟩, ⟨List.nodup_cons.2 ⟨fun hm => by have := hE _ hm; omega, ho.1⟩, fun id hid => ?_⟩, fun e he => ?_⟩
    · rcases List.mem_cons.1 hid with rfl | hid
      · exact rw_get hb
      · exact ho.2 id hid
    · rcases List.mem_cons.1 he with rfl | he
      · omega
      · have := hE e he; omega
def B35 : SC := .seq (.reg [⟨some 1, .box 53 (.tmp 0), none, []⟩, ⟨some 2, .alloc 25, none, []⟩]) (.seq (.reg [⟨some 3, .alloc 25, none, []⟩]) (.seq (.reg [⟨some 4, .fieldAddr 53 (.tmp 1) 0, none, []⟩, ⟨some 5, .load 4 (.tmp 4), none, []⟩, ⟨some 6, .fieldAddr 25 (.tmp 3) 0, none, []⟩, ⟨none, .store 4 (.tmp 6) (.tmp 5), none, []⟩]) (.seq (.reg [⟨some 7, .fieldAddr 53 (.tmp 1) 1, none, []⟩, ⟨some 8, .load 3 (.tmp 7), none, []⟩, ⟨some 9, .fieldAddr 25 (.tmp 3) 1, none, []⟩, ⟨none, .store 3 (.tmp 9) (.tmp 8), none, []⟩]) (.seq (.reg [⟨some 10, .fieldAddr 53 (.tmp 1) 2, none, []⟩, ⟨some 11, .load 51 (.tmp 10), none, []⟩, ⟨some 12, .call { callee := (.value (.func 97)), args := #[(.tmp 11)], argTypes := #[51] }, none, []⟩, ⟨some 13, .fieldAddr 25 (.tmp 3) 2, none, []⟩, ⟨none, .store 23 (.tmp 13) (.tmp 12), none, []⟩]) (.seq (.reg [⟨some 14, .load 25 (.tmp 3), none, []⟩, ⟨none, .store 25 (.tmp 2) (.tmp 14), none, []⟩]) .ret)))))
theorem s35 : Try.f35.body.bind (stripC 15) = some B35 := by kernel_rfl
theorem toBook_mk {H : Heap} {E : List Nat} {b : Bk} {cs : List Value} (h : RBk H E b cs) (hb : szLs b.lines ≤ 1048576) : Mkr Try.prog 35 [.agg cs.toArray] H fun H' E' v' => ∃ cs', v' = .agg cs'.toArray ∧ RBk H' E' b cs' := by
  obtain ⟨v, rfl, hv⟩ := h
  have x := hv.one
  refine Mkr.of_bodyS (N := 15) Try.func35 s35 (by kernel_rfl) rfl rfl (by simp) ?_; unfold B35
  repeat (first | refine sA ?_ | refine sB ?_ | refine sC ?_ | refine sD ?_ | refine sE rfl ?_ | refine sF rfl ?_ | refine sG rfl ?_ | (refine sk_reg fun K hK => ?_; simp [x]; refine hK _ ?_; clear hK K))
  refine sk_reg fun K hK => ?_; simp [x]
  refine AskX.mkr (toLineS_mk (hv.ext RLn.frm) hb) ?_; rintro w J A r o n; simp [x, r.one, r.cv]
  refine hK _ ?_; clear hK K
  repeat (first | refine sA ?_ | refine sB ?_ | refine sC ?_ | refine sD ?_ | refine sE rfl ?_ | refine sF rfl ?_ | refine sG rfl ?_ | (refine sk_reg fun K hK => ?_; simp [x, r.one, r.cv]; refine hK _ ?_; clear hK K))
  refine sk_ret ?_; simp
  simp only [List.append_assoc, List.cons_append, List.nil_append, List.length_append, List.length_cons, List.length_nil] at r o n
  generalize hF : H ++ _ = F
  have k1 : ∀ e, e ∈ A → H.length + 3 ≤ e := fun e he => by have := n e he; omega
  have g1 : ∀ e, e ∈ A → F[e]? = J[e - (H.length + 3)]? := fun e he => by rw [← hF, get_t3 _ _ _ _ _ (k1 e he)]
  refine ⟨fun i hi => by rw [← hF]; exact List.getElem?_append_left hi, A, ⟨w, rfl, r.fr RLn.frm fun e he _ => (g1 e he).trans (get_t3 _ _ _ _ _ (k1 e he)).symm⟩, o.fr fun e he => (g1 e he).trans (get_t3 _ _ _ _ _ (k1 e he)).symm, fun e he => by have := k1 e he; omega⟩
end Go.Proofs.Ytpoedfmkiiijnaa
