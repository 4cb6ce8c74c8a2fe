/- Texts of this repo, one behind the other (To1 To2 To3 Cp2 Cp3 Cp4). Plain lemmas and walks. -/
import Derived.Test.YtpoedfmkiiijnaaGD
import Derived.Test.YtpoedfmkiiijnaaGF
import Derived.Test.YtpoedfmkiiijnaaGC
namespace Go.Proofs.Ytpoedfmkiiijnaa
open Go Go.RowKit Go.Proofs.YtpoedfmkiiijnaaAm
set_option linter.unusedVariables false
set_option linter.unusedSimpArgs false
set_option maxRecDepth 10000
set_option maxHeartbeats 4000000
def subN (a n : Int) : Int := if n ≤ a then a - n else -1
theorem subN_lt {a n : Int} (h : n ≤ a) : subN a n = a - n := by simp [subN, h]
theorem subN_no {a n : Int} (h : ¬ n ≤ a) : subN a n = -1 := by simp [subN, h]

def B141 : SC := .seq (.reg [⟨some 4, .assign (.const (.int .i64 0)), none, []⟩]) (.seq (.reg [⟨some 5, .move (.tmp 1), none, []⟩, ⟨some 6, .move (.tmp 0), none, []⟩, ⟨some 7, .call { callee := (.builtin .len), args := #[(.tmp 6)], argTypes := #[40] }, none, []⟩, ⟨some 8, .binOp .sub 3 (.tmp 5) (.tmp 7) 3, none, []⟩, ⟨some 1, .assign (.tmp 8), none, []⟩]) (.seq (.seq (.reg [⟨some 9, .move (.tmp 1), none, []⟩, ⟨some 10, .binOp .lss 3 (.tmp 9) (.const (.int .i64 0)) 3, none, []⟩]) (.cond (.tmp 10) (.seq (.reg [⟨some 4, .assign (.const (.int .i64 (-1))), none, []⟩]) .ret) .skip)) (.seq (.reg [⟨some 11, .move (.tmp 1), none, []⟩, ⟨some 4, .assign (.tmp 11), none, []⟩]) .ret)))
theorem s141 : Try.f141.body.bind (stripC 12) = some B141 := by kernel_rfl
theorem szIntS_ac {H : Heap} {E : List Nat} {v : Value} {xs : List Int} (h : RS 1 RInt H E v xs) {a : Int} (ha : 0 ≤ a ∧ a ≤ 1048576) : AC Try.prog 141 [v, iv a] H (iv (subN a xs.length)) H [] := by
  obtain ⟨a1, c1, rfl⟩ := h.form
  have hn := h.1
  have hw := wrap_id (x := a - xs.length) (by omega) (by omega)
  refine AC.of_pureS (N := 12) Try.func141 s141 (by kernel_rfl) rfl rfl (by simp) rfl ?_; unfold B141
  by_cases q : (xs.length : Int) ≤ a
  · have q' : ¬ (a - (xs.length : Int) < 0) := by omega
    have hr := subN_lt q
    repeat (first | refine sk_seq ?_ | refine sk_block ?_ | refine sk_blk ?_ | refine sk_skip ?_ | refine sk_exit rfl ?_ | refine sk_cond_t rfl ?_ | refine sk_cond_f rfl ?_ | ((first | refine sk_reg fun K hK => ?_ | refine sk_drw mix fun K hK => ?_); simp [hw, q']; refine hK _ ?_; clear hK K))
    refine sk_ret ?_; simp [hr]
  · have q' : a - (xs.length : Int) < 0 := by omega
    have hr := subN_no q
    repeat (first | refine sk_seq ?_ | refine sk_block ?_ | refine sk_blk ?_ | refine sk_skip ?_ | refine sk_exit rfl ?_ | refine sk_cond_t rfl ?_ | refine sk_cond_f rfl ?_ | ((first | refine sk_reg fun K hK => ?_ | refine sk_drw mix fun K hK => ?_); simp [hw, q']; refine hK _ ?_; clear hK K))
    refine sk_ret ?_; simp [hr]

def B47 : SC := .seq (.reg [⟨some 2, .assign (.const (.slice none 0 0)), none, []⟩]) (.seq (.reg [⟨some 5, .move (.tmp 0), none, []⟩, ⟨some 6, .call { callee := (.builtin .len), args := #[(.tmp 5)], argTypes := #[40] }, none, []⟩, ⟨some 7, .makeSlice 40 (.tmp 6) (.tmp 6), none, []⟩, ⟨some 3, .assign (.tmp 7), none, []⟩]) (.seq (.seq (.reg [⟨some 4, .assign (.const (.int .i64 0)), none, []⟩]) (.block 0 (.loop (.seq (.seq (.reg [⟨some 8, .move (.tmp 4), none, []⟩, ⟨some 9, .move (.tmp 0), none, []⟩, ⟨some 10, .call { callee := (.builtin .len), args := #[(.tmp 9)], argTypes := #[40] }, none, []⟩, ⟨some 11, .binOp .lss 3 (.tmp 8) (.tmp 10) 3, none, []⟩]) (.cond (.tmp 11) .skip (.exit 0))) (.seq (.block 1 (.reg [⟨some 14, .move (.tmp 3), none, []⟩, ⟨some 15, .move (.tmp 4), none, []⟩, ⟨some 16, .move (.tmp 0), none, []⟩, ⟨some 17, .move (.tmp 4), none, []⟩, ⟨some 18, .indexAddr 40 (.tmp 16) (.tmp 17), none, []⟩, ⟨some 19, .load 3 (.tmp 18), none, []⟩, ⟨some 20, .indexAddr 40 (.tmp 14) (.tmp 15), none, []⟩, ⟨none, .store 3 (.tmp 20) (.tmp 19), none, []⟩])) (.reg [⟨some 12, .move (.tmp 4), none, []⟩, ⟨some 13, .binOp .add 3 (.tmp 12) (.const (.int .i64 1)) 3, none, []⟩, ⟨some 4, .assign (.tmp 13), none, []⟩])))))) (.seq (.reg [⟨some 21, .move (.tmp 3), none, []⟩, ⟨some 2, .assign (.tmp 21), none, []⟩]) .ret)))
theorem s47 : Try.f47.body.bind (stripC 22) = some B47 := by kernel_rfl
theorem toIntS_mk {H : Heap} {E : List Nat} {v : Value} {xs : List Int} (h : RS 1 RInt H E v xs) (hb : xs.length ≤ 1048576) : Mkr Try.prog 47 [v] H fun H' E' v' => RS 1 RInt H' E' v' xs := by
  obtain ⟨a1, c1, rfl⟩ := h.form
  have hb1 : (8 : Int) * (xs.length : Int) ≤ 281474976710656 := by omega
  have hb2 : (xs.length : Int) ≤ 9223372036854775807 := by omega
  have hlen : ∀ x, (cInt x).length = 1 := fun _ => rfl
  refine Mkr.of_bodyS (N := 22) Try.func47 s47 (by kernel_rfl) rfl rfl (by simp) ?_; unfold B47
  repeat (first | refine sk_seq ?_ | refine sk_block ?_ | refine sk_blk ?_ | refine sk_skip ?_ | refine sk_exit rfl ?_ | refine sk_cond_t rfl ?_ | refine sk_cond_f rfl ?_ | ((first | refine sk_reg fun K hK => ?_ | refine sk_drw mix fun K hK => ?_); simp [hb1, hb2]; refine hK _ ?_; clear hK K))
  refine sk_rng xs.length (fun i => [(0, .slice a1 xs.length c1), (3, sl H.length 0 xs.length), (4, iv i)]) (fun i H1 => Gro H H1 ∧ ∃ rest, H1[H.length]? = some ⟨3, (xs.take i).flatMap cInt ++ rest, true, true⟩ ∧ rest.length = (xs.length - i) * 1) (by simp [subL, getT]) ⟨(by first | exact Gro.refl _ | exact Gro.one _ _), _, by simp; rfl, by simp⟩ ?_ ?_
  · rintro i H1 hi ⟨hg, rest, hb, hrl⟩
    have hl := hg.len
    have hw := wrap_id (x := (i : Int) + 1) (by omega) (by omega)
    have hdl : ((xs.take i).flatMap cInt).length = i * 1 := by rw [flatMap_len hlen, List.length_take, Nat.min_eq_left (by omega)]
    obtain ⟨r0, rest, rfl⟩ : ∃ r0 rest', rest = r0 :: rest' := by
      match rest, hrl with
      | [], hrl => simp at hrl; omega
      | r0 :: rest, _ => exact ⟨r0, rest, rfl⟩
    obtain ⟨id, o, hv, hid, d0⟩ := (h.gro hg (RP.frm _)).int hi

    have g0 : CF H1 H.length (i * 1) r0 := CF.of hb rfl (by have := get_mid (j := 0) (z := rest) (m := [r0]) hdl rfl; simpa using this)
    simp only [Nat.mul_one] at g0
    have hrw := rw_get hb
    have hnew := puts_at H.length [iv xs[i]] H1 (i * 1) _ ((xs.take i).flatMap cInt) [r0] rest hb (by simp) hdl rfl
    repeat (first | refine sk_seq ?_ | refine sk_block ?_ | refine sk_blk ?_ | refine sk_skip ?_ | refine sk_exit rfl ?_ | refine sk_cond_t rfl ?_ | refine sk_cond_f rfl ?_ | ((first | refine sk_reg fun K hK => ?_ | refine sk_drw mix fun K hK => ?_); simp [hi, hv, d0.s, g0.s, hw, hl, hrw]; refine hK _ ?_; clear hK K))
    refine sk_inv ⟨by simp [subL, getT, hv], hg.put (by omega) _ _, rest, ?_, by simp at hrl; omega⟩
    have e : (xs.take (i + 1)).flatMap cInt = (xs.take i).flatMap cInt ++ [iv xs[i]] := by rw [take_snoc hi, List.flatMap_append]; simp [cInt]
    rw [e, List.append_assoc]
    rw [Nat.mul_one] at hnew
    exact hnew
  · rintro H1 ⟨hg, rest, hb, hrl⟩
    obtain rfl : rest = [] := by simpa using hrl
    rw [List.take_length, List.append_nil] at hb
    repeat (first | refine sk_seq ?_ | refine sk_block ?_ | refine sk_blk ?_ | refine sk_skip ?_ | refine sk_exit rfl ?_ | refine sk_cond_t rfl ?_ | refine sk_cond_f rfl ?_ | ((first | refine sk_reg fun K hK => ?_ | refine sk_drw mix fun K hK => ?_); simp; refine hK _ ?_; clear hK K))
    refine sk_ret ?_; simp
    refine ⟨hg.len, fun i hi => hg.same hi, [H.length], ⟨by omega, .inr ⟨H.length, 0, [], 3, true, [], _, [], rfl, rfl, by simpa using hb, rfl, RCs.plain hlen _ _⟩⟩, ⟨by simp, fun id hid => by simp at hid; subst hid; exact rw_get hb⟩, fun e he => by simp at he; omega⟩

def B142 : SC := .seq (.reg [⟨some 4, .assign (.const (.int .i64 0)), none, []⟩]) (.seq (.reg [⟨some 5, .move (.tmp 1), none, []⟩, ⟨some 6, .move (.tmp 0), none, []⟩, ⟨some 7, .call { callee := (.builtin .len), args := #[(.tmp 6)], argTypes := #[157] }, none, []⟩, ⟨some 8, .binOp .sub 3 (.tmp 5) (.tmp 7) 3, none, []⟩, ⟨some 1, .assign (.tmp 8), none, []⟩]) (.seq (.seq (.reg [⟨some 9, .move (.tmp 1), none, []⟩, ⟨some 10, .binOp .lss 3 (.tmp 9) (.const (.int .i64 0)) 3, none, []⟩]) (.cond (.tmp 10) (.seq (.reg [⟨some 4, .assign (.const (.int .i64 (-1))), none, []⟩]) .ret) .skip)) (.seq (.reg [⟨some 11, .move (.tmp 1), none, []⟩, ⟨some 4, .assign (.tmp 11), none, []⟩]) .ret)))
theorem s142 : Try.f142.body.bind (stripC 12) = some B142 := by kernel_rfl
theorem szGrantS_ac {H : Heap} {E : List Nat} {v : Value} {xs : List Gr} (h : RS 2 RGr H E v xs) {a : Int} (ha : 0 ≤ a ∧ a ≤ 1048576) : AC Try.prog 142 [v, iv a] H (iv (subN a xs.length)) H [] := by
  obtain ⟨a1, c1, rfl⟩ := h.form
  have hn := h.1
  have hw := wrap_id (x := a - xs.length) (by omega) (by omega)
  refine AC.of_pureS (N := 12) Try.func142 s142 (by kernel_rfl) rfl rfl (by simp) rfl ?_; unfold B142
  by_cases q : (xs.length : Int) ≤ a
  · have q' : ¬ (a - (xs.length : Int) < 0) := by omega
    have hr := subN_lt q
    repeat (first | refine sk_seq ?_ | refine sk_block ?_ | refine sk_blk ?_ | refine sk_skip ?_ | refine sk_exit rfl ?_ | refine sk_cond_t rfl ?_ | refine sk_cond_f rfl ?_ | ((first | refine sk_reg fun K hK => ?_ | refine sk_drw mix fun K hK => ?_); simp [hw, q']; refine hK _ ?_; clear hK K))
    refine sk_ret ?_; simp [hr]
  · have q' : a - (xs.length : Int) < 0 := by omega
    have hr := subN_no q
    repeat (first | refine sk_seq ?_ | refine sk_block ?_ | refine sk_blk ?_ | refine sk_skip ?_ | refine sk_exit rfl ?_ | refine sk_cond_t rfl ?_ | refine sk_cond_f rfl ?_ | ((first | refine sk_reg fun K hK => ?_ | refine sk_drw mix fun K hK => ?_); simp [hw, q']; refine hK _ ?_; clear hK K))
    refine sk_ret ?_; simp [hr]

def B146 : SC := .seq (.reg [⟨some 1, .box 174 (.tmp 0), none, []⟩, ⟨some 2, .alloc 45, none, []⟩]) (.seq (.reg [⟨some 3, .alloc 45, none, []⟩]) (.seq (.reg [⟨some 4, .fieldAddr 174 (.tmp 1) 0, none, []⟩, ⟨some 5, .load 3 (.tmp 4), none, []⟩, ⟨some 6, .fieldAddr 45 (.tmp 3) 0, none, []⟩, ⟨none, .store 3 (.tmp 6) (.tmp 5), none, []⟩]) (.seq (.reg [⟨some 7, .fieldAddr 174 (.tmp 1) 1, none, []⟩, ⟨some 8, .load 3 (.tmp 7), none, []⟩, ⟨some 9, .fieldAddr 45 (.tmp 3) 1, none, []⟩, ⟨none, .store 3 (.tmp 9) (.tmp 8), none, []⟩]) (.seq (.reg [⟨some 10, .load 45 (.tmp 3), none, []⟩, ⟨none, .store 45 (.tmp 2) (.tmp 10), none, []⟩]) .ret))))
theorem s146 : Try.f146.body.bind (stripC 11) = some B146 := by kernel_rfl
theorem toGrant_ac {H : Heap} (x : Gr) : AC Try.prog 146 [.agg (cGr x).toArray] H (.agg (cGr x).toArray) H [] := by
  refine AC.of_pureCS (N := 11) Try.func146 s146 (by kernel_rfl) rfl rfl (by simp) (Clo.plains rfl _) ?_; unfold B146
  simp only [cGr]
  repeat (first | refine sk_seq ?_ | refine sk_block ?_ | refine sk_blk ?_ | refine sk_skip ?_ | refine sk_exit rfl ?_ | refine sk_cond_t rfl ?_ | refine sk_cond_f rfl ?_ | ((first | refine sk_reg fun K hK => ?_ | refine sk_drw mix fun K hK => ?_); simp; refine hK _ ?_; clear hK K))
  refine sk_ret ?_; simp

def B143 : SC := .seq (.reg [⟨some 2, .assign (.const (.slice none 0 0)), none, []⟩]) (.seq (.reg [⟨some 5, .move (.tmp 0), none, []⟩, ⟨some 6, .call { callee := (.builtin .len), args := #[(.tmp 5)], argTypes := #[157] }, none, []⟩, ⟨some 7, .makeSlice 41 (.tmp 6) (.tmp 6), none, []⟩, ⟨some 3, .assign (.tmp 7), none, []⟩]) (.seq (.seq (.reg [⟨some 4, .assign (.const (.int .i64 0)), none, []⟩]) (.block 0 (.loop (.seq (.seq (.reg [⟨some 8, .move (.tmp 4), none, []⟩, ⟨some 9, .move (.tmp 0), none, []⟩, ⟨some 10, .call { callee := (.builtin .len), args := #[(.tmp 9)], argTypes := #[157] }, none, []⟩, ⟨some 11, .binOp .lss 3 (.tmp 8) (.tmp 10) 3, none, []⟩]) (.cond (.tmp 11) .skip (.exit 0))) (.seq (.block 1 (.reg [⟨some 14, .move (.tmp 3), none, []⟩, ⟨some 15, .move (.tmp 4), none, []⟩, ⟨some 16, .move (.tmp 0), none, []⟩, ⟨some 17, .move (.tmp 4), none, []⟩, ⟨some 18, .indexAddr 157 (.tmp 16) (.tmp 17), none, []⟩, ⟨some 19, .load 174 (.tmp 18), none, []⟩, ⟨some 20, .call { callee := (.value (.func 146)), args := #[(.tmp 19)], argTypes := #[174] }, none, []⟩, ⟨some 21, .indexAddr 41 (.tmp 14) (.tmp 15), none, []⟩, ⟨none, .store 45 (.tmp 21) (.tmp 20), none, []⟩])) (.reg [⟨some 12, .move (.tmp 4), none, []⟩, ⟨some 13, .binOp .add 3 (.tmp 12) (.const (.int .i64 1)) 3, none, []⟩, ⟨some 4, .assign (.tmp 13), none, []⟩])))))) (.seq (.reg [⟨some 22, .move (.tmp 3), none, []⟩, ⟨some 2, .assign (.tmp 22), none, []⟩]) .ret)))
theorem s143 : Try.f143.body.bind (stripC 23) = some B143 := by kernel_rfl
theorem toGrantS_mk {H : Heap} {E : List Nat} {v : Value} {xs : List Gr} (h : RS 2 RGr H E v xs) (hb : xs.length ≤ 1048576) : Mkr Try.prog 143 [v] H fun H' E' v' => RS 2 RGr H' E' v' xs := by
  obtain ⟨a1, c1, rfl⟩ := h.form
  have hb1 : (16 : Int) * (xs.length : Int) ≤ 281474976710656 := by omega
  have hb2 : (xs.length : Int) ≤ 9223372036854775807 := by omega
  have hlen : ∀ x, (cGr x).length = 2 := fun _ => rfl
  refine Mkr.of_bodyS (N := 23) Try.func143 s143 (by kernel_rfl) rfl rfl (by simp) ?_; unfold B143
  repeat (first | refine sk_seq ?_ | refine sk_block ?_ | refine sk_blk ?_ | refine sk_skip ?_ | refine sk_exit rfl ?_ | refine sk_cond_t rfl ?_ | refine sk_cond_f rfl ?_ | ((first | refine sk_reg fun K hK => ?_ | refine sk_drw mix fun K hK => ?_); simp [hb1, hb2]; refine hK _ ?_; clear hK K))
  refine sk_rng xs.length (fun i => [(0, .slice a1 xs.length c1), (3, sl H.length 0 xs.length), (4, iv i)]) (fun i H1 => Gro H H1 ∧ ∃ rest, H1[H.length]? = some ⟨45, (xs.take i).flatMap cGr ++ rest, true, true⟩ ∧ rest.length = (xs.length - i) * 2) (by simp [subL, getT]) ⟨(by first | exact Gro.refl _ | exact Gro.one _ _), _, by simp; rfl, by simp⟩ ?_ ?_
  · rintro i H1 hi ⟨hg, rest, hb, hrl⟩
    have hl := hg.len
    have hw := wrap_id (x := (i : Int) + 1) (by omega) (by omega)
    have hdl : ((xs.take i).flatMap cGr).length = i * 2 := by rw [flatMap_len hlen, List.length_take, Nat.min_eq_left (by omega)]
    obtain ⟨r0, r1, rest, rfl⟩ : ∃ r0 r1 rest', rest = r0 :: r1 :: rest' := by
      match rest, hrl with
      | [], hrl => simp at hrl; omega
      | [_], hrl => simp at hrl; omega
      | r0 :: r1 :: rest, _ => exact ⟨r0, r1, rest, rfl⟩
    obtain ⟨id, o, Ek, cs, hv, hid, _, _, hR, hsz, hc⟩ := (h.gro hg (RP.frm _)).at hi
    obtain ⟨_, rfl⟩ := hR
    have d0 : CF H1 _ _ _ := hc 0 _ rfl
    have d1 : CF H1 _ _ _ := hc 1 _ rfl
    simp only [Nat.add_zero] at d0
    have tc := toGrant_ac (H := H1) xs[i]
    simp only [cGr] at tc

    have g0 : CF H1 H.length (i * 2) r0 := CF.of hb rfl (by have := get_mid (j := 0) (z := rest) (m := [r0, r1]) hdl rfl; simpa using this)
    have g1 : CF H1 H.length (i * 2 + 1) r1 := CF.of hb rfl (by have := get_mid (j := 1) (z := rest) (m := [r0, r1]) hdl rfl; simpa using this)
    have hrw := rw_get hb
    have hnew := puts_at H.length [iv xs[i].ver, iv xs[i].cel] H1 (i * 2) _ ((xs.take i).flatMap cGr) [r0, r1] rest hb (by simp) hdl rfl
    repeat (first | refine sk_seq ?_ | refine sk_block ?_ | refine sk_blk ?_ | refine sk_skip ?_ | refine sk_exit rfl ?_ | refine sk_cond_t rfl ?_ | refine sk_cond_f rfl ?_ | ((first | refine sk_reg fun K hK => ?_ | refine sk_drw mix fun K hK => ?_); simp [hi, hv, d0.s, d1.s, g0.s, g1.s, hw, hl, hrw]; (repeat ((first | refine AskX.go (tc) ?_ | refine AskD.go (tc) ?_); simp [hi, hv, d0.s, d1.s, g0.s, g1.s, hw, hl, hrw])); refine hK _ ?_; clear hK K))
    refine sk_inv ⟨by simp [subL, getT, hv], hg.put (by omega) _ _ |>.put (by omega) _ _, rest, ?_, by simp at hrl; omega⟩
    have e : (xs.take (i + 1)).flatMap cGr = (xs.take i).flatMap cGr ++ [iv xs[i].ver, iv xs[i].cel] := by rw [take_snoc hi, List.flatMap_append]; simp [cGr]
    rw [e, List.append_assoc]
    exact hnew
  · rintro H1 ⟨hg, rest, hb, hrl⟩
    obtain rfl : rest = [] := by simpa using hrl
    rw [List.take_length, List.append_nil] at hb
    repeat (first | refine sk_seq ?_ | refine sk_block ?_ | refine sk_blk ?_ | refine sk_skip ?_ | refine sk_exit rfl ?_ | refine sk_cond_t rfl ?_ | refine sk_cond_f rfl ?_ | ((first | refine sk_reg fun K hK => ?_ | refine sk_drw mix fun K hK => ?_); simp; refine hK _ ?_; clear hK K))
    refine sk_ret ?_; simp
    refine ⟨hg.len, fun i hi => hg.same hi, [H.length], ⟨by omega, .inr ⟨H.length, 0, [], 45, true, [], _, [], rfl, rfl, by simpa using hb, rfl, RCs.plain hlen _ _⟩⟩, ⟨by simp, fun id hid => by simp at hid; subst hid; exact rw_get hb⟩, fun e he => by simp at he; omega⟩

def B62 : SC := .seq (.reg [⟨some 4, .assign (.const (.int .i64 0)), none, []⟩]) (.seq (.reg [⟨some 5, .move (.tmp 1), none, []⟩, ⟨some 6, .move (.tmp 0), none, []⟩, ⟨some 7, .call { callee := (.builtin .len), args := #[(.tmp 6)], argTypes := #[90] }, none, []⟩, ⟨some 8, .binOp .sub 3 (.tmp 5) (.tmp 7) 3, none, []⟩, ⟨some 1, .assign (.tmp 8), none, []⟩]) (.seq (.seq (.reg [⟨some 9, .move (.tmp 1), none, []⟩, ⟨some 10, .binOp .lss 3 (.tmp 9) (.const (.int .i64 0)) 3, none, []⟩]) (.cond (.tmp 10) (.seq (.reg [⟨some 4, .assign (.const (.int .i64 (-1))), none, []⟩]) .ret) .skip)) (.seq (.reg [⟨some 11, .move (.tmp 1), none, []⟩, ⟨some 4, .assign (.tmp 11), none, []⟩]) .ret)))
theorem s62 : Try.f62.body.bind (stripC 12) = some B62 := by kernel_rfl
theorem szEventS_ac {H : Heap} {E : List Nat} {v : Value} {xs : List Evt} (h : RS 3 REv H E v xs) {a : Int} (ha : 0 ≤ a ∧ a ≤ 1048576) : AC Try.prog 62 [v, iv a] H (iv (subN a xs.length)) H [] := by
  obtain ⟨a1, c1, rfl⟩ := h.form
  have hn := h.1
  have hw := wrap_id (x := a - xs.length) (by omega) (by omega)
  refine AC.of_pureS (N := 12) Try.func62 s62 (by kernel_rfl) rfl rfl (by simp) rfl ?_; unfold B62
  by_cases q : (xs.length : Int) ≤ a
  · have q' : ¬ (a - (xs.length : Int) < 0) := by omega
    have hr := subN_lt q
    repeat (first | refine sk_seq ?_ | refine sk_block ?_ | refine sk_blk ?_ | refine sk_skip ?_ | refine sk_exit rfl ?_ | refine sk_cond_t rfl ?_ | refine sk_cond_f rfl ?_ | ((first | refine sk_reg fun K hK => ?_ | refine sk_drw mix fun K hK => ?_); simp [hw, q']; refine hK _ ?_; clear hK K))
    refine sk_ret ?_; simp [hr]
  · have q' : a - (xs.length : Int) < 0 := by omega
    have hr := subN_no q
    repeat (first | refine sk_seq ?_ | refine sk_block ?_ | refine sk_blk ?_ | refine sk_skip ?_ | refine sk_exit rfl ?_ | refine sk_cond_t rfl ?_ | refine sk_cond_f rfl ?_ | ((first | refine sk_reg fun K hK => ?_ | refine sk_drw mix fun K hK => ?_); simp [hw, q']; refine hK _ ?_; clear hK K))
    refine sk_ret ?_; simp [hr]

def B39 : SC := .seq (.reg [⟨some 1, .box 58 (.tmp 0), none, []⟩, ⟨some 2, .alloc 49, none, []⟩]) (.seq (.reg [⟨some 3, .alloc 49, none, []⟩]) (.seq (.reg [⟨some 4, .fieldAddr 58 (.tmp 1) 0, none, []⟩, ⟨some 5, .load 3 (.tmp 4), none, []⟩, ⟨some 6, .fieldAddr 49 (.tmp 3) 0, none, []⟩, ⟨none, .store 3 (.tmp 6) (.tmp 5), none, []⟩]) (.seq (.reg [⟨some 7, .fieldAddr 58 (.tmp 1) 1, none, []⟩, ⟨some 8, .load 3 (.tmp 7), none, []⟩, ⟨some 9, .fieldAddr 49 (.tmp 3) 1, none, []⟩, ⟨none, .store 3 (.tmp 9) (.tmp 8), none, []⟩]) (.seq (.reg [⟨some 10, .fieldAddr 58 (.tmp 1) 2, none, []⟩, ⟨some 11, .load 3 (.tmp 10), none, []⟩, ⟨some 12, .fieldAddr 49 (.tmp 3) 2, none, []⟩, ⟨none, .store 3 (.tmp 12) (.tmp 11), none, []⟩]) (.seq (.reg [⟨some 13, .load 49 (.tmp 3), none, []⟩, ⟨none, .store 49 (.tmp 2) (.tmp 13), none, []⟩]) .ret)))))
theorem s39 : Try.f39.body.bind (stripC 14) = some B39 := by kernel_rfl
theorem toEvent_ac {H : Heap} (x : Evt) : AC Try.prog 39 [.agg (cEv x).toArray] H (.agg (cEv x).toArray) H [] := by
  refine AC.of_pureCS (N := 14) Try.func39 s39 (by kernel_rfl) rfl rfl (by simp) (Clo.plains rfl _) ?_; unfold B39
  simp only [cEv]
  repeat (first | refine sk_seq ?_ | refine sk_block ?_ | refine sk_blk ?_ | refine sk_skip ?_ | refine sk_exit rfl ?_ | refine sk_cond_t rfl ?_ | refine sk_cond_f rfl ?_ | ((first | refine sk_reg fun K hK => ?_ | refine sk_drw mix fun K hK => ?_); simp; refine hK _ ?_; clear hK K))
  refine sk_ret ?_; simp

def B63 : SC := .seq (.reg [⟨some 2, .assign (.const (.slice none 0 0)), none, []⟩]) (.seq (.reg [⟨some 5, .move (.tmp 0), none, []⟩, ⟨some 6, .call { callee := (.builtin .len), args := #[(.tmp 5)], argTypes := #[90] }, none, []⟩, ⟨some 7, .makeSlice 31 (.tmp 6) (.tmp 6), none, []⟩, ⟨some 3, .assign (.tmp 7), none, []⟩]) (.seq (.seq (.reg [⟨some 4, .assign (.const (.int .i64 0)), none, []⟩]) (.block 0 (.loop (.seq (.seq (.reg [⟨some 8, .move (.tmp 4), none, []⟩, ⟨some 9, .move (.tmp 0), none, []⟩, ⟨some 10, .call { callee := (.builtin .len), args := #[(.tmp 9)], argTypes := #[90] }, none, []⟩, ⟨some 11, .binOp .lss 3 (.tmp 8) (.tmp 10) 3, none, []⟩]) (.cond (.tmp 11) .skip (.exit 0))) (.seq (.block 1 (.reg [⟨some 14, .move (.tmp 3), none, []⟩, ⟨some 15, .move (.tmp 4), none, []⟩, ⟨some 16, .move (.tmp 0), none, []⟩, ⟨some 17, .move (.tmp 4), none, []⟩, ⟨some 18, .indexAddr 90 (.tmp 16) (.tmp 17), none, []⟩, ⟨some 19, .load 58 (.tmp 18), none, []⟩, ⟨some 20, .call { callee := (.value (.func 39)), args := #[(.tmp 19)], argTypes := #[58] }, none, []⟩, ⟨some 21, .indexAddr 31 (.tmp 14) (.tmp 15), none, []⟩, ⟨none, .store 49 (.tmp 21) (.tmp 20), none, []⟩])) (.reg [⟨some 12, .move (.tmp 4), none, []⟩, ⟨some 13, .binOp .add 3 (.tmp 12) (.const (.int .i64 1)) 3, none, []⟩, ⟨some 4, .assign (.tmp 13), none, []⟩])))))) (.seq (.reg [⟨some 22, .move (.tmp 3), none, []⟩, ⟨some 2, .assign (.tmp 22), none, []⟩]) .ret)))
theorem s63 : Try.f63.body.bind (stripC 23) = some B63 := by kernel_rfl
theorem toEventS_mk {H : Heap} {E : List Nat} {v : Value} {xs : List Evt} (h : RS 3 REv H E v xs) (hb : xs.length ≤ 1048576) : Mkr Try.prog 63 [v] H fun H' E' v' => RS 3 REv H' E' v' xs := by
  obtain ⟨a1, c1, rfl⟩ := h.form
  have hb1 : (24 : Int) * (xs.length : Int) ≤ 281474976710656 := by omega
  have hb2 : (xs.length : Int) ≤ 9223372036854775807 := by omega
  have hlen : ∀ x, (cEv x).length = 3 := fun _ => rfl
  refine Mkr.of_bodyS (N := 23) Try.func63 s63 (by kernel_rfl) rfl rfl (by simp) ?_; unfold B63
  repeat (first | refine sk_seq ?_ | refine sk_block ?_ | refine sk_blk ?_ | refine sk_skip ?_ | refine sk_exit rfl ?_ | refine sk_cond_t rfl ?_ | refine sk_cond_f rfl ?_ | ((first | refine sk_reg fun K hK => ?_ | refine sk_drw mix fun K hK => ?_); simp [hb1, hb2]; refine hK _ ?_; clear hK K))
  refine sk_rng xs.length (fun i => [(0, .slice a1 xs.length c1), (3, sl H.length 0 xs.length), (4, iv i)]) (fun i H1 => Gro H H1 ∧ ∃ rest, H1[H.length]? = some ⟨49, (xs.take i).flatMap cEv ++ rest, true, true⟩ ∧ rest.length = (xs.length - i) * 3) (by simp [subL, getT]) ⟨(by first | exact Gro.refl _ | exact Gro.one _ _), _, by simp; rfl, by simp⟩ ?_ ?_
  · rintro i H1 hi ⟨hg, rest, hb, hrl⟩
    have hl := hg.len
    have hw := wrap_id (x := (i : Int) + 1) (by omega) (by omega)
    have hdl : ((xs.take i).flatMap cEv).length = i * 3 := by rw [flatMap_len hlen, List.length_take, Nat.min_eq_left (by omega)]
    obtain ⟨r0, r1, r2, rest, rfl⟩ : ∃ r0 r1 r2 rest', rest = r0 :: r1 :: r2 :: rest' := by
      match rest, hrl with
      | [], hrl => simp at hrl; omega
      | [_], hrl => simp at hrl; omega
      | [_, _], hrl => simp at hrl; omega
      | r0 :: r1 :: r2 :: rest, _ => exact ⟨r0, r1, r2, rest, rfl⟩
    obtain ⟨id, o, Ek, cs, hv, hid, _, _, hR, hsz, hc⟩ := (h.gro hg (RP.frm _)).at hi
    obtain ⟨_, rfl⟩ := hR
    have d0 : CF H1 _ _ _ := hc 0 _ rfl
    have d1 : CF H1 _ _ _ := hc 1 _ rfl
    have d2 : CF H1 _ _ _ := hc 2 _ rfl
    simp only [Nat.add_zero] at d0
    have tc := toEvent_ac (H := H1) xs[i]
    simp only [cEv] at tc

    have g0 : CF H1 H.length (i * 3) r0 := CF.of hb rfl (by have := get_mid (j := 0) (z := rest) (m := [r0, r1, r2]) hdl rfl; simpa using this)
    have g1 : CF H1 H.length (i * 3 + 1) r1 := CF.of hb rfl (by have := get_mid (j := 1) (z := rest) (m := [r0, r1, r2]) hdl rfl; simpa using this)
    have g2 : CF H1 H.length (i * 3 + 2) r2 := CF.of hb rfl (by have := get_mid (j := 2) (z := rest) (m := [r0, r1, r2]) hdl rfl; simpa using this)
    have hrw := rw_get hb
    have hnew := puts_at H.length [iv xs[i].op, iv xs[i].train, iv xs[i].n] H1 (i * 3) _ ((xs.take i).flatMap cEv) [r0, r1, r2] rest hb (by simp) hdl rfl
    repeat (first | refine sk_seq ?_ | refine sk_block ?_ | refine sk_blk ?_ | refine sk_skip ?_ | refine sk_exit rfl ?_ | refine sk_cond_t rfl ?_ | refine sk_cond_f rfl ?_ | ((first | refine sk_reg fun K hK => ?_ | refine sk_drw mix fun K hK => ?_); simp [hi, hv, d0.s, d1.s, d2.s, g0.s, g1.s, g2.s, hw, hl, hrw]; (repeat ((first | refine AskX.go (tc) ?_ | refine AskD.go (tc) ?_); simp [hi, hv, d0.s, d1.s, d2.s, g0.s, g1.s, g2.s, hw, hl, hrw])); refine hK _ ?_; clear hK K))
    refine sk_inv ⟨by simp [subL, getT, hv], hg.put (by omega) _ _ |>.put (by omega) _ _ |>.put (by omega) _ _, rest, ?_, by simp at hrl; omega⟩
    have e : (xs.take (i + 1)).flatMap cEv = (xs.take i).flatMap cEv ++ [iv xs[i].op, iv xs[i].train, iv xs[i].n] := by rw [take_snoc hi, List.flatMap_append]; simp [cEv]
    rw [e, List.append_assoc]
    exact hnew
  · rintro H1 ⟨hg, rest, hb, hrl⟩
    obtain rfl : rest = [] := by simpa using hrl
    rw [List.take_length, List.append_nil] at hb
    repeat (first | refine sk_seq ?_ | refine sk_block ?_ | refine sk_blk ?_ | refine sk_skip ?_ | refine sk_exit rfl ?_ | refine sk_cond_t rfl ?_ | refine sk_cond_f rfl ?_ | ((first | refine sk_reg fun K hK => ?_ | refine sk_drw mix fun K hK => ?_); simp; refine hK _ ?_; clear hK K))
    refine sk_ret ?_; simp
    refine ⟨hg.len, fun i hi => hg.same hi, [H.length], ⟨by omega, .inr ⟨H.length, 0, [], 49, true, [], _, [], rfl, rfl, by simpa using hb, rfl, RCs.plain hlen _ _⟩⟩, ⟨by simp, fun id hid => by simp at hid; subst hid; exact rw_get hb⟩, fun e he => by simp at he; omega⟩

def B109 : SC := .seq (.reg [⟨some 4, .assign (.const (.int .i64 0)), none, []⟩]) (.seq (.reg [⟨some 5, .move (.tmp 1), none, []⟩, ⟨some 6, .move (.tmp 0), none, []⟩, ⟨some 7, .call { callee := (.builtin .len), args := #[(.tmp 6)], argTypes := #[81] }, none, []⟩, ⟨some 8, .binOp .sub 3 (.tmp 5) (.tmp 7) 3, none, []⟩, ⟨some 1, .assign (.tmp 8), none, []⟩]) (.seq (.seq (.reg [⟨some 9, .move (.tmp 1), none, []⟩, ⟨some 10, .binOp .lss 3 (.tmp 9) (.const (.int .i64 0)) 3, none, []⟩]) (.cond (.tmp 10) (.seq (.reg [⟨some 4, .assign (.const (.int .i64 (-1))), none, []⟩]) .ret) .skip)) (.seq (.reg [⟨some 11, .move (.tmp 1), none, []⟩, ⟨some 4, .assign (.tmp 11), none, []⟩]) .ret)))
theorem s109 : Try.f109.body.bind (stripC 12) = some B109 := by kernel_rfl
theorem szBodyS_ac {H : Heap} {E : List Nat} {v : Value} {xs : List Bd} (h : RS 4 RBd H E v xs) {a : Int} (ha : 0 ≤ a ∧ a ≤ 1048576) : AC Try.prog 109 [v, iv a] H (iv (subN a xs.length)) H [] := by
  obtain ⟨a1, c1, rfl⟩ := h.form
  have hn := h.1
  have hw := wrap_id (x := a - xs.length) (by omega) (by omega)
  refine AC.of_pureS (N := 12) Try.func109 s109 (by kernel_rfl) rfl rfl (by simp) rfl ?_; unfold B109
  by_cases q : (xs.length : Int) ≤ a
  · have q' : ¬ (a - (xs.length : Int) < 0) := by omega
    have hr := subN_lt q
    repeat (first | refine sk_seq ?_ | refine sk_block ?_ | refine sk_blk ?_ | refine sk_skip ?_ | refine sk_exit rfl ?_ | refine sk_cond_t rfl ?_ | refine sk_cond_f rfl ?_ | ((first | refine sk_reg fun K hK => ?_ | refine sk_drw mix fun K hK => ?_); simp [hw, q']; refine hK _ ?_; clear hK K))
    refine sk_ret ?_; simp [hr]
  · have q' : a - (xs.length : Int) < 0 := by omega
    have hr := subN_no q
    repeat (first | refine sk_seq ?_ | refine sk_block ?_ | refine sk_blk ?_ | refine sk_skip ?_ | refine sk_exit rfl ?_ | refine sk_cond_t rfl ?_ | refine sk_cond_f rfl ?_ | ((first | refine sk_reg fun K hK => ?_ | refine sk_drw mix fun K hK => ?_); simp [hw, q']; refine hK _ ?_; clear hK K))
    refine sk_ret ?_; simp [hr]

def B137 : SC := .seq (.reg [⟨some 1, .box 165 (.tmp 0), none, []⟩, ⟨some 2, .alloc 72, none, []⟩]) (.seq (.reg [⟨some 3, .alloc 72, none, []⟩]) (.seq (.reg [⟨some 4, .fieldAddr 165 (.tmp 1) 0, none, []⟩, ⟨some 5, .load 3 (.tmp 4), none, []⟩, ⟨some 6, .fieldAddr 72 (.tmp 3) 0, none, []⟩, ⟨none, .store 3 (.tmp 6) (.tmp 5), none, []⟩]) (.seq (.reg [⟨some 7, .fieldAddr 165 (.tmp 1) 1, none, []⟩, ⟨some 8, .load 3 (.tmp 7), none, []⟩, ⟨some 9, .fieldAddr 72 (.tmp 3) 1, none, []⟩, ⟨none, .store 3 (.tmp 9) (.tmp 8), none, []⟩]) (.seq (.reg [⟨some 10, .fieldAddr 165 (.tmp 1) 2, none, []⟩, ⟨some 11, .load 3 (.tmp 10), none, []⟩, ⟨some 12, .fieldAddr 72 (.tmp 3) 2, none, []⟩, ⟨none, .store 3 (.tmp 12) (.tmp 11), none, []⟩]) (.seq (.reg [⟨some 13, .fieldAddr 165 (.tmp 1) 3, none, []⟩, ⟨some 14, .load 3 (.tmp 13), none, []⟩, ⟨some 15, .fieldAddr 72 (.tmp 3) 3, none, []⟩, ⟨none, .store 3 (.tmp 15) (.tmp 14), none, []⟩]) (.seq (.reg [⟨some 16, .load 72 (.tmp 3), none, []⟩, ⟨none, .store 72 (.tmp 2) (.tmp 16), none, []⟩]) .ret))))))
theorem s137 : Try.f137.body.bind (stripC 17) = some B137 := by kernel_rfl
theorem toBody_ac {H : Heap} (x : Bd) : AC Try.prog 137 [.agg (cBd x).toArray] H (.agg (cBd x).toArray) H [] := by
  refine AC.of_pureCS (N := 17) Try.func137 s137 (by kernel_rfl) rfl rfl (by simp) (Clo.plains rfl _) ?_; unfold B137
  simp only [cBd]
  repeat (first | refine sk_seq ?_ | refine sk_block ?_ | refine sk_blk ?_ | refine sk_skip ?_ | refine sk_exit rfl ?_ | refine sk_cond_t rfl ?_ | refine sk_cond_f rfl ?_ | ((first | refine sk_reg fun K hK => ?_ | refine sk_drw mix fun K hK => ?_); simp; refine hK _ ?_; clear hK K))
  refine sk_ret ?_; simp

def B111 : SC := .seq (.reg [⟨some 2, .assign (.const (.slice none 0 0)), none, []⟩]) (.seq (.reg [⟨some 5, .move (.tmp 0), none, []⟩, ⟨some 6, .call { callee := (.builtin .len), args := #[(.tmp 5)], argTypes := #[81] }, none, []⟩, ⟨some 7, .makeSlice 62 (.tmp 6) (.tmp 6), none, []⟩, ⟨some 3, .assign (.tmp 7), none, []⟩]) (.seq (.seq (.reg [⟨some 4, .assign (.const (.int .i64 0)), none, []⟩]) (.block 0 (.loop (.seq (.seq (.reg [⟨some 8, .move (.tmp 4), none, []⟩, ⟨some 9, .move (.tmp 0), none, []⟩, ⟨some 10, .call { callee := (.builtin .len), args := #[(.tmp 9)], argTypes := #[81] }, none, []⟩, ⟨some 11, .binOp .lss 3 (.tmp 8) (.tmp 10) 3, none, []⟩]) (.cond (.tmp 11) .skip (.exit 0))) (.seq (.block 1 (.reg [⟨some 14, .move (.tmp 3), none, []⟩, ⟨some 15, .move (.tmp 4), none, []⟩, ⟨some 16, .move (.tmp 0), none, []⟩, ⟨some 17, .move (.tmp 4), none, []⟩, ⟨some 18, .indexAddr 81 (.tmp 16) (.tmp 17), none, []⟩, ⟨some 19, .load 165 (.tmp 18), none, []⟩, ⟨some 20, .call { callee := (.value (.func 137)), args := #[(.tmp 19)], argTypes := #[165] }, none, []⟩, ⟨some 21, .indexAddr 62 (.tmp 14) (.tmp 15), none, []⟩, ⟨none, .store 72 (.tmp 21) (.tmp 20), none, []⟩])) (.reg [⟨some 12, .move (.tmp 4), none, []⟩, ⟨some 13, .binOp .add 3 (.tmp 12) (.const (.int .i64 1)) 3, none, []⟩, ⟨some 4, .assign (.tmp 13), none, []⟩])))))) (.seq (.reg [⟨some 22, .move (.tmp 3), none, []⟩, ⟨some 2, .assign (.tmp 22), none, []⟩]) .ret)))
theorem s111 : Try.f111.body.bind (stripC 23) = some B111 := by kernel_rfl
theorem toBodyS_mk {H : Heap} {E : List Nat} {v : Value} {xs : List Bd} (h : RS 4 RBd H E v xs) (hb : xs.length ≤ 1048576) : Mkr Try.prog 111 [v] H fun H' E' v' => RS 4 RBd H' E' v' xs := by
  obtain ⟨a1, c1, rfl⟩ := h.form
  have hb1 : (32 : Int) * (xs.length : Int) ≤ 281474976710656 := by omega
  have hb2 : (xs.length : Int) ≤ 9223372036854775807 := by omega
  have hlen : ∀ x, (cBd x).length = 4 := fun _ => rfl
  refine Mkr.of_bodyS (N := 23) Try.func111 s111 (by kernel_rfl) rfl rfl (by simp) ?_; unfold B111
  repeat (first | refine sk_seq ?_ | refine sk_block ?_ | refine sk_blk ?_ | refine sk_skip ?_ | refine sk_exit rfl ?_ | refine sk_cond_t rfl ?_ | refine sk_cond_f rfl ?_ | ((first | refine sk_reg fun K hK => ?_ | refine sk_drw mix fun K hK => ?_); simp [hb1, hb2]; refine hK _ ?_; clear hK K))
  refine sk_rng xs.length (fun i => [(0, .slice a1 xs.length c1), (3, sl H.length 0 xs.length), (4, iv i)]) (fun i H1 => Gro H H1 ∧ ∃ rest, H1[H.length]? = some ⟨72, (xs.take i).flatMap cBd ++ rest, true, true⟩ ∧ rest.length = (xs.length - i) * 4) (by simp [subL, getT]) ⟨(by first | exact Gro.refl _ | exact Gro.one _ _), _, by simp; rfl, by simp⟩ ?_ ?_
  · rintro i H1 hi ⟨hg, rest, hb, hrl⟩
    have hl := hg.len
    have hw := wrap_id (x := (i : Int) + 1) (by omega) (by omega)
    have hdl : ((xs.take i).flatMap cBd).length = i * 4 := by rw [flatMap_len hlen, List.length_take, Nat.min_eq_left (by omega)]
    obtain ⟨r0, r1, r2, r3, rest, rfl⟩ : ∃ r0 r1 r2 r3 rest', rest = r0 :: r1 :: r2 :: r3 :: rest' := by
      match rest, hrl with
      | [], hrl => simp at hrl; omega
      | [_], hrl => simp at hrl; omega
      | [_, _], hrl => simp at hrl; omega
      | [_, _, _], hrl => simp at hrl; omega
      | r0 :: r1 :: r2 :: r3 :: rest, _ => exact ⟨r0, r1, r2, r3, rest, rfl⟩
    obtain ⟨id, o, Ek, cs, hv, hid, _, _, hR, hsz, hc⟩ := (h.gro hg (RP.frm _)).at hi
    obtain ⟨_, rfl⟩ := hR
    have d0 : CF H1 _ _ _ := hc 0 _ rfl
    have d1 : CF H1 _ _ _ := hc 1 _ rfl
    have d2 : CF H1 _ _ _ := hc 2 _ rfl
    have d3 : CF H1 _ _ _ := hc 3 _ rfl
    simp only [Nat.add_zero] at d0
    have tc := toBody_ac (H := H1) xs[i]
    simp only [cBd] at tc

    have g0 : CF H1 H.length (i * 4) r0 := CF.of hb rfl (by have := get_mid (j := 0) (z := rest) (m := [r0, r1, r2, r3]) hdl rfl; simpa using this)
    have g1 : CF H1 H.length (i * 4 + 1) r1 := CF.of hb rfl (by have := get_mid (j := 1) (z := rest) (m := [r0, r1, r2, r3]) hdl rfl; simpa using this)
    have g2 : CF H1 H.length (i * 4 + 2) r2 := CF.of hb rfl (by have := get_mid (j := 2) (z := rest) (m := [r0, r1, r2, r3]) hdl rfl; simpa using this)
    have g3 : CF H1 H.length (i * 4 + 3) r3 := CF.of hb rfl (by have := get_mid (j := 3) (z := rest) (m := [r0, r1, r2, r3]) hdl rfl; simpa using this)
    have hrw := rw_get hb
    have hnew := puts_at H.length [iv xs[i].ver, iv xs[i].cel, iv xs[i].tail, iv xs[i].front] H1 (i * 4) _ ((xs.take i).flatMap cBd) [r0, r1, r2, r3] rest hb (by simp) hdl rfl
    repeat (first | refine sk_seq ?_ | refine sk_block ?_ | refine sk_blk ?_ | refine sk_skip ?_ | refine sk_exit rfl ?_ | refine sk_cond_t rfl ?_ | refine sk_cond_f rfl ?_ | ((first | refine sk_reg fun K hK => ?_ | refine sk_drw mix fun K hK => ?_); simp [hi, hv, d0.s, d1.s, d2.s, d3.s, g0.s, g1.s, g2.s, g3.s, hw, hl, hrw]; (repeat ((first | refine AskX.go (tc) ?_ | refine AskD.go (tc) ?_); simp [hi, hv, d0.s, d1.s, d2.s, d3.s, g0.s, g1.s, g2.s, g3.s, hw, hl, hrw])); refine hK _ ?_; clear hK K))
    refine sk_inv ⟨by simp [subL, getT, hv], hg.put (by omega) _ _ |>.put (by omega) _ _ |>.put (by omega) _ _ |>.put (by omega) _ _, rest, ?_, by simp at hrl; omega⟩
    have e : (xs.take (i + 1)).flatMap cBd = (xs.take i).flatMap cBd ++ [iv xs[i].ver, iv xs[i].cel, iv xs[i].tail, iv xs[i].front] := by rw [take_snoc hi, List.flatMap_append]; simp [cBd]
    rw [e, List.append_assoc]
    exact hnew
  · rintro H1 ⟨hg, rest, hb, hrl⟩
    obtain rfl : rest = [] := by simpa using hrl
    rw [List.take_length, List.append_nil] at hb
    repeat (first | refine sk_seq ?_ | refine sk_block ?_ | refine sk_blk ?_ | refine sk_skip ?_ | refine sk_exit rfl ?_ | refine sk_cond_t rfl ?_ | refine sk_cond_f rfl ?_ | ((first | refine sk_reg fun K hK => ?_ | refine sk_drw mix fun K hK => ?_); simp; refine hK _ ?_; clear hK K))
    refine sk_ret ?_; simp
    refine ⟨hg.len, fun i hi => hg.same hi, [H.length], ⟨by omega, .inr ⟨H.length, 0, [], 72, true, [], _, [], rfl, rfl, by simpa using hb, rfl, RCs.plain hlen _ _⟩⟩, ⟨by simp, fun id hid => by simp at hid; subst hid; exact rw_get hb⟩, fun e he => by simp at he; omega⟩

def B74 : SC := .seq (.reg [⟨some 4, .assign (.const (.int .i64 0)), none, []⟩]) (.seq (.reg [⟨some 5, .move (.tmp 1), none, []⟩, ⟨some 6, .move (.tmp 0), none, []⟩, ⟨some 7, .call { callee := (.builtin .len), args := #[(.tmp 6)], argTypes := #[103] }, none, []⟩, ⟨some 8, .binOp .sub 3 (.tmp 5) (.tmp 7) 3, none, []⟩, ⟨some 1, .assign (.tmp 8), none, []⟩]) (.seq (.seq (.reg [⟨some 9, .move (.tmp 1), none, []⟩, ⟨some 10, .binOp .lss 3 (.tmp 9) (.const (.int .i64 0)) 3, none, []⟩]) (.cond (.tmp 10) (.seq (.reg [⟨some 4, .assign (.const (.int .i64 (-1))), none, []⟩]) .ret) .skip)) (.seq (.reg [⟨some 11, .move (.tmp 1), none, []⟩, ⟨some 4, .assign (.tmp 11), none, []⟩]) .ret)))
theorem s74 : Try.f74.body.bind (stripC 12) = some B74 := by kernel_rfl
theorem szActS_ac {H : Heap} {E : List Nat} {v : Value} {xs : List Actn} (h : RS 6 RAc H E v xs) {a : Int} (ha : 0 ≤ a ∧ a ≤ 1048576) : AC Try.prog 74 [v, iv a] H (iv (subN a xs.length)) H [] := by
  obtain ⟨a1, c1, rfl⟩ := h.form
  have hn := h.1
  have hw := wrap_id (x := a - xs.length) (by omega) (by omega)
  refine AC.of_pureS (N := 12) Try.func74 s74 (by kernel_rfl) rfl rfl (by simp) rfl ?_; unfold B74
  by_cases q : (xs.length : Int) ≤ a
  · have q' : ¬ (a - (xs.length : Int) < 0) := by omega
    have hr := subN_lt q
    repeat (first | refine sk_seq ?_ | refine sk_block ?_ | refine sk_blk ?_ | refine sk_skip ?_ | refine sk_exit rfl ?_ | refine sk_cond_t rfl ?_ | refine sk_cond_f rfl ?_ | ((first | refine sk_reg fun K hK => ?_ | refine sk_drw mix fun K hK => ?_); simp [hw, q']; refine hK _ ?_; clear hK K))
    refine sk_ret ?_; simp [hr]
  · have q' : a - (xs.length : Int) < 0 := by omega
    have hr := subN_no q
    repeat (first | refine sk_seq ?_ | refine sk_block ?_ | refine sk_blk ?_ | refine sk_skip ?_ | refine sk_exit rfl ?_ | refine sk_cond_t rfl ?_ | refine sk_cond_f rfl ?_ | ((first | refine sk_reg fun K hK => ?_ | refine sk_drw mix fun K hK => ?_); simp [hw, q']; refine hK _ ?_; clear hK K))
    refine sk_ret ?_; simp [hr]

def B70 : SC := .seq (.reg [⟨some 1, .box 98 (.tmp 0), none, []⟩, ⟨some 2, .alloc 70, none, []⟩]) (.seq (.reg [⟨some 3, .alloc 70, none, []⟩]) (.seq (.reg [⟨some 4, .fieldAddr 98 (.tmp 1) 0, none, []⟩, ⟨some 5, .load 3 (.tmp 4), none, []⟩, ⟨some 6, .fieldAddr 70 (.tmp 3) 0, none, []⟩, ⟨none, .store 3 (.tmp 6) (.tmp 5), none, []⟩]) (.seq (.reg [⟨some 7, .fieldAddr 98 (.tmp 1) 1, none, []⟩, ⟨some 8, .load 58 (.tmp 7), none, []⟩, ⟨some 9, .call { callee := (.value (.func 39)), args := #[(.tmp 8)], argTypes := #[58] }, none, []⟩, ⟨some 10, .fieldAddr 70 (.tmp 3) 1, none, []⟩, ⟨none, .store 49 (.tmp 10) (.tmp 9), none, []⟩]) (.seq (.reg [⟨some 11, .fieldAddr 98 (.tmp 1) 2, none, []⟩, ⟨some 12, .load 3 (.tmp 11), none, []⟩, ⟨some 13, .fieldAddr 70 (.tmp 3) 2, none, []⟩, ⟨none, .store 3 (.tmp 13) (.tmp 12), none, []⟩]) (.seq (.reg [⟨some 14, .fieldAddr 98 (.tmp 1) 3, none, []⟩, ⟨some 15, .load 3 (.tmp 14), none, []⟩, ⟨some 16, .fieldAddr 70 (.tmp 3) 3, none, []⟩, ⟨none, .store 3 (.tmp 16) (.tmp 15), none, []⟩]) (.seq (.reg [⟨some 17, .load 70 (.tmp 3), none, []⟩, ⟨none, .store 70 (.tmp 2) (.tmp 17), none, []⟩]) .ret))))))
theorem s70 : Try.f70.body.bind (stripC 18) = some B70 := by kernel_rfl
theorem toAct_ac {H : Heap} (x : Actn) : AC Try.prog 70 [.agg (cAc x).toArray] H (.agg (cAc x).toArray) H [] := by
  have tev := fun L : Heap => toEvent_ac (H := H ++ L) x.ev
  simp only [cEv] at tev
  refine AC.of_pureCS (N := 18) Try.func70 s70 (by kernel_rfl) rfl rfl (by simp) (Clo.plains rfl _) ?_; unfold B70
  simp only [cAc]
  repeat (first | refine sk_seq ?_ | refine sk_block ?_ | refine sk_blk ?_ | refine sk_skip ?_ | refine sk_exit rfl ?_ | refine sk_cond_t rfl ?_ | refine sk_cond_f rfl ?_ | ((first | refine sk_reg fun K hK => ?_ | refine sk_drw mix fun K hK => ?_); simp; (repeat ((first | refine AskX.go (tev _) ?_ | refine AskD.go (tev _) ?_); simp)); refine hK _ ?_; clear hK K))
  refine sk_ret ?_; simp

def B76 : SC := .seq (.reg [⟨some 2, .assign (.const (.slice none 0 0)), none, []⟩]) (.seq (.reg [⟨some 5, .move (.tmp 0), none, []⟩, ⟨some 6, .call { callee := (.builtin .len), args := #[(.tmp 5)], argTypes := #[103] }, none, []⟩, ⟨some 7, .makeSlice 73 (.tmp 6) (.tmp 6), none, []⟩, ⟨some 3, .assign (.tmp 7), none, []⟩]) (.seq (.seq (.reg [⟨some 4, .assign (.const (.int .i64 0)), none, []⟩]) (.block 0 (.loop (.seq (.seq (.reg [⟨some 8, .move (.tmp 4), none, []⟩, ⟨some 9, .move (.tmp 0), none, []⟩, ⟨some 10, .call { callee := (.builtin .len), args := #[(.tmp 9)], argTypes := #[103] }, none, []⟩, ⟨some 11, .binOp .lss 3 (.tmp 8) (.tmp 10) 3, none, []⟩]) (.cond (.tmp 11) .skip (.exit 0))) (.seq (.block 1 (.reg [⟨some 14, .move (.tmp 3), none, []⟩, ⟨some 15, .move (.tmp 4), none, []⟩, ⟨some 16, .move (.tmp 0), none, []⟩, ⟨some 17, .move (.tmp 4), none, []⟩, ⟨some 18, .indexAddr 103 (.tmp 16) (.tmp 17), none, []⟩, ⟨some 19, .load 98 (.tmp 18), none, []⟩, ⟨some 20, .call { callee := (.value (.func 70)), args := #[(.tmp 19)], argTypes := #[98] }, none, []⟩, ⟨some 21, .indexAddr 73 (.tmp 14) (.tmp 15), none, []⟩, ⟨none, .store 70 (.tmp 21) (.tmp 20), none, []⟩])) (.reg [⟨some 12, .move (.tmp 4), none, []⟩, ⟨some 13, .binOp .add 3 (.tmp 12) (.const (.int .i64 1)) 3, none, []⟩, ⟨some 4, .assign (.tmp 13), none, []⟩])))))) (.seq (.reg [⟨some 22, .move (.tmp 3), none, []⟩, ⟨some 2, .assign (.tmp 22), none, []⟩]) .ret)))
theorem s76 : Try.f76.body.bind (stripC 23) = some B76 := by kernel_rfl
theorem toActS_mk {H : Heap} {E : List Nat} {v : Value} {xs : List Actn} (h : RS 6 RAc H E v xs) (hb : xs.length ≤ 1048576) : Mkr Try.prog 76 [v] H fun H' E' v' => RS 6 RAc H' E' v' xs := by
  obtain ⟨a1, c1, rfl⟩ := h.form
  have hb1 : (48 : Int) * (xs.length : Int) ≤ 281474976710656 := by omega
  have hb2 : (xs.length : Int) ≤ 9223372036854775807 := by omega
  have hlen : ∀ x, (cAc x).length = 6 := fun _ => rfl
  refine Mkr.of_bodyS (N := 23) Try.func76 s76 (by kernel_rfl) rfl rfl (by simp) ?_; unfold B76
  repeat (first | refine sk_seq ?_ | refine sk_block ?_ | refine sk_blk ?_ | refine sk_skip ?_ | refine sk_exit rfl ?_ | refine sk_cond_t rfl ?_ | refine sk_cond_f rfl ?_ | ((first | refine sk_reg fun K hK => ?_ | refine sk_drw mix fun K hK => ?_); simp [hb1, hb2]; refine hK _ ?_; clear hK K))
  refine sk_rng xs.length (fun i => [(0, .slice a1 xs.length c1), (3, sl H.length 0 xs.length), (4, iv i)]) (fun i H1 => Gro H H1 ∧ ∃ rest, H1[H.length]? = some ⟨70, (xs.take i).flatMap cAc ++ rest, true, true⟩ ∧ rest.length = (xs.length - i) * 6) (by simp [subL, getT]) ⟨(by first | exact Gro.refl _ | exact Gro.one _ _), _, by simp; rfl, by simp⟩ ?_ ?_
  · rintro i H1 hi ⟨hg, rest, hb, hrl⟩
    have hl := hg.len
    have hw := wrap_id (x := (i : Int) + 1) (by omega) (by omega)
    have hdl : ((xs.take i).flatMap cAc).length = i * 6 := by rw [flatMap_len hlen, List.length_take, Nat.min_eq_left (by omega)]
    obtain ⟨r0, r1, r2, r3, r4, r5, rest, rfl⟩ : ∃ r0 r1 r2 r3 r4 r5 rest', rest = r0 :: r1 :: r2 :: r3 :: r4 :: r5 :: rest' := by
      match rest, hrl with
      | [], hrl => simp at hrl; omega
      | [_], hrl => simp at hrl; omega
      | [_, _], hrl => simp at hrl; omega
      | [_, _, _], hrl => simp at hrl; omega
      | [_, _, _, _], hrl => simp at hrl; omega
      | [_, _, _, _, _], hrl => simp at hrl; omega
      | r0 :: r1 :: r2 :: r3 :: r4 :: r5 :: rest, _ => exact ⟨r0, r1, r2, r3, r4, r5, rest, rfl⟩
    obtain ⟨id, o, Ek, cs, hv, hid, _, _, hR, hsz, hc⟩ := (h.gro hg (RP.frm _)).at hi
    obtain ⟨_, rfl⟩ := hR
    have d0 : CF H1 _ _ _ := hc 0 _ rfl
    have d1 : CF H1 _ _ _ := hc 1 _ rfl
    have d2 : CF H1 _ _ _ := hc 2 _ rfl
    have d3 : CF H1 _ _ _ := hc 3 _ rfl
    have d4 : CF H1 _ _ _ := hc 4 _ rfl
    have d5 : CF H1 _ _ _ := hc 5 _ rfl
    simp only [Nat.add_zero] at d0
    have tc := toAct_ac (H := H1) xs[i]
    simp only [cAc] at tc

    have g0 : CF H1 H.length (i * 6) r0 := CF.of hb rfl (by have := get_mid (j := 0) (z := rest) (m := [r0, r1, r2, r3, r4, r5]) hdl rfl; simpa using this)
    have g1 : CF H1 H.length (i * 6 + 1) r1 := CF.of hb rfl (by have := get_mid (j := 1) (z := rest) (m := [r0, r1, r2, r3, r4, r5]) hdl rfl; simpa using this)
    have g2 : CF H1 H.length (i * 6 + 2) r2 := CF.of hb rfl (by have := get_mid (j := 2) (z := rest) (m := [r0, r1, r2, r3, r4, r5]) hdl rfl; simpa using this)
    have g3 : CF H1 H.length (i * 6 + 3) r3 := CF.of hb rfl (by have := get_mid (j := 3) (z := rest) (m := [r0, r1, r2, r3, r4, r5]) hdl rfl; simpa using this)
    have g4 : CF H1 H.length (i * 6 + 4) r4 := CF.of hb rfl (by have := get_mid (j := 4) (z := rest) (m := [r0, r1, r2, r3, r4, r5]) hdl rfl; simpa using this)
    have g5 : CF H1 H.length (i * 6 + 5) r5 := CF.of hb rfl (by have := get_mid (j := 5) (z := rest) (m := [r0, r1, r2, r3, r4, r5]) hdl rfl; simpa using this)
    have hrw := rw_get hb
    have hnew := puts_at H.length [iv xs[i].op, iv xs[i].ev.op, iv xs[i].ev.train, iv xs[i].ev.n, iv xs[i].train, iv xs[i].n] H1 (i * 6) _ ((xs.take i).flatMap cAc) [r0, r1, r2, r3, r4, r5] rest hb (by simp) hdl rfl
    repeat (first | refine sk_seq ?_ | refine sk_block ?_ | refine sk_blk ?_ | refine sk_skip ?_ | refine sk_exit rfl ?_ | refine sk_cond_t rfl ?_ | refine sk_cond_f rfl ?_ | ((first | refine sk_reg fun K hK => ?_ | refine sk_drw mix fun K hK => ?_); simp [hi, hv, d0.s, d1.s, d2.s, d3.s, d4.s, d5.s, g0.s, g1.s, g2.s, g3.s, g4.s, g5.s, hw, hl, hrw]; (repeat ((first | refine AskX.go (tc) ?_ | refine AskD.go (tc) ?_); simp [hi, hv, d0.s, d1.s, d2.s, d3.s, d4.s, d5.s, g0.s, g1.s, g2.s, g3.s, g4.s, g5.s, hw, hl, hrw])); refine hK _ ?_; clear hK K))
    refine sk_inv ⟨by simp [subL, getT, hv], hg.put (by omega) _ _ |>.put (by omega) _ _ |>.put (by omega) _ _ |>.put (by omega) _ _ |>.put (by omega) _ _ |>.put (by omega) _ _, rest, ?_, by simp at hrl; omega⟩
    have e : (xs.take (i + 1)).flatMap cAc = (xs.take i).flatMap cAc ++ [iv xs[i].op, iv xs[i].ev.op, iv xs[i].ev.train, iv xs[i].ev.n, iv xs[i].train, iv xs[i].n] := by rw [take_snoc hi, List.flatMap_append]; simp [cAc]
    rw [e, List.append_assoc]
    exact hnew
  · rintro H1 ⟨hg, rest, hb, hrl⟩
    obtain rfl : rest = [] := by simpa using hrl
    rw [List.take_length, List.append_nil] at hb
    repeat (first | refine sk_seq ?_ | refine sk_block ?_ | refine sk_blk ?_ | refine sk_skip ?_ | refine sk_exit rfl ?_ | refine sk_cond_t rfl ?_ | refine sk_cond_f rfl ?_ | ((first | refine sk_reg fun K hK => ?_ | refine sk_drw mix fun K hK => ?_); simp; refine hK _ ?_; clear hK K))
    refine sk_ret ?_; simp
    refine ⟨hg.len, fun i hi => hg.same hi, [H.length], ⟨by omega, .inr ⟨H.length, 0, [], 70, true, [], _, [], rfl, rfl, by simpa using hb, rfl, RCs.plain hlen _ _⟩⟩, ⟨by simp, fun id hid => by simp at hid; subst hid; exact rw_get hb⟩, fun e he => by simp at he; omega⟩

end Go.Proofs.Ytpoedfmkiiijnaa
namespace Go.Proofs.Ytpoedfmkiiijnaa
open Go Go.RowKit Go.Proofs.YtpoedfmkiiijnaaAm
set_option linter.unusedVariables false
set_option linter.unusedSimpArgs false
set_option maxRecDepth 10000
set_option maxHeartbeats 4000000
def szL (l : Ln) : Int := l.way.length + l.grs.length
theorem szL_nn (l : Ln) : 0 ≤ szL l := by unfold szL; omega
def szLs (ls : List Ln) : Int := ls.length + cnL szL ls
def szW (w : Wd) : Int := szLs w.book.lines + w.bodies.length
theorem subN_sub {a m n : Int} (hm : m ≤ a) (hn : 0 ≤ n) : subN (a - m) n = subN a (m + n) := by
  unfold subN; by_cases h : n ≤ a - m
  · rw [if_pos h, if_pos (by omega)]; omega
  · rw [if_neg h, if_neg (by omega)]
def B131 : SC := .seq (.reg [⟨some 2, .box 159 (.tmp 0), none, []⟩, ⟨some 4, .assign (.const (.int .i64 0)), none, []⟩]) (.seq (.reg [⟨some 5, .fieldAddr 159 (.tmp 2) 1, none, []⟩, ⟨some 6, .load 40 (.tmp 5), none, []⟩, ⟨some 7, .move (.tmp 1), none, []⟩, ⟨some 8, .call { callee := (.value (.func 141)), args := #[(.tmp 6), (.tmp 7)], argTypes := #[40, 3] }, none, []⟩, ⟨some 1, .assign (.tmp 8), none, []⟩]) (.seq (.seq (.reg [⟨some 9, .move (.tmp 1), none, []⟩, ⟨some 10, .binOp .lss 3 (.tmp 9) (.const (.int .i64 0)) 3, none, []⟩]) (.cond (.tmp 10) (.seq (.reg [⟨some 4, .assign (.const (.int .i64 (-1))), none, []⟩]) .ret) .skip)) (.seq (.reg [⟨some 11, .fieldAddr 159 (.tmp 2) 2, none, []⟩, ⟨some 12, .load 157 (.tmp 11), none, []⟩, ⟨some 13, .move (.tmp 1), none, []⟩, ⟨some 14, .call { callee := (.value (.func 142)), args := #[(.tmp 12), (.tmp 13)], argTypes := #[157, 3] }, none, []⟩, ⟨some 1, .assign (.tmp 14), none, []⟩]) (.seq (.seq (.reg [⟨some 15, .move (.tmp 1), none, []⟩, ⟨some 16, .binOp .lss 3 (.tmp 15) (.const (.int .i64 0)) 3, none, []⟩]) (.cond (.tmp 16) (.seq (.reg [⟨some 4, .assign (.const (.int .i64 (-1))), none, []⟩]) .ret) .skip)) (.seq (.reg [⟨some 17, .move (.tmp 1), none, []⟩, ⟨some 4, .assign (.tmp 17), none, []⟩]) .ret)))))
theorem s131 : Try.f131.body.bind (stripC 18) = some B131 := by kernel_rfl
theorem szLine_ac {H : Heap} {E1 E2 : List Nat} {v1 v2 : Value} {l : Ln} (h1 : RS 1 RInt H E1 v1 l.way) (h2 : RS 2 RGr H E2 v2 l.grs) {a : Int} (ha : 0 ≤ a ∧ a ≤ 1048576) :
    AC Try.prog 131 [.agg #[iv l.gone, v1, v2, iv l.drop], iv a] H (iv (subN a (szL l))) H [] := by
  have x1 := h1.one
  have x2 := h2.one
  have b1 := h1.1
  have b2 := h2.1
  refine AC.of_pureS (N := 18) Try.func131 s131 (by kernel_rfl) rfl rfl (by simp) rfl ?_; unfold B131
  by_cases q : (l.way.length : Int) ≤ a
  case neg =>
    have hr : subN a (szL l) = -1 := subN_no (by unfold szL; omega)
    have hs := subN_no q
    have s1 := fun L : Heap => szIntS_ac (H := H ++ L) (h1.ext (RP.frm _)) ha
    rw [hs] at s1
    repeat (first | refine sk_seq ?_ | refine sk_block ?_ | refine sk_blk ?_ | refine sk_skip ?_ | refine sk_exit rfl ?_ | refine sk_cond_t rfl ?_ | refine sk_cond_f rfl ?_ | ((first | refine sk_reg fun K hK => ?_ | refine sk_drw mix fun K hK => ?_); simp [x1, x2]; (repeat ((first | refine AskX.go (s1 _) ?_ | refine AskD.go (s1 _) ?_); simp [x1, x2])); refine hK _ ?_; clear hK K))
    refine sk_ret ?_; simp [hr]
  have s1 := fun L : Heap => szIntS_ac (H := H ++ L) (h1.ext (RP.frm _)) ha
  rw [subN_lt q] at s1
  have q1 : ¬ (a - (l.way.length : Int) < 0) := by omega
  have s2 := fun L : Heap => szGrantS_ac (H := H ++ L) (h2.ext (RP.frm _)) (a := a - l.way.length) (by omega)
  rw [subN_sub q (by omega)] at s2
  by_cases q2 : szL l ≤ a
  · have q2' : ¬ (a - szL l < 0) := by omega
    have hr := subN_lt q2
    rw [show (l.way.length : Int) + l.grs.length = szL l from rfl, hr] at s2
    repeat (first | refine sk_seq ?_ | refine sk_block ?_ | refine sk_blk ?_ | refine sk_skip ?_ | refine sk_exit rfl ?_ | refine sk_cond_t rfl ?_ | refine sk_cond_f rfl ?_ | ((first | refine sk_reg fun K hK => ?_ | refine sk_drw mix fun K hK => ?_); simp [x1, x2, q1, q2']; (repeat ((first | refine AskX.go (s1 _) ?_ | refine AskD.go (s1 _) ?_ | refine AskX.go (s2 _) ?_ | refine AskD.go (s2 _) ?_); simp [x1, x2, q1, q2'])); refine hK _ ?_; clear hK K))
    refine sk_ret ?_; simp [hr]
  · have hr := subN_no q2
    rw [show (l.way.length : Int) + l.grs.length = szL l from rfl, hr] at s2
    repeat (first | refine sk_seq ?_ | refine sk_block ?_ | refine sk_blk ?_ | refine sk_skip ?_ | refine sk_exit rfl ?_ | refine sk_cond_t rfl ?_ | refine sk_cond_f rfl ?_ | ((first | refine sk_reg fun K hK => ?_ | refine sk_drw mix fun K hK => ?_); simp [x1, x2, q1]; (repeat ((first | refine AskX.go (s1 _) ?_ | refine AskD.go (s1 _) ?_ | refine AskX.go (s2 _) ?_ | refine AskD.go (s2 _) ?_); simp [x1, x2, q1])); refine hK _ ?_; clear hK K))
    refine sk_ret ?_; simp [hr]
def B95 : SC := .seq (.reg [⟨some 4, .assign (.const (.int .i64 0)), none, []⟩]) (.seq (.reg [⟨some 6, .move (.tmp 1), none, []⟩, ⟨some 7, .move (.tmp 0), none, []⟩, ⟨some 8, .call { callee := (.builtin .len), args := #[(.tmp 7)], argTypes := #[51] }, none, []⟩, ⟨some 9, .binOp .sub 3 (.tmp 6) (.tmp 8) 3, none, []⟩, ⟨some 1, .assign (.tmp 9), none, []⟩]) (.seq (.seq (.reg [⟨some 10, .move (.tmp 1), none, []⟩, ⟨some 11, .binOp .lss 3 (.tmp 10) (.const (.int .i64 0)) 3, none, []⟩]) (.cond (.tmp 11) (.seq (.reg [⟨some 4, .assign (.const (.int .i64 (-1))), none, []⟩]) .ret) .skip)) (.seq (.seq (.reg [⟨some 5, .assign (.const (.int .i64 0)), none, []⟩]) (.block 0 (.loop (.seq (.seq (.reg [⟨some 12, .move (.tmp 5), none, []⟩, ⟨some 13, .move (.tmp 0), none, []⟩, ⟨some 14, .call { callee := (.builtin .len), args := #[(.tmp 13)], argTypes := #[51] }, none, []⟩, ⟨some 15, .binOp .lss 3 (.tmp 12) (.tmp 14) 3, none, []⟩]) (.cond (.tmp 15) .skip (.exit 0))) (.seq (.block 1 (.seq (.reg [⟨some 18, .move (.tmp 0), none, []⟩, ⟨some 19, .move (.tmp 5), none, []⟩, ⟨some 20, .indexAddr 51 (.tmp 18) (.tmp 19), none, []⟩, ⟨some 21, .load 159 (.tmp 20), none, []⟩, ⟨some 22, .move (.tmp 1), none, []⟩, ⟨some 23, .call { callee := (.value (.func 131)), args := #[(.tmp 21), (.tmp 22)], argTypes := #[159, 3] }, none, []⟩, ⟨some 1, .assign (.tmp 23), none, []⟩]) (.seq (.reg [⟨some 24, .move (.tmp 1), none, []⟩, ⟨some 25, .binOp .lss 3 (.tmp 24) (.const (.int .i64 0)) 3, none, []⟩]) (.cond (.tmp 25) (.seq (.reg [⟨some 4, .assign (.const (.int .i64 (-1))), none, []⟩]) .ret) .skip)))) (.reg [⟨some 16, .move (.tmp 5), none, []⟩, ⟨some 17, .binOp .add 3 (.tmp 16) (.const (.int .i64 1)) 3, none, []⟩, ⟨some 5, .assign (.tmp 17), none, []⟩])))))) (.seq (.reg [⟨some 26, .move (.tmp 1), none, []⟩, ⟨some 4, .assign (.tmp 26), none, []⟩]) .ret))))
theorem s95 : Try.f95.body.bind (stripC 27) = some B95 := by kernel_rfl
theorem szLineS_ac {H : Heap} {E : List Nat} {v : Value} {ls : List Ln} (h : RS 4 RLn H E v ls) {a : Int} (ha : 0 ≤ a ∧ a ≤ 1048576) : AC Try.prog 95 [v, iv a] H (iv (subN a (szLs ls))) H [] := by
  obtain ⟨a1, c1, rfl⟩ := h.form
  have hn := h.1
  have hnn := cnL_nn szL_nn ls
  have hw0 := wrap_id (x := a - ls.length) (by omega) (by omega)
  refine AC.of_pureS (N := 27) Try.func95 s95 (by kernel_rfl) rfl rfl (by simp) rfl ?_; unfold B95
  by_cases q : (ls.length : Int) ≤ a
  case neg =>
    have hr : subN a (szLs ls) = -1 := subN_no (by unfold szLs; omega)
    have q' : a - (ls.length : Int) < 0 := by omega
    repeat (first | refine sk_seq ?_ | refine sk_block ?_ | refine sk_blk ?_ | refine sk_skip ?_ | refine sk_exit rfl ?_ | refine sk_cond_t rfl ?_ | refine sk_cond_f rfl ?_ | ((first | refine sk_reg fun K hK => ?_ | refine sk_drw mix fun K hK => ?_); simp [hw0, q']; refine hK _ ?_; clear hK K))
    refine sk_ret ?_; simp [hr]
  have q' : ¬ (a - (ls.length : Int) < 0) := by omega
  repeat (first | refine sk_seq ?_ | refine sk_block ?_ | refine sk_blk ?_ | refine sk_skip ?_ | refine sk_exit rfl ?_ | refine sk_cond_t rfl ?_ | refine sk_cond_f rfl ?_ | ((first | refine sk_reg fun K hK => ?_ | refine sk_drw mix fun K hK => ?_); simp [hw0, q']; refine hK _ ?_; clear hK K))
  refine sk_rng ls.length (fun i => [(0, .slice a1 ls.length c1), (1, iv (a - (ls.length + cnL szL (ls.take i)))), (5, iv i)]) (fun i H1 => Gro H H1 ∧ ls.length + cnL szL (ls.take i) ≤ a) (by simp [subL, getT, cnL]) ⟨(by first | exact Gro.refl _ | exact Gro.one _ _), by simpa [cnL] using q⟩ ?_ ?_
  · rintro i H1 hi ⟨hg, hle⟩
    have hl := hg.len
    have hw := wrap_id (x := (i : Int) + 1) (by omega) (by omega)
    have hsu := cnL_succ (c := szL) hi
    have hn1 := cnL_nn szL_nn (ls.take i)
    have hn2 := szL_nn ls[i]
    have hcl := cnL_le (c := szL) (xs := ls) szL_nn (i + 1)
    obtain ⟨id, o, v1, v2, E1, E2, hve, hid, d0, d1, d2, d3, hw1, hw2, x1, x2, _⟩ := (h.gro hg RLn.frm).line hi
    generalize hln : ls[i] = l at *
    have s1 := szLine_ac (H := H1) hw1 hw2 (a := a - (ls.length + cnL szL (ls.take i))) (by omega)
    rw [subN_sub hle hn2, Int.add_assoc, ← hsu] at s1
    by_cases q2 : ls.length + cnL szL (ls.take (i + 1)) ≤ a
    · have q3 : ¬ (a - (ls.length + cnL szL (ls.take (i + 1))) < 0) := by omega
      rw [subN_lt q2] at s1
      repeat (first | refine sk_seq ?_ | refine sk_block ?_ | refine sk_blk ?_ | refine sk_skip ?_ | refine sk_exit rfl ?_ | refine sk_cond_t rfl ?_ | refine sk_cond_f rfl ?_ | ((first | refine sk_reg fun K hK => ?_ | refine sk_drw mix fun K hK => ?_); simp [hi, hve, d0.s, d1.s, d2.s, d3.s, x1, x2, hl, hw, q3]; (repeat ((first | refine AskX.go (s1) ?_ | refine AskD.go (s1) ?_); simp [hi, hve, d0.s, d1.s, d2.s, d3.s, x1, x2, hl, hw, q3])); refine hK _ ?_; clear hK K))
      exact sk_inv ⟨by simp [subL, getT, hve], hg, q2⟩
    · have hr : subN a (szLs ls) = -1 := subN_no (by unfold szLs; omega)
      rw [subN_no q2] at s1
      repeat (first | refine sk_seq ?_ | refine sk_block ?_ | refine sk_blk ?_ | refine sk_skip ?_ | refine sk_exit rfl ?_ | refine sk_cond_t rfl ?_ | refine sk_cond_f rfl ?_ | ((first | refine sk_reg fun K hK => ?_ | refine sk_drw mix fun K hK => ?_); simp [hi, hve, d0.s, d1.s, d2.s, d3.s, x1, x2, hl]; (repeat ((first | refine AskX.go (s1) ?_ | refine AskD.go (s1) ?_); simp [hi, hve, d0.s, d1.s, d2.s, d3.s, x1, x2, hl])); refine hK _ ?_; clear hK K))
      refine sk_ret ?_; simp [hr]
      exact hg
  · rintro H1 ⟨hg, hle⟩
    rw [List.take_length] at hle ⊢
    have hr : subN a (szLs ls) = a - (ls.length + cnL szL ls) := subN_lt hle
    repeat (first | refine sk_seq ?_ | refine sk_block ?_ | refine sk_blk ?_ | refine sk_skip ?_ | refine sk_exit rfl ?_ | refine sk_cond_t rfl ?_ | refine sk_cond_f rfl ?_ | ((first | refine sk_reg fun K hK => ?_ | refine sk_drw mix fun K hK => ?_); simp; refine hK _ ?_; clear hK K))
    refine sk_ret ?_; simp [hr]
    exact hg
def B33 : SC := .seq (.reg [⟨some 2, .box 53 (.tmp 0), none, []⟩, ⟨some 4, .assign (.const (.int .i64 0)), none, []⟩]) (.seq (.reg [⟨some 5, .fieldAddr 53 (.tmp 2) 2, none, []⟩, ⟨some 6, .load 51 (.tmp 5), none, []⟩, ⟨some 7, .move (.tmp 1), none, []⟩, ⟨some 8, .call { callee := (.value (.func 95)), args := #[(.tmp 6), (.tmp 7)], argTypes := #[51, 3] }, none, []⟩, ⟨some 1, .assign (.tmp 8), none, []⟩]) (.seq (.seq (.reg [⟨some 9, .move (.tmp 1), none, []⟩, ⟨some 10, .binOp .lss 3 (.tmp 9) (.const (.int .i64 0)) 3, none, []⟩]) (.cond (.tmp 10) (.seq (.reg [⟨some 4, .assign (.const (.int .i64 (-1))), none, []⟩]) .ret) .skip)) (.seq (.reg [⟨some 11, .move (.tmp 1), none, []⟩, ⟨some 4, .assign (.tmp 11), none, []⟩]) .ret)))
theorem s33 : Try.f33.body.bind (stripC 12) = some B33 := by kernel_rfl
theorem szBook_ac {H : Heap} {E : List Nat} {b : Bk} {cs : List Value} (h : RBk H E b cs) {a : Int} (ha : 0 ≤ a ∧ a ≤ 1048576) : AC Try.prog 33 [.agg cs.toArray, iv a] H (iv (subN a (szLs b.lines))) H [] := by
  obtain ⟨v, rfl, hv⟩ := h
  have x := hv.one
  have s1 := fun L : Heap => szLineS_ac (H := H ++ L) (hv.ext RLn.frm) ha
  refine AC.of_pureS (N := 12) Try.func33 s33 (by kernel_rfl) rfl rfl (by simp) rfl ?_; unfold B33
  by_cases q : szLs b.lines ≤ a
  · have hr := subN_lt q
    have q' : ¬ (a - szLs b.lines < 0) := by omega
    rw [hr] at s1
    repeat (first | refine sk_seq ?_ | refine sk_block ?_ | refine sk_blk ?_ | refine sk_skip ?_ | refine sk_exit rfl ?_ | refine sk_cond_t rfl ?_ | refine sk_cond_f rfl ?_ | ((first | refine sk_reg fun K hK => ?_ | refine sk_drw mix fun K hK => ?_); simp [x, q']; (repeat ((first | refine AskX.go (s1 _) ?_ | refine AskD.go (s1 _) ?_); simp [x, q'])); refine hK _ ?_; clear hK K))
    refine sk_ret ?_; simp [hr]
  · have hr := subN_no q
    rw [hr] at s1
    repeat (first | refine sk_seq ?_ | refine sk_block ?_ | refine sk_blk ?_ | refine sk_skip ?_ | refine sk_exit rfl ?_ | refine sk_cond_t rfl ?_ | refine sk_cond_f rfl ?_ | ((first | refine sk_reg fun K hK => ?_ | refine sk_drw mix fun K hK => ?_); simp [x]; (repeat ((first | refine AskX.go (s1 _) ?_ | refine AskD.go (s1 _) ?_); simp [x])); refine hK _ ?_; clear hK K))
    refine sk_ret ?_; simp [hr]
def B53 : SC := .seq (.reg [⟨some 2, .box 83 (.tmp 0), none, []⟩, ⟨some 4, .assign (.const (.int .i64 0)), none, []⟩]) (.seq (.reg [⟨some 5, .fieldAddr 83 (.tmp 2) 1, none, []⟩, ⟨some 6, .load 53 (.tmp 5), none, []⟩, ⟨some 7, .move (.tmp 1), none, []⟩, ⟨some 8, .call { callee := (.value (.func 33)), args := #[(.tmp 6), (.tmp 7)], argTypes := #[53, 3] }, none, []⟩, ⟨some 1, .assign (.tmp 8), none, []⟩]) (.seq (.seq (.reg [⟨some 9, .move (.tmp 1), none, []⟩, ⟨some 10, .binOp .lss 3 (.tmp 9) (.const (.int .i64 0)) 3, none, []⟩]) (.cond (.tmp 10) (.seq (.reg [⟨some 4, .assign (.const (.int .i64 (-1))), none, []⟩]) .ret) .skip)) (.seq (.reg [⟨some 11, .fieldAddr 83 (.tmp 2) 2, none, []⟩, ⟨some 12, .load 81 (.tmp 11), none, []⟩, ⟨some 13, .move (.tmp 1), none, []⟩, ⟨some 14, .call { callee := (.value (.func 109)), args := #[(.tmp 12), (.tmp 13)], argTypes := #[81, 3] }, none, []⟩, ⟨some 1, .assign (.tmp 14), none, []⟩]) (.seq (.seq (.reg [⟨some 15, .move (.tmp 1), none, []⟩, ⟨some 16, .binOp .lss 3 (.tmp 15) (.const (.int .i64 0)) 3, none, []⟩]) (.cond (.tmp 16) (.seq (.reg [⟨some 4, .assign (.const (.int .i64 (-1))), none, []⟩]) .ret) .skip)) (.seq (.reg [⟨some 17, .move (.tmp 1), none, []⟩, ⟨some 4, .assign (.tmp 17), none, []⟩]) .ret)))))
theorem s53 : Try.f53.body.bind (stripC 18) = some B53 := by kernel_rfl
theorem szWorld_ac {H : Heap} {E : List Nat} {w : Wd} {cs : List Value} (h : RWd H E w cs) {a : Int} (ha : 0 ≤ a ∧ a ≤ 1048576) : AC Try.prog 53 [.agg cs.toArray, iv a] H (iv (subN a (szW w))) H [] := by
  obtain ⟨E1, E2, c, v, rfl, rfl, hb, hv⟩ := h
  have s1 := fun L : Heap => szBook_ac (H := H ++ L) (RBk.frm.ext hb) ha
  obtain ⟨u, rfl, hu⟩ := hb
  have x := hv.one
  have y := hu.one
  have n1 : 0 ≤ szLs w.book.lines := by have := cnL_nn szL_nn w.book.lines; unfold szLs; omega
  refine AC.of_pureS (N := 18) Try.func53 s53 (by kernel_rfl) rfl rfl (by simp) rfl ?_; unfold B53
  by_cases q : szLs w.book.lines ≤ a
  case neg =>
    have hr : subN a (szW w) = -1 := subN_no (by unfold szW; omega)
    rw [subN_no q] at s1
    repeat (first | refine sk_seq ?_ | refine sk_block ?_ | refine sk_blk ?_ | refine sk_skip ?_ | refine sk_exit rfl ?_ | refine sk_cond_t rfl ?_ | refine sk_cond_f rfl ?_ | ((first | refine sk_reg fun K hK => ?_ | refine sk_drw mix fun K hK => ?_); simp [x, y]; (repeat ((first | refine AskX.go (s1 _) ?_ | refine AskD.go (s1 _) ?_); simp [x, y])); refine hK _ ?_; clear hK K))
    refine sk_ret ?_; simp [hr]
  have q' : ¬ (a - szLs w.book.lines < 0) := by omega
  rw [subN_lt q] at s1
  have s2 := fun L : Heap => szBodyS_ac (H := H ++ L) (hv.ext (RP.frm _)) (a := a - szLs w.book.lines) (by omega)
  rw [subN_sub q (by omega), show szLs w.book.lines + w.bodies.length = szW w from rfl] at s2
  by_cases q2 : szW w ≤ a
  · have hr := subN_lt q2
    have q2' : ¬ (a - szW w < 0) := by omega
    rw [hr] at s2
    repeat (first | refine sk_seq ?_ | refine sk_block ?_ | refine sk_blk ?_ | refine sk_skip ?_ | refine sk_exit rfl ?_ | refine sk_cond_t rfl ?_ | refine sk_cond_f rfl ?_ | ((first | refine sk_reg fun K hK => ?_ | refine sk_drw mix fun K hK => ?_); simp [x, y, q', q2']; (repeat ((first | refine AskX.go (s1 _) ?_ | refine AskD.go (s1 _) ?_ | refine AskX.go (s2 _) ?_ | refine AskD.go (s2 _) ?_); simp [x, y, q', q2'])); refine hK _ ?_; clear hK K))
    refine sk_ret ?_; simp [hr]
  · have hr := subN_no q2
    rw [hr] at s2
    repeat (first | refine sk_seq ?_ | refine sk_block ?_ | refine sk_blk ?_ | refine sk_skip ?_ | refine sk_exit rfl ?_ | refine sk_cond_t rfl ?_ | refine sk_cond_f rfl ?_ | ((first | refine sk_reg fun K hK => ?_ | refine sk_drw mix fun K hK => ?_); simp [x, y, q']; (repeat ((first | refine AskX.go (s1 _) ?_ | refine AskD.go (s1 _) ?_ | refine AskX.go (s2 _) ?_ | refine AskD.go (s2 _) ?_); simp [x, y, q'])); refine hK _ ?_; clear hK K))
    refine sk_ret ?_; simp [hr]
end Go.Proofs.Ytpoedfmkiiijnaa
namespace Go.Proofs.Ytpoedfmkiiijnaa
open Go Go.RowKit Go.Proofs.YtpoedfmkiiijnaaAm
set_option linter.unusedVariables false
set_option linter.unusedSimpArgs false
set_option maxRecDepth 10000
set_option maxHeartbeats 4000000
def B132 : SC := .seq (.reg [⟨some 1, .box 159 (.tmp 0), none, []⟩, ⟨some 2, .alloc 43, none, []⟩]) (.seq (.reg [⟨some 3, .alloc 43, none, []⟩]) (.seq (.reg [⟨some 4, .fieldAddr 159 (.tmp 1) 0, none, []⟩, ⟨some 5, .load 3 (.tmp 4), none, []⟩, ⟨some 6, .fieldAddr 43 (.tmp 3) 0, none, []⟩, ⟨none, .store 3 (.tmp 6) (.tmp 5), none, []⟩]) (.seq (.reg [⟨some 7, .fieldAddr 159 (.tmp 1) 1, none, []⟩, ⟨some 8, .load 40 (.tmp 7), none, []⟩, ⟨some 9, .call { callee := (.value (.func 47)), args := #[(.tmp 8)], argTypes := #[40] }, none, []⟩, ⟨some 10, .fieldAddr 43 (.tmp 3) 1, none, []⟩, ⟨none, .store 40 (.tmp 10) (.tmp 9), none, []⟩]) (.seq (.reg [⟨some 11, .fieldAddr 159 (.tmp 1) 2, none, []⟩, ⟨some 12, .load 157 (.tmp 11), none, []⟩, ⟨some 13, .call { callee := (.value (.func 143)), args := #[(.tmp 12)], argTypes := #[157] }, none, []⟩, ⟨some 14, .fieldAddr 43 (.tmp 3) 2, none, []⟩, ⟨none, .store 41 (.tmp 14) (.tmp 13), none, []⟩]) (.seq (.reg [⟨some 15, .fieldAddr 159 (.tmp 1) 3, none, []⟩, ⟨some 16, .load 3 (.tmp 15), none, []⟩, ⟨some 17, .fieldAddr 43 (.tmp 3) 3, none, []⟩, ⟨none, .store 3 (.tmp 17) (.tmp 16), none, []⟩]) (.seq (.reg [⟨some 18, .load 43 (.tmp 3), none, []⟩, ⟨none, .store 43 (.tmp 2) (.tmp 18), none, []⟩]) .ret))))))
theorem s132 : Try.f132.body.bind (stripC 19) = some B132 := by kernel_rfl
theorem toLine_mk {H : Heap} {E1 E2 : List Nat} {v1 v2 : Value} {l : Ln} (h1 : RS 1 RInt H E1 v1 l.way) (h2 : RS 2 RGr H E2 v2 l.grs) (hb : szL l ≤ 1048576) :
    Mkr Try.prog 132 [.agg #[iv l.gone, v1, v2, iv l.drop]] H fun H' E v => ∃ cs, v = .agg cs.toArray ∧ RLn H' E l cs := by
  have x1 := h1.one
  have x2 := h2.one
  unfold szL at hb
  refine Mkr.of_bodyS (N := 19) Try.func132 s132 (by kernel_rfl) rfl rfl (by simp) ?_; unfold B132
  repeat (first | refine sk_seq ?_ | refine sk_block ?_ | refine sk_blk ?_ | refine sk_skip ?_ | refine sk_exit rfl ?_ | refine sk_cond_t rfl ?_ | refine sk_cond_f rfl ?_ | ((first | refine sk_reg fun K hK => ?_ | refine sk_drw mix fun K hK => ?_); simp [x1, x2]; refine hK _ ?_; clear hK K))
  refine sk_reg fun K hK => ?_; simp [x1, x2]
  refine AskX.mkr (toIntS_mk (h1.ext (RP.frm _)) (by omega)) ?_; rintro w1 J1 A1 r1 o1 n1; simp [x1, x2, r1.one, r1.cv]
  refine hK _ ?_; clear hK K
  repeat (first | refine sk_seq ?_ | refine sk_block ?_ | refine sk_blk ?_ | refine sk_skip ?_ | refine sk_exit rfl ?_ | refine sk_cond_t rfl ?_ | refine sk_cond_f rfl ?_ | ((first | refine sk_reg fun K hK => ?_ | refine sk_drw mix fun K hK => ?_); simp [x1, x2]; refine hK _ ?_; clear hK K))
  refine sk_reg fun K hK => ?_; simp [x1, x2]
  refine AskX.mkr (toGrantS_mk (h2.ext (RP.frm _)) (by omega)) ?_; rintro w2 J2 A2 r2 o2 n2; simp [x1, x2, r1.one, r2.one, r1.cv, r2.cv]
  refine hK _ ?_; clear hK K
  repeat (first | refine sk_seq ?_ | refine sk_block ?_ | refine sk_blk ?_ | refine sk_skip ?_ | refine sk_exit rfl ?_ | refine sk_cond_t rfl ?_ | refine sk_cond_f rfl ?_ | ((first | refine sk_reg fun K hK => ?_ | refine sk_drw mix fun K hK => ?_); simp [x1, x2, r1.one, r2.one, r1.cv, r2.cv]; refine hK _ ?_; clear hK K))
  refine sk_ret ?_; simp
  simp only [List.append_assoc, List.cons_append, List.nil_append, List.length_append, List.length_cons, List.length_nil] at r1 o1 n1 r2 o2 n2
  refine ⟨fun i hi => List.getElem?_append_left hi, A1 ++ A2, ?_⟩
  have q1 := o1.lt
  have q2 := o2.lt
  simp only [List.length_append, List.length_cons] at q1 q2
  generalize hF : H ++ _ = F
  have k1 : ∀ e, e ∈ A1 → H.length + 3 ≤ e := fun e he => by have := n1 e he; omega
  have k2 : ∀ e, e ∈ A2 → H.length + 3 ≤ e := fun e he => by have := n2 e he; omega
  have g1 : ∀ e, e ∈ A1 → F[e]? = J1[e - (H.length + 3)]? := fun e he => by
    have := k1 e he
    have := q1 e he
    rw [← hF, get_t3 _ _ _ _ _ (by omega), List.getElem?_append_left (by omega)]
  have g2 : ∀ e, e ∈ A2 → F[e]? = (J1 ++ J2)[e - (H.length + 3)]? := fun e he => by rw [← hF, get_t3 _ _ _ _ _ (k2 e he)]
  refine ⟨⟨A1, A2, w1, w2, rfl, rfl, r1.fr (RP.frm _) fun e he _ => (g1 e he).trans (get_t3 _ _ _ _ _ (k1 e he)).symm, r2.fr (RP.frm _) fun e he _ => (g2 e he).trans (get_t3 _ _ _ _ _ (k2 e he)).symm⟩,
    (o1.fr fun e he => (g1 e he).trans (get_t3 _ _ _ _ _ (k1 e he)).symm).app (o2.fr fun e he => (g2 e he).trans (get_t3 _ _ _ _ _ (k2 e he)).symm) fun e h1 h2 => ?_, fun e he => ?_⟩
  · have := q1 e h1
    have := n2 e h2
    omega
  · rcases List.mem_append.1 he with h | h
    · have := n1 e h; omega
    · have := n2 e h; omega
def B97 : SC := .seq (.reg [⟨some 2, .assign (.const (.slice none 0 0)), none, []⟩]) (.seq (.reg [⟨some 5, .move (.tmp 0), none, []⟩, ⟨some 6, .call { callee := (.builtin .len), args := #[(.tmp 5)], argTypes := #[51] }, none, []⟩, ⟨some 7, .makeSlice 23 (.tmp 6) (.tmp 6), none, []⟩, ⟨some 3, .assign (.tmp 7), none, []⟩]) (.seq (.seq (.reg [⟨some 4, .assign (.const (.int .i64 0)), none, []⟩]) (.block 0 (.loop (.seq (.seq (.reg [⟨some 8, .move (.tmp 4), none, []⟩, ⟨some 9, .move (.tmp 0), none, []⟩, ⟨some 10, .call { callee := (.builtin .len), args := #[(.tmp 9)], argTypes := #[51] }, none, []⟩, ⟨some 11, .binOp .lss 3 (.tmp 8) (.tmp 10) 3, none, []⟩]) (.cond (.tmp 11) .skip (.exit 0))) (.seq (.block 1 (.reg [⟨some 14, .move (.tmp 3), none, []⟩, ⟨some 15, .move (.tmp 4), none, []⟩, ⟨some 16, .move (.tmp 0), none, []⟩, ⟨some 17, .move (.tmp 4), none, []⟩, ⟨some 18, .indexAddr 51 (.tmp 16) (.tmp 17), none, []⟩, ⟨some 19, .load 159 (.tmp 18), none, []⟩, ⟨some 20, .call { callee := (.value (.func 132)), args := #[(.tmp 19)], argTypes := #[159] }, none, []⟩, ⟨some 21, .indexAddr 23 (.tmp 14) (.tmp 15), none, []⟩, ⟨none, .store 43 (.tmp 21) (.tmp 20), none, []⟩])) (.reg [⟨some 12, .move (.tmp 4), none, []⟩, ⟨some 13, .binOp .add 3 (.tmp 12) (.const (.int .i64 1)) 3, none, []⟩, ⟨some 4, .assign (.tmp 13), none, []⟩])))))) (.seq (.reg [⟨some 22, .move (.tmp 3), none, []⟩, ⟨some 2, .assign (.tmp 22), none, []⟩]) .ret)))
theorem s97 : Try.f97.body.bind (stripC 23) = some B97 := by kernel_rfl
theorem toLineS_mk {H : Heap} {E : List Nat} {v : Value} {ls : List Ln} (h : RS 4 RLn H E v ls) (hb : szLs ls ≤ 1048576) : Mkr Try.prog 97 [v] H fun H' E' v' => RS 4 RLn H' E' v' ls := by
  obtain ⟨a1, c1, rfl⟩ := h.form
  have hnn := cnL_nn szL_nn ls
  unfold szLs at hb
  have hb1 : (64 : Int) * (ls.length : Int) ≤ 281474976710656 := by omega
  have hb2 : (ls.length : Int) ≤ 9223372036854775807 := by omega
  refine Mkr.of_bodyS (N := 23) Try.func97 s97 (by kernel_rfl) rfl rfl (by simp) ?_; unfold B97
  repeat (first | refine sk_seq ?_ | refine sk_block ?_ | refine sk_blk ?_ | refine sk_skip ?_ | refine sk_exit rfl ?_ | refine sk_cond_t rfl ?_ | refine sk_cond_f rfl ?_ | ((first | refine sk_reg fun K hK => ?_ | refine sk_drw mix fun K hK => ?_); simp [hb1, hb2]; refine hK _ ?_; clear hK K))
  refine sk_rng ls.length (fun i => [(0, .slice a1 ls.length c1), (3, sl H.length 0 ls.length), (4, iv i)])
    (fun i H1 => Gro H H1 ∧ ∃ E done rest, H1[H.length]? = some ⟨43, done ++ rest, true, true⟩ ∧ rest.length = (ls.length - i) * 4 ∧ RCs 4 RLn H1 E (ls.take i) done ∧ Own H1 E ∧ ∀ e, e ∈ E → H.length < e) (by simp [subL, getT]) ⟨(by first | exact Gro.refl _ | exact Gro.one _ _), [], [], _, by simp; rfl, by simp, ⟨rfl, rfl⟩, ⟨List.nodup_nil, fun i hi => by simp at hi⟩, fun e he => by simp at he⟩ ?_ ?_
  · rintro i H1 hi ⟨hg, E1, done, rest, hb, hrl, hrc, ho, hE⟩
    have hl := hg.len
    have hw := wrap_id (x := (i : Int) + 1) (by omega) (by omega)
    have hdl := hrc.len
    rw [List.length_take, Nat.min_eq_left (by omega)] at hdl
    have hsl := cnL_le (c := szL) (xs := ls) szL_nn (i + 1)
    rw [cnL_succ hi] at hsl
    have hs0 := cnL_nn szL_nn (ls.take i)
    have htk := take_snoc hi
    obtain ⟨r0, r1, r2, r3, rest, rfl⟩ : ∃ r0 r1 r2 r3 rest', rest = r0 :: r1 :: r2 :: r3 :: rest' := by
      match rest, hrl with
      | [], hrl => simp at hrl; omega
      | [_], hrl => simp at hrl; omega
      | [_, _], hrl => simp at hrl; omega
      | [_, _, _], hrl => simp at hrl; omega
      | r0 :: r1 :: r2 :: r3 :: rest, _ => exact ⟨r0, r1, r2, r3, rest, rfl⟩
    obtain ⟨id, o, v1, v2, F1, F2, hve, hid, d0, d1, d2, d3, hw1, hw2, x1, x2, _⟩ := (h.gro hg RLn.frm).line hi
    generalize hln : ls[i] = l at *
    have g0 : CF H1 H.length (i * 4) r0 := CF.of hb rfl (by have := get_mid (j := 0) (z := rest) (m := [r0, r1, r2, r3]) hdl rfl; simpa using this)
    have g1 : CF H1 H.length (i * 4 + 1) r1 := CF.of hb rfl (by have := get_mid (j := 1) (z := rest) (m := [r0, r1, r2, r3]) hdl rfl; simpa using this)
    have g2 : CF H1 H.length (i * 4 + 2) r2 := CF.of hb rfl (by have := get_mid (j := 2) (z := rest) (m := [r0, r1, r2, r3]) hdl rfl; simpa using this)
    have g3 : CF H1 H.length (i * 4 + 3) r3 := CF.of hb rfl (by have := get_mid (j := 3) (z := rest) (m := [r0, r1, r2, r3]) hdl rfl; simpa using this)
    have hrw := RF.of hb
    repeat (first | refine sk_seq ?_ | refine sk_block ?_ | refine sk_blk ?_ | refine sk_skip ?_ | refine sk_exit rfl ?_ | refine sk_cond_t rfl ?_ | refine sk_cond_f rfl ?_ | ((first | refine sk_reg fun K hK => ?_ | refine sk_drw mix fun K hK => ?_); simp [hi, hve]; refine hK _ ?_; clear hK K))
    refine sk_reg fun K hK => ?_; simp [hi, hve, d0.s, d1.s, d2.s, d3.s, x1, x2]
    refine AskX.mkr (toLine_mk hw1 hw2 (by omega)) ?_; rintro w J A ⟨cs, rfl, A1, A2, u1, u2, rfl, rfl, ru1, ru2⟩ oA nA; simp [hi, g0.s, g1.s, g2.s, g3.s, hrw.s, ru1.one, ru2.one, hl]
    refine hK _ ?_; clear hK K
    repeat (first | refine sk_seq ?_ | refine sk_block ?_ | refine sk_blk ?_ | refine sk_skip ?_ | refine sk_exit rfl ?_ | refine sk_cond_t rfl ?_ | refine sk_cond_f rfl ?_ | ((first | refine sk_reg fun K hK => ?_ | refine sk_drw mix fun K hK => ?_); simp [hw]; refine hK _ ?_; clear hK K))
    have hnew := puts_at H.length [iv l.gone, u1, u2, iv l.drop] (H1 ++ J) (i * 4) _ done [r0, r1, r2, r3] rest (get_app J hb) (by simp) hdl rfl
    have hlt := lt_of_get hb
    have hE1 := ho.lt
    have agr : ∀ e, e ≠ H.length → (Heap.puts (H1 ++ J) H.length (i * 4) [iv l.gone, u1, u2, iv l.drop])[e]? = (H1 ++ J)[e]? := fun e he => puts_ne _ _ _ _ he
    have agr1 : ∀ e, e ∈ E1 → (Heap.puts (H1 ++ J) H.length (i * 4) [iv l.gone, u1, u2, iv l.drop])[e]? = H1[e]? := fun e he => by
      rw [agr e (by have := hE e he; omega), List.getElem?_append_left (hE1 e he)]
    have agr2 : ∀ e, e ∈ A1 ++ A2 → (Heap.puts (H1 ++ J) H.length (i * 4) [iv l.gone, u1, u2, iv l.drop])[e]? = (H1 ++ J)[e]? := fun e he => agr e (by have := nA e he; omega)
    refine sk_inv ⟨by simp [subL, getT, hve], (((hg.app J).put (by omega) _ _).put (by omega) _ _ |>.put (by omega) _ _).put (by omega) _ _, E1 ++ (A1 ++ A2), done ++ [iv l.gone, u1, u2, iv l.drop], rest, ?_, by simp at hrl; omega, ?_, ?_, ?_⟩
    · rw [List.append_assoc]; exact hnew
    · rw [htk]
      have hR : RLn (Heap.puts (H1 ++ J) H.length (i * 4) [iv l.gone, u1, u2, iv l.drop]) (A1 ++ A2) l [iv l.gone, u1, u2, iv l.drop] := RLn.frm.fr ⟨A1, A2, u1, u2, rfl, rfl, ru1, ru2⟩ fun e he _ => agr2 e he
      exact (hrc.fr RLn.frm fun e he _ => agr1 e he).app ⟨A1 ++ A2, [], _, [], by simp, by simp, rfl, hR, rfl, rfl⟩
    · exact (ho.fr agr1).app (oA.fr agr2) fun e h1 h2 => by have := hE1 e h1; have := nA e h2; omega
    · intro e he
      rcases List.mem_append.1 he with he | he
      · exact hE e he
      · have := nA e he; omega
  · rintro H1 ⟨hg, E1, done, rest, hb, hrl, hrc, ho, hE⟩
    obtain rfl : rest = [] := by simpa using hrl
    rw [List.take_length] at hrc
    rw [List.append_nil] at hb
    repeat (first | refine sk_seq ?_ | refine sk_block ?_ | refine sk_blk ?_ | refine sk_skip ?_ | refine sk_exit rfl ?_ | refine sk_cond_t rfl ?_ | refine sk_cond_f rfl ?_ | ((first | refine sk_reg fun K hK => ?_ | refine sk_drw mix fun K hK => ?_); simp; refine hK _ ?_; clear hK K))
    refine sk_ret ?_; simp
    refine ⟨hg.len, fun i hi => hg.same hi, H.length :: E1, ⟨by omega, .inr ⟨H.length, 0, E1, 43, true, [], done, [], rfl, rfl, by simpa using hb, rfl, hrc⟩⟩, ⟨List.nodup_cons.2 ⟨fun hm => by have := hE _ hm; omega, ho.1⟩, fun id hid => ?_⟩, fun e he => ?_⟩
    · rcases List.mem_cons.1 hid with rfl | hid
      · exact rw_get hb
      · exact ho.2 id hid
    · rcases List.mem_cons.1 he with rfl | he
      · omega
      · have := hE e he; omega
def B35 : SC := .seq (.reg [⟨some 1, .box 53 (.tmp 0), none, []⟩, ⟨some 2, .alloc 25, none, []⟩]) (.seq (.reg [⟨some 3, .alloc 25, none, []⟩]) (.seq (.reg [⟨some 4, .fieldAddr 53 (.tmp 1) 0, none, []⟩, ⟨some 5, .load 4 (.tmp 4), none, []⟩, ⟨some 6, .fieldAddr 25 (.tmp 3) 0, none, []⟩, ⟨none, .store 4 (.tmp 6) (.tmp 5), none, []⟩]) (.seq (.reg [⟨some 7, .fieldAddr 53 (.tmp 1) 1, none, []⟩, ⟨some 8, .load 3 (.tmp 7), none, []⟩, ⟨some 9, .fieldAddr 25 (.tmp 3) 1, none, []⟩, ⟨none, .store 3 (.tmp 9) (.tmp 8), none, []⟩]) (.seq (.reg [⟨some 10, .fieldAddr 53 (.tmp 1) 2, none, []⟩, ⟨some 11, .load 51 (.tmp 10), none, []⟩, ⟨some 12, .call { callee := (.value (.func 97)), args := #[(.tmp 11)], argTypes := #[51] }, none, []⟩, ⟨some 13, .fieldAddr 25 (.tmp 3) 2, none, []⟩, ⟨none, .store 23 (.tmp 13) (.tmp 12), none, []⟩]) (.seq (.reg [⟨some 14, .load 25 (.tmp 3), none, []⟩, ⟨none, .store 25 (.tmp 2) (.tmp 14), none, []⟩]) .ret)))))
theorem s35 : Try.f35.body.bind (stripC 15) = some B35 := by kernel_rfl
theorem toBook_mk {H : Heap} {E : List Nat} {b : Bk} {cs : List Value} (h : RBk H E b cs) (hb : szLs b.lines ≤ 1048576) : Mkr Try.prog 35 [.agg cs.toArray] H fun H' E' v' => ∃ cs', v' = .agg cs'.toArray ∧ RBk H' E' b cs' := by
  obtain ⟨v, rfl, hv⟩ := h
  have x := hv.one
  refine Mkr.of_bodyS (N := 15) Try.func35 s35 (by kernel_rfl) rfl rfl (by simp) ?_; unfold B35
  repeat (first | refine sk_seq ?_ | refine sk_block ?_ | refine sk_blk ?_ | refine sk_skip ?_ | refine sk_exit rfl ?_ | refine sk_cond_t rfl ?_ | refine sk_cond_f rfl ?_ | ((first | refine sk_reg fun K hK => ?_ | refine sk_drw mix fun K hK => ?_); simp [x]; refine hK _ ?_; clear hK K))
  refine sk_reg fun K hK => ?_; simp [x]
  refine AskX.mkr (toLineS_mk (hv.ext RLn.frm) hb) ?_; rintro w J A r o n; simp [x, r.one, r.cv]
  refine hK _ ?_; clear hK K
  repeat (first | refine sk_seq ?_ | refine sk_block ?_ | refine sk_blk ?_ | refine sk_skip ?_ | refine sk_exit rfl ?_ | refine sk_cond_t rfl ?_ | refine sk_cond_f rfl ?_ | ((first | refine sk_reg fun K hK => ?_ | refine sk_drw mix fun K hK => ?_); simp [x, r.one, r.cv]; refine hK _ ?_; clear hK K))
  refine sk_ret ?_; simp
  simp only [List.append_assoc, List.cons_append, List.nil_append, List.length_append, List.length_cons, List.length_nil] at r o n
  generalize hF : H ++ _ = F
  have k1 : ∀ e, e ∈ A → H.length + 3 ≤ e := fun e he => by have := n e he; omega
  have g1 : ∀ e, e ∈ A → F[e]? = J[e - (H.length + 3)]? := fun e he => by rw [← hF, get_t3 _ _ _ _ _ (k1 e he)]
  refine ⟨fun i hi => by rw [← hF]; exact List.getElem?_append_left hi, A, ⟨w, rfl, r.fr RLn.frm fun e he _ => (g1 e he).trans (get_t3 _ _ _ _ _ (k1 e he)).symm⟩, o.fr fun e he => (g1 e he).trans (get_t3 _ _ _ _ _ (k1 e he)).symm, fun e he => by have := k1 e he; omega⟩
end Go.Proofs.Ytpoedfmkiiijnaa
namespace Go.Proofs.Ytpoedfmkiiijnaa
open Go Go.RowKit Go.Proofs.YtpoedfmkiiijnaaAm
set_option linter.unusedVariables false
set_option linter.unusedSimpArgs false
set_option maxRecDepth 10000
set_option maxHeartbeats 4000000

def B127 : SC := .seq (.reg [⟨some 2, .assign (.const (.slice none 0 0)), none, []⟩]) (.seq (.seq (.reg [⟨some 3, .move (.tmp 0), none, []⟩, ⟨some 4, .binOp .eql 40 (.tmp 3) (.const (.slice none 0 0)) 40, none, []⟩]) (.cond (.tmp 4) (.seq (.reg [⟨some 2, .assign (.const (.slice none 0 0)), none, []⟩]) .ret) .skip)) (.seq (.reg [⟨some 5, .buildSlice 40 0 #[], none, []⟩, ⟨some 6, .move (.tmp 0), none, []⟩, ⟨some 7, .call { callee := (.builtin .append), args := #[(.tmp 5), (.tmp 6)], argTypes := #[40, 40] }, none, []⟩, ⟨some 2, .assign (.tmp 7), none, []⟩]) .ret))
theorem s127 : Try.f127.body.bind (stripC 8) = some B127 := by kernel_rfl
theorem cloneI_mk {H : Heap} {E : List Nat} {v : Value} {xs : List Int} (h : RS 1 RInt H E v xs) (hb : xs.length ≤ 1048576) : Mkr Try.prog 127 [v] H fun H' E' v' => RW 3 1 RInt H' E' v' xs := by
  refine Mkr.of_bodyS (N := 8) Try.func127 s127 (by kernel_rfl) rfl rfl (by simp) ?_; unfold B127
  by_cases hn : v = nl
  · subst hn
    obtain rfl := h.nilx
    repeat (first | refine sk_seq ?_ | refine sk_block ?_ | refine sk_blk ?_ | refine sk_skip ?_ | refine sk_exit rfl ?_ | refine sk_cond_t rfl ?_ | refine sk_cond_f rfl ?_ | ((first | refine sk_reg fun K hK => ?_ | refine sk_drw mix fun K hK => ?_); simp; refine hK _ ?_; clear hK K))
    refine sk_ret ?_; simp
    exact ⟨[], .inl ⟨rfl, rfl, rfl⟩, ⟨List.nodup_nil, fun i hi => by simp at hi⟩, fun i hi => by simp at hi⟩
  · obtain ⟨k, v', H2, E', e1, e2, e3, e4, e5, e6⟩ := clone_app (P := Try.prog) (t := 40) (e := 3) (sz := 0) (by' := 8) (z := iv 0) (by simp) (by simp) (by simp) (by simp) rfl (g := cInt) (fun _ => rfl) h (by omega) (by simp [maxLen]; omega)
    obtain ⟨a, c, rfl⟩ := h.some hn
    repeat (first | refine sk_seq ?_ | refine sk_block ?_ | refine sk_blk ?_ | refine sk_skip ?_ | refine sk_exit rfl ?_ | refine sk_cond_t rfl ?_ | refine sk_cond_f rfl ?_ | ((first | refine sk_reg fun K hK => ?_ | refine sk_drw mix fun K hK => ?_); simp [e1, e2]; refine hK _ ?_; clear hK K))
    refine sk_ret ?_; simp
    exact ⟨e3.len, fun i hi => e3.same hi, E', e4, e5, e6⟩

def B128 : SC := .seq (.reg [⟨some 2, .assign (.const (.slice none 0 0)), none, []⟩]) (.seq (.seq (.reg [⟨some 3, .move (.tmp 0), none, []⟩, ⟨some 4, .binOp .eql 41 (.tmp 3) (.const (.slice none 0 0)) 41, none, []⟩]) (.cond (.tmp 4) (.seq (.reg [⟨some 2, .assign (.const (.slice none 0 0)), none, []⟩]) .ret) .skip)) (.seq (.reg [⟨some 5, .buildSlice 41 0 #[], none, []⟩, ⟨some 6, .move (.tmp 0), none, []⟩, ⟨some 7, .call { callee := (.builtin .append), args := #[(.tmp 5), (.tmp 6)], argTypes := #[41, 41] }, none, []⟩, ⟨some 2, .assign (.tmp 7), none, []⟩]) .ret))
theorem s128 : Try.f128.body.bind (stripC 8) = some B128 := by kernel_rfl
theorem cloneG_mk {H : Heap} {E : List Nat} {v : Value} {xs : List Gr} (h : RS 2 RGr H E v xs) (hb : xs.length ≤ 1048576) : Mkr Try.prog 128 [v] H fun H' E' v' => RW 45 2 RGr H' E' v' xs := by
  refine Mkr.of_bodyS (N := 8) Try.func128 s128 (by kernel_rfl) rfl rfl (by simp) ?_; unfold B128
  by_cases hn : v = nl
  · subst hn
    obtain rfl := h.nilx
    repeat (first | refine sk_seq ?_ | refine sk_block ?_ | refine sk_blk ?_ | refine sk_skip ?_ | refine sk_exit rfl ?_ | refine sk_cond_t rfl ?_ | refine sk_cond_f rfl ?_ | ((first | refine sk_reg fun K hK => ?_ | refine sk_drw mix fun K hK => ?_); simp; refine hK _ ?_; clear hK K))
    refine sk_ret ?_; simp
    exact ⟨[], .inl ⟨rfl, rfl, rfl⟩, ⟨List.nodup_nil, fun i hi => by simp at hi⟩, fun i hi => by simp at hi⟩
  · obtain ⟨k, v', H2, E', e1, e2, e3, e4, e5, e6⟩ := clone_app (P := Try.prog) (t := 41) (e := 45) (sz := 1) (by' := 16) (z := .agg #[iv 0, iv 0]) (by simp) (by simp) (by simp) (by simp) rfl (g := cGr) (fun _ => rfl) h (by omega) (by simp [maxLen]; omega)
    obtain ⟨a, c, rfl⟩ := h.some hn
    repeat (first | refine sk_seq ?_ | refine sk_block ?_ | refine sk_blk ?_ | refine sk_skip ?_ | refine sk_exit rfl ?_ | refine sk_cond_t rfl ?_ | refine sk_cond_f rfl ?_ | ((first | refine sk_reg fun K hK => ?_ | refine sk_drw mix fun K hK => ?_); simp [e1, e2]; refine hK _ ?_; clear hK K))
    refine sk_ret ?_; simp
    exact ⟨e3.len, fun i hi => e3.same hi, E', e4, e5, e6⟩

def B135 : SC := .seq (.reg [⟨some 2, .assign (.const (.slice none 0 0)), none, []⟩]) (.seq (.seq (.reg [⟨some 3, .move (.tmp 0), none, []⟩, ⟨some 4, .binOp .eql 62 (.tmp 3) (.const (.slice none 0 0)) 62, none, []⟩]) (.cond (.tmp 4) (.seq (.reg [⟨some 2, .assign (.const (.slice none 0 0)), none, []⟩]) .ret) .skip)) (.seq (.reg [⟨some 5, .buildSlice 62 0 #[], none, []⟩, ⟨some 6, .move (.tmp 0), none, []⟩, ⟨some 7, .call { callee := (.builtin .append), args := #[(.tmp 5), (.tmp 6)], argTypes := #[62, 62] }, none, []⟩, ⟨some 2, .assign (.tmp 7), none, []⟩]) .ret))
theorem s135 : Try.f135.body.bind (stripC 8) = some B135 := by kernel_rfl
theorem cloneB_mk {H : Heap} {E : List Nat} {v : Value} {xs : List Bd} (h : RS 4 RBd H E v xs) (hb : xs.length ≤ 1048576) : Mkr Try.prog 135 [v] H fun H' E' v' => RW 72 4 RBd H' E' v' xs := by
  refine Mkr.of_bodyS (N := 8) Try.func135 s135 (by kernel_rfl) rfl rfl (by simp) ?_; unfold B135
  by_cases hn : v = nl
  · subst hn
    obtain rfl := h.nilx
    repeat (first | refine sk_seq ?_ | refine sk_block ?_ | refine sk_blk ?_ | refine sk_skip ?_ | refine sk_exit rfl ?_ | refine sk_cond_t rfl ?_ | refine sk_cond_f rfl ?_ | ((first | refine sk_reg fun K hK => ?_ | refine sk_drw mix fun K hK => ?_); simp; refine hK _ ?_; clear hK K))
    refine sk_ret ?_; simp
    exact ⟨[], .inl ⟨rfl, rfl, rfl⟩, ⟨List.nodup_nil, fun i hi => by simp at hi⟩, fun i hi => by simp at hi⟩
  · obtain ⟨k, v', H2, E', e1, e2, e3, e4, e5, e6⟩ := clone_app (P := Try.prog) (t := 62) (e := 72) (sz := 3) (by' := 32) (z := .agg #[iv 0, iv 0, iv 0, iv 0]) (by simp) (by simp) (by simp) (by simp) rfl (g := cBd) (fun _ => rfl) h (by omega) (by simp [maxLen]; omega)
    obtain ⟨a, c, rfl⟩ := h.some hn
    repeat (first | refine sk_seq ?_ | refine sk_block ?_ | refine sk_blk ?_ | refine sk_skip ?_ | refine sk_exit rfl ?_ | refine sk_cond_t rfl ?_ | refine sk_cond_f rfl ?_ | ((first | refine sk_reg fun K hK => ?_ | refine sk_drw mix fun K hK => ?_); simp [e1, e2]; refine hK _ ?_; clear hK K))
    refine sk_ret ?_; simp
    exact ⟨e3.len, fun i hi => e3.same hi, E', e4, e5, e6⟩

end Go.Proofs.Ytpoedfmkiiijnaa
namespace Go.Proofs.Ytpoedfmkiiijnaa
open Go Go.RowKit Go.Proofs.YtpoedfmkiiijnaaAm
set_option linter.unusedVariables false
set_option linter.unusedSimpArgs false
set_option maxRecDepth 10000
set_option maxHeartbeats 4000000
def clnQ (H : Heap) (E : List Nat) (ls : List Ln) (H' : Heap) (E' : List Nat) (v' : Value) : Prop :=
  (v' = nl ∧ ls = [] ∧ E' = []) ∨ ∃ id cells E0, v' = sl id 0 ls.length ∧ E' = [id] ∧ H'[id]? = some ⟨43, cells, true, true⟩ ∧ RCs 4 RLn H E0 ls cells ∧ ∀ e, e ∈ E0 → e ∈ E
theorem RLn.one {H : Heap} {E : List Nat} {l : Ln} {cs : List Value} (h : RLn H E l cs) : cs.all (·.oneCell') = true := by
  obtain ⟨E1, E2, v1, v2, rfl, rfl, h1, h2⟩ := h
  simp only [List.all_cons, List.all_nil, h1.one, h2.one]
  rfl
def B126 : SC := .seq (.reg [⟨some 2, .assign (.const (.slice none 0 0)), none, []⟩]) (.seq (.seq (.reg [⟨some 3, .move (.tmp 0), none, []⟩, ⟨some 4, .binOp .eql 23 (.tmp 3) (.const (.slice none 0 0)) 23, none, []⟩]) (.cond (.tmp 4) (.seq (.reg [⟨some 2, .assign (.const (.slice none 0 0)), none, []⟩]) .ret) .skip)) (.seq (.reg [⟨some 5, .buildSlice 23 0 #[], none, []⟩, ⟨some 6, .move (.tmp 0), none, []⟩, ⟨some 7, .call { callee := (.builtin .append), args := #[(.tmp 5), (.tmp 6)], argTypes := #[23, 23] }, none, []⟩, ⟨some 2, .assign (.tmp 7), none, []⟩]) .ret))
theorem s126 : Try.f126.body.bind (stripC 8) = some B126 := by kernel_rfl
theorem cloneL_mk {H : Heap} {E : List Nat} {v : Value} {ls : List Ln} (h : RS 4 RLn H E v ls) (hb : ls.length ≤ 1048576) : Mkr Try.prog 126 [v] H (clnQ H E ls) := by
  refine Mkr.of_bodyS (N := 8) Try.func126 s126 (by kernel_rfl) rfl rfl (by simp) ?_; unfold B126
  by_cases hn : v = nl
  · subst hn
    obtain rfl := h.nilx
    repeat (first | refine sk_seq ?_ | refine sk_block ?_ | refine sk_blk ?_ | refine sk_skip ?_ | refine sk_exit rfl ?_ | refine sk_cond_t rfl ?_ | refine sk_cond_f rfl ?_ | ((first | refine sk_reg fun K hK => ?_ | refine sk_drw mix fun K hK => ?_); simp; refine hK _ ?_; clear hK K))
    refine sk_ret ?_; simp
    exact ⟨[], .inl ⟨rfl, rfl, rfl⟩, ⟨List.nodup_nil, fun i hi => by simp at hi⟩, fun i hi => by simp at hi⟩
  · obtain ⟨E2, news, hsrc, h2, hE2, _⟩ := (h.ext (L := [⟨43, [], true, true⟩]) RLn.frm).src
    have e1 := apA_new (P := Try.prog) (t := 23) (e := 43) (sz := 3) (by' := 64) (z := .agg #[iv 0, nl, nl, iv 0]) (by simp) (by simp) (by simp) (by simp) rfl hsrc (h2.one RLn.one) (by omega) (by simp [maxLen]; omega)
    have hbd := h.bd RLn.frm
    obtain ⟨a, c, rfl⟩ := h.some hn
    repeat (first | refine sk_seq ?_ | refine sk_block ?_ | refine sk_blk ?_ | refine sk_skip ?_ | refine sk_exit rfl ?_ | refine sk_cond_t rfl ?_ | refine sk_cond_f rfl ?_ | ((first | refine sk_reg fun K hK => ?_ | refine sk_drw mix fun K hK => ?_); simp [e1]; refine hK _ ?_; clear hK K))
    refine sk_ret ?_; simp
    refine ⟨fun i hi => List.getElem?_append_left hi, [H.length + 1], .inr ⟨H.length + 1, news, E2, rfl, rfl, by simp, h2.fr RLn.frm (agr_cut H _ fun e he => hbd e (hE2 e he)), hE2⟩, ⟨by simp, fun i hi => ?_⟩, fun i hi => by simp at hi; omega⟩
    simp at hi; subst hi
    exact rw_get (t := 43) (cs := news) (by simp)
def B90 : SC := .seq (.reg [⟨some 1, .box 25 (.tmp 0), none, []⟩, ⟨some 2, .alloc 25, none, []⟩]) (.seq (.reg [⟨some 5, .fieldAddr 25 (.tmp 1) 2, none, []⟩, ⟨some 6, .load 23 (.tmp 5), none, []⟩, ⟨some 7, .call { callee := (.value (.func 126)), args := #[(.tmp 6)], argTypes := #[23] }, none, []⟩, ⟨some 8, .fieldAddr 25 (.tmp 1) 2, none, []⟩, ⟨none, .store 23 (.tmp 8) (.tmp 7), none, []⟩]) (.seq (.seq (.reg [⟨some 9, .fieldAddr 25 (.tmp 1) 2, none, []⟩, ⟨some 10, .load 23 (.tmp 9), none, []⟩, ⟨some 11, .call { callee := (.builtin .len), args := #[(.tmp 10)], argTypes := #[23] }, none, []⟩, ⟨some 12, .move (.const (.int .i64 0)), none, []⟩]) (.block 0 (.loop (.seq (.reg [⟨some 13, .binOp .lss 3 (.tmp 12) (.tmp 11) 3, none, []⟩]) (.seq (.cond (.tmp 13) .skip (.exit 0)) (.seq (.block 1 (.seq (.reg [⟨some 14, .move (.tmp 12), none, []⟩, ⟨some 3, .assign (.tmp 14), none, []⟩]) (.seq (.reg [⟨some 15, .fieldAddr 25 (.tmp 1) 2, none, []⟩, ⟨some 16, .load 23 (.tmp 15), none, []⟩, ⟨some 17, .move (.tmp 3), none, []⟩, ⟨some 18, .indexAddr 23 (.tmp 16) (.tmp 17), none, []⟩, ⟨some 4, .assign (.tmp 18), none, []⟩]) (.drw 0 [⟨some 19, .move (.tmp 4), none, []⟩, ⟨some 20, .move (.tmp 4), none, []⟩, ⟨some 21, .move (.tmp 4), none, []⟩, ⟨some 22, .nilCheck (.tmp 21), none, [2]⟩, ⟨some 23, .fieldAddr 43 (.tmp 22) 1, none, [3, 2]⟩, ⟨some 24, .load 40 (.tmp 23), none, [4, 3, 2]⟩, ⟨some 25, .call { callee := (.value (.func 127)), args := #[(.tmp 24)], argTypes := #[40] }, none, [5, 4, 3, 2]⟩, ⟨some 26, .move (.tmp 4), none, []⟩, ⟨some 27, .nilCheck (.tmp 26), none, [7]⟩, ⟨some 28, .fieldAddr 43 (.tmp 27) 2, none, [8, 7]⟩, ⟨some 29, .load 41 (.tmp 28), none, [9, 8, 7]⟩, ⟨some 30, .call { callee := (.value (.func 128)), args := #[(.tmp 29)], argTypes := #[41] }, none, [10, 9, 8, 7, 6, 5, 4, 3, 2]⟩, ⟨some 31, .nilCheck (.tmp 19), none, [0, 2, 3, 4, 5, 6, 10, 9, 8, 7, 11]⟩, ⟨some 32, .fieldAddr 43 (.tmp 31) 1, none, [12, 0, 2, 3, 4, 5, 6, 10, 9, 8, 7, 11]⟩, ⟨none, .store 40 (.tmp 32) (.tmp 25), none, [13, 12, 0, 2, 3, 4, 5, 6, 10, 9, 8, 7, 11]⟩, ⟨some 33, .nilCheck (.tmp 20), none, [1, 0, 2, 3, 4, 5, 6, 7, 8, 9, 10, 11, 12, 13, 14]⟩, ⟨some 34, .fieldAddr 43 (.tmp 33) 2, none, [15, 1, 0, 2, 3, 4, 5, 6, 7, 8, 9, 10, 11, 12, 13, 14]⟩, ⟨none, .store 41 (.tmp 34) (.tmp 30), none, [16, 15, 1, 0, 2, 3, 4, 5, 6, 7, 8, 9, 10, 11, 12, 13, 14]⟩])))) (.reg [⟨some 35, .binOp .add 3 (.tmp 12) (.const (.int .i64 1)) 3, none, []⟩, ⟨some 12, .move (.tmp 35), none, []⟩]))))))) (.seq (.reg [⟨some 36, .load 25 (.tmp 1), none, []⟩, ⟨none, .store 25 (.tmp 2) (.tmp 36), none, []⟩]) .ret)))
theorem s90 : Try.f90.body.bind (stripC 37) = some B90 := by kernel_rfl
theorem copied_mk {H : Heap} {E : List Nat} {b : Bk} {cs : List Value} (h : RBk H E b cs) (hb : b.lines.length ≤ 1048576) (hlen : ∀ l, l ∈ b.lines → lenOk l) :
    Mkr Try.prog 90 [.agg cs.toArray] H fun H' E' v' => ∃ w, v' = .agg #[.bool b.ok, iv b.sec, w] ∧ RS 4 RLnW H' E' w b.lines := by
  obtain ⟨v, rfl, hv⟩ := h
  have x := hv.one
  refine Mkr.of_bodyS (N := 37) Try.func90 s90 (by kernel_rfl) rfl rfl (by simp) ?_; unfold B90
  repeat (first | refine sk_seq ?_ | refine sk_block ?_ | refine sk_blk ?_ | refine sk_skip ?_ | refine sk_exit rfl ?_ | refine sk_cond_t rfl ?_ | refine sk_cond_f rfl ?_ | ((first | refine sk_reg fun K hK => ?_ | refine sk_drw mix fun K hK => ?_); simp [x]; refine hK _ ?_; clear hK K))
  refine sk_reg fun K hK => ?_; simp [x]
  refine AskX.mkr (cloneL_mk (hv.gro (by first | exact Gro.refl _ | exact ⟨_, rfl⟩ | exact ⟨_, by simp only [List.append_assoc, List.cons_append, List.nil_append]; rfl⟩ | exact ⟨[], by simp⟩) RLn.frm) hb) ?_; rintro w J A hQ o n; simp
  rcases hQ with ⟨rfl, hnil, rfl⟩ | ⟨id, cells, E0, rfl, rfl, hcell, hrc, hE0⟩
  · simp
    refine hK _ ?_; clear hK K
    repeat (first | refine sk_seq ?_ | refine sk_block ?_ | refine sk_blk ?_ | refine sk_skip ?_ | refine sk_exit rfl ?_ | refine sk_cond_t rfl ?_ | refine sk_cond_f rfl ?_ | ((first | refine sk_reg fun K hK => ?_ | refine sk_drw mix fun K hK => ?_); simp; refine hK _ ?_; clear hK K))
    refine sk_rng 0 (fun i => [(1, pt H.length 0), (2, pt (H.length + 1) 0), (10, nl), (11, iv 0), (12, iv 0)]) (fun i H1 => H1 = H ++ ⟨25, [.bool b.ok, iv b.sec, nl], true, true⟩ :: ⟨25, [.bool false, iv 0, nl], true, true⟩ :: J) (by simp [subL, getT]) rfl (fun i H1 hi => by omega) ?_
    rintro H1 rfl
    repeat (first | refine sk_seq ?_ | refine sk_block ?_ | refine sk_blk ?_ | refine sk_skip ?_ | refine sk_exit rfl ?_ | refine sk_cond_t rfl ?_ | refine sk_cond_f rfl ?_ | ((first | refine sk_reg fun K hK => ?_ | refine sk_drw mix fun K hK => ?_); simp; refine hK _ ?_; clear hK K))
    refine sk_ret ?_; simp
    exact ⟨fun i hi => List.getElem?_append_left hi, [], ⟨by simp [hnil], .inl ⟨.inl rfl, hnil, rfl⟩⟩, ⟨List.nodup_nil, fun i hi => by simp at hi⟩, fun i hi => by simp at hi⟩
  simp
  refine hK _ ?_; clear hK K
  repeat (first | refine sk_seq ?_ | refine sk_block ?_ | refine sk_blk ?_ | refine sk_skip ?_ | refine sk_exit rfl ?_ | refine sk_cond_t rfl ?_ | refine sk_cond_f rfl ?_ | ((first | refine sk_reg fun K hK => ?_ | refine sk_drw mix fun K hK => ?_); simp; refine hK _ ?_; clear hK K))
  have hrc0 : RCs 4 RLn H E0 b.lines cells := hrc.fr RLn.frm (agr_cut H _ fun e he => hv.bd RLn.frm e (hE0 e he))
  have hid0 := n id (by simp)
  simp only [List.length_append, List.length_cons, List.length_nil] at hid0
  simp only [List.append_assoc, List.cons_append, List.nil_append] at hcell
  rw [get_t2 _ _ _ _ (by omega)] at hcell
  refine sk_rng b.lines.length (fun i => [(1, pt H.length 0), (2, pt (H.length + 1) 0), (10, sl id 0 b.lines.length), (11, iv b.lines.length), (12, iv i)])
    (fun i H1 => Gro H H1 ∧ H1[H.length]? = some ⟨25, [.bool b.ok, iv b.sec, sl id 0 b.lines.length], true, true⟩ ∧ H1[H.length + 1]? = some ⟨25, [.bool false, iv 0, nl], true, true⟩ ∧
      ∃ A done rest E1, H1[id]? = some ⟨43, done ++ rest, true, true⟩ ∧ RCs 4 RLnW H1 A (b.lines.take i) done ∧ RCs 4 RLn H E1 (b.lines.drop i) rest ∧ Own H1 A ∧ ∀ e, e ∈ A → H.length + 2 ≤ e ∧ e ≠ id)
    (by simp [subL, getT]) ⟨Gro.one _ _, by simp, by simp, [], [], cells, E0, by rw [get_t2 _ _ _ _ (by omega)]; exact hcell, ⟨rfl, rfl⟩, by simpa using hrc0, ⟨List.nodup_nil, fun i hi => by simp at hi⟩, fun e he => by simp at he⟩ ?_ ?_
  · clear hcell hrc hrc0 o n
    rintro i H1 hi ⟨hg, hb0, hb1, A, done, rest, E1, hbk, hdn, hrs, ho, hA⟩
    have hl := hg.len
    have hw := wrap_id (x := (i : Int) + 1) (by omega) (by omega)
    have hdl := hdn.len
    rw [List.length_take, Nat.min_eq_left (by omega)] at hdl
    have htk := take_snoc hi
    have hlo := hlen _ (List.getElem_mem hi)
    rw [drop_cons hi] at hrs
    generalize hln : b.lines[i] = l at *
    obtain ⟨_, F3, _, rest, rfl, rfl, _, ⟨F1, F2, v1, v2, rfl, rfl, r1, r2⟩, hrs⟩ := hrs
    have x1 := r1.one
    have x2 := r2.one
    have c2 : CF H1 H.length 2 (sl id 0 b.lines.length) := CF.of hb0 rfl rfl
    have g0 : CF H1 id (i * 4) (iv l.gone) := CF.of hbk rfl (by have := get_mid (j := 0) (z := rest) (m := [iv l.gone, v1, v2, iv l.drop]) hdl rfl; simpa using this)
    have g1 : CF H1 id (i * 4 + 1) v1 := CF.of hbk rfl (by have := get_mid (j := 1) (z := rest) (m := [iv l.gone, v1, v2, iv l.drop]) hdl rfl; simpa using this)
    have g2 : CF H1 id (i * 4 + 2) v2 := CF.of hbk rfl (by have := get_mid (j := 2) (z := rest) (m := [iv l.gone, v1, v2, iv l.drop]) hdl rfl; simpa using this)
    have hrw := RF.of hbk
    have hidl : H.length ≤ id := by omega
    repeat (first | refine sk_seq ?_ | refine sk_block ?_ | refine sk_blk ?_ | refine sk_skip ?_ | refine sk_exit rfl ?_ | refine sk_cond_t rfl ?_ | refine sk_cond_f rfl ?_ | ((first | refine sk_reg fun K hK => ?_ | refine sk_drw mix fun K hK => ?_); simp [hi, c2.s]; refine hK _ ?_; clear hK K))
    refine sk_drw mix fun K hK => ?_; simp [g1.s, g2.s]
    refine AskD.mkr (cloneI_mk (r1.gro hg (RP.frm _)) hlo.1) ?_; rintro u1 J1 A1 q1 o1 n1; simp [g1.s, g2.s, hrw.s, x1, x2]
    refine AskD.mkr (cloneG_mk (r2.gro (hg.app J1) (RP.frm _)) hlo.2) ?_; rintro u2 J2 A2 q2 o2 n2; simp [g1.s, g2.s, hrw.s, x1, x2, hidl, q1.one, q1.cv, q2.one, q2.cv]
    refine hK _ ?_; clear hK K
    repeat (first | refine sk_seq ?_ | refine sk_block ?_ | refine sk_blk ?_ | refine sk_skip ?_ | refine sk_exit rfl ?_ | refine sk_cond_t rfl ?_ | refine sk_cond_f rfl ?_ | ((first | refine sk_reg fun K hK => ?_ | refine sk_drw mix fun K hK => ?_); simp [hw]; refine hK _ ?_; clear hK K))
    have hlt := lt_of_get hbk
    have hA1 := ho.lt
    have o1l := o1.lt
    have hbk' := get_app (J1 ++ J2) hbk
    have hF : ∀ e, e ≠ id → ((Heap.put (H1 ++ (J1 ++ J2)) id (i * 4 + 1) u1).put id (i * 4 + 2) u2)[e]? = (H1 ++ (J1 ++ J2))[e]? := fun e he => by rw [get_put_ne _ _ _ he, get_put_ne _ _ _ he]
    have hFid : ((Heap.put (H1 ++ (J1 ++ J2)) id (i * 4 + 1) u1).put id (i * 4 + 2) u2)[id]? = some ⟨43, done ++ ([iv l.gone, u1, u2, iv l.drop] ++ rest), true, true⟩ := by
      rw [get_put, get_put, hbk']
      simp only [Option.map_some]
      rw [set_mid hdl (by simp), set_mid hdl (by simp)]
      rfl
    generalize hFF : ((Heap.put (H1 ++ (J1 ++ J2)) id (i * 4 + 1) u1).put id (i * 4 + 2) u2) = F at hF hFid ⊢
    have a0 : ∀ e, e ∈ A → F[e]? = H1[e]? := fun e he => by rw [hF e (hA e he).2, List.getElem?_append_left (hA1 e he)]
    have a1 : ∀ e, e ∈ A1 → F[e]? = (H1 ++ J1)[e]? := fun e he => by
      have := n1 e he
      have := o1l e he
      rw [hF e (by omega), ← List.append_assoc, List.getElem?_append_left (o1l e he)]
    have a2 : ∀ e, e ∈ A2 → F[e]? = (H1 ++ J1 ++ J2)[e]? := fun e he => by
      have := n2 e he
      simp only [List.length_append] at this
      rw [hF e (by omega), ← List.append_assoc]
    have hgF : Gro H F := by rw [← hFF]; exact ((hg.app _).put hidl _ _).put hidl _ _
    refine sk_inv ⟨by simp [subL, getT], hgF, by rw [hF _ (by omega)]; exact get_app _ hb0, by rw [hF _ (by omega)]; exact get_app _ hb1, A ++ (A1 ++ A2), done ++ [iv l.gone, u1, u2, iv l.drop], rest, F3, ?_, ?_, hrs, ?_, ?_⟩
    · rw [hFid, List.append_assoc]
    · rw [htk]
      have hR : RLnW F (A1 ++ A2) l [iv l.gone, u1, u2, iv l.drop] := ⟨A1, A2, u1, u2, rfl, rfl, q1.fr (RP.frm _) fun e he _ => a1 e he, q2.fr (RP.frm _) fun e he _ => a2 e he⟩
      exact (hdn.fr RLnW.frm fun e he _ => a0 e he).app ⟨A1 ++ A2, [], _, [], by simp, by simp, rfl, hR, rfl, rfl⟩
    · refine (ho.fr a0).app ((o1.fr a1).app (o2.fr a2) fun e h1 h2 => ?_) fun e h1 h2 => ?_
      · have := o1l e h1; have := n2 e h2; omega
      · have := hA1 e h1
        rcases List.mem_append.1 h2 with h2 | h2
        · have := n1 e h2; omega
        · have := n2 e h2; simp at this; omega
    · intro e he
      rcases List.mem_append.1 he with he | he
      · exact hA e he
      · rcases List.mem_append.1 he with he | he
        · have := n1 e he; omega
        · have := n2 e he; simp at this; omega
  · clear hcell hrc hrc0 o n
    rintro H1 ⟨hg, hb0, hb1, A, done, rest, E1, hbk, hdn, hrs, ho, hA⟩
    rw [List.drop_length] at hrs
    obtain ⟨_, rfl⟩ := hrs
    rw [List.take_length] at hdn
    rw [List.append_nil] at hbk
    have c0 : CF H1 H.length 0 (.bool b.ok) := CF.of hb0 rfl rfl
    have c1 : CF H1 H.length 1 (iv b.sec) := CF.of hb0 rfl rfl
    have c2 : CF H1 H.length 2 (sl id 0 b.lines.length) := CF.of hb0 rfl rfl
    have d0 : CF H1 (H.length + 1) 0 (.bool false) := CF.of hb1 rfl rfl
    have d1 : CF H1 (H.length + 1) 1 (iv 0) := CF.of hb1 rfl rfl
    have d2 : CF H1 (H.length + 1) 2 nl := CF.of hb1 rfl rfl
    have hrw := RF.of hb1
    repeat (first | refine sk_seq ?_ | refine sk_block ?_ | refine sk_blk ?_ | refine sk_skip ?_ | refine sk_exit rfl ?_ | refine sk_cond_t rfl ?_ | refine sk_cond_f rfl ?_ | ((first | refine sk_reg fun K hK => ?_ | refine sk_drw mix fun K hK => ?_); simp [c0.s, c1.s, c2.s, d0.s, d1.s, d2.s, hrw.s]; refine hK _ ?_; clear hK K))
    refine sk_ret ?_; simp [c0.s, c1.s, c2.s, d0.s, d1.s, d2.s]
    have hF : ∀ e, e ≠ H.length + 1 → (((H1.put (H.length + 1) 0 (.bool b.ok)).put (H.length + 1) 1 (iv b.sec)).put (H.length + 1) 2 (sl id 0 b.lines.length))[e]? = H1[e]? := fun e he => by rw [get_put_ne _ _ _ he, get_put_ne _ _ _ he, get_put_ne _ _ _ he]
    refine ⟨by simp only [length_put]; exact hg.len, fun i hi => by rw [hF i (by omega)]; exact hg.same hi, id :: A, ⟨by omega, .inr ⟨id, 0, A, 43, true, [], done, [], rfl, rfl, by rw [hF id (by omega)]; simpa using hbk, rfl, hdn.fr RLnW.frm fun e he _ => hF e (by have := hA e he; omega)⟩⟩, ⟨List.nodup_cons.2 ⟨fun hm => (hA _ hm).2 rfl, ho.1⟩, fun e he => ?_⟩, fun e he => ?_⟩
    · rcases List.mem_cons.1 he with rfl | he
      · exact rw_get (by rw [hF _ (by omega)]; exact hbk)
      · have := ho.2 e he
        unfold Heap.rwOk at this ⊢
        rw [hF e (by have := hA e he; omega)]; exact this
    · rcases List.mem_cons.1 he with rfl | he
      · omega
      · have := hA e he; omega
end Go.Proofs.Ytpoedfmkiiijnaa
namespace Go.Proofs.Ytpoedfmkiiijnaa
open Go Go.RowKit Go.Proofs.YtpoedfmkiiijnaaAm
set_option linter.unusedVariables false
set_option linter.unusedSimpArgs false
set_option maxRecDepth 10000
set_option maxHeartbeats 4000000
theorem RLnW.one {H : Heap} {E : List Nat} {l : Ln} {cs : List Value} (h : RLnW H E l cs) : cs.all (·.oneCell') = true := by
  obtain ⟨E1, E2, v1, v2, rfl, rfl, h1, h2⟩ := h
  simp only [List.all_cons, List.all_nil, h1.one, h2.one]
  rfl
def B89 : SC := .seq (.reg [⟨some 1, .box 25 (.tmp 0), none, []⟩, ⟨some 2, .alloc 25, none, []⟩]) (.seq (.reg [⟨some 7, .fieldAddr 25 (.tmp 1) 0, none, []⟩, ⟨some 8, .load 4 (.tmp 7), none, []⟩, ⟨some 9, .fieldAddr 25 (.tmp 1) 1, none, []⟩, ⟨some 10, .load 3 (.tmp 9), none, []⟩, ⟨some 11, .build 25 #[(0, (.tmp 8)), (1, (.tmp 10))], none, []⟩, ⟨some 3, .alloc 25, none, []⟩, ⟨none, .store 25 (.tmp 3) (.tmp 11), none, []⟩]) (.seq (.seq (.reg [⟨some 12, .fieldAddr 25 (.tmp 1) 2, none, []⟩, ⟨some 13, .load 23 (.tmp 12), none, []⟩, ⟨some 14, .call { callee := (.builtin .len), args := #[(.tmp 13)], argTypes := #[23] }, none, []⟩, ⟨some 15, .move (.const (.int .i64 0)), none, []⟩]) (.block 0 (.loop (.seq (.reg [⟨some 16, .binOp .lss 3 (.tmp 15) (.tmp 14) 3, none, []⟩]) (.seq (.cond (.tmp 16) .skip (.exit 0)) (.seq (.block 1 (.seq (.reg [⟨some 17, .indexAddr 23 (.tmp 13) (.tmp 15), none, []⟩, ⟨some 18, .load 43 (.tmp 17), none, []⟩, ⟨some 5, .alloc 43, none, []⟩, ⟨none, .store 43 (.tmp 5) (.tmp 18), none, []⟩]) (.seq (.reg [⟨some 19, .load 43 (.tmp 5), none, []⟩, ⟨some 6, .alloc 43, none, []⟩, ⟨none, .store 43 (.tmp 6) (.tmp 19), none, []⟩]) (.seq (.reg [⟨some 20, .buildSlice 40 0 #[], none, []⟩, ⟨some 21, .fieldAddr 43 (.tmp 5) 1, none, []⟩, ⟨some 22, .load 40 (.tmp 21), none, []⟩, ⟨some 23, .call { callee := (.builtin .append), args := #[(.tmp 20), (.tmp 22)], argTypes := #[40, 40] }, none, []⟩, ⟨some 24, .fieldAddr 43 (.tmp 6) 1, none, []⟩, ⟨none, .store 40 (.tmp 24) (.tmp 23), none, []⟩]) (.seq (.reg [⟨some 25, .buildSlice 41 0 #[], none, []⟩, ⟨some 26, .fieldAddr 43 (.tmp 5) 2, none, []⟩, ⟨some 27, .load 41 (.tmp 26), none, []⟩, ⟨some 28, .call { callee := (.builtin .append), args := #[(.tmp 25), (.tmp 27)], argTypes := #[41, 41] }, none, []⟩, ⟨some 29, .fieldAddr 43 (.tmp 6) 2, none, []⟩, ⟨none, .store 41 (.tmp 29) (.tmp 28), none, []⟩]) (.reg [⟨some 30, .fieldAddr 25 (.tmp 3) 2, none, []⟩, ⟨some 31, .load 23 (.tmp 30), none, []⟩, ⟨some 32, .load 43 (.tmp 6), none, []⟩, ⟨some 33, .buildSlice 23 1 #[(0, (.tmp 32))], none, []⟩, ⟨some 34, .call { callee := (.builtin .append), args := #[(.tmp 31), (.tmp 33)], argTypes := #[23, 23] }, none, []⟩, ⟨some 35, .fieldAddr 25 (.tmp 3) 2, none, []⟩, ⟨none, .store 23 (.tmp 35) (.tmp 34), none, []⟩])))))) (.reg [⟨some 36, .binOp .add 3 (.tmp 15) (.const (.int .i64 1)) 3, none, []⟩, ⟨some 15, .move (.tmp 36), none, []⟩]))))))) (.seq (.reg [⟨some 37, .load 25 (.tmp 3), none, []⟩, ⟨none, .store 25 (.tmp 2) (.tmp 37), none, []⟩]) .ret)))
theorem s89 : Try.f89.body.bind (stripC 38) = some B89 := by kernel_rfl
theorem l2copy_mk {H : Heap} {E : List Nat} {b : Bk} {cs : List Value} (h : RBk H E b cs) (hb : b.lines.length ≤ 1048576) (hlen : ∀ l, l ∈ b.lines → lenOk l) :
    Mkr Try.prog 89 [.agg cs.toArray] H fun H' E' v' => ∃ w, v' = .agg #[.bool b.ok, iv b.sec, w] ∧ RS 4 RLnW H' E' w b.lines := by
  obtain ⟨v, rfl, hv⟩ := h
  have x := hv.one
  obtain ⟨a0, c0, rfl⟩ := hv.form
  refine Mkr.of_bodyS (N := 38) Try.func89 s89 (by kernel_rfl) rfl rfl (by simp) ?_; unfold B89
  repeat (first | refine sk_seq ?_ | refine sk_block ?_ | refine sk_blk ?_ | refine sk_skip ?_ | refine sk_exit rfl ?_ | refine sk_cond_t rfl ?_ | refine sk_cond_f rfl ?_ | ((first | refine sk_reg fun K hK => ?_ | refine sk_drw mix fun K hK => ?_); simp [x]; refine hK _ ?_; clear hK K))
  refine sk_rng b.lines.length (fun i => [(2, pt (H.length + 1) 0), (3, pt (H.length + 2) 0), (13, .slice a0 b.lines.length c0), (14, iv b.lines.length), (15, iv i)])
    (fun i H1 => Gro H H1 ∧ H1[H.length + 1]? = some ⟨25, [.bool false, iv 0, nl], true, true⟩ ∧ ∃ vl A, H1[H.length + 2]? = some ⟨25, [.bool b.ok, iv b.sec, vl], true, true⟩ ∧ RW 43 4 RLnW H1 A vl (b.lines.take i) ∧ Own H1 A ∧ ∀ e, e ∈ A → H.length + 3 ≤ e)
    (by simp [subL, getT]) ⟨Gro.one _ _, by simp, nl, [], by simp, .inl ⟨rfl, by simp, rfl⟩, ⟨List.nodup_nil, fun i hi => by simp at hi⟩, fun e he => by simp at he⟩ ?_ ?_
  · rintro i H1 hi ⟨hg, hb1, vl, A, hb2, hA, oA, nA⟩
    have hl := hg.len
    have hw := wrap_id (x := (i : Int) + 1) (by omega) (by omega)
    obtain ⟨id, o, v1, v2, E1, E2, hve, hid, d0, d1, d2, d3, hw1, hw2, x1, x2, _⟩ := (hv.gro hg RLn.frm).line hi
    have hlo := hlen _ (List.getElem_mem hi)
    have htk := take_snoc hi
    have hlt2 := lt_of_get hb2
    have hAlt := oA.lt
    generalize hln : b.lines[i] = l at *
    have xc1 := hw1.cv
    have xc2 := hw2.cv
    obtain ⟨k1, u1, H2, F1, e1, e2, e3, e4, e5, e6⟩ := clone_app (P := Try.prog) (t := 40) (e := 3) (sz := 0) (by' := 8) (z := iv 0) (by simp) (by simp) (by simp) (by simp) rfl (g := cInt) (fun _ => rfl) (hw1.ext (RP.frm _) (L := [⟨43, [iv l.gone, v1, v2, iv l.drop], true, true⟩, ⟨43, [iv l.gone, v1, v2, iv l.drop], true, true⟩])) (by have := hlo.1; omega) (by have := hlo.1; simp [maxLen]; omega)
    have q5 : H2[H1.length]? = some ⟨43, [iv l.gone, v1, v2, iv l.drop], true, true⟩ := e3.get (by simp)
    have q6 : H2[H1.length + 1]? = some ⟨43, [iv l.gone, v1, v2, iv l.drop], true, true⟩ := e3.get (by simp)
    have g2 : Gro H1 H2 := (Gro.one _ _).trans e3
    simp only [List.append_assoc, List.cons_append, List.nil_append, List.length_append, List.length_cons, List.length_nil, Nat.zero_add, Nat.reduceAdd] at e1 e2 e6
    have wr1 : wrO H.length [] k1 := fun i hi => by rcases e2 i hi with h | h; exact .inl (by omega); exact .inr h
    have m6 : CF H2 (H1.length + 1) 1 v1 := CF.of q6 rfl rfl
    have r6 := RF.of q6
    have y1 := e4.one
    have y1c := e4.cv
    have hl1 : H.length ≤ H1.length + 1 := by omega
    repeat (first | refine sk_seq ?_ | refine sk_block ?_ | refine sk_blk ?_ | refine sk_skip ?_ | refine sk_exit rfl ?_ | refine sk_cond_t rfl ?_ | refine sk_cond_f rfl ?_ | ((first | refine sk_reg fun K hK => ?_ | refine sk_drw mix fun K hK => ?_); simp [hi, hve, d0.s, d1.s, d2.s, d3.s, x1, x2, xc1, xc2, hl, hl1]; refine hK _ ?_; clear hK K))
    refine sk_reg fun K hK => ?_; simp [e1, wr1, m6.s, r6.s, y1, y1c, hl1]
    refine hK _ ?_; clear hK K
    have hl2 := g2.len
    have hlt6 := lt_of_get q6
    have fb : ∀ i, i ≠ H1.length + 1 → (H2.put (H1.length + 1) 1 u1)[i]? = H2[i]? := fun i hi => get_put_ne _ _ _ hi
    have fbk : (H2.put (H1.length + 1) 1 u1)[H1.length + 1]? = some ⟨43, [iv l.gone, u1, v2, iv l.drop], true, true⟩ := by rw [get_put, q6]; rfl
    have fbl : (H2.put (H1.length + 1) 1 u1).length = H2.length := length_put _ _ _ _
    generalize H2.put (H1.length + 1) 1 u1 = Hb at fb fbk fbl ⊢
    have gb : Gro H1 Hb := Gro.of (by omega) fun i hi => by rw [fb i (by omega)]; exact g2.same hi
    obtain ⟨k2, u2, H3, F2, i1, i2, i3, i4, i5, i6⟩ := clone_app (P := Try.prog) (t := 41) (e := 45) (sz := 1) (by' := 16) (z := .agg #[iv 0, iv 0]) (by simp) (by simp) (by simp) (by simp) rfl (g := cGr) (fun _ => rfl) (hw2.gro gb (RP.frm _)) (by have := hlo.2; omega) (by have := hlo.2; simp [maxLen]; omega)
    have wr2 : wrO H.length [] k2 := fun i hi => by rcases i2 i hi with h | h; exact .inl (by omega); exact .inr h
    have n5 : CF Hb H1.length 2 v2 := CF.of (by rw [fb _ (by omega)]; exact q5) rfl rfl
    have q7 := i3.get fbk
    have m7 : CF H3 (H1.length + 1) 2 v2 := CF.of q7 rfl rfl
    have r7 := RF.of q7
    have y2 := i4.one
    have y2c := i4.cv
    have hlb : H.length ≤ Hb.length := by omega
    refine sk_seq ?_
    refine sk_reg fun K hK => ?_; simp [i1, wr2, n5.s, m7.s, r7.s, y2, y2c, hl1, hlb]
    refine hK _ ?_; clear hK K
    have fc : ∀ i, i ≠ H1.length + 1 → (H3.put (H1.length + 1) 2 u2)[i]? = H3[i]? := fun i hi => get_put_ne _ _ _ hi
    have fck : (H3.put (H1.length + 1) 2 u2)[H1.length + 1]? = some ⟨43, [iv l.gone, u1, u2, iv l.drop], true, true⟩ := by rw [get_put, q7]; rfl
    have fcl : (H3.put (H1.length + 1) 2 u2).length = H3.length := length_put _ _ _ _
    generalize H3.put (H1.length + 1) 2 u2 = Hc at fc fck fcl ⊢
    have hl3 := i3.len
    have gc : Gro H1 Hc := Gro.of (by omega) fun i hi => by rw [fc i (by omega), i3.same (by omega), gb.same hi]
    have e5l := e5.lt
    have i5l := i5.lt
    have a1 : ∀ e, e ∈ F1 → Hc[e]? = H2[e]? := fun e he => by
      have := e5l e he
      have := e6 e he
      rw [fc e (by omega), i3.same (by omega), fb e (by omega)]
    have a2 : ∀ e, e ∈ F2 → Hc[e]? = H3[e]? := fun e he => by
      have := i6 e he
      rw [fc e (by omega)]
    have hR : RLnW Hc (F1 ++ F2) l [iv l.gone, u1, u2, iv l.drop] := ⟨F1, F2, u1, u2, rfl, rfl, e4.fr (RP.frm _) fun e he _ => a1 e he, i4.fr (RP.frm _) fun e he _ => a2 e he⟩
    have oF : Own Hc (F1 ++ F2) := (e5.fr a1).app (i5.fr a2) fun e h1 h2 => by have := e5l e h1; have := i6 e h2; omega
    have nF : ∀ e, e ∈ F1 ++ F2 → H1.length + 2 ≤ e := fun e he => by
      rcases List.mem_append.1 he with he | he
      · exact e6 e he
      · have := i6 e he; omega
    have oFl := oF.lt
    have hti : (b.lines.take i).length = i := by rw [List.length_take, Nat.min_eq_left (by omega)]
    obtain ⟨k3, vl', H4, A', j1, j2, j3, j4, j5, j6, j7, j8⟩ := apA_RW (P := Try.prog) (t := 23) (e := 43) (sz := 3) (by' := 64) (z := .agg #[iv 0, nl, nl, iv 0]) (by simp) (by simp) (by simp) (by simp) rfl RLnW.frm ((hA.gro gc RLnW.frm).ext RLnW.frm (L := [⟨43, [iv l.gone, u1, u2, iv l.drop], true, true⟩]))
      (w := sl Hc.length 0 1) (ys := [l]) (news := [iv l.gone, u1, u2, iv l.drop]) (by simp [srcA, ldC, cell_at, cell_cs, cell_c0]) ⟨F1 ++ F2, [], _, [], by simp, by simp, rfl, RLnW.frm.ext hR, rfl, rfl⟩ (by simp [y1, y2]) oA.1 oF.1 (fun e h1 h2 => by have := hAlt e h1; have := nF e h2; omega) (by simp [hti]; omega) (by simp [hti, maxLen]; omega)
    have hb2c := gc.get hb2
    have hnA : H.length + 2 ∉ A := fun hh => by have := nA _ hh; omega
    have hnA1 : H.length + 1 ∉ A := fun hh => by have := nA _ hh; omega
    have hlc := gc.len
    have hb2d : H4[H.length + 2]? = _ := (j4 _ (by simp; omega) hnA).trans (get_app _ hb2c)
    have hb1d : H4[H.length + 1]? = _ := (j4 _ (by simp; omega) hnA1).trans (get_app _ (gc.get hb1))
    have wr3 : wrO H.length [] k3 := fun i hi => .inl (by have := nA i (j2 i hi).1; omega)
    have t2 : CF Hc (H.length + 2) 2 vl := CF.of hb2c rfl rfl
    have p0 : CF Hc (H1.length + 1) 0 (iv l.gone) := CF.of fck rfl rfl
    have p1 : CF Hc (H1.length + 1) 1 u1 := CF.of fck rfl rfl
    have p2 : CF Hc (H1.length + 1) 2 u2 := CF.of fck rfl rfl
    have p3 : CF Hc (H1.length + 1) 3 (iv l.drop) := CF.of fck rfl rfl
    have t4 : CF H4 (H.length + 2) 2 vl := CF.of hb2d rfl rfl
    have r4 := RF.of hb2d
    have hlc' : H.length ≤ Hc.length := by omega
    have yl := j5.one
    have ylc := j5.cv
    refine sk_reg fun K hK => ?_; simp [j1, wr3, t2.s, p0.s, p1.s, p2.s, p3.s, t4.s, r4.s, y1, y1c, y2, y2c, yl, ylc, hlc']
    refine hK _ ?_; clear hK K
    repeat (first | refine sk_seq ?_ | refine sk_block ?_ | refine sk_blk ?_ | refine sk_skip ?_ | refine sk_exit rfl ?_ | refine sk_cond_t rfl ?_ | refine sk_cond_f rfl ?_ | ((first | refine sk_reg fun K hK => ?_ | refine sk_drw mix fun K hK => ?_); simp [hw]; refine hK _ ?_; clear hK K))
    have ff : ∀ i, i ≠ H.length + 2 → (H4.put (H.length + 2) 2 vl')[i]? = H4[i]? := fun i hi => get_put_ne _ _ _ hi
    simp only [List.length_append, List.length_cons, List.length_nil] at j3 j4 j7
    have nA' : ∀ e, e ∈ A' → H.length + 3 ≤ e := fun e he => by
      rcases j7 e he with ⟨h | h, _⟩ | ⟨h, _⟩
      · exact nA e h
      · have := nF e h; omega
      · omega
    have gf : Gro H (H4.put (H.length + 2) 2 vl') := Gro.of (by rw [length_put]; omega) fun i hi => by
      rw [ff i (by omega), j4 i (by omega) fun hh => by have := nA i hh; omega, List.getElem?_append_left (by omega), gc.same (by omega), hg.same hi]
    refine sk_inv ⟨by simp [subL, getT, hve], gf, by rw [ff _ (by omega)]; exact hb1d, vl', A', by rw [get_put, hb2d]; rfl, ?_, ⟨j6, fun e he => ?_⟩, nA'⟩
    · rw [htk]; exact j5.fr RLnW.frm fun e he _ => ff e (by have := nA' e he; omega)
    · rw [rwOk_put]
      rcases j7 e he with ⟨h | h, h2, h3⟩ | ⟨_, h⟩
      · have := (oA.fr fun e he => gc.same (hAlt e he)).2 e h
        unfold Heap.rwOk at this ⊢
        rw [h3, List.getElem?_append_left (by have := hAlt e h; omega)]; exact this
      · have := oF.2 e h
        unfold Heap.rwOk at this ⊢
        rw [h3, List.getElem?_append_left (oFl e h)]; exact this
      · exact h
  · rintro H1 ⟨hg, hb1, vl, A, hb2, hA, oA, nA⟩
    have hl := hg.len
    rw [List.take_length] at hA
    have c0 : CF H1 (H.length + 2) 0 (.bool b.ok) := CF.of hb2 rfl rfl
    have c1 : CF H1 (H.length + 2) 1 (iv b.sec) := CF.of hb2 rfl rfl
    have c2 : CF H1 (H.length + 2) 2 vl := CF.of hb2 rfl rfl
    have d0 : CF H1 (H.length + 1) 0 (.bool false) := CF.of hb1 rfl rfl
    have d1 : CF H1 (H.length + 1) 1 (iv 0) := CF.of hb1 rfl rfl
    have d2 : CF H1 (H.length + 1) 2 nl := CF.of hb1 rfl rfl
    have hrw := RF.of hb1
    have yl := hA.one
    have ylc := hA.cv
    repeat (first | refine sk_seq ?_ | refine sk_block ?_ | refine sk_blk ?_ | refine sk_skip ?_ | refine sk_exit rfl ?_ | refine sk_cond_t rfl ?_ | refine sk_cond_f rfl ?_ | ((first | refine sk_reg fun K hK => ?_ | refine sk_drw mix fun K hK => ?_); simp [c0.s, c1.s, c2.s, d0.s, d1.s, d2.s, hrw.s, yl, ylc]; refine hK _ ?_; clear hK K))
    refine sk_ret ?_; simp [c0.s, c1.s, c2.s, d0.s, d1.s, d2.s]
    have hF : ∀ e, e ≠ H.length + 1 → (((H1.put (H.length + 1) 0 (.bool b.ok)).put (H.length + 1) 1 (iv b.sec)).put (H.length + 1) 2 vl)[e]? = H1[e]? := fun e he => by rw [get_put_ne _ _ _ he, get_put_ne _ _ _ he, get_put_ne _ _ _ he]
    refine ⟨by simp only [length_put]; exact hg.len, fun i hi => by rw [hF i (by omega)]; exact hg.same hi, A, (hA.fr RLnW.frm fun e he _ => hF e (by have := nA e he; omega)).rs (by omega), oA.fr fun e he => hF e (by have := nA e he; omega), fun e he => by have := nA e he; omega⟩
end Go.Proofs.Ytpoedfmkiiijnaa
