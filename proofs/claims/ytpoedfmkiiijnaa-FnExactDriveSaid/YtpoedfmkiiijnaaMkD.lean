/- The mark and held functions over what runs answer, and over worlds. Walks. -/
import Derived.Test.YtpoedfmkiiijnaaGE
import Derived.Test.YtpoedfmkiiijnaaGD
namespace Go.Proofs.Ytpoedfmkiiijnaa
open Go Go.RowKit Go.Proofs.YtpoedfmkiiijnaaAm
set_option linter.unusedVariables false
set_option linter.unusedSimpArgs false
set_option maxRecDepth 10000
set_option maxHeartbeats 8000000
theorem intA_rem3 (k : IntKind) (a : Int) : intA .rem k a k 3 = some (.int k (a.tmod 3)) := by simp [intA]
theorem putb (E : List Nat) (H : Heap) {id : Nat} (j : Nat) (b : Bool) (hi : id ∈ E) : MK E H (H.put id j (.bool b)) := MK.put _ _ hi rfl
def B67 : SC := .seq (.reg [⟨some 4, .assign (.const (.int .i64 0)), none, []⟩]) (.seq (.seq (.reg [⟨some 5, .assign (.const (.int .i64 0)), none, []⟩]) (.block 0 (.loop (.seq (.seq (.reg [⟨some 6, .move (.tmp 5), none, []⟩, ⟨some 7, .move (.tmp 0), none, []⟩, ⟨some 8, .call { callee := (.builtin .len), args := #[(.tmp 7)], argTypes := #[34] }, none, []⟩, ⟨some 9, .binOp .lss 3 (.tmp 6) (.tmp 8) 3, none, []⟩]) (.cond (.tmp 9) .skip (.exit 0))) (.seq (.block 1 (.seq (.reg [⟨some 12, .move (.tmp 0), none, []⟩, ⟨some 13, .move (.tmp 5), none, []⟩, ⟨some 14, .move (.tmp 1), none, []⟩, ⟨some 15, .indexAddr 34 (.tmp 12) (.tmp 13), none, []⟩, ⟨some 16, .fieldAddr 39 (.tmp 15) 0, none, []⟩, ⟨none, .store 3 (.tmp 16) (.tmp 14), none, []⟩]) (.seq (.reg [⟨some 17, .move (.tmp 1), none, []⟩, ⟨some 18, .binOp .add 3 (.tmp 17) (.const (.int .i64 1)) 3, none, []⟩, ⟨some 1, .assign (.tmp 18), none, []⟩]) (.seq (.reg [⟨some 19, .move (.tmp 0), none, []⟩, ⟨some 20, .move (.tmp 5), none, []⟩, ⟨some 21, .move (.tmp 1), none, []⟩, ⟨some 22, .binOp .rem 3 (.tmp 21) (.const (.int .i64 3)) 3, none, []⟩, ⟨some 23, .binOp .eql 3 (.tmp 22) (.const (.int .i64 0)) 3, none, []⟩, ⟨some 24, .indexAddr 34 (.tmp 19) (.tmp 20), none, []⟩, ⟨some 25, .fieldAddr 39 (.tmp 24) 1, none, []⟩, ⟨some 26, .fieldAddr 25 (.tmp 25) 0, none, []⟩, ⟨none, .store 4 (.tmp 26) (.tmp 23), none, []⟩]) (.seq (.reg [⟨some 27, .move (.tmp 1), none, []⟩, ⟨some 28, .binOp .add 3 (.tmp 27) (.const (.int .i64 1)) 3, none, []⟩, ⟨some 1, .assign (.tmp 28), none, []⟩]) (.seq (.reg [⟨some 29, .move (.tmp 0), none, []⟩, ⟨some 30, .move (.tmp 5), none, []⟩, ⟨some 31, .move (.tmp 1), none, []⟩, ⟨some 32, .indexAddr 34 (.tmp 29) (.tmp 30), none, []⟩, ⟨some 33, .fieldAddr 39 (.tmp 32) 1, none, []⟩, ⟨some 34, .fieldAddr 25 (.tmp 33) 1, none, []⟩, ⟨none, .store 3 (.tmp 34) (.tmp 31), none, []⟩]) (.seq (.reg [⟨some 35, .move (.tmp 1), none, []⟩, ⟨some 36, .binOp .add 3 (.tmp 35) (.const (.int .i64 1)) 3, none, []⟩, ⟨some 1, .assign (.tmp 36), none, []⟩]) (.reg [⟨some 37, .move (.tmp 0), none, []⟩, ⟨some 38, .move (.tmp 5), none, []⟩, ⟨some 39, .indexAddr 34 (.tmp 37) (.tmp 38), none, []⟩, ⟨some 40, .fieldAddr 39 (.tmp 39) 1, none, []⟩, ⟨some 41, .fieldAddr 25 (.tmp 40) 2, none, []⟩, ⟨some 42, .load 23 (.tmp 41), none, []⟩, ⟨some 43, .move (.tmp 1), none, []⟩, ⟨some 44, .call { callee := (.value (.func 86)), args := #[(.tmp 42), (.tmp 43)], argTypes := #[23, 3] }, none, []⟩, ⟨some 1, .assign (.tmp 44), none, []⟩])))))))) (.reg [⟨some 10, .move (.tmp 5), none, []⟩, ⟨some 11, .binOp .add 3 (.tmp 10) (.const (.int .i64 1)) 3, none, []⟩, ⟨some 5, .assign (.tmp 11), none, []⟩])))))) (.seq (.reg [⟨some 45, .move (.tmp 1), none, []⟩, ⟨some 4, .assign (.tmp 45), none, []⟩]) .ret))
theorem s67 : Try.f67.body.bind (stripC 46) = some B67 := by kernel_rfl
theorem markDoneS_ac {H : Heap} {E : List Nat} {v : Value} {xs : List Dn} {k : Int} (h : RS 4 RDn H E v xs) (ho : Own H E) (hk : 0 ≤ k) (hb : k + cnL cnDn xs ≤ 4611686018427387904) :
    ∃ H', AC Try.prog 67 [v, iv k] H (iv (k + cnL cnDn xs)) H' E ∧ MK E H H' ∧ RS 4 RDn H' E v (mkL mkDn cnDn xs k) := by
  obtain ⟨a1, c1, ha⟩ := h.form
  have hn := h.1
  refine AC.of_markS (N := 46) Try.func67 s67 (by kernel_rfl) rfl rfl (by simp) rfl ?_; unfold B67
  rw [ha]
  repeat (first | refine sA ?_ | refine sB ?_ | refine sC ?_ | refine sD ?_ | refine sE rfl ?_ | refine sF rfl ?_ | refine sG rfl ?_ | (refine sk_reg fun K hK => ?_; simp; refine hK _ ?_; clear hK K))
  rw [← ha]
  refine sk_loop (fun m ts H' => ∃ (i : Nat), i ≤ xs.length ∧ m = xs.length - i ∧ MK E H H' ∧ RS 4 RDn H' E v (mkAt mkDn cnDn xs i k) ∧ ts = [(0, v), (1, iv (k + cnL cnDn (xs.take i))), (5, iv i)]) xs.length _ ?_ ⟨0, by omega, rfl, MK.refl _ _, by rw [mkAt_zero]; exact h, rfl⟩ ?_
  · simp [subL, getT, ha, cnL]
  rintro m ts H1 ⟨i, hi, rfl, hmk, hr, rfl⟩
  by_cases hlt : i < xs.length
  case neg =>
    have hk2 : i = xs.length := by omega
    subst hk2
    rw [mkAt_all] at hr
    repeat (first | refine sA ?_ | refine sB ?_ | refine sC ?_ | refine sD ?_ | refine sE rfl ?_ | refine sF rfl ?_ | refine sG rfl ?_ | (refine sk_reg fun K hK => ?_; simp [hlt, ha]; refine hK _ ?_; clear hK K))
    refine sk_ret ?_; simp
    exact ⟨H1, ⟨[], by simp⟩, hmk, hr⟩
  have hle := cnL_le (c := cnDn) (xs := xs) cnDn_nn (i + 1)
  have hle0 := cnL_nn (c := cnDn) cnDn_nn (xs.take i)
  rw [cnL_succ hlt] at hle
  have hset := mkAt_set (f := mkDn) (c := cnDn) (k := k) hlt
  have hown := ho.mk hmk
  obtain ⟨id, o, Ek, ck, hv, hid, hne, hsub, hndk, hR, hsz, hc, hcl⟩ := hr.opn RDn.frm ho.1 (k := i) (by rw [mkAt_len]; exact hlt)
  rw [mkAt_get hlt] at hR
  rw [mkAt_len] at hv
  generalize hK : k + cnL cnDn (xs.take i) = K at hset ⊢
  generalize hl : xs[i] = d at hset hR hle
  obtain ⟨_, rfl, v1, rfl, hw1⟩ := hR
  have hownk : Own H1 Ek := ⟨hndk, fun e he => hown.2 e (hsub e he)⟩
  have g1 : ∀ e, e ∈ Ek → e ≠ id := fun e he hh => hne (by rw [← hh]; exact he)
  have c0 := hc 0 _ rfl
  have c1 := hc 1 _ rfl
  have c2 := hc 2 _ rfl
  have c3 := hc 3 _ rfl
  simp only [Nat.add_zero] at c0
  have hrw := hown.2 id hid
  have hw := wrap_id (x := (i : Int) + 1) (by omega) (by omega)
  have q1 := cnL_nn cnLn_nn d.book.lines
  simp only [cnDn] at hle
  have hx1 := wrap_id (x := K + 1) (by omega) (by omega)
  have hx2 := wrap_id (x := K + 1 + 1) (by omega) (by omega)
  have hx3 := wrap_id (x := K + 1 + 1 + 1) (by omega) (by omega)
  have m1 : MK [id] H1 (((H1.put id (o + i * 4) (iv K)).put id (o + i * 4 + 1) (.bool (decide ((K + 1).tmod 3 = 0)))).put id (o + i * 4 + 2) (iv (K + 1 + 1))) := ((MK.put _ _ (by simp) rfl).trans (putb _ _ _ _ (by simp))).trans (MK.put _ _ (by simp) rfl)
  have n1 : ∀ e, e ∈ Ek → e ∉ [id] := fun e he hh => hne (by simp at hh; rw [← hh]; exact he)
  have w1 := hw1.fr RLn.frm fun e he _ => m1.out e (n1 e he)
  obtain ⟨H3, ac3, m3, r3⟩ := markLineS_ac (k := K + 1 + 1 + 1) w1 (hownk.mk m1) (by omega) (by omega)
  have d3 := fun j => m3.cellEq hne j
  have hD : ∀ d, d ∈ Ek → d ∈ E := hsub
  have hD1 : wrL H.length E Ek := fun d hd => .inr (hD d hd)
  repeat (first | refine sA ?_ | refine sB ?_ | refine sC ?_ | refine sD ?_ | refine sE rfl ?_ | refine sF rfl ?_ | refine sG rfl ?_ | (refine sk_reg fun K hK => ?_; simp [hlt, hv, hid, hrw, c0, c1, c2, c3, hw, hx1, hx2, hx3, d3, hD1, intA_rem3]; (repeat ((first | refine AskX.go (ac3) ?_); simp [hlt, hv, hid, hrw, c0, c1, c2, c3, hw, hx1, hx2, hx3, d3, hD1, intA_rem3])); refine hK _ ?_; clear hK K))
  refine sk_inv ⟨xs.length - (i + 1), _, by omega, ?_, ⟨i + 1, by omega, rfl, ?_, ?_, rfl⟩⟩
  · rw [cnL_succ hlt, ← Int.add_assoc, hK, hl]
    simp [subL, getT, hv, cnDn]; omega
  · exact ((hmk.trans (m1.sub (by simpa using hid))).trans (m3.sub hD))
  · rw [← hset]
    refine hcl _ (mkDn d K) [iv K, .bool (decide ((K + 1).tmod 3 = 0)), iv (K + 1 + 1), v1] rfl ⟨_, rfl, v1, rfl, r3⟩ ?_ ?_
    · intro e he hn1 hn2
      rw [m3.out e hn2, m1.out e (by simpa using hn1)]
    · intro a z b hb' hbc ha'
      rw [m3.out id hne, get_put, get_put, get_put, hb']
      simp only [Option.map_some, hbc, ← ha']
      simp
def B68 : SC := .seq (.reg [⟨some 4, .assign (.const (.int .i64 0)), none, []⟩]) (.seq (.seq (.reg [⟨some 5, .assign (.const (.int .i64 0)), none, []⟩]) (.block 0 (.loop (.seq (.seq (.reg [⟨some 6, .move (.tmp 5), none, []⟩, ⟨some 7, .move (.tmp 0), none, []⟩, ⟨some 8, .call { callee := (.builtin .len), args := #[(.tmp 7)], argTypes := #[34] }, none, []⟩, ⟨some 9, .binOp .lss 3 (.tmp 6) (.tmp 8) 3, none, []⟩]) (.cond (.tmp 9) .skip (.exit 0))) (.seq (.block 1 (.seq (.seq (.reg [⟨some 12, .move (.tmp 0), none, []⟩, ⟨some 13, .move (.tmp 5), none, []⟩, ⟨some 14, .indexAddr 34 (.tmp 12) (.tmp 13), none, []⟩, ⟨some 15, .fieldAddr 39 (.tmp 14) 0, none, []⟩, ⟨some 16, .load 3 (.tmp 15), none, []⟩, ⟨some 17, .move (.tmp 1), none, []⟩, ⟨some 18, .binOp .neq 3 (.tmp 16) (.tmp 17) 3, none, []⟩]) (.cond (.tmp 18) (.seq (.reg [⟨some 4, .assign (.const (.int .i64 (-1))), none, []⟩]) .ret) .skip)) (.seq (.reg [⟨some 19, .move (.tmp 1), none, []⟩, ⟨some 20, .binOp .add 3 (.tmp 19) (.const (.int .i64 1)) 3, none, []⟩, ⟨some 1, .assign (.tmp 20), none, []⟩]) (.seq (.seq (.reg [⟨some 21, .move (.tmp 0), none, []⟩, ⟨some 22, .move (.tmp 5), none, []⟩, ⟨some 23, .indexAddr 34 (.tmp 21) (.tmp 22), none, []⟩, ⟨some 24, .fieldAddr 39 (.tmp 23) 1, none, []⟩, ⟨some 25, .fieldAddr 25 (.tmp 24) 0, none, []⟩, ⟨some 26, .load 4 (.tmp 25), none, []⟩, ⟨some 27, .move (.tmp 1), none, []⟩, ⟨some 28, .binOp .rem 3 (.tmp 27) (.const (.int .i64 3)) 3, none, []⟩, ⟨some 29, .binOp .eql 3 (.tmp 28) (.const (.int .i64 0)) 3, none, []⟩, ⟨some 30, .binOp .neq 4 (.tmp 26) (.tmp 29) 4, none, []⟩]) (.cond (.tmp 30) (.seq (.reg [⟨some 4, .assign (.const (.int .i64 (-1))), none, []⟩]) .ret) .skip)) (.seq (.reg [⟨some 31, .move (.tmp 1), none, []⟩, ⟨some 32, .binOp .add 3 (.tmp 31) (.const (.int .i64 1)) 3, none, []⟩, ⟨some 1, .assign (.tmp 32), none, []⟩]) (.seq (.seq (.reg [⟨some 33, .move (.tmp 0), none, []⟩, ⟨some 34, .move (.tmp 5), none, []⟩, ⟨some 35, .indexAddr 34 (.tmp 33) (.tmp 34), none, []⟩, ⟨some 36, .fieldAddr 39 (.tmp 35) 1, none, []⟩, ⟨some 37, .fieldAddr 25 (.tmp 36) 1, none, []⟩, ⟨some 38, .load 3 (.tmp 37), none, []⟩, ⟨some 39, .move (.tmp 1), none, []⟩, ⟨some 40, .binOp .neq 3 (.tmp 38) (.tmp 39) 3, none, []⟩]) (.cond (.tmp 40) (.seq (.reg [⟨some 4, .assign (.const (.int .i64 (-1))), none, []⟩]) .ret) .skip)) (.seq (.reg [⟨some 41, .move (.tmp 1), none, []⟩, ⟨some 42, .binOp .add 3 (.tmp 41) (.const (.int .i64 1)) 3, none, []⟩, ⟨some 1, .assign (.tmp 42), none, []⟩]) (.seq (.reg [⟨some 43, .move (.tmp 0), none, []⟩, ⟨some 44, .move (.tmp 5), none, []⟩, ⟨some 45, .indexAddr 34 (.tmp 43) (.tmp 44), none, []⟩, ⟨some 46, .fieldAddr 39 (.tmp 45) 1, none, []⟩, ⟨some 47, .fieldAddr 25 (.tmp 46) 2, none, []⟩, ⟨some 48, .load 23 (.tmp 47), none, []⟩, ⟨some 49, .move (.tmp 1), none, []⟩, ⟨some 50, .call { callee := (.value (.func 87)), args := #[(.tmp 48), (.tmp 49)], argTypes := #[23, 3] }, none, []⟩, ⟨some 1, .assign (.tmp 50), none, []⟩]) (.seq (.reg [⟨some 51, .move (.tmp 1), none, []⟩, ⟨some 52, .binOp .lss 3 (.tmp 51) (.const (.int .i64 0)) 3, none, []⟩]) (.cond (.tmp 52) (.seq (.reg [⟨some 4, .assign (.const (.int .i64 (-1))), none, []⟩]) .ret) .skip)))))))))) (.reg [⟨some 10, .move (.tmp 5), none, []⟩, ⟨some 11, .binOp .add 3 (.tmp 10) (.const (.int .i64 1)) 3, none, []⟩, ⟨some 5, .assign (.tmp 11), none, []⟩])))))) (.seq (.reg [⟨some 53, .move (.tmp 1), none, []⟩, ⟨some 4, .assign (.tmp 53), none, []⟩]) .ret))
theorem s68 : Try.f68.body.bind (stripC 54) = some B68 := by kernel_rfl
theorem heldDoneS_ac {H : Heap} {E : List Nat} {v : Value} {xs : List Dn} {k : Int} (h : RS 4 RDn H E v (mkL mkDn cnDn xs k)) (hk : 0 ≤ k) (hb : k + cnL cnDn xs ≤ 4611686018427387904) :
    AC Try.prog 68 [v, iv k] H (iv (k + cnL cnDn xs)) H [] := by
  obtain ⟨a1, c1, ha⟩ := h.form
  have hn := h.1
  rw [mkL_len] at ha hn
  refine AC.of_pureS (N := 54) Try.func68 s68 (by kernel_rfl) rfl rfl (by simp) rfl ?_; unfold B68
  rw [ha]
  repeat (first | refine sA ?_ | refine sB ?_ | refine sC ?_ | refine sD ?_ | refine sE rfl ?_ | refine sF rfl ?_ | refine sG rfl ?_ | (refine sk_reg fun K hK => ?_; simp; refine hK _ ?_; clear hK K))
  rw [← ha]
  refine sk_loop (fun m ts H' => ∃ (i : Nat) (J : Heap), i ≤ xs.length ∧ m = xs.length - i ∧ H' = H ++ J ∧ ts = [(0, v), (1, iv (k + cnL cnDn (xs.take i))), (5, iv i)]) xs.length _ ?_ ⟨0, [], by omega, rfl, by simp, rfl⟩ ?_
  · simp [subL, getT, ha, cnL]
  rintro m ts H1 ⟨i, J, hi, rfl, rfl, rfl⟩
  by_cases hlt : i < xs.length
  case neg =>
    have hk2 : i = xs.length := by omega
    subst hk2
    repeat (first | refine sA ?_ | refine sB ?_ | refine sC ?_ | refine sD ?_ | refine sE rfl ?_ | refine sF rfl ?_ | refine sG rfl ?_ | (refine sk_reg fun K hK => ?_; simp [hlt, ha]; refine hK _ ?_; clear hK K))
    refine sk_ret ?_; simp
  have hle := cnL_le (c := cnDn) (xs := xs) cnDn_nn (i + 1)
  have hle0 := cnL_nn (c := cnDn) cnDn_nn (xs.take i)
  rw [cnL_succ hlt] at hle
  obtain ⟨id, o, Ek, cs, hv, hid, _, _, hR, hsz, hc⟩ := h.at (k := i) (by rw [mkL_len]; exact hlt)
  rw [mkL_len] at hv
  rw [mkL_get hlt] at hR
  generalize hK : k + cnL cnDn (xs.take i) = K at hR ⊢
  generalize hl : xs[i] = d at hR hle
  obtain ⟨_, rfl, v1, rfl, hw1⟩ := hR
  have c0 := hc 0 _ rfl
  have c1 := hc 1 _ rfl
  have c2 := hc 2 _ rfl
  have c3 := hc 3 _ rfl
  simp only [Nat.add_zero, mkDn] at c0 c1 c2 c3 hw1
  have hw := wrap_id (x := (i : Int) + 1) (by omega) (by omega)
  have q1 := cnL_nn cnLn_nn d.book.lines
  simp only [cnDn] at hle
  have hx1 := wrap_id (x := K + 1) (by omega) (by omega)
  have hx2 := wrap_id (x := K + 1 + 1) (by omega) (by omega)
  have hx3 := wrap_id (x := K + 1 + 1 + 1) (by omega) (by omega)
  have p1 : ¬ (K + 1 + 1 + 1 + cnL cnLn d.book.lines < 0) := by omega
  repeat (first | refine sA ?_ | refine sB ?_ | refine sC ?_ | refine sD ?_ | refine sE rfl ?_ | refine sF rfl ?_ | refine sG rfl ?_ | (refine sk_reg fun K hK => ?_; simp [hlt, hv, c0, c1, c2, c3, hw, hx1, hx2, hx3, p1, intA_rem3]; (repeat ((first | refine AskX.go (heldLineS_ac (hw1.ext RLn.frm) (by omega) (by omega)) ?_); simp [hlt, hv, c0, c1, c2, c3, hw, hx1, hx2, hx3, p1, intA_rem3])); refine hK _ ?_; clear hK K))
  refine sk_inv ⟨xs.length - (i + 1), _, by omega, ?_, ⟨i + 1, J, by omega, rfl, rfl, rfl⟩⟩
  rw [cnL_succ hlt, ← Int.add_assoc, hK, hl]
  simp [subL, getT, hv, cnDn]; omega
end Go.Proofs.Ytpoedfmkiiijnaa
