/- The mark and held functions over what drives answer. Walks. -/
import Derived.Test.YtpoedfmkiiijnaaMkD
namespace Go.Proofs.Ytpoedfmkiiijnaa
open Go Go.RowKit Go.Proofs.YtpoedfmkiiijnaaAm
set_option linter.unusedVariables false
set_option linter.unusedSimpArgs false
set_option maxRecDepth 10000
set_option maxHeartbeats 8000000
def B81 : SC := .seq (.reg [⟨some 4, .assign (.const (.int .i64 0)), none, []⟩]) (.seq (.seq (.reg [⟨some 5, .assign (.const (.int .i64 0)), none, []⟩]) (.block 0 (.loop (.seq (.seq (.reg [⟨some 6, .move (.tmp 5), none, []⟩, ⟨some 7, .move (.tmp 0), none, []⟩, ⟨some 8, .call { callee := (.builtin .len), args := #[(.tmp 7)], argTypes := #[105] }, none, []⟩, ⟨some 9, .binOp .lss 3 (.tmp 6) (.tmp 8) 3, none, []⟩]) (.cond (.tmp 9) .skip (.exit 0))) (.seq (.block 1 (.seq (.reg [⟨some 12, .move (.tmp 0), none, []⟩, ⟨some 13, .move (.tmp 5), none, []⟩, ⟨some 14, .move (.tmp 1), none, []⟩, ⟨some 15, .indexAddr 105 (.tmp 12) (.tmp 13), none, []⟩, ⟨some 16, .fieldAddr 67 (.tmp 15) 0, none, []⟩, ⟨none, .store 3 (.tmp 16) (.tmp 14), none, []⟩]) (.seq (.reg [⟨some 17, .move (.tmp 1), none, []⟩, ⟨some 18, .binOp .add 3 (.tmp 17) (.const (.int .i64 1)) 3, none, []⟩, ⟨some 1, .assign (.tmp 18), none, []⟩]) (.seq (.reg [⟨some 19, .move (.tmp 0), none, []⟩, ⟨some 20, .move (.tmp 5), none, []⟩, ⟨some 21, .move (.tmp 1), none, []⟩, ⟨some 22, .binOp .rem 3 (.tmp 21) (.const (.int .i64 3)) 3, none, []⟩, ⟨some 23, .binOp .eql 3 (.tmp 22) (.const (.int .i64 0)) 3, none, []⟩, ⟨some 24, .indexAddr 105 (.tmp 19) (.tmp 20), none, []⟩, ⟨some 25, .fieldAddr 67 (.tmp 24) 1, none, []⟩, ⟨some 26, .fieldAddr 64 (.tmp 25) 0, none, []⟩, ⟨none, .store 4 (.tmp 26) (.tmp 23), none, []⟩]) (.seq (.reg [⟨some 27, .move (.tmp 1), none, []⟩, ⟨some 28, .binOp .add 3 (.tmp 27) (.const (.int .i64 1)) 3, none, []⟩, ⟨some 1, .assign (.tmp 28), none, []⟩]) (.seq (.reg [⟨some 29, .move (.tmp 0), none, []⟩, ⟨some 30, .move (.tmp 5), none, []⟩, ⟨some 31, .move (.tmp 1), none, []⟩, ⟨some 32, .binOp .rem 3 (.tmp 31) (.const (.int .i64 3)) 3, none, []⟩, ⟨some 33, .binOp .eql 3 (.tmp 32) (.const (.int .i64 0)) 3, none, []⟩, ⟨some 34, .indexAddr 105 (.tmp 29) (.tmp 30), none, []⟩, ⟨some 35, .fieldAddr 67 (.tmp 34) 1, none, []⟩, ⟨some 36, .fieldAddr 64 (.tmp 35) 1, none, []⟩, ⟨some 37, .fieldAddr 25 (.tmp 36) 0, none, []⟩, ⟨none, .store 4 (.tmp 37) (.tmp 33), none, []⟩]) (.seq (.reg [⟨some 38, .move (.tmp 1), none, []⟩, ⟨some 39, .binOp .add 3 (.tmp 38) (.const (.int .i64 1)) 3, none, []⟩, ⟨some 1, .assign (.tmp 39), none, []⟩]) (.seq (.reg [⟨some 40, .move (.tmp 0), none, []⟩, ⟨some 41, .move (.tmp 5), none, []⟩, ⟨some 42, .move (.tmp 1), none, []⟩, ⟨some 43, .indexAddr 105 (.tmp 40) (.tmp 41), none, []⟩, ⟨some 44, .fieldAddr 67 (.tmp 43) 1, none, []⟩, ⟨some 45, .fieldAddr 64 (.tmp 44) 1, none, []⟩, ⟨some 46, .fieldAddr 25 (.tmp 45) 1, none, []⟩, ⟨none, .store 3 (.tmp 46) (.tmp 42), none, []⟩]) (.seq (.reg [⟨some 47, .move (.tmp 1), none, []⟩, ⟨some 48, .binOp .add 3 (.tmp 47) (.const (.int .i64 1)) 3, none, []⟩, ⟨some 1, .assign (.tmp 48), none, []⟩]) (.seq (.reg [⟨some 49, .move (.tmp 0), none, []⟩, ⟨some 50, .move (.tmp 5), none, []⟩, ⟨some 51, .indexAddr 105 (.tmp 49) (.tmp 50), none, []⟩, ⟨some 52, .fieldAddr 67 (.tmp 51) 1, none, []⟩, ⟨some 53, .fieldAddr 64 (.tmp 52) 1, none, []⟩, ⟨some 54, .fieldAddr 25 (.tmp 53) 2, none, []⟩, ⟨some 55, .load 23 (.tmp 54), none, []⟩, ⟨some 56, .move (.tmp 1), none, []⟩, ⟨some 57, .call { callee := (.value (.func 86)), args := #[(.tmp 55), (.tmp 56)], argTypes := #[23, 3] }, none, []⟩, ⟨some 1, .assign (.tmp 57), none, []⟩]) (.reg [⟨some 58, .move (.tmp 0), none, []⟩, ⟨some 59, .move (.tmp 5), none, []⟩, ⟨some 60, .indexAddr 105 (.tmp 58) (.tmp 59), none, []⟩, ⟨some 61, .fieldAddr 67 (.tmp 60) 1, none, []⟩, ⟨some 62, .fieldAddr 64 (.tmp 61) 2, none, []⟩, ⟨some 63, .load 62 (.tmp 62), none, []⟩, ⟨some 64, .move (.tmp 1), none, []⟩, ⟨some 65, .call { callee := (.value (.func 107)), args := #[(.tmp 63), (.tmp 64)], argTypes := #[62, 3] }, none, []⟩, ⟨some 1, .assign (.tmp 65), none, []⟩]))))))))))) (.reg [⟨some 10, .move (.tmp 5), none, []⟩, ⟨some 11, .binOp .add 3 (.tmp 10) (.const (.int .i64 1)) 3, none, []⟩, ⟨some 5, .assign (.tmp 11), none, []⟩])))))) (.seq (.reg [⟨some 66, .move (.tmp 1), none, []⟩, ⟨some 4, .assign (.tmp 66), none, []⟩]) .ret))
theorem s81 : Try.f81.body.bind (stripC 67) = some B81 := by kernel_rfl
theorem markMovedS_ac {H : Heap} {E : List Nat} {v : Value} {xs : List Mv} {k : Int} (h : RS 6 RMv H E v xs) (ho : Own H E) (hk : 0 ≤ k) (hb : k + cnL cnMv xs ≤ 4611686018427387904) :
    ∃ H', AC Try.prog 81 [v, iv k] H (iv (k + cnL cnMv xs)) H' E ∧ MK E H H' ∧ RS 6 RMv H' E v (mkL mkMv cnMv xs k) := by
  obtain ⟨a1, c1, ha⟩ := h.form
  have hn := h.1
  refine AC.of_markS (N := 67) Try.func81 s81 (by kernel_rfl) rfl rfl (by simp) rfl ?_; unfold B81
  rw [ha]
  repeat (first | refine sA ?_ | refine sB ?_ | refine sC ?_ | refine sD ?_ | refine sE rfl ?_ | refine sF rfl ?_ | refine sG rfl ?_ | (refine sk_reg fun K hK => ?_; simp; refine hK _ ?_; clear hK K))
  rw [← ha]
  refine sk_loop (fun m ts H' => ∃ (i : Nat), i ≤ xs.length ∧ m = xs.length - i ∧ MK E H H' ∧ RS 6 RMv H' E v (mkAt mkMv cnMv xs i k) ∧ ts = [(0, v), (1, iv (k + cnL cnMv (xs.take i))), (5, iv i)]) xs.length _ ?_ ⟨0, by omega, rfl, MK.refl _ _, by rw [mkAt_zero]; exact h, rfl⟩ ?_
  · simp [subL, getT, ha, cnL]
  rintro m ts H1 ⟨i, hi, rfl, hmk, hr, rfl⟩
  by_cases hlt : i < xs.length
  case neg =>
    have hk2 : i = xs.length := by omega
    subst hk2
    rw [mkAt_all] at hr
    repeat (first | refine sA ?_ | refine sB ?_ | refine sC ?_ | refine sD ?_ | refine sE rfl ?_ | refine sF rfl ?_ | refine sG rfl ?_ | (refine sk_reg fun K hK => ?_; simp [hlt, ha]; refine hK _ ?_; clear hK K))
    refine sk_ret ?_; simp
    exact ⟨H1, ⟨[], by simp⟩, hmk, hr⟩
  have hle := cnL_le (c := cnMv) (xs := xs) cnMv_nn (i + 1)
  have hle0 := cnL_nn (c := cnMv) cnMv_nn (xs.take i)
  rw [cnL_succ hlt] at hle
  have hset := mkAt_set (f := mkMv) (c := cnMv) (k := k) hlt
  have hown := ho.mk hmk
  obtain ⟨id, o, Ek, ck, hv, hid, hne, hsub, hndk, hR, hsz, hc, hcl⟩ := hr.opn RMv.frm ho.1 (k := i) (by rw [mkAt_len]; exact hlt)
  rw [mkAt_get hlt] at hR
  rw [mkAt_len] at hv
  generalize hK : k + cnL cnMv (xs.take i) = K at hset ⊢
  generalize hl : xs[i] = d at hset hR hle
  obtain ⟨_, rfl, E1, E2, _, v2, rfl, rfl, ⟨v1, rfl, hw1⟩, hw2⟩ := hR
  have hownk : Own H1 (E1 ++ E2) := ⟨hndk, fun e he => hown.2 e (hsub e he)⟩
  have hap := hownk.apart
  have hne1 : id ∉ E1 := fun he => hne (List.mem_append_left _ he)
  have hne2 : id ∉ E2 := fun he => hne (List.mem_append_right _ he)
  have c0 := hc 0 _ rfl
  have c1 := hc 1 _ rfl
  have c2 := hc 2 _ rfl
  have c3 := hc 3 _ rfl
  have c4 := hc 4 _ rfl
  have c5 := hc 5 _ rfl
  simp only [Nat.add_zero] at c0
  have hrw := hown.2 id hid
  have hw := wrap_id (x := (i : Int) + 1) (by omega) (by omega)
  have q1 := cnL_nn cnLn_nn d.world.book.lines
  have q2 := cnL_nn cnBd_nn d.world.bodies
  simp only [cnMv] at hle
  have hx1 := wrap_id (x := K + 1) (by omega) (by omega)
  have hx2 := wrap_id (x := K + 1 + 1) (by omega) (by omega)
  have hx3 := wrap_id (x := K + 1 + 1 + 1) (by omega) (by omega)
  have hx4 := wrap_id (x := K + 1 + 1 + 1 + 1) (by omega) (by omega)
  have m1 : MK [id] H1 ((((H1.put id (o + i * 6) (iv K)).put id (o + i * 6 + 1) (.bool (decide ((K + 1).tmod 3 = 0)))).put id (o + i * 6 + 2) (.bool (decide ((K + 1 + 1).tmod 3 = 0)))).put id (o + i * 6 + 3) (iv (K + 1 + 1 + 1))) := (((MK.put _ _ (by simp) rfl).trans (putb _ _ _ _ (by simp))).trans (putb _ _ _ _ (by simp))).trans (MK.put _ _ (by simp) rfl)
  have n1 : ∀ e, e ∈ E1 ++ E2 → e ∉ [id] := fun e he hh => hne (by simp at hh; rw [← hh]; exact he)
  have w1 := hw1.fr RLn.frm fun e he _ => m1.out e (n1 e (List.mem_append_left _ he))
  have w2 := hw2.fr (RP.frm _) fun e he _ => m1.out e (n1 e (List.mem_append_right _ he))
  obtain ⟨H3, ac3, m3, r3⟩ := markLineS_ac (k := K + 1 + 1 + 1 + 1) w1 (hownk.left.mk m1) (by omega) (by omega)
  obtain ⟨H4, ac4, m4, r4⟩ := markBodyS_ac (k := K + 1 + 1 + 1 + 1 + cnL cnLn d.world.book.lines) (w2.fr (RP.frm _) fun e he _ => m3.out e fun hh => hap e hh he) ((hownk.right.mk m1).mk m3) (by omega) (by omega)
  have d3 := fun j => m3.cellEq hne1 j
  have d4 := fun j => m4.cellEq hne2 j
  have hD : ∀ d, (d ∈ E1 ∨ d ∈ E2) → d ∈ E := fun d hd => hsub d (by simpa using hd)
  have hD1 : wrL H.length E E1 := fun d hd => .inr (hD d (.inl hd))
  have hD2 : wrL H.length E E2 := fun d hd => .inr (hD d (.inr hd))
  repeat (first | refine sA ?_ | refine sB ?_ | refine sC ?_ | refine sD ?_ | refine sE rfl ?_ | refine sF rfl ?_ | refine sG rfl ?_ | (refine sk_reg fun K hK => ?_; simp [hlt, hv, hid, hrw, c0, c1, c2, c3, c4, c5, hw, hx1, hx2, hx3, hx4, d3, d4, hD1, hD2, intA_rem3]; (repeat ((first | refine AskX.go (ac3) ?_ | refine AskX.go (ac4) ?_); simp [hlt, hv, hid, hrw, c0, c1, c2, c3, c4, c5, hw, hx1, hx2, hx3, hx4, d3, d4, hD1, hD2, intA_rem3])); refine hK _ ?_; clear hK K))
  refine sk_inv ⟨xs.length - (i + 1), _, by omega, ?_, ⟨i + 1, by omega, rfl, ?_, ?_, rfl⟩⟩
  · rw [cnL_succ hlt, ← Int.add_assoc, hK, hl]
    simp [subL, getT, hv, cnMv]; omega
  · exact (((hmk.trans (m1.sub (by simpa using hid))).trans (m3.sub fun e he => hD e (.inl he))).trans (m4.sub fun e he => hD e (.inr he)))
  · rw [← hset]
    refine hcl _ (mkMv d K) [iv K, .bool (decide ((K + 1).tmod 3 = 0)), .bool (decide ((K + 1 + 1).tmod 3 = 0)), iv (K + 1 + 1 + 1), v1, v2] rfl ⟨_, rfl, E1, E2, _, v2, rfl, rfl, ⟨v1, rfl, r3.fr RLn.frm fun e he _ => m4.out e (hap e he)⟩, r4⟩ ?_ ?_
    · intro e he hn1 hn2
      rw [m4.out e fun hh => hn2 (List.mem_append_right _ hh), m3.out e fun hh => hn2 (List.mem_append_left _ hh), m1.out e (by simpa using hn1)]
    · intro a z b hb' hbc ha'
      rw [m4.out id hne2, m3.out id hne1, get_put, get_put, get_put, get_put, hb']
      simp only [Option.map_some, hbc, ← ha']
      simp
def B82 : SC := .seq (.reg [⟨some 4, .assign (.const (.int .i64 0)), none, []⟩]) (.seq (.seq (.reg [⟨some 5, .assign (.const (.int .i64 0)), none, []⟩]) (.block 0 (.loop (.seq (.seq (.reg [⟨some 6, .move (.tmp 5), none, []⟩, ⟨some 7, .move (.tmp 0), none, []⟩, ⟨some 8, .call { callee := (.builtin .len), args := #[(.tmp 7)], argTypes := #[105] }, none, []⟩, ⟨some 9, .binOp .lss 3 (.tmp 6) (.tmp 8) 3, none, []⟩]) (.cond (.tmp 9) .skip (.exit 0))) (.seq (.block 1 (.seq (.seq (.reg [⟨some 12, .move (.tmp 0), none, []⟩, ⟨some 13, .move (.tmp 5), none, []⟩, ⟨some 14, .indexAddr 105 (.tmp 12) (.tmp 13), none, []⟩, ⟨some 15, .fieldAddr 67 (.tmp 14) 0, none, []⟩, ⟨some 16, .load 3 (.tmp 15), none, []⟩, ⟨some 17, .move (.tmp 1), none, []⟩, ⟨some 18, .binOp .neq 3 (.tmp 16) (.tmp 17) 3, none, []⟩]) (.cond (.tmp 18) (.seq (.reg [⟨some 4, .assign (.const (.int .i64 (-1))), none, []⟩]) .ret) .skip)) (.seq (.reg [⟨some 19, .move (.tmp 1), none, []⟩, ⟨some 20, .binOp .add 3 (.tmp 19) (.const (.int .i64 1)) 3, none, []⟩, ⟨some 1, .assign (.tmp 20), none, []⟩]) (.seq (.seq (.reg [⟨some 21, .move (.tmp 0), none, []⟩, ⟨some 22, .move (.tmp 5), none, []⟩, ⟨some 23, .indexAddr 105 (.tmp 21) (.tmp 22), none, []⟩, ⟨some 24, .fieldAddr 67 (.tmp 23) 1, none, []⟩, ⟨some 25, .fieldAddr 64 (.tmp 24) 0, none, []⟩, ⟨some 26, .load 4 (.tmp 25), none, []⟩, ⟨some 27, .move (.tmp 1), none, []⟩, ⟨some 28, .binOp .rem 3 (.tmp 27) (.const (.int .i64 3)) 3, none, []⟩, ⟨some 29, .binOp .eql 3 (.tmp 28) (.const (.int .i64 0)) 3, none, []⟩, ⟨some 30, .binOp .neq 4 (.tmp 26) (.tmp 29) 4, none, []⟩]) (.cond (.tmp 30) (.seq (.reg [⟨some 4, .assign (.const (.int .i64 (-1))), none, []⟩]) .ret) .skip)) (.seq (.reg [⟨some 31, .move (.tmp 1), none, []⟩, ⟨some 32, .binOp .add 3 (.tmp 31) (.const (.int .i64 1)) 3, none, []⟩, ⟨some 1, .assign (.tmp 32), none, []⟩]) (.seq (.seq (.reg [⟨some 33, .move (.tmp 0), none, []⟩, ⟨some 34, .move (.tmp 5), none, []⟩, ⟨some 35, .indexAddr 105 (.tmp 33) (.tmp 34), none, []⟩, ⟨some 36, .fieldAddr 67 (.tmp 35) 1, none, []⟩, ⟨some 37, .fieldAddr 64 (.tmp 36) 1, none, []⟩, ⟨some 38, .fieldAddr 25 (.tmp 37) 0, none, []⟩, ⟨some 39, .load 4 (.tmp 38), none, []⟩, ⟨some 40, .move (.tmp 1), none, []⟩, ⟨some 41, .binOp .rem 3 (.tmp 40) (.const (.int .i64 3)) 3, none, []⟩, ⟨some 42, .binOp .eql 3 (.tmp 41) (.const (.int .i64 0)) 3, none, []⟩, ⟨some 43, .binOp .neq 4 (.tmp 39) (.tmp 42) 4, none, []⟩]) (.cond (.tmp 43) (.seq (.reg [⟨some 4, .assign (.const (.int .i64 (-1))), none, []⟩]) .ret) .skip)) (.seq (.reg [⟨some 44, .move (.tmp 1), none, []⟩, ⟨some 45, .binOp .add 3 (.tmp 44) (.const (.int .i64 1)) 3, none, []⟩, ⟨some 1, .assign (.tmp 45), none, []⟩]) (.seq (.seq (.reg [⟨some 46, .move (.tmp 0), none, []⟩, ⟨some 47, .move (.tmp 5), none, []⟩, ⟨some 48, .indexAddr 105 (.tmp 46) (.tmp 47), none, []⟩, ⟨some 49, .fieldAddr 67 (.tmp 48) 1, none, []⟩, ⟨some 50, .fieldAddr 64 (.tmp 49) 1, none, []⟩, ⟨some 51, .fieldAddr 25 (.tmp 50) 1, none, []⟩, ⟨some 52, .load 3 (.tmp 51), none, []⟩, ⟨some 53, .move (.tmp 1), none, []⟩, ⟨some 54, .binOp .neq 3 (.tmp 52) (.tmp 53) 3, none, []⟩]) (.cond (.tmp 54) (.seq (.reg [⟨some 4, .assign (.const (.int .i64 (-1))), none, []⟩]) .ret) .skip)) (.seq (.reg [⟨some 55, .move (.tmp 1), none, []⟩, ⟨some 56, .binOp .add 3 (.tmp 55) (.const (.int .i64 1)) 3, none, []⟩, ⟨some 1, .assign (.tmp 56), none, []⟩]) (.seq (.reg [⟨some 57, .move (.tmp 0), none, []⟩, ⟨some 58, .move (.tmp 5), none, []⟩, ⟨some 59, .indexAddr 105 (.tmp 57) (.tmp 58), none, []⟩, ⟨some 60, .fieldAddr 67 (.tmp 59) 1, none, []⟩, ⟨some 61, .fieldAddr 64 (.tmp 60) 1, none, []⟩, ⟨some 62, .fieldAddr 25 (.tmp 61) 2, none, []⟩, ⟨some 63, .load 23 (.tmp 62), none, []⟩, ⟨some 64, .move (.tmp 1), none, []⟩, ⟨some 65, .call { callee := (.value (.func 87)), args := #[(.tmp 63), (.tmp 64)], argTypes := #[23, 3] }, none, []⟩, ⟨some 1, .assign (.tmp 65), none, []⟩]) (.seq (.seq (.reg [⟨some 66, .move (.tmp 1), none, []⟩, ⟨some 67, .binOp .lss 3 (.tmp 66) (.const (.int .i64 0)) 3, none, []⟩]) (.cond (.tmp 67) (.seq (.reg [⟨some 4, .assign (.const (.int .i64 (-1))), none, []⟩]) .ret) .skip)) (.seq (.reg [⟨some 68, .move (.tmp 0), none, []⟩, ⟨some 69, .move (.tmp 5), none, []⟩, ⟨some 70, .indexAddr 105 (.tmp 68) (.tmp 69), none, []⟩, ⟨some 71, .fieldAddr 67 (.tmp 70) 1, none, []⟩, ⟨some 72, .fieldAddr 64 (.tmp 71) 2, none, []⟩, ⟨some 73, .load 62 (.tmp 72), none, []⟩, ⟨some 74, .move (.tmp 1), none, []⟩, ⟨some 75, .call { callee := (.value (.func 108)), args := #[(.tmp 73), (.tmp 74)], argTypes := #[62, 3] }, none, []⟩, ⟨some 1, .assign (.tmp 75), none, []⟩]) (.seq (.reg [⟨some 76, .move (.tmp 1), none, []⟩, ⟨some 77, .binOp .lss 3 (.tmp 76) (.const (.int .i64 0)) 3, none, []⟩]) (.cond (.tmp 77) (.seq (.reg [⟨some 4, .assign (.const (.int .i64 (-1))), none, []⟩]) .ret) .skip)))))))))))))) (.reg [⟨some 10, .move (.tmp 5), none, []⟩, ⟨some 11, .binOp .add 3 (.tmp 10) (.const (.int .i64 1)) 3, none, []⟩, ⟨some 5, .assign (.tmp 11), none, []⟩])))))) (.seq (.reg [⟨some 78, .move (.tmp 1), none, []⟩, ⟨some 4, .assign (.tmp 78), none, []⟩]) .ret))
theorem s82 : Try.f82.body.bind (stripC 79) = some B82 := by kernel_rfl
theorem heldMovedS_ac {H : Heap} {E : List Nat} {v : Value} {xs : List Mv} {k : Int} (h : RS 6 RMv H E v (mkL mkMv cnMv xs k)) (hk : 0 ≤ k) (hb : k + cnL cnMv xs ≤ 4611686018427387904) :
    AC Try.prog 82 [v, iv k] H (iv (k + cnL cnMv xs)) H [] := by
  obtain ⟨a1, c1, ha⟩ := h.form
  have hn := h.1
  rw [mkL_len] at ha hn
  refine AC.of_pureS (N := 79) Try.func82 s82 (by kernel_rfl) rfl rfl (by simp) rfl ?_; unfold B82
  rw [ha]
  repeat (first | refine sA ?_ | refine sB ?_ | refine sC ?_ | refine sD ?_ | refine sE rfl ?_ | refine sF rfl ?_ | refine sG rfl ?_ | (refine sk_reg fun K hK => ?_; simp; refine hK _ ?_; clear hK K))
  rw [← ha]
  refine sk_loop (fun m ts H' => ∃ (i : Nat) (J : Heap), i ≤ xs.length ∧ m = xs.length - i ∧ H' = H ++ J ∧ ts = [(0, v), (1, iv (k + cnL cnMv (xs.take i))), (5, iv i)]) xs.length _ ?_ ⟨0, [], by omega, rfl, by simp, rfl⟩ ?_
  · simp [subL, getT, ha, cnL]
  rintro m ts H1 ⟨i, J, hi, rfl, rfl, rfl⟩
  by_cases hlt : i < xs.length
  case neg =>
    have hk2 : i = xs.length := by omega
    subst hk2
    repeat (first | refine sA ?_ | refine sB ?_ | refine sC ?_ | refine sD ?_ | refine sE rfl ?_ | refine sF rfl ?_ | refine sG rfl ?_ | (refine sk_reg fun K hK => ?_; simp [hlt, ha]; refine hK _ ?_; clear hK K))
    refine sk_ret ?_; simp
  have hle := cnL_le (c := cnMv) (xs := xs) cnMv_nn (i + 1)
  have hle0 := cnL_nn (c := cnMv) cnMv_nn (xs.take i)
  rw [cnL_succ hlt] at hle
  obtain ⟨id, o, Ek, cs, hv, hid, _, _, hR, hsz, hc⟩ := h.at (k := i) (by rw [mkL_len]; exact hlt)
  rw [mkL_len] at hv
  rw [mkL_get hlt] at hR
  generalize hK : k + cnL cnMv (xs.take i) = K at hR ⊢
  generalize hl : xs[i] = d at hR hle
  obtain ⟨_, rfl, E1, E2, _, v2, rfl, rfl, ⟨v1, rfl, hw1⟩, hw2⟩ := hR
  have c0 := hc 0 _ rfl
  have c1 := hc 1 _ rfl
  have c2 := hc 2 _ rfl
  have c3 := hc 3 _ rfl
  have c4 := hc 4 _ rfl
  have c5 := hc 5 _ rfl
  simp only [Nat.add_zero, mkMv] at c0 c1 c2 c3 c4 c5 hw1 hw2
  have hw := wrap_id (x := (i : Int) + 1) (by omega) (by omega)
  have q1 := cnL_nn cnLn_nn d.world.book.lines
  have q2 := cnL_nn cnBd_nn d.world.bodies
  simp only [cnMv] at hle
  have hx1 := wrap_id (x := K + 1) (by omega) (by omega)
  have hx2 := wrap_id (x := K + 1 + 1) (by omega) (by omega)
  have hx3 := wrap_id (x := K + 1 + 1 + 1) (by omega) (by omega)
  have hx4 := wrap_id (x := K + 1 + 1 + 1 + 1) (by omega) (by omega)
  have p1 : ¬ (K + 1 + 1 + 1 + 1 + cnL cnLn d.world.book.lines < 0) := by omega
  have p2 : ¬ (K + 1 + 1 + 1 + 1 + cnL cnLn d.world.book.lines + cnL cnBd d.world.bodies < 0) := by omega
  repeat (first | refine sA ?_ | refine sB ?_ | refine sC ?_ | refine sD ?_ | refine sE rfl ?_ | refine sF rfl ?_ | refine sG rfl ?_ | (refine sk_reg fun K hK => ?_; simp [hlt, hv, c0, c1, c2, c3, c4, c5, hw, hx1, hx2, hx3, hx4, p1, p2, intA_rem3]; (repeat ((first | refine AskX.go (heldLineS_ac (hw1.ext RLn.frm) (by omega) (by omega)) ?_ | refine AskX.go (heldBodyS_ac (hw2.ext (RP.frm _)) (by omega) (by omega)) ?_); simp [hlt, hv, c0, c1, c2, c3, c4, c5, hw, hx1, hx2, hx3, hx4, p1, p2, intA_rem3])); refine hK _ ?_; clear hK K))
  refine sk_inv ⟨xs.length - (i + 1), _, by omega, ?_, ⟨i + 1, J, by omega, rfl, rfl, rfl⟩⟩
  rw [cnL_succ hlt, ← Int.add_assoc, hK, hl]
  simp [subL, getT, hv, cnMv]; omega
end Go.Proofs.Ytpoedfmkiiijnaa
