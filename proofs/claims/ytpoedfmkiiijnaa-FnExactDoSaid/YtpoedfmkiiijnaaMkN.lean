/- The mark and held functions over nested data. Walks. -/
import Derived.Test.YtpoedfmkiiijnaaMkP
namespace Go.Proofs.Ytpoedfmkiiijnaa
open Go Go.RowKit Go.Proofs.YtpoedfmkiiijnaaAm
set_option linter.unusedVariables false
set_option linter.unusedSimpArgs false
set_option maxRecDepth 10000

theorem markLineS_ac {H : Heap} {E : List Nat} {v : Value} {xs : List Ln} {k : Int} (h : RS 4 RLn H E v xs) (ho : Own H E) (hk : 0 ≤ k) (hb : k + cnL cnLn xs ≤ 4611686018427387904) :
    ∃ H', AC Try.prog 86 [v, iv k] H (iv (k + cnL cnLn xs)) H' E ∧ MK E H H' ∧ RS 4 RLn H' E v (mkL mkLn cnLn xs k) := by
  obtain ⟨a1, c1, ha⟩ := h.form
  have hn := h.1
  refine AC.of_mark (N := 41) Try.func86 rfl (by kernel_rfl) rfl rfl (by simp) rfl ?_
  rw [ha]
  repeat (first | refine ak_seq ?_ | refine ak_block ?_ | refine ak_blk ?_ | refine ak_skip ?_ | refine ak_exit rfl ?_ | refine ak_cond_t rfl ?_ | refine ak_cond_f rfl ?_ | (refine ak_region fun K hK => ?_; simp [opsP, opP, pureOp, wantedA, putT, dstOk, evO, getT, evL, evP, enumT, plainV, binA, intA, sliceA, hiA, loA, evM, ldA, ldC, stA, newA, apA, destA, srcA, killO, buildA, fillA, setAll, cv_agg, cv_int, cv_bool, cv_slice, cv_ptr, allPlain, fnV, resA, resL, resOne, endR, cell_at, cell_at0, put_at, put_at0, rwOk_put, cell_put, wrL_nil, wrL_cons, wrO_none, wrO_some, rw_at, rw_at0, get_at, get_at0, kill_at, kill_at0, cell_c0, cell_cs, put_c0, put_cs, rw_c0, rw_cs, kill_c0, kill_cs, Heap.puts, wr, one_int, one_bool, one_slice, one_ptr, eqCells, offs11, offs12, offs13, offs14, offs21, offs22, offs23, offs24]; refine hK _ ?_; clear hK K))
  rw [← ha]
  refine ak_loopS (fun m ts H' => ∃ (i : Nat), i ≤ xs.length ∧ m = xs.length - i ∧ MK E H H' ∧ RS 4 RLn H' E v (mkAt mkLn cnLn xs i k) ∧ ts = [(0, v), (1, iv (k + cnL cnLn (xs.take i))), (5, iv i)]) xs.length _ ?_ ⟨0, by omega, rfl, MK.refl _ _, by rw [mkAt_zero]; exact h, rfl⟩ ?_
  · simp [subL, getT, ha, cnL]
  · rintro m ts H1 ⟨i, hi, rfl, hmk, hr, rfl⟩
    by_cases hlt : i < xs.length
    · have hle := cnL_le (c := cnLn) (xs := xs) cnLn_nn (i + 1)
      have hle0 := cnL_nn (c := cnLn) cnLn_nn (xs.take i)
      rw [cnL_succ hlt] at hle
      have hset := mkAt_set (f := mkLn) (c := cnLn) (k := k) hlt
      have hown := ho.mk hmk
      obtain ⟨id, o, Ek, ck, hv, hid, hne, hsub, hndk, hR, hsz, hc, hcl⟩ := hr.opn RLn.frm ho.1 (k := i) (by rw [mkAt_len]; exact hlt)
      rw [mkAt_get hlt] at hR
      rw [mkAt_len] at hv
      generalize hK : k + cnL cnLn (xs.take i) = K at hset ⊢
      generalize hl : xs[i] = l at hset hR hle
      obtain ⟨E1, E2, v1, v2, rfl, rfl, hw1, hw2⟩ := hR
      have hownk : Own H1 (E1 ++ E2) := ⟨hndk, fun e he => hown.2 e (hsub e he)⟩
      have hap := hownk.apart
      have hne1 : id ∉ E1 := fun he => hne (by simp [he])
      have hne2 : id ∉ E2 := fun he => hne (by simp [he])
      have g1 : ∀ e, e ∈ E1 → e ≠ id := fun e he hh => hne1 (by rw [← hh]; exact he)
      have g2 : ∀ e, e ∈ E2 → e ≠ id := fun e he hh => hne2 (by rw [← hh]; exact he)
      have c0 := hc 0 _ rfl
      have c1 := hc 1 _ rfl
      have c2 := hc 2 _ rfl
      have c3 := hc 3 _ rfl
      simp only [Nat.add_zero] at c0
      have hrw := hown.2 id hid
      have hw := wrap_id (x := (i : Int) + 1) (by omega) (by omega)
      have q1 := cnL_nn cnInt_nn l.way
      have q2 := cnL_nn cnGr_nn l.grs
      simp only [cnLn] at hle
      have hx1 := wrap_id (x := K + 1) (by omega) (by omega)
      have hx2 := wrap_id (x := K + 1 + cnL cnInt l.way + cnL cnGr l.grs + 1) (by omega) (by omega)
      have m1 : MK [id] H1 (H1.put id (o + i * 4) (iv K)) := MK.put _ _ (by simp) rfl
      have n1 : ∀ e, e ∈ E1 ++ E2 → e ∉ [id] := fun e he hh => hne (by simp at hh; rw [← hh]; exact he)
      have w1 : RS 1 RInt (H1.put id (o + i * 4) (iv K)) E1 v1 l.way := hw1.fr (RP.frm _) fun e he _ => m1.out e (n1 e (by simp [he]))
      have w2 : RS 2 RGr (H1.put id (o + i * 4) (iv K)) E2 v2 l.grs := hw2.fr (RP.frm _) fun e he _ => m1.out e (n1 e (by simp [he]))
      obtain ⟨H3, ac3, m3, r3⟩ := markIntS_ac (k := K + 1) w1 (hownk.left.mk m1) (by omega) (by omega)
      obtain ⟨H4, ac4, m4, r4⟩ := markGrantS_ac (k := K + 1 + cnL cnInt l.way) (w2.fr (RP.frm _) fun e he _ => m3.out e fun hh => hap e hh he) ((hownk.right.mk m1).mk m3) (by omega) (by omega)
      have d3 := fun j => m3.cellEq hne1 j
      have d4 := fun j => m4.cellEq hne2 j
      have rw3 : Heap.rwOk H3 id = true := by rw [m3.rw, m1.rw]; exact hrw
      have rw4 : Heap.rwOk H4 id = true := by rw [m4.rw]; exact rw3
      have hD : ∀ d, (d ∈ E1 ∨ d ∈ E2) → d ∈ E := fun d hd => hsub d (by simpa using hd)
      have hD1 : wrL H.length E E1 := fun d hd => .inr (hD d (.inl hd))
      have hD2 : wrL H.length E E2 := fun d hd => .inr (hD d (.inr hd))
      repeat (first | refine ak_seq ?_ | refine ak_block ?_ | refine ak_blk ?_ | refine ak_skip ?_ | refine ak_exit rfl ?_ | refine ak_cond_t rfl ?_ | refine ak_cond_f rfl ?_ | (refine ak_region fun K hK => ?_; simp [opsP, opP, pureOp, wantedA, putT, dstOk, evO, getT, evL, evP, enumT, plainV, binA, intA, sliceA, hiA, loA, evM, ldA, ldC, stA, newA, apA, destA, srcA, killO, buildA, fillA, setAll, cv_agg, cv_int, cv_bool, cv_slice, cv_ptr, allPlain, fnV, resA, resL, resOne, endR, cell_at, cell_at0, put_at, put_at0, rwOk_put, cell_put, wrL_nil, wrL_cons, wrO_none, wrO_some, rw_at, rw_at0, get_at, get_at0, kill_at, kill_at0, cell_c0, cell_cs, put_c0, put_cs, rw_c0, rw_cs, kill_c0, kill_cs, Heap.puts, wr, one_int, one_bool, one_slice, one_ptr, eqCells, offs11, offs12, offs13, offs14, offs21, offs22, offs23, offs24, hlt, hv, hid, hrw, c0, c1, c2, c3, hw, hx1, hx2, d3, d4, rw3, rw4, hD1, hD2]; (repeat (first | (refine Ask.go (ac3) ?_; simp [opsP, opP, pureOp, wantedA, putT, dstOk, evO, getT, evL, evP, enumT, plainV, binA, intA, sliceA, hiA, loA, evM, ldA, ldC, stA, newA, apA, destA, srcA, killO, buildA, fillA, setAll, cv_agg, cv_int, cv_bool, cv_slice, cv_ptr, allPlain, fnV, resA, resL, resOne, endR, cell_at, cell_at0, put_at, put_at0, rwOk_put, cell_put, wrL_nil, wrL_cons, wrO_none, wrO_some, rw_at, rw_at0, get_at, get_at0, kill_at, kill_at0, cell_c0, cell_cs, put_c0, put_cs, rw_c0, rw_cs, kill_c0, kill_cs, Heap.puts, wr, one_int, one_bool, one_slice, one_ptr, eqCells, offs11, offs12, offs13, offs14, offs21, offs22, offs23, offs24, hlt, hv, hid, hrw, c0, c1, c2, c3, hw, hx1, hx2, d3, d4, rw3, rw4, hD1, hD2]) | (refine Ask.go (ac4) ?_; simp [opsP, opP, pureOp, wantedA, putT, dstOk, evO, getT, evL, evP, enumT, plainV, binA, intA, sliceA, hiA, loA, evM, ldA, ldC, stA, newA, apA, destA, srcA, killO, buildA, fillA, setAll, cv_agg, cv_int, cv_bool, cv_slice, cv_ptr, allPlain, fnV, resA, resL, resOne, endR, cell_at, cell_at0, put_at, put_at0, rwOk_put, cell_put, wrL_nil, wrL_cons, wrO_none, wrO_some, rw_at, rw_at0, get_at, get_at0, kill_at, kill_at0, cell_c0, cell_cs, put_c0, put_cs, rw_c0, rw_cs, kill_c0, kill_cs, Heap.puts, wr, one_int, one_bool, one_slice, one_ptr, eqCells, offs11, offs12, offs13, offs14, offs21, offs22, offs23, offs24, hlt, hv, hid, hrw, c0, c1, c2, c3, hw, hx1, hx2, d3, d4, rw3, rw4, hD1, hD2]))); refine hK _ ?_; clear hK K))
      refine ak_inv ⟨xs.length - (i + 1), _, by omega, ?_, ⟨i + 1, by omega, rfl, ?_, ?_, rfl⟩⟩
      · rw [cnL_succ hlt, ← Int.add_assoc, hK, hl]
        simp [subL, getT, hv, cnLn]; omega
      · exact (((hmk.trans (m1.sub (by simpa using hid))).trans (m3.sub fun e he => hD e (.inl he))).trans (m4.sub fun e he => hD e (.inr he))).trans (MK.put _ _ hid rfl)
      · rw [← hset]
        refine hcl _ (mkLn l K) [iv K, v1, v2, iv (K + 1 + cnL cnInt l.way + cnL cnGr l.grs)] rfl ⟨E1, E2, v1, v2, rfl, rfl, ?_, ?_⟩ ?_ ?_
        · refine r3.fr (RP.frm _) fun e he _ => ?_
          dsimp only
          rw [get_put_ne _ _ _ (g1 e he), m4.out e (hap e he)]
        · refine r4.fr (RP.frm _) fun e he _ => ?_
          dsimp only
          rw [get_put_ne _ _ _ (g2 e he)]
        · intro e he hn1 hn2
          dsimp only
          rw [get_put_ne _ _ _ hn1, m4.out e fun hh => hn2 (by simp [hh]), m3.out e fun hh => hn2 (by simp [hh]), get_put_ne _ _ _ hn1]
        · intro a z b hb' hbc ha'
          dsimp only
          rw [get_put, m4.out id hne2, m3.out id hne1, get_put, hb']
          simp only [Option.map_some, hbc, ← ha']
          simp
    · have hk2 : i = xs.length := by omega
      subst hk2
      rw [mkAt_all] at hr
      repeat (first | refine ak_seq ?_ | refine ak_block ?_ | refine ak_blk ?_ | refine ak_skip ?_ | refine ak_exit rfl ?_ | refine ak_cond_t rfl ?_ | refine ak_cond_f rfl ?_ | (refine ak_region fun K hK => ?_; simp [opsP, opP, pureOp, wantedA, putT, dstOk, evO, getT, evL, evP, enumT, plainV, binA, intA, sliceA, hiA, loA, evM, ldA, ldC, stA, newA, apA, destA, srcA, killO, buildA, fillA, setAll, cv_agg, cv_int, cv_bool, cv_slice, cv_ptr, allPlain, fnV, resA, resL, resOne, endR, cell_at, cell_at0, put_at, put_at0, rwOk_put, cell_put, wrL_nil, wrL_cons, wrO_none, wrO_some, rw_at, rw_at0, get_at, get_at0, kill_at, kill_at0, cell_c0, cell_cs, put_c0, put_cs, rw_c0, rw_cs, kill_c0, kill_cs, Heap.puts, wr, one_int, one_bool, one_slice, one_ptr, eqCells, offs11, offs12, offs13, offs14, offs21, offs22, offs23, offs24, hlt, ha]; refine hK _ ?_; clear hK K))
      refine ak_ret ?_
      simp [opsP, opP, pureOp, wantedA, putT, dstOk, evO, getT, evL, evP, enumT, plainV, binA, intA, sliceA, hiA, loA, evM, ldA, ldC, stA, newA, apA, destA, srcA, killO, buildA, fillA, setAll, cv_agg, cv_int, cv_bool, cv_slice, cv_ptr, allPlain, fnV, resA, resL, resOne, endR, cell_at, cell_at0, put_at, put_at0, rwOk_put, cell_put, wrL_nil, wrL_cons, wrO_none, wrO_some, rw_at, rw_at0, get_at, get_at0, kill_at, kill_at0, cell_c0, cell_cs, put_c0, put_cs, rw_c0, rw_cs, kill_c0, kill_cs, Heap.puts, wr, one_int, one_bool, one_slice, one_ptr, eqCells, offs11, offs12, offs13, offs14, offs21, offs22, offs23, offs24]
      exact ⟨H1, ⟨[], by simp⟩, hmk, hr⟩

theorem heldLineS_ac {H : Heap} {E : List Nat} {v : Value} {xs : List Ln} {k : Int} (h : RS 4 RLn H E v (mkL mkLn cnLn xs k)) (hk : 0 ≤ k) (hb : k + cnL cnLn xs ≤ 4611686018427387904) :
    AC Try.prog 87 [v, iv k] H (iv (k + cnL cnLn xs)) H [] := by
  obtain ⟨a1, c1, ha⟩ := h.form
  have hn := h.1
  rw [mkL_len] at ha hn
  refine AC.of_pure (N := 49) Try.func87 rfl (by kernel_rfl) rfl rfl (by simp) rfl ?_
  rw [ha]
  repeat (first | refine ak_seq ?_ | refine ak_block ?_ | refine ak_blk ?_ | refine ak_skip ?_ | refine ak_exit rfl ?_ | refine ak_cond_t rfl ?_ | refine ak_cond_f rfl ?_ | (refine ak_region fun K hK => ?_; simp [opsP, opP, pureOp, wantedA, putT, dstOk, evO, getT, evL, evP, enumT, plainV, binA, intA, sliceA, hiA, loA, evM, ldA, ldC, stA, newA, apA, destA, srcA, killO, buildA, fillA, setAll, cv_agg, cv_int, cv_bool, cv_slice, cv_ptr, allPlain, fnV, resA, resL, resOne, endR, cell_at, cell_at0, put_at, put_at0, rwOk_put, cell_put, wrL_nil, wrL_cons, wrO_none, wrO_some, rw_at, rw_at0, get_at, get_at0, kill_at, kill_at0, cell_c0, cell_cs, put_c0, put_cs, rw_c0, rw_cs, kill_c0, kill_cs, Heap.puts, wr, one_int, one_bool, one_slice, one_ptr, eqCells, offs11, offs12, offs13, offs14, offs21, offs22, offs23, offs24]; refine hK _ ?_; clear hK K))
  rw [← ha]
  refine ak_loopS (fun m ts H' => ∃ (i : Nat) (J : Heap), i ≤ xs.length ∧ m = xs.length - i ∧ H' = H ++ J ∧ ts = [(0, v), (1, iv (k + cnL cnLn (xs.take i))), (5, iv i)]) xs.length _ ?_ ⟨0, [], by omega, rfl, by simp, rfl⟩ ?_
  · simp [subL, getT, ha, cnL]
  · rintro m ts H1 ⟨i, J, hi, rfl, rfl, rfl⟩
    by_cases hlt : i < xs.length
    · have hle := cnL_le (c := cnLn) (xs := xs) cnLn_nn (i + 1)
      have hle0 := cnL_nn (c := cnLn) cnLn_nn (xs.take i)
      rw [cnL_succ hlt] at hle
      obtain ⟨id, o, Ek, cs, hv, hid, _, _, hR, hsz, hc⟩ := h.at (k := i) (by rw [mkL_len]; exact hlt)
      rw [mkL_len] at hv
      rw [mkL_get hlt] at hR
      generalize hK : k + cnL cnLn (xs.take i) = K at hR ⊢
      generalize hl : xs[i] = l at hR hle
      obtain ⟨E1, E2, v1, v2, rfl, rfl, hw1, hw2⟩ := hR
      have c0 := hc 0 _ rfl
      have c1 := hc 1 _ rfl
      have c2 := hc 2 _ rfl
      have c3 := hc 3 _ rfl
      simp only [Nat.add_zero, mkLn] at c0 c1 c2 c3 hw1 hw2
      have hw := wrap_id (x := (i : Int) + 1) (by omega) (by omega)
      have q1 := cnL_nn cnInt_nn l.way
      have q2 := cnL_nn cnGr_nn l.grs
      simp only [cnLn] at hle
      have hx1 := wrap_id (x := K + 1) (by omega) (by omega)
      have hx2 := wrap_id (x := K + 1 + cnL cnInt l.way + cnL cnGr l.grs + 1) (by omega) (by omega)
      have p1 : ¬ (K + 1 + cnL cnInt l.way < 0) := by omega
      have p2 : ¬ (K + 1 + cnL cnInt l.way + cnL cnGr l.grs < 0) := by omega
      repeat (first | refine ak_seq ?_ | refine ak_block ?_ | refine ak_blk ?_ | refine ak_skip ?_ | refine ak_exit rfl ?_ | refine ak_cond_t rfl ?_ | refine ak_cond_f rfl ?_ | (refine ak_region fun K hK => ?_; simp [opsP, opP, pureOp, wantedA, putT, dstOk, evO, getT, evL, evP, enumT, plainV, binA, intA, sliceA, hiA, loA, evM, ldA, ldC, stA, newA, apA, destA, srcA, killO, buildA, fillA, setAll, cv_agg, cv_int, cv_bool, cv_slice, cv_ptr, allPlain, fnV, resA, resL, resOne, endR, cell_at, cell_at0, put_at, put_at0, rwOk_put, cell_put, wrL_nil, wrL_cons, wrO_none, wrO_some, rw_at, rw_at0, get_at, get_at0, kill_at, kill_at0, cell_c0, cell_cs, put_c0, put_cs, rw_c0, rw_cs, kill_c0, kill_cs, Heap.puts, wr, one_int, one_bool, one_slice, one_ptr, eqCells, offs11, offs12, offs13, offs14, offs21, offs22, offs23, offs24, hlt, hv, c0, c1, c2, c3, hw, hx1, hx2, p1, p2]; (repeat (first | (refine Ask.go (heldIntS_ac (hw1.ext (RP.frm _)) (by omega) (by omega)) ?_; simp [opsP, opP, pureOp, wantedA, putT, dstOk, evO, getT, evL, evP, enumT, plainV, binA, intA, sliceA, hiA, loA, evM, ldA, ldC, stA, newA, apA, destA, srcA, killO, buildA, fillA, setAll, cv_agg, cv_int, cv_bool, cv_slice, cv_ptr, allPlain, fnV, resA, resL, resOne, endR, cell_at, cell_at0, put_at, put_at0, rwOk_put, cell_put, wrL_nil, wrL_cons, wrO_none, wrO_some, rw_at, rw_at0, get_at, get_at0, kill_at, kill_at0, cell_c0, cell_cs, put_c0, put_cs, rw_c0, rw_cs, kill_c0, kill_cs, Heap.puts, wr, one_int, one_bool, one_slice, one_ptr, eqCells, offs11, offs12, offs13, offs14, offs21, offs22, offs23, offs24, hlt, hv, c0, c1, c2, c3, hw, hx1, hx2, p1, p2]) | (refine Ask.go (heldGrantS_ac (hw2.ext (RP.frm _)) (by omega) (by omega)) ?_; simp [opsP, opP, pureOp, wantedA, putT, dstOk, evO, getT, evL, evP, enumT, plainV, binA, intA, sliceA, hiA, loA, evM, ldA, ldC, stA, newA, apA, destA, srcA, killO, buildA, fillA, setAll, cv_agg, cv_int, cv_bool, cv_slice, cv_ptr, allPlain, fnV, resA, resL, resOne, endR, cell_at, cell_at0, put_at, put_at0, rwOk_put, cell_put, wrL_nil, wrL_cons, wrO_none, wrO_some, rw_at, rw_at0, get_at, get_at0, kill_at, kill_at0, cell_c0, cell_cs, put_c0, put_cs, rw_c0, rw_cs, kill_c0, kill_cs, Heap.puts, wr, one_int, one_bool, one_slice, one_ptr, eqCells, offs11, offs12, offs13, offs14, offs21, offs22, offs23, offs24, hlt, hv, c0, c1, c2, c3, hw, hx1, hx2, p1, p2]))); refine hK _ ?_; clear hK K))
      refine ak_inv ⟨xs.length - (i + 1), _, by omega, ?_, ⟨i + 1, J, by omega, rfl, rfl, rfl⟩⟩
      rw [cnL_succ hlt, ← Int.add_assoc, hK, hl]
      simp [subL, getT, hv, cnLn]; omega
    · have hk2 : i = xs.length := by omega
      subst hk2
      repeat (first | refine ak_seq ?_ | refine ak_block ?_ | refine ak_blk ?_ | refine ak_skip ?_ | refine ak_exit rfl ?_ | refine ak_cond_t rfl ?_ | refine ak_cond_f rfl ?_ | (refine ak_region fun K hK => ?_; simp [opsP, opP, pureOp, wantedA, putT, dstOk, evO, getT, evL, evP, enumT, plainV, binA, intA, sliceA, hiA, loA, evM, ldA, ldC, stA, newA, apA, destA, srcA, killO, buildA, fillA, setAll, cv_agg, cv_int, cv_bool, cv_slice, cv_ptr, allPlain, fnV, resA, resL, resOne, endR, cell_at, cell_at0, put_at, put_at0, rwOk_put, cell_put, wrL_nil, wrL_cons, wrO_none, wrO_some, rw_at, rw_at0, get_at, get_at0, kill_at, kill_at0, cell_c0, cell_cs, put_c0, put_cs, rw_c0, rw_cs, kill_c0, kill_cs, Heap.puts, wr, one_int, one_bool, one_slice, one_ptr, eqCells, offs11, offs12, offs13, offs14, offs21, offs22, offs23, offs24, hlt, ha]; refine hK _ ?_; clear hK K))
      refine ak_ret ?_
      simp [opsP, opP, pureOp, wantedA, putT, dstOk, evO, getT, evL, evP, enumT, plainV, binA, intA, sliceA, hiA, loA, evM, ldA, ldC, stA, newA, apA, destA, srcA, killO, buildA, fillA, setAll, cv_agg, cv_int, cv_bool, cv_slice, cv_ptr, allPlain, fnV, resA, resL, resOne, endR, cell_at, cell_at0, put_at, put_at0, rwOk_put, cell_put, wrL_nil, wrL_cons, wrO_none, wrO_some, rw_at, rw_at0, get_at, get_at0, kill_at, kill_at0, cell_c0, cell_cs, put_c0, put_cs, rw_c0, rw_cs, kill_c0, kill_cs, Heap.puts, wr, one_int, one_bool, one_slice, one_ptr, eqCells, offs11, offs12, offs13, offs14, offs21, offs22, offs23, offs24]

theorem markBook_ac {H : Heap} {E : List Nat} {cs : List Value} {b : Bk} {k : Int} (h : RBk H E b cs) (ho : Own H E) (hk : 0 ≤ k) (hb : k + cnBk b ≤ 4611686018427387904) :
    ∃ H', AC Try.prog 23 [.agg cs.toArray, iv k] H (iv (k + cnBk b)) H' E ∧ MK E H H' ∧ RBk H' E (mkBk b k) cs := by
  obtain ⟨v, rfl, hv⟩ := h
  have hbd := hv.bd RLn.frm
  refine AC.of_mark (N := 10) Try.func23 rfl (by kernel_rfl) rfl rfl (by simp) rfl ?_
  obtain ⟨H2, ac, mk, r⟩ := markLineS_ac (k := k) (hv.ext (L := [⟨25, [.bool b.ok, iv b.sec, v], true, true⟩]) RLn.frm) (ho.ext hbd) hk hb
  obtain ⟨H', rfl, mk'⟩ := mk.cut hbd
  have hD : wrL H.length E E := fun d hd => .inr hd
  repeat (first | refine ak_seq ?_ | refine ak_block ?_ | refine ak_blk ?_ | refine ak_skip ?_ | refine ak_exit rfl ?_ | refine ak_cond_t rfl ?_ | refine ak_cond_f rfl ?_ | (refine ak_region fun K hK => ?_; simp [opsP, opP, pureOp, wantedA, putT, dstOk, evO, getT, evL, evP, enumT, plainV, binA, intA, sliceA, hiA, loA, evM, ldA, ldC, stA, newA, apA, destA, srcA, killO, buildA, fillA, setAll, cv_agg, cv_int, cv_bool, cv_slice, cv_ptr, allPlain, fnV, resA, resL, resOne, endR, cell_at, cell_at0, put_at, put_at0, rwOk_put, cell_put, wrL_nil, wrL_cons, wrO_none, wrO_some, rw_at, rw_at0, get_at, get_at0, kill_at, kill_at0, cell_c0, cell_cs, put_c0, put_cs, rw_c0, rw_cs, kill_c0, kill_cs, Heap.puts, wr, one_int, one_bool, one_slice, one_ptr, eqCells, offs11, offs12, offs13, offs14, offs21, offs22, offs23, offs24, hD]; (repeat (first | (refine Ask.go (ac) ?_; simp [opsP, opP, pureOp, wantedA, putT, dstOk, evO, getT, evL, evP, enumT, plainV, binA, intA, sliceA, hiA, loA, evM, ldA, ldC, stA, newA, apA, destA, srcA, killO, buildA, fillA, setAll, cv_agg, cv_int, cv_bool, cv_slice, cv_ptr, allPlain, fnV, resA, resL, resOne, endR, cell_at, cell_at0, put_at, put_at0, rwOk_put, cell_put, wrL_nil, wrL_cons, wrO_none, wrO_some, rw_at, rw_at0, get_at, get_at0, kill_at, kill_at0, cell_c0, cell_cs, put_c0, put_cs, rw_c0, rw_cs, kill_c0, kill_cs, Heap.puts, wr, one_int, one_bool, one_slice, one_ptr, eqCells, offs11, offs12, offs13, offs14, offs21, offs22, offs23, offs24, hD]))); refine hK _ ?_; clear hK K))
  refine ak_ret ?_
  simp [opsP, opP, pureOp, wantedA, putT, dstOk, evO, getT, evL, evP, enumT, plainV, binA, intA, sliceA, hiA, loA, evM, ldA, ldC, stA, newA, apA, destA, srcA, killO, buildA, fillA, setAll, cv_agg, cv_int, cv_bool, cv_slice, cv_ptr, allPlain, fnV, resA, resL, resOne, endR, cell_at, cell_at0, put_at, put_at0, rwOk_put, cell_put, wrL_nil, wrL_cons, wrO_none, wrO_some, rw_at, rw_at0, get_at, get_at0, kill_at, kill_at0, cell_c0, cell_cs, put_c0, put_cs, rw_c0, rw_cs, kill_c0, kill_cs, Heap.puts, wr, one_int, one_bool, one_slice, one_ptr, eqCells, offs11, offs12, offs13, offs14, offs21, offs22, offs23, offs24]
  exact ⟨rfl, H', ⟨_, rfl⟩, mk', v, rfl, r.cut RLn.frm (by rw [mk'.len]; exact hbd)⟩

theorem heldBook_ac {H : Heap} {E : List Nat} {cs : List Value} {b : Bk} {k : Int} (h : RBk H E (mkBk b k) cs) (hk : 0 ≤ k) (hb : k + cnBk b ≤ 4611686018427387904) :
    AC Try.prog 24 [.agg cs.toArray, iv k] H (iv (k + cnBk b)) H [] := by
  obtain ⟨v, rfl, hv⟩ := h
  have q := cnL_nn cnLn_nn b.lines
  have p1 : ¬ (k + cnL cnLn b.lines < 0) := by omega
  refine AC.of_pure (N := 12) Try.func24 rfl (by kernel_rfl) rfl rfl (by simp) rfl ?_
  repeat (first | refine ak_seq ?_ | refine ak_block ?_ | refine ak_blk ?_ | refine ak_skip ?_ | refine ak_exit rfl ?_ | refine ak_cond_t rfl ?_ | refine ak_cond_f rfl ?_ | (refine ak_region fun K hK => ?_; simp [opsP, opP, pureOp, wantedA, putT, dstOk, evO, getT, evL, evP, enumT, plainV, binA, intA, sliceA, hiA, loA, evM, ldA, ldC, stA, newA, apA, destA, srcA, killO, buildA, fillA, setAll, cv_agg, cv_int, cv_bool, cv_slice, cv_ptr, allPlain, fnV, resA, resL, resOne, endR, cell_at, cell_at0, put_at, put_at0, rwOk_put, cell_put, wrL_nil, wrL_cons, wrO_none, wrO_some, rw_at, rw_at0, get_at, get_at0, kill_at, kill_at0, cell_c0, cell_cs, put_c0, put_cs, rw_c0, rw_cs, kill_c0, kill_cs, Heap.puts, wr, one_int, one_bool, one_slice, one_ptr, eqCells, offs11, offs12, offs13, offs14, offs21, offs22, offs23, offs24, p1]; (repeat (first | (refine Ask.go (heldLineS_ac (hv.ext RLn.frm) hk hb) ?_; simp [opsP, opP, pureOp, wantedA, putT, dstOk, evO, getT, evL, evP, enumT, plainV, binA, intA, sliceA, hiA, loA, evM, ldA, ldC, stA, newA, apA, destA, srcA, killO, buildA, fillA, setAll, cv_agg, cv_int, cv_bool, cv_slice, cv_ptr, allPlain, fnV, resA, resL, resOne, endR, cell_at, cell_at0, put_at, put_at0, rwOk_put, cell_put, wrL_nil, wrL_cons, wrO_none, wrO_some, rw_at, rw_at0, get_at, get_at0, kill_at, kill_at0, cell_c0, cell_cs, put_c0, put_cs, rw_c0, rw_cs, kill_c0, kill_cs, Heap.puts, wr, one_int, one_bool, one_slice, one_ptr, eqCells, offs11, offs12, offs13, offs14, offs21, offs22, offs23, offs24, p1]))); refine hK _ ?_; clear hK K))
  refine ak_ret ?_
  simp [opsP, opP, pureOp, wantedA, putT, dstOk, evO, getT, evL, evP, enumT, plainV, binA, intA, sliceA, hiA, loA, evM, ldA, ldC, stA, newA, apA, destA, srcA, killO, buildA, fillA, setAll, cv_agg, cv_int, cv_bool, cv_slice, cv_ptr, allPlain, fnV, resA, resL, resOne, endR, cell_at, cell_at0, put_at, put_at0, rwOk_put, cell_put, wrL_nil, wrL_cons, wrO_none, wrO_some, rw_at, rw_at0, get_at, get_at0, kill_at, kill_at0, cell_c0, cell_cs, put_c0, put_cs, rw_c0, rw_cs, kill_c0, kill_cs, Heap.puts, wr, one_int, one_bool, one_slice, one_ptr, eqCells, offs11, offs12, offs13, offs14, offs21, offs22, offs23, offs24, cnBk]

end Go.Proofs.Ytpoedfmkiiijnaa
