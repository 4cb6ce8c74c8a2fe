/- The mark and held functions over plain elements. Walks; printed by gen_mk.py of this repo. -/
import Derived.Test.YtpoedfmkiiijnaaTy
import Derived.Test.YtpoedfmkiiijnaaMk
namespace Go.Proofs.Ytpoedfmkiiijnaa
open Go Go.RowKit Go.Proofs.YtpoedfmkiiijnaaAm
set_option linter.unusedVariables false
set_option linter.unusedSimpArgs false
set_option maxRecDepth 10000

theorem markIntS_ac {H : Heap} {E : List Nat} {v : Value} {xs : List Int} {k : Int} (h : RS 1 RInt H E v xs) (ho : Own H E) (hk : 0 ≤ k) (hb : k + cnL cnInt xs ≤ 4611686018427387904) :
    ∃ H', AC Try.prog 50 [v, iv k] H (iv (k + cnL cnInt xs)) H' E ∧ MK E H H' ∧ RS 1 RInt H' E v (mkL mkInt cnInt xs k) := by
  obtain ⟨a1, c1, ha⟩ := h.form
  have hn := h.1
  refine AC.of_mark (N := 19) Try.func50 rfl (by kernel_rfl) rfl rfl (by simp) rfl ?_
  rw [ha]
  repeat (first | refine ak_seq ?_ | refine ak_block ?_ | refine ak_blk ?_ | refine ak_skip ?_ | refine ak_exit rfl ?_ | refine ak_cond_t rfl ?_ | refine ak_cond_f rfl ?_ | (refine ak_region fun K hK => ?_; simp [opsP, opP, pureOp, wantedA, putT, dstOk, evO, getT, evL, evP, enumT, plainV, binA, intA, sliceA, hiA, loA, evM, ldA, ldC, stA, newA, apA, destA, srcA, killO, buildA, fillA, setAll, cv_agg, cv_int, cv_bool, cv_slice, cv_ptr, allPlain, fnV, resA, resL, resOne, endR, cell_at, cell_at0, put_at, put_at0, rwOk_put, cell_put, wrL_nil, wrL_cons, wrO_none, wrO_some, rw_at, rw_at0, get_at, get_at0, kill_at, kill_at0, cell_c0, cell_cs, put_c0, put_cs, rw_c0, rw_cs, kill_c0, kill_cs, Heap.puts, wr, one_int, one_bool, one_slice, one_ptr, eqCells, offs11, offs12, offs13, offs14, offs21, offs22, offs23, offs24]; refine hK _ ?_; clear hK K))
  rw [← ha]
  refine ak_loopS (fun m ts H' => ∃ (i : Nat), i ≤ xs.length ∧ m = xs.length - i ∧ MK E H H' ∧ RS 1 RInt H' E v (mkAt mkInt cnInt xs i k) ∧ ts = [(0, v), (1, iv (k + cnL cnInt (xs.take i))), (5, iv i)]) xs.length _ ?_ ⟨0, by omega, rfl, MK.refl _ _, by rw [mkAt_zero]; exact h, rfl⟩ ?_
  · simp [subL, getT, ha, cnL]
  · rintro m ts H1 ⟨i, hi, rfl, hmk, hr, rfl⟩
    by_cases hlt : i < xs.length
    · have hle := cnL_le (c := cnInt) (xs := xs) cnInt_nn (i + 1)
      have hle0 := cnL_nn (c := cnInt) cnInt_nn (xs.take i)
      rw [cnL_succ hlt] at hle
      have hset := mkAt_set (f := mkInt) (c := cnInt) (k := k) hlt
      obtain ⟨id, o, hv, hid, hc, hput⟩ := hr.putP (fun _ => rfl) ho.1 (k := i) (by rw [mkAt_len]; exact hlt)
      rw [mkAt_len] at hv
      generalize hK : k + cnL cnInt (xs.take i) = K at hset ⊢
      have c0 := hc 0 _ rfl
      have hrw := (ho.mk hmk).2 id hid
      have hput := hput (mkInt xs[i] K)
      rw [hset] at hput
      simp only [Nat.mul_one, Nat.add_zero] at c0 hput
      have hw := wrap_id (x := (i : Int) + 1) (by omega) (by omega)
      simp only [cnInt] at hle
      have hw1 := wrap_id (x := K + 1) (by omega) (by omega)
      repeat (first | refine ak_seq ?_ | refine ak_block ?_ | refine ak_blk ?_ | refine ak_skip ?_ | refine ak_exit rfl ?_ | refine ak_cond_t rfl ?_ | refine ak_cond_f rfl ?_ | (refine ak_region fun K hK => ?_; simp [opsP, opP, pureOp, wantedA, putT, dstOk, evO, getT, evL, evP, enumT, plainV, binA, intA, sliceA, hiA, loA, evM, ldA, ldC, stA, newA, apA, destA, srcA, killO, buildA, fillA, setAll, cv_agg, cv_int, cv_bool, cv_slice, cv_ptr, allPlain, fnV, resA, resL, resOne, endR, cell_at, cell_at0, put_at, put_at0, rwOk_put, cell_put, wrL_nil, wrL_cons, wrO_none, wrO_some, rw_at, rw_at0, get_at, get_at0, kill_at, kill_at0, cell_c0, cell_cs, put_c0, put_cs, rw_c0, rw_cs, kill_c0, kill_cs, Heap.puts, wr, one_int, one_bool, one_slice, one_ptr, eqCells, offs11, offs12, offs13, offs14, offs21, offs22, offs23, offs24, hlt, hv, hid, hrw, c0, hw, hw1]; refine hK _ ?_; clear hK K))
      refine ak_inv ⟨xs.length - (i + 1), _, by omega, ?_, ⟨i + 1, by omega, rfl, ?_, hput, rfl⟩⟩
      · rw [cnL_succ hlt, ← Int.add_assoc, hK]
        simp [subL, getT, hv, cnInt, Int.add_assoc]
      · exact hmk.trans (MK.put _ _ hid rfl)
    · have hk2 : i = xs.length := by omega
      subst hk2
      rw [mkAt_all] at hr
      repeat (first | refine ak_seq ?_ | refine ak_block ?_ | refine ak_blk ?_ | refine ak_skip ?_ | refine ak_exit rfl ?_ | refine ak_cond_t rfl ?_ | refine ak_cond_f rfl ?_ | (refine ak_region fun K hK => ?_; simp [opsP, opP, pureOp, wantedA, putT, dstOk, evO, getT, evL, evP, enumT, plainV, binA, intA, sliceA, hiA, loA, evM, ldA, ldC, stA, newA, apA, destA, srcA, killO, buildA, fillA, setAll, cv_agg, cv_int, cv_bool, cv_slice, cv_ptr, allPlain, fnV, resA, resL, resOne, endR, cell_at, cell_at0, put_at, put_at0, rwOk_put, cell_put, wrL_nil, wrL_cons, wrO_none, wrO_some, rw_at, rw_at0, get_at, get_at0, kill_at, kill_at0, cell_c0, cell_cs, put_c0, put_cs, rw_c0, rw_cs, kill_c0, kill_cs, Heap.puts, wr, one_int, one_bool, one_slice, one_ptr, eqCells, offs11, offs12, offs13, offs14, offs21, offs22, offs23, offs24, hlt, ha]; refine hK _ ?_; clear hK K))
      refine ak_ret ?_
      simp [opsP, opP, pureOp, wantedA, putT, dstOk, evO, getT, evL, evP, enumT, plainV, binA, intA, sliceA, hiA, loA, evM, ldA, ldC, stA, newA, apA, destA, srcA, killO, buildA, fillA, setAll, cv_agg, cv_int, cv_bool, cv_slice, cv_ptr, allPlain, fnV, resA, resL, resOne, endR, cell_at, cell_at0, put_at, put_at0, rwOk_put, cell_put, wrL_nil, wrL_cons, wrO_none, wrO_some, rw_at, rw_at0, get_at, get_at0, kill_at, kill_at0, cell_c0, cell_cs, put_c0, put_cs, rw_c0, rw_cs, kill_c0, kill_cs, Heap.puts, wr, one_int, one_bool, one_slice, one_ptr, eqCells, offs11, offs12, offs13, offs14, offs21, offs22, offs23, offs24]
      exact ⟨H1, ⟨[], by simp⟩, hmk, hr⟩

theorem markGrantS_ac {H : Heap} {E : List Nat} {v : Value} {xs : List Gr} {k : Int} (h : RS 2 RGr H E v xs) (ho : Own H E) (hk : 0 ≤ k) (hb : k + cnL cnGr xs ≤ 4611686018427387904) :
    ∃ H', AC Try.prog 122 [v, iv k] H (iv (k + cnL cnGr xs)) H' E ∧ MK E H H' ∧ RS 2 RGr H' E v (mkL mkGr cnGr xs k) := by
  obtain ⟨a1, c1, ha⟩ := h.form
  have hn := h.1
  refine AC.of_mark (N := 27) Try.func122 rfl (by kernel_rfl) rfl rfl (by simp) rfl ?_
  rw [ha]
  repeat (first | refine ak_seq ?_ | refine ak_block ?_ | refine ak_blk ?_ | refine ak_skip ?_ | refine ak_exit rfl ?_ | refine ak_cond_t rfl ?_ | refine ak_cond_f rfl ?_ | (refine ak_region fun K hK => ?_; simp [opsP, opP, pureOp, wantedA, putT, dstOk, evO, getT, evL, evP, enumT, plainV, binA, intA, sliceA, hiA, loA, evM, ldA, ldC, stA, newA, apA, destA, srcA, killO, buildA, fillA, setAll, cv_agg, cv_int, cv_bool, cv_slice, cv_ptr, allPlain, fnV, resA, resL, resOne, endR, cell_at, cell_at0, put_at, put_at0, rwOk_put, cell_put, wrL_nil, wrL_cons, wrO_none, wrO_some, rw_at, rw_at0, get_at, get_at0, kill_at, kill_at0, cell_c0, cell_cs, put_c0, put_cs, rw_c0, rw_cs, kill_c0, kill_cs, Heap.puts, wr, one_int, one_bool, one_slice, one_ptr, eqCells, offs11, offs12, offs13, offs14, offs21, offs22, offs23, offs24]; refine hK _ ?_; clear hK K))
  rw [← ha]
  refine ak_loopS (fun m ts H' => ∃ (i : Nat), i ≤ xs.length ∧ m = xs.length - i ∧ MK E H H' ∧ RS 2 RGr H' E v (mkAt mkGr cnGr xs i k) ∧ ts = [(0, v), (1, iv (k + cnL cnGr (xs.take i))), (5, iv i)]) xs.length _ ?_ ⟨0, by omega, rfl, MK.refl _ _, by rw [mkAt_zero]; exact h, rfl⟩ ?_
  · simp [subL, getT, ha, cnL]
  · rintro m ts H1 ⟨i, hi, rfl, hmk, hr, rfl⟩
    by_cases hlt : i < xs.length
    · have hle := cnL_le (c := cnGr) (xs := xs) cnGr_nn (i + 1)
      have hle0 := cnL_nn (c := cnGr) cnGr_nn (xs.take i)
      rw [cnL_succ hlt] at hle
      have hset := mkAt_set (f := mkGr) (c := cnGr) (k := k) hlt
      obtain ⟨id, o, hv, hid, hc, hput⟩ := hr.putP (fun _ => rfl) ho.1 (k := i) (by rw [mkAt_len]; exact hlt)
      rw [mkAt_len] at hv
      generalize hK : k + cnL cnGr (xs.take i) = K at hset ⊢
      have c0 := hc 0 _ rfl
      have c1 := hc 1 _ rfl
      have hrw := (ho.mk hmk).2 id hid
      have hput := hput (mkGr xs[i] K)
      rw [hset] at hput
      simp only [Nat.mul_one, Nat.add_zero] at c0 c1 hput
      have hw := wrap_id (x := (i : Int) + 1) (by omega) (by omega)
      simp only [cnGr] at hle
      have hw1 := wrap_id (x := K + 1) (by omega) (by omega)
      have hw2 := wrap_id (x := K + 1 + 1) (by omega) (by omega)
      repeat (first | refine ak_seq ?_ | refine ak_block ?_ | refine ak_blk ?_ | refine ak_skip ?_ | refine ak_exit rfl ?_ | refine ak_cond_t rfl ?_ | refine ak_cond_f rfl ?_ | (refine ak_region fun K hK => ?_; simp [opsP, opP, pureOp, wantedA, putT, dstOk, evO, getT, evL, evP, enumT, plainV, binA, intA, sliceA, hiA, loA, evM, ldA, ldC, stA, newA, apA, destA, srcA, killO, buildA, fillA, setAll, cv_agg, cv_int, cv_bool, cv_slice, cv_ptr, allPlain, fnV, resA, resL, resOne, endR, cell_at, cell_at0, put_at, put_at0, rwOk_put, cell_put, wrL_nil, wrL_cons, wrO_none, wrO_some, rw_at, rw_at0, get_at, get_at0, kill_at, kill_at0, cell_c0, cell_cs, put_c0, put_cs, rw_c0, rw_cs, kill_c0, kill_cs, Heap.puts, wr, one_int, one_bool, one_slice, one_ptr, eqCells, offs11, offs12, offs13, offs14, offs21, offs22, offs23, offs24, hlt, hv, hid, hrw, c0, c1, hw, hw1, hw2]; refine hK _ ?_; clear hK K))
      refine ak_inv ⟨xs.length - (i + 1), _, by omega, ?_, ⟨i + 1, by omega, rfl, ?_, hput, rfl⟩⟩
      · rw [cnL_succ hlt, ← Int.add_assoc, hK]
        simp [subL, getT, hv, cnGr, Int.add_assoc]
      · exact hmk.trans (MK.put _ _ hid rfl) |>.trans (MK.put _ _ hid rfl)
    · have hk2 : i = xs.length := by omega
      subst hk2
      rw [mkAt_all] at hr
      repeat (first | refine ak_seq ?_ | refine ak_block ?_ | refine ak_blk ?_ | refine ak_skip ?_ | refine ak_exit rfl ?_ | refine ak_cond_t rfl ?_ | refine ak_cond_f rfl ?_ | (refine ak_region fun K hK => ?_; simp [opsP, opP, pureOp, wantedA, putT, dstOk, evO, getT, evL, evP, enumT, plainV, binA, intA, sliceA, hiA, loA, evM, ldA, ldC, stA, newA, apA, destA, srcA, killO, buildA, fillA, setAll, cv_agg, cv_int, cv_bool, cv_slice, cv_ptr, allPlain, fnV, resA, resL, resOne, endR, cell_at, cell_at0, put_at, put_at0, rwOk_put, cell_put, wrL_nil, wrL_cons, wrO_none, wrO_some, rw_at, rw_at0, get_at, get_at0, kill_at, kill_at0, cell_c0, cell_cs, put_c0, put_cs, rw_c0, rw_cs, kill_c0, kill_cs, Heap.puts, wr, one_int, one_bool, one_slice, one_ptr, eqCells, offs11, offs12, offs13, offs14, offs21, offs22, offs23, offs24, hlt, ha]; refine hK _ ?_; clear hK K))
      refine ak_ret ?_
      simp [opsP, opP, pureOp, wantedA, putT, dstOk, evO, getT, evL, evP, enumT, plainV, binA, intA, sliceA, hiA, loA, evM, ldA, ldC, stA, newA, apA, destA, srcA, killO, buildA, fillA, setAll, cv_agg, cv_int, cv_bool, cv_slice, cv_ptr, allPlain, fnV, resA, resL, resOne, endR, cell_at, cell_at0, put_at, put_at0, rwOk_put, cell_put, wrL_nil, wrL_cons, wrO_none, wrO_some, rw_at, rw_at0, get_at, get_at0, kill_at, kill_at0, cell_c0, cell_cs, put_c0, put_cs, rw_c0, rw_cs, kill_c0, kill_cs, Heap.puts, wr, one_int, one_bool, one_slice, one_ptr, eqCells, offs11, offs12, offs13, offs14, offs21, offs22, offs23, offs24]
      exact ⟨H1, ⟨[], by simp⟩, hmk, hr⟩

theorem markEventS_ac {H : Heap} {E : List Nat} {v : Value} {xs : List Evt} {k : Int} (h : RS 3 REv H E v xs) (ho : Own H E) (hk : 0 ≤ k) (hb : k + cnL cnEv xs ≤ 4611686018427387904) :
    ∃ H', AC Try.prog 66 [v, iv k] H (iv (k + cnL cnEv xs)) H' E ∧ MK E H H' ∧ RS 3 REv H' E v (mkL mkEv cnEv xs k) := by
  obtain ⟨a1, c1, ha⟩ := h.form
  have hn := h.1
  refine AC.of_mark (N := 34) Try.func66 rfl (by kernel_rfl) rfl rfl (by simp) rfl ?_
  rw [ha]
  repeat (first | refine ak_seq ?_ | refine ak_block ?_ | refine ak_blk ?_ | refine ak_skip ?_ | refine ak_exit rfl ?_ | refine ak_cond_t rfl ?_ | refine ak_cond_f rfl ?_ | (refine ak_region fun K hK => ?_; simp [opsP, opP, pureOp, wantedA, putT, dstOk, evO, getT, evL, evP, enumT, plainV, binA, intA, sliceA, hiA, loA, evM, ldA, ldC, stA, newA, apA, destA, srcA, killO, buildA, fillA, setAll, cv_agg, cv_int, cv_bool, cv_slice, cv_ptr, allPlain, fnV, resA, resL, resOne, endR, cell_at, cell_at0, put_at, put_at0, rwOk_put, cell_put, wrL_nil, wrL_cons, wrO_none, wrO_some, rw_at, rw_at0, get_at, get_at0, kill_at, kill_at0, cell_c0, cell_cs, put_c0, put_cs, rw_c0, rw_cs, kill_c0, kill_cs, Heap.puts, wr, one_int, one_bool, one_slice, one_ptr, eqCells, offs11, offs12, offs13, offs14, offs21, offs22, offs23, offs24]; refine hK _ ?_; clear hK K))
  rw [← ha]
  refine ak_loopS (fun m ts H' => ∃ (i : Nat), i ≤ xs.length ∧ m = xs.length - i ∧ MK E H H' ∧ RS 3 REv H' E v (mkAt mkEv cnEv xs i k) ∧ ts = [(0, v), (1, iv (k + cnL cnEv (xs.take i))), (5, iv i)]) xs.length _ ?_ ⟨0, by omega, rfl, MK.refl _ _, by rw [mkAt_zero]; exact h, rfl⟩ ?_
  · simp [subL, getT, ha, cnL]
  · rintro m ts H1 ⟨i, hi, rfl, hmk, hr, rfl⟩
    by_cases hlt : i < xs.length
    · have hle := cnL_le (c := cnEv) (xs := xs) cnEv_nn (i + 1)
      have hle0 := cnL_nn (c := cnEv) cnEv_nn (xs.take i)
      rw [cnL_succ hlt] at hle
      have hset := mkAt_set (f := mkEv) (c := cnEv) (k := k) hlt
      obtain ⟨id, o, hv, hid, hc, hput⟩ := hr.putP (fun _ => rfl) ho.1 (k := i) (by rw [mkAt_len]; exact hlt)
      rw [mkAt_len] at hv
      generalize hK : k + cnL cnEv (xs.take i) = K at hset ⊢
      have c0 := hc 0 _ rfl
      have c1 := hc 1 _ rfl
      have c2 := hc 2 _ rfl
      have hrw := (ho.mk hmk).2 id hid
      have hput := hput (mkEv xs[i] K)
      rw [hset] at hput
      simp only [Nat.mul_one, Nat.add_zero] at c0 c1 c2 hput
      have hw := wrap_id (x := (i : Int) + 1) (by omega) (by omega)
      simp only [cnEv] at hle
      have hw1 := wrap_id (x := K + 1) (by omega) (by omega)
      have hw2 := wrap_id (x := K + 1 + 1) (by omega) (by omega)
      have hw3 := wrap_id (x := K + 1 + 1 + 1) (by omega) (by omega)
      repeat (first | refine ak_seq ?_ | refine ak_block ?_ | refine ak_blk ?_ | refine ak_skip ?_ | refine ak_exit rfl ?_ | refine ak_cond_t rfl ?_ | refine ak_cond_f rfl ?_ | (refine ak_region fun K hK => ?_; simp [opsP, opP, pureOp, wantedA, putT, dstOk, evO, getT, evL, evP, enumT, plainV, binA, intA, sliceA, hiA, loA, evM, ldA, ldC, stA, newA, apA, destA, srcA, killO, buildA, fillA, setAll, cv_agg, cv_int, cv_bool, cv_slice, cv_ptr, allPlain, fnV, resA, resL, resOne, endR, cell_at, cell_at0, put_at, put_at0, rwOk_put, cell_put, wrL_nil, wrL_cons, wrO_none, wrO_some, rw_at, rw_at0, get_at, get_at0, kill_at, kill_at0, cell_c0, cell_cs, put_c0, put_cs, rw_c0, rw_cs, kill_c0, kill_cs, Heap.puts, wr, one_int, one_bool, one_slice, one_ptr, eqCells, offs11, offs12, offs13, offs14, offs21, offs22, offs23, offs24, hlt, hv, hid, hrw, c0, c1, c2, hw, hw1, hw2, hw3]; refine hK _ ?_; clear hK K))
      refine ak_inv ⟨xs.length - (i + 1), _, by omega, ?_, ⟨i + 1, by omega, rfl, ?_, hput, rfl⟩⟩
      · rw [cnL_succ hlt, ← Int.add_assoc, hK]
        simp [subL, getT, hv, cnEv, Int.add_assoc]
      · exact hmk.trans (MK.put _ _ hid rfl) |>.trans (MK.put _ _ hid rfl) |>.trans (MK.put _ _ hid rfl)
    · have hk2 : i = xs.length := by omega
      subst hk2
      rw [mkAt_all] at hr
      repeat (first | refine ak_seq ?_ | refine ak_block ?_ | refine ak_blk ?_ | refine ak_skip ?_ | refine ak_exit rfl ?_ | refine ak_cond_t rfl ?_ | refine ak_cond_f rfl ?_ | (refine ak_region fun K hK => ?_; simp [opsP, opP, pureOp, wantedA, putT, dstOk, evO, getT, evL, evP, enumT, plainV, binA, intA, sliceA, hiA, loA, evM, ldA, ldC, stA, newA, apA, destA, srcA, killO, buildA, fillA, setAll, cv_agg, cv_int, cv_bool, cv_slice, cv_ptr, allPlain, fnV, resA, resL, resOne, endR, cell_at, cell_at0, put_at, put_at0, rwOk_put, cell_put, wrL_nil, wrL_cons, wrO_none, wrO_some, rw_at, rw_at0, get_at, get_at0, kill_at, kill_at0, cell_c0, cell_cs, put_c0, put_cs, rw_c0, rw_cs, kill_c0, kill_cs, Heap.puts, wr, one_int, one_bool, one_slice, one_ptr, eqCells, offs11, offs12, offs13, offs14, offs21, offs22, offs23, offs24, hlt, ha]; refine hK _ ?_; clear hK K))
      refine ak_ret ?_
      simp [opsP, opP, pureOp, wantedA, putT, dstOk, evO, getT, evL, evP, enumT, plainV, binA, intA, sliceA, hiA, loA, evM, ldA, ldC, stA, newA, apA, destA, srcA, killO, buildA, fillA, setAll, cv_agg, cv_int, cv_bool, cv_slice, cv_ptr, allPlain, fnV, resA, resL, resOne, endR, cell_at, cell_at0, put_at, put_at0, rwOk_put, cell_put, wrL_nil, wrL_cons, wrO_none, wrO_some, rw_at, rw_at0, get_at, get_at0, kill_at, kill_at0, cell_c0, cell_cs, put_c0, put_cs, rw_c0, rw_cs, kill_c0, kill_cs, Heap.puts, wr, one_int, one_bool, one_slice, one_ptr, eqCells, offs11, offs12, offs13, offs14, offs21, offs22, offs23, offs24]
      exact ⟨H1, ⟨[], by simp⟩, hmk, hr⟩

theorem markBodyS_ac {H : Heap} {E : List Nat} {v : Value} {xs : List Bd} {k : Int} (h : RS 4 RBd H E v xs) (ho : Own H E) (hk : 0 ≤ k) (hb : k + cnL cnBd xs ≤ 4611686018427387904) :
    ∃ H', AC Try.prog 107 [v, iv k] H (iv (k + cnL cnBd xs)) H' E ∧ MK E H H' ∧ RS 4 RBd H' E v (mkL mkBd cnBd xs k) := by
  obtain ⟨a1, c1, ha⟩ := h.form
  have hn := h.1
  refine AC.of_mark (N := 41) Try.func107 rfl (by kernel_rfl) rfl rfl (by simp) rfl ?_
  rw [ha]
  repeat (first | refine ak_seq ?_ | refine ak_block ?_ | refine ak_blk ?_ | refine ak_skip ?_ | refine ak_exit rfl ?_ | refine ak_cond_t rfl ?_ | refine ak_cond_f rfl ?_ | (refine ak_region fun K hK => ?_; simp [opsP, opP, pureOp, wantedA, putT, dstOk, evO, getT, evL, evP, enumT, plainV, binA, intA, sliceA, hiA, loA, evM, ldA, ldC, stA, newA, apA, destA, srcA, killO, buildA, fillA, setAll, cv_agg, cv_int, cv_bool, cv_slice, cv_ptr, allPlain, fnV, resA, resL, resOne, endR, cell_at, cell_at0, put_at, put_at0, rwOk_put, cell_put, wrL_nil, wrL_cons, wrO_none, wrO_some, rw_at, rw_at0, get_at, get_at0, kill_at, kill_at0, cell_c0, cell_cs, put_c0, put_cs, rw_c0, rw_cs, kill_c0, kill_cs, Heap.puts, wr, one_int, one_bool, one_slice, one_ptr, eqCells, offs11, offs12, offs13, offs14, offs21, offs22, offs23, offs24]; refine hK _ ?_; clear hK K))
  rw [← ha]
  refine ak_loopS (fun m ts H' => ∃ (i : Nat), i ≤ xs.length ∧ m = xs.length - i ∧ MK E H H' ∧ RS 4 RBd H' E v (mkAt mkBd cnBd xs i k) ∧ ts = [(0, v), (1, iv (k + cnL cnBd (xs.take i))), (5, iv i)]) xs.length _ ?_ ⟨0, by omega, rfl, MK.refl _ _, by rw [mkAt_zero]; exact h, rfl⟩ ?_
  · simp [subL, getT, ha, cnL]
  · rintro m ts H1 ⟨i, hi, rfl, hmk, hr, rfl⟩
    by_cases hlt : i < xs.length
    · have hle := cnL_le (c := cnBd) (xs := xs) cnBd_nn (i + 1)
      have hle0 := cnL_nn (c := cnBd) cnBd_nn (xs.take i)
      rw [cnL_succ hlt] at hle
      have hset := mkAt_set (f := mkBd) (c := cnBd) (k := k) hlt
      obtain ⟨id, o, hv, hid, hc, hput⟩ := hr.putP (fun _ => rfl) ho.1 (k := i) (by rw [mkAt_len]; exact hlt)
      rw [mkAt_len] at hv
      generalize hK : k + cnL cnBd (xs.take i) = K at hset ⊢
      have c0 := hc 0 _ rfl
      have c1 := hc 1 _ rfl
      have c2 := hc 2 _ rfl
      have c3 := hc 3 _ rfl
      have hrw := (ho.mk hmk).2 id hid
      have hput := hput (mkBd xs[i] K)
      rw [hset] at hput
      simp only [Nat.mul_one, Nat.add_zero] at c0 c1 c2 c3 hput
      have hw := wrap_id (x := (i : Int) + 1) (by omega) (by omega)
      simp only [cnBd] at hle
      have hw1 := wrap_id (x := K + 1) (by omega) (by omega)
      have hw2 := wrap_id (x := K + 1 + 1) (by omega) (by omega)
      have hw3 := wrap_id (x := K + 1 + 1 + 1) (by omega) (by omega)
      have hw4 := wrap_id (x := K + 1 + 1 + 1 + 1) (by omega) (by omega)
      repeat (first | refine ak_seq ?_ | refine ak_block ?_ | refine ak_blk ?_ | refine ak_skip ?_ | refine ak_exit rfl ?_ | refine ak_cond_t rfl ?_ | refine ak_cond_f rfl ?_ | (refine ak_region fun K hK => ?_; simp [opsP, opP, pureOp, wantedA, putT, dstOk, evO, getT, evL, evP, enumT, plainV, binA, intA, sliceA, hiA, loA, evM, ldA, ldC, stA, newA, apA, destA, srcA, killO, buildA, fillA, setAll, cv_agg, cv_int, cv_bool, cv_slice, cv_ptr, allPlain, fnV, resA, resL, resOne, endR, cell_at, cell_at0, put_at, put_at0, rwOk_put, cell_put, wrL_nil, wrL_cons, wrO_none, wrO_some, rw_at, rw_at0, get_at, get_at0, kill_at, kill_at0, cell_c0, cell_cs, put_c0, put_cs, rw_c0, rw_cs, kill_c0, kill_cs, Heap.puts, wr, one_int, one_bool, one_slice, one_ptr, eqCells, offs11, offs12, offs13, offs14, offs21, offs22, offs23, offs24, hlt, hv, hid, hrw, c0, c1, c2, c3, hw, hw1, hw2, hw3, hw4]; refine hK _ ?_; clear hK K))
      refine ak_inv ⟨xs.length - (i + 1), _, by omega, ?_, ⟨i + 1, by omega, rfl, ?_, hput, rfl⟩⟩
      · rw [cnL_succ hlt, ← Int.add_assoc, hK]
        simp [subL, getT, hv, cnBd, Int.add_assoc]
      · exact hmk.trans (MK.put _ _ hid rfl) |>.trans (MK.put _ _ hid rfl) |>.trans (MK.put _ _ hid rfl) |>.trans (MK.put _ _ hid rfl)
    · have hk2 : i = xs.length := by omega
      subst hk2
      rw [mkAt_all] at hr
      repeat (first | refine ak_seq ?_ | refine ak_block ?_ | refine ak_blk ?_ | refine ak_skip ?_ | refine ak_exit rfl ?_ | refine ak_cond_t rfl ?_ | refine ak_cond_f rfl ?_ | (refine ak_region fun K hK => ?_; simp [opsP, opP, pureOp, wantedA, putT, dstOk, evO, getT, evL, evP, enumT, plainV, binA, intA, sliceA, hiA, loA, evM, ldA, ldC, stA, newA, apA, destA, srcA, killO, buildA, fillA, setAll, cv_agg, cv_int, cv_bool, cv_slice, cv_ptr, allPlain, fnV, resA, resL, resOne, endR, cell_at, cell_at0, put_at, put_at0, rwOk_put, cell_put, wrL_nil, wrL_cons, wrO_none, wrO_some, rw_at, rw_at0, get_at, get_at0, kill_at, kill_at0, cell_c0, cell_cs, put_c0, put_cs, rw_c0, rw_cs, kill_c0, kill_cs, Heap.puts, wr, one_int, one_bool, one_slice, one_ptr, eqCells, offs11, offs12, offs13, offs14, offs21, offs22, offs23, offs24, hlt, ha]; refine hK _ ?_; clear hK K))
      refine ak_ret ?_
      simp [opsP, opP, pureOp, wantedA, putT, dstOk, evO, getT, evL, evP, enumT, plainV, binA, intA, sliceA, hiA, loA, evM, ldA, ldC, stA, newA, apA, destA, srcA, killO, buildA, fillA, setAll, cv_agg, cv_int, cv_bool, cv_slice, cv_ptr, allPlain, fnV, resA, resL, resOne, endR, cell_at, cell_at0, put_at, put_at0, rwOk_put, cell_put, wrL_nil, wrL_cons, wrO_none, wrO_some, rw_at, rw_at0, get_at, get_at0, kill_at, kill_at0, cell_c0, cell_cs, put_c0, put_cs, rw_c0, rw_cs, kill_c0, kill_cs, Heap.puts, wr, one_int, one_bool, one_slice, one_ptr, eqCells, offs11, offs12, offs13, offs14, offs21, offs22, offs23, offs24]
      exact ⟨H1, ⟨[], by simp⟩, hmk, hr⟩

theorem markActS_ac {H : Heap} {E : List Nat} {v : Value} {xs : List Actn} {k : Int} (h : RS 6 RAc H E v xs) (ho : Own H E) (hk : 0 ≤ k) (hb : k + cnL cnAc xs ≤ 4611686018427387904) :
    ∃ H', AC Try.prog 80 [v, iv k] H (iv (k + cnL cnAc xs)) H' E ∧ MK E H H' ∧ RS 6 RAc H' E v (mkL mkAc cnAc xs k) := by
  obtain ⟨a1, c1, ha⟩ := h.form
  have hn := h.1
  refine AC.of_mark (N := 58) Try.func80 rfl (by kernel_rfl) rfl rfl (by simp) rfl ?_
  rw [ha]
  repeat (first | refine ak_seq ?_ | refine ak_block ?_ | refine ak_blk ?_ | refine ak_skip ?_ | refine ak_exit rfl ?_ | refine ak_cond_t rfl ?_ | refine ak_cond_f rfl ?_ | (refine ak_region fun K hK => ?_; simp [opsP, opP, pureOp, wantedA, putT, dstOk, evO, getT, evL, evP, enumT, plainV, binA, intA, sliceA, hiA, loA, evM, ldA, ldC, stA, newA, apA, destA, srcA, killO, buildA, fillA, setAll, cv_agg, cv_int, cv_bool, cv_slice, cv_ptr, allPlain, fnV, resA, resL, resOne, endR, cell_at, cell_at0, put_at, put_at0, rwOk_put, cell_put, wrL_nil, wrL_cons, wrO_none, wrO_some, rw_at, rw_at0, get_at, get_at0, kill_at, kill_at0, cell_c0, cell_cs, put_c0, put_cs, rw_c0, rw_cs, kill_c0, kill_cs, Heap.puts, wr, one_int, one_bool, one_slice, one_ptr, eqCells, offs11, offs12, offs13, offs14, offs21, offs22, offs23, offs24]; refine hK _ ?_; clear hK K))
  rw [← ha]
  refine ak_loopS (fun m ts H' => ∃ (i : Nat), i ≤ xs.length ∧ m = xs.length - i ∧ MK E H H' ∧ RS 6 RAc H' E v (mkAt mkAc cnAc xs i k) ∧ ts = [(0, v), (1, iv (k + cnL cnAc (xs.take i))), (5, iv i)]) xs.length _ ?_ ⟨0, by omega, rfl, MK.refl _ _, by rw [mkAt_zero]; exact h, rfl⟩ ?_
  · simp [subL, getT, ha, cnL]
  · rintro m ts H1 ⟨i, hi, rfl, hmk, hr, rfl⟩
    by_cases hlt : i < xs.length
    · have hle := cnL_le (c := cnAc) (xs := xs) cnAc_nn (i + 1)
      have hle0 := cnL_nn (c := cnAc) cnAc_nn (xs.take i)
      rw [cnL_succ hlt] at hle
      have hset := mkAt_set (f := mkAc) (c := cnAc) (k := k) hlt
      obtain ⟨id, o, hv, hid, hc, hput⟩ := hr.putP (fun _ => rfl) ho.1 (k := i) (by rw [mkAt_len]; exact hlt)
      rw [mkAt_len] at hv
      generalize hK : k + cnL cnAc (xs.take i) = K at hset ⊢
      have c0 := hc 0 _ rfl
      have c1 := hc 1 _ rfl
      have c2 := hc 2 _ rfl
      have c3 := hc 3 _ rfl
      have c4 := hc 4 _ rfl
      have c5 := hc 5 _ rfl
      have hrw := (ho.mk hmk).2 id hid
      have hput := hput (mkAc xs[i] K)
      rw [hset] at hput
      simp only [Nat.mul_one, Nat.add_zero] at c0 c1 c2 c3 c4 c5 hput
      have hw := wrap_id (x := (i : Int) + 1) (by omega) (by omega)
      simp only [cnAc] at hle
      have hw1 := wrap_id (x := K + 1) (by omega) (by omega)
      have hw2 := wrap_id (x := K + 1 + 1) (by omega) (by omega)
      have hw3 := wrap_id (x := K + 1 + 1 + 1) (by omega) (by omega)
      have hw4 := wrap_id (x := K + 1 + 1 + 1 + 1) (by omega) (by omega)
      have hw5 := wrap_id (x := K + 1 + 1 + 1 + 1 + 1) (by omega) (by omega)
      have hw6 := wrap_id (x := K + 1 + 1 + 1 + 1 + 1 + 1) (by omega) (by omega)
      repeat (first | refine ak_seq ?_ | refine ak_block ?_ | refine ak_blk ?_ | refine ak_skip ?_ | refine ak_exit rfl ?_ | refine ak_cond_t rfl ?_ | refine ak_cond_f rfl ?_ | (refine ak_region fun K hK => ?_; simp [opsP, opP, pureOp, wantedA, putT, dstOk, evO, getT, evL, evP, enumT, plainV, binA, intA, sliceA, hiA, loA, evM, ldA, ldC, stA, newA, apA, destA, srcA, killO, buildA, fillA, setAll, cv_agg, cv_int, cv_bool, cv_slice, cv_ptr, allPlain, fnV, resA, resL, resOne, endR, cell_at, cell_at0, put_at, put_at0, rwOk_put, cell_put, wrL_nil, wrL_cons, wrO_none, wrO_some, rw_at, rw_at0, get_at, get_at0, kill_at, kill_at0, cell_c0, cell_cs, put_c0, put_cs, rw_c0, rw_cs, kill_c0, kill_cs, Heap.puts, wr, one_int, one_bool, one_slice, one_ptr, eqCells, offs11, offs12, offs13, offs14, offs21, offs22, offs23, offs24, hlt, hv, hid, hrw, c0, c1, c2, c3, c4, c5, hw, hw1, hw2, hw3, hw4, hw5, hw6]; refine hK _ ?_; clear hK K))
      refine ak_inv ⟨xs.length - (i + 1), _, by omega, ?_, ⟨i + 1, by omega, rfl, ?_, hput, rfl⟩⟩
      · rw [cnL_succ hlt, ← Int.add_assoc, hK]
        simp [subL, getT, hv, cnAc, Int.add_assoc]
      · exact hmk.trans (MK.put _ _ hid rfl) |>.trans (MK.put _ _ hid rfl) |>.trans (MK.put _ _ hid rfl) |>.trans (MK.put _ _ hid rfl) |>.trans (MK.put _ _ hid rfl) |>.trans (MK.put _ _ hid rfl)
    · have hk2 : i = xs.length := by omega
      subst hk2
      rw [mkAt_all] at hr
      repeat (first | refine ak_seq ?_ | refine ak_block ?_ | refine ak_blk ?_ | refine ak_skip ?_ | refine ak_exit rfl ?_ | refine ak_cond_t rfl ?_ | refine ak_cond_f rfl ?_ | (refine ak_region fun K hK => ?_; simp [opsP, opP, pureOp, wantedA, putT, dstOk, evO, getT, evL, evP, enumT, plainV, binA, intA, sliceA, hiA, loA, evM, ldA, ldC, stA, newA, apA, destA, srcA, killO, buildA, fillA, setAll, cv_agg, cv_int, cv_bool, cv_slice, cv_ptr, allPlain, fnV, resA, resL, resOne, endR, cell_at, cell_at0, put_at, put_at0, rwOk_put, cell_put, wrL_nil, wrL_cons, wrO_none, wrO_some, rw_at, rw_at0, get_at, get_at0, kill_at, kill_at0, cell_c0, cell_cs, put_c0, put_cs, rw_c0, rw_cs, kill_c0, kill_cs, Heap.puts, wr, one_int, one_bool, one_slice, one_ptr, eqCells, offs11, offs12, offs13, offs14, offs21, offs22, offs23, offs24, hlt, ha]; refine hK _ ?_; clear hK K))
      refine ak_ret ?_
      simp [opsP, opP, pureOp, wantedA, putT, dstOk, evO, getT, evL, evP, enumT, plainV, binA, intA, sliceA, hiA, loA, evM, ldA, ldC, stA, newA, apA, destA, srcA, killO, buildA, fillA, setAll, cv_agg, cv_int, cv_bool, cv_slice, cv_ptr, allPlain, fnV, resA, resL, resOne, endR, cell_at, cell_at0, put_at, put_at0, rwOk_put, cell_put, wrL_nil, wrL_cons, wrO_none, wrO_some, rw_at, rw_at0, get_at, get_at0, kill_at, kill_at0, cell_c0, cell_cs, put_c0, put_cs, rw_c0, rw_cs, kill_c0, kill_cs, Heap.puts, wr, one_int, one_bool, one_slice, one_ptr, eqCells, offs11, offs12, offs13, offs14, offs21, offs22, offs23, offs24]
      exact ⟨H1, ⟨[], by simp⟩, hmk, hr⟩

theorem heldIntS_ac {H : Heap} {E : List Nat} {v : Value} {xs : List Int} {k : Int} (h : RS 1 RInt H E v (mkL mkInt cnInt xs k)) (hk : 0 ≤ k) (hb : k + cnL cnInt xs ≤ 4611686018427387904) :
    AC Try.prog 56 [v, iv k] H (iv (k + cnL cnInt xs)) H [] := by
  obtain ⟨a1, c1, ha⟩ := h.form
  have hn := h.1
  rw [mkL_len] at ha hn
  refine AC.of_pure (N := 21) Try.func56 rfl (by kernel_rfl) rfl rfl (by simp) rfl ?_
  rw [ha]
  repeat (first | refine ak_seq ?_ | refine ak_block ?_ | refine ak_blk ?_ | refine ak_skip ?_ | refine ak_exit rfl ?_ | refine ak_cond_t rfl ?_ | refine ak_cond_f rfl ?_ | (refine ak_region fun K hK => ?_; simp [opsP, opP, pureOp, wantedA, putT, dstOk, evO, getT, evL, evP, enumT, plainV, binA, intA, sliceA, hiA, loA, evM, ldA, ldC, stA, newA, apA, destA, srcA, killO, buildA, fillA, setAll, cv_agg, cv_int, cv_bool, cv_slice, cv_ptr, allPlain, fnV, resA, resL, resOne, endR, cell_at, cell_at0, put_at, put_at0, rwOk_put, cell_put, wrL_nil, wrL_cons, wrO_none, wrO_some, rw_at, rw_at0, get_at, get_at0, kill_at, kill_at0, cell_c0, cell_cs, put_c0, put_cs, rw_c0, rw_cs, kill_c0, kill_cs, Heap.puts, wr, one_int, one_bool, one_slice, one_ptr, eqCells, offs11, offs12, offs13, offs14, offs21, offs22, offs23, offs24]; refine hK _ ?_; clear hK K))
  rw [← ha]
  refine ak_loopS (fun m ts H' => ∃ (i : Nat) (J : Heap), i ≤ xs.length ∧ m = xs.length - i ∧ H' = H ++ J ∧ ts = [(0, v), (1, iv (k + cnL cnInt (xs.take i))), (5, iv i)]) xs.length _ ?_ ⟨0, [], by omega, rfl, by simp, rfl⟩ ?_
  · simp [subL, getT, ha, cnL]
  · rintro m ts H1 ⟨i, J, hi, rfl, rfl, rfl⟩
    by_cases hlt : i < xs.length
    · have hle := cnL_le (c := cnInt) (xs := xs) cnInt_nn (i + 1)
      have hle0 := cnL_nn (c := cnInt) cnInt_nn (xs.take i)
      rw [cnL_succ hlt] at hle
      obtain ⟨id, o, Ek, cs, hv, hid, _, _, hR, hsz, hc⟩ := h.at (k := i) (by rw [mkL_len]; exact hlt)
      rw [mkL_len] at hv
      rw [mkL_get hlt] at hR
      generalize hK : k + cnL cnInt (xs.take i) = K at hR ⊢
      obtain ⟨_, rfl⟩ := hR
      have c0 := hc 0 _ rfl
      simp only [Nat.mul_one, Nat.add_zero, mkInt] at c0
      have hw := wrap_id (x := (i : Int) + 1) (by omega) (by omega)
      simp only [cnInt] at hle
      have hw1 := wrap_id (x := K + 1) (by omega) (by omega)
      repeat (first | refine ak_seq ?_ | refine ak_block ?_ | refine ak_blk ?_ | refine ak_skip ?_ | refine ak_exit rfl ?_ | refine ak_cond_t rfl ?_ | refine ak_cond_f rfl ?_ | (refine ak_region fun K hK => ?_; simp [opsP, opP, pureOp, wantedA, putT, dstOk, evO, getT, evL, evP, enumT, plainV, binA, intA, sliceA, hiA, loA, evM, ldA, ldC, stA, newA, apA, destA, srcA, killO, buildA, fillA, setAll, cv_agg, cv_int, cv_bool, cv_slice, cv_ptr, allPlain, fnV, resA, resL, resOne, endR, cell_at, cell_at0, put_at, put_at0, rwOk_put, cell_put, wrL_nil, wrL_cons, wrO_none, wrO_some, rw_at, rw_at0, get_at, get_at0, kill_at, kill_at0, cell_c0, cell_cs, put_c0, put_cs, rw_c0, rw_cs, kill_c0, kill_cs, Heap.puts, wr, one_int, one_bool, one_slice, one_ptr, eqCells, offs11, offs12, offs13, offs14, offs21, offs22, offs23, offs24, hlt, hv, c0, hw, hw1]; refine hK _ ?_; clear hK K))
      refine ak_inv ⟨xs.length - (i + 1), _, by omega, ?_, ⟨i + 1, J, by omega, rfl, rfl, rfl⟩⟩
      rw [cnL_succ hlt, ← Int.add_assoc, hK]
      simp [subL, getT, hv, cnInt, Int.add_assoc]
    · have hk2 : i = xs.length := by omega
      subst hk2
      repeat (first | refine ak_seq ?_ | refine ak_block ?_ | refine ak_blk ?_ | refine ak_skip ?_ | refine ak_exit rfl ?_ | refine ak_cond_t rfl ?_ | refine ak_cond_f rfl ?_ | (refine ak_region fun K hK => ?_; simp [opsP, opP, pureOp, wantedA, putT, dstOk, evO, getT, evL, evP, enumT, plainV, binA, intA, sliceA, hiA, loA, evM, ldA, ldC, stA, newA, apA, destA, srcA, killO, buildA, fillA, setAll, cv_agg, cv_int, cv_bool, cv_slice, cv_ptr, allPlain, fnV, resA, resL, resOne, endR, cell_at, cell_at0, put_at, put_at0, rwOk_put, cell_put, wrL_nil, wrL_cons, wrO_none, wrO_some, rw_at, rw_at0, get_at, get_at0, kill_at, kill_at0, cell_c0, cell_cs, put_c0, put_cs, rw_c0, rw_cs, kill_c0, kill_cs, Heap.puts, wr, one_int, one_bool, one_slice, one_ptr, eqCells, offs11, offs12, offs13, offs14, offs21, offs22, offs23, offs24, hlt, ha]; refine hK _ ?_; clear hK K))
      refine ak_ret ?_
      simp [opsP, opP, pureOp, wantedA, putT, dstOk, evO, getT, evL, evP, enumT, plainV, binA, intA, sliceA, hiA, loA, evM, ldA, ldC, stA, newA, apA, destA, srcA, killO, buildA, fillA, setAll, cv_agg, cv_int, cv_bool, cv_slice, cv_ptr, allPlain, fnV, resA, resL, resOne, endR, cell_at, cell_at0, put_at, put_at0, rwOk_put, cell_put, wrL_nil, wrL_cons, wrO_none, wrO_some, rw_at, rw_at0, get_at, get_at0, kill_at, kill_at0, cell_c0, cell_cs, put_c0, put_cs, rw_c0, rw_cs, kill_c0, kill_cs, Heap.puts, wr, one_int, one_bool, one_slice, one_ptr, eqCells, offs11, offs12, offs13, offs14, offs21, offs22, offs23, offs24]

theorem heldGrantS_ac {H : Heap} {E : List Nat} {v : Value} {xs : List Gr} {k : Int} (h : RS 2 RGr H E v (mkL mkGr cnGr xs k)) (hk : 0 ≤ k) (hb : k + cnL cnGr xs ≤ 4611686018427387904) :
    AC Try.prog 123 [v, iv k] H (iv (k + cnL cnGr xs)) H [] := by
  obtain ⟨a1, c1, ha⟩ := h.form
  have hn := h.1
  rw [mkL_len] at ha hn
  refine AC.of_pure (N := 31) Try.func123 rfl (by kernel_rfl) rfl rfl (by simp) rfl ?_
  rw [ha]
  repeat (first | refine ak_seq ?_ | refine ak_block ?_ | refine ak_blk ?_ | refine ak_skip ?_ | refine ak_exit rfl ?_ | refine ak_cond_t rfl ?_ | refine ak_cond_f rfl ?_ | (refine ak_region fun K hK => ?_; simp [opsP, opP, pureOp, wantedA, putT, dstOk, evO, getT, evL, evP, enumT, plainV, binA, intA, sliceA, hiA, loA, evM, ldA, ldC, stA, newA, apA, destA, srcA, killO, buildA, fillA, setAll, cv_agg, cv_int, cv_bool, cv_slice, cv_ptr, allPlain, fnV, resA, resL, resOne, endR, cell_at, cell_at0, put_at, put_at0, rwOk_put, cell_put, wrL_nil, wrL_cons, wrO_none, wrO_some, rw_at, rw_at0, get_at, get_at0, kill_at, kill_at0, cell_c0, cell_cs, put_c0, put_cs, rw_c0, rw_cs, kill_c0, kill_cs, Heap.puts, wr, one_int, one_bool, one_slice, one_ptr, eqCells, offs11, offs12, offs13, offs14, offs21, offs22, offs23, offs24]; refine hK _ ?_; clear hK K))
  rw [← ha]
  refine ak_loopS (fun m ts H' => ∃ (i : Nat) (J : Heap), i ≤ xs.length ∧ m = xs.length - i ∧ H' = H ++ J ∧ ts = [(0, v), (1, iv (k + cnL cnGr (xs.take i))), (5, iv i)]) xs.length _ ?_ ⟨0, [], by omega, rfl, by simp, rfl⟩ ?_
  · simp [subL, getT, ha, cnL]
  · rintro m ts H1 ⟨i, J, hi, rfl, rfl, rfl⟩
    by_cases hlt : i < xs.length
    · have hle := cnL_le (c := cnGr) (xs := xs) cnGr_nn (i + 1)
      have hle0 := cnL_nn (c := cnGr) cnGr_nn (xs.take i)
      rw [cnL_succ hlt] at hle
      obtain ⟨id, o, Ek, cs, hv, hid, _, _, hR, hsz, hc⟩ := h.at (k := i) (by rw [mkL_len]; exact hlt)
      rw [mkL_len] at hv
      rw [mkL_get hlt] at hR
      generalize hK : k + cnL cnGr (xs.take i) = K at hR ⊢
      obtain ⟨_, rfl⟩ := hR
      have c0 := hc 0 _ rfl
      have c1 := hc 1 _ rfl
      simp only [Nat.mul_one, Nat.add_zero, mkGr] at c0 c1
      have hw := wrap_id (x := (i : Int) + 1) (by omega) (by omega)
      simp only [cnGr] at hle
      have hw1 := wrap_id (x := K + 1) (by omega) (by omega)
      have hw2 := wrap_id (x := K + 1 + 1) (by omega) (by omega)
      repeat (first | refine ak_seq ?_ | refine ak_block ?_ | refine ak_blk ?_ | refine ak_skip ?_ | refine ak_exit rfl ?_ | refine ak_cond_t rfl ?_ | refine ak_cond_f rfl ?_ | (refine ak_region fun K hK => ?_; simp [opsP, opP, pureOp, wantedA, putT, dstOk, evO, getT, evL, evP, enumT, plainV, binA, intA, sliceA, hiA, loA, evM, ldA, ldC, stA, newA, apA, destA, srcA, killO, buildA, fillA, setAll, cv_agg, cv_int, cv_bool, cv_slice, cv_ptr, allPlain, fnV, resA, resL, resOne, endR, cell_at, cell_at0, put_at, put_at0, rwOk_put, cell_put, wrL_nil, wrL_cons, wrO_none, wrO_some, rw_at, rw_at0, get_at, get_at0, kill_at, kill_at0, cell_c0, cell_cs, put_c0, put_cs, rw_c0, rw_cs, kill_c0, kill_cs, Heap.puts, wr, one_int, one_bool, one_slice, one_ptr, eqCells, offs11, offs12, offs13, offs14, offs21, offs22, offs23, offs24, hlt, hv, c0, c1, hw, hw1, hw2]; refine hK _ ?_; clear hK K))
      refine ak_inv ⟨xs.length - (i + 1), _, by omega, ?_, ⟨i + 1, J, by omega, rfl, rfl, rfl⟩⟩
      rw [cnL_succ hlt, ← Int.add_assoc, hK]
      simp [subL, getT, hv, cnGr, Int.add_assoc]
    · have hk2 : i = xs.length := by omega
      subst hk2
      repeat (first | refine ak_seq ?_ | refine ak_block ?_ | refine ak_blk ?_ | refine ak_skip ?_ | refine ak_exit rfl ?_ | refine ak_cond_t rfl ?_ | refine ak_cond_f rfl ?_ | (refine ak_region fun K hK => ?_; simp [opsP, opP, pureOp, wantedA, putT, dstOk, evO, getT, evL, evP, enumT, plainV, binA, intA, sliceA, hiA, loA, evM, ldA, ldC, stA, newA, apA, destA, srcA, killO, buildA, fillA, setAll, cv_agg, cv_int, cv_bool, cv_slice, cv_ptr, allPlain, fnV, resA, resL, resOne, endR, cell_at, cell_at0, put_at, put_at0, rwOk_put, cell_put, wrL_nil, wrL_cons, wrO_none, wrO_some, rw_at, rw_at0, get_at, get_at0, kill_at, kill_at0, cell_c0, cell_cs, put_c0, put_cs, rw_c0, rw_cs, kill_c0, kill_cs, Heap.puts, wr, one_int, one_bool, one_slice, one_ptr, eqCells, offs11, offs12, offs13, offs14, offs21, offs22, offs23, offs24, hlt, ha]; refine hK _ ?_; clear hK K))
      refine ak_ret ?_
      simp [opsP, opP, pureOp, wantedA, putT, dstOk, evO, getT, evL, evP, enumT, plainV, binA, intA, sliceA, hiA, loA, evM, ldA, ldC, stA, newA, apA, destA, srcA, killO, buildA, fillA, setAll, cv_agg, cv_int, cv_bool, cv_slice, cv_ptr, allPlain, fnV, resA, resL, resOne, endR, cell_at, cell_at0, put_at, put_at0, rwOk_put, cell_put, wrL_nil, wrL_cons, wrO_none, wrO_some, rw_at, rw_at0, get_at, get_at0, kill_at, kill_at0, cell_c0, cell_cs, put_c0, put_cs, rw_c0, rw_cs, kill_c0, kill_cs, Heap.puts, wr, one_int, one_bool, one_slice, one_ptr, eqCells, offs11, offs12, offs13, offs14, offs21, offs22, offs23, offs24]

theorem heldBodyS_ac {H : Heap} {E : List Nat} {v : Value} {xs : List Bd} {k : Int} (h : RS 4 RBd H E v (mkL mkBd cnBd xs k)) (hk : 0 ≤ k) (hb : k + cnL cnBd xs ≤ 4611686018427387904) :
    AC Try.prog 108 [v, iv k] H (iv (k + cnL cnBd xs)) H [] := by
  obtain ⟨a1, c1, ha⟩ := h.form
  have hn := h.1
  rw [mkL_len] at ha hn
  refine AC.of_pure (N := 49) Try.func108 rfl (by kernel_rfl) rfl rfl (by simp) rfl ?_
  rw [ha]
  repeat (first | refine ak_seq ?_ | refine ak_block ?_ | refine ak_blk ?_ | refine ak_skip ?_ | refine ak_exit rfl ?_ | refine ak_cond_t rfl ?_ | refine ak_cond_f rfl ?_ | (refine ak_region fun K hK => ?_; simp [opsP, opP, pureOp, wantedA, putT, dstOk, evO, getT, evL, evP, enumT, plainV, binA, intA, sliceA, hiA, loA, evM, ldA, ldC, stA, newA, apA, destA, srcA, killO, buildA, fillA, setAll, cv_agg, cv_int, cv_bool, cv_slice, cv_ptr, allPlain, fnV, resA, resL, resOne, endR, cell_at, cell_at0, put_at, put_at0, rwOk_put, cell_put, wrL_nil, wrL_cons, wrO_none, wrO_some, rw_at, rw_at0, get_at, get_at0, kill_at, kill_at0, cell_c0, cell_cs, put_c0, put_cs, rw_c0, rw_cs, kill_c0, kill_cs, Heap.puts, wr, one_int, one_bool, one_slice, one_ptr, eqCells, offs11, offs12, offs13, offs14, offs21, offs22, offs23, offs24]; refine hK _ ?_; clear hK K))
  rw [← ha]
  refine ak_loopS (fun m ts H' => ∃ (i : Nat) (J : Heap), i ≤ xs.length ∧ m = xs.length - i ∧ H' = H ++ J ∧ ts = [(0, v), (1, iv (k + cnL cnBd (xs.take i))), (5, iv i)]) xs.length _ ?_ ⟨0, [], by omega, rfl, by simp, rfl⟩ ?_
  · simp [subL, getT, ha, cnL]
  · rintro m ts H1 ⟨i, J, hi, rfl, rfl, rfl⟩
    by_cases hlt : i < xs.length
    · have hle := cnL_le (c := cnBd) (xs := xs) cnBd_nn (i + 1)
      have hle0 := cnL_nn (c := cnBd) cnBd_nn (xs.take i)
      rw [cnL_succ hlt] at hle
      obtain ⟨id, o, Ek, cs, hv, hid, _, _, hR, hsz, hc⟩ := h.at (k := i) (by rw [mkL_len]; exact hlt)
      rw [mkL_len] at hv
      rw [mkL_get hlt] at hR
      generalize hK : k + cnL cnBd (xs.take i) = K at hR ⊢
      obtain ⟨_, rfl⟩ := hR
      have c0 := hc 0 _ rfl
      have c1 := hc 1 _ rfl
      have c2 := hc 2 _ rfl
      have c3 := hc 3 _ rfl
      simp only [Nat.mul_one, Nat.add_zero, mkBd] at c0 c1 c2 c3
      have hw := wrap_id (x := (i : Int) + 1) (by omega) (by omega)
      simp only [cnBd] at hle
      have hw1 := wrap_id (x := K + 1) (by omega) (by omega)
      have hw2 := wrap_id (x := K + 1 + 1) (by omega) (by omega)
      have hw3 := wrap_id (x := K + 1 + 1 + 1) (by omega) (by omega)
      have hw4 := wrap_id (x := K + 1 + 1 + 1 + 1) (by omega) (by omega)
      repeat (first | refine ak_seq ?_ | refine ak_block ?_ | refine ak_blk ?_ | refine ak_skip ?_ | refine ak_exit rfl ?_ | refine ak_cond_t rfl ?_ | refine ak_cond_f rfl ?_ | (refine ak_region fun K hK => ?_; simp [opsP, opP, pureOp, wantedA, putT, dstOk, evO, getT, evL, evP, enumT, plainV, binA, intA, sliceA, hiA, loA, evM, ldA, ldC, stA, newA, apA, destA, srcA, killO, buildA, fillA, setAll, cv_agg, cv_int, cv_bool, cv_slice, cv_ptr, allPlain, fnV, resA, resL, resOne, endR, cell_at, cell_at0, put_at, put_at0, rwOk_put, cell_put, wrL_nil, wrL_cons, wrO_none, wrO_some, rw_at, rw_at0, get_at, get_at0, kill_at, kill_at0, cell_c0, cell_cs, put_c0, put_cs, rw_c0, rw_cs, kill_c0, kill_cs, Heap.puts, wr, one_int, one_bool, one_slice, one_ptr, eqCells, offs11, offs12, offs13, offs14, offs21, offs22, offs23, offs24, hlt, hv, c0, c1, c2, c3, hw, hw1, hw2, hw3, hw4]; refine hK _ ?_; clear hK K))
      refine ak_inv ⟨xs.length - (i + 1), _, by omega, ?_, ⟨i + 1, J, by omega, rfl, rfl, rfl⟩⟩
      rw [cnL_succ hlt, ← Int.add_assoc, hK]
      simp [subL, getT, hv, cnBd, Int.add_assoc]
    · have hk2 : i = xs.length := by omega
      subst hk2
      repeat (first | refine ak_seq ?_ | refine ak_block ?_ | refine ak_blk ?_ | refine ak_skip ?_ | refine ak_exit rfl ?_ | refine ak_cond_t rfl ?_ | refine ak_cond_f rfl ?_ | (refine ak_region fun K hK => ?_; simp [opsP, opP, pureOp, wantedA, putT, dstOk, evO, getT, evL, evP, enumT, plainV, binA, intA, sliceA, hiA, loA, evM, ldA, ldC, stA, newA, apA, destA, srcA, killO, buildA, fillA, setAll, cv_agg, cv_int, cv_bool, cv_slice, cv_ptr, allPlain, fnV, resA, resL, resOne, endR, cell_at, cell_at0, put_at, put_at0, rwOk_put, cell_put, wrL_nil, wrL_cons, wrO_none, wrO_some, rw_at, rw_at0, get_at, get_at0, kill_at, kill_at0, cell_c0, cell_cs, put_c0, put_cs, rw_c0, rw_cs, kill_c0, kill_cs, Heap.puts, wr, one_int, one_bool, one_slice, one_ptr, eqCells, offs11, offs12, offs13, offs14, offs21, offs22, offs23, offs24, hlt, ha]; refine hK _ ?_; clear hK K))
      refine ak_ret ?_
      simp [opsP, opP, pureOp, wantedA, putT, dstOk, evO, getT, evL, evP, enumT, plainV, binA, intA, sliceA, hiA, loA, evM, ldA, ldC, stA, newA, apA, destA, srcA, killO, buildA, fillA, setAll, cv_agg, cv_int, cv_bool, cv_slice, cv_ptr, allPlain, fnV, resA, resL, resOne, endR, cell_at, cell_at0, put_at, put_at0, rwOk_put, cell_put, wrL_nil, wrL_cons, wrO_none, wrO_some, rw_at, rw_at0, get_at, get_at0, kill_at, kill_at0, cell_c0, cell_cs, put_c0, put_cs, rw_c0, rw_cs, kill_c0, kill_cs, Heap.puts, wr, one_int, one_bool, one_slice, one_ptr, eqCells, offs11, offs12, offs13, offs14, offs21, offs22, offs23, offs24]

end Go.Proofs.Ytpoedfmkiiijnaa
