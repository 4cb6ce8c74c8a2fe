/- Begin, of the program and of the reference. Walks. -/
import Derived.Test.YtpoedfmkiiijnaaTy
import Derived.Test.YtpoedfmkiiijnaaPur
import Derived.Test.YtpoedfmkiiijnaaApd
namespace Go.Proofs.Ytpoedfmkiiijnaa
open Go Go.RowKit Go.Proofs.YtpoedfmkiiijnaaAm
set_option linter.unusedVariables false
set_option linter.unusedSimpArgs false
set_option maxRecDepth 10000

theorem in_ac {H : Heap} (x a b : Int) : AC Try.prog 84 [iv x, iv a, iv b] H (.bool (inB x a b)) H [] := by
  refine AC.of_pure (N := 15) Try.func84 rfl (by kernel_rfl) rfl rfl (by simp) rfl ?_
  by_cases h1 : a ≤ x <;> by_cases h2 : x ≤ b <;> (repeat (first | refine ak_seq ?_ | refine ak_block ?_ | refine ak_blk ?_ | refine ak_skip ?_ | refine ak_exit rfl ?_ | refine ak_cond_t rfl ?_ | refine ak_cond_f rfl ?_ | (refine ak_region fun K hK => ?_; simp [opsP, opP, pureOp, wantedA, putT, dstOk, evO, getT, evL, evP, enumT, plainV, binA, intA, sliceA, hiA, loA, evM, ldA, ldC, stA, newA, apA, destA, srcA, killO, buildA, fillA, setAll, cv_agg, cv_int, cv_bool, cv_slice, cv_ptr, allPlain, fnV, resA, resL, resOne, endR, cell_at, cell_at0, put_at, put_at0, rwOk_put, cell_put, wrL_nil, wrL_cons, wrO_none, wrO_some, rw_at, rw_at0, get_at, get_at0, kill_at, kill_at0, cell_c0, cell_cs, put_c0, put_cs, rw_c0, rw_cs, kill_c0, kill_cs, Heap.puts, wr, one_int, one_bool, one_slice, one_ptr, eqCells, offs11, offs12, offs13, offs14, offs21, offs22, offs23, offs24, h1, h2]; refine hK _ ?_; clear hK K))) <;> (refine ak_ret ?_) <;> simp [opsP, opP, pureOp, wantedA, putT, dstOk, evO, getT, evL, evP, enumT, plainV, binA, intA, sliceA, hiA, loA, evM, ldA, ldC, stA, newA, apA, destA, srcA, killO, buildA, fillA, setAll, cv_agg, cv_int, cv_bool, cv_slice, cv_ptr, allPlain, fnV, resA, resL, resOne, endR, cell_at, cell_at0, put_at, put_at0, rwOk_put, cell_put, wrL_nil, wrL_cons, wrO_none, wrO_some, rw_at, rw_at0, get_at, get_at0, kill_at, kill_at0, cell_c0, cell_cs, put_c0, put_cs, rw_c0, rw_cs, kill_c0, kill_cs, Heap.puts, wr, one_int, one_bool, one_slice, one_ptr, eqCells, offs11, offs12, offs13, offs14, offs21, offs22, offs23, offs24, inB, h1, h2]
theorem l1in_ac {H : Heap} (x a b : Int) : AC Try.prog 83 [iv x, iv a, iv b] H (.bool (inB x a b)) H [] := by
  refine AC.of_pure (N := 15) Try.func83 rfl (by kernel_rfl) rfl rfl (by simp) rfl ?_
  by_cases h1 : a ≤ x <;> by_cases h2 : x ≤ b <;> (repeat (first | refine ak_seq ?_ | refine ak_block ?_ | refine ak_blk ?_ | refine ak_skip ?_ | refine ak_exit rfl ?_ | refine ak_cond_t rfl ?_ | refine ak_cond_f rfl ?_ | (refine ak_region fun K hK => ?_; simp [opsP, opP, pureOp, wantedA, putT, dstOk, evO, getT, evL, evP, enumT, plainV, binA, intA, sliceA, hiA, loA, evM, ldA, ldC, stA, newA, apA, destA, srcA, killO, buildA, fillA, setAll, cv_agg, cv_int, cv_bool, cv_slice, cv_ptr, allPlain, fnV, resA, resL, resOne, endR, cell_at, cell_at0, put_at, put_at0, rwOk_put, cell_put, wrL_nil, wrL_cons, wrO_none, wrO_some, rw_at, rw_at0, get_at, get_at0, kill_at, kill_at0, cell_c0, cell_cs, put_c0, put_cs, rw_c0, rw_cs, kill_c0, kill_cs, Heap.puts, wr, one_int, one_bool, one_slice, one_ptr, eqCells, offs11, offs12, offs13, offs14, offs21, offs22, offs23, offs24, h1, h2]; refine hK _ ?_; clear hK K))) <;> (refine ak_ret ?_) <;> simp [opsP, opP, pureOp, wantedA, putT, dstOk, evO, getT, evL, evP, enumT, plainV, binA, intA, sliceA, hiA, loA, evM, ldA, ldC, stA, newA, apA, destA, srcA, killO, buildA, fillA, setAll, cv_agg, cv_int, cv_bool, cv_slice, cv_ptr, allPlain, fnV, resA, resL, resOne, endR, cell_at, cell_at0, put_at, put_at0, rwOk_put, cell_put, wrL_nil, wrL_cons, wrO_none, wrO_some, rw_at, rw_at0, get_at, get_at0, kill_at, kill_at0, cell_c0, cell_cs, put_c0, put_cs, rw_c0, rw_cs, kill_c0, kill_cs, Heap.puts, wr, one_int, one_bool, one_slice, one_ptr, eqCells, offs11, offs12, offs13, offs14, offs21, offs22, offs23, offs24, inB, h1, h2]

/-- The loop of Begin: the book in its block, with so many lines. -/
structure BegI (H : Heap) (s : Int) (k : Nat) (H1 : Heap) (vl : Value) (E : List Nat) : Prop where
  len : H.length + 2 ≤ H1.length
  low : ∀ i, i < H.length → H1[i]? = H[i]?
  b4 : H1[H.length]? = some ⟨25, [.bool false, iv 0, nl], true, true⟩
  b5 : H1[H.length + 1]? = some ⟨25, [.bool true, iv s, vl], true, true⟩
  rep : RW 43 4 RLn H1 E vl (List.replicate k line0)
  own : Own H1 E
  new : ∀ e, e ∈ E → H.length + 2 ≤ e
theorem begStep {H H1 : Heap} {s : Int} {k : Nat} {vl : Value} {E : List Nat} (h : BegI H s k H1 vl E) (hk : k < 1000) : ∃ k' v' H2 E',
    apA Try.prog (H1 ++ [⟨45, [iv 0, iv 0], true, true⟩, ⟨43, [iv 0, nl, sl H1.length 0 1, iv (-1)], true, true⟩]) [23, 23] vl (sl (H1.length + 1) 0 1) = some (k', v', H2) ∧ wrO H.length [] k' ∧
    Heap.rwOk H2 (H.length + 1) = true ∧ Heap.cell H2 (H.length + 1) 2 = some vl ∧ BegI H s (k + 1) (H2.put (H.length + 1) 2 v') v' E' := by
  have hln : RLn (H1 ++ [⟨45, [iv 0, iv 0], true, true⟩, ⟨43, [iv 0, nl, sl H1.length 0 1, iv (-1)], true, true⟩]) [H1.length] line0 [iv 0, nl, sl H1.length 0 1, iv (-1)] :=
    ⟨[], [H1.length], nl, sl H1.length 0 1, rfl, rfl, ⟨by simp [line0], .inl ⟨.inl rfl, rfl, rfl⟩⟩, ⟨by simp [line0], .inr ⟨H1.length, 0, [], 45, true, [], [iv 0, iv 0], [], rfl, rfl, by simp, rfl, [], [], [iv 0, iv 0], [], rfl, rfl, rfl, ⟨rfl, rfl⟩, rfl, rfl⟩⟩⟩
  have hnE : ∀ i, i ∈ E → i < H1.length := h.rep.bd RLn.frm
  obtain ⟨k', v', H2, E', e1, e2, e3, e4, e5, e6, e7, e8⟩ := apA_RW (P := Try.prog) (t := 23) (e := 43) (sz := 3) (by' := 64) (z := .agg #[iv 0, nl, nl, iv 0]) (by simp) (by simp) (by simp) (by simp) rfl RLn.frm (h.rep.ext RLn.frm (L := [⟨45, [iv 0, iv 0], true, true⟩, ⟨43, [iv 0, nl, sl H1.length 0 1, iv (-1)], true, true⟩])) (w := sl (H1.length + 1) 0 1) (ys := [line0]) (news := [iv 0, nl, sl H1.length 0 1, iv (-1)])
    (by simp [srcA, ldC, cell_at, cell_cs, cell_c0]) ⟨[H1.length], [], _, [], rfl, rfl, rfl, hln, rfl, rfl⟩ rfl h.own.1 (by simp) (fun i hi hj => by have := hnE i hi; simp at hj; omega) (by simp; omega) (by simp [maxLen]; omega)
  have hp : ∀ i, i < H.length + 2 → H2[i]? = H1[i]? := fun i hi => by
    have := h.len
    rw [e4 i (by simp; omega) fun hh => by have := h.new i hh; omega, List.getElem?_append_left (by omega)]
  have hE'new : ∀ e, e ∈ E' → H.length + 2 ≤ e := fun e he => by
    have := h.len
    rcases e7 e he with ⟨h1 | h1, _⟩ | ⟨h1, _⟩
    · exact h.new e h1
    · simp at h1; omega
    · simp at h1; omega
  have hb5 : H2[H.length + 1]? = some ⟨25, [.bool true, iv s, vl], true, true⟩ := by rw [hp _ (by omega), h.b5]
  have hput : ∀ i, i ≠ H.length + 1 → (H2.put (H.length + 1) 2 v')[i]? = H2[i]? := fun i hi => get_put_ne H2 2 v' hi
  refine ⟨k', v', H2, E', e1, fun i hi => .inl (by have := h.new i (e2 i hi).1; omega), by unfold Heap.rwOk; rw [hb5]; rfl, by unfold Heap.cell; rw [hb5]; rfl, ⟨?_, ?_, ?_, ?_, ?_, ?_, hE'new⟩⟩
  · have := h.len; rw [length_put]; simp at e3; omega
  · intro i hi; rw [hput i (by omega), hp i (by omega), h.low i hi]
  · rw [hput _ (by omega), hp _ (by omega), h.b4]
  · rw [get_put, hb5]; rfl
  · have := e5.fr RLn.frm (H' := H2.put (H.length + 1) 2 v') fun i hi _ => hput i (by have := hE'new i hi; omega)
    rwa [show List.replicate k line0 ++ [line0] = List.replicate (k + 1) line0 from List.replicate_succ'.symm] at this
  · refine ⟨e6, fun i hi => ?_⟩
    rw [rwOk_put]
    rcases e7 i hi with ⟨h1 | h1, h2, h3⟩ | ⟨h1, h2⟩
    · have := h.own.2 i h1
      unfold Heap.rwOk at this ⊢
      rw [h3, List.getElem?_append_left (hnE i h1)]; exact this
    · simp at h1; subst h1
      unfold Heap.rwOk
      rw [h3]; simp
    · exact h2

theorem specBegin_mk {H : Heap} (s t : Int) : Mkr Try.prog 20 [iv s, iv t] H fun H' E v => ∃ cs, v = .agg cs.toArray ∧ RBk H' E (beginB s t) cs := by
  refine Mkr.of_body (N := 32) Try.func20 rfl (by kernel_rfl) rfl rfl (by simp) ?_
  cases h1 : inB s 1 200
  · repeat (first | refine ak_seq ?_ | refine ak_block ?_ | refine ak_blk ?_ | refine ak_skip ?_ | refine ak_exit rfl ?_ | refine ak_cond_t rfl ?_ | refine ak_cond_f rfl ?_ | (refine ak_region fun K hK => ?_; simp [opsP, opP, pureOp, wantedA, putT, dstOk, evO, getT, evL, evP, enumT, plainV, binA, intA, sliceA, hiA, loA, evM, ldA, ldC, stA, newA, apA, destA, srcA, killO, buildA, fillA, setAll, cv_agg, cv_int, cv_bool, cv_slice, cv_ptr, allPlain, fnV, resA, resL, resOne, endR, cell_at, cell_at0, put_at, put_at0, rwOk_put, cell_put, wrL_nil, wrL_cons, wrO_none, wrO_some, rw_at, rw_at0, get_at, get_at0, kill_at, kill_at0, cell_c0, cell_cs, put_c0, put_cs, rw_c0, rw_cs, kill_c0, kill_cs, Heap.puts, wr, one_int, one_bool, one_slice, one_ptr, eqCells, offs11, offs12, offs13, offs14, offs21, offs22, offs23, offs24, h1]; (repeat (first | (refine Ask.go (l1in_ac _ _ _) ?_; simp [opsP, opP, pureOp, wantedA, putT, dstOk, evO, getT, evL, evP, enumT, plainV, binA, intA, sliceA, hiA, loA, evM, ldA, ldC, stA, newA, apA, destA, srcA, killO, buildA, fillA, setAll, cv_agg, cv_int, cv_bool, cv_slice, cv_ptr, allPlain, fnV, resA, resL, resOne, endR, cell_at, cell_at0, put_at, put_at0, rwOk_put, cell_put, wrL_nil, wrL_cons, wrO_none, wrO_some, rw_at, rw_at0, get_at, get_at0, kill_at, kill_at0, cell_c0, cell_cs, put_c0, put_cs, rw_c0, rw_cs, kill_c0, kill_cs, Heap.puts, wr, one_int, one_bool, one_slice, one_ptr, eqCells, offs11, offs12, offs13, offs14, offs21, offs22, offs23, offs24, h1]))); refine hK _ ?_; clear hK K))
    refine ak_ret ?_
    simp [opsP, opP, pureOp, wantedA, putT, dstOk, evO, getT, evL, evP, enumT, plainV, binA, intA, sliceA, hiA, loA, evM, ldA, ldC, stA, newA, apA, destA, srcA, killO, buildA, fillA, setAll, cv_agg, cv_int, cv_bool, cv_slice, cv_ptr, allPlain, fnV, resA, resL, resOne, endR, cell_at, cell_at0, put_at, put_at0, rwOk_put, cell_put, wrL_nil, wrL_cons, wrO_none, wrO_some, rw_at, rw_at0, get_at, get_at0, kill_at, kill_at0, cell_c0, cell_cs, put_c0, put_cs, rw_c0, rw_cs, kill_c0, kill_cs, Heap.puts, wr, one_int, one_bool, one_slice, one_ptr, eqCells, offs11, offs12, offs13, offs14, offs21, offs22, offs23, offs24]
    exact ⟨fun i hi => List.getElem?_append_left hi, [], ⟨nl, by simp [beginB, h1, bk0], by simp [beginB, h1, bk0], .inl ⟨.inl rfl, by simp [beginB, h1, bk0], rfl⟩⟩, ⟨List.nodup_nil, fun i hi => by simp at hi⟩, fun i hi => by simp at hi⟩
  cases h2 : inB t 0 20
  · repeat (first | refine ak_seq ?_ | refine ak_block ?_ | refine ak_blk ?_ | refine ak_skip ?_ | refine ak_exit rfl ?_ | refine ak_cond_t rfl ?_ | refine ak_cond_f rfl ?_ | (refine ak_region fun K hK => ?_; simp [opsP, opP, pureOp, wantedA, putT, dstOk, evO, getT, evL, evP, enumT, plainV, binA, intA, sliceA, hiA, loA, evM, ldA, ldC, stA, newA, apA, destA, srcA, killO, buildA, fillA, setAll, cv_agg, cv_int, cv_bool, cv_slice, cv_ptr, allPlain, fnV, resA, resL, resOne, endR, cell_at, cell_at0, put_at, put_at0, rwOk_put, cell_put, wrL_nil, wrL_cons, wrO_none, wrO_some, rw_at, rw_at0, get_at, get_at0, kill_at, kill_at0, cell_c0, cell_cs, put_c0, put_cs, rw_c0, rw_cs, kill_c0, kill_cs, Heap.puts, wr, one_int, one_bool, one_slice, one_ptr, eqCells, offs11, offs12, offs13, offs14, offs21, offs22, offs23, offs24, h1, h2]; (repeat (first | (refine Ask.go (l1in_ac _ _ _) ?_; simp [opsP, opP, pureOp, wantedA, putT, dstOk, evO, getT, evL, evP, enumT, plainV, binA, intA, sliceA, hiA, loA, evM, ldA, ldC, stA, newA, apA, destA, srcA, killO, buildA, fillA, setAll, cv_agg, cv_int, cv_bool, cv_slice, cv_ptr, allPlain, fnV, resA, resL, resOne, endR, cell_at, cell_at0, put_at, put_at0, rwOk_put, cell_put, wrL_nil, wrL_cons, wrO_none, wrO_some, rw_at, rw_at0, get_at, get_at0, kill_at, kill_at0, cell_c0, cell_cs, put_c0, put_cs, rw_c0, rw_cs, kill_c0, kill_cs, Heap.puts, wr, one_int, one_bool, one_slice, one_ptr, eqCells, offs11, offs12, offs13, offs14, offs21, offs22, offs23, offs24, h1, h2]))); refine hK _ ?_; clear hK K))
    refine ak_ret ?_
    simp [opsP, opP, pureOp, wantedA, putT, dstOk, evO, getT, evL, evP, enumT, plainV, binA, intA, sliceA, hiA, loA, evM, ldA, ldC, stA, newA, apA, destA, srcA, killO, buildA, fillA, setAll, cv_agg, cv_int, cv_bool, cv_slice, cv_ptr, allPlain, fnV, resA, resL, resOne, endR, cell_at, cell_at0, put_at, put_at0, rwOk_put, cell_put, wrL_nil, wrL_cons, wrO_none, wrO_some, rw_at, rw_at0, get_at, get_at0, kill_at, kill_at0, cell_c0, cell_cs, put_c0, put_cs, rw_c0, rw_cs, kill_c0, kill_cs, Heap.puts, wr, one_int, one_bool, one_slice, one_ptr, eqCells, offs11, offs12, offs13, offs14, offs21, offs22, offs23, offs24]
    exact ⟨fun i hi => List.getElem?_append_left hi, [], ⟨nl, by simp [beginB, h2, bk0], by simp [beginB, h2, bk0], .inl ⟨.inl rfl, by simp [beginB, h2, bk0], rfl⟩⟩, ⟨List.nodup_nil, fun i hi => by simp at hi⟩, fun i hi => by simp at hi⟩
  simp only [inB, Bool.and_eq_true, decide_eq_true_eq] at h2
  obtain ⟨t, rfl⟩ : ∃ n : Nat, t = n := ⟨t.toNat, by omega⟩
  have h2' : inB t 0 20 = true := by simp [inB]; omega
  repeat (first | refine ak_seq ?_ | refine ak_block ?_ | refine ak_blk ?_ | refine ak_skip ?_ | refine ak_exit rfl ?_ | refine ak_cond_t rfl ?_ | refine ak_cond_f rfl ?_ | (refine ak_region fun K hK => ?_; simp [opsP, opP, pureOp, wantedA, putT, dstOk, evO, getT, evL, evP, enumT, plainV, binA, intA, sliceA, hiA, loA, evM, ldA, ldC, stA, newA, apA, destA, srcA, killO, buildA, fillA, setAll, cv_agg, cv_int, cv_bool, cv_slice, cv_ptr, allPlain, fnV, resA, resL, resOne, endR, cell_at, cell_at0, put_at, put_at0, rwOk_put, cell_put, wrL_nil, wrL_cons, wrO_none, wrO_some, rw_at, rw_at0, get_at, get_at0, kill_at, kill_at0, cell_c0, cell_cs, put_c0, put_cs, rw_c0, rw_cs, kill_c0, kill_cs, Heap.puts, wr, one_int, one_bool, one_slice, one_ptr, eqCells, offs11, offs12, offs13, offs14, offs21, offs22, offs23, offs24, h1, h2']; (repeat (first | (refine Ask.go (l1in_ac _ _ _) ?_; simp [opsP, opP, pureOp, wantedA, putT, dstOk, evO, getT, evL, evP, enumT, plainV, binA, intA, sliceA, hiA, loA, evM, ldA, ldC, stA, newA, apA, destA, srcA, killO, buildA, fillA, setAll, cv_agg, cv_int, cv_bool, cv_slice, cv_ptr, allPlain, fnV, resA, resL, resOne, endR, cell_at, cell_at0, put_at, put_at0, rwOk_put, cell_put, wrL_nil, wrL_cons, wrO_none, wrO_some, rw_at, rw_at0, get_at, get_at0, kill_at, kill_at0, cell_c0, cell_cs, put_c0, put_cs, rw_c0, rw_cs, kill_c0, kill_cs, Heap.puts, wr, one_int, one_bool, one_slice, one_ptr, eqCells, offs11, offs12, offs13, offs14, offs21, offs22, offs23, offs24, h1, h2']))); refine hK _ ?_; clear hK K))
  refine ak_loopS (fun m ts H' => ∃ (k : Nat) (vl : Value) (E : List Nat), k ≤ t ∧ m = t - k ∧ BegI H s k H' vl E ∧ ts = [(0, iv s), (1, iv t), (4, pt H.length 0), (5, pt (H.length + 1) 0), (6, iv k)]) t _ ?_ ⟨0, nl, [], by omega, rfl, ⟨by simp, fun i hi => List.getElem?_append_left hi, by simp, by simp, .inl ⟨rfl, rfl, rfl⟩, ⟨List.nodup_nil, fun i hi => by simp at hi⟩, fun i hi => by simp at hi⟩, rfl⟩ ?_
  · simp [subL, getT]
  · rintro m ts H1 ⟨k, vl, E, hk, rfl, hI, rfl⟩
    by_cases hlt : k < t
    · obtain ⟨k', v', H2, E', e1, e2, e3, e4, e5⟩ := begStep hI (by omega)
      obtain ⟨a', c', hv'⟩ := e5.rep.form
      rw [List.length_replicate] at hv'
      subst hv'
      have c2 : ∀ L, Heap.cell (H1 ++ L) (H.length + 1) 2 = some vl := fun L => by
        unfold Heap.cell; rw [List.getElem?_append_left (by have := hI.len; omega), hI.b5]; rfl
      have c2' := c2 []
      rw [List.append_nil] at c2'
      have hw := wrap_id (x := (k : Int) + 1) (by omega) (by omega)
      repeat (first | refine ak_seq ?_ | refine ak_block ?_ | refine ak_blk ?_ | refine ak_skip ?_ | refine ak_exit rfl ?_ | refine ak_cond_t rfl ?_ | refine ak_cond_f rfl ?_ | (refine ak_region fun K hK => ?_; simp [opsP, opP, pureOp, wantedA, putT, dstOk, evO, getT, evL, evP, enumT, plainV, binA, intA, sliceA, hiA, loA, evM, ldA, ldC, stA, newA, apA, destA, srcA, killO, buildA, fillA, setAll, cv_agg, cv_int, cv_bool, cv_slice, cv_ptr, allPlain, fnV, resA, resL, resOne, endR, cell_at, cell_at0, put_at, put_at0, rwOk_put, cell_put, wrL_nil, wrL_cons, wrO_none, wrO_some, rw_at, rw_at0, get_at, get_at0, kill_at, kill_at0, cell_c0, cell_cs, put_c0, put_cs, rw_c0, rw_cs, kill_c0, kill_cs, Heap.puts, wr, one_int, one_bool, one_slice, one_ptr, eqCells, offs11, offs12, offs13, offs14, offs21, offs22, offs23, offs24, hlt, hw]; refine hK _ ?_; clear hK K))
      refine ak_region fun K hK => ?_; simp [opsP, opP, pureOp, wantedA, putT, dstOk, evO, getT, evL, evP, enumT, plainV, binA, intA, sliceA, hiA, loA, evM, ldA, ldC, stA, newA, buildA, fillA, setAll, cv_agg, cv_int, cv_bool, cv_slice, cv_ptr, allPlain, fnV, resA, resL, resOne, endR, cell_at, cell_at0, put_at, put_at0, rwOk_put, cell_put, wrL_nil, wrL_cons, wrO_none, wrO_some, rw_at, rw_at0, get_at, get_at0, kill_at, kill_at0, cell_c0, cell_cs, put_c0, put_cs, rw_c0, rw_cs, kill_c0, kill_cs, Heap.puts, wr, one_int, one_bool, one_slice, one_ptr, eqCells, offs11, offs12, offs13, offs14, offs21, offs22, offs23, offs24, c2, c2', e1, e2, e3, e4]
      refine hK _ ?_; clear hK K
      repeat (first | refine ak_seq ?_ | refine ak_block ?_ | refine ak_blk ?_ | refine ak_skip ?_ | refine ak_exit rfl ?_ | refine ak_cond_t rfl ?_ | refine ak_cond_f rfl ?_ | (refine ak_region fun K hK => ?_; simp [opsP, opP, pureOp, wantedA, putT, dstOk, evO, getT, evL, evP, enumT, plainV, binA, intA, sliceA, hiA, loA, evM, ldA, ldC, stA, newA, apA, destA, srcA, killO, buildA, fillA, setAll, cv_agg, cv_int, cv_bool, cv_slice, cv_ptr, allPlain, fnV, resA, resL, resOne, endR, cell_at, cell_at0, put_at, put_at0, rwOk_put, cell_put, wrL_nil, wrL_cons, wrO_none, wrO_some, rw_at, rw_at0, get_at, get_at0, kill_at, kill_at0, cell_c0, cell_cs, put_c0, put_cs, rw_c0, rw_cs, kill_c0, kill_cs, Heap.puts, wr, one_int, one_bool, one_slice, one_ptr, eqCells, offs11, offs12, offs13, offs14, offs21, offs22, offs23, offs24, hlt, hw]; refine hK _ ?_; clear hK K))
      refine ak_inv ⟨t - (k + 1), _, by omega, ?_, ⟨k + 1, _, E', by omega, rfl, e5, rfl⟩⟩
      simp [subL, getT]
    · have hk2 : k = t := by omega
      subst hk2
      have hlen := hI.len
      obtain ⟨a', c', hv'⟩ := hI.rep.form
      rw [List.length_replicate] at hv'
      subst hv'
      have c0 : Heap.cell H1 (H.length + 1) 0 = some (.bool true) := by unfold Heap.cell; rw [hI.b5]; rfl
      have c1 : Heap.cell H1 (H.length + 1) 1 = some (iv s) := by unfold Heap.cell; rw [hI.b5]; rfl
      have c2 : Heap.cell H1 (H.length + 1) 2 = some (.slice a' k c') := by unfold Heap.cell; rw [hI.b5]; rfl
      have d0 : Heap.cell H1 H.length 0 = some (.bool false) := by unfold Heap.cell; rw [hI.b4]; rfl
      have d1 : Heap.cell H1 H.length 1 = some (iv 0) := by unfold Heap.cell; rw [hI.b4]; rfl
      have d2 : Heap.cell H1 H.length 2 = some nl := by unfold Heap.cell; rw [hI.b4]; rfl
      have hrw : Heap.rwOk H1 H.length = true := by unfold Heap.rwOk; rw [hI.b4]; rfl
      repeat (first | refine ak_seq ?_ | refine ak_block ?_ | refine ak_blk ?_ | refine ak_skip ?_ | refine ak_exit rfl ?_ | refine ak_cond_t rfl ?_ | refine ak_cond_f rfl ?_ | (refine ak_region fun K hK => ?_; simp [opsP, opP, pureOp, wantedA, putT, dstOk, evO, getT, evL, evP, enumT, plainV, binA, intA, sliceA, hiA, loA, evM, ldA, ldC, stA, newA, apA, destA, srcA, killO, buildA, fillA, setAll, cv_agg, cv_int, cv_bool, cv_slice, cv_ptr, allPlain, fnV, resA, resL, resOne, endR, cell_at, cell_at0, put_at, put_at0, rwOk_put, cell_put, wrL_nil, wrL_cons, wrO_none, wrO_some, rw_at, rw_at0, get_at, get_at0, kill_at, kill_at0, cell_c0, cell_cs, put_c0, put_cs, rw_c0, rw_cs, kill_c0, kill_cs, Heap.puts, wr, one_int, one_bool, one_slice, one_ptr, eqCells, offs11, offs12, offs13, offs14, offs21, offs22, offs23, offs24, hlt, c0, c1, c2, d0, d1, d2, hrw]; refine hK _ ?_; clear hK K))
      refine ak_ret ?_
      simp [opsP, opP, pureOp, wantedA, putT, dstOk, evO, getT, evL, evP, enumT, plainV, binA, intA, sliceA, hiA, loA, evM, ldA, ldC, stA, newA, apA, destA, srcA, killO, buildA, fillA, setAll, cv_agg, cv_int, cv_bool, cv_slice, cv_ptr, allPlain, fnV, resA, resL, resOne, endR, cell_at, cell_at0, put_at, put_at0, rwOk_put, cell_put, wrL_nil, wrL_cons, wrO_none, wrO_some, rw_at, rw_at0, get_at, get_at0, kill_at, kill_at0, cell_c0, cell_cs, put_c0, put_cs, rw_c0, rw_cs, kill_c0, kill_cs, Heap.puts, wr, one_int, one_bool, one_slice, one_ptr, eqCells, offs11, offs12, offs13, offs14, offs21, offs22, offs23, offs24, c0, c1, c2, d0, d1, d2]
      have hput : ∀ (i : Nat), i ≠ H.length → (((H1.put H.length 0 (.bool true)).put H.length 1 (iv s)).put H.length 2 (.slice a' k c'))[i]? = H1[i]? := fun i hi => by rw [get_put_ne _ _ _ hi, get_put_ne _ _ _ hi, get_put_ne _ _ _ hi]
      refine ⟨by simp only [length_put]; omega, fun i hi => by rw [hput i (by omega), hI.low i hi], E, ⟨.slice a' k c', ?_, ?_⟩, ⟨hI.own.1, fun i hi => ?_⟩, fun i hi => by have := hI.new i hi; omega⟩
      · simp [beginB, h1, h2']
      · simp only [beginB, h1, h2', and_self, if_true, Int.toNat_natCast]
        exact (hI.rep.fr RLn.frm fun i hi _ => hput i (by have := hI.new i hi; omega)).rs (by simp; omega)
      · simp only [rwOk_put]; exact hI.own.2 i hi
theorem implBegin_mk {H : Heap} (s t : Int) : Mkr Try.prog 21 [iv s, iv t] H fun H' E v => ∃ cs, v = .agg cs.toArray ∧ RBk H' E (beginB s t) cs := by
  refine Mkr.of_body (N := 30) Try.func21 rfl (by kernel_rfl) rfl rfl (by simp) ?_
  cases h1 : inB s 1 200
  · repeat (first | refine ak_seq ?_ | refine ak_block ?_ | refine ak_blk ?_ | refine ak_skip ?_ | refine ak_exit rfl ?_ | refine ak_cond_t rfl ?_ | refine ak_cond_f rfl ?_ | (refine ak_region fun K hK => ?_; simp [opsP, opP, pureOp, wantedA, putT, dstOk, evO, getT, evL, evP, enumT, plainV, binA, intA, sliceA, hiA, loA, evM, ldA, ldC, stA, newA, apA, destA, srcA, killO, buildA, fillA, setAll, cv_agg, cv_int, cv_bool, cv_slice, cv_ptr, allPlain, fnV, resA, resL, resOne, endR, cell_at, cell_at0, put_at, put_at0, rwOk_put, cell_put, wrL_nil, wrL_cons, wrO_none, wrO_some, rw_at, rw_at0, get_at, get_at0, kill_at, kill_at0, cell_c0, cell_cs, put_c0, put_cs, rw_c0, rw_cs, kill_c0, kill_cs, Heap.puts, wr, one_int, one_bool, one_slice, one_ptr, eqCells, offs11, offs12, offs13, offs14, offs21, offs22, offs23, offs24, h1]; (repeat (first | (refine Ask.go (in_ac _ _ _) ?_; simp [opsP, opP, pureOp, wantedA, putT, dstOk, evO, getT, evL, evP, enumT, plainV, binA, intA, sliceA, hiA, loA, evM, ldA, ldC, stA, newA, apA, destA, srcA, killO, buildA, fillA, setAll, cv_agg, cv_int, cv_bool, cv_slice, cv_ptr, allPlain, fnV, resA, resL, resOne, endR, cell_at, cell_at0, put_at, put_at0, rwOk_put, cell_put, wrL_nil, wrL_cons, wrO_none, wrO_some, rw_at, rw_at0, get_at, get_at0, kill_at, kill_at0, cell_c0, cell_cs, put_c0, put_cs, rw_c0, rw_cs, kill_c0, kill_cs, Heap.puts, wr, one_int, one_bool, one_slice, one_ptr, eqCells, offs11, offs12, offs13, offs14, offs21, offs22, offs23, offs24, h1]))); refine hK _ ?_; clear hK K))
    refine ak_ret ?_
    simp [opsP, opP, pureOp, wantedA, putT, dstOk, evO, getT, evL, evP, enumT, plainV, binA, intA, sliceA, hiA, loA, evM, ldA, ldC, stA, newA, apA, destA, srcA, killO, buildA, fillA, setAll, cv_agg, cv_int, cv_bool, cv_slice, cv_ptr, allPlain, fnV, resA, resL, resOne, endR, cell_at, cell_at0, put_at, put_at0, rwOk_put, cell_put, wrL_nil, wrL_cons, wrO_none, wrO_some, rw_at, rw_at0, get_at, get_at0, kill_at, kill_at0, cell_c0, cell_cs, put_c0, put_cs, rw_c0, rw_cs, kill_c0, kill_cs, Heap.puts, wr, one_int, one_bool, one_slice, one_ptr, eqCells, offs11, offs12, offs13, offs14, offs21, offs22, offs23, offs24]
    exact ⟨fun i hi => List.getElem?_append_left hi, [], ⟨nl, by simp [beginB, h1, bk0], by simp [beginB, h1, bk0], .inl ⟨.inl rfl, by simp [beginB, h1, bk0], rfl⟩⟩, ⟨List.nodup_nil, fun i hi => by simp at hi⟩, fun i hi => by simp at hi⟩
  cases h2 : inB t 0 20
  · repeat (first | refine ak_seq ?_ | refine ak_block ?_ | refine ak_blk ?_ | refine ak_skip ?_ | refine ak_exit rfl ?_ | refine ak_cond_t rfl ?_ | refine ak_cond_f rfl ?_ | (refine ak_region fun K hK => ?_; simp [opsP, opP, pureOp, wantedA, putT, dstOk, evO, getT, evL, evP, enumT, plainV, binA, intA, sliceA, hiA, loA, evM, ldA, ldC, stA, newA, apA, destA, srcA, killO, buildA, fillA, setAll, cv_agg, cv_int, cv_bool, cv_slice, cv_ptr, allPlain, fnV, resA, resL, resOne, endR, cell_at, cell_at0, put_at, put_at0, rwOk_put, cell_put, wrL_nil, wrL_cons, wrO_none, wrO_some, rw_at, rw_at0, get_at, get_at0, kill_at, kill_at0, cell_c0, cell_cs, put_c0, put_cs, rw_c0, rw_cs, kill_c0, kill_cs, Heap.puts, wr, one_int, one_bool, one_slice, one_ptr, eqCells, offs11, offs12, offs13, offs14, offs21, offs22, offs23, offs24, h1, h2]; (repeat (first | (refine Ask.go (in_ac _ _ _) ?_; simp [opsP, opP, pureOp, wantedA, putT, dstOk, evO, getT, evL, evP, enumT, plainV, binA, intA, sliceA, hiA, loA, evM, ldA, ldC, stA, newA, apA, destA, srcA, killO, buildA, fillA, setAll, cv_agg, cv_int, cv_bool, cv_slice, cv_ptr, allPlain, fnV, resA, resL, resOne, endR, cell_at, cell_at0, put_at, put_at0, rwOk_put, cell_put, wrL_nil, wrL_cons, wrO_none, wrO_some, rw_at, rw_at0, get_at, get_at0, kill_at, kill_at0, cell_c0, cell_cs, put_c0, put_cs, rw_c0, rw_cs, kill_c0, kill_cs, Heap.puts, wr, one_int, one_bool, one_slice, one_ptr, eqCells, offs11, offs12, offs13, offs14, offs21, offs22, offs23, offs24, h1, h2]))); refine hK _ ?_; clear hK K))
    refine ak_ret ?_
    simp [opsP, opP, pureOp, wantedA, putT, dstOk, evO, getT, evL, evP, enumT, plainV, binA, intA, sliceA, hiA, loA, evM, ldA, ldC, stA, newA, apA, destA, srcA, killO, buildA, fillA, setAll, cv_agg, cv_int, cv_bool, cv_slice, cv_ptr, allPlain, fnV, resA, resL, resOne, endR, cell_at, cell_at0, put_at, put_at0, rwOk_put, cell_put, wrL_nil, wrL_cons, wrO_none, wrO_some, rw_at, rw_at0, get_at, get_at0, kill_at, kill_at0, cell_c0, cell_cs, put_c0, put_cs, rw_c0, rw_cs, kill_c0, kill_cs, Heap.puts, wr, one_int, one_bool, one_slice, one_ptr, eqCells, offs11, offs12, offs13, offs14, offs21, offs22, offs23, offs24]
    exact ⟨fun i hi => List.getElem?_append_left hi, [], ⟨nl, by simp [beginB, h2, bk0], by simp [beginB, h2, bk0], .inl ⟨.inl rfl, by simp [beginB, h2, bk0], rfl⟩⟩, ⟨List.nodup_nil, fun i hi => by simp at hi⟩, fun i hi => by simp at hi⟩
  simp only [inB, Bool.and_eq_true, decide_eq_true_eq] at h2
  obtain ⟨t, rfl⟩ : ∃ n : Nat, t = n := ⟨t.toNat, by omega⟩
  have h2' : inB t 0 20 = true := by simp [inB]; omega
  repeat (first | refine ak_seq ?_ | refine ak_block ?_ | refine ak_blk ?_ | refine ak_skip ?_ | refine ak_exit rfl ?_ | refine ak_cond_t rfl ?_ | refine ak_cond_f rfl ?_ | (refine ak_region fun K hK => ?_; simp [opsP, opP, pureOp, wantedA, putT, dstOk, evO, getT, evL, evP, enumT, plainV, binA, intA, sliceA, hiA, loA, evM, ldA, ldC, stA, newA, apA, destA, srcA, killO, buildA, fillA, setAll, cv_agg, cv_int, cv_bool, cv_slice, cv_ptr, allPlain, fnV, resA, resL, resOne, endR, cell_at, cell_at0, put_at, put_at0, rwOk_put, cell_put, wrL_nil, wrL_cons, wrO_none, wrO_some, rw_at, rw_at0, get_at, get_at0, kill_at, kill_at0, cell_c0, cell_cs, put_c0, put_cs, rw_c0, rw_cs, kill_c0, kill_cs, Heap.puts, wr, one_int, one_bool, one_slice, one_ptr, eqCells, offs11, offs12, offs13, offs14, offs21, offs22, offs23, offs24, h1, h2']; (repeat (first | (refine Ask.go (in_ac _ _ _) ?_; simp [opsP, opP, pureOp, wantedA, putT, dstOk, evO, getT, evL, evP, enumT, plainV, binA, intA, sliceA, hiA, loA, evM, ldA, ldC, stA, newA, apA, destA, srcA, killO, buildA, fillA, setAll, cv_agg, cv_int, cv_bool, cv_slice, cv_ptr, allPlain, fnV, resA, resL, resOne, endR, cell_at, cell_at0, put_at, put_at0, rwOk_put, cell_put, wrL_nil, wrL_cons, wrO_none, wrO_some, rw_at, rw_at0, get_at, get_at0, kill_at, kill_at0, cell_c0, cell_cs, put_c0, put_cs, rw_c0, rw_cs, kill_c0, kill_cs, Heap.puts, wr, one_int, one_bool, one_slice, one_ptr, eqCells, offs11, offs12, offs13, offs14, offs21, offs22, offs23, offs24, h1, h2']))); refine hK _ ?_; clear hK K))
  refine ak_loopS (fun m ts H' => ∃ (k : Nat) (vl : Value) (E : List Nat), k ≤ t ∧ m = t - k ∧ BegI H s k H' vl E ∧ ts = [(0, iv s), (1, iv t), (4, pt H.length 0), (5, pt (H.length + 1) 0), (17, iv t), (18, iv k)]) t _ ?_ ⟨0, nl, [], by omega, rfl, ⟨by simp, fun i hi => List.getElem?_append_left hi, by simp, by simp, .inl ⟨rfl, rfl, rfl⟩, ⟨List.nodup_nil, fun i hi => by simp at hi⟩, fun i hi => by simp at hi⟩, rfl⟩ ?_
  · simp [subL, getT]
  · rintro m ts H1 ⟨k, vl, E, hk, rfl, hI, rfl⟩
    by_cases hlt : k < t
    · obtain ⟨k', v', H2, E', e1, e2, e3, e4, e5⟩ := begStep hI (by omega)
      obtain ⟨a', c', hv'⟩ := e5.rep.form
      rw [List.length_replicate] at hv'
      subst hv'
      have c2 : ∀ L, Heap.cell (H1 ++ L) (H.length + 1) 2 = some vl := fun L => by
        unfold Heap.cell; rw [List.getElem?_append_left (by have := hI.len; omega), hI.b5]; rfl
      have c2' := c2 []
      rw [List.append_nil] at c2'
      have hw := wrap_id (x := (k : Int) + 1) (by omega) (by omega)
      repeat (first | refine ak_seq ?_ | refine ak_block ?_ | refine ak_blk ?_ | refine ak_skip ?_ | refine ak_exit rfl ?_ | refine ak_cond_t rfl ?_ | refine ak_cond_f rfl ?_ | (refine ak_region fun K hK => ?_; simp [opsP, opP, pureOp, wantedA, putT, dstOk, evO, getT, evL, evP, enumT, plainV, binA, intA, sliceA, hiA, loA, evM, ldA, ldC, stA, newA, apA, destA, srcA, killO, buildA, fillA, setAll, cv_agg, cv_int, cv_bool, cv_slice, cv_ptr, allPlain, fnV, resA, resL, resOne, endR, cell_at, cell_at0, put_at, put_at0, rwOk_put, cell_put, wrL_nil, wrL_cons, wrO_none, wrO_some, rw_at, rw_at0, get_at, get_at0, kill_at, kill_at0, cell_c0, cell_cs, put_c0, put_cs, rw_c0, rw_cs, kill_c0, kill_cs, Heap.puts, wr, one_int, one_bool, one_slice, one_ptr, eqCells, offs11, offs12, offs13, offs14, offs21, offs22, offs23, offs24, hlt, hw]; refine hK _ ?_; clear hK K))
      refine ak_region fun K hK => ?_; simp [opsP, opP, pureOp, wantedA, putT, dstOk, evO, getT, evL, evP, enumT, plainV, binA, intA, sliceA, hiA, loA, evM, ldA, ldC, stA, newA, buildA, fillA, setAll, cv_agg, cv_int, cv_bool, cv_slice, cv_ptr, allPlain, fnV, resA, resL, resOne, endR, cell_at, cell_at0, put_at, put_at0, rwOk_put, cell_put, wrL_nil, wrL_cons, wrO_none, wrO_some, rw_at, rw_at0, get_at, get_at0, kill_at, kill_at0, cell_c0, cell_cs, put_c0, put_cs, rw_c0, rw_cs, kill_c0, kill_cs, Heap.puts, wr, one_int, one_bool, one_slice, one_ptr, eqCells, offs11, offs12, offs13, offs14, offs21, offs22, offs23, offs24, c2, c2', e1, e2, e3, e4]
      refine hK _ ?_; clear hK K
      repeat (first | refine ak_seq ?_ | refine ak_block ?_ | refine ak_blk ?_ | refine ak_skip ?_ | refine ak_exit rfl ?_ | refine ak_cond_t rfl ?_ | refine ak_cond_f rfl ?_ | (refine ak_region fun K hK => ?_; simp [opsP, opP, pureOp, wantedA, putT, dstOk, evO, getT, evL, evP, enumT, plainV, binA, intA, sliceA, hiA, loA, evM, ldA, ldC, stA, newA, apA, destA, srcA, killO, buildA, fillA, setAll, cv_agg, cv_int, cv_bool, cv_slice, cv_ptr, allPlain, fnV, resA, resL, resOne, endR, cell_at, cell_at0, put_at, put_at0, rwOk_put, cell_put, wrL_nil, wrL_cons, wrO_none, wrO_some, rw_at, rw_at0, get_at, get_at0, kill_at, kill_at0, cell_c0, cell_cs, put_c0, put_cs, rw_c0, rw_cs, kill_c0, kill_cs, Heap.puts, wr, one_int, one_bool, one_slice, one_ptr, eqCells, offs11, offs12, offs13, offs14, offs21, offs22, offs23, offs24, hlt, hw]; refine hK _ ?_; clear hK K))
      refine ak_inv ⟨t - (k + 1), _, by omega, ?_, ⟨k + 1, _, E', by omega, rfl, e5, rfl⟩⟩
      simp [subL, getT]
    · have hk2 : k = t := by omega
      subst hk2
      have hlen := hI.len
      obtain ⟨a', c', hv'⟩ := hI.rep.form
      rw [List.length_replicate] at hv'
      subst hv'
      have c0 : Heap.cell H1 (H.length + 1) 0 = some (.bool true) := by unfold Heap.cell; rw [hI.b5]; rfl
      have c1 : Heap.cell H1 (H.length + 1) 1 = some (iv s) := by unfold Heap.cell; rw [hI.b5]; rfl
      have c2 : Heap.cell H1 (H.length + 1) 2 = some (.slice a' k c') := by unfold Heap.cell; rw [hI.b5]; rfl
      have d0 : Heap.cell H1 H.length 0 = some (.bool false) := by unfold Heap.cell; rw [hI.b4]; rfl
      have d1 : Heap.cell H1 H.length 1 = some (iv 0) := by unfold Heap.cell; rw [hI.b4]; rfl
      have d2 : Heap.cell H1 H.length 2 = some nl := by unfold Heap.cell; rw [hI.b4]; rfl
      have hrw : Heap.rwOk H1 H.length = true := by unfold Heap.rwOk; rw [hI.b4]; rfl
      repeat (first | refine ak_seq ?_ | refine ak_block ?_ | refine ak_blk ?_ | refine ak_skip ?_ | refine ak_exit rfl ?_ | refine ak_cond_t rfl ?_ | refine ak_cond_f rfl ?_ | (refine ak_region fun K hK => ?_; simp [opsP, opP, pureOp, wantedA, putT, dstOk, evO, getT, evL, evP, enumT, plainV, binA, intA, sliceA, hiA, loA, evM, ldA, ldC, stA, newA, apA, destA, srcA, killO, buildA, fillA, setAll, cv_agg, cv_int, cv_bool, cv_slice, cv_ptr, allPlain, fnV, resA, resL, resOne, endR, cell_at, cell_at0, put_at, put_at0, rwOk_put, cell_put, wrL_nil, wrL_cons, wrO_none, wrO_some, rw_at, rw_at0, get_at, get_at0, kill_at, kill_at0, cell_c0, cell_cs, put_c0, put_cs, rw_c0, rw_cs, kill_c0, kill_cs, Heap.puts, wr, one_int, one_bool, one_slice, one_ptr, eqCells, offs11, offs12, offs13, offs14, offs21, offs22, offs23, offs24, hlt, c0, c1, c2, d0, d1, d2, hrw]; refine hK _ ?_; clear hK K))
      refine ak_ret ?_
      simp [opsP, opP, pureOp, wantedA, putT, dstOk, evO, getT, evL, evP, enumT, plainV, binA, intA, sliceA, hiA, loA, evM, ldA, ldC, stA, newA, apA, destA, srcA, killO, buildA, fillA, setAll, cv_agg, cv_int, cv_bool, cv_slice, cv_ptr, allPlain, fnV, resA, resL, resOne, endR, cell_at, cell_at0, put_at, put_at0, rwOk_put, cell_put, wrL_nil, wrL_cons, wrO_none, wrO_some, rw_at, rw_at0, get_at, get_at0, kill_at, kill_at0, cell_c0, cell_cs, put_c0, put_cs, rw_c0, rw_cs, kill_c0, kill_cs, Heap.puts, wr, one_int, one_bool, one_slice, one_ptr, eqCells, offs11, offs12, offs13, offs14, offs21, offs22, offs23, offs24, c0, c1, c2, d0, d1, d2]
      have hput : ∀ (i : Nat), i ≠ H.length → (((H1.put H.length 0 (.bool true)).put H.length 1 (iv s)).put H.length 2 (.slice a' k c'))[i]? = H1[i]? := fun i hi => by rw [get_put_ne _ _ _ hi, get_put_ne _ _ _ hi, get_put_ne _ _ _ hi]
      refine ⟨by simp only [length_put]; omega, fun i hi => by rw [hput i (by omega), hI.low i hi], E, ⟨.slice a' k c', ?_, ?_⟩, ⟨hI.own.1, fun i hi => ?_⟩, fun i hi => by have := hI.new i hi; omega⟩
      · simp [beginB, h1, h2']
      · simp only [beginB, h1, h2', and_self, if_true, Int.toNat_natCast]
        exact (hI.rep.fr RLn.frm fun i hi _ => hput i (by have := hI.new i hi; omega)).rs (by simp; omega)
      · simp only [rwOk_put]; exact hI.own.2 i hi
end Go.Proofs.Ytpoedfmkiiijnaa
