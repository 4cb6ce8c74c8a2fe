/- The world and its acts, over plain data. Plain definitions and lemmas; no program in sight. -/
import Derived.Test.YtpoedfmkiiijnaaPu4
namespace Go.Proofs.YtpoedfmkiiijnaaAm
set_option linter.unusedVariables false
set_option linter.unusedSimpArgs false
def wd0 : Wd := ⟨false, bk0, []⟩
def bd0 : Bd := ⟨0, 0, 0, 0⟩
def bAt (xs : List Bd) (i : Nat) : Bd := xs.getD i bd0
def lAt (ls : List Ln) (i : Nat) : Ln := ls.getD i line0
theorem bAt_eq {xs : List Bd} {i : Nat} (h : i < xs.length) : bAt xs i = xs[i] := by simp [bAt, h]
theorem lAt_eq {ls : List Ln} {i : Nat} (h : i < ls.length) : lAt ls i = ls[i] := by simp [lAt, h]
/-- A body is where its line lets it be. -/
def bodyOk (l : Ln) (x : Bd) : Bool := decide ((⟨x.ver, x.cel⟩ : Gr) ∈ l.grs) && (inB x.tail l.gone x.front && decide (x.front < x.cel))
def bodiesOk (ls : List Ln) (xs : List Bd) : Bool := (List.range xs.length).all fun i => bodyOk (lAt ls i) (bAt xs i)
def rightB (w : Wd) : Bool := w.ok && (decide (bookOkB w.book = 0) && (decide (w.bodies.length = w.book.lines.length) && bodiesOk w.book.lines w.bodies))
theorem rightB_all {w : Wd} (h : rightB w = true) : w.ok = true ∧ bookOkB w.book = 0 ∧ w.bodies.length = w.book.lines.length ∧ ∀ i (hi : i < w.bodies.length) (hl : i < w.book.lines.length), bodyOk w.book.lines[i] w.bodies[i] = true := by
  simp only [rightB, bodiesOk, Bool.and_eq_true, decide_eq_true_eq, List.all_eq_true, List.mem_range] at h
  exact ⟨h.1, h.2.1, h.2.2.1, fun i hi hl => by have := h.2.2.2 i hi; rwa [lAt_eq hl, bAt_eq hi] at this⟩
theorem rightB_mk {w : Wd} (h1 : w.ok = true) (h2 : bookOkB w.book = 0) (h3 : w.bodies.length = w.book.lines.length) (h4 : ∀ i (hi : i < w.bodies.length) (hl : i < w.book.lines.length), bodyOk w.book.lines[i] w.bodies[i] = true) : rightB w = true := by
  simp only [rightB, bodiesOk, Bool.and_eq_true, decide_eq_true_eq, List.all_eq_true, List.mem_range]
  exact ⟨h1, h2, h3, fun i hi => by rw [lAt_eq (show i < w.book.lines.length by omega), bAt_eq hi]; exact h4 i hi (by omega)⟩
theorem bodyOk_iff {l : Ln} {x : Bd} : bodyOk l x = true ↔ (⟨x.ver, x.cel⟩ : Gr) ∈ l.grs ∧ l.gone ≤ x.tail ∧ x.tail ≤ x.front ∧ x.front < x.cel := by
  simp only [bodyOk, inB, Bool.and_eq_true, decide_eq_true_eq, and_assoc]
def bookW (w : Wd) (e : Evt) : Mv := if (doB w.book e).code = 1 then ⟨1, wd0⟩ else ⟨(doB w.book e).code, { w with book := (doB w.book e).book }⟩
def setBd (w : Wd) (t : Int) (x : Bd) : Wd := { w with bodies := w.bodies.set t.toNat x }
def bdAt (w : Wd) (t : Int) : Bd := bAt w.bodies t.toNat
def actOk (w : Wd) (a : Actn) : Bool := rightB w && (inB a.op 1 5 && inB a.train 0 ((w.bodies.length : Int) - 1))
def stepV (w : Wd) (a : Actn) : Mv :=
  let x := bdAt w a.train
  let gs := (lnAt w.book a.train).grs
  if a.op = 1 then (if a.ev.op = 3 ∨ a.ev.op = 4 then ⟨1, wd0⟩ else bookW w a.ev)
  else if a.op = 2 then
    (if fstI (hasV a.n) gs < 0 ∨ a.n ≤ x.ver then ⟨2, w⟩ else if (gAt gs (fstI (hasV a.n) gs).toNat).cel ≤ x.front then ⟨3, w⟩ else ⟨0, setBd w a.train { x with ver := a.n, cel := (gAt gs (fstI (hasV a.n) gs).toNat).cel }⟩)
  else if a.op = 3 then bookW w ⟨3, a.train, x.ver⟩
  else if a.op = 4 then (if x.cel ≤ x.front + 1 then ⟨3, w⟩ else ⟨0, setBd w a.train { x with front := x.front + 1 }⟩)
  else (if x.tail = x.front then ⟨3, w⟩ else bookW (setBd w a.train { x with tail := x.tail + 1 }) ⟨4, a.train, x.tail + 1⟩)
def stepWd (w : Wd) (a : Actn) : Mv := if actOk w a = true then stepV w a else ⟨1, wd0⟩
/-- What an event leaves of a line's leashes and of what it has left behind. -/
theorem settleL_gone (l : Ln) : (settleL l).gone = l.gone := by
  unfold settleL
  split
  · rfl
  · simp only
    split <;> split <;> rfl
theorem settleL_gr (l : Ln) : (settleL l).grs = l.grs := by
  unfold settleL
  split
  · rfl
  · simp only
    split <;> split <;> rfl
/-- The line of the event behind it. -/
theorem doB_line {b : Bk} {e : Evt} (he : evOkB b e = true) (h0 : (doB b e).code = 0) : ∃ (k : Nat) (hk : k < b.lines.length) (l' : Ln), e.train = k ∧ evLn b.lines b.lines[k] e = (0, l') ∧ doB b e = ⟨0, { b with lines := b.lines.set k (settleL l') }⟩ := by
  have hev := he
  simp only [evOkB, Bool.and_eq_true, decide_eq_true_eq] at hev
  obtain ⟨_, _, htr, _⟩ := hev
  simp only [inB, Bool.and_eq_true, decide_eq_true_eq] at htr
  obtain ⟨k, hk⟩ : ∃ k : Nat, e.train = k := ⟨e.train.toNat, by omega⟩
  have hkl : k < b.lines.length := by omega
  have hl : lnAt b e.train = b.lines[k] := by simp [lnAt, hk, hkl]
  have hd : doB b e = doV b e := by unfold doB; rw [if_pos he]
  rw [hd] at h0 ⊢
  unfold doV at h0 ⊢
  simp only [hl] at h0 ⊢
  by_cases h1 : (evLn b.lines b.lines[k] e).1 = 0
  · exact ⟨k, hkl, _, hk, Prod.ext h1 rfl, by rw [if_pos h1, hk, Int.toNat_natCast]⟩
  · rw [if_neg h1] at h0
    exact absurd h0 h1
theorem doB_fail {b : Bk} {e : Evt} (h1 : (doB b e).code ≠ 1) (h0 : (doB b e).code ≠ 0) : (doB b e).book = b := by
  unfold doB at h1 h0 ⊢
  split
  · rename_i q
    rw [if_pos q] at h1 h0
    unfold doV at h1 h0 ⊢
    simp only at h1 h0 ⊢
    split
    · rename_i hh; rw [if_pos hh] at h0; exact absurd rfl h0
    · rfl
  · rename_i q; rw [if_neg q] at h1; exact absurd rfl h1
theorem evLn_keep {ls : List Ln} {l l' : Ln} {e : Evt} (h3 : e.op ≠ 3) (h4 : e.op ≠ 4) (he : evLn ls l e = (0, l')) : l'.gone = l.gone ∧ ∀ g, g ∈ l.grs → g ∈ l'.grs := by
  unfold evLn at he
  split at he
  · (repeat' split at he) <;> first | (simp at he; done) | (simp only [Prod.mk.injEq, true_and] at he; subst he; exact ⟨rfl, fun g hg => hg⟩)
  · split at he
    · (repeat' split at he) <;> first | (simp at he; done) | (simp only [Prod.mk.injEq, true_and] at he; subst he; exact ⟨rfl, fun g hg => List.mem_append_left _ hg⟩)
    · (repeat' split at he) <;> first | (simp at he; done) | (simp only [Prod.mk.injEq, true_and] at he; subst he; exact ⟨rfl, fun g hg => hg⟩)
/-- A body's leash: its place among its line's, and its bounds. -/
theorem body_leash {l : Ln} {x : Bd} (h : LnOk l) (hb : bodyOk l x = true) : ∃ i, ∃ hi : i < l.grs.length, l.grs[i] = ⟨x.ver, x.cel⟩ ∧ x.ver = (gAt l.grs 0).ver + i ∧ 0 ≤ x.ver ∧ x.ver ≤ 1000000 ∧ x.cel ≤ totL l ∧ x.cel ≤ reachL l.grs ∧ 0 ≤ x.tail ∧ x.tail ≤ x.front ∧ x.front < x.cel ∧ l.gone ≤ x.tail ∧ x.cel ≤ 1000000 := by
  obtain ⟨hm, h1, h2, h3⟩ := bodyOk_iff.1 hb
  obtain ⟨i, hi, he⟩ := List.getElem_of_mem hm
  have hg := h.gs i hi
  have hp := h.place i hi
  have hr := reachL_ge l.grs i hi
  rw [he] at hg hp hr
  have := h.g0
  have := h.t1
  exact ⟨i, hi, he, hp, hg.2.2.1, hg.2.2.2, hg.2.1, hr.1, by omega, h2, h3, h1, by have := hg.2.1; simp only at this; omega⟩
theorem find_at {l : Ln} (h : LnOk l) {i : Nat} (hi : i < l.grs.length) {n : Int} (hn : n = (gAt l.grs 0).ver + i) : fstI (hasV n) l.grs = i := by
  rw [h.find, if_pos (by omega)]; omega
theorem drop_head {gs : List Gr} {i : Nat} (hi : i < gs.length) : gs.drop i = gs[i] :: gs.drop (i + 1) := by rw [List.getElem_cons_drop]
theorem reach_drop_at {gs : List Gr} {i : Nat} (hi : i < gs.length) : gs[i].cel ≤ reachL (gs.drop i) := by
  have := (reachL_ge (gs.drop i) 0 (by simp; omega)).1
  rw [List.getElem_drop] at this
  simpa using this
section
variable {w : Wd} {k : Nat} (hr : rightB w = true) (hk : k < w.bodies.length)
include hr hk in
theorem right_at : ∃ hl : k < w.book.lines.length, bookOkB w.book = 0 ∧ LnOk w.book.lines[k] ∧ bodyOk w.book.lines[k] w.bodies[k] = true := by
  obtain ⟨_, h2, h3, h4⟩ := rightB_all hr
  exact ⟨by omega, h2, bookOk_ln h2 (by omega), h4 k hk (by omega)⟩
include hr hk in
/-- Telling what one goes by is always done. -/
theorem tell_ok : evOkB w.book ⟨3, (k : Int), w.bodies[k].ver⟩ = true ∧ (doB w.book ⟨3, (k : Int), w.bodies[k].ver⟩).code = 0 := by
  obtain ⟨hl, h2, h3, h4⟩ := right_at hr hk
  obtain ⟨i, hi, he, hp, v0, v1, _, _, t0, t1, t2, t3, _⟩ := body_leash h3 h4
  have hev : evOkB w.book ⟨3, (k : Int), w.bodies[k].ver⟩ = true := by
    simp only [evOkB, h2, inB, decide_true, Bool.true_and, Bool.and_eq_true, decide_eq_true_eq]
    refine ⟨by decide, by omega, ?_⟩
    rw [if_neg (by decide)]
    simp only [Bool.and_eq_true, decide_eq_true_eq]; omega
  refine ⟨hev, ?_⟩
  have hf := find_at h3 hi hp
  have hrd := reach_drop_at hi
  rw [he] at hrd
  have hev2 : evLn w.book.lines w.book.lines[k] ⟨3, (k : Int), w.bodies[k].ver⟩ = (0, { w.book.lines[k] with grs := w.book.lines[k].grs.drop i }) := by
    unfold evLn
    rw [if_neg (show ¬ (3 : Int) = 1 by decide), if_neg (show ¬ (3 : Int) = 2 by decide), if_pos rfl]
    simp only [hf, Int.toNat_natCast]
    rw [if_neg (by omega), if_neg (by simp only at hrd; omega)]
  unfold doB
  rw [if_pos hev]
  have hln : lnAt w.book ((k : Nat) : Int) = w.book.lines[k] := by simp [lnAt, hl]
  unfold doV
  simp only [hln, hev2, if_true]
include hr hk in
/-- A tail that may move gives its section back. -/
theorem tail_ok (ht : w.bodies[k].tail ≠ w.bodies[k].front) : evOkB w.book ⟨4, (k : Int), w.bodies[k].tail + 1⟩ = true ∧ (doB w.book ⟨4, (k : Int), w.bodies[k].tail + 1⟩).code = 0 := by
  obtain ⟨hl, h2, h3, h4⟩ := right_at hr hk
  obtain ⟨i, hi, he, hp, v0, v1, c1, c2, t0, t1, t2, t3, c3⟩ := body_leash h3 h4
  have hev : evOkB w.book ⟨4, (k : Int), w.bodies[k].tail + 1⟩ = true := by
    simp only [evOkB, h2, inB, decide_true, Bool.true_and, Bool.and_eq_true, decide_eq_true_eq]
    refine ⟨by decide, by omega, ?_⟩
    rw [if_neg (by decide)]
    simp only [Bool.and_eq_true, decide_eq_true_eq]; omega
  refine ⟨hev, ?_⟩
  have hev2 : (evLn w.book.lines w.book.lines[k] ⟨4, (k : Int), w.bodies[k].tail + 1⟩).1 = 0 := by
    unfold evLn
    rw [if_neg (show ¬ (4 : Int) = 1 by decide), if_neg (show ¬ (4 : Int) = 2 by decide), if_neg (show ¬ (4 : Int) = 3 by decide), if_pos rfl, if_neg (by simp only; omega)]
  unfold doB
  rw [if_pos hev]
  have hln : lnAt w.book ((k : Nat) : Int) = w.book.lines[k] := by simp [lnAt, hl]
  unfold doV
  simp only [hln, hev2, if_true]
end
theorem right_book {w : Wd} {b : Bk} (hr : rightB w = true) (hb : bookOkB b = 0) (hl : b.lines.length = w.book.lines.length) (h : ∀ i (hi : i < w.bodies.length) (h1 : i < w.book.lines.length) (h2 : i < b.lines.length), bodyOk b.lines[i] w.bodies[i] = true) : rightB { w with book := b } = true := by
  obtain ⟨r1, r2, r3, r4⟩ := rightB_all hr
  exact rightB_mk r1 hb (by simp only; omega) fun i hi h2 => h i hi (by simp only at h2; omega) h2
theorem right_body {w : Wd} {k : Nat} {x : Bd} (hr : rightB w = true) (hk : k < w.bodies.length) (hl : k < w.book.lines.length) (h : bodyOk w.book.lines[k] x = true) : rightB (setBd w (k : Int) x) = true := by
  obtain ⟨r1, r2, r3, r4⟩ := rightB_all hr
  refine rightB_mk r1 r2 (by simp only [setBd, List.length_set]; exact r3) fun i hi h2 => ?_
  simp only [setBd, Int.toNat_natCast, List.length_set] at hi h2 ⊢
  rw [List.getElem_set]
  split
  · rename_i e; subst e; exact h
  · exact r4 i hi h2
theorem bookW_ok {w : Wd} {e : Evt} (hr : rightB w = true) (h3 : e.op ≠ 3) (h4 : e.op ≠ 4) (hc : (bookW w e).code ≠ 1) : rightB (bookW w e).world = true := by
  unfold bookW at hc ⊢
  split at hc
  · simp at hc
  rename_i h1
  rw [if_neg h1]
  simp only at hc ⊢
  obtain ⟨r1, r2, r3, r4⟩ := rightB_all hr
  by_cases h0 : (doB w.book e).code = 0
  · have hev : evOkB w.book e = true := by
      cases q : evOkB w.book e with
      | true => rfl
      | false => exact absurd (by simp [doB, q]) h1
    have hbo := doB_ok h1
    obtain ⟨k, hk, l', ht, hl', hd⟩ := doB_line hev h0
    rw [hd] at hbo ⊢
    refine right_book hr hbo (by simp) fun i hi h1 h2 => ?_
    simp only [List.getElem_set]
    split
    · rename_i e1; subst e1
      obtain ⟨k1, k2⟩ := evLn_keep h3 h4 hl'
      obtain ⟨b1, b2, b3, b4⟩ := bodyOk_iff.1 (r4 k hi h1)
      rw [bodyOk_iff, settleL_gr, settleL_gone, k1]
      exact ⟨k2 _ b1, b2, b3, b4⟩
    · exact r4 i hi h1
  · rw [doB_fail h1 h0]; exact hr
/-- A right world stays right. -/
theorem stepWd_ok {w : Wd} {a : Actn} (hc : (stepWd w a).code ≠ 1) : rightB (stepWd w a).world = true := by
  unfold stepWd at hc ⊢
  split at hc
  case isFalse => simp at hc
  rename_i q
  rw [if_pos q]
  simp only [actOk, inB, Bool.and_eq_true, decide_eq_true_eq] at q
  obtain ⟨hr, hop, htr⟩ := q
  obtain ⟨k, hk⟩ : ∃ k : Nat, a.train = k := ⟨a.train.toNat, by omega⟩
  have hkl : k < w.bodies.length := by omega
  obtain ⟨hl, h2, h3, h4⟩ := right_at hr hkl
  have hln : lnAt w.book a.train = w.book.lines[k] := by simp [lnAt, hk, hl]
  have hbd : bdAt w a.train = w.bodies[k] := by simp [bdAt, bAt, hk, hkl]
  unfold stepV at hc ⊢
  rw [hln, hbd] at hc ⊢
  simp only at hc ⊢
  split at hc
  · rename_i p1; rw [if_pos p1]
    split at hc
    · simp at hc
    · rename_i p2; rw [if_neg p2]; exact bookW_ok hr (by omega) (by omega) hc
  rename_i p1; rw [if_neg p1]
  obtain ⟨b1, b2, b3, b4⟩ := bodyOk_iff.1 h4
  split at hc
  · rename_i p2; rw [if_pos p2]
    split at hc
    · rename_i p3; rw [if_pos p3]; exact hr
    rename_i p3; rw [if_neg p3]
    split at hc
    · rename_i p4; rw [if_pos p4]; exact hr
    rename_i p4; rw [if_neg p4, hk]
    refine right_body hr hkl hl ?_
    rcases fstI_range (p := hasV a.n) (xs := w.book.lines[k].grs) with ⟨e1, _⟩ | ⟨i, hi, e1, e2, _⟩
    · omega
    rw [e1, Int.toNat_natCast, gAt_eq hi] at p4 ⊢
    rw [bodyOk_iff]
    refine ⟨?_, b2, b3, by simp only; omega⟩
    simp only [hasV, decide_eq_true_eq] at e2
    rw [← e2]
    exact List.getElem_mem hi
  rename_i p2; rw [if_neg p2]
  split at hc
  · rename_i p3; rw [if_pos p3, hk]
    obtain ⟨hev, h0⟩ := tell_ok hr hkl
    obtain ⟨i, hi, he, hp, _⟩ := body_leash h3 h4
    have hf := find_at h3 hi hp
    unfold bookW
    rw [if_neg (by rw [h0]; decide)]
    have hbo := doB_ok (b := w.book) (e := ⟨3, (k : Int), w.bodies[k].ver⟩) (by rw [h0]; decide)
    obtain ⟨k', hk', l', ht, hl', hd⟩ := doB_line hev h0
    simp only at ht
    obtain rfl : k = k' := by omega
    rw [hd] at hbo ⊢
    refine right_book hr hbo (by simp) fun j hj h1 h2 => ?_
    simp only [List.getElem_set]
    split
    · rename_i e1; subst e1
      rw [bodyOk_iff, settleL_gr, settleL_gone]
      unfold evLn at hl'
      rw [if_neg (show ¬ (3 : Int) = 1 by decide), if_neg (show ¬ (3 : Int) = 2 by decide), if_pos rfl] at hl'
      simp only [hf, Int.toNat_natCast] at hl'
      split at hl'
      · simp at hl'
      · split at hl'
        · simp at hl'
        · simp only [Prod.mk.injEq, true_and] at hl'; subst hl'
          refine ⟨?_, b2, b3, b4⟩
          rw [← he]
          simp only
          rw [drop_head hi]
          exact List.mem_cons_self
    · obtain ⟨_, _, _, r4⟩ := rightB_all hr
      exact r4 j hj h1
  rename_i p3; rw [if_neg p3]
  split at hc
  · rename_i p4; rw [if_pos p4]
    split at hc
    · rename_i p5; rw [if_pos p5]; exact hr
    rename_i p5; rw [if_neg p5, hk]
    exact right_body hr hkl hl (bodyOk_iff.2 ⟨b1, by simp only; omega, by simp only; omega, by simp only; omega⟩)
  rename_i p4; rw [if_neg p4]
  split at hc
  · rename_i p5; rw [if_pos p5]; exact hr
  rename_i p5; rw [if_neg p5, hk]
  obtain ⟨hev, h0⟩ := tail_ok hr hkl p5
  unfold bookW
  have hbk : (setBd w (k : Int) { w.bodies[k] with tail := w.bodies[k].tail + 1 }).book = w.book := rfl
  rw [hbk, if_neg (by rw [h0]; decide)]
  have hbo := doB_ok (b := w.book) (e := ⟨4, (k : Int), w.bodies[k].tail + 1⟩) (by rw [h0]; decide)
  obtain ⟨k', hk', l', ht, hl', hd⟩ := doB_line hev h0
  simp only at ht
  obtain rfl : k = k' := by omega
  have hr2 : rightB (setBd w (k : Int) { w.bodies[k] with tail := w.bodies[k].tail + 1 }) = true := right_body hr hkl hl (bodyOk_iff.2 ⟨b1, by simp only; omega, by simp only; omega, by simp only; omega⟩)
  rw [hd] at hbo ⊢
  refine right_book hr2 hbo (by simp [hbk]) fun j hj h1 h2 => ?_
  simp only [setBd, Int.toNat_natCast, List.length_set] at hj
  simp only [setBd, Int.toNat_natCast, List.getElem_set]
  split
  · rename_i e1; subst e1
    rw [bodyOk_iff, settleL_gr, settleL_gone]
    unfold evLn at hl'
    rw [if_neg (show ¬ (4 : Int) = 1 by decide), if_neg (show ¬ (4 : Int) = 2 by decide), if_neg (show ¬ (4 : Int) = 3 by decide), if_pos rfl] at hl'
    split at hl'
    · simp at hl'
    · simp only [Prod.mk.injEq, true_and] at hl'; subst hl'
      exact ⟨b1, Int.le_refl _, by simp only; omega, b4⟩
  · obtain ⟨_, _, _, r4⟩ := rightB_all hr
    rename_i e1
    exact r4 j hj (by rw [hbk] at h1; exact h1)
end Go.Proofs.YtpoedfmkiiijnaaAm
