/- A drive keeps its sections and its bodies, and a section has one train at most. Plain lemmas; no program in sight. -/
import Derived.Test.YtpoedfmkiiijnaaDoorGN
import Derived.Test.YtpoedfmkiiijnaaDoorPuA
namespace Go.Proofs.YtpoedfmkiiijnaaDoorAm
set_option linter.unusedVariables false
set_option linter.unusedSimpArgs false
def KeepW (w w' : Wd) : Prop := w'.bodies.length = w.bodies.length ∧ w'.book.sec = w.book.sec
theorem bookW_keep {w : Wd} {e : Evt} (hc : (bookW w e).code ≠ 1) : KeepW w (bookW w e).world := by
 unfold bookW at hc ⊢
 split at hc
 ·simp at hc
 rename_i h1
 rw [if_neg h1]
 exact ⟨rfl, doB_sec h1⟩
theorem stepWd_keep {w : Wd} {a : Actn} (hc : (stepWd w a).code ≠ 1) : KeepW w (stepWd w a).world := by
 unfold stepWd at hc ⊢
 split at hc
 case isFalse => simp at hc
 rename_i q
 rw [if_pos q]
 unfold stepV at hc ⊢
 simp only at hc ⊢
 split at hc
 ·rename_i p1; rw [if_pos p1]
  split at hc
  ·simp at hc
  ·rename_i p2; rw [if_neg p2]; exact bookW_keep hc
 rename_i p1; rw [if_neg p1]
 split at hc
 ·rename_i p2; rw [if_pos p2]
  (repeat' split) <;> exact ⟨by simp [setBd], rfl⟩
 rename_i p2; rw [if_neg p2]
 split at hc
 ·rename_i p3; rw [if_pos p3]; exact bookW_keep hc
 rename_i p3; rw [if_neg p3]
 split at hc
 ·rename_i p4; rw [if_pos p4]
  (repeat' split) <;> exact ⟨by simp [setBd], rfl⟩
 rename_i p4; rw [if_neg p4]
 split at hc
 ·rename_i p5; rw [if_pos p5]; exact ⟨rfl, rfl⟩
 rename_i p5; rw [if_neg p5]
 have h := bookW_keep hc
 exact ⟨h.1.trans (by simp [setBd]), h.2⟩
theorem stepM_keep (w : Wd) (a : Actn) : KeepW w (stepM w a).world := by
 unfold stepM
 split
 ·exact ⟨rfl, rfl⟩
 ·rename_i h; exact stepWd_keep h
theorem goW_sec {w : Wd} : ∀ (as : List Actn) m, m ∈ goW w as → m.world.book.sec = w.book.sec := by
 intro as
 induction as generalizing w with
 | nil => intro m hm; simp [goW] at hm
 | cons a as ih =>
  intro m hm
  simp only [goW, List.mem_cons] at hm
  rcases hm with rfl | hm
  ·exact (stepM_keep w a).2
  ·rw [ih m hm, (stepM_keep w a).2]
theorem driveW_at {s : Int} {l : List Int} {es : List Actn} : ∀ m, m ∈ driveW s l es → rightB m.world = true ∧ m.world.book.sec = s := by
 unfold driveW
 split
 ·rename_i h
  obtain ⟨hso, hsw⟩ := startW_ok h.1
  intro m hm
  refine ⟨goW_ok (by rw [hsw]; exact wdS_ok hso) es m hm, ?_⟩
  rw [goW_sec es m hm, hsw]
  rfl
 ·intro m hm; simp at hm
/-- What a right world says of a train's body. -/
theorem right_on {w : Wd} (h : rightB w = true) {k : Nat} (hk : k < w.bodies.length) (hl : k < w.book.lines.length) : ∃ b m : Nat, w.bodies[k].tail = w.book.lines[k].gone + b ∧ w.bodies[k].front = w.bodies[k].tail + m ∧ b + m < w.book.lines[k].way.length ∧ 0 ≤ w.book.lines[k].gone ∧ w.bodies[k].front ≤ 1000000 ∧ w.book.lines[k].gone ≤ w.bodies[k].tail ∧ w.bodies[k].tail ≤ w.bodies[k].front ∧ w.bodies[k].front < w.bodies[k].cel ∧ w.bodies[k].cel ≤ reachB w.book k ∧ w.bodies[k].cel ≤ 1000000 := by
 obtain ⟨r1, r2, r3, r4⟩ := rightB_all h
 have hln := bookOk_ln r2 hl
 have hbo := r4 k hk hl
 obtain ⟨b, m, e1, e2, e3, e4, e5⟩ := body_way hln hbo
 obtain ⟨i, hi, he, hp, v0, v1, c1, c2, t0, t1, t2, t3, c3⟩ := body_leash hln hbo
 refine ⟨b, m, e1, e2, e3, hln.g0, e5, t3, t1, t2, ?_, c3⟩
 unfold reachB
 rw [if_pos ⟨r2, by simp [inB]; omega⟩]
 simpa [lnAt, hl] using c2
theorem onC_none {w : List Int} {b d : Nat} {s i : Int} (h : ∀ j, j < d → w.getD (b + j) 0 ≠ s) : onC w b s i d = [] := by
 induction d with
 | zero => rfl
 | succ d ih =>
  simp only [onC]
  rw [ih fun j hj => h j (by omega), if_neg (h d (by omega))]
  rfl
theorem onC_one {w : List Int} {b d : Nat} {s i : Int} (hw : w.Nodup) (hd : b + d ≤ w.length) : (onC w b s i d).length ≤ 1 := by
 induction d with
 | zero => simp [onC]
 | succ d ih =>
  simp only [onC]
  split
  ·rename_i e
   rw [onC_none]
   ·simp
   intro j hj hh
   have h1 : w.getD (b + d) 0 = w[b + d] := by simp [show b + d < w.length by omega]
   have h2 : w.getD (b + j) 0 = w[b + j] := by simp [show b + j < w.length by omega]
   unfold List.Nodup at hw
   rw [List.pairwise_iff_getElem] at hw
   exact hw (b + j) (b + d) (by omega) (by omega) (by omega) (by rw [← h1, ← h2, e, hh])
  ·rw [List.append_nil]; exact ih (by omega)
theorem onN_one {ls : List Ln} {xs : List Bd} {s : Int} (hs : (secs ls).Nodup) {n : Nat} (hn : n ≤ ls.length) (h : ∀ i, i < n → LnOk (lAt ls i) ∧ bodyOk (lAt ls i) (bAt xs i) = true) : (onN ls xs s n).length ≤ 1 ∧ ((∀ j (hj : j < n), s ∉ (ls[j]'(by omega)).way) → onN ls xs s n = []) := by
 induction n with
 | zero => exact ⟨by simp [onN], fun _ => rfl⟩
 | succ n ih =>
  have hl : n < ls.length := by omega
  obtain ⟨i1, i2⟩ := ih (by omega) fun i hi => h i (by omega)
  obtain ⟨h2, h3⟩ := h n (by omega)
  obtain ⟨b, m, e1, e2, e3, _, _⟩ := body_way h2 h3
  obtain ⟨s1, s2⟩ := secs_one hs hl
  rw [lAt_eq hl] at e1 e3
  have hX : onX (lAt ls n) (bAt xs n) s n = onC ls[n].way b s n (m + 1) := by rw [lAt_eq hl]; exact onX_eq e1 e2 s n
  have hne : s ∉ ls[n].way → onC ls[n].way b s n (m + 1) = [] := fun hh => onC_none fun j hj e => hh (by
   rw [← e]; simp [show b + j < ls[n].way.length by omega])
  simp only [onN, hX]
  constructor
  ·by_cases q : s ∈ ls[n].way
   ·rw [i2 fun j hj => s2 j hj s q, List.nil_append]
    exact onC_one s1 (by omega)
   ·rw [hne q, List.append_nil]; exact i1
  ·intro hj
   rw [i2 fun j q => hj j (by omega), hne (hj n (by omega))]
   rfl
theorem onW_one {w : Wd} (h : rightB w = true) (s : Int) : (onW w s).length ≤ 1 := by
 obtain ⟨r1, r2, r3, r4⟩ := rightB_all h
 unfold onW
 rw [if_pos h]
 refine (onN_one (bookOk_all r2).2.2.2.2 (by omega) fun i hi => ?_).1
 have hl : i < w.book.lines.length := by omega
 rw [lAt_eq hl, bAt_eq hi]
 exact ⟨bookOk_ln r2 hl, r4 i hi hl⟩
/-- How many trains are seen on a section, when the lines before k and d sections of line k's body are seen. -/
def cntW (w : Wd) (k b d : Nat) (q : Int) : Nat := (onN w.book.lines w.bodies q k).length + (onC (lAt w.book.lines k).way b q k d).length
abbrev cntL (w : Wd) (k b d S : Nat) : List Int := (List.range S).map fun (q : Nat) => (cntW w k b d (q : Int) : Int)
theorem cntL_0 (w : Wd) (b S : Nat) : cntL w 0 b 0 S = List.replicate S 0 := by
 apply List.ext_getElem
 ·simp [cntL]
 ·intro i h1 h2; simp [cntL, cntW, onN, onC]
theorem cntL_b (w : Wd) (k b b' S : Nat) : cntL w k b 0 S = cntL w k b' 0 S := by simp [cntL, cntW, onC]
theorem cntL_next {w : Wd} {k : Nat} {b m : Nat} (hk : k < w.bodies.length) (hl : k < w.book.lines.length) (h1 : w.bodies[k].tail = w.book.lines[k].gone + b) (h2 : w.bodies[k].front = w.bodies[k].tail + m) (S b' : Nat) : cntL w k b (m + 1) S = cntL w (k + 1) b' 0 S := by
 unfold cntL
 congr 1
 funext q
 simp only [cntW, onN, onC, List.length_append, List.length_nil, lAt_eq hl, bAt_eq hk, onX_eq h1 h2, Nat.add_zero]
theorem cntL_set {w : Wd} {k : Nat} {b d S x : Nat} (hl : k < w.book.lines.length) (hb : b + d < w.book.lines[k].way.length) (hx : w.book.lines[k].way[b + d] = x) (hxS : x < S) : (cntL w k b d S).set x (cntW w k b d (x : Int) + 1) = cntL w k b (d + 1) S := by
 have hg : (lAt w.book.lines k).way.getD (b + d) 0 = x := by rw [lAt_eq hl]; simp [hb, hx]
 apply List.ext_getElem
 ·simp [cntL]
 ·intro q h1 h2
  simp only [cntL, List.getElem_set, List.getElem_map, List.getElem_range, cntW, onC, hg]
  by_cases e : x = q
  ·subst e; simp; omega
  ·have : ¬ (x : Int) = q := by omega
   simp [e, this]
theorem cntL_end {w : Wd} (h : rightB w = true) (b S : Nat) {q : Nat} (hq : q < S) : (cntL w w.bodies.length b 0 S)[q]'(by simpa [cntL] using hq) = ((onW w q).length : Int) := by
 simp only [cntL, List.getElem_map, List.getElem_range, cntW, onC, onW]
 rw [if_pos h]
 simp
end Go.Proofs.YtpoedfmkiiijnaaDoorAm
