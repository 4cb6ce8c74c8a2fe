/- What Answer writes, over plain data. Plain definitions and lemmas; no program in sight. -/
import Derived.Test.YtpoedfmkiiijnaaDoorGN
import Derived.Lib.ItoaLen
namespace Go.Proofs.YtpoedfmkiiijnaaDoorAm
open Go
set_option linter.unusedVariables false
set_option linter.unusedSimpArgs false
/-- The mark of the section that is the c-th of a way. -/
def mkS (l : Ln) (x : Bd) (c : Nat) : List UInt8 :=
 if inB (l.gone + c) x.tail x.front = true then [42] else if l.gone + c < x.cel then [43] else if l.gone + c < reachL l.grs then [63] else []
def ceS (l : Ln) (x : Bd) (c : Nat) : List UInt8 := 32 :: (mkS l x c ++ Lib.itoa (l.way.getD c 0))
def wyS (l : Ln) (x : Bd) (k : Nat) : List UInt8 := (List.range k).flatMap (ceS l x)
def lnS (l : Ln) (x : Bd) : List UInt8 := [32, 124] ++ wyS l x l.way.length
def lsS (ls : List Ln) (xs : List Bd) (k : Nat) : List UInt8 := (List.range k).flatMap fun i => lnS (lAt ls i) (bAt xs i)
def mvS (m : Mv) : List UInt8 := Lib.itoa m.code ++ lsS m.world.book.lines m.world.bodies m.world.book.lines.length ++ [10]
def anS (ms : List Mv) : List UInt8 := ms.flatMap mvS
theorem wyS_0 (l : Ln) (x : Bd) : wyS l x 0 = [] := rfl
theorem wyS_s (l : Ln) (x : Bd) (k : Nat) : wyS l x (k + 1) = wyS l x k ++ ceS l x k := by simp [wyS, List.range_succ, List.flatMap_append]
theorem lsS_0 (ls : List Ln) (xs : List Bd) : lsS ls xs 0 = [] := rfl
theorem lsS_s (ls : List Ln) (xs : List Bd) (k : Nat) : lsS ls xs (k + 1) = lsS ls xs k ++ lnS (lAt ls k) (bAt xs k) := by simp [lsS, List.range_succ, List.flatMap_append]
theorem anS_s {ms : List Mv} {i : Nat} (h : i < ms.length) : anS (ms.take (i + 1)) = anS (ms.take i) ++ mvS ms[i] := by rw [take_snoc h, anS, List.flatMap_append]; simp [anS]
theorem mkS_len (l : Ln) (x : Bd) (c : Nat) : (mkS l x c).length ≤ 1 := by unfold mkS; split <;> (try split) <;> (try split) <;> simp
theorem fm_len {α : Type} {f : α → List UInt8} {m : Nat} : ∀ {xs : List α}, (∀ x, x ∈ xs → (f x).length ≤ m) → (xs.flatMap f).length ≤ m * xs.length
 | [], _ => by simp
 | x :: xs, h => by
  have h1 := fm_len (xs := xs) fun y hy => h y (by simp [hy])
  have h2 := h x (by simp)
  simp only [List.flatMap_cons, List.length_append, List.length_cons, Nat.mul_add]
  omega
/-- What is asked of a move's numbers. -/
structure MvB (m : Mv) : Prop where
 r : rightB m.world = true
 c : 0 ≤ m.code ∧ m.code ≤ 1000
theorem itoa_le {n : Int} (h : 0 ≤ n ∧ n ≤ 1000000) : (Lib.itoa n).length ≤ 21 := Lib.itoa_length_le n (by omega) (by omega)
theorem way_at {w : Wd} (h : rightB w = true) {i c : Nat} (hi : i < w.book.lines.length) (hc : c < w.book.lines[i].way.length) : 0 ≤ w.book.lines[i].way[c] ∧ w.book.lines[i].way[c] ≤ 199 := by
 obtain ⟨_, h2, _, _⟩ := rightB_all h
 obtain ⟨k1, k2, k3, _⟩ := bookOk_all h2
 obtain ⟨s1, s2, _⟩ := bookOk_sec h2
 have := List.all_eq_true.1 k2 _ (List.getElem_mem hi)
 simp only [ok2, Bool.and_eq_true, List.all_eq_true] at this
 have hw := this.2 _ (List.getElem_mem hc)
 simp only [inB, Bool.and_eq_true, decide_eq_true_eq] at hw
 omega
theorem wyS_len {w : Wd} (h : rightB w = true) {i k : Nat} (hi : i < w.book.lines.length) (x : Bd) (hk : k ≤ w.book.lines[i].way.length) : (wyS w.book.lines[i] x k).length ≤ 23 * k := by
 have := fm_len (m := 23) (f := ceS w.book.lines[i] x) (xs := List.range k) fun c hc => by
  have hc' : c < w.book.lines[i].way.length := by have := List.mem_range.1 hc; omega
  have e : w.book.lines[i].way.getD c 0 = w.book.lines[i].way[c] := by simp [hc']
  have h1 := way_at h hi hc'
  have h2 := itoa_le (n := w.book.lines[i].way[c]) ⟨h1.1, by omega⟩
  have h3 := mkS_len w.book.lines[i] x c
  simp only [ceS, e, List.length_cons, List.length_append]
  omega
 simpa [wyS] using this
theorem lnS_len {w : Wd} (h : rightB w = true) {i : Nat} (hi : i < w.book.lines.length) (x : Bd) : (lnS w.book.lines[i] x).length ≤ 2400 := by
 obtain ⟨_, h2, _, _⟩ := rightB_all h
 have h1 := (bookOk_ln h2 hi).w1
 have := wyS_len h hi x (Nat.le_refl _)
 simp only [lnS, List.length_append, List.length_cons, List.length_nil]
 omega
theorem lsS_len {w : Wd} (h : rightB w = true) {k : Nat} (hk : k ≤ w.book.lines.length) : (lsS w.book.lines w.bodies k).length ≤ 2400 * k := by
 have := fm_len (m := 2400) (f := fun i => lnS (lAt w.book.lines i) (bAt w.bodies i)) (xs := List.range k) fun i hi => by
  have hi' : i < w.book.lines.length := by have := List.mem_range.1 hi; omega
  rw [lAt_eq hi']; exact lnS_len h hi' _
 simpa [lsS] using this
theorem mvS_len {m : Mv} (h : MvB m) : (mvS m).length ≤ 60000 := by
 obtain ⟨_, h2, _, _⟩ := rightB_all h.r
 obtain ⟨_, _, h20, _⟩ := bookOk_sec h2
 have h1 := lsS_len h.r (Nat.le_refl _)
 have h3 := itoa_le (n := m.code) ⟨h.c.1, by have := h.c.2; omega⟩
 simp only [mvS, List.length_append, List.length_cons, List.length_nil]
 omega
theorem anS_len {ms : List Mv} (h : ∀ m, m ∈ ms → MvB m) : (anS ms).length ≤ 60000 * ms.length := fm_len fun m hm => mvS_len (h m hm)
/-- The codes of a world's moves. -/
theorem evLn_code (ls : List Ln) (l : Ln) (e : Evt) : 0 ≤ (evLn ls l e).1 ∧ (evLn ls l e).1 ≤ 4 := by
 unfold evLn
 (repeat' split) <;> simp
def okD (d : Dn) : Prop := 0 ≤ d.code ∧ d.code ≤ 4
theorem doB_code (b : Bk) (e : Evt) : okD (doB b e) := by
 have h := evLn_code b.lines (lnAt b e.train) e
 unfold doB doV
 split
 ·dsimp only
  split
  ·exact ⟨by simp, by simp⟩
  ·exact h
 ·exact ⟨by simp, by simp⟩
def okC (d : Mv) : Prop := 0 ≤ d.code ∧ d.code ≤ 4
theorem okC_w (n : Int) (w : Wd) (h : 0 ≤ n ∧ n ≤ 4) : okC ⟨n, w⟩ := h
theorem bookW_code (w : Wd) (e : Evt) : okC (bookW w e) := by
 unfold bookW
 split
 ·exact ⟨by simp, by simp⟩
 ·exact doB_code _ _
theorem stepWd_code (w : Wd) (a : Actn) : okC (stepWd w a) := by
 unfold stepWd stepV
 dsimp only
 (repeat' split) <;> first | exact bookW_code _ _ | exact okC_w _ _ (by omega)
theorem stepM_code (w : Wd) (a : Actn) : 0 ≤ (stepM w a).code ∧ (stepM w a).code ≤ 4 := by
 unfold stepM
 split
 ·simp
 ·exact stepWd_code _ _
theorem goW_B {w : Wd} (h : rightB w = true) : ∀ as : List Actn, ∀ m, m ∈ goW w as → MvB m
 | [], m, hm => by simp [goW] at hm
 | a :: as, m, hm => by
  simp only [goW, List.mem_cons] at hm
  rcases hm with rfl | hm
  ·exact ⟨stepM_ok h a, by have := stepM_code w a; omega⟩
  ·exact goW_B (stepM_ok h a) as m hm
theorem driveW_B {s : Int} {l : List Int} {es : List Actn} : (∀ m, m ∈ driveW s l es → MvB m) ∧ (driveW s l es).length ≤ 2000 := by
 unfold driveW
 split
 ·rename_i h
  obtain ⟨hso, hsw⟩ := startW_ok h.1
  exact ⟨goW_B (by rw [hsw]; exact wdS_ok hso) es, by rw [goW_len]; exact h.2⟩
 ·simp
end Go.Proofs.YtpoedfmkiiijnaaDoorAm
