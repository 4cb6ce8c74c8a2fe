/- Who is on a section, over plain data. Plain definitions and lemmas; no program in sight. -/
import Derived.Test.YtpoedfmkiiijnaaPu6
namespace Go.Proofs.YtpoedfmkiiijnaaAm
set_option linter.unusedVariables false
set_option linter.unusedSimpArgs false
def onC (w : List Int) (b : Nat) (s i : Int) : Nat → List Int
  | 0 => []
  | d + 1 => onC w b s i d ++ if w.getD (b + d) 0 = s then [i] else []
def onX (l : Ln) (x : Bd) (s i : Int) : List Int := onC l.way (x.tail - l.gone).toNat s i (x.front - x.tail + 1).toNat
def onN (ls : List Ln) (xs : List Bd) (s : Int) : Nat → List Int
  | 0 => []
  | i + 1 => onN ls xs s i ++ onX (lAt ls i) (bAt xs i) s i
def onW (w : Wd) (s : Int) : List Int := if rightB w = true then onN w.book.lines w.bodies s w.bodies.length else []
theorem onC_len (w : List Int) (b : Nat) (s i : Int) : ∀ d, (onC w b s i d).length ≤ d
  | 0 => by simp [onC]
  | d + 1 => by
    have := onC_len w b s i d
    simp only [onC, List.length_append]
    split <;> simp <;> omega
/-- Where a body is on its line's way. -/
theorem body_way {l : Ln} {x : Bd} (h : LnOk l) (hb : bodyOk l x = true) : ∃ b m : Nat, x.tail = l.gone + b ∧ x.front = x.tail + m ∧ b + m < l.way.length ∧ 0 ≤ x.tail ∧ x.front ≤ 1000000 := by
  obtain ⟨i, hi, he, hp, v0, v1, c1, c2, t0, t1, t2, t3, c3⟩ := body_leash h hb
  have td : totL l = l.gone + l.way.length := rfl
  exact ⟨(x.tail - l.gone).toNat, (x.front - x.tail).toNat, by omega, by omega, by omega, t0, by omega⟩
theorem onX_eq {l : Ln} {x : Bd} {b m : Nat} (h1 : x.tail = l.gone + b) (h2 : x.front = x.tail + m) (s i : Int) : onX l x s i = onC l.way b s i (m + 1) := by
  unfold onX
  rw [show (x.tail - l.gone).toNat = b by omega, show (x.front - x.tail + 1).toNat = m + 1 by omega]
theorem onN_len {ls : List Ln} {xs : List Bd} {s : Int} {n : Nat} (h : ∀ i, i < n → LnOk (lAt ls i) ∧ bodyOk (lAt ls i) (bAt xs i) = true) : (onN ls xs s n).length ≤ 101 * n := by
  induction n with
  | zero => simp [onN]
  | succ n ih =>
    have h1 := ih fun i hi => h i (by omega)
    obtain ⟨h2, h3⟩ := h n (by omega)
    obtain ⟨b, m, e1, e2, e3, _, _⟩ := body_way h2 h3
    have h4 := h2.w1
    have h5 := onC_len (lAt ls n).way b s n (m + 1)
    simp only [onN, onX_eq e1 e2, List.length_append]
    omega
end Go.Proofs.YtpoedfmkiiijnaaAm
