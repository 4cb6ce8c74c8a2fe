/- What the functions compute, over plain data. Plain definitions and lemmas; no program in sight. -/
import Derived.Test.YtpoedfmkiiijnaaMk
namespace Go.Proofs.YtpoedfmkiiijnaaAm
def inB (x a b : Int) : Bool := decide (a ≤ x) && decide (x ≤ b)
def line0 : Ln := ⟨0, [], [⟨0, 0⟩], -1⟩
def bk0 : Bk := ⟨false, 0, []⟩
def beginB (s t : Int) : Bk := if inB s 1 200 = true ∧ inB t 0 20 = true then ⟨true, s, List.replicate t.toNat line0⟩ else bk0
theorem cnL_replicate {α : Type} (c : α → Int) (x : α) : ∀ n : Nat, cnL c (List.replicate n x) = n * c x
  | 0 => by simp [cnL]
  | n + 1 => by simp only [List.replicate_succ, cnL, cnL_replicate c x n]; rw [Int.natCast_succ, Int.add_mul]; omega
theorem cnB_begin (s t : Int) : cnBk (beginB s t) ≤ 1000 := by
  unfold beginB
  split
  · rename_i h
    have h2 := h.2
    simp only [inB, Bool.and_eq_true, decide_eq_true_eq] at h2
    simp only [cnBk, cnL_replicate]
    have : cnLn line0 = 4 := by simp [cnLn, line0, cnL, cnGr]
    rw [this]; omega
  · simp [cnBk, bk0, cnL]
end Go.Proofs.YtpoedfmkiiijnaaAm
