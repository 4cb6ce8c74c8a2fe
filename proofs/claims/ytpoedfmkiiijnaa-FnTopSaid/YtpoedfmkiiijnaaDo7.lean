/- How many marks what Do answers takes. Plain lemmas. -/
import Derived.Test.YtpoedfmkiiijnaaDo6
import Derived.Test.YtpoedfmkiiijnaaGH
namespace Go.Proofs.Ytpoedfmkiiijnaa
open Go Go.RowKit Go.Proofs.YtpoedfmkiiijnaaAm
set_option linter.unusedVariables false
set_option linter.unusedSimpArgs false
theorem cnL_one {α : Type} {c : α → Int} {m : Nat} (h : ∀ x, c x = m) : ∀ xs : List α, cnL c xs = m * xs.length
  | [] => by simp [cnL]
  | x :: xs => by simp only [cnL, cnL_one h xs, h, List.length_cons, Int.natCast_succ]; rw [Int.mul_add]; omega
theorem cnLn_eq (l : Ln) : cnLn l = 2 + l.way.length + 2 * l.grs.length := by
  have h1 := cnL_one (c := cnInt) (m := 1) (fun _ => rfl) l.way
  have h2 := cnL_one (c := cnGr) (m := 2) (fun _ => rfl) l.grs
  unfold cnLn
  omega
theorem cnL_sz : ∀ ls : List Ln, cnL cnLn ls ≤ 2 * ls.length + 2 * cnL szL ls
  | [] => by simp [cnL]
  | l :: ls => by
    have h := cnL_sz ls
    have h1 := cnLn_eq l
    simp only [cnL, List.length_cons, Int.natCast_succ, szL]
    omega
theorem cnBk_sz (b : Bk) : cnBk b ≤ 2 * szLs b.lines := by
  have := cnL_sz b.lines
  unfold cnBk szLs
  omega
theorem cnL_bnd {α : Type} {c : α → Int} {m : Int} : ∀ xs : List α, (∀ x, x ∈ xs → c x ≤ m) → cnL c xs ≤ m * xs.length
  | [], _ => by simp [cnL]
  | x :: xs, h => by
    have h1 := cnL_bnd xs fun y hy => h y (by simp [hy])
    have h2 := h x (by simp)
    simp only [cnL, List.length_cons, Int.natCast_succ, Int.mul_add]
    omega
theorem evLn_grs (ls : List Ln) (l : Ln) (e : Evt) : (evLn ls l e).2.grs.length ≤ l.grs.length + 1 := by
  unfold evLn
  (repeat' split) <;> simp <;> omega
theorem settleL_way (l : Ln) : (settleL l).way.length ≤ l.way.length := by
  unfold settleL
  split
  · exact Nat.le_refl _
  · simp only
    split <;> split <;> simp <;> omega
theorem cnBk_doB (b : Bk) (e : Evt) : cnBk (doB b e).book ≤ 3000 := by
  unfold doB
  split
  case isFalse => simp [cnBk, bk0, cnL]
  rename_i q
  have hok := evOk_book q
  obtain ⟨s1, s2, s3, s4⟩ := bookOk_sec hok
  have hev := q
  simp only [evOkB, Bool.and_eq_true, decide_eq_true_eq] at hev
  obtain ⟨_, hop, htr, hne⟩ := hev
  simp only [inB, Bool.and_eq_true, decide_eq_true_eq] at hop htr
  have hn10 : 0 ≤ e.n ∧ e.n ≤ 1000000 := by
    by_cases p1 : e.op = 1
    · rw [if_pos p1] at hne; simp [inB] at hne; omega
    · rw [if_neg p1] at hne; simpa [inB] using hne
  obtain ⟨k, hk⟩ : ∃ k : Nat, e.train = k := ⟨e.train.toNat, by omega⟩
  have hkl : k < b.lines.length := by omega
  have hlo := bookOk_ln hok hkl
  rw [doV_eq hk hkl hlo]
  unfold cnBk
  have h1 : cnL cnLn (b.lines.set k (settleL (evLn b.lines b.lines[k] e).2)) ≤ 145 * ((b.lines.set k (settleL (evLn b.lines b.lines[k] e).2)).length : Int) := cnL_bnd _ fun x hx => by
    rw [cnLn_eq]
    rcases List.mem_or_eq_of_mem_set hx with h | h
    · obtain ⟨i, hi, rfl⟩ := List.getElem_of_mem h
      have h1 := (bookOk_ln hok hi).w1
      have h2 := (bookOk_ln hok hi).n1
      omega
    · subst h
      have h1 := settleL_way (evLn b.lines b.lines[k] e).2
      have h2 := (evLn_bd (ls := b.lines) hlo hn10).2.2.1
      have h3 := evLn_grs b.lines b.lines[k] e
      have h4 := hlo.n1
      rw [settleL_grs]
      omega
  simp only [List.length_set] at h1 ⊢
  omega
end Go.Proofs.Ytpoedfmkiiijnaa
