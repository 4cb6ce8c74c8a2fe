/- One owner: over plain data. Plain definitions and lemmas; no program in sight. -/
import Derived.Test.YtpoedfmkiiijnaaDoorGN
namespace Go.Proofs.YtpoedfmkiiijnaaDoorAm
set_option linter.unusedVariables false
set_option linter.unusedSimpArgs false
theorem doB_sec {b : Bk} {e : Evt} (h : (doB b e).code ≠ 1) : (doB b e).book.sec = b.sec := by
 unfold doB at h ⊢
 split
 ·unfold doV
  simp only
  split <;> rfl
 ·rename_i hh
  rw [if_neg hh] at h
  exact absurd rfl h
theorem secs_one {ls : List Ln} (h : (secs ls).Nodup) {k : Nat} (hk : k < ls.length) : ls[k].way.Nodup ∧ ∀ j (hj : j < k) q, q ∈ ls[k].way → q ∉ (ls[j]'(by omega)).way := by
 unfold secs List.Nodup at h
 rw [List.pairwise_flatten] at h
 obtain ⟨h1, h2⟩ := h
 refine ⟨h1 _ (List.mem_map.2 ⟨_, List.getElem_mem hk, rfl⟩), fun j hj q hq hq2 => ?_⟩
 rw [List.pairwise_iff_getElem] at h2
 have := h2 j k (by simpa using (by omega)) (by simpa using hk) hj
 simp only [List.getElem_map] at this
 exact this q hq2 q hq rfl
end Go.Proofs.YtpoedfmkiiijnaaDoorAm
