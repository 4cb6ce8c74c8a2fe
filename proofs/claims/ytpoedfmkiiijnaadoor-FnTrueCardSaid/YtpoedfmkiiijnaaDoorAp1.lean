/- append of one element onto a slice of one's own. Plain lemmas. -/
import Derived.Test.YtpoedfmkiiijnaaDoorGC
import Derived.Test.YtpoedfmkiiijnaaDoorGN
namespace Go.Proofs.YtpoedfmkiiijnaaDoorAm
open Go Go.RowKit
set_option linter.unusedVariables false
set_option linter.unusedSimpArgs false
theorem app_one {α : Type} {R : Heap → List Nat → α → List Value → Prop} {P : Program} {t e : TypeId} {sz by' : Nat} {z : Value} (he : elemO P t = some e) (hs : szO P e = some (sz + 1)) (hb : byO P e = some by') (hz : zeroO P e = some z) (hzl : (cellsV z).length = sz + 1)
  (hR : Frm R) {H : Heap} {E1 Ex : List Nat} {v : Value} {xs : List α} {x : α} {cx : List Value} (h1 : RW e (sz + 1) R H E1 v xs) (ho : Own H E1) (hx : R H Ex x cx) (hox : Own H Ex) (hap : ∀ i, i ∈ E1 → i ∉ Ex) (hcx : cx.length = sz + 1) (hone : cx.all (·.oneCell') = true)
  (hby : (xs.length + 1) * by' ≤ 140737488355328) (hmax : xs.length + 1 ≤ maxLen) :
  ∃ k v' H3 E', apA P (H ++ [⟨e, cx, true, true⟩]) [t, t] v (sl H.length 0 1) = some (k, v', H3) ∧ (∀ i, k = some i → i ∈ E1 ∧ Heap.live (H ++ [⟨e, cx, true, true⟩]) i = true) ∧ H.length ≤ H3.length ∧ (∀ i, i < H.length → i ∉ E1 → H3[i]? = H[i]?) ∧
   RW e (sz + 1) R H3 E' v' (xs ++ [x]) ∧ Own H3 E' ∧ ∀ i, i ∈ E' → i ∈ E1 ∨ i ∈ Ex ∨ H.length ≤ i := by
 have b1 := h1.bd hR
 have bx := hR.bd hx
 have g : Gro H (H ++ [⟨e, cx, true, true⟩]) := Gro.one _ _
 have hsrc : srcA (H ++ [⟨e, cx, true, true⟩]) (sz + 1) (sl H.length 0 1) = some (([x] : List α).length, cx) := by
  have hl : ldC (H ++ [⟨e, cx, true, true⟩]) H.length ([] : List Value).length (sz + 1) = some cx := ldC_cells (b := ⟨e, cx, true, true⟩) (by simp) rfl (sz + 1) [] cx [] (by simp) hcx
  unfold srcA
  simp only [Nat.one_mul, List.length_nil] at hl ⊢
  rw [hl]
  rfl
 obtain ⟨k, v', H3, E', e1, e2, e3, e4, e5, e6, e7, e8⟩ := apA_RW he hs hb hz hzl hR (h1.ext hR (L := [⟨e, cx, true, true⟩])) hsrc (ys := [x]) (news := cx) ⟨Ex, [], cx, [], by simp, by simp, hcx, hR.ext hx, rfl, rfl⟩ hone ho.1 hox.1 hap hby hmax
 refine ⟨k, v', H3, E', e1, e2, by simp at e3; omega, fun i hi hn => (e4 i (by simp; omega) hn).trans (g.same hi), e5, ⟨e6, fun i hi => ?_⟩, fun i hi => ?_⟩
 ·rcases e7 i hi with ⟨h | h, _, h3⟩ | ⟨_, h⟩
  ·have := ho.2 i h
   unfold Heap.rwOk at this ⊢
   rw [h3, g.same (b1 i h)]; exact this
  ·have := hox.2 i h
   unfold Heap.rwOk at this ⊢
   rw [h3, g.same (bx i h)]; exact this
  ·exact h
 ·rcases e7 i hi with ⟨h | h, _⟩ | ⟨h, _⟩
  ·exact .inl h
  ·exact .inr (.inl h)
  ·exact .inr (.inr (by simp at h; omega))
theorem bookOk_len {b : Bk} (h : bookOkB b = 0) : b.lines.length ≤ 1048576 ∧ ∀ l, l ∈ b.lines → lenOk l := by
 obtain ⟨_, _, h3, _⟩ := bookOk_sec h
 refine ⟨by omega, fun l hl => ?_⟩
 obtain ⟨i, hi, rfl⟩ := List.getElem_of_mem hl
 have := bookOk_ln h hi
 exact ⟨by have := this.w1; omega, by have := this.n1; omega⟩
end Go.Proofs.YtpoedfmkiiijnaaDoorAm
