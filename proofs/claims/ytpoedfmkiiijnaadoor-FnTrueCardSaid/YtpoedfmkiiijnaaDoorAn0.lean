/- A builder that is written, over a heap that else only grows. Plain lemmas. -/
import Derived.Test.YtpoedfmkiiijnaaDoorGM
import Derived.Test.YtpoedfmkiiijnaaDoorPuS
namespace Go.Proofs.YtpoedfmkiiijnaaDoor
open Go Go.RowKit Go.Proofs.YtpoedfmkiiijnaaDoorAm
set_option linter.unusedVariables false
set_option linter.unusedSimpArgs false
/-- From the heap Hb on (the builder's bytes lay in F0): the builder at X holds l now, in F. -/
structure AnI (Hb : Heap) (X : Nat) (F0 : List Nat) (H1 : Heap) (F : List Nat) (l : List UInt8) : Prop where
 len : Hb.length ≤ H1.length
 same : ∀ i, i < Hb.length → i ≠ X → i ∉ F0 → H1[i]? = Hb[i]?
 bs : BS H1 X F l
 fr : ∀ i, i ∈ F → i ∈ F0 ∨ Hb.length ≤ i
theorem AnI.refl {H : Heap} {X : Nat} {F : List Nat} {l : List UInt8} (h : BS H X F l) : AnI H X F H F l := ⟨Nat.le_refl _, fun _ _ _ _ => rfl, h, fun i hi => .inl hi⟩
theorem BS.ext {H : Heap} {X : Nat} {F : List Nat} {l : List UInt8} (h : BS H X F l) (J : Heap) : BS (H ++ J) X F l := h.fr fun i hi => by
 rcases hi with rfl | hi
 ·exact List.getElem?_append_left h.lt.1
 ·exact List.getElem?_append_left (h.lt.2 i hi)
theorem AnI.ext {Hb : Heap} {X : Nat} {F0 : List Nat} {H1 : Heap} {F : List Nat} {l : List UInt8} (h : AnI Hb X F0 H1 F l) (J : Heap) : AnI Hb X F0 (H1 ++ J) F l :=
 ⟨by simp only [List.length_append]; have := h.len; omega, fun i hi hx hn => (List.getElem?_append_left (by have := h.len; omega)).trans (h.same i hi hx hn), h.bs.ext J, h.fr⟩
theorem AnI.trans {Ha Hb Hc : Heap} {X : Nat} {F0 F1 F2 : List Nat} {l1 l2 : List UInt8} (h : AnI Ha X F0 Hb F1 l1) (k : AnI Hb X F1 Hc F2 l2) : AnI Ha X F0 Hc F2 l2 := by
 refine ⟨Nat.le_trans h.len k.len, fun i hi hx hn => ?_, k.bs, fun i hi => ?_⟩
 ·have hn1 : i ∉ F1 := fun hh => by
   rcases h.fr i hh with h1 | h1
   ·exact hn h1
   ·omega
  rw [k.same i (by have := h.len; omega) hx hn1]
  exact h.same i hi hx hn
 ·rcases k.fr i hi with h1 | h1
  ·exact h.fr i h1
  ·exact .inr (by have := h.len; omega)
/-- One text more is written. -/
theorem AnI.write {H : Heap} {X : Nat} {F : List Nat} {l s : List UInt8} (h : BS H X F l) (hb : l.length + s.length ≤ 140737488355328) :
  ∃ H', AC Tryd.prog 21 [pt X 0, vs s] H (.tuple #[iv s.length, .nilIface]) H' (X :: F) ∧ ∃ F', AnI H X F H' F' (l ++ s) := by
 obtain ⟨H', a1, F', a2, a3, a4, a5⟩ := wString_ac h hb
 exact ⟨H', a1, F', a3, a4, a2, fun i hi => .inr (a5 i hi)⟩
theorem AnI.lo {Hb : Heap} {X n : Nat} {F0 : List Nat} {H1 : Heap} {F : List Nat} {l : List UInt8} (h : AnI Hb X F0 H1 F l) (h0 : ∀ i, i ∈ F0 → n ≤ i) (hn : n ≤ Hb.length) : ∀ i, i ∈ F → n ≤ i := fun i hi => by
 rcases h.fr i hi with h1 | h1
 ·exact h0 i h1
 ·omega
theorem AnI.wr {n X : Nat} {F : List Nat} (hX : n ≤ X) (hF : ∀ i, i ∈ F → n ≤ i) : wrL n [] (X :: F) := fun d hd => by
 rcases List.mem_cons.1 hd with rfl | hd
 ·exact .inl hX
 ·exact .inl (hF d hd)
end Go.Proofs.YtpoedfmkiiijnaaDoor
