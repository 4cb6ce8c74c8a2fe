/- Marks: data written over in the heap. Plain definitions and lemmas. -/
import Derived.Test.YtpoedfmkiiijnaaDat
namespace Go.Proofs.YtpoedfmkiiijnaaAm
open Go Go.RowKit
set_option linter.unusedVariables false
set_option linter.unusedSimpArgs false

/-! ### writing into a heap's old block -/
theorem rwOk_put (H : Heap) (i j : Nat) (x : Value) (i' : Nat) : Heap.rwOk (H.put i j x) i' = Heap.rwOk H i' := by
  unfold Heap.rwOk Heap.put
  rw [List.getElem?_modify]
  by_cases e : i = i'
  · subst e; simp; cases H[i]? <;> rfl
  · simp [e]
theorem get_put (H : Heap) (i j : Nat) (x : Value) : (H.put i j x)[i]? = (H[i]?).map fun b => { b with cells := b.cells.set j x } := by
  unfold Heap.put; rw [List.getElem?_modify]; simp
theorem get_put_ne (H : Heap) {i i' : Nat} (j : Nat) (x : Value) (h : i' ≠ i) : (H.put i j x)[i']? = H[i']? := by
  unfold Heap.put; rw [List.getElem?_modify]; simp [Ne.symm h]
theorem cell_put (H : Heap) (i j : Nat) (x : Value) (i' j' : Nat) : Heap.cell (H.put i j x) i' j' = if i = i' ∧ j = j' ∧ (Heap.cell H i j).isSome = true then some x else Heap.cell H i' j' := by
  unfold Heap.cell
  by_cases e : i' = i
  · subst e
    rw [get_put]
    cases hb : H[i']? with
    | none => simp
    | some b =>
      simp only [Option.map_some, true_and]
      cases hl : b.live with
      | false => simp
      | true =>
        simp only [if_true]
        rw [List.getElem?_set]
        by_cases ej : j = j'
        · subst ej
          simp only [if_true, true_and]
          by_cases hlt : j < b.cells.length
          · simp [hlt]
          · simp [hlt]
        · simp [ej]
  · rw [get_put_ne H j x e]
    simp [Ne.symm e]
theorem length_put (H : Heap) (i j : Nat) (x : Value) : (H.put i j x).length = H.length := by unfold Heap.put; simp
/-- H' is H, written over with plain values in ids of E. -/
structure MK (E : List Nat) (H H' : Heap) : Prop where
  len : H'.length = H.length
  out : ∀ id, id ∉ E → H'[id]? = H[id]?
  cell : ∀ id j x, Heap.cell H' id j = some x → Heap.cell H id j = some x ∨ plainV x = true
  rw : ∀ id, Heap.rwOk H' id = Heap.rwOk H id
theorem MK.refl (E : List Nat) (H : Heap) : MK E H H := ⟨rfl, fun _ _ => rfl, fun _ _ _ h => .inl h, fun _ => rfl⟩
theorem MK.trans {E : List Nat} {a b c : Heap} (h : MK E a b) (k : MK E b c) : MK E a c :=
  ⟨k.len.trans h.len, fun id hi => (k.out id hi).trans (h.out id hi), fun id j x hx => by
    rcases k.cell id j x hx with hx | hx
    · exact h.cell id j x hx
    · exact .inr hx, fun id => (k.rw id).trans (h.rw id)⟩
theorem MK.sub {E F : List Nat} {a b : Heap} (h : MK E a b) (hs : ∀ e, e ∈ E → e ∈ F) : MK F a b := ⟨h.len, fun id hi => h.out id fun he => hi (hs id he), h.cell, h.rw⟩
theorem MK.cellEq {E : List Nat} {a b : Heap} (h : MK E a b) {id : Nat} (hi : id ∉ E) (j : Nat) : Heap.cell b id j = Heap.cell a id j := by unfold Heap.cell; rw [h.out id hi]
theorem MK.put {E : List Nat} (H : Heap) {id : Nat} (j : Nat) {x : Value} (hi : id ∈ E) (hx : plainV x = true) : MK E H (H.put id j x) := by
  refine ⟨length_put _ _ _ _, fun i h => get_put_ne H j x fun e => h (e ▸ hi), fun i j' y hy => ?_, fun i => rwOk_put _ _ _ _ _⟩
  rw [cell_put] at hy
  split at hy
  · cases hy; exact .inr hx
  · exact .inl hy
/-- E's ids are apart, and may be written. -/
def Own (H : Heap) (E : List Nat) : Prop := E.Nodup ∧ ∀ id, id ∈ E → Heap.rwOk H id = true
theorem Own.mk {E F : List Nat} {H H' : Heap} (h : Own H F) (k : MK E H H') : Own H' F := ⟨h.1, fun id hi => by rw [k.rw]; exact h.2 id hi⟩
theorem Own.left {E F : List Nat} {H : Heap} (h : Own H (E ++ F)) : Own H E := ⟨(List.nodup_append.1 h.1).1, fun id hi => h.2 id (by simp [hi])⟩
theorem Own.right {E F : List Nat} {H : Heap} (h : Own H (E ++ F)) : Own H F := ⟨(List.nodup_append.1 h.1).2.1, fun id hi => h.2 id (by simp [hi])⟩
theorem Own.apart {E F : List Nat} {H : Heap} (h : Own H (E ++ F)) : ∀ id, id ∈ E → id ∉ F := fun id he hf => (List.nodup_append.1 h.1).2.2 id he id hf rfl
section
variable {α : Type} {sz : Nat} {R : Heap → List Nat → α → List Value → Prop} {H H' : Heap} {v : Value}
/-- An element's place, opened: what is laid there anew reads anew. -/
theorem RS.opn (hR : Frm R) {E : List Nat} {xs : List α} (h : RS sz R H E v xs) (hnd : E.Nodup) {k : Nat} (hk : k < xs.length) :
    ∃ id o Ek ck, v = sl id o xs.length ∧ id ∈ E ∧ id ∉ Ek ∧ (∀ e, e ∈ Ek → e ∈ E) ∧ Ek.Nodup ∧ R H Ek xs[k] ck ∧ ck.length = sz ∧ (∀ (i : Nat) (c : Value), ck[i]? = some c → Heap.cell H id (o + k * sz + i) = some c) ∧
      ∀ (H' : Heap) (x' : α) (ck' : List Value), ck'.length = sz → R H' Ek x' ck' → (∀ e, e ∈ E → e ≠ id → e ∉ Ek → H'[e]? = H[e]?) →
        (∀ a z b, H[id]? = some b → b.cells = a ++ (ck ++ z) → a.length = o + k * sz → H'[id]? = some { b with cells := a ++ (ck' ++ z) }) → RS sz R H' E v (xs.set k x') := by
  obtain ⟨hl, ⟨_, rfl, _⟩ | ⟨id, o, E', ty, rw, pre, cs, post, h1, h2, h3, h4, h5⟩⟩ := h
  · simp at hk
  · subst h2
    obtain ⟨E1, Ek, E2, c1, ck, c2, k1, k2, k3, k4, k5, k6, k7⟩ := h5.at hk
    subst k1; subst k2
    have hnd' := List.nodup_cons.1 hnd
    have hnd2 := List.nodup_append.1 hnd'.2
    have hnd3 := List.nodup_append.1 hnd2.2.1
    refine ⟨id, o, Ek, ck, h1, by simp, fun he => hnd'.1 (by simp [he]), fun e he => by simp [he], hnd3.1, k6, k4, fun i c hc => ?_, fun H' x' ck' hsz hR' hout hid => ⟨by simpa using hl, .inr ⟨id, o, E1 ++ (Ek ++ E2), ty, rw, pre, c1 ++ (ck' ++ c2), post, by simpa using h1, rfl, ?_, h4, ?_⟩⟩⟩
    · unfold Heap.cell
      rw [h3]
      have hi := (List.getElem?_eq_some_iff.1 hc).1
      simp only [if_true]
      rw [List.append_assoc, List.getElem?_append_right (by omega), h4, show o + k * sz + i - o = k * sz + i by omega, List.append_assoc, List.getElem?_append_right (by omega), k3, show k * sz + i - k * sz = i by omega, List.append_assoc, List.getElem?_append_left (by omega)]
      exact hc
    · have := hid (pre ++ c1) (c2 ++ post) _ h3 (by simp) (by simp [h4, k3])
      rw [this]; simp
    · have e : xs.set k x' = xs.take k ++ x' :: xs.drop (k + 1) := List.set_eq_take_append_cons_drop.trans (by simp [hk])
      rw [e]
      have n1 : ∀ e, e ∈ E1 → e ≠ id ∧ e ∉ Ek := fun e he => ⟨fun h => hnd'.1 (by rw [← h]; simp [he]), fun h => hnd2.2.2 e he e (by simp [h]) rfl⟩
      have n2 : ∀ e, e ∈ E2 → e ≠ id ∧ e ∉ Ek := fun e he => ⟨fun h => hnd'.1 (by rw [← h]; simp [he]), fun h => hnd3.2.2 e h e he rfl⟩
      exact (k5.fr hR fun e he _ => hout e (by simp [he]) (n1 e he).1 (n1 e he).2).app ⟨Ek, E2, ck', c2, rfl, rfl, hsz, hR', k7.fr hR fun e he _ => hout e (by simp [he]) (n2 e he).1 (n2 e he).2⟩
/-- One cell of an element is written. -/
theorem RS.put1 (hR : Frm R) {E : List Nat} {xs : List α} (h : RS sz R H E v xs) (hnd : E.Nodup) {k : Nat} (hk : k < xs.length) :
    ∃ id o Ek ck, v = sl id o xs.length ∧ id ∈ E ∧ id ∉ Ek ∧ (∀ e, e ∈ Ek → e ∈ E) ∧ Ek.Nodup ∧ R H Ek xs[k] ck ∧ ck.length = sz ∧ (∀ (i : Nat) (c : Value), ck[i]? = some c → Heap.cell H id (o + k * sz + i) = some c) ∧
      (∀ (i : Nat) (c : Value) (x' : α), i < sz → R H Ek x' (ck.set i c) → RS sz R (H.put id (o + k * sz + i) c) E v (xs.set k x')) ∧
      (∀ (H' : Heap) (x' : α), R H' Ek x' ck → (∀ e, e ∈ E → e ∉ Ek → H'[e]? = H[e]?) → RS sz R H' E v (xs.set k x')) := by
  obtain ⟨id, o, Ek, ck, h1, h2, h3, h4, h5, h6, h7, h8, h9⟩ := h.opn hR hnd hk
  refine ⟨id, o, Ek, ck, h1, h2, h3, h4, h5, h6, h7, h8, fun i c x' hi hx => ?_, fun H' x' hx ha => ?_⟩
  · refine h9 _ x' (ck.set i c) (by simpa using h7) (hR.fr hx fun e he _ => get_put_ne H _ _ fun hh => h3 (hh ▸ he)) (fun e _ hne _ => get_put_ne H _ _ hne) fun a z b hb hc ha => ?_
    rw [get_put, hb]
    simp only [Option.map_some, hc]
    rw [List.set_append, if_neg (by omega), List.set_append, if_pos (by omega), ha, show o + k * sz + i - (o + k * sz) = i by omega]
  · refine h9 H' x' ck h7 hx (fun e he _ hne => ha e he hne) fun a z b hb hc _ => by rw [ha id h2 h3, hb]; cases b; simp at hc; rw [hc]
end
theorem puts_ne (id : Nat) : ∀ (cs : List Value) (H : Heap) (j : Nat) {e : Nat}, e ≠ id → (H.puts id j cs)[e]? = H[e]?
  | [], H, j, e, h => rfl
  | c :: cs, H, j, e, h => by unfold Heap.puts; rw [puts_ne id cs _ _ h, get_put_ne H j c h]
theorem puts_at (id : Nat) : ∀ (cs : List Value) (H : Heap) (j : Nat) (b : Blk) (a ck z : List Value), H[id]? = some b → b.cells = a ++ (ck ++ z) → a.length = j → ck.length = cs.length → (H.puts id j cs)[id]? = some { b with cells := a ++ (cs ++ z) }
  | [], H, j, b, a, ck, z, hb, hc, ha, hl => by
    have : ck = [] := List.length_eq_zero_iff.1 hl
    subst this
    unfold Heap.puts
    rw [hb, ← hc]
  | c :: cs, H, j, b, a, [], z, hb, hc, ha, hl => by simp at hl
  | c :: cs, H, j, b, a, c0 :: ck, z, hb, hc, ha, hl => by
    unfold Heap.puts
    have := puts_at id cs (H.put id j c) (j + 1) { b with cells := b.cells.set j c } (a ++ [c]) ck z (by rw [get_put, hb]; rfl) (by simp only [hc]; rw [List.set_append, if_neg (by omega)]; simp [ha]) (by simp [ha]) (by simpa using hl)
    rw [this]; simp
/-- A plain element is written whole. -/
theorem RS.putP {α : Type} {sz : Nat} {g : α → List Value} {H : Heap} {v : Value} {E : List Nat} {xs : List α} (h : RS sz (RP g) H E v xs) (hg : ∀ x, (g x).length = sz) (hnd : E.Nodup) {k : Nat} (hk : k < xs.length) :
    ∃ id o, v = sl id o xs.length ∧ id ∈ E ∧ (∀ (i : Nat) (c : Value), (g xs[k])[i]? = some c → Heap.cell H id (o + k * sz + i) = some c) ∧ ∀ x', RS sz (RP g) (H.puts id (o + k * sz) (g x')) E v (xs.set k x') := by
  obtain ⟨id, o, Ek, ck, h1, h2, h3, h4, h5, ⟨h6, rfl⟩, h7, h8, h9⟩ := h.opn (RP.frm _) hnd hk
  subst h6
  exact ⟨id, o, h1, h2, h8, fun x' => h9 _ x' (g x') (hg _) ⟨rfl, rfl⟩ (fun e _ hne _ => puts_ne id _ H _ hne) fun a z b hb hc ha => puts_at id _ H _ b a _ z hb hc ha (by rw [hg, hg])⟩

/-! ### what marks leave -/
def cnL {α : Type} (c : α → Int) : List α → Int
  | [] => 0
  | x :: xs => c x + cnL c xs
def mkL {α : Type} (f : α → Int → α) (c : α → Int) : List α → Int → List α
  | [], _ => []
  | x :: xs, k => f x k :: mkL f c xs (k + c x)
theorem cnL_app {α : Type} (c : α → Int) : ∀ xs ys : List α, cnL c (xs ++ ys) = cnL c xs + cnL c ys
  | [], ys => by simp [cnL]
  | x :: xs, ys => by simp only [List.cons_append, cnL, cnL_app c xs ys]; omega
theorem cnL_nn {α : Type} {c : α → Int} (hc : ∀ x, 0 ≤ c x) : ∀ xs : List α, 0 ≤ cnL c xs
  | [] => by simp [cnL]
  | x :: xs => by have := hc x; have := cnL_nn hc xs; simp only [cnL]; omega
theorem mkL_app {α : Type} (f : α → Int → α) (c : α → Int) : ∀ (xs ys : List α) (k : Int), mkL f c (xs ++ ys) k = mkL f c xs k ++ mkL f c ys (k + cnL c xs)
  | [], ys, k => by simp [mkL, cnL]
  | x :: xs, ys, k => by simp only [List.cons_append, mkL, cnL, mkL_app f c xs ys, Int.add_assoc]
theorem mkL_len {α : Type} (f : α → Int → α) (c : α → Int) : ∀ (xs : List α) (k : Int), (mkL f c xs k).length = xs.length
  | [], k => rfl
  | x :: xs, k => by simp [mkL, mkL_len f c xs]
def mkAt {α : Type} (f : α → Int → α) (c : α → Int) (xs : List α) (i : Nat) (k : Int) : List α := mkL f c (xs.take i) k ++ xs.drop i
section
variable {α : Type} {f : α → Int → α} {c : α → Int} {xs : List α} {i : Nat} {k : Int}
theorem mkAt_zero : mkAt f c xs 0 k = xs := by simp [mkAt, mkL]
theorem mkAt_all : mkAt f c xs xs.length k = mkL f c xs k := by simp [mkAt]
theorem mkAt_len : (mkAt f c xs i k).length = xs.length := by simp [mkAt, mkL_len]; omega
theorem mkAt_get (h : i < xs.length) : (mkAt f c xs i k)[i]'(by rw [mkAt_len]; exact h) = xs[i] := by
  unfold mkAt
  rw [List.getElem_append_right (by rw [mkL_len, List.length_take]; exact Nat.min_le_left _ _)]
  simp [mkL_len, Nat.min_eq_left (Nat.le_of_lt h)]
theorem cnL_succ (h : i < xs.length) : cnL c (xs.take (i + 1)) = cnL c (xs.take i) + c xs[i] := by
  rw [List.take_succ_eq_append_getElem h, cnL_app]; simp [cnL]
theorem mkAt_set (h : i < xs.length) : (mkAt f c xs i k).set i (f xs[i] (k + cnL c (xs.take i))) = mkAt f c xs (i + 1) k := by
  unfold mkAt
  rw [List.take_succ_eq_append_getElem h, mkL_app, List.set_append, if_neg (by rw [mkL_len, List.length_take]; omega), mkL_len, List.length_take, Nat.min_eq_left (Nat.le_of_lt h), Nat.sub_self]
  have e : xs.drop i = xs[i] :: xs.drop (i + 1) := (List.getElem_cons_drop h).symm
  rw [e]
  simp only [List.set_cons_zero, mkL, List.append_assoc, List.singleton_append]
theorem cnL_le (hc : ∀ x, 0 ≤ c x) (i : Nat) : cnL c (xs.take i) ≤ cnL c xs := by
  have e : cnL c xs = cnL c (xs.take i) + cnL c (xs.drop i) := by rw [← cnL_app, List.take_append_drop]
  have := cnL_nn hc (xs.drop i)
  omega
theorem mkL_get (h : i < xs.length) : (mkL f c xs k)[i]'(by rw [mkL_len]; exact h) = f xs[i] (k + cnL c (xs.take i)) := by
  have e : mkL f c xs k = mkL f c (xs.take i) k ++ mkL f c (xs.drop i) (k + cnL c (xs.take i)) := by rw [← mkL_app, List.take_append_drop]
  simp only [e]
  rw [List.getElem_append_right (by rw [mkL_len, List.length_take]; exact Nat.min_le_left _ _)]
  simp only [mkL_len, List.length_take, Nat.min_eq_left (Nat.le_of_lt h), Nat.sub_self, ← List.getElem_cons_drop h, mkL]
  rfl
end
def mkInt (_ : Int) (k : Int) : Int := k
def cnInt (_ : Int) : Int := 1
def mkGr (_ : Gr) (k : Int) : Gr := ⟨k, k + 1⟩
def cnGr (_ : Gr) : Int := 2
def mkEv (_ : Evt) (k : Int) : Evt := ⟨k, k + 1, k + 1 + 1⟩
def cnEv (_ : Evt) : Int := 3
def mkBd (_ : Bd) (k : Int) : Bd := ⟨k, k + 1, k + 1 + 1, k + 1 + 1 + 1⟩
def cnBd (_ : Bd) : Int := 4
def mkAc (_ : Actn) (k : Int) : Actn := ⟨k, ⟨k + 1, k + 1 + 1, k + 1 + 1 + 1⟩, k + 1 + 1 + 1 + 1, k + 1 + 1 + 1 + 1 + 1⟩
def cnAc (_ : Actn) : Int := 6
def mkLn (l : Ln) (k : Int) : Ln := ⟨k, mkL mkInt cnInt l.way (k + 1), mkL mkGr cnGr l.grs (k + 1 + cnL cnInt l.way), k + 1 + cnL cnInt l.way + cnL cnGr l.grs⟩
def cnLn (l : Ln) : Int := 2 + cnL cnInt l.way + cnL cnGr l.grs
def mkBk (b : Bk) (k : Int) : Bk := { b with lines := mkL mkLn cnLn b.lines k }
def cnBk (b : Bk) : Int := cnL cnLn b.lines
def mkWd (w : Wd) (k : Int) : Wd := { w with book := mkBk w.book k, bodies := mkL mkBd cnBd w.bodies (k + cnBk w.book) }
def cnWd (w : Wd) : Int := cnBk w.book + cnL cnBd w.bodies
def mkDn (d : Dn) (k : Int) : Dn := ⟨k, ⟨decide ((k + 1).tmod 3 = 0), k + 1 + 1, mkL mkLn cnLn d.book.lines (k + 1 + 1 + 1)⟩⟩
def cnDn (d : Dn) : Int := 3 + cnL cnLn d.book.lines
def mkMv (m : Mv) (k : Int) : Mv := ⟨k, ⟨decide ((k + 1).tmod 3 = 0), ⟨decide ((k + 1 + 1).tmod 3 = 0), k + 1 + 1 + 1, mkL mkLn cnLn m.world.book.lines (k + 1 + 1 + 1 + 1)⟩, mkL mkBd cnBd m.world.bodies (k + 1 + 1 + 1 + 1 + cnL cnLn m.world.book.lines)⟩⟩
def cnMv (m : Mv) : Int := 4 + cnL cnLn m.world.book.lines + cnL cnBd m.world.bodies
theorem cnInt_nn (x : Int) : 0 ≤ cnInt x := by simp [cnInt]
theorem cnGr_nn (x : Gr) : 0 ≤ cnGr x := by simp [cnGr]
theorem cnEv_nn (x : Evt) : 0 ≤ cnEv x := by simp [cnEv]
theorem cnBd_nn (x : Bd) : 0 ≤ cnBd x := by simp [cnBd]
theorem cnAc_nn (x : Actn) : 0 ≤ cnAc x := by simp [cnAc]
theorem cnLn_nn (x : Ln) : 0 ≤ cnLn x := by
  have := cnL_nn cnInt_nn x.way
  have := cnL_nn cnGr_nn x.grs
  unfold cnLn; omega
theorem cnDn_nn (x : Dn) : 0 ≤ cnDn x := by
  have := cnL_nn cnLn_nn x.book.lines
  unfold cnDn; omega
theorem cnMv_nn (x : Mv) : 0 ≤ cnMv x := by
  have := cnL_nn cnLn_nn x.world.book.lines
  have := cnL_nn cnBd_nn x.world.bodies
  unfold cnMv; omega

theorem Own.ext {H L : Heap} {E : List Nat} (h : Own H E) (hb : ∀ e, e ∈ E → e < H.length) : Own (H ++ L) E := ⟨h.1, fun id hi => by
  have := h.2 id hi
  unfold Heap.rwOk at this ⊢
  rw [List.getElem?_append_left (hb id hi)]; exact this⟩
theorem MK.cut {E : List Nat} {H L H2 : Heap} (h : MK E (H ++ L) H2) (hb : ∀ e, e ∈ E → e < H.length) : ∃ H', H2 = H' ++ L ∧ MK E H H' := by
  have hlen := h.len
  rw [List.length_append] at hlen
  have hget : ∀ id, id < H.length → (H2.take H.length)[id]? = H2[id]? := fun id hi => by rw [List.getElem?_take, if_pos hi]
  have e : H2 = H2.take H.length ++ L := by
    apply List.ext_getElem?
    intro i
    by_cases hi : i < H.length
    · rw [List.getElem?_append_left (by simp; omega), hget i hi]
    · rw [h.out i fun he => hi (hb i he), List.getElem?_append_right (by omega), List.getElem?_append_right (by simp; omega)]
      simp [hlen]
  refine ⟨_, e, by simp; omega, fun id hi => ?_, fun id j x hx => ?_, fun id => ?_⟩
  · by_cases hlt : id < H.length
    · rw [hget id hlt, h.out id hi, List.getElem?_append_left hlt]
    · rw [List.getElem?_eq_none (by simp; omega), List.getElem?_eq_none (by omega)]
  · have hlt : id < H.length := by
      have := Heap.lt_of_live (Heap.live_of_cell hx)
      simp at this; omega
    have hx2 : Heap.cell H2 id j = some x := by unfold Heap.cell at hx ⊢; rw [← hget id hlt]; exact hx
    rcases h.cell id j x hx2 with h1 | h1
    · left; unfold Heap.cell at h1 ⊢; rw [List.getElem?_append_left hlt] at h1; exact h1
    · exact .inr h1
  · by_cases hlt : id < H.length
    · have := h.rw id
      unfold Heap.rwOk at this ⊢
      rw [hget id hlt, this, List.getElem?_append_left hlt]
    · unfold Heap.rwOk
      rw [List.getElem?_eq_none (by simp; omega), List.getElem?_eq_none (by omega)]
theorem agr_cut (H L : Heap) {E : List Nat} (hb : ∀ e, e ∈ E → e < H.length) : ∀ id, id ∈ E → id < (H ++ L).length → H[id]? = (H ++ L)[id]? := fun id hi _ => by rw [List.getElem?_append_left (hb id hi)]
theorem RS.cut {α : Type} {sz : Nat} {R : Heap → List Nat → α → List Value → Prop} {H L : Heap} {v : Value} {E : List Nat} {xs : List α} (h : RS sz R (H ++ L) E v xs) (hR : Frm R) (hb : ∀ e, e ∈ E → e < H.length) : RS sz R H E v xs := h.fr hR (agr_cut H L hb)
theorem Frm.cut {α : Type} {R : Heap → List Nat → α → List Value → Prop} (hR : Frm R) {H L : Heap} {E : List Nat} {x : α} {cs : List Value} (h : R (H ++ L) E x cs) (hb : ∀ e, e ∈ E → e < H.length) : R H E x cs := hR.fr h (agr_cut H L hb)
theorem AC.of_mark {P : Program} {f : FuncId} {fn : Func} {c : Code} {N : Nat} {rs : List ResultVar} {args : List Value} {H : Heap} {E : List Nat} {r : Value} {Q : Heap → Prop} (hf : P.funcs[f]? = some fn) (hb : fn.body = some c) (hok : fnOk P f = true) (hNe : fn.ntmps = N) (hrs : fn.results.toList = rs) (hN : args.length ≤ N) (hr : plainV r = true)
    (h : AK P ⟨N, H.length, E⟩ (endR P rs fun v Hn => v = r ∧ ∃ H' J, Hn = H' ++ J ∧ MK E H H' ∧ Q H') [.c c] ⟨enumT 0 args, H⟩) : ∃ H', AC P f args H r H' E ∧ MK E H H' ∧ Q H' := by
  obtain ⟨v, H', h1, rfl, h2, h3⟩ := AC.of_body (D := E) (R := fun v H' => v = r ∧ MK E H H' ∧ Q H') hf hb hok hNe hrs hN (post_mono (fun s => endR_mono fun v Hn ⟨hvr, H', J, hJ, hm, hq⟩ => ⟨H', J, hJ, by rw [hm.len]; exact Nat.le_refl _, fun id j x hx => by
    rcases hm.cell id j x hx with h1 | h1
    · exact .inl ⟨Heap.lt_of_live (Heap.live_of_cell h1), h1⟩
    · exact .inr (Clo.plain h1), Clo.plain (by rw [hvr]; exact hr), hvr, hm, hq⟩) h)
  exact ⟨H', h1, h2, h3⟩
end Go.Proofs.YtpoedfmkiiijnaaAm
