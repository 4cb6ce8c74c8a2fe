/- Texts of this repo, one behind the other (Rep Dat Mk Apd Rng Pur Pu1 Pu2 Sc Cp1). Plain lemmas and walks. -/
import Derived.Test.YtpoedfmkiiijnaaDoorGB
namespace Go.Proofs.YtpoedfmkiiijnaaDoorAm
open Go Go.RowKit
set_option linter.unusedVariables false
set_option linter.unusedSimpArgs false

abbrev iv (n : Int) : Value := .int .i64 n
/-- H' reads as H did. -/
def Ext (H H' : Heap) : Prop := H.length ≤ H'.length ∧ ∀ id j x, H.cell id j = some x → H'.cell id j = some x
theorem Ext.refl (H : Heap) : Ext H H := ⟨Nat.le_refl _, fun _ _ _ h => h⟩
theorem Ext.trans {a b c : Heap} (h : Ext a b) (k : Ext b c) : Ext a c := ⟨Nat.le_trans h.1 k.1, fun id j x e => k.2 id j x (h.2 id j x e)⟩
theorem Ext.app (H J : Heap) : Ext H (H ++ J) := ⟨by simp, fun id j x e => by
 have hlt := Heap.lt_of_live (Heap.live_of_cell e)
 unfold Heap.cell at e ⊢
 rw [List.getElem?_append_left hlt]; exact e⟩
/-! ### lists of elements, each of sz cells; E are the ids that the elements own -/
def RCs {α : Type} (sz : Nat) (R : Heap → List Nat → α → List Value → Prop) (H : Heap) : List Nat → List α → List Value → Prop
 | E, [], cs => E = [] ∧ cs = []
 | E, x :: xs, cs => ∃ E1 E2 c1 c2, E = E1 ++ E2 ∧ cs = c1 ++ c2 ∧ c1.length = sz ∧ R H E1 x c1 ∧ RCs sz R H E2 xs c2
/-- A slice value reads as a list. -/
def RS {α : Type} (sz : Nat) (R : Heap → List Nat → α → List Value → Prop) (H : Heap) (E : List Nat) (v : Value) (xs : List α) : Prop :=
 xs.length ≤ 4611686018427387904 ∧ (((v = nl ∨ v = es) ∧ xs = [] ∧ E = []) ∨ ∃ id o E' ty rw pre cs post, v = sl id o xs.length ∧ E = id :: E' ∧ H[id]? = some ⟨ty, pre ++ cs ++ post, rw, true⟩ ∧ pre.length = o ∧ RCs sz R H E' xs cs)
/-- The same, and the slice is the whole of its block, which may be written. -/
def RW {α : Type} (ty : TypeId) (sz : Nat) (R : Heap → List Nat → α → List Value → Prop) (H : Heap) (E : List Nat) (v : Value) (xs : List α) : Prop :=
 (v = nl ∧ xs = [] ∧ E = []) ∨ ∃ id E' cs, v = sl id 0 xs.length ∧ E = id :: E' ∧ H[id]? = some ⟨ty, cs, true, true⟩ ∧ RCs sz R H E' xs cs
theorem RW.rs {α : Type} {ty : TypeId} {sz : Nat} {R : Heap → List Nat → α → List Value → Prop} {H : Heap} {E : List Nat} {v : Value} {xs : List α} (h : RW ty sz R H E v xs) (hl : xs.length ≤ 4611686018427387904) : RS sz R H E v xs := by
 rcases h with h | ⟨id, E', cs, h1, h2, h3, h4⟩
 ·exact ⟨hl, .inl ⟨.inl h.1, h.2⟩⟩
 ·exact ⟨hl, .inr ⟨id, 0, E', ty, true, [], cs, [], h1, h2, by simpa using h3, rfl, h4⟩⟩
/-- What frames an element's reading. -/
structure Frm {α : Type} (R : Heap → List Nat → α → List Value → Prop) : Prop where
 fr : ∀ {H H' E x cs}, R H E x cs → (∀ id, id ∈ E → id < H.length → H'[id]? = H[id]?) → R H' E x cs
 bd : ∀ {H E x cs}, R H E x cs → ∀ id, id ∈ E → id < H.length
theorem lt_of_get {H : Heap} {id : Nat} {b : Blk} (h : H[id]? = some b) : id < H.length := (List.getElem?_eq_some_iff.1 h).1
section
variable {α : Type} {sz : Nat} {R : Heap → List Nat → α → List Value → Prop} {H H' : Heap} {v : Value}
theorem RCs.fr (hR : Frm R) : ∀ {xs : List α} {E : List Nat} {cs : List Value}, RCs sz R H E xs cs → (∀ id, id ∈ E → id < H.length → H'[id]? = H[id]?) → RCs sz R H' E xs cs
 | [], _, _, h, _ => h
 | x :: xs, _, _, ⟨E1, E2, c1, c2, rfl, h2, h3, h4, h5⟩, ha => ⟨E1, E2, c1, c2, rfl, h2, h3, hR.fr h4 fun id hi => ha id (by simp [hi]), h5.fr hR fun id hi => ha id (by simp [hi])⟩
theorem RCs.bd (hR : Frm R) : ∀ {xs : List α} {E : List Nat} {cs : List Value}, RCs sz R H E xs cs → ∀ id, id ∈ E → id < H.length
 | [], _, _, h, id, hi => by rw [h.1] at hi; simp at hi
 | x :: xs, _, _, ⟨E1, E2, c1, c2, rfl, h2, h3, h4, h5⟩, id, hi => by
  rcases List.mem_append.1 hi with hi | hi
  ·exact hR.bd h4 id hi
  ·exact h5.bd hR id hi
theorem RCs.len : ∀ {xs : List α} {E : List Nat} {cs : List Value}, RCs sz R H E xs cs → cs.length = xs.length * sz
 | [], _, _, h => by rw [h.2]; simp
 | x :: xs, _, _, ⟨E1, E2, c1, c2, _, h2, h3, h4, h5⟩ => by rw [h2, List.length_append, h3, h5.len, List.length_cons, Nat.succ_mul]; omega
theorem RCs.app : ∀ {xs ys : List α} {E1 E2 : List Nat} {c1 c2 : List Value}, RCs sz R H E1 xs c1 → RCs sz R H E2 ys c2 → RCs sz R H (E1 ++ E2) (xs ++ ys) (c1 ++ c2)
 | [], ys, _, E2, _, c2, h, k => by rw [h.1, h.2]; exact k
 | x :: xs, ys, _, E2, _, c2, ⟨A1, A2, b1, b2, h1, h2, h3, h4, h5⟩, k => ⟨A1, A2 ++ E2, b1, b2 ++ c2, by rw [h1, List.append_assoc], by rw [h2, List.append_assoc], h3, h4, h5.app k⟩
theorem RCs.split : ∀ {xs ys : List α} {E : List Nat} {cs : List Value}, RCs sz R H E (xs ++ ys) cs → ∃ E1 E2 c1 c2, E = E1 ++ E2 ∧ cs = c1 ++ c2 ∧ RCs sz R H E1 xs c1 ∧ RCs sz R H E2 ys c2
 | [], ys, E, cs, h => ⟨[], E, [], cs, rfl, rfl, ⟨rfl, rfl⟩, h⟩
 | x :: xs, ys, E, cs, ⟨A1, A2, b1, b2, h1, h2, h3, h4, h5⟩ => by
  obtain ⟨E1, E2, c1, c2, k1, k2, k3, k4⟩ := RCs.split h5
  exact ⟨A1 ++ E1, E2, b1 ++ c1, c2, by rw [h1, k1, List.append_assoc], by rw [h2, k2, List.append_assoc], ⟨A1, E1, b1, c1, rfl, rfl, h3, h4, k3⟩, k4⟩
/-- At an element: what lies ahead of it, it, and what lies behind it. -/
theorem RCs.at {xs : List α} {E : List Nat} {cs : List Value} {k : Nat} (h : RCs sz R H E xs cs) (hk : k < xs.length) : ∃ E1 Ek E2 c1 ck c2, E = E1 ++ (Ek ++ E2) ∧ cs = c1 ++ (ck ++ c2) ∧ c1.length = k * sz ∧ ck.length = sz ∧
  RCs sz R H E1 (xs.take k) c1 ∧ R H Ek xs[k] ck ∧ RCs sz R H E2 (xs.drop (k + 1)) c2 := by
 have e : xs = xs.take k ++ xs[k] :: xs.drop (k + 1) := by rw [List.getElem_cons_drop]; exact (List.take_append_drop k xs).symm
 rw [e] at h
 obtain ⟨E1, E2, c1, c2, h1, h2, h3, A1, A2, b1, b2, k1, k2, k3, k4, k5⟩ := h.split
 refine ⟨E1, A1, A2, c1, b1, b2, by rw [h1, k1], by rw [h2, k2], ?_, k3, h3, k4, k5⟩
 rw [h3.len, List.length_take, Nat.min_eq_left (by omega)]
theorem RS.fr (hR : Frm R) {E : List Nat} {xs : List α} (h : RS sz R H E v xs) (ha : ∀ id, id ∈ E → id < H.length → H'[id]? = H[id]?) : RS sz R H' E v xs := by
 obtain ⟨hl, h | ⟨id, o, E', ty, rw, pre, cs, post, h1, h2, h3, h4, h5⟩⟩ := h
 ·exact ⟨hl, .inl h⟩
 ·subst h2
  exact ⟨hl, .inr ⟨id, o, E', ty, rw, pre, cs, post, h1, rfl, by rw [ha id (by simp) (lt_of_get h3)]; exact h3, h4, h5.fr hR fun i hi => ha i (by simp [hi])⟩⟩
theorem RS.bd (hR : Frm R) {E : List Nat} {xs : List α} (h : RS sz R H E v xs) : ∀ id, id ∈ E → id < H.length := by
 obtain ⟨hl, ⟨_, _, h⟩ | ⟨id, o, E', ty, rw, pre, cs, post, h1, h2, h3, h4, h5⟩⟩ := h
 ·intro id hi; rw [h] at hi; simp at hi
 ·subst h2
  intro i hi
  rcases List.mem_cons.1 hi with rfl | hi
  ·exact lt_of_get h3
  ·exact h5.bd hR i hi
theorem RW.fr {t : TypeId} (hR : Frm R) {E : List Nat} {xs : List α} (h : RW t sz R H E v xs) (ha : ∀ id, id ∈ E → id < H.length → H'[id]? = H[id]?) : RW t sz R H' E v xs := by
 rcases h with h | ⟨id, E', cs, h1, h2, h3, h5⟩
 ·exact .inl h
 ·subst h2
  exact .inr ⟨id, E', cs, h1, rfl, by rw [ha id (by simp) (lt_of_get h3)]; exact h3, h5.fr hR fun i hi => ha i (by simp [hi])⟩
theorem RW.bd {t : TypeId} (hR : Frm R) {E : List Nat} {xs : List α} (h : RW t sz R H E v xs) : ∀ id, id ∈ E → id < H.length := by
 rcases h with ⟨_, _, h⟩ | ⟨id, E', cs, h1, h2, h3, h5⟩
 ·intro id hi; rw [h] at hi; simp at hi
 ·subst h2
  intro i hi
  rcases List.mem_cons.1 hi with rfl | hi
  ·exact lt_of_get h3
  ·exact h5.bd hR i hi
theorem RS.form {E : List Nat} {xs : List α} (h : RS sz R H E v xs) : ∃ a c, v = .slice a xs.length c := by
 obtain ⟨_, ⟨rfl | rfl, rfl, _⟩ | ⟨id, o, E', ty, rw, pre, cs, post, rfl, _⟩⟩ := h
 ·exact ⟨_, _, rfl⟩
 ·exact ⟨_, _, rfl⟩
 ·exact ⟨_, _, rfl⟩
theorem RS.one {E : List Nat} {xs : List α} (h : RS sz R H E v xs) : v.oneCell' = true := by
 obtain ⟨a, c, rfl⟩ := h.form; rfl
theorem RS.cv {E : List Nat} {xs : List α} (h : RS sz R H E v xs) : cellsV v = [v] := by
 obtain ⟨a, c, rfl⟩ := h.form; rfl
theorem RW.form {t : TypeId} {E : List Nat} {xs : List α} (h : RW t sz R H E v xs) : ∃ a c, v = .slice a xs.length c := by
 rcases h with ⟨rfl, rfl, _⟩ | ⟨id, E', cs, rfl, _⟩
 ·exact ⟨_, _, rfl⟩
 ·exact ⟨_, _, rfl⟩
/-- Where there is an element. -/
theorem RS.at {E : List Nat} {xs : List α} (h : RS sz R H E v xs) {k : Nat} (hk : k < xs.length) :
  ∃ id o Ek cs, v = sl id o xs.length ∧ id < H.length ∧ id ∈ E ∧ (∀ e, e ∈ Ek → e ∈ E) ∧ R H Ek xs[k] cs ∧ cs.length = sz ∧ ∀ (i : Nat) (c : Value), cs[i]? = some c → ∀ L, Heap.cell (H ++ L) id (o + k * sz + i) = some c := by
 obtain ⟨hl, ⟨_, rfl, _⟩ | ⟨id, o, E', ty, rw, pre, cs, post, h1, h2, h3, h4, h5⟩⟩ := h
 ·simp at hk
 ·subst h2
  obtain ⟨E1, Ek, E2, c1, ck, c2, k1, k2, k3, k4, k5, k6, k7⟩ := h5.at hk
  refine ⟨id, o, Ek, ck, h1, lt_of_get h3, by simp, fun e he => by rw [k1]; simp [he], k6, k4, fun i c hc L => ?_⟩
  unfold Heap.cell
  rw [List.getElem?_append_left (lt_of_get h3), h3]
  have hi := (List.getElem?_eq_some_iff.1 hc).1
  simp only [if_true]
  rw [k2, List.append_assoc, List.getElem?_append_right (by omega), h4, show o + k * sz + i - o = k * sz + i by omega, List.append_assoc, List.getElem?_append_right (by omega), k3, show k * sz + i - k * sz = i by omega, List.append_assoc, List.getElem?_append_left (by omega)]
  exact hc
end
theorem agr_app (H L : Heap) (E : List Nat) : ∀ id, id ∈ E → id < H.length → (H ++ L)[id]? = H[id]? := fun id _ h => List.getElem?_append_left h
theorem RS.ext {α : Type} {sz : Nat} {R : Heap → List Nat → α → List Value → Prop} {H L : Heap} {v : Value} {E : List Nat} {xs : List α} (h : RS sz R H E v xs) (hR : Frm R) : RS sz R (H ++ L) E v xs := h.fr hR (agr_app H L E)
theorem RW.ext {α : Type} {sz : Nat} {R : Heap → List Nat → α → List Value → Prop} {H L : Heap} {v : Value} {E : List Nat} {xs : List α} {t : TypeId} (h : RW t sz R H E v xs) (hR : Frm R) : RW t sz R (H ++ L) E v xs := h.fr hR (agr_app H L E)
theorem Frm.ext {α : Type} {R : Heap → List Nat → α → List Value → Prop} (hR : Frm R) {H L : Heap} {E : List Nat} {x : α} {cs : List Value} (h : R H E x cs) : R (H ++ L) E x cs := hR.fr h (agr_app H L E)
/-- Elements that own nothing. -/
def RP {α : Type} (f : α → List Value) (_ : Heap) (E : List Nat) (x : α) (cs : List Value) : Prop := E = [] ∧ cs = f x
theorem RP.frm {α : Type} (f : α → List Value) : Frm (RP f) := ⟨fun h _ => h, fun h id hi => by rw [h.1] at hi; simp at hi⟩
theorem cell_app (H J : Heap) {id j : Nat} {x : Value} (h : H.cell id j = some x) : Heap.cell (H ++ J) id j = some x := (Ext.app H J).2 id j x h
/-! ### reckoning with a heap that has grown -/
theorem cell_at (H L : Heap) (i j : Nat) : Heap.cell (H ++ L) (H.length + i) j = Heap.cell L i j := by
 unfold Heap.cell
 rw [List.getElem?_append_right (by omega)]
 simp
theorem cell_at0 (H L : Heap) (j : Nat) : Heap.cell (H ++ L) H.length j = Heap.cell L 0 j := cell_at H L 0 j
theorem modify_at (H L : Heap) (i : Nat) (f : Blk → Blk) : (H ++ L).modify (H.length + i) f = H ++ L.modify i f := by
 apply List.ext_getElem?
 intro k
 rw [List.getElem?_modify]
 by_cases hk : k < H.length
 ·have hne : ¬ (H.length + i = k) := by omega
  rw [List.getElem?_append_left hk, List.getElem?_append_left hk]
  simp [hne]
 ·rw [List.getElem?_append_right (by omega), List.getElem?_append_right (by omega), List.getElem?_modify]
  by_cases e : H.length + i = k
  ·have e' : i = k - H.length := by omega
   subst e; simp
  ·have e' : ¬ i = k - H.length := by omega
   simp [e, e']
theorem put_at (H L : Heap) (i j : Nat) (x : Value) : Heap.put (H ++ L) (H.length + i) j x = H ++ Heap.put L i j x := by
 unfold Heap.put; exact modify_at H L i _
theorem put_at0 (H L : Heap) (j : Nat) (x : Value) : Heap.put (H ++ L) H.length j x = H ++ Heap.put L 0 j x := put_at H L 0 j x
theorem rw_at (H L : Heap) (i : Nat) : Heap.rwOk (H ++ L) (H.length + i) = Heap.rwOk L i := by
 unfold Heap.rwOk
 rw [List.getElem?_append_right (by omega)]
 simp
theorem rw_at0 (H L : Heap) : Heap.rwOk (H ++ L) H.length = Heap.rwOk L 0 := rw_at H L 0
theorem get_at (H L : Heap) (i : Nat) : (H ++ L)[H.length + i]? = L[i]? := by
 rw [List.getElem?_append_right (by omega)]; simp
theorem get_at0 (H L : Heap) : (H ++ L)[H.length]? = L[0]? := get_at H L 0
theorem kill_at (H L : Heap) (i : Nat) : Heap.kill (H ++ L) (H.length + i) = H ++ Heap.kill L i := by
 unfold Heap.kill; exact modify_at H L i _
theorem kill_at0 (H L : Heap) : Heap.kill (H ++ L) H.length = H ++ Heap.kill L 0 := kill_at H L 0
theorem cell_c0 (b : Blk) (L : Heap) (j : Nat) : Heap.cell (b :: L) 0 j = if b.live then b.cells[j]? else none := rfl
theorem cell_cs (b : Blk) (L : Heap) (i j : Nat) : Heap.cell (b :: L) (i + 1) j = Heap.cell L i j := rfl
theorem put_c0 (b : Blk) (L : Heap) (j : Nat) (x : Value) : Heap.put (b :: L) 0 j x = { b with cells := b.cells.set j x } :: L := rfl
theorem put_cs (b : Blk) (L : Heap) (i j : Nat) (x : Value) : Heap.put (b :: L) (i + 1) j x = b :: Heap.put L i j x := rfl
theorem rw_c0 (b : Blk) (L : Heap) : Heap.rwOk (b :: L) 0 = (b.live && b.rw) := rfl
theorem rw_cs (b : Blk) (L : Heap) (i : Nat) : Heap.rwOk (b :: L) (i + 1) = Heap.rwOk L i := rfl
theorem kill_c0 (b : Blk) (L : Heap) : Heap.kill (b :: L) 0 = { b with rw := false, live := false } :: L := rfl
theorem kill_cs (b : Blk) (L : Heap) (i : Nat) : Heap.kill (b :: L) (i + 1) = b :: Heap.kill L i := rfl
theorem set_at (H L : Heap) (i : Nat) (b : Blk) : List.set (H ++ L) (H.length + i) b = H ++ List.set L i b := by
 rw [List.set_append, if_neg (by omega), Nat.add_sub_cancel_left]
theorem set_at0 (H L : Heap) (b : Blk) : List.set (H ++ L) H.length b = H ++ List.set L 0 b := set_at H L 0 b
theorem set_c0 (a b : Blk) (L : Heap) : List.set (a :: L) 0 b = b :: L := rfl
theorem set_cs (a b : Blk) (L : Heap) (i : Nat) : List.set (a :: L) (i + 1) b = a :: List.set L i b := rfl
theorem live_at (H L : Heap) (i : Nat) : Heap.live (H ++ L) (H.length + i) = Heap.live L i := by
 unfold Heap.live
 rw [List.getElem?_append_right (by omega)]
 simp
theorem live_at0 (H L : Heap) : Heap.live (H ++ L) H.length = Heap.live L 0 := live_at H L 0
theorem live_c0 (b : Blk) (L : Heap) : Heap.live (b :: L) 0 = b.live := rfl
theorem live_cs (b : Blk) (L : Heap) (i : Nat) : Heap.live (b :: L) (i + 1) = Heap.live L i := rfl
theorem hot_at (H L : Heap) (i : Nat) : Heap.hot (H ++ L) (H.length + i) = Heap.hot L i := by
 unfold Heap.hot
 rw [List.getElem?_append_right (by omega)]
 simp
theorem hot_at0 (H L : Heap) : Heap.hot (H ++ L) H.length = Heap.hot L 0 := hot_at H L 0
theorem hot_c0 (b : Blk) (L : Heap) : Heap.hot (b :: L) 0 = (b.live || b.rw) := rfl
theorem hot_cs (b : Blk) (L : Heap) (i : Nat) : Heap.hot (b :: L) (i + 1) = Heap.hot L i := rfl
/-- What is held in few slots, out of many. -/
def subL : List (Nat × Value) → List (Nat × Value) → Prop
 | [], _ => True
 | (k, v) :: r, l => getT l k = some v ∧ subL r l
theorem subL.sub : ∀ {a b : List (Nat × Value)}, subL a b → ∀ t v, getT a t = some v → getT b t = some v
 | [], b, _, t, v, h => by simp [getT] at h
 | (k, u) :: r, b, h, t, v, hv => by
  simp only [getT] at hv
  split at hv
  ·rename_i e; subst e; cases hv; exact h.1
  ·exact h.2.sub t v hv
theorem ak_subL {P : Program} {C : Cx} {R : St → Prop} {k : List It} {x : Code} {ts ts' : List (Nat × Value)} {H : Heap} (hs : subL ts' ts) (h : AK P C R (.c x :: k) ⟨ts', H⟩) : AK P C R (.c x :: k) ⟨ts, H⟩ := ak_sub hs.sub h
/-- A loop: few slots, the heap, and a number that falls. -/
theorem ak_loopS {P : Program} {C : Cx} {R : St → Prop} {k : List It} {x : Code} {ts : List (Nat × Value)} {H : Heap} (I : Nat → List (Nat × Value) → Heap → Prop) (n : Nat) (ts0 : List (Nat × Value)) (hs : subL ts0 ts) (h0 : I n ts0 H)
  (hI : ∀ n ts H, I n ts H → AK P C R (.c x :: .inv (fun s' => ∃ m ts', m < n ∧ subL ts' s'.ts ∧ I m ts' s'.H) :: k) ⟨ts, H⟩) : AK P C R (.c (.loop x) :: k) ⟨ts, H⟩ := by
 refine ak_loop (fun n s => ∃ ts', subL ts' s.ts ∧ I n ts' s.H) n ⟨ts0, hs, h0⟩ ?_
 rintro n ⟨ts1, H1⟩ ⟨ts', hs', hi⟩
 refine AW.mono (ak_subL hs' (hI n ts' H1 hi)) ?_
 intro e s h
 cases e with
 | normal => obtain ⟨m, ts'', h1, h2, h3⟩ := h; exact ⟨m, h1, ts'', h2, h3⟩
 | exit id => exact h
 | ret => exact h
theorem one_int (k : IntKind) (n : Int) : (Value.int k n).oneCell' = true := rfl
theorem one_bool (b : Bool) : (Value.bool b).oneCell' = true := rfl
theorem one_slice (a : Option Addr) (n c : Nat) : (Value.slice a n c).oneCell' = true := rfl
theorem one_ptr (a : Option Addr) : (Value.pointer a).oneCell' = true := rfl
theorem cv_agg (cs : Array Value) : cellsV (.agg cs) = cs.toList := rfl
theorem cv_int (k : IntKind) (n : Int) : cellsV (.int k n) = [.int k n] := rfl
theorem cv_bool (b : Bool) : cellsV (.bool b) = [.bool b] := rfl
theorem cv_slice (a : Option Addr) (n c : Nat) : cellsV (.slice a n c) = [.slice a n c] := rfl
theorem cv_ptr (a : Option Addr) : cellsV (.pointer a) = [.pointer a] := rfl
theorem offs11 (a : Nat) : a + 1 + 1 = a + 2 := rfl
theorem offs12 (a : Nat) : a + 1 + 2 = a + 3 := rfl
theorem offs13 (a : Nat) : a + 1 + 3 = a + 4 := rfl
theorem offs14 (a : Nat) : a + 1 + 4 = a + 5 := rfl
theorem offs21 (a : Nat) : a + 2 + 1 = a + 3 := rfl
theorem offs22 (a : Nat) : a + 2 + 2 = a + 4 := rfl
theorem offs23 (a : Nat) : a + 2 + 3 = a + 5 := rfl
theorem offs24 (a : Nat) : a + 2 + 4 = a + 6 := rfl
theorem wrap_id {x : Int} (h0 : -9223372036854775808 ≤ x) (h1 : x ≤ 9223372036854775807) : IntKind.i64.wrap x = x := by
 rw [IntKind.wrap_i64]; omega
structure Gr where
 ver : Int
 cel : Int
deriving DecidableEq
structure Ln where
 gone : Int
 way : List Int
 grs : List Gr
 drop : Int
deriving DecidableEq
structure Bk where
 ok : Bool
 sec : Int
 lines : List Ln
deriving DecidableEq
structure Evt where
 op : Int
 train : Int
 n : Int
deriving DecidableEq
structure Bd where
 ver : Int
 cel : Int
 tail : Int
 front : Int
deriving DecidableEq
structure Wd where
 ok : Bool
 book : Bk
 bodies : List Bd
deriving DecidableEq
structure Actn where
 op : Int
 ev : Evt
 train : Int
 n : Int
deriving DecidableEq
structure Dn where
 code : Int
 book : Bk
deriving DecidableEq
structure Mv where
 code : Int
 world : Wd
deriving DecidableEq

def cInt (x : Int) : List Value := [iv x]
def cGr (g : Gr) : List Value := [iv g.ver, iv g.cel]
def cBd (b : Bd) : List Value := [iv b.ver, iv b.cel, iv b.tail, iv b.front]
def cAc (a : Actn) : List Value := [iv a.op, iv a.ev.op, iv a.ev.train, iv a.ev.n, iv a.train, iv a.n]
abbrev vEv (e : Evt) : Value := .agg #[iv e.op, iv e.train, iv e.n]
abbrev vAc (a : Actn) : Value := .agg #[iv a.op, iv a.ev.op, iv a.ev.train, iv a.ev.n, iv a.train, iv a.n]
abbrev RInt := RP cInt
abbrev RGr := RP cGr
abbrev RBd := RP cBd
abbrev RAc := RP cAc
/-- A line's cells; the way and the leashes own their blocks. -/
def RLn (H : Heap) (E : List Nat) (l : Ln) (cs : List Value) : Prop :=
 ∃ E1 E2 v1 v2, E = E1 ++ E2 ∧ cs = [iv l.gone, v1, v2, iv l.drop] ∧ RS 1 RInt H E1 v1 l.way ∧ RS 2 RGr H E2 v2 l.grs
theorem RLn.frm : Frm RLn := by
 refine ⟨?_, ?_⟩
 ·rintro H H' E x cs ⟨E1, E2, v1, v2, rfl, h2, h3, h4⟩ ha
  exact ⟨E1, E2, v1, v2, rfl, h2, h3.fr (RP.frm _) fun id hi => ha id (by simp [hi]), h4.fr (RP.frm _) fun id hi => ha id (by simp [hi])⟩
 ·rintro H E x cs ⟨E1, E2, v1, v2, rfl, h2, h3, h4⟩ id hi
  rcases List.mem_append.1 hi with hi | hi
  ·exact h3.bd (RP.frm _) id hi
  ·exact h4.bd (RP.frm _) id hi
/-- The cells of a book. -/
def RBk (H : Heap) (E : List Nat) (b : Bk) (cs : List Value) : Prop := ∃ v, cs = [.bool b.ok, iv b.sec, v] ∧ RS 4 RLn H E v b.lines
theorem RBk.frm : Frm RBk := by
 refine ⟨?_, ?_⟩
 ·rintro H H' E x cs ⟨v, h1, h2⟩ ha
  exact ⟨v, h1, h2.fr RLn.frm ha⟩
 ·rintro H E x cs ⟨v, h1, h2⟩
  exact h2.bd RLn.frm
def RDn (H : Heap) (E : List Nat) (d : Dn) (cs : List Value) : Prop := ∃ c, cs = iv d.code :: c ∧ RBk H E d.book c
theorem RDn.frm : Frm RDn := by
 refine ⟨?_, ?_⟩
 ·rintro H H' E x cs ⟨v, h1, h2⟩ ha
  exact ⟨v, h1, RBk.frm.fr h2 ha⟩
 ·rintro H E x cs ⟨v, h1, h2⟩
  exact RBk.frm.bd h2
def RWd (H : Heap) (E : List Nat) (w : Wd) (cs : List Value) : Prop := ∃ E1 E2 c v, E = E1 ++ E2 ∧ cs = .bool w.ok :: (c ++ [v]) ∧ RBk H E1 w.book c ∧ RS 4 RBd H E2 v w.bodies
theorem RWd.frm : Frm RWd := by
 refine ⟨?_, ?_⟩
 ·rintro H H' E x cs ⟨E1, E2, c, v, rfl, h2, h3, h4⟩ ha
  exact ⟨E1, E2, c, v, rfl, h2, RBk.frm.fr h3 fun id hi => ha id (by simp [hi]), h4.fr (RP.frm _) fun id hi => ha id (by simp [hi])⟩
 ·rintro H E x cs ⟨E1, E2, c, v, rfl, h2, h3, h4⟩ id hi
  rcases List.mem_append.1 hi with hi | hi
  ·exact RBk.frm.bd h3 id hi
  ·exact h4.bd (RP.frm _) id hi
def RMv (H : Heap) (E : List Nat) (m : Mv) (cs : List Value) : Prop := ∃ c, cs = iv m.code :: c ∧ RWd H E m.world c
theorem RMv.frm : Frm RMv := by
 refine ⟨?_, ?_⟩
 ·rintro H H' E x cs ⟨v, h1, h2⟩ ha
  exact ⟨v, h1, RWd.frm.fr h2 ha⟩
 ·rintro H E x cs ⟨v, h1, h2⟩
  exact RWd.frm.bd h2
/-! ### writing into a heap's old block -/
theorem rwOk_put (H : Heap) (i j : Nat) (x : Value) (i' : Nat) : Heap.rwOk (H.put i j x) i' = Heap.rwOk H i' := by
 unfold Heap.rwOk Heap.put
 rw [List.getElem?_modify]
 by_cases e : i = i'
 ·subst e; simp; cases H[i]? <;> rfl
 ·simp [e]
theorem get_put (H : Heap) (i j : Nat) (x : Value) : (H.put i j x)[i]? = (H[i]?).map fun b => { b with cells := b.cells.set j x } := by
 unfold Heap.put; rw [List.getElem?_modify]; simp
theorem get_put_ne (H : Heap) {i i' : Nat} (j : Nat) (x : Value) (h : i' ≠ i) : (H.put i j x)[i']? = H[i']? := by
 unfold Heap.put; rw [List.getElem?_modify]; simp [Ne.symm h]
theorem cell_put (H : Heap) (i j : Nat) (x : Value) (i' j' : Nat) : Heap.cell (H.put i j x) i' j' = if i = i' ∧ j = j' ∧ (Heap.cell H i j).isSome = true then some x else Heap.cell H i' j' := by
 unfold Heap.cell
 by_cases e : i' = i
 ·subst e
  rw [get_put]
  cases hb : H[i']? with
  | none => simp
  | some b =>
   simp only [Option.map_some, true_and]
   cases hl : b.live with
   | false => simp
   | true =>
    simp only [if_true]
    rw [List.getElem?_set]
    by_cases ej : j = j'
    ·subst ej
     simp only [if_true, true_and]
     by_cases hlt : j < b.cells.length
     ·simp [hlt]
     ·simp [hlt]
    ·simp [ej]
 ·rw [get_put_ne H j x e]
  simp [Ne.symm e]
theorem length_put (H : Heap) (i j : Nat) (x : Value) : (H.put i j x).length = H.length := by unfold Heap.put; simp
/-- H' is H, written over with plain values in ids of E. -/
structure MK (E : List Nat) (H H' : Heap) : Prop where
 len : H'.length = H.length
 out : ∀ id, id ∉ E → H'[id]? = H[id]?
 cell : ∀ id j x, Heap.cell H' id j = some x → Heap.cell H id j = some x ∨ plainV x = true
 rw : ∀ id, Heap.rwOk H' id = Heap.rwOk H id
theorem MK.refl (E : List Nat) (H : Heap) : MK E H H := ⟨rfl, fun _ _ => rfl, fun _ _ _ h => .inl h, fun _ => rfl⟩
theorem MK.trans {E : List Nat} {a b c : Heap} (h : MK E a b) (k : MK E b c) : MK E a c :=
 ⟨k.len.trans h.len, fun id hi => (k.out id hi).trans (h.out id hi), fun id j x hx => by
  rcases k.cell id j x hx with hx | hx
  ·exact h.cell id j x hx
  ·exact .inr hx, fun id => (k.rw id).trans (h.rw id)⟩
theorem MK.sub {E F : List Nat} {a b : Heap} (h : MK E a b) (hs : ∀ e, e ∈ E → e ∈ F) : MK F a b := ⟨h.len, fun id hi => h.out id fun he => hi (hs id he), h.cell, h.rw⟩
theorem MK.put {E : List Nat} (H : Heap) {id : Nat} (j : Nat) {x : Value} (hi : id ∈ E) (hx : plainV x = true) : MK E H (H.put id j x) := by
 refine ⟨length_put _ _ _ _, fun i h => get_put_ne H j x fun e => h (e ▸ hi), fun i j' y hy => ?_, fun i => rwOk_put _ _ _ _ _⟩
 rw [cell_put] at hy
 split at hy
 ·cases hy; exact .inr hx
 ·exact .inl hy
/-- E's ids are apart, and may be written. -/
def Own (H : Heap) (E : List Nat) : Prop := E.Nodup ∧ ∀ id, id ∈ E → Heap.rwOk H id = true
theorem Own.mk {E F : List Nat} {H H' : Heap} (h : Own H F) (k : MK E H H') : Own H' F := ⟨h.1, fun id hi => by rw [k.rw]; exact h.2 id hi⟩
theorem Own.left {E F : List Nat} {H : Heap} (h : Own H (E ++ F)) : Own H E := ⟨(List.nodup_append.1 h.1).1, fun id hi => h.2 id (by simp [hi])⟩
theorem Own.right {E F : List Nat} {H : Heap} (h : Own H (E ++ F)) : Own H F := ⟨(List.nodup_append.1 h.1).2.1, fun id hi => h.2 id (by simp [hi])⟩
theorem Own.apart {E F : List Nat} {H : Heap} (h : Own H (E ++ F)) : ∀ id, id ∈ E → id ∉ F := fun id he hf => (List.nodup_append.1 h.1).2.2 id he id hf rfl
section
variable {α : Type} {sz : Nat} {R : Heap → List Nat → α → List Value → Prop} {H H' : Heap} {v : Value}
/-- An element's place, opened: what is laid there anew reads anew. -/
theorem RS.opn (hR : Frm R) {E : List Nat} {xs : List α} (h : RS sz R H E v xs) (hnd : E.Nodup) {k : Nat} (hk : k < xs.length) :
  ∃ id o Ek ck, v = sl id o xs.length ∧ id ∈ E ∧ id ∉ Ek ∧ (∀ e, e ∈ Ek → e ∈ E) ∧ Ek.Nodup ∧ R H Ek xs[k] ck ∧ ck.length = sz ∧ (∀ (i : Nat) (c : Value), ck[i]? = some c → Heap.cell H id (o + k * sz + i) = some c) ∧
   ∀ (H' : Heap) (x' : α) (ck' : List Value), ck'.length = sz → R H' Ek x' ck' → (∀ e, e ∈ E → e ≠ id → e ∉ Ek → H'[e]? = H[e]?) →
    (∀ a z b, H[id]? = some b → b.cells = a ++ (ck ++ z) → a.length = o + k * sz → H'[id]? = some { b with cells := a ++ (ck' ++ z) }) → RS sz R H' E v (xs.set k x') := by
 obtain ⟨hl, ⟨_, rfl, _⟩ | ⟨id, o, E', ty, rw, pre, cs, post, h1, h2, h3, h4, h5⟩⟩ := h
 ·simp at hk
 ·subst h2
  obtain ⟨E1, Ek, E2, c1, ck, c2, k1, k2, k3, k4, k5, k6, k7⟩ := h5.at hk
  subst k1; subst k2
  have hnd' := List.nodup_cons.1 hnd
  have hnd2 := List.nodup_append.1 hnd'.2
  have hnd3 := List.nodup_append.1 hnd2.2.1
  refine ⟨id, o, Ek, ck, h1, by simp, fun he => hnd'.1 (by simp [he]), fun e he => by simp [he], hnd3.1, k6, k4, fun i c hc => ?_, fun H' x' ck' hsz hR' hout hid => ⟨by simpa using hl, .inr ⟨id, o, E1 ++ (Ek ++ E2), ty, rw, pre, c1 ++ (ck' ++ c2), post, by simpa using h1, rfl, ?_, h4, ?_⟩⟩⟩
  ·unfold Heap.cell
   rw [h3]
   have hi := (List.getElem?_eq_some_iff.1 hc).1
   simp only [if_true]
   rw [List.append_assoc, List.getElem?_append_right (by omega), h4, show o + k * sz + i - o = k * sz + i by omega, List.append_assoc, List.getElem?_append_right (by omega), k3, show k * sz + i - k * sz = i by omega, List.append_assoc, List.getElem?_append_left (by omega)]
   exact hc
  ·have := hid (pre ++ c1) (c2 ++ post) _ h3 (by simp) (by simp [h4, k3])
   rw [this]; simp
  ·have e : xs.set k x' = xs.take k ++ x' :: xs.drop (k + 1) := List.set_eq_take_append_cons_drop.trans (by simp [hk])
   rw [e]
   have n1 : ∀ e, e ∈ E1 → e ≠ id ∧ e ∉ Ek := fun e he => ⟨fun h => hnd'.1 (by rw [← h]; simp [he]), fun h => hnd2.2.2 e he e (by simp [h]) rfl⟩
   have n2 : ∀ e, e ∈ E2 → e ≠ id ∧ e ∉ Ek := fun e he => ⟨fun h => hnd'.1 (by rw [← h]; simp [he]), fun h => hnd3.2.2 e h e he rfl⟩
   exact (k5.fr hR fun e he _ => hout e (by simp [he]) (n1 e he).1 (n1 e he).2).app ⟨Ek, E2, ck', c2, rfl, rfl, hsz, hR', k7.fr hR fun e he _ => hout e (by simp [he]) (n2 e he).1 (n2 e he).2⟩
end
/-! ### what marks leave -/
section
variable {α : Type} {f : α → Int → α} {c : α → Int} {xs : List α} {i : Nat} {k : Int}
end
theorem Own.ext {H L : Heap} {E : List Nat} (h : Own H E) (hb : ∀ e, e ∈ E → e < H.length) : Own (H ++ L) E := ⟨h.1, fun id hi => by
 have := h.2 id hi
 unfold Heap.rwOk at this ⊢
 rw [List.getElem?_append_left (hb id hi)]; exact this⟩
theorem MK.cut {E : List Nat} {H L H2 : Heap} (h : MK E (H ++ L) H2) (hb : ∀ e, e ∈ E → e < H.length) : ∃ H', H2 = H' ++ L ∧ MK E H H' := by
 have hlen := h.len
 rw [List.length_append] at hlen
 have hget : ∀ id, id < H.length → (H2.take H.length)[id]? = H2[id]? := fun id hi => by rw [List.getElem?_take, if_pos hi]
 have e : H2 = H2.take H.length ++ L := by
  apply List.ext_getElem?
  intro i
  by_cases hi : i < H.length
  ·rw [List.getElem?_append_left (by simp; omega), hget i hi]
  ·rw [h.out i fun he => hi (hb i he), List.getElem?_append_right (by omega), List.getElem?_append_right (by simp; omega)]
   simp [hlen]
 refine ⟨_, e, by simp; omega, fun id hi => ?_, fun id j x hx => ?_, fun id => ?_⟩
 ·by_cases hlt : id < H.length
  ·rw [hget id hlt, h.out id hi, List.getElem?_append_left hlt]
  ·rw [List.getElem?_eq_none (by simp; omega), List.getElem?_eq_none (by omega)]
 ·have hlt : id < H.length := by
   have := Heap.lt_of_live (Heap.live_of_cell hx)
   simp at this; omega
  have hx2 : Heap.cell H2 id j = some x := by unfold Heap.cell at hx ⊢; rw [← hget id hlt]; exact hx
  rcases h.cell id j x hx2 with h1 | h1
  ·left; unfold Heap.cell at h1 ⊢; rw [List.getElem?_append_left hlt] at h1; exact h1
  ·exact .inr h1
 ·by_cases hlt : id < H.length
  ·have := h.rw id
   unfold Heap.rwOk at this ⊢
   rw [hget id hlt, this, List.getElem?_append_left hlt]
  ·unfold Heap.rwOk
   rw [List.getElem?_eq_none (by simp; omega), List.getElem?_eq_none (by omega)]
theorem agr_cut (H L : Heap) {E : List Nat} (hb : ∀ e, e ∈ E → e < H.length) : ∀ id, id ∈ E → id < (H ++ L).length → H[id]? = (H ++ L)[id]? := fun id hi _ => by rw [List.getElem?_append_left (hb id hi)]
theorem RS.cut {α : Type} {sz : Nat} {R : Heap → List Nat → α → List Value → Prop} {H L : Heap} {v : Value} {E : List Nat} {xs : List α} (h : RS sz R (H ++ L) E v xs) (hR : Frm R) (hb : ∀ e, e ∈ E → e < H.length) : RS sz R H E v xs := h.fr hR (agr_cut H L hb)
theorem Frm.cut {α : Type} {R : Heap → List Nat → α → List Value → Prop} (hR : Frm R) {H L : Heap} {E : List Nat} {x : α} {cs : List Value} (h : R (H ++ L) E x cs) (hb : ∀ e, e ∈ E → e < H.length) : R H E x cs := hR.fr h (agr_cut H L hb)
theorem get_kill_ne (H : Heap) {id i : Nat} (h : i ≠ id) : (H.kill id)[i]? = H[i]? := by
 unfold Heap.kill; rw [List.getElem?_modify]; simp [Ne.symm h]
theorem length_kill' (H : Heap) (id : Nat) : (H.kill id).length = H.length := by unfold Heap.kill; simp
theorem ldC_cells {H : Heap} {id : Nat} {b : Blk} (hb : H[id]? = some b) (hl : b.live = true) : ∀ (n : Nat) (a m z : List Value), b.cells = a ++ (m ++ z) → m.length = n → ldC H id a.length n = some m
 | 0, a, m, z, h, hm => by rw [List.length_eq_zero_iff.1 hm]; rfl
 | n + 1, a, [], z, h, hm => by simp at hm
 | n + 1, a, x :: m, z, h, hm => by
  have h1 : Heap.cell H id a.length = some x := by
   unfold Heap.cell; rw [hb]; simp only [hl, if_true]; rw [h, List.getElem?_append_right (Nat.le_refl _)]; simp
  have := ldC_cells hb hl n (a ++ [x]) m z (by rw [h]; simp) (by simpa using hm)
  rw [List.length_append] at this
  unfold ldC
  rw [h1, show a.length + 1 = a.length + [x].length from rfl, this]
section
variable {α : Type} {sz : Nat} {R : Heap → List Nat → α → List Value → Prop} {H : Heap}
theorem RCs.one (hR : ∀ {E x cs}, R H E x cs → cs.all (·.oneCell') = true) : ∀ {xs : List α} {E : List Nat} {cs : List Value}, RCs sz R H E xs cs → cs.all (·.oneCell') = true
 | [], _, _, h => by rw [h.2]; rfl
 | x :: xs, _, _, ⟨E1, E2, c1, c2, _, h2, h3, h4, h5⟩ => by rw [h2, List.all_append, hR h4, h5.one hR]; rfl
/-- A slice that is read by append. -/
theorem RS.src {E : List Nat} {w : Value} {ys : List α} (h : RS sz R H E w ys) : ∃ E' news, srcA H sz w = some (ys.length, news) ∧ RCs sz R H E' ys news ∧ (∀ e, e ∈ E' → e ∈ E) ∧ (E.Nodup → E'.Nodup) := by
 obtain ⟨_, ⟨rfl | rfl, rfl, rfl⟩ | ⟨id, o, E', ty, rw, pre, cs, post, rfl, rfl, h3, h4, h5⟩⟩ := h
 ·exact ⟨[], [], rfl, ⟨rfl, rfl⟩, fun e he => he, fun h => h⟩
 ·exact ⟨[], [], rfl, ⟨rfl, rfl⟩, fun e he => he, fun h => h⟩
 ·refine ⟨E', cs, ?_, h5, fun e he => by simp [he], fun h => (List.nodup_cons.1 h).2⟩
  have := ldC_cells h3 rfl (ys.length * sz) pre cs post (by simp) h5.len
  rw [h4] at this
  unfold srcA
  simp only [this]
/-- append: what it leaves. -/
theorem apA_RW {P : Program} {t e : TypeId} {by' : Nat} {z : Value} (he : elemO P t = some e) (hs : szO P e = some (sz + 1)) (hb : byO P e = some by') (hz : zeroO P e = some z) (hzl : (cellsV z).length = sz + 1) (hR : Frm R)
  {E1 E2 : List Nat} {v w : Value} {xs ys : List α} {news : List Value} (h1 : RW e (sz + 1) R H E1 v xs) (hsrc : srcA H (sz + 1) w = some (ys.length, news)) (h2 : RCs (sz + 1) R H E2 ys news) (hone : news.all (·.oneCell') = true)
  (hnd : E1.Nodup) (hnd2 : E2.Nodup) (hap : ∀ i, i ∈ E1 → i ∉ E2) (hby : (xs.length + ys.length) * by' ≤ 140737488355328) (hmax : xs.length + ys.length ≤ maxLen) :
  ∃ k v' H2 E', apA P H [t, t] v w = some (k, v', H2) ∧ (∀ i, k = some i → i ∈ E1 ∧ H.live i = true) ∧ H.length ≤ H2.length ∧ (∀ i, i < H.length → i ∉ E1 → H2[i]? = H[i]?) ∧ RW e (sz + 1) R H2 E' v' (xs ++ ys) ∧ E'.Nodup ∧
   (∀ i, i ∈ E' → ((i ∈ E1 ∨ i ∈ E2) ∧ i < H.length ∧ H2[i]? = H[i]?) ∨ (i = H.length ∧ Heap.rwOk H2 i = true)) ∧ ∀ i, i ∈ E2 → H2[i]? = H[i]? := by
 have hz' : ¬ (t = t ∧ (cellsV z).length = sz + 1 ∧ (xs.length + ys.length) * by' ≤ 140737488355328 ∧ xs.length + ys.length ≤ maxLen ∧ news.all (·.oneCell') = true) → False := fun h => h ⟨rfl, hzl, hby, hmax, hone⟩
 have hnl := h2.len
 rcases h1 with ⟨rfl, rfl, rfl⟩ | ⟨id, E', cs, rfl, rfl, hbk, hcs⟩
 ·by_cases hy : ys = []
  ·subst hy
   refine ⟨none, nl, H, [], ?_, fun i h => by simp at h, Nat.le_refl _, fun _ _ _ => rfl, .inl ⟨rfl, rfl, rfl⟩, List.nodup_nil, fun i hi => by simp at hi, fun _ _ => rfl⟩
   refine apA_of0 ?_; unfold apA0
   simp only [he, hs, hb, hz, destA, hsrc, List.length_nil] at hz' ⊢
   rw [if_pos (by simpa using Classical.not_not.1 hz')]
   simp
  ·have hm : ys.length ≠ 0 := fun h => hy (List.length_eq_zero_iff.1 h)
   refine ⟨none, sl H.length 0 ys.length, H ++ [⟨e, news, true, true⟩], H.length :: E2, ?_, fun i h => by simp at h, by simp, fun i hi _ => List.getElem?_append_left hi, .inr ⟨H.length, E2, news, by simp, rfl, by simp, ?_⟩, ?_, fun i hi => ?_, fun i hi => List.getElem?_append_left (h2.bd hR i hi)⟩
   ·refine apA_of0 ?_; unfold apA0
    simp only [he, hs, hb, hz, destA, hsrc, List.length_nil] at hz' ⊢
    rw [if_pos (by simpa using Classical.not_not.1 hz')]
    simp [hm, killO]
   ·exact h2.fr hR (agr_app H _ E2)
   ·exact List.nodup_cons.2 ⟨fun h => by have := h2.bd hR _ h; omega, hnd2⟩
   ·rcases List.mem_cons.1 hi with h | h
    ·exact .inr ⟨h, by rw [h]; unfold Heap.rwOk; simp⟩
    ·exact .inl ⟨.inr h, h2.bd hR i h, List.getElem?_append_left (h2.bd hR i h)⟩
 ·have hlen := hcs.len
  have hnd' := List.nodup_cons.1 hnd
  have hlt := lt_of_get hbk
  have hid2 : id ∉ E2 := hap id (by simp)
  have hget : ∀ i, i < H.length → i ≠ id → (H.kill id ++ [(⟨e, cs ++ news, true, true⟩ : Blk)])[i]? = H[i]? := fun i hi hne => by rw [List.getElem?_append_left (by rw [length_kill']; exact hi), get_kill_ne H hne]
  have ha1 : ∀ i, i ∈ E' → i < H.length → (H.kill id ++ [(⟨e, cs ++ news, true, true⟩ : Blk)])[i]? = H[i]? := fun i hi hl => hget i hl fun h => hnd'.1 (h ▸ hi)
  have ha2 : ∀ i, i ∈ E2 → i < H.length → (H.kill id ++ [(⟨e, cs ++ news, true, true⟩ : Blk)])[i]? = H[i]? := fun i hi hl => hget i hl fun h => hid2 (h ▸ hi)
  refine ⟨some id, sl H.length 0 (xs.length + ys.length), H.kill id ++ [⟨e, cs ++ news, true, true⟩], H.length :: (E' ++ E2), ?_, fun i h => ?_, by simp [length_kill'], fun i hi hn => hget i hi fun h => hn (by simp [h]), .inr ⟨H.length, E' ++ E2, cs ++ news, by simp, rfl, ?_, ?_⟩, ?_, fun i hi => ?_, fun i hi => ha2 i hi (h2.bd hR i hi)⟩
  ·refine apA_of0 ?_; unfold apA0
   simp only [he, hs, hb, hz, destA, hsrc, hbk] at hz' ⊢
   simp only [hlen, and_self, if_true]
   rw [if_pos (Classical.not_not.1 hz')]
   simp [killO]
  ·cases h; exact ⟨by simp, by unfold Heap.live; rw [hbk]⟩
  ·rw [List.getElem?_append_right (by rw [length_kill']; exact Nat.le_refl _), length_kill']; simp
  ·exact (hcs.fr hR ha1).app (h2.fr hR ha2)
  ·refine List.nodup_cons.2 ⟨fun h => ?_, List.nodup_append.2 ⟨hnd'.2, hnd2, fun a ha b hb hab => hap a (by simp [ha]) (hab ▸ hb)⟩⟩
   rcases List.mem_append.1 h with h | h
   ·have := hcs.bd hR _ h; omega
   ·have := h2.bd hR _ h; omega
  ·rcases List.mem_cons.1 hi with h | h
   ·refine .inr ⟨h, ?_⟩
    rw [h]; unfold Heap.rwOk
    rw [List.getElem?_append_right (by rw [length_kill']; exact Nat.le_refl _), length_kill']; simp
   ·rcases List.mem_append.1 h with h | h
    ·exact .inl ⟨.inl (by simp [h]), hcs.bd hR i h, ha1 i h (hcs.bd hR i h)⟩
    ·exact .inl ⟨.inr h, h2.bd hR i h, ha2 i h (h2.bd hR i h)⟩
end

/-! ### makers -/
/-- A call that makes: what it answers owns new blocks alone. -/
def Mkr (P : Program) (f : FuncId) (args : List Value) (H : Heap) (Q : Heap → List Nat → Value → Prop) : Prop :=
 ∃ v J E, AC P f args H v (H ++ J) [] ∧ Q (H ++ J) E v ∧ Own (H ++ J) E ∧ (∀ e, e ∈ E → H.length ≤ e)
theorem app_of_same {H Hn : Heap} (hl : H.length ≤ Hn.length) (h : ∀ i, i < H.length → Hn[i]? = H[i]?) : Hn = H ++ Hn.drop H.length := by
 apply List.ext_getElem?
 intro i
 by_cases hi : i < H.length
 ·rw [h i hi, List.getElem?_append_left hi]
 ·rw [List.getElem?_append_right (by omega), List.getElem?_drop]; congr 1; omega
theorem Mkr.of_body {P : Program} {f : FuncId} {fn : Func} {c : Code} {N : Nat} {rs : List ResultVar} {args : List Value} {H : Heap} {Q : Heap → List Nat → Value → Prop} (hf : P.funcs[f]? = some fn) (hb : fn.body = some c) (hok : fnOk P f = true) (hNe : fn.ntmps = N) (hrs : fn.results.toList = rs) (hN : args.length ≤ N)
  (h : AK P ⟨N, H.length, []⟩ (endR P rs fun v Hn => H.length ≤ Hn.length ∧ (∀ i, i < H.length → Hn[i]? = H[i]?) ∧ ∃ E, Q Hn E v ∧ Own Hn E ∧ (∀ e, e ∈ E → H.length ≤ e)) [.c c] ⟨enumT 0 args, H⟩) : Mkr P f args H Q := by
 obtain ⟨v, H', h1, h2, h3, E, h4, h5, h6⟩ := AC.of_body0 hf hb hok hNe hrs hN h
 have e := app_of_same h2 h3
 rw [e] at h1 h4 h5
 exact ⟨v, _, E, h1, h4, h5, h6⟩
def Gro (H H1 : Heap) : Prop := ∃ J, H1 = H ++ J
theorem Gro.refl (H : Heap) : Gro H H := ⟨[], by simp⟩
theorem Gro.app {H H1 : Heap} (g : Gro H H1) (L : Heap) : Gro H (H1 ++ L) := by obtain ⟨J, rfl⟩ := g; exact ⟨J ++ L, by simp⟩
theorem Gro.one (H L : Heap) : Gro H (H ++ L) := ⟨L, rfl⟩
theorem Gro.trans {a b c : Heap} (h : Gro a b) (k : Gro b c) : Gro a c := by obtain ⟨J, rfl⟩ := h; obtain ⟨K, rfl⟩ := k; exact ⟨J ++ K, by simp⟩
theorem Gro.len {H H1 : Heap} (g : Gro H H1) : H.length ≤ H1.length := by obtain ⟨J, rfl⟩ := g; simp
theorem Gro.get {H H1 : Heap} (g : Gro H H1) {i : Nat} {b : Blk} (h : H[i]? = some b) : H1[i]? = some b := by
 obtain ⟨J, rfl⟩ := g; rw [List.getElem?_append_left (lt_of_get h)]; exact h
theorem Gro.same {H H1 : Heap} (g : Gro H H1) {i : Nat} (h : i < H.length) : H1[i]? = H[i]? := by
 obtain ⟨J, rfl⟩ := g; rw [List.getElem?_append_left h]
theorem Gro.of {H H1 : Heap} (hl : H.length ≤ H1.length) (h : ∀ i, i < H.length → H1[i]? = H[i]?) : Gro H H1 := ⟨_, app_of_same hl h⟩
section
variable {α : Type} {sz : Nat} {R : Heap → List Nat → α → List Value → Prop} {H H1 : Heap} {E : List Nat}
theorem RS.gro {v : Value} {xs : List α} (h : RS sz R H E v xs) (g : Gro H H1) (hR : Frm R) : RS sz R H1 E v xs := by obtain ⟨J, rfl⟩ := g; exact h.ext hR
theorem RW.gro {t : TypeId} {v : Value} {xs : List α} (h : RW t sz R H E v xs) (g : Gro H H1) (hR : Frm R) : RW t sz R H1 E v xs := by obtain ⟨J, rfl⟩ := g; exact h.ext hR
theorem Frm.gro (hR : Frm R) {x : α} {cs : List Value} (h : R H E x cs) (g : Gro H H1) : R H1 E x cs := by obtain ⟨J, rfl⟩ := g; exact hR.ext h
end
theorem Own.gro {H H1 : Heap} {E : List Nat} (h : Own H E) (g : Gro H H1) : Own H1 E := ⟨h.1, fun id hi => by
 have := h.2 id hi
 unfold Heap.rwOk at this ⊢
 split at this
 ·rename_i b hb; rw [g.get hb]; exact this
 ·cases this⟩

/-- A cell, in this heap and in every one that grew out of it. -/
def CF (H : Heap) (id j : Nat) (x : Value) : Prop := ∀ L, Heap.cell (H ++ L) id j = some x
theorem CF.a {H : Heap} {id j : Nat} {x : Value} (h : CF H id j x) (L : Heap) : Heap.cell (H ++ L) id j = some x := h L
theorem CF.b {H : Heap} {id j : Nat} {x : Value} (h : CF H id j x) : Heap.cell H id j = some x := by have := h []; rwa [List.append_nil] at this
theorem CF.s {H : Heap} {id j : Nat} {x : Value} (h : CF H id j x) : (∀ L, Heap.cell (H ++ L) id j = some x) ∧ Heap.cell H id j = some x := ⟨h, h.b⟩
theorem CF.of {H : Heap} {id j : Nat} {x : Value} {b : Blk} (h : H[id]? = some b) (hl : b.live = true) (hc : b.cells[j]? = some x) : CF H id j x := fun L => by
 unfold Heap.cell; rw [List.getElem?_append_left (lt_of_get h), h]; simp [hl, hc]
theorem CF.cell {H : Heap} {id j : Nat} {x : Value} (h : Heap.cell H id j = some x) : CF H id j x := fun L => cell_app H L h
theorem CF.gro {H H1 : Heap} {id j : Nat} {x : Value} (h : CF H id j x) (g : Gro H H1) : CF H1 id j x := by
 obtain ⟨J, rfl⟩ := g; intro L; rw [List.append_assoc]; exact h _

/-- A map with integer keys of which each one holds true. -/
def encM : List Int → List Value
 | [] => []
 | s :: r => .int .i64 s :: .bool true :: encM r
theorem encM_snoc (l : List Int) (n : Int) : encM (l ++ [n]) = encM l ++ [.int .i64 n, .bool true] := by
 induction l with
 | nil => rfl
 | cons a l ih => simp [encM, ih]
theorem okM_enc (l : List Int) : okM (encM l) = true := by
 induction l with
 | nil => rfl
 | cons a l ih => simp [encM, okM, plainV, ih]
theorem lookM_enc (l : List Int) (n : Int) : lookM (encM l) n = if n ∈ l then some (.bool true) else none := by
 induction l with
 | nil => rfl
 | cons a l ih =>
  simp only [encM, lookM, ih, List.mem_cons]
  by_cases e : a = n
  ·simp [e]
  ·have e' : ¬ n = a := fun h => e h.symm
   simp [e, e']
theorem lookA_enc {P : Program} {H : Heap} {t : TypeId} {m : Nat} {l : List Int} (n : Int) (hz : mapZ P t = some (.bool false)) (hm : H[m]? = some ⟨t, encM l, true, false⟩) : lookA P H t (.map (some m)) (.int .i64 n) = some (.bool (decide (n ∈ l))) := by
 unfold lookA
 simp only [hm, hz, okM_enc, lookM_enc]
 by_cases e : n ∈ l <;> simp [e]
theorem mputA_enc {P : Program} {H : Heap} {t : TypeId} {m : Nat} {l : List Int} {n : Int} (hz : mapZ P t = some (.bool false)) (hm : H[m]? = some ⟨t, encM l, true, false⟩) (hn : n ∉ l) :
  mputA P H t (.map (some m)) (.int .i64 n) (.bool true) = some (m, H.set m ⟨t, encM (l ++ [n]), true, false⟩) := by
 unfold mputA
 simp only [hm, hz, okM_enc, lookM_enc, hn, if_false, plainV, encM_snoc]
 simp
/-- A row of marks: which of 0 .. n-1 are met. -/
def bitsL (n : Nat) (l : List Int) : List Value := (List.range n).map fun s : Nat => Value.bool (decide ((s : Int) ∈ l))
theorem bitsL_nil (n : Nat) : bitsL n [] = List.replicate n (.bool false) := by
 simp [bitsL, List.map_const']
theorem bitsL_len (n : Nat) (l : List Int) : (bitsL n l).length = n := by simp [bitsL]
theorem bitsL_get {n k : Nat} (h : k < n) (l : List Int) : (bitsL n l)[k]? = some (.bool (decide ((k : Int) ∈ l))) := by simp [bitsL, h]
theorem bitsL_set {n k : Nat} (h : k < n) (l : List Int) : (bitsL n l).set k (.bool true) = bitsL n (l ++ [(k : Int)]) := by
 apply List.ext_getElem?
 intro i
 rw [List.getElem?_set]
 by_cases hi : i < n
 ·rw [bitsL_get hi, bitsL_get hi]
  by_cases e : k = i
  ·subst e; simp [bitsL_len, h]
  ·have e' : ¬ ((i : Int) = k) := by omega
   simp [e, e']
 ·have e : ¬ k = i := by omega
  rw [if_neg e, List.getElem?_eq_none (by rw [bitsL_len]; omega), List.getElem?_eq_none (by rw [bitsL_len]; omega)]
theorem Gro.set {H H1 : Heap} (g : Gro H H1) {m : Nat} (h : H.length ≤ m) (b : Blk) : Gro H (H1.set m b) := by
 obtain ⟨J, rfl⟩ := g
 refine ⟨J.set (m - H.length) b, ?_⟩
 rw [List.set_append, if_neg (by omega)]

theorem RCs.plain {α : Type} {sz : Nat} {g : α → List Value} (hg : ∀ x, (g x).length = sz) (H : Heap) : ∀ xs : List α, RCs sz (RP g) H [] xs (xs.flatMap g)
 | [] => ⟨rfl, rfl⟩
 | x :: xs => ⟨[], [], g x, xs.flatMap g, rfl, by simp, hg x, ⟨rfl, rfl⟩, RCs.plain hg H xs⟩
theorem flatMap_len {α : Type} {sz : Nat} {g : α → List Value} (hg : ∀ x, (g x).length = sz) : ∀ xs : List α, (xs.flatMap g).length = xs.length * sz
 | [] => by simp
 | x :: xs => by simp [List.flatMap_cons, hg, flatMap_len hg xs, Nat.succ_mul]; omega
theorem Gro.put {H H1 : Heap} (g : Gro H H1) {m : Nat} (h : H.length ≤ m) (j : Nat) (x : Value) : Gro H (H1.put m j x) :=
 Gro.of (by rw [length_put]; exact g.len) fun i hi => by rw [get_put_ne _ _ _ (by omega)]; exact g.same hi
theorem rw_get {H : Heap} {i : Nat} {t : TypeId} {cs : List Value} (h : H[i]? = some ⟨t, cs, true, true⟩) : Heap.rwOk H i = true := by unfold Heap.rwOk; rw [h]; rfl
theorem get_mid {a m z : List Value} {n j : Nat} {x : Value} (h : a.length = n) (hm : m[j]? = some x) : (a ++ (m ++ z))[n + j]? = some x := by
 rw [List.getElem?_append_right (by omega), h, Nat.add_sub_cancel_left, List.getElem?_append_left (List.getElem?_eq_some_iff.1 hm).1]; exact hm
/-- A loop over 0 .. n-1: the slots at each round, what holds there. -/
theorem ak_rng {P : Program} {C : Cx} {R : St → Prop} {k : List It} {x : Code} {ts : List (Nat × Value)} {H : Heap} (n : Nat) (sl : Nat → List (Nat × Value)) (I : Nat → Heap → Prop) (hs : subL (sl 0) ts) (h0 : I 0 H)
  (step : ∀ i H1, i < n → I i H1 → AK P C R (.c x :: .inv (fun s' => subL (sl (i + 1)) s'.ts ∧ I (i + 1) s'.H) :: k) ⟨sl i, H1⟩)
  (last : ∀ H1, I n H1 → AK P C R (.c x :: .inv (fun _ => False) :: k) ⟨sl n, H1⟩) : AK P C R (.c (.loop x) :: k) ⟨ts, H⟩ := by
 refine ak_loopS (fun m ts' H' => ∃ i, i ≤ n ∧ m = n - i ∧ ts' = sl i ∧ I i H') n (sl 0) hs ⟨0, Nat.zero_le _, rfl, rfl, h0⟩ ?_
 rintro m ts' H' ⟨i, hi, rfl, rfl, hI⟩
 by_cases h : i < n
 ·refine AW.mono (step i H' h hI) ?_
  intro e s hh
  cases e with
  | normal => exact ⟨n - (i + 1), _, by omega, hh.1, i + 1, by omega, rfl, rfl, hh.2⟩
  | exit id => exact hh
  | ret => exact hh
 ·obtain rfl : i = n := by omega
  refine AW.mono (last H' hI) ?_
  intro e s hh
  cases e with
  | normal => exact hh.elim
  | exit id => exact hh
  | ret => exact hh
/-- A line within a slice of lines. -/
theorem RS.line {H : Heap} {E : List Nat} {v : Value} {ls : List Ln} (h : RS 4 RLn H E v ls) {k : Nat} (hk : k < ls.length) :
  ∃ id o v1 v2 E1 E2, v = sl id o ls.length ∧ id < H.length ∧ CF H id (o + k * 4) (iv ls[k].gone) ∧ CF H id (o + k * 4 + 1) v1 ∧ CF H id (o + k * 4 + 2) v2 ∧ CF H id (o + k * 4 + 3) (iv ls[k].drop) ∧ RS 1 RInt H E1 v1 ls[k].way ∧ RS 2 RGr H E2 v2 ls[k].grs ∧
   v1.oneCell' = true ∧ v2.oneCell' = true ∧ (∀ e, e ∈ E1 ++ E2 → e ∈ E) := by
 obtain ⟨id, o, Ek, cs, hv, hid, _, hE, hR, hsz, hc⟩ := h.at hk
 obtain ⟨E1, E2, v1, v2, rfl, rfl, hw, hg⟩ := hR
 exact ⟨id, o, v1, v2, E1, E2, hv, hid, hc 0 _ rfl, hc 1 _ rfl, hc 2 _ rfl, hc 3 _ rfl, hw, hg, hw.one, hg.one, hE⟩
theorem RS.int {H : Heap} {E : List Nat} {v : Value} {xs : List Int} (h : RS 1 RInt H E v xs) {k : Nat} (hk : k < xs.length) : ∃ id o, v = sl id o xs.length ∧ id < H.length ∧ CF H id (o + k) (iv xs[k]) := by
 obtain ⟨id, o, Ek, cs, hv, hid, _, _, hR, hsz, hc⟩ := h.at hk
 obtain ⟨_, rfl⟩ := hR
 exact ⟨id, o, hv, hid, fun L => by have := hc 0 _ rfl L; simpa using this⟩
theorem RS.gr {H : Heap} {E : List Nat} {v : Value} {xs : List Gr} (h : RS 2 RGr H E v xs) {k : Nat} (hk : k < xs.length) : ∃ id o, v = sl id o xs.length ∧ id < H.length ∧ CF H id (o + k * 2) (iv xs[k].ver) ∧ CF H id (o + k * 2 + 1) (iv xs[k].cel) := by
 obtain ⟨id, o, Ek, cs, hv, hid, _, _, hR, hsz, hc⟩ := h.at hk
 obtain ⟨_, rfl⟩ := hR
 exact ⟨id, o, hv, hid, hc 0 _ rfl, hc 1 _ rfl⟩
end Go.Proofs.YtpoedfmkiiijnaaDoorAm
namespace Go.Proofs.YtpoedfmkiiijnaaDoorAm
def inB (x a b : Int) : Bool := decide (a ≤ x) && decide (x ≤ b)
def line0 : Ln := ⟨0, [], [⟨0, 0⟩], -1⟩
def bk0 : Bk := ⟨false, 0, []⟩
def beginB (s t : Int) : Bk := if inB s 1 200 = true ∧ inB t 0 20 = true then ⟨true, s, List.replicate t.toNat line0⟩ else bk0
def maxI (a b : Int) : Int := if a < b then b else a
def reachL (gs : List Gr) : Int := gs.foldl (fun n g => maxI n g.cel) 0
def totL (l : Ln) : Int := l.gone + l.way.length
def ok2 (sec : Int) (l : Ln) : Bool := inB l.gone 0 1000000 && inB (totL l) 0 1000000 && decide (l.way.length ≤ 100) && l.way.all fun s => inB s 0 (sec - 1)
def gAt (gs : List Gr) (i : Nat) : Gr := gs.getD i ⟨0, 0⟩
def gOk (tot : Int) (gs : List Gr) (i : Nat) : Bool := inB (gAt gs i).cel 0 tot && inB (gAt gs i).ver 0 1000000 && (decide (i = 0) || decide ((gAt gs i).ver = (gAt gs (i - 1)).ver + 1))
def ok3 (l : Ln) : Bool := inB l.grs.length 1 20 && (List.range l.grs.length).all (gOk (totL l) l.grs) && decide (l.gone ≤ reachL l.grs)
def ok4 (l : Ln) : Bool := decide (l.drop = -1) || (inB l.drop l.gone (totL l - 1) && decide ((gAt l.grs (l.grs.length - 1)).cel ≤ l.drop) && decide (totL l ≤ reachL l.grs))
def secs (ls : List Ln) : List Int := (ls.map (·.way)).flatten
def ok1 (b : Bk) : Bool := b.ok && inB b.sec 1 200 && decide (b.lines.length ≤ 20)
def bookOkB (b : Bk) : Int := if ok1 b = false then 1 else if b.lines.all (ok2 b.sec) = false then 2 else if b.lines.all ok3 = false then 3 else if b.lines.all ok4 = false then 4 else if (secs b.lines).Nodup then 0 else 5
theorem bookOkB_1 {b : Bk} (h : ok1 b = false) : bookOkB b = 1 := by simp [bookOkB, h]
theorem bookOkB_2 {b : Bk} (h1 : ok1 b = true) (h : b.lines.all (ok2 b.sec) = false) : bookOkB b = 2 := by simp only [bookOkB, h1, h]; simp
theorem bookOkB_3 {b : Bk} (h1 : ok1 b = true) (h2 : b.lines.all (ok2 b.sec) = true) (h : b.lines.all ok3 = false) : bookOkB b = 3 := by simp only [bookOkB, h1, h2, h]; simp
theorem bookOkB_4 {b : Bk} (h1 : ok1 b = true) (h2 : b.lines.all (ok2 b.sec) = true) (h3 : b.lines.all ok3 = true) (h : b.lines.all ok4 = false) : bookOkB b = 4 := by simp only [bookOkB, h1, h2, h3, h]; simp
theorem bookOkB_5 {b : Bk} (h1 : ok1 b = true) (h2 : b.lines.all (ok2 b.sec) = true) (h3 : b.lines.all ok3 = true) (h4 : b.lines.all ok4 = true) (h : ¬ (secs b.lines).Nodup) : bookOkB b = 5 := by simp only [bookOkB, h1, h2, h3, h4, h]; simp
theorem bookOkB_0 {b : Bk} (h1 : ok1 b = true) (h2 : b.lines.all (ok2 b.sec) = true) (h3 : b.lines.all ok3 = true) (h4 : b.lines.all ok4 = true) (h : (secs b.lines).Nodup) : bookOkB b = 0 := by simp only [bookOkB, h1, h2, h3, h4, h]; simp
theorem all_false_at {α : Type} {p : α → Bool} {xs : List α} {i : Nat} (hi : i < xs.length) (h : p xs[i] = false) : xs.all p = false := by
 rw [List.all_eq_false]; exact ⟨xs[i], List.getElem_mem hi, by simp [h]⟩
theorem all_true_at {α : Type} {p : α → Bool} {xs : List α} (h : ∀ i (hi : i < xs.length), p xs[i] = true) : xs.all p = true := by
 rw [List.all_eq_true]; intro x hx; obtain ⟨i, hi, rfl⟩ := List.getElem_of_mem hx; exact h i hi
theorem all_at {α : Type} {p : α → Bool} {xs : List α} (h : xs.all p = true) {i : Nat} (hi : i < xs.length) : p xs[i] = true := by
 rw [List.all_eq_true] at h; exact h _ (List.getElem_mem hi)
theorem reachL_snoc (gs : List Gr) (g : Gr) : reachL (gs ++ [g]) = maxI (reachL gs) g.cel := by simp [reachL]
theorem take_snoc {α : Type} {xs : List α} {i : Nat} (h : i < xs.length) : xs.take (i + 1) = xs.take i ++ [xs[i]] := by
 rw [List.take_add_one, List.getElem?_eq_getElem h]; rfl
theorem gAt_eq {gs : List Gr} {i : Nat} (h : i < gs.length) : gAt gs i = gs[i] := by simp [gAt, h]
theorem ok2_in {sec : Int} {l : Ln} (h : ok2 sec l = true) : 0 ≤ l.gone ∧ l.gone ≤ 1000000 ∧ 0 ≤ totL l ∧ totL l ≤ 1000000 ∧ l.way.length ≤ 100 := by
 simp only [ok2, inB, Bool.and_eq_true, decide_eq_true_eq] at h; omega
theorem secs_app (a b : List Ln) : secs (a ++ b) = secs a ++ secs b := by simp [secs]
theorem secs_cons (a : Ln) (b : List Ln) : secs (a :: b) = a.way ++ secs b := by simp [secs]
theorem secs_nil : secs [] = [] := rfl
/-- One step of the last check: what has been met, and the next. -/
theorem secs_take {ls : List Ln} {k : Nat} (h : k < ls.length) : secs (ls.take (k + 1)) = secs (ls.take k) ++ ls[k].way := by rw [take_snoc h, secs_app, secs_cons, secs_nil, List.append_nil]
theorem secs_split {ls : List Ln} {k : Nat} (h : k < ls.length) : ∃ r, secs ls = secs (ls.take k) ++ (ls[k].way ++ r) := by
 refine ⟨secs (ls.drop (k + 1)), ?_⟩
 have e : ls = ls.take k ++ ls[k] :: ls.drop (k + 1) := by rw [List.getElem_cons_drop]; exact (List.take_append_drop k ls).symm
 conv => lhs; rw [e]
 rw [secs_app, secs_cons]
/-- The first place where p holds, -1 for none. -/
def fstI {α : Type} (p : α → Bool) (xs : List α) : Int := match xs.findIdx? p with
 | some i => i
 | none => -1
theorem fstI_some {α : Type} {p : α → Bool} {xs : List α} {i : Nat} (hi : i < xs.length) (hp : p xs[i] = true) (hb : ∀ j (hj : j < i), p (xs[j]'(by omega)) = false) : fstI p xs = i := by
 have : xs.findIdx? p = some i := by
  rw [List.findIdx?_eq_some_iff_getElem]
  exact ⟨hi, hp, fun j hj => by rw [hb j hj]; simp⟩
 simp [fstI, this]
theorem fstI_none {α : Type} {p : α → Bool} {xs : List α} (h : ∀ j (hj : j < xs.length), p xs[j] = false) : fstI p xs = -1 := by
 have : xs.findIdx? p = none := by
  rw [List.findIdx?_eq_none_iff]
  intro x hx; obtain ⟨i, hi, rfl⟩ := List.getElem_of_mem hx; exact h i hi
 simp [fstI, this]
theorem fstI_nn {α : Type} {p : α → Bool} {xs : List α} : 0 ≤ fstI p xs ↔ ∃ x, x ∈ xs ∧ p x = true := by
 unfold fstI
 cases h : xs.findIdx? p with
 | none =>
  rw [List.findIdx?_eq_none_iff] at h
  simp only [Int.reduceNeg, Int.reduceLE, false_iff]
  rintro ⟨x, hx, hp⟩
  rw [h x hx] at hp; cases hp
 | some i =>
  rw [List.findIdx?_eq_some_iff_getElem] at h
  obtain ⟨hi, hp, _⟩ := h
  simp only [show (0 : Int) ≤ (i : Int) by omega, true_iff]
  exact ⟨_, List.getElem_mem hi, hp⟩
theorem fstI_range {α : Type} {p : α → Bool} {xs : List α} : (fstI p xs = -1 ∧ ∀ x, x ∈ xs → p x = false) ∨ ∃ i, ∃ hi : i < xs.length, fstI p xs = (i : Nat) ∧ p xs[i] = true ∧ ∀ j (hj : j < i), p (xs[j]'(by omega)) = false := by
 unfold fstI
 cases h : xs.findIdx? p with
 | none => rw [List.findIdx?_eq_none_iff] at h; exact .inl ⟨rfl, h⟩
 | some i =>
  rw [List.findIdx?_eq_some_iff_getElem] at h
  obtain ⟨hi, hp, hb⟩ := h
  exact .inr ⟨i, hi, rfl, hp, fun j hj => by have := hb j hj; simpa using this⟩
def isI (x : Int) (y : Int) : Bool := decide (x = y)
def isG (g : Gr) (h : Gr) : Bool := decide (g.ver = h.ver) && decide (g.cel = h.cel)
def hasV (n : Int) (g : Gr) : Bool := decide (g.ver = n)
def inWay (s : Int) (l : Ln) : Bool := decide (s ∈ l.way)
def ownB (ls : List Ln) (s : Int) : Int := fstI (inWay s) ls
theorem contI (xs : List Int) (x : Int) : decide (0 ≤ fstI (isI x) xs) = decide (x ∈ xs) := by
 have : (0 ≤ fstI (isI x) xs) ↔ x ∈ xs := by
  rw [fstI_nn]
  constructor
  ·rintro ⟨y, hy, h⟩; simp [isI] at h; subst h; exact hy
  ·intro h; exact ⟨x, h, by simp [isI]⟩
 simp [this]
theorem contG (xs : List Gr) (x : Gr) : decide (0 ≤ fstI (isG x) xs) = decide (x ∈ xs) := by
 have : (0 ≤ fstI (isG x) xs) ↔ x ∈ xs := by
  rw [fstI_nn]
  constructor
  ·rintro ⟨y, hy, h⟩
   simp [isG] at h
   have : x = y := by cases x; cases y; simp_all
   subst this; exact hy
  ·intro h; exact ⟨x, h, by simp [isG]⟩
 simp [this]
def lineB (sec : Int) (l : Ln) : Int := if ok2 sec l = false then 2 else if ok3 l = false then 3 else if ok4 l = false then 4 else 0
theorem lineB_2 {sec : Int} {l : Ln} (h : ok2 sec l = false) : lineB sec l = 2 := by simp [lineB, h]
theorem lineB_3 {sec : Int} {l : Ln} (h : ok2 sec l = true) (h3 : ok3 l = false) : lineB sec l = 3 := by simp [lineB, h, h3]
theorem lineB_4 {sec : Int} {l : Ln} (h : ok2 sec l = true) (h3 : ok3 l = true) (h4 : ok4 l = false) : lineB sec l = 4 := by simp [lineB, h, h3, h4]
theorem lineB_0 {sec : Int} {l : Ln} (h : ok2 sec l = true) (h3 : ok3 l = true) (h4 : ok4 l = true) : lineB sec l = 0 := by simp [lineB, h, h3, h4]
/-- How far the reference's checks have come. -/
def stage (b : Bk) (i : Nat) : Prop := (1 ≤ i → b.lines.all (ok2 b.sec) = true) ∧ (2 ≤ i → b.lines.all ok3 = true) ∧ (3 ≤ i → b.lines.all ok4 = true)
theorem stage_hit {b : Bk} {i j : Nat} (h1 : ok1 b = true) (hs : stage b i) (hi : i < 3) (hj : j < b.lines.length) (h : lineB b.sec b.lines[j] = (i : Int) + 2) : bookOkB b = (i : Int) + 2 := by
 obtain ⟨s1, s2, s3⟩ := hs
 have hl : lineB b.sec b.lines[j] = 2 ∨ lineB b.sec b.lines[j] = 3 ∨ lineB b.sec b.lines[j] = 4 := by omega
 unfold lineB at h hl
 cases e2 : ok2 b.sec b.lines[j] with
 | false => rw [e2] at h; simp only [if_true] at h; rw [← h]; exact bookOkB_2 h1 (all_false_at hj e2)
 | true =>
  rw [e2] at h hl
  simp only [Bool.true_eq_false, if_false] at h hl
  cases e3 : ok3 b.lines[j] with
  | false => rw [e3] at h; simp only [if_true] at h; rw [← h]; exact bookOkB_3 h1 (s1 (by omega)) (all_false_at hj e3)
  | true =>
   rw [e3] at h hl
   simp only [Bool.true_eq_false, if_false] at h hl
   cases e4 : ok4 b.lines[j] with
   | false => rw [e4] at h; simp only [if_true] at h; rw [← h]; exact bookOkB_4 h1 (s1 (by omega)) (s2 (by omega)) (all_false_at hj e4)
   | true => rw [e4] at hl; simp at hl
theorem stage_next {b : Bk} {i : Nat} (hs : stage b i) (hi : i < 3) (h : ∀ j (hj : j < b.lines.length), lineB b.sec b.lines[j] ≠ (i : Int) + 2) : stage b (i + 1) := by
 obtain ⟨s1, s2, s3⟩ := hs
 have g2 : i = 0 → b.lines.all (ok2 b.sec) = true := fun e => all_true_at fun j hj => by
  cases e2 : ok2 b.sec b.lines[j] with
  | true => rfl
  | false => exact absurd (lineB_2 e2) (by have := h j hj; subst e; simpa using this)
 have g3 : i = 1 → b.lines.all ok3 = true := fun e => all_true_at fun j hj => by
  cases e3 : ok3 b.lines[j] with
  | true => rfl
  | false => exact absurd (lineB_3 (all_at (s1 (by omega)) hj) e3) (by have := h j hj; subst e; simpa using this)
 have g4 : i = 2 → b.lines.all ok4 = true := fun e => all_true_at fun j hj => by
  cases e4 : ok4 b.lines[j] with
  | true => rfl
  | false => exact absurd (lineB_4 (all_at (s1 (by omega)) hj) (all_at (s2 (by omega)) hj) e4) (by have := h j hj; subst e; simpa using this)
 refine ⟨fun _ => ?_, fun _ => ?_, fun _ => ?_⟩
 ·by_cases e : i = 0
  ·exact g2 e
  ·exact s1 (by omega)
 ·by_cases e : i = 1
  ·exact g3 e
  ·exact s2 (by omega)
 ·exact g4 (by omega)
def ownerB (b : Bk) (s : Int) : Int := if bookOkB b = 0 then ownB b.lines s else -1
def lnAt (b : Bk) (t : Int) : Ln := b.lines.getD t.toNat line0
def reachB (b : Bk) (t : Int) : Int := if bookOkB b = 0 ∧ inB t 0 ((b.lines.length : Int) - 1) = true then reachL (lnAt b t).grs else -1
def evOkB (b : Bk) (e : Evt) : Bool := decide (bookOkB b = 0) && (inB e.op 1 5 && (inB e.train 0 ((b.lines.length : Int) - 1) && (if e.op = 1 then inB e.n 0 (b.sec - 1) else inB e.n 0 1000000)))
theorem bookOk_sec {b : Bk} (h : bookOkB b = 0) : 1 ≤ b.sec ∧ b.sec ≤ 200 ∧ b.lines.length ≤ 20 ∧ b.ok = true := by
 have h1 : ok1 b = true := by
  cases e : ok1 b with
  | true => rfl
  | false => rw [bookOkB_1 e] at h; cases h
 simp only [ok1, inB, Bool.and_eq_true, decide_eq_true_eq] at h1
 exact ⟨h1.1.2.1, h1.1.2.2, h1.2, h1.1.1⟩
theorem bookOk_all {b : Bk} (h : bookOkB b = 0) : ok1 b = true ∧ b.lines.all (ok2 b.sec) = true ∧ b.lines.all ok3 = true ∧ b.lines.all ok4 = true ∧ (secs b.lines).Nodup := by
 unfold bookOkB at h
 split at h
 ·cases h
 ·split at h
  ·cases h
  ·split at h
   ·cases h
   ·split at h
    ·cases h
    ·split at h
     ·simp_all
     ·cases h
def lastG (l : Ln) : Gr := gAt l.grs (l.grs.length - 1)
/-- What is given back at once. -/
def settleL (l : Ln) : Ln :=
 if l.drop = -1 then l else
  let l1 : Ln := if maxI l.drop (reachL l.grs) < totL l then { l with way := l.way.take (maxI l.drop (reachL l.grs) - l.gone).toNat } else l
  if totL l1 ≤ l1.drop then { l1 with drop := -1 } else l1
/-- An event at a line: why it is not done (0: it is), and the line behind it. -/
def evLn (ls : List Ln) (l : Ln) (e : Evt) : Int × Ln :=
 if e.op = 1 then
  (if 0 ≤ ownB ls e.n then (2, l) else if l.drop ≠ -1 then (3, l) else if l.way.length = 100 ∨ totL l = 1000000 then (4, l) else (0, { l with way := l.way ++ [e.n] }))
 else if e.op = 2 then
  (if e.n < l.gone ∨ totL l < e.n ∨ (l.drop ≠ -1 ∧ l.drop < e.n) then (2, l) else if l.grs.length = 20 ∨ (lastG l).ver = 1000000 then (4, l) else (0, { l with grs := l.grs ++ [⟨(lastG l).ver + 1, e.n⟩] }))
 else if e.op = 3 then
  (if fstI (hasV e.n) l.grs < 0 then (2, l) else if reachL (l.grs.drop (fstI (hasV e.n) l.grs).toNat) < l.gone then (3, l) else (0, { l with grs := l.grs.drop (fstI (hasV e.n) l.grs).toNat }))
 else if e.op = 4 then
  (if e.n < l.gone ∨ reachL l.grs < e.n then (2, l) else (0, { l with way := l.way.drop (e.n - l.gone).toNat, gone := e.n, drop := if l.drop ≠ -1 ∧ l.drop < e.n then e.n else l.drop }))
 else
  (if e.n < l.gone ∨ totL l ≤ e.n then (2, l) else if e.n < (lastG l).cel then (3, l) else (0, { l with drop := e.n }))
def doV (b : Bk) (e : Evt) : Dn :=
 let r := evLn b.lines (lnAt b e.train) e
 if r.1 = 0 then ⟨0, { b with lines := b.lines.set e.train.toNat (settleL r.2) }⟩ else ⟨r.1, b⟩
def doB (b : Bk) (e : Evt) : Dn := if evOkB b e = true then doV b e else ⟨1, bk0⟩
theorem reachL_ge (gs : List Gr) (i : Nat) (h : i < gs.length) : gs[i].cel ≤ reachL gs ∧ 0 ≤ reachL gs := by
 have key : ∀ (l : List Gr) (a : Int), a ≤ l.foldl (fun n g => maxI n g.cel) a ∧ ∀ g, g ∈ l → g.cel ≤ l.foldl (fun n g => maxI n g.cel) a := by
  intro l
  induction l with
  | nil => intro a; exact ⟨Int.le_refl _, fun g hg => by simp at hg⟩
  | cons x l ih =>
   intro a
   obtain ⟨h1, h2⟩ := ih (maxI a x.cel)
   have : a ≤ maxI a x.cel ∧ x.cel ≤ maxI a x.cel := by unfold maxI; split <;> omega
   refine ⟨by simp only [List.foldl_cons]; omega, fun g hg => ?_⟩
   simp only [List.foldl_cons]
   rcases List.mem_cons.1 hg with rfl | hg
   ·omega
   ·exact h2 g hg
 exact ⟨(key gs 0).2 _ (List.getElem_mem h), (key gs 0).1⟩
theorem reachL_nn (gs : List Gr) : 0 ≤ reachL gs := by
 cases gs with
 | nil => simp [reachL]
 | cons g r => exact (reachL_ge (g :: r) 0 (by simp)).2
/-- The most of some leashes is one of them, or nothing. -/
theorem reachL_le {gs : List Gr} {m : Int} (h0 : 0 ≤ m) (h : ∀ g, g ∈ gs → g.cel ≤ m) : reachL gs ≤ m := by
 have key : ∀ (l : List Gr) (a : Int), a ≤ m → (∀ g, g ∈ l → g.cel ≤ m) → l.foldl (fun n g => maxI n g.cel) a ≤ m := by
  intro l
  induction l with
  | nil => intro a ha _; exact ha
  | cons x l ih =>
   intro a ha hl
   simp only [List.foldl_cons]
   refine ih _ ?_ fun g hg => hl g (by simp [hg])
   have := hl x (by simp)
   unfold maxI; split <;> omega
 exact key gs 0 h0 h
/-- What a right book says of a line. -/
structure LnOk (l : Ln) : Prop where
 g0 : 0 ≤ l.gone
 g1 : l.gone ≤ 1000000
 t1 : totL l ≤ 1000000
 w1 : l.way.length ≤ 100
 n0 : 1 ≤ l.grs.length
 n1 : l.grs.length ≤ 20
 gs : ∀ i (h : i < l.grs.length), 0 ≤ l.grs[i].cel ∧ l.grs[i].cel ≤ totL l ∧ 0 ≤ l.grs[i].ver ∧ l.grs[i].ver ≤ 1000000
 ch : ∀ i (h : i + 1 < l.grs.length), l.grs[i + 1].ver = (l.grs[i]'(by omega)).ver + 1
 rg : l.gone ≤ reachL l.grs
 dr : l.drop = -1 ∨ (l.gone ≤ l.drop ∧ l.drop < totL l ∧ (lastG l).cel ≤ l.drop ∧ totL l ≤ reachL l.grs)
theorem LnOk.of {sec : Int} {l : Ln} (h2 : ok2 sec l = true) (h3 : ok3 l = true) (h4 : ok4 l = true) : LnOk l := by
 obtain ⟨a1, a2, a3, a4, a5⟩ := ok2_in h2
 simp only [ok3, inB, Bool.and_eq_true, decide_eq_true_eq] at h3
 obtain ⟨⟨⟨b1, b2⟩, b3⟩, b4⟩ := h3
 rw [List.all_eq_true] at b3
 have hg : ∀ i (h : i < l.grs.length), gOk (totL l) l.grs i = true := fun i h => b3 i (List.mem_range.2 h)
 refine ⟨a1, a2, a4, a5, by omega, by omega, fun i h => ?_, fun i h => ?_, b4, ?_⟩
 ·have := hg i h
  simp only [gOk, gAt_eq h, inB, Bool.and_eq_true, decide_eq_true_eq] at this
  omega
 ·have := hg (i + 1) h
  simp only [gOk, gAt_eq h, Nat.add_sub_cancel, gAt_eq (show i < l.grs.length by omega), Bool.and_eq_true, Bool.or_eq_true, decide_eq_true_eq] at this
  rcases this.2 with h1 | h1
  ·omega
  ·exact h1
 ·simp only [ok4, inB, Bool.or_eq_true, Bool.and_eq_true, decide_eq_true_eq] at h4
  rcases h4 with h | ⟨⟨h, h'⟩, h''⟩
  ·exact .inl h
  ·exact .inr ⟨h.1, by omega, h', h''⟩
theorem bookOk_ln {b : Bk} (h : bookOkB b = 0) {i : Nat} (hi : i < b.lines.length) : LnOk b.lines[i] := by
 obtain ⟨_, h2, h3, h4, _⟩ := bookOk_all h
 exact LnOk.of (all_at h2 hi) (all_at h3 hi) (all_at h4 hi)
theorem LnOk.drop {l : Ln} (h : LnOk l) (hd : l.drop ≠ -1) : 0 ≤ l.drop := by
 rcases h.dr with e | e
 ·exact absurd e hd
 ·have := h.g0; omega
/-- A right line keeps what it has. -/
theorem LnOk.settle {l : Ln} (h : LnOk l) : settleL l = l := by
 unfold settleL
 rcases h.dr with e | ⟨_, d1, _, d2⟩
 ·rw [if_pos e]
 ·split
  ·rfl
  ·have : ¬ maxI l.drop (reachL l.grs) < totL l := by unfold maxI; split <;> omega
   rw [if_neg this]
   simp only
   rw [if_neg (by omega)]
/-- The versions go up by one: a version's place. -/
theorem LnOk.place {l : Ln} (h : LnOk l) (i : Nat) (hi : i < l.grs.length) : l.grs[i].ver = (gAt l.grs 0).ver + i := by
 have h0 := h.n0
 rw [gAt_eq (by omega)]
 induction i with
 | zero => simp
 | succ i ih => rw [h.ch i hi, ih (by omega)]; omega
theorem LnOk.find {l : Ln} (h : LnOk l) (n : Int) : fstI (hasV n) l.grs = if (gAt l.grs 0).ver ≤ n ∧ n < (gAt l.grs 0).ver + l.grs.length then n - (gAt l.grs 0).ver else -1 := by
 split
 ·rename_i hh
  have hi : (n - (gAt l.grs 0).ver).toNat < l.grs.length := by omega
  rw [fstI_some (i := (n - (gAt l.grs 0).ver).toNat) hi]
  ·omega
  ·simp only [hasV, decide_eq_true_eq, h.place _ hi]; omega
  ·intro j hj
   simp only [hasV, decide_eq_false_iff_not, h.place j (by omega)]; omega
 ·rename_i hh
  refine fstI_none fun j hj => ?_
  simp only [hasV, decide_eq_false_iff_not, h.place j hj]
  omega
theorem LnOk.reach {l : Ln} (h : LnOk l) : reachL l.grs ≤ totL l := reachL_le (by have := h.g0; unfold totL; omega) fun g hg => by
 obtain ⟨i, hi, rfl⟩ := List.getElem_of_mem hg
 exact (h.gs i hi).2.1
theorem reachL_drop (gs : List Gr) (k : Nat) : reachL (gs.drop k) ≤ reachL gs := reachL_le (reachL_nn gs) fun g hg => by
 obtain ⟨i, hi, rfl⟩ := List.getElem_of_mem (List.mem_of_mem_drop hg)
 exact (reachL_ge gs i hi).1
theorem reachL_app (gs : List Gr) (g : Gr) : reachL (gs ++ [g]) = maxI (reachL gs) g.cel := reachL_snoc gs g
/-- What an event that is done leaves is within bounds. -/
theorem evLn_b {ls : List Ln} {l l' : Ln} {e : Evt} (h : LnOk l) (hn : 0 ≤ e.n ∧ e.n ≤ 1000000) (he : evLn ls l e = (0, l')) :
  0 ≤ l'.gone ∧ l'.gone ≤ 1000000 ∧ l'.way.length ≤ 101 ∧ totL l' ≤ 1000001 ∧ (l'.drop = -1 ∨ (l'.gone ≤ l'.drop ∧ l'.drop ≤ 1000000)) ∧ 0 ≤ reachL l'.grs ∧ reachL l'.grs ≤ 1000000 := by
 have hr := h.reach
 have hr0 := reachL_nn l.grs
 have ht := h.t1
 have hg := h.g0
 have hw := h.w1
 have hd : l.drop = -1 ∨ (l.gone ≤ l.drop ∧ l.drop ≤ 1000000) := by
  rcases h.dr with e | e
  ·exact .inl e
  ·exact .inr ⟨e.1, by omega⟩
 have hg1 := h.g1
 have htd : totL l = l.gone + l.way.length := rfl
 unfold evLn at he
 split at he
 ·split at he
  ·simp at he
  ·split at he
   ·simp at he
   ·split at he
    ·simp at he
    ·simp only [Prod.mk.injEq, true_and] at he; subst he
     refine ⟨hg, hg1, by simp; omega, by simp [totL]; omega, hd, hr0, by simp only; omega⟩
 ·split at he
  ·split at he
   ·simp at he
   ·split at he
    ·simp at he
    ·rename_i h1 _
     simp only [Prod.mk.injEq, true_and] at he; subst he
     refine ⟨hg, hg1, by simp; omega, by simp only [totL] at ht ⊢; omega, hd, ?_, ?_⟩
     ·exact reachL_nn _
     ·simp only [reachL_app]; unfold maxI; split <;> omega
  ·split at he
   ·split at he
    ·simp at he
    ·split at he
     ·simp at he
     ·simp only [Prod.mk.injEq, true_and] at he; subst he
      have := reachL_drop l.grs (fstI (hasV e.n) l.grs).toNat
      refine ⟨hg, hg1, by simp; omega, by simp only [totL] at ht ⊢; omega, hd, reachL_nn _, by simp only; omega⟩
   ·split at he
    ·split at he
     ·simp at he
     ·rename_i h1
      simp only [Prod.mk.injEq, true_and] at he; subst he
      refine ⟨hn.1, hn.2, by simp; omega, ?_, ?_, hr0, by simp only; omega⟩
      ·simp only [totL, List.length_drop]; omega
      ·simp only
       split
       ·exact .inr ⟨by omega, by omega⟩
       ·rename_i h2
        rcases hd with e | e
        ·exact .inl e
        ·right; omega
    ·split at he
     ·simp at he
     ·split at he
      ·simp at he
      ·simp only [Prod.mk.injEq, true_and] at he; subst he
       refine ⟨hg, hg1, by simp; omega, by simp only [totL] at ht ⊢; omega, .inr ⟨by simp only; omega, hn.2⟩, hr0, by simp only; omega⟩
end Go.Proofs.YtpoedfmkiiijnaaDoorAm
namespace Go.Proofs.YtpoedfmkiiijnaaDoorAm
open Go Go.RowKit
set_option linter.unusedVariables false
set_option linter.unusedSimpArgs false

/-! ### stripped code -/
structure SOp where
 d : Option Tmp
 op : Op
 g : Option (Tmp × Bool)
 p : List Nat
inductive SC where
 | skip
 | ret
 | exit (id : Nat)
 | seq (a b : SC)
 | cond (c : Operand) (a b : SC)
 | loop (a : SC)
 | block (id : Nat) (a : SC)
 | reg (l : List SOp)
 | drw (m : Nat) (l : List SOp)

def dstB (N : Nat) : Option Tmp → Bool
 | some d => decide (d < N)
 | none => true
def gslot (ops : Array Oper) : Option (Nat × Bool) → Option (Option (Tmp × Bool))
 | none => some none
 | some (j, w) => ((ops[j]?).bind (·.dst)).map fun t => some (t, w)
def sop (N : Nat) (ops : Array Oper) (o : Oper) (p : List Nat) : Option SOp := if dstB N o.dst = true then (gslot ops o.guard).map fun g => ⟨o.dst, o.op, g, p⟩ else none
def sops (N : Nat) (ops : Array Oper) : List Oper → List (List Nat) → Option (List SOp)
 | [], _ => some []
 | o :: l, pr => match sop N ops o (pr.headD []), sops N ops l pr.tail with
  | some a, some r => some (a :: r)
  | _, _ => none
def prGo : List Oper → List (List Nat) → List (List Nat)
 | [], acc => acc
 | o :: l, acc => prGo l (acc ++ [((o.after.toList.filter (Region.binds .any)).flatMap fun e => e.on :: acc.getD e.on []).eraseDups])
def isNew : Op → Bool
 | .alloc _ | .box _ _ | .buildSlice _ _ _ | .makeSlice _ _ _ => true
 | _ => false
def stripC (N : Nat) : Code → Option SC
 | .skip => some .skip
 | .ret => some .ret
 | .exit id => some (.exit id)
 | .seq a b => match stripC N a, stripC N b with
  | some x, some y => some (.seq x y)
  | _, _ => none
 | .cond c a b => match stripC N a, stripC N b with
  | some x, some y => some (.cond c x y)
  | _, _ => none
 | .loop a => (stripC N a).map .loop
 | .block id a => (stripC N a).map (.block id)
 | .region _ ops false => (sops N ops ops.toList []).map .reg
 | .region _ ops true => if drawOk ops (prGo ops.toList []) = true then (sops N ops ops.toList (prGo ops.toList [])).map (.drw (ops.toList.filter fun o => isNew o.op).length) else none
 | _ => none

/-! ### combinators under which a walk does not look ahead -/
def bindP {α : Type} (x : Option α) (f : α → Prop) : Prop := match x with
 | some a => f a
 | none => False
theorem bindP.cong {α : Type} {x x' : Option α} {f : α → Prop} (h : ∀ _ : Unit, x = x') : bindP x f = bindP x' f := by rw [h ()]
@[simp] theorem bindP_some {α : Type} (a : α) (f : α → Prop) : bindP (some a) f = f a := rfl.trans rfl
@[simp] theorem bindP_none {α : Type} (f : α → Prop) : bindP none f = False := rfl.trans rfl
theorem bindP.el {α : Type} {x : Option α} {f : α → Prop} (h : bindP x f) : ∃ a, x = some a ∧ f a := by
 cases x with
 | none => exact h.elim
 | some a => exact ⟨a, rfl, h⟩
def iteP (w : Bool) (a b : Prop) : Prop := match w with
 | true => a
 | false => b
theorem iteP.cong {w w' : Bool} {a b : Prop} (h : ∀ _ : Unit, w = w') : iteP w a b = iteP w' a b := by rw [h ()]
@[simp] theorem iteP_t (a b : Prop) : iteP true a b = a := rfl.trans rfl
@[simp] theorem iteP_f (a b : Prop) : iteP false a b = b := rfl.trans rfl
def andP (a b : Prop) : Prop := a ∧ b
theorem andP.cong {a a' b : Prop} (h : ∀ _ : Unit, a = a') : andP a b = andP a' b := by rw [h ()]
def wantS (g : Option (Tmp × Bool)) (ts : List (Nat × Value)) : Option Bool :=
 match g with
 | none => some true
 | some (t, w) => match getT ts t with
  | some (.bool b) => some (b == w)
  | some (.tuple _) => some false
  | _ => none
@[simp] theorem wantS_n (ts : List (Nat × Value)) : wantS none ts = some true := rfl.trans rfl
@[simp] theorem wantS_s (t : Tmp) (w : Bool) (ts : List (Nat × Value)) : wantS (some (t, w)) ts = match getT ts t with
  | some (.bool b) => some (b == w)
  | some (.tuple _) => some false
  | _ => none := rfl.trans rfl

/-! ### one operation -/
def opS (P : Program) (C : Cx) (op : Op) (s : St) (K : Value → Heap → Prop) : Prop :=
 match op with
 | .load t x => bindP (evO s.ts x) fun a => bindP (ldA P s.H t a) fun v => K v s.H
 | .store t x y => bindP (evO s.ts x) fun a => bindP (evO s.ts y) fun v => bindP (stA P s.H t a v) fun r => andP (wr C.n0 C.D r.1) (K uV r.2)
 | .call { callee := .value fx, args := as, argTypes := _ } => bindP ((evO s.ts fx).bind fnV) fun r => bindP (evL (evO s.ts) as.toList) fun vs =>
   Ask P r.1 (vs ++ r.2) s.H fun v H' Dc => andP (wrL C.n0 C.D Dc) (K v H')
 | .call { callee := .builtin .append, args := as, argTypes := ts } => bindP (evL (evO s.ts) as.toList) fun vs => match vs with
  | [a, b] => bindP (apA P s.H ts.toList a b) fun r => andP (wrO C.n0 C.D r.1) (K r.2.1 r.2.2)
  | _ => False
 | .alloc t => bindP (newA P (evO s.ts) (.alloc t)) fun r => K (r.val s.H.length) (s.H ++ [⟨r.ty, r.cells, true, true⟩])
 | .box t x => bindP (newA P (evO s.ts) (.box t x)) fun r => K (r.val s.H.length) (s.H ++ [⟨r.ty, r.cells, true, true⟩])
 | .buildSlice t n ps => bindP (newA P (evO s.ts) (.buildSlice t n ps)) fun r => K (r.val s.H.length) (s.H ++ [⟨r.ty, r.cells, true, true⟩])
 | .makeSlice t l c => bindP (newA P (evO s.ts) (.makeSlice t l c)) fun r => K (r.val s.H.length) (s.H ++ [⟨r.ty, r.cells, true, true⟩])
 | .lookup t x y false => bindP (evO s.ts x) fun m => bindP (evO s.ts y) fun k => bindP (lookA P s.H t m k) fun v => K v s.H
 | .mapUpdate t x y z => bindP (evO s.ts x) fun m => bindP (evO s.ts y) fun k => bindP (evO s.ts z) fun v => bindP (mputA P s.H t m k v) fun r => andP (wr C.n0 C.D r.1) (K uV r.2)
 | .makeMap t none => K (.map (some s.H.length)) (s.H ++ [⟨t, [], true, false⟩])
 | .convert t u x => bindP ((pureOp P (evO s.ts) (.convert t u x)).or ((evO s.ts x).bind (cvA P s.H t u))) fun v => K v s.H
 | op => bindP (pureOp P (evO s.ts) op) fun v => K v s.H
theorem opS.cong {P : Program} {C : Cx} {op : Op} {s s' : St} {K : Value → Heap → Prop} (h : ∀ _ : Unit, s = s') : opS P C op s K = opS P C op s' K := by rw [h ()]
theorem evL_len {ρ : Operand → Option Value} : ∀ {l : List Operand} {vs : List Value}, evL ρ l = some vs → l.length = vs.length
 | [], vs, h => by cases h; rfl
 | x :: r, vs, h => by
  simp only [evL] at h
  split at h
  ·rename_i v l h1 h2; cases h; simp [evL_len h2]
  ·cases h
theorem evL2 {ρ : Operand → Option Value} {l : List Operand} {a b : Value} (h : evL ρ l = some [a, b]) : ∃ x y, l = [x, y] ∧ ρ x = some a ∧ ρ y = some b := by
 have hl := evL_len h
 match l, hl, h with
 | [x, y], _, h =>
  simp only [evL] at h
  cases hx : ρ x with
  | none => rw [hx] at h; cases hy : ρ y <;> simp [hy] at h
  | some u =>
   cases hy : ρ y with
   | none => rw [hx, hy] at h; simp at h
   | some w => rw [hx, hy] at h; simp at h; exact ⟨x, y, rfl, by rw [hx, h.1], by rw [hy, h.2]⟩
theorem opS_SE {P : Program} {C : Cx} {o : Oper} {s : St} {K : Value → Heap → Prop} (h : opS P C o.op s K) : ∃ k v H' T, SE P C o s k v H' T ∧ K v H' := by
 obtain ⟨dst, op, type, pos, after, guard⟩ := o
 unfold opS at h
 simp only at h
 split at h
 ·obtain ⟨a, h1, h⟩ := h.el; obtain ⟨v, h2, h⟩ := h.el; exact ⟨_, _, _, _, .load rfl h1 h2, h⟩
 ·obtain ⟨a, h1, h⟩ := h.el; obtain ⟨v, h2, h⟩ := h.el; obtain ⟨r, h3, h⟩ := h.el; exact ⟨_, _, _, _, .store rfl h1 h2 h3 h.1, h.2⟩
 ·obtain ⟨r, h1, h⟩ := h.el; obtain ⟨vs, h2, h⟩ := h.el
  obtain ⟨v, H', Dc, h3, h4, h5⟩ := h
  obtain ⟨u, hu, hf⟩ := Option.bind_eq_some_iff.1 h1
  obtain ⟨cap, rfl, hcap⟩ := fnV_eq hf
  rw [← hcap] at h3
  exact ⟨_, _, _, _, .call rfl hu h2 h3 h4, h5⟩
 ·obtain ⟨vs, h1, h⟩ := h.el
  split at h
  ·rename_i a b
   obtain ⟨x, y, hxy, hx, hy⟩ := evL2 h1
   obtain ⟨r, h3, h⟩ := h.el
   exact ⟨_, _, _, _, .append rfl hxy hx hy h3 h.1, h.2⟩
  ·exact h.elim
 ·obtain ⟨r, h1, h⟩ := h.el; exact ⟨_, _, _, _, .new h1, h⟩
 ·obtain ⟨r, h1, h⟩ := h.el; exact ⟨_, _, _, _, .new h1, h⟩
 ·obtain ⟨r, h1, h⟩ := h.el; exact ⟨_, _, _, _, .new h1, h⟩
 ·obtain ⟨r, h1, h⟩ := h.el; exact ⟨_, _, _, _, .new h1, h⟩
 ·obtain ⟨m, h1, h⟩ := h.el; obtain ⟨k, h2, h⟩ := h.el; obtain ⟨v, h3, h⟩ := h.el; exact ⟨_, _, _, _, .look rfl h1 h2 h3, h⟩
 ·obtain ⟨m, h1, h⟩ := h.el; obtain ⟨k, h2, h⟩ := h.el; obtain ⟨v, h3, h⟩ := h.el; obtain ⟨r, h4, h⟩ := h.el; exact ⟨_, _, _, _, .mput rfl h1 h2 h3 h4 h.1, h.2⟩
 ·exact ⟨_, _, _, _, .mnew rfl, h⟩
 ·obtain ⟨v, h1, h⟩ := h.el
  generalize hq : pureOp P (evO s.ts) (.convert _ _ _) = q at h1
  cases q with
  | some r => cases h1; exact ⟨_, _, _, _, .pure hq, h⟩
  | none =>
   simp only [Option.none_or] at h1
   obtain ⟨a, ha, hv⟩ := Option.bind_eq_some_iff.1 h1
   exact ⟨_, _, _, _, .conv rfl ha hv, h⟩
 ·obtain ⟨v, h1, h⟩ := h.el; exact ⟨_, _, _, _, .pure h1, h⟩

/-! ### a region -/
def opsS (P : Program) (C : Cx) : List SOp → St → (St → Prop) → Prop
 | [], s, K => K s
 | o :: l, s, K => bindP (wantS o.g s.ts) fun w => iteP w (opS P C o.op s fun v H' => opsS P C l ⟨putT o.d v s.ts, H'⟩ K) (opsS P C l ⟨putT o.d uV s.ts, s.H⟩ K)
theorem opsS.cong {P : Program} {C : Cx} {l : List SOp} {s s' : St} {K : St → Prop} (h : ∀ _ : Unit, s = s') : opsS P C l s K = opsS P C l s' K := by rw [h ()]
theorem sop_dst {N : Nat} {ops : Array Oper} {o : Oper} {p : List Nat} {a : SOp} (h : sop N ops o p = some a) : dstOk N o.dst ∧ a.d = o.dst ∧ a.op = o.op ∧ a.p = p ∧ ∀ ts, wantedA ops o ts = wantS a.g ts := by
 unfold sop at h
 split at h
 ·rename_i hd
  obtain ⟨g, hg, rfl⟩ := Option.map_eq_some_iff.1 h
  refine ⟨?_, rfl, rfl, rfl, fun ts => ?_⟩
  ·unfold dstOk; unfold dstB at hd
   cases e : o.dst with
   | none => trivial
   | some d => rw [e] at hd; simpa using hd
  ·unfold wantedA
   unfold gslot at hg
   cases e : o.guard with
   | none => rw [e] at hg; cases hg; rfl
   | some q =>
    obtain ⟨j, w⟩ := q
    rw [e] at hg
    simp only at hg
    obtain ⟨t, ht, hgt⟩ := Option.map_eq_some_iff.1 hg
    subst hgt
    simp only [ht, Option.bind_some]
    rfl
 ·cases h
theorem opsS_Ev {P : Program} {C : Cx} {ops : Array Oper} : ∀ {l : List Oper} {pr : List (List Nat)} {q : List SOp} {s : St} {K : St → Prop}, sops C.N ops l pr = some q → opsS P C q s K → ∃ s', OpsEv P C ops l s s' ∧ K s'
 | [], pr, q, s, K, hq, h => by cases hq; exact ⟨s, .nil s, h⟩
 | o :: l, pr, q, s, K, hq, h => by
  simp only [sops] at hq
  split at hq
  ·rename_i a r h1 h2
   cases hq
   obtain ⟨d1, d2, d3, d4, d5⟩ := sop_dst h1
   unfold opsS at h
   obtain ⟨w, hw, h⟩ := h.el
   rw [d2, d3] at h
   cases w with
   | true =>
    simp only [iteP_t] at h
    obtain ⟨k, v, H', T, h3, h4⟩ := opS_SE h
    obtain ⟨s', h5, h6⟩ := opsS_Ev h2 h4
    exact ⟨s', .go (by rw [d5]; exact hw) d1 h3 h5, h6⟩
   | false =>
    simp only [iteP_f] at h
    obtain ⟨s', h5, h6⟩ := opsS_Ev h2 h
    exact ⟨s', .skip (by rw [d5]; exact hw) d1 h5, h6⟩
  ·cases hq

/-! ### a region that draws its order -/
def chkBS (P : Program) (p : List Nat) (t : TypeId) (a v : Value) : List (Nat × HE) → Prop
 | [] => True
 | (e, .eff H) :: r => iteP (p.contains e) (chkBS P p t a v r) (ldA P H t a = some v ∧ chkBS P p t a v r)
 | (_, .load _ _ _) :: r => chkBS P p t a v r
 | (_, .new _) :: r => chkBS P p t a v r
theorem chkBS_eq (P : Program) (p : List Nat) (t : TypeId) (a v : Value) : ∀ l, chkBS P p t a v l = chkB P p t a v l
 | [] => rfl
 | (e, .eff H) :: r => by simp only [chkBS, chkB, chkBS_eq P p t a v r]; cases p.contains e <;> rfl
 | (_, .load _ _ _) :: r => chkBS_eq P p t a v r
 | (_, .new _) :: r => chkBS_eq P p t a v r
def chkAS (P : Program) (p : List Nat) (H H' : Heap) : List (Nat × HE) → Prop
 | [] => True
 | (_, .eff _) :: r => chkAS P p H H' r
 | (j, .load t a v) :: r => iteP (p.contains j) (chkAS P p H H' r) (ldA P H' t a = some v ∧ chkAS P p H H' r)
 | (j, .new id) :: r => iteP (p.contains j) (chkAS P p H H' r) (H'[id]? = H[id]? ∧ chkAS P p H H' r)
theorem chkAS_eq (P : Program) (p : List Nat) (H H' : Heap) : ∀ l, chkAS P p H H' l = chkA P p H H' l
 | [] => rfl
 | (_, .eff _) :: r => chkAS_eq P p H H' r
 | (j, .load t a v) :: r => by simp only [chkAS, chkA, chkAS_eq P p H H' r]; cases p.contains j <;> rfl
 | (j, .new id) :: r => by simp only [chkAS, chkA, chkAS_eq P p H H' r]; cases p.contains j <;> rfl
attribute [simp] chkBS chkAS pendD
abbrev DK := Value → Heap → Nat → List (Nat × HE) → Prop
def drwO (P : Program) (C : Cx) (base m : Nat) (p : List Nat) (i cnt : Nat) (hist : List (Nat × HE)) (op : Op) (s : St) (K : DK) : Prop :=
 match op with
 | .load t x => bindP (evO s.ts x) fun a => bindP (ldA P s.H t a) fun v => andP (chkBS P p t a v hist) (K v s.H cnt ((i, .load t a v) :: hist))
 | .store t x y => bindP (evO s.ts x) fun a => bindP (evO s.ts y) fun v => bindP (stA P s.H t a v) fun r =>
   andP (wr C.n0 C.D r.1) (andP (chkAS P p s.H r.2 hist) (andP (pendD r.2 (base + cnt) (m - cnt)) (K uV r.2 cnt ((i, .eff s.H) :: hist))))
 | .call { callee := .value fx, args := as, argTypes := _ } => bindP ((evO s.ts fx).bind fnV) fun r => bindP (evL (evO s.ts) as.toList) fun vs =>
   Ask P r.1 (vs ++ r.2) s.H fun v H' Dc => andP (wrL C.n0 C.D Dc) (andP (liveL s.H Dc) (andP (s.H.length ≤ H'.length) (andP (chkAS P p s.H H' hist) (andP (pendD H' (base + cnt) (m - cnt)) (K v H' cnt ((i, .eff s.H) :: hist))))))
 | .call { callee := .builtin .append, args := as, argTypes := ts } => bindP (evL (evO s.ts) as.toList) fun vs => match vs with
  | [a, b] => bindP (apA P s.H ts.toList a b) fun r => andP (wrO C.n0 C.D r.1) (andP (liveO s.H r.1) (andP (chkAS P p s.H r.2.2 hist) (andP (pendD r.2.2 (base + cnt) (m - cnt)) (K r.2.1 r.2.2 cnt ((i, .eff s.H) :: hist)))))
  | _ => False
 | .alloc t => bindP (newA P (evO s.ts) (.alloc t)) fun r => andP (cnt < m) (K (r.val (base + cnt)) (s.H.set (base + cnt) ⟨r.ty, r.cells, true, true⟩) (cnt + 1) ((i, .new (base + cnt)) :: hist))
 | .box t x => bindP (newA P (evO s.ts) (.box t x)) fun r => andP (cnt < m) (K (r.val (base + cnt)) (s.H.set (base + cnt) ⟨r.ty, r.cells, true, true⟩) (cnt + 1) ((i, .new (base + cnt)) :: hist))
 | .buildSlice t n ps => bindP (newA P (evO s.ts) (.buildSlice t n ps)) fun r => andP (cnt < m) (K (r.val (base + cnt)) (s.H.set (base + cnt) ⟨r.ty, r.cells, true, true⟩) (cnt + 1) ((i, .new (base + cnt)) :: hist))
 | .makeSlice t l c => bindP (newA P (evO s.ts) (.makeSlice t l c)) fun r => andP (cnt < m) (K (r.val (base + cnt)) (s.H.set (base + cnt) ⟨r.ty, r.cells, true, true⟩) (cnt + 1) ((i, .new (base + cnt)) :: hist))
 | op => bindP (pureOp P (evO s.ts) op) fun v => K v s.H cnt hist
theorem drwO.cong {P : Program} {C : Cx} {base m : Nat} {p : List Nat} {i cnt cnt' : Nat} {hist : List (Nat × HE)} {op : Op} {s s' : St} {K : DK} (h : ∀ _ : Unit, s = s') (h' : ∀ _ : Unit, cnt = cnt') : drwO P C base m p i cnt hist op s K = drwO P C base m p i cnt' hist op s' K := by rw [h (), h' ()]
def drwS (P : Program) (C : Cx) (base m : Nat) : List SOp → Nat → Nat → List (Nat × HE) → St → (St → Prop) → Prop
 | [], _, _, _, s, K => K s
 | o :: l, i, cnt, hist, s, K => bindP (wantS o.g s.ts) fun w => iteP w (drwO P C base m o.p i cnt hist o.op s fun v H' cnt' hist' => drwS P C base m l (i + 1) cnt' hist' ⟨putT o.d v s.ts, H'⟩ K) (drwS P C base m l (i + 1) cnt hist ⟨putT o.d uV s.ts, s.H⟩ K)
theorem drwS.cong {P : Program} {C : Cx} {base m : Nat} {l : List SOp} {i i' cnt cnt' : Nat} {hist : List (Nat × HE)} {s s' : St} {K : St → Prop} (h : ∀ _ : Unit, s = s') (h1 : ∀ _ : Unit, i = i') (h2 : ∀ _ : Unit, cnt = cnt') : drwS P C base m l i cnt hist s K = drwS P C base m l i' cnt' hist s' K := by rw [h (), h1 (), h2 ()]
/-! ### the same, without functions of what is to come: a walk's terms are data -/
structure Ct where
 d : Option Tmp
 l : List SOp
 ts : List (Nat × Value)
 K : St → Prop
section
variable (P : Program) (C : Cx)
def runX (k : Ct) (v : Value) (H : Heap) : Prop := opsS P C k.l ⟨putT k.d v k.ts, H⟩ k.K
def opX (op : Op) (s : St) (k : Ct) : Prop := opS P C op s (runX P C k)
def stepW (w : Option Bool) (op : Op) (s : St) (k : Ct) : Prop := bindP w fun w => iteP w (opX P C op s k) (runX P C k uV s.H)
def valX (H : Heap) (o : Option Value) (k : Ct) : Prop := bindP o fun v => runX P C k v H
def ldX (H : Heap) (t : TypeId) (o : Option Value) (k : Ct) : Prop := bindP o fun a => valX P C H (ldA P H t a) k
def stX (r : Option (Nat × Heap)) (k : Ct) : Prop := bindP r fun r => wr C.n0 C.D r.1 ∧ runX P C k uV r.2
def stY (H : Heap) (t : TypeId) (a v : Option Value) (k : Ct) : Prop := bindP a fun a => bindP v fun v => stX P C (stA P H t a v) k
def AskX (f : FuncId) (args : List Value) (H : Heap) (k : Ct) : Prop := Ask P f args H fun v H' Dc => wrL C.n0 C.D Dc ∧ runX P C k v H'
def callX (H : Heap) (r : Option (FuncId × List Value)) (vs : Option (List Value)) (k : Ct) : Prop := bindP r fun r => bindP vs fun vs => AskX P C r.1 (vs ++ r.2) H k
def apY (r : Option (Option Nat × Value × Heap)) (k : Ct) : Prop := bindP r fun r => wrO C.n0 C.D r.1 ∧ runX P C k r.2.1 r.2.2
def apX (H : Heap) (ts : List TypeId) (vs : Option (List Value)) (k : Ct) : Prop := bindP vs fun vs => match vs with
  | [a, b] => apY P C (apA P H ts a b) k
  | _ => False
def newX (H : Heap) (r : Option NewR) (k : Ct) : Prop := bindP r fun r => runX P C k (r.val H.length) (H ++ [⟨r.ty, r.cells, true, true⟩])
def lookX (H : Heap) (t : TypeId) (m x : Option Value) (k : Ct) : Prop := bindP m fun m => bindP x fun x => valX P C H (lookA P H t m x) k
def mputX (H : Heap) (t : TypeId) (m x v : Option Value) (k : Ct) : Prop := bindP m fun m => bindP x fun x => bindP v fun v => stX P C (mputA P H t m x v) k
variable (s : St) (K : St → Prop) (k : Ct) (H : Heap)
@[simp] theorem opsX_nil : opsS P C [] s K = K s := rfl.trans rfl
@[simp] theorem opsX_cons (d op g p) (l : List SOp) : opsS P C (⟨d, op, g, p⟩ :: l) s K = stepW P C (wantS g s.ts) op s ⟨d, l, s.ts, K⟩ := rfl.trans rfl
@[simp] theorem runX_mk (d l ts K v H) : runX P C ⟨d, l, ts, K⟩ v H = opsS P C l ⟨putT d v ts, H⟩ K := rfl.trans rfl
@[simp] theorem stepW_t (op) : stepW P C (some true) op s k = opX P C op s k := rfl.trans rfl
@[simp] theorem stepW_f (op) : stepW P C (some false) op s k = runX P C k uV s.H := rfl.trans rfl
@[simp] theorem valX_some (v) : valX P C H (some v) k = runX P C k v H := rfl.trans rfl
@[simp] theorem ldX_some (t a) : ldX P C H t (some a) k = valX P C H (ldA P H t a) k := rfl.trans rfl
@[simp] theorem stX_some (id H') : stX P C (some (id, H')) k = (wr C.n0 C.D id ∧ runX P C k uV H') := rfl.trans rfl
@[simp] theorem stY_some (t a v) : stY P C H t (some a) (some v) k = stX P C (stA P H t a v) k := rfl.trans rfl
@[simp] theorem callX_some (f cap vs) : callX P C H (some (f, cap)) (some vs) k = AskX P C f (vs ++ cap) H k := rfl.trans rfl
@[simp] theorem apY_some (i v H') : apY P C (some (i, v, H')) k = (wrO C.n0 C.D i ∧ runX P C k v H') := rfl.trans rfl
@[simp] theorem apX_some (ts a b) : apX P C H ts (some [a, b]) k = apY P C (apA P H ts a b) k := rfl.trans rfl
@[simp] theorem newX_some (ty cs f) : newX P C H (some ⟨ty, cs, f⟩) k = runX P C k (f H.length) (H ++ [⟨ty, cs, true, true⟩]) := rfl.trans rfl
@[simp] theorem lookX_some (t m x) : lookX P C H t (some m) (some x) k = valX P C H (lookA P H t m x) k := rfl.trans rfl
@[simp] theorem mputX_some (t m x v) : mputX P C H t (some m) (some x) (some v) k = stX P C (mputA P H t m x v) k := rfl.trans rfl
theorem AskX.go {P : Program} {C : Cx} {f : FuncId} {args : List Value} {H H' : Heap} {v : Value} {Dc : List Nat} {k : Ct} (h : AC P f args H v H' Dc) (hk : wrL C.n0 C.D Dc ∧ runX P C k v H') : AskX P C f args H k := ⟨v, H', Dc, h, hk⟩
@[simp] theorem opX_load (t x) : opX P C (.load t x) s k = ldX P C s.H t (evO s.ts x) k := rfl.trans rfl
@[simp] theorem opX_store (t x y) : opX P C (.store t x y) s k = stY P C s.H t (evO s.ts x) (evO s.ts y) k := rfl.trans rfl
@[simp] theorem opX_call (fx as ts) : opX P C (.call { callee := .value fx, args := as, argTypes := ts }) s k = callX P C s.H ((evO s.ts fx).bind fnV) (evL (evO s.ts) as.toList) k := rfl.trans rfl
@[simp] theorem opX_append (as ts) : opX P C (.call { callee := .builtin .append, args := as, argTypes := ts }) s k = apX P C s.H ts.toList (evL (evO s.ts) as.toList) k := rfl.trans rfl
@[simp] theorem opX_alloc (t) : opX P C (.alloc t) s k = newX P C s.H (newA P (evO s.ts) (.alloc t)) k := rfl.trans rfl
@[simp] theorem opX_box (t x) : opX P C (.box t x) s k = newX P C s.H (newA P (evO s.ts) (.box t x)) k := rfl.trans rfl
@[simp] theorem opX_buildSlice (t n ps) : opX P C (.buildSlice t n ps) s k = newX P C s.H (newA P (evO s.ts) (.buildSlice t n ps)) k := rfl.trans rfl
@[simp] theorem opX_makeSlice (t l c) : opX P C (.makeSlice t l c) s k = newX P C s.H (newA P (evO s.ts) (.makeSlice t l c)) k := rfl.trans rfl
@[simp] theorem opX_lookup (t x y) : opX P C (.lookup t x y false) s k = lookX P C s.H t (evO s.ts x) (evO s.ts y) k := rfl.trans rfl
@[simp] theorem opX_mapUpdate (t x y z) : opX P C (.mapUpdate t x y z) s k = mputX P C s.H t (evO s.ts x) (evO s.ts y) (evO s.ts z) k := rfl.trans rfl
@[simp] theorem opX_makeMap (t) : opX P C (.makeMap t none) s k = runX P C k (.map (some s.H.length)) (s.H ++ [⟨t, [], true, false⟩]) := rfl.trans rfl
@[simp] theorem opX_move (x) : opX P C (.move x) s k = valX P C s.H (evO s.ts x) k := rfl.trans rfl
@[simp] theorem opX_assign (x) : opX P C (.assign x) s k = valX P C s.H (evO s.ts x) k := rfl.trans rfl
@[simp] theorem opX_pick (c a b) : opX P C (.pick c a b) s k = valX P C s.H (pureOp P (evO s.ts) (.pick c a b)) k := rfl.trans rfl
@[simp] theorem opX_build (t ps) : opX P C (.build t ps) s k = valX P C s.H (pureOp P (evO s.ts) (.build t ps)) k := rfl.trans rfl
@[simp] theorem opX_nilCheck (x) : opX P C (.nilCheck x) s k = valX P C s.H (pureOp P (evO s.ts) (.nilCheck x)) k := rfl.trans rfl
@[simp] theorem opX_binOp (o t x y z) : opX P C (.binOp o t x y z) s k = valX P C s.H (pureOp P (evO s.ts) (.binOp o t x y z)) k := rfl.trans rfl
@[simp] theorem opX_unOp (o t x) : opX P C (.unOp o t x) s k = valX P C s.H (pureOp P (evO s.ts) (.unOp o t x)) k := rfl.trans rfl
@[simp] theorem opX_convert (a b x) : opX P C (.convert a b x) s k = valX P C s.H ((pureOp P (evO s.ts) (.convert a b x)).or ((evO s.ts x).bind (cvA P s.H a b))) k := rfl.trans rfl
@[simp] theorem opX_slice (t x a b c) : opX P C (.slice t x a b c) s k = valX P C s.H (pureOp P (evO s.ts) (.slice t x a b c)) k := rfl.trans rfl
@[simp] theorem opX_fieldAddr (t x f) : opX P C (.fieldAddr t x f) s k = valX P C s.H (pureOp P (evO s.ts) (.fieldAddr t x f)) k := rfl.trans rfl
@[simp] theorem opX_field (t x f) : opX P C (.field t x f) s k = valX P C s.H (pureOp P (evO s.ts) (.field t x f)) k := rfl.trans rfl
@[simp] theorem opX_indexAddr (t x j) : opX P C (.indexAddr t x j) s k = valX P C s.H (pureOp P (evO s.ts) (.indexAddr t x j)) k := rfl.trans rfl
@[simp] theorem opX_makeFunc (f a b) : opX P C (.makeFunc f a b) s k = valX P C s.H (pureOp P (evO s.ts) (.makeFunc f a b)) k := rfl.trans rfl
@[simp] theorem opX_extract (x j) : opX P C (.extract x j) s k = valX P C s.H (pureOp P (evO s.ts) (.extract x j)) k := rfl.trans rfl
@[simp] theorem opX_len (as ts) : opX P C (.call { callee := .builtin .len, args := as, argTypes := ts }) s k = valX P C s.H (pureOp P (evO s.ts) (.call { callee := .builtin .len, args := as, argTypes := ts })) k := rfl.trans rfl
@[simp] theorem opX_max (as ts) : opX P C (.call { callee := .builtin .max, args := as, argTypes := ts }) s k = valX P C s.H (pureOp P (evO s.ts) (.call { callee := .builtin .max, args := as, argTypes := ts })) k := rfl.trans rfl
end

structure Dt where
 d : Option Tmp
 l : List SOp
 i : Nat
 base : Nat
 m : Nat
 p : List Nat
 cnt : Nat
 hist : List (Nat × HE)
 ts : List (Nat × Value)
 K : St → Prop
section
variable (P : Program) (C : Cx)
def dRun (k : Dt) (v : Value) (H : Heap) (cnt : Nat) (hist : List (Nat × HE)) : Prop := drwS P C k.base k.m k.l (k.i + 1) cnt hist ⟨putT k.d v k.ts, H⟩ k.K
def opD (op : Op) (s : St) (k : Dt) : Prop := drwO P C k.base k.m k.p k.i k.cnt k.hist op s (dRun P C k)
def dStep (w : Option Bool) (op : Op) (s : St) (k : Dt) : Prop := bindP w fun w => iteP w (opD P C op s k) (dRun P C k uV s.H k.cnt k.hist)
def valD (H : Heap) (o : Option Value) (k : Dt) : Prop := bindP o fun v => dRun P C k v H k.cnt k.hist
def ldE (H : Heap) (t : TypeId) (a : Value) (o : Option Value) (k : Dt) : Prop := bindP o fun v => chkBS P k.p t a v k.hist ∧ dRun P C k v H k.cnt ((k.i, .load t a v) :: k.hist)
def ldD (H : Heap) (t : TypeId) (o : Option Value) (k : Dt) : Prop := bindP o fun a => ldE P C H t a (ldA P H t a) k
def stD (H : Heap) (r : Option (Nat × Heap)) (k : Dt) : Prop := bindP r fun r => wr C.n0 C.D r.1 ∧ chkAS P k.p H r.2 k.hist ∧ pendD r.2 (k.base + k.cnt) (k.m - k.cnt) ∧ dRun P C k uV r.2 k.cnt ((k.i, .eff H) :: k.hist)
def stE (H : Heap) (t : TypeId) (a v : Option Value) (k : Dt) : Prop := bindP a fun a => bindP v fun v => stD P C H (stA P H t a v) k
def AskD (f : FuncId) (args : List Value) (H : Heap) (k : Dt) : Prop := Ask P f args H fun v H' Dc => wrL C.n0 C.D Dc ∧ liveL H Dc ∧ H.length ≤ H'.length ∧ chkAS P k.p H H' k.hist ∧ pendD H' (k.base + k.cnt) (k.m - k.cnt) ∧ dRun P C k v H' k.cnt ((k.i, .eff H) :: k.hist)
def callD (H : Heap) (r : Option (FuncId × List Value)) (vs : Option (List Value)) (k : Dt) : Prop := bindP r fun r => bindP vs fun vs => AskD P C r.1 (vs ++ r.2) H k
def apE (H : Heap) (r : Option (Option Nat × Value × Heap)) (k : Dt) : Prop := bindP r fun r => wrO C.n0 C.D r.1 ∧ liveO H r.1 ∧ chkAS P k.p H r.2.2 k.hist ∧ pendD r.2.2 (k.base + k.cnt) (k.m - k.cnt) ∧ dRun P C k r.2.1 r.2.2 k.cnt ((k.i, .eff H) :: k.hist)
def apD (H : Heap) (ts : List TypeId) (vs : Option (List Value)) (k : Dt) : Prop := bindP vs fun vs => match vs with
  | [a, b] => apE P C H (apA P H ts a b) k
  | _ => False
def newD (H : Heap) (r : Option NewR) (k : Dt) : Prop := bindP r fun r => k.cnt < k.m ∧ dRun P C k (r.val (k.base + k.cnt)) (H.set (k.base + k.cnt) ⟨r.ty, r.cells, true, true⟩) (k.cnt + 1) ((k.i, .new (k.base + k.cnt)) :: k.hist)
variable (s : St) (K : St → Prop) (k : Dt) (H : Heap)
variable (d : Option Tmp) (l : List SOp) (i base m : Nat) (p : List Nat) (cnt : Nat) (hist : List (Nat × HE)) (ts : List (Nat × Value))
@[simp] theorem drwD_nil : drwS P C base m [] i cnt hist s K = K s := rfl.trans rfl
@[simp] theorem drwD_cons (op g) : drwS P C base m (⟨d, op, g, p⟩ :: l) i cnt hist s K = dStep P C (wantS g s.ts) op s ⟨d, l, i, base, m, p, cnt, hist, s.ts, K⟩ := rfl.trans rfl
@[simp] theorem dRun_mk (v H c h) : dRun P C ⟨d, l, i, base, m, p, cnt, hist, ts, K⟩ v H c h = drwS P C base m l (i + 1) c h ⟨putT d v ts, H⟩ K := rfl.trans rfl
@[simp] theorem dStep_t (op) : dStep P C (some true) op s k = opD P C op s k := rfl.trans rfl
@[simp] theorem dStep_f (op) : dStep P C (some false) op s k = dRun P C k uV s.H k.cnt k.hist := rfl.trans rfl
@[simp] theorem valD_some (v) : valD P C H (some v) k = dRun P C k v H k.cnt k.hist := rfl.trans rfl
@[simp] theorem ldD_some (t a) : ldD P C H t (some a) k = ldE P C H t a (ldA P H t a) k := rfl.trans rfl
@[simp] theorem ldE_some (t a v) : ldE P C H t a (some v) k = (chkBS P k.p t a v k.hist ∧ dRun P C k v H k.cnt ((k.i, .load t a v) :: k.hist)) := rfl.trans rfl
@[simp] theorem stE_some (t a v) : stE P C H t (some a) (some v) k = stD P C H (stA P H t a v) k := rfl.trans rfl
@[simp] theorem stD_some (id H') : stD P C H (some (id, H')) k = (wr C.n0 C.D id ∧ chkAS P k.p H H' k.hist ∧ pendD H' (k.base + k.cnt) (k.m - k.cnt) ∧ dRun P C k uV H' k.cnt ((k.i, .eff H) :: k.hist)) := rfl.trans rfl
@[simp] theorem callD_some (f cap vs) : callD P C H (some (f, cap)) (some vs) k = AskD P C f (vs ++ cap) H k := rfl.trans rfl
@[simp] theorem apE_some (j v H') : apE P C H (some (j, v, H')) k = (wrO C.n0 C.D j ∧ liveO H j ∧ chkAS P k.p H H' k.hist ∧ pendD H' (k.base + k.cnt) (k.m - k.cnt) ∧ dRun P C k v H' k.cnt ((k.i, .eff H) :: k.hist)) := rfl.trans rfl
@[simp] theorem apD_some (ts a b) : apD P C H ts (some [a, b]) k = apE P C H (apA P H ts a b) k := rfl.trans rfl
@[simp] theorem newD_some (ty cs f) : newD P C H (some ⟨ty, cs, f⟩) k = (k.cnt < k.m ∧ dRun P C k (f (k.base + k.cnt)) (H.set (k.base + k.cnt) ⟨ty, cs, true, true⟩) (k.cnt + 1) ((k.i, .new (k.base + k.cnt)) :: k.hist)) := rfl.trans rfl
theorem AskD.go {P : Program} {C : Cx} {f : FuncId} {args : List Value} {H H' : Heap} {v : Value} {Dc : List Nat} {k : Dt} (h : AC P f args H v H' Dc)
  (hk : wrL C.n0 C.D Dc ∧ liveL H Dc ∧ H.length ≤ H'.length ∧ chkAS P k.p H H' k.hist ∧ pendD H' (k.base + k.cnt) (k.m - k.cnt) ∧ dRun P C k v H' k.cnt ((k.i, .eff H) :: k.hist)) : AskD P C f args H k := ⟨v, H', Dc, h, hk⟩
@[simp] theorem opD_load (t x) : opD P C (.load t x) s k = ldD P C s.H t (evO s.ts x) k := rfl.trans rfl
@[simp] theorem opD_store (t x y) : opD P C (.store t x y) s k = stE P C s.H t (evO s.ts x) (evO s.ts y) k := rfl.trans rfl
@[simp] theorem opD_call (fx as ts) : opD P C (.call { callee := .value fx, args := as, argTypes := ts }) s k = callD P C s.H ((evO s.ts fx).bind fnV) (evL (evO s.ts) as.toList) k := rfl.trans rfl
@[simp] theorem opD_append (as ts) : opD P C (.call { callee := .builtin .append, args := as, argTypes := ts }) s k = apD P C s.H ts.toList (evL (evO s.ts) as.toList) k := rfl.trans rfl
@[simp] theorem opD_alloc (t) : opD P C (.alloc t) s k = newD P C s.H (newA P (evO s.ts) (.alloc t)) k := rfl.trans rfl
@[simp] theorem opD_box (t x) : opD P C (.box t x) s k = newD P C s.H (newA P (evO s.ts) (.box t x)) k := rfl.trans rfl
@[simp] theorem opD_buildSlice (t n ps) : opD P C (.buildSlice t n ps) s k = newD P C s.H (newA P (evO s.ts) (.buildSlice t n ps)) k := rfl.trans rfl
@[simp] theorem opD_makeSlice (t l c) : opD P C (.makeSlice t l c) s k = newD P C s.H (newA P (evO s.ts) (.makeSlice t l c)) k := rfl.trans rfl
@[simp] theorem opD_move (x) : opD P C (.move x) s k = valD P C s.H (evO s.ts x) k := rfl.trans rfl
@[simp] theorem opD_assign (x) : opD P C (.assign x) s k = valD P C s.H (evO s.ts x) k := rfl.trans rfl
@[simp] theorem opD_pick (c a b) : opD P C (.pick c a b) s k = valD P C s.H (pureOp P (evO s.ts) (.pick c a b)) k := rfl.trans rfl
@[simp] theorem opD_build (t ps) : opD P C (.build t ps) s k = valD P C s.H (pureOp P (evO s.ts) (.build t ps)) k := rfl.trans rfl
@[simp] theorem opD_nilCheck (x) : opD P C (.nilCheck x) s k = valD P C s.H (pureOp P (evO s.ts) (.nilCheck x)) k := rfl.trans rfl
@[simp] theorem opD_binOp (o t x y z) : opD P C (.binOp o t x y z) s k = valD P C s.H (pureOp P (evO s.ts) (.binOp o t x y z)) k := rfl.trans rfl
@[simp] theorem opD_unOp (o t x) : opD P C (.unOp o t x) s k = valD P C s.H (pureOp P (evO s.ts) (.unOp o t x)) k := rfl.trans rfl
@[simp] theorem opD_convert (a b x) : opD P C (.convert a b x) s k = valD P C s.H (pureOp P (evO s.ts) (.convert a b x)) k := rfl.trans rfl
@[simp] theorem opD_slice (t x a b c) : opD P C (.slice t x a b c) s k = valD P C s.H (pureOp P (evO s.ts) (.slice t x a b c)) k := rfl.trans rfl
@[simp] theorem opD_fieldAddr (t x f) : opD P C (.fieldAddr t x f) s k = valD P C s.H (pureOp P (evO s.ts) (.fieldAddr t x f)) k := rfl.trans rfl
@[simp] theorem opD_field (t x f) : opD P C (.field t x f) s k = valD P C s.H (pureOp P (evO s.ts) (.field t x f)) k := rfl.trans rfl
@[simp] theorem opD_indexAddr (t x j) : opD P C (.indexAddr t x j) s k = valD P C s.H (pureOp P (evO s.ts) (.indexAddr t x j)) k := rfl.trans rfl
@[simp] theorem opD_makeFunc (f a b) : opD P C (.makeFunc f a b) s k = valD P C s.H (pureOp P (evO s.ts) (.makeFunc f a b)) k := rfl.trans rfl
@[simp] theorem opD_extract (x j) : opD P C (.extract x j) s k = valD P C s.H (pureOp P (evO s.ts) (.extract x j)) k := rfl.trans rfl
@[simp] theorem opD_len (as ts) : opD P C (.call { callee := .builtin .len, args := as, argTypes := ts }) s k = valD P C s.H (pureOp P (evO s.ts) (.call { callee := .builtin .len, args := as, argTypes := ts })) k := rfl.trans rfl
@[simp] theorem opD_max (as ts) : opD P C (.call { callee := .builtin .max, args := as, argTypes := ts }) s k = valD P C s.H (pureOp P (evO s.ts) (.call { callee := .builtin .max, args := as, argTypes := ts })) k := rfl.trans rfl
end
theorem drwS_P {P : Program} {C : Cx} {ops : Array Oper} {pr : List (List Nat)} {base m : Nat} {K : St → Prop} : ∀ {l : List Oper} {i : Nat} {q : List SOp} {cnt : Nat} {hist : List (Nat × HE)} {s : St}, sops C.N ops l (pr.drop i) = some q →
  drwS P C base m q i cnt hist s K → drawP P C ops pr base m l i cnt hist s K
 | [], i, q, cnt, hist, s, hq, h => by cases hq; exact h
 | o :: l, i, q, cnt, hist, s, hq, h => by
  simp only [sops] at hq
  split at hq
  ·rename_i a r h1 h2
   cases hq
   obtain ⟨d1, d2, d3, d4, d5⟩ := sop_dst h1
   have hp : a.p = pr.getD i [] := by
    rw [d4, List.headD_eq_head?_getD, List.head?_drop, List.getD_eq_getElem?_getD]
   have h2' : sops C.N ops l (pr.drop (i + 1)) = some r := by rw [← h2, List.tail_drop]
   unfold drwS at h
   obtain ⟨w, hw, h⟩ := h.el
   rw [d2, d3, hp] at h
   have hw' : wantedA ops o s.ts = some w := by rw [d5]; exact hw
   refine ⟨d1, ?_⟩
   rw [hw']
   cases w with
   | false => exact drwS_P h2' h
   | true =>
    simp only [iteP_t] at h
    simp only
    obtain ⟨dst, op, type, pos, after, guard⟩ := o
    simp only at h ⊢
    unfold drwO at h
    split at h
    ·obtain ⟨a, e1, h⟩ := h.el; obtain ⟨v, e2, k1, h⟩ := h.el
     simp only [e1, e2]; rw [chkBS_eq] at k1; exact ⟨k1, drwS_P h2' h⟩
    ·obtain ⟨a, e1, h⟩ := h.el; obtain ⟨v, e2, h⟩ := h.el; obtain ⟨r, e3, k1, k2, k3, h⟩ := h.el
     simp only [e1, e2, e3]; rw [chkAS_eq] at k2; exact ⟨k1, k2, k3, drwS_P h2' h⟩
    ·obtain ⟨r, e1, h⟩ := h.el; obtain ⟨vs, e2, v, H', Dc, hac, k1, k2, k3, k4, k5, h⟩ := h.el
     simp only [e1, e2]; rw [chkAS_eq] at k4; exact ⟨v, H', Dc, hac, k1, k2, k3, k4, k5, drwS_P h2' h⟩
    ·obtain ⟨vs, e1, h⟩ := h.el
     split at h
     ·obtain ⟨x, y, hxy, hx, hy⟩ := evL2 e1
      obtain ⟨r, e3, k1, k2, k3, k4, h⟩ := h.el
      simp only [hxy, hx, hy, e3]; rw [chkAS_eq] at k3; exact ⟨k1, k2, k3, k4, drwS_P h2' h⟩
     ·exact h.elim
    ·obtain ⟨r, e1, k1, h⟩ := h.el
     simp only [e1]; exact ⟨k1, drwS_P h2' h⟩
    ·obtain ⟨r, e1, k1, h⟩ := h.el
     simp only [e1]; exact ⟨k1, drwS_P h2' h⟩
    ·obtain ⟨r, e1, k1, h⟩ := h.el
     simp only [e1]; exact ⟨k1, drwS_P h2' h⟩
    ·obtain ⟨r, e1, k1, h⟩ := h.el
     simp only [e1]; exact ⟨k1, drwS_P h2' h⟩
    ·obtain ⟨v, e1, h⟩ := h.el
     split
     all_goals first
      | (simp only [e1]; exact drwS_P h2' h)
      | (exfalso; simp_all; done)
  ·cases hq

/-! ### what is still to do, over stripped code -/
inductive IS where
 | c (x : SC)
 | blk (id : Nat)
 | inv (I : St → Prop)
def itR (N : Nat) : IS → It → Prop
 | .c x, .c c => stripC N c = some x
 | .blk i, .blk j => i = j
 | .inv I, .inv J => I = J
 | _, _ => False
def ksR (N : Nat) : List IS → List It → Prop
 | [], [] => True
 | a :: l, b :: m => itR N a b ∧ ksR N l m
 | _, _ => False
def SK (P : Program) (C : Cx) (R : St → Prop) (k : List IS) (s : St) : Prop := ∀ k', ksR C.N k k' → AK P C R k' s
theorem ksR.c {N : Nat} {x : SC} {k : List IS} {k' : List It} (h : ksR N (.c x :: k) k') : ∃ c m, k' = .c c :: m ∧ stripC N c = some x ∧ ksR N k m := by
 match k', h with
 | .c c :: m, h => exact ⟨c, m, rfl, h.1, h.2⟩
 | .blk _ :: _, h => exact h.1.elim
 | .inv _ :: _, h => exact h.1.elim
theorem ksR.blk {N : Nat} {i : Nat} {k : List IS} {k' : List It} (h : ksR N (.blk i :: k) k') : ∃ m, k' = .blk i :: m ∧ ksR N k m := by
 match k', h with
 | .c c :: m, h => exact h.1.elim
 | .blk j :: m, h => exact ⟨m, by rw [h.1], h.2⟩
 | .inv _ :: _, h => exact h.1.elim
theorem ksR.inv {N : Nat} {I : St → Prop} {k : List IS} {k' : List It} (h : ksR N (.inv I :: k) k') : ∃ m, k' = .inv I :: m ∧ ksR N k m := by
 match k', h with
 | .c c :: m, h => exact h.1.elim
 | .blk j :: m, h => exact h.1.elim
 | .inv _ :: m, h => exact ⟨m, by rw [h.1], h.2⟩
theorem ksR.nil {N : Nat} {k' : List It} (h : ksR N [] k') : k' = [] := by
 match k', h with
 | [], _ => rfl
def unwS (id : Nat) : List IS → List IS
 | [] => []
 | .c _ :: k => unwS id k
 | .blk id' :: k => if id = id' then k else unwS id k
 | .inv _ :: k => unwS id k
def hasS (id : Nat) : List IS → Bool
 | [] => false
 | .c _ :: k => hasS id k
 | .blk id' :: k => id == id' || hasS id k
 | .inv _ :: k => hasS id k
theorem ksR.unw {N id : Nat} : ∀ {k : List IS} {k' : List It}, ksR N k k' → ksR N (unwS id k) (Go.Proofs.YtpoedfmkiiijnaaDoorAm.unw id k') ∧ has id k' = hasS id k
 | [], k', h => by rw [h.nil]; exact ⟨trivial, rfl⟩
 | .c x :: k, k', h => by obtain ⟨c, m, rfl, _, h2⟩ := h.c; exact ksR.unw (id := id) (k := k) (k' := m) h2
 | .inv I :: k, k', h => by obtain ⟨m, rfl, h2⟩ := h.inv; exact ksR.unw (id := id) (k := k) (k' := m) h2
 | .blk i :: k, k', h => by
  obtain ⟨m, rfl, h2⟩ := h.blk
  obtain ⟨h3, h4⟩ := ksR.unw (id := id) (k := k) h2
  refine ⟨?_, by simp only [has, hasS, h4]⟩
  simp only [unwS, YtpoedfmkiiijnaaDoorAm.unw]
  split
  ·exact h2
  ·exact h3
theorem strip_seq {N : Nat} {c : Code} {x y : SC} (h : stripC N c = some (.seq x y)) : ∃ a b, c = .seq a b ∧ stripC N a = some x ∧ stripC N b = some y := by
 cases c with
 | seq a b =>
  simp only [stripC] at h
  split at h
  ·rename_i x' y' h1 h2; cases h; exact ⟨a, b, rfl, h1, h2⟩
  ·cases h
 | region i o d => cases d <;> simp only [stripC] at h <;> (try split at h) <;> simp at h
 | cond q a b => simp only [stripC] at h; split at h <;> simp at h
 | _ => simp [stripC] at h
theorem strip_cond {N : Nat} {c : Code} {q : Operand} {x y : SC} (h : stripC N c = some (.cond q x y)) : ∃ a b, c = .cond q a b ∧ stripC N a = some x ∧ stripC N b = some y := by
 cases c with
 | cond q' a b =>
  simp only [stripC] at h
  split at h
  ·rename_i x' y' h1 h2; cases h; exact ⟨a, b, rfl, h1, h2⟩
  ·cases h
 | region i o d => cases d <;> simp only [stripC] at h <;> (try split at h) <;> simp at h
 | seq a b => simp only [stripC] at h; split at h <;> simp at h
 | _ => simp [stripC] at h
theorem strip_loop {N : Nat} {c : Code} {x : SC} (h : stripC N c = some (.loop x)) : ∃ a, c = .loop a ∧ stripC N a = some x := by
 cases c with
 | loop a =>
  simp only [stripC] at h
  obtain ⟨y, h1, h2⟩ := Option.map_eq_some_iff.1 h
  cases h2; exact ⟨a, rfl, h1⟩
 | region i o d => cases d <;> simp only [stripC] at h <;> (try split at h) <;> simp at h
 | seq a b => simp only [stripC] at h; split at h <;> simp at h
 | cond q a b => simp only [stripC] at h; split at h <;> simp at h
 | _ => simp [stripC] at h
theorem strip_block {N : Nat} {c : Code} {i : Nat} {x : SC} (h : stripC N c = some (.block i x)) : ∃ a, c = .block i a ∧ stripC N a = some x := by
 cases c with
 | block j a =>
  simp only [stripC] at h
  obtain ⟨y, h1, h2⟩ := Option.map_eq_some_iff.1 h
  cases h2; exact ⟨a, rfl, h1⟩
 | region i o d => cases d <;> simp only [stripC] at h <;> (try split at h) <;> simp at h
 | seq a b => simp only [stripC] at h; split at h <;> simp at h
 | cond q a b => simp only [stripC] at h; split at h <;> simp at h
 | _ => simp [stripC] at h
theorem strip_exit {N : Nat} {c : Code} {i : Nat} (h : stripC N c = some (.exit i)) : c = .exit i := by
 cases c with
 | region i o d => cases d <;> simp only [stripC] at h <;> (try split at h) <;> simp at h
 | seq a b => simp only [stripC] at h; split at h <;> simp at h
 | cond q a b => simp only [stripC] at h; split at h <;> simp at h
 | _ => simp [stripC] at h <;> simp [h]
theorem strip_ret {N : Nat} {c : Code} (h : stripC N c = some .ret) : c = .ret := by
 cases c with
 | region i o d => cases d <;> simp only [stripC] at h <;> (try split at h) <;> simp at h
 | seq a b => simp only [stripC] at h; split at h <;> simp at h
 | cond q a b => simp only [stripC] at h; split at h <;> simp at h
 | _ => simp [stripC] at h <;> rfl
theorem strip_skip {N : Nat} {c : Code} (h : stripC N c = some .skip) : c = .skip := by
 cases c with
 | region i o d => cases d <;> simp only [stripC] at h <;> (try split at h) <;> simp at h
 | seq a b => simp only [stripC] at h; split at h <;> simp at h
 | cond q a b => simp only [stripC] at h; split at h <;> simp at h
 | _ => simp [stripC] at h <;> rfl
theorem strip_reg {N : Nat} {c : Code} {q : List SOp} (h : stripC N c = some (.reg q)) : ∃ id ops, c = .region id ops false ∧ sops N ops ops.toList [] = some q := by
 cases c with
 | region i o d =>
  cases d with
  | false =>
   simp only [stripC] at h
   obtain ⟨y, h1, h2⟩ := Option.map_eq_some_iff.1 h
   cases h2; exact ⟨i, o, rfl, h1⟩
  | true => simp only [stripC] at h; split at h <;> simp at h
 | seq a b => simp only [stripC] at h; split at h <;> simp at h
 | cond q a b => simp only [stripC] at h; split at h <;> simp at h
 | _ => simp [stripC] at h
theorem strip_drw {N m : Nat} {c : Code} {q : List SOp} (h : stripC N c = some (.drw m q)) : ∃ id ops pr, c = .region id ops true ∧ drawOk ops pr = true ∧ sops N ops ops.toList pr = some q := by
 cases c with
 | region i o d =>
  cases d with
  | false => simp only [stripC] at h; simp at h
  | true =>
   simp only [stripC] at h
   split at h
   ·rename_i hd
    obtain ⟨y, h1, h2⟩ := Option.map_eq_some_iff.1 h
    cases h2; exact ⟨i, o, _, rfl, hd, h1⟩
   ·cases h
 | seq a b => simp only [stripC] at h; split at h <;> simp at h
 | cond q a b => simp only [stripC] at h; split at h <;> simp at h
 | _ => simp [stripC] at h
section
variable {P : Program} {C : Cx} {R : St → Prop} {k : List IS} {s : St}
theorem sk_nil (h : R s) : SK P C R [] s := fun k' hk => by rw [hk.nil]; exact ak_nil h
theorem sk_seq {x y : SC} (h : SK P C R (.c x :: .c y :: k) s) : SK P C R (.c (.seq x y) :: k) s := fun k' hk => by
 obtain ⟨c, m, rfl, hc, hm⟩ := hk.c
 obtain ⟨a, b, rfl, ha, hb⟩ := strip_seq hc
 exact ak_seq (h _ ⟨ha, hb, hm⟩)
theorem sk_skip (h : SK P C R k s) : SK P C R (.c .skip :: k) s := fun k' hk => by
 obtain ⟨c, m, rfl, hc, hm⟩ := hk.c
 rw [strip_skip hc]
 exact ak_skip (h _ hm)
theorem sk_block {id : Nat} {x : SC} (h : SK P C R (.c x :: .blk id :: k) s) : SK P C R (.c (.block id x) :: k) s := fun k' hk => by
 obtain ⟨c, m, rfl, hc, hm⟩ := hk.c
 obtain ⟨a, rfl, ha⟩ := strip_block hc
 exact ak_block (h _ ⟨ha, rfl, hm⟩)
theorem sk_blk {id : Nat} (h : SK P C R k s) : SK P C R (.blk id :: k) s := fun k' hk => by
 obtain ⟨m, rfl, hm⟩ := hk.blk
 exact ak_blk (h _ hm)
theorem sk_inv {I : St → Prop} (h : I s) : SK P C R (.inv I :: k) s := fun k' hk => by
 obtain ⟨m, rfl, hm⟩ := hk.inv
 exact ak_inv h
theorem sk_exit {id : Nat} (hh : hasS id k = true) (h : SK P C R (unwS id k) s) : SK P C R (.c (.exit id) :: k) s := fun k' hk => by
 obtain ⟨c, m, rfl, hc, hm⟩ := hk.c
 rw [strip_exit hc]
 obtain ⟨h1, h2⟩ := hm.unw (id := id)
 exact ak_exit (by rw [h2]; exact hh) (h _ h1)
theorem sk_ret (h : R s) : SK P C R (.c .ret :: k) s := fun k' hk => by
 obtain ⟨c, m, rfl, hc, hm⟩ := hk.c
 rw [strip_ret hc]
 exact ak_ret h
theorem sk_cond_t {c : Operand} {x y : SC} (hc : evO s.ts c = some (.bool true)) (h : SK P C R (.c x :: k) s) : SK P C R (.c (.cond c x y) :: k) s := fun k' hk => by
 obtain ⟨c, m, rfl, hcc, hm⟩ := hk.c
 obtain ⟨a, b, rfl, ha, hb⟩ := strip_cond hcc
 exact ak_cond_t hc (h _ ⟨ha, hm⟩)
theorem sk_cond_f {c : Operand} {x y : SC} (hc : evO s.ts c = some (.bool false)) (h : SK P C R (.c y :: k) s) : SK P C R (.c (.cond c x y) :: k) s := fun k' hk => by
 obtain ⟨c, m, rfl, hcc, hm⟩ := hk.c
 obtain ⟨a, b, rfl, ha, hb⟩ := strip_cond hcc
 exact ak_cond_f hc (h _ ⟨hb, hm⟩)
theorem sk_reg {l : List SOp} (h : ∀ K : St → Prop, (∀ s', SK P C R k s' → K s') → opsS P C l s K) : SK P C R (.c (.reg l) :: k) s := fun k' hk => by
 obtain ⟨c, m, rfl, hc, hm⟩ := hk.c
 obtain ⟨id, ops, rfl, hl⟩ := strip_reg hc
 obtain ⟨s', h1, h2⟩ := opsS_Ev (C := C) hl (h _ fun _ h => h)
 exact ⟨.normal, s', fun B0 φ0 w0 a w hR => wp_region_list (h1.sound (fun a' w' hR' => ⟨rfl, hR'⟩) hR), h2 _ hm⟩
theorem sk_drw {l : List SOp} {m : Nat} {ts : List (Nat × Value)} {H : Heap} (hmix : P.follows .mixedOrders = true) (h : ∀ K : St → Prop, (∀ s', SK P C R k s' → K s') → drwS P C H.length m l 0 0 [] ⟨ts, H ++ List.replicate m deadB⟩ K) : SK P C R (.c (.drw m l) :: k) ⟨ts, H⟩ := fun k' hk => by
 obtain ⟨c, m', rfl, hc, hm⟩ := hk.c
 obtain ⟨id, ops, pr, rfl, hd, hl⟩ := strip_drw hc
 exact ak_draw hmix pr m hd fun K hK => drwS_P (by rw [List.drop_zero]; exact hl) (h K fun s' hs => hK s' (hs _ hm))
theorem sk_subL {x : SC} {ts ts' : List (Nat × Value)} {H : Heap} (hs : subL ts' ts) (h : SK P C R (.c x :: k) ⟨ts', H⟩) : SK P C R (.c x :: k) ⟨ts, H⟩ := fun k' hk => by
 obtain ⟨c, m, rfl, hc, hm⟩ := hk.c
 exact ak_subL hs (h _ ⟨hc, hm⟩)
/-- What is known at a point of a walk, with few slots. -/
theorem sk_at {x : SC} {ts : List (Nat × Value)} {H : Heap} (sl : List (Nat × Value)) (I : Heap → Prop) (hs : subL sl ts) (h0 : I H)
  (h : ∀ H1, I H1 → SK P C R (.c x :: k) ⟨sl, H1⟩) : SK P C R (.c x :: k) ⟨ts, H⟩ := sk_subL hs (h H h0)
theorem ak_cut {P : Program} {C : Cx} {R : St → Prop} {k : List It} {x : Code} {s : St} (I : St → Prop) (h1 : AK P C R (.c x :: .inv I :: k) s) (h2 : ∀ s', I s' → AK P C R k s') : AK P C R (.c x :: k) s := by
 refine AW.mono h1 ?_
 intro e s' h
 cases e with
 | normal => exact h2 s' h
 | exit id => exact h (by simp)
 | ret => exact h (by simp)
/-- A walk cut in two. -/
theorem sk_cut {x y : SC} {s : St} (sl : List (Nat × Value)) (J : Heap → Prop) (h1 : SK P C R (.c x :: .inv (fun s' => subL sl s'.ts ∧ J s'.H) :: .c y :: k) s) (h2 : ∀ H1, J H1 → SK P C R (.c y :: k) ⟨sl, H1⟩) : SK P C R (.c x :: .c y :: k) s := fun k' hk => by
 obtain ⟨c, m, rfl, hc, hm⟩ := hk.c
 refine ak_cut _ (h1 _ ⟨hc, rfl, hm⟩) ?_
 rintro ⟨ts, H⟩ ⟨hs, hJ⟩
 exact sk_subL hs (h2 H hJ) _ hm
/-- A loop over 0 .. n-1: the slots at each round, what holds there. -/
theorem sk_rng {x : SC} {ts : List (Nat × Value)} {H : Heap} (n : Nat) (sl : Nat → List (Nat × Value)) (I : Nat → Heap → Prop) (hs : subL (sl 0) ts) (h0 : I 0 H)
  (step : ∀ i H1, i < n → I i H1 → SK P C R (.c x :: .inv (fun s' => subL (sl (i + 1)) s'.ts ∧ I (i + 1) s'.H) :: k) ⟨sl i, H1⟩)
  (last : ∀ H1, I n H1 → SK P C R (.c x :: .inv (fun _ => False) :: k) ⟨sl n, H1⟩) : SK P C R (.c (.loop x) :: k) ⟨ts, H⟩ := fun k' hk => by
 obtain ⟨c, m, rfl, hc, hm⟩ := hk.c
 obtain ⟨a, rfl, ha⟩ := strip_loop hc
 exact ak_rng n sl I hs h0 (fun i H1 hi hI => step i H1 hi hI _ ⟨ha, rfl, hm⟩) (fun H1 hI => last H1 hI _ ⟨ha, rfl, hm⟩)
/-- A loop: slots, heap, and a number that falls. -/
theorem sk_loop {x : SC} {ts : List (Nat × Value)} {H : Heap} (I : Nat → List (Nat × Value) → Heap → Prop) (n : Nat) (ts0 : List (Nat × Value)) (hs : subL ts0 ts) (h0 : I n ts0 H)
  (hI : ∀ n ts H, I n ts H → SK P C R (.c x :: .inv (fun s' => ∃ m ts', m < n ∧ subL ts' s'.ts ∧ I m ts' s'.H) :: k) ⟨ts, H⟩) : SK P C R (.c (.loop x) :: k) ⟨ts, H⟩ := fun k' hk => by
 obtain ⟨c, m, rfl, hc, hm⟩ := hk.c
 obtain ⟨a, rfl, ha⟩ := strip_loop hc
 exact ak_loopS I n ts0 hs h0 fun n ts H hi => hI n ts H hi _ ⟨ha, rfl, hm⟩
end

/-! ### a function's contract out of its stripped body -/
section
variable {P : Program} {f : FuncId} {fn : Func} {B : SC} {N : Nat} {rs : List ResultVar} {args : List Value} {H : Heap} {D : List Nat}
theorem body_of {N : Nat} {o : Option Code} {B : SC} (h : o.bind (stripC N) = some B) : ∃ c, o = some c ∧ stripC N c = some B := Option.bind_eq_some_iff.1 h
theorem AC.of_bodyS {R : Value → Heap → Prop} (hf : P.funcs[f]? = some fn) (hb : fn.body.bind (stripC N) = some B) (hok : fnOk P f = true) (hNe : fn.ntmps = N) (hrs : fn.results.toList = rs) (hN : args.length ≤ N)
  (h : SK P ⟨N, H.length, D⟩ (endR P rs R) [.c B] ⟨enumT 0 args, H⟩) : ∃ v H', AC P f args H v H' D ∧ R v H' := by
 obtain ⟨c, hc, hs⟩ := body_of hb
 exact AC.of_body0 hf hc hok hNe hrs hN (h _ ⟨hs, trivial⟩)
theorem AC.of_pureS {r : Value} (hf : P.funcs[f]? = some fn) (hb : fn.body.bind (stripC N) = some B) (hok : fnOk P f = true) (hNe : fn.ntmps = N) (hrs : fn.results.toList = rs) (hN : args.length ≤ N) (hr : plainV r = true)
  (h : SK P ⟨N, H.length, []⟩ (endR P rs fun v Hn => v = r ∧ ∃ J, Hn = H ++ J) [.c B] ⟨enumT 0 args, H⟩) : AC P f args H r H [] := by
 obtain ⟨c, hc, hs⟩ := body_of hb
 exact AC.of_pure hf hc hok hNe hrs hN hr (h _ ⟨hs, trivial⟩)
theorem AC.of_pureCS {r : Value} (hf : P.funcs[f]? = some fn) (hb : fn.body.bind (stripC N) = some B) (hok : fnOk P f = true) (hNe : fn.ntmps = N) (hrs : fn.results.toList = rs) (hN : args.length ≤ N) (hr : Clo H.length r)
  (h : SK P ⟨N, H.length, []⟩ (endR P rs fun v Hn => v = r ∧ ∃ J, Hn = H ++ J) [.c B] ⟨enumT 0 args, H⟩) : AC P f args H r H [] := by
 obtain ⟨c, hc, hs⟩ := body_of hb
 obtain ⟨v, H', h1, rfl, rfl⟩ := AC.of_body (R := fun v H' => v = r ∧ H' = H) hf hc hok hNe hrs hN (post_mono (fun s => endR_mono fun v Hn ⟨hvr, J, hJ⟩ => ⟨H, J, hJ, Nat.le_refl _, fun id j x hx => .inl ⟨Heap.lt_of_live (Heap.live_of_cell hx), hx⟩, by rw [hvr]; exact hr, hvr, rfl⟩) (h _ ⟨hs, trivial⟩))
 exact h1
theorem Mkr.of_bodyS {Q : Heap → List Nat → Value → Prop} (hf : P.funcs[f]? = some fn) (hb : fn.body.bind (stripC N) = some B) (hok : fnOk P f = true) (hNe : fn.ntmps = N) (hrs : fn.results.toList = rs) (hN : args.length ≤ N)
  (h : SK P ⟨N, H.length, []⟩ (endR P rs fun v Hn => H.length ≤ Hn.length ∧ (∀ i, i < H.length → Hn[i]? = H[i]?) ∧ ∃ E, Q Hn E v ∧ Own Hn E ∧ (∀ e, e ∈ E → H.length ≤ e)) [.c B] ⟨enumT 0 args, H⟩) : Mkr P f args H Q := by
 obtain ⟨c, hc, hs⟩ := body_of hb
 exact Mkr.of_body hf hc hok hNe hrs hN (h _ ⟨hs, trivial⟩)
end
theorem AskX.mkr {P : Program} {C : Cx} {f : FuncId} {args : List Value} {H : Heap} {k : Ct} {Q : Heap → List Nat → Value → Prop} (m : Mkr P f args H Q)
  (hk : ∀ v J E, Q (H ++ J) E v → Own (H ++ J) E → (∀ e, e ∈ E → H.length ≤ e) → wrL C.n0 C.D [] ∧ runX P C k v (H ++ J)) : AskX P C f args H k := by
 obtain ⟨v, J, E, ac, h1, h2, h3⟩ := m
 exact ⟨v, H ++ J, [], ac, hk v J E h1 h2 h3⟩
theorem AskD.mkr {P : Program} {C : Cx} {f : FuncId} {args : List Value} {H : Heap} {k : Dt} {Q : Heap → List Nat → Value → Prop} (m : Mkr P f args H Q)
  (hk : ∀ v J E, Q (H ++ J) E v → Own (H ++ J) E → (∀ e, e ∈ E → H.length ≤ e) → wrL C.n0 C.D [] ∧ liveL H [] ∧ H.length ≤ (H ++ J).length ∧ chkAS P k.p H (H ++ J) k.hist ∧ pendD (H ++ J) (k.base + k.cnt) (k.m - k.cnt) ∧ dRun P C k v (H ++ J) k.cnt ((k.i, .eff H) :: k.hist)) : AskD P C f args H k := by
 obtain ⟨v, J, E, ac, h1, h2, h3⟩ := m
 exact ⟨v, H ++ J, [], ac, hk v J E h1 h2 h3⟩
theorem Own.fr {H H' : Heap} {E : List Nat} (h : Own H E) (ha : ∀ id, id ∈ E → H'[id]? = H[id]?) : Own H' E := ⟨h.1, fun id hi => by
 have := h.2 id hi
 unfold Heap.rwOk at this ⊢
 rw [ha id hi]; exact this⟩
theorem Own.lt {H : Heap} {E : List Nat} (h : Own H E) : ∀ id, id ∈ E → id < H.length := fun id hi => Heap.lt_of_live (Heap.live_of_rwOk (h.2 id hi))
theorem get_t2 (H J : Heap) (a b : Blk) {i : Nat} (h : H.length + 2 ≤ i) : (H ++ a :: b :: J)[i]? = J[i - (H.length + 2)]? := by
 rw [List.getElem?_append_right (by omega), show i - H.length = (i - (H.length + 2)) + 2 by omega]; rfl
theorem get_t3 (H J : Heap) (a b c : Blk) {i : Nat} (h : H.length + 3 ≤ i) : (H ++ a :: b :: c :: J)[i]? = J[i - (H.length + 3)]? := by
 rw [List.getElem?_append_right (by omega), show i - H.length = (i - (H.length + 3)) + 3 by omega]; rfl
theorem Own.app {H : Heap} {E F : List Nat} (h : Own H E) (k : Own H F) (hd : ∀ e, e ∈ E → e ∉ F) : Own H (E ++ F) :=
 ⟨List.nodup_append.2 ⟨h.1, k.1, fun a ha b hb hab => hd a ha (hab ▸ hb)⟩, fun id hi => by
  rcases List.mem_append.1 hi with hi | hi
  ·exact h.2 id hi
  ·exact k.2 id hi⟩
/-- A block that may be written, in this heap and in every one that grew out of it. -/
def RF (H : Heap) (id : Nat) : Prop := ∀ L, Heap.rwOk (H ++ L) id = true
theorem RF.a {H : Heap} {id : Nat} (h : RF H id) (L : Heap) : Heap.rwOk (H ++ L) id = true := h L
theorem RF.b {H : Heap} {id : Nat} (h : RF H id) : Heap.rwOk H id = true := by have := h []; rwa [List.append_nil] at this
theorem RF.s {H : Heap} {id : Nat} (h : RF H id) : (∀ L, Heap.rwOk (H ++ L) id = true) ∧ Heap.rwOk H id = true := ⟨h, h.b⟩
theorem RF.of {H : Heap} {id : Nat} {t : TypeId} {cs : List Value} (h : H[id]? = some ⟨t, cs, true, true⟩) : RF H id := fun L => by
 unfold Heap.rwOk; rw [List.getElem?_append_left (lt_of_get h), h]; rfl
theorem RF.ok {H : Heap} {id : Nat} (h : Heap.rwOk H id = true) : RF H id := fun L => by
 unfold Heap.rwOk at h ⊢
 split at h
 ·rename_i b hb; rw [List.getElem?_append_left (lt_of_get hb), hb]; exact h
 ·cases h
theorem get_app {H : Heap} (L : Heap) {i : Nat} {b : Blk} (h : H[i]? = some b) : (H ++ L)[i]? = some b := by rw [List.getElem?_append_left (lt_of_get h)]; exact h
/-! ### short names, for the walks' texts -/
section
variable {P : Program} {C : Cx} {R : St → Prop} {k : List IS} {s : St}
theorem sA {x y : SC} (h : SK P C R (.c x :: .c y :: k) s) : SK P C R (.c (.seq x y) :: k) s := sk_seq h
theorem sB {id : Nat} {x : SC} (h : SK P C R (.c x :: .blk id :: k) s) : SK P C R (.c (.block id x) :: k) s := sk_block h
theorem sC {id : Nat} (h : SK P C R k s) : SK P C R (.blk id :: k) s := sk_blk h
theorem sD (h : SK P C R k s) : SK P C R (.c .skip :: k) s := sk_skip h
theorem sE {id : Nat} (hh : hasS id k = true) (h : SK P C R (unwS id k) s) : SK P C R (.c (.exit id) :: k) s := sk_exit hh h
theorem sF {c : Operand} {x y : SC} (hc : evO s.ts c = some (.bool true)) (h : SK P C R (.c x :: k) s) : SK P C R (.c (.cond c x y) :: k) s := sk_cond_t hc h
theorem sG {c : Operand} {x y : SC} (hc : evO s.ts c = some (.bool false)) (h : SK P C R (.c y :: k) s) : SK P C R (.c (.cond c x y) :: k) s := sk_cond_f hc h
end
end Go.Proofs.YtpoedfmkiiijnaaDoorAm
namespace Go.Proofs.YtpoedfmkiiijnaaDoorAm
open Go Go.RowKit
set_option linter.unusedVariables false
set_option linter.unusedSimpArgs false
/-- A line's cells; the way and the leashes are whole blocks. -/
def RLnW (H : Heap) (E : List Nat) (l : Ln) (cs : List Value) : Prop :=
 ∃ E1 E2 v1 v2, E = E1 ++ E2 ∧ cs = [iv l.gone, v1, v2, iv l.drop] ∧ RW 3 1 RInt H E1 v1 l.way ∧ RW 88 2 RGr H E2 v2 l.grs
theorem RLnW.frm : Frm RLnW := by
 refine ⟨?_, ?_⟩
 ·rintro H H' E x cs ⟨E1, E2, v1, v2, rfl, h2, h3, h4⟩ ha
  exact ⟨E1, E2, v1, v2, rfl, h2, h3.fr (RP.frm _) fun id hi => ha id (by simp [hi]), h4.fr (RP.frm _) fun id hi => ha id (by simp [hi])⟩
 ·rintro H E x cs ⟨E1, E2, v1, v2, rfl, h2, h3, h4⟩ id hi
  rcases List.mem_append.1 hi with hi | hi
  ·exact h3.bd (RP.frm _) id hi
  ·exact h4.bd (RP.frm _) id hi
def lenOk (l : Ln) : Prop := l.way.length ≤ 1048576 ∧ l.grs.length ≤ 1048576
theorem RLnW.ln {H : Heap} {E : List Nat} {l : Ln} {cs : List Value} (h : RLnW H E l cs) (hl : lenOk l) : RLn H E l cs := by
 obtain ⟨E1, E2, v1, v2, h1, h2, h3, h4⟩ := h
 exact ⟨E1, E2, v1, v2, h1, h2, h3.rs (by have := hl.1; omega), h4.rs (by have := hl.2; omega)⟩
theorem RCs.conv {α : Type} {sz : Nat} {R R' : Heap → List Nat → α → List Value → Prop} {H : Heap} : ∀ {xs : List α} {E : List Nat} {cs : List Value}, RCs sz R H E xs cs → (∀ x, x ∈ xs → ∀ E cs, R H E x cs → R' H E x cs) → RCs sz R' H E xs cs
 | [], _, _, h, _ => h
 | x :: xs, _, _, ⟨E1, E2, c1, c2, h1, h2, h3, h4, h5⟩, hc => ⟨E1, E2, c1, c2, h1, h2, h3, hc x (by simp) _ _ h4, h5.conv fun y hy => hc y (by simp [hy])⟩
theorem RS.conv {α : Type} {sz : Nat} {R R' : Heap → List Nat → α → List Value → Prop} {H : Heap} {E : List Nat} {v : Value} {xs : List α} (h : RS sz R H E v xs) (hc : ∀ x, x ∈ xs → ∀ E cs, R H E x cs → R' H E x cs) : RS sz R' H E v xs := by
 obtain ⟨hl, h | ⟨id, o, E', ty, rw, pre, cs, post, h1, h2, h3, h4, h5⟩⟩ := h
 ·exact ⟨hl, .inl h⟩
 ·exact ⟨hl, .inr ⟨id, o, E', ty, rw, pre, cs, post, h1, h2, h3, h4, h5.conv hc⟩⟩
theorem RS.ofW {H : Heap} {E : List Nat} {v : Value} {ls : List Ln} (h : RS 4 RLnW H E v ls) (hl : ∀ l, l ∈ ls → lenOk l) : RS 4 RLn H E v ls := h.conv fun l hm E cs hr => hr.ln (hl l hm)
section
variable {α : Type} {sz : Nat} {R : Heap → List Nat → α → List Value → Prop} {H : Heap} {v : Value}
/-- At an element: it and what it owns are changed. -/
theorem RS.upd {R' : Heap → List Nat → α → List Value → Prop} (hR : Frm R) (hR' : Frm R') {E : List Nat} {xs : List α} (h : RS sz R H E v xs) (hcv : ∀ x, x ∈ xs → ∀ E cs, R H E x cs → R' H E x cs) (ho : Own H E) {k : Nat} (hk : k < xs.length) :
  ∃ id o Ek ck a z ty, v = sl id o xs.length ∧ id ∈ E ∧ id ∉ Ek ∧ (∀ e, e ∈ Ek → e ∈ E) ∧ Ek.Nodup ∧ R H Ek xs[k] ck ∧ ck.length = sz ∧ a.length = o + k * sz ∧ H[id]? = some ⟨ty, a ++ (ck ++ z), true, true⟩ ∧
   ∀ (H' : Heap) (x' : α) (ck' : List Value) (Ek' : List Nat), ck'.length = sz → R' H' Ek' x' ck' → Own H' Ek' → (∀ e, e ∈ Ek' → e ∈ Ek ∨ e ∉ E) → (∀ e, e ∈ E → e ≠ id → e ∉ Ek → H'[e]? = H[e]?) →
    H'[id]? = some ⟨ty, a ++ (ck' ++ z), true, true⟩ → ∃ E', RS sz R' H' E' v (xs.set k x') ∧ Own H' E' ∧ ∀ e, e ∈ E' → e ∈ E ∨ e ∈ Ek' := by
 have hrwE := ho.2
 have hnd := ho.1
 obtain ⟨hl, ⟨_, rfl, _⟩ | ⟨id, o, E', ty, rw, pre, cs, post, h1, h2, h3, h4, h5⟩⟩ := h
 ·simp at hk
 ·subst h2
  have hrw1 : rw = true := by
   have := hrwE id (by simp)
   unfold Heap.rwOk at this
   rw [h3] at this; simpa using this
  subst hrw1
  obtain ⟨E1, Ek, E2, c1, ck, c2, k1, k2, k3, k4, k5, k6, k7⟩ := h5.at hk
  subst k1; subst k2
  have hnd' := List.nodup_cons.1 hnd
  have hnd2 := List.nodup_append.1 hnd'.2
  have hnd3 := List.nodup_append.1 hnd2.2.1
  refine ⟨id, o, Ek, ck, pre ++ c1, c2 ++ post, ty, h1, by simp, fun he => hnd'.1 (by simp [he]), fun e he => by simp [he], hnd3.1, k6, k4, by simp [h4, k3], by rw [h3]; simp, fun H' x' ck' Ek' hsz hR2 hown hsub hout hnew => ?_⟩
  have e : xs.set k x' = xs.take k ++ x' :: xs.drop (k + 1) := List.set_eq_take_append_cons_drop.trans (by simp [hk])
  have n1 : ∀ e, e ∈ E1 → e ≠ id ∧ e ∉ Ek := fun e he => ⟨fun h => hnd'.1 (by rw [← h]; simp [he]), fun h => hnd2.2.2 e he e (by simp [h]) rfl⟩
  have n2 : ∀ e, e ∈ E2 → e ≠ id ∧ e ∉ Ek := fun e he => ⟨fun h => hnd'.1 (by rw [← h]; simp [he]), fun h => hnd3.2.2 e h e he rfl⟩
  have m1 : ∀ e, e ∈ Ek' → e ≠ id ∧ e ∉ E1 ∧ e ∉ E2 := fun e he => by
   rcases hsub e he with h | h
   ·exact ⟨fun hh => hnd'.1 (by rw [← hh]; simp [h]), fun hh => hnd2.2.2 e hh e (by simp [h]) rfl, fun hh => hnd3.2.2 e h e hh rfl⟩
   ·exact ⟨fun hh => h (by simp [hh]), fun hh => h (by simp [hh]), fun hh => h (by simp [hh])⟩
  have v5 : RCs sz R' H E1 (xs.take k) c1 := k5.conv fun x hx => hcv x (List.mem_of_mem_take hx)
  have v7 : RCs sz R' H E2 (xs.drop (k + 1)) c2 := k7.conv fun x hx => hcv x (List.mem_of_mem_drop hx)
  refine ⟨id :: (E1 ++ (Ek' ++ E2)), ⟨by simpa using hl, .inr ⟨id, o, E1 ++ (Ek' ++ E2), ty, true, pre, c1 ++ (ck' ++ c2), post, by simpa using h1, rfl, ?_, h4, ?_⟩⟩, ⟨?_, ?_⟩, ?_⟩
  ·rw [hnew]; simp
  ·rw [e]
   exact (v5.fr hR' fun e he _ => hout e (by simp [he]) (n1 e he).1 (n1 e he).2).app ⟨Ek', E2, ck', c2, rfl, rfl, hsz, hR2, v7.fr hR' fun e he _ => hout e (by simp [he]) (n2 e he).1 (n2 e he).2⟩
  ·refine List.nodup_cons.2 ⟨fun hm => ?_, List.nodup_append.2 ⟨hnd2.1, List.nodup_append.2 ⟨hown.1, hnd3.2.1, fun a ha b hb hab => (m1 a ha).2.2 (hab ▸ hb)⟩, fun a ha b hb hab => ?_⟩⟩
   ·rcases List.mem_append.1 hm with hm | hm
    ·exact (n1 _ hm).1 rfl
    ·rcases List.mem_append.1 hm with hm | hm
     ·exact (m1 _ hm).1 rfl
     ·exact (n2 _ hm).1 rfl
   ·rcases List.mem_append.1 hb with hb | hb
    ·exact (m1 b hb).2.1 (hab ▸ ha)
    ·exact hnd2.2.2 a ha b (by simp [hb]) hab
  ·have hold : ∀ e, e ∈ E1 ∨ e ∈ E2 → Heap.rwOk H' e = true := fun e he => by
    have hmem : e ∈ id :: (E1 ++ (Ek ++ E2)) := by rcases he with he | he <;> simp [he]
    have hne : e ≠ id ∧ e ∉ Ek := by rcases he with he | he; exact n1 e he; exact n2 e he
    have := hrwE e hmem
    unfold Heap.rwOk at this ⊢
    rw [hout e hmem hne.1 hne.2]; exact this
   intro e he
   rcases List.mem_cons.1 he with rfl | he
   ·exact rw_get hnew
   ·rcases List.mem_append.1 he with he | he
    ·exact hold e (.inl he)
    ·rcases List.mem_append.1 he with he | he
     ·exact hown.2 e he
     ·exact hold e (.inr he)
  ·intro e he
   rcases List.mem_cons.1 he with rfl | he
   ·exact .inl (by simp)
   ·rcases List.mem_append.1 he with he | he
    ·exact .inl (by simp [he])
    ·rcases List.mem_append.1 he with he | he
     ·exact .inr he
     ·exact .inl (by simp [he])
end
theorem RCs.plainE {α : Type} {sz : Nat} {g : α → List Value} {H : Heap} : ∀ {xs : List α} {E : List Nat} {cs : List Value}, RCs sz (RP g) H E xs cs → E = [] ∧ cs = xs.flatMap g
 | [], _, _, h => ⟨h.1, h.2⟩
 | x :: xs, _, _, ⟨E1, E2, c1, c2, h1, h2, h3, ⟨h4, h5⟩, h6⟩ => by
  obtain ⟨k1, k2⟩ := h6.plainE
  subst h4; subst k1; subst h5; subst k2
  exact ⟨h1, by rw [h2, List.flatMap_cons]⟩
theorem all_flat {α : Type} {g : α → List Value} (hg : ∀ x, (g x).all (·.oneCell') = true) (xs : List α) : (xs.flatMap g).all (·.oneCell') = true := by
 rw [List.all_flatMap]
 simp only [List.all_eq_true] at hg ⊢
 exact fun x _ => by simpa using hg x
/-- append onto a slice of one's own, of plain elements. -/
theorem app_plain {α : Type} {g : α → List Value} {P : Program} {t e : TypeId} {sz by' : Nat} {z : Value} (he : elemO P t = some e) (hs : szO P e = some (sz + 1)) (hb : byO P e = some by') (hz : zeroO P e = some z) (hzl : (cellsV z).length = sz + 1)
  (hg : ∀ x, (g x).all (·.oneCell') = true) {H : Heap} {E1 E : List Nat} {v w : Value} {xs ys : List α} (h1 : RW e (sz + 1) (RP g) H E1 v xs) (ho : Own H E1) (h : RS (sz + 1) (RP g) H E w ys) (hby : (xs.length + ys.length) * by' ≤ 140737488355328) (hmax : xs.length + ys.length ≤ maxLen) :
  ∃ k v' H2 E', apA P H [t, t] v w = some (k, v', H2) ∧ (∀ i, k = some i → i ∈ E1 ∧ H.live i = true) ∧ H.length ≤ H2.length ∧ (∀ i, i < H.length → i ∉ E1 → H2[i]? = H[i]?) ∧ RW e (sz + 1) (RP g) H2 E' v' (xs ++ ys) ∧ Own H2 E' ∧ ∀ i, i ∈ E' → i ∈ E1 ∨ i = H.length := by
 obtain ⟨E2, news, hsrc, h2, _, _⟩ := h.src
 obtain ⟨rfl, rfl⟩ := h2.plainE
 obtain ⟨k, v', H2, E', e1, e2, e3, e4, e5, e6, e7, _⟩ := apA_RW he hs hb hz hzl (RP.frm g) h1 hsrc h2 (all_flat hg ys) ho.1 List.nodup_nil (fun i _ hi => by simp at hi) hby hmax
 refine ⟨k, v', H2, E', e1, e2, e3, e4, e5, ⟨e6, fun i hi => ?_⟩, fun i hi => ?_⟩
 ·rcases e7 i hi with ⟨h1 | h1, _, h3⟩ | ⟨_, h2⟩
  ·have := ho.2 i h1
   unfold Heap.rwOk at this ⊢
   rw [h3]; exact this
  ·simp at h1
  ·exact h2
 ·rcases e7 i hi with ⟨h1 | h1, _⟩ | ⟨h1, _⟩
  ·exact .inl h1
  ·simp at h1
  ·exact .inr h1
/-- A clone. -/
theorem clone_app {α : Type} {g : α → List Value} {P : Program} {t e : TypeId} {sz by' : Nat} {z : Value} (he : elemO P t = some e) (hs : szO P e = some (sz + 1)) (hb : byO P e = some by') (hz : zeroO P e = some z) (hzl : (cellsV z).length = sz + 1)
  (hg : ∀ x, (g x).all (·.oneCell') = true) {H : Heap} {E : List Nat} {w : Value} {ys : List α} (h : RS (sz + 1) (RP g) H E w ys) (hby : ys.length * by' ≤ 140737488355328) (hmax : ys.length ≤ maxLen) :
  ∃ k v' H2 E', apA P (H ++ [⟨e, [], true, true⟩]) [t, t] (sl H.length 0 0) w = some (k, v', H2) ∧ wrO H.length [] k ∧ Gro H H2 ∧ RW e (sz + 1) (RP g) H2 E' v' ys ∧ Own H2 E' ∧ ∀ i, i ∈ E' → H.length ≤ i := by
 have hw : RW e (sz + 1) (RP g) (H ++ [⟨e, [], true, true⟩]) [H.length] (sl H.length 0 0) [] := .inr ⟨H.length, [], [], rfl, rfl, by simp, rfl, rfl⟩
 have hown : Own (H ++ [⟨e, [], true, true⟩]) [H.length] := ⟨by simp, fun i hi => by simp at hi; subst hi; exact rw_get (t := e) (cs := []) (by simp)⟩
 obtain ⟨k, v', H2, E', e1, e2, e3, e4, e5, e6, e7⟩ := app_plain he hs hb hz hzl hg hw hown (h.ext (RP.frm g)) (by simpa using hby) (by simpa using hmax)
 refine ⟨k, v', H2, E', e1, fun i hi => .inl (by have := (e2 i hi).1; simp at this; omega), Gro.of (by simp at e3; omega) fun i hi => ?_, by simpa using e5, e6, fun i hi => ?_⟩
 ·rw [e4 i (by simp; omega) (by simp; omega), List.getElem?_append_left hi]
 ·rcases e7 i hi with h | h
  ·simp at h; omega
  ·simp at h; omega
theorem RS.nilx {α : Type} {sz : Nat} {R : Heap → List Nat → α → List Value → Prop} {H : Heap} {E : List Nat} {xs : List α} (h : RS sz R H E nl xs) : xs = [] := by
 obtain ⟨_, h | ⟨id, o, E', ty, rw, pre, cs, post, h1, _⟩⟩ := h
 ·exact h.2.1
 ·simp at h1
theorem RS.some {α : Type} {sz : Nat} {R : Heap → List Nat → α → List Value → Prop} {H : Heap} {E : List Nat} {v : Value} {xs : List α} (h : RS sz R H E v xs) (hn : v ≠ nl) : ∃ a c, v = .slice (some a) xs.length c := by
 obtain ⟨_, ⟨rfl | rfl, rfl, _⟩ | ⟨id, o, E', ty, rw, pre, cs, post, h1, _⟩⟩ := h
 ·exact absurd rfl hn
 ·exact ⟨_, _, rfl⟩
 ·exact ⟨_, _, h1⟩
/-- append onto a new, empty slice. -/
theorem apA_new {P : Program} {t e : TypeId} {sz by' m : Nat} {z : Value} {news : List Value} (he : elemO P t = some e) (hs : szO P e = some (sz + 1)) (hb : byO P e = some by') (hz : zeroO P e = some z) (hzl : (cellsV z).length = sz + 1) {H : Heap} {w : Value}
  (hsrc : srcA (H ++ [⟨e, [], true, true⟩]) (sz + 1) w = some (m, news)) (hone : news.all (·.oneCell') = true) (hby : m * by' ≤ 140737488355328) (hmax : m ≤ maxLen) :
  apA P (H ++ [⟨e, [], true, true⟩]) [t, t] (sl H.length 0 0) w = some (some H.length, sl (H.length + 1) 0 m, H ++ [⟨e, [], false, false⟩, ⟨e, news, true, true⟩]) := by
 have hg : (H ++ [(⟨e, [], true, true⟩ : Blk)])[H.length]? = some ⟨e, [], true, true⟩ := by simp
 refine apA_of0 ?_; unfold apA0
 simp only [he, hs, hb, hz, destA, hsrc, hg]
 rw [if_pos (by simp), ]
 simp only
 rw [if_pos ⟨trivial, hzl, by simpa using hby, by simpa using hmax, hone⟩]
 simp [killO, kill_at0, kill_c0]
theorem set_mid {a m z : List Value} {n j : Nat} {x : Value} (h : a.length = n) (hj : j < m.length) : (a ++ (m ++ z)).set (n + j) x = a ++ (m.set j x ++ z) := by
 rw [List.set_append, if_neg (by omega), h, Nat.add_sub_cancel_left, List.set_append, if_pos hj]
theorem drop_cons {α : Type} {xs : List α} {i : Nat} (h : i < xs.length) : xs.drop i = xs[i] :: xs.drop (i + 1) := by rw [List.getElem_cons_drop]
theorem RW.one {α : Type} {ty : TypeId} {sz : Nat} {R : Heap → List Nat → α → List Value → Prop} {H : Heap} {E : List Nat} {v : Value} {xs : List α} (h : RW ty sz R H E v xs) : v.oneCell' = true := by
 obtain ⟨a, c, rfl⟩ := h.form; rfl
theorem RW.cv {α : Type} {ty : TypeId} {sz : Nat} {R : Heap → List Nat → α → List Value → Prop} {H : Heap} {E : List Nat} {v : Value} {xs : List α} (h : RW ty sz R H E v xs) : cellsV v = [v] := by
 obtain ⟨a, c, rfl⟩ := h.form; rfl
theorem Clo.es (n : Nat) : Clo n es := fun φ φ' y hle hn hv => by
 cases hv with
 | emp a c => exact .emp a c
theorem RS.clo {α : Type} {sz : Nat} {R : Heap → List Nat → α → List Value → Prop} {H : Heap} {E : List Nat} {v : Value} {xs : List α} (h : RS sz R H E v xs) : Clo H.length v := by
 obtain ⟨_, ⟨rfl | rfl, _⟩ | ⟨id, o, E', ty, rw, pre, cs, post, rfl, _, h3, _⟩⟩ := h
 ·exact Clo.plain rfl
 ·exact Clo.es _
 ·exact Clo.sl (lt_of_get h3)
/-- A piece of a slice of plain elements. -/
theorem RS.drop {α : Type} {sz : Nat} {g : α → List Value} {H : Heap} {E : List Nat} {id o n : Nat} {xs : List α} (h : RS (sz + 1) (RP g) H E (sl id o n) xs) {k : Nat} (hk : k ≤ xs.length) : RS (sz + 1) (RP g) H E (sl id (o + k * (sz + 1)) (n - k)) (xs.drop k) := by
 obtain ⟨hl, ⟨h | h, _⟩ | ⟨id', o', E', ty, rw, pre, cs, post, h1, h2, h3, h4, h5⟩⟩ := h
 ·simp at h
 ·simp at h
 ·simp at h1
  obtain ⟨⟨rfl, rfl⟩, rfl⟩ := h1
  obtain ⟨rfl, rfl⟩ := h5.plainE
  have hlen := h5.len
  have e : xs = xs.take k ++ xs.drop k := (List.take_append_drop k xs).symm
  rw [e, List.flatMap_append] at h3 h5
  obtain ⟨E1, E2, c1, c2, k1, k2, k3, k4⟩ := h5.split
  obtain ⟨rfl, rfl⟩ := k3.plainE
  obtain ⟨rfl, rfl⟩ := k4.plainE
  refine ⟨by simp; omega, .inr ⟨id, o + k * (sz + 1), [], ty, rw, pre ++ (xs.take k).flatMap g, (xs.drop k).flatMap g, post, by simp, by simpa using h2, by rw [h3]; simp, ?_, k4⟩⟩
  have := k3.len
  rw [List.length_append, h4, this, List.length_take, Nat.min_eq_left hk]
theorem RS.take {α : Type} {sz : Nat} {g : α → List Value} {H : Heap} {E : List Nat} {id o n : Nat} {xs : List α} (h : RS (sz + 1) (RP g) H E (sl id o n) xs) {k : Nat} (hk : k ≤ xs.length) : RS (sz + 1) (RP g) H E (sl id o k) (xs.take k) := by
 obtain ⟨hl, ⟨h | h, _⟩ | ⟨id', o', E', ty, rw, pre, cs, post, h1, h2, h3, h4, h5⟩⟩ := h
 ·simp at h
 ·simp at h
 ·simp at h1
  obtain ⟨⟨rfl, rfl⟩, rfl⟩ := h1
  obtain ⟨rfl, rfl⟩ := h5.plainE
  have e : xs = xs.take k ++ xs.drop k := (List.take_append_drop k xs).symm
  rw [e, List.flatMap_append] at h3 h5
  obtain ⟨E1, E2, c1, c2, k1, k2, k3, k4⟩ := h5.split
  obtain ⟨rfl, rfl⟩ := k3.plainE
  exact ⟨by simp; omega, .inr ⟨id, o, [], ty, rw, pre, (xs.take k).flatMap g, (xs.drop k).flatMap g ++ post, by simp [Nat.min_eq_left hk], by simpa using h2, by rw [h3]; simp, h4, k3⟩⟩
end Go.Proofs.YtpoedfmkiiijnaaDoorAm
