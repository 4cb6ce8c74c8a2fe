/- What lists read as in an abstract heap. Plain definitions and lemmas. -/
import Derived.Test.YtpoedfmkiiijnaaAm9
namespace Go.Proofs.YtpoedfmkiiijnaaAm
open Go Go.RowKit
set_option linter.unusedVariables false
set_option linter.unusedSimpArgs false

abbrev iv (n : Int) : Value := .int .i64 n
/-- H' reads as H did. -/
def Ext (H H' : Heap) : Prop := H.length ≤ H'.length ∧ ∀ id j x, H.cell id j = some x → H'.cell id j = some x
theorem Ext.refl (H : Heap) : Ext H H := ⟨Nat.le_refl _, fun _ _ _ h => h⟩
theorem Ext.trans {a b c : Heap} (h : Ext a b) (k : Ext b c) : Ext a c := ⟨Nat.le_trans h.1 k.1, fun id j x e => k.2 id j x (h.2 id j x e)⟩
theorem Ext.app (H J : Heap) : Ext H (H ++ J) := ⟨by simp, fun id j x e => by
  have hlt := Heap.lt_of_live (Heap.live_of_cell e)
  unfold Heap.cell at e ⊢
  rw [List.getElem?_append_left hlt]; exact e⟩
/-! ### lists of elements, each of sz cells; E are the ids that the elements own -/
def RCs {α : Type} (sz : Nat) (R : Heap → List Nat → α → List Value → Prop) (H : Heap) : List Nat → List α → List Value → Prop
  | E, [], cs => E = [] ∧ cs = []
  | E, x :: xs, cs => ∃ E1 E2 c1 c2, E = E1 ++ E2 ∧ cs = c1 ++ c2 ∧ c1.length = sz ∧ R H E1 x c1 ∧ RCs sz R H E2 xs c2
/-- A slice value reads as a list. -/
def RS {α : Type} (sz : Nat) (R : Heap → List Nat → α → List Value → Prop) (H : Heap) (E : List Nat) (v : Value) (xs : List α) : Prop :=
  xs.length ≤ 4611686018427387904 ∧ (((v = nl ∨ v = es) ∧ xs = [] ∧ E = []) ∨ ∃ id o E' ty rw pre cs post, v = sl id o xs.length ∧ E = id :: E' ∧ H[id]? = some ⟨ty, pre ++ cs ++ post, rw, true⟩ ∧ pre.length = o ∧ RCs sz R H E' xs cs)
/-- The same, and the slice is the whole of its block, which may be written. -/
def RW {α : Type} (ty : TypeId) (sz : Nat) (R : Heap → List Nat → α → List Value → Prop) (H : Heap) (E : List Nat) (v : Value) (xs : List α) : Prop :=
  (v = nl ∧ xs = [] ∧ E = []) ∨ ∃ id E' cs, v = sl id 0 xs.length ∧ E = id :: E' ∧ H[id]? = some ⟨ty, cs, true, true⟩ ∧ RCs sz R H E' xs cs
theorem RW.rs {α : Type} {ty : TypeId} {sz : Nat} {R : Heap → List Nat → α → List Value → Prop} {H : Heap} {E : List Nat} {v : Value} {xs : List α} (h : RW ty sz R H E v xs) (hl : xs.length ≤ 4611686018427387904) : RS sz R H E v xs := by
  rcases h with h | ⟨id, E', cs, h1, h2, h3, h4⟩
  · exact ⟨hl, .inl ⟨.inl h.1, h.2⟩⟩
  · exact ⟨hl, .inr ⟨id, 0, E', ty, true, [], cs, [], h1, h2, by simpa using h3, rfl, h4⟩⟩
/-- What frames an element's reading. -/
structure Frm {α : Type} (R : Heap → List Nat → α → List Value → Prop) : Prop where
  fr : ∀ {H H' E x cs}, R H E x cs → (∀ id, id ∈ E → id < H.length → H'[id]? = H[id]?) → R H' E x cs
  bd : ∀ {H E x cs}, R H E x cs → ∀ id, id ∈ E → id < H.length
theorem lt_of_get {H : Heap} {id : Nat} {b : Blk} (h : H[id]? = some b) : id < H.length := (List.getElem?_eq_some_iff.1 h).1
section
variable {α : Type} {sz : Nat} {R : Heap → List Nat → α → List Value → Prop} {H H' : Heap} {v : Value}
theorem RCs.fr (hR : Frm R) : ∀ {xs : List α} {E : List Nat} {cs : List Value}, RCs sz R H E xs cs → (∀ id, id ∈ E → id < H.length → H'[id]? = H[id]?) → RCs sz R H' E xs cs
  | [], _, _, h, _ => h
  | x :: xs, _, _, ⟨E1, E2, c1, c2, rfl, h2, h3, h4, h5⟩, ha => ⟨E1, E2, c1, c2, rfl, h2, h3, hR.fr h4 fun id hi => ha id (by simp [hi]), h5.fr hR fun id hi => ha id (by simp [hi])⟩
theorem RCs.bd (hR : Frm R) : ∀ {xs : List α} {E : List Nat} {cs : List Value}, RCs sz R H E xs cs → ∀ id, id ∈ E → id < H.length
  | [], _, _, h, id, hi => by rw [h.1] at hi; simp at hi
  | x :: xs, _, _, ⟨E1, E2, c1, c2, rfl, h2, h3, h4, h5⟩, id, hi => by
    rcases List.mem_append.1 hi with hi | hi
    · exact hR.bd h4 id hi
    · exact h5.bd hR id hi
theorem RCs.len : ∀ {xs : List α} {E : List Nat} {cs : List Value}, RCs sz R H E xs cs → cs.length = xs.length * sz
  | [], _, _, h => by rw [h.2]; simp
  | x :: xs, _, _, ⟨E1, E2, c1, c2, _, h2, h3, h4, h5⟩ => by rw [h2, List.length_append, h3, h5.len, List.length_cons, Nat.succ_mul]; omega
theorem RCs.app : ∀ {xs ys : List α} {E1 E2 : List Nat} {c1 c2 : List Value}, RCs sz R H E1 xs c1 → RCs sz R H E2 ys c2 → RCs sz R H (E1 ++ E2) (xs ++ ys) (c1 ++ c2)
  | [], ys, _, E2, _, c2, h, k => by rw [h.1, h.2]; exact k
  | x :: xs, ys, _, E2, _, c2, ⟨A1, A2, b1, b2, h1, h2, h3, h4, h5⟩, k => ⟨A1, A2 ++ E2, b1, b2 ++ c2, by rw [h1, List.append_assoc], by rw [h2, List.append_assoc], h3, h4, h5.app k⟩
theorem RCs.split : ∀ {xs ys : List α} {E : List Nat} {cs : List Value}, RCs sz R H E (xs ++ ys) cs → ∃ E1 E2 c1 c2, E = E1 ++ E2 ∧ cs = c1 ++ c2 ∧ RCs sz R H E1 xs c1 ∧ RCs sz R H E2 ys c2
  | [], ys, E, cs, h => ⟨[], E, [], cs, rfl, rfl, ⟨rfl, rfl⟩, h⟩
  | x :: xs, ys, E, cs, ⟨A1, A2, b1, b2, h1, h2, h3, h4, h5⟩ => by
    obtain ⟨E1, E2, c1, c2, k1, k2, k3, k4⟩ := RCs.split h5
    exact ⟨A1 ++ E1, E2, b1 ++ c1, c2, by rw [h1, k1, List.append_assoc], by rw [h2, k2, List.append_assoc], ⟨A1, E1, b1, c1, rfl, rfl, h3, h4, k3⟩, k4⟩
/-- At an element: what lies ahead of it, it, and what lies behind it. -/
theorem RCs.at {xs : List α} {E : List Nat} {cs : List Value} {k : Nat} (h : RCs sz R H E xs cs) (hk : k < xs.length) : ∃ E1 Ek E2 c1 ck c2, E = E1 ++ (Ek ++ E2) ∧ cs = c1 ++ (ck ++ c2) ∧ c1.length = k * sz ∧ ck.length = sz ∧
    RCs sz R H E1 (xs.take k) c1 ∧ R H Ek xs[k] ck ∧ RCs sz R H E2 (xs.drop (k + 1)) c2 := by
  have e : xs = xs.take k ++ xs[k] :: xs.drop (k + 1) := by rw [List.getElem_cons_drop]; exact (List.take_append_drop k xs).symm
  rw [e] at h
  obtain ⟨E1, E2, c1, c2, h1, h2, h3, A1, A2, b1, b2, k1, k2, k3, k4, k5⟩ := h.split
  refine ⟨E1, A1, A2, c1, b1, b2, by rw [h1, k1], by rw [h2, k2], ?_, k3, h3, k4, k5⟩
  rw [h3.len, List.length_take, Nat.min_eq_left (by omega)]
theorem RS.fr (hR : Frm R) {E : List Nat} {xs : List α} (h : RS sz R H E v xs) (ha : ∀ id, id ∈ E → id < H.length → H'[id]? = H[id]?) : RS sz R H' E v xs := by
  obtain ⟨hl, h | ⟨id, o, E', ty, rw, pre, cs, post, h1, h2, h3, h4, h5⟩⟩ := h
  · exact ⟨hl, .inl h⟩
  · subst h2
    exact ⟨hl, .inr ⟨id, o, E', ty, rw, pre, cs, post, h1, rfl, by rw [ha id (by simp) (lt_of_get h3)]; exact h3, h4, h5.fr hR fun i hi => ha i (by simp [hi])⟩⟩
theorem RS.bd (hR : Frm R) {E : List Nat} {xs : List α} (h : RS sz R H E v xs) : ∀ id, id ∈ E → id < H.length := by
  obtain ⟨hl, ⟨_, _, h⟩ | ⟨id, o, E', ty, rw, pre, cs, post, h1, h2, h3, h4, h5⟩⟩ := h
  · intro id hi; rw [h] at hi; simp at hi
  · subst h2
    intro i hi
    rcases List.mem_cons.1 hi with rfl | hi
    · exact lt_of_get h3
    · exact h5.bd hR i hi
theorem RW.fr {t : TypeId} (hR : Frm R) {E : List Nat} {xs : List α} (h : RW t sz R H E v xs) (ha : ∀ id, id ∈ E → id < H.length → H'[id]? = H[id]?) : RW t sz R H' E v xs := by
  rcases h with h | ⟨id, E', cs, h1, h2, h3, h5⟩
  · exact .inl h
  · subst h2
    exact .inr ⟨id, E', cs, h1, rfl, by rw [ha id (by simp) (lt_of_get h3)]; exact h3, h5.fr hR fun i hi => ha i (by simp [hi])⟩
theorem RW.bd {t : TypeId} (hR : Frm R) {E : List Nat} {xs : List α} (h : RW t sz R H E v xs) : ∀ id, id ∈ E → id < H.length := by
  rcases h with ⟨_, _, h⟩ | ⟨id, E', cs, h1, h2, h3, h5⟩
  · intro id hi; rw [h] at hi; simp at hi
  · subst h2
    intro i hi
    rcases List.mem_cons.1 hi with rfl | hi
    · exact lt_of_get h3
    · exact h5.bd hR i hi
theorem RS.form {E : List Nat} {xs : List α} (h : RS sz R H E v xs) : ∃ a c, v = .slice a xs.length c := by
  obtain ⟨_, ⟨rfl | rfl, rfl, _⟩ | ⟨id, o, E', ty, rw, pre, cs, post, rfl, _⟩⟩ := h
  · exact ⟨_, _, rfl⟩
  · exact ⟨_, _, rfl⟩
  · exact ⟨_, _, rfl⟩
theorem RS.one {E : List Nat} {xs : List α} (h : RS sz R H E v xs) : v.oneCell' = true := by
  obtain ⟨a, c, rfl⟩ := h.form; rfl
theorem RS.cv {E : List Nat} {xs : List α} (h : RS sz R H E v xs) : cellsV v = [v] := by
  obtain ⟨a, c, rfl⟩ := h.form; rfl
theorem RW.form {t : TypeId} {E : List Nat} {xs : List α} (h : RW t sz R H E v xs) : ∃ a c, v = .slice a xs.length c := by
  rcases h with ⟨rfl, rfl, _⟩ | ⟨id, E', cs, rfl, _⟩
  · exact ⟨_, _, rfl⟩
  · exact ⟨_, _, rfl⟩
/-- Where there is an element. -/
theorem RS.at {E : List Nat} {xs : List α} (h : RS sz R H E v xs) {k : Nat} (hk : k < xs.length) :
    ∃ id o Ek cs, v = sl id o xs.length ∧ id < H.length ∧ id ∈ E ∧ (∀ e, e ∈ Ek → e ∈ E) ∧ R H Ek xs[k] cs ∧ cs.length = sz ∧ ∀ (i : Nat) (c : Value), cs[i]? = some c → ∀ L, Heap.cell (H ++ L) id (o + k * sz + i) = some c := by
  obtain ⟨hl, ⟨_, rfl, _⟩ | ⟨id, o, E', ty, rw, pre, cs, post, h1, h2, h3, h4, h5⟩⟩ := h
  · simp at hk
  · subst h2
    obtain ⟨E1, Ek, E2, c1, ck, c2, k1, k2, k3, k4, k5, k6, k7⟩ := h5.at hk
    refine ⟨id, o, Ek, ck, h1, lt_of_get h3, by simp, fun e he => by rw [k1]; simp [he], k6, k4, fun i c hc L => ?_⟩
    unfold Heap.cell
    rw [List.getElem?_append_left (lt_of_get h3), h3]
    have hi := (List.getElem?_eq_some_iff.1 hc).1
    simp only [if_true]
    rw [k2, List.append_assoc, List.getElem?_append_right (by omega), h4, show o + k * sz + i - o = k * sz + i by omega, List.append_assoc, List.getElem?_append_right (by omega), k3, show k * sz + i - k * sz = i by omega, List.append_assoc, List.getElem?_append_left (by omega)]
    exact hc
end
theorem agr_app (H L : Heap) (E : List Nat) : ∀ id, id ∈ E → id < H.length → (H ++ L)[id]? = H[id]? := fun id _ h => List.getElem?_append_left h
theorem RS.ext {α : Type} {sz : Nat} {R : Heap → List Nat → α → List Value → Prop} {H L : Heap} {v : Value} {E : List Nat} {xs : List α} (h : RS sz R H E v xs) (hR : Frm R) : RS sz R (H ++ L) E v xs := h.fr hR (agr_app H L E)
theorem RW.ext {α : Type} {sz : Nat} {R : Heap → List Nat → α → List Value → Prop} {H L : Heap} {v : Value} {E : List Nat} {xs : List α} {t : TypeId} (h : RW t sz R H E v xs) (hR : Frm R) : RW t sz R (H ++ L) E v xs := h.fr hR (agr_app H L E)
theorem Frm.ext {α : Type} {R : Heap → List Nat → α → List Value → Prop} (hR : Frm R) {H L : Heap} {E : List Nat} {x : α} {cs : List Value} (h : R H E x cs) : R (H ++ L) E x cs := hR.fr h (agr_app H L E)
/-- Elements that own nothing. -/
def RP {α : Type} (f : α → List Value) (_ : Heap) (E : List Nat) (x : α) (cs : List Value) : Prop := E = [] ∧ cs = f x
theorem RP.frm {α : Type} (f : α → List Value) : Frm (RP f) := ⟨fun h _ => h, fun h id hi => by rw [h.1] at hi; simp at hi⟩
theorem cell_app (H J : Heap) {id j : Nat} {x : Value} (h : H.cell id j = some x) : Heap.cell (H ++ J) id j = some x := (Ext.app H J).2 id j x h
theorem cell_new (H : Heap) (b : Blk) (j : Nat) : Heap.cell (H ++ [b]) H.length j = if b.live then b.cells[j]? else none := by simp [Heap.cell]

/-! ### reckoning with a heap that has grown -/
theorem cell_at (H L : Heap) (i j : Nat) : Heap.cell (H ++ L) (H.length + i) j = Heap.cell L i j := by
  unfold Heap.cell
  rw [List.getElem?_append_right (by omega)]
  simp
theorem cell_at0 (H L : Heap) (j : Nat) : Heap.cell (H ++ L) H.length j = Heap.cell L 0 j := cell_at H L 0 j
theorem modify_at (H L : Heap) (i : Nat) (f : Blk → Blk) : (H ++ L).modify (H.length + i) f = H ++ L.modify i f := by
  apply List.ext_getElem?
  intro k
  rw [List.getElem?_modify]
  by_cases hk : k < H.length
  · have hne : ¬ (H.length + i = k) := by omega
    rw [List.getElem?_append_left hk, List.getElem?_append_left hk]
    simp [hne]
  · rw [List.getElem?_append_right (by omega), List.getElem?_append_right (by omega), List.getElem?_modify]
    by_cases e : H.length + i = k
    · have e' : i = k - H.length := by omega
      subst e; simp
    · have e' : ¬ i = k - H.length := by omega
      simp [e, e']
theorem put_at (H L : Heap) (i j : Nat) (x : Value) : Heap.put (H ++ L) (H.length + i) j x = H ++ Heap.put L i j x := by
  unfold Heap.put; exact modify_at H L i _
theorem put_at0 (H L : Heap) (j : Nat) (x : Value) : Heap.put (H ++ L) H.length j x = H ++ Heap.put L 0 j x := put_at H L 0 j x
theorem rw_at (H L : Heap) (i : Nat) : Heap.rwOk (H ++ L) (H.length + i) = Heap.rwOk L i := by
  unfold Heap.rwOk
  rw [List.getElem?_append_right (by omega)]
  simp
theorem rw_at0 (H L : Heap) : Heap.rwOk (H ++ L) H.length = Heap.rwOk L 0 := rw_at H L 0
theorem get_at (H L : Heap) (i : Nat) : (H ++ L)[H.length + i]? = L[i]? := by
  rw [List.getElem?_append_right (by omega)]; simp
theorem get_at0 (H L : Heap) : (H ++ L)[H.length]? = L[0]? := get_at H L 0
theorem kill_at (H L : Heap) (i : Nat) : Heap.kill (H ++ L) (H.length + i) = H ++ Heap.kill L i := by
  unfold Heap.kill; exact modify_at H L i _
theorem kill_at0 (H L : Heap) : Heap.kill (H ++ L) H.length = H ++ Heap.kill L 0 := kill_at H L 0
theorem cell_c0 (b : Blk) (L : Heap) (j : Nat) : Heap.cell (b :: L) 0 j = if b.live then b.cells[j]? else none := rfl
theorem cell_cs (b : Blk) (L : Heap) (i j : Nat) : Heap.cell (b :: L) (i + 1) j = Heap.cell L i j := rfl
theorem put_c0 (b : Blk) (L : Heap) (j : Nat) (x : Value) : Heap.put (b :: L) 0 j x = { b with cells := b.cells.set j x } :: L := rfl
theorem put_cs (b : Blk) (L : Heap) (i j : Nat) (x : Value) : Heap.put (b :: L) (i + 1) j x = b :: Heap.put L i j x := rfl
theorem rw_c0 (b : Blk) (L : Heap) : Heap.rwOk (b :: L) 0 = (b.live && b.rw) := rfl
theorem rw_cs (b : Blk) (L : Heap) (i : Nat) : Heap.rwOk (b :: L) (i + 1) = Heap.rwOk L i := rfl
theorem kill_c0 (b : Blk) (L : Heap) : Heap.kill (b :: L) 0 = { b with rw := false, live := false } :: L := rfl
theorem kill_cs (b : Blk) (L : Heap) (i : Nat) : Heap.kill (b :: L) (i + 1) = b :: Heap.kill L i := rfl
theorem set_at (H L : Heap) (i : Nat) (b : Blk) : List.set (H ++ L) (H.length + i) b = H ++ List.set L i b := by
  rw [List.set_append, if_neg (by omega), Nat.add_sub_cancel_left]
theorem set_at0 (H L : Heap) (b : Blk) : List.set (H ++ L) H.length b = H ++ List.set L 0 b := set_at H L 0 b
theorem set_c0 (a b : Blk) (L : Heap) : List.set (a :: L) 0 b = b :: L := rfl
theorem set_cs (a b : Blk) (L : Heap) (i : Nat) : List.set (a :: L) (i + 1) b = a :: List.set L i b := rfl
theorem live_at (H L : Heap) (i : Nat) : Heap.live (H ++ L) (H.length + i) = Heap.live L i := by
  unfold Heap.live
  rw [List.getElem?_append_right (by omega)]
  simp
theorem live_at0 (H L : Heap) : Heap.live (H ++ L) H.length = Heap.live L 0 := live_at H L 0
theorem live_c0 (b : Blk) (L : Heap) : Heap.live (b :: L) 0 = b.live := rfl
theorem live_cs (b : Blk) (L : Heap) (i : Nat) : Heap.live (b :: L) (i + 1) = Heap.live L i := rfl
theorem hot_at (H L : Heap) (i : Nat) : Heap.hot (H ++ L) (H.length + i) = Heap.hot L i := by
  unfold Heap.hot
  rw [List.getElem?_append_right (by omega)]
  simp
theorem hot_at0 (H L : Heap) : Heap.hot (H ++ L) H.length = Heap.hot L 0 := hot_at H L 0
theorem hot_c0 (b : Blk) (L : Heap) : Heap.hot (b :: L) 0 = (b.live || b.rw) := rfl
theorem hot_cs (b : Blk) (L : Heap) (i : Nat) : Heap.hot (b :: L) (i + 1) = Heap.hot L i := rfl
/-- What is held in few slots, out of many. -/
def subL : List (Nat × Value) → List (Nat × Value) → Prop
  | [], _ => True
  | (k, v) :: r, l => getT l k = some v ∧ subL r l
theorem subL.sub : ∀ {a b : List (Nat × Value)}, subL a b → ∀ t v, getT a t = some v → getT b t = some v
  | [], b, _, t, v, h => by simp [getT] at h
  | (k, u) :: r, b, h, t, v, hv => by
    simp only [getT] at hv
    split at hv
    · rename_i e; subst e; cases hv; exact h.1
    · exact h.2.sub t v hv
theorem ak_subL {P : Program} {C : Cx} {R : St → Prop} {k : List It} {x : Code} {ts ts' : List (Nat × Value)} {H : Heap} (hs : subL ts' ts) (h : AK P C R (.c x :: k) ⟨ts', H⟩) : AK P C R (.c x :: k) ⟨ts, H⟩ := ak_sub hs.sub h
/-- A loop: few slots, the heap, and a number that falls. -/
theorem ak_loopS {P : Program} {C : Cx} {R : St → Prop} {k : List It} {x : Code} {ts : List (Nat × Value)} {H : Heap} (I : Nat → List (Nat × Value) → Heap → Prop) (n : Nat) (ts0 : List (Nat × Value)) (hs : subL ts0 ts) (h0 : I n ts0 H)
    (hI : ∀ n ts H, I n ts H → AK P C R (.c x :: .inv (fun s' => ∃ m ts', m < n ∧ subL ts' s'.ts ∧ I m ts' s'.H) :: k) ⟨ts, H⟩) : AK P C R (.c (.loop x) :: k) ⟨ts, H⟩ := by
  refine ak_loop (fun n s => ∃ ts', subL ts' s.ts ∧ I n ts' s.H) n ⟨ts0, hs, h0⟩ ?_
  rintro n ⟨ts1, H1⟩ ⟨ts', hs', hi⟩
  refine AW.mono (ak_subL hs' (hI n ts' H1 hi)) ?_
  intro e s h
  cases e with
  | normal => obtain ⟨m, ts'', h1, h2, h3⟩ := h; exact ⟨m, h1, ts'', h2, h3⟩
  | exit id => exact h
  | ret => exact h
theorem one_int (k : IntKind) (n : Int) : (Value.int k n).oneCell' = true := rfl
theorem one_bool (b : Bool) : (Value.bool b).oneCell' = true := rfl
theorem one_slice (a : Option Addr) (n c : Nat) : (Value.slice a n c).oneCell' = true := rfl
theorem one_ptr (a : Option Addr) : (Value.pointer a).oneCell' = true := rfl
theorem cv_agg (cs : Array Value) : cellsV (.agg cs) = cs.toList := rfl
theorem cv_int (k : IntKind) (n : Int) : cellsV (.int k n) = [.int k n] := rfl
theorem cv_bool (b : Bool) : cellsV (.bool b) = [.bool b] := rfl
theorem cv_slice (a : Option Addr) (n c : Nat) : cellsV (.slice a n c) = [.slice a n c] := rfl
theorem cv_ptr (a : Option Addr) : cellsV (.pointer a) = [.pointer a] := rfl
theorem offs11 (a : Nat) : a + 1 + 1 = a + 2 := rfl
theorem offs12 (a : Nat) : a + 1 + 2 = a + 3 := rfl
theorem offs13 (a : Nat) : a + 1 + 3 = a + 4 := rfl
theorem offs14 (a : Nat) : a + 1 + 4 = a + 5 := rfl
theorem offs21 (a : Nat) : a + 2 + 1 = a + 3 := rfl
theorem offs22 (a : Nat) : a + 2 + 2 = a + 4 := rfl
theorem offs23 (a : Nat) : a + 2 + 3 = a + 5 := rfl
theorem offs24 (a : Nat) : a + 2 + 4 = a + 6 := rfl
theorem wrap_id {x : Int} (h0 : -9223372036854775808 ≤ x) (h1 : x ≤ 9223372036854775807) : IntKind.i64.wrap x = x := by
  rw [IntKind.wrap_i64]; omega
end Go.Proofs.YtpoedfmkiiijnaaAm
