/- Heaps that only grow; loops over a slice. Plain lemmas. -/
import Derived.Test.YtpoedfmkiiijnaaApd
namespace Go.Proofs.YtpoedfmkiiijnaaAm
open Go Go.RowKit
set_option linter.unusedVariables false
set_option linter.unusedSimpArgs false

def Gro (H H1 : Heap) : Prop := ∃ J, H1 = H ++ J
theorem Gro.refl (H : Heap) : Gro H H := ⟨[], by simp⟩
theorem Gro.app {H H1 : Heap} (g : Gro H H1) (L : Heap) : Gro H (H1 ++ L) := by obtain ⟨J, rfl⟩ := g; exact ⟨J ++ L, by simp⟩
theorem Gro.one (H L : Heap) : Gro H (H ++ L) := ⟨L, rfl⟩
theorem Gro.trans {a b c : Heap} (h : Gro a b) (k : Gro b c) : Gro a c := by obtain ⟨J, rfl⟩ := h; obtain ⟨K, rfl⟩ := k; exact ⟨J ++ K, by simp⟩
theorem Gro.len {H H1 : Heap} (g : Gro H H1) : H.length ≤ H1.length := by obtain ⟨J, rfl⟩ := g; simp
theorem Gro.get {H H1 : Heap} (g : Gro H H1) {i : Nat} {b : Blk} (h : H[i]? = some b) : H1[i]? = some b := by
  obtain ⟨J, rfl⟩ := g; rw [List.getElem?_append_left (lt_of_get h)]; exact h
theorem Gro.same {H H1 : Heap} (g : Gro H H1) {i : Nat} (h : i < H.length) : H1[i]? = H[i]? := by
  obtain ⟨J, rfl⟩ := g; rw [List.getElem?_append_left h]
theorem Gro.of {H H1 : Heap} (hl : H.length ≤ H1.length) (h : ∀ i, i < H.length → H1[i]? = H[i]?) : Gro H H1 := ⟨_, app_of_same hl h⟩
section
variable {α : Type} {sz : Nat} {R : Heap → List Nat → α → List Value → Prop} {H H1 : Heap} {E : List Nat}
theorem RS.gro {v : Value} {xs : List α} (h : RS sz R H E v xs) (g : Gro H H1) (hR : Frm R) : RS sz R H1 E v xs := by obtain ⟨J, rfl⟩ := g; exact h.ext hR
theorem RW.gro {t : TypeId} {v : Value} {xs : List α} (h : RW t sz R H E v xs) (g : Gro H H1) (hR : Frm R) : RW t sz R H1 E v xs := by obtain ⟨J, rfl⟩ := g; exact h.ext hR
theorem Frm.gro (hR : Frm R) {x : α} {cs : List Value} (h : R H E x cs) (g : Gro H H1) : R H1 E x cs := by obtain ⟨J, rfl⟩ := g; exact hR.ext h
end
theorem Own.gro {H H1 : Heap} {E : List Nat} (h : Own H E) (g : Gro H H1) : Own H1 E := ⟨h.1, fun id hi => by
  have := h.2 id hi
  unfold Heap.rwOk at this ⊢
  split at this
  · rename_i b hb; rw [g.get hb]; exact this
  · cases this⟩

/-- A cell, in this heap and in every one that grew out of it. -/
def CF (H : Heap) (id j : Nat) (x : Value) : Prop := ∀ L, Heap.cell (H ++ L) id j = some x
theorem CF.a {H : Heap} {id j : Nat} {x : Value} (h : CF H id j x) (L : Heap) : Heap.cell (H ++ L) id j = some x := h L
theorem CF.b {H : Heap} {id j : Nat} {x : Value} (h : CF H id j x) : Heap.cell H id j = some x := by have := h []; rwa [List.append_nil] at this
theorem CF.of {H : Heap} {id j : Nat} {x : Value} {b : Blk} (h : H[id]? = some b) (hl : b.live = true) (hc : b.cells[j]? = some x) : CF H id j x := fun L => by
  unfold Heap.cell; rw [List.getElem?_append_left (lt_of_get h), h]; simp [hl, hc]
theorem CF.cell {H : Heap} {id j : Nat} {x : Value} (h : Heap.cell H id j = some x) : CF H id j x := fun L => cell_app H L h
theorem CF.gro {H H1 : Heap} {id j : Nat} {x : Value} (h : CF H id j x) (g : Gro H H1) : CF H1 id j x := by
  obtain ⟨J, rfl⟩ := g; intro L; rw [List.append_assoc]; exact h _

/-- A map with integer keys of which each one holds true. -/
def encM : List Int → List Value
  | [] => []
  | s :: r => .int .i64 s :: .bool true :: encM r
theorem encM_snoc (l : List Int) (n : Int) : encM (l ++ [n]) = encM l ++ [.int .i64 n, .bool true] := by
  induction l with
  | nil => rfl
  | cons a l ih => simp [encM, ih]
theorem okM_enc (l : List Int) : okM (encM l) = true := by
  induction l with
  | nil => rfl
  | cons a l ih => simp [encM, okM, plainV, ih]
theorem lookM_enc (l : List Int) (n : Int) : lookM (encM l) n = if n ∈ l then some (.bool true) else none := by
  induction l with
  | nil => rfl
  | cons a l ih =>
    simp only [encM, lookM, ih, List.mem_cons]
    by_cases e : a = n
    · simp [e]
    · have e' : ¬ n = a := fun h => e h.symm
      simp [e, e']
theorem lookA_enc {P : Program} {H : Heap} {t : TypeId} {m : Nat} {l : List Int} (n : Int) (hz : mapZ P t = some (.bool false)) (hm : H[m]? = some ⟨t, encM l, true, false⟩) : lookA P H t (.map (some m)) (.int .i64 n) = some (.bool (decide (n ∈ l))) := by
  unfold lookA
  simp only [hm, hz, okM_enc, lookM_enc]
  by_cases e : n ∈ l <;> simp [e]
theorem mputA_enc {P : Program} {H : Heap} {t : TypeId} {m : Nat} {l : List Int} {n : Int} (hz : mapZ P t = some (.bool false)) (hm : H[m]? = some ⟨t, encM l, true, false⟩) (hn : n ∉ l) :
    mputA P H t (.map (some m)) (.int .i64 n) (.bool true) = some (m, H.set m ⟨t, encM (l ++ [n]), true, false⟩) := by
  unfold mputA
  simp only [hm, hz, okM_enc, lookM_enc, hn, if_false, plainV, encM_snoc]
  simp
/-- A row of marks: which of 0 .. n-1 are met. -/
def bitsL (n : Nat) (l : List Int) : List Value := (List.range n).map fun s : Nat => Value.bool (decide ((s : Int) ∈ l))
theorem bitsL_nil (n : Nat) : bitsL n [] = List.replicate n (.bool false) := by
  simp [bitsL, List.map_const']
theorem bitsL_len (n : Nat) (l : List Int) : (bitsL n l).length = n := by simp [bitsL]
theorem bitsL_get {n k : Nat} (h : k < n) (l : List Int) : (bitsL n l)[k]? = some (.bool (decide ((k : Int) ∈ l))) := by simp [bitsL, h]
theorem bitsL_set {n k : Nat} (h : k < n) (l : List Int) : (bitsL n l).set k (.bool true) = bitsL n (l ++ [(k : Int)]) := by
  apply List.ext_getElem?
  intro i
  rw [List.getElem?_set]
  by_cases hi : i < n
  · rw [bitsL_get hi, bitsL_get hi]
    by_cases e : k = i
    · subst e; simp [bitsL_len, h]
    · have e' : ¬ ((i : Int) = k) := by omega
      simp [e, e']
  · have e : ¬ k = i := by omega
    rw [if_neg e, List.getElem?_eq_none (by rw [bitsL_len]; omega), List.getElem?_eq_none (by rw [bitsL_len]; omega)]
theorem Gro.set {H H1 : Heap} (g : Gro H H1) {m : Nat} (h : H.length ≤ m) (b : Blk) : Gro H (H1.set m b) := by
  obtain ⟨J, rfl⟩ := g
  refine ⟨J.set (m - H.length) b, ?_⟩
  rw [List.set_append, if_neg (by omega)]

theorem RCs.plain {α : Type} {sz : Nat} {g : α → List Value} (hg : ∀ x, (g x).length = sz) (H : Heap) : ∀ xs : List α, RCs sz (RP g) H [] xs (xs.flatMap g)
  | [] => ⟨rfl, rfl⟩
  | x :: xs => ⟨[], [], g x, xs.flatMap g, rfl, by simp, hg x, ⟨rfl, rfl⟩, RCs.plain hg H xs⟩
theorem flatMap_len {α : Type} {sz : Nat} {g : α → List Value} (hg : ∀ x, (g x).length = sz) : ∀ xs : List α, (xs.flatMap g).length = xs.length * sz
  | [] => by simp
  | x :: xs => by simp [List.flatMap_cons, hg, flatMap_len hg xs, Nat.succ_mul]; omega
theorem Gro.put {H H1 : Heap} (g : Gro H H1) {m : Nat} (h : H.length ≤ m) (j : Nat) (x : Value) : Gro H (H1.put m j x) :=
  Gro.of (by rw [length_put]; exact g.len) fun i hi => by rw [get_put_ne _ _ _ (by omega)]; exact g.same hi
theorem rw_get {H : Heap} {i : Nat} {t : TypeId} {cs : List Value} (h : H[i]? = some ⟨t, cs, true, true⟩) : Heap.rwOk H i = true := by unfold Heap.rwOk; rw [h]; rfl
theorem get_mid {a m z : List Value} {n j : Nat} {x : Value} (h : a.length = n) (hm : m[j]? = some x) : (a ++ (m ++ z))[n + j]? = some x := by
  rw [List.getElem?_append_right (by omega), h, Nat.add_sub_cancel_left, List.getElem?_append_left (List.getElem?_eq_some_iff.1 hm).1]; exact hm
/-- A loop over 0 .. n-1: the slots at each round, what holds there. -/
theorem ak_rng {P : Program} {C : Cx} {R : St → Prop} {k : List It} {x : Code} {ts : List (Nat × Value)} {H : Heap} (n : Nat) (sl : Nat → List (Nat × Value)) (I : Nat → Heap → Prop) (hs : subL (sl 0) ts) (h0 : I 0 H)
    (step : ∀ i H1, i < n → I i H1 → AK P C R (.c x :: .inv (fun s' => subL (sl (i + 1)) s'.ts ∧ I (i + 1) s'.H) :: k) ⟨sl i, H1⟩)
    (last : ∀ H1, I n H1 → AK P C R (.c x :: .inv (fun _ => False) :: k) ⟨sl n, H1⟩) : AK P C R (.c (.loop x) :: k) ⟨ts, H⟩ := by
  refine ak_loopS (fun m ts' H' => ∃ i, i ≤ n ∧ m = n - i ∧ ts' = sl i ∧ I i H') n (sl 0) hs ⟨0, Nat.zero_le _, rfl, rfl, h0⟩ ?_
  rintro m ts' H' ⟨i, hi, rfl, rfl, hI⟩
  by_cases h : i < n
  · refine AW.mono (step i H' h hI) ?_
    intro e s hh
    cases e with
    | normal => exact ⟨n - (i + 1), _, by omega, hh.1, i + 1, by omega, rfl, rfl, hh.2⟩
    | exit id => exact hh
    | ret => exact hh
  · obtain rfl : i = n := by omega
    refine AW.mono (last H' hI) ?_
    intro e s hh
    cases e with
    | normal => exact hh.elim
    | exit id => exact hh
    | ret => exact hh
/-- What is known at a point of a walk, with few slots. -/
theorem ak_at {P : Program} {C : Cx} {R : St → Prop} {k : List It} {x : Code} {ts : List (Nat × Value)} {H : Heap} (sl : List (Nat × Value)) (I : Heap → Prop) (hs : subL sl ts) (h0 : I H)
    (h : ∀ H1, I H1 → AK P C R (.c x :: k) ⟨sl, H1⟩) : AK P C R (.c x :: k) ⟨ts, H⟩ := ak_subL hs (h H h0)
/-- A line within a slice of lines. -/
theorem RS.line {H : Heap} {E : List Nat} {v : Value} {ls : List Ln} (h : RS 4 RLn H E v ls) {k : Nat} (hk : k < ls.length) :
    ∃ id o v1 v2 E1 E2, v = sl id o ls.length ∧ id < H.length ∧ CF H id (o + k * 4) (iv ls[k].gone) ∧ CF H id (o + k * 4 + 1) v1 ∧ CF H id (o + k * 4 + 2) v2 ∧ CF H id (o + k * 4 + 3) (iv ls[k].drop) ∧ RS 1 RInt H E1 v1 ls[k].way ∧ RS 2 RGr H E2 v2 ls[k].grs ∧
      v1.oneCell' = true ∧ v2.oneCell' = true ∧ (∀ e, e ∈ E1 ++ E2 → e ∈ E) := by
  obtain ⟨id, o, Ek, cs, hv, hid, _, hE, hR, hsz, hc⟩ := h.at hk
  obtain ⟨E1, E2, v1, v2, rfl, rfl, hw, hg⟩ := hR
  exact ⟨id, o, v1, v2, E1, E2, hv, hid, hc 0 _ rfl, hc 1 _ rfl, hc 2 _ rfl, hc 3 _ rfl, hw, hg, hw.one, hg.one, hE⟩
theorem RS.int {H : Heap} {E : List Nat} {v : Value} {xs : List Int} (h : RS 1 RInt H E v xs) {k : Nat} (hk : k < xs.length) : ∃ id o, v = sl id o xs.length ∧ id < H.length ∧ CF H id (o + k) (iv xs[k]) := by
  obtain ⟨id, o, Ek, cs, hv, hid, _, _, hR, hsz, hc⟩ := h.at hk
  obtain ⟨_, rfl⟩ := hR
  exact ⟨id, o, hv, hid, fun L => by have := hc 0 _ rfl L; simpa using this⟩
theorem RS.gr {H : Heap} {E : List Nat} {v : Value} {xs : List Gr} (h : RS 2 RGr H E v xs) {k : Nat} (hk : k < xs.length) : ∃ id o, v = sl id o xs.length ∧ id < H.length ∧ CF H id (o + k * 2) (iv xs[k].ver) ∧ CF H id (o + k * 2 + 1) (iv xs[k].cel) := by
  obtain ⟨id, o, Ek, cs, hv, hid, _, _, hR, hsz, hc⟩ := h.at hk
  obtain ⟨_, rfl⟩ := hR
  exact ⟨id, o, hv, hid, hc 0 _ rfl, hc 1 _ rfl⟩
end Go.Proofs.YtpoedfmkiiijnaaAm
