/- A statement's arguments, read: they lie in an abstract heap of blocks that nobody writes. Plain lemmas. -/
import Derived.Test.YtpoedfmkiiijnaaRng
import Derived.Below
import Derived.ChangeOld
namespace Go.Proofs.YtpoedfmkiiijnaaAm
open Go Go.RowKit
set_option linter.unusedVariables false
set_option linter.unusedSimpArgs false

/-- It can be read as data of type t. -/
def Rdb {H : Type} (enc : TypeId × Value → H) (P : Program) (W : World) (t : TypeId) (cs : List Value) : Prop := ∃ fuel x, DataW.trod enc P W 0 (fun _ => true) true fuel t cs = some x ∧ (x.1.weights P t).all (· ≤ reachBytes) = true
theorem mapM_mem {α β : Type} {f : α → Option β} : ∀ {l : List α} {r : List β}, l.mapM f = some r → ∀ x, x ∈ l → ∃ y, f x = some y
  | [], r, _, x, hx => by simp at hx
  | a :: l, r, h, x, hx => by
    simp only [List.mapM_cons] at h
    cases ha : f a with
    | none => rw [ha] at h; simp at h
    | some b =>
      rw [ha] at h
      cases hl : l.mapM f with
      | none => rw [hl] at h; simp at h
      | some r' =>
        rcases List.mem_cons.1 hx with rfl | hx
        · exact ⟨b, ha⟩
        · exact mapM_mem hl x hx
theorem mapM_len {α β : Type} {f : α → Option β} : ∀ {l : List α} {r : List β}, l.mapM f = some r → r.length = l.length
  | [], r, h => by simp at h; subst h; rfl
  | a :: l, r, h => by
    simp only [List.mapM_cons] at h
    cases ha : f a with
    | none => rw [ha] at h; simp at h
    | some b =>
      rw [ha] at h
      cases hl : l.mapM f with
      | none => rw [hl] at h; simp at h
      | some r' => rw [hl] at h; simp at h; subst h; simp [mapM_len hl]
theorem mapM_each {H : Type} {P : Program} {p : Nat → Bool} {f : Field → Option (DataW H × List MemPlace)} : ∀ {l : List Field} {r : List (DataW H × List MemPlace)}, l.mapM f = some r → (DataW.weightsEach P (l.map (·.type)) (r.map (·.1))).all p = true →
    ∀ x, x ∈ l → ∃ y, f x = some y ∧ (y.1.weights P x.type).all p = true
  | [], r, _, _, x, hx => by simp at hx
  | a :: l, r, h, hw, x, hx => by
    simp only [List.mapM_cons] at h
    cases ha : f a with
    | none => rw [ha] at h; simp at h
    | some b =>
      rw [ha] at h
      cases hl : l.mapM f with
      | none => rw [hl] at h; simp at h
      | some r' =>
        rw [hl] at h; simp at h; subst h
        simp only [List.map_cons, DataW.weightsEach, List.all_append, Bool.and_eq_true] at hw
        rcases List.mem_cons.1 hx with rfl | hx
        · exact ⟨b, ha, hw.1⟩
        · exact mapM_each hl hw.2 x hx
theorem mapM_all {H : Type} {P : Program} {p : Nat → Bool} {e : TypeId} {f : Nat → Option (DataW H × List MemPlace)} : ∀ {l : List Nat} {r : List (DataW H × List MemPlace)}, l.mapM f = some r → (DataW.weightsAll P e (r.map (·.1))).all p = true →
    ∀ x, x ∈ l → ∃ y, f x = some y ∧ (y.1.weights P e).all p = true
  | [], r, _, _, x, hx => by simp at hx
  | a :: l, r, h, hw, x, hx => by
    simp only [List.mapM_cons] at h
    cases ha : f a with
    | none => rw [ha] at h; simp at h
    | some b =>
      rw [ha] at h
      cases hl : l.mapM f with
      | none => rw [hl] at h; simp at h
      | some r' =>
        rw [hl] at h; simp at h; subst h
        simp only [List.map_cons, DataW.weightsAll, List.all_append, Bool.and_eq_true] at hw
        rcases List.mem_cons.1 hx with rfl | hx
        · exact ⟨b, ha, hw.1⟩
        · exact mapM_all hl hw.2 x hx
section
variable {HH : Type} {enc : TypeId × Value → HH} {P : Program} {W : World}
theorem rd_int {t : TypeId} {k : IntKind} {cs : List Value} (ht : P.underlying t = some (.int k)) (h : Rdb enc P W t cs) : ∃ n, cs = [.int k n] := by
  obtain ⟨fuel, x, h, hw⟩ := h
  cases fuel with
  | zero => simp [DataW.trod] at h
  | succ fuel =>
    unfold DataW.trod at h
    rw [ht] at h
    split at h <;> simp_all
theorem rd_bool {t : TypeId} {cs : List Value} (ht : P.underlying t = some .bool) (h : Rdb enc P W t cs) : ∃ b, cs = [.bool b] := by
  obtain ⟨fuel, x, h, hw⟩ := h
  cases fuel with
  | zero => simp [DataW.trod] at h
  | succ fuel =>
    unfold DataW.trod at h
    rw [ht] at h
    split at h <;> simp_all
theorem rd_struct {t : TypeId} {fs : Array Field} {cs : List Value} (ht : P.underlying t = some (.struct fs)) (h : Rdb enc P W t cs) :
    cs.length = P.cellsOf t ∧ ∀ f, f ∈ fs.toList → Rdb enc P W f.type ((cs.drop f.offset).take (P.cellsOf f.type)) := by
  obtain ⟨fuel, x, h, hw⟩ := h
  cases fuel with
  | zero => simp [DataW.trod] at h
  | succ fuel =>
    unfold DataW.trod at h
    rw [ht] at h
    dsimp only at h
    split at h
    · rename_i h1
      obtain ⟨y, h2, rfl⟩ := Option.map_eq_some_iff.1 h
      simp only [DataW.weights, ht] at hw
      exact ⟨h1, fun f hf => by
        obtain ⟨z, hz, hzw⟩ := mapM_each h2 hw f hf
        exact ⟨fuel, z, hz, hzw⟩⟩
    · cases h
theorem rd_slice {t e : TypeId} {cs : List Value} (ht : P.underlying t = some (.slice e)) (hby : 0 < P.bytesOf e) (h : Rdb enc P W t cs) :
    cs = [nl] ∨ ∃ a len cap, cs = [.slice (some a) len cap] ∧ len ≤ cap ∧ len ≤ reachBytes ∧ ∀ i, i < len → ∃ ces, W.cells? 0 (a.add (i * P.cellsOf e)) (P.cellsOf e) = some ces ∧ Rdb enc P W e ces := by
  obtain ⟨fuel, x, h, hw⟩ := h
  cases fuel with
  | zero => simp [DataW.trod] at h
  | succ fuel =>
    unfold DataW.trod at h
    rw [ht] at h
    split at h
    all_goals try (exfalso; simp_all; done)
    · exact .inl rfl
    · rename_i e' a len cap he
      cases he
      dsimp only at h
      split at h
      · rename_i hh
        obtain ⟨y, h3, h4⟩ := Option.bind_eq_some_iff.1 h
        obtain ⟨rest, _, rfl⟩ := Option.map_eq_some_iff.1 h4
        simp only [DataW.weights, ht, List.all_cons, List.all_append, Bool.and_eq_true, decide_eq_true_eq, List.length_map] at hw
        have hyl := mapM_len h3
        rw [List.length_range] at hyl
        refine .inr ⟨a, len, cap, rfl, hh.2.1, ?_, fun i hi => ?_⟩
        · have h5 := hw.1
          have : len ≤ (y.length + rest.length) * P.bytesOf e := by
            rw [hyl]; exact Nat.le_trans (Nat.le_add_right _ _) (Nat.le_mul_of_pos_right _ hby)
          omega
        · obtain ⟨z, hz, hzw⟩ := mapM_all h3 hw.2.1 i (by simpa using hi)
          obtain ⟨ces, c1, c2⟩ := Option.bind_eq_some_iff.1 hz
          exact ⟨ces, c1, fuel, z, c2, hzw⟩
      · cases h

/-- A heap of inputs: nothing in it may be written. -/
structure HRi (P : Program) (W : World) (φ : Phi) (H : Heap) : Prop where
  hr : HR P W.heap.size φ H W
  ro : ∀ id L, φ id = some L → L.rw = false
  al : ∀ (id : Nat) (b : Blk), H[id]? = some b → b.rw = false ∧ b.live = true
theorem HRi.none (P : Program) (W : World) : HRi P W (fun _ => Option.none) [] :=
  ⟨⟨fun _ _ h => (by cases h), fun _ _ h => (by cases h), fun _ _ h => (by cases h), fun _ _ _ _ h => (by cases h), fun _ _ _ h => (by cases h), fun _ _ _ h => (by cases h), fun _ _ _ _ h => (by cases h), fun _ _ _ h => (by cases h)⟩,
    fun _ _ h => (by cases h), fun _ _ h => by simp at h⟩
theorem HRi.add {φ : Phi} {H : Heap} (h : HRi P W φ H) {b off : Nat} {ty : TypeId} {xs : List Value} (hb : b < W.heap.size) (hv : ∀ (j : Nat) (x : Value), xs[j]? = some x → ∃ y, VR φ x y ∧ W.cell? ⟨b, off + j, Option.none⟩ = some y) :
    HRi P W (φ.set H.length ⟨b, off, 0, false⟩) (H ++ [⟨ty, xs, false, true⟩]) ∧ φ.le (φ.set H.length ⟨b, off, 0, false⟩) := by
  have hnone : φ H.length = Option.none := by
    cases e : φ H.length with
    | none => rfl
    | some L => exact absurd (h.hr.dom _ _ e) (Nat.lt_irrefl _)
  have hle := Phi.le_set (L := ⟨b, off, 0, false⟩) hnone
  have hlast : (H ++ [(⟨ty, xs, false, true⟩ : Blk)])[H.length]? = some ⟨ty, xs, false, true⟩ := by simp
  have hprev : ∀ id, id < H.length → (H ++ [(⟨ty, xs, false, true⟩ : Blk)])[id]? = H[id]? := fun id hi => by rw [List.getElem?_append_left hi]
  have hro : ∀ id L, φ.set H.length ⟨b, off, 0, false⟩ id = some L → L.rw = false := fun id L hL => by
    by_cases e : id = H.length
    · subst e; rw [Phi.set_same] at hL; cases hL; rfl
    · rw [Phi.set_ne _ _ e] at hL; exact h.ro _ _ hL
  have hal : ∀ (id : Nat) (c : Blk), (H ++ [(⟨ty, xs, false, true⟩ : Blk)])[id]? = some c → c.rw = false ∧ c.live = true := fun id c hc => by
    by_cases hi : id < H.length
    · rw [hprev id hi] at hc; exact h.al id c hc
    · have : id = H.length := by have := lt_of_get hc; simp at this; omega
      subst this; rw [hlast] at hc; cases hc; exact ⟨rfl, rfl⟩
  refine ⟨⟨⟨?_, ?_, ?_, ?_, ?_, ?_, ?_, ?_⟩, hro, hal⟩, hle⟩
  · intro id L hL
    by_cases e : id = H.length
    · subst e; simp
    · rw [Phi.set_ne _ _ e] at hL; have := h.hr.dom _ _ hL; simp; omega
  · intro id L hL _
    by_cases e : id = H.length
    · subst e; rw [Phi.set_same] at hL; cases hL; exact hb
    · rw [Phi.set_ne _ _ e] at hL; exact h.hr.ro _ _ hL (h.ro _ _ hL)
  · intro id L hL
    by_cases e : id = H.length
    · subst e; rw [Phi.set_same] at hL; cases hL; exact hb
    · rw [Phi.set_ne _ _ e] at hL; exact h.hr.lt _ _ hL
  · intro id L j x hL hx
    by_cases e : id = H.length
    · subst e
      rw [Phi.set_same] at hL; cases hL
      simp only [Heap.cell, hlast, if_true] at hx
      obtain ⟨y, hy, hc⟩ := hv j x hx
      exact ⟨y, hy.mono hle, hc⟩
    · rw [Phi.set_ne _ _ e] at hL
      have hlt := h.hr.dom _ _ hL
      simp only [Heap.cell, hprev id hlt] at hx
      obtain ⟨y, hy, hc⟩ := h.hr.cell id L j x hL hx
      exact ⟨y, hy.mono hle, hc⟩
  · intro id L c hL hr; rw [hro id L hL] at hr; cases hr
  · intro id L c hL hc hr; rw [(hal id c hc).1] at hr; cases hr
  · intro id id' L L' hL _ hr; rw [hro id L hL] at hr; cases hr
  · intro id L c hL hc hl; rw [(hal id c hc).2] at hl; cases hl

theorem add_add (a : Addr) (m k : Nat) : (a.add m).add k = a.add (m + k) := by
  unfold Addr.add
  by_cases h1 : m = 0
  · subst h1; simp
  · by_cases h2 : k = 0
    · subst h2; simp
    · simp [h1, h2, Nat.add_assoc]
/-- Cells that can be read as type t are laid in an input heap, and read there as x. -/
def Lays (HH : Type) (enc : TypeId × Value → HH) (P : Program) (W : World) {α : Type} (t : TypeId) (R : Heap → List Nat → α → List Value → Prop) : Prop :=
  ∀ φ H cs, Rdb enc P W t cs → HRi P W φ H → ∃ φ' J x xs E, HRi P W φ' (H ++ J) ∧ φ.le φ' ∧ R (H ++ J) E x xs ∧ VRs φ' xs cs
theorem lays_cells {α : Type} {e : TypeId} {R : Heap → List Nat → α → List Value → Prop} (hE : Lays HH enc P W e R) (hR : Frm R) {a : Addr} : ∀ (len : Nat) (φ : Phi) (H : Heap), HRi P W φ H →
    (∀ i, i < len → ∃ ces, W.cells? 0 (a.add (i * P.cellsOf e)) (P.cellsOf e) = some ces ∧ Rdb enc P W e ces) →
    ∃ φ' J xs cells E ds, HRi P W φ' (H ++ J) ∧ φ.le φ' ∧ RCs (P.cellsOf e) R (H ++ J) E xs cells ∧ xs.length = len ∧ VRs φ' cells ds ∧ ∀ (j : Nat) (y : Value), ds[j]? = some y → W.cell? (a.add j) = some y
  | 0, φ, H, h, _ => ⟨φ, [], [], [], [], [], by simpa using h, Phi.le_refl _, ⟨rfl, rfl⟩, rfl, .nil _, fun j y hy => by simp at hy⟩
  | n + 1, φ, H, h, hc => by
    obtain ⟨φ1, J1, xs, cells, E1, ds, i1, l1, r1, n1, v1, w1⟩ := lays_cells hE hR n φ H h fun i hi => hc i (by omega)
    obtain ⟨ces, hces, hrd⟩ := hc n (by omega)
    obtain ⟨φ2, J2, x, ys, E2, i2, l2, r2, v2⟩ := hE φ1 (H ++ J1) ces hrd i1
    obtain ⟨_, hlen, hcell⟩ := World.cells?_some hces
    have hyl : ys.length = P.cellsOf e := by rw [v2.1]; exact hlen
    have hdl : ds.length = n * P.cellsOf e := by rw [← v1.1, r1.len, n1]
    refine ⟨φ2, J1 ++ J2, xs ++ [x], cells ++ ys, E1 ++ E2, ds ++ ces, by rw [← List.append_assoc]; exact i2, Phi.le_trans l1 l2, ?_, by simp [n1], (v1.mono l2).append v2, fun j y hy => ?_⟩
    · rw [← List.append_assoc]
      have := (r1.fr hR (agr_app (H ++ J1) J2 E1)).app (show RCs (P.cellsOf e) R (H ++ J1 ++ J2) E2 [x] ys from ⟨E2, [], ys, [], by simp, by simp, hyl, r2, rfl, rfl⟩)
      exact this
    · by_cases hj : j < ds.length
      · rw [List.getElem?_append_left hj] at hy; exact w1 j y hy
      · rw [List.getElem?_append_right (by omega)] at hy
        have hlt := (List.getElem?_eq_some_iff.1 hy).1
        have := hcell (j - ds.length) (by omega)
        rw [add_add, hy] at this
        rw [← this]
        congr 2; omega
theorem lays_slice {α : Type} {t e : TypeId} {sz : Nat} {R : Heap → List Nat → α → List Value → Prop} (ht : P.underlying t = some (.slice e)) (hsz : P.cellsOf e = sz + 1) (hby : 0 < P.bytesOf e) (hE : Lays HH enc P W e R) (hR : Frm R) :
    Lays HH enc P W t fun H E xs cs => ∃ v, cs = [v] ∧ RS (sz + 1) R H E v xs := by
  intro φ H cs hrd h
  rcases rd_slice ht hby hrd with rfl | ⟨a, len, cap, rfl, h1, h2, h3⟩
  · exact ⟨φ, [], [], [nl], [], by simpa using h, Phi.le_refl _, ⟨nl, rfl, by simp, .inl ⟨.inl rfl, rfl, rfl⟩⟩, .cons .nils (.nil _)⟩
  · by_cases h0 : len = 0
    · subst h0
      exact ⟨φ, [], [], [es], [], by simpa using h, Phi.le_refl _, ⟨es, rfl, by simp, .inl ⟨.inr rfl, rfl, rfl⟩⟩, .cons (.emp _ _) (.nil _)⟩
    · obtain ⟨φ1, J, xs, cells, E, ds, i1, l1, r1, n1, v1, w1⟩ := lays_cells hE hR (a := a) len φ H h h3
      rw [hsz] at r1
      have hlen := r1.len
      have hdl : 0 < ds.length := by rw [← v1.1, hlen, n1]; exact Nat.mul_pos (by omega) (by omega)
      have hc0 := w1 0 ds[0] (by simp [hdl])
      have hsp := World.cell?_spot hc0
      rw [show a.add 0 = a by simp [Addr.add]] at hsp hc0
      obtain ⟨b, off, spot⟩ := a
      simp only at hsp
      subst hsp
      have hb : b < W.heap.size := cell_lt hc0
      obtain ⟨i2, l2⟩ := i1.add (b := b) (off := off) (ty := e) (xs := cells) hb fun j x hx => by
        have hj : j < ds.length := by rw [← v1.1]; exact (List.getElem?_eq_some_iff.1 hx).1
        refine ⟨ds[j], v1.2 j x _ hx (by simp [hj]), ?_⟩
        have := w1 j ds[j] (by simp [hj])
        rwa [add_plain'] at this
      refine ⟨_, J ++ [⟨e, cells, false, true⟩], xs, [sl (H ++ J).length 0 len], (H ++ J).length :: E, by rw [← List.append_assoc]; exact i2, Phi.le_trans l1 l2, ⟨_, rfl, ?_, .inr ⟨(H ++ J).length, 0, E, e, false, [], cells, [], by rw [n1], rfl, ?_, rfl, ?_⟩⟩, .cons ?_ (.nil _)⟩
      · rw [n1]; simp only [reachBytes] at h2; omega
      · rw [← List.append_assoc]; simp
      · rw [← List.append_assoc]; exact r1.fr hR (agr_app _ _ _)
      · have := VR.slc (o := 0) (n := len) (c := cap) (Phi.set_same φ1 (H ++ J).length ⟨b, off, 0, false⟩) h1 (fun hr _ => by cases hr)
        exact this
end
end Go.Proofs.YtpoedfmkiiijnaaAm
