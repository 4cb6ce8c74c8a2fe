/- The abstract machine, part 4: loads, stores, new blocks, append, under the invariant that a call keeps. Plain lemmas; no program in sight. -/
import Derived.Test.YtpoedfmkiiijnaaAm3
import Derived.Maps.AppendAt
import Derived.Laws.OwnMore
namespace Go.Proofs.YtpoedfmkiiijnaaAm
open Go Go.RowKit
set_option linter.unusedVariables false
set_option linter.unusedSimpArgs false

/-! ### loads -/
def ldC (H : Heap) (id o : Nat) : Nat → Option (List Value)
  | 0 => some []
  | n + 1 => match H.cell id o, ldC H id (o + 1) n with
    | some x, some l => some (x :: l)
    | _, _ => none
def ldA (P : Program) (H : Heap) (t : TypeId) (a : Value) : Option Value :=
  match a with
  | .pointer (some ⟨id, o, none⟩) => match aggO P t, szO P t with
    | some true, some (n + 1) => match ldC H id o (n + 1) with
      | some l => some (.agg l.toArray)
      | none => none
    | some false, _ => H.cell id o
    | _, _ => none
  | _ => none
theorem ldC_sound {P : Program} {B0 : Nat} {φ : Phi} {H : Heap} {w : World} (h : HR P B0 φ H w) {id : Nat} {L : Loc} (hL : φ id = some L) : ∀ {n o : Nat} {l : List Value}, ldC H id o n = some l →
    ∃ l', VRs φ l l' ∧ l.length = n ∧ ∀ (j : Nat) (u : Value), l'[j]? = some u → w.cell? ⟨L.blk, L.base + (o + j), none⟩ = some u
  | 0, o, l, hl => by cases hl; exact ⟨[], .nil _, rfl, fun j u hu => by simp at hu⟩
  | n + 1, o, l, hl => by
    simp only [ldC] at hl
    split at hl
    · rename_i x r hx hr
      cases hl
      obtain ⟨y, hy, hc⟩ := h.cell id L o x hL hx
      obtain ⟨l', h1, h2, h3⟩ := ldC_sound h hL hr
      refine ⟨y :: l', .cons hy h1, by simp [h2], fun j u hu => ?_⟩
      cases j with
      | zero => simp at hu; subst hu; exact hc
      | succ j => have := h3 j u (by simpa using hu); rwa [Nat.add_assoc, Nat.add_comm 1 j] at this
    · cases hl
theorem ldA_sound {P : Program} {B0 : Nat} {φ : Phi} {H : Heap} {w : World} (h : HR P B0 φ H w) {t : TypeId} {a a' r : Value} (ha : VR φ a a') (hr : ldA P H t a = some r) :
    ∃ r', VR φ r r' ∧ (Instr.loadAt t a').run P w = .ok r' w := by
  unfold ldA at hr
  split at hr
  · rename_i id o
    cases ha with
    | @ptr _ _ L hL =>
      split at hr
      · rename_i n hag hsz
        split at hr
        · rename_i l hl
          cases hr
          obtain ⟨l', h1, h2, h3⟩ := ldC_sound h hL hl
          refine ⟨_, VR.agg_of h1, ?_⟩
          have hlen : l'.length = n + 1 := by rw [← h1.1]; exact h2
          have hla : ∀ j v, l'[j]? = some v → w.cell? ((⟨L.blk, L.base + o, none⟩ : Addr).add j) = some v := fun j v hv => by rw [add_plain', Nat.add_assoc]; exact h3 j v hv
          have hl2 := run_loadCells_list (P := P) w ⟨L.blk, L.base + o, none⟩ l' hla
          unfold aggO at hag
          cases hd : P.underlying t with
          | none => rw [hd] at hag; cases hag
          | some d =>
            rw [hd] at hag
            have hd2 : (isAgg t).run P w = .ok true w := by
              cases d <;> simp [aggD] at hag <;> simp [isAgg, run_underlying hd]
            simp only [Instr.loadAt, Instr.sureAddr, loadVar, Sem.run_bind, Sem.run_pure, Result.andThen_ok, hd2, if_true, run_sizeOf' hsz]
            rw [show n.succ = l'.length from hlen.symm, hl2]; rfl
        · cases hr
      · rename_i hag
        obtain ⟨y, hy, hc⟩ := h.cell id L o r hL hr
        refine ⟨y, hy, ?_⟩
        unfold aggO at hag
        cases hd : P.underlying t with
        | none => rw [hd] at hag; cases hag
        | some d =>
          rw [hd] at hag
          have hd2 : (isAgg t).run P w = .ok false w := by
            cases d <;> simp [aggD] at hag <;> simp [isAgg, run_underlying hd]
          simp only [Instr.loadAt, Instr.sureAddr, loadVar, Sem.run_bind, Sem.run_pure, Result.andThen_ok, hd2, Bool.false_eq_true, if_false]
          simp [load, Sem.run, hc]
      · cases hr
  · cases hr

/-! ### the invariant of a call -/
structure Inv (P : Program) (B0 n0 : Nat) (D : List Nat) (φ0 : Phi) (w0 : World) (φ : Phi) (H : Heap) (w : World) : Prop where
  hr : HR P B0 φ H w
  b0 : B0 ≤ w0.heap.size
  len : n0 ≤ H.length
  dom0 : ∀ id L, φ0 id = some L → id < n0
  low : ∀ id, id < n0 → φ id = φ0 id
  high : ∀ id L, n0 ≤ id → φ id = some L → L.rw = true ∧ (w0.heap.size ≤ L.blk ∨ ∃ d ∈ D, ∃ L0, φ0 d = some L0 ∧ L0.rw = true ∧ L0.blk = L.blk)
  os : w.os = w0.os
  tape : w.tape = w0.tape
  output : w.output = w0.output
  size : w0.heap.size ≤ w.heap.size
  keep : ∀ b, b < w0.heap.size → (∀ d ∈ D, ∀ L, φ0 d = some L → L.rw = true → L.blk ≠ b) → w.heap[b]? = w0.heap[b]?

def wr (n0 : Nat) (D : List Nat) (id : Nat) : Prop := n0 ≤ id ∨ id ∈ D

section
variable {P : Program} {B0 n0 : Nat} {D : List Nat} {φ0 φ : Phi} {w0 w : World} {H : Heap}

theorem Inv.le0 (h : Inv P B0 n0 D φ0 w0 φ H w) : φ0.le φ := fun id L e => by rw [h.low id (h.dom0 id L e)]; exact e
theorem Inv.init (h : HR P B0 φ H w) (hB : B0 ≤ w.heap.size) : Inv P B0 H.length D φ w φ H w where
  hr := h
  b0 := hB
  len := Nat.le_refl _
  dom0 := h.dom
  low _ _ := rfl
  high id L hi hL := absurd (h.dom id L hL) (by omega)
  os := rfl
  tape := rfl
  output := rfl
  size := Nat.le_refl _
  keep _ _ _ := rfl
/-- A block that may be written is none of those that are kept. -/
theorem Inv.wr_ne (h : Inv P B0 n0 D φ0 w0 φ H w) {id : Nat} (hw : wr n0 D id) {L : Loc} (hL : φ id = some L) (hr : L.rw = true) {b : Nat} (hb : b < w0.heap.size)
    (hk : ∀ d ∈ D, ∀ L, φ0 d = some L → L.rw = true → L.blk ≠ b) : b ≠ L.blk := by
  intro e
  have high : n0 ≤ id → False := fun hn => by
    obtain ⟨_, h1 | ⟨d, hd, L0, h2, h3, h4⟩⟩ := h.high id L hn hL
    · omega
    · exact hk d hd L0 h2 h3 (by omega)
  rcases hw with hn | hD
  · exact high hn
  · by_cases hn : n0 ≤ id
    · exact high hn
    · have := h.low id (by omega)
      rw [hL] at this
      exact hk id hD L this.symm hr e.symm
/-- A world that differs in a block that may be written alone. -/
theorem Inv.write (h : Inv P B0 n0 D φ0 w0 φ H w) {id : Nat} (hw : wr n0 D id) {L : Loc} (hL : φ id = some L) (hr : L.rw = true) {H' : Heap} {w' : World} (hH : HR P B0 φ H' w') (hlen : H'.length = H.length)
    (hsz : w'.heap.size = w.heap.size) (ho : ∀ k, k ≠ L.blk → w'.heap[k]? = w.heap[k]?) (h1 : w'.os = w.os) (h2 : w'.tape = w.tape) (h3 : w'.output = w.output) : Inv P B0 n0 D φ0 w0 φ H' w' where
  hr := hH
  b0 := h.b0
  len := by rw [hlen]; exact h.len
  dom0 := h.dom0
  low := h.low
  high := h.high
  os := h1.trans h.os
  tape := h2.trans h.tape
  output := h3.trans h.output
  size := by rw [hsz]; exact h.size
  keep b hb hk := by rw [ho b (h.wr_ne hw hL hr hb hk)]; exact h.keep b hb hk
theorem Inv.put (h : Inv P B0 n0 D φ0 w0 φ H w) {id j : Nat} {L : Loc} {x y u : Value} (hL : φ id = some L) (hw : wr n0 D id) (hrw : H.rwOk id = true) (hu : H.cell id j = some u) (hxy : VR φ x y) (h1 : y.oneCell' = true) :
    Inv P B0 n0 D φ0 w0 φ (H.put id j x) (w.setCell ⟨L.blk, L.base + j, none⟩ y) ∧ (store ⟨L.blk, L.base + j, none⟩ y).run P w = .ok () (w.setCell ⟨L.blk, L.base + j, none⟩ y) := by
  obtain ⟨k1, k2, ⟨v, k3⟩, k4, k5⟩ := h.hr.put hL hrw hu hxy
  refine ⟨h.write hw hL k4 k1 (Heap.length_put _ _ _ _) (by simp [World.setCell]) (fun k hk => heap_setCell_other w _ k y hk) rfl rfl rfl, ?_⟩
  cases y <;> simp [Value.oneCell'] at h1 <;> simp [store, Sem.run, k3, k2]
theorem Heap.rwOk_put (H : Heap) (id j : Nat) (x : Value) (i : Nat) : (H.put id j x).rwOk i = H.rwOk i := by
  unfold Heap.rwOk
  rw [Heap.get_put]
  by_cases e : i = id
  · subst e; cases H[i]? <;> simp
  · simp [e]
theorem ldC_put (H : Heap) (id j : Nat) (x : Value) {n : Nat} : ∀ {o : Nat}, (ldC H id o n).isSome = true → (ldC (H.put id j x) id o n).isSome = true := by
  induction n with
  | zero => intro o _; rfl
  | succ n ih =>
    intro o h
    simp only [ldC] at h ⊢
    split at h
    · rename_i v l hv hl
      have h1 : ((H.put id j x).cell id o).isSome = true := by
        rw [Heap.cell_put]; split <;> simp [hv]
      have h2 := ih (o := o + 1) (by rw [hl]; rfl)
      obtain ⟨a, ha⟩ := Option.isSome_iff_exists.1 h1
      obtain ⟨b, hb⟩ := Option.isSome_iff_exists.1 h2
      rw [ha, hb]; rfl
    · cases h
/-- What an operation with an effect leaves of the world: only blocks of the ids in T, and new ones. -/
structure FrE (φ φ' : Phi) (w w' : World) (T : List Nat) (n : Nat) : Prop where
  low : ∀ id, id < n → φ' id = φ id
  size : w.heap.size ≤ w'.heap.size
  keep : ∀ b, b < w.heap.size → (∀ d, d ∈ T → ∀ M, φ d = some M → M.blk ≠ b) → w'.heap[b]? = w.heap[b]?
  loc : ∀ id M, φ' id = some M → φ id = some M ∨ w.heap.size ≤ M.blk ∨ ∃ d, d ∈ T ∧ ∃ M0, φ d = some M0 ∧ M0.blk = M.blk
theorem storeCells_sound : ∀ {xs ys : List Value} {H : Heap} {w : World} {id o i : Nat} {L : Loc}, Inv P B0 n0 D φ0 w0 φ H w → φ id = some L → wr n0 D id → H.rwOk id = true → (ldC H id (o + i) xs.length).isSome = true →
    VRs φ xs ys → (xs.all (·.oneCell')) = true → ∃ w', (storeCells ⟨L.blk, L.base + o, none⟩ ys i).run P w = .ok () w' ∧ Inv P B0 n0 D φ0 w0 φ (H.puts id (o + i) xs) w' ∧ w'.heap.size = w.heap.size ∧ ∀ b, b ≠ L.blk → w'.heap[b]? = w.heap[b]?
  | [], ys, H, w, id, o, i, L, h, hL, hw, hrw, hl, hxy, h1 => by rw [hxy.inv_nil]; exact ⟨w, rfl, h, rfl, fun _ _ => rfl⟩
  | x :: xs, es, H, w, id, o, i, L, h, hL, hw, hrw, hl, hxy, h1 => by
    obtain ⟨y, ys, rfl, hxy1, hxy2⟩ := hxy.inv
    simp only [List.length_cons, ldC] at hl
    split at hl
    · rename_i u l hu hl'
      simp only [List.all_cons, Bool.and_eq_true] at h1
      obtain ⟨k1, k2⟩ := h.put hL hw hrw hu hxy1 (by rw [hxy1.one]; exact h1.1)
      obtain ⟨w', k3, k4, k5, k6⟩ := storeCells_sound (i := i + 1) k1 hL hw (by rw [Heap.rwOk_put]; exact hrw) (ldC_put _ _ _ _ (by rw [← Nat.add_assoc, hl']; rfl)) hxy2 h1.2
      refine ⟨w', ?_, by rw [Heap.puts]; exact k4, by rw [k5]; simp [World.setCell], fun b hb => by rw [k6 b hb]; exact heap_setCell_other w _ b y hb⟩
      simp only [storeCells, add_plain', Nat.add_assoc, Sem.run_bind]
      rw [k2]
      simp only [Result.andThen_ok]
      exact k3
    · cases hl

/-! ### stores -/
def stA (P : Program) (H : Heap) (t : TypeId) (a v : Value) : Option (Nat × Heap) :=
  match a with
  | .pointer (some ⟨id, o, none⟩) => if H.rwOk id = true ∧ szO P t = some (cellsV v).length ∧ (ldC H id o (cellsV v).length).isSome = true ∧ (cellsV v).all (·.oneCell') = true then some (id, H.puts id o (cellsV v)) else none
  | _ => none
theorem stA_sound (h : Inv P B0 n0 D φ0 w0 φ H w) {t : TypeId} {a a' v v' : Value} {id : Nat} {H' : Heap} (ha : VR φ a a') (hv : VR φ v v') (hs : stA P H t a v = some (id, H')) (hw : wr n0 D id) :
    ∃ w', (Instr.storeAt t a' v').run P w = .ok () w' ∧ Inv P B0 n0 D φ0 w0 φ H' w' ∧ FrE φ φ w w' [id] H.length ∧ H.length = H'.length := by
  unfold stA at hs
  split at hs
  · rename_i id1 o
    split at hs
    · rename_i hh
      obtain ⟨hrw, hsz, hl, h1⟩ := hh
      cases hs
      cases ha with
      | @ptr _ _ L hL =>
        obtain ⟨w', k1, k2, k3, k4⟩ := storeCells_sound (o := o) (i := 0) h hL hw hrw (by simpa using hl) hv.cells h1
        refine ⟨w', ?_, by simpa using k2, ⟨fun _ _ => rfl, by omega, fun b _ hk => k4 b fun e => hk id (by simp) L hL e.symm, fun i M hM => .inl hM⟩, by rw [Heap.length_puts]⟩
        have hlen : v'.cells.size = (cellsV v).length := by rw [← Array.length_toList, cellsV_eq, ← hv.cells.1]
        simp only [Instr.storeAt, Instr.sureAddr, storeVar, Sem.run_bind, Sem.run_pure, Result.andThen_ok, run_sizeOf' hsz, hlen, ne_eq, not_true_eq_false, if_false, cellsV_eq]
        exact k1
    · cases hs
  · cases hs

/-! ### new blocks -/
theorem Inv.new (h : Inv P B0 n0 D φ0 w0 φ H w) {ty : TypeId} {xs ys : List Value} {cap sz : Nat} (hsz : szO P ty = some sz) (hcap : ys.length = cap * sz) (hmax : cap ≤ maxLen) (hv : VRs φ xs ys) :
    Inv P B0 n0 D φ0 w0 (φ.set H.length ⟨w.heap.size, 0, cap, true⟩) (H ++ [⟨ty, xs, true, true⟩]) (w.alloc (.cells ys.toArray ty)) ∧ φ.le (φ.set H.length ⟨w.heap.size, 0, cap, true⟩) := by
  have hold : ∀ b, b < w.heap.size → (w.alloc (.cells ys.toArray ty)).heap[b]? = w.heap[b]? := fun b hb => Below.heap_alloc w _ b hb
  have hnone : φ H.length = none := by
    cases e : φ H.length with
    | none => rfl
    | some L => exact absurd (h.hr.dom _ _ e) (Nat.lt_irrefl _)
  have hB : B0 ≤ w.heap.size := Nat.le_trans h.b0 h.size
  refine ⟨⟨?_, h.b0, ?_, h.dom0, ?_, ?_, h.os, h.tape, h.output, ?_, ?_⟩, Phi.le_set _ hnone⟩
  · refine h.hr.new hB hsz hold (Nat.le_refl _) (heap_alloc_new w _) (by simpa using hcap) hmax (by have := hv.1; simp; omega) fun j x hx => ?_
    have hj : j < ys.length := by rw [← hv.1]; exact (List.getElem?_eq_some_iff.1 hx).1
    exact ⟨ys[j], hv.2 j x _ hx (by simp [hj]), by simp [hj]⟩
  · have := h.len; simp; omega
  · intro id hid
    rw [Phi.set_ne _ _ (by have := h.len; omega)]
    exact h.low id hid
  · intro id L hid hL
    by_cases e : id = H.length
    · subst e; rw [Phi.set_same] at hL; cases hL; exact ⟨rfl, .inl h.size⟩
    · rw [Phi.set_ne _ _ e] at hL; exact h.high id L hid hL
  · have := h.size; simp; omega
  · intro b hb hk
    rw [hold b (by have := h.size; omega)]
    exact h.keep b hb hk

/-- What a new block of an operation holds: its element type, its cells, and the value that the operation leaves, of the id. -/
structure NewR where
  ty : TypeId
  cells : List Value
  val : Nat → Value
def newA (P : Program) (ρ : Operand → Option Value) : Op → Option NewR
  | .alloc t => match zeroO P t, szO P t with
    | some z, some n => if (cellsV z).length = n ∧ allPlain (cellsV z) = true then some ⟨t, cellsV z, fun id => pt id 0⟩ else none
    | _, _ => none
  | .box t x => match ρ x, szO P t with
    | some v, some n => if (cellsV v).length = n then some ⟨t, cellsV v, fun id => pt id 0⟩ else none
    | _, _ => none
  | .buildSlice t n parts => match elemO P t, evP ρ parts.toList with
    | some e, some l => match szO P e, zeroO P e with
      | some (sz + 1), some z => if (cellsV z).length = sz + 1 ∧ allPlain (cellsV z) = true ∧ n * (sz + 1) ≤ 16777216 then
          (match fillA (fun i => some (i * (sz + 1), sz + 1)) (List.replicate n (cellsV z)).flatten l with
          | some cs => some ⟨e, cs, fun id => sl id 0 n⟩
          | none => none) else none
      | _, _ => none
    | _, _ => none
  | .makeSlice t l c => match ρ l, ρ c, elemO P t with
    | some (.int _ a), some (.int _ b), some e => match szO P e, byO P e, zeroO P e with
      | some (sz + 1), some by', some z => if a = b ∧ 0 ≤ a ∧ (by' : Int) * a ≤ 281474976710656 ∧ a ≤ 9223372036854775807 ∧ (cellsV z).length = sz + 1 ∧ allPlain (cellsV z) = true then
          some ⟨e, (List.replicate a.toNat (cellsV z)).flatten, fun id => sl id 0 a.toNat⟩ else none
      | _, _, _ => none
    | _, _, _ => none
  | _ => none

theorem range_mod (z : Array Value) (hz : 0 < z.size) (n : Nat) : ((Array.range (n * z.size)).map (z[· % z.size]!)).toList = (List.replicate n z.toList).flatten := by
  induction n with
  | zero => simp
  | succ n ih =>
    rw [List.replicate_succ', List.flatten_append, ← ih]
    apply List.ext_getElem?
    intro i
    simp only [Array.toList_map, Array.toList_range, List.flatten_singleton]
    by_cases h1 : i < n * z.size
    · rw [List.getElem?_append_left (by simpa using h1)]
      have h2 : i < (n + 1) * z.size := by rw [Nat.add_mul]; omega
      simp [h1, h2]
    · rw [List.getElem?_append_right (by simpa using (Nat.le_of_not_lt h1))]
      simp only [List.length_map, List.length_range]
      by_cases h2 : i < (n + 1) * z.size
      · have h3 : i - n * z.size < z.size := by rw [Nat.add_mul] at h2; omega
        have h4 : i % z.size = i - n * z.size := by
          have e : i = (i - n * z.size) + n * z.size := by omega
          conv => lhs; rw [e]
          rw [Nat.add_mul_mod_self_right, Nat.mod_eq_of_lt h3]
        simp [h2, h4, h3]
      · have h3 : ¬ (i - n * z.size < z.size) := by rw [Nat.add_mul] at h2; omega
        simp [h2, h3]
theorem zero_info {t : TypeId} {z : Value} (h : zeroO P t = some z) : ∃ i, P.info? t = some i ∧ i.zero = some z := by
  unfold zeroO at h
  cases hi : P.info? t with
  | none => rw [hi] at h; cases h
  | some i => rw [hi] at h; exact ⟨i, rfl, h⟩
theorem newA_core {ρ : Operand → Option Value} {e : Operand → Value} (hρ : ∀ x v, ρ x = some v → VR φ v (e x)) {o : Oper} {ty : TypeId} {cs : List Value} {f : Nat → Value} (hn : newA P ρ o.op = some ⟨ty, cs, f⟩) (w : World) :
    ∃ (ys : List Value) (cap sz : Nat) (v' : Value), (execOp e o).run P w = .ok (.value v') (w.alloc (.cells ys.toArray ty)) ∧ szO P ty = some sz ∧ ys.length = cap * sz ∧ cap ≤ maxLen ∧ VRs φ cs ys ∧
      ∀ (φ' : Phi) (id : Nat), φ' id = some ⟨w.heap.size, 0, cap, true⟩ → VR φ' (f id) v' := by
  obtain ⟨dst, op, type, pos, after, guard⟩ := o
  simp only at hn
  unfold newA at hn
  split at hn
  · rename_i t
    split at hn
    · rename_i z n hz hsz
      split at hn
      · rename_i hh
        cases hn
        obtain ⟨i, hi, hiz⟩ := zero_info hz
        refine ⟨_, 1, _, _, ?_, hsz, by simpa using hh.1, by simp [maxLen], allPlain_VRs hh.2, fun φ' id hid => .ptr hid⟩
        simp [execOp, Instr.alloc, zeroValue, typeInfo, hi, hiz, newVar, newRow, ← cellsV_eq]
      · cases hn
    · cases hn
  · rename_i t x
    split at hn
    · rename_i v n hx hsz
      split at hn
      · rename_i hh
        cases hn
        have hv := (hρ x v hx).cells
        refine ⟨_, 1, _, _, ?_, hsz, by rw [← hv.1]; simpa using hh, by simp [maxLen], hv, fun φ' id hid => .ptr hid⟩
        simp [execOp, Instr.box, newVar, newRow, ← cellsV_eq]
      · cases hn
    · cases hn
  · rename_i t n parts
    split at hn
    · rename_i el l he hl
      split at hn
      · rename_i sz z hsz hz
        split at hn
        · rename_i hh
          obtain ⟨h1, h2, h3⟩ := hh
          split at hn
          · rename_i cs' hcs
            cases hn
            obtain ⟨i, hi, hiz⟩ := zero_info hz
            have hzs : z.cells.size = sz + 1 := by rw [← Array.length_toList, cellsV_eq]; exact h1
            have hlen0 : ((List.replicate n (cellsV z)).flatten).length = n * (sz + 1) := by simp [h1]
            have hpl : VRs φ (List.replicate n (cellsV z)).flatten (List.replicate n (cellsV z)).flatten := by
              refine allPlain_VRs ?_
              simp only [allPlain, List.all_eq_true] at h2 ⊢
              intro x hx
              obtain ⟨l, hl, hxl⟩ := List.mem_flatten.1 hx
              rw [(List.mem_replicate.1 hl).2] at hxl
              exact h2 x hxl
            have hzc : ((Array.range (n * (sz + 1))).map (z.cells[· % z.cells.size]!)).toList = (List.replicate n (cellsV z)).flatten := by
              have := range_mod z.cells (by omega) n
              rw [hzs, cellsV_eq] at this
              rw [hzs]; exact this
            obtain ⟨ds, k1, k2⟩ := fill_sound (ds := (Array.range (n * (sz + 1))).map (z.cells[· % z.cells.size]!)) (evP_PR hρ hl) (by rw [hzc]; exact hpl) hcs
            have hfl : ∀ {ps : List (Nat × Value)} {a r : List Value} {pl : Nat → Option (Nat × Nat)}, fillA pl a ps = some r → r.length = a.length := by
              intro ps
              induction ps with
              | nil => intro a r pl hf; simp only [fillA, Option.some.injEq] at hf; subst hf; rfl
              | cons p ps ih =>
                intro a r pl hf
                obtain ⟨ix, v⟩ := p
                simp only [fillA] at hf
                split at hf
                · cases hf
                · split at hf
                  · rw [ih hf, length_setAll]
                  · cases hf
            have hcl := hfl hcs
            have hdl : ds.toList.length = n * (sz + 1) := by rw [← k2.1, hcl, hlen0]
            refine ⟨ds.toList, n, _, _, ?_, hsz, hdl, (by
              have : n ≤ n * (sz + 1) := Nat.le_mul_of_pos_right _ (by omega)
              simp only [maxLen]; omega), k2, fun φ' id hid => VR.slc (o := 0) (n := n) (c := n) hid (Nat.le_refl _) (fun _ _ => rfl)⟩
            have hm : (parts.map fun (i, x) => (i, e x)).toList = parts.toList.map fun p => (p.1, e p.2) := by simp
            have hnot : ¬ (n * (sz + 1) > 2 ^ 24) := by simp; omega
            have hm' : (parts.toList.map fun (x : Nat × Operand) => (x.1, e x.2)) = parts.toList.map fun p => (p.1, e p.2) := rfl
            by_cases h0 : n * (sz + 1) = 0
            · have hnil : ((Array.range 0).map (z.cells[· % z.cells.size]!)) = #[] := by rw [show Array.range 0 = #[] from rfl]; simp
              rw [h0, hnil] at k1
              have hr0 : Array.range 0 = #[] := rfl
              simp [execOp, Instr.buildSlice, run_underlying (elem_und he), run_sizeOf' hsz, h0, hr0, k1, newRow]
            · have hnot' : ¬ (2 ^ 24 < n * (sz + 1)) := hnot
              simp only [execOp, Instr.buildSlice, Sem.run_bind, run_underlying (elem_und he), Result.andThen_ok, run_sizeOf' hsz, hnot, if_false, h0, zeroValue, typeInfo, run_program, hi, hiz, Sem.run_pure, hm, k1, newRow]
              simp
          · cases hn
        · cases hn
      · cases hn
    · cases hn
  · rename_i t l c
    split at hn
    · rename_i kl a kc b el hl hc he
      split at hn
      · rename_i sz by' z hsz hby hz
        split at hn
        · rename_i hh
          obtain ⟨rfl, h0, hb, hm, h1, h2⟩ := hh
          cases hn
          obtain ⟨i, hi, hiz⟩ := zero_info hz
          obtain ⟨i2, hi2, his⟩ := sz_info hsz
          rw [hi] at hi2; cases hi2
          have hbytes : i.bytes = by' := by
            unfold byO at hby; rw [hi] at hby; simpa using hby
          have hzs : z.cells.size = sz + 1 := by rw [← Array.length_toList, cellsV_eq]; exact h1
          have v1 := hρ l _ hl
          have v2 := hρ c _ hc
          generalize hel : e l = el1 at v1
          generalize hec : e c = ec1 at v2
          cases v1; cases v2
          have hr := run_make (P := P) w t ty i z (elem_und he) hi hiz kl kc a a h0 (Int.le_refl _) (by rw [hbytes]; exact hb) hm
          have hzc : (madeCells z.cells (a.toNat * i.size)).toList = (List.replicate a.toNat (cellsV z)).flatten := by
            unfold madeCells
            have := range_mod z.cells (by omega) a.toNat
            rw [hzs, cellsV_eq] at this
            rw [his, hzs]; exact this
          have hpl : VRs φ (List.replicate a.toNat (cellsV z)).flatten (List.replicate a.toNat (cellsV z)).flatten := by
            refine allPlain_VRs ?_
            simp only [allPlain, List.all_eq_true] at h2 ⊢
            intro x hx
            obtain ⟨l, hl, hxl⟩ := List.mem_flatten.1 hx
            rw [(List.mem_replicate.1 hl).2] at hxl
            exact h2 x hxl
          refine ⟨_, a.toNat, _, _, ?_, hsz, (by simp [h1]), (by simp only [maxLen]; omega), hpl, fun φ' id hid => VR.slc (o := 0) (n := a.toNat) (c := a.toNat) hid (Nat.le_refl _) (fun _ _ => rfl)⟩
          simp only [execOp, hel, hec, Sem.run_bind, hr, Result.andThen_ok, Sem.run_pure]
          rw [← hzc]
        · cases hn
      · cases hn
    · cases hn
  · cases hn

theorem newA_sound (h : Inv P B0 n0 D φ0 w0 φ H w) {ρ : Operand → Option Value} {e : Operand → Value} (hρ : ∀ x v, ρ x = some v → VR φ v (e x)) {o : Oper} {ty : TypeId} {cs : List Value} {f : Nat → Value} (hn : newA P ρ o.op = some ⟨ty, cs, f⟩) :
    ∃ φ' v' w', (execOp e o).run P w = .ok (.value v') w' ∧ VR φ' (f H.length) v' ∧ Inv P B0 n0 D φ0 w0 φ' (H ++ [⟨ty, cs, true, true⟩]) w' ∧ φ.le φ' := by
  obtain ⟨ys, cap, sz, v', h1, h2, h3, h4, h5, h6⟩ := newA_core hρ hn w
  obtain ⟨k1, k2⟩ := h.new h2 h3 h4 h5
  exact ⟨_, v', _, h1, h6 _ _ (Phi.set_same _ _ _), k1, k2⟩

end
end Go.Proofs.YtpoedfmkiiijnaaAm
