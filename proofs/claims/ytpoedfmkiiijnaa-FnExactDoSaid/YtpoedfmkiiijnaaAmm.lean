/- The abstract machine: maps with keys of one integer kind. Plain lemmas; no program in sight. -/
import Derived.Test.YtpoedfmkiiijnaaAm5
import Derived.MapKept
namespace Go.Proofs.YtpoedfmkiiijnaaAm
open Go Go.RowKit
set_option linter.unusedVariables false
set_option linter.unusedSimpArgs false

/-- Keys of the int kind, plain values, by turns. -/
def okM : List Value → Bool
  | [] => true
  | .int .i64 _ :: v :: r => plainV v && okM r
  | _ => false
def lookM : List Value → Int → Option Value
  | .int .i64 a :: v :: r, n => if a = n then some v else lookM r n
  | _, _ => none
/-- A map's type: what a key that is not there gives. -/
def mapZ (P : Program) (t : TypeId) : Option Value := match P.underlying t with
  | some (.map kt et) => match P.underlying kt, zeroO P et with
    | some (.int .i64), some z => if plainV z = true then some z else none
    | _, _ => none
  | _ => none
theorem mapZ_und {P : Program} {t : TypeId} {z : Value} (h : mapZ P t = some z) : ∃ kt et, P.underlying t = some (.map kt et) ∧ P.underlying kt = some (.int .i64) ∧ zeroO P et = some z ∧ plainV z = true := by
  unfold mapZ at h
  split at h
  · rename_i kt et h1
    split at h
    · rename_i z' h2 h3
      split at h
      · rename_i h4; cases h; exact ⟨kt, et, h1, h2, h3, h4⟩
      · cases h
    · cases h
  · cases h
theorem okM_cons {k v : Value} {r : List Value} (h : okM (k :: v :: r) = true) : ∃ n, k = .int .i64 n ∧ plainV v = true ∧ okM r = true := by
  unfold okM at h
  split at h
  · rename_i e; cases e
  · rename_i n v' r' e
    cases e
    simp only [Bool.and_eq_true] at h
    exact ⟨n, rfl, h.1, h.2⟩
  · cases h
theorem entsM_size : ∀ (cs : List Value) (i : Nat), okM cs = true → (entsM i cs).length = cs.length / 2
  | [], i, _ => rfl
  | [_], i, h => by simp [okM] at h
  | k :: v :: r, i, h => by
    obtain ⟨_, _, _, hr⟩ := okM_cons h
    simp only [entsM, List.length_cons, entsM_size r (i + 1) hr]
    omega
theorem entsM_snoc : ∀ (cs : List Value) (i : Nat) (n : Int) (v : Value), okM cs = true → entsM i (cs ++ [.int .i64 n, v]) = entsM i cs ++ [{ key := .int .i64 n, val := v, born := i + cs.length / 2 }]
  | [], i, n, v, _ => by simp [entsM]
  | [_], i, n, v, h => by simp [okM] at h
  | k :: u :: r, i, n, v, h => by
    obtain ⟨_, _, _, hr⟩ := okM_cons h
    simp only [List.cons_append, entsM, entsM_snoc r (i + 1) n v hr, List.length_cons]
    rw [show i + 1 + r.length / 2 = i + (r.length + 1 + 1) / 2 by omega]
theorem okM_snoc : ∀ (cs : List Value) (n : Int) (v : Value), okM cs = true → plainV v = true → okM (cs ++ [.int .i64 n, v]) = true
  | [], n, v, _, hv => by simp [okM, hv]
  | [_], n, v, h, _ => by simp [okM] at h
  | k :: u :: r, n, v, h, hv => by
    obtain ⟨_, rfl, hu, hr⟩ := okM_cons h
    simp only [List.cons_append, okM, Bool.and_eq_true]
    exact ⟨hu, okM_snoc r n v hr hv⟩
theorem findNow_some : ∀ (cs : List Value) (i j : Nat) (n : Int), okM cs = true → match lookM cs n with
    | some v => ∃ q, Instr.findNow (.int .i64) (.int .i64 n) (entsM i cs) j = some (some (q, v))
    | none => Instr.findNow (.int .i64) (.int .i64 n) (entsM i cs) j = some none
  | [], i, j, n, _ => rfl
  | [_], i, j, n, h => by simp [okM] at h
  | k :: u :: r, i, j, n, h => by
    obtain ⟨a, rfl, hu, hr⟩ := okM_cons h
    simp only [lookM, entsM, Instr.findNow, Instr.sameNow, if_true]
    by_cases e : a = n
    · subst e; simp
    · have e' : (n == a) = false := by simp; omega
      simp only [e, if_false, e']
      exact findNow_some r (i + 1) (j + 1) n hr
def lookA (P : Program) (H : Heap) (t : TypeId) (m k : Value) : Option Value := match m, k with
  | .map (some id), .int .i64 n => match H[id]?, mapZ P t with
    | some b, some z => if b.live = false ∧ b.rw = true ∧ okM b.cells = true then some ((lookM b.cells n).getD z) else none
    | _, _ => none
  | _, _ => none
def mputA (P : Program) (H : Heap) (t : TypeId) (m k v : Value) : Option (Nat × Heap) := match m, k with
  | .map (some id), .int .i64 n => match H[id]?, mapZ P t with
    | some b, some z => if b.live = false ∧ b.rw = true ∧ okM b.cells = true ∧ lookM b.cells n = none ∧ plainV v = true then some (id, H.set id { b with cells := b.cells ++ [.int .i64 n, v] }) else none
    | _, _ => none
  | _, _ => none

section
variable {P : Program} {B0 n0 : Nat} {D : List Nat} {φ0 φ : Phi} {w0 w : World} {H : Heap}
theorem run_findKey {kt : TypeId} (hk : P.underlying kt = some (.int .i64)) {cs : List Value} {n : Int} (hc : okM cs = true) : ∃ r, (Instr.findKey kt (.int .i64 n) (entsM 0 cs)).run P w = .ok r w ∧ (match lookM cs n with | some v => ∃ q, r = some (q, v) | none => r = none) := by
  have h := findNow_some cs 0 0 n hc
  cases hl : lookM cs n with
  | none => rw [hl] at h; simp only at h; exact ⟨none, by simp [Instr.findKey, run_underlying hk, h], rfl⟩
  | some v => rw [hl] at h; obtain ⟨q, h⟩ := h; exact ⟨some (q, v), by simp [Instr.findKey, run_underlying hk, h], q, rfl⟩
theorem run_checkKey {kt : TypeId} (hk : P.underlying kt = some (.int .i64)) (e : Bool) (n : Int) : (Instr.checkKey e 10000 kt (.int .i64 n)).run P w = .ok () w := by
  unfold Instr.checkKey
  simp [run_underlying hk]
theorem mapObj {m m' : Value} {id : Nat} (hm : VR φ m m') (he : m = .map (some id)) : ∃ L, φ id = some L ∧ m' = .map (some L.blk) := by
  subst he
  cases hm with | mp h => exact ⟨_, h, rfl⟩
theorem lookA_sound (h : HR P B0 φ H w) {t : TypeId} {m m' k k' v : Value} (hm : VR φ m m') (hk : VR φ k k') (hl : lookA P H t m k = some v) : (Instr.lookup t m' k' false).run P w = .ok v w ∧ VR φ v v := by
  unfold lookA at hl
  split at hl
  · rename_i id n
    obtain ⟨L, hL, rfl⟩ := mapObj hm rfl
    cases hk
    split at hl
    · rename_i b z hb hz
      split at hl
      · rename_i hh
        obtain ⟨h1, h2, h3⟩ := hh
        obtain ⟨kt, et, u1, u2, u3, u4⟩ := mapZ_und hz
        obtain ⟨i, hi, hiz⟩ := zero_info u3
        obtain ⟨_, hob⟩ := h.mp id L b hL hb h1 h2
        obtain ⟨r, hr, hrl⟩ := run_findKey (w := w) u2 (n := n) h3
        have hlook : ∀ cs v, okM cs = true → lookM cs n = some v → plainV v = true := fun cs => by
          induction cs using okM.induct with
          | case1 => intro v _ hv; simp [lookM] at hv
          | case2 a u r ih =>
            intro v ho hv
            obtain ⟨_, _, hu, hr⟩ := okM_cons ho
            simp only [lookM] at hv
            split at hv
            · cases hv; exact hu
            · exact ih v hr hv
          | case3 cs h1 h2 => intro v ho hv; unfold okM at ho; split at ho <;> simp_all
        have hpl : plainV v = true := by
          cases hc : lookM b.cells n with
          | none => rw [hc] at hl; cases hl; exact u4
          | some u => rw [hc] at hl; cases hl; exact hlook _ _ h3 hc
        refine ⟨?_, plainV_VR hpl⟩
        cases hc : lookM b.cells n with
        | none =>
          rw [hc] at hl hrl; cases hl; subst hrl
          simp [Instr.lookup, run_underlying u1, MapKept.run_getObj_map hob, run_checkKey u2, hr, zeroValue, typeInfo, hi, hiz]
        | some u =>
          rw [hc] at hl hrl; cases hl
          obtain ⟨q, rfl⟩ := hrl
          simp [Instr.lookup, run_underlying u1, MapKept.run_getObj_map hob, run_checkKey u2, hr]
      · cases hl
    · cases hl
  · cases hl
theorem VR.plain_eq {φ : Phi} {v v' : Value} (h : plainV v = true) (hv : VR φ v v') : v = v' := by
  unfold plainV at h
  split at h
  · cases hv; rfl
  · cases hv; rfl
  · cases hv; rfl
  · cases hv; rfl
  · cases hv; rfl
  · rename_i cs
    have h0 : cs.size = 0 := by simpa using h
    cases hv with
    | @tup cs ds hs _ => rw [Array.eq_empty_of_size_eq_zero h0, Array.eq_empty_of_size_eq_zero (show ds.size = 0 by omega)]
  · cases h
theorem mputA_sound (h : Inv P B0 n0 D φ0 w0 φ H w) {t : TypeId} {m m' k k' v v' : Value} {id : Nat} {H' : Heap} (hm : VR φ m m') (hk : VR φ k k') (hv : VR φ v v') (hs : mputA P H t m k v = some (id, H')) (hw : wr n0 D id) :
    ∃ w', (Instr.mapUpdate t m' k' v').run P w = .ok () w' ∧ Inv P B0 n0 D φ0 w0 φ H' w' := by
  unfold mputA at hs
  split at hs
  · rename_i id' n
    obtain ⟨L, hL, rfl⟩ := mapObj hm rfl
    cases hk
    split at hs
    · rename_i b z hb hz
      split at hs
      · rename_i hh
        obtain ⟨h1, h2, h3, h4, h5⟩ := hh
        cases hs
        obtain ⟨kt, et, u1, u2, u3, u4⟩ := mapZ_und hz
        obtain ⟨hB, hob⟩ := h.hr.mp id L b hL hb h1 h2
        obtain ⟨r, hr, hrl⟩ := run_findKey (w := w) u2 (n := n) h3
        rw [h4] at hrl; subst hrl
        have hLr := h.hr.flag id L b hL hb h2
        obtain rfl : v = v' := by
          have := plainV_VR (φ := φ) h5
          exact VR.plain_eq h5 hv
        have hlt : L.blk < w.heap.size := (Array.getElem?_eq_some_iff.1 hob).1
        have hidl := (List.getElem?_eq_some_iff.1 hb).1
        have hset : (w.heap.setIfInBounds L.blk (mapO (b.cells ++ [.int .i64 n, v])))[L.blk]? = some (mapO (b.cells ++ [.int .i64 n, v])) := by simp [hlt]
        have hoth : ∀ q, q ≠ L.blk → (w.heap.setIfInBounds L.blk (mapO (b.cells ++ [.int .i64 n, v])))[q]? = w.heap[q]? := fun q hq => by rw [Array.getElem?_setIfInBounds]; simp [Ne.symm hq]
        have hne : ∀ i M, φ i = some M → i ≠ id → H.hot i = true → M.blk ≠ L.blk := fun i M hM hi hh e => by
          by_cases hMr : M.rw = true
          · exact hi (h.hr.inj i id M L hM hL hMr hLr e hh (by simp [Heap.hot, hb, h2]))
          · have := h.hr.ro i M hM (by simpa using hMr); omega
        have hget : ∀ i, i ≠ id → (H.set id { b with cells := b.cells ++ [.int .i64 n, v] })[i]? = H[i]? := fun i hi => by rw [List.getElem?_set_ne (Ne.symm hi)]
        have hgid : (H.set id { b with cells := b.cells ++ [.int .i64 n, v] })[id]? = some { b with cells := b.cells ++ [.int .i64 n, v] } := by simp [hidl]
        refine ⟨{ w with heap := w.heap.setIfInBounds L.blk (mapO (b.cells ++ [.int .i64 n, v])) }, ?_, h.write hw hL hLr ⟨?_, h.hr.ro, ?_, ?_, ?_, ?_, ?_, ?_⟩ (by simp) (by simp) hoth rfl rfl rfl⟩
        · have he : mapO (b.cells ++ [.int .i64 n, v]) = .map ((entsM 0 b.cells).toArray.push { key := .int .i64 n, val := v, born := b.cells.length / 2 }) (b.cells.length / 2 + 1) := by
            unfold mapO
            rw [entsM_snoc b.cells 0 n v h3]
            simp only [List.length_append, List.length_cons, List.length_nil, Nat.zero_add, List.push_toArray]
            congr 1; omega
          rw [he]
          simp [Instr.mapUpdate, run_underlying u1, MapKept.run_getObj_map hob, run_checkKey u2, hr, MapKept.run_setObj_map _ hob]
        · intro i M hM; simp; exact h.hr.dom i M hM
        · intro i M hM; simp; exact h.hr.lt i M hM
        · intro i M j x hM hx
          by_cases e : i = id
          · subst e; unfold Heap.cell at hx; rw [hgid] at hx; simp [h1] at hx
          · have hx' : H.cell i j = some x := by unfold Heap.cell at hx ⊢; rw [← hget i e]; exact hx
            obtain ⟨y, hy, hc⟩ := h.hr.cell i M j x hM hx'
            refine ⟨y, hy, ?_⟩
            rw [cell_same (w := w) (a := ⟨M.blk, M.base + j, none⟩) (hoth _ (hne i M hM e (Heap.hot_of_live (Heap.live_of_cell hx'))))]; exact hc
        · intro i M c hM hMr hc hcl
          by_cases e : i = id
          · subst e; rw [hgid] at hc; cases hc; simp only at hcl; rw [h1] at hcl; cases hcl
          · rw [hget i e] at hc
            obtain ⟨a1, a2, cur, sz, a3, a4, a5⟩ := h.hr.row i M c hM hMr hc hcl
            exact ⟨a1, a2, cur, sz, a3, by rw [hoth _ (hne i M hM e (by simp [Heap.hot, hc, hcl]))]; exact a4, a5⟩
        · intro i M c hM hc hcr
          by_cases e : i = id
          · subst e; rw [hL] at hM; cases hM; exact hLr
          · rw [hget i e] at hc; exact h.hr.flag i M c hM hc hcr
        · have hh : ∀ i, Heap.hot (H.set id { b with cells := b.cells ++ [.int .i64 n, v] }) i = H.hot i := fun i => by
            unfold Heap.hot
            by_cases e : i = id
            · subst e; rw [hgid, hb]
            · rw [hget i e]
          intro i i' M M' hM hM' hr1 hr2 hbe hl hl'
          rw [hh] at hl hl'
          exact h.hr.inj i i' M M' hM hM' hr1 hr2 hbe hl hl'
        · intro i M c hM hc hcl hcr
          by_cases e : i = id
          · subst e; rw [hL] at hM; cases hM; rw [hgid] at hc; cases hc; exact ⟨hB, hset⟩
          · rw [hget i e] at hc
            obtain ⟨a1, a2⟩ := h.hr.mp i M c hM hc hcl hcr
            exact ⟨a1, by rw [hoth _ (hne i M hM e (by simp [Heap.hot, hc, hcr]))]; exact a2⟩
      · cases hs
    · cases hs
  · cases hs
/-- A new map, empty. -/
theorem HR.newM {P : Program} {B0 : Nat} {φ : Phi} {H : Heap} {w : World} (h : HR P B0 φ H w) (hB : B0 ≤ w.heap.size) (ty : TypeId) :
    HR P B0 (φ.set H.length ⟨w.heap.size, 0, 0, true⟩) (H ++ [⟨ty, [], true, false⟩]) (w.alloc (.map #[] 0)) := by
  have hnone : φ H.length = none := by
    cases e : φ H.length with
    | none => rfl
    | some L => exact absurd (h.dom _ _ e) (Nat.lt_irrefl _)
  have hle := Phi.le_set (L := ⟨w.heap.size, 0, 0, true⟩) hnone
  have hold : ∀ b, b < w.heap.size → (w.alloc (.map #[] 0)).heap[b]? = w.heap[b]? := fun b hb => Below.heap_alloc w _ b hb
  have hk := h.grow (w' := w.alloc (.map #[] 0)) (by simp) hold
  have hlast : (H ++ [(⟨ty, [], true, false⟩ : Blk)])[H.length]? = some ⟨ty, [], true, false⟩ := by simp
  have hprev : ∀ id, id < H.length → (H ++ [(⟨ty, [], true, false⟩ : Blk)])[id]? = H[id]? := fun id hi => by rw [List.getElem?_append_left hi]
  have hnew : (w.alloc (.map #[] 0)).heap[w.heap.size]? = some (mapO []) := heap_alloc_new w _
  refine ⟨?_, ?_, ?_, ?_, ?_, ?_, ?_, ?_⟩
  · intro id L hL
    by_cases e : id = H.length
    · subst e; simp
    · rw [Phi.set_ne _ _ e] at hL; have := h.dom _ _ hL; simp; omega
  · intro id L hL hr
    by_cases e : id = H.length
    · subst e; rw [Phi.set_same] at hL; cases hL; cases hr
    · rw [Phi.set_ne _ _ e] at hL; exact h.ro _ _ hL hr
  · intro id L hL
    by_cases e : id = H.length
    · subst e; rw [Phi.set_same] at hL; cases hL; simp
    · rw [Phi.set_ne _ _ e] at hL; exact hk.lt _ _ hL
  · intro id L j x hL hx
    by_cases e : id = H.length
    · subst e; simp only [Heap.cell, hlast] at hx; simp at hx
    · rw [Phi.set_ne _ _ e] at hL
      have hlt := h.dom _ _ hL
      simp only [Heap.cell, hprev id hlt] at hx
      obtain ⟨y, hy, hc⟩ := hk.cell id L j x hL hx
      exact ⟨y, hy.mono hle, hc⟩
  · intro id L b hL hr hb hl
    by_cases e : id = H.length
    · subst e; rw [hlast] at hb; cases hb; cases hl
    · rw [Phi.set_ne _ _ e] at hL
      rw [hprev id (h.dom _ _ hL)] at hb
      exact hk.row id L b hL hr hb hl
  · intro id L b hL hb hr
    by_cases e : id = H.length
    · subst e; rw [Phi.set_same] at hL; cases hL; rfl
    · rw [Phi.set_ne _ _ e] at hL
      rw [hprev id (h.dom _ _ hL)] at hb
      exact h.flag id L b hL hb hr
  · intro id id' L L' hL hL' hr hr' hbe hl hl'
    have old : ∀ i M, i ≠ H.length → φ.set H.length ⟨w.heap.size, 0, 0, true⟩ i = some M → Heap.hot (H ++ [⟨ty, [], true, false⟩]) i = true → φ i = some M ∧ Heap.hot H i = true ∧ M.blk < w.heap.size := fun i M hi hM hli => by
      rw [Phi.set_ne _ _ hi] at hM
      have hlt := h.dom _ _ hM
      exact ⟨hM, by simpa [Heap.hot, hprev i hlt] using hli, h.lt i M hM⟩
    by_cases e : id = H.length
    · by_cases e' : id' = H.length
      · omega
      · subst e
        rw [Phi.set_same] at hL; cases hL
        obtain ⟨_, _, hlt⟩ := old id' L' e' hL' hl'
        simp only at hbe; omega
    · by_cases e' : id' = H.length
      · subst e'
        rw [Phi.set_same] at hL'; cases hL'
        obtain ⟨_, _, hlt⟩ := old id L e hL hl
        simp only at hbe; omega
      · obtain ⟨a1, a2, _⟩ := old id L e hL hl
        obtain ⟨b1, b2, _⟩ := old id' L' e' hL' hl'
        exact h.inj id id' L L' a1 b1 hr hr' hbe a2 b2
  · intro id L b hL hb hl hr
    by_cases e : id = H.length
    · subst e
      rw [Phi.set_same] at hL; cases hL
      rw [hlast] at hb; cases hb
      exact ⟨hB, hnew⟩
    · rw [Phi.set_ne _ _ e] at hL
      rw [hprev id (h.dom _ _ hL)] at hb
      exact hk.mp id L b hL hb hl hr
theorem Inv.newM (h : Inv P B0 n0 D φ0 w0 φ H w) (ty : TypeId) :
    Inv P B0 n0 D φ0 w0 (φ.set H.length ⟨w.heap.size, 0, 0, true⟩) (H ++ [⟨ty, [], true, false⟩]) (w.alloc (.map #[] 0)) ∧ φ.le (φ.set H.length ⟨w.heap.size, 0, 0, true⟩) := by
  have hold : ∀ b, b < w.heap.size → (w.alloc (.map #[] 0)).heap[b]? = w.heap[b]? := fun b hb => Below.heap_alloc w _ b hb
  have hnone : φ H.length = none := by
    cases e : φ H.length with
    | none => rfl
    | some L => exact absurd (h.hr.dom _ _ e) (Nat.lt_irrefl _)
  have hB : B0 ≤ w.heap.size := Nat.le_trans h.b0 h.size
  refine ⟨⟨h.hr.newM hB ty, h.b0, ?_, h.dom0, ?_, ?_, h.os, h.tape, h.output, ?_, ?_⟩, Phi.le_set _ hnone⟩
  · have := h.len; simp; omega
  · intro id hid
    rw [Phi.set_ne _ _ (by have := h.len; omega)]
    exact h.low id hid
  · intro id L hid hL
    by_cases e : id = H.length
    · subst e; rw [Phi.set_same] at hL; cases hL; exact ⟨rfl, .inl h.size⟩
    · rw [Phi.set_ne _ _ e] at hL; exact h.high id L hid hL
  · have := h.size; simp; omega
  · intro b hb hk
    rw [hold b (by have := h.size; omega)]
    exact h.keep b hb hk
end
end Go.Proofs.YtpoedfmkiiijnaaAm
