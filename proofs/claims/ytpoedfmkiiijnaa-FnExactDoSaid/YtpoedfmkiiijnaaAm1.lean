/- The abstract machine, part 1: abstract heaps and values, how they stand to the machine's world, and what keeps that. Plain lemmas; no program in sight. -/
import Derived.WalkKit
import Derived.Orders
import Derived.Laws.AppendOwn
import Derived.Laws.MakeOwn
import Derived.Laws.Rows
import Derived.Laws.StructEq
namespace Go.Proofs.YtpoedfmkiiijnaaAm
open Go Go.RowKit
set_option linter.unusedVariables false
set_option linter.unusedSimpArgs false

/-! ### what the types' table says -/
def szO (P : Program) (t : TypeId) : Option Nat := (P.info? t).map (·.size)
def byO (P : Program) (t : TypeId) : Option Nat := (P.info? t).map (·.bytes)
def zeroO (P : Program) (t : TypeId) : Option Value := (P.info? t).bind (·.zero)
def aggD : TypeDesc → Bool
  | .struct _ | .array _ _ => true
  | _ => false
def aggO (P : Program) (t : TypeId) : Option Bool := (P.underlying t).map aggD
def elemD : TypeDesc → Option TypeId
  | .slice e => some e
  | _ => none
def elemO (P : Program) (t : TypeId) : Option TypeId := (P.underlying t).bind elemD
def intD : TypeDesc → Option IntKind
  | .int k => some k
  | _ => none
def intO (P : Program) (t : TypeId) : Option IntKind := (P.underlying t).bind intD
def fldsD (P : Program) : TypeDesc → Option (List (Nat × Nat))
  | .struct fs => fs.toList.mapM fun f => (P.info? f.type).map fun i => (f.offset, i.size)
  | _ => none
/-- A struct's fields: each one's place and how many cells it takes. -/
def fldsO (P : Program) (t : TypeId) : Option (List (Nat × Nat)) := (P.underlying t).bind (fldsD P)

/-! ### values -/
structure Loc where
  blk : Nat
  base : Nat
  cap : Nat
  rw : Bool

abbrev Phi := Nat → Option Loc
def Phi.le (φ φ' : Phi) : Prop := ∀ id L, φ id = some L → φ' id = some L
theorem Phi.le_refl (φ : Phi) : φ.le φ := fun _ _ h => h
theorem Phi.le_trans {a b c : Phi} (h : a.le b) (k : b.le c) : a.le c := fun _ _ e => k _ _ (h _ _ e)

abbrev pt (id o : Nat) : Value := .pointer (some ⟨id, o, none⟩)
abbrev sl (id o n : Nat) : Value := .slice (some ⟨id, o, none⟩) n 0
abbrev nl : Value := .slice none 0 0
/-- An empty slice that is not nil and lies nowhere that matters. -/
abbrev es : Value := .slice (some ⟨0, 0, some 0⟩) 0 0

inductive VR (φ : Phi) : Value → Value → Prop
  | int (k : IntKind) (n : Int) : VR φ (.int k n) (.int k n)
  | bool (b : Bool) : VR φ (.bool b) (.bool b)
  | str (s : ByteArray) : VR φ (.string s) (.string s)
  | nilp : VR φ (.pointer none) (.pointer none)
  | mp {id : Nat} {L : Loc} (h : φ id = some L) : VR φ (.map (some id)) (.map (some L.blk))
  | ptr {id o : Nat} {L : Loc} (h : φ id = some L) : VR φ (pt id o) (.pointer (some ⟨L.blk, L.base + o, none⟩))
  | nils : VR φ nl nl
  | slc {id o n c : Nat} {L : Loc} (h : φ id = some L) (hn : n ≤ c) (hc : L.rw = true → o = 0 → c = L.cap) : VR φ (sl id o n) (.slice (some ⟨L.blk, L.base + o, none⟩) n c)
  | sl0 {id o : Nat} {a : Addr} {L : Loc} (h : φ id = some L) (ho : o ≠ 0) : VR φ (sl id o 0) (.slice (some a) 0 0)
  | emp (a : Addr) (c : Nat) : VR φ es (.slice (some a) 0 c)
  | fn {f : Fn} {cs ds : Array Value} (hs : cs.size = ds.size) (h : ∀ i (h1 : i < cs.size) (h2 : i < ds.size), VR φ cs[i] ds[i]) : VR φ (.func f #[] cs) (.func f #[] ds)
  | agg {cs ds : Array Value} (hs : cs.size = ds.size) (h : ∀ i (h1 : i < cs.size) (h2 : i < ds.size), VR φ cs[i] ds[i]) : VR φ (.agg cs) (.agg ds)
  | tup {cs ds : Array Value} (hs : cs.size = ds.size) (h : ∀ i (h1 : i < cs.size) (h2 : i < ds.size), VR φ cs[i] ds[i]) : VR φ (.tuple cs) (.tuple ds)

theorem VR.mono {φ φ' : Phi} (hφ : φ.le φ') {x y : Value} (h : VR φ x y) : VR φ' x y := by
  induction h with
  | int k n => exact .int k n
  | bool b => exact .bool b
  | str s => exact .str s
  | nilp => exact .nilp
  | mp h => exact .mp (hφ _ _ h)
  | ptr h => exact .ptr (hφ _ _ h)
  | nils => exact .nils
  | slc h hn hc => exact .slc (hφ _ _ h) hn hc
  | sl0 h ho => exact .sl0 (hφ _ _ h) ho
  | emp a c => exact .emp a c
  | fn hs _ ih => exact .fn hs ih
  | agg hs _ ih => exact .agg hs ih
  | tup hs _ ih => exact .tup hs ih

/-- What was meant under φ and is met under a greater φ' is met under φ. -/
theorem VR.back {φ φ' : Phi} (hφ : φ.le φ') {x y : Value} (h : VR φ' x y) : ∀ {y0 : Value}, VR φ x y0 → VR φ x y := by
  induction h with
  | int k n => intro y0 _; exact .int k n
  | bool b => intro y0 _; exact .bool b
  | str s => intro y0 _; exact .str s
  | nilp => intro y0 _; exact .nilp
  | mp h => intro y0 h0; cases h0 with | mp h1 => have e := hφ _ _ h1; rw [h] at e; cases e; exact .mp h1
  | ptr h => intro y0 h0; cases h0 with | ptr h1 => have e := hφ _ _ h1; rw [h] at e; cases e; exact .ptr h1
  | nils => intro y0 _; exact .nils
  | slc h hn hc => intro y0 h0; cases h0 with
    | slc h1 _ _ => have e := hφ _ _ h1; rw [h] at e; cases e; exact .slc h1 hn hc
    | sl0 h1 _ => have e := hφ _ _ h1; rw [h] at e; cases e; exact .slc h1 hn hc
  | sl0 h ho => intro y0 h0; cases h0 with
    | slc h1 _ _ => exact .sl0 h1 ho
    | sl0 h1 _ => exact .sl0 h1 ho
  | emp a c => intro y0 _; exact .emp a c
  | fn hs _ ih => intro y0 h0; cases h0 with | fn hs0 h1 => exact .fn hs fun i h2 h3 => ih i h2 h3 (h1 i h2 (by omega))
  | agg hs _ ih => intro y0 h0; cases h0 with | agg hs0 h1 => exact .agg hs fun i h2 h3 => ih i h2 h3 (h1 i h2 (by omega))
  | tup hs _ ih => intro y0 h0; cases h0 with | tup hs0 h1 => exact .tup hs fun i h2 h3 => ih i h2 h3 (h1 i h2 (by omega))

theorem VR.one {φ : Phi} {x y : Value} (h : VR φ x y) : y.oneCell' = x.oneCell' := by cases h <;> rfl

def VRs (φ : Phi) (cs ds : List Value) : Prop := cs.length = ds.length ∧ ∀ (i : Nat) (x y : Value), cs[i]? = some x → ds[i]? = some y → VR φ x y
theorem VRs.nil (φ : Phi) : VRs φ [] [] := ⟨rfl, fun i x y h => by simp at h⟩
theorem VRs.cons {φ : Phi} {x y : Value} {cs ds : List Value} (h : VR φ x y) (k : VRs φ cs ds) : VRs φ (x :: cs) (y :: ds) :=
  ⟨by simp [k.1], fun i u v hu hv => by
    cases i with
    | zero => simp at hu hv; subst hu; subst hv; exact h
    | succ i => exact k.2 i u v (by simpa using hu) (by simpa using hv)⟩
theorem VRs.inv {φ : Phi} {x : Value} {cs es : List Value} (h : VRs φ (x :: cs) es) : ∃ y ds, es = y :: ds ∧ VR φ x y ∧ VRs φ cs ds := by
  cases es with
  | nil => simp [VRs] at h
  | cons y ds => exact ⟨y, ds, rfl, h.2 0 x y rfl rfl, by have := h.1; simp at this; exact this, fun i u v hu hv => h.2 (i + 1) u v (by simpa using hu) (by simpa using hv)⟩
theorem VRs.inv_nil {φ : Phi} {es : List Value} (h : VRs φ [] es) : es = [] := List.eq_nil_of_length_eq_zero h.1.symm
theorem VRs.mono {φ φ' : Phi} (hφ : φ.le φ') {cs ds : List Value} (h : VRs φ cs ds) : VRs φ' cs ds := ⟨h.1, fun i x y hx hy => (h.2 i x y hx hy).mono hφ⟩
theorem VRs.append {φ : Phi} {a b c d : List Value} (h : VRs φ a c) (k : VRs φ b d) : VRs φ (a ++ b) (c ++ d) := by
  induction a generalizing c with
  | nil => rw [h.inv_nil]; exact k
  | cons x a ih => obtain ⟨y, ds, rfl, h1, h2⟩ := h.inv; exact .cons h1 (ih h2)
theorem VR.agg_of {φ : Phi} {cs ds : List Value} (h : VRs φ cs ds) : VR φ (.agg cs.toArray) (.agg ds.toArray) :=
  .agg (by simpa using h.1) fun i h1 h2 => h.2 i _ _ (by simp at h1; simp [h1]) (by simp at h2; simp [h2])
theorem VR.tup_of {φ : Phi} {cs ds : List Value} (h : VRs φ cs ds) : VR φ (.tuple cs.toArray) (.tuple ds.toArray) :=
  .tup (by simpa using h.1) fun i h1 h2 => h.2 i _ _ (by simp at h1; simp [h1]) (by simp at h2; simp [h2])
theorem VR.fn_of {φ : Phi} {f : Fn} {cs ds : List Value} (h : VRs φ cs ds) : VR φ (.func f #[] cs.toArray) (.func f #[] ds.toArray) :=
  .fn (by simpa using h.1) fun i h1 h2 => h.2 i _ _ (by simp at h1; simp [h1]) (by simp at h2; simp [h2])
theorem VR.agg_inv {φ : Phi} {cs : Array Value} {y : Value} (h : VR φ (.agg cs) y) : ∃ ds : Array Value, y = .agg ds ∧ VRs φ cs.toList ds.toList := by
  cases h with
  | @agg cs ds hs h => exact ⟨ds, rfl, by simpa using hs, fun i x y hx hy => by
      obtain ⟨h1, rfl⟩ := List.getElem?_eq_some_iff.1 hx
      obtain ⟨h2, rfl⟩ := List.getElem?_eq_some_iff.1 hy
      simpa using h i (by simpa using h1) (by simpa using h2)⟩
theorem VR.tup_inv {φ : Phi} {cs : Array Value} {y : Value} (h : VR φ (.tuple cs) y) : ∃ ds : Array Value, y = .tuple ds ∧ VRs φ cs.toList ds.toList := by
  cases h with
  | @tup cs ds hs h => exact ⟨ds, rfl, by simpa using hs, fun i x y hx hy => by
      obtain ⟨h1, rfl⟩ := List.getElem?_eq_some_iff.1 hx
      obtain ⟨h2, rfl⟩ := List.getElem?_eq_some_iff.1 hy
      simpa using h i (by simpa using h1) (by simpa using h2)⟩
theorem VR.fn_inv {φ : Phi} {f : Fn} {cs : Array Value} {y : Value} (h : VR φ (.func f #[] cs) y) : ∃ ds : Array Value, y = .func f #[] ds ∧ VRs φ cs.toList ds.toList := by
  cases h with
  | @fn f cs ds hs h => exact ⟨ds, rfl, by simpa using hs, fun i x y hx hy => by
      obtain ⟨h1, rfl⟩ := List.getElem?_eq_some_iff.1 hx
      obtain ⟨h2, rfl⟩ := List.getElem?_eq_some_iff.1 hy
      simpa using h i (by simpa using h1) (by simpa using h2)⟩
/-- The cells of a value. -/
def cellsV : Value → List Value
  | .agg cs => cs.toList
  | v => [v]
theorem cellsV_eq (v : Value) : v.cells.toList = cellsV v := by cases v <;> rfl
theorem VR.cells {φ : Phi} {x y : Value} (h : VR φ x y) : VRs φ (cellsV x) (cellsV y) := by
  cases h with
  | agg hs h => exact (VR.agg_inv (.agg hs h)).elim fun ds hd => by cases hd.1; exact hd.2
  | int k n => exact .cons (.int k n) (.nil _)
  | bool b => exact .cons (.bool b) (.nil _)
  | str s => exact .cons (.str s) (.nil _)
  | nilp => exact .cons .nilp (.nil _)
  | mp h => exact .cons (.mp h) (.nil _)
  | ptr h => exact .cons (.ptr h) (.nil _)
  | nils => exact .cons .nils (.nil _)
  | slc h hn hc => exact .cons (.slc h hn hc) (.nil _)
  | sl0 h ho => exact .cons (.sl0 h ho) (.nil _)
  | emp a c => exact .cons (.emp a c) (.nil _)
  | fn hs h => exact .cons (.fn hs h) (.nil _)
  | tup hs h => exact .cons (.tup hs h) (.nil _)

/-! ### heaps -/
structure Blk where
  ty : TypeId
  cells : List Value
  rw : Bool
  live : Bool
abbrev Heap := List Blk
namespace Heap
def cell (H : Heap) (id j : Nat) : Option Value := match H[id]? with
  | some b => if b.live then b.cells[j]? else none
  | none => none
def live (H : Heap) (id : Nat) : Bool := match H[id]? with
  | some b => b.live
  | none => false
def rwOk (H : Heap) (id : Nat) : Bool := match H[id]? with
  | some b => b.live && b.rw
  | none => false
/-- One cell is written. -/
def put (H : Heap) (id j : Nat) (x : Value) : Heap := H.modify id fun b => { b with cells := b.cells.set j x }
/-- From place j on, one cell after the other. -/
def puts (H : Heap) (id j : Nat) : List Value → Heap
  | [] => H
  | x :: xs => puts (H.put id j x) id (j + 1) xs
def kill (H : Heap) (id : Nat) : Heap := H.modify id fun b => { b with rw := false, live := false }
/-- A block of which something is told: a live one, or a map (not live, but to be written). -/
def hot (H : Heap) (id : Nat) : Bool := match H[id]? with
  | some b => b.live || b.rw
  | none => false
end Heap
theorem Heap.hot_of_live {H : Heap} {id : Nat} (h : H.live id = true) : H.hot id = true := by
  unfold Heap.live at h; unfold Heap.hot
  split at h <;> simp_all
theorem Heap.live_of_hot_f {H : Heap} {id : Nat} (h : H.hot id = false) : H.live id = false := by
  cases e : H.live id with
  | false => rfl
  | true => rw [Heap.hot_of_live e] at h; cases h
/-- A map's object: keys and values by turns. -/
def entsM : Nat → List Value → List MapEntry
  | i, k :: v :: r => { key := k, val := v, born := i } :: entsM (i + 1) r
  | _, _ => []
def mapO (cs : List Value) : Obj := .map (entsM 0 cs).toArray (cs.length / 2)
theorem Heap.length_put (H : Heap) (id j : Nat) (x : Value) : (H.put id j x).length = H.length := by simp [Heap.put]
theorem Heap.length_puts (H : Heap) (id j : Nat) (xs : List Value) : (H.puts id j xs).length = H.length := by
  induction xs generalizing H j with
  | nil => rfl
  | cons x xs ih => rw [Heap.puts, ih, Heap.length_put]
theorem Heap.length_kill (H : Heap) (id : Nat) : (H.kill id).length = H.length := by simp [Heap.kill]
theorem Heap.live_of_cell {H : Heap} {id j : Nat} {x : Value} (h : H.cell id j = some x) : H.live id = true := by
  unfold Heap.cell at h; unfold Heap.live
  split at h
  · split at h <;> simp_all
  · cases h
theorem Heap.lt_of_live {H : Heap} {id : Nat} (h : H.live id = true) : id < H.length := by
  unfold Heap.live at h
  split at h
  · rename_i e; exact (List.getElem?_eq_some_iff.1 e).1
  · cases h
theorem Heap.live_of_rwOk {H : Heap} {id : Nat} (h : H.rwOk id = true) : H.live id = true := by
  unfold Heap.rwOk at h; unfold Heap.live
  split at h <;> simp_all

/-- How an abstract heap stands to a world. -/
structure HR (P : Program) (B0 : Nat) (φ : Phi) (H : Heap) (w : World) : Prop where
  dom : ∀ id L, φ id = some L → id < H.length
  ro : ∀ id L, φ id = some L → L.rw = false → L.blk < B0
  lt : ∀ id L, φ id = some L → L.blk < w.heap.size
  cell : ∀ id L j x, φ id = some L → H.cell id j = some x → ∃ y, VR φ x y ∧ w.cell? ⟨L.blk, L.base + j, none⟩ = some y
  row : ∀ id L b, φ id = some L → L.rw = true → H[id]? = some b → b.live = true → L.base = 0 ∧ B0 ≤ L.blk ∧
    ∃ cur sz, szO P b.ty = some sz ∧ w.heap[L.blk]? = some (.cells cur b.ty (0, 0)) ∧ cur.size = L.cap * sz ∧ b.cells.length ≤ cur.size ∧ L.cap ≤ maxLen
  flag : ∀ id L b, φ id = some L → H[id]? = some b → b.rw = true → L.rw = true
  inj : ∀ id id' L L', φ id = some L → φ id' = some L' → L.rw = true → L'.rw = true → L.blk = L'.blk → H.hot id = true → H.hot id' = true → id = id'
  mp : ∀ id L b, φ id = some L → H[id]? = some b → b.live = false → b.rw = true → B0 ≤ L.blk ∧ w.heap[L.blk]? = some (mapO b.cells)

theorem cell_lt {w : World} {a : Addr} {v : Value} (h : w.cell? a = some v) : a.block < w.heap.size := World.block_lt_of_cell? (w := w) (a := a) h
theorem cell_same {w w' : World} {a : Addr} (h : w'.heap[a.block]? = w.heap[a.block]?) : w'.cell? a = w.cell? a := World.cell?_of_block (w := w) (w' := w') (a := a) h

/-- The world may grow, and may turn what is no abstract block's. -/
theorem HR.keep {P : Program} {B0 : Nat} {φ : Phi} {H : Heap} {w w' : World} (h : HR P B0 φ H w)
    (hs : w.heap.size ≤ w'.heap.size) (hk : ∀ id L, φ id = some L → H.hot id = true → L.blk < w.heap.size → w'.heap[L.blk]? = w.heap[L.blk]?) : HR P B0 φ H w' where
  dom := h.dom
  ro := h.ro
  lt id L hL := Nat.lt_of_lt_of_le (h.lt id L hL) hs
  cell id L j x hL hx := by
    obtain ⟨y, hv, hc⟩ := h.cell id L j x hL hx
    refine ⟨y, hv, ?_⟩
    rw [cell_same (w := w) (a := ⟨L.blk, L.base + j, none⟩) (hk id L hL (Heap.hot_of_live (Heap.live_of_cell hx)) (cell_lt hc))]
    exact hc
  row id L b hL hr hb hl := by
    obtain ⟨h0, h1, cur, sz, h2, h3, h4⟩ := h.row id L b hL hr hb hl
    refine ⟨h0, h1, cur, sz, h2, ?_, h4⟩
    rw [hk id L hL (by simp [Heap.hot, hb, hl]) (Array.getElem?_eq_some_iff.1 h3).1]
    exact h3
  flag := h.flag
  inj := h.inj
  mp id L b hL hb hl hr := by
    obtain ⟨h0, h1⟩ := h.mp id L b hL hb hl hr
    refine ⟨h0, ?_⟩
    rw [hk id L hL (by simp [Heap.hot, hb, hr]) (Array.getElem?_eq_some_iff.1 h1).1]
    exact h1
theorem HR.grow {P : Program} {B0 : Nat} {φ : Phi} {H : Heap} {w w' : World} (h : HR P B0 φ H w)
    (hs : w.heap.size ≤ w'.heap.size) (hk : ∀ b, b < w.heap.size → w'.heap[b]? = w.heap[b]?) : HR P B0 φ H w' := h.keep hs fun id L _ _ hlt => hk _ hlt

/-- φ with one id more. -/
def Phi.set (φ : Phi) (id : Nat) (L : Loc) : Phi := fun i => if i = id then some L else φ i
theorem Phi.set_same (φ : Phi) (id : Nat) (L : Loc) : φ.set id L id = some L := by simp [Phi.set]
theorem Phi.set_ne (φ : Phi) {id i : Nat} (L : Loc) (h : i ≠ id) : φ.set id L i = φ i := by simp [Phi.set, h]
theorem Phi.le_set {φ : Phi} {id : Nat} (L : Loc) (h : φ id = none) : φ.le (φ.set id L) := fun i M hi => by
  by_cases e : i = id
  · subst e; rw [h] at hi; cases hi
  · rw [Phi.set_ne _ _ e]; exact hi

/-- A new block, behind which the old ones are as they were. -/
theorem HR.new {P : Program} {B0 : Nat} {φ : Phi} {H : Heap} {w w' : World} (h : HR P B0 φ H w) (hB : B0 ≤ w.heap.size)
    {ty : TypeId} {xs : List Value} {cur : Array Value} {cap sz : Nat} (hsz : szO P ty = some sz)
    (hold : ∀ b, b < w.heap.size → w'.heap[b]? = w.heap[b]?) {g : Nat} (hg : w.heap.size ≤ g) (hnew : w'.heap[g]? = some (.cells cur ty (0, 0)))
    (hcap : cur.size = cap * sz) (hmax : cap ≤ maxLen) (hlen : xs.length ≤ cur.size) (hv : ∀ (j : Nat) (x : Value), xs[j]? = some x → ∃ y, VR φ x y ∧ cur[j]? = some y) :
    HR P B0 (φ.set H.length ⟨g, 0, cap, true⟩) (H ++ [⟨ty, xs, true, true⟩]) w' := by
  have hnone : φ H.length = none := by
    cases e : φ H.length with
    | none => rfl
    | some L => exact absurd (h.dom _ _ e) (Nat.lt_irrefl _)
  have hle := Phi.le_set (L := ⟨g, 0, cap, true⟩) hnone
  have hgl : g < w'.heap.size := (Array.getElem?_eq_some_iff.1 hnew).1
  have hk := h.grow (by omega) hold
  have hblk : ∀ id L, φ id = some L → L.blk < w.heap.size := fun id L hL => h.lt id L hL
  have hlast : (H ++ [(⟨ty, xs, true, true⟩ : Blk)])[H.length]? = some ⟨ty, xs, true, true⟩ := by simp
  have hprev : ∀ id, id < H.length → (H ++ [(⟨ty, xs, true, true⟩ : Blk)])[id]? = H[id]? := fun id hi => by rw [List.getElem?_append_left hi]
  refine ⟨?_, ?_, ?_, ?_, ?_, ?_, ?_, ?_⟩
  · intro id L hL
    by_cases e : id = H.length
    · subst e; simp
    · rw [Phi.set_ne _ _ e] at hL; have := h.dom _ _ hL; simp; omega
  · intro id L hL hr
    by_cases e : id = H.length
    · subst e; rw [Phi.set_same] at hL; cases hL; cases hr
    · rw [Phi.set_ne _ _ e] at hL; exact h.ro _ _ hL hr
  · intro id L hL
    by_cases e : id = H.length
    · subst e; rw [Phi.set_same] at hL; cases hL; exact hgl
    · rw [Phi.set_ne _ _ e] at hL; exact hk.lt _ _ hL
  · intro id L j x hL hx
    by_cases e : id = H.length
    · subst e
      rw [Phi.set_same] at hL; cases hL
      simp only [Heap.cell, hlast, if_true] at hx
      obtain ⟨y, hy, hc⟩ := hv j x hx
      refine ⟨y, hy.mono hle, ?_⟩
      rw [cell_of_row _ _ _ _ _ _ hnew]; simpa using hc
    · rw [Phi.set_ne _ _ e] at hL
      have hlt := h.dom _ _ hL
      simp only [Heap.cell, hprev id hlt] at hx
      obtain ⟨y, hy, hc⟩ := hk.cell id L j x hL hx
      exact ⟨y, hy.mono hle, hc⟩
  · intro id L b hL hr hb hl
    by_cases e : id = H.length
    · subst e
      rw [Phi.set_same] at hL; cases hL
      rw [hlast] at hb; cases hb
      exact ⟨rfl, Nat.le_trans hB hg, cur, sz, hsz, hnew, hcap, hlen, hmax⟩
    · rw [Phi.set_ne _ _ e] at hL
      rw [hprev id (h.dom _ _ hL)] at hb
      exact hk.row id L b hL hr hb hl
  · intro id L b hL hb hr
    by_cases e : id = H.length
    · subst e; rw [Phi.set_same] at hL; cases hL; rfl
    · rw [Phi.set_ne _ _ e] at hL
      rw [hprev id (h.dom _ _ hL)] at hb
      exact h.flag id L b hL hb hr
  · intro id id' L L' hL hL' hr hr' hbe hl hl'
    have old : ∀ i M, i ≠ H.length → φ.set H.length ⟨g, 0, cap, true⟩ i = some M → M.rw = true → Heap.hot (H ++ [⟨ty, xs, true, true⟩]) i = true → φ i = some M ∧ Heap.hot H i = true ∧ M.blk < w.heap.size := fun i M hi hM hMr hli => by
      rw [Phi.set_ne _ _ hi] at hM
      have hlt := h.dom _ _ hM
      exact ⟨hM, by simpa [Heap.hot, hprev i hlt] using hli, hblk i M hM⟩
    by_cases e : id = H.length
    · by_cases e' : id' = H.length
      · omega
      · subst e
        rw [Phi.set_same] at hL; cases hL
        obtain ⟨_, _, hlt⟩ := old id' L' e' hL' hr' hl'
        simp only at hbe; omega
    · by_cases e' : id' = H.length
      · subst e'
        rw [Phi.set_same] at hL'; cases hL'
        obtain ⟨_, _, hlt⟩ := old id L e hL hr hl
        simp only at hbe; omega
      · obtain ⟨a1, a2, _⟩ := old id L e hL hr hl
        obtain ⟨b1, b2, _⟩ := old id' L' e' hL' hr' hl'
        exact h.inj id id' L L' a1 b1 hr hr' hbe a2 b2
  · intro id L b hL hb hl hr
    by_cases e : id = H.length
    · subst e; rw [hlast] at hb; cases hb; cases hl
    · rw [Phi.set_ne _ _ e] at hL
      rw [hprev id (h.dom _ _ hL)] at hb
      exact hk.mp id L b hL hb hl hr

theorem Heap.get_put {H : Heap} {id j : Nat} {x : Value} (i : Nat) : (H.put id j x)[i]? = if i = id then (H[i]?).map (fun b => { b with cells := b.cells.set j x }) else H[i]? := by
  unfold Heap.put
  rw [List.getElem?_modify]
  by_cases e : i = id
  · subst e; simp
  · have e' : ¬ id = i := fun h => e h.symm
    simp [e, e']
theorem Heap.live_put (H : Heap) (id j : Nat) (x : Value) (i : Nat) : (H.put id j x).live i = H.live i := by
  unfold Heap.live
  rw [Heap.get_put]
  by_cases e : i = id
  · subst e; cases H[i]? <;> simp
  · simp [e]
theorem Heap.hot_put (H : Heap) (id j : Nat) (x : Value) (i : Nat) : (H.put id j x).hot i = H.hot i := by
  unfold Heap.hot
  rw [Heap.get_put]
  by_cases e : i = id
  · subst e; cases H[i]? <;> simp
  · simp [e]
theorem Heap.cell_put (H : Heap) (id j : Nat) (x : Value) (i k : Nat) : (H.put id j x).cell i k = if i = id ∧ k = j ∧ (H.cell id j).isSome then some x else H.cell i k := by
  unfold Heap.cell
  rw [Heap.get_put]
  by_cases e : i = id
  · subst e
    cases hb : H[i]? with
    | none => simp
    | some b =>
      by_cases hl : b.live = true
      · simp only [Option.map_some, if_true, hl, List.getElem?_set]
        by_cases ek : j = k
        · subst ek
          by_cases hlt : j < b.cells.length
          · simp [hlt]
          · simp [hlt]
        · have ek' : ¬ k = j := fun h => ek h.symm
          simp [ek, ek']
      · simp [hl]
  · simp [e]

/-- One cell of a row of one's own is written. -/
theorem HR.put {P : Program} {B0 : Nat} {φ : Phi} {H : Heap} {w : World} (h : HR P B0 φ H w) {id j : Nat} {L : Loc} {x y u : Value}
    (hL : φ id = some L) (hrw : H.rwOk id = true) (hu : H.cell id j = some u) (hxy : VR φ x y) :
    HR P B0 φ (H.put id j x) (w.setCell ⟨L.blk, L.base + j, none⟩ y) ∧ w.frozen? ⟨L.blk, L.base + j, none⟩ = false ∧ (∃ v, w.cell? ⟨L.blk, L.base + j, none⟩ = some v) ∧ L.rw = true ∧ B0 ≤ L.blk := by
  obtain ⟨b, hb, hbl, hbr⟩ : ∃ b, H[id]? = some b ∧ b.live = true ∧ b.rw = true := by
    unfold Heap.rwOk at hrw
    split at hrw
    · rename_i b e; exact ⟨b, e, by simpa using hrw⟩
    · cases hrw
  have hLr := h.flag id L b hL hb hbr
  obtain ⟨hbase, hB, cur, sz, hsz, hcur, hcap, hlen, hmax⟩ := h.row id L b hL hLr hb hbl
  have hj : j < b.cells.length := by
    simp only [Heap.cell, hb, hbl, if_true] at hu
    exact (List.getElem?_eq_some_iff.1 hu).1
  have hset : (w.setCell ⟨L.blk, L.base + j, none⟩ y).heap[L.blk]? = some (.cells (cur.setIfInBounds j y) b.ty (0, 0)) := by
    rw [hbase, Nat.zero_add]; exact heap_setCell_same w L.blk j cur b.ty y hcur
  have hoth : ∀ k, k ≠ L.blk → (w.setCell ⟨L.blk, L.base + j, none⟩ y).heap[k]? = w.heap[k]? := fun k hk => heap_setCell_other w _ k y hk
  refine ⟨⟨?_, h.ro, fun i M hM => by rw [show (w.setCell ⟨L.blk, L.base + j, none⟩ y).heap.size = w.heap.size from by simp [World.setCell]]; exact h.lt i M hM, ?_, ?_, ?_, ?_, ?_⟩, ?_, ?_, hLr, hB⟩
  · intro i M hM; rw [Heap.length_put]; exact h.dom i M hM
  · intro i M k z hM hz
    rw [Heap.cell_put] at hz
    by_cases e : i = id
    · subst e
      rw [hL] at hM; cases hM
      by_cases ek : k = j
      · subst ek
        simp only [hu, Option.isSome_some, and_self, if_true, Option.some.injEq] at hz
        subst hz
        refine ⟨y, hxy, ?_⟩
        rw [hbase, Nat.zero_add]
        rw [cell_of_row _ _ _ _ _ _ (by rw [hbase, Nat.zero_add] at hset; exact hset)]
        have : k < cur.size := by omega
        simp [this]
      · simp only [ek, false_and, and_false, if_false] at hz
        obtain ⟨z', hzz, hc⟩ := h.cell i _ k z hL hz
        refine ⟨z', hzz, ?_⟩
        rw [World.cell?_setCell_other]
        · exact hc
        · intro e; simp only [Addr.mk.injEq] at e; omega
    · simp only [e, false_and, if_false] at hz
      obtain ⟨z', hzz, hc⟩ := h.cell i M k z hM hz
      refine ⟨z', hzz, ?_⟩
      rw [cell_same (w := w) (a := ⟨M.blk, M.base + k, none⟩)]
      · exact hc
      · apply hoth
        simp only
        intro eb
        by_cases hMr : M.rw = true
        · exact e (h.inj i id M L hM hL hMr hLr eb (Heap.hot_of_live (Heap.live_of_cell hz)) (Heap.hot_of_live (Heap.live_of_rwOk hrw)))
        · have := h.ro i M hM (by simpa using hMr); omega
  · intro i M c hM hMr hc hcl
    rw [Heap.get_put] at hc
    by_cases e : i = id
    · subst e
      rw [hL] at hM; cases hM
      rw [hb] at hc
      simp only [if_true, Option.map_some, Option.some.injEq] at hc
      subst hc
      exact ⟨hbase, hB, _, sz, hsz, hset, by simpa using hcap, by simpa using hlen, hmax⟩
    · simp only [e, if_false] at hc
      obtain ⟨h0, h1, cur', sz', h2, h3, h4⟩ := h.row i M c hM hMr hc hcl
      refine ⟨h0, h1, cur', sz', h2, ?_, h4⟩
      rw [hoth]
      · exact h3
      · intro eb
        exact e (h.inj i id M L hM hL hMr hLr eb (by simp [Heap.hot, hc, hcl]) (Heap.hot_of_live (Heap.live_of_rwOk hrw)))
  · intro i M c hM hc hcr
    rw [Heap.get_put] at hc
    by_cases e : i = id
    · subst e; rw [hL] at hM; cases hM; exact hLr
    · simp only [e, if_false] at hc
      exact h.flag i M c hM hc hcr
  · intro i i' M M' hM hM' hr hr' hbe hl hl'
    rw [Heap.hot_put] at hl hl'
    exact h.inj i i' M M' hM hM' hr hr' hbe hl hl'
  · intro i M c hM hc hcl hcr
    rw [Heap.get_put] at hc
    by_cases e : i = id
    · subst e
      rw [hb] at hc
      simp only [if_true, Option.map_some, Option.some.injEq] at hc
      subst hc
      simp only at hcl; rw [hbl] at hcl; cases hcl
    · simp only [e, if_false] at hc
      obtain ⟨h0, h1⟩ := h.mp i M c hM hc hcl hcr
      refine ⟨h0, ?_⟩
      rw [hoth]
      · exact h1
      · intro eb
        exact e (h.inj i id M L hM hL (h.flag i M c hM hc hcr) hLr eb (by simp [Heap.hot, hc, hcr]) (Heap.hot_of_live (Heap.live_of_rwOk hrw)))
  · rw [hbase, Nat.zero_add]; exact frozen_of_row w L.blk j cur b.ty hcur
  · obtain ⟨v, _, hv⟩ := h.cell id L j u hL hu
    exact ⟨v, hv⟩

theorem Heap.get_kill {H : Heap} {id : Nat} (i : Nat) : (H.kill id)[i]? = if i = id then (H[i]?).map (fun b => { b with rw := false, live := false }) else H[i]? := by
  unfold Heap.kill
  rw [List.getElem?_modify]
  by_cases e : i = id
  · subst e; simp
  · have e' : ¬ id = i := fun h => e h.symm
    simp [e, e']
theorem Heap.cell_kill (H : Heap) (id i k : Nat) : (H.kill id).cell i k = if i = id then none else H.cell i k := by
  unfold Heap.cell
  rw [Heap.get_kill]
  by_cases e : i = id
  · subst e; cases H[i]? <;> simp
  · simp [e]
theorem Heap.live_kill (H : Heap) (id i : Nat) : (H.kill id).live i = if i = id then false else H.live i := by
  unfold Heap.live
  rw [Heap.get_kill]
  by_cases e : i = id
  · subst e; cases H[i]? <;> simp
  · simp [e]
theorem Heap.hot_kill (H : Heap) (id i : Nat) : (H.kill id).hot i = if i = id then false else H.hot i := by
  unfold Heap.hot
  rw [Heap.get_kill]
  by_cases e : i = id
  · subst e; cases H[i]? <;> simp
  · simp [e]
/-- A block is given up: nothing is said of it any more. -/
theorem HR.kill {P : Program} {B0 : Nat} {φ : Phi} {H : Heap} {w : World} (h : HR P B0 φ H w) (id : Nat) : HR P B0 φ (H.kill id) w where
  dom i M hM := by rw [Heap.length_kill]; exact h.dom i M hM
  ro := h.ro
  lt := h.lt
  cell i M j x hM hx := by
    rw [Heap.cell_kill] at hx
    split at hx
    · cases hx
    · exact h.cell i M j x hM hx
  row i M b hM hr hb hl := by
    rw [Heap.get_kill] at hb
    split at hb
    · cases hH : H[i]? with
      | none => rw [hH] at hb; cases hb
      | some c => rw [hH] at hb; simp only [Option.map_some, Option.some.injEq] at hb; subst hb; cases hl
    · exact h.row i M b hM hr hb hl
  flag i M b hM hb hr := by
    rw [Heap.get_kill] at hb
    split at hb
    · cases hH : H[i]? with
      | none => rw [hH] at hb; cases hb
      | some c => rw [hH] at hb; simp only [Option.map_some, Option.some.injEq] at hb; subst hb; cases hr
    · exact h.flag i M b hM hb hr
  inj i i' M M' hM hM' hr hr' hbe hl hl' := by
    rw [Heap.hot_kill] at hl hl'
    split at hl
    · cases hl
    · split at hl'
      · cases hl'
      · exact h.inj i i' M M' hM hM' hr hr' hbe hl hl'
  mp i M b hM hb hl hr := by
    rw [Heap.get_kill] at hb
    split at hb
    · cases hH : H[i]? with
      | none => rw [hH] at hb; cases hb
      | some c => rw [hH] at hb; simp only [Option.map_some, Option.some.injEq] at hb; subst hb; cases hr
    · exact h.mp i M b hM hb hl hr

end Go.Proofs.YtpoedfmkiiijnaaAm
