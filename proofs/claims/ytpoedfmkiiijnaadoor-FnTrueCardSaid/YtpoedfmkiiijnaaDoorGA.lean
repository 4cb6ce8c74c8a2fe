/- Texts of this repo, one behind the other (Am1 Am2 Am3 Am4 Am5 Amm). Plain lemmas and walks. -/
import Derived.WalkKit
import Derived.Orders
import Derived.Laws.AppendOwn
import Derived.Laws.MakeOwn
import Derived.Laws.Rows
import Derived.Laws.StructEq
import Derived.Laws.Cover3
import Derived.Laws.Small
import Derived.Maps.AppendAt
import Derived.Laws.OwnMore
import Derived.Lib.LaidTab
import Derived.Lib.ItoaNum
import Derived.Lib.AppendStr
import Derived.MapKept
namespace Go.Proofs.YtpoedfmkiiijnaaDoorAm
open Go Go.RowKit
set_option linter.unusedVariables false
set_option linter.unusedSimpArgs false

/-! ### what the types' table says -/
def szO (P : Program) (t : TypeId) : Option Nat := (P.info? t).map (·.size)
def byO (P : Program) (t : TypeId) : Option Nat := (P.info? t).map (·.bytes)
def zeroO (P : Program) (t : TypeId) : Option Value := (P.info? t).bind (·.zero)
def aggD : TypeDesc → Bool
 | .struct _ | .array _ _ => true
 | _ => false
def aggO (P : Program) (t : TypeId) : Option Bool := (P.underlying t).map aggD
def elemD : TypeDesc → Option TypeId
 | .slice e => some e
 | _ => none
def elemO (P : Program) (t : TypeId) : Option TypeId := (P.underlying t).bind elemD
def intD : TypeDesc → Option IntKind
 | .int k => some k
 | _ => none
def intO (P : Program) (t : TypeId) : Option IntKind := (P.underlying t).bind intD
def fldsD (P : Program) : TypeDesc → Option (List (Nat × Nat))
 | .struct fs => fs.toList.mapM fun f => (P.info? f.type).map fun i => (f.offset, i.size)
 | _ => none
/-- A struct's fields: each one's place and how many cells it takes. -/
def fldsO (P : Program) (t : TypeId) : Option (List (Nat × Nat)) := (P.underlying t).bind (fldsD P)

/-! ### values -/
structure Loc where
 blk : Nat
 base : Nat
 cap : Nat
 rw : Bool

abbrev Phi := Nat → Option Loc
def Phi.le (φ φ' : Phi) : Prop := ∀ id L, φ id = some L → φ' id = some L
theorem Phi.le_refl (φ : Phi) : φ.le φ := fun _ _ h => h
theorem Phi.le_trans {a b c : Phi} (h : a.le b) (k : b.le c) : a.le c := fun _ _ e => k _ _ (h _ _ e)

abbrev pt (id o : Nat) : Value := .pointer (some ⟨id, o, none⟩)
abbrev sl (id o n : Nat) : Value := .slice (some ⟨id, o, none⟩) n 0
abbrev nl : Value := .slice none 0 0
/-- An empty slice that is not nil and lies nowhere that matters. -/
abbrev es : Value := .slice (some ⟨0, 0, some 0⟩) 0 0

inductive VR (φ : Phi) : Value → Value → Prop
 | int (k : IntKind) (n : Int) : VR φ (.int k n) (.int k n)
 | bool (b : Bool) : VR φ (.bool b) (.bool b)
 | str (s : ByteArray) : VR φ (.string s) (.string s)
 | nilp : VR φ (.pointer none) (.pointer none)
 | nili : VR φ .nilIface .nilIface
 | mp {id : Nat} {L : Loc} (h : φ id = some L) : VR φ (.map (some id)) (.map (some L.blk))
 | ptr {id o : Nat} {L : Loc} (h : φ id = some L) : VR φ (pt id o) (.pointer (some ⟨L.blk, L.base + o, none⟩))
 | nils : VR φ nl nl
 | slc {id o n c : Nat} {L : Loc} (h : φ id = some L) (hn : n ≤ c) (hc : L.rw = true → o = 0 → c = L.cap) : VR φ (sl id o n) (.slice (some ⟨L.blk, L.base + o, none⟩) n c)
 | sl0 {id o : Nat} {a : Addr} {L : Loc} (h : φ id = some L) (ho : o ≠ 0) : VR φ (sl id o 0) (.slice (some a) 0 0)
 | emp (a : Addr) (c : Nat) : VR φ es (.slice (some a) 0 c)
 | fn {f : Fn} {cs ds : Array Value} (hs : cs.size = ds.size) (h : ∀ i (h1 : i < cs.size) (h2 : i < ds.size), VR φ cs[i] ds[i]) : VR φ (.func f #[] cs) (.func f #[] ds)
 | agg {cs ds : Array Value} (hs : cs.size = ds.size) (h : ∀ i (h1 : i < cs.size) (h2 : i < ds.size), VR φ cs[i] ds[i]) : VR φ (.agg cs) (.agg ds)
 | tup {cs ds : Array Value} (hs : cs.size = ds.size) (h : ∀ i (h1 : i < cs.size) (h2 : i < ds.size), VR φ cs[i] ds[i]) : VR φ (.tuple cs) (.tuple ds)

theorem VR.mono {φ φ' : Phi} (hφ : φ.le φ') {x y : Value} (h : VR φ x y) : VR φ' x y := by
 induction h with
 | int k n => exact .int k n
 | bool b => exact .bool b
 | str s => exact .str s
 | nilp => exact .nilp
 | nili => exact .nili
 | mp h => exact .mp (hφ _ _ h)
 | ptr h => exact .ptr (hφ _ _ h)
 | nils => exact .nils
 | slc h hn hc => exact .slc (hφ _ _ h) hn hc
 | sl0 h ho => exact .sl0 (hφ _ _ h) ho
 | emp a c => exact .emp a c
 | fn hs _ ih => exact .fn hs ih
 | agg hs _ ih => exact .agg hs ih
 | tup hs _ ih => exact .tup hs ih

/-- What was meant under φ and is met under a greater φ' is met under φ. -/
theorem VR.back {φ φ' : Phi} (hφ : φ.le φ') {x y : Value} (h : VR φ' x y) : ∀ {y0 : Value}, VR φ x y0 → VR φ x y := by
 induction h with
 | int k n => intro y0 _; exact .int k n
 | bool b => intro y0 _; exact .bool b
 | str s => intro y0 _; exact .str s
 | nilp => intro y0 _; exact .nilp
 | nili => intro y0 _; exact .nili
 | mp h => intro y0 h0; cases h0 with | mp h1 => have e := hφ _ _ h1; rw [h] at e; cases e; exact .mp h1
 | ptr h => intro y0 h0; cases h0 with | ptr h1 => have e := hφ _ _ h1; rw [h] at e; cases e; exact .ptr h1
 | nils => intro y0 _; exact .nils
 | slc h hn hc => intro y0 h0; cases h0 with
  | slc h1 _ _ => have e := hφ _ _ h1; rw [h] at e; cases e; exact .slc h1 hn hc
  | sl0 h1 _ => have e := hφ _ _ h1; rw [h] at e; cases e; exact .slc h1 hn hc
 | sl0 h ho => intro y0 h0; cases h0 with
  | slc h1 _ _ => exact .sl0 h1 ho
  | sl0 h1 _ => exact .sl0 h1 ho
 | emp a c => intro y0 _; exact .emp a c
 | fn hs _ ih => intro y0 h0; cases h0 with | fn hs0 h1 => exact .fn hs fun i h2 h3 => ih i h2 h3 (h1 i h2 (by omega))
 | agg hs _ ih => intro y0 h0; cases h0 with | agg hs0 h1 => exact .agg hs fun i h2 h3 => ih i h2 h3 (h1 i h2 (by omega))
 | tup hs _ ih => intro y0 h0; cases h0 with | tup hs0 h1 => exact .tup hs fun i h2 h3 => ih i h2 h3 (h1 i h2 (by omega))

theorem VR.one {φ : Phi} {x y : Value} (h : VR φ x y) : y.oneCell' = x.oneCell' := by cases h <;> rfl

def VRs (φ : Phi) (cs ds : List Value) : Prop := cs.length = ds.length ∧ ∀ (i : Nat) (x y : Value), cs[i]? = some x → ds[i]? = some y → VR φ x y
theorem VRs.nil (φ : Phi) : VRs φ [] [] := ⟨rfl, fun i x y h => by simp at h⟩
theorem VRs.cons {φ : Phi} {x y : Value} {cs ds : List Value} (h : VR φ x y) (k : VRs φ cs ds) : VRs φ (x :: cs) (y :: ds) :=
 ⟨by simp [k.1], fun i u v hu hv => by
  cases i with
  | zero => simp at hu hv; subst hu; subst hv; exact h
  | succ i => exact k.2 i u v (by simpa using hu) (by simpa using hv)⟩
theorem VRs.inv {φ : Phi} {x : Value} {cs es : List Value} (h : VRs φ (x :: cs) es) : ∃ y ds, es = y :: ds ∧ VR φ x y ∧ VRs φ cs ds := by
 cases es with
 | nil => simp [VRs] at h
 | cons y ds => exact ⟨y, ds, rfl, h.2 0 x y rfl rfl, by have := h.1; simp at this; exact this, fun i u v hu hv => h.2 (i + 1) u v (by simpa using hu) (by simpa using hv)⟩
theorem VRs.inv_nil {φ : Phi} {es : List Value} (h : VRs φ [] es) : es = [] := List.eq_nil_of_length_eq_zero h.1.symm
theorem VRs.mono {φ φ' : Phi} (hφ : φ.le φ') {cs ds : List Value} (h : VRs φ cs ds) : VRs φ' cs ds := ⟨h.1, fun i x y hx hy => (h.2 i x y hx hy).mono hφ⟩
theorem VRs.append {φ : Phi} {a b c d : List Value} (h : VRs φ a c) (k : VRs φ b d) : VRs φ (a ++ b) (c ++ d) := by
 induction a generalizing c with
 | nil => rw [h.inv_nil]; exact k
 | cons x a ih => obtain ⟨y, ds, rfl, h1, h2⟩ := h.inv; exact .cons h1 (ih h2)
theorem VR.agg_of {φ : Phi} {cs ds : List Value} (h : VRs φ cs ds) : VR φ (.agg cs.toArray) (.agg ds.toArray) :=
 .agg (by simpa using h.1) fun i h1 h2 => h.2 i _ _ (by simp at h1; simp [h1]) (by simp at h2; simp [h2])
theorem VR.tup_of {φ : Phi} {cs ds : List Value} (h : VRs φ cs ds) : VR φ (.tuple cs.toArray) (.tuple ds.toArray) :=
 .tup (by simpa using h.1) fun i h1 h2 => h.2 i _ _ (by simp at h1; simp [h1]) (by simp at h2; simp [h2])
theorem VR.fn_of {φ : Phi} {f : Fn} {cs ds : List Value} (h : VRs φ cs ds) : VR φ (.func f #[] cs.toArray) (.func f #[] ds.toArray) :=
 .fn (by simpa using h.1) fun i h1 h2 => h.2 i _ _ (by simp at h1; simp [h1]) (by simp at h2; simp [h2])
theorem VR.agg_inv {φ : Phi} {cs : Array Value} {y : Value} (h : VR φ (.agg cs) y) : ∃ ds : Array Value, y = .agg ds ∧ VRs φ cs.toList ds.toList := by
 cases h with
 | @agg cs ds hs h => exact ⟨ds, rfl, by simpa using hs, fun i x y hx hy => by
   obtain ⟨h1, rfl⟩ := List.getElem?_eq_some_iff.1 hx
   obtain ⟨h2, rfl⟩ := List.getElem?_eq_some_iff.1 hy
   simpa using h i (by simpa using h1) (by simpa using h2)⟩
theorem VR.tup_inv {φ : Phi} {cs : Array Value} {y : Value} (h : VR φ (.tuple cs) y) : ∃ ds : Array Value, y = .tuple ds ∧ VRs φ cs.toList ds.toList := by
 cases h with
 | @tup cs ds hs h => exact ⟨ds, rfl, by simpa using hs, fun i x y hx hy => by
   obtain ⟨h1, rfl⟩ := List.getElem?_eq_some_iff.1 hx
   obtain ⟨h2, rfl⟩ := List.getElem?_eq_some_iff.1 hy
   simpa using h i (by simpa using h1) (by simpa using h2)⟩
theorem VR.fn_inv {φ : Phi} {f : Fn} {cs : Array Value} {y : Value} (h : VR φ (.func f #[] cs) y) : ∃ ds : Array Value, y = .func f #[] ds ∧ VRs φ cs.toList ds.toList := by
 cases h with
 | @fn f cs ds hs h => exact ⟨ds, rfl, by simpa using hs, fun i x y hx hy => by
   obtain ⟨h1, rfl⟩ := List.getElem?_eq_some_iff.1 hx
   obtain ⟨h2, rfl⟩ := List.getElem?_eq_some_iff.1 hy
   simpa using h i (by simpa using h1) (by simpa using h2)⟩
/-- The cells of a value. -/
def cellsV : Value → List Value
 | .agg cs => cs.toList
 | v => [v]
theorem cellsV_eq (v : Value) : v.cells.toList = cellsV v := by cases v <;> rfl
theorem VR.cells {φ : Phi} {x y : Value} (h : VR φ x y) : VRs φ (cellsV x) (cellsV y) := by
 cases h with
 | agg hs h => exact (VR.agg_inv (.agg hs h)).elim fun ds hd => by cases hd.1; exact hd.2
 | int k n => exact .cons (.int k n) (.nil _)
 | bool b => exact .cons (.bool b) (.nil _)
 | str s => exact .cons (.str s) (.nil _)
 | nilp => exact .cons .nilp (.nil _)
 | nili => exact .cons .nili (.nil _)
 | mp h => exact .cons (.mp h) (.nil _)
 | ptr h => exact .cons (.ptr h) (.nil _)
 | nils => exact .cons .nils (.nil _)
 | slc h hn hc => exact .cons (.slc h hn hc) (.nil _)
 | sl0 h ho => exact .cons (.sl0 h ho) (.nil _)
 | emp a c => exact .cons (.emp a c) (.nil _)
 | fn hs h => exact .cons (.fn hs h) (.nil _)
 | tup hs h => exact .cons (.tup hs h) (.nil _)

/-! ### heaps -/
structure Blk where
 ty : TypeId
 cells : List Value
 rw : Bool
 live : Bool
abbrev Heap := List Blk
namespace Heap
def cell (H : Heap) (id j : Nat) : Option Value := match H[id]? with
 | some b => if b.live then b.cells[j]? else none
 | none => none
def live (H : Heap) (id : Nat) : Bool := match H[id]? with
 | some b => b.live
 | none => false
def rwOk (H : Heap) (id : Nat) : Bool := match H[id]? with
 | some b => b.live && b.rw
 | none => false
/-- One cell is written. -/
def put (H : Heap) (id j : Nat) (x : Value) : Heap := H.modify id fun b => { b with cells := b.cells.set j x }
/-- From place j on, one cell after the other. -/
def puts (H : Heap) (id j : Nat) : List Value → Heap
 | [] => H
 | x :: xs => puts (H.put id j x) id (j + 1) xs
def kill (H : Heap) (id : Nat) : Heap := H.modify id fun b => { b with rw := false, live := false }
/-- A block of which something is told: a live one, or a map (not live, but to be written). -/
def hot (H : Heap) (id : Nat) : Bool := match H[id]? with
 | some b => b.live || b.rw
 | none => false
end Heap
theorem Heap.hot_of_live {H : Heap} {id : Nat} (h : H.live id = true) : H.hot id = true := by
 unfold Heap.live at h; unfold Heap.hot
 split at h <;> simp_all
theorem Heap.live_of_hot_f {H : Heap} {id : Nat} (h : H.hot id = false) : H.live id = false := by
 cases e : H.live id with
 | false => rfl
 | true => rw [Heap.hot_of_live e] at h; cases h
/-- A map's object: keys and values by turns. -/
def entsM : Nat → List Value → List MapEntry
 | i, k :: v :: r => { key := k, val := v, born := i } :: entsM (i + 1) r
 | _, _ => []
def mapO (cs : List Value) : Obj := .map (entsM 0 cs).toArray (cs.length / 2)
theorem Heap.length_put (H : Heap) (id j : Nat) (x : Value) : (H.put id j x).length = H.length := by simp [Heap.put]
theorem Heap.length_puts (H : Heap) (id j : Nat) (xs : List Value) : (H.puts id j xs).length = H.length := by
 induction xs generalizing H j with
 | nil => rfl
 | cons x xs ih => rw [Heap.puts, ih, Heap.length_put]
theorem Heap.length_kill (H : Heap) (id : Nat) : (H.kill id).length = H.length := by simp [Heap.kill]
theorem Heap.live_of_cell {H : Heap} {id j : Nat} {x : Value} (h : H.cell id j = some x) : H.live id = true := by
 unfold Heap.cell at h; unfold Heap.live
 split at h
 ·split at h <;> simp_all
 ·cases h
theorem Heap.lt_of_live {H : Heap} {id : Nat} (h : H.live id = true) : id < H.length := by
 unfold Heap.live at h
 split at h
 ·rename_i e; exact (List.getElem?_eq_some_iff.1 e).1
 ·cases h
theorem Heap.live_of_rwOk {H : Heap} {id : Nat} (h : H.rwOk id = true) : H.live id = true := by
 unfold Heap.rwOk at h; unfold Heap.live
 split at h <;> simp_all

/-- How an abstract heap stands to a world. -/
structure HR (P : Program) (B0 : Nat) (φ : Phi) (H : Heap) (w : World) : Prop where
 dom : ∀ id L, φ id = some L → id < H.length
 ro : ∀ id L, φ id = some L → L.rw = false → L.blk < B0
 lt : ∀ id L, φ id = some L → L.blk < w.heap.size
 cell : ∀ id L j x, φ id = some L → H.cell id j = some x → ∃ y, VR φ x y ∧ w.cell? ⟨L.blk, L.base + j, none⟩ = some y
 row : ∀ id L b, φ id = some L → L.rw = true → H[id]? = some b → b.live = true → L.base = 0 ∧ B0 ≤ L.blk ∧
  ∃ cur sz, szO P b.ty = some sz ∧ w.heap[L.blk]? = some (.cells cur b.ty (0, 0)) ∧ cur.size = L.cap * sz ∧ b.cells.length ≤ cur.size ∧ L.cap ≤ maxLen
 flag : ∀ id L b, φ id = some L → H[id]? = some b → b.rw = true → L.rw = true
 inj : ∀ id id' L L', φ id = some L → φ id' = some L' → L.rw = true → L'.rw = true → L.blk = L'.blk → H.hot id = true → H.hot id' = true → id = id'
 mp : ∀ id L b, φ id = some L → H[id]? = some b → b.live = false → b.rw = true → B0 ≤ L.blk ∧ w.heap[L.blk]? = some (mapO b.cells)

theorem cell_lt {w : World} {a : Addr} {v : Value} (h : w.cell? a = some v) : a.block < w.heap.size := World.block_lt_of_cell? (w := w) (a := a) h
theorem cell_same {w w' : World} {a : Addr} (h : w'.heap[a.block]? = w.heap[a.block]?) : w'.cell? a = w.cell? a := World.cell?_of_block (w := w) (w' := w') (a := a) h

/-- The world may grow, and may turn what is no abstract block's. -/
theorem HR.keep {P : Program} {B0 : Nat} {φ : Phi} {H : Heap} {w w' : World} (h : HR P B0 φ H w)
  (hs : w.heap.size ≤ w'.heap.size) (hk : ∀ id L, φ id = some L → H.hot id = true → L.blk < w.heap.size → w'.heap[L.blk]? = w.heap[L.blk]?) : HR P B0 φ H w' where
 dom := h.dom
 ro := h.ro
 lt id L hL := Nat.lt_of_lt_of_le (h.lt id L hL) hs
 cell id L j x hL hx := by
  obtain ⟨y, hv, hc⟩ := h.cell id L j x hL hx
  refine ⟨y, hv, ?_⟩
  rw [cell_same (w := w) (a := ⟨L.blk, L.base + j, none⟩) (hk id L hL (Heap.hot_of_live (Heap.live_of_cell hx)) (cell_lt hc))]
  exact hc
 row id L b hL hr hb hl := by
  obtain ⟨h0, h1, cur, sz, h2, h3, h4⟩ := h.row id L b hL hr hb hl
  refine ⟨h0, h1, cur, sz, h2, ?_, h4⟩
  rw [hk id L hL (by simp [Heap.hot, hb, hl]) (Array.getElem?_eq_some_iff.1 h3).1]
  exact h3
 flag := h.flag
 inj := h.inj
 mp id L b hL hb hl hr := by
  obtain ⟨h0, h1⟩ := h.mp id L b hL hb hl hr
  refine ⟨h0, ?_⟩
  rw [hk id L hL (by simp [Heap.hot, hb, hr]) (Array.getElem?_eq_some_iff.1 h1).1]
  exact h1
theorem HR.grow {P : Program} {B0 : Nat} {φ : Phi} {H : Heap} {w w' : World} (h : HR P B0 φ H w)
  (hs : w.heap.size ≤ w'.heap.size) (hk : ∀ b, b < w.heap.size → w'.heap[b]? = w.heap[b]?) : HR P B0 φ H w' := h.keep hs fun id L _ _ hlt => hk _ hlt

/-- φ with one id more. -/
def Phi.set (φ : Phi) (id : Nat) (L : Loc) : Phi := fun i => if i = id then some L else φ i
theorem Phi.set_same (φ : Phi) (id : Nat) (L : Loc) : φ.set id L id = some L := by simp [Phi.set]
theorem Phi.set_ne (φ : Phi) {id i : Nat} (L : Loc) (h : i ≠ id) : φ.set id L i = φ i := by simp [Phi.set, h]
theorem Phi.le_set {φ : Phi} {id : Nat} (L : Loc) (h : φ id = none) : φ.le (φ.set id L) := fun i M hi => by
 by_cases e : i = id
 ·subst e; rw [h] at hi; cases hi
 ·rw [Phi.set_ne _ _ e]; exact hi

/-- A new block, behind which the old ones are as they were. -/
theorem HR.new {P : Program} {B0 : Nat} {φ : Phi} {H : Heap} {w w' : World} (h : HR P B0 φ H w) (hB : B0 ≤ w.heap.size)
  {ty : TypeId} {xs : List Value} {cur : Array Value} {cap sz : Nat} (hsz : szO P ty = some sz)
  (hold : ∀ b, b < w.heap.size → w'.heap[b]? = w.heap[b]?) {g : Nat} (hg : w.heap.size ≤ g) (hnew : w'.heap[g]? = some (.cells cur ty (0, 0)))
  (hcap : cur.size = cap * sz) (hmax : cap ≤ maxLen) (hlen : xs.length ≤ cur.size) (hv : ∀ (j : Nat) (x : Value), xs[j]? = some x → ∃ y, VR φ x y ∧ cur[j]? = some y) :
  HR P B0 (φ.set H.length ⟨g, 0, cap, true⟩) (H ++ [⟨ty, xs, true, true⟩]) w' := by
 have hnone : φ H.length = none := by
  cases e : φ H.length with
  | none => rfl
  | some L => exact absurd (h.dom _ _ e) (Nat.lt_irrefl _)
 have hle := Phi.le_set (L := ⟨g, 0, cap, true⟩) hnone
 have hgl : g < w'.heap.size := (Array.getElem?_eq_some_iff.1 hnew).1
 have hk := h.grow (by omega) hold
 have hblk : ∀ id L, φ id = some L → L.blk < w.heap.size := fun id L hL => h.lt id L hL
 have hlast : (H ++ [(⟨ty, xs, true, true⟩ : Blk)])[H.length]? = some ⟨ty, xs, true, true⟩ := by simp
 have hprev : ∀ id, id < H.length → (H ++ [(⟨ty, xs, true, true⟩ : Blk)])[id]? = H[id]? := fun id hi => by rw [List.getElem?_append_left hi]
 refine ⟨?_, ?_, ?_, ?_, ?_, ?_, ?_, ?_⟩
 ·intro id L hL
  by_cases e : id = H.length
  ·subst e; simp
  ·rw [Phi.set_ne _ _ e] at hL; have := h.dom _ _ hL; simp; omega
 ·intro id L hL hr
  by_cases e : id = H.length
  ·subst e; rw [Phi.set_same] at hL; cases hL; cases hr
  ·rw [Phi.set_ne _ _ e] at hL; exact h.ro _ _ hL hr
 ·intro id L hL
  by_cases e : id = H.length
  ·subst e; rw [Phi.set_same] at hL; cases hL; exact hgl
  ·rw [Phi.set_ne _ _ e] at hL; exact hk.lt _ _ hL
 ·intro id L j x hL hx
  by_cases e : id = H.length
  ·subst e
   rw [Phi.set_same] at hL; cases hL
   simp only [Heap.cell, hlast, if_true] at hx
   obtain ⟨y, hy, hc⟩ := hv j x hx
   refine ⟨y, hy.mono hle, ?_⟩
   rw [cell_of_row _ _ _ _ _ _ hnew]; simpa using hc
  ·rw [Phi.set_ne _ _ e] at hL
   have hlt := h.dom _ _ hL
   simp only [Heap.cell, hprev id hlt] at hx
   obtain ⟨y, hy, hc⟩ := hk.cell id L j x hL hx
   exact ⟨y, hy.mono hle, hc⟩
 ·intro id L b hL hr hb hl
  by_cases e : id = H.length
  ·subst e
   rw [Phi.set_same] at hL; cases hL
   rw [hlast] at hb; cases hb
   exact ⟨rfl, Nat.le_trans hB hg, cur, sz, hsz, hnew, hcap, hlen, hmax⟩
  ·rw [Phi.set_ne _ _ e] at hL
   rw [hprev id (h.dom _ _ hL)] at hb
   exact hk.row id L b hL hr hb hl
 ·intro id L b hL hb hr
  by_cases e : id = H.length
  ·subst e; rw [Phi.set_same] at hL; cases hL; rfl
  ·rw [Phi.set_ne _ _ e] at hL
   rw [hprev id (h.dom _ _ hL)] at hb
   exact h.flag id L b hL hb hr
 ·intro id id' L L' hL hL' hr hr' hbe hl hl'
  have old : ∀ i M, i ≠ H.length → φ.set H.length ⟨g, 0, cap, true⟩ i = some M → M.rw = true → Heap.hot (H ++ [⟨ty, xs, true, true⟩]) i = true → φ i = some M ∧ Heap.hot H i = true ∧ M.blk < w.heap.size := fun i M hi hM hMr hli => by
   rw [Phi.set_ne _ _ hi] at hM
   have hlt := h.dom _ _ hM
   exact ⟨hM, by simpa [Heap.hot, hprev i hlt] using hli, hblk i M hM⟩
  by_cases e : id = H.length
  ·by_cases e' : id' = H.length
   ·omega
   ·subst e
    rw [Phi.set_same] at hL; cases hL
    obtain ⟨_, _, hlt⟩ := old id' L' e' hL' hr' hl'
    simp only at hbe; omega
  ·by_cases e' : id' = H.length
   ·subst e'
    rw [Phi.set_same] at hL'; cases hL'
    obtain ⟨_, _, hlt⟩ := old id L e hL hr hl
    simp only at hbe; omega
   ·obtain ⟨a1, a2, _⟩ := old id L e hL hr hl
    obtain ⟨b1, b2, _⟩ := old id' L' e' hL' hr' hl'
    exact h.inj id id' L L' a1 b1 hr hr' hbe a2 b2
 ·intro id L b hL hb hl hr
  by_cases e : id = H.length
  ·subst e; rw [hlast] at hb; cases hb; cases hl
  ·rw [Phi.set_ne _ _ e] at hL
   rw [hprev id (h.dom _ _ hL)] at hb
   exact hk.mp id L b hL hb hl hr

theorem Heap.get_put {H : Heap} {id j : Nat} {x : Value} (i : Nat) : (H.put id j x)[i]? = if i = id then (H[i]?).map (fun b => { b with cells := b.cells.set j x }) else H[i]? := by
 unfold Heap.put
 rw [List.getElem?_modify]
 by_cases e : i = id
 ·subst e; simp
 ·have e' : ¬ id = i := fun h => e h.symm
  simp [e, e']
theorem Heap.hot_put (H : Heap) (id j : Nat) (x : Value) (i : Nat) : (H.put id j x).hot i = H.hot i := by
 unfold Heap.hot
 rw [Heap.get_put]
 by_cases e : i = id
 ·subst e; cases H[i]? <;> simp
 ·simp [e]
theorem Heap.cell_put (H : Heap) (id j : Nat) (x : Value) (i k : Nat) : (H.put id j x).cell i k = if i = id ∧ k = j ∧ (H.cell id j).isSome then some x else H.cell i k := by
 unfold Heap.cell
 rw [Heap.get_put]
 by_cases e : i = id
 ·subst e
  cases hb : H[i]? with
  | none => simp
  | some b =>
   by_cases hl : b.live = true
   ·simp only [Option.map_some, if_true, hl, List.getElem?_set]
    by_cases ek : j = k
    ·subst ek
     by_cases hlt : j < b.cells.length
     ·simp [hlt]
     ·simp [hlt]
    ·have ek' : ¬ k = j := fun h => ek h.symm
     simp [ek, ek']
   ·simp [hl]
 ·simp [e]

/-- One cell of a row of one's own is written. -/
theorem HR.put {P : Program} {B0 : Nat} {φ : Phi} {H : Heap} {w : World} (h : HR P B0 φ H w) {id j : Nat} {L : Loc} {x y u : Value}
  (hL : φ id = some L) (hrw : H.rwOk id = true) (hu : H.cell id j = some u) (hxy : VR φ x y) :
  HR P B0 φ (H.put id j x) (w.setCell ⟨L.blk, L.base + j, none⟩ y) ∧ w.frozen? ⟨L.blk, L.base + j, none⟩ = false ∧ (∃ v, w.cell? ⟨L.blk, L.base + j, none⟩ = some v) ∧ L.rw = true ∧ B0 ≤ L.blk := by
 obtain ⟨b, hb, hbl, hbr⟩ : ∃ b, H[id]? = some b ∧ b.live = true ∧ b.rw = true := by
  unfold Heap.rwOk at hrw
  split at hrw
  ·rename_i b e; exact ⟨b, e, by simpa using hrw⟩
  ·cases hrw
 have hLr := h.flag id L b hL hb hbr
 obtain ⟨hbase, hB, cur, sz, hsz, hcur, hcap, hlen, hmax⟩ := h.row id L b hL hLr hb hbl
 have hj : j < b.cells.length := by
  simp only [Heap.cell, hb, hbl, if_true] at hu
  exact (List.getElem?_eq_some_iff.1 hu).1
 have hset : (w.setCell ⟨L.blk, L.base + j, none⟩ y).heap[L.blk]? = some (.cells (cur.setIfInBounds j y) b.ty (0, 0)) := by
  rw [hbase, Nat.zero_add]; exact heap_setCell_same w L.blk j cur b.ty y hcur
 have hoth : ∀ k, k ≠ L.blk → (w.setCell ⟨L.blk, L.base + j, none⟩ y).heap[k]? = w.heap[k]? := fun k hk => heap_setCell_other w _ k y hk
 refine ⟨⟨?_, h.ro, fun i M hM => by rw [show (w.setCell ⟨L.blk, L.base + j, none⟩ y).heap.size = w.heap.size from by simp [World.setCell]]; exact h.lt i M hM, ?_, ?_, ?_, ?_, ?_⟩, ?_, ?_, hLr, hB⟩
 ·intro i M hM; rw [Heap.length_put]; exact h.dom i M hM
 ·intro i M k z hM hz
  rw [Heap.cell_put] at hz
  by_cases e : i = id
  ·subst e
   rw [hL] at hM; cases hM
   by_cases ek : k = j
   ·subst ek
    simp only [hu, Option.isSome_some, and_self, if_true, Option.some.injEq] at hz
    subst hz
    refine ⟨y, hxy, ?_⟩
    rw [hbase, Nat.zero_add]
    rw [cell_of_row _ _ _ _ _ _ (by rw [hbase, Nat.zero_add] at hset; exact hset)]
    have : k < cur.size := by omega
    simp [this]
   ·simp only [ek, false_and, and_false, if_false] at hz
    obtain ⟨z', hzz, hc⟩ := h.cell i _ k z hL hz
    refine ⟨z', hzz, ?_⟩
    rw [World.cell?_setCell_other]
    ·exact hc
    ·intro e; simp only [Addr.mk.injEq] at e; omega
  ·simp only [e, false_and, if_false] at hz
   obtain ⟨z', hzz, hc⟩ := h.cell i M k z hM hz
   refine ⟨z', hzz, ?_⟩
   rw [cell_same (w := w) (a := ⟨M.blk, M.base + k, none⟩)]
   ·exact hc
   ·apply hoth
    simp only
    intro eb
    by_cases hMr : M.rw = true
    ·exact e (h.inj i id M L hM hL hMr hLr eb (Heap.hot_of_live (Heap.live_of_cell hz)) (Heap.hot_of_live (Heap.live_of_rwOk hrw)))
    ·have := h.ro i M hM (by simpa using hMr); omega
 ·intro i M c hM hMr hc hcl
  rw [Heap.get_put] at hc
  by_cases e : i = id
  ·subst e
   rw [hL] at hM; cases hM
   rw [hb] at hc
   simp only [if_true, Option.map_some, Option.some.injEq] at hc
   subst hc
   exact ⟨hbase, hB, _, sz, hsz, hset, by simpa using hcap, by simpa using hlen, hmax⟩
  ·simp only [e, if_false] at hc
   obtain ⟨h0, h1, cur', sz', h2, h3, h4⟩ := h.row i M c hM hMr hc hcl
   refine ⟨h0, h1, cur', sz', h2, ?_, h4⟩
   rw [hoth]
   ·exact h3
   ·intro eb
    exact e (h.inj i id M L hM hL hMr hLr eb (by simp [Heap.hot, hc, hcl]) (Heap.hot_of_live (Heap.live_of_rwOk hrw)))
 ·intro i M c hM hc hcr
  rw [Heap.get_put] at hc
  by_cases e : i = id
  ·subst e; rw [hL] at hM; cases hM; exact hLr
  ·simp only [e, if_false] at hc
   exact h.flag i M c hM hc hcr
 ·intro i i' M M' hM hM' hr hr' hbe hl hl'
  rw [Heap.hot_put] at hl hl'
  exact h.inj i i' M M' hM hM' hr hr' hbe hl hl'
 ·intro i M c hM hc hcl hcr
  rw [Heap.get_put] at hc
  by_cases e : i = id
  ·subst e
   rw [hb] at hc
   simp only [if_true, Option.map_some, Option.some.injEq] at hc
   subst hc
   simp only at hcl; rw [hbl] at hcl; cases hcl
  ·simp only [e, if_false] at hc
   obtain ⟨h0, h1⟩ := h.mp i M c hM hc hcl hcr
   refine ⟨h0, ?_⟩
   rw [hoth]
   ·exact h1
   ·intro eb
    exact e (h.inj i id M L hM hL (h.flag i M c hM hc hcr) hLr eb (by simp [Heap.hot, hc, hcr]) (Heap.hot_of_live (Heap.live_of_rwOk hrw)))
 ·rw [hbase, Nat.zero_add]; exact frozen_of_row w L.blk j cur b.ty hcur
 ·obtain ⟨v, _, hv⟩ := h.cell id L j u hL hu
  exact ⟨v, hv⟩

theorem Heap.get_kill {H : Heap} {id : Nat} (i : Nat) : (H.kill id)[i]? = if i = id then (H[i]?).map (fun b => { b with rw := false, live := false }) else H[i]? := by
 unfold Heap.kill
 rw [List.getElem?_modify]
 by_cases e : i = id
 ·subst e; simp
 ·have e' : ¬ id = i := fun h => e h.symm
  simp [e, e']
theorem Heap.cell_kill (H : Heap) (id i k : Nat) : (H.kill id).cell i k = if i = id then none else H.cell i k := by
 unfold Heap.cell
 rw [Heap.get_kill]
 by_cases e : i = id
 ·subst e; cases H[i]? <;> simp
 ·simp [e]
theorem Heap.hot_kill (H : Heap) (id i : Nat) : (H.kill id).hot i = if i = id then false else H.hot i := by
 unfold Heap.hot
 rw [Heap.get_kill]
 by_cases e : i = id
 ·subst e; cases H[i]? <;> simp
 ·simp [e]
/-- A block is given up: nothing is said of it any more. -/
theorem HR.kill {P : Program} {B0 : Nat} {φ : Phi} {H : Heap} {w : World} (h : HR P B0 φ H w) (id : Nat) : HR P B0 φ (H.kill id) w where
 dom i M hM := by rw [Heap.length_kill]; exact h.dom i M hM
 ro := h.ro
 lt := h.lt
 cell i M j x hM hx := by
  rw [Heap.cell_kill] at hx
  split at hx
  ·cases hx
  ·exact h.cell i M j x hM hx
 row i M b hM hr hb hl := by
  rw [Heap.get_kill] at hb
  split at hb
  ·cases hH : H[i]? with
   | none => rw [hH] at hb; cases hb
   | some c => rw [hH] at hb; simp only [Option.map_some, Option.some.injEq] at hb; subst hb; cases hl
  ·exact h.row i M b hM hr hb hl
 flag i M b hM hb hr := by
  rw [Heap.get_kill] at hb
  split at hb
  ·cases hH : H[i]? with
   | none => rw [hH] at hb; cases hb
   | some c => rw [hH] at hb; simp only [Option.map_some, Option.some.injEq] at hb; subst hb; cases hr
  ·exact h.flag i M b hM hb hr
 inj i i' M M' hM hM' hr hr' hbe hl hl' := by
  rw [Heap.hot_kill] at hl hl'
  split at hl
  ·cases hl
  ·split at hl'
   ·cases hl'
   ·exact h.inj i i' M M' hM hM' hr hr' hbe hl hl'
 mp i M b hM hb hl hr := by
  rw [Heap.get_kill] at hb
  split at hb
  ·cases hH : H[i]? with
   | none => rw [hH] at hb; cases hb
   | some c => rw [hH] at hb; simp only [Option.map_some, Option.some.injEq] at hb; subst hb; cases hr
  ·exact h.mp i M b hM hb hl hr

/-! ### temporaries and operands -/
def getT : List (Nat × Value) → Nat → Option Value
 | [], _ => none
 | (k, v) :: r, t => if k = t then some v else getT r t
def plainV : Value → Bool
 | .int _ _ | .bool _ | .string _ | .pointer none => true
 | .slice none 0 0 => true
 | .nilIface => true
 | .tuple cs => cs.size == 0
 | _ => false
theorem plainV_VR {φ : Phi} {v : Value} (h : plainV v = true) : VR φ v v := by
 unfold plainV at h
 split at h
 ·exact .int _ _
 ·exact .bool _
 ·exact .str _
 ·exact .nilp
 ·exact .nils
 ·exact .nili
 ·rename_i cs
  have : cs.size = 0 := by simpa using h
  exact .tup rfl fun i h1 => by omega
 ·cases h
def evO (ts : List (Nat × Value)) : Operand → Option Value
 | .tmp t => getT ts t
 | .const v => if plainV v then some v else none
 | .func f => some (.func (.func f) #[] #[])
 | .global _ => none
/-- The frame's slots hold what the abstract ones hold. -/
def TR (φ : Phi) (ts : List (Nat × Value)) (tmps : Array Value) : Prop := ∀ t v, getT ts t = some v → ∃ v', tmps[t]? = some v' ∧ VR φ v v'
theorem TR.mono {φ φ' : Phi} (hφ : φ.le φ') {ts : List (Nat × Value)} {tmps : Array Value} (h : TR φ ts tmps) : TR φ' ts tmps := fun t v hv => by
 obtain ⟨v', h1, h2⟩ := h t v hv
 exact ⟨v', h1, h2.mono hφ⟩
theorem TR.put {φ : Phi} {ts : List (Nat × Value)} {tmps : Array Value} (h : TR φ ts tmps) {d : Nat} (hd : d < tmps.size) {v v' : Value} (hv : VR φ v v') :
  TR φ ((d, v) :: ts) (tmps.setIfInBounds d v') := fun t u hu => by
 unfold getT at hu
 split at hu
 ·rename_i e
  subst e
  cases hu
  exact ⟨v', by simp [hd], hv⟩
 ·rename_i e
  obtain ⟨u', h1, h2⟩ := h t u hu
  exact ⟨u', by rw [Array.getElem?_setIfInBounds_ne e]; exact h1, h2⟩
theorem TR.sub {φ : Phi} {ts ts' : List (Nat × Value)} {tmps : Array Value} (h : TR φ ts tmps) (hs : ∀ t v, getT ts' t = some v → getT ts t = some v) : TR φ ts' tmps := fun t v hv => h t v (hs t v hv)
theorem evO_VR {φ : Phi} {ts : List (Nat × Value)} {a : Act} (h : TR φ ts a.tmps) {x : Operand} {v : Value} (hx : evO ts x = some v) : VR φ v (a.eval x) := by
 cases x with
 | tmp t =>
  obtain ⟨v', h1, h2⟩ := h t v hx
  simpa [Act.eval, h1] using h2
 | const c =>
  simp only [evO] at hx
  split at hx
  ·cases hx; rename_i hp; exact plainV_VR hp
  ·cases hx
 | func f => simp only [evO, Option.some.injEq] at hx; subst hx; exact .fn rfl fun i h1 => by simp at h1
 | global g => simp [evO] at hx

def evL (ρ : Operand → Option Value) : List Operand → Option (List Value)
 | [] => some []
 | x :: r => match ρ x, evL ρ r with
  | some v, some l => some (v :: l)
  | _, _ => none
def evP (ρ : Operand → Option Value) : List (Nat × Operand) → Option (List (Nat × Value))
 | [] => some []
 | (i, x) :: r => match ρ x, evP ρ r with
  | some v, some l => some ((i, v) :: l)
  | _, _ => none
/-- Parts of a literal, alike. -/
def PR (φ : Phi) : List (Nat × Value) → List (Nat × Value) → Prop
 | [], [] => True
 | (i, v) :: r, (j, u) :: s => i = j ∧ VR φ v u ∧ PR φ r s
 | _, _ => False
theorem evL_VRs {φ : Phi} {ρ : Operand → Option Value} {e : Operand → Value} (h : ∀ x v, ρ x = some v → VR φ v (e x)) : ∀ {l : List Operand} {vs : List Value}, evL ρ l = some vs → VRs φ vs (l.map e)
 | [], vs, hl => by cases hl; exact .nil _
 | x :: r, vs, hl => by
  simp only [evL] at hl
  split at hl
  ·rename_i v l h1 h2; cases hl; exact .cons (h x v h1) (evL_VRs h h2)
  ·cases hl
theorem evP_PR {φ : Phi} {ρ : Operand → Option Value} {e : Operand → Value} (h : ∀ x v, ρ x = some v → VR φ v (e x)) : ∀ {l : List (Nat × Operand)} {vs : List (Nat × Value)}, evP ρ l = some vs → PR φ vs (l.map fun p => (p.1, e p.2))
 | [], vs, hl => by cases hl; trivial
 | (i, x) :: r, vs, hl => by
  simp only [evP] at hl
  split at hl
  ·rename_i v l h1 h2; cases hl; exact ⟨rfl, h x v h1, evP_PR h h2⟩
  ·cases hl

/-! ### literals -/
def setAll : List Value → Nat → List Value → List Value
 | cells, _, [] => cells
 | cells, o, x :: xs => setAll (cells.set o x) (o + 1) xs
theorem setAll_VRs {φ : Phi} : ∀ {xs ys cs ds : List Value} {o : Nat}, VRs φ xs ys → VRs φ cs ds → VRs φ (setAll cs o xs) (setAll ds o ys)
 | [], ys, cs, ds, o, hx, hc => by rw [hx.inv_nil]; exact hc
 | x :: xs, es, cs, ds, o, hx, hc => by
  obtain ⟨y, ys, rfl, h1, h2⟩ := hx.inv
  show VRs φ (setAll (cs.set o x) (o + 1) xs) (setAll (ds.set o y) (o + 1) ys)
  refine setAll_VRs h2 ⟨by simp [hc.1], fun i u v hu hv => ?_⟩
  rw [List.getElem?_set] at hu hv
  by_cases e : o = i
  ·subst e
   simp only [if_true] at hu hv
   split at hu
   ·split at hv
    ·cases hu; cases hv; exact h1
    ·cases hv
   ·cases hu
  ·simp only [e, if_false] at hu hv
   exact hc.2 i u v hu hv
theorem foldl_setAll (xs : List Value) : ∀ (k o : Nat) (cs : Array Value), ((xs.zipIdx k).foldl (fun cs (c, j) => cs.setIfInBounds (o + j) c) cs).toList = setAll cs.toList (o + k) xs := by
 induction xs with
 | nil => intro k o cs; rfl
 | cons x xs ih =>
  intro k o cs
  simp only [List.zipIdx_cons, List.foldl_cons, setAll]
  rw [ih]
  simp [Nat.add_assoc]
def fillA (place : Nat → Option (Nat × Nat)) (cells : List Value) : List (Nat × Value) → Option (List Value)
 | [] => some cells
 | (i, v) :: rest =>
  match place i with
  | none => none
  | some (off, size) => if (cellsV v).length = size ∧ off + size ≤ cells.length then fillA place (setAll cells off (cellsV v)) rest else none
theorem length_setAll (xs : List Value) : ∀ (cs : List Value) (o : Nat), (setAll cs o xs).length = cs.length := by
 induction xs with
 | nil => intro cs o; rfl
 | cons x xs ih => intro cs o; simp [setAll, ih]
theorem fill_sound {φ : Phi} {place : Nat → Option (Nat × Nat)} : ∀ {ps qs : List (Nat × Value)} {cs r : List Value} {ds : Array Value}, PR φ ps qs → VRs φ cs ds.toList → fillA place cs ps = some r →
  ∃ ds', Instr.fill place ds qs = some ds' ∧ VRs φ r ds'.toList
 | [], [], cs, r, ds, _, hc, h => by cases h; exact ⟨ds, rfl, hc⟩
 | (i, v) :: ps, (j, u) :: qs, cs, r, ds, hp, hc, h => by
  obtain ⟨rfl, hv, hps⟩ := hp
  simp only [fillA] at h
  cases hpl : place i with
  | none => rw [hpl] at h; cases h
  | some os =>
   obtain ⟨off, size⟩ := os
   rw [hpl] at h
   simp only at h
   split at h
   ·rename_i hh
    obtain ⟨h1, h2⟩ := hh
    have hcells := hv.cells
    have hsz : u.cells.size = size := by rw [← Array.length_toList, cellsV_eq, ← hcells.1]; exact h1
    have hle : ¬ (off + u.cells.size > ds.size) := by have := hc.1; simp at this; omega
    have hnew : VRs φ (setAll cs off (cellsV v)) (Array.toList (u.cells.zipIdx.foldl (fun cs (c, j) => cs.setIfInBounds (off + j) c) ds)) := by
     have e : (u.cells.zipIdx.foldl (fun cs (c, j) => cs.setIfInBounds (off + j) c) ds).toList = setAll ds.toList off (cellsV u) := by
      rw [← cellsV_eq, ← Array.foldl_toList, Array.toList_zipIdx]
      exact foldl_setAll _ 0 off ds
     rw [e]
     exact setAll_VRs hcells hc
    obtain ⟨ds', h3, h4⟩ := fill_sound hps hnew h
    refine ⟨ds', ?_, h4⟩
    rw [Instr.fill, hpl]
    simp only [hsz, ne_eq, not_true_eq_false, false_or]
    rw [if_neg (by rw [hsz] at hle; simpa using hle)]
    exact h3
   ·cases h
 | [], _ :: _, _, _, _, hp, _, _ => hp.elim
 | _ :: _, [], _, _, _, hp, _, _ => hp.elim

def allPlain (cs : List Value) : Bool := cs.all plainV
theorem allPlain_VRs {φ : Phi} {cs : List Value} (h : allPlain cs = true) : VRs φ cs cs := ⟨rfl, fun i x y hx hy => by
 rw [hx] at hy; cases hy
 exact plainV_VR (by simp [allPlain] at h; exact h x (List.mem_of_getElem? hx))⟩
/-- A struct literal. -/
def buildA (P : Program) (t : TypeId) (parts : List (Nat × Value)) : Option (List Value) :=
 match zeroO P t, fldsO P t with
 | some z, some fl => if allPlain (cellsV z) then fillA (fun i => fl[i]?) (cellsV z) parts else none
 | _, _ => none
theorem buildA_sound {P : Program} {φ : Phi} {t : TypeId} {ps qs : List (Nat × Value)} {r : List Value} (hp : PR φ ps qs) (h : buildA P t ps = some r) :
  ∃ ds, P.built t qs = some ds ∧ VRs φ r ds.toList := by
 unfold buildA at h
 split at h
 ·rename_i z fl hz hf
  split at h
  ·rename_i hpl
   have hpl' := allPlain_VRs (φ := φ) hpl
   rw [← cellsV_eq] at hpl'
   rw [← cellsV_eq] at h
   obtain ⟨ds, h1, h2⟩ := fill_sound hp (by exact hpl') h
   refine ⟨ds, ?_, h2⟩
   unfold zeroO at hz
   cases hi : P.info? t with
   | none => rw [hi] at hz; cases hz
   | some it =>
    rw [hi] at hz
    simp only [Option.bind_some] at hz
    unfold fldsO at hf
    cases hu : P.underlying t with
    | none => rw [hu] at hf; cases hf
    | some d =>
     rw [hu] at hf
     simp only [Option.bind_some] at hf
     cases d with
     | struct fs =>
      simp only [fldsD] at hf
      unfold Program.built
      rw [hi, hu]
      simp only [hz]
      rw [hf]
      simp only [List.getElem?_toArray]
      exact h1
     | _ => simp [fldsD] at hf
  ·cases h
 ·cases h

/-! ### arithmetic, comparisons -/
def intA (op : BinOp) (k : IntKind) (a : Int) (k' : IntKind) (b : Int) : Option Value :=
 match op with
 | .shr => if b < 0 then none else some (.int k (a.fdiv (2 ^ (min b.toNat k.bits))))
 | .add => if k = k' then some (.int k (k.wrap (a + b))) else none
 | .sub => if k = k' then some (.int k (k.wrap (a - b))) else none
 | .mul => if k = k' then some (.int k (k.wrap (a * b))) else none
 | .quo => if k = k' ∧ b ≠ 0 then some (.int k (k.wrap (a.tdiv b))) else none
 | .rem => if k = k' ∧ b ≠ 0 then some (.int k (a.tmod b)) else none
 | .and => if k = k' then some (.int k (k.wrap (BitVec.ofInt k.bits a &&& BitVec.ofInt k.bits b).toNat)) else none
 | .eql => if k = k' then some (.bool (decide (a = b))) else none
 | .neq => if k = k' then some (.bool (!decide (a = b))) else none
 | .lss => if k = k' then some (.bool (decide (a < b))) else none
 | .leq => if k = k' then some (.bool (decide (a ≤ b))) else none
 | .gtr => if k = k' then some (.bool (decide (b < a))) else none
 | .geq => if k = k' then some (.bool (decide (b ≤ a))) else none
 | _ => none
theorem intA_sound {P : Program} {op : BinOp} {t : TypeId} {k k' : IntKind} {a b : Int} {v : Value} (h : intA op k a k' b = some v) (w : World) :
  (binOp op t (.int k a) (.int k' b)).run P w = .ok v w ∧ plainV v = true := by
 cases op <;> simp only [intA] at h <;> (try (split at h)) <;> (try (cases h; done)) <;> rename_i hh <;> (first | (obtain ⟨rfl, hb⟩ := hh) | (subst hh) | skip) <;> cases h
 all_goals (try simp [binOp, Op.intArith, Op.intCmp, Op.intBits, Op.intDiv, Op.shift, plainV, *])
 ·cases h1 : decide (a = b) <;> simp_all
 ·cases h1 : decide (a = b) <;> simp_all [bne]

def eqCells : List Value → List Value → Option Bool
 | [], [] => some true
 | .int k a :: xs, .int k' b :: ys => match eqCells xs ys with
  | some r => if k = k' then some (decide (a = b) && r) else none
  | none => none
 | _, _ => none
/-- A struct of whole numbers, one cell each, in order: its '==' is that of its cells. -/
def eqFl (P : Program) : Nat → List Field → Bool
 | _, [] => true
 | i, f :: fs => f.name != "_" && f.offset == i && (intO P f.type).isSome && eqFl P (i + 1) fs
def eqOk (P : Program) (t : TypeId) : Bool :=
 (match P.underlying t with | some (.struct fs) => eqFl P 0 fs.toList | _ => false) && (match P.underlying t with | some (.struct fs) => fs.size > 0 | _ => false) && !P.stoodInHeld t && !P.eqGuardType P.depth t
/-- Two strings, one behind the other; how two strings compare. -/
def catS (a b : ByteArray) : ByteArray := ⟨(a.data.toList ++ b.data.toList).toArray⟩
theorem catS_eq (a b : ByteArray) : a ++ b = catS a b := by
 apply ByteArray.ext
 rw [ByteArray.data_append]
 simp [catS]
theorem catS_mk (a b : List UInt8) : catS ⟨a.toArray⟩ ⟨b.toArray⟩ = ⟨(a ++ b).toArray⟩ := by simp [catS]
def strA (op : BinOp) (a b : ByteArray) : Option Value :=
 match op with
 | .add => if a.size + b.size ≤ 4611686018427387904 then some (.string (catS a b)) else none
 | .eql => some (.bool (a.toList == b.toList))
 | .neq => some (.bool (!(a.toList == b.toList)))
 | _ => none
theorem strA_sound {P : Program} {op : BinOp} {t : TypeId} {a b : ByteArray} {v : Value} (h : strA op a b = some v) (w : World) :
  (binOp op t (.string a) (.string b)).run P w = .ok v w ∧ plainV v = true := by
 cases op <;> simp only [strA] at h <;> (try (cases h; done))
 ·split at h
  ·rename_i hh
   cases h
   have h2 : ¬ (((a.size + b.size : Nat) : Int) > IntKind.i64.max) := by
    have : IntKind.i64.max = 9223372036854775807 := rfl
    rw [this]; omega
   refine ⟨?_, rfl⟩
   simp only [binOp, Op.stringOp, if_neg h2, catS_eq, Sem.run_pure]
  ·cases h
 ·cases h; exact ⟨by simp [binOp, Op.stringOp], rfl⟩
 ·cases h; exact ⟨by simp [binOp, Op.stringOp, bne], rfl⟩
def binA (P : Program) (op : BinOp) (t : TypeId) (x y : Value) : Option Value :=
 match x, y with
 | .int k a, .int k' b => intA op k a k' b
 | .string a, .string b => strA op a b
 | .bool a, .bool b => if (P.underlying t matches some .bool) then (match op with | .eql => some (.bool (a == b)) | .neq => some (.bool (!(a == b))) | _ => none) else none
 | .slice p n c, .slice none 0 0 => if (elemO P t).isSome then (match op with | .eql => some (.bool p.isNone) | .neq => some (.bool (!p.isNone)) | _ => none) else none
 | .agg xs, .agg ys => if eqOk P t = true ∧ xs.toList.length = (fldsO P t |>.getD []).length then (match op, eqCells xs.toList ys.toList with | .eql, some r => some (.bool r) | .neq, some r => some (.bool (!r)) | _, _ => none) else none
 | _, _ => none
theorem part_int {P : Program} {t : TypeId} {k : IntKind} (h : intO P t = some k) {cs : Array Value} {o : Nat} {v : Value} (hv : cs[o]? = some v) (w : World) : (part t cs o).run P w = .ok v w := by
 unfold intO at h
 cases hu : P.underlying t with
 | none => rw [hu] at h; cases h
 | some d =>
  rw [hu] at h
  cases d with
  | int k' => simp [part, isAgg, run_underlying hu, hv]
  | _ => simp [intD] at h
theorem eqFields_sound {P : Program} (d : Nat) {xs ys : Array Value} (w : World) : ∀ (fs : List Field) (i : Nat) (r : Bool), eqFl P i fs = true → eqCells (xs.toList.drop i) (ys.toList.drop i) = some r → (xs.toList.drop i).length = fs.length →
  (Op.eqFields (d + 1) xs ys fs).run P w = .ok r w
 | [], i, r, _, he, hl => by
  have : xs.toList.drop i = [] := List.eq_nil_of_length_eq_zero hl
  rw [this] at he
  cases hy : ys.toList.drop i with
  | nil => rw [hy] at he; cases he; simp [Op.eqFields]
  | cons y l => rw [hy] at he; simp [eqCells] at he
 | f :: fs, i, r, hf, he, hl => by
  simp only [eqFl, Bool.and_eq_true] at hf
  obtain ⟨⟨⟨hn, ho⟩, hi⟩, hfs⟩ := hf
  have ho' : f.offset = i := by simpa using ho
  obtain ⟨k0, hk0⟩ := Option.isSome_iff_exists.1 hi
  cases hx : xs.toList.drop i with
  | nil => rw [hx] at hl; simp at hl
  | cons x xr =>
   cases hy : ys.toList.drop i with
   | nil => rw [hx, hy] at he; cases x <;> simp [eqCells] at he
   | cons y yr =>
    rw [hx, hy] at he
    have hx0 : xs[i]? = some x := by
     have := congrArg (fun l => l[0]?) hx
     simpa [List.getElem?_drop] using this
    have hy0 : ys[i]? = some y := by
     have := congrArg (fun l => l[0]?) hy
     simpa [List.getElem?_drop] using this
    have hx1 : xs.toList.drop (i + 1) = xr := by rw [← List.tail_drop, hx]; rfl
    have hy1 : ys.toList.drop (i + 1) = yr := by rw [← List.tail_drop, hy]; rfl
    cases x with
    | int k a =>
     cases y with
     | int k' b =>
      simp only [eqCells] at he
      cases hr : eqCells xr yr with
      | none => rw [hr] at he; cases he
      | some r1 =>
       rw [hr] at he
       simp only at he
       split at he
       ·rename_i hk; subst hk
        cases he
        have ih := eqFields_sound (xs := xs) (ys := ys) d w fs (i + 1) r1 hfs (by rw [hx1, hy1]; exact hr) (by rw [hx1]; rw [hx] at hl; simpa using hl)
        have hu : P.underlying f.type = some (.int k0) := by
         unfold intO at hk0
         cases hu : P.underlying f.type with
         | none => rw [hu] at hk0; cases hk0
         | some dd => rw [hu] at hk0; cases dd <;> simp [intD] at hk0; subst hk0; rfl
        have hn' : f.name ≠ "_" := by simpa using hn
        simp only [Op.eqFields, hn', ne_eq, not_false_eq_true, if_true, Sem.run_bind, ho', part_int hk0 hx0, part_int hk0 hy0, Result.andThen_ok, run_equalIn_int w d f.type k k0 a b hu]
        by_cases hab : a = b
        ·subst hab; simp [ih]
        ·simp [hab]
       ·cases he
     | _ => simp [eqCells] at he
    | _ => simp [eqCells] at he
theorem eqCells_VRs {φ : Phi} : ∀ {xs ys xs' ys' : List Value} {r : Bool}, eqCells xs ys = some r → VRs φ xs xs' → VRs φ ys ys' → xs' = xs ∧ ys' = ys
 | [], [], xs', ys', r, _, h1, h2 => ⟨h1.inv_nil, h2.inv_nil⟩
 | .int k a :: xs, .int k' b :: ys, xs', ys', r, h, h1, h2 => by
  obtain ⟨x, xr, rfl, hx, hxr⟩ := h1.inv
  obtain ⟨y, yr, rfl, hy, hyr⟩ := h2.inv
  cases hx; cases hy
  simp only [eqCells] at h
  split at h
  ·rename_i r1 hr
   obtain ⟨rfl, rfl⟩ := eqCells_VRs hr hxr hyr
   exact ⟨rfl, rfl⟩
  ·cases h
theorem binA_sound {P : Program} {φ : Phi} {op : BinOp} {t : TypeId} {ox oy : Operand} {x y x' y' v : Value} (h : binA P op t x y = some v) (hx : VR φ x x') (hy : VR φ y y') (w : World) :
  (do eqGuard op t ox oy x' y'; binOp op t x' y' : Sem Value).run P w = .ok v w ∧ plainV v = true := by
 cases hx with
 | str a =>
  cases hy with
  | str b =>
   have := strA_sound (P := P) (t := t) h w
   refine ⟨?_, this.2⟩
   have hg : (eqGuard op t ox oy (.string a) (.string b)).run P w = .ok () w := by unfold eqGuard; cases op <;> simp
   simp only [Sem.run_bind, hg, Result.andThen_ok, this.1]
  | _ => simp [binA] at h
 | int k a =>
  cases hy with
  | int k' b =>
   have := intA_sound (P := P) (t := t) h w
   refine ⟨?_, this.2⟩
   have hg : (eqGuard op t ox oy (.int k a) (.int k' b)).run P w = .ok () w := by unfold eqGuard; cases op <;> simp
   simp only [Sem.run_bind, hg, Result.andThen_ok, this.1]
  | _ => simp [binA] at h
 | bool a =>
  cases hy with
  | bool b =>
   simp only [binA] at h
   split at h
   ·rename_i hb
    have hu : P.underlying t = some .bool := by
     generalize P.underlying t = u at hb
     match u, hb with
     | some .bool, _ => rfl
    have hg : (eqGuard op t ox oy (.bool a) (.bool b)).run P w = .ok () w := by unfold eqGuard; cases op <;> simp
    simp only [Sem.run_bind, hg, Result.andThen_ok]
    cases op <;> simp at h <;> subst h <;> simp [binOp, run_equal_bool w t a b hu, plainV]
   ·cases h
  | _ => simp [binA] at h
 | nils =>
  cases hy with
  | nils =>
   simp only [binA] at h
   split at h
   ·rename_i hb
    obtain ⟨e, he⟩ := Option.isSome_iff_exists.1 hb
    have hu : P.underlying t = some (.slice e) := by
     unfold elemO at he
     cases hu : P.underlying t with
     | none => rw [hu] at he; cases he
     | some d => rw [hu] at he; cases d <;> simp [elemD] at he; subst he; rfl
    have hg : (eqGuard op t ox oy nl nl).run P w = .ok () w := by unfold eqGuard; cases op <;> simp
    simp only [Sem.run_bind, hg, Result.andThen_ok]
    cases op <;> simp at h <;> subst h <;> simp [binOp, run_equal_slice_nil w t e none 0 0 hu, plainV]
   ·cases h
  | _ => simp [binA] at h
 | slc h1 hn hc =>
  cases hy with
  | nils =>
   simp only [binA] at h
   split at h
   ·rename_i hb
    obtain ⟨e, he⟩ := Option.isSome_iff_exists.1 hb
    have hu : P.underlying t = some (.slice e) := by
     unfold elemO at he
     cases hu : P.underlying t with
     | none => rw [hu] at he; cases he
     | some d => rw [hu] at he; cases d <;> simp [elemD] at he; subst he; rfl
    have hg : ∀ a n c, (eqGuard op t ox oy (.slice a n c) nl).run P w = .ok () w := by intro a n c; unfold eqGuard; cases op <;> simp
    simp only [Sem.run_bind, hg, Result.andThen_ok]
    cases op <;> simp at h <;> subst h <;> simp [binOp, run_equal_slice_nil w t e _ _ _ hu, plainV]
   ·cases h
  | _ => simp [binA] at h
 | sl0 h1 ho =>
  cases hy with
  | nils =>
   simp only [binA] at h
   split at h
   ·rename_i hb
    obtain ⟨e, he⟩ := Option.isSome_iff_exists.1 hb
    have hu : P.underlying t = some (.slice e) := by
     unfold elemO at he
     cases hu : P.underlying t with
     | none => rw [hu] at he; cases he
     | some d => rw [hu] at he; cases d <;> simp [elemD] at he; subst he; rfl
    have hg : ∀ a n c, (eqGuard op t ox oy (.slice a n c) nl).run P w = .ok () w := by intro a n c; unfold eqGuard; cases op <;> simp
    simp only [Sem.run_bind, hg, Result.andThen_ok]
    cases op <;> simp at h <;> subst h <;> simp [binOp, run_equal_slice_nil w t e _ _ _ hu, plainV]
   ·cases h
  | _ => simp [binA] at h
 | emp a0 c0 =>
  cases hy with
  | nils =>
   simp only [binA] at h
   split at h
   ·rename_i hb
    obtain ⟨e, he⟩ := Option.isSome_iff_exists.1 hb
    have hu : P.underlying t = some (.slice e) := by
     unfold elemO at he
     cases hu : P.underlying t with
     | none => rw [hu] at he; cases he
     | some d => rw [hu] at he; cases d <;> simp [elemD] at he; subst he; rfl
    have hg : ∀ a n c, (eqGuard op t ox oy (.slice a n c) nl).run P w = .ok () w := by intro a n c; unfold eqGuard; cases op <;> simp
    simp only [Sem.run_bind, hg, Result.andThen_ok]
    cases op <;> simp at h <;> subst h <;> simp [binOp, run_equal_slice_nil w t e _ _ _ hu, plainV]
   ·cases h
  | _ => simp [binA] at h
 | @agg cs ds hs hh =>
  have hds : VRs φ cs.toList ds.toList := by
   obtain ⟨ds1, he1, hds⟩ := VR.agg_inv (.agg hs hh)
   cases he1; exact hds
  cases y with
  | agg ys =>
   obtain ⟨ds', rfl, hds'⟩ := hy.agg_inv
   simp only [binA] at h
   split at h
   ·rename_i hok
    obtain ⟨hok, hlen⟩ := hok
    have key : ∀ r, eqCells cs.toList ys.toList = some r → (eqGuard op t ox oy (.agg ds) (.agg ds')).run P w = .ok () w ∧ (Op.equalIn 10000 t (.agg ds) (.agg ds')).run P w = .ok r w := by
     intro r hr
     obtain ⟨e1, e2⟩ := eqCells_VRs hr hds hds'
     have e1' : ds = cs := Array.toList_inj.1 e1
     have e2' : ds' = ys := Array.toList_inj.1 e2
     subst e1'; subst e2'
     unfold eqOk at hok
     simp only [Bool.and_eq_true, Bool.not_eq_true'] at hok
     obtain ⟨⟨⟨hf, hpos⟩, hst⟩, heg⟩ := hok
     cases hu : P.underlying t with
     | none => rw [hu] at hf; cases hf
     | some d =>
      rw [hu] at hf
      cases d with
      | struct fs =>
       have hfo : P.fieldsOf t = fs := by simp [Program.fieldsOf, hu]
       refine ⟨run_eqGuard_agg w op t ox oy ds ds' heg, ?_⟩
       rw [run_equalIn_struct w 9999 t ds ds' (by rw [hfo]; exact hu) hst, hfo]
       refine eqFields_sound 9998 w fs.toList 0 r hf (by simpa using hr) ?_
       have hfl : (fldsO P t |>.getD []).length = fs.toList.length := by
        unfold fldsO
        rw [hu]
        simp only [Option.bind_some, fldsD]
        have : ∀ (l : List Field) (i : Nat), eqFl P i l = true → ∃ r, l.mapM (fun f => (P.info? f.type).map fun i => (f.offset, i.size)) = some r ∧ r.length = l.length := by
         intro l
         induction l with
         | nil => intro i _; exact ⟨[], rfl, rfl⟩
         | cons f l ih =>
          intro i hfl
          simp only [eqFl, Bool.and_eq_true] at hfl
          obtain ⟨⟨⟨_, _⟩, hi⟩, hrest⟩ := hfl
          obtain ⟨r, hr, hrl⟩ := ih _ hrest
          have : ∃ it, P.info? f.type = some it := by
           unfold intO Program.underlying at hi
           cases hh : P.info? f.type with
           | none => rw [hh] at hi; simp at hi
           | some it => exact ⟨it, rfl⟩
          obtain ⟨it, hit⟩ := this
          exact ⟨(f.offset, it.size) :: r, by simp [List.mapM_cons, hit, hr], by simp [hrl]⟩
        obtain ⟨r, hr, hrl⟩ := this fs.toList 0 hf
        rw [hr]; simpa using hrl
       simp only [List.drop_zero]
       rw [hlen, hfl]
      | _ => simp at hf
    cases hr : eqCells cs.toList ys.toList with
    | none => rw [hr] at h; cases op <;> simp at h
    | some r =>
     rw [hr] at h
     obtain ⟨k1, k2⟩ := key r hr
     simp only [Sem.run_bind, k1, Result.andThen_ok]
     cases op <;> simp at h <;> subst h <;> simp [run_eql_struct, run_neq_struct, k2, plainV]
   ·cases h
  | _ => simp [binA] at h
 | _ => simp [binA] at h

theorem add_plain' (b o n : Nat) : (⟨b, o, none⟩ : Addr).add n = ⟨b, o + n, none⟩ := by unfold Addr.add; split <;> simp_all
theorem elem_und {P : Program} {t e : TypeId} (h : elemO P t = some e) : P.underlying t = some (.slice e) := by
 unfold elemO at h
 cases hu : P.underlying t with
 | none => rw [hu] at h; cases h
 | some d => rw [hu] at h; cases d <;> simp [elemD] at h; subst h; rfl
theorem sz_info {P : Program} {t n : Nat} (h : szO P t = some n) : ∃ i, P.info? t = some i ∧ i.size = n := by
 unfold szO at h
 cases hi : P.info? t with
 | none => rw [hi] at h; cases h
 | some i => rw [hi] at h; exact ⟨i, rfl, by simpa using h⟩
theorem run_sizeOf' {P : Program} {t n : Nat} (h : szO P t = some n) (w : World) : (sizeOf t).run P w = .ok n w := by
 obtain ⟨i, hi, rfl⟩ := sz_info h
 simp [sizeOf, typeInfo, hi]
theorem flds_at {P : Program} {t : TypeId} {fl : List (Nat × Nat)} (h : fldsO P t = some fl) : ∃ fs : Array Field, P.underlying t = some (.struct fs) ∧
  ∀ (f : Nat) (off sz : Nat), fl[f]? = some (off, sz) → ∃ fd, fs[f]? = some fd ∧ fd.offset = off ∧ szO P fd.type = some sz := by
 unfold fldsO at h
 cases hu : P.underlying t with
 | none => rw [hu] at h; cases h
 | some d =>
  rw [hu] at h
  cases d with
  | struct fs =>
   refine ⟨fs, rfl, ?_⟩
   simp only [Option.bind_some, fldsD] at h
   have key : ∀ (l : List Field) (r : List (Nat × Nat)), l.mapM (fun f => (P.info? f.type).map fun i => (f.offset, i.size)) = some r →
     ∀ (f : Nat) (off sz : Nat), r[f]? = some (off, sz) → ∃ fd, l[f]? = some fd ∧ fd.offset = off ∧ szO P fd.type = some sz := by
    intro l
    induction l with
    | nil => intro r hr f off sz hf; simp at hr; subst hr; simp at hf
    | cons x l ih =>
     intro r hr f off sz hf
     simp only [List.mapM_cons] at hr
     cases hx : P.info? x.type with
     | none => rw [hx] at hr; simp at hr
     | some it =>
      rw [hx] at hr
      simp only [Option.map_some] at hr
      cases hl : l.mapM (fun f => (P.info? f.type).map fun i => (f.offset, i.size)) with
      | none => rw [hl] at hr; simp at hr
      | some r' =>
       rw [hl] at hr
       simp at hr
       subst hr
       cases f with
       | zero =>
        simp at hf
        exact ⟨x, rfl, hf.1, by simp [szO, hx, hf.2]⟩
       | succ f => exact ih r' hl f off sz (by simpa using hf)
   intro f off sz hf
   obtain ⟨fd, h1, h2⟩ := key fs.toList fl h f off sz hf
   exact ⟨fd, by simpa using h1, h2⟩
  | _ => simp [fldsD] at h

def hiA (n : Nat) : Option Value → Option Nat
 | none => some n
 | some (.int _ j) => if 0 ≤ j ∧ j ≤ (n : Int) then some j.toNat else none
 | _ => none
def loA (h : Nat) : Option Value → Option Nat
 | none => some 0
 | some (.int _ i) => if 0 ≤ i ∧ i ≤ (h : Int) then some i.toNat else none
 | _ => none
/-- x[lo:hi] of a slice. -/
def sliceA (P : Program) (t : TypeId) (x : Value) (lo hi : Option Value) : Option Value :=
 match x with
 | .slice (some ⟨id, o, none⟩) n 0 => match (elemO P t).bind (szO P), hiA n hi with
  | some (sz + 1), some h => match loA h lo with
   | some l => some (sl id (o + l * (sz + 1)) (h - l))
   | none => none
  | _, _ => none
 | .slice none 0 0 => match (elemO P t).bind (szO P), hiA 0 hi with
  | some _, some h => match loA h lo with
   | some _ => some nl
   | none => none
  | _, _ => none
 | _ => none
/-- An operation's operand, if it has one. -/
def evM (ρ : Operand → Option Value) : Option Operand → Option (Option Value)
 | none => some none
 | some x => match ρ x with | some v => some (some v) | none => none
theorem loA_le {h l : Nat} {lo : Option Value} (hh : loA h lo = some l) : l ≤ h := by
 unfold loA at hh
 split at hh
 ·cases hh; omega
 ·split at hh
  ·cases hh; omega
  ·cases hh
 ·cases hh
theorem hiA_le {n h : Nat} {hi : Option Value} (hh : hiA n hi = some h) : h ≤ n := by
 unfold hiA at hh
 split at hh
 ·cases hh; omega
 ·split at hh
  ·cases hh; omega
  ·cases hh
 ·cases hh
theorem hiA_cases {n h : Nat} {hi : Option Value} (h1 : hiA n hi = some h) : (hi = none ∧ h = n) ∨ ∃ k j, hi = some (.int k j) ∧ 0 ≤ j ∧ j ≤ (n : Int) ∧ h = j.toNat := by
 cases hi with
 | none => simp only [hiA, Option.some.injEq] at h1; exact .inl ⟨rfl, h1.symm⟩
 | some v =>
  cases v with
  | int k j =>
   simp only [hiA] at h1
   split at h1
   ·rename_i hj; cases h1; exact .inr ⟨k, j, rfl, hj.1, hj.2, rfl⟩
   ·cases h1
  | _ => simp [hiA] at h1
theorem loA_cases {h l : Nat} {lo : Option Value} (h1 : loA h lo = some l) : (lo = none ∧ l = 0) ∨ ∃ k j, lo = some (.int k j) ∧ 0 ≤ j ∧ j ≤ (h : Int) ∧ l = j.toNat := by
 cases lo with
 | none => simp only [loA, Option.some.injEq] at h1; exact .inl ⟨rfl, h1.symm⟩
 | some v =>
  cases v with
  | int k j =>
   simp only [loA] at h1
   split at h1
   ·rename_i hj; cases h1; exact .inr ⟨k, j, rfl, hj.1, hj.2, rfl⟩
   ·cases h1
  | _ => simp [loA] at h1
theorem run_bounds_sl {P : Program} {w : World} {n c h l : Nat} {lo hi : Option Value} (hn : n ≤ c) (h1 : hiA n hi = some h) (h2 : loA h lo = some l) :
  (Instr.sliceBounds true n c lo hi none).run P w = .ok (l, h, c) w := by
 have hb : ∀ (k : IntKind) (j : Int) (y : Nat) (code : BoundsCode), 0 ≤ j → j ≤ (y : Int) → (Instr.sliceBound (.int k j) y code).run P w = .ok j.toNat w := fun k j y code h0 h1 => run_sliceBound w k j y code h0 h1
 rcases hiA_cases h1 with ⟨rfl, rfl⟩ | ⟨k, j, rfl, a1, a2, rfl⟩ <;> rcases loA_cases h2 with ⟨rfl, rfl⟩ | ⟨k', j', rfl, b1, b2, rfl⟩
 ·simp [Instr.sliceBounds]
 ·simp [Instr.sliceBounds, hb k' j' _ _ b1 b2]
 ·simp [Instr.sliceBounds, hb k j c _ a1 (by omega)]
 ·simp [Instr.sliceBounds, hb k j c _ a1 (by omega), hb k' j' _ _ b1 b2]
theorem sliceA_sound {P : Program} {φ : Phi} {t : TypeId} {x x' v : Value} {lo hi : Option Value} (h : sliceA P t x lo hi = some v) (hx : VR φ x x')
  (hpl : (∀ u, lo = some u → ∃ k i, u = .int k i)) (hph : (∀ u, hi = some u → ∃ k i, u = .int k i)) (w : World) :
  ∃ v', VR φ v v' ∧ (Instr.sliceAt t x' lo hi none).run P w = .ok v' w := by
 have go : ∀ (e sz : Nat) (a : Option Addr) (n c h l : Nat), elemO P t = some e → szO P e = some sz → n ≤ c → hiA n hi = some h → loA h lo = some l →
   (Instr.sliceAt t (.slice a n c) lo hi none).run P w = .ok (.slice (if c = l then a else a.map (·.add (l * sz))) (h - l) (c - l)) w := by
  intro e sz a n c h l he hsz hn h1 h2
  unfold Instr.sliceAt Instr.slice
  simp only [Sem.run_bind, run_underlying (elem_und he), Result.andThen_ok, run_bounds_sl hn h1 h2, run_sizeOf' hsz, Sem.run_pure]
 cases hx with
 | nils =>
  simp only [sliceA] at h
  split at h
  ·rename_i s hh hb h1
   split at h
   ·rename_i l h2
    cases h
    cases he : elemO P t with
    | none => rw [he] at hb; cases hb
    | some e =>
     rw [he] at hb
     have := hiA_le h1
     have := loA_le h2
     obtain rfl : hh = 0 := by omega
     obtain rfl : l = 0 := by omega
     exact ⟨_, .nils, by rw [go e s none 0 0 0 0 he hb (Nat.le_refl _) h1 h2]; rfl⟩
   ·cases h
  ·cases h
 | @slc id o n c L hL hn hc =>
  simp only [sliceA] at h
  split at h
  ·rename_i sz hh hb h1
   split at h
   ·rename_i l h2
    cases h
    cases he : elemO P t with
    | none => rw [he] at hb; cases hb
    | some e =>
     rw [he] at hb
     refine ⟨_, ?_, go e (sz + 1) _ n c hh l he hb hn h1 h2⟩
     have a1 := hiA_le h1
     have a2 := loA_le h2
     by_cases hcl : c = l
     ·rw [if_pos hcl]
      have e1 : hh - l = 0 := by omega
      have e2 : c - l = 0 := by omega
      rw [e1, e2]
      by_cases h0 : o + l * (sz + 1) = 0
      ·have ho : o = 0 := by omega
       have hl : l = 0 := by
        have : l * (sz + 1) = 0 := by omega
        exact (Nat.mul_eq_zero.1 this).resolve_right (by omega)
       rw [h0]
       have hcap : L.rw = true → (0 : Nat) = 0 → 0 = L.cap := fun hr _ => by have := hc hr ho; omega
       have := VR.slc (o := 0) (n := 0) (c := 0) hL (Nat.le_refl _) hcap
       rw [ho]; exact this
      ·exact .sl0 hL h0
     ·rw [if_neg hcl]
      simp only [Option.map_some, add_plain']
      rw [Nat.add_assoc]
      refine VR.slc hL (by omega) fun hr h0 => ?_
      have ho : o = 0 := by omega
      have hl : l = 0 := by
       have : l * (sz + 1) = 0 := by omega
       exact (Nat.mul_eq_zero.1 this).resolve_right (by omega)
      have := hc hr ho
      omega
   ·cases h
  ·cases h
 | @sl0 id o a L hL ho =>
  simp only [sliceA] at h
  split at h
  ·rename_i sz hh hb h1
   split at h
   ·rename_i l h2
    cases h
    cases he : elemO P t with
    | none => rw [he] at hb; cases hb
    | some e =>
     rw [he] at hb
     have := hiA_le h1
     have := loA_le h2
     obtain rfl : hh = 0 := by omega
     obtain rfl : l = 0 := by omega
     refine ⟨_, ?_, go e (sz + 1) (some a) 0 0 0 0 he hb (Nat.le_refl _) h1 h2⟩
     simp only [Nat.zero_mul, Nat.add_zero, if_true, Nat.sub_self]
     exact .sl0 hL ho
   ·cases h
  ·cases h
 | _ => simp [sliceA] at h

/-- An operation that neither reads nor writes memory. -/
def pureOp (P : Program) (ρ : Operand → Option Value) : Op → Option Value
 | .move x | .assign x => ρ x
 | .pick c a b => match ρ c with
  | some (.bool true) => ρ a
  | some (.bool false) => ρ b
  | _ => none
 | .build t parts => match evP ρ parts.toList with
  | some l => match buildA P t l with
   | some cs => some (.agg cs.toArray)
   | none => none
  | none => none
 | .nilCheck x => match ρ x with
  | some (.pointer (some ⟨id, o, none⟩)) => some (pt id o)
  | _ => none
 | .binOp op t x y _ => match ρ x, ρ y with
  | some a, some b => binA P op t a b
  | _, _ => none
 | .unOp .not _ x => match ρ x with
  | some (.bool b) => some (.bool !b)
  | _ => none
 | .convert src dst x => match P.underlying src, intO P dst, ρ x with
  | some _, some k, some (.int _ n) => some (.int k (k.wrap n))
  | _, _, _ => none
 | .slice t x lo hi none => match ρ x, evM ρ lo, evM ρ hi with
  | some v, some l, some h => sliceA P t v l h
  | _, _, _ => none
 | .fieldAddr s x f => match ρ x, (fldsO P s).bind (fun fl => fl[f]?) with
  | some (.pointer (some ⟨id, o, none⟩)), some (off, _ + 1) => some (pt id (o + off))
  | _, _ => none
 | .field t x f => match ρ x, (fldsO P t).bind (fun fl => fl[f]?), P.underlying t with
  | some (.agg cs), some (off, _), some (.struct fs) => match fs[f]? with
   | some fd => if (aggO P fd.type) = some false then cs[off]? else none
   | none => none
  | _, _, _ => none
 | .indexAddr t x i => match ρ x, ρ i, (elemO P t).bind (szO P) with
  | some (.slice (some ⟨id, o, none⟩) n 0), some (.int _ j), some sz => if 0 ≤ j ∧ j < (n : Int) then some (pt id (o + j.toNat * sz)) else none
  | _, _, _ => none
 | .makeFunc f first captured => if first.size = 0 then (match evL ρ captured.toList with | some l => some (.func f #[] l.toArray) | none => none) else none
 | .extract x i => match ρ x with
  | some (.tuple vs) => vs[i]?
  | _ => none
 | .call { callee := .builtin .len, args := args, argTypes := ts } => match args.toList with
  | [x] => match ρ x, (ts[0]?).bind P.underlying with
   | some (.slice _ n _), some (.slice _) => some (.int .i64 n)
   | some (.string s), some .string => some (.int .i64 s.size)
   | _, _ => none
  | _ => none
 | .call { callee := .builtin .max, args := args, argTypes := ts } => match args.toList with
  | [x, y] => match ρ x, ρ y with
   | some (.int k a), some (.int _ b) => some (.int k (if a < b then b else a))
   | _, _ => none
  | _ => none
 | _ => none

theorem pure_sound {P : Program} {φ : Phi} {ρ : Operand → Option Value} {e : Operand → Value} (hρ : ∀ x v, ρ x = some v → VR φ v (e x)) {o : Oper} {v : Value} (h : pureOp P ρ o.op = some v) :
  ∃ v', VR φ v v' ∧ ∀ w, (execOp e o).run P w = .ok (.value v') w := by
 obtain ⟨dst, op, type, pos, after, guard⟩ := o
 simp only at h
 unfold pureOp at h
 split at h
 ·rename_i x; exact ⟨e x, hρ x v h, fun w => by simp [execOp]⟩
 ·rename_i x; exact ⟨e x, hρ x v h, fun w => by simp [execOp]⟩
 ·rename_i c a b
  split at h
  ·rename_i hc
   have h1 := hρ c _ hc
   generalize hec : e c = ec at h1
   cases h1
   exact ⟨e a, hρ a v h, fun w => by simp [execOp, hec, asBool]⟩
  ·rename_i hc
   have h1 := hρ c _ hc
   generalize hec : e c = ec at h1
   cases h1
   exact ⟨e b, hρ b v h, fun w => by simp [execOp, hec, asBool]⟩
  ·cases h
 ·rename_i t parts
  split at h
  ·rename_i l hl
   split at h
   ·rename_i cs hcs
    cases h
    obtain ⟨ds, h1, h2⟩ := buildA_sound (evP_PR hρ hl) hcs
    refine ⟨.agg ds, by simpa using VR.agg_of h2, fun w => ?_⟩
    have hm : (parts.map fun (i, x) => (i, e x)).toList = parts.toList.map fun p => (p.1, e p.2) := by simp
    have := run_build w t (parts.map fun (i, x) => (i, e x)) ds (by rw [hm]; exact h1)
    simp [execOp, this]
   ·cases h
  ·cases h
 ·rename_i x
  split at h
  ·rename_i id o hx
   cases h
   have h1 := hρ x _ hx
   generalize hex : e x = ex at h1
   cases h1 with
   | ptr hL => exact ⟨_, .ptr hL, fun w => by simp [execOp, hex]⟩
  ·cases h
 ·rename_i op t x y yt
  split at h
  ·rename_i a b ha hb
   refine ⟨v, ?_, fun w => ?_⟩
   ·exact plainV_VR (binA_sound (ox := x) (oy := y) h (hρ x a ha) (hρ y b hb) default).2
   ·have := (binA_sound (ox := x) (oy := y) h (hρ x a ha) (hρ y b hb) w).1
    simp only [execOp, Sem.run_bind] at this ⊢
    rw [this]; rfl
  ·cases h
 ·rename_i t x
  split at h
  ·rename_i b hx
   cases h
   have h1 := hρ x _ hx
   generalize hex : e x = ex at h1
   cases h1
   exact ⟨_, .bool _, fun w => by simp [execOp, hex, Op.unary]⟩
  ·cases h
 ·rename_i src dst x
  split at h
  ·rename_i d k k' n hsrc hdst hx
   cases h
   have h1 := hρ x _ hx
   generalize hex : e x = ex at h1
   cases h1
   have hu : P.underlying dst = some (.int k) := by
    unfold intO at hdst
    cases hu : P.underlying dst with
    | none => rw [hu] at hdst; cases hdst
    | some dd => rw [hu] at hdst; cases dd <;> simp [intD] at hdst; subst hdst; rfl
   refine ⟨_, .int _ _, fun w => ?_⟩
   simp only [execOp, hex, convert, Sem.run_bind, run_underlying hsrc, run_underlying hu, Result.andThen_ok]
   cases d <;> simp [Conv.intToInt]
  ·cases h
 ·rename_i t x lo hi
  split at h
  ·rename_i vx l hh hx hl hhi
   have hlo : lo.map e = l ∧ ∀ u, l = some u → ∃ k i, u = .int k i := by
    cases lo with
    | none => simp [evM] at hl; subst hl; exact ⟨rfl, fun u hu => by cases hu⟩
    | some y =>
     simp only [evM] at hl
     split at hl
     ·rename_i u hu
      cases hl
      have hv := hρ y u hu
      cases u with
      | int k i => generalize hey : e y = ey at hv; cases hv; exact ⟨by simp [hey], fun u hu => by cases hu; exact ⟨_, _, rfl⟩⟩
      | _ => exfalso; revert h; unfold sliceA loA; (repeat' split) <;> simp_all
     ·cases hl
   have hhi' : hi.map e = hh ∧ ∀ u, hh = some u → ∃ k i, u = .int k i := by
    cases hi with
    | none => simp [evM] at hhi; subst hhi; exact ⟨rfl, fun u hu => by cases hu⟩
    | some y =>
     simp only [evM] at hhi
     split at hhi
     ·rename_i u hu
      cases hhi
      have hv := hρ y u hu
      cases u with
      | int k i => generalize hey : e y = ey at hv; cases hv; exact ⟨by simp [hey], fun u hu => by cases hu; exact ⟨_, _, rfl⟩⟩
      | _ => exfalso; revert h; unfold sliceA hiA; (repeat' split) <;> simp_all
     ·cases hhi
   obtain ⟨v', h1, hrun0⟩ := sliceA_sound h (hρ x vx hx) hlo.2 hhi'.2 (default : World)
   have key : ∀ w, ∃ v', VR φ v v' ∧ (Instr.sliceAt t (e x) l hh none).run P w = .ok v' w := fun w => sliceA_sound h (hρ x vx hx) hlo.2 hhi'.2 w
   have same : ∀ w w' v1 v2, (Instr.sliceAt t (e x) l hh none).run P w = .ok v1 w → (Instr.sliceAt t (e x) l hh none).run P w' = .ok v2 w' → v1 = v2 := by
    intro w w' v1 v2 e1 e2
    have hvx := hρ x vx hx
    unfold sliceA at h
    split at h
    ·rename_i id o n
     split at h
     ·rename_i sz hq hb hq1
      split at h
      ·rename_i lq hq2
       cases he : elemO P t with
       | none => rw [he] at hb; cases hb
       | some el =>
        rw [he] at hb
        generalize hex : e x = ex at hvx e1 e2
        cases hvx with
        | slc hL hn hc =>
         simp only [Instr.sliceAt, Instr.slice, Sem.run_bind, run_underlying (elem_und he), Result.andThen_ok, run_bounds_sl hn hq1 hq2, run_sizeOf' hb, Sem.run_pure] at e1 e2
         cases e1; cases e2; rfl
        | sl0 hL ho =>
         simp only [Instr.sliceAt, Instr.slice, Sem.run_bind, run_underlying (elem_und he), Result.andThen_ok, run_bounds_sl (Nat.le_refl 0) hq1 hq2, run_sizeOf' hb, Sem.run_pure] at e1 e2
         cases e1; cases e2; rfl
      ·cases h
     ·cases h
    ·split at h
     ·rename_i sz hq hb hq1
      split at h
      ·rename_i lq hq2
       cases he : elemO P t with
       | none => rw [he] at hb; cases hb
       | some el =>
        rw [he] at hb
        generalize hex : e x = ex at hvx e1 e2
        cases hvx with
        | nils =>
         simp only [Instr.sliceAt, Instr.slice, Sem.run_bind, run_underlying (elem_und he), Result.andThen_ok, run_bounds_sl (Nat.le_refl 0) hq1 hq2, run_sizeOf' hb, Sem.run_pure] at e1 e2
         cases e1; cases e2; rfl
      ·cases h
     ·cases h
    ·cases h
   refine ⟨v', h1, fun w => ?_⟩
   obtain ⟨v2, _, h2⟩ := key w
   simp only [execOp, hlo.1, hhi'.1, Option.map_none, Sem.run_bind]
   rw [h2]
   have : v2 = v' := same w default v2 v' h2 hrun0
   rw [this]; rfl
  ·cases h
 ·rename_i s x f
  split at h
  ·rename_i id o off sz hx hf
   cases h
   have h1 := hρ x _ hx
   generalize hex : e x = ex at h1
   cases hfl : fldsO P s with
   | none => rw [hfl] at hf; cases hf
   | some fl =>
    rw [hfl] at hf
    obtain ⟨fs, hu, hfs⟩ := flds_at hfl
    obtain ⟨fd, hfd, rfl, hsz⟩ := hfs f off _ hf
    cases h1 with
    | @ptr _ _ L hL =>
     refine ⟨_, .ptr hL, fun w => ?_⟩
     simp only [execOp, hex, Instr.fieldAt, Sem.run_bind, run_underlying hu, Result.andThen_ok, hfd, Instr.sureAddr, fieldPlace, run_sizeOf' hsz, Sem.run_pure, add_plain']
     simp [Nat.add_assoc]
  ·cases h
 ·rename_i t x f
  split at h
  ·rename_i cs off sz fs hx hf hu
   split at h
   ·rename_i fd hfd
    split at h
    ·rename_i hag
     have h1 := hρ x _ hx
     generalize hex : e x = ex at h1
     obtain ⟨ds, rfl, hds⟩ := h1.agg_inv
     cases hfl : fldsO P t with
     | none => rw [hfl] at hf; cases hf
     | some fl =>
      rw [hfl] at hf
      obtain ⟨fs', hu', hfs⟩ := flds_at hfl
      rw [hu] at hu'; cases hu'
      obtain ⟨fd', hfd', rfl, hsz⟩ := hfs f off _ hf
      rw [hfd] at hfd'; cases hfd'
      have hlt : fd.offset < cs.size := by
       rcases Nat.lt_or_ge fd.offset cs.size with h' | h'
       ·exact h'
       ·simp [Array.getElem?_eq_none h'] at h
      have hlt' : fd.offset < ds.size := by have := hds.1; simp at this; omega
      refine ⟨ds[fd.offset], hds.2 fd.offset v _ (by simpa using h) (by simp [hlt']), fun w => ?_⟩
      unfold aggO at hag
      cases hd : P.underlying fd.type with
      | none => rw [hd] at hag; cases hag
      | some d =>
       rw [hd] at hag
       have hd2 : (isAgg fd.type).run P w = .ok false w := by
        cases d <;> simp [aggD] at hag <;> simp [isAgg, run_underlying hd]
       simp only [execOp, hex, Instr.field, Sem.run_bind, run_underlying hu, Result.andThen_ok, hfd, asAgg, Sem.run_pure, part, hd2]
       simp [hlt']
    ·cases h
   ·cases h
  ·cases h
 ·rename_i t x i
  split at h
  ·rename_i id o n k j sz hx hi hb
   split at h
   ·rename_i hj
    cases h
    cases he : elemO P t with
    | none => rw [he] at hb; cases hb
    | some el =>
     rw [he] at hb
     have h1 := hρ x _ hx
     have h2 := hρ i _ hi
     generalize hex : e x = ex at h1
     generalize hei : e i = ei at h2
     cases h2
     cases h1 with
     | @slc _ _ _ c L hL hn hc =>
      refine ⟨_, .ptr hL, fun w => ?_⟩
      simp only [execOp, hex, hei, Instr.indexAt, asIntOf, Sem.run_bind, Sem.run_pure, Result.andThen_ok, run_underlying (elem_und he), hj, and_self, if_true, run_sizeOf' hb, add_plain']
      simp [Nat.add_assoc]
     | sl0 hL ho => omega
   ·cases h
  ·cases h
 ·rename_i f first captured
  split at h
  ·rename_i hf
   split at h
   ·rename_i l hl
    cases h
    have := evL_VRs hρ hl
    refine ⟨_, VR.fn_of this, fun w => ?_⟩
    have h0 : first = #[] := Array.eq_empty_of_size_eq_zero hf
    subst h0
    simp only [execOp, Instr.makeFunc, Sem.run_bind, Sem.run_pure, Result.andThen_ok, Array.map_empty]
    rw [← Array.toList_map]
   ·cases h
  ·cases h
 ·rename_i x i
  split at h
  ·rename_i vs hx
   have h1 := hρ x _ hx
   generalize hex : e x = ex at h1
   obtain ⟨ds, rfl, hds⟩ := h1.tup_inv
   have hlt : i < vs.size := by
    rcases Nat.lt_or_ge i vs.size with h' | h'
    ·exact h'
    ·simp [Array.getElem?_eq_none h'] at h
   have hlt' : i < ds.size := by have := hds.1; simp at this; omega
   exact ⟨ds[i], hds.2 i v _ (by simpa using h) (by simp [hlt']), fun w => by simp [execOp, hex, Instr.extract, hlt']⟩
  ·cases h
 ·rename_i args ts
  split at h
  ·rename_i x hargs
   obtain rfl : args = #[x] := by rw [← Array.toList_inj]; simpa using hargs
   split at h
   ·rename_i a n c el hx hu
    cases h
    have h1 := hρ x _ hx
    cases ht : ts[0]? with
    | none => rw [ht] at hu; cases hu
    | some t =>
     rw [ht] at hu
     generalize hex : e x = ex at h1
     have hr : ∀ w a c, (Builtin.len_ ts type #[.slice a n c]).run P w = .ok (.int .i64 n) w := by
      intro w a c
      simp [Builtin.len_, ht, run_underlying (show P.underlying t = _ from hu), goInt]
     refine ⟨_, .int _ _, fun w => ?_⟩
     cases h1 <;> simp [execOp, resolve, invoke, builtin, hex, hr]
   ·rename_i s hx hu
    cases h
    have h1 := hρ x _ hx
    cases ht : ts[0]? with
    | none => rw [ht] at hu; cases hu
    | some t =>
     rw [ht] at hu
     generalize hex : e x = ex at h1
     cases h1
     exact ⟨_, .int _ _, fun w => by simp [execOp, resolve, invoke, builtin, hex, Builtin.len_, ht, run_underlying (show P.underlying t = _ from hu), goInt]⟩
   ·cases h
  ·cases h
 ·rename_i args ts
  split at h
  ·rename_i x y hargs
   obtain rfl : args = #[x, y] := by rw [← Array.toList_inj]; simpa using hargs
   split at h
   ·rename_i k a k' b hx hy
    cases h
    have h1 := hρ x _ hx
    have h2 := hρ y _ hy
    generalize hex : e x = ex at h1
    generalize hey : e y = ey at h2
    cases h1; cases h2
    exact ⟨_, .int _ _, fun w => by simp [execOp, resolve, invoke, builtin, hex, hey, Builtin.max_, Builtin.max2]⟩
   ·cases h
  ·cases h
 ·cases h

/-- A type whose underlying one is a string. -/
def strO (P : Program) (t : TypeId) : Bool := match P.underlying t with
 | some .string => true
 | _ => false
theorem str_und {P : Program} {t : TypeId} (h : strO P t = true) : P.underlying t = some .string := by
 unfold strO at h
 split at h
 ·assumption
 ·cases h

/-! ### loads -/
def ldC (H : Heap) (id o : Nat) : Nat → Option (List Value)
 | 0 => some []
 | n + 1 => match H.cell id o, ldC H id (o + 1) n with
  | some x, some l => some (x :: l)
  | _, _ => none
def ldA (P : Program) (H : Heap) (t : TypeId) (a : Value) : Option Value :=
 match a with
 | .pointer (some ⟨id, o, none⟩) => match aggO P t, szO P t with
  | some true, some (n + 1) => match ldC H id o (n + 1) with
   | some l => some (.agg l.toArray)
   | none => none
  | some false, _ => H.cell id o
  | _, _ => none
 | _ => none
theorem ldC_sound {P : Program} {B0 : Nat} {φ : Phi} {H : Heap} {w : World} (h : HR P B0 φ H w) {id : Nat} {L : Loc} (hL : φ id = some L) : ∀ {n o : Nat} {l : List Value}, ldC H id o n = some l →
  ∃ l', VRs φ l l' ∧ l.length = n ∧ ∀ (j : Nat) (u : Value), l'[j]? = some u → w.cell? ⟨L.blk, L.base + (o + j), none⟩ = some u
 | 0, o, l, hl => by cases hl; exact ⟨[], .nil _, rfl, fun j u hu => by simp at hu⟩
 | n + 1, o, l, hl => by
  simp only [ldC] at hl
  split at hl
  ·rename_i x r hx hr
   cases hl
   obtain ⟨y, hy, hc⟩ := h.cell id L o x hL hx
   obtain ⟨l', h1, h2, h3⟩ := ldC_sound h hL hr
   refine ⟨y :: l', .cons hy h1, by simp [h2], fun j u hu => ?_⟩
   cases j with
   | zero => simp at hu; subst hu; exact hc
   | succ j => have := h3 j u (by simpa using hu); rwa [Nat.add_assoc, Nat.add_comm 1 j] at this
  ·cases hl
theorem ldA_sound {P : Program} {B0 : Nat} {φ : Phi} {H : Heap} {w : World} (h : HR P B0 φ H w) {t : TypeId} {a a' r : Value} (ha : VR φ a a') (hr : ldA P H t a = some r) :
  ∃ r', VR φ r r' ∧ (Instr.loadAt t a').run P w = .ok r' w := by
 unfold ldA at hr
 split at hr
 ·rename_i id o
  cases ha with
  | @ptr _ _ L hL =>
   split at hr
   ·rename_i n hag hsz
    split at hr
    ·rename_i l hl
     cases hr
     obtain ⟨l', h1, h2, h3⟩ := ldC_sound h hL hl
     refine ⟨_, VR.agg_of h1, ?_⟩
     have hlen : l'.length = n + 1 := by rw [← h1.1]; exact h2
     have hla : ∀ j v, l'[j]? = some v → w.cell? ((⟨L.blk, L.base + o, none⟩ : Addr).add j) = some v := fun j v hv => by rw [add_plain', Nat.add_assoc]; exact h3 j v hv
     have hl2 := run_loadCells_list (P := P) w ⟨L.blk, L.base + o, none⟩ l' hla
     unfold aggO at hag
     cases hd : P.underlying t with
     | none => rw [hd] at hag; cases hag
     | some d =>
      rw [hd] at hag
      have hd2 : (isAgg t).run P w = .ok true w := by
       cases d <;> simp [aggD] at hag <;> simp [isAgg, run_underlying hd]
      simp only [Instr.loadAt, Instr.sureAddr, loadVar, Sem.run_bind, Sem.run_pure, Result.andThen_ok, hd2, if_true, run_sizeOf' hsz]
      rw [show n.succ = l'.length from hlen.symm, hl2]; rfl
    ·cases hr
   ·rename_i hag
    obtain ⟨y, hy, hc⟩ := h.cell id L o r hL hr
    refine ⟨y, hy, ?_⟩
    unfold aggO at hag
    cases hd : P.underlying t with
    | none => rw [hd] at hag; cases hag
    | some d =>
     rw [hd] at hag
     have hd2 : (isAgg t).run P w = .ok false w := by
      cases d <;> simp [aggD] at hag <;> simp [isAgg, run_underlying hd]
     simp only [Instr.loadAt, Instr.sureAddr, loadVar, Sem.run_bind, Sem.run_pure, Result.andThen_ok, hd2, Bool.false_eq_true, if_false]
     simp [load, Sem.run, hc]
   ·cases hr
 ·cases hr

/-! ### what the world's first package-level variable holds, whatever is done from block B0 on -/
def GOk (P : Program) (B0 : Nat) (w : World) : Prop := ∀ w' : World, (∀ k, k < B0 → w'.heap[k]? = w.heap[k]?) → ∀ n, P.globalNamed n = some 0 → Lib.TabIs P w' n .u64 Lib.pow10Tab
theorem GOk.on {P : Program} {B0 : Nat} {w w1 : World} (h : GOk P B0 w) (hk : ∀ k, k < B0 → w1.heap[k]? = w.heap[k]?) : GOk P B0 w1 := fun w' h' => h w' fun k hkk => (h' k hkk).trans (hk k hkk)
theorem GOk.here {P : Program} {B0 : Nat} {w : World} (h : GOk P B0 w) {n : String} (hn : P.globalNamed n = some 0) : Lib.TabIs P w n .u64 Lib.pow10Tab := h w (fun _ _ => rfl) n hn
/-! ### the invariant of a call -/
structure Inv (P : Program) (B0 n0 : Nat) (D : List Nat) (φ0 : Phi) (w0 : World) (φ : Phi) (H : Heap) (w : World) : Prop where
 hr : HR P B0 φ H w
 b0 : B0 ≤ w0.heap.size
 gl : GOk P B0 w
 len : n0 ≤ H.length
 dom0 : ∀ id L, φ0 id = some L → id < n0
 low : ∀ id, id < n0 → φ id = φ0 id
 high : ∀ id L, n0 ≤ id → φ id = some L → L.rw = true ∧ (w0.heap.size ≤ L.blk ∨ ∃ d ∈ D, ∃ L0, φ0 d = some L0 ∧ L0.rw = true ∧ L0.blk = L.blk)
 os : w.os = w0.os
 tape : w.tape = w0.tape
 output : w.output = w0.output
 size : w0.heap.size ≤ w.heap.size
 keep : ∀ b, b < w0.heap.size → (∀ d ∈ D, ∀ L, φ0 d = some L → L.rw = true → L.blk ≠ b) → w.heap[b]? = w0.heap[b]?

def wr (n0 : Nat) (D : List Nat) (id : Nat) : Prop := n0 ≤ id ∨ id ∈ D

section
variable {P : Program} {B0 n0 : Nat} {D : List Nat} {φ0 φ : Phi} {w0 w : World} {H : Heap}

theorem Inv.le0 (h : Inv P B0 n0 D φ0 w0 φ H w) : φ0.le φ := fun id L e => by rw [h.low id (h.dom0 id L e)]; exact e
theorem Inv.init (h : HR P B0 φ H w) (hB : B0 ≤ w.heap.size) (hG : GOk P B0 w) : Inv P B0 H.length D φ w φ H w where
 hr := h
 b0 := hB
 gl := hG
 len := Nat.le_refl _
 dom0 := h.dom
 low _ _ := rfl
 high id L hi hL := absurd (h.dom id L hL) (by omega)
 os := rfl
 tape := rfl
 output := rfl
 size := Nat.le_refl _
 keep _ _ _ := rfl
/-- A block that may be written is none of those that are kept. -/
theorem Inv.wr_ne (h : Inv P B0 n0 D φ0 w0 φ H w) {id : Nat} (hw : wr n0 D id) {L : Loc} (hL : φ id = some L) (hr : L.rw = true) {b : Nat} (hb : b < w0.heap.size)
  (hk : ∀ d ∈ D, ∀ L, φ0 d = some L → L.rw = true → L.blk ≠ b) : b ≠ L.blk := by
 intro e
 have high : n0 ≤ id → False := fun hn => by
  obtain ⟨_, h1 | ⟨d, hd, L0, h2, h3, h4⟩⟩ := h.high id L hn hL
  ·omega
  ·exact hk d hd L0 h2 h3 (by omega)
 rcases hw with hn | hD
 ·exact high hn
 ·by_cases hn : n0 ≤ id
  ·exact high hn
  ·have := h.low id (by omega)
   rw [hL] at this
   exact hk id hD L this.symm hr e.symm
/-- A world that differs in a block that may be written alone. -/
theorem Inv.write (h : Inv P B0 n0 D φ0 w0 φ H w) {id : Nat} (hw : wr n0 D id) {L : Loc} (hL : φ id = some L) (hr : L.rw = true) (hBL : B0 ≤ L.blk) {H' : Heap} {w' : World} (hH : HR P B0 φ H' w') (hlen : H'.length = H.length)
  (hsz : w'.heap.size = w.heap.size) (ho : ∀ k, k ≠ L.blk → w'.heap[k]? = w.heap[k]?) (h1 : w'.os = w.os) (h2 : w'.tape = w.tape) (h3 : w'.output = w.output) : Inv P B0 n0 D φ0 w0 φ H' w' where
 hr := hH
 b0 := h.b0
 gl := h.gl.on fun k hk => ho k (by omega)
 len := by rw [hlen]; exact h.len
 dom0 := h.dom0
 low := h.low
 high := h.high
 os := h1.trans h.os
 tape := h2.trans h.tape
 output := h3.trans h.output
 size := by rw [hsz]; exact h.size
 keep b hb hk := by rw [ho b (h.wr_ne hw hL hr hb hk)]; exact h.keep b hb hk
theorem Inv.put (h : Inv P B0 n0 D φ0 w0 φ H w) {id j : Nat} {L : Loc} {x y u : Value} (hL : φ id = some L) (hw : wr n0 D id) (hrw : H.rwOk id = true) (hu : H.cell id j = some u) (hxy : VR φ x y) (h1 : y.oneCell' = true) :
  Inv P B0 n0 D φ0 w0 φ (H.put id j x) (w.setCell ⟨L.blk, L.base + j, none⟩ y) ∧ (store ⟨L.blk, L.base + j, none⟩ y).run P w = .ok () (w.setCell ⟨L.blk, L.base + j, none⟩ y) := by
 obtain ⟨k1, k2, ⟨v, k3⟩, k4, k5⟩ := h.hr.put hL hrw hu hxy
 refine ⟨h.write hw hL k4 k5 k1 (Heap.length_put _ _ _ _) (by simp [World.setCell]) (fun k hk => heap_setCell_other w _ k y hk) rfl rfl rfl, ?_⟩
 cases y <;> simp [Value.oneCell'] at h1 <;> simp [store, Sem.run, k3, k2]
theorem Heap.rwOk_put (H : Heap) (id j : Nat) (x : Value) (i : Nat) : (H.put id j x).rwOk i = H.rwOk i := by
 unfold Heap.rwOk
 rw [Heap.get_put]
 by_cases e : i = id
 ·subst e; cases H[i]? <;> simp
 ·simp [e]
theorem ldC_put (H : Heap) (id j : Nat) (x : Value) {n : Nat} : ∀ {o : Nat}, (ldC H id o n).isSome = true → (ldC (H.put id j x) id o n).isSome = true := by
 induction n with
 | zero => intro o _; rfl
 | succ n ih =>
  intro o h
  simp only [ldC] at h ⊢
  split at h
  ·rename_i v l hv hl
   have h1 : ((H.put id j x).cell id o).isSome = true := by
    rw [Heap.cell_put]; split <;> simp [hv]
   have h2 := ih (o := o + 1) (by rw [hl]; rfl)
   obtain ⟨a, ha⟩ := Option.isSome_iff_exists.1 h1
   obtain ⟨b, hb⟩ := Option.isSome_iff_exists.1 h2
   rw [ha, hb]; rfl
  ·cases h
/-- What an operation with an effect leaves of the world: only blocks of the ids in T, and new ones. -/
structure FrE (φ φ' : Phi) (w w' : World) (T : List Nat) (n : Nat) : Prop where
 low : ∀ id, id < n → φ' id = φ id
 size : w.heap.size ≤ w'.heap.size
 keep : ∀ b, b < w.heap.size → (∀ d, d ∈ T → ∀ M, φ d = some M → M.blk ≠ b) → w'.heap[b]? = w.heap[b]?
 loc : ∀ id M, φ' id = some M → φ id = some M ∨ w.heap.size ≤ M.blk ∨ ∃ d, d ∈ T ∧ ∃ M0, φ d = some M0 ∧ M0.blk = M.blk
theorem storeCells_sound : ∀ {xs ys : List Value} {H : Heap} {w : World} {id o i : Nat} {L : Loc}, Inv P B0 n0 D φ0 w0 φ H w → φ id = some L → wr n0 D id → H.rwOk id = true → (ldC H id (o + i) xs.length).isSome = true →
  VRs φ xs ys → (xs.all (·.oneCell')) = true → ∃ w', (storeCells ⟨L.blk, L.base + o, none⟩ ys i).run P w = .ok () w' ∧ Inv P B0 n0 D φ0 w0 φ (H.puts id (o + i) xs) w' ∧ w'.heap.size = w.heap.size ∧ ∀ b, b ≠ L.blk → w'.heap[b]? = w.heap[b]?
 | [], ys, H, w, id, o, i, L, h, hL, hw, hrw, hl, hxy, h1 => by rw [hxy.inv_nil]; exact ⟨w, rfl, h, rfl, fun _ _ => rfl⟩
 | x :: xs, es, H, w, id, o, i, L, h, hL, hw, hrw, hl, hxy, h1 => by
  obtain ⟨y, ys, rfl, hxy1, hxy2⟩ := hxy.inv
  simp only [List.length_cons, ldC] at hl
  split at hl
  ·rename_i u l hu hl'
   simp only [List.all_cons, Bool.and_eq_true] at h1
   obtain ⟨k1, k2⟩ := h.put hL hw hrw hu hxy1 (by rw [hxy1.one]; exact h1.1)
   obtain ⟨w', k3, k4, k5, k6⟩ := storeCells_sound (i := i + 1) k1 hL hw (by rw [Heap.rwOk_put]; exact hrw) (ldC_put _ _ _ _ (by rw [← Nat.add_assoc, hl']; rfl)) hxy2 h1.2
   refine ⟨w', ?_, by rw [Heap.puts]; exact k4, by rw [k5]; simp [World.setCell], fun b hb => by rw [k6 b hb]; exact heap_setCell_other w _ b y hb⟩
   simp only [storeCells, add_plain', Nat.add_assoc, Sem.run_bind]
   rw [k2]
   simp only [Result.andThen_ok]
   exact k3
  ·cases hl

/-! ### stores -/
def stA (P : Program) (H : Heap) (t : TypeId) (a v : Value) : Option (Nat × Heap) :=
 match a with
 | .pointer (some ⟨id, o, none⟩) => if H.rwOk id = true ∧ szO P t = some (cellsV v).length ∧ (ldC H id o (cellsV v).length).isSome = true ∧ (cellsV v).all (·.oneCell') = true then some (id, H.puts id o (cellsV v)) else none
 | _ => none
theorem stA_sound (h : Inv P B0 n0 D φ0 w0 φ H w) {t : TypeId} {a a' v v' : Value} {id : Nat} {H' : Heap} (ha : VR φ a a') (hv : VR φ v v') (hs : stA P H t a v = some (id, H')) (hw : wr n0 D id) :
  ∃ w', (Instr.storeAt t a' v').run P w = .ok () w' ∧ Inv P B0 n0 D φ0 w0 φ H' w' ∧ FrE φ φ w w' [id] H.length ∧ H.length = H'.length := by
 unfold stA at hs
 split at hs
 ·rename_i id1 o
  split at hs
  ·rename_i hh
   obtain ⟨hrw, hsz, hl, h1⟩ := hh
   cases hs
   cases ha with
   | @ptr _ _ L hL =>
    obtain ⟨w', k1, k2, k3, k4⟩ := storeCells_sound (o := o) (i := 0) h hL hw hrw (by simpa using hl) hv.cells h1
    refine ⟨w', ?_, by simpa using k2, ⟨fun _ _ => rfl, by omega, fun b _ hk => k4 b fun e => hk id (by simp) L hL e.symm, fun i M hM => .inl hM⟩, by rw [Heap.length_puts]⟩
    have hlen : v'.cells.size = (cellsV v).length := by rw [← Array.length_toList, cellsV_eq, ← hv.cells.1]
    simp only [Instr.storeAt, Instr.sureAddr, storeVar, Sem.run_bind, Sem.run_pure, Result.andThen_ok, run_sizeOf' hsz, hlen, ne_eq, not_true_eq_false, if_false, cellsV_eq]
    exact k1
  ·cases hs
 ·cases hs

/-! ### new blocks -/
theorem Inv.new (h : Inv P B0 n0 D φ0 w0 φ H w) {ty : TypeId} {xs ys : List Value} {cap sz : Nat} (hsz : szO P ty = some sz) (hcap : ys.length = cap * sz) (hmax : cap ≤ maxLen) (hv : VRs φ xs ys) :
  Inv P B0 n0 D φ0 w0 (φ.set H.length ⟨w.heap.size, 0, cap, true⟩) (H ++ [⟨ty, xs, true, true⟩]) (w.alloc (.cells ys.toArray ty)) ∧ φ.le (φ.set H.length ⟨w.heap.size, 0, cap, true⟩) := by
 have hold : ∀ b, b < w.heap.size → (w.alloc (.cells ys.toArray ty)).heap[b]? = w.heap[b]? := fun b hb => Below.heap_alloc w _ b hb
 have hnone : φ H.length = none := by
  cases e : φ H.length with
  | none => rfl
  | some L => exact absurd (h.hr.dom _ _ e) (Nat.lt_irrefl _)
 have hB : B0 ≤ w.heap.size := Nat.le_trans h.b0 h.size
 refine ⟨⟨?_, h.b0, h.gl.on fun k hk => hold k (by omega), ?_, h.dom0, ?_, ?_, h.os, h.tape, h.output, ?_, ?_⟩, Phi.le_set _ hnone⟩
 ·refine h.hr.new hB hsz hold (Nat.le_refl _) (heap_alloc_new w _) (by simpa using hcap) hmax (by have := hv.1; simp; omega) fun j x hx => ?_
  have hj : j < ys.length := by rw [← hv.1]; exact (List.getElem?_eq_some_iff.1 hx).1
  exact ⟨ys[j], hv.2 j x _ hx (by simp [hj]), by simp [hj]⟩
 ·have := h.len; simp; omega
 ·intro id hid
  rw [Phi.set_ne _ _ (by have := h.len; omega)]
  exact h.low id hid
 ·intro id L hid hL
  by_cases e : id = H.length
  ·subst e; rw [Phi.set_same] at hL; cases hL; exact ⟨rfl, .inl h.size⟩
  ·rw [Phi.set_ne _ _ e] at hL; exact h.high id L hid hL
 ·have := h.size; simp; omega
 ·intro b hb hk
  rw [hold b (by have := h.size; omega)]
  exact h.keep b hb hk

/-- What a new block of an operation holds: its element type, its cells, and the value that the operation leaves, of the id. -/
structure NewR where
 ty : TypeId
 cells : List Value
 val : Nat → Value
def newA (P : Program) (ρ : Operand → Option Value) : Op → Option NewR
 | .alloc t => match zeroO P t, szO P t with
  | some z, some n => if (cellsV z).length = n ∧ allPlain (cellsV z) = true then some ⟨t, cellsV z, fun id => pt id 0⟩ else none
  | _, _ => none
 | .box t x => match ρ x, szO P t with
  | some v, some n => if (cellsV v).length = n then some ⟨t, cellsV v, fun id => pt id 0⟩ else none
  | _, _ => none
 | .buildSlice t n parts => match elemO P t, evP ρ parts.toList with
  | some e, some l => match szO P e, zeroO P e with
   | some (sz + 1), some z => if (cellsV z).length = sz + 1 ∧ allPlain (cellsV z) = true ∧ n * (sz + 1) ≤ 16777216 then
     (match fillA (fun i => some (i * (sz + 1), sz + 1)) (List.replicate n (cellsV z)).flatten l with
     | some cs => some ⟨e, cs, fun id => sl id 0 n⟩
     | none => none) else none
   | _, _ => none
  | _, _ => none
 | .makeSlice t l c => match ρ l, ρ c, elemO P t with
  | some (.int _ a), some (.int _ b), some e => match szO P e, byO P e, zeroO P e with
   | some (sz + 1), some by', some z => if a = b ∧ 0 ≤ a ∧ (by' : Int) * a ≤ 281474976710656 ∧ a ≤ 9223372036854775807 ∧ (cellsV z).length = sz + 1 ∧ allPlain (cellsV z) = true then
     some ⟨e, (List.replicate a.toNat (cellsV z)).flatten, fun id => sl id 0 a.toNat⟩ else none
   | _, _, _ => none
  | _, _, _ => none
 | _ => none

theorem range_mod (z : Array Value) (hz : 0 < z.size) (n : Nat) : ((Array.range (n * z.size)).map (z[· % z.size]!)).toList = (List.replicate n z.toList).flatten := by
 induction n with
 | zero => simp
 | succ n ih =>
  rw [List.replicate_succ', List.flatten_append, ← ih]
  apply List.ext_getElem?
  intro i
  simp only [Array.toList_map, Array.toList_range, List.flatten_singleton]
  by_cases h1 : i < n * z.size
  ·rw [List.getElem?_append_left (by simpa using h1)]
   have h2 : i < (n + 1) * z.size := by rw [Nat.add_mul]; omega
   simp [h1, h2]
  ·rw [List.getElem?_append_right (by simpa using (Nat.le_of_not_lt h1))]
   simp only [List.length_map, List.length_range]
   by_cases h2 : i < (n + 1) * z.size
   ·have h3 : i - n * z.size < z.size := by rw [Nat.add_mul] at h2; omega
    have h4 : i % z.size = i - n * z.size := by
     have e : i = (i - n * z.size) + n * z.size := by omega
     conv => lhs; rw [e]
     rw [Nat.add_mul_mod_self_right, Nat.mod_eq_of_lt h3]
    simp [h2, h4, h3]
   ·have h3 : ¬ (i - n * z.size < z.size) := by rw [Nat.add_mul] at h2; omega
    simp [h2, h3]
theorem zero_info {t : TypeId} {z : Value} (h : zeroO P t = some z) : ∃ i, P.info? t = some i ∧ i.zero = some z := by
 unfold zeroO at h
 cases hi : P.info? t with
 | none => rw [hi] at h; cases h
 | some i => rw [hi] at h; exact ⟨i, rfl, h⟩
theorem newA_core {ρ : Operand → Option Value} {e : Operand → Value} (hρ : ∀ x v, ρ x = some v → VR φ v (e x)) {o : Oper} {ty : TypeId} {cs : List Value} {f : Nat → Value} (hn : newA P ρ o.op = some ⟨ty, cs, f⟩) (w : World) :
  ∃ (ys : List Value) (cap sz : Nat) (v' : Value), (execOp e o).run P w = .ok (.value v') (w.alloc (.cells ys.toArray ty)) ∧ szO P ty = some sz ∧ ys.length = cap * sz ∧ cap ≤ maxLen ∧ VRs φ cs ys ∧
   ∀ (φ' : Phi) (id : Nat), φ' id = some ⟨w.heap.size, 0, cap, true⟩ → VR φ' (f id) v' := by
 obtain ⟨dst, op, type, pos, after, guard⟩ := o
 simp only at hn
 unfold newA at hn
 split at hn
 ·rename_i t
  split at hn
  ·rename_i z n hz hsz
   split at hn
   ·rename_i hh
    cases hn
    obtain ⟨i, hi, hiz⟩ := zero_info hz
    refine ⟨_, 1, _, _, ?_, hsz, by simpa using hh.1, by simp [maxLen], allPlain_VRs hh.2, fun φ' id hid => .ptr hid⟩
    simp [execOp, Instr.alloc, zeroValue, typeInfo, hi, hiz, newVar, newRow, ← cellsV_eq]
   ·cases hn
  ·cases hn
 ·rename_i t x
  split at hn
  ·rename_i v n hx hsz
   split at hn
   ·rename_i hh
    cases hn
    have hv := (hρ x v hx).cells
    refine ⟨_, 1, _, _, ?_, hsz, by rw [← hv.1]; simpa using hh, by simp [maxLen], hv, fun φ' id hid => .ptr hid⟩
    simp [execOp, Instr.box, newVar, newRow, ← cellsV_eq]
   ·cases hn
  ·cases hn
 ·rename_i t n parts
  split at hn
  ·rename_i el l he hl
   split at hn
   ·rename_i sz z hsz hz
    split at hn
    ·rename_i hh
     obtain ⟨h1, h2, h3⟩ := hh
     split at hn
     ·rename_i cs' hcs
      cases hn
      obtain ⟨i, hi, hiz⟩ := zero_info hz
      have hzs : z.cells.size = sz + 1 := by rw [← Array.length_toList, cellsV_eq]; exact h1
      have hlen0 : ((List.replicate n (cellsV z)).flatten).length = n * (sz + 1) := by simp [h1]
      have hpl : VRs φ (List.replicate n (cellsV z)).flatten (List.replicate n (cellsV z)).flatten := by
       refine allPlain_VRs ?_
       simp only [allPlain, List.all_eq_true] at h2 ⊢
       intro x hx
       obtain ⟨l, hl, hxl⟩ := List.mem_flatten.1 hx
       rw [(List.mem_replicate.1 hl).2] at hxl
       exact h2 x hxl
      have hzc : ((Array.range (n * (sz + 1))).map (z.cells[· % z.cells.size]!)).toList = (List.replicate n (cellsV z)).flatten := by
       have := range_mod z.cells (by omega) n
       rw [hzs, cellsV_eq] at this
       rw [hzs]; exact this
      obtain ⟨ds, k1, k2⟩ := fill_sound (ds := (Array.range (n * (sz + 1))).map (z.cells[· % z.cells.size]!)) (evP_PR hρ hl) (by rw [hzc]; exact hpl) hcs
      have hfl : ∀ {ps : List (Nat × Value)} {a r : List Value} {pl : Nat → Option (Nat × Nat)}, fillA pl a ps = some r → r.length = a.length := by
       intro ps
       induction ps with
       | nil => intro a r pl hf; simp only [fillA, Option.some.injEq] at hf; subst hf; rfl
       | cons p ps ih =>
        intro a r pl hf
        obtain ⟨ix, v⟩ := p
        simp only [fillA] at hf
        split at hf
        ·cases hf
        ·split at hf
         ·rw [ih hf, length_setAll]
         ·cases hf
      have hcl := hfl hcs
      have hdl : ds.toList.length = n * (sz + 1) := by rw [← k2.1, hcl, hlen0]
      refine ⟨ds.toList, n, _, _, ?_, hsz, hdl, (by
       have : n ≤ n * (sz + 1) := Nat.le_mul_of_pos_right _ (by omega)
       simp only [maxLen]; omega), k2, fun φ' id hid => VR.slc (o := 0) (n := n) (c := n) hid (Nat.le_refl _) (fun _ _ => rfl)⟩
      have hm : (parts.map fun (i, x) => (i, e x)).toList = parts.toList.map fun p => (p.1, e p.2) := by simp
      have hnot : ¬ (n * (sz + 1) > 2 ^ 24) := by simp; omega
      have hm' : (parts.toList.map fun (x : Nat × Operand) => (x.1, e x.2)) = parts.toList.map fun p => (p.1, e p.2) := rfl
      by_cases h0 : n * (sz + 1) = 0
      ·have hnil : ((Array.range 0).map (z.cells[· % z.cells.size]!)) = #[] := by rw [show Array.range 0 = #[] from rfl]; simp
       rw [h0, hnil] at k1
       have hr0 : Array.range 0 = #[] := rfl
       simp [execOp, Instr.buildSlice, run_underlying (elem_und he), run_sizeOf' hsz, h0, hr0, k1, newRow]
      ·have hnot' : ¬ (2 ^ 24 < n * (sz + 1)) := hnot
       simp only [execOp, Instr.buildSlice, Sem.run_bind, run_underlying (elem_und he), Result.andThen_ok, run_sizeOf' hsz, hnot, if_false, h0, zeroValue, typeInfo, run_program, hi, hiz, Sem.run_pure, hm, k1, newRow]
       simp
     ·cases hn
    ·cases hn
   ·cases hn
  ·cases hn
 ·rename_i t l c
  split at hn
  ·rename_i kl a kc b el hl hc he
   split at hn
   ·rename_i sz by' z hsz hby hz
    split at hn
    ·rename_i hh
     obtain ⟨rfl, h0, hb, hm, h1, h2⟩ := hh
     cases hn
     obtain ⟨i, hi, hiz⟩ := zero_info hz
     obtain ⟨i2, hi2, his⟩ := sz_info hsz
     rw [hi] at hi2; cases hi2
     have hbytes : i.bytes = by' := by
      unfold byO at hby; rw [hi] at hby; simpa using hby
     have hzs : z.cells.size = sz + 1 := by rw [← Array.length_toList, cellsV_eq]; exact h1
     have v1 := hρ l _ hl
     have v2 := hρ c _ hc
     generalize hel : e l = el1 at v1
     generalize hec : e c = ec1 at v2
     cases v1; cases v2
     have hr := run_make (P := P) w t ty i z (elem_und he) hi hiz kl kc a a h0 (Int.le_refl _) (by rw [hbytes]; exact hb) hm
     have hzc : (madeCells z.cells (a.toNat * i.size)).toList = (List.replicate a.toNat (cellsV z)).flatten := by
      unfold madeCells
      have := range_mod z.cells (by omega) a.toNat
      rw [hzs, cellsV_eq] at this
      rw [his, hzs]; exact this
     have hpl : VRs φ (List.replicate a.toNat (cellsV z)).flatten (List.replicate a.toNat (cellsV z)).flatten := by
      refine allPlain_VRs ?_
      simp only [allPlain, List.all_eq_true] at h2 ⊢
      intro x hx
      obtain ⟨l, hl, hxl⟩ := List.mem_flatten.1 hx
      rw [(List.mem_replicate.1 hl).2] at hxl
      exact h2 x hxl
     refine ⟨_, a.toNat, _, _, ?_, hsz, (by simp [h1]), (by simp only [maxLen]; omega), hpl, fun φ' id hid => VR.slc (o := 0) (n := a.toNat) (c := a.toNat) hid (Nat.le_refl _) (fun _ _ => rfl)⟩
     simp only [execOp, hel, hec, Sem.run_bind, hr, Result.andThen_ok, Sem.run_pure]
     rw [← hzc]
    ·cases hn
   ·cases hn
  ·cases hn
 ·cases hn

theorem newA_sound (h : Inv P B0 n0 D φ0 w0 φ H w) {ρ : Operand → Option Value} {e : Operand → Value} (hρ : ∀ x v, ρ x = some v → VR φ v (e x)) {o : Oper} {ty : TypeId} {cs : List Value} {f : Nat → Value} (hn : newA P ρ o.op = some ⟨ty, cs, f⟩) :
  ∃ φ' v' w', (execOp e o).run P w = .ok (.value v') w' ∧ VR φ' (f H.length) v' ∧ Inv P B0 n0 D φ0 w0 φ' (H ++ [⟨ty, cs, true, true⟩]) w' ∧ φ.le φ' := by
 obtain ⟨ys, cap, sz, v', h1, h2, h3, h4, h5, h6⟩ := newA_core hρ hn w
 obtain ⟨k1, k2⟩ := h.new h2 h3 h4 h5
 exact ⟨_, v', _, h1, h6 _ _ (Phi.set_same _ _ _), k1, k2⟩

end
/-- An id more, for a block of the world that no live id of one's own names. -/
theorem HR.add {P : Program} {B0 : Nat} {φ : Phi} {H : Heap} {w : World} (h : HR P B0 φ H w)
  {ty : TypeId} {xs : List Value} {cur : Array Value} {cap sz g : Nat} (hsz : szO P ty = some sz) (hB : B0 ≤ g) (hnew : w.heap[g]? = some (.cells cur ty (0, 0)))
  (hfree : ∀ i M, φ i = some M → M.rw = true → H.hot i = true → M.blk ≠ g)
  (hcap : cur.size = cap * sz) (hmax : cap ≤ maxLen) (hlen : xs.length ≤ cur.size) (hv : ∀ (j : Nat) (x : Value), xs[j]? = some x → ∃ y, VR φ x y ∧ cur[j]? = some y) :
  HR P B0 (φ.set H.length ⟨g, 0, cap, true⟩) (H ++ [⟨ty, xs, true, true⟩]) w := by
 have hnone : φ H.length = none := by
  cases e : φ H.length with
  | none => rfl
  | some L => exact absurd (h.dom _ _ e) (Nat.lt_irrefl _)
 have hle := Phi.le_set (L := ⟨g, 0, cap, true⟩) hnone
 have hlast : (H ++ [(⟨ty, xs, true, true⟩ : Blk)])[H.length]? = some ⟨ty, xs, true, true⟩ := by simp
 have hprev : ∀ id, id < H.length → (H ++ [(⟨ty, xs, true, true⟩ : Blk)])[id]? = H[id]? := fun id hi => by rw [List.getElem?_append_left hi]
 refine ⟨?_, ?_, ?_, ?_, ?_, ?_, ?_, ?_⟩
 ·intro id L hL
  by_cases e : id = H.length
  ·subst e; simp
  ·rw [Phi.set_ne _ _ e] at hL; have := h.dom _ _ hL; simp; omega
 ·intro id L hL hr
  by_cases e : id = H.length
  ·subst e; rw [Phi.set_same] at hL; cases hL; cases hr
  ·rw [Phi.set_ne _ _ e] at hL; exact h.ro _ _ hL hr
 ·intro id L hL
  by_cases e : id = H.length
  ·subst e; rw [Phi.set_same] at hL; cases hL; exact (Array.getElem?_eq_some_iff.1 hnew).1
  ·rw [Phi.set_ne _ _ e] at hL; exact h.lt _ _ hL
 ·intro id L j x hL hx
  by_cases e : id = H.length
  ·subst e
   rw [Phi.set_same] at hL; cases hL
   simp only [Heap.cell, hlast, if_true] at hx
   obtain ⟨y, hy, hc⟩ := hv j x hx
   refine ⟨y, hy.mono hle, ?_⟩
   rw [cell_of_row _ _ _ _ _ _ hnew]; simpa using hc
  ·rw [Phi.set_ne _ _ e] at hL
   have hlt := h.dom _ _ hL
   simp only [Heap.cell, hprev id hlt] at hx
   obtain ⟨y, hy, hc⟩ := h.cell id L j x hL hx
   exact ⟨y, hy.mono hle, hc⟩
 ·intro id L b hL hr hb hl
  by_cases e : id = H.length
  ·subst e
   rw [Phi.set_same] at hL; cases hL
   rw [hlast] at hb; cases hb
   exact ⟨rfl, hB, cur, sz, hsz, hnew, hcap, hlen, hmax⟩
  ·rw [Phi.set_ne _ _ e] at hL
   rw [hprev id (h.dom _ _ hL)] at hb
   exact h.row id L b hL hr hb hl
 ·intro id L b hL hb hr
  by_cases e : id = H.length
  ·subst e; rw [Phi.set_same] at hL; cases hL; rfl
  ·rw [Phi.set_ne _ _ e] at hL
   rw [hprev id (h.dom _ _ hL)] at hb
   exact h.flag id L b hL hb hr
 ·intro id id' L L' hL hL' hr hr' hbe hl hl'
  have old : ∀ i M, i ≠ H.length → φ.set H.length ⟨g, 0, cap, true⟩ i = some M → Heap.hot (H ++ [⟨ty, xs, true, true⟩]) i = true → φ i = some M ∧ Heap.hot H i = true := fun i M hi hM hli => by
   rw [Phi.set_ne _ _ hi] at hM
   have hlt := h.dom _ _ hM
   exact ⟨hM, by simpa [Heap.hot, hprev i hlt] using hli⟩
  by_cases e : id = H.length
  ·by_cases e' : id' = H.length
   ·omega
   ·subst e
    rw [Phi.set_same] at hL; cases hL
    obtain ⟨a1, a2⟩ := old id' L' e' hL' hl'
    exact absurd hbe.symm (hfree id' L' a1 hr' a2)
  ·by_cases e' : id' = H.length
   ·subst e'
    rw [Phi.set_same] at hL'; cases hL'
    obtain ⟨a1, a2⟩ := old id L e hL hl
    exact absurd hbe (hfree id L a1 hr a2)
   ·obtain ⟨a1, a2⟩ := old id L e hL hl
    obtain ⟨b1, b2⟩ := old id' L' e' hL' hl'
    exact h.inj id id' L L' a1 b1 hr hr' hbe a2 b2
 ·intro id L b hL hb hl hr
  by_cases e : id = H.length
  ·subst e; rw [hlast] at hb; cases hb; cases hl
  ·rw [Phi.set_ne _ _ e] at hL
   rw [hprev id (h.dom _ _ hL)] at hb
   exact h.mp id L b hL hb hl hr

def killO (H : Heap) : Option Nat → Heap
 | none => H
 | some id => H.kill id
theorem length_killO (H : Heap) (k : Option Nat) : (killO H k).length = H.length := by cases k <;> simp [killO, Heap.length_kill]
/-- Onto what is appended: whose block, how many elements, their cells. -/
def destA (H : Heap) (e : TypeId) (sz : Nat) : Value → Option (Option Nat × Nat × List Value)
 | .slice none 0 0 => some (none, 0, [])
 | .slice (some ⟨id, 0, none⟩) n 0 => match H[id]? with
  | some b => if b.live = true ∧ b.rw = true ∧ b.ty = e ∧ b.cells.length = n * sz then some (some id, n, b.cells) else none
  | none => none
 | _ => none
def srcA (H : Heap) (sz : Nat) : Value → Option (Nat × List Value)
 | .slice none 0 0 => some (0, [])
 | .slice (some ⟨id, o, none⟩) m 0 => match ldC H id o (m * sz) with
  | some l => some (m, l)
  | none => none
 | .slice (some ⟨_, _, some _⟩) 0 0 => some (0, [])
 | _ => none
/-- append(s, x...): which id goes, the value, the heap. -/
def apA0 (P : Program) (H : Heap) (ts : List TypeId) (s x : Value) : Option (Option Nat × Value × Heap) :=
 match ts with
 | [t, t'] => match elemO P t with
  | some e => match szO P e, byO P e, zeroO P e with
   | some (sz + 1), some by', some z => match destA H e (sz + 1) s, srcA H (sz + 1) x with
    | some (k, n, old), some (m, news) =>
     if t' = t ∧ (cellsV z).length = sz + 1 ∧ (n + m) * by' ≤ 140737488355328 ∧ n + m ≤ maxLen ∧ news.all (·.oneCell') = true then
      (if k = none ∧ m = 0 then some (none, nl, H) else some (k, sl H.length 0 (n + m), killO H k ++ [⟨e, old ++ news, true, true⟩]))
     else none
    | _, _ => none
   | _, _, _ => none
  | none => none
 | _ => none

section
variable {P : Program} {B0 n0 : Nat} {D : List Nat} {φ0 φ : Phi} {w0 w : World} {H : Heap}

/-- What append leaves: in place, or in the world's next block. -/
theorem Inv.appended (h : Inv P B0 n0 D φ0 w0 φ H w) {k : Option Nat} {L : Loc} (hk : ∀ id, k = some id → wr n0 D id ∧ φ id = some L ∧ H.live id = true ∧ L.rw = true ∧ B0 ≤ L.blk)
  {e : TypeId} {sz n : Nat} {xs ys : List Value} {v' : Value} {w' : World} (hsz : szO P e = some sz) (hxy : VRs φ xs ys) (hown : w'.ownsRow 0 e sz v' n ys) (hnil : v' ≠ nl)
  (hg : w.grownBy w' (k.map fun _ => L.blk)) (hat : v'.ownBlock = (k.map fun _ => L.blk) ∨ v'.ownBlock = some w.heap.size) :
  ∃ φ', VR φ' (sl H.length 0 n) v' ∧ Inv P B0 n0 D φ0 w0 φ' (killO H k ++ [⟨e, xs, true, true⟩]) w' ∧ φ.le φ' ∧ FrE φ φ' w w' k.toList H.length := by
 rcases hown.2 with ⟨rfl, _⟩ | ⟨g, cap, cur, rfl, _, hcur, hnc, hcm, hcs, htake⟩
 ·exact absurd rfl hnil
 have hB : B0 ≤ w.heap.size := Nat.le_trans h.b0 h.size
 have hgc : (∃ id, k = some id ∧ g = L.blk) ∨ g = w.heap.size := by
  rcases hat with e1 | e1
  ·cases k with
   | none => simp [Value.ownBlock] at e1
   | some id => simp [Value.ownBlock] at e1; exact .inl ⟨id, rfl, e1⟩
  ·simp [Value.ownBlock] at e1; exact .inr e1
 have hBg : B0 ≤ g := by
  rcases hgc with ⟨id, hk1, rfl⟩ | rfl
  ·exact (hk id hk1).2.2.2.2
  ·exact hB
 have h1 : HR P B0 φ (killO H k) w := by
  cases k with
  | none => exact h.hr
  | some id => exact h.hr.kill id
 have hlive : ∀ i, (killO H k).hot i = true → H.hot i = true ∧ k ≠ some i := by
  intro i hi
  cases k with
  | none => exact ⟨hi, by simp⟩
  | some id =>
   simp only [killO, Heap.hot_kill] at hi
   split at hi
   ·cases hi
   ·rename_i hne; exact ⟨hi, fun e => hne (by cases e; rfl)⟩
 have hne : ∀ id, k = some id → ∀ i M, φ i = some M → (killO H k).hot i = true → M.blk ≠ L.blk := by
  intro id hkid i M hM hi e1
  obtain ⟨k1, k2, k3, k4, k5⟩ := hk id hkid
  obtain ⟨l1, l2⟩ := hlive i hi
  by_cases hr : M.rw = true
  ·have := h.hr.inj i id M L hM k2 hr k4 e1 l1 (Heap.hot_of_live k3)
   subst this; exact l2 hkid
  ·have := h.hr.ro i M hM (by simpa using hr)
   omega
 have h2 : HR P B0 φ (killO H k) w' := h1.keep hg.size fun i M hM hi hlt => hg.block M.blk hlt (by
  cases hkk : k with
  | none => simp
  | some id => simp; exact hne id hkk i M hM hi)
 have hadd := h2.add (xs := xs) hsz hBg hcur (by
  intro i M hM hr hi e1
  rcases hgc with ⟨id, hk1, rfl⟩ | rfl
  ·exact hne id hk1 i M hM hi e1
  ·have := h.hr.lt i M hM
   omega) hcs hcm (by
   have e1 := congrArg List.length htake
   have e2 := hown.1
   rw [List.length_take] at e1
   have e3 := hxy.1
   simp only [Array.length_toList] at e1
   have : n * sz ≤ cap * sz := Nat.mul_le_mul_right _ hnc
   omega) (by
   intro j x hx
   have hj : j < ys.length := by rw [← hxy.1]; exact (List.getElem?_eq_some_iff.1 hx).1
   refine ⟨ys[j], hxy.2 j x _ hx (by simp [hj]), ?_⟩
   have e1 : (cur.toList.take (n * sz))[j]? = some ys[j] := by rw [htake]; simp [hj]
   rw [List.getElem?_take] at e1
   split at e1
   ·simpa using e1
   ·cases e1)
 have hnone : φ H.length = none := by
  cases e : φ H.length with
  | none => rfl
  | some L => exact absurd (h.hr.dom _ _ e) (Nat.lt_irrefl _)
 rw [length_killO] at hadd
 have hVR : VR (φ.set H.length ⟨g, 0, cap, true⟩) (sl H.length 0 n) (.slice (some ⟨g, 0, none⟩) n cap) := by
  have := VR.slc (o := 0) (n := n) (c := cap) (Phi.set_same φ H.length ⟨g, 0, cap, true⟩) hnc (fun _ _ => rfl)
  simpa using this
 refine ⟨φ.set H.length ⟨g, 0, cap, true⟩, hVR, ⟨hadd, h.b0, h.gl.on (fun q hq => hg.block q (by omega) (by
  cases hkk : k with
  | none => simp
  | some id => have := (hk id hkk).2.2.2.2; simp; omega)), ?_, h.dom0, ?_, ?_, hg.os.trans h.os, hg.tape.trans h.tape, hg.output.trans h.output, Nat.le_trans h.size hg.size, ?_⟩, Phi.le_set _ hnone, ⟨fun id hid => Phi.set_ne _ _ (by omega), hg.size, ?_, ?_⟩⟩
 ·have := h.len; simp [length_killO]; omega
 ·intro id hid
  rw [Phi.set_ne _ _ (by have := h.len; omega)]
  exact h.low id hid
 ·intro id M hid hM
  by_cases e1 : id = H.length
  ·subst e1
   rw [Phi.set_same] at hM; cases hM
   refine ⟨rfl, ?_⟩
   rcases hgc with ⟨id, hk1, rfl⟩ | rfl
   ·obtain ⟨k1, k2, k3, k4, k5⟩ := hk id hk1
    by_cases hn : n0 ≤ id
    ·exact (h.high id L hn k2).2
    ·have hD : id ∈ D := k1.resolve_left hn
     have := h.low id (by omega)
     rw [k2] at this
     exact .inr ⟨id, hD, L, this.symm, k4, rfl⟩
   ·exact .inl h.size
  ·rw [Phi.set_ne _ _ e1] at hM
   exact h.high id M hid hM
 ·intro b hb hkb
  rw [hg.block b (by have := h.size; omega) (by
   cases hkk : k with
   | none => simp
   | some id =>
    obtain ⟨k1, k2, k3, k4, k5⟩ := hk id hkk
    simp
    exact h.wr_ne k1 k2 k4 hb hkb)]
  exact h.keep b hb hkb
 ·intro b hb hkb
  refine hg.block b hb ?_
  cases hkk : k with
  | none => simp
  | some id =>
   simp
   exact fun e1 => hkb id (by simp [hkk]) L (hk id hkk).2.1 e1.symm
 ·intro id M hM
  by_cases e1 : id = H.length
  ·subst e1
   rw [Phi.set_same] at hM; cases hM
   rcases hgc with ⟨id, hk1, rfl⟩ | rfl
   ·exact .inr (.inr ⟨id, by simp [hk1], L, (hk id hk1).2.1, rfl⟩)
   ·exact .inr (.inl (Nat.le_refl _))
  ·rw [Phi.set_ne _ _ e1] at hM
   exact .inl hM

theorem destA_sound (h : Inv P B0 n0 D φ0 w0 φ H w) {e : TypeId} {sz n : Nat} {s s' : Value} {k1 : Option Nat} {old : List Value} (hs : VR φ s s') (hsz : szO P e = some (sz + 1)) (hd : destA H e (sz + 1) s = some (k1, n, old)) :
  ∃ L old', (∀ id, k1 = some id → φ id = some L ∧ H.live id = true ∧ L.rw = true ∧ B0 ≤ L.blk) ∧ VRs φ old old' ∧ w.ownsRow 0 e (sz + 1) s' n old' ∧ s'.ownBlock = (k1.map fun _ => L.blk) ∧ (s' = nl ↔ k1 = none) := by
 unfold destA at hd
 split at hd
 ·cases hd
  cases hs
  exact ⟨⟨0, 0, 0, true⟩, [], (fun id hid => by cases hid), .nil _, World.ownsRow_nil w 0 e (sz + 1), rfl, by simp⟩
 ·rename_i id n1
  split at hd
  ·rename_i b hb
   split at hd
   ·rename_i hc
    obtain ⟨c1, c2, c3, c4⟩ := hc
    cases hd
    have fin : ∀ (L : Loc) (c : Nat), φ id = some L → n ≤ c → (L.rw = true → (0 : Nat) = 0 → c = L.cap) → ∃ L' old', (∀ id', some id = some id' → φ id' = some L' ∧ H.live id' = true ∧ L'.rw = true ∧ B0 ≤ L'.blk) ∧ VRs φ b.cells old' ∧
      w.ownsRow 0 e (sz + 1) (.slice (some ⟨L.blk, L.base + 0, none⟩) n c) n old' ∧ Value.ownBlock (.slice (some ⟨L.blk, L.base + 0, none⟩) n c) = ((some id).map fun _ => L'.blk) ∧
      (Value.slice (some ⟨L.blk, L.base + 0, none⟩) n c = nl ↔ some id = none) := by
     intro L c hL hn hc
     have hLr := h.hr.flag id L b hL hb c2
     obtain ⟨r1, r2, cur, sz', r3, r4, r5, r6, r7⟩ := h.hr.row id L b hL hLr hb c1
     rw [c3] at r3 r4
     rw [hsz] at r3; cases r3
     have hcc := hc hLr rfl
     refine ⟨L, cur.toList.take (n * (sz + 1)), (fun id' hid => by cases hid; exact ⟨hL, by simp [Heap.live, hb, c1], hLr, r2⟩), ?_, ?_, rfl, by simp⟩
     ·refine ⟨by simp; omega, fun j x y hxj hyj => ?_⟩
      obtain ⟨y1, q1, q2⟩ := h.hr.cell id L j x hL (by simp [Heap.cell, hb, c1, hxj])
      rw [r1, Nat.zero_add] at q2
      rw [cell_of_row _ _ _ _ _ _ r4] at q2
      rw [List.getElem?_take] at hyj
      split at hyj
      ·simp only [Array.getElem?_toList] at hyj
       rw [q2] at hyj; cases hyj; exact q1
      ·cases hyj
     ·refine ⟨by simp; omega, .inr ⟨L.blk, c, cur, by rw [r1], Nat.zero_le _, r4, hn, by omega, by rw [hcc]; exact r5, rfl⟩⟩
    cases hs with
    | slc hL hn hc => exact fin _ _ hL hn hc
    | sl0 hL ho => exact absurd rfl ho
   ·cases hd
  ·cases hd
 ·cases hd
theorem apA0_sound (h : Inv P B0 n0 D φ0 w0 φ H w) {ts : Array TypeId} {ty : TypeId} {s x s' x' v : Value} {k : Option Nat} {H' : Heap} (hs : VR φ s s') (hx : VR φ x x') (ha : apA0 P H ts.toList s x = some (k, v, H'))
  (hw : ∀ id, k = some id → wr n0 D id) :
  ∃ φ' v' w', (Builtin.append_ ts ty #[s', x']).run P w = .ok v' w' ∧ VR φ' v v' ∧ Inv P B0 n0 D φ0 w0 φ' H' w' ∧ φ.le φ' ∧ FrE φ φ' w w' k.toList H.length ∧ H.length ≤ H'.length := by
 unfold apA0 at ha
 split at ha
 ·rename_i t t' hts
  split at ha
  ·rename_i e he
   split at ha
   ·rename_i sz by' z hsz hby hz
    split at ha
    ·rename_i k1 n old m news hd hsrc
     split at ha
     ·rename_i hh
      obtain ⟨rfl, hzl, hbytes, hmax, hone⟩ := hh
      obtain rfl : ts = #[t', t'] := by rw [← Array.toList_inj]; simpa using hts
      obtain ⟨i, hi, hiz⟩ := zero_info hz
      obtain ⟨i2, hi2, his⟩ := sz_info hsz
      rw [hi] at hi2; cases hi2
      have hib : i.bytes = by' := by unfold byO at hby; rw [hi] at hby; simpa using hby
      have hzs : z.cells.size = sz + 1 := by rw [← Array.length_toList, cellsV_eq]; exact hzl
      -- onto what
      have hdest : ∃ L old', (∀ id, k1 = some id → φ id = some L ∧ H.live id = true ∧ L.rw = true ∧ B0 ≤ L.blk) ∧ VRs φ old old' ∧ w.ownsRow 0 e (sz + 1) s' n old' ∧ s'.ownBlock = (k1.map fun _ => L.blk) ∧ (s' = nl ↔ k1 = none) := by
       unfold destA at hd
       split at hd
       ·cases hd
        cases hs
        exact ⟨⟨0, 0, 0, true⟩, [], (fun id hid => by cases hid), .nil _, World.ownsRow_nil w 0 e (sz + 1), rfl, by simp⟩
       ·rename_i id n1
        split at hd
        ·rename_i b hb
         split at hd
         ·rename_i hc
          obtain ⟨c1, c2, c3, c4⟩ := hc
          cases hd
          have fin : ∀ (L : Loc) (c : Nat), φ id = some L → n ≤ c → (L.rw = true → (0 : Nat) = 0 → c = L.cap) → ∃ L' old', (∀ id', some id = some id' → φ id' = some L' ∧ H.live id' = true ∧ L'.rw = true ∧ B0 ≤ L'.blk) ∧ VRs φ b.cells old' ∧
            w.ownsRow 0 e (sz + 1) (.slice (some ⟨L.blk, L.base + 0, none⟩) n c) n old' ∧ Value.ownBlock (.slice (some ⟨L.blk, L.base + 0, none⟩) n c) = ((some id).map fun _ => L'.blk) ∧
            (Value.slice (some ⟨L.blk, L.base + 0, none⟩) n c = nl ↔ some id = none) := by
           intro L c hL hn hc
           have hLr := h.hr.flag id L b hL hb c2
           obtain ⟨r1, r2, cur, sz', r3, r4, r5, r6, r7⟩ := h.hr.row id L b hL hLr hb c1
           rw [c3] at r3 r4
           rw [hsz] at r3; cases r3
           have hcc := hc hLr rfl
           refine ⟨L, cur.toList.take (n * (sz + 1)), (fun id' hid => by cases hid; exact ⟨hL, by simp [Heap.live, hb, c1], hLr, r2⟩), ?_, ?_, rfl, by simp⟩
           ·refine ⟨by simp; omega, fun j x y hxj hyj => ?_⟩
            obtain ⟨y1, q1, q2⟩ := h.hr.cell id L j x hL (by simp [Heap.cell, hb, c1, hxj])
            rw [r1, Nat.zero_add] at q2
            rw [cell_of_row _ _ _ _ _ _ r4] at q2
            rw [List.getElem?_take] at hyj
            split at hyj
            ·simp only [Array.getElem?_toList] at hyj
             rw [q2] at hyj; cases hyj; exact q1
            ·cases hyj
           ·refine ⟨by simp; omega, .inr ⟨L.blk, c, cur, by rw [r1], Nat.zero_le _, r4, hn, by omega, by rw [hcc]; exact r5, rfl⟩⟩
          cases hs with
          | slc hL hn hc => exact fin _ _ hL hn hc
          | sl0 hL ho => exact absurd rfl ho
         ·cases hd
        ·cases hd
       ·cases hd
      obtain ⟨L, old', d1, d2, d3, d4, d5⟩ := hdest
      have hk1 : (k1 = none ∧ m = 0) ∨ k = k1 := by
       split at ha
       ·rename_i hz; exact .inl hz
       ·cases ha; exact .inr rfl
      -- what is appended
      have hsource : (x' = nl ∧ m = 0 ∧ news = []) ∨ ∃ a c news', x' = .slice (some a) m c ∧ VRs φ news news' ∧ news.length = m * (sz + 1) ∧ ∀ (j : Nat) (u : Value), news'[j]? = some u → w.cell? (a.add j) = some u := by
       unfold srcA at hsrc
       split at hsrc
       ·cases hsrc; cases hx; exact .inl ⟨rfl, rfl, rfl⟩
       ·rename_i id o m1
        split at hsrc
        ·rename_i l hl
         cases hsrc
         cases hx with
         | @slc _ _ _ c M hL hn hc =>
          obtain ⟨l', q1, q2, q3⟩ := ldC_sound h.hr hL hl
          exact .inr ⟨_, c, l', rfl, q1, q2, fun j u hu => by rw [add_plain', Nat.add_assoc]; exact q3 j u hu⟩
         | @sl0 _ _ a M hL ho =>
          rw [Nat.zero_mul] at hl
          cases hl
          exact .inr ⟨a, 0, [], rfl, .nil _, by simp, fun j u hu => by simp at hu⟩
        ·cases hsrc
       ·cases hsrc
        cases hx with
        | emp a c => exact .inr ⟨a, c, [], rfl, .nil _, by simp, fun j u hu => by simp at hu⟩
       ·cases hsrc
      have hbig : ∃ v' w', (Builtin.append_ #[t', t'] ty #[s', x']).run P w = .ok v' w' ∧ (∃ news', VRs φ news news' ∧ w'.ownsRow 0 e (sz + 1) v' (n + m) (old' ++ news')) ∧ w.grownBy w' s'.ownBlock ∧ (v' = nl ↔ s' = nl ∧ m = 0) ∧ (v'.ownBlock = s'.ownBlock ∨ v'.ownBlock = some w.heap.size) ∧ (k1 = none ∧ m = 0 → v' = nl ∧ w' = w) := by
       rcases hsource with ⟨rfl, rfl, rfl⟩ | ⟨a, c, news', rfl, q1, q2, q3⟩
       ·refine ⟨s', w, run_append_owned_none w 0 t' ty e i (sz + 1) (elem_und he) hi s' n old' d3, ⟨[], .nil _, by simpa using d3⟩, ⟨rfl, rfl, rfl, Nat.le_refl _, fun _ _ _ => rfl⟩, by simp, .inl rfl, fun hh => ⟨d5.2 hh.1, rfl⟩⟩
       ·have hone' : ∀ u ∈ news', u.oneCell' = true := by
         intro u hu
         obtain ⟨j, hj, rfl⟩ := List.mem_iff_getElem.1 hu
         have hj' : j < news.length := by rw [q1.1]; exact hj
         have := q1.2 j news[j] news'[j] (by simp [hj']) (by simp [hj])
         rw [this.one]
         simp only [List.all_eq_true] at hone
         exact hone _ (List.getElem_mem hj')
        by_cases hz0 : k1 = none ∧ m = 0
        ·have hsn := d5.2 hz0.1
         obtain ⟨_, rfl⟩ := hz0
         have hn0 : news' = [] := List.eq_nil_of_length_eq_zero (by rw [← q1.1]; simpa using q2)
         have hnn : n = 0 ∧ old' = [] := by
          rw [hsn] at d3
          rcases d3.2 with ⟨_, hn⟩ | ⟨g, cap, cur, he1, _⟩
          ·exact ⟨hn, List.eq_nil_of_length_eq_zero (by have := d3.1; rw [hn] at this; simpa using this)⟩
          ·simp at he1
         refine ⟨nl, w, ?_, ⟨[], ?_, ?_⟩, ⟨rfl, rfl, rfl, Nat.le_refl _, fun _ _ _ => rfl⟩, by simp [hsn], .inl (by rw [hsn]), fun _ => ⟨rfl, rfl⟩⟩
         ·rw [hsn]
          simp [Builtin.append_, run_underlying (elem_und he), sizeOf, typeInfo, hi, Builtin.lenOf, Builtin.firstCells, loadCells, loadCellsFrom]
         ·have : news = [] := List.eq_nil_of_length_eq_zero (by simpa using q2)
          rw [this]; exact .nil _
         ·rw [hnn.1, hnn.2]; exact World.ownsRow_nil w 0 e (sz + 1)
        ·obtain ⟨v', w', r1, r2, r3, r4, r5⟩ := run_append_own_at (P := P) w 0 t' ty e i z (sz + 1) by' (elem_und he) hi hiz his hib hzs (by omega) s' n old' d3 a m c news' (by rw [← q1.1]; exact q2) q3 hone' hmax hbytes (Nat.zero_le _)
         exact ⟨v', w', r1, ⟨news', q1, r2⟩, r3, r4, r5, fun hh => absurd hh hz0⟩
      obtain ⟨v', w', r1, ⟨news', r2, r3⟩, r4, r5, r6, r7⟩ := hbig
      split at ha
      ·rename_i hz0
       cases ha
       obtain ⟨rfl, rfl⟩ := r7 hz0
       exact ⟨φ, _, _, r1, .nils, h, Phi.le_refl _, ⟨fun _ _ => rfl, Nat.le_refl _, fun _ _ _ => rfl, fun id M hM => .inl hM⟩, Nat.le_refl _⟩
      ·rename_i hz0
       cases ha
       rw [d4] at r4 r6
       obtain ⟨φ', p1, p2, p3, p4⟩ := h.appended (k := k) (L := L) (fun id hid => ⟨hw id hid, d1 id hid⟩) hsz (d2.append r2) r3 (fun e1 => hz0 ⟨d5.1 (r5.1 e1).1, (r5.1 e1).2⟩) r4 r6
       exact ⟨φ', v', w', r1, p1, p2, p3, p4, by simp [length_killO]⟩
     ·cases ha
    ·cases ha
   ·cases ha
  ·cases ha
 ·cases ha

end
/-! ### append(s, x...), x a string -/
def apS (P : Program) (H : Heap) (ts : List TypeId) (s x : Value) : Option (Option Nat × Value × Heap) :=
 match ts, x with
 | [t, t'], .string b => match elemO P t with
  | some e => match strO P t', szO P e, byO P e, zeroO P e with
   | true, some 1, some 1, some (.int .u8 0) => match destA H e 1 s with
    | some (k, n, old) => if n + b.size ≤ 140737488355328 then (if k = none ∧ b.size = 0 then some (none, nl, H) else some (k, sl H.length 0 (n + b.size), killO H k ++ [⟨e, old ++ Lib.strCells b, true, true⟩])) else none
    | none => none
   | _, _, _, _ => none
  | none => none
 | _, _ => none
def apA (P : Program) (H : Heap) (ts : List TypeId) (s x : Value) : Option (Option Nat × Value × Heap) := (apA0 P H ts s x).or (apS P H ts s x)
theorem apA_of0 {P : Program} {H : Heap} {ts : List TypeId} {s x : Value} {r : Option Nat × Value × Heap} (h : apA0 P H ts s x = some r) : apA P H ts s x = some r := by rw [apA, h]; rfl
theorem strCells_VRs (φ : Phi) (b : ByteArray) : VRs φ (Lib.strCells b) (Lib.strCells b) := ⟨rfl, fun i x y hx hy => by
 rw [hx] at hy; cases hy
 have := List.mem_of_getElem? hx
 simp only [Lib.strCells, List.mem_map] at this
 obtain ⟨c, _, rfl⟩ := this
 exact .int _ _⟩
section
variable {P : Program} {B0 n0 : Nat} {D : List Nat} {φ0 φ : Phi} {w0 w : World} {H : Heap}
theorem apS_sound (h : Inv P B0 n0 D φ0 w0 φ H w) {ts : Array TypeId} {ty : TypeId} {s x s' x' v : Value} {k : Option Nat} {H' : Heap} (hs : VR φ s s') (hx : VR φ x x') (ha : apS P H ts.toList s x = some (k, v, H'))
  (hw : ∀ id, k = some id → wr n0 D id) :
  ∃ φ' v' w', (Builtin.append_ ts ty #[s', x']).run P w = .ok v' w' ∧ VR φ' v v' ∧ Inv P B0 n0 D φ0 w0 φ' H' w' ∧ φ.le φ' ∧ FrE φ φ' w w' k.toList H.length ∧ H.length ≤ H'.length := by
 unfold apS at ha
 split at ha
 ·rename_i t t' b hts
  split at ha
  ·rename_i e he
   split at ha
   ·rename_i hu hsz hby hz
    have hu' := str_und hu
    split at ha
    ·rename_i k1 n old hd
     split at ha
     ·rename_i hbytes
      obtain rfl : ts = #[t, t'] := by rw [← Array.toList_inj]; simpa using hts
      obtain ⟨i, hi, hiz⟩ := zero_info hz
      obtain ⟨i2, hi2, his⟩ := sz_info hsz
      rw [hi] at hi2; cases hi2
      have hib : i.bytes = 1 := by unfold byO at hby; rw [hi] at hby; simpa using hby
      cases hx
      obtain ⟨L, old', d1, d2, d3, d4, d5⟩ := destA_sound h hs hsz hd
      have hmx : n + b.size ≤ maxLen := by unfold maxLen; omega
      obtain ⟨v', w', r1, r2, r3, r4⟩ := Lib.run_append_own_string (P := P) w 0 t t' ty e i (elem_und he) hu' hi hiz his hib s' n old' d3 b hmx hbytes (Nat.zero_le _)
      have hat : v'.ownBlock = s'.ownBlock ∨ v'.ownBlock = some w.heap.size := by
       rcases d3.2 with ⟨rfl, hn0⟩ | ⟨g, cap, cur, rfl, hbg, hg, hnc, hcm, hcs, htake⟩
       ·by_cases hm : b.size = 0
        ·rw [r4.2 ⟨rfl, hm⟩]; exact .inl rfl
        ·have hr := run_append_nil_string (P := P) w t t' ty e i (.int .u8 0) (elem_und he) hu' hi hiz b (by omega) (by omega) (by rw [hib]; omega)
         rw [hr] at r1
         cases r1
         exact .inr rfl
       ·by_cases hroom : n + b.size ≤ cap
        ·have hr := Lib.run_append_room_string (P := P) w t t' ty e i (elem_und he) hu' hi his g n cap cur hg b hroom (by omega)
         rw [hr] at r1
         cases r1
         exact .inl rfl
        ·have hr := Lib.run_append_grow_string (P := P) w t t' ty e i (.int .u8 0) (elem_und he) hu' hi hiz ⟨g, 0, none⟩ n cap old' (by rw [his]; exact d3.1) (fun j u hu => d3.cells (g := g) rfl j u hu) b (by omega) (by omega) (by rw [hib]; exact growslice_fits (by omega) (by omega))
         rw [hr] at r1
         cases r1
         exact .inr rfl
      split at ha
      ·rename_i hz0
       obtain ⟨rfl, hb0⟩ := hz0
       cases ha
       have hv' : v' = nl := r4.2 ⟨d5.2 rfl, hb0⟩
       subst hv'
       rw [d4] at r3
       exact ⟨φ, nl, w', r1, .nils, ⟨h.hr.grow r3.size fun q hq => r3.block q hq (by simp), h.b0, h.gl.on fun q hq => r3.block q (by have := h.b0; have := h.size; omega) (by simp), h.len, h.dom0, h.low, h.high, r3.os.trans h.os, r3.tape.trans h.tape, r3.output.trans h.output, Nat.le_trans h.size r3.size, fun q hq hk => (r3.block q (by have := h.size; omega) (by simp)).trans (h.keep q hq hk)⟩, Phi.le_refl _, ⟨fun _ _ => rfl, r3.size, fun q hq _ => r3.block q hq (by simp), fun _ _ hM => .inl hM⟩, Nat.le_refl _⟩
      ·rename_i hz0
       cases ha
       rw [d4] at r3 hat
       obtain ⟨φ', p1, p2, p3, p4⟩ := h.appended (k := k) (L := L) (fun id hid => ⟨hw id hid, d1 id hid⟩) hsz (d2.append (strCells_VRs φ b)) r2 (fun e1 => hz0 ⟨d5.1 (r4.1 e1).1, (r4.1 e1).2⟩) r3 hat
       exact ⟨φ', v', w', r1, p1, p2, p3, p4, by simp [length_killO]⟩
     ·cases ha
    ·cases ha
   ·cases ha
  ·cases ha
 ·cases ha
theorem apA_sound (h : Inv P B0 n0 D φ0 w0 φ H w) {ts : Array TypeId} {ty : TypeId} {s x s' x' v : Value} {k : Option Nat} {H' : Heap} (hs : VR φ s s') (hx : VR φ x x') (ha : apA P H ts.toList s x = some (k, v, H'))
  (hw : ∀ id, k = some id → wr n0 D id) :
  ∃ φ' v' w', (Builtin.append_ ts ty #[s', x']).run P w = .ok v' w' ∧ VR φ' v v' ∧ Inv P B0 n0 D φ0 w0 φ' H' w' ∧ φ.le φ' ∧ FrE φ φ' w w' k.toList H.length ∧ H.length ≤ H'.length := by
 unfold apA at ha
 cases h0 : apA0 P H ts.toList s x with
 | some r => rw [h0] at ha; cases ha; exact apA0_sound h hs hx h0 hw
 | none => rw [h0] at ha; exact apS_sound h hs hx ha hw
end
/-- Keys of the int kind, plain values, by turns. -/
def okM : List Value → Bool
 | [] => true
 | .int .i64 _ :: v :: r => plainV v && okM r
 | _ => false
def lookM : List Value → Int → Option Value
 | .int .i64 a :: v :: r, n => if a = n then some v else lookM r n
 | _, _ => none
/-- A map's type: what a key that is not there gives. -/
def mapZ (P : Program) (t : TypeId) : Option Value := match P.underlying t with
 | some (.map kt et) => match P.underlying kt, zeroO P et with
  | some (.int .i64), some z => if plainV z = true then some z else none
  | _, _ => none
 | _ => none
theorem mapZ_und {P : Program} {t : TypeId} {z : Value} (h : mapZ P t = some z) : ∃ kt et, P.underlying t = some (.map kt et) ∧ P.underlying kt = some (.int .i64) ∧ zeroO P et = some z ∧ plainV z = true := by
 unfold mapZ at h
 split at h
 ·rename_i kt et h1
  split at h
  ·rename_i z' h2 h3
   split at h
   ·rename_i h4; cases h; exact ⟨kt, et, h1, h2, h3, h4⟩
   ·cases h
  ·cases h
 ·cases h
theorem okM_cons {k v : Value} {r : List Value} (h : okM (k :: v :: r) = true) : ∃ n, k = .int .i64 n ∧ plainV v = true ∧ okM r = true := by
 unfold okM at h
 split at h
 ·rename_i e; cases e
 ·rename_i n v' r' e
  cases e
  simp only [Bool.and_eq_true] at h
  exact ⟨n, rfl, h.1, h.2⟩
 ·cases h
theorem entsM_snoc : ∀ (cs : List Value) (i : Nat) (n : Int) (v : Value), okM cs = true → entsM i (cs ++ [.int .i64 n, v]) = entsM i cs ++ [{ key := .int .i64 n, val := v, born := i + cs.length / 2 }]
 | [], i, n, v, _ => by simp [entsM]
 | [_], i, n, v, h => by simp [okM] at h
 | k :: u :: r, i, n, v, h => by
  obtain ⟨_, _, _, hr⟩ := okM_cons h
  simp only [List.cons_append, entsM, entsM_snoc r (i + 1) n v hr, List.length_cons]
  rw [show i + 1 + r.length / 2 = i + (r.length + 1 + 1) / 2 by omega]
theorem findNow_some : ∀ (cs : List Value) (i j : Nat) (n : Int), okM cs = true → match lookM cs n with
  | some v => ∃ q, Instr.findNow (.int .i64) (.int .i64 n) (entsM i cs) j = some (some (q, v))
  | none => Instr.findNow (.int .i64) (.int .i64 n) (entsM i cs) j = some none
 | [], i, j, n, _ => rfl
 | [_], i, j, n, h => by simp [okM] at h
 | k :: u :: r, i, j, n, h => by
  obtain ⟨a, rfl, hu, hr⟩ := okM_cons h
  simp only [lookM, entsM, Instr.findNow, Instr.sameNow, if_true]
  by_cases e : a = n
  ·subst e; simp
  ·have e' : (n == a) = false := by simp; omega
   simp only [e, if_false, e']
   exact findNow_some r (i + 1) (j + 1) n hr
def lookA (P : Program) (H : Heap) (t : TypeId) (m k : Value) : Option Value := match m, k with
 | .map (some id), .int .i64 n => match H[id]?, mapZ P t with
  | some b, some z => if b.live = false ∧ b.rw = true ∧ okM b.cells = true then some ((lookM b.cells n).getD z) else none
  | _, _ => none
 | _, _ => none
def mputA (P : Program) (H : Heap) (t : TypeId) (m k v : Value) : Option (Nat × Heap) := match m, k with
 | .map (some id), .int .i64 n => match H[id]?, mapZ P t with
  | some b, some z => if b.live = false ∧ b.rw = true ∧ okM b.cells = true ∧ lookM b.cells n = none ∧ plainV v = true then some (id, H.set id { b with cells := b.cells ++ [.int .i64 n, v] }) else none
  | _, _ => none
 | _, _ => none

section
variable {P : Program} {B0 n0 : Nat} {D : List Nat} {φ0 φ : Phi} {w0 w : World} {H : Heap}
theorem run_findKey {kt : TypeId} (hk : P.underlying kt = some (.int .i64)) {cs : List Value} {n : Int} (hc : okM cs = true) : ∃ r, (Instr.findKey kt (.int .i64 n) (entsM 0 cs)).run P w = .ok r w ∧ (match lookM cs n with | some v => ∃ q, r = some (q, v) | none => r = none) := by
 have h := findNow_some cs 0 0 n hc
 cases hl : lookM cs n with
 | none => rw [hl] at h; simp only at h; exact ⟨none, by simp [Instr.findKey, run_underlying hk, h], rfl⟩
 | some v => rw [hl] at h; obtain ⟨q, h⟩ := h; exact ⟨some (q, v), by simp [Instr.findKey, run_underlying hk, h], q, rfl⟩
theorem run_checkKey {kt : TypeId} (hk : P.underlying kt = some (.int .i64)) (e : Bool) (n : Int) : (Instr.checkKey e 10000 kt (.int .i64 n)).run P w = .ok () w := by
 unfold Instr.checkKey
 simp [run_underlying hk]
theorem mapObj {m m' : Value} {id : Nat} (hm : VR φ m m') (he : m = .map (some id)) : ∃ L, φ id = some L ∧ m' = .map (some L.blk) := by
 subst he
 cases hm with | mp h => exact ⟨_, h, rfl⟩
theorem lookA_sound (h : HR P B0 φ H w) {t : TypeId} {m m' k k' v : Value} (hm : VR φ m m') (hk : VR φ k k') (hl : lookA P H t m k = some v) : (Instr.lookup t m' k' false).run P w = .ok v w ∧ VR φ v v := by
 unfold lookA at hl
 split at hl
 ·rename_i id n
  obtain ⟨L, hL, rfl⟩ := mapObj hm rfl
  cases hk
  split at hl
  ·rename_i b z hb hz
   split at hl
   ·rename_i hh
    obtain ⟨h1, h2, h3⟩ := hh
    obtain ⟨kt, et, u1, u2, u3, u4⟩ := mapZ_und hz
    obtain ⟨i, hi, hiz⟩ := zero_info u3
    obtain ⟨_, hob⟩ := h.mp id L b hL hb h1 h2
    obtain ⟨r, hr, hrl⟩ := run_findKey (w := w) u2 (n := n) h3
    have hlook : ∀ cs v, okM cs = true → lookM cs n = some v → plainV v = true := fun cs => by
     induction cs using okM.induct with
     | case1 => intro v _ hv; simp [lookM] at hv
     | case2 a u r ih =>
      intro v ho hv
      obtain ⟨_, _, hu, hr⟩ := okM_cons ho
      simp only [lookM] at hv
      split at hv
      ·cases hv; exact hu
      ·exact ih v hr hv
     | case3 cs h1 h2 => intro v ho hv; unfold okM at ho; split at ho <;> simp_all
    have hpl : plainV v = true := by
     cases hc : lookM b.cells n with
     | none => rw [hc] at hl; cases hl; exact u4
     | some u => rw [hc] at hl; cases hl; exact hlook _ _ h3 hc
    refine ⟨?_, plainV_VR hpl⟩
    cases hc : lookM b.cells n with
    | none =>
     rw [hc] at hl hrl; cases hl; subst hrl
     simp [Instr.lookup, run_underlying u1, MapKept.run_getObj_map hob, run_checkKey u2, hr, zeroValue, typeInfo, hi, hiz]
    | some u =>
     rw [hc] at hl hrl; cases hl
     obtain ⟨q, rfl⟩ := hrl
     simp [Instr.lookup, run_underlying u1, MapKept.run_getObj_map hob, run_checkKey u2, hr]
   ·cases hl
  ·cases hl
 ·cases hl
theorem VR.plain_eq {φ : Phi} {v v' : Value} (h : plainV v = true) (hv : VR φ v v') : v = v' := by
 unfold plainV at h
 split at h
 ·cases hv; rfl
 ·cases hv; rfl
 ·cases hv; rfl
 ·cases hv; rfl
 ·cases hv; rfl
 ·cases hv; rfl
 ·rename_i cs
  have h0 : cs.size = 0 := by simpa using h
  cases hv with
  | @tup cs ds hs _ => rw [Array.eq_empty_of_size_eq_zero h0, Array.eq_empty_of_size_eq_zero (show ds.size = 0 by omega)]
 ·cases h
theorem mputA_sound (h : Inv P B0 n0 D φ0 w0 φ H w) {t : TypeId} {m m' k k' v v' : Value} {id : Nat} {H' : Heap} (hm : VR φ m m') (hk : VR φ k k') (hv : VR φ v v') (hs : mputA P H t m k v = some (id, H')) (hw : wr n0 D id) :
  ∃ w', (Instr.mapUpdate t m' k' v').run P w = .ok () w' ∧ Inv P B0 n0 D φ0 w0 φ H' w' := by
 unfold mputA at hs
 split at hs
 ·rename_i id' n
  obtain ⟨L, hL, rfl⟩ := mapObj hm rfl
  cases hk
  split at hs
  ·rename_i b z hb hz
   split at hs
   ·rename_i hh
    obtain ⟨h1, h2, h3, h4, h5⟩ := hh
    cases hs
    obtain ⟨kt, et, u1, u2, u3, u4⟩ := mapZ_und hz
    obtain ⟨hB, hob⟩ := h.hr.mp id L b hL hb h1 h2
    obtain ⟨r, hr, hrl⟩ := run_findKey (w := w) u2 (n := n) h3
    rw [h4] at hrl; subst hrl
    have hLr := h.hr.flag id L b hL hb h2
    obtain rfl : v = v' := by
     have := plainV_VR (φ := φ) h5
     exact VR.plain_eq h5 hv
    have hlt : L.blk < w.heap.size := (Array.getElem?_eq_some_iff.1 hob).1
    have hidl := (List.getElem?_eq_some_iff.1 hb).1
    have hset : (w.heap.setIfInBounds L.blk (mapO (b.cells ++ [.int .i64 n, v])))[L.blk]? = some (mapO (b.cells ++ [.int .i64 n, v])) := by simp [hlt]
    have hoth : ∀ q, q ≠ L.blk → (w.heap.setIfInBounds L.blk (mapO (b.cells ++ [.int .i64 n, v])))[q]? = w.heap[q]? := fun q hq => by rw [Array.getElem?_setIfInBounds]; simp [Ne.symm hq]
    have hne : ∀ i M, φ i = some M → i ≠ id → H.hot i = true → M.blk ≠ L.blk := fun i M hM hi hh e => by
     by_cases hMr : M.rw = true
     ·exact hi (h.hr.inj i id M L hM hL hMr hLr e hh (by simp [Heap.hot, hb, h2]))
     ·have := h.hr.ro i M hM (by simpa using hMr); omega
    have hget : ∀ i, i ≠ id → (H.set id { b with cells := b.cells ++ [.int .i64 n, v] })[i]? = H[i]? := fun i hi => by rw [List.getElem?_set_ne (Ne.symm hi)]
    have hgid : (H.set id { b with cells := b.cells ++ [.int .i64 n, v] })[id]? = some { b with cells := b.cells ++ [.int .i64 n, v] } := by simp [hidl]
    refine ⟨{ w with heap := w.heap.setIfInBounds L.blk (mapO (b.cells ++ [.int .i64 n, v])) }, ?_, h.write hw hL hLr hB ⟨?_, h.hr.ro, ?_, ?_, ?_, ?_, ?_, ?_⟩ (by simp) (by simp) hoth rfl rfl rfl⟩
    ·have he : mapO (b.cells ++ [.int .i64 n, v]) = .map ((entsM 0 b.cells).toArray.push { key := .int .i64 n, val := v, born := b.cells.length / 2 }) (b.cells.length / 2 + 1) := by
      unfold mapO
      rw [entsM_snoc b.cells 0 n v h3]
      simp only [List.length_append, List.length_cons, List.length_nil, Nat.zero_add, List.push_toArray]
      congr 1; omega
     rw [he]
     simp [Instr.mapUpdate, run_underlying u1, MapKept.run_getObj_map hob, run_checkKey u2, hr, MapKept.run_setObj_map _ hob]
    ·intro i M hM; simp; exact h.hr.dom i M hM
    ·intro i M hM; simp; exact h.hr.lt i M hM
    ·intro i M j x hM hx
     by_cases e : i = id
     ·subst e; unfold Heap.cell at hx; rw [hgid] at hx; simp [h1] at hx
     ·have hx' : H.cell i j = some x := by unfold Heap.cell at hx ⊢; rw [← hget i e]; exact hx
      obtain ⟨y, hy, hc⟩ := h.hr.cell i M j x hM hx'
      refine ⟨y, hy, ?_⟩
      rw [cell_same (w := w) (a := ⟨M.blk, M.base + j, none⟩) (hoth _ (hne i M hM e (Heap.hot_of_live (Heap.live_of_cell hx'))))]; exact hc
    ·intro i M c hM hMr hc hcl
     by_cases e : i = id
     ·subst e; rw [hgid] at hc; cases hc; simp only at hcl; rw [h1] at hcl; cases hcl
     ·rw [hget i e] at hc
      obtain ⟨a1, a2, cur, sz, a3, a4, a5⟩ := h.hr.row i M c hM hMr hc hcl
      exact ⟨a1, a2, cur, sz, a3, by rw [hoth _ (hne i M hM e (by simp [Heap.hot, hc, hcl]))]; exact a4, a5⟩
    ·intro i M c hM hc hcr
     by_cases e : i = id
     ·subst e; rw [hL] at hM; cases hM; exact hLr
     ·rw [hget i e] at hc; exact h.hr.flag i M c hM hc hcr
    ·have hh : ∀ i, Heap.hot (H.set id { b with cells := b.cells ++ [.int .i64 n, v] }) i = H.hot i := fun i => by
      unfold Heap.hot
      by_cases e : i = id
      ·subst e; rw [hgid, hb]
      ·rw [hget i e]
     intro i i' M M' hM hM' hr1 hr2 hbe hl hl'
     rw [hh] at hl hl'
     exact h.hr.inj i i' M M' hM hM' hr1 hr2 hbe hl hl'
    ·intro i M c hM hc hcl hcr
     by_cases e : i = id
     ·subst e; rw [hL] at hM; cases hM; rw [hgid] at hc; cases hc; exact ⟨hB, hset⟩
     ·rw [hget i e] at hc
      obtain ⟨a1, a2⟩ := h.hr.mp i M c hM hc hcl hcr
      exact ⟨a1, by rw [hoth _ (hne i M hM e (by simp [Heap.hot, hc, hcr]))]; exact a2⟩
   ·cases hs
  ·cases hs
 ·cases hs
/-- A new map, empty. -/
theorem HR.newM {P : Program} {B0 : Nat} {φ : Phi} {H : Heap} {w : World} (h : HR P B0 φ H w) (hB : B0 ≤ w.heap.size) (ty : TypeId) :
  HR P B0 (φ.set H.length ⟨w.heap.size, 0, 0, true⟩) (H ++ [⟨ty, [], true, false⟩]) (w.alloc (.map #[] 0)) := by
 have hnone : φ H.length = none := by
  cases e : φ H.length with
  | none => rfl
  | some L => exact absurd (h.dom _ _ e) (Nat.lt_irrefl _)
 have hle := Phi.le_set (L := ⟨w.heap.size, 0, 0, true⟩) hnone
 have hold : ∀ b, b < w.heap.size → (w.alloc (.map #[] 0)).heap[b]? = w.heap[b]? := fun b hb => Below.heap_alloc w _ b hb
 have hk := h.grow (w' := w.alloc (.map #[] 0)) (by simp) hold
 have hlast : (H ++ [(⟨ty, [], true, false⟩ : Blk)])[H.length]? = some ⟨ty, [], true, false⟩ := by simp
 have hprev : ∀ id, id < H.length → (H ++ [(⟨ty, [], true, false⟩ : Blk)])[id]? = H[id]? := fun id hi => by rw [List.getElem?_append_left hi]
 have hnew : (w.alloc (.map #[] 0)).heap[w.heap.size]? = some (mapO []) := heap_alloc_new w _
 refine ⟨?_, ?_, ?_, ?_, ?_, ?_, ?_, ?_⟩
 ·intro id L hL
  by_cases e : id = H.length
  ·subst e; simp
  ·rw [Phi.set_ne _ _ e] at hL; have := h.dom _ _ hL; simp; omega
 ·intro id L hL hr
  by_cases e : id = H.length
  ·subst e; rw [Phi.set_same] at hL; cases hL; cases hr
  ·rw [Phi.set_ne _ _ e] at hL; exact h.ro _ _ hL hr
 ·intro id L hL
  by_cases e : id = H.length
  ·subst e; rw [Phi.set_same] at hL; cases hL; simp
  ·rw [Phi.set_ne _ _ e] at hL; exact hk.lt _ _ hL
 ·intro id L j x hL hx
  by_cases e : id = H.length
  ·subst e; simp only [Heap.cell, hlast] at hx; simp at hx
  ·rw [Phi.set_ne _ _ e] at hL
   have hlt := h.dom _ _ hL
   simp only [Heap.cell, hprev id hlt] at hx
   obtain ⟨y, hy, hc⟩ := hk.cell id L j x hL hx
   exact ⟨y, hy.mono hle, hc⟩
 ·intro id L b hL hr hb hl
  by_cases e : id = H.length
  ·subst e; rw [hlast] at hb; cases hb; cases hl
  ·rw [Phi.set_ne _ _ e] at hL
   rw [hprev id (h.dom _ _ hL)] at hb
   exact hk.row id L b hL hr hb hl
 ·intro id L b hL hb hr
  by_cases e : id = H.length
  ·subst e; rw [Phi.set_same] at hL; cases hL; rfl
  ·rw [Phi.set_ne _ _ e] at hL
   rw [hprev id (h.dom _ _ hL)] at hb
   exact h.flag id L b hL hb hr
 ·intro id id' L L' hL hL' hr hr' hbe hl hl'
  have old : ∀ i M, i ≠ H.length → φ.set H.length ⟨w.heap.size, 0, 0, true⟩ i = some M → Heap.hot (H ++ [⟨ty, [], true, false⟩]) i = true → φ i = some M ∧ Heap.hot H i = true ∧ M.blk < w.heap.size := fun i M hi hM hli => by
   rw [Phi.set_ne _ _ hi] at hM
   have hlt := h.dom _ _ hM
   exact ⟨hM, by simpa [Heap.hot, hprev i hlt] using hli, h.lt i M hM⟩
  by_cases e : id = H.length
  ·by_cases e' : id' = H.length
   ·omega
   ·subst e
    rw [Phi.set_same] at hL; cases hL
    obtain ⟨_, _, hlt⟩ := old id' L' e' hL' hl'
    simp only at hbe; omega
  ·by_cases e' : id' = H.length
   ·subst e'
    rw [Phi.set_same] at hL'; cases hL'
    obtain ⟨_, _, hlt⟩ := old id L e hL hl
    simp only at hbe; omega
   ·obtain ⟨a1, a2, _⟩ := old id L e hL hl
    obtain ⟨b1, b2, _⟩ := old id' L' e' hL' hl'
    exact h.inj id id' L L' a1 b1 hr hr' hbe a2 b2
 ·intro id L b hL hb hl hr
  by_cases e : id = H.length
  ·subst e
   rw [Phi.set_same] at hL; cases hL
   rw [hlast] at hb; cases hb
   exact ⟨hB, hnew⟩
  ·rw [Phi.set_ne _ _ e] at hL
   rw [hprev id (h.dom _ _ hL)] at hb
   exact hk.mp id L b hL hb hl hr
theorem Inv.newM (h : Inv P B0 n0 D φ0 w0 φ H w) (ty : TypeId) :
  Inv P B0 n0 D φ0 w0 (φ.set H.length ⟨w.heap.size, 0, 0, true⟩) (H ++ [⟨ty, [], true, false⟩]) (w.alloc (.map #[] 0)) ∧ φ.le (φ.set H.length ⟨w.heap.size, 0, 0, true⟩) := by
 have hold : ∀ b, b < w.heap.size → (w.alloc (.map #[] 0)).heap[b]? = w.heap[b]? := fun b hb => Below.heap_alloc w _ b hb
 have hnone : φ H.length = none := by
  cases e : φ H.length with
  | none => rfl
  | some L => exact absurd (h.hr.dom _ _ e) (Nat.lt_irrefl _)
 have hB : B0 ≤ w.heap.size := Nat.le_trans h.b0 h.size
 refine ⟨⟨h.hr.newM hB ty, h.b0, h.gl.on fun k hk => hold k (by omega), ?_, h.dom0, ?_, ?_, h.os, h.tape, h.output, ?_, ?_⟩, Phi.le_set _ hnone⟩
 ·have := h.len; simp; omega
 ·intro id hid
  rw [Phi.set_ne _ _ (by have := h.len; omega)]
  exact h.low id hid
 ·intro id L hid hL
  by_cases e : id = H.length
  ·subst e; rw [Phi.set_same] at hL; cases hL; exact ⟨rfl, .inl h.size⟩
  ·rw [Phi.set_ne _ _ e] at hL; exact h.high id L hid hL
 ·have := h.size; simp; omega
 ·intro b hb hk
  rw [hold b (by have := h.size; omega)]
  exact h.keep b hb hk
end
end Go.Proofs.YtpoedfmkiiijnaaDoorAm
