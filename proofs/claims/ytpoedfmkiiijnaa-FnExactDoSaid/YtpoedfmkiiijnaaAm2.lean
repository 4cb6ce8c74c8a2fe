/- The abstract machine, part 2: what single operations do on abstract values, and that the machine does the same. Plain lemmas; no program in sight. -/
import Derived.Test.YtpoedfmkiiijnaaAm1
import Derived.Laws.Cover3
import Derived.Laws.Small
namespace Go.Proofs.YtpoedfmkiiijnaaAm
open Go Go.RowKit
set_option linter.unusedVariables false
set_option linter.unusedSimpArgs false

/-! ### temporaries and operands -/
def getT : List (Nat × Value) → Nat → Option Value
  | [], _ => none
  | (k, v) :: r, t => if k = t then some v else getT r t
def plainV : Value → Bool
  | .int _ _ | .bool _ | .string _ | .pointer none => true
  | .slice none 0 0 => true
  | .tuple cs => cs.size == 0
  | _ => false
theorem plainV_VR {φ : Phi} {v : Value} (h : plainV v = true) : VR φ v v := by
  unfold plainV at h
  split at h
  · exact .int _ _
  · exact .bool _
  · exact .str _
  · exact .nilp
  · exact .nils
  · rename_i cs
    have : cs.size = 0 := by simpa using h
    exact .tup rfl fun i h1 => by omega
  · cases h
def evO (ts : List (Nat × Value)) : Operand → Option Value
  | .tmp t => getT ts t
  | .const v => if plainV v then some v else none
  | .func f => some (.func (.func f) #[] #[])
  | .global _ => none
/-- The frame's slots hold what the abstract ones hold. -/
def TR (φ : Phi) (ts : List (Nat × Value)) (tmps : Array Value) : Prop := ∀ t v, getT ts t = some v → ∃ v', tmps[t]? = some v' ∧ VR φ v v'
theorem TR.mono {φ φ' : Phi} (hφ : φ.le φ') {ts : List (Nat × Value)} {tmps : Array Value} (h : TR φ ts tmps) : TR φ' ts tmps := fun t v hv => by
  obtain ⟨v', h1, h2⟩ := h t v hv
  exact ⟨v', h1, h2.mono hφ⟩
theorem TR.put {φ : Phi} {ts : List (Nat × Value)} {tmps : Array Value} (h : TR φ ts tmps) {d : Nat} (hd : d < tmps.size) {v v' : Value} (hv : VR φ v v') :
    TR φ ((d, v) :: ts) (tmps.setIfInBounds d v') := fun t u hu => by
  unfold getT at hu
  split at hu
  · rename_i e
    subst e
    cases hu
    exact ⟨v', by simp [hd], hv⟩
  · rename_i e
    obtain ⟨u', h1, h2⟩ := h t u hu
    exact ⟨u', by rw [Array.getElem?_setIfInBounds_ne e]; exact h1, h2⟩
theorem TR.sub {φ : Phi} {ts ts' : List (Nat × Value)} {tmps : Array Value} (h : TR φ ts tmps) (hs : ∀ t v, getT ts' t = some v → getT ts t = some v) : TR φ ts' tmps := fun t v hv => h t v (hs t v hv)
theorem evO_VR {φ : Phi} {ts : List (Nat × Value)} {a : Act} (h : TR φ ts a.tmps) {x : Operand} {v : Value} (hx : evO ts x = some v) : VR φ v (a.eval x) := by
  cases x with
  | tmp t =>
    obtain ⟨v', h1, h2⟩ := h t v hx
    simpa [Act.eval, h1] using h2
  | const c =>
    simp only [evO] at hx
    split at hx
    · cases hx; rename_i hp; exact plainV_VR hp
    · cases hx
  | func f => simp only [evO, Option.some.injEq] at hx; subst hx; exact .fn rfl fun i h1 => by simp at h1
  | global g => simp [evO] at hx

def evL (ρ : Operand → Option Value) : List Operand → Option (List Value)
  | [] => some []
  | x :: r => match ρ x, evL ρ r with
    | some v, some l => some (v :: l)
    | _, _ => none
def evP (ρ : Operand → Option Value) : List (Nat × Operand) → Option (List (Nat × Value))
  | [] => some []
  | (i, x) :: r => match ρ x, evP ρ r with
    | some v, some l => some ((i, v) :: l)
    | _, _ => none
/-- Parts of a literal, alike. -/
def PR (φ : Phi) : List (Nat × Value) → List (Nat × Value) → Prop
  | [], [] => True
  | (i, v) :: r, (j, u) :: s => i = j ∧ VR φ v u ∧ PR φ r s
  | _, _ => False
theorem evL_VRs {φ : Phi} {ρ : Operand → Option Value} {e : Operand → Value} (h : ∀ x v, ρ x = some v → VR φ v (e x)) : ∀ {l : List Operand} {vs : List Value}, evL ρ l = some vs → VRs φ vs (l.map e)
  | [], vs, hl => by cases hl; exact .nil _
  | x :: r, vs, hl => by
    simp only [evL] at hl
    split at hl
    · rename_i v l h1 h2; cases hl; exact .cons (h x v h1) (evL_VRs h h2)
    · cases hl
theorem evP_PR {φ : Phi} {ρ : Operand → Option Value} {e : Operand → Value} (h : ∀ x v, ρ x = some v → VR φ v (e x)) : ∀ {l : List (Nat × Operand)} {vs : List (Nat × Value)}, evP ρ l = some vs → PR φ vs (l.map fun p => (p.1, e p.2))
  | [], vs, hl => by cases hl; trivial
  | (i, x) :: r, vs, hl => by
    simp only [evP] at hl
    split at hl
    · rename_i v l h1 h2; cases hl; exact ⟨rfl, h x v h1, evP_PR h h2⟩
    · cases hl

/-! ### literals -/
def setAll : List Value → Nat → List Value → List Value
  | cells, _, [] => cells
  | cells, o, x :: xs => setAll (cells.set o x) (o + 1) xs
theorem setAll_VRs {φ : Phi} : ∀ {xs ys cs ds : List Value} {o : Nat}, VRs φ xs ys → VRs φ cs ds → VRs φ (setAll cs o xs) (setAll ds o ys)
  | [], ys, cs, ds, o, hx, hc => by rw [hx.inv_nil]; exact hc
  | x :: xs, es, cs, ds, o, hx, hc => by
    obtain ⟨y, ys, rfl, h1, h2⟩ := hx.inv
    show VRs φ (setAll (cs.set o x) (o + 1) xs) (setAll (ds.set o y) (o + 1) ys)
    refine setAll_VRs h2 ⟨by simp [hc.1], fun i u v hu hv => ?_⟩
    rw [List.getElem?_set] at hu hv
    by_cases e : o = i
    · subst e
      simp only [if_true] at hu hv
      split at hu
      · split at hv
        · cases hu; cases hv; exact h1
        · cases hv
      · cases hu
    · simp only [e, if_false] at hu hv
      exact hc.2 i u v hu hv
theorem foldl_setAll (xs : List Value) : ∀ (k o : Nat) (cs : Array Value), ((xs.zipIdx k).foldl (fun cs (c, j) => cs.setIfInBounds (o + j) c) cs).toList = setAll cs.toList (o + k) xs := by
  induction xs with
  | nil => intro k o cs; rfl
  | cons x xs ih =>
    intro k o cs
    simp only [List.zipIdx_cons, List.foldl_cons, setAll]
    rw [ih]
    simp [Nat.add_assoc]
def fillA (place : Nat → Option (Nat × Nat)) (cells : List Value) : List (Nat × Value) → Option (List Value)
  | [] => some cells
  | (i, v) :: rest =>
    match place i with
    | none => none
    | some (off, size) => if (cellsV v).length = size ∧ off + size ≤ cells.length then fillA place (setAll cells off (cellsV v)) rest else none
theorem length_setAll (xs : List Value) : ∀ (cs : List Value) (o : Nat), (setAll cs o xs).length = cs.length := by
  induction xs with
  | nil => intro cs o; rfl
  | cons x xs ih => intro cs o; simp [setAll, ih]
theorem fill_sound {φ : Phi} {place : Nat → Option (Nat × Nat)} : ∀ {ps qs : List (Nat × Value)} {cs r : List Value} {ds : Array Value}, PR φ ps qs → VRs φ cs ds.toList → fillA place cs ps = some r →
    ∃ ds', Instr.fill place ds qs = some ds' ∧ VRs φ r ds'.toList
  | [], [], cs, r, ds, _, hc, h => by cases h; exact ⟨ds, rfl, hc⟩
  | (i, v) :: ps, (j, u) :: qs, cs, r, ds, hp, hc, h => by
    obtain ⟨rfl, hv, hps⟩ := hp
    simp only [fillA] at h
    cases hpl : place i with
    | none => rw [hpl] at h; cases h
    | some os =>
      obtain ⟨off, size⟩ := os
      rw [hpl] at h
      simp only at h
      split at h
      · rename_i hh
        obtain ⟨h1, h2⟩ := hh
        have hcells := hv.cells
        have hsz : u.cells.size = size := by rw [← Array.length_toList, cellsV_eq, ← hcells.1]; exact h1
        have hle : ¬ (off + u.cells.size > ds.size) := by have := hc.1; simp at this; omega
        have hnew : VRs φ (setAll cs off (cellsV v)) (Array.toList (u.cells.zipIdx.foldl (fun cs (c, j) => cs.setIfInBounds (off + j) c) ds)) := by
          have e : (u.cells.zipIdx.foldl (fun cs (c, j) => cs.setIfInBounds (off + j) c) ds).toList = setAll ds.toList off (cellsV u) := by
            rw [← cellsV_eq, ← Array.foldl_toList, Array.toList_zipIdx]
            exact foldl_setAll _ 0 off ds
          rw [e]
          exact setAll_VRs hcells hc
        obtain ⟨ds', h3, h4⟩ := fill_sound hps hnew h
        refine ⟨ds', ?_, h4⟩
        rw [Instr.fill, hpl]
        simp only [hsz, ne_eq, not_true_eq_false, false_or]
        rw [if_neg (by rw [hsz] at hle; simpa using hle)]
        exact h3
      · cases h
  | [], _ :: _, _, _, _, hp, _, _ => hp.elim
  | _ :: _, [], _, _, _, hp, _, _ => hp.elim

def allPlain (cs : List Value) : Bool := cs.all plainV
theorem allPlain_VRs {φ : Phi} {cs : List Value} (h : allPlain cs = true) : VRs φ cs cs := ⟨rfl, fun i x y hx hy => by
  rw [hx] at hy; cases hy
  exact plainV_VR (by simp [allPlain] at h; exact h x (List.mem_of_getElem? hx))⟩
/-- A struct literal. -/
def buildA (P : Program) (t : TypeId) (parts : List (Nat × Value)) : Option (List Value) :=
  match zeroO P t, fldsO P t with
  | some z, some fl => if allPlain (cellsV z) then fillA (fun i => fl[i]?) (cellsV z) parts else none
  | _, _ => none
theorem buildA_sound {P : Program} {φ : Phi} {t : TypeId} {ps qs : List (Nat × Value)} {r : List Value} (hp : PR φ ps qs) (h : buildA P t ps = some r) :
    ∃ ds, P.built t qs = some ds ∧ VRs φ r ds.toList := by
  unfold buildA at h
  split at h
  · rename_i z fl hz hf
    split at h
    · rename_i hpl
      have hpl' := allPlain_VRs (φ := φ) hpl
      rw [← cellsV_eq] at hpl'
      rw [← cellsV_eq] at h
      obtain ⟨ds, h1, h2⟩ := fill_sound hp (by exact hpl') h
      refine ⟨ds, ?_, h2⟩
      unfold zeroO at hz
      cases hi : P.info? t with
      | none => rw [hi] at hz; cases hz
      | some it =>
        rw [hi] at hz
        simp only [Option.bind_some] at hz
        unfold fldsO at hf
        cases hu : P.underlying t with
        | none => rw [hu] at hf; cases hf
        | some d =>
          rw [hu] at hf
          simp only [Option.bind_some] at hf
          cases d with
          | struct fs =>
            simp only [fldsD] at hf
            unfold Program.built
            rw [hi, hu]
            simp only [hz]
            rw [hf]
            simp only [List.getElem?_toArray]
            exact h1
          | _ => simp [fldsD] at hf
    · cases h
  · cases h

/-! ### arithmetic, comparisons -/
def intA (op : BinOp) (k : IntKind) (a : Int) (k' : IntKind) (b : Int) : Option Value :=
  match op with
  | .shr => if b < 0 then none else some (.int k (a.fdiv (2 ^ (min b.toNat k.bits))))
  | .add => if k = k' then some (.int k (k.wrap (a + b))) else none
  | .sub => if k = k' then some (.int k (k.wrap (a - b))) else none
  | .mul => if k = k' then some (.int k (k.wrap (a * b))) else none
  | .quo => if k = k' ∧ b ≠ 0 then some (.int k (k.wrap (a.tdiv b))) else none
  | .rem => if k = k' ∧ b ≠ 0 then some (.int k (a.tmod b)) else none
  | .and => if k = k' then some (.int k (k.wrap (BitVec.ofInt k.bits a &&& BitVec.ofInt k.bits b).toNat)) else none
  | .eql => if k = k' then some (.bool (decide (a = b))) else none
  | .neq => if k = k' then some (.bool (!decide (a = b))) else none
  | .lss => if k = k' then some (.bool (decide (a < b))) else none
  | .leq => if k = k' then some (.bool (decide (a ≤ b))) else none
  | .gtr => if k = k' then some (.bool (decide (b < a))) else none
  | .geq => if k = k' then some (.bool (decide (b ≤ a))) else none
  | _ => none
theorem intA_sound {P : Program} {op : BinOp} {t : TypeId} {k k' : IntKind} {a b : Int} {v : Value} (h : intA op k a k' b = some v) (w : World) :
    (binOp op t (.int k a) (.int k' b)).run P w = .ok v w ∧ plainV v = true := by
  cases op <;> simp only [intA] at h <;> (try (split at h)) <;> (try (cases h; done)) <;> rename_i hh <;> (first | (obtain ⟨rfl, hb⟩ := hh) | (subst hh) | skip) <;> cases h
  all_goals (try simp [binOp, Op.intArith, Op.intCmp, Op.intBits, Op.intDiv, Op.shift, plainV, *])
  · cases h1 : decide (a = b) <;> simp_all
  · cases h1 : decide (a = b) <;> simp_all [bne]

def eqCells : List Value → List Value → Option Bool
  | [], [] => some true
  | .int k a :: xs, .int k' b :: ys => match eqCells xs ys with
    | some r => if k = k' then some (decide (a = b) && r) else none
    | none => none
  | _, _ => none
/-- A struct of whole numbers, one cell each, in order: its '==' is that of its cells. -/
def eqFl (P : Program) : Nat → List Field → Bool
  | _, [] => true
  | i, f :: fs => f.name != "_" && f.offset == i && (intO P f.type).isSome && eqFl P (i + 1) fs
def eqOk (P : Program) (t : TypeId) : Bool :=
  (match P.underlying t with | some (.struct fs) => eqFl P 0 fs.toList | _ => false) && (match P.underlying t with | some (.struct fs) => fs.size > 0 | _ => false) && !P.stoodInHeld t && !P.eqGuardType P.depth t
def binA (P : Program) (op : BinOp) (t : TypeId) (x y : Value) : Option Value :=
  match x, y with
  | .int k a, .int k' b => intA op k a k' b
  | .bool a, .bool b => if (P.underlying t matches some .bool) then (match op with | .eql => some (.bool (a == b)) | .neq => some (.bool (!(a == b))) | _ => none) else none
  | .slice p n c, .slice none 0 0 => if (elemO P t).isSome then (match op with | .eql => some (.bool p.isNone) | .neq => some (.bool (!p.isNone)) | _ => none) else none
  | .agg xs, .agg ys => if eqOk P t = true ∧ xs.toList.length = (fldsO P t |>.getD []).length then (match op, eqCells xs.toList ys.toList with | .eql, some r => some (.bool r) | .neq, some r => some (.bool (!r)) | _, _ => none) else none
  | _, _ => none
theorem part_int {P : Program} {t : TypeId} {k : IntKind} (h : intO P t = some k) {cs : Array Value} {o : Nat} {v : Value} (hv : cs[o]? = some v) (w : World) : (part t cs o).run P w = .ok v w := by
  unfold intO at h
  cases hu : P.underlying t with
  | none => rw [hu] at h; cases h
  | some d =>
    rw [hu] at h
    cases d with
    | int k' => simp [part, isAgg, run_underlying hu, hv]
    | _ => simp [intD] at h
theorem eqFields_sound {P : Program} (d : Nat) {xs ys : Array Value} (w : World) : ∀ (fs : List Field) (i : Nat) (r : Bool), eqFl P i fs = true → eqCells (xs.toList.drop i) (ys.toList.drop i) = some r → (xs.toList.drop i).length = fs.length →
    (Op.eqFields (d + 1) xs ys fs).run P w = .ok r w
  | [], i, r, _, he, hl => by
    have : xs.toList.drop i = [] := List.eq_nil_of_length_eq_zero hl
    rw [this] at he
    cases hy : ys.toList.drop i with
    | nil => rw [hy] at he; cases he; simp [Op.eqFields]
    | cons y l => rw [hy] at he; simp [eqCells] at he
  | f :: fs, i, r, hf, he, hl => by
    simp only [eqFl, Bool.and_eq_true] at hf
    obtain ⟨⟨⟨hn, ho⟩, hi⟩, hfs⟩ := hf
    have ho' : f.offset = i := by simpa using ho
    obtain ⟨k0, hk0⟩ := Option.isSome_iff_exists.1 hi
    cases hx : xs.toList.drop i with
    | nil => rw [hx] at hl; simp at hl
    | cons x xr =>
      cases hy : ys.toList.drop i with
      | nil => rw [hx, hy] at he; cases x <;> simp [eqCells] at he
      | cons y yr =>
        rw [hx, hy] at he
        have hx0 : xs[i]? = some x := by
          have := congrArg (fun l => l[0]?) hx
          simpa [List.getElem?_drop] using this
        have hy0 : ys[i]? = some y := by
          have := congrArg (fun l => l[0]?) hy
          simpa [List.getElem?_drop] using this
        have hx1 : xs.toList.drop (i + 1) = xr := by rw [← List.tail_drop, hx]; rfl
        have hy1 : ys.toList.drop (i + 1) = yr := by rw [← List.tail_drop, hy]; rfl
        cases x with
        | int k a =>
          cases y with
          | int k' b =>
            simp only [eqCells] at he
            cases hr : eqCells xr yr with
            | none => rw [hr] at he; cases he
            | some r1 =>
              rw [hr] at he
              simp only at he
              split at he
              · rename_i hk; subst hk
                cases he
                have ih := eqFields_sound (xs := xs) (ys := ys) d w fs (i + 1) r1 hfs (by rw [hx1, hy1]; exact hr) (by rw [hx1]; rw [hx] at hl; simpa using hl)
                have hu : P.underlying f.type = some (.int k0) := by
                  unfold intO at hk0
                  cases hu : P.underlying f.type with
                  | none => rw [hu] at hk0; cases hk0
                  | some dd => rw [hu] at hk0; cases dd <;> simp [intD] at hk0; subst hk0; rfl
                have hn' : f.name ≠ "_" := by simpa using hn
                simp only [Op.eqFields, hn', ne_eq, not_false_eq_true, if_true, Sem.run_bind, ho', part_int hk0 hx0, part_int hk0 hy0, Result.andThen_ok, run_equalIn_int w d f.type k k0 a b hu]
                by_cases hab : a = b
                · subst hab; simp [ih]
                · simp [hab]
              · cases he
          | _ => simp [eqCells] at he
        | _ => simp [eqCells] at he
theorem eqCells_VRs {φ : Phi} : ∀ {xs ys xs' ys' : List Value} {r : Bool}, eqCells xs ys = some r → VRs φ xs xs' → VRs φ ys ys' → xs' = xs ∧ ys' = ys
  | [], [], xs', ys', r, _, h1, h2 => ⟨h1.inv_nil, h2.inv_nil⟩
  | .int k a :: xs, .int k' b :: ys, xs', ys', r, h, h1, h2 => by
    obtain ⟨x, xr, rfl, hx, hxr⟩ := h1.inv
    obtain ⟨y, yr, rfl, hy, hyr⟩ := h2.inv
    cases hx; cases hy
    simp only [eqCells] at h
    split at h
    · rename_i r1 hr
      obtain ⟨rfl, rfl⟩ := eqCells_VRs hr hxr hyr
      exact ⟨rfl, rfl⟩
    · cases h
theorem binA_sound {P : Program} {φ : Phi} {op : BinOp} {t : TypeId} {ox oy : Operand} {x y x' y' v : Value} (h : binA P op t x y = some v) (hx : VR φ x x') (hy : VR φ y y') (w : World) :
    (do eqGuard op t ox oy x' y'; binOp op t x' y' : Sem Value).run P w = .ok v w ∧ plainV v = true := by
  cases hx with
  | int k a =>
    cases hy with
    | int k' b =>
      have := intA_sound (P := P) (t := t) h w
      refine ⟨?_, this.2⟩
      have hg : (eqGuard op t ox oy (.int k a) (.int k' b)).run P w = .ok () w := by unfold eqGuard; cases op <;> simp
      simp only [Sem.run_bind, hg, Result.andThen_ok, this.1]
    | _ => simp [binA] at h
  | bool a =>
    cases hy with
    | bool b =>
      simp only [binA] at h
      split at h
      · rename_i hb
        have hu : P.underlying t = some .bool := by
          generalize P.underlying t = u at hb
          match u, hb with
          | some .bool, _ => rfl
        have hg : (eqGuard op t ox oy (.bool a) (.bool b)).run P w = .ok () w := by unfold eqGuard; cases op <;> simp
        simp only [Sem.run_bind, hg, Result.andThen_ok]
        cases op <;> simp at h <;> subst h <;> simp [binOp, run_equal_bool w t a b hu, plainV]
      · cases h
    | _ => simp [binA] at h
  | nils =>
    cases hy with
    | nils =>
      simp only [binA] at h
      split at h
      · rename_i hb
        obtain ⟨e, he⟩ := Option.isSome_iff_exists.1 hb
        have hu : P.underlying t = some (.slice e) := by
          unfold elemO at he
          cases hu : P.underlying t with
          | none => rw [hu] at he; cases he
          | some d => rw [hu] at he; cases d <;> simp [elemD] at he; subst he; rfl
        have hg : (eqGuard op t ox oy nl nl).run P w = .ok () w := by unfold eqGuard; cases op <;> simp
        simp only [Sem.run_bind, hg, Result.andThen_ok]
        cases op <;> simp at h <;> subst h <;> simp [binOp, run_equal_slice_nil w t e none 0 0 hu, plainV]
      · cases h
    | _ => simp [binA] at h
  | slc h1 hn hc =>
    cases hy with
    | nils =>
      simp only [binA] at h
      split at h
      · rename_i hb
        obtain ⟨e, he⟩ := Option.isSome_iff_exists.1 hb
        have hu : P.underlying t = some (.slice e) := by
          unfold elemO at he
          cases hu : P.underlying t with
          | none => rw [hu] at he; cases he
          | some d => rw [hu] at he; cases d <;> simp [elemD] at he; subst he; rfl
        have hg : ∀ a n c, (eqGuard op t ox oy (.slice a n c) nl).run P w = .ok () w := by intro a n c; unfold eqGuard; cases op <;> simp
        simp only [Sem.run_bind, hg, Result.andThen_ok]
        cases op <;> simp at h <;> subst h <;> simp [binOp, run_equal_slice_nil w t e _ _ _ hu, plainV]
      · cases h
    | _ => simp [binA] at h
  | sl0 h1 ho =>
    cases hy with
    | nils =>
      simp only [binA] at h
      split at h
      · rename_i hb
        obtain ⟨e, he⟩ := Option.isSome_iff_exists.1 hb
        have hu : P.underlying t = some (.slice e) := by
          unfold elemO at he
          cases hu : P.underlying t with
          | none => rw [hu] at he; cases he
          | some d => rw [hu] at he; cases d <;> simp [elemD] at he; subst he; rfl
        have hg : ∀ a n c, (eqGuard op t ox oy (.slice a n c) nl).run P w = .ok () w := by intro a n c; unfold eqGuard; cases op <;> simp
        simp only [Sem.run_bind, hg, Result.andThen_ok]
        cases op <;> simp at h <;> subst h <;> simp [binOp, run_equal_slice_nil w t e _ _ _ hu, plainV]
      · cases h
    | _ => simp [binA] at h
  | emp a0 c0 =>
    cases hy with
    | nils =>
      simp only [binA] at h
      split at h
      · rename_i hb
        obtain ⟨e, he⟩ := Option.isSome_iff_exists.1 hb
        have hu : P.underlying t = some (.slice e) := by
          unfold elemO at he
          cases hu : P.underlying t with
          | none => rw [hu] at he; cases he
          | some d => rw [hu] at he; cases d <;> simp [elemD] at he; subst he; rfl
        have hg : ∀ a n c, (eqGuard op t ox oy (.slice a n c) nl).run P w = .ok () w := by intro a n c; unfold eqGuard; cases op <;> simp
        simp only [Sem.run_bind, hg, Result.andThen_ok]
        cases op <;> simp at h <;> subst h <;> simp [binOp, run_equal_slice_nil w t e _ _ _ hu, plainV]
      · cases h
    | _ => simp [binA] at h
  | @agg cs ds hs hh =>
    have hds : VRs φ cs.toList ds.toList := by
      obtain ⟨ds1, he1, hds⟩ := VR.agg_inv (.agg hs hh)
      cases he1; exact hds
    cases y with
    | agg ys =>
      obtain ⟨ds', rfl, hds'⟩ := hy.agg_inv
      simp only [binA] at h
      split at h
      · rename_i hok
        obtain ⟨hok, hlen⟩ := hok
        have key : ∀ r, eqCells cs.toList ys.toList = some r → (eqGuard op t ox oy (.agg ds) (.agg ds')).run P w = .ok () w ∧ (Op.equalIn 10000 t (.agg ds) (.agg ds')).run P w = .ok r w := by
          intro r hr
          obtain ⟨e1, e2⟩ := eqCells_VRs hr hds hds'
          have e1' : ds = cs := Array.toList_inj.1 e1
          have e2' : ds' = ys := Array.toList_inj.1 e2
          subst e1'; subst e2'
          unfold eqOk at hok
          simp only [Bool.and_eq_true, Bool.not_eq_true'] at hok
          obtain ⟨⟨⟨hf, hpos⟩, hst⟩, heg⟩ := hok
          cases hu : P.underlying t with
          | none => rw [hu] at hf; cases hf
          | some d =>
            rw [hu] at hf
            cases d with
            | struct fs =>
              have hfo : P.fieldsOf t = fs := by simp [Program.fieldsOf, hu]
              refine ⟨run_eqGuard_agg w op t ox oy ds ds' heg, ?_⟩
              rw [run_equalIn_struct w 9999 t ds ds' (by rw [hfo]; exact hu) hst, hfo]
              refine eqFields_sound 9998 w fs.toList 0 r hf (by simpa using hr) ?_
              have hfl : (fldsO P t |>.getD []).length = fs.toList.length := by
                unfold fldsO
                rw [hu]
                simp only [Option.bind_some, fldsD]
                have : ∀ (l : List Field) (i : Nat), eqFl P i l = true → ∃ r, l.mapM (fun f => (P.info? f.type).map fun i => (f.offset, i.size)) = some r ∧ r.length = l.length := by
                  intro l
                  induction l with
                  | nil => intro i _; exact ⟨[], rfl, rfl⟩
                  | cons f l ih =>
                    intro i hfl
                    simp only [eqFl, Bool.and_eq_true] at hfl
                    obtain ⟨⟨⟨_, _⟩, hi⟩, hrest⟩ := hfl
                    obtain ⟨r, hr, hrl⟩ := ih _ hrest
                    have : ∃ it, P.info? f.type = some it := by
                      unfold intO Program.underlying at hi
                      cases hh : P.info? f.type with
                      | none => rw [hh] at hi; simp at hi
                      | some it => exact ⟨it, rfl⟩
                    obtain ⟨it, hit⟩ := this
                    exact ⟨(f.offset, it.size) :: r, by simp [List.mapM_cons, hit, hr], by simp [hrl]⟩
                obtain ⟨r, hr, hrl⟩ := this fs.toList 0 hf
                rw [hr]; simpa using hrl
              simp only [List.drop_zero]
              rw [hlen, hfl]
            | _ => simp at hf
        cases hr : eqCells cs.toList ys.toList with
        | none => rw [hr] at h; cases op <;> simp at h
        | some r =>
          rw [hr] at h
          obtain ⟨k1, k2⟩ := key r hr
          simp only [Sem.run_bind, k1, Result.andThen_ok]
          cases op <;> simp at h <;> subst h <;> simp [run_eql_struct, run_neq_struct, k2, plainV]
      · cases h
    | _ => simp [binA] at h
  | _ => simp [binA] at h

end Go.Proofs.YtpoedfmkiiijnaaAm
