/- The abstract machine, part 8: a region that draws its order: every order that its edges allow gives what the text's order gives. Plain lemmas; no program in sight. -/
import Derived.Test.YtpoedfmkiiijnaaAm7
namespace Go.Proofs.YtpoedfmkiiijnaaAm
open Go Go.RowKit
set_option linter.unusedVariables false
set_option linter.unusedSimpArgs false

inductive K2 where
  | pure
  | load (t : TypeId) (a : Value)
  | new (id : Nat) (b : Blk)
  | eff (T : List Nat)
structure En where
  s : St
  k : K2
  v : Value
  wt : Bool
def OpOk (P : Program) (C : Cx) (ops : Array Oper) (o : Oper) (e : En) (s' : St) : Prop :=
  dstOk C.N o.dst ∧ s'.ts = putT o.dst e.v e.s.ts ∧ wantedA ops o e.s.ts = some e.wt ∧
  (e.wt = false → e.v = uV ∧ e.k = .pure ∧ s'.H = e.s.H) ∧
  (e.wt = true → match e.k with
    | .pure => pureOp P (evO e.s.ts) o.op = some e.v ∧ s'.H = e.s.H
    | .load t a => (∃ x, o.op = .load t x ∧ evO e.s.ts x = some a) ∧ ldA P e.s.H t a = some e.v ∧ s'.H = e.s.H
    | .new id b => ∃ r, newA P (evO e.s.ts) o.op = some r ∧ b = ⟨r.ty, r.cells, true, true⟩ ∧ e.v = r.val id ∧ s'.H = e.s.H.set id b ∧ e.s.H.live id = false ∧ id < e.s.H.length
    | .eff T => isEff o.op = true ∧ SE P C o e.s .eff e.v s'.H T ∧ (∀ d, d ∈ T → e.s.H.live d = true) ∧ e.s.H.length ≤ s'.H.length)

/-- A region's text order, reckoned, with what makes the order not matter. -/
structure Trc (P : Program) (C : Cx) (ops : Array Oper) (E : Nat → En) (pr : Nat → List Nat) (base : Nat) : Prop where
  ok : ∀ i o, ops[i]? = some o → OpOk P C ops o (E i) (E (i + 1)).s
  p1 : ∀ i o, ops[i]? = some o → ∀ j, j ∈ pr i → j < i ∧ ∃ e, e ∈ o.after ∧ Region.binds .any e = true ∧ (e.on = j ∨ (e.on < i ∧ j ∈ pr e.on))
  p2 : ∀ i j oi oj, ops[i]? = some oi → ops[j]? = some oj → i < j → ((∃ d, oi.dst = some d ∧ (d ∈ looks ops oj ∨ oj.dst = some d)) ∨ ∃ d, oj.dst = some d ∧ d ∈ looks ops oi) → i ∈ pr j
  p3 : ∀ i j oi oj, ops[i]? = some oi → ops[j]? = some oj → i < j → isEff oi.op = true → isEff oj.op = true → i ∈ pr j
  p4 : ∀ i o, ops[i]? = some o → ∀ e, e ∈ o.after → Region.binds .any e = true → e.on < i
  cA : ∀ i j t a T, i < j → j < ops.size → (E i).k = .load t a → (E i).wt = true → (E j).k = .eff T → i ∉ pr j → ldA P (E (j + 1)).s.H t a = some (E i).v
  cB : ∀ i j t a T, i < j → j < ops.size → (E i).k = .eff T → (E j).k = .load t a → (E j).wt = true → i ∉ pr j → ldA P (E i).s.H t a = some (E j).v
  cC : ∀ i j id b T, i < j → j < ops.size → (E i).k = .new id b → (E j).k = .eff T → i ∉ pr j → (E (j + 1)).s.H[id]? = (E j).s.H[id]?
  cD : ∀ j id b, j < ops.size → (E j).k = .new id b → ∀ k, k ≤ j → Heap.hot (E k).s.H id = false
  cI : ∀ j id b, j < ops.size → (E j).k = .new id b → id < (E 0).s.H.length ∧ base ≤ id
  cN : ∀ i j id b b', i < j → j < ops.size → (E i).k = .new id b → (E j).k ≠ .new id b'

section
variable {P : Program} {C : Cx} {ops : Array Oper} {E : Nat → En} {pr : Nat → List Nat} {base : Nat}

theorem Trc.uniq (h : Trc P C ops E pr base) {i j id : Nat} {b b' : Blk} (hi : i < ops.size) (hj : j < ops.size) (e1 : (E i).k = .new id b) (e2 : (E j).k = .new id b') : i = j ∧ b = b' := by
  rcases Nat.lt_trichotomy i j with hlt | heq | hgt
  · exact absurd e2 (h.cN i j id b b' hlt hj e1)
  · subst heq; rw [e1] at e2; cases e2; exact ⟨rfl, rfl⟩
  · exact absurd e1 (h.cN j i id b' b hgt hi e2)
theorem opAt {i : Nat} (hi : i < ops.size) : ∃ o, ops[i]? = some o := ⟨ops[i], by simp [hi]⟩
/-- What the operation at i does to the heap, by its kind. -/
theorem Trc.step (h : Trc P C ops E pr base) {i : Nat} (hi : i < ops.size) : (∃ T, (E i).k = .eff T) ∨ (∃ id b, (E i).k = .new id b ∧ (E i).wt = true ∧ (E (i + 1)).s.H = (E i).s.H.set id b ∧ id < (E i).s.H.length ∧ (E i).s.H.live id = false) ∨
    ((E (i + 1)).s.H = (E i).s.H ∧ (∀ id b, (E i).k ≠ .new id b)) := by
  obtain ⟨o, ho⟩ := opAt hi
  obtain ⟨_, _, _, h4, h5⟩ := h.ok i o ho
  cases hw : (E i).wt with
  | false => obtain ⟨_, hk, hH⟩ := h4 hw; exact .inr (.inr ⟨hH, fun id b => by rw [hk]; simp⟩)
  | true =>
    have h5' := h5 hw
    cases hk : (E i).k with
    | pure => rw [hk] at h5'; exact .inr (.inr ⟨h5'.2, fun id b => by simp⟩)
    | load t a => rw [hk] at h5'; exact .inr (.inr ⟨h5'.2.2, fun id b => by simp⟩)
    | eff T => exact .inl ⟨T, rfl⟩
    | new id b =>
      rw [hk] at h5'
      obtain ⟨r, _, _, _, hH, hl, hlt⟩ := h5'
      exact .inr (.inl ⟨id, b, rfl, rfl, hH, hlt, hl⟩)
theorem Trc.stL (h : Trc P C ops E pr base) {k : Nat} : ∀ {k' : Nat}, k ≤ k' → k' ≤ ops.size → (∀ e T, k ≤ e → e < k' → (E e).k ≠ .eff T) → (E k').s.H.length = (E k).s.H.length := by
  intro k'
  induction k' with
  | zero => intro hk _ _; obtain rfl : k = 0 := by omega
            rfl
  | succ m ih =>
    intro hk hn he
    by_cases hkm : k = m + 1
    · subst hkm; rfl
    · have ih' := ih (by omega) (by omega) fun e T h1 h2 => he e T h1 (by omega)
      rcases h.step (show m < ops.size by omega) with ⟨T, hT⟩ | ⟨id, b, _, _, hH, _⟩ | ⟨hH, _⟩
      · exact absurd hT (he m T (by omega) (by omega))
      · rw [hH]; simp [ih']
      · rw [hH]; exact ih'
theorem Trc.stA (h : Trc P C ops E pr base) {k id : Nat} : ∀ {k' : Nat}, k ≤ k' → k' ≤ ops.size → (∀ e T, k ≤ e → e < k' → (E e).k ≠ .eff T) → (∀ j b, k ≤ j → j < k' → (E j).k ≠ .new id b) → (E k').s.H[id]? = (E k).s.H[id]? := by
  intro k'
  induction k' with
  | zero => intro hk _ _ _; obtain rfl : k = 0 := by omega
            rfl
  | succ m ih =>
    intro hk hn he hne
    by_cases hkm : k = m + 1
    · subst hkm; rfl
    · have ih' := ih (by omega) (by omega) (fun e T h1 h2 => he e T h1 (by omega)) fun j b h1 h2 => hne j b h1 (by omega)
      rcases h.step (show m < ops.size by omega) with ⟨T, hT⟩ | ⟨id', b, hk', _, hH, _⟩ | ⟨hH, _⟩
      · exact absurd hT (he m T (by omega) (by omega))
      · have hid : id' ≠ id := fun e => hne m b (by omega) (by omega) (by rw [← e]; exact hk')
        rw [hH, List.getElem?_set_ne hid]; exact ih'
      · rw [hH]; exact ih'
theorem Trc.stB (h : Trc P C ops E pr base) {k j id : Nat} {b : Blk} (hj : (E j).k = .new id b) : ∀ {k' : Nat}, k ≤ j → j < k' → k' ≤ ops.size → (∀ e T, k ≤ e → e < k' → (E e).k ≠ .eff T) → (E k').s.H[id]? = some b := by
  intro k' hkj hjk hn he
  have hstep : (E (j + 1)).s.H[id]? = some b := by
    rcases h.step (show j < ops.size by omega) with ⟨T, hT⟩ | ⟨id', b', hk', _, hH, hlt, _⟩ | ⟨_, hno⟩
    · exact absurd hT (he j T hkj hjk)
    · rw [hj] at hk'; cases hk'; rw [hH]; simp [hlt]
    · exact absurd hj (hno id b)
  rw [← hstep]
  exact h.stA (by omega) hn (fun e T h1 h2 => he e T (by omega) h2) fun i b' h1 h2 e => by
    have := (h.uniq (by omega) (by omega) e hj).1; omega
/-- A new block that no effect waits for stays as it was made. -/
theorem Trc.stC (h : Trc P C ops E pr base) {i id : Nat} {b : Blk} (hi : (E i).k = .new id b) : ∀ {c : Nat}, i < c → c ≤ ops.size → (∀ e T, i < e → e < c → (E e).k = .eff T → i ∉ pr e) → (E c).s.H[id]? = some b := by
  intro c
  induction c with
  | zero => intro h0; omega
  | succ m ih =>
    intro hic hn he
    by_cases him : i = m
    · subst him
      rcases h.step (show i < ops.size by omega) with ⟨T, hT⟩ | ⟨id', b', hk', _, hH, hlt, _⟩ | ⟨_, hno⟩
      · rw [hi] at hT; cases hT
      · rw [hi] at hk'; cases hk'; rw [hH]; simp [hlt]
      · exact absurd hi (hno id b)
    · have ih' := ih (by omega) (by omega) fun e T h1 h2 => he e T h1 (by omega)
      rcases h.step (show m < ops.size by omega) with ⟨T, hT⟩ | ⟨id', b', hk', _, hH, _⟩ | ⟨hH, _⟩
      · rw [h.cC i m id b T (by omega) (by omega) hi hT (he m T (by omega) (by omega) hT)]; exact ih'
      · have hid : id' ≠ id := fun e => by
          have := (h.uniq (by omega) (by omega) (e ▸ hk') hi).1; omega
        rw [hH, List.getElem?_set_ne hid]; exact ih'
      · rw [hH]; exact ih'

/-- The slots behind those operations below k that have come up. -/
def absL (ops : Array Oper) (E : Nat → En) (ts0 : List (Nat × Value)) (X : Nat → Bool) : Nat → List (Nat × Value)
  | 0 => ts0
  | k + 1 => match ops[k]? with
    | some o => if X k then putT o.dst (E k).v (absL ops E ts0 X k) else absL ops E ts0 X k
    | none => absL ops E ts0 X k
theorem getT_putT_ne {dst : Option Tmp} {v : Value} {ts : List (Nat × Value)} {t : Nat} (h : dst ≠ some t) : getT (putT dst v ts) t = getT ts t := by
  cases dst with
  | none => rfl
  | some d => simp only [putT, getT]; rw [if_neg fun e => h (by rw [e])]
theorem Trc.text (h : Trc P C ops E pr base) : ∀ k, k ≤ ops.size → (E k).s.ts = absL ops E (E 0).s.ts (fun _ => true) k := by
  intro k
  induction k with
  | zero => intro _; rfl
  | succ m ih =>
    intro hk
    obtain ⟨o, ho⟩ := opAt (ops := ops) (show m < ops.size by omega)
    obtain ⟨_, h2, _⟩ := h.ok m o ho
    simp only [absL, ho, if_true]
    rw [h2, ih (by omega)]
/-- At its turn an operation finds in its slots what the text's order gives it. -/
theorem Trc.look (h : Trc P C ops E pr base) {X : Nat → Bool} {i : Nat} {o : Oper} (ho : ops[i]? = some o) (hX : X i = false) (hcl : ∀ j, X j = true → ∀ m, m ∈ pr j → X m = true) (hpr : ∀ j, j ∈ pr i → X j = true)
    {t : Nat} (ht : t ∈ looks ops o ∨ o.dst = some t) : getT (absL ops E (E 0).s.ts X ops.size) t = getT (E i).s.ts t := by
  have hin : i < ops.size := (Array.getElem?_eq_some_iff.1 ho).1
  have h1 : ∀ k, k ≤ i → getT (absL ops E (E 0).s.ts X k) t = getT (absL ops E (E 0).s.ts (fun _ => true) k) t := by
    intro k
    induction k with
    | zero => intro _; rfl
    | succ m ih =>
      intro hk
      obtain ⟨om, hom⟩ := opAt (ops := ops) (show m < ops.size by omega)
      have ih' := ih (by omega)
      simp only [absL, hom, if_true]
      by_cases hd : om.dst = some t
      · have hm : m ∈ pr i := h.p2 m i om o hom ho (by omega) (.inl ⟨t, hd, ht.imp id id⟩)
        rw [if_pos (hpr m hm), hd]
        simp [putT, getT]
      · rw [getT_putT_ne hd]
        split
        · rw [getT_putT_ne hd]; exact ih'
        · exact ih'
  have h2 : ∀ d, i + d ≤ ops.size → getT (absL ops E (E 0).s.ts X (i + d)) t = getT (absL ops E (E 0).s.ts X i) t := by
    intro d
    induction d with
    | zero => intro _; rfl
    | succ d ih =>
      intro hk
      obtain ⟨om, hom⟩ := opAt (ops := ops) (show i + d < ops.size by omega)
      have ih' := ih (by omega)
      rw [show i + (d + 1) = i + d + 1 by omega]
      simp only [absL, hom]
      split
      · rename_i hx
        have hd : om.dst ≠ some t := fun hd => by
          by_cases h0 : d = 0
          · subst h0; simp [hX] at hx
          · have hm : i ∈ pr (i + d) := h.p2 i (i + d) o om ho hom (by omega) (by
              rcases ht with ht | ht
              · exact .inr ⟨t, hd, ht⟩
              · exact .inl ⟨t, ht, .inr hd⟩)
            rw [hcl (i + d) hx i hm] at hX; cases hX
        rw [getT_putT_ne hd]; exact ih'
      · exact ih'
  have := h2 (ops.size - i) (by omega)
  rw [show i + (ops.size - i) = ops.size by omega] at this
  rw [this, h1 i (Nat.le_refl _), ← h.text i (by omega)]
/-- Behind it its slot holds what it gave, the others what they held. -/
theorem Trc.put (h : Trc P C ops E pr base) {X : Nat → Bool} {i : Nat} {o : Oper} (ho : ops[i]? = some o) (hX : X i = false) (hcl : ∀ j, X j = true → ∀ m, m ∈ pr j → X m = true)
    (t : Nat) : getT (absL ops E (E 0).s.ts (fun j => if j = i then true else X j) ops.size) t = getT (putT o.dst (E i).v (absL ops E (E 0).s.ts X ops.size)) t := by
  have hin : i < ops.size := (Array.getElem?_eq_some_iff.1 ho).1
  have h1 : ∀ k, k ≤ i → absL ops E (E 0).s.ts (fun j => if j = i then true else X j) k = absL ops E (E 0).s.ts X k := by
    intro k
    induction k with
    | zero => intro _; rfl
    | succ m ih =>
      intro hk
      simp only [absL, ih (by omega)]
      rw [if_neg (show ¬ m = i by omega)]
  have h2 : ∀ d, i + 1 + d ≤ ops.size → getT (absL ops E (E 0).s.ts (fun j => if j = i then true else X j) (i + 1 + d)) t = getT (putT o.dst (E i).v (absL ops E (E 0).s.ts X (i + 1 + d))) t := by
    intro d
    induction d with
    | zero =>
      intro _
      simp only [Nat.add_zero, absL, ho, h1 i (Nat.le_refl _), if_true, hX, Bool.false_eq_true, if_false]
    | succ d ih =>
      intro hk
      obtain ⟨om, hom⟩ := opAt (ops := ops) (show i + 1 + d < ops.size by omega)
      have ih' := ih (by omega)
      rw [show i + 1 + (d + 1) = i + 1 + d + 1 by omega]
      simp only [absL, hom]
      have hne0 : ¬ i + 1 + d = i := by omega
      simp only [hne0, if_false]
      split
      · rename_i hx
        by_cases hd : om.dst = some t
        · have hne : o.dst ≠ some t := fun hd' => by
            have hm : i ∈ pr (i + 1 + d) := h.p2 i (i + 1 + d) o om ho hom (by omega) (.inl ⟨t, hd', .inr hd⟩)
            rw [hcl _ hx i hm] at hX; cases hX
          rw [getT_putT_ne hne, hd]
          simp [putT, getT]
        · rw [getT_putT_ne hd, ih']
          by_cases hd' : o.dst = some t
          · rw [hd']; simp [putT, getT]
          · rw [getT_putT_ne hd', getT_putT_ne hd', getT_putT_ne hd]
      · exact ih'
  have := h2 (ops.size - (i + 1)) (by omega)
  rw [show i + 1 + (ops.size - (i + 1)) = ops.size by omega] at this
  exact this

/-- The heap that is meant when the operations of X have come up, those with an effect being all below c. -/
def VS (n : Nat) (E : Nat → En) (c : Nat) (X : Nat → Bool) (V : Heap) : Prop :=
  V.length = (E c).s.H.length ∧ ∀ id, (∀ i b, c ≤ i → i < n → X i = true → (E i).k = .new id b → V[id]? = some b) ∧ ((∀ i b, c ≤ i → i < n → X i = true → (E i).k ≠ .new id b) → V[id]? = (E c).s.H[id]?)
open Classical in
theorem Trc.exV (h : Trc P C ops E pr base) (c : Nat) (X : Nat → Bool) (hlt : ∀ i id b, c ≤ i → i < ops.size → (E i).k = .new id b → id < (E c).s.H.length) : ∃ V, VS ops.size E c X V := by
  refine ⟨(E c).s.H.mapIdx fun id b => if hx : ∃ b', ∃ i, c ≤ i ∧ i < ops.size ∧ X i = true ∧ (E i).k = .new id b' then hx.choose else b, by simp, fun id => ⟨?_, ?_⟩⟩
  · intro i b h1 h2 h3 h4
    have hx : ∃ b', ∃ i, c ≤ i ∧ i < ops.size ∧ X i = true ∧ (E i).k = .new id b' := ⟨b, i, h1, h2, h3, h4⟩
    have hlen := hlt i id b h1 h2 h4
    obtain ⟨j, _, hj2, _, hj4⟩ := hx.choose_spec
    have := (h.uniq h2 hj2 h4 hj4).2
    rw [List.getElem?_mapIdx, List.getElem?_eq_getElem hlen]
    simp only [Option.map_some]
    rw [dif_pos hx, ← this]
  · intro hno
    have hx : ¬ ∃ b', ∃ i, c ≤ i ∧ i < ops.size ∧ X i = true ∧ (E i).k = .new id b' := fun ⟨b', i, h1, h2, h3, h4⟩ => hno i b' h1 h2 h3 h4
    rw [List.getElem?_mapIdx]
    cases (E c).s.H[id]? with
    | none => rfl
    | some b => simp only [Option.map_some]; rw [dif_neg hx]

/-- What holds when the operations of X have come up. -/
structure Mid (P : Program) (C : Cx) (ops : Array Oper) (E : Nat → En) (B0 : Nat) (φ0 : Phi) (w0 : World) (X : Nat → Bool) (a : Act) (w : World) : Prop where
  mk ::
  out : ∃ φ c V, c ≤ ops.size ∧ (∀ e T, e < ops.size → (E e).k = .eff T → (X e = true ↔ e < c)) ∧ VS ops.size E c X V ∧ Inv P B0 C.n0 C.D φ0 w0 φ V w ∧
    TR φ (absL ops E (E 0).s.ts X ops.size) a.tmps ∧ a.tmps.size = C.N ∧ a.defers = [] ∧
    (∀ i id b, i < ops.size → (E i).k = .new id b → X i = false → φ id = none) ∧
    (∀ i id b, c ≤ i → i < ops.size → (E i).k = .new id b → X i = true → ∀ id' L L', id' ≠ id → φ id' = some L → φ id = some L' → L.blk ≠ L'.blk) ∧
    (∀ i id b, i < ops.size → (E i).k = .new id b → id < (E c).s.H.length) ∧ (∀ i id b, i < ops.size → (E i).k = .new id b → X i = true → ∃ L, φ id = some L)

def setX (X : Nat → Bool) (i : Nat) : Nat → Bool := fun j => if j = i then true else X j
/-- The first effect from c on, if there is one below i; else i. -/
theorem firstEff (E : Nat → En) (c i : Nat) (hci : c ≤ i) : ∃ k, c ≤ k ∧ k ≤ i ∧ (∀ e T, c ≤ e → e < k → (E e).k ≠ .eff T) ∧ (k = i ∨ ∃ T, (E k).k = .eff T) := by
  induction i with
  | zero => exact ⟨0, hci, Nat.le_refl _, fun e T h1 h2 => by omega, .inl rfl⟩
  | succ m ih =>
    by_cases h : c = m + 1
    · exact ⟨m + 1, hci, Nat.le_refl _, fun e T h1 h2 => by omega, .inl rfl⟩
    · obtain ⟨k, h1, h2, h3, h4⟩ := ih (by omega)
      rcases h4 with rfl | ⟨T, hT⟩
      · by_cases hk : ∃ T, (E k).k = .eff T
        · exact ⟨k, h1, by omega, h3, .inr hk⟩
        · exact ⟨k + 1, by omega, Nat.le_refl _, fun e T h5 h6 => by
            by_cases he : e = k
            · subst he; exact fun h7 => hk ⟨T, h7⟩
            · exact h3 e T h5 (by omega), .inl rfl⟩
      · exact ⟨k, h1, by omega, h3, .inr ⟨T, hT⟩⟩

theorem Trc.move (h : Trc P C ops E pr base) (hb0 : C.n0 ≤ base) {B0 : Nat} {φ0 : Phi} {w0 w : World} {X : Nat → Bool} {a : Act} (hm : Mid P C ops E B0 φ0 w0 X a w) (hcl : ∀ j, X j = true → ∀ m, m ∈ pr j → X m = true)
    {i : Nat} {o : Oper} (ho : ops[i]? = some o) (hX : X i = false) (hpr : ∀ j, j ∈ pr i → X j = true) {Q : Exit → Act → World → Prop} {K : Act → World → Prop}
    (hK : ∀ a' w', Mid P C ops E B0 φ0 w0 (setX X i) a' w' → K a' w') : wpOp P ops Q i K a w := by
  have hin : i < ops.size := (Array.getElem?_eq_some_iff.1 ho).1
  obtain ⟨φ, c, V, hc, hcut, hV, hi, ht, hN, hd, hfree, hearly, hids, hset⟩ := hm.out
  obtain ⟨hdst, hts, hwant, hskip, hgo⟩ := h.ok i o ho
  -- the slots at which the operation looks
  have hlook : TR φ (only (looks ops o) (E i).s.ts) a.tmps := by
    intro t v hv
    rw [getT_only] at hv
    split at hv
    · rename_i htm
      rw [← h.look ho hX hcl hpr (.inl htm)] at hv
      exact ht t v hv
    · cases hv
  have hw' : Region.wanted o (yielded ops a.tmps) = (E i).wt := wantedA_sound hlook (by rw [wanted_only]; exact hwant)
  have hput : ∀ {φ' : Phi} {v' : Value}, φ.le φ' → VR φ' (E i).v v' → TR φ' (absL ops E (E 0).s.ts (setX X i) ops.size) (a.put o.dst v').tmps := by
    intro φ' v' hle hv
    have h1 : TR φ' (putT o.dst (E i).v (absL ops E (E 0).s.ts X ops.size)) (a.put o.dst v').tmps := by
      cases hdd : o.dst with
      | none => exact ht.mono hle
      | some d => exact (ht.mono hle).put (by rw [hdd] at hdst; rw [hN]; exact hdst) hv
    exact h1.sub fun t u hu => by rw [← h.put ho hX hcl t]; exact hu
  have hsz : ∀ v', (a.put o.dst v').tmps.size = C.N ∧ (a.put o.dst v').defers = [] := fun v' => by
    cases o.dst <;> simp [Act.put, hN, hd]
  have hXe : ∀ j, j ≠ i → setX X i j = X j := fun j hj => by simp [setX, hj]
  have hXi : setX X i i = true := by simp [setX]
  -- neither a new block nor an effect: only the slot turns
  have still : ∀ v', VR φ (E i).v v' → (∀ id b, (E i).k ≠ .new id b) → (∀ T, (E i).k ≠ .eff T) → Mid P C ops E B0 φ0 w0 (setX X i) (a.put o.dst v') w := by
    intro v' hv hnn hne
    refine ⟨φ, c, V, hc, ?_, ⟨hV.1, fun id => ⟨?_, ?_⟩⟩, hi, hput (Phi.le_refl _) hv, (hsz v').1, (hsz v').2, ?_, ?_, hids, ?_⟩
    · intro e T he hk
      rw [hXe e fun e' => hne T (by rw [← e']; exact hk)]; exact hcut e T he hk
    · intro j b h1 h2 h3 h4
      exact (hV.2 id).1 j b h1 h2 (by rwa [hXe j fun e' => hnn id b (by rw [← e']; exact h4)] at h3) h4
    · intro hno
      exact (hV.2 id).2 fun j b h1 h2 h3 h4 => hno j b h1 h2 (by rw [hXe j fun e' => hnn id b (by rw [← e']; exact h4)]; exact h3) h4
    · intro j id b h1 h2 h3
      exact hfree j id b h1 h2 (by rwa [hXe j fun e' => hnn id b (by rw [← e']; exact h2)] at h3)
    · intro j id b h1 h2 h3 h4
      exact hearly j id b h1 h2 h3 (by rwa [hXe j fun e' => hnn id b (by rw [← e']; exact h3)] at h4)
    · intro j id b h1 h2 h3
      exact hset j id b h1 h2 (by rwa [hXe j fun e' => hnn id b (by rw [← e']; exact h2)] at h3)
  unfold wpOp
  simp only [ho]
  cases hwt : (E i).wt with
  | false =>
    rw [hwt] at hw'
    obtain ⟨hv, hk, _⟩ := hskip hwt
    rw [if_neg (by simp [hw'])]
    exact hK _ _ (still undef (by rw [hv]; exact uV_VR φ) (by rw [hk]; simp) (by rw [hk]; simp))
  | true =>
    rw [hwt] at hw'
    rw [if_pos hw']
    refine .inl ?_
    have hgo' := hgo hwt
    have hev : ∀ x u, evO (only (looks ops o) (E i).s.ts) x = some u → VR φ u (a.eval x) := fun x u hx => evO_VR hlook hx
    unfold Oper.wp
    cases hk : (E i).k with
    | pure =>
      rw [hk] at hgo'
      obtain ⟨v', h1, h2⟩ := pure_sound hev (by rw [pure_only]; exact hgo'.1)
      rw [h2 w]
      exact hK _ _ (still v' h1 (by rw [hk]; simp) (by rw [hk]; simp))
    | load t x0 =>
      rw [hk] at hgo'
      obtain ⟨⟨x, hox, hx⟩, hld, hH⟩ := hgo'
      have hxl : evO (only (looks ops o) (E i).s.ts) x = some x0 := by
        rw [evO_only (names_mem (ops := ops) (o := o) (by rw [hox]; simp [Op.operands]))]; exact hx
      have hvx := hev x x0 hxl
      -- where the cell is read
      have hldV : ldA P V t x0 = some (E i).v := by
        have hldi := hld
        unfold ldA at hld
        split at hld
        · rename_i id off
          obtain ⟨L, hL⟩ : ∃ L, φ id = some L := by
            generalize a.eval x = ex at hvx
            cases hvx with | ptr hL => exact ⟨_, hL⟩
          have hexec : ∀ j b, j < ops.size → (E j).k = .new id b → X j = true := fun j b hj hjk => by
            cases hx : X j with
            | true => rfl
            | false => rw [hfree j id b hj hjk hx] at hL; cases hL
          have same : ∀ G : Heap, G[id]? = V[id]? → ldA P G t (pt id off) = some (E i).v → ldA P V t (pt id off) = some (E i).v := by
            intro G hG hl
            have hcell : ∀ q, Heap.cell V id q = Heap.cell G id q := fun q => by unfold Heap.cell; rw [hG]
            have hldc : ∀ n o', ldC V id o' n = ldC G id o' n := by
              intro n
              induction n with
              | zero => intro o'; rfl
              | succ n ih => intro o'; simp only [ldC, hcell, ih]
            rw [← hl]
            simp only [ldA, hcell, hldc]
          have dead : ∀ k j b, k ≤ j → j < ops.size → (E j).k = .new id b → ldA P (E k).s.H t (pt id off) = some (E i).v → False := by
            intro k j b hkj hj hjk hl
            have hlk := Heap.live_of_hot_f (h.cD j id b hj hjk k hkj)
            have hcn : ∀ q, Heap.cell (E k).s.H id q = none := fun q => by
              cases hq : Heap.cell (E k).s.H id q with
              | none => rfl
              | some u => rw [Heap.live_of_cell hq] at hlk; cases hlk
            simp only [ldA] at hl
            split at hl
            · simp only [ldC, hcn] at hl; cases hl
            · rw [hcn] at hl; cases hl
            · cases hl
          -- the stage at which the text reads it
          have stage : ∃ k, k ≤ ops.size ∧ ldA P (E k).s.H t (pt id off) = some (E i).v ∧ ((c ≤ k ∧ ∀ e T, c ≤ e → e < k → (E e).k ≠ .eff T) ∨ (k ≤ c ∧ ∀ e T, k ≤ e → e < c → (E e).k ≠ .eff T)) := by
            by_cases hci : c ≤ i
            · obtain ⟨k, k1, k2, k3, k4⟩ := firstEff E c i hci
              refine ⟨k, by omega, ?_, .inl ⟨k1, k3⟩⟩
              rcases k4 with rfl | ⟨T, hT⟩
              · exact hldi
              · by_cases hki : k = i
                · rw [hki]; exact hldi
                · refine h.cB k i t _ T (by omega) hin hT hk hwt fun hmem => ?_
                  have := (hcut k T (by omega) hT).1 (hpr k hmem)
                  omega
            · -- the last effect below c
              have last : ∀ q, i + q ≤ c → ∃ k, i ≤ k ∧ k ≤ i + q ∧ ldA P (E k).s.H t (pt id off) = some (E i).v ∧ ∀ e T, k ≤ e → e < i + q → (E e).k ≠ .eff T := by
                intro q
                induction q with
                | zero => intro _; exact ⟨i, Nat.le_refl _, Nat.le_refl _, hldi, fun e T h1 h2 => by omega⟩
                | succ q ih =>
                  intro hq
                  obtain ⟨k, k1, k2, k3, k4⟩ := ih (by omega)
                  by_cases hef : ∃ T, (E (i + q)).k = .eff T
                  · obtain ⟨T, hT⟩ := hef
                    have hqi : i < i + q := by
                      rcases Nat.eq_zero_or_pos q with h0 | h0
                      · subst h0; rw [Nat.add_zero, hk] at hT; cases hT
                      · omega
                    refine ⟨i + q + 1, by omega, by omega, ?_, fun e T' h1 h2 => by omega⟩
                    refine h.cA i (i + q) t _ T hqi (by omega) hk hwt hT fun hmem => ?_
                    have hx := (hcut (i + q) T (by omega) hT).2 (by omega)
                    rw [hcl (i + q) hx i hmem] at hX; cases hX
                  · refine ⟨k, k1, by omega, k3, fun e T h1 h2 => ?_⟩
                    by_cases he : e = i + q
                    · subst he; exact fun h7 => hef ⟨T, h7⟩
                    · exact k4 e T h1 (by omega)
              obtain ⟨k, k1, k2, k3, k4⟩ := last (c - i) (by omega)
              rw [show i + (c - i) = c by omega] at k2 k4
              exact ⟨k, by omega, k3, .inr ⟨k2, k4⟩⟩
          obtain ⟨k, hkn, hlk, hst⟩ := stage
          refine same (E k).s.H ?_ hlk
          by_cases hnew : ∃ j b, j < ops.size ∧ (E j).k = .new id b
          · obtain ⟨j, b, hj, hjk⟩ := hnew
            have hjlt : j < k := Nat.lt_of_not_le fun hle => dead k j b hle hj hjk hlk
            have hxj := hexec j b hj hjk
            rcases hst with ⟨hck, hne⟩ | ⟨hkc, hne⟩
            · by_cases hcj : c ≤ j
              · rw [(hV.2 id).1 j b hcj hj hxj hjk]
                exact h.stB hjk hcj hjlt hkn hne
              · rw [(hV.2 id).2 fun q b' h1 h2 h3 h4 => by have := (h.uniq h2 hj h4 hjk).1; omega]
                exact h.stA hck hkn hne fun q b' h1 h2 h4 => by have := (h.uniq (by omega) hj h4 hjk).1; omega
            · rw [(hV.2 id).2 fun q b' h1 h2 h3 h4 => by have := (h.uniq h2 hj h4 hjk).1; omega]
              exact (h.stA hkc hc hne fun q b' h1 h2 h4 => by have := (h.uniq (by omega) hj h4 hjk).1; omega).symm
          · have hno : ∀ q b', q < ops.size → (E q).k ≠ .new id b' := fun q b' h1 h2 => hnew ⟨q, b', h1, h2⟩
            rw [(hV.2 id).2 fun q b' h1 h2 h3 => hno q b' h2]
            rcases hst with ⟨hck, hne⟩ | ⟨hkc, hne⟩
            · exact h.stA hck hkn hne fun q b' h1 h2 => hno q b' (by omega)
            · exact (h.stA hkc hc hne fun q b' h1 h2 => hno q b' (by omega)).symm
        · cases hld
      obtain ⟨r', h1, h2⟩ := ldA_sound hi.hr hvx hldV
      simp only [execOp, hox, Sem.run_bind, h2, Result.andThen_ok, Sem.run_pure]
      exact hK _ _ (still r' h1 (by rw [hk]; simp) (by rw [hk]; simp))
    | new id b =>
      rw [hk] at hgo'
      obtain ⟨r, hr, hb, hv, hH, hl, hlt⟩ := hgo'
      have hn0 : C.n0 ≤ id := Nat.le_trans hb0 (h.cI i id b hin hk).2
      obtain ⟨ty, cs, f⟩ := r
      obtain ⟨ys, cap, sz, v', r1, r2, r3, r4, r5, r6⟩ := newA_core hev (by rw [new_only]; exact hr) w
      have hφ : φ id = none := hfree i id b hin hk hX
      -- the heap that is meant behind it
      have hVV : ∃ V', VS ops.size E c (setX X i) V' ∧ V'[id]? = some b ∧ V'.length = V.length ∧ ∀ id', id' ≠ id → V'[id']? = V[id']? := by
        by_cases hci : c ≤ i
        · have hlV : id < V.length := by rw [hV.1]; exact hids i id b hin hk
          refine ⟨V.set id b, ⟨by simp [hV.1], fun id' => ⟨?_, ?_⟩⟩, by simp [hlV], by simp, fun id' hne => List.getElem?_set_ne (Ne.symm hne)⟩
          · intro j b' h1 h2 h3 h4
            by_cases hji : j = i
            · subst hji; rw [hk] at h4; cases h4; simp [hlV]
            · have hne : id ≠ id' := fun e => hji (h.uniq h2 hin h4 (e ▸ hk)).1
              rw [List.getElem?_set_ne hne]
              exact (hV.2 id').1 j b' h1 h2 (by rwa [hXe j hji] at h3) h4
          · intro hno
            have hne : id ≠ id' := fun e => hno i b hci hin hXi (e ▸ hk)
            rw [List.getElem?_set_ne hne]
            refine (hV.2 id').2 fun j b' h1 h2 h3 h4 => ?_
            by_cases hji : j = i
            · subst hji; rw [hX] at h3; cases h3
            · exact hno j b' h1 h2 (by rw [hXe j hji]; exact h3) h4
        · have hVid : V[id]? = some b := by
            rw [(hV.2 id).2 fun j b' h1 h2 h3 h4 => by have := (h.uniq h2 hin h4 hk).1; omega]
            refine h.stC hk (by omega) hc fun e T h1 h2 h3 hmem => ?_
            have hx := (hcut e T (by omega) h3).2 h2
            rw [hcl e hx i hmem] at hX; cases hX
          refine ⟨V, ⟨hV.1, fun id' => ⟨?_, ?_⟩⟩, hVid, rfl, fun _ _ => rfl⟩
          · intro j b' h1 h2 h3 h4
            exact (hV.2 id').1 j b' h1 h2 (by rwa [hXe j (by omega)] at h3) h4
          · intro hno
            exact (hV.2 id').2 fun j b' h1 h2 h3 h4 => hno j b' h1 h2 (by rw [hXe j (by omega)]; exact h3) h4
      obtain ⟨V', hV', hVid, hVl, hVo⟩ := hVV
      have hi' : Inv P B0 C.n0 C.D φ0 w0 φ V' w := hi.less (by rw [hVl]; exact hi.len) (fun id' L hL => by rw [hVl]; exact hi.hr.dom id' L hL) fun id' L hL => .inl (hVo id' fun e => by subst e; rw [hφ] at hL; cases hL)
      obtain ⟨k1, k2⟩ := hi'.newAt hφ hn0 (by rw [hVid, hb]) r2 r3 r4 r5
      rw [r1]
      refine hK _ _ ⟨_, c, V', hc, ?_, hV', k1, hput k2 (by rw [hv]; exact r6 _ _ (Phi.set_same _ _ _)), (hsz v').1, (hsz v').2, ?_, ?_, hids, ?_⟩
      · intro e T he hke
        rw [hXe e fun e' => by subst e'; rw [hk] at hke; cases hke]; exact hcut e T he hke
      · intro j id' b' h1 h2 h3
        have hji : j ≠ i := fun e => by subst e; rw [hXi] at h3; cases h3
        have hne : id' ≠ id := fun e => hji (h.uniq h1 hin (e ▸ h2) hk).1
        rw [Phi.set_ne _ _ hne]
        exact hfree j id' b' h1 h2 (by rwa [hXe j hji] at h3)
      · intro j id1 b' h1 h2 h3 h4 id' L L' hne hL hL'
        by_cases hji : j = i
        · subst hji
          rw [hk] at h3; cases h3
          rw [Phi.set_same] at hL'; cases hL'
          rw [Phi.set_ne _ _ hne] at hL
          exact Nat.ne_of_lt (hi.hr.lt id' L hL)
        · have hne1 : id1 ≠ id := fun e => hji (h.uniq h2 hin (e ▸ h3) hk).1
          rw [Phi.set_ne _ _ hne1] at hL'
          by_cases he : id' = id
          · subst he
            rw [Phi.set_same] at hL; cases hL
            exact Nat.ne_of_gt (hi.hr.lt id1 L' hL')
          · rw [Phi.set_ne _ _ he] at hL
            exact hearly j id1 b' h1 h2 h3 (by rwa [hXe j hji] at h4) id' L L' hne hL hL'
      · intro j id' b' h1 h2 h3
        by_cases hji : j = i
        · subst hji; rw [hk] at h2; cases h2; exact ⟨_, Phi.set_same _ _ _⟩
        · obtain ⟨L, hL⟩ := hset j id' b' h1 h2 (by rwa [hXe j hji] at h3)
          exact ⟨L, k2 _ _ hL⟩
    | eff T =>
      rw [hk] at hgo'
      obtain ⟨hie, hse, hlive, hlen⟩ := hgo'
      have hbelow : ∀ e T', e < i → (E e).k = .eff T' → e < c := by
        intro e T' he hke
        obtain ⟨oe, hoe⟩ := opAt (ops := ops) (show e < ops.size by omega)
        have hie' : isEff oe.op = true := by
          obtain ⟨_, _, _, hs', hg'⟩ := h.ok e oe hoe
          cases hwe : (E e).wt with
          | false => obtain ⟨_, hke', _⟩ := hs' hwe; rw [hke] at hke'; cases hke'
          | true => have := hg' hwe; rw [hke] at this; exact this.1
        exact (hcut e T' (by omega) hke).1 (hpr e (h.p3 e i oe o hoe ho he hie' hie))
      have hci : c ≤ i := Nat.le_of_not_lt fun hlt => by
        have := (hcut i T hin hk).2 hlt
        rw [hX] at this; cases this
      have hne : ∀ e T', c ≤ e → e < i → (E e).k ≠ .eff T' := fun e T' h1 h2 h3 => by have := hbelow e T' h2 h3; omega
      have hLi : (E i).s.H.length = V.length := by rw [hV.1]; exact h.stL hci (by omega) hne
      have hexec : ∀ j id b L, j < ops.size → (E j).k = .new id b → φ id = some L → X j = true := fun j id b L hj hjk hL => by
        cases hx : X j with
        | true => rfl
        | false => rw [hfree j id b hj hjk hx] at hL; cases hL
      have hi' : Inv P B0 C.n0 C.D φ0 w0 φ (E i).s.H w := hi.less (by rw [hLi]; exact hi.len) (fun id' L hL => by rw [hLi]; exact hi.hr.dom id' L hL) fun id' L hL => by
        by_cases hnew : ∃ j b, j < ops.size ∧ (E j).k = .new id' b
        · obtain ⟨j, b, hj, hjk⟩ := hnew
          have hxj := hexec j id' b L hj hjk hL
          by_cases hij : i ≤ j
          · exact .inr (h.cD j id' b hj hjk i hij)
          · by_cases hcj : c ≤ j
            · rw [(hV.2 id').1 j b hcj hj hxj hjk]
              exact .inl (h.stB hjk hcj (by omega) (by omega) hne)
            · rw [(hV.2 id').2 fun q b' h1 h2 h3 h4 => by have := (h.uniq h2 hj h4 hjk).1; omega]
              exact .inl (h.stA hci (by omega) hne fun q b' h1 h2 h4 => by have := (h.uniq (by omega) hj h4 hjk).1; omega)
        · have hno : ∀ q b', q < ops.size → (E q).k ≠ .new id' b' := fun q b' h1 h2 => hnew ⟨q, b', h1, h2⟩
          rw [(hV.2 id').2 fun q b' h1 h2 h3 => hno q b' h2]
          exact .inl (h.stA hci (by omega) hne fun q b' h1 h2 => hno q b' (by omega))
      have := (hse.only (ops := ops)).eff_sound (Q := Q) (K := K) (B0 := B0) (φ0 := φ0) (w0 := w0) (w := w) (a := a) hi' hlook
      refine this fun φ' v' w' hv' hinv hle hfr hlen' => hK _ _ ?_
      simp only at hfr hlen'
      obtain ⟨V', hV'⟩ := h.exV (i + 1) (setX X i) fun j id' b' h1 h2 h3 => by
        have := hids j id' b' h2 h3
        rw [← hV.1, ← hLi] at this; omega
      -- a new block that is ahead of its turn lies apart from all others
      have apart : ∀ j id1 b1, i < j → j < ops.size → (E j).k = .new id1 b1 → X j = true → ∃ L1, φ id1 = some L1 ∧ φ' id1 = some L1 ∧ L1.rw = true ∧ V[id1]? = some b1 ∧ w'.heap[L1.blk]? = w.heap[L1.blk]? ∧
          ∀ id' L, id' ≠ id1 → φ' id' = some L → L.blk ≠ L1.blk := by
        intro j id1 b1 hij hj hjk hxj
        obtain ⟨L1, hL1⟩ := hset j id1 b1 hj hjk hxj
        have hdead := Heap.live_of_hot_f (h.cD j id1 b1 hj hjk i (by omega))
        have hear := hearly j id1 b1 (by omega) hj hjk hxj
        refine ⟨L1, hL1, hle _ _ hL1, (hi.high id1 L1 (Nat.le_trans hb0 (h.cI j id1 b1 hj hjk).2) hL1).1, (hV.2 id1).1 j b1 (by omega) hj hxj hjk, hfr.keep _ (hi.hr.lt _ _ hL1) ?_, ?_⟩
        · intro d hdT M hM
          refine hear d M L1 (fun e => ?_) hM hL1
          subst e
          rw [hlive d hdT] at hdead; cases hdead
        · intro id' L hne' hL
          rcases hfr.loc id' L hL with h1 | h1 | ⟨d, hdT, M0, h1, h2⟩
          · exact hear id' L L1 hne' h1 hL1
          · have := hi.hr.lt _ _ hL1; omega
          · rw [← h2]
            refine hear d M0 L1 (fun e => ?_) h1 hL1
            subst e
            rw [hlive d hdT] at hdead; cases hdead
      have hVcase : ∀ id', (∃ j b1, i < j ∧ j < ops.size ∧ (E j).k = .new id' b1 ∧ X j = true ∧ V'[id']? = some b1) ∨ V'[id']? = (E (i + 1)).s.H[id']? := by
        intro id'
        by_cases hnew : ∃ j b1, i + 1 ≤ j ∧ j < ops.size ∧ setX X i j = true ∧ (E j).k = .new id' b1
        · obtain ⟨j, b1, h1, h2, h3, h4⟩ := hnew
          exact .inl ⟨j, b1, by omega, h2, h4, by rwa [hXe j (by omega)] at h3, (hV'.2 id').1 j b1 h1 h2 h3 h4⟩
        · exact .inr ((hV'.2 id').2 fun j b1 h1 h2 h3 h4 => hnew ⟨j, b1, h1, h2, h3, h4⟩)
      have hHR : HR P B0 φ' V' w' := by
        refine ⟨fun id' L hL => by rw [hV'.1]; exact hinv.hr.dom id' L hL, hinv.hr.ro, hinv.hr.lt, ?_, ?_, ?_, ?_, ?_⟩
        · intro id' L q x hL hx
          rcases hVcase id' with ⟨j, b1, h1, h2, h3, h4, h5⟩ | h5
          · obtain ⟨L1, q1, q2, q3, q4, q5, q6⟩ := apart j id' b1 h1 h2 h3 h4
            rw [q2] at hL; cases hL
            have hx' : Heap.cell V id' q = some x := by unfold Heap.cell at hx ⊢; rw [q4, ← h5]; exact hx
            obtain ⟨y, hy, hc'⟩ := hi.hr.cell id' _ q x q1 hx'
            exact ⟨y, hy.mono hle, by rw [cell_same (w := w) q5]; exact hc'⟩
          · exact hinv.hr.cell id' L q x hL (by unfold Heap.cell at hx ⊢; rw [← h5]; exact hx)
        · intro id' L b' hL hr' hb' hl'
          rcases hVcase id' with ⟨j, b1, h1, h2, h3, h4, h5⟩ | h5
          · obtain ⟨L1, q1, q2, q3, q4, q5, q6⟩ := apart j id' b1 h1 h2 h3 h4
            rw [q2] at hL; cases hL
            obtain ⟨s1, s2, cur, sz, s3, s4, s5⟩ := hi.hr.row id' _ b' q1 hr' (by rw [q4, ← h5]; exact hb') hl'
            exact ⟨s1, s2, cur, sz, s3, by rw [q5]; exact s4, s5⟩
          · exact hinv.hr.row id' L b' hL hr' (by rw [← h5]; exact hb') hl'
        · intro id' L b' hL hb' hr'
          rcases hVcase id' with ⟨j, b1, h1, h2, h3, h4, h5⟩ | h5
          · obtain ⟨L1, q1, q2, q3, q4, q5, q6⟩ := apart j id' b1 h1 h2 h3 h4
            rw [q2] at hL; cases hL; exact q3
          · exact hinv.hr.flag id' L b' hL (by rw [← h5]; exact hb') hr'
        · intro id1 id2 L1 L2 hL1 hL2 hr1 hr2 hbe hl1 hl2
          by_cases heq : id1 = id2
          · exact heq
          rcases hVcase id1 with ⟨j, b1, h1, h2, h3, h4, h5⟩ | h5
          · obtain ⟨M, q1, q2, q3, q4, q5, q6⟩ := apart j id1 b1 h1 h2 h3 h4
            rw [q2] at hL1; cases hL1
            exact absurd hbe.symm (q6 id2 L2 (Ne.symm heq) hL2)
          · rcases hVcase id2 with ⟨j, b1, h1, h2, h3, h4, h6⟩ | h6
            · obtain ⟨M, q1, q2, q3, q4, q5, q6⟩ := apart j id2 b1 h1 h2 h3 h4
              rw [q2] at hL2; cases hL2
              exact absurd hbe (q6 id1 L1 heq hL1)
            · exact hinv.hr.inj id1 id2 L1 L2 hL1 hL2 hr1 hr2 hbe (by unfold Heap.hot at hl1 ⊢; rw [← h5]; exact hl1) (by unfold Heap.hot at hl2 ⊢; rw [← h6]; exact hl2)
        · intro id' L b' hL hb' hl' hr'
          rcases hVcase id' with ⟨j, b1, h1, h2, h3, h4, h5⟩ | h5
          · obtain ⟨L1, q1, q2, q3, q4, q5, q6⟩ := apart j id' b1 h1 h2 h3 h4
            rw [q2] at hL; cases hL
            obtain ⟨s1, s2⟩ := hi.hr.mp id' _ b' q1 (by rw [q4, ← h5]; exact hb') hl' hr'
            exact ⟨s1, by rw [q5]; exact s2⟩
          · exact hinv.hr.mp id' L b' hL (by rw [← h5]; exact hb') hl' hr'
      refine ⟨φ', i + 1, V', by omega, ?_, hV', ⟨hHR, hinv.b0, by rw [hV'.1]; exact hinv.len, hinv.dom0, hinv.low, hinv.high, hinv.os, hinv.tape, hinv.output, hinv.size, hinv.keep⟩, hput hle hv', (hsz v').1, (hsz v').2, ?_, ?_, ?_, ?_⟩
      · intro e T' he hke
        by_cases hei : e = i
        · subst hei; rw [hXi]; simp
        · rw [hXe e hei, hcut e T' he hke]
          constructor
          · intro h1; omega
          · intro h1; exact hbelow e T' (by omega) hke
      · intro j id' b' h1 h2 h3
        have hji : j ≠ i := fun e => by subst e; rw [hXi] at h3; cases h3
        have hfr' := hfree j id' b' h1 h2 (by rwa [hXe j hji] at h3)
        rw [hfr.low id' (by have := hids j id' b' h1 h2; rw [← hV.1, ← hLi] at this; exact this)]
        exact hfr'
      · intro j id1 b' h1 h2 h3 h4 id' L L' hne' hL hL'
        obtain ⟨L1, q1, q2, q3, q4, q5, q6⟩ := apart j id1 b' (by omega) h2 h3 (by rwa [hXe j (by omega)] at h4)
        rw [q2] at hL'; cases hL'
        exact q6 id' L hne' hL
      · intro j id' b' h1 h2
        have := hids j id' b' h1 h2
        rw [← hV.1, ← hLi] at this
        omega
      · intro j id' b' h1 h2 h3
        by_cases hji : j = i
        · subst hji; rw [hk] at h2; cases h2
        · obtain ⟨L, hL⟩ := hset j id' b' h1 h2 (by rwa [hXe j hji] at h3)
          exact ⟨L, hle _ _ hL⟩
end
end Go.Proofs.YtpoedfmkiiijnaaAm
