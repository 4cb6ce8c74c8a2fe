/- The abstract machine over stripped code: what a walk does not look at is left out; every step is one simp rule. Plain lemmas; no program in sight. -/
import Derived.Test.YtpoedfmkiiijnaaRng
namespace Go.Proofs.YtpoedfmkiiijnaaAm
open Go Go.RowKit
set_option linter.unusedVariables false
set_option linter.unusedSimpArgs false

/-! ### stripped code -/
structure SOp where
  d : Option Tmp
  op : Op
  g : Option (Tmp × Bool)
  p : List Nat
inductive SC where
  | skip
  | ret
  | exit (id : Nat)
  | seq (a b : SC)
  | cond (c : Operand) (a b : SC)
  | loop (a : SC)
  | block (id : Nat) (a : SC)
  | reg (l : List SOp)
  | drw (m : Nat) (l : List SOp)

def dstB (N : Nat) : Option Tmp → Bool
  | some d => decide (d < N)
  | none => true
def gslot (ops : Array Oper) : Option (Nat × Bool) → Option (Option (Tmp × Bool))
  | none => some none
  | some (j, w) => ((ops[j]?).bind (·.dst)).map fun t => some (t, w)
def sop (N : Nat) (ops : Array Oper) (o : Oper) (p : List Nat) : Option SOp := if dstB N o.dst = true then (gslot ops o.guard).map fun g => ⟨o.dst, o.op, g, p⟩ else none
def sops (N : Nat) (ops : Array Oper) : List Oper → List (List Nat) → Option (List SOp)
  | [], _ => some []
  | o :: l, pr => match sop N ops o (pr.headD []), sops N ops l pr.tail with
    | some a, some r => some (a :: r)
    | _, _ => none
def prGo : List Oper → List (List Nat) → List (List Nat)
  | [], acc => acc
  | o :: l, acc => prGo l (acc ++ [((o.after.toList.filter (Region.binds .any)).flatMap fun e => e.on :: acc.getD e.on []).eraseDups])
def isNew : Op → Bool
  | .alloc _ | .box _ _ | .buildSlice _ _ _ | .makeSlice _ _ _ => true
  | _ => false
def stripC (N : Nat) : Code → Option SC
  | .skip => some .skip
  | .ret => some .ret
  | .exit id => some (.exit id)
  | .seq a b => match stripC N a, stripC N b with
    | some x, some y => some (.seq x y)
    | _, _ => none
  | .cond c a b => match stripC N a, stripC N b with
    | some x, some y => some (.cond c x y)
    | _, _ => none
  | .loop a => (stripC N a).map .loop
  | .block id a => (stripC N a).map (.block id)
  | .region _ ops false => (sops N ops ops.toList []).map .reg
  | .region _ ops true => if drawOk ops (prGo ops.toList []) = true then (sops N ops ops.toList (prGo ops.toList [])).map (.drw (ops.toList.filter fun o => isNew o.op).length) else none
  | _ => none

/-! ### combinators under which a walk does not look ahead -/
def bindP {α : Type} (x : Option α) (f : α → Prop) : Prop := match x with
  | some a => f a
  | none => False
theorem bindP.cong {α : Type} {x x' : Option α} {f : α → Prop} (h : ∀ _ : Unit, x = x') : bindP x f = bindP x' f := by rw [h ()]
@[simp] theorem bindP_some {α : Type} (a : α) (f : α → Prop) : bindP (some a) f = f a := rfl.trans rfl
@[simp] theorem bindP_none {α : Type} (f : α → Prop) : bindP none f = False := rfl.trans rfl
theorem bindP.el {α : Type} {x : Option α} {f : α → Prop} (h : bindP x f) : ∃ a, x = some a ∧ f a := by
  cases x with
  | none => exact h.elim
  | some a => exact ⟨a, rfl, h⟩
def iteP (w : Bool) (a b : Prop) : Prop := match w with
  | true => a
  | false => b
theorem iteP.cong {w w' : Bool} {a b : Prop} (h : ∀ _ : Unit, w = w') : iteP w a b = iteP w' a b := by rw [h ()]
@[simp] theorem iteP_t (a b : Prop) : iteP true a b = a := rfl.trans rfl
@[simp] theorem iteP_f (a b : Prop) : iteP false a b = b := rfl.trans rfl
def andP (a b : Prop) : Prop := a ∧ b
theorem andP.cong {a a' b : Prop} (h : ∀ _ : Unit, a = a') : andP a b = andP a' b := by rw [h ()]
theorem andP_t (b : Prop) : andP True b = b := by simp [andP]
theorem andP_and (a b c : Prop) : andP (a ∧ b) c = andP a (andP b c) := by simp [andP, and_assoc]

def wantS (g : Option (Tmp × Bool)) (ts : List (Nat × Value)) : Option Bool :=
  match g with
  | none => some true
  | some (t, w) => match getT ts t with
    | some (.bool b) => some (b == w)
    | some (.tuple _) => some false
    | _ => none
@[simp] theorem wantS_n (ts : List (Nat × Value)) : wantS none ts = some true := rfl.trans rfl
@[simp] theorem wantS_s (t : Tmp) (w : Bool) (ts : List (Nat × Value)) : wantS (some (t, w)) ts = match getT ts t with
    | some (.bool b) => some (b == w)
    | some (.tuple _) => some false
    | _ => none := rfl.trans rfl

/-! ### one operation -/
def opS (P : Program) (C : Cx) (op : Op) (s : St) (K : Value → Heap → Prop) : Prop :=
  match op with
  | .load t x => bindP (evO s.ts x) fun a => bindP (ldA P s.H t a) fun v => K v s.H
  | .store t x y => bindP (evO s.ts x) fun a => bindP (evO s.ts y) fun v => bindP (stA P s.H t a v) fun r => andP (wr C.n0 C.D r.1) (K uV r.2)
  | .call { callee := .value fx, args := as, argTypes := _ } => bindP ((evO s.ts fx).bind fnV) fun r => bindP (evL (evO s.ts) as.toList) fun vs =>
      Ask P r.1 (vs ++ r.2) s.H fun v H' Dc => andP (wrL C.n0 C.D Dc) (K v H')
  | .call { callee := .builtin .append, args := as, argTypes := ts } => bindP (evL (evO s.ts) as.toList) fun vs => match vs with
    | [a, b] => bindP (apA P s.H ts.toList a b) fun r => andP (wrO C.n0 C.D r.1) (K r.2.1 r.2.2)
    | _ => False
  | .alloc t => bindP (newA P (evO s.ts) (.alloc t)) fun r => K (r.val s.H.length) (s.H ++ [⟨r.ty, r.cells, true, true⟩])
  | .box t x => bindP (newA P (evO s.ts) (.box t x)) fun r => K (r.val s.H.length) (s.H ++ [⟨r.ty, r.cells, true, true⟩])
  | .buildSlice t n ps => bindP (newA P (evO s.ts) (.buildSlice t n ps)) fun r => K (r.val s.H.length) (s.H ++ [⟨r.ty, r.cells, true, true⟩])
  | .makeSlice t l c => bindP (newA P (evO s.ts) (.makeSlice t l c)) fun r => K (r.val s.H.length) (s.H ++ [⟨r.ty, r.cells, true, true⟩])
  | .lookup t x y false => bindP (evO s.ts x) fun m => bindP (evO s.ts y) fun k => bindP (lookA P s.H t m k) fun v => K v s.H
  | .mapUpdate t x y z => bindP (evO s.ts x) fun m => bindP (evO s.ts y) fun k => bindP (evO s.ts z) fun v => bindP (mputA P s.H t m k v) fun r => andP (wr C.n0 C.D r.1) (K uV r.2)
  | .makeMap t none => K (.map (some s.H.length)) (s.H ++ [⟨t, [], true, false⟩])
  | op => bindP (pureOp P (evO s.ts) op) fun v => K v s.H
theorem opS.cong {P : Program} {C : Cx} {op : Op} {s s' : St} {K : Value → Heap → Prop} (h : ∀ _ : Unit, s = s') : opS P C op s K = opS P C op s' K := by rw [h ()]
theorem evL_len {ρ : Operand → Option Value} : ∀ {l : List Operand} {vs : List Value}, evL ρ l = some vs → l.length = vs.length
  | [], vs, h => by cases h; rfl
  | x :: r, vs, h => by
    simp only [evL] at h
    split at h
    · rename_i v l h1 h2; cases h; simp [evL_len h2]
    · cases h
theorem evL2 {ρ : Operand → Option Value} {l : List Operand} {a b : Value} (h : evL ρ l = some [a, b]) : ∃ x y, l = [x, y] ∧ ρ x = some a ∧ ρ y = some b := by
  have hl := evL_len h
  match l, hl, h with
  | [x, y], _, h =>
    simp only [evL] at h
    cases hx : ρ x with
    | none => rw [hx] at h; cases hy : ρ y <;> simp [hy] at h
    | some u =>
      cases hy : ρ y with
      | none => rw [hx, hy] at h; simp at h
      | some w => rw [hx, hy] at h; simp at h; exact ⟨x, y, rfl, by rw [hx, h.1], by rw [hy, h.2]⟩
theorem opS_SE {P : Program} {C : Cx} {o : Oper} {s : St} {K : Value → Heap → Prop} (h : opS P C o.op s K) : ∃ k v H' T, SE P C o s k v H' T ∧ K v H' := by
  obtain ⟨dst, op, type, pos, after, guard⟩ := o
  unfold opS at h
  simp only at h
  split at h
  · obtain ⟨a, h1, h⟩ := h.el; obtain ⟨v, h2, h⟩ := h.el; exact ⟨_, _, _, _, .load rfl h1 h2, h⟩
  · obtain ⟨a, h1, h⟩ := h.el; obtain ⟨v, h2, h⟩ := h.el; obtain ⟨r, h3, h⟩ := h.el; exact ⟨_, _, _, _, .store rfl h1 h2 h3 h.1, h.2⟩
  · obtain ⟨r, h1, h⟩ := h.el; obtain ⟨vs, h2, h⟩ := h.el
    obtain ⟨v, H', Dc, h3, h4, h5⟩ := h
    obtain ⟨u, hu, hf⟩ := Option.bind_eq_some_iff.1 h1
    obtain ⟨cap, rfl, hcap⟩ := fnV_eq hf
    rw [← hcap] at h3
    exact ⟨_, _, _, _, .call rfl hu h2 h3 h4, h5⟩
  · obtain ⟨vs, h1, h⟩ := h.el
    split at h
    · rename_i a b
      obtain ⟨x, y, hxy, hx, hy⟩ := evL2 h1
      obtain ⟨r, h3, h⟩ := h.el
      exact ⟨_, _, _, _, .append rfl hxy hx hy h3 h.1, h.2⟩
    · exact h.elim
  · obtain ⟨r, h1, h⟩ := h.el; exact ⟨_, _, _, _, .new h1, h⟩
  · obtain ⟨r, h1, h⟩ := h.el; exact ⟨_, _, _, _, .new h1, h⟩
  · obtain ⟨r, h1, h⟩ := h.el; exact ⟨_, _, _, _, .new h1, h⟩
  · obtain ⟨r, h1, h⟩ := h.el; exact ⟨_, _, _, _, .new h1, h⟩
  · obtain ⟨m, h1, h⟩ := h.el; obtain ⟨k, h2, h⟩ := h.el; obtain ⟨v, h3, h⟩ := h.el; exact ⟨_, _, _, _, .look rfl h1 h2 h3, h⟩
  · obtain ⟨m, h1, h⟩ := h.el; obtain ⟨k, h2, h⟩ := h.el; obtain ⟨v, h3, h⟩ := h.el; obtain ⟨r, h4, h⟩ := h.el; exact ⟨_, _, _, _, .mput rfl h1 h2 h3 h4 h.1, h.2⟩
  · exact ⟨_, _, _, _, .mnew rfl, h⟩
  · obtain ⟨v, h1, h⟩ := h.el; exact ⟨_, _, _, _, .pure h1, h⟩

/-! ### a region -/
def opsS (P : Program) (C : Cx) : List SOp → St → (St → Prop) → Prop
  | [], s, K => K s
  | o :: l, s, K => bindP (wantS o.g s.ts) fun w => iteP w (opS P C o.op s fun v H' => opsS P C l ⟨putT o.d v s.ts, H'⟩ K) (opsS P C l ⟨putT o.d uV s.ts, s.H⟩ K)
theorem opsS.cong {P : Program} {C : Cx} {l : List SOp} {s s' : St} {K : St → Prop} (h : ∀ _ : Unit, s = s') : opsS P C l s K = opsS P C l s' K := by rw [h ()]
theorem opsS_nil (P : Program) (C : Cx) (s : St) (K : St → Prop) : opsS P C [] s K = K s := rfl
theorem opsS_cons0 (P : Program) (C : Cx) (d op g p) (l : List SOp) (s : St) (K : St → Prop) : opsS P C (⟨d, op, g, p⟩ :: l) s K =
  bindP (wantS g s.ts) fun w => iteP w (opS P C op s fun v H' => opsS P C l ⟨putT d v s.ts, H'⟩ K) (opsS P C l ⟨putT d uV s.ts, s.H⟩ K) := rfl
theorem sop_dst {N : Nat} {ops : Array Oper} {o : Oper} {p : List Nat} {a : SOp} (h : sop N ops o p = some a) : dstOk N o.dst ∧ a.d = o.dst ∧ a.op = o.op ∧ a.p = p ∧ ∀ ts, wantedA ops o ts = wantS a.g ts := by
  unfold sop at h
  split at h
  · rename_i hd
    obtain ⟨g, hg, rfl⟩ := Option.map_eq_some_iff.1 h
    refine ⟨?_, rfl, rfl, rfl, fun ts => ?_⟩
    · unfold dstOk; unfold dstB at hd
      cases e : o.dst with
      | none => trivial
      | some d => rw [e] at hd; simpa using hd
    · unfold wantedA
      unfold gslot at hg
      cases e : o.guard with
      | none => rw [e] at hg; cases hg; rfl
      | some q =>
        obtain ⟨j, w⟩ := q
        rw [e] at hg
        simp only at hg
        obtain ⟨t, ht, hgt⟩ := Option.map_eq_some_iff.1 hg
        subst hgt
        simp only [ht, Option.bind_some]
        rfl
  · cases h
theorem opsS_Ev {P : Program} {C : Cx} {ops : Array Oper} : ∀ {l : List Oper} {pr : List (List Nat)} {q : List SOp} {s : St} {K : St → Prop}, sops C.N ops l pr = some q → opsS P C q s K → ∃ s', OpsEv P C ops l s s' ∧ K s'
  | [], pr, q, s, K, hq, h => by cases hq; exact ⟨s, .nil s, h⟩
  | o :: l, pr, q, s, K, hq, h => by
    simp only [sops] at hq
    split at hq
    · rename_i a r h1 h2
      cases hq
      obtain ⟨d1, d2, d3, d4, d5⟩ := sop_dst h1
      unfold opsS at h
      obtain ⟨w, hw, h⟩ := h.el
      rw [d2, d3] at h
      cases w with
      | true =>
        simp only [iteP_t] at h
        obtain ⟨k, v, H', T, h3, h4⟩ := opS_SE h
        obtain ⟨s', h5, h6⟩ := opsS_Ev h2 h4
        exact ⟨s', .go (by rw [d5]; exact hw) d1 h3 h5, h6⟩
      | false =>
        simp only [iteP_f] at h
        obtain ⟨s', h5, h6⟩ := opsS_Ev h2 h
        exact ⟨s', .skip (by rw [d5]; exact hw) d1 h5, h6⟩
    · cases hq

/-! ### a region that draws its order -/
def chkBS (P : Program) (p : List Nat) (t : TypeId) (a v : Value) : List (Nat × HE) → Prop
  | [] => True
  | (e, .eff H) :: r => iteP (p.contains e) (chkBS P p t a v r) (ldA P H t a = some v ∧ chkBS P p t a v r)
  | (_, .load _ _ _) :: r => chkBS P p t a v r
  | (_, .new _) :: r => chkBS P p t a v r
theorem chkBS_eq (P : Program) (p : List Nat) (t : TypeId) (a v : Value) : ∀ l, chkBS P p t a v l = chkB P p t a v l
  | [] => rfl
  | (e, .eff H) :: r => by simp only [chkBS, chkB, chkBS_eq P p t a v r]; cases p.contains e <;> rfl
  | (_, .load _ _ _) :: r => chkBS_eq P p t a v r
  | (_, .new _) :: r => chkBS_eq P p t a v r
def chkAS (P : Program) (p : List Nat) (H H' : Heap) : List (Nat × HE) → Prop
  | [] => True
  | (_, .eff _) :: r => chkAS P p H H' r
  | (j, .load t a v) :: r => iteP (p.contains j) (chkAS P p H H' r) (ldA P H' t a = some v ∧ chkAS P p H H' r)
  | (j, .new id) :: r => iteP (p.contains j) (chkAS P p H H' r) (H'[id]? = H[id]? ∧ chkAS P p H H' r)
theorem chkAS_eq (P : Program) (p : List Nat) (H H' : Heap) : ∀ l, chkAS P p H H' l = chkA P p H H' l
  | [] => rfl
  | (_, .eff _) :: r => chkAS_eq P p H H' r
  | (j, .load t a v) :: r => by simp only [chkAS, chkA, chkAS_eq P p H H' r]; cases p.contains j <;> rfl
  | (j, .new id) :: r => by simp only [chkAS, chkA, chkAS_eq P p H H' r]; cases p.contains j <;> rfl
attribute [simp] chkBS chkAS pendD
abbrev DK := Value → Heap → Nat → List (Nat × HE) → Prop
def drwO (P : Program) (C : Cx) (base m : Nat) (p : List Nat) (i cnt : Nat) (hist : List (Nat × HE)) (op : Op) (s : St) (K : DK) : Prop :=
  match op with
  | .load t x => bindP (evO s.ts x) fun a => bindP (ldA P s.H t a) fun v => andP (chkBS P p t a v hist) (K v s.H cnt ((i, .load t a v) :: hist))
  | .store t x y => bindP (evO s.ts x) fun a => bindP (evO s.ts y) fun v => bindP (stA P s.H t a v) fun r =>
      andP (wr C.n0 C.D r.1) (andP (chkAS P p s.H r.2 hist) (andP (pendD r.2 (base + cnt) (m - cnt)) (K uV r.2 cnt ((i, .eff s.H) :: hist))))
  | .call { callee := .value fx, args := as, argTypes := _ } => bindP ((evO s.ts fx).bind fnV) fun r => bindP (evL (evO s.ts) as.toList) fun vs =>
      Ask P r.1 (vs ++ r.2) s.H fun v H' Dc => andP (wrL C.n0 C.D Dc) (andP (liveL s.H Dc) (andP (s.H.length ≤ H'.length) (andP (chkAS P p s.H H' hist) (andP (pendD H' (base + cnt) (m - cnt)) (K v H' cnt ((i, .eff s.H) :: hist))))))
  | .call { callee := .builtin .append, args := as, argTypes := ts } => bindP (evL (evO s.ts) as.toList) fun vs => match vs with
    | [a, b] => bindP (apA P s.H ts.toList a b) fun r => andP (wrO C.n0 C.D r.1) (andP (liveO s.H r.1) (andP (chkAS P p s.H r.2.2 hist) (andP (pendD r.2.2 (base + cnt) (m - cnt)) (K r.2.1 r.2.2 cnt ((i, .eff s.H) :: hist)))))
    | _ => False
  | .alloc t => bindP (newA P (evO s.ts) (.alloc t)) fun r => andP (cnt < m) (K (r.val (base + cnt)) (s.H.set (base + cnt) ⟨r.ty, r.cells, true, true⟩) (cnt + 1) ((i, .new (base + cnt)) :: hist))
  | .box t x => bindP (newA P (evO s.ts) (.box t x)) fun r => andP (cnt < m) (K (r.val (base + cnt)) (s.H.set (base + cnt) ⟨r.ty, r.cells, true, true⟩) (cnt + 1) ((i, .new (base + cnt)) :: hist))
  | .buildSlice t n ps => bindP (newA P (evO s.ts) (.buildSlice t n ps)) fun r => andP (cnt < m) (K (r.val (base + cnt)) (s.H.set (base + cnt) ⟨r.ty, r.cells, true, true⟩) (cnt + 1) ((i, .new (base + cnt)) :: hist))
  | .makeSlice t l c => bindP (newA P (evO s.ts) (.makeSlice t l c)) fun r => andP (cnt < m) (K (r.val (base + cnt)) (s.H.set (base + cnt) ⟨r.ty, r.cells, true, true⟩) (cnt + 1) ((i, .new (base + cnt)) :: hist))
  | op => bindP (pureOp P (evO s.ts) op) fun v => K v s.H cnt hist
theorem drwO.cong {P : Program} {C : Cx} {base m : Nat} {p : List Nat} {i cnt cnt' : Nat} {hist : List (Nat × HE)} {op : Op} {s s' : St} {K : DK} (h : ∀ _ : Unit, s = s') (h' : ∀ _ : Unit, cnt = cnt') : drwO P C base m p i cnt hist op s K = drwO P C base m p i cnt' hist op s' K := by rw [h (), h' ()]
def drwS (P : Program) (C : Cx) (base m : Nat) : List SOp → Nat → Nat → List (Nat × HE) → St → (St → Prop) → Prop
  | [], _, _, _, s, K => K s
  | o :: l, i, cnt, hist, s, K => bindP (wantS o.g s.ts) fun w => iteP w (drwO P C base m o.p i cnt hist o.op s fun v H' cnt' hist' => drwS P C base m l (i + 1) cnt' hist' ⟨putT o.d v s.ts, H'⟩ K) (drwS P C base m l (i + 1) cnt hist ⟨putT o.d uV s.ts, s.H⟩ K)
theorem drwS.cong {P : Program} {C : Cx} {base m : Nat} {l : List SOp} {i i' cnt cnt' : Nat} {hist : List (Nat × HE)} {s s' : St} {K : St → Prop} (h : ∀ _ : Unit, s = s') (h1 : ∀ _ : Unit, i = i') (h2 : ∀ _ : Unit, cnt = cnt') : drwS P C base m l i cnt hist s K = drwS P C base m l i' cnt' hist s' K := by rw [h (), h1 (), h2 ()]
theorem drwS_nil (P : Program) (C : Cx) (base m i cnt : Nat) (hist : List (Nat × HE)) (s : St) (K : St → Prop) : drwS P C base m [] i cnt hist s K = K s := rfl
theorem drwS_cons0 (P : Program) (C : Cx) (base m i cnt : Nat) (hist : List (Nat × HE)) (d op g p) (l : List SOp) (s : St) (K : St → Prop) : drwS P C base m (⟨d, op, g, p⟩ :: l) i cnt hist s K =
  bindP (wantS g s.ts) fun w => iteP w (drwO P C base m p i cnt hist op s fun v H' cnt' hist' => drwS P C base m l (i + 1) cnt' hist' ⟨putT d v s.ts, H'⟩ K) (drwS P C base m l (i + 1) cnt hist ⟨putT d uV s.ts, s.H⟩ K) := rfl
/-! ### the same, without functions of what is to come: a walk's terms are data -/
structure Ct where
  d : Option Tmp
  l : List SOp
  ts : List (Nat × Value)
  K : St → Prop
section
variable (P : Program) (C : Cx)
def runX (k : Ct) (v : Value) (H : Heap) : Prop := opsS P C k.l ⟨putT k.d v k.ts, H⟩ k.K
def opX (op : Op) (s : St) (k : Ct) : Prop := opS P C op s (runX P C k)
def stepW (w : Option Bool) (op : Op) (s : St) (k : Ct) : Prop := bindP w fun w => iteP w (opX P C op s k) (runX P C k uV s.H)
def valX (H : Heap) (o : Option Value) (k : Ct) : Prop := bindP o fun v => runX P C k v H
def ldX (H : Heap) (t : TypeId) (o : Option Value) (k : Ct) : Prop := bindP o fun a => valX P C H (ldA P H t a) k
def stX (r : Option (Nat × Heap)) (k : Ct) : Prop := bindP r fun r => wr C.n0 C.D r.1 ∧ runX P C k uV r.2
def stY (H : Heap) (t : TypeId) (a v : Option Value) (k : Ct) : Prop := bindP a fun a => bindP v fun v => stX P C (stA P H t a v) k
def AskX (f : FuncId) (args : List Value) (H : Heap) (k : Ct) : Prop := Ask P f args H fun v H' Dc => wrL C.n0 C.D Dc ∧ runX P C k v H'
def callX (H : Heap) (r : Option (FuncId × List Value)) (vs : Option (List Value)) (k : Ct) : Prop := bindP r fun r => bindP vs fun vs => AskX P C r.1 (vs ++ r.2) H k
def apY (r : Option (Option Nat × Value × Heap)) (k : Ct) : Prop := bindP r fun r => wrO C.n0 C.D r.1 ∧ runX P C k r.2.1 r.2.2
def apX (H : Heap) (ts : List TypeId) (vs : Option (List Value)) (k : Ct) : Prop := bindP vs fun vs => match vs with
    | [a, b] => apY P C (apA P H ts a b) k
    | _ => False
def newX (H : Heap) (r : Option NewR) (k : Ct) : Prop := bindP r fun r => runX P C k (r.val H.length) (H ++ [⟨r.ty, r.cells, true, true⟩])
def lookX (H : Heap) (t : TypeId) (m x : Option Value) (k : Ct) : Prop := bindP m fun m => bindP x fun x => valX P C H (lookA P H t m x) k
def mputX (H : Heap) (t : TypeId) (m x v : Option Value) (k : Ct) : Prop := bindP m fun m => bindP x fun x => bindP v fun v => stX P C (mputA P H t m x v) k
variable (s : St) (K : St → Prop) (k : Ct) (H : Heap)
@[simp] theorem opsX_nil : opsS P C [] s K = K s := rfl.trans rfl
@[simp] theorem opsX_cons (d op g p) (l : List SOp) : opsS P C (⟨d, op, g, p⟩ :: l) s K = stepW P C (wantS g s.ts) op s ⟨d, l, s.ts, K⟩ := rfl.trans rfl
@[simp] theorem runX_mk (d l ts K v H) : runX P C ⟨d, l, ts, K⟩ v H = opsS P C l ⟨putT d v ts, H⟩ K := rfl.trans rfl
@[simp] theorem stepW_t (op) : stepW P C (some true) op s k = opX P C op s k := rfl.trans rfl
@[simp] theorem stepW_f (op) : stepW P C (some false) op s k = runX P C k uV s.H := rfl.trans rfl
@[simp] theorem valX_some (v) : valX P C H (some v) k = runX P C k v H := rfl.trans rfl
@[simp] theorem ldX_some (t a) : ldX P C H t (some a) k = valX P C H (ldA P H t a) k := rfl.trans rfl
@[simp] theorem stX_some (id H') : stX P C (some (id, H')) k = (wr C.n0 C.D id ∧ runX P C k uV H') := rfl.trans rfl
@[simp] theorem stY_some (t a v) : stY P C H t (some a) (some v) k = stX P C (stA P H t a v) k := rfl.trans rfl
@[simp] theorem callX_some (f cap vs) : callX P C H (some (f, cap)) (some vs) k = AskX P C f (vs ++ cap) H k := rfl.trans rfl
@[simp] theorem apY_some (i v H') : apY P C (some (i, v, H')) k = (wrO C.n0 C.D i ∧ runX P C k v H') := rfl.trans rfl
@[simp] theorem apX_some (ts a b) : apX P C H ts (some [a, b]) k = apY P C (apA P H ts a b) k := rfl.trans rfl
@[simp] theorem newX_some (ty cs f) : newX P C H (some ⟨ty, cs, f⟩) k = runX P C k (f H.length) (H ++ [⟨ty, cs, true, true⟩]) := rfl.trans rfl
@[simp] theorem lookX_some (t m x) : lookX P C H t (some m) (some x) k = valX P C H (lookA P H t m x) k := rfl.trans rfl
@[simp] theorem mputX_some (t m x v) : mputX P C H t (some m) (some x) (some v) k = stX P C (mputA P H t m x v) k := rfl.trans rfl
theorem AskX.go {P : Program} {C : Cx} {f : FuncId} {args : List Value} {H H' : Heap} {v : Value} {Dc : List Nat} {k : Ct} (h : AC P f args H v H' Dc) (hk : wrL C.n0 C.D Dc ∧ runX P C k v H') : AskX P C f args H k := ⟨v, H', Dc, h, hk⟩
@[simp] theorem opX_load (t x) : opX P C (.load t x) s k = ldX P C s.H t (evO s.ts x) k := rfl.trans rfl
@[simp] theorem opX_store (t x y) : opX P C (.store t x y) s k = stY P C s.H t (evO s.ts x) (evO s.ts y) k := rfl.trans rfl
@[simp] theorem opX_call (fx as ts) : opX P C (.call { callee := .value fx, args := as, argTypes := ts }) s k = callX P C s.H ((evO s.ts fx).bind fnV) (evL (evO s.ts) as.toList) k := rfl.trans rfl
@[simp] theorem opX_append (as ts) : opX P C (.call { callee := .builtin .append, args := as, argTypes := ts }) s k = apX P C s.H ts.toList (evL (evO s.ts) as.toList) k := rfl.trans rfl
@[simp] theorem opX_alloc (t) : opX P C (.alloc t) s k = newX P C s.H (newA P (evO s.ts) (.alloc t)) k := rfl.trans rfl
@[simp] theorem opX_box (t x) : opX P C (.box t x) s k = newX P C s.H (newA P (evO s.ts) (.box t x)) k := rfl.trans rfl
@[simp] theorem opX_buildSlice (t n ps) : opX P C (.buildSlice t n ps) s k = newX P C s.H (newA P (evO s.ts) (.buildSlice t n ps)) k := rfl.trans rfl
@[simp] theorem opX_makeSlice (t l c) : opX P C (.makeSlice t l c) s k = newX P C s.H (newA P (evO s.ts) (.makeSlice t l c)) k := rfl.trans rfl
@[simp] theorem opX_lookup (t x y) : opX P C (.lookup t x y false) s k = lookX P C s.H t (evO s.ts x) (evO s.ts y) k := rfl.trans rfl
@[simp] theorem opX_mapUpdate (t x y z) : opX P C (.mapUpdate t x y z) s k = mputX P C s.H t (evO s.ts x) (evO s.ts y) (evO s.ts z) k := rfl.trans rfl
@[simp] theorem opX_makeMap (t) : opX P C (.makeMap t none) s k = runX P C k (.map (some s.H.length)) (s.H ++ [⟨t, [], true, false⟩]) := rfl.trans rfl
@[simp] theorem opX_move (x) : opX P C (.move x) s k = valX P C s.H (evO s.ts x) k := rfl.trans rfl
@[simp] theorem opX_assign (x) : opX P C (.assign x) s k = valX P C s.H (evO s.ts x) k := rfl.trans rfl
@[simp] theorem opX_pick (c a b) : opX P C (.pick c a b) s k = valX P C s.H (pureOp P (evO s.ts) (.pick c a b)) k := rfl.trans rfl
@[simp] theorem opX_build (t ps) : opX P C (.build t ps) s k = valX P C s.H (pureOp P (evO s.ts) (.build t ps)) k := rfl.trans rfl
@[simp] theorem opX_nilCheck (x) : opX P C (.nilCheck x) s k = valX P C s.H (pureOp P (evO s.ts) (.nilCheck x)) k := rfl.trans rfl
@[simp] theorem opX_binOp (o t x y z) : opX P C (.binOp o t x y z) s k = valX P C s.H (pureOp P (evO s.ts) (.binOp o t x y z)) k := rfl.trans rfl
@[simp] theorem opX_unOp (o t x) : opX P C (.unOp o t x) s k = valX P C s.H (pureOp P (evO s.ts) (.unOp o t x)) k := rfl.trans rfl
@[simp] theorem opX_convert (a b x) : opX P C (.convert a b x) s k = valX P C s.H (pureOp P (evO s.ts) (.convert a b x)) k := rfl.trans rfl
@[simp] theorem opX_slice (t x a b c) : opX P C (.slice t x a b c) s k = valX P C s.H (pureOp P (evO s.ts) (.slice t x a b c)) k := rfl.trans rfl
@[simp] theorem opX_fieldAddr (t x f) : opX P C (.fieldAddr t x f) s k = valX P C s.H (pureOp P (evO s.ts) (.fieldAddr t x f)) k := rfl.trans rfl
@[simp] theorem opX_field (t x f) : opX P C (.field t x f) s k = valX P C s.H (pureOp P (evO s.ts) (.field t x f)) k := rfl.trans rfl
@[simp] theorem opX_indexAddr (t x j) : opX P C (.indexAddr t x j) s k = valX P C s.H (pureOp P (evO s.ts) (.indexAddr t x j)) k := rfl.trans rfl
@[simp] theorem opX_makeFunc (f a b) : opX P C (.makeFunc f a b) s k = valX P C s.H (pureOp P (evO s.ts) (.makeFunc f a b)) k := rfl.trans rfl
@[simp] theorem opX_extract (x j) : opX P C (.extract x j) s k = valX P C s.H (pureOp P (evO s.ts) (.extract x j)) k := rfl.trans rfl
@[simp] theorem opX_len (as ts) : opX P C (.call { callee := .builtin .len, args := as, argTypes := ts }) s k = valX P C s.H (pureOp P (evO s.ts) (.call { callee := .builtin .len, args := as, argTypes := ts })) k := rfl.trans rfl
@[simp] theorem opX_max (as ts) : opX P C (.call { callee := .builtin .max, args := as, argTypes := ts }) s k = valX P C s.H (pureOp P (evO s.ts) (.call { callee := .builtin .max, args := as, argTypes := ts })) k := rfl.trans rfl
end

structure Dt where
  d : Option Tmp
  l : List SOp
  i : Nat
  base : Nat
  m : Nat
  p : List Nat
  cnt : Nat
  hist : List (Nat × HE)
  ts : List (Nat × Value)
  K : St → Prop
section
variable (P : Program) (C : Cx)
def dRun (k : Dt) (v : Value) (H : Heap) (cnt : Nat) (hist : List (Nat × HE)) : Prop := drwS P C k.base k.m k.l (k.i + 1) cnt hist ⟨putT k.d v k.ts, H⟩ k.K
def opD (op : Op) (s : St) (k : Dt) : Prop := drwO P C k.base k.m k.p k.i k.cnt k.hist op s (dRun P C k)
def dStep (w : Option Bool) (op : Op) (s : St) (k : Dt) : Prop := bindP w fun w => iteP w (opD P C op s k) (dRun P C k uV s.H k.cnt k.hist)
def valD (H : Heap) (o : Option Value) (k : Dt) : Prop := bindP o fun v => dRun P C k v H k.cnt k.hist
def ldE (H : Heap) (t : TypeId) (a : Value) (o : Option Value) (k : Dt) : Prop := bindP o fun v => chkBS P k.p t a v k.hist ∧ dRun P C k v H k.cnt ((k.i, .load t a v) :: k.hist)
def ldD (H : Heap) (t : TypeId) (o : Option Value) (k : Dt) : Prop := bindP o fun a => ldE P C H t a (ldA P H t a) k
def stD (H : Heap) (r : Option (Nat × Heap)) (k : Dt) : Prop := bindP r fun r => wr C.n0 C.D r.1 ∧ chkAS P k.p H r.2 k.hist ∧ pendD r.2 (k.base + k.cnt) (k.m - k.cnt) ∧ dRun P C k uV r.2 k.cnt ((k.i, .eff H) :: k.hist)
def stE (H : Heap) (t : TypeId) (a v : Option Value) (k : Dt) : Prop := bindP a fun a => bindP v fun v => stD P C H (stA P H t a v) k
def AskD (f : FuncId) (args : List Value) (H : Heap) (k : Dt) : Prop := Ask P f args H fun v H' Dc => wrL C.n0 C.D Dc ∧ liveL H Dc ∧ H.length ≤ H'.length ∧ chkAS P k.p H H' k.hist ∧ pendD H' (k.base + k.cnt) (k.m - k.cnt) ∧ dRun P C k v H' k.cnt ((k.i, .eff H) :: k.hist)
def callD (H : Heap) (r : Option (FuncId × List Value)) (vs : Option (List Value)) (k : Dt) : Prop := bindP r fun r => bindP vs fun vs => AskD P C r.1 (vs ++ r.2) H k
def apE (H : Heap) (r : Option (Option Nat × Value × Heap)) (k : Dt) : Prop := bindP r fun r => wrO C.n0 C.D r.1 ∧ liveO H r.1 ∧ chkAS P k.p H r.2.2 k.hist ∧ pendD r.2.2 (k.base + k.cnt) (k.m - k.cnt) ∧ dRun P C k r.2.1 r.2.2 k.cnt ((k.i, .eff H) :: k.hist)
def apD (H : Heap) (ts : List TypeId) (vs : Option (List Value)) (k : Dt) : Prop := bindP vs fun vs => match vs with
    | [a, b] => apE P C H (apA P H ts a b) k
    | _ => False
def newD (H : Heap) (r : Option NewR) (k : Dt) : Prop := bindP r fun r => k.cnt < k.m ∧ dRun P C k (r.val (k.base + k.cnt)) (H.set (k.base + k.cnt) ⟨r.ty, r.cells, true, true⟩) (k.cnt + 1) ((k.i, .new (k.base + k.cnt)) :: k.hist)
variable (s : St) (K : St → Prop) (k : Dt) (H : Heap)
variable (d : Option Tmp) (l : List SOp) (i base m : Nat) (p : List Nat) (cnt : Nat) (hist : List (Nat × HE)) (ts : List (Nat × Value))
@[simp] theorem drwD_nil : drwS P C base m [] i cnt hist s K = K s := rfl.trans rfl
@[simp] theorem drwD_cons (op g) : drwS P C base m (⟨d, op, g, p⟩ :: l) i cnt hist s K = dStep P C (wantS g s.ts) op s ⟨d, l, i, base, m, p, cnt, hist, s.ts, K⟩ := rfl.trans rfl
@[simp] theorem dRun_mk (v H c h) : dRun P C ⟨d, l, i, base, m, p, cnt, hist, ts, K⟩ v H c h = drwS P C base m l (i + 1) c h ⟨putT d v ts, H⟩ K := rfl.trans rfl
@[simp] theorem dStep_t (op) : dStep P C (some true) op s k = opD P C op s k := rfl.trans rfl
@[simp] theorem dStep_f (op) : dStep P C (some false) op s k = dRun P C k uV s.H k.cnt k.hist := rfl.trans rfl
@[simp] theorem valD_some (v) : valD P C H (some v) k = dRun P C k v H k.cnt k.hist := rfl.trans rfl
@[simp] theorem ldD_some (t a) : ldD P C H t (some a) k = ldE P C H t a (ldA P H t a) k := rfl.trans rfl
@[simp] theorem ldE_some (t a v) : ldE P C H t a (some v) k = (chkBS P k.p t a v k.hist ∧ dRun P C k v H k.cnt ((k.i, .load t a v) :: k.hist)) := rfl.trans rfl
@[simp] theorem stE_some (t a v) : stE P C H t (some a) (some v) k = stD P C H (stA P H t a v) k := rfl.trans rfl
@[simp] theorem stD_some (id H') : stD P C H (some (id, H')) k = (wr C.n0 C.D id ∧ chkAS P k.p H H' k.hist ∧ pendD H' (k.base + k.cnt) (k.m - k.cnt) ∧ dRun P C k uV H' k.cnt ((k.i, .eff H) :: k.hist)) := rfl.trans rfl
@[simp] theorem callD_some (f cap vs) : callD P C H (some (f, cap)) (some vs) k = AskD P C f (vs ++ cap) H k := rfl.trans rfl
@[simp] theorem apE_some (j v H') : apE P C H (some (j, v, H')) k = (wrO C.n0 C.D j ∧ liveO H j ∧ chkAS P k.p H H' k.hist ∧ pendD H' (k.base + k.cnt) (k.m - k.cnt) ∧ dRun P C k v H' k.cnt ((k.i, .eff H) :: k.hist)) := rfl.trans rfl
@[simp] theorem apD_some (ts a b) : apD P C H ts (some [a, b]) k = apE P C H (apA P H ts a b) k := rfl.trans rfl
@[simp] theorem newD_some (ty cs f) : newD P C H (some ⟨ty, cs, f⟩) k = (k.cnt < k.m ∧ dRun P C k (f (k.base + k.cnt)) (H.set (k.base + k.cnt) ⟨ty, cs, true, true⟩) (k.cnt + 1) ((k.i, .new (k.base + k.cnt)) :: k.hist)) := rfl.trans rfl
theorem AskD.go {P : Program} {C : Cx} {f : FuncId} {args : List Value} {H H' : Heap} {v : Value} {Dc : List Nat} {k : Dt} (h : AC P f args H v H' Dc)
    (hk : wrL C.n0 C.D Dc ∧ liveL H Dc ∧ H.length ≤ H'.length ∧ chkAS P k.p H H' k.hist ∧ pendD H' (k.base + k.cnt) (k.m - k.cnt) ∧ dRun P C k v H' k.cnt ((k.i, .eff H) :: k.hist)) : AskD P C f args H k := ⟨v, H', Dc, h, hk⟩
@[simp] theorem opD_load (t x) : opD P C (.load t x) s k = ldD P C s.H t (evO s.ts x) k := rfl.trans rfl
@[simp] theorem opD_store (t x y) : opD P C (.store t x y) s k = stE P C s.H t (evO s.ts x) (evO s.ts y) k := rfl.trans rfl
@[simp] theorem opD_call (fx as ts) : opD P C (.call { callee := .value fx, args := as, argTypes := ts }) s k = callD P C s.H ((evO s.ts fx).bind fnV) (evL (evO s.ts) as.toList) k := rfl.trans rfl
@[simp] theorem opD_append (as ts) : opD P C (.call { callee := .builtin .append, args := as, argTypes := ts }) s k = apD P C s.H ts.toList (evL (evO s.ts) as.toList) k := rfl.trans rfl
@[simp] theorem opD_alloc (t) : opD P C (.alloc t) s k = newD P C s.H (newA P (evO s.ts) (.alloc t)) k := rfl.trans rfl
@[simp] theorem opD_box (t x) : opD P C (.box t x) s k = newD P C s.H (newA P (evO s.ts) (.box t x)) k := rfl.trans rfl
@[simp] theorem opD_buildSlice (t n ps) : opD P C (.buildSlice t n ps) s k = newD P C s.H (newA P (evO s.ts) (.buildSlice t n ps)) k := rfl.trans rfl
@[simp] theorem opD_makeSlice (t l c) : opD P C (.makeSlice t l c) s k = newD P C s.H (newA P (evO s.ts) (.makeSlice t l c)) k := rfl.trans rfl
@[simp] theorem opD_move (x) : opD P C (.move x) s k = valD P C s.H (evO s.ts x) k := rfl.trans rfl
@[simp] theorem opD_assign (x) : opD P C (.assign x) s k = valD P C s.H (evO s.ts x) k := rfl.trans rfl
@[simp] theorem opD_pick (c a b) : opD P C (.pick c a b) s k = valD P C s.H (pureOp P (evO s.ts) (.pick c a b)) k := rfl.trans rfl
@[simp] theorem opD_build (t ps) : opD P C (.build t ps) s k = valD P C s.H (pureOp P (evO s.ts) (.build t ps)) k := rfl.trans rfl
@[simp] theorem opD_nilCheck (x) : opD P C (.nilCheck x) s k = valD P C s.H (pureOp P (evO s.ts) (.nilCheck x)) k := rfl.trans rfl
@[simp] theorem opD_binOp (o t x y z) : opD P C (.binOp o t x y z) s k = valD P C s.H (pureOp P (evO s.ts) (.binOp o t x y z)) k := rfl.trans rfl
@[simp] theorem opD_unOp (o t x) : opD P C (.unOp o t x) s k = valD P C s.H (pureOp P (evO s.ts) (.unOp o t x)) k := rfl.trans rfl
@[simp] theorem opD_convert (a b x) : opD P C (.convert a b x) s k = valD P C s.H (pureOp P (evO s.ts) (.convert a b x)) k := rfl.trans rfl
@[simp] theorem opD_slice (t x a b c) : opD P C (.slice t x a b c) s k = valD P C s.H (pureOp P (evO s.ts) (.slice t x a b c)) k := rfl.trans rfl
@[simp] theorem opD_fieldAddr (t x f) : opD P C (.fieldAddr t x f) s k = valD P C s.H (pureOp P (evO s.ts) (.fieldAddr t x f)) k := rfl.trans rfl
@[simp] theorem opD_field (t x f) : opD P C (.field t x f) s k = valD P C s.H (pureOp P (evO s.ts) (.field t x f)) k := rfl.trans rfl
@[simp] theorem opD_indexAddr (t x j) : opD P C (.indexAddr t x j) s k = valD P C s.H (pureOp P (evO s.ts) (.indexAddr t x j)) k := rfl.trans rfl
@[simp] theorem opD_makeFunc (f a b) : opD P C (.makeFunc f a b) s k = valD P C s.H (pureOp P (evO s.ts) (.makeFunc f a b)) k := rfl.trans rfl
@[simp] theorem opD_extract (x j) : opD P C (.extract x j) s k = valD P C s.H (pureOp P (evO s.ts) (.extract x j)) k := rfl.trans rfl
@[simp] theorem opD_len (as ts) : opD P C (.call { callee := .builtin .len, args := as, argTypes := ts }) s k = valD P C s.H (pureOp P (evO s.ts) (.call { callee := .builtin .len, args := as, argTypes := ts })) k := rfl.trans rfl
@[simp] theorem opD_max (as ts) : opD P C (.call { callee := .builtin .max, args := as, argTypes := ts }) s k = valD P C s.H (pureOp P (evO s.ts) (.call { callee := .builtin .max, args := as, argTypes := ts })) k := rfl.trans rfl
end
theorem drwS_P {P : Program} {C : Cx} {ops : Array Oper} {pr : List (List Nat)} {base m : Nat} {K : St → Prop} : ∀ {l : List Oper} {i : Nat} {q : List SOp} {cnt : Nat} {hist : List (Nat × HE)} {s : St}, sops C.N ops l (pr.drop i) = some q →
    drwS P C base m q i cnt hist s K → drawP P C ops pr base m l i cnt hist s K
  | [], i, q, cnt, hist, s, hq, h => by cases hq; exact h
  | o :: l, i, q, cnt, hist, s, hq, h => by
    simp only [sops] at hq
    split at hq
    · rename_i a r h1 h2
      cases hq
      obtain ⟨d1, d2, d3, d4, d5⟩ := sop_dst h1
      have hp : a.p = pr.getD i [] := by
        rw [d4, List.headD_eq_head?_getD, List.head?_drop, List.getD_eq_getElem?_getD]
      have h2' : sops C.N ops l (pr.drop (i + 1)) = some r := by rw [← h2, List.tail_drop]
      unfold drwS at h
      obtain ⟨w, hw, h⟩ := h.el
      rw [d2, d3, hp] at h
      have hw' : wantedA ops o s.ts = some w := by rw [d5]; exact hw
      refine ⟨d1, ?_⟩
      rw [hw']
      cases w with
      | false => exact drwS_P h2' h
      | true =>
        simp only [iteP_t] at h
        simp only
        obtain ⟨dst, op, type, pos, after, guard⟩ := o
        simp only at h ⊢
        unfold drwO at h
        split at h
        · obtain ⟨a, e1, h⟩ := h.el; obtain ⟨v, e2, k1, h⟩ := h.el
          simp only [e1, e2]; rw [chkBS_eq] at k1; exact ⟨k1, drwS_P h2' h⟩
        · obtain ⟨a, e1, h⟩ := h.el; obtain ⟨v, e2, h⟩ := h.el; obtain ⟨r, e3, k1, k2, k3, h⟩ := h.el
          simp only [e1, e2, e3]; rw [chkAS_eq] at k2; exact ⟨k1, k2, k3, drwS_P h2' h⟩
        · obtain ⟨r, e1, h⟩ := h.el; obtain ⟨vs, e2, v, H', Dc, hac, k1, k2, k3, k4, k5, h⟩ := h.el
          simp only [e1, e2]; rw [chkAS_eq] at k4; exact ⟨v, H', Dc, hac, k1, k2, k3, k4, k5, drwS_P h2' h⟩
        · obtain ⟨vs, e1, h⟩ := h.el
          split at h
          · obtain ⟨x, y, hxy, hx, hy⟩ := evL2 e1
            obtain ⟨r, e3, k1, k2, k3, k4, h⟩ := h.el
            simp only [hxy, hx, hy, e3]; rw [chkAS_eq] at k3; exact ⟨k1, k2, k3, k4, drwS_P h2' h⟩
          · exact h.elim
        · obtain ⟨r, e1, k1, h⟩ := h.el
          simp only [e1]; exact ⟨k1, drwS_P h2' h⟩
        · obtain ⟨r, e1, k1, h⟩ := h.el
          simp only [e1]; exact ⟨k1, drwS_P h2' h⟩
        · obtain ⟨r, e1, k1, h⟩ := h.el
          simp only [e1]; exact ⟨k1, drwS_P h2' h⟩
        · obtain ⟨r, e1, k1, h⟩ := h.el
          simp only [e1]; exact ⟨k1, drwS_P h2' h⟩
        · obtain ⟨v, e1, h⟩ := h.el
          split
          all_goals first
            | (simp only [e1]; exact drwS_P h2' h)
            | (exfalso; simp_all; done)
    · cases hq

/-! ### what is still to do, over stripped code -/
inductive IS where
  | c (x : SC)
  | blk (id : Nat)
  | inv (I : St → Prop)
def itR (N : Nat) : IS → It → Prop
  | .c x, .c c => stripC N c = some x
  | .blk i, .blk j => i = j
  | .inv I, .inv J => I = J
  | _, _ => False
def ksR (N : Nat) : List IS → List It → Prop
  | [], [] => True
  | a :: l, b :: m => itR N a b ∧ ksR N l m
  | _, _ => False
def SK (P : Program) (C : Cx) (R : St → Prop) (k : List IS) (s : St) : Prop := ∀ k', ksR C.N k k' → AK P C R k' s
theorem ksR.c {N : Nat} {x : SC} {k : List IS} {k' : List It} (h : ksR N (.c x :: k) k') : ∃ c m, k' = .c c :: m ∧ stripC N c = some x ∧ ksR N k m := by
  match k', h with
  | .c c :: m, h => exact ⟨c, m, rfl, h.1, h.2⟩
  | .blk _ :: _, h => exact h.1.elim
  | .inv _ :: _, h => exact h.1.elim
theorem ksR.blk {N : Nat} {i : Nat} {k : List IS} {k' : List It} (h : ksR N (.blk i :: k) k') : ∃ m, k' = .blk i :: m ∧ ksR N k m := by
  match k', h with
  | .c c :: m, h => exact h.1.elim
  | .blk j :: m, h => exact ⟨m, by rw [h.1], h.2⟩
  | .inv _ :: _, h => exact h.1.elim
theorem ksR.inv {N : Nat} {I : St → Prop} {k : List IS} {k' : List It} (h : ksR N (.inv I :: k) k') : ∃ m, k' = .inv I :: m ∧ ksR N k m := by
  match k', h with
  | .c c :: m, h => exact h.1.elim
  | .blk j :: m, h => exact h.1.elim
  | .inv _ :: m, h => exact ⟨m, by rw [h.1], h.2⟩
theorem ksR.nil {N : Nat} {k' : List It} (h : ksR N [] k') : k' = [] := by
  match k', h with
  | [], _ => rfl
def unwS (id : Nat) : List IS → List IS
  | [] => []
  | .c _ :: k => unwS id k
  | .blk id' :: k => if id = id' then k else unwS id k
  | .inv _ :: k => unwS id k
def hasS (id : Nat) : List IS → Bool
  | [] => false
  | .c _ :: k => hasS id k
  | .blk id' :: k => id == id' || hasS id k
  | .inv _ :: k => hasS id k
theorem ksR.unw {N id : Nat} : ∀ {k : List IS} {k' : List It}, ksR N k k' → ksR N (unwS id k) (Go.Proofs.YtpoedfmkiiijnaaAm.unw id k') ∧ has id k' = hasS id k
  | [], k', h => by rw [h.nil]; exact ⟨trivial, rfl⟩
  | .c x :: k, k', h => by obtain ⟨c, m, rfl, _, h2⟩ := h.c; exact ksR.unw (id := id) (k := k) (k' := m) h2
  | .inv I :: k, k', h => by obtain ⟨m, rfl, h2⟩ := h.inv; exact ksR.unw (id := id) (k := k) (k' := m) h2
  | .blk i :: k, k', h => by
    obtain ⟨m, rfl, h2⟩ := h.blk
    obtain ⟨h3, h4⟩ := ksR.unw (id := id) (k := k) h2
    refine ⟨?_, by simp only [has, hasS, h4]⟩
    simp only [unwS, YtpoedfmkiiijnaaAm.unw]
    split
    · exact h2
    · exact h3
theorem strip_seq {N : Nat} {c : Code} {x y : SC} (h : stripC N c = some (.seq x y)) : ∃ a b, c = .seq a b ∧ stripC N a = some x ∧ stripC N b = some y := by
  cases c with
  | seq a b =>
    simp only [stripC] at h
    split at h
    · rename_i x' y' h1 h2; cases h; exact ⟨a, b, rfl, h1, h2⟩
    · cases h
  | region i o d => cases d <;> simp only [stripC] at h <;> (try split at h) <;> simp at h
  | cond q a b => simp only [stripC] at h; split at h <;> simp at h
  | _ => simp [stripC] at h
theorem strip_cond {N : Nat} {c : Code} {q : Operand} {x y : SC} (h : stripC N c = some (.cond q x y)) : ∃ a b, c = .cond q a b ∧ stripC N a = some x ∧ stripC N b = some y := by
  cases c with
  | cond q' a b =>
    simp only [stripC] at h
    split at h
    · rename_i x' y' h1 h2; cases h; exact ⟨a, b, rfl, h1, h2⟩
    · cases h
  | region i o d => cases d <;> simp only [stripC] at h <;> (try split at h) <;> simp at h
  | seq a b => simp only [stripC] at h; split at h <;> simp at h
  | _ => simp [stripC] at h
theorem strip_loop {N : Nat} {c : Code} {x : SC} (h : stripC N c = some (.loop x)) : ∃ a, c = .loop a ∧ stripC N a = some x := by
  cases c with
  | loop a =>
    simp only [stripC] at h
    obtain ⟨y, h1, h2⟩ := Option.map_eq_some_iff.1 h
    cases h2; exact ⟨a, rfl, h1⟩
  | region i o d => cases d <;> simp only [stripC] at h <;> (try split at h) <;> simp at h
  | seq a b => simp only [stripC] at h; split at h <;> simp at h
  | cond q a b => simp only [stripC] at h; split at h <;> simp at h
  | _ => simp [stripC] at h
theorem strip_block {N : Nat} {c : Code} {i : Nat} {x : SC} (h : stripC N c = some (.block i x)) : ∃ a, c = .block i a ∧ stripC N a = some x := by
  cases c with
  | block j a =>
    simp only [stripC] at h
    obtain ⟨y, h1, h2⟩ := Option.map_eq_some_iff.1 h
    cases h2; exact ⟨a, rfl, h1⟩
  | region i o d => cases d <;> simp only [stripC] at h <;> (try split at h) <;> simp at h
  | seq a b => simp only [stripC] at h; split at h <;> simp at h
  | cond q a b => simp only [stripC] at h; split at h <;> simp at h
  | _ => simp [stripC] at h
theorem strip_exit {N : Nat} {c : Code} {i : Nat} (h : stripC N c = some (.exit i)) : c = .exit i := by
  cases c with
  | region i o d => cases d <;> simp only [stripC] at h <;> (try split at h) <;> simp at h
  | seq a b => simp only [stripC] at h; split at h <;> simp at h
  | cond q a b => simp only [stripC] at h; split at h <;> simp at h
  | _ => simp [stripC] at h <;> simp [h]
theorem strip_ret {N : Nat} {c : Code} (h : stripC N c = some .ret) : c = .ret := by
  cases c with
  | region i o d => cases d <;> simp only [stripC] at h <;> (try split at h) <;> simp at h
  | seq a b => simp only [stripC] at h; split at h <;> simp at h
  | cond q a b => simp only [stripC] at h; split at h <;> simp at h
  | _ => simp [stripC] at h <;> rfl
theorem strip_skip {N : Nat} {c : Code} (h : stripC N c = some .skip) : c = .skip := by
  cases c with
  | region i o d => cases d <;> simp only [stripC] at h <;> (try split at h) <;> simp at h
  | seq a b => simp only [stripC] at h; split at h <;> simp at h
  | cond q a b => simp only [stripC] at h; split at h <;> simp at h
  | _ => simp [stripC] at h <;> rfl
theorem strip_reg {N : Nat} {c : Code} {q : List SOp} (h : stripC N c = some (.reg q)) : ∃ id ops, c = .region id ops false ∧ sops N ops ops.toList [] = some q := by
  cases c with
  | region i o d =>
    cases d with
    | false =>
      simp only [stripC] at h
      obtain ⟨y, h1, h2⟩ := Option.map_eq_some_iff.1 h
      cases h2; exact ⟨i, o, rfl, h1⟩
    | true => simp only [stripC] at h; split at h <;> simp at h
  | seq a b => simp only [stripC] at h; split at h <;> simp at h
  | cond q a b => simp only [stripC] at h; split at h <;> simp at h
  | _ => simp [stripC] at h
theorem strip_drw {N m : Nat} {c : Code} {q : List SOp} (h : stripC N c = some (.drw m q)) : ∃ id ops pr, c = .region id ops true ∧ drawOk ops pr = true ∧ sops N ops ops.toList pr = some q := by
  cases c with
  | region i o d =>
    cases d with
    | false => simp only [stripC] at h; simp at h
    | true =>
      simp only [stripC] at h
      split at h
      · rename_i hd
        obtain ⟨y, h1, h2⟩ := Option.map_eq_some_iff.1 h
        cases h2; exact ⟨i, o, _, rfl, hd, h1⟩
      · cases h
  | seq a b => simp only [stripC] at h; split at h <;> simp at h
  | cond q a b => simp only [stripC] at h; split at h <;> simp at h
  | _ => simp [stripC] at h
section
variable {P : Program} {C : Cx} {R : St → Prop} {k : List IS} {s : St}
theorem sk_nil (h : R s) : SK P C R [] s := fun k' hk => by rw [hk.nil]; exact ak_nil h
theorem sk_seq {x y : SC} (h : SK P C R (.c x :: .c y :: k) s) : SK P C R (.c (.seq x y) :: k) s := fun k' hk => by
  obtain ⟨c, m, rfl, hc, hm⟩ := hk.c
  obtain ⟨a, b, rfl, ha, hb⟩ := strip_seq hc
  exact ak_seq (h _ ⟨ha, hb, hm⟩)
theorem sk_skip (h : SK P C R k s) : SK P C R (.c .skip :: k) s := fun k' hk => by
  obtain ⟨c, m, rfl, hc, hm⟩ := hk.c
  rw [strip_skip hc]
  exact ak_skip (h _ hm)
theorem sk_block {id : Nat} {x : SC} (h : SK P C R (.c x :: .blk id :: k) s) : SK P C R (.c (.block id x) :: k) s := fun k' hk => by
  obtain ⟨c, m, rfl, hc, hm⟩ := hk.c
  obtain ⟨a, rfl, ha⟩ := strip_block hc
  exact ak_block (h _ ⟨ha, rfl, hm⟩)
theorem sk_blk {id : Nat} (h : SK P C R k s) : SK P C R (.blk id :: k) s := fun k' hk => by
  obtain ⟨m, rfl, hm⟩ := hk.blk
  exact ak_blk (h _ hm)
theorem sk_inv {I : St → Prop} (h : I s) : SK P C R (.inv I :: k) s := fun k' hk => by
  obtain ⟨m, rfl, hm⟩ := hk.inv
  exact ak_inv h
theorem sk_exit {id : Nat} (hh : hasS id k = true) (h : SK P C R (unwS id k) s) : SK P C R (.c (.exit id) :: k) s := fun k' hk => by
  obtain ⟨c, m, rfl, hc, hm⟩ := hk.c
  rw [strip_exit hc]
  obtain ⟨h1, h2⟩ := hm.unw (id := id)
  exact ak_exit (by rw [h2]; exact hh) (h _ h1)
theorem sk_ret (h : R s) : SK P C R (.c .ret :: k) s := fun k' hk => by
  obtain ⟨c, m, rfl, hc, hm⟩ := hk.c
  rw [strip_ret hc]
  exact ak_ret h
theorem sk_cond_t {c : Operand} {x y : SC} (hc : evO s.ts c = some (.bool true)) (h : SK P C R (.c x :: k) s) : SK P C R (.c (.cond c x y) :: k) s := fun k' hk => by
  obtain ⟨c, m, rfl, hcc, hm⟩ := hk.c
  obtain ⟨a, b, rfl, ha, hb⟩ := strip_cond hcc
  exact ak_cond_t hc (h _ ⟨ha, hm⟩)
theorem sk_cond_f {c : Operand} {x y : SC} (hc : evO s.ts c = some (.bool false)) (h : SK P C R (.c y :: k) s) : SK P C R (.c (.cond c x y) :: k) s := fun k' hk => by
  obtain ⟨c, m, rfl, hcc, hm⟩ := hk.c
  obtain ⟨a, b, rfl, ha, hb⟩ := strip_cond hcc
  exact ak_cond_f hc (h _ ⟨hb, hm⟩)
theorem sk_cond_b {c : Operand} {x y : SC} {b : Bool} (hc : evO s.ts c = some (.bool b)) (h1 : b = true → SK P C R (.c x :: k) s) (h2 : b = false → SK P C R (.c y :: k) s) : SK P C R (.c (.cond c x y) :: k) s := by
  cases b
  · exact sk_cond_f hc (h2 rfl)
  · exact sk_cond_t hc (h1 rfl)
theorem sk_reg {l : List SOp} (h : ∀ K : St → Prop, (∀ s', SK P C R k s' → K s') → opsS P C l s K) : SK P C R (.c (.reg l) :: k) s := fun k' hk => by
  obtain ⟨c, m, rfl, hc, hm⟩ := hk.c
  obtain ⟨id, ops, rfl, hl⟩ := strip_reg hc
  obtain ⟨s', h1, h2⟩ := opsS_Ev (C := C) hl (h _ fun _ h => h)
  exact ⟨.normal, s', fun B0 φ0 w0 a w hR => wp_region_list (h1.sound (fun a' w' hR' => ⟨rfl, hR'⟩) hR), h2 _ hm⟩
theorem sk_drw {l : List SOp} {m : Nat} {ts : List (Nat × Value)} {H : Heap} (hmix : P.follows .mixedOrders = true) (h : ∀ K : St → Prop, (∀ s', SK P C R k s' → K s') → drwS P C H.length m l 0 0 [] ⟨ts, H ++ List.replicate m deadB⟩ K) : SK P C R (.c (.drw m l) :: k) ⟨ts, H⟩ := fun k' hk => by
  obtain ⟨c, m', rfl, hc, hm⟩ := hk.c
  obtain ⟨id, ops, pr, rfl, hd, hl⟩ := strip_drw hc
  exact ak_draw hmix pr m hd fun K hK => drwS_P (by rw [List.drop_zero]; exact hl) (h K fun s' hs => hK s' (hs _ hm))
theorem sk_subL {x : SC} {ts ts' : List (Nat × Value)} {H : Heap} (hs : subL ts' ts) (h : SK P C R (.c x :: k) ⟨ts', H⟩) : SK P C R (.c x :: k) ⟨ts, H⟩ := fun k' hk => by
  obtain ⟨c, m, rfl, hc, hm⟩ := hk.c
  exact ak_subL hs (h _ ⟨hc, hm⟩)
/-- What is known at a point of a walk, with few slots. -/
theorem sk_at {x : SC} {ts : List (Nat × Value)} {H : Heap} (sl : List (Nat × Value)) (I : Heap → Prop) (hs : subL sl ts) (h0 : I H)
    (h : ∀ H1, I H1 → SK P C R (.c x :: k) ⟨sl, H1⟩) : SK P C R (.c x :: k) ⟨ts, H⟩ := sk_subL hs (h H h0)
theorem ak_cut {P : Program} {C : Cx} {R : St → Prop} {k : List It} {x : Code} {s : St} (I : St → Prop) (h1 : AK P C R (.c x :: .inv I :: k) s) (h2 : ∀ s', I s' → AK P C R k s') : AK P C R (.c x :: k) s := by
  refine AW.mono h1 ?_
  intro e s' h
  cases e with
  | normal => exact h2 s' h
  | exit id => exact h (by simp)
  | ret => exact h (by simp)
/-- A walk cut in two. -/
theorem sk_cut {x y : SC} {s : St} (sl : List (Nat × Value)) (J : Heap → Prop) (h1 : SK P C R (.c x :: .inv (fun s' => subL sl s'.ts ∧ J s'.H) :: .c y :: k) s) (h2 : ∀ H1, J H1 → SK P C R (.c y :: k) ⟨sl, H1⟩) : SK P C R (.c x :: .c y :: k) s := fun k' hk => by
  obtain ⟨c, m, rfl, hc, hm⟩ := hk.c
  refine ak_cut _ (h1 _ ⟨hc, rfl, hm⟩) ?_
  rintro ⟨ts, H⟩ ⟨hs, hJ⟩
  exact sk_subL hs (h2 H hJ) _ hm
/-- A loop over 0 .. n-1: the slots at each round, what holds there. -/
theorem sk_rng {x : SC} {ts : List (Nat × Value)} {H : Heap} (n : Nat) (sl : Nat → List (Nat × Value)) (I : Nat → Heap → Prop) (hs : subL (sl 0) ts) (h0 : I 0 H)
    (step : ∀ i H1, i < n → I i H1 → SK P C R (.c x :: .inv (fun s' => subL (sl (i + 1)) s'.ts ∧ I (i + 1) s'.H) :: k) ⟨sl i, H1⟩)
    (last : ∀ H1, I n H1 → SK P C R (.c x :: .inv (fun _ => False) :: k) ⟨sl n, H1⟩) : SK P C R (.c (.loop x) :: k) ⟨ts, H⟩ := fun k' hk => by
  obtain ⟨c, m, rfl, hc, hm⟩ := hk.c
  obtain ⟨a, rfl, ha⟩ := strip_loop hc
  exact ak_rng n sl I hs h0 (fun i H1 hi hI => step i H1 hi hI _ ⟨ha, rfl, hm⟩) (fun H1 hI => last H1 hI _ ⟨ha, rfl, hm⟩)
/-- A loop: slots, heap, and a number that falls. -/
theorem sk_loop {x : SC} {ts : List (Nat × Value)} {H : Heap} (I : Nat → List (Nat × Value) → Heap → Prop) (n : Nat) (ts0 : List (Nat × Value)) (hs : subL ts0 ts) (h0 : I n ts0 H)
    (hI : ∀ n ts H, I n ts H → SK P C R (.c x :: .inv (fun s' => ∃ m ts', m < n ∧ subL ts' s'.ts ∧ I m ts' s'.H) :: k) ⟨ts, H⟩) : SK P C R (.c (.loop x) :: k) ⟨ts, H⟩ := fun k' hk => by
  obtain ⟨c, m, rfl, hc, hm⟩ := hk.c
  obtain ⟨a, rfl, ha⟩ := strip_loop hc
  exact ak_loopS I n ts0 hs h0 fun n ts H hi => hI n ts H hi _ ⟨ha, rfl, hm⟩
end

/-! ### a function's contract out of its stripped body -/
section
variable {P : Program} {f : FuncId} {fn : Func} {B : SC} {N : Nat} {rs : List ResultVar} {args : List Value} {H : Heap} {D : List Nat}
theorem body_of {N : Nat} {o : Option Code} {B : SC} (h : o.bind (stripC N) = some B) : ∃ c, o = some c ∧ stripC N c = some B := Option.bind_eq_some_iff.1 h
theorem AC.of_bodyS {R : Value → Heap → Prop} (hf : P.funcs[f]? = some fn) (hb : fn.body.bind (stripC N) = some B) (hok : fnOk P f = true) (hNe : fn.ntmps = N) (hrs : fn.results.toList = rs) (hN : args.length ≤ N)
    (h : SK P ⟨N, H.length, D⟩ (endR P rs R) [.c B] ⟨enumT 0 args, H⟩) : ∃ v H', AC P f args H v H' D ∧ R v H' := by
  obtain ⟨c, hc, hs⟩ := body_of hb
  exact AC.of_body0 hf hc hok hNe hrs hN (h _ ⟨hs, trivial⟩)
theorem AC.of_pureS {r : Value} (hf : P.funcs[f]? = some fn) (hb : fn.body.bind (stripC N) = some B) (hok : fnOk P f = true) (hNe : fn.ntmps = N) (hrs : fn.results.toList = rs) (hN : args.length ≤ N) (hr : plainV r = true)
    (h : SK P ⟨N, H.length, []⟩ (endR P rs fun v Hn => v = r ∧ ∃ J, Hn = H ++ J) [.c B] ⟨enumT 0 args, H⟩) : AC P f args H r H [] := by
  obtain ⟨c, hc, hs⟩ := body_of hb
  exact AC.of_pure hf hc hok hNe hrs hN hr (h _ ⟨hs, trivial⟩)
theorem AC.of_pureCS {r : Value} (hf : P.funcs[f]? = some fn) (hb : fn.body.bind (stripC N) = some B) (hok : fnOk P f = true) (hNe : fn.ntmps = N) (hrs : fn.results.toList = rs) (hN : args.length ≤ N) (hr : Clo H.length r)
    (h : SK P ⟨N, H.length, []⟩ (endR P rs fun v Hn => v = r ∧ ∃ J, Hn = H ++ J) [.c B] ⟨enumT 0 args, H⟩) : AC P f args H r H [] := by
  obtain ⟨c, hc, hs⟩ := body_of hb
  obtain ⟨v, H', h1, rfl, rfl⟩ := AC.of_body (R := fun v H' => v = r ∧ H' = H) hf hc hok hNe hrs hN (post_mono (fun s => endR_mono fun v Hn ⟨hvr, J, hJ⟩ => ⟨H, J, hJ, Nat.le_refl _, fun id j x hx => .inl ⟨Heap.lt_of_live (Heap.live_of_cell hx), hx⟩, by rw [hvr]; exact hr, hvr, rfl⟩) (h _ ⟨hs, trivial⟩))
  exact h1
theorem Clo.plains {cs : List Value} (h : allPlain cs = true) (n : Nat) : Clo n (.agg cs.toArray) := Clo.agg fun x hx => Clo.plain (by simp only [allPlain, List.all_eq_true] at h; exact h x (by simpa using hx))
theorem Mkr.of_bodyS {Q : Heap → List Nat → Value → Prop} (hf : P.funcs[f]? = some fn) (hb : fn.body.bind (stripC N) = some B) (hok : fnOk P f = true) (hNe : fn.ntmps = N) (hrs : fn.results.toList = rs) (hN : args.length ≤ N)
    (h : SK P ⟨N, H.length, []⟩ (endR P rs fun v Hn => H.length ≤ Hn.length ∧ (∀ i, i < H.length → Hn[i]? = H[i]?) ∧ ∃ E, Q Hn E v ∧ Own Hn E ∧ (∀ e, e ∈ E → H.length ≤ e)) [.c B] ⟨enumT 0 args, H⟩) : Mkr P f args H Q := by
  obtain ⟨c, hc, hs⟩ := body_of hb
  exact Mkr.of_body hf hc hok hNe hrs hN (h _ ⟨hs, trivial⟩)
theorem AC.of_markS {E : List Nat} {r : Value} {Q : Heap → Prop} (hf : P.funcs[f]? = some fn) (hb : fn.body.bind (stripC N) = some B) (hok : fnOk P f = true) (hNe : fn.ntmps = N) (hrs : fn.results.toList = rs) (hN : args.length ≤ N) (hr : plainV r = true)
    (h : SK P ⟨N, H.length, E⟩ (endR P rs fun v Hn => v = r ∧ ∃ H' J, Hn = H' ++ J ∧ MK E H H' ∧ Q H') [.c B] ⟨enumT 0 args, H⟩) : ∃ H', AC P f args H r H' E ∧ MK E H H' ∧ Q H' := by
  obtain ⟨c, hc, hs⟩ := body_of hb
  exact AC.of_mark hf hc hok hNe hrs hN hr (h _ ⟨hs, trivial⟩)
end
theorem AskX.mkr {P : Program} {C : Cx} {f : FuncId} {args : List Value} {H : Heap} {k : Ct} {Q : Heap → List Nat → Value → Prop} (m : Mkr P f args H Q)
    (hk : ∀ v J E, Q (H ++ J) E v → Own (H ++ J) E → (∀ e, e ∈ E → H.length ≤ e) → wrL C.n0 C.D [] ∧ runX P C k v (H ++ J)) : AskX P C f args H k := by
  obtain ⟨v, J, E, ac, h1, h2, h3⟩ := m
  exact ⟨v, H ++ J, [], ac, hk v J E h1 h2 h3⟩
theorem AskD.mkr {P : Program} {C : Cx} {f : FuncId} {args : List Value} {H : Heap} {k : Dt} {Q : Heap → List Nat → Value → Prop} (m : Mkr P f args H Q)
    (hk : ∀ v J E, Q (H ++ J) E v → Own (H ++ J) E → (∀ e, e ∈ E → H.length ≤ e) → wrL C.n0 C.D [] ∧ liveL H [] ∧ H.length ≤ (H ++ J).length ∧ chkAS P k.p H (H ++ J) k.hist ∧ pendD (H ++ J) (k.base + k.cnt) (k.m - k.cnt) ∧ dRun P C k v (H ++ J) k.cnt ((k.i, .eff H) :: k.hist)) : AskD P C f args H k := by
  obtain ⟨v, J, E, ac, h1, h2, h3⟩ := m
  exact ⟨v, H ++ J, [], ac, hk v J E h1 h2 h3⟩
theorem agr_tail {A A' J K : Heap} (h : A.length = A'.length) {E : List Nat} (hE : ∀ e, e ∈ E → A.length ≤ e) : ∀ id, id ∈ E → id < (A ++ J).length → (A' ++ (J ++ K))[id]? = (A ++ J)[id]? := fun id hi hl => by
  have := hE id hi
  rw [List.length_append] at hl
  rw [List.getElem?_append_right (by omega), List.getElem?_append_right (l₁ := A) (by omega), h, List.getElem?_append_left (by omega)]
theorem Own.fr {H H' : Heap} {E : List Nat} (h : Own H E) (ha : ∀ id, id ∈ E → H'[id]? = H[id]?) : Own H' E := ⟨h.1, fun id hi => by
  have := h.2 id hi
  unfold Heap.rwOk at this ⊢
  rw [ha id hi]; exact this⟩
theorem Own.lt {H : Heap} {E : List Nat} (h : Own H E) : ∀ id, id ∈ E → id < H.length := fun id hi => Heap.lt_of_live (Heap.live_of_rwOk (h.2 id hi))
theorem get_t1 (H J : Heap) (a : Blk) {i : Nat} (h : H.length + 1 ≤ i) : (H ++ a :: J)[i]? = J[i - (H.length + 1)]? := by
  rw [List.getElem?_append_right (by omega), show i - H.length = (i - (H.length + 1)) + 1 by omega]; rfl
theorem get_t2 (H J : Heap) (a b : Blk) {i : Nat} (h : H.length + 2 ≤ i) : (H ++ a :: b :: J)[i]? = J[i - (H.length + 2)]? := by
  rw [List.getElem?_append_right (by omega), show i - H.length = (i - (H.length + 2)) + 2 by omega]; rfl
theorem get_t3 (H J : Heap) (a b c : Blk) {i : Nat} (h : H.length + 3 ≤ i) : (H ++ a :: b :: c :: J)[i]? = J[i - (H.length + 3)]? := by
  rw [List.getElem?_append_right (by omega), show i - H.length = (i - (H.length + 3)) + 3 by omega]; rfl
theorem get_t4 (H J : Heap) (a b c d : Blk) {i : Nat} (h : H.length + 4 ≤ i) : (H ++ a :: b :: c :: d :: J)[i]? = J[i - (H.length + 4)]? := by
  rw [List.getElem?_append_right (by omega), show i - H.length = (i - (H.length + 4)) + 4 by omega]; rfl
theorem Own.app {H : Heap} {E F : List Nat} (h : Own H E) (k : Own H F) (hd : ∀ e, e ∈ E → e ∉ F) : Own H (E ++ F) :=
  ⟨List.nodup_append.2 ⟨h.1, k.1, fun a ha b hb hab => hd a ha (hab ▸ hb)⟩, fun id hi => by
    rcases List.mem_append.1 hi with hi | hi
    · exact h.2 id hi
    · exact k.2 id hi⟩
/-- A block that may be written, in this heap and in every one that grew out of it. -/
def RF (H : Heap) (id : Nat) : Prop := ∀ L, Heap.rwOk (H ++ L) id = true
theorem RF.a {H : Heap} {id : Nat} (h : RF H id) (L : Heap) : Heap.rwOk (H ++ L) id = true := h L
theorem RF.b {H : Heap} {id : Nat} (h : RF H id) : Heap.rwOk H id = true := by have := h []; rwa [List.append_nil] at this
theorem RF.of {H : Heap} {id : Nat} {t : TypeId} {cs : List Value} (h : H[id]? = some ⟨t, cs, true, true⟩) : RF H id := fun L => by
  unfold Heap.rwOk; rw [List.getElem?_append_left (lt_of_get h), h]; rfl
theorem RF.ok {H : Heap} {id : Nat} (h : Heap.rwOk H id = true) : RF H id := fun L => by
  unfold Heap.rwOk at h ⊢
  split at h
  · rename_i b hb; rw [List.getElem?_append_left (lt_of_get hb), hb]; exact h
  · cases h
theorem get_app {H : Heap} (L : Heap) {i : Nat} {b : Blk} (h : H[i]? = some b) : (H ++ L)[i]? = some b := by rw [List.getElem?_append_left (lt_of_get h)]; exact h
end Go.Proofs.YtpoedfmkiiijnaaAm
