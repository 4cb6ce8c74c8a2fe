/- The abstract machine, part 9: a region that draws its order, walked in the text's order. Plain lemmas; no program in sight. -/
import Derived.Test.YtpoedfmkiiijnaaAm8
namespace Go.Proofs.YtpoedfmkiiijnaaAm
open Go Go.RowKit
set_option linter.unusedVariables false
set_option linter.unusedSimpArgs false

def cntF (X : Nat → Bool) : Nat → Nat
  | 0 => 0
  | k + 1 => cntF X k + (if X k then 0 else 1)
theorem cntF_set {X : Nat → Bool} {i : Nat} (hX : X i = false) : ∀ {n : Nat}, (i < n → cntF (setX X i) n + 1 = cntF X n) ∧ (n ≤ i → cntF (setX X i) n = cntF X n) := by
  intro n
  induction n with
  | zero => exact ⟨fun h => by omega, fun _ => rfl⟩
  | succ n ih =>
    refine ⟨fun h => ?_, fun h => ?_⟩
    · by_cases e : n = i
      · subst e
        simp only [cntF, ih.2 (Nat.le_refl _), hX, setX, if_true, Bool.false_eq_true, if_false]
      · have := ih.1 (by omega)
        have e2 : setX X i n = X n := by simp [setX, e]
        simp only [cntF, e2]; omega
    · have e2 : setX X i n = X n := by simp [setX, show ¬ n = i by omega]
      simp only [cntF, e2, ih.2 (by omega)]
theorem cntF_zero {X : Nat → Bool} : ∀ {n : Nat}, cntF X n = 0 → ∀ i, i < n → X i = true := by
  intro n
  induction n with
  | zero => intro _ i hi; omega
  | succ n ih =>
    intro h i hi
    simp only [cntF] at h
    have h1 : cntF X n = 0 := by omega
    by_cases e : i = n
    · subst e
      cases hx : X i with
      | true => rfl
      | false => rw [hx] at h; simp at h
    · exact ih h1 i (by omega)
theorem cntF_false : ∀ n, cntF (fun _ => false) n = n
  | 0 => rfl
  | n + 1 => by simp [cntF, cntF_false n]

section
variable {P : Program} {C : Cx} {ops : Array Oper} {E : Nat → En} {pr : Nat → List Nat} {base : Nat}
def lst (listed : Array Bool) : Nat → Bool := fun i => listed.getD i false
theorem absL_congr {ts : List (Nat × Value)} {X Y : Nat → Bool} : ∀ {n : Nat}, (∀ i, i < n → X i = Y i) → absL ops E ts X n = absL ops E ts Y n := by
  intro n
  induction n with
  | zero => intro _; rfl
  | succ n ih =>
    intro h
    simp only [absL, ih fun i hi => h i (by omega), h n (by omega)]
theorem Mid.congr {B0 : Nat} {φ0 : Phi} {w0 w : World} {X Y : Nat → Bool} {a : Act} (hm : Mid P C ops E B0 φ0 w0 X a w) (h : ∀ i, i < ops.size → X i = Y i) : Mid P C ops E B0 φ0 w0 Y a w := by
  obtain ⟨φ, c, V, hc, hcut, hV, hi, ht, hN, hd, hfree, hearly, hids, hset⟩ := hm.out
  refine ⟨φ, c, V, hc, fun e T he hk => by rw [← h e he]; exact hcut e T he hk, ⟨hV.1, fun id => ⟨fun i b h1 h2 h3 h4 => (hV.2 id).1 i b h1 h2 (by rw [h i h2]; exact h3) h4, fun hno => (hV.2 id).2 fun i b h1 h2 h3 h4 => hno i b h1 h2 (by rw [← h i h2]; exact h3) h4⟩⟩, hi,
    by rw [← absL_congr h]; exact ht, hN, hd, fun i id b h1 h2 h3 => hfree i id b h1 h2 (by rw [h i h1]; exact h3), fun i id b h1 h2 h3 h4 => hearly i id b h1 h2 h3 (by rw [h i h2]; exact h4), hids, fun i id b h1 h2 h3 => hset i id b h1 h2 (by rw [h i h1]; exact h3)⟩
theorem Trc.all (h : Trc P C ops E pr base) (hb0 : C.n0 ≤ base) {B0 : Nat} {φ0 : Phi} {w0 : World} {Q : Exit → Act → World → Prop}
    (hQ : ∀ a' w', Rl P C B0 φ0 w0 (E ops.size).s a' w' → Q .normal a' w') : ∀ (fuel : Nat) (listed : Array Bool) (a : Act) (w : World), listed.size = ops.size → cntF (lst listed) ops.size ≤ fuel →
      (∀ j, lst listed j = true → ∀ m, m ∈ pr j → lst listed m = true) → Mid P C ops E B0 φ0 w0 (lst listed) a w → wpAny P .any ops Q fuel listed a w := by
  have fin : ∀ (listed : Array Bool) (a : Act) (w : World), (∀ i, i < ops.size → lst listed i = true) → Mid P C ops E B0 φ0 w0 (lst listed) a w → Q .normal a w := by
    intro listed a w hall hm
    obtain ⟨φ, c, V, hc, hcut, hV, hi, ht, hN, hd, hfree, hearly, hids, hset⟩ := hm.out
    have hne : ∀ e T, c ≤ e → e < ops.size → (E e).k ≠ .eff T := fun e T h1 h2 h3 => by have := (hcut e T h2 h3).1 (hall e h2); omega
    refine hQ a w ⟨φ, ?_, ?_, hN, hd⟩
    · have hl := h.stL hc (Nat.le_refl _) hne
      refine hi.less (by rw [hl, ← hV.1]; exact hi.len) (fun id L hL => by rw [hl, ← hV.1]; exact hi.hr.dom id L hL) fun id L hL => .inl ?_
      by_cases hnew : ∃ j b, c ≤ j ∧ j < ops.size ∧ (E j).k = .new id b
      · obtain ⟨j, b, h1, h2, h3⟩ := hnew
        rw [(hV.2 id).1 j b h1 h2 (hall j h2) h3]
        exact h.stB h3 h1 h2 (Nat.le_refl _) hne
      · rw [(hV.2 id).2 fun j b h1 h2 _ h3 => hnew ⟨j, b, h1, h2, h3⟩]
        exact h.stA hc (Nat.le_refl _) hne fun j b h1 h2 h3 => hnew ⟨j, b, h1, h2, h3⟩
    · rw [h.text _ (Nat.le_refl _), ← absL_congr hall]; exact ht
  intro fuel
  induction fuel with
  | zero =>
    intro listed a w hsz hc hcl hm
    have hall := cntF_zero (Nat.le_zero.1 hc)
    refine ⟨?_, fin listed a w hall hm⟩
    cases hr : Region.ready .any ops listed with
    | nil => rfl
    | cons i r =>
      have hmem : i ∈ Region.ready .any ops listed := by rw [hr]; simp
      obtain ⟨h0, o, ho, _⟩ := mem_ready.1 hmem
      have hin : i < ops.size := (Array.getElem?_eq_some_iff.1 ho).1
      have := hall i hin
      unfold lst at this
      have hlt : i < listed.size := by omega
      simp [hlt] at h0 this
      rw [h0] at this; cases this
  | succ fuel ih =>
    intro listed a w hsz hc hcl hm
    refine ⟨fun hr => fin listed a w ?_ hm, ?_⟩
    · intro i
      induction i using Nat.strongRecOn with
      | _ i ihi =>
        intro hin
        cases hx : lst listed i with
        | true => rfl
        | false =>
          obtain ⟨o, ho⟩ := opAt hin
          have : i ∈ Region.ready .any ops listed := mem_ready.2 ⟨by unfold lst at hx; have hlt : i < listed.size := by omega
                                                                     simp [hlt] at hx ⊢; exact hx, o, ho, fun e he hb => ihi e.on (h.p4 i o ho e he hb) (by have := h.p4 i o ho e he hb; omega)⟩
          rw [hr] at this; cases this
    · intro i hmem
      obtain ⟨h0, o, ho, hed⟩ := mem_ready.1 hmem
      have hin : i < ops.size := (Array.getElem?_eq_some_iff.1 ho).1
      have hlt : i < listed.size := by omega
      have hX : lst listed i = false := by unfold lst; simp [hlt] at h0 ⊢; exact h0
      have hpr : ∀ j, j ∈ pr i → lst listed j = true := by
        intro j hj
        obtain ⟨_, e, he, hb, hcase⟩ := h.p1 i o ho j hj
        rcases hcase with rfl | ⟨_, hj'⟩
        · exact hed e he hb
        · exact hcl e.on (hed e he hb) j hj'
      have hset : ∀ j, lst (listed.setIfInBounds i true) j = setX (lst listed) i j := by
        intro j
        unfold lst setX
        by_cases e : j = i
        · subst e; simp [hlt]
        · simp only [e, if_false]; exact getD_set_ne false (Ne.symm e)
      refine h.move hb0 hm hcl ho hX hpr fun a' w' hm' => ih _ a' w' (by simp [hsz]) ?_ ?_ (hm'.congr fun j _ => (hset j).symm)
      · have e1 := (cntF_set (n := ops.size) hX).1 hin
        have e2 : cntF (lst (listed.setIfInBounds i true)) ops.size = cntF (setX (lst listed) i) ops.size := by
          rw [show lst (listed.setIfInBounds i true) = setX (lst listed) i from funext hset]
        omega
      · intro j hj m hmj
        rw [hset] at hj ⊢
        by_cases e : j = i
        · subst e
          have := hpr m hmj
          unfold setX; split <;> simp [this]
        · have hj' : lst listed j = true := by simpa [setX, e] using hj
          have := hcl j hj' m hmj
          unfold setX; split <;> simp [this]
end

/-! ### the static look at a region's edges -/
def preOk (ops : List Oper) (pr : List (List Nat)) : Bool :=
  ops.zipIdx.all fun (o, i) => ((pr.getD i []).all fun j => decide (j < i) && o.after.toList.any fun e => Region.binds .any e && (e.on == j || (decide (e.on < i) && (pr.getD e.on []).contains j))) &&
    o.after.toList.all fun e => !Region.binds .any e || decide (e.on < i)
def clash (ops : Array Oper) (a b : Oper) : Bool :=
  (match a.dst with | some d => (looks ops b).contains d || b.dst == some d | none => false) || (match b.dst with | some d => (looks ops a).contains d | none => false) || (isEff a.op && isEff b.op)
def pairOk (ops : Array Oper) (pr : List (List Nat)) : Bool :=
  ops.toList.zipIdx.all fun (o, j) => ops.toList.zipIdx.all fun (o', i) => decide (j ≤ i) || !clash ops o' o || (pr.getD j []).contains i
def drawOk (ops : Array Oper) (pr : List (List Nat)) : Bool := preOk ops.toList pr && pairOk ops pr

/-! ### the walk in the text's order -/
inductive HE where
  | load (t : TypeId) (a v : Value)
  | eff (H : Heap)
  | new (id : Nat)
def chkB (P : Program) (p : List Nat) (t : TypeId) (a v : Value) : List (Nat × HE) → Prop
  | [] => True
  | (e, .eff H) :: r => if p.contains e then chkB P p t a v r else ldA P H t a = some v ∧ chkB P p t a v r
  | (_, .load _ _ _) :: r => chkB P p t a v r
  | (_, .new _) :: r => chkB P p t a v r
def chkA (P : Program) (p : List Nat) (H H' : Heap) : List (Nat × HE) → Prop
  | [] => True
  | (_, .eff _) :: r => chkA P p H H' r
  | (j, .load t a v) :: r => if p.contains j then chkA P p H H' r else ldA P H' t a = some v ∧ chkA P p H H' r
  | (j, .new id) :: r => if p.contains j then chkA P p H H' r else H'[id]? = H[id]? ∧ chkA P p H H' r
/-- Ids that are still to come stay dead. -/
def pendD (H : Heap) (id : Nat) : Nat → Prop
  | 0 => True
  | f + 1 => Heap.hot H id = false ∧ pendD H (id + 1) f
def drawP (P : Program) (C : Cx) (ops : Array Oper) (pr : List (List Nat)) (base m : Nat) : List Oper → Nat → Nat → List (Nat × HE) → St → (St → Prop) → Prop
  | [], _, _, _, s, K => K s
  | o :: l, i, cnt, hist, s, K => dstOk C.N o.dst ∧ match wantedA ops o s.ts with
    | none => False
    | some false => drawP P C ops pr base m l (i + 1) cnt hist ⟨putT o.dst uV s.ts, s.H⟩ K
    | some true => match o.op with
      | .load t x => match evO s.ts x with
        | some a => match ldA P s.H t a with
          | some v => chkB P (pr.getD i []) t a v hist ∧ drawP P C ops pr base m l (i + 1) cnt ((i, .load t a v) :: hist) ⟨putT o.dst v s.ts, s.H⟩ K
          | none => False
        | none => False
      | .store t x y => match evO s.ts x, evO s.ts y with
        | some a, some v => match stA P s.H t a v with
          | some r => wr C.n0 C.D r.1 ∧ chkA P (pr.getD i []) s.H r.2 hist ∧ pendD r.2 (base + cnt) (m - cnt) ∧ drawP P C ops pr base m l (i + 1) cnt ((i, .eff s.H) :: hist) ⟨putT o.dst uV s.ts, r.2⟩ K
          | none => False
        | _, _ => False
      | .call { callee := .value fx, args := as, argTypes := _ } => match (evO s.ts fx).bind fnV, evL (evO s.ts) as.toList with
        | some r, some vs => Ask P r.1 (vs ++ r.2) s.H fun v H' Dc => wrL C.n0 C.D Dc ∧ liveL s.H Dc ∧ s.H.length ≤ H'.length ∧
            chkA P (pr.getD i []) s.H H' hist ∧ pendD H' (base + cnt) (m - cnt) ∧ drawP P C ops pr base m l (i + 1) cnt ((i, .eff s.H) :: hist) ⟨putT o.dst v s.ts, H'⟩ K
        | _, _ => False
      | .call { callee := .builtin .append, args := as, argTypes := ts } => match as.toList with
        | [x, y] => match evO s.ts x, evO s.ts y with
          | some a, some b => match apA P s.H ts.toList a b with
            | some r => wrO C.n0 C.D r.1 ∧ liveO s.H r.1 ∧ chkA P (pr.getD i []) s.H r.2.2 hist ∧ pendD r.2.2 (base + cnt) (m - cnt) ∧
                drawP P C ops pr base m l (i + 1) cnt ((i, .eff s.H) :: hist) ⟨putT o.dst r.2.1 s.ts, r.2.2⟩ K
            | none => False
          | _, _ => False
        | _ => False
      | .alloc t => match newA P (evO s.ts) (.alloc t) with
        | some r => cnt < m ∧ drawP P C ops pr base m l (i + 1) (cnt + 1) ((i, .new (base + cnt)) :: hist) ⟨putT o.dst (r.val (base + cnt)) s.ts, s.H.set (base + cnt) ⟨r.ty, r.cells, true, true⟩⟩ K
        | none => False
      | .box t x => match newA P (evO s.ts) (.box t x) with
        | some r => cnt < m ∧ drawP P C ops pr base m l (i + 1) (cnt + 1) ((i, .new (base + cnt)) :: hist) ⟨putT o.dst (r.val (base + cnt)) s.ts, s.H.set (base + cnt) ⟨r.ty, r.cells, true, true⟩⟩ K
        | none => False
      | .buildSlice t n ps => match newA P (evO s.ts) (.buildSlice t n ps) with
        | some r => cnt < m ∧ drawP P C ops pr base m l (i + 1) (cnt + 1) ((i, .new (base + cnt)) :: hist) ⟨putT o.dst (r.val (base + cnt)) s.ts, s.H.set (base + cnt) ⟨r.ty, r.cells, true, true⟩⟩ K
        | none => False
      | .makeSlice t a b => match newA P (evO s.ts) (.makeSlice t a b) with
        | some r => cnt < m ∧ drawP P C ops pr base m l (i + 1) (cnt + 1) ((i, .new (base + cnt)) :: hist) ⟨putT o.dst (r.val (base + cnt)) s.ts, s.H.set (base + cnt) ⟨r.ty, r.cells, true, true⟩⟩ K
        | none => False
      | op => match pureOp P (evO s.ts) op with
        | some v => drawP P C ops pr base m l (i + 1) cnt hist ⟨putT o.dst v s.ts, s.H⟩ K
        | none => False

/-! ### out of the walk, the trace -/
def HN (i : Nat) (e : En) : List (Nat × HE) := match e.wt, e.k with
  | true, .load t a => [(i, .load t a e.v)]
  | true, .new id _ => [(i, .new id)]
  | true, .eff _ => [(i, .eff e.s.H)]
  | _, _ => []
def cN1 (e : En) : Nat := match e.wt, e.k with
  | true, .new _ _ => 1
  | _, _ => 0
def hsE (E : Nat → En) : Nat → List (Nat × HE)
  | 0 => []
  | i + 1 => HN i (E i) ++ hsE E i
def cnE (E : Nat → En) : Nat → Nat
  | 0 => 0
  | i + 1 => cnE E i + cN1 (E i)
def Good (P : Program) (C : Cx) (ops : Array Oper) (pr : List (List Nat)) (base m i : Nat) (o : Oper) (cnt : Nat) (hist : List (Nat × HE)) (e : En) (s' : St) : Prop :=
  dstOk C.N o.dst ∧ s'.ts = putT o.dst e.v e.s.ts ∧ wantedA ops o e.s.ts = some e.wt ∧
  (e.wt = false → e.v = uV ∧ e.k = .pure ∧ s'.H = e.s.H) ∧
  (e.wt = true → match e.k with
    | .pure => pureOp P (evO e.s.ts) o.op = some e.v ∧ s'.H = e.s.H
    | .load t a => (∃ x, o.op = .load t x ∧ evO e.s.ts x = some a) ∧ ldA P e.s.H t a = some e.v ∧ s'.H = e.s.H ∧ chkB P (pr.getD i []) t a e.v hist
    | .new id b => ∃ r, newA P (evO e.s.ts) o.op = some r ∧ b = ⟨r.ty, r.cells, true, true⟩ ∧ e.v = r.val id ∧ s'.H = e.s.H.set id b ∧ id = base + cnt ∧ cnt < m
    | .eff T => isEff o.op = true ∧ SE P C o e.s .eff e.v s'.H T ∧ (∀ d, d ∈ T → e.s.H.live d = true) ∧ e.s.H.length ≤ s'.H.length ∧ chkA P (pr.getD i []) e.s.H s'.H hist ∧ pendD s'.H (base + cnt) (m - cnt))
theorem apA_len {P : Program} {H : Heap} {ts : List TypeId} {a b : Value} {r : Option Nat × Value × Heap} (h : apA P H ts a b = some r) : H.length ≤ r.2.2.length := by
  unfold apA at h
  (repeat' split at h) <;> first | cases h; done | (cases h; simp [length_killO])
theorem stA_len {P : Program} {H : Heap} {t : TypeId} {a v : Value} {r : Nat × Heap} (h : stA P H t a v = some r) : H.length ≤ r.2.length ∧ H.live r.1 = true := by
  unfold stA at h
  split at h
  · split at h
    · rename_i hh; cases h; exact ⟨by rw [Heap.length_puts]; exact Nat.le_refl _, Heap.live_of_rwOk hh.1⟩
    · cases h
  · cases h
theorem drawP_step {P : Program} {C : Cx} {ops : Array Oper} {pr : List (List Nat)} {base m i cnt : Nat} {o : Oper} {l : List Oper} {hist : List (Nat × HE)} {s : St} {K : St → Prop}
    (h : drawP P C ops pr base m (o :: l) i cnt hist s K) : ∃ e s', e.s = s ∧ Good P C ops pr base m i o cnt hist e s' ∧ drawP P C ops pr base m l (i + 1) (cnt + cN1 e) (HN i e ++ hist) s' K := by
  obtain ⟨hd, h⟩ := h
  split at h
  · exact h.elim
  · rename_i hw
    exact ⟨⟨s, .pure, uV, false⟩, ⟨putT o.dst uV s.ts, s.H⟩, rfl, ⟨hd, rfl, hw, fun _ => ⟨rfl, rfl, rfl⟩, fun e => by cases e⟩, h⟩
  · rename_i hw
    have news : ∀ (r : NewR), newA P (evO s.ts) o.op = some r → cnt < m → drawP P C ops pr base m l (i + 1) (cnt + 1) ((i, .new (base + cnt)) :: hist) ⟨putT o.dst (r.val (base + cnt)) s.ts, s.H.set (base + cnt) ⟨r.ty, r.cells, true, true⟩⟩ K →
        ∃ e s', e.s = s ∧ Good P C ops pr base m i o cnt hist e s' ∧ drawP P C ops pr base m l (i + 1) (cnt + cN1 e) (HN i e ++ hist) s' K := fun r hr hc h =>
      ⟨⟨s, .new (base + cnt) ⟨r.ty, r.cells, true, true⟩, r.val (base + cnt), true⟩, ⟨putT o.dst (r.val (base + cnt)) s.ts, s.H.set (base + cnt) ⟨r.ty, r.cells, true, true⟩⟩, rfl, ⟨hd, rfl, hw, (fun e => by cases e), fun _ => ⟨r, hr, rfl, rfl, rfl, rfl, hc⟩⟩, h⟩
    split at h
    · rename_i t x ho
      split at h
      · rename_i a ha
        split at h
        · rename_i v hv
          exact ⟨⟨s, .load t a, v, true⟩, ⟨putT o.dst v s.ts, s.H⟩, rfl, ⟨hd, rfl, hw, (fun e => by cases e), fun _ => ⟨⟨x, ho, ha⟩, hv, rfl, h.1⟩⟩, h.2⟩
        · exact h.elim
      · exact h.elim
    · rename_i t x y ho
      split at h
      · rename_i a v ha hv
        split at h
        · rename_i r hr
          obtain ⟨h1, h2, h3, h4⟩ := h
          obtain ⟨l1, l2⟩ := stA_len hr
          exact ⟨⟨s, .eff [r.1], uV, true⟩, ⟨putT o.dst uV s.ts, r.2⟩, rfl, ⟨hd, rfl, hw, (fun e => by cases e), fun _ => ⟨by rw [ho]; rfl, .store ho ha hv hr h1, (fun d hd' => by simp at hd'; rw [hd']; exact l2), l1, h2, h3⟩⟩, h4⟩
        · exact h.elim
      · exact h.elim
    · rename_i fx as ts ho
      split at h
      · rename_i r vs hf ha
        obtain ⟨v, H', Dc, h1, h2, h2l, h3, h4, h5, h6⟩ := h
        obtain ⟨u, hu, hfn⟩ := Option.bind_eq_some_iff.1 hf
        obtain ⟨cap, rfl, hcap⟩ := fnV_eq hfn
        rw [← hcap] at h1
        exact ⟨⟨s, .eff Dc, v, true⟩, ⟨putT o.dst v s.ts, H'⟩, rfl, ⟨hd, rfl, hw, (fun e => by cases e), fun _ => ⟨by rw [ho]; rfl, .call ho hu ha h1 h2, h2l, h3, h4, h5⟩⟩, h6⟩
      · exact h.elim
    · rename_i as ts ho
      split at h
      · rename_i x y has
        split at h
        · rename_i a b ha hb
          split at h
          · rename_i r hr
            obtain ⟨h1, h1l, h2, h3, h4⟩ := h
            exact ⟨⟨s, .eff r.1.toList, r.2.1, true⟩, ⟨putT o.dst r.2.1 s.ts, r.2.2⟩, rfl, ⟨hd, rfl, hw, (fun e => by cases e), fun _ => ⟨by rw [ho]; rfl, .append ho has ha hb hr h1, fun d hd' => h1l d (by simpa using hd'), apA_len hr, h2, h3⟩⟩, h4⟩
          · exact h.elim
        · exact h.elim
      · exact h.elim
    · rename_i t ho
      split at h
      · rename_i r hr; exact news r (by rw [ho]; exact hr) h.1 h.2
      · exact h.elim
    · rename_i t x ho
      split at h
      · rename_i r hr; exact news r (by rw [ho]; exact hr) h.1 h.2
      · exact h.elim
    · rename_i t n ps ho
      split at h
      · rename_i r hr; exact news r (by rw [ho]; exact hr) h.1 h.2
      · exact h.elim
    · rename_i t a b ho
      split at h
      · rename_i r hr; exact news r (by rw [ho]; exact hr) h.1 h.2
      · exact h.elim
    · split at h
      · rename_i v hv
        exact ⟨⟨s, .pure, v, true⟩, ⟨putT o.dst v s.ts, s.H⟩, rfl, ⟨hd, rfl, hw, (fun e => by cases e), fun _ => ⟨hv, rfl⟩⟩, h⟩
      · exact h.elim
theorem hsE_congr {E E' : Nat → En} : ∀ {i : Nat}, (∀ q, q < i → E q = E' q) → hsE E i = hsE E' i ∧ cnE E i = cnE E' i
  | 0, _ => ⟨rfl, rfl⟩
  | i + 1, h => by
    obtain ⟨h1, h2⟩ := hsE_congr (i := i) fun q hq => h q (by omega)
    simp only [hsE, cnE, h1, h2, h i (by omega), and_self]
theorem drawP_trace {P : Program} {C : Cx} {ops : Array Oper} {pr : List (List Nat)} {base m : Nat} {K : St → Prop} : ∀ (l : List Oper) (i : Nat) (E0 : Nat → En) (s : St), drawP P C ops pr base m l i (cnE E0 i) (hsE E0 i) s K →
    ∃ E : Nat → En, (∀ q, q < i → E q = E0 q) ∧ (E i).s = s ∧ K (E (i + l.length)).s ∧ ∀ q o, l[q]? = some o → Good P C ops pr base m (i + q) o (cnE E (i + q)) (hsE E (i + q)) (E (i + q)) (E (i + q + 1)).s
  | [], i, E0, s, h => ⟨fun q => if q = i then ⟨s, .pure, uV, false⟩ else E0 q, fun q hq => by simp [show ¬ q = i by omega], by simp, by simpa [drawP] using h, fun q o hq => by simp at hq⟩
  | o :: l, i, E0, s, h => by
    obtain ⟨e, s', hes, hg, hn⟩ := drawP_step h
    have hag : ∀ q, q < i → (fun q => if q = i then e else E0 q) q = E0 q := fun q hq => by simp [show ¬ q = i by omega]
    obtain ⟨c1, c2⟩ := hsE_congr hag
    obtain ⟨E, k1, k2, k3, k4⟩ := drawP_trace l (i + 1) (fun q => if q = i then e else E0 q) s' (by
      simp only [cnE, hsE, c1, c2, if_true]; exact hn)
    have hEi : E i = e := by rw [k1 i (by omega)]; simp
    have hbelow : ∀ q, q < i → E q = E0 q := fun q hq => by rw [k1 q (by omega)]; exact hag q hq
    refine ⟨E, hbelow, by rw [hEi]; exact hes, by rw [show i + (o :: l).length = i + 1 + l.length by simp; omega]; exact k3, fun q o' hq => ?_⟩
    obtain ⟨d1, d2⟩ := hsE_congr hbelow
    cases q with
    | zero =>
      simp at hq; subst hq
      rw [Nat.add_zero, hEi, d1, d2, k2]; exact hg
    | succ q =>
      have := k4 q o' (by simpa using hq)
      rw [show i + (q + 1) = i + 1 + q by omega]; exact this

theorem hs_mem {E : Nat → En} {j : Nat} {x : Nat × HE} : ∀ {i : Nat}, j < i → x ∈ HN j (E j) → x ∈ hsE E i
  | 0, h, _ => by omega
  | i + 1, h, hx => by
    simp only [hsE, List.mem_append]
    by_cases e : j = i
    · subst e; exact .inl hx
    · exact .inr (hs_mem (i := i) (by omega) hx)
theorem chkB_mem {P : Program} {p : List Nat} {t : TypeId} {a v : Value} {e : Nat} {H : Heap} : ∀ {hist : List (Nat × HE)}, chkB P p t a v hist → (e, HE.eff H) ∈ hist → e ∉ p → ldA P H t a = some v
  | [], _, hm, _ => by simp at hm
  | (e', .eff H') :: r, h, hm, hp => by
    simp only [chkB] at h
    rcases List.mem_cons.1 hm with heq | hm'
    · cases heq
      rw [if_neg (by simpa using hp)] at h; exact h.1
    · split at h
      · exact chkB_mem h hm' hp
      · exact chkB_mem h.2 hm' hp
  | (e', .load _ _ _) :: r, h, hm, hp => chkB_mem (hist := r) h (by simpa using hm) hp
  | (e', .new _) :: r, h, hm, hp => chkB_mem (hist := r) h (by simpa using hm) hp
theorem chkA_load {P : Program} {p : List Nat} {H H' : Heap} {t : TypeId} {a v : Value} {j : Nat} : ∀ {hist : List (Nat × HE)}, chkA P p H H' hist → (j, HE.load t a v) ∈ hist → j ∉ p → ldA P H' t a = some v
  | [], _, hm, _ => by simp at hm
  | (e', .load t' a' v') :: r, h, hm, hp => by
    simp only [chkA] at h
    rcases List.mem_cons.1 hm with heq | hm'
    · cases heq
      rw [if_neg (by simpa using hp)] at h; exact h.1
    · split at h
      · exact chkA_load h hm' hp
      · exact chkA_load h.2 hm' hp
  | (e', .new id) :: r, h, hm, hp => by
    simp only [chkA] at h
    have hm' : (j, HE.load t a v) ∈ r := by simpa using hm
    split at h
    · exact chkA_load h hm' hp
    · exact chkA_load h.2 hm' hp
  | (e', .eff _) :: r, h, hm, hp => chkA_load (hist := r) h (by simpa using hm) hp
theorem chkA_new {P : Program} {p : List Nat} {H H' : Heap} {id j : Nat} : ∀ {hist : List (Nat × HE)}, chkA P p H H' hist → (j, HE.new id) ∈ hist → j ∉ p → H'[id]? = H[id]?
  | [], _, hm, _ => by simp at hm
  | (e', .new id') :: r, h, hm, hp => by
    simp only [chkA] at h
    rcases List.mem_cons.1 hm with heq | hm'
    · cases heq
      rw [if_neg (by simpa using hp)] at h; exact h.1
    · split at h
      · exact chkA_new h hm' hp
      · exact chkA_new h.2 hm' hp
  | (e', .load t' a' v') :: r, h, hm, hp => by
    simp only [chkA] at h
    have hm' : (j, HE.new id) ∈ r := by simpa using hm
    split at h
    · exact chkA_new h hm' hp
    · exact chkA_new h.2 hm' hp
  | (e', .eff _) :: r, h, hm, hp => chkA_new (hist := r) h (by simpa using hm) hp
theorem pendD_at {H : Heap} : ∀ {f id : Nat}, pendD H id f → ∀ q, q < f → Heap.hot H (id + q) = false
  | 0, id, _, q, hq => by omega
  | f + 1, id, h, q, hq => by
    cases q with
    | zero => exact h.1
    | succ q => rw [show id + (q + 1) = id + 1 + q by omega]; exact pendD_at h.2 q (by omega)
def deadB : Blk := ⟨0, [], false, false⟩

theorem Trc.of_good {P : Program} {C : Cx} {ops : Array Oper} {pr : List (List Nat)} {base m : Nat} {E : Nat → En} {H0 : Heap} (hst : drawOk ops pr = true) (hb : base = H0.length) (h0 : (E 0).s.H = H0 ++ List.replicate m deadB)
    (hg : ∀ q o, ops[q]? = some o → Good P C ops pr base m q o (cnE E q) (hsE E q) (E q) (E (q + 1)).s) : Trc P C ops E (fun i => pr.getD i []) base := by
  have hlen0 : (E 0).s.H.length = base + m := by rw [h0, hb]; simp
  have kinds : ∀ q, q < ops.size → ((∃ T, (E q).k = .eff T) ∧ (E q).wt = true ∧ (E q).s.H.length ≤ (E (q + 1)).s.H.length ∧ cN1 (E q) = 0 ∧ pendD (E (q + 1)).s.H (base + cnE E q) (m - cnE E q)) ∨
      (∃ b, (E q).k = .new (base + cnE E q) b ∧ (E q).wt = true ∧ cnE E q < m ∧ cN1 (E q) = 1 ∧ (E (q + 1)).s.H = (E q).s.H.set (base + cnE E q) b) ∨
      ((E (q + 1)).s.H = (E q).s.H ∧ cN1 (E q) = 0 ∧ (∀ id b, (E q).k ≠ .new id b) ∧ ∀ T, (E q).k ≠ .eff T) := by
    intro q hq
    obtain ⟨o, ho⟩ := opAt hq
    obtain ⟨_, _, _, h4, h5⟩ := hg q o ho
    cases hw : (E q).wt with
    | false => obtain ⟨_, hk, hH⟩ := h4 hw; exact .inr (.inr ⟨hH, by simp [cN1, hw], fun id b => by rw [hk]; simp, fun T => by rw [hk]; simp⟩)
    | true =>
      have h5' := h5 hw
      cases hk : (E q).k with
      | pure => rw [hk] at h5'; exact .inr (.inr ⟨h5'.2, by simp [cN1, hw, hk], fun id b => by simp, fun T => by simp⟩)
      | load t a => rw [hk] at h5'; exact .inr (.inr ⟨h5'.2.2.1, by simp [cN1, hw, hk], fun id b => by simp, fun T => by simp⟩)
      | eff T => rw [hk] at h5'; exact .inl ⟨⟨T, rfl⟩, rfl, h5'.2.2.2.1, by simp [cN1, hw, hk], h5'.2.2.2.2.2⟩
      | new id b =>
        rw [hk] at h5'
        obtain ⟨r, _, _, _, hH, hid, hc⟩ := h5'
        subst hid
        exact .inr (.inl ⟨b, rfl, rfl, hc, by simp [cN1, hw, hk], hH⟩)
  have hlen : ∀ q, q ≤ ops.size → base + m ≤ (E q).s.H.length := by
    intro q
    induction q with
    | zero => intro _; omega
    | succ q ih =>
      intro hq
      have ih' := ih (by omega)
      rcases kinds q (by omega) with ⟨_, _, h1, _⟩ | ⟨b, _, _, _, _, hH⟩ | ⟨hH, _⟩
      · omega
      · rw [hH]; simpa using ih'
      · rw [hH]; exact ih'
  have hdead : ∀ k, k ≤ ops.size → ∀ q, cnE E k ≤ q → q < m → Heap.hot (E k).s.H (base + q) = false := by
    intro k
    induction k with
    | zero =>
      intro _ q _ hq
      unfold Heap.hot
      rw [h0, hb, List.getElem?_append_right (by omega)]
      simp [hq, deadB]
    | succ k ih =>
      intro hk q hcq hqm
      rcases kinds k (by omega) with ⟨_, _, _, hc, hp⟩ | ⟨b, _, _, _, hc, hH⟩ | ⟨hH, hc, _⟩
      · simp only [cnE, hc] at hcq
        have := pendD_at hp (q - cnE E k) (by omega)
        rwa [show base + cnE E k + (q - cnE E k) = base + q by omega] at this
      · simp only [cnE, hc] at hcq
        have := ih (by omega) q (by omega) hqm
        unfold Heap.hot at this ⊢
        rw [hH, List.getElem?_set_ne (by omega)]; exact this
      · simp only [cnE, hc] at hcq
        rw [hH]; exact ih (by omega) q (by omega) hqm
  have hmono : ∀ d k, cnE E k ≤ cnE E (k + d) := by
    intro d
    induction d with
    | zero => intro k; exact Nat.le_refl _
    | succ d ih => intro k; have := ih k; rw [show k + (d + 1) = k + d + 1 by omega]; simp only [cnE]; omega
  have hnew : ∀ j id b, j < ops.size → (E j).k = .new id b → id = base + cnE E j ∧ cnE E j < m ∧ (E j).wt = true ∧ cN1 (E j) = 1 := by
    intro j id b hj hk
    rcases kinds j hj with ⟨⟨T, hT⟩, _⟩ | ⟨b', hk', hw, hc, hc1, _⟩ | ⟨_, _, hno, _⟩
    · rw [hk] at hT; cases hT
    · rw [hk] at hk'; cases hk'; exact ⟨rfl, hc, hw, hc1⟩
    · exact absurd hk (hno id b)
  have heffw : ∀ j T, j < ops.size → (E j).k = .eff T → (E j).wt = true := by
    intro j T hj hk
    rcases kinds j hj with ⟨_, hw, _⟩ | ⟨b', hk', _⟩ | ⟨_, _, _, hno⟩
    · exact hw
    · rw [hk] at hk'; cases hk'
    · exact absurd hk (hno T)
  simp only [drawOk, Bool.and_eq_true] at hst
  obtain ⟨hpre, hpair⟩ := hst
  simp only [preOk, List.all_eq_true] at hpre
  simp only [pairOk, List.all_eq_true] at hpair
  have hzip : ∀ (q : Nat) (o : Oper), ops[q]? = some o → (o, q) ∈ ops.toList.zipIdx := fun q o ho => by
    rw [List.mem_zipIdx_iff_getElem?]; simpa using ho
  have hpp : ∀ i j oi oj, ops[i]? = some oi → ops[j]? = some oj → i < j → clash ops oi oj = true → i ∈ pr.getD j [] := by
    intro i j oi oj hi hj hij hc
    have := hpair (oj, j) (hzip j oj hj) (oi, i) (hzip i oi hi)
    simp only [hc, Bool.not_true, Bool.or_false, Bool.or_eq_true, decide_eq_true_eq] at this
    rcases this with h1 | h1
    · omega
    · simpa using h1
  refine ⟨?_, ?_, ?_, ?_, ?_, ?_, ?_, ?_, ?_, ?_, ?_⟩
  · intro i o ho
    have hi : i < ops.size := (Array.getElem?_eq_some_iff.1 ho).1
    obtain ⟨g1, g2, g3, g4, g5⟩ := hg i o ho
    refine ⟨g1, g2, g3, g4, fun hw => ?_⟩
    have g5' := g5 hw
    cases hk : (E i).k with
    | pure => rw [hk] at g5'; exact g5'
    | load t a => rw [hk] at g5'; exact ⟨g5'.1, g5'.2.1, g5'.2.2.1⟩
    | new id b =>
      rw [hk] at g5'
      obtain ⟨r, r1, r2, r3, r4, r5, r6⟩ := g5'
      exact ⟨r, r1, r2, r3, r4, by rw [r5]; exact Heap.live_of_hot_f (hdead i (by omega) _ (Nat.le_refl _) r6), by have := hlen i (by omega); omega⟩
    | eff T => rw [hk] at g5'; exact ⟨g5'.1, g5'.2.1, g5'.2.2.1, g5'.2.2.2.1⟩
  · intro i o ho j hj
    have := hpre (o, i) (hzip i o ho)
    simp only [Bool.and_eq_true, List.all_eq_true] at this
    have h1 := this.1 j hj
    simp only [Bool.and_eq_true, decide_eq_true_eq, List.any_eq_true, Bool.or_eq_true, beq_iff_eq] at h1
    obtain ⟨h2, e, he, hb', hc⟩ := h1
    refine ⟨h2, e, Array.mem_toList_iff.1 he, hb', ?_⟩
    rcases hc with hc | hc
    · exact .inl hc
    · exact .inr ⟨hc.1, by simpa using hc.2⟩
  · intro i j oi oj hi hj hij hc
    refine hpp i j oi oj hi hj hij ?_
    unfold clash
    rcases hc with ⟨d, hd, hc⟩ | ⟨d, hd, hc⟩
    · rw [hd]
      rcases hc with hc | hc
      · simp [hc]
      · simp [hc]
    · rw [hd]; simp [hc]
  · intro i j oi oj hi hj hij h1 h2
    exact hpp i j oi oj hi hj hij (by unfold clash; simp [h1, h2])
  · intro i o ho e he hb'
    have := hpre (o, i) (hzip i o ho)
    simp only [Bool.and_eq_true, List.all_eq_true] at this
    have h1 := this.2 e (Array.mem_toList_iff.2 he)
    simp only [hb', Bool.not_true, Bool.false_or, decide_eq_true_eq] at h1
    exact h1
  · intro i j t a T hij hj hki hwi hkj hp
    obtain ⟨o, ho⟩ := opAt hj
    obtain ⟨_, _, _, _, g5⟩ := hg j o ho
    have g5' := g5 (heffw j T hj hkj)
    rw [hkj] at g5'
    exact chkA_load g5'.2.2.2.2.1 (hs_mem hij (by simp [HN, hwi, hki])) hp
  · intro i j t a T hij hj hki hkj hwj hp
    obtain ⟨o, ho⟩ := opAt hj
    obtain ⟨_, _, _, _, g5⟩ := hg j o ho
    have g5' := g5 hwj
    rw [hkj] at g5'
    exact chkB_mem g5'.2.2.2 (hs_mem hij (by simp [HN, heffw i T (by omega) hki, hki])) hp
  · intro i j id b T hij hj hki hkj hp
    obtain ⟨o, ho⟩ := opAt hj
    obtain ⟨_, _, _, _, g5⟩ := hg j o ho
    have g5' := g5 (heffw j T hj hkj)
    rw [hkj] at g5'
    exact chkA_new g5'.2.2.2.2.1 (hs_mem hij (by simp [HN, (hnew i id b (by omega) hki).2.2.1, hki])) hp
  · intro j id b hj hk k hkj
    obtain ⟨h1, h2, _⟩ := hnew j id b hj hk
    rw [h1]
    refine hdead k (by omega) _ ?_ h2
    have := hmono (j - k) k
    rwa [show k + (j - k) = j by omega] at this
  · intro j id b hj hk
    obtain ⟨h1, h2, _⟩ := hnew j id b hj hk
    exact ⟨by rw [hlen0]; omega, by omega⟩
  · intro i j id b b' hij hj hki hkj
    obtain ⟨h1, _, _, h4⟩ := hnew i id b (by omega) hki
    obtain ⟨h2, _⟩ := hnew j id b' hj hkj
    have := hmono (j - (i + 1)) (i + 1)
    rw [show i + 1 + (j - (i + 1)) = j by omega] at this
    simp only [cnE, h4] at this
    omega

theorem Inv.drew {P : Program} {B0 n0 : Nat} {D : List Nat} {φ0 φ : Phi} {w0 w : World} {H : Heap} (h : Inv P B0 n0 D φ0 w0 φ H w) : Inv P B0 n0 D φ0 w0 φ H { w with drawn := w.drawn + 1 } :=
  ⟨⟨h.hr.dom, h.hr.ro, h.hr.lt, h.hr.cell, h.hr.row, h.hr.flag, h.hr.inj, h.hr.mp⟩, h.b0, h.len, h.dom0, h.low, h.high, h.os, h.tape, h.output, h.size, h.keep⟩
/-- **A region that draws its order**, walked in the text's order: m new blocks get their ids first. -/
theorem ak_draw {P : Program} {C : Cx} {R : St → Prop} {k : List It} {ts : List (Nat × Value)} {H : Heap} {id : Nat} {ops : Array Oper} (hmix : P.follows .mixedOrders = true) (pr : List (List Nat)) (m : Nat) (hst : drawOk ops pr = true)
    (h : ∀ K : St → Prop, (∀ s', AK P C R k s' → K s') → drawP P C ops pr H.length m ops.toList 0 0 [] ⟨ts, H ++ List.replicate m deadB⟩ K) : AK P C R (.c (.region id ops true) :: k) ⟨ts, H⟩ := by
  have h' := h (AK P C R k) fun _ h => h
  obtain ⟨E, _, hE0, hK, hg⟩ := drawP_trace (m := m) ops.toList 0 (fun _ => ⟨⟨[], []⟩, .pure, uV, false⟩) _ h'
  simp only [Nat.zero_add, Array.length_toList, Array.getElem?_toList] at hK hg
  have hT := Trc.of_good hst rfl (by rw [hE0]) hg
  refine ⟨.normal, (E ops.size).s, fun B0 φ0 w0 a w hR => ?_, hK⟩
  obtain ⟨φ, hi, ht, hN, hd⟩ := hR
  have hz : lst (Array.replicate ops.size false) = fun _ => false := by
    funext i
    unfold lst
    by_cases hi : i < ops.size
    · simp [hi]
    · simp [hi]
  have hE0H : (E 0).s.H = H ++ List.replicate m deadB := by rw [hE0]
  have hno : ∀ i, lst (Array.replicate ops.size false) i ≠ true := fun i => by rw [hz]; simp
  refine wp_region_any hmix (hT.all (B0 := B0) (φ0 := φ0) (w0 := w0) hi.len (fun a' w' hR' => ⟨rfl, hR'⟩) ops.size _ a _ (by simp) (by rw [hz, cntF_false]; exact Nat.le_refl _) (fun j hj => absurd hj (hno j)) ?_)
  refine ⟨φ, 0, (E 0).s.H, Nat.zero_le _, fun e T he hk => by rw [hz]; simp, ⟨rfl, fun id => ⟨fun i b _ _ h3 => absurd h3 (hno i), fun _ => rfl⟩⟩, ?_, ?_, hN, hd, ?_, fun i id b _ _ _ h4 => absurd h4 (hno i), fun i id b h1 h2 => (hT.cI i id b h1 h2).1, fun i id b _ _ h3 => absurd h3 (hno i)⟩
  · rw [hE0H]
    exact (hi.drew.less (by have : C.n0 ≤ H.length := hi.len; simp; omega) (fun id L hL => by have := hi.hr.dom id L hL; simp only [List.length_append]; simp only at this; omega) fun id L hL => .inl (List.getElem?_append_left (hi.hr.dom id L hL)))
  · rw [hz]
    have : ∀ n, absL ops E (E 0).s.ts (fun _ => false) n = (E 0).s.ts := by
      intro n
      induction n with
      | zero => rfl
      | succ n ih =>
        simp only [absL, ih]
        cases ops[n]? <;> simp
    rw [this, hE0]; exact ht
  · intro i id b h1 h2 _
    cases e : φ id with
    | none => rfl
    | some L =>
      have h3 := hi.hr.dom id L e
      have h4 := (hT.cI i id b h1 h2).2
      simp only at h3
      omega
end Go.Proofs.YtpoedfmkiiijnaaAm
