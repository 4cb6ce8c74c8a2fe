/- The abstract machine, part 6: a function's contract; operations in the text's order; statements; a body. Plain lemmas; no program in sight. -/
import Derived.Test.YtpoedfmkiiijnaaAm5
import Derived.Test.YtpoedfmkiiijnaaAmm
import Derived.Deep.LoopGhost
namespace Go.Proofs.YtpoedfmkiiijnaaAm
open Go Go.RowKit
set_option linter.unusedVariables false
set_option linter.unusedSimpArgs false

structure St where
  ts : List (Nat × Value)
  H : Heap
structure Cx where
  N : Nat
  n0 : Nat
  D : List Nat
def fnOk (P : Program) (f : FuncId) : Bool := match P.funcs[f]? with
  | some fn => fn.name != "runtime.NumGoroutine" && fn.body.isSome
  | none => false
/-- A contract: from H the call gives v and leaves H'; it writes ids of D and new ones alone. -/
def AC (P : Program) (f : FuncId) (args : List Value) (H : Heap) (v : Value) (H' : Heap) (D : List Nat) : Prop :=
  fnOk P f = true ∧ ∀ B0 φ w (args' : List Value), HR P B0 φ H w → B0 ≤ w.heap.size → VRs φ args args' →
    Calls P f args'.toArray w fun e w' => ∃ φ' v', e = .returned v' ∧ VR φ' v v' ∧ Inv P B0 H.length D φ w φ' H' w'

def Rl (P : Program) (C : Cx) (B0 : Nat) (φ0 : Phi) (w0 : World) (s : St) (a : Act) (w : World) : Prop :=
  ∃ φ, Inv P B0 C.n0 C.D φ0 w0 φ s.H w ∧ TR φ s.ts a.tmps ∧ a.tmps.size = C.N ∧ a.defers = []

/-! ### an operation -/
abbrev uV : Value := .tuple #[]
theorem undef_eq : undef = uV := rfl
inductive Kd where
  | pure
  | load (t : TypeId) (a : Value)
  | new
  | eff
  | mp
/-- One operation: what it leaves in its slot, and the heap behind it. -/
inductive SE (P : Program) (C : Cx) (o : Oper) (s : St) : Kd → Value → Heap → List Nat → Prop
  | pure {v} (h : pureOp P (evO s.ts) o.op = some v) : SE P C o s .pure v s.H []
  | load {t x a v} (ho : o.op = .load t x) (h : evO s.ts x = some a) (hv : ldA P s.H t a = some v) : SE P C o s (.load t a) v s.H []
  | new {ty cs f} (h : newA P (evO s.ts) o.op = some ⟨ty, cs, f⟩) : SE P C o s .new (f s.H.length) (s.H ++ [⟨ty, cs, true, true⟩]) []
  | store {t x y a v id H'} (ho : o.op = .store t x y) (h : evO s.ts x = some a) (h' : evO s.ts y = some v) (hs : stA P s.H t a v = some (id, H')) (hw : wr C.n0 C.D id) : SE P C o s .eff uV H' [id]
  | append {as ts x y a b k v H'} (ho : o.op = .call { callee := .builtin .append, args := as, argTypes := ts }) (ha : as.toList = [x, y]) (h : evO s.ts x = some a) (h' : evO s.ts y = some b)
      (hs : apA P s.H ts.toList a b = some (k, v, H')) (hw : ∀ id, k = some id → wr C.n0 C.D id) : SE P C o s .eff v H' k.toList
  | call {fx as ts f cap vs v H' Dc} (ho : o.op = .call { callee := .value fx, args := as, argTypes := ts }) (hf : evO s.ts fx = some (.func (.func f) #[] cap)) (ha : evL (evO s.ts) as.toList = some vs)
      (hc : AC P f (vs ++ cap.toList) s.H v H' Dc) (hw : ∀ d, d ∈ Dc → wr C.n0 C.D d) : SE P C o s .eff v H' Dc
  | look {t x y m k v} (ho : o.op = .lookup t x y false) (h : evO s.ts x = some m) (h' : evO s.ts y = some k) (hl : lookA P s.H t m k = some v) : SE P C o s .mp v s.H []
  | mput {t x y z m k v id H'} (ho : o.op = .mapUpdate t x y z) (h : evO s.ts x = some m) (h' : evO s.ts y = some k) (h'' : evO s.ts z = some v) (hs : mputA P s.H t m k v = some (id, H')) (hw : wr C.n0 C.D id) : SE P C o s .mp uV H' [id]
  | mnew {t} (ho : o.op = .makeMap t none) : SE P C o s .mp (.map (some s.H.length)) (s.H ++ [⟨t, [], true, false⟩]) []

theorem Calls.of_ac {P : Program} {f : FuncId} {args args' : List Value} {H H' : Heap} {v : Value} {Dc : List Nat} (hc : AC P f args H v H' Dc) {C : Cx} {B0 : Nat} {φ0 φ : Phi} {w0 w : World}
    (h : Inv P B0 C.n0 C.D φ0 w0 φ H w) (ha : VRs φ args args') (hw : ∀ d, d ∈ Dc → wr C.n0 C.D d) :
    Calls P f args'.toArray w fun e w' => ∃ φ' v', e = .returned v' ∧ VR φ' v v' ∧ Inv P B0 C.n0 C.D φ0 w0 φ' H' w' ∧ φ.le φ' ∧ FrE φ φ' w w' Dc H.length ∧ H.length ≤ H'.length := by
  refine (hc.2 B0 φ w args' h.hr (Nat.le_trans h.b0 h.size) ha).mono ?_
  rintro e w' ⟨φ', v', he, hv, hi⟩
  refine ⟨φ', v', he, hv, ⟨hi.hr, h.b0, Nat.le_trans h.len hi.len, h.dom0, ?_, ?_, hi.os.trans h.os, hi.tape.trans h.tape, hi.output.trans h.output, Nat.le_trans h.size hi.size, ?_⟩, hi.le0, ⟨hi.low, hi.size, fun b hb hk => hi.keep b hb fun d hd L hL _ => hk d hd L hL, ?_⟩, hi.len⟩
  · intro id hid
    rw [hi.low id (by have := h.len; omega)]
    exact h.low id hid
  · intro id L hid hL
    by_cases hn : id < H.length
    · rw [hi.low id hn] at hL
      exact h.high id L hid hL
    · obtain ⟨h1, h2 | ⟨d, hd, L0, h3, h4, h5⟩⟩ := hi.high id L (by omega) hL
      · exact ⟨h1, .inl (by have := h.size; omega)⟩
      · refine ⟨h1, ?_⟩
        rcases hw d hd with hwd | hwd
        · have := (h.high d L0 hwd h3).2
          rwa [h5] at this
        · by_cases hdn : C.n0 ≤ d
          · have := (h.high d L0 hdn h3).2
            rwa [h5] at this
          · exact .inr ⟨d, hwd, L0, by rw [← h.low d (by omega)]; exact h3, h4, h5⟩
  · intro b hb hk
    rw [hi.keep b (by have := h.size; omega) (by
      intro d hd L hL hr
      exact fun e => h.wr_ne (hw d hd) hL hr hb hk e.symm)]
    exact h.keep b hb hk
  · intro id M hM
    by_cases hn : id < H.length
    · exact .inl (by rw [← hi.low id hn]; exact hM)
    · obtain ⟨_, h1 | ⟨d, hd, L0, h3, _, h5⟩⟩ := hi.high id M (by omega) hM
      · exact .inr (.inl h1)
      · exact .inr (.inr ⟨d, hd, L0, h3, h5⟩)

theorem Rl.put {P : Program} {C : Cx} {B0 : Nat} {φ0 φ : Phi} {w0 w : World} {ts : List (Nat × Value)} {H : Heap} {a : Act} (hi : Inv P B0 C.n0 C.D φ0 w0 φ H w) (ht : TR φ ts a.tmps) (hN : a.tmps.size = C.N) (hd : a.defers = [])
    {d : Nat} (hdN : d < C.N) {v v' : Value} (hv : VR φ v v') : Rl P C B0 φ0 w0 ⟨(d, v) :: ts, H⟩ (a.put (some d) v') w :=
  ⟨φ, hi, ht.put (by omega) hv, by simp [Act.put, hN], hd⟩
def putT (dst : Option Tmp) (v : Value) (ts : List (Nat × Value)) : List (Nat × Value) := match dst with
  | some d => (d, v) :: ts
  | none => ts
def dstOk (N : Nat) : Option Tmp → Prop
  | some d => d < N
  | none => True
theorem Rl.putO {P : Program} {C : Cx} {B0 : Nat} {φ0 φ : Phi} {w0 w : World} {ts : List (Nat × Value)} {H : Heap} {a : Act} (hi : Inv P B0 C.n0 C.D φ0 w0 φ H w) (ht : TR φ ts a.tmps) (hN : a.tmps.size = C.N) (hd : a.defers = [])
    {dst : Option Tmp} (hdN : dstOk C.N dst) {v v' : Value} (hv : VR φ v v') : Rl P C B0 φ0 w0 ⟨putT dst v ts, H⟩ (a.put dst v') w := by
  cases dst with
  | none => exact ⟨φ, hi, ht, hN, hd⟩
  | some d => exact Rl.put hi ht hN hd hdN hv
theorem uV_VR (φ : Phi) : VR φ uV undef := .tup rfl fun i h1 => by simp at h1

/-- The machine does it, too. -/
theorem SE.sound {P : Program} {C : Cx} {o : Oper} {s : St} {k : Kd} {v : Value} {H' : Heap} {T : List Nat} (h : SE P C o s k v H' T) (hdst : dstOk C.N o.dst) {B0 : Nat} {φ0 : Phi} {w0 w : World} {a : Act} (hR : Rl P C B0 φ0 w0 s a w)
    {Q : Exit → Act → World → Prop} {K : Act → World → Prop} (hK : ∀ a' w', Rl P C B0 φ0 w0 ⟨putT o.dst v s.ts, H'⟩ a' w' → K a' w') : o.wp P a w K Q := by
  obtain ⟨φ, hi, ht, hN, hd⟩ := hR
  have hev : ∀ x u, evO s.ts x = some u → VR φ u (a.eval x) := fun x u hx => evO_VR ht hx
  unfold Oper.wp
  cases h with
  | pure h =>
    obtain ⟨v', h1, h2⟩ := pure_sound hev h
    rw [h2 w]
    exact hK _ _ (Rl.putO hi ht hN hd hdst h1)
  | load ho h hv =>
    obtain ⟨r', h1, h2⟩ := ldA_sound hi.hr (hev _ _ h) hv
    simp only [execOp, ho, Sem.run_bind, h2, Result.andThen_ok, Sem.run_pure]
    exact hK _ _ (Rl.putO hi ht hN hd hdst h1)
  | new h =>
    obtain ⟨φ', v', w', h1, h2, h3, h4⟩ := newA_sound hi hev h
    rw [h1]
    exact hK _ _ (Rl.putO h3 (ht.mono h4) hN hd hdst h2)
  | store ho h h' hs hw =>
    obtain ⟨w', h1, h2, _, _⟩ := stA_sound hi (hev _ _ h) (hev _ _ h') hs hw
    simp only [execOp, ho, Sem.run_bind, h1, Result.andThen_ok, Sem.run_pure]
    exact hK _ _ (Rl.putO h2 ht hN hd hdst (uV_VR φ))
  | @append as ts x y va vb k v H' ho ha h h' hs hw =>
    obtain rfl : as = #[x, y] := by rw [← Array.toList_inj]; simpa using ha
    obtain ⟨φ', v', w', h1, h2, h3, h4, _, _⟩ := apA_sound (ty := o.type) hi (hev _ _ h) (hev _ _ h') hs hw
    have : (execOp a.eval o).run P w = .ok (.value v') w' := by
      simp [execOp, ho, resolve, invoke, builtin, h1]
    rw [this]
    exact hK _ _ (Rl.putO h3 (ht.mono h4) hN hd hdst h2)
  | @call fx as ts f cap vs v H' Dc ho hf ha hc hw =>
    have hfx := hev _ _ hf
    generalize hef : a.eval fx = ef at hfx
    obtain ⟨cap', rfl, hcap⟩ := hfx.fn_inv
    have hvs := evL_VRs hev ha
    have hargs := hvs.append hcap
    have hok := hc.1
    unfold fnOk at hok
    cases hfn : P.funcs[f]? with
    | none => rw [hfn] at hok; cases hok
    | some fn =>
      rw [hfn] at hok
      simp only [Bool.and_eq_true, bne_iff_ne] at hok
      have hrun : (execOp a.eval o).run P w = .ok (.enter f (as.map a.eval ++ cap')) w := by
        have hb : fn.body ≠ none := by cases hbb : fn.body <;> simp_all
        simp [execOp, ho, resolve, hef, Deferred.ofValue, invoke, callFunc, run_program, hfn, hok.1, hb]
      rw [hrun]
      rw [Oper.upon_enter]
      have hcalls := Calls.of_ac hc hi hargs hw
      have harr : ((List.map a.eval as.toList) ++ cap'.toList).toArray = as.map a.eval ++ cap' := by
        apply Array.toList_inj.1; simp
      rw [harr] at hcalls
      refine hcalls.mono ?_
      rintro e w' ⟨φ', v', rfl, h2, h3, h4, _, _⟩
      exact hK _ _ (Rl.putO h3 (ht.mono h4) hN hd hdst h2)
  | look ho h h' hl =>
    obtain ⟨h1, h2⟩ := lookA_sound hi.hr (hev _ _ h) (hev _ _ h') hl
    simp only [execOp, ho, Sem.run_bind, h1, Result.andThen_ok, Sem.run_pure]
    exact hK _ _ (Rl.putO hi ht hN hd hdst h2)
  | mput ho h h' h'' hs hw =>
    obtain ⟨w', h1, h2⟩ := mputA_sound hi (hev _ _ h) (hev _ _ h') (hev _ _ h'') hs hw
    simp only [execOp, ho, Sem.run_bind, h1, Result.andThen_ok, Sem.run_pure]
    exact hK _ _ (Rl.putO h2 ht hN hd hdst (uV_VR φ))
  | @mnew t ho =>
    obtain ⟨h1, h2⟩ := hi.newM t
    have hrun : (execOp a.eval o).run P w = .ok (.value (.map (some w.heap.size))) (w.alloc (.map #[] 0)) := by
      simp [execOp, ho, Instr.makeMap]
    rw [hrun]
    exact hK _ _ (Rl.putO h1 (ht.mono h2) hN hd hdst (.mp (Phi.set_same φ s.H.length ⟨w.heap.size, 0, 0, true⟩)))

/-! ### a region in the text's order -/
def wantedA (ops : Array Oper) (o : Oper) (ts : List (Nat × Value)) : Option Bool :=
  match o.guard with
  | none => some true
  | some (j, want) => match ((ops[j]?).bind (·.dst)).bind (getT ts) with
    | some (.bool b) => some (b == want)
    | some (.tuple _) => some false
    | _ => none
theorem wantedA_sound {φ : Phi} {ops : Array Oper} {o : Oper} {ts : List (Nat × Value)} {tmps : Array Value} (ht : TR φ ts tmps) {b : Bool} (h : wantedA ops o ts = some b) : Region.wanted o (yielded ops tmps) = b := by
  unfold wantedA at h
  unfold Region.wanted
  split at h
  · rename_i hg; rw [hg]; cases h; rfl
  · rename_i j want hg
    rw [hg]
    simp only
    unfold yielded
    cases hd : (ops[j]?).bind (·.dst) with
    | none => rw [hd] at h; simp at h
    | some t =>
      rw [hd] at h
      simp only [Option.bind_some] at h ⊢
      split at h
      · rename_i b' hb
        cases h
        obtain ⟨v', h1, h2⟩ := ht t _ hb
        cases h2
        rw [h1]
        cases b' <;> cases want <;> rfl
      · rename_i cs hb
        cases h
        obtain ⟨v', h1, h2⟩ := ht t _ hb
        obtain ⟨ds, rfl, _⟩ := h2.tup_inv
        rw [h1]; rfl
      · cases h

/-- The operations, one behind the other. -/
inductive OpsEv (P : Program) (C : Cx) (ops : Array Oper) : List Oper → St → St → Prop
  | nil (s) : OpsEv P C ops [] s s
  | go {o l s s' k v H' T} (hw : wantedA ops o s.ts = some true) (hd : dstOk C.N o.dst) (h : SE P C o s k v H' T) (r : OpsEv P C ops l ⟨putT o.dst v s.ts, H'⟩ s') : OpsEv P C ops (o :: l) s s'
  | skip {o l s s'} (hw : wantedA ops o s.ts = some false) (hd : dstOk C.N o.dst) (r : OpsEv P C ops l ⟨putT o.dst uV s.ts, s.H⟩ s') : OpsEv P C ops (o :: l) s s'
theorem OpsEv.sound {P : Program} {C : Cx} {ops : Array Oper} {l : List Oper} {s s' : St} (h : OpsEv P C ops l s s') {B0 : Nat} {φ0 : Phi} {w0 : World} {Q : Exit → Act → World → Prop}
    (hQ : ∀ a' w', Rl P C B0 φ0 w0 s' a' w' → Q .normal a' w') : ∀ {a : Act} {w : World}, Rl P C B0 φ0 w0 s a w → wpList P ops Q l a w := by
  induction h with
  | nil s => intro a w hR; exact hQ _ _ hR
  | @go o l s s' k v H' T hw hd h r ih =>
    intro a w hR
    unfold wpList
    have hw' : Region.wanted o (yielded ops a.tmps) = true := by obtain ⟨φ, _, ht, _⟩ := hR; exact wantedA_sound ht hw
    rw [if_pos hw']
    exact .inl (h.sound hd hR fun a' w' hR' => ih hQ hR')
  | @skip o l s s' hw hd r ih =>
    intro a w hR
    unfold wpList
    have hw' : Region.wanted o (yielded ops a.tmps) = false := by obtain ⟨φ, _, ht, _⟩ := hR; exact wantedA_sound ht hw
    rw [if_neg (by simp [hw'])]
    obtain ⟨φ, hi, ht, hN, hdd⟩ := hR
    exact ih hQ (Rl.putO hi ht hN hdd hd (uV_VR φ))

def fnV : Value → Option (FuncId × List Value)
  | .func (.func f) first cap => if first.size = 0 then some (f, cap.toList) else none
  | _ => none
theorem fnV_eq {v : Value} {r : FuncId × List Value} (h : fnV v = some r) : ∃ cap : Array Value, v = .func (.func r.1) #[] cap ∧ cap.toList = r.2 := by
  unfold fnV at h
  split at h
  · rename_i f first cap
    split at h
    · rename_i h0
      cases h
      have : first = #[] := Array.eq_empty_of_size_eq_zero h0
      exact ⟨cap, by rw [this], rfl⟩
    · cases h
  · cases h
def wrL (n0 : Nat) (D Dc : List Nat) : Prop := ∀ d, d ∈ Dc → wr n0 D d
theorem wrL_nil (n0 : Nat) (D : List Nat) : wrL n0 D [] := fun d h => by simp at h
theorem wrL_cons (n0 : Nat) (D : List Nat) (d : Nat) (l : List Nat) : wrL n0 D (d :: l) ↔ wr n0 D d ∧ wrL n0 D l := by simp [wrL]
def wrO (n0 : Nat) (D : List Nat) (k : Option Nat) : Prop := ∀ id, k = some id → wr n0 D id
theorem wrO_none (n0 : Nat) (D : List Nat) : wrO n0 D none := fun d h => by simp at h
theorem wrO_some (n0 : Nat) (D : List Nat) (d : Nat) : wrO n0 D (some d) ↔ wr n0 D d := by simp [wrO]
def liveO (H : Heap) (k : Option Nat) : Prop := ∀ id, k = some id → H.live id = true
theorem liveO_none (H : Heap) : liveO H none := fun d h => by simp at h
theorem liveO_some (H : Heap) (d : Nat) : liveO H (some d) ↔ H.live d = true := by simp [liveO]
def liveL (H : Heap) (Dc : List Nat) : Prop := ∀ d, d ∈ Dc → H.live d = true
theorem liveL_nil (H : Heap) : liveL H [] := fun d h => by simp at h
theorem liveL_cons (H : Heap) (d : Nat) (l : List Nat) : liveL H (d :: l) ↔ H.live d = true ∧ liveL H l := by simp [liveL]
/-- A call's contract is asked for; what follows is k. -/
def Ask (P : Program) (f : FuncId) (args : List Value) (H : Heap) (k : Value → Heap → List Nat → Prop) : Prop := ∃ v H' Dc, AC P f args H v H' Dc ∧ k v H' Dc
@[congr] theorem Ask.cong {P : Program} {f f' : FuncId} {args args' : List Value} {H H' : Heap} {k : Value → Heap → List Nat → Prop} (h1 : ∀ _ : Unit, f = f') (h2 : ∀ _ : Unit, args = args') (h3 : ∀ _ : Unit, H = H') : Ask P f args H k = Ask P f' args' H' k := by rw [h1 (), h2 (), h3 ()]
theorem Ask.go {P : Program} {f : FuncId} {args : List Value} {H H' : Heap} {v : Value} {Dc : List Nat} {k : Value → Heap → List Nat → Prop} (h : AC P f args H v H' Dc) (hk : k v H' Dc) : Ask P f args H k := ⟨v, H', Dc, h, hk⟩
/-- What one operation asks, reckoned: K is what is to hold behind it. -/
def opP (P : Program) (C : Cx) (o : Oper) (s : St) (K : Value → Heap → Prop) : Prop :=
  match o.op with
  | .load t x => match evO s.ts x with
    | some a => match ldA P s.H t a with
      | some v => K v s.H
      | none => False
    | none => False
  | .store t x y => match evO s.ts x, evO s.ts y with
    | some a, some v => match stA P s.H t a v with
      | some r => wr C.n0 C.D r.1 ∧ K uV r.2
      | none => False
    | _, _ => False
  | .call { callee := .value fx, args := as, argTypes := _ } => match (evO s.ts fx).bind fnV, evL (evO s.ts) as.toList with
    | some r, some vs => Ask P r.1 (vs ++ r.2) s.H fun v H' Dc => wrL C.n0 C.D Dc ∧ K v H'
    | _, _ => False
  | .call { callee := .builtin .append, args := as, argTypes := ts } => match as.toList with
    | [x, y] => match evO s.ts x, evO s.ts y with
      | some a, some b => match apA P s.H ts.toList a b with
        | some r => wrO C.n0 C.D r.1 ∧ K r.2.1 r.2.2
        | none => False
      | _, _ => False
    | _ => False
  | .alloc t => match newA P (evO s.ts) (.alloc t) with
    | some r => K (r.val s.H.length) (s.H ++ [⟨r.ty, r.cells, true, true⟩])
    | none => False
  | .box t x => match newA P (evO s.ts) (.box t x) with
    | some r => K (r.val s.H.length) (s.H ++ [⟨r.ty, r.cells, true, true⟩])
    | none => False
  | .buildSlice t n ps => match newA P (evO s.ts) (.buildSlice t n ps) with
    | some r => K (r.val s.H.length) (s.H ++ [⟨r.ty, r.cells, true, true⟩])
    | none => False
  | .makeSlice t l c => match newA P (evO s.ts) (.makeSlice t l c) with
    | some r => K (r.val s.H.length) (s.H ++ [⟨r.ty, r.cells, true, true⟩])
    | none => False
  | .lookup t x y false => match evO s.ts x, evO s.ts y with
    | some m, some k => match lookA P s.H t m k with
      | some v => K v s.H
      | none => False
    | _, _ => False
  | .mapUpdate t x y z => match evO s.ts x, evO s.ts y, evO s.ts z with
    | some m, some k, some v => match mputA P s.H t m k v with
      | some r => wr C.n0 C.D r.1 ∧ K uV r.2
      | none => False
    | _, _, _ => False
  | .makeMap t none => K (.map (some s.H.length)) (s.H ++ [⟨t, [], true, false⟩])
  | op => match pureOp P (evO s.ts) op with
    | some v => K v s.H
    | none => False
theorem opP_SE {P : Program} {C : Cx} {o : Oper} {s : St} {K : Value → Heap → Prop} (h : opP P C o s K) : ∃ k v H' T, SE P C o s k v H' T ∧ K v H' := by
  obtain ⟨dst, op, type, pos, after, guard⟩ := o
  unfold opP at h
  simp only at h
  split at h
  · split at h
    · rename_i a h1
      split at h
      · rename_i v h2; exact ⟨_, _, _, _, .load rfl h1 h2, h⟩
      · exact h.elim
    · exact h.elim
  · split at h
    · rename_i a v h1 h2
      split at h
      · rename_i r h3; exact ⟨_, _, _, _, .store rfl h1 h2 h3 h.1, h.2⟩
      · exact h.elim
    · exact h.elim
  · split at h
    · rename_i r vs h1 h2
      obtain ⟨v, H', Dc, h3, h4, h5⟩ := h
      obtain ⟨u, hu, hf⟩ := Option.bind_eq_some_iff.1 h1
      obtain ⟨cap, rfl, hcap⟩ := fnV_eq hf
      rw [← hcap] at h3
      exact ⟨_, _, _, _, .call rfl hu h2 h3 h4, h5⟩
    · exact h.elim
  · split at h
    · rename_i x y h1
      split at h
      · rename_i a b h2 h3
        split at h
        · rename_i r h4; exact ⟨_, _, _, _, .append rfl h1 h2 h3 h4 h.1, h.2⟩
        · exact h.elim
      · exact h.elim
    · exact h.elim
  · split at h
    · rename_i r h1; exact ⟨_, _, _, _, .new h1, h⟩
    · exact h.elim
  · split at h
    · rename_i r h1; exact ⟨_, _, _, _, .new h1, h⟩
    · exact h.elim
  · split at h
    · rename_i r h1; exact ⟨_, _, _, _, .new h1, h⟩
    · exact h.elim
  · split at h
    · rename_i r h1; exact ⟨_, _, _, _, .new h1, h⟩
    · exact h.elim
  · split at h
    · rename_i m k h1 h2
      split at h
      · rename_i v h3; exact ⟨_, _, _, _, .look rfl h1 h2 h3, h⟩
      · exact h.elim
    · exact h.elim
  · split at h
    · rename_i m k v h1 h2 h4
      split at h
      · rename_i r h3; exact ⟨_, _, _, _, .mput rfl h1 h2 h4 h3 h.1, h.2⟩
      · exact h.elim
    · exact h.elim
  · exact ⟨_, _, _, _, .mnew rfl, h⟩
  · split at h
    · rename_i v h1; exact ⟨_, _, _, _, .pure h1, h⟩
    · exact h.elim
def opsP (P : Program) (C : Cx) (ops : Array Oper) : List Oper → St → (St → Prop) → Prop
  | [], s, K => K s
  | o :: l, s, K => dstOk C.N o.dst ∧ match wantedA ops o s.ts with
    | some true => opP P C o s fun v H' => opsP P C ops l ⟨putT o.dst v s.ts, H'⟩ K
    | some false => opsP P C ops l ⟨putT o.dst uV s.ts, s.H⟩ K
    | none => False
theorem opsP_Ev {P : Program} {C : Cx} {ops : Array Oper} : ∀ {l : List Oper} {s : St} {K : St → Prop}, opsP P C ops l s K → ∃ s', OpsEv P C ops l s s' ∧ K s'
  | [], s, K, h => ⟨s, .nil s, h⟩
  | o :: l, s, K, h => by
    obtain ⟨hd, h⟩ := h
    split at h
    · rename_i hw
      obtain ⟨k, v, H', T, h1, h2⟩ := opP_SE h
      obtain ⟨s', h3, h4⟩ := opsP_Ev h2
      exact ⟨s', .go hw hd h1 h3, h4⟩
    · rename_i hw
      obtain ⟨s', h3, h4⟩ := opsP_Ev h
      exact ⟨s', .skip hw hd h3, h4⟩
    · exact h.elim

/-! ### statements -/
inductive Ex where
  | normal
  | exit (id : Nat)
  | ret
def Ex.to : Ex → Exit
  | .normal => .normal
  | .exit id => .exit id
  | .ret => .ret
def AEv (P : Program) (C : Cx) (c : Code) (s : St) (e : Ex) (s' : St) : Prop :=
  ∀ B0 φ0 w0 a w, Rl P C B0 φ0 w0 s a w → c.wp P (fun e' a' w' => e' = e.to ∧ Rl P C B0 φ0 w0 s' a' w') a w
def AW (P : Program) (C : Cx) (c : Code) (Q : Ex → St → Prop) (s : St) : Prop := ∃ e s', AEv P C c s e s' ∧ Q e s'
def thenA (next : St → Prop) (Q : Ex → St → Prop) : Ex → St → Prop
  | .normal, s => next s
  | e, s => Q e s
def blockA (id : Nat) (Q : Ex → St → Prop) : Ex → St → Prop
  | .exit id', s => if id' = id then Q .normal s else Q (.exit id') s
  | e, s => Q e s

section
variable {P : Program} {C : Cx} {Q : Ex → St → Prop} {s : St}
theorem AW.mono {c : Code} {Q' : Ex → St → Prop} (h : AW P C c Q s) (hq : ∀ e s, Q e s → Q' e s) : AW P C c Q' s :=
  let ⟨e, s', h1, h2⟩ := h; ⟨e, s', h1, hq _ _ h2⟩
theorem aw_skip (h : Q .normal s) : AW P C .skip Q s := ⟨.normal, s, fun B0 φ0 w0 a w hR => wp_skip ⟨rfl, hR⟩, h⟩
theorem aw_exit {id : Nat} (h : Q (.exit id) s) : AW P C (.exit id) Q s := ⟨.exit id, s, fun B0 φ0 w0 a w hR => wp_exit ⟨rfl, hR⟩, h⟩
theorem aw_ret (h : Q .ret s) : AW P C .ret Q s := ⟨.ret, s, fun B0 φ0 w0 a w hR => wp_ret ⟨rfl, hR⟩, h⟩
theorem aw_seq {x y : Code} (h : AW P C x (thenA (AW P C y Q) Q) s) : AW P C (.seq x y) Q s := by
  obtain ⟨e1, s1, h1, h2⟩ := h
  cases e1 with
  | normal =>
    obtain ⟨e2, s2, h3, h4⟩ := h2
    refine ⟨e2, s2, fun B0 φ0 w0 a w hR => wp_seq (wp_mono (h1 B0 φ0 w0 a w hR) ?_), h4⟩
    rintro e a' w' ⟨rfl, hR'⟩
    exact h3 B0 φ0 w0 a' w' hR'
  | exit id =>
    refine ⟨.exit id, s1, fun B0 φ0 w0 a w hR => wp_seq (wp_mono (h1 B0 φ0 w0 a w hR) ?_), h2⟩
    rintro e a' w' ⟨rfl, hR'⟩
    exact ⟨rfl, hR'⟩
  | ret =>
    refine ⟨.ret, s1, fun B0 φ0 w0 a w hR => wp_seq (wp_mono (h1 B0 φ0 w0 a w hR) ?_), h2⟩
    rintro e a' w' ⟨rfl, hR'⟩
    exact ⟨rfl, hR'⟩
theorem aw_cond {c : Operand} {x y : Code} {t : Bool} (hc : evO s.ts c = some (.bool t)) (h : AW P C (if t then x else y) Q s) : AW P C (.cond c x y) Q s := by
  obtain ⟨e, s', h1, h2⟩ := h
  refine ⟨e, s', fun B0 φ0 w0 a w hR => wp_cond (t := t) ?_ (h1 B0 φ0 w0 a w hR), h2⟩
  obtain ⟨φ, _, ht, _⟩ := hR
  have := evO_VR ht hc
  generalize a.eval c = v at this
  cases this; rfl
theorem aw_block {id : Nat} {c : Code} (h : AW P C c (blockA id Q) s) : AW P C (.block id c) Q s := by
  obtain ⟨e, s', h1, h2⟩ := h
  cases e with
  | normal =>
    refine ⟨.normal, s', fun B0 φ0 w0 a w hR => wp_block (wp_mono (h1 B0 φ0 w0 a w hR) ?_), h2⟩
    rintro e a' w' ⟨rfl, hR'⟩
    exact ⟨rfl, hR'⟩
  | ret =>
    refine ⟨.ret, s', fun B0 φ0 w0 a w hR => wp_block (wp_mono (h1 B0 φ0 w0 a w hR) ?_), h2⟩
    rintro e a' w' ⟨rfl, hR'⟩
    exact ⟨rfl, hR'⟩
  | exit id' =>
    simp only [blockA] at h2
    by_cases hid : id' = id
    · rw [if_pos hid] at h2
      refine ⟨.normal, s', fun B0 φ0 w0 a w hR => wp_block (wp_mono (h1 B0 φ0 w0 a w hR) ?_), h2⟩
      rintro e a' w' ⟨rfl, hR'⟩
      simpa [Ex.to, Exit.inBlock, hid] using hR'
    · rw [if_neg hid] at h2
      refine ⟨.exit id', s', fun B0 φ0 w0 a w hR => wp_block (wp_mono (h1 B0 φ0 w0 a w hR) ?_), h2⟩
      rintro e a' w' ⟨rfl, hR'⟩
      simpa [Ex.to, Exit.inBlock, hid] using hR'
theorem aw_region {id : Nat} {ops : Array Oper} (h : opsP P C ops ops.toList s (fun s' => Q .normal s')) : AW P C (.region id ops false) Q s := by
  obtain ⟨s', h1, h2⟩ := opsP_Ev h
  exact ⟨.normal, s', fun B0 φ0 w0 a w hR => wp_region_list (h1.sound (fun a' w' hR' => ⟨rfl, hR'⟩) hR), h2⟩
/-- The rounds of a loop. -/
inductive Rounds (P : Program) (C : Cx) (c : Code) : Nat → St → Ex → St → Prop
  | last {s e s'} (h : AEv P C c s e s') (he : e ≠ .normal) : Rounds P C c 0 s e s'
  | more {n s s1 e s'} (h : AEv P C c s .normal s1) (r : Rounds P C c n s1 e s') : Rounds P C c (n + 1) s e s'
theorem Rounds.ev {c : Code} {n : Nat} {e : Ex} {s' : St} (h : Rounds P C c n s e s') : AEv P C (.loop c) s e s' := by
  intro B0 φ0 w0 a w hR
  refine wp_loop_ghost (fun n a w => ∃ s, Rounds P C c n s e s' ∧ Rl P C B0 φ0 w0 s a w) n ⟨s, h, hR⟩ ?_
  rintro m a w ⟨s, hr, hR⟩
  cases hr with
  | last h he =>
    refine wp_mono (h B0 φ0 w0 a w hR) ?_
    rintro e' a' w' ⟨rfl, hR'⟩
    cases e with
    | normal => exact absurd rfl he
    | exit id => exact ⟨rfl, hR'⟩
    | ret => exact ⟨rfl, hR'⟩
  | more h r =>
    refine wp_mono (h B0 φ0 w0 a w hR) ?_
    rintro e' a' w' ⟨rfl, hR'⟩
    exact ⟨_, Nat.lt_succ_self _, _, r, hR'⟩
/-- A loop: an invariant with a number that every round lowers. -/
theorem aw_loop {c : Code} (I : Nat → St → Prop) (n : Nat) (h0 : I n s) (hI : ∀ n s, I n s → AW P C c (thenA (fun s' => ∃ m, m < n ∧ I m s') (fun e s' => e ≠ .normal → Q e s')) s) : AW P C (.loop c) Q s := by
  induction n using Nat.strongRecOn generalizing s with
  | _ n ih =>
    obtain ⟨e, s1, h1, h2⟩ := hI n s h0
    have key : ∀ {n s}, I n s → ∃ m e s', Rounds P C c m s e s' ∧ Q e s' := by
      intro n
      induction n using Nat.strongRecOn with
      | _ n ih =>
        intro s h0
        obtain ⟨e, s1, h1, h2⟩ := hI n s h0
        cases e with
        | normal =>
          obtain ⟨m, hm, hm'⟩ := h2
          obtain ⟨k, e, s', hr, hq⟩ := ih m hm hm'
          exact ⟨k + 1, e, s', .more h1 hr, hq⟩
        | exit id => exact ⟨0, _, s1, .last h1 (by simp), h2 (by simp)⟩
        | ret => exact ⟨0, _, s1, .last h1 (by simp), h2 (by simp)⟩
    obtain ⟨m, e, s', hr, hq⟩ := key h0
    exact ⟨e, s', hr.ev, hq⟩
/-- What is not asked for any more may be left out. -/
theorem AW.sub {c : Code} {ts : List (Nat × Value)} (h : AW P C c Q ⟨ts, s.H⟩) (hs : ∀ t v, getT ts t = some v → getT s.ts t = some v) : AW P C c Q s := by
  obtain ⟨e, s', h1, h2⟩ := h
  refine ⟨e, s', fun B0 φ0 w0 a w hR => h1 B0 φ0 w0 a w ?_, h2⟩
  obtain ⟨φ, hi, ht, hN, hd⟩ := hR
  exact ⟨φ, hi, ht.sub hs, hN, hd⟩
end

/-! ### what is still to do, as a list -/
inductive It where
  | c (x : Code)
  | blk (id : Nat)
  | inv (I : St → Prop)
def post (P : Program) (C : Cx) (R : St → Prop) : List It → Ex → St → Prop
  | [] => fun e s => (e = .normal ∨ e = .ret) ∧ R s
  | .c y :: k => thenA (AW P C y (post P C R k)) (post P C R k)
  | .blk id :: k => blockA id (post P C R k)
  | .inv I :: k => thenA I (fun e s => e ≠ .normal → post P C R k e s)
def AK (P : Program) (C : Cx) (R : St → Prop) (k : List It) (s : St) : Prop := post P C R k .normal s
def unw (id : Nat) : List It → List It
  | [] => []
  | .c _ :: k => unw id k
  | .blk id' :: k => if id = id' then k else unw id k
  | .inv _ :: k => unw id k
/-- An exit finds its block. -/
def has (id : Nat) : List It → Bool
  | [] => false
  | .c _ :: k => has id k
  | .blk id' :: k => id == id' || has id k
  | .inv _ :: k => has id k
theorem post_exit {P : Program} {C : Cx} {R : St → Prop} {id : Nat} {s : St} : ∀ {k : List It}, has id k = true → AK P C R (unw id k) s → post P C R k (.exit id) s
  | [], h, _ => by cases h
  | .c y :: k, h, hk => post_exit (k := k) h hk
  | .inv I :: k, h, hk => fun _ => post_exit (k := k) h hk
  | .blk id' :: k, h, hk => by
    by_cases e : id = id'
    · subst e
      simp only [unw, if_true] at hk
      show (if id = id then _ else _)
      rw [if_pos rfl]; exact hk
    · simp only [unw, e, if_false] at hk
      show (if id = id' then _ else _)
      rw [if_neg e]
      refine post_exit ?_ hk
      simpa [has, e] using h
theorem post_ret {P : Program} {C : Cx} {R : St → Prop} {s : St} (h : R s) : ∀ (k : List It), post P C R k .ret s
  | [] => ⟨.inr rfl, h⟩
  | .c _ :: k => post_ret h k
  | .inv _ :: k => fun _ => post_ret h k
  | .blk _ :: k => post_ret h k
section
variable {P : Program} {C : Cx} {R : St → Prop} {k : List It} {s : St}
theorem ak_nil (h : R s) : AK P C R [] s := ⟨.inl rfl, h⟩
theorem ak_seq {x y : Code} (h : AK P C R (.c x :: .c y :: k) s) : AK P C R (.c (.seq x y) :: k) s := aw_seq h
theorem ak_skip (h : AK P C R k s) : AK P C R (.c .skip :: k) s := aw_skip h
theorem ak_block {id : Nat} {x : Code} (h : AK P C R (.c x :: .blk id :: k) s) : AK P C R (.c (.block id x) :: k) s := aw_block h
theorem ak_blk {id : Nat} (h : AK P C R k s) : AK P C R (.blk id :: k) s := h
theorem ak_inv {I : St → Prop} (h : I s) : AK P C R (.inv I :: k) s := h
theorem ak_exit {id : Nat} (hh : has id k = true) (h : AK P C R (unw id k) s) : AK P C R (.c (.exit id) :: k) s := aw_exit (post_exit hh h)
theorem ak_ret (h : R s) : AK P C R (.c .ret :: k) s := aw_ret (post_ret h k)
theorem ak_cond {c : Operand} {x y : Code} {t : Bool} (hc : evO s.ts c = some (.bool t)) (h : AK P C R (.c (if t then x else y) :: k) s) : AK P C R (.c (.cond c x y) :: k) s := aw_cond hc h
theorem ak_cond_t {c : Operand} {x y : Code} (hc : evO s.ts c = some (.bool true)) (h : AK P C R (.c x :: k) s) : AK P C R (.c (.cond c x y) :: k) s := aw_cond hc h
theorem ak_cond_f {c : Operand} {x y : Code} (hc : evO s.ts c = some (.bool false)) (h : AK P C R (.c y :: k) s) : AK P C R (.c (.cond c x y) :: k) s := aw_cond hc h
theorem ak_cond_b {c : Operand} {x y : Code} {b : Bool} (hc : evO s.ts c = some (.bool b)) (h1 : b = true → AK P C R (.c x :: k) s) (h2 : b = false → AK P C R (.c y :: k) s) : AK P C R (.c (.cond c x y) :: k) s := by
  cases b
  · exact ak_cond_f hc (h2 rfl)
  · exact ak_cond_t hc (h1 rfl)
theorem ak_region {id : Nat} {ops : Array Oper} (h : ∀ K : St → Prop, (∀ s', AK P C R k s' → K s') → opsP P C ops ops.toList s K) : AK P C R (.c (.region id ops false) :: k) s := aw_region (h _ fun _ h => h)
theorem ak_sub {ts ts' : List (Nat × Value)} {H : Heap} {x : Code} (hs : ∀ t v, getT ts' t = some v → getT ts t = some v) (h : AK P C R (.c x :: k) ⟨ts', H⟩) : AK P C R (.c x :: k) ⟨ts, H⟩ := AW.sub (s := ⟨ts, H⟩) h hs
theorem ak_loop {x : Code} (I : Nat → St → Prop) (n : Nat) (h0 : I n s) (hI : ∀ n s, I n s → AK P C R (.c x :: .inv (fun s' => ∃ m, m < n ∧ I m s') :: k) s) : AK P C R (.c (.loop x) :: k) s := aw_loop I n h0 hI
end

/-! ### a function's end, and its contract out of its body -/
def resOne (P : Program) (s : St) : ResultVar → Option Value
  | .tmp t => getT s.ts t
  | .cell a t => match getT s.ts a with
    | some p => ldA P s.H t p
    | none => none
def resL (P : Program) (s : St) : List ResultVar → Option (List Value)
  | [] => some []
  | r :: rs => match resOne P s r, resL P s rs with
    | some v, some l => some (v :: l)
    | _, _ => none
def resA (P : Program) (s : St) (rs : List ResultVar) : Option Value := match resL P s rs with
  | some [v] => some v
  | some l => some (.tuple l.toArray)
  | none => none
def resS (tmps : Array Value) : ResultVar → Sem Value
  | .tmp t => pure (tmps.getD t undef)
  | .cell a t => do loadVar t (← asAddr (tmps.getD a undef))
theorem resOne_sound {P : Program} {B0 : Nat} {φ : Phi} {H : Heap} {ts : List (Nat × Value)} {w : World} {tmps : Array Value} (h : HR P B0 φ H w) (ht : TR φ ts tmps) {r : ResultVar} {v : Value} (hr : resOne P ⟨ts, H⟩ r = some v) :
    ∃ v', VR φ v v' ∧ (resS tmps r).run P w = .ok v' w := by
  cases r with
  | tmp t =>
    obtain ⟨v', h1, h2⟩ := ht t v hr
    exact ⟨v', h2, by simp [resS, h1]⟩
  | cell a t =>
    simp only [resOne] at hr
    split at hr
    · rename_i p hp
      obtain ⟨p', h1, h2⟩ := ht a p hp
      obtain ⟨r', h3, h4⟩ := ldA_sound h h2 hr
      refine ⟨r', h3, ?_⟩
      unfold ldA at hr
      split at hr
      · cases h2
        simp only [Instr.loadAt, Instr.sureAddr, Sem.run_bind, Sem.run_pure, Result.andThen_ok] at h4
        simp [resS, h1, asAddr, h4]
      · cases hr
    · cases hr
theorem resA_sound {P : Program} {B0 : Nat} {φ : Phi} {H : Heap} {ts : List (Nat × Value)} {w : World} {tmps : Array Value} (h : HR P B0 φ H w) (ht : TR φ ts tmps) {fn : Func} {v : Value} (hr : resA P ⟨ts, H⟩ fn.results.toList = some v) :
    ∃ v', VR φ v v' ∧ (results fn tmps).run P w = .ok v' w := by
  have key : ∀ (rs : List ResultVar) (l : List Value), resL P ⟨ts, H⟩ rs = some l → ∃ l', VRs φ l l' ∧ (rs.mapM (resS tmps)).run P w = .ok l' w := by
    intro rs
    induction rs with
    | nil => intro l hl; cases hl; exact ⟨[], .nil _, rfl⟩
    | cons r rs ih =>
      intro l hl
      simp only [resL] at hl
      split at hl
      · rename_i v1 l1 h1 h2
        cases hl
        obtain ⟨v', a1, a2⟩ := resOne_sound h ht h1
        obtain ⟨l', b1, b2⟩ := ih l1 h2
        refine ⟨v' :: l', .cons a1 b1, ?_⟩
        rw [List.mapM_cons]
        simp only [Sem.run_bind, a2, b2, Result.andThen_ok, Sem.run_pure]
      · cases hl
  unfold resA at hr
  cases hl : resL P ⟨ts, H⟩ fn.results.toList with
  | none => rw [hl] at hr; cases hr
  | some l =>
    rw [hl] at hr
    obtain ⟨l', h1, h2⟩ := key _ _ hl
    have hrun : (results fn tmps).run P w = .ok (if h : l'.toArray.size = 1 then l'.toArray[0] else .tuple l'.toArray) w := by
      have e1 : results fn tmps = (do let vs ← fn.results.mapM (resS tmps); pure (if h : vs.size = 1 then vs[0] else .tuple vs)) := by
        unfold results
        congr 1
      rw [e1, Array.mapM_eq_mapM_toList]
      simp only [Sem.run_bind, Sem.run_map, h2, Result.andThen_ok, Sem.run_pure]
    rw [hrun]
    match l, hr, h1 with
    | [], hr, h1 =>
      rw [h1.inv_nil]
      cases hr
      exact ⟨_, .tup rfl fun i h => by simp at h, rfl⟩
    | [v1], hr, h1 =>
      obtain ⟨y, ys, rfl, a1, a2⟩ := h1.inv
      rw [a2.inv_nil]
      cases hr
      exact ⟨y, a1, rfl⟩
    | v1 :: v2 :: l, hr, h1 =>
      have hlen := h1.1
      cases hr
      have hne : ¬ (l'.toArray.size = 1) := by simp at hlen ⊢; omega
      rw [dif_neg hne]
      exact ⟨_, VR.tup_of h1, rfl⟩

/-- Ids of this value are below n. -/
def Clo (n : Nat) (x : Value) : Prop := ∀ (φ φ' : Phi) (y : Value), φ.le φ' → (∀ i, i < n → φ' i = φ i) → VR φ' x y → VR φ x y
theorem Clo.plain {n : Nat} {x : Value} (h : plainV x = true) : Clo n x := fun φ φ' y hle _ hv => by
  have := (plainV_VR (φ := φ) h)
  exact hv.back hle this
theorem Clo.pt {n id o : Nat} (h : id < n) : Clo n (pt id o) := fun φ φ' y hle hn hv => by
  cases hv with | ptr hL => exact .ptr (by rw [← hn id h]; exact hL)
theorem Clo.sl {n id o m : Nat} (h : id < n) : Clo n (sl id o m) := fun φ φ' y hle hn hv => by
  cases hv with
  | slc hL h1 h2 => exact .slc (by rw [← hn id h]; exact hL) h1 h2
  | sl0 hL h1 => exact .sl0 (by rw [← hn id h]; exact hL) h1
theorem Clo.agg {n : Nat} {cs : Array Value} (h : ∀ x, x ∈ cs.toList → Clo n x) : Clo n (.agg cs) := fun φ φ' y hle hn hv => by
  obtain ⟨ds, rfl, hds⟩ := hv.agg_inv
  have : VRs φ cs.toList ds.toList := ⟨hds.1, fun i u v hu hv => h u (List.mem_of_getElem? hu) φ φ' v hle hn (hds.2 i u v hu hv)⟩
  simpa using VR.agg_of this
theorem Clo.tup {n : Nat} {cs : Array Value} (h : ∀ x, x ∈ cs.toList → Clo n x) : Clo n (.tuple cs) := fun φ φ' y hle hn hv => by
  obtain ⟨ds, rfl, hds⟩ := hv.tup_inv
  have : VRs φ cs.toList ds.toList := ⟨hds.1, fun i u v hu hv => h u (List.mem_of_getElem? hu) φ φ' v hle hn (hds.2 i u v hu hv)⟩
  simpa using VR.tup_of this
def Phi.cut (φ : Phi) (n : Nat) : Phi := fun i => if i < n then φ i else none
theorem Phi.cut_le (φ : Phi) (n : Nat) : (φ.cut n).le φ := fun id L h => by
  unfold Phi.cut at h; split at h
  · exact h
  · cases h
theorem Phi.cut_lt (φ : Phi) {n i : Nat} (h : i < n) : φ.cut n i = φ i := by simp [Phi.cut, h]
/-- What was made on the way, and is named by nothing any more, is let go. -/
theorem Inv.cut {P : Program} {B0 n0 : Nat} {D : List Nat} {φ0 φ : Phi} {w0 w : World} {H J H0 : Heap} (h : Inv P B0 n0 D φ0 w0 φ (H ++ J) w) (h0 : HR P B0 φ0 H0 w0) (hn : n0 ≤ H.length)
    (hc : ∀ id j x, Heap.cell H id j = some x → (id < n0 ∧ Heap.cell H0 id j = some x) ∨ Clo H.length x) : Inv P B0 n0 D φ0 w0 (φ.cut H.length) H w := by
  have hget : ∀ id, id < H.length → (H ++ J)[id]? = H[id]? := fun id hi => by rw [List.getElem?_append_left hi]
  have hlt : ∀ {id L}, φ.cut H.length id = some L → id < H.length ∧ φ id = some L := fun {id L} hL => by
    unfold Phi.cut at hL; split at hL
    · rename_i hh; exact ⟨hh, hL⟩
    · cases hL
  have hlive : ∀ id, id < H.length → Heap.hot (H ++ J) id = Heap.hot H id := fun id hi => by unfold Heap.hot; rw [hget id hi]
  refine ⟨⟨?_, ?_, ?_, ?_, ?_, ?_, ?_, ?_⟩, h.b0, hn, h.dom0, ?_, ?_, h.os, h.tape, h.output, h.size, h.keep⟩
  · intro id L hL; exact (hlt hL).1
  · intro id L hL; exact h.hr.ro id L (hlt hL).2
  · intro id L hL; exact h.hr.lt id L (hlt hL).2
  · intro id L j x hL hx
    obtain ⟨hi, hL'⟩ := hlt hL
    obtain ⟨y, hy, hcl⟩ := h.hr.cell id L j x hL' (by unfold Heap.cell at hx ⊢; rw [hget id hi]; exact hx)
    refine ⟨y, ?_, hcl⟩
    rcases hc id j x hx with ⟨hid, hx0⟩ | hclo
    · have e1 := h.low id hid
      rw [hL'] at e1
      obtain ⟨y0, hy0, _⟩ := h0.cell id L j x e1.symm hx0
      have hle : φ0.le (φ.cut H.length) := fun i M hM => by
        have hin := h.dom0 i M hM
        rw [Phi.cut_lt φ (show i < H.length by omega), h.low i hin]; exact hM
      exact hy.back (Phi.cut_le φ _) (hy0.mono hle)
    · exact hclo _ _ y (Phi.cut_le φ _) (fun i hi => (Phi.cut_lt φ hi).symm) hy
  · intro id L b hL hr hb hl
    obtain ⟨hi, hL'⟩ := hlt hL
    exact h.hr.row id L b hL' hr (by rw [hget id hi]; exact hb) hl
  · intro id L b hL hb hr
    obtain ⟨hi, hL'⟩ := hlt hL
    exact h.hr.flag id L b hL' (by rw [hget id hi]; exact hb) hr
  · intro id id' L L' hL hL' hr hr' hbe hl hl'
    obtain ⟨hi, hL1⟩ := hlt hL
    obtain ⟨hi', hL2⟩ := hlt hL'
    exact h.hr.inj id id' L L' hL1 hL2 hr hr' hbe (by rw [hlive id hi]; exact hl) (by rw [hlive id' hi']; exact hl')
  · intro id L b hL hb hl hr
    obtain ⟨hi, hL'⟩ := hlt hL
    exact h.hr.mp id L b hL' (by rw [hget id hi]; exact hb) hl hr
  · intro id hid
    rw [Phi.cut_lt φ (show id < H.length by omega)]
    exact h.low id hid
  · intro id L hid hL
    exact h.high id L hid (hlt hL).2

def enumT : Nat → List Value → List (Nat × Value)
  | _, [] => []
  | i, v :: r => (i, v) :: enumT (i + 1) r
theorem enumT_get : ∀ (l : List Value) (i t : Nat) (v : Value), getT (enumT i l) t = some v → i ≤ t ∧ l[t - i]? = some v
  | [], i, t, v, h => by simp [enumT, getT] at h
  | x :: l, i, t, v, h => by
    simp only [enumT, getT] at h
    split at h
    · rename_i e; subst e; cases h; simp
    · rename_i e
      obtain ⟨h1, h2⟩ := enumT_get l (i + 1) t v h
      refine ⟨by omega, ?_⟩
      have : t - i = (t - (i + 1)) + 1 := by omega
      rw [this]; simpa using h2
/-- What is asked at a body's end. -/
def endR (P : Program) (rs : List ResultVar) (R : Value → Heap → Prop) (s : St) : Prop := match resA P s rs with
  | some v => R v s.H
  | none => False
theorem endR_some {P : Program} {rs : List ResultVar} {R : Value → Heap → Prop} {s : St} (h : endR P rs R s) : ∃ v, resA P s rs = some v ∧ R v s.H := by
  unfold endR at h
  split at h
  · rename_i v hv; exact ⟨v, hv, h⟩
  · exact h.elim
theorem endR_mono {P : Program} {rs : List ResultVar} {R R' : Value → Heap → Prop} (hR : ∀ v H, R v H → R' v H) {s : St} (h : endR P rs R s) : endR P rs R' s := by
  unfold endR at h ⊢
  split at h
  · exact hR _ _ h
  · exact h
theorem post_mono {P : Program} {C : Cx} {R R' : St → Prop} (hR : ∀ s, R s → R' s) : ∀ {k : List It} {e : Ex} {s : St}, post P C R k e s → post P C R' k e s
  | [], e, s, h => ⟨h.1, hR s h.2⟩
  | .c y :: k, .normal, s, h => AW.mono h fun e s h => post_mono hR h
  | .c y :: k, .exit id, s, h => post_mono (k := k) hR h
  | .c y :: k, .ret, s, h => post_mono (k := k) hR h
  | .blk id :: k, .normal, s, h => post_mono (k := k) hR h
  | .blk id :: k, .ret, s, h => post_mono (k := k) hR h
  | .blk id :: k, .exit id', s, h => by
    unfold post blockA at h ⊢
    simp only at h ⊢
    split at h
    · rename_i e; rw [if_pos e]; exact post_mono (k := k) hR h
    · rename_i e; rw [if_neg e]; exact post_mono (k := k) hR h
  | .inv I :: k, .normal, s, h => h
  | .inv I :: k, .exit id, s, h => fun hne => post_mono (k := k) hR (h hne)
  | .inv I :: k, .ret, s, h => fun hne => post_mono (k := k) hR (h hne)
theorem AC.of_body {P : Program} {f : FuncId} {fn : Func} {c : Code} {N : Nat} {rs : List ResultVar} {args : List Value} {H : Heap} {D : List Nat} {R : Value → Heap → Prop} (hf : P.funcs[f]? = some fn) (hb : fn.body = some c) (hok : fnOk P f = true) (hNe : fn.ntmps = N) (hrs : fn.results.toList = rs) (hN : args.length ≤ N)
    (h : AK P ⟨N, H.length, D⟩ (endR P rs fun v Hn => ∃ H' J, Hn = H' ++ J ∧ H.length ≤ H'.length ∧ (∀ id j x, Heap.cell H' id j = some x → (id < H.length ∧ Heap.cell H id j = some x) ∨ Clo H'.length x) ∧ Clo H'.length v ∧ R v H') [.c c] ⟨enumT 0 args, H⟩) :
    ∃ v H', AC P f args H v H' D ∧ R v H' := by
  subst hNe
  subst hrs
  obtain ⟨e, s', h1, he, hend⟩ := h
  obtain ⟨v, hv, H', J, hJ, hlen, hcl, hvc, hR⟩ := endR_some hend
  refine ⟨v, H', ⟨hok, fun B0 φ w args' hr hB ha => ?_⟩, hR⟩
  refine calls_of_wp hf hb (wp_mono (h1 B0 φ w _ w ⟨φ, Inv.init hr hB, ?_, ?_, rfl⟩) ?_)
  · intro t u hu
    obtain ⟨_, h2⟩ := enumT_get args 0 t u hu
    have hlt : t < args.length := by
      have := (List.getElem?_eq_some_iff.1 h2).1; omega
    have hlt' : t < args'.length := by rw [← ha.1]; exact hlt
    refine ⟨args'[t], ?_, ha.2 t u _ (by simpa using h2) (by simp [hlt'])⟩
    rw [Array.getElem?_append_left (by simpa using hlt')]
    simp [hlt']
  · have := ha.1; simp; omega
  · rintro e' a' w' ⟨rfl, φ', hi, ht, hN', hd⟩
    have hi' : Inv P B0 H.length D φ w φ' (H' ++ J) w' := by rw [← hJ]; exact hi
    obtain ⟨v', h2, h3⟩ := resA_sound (fn := fn) hi.hr ht (by cases s'; exact hv)
    have hcut := hi'.cut hr hlen hcl
    have hv2 : VR (φ'.cut H'.length) v v' := hvc _ _ v' (Phi.cut_le _ _) (fun i hi => (Phi.cut_lt φ' hi).symm) h2
    have hpost : bodyPost P fn (fun e w' => ∃ φ' v', e = .returned v' ∧ VR φ' v v' ∧ Inv P B0 H.length D φ w φ' H' w') .normal a' w' := ⟨hd, v', h3, _, v', rfl, hv2, hcut⟩
    rcases he with rfl | rfl
    · exact hpost
    · exact hpost

/-- A body's contract, with all that it left. -/
theorem AC.of_body0 {P : Program} {f : FuncId} {fn : Func} {c : Code} {N : Nat} {rs : List ResultVar} {args : List Value} {H : Heap} {D : List Nat} {R : Value → Heap → Prop} (hf : P.funcs[f]? = some fn) (hb : fn.body = some c) (hok : fnOk P f = true) (hNe : fn.ntmps = N) (hrs : fn.results.toList = rs) (hN : args.length ≤ N)
    (h : AK P ⟨N, H.length, D⟩ (endR P rs R) [.c c] ⟨enumT 0 args, H⟩) : ∃ v H', AC P f args H v H' D ∧ R v H' := by
  subst hNe
  subst hrs
  obtain ⟨e, s', h1, he, hend⟩ := h
  obtain ⟨v, hv, hR⟩ := endR_some hend
  refine ⟨v, s'.H, ⟨hok, fun B0 φ w args' hr hB ha => ?_⟩, hR⟩
  refine calls_of_wp hf hb (wp_mono (h1 B0 φ w _ w ⟨φ, Inv.init hr hB, ?_, ?_, rfl⟩) ?_)
  · intro t u hu
    obtain ⟨_, h2⟩ := enumT_get args 0 t u hu
    have hlt : t < args.length := by
      have := (List.getElem?_eq_some_iff.1 h2).1; omega
    have hlt' : t < args'.length := by rw [← ha.1]; exact hlt
    refine ⟨args'[t], ?_, ha.2 t u _ (by simpa using h2) (by simp [hlt'])⟩
    rw [Array.getElem?_append_left (by simpa using hlt')]
    simp [hlt']
  · have := ha.1; simp; omega
  · rintro e' a' w' ⟨rfl, φ', hi, ht, hN', hd⟩
    obtain ⟨v', h2, h3⟩ := resA_sound (fn := fn) hi.hr ht (by cases s'; exact hv)
    have hpost : bodyPost P fn (fun e w' => ∃ φ' v', e = .returned v' ∧ VR φ' v v' ∧ Inv P B0 H.length D φ w φ' s'.H w') .normal a' w' := ⟨hd, v', h3, _, v', rfl, h2, hi⟩
    rcases he with rfl | rfl
    · exact hpost
    · exact hpost

/-- A body that leaves a plain value, and of the heap nothing but what it let go. -/
theorem AC.of_pure {P : Program} {f : FuncId} {fn : Func} {c : Code} {N : Nat} {rs : List ResultVar} {args : List Value} {H : Heap} {r : Value} (hf : P.funcs[f]? = some fn) (hb : fn.body = some c) (hok : fnOk P f = true) (hNe : fn.ntmps = N) (hrs : fn.results.toList = rs) (hN : args.length ≤ N) (hr : plainV r = true)
    (h : AK P ⟨N, H.length, []⟩ (endR P rs fun v Hn => v = r ∧ ∃ J, Hn = H ++ J) [.c c] ⟨enumT 0 args, H⟩) : AC P f args H r H [] := by
  obtain ⟨v, H', h1, rfl, rfl⟩ := AC.of_body (R := fun v H' => v = r ∧ H' = H) hf hb hok hNe hrs hN (post_mono (fun s => endR_mono fun v Hn ⟨hvr, J, hJ⟩ => ⟨H, J, hJ, Nat.le_refl _, fun id j x hx => .inl ⟨Heap.lt_of_live (Heap.live_of_cell hx), hx⟩, Clo.plain (by rw [hvr]; exact hr), hvr, rfl⟩) h)
  exact h1

end Go.Proofs.YtpoedfmkiiijnaaAm
