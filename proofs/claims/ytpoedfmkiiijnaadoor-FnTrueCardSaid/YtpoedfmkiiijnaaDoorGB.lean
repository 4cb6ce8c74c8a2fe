/- Texts of this repo, one behind the other (Am6 Am7 Am8 Am9). Plain lemmas and walks. -/
import Derived.Test.YtpoedfmkiiijnaaDoorGA
import Derived.Deep.LoopGhost
import Derived.Laws.BytesArg
namespace Go.Proofs.YtpoedfmkiiijnaaDoorAm
open Go Go.RowKit
set_option linter.unusedVariables false
set_option linter.unusedSimpArgs false

/-! ### bytes to a string -/
def bytsOf : List Value → Option (List UInt8)
 | [] => some []
 | .int .u8 n :: r => match bytsOf r with
  | some l => some (UInt8.ofNat n.toNat :: l)
  | none => none
 | _ => none
def bytA (H : Heap) : Value → Option Value
 | .slice none 0 0 => some (.string ⟨#[]⟩)
 | .slice (some ⟨id, o, none⟩) n 0 => match ldC H id o n with
  | some l => match bytsOf l with
   | some b => some (.string ⟨b.toArray⟩)
   | none => none
  | none => none
 | _ => none
def cvA (P : Program) (H : Heap) (src dst : TypeId) (a : Value) : Option Value :=
 match elemO P src with
 | some e => match strO P dst, intO P e with
  | true, some .u8 => bytA H a
  | _, _ => none
 | none => none
theorem bytsOf_ints : ∀ {l : List Value} {b : List UInt8}, bytsOf l = some b → ∃ xs : List Int, l = xs.map (Value.int .u8) ∧ b = xs.map fun n => UInt8.ofNat n.toNat
 | [], b, h => by cases h; exact ⟨[], rfl, rfl⟩
 | .int .u8 n :: r, b, h => by
  simp only [bytsOf] at h
  split at h
  ·rename_i l hl
   cases h
   obtain ⟨xs, rfl, rfl⟩ := bytsOf_ints hl
   exact ⟨n :: xs, rfl, rfl⟩
  ·cases h
theorem VRs.ints8 {φ : Phi} : ∀ {xs : List Int} {ys : List Value}, VRs φ (xs.map (Value.int .u8)) ys → ys = xs.map (Value.int .u8)
 | [], ys, h => h.inv_nil
 | x :: xs, ys, h => by
  obtain ⟨y, r, rfl, h1, h2⟩ := h.inv
  cases h1
  rw [VRs.ints8 h2]; rfl
theorem cvA_sound {P : Program} {B0 : Nat} {φ : Phi} {H : Heap} {w : World} (h : HR P B0 φ H w) {src dst : TypeId} {a a' v : Value} (ha : VR φ a a') (hc : cvA P H src dst a = some v) :
  (convert src dst a').run P w = .ok v w ∧ plainV v = true := by
 unfold cvA at hc
 split at hc
 ·rename_i e he
  split at hc
  ·rename_i hs hi
   have hd := str_und hs
   have hu := elem_und he
   have h8 : P.underlying e = some (.int .u8) := by
    unfold intO at hi
    cases hu8 : P.underlying e with
    | none => rw [hu8] at hi; cases hi
    | some d => rw [hu8] at hi; cases d <;> simp [intD] at hi; subst hi; rfl
   unfold bytA at hc
   split at hc
   ·cases hc; cases ha
    exact ⟨run_convert_bytes_nil (P := P) w src e hu h8 0 0 dst hd, rfl⟩
   ·rename_i id o n
    split at hc
    ·rename_i l hl
     split at hc
     ·rename_i b hb
      cases hc
      obtain ⟨xs, rfl, rfl⟩ := bytsOf_ints hb
      refine ⟨?_, rfl⟩
      cases ha with
      | @slc _ _ _ c L hL hn hc =>
       obtain ⟨l', q1, q2, q3⟩ := ldC_sound h hL hl
       obtain rfl := VRs.ints8 q1
       have hlen : xs.length = n := by simpa using q2
       refine run_convert_bytes_arg (P := P) w src e hu h8 L.blk (L.base + o) n c xs hlen (fun i hi => ?_) dst hd
       rw [Nat.add_assoc]
       exact q3 i _ (by simp [List.getD, List.getElem?_eq_getElem (show i < xs.length by omega)])
      | @sl0 _ _ a0 L hL ho =>
       cases hl' : xs with
       | cons x r => subst hl'; simp [ldC] at hl
       | nil =>
        rw [run_convert_bytes_string (P := P) w src dst e (some a0) 0 0 hu h8 hd]
        simp [Conv.bytesToString, loadCells, loadCellsFrom]
        rfl
     ·cases hc
    ·cases hc
   ·cases hc
  ·cases hc
 ·cases hc
structure St where
 ts : List (Nat × Value)
 H : Heap
structure Cx where
 N : Nat
 n0 : Nat
 D : List Nat
def fnOk (P : Program) (f : FuncId) : Bool := match P.funcs[f]? with
 | some fn => fn.name != "runtime.NumGoroutine" && fn.body.isSome
 | none => false
/-- A contract: from H the call gives v and leaves H'; it writes ids of D and new ones alone. -/
def AC (P : Program) (f : FuncId) (args : List Value) (H : Heap) (v : Value) (H' : Heap) (D : List Nat) : Prop :=
 fnOk P f = true ∧ ∀ B0 φ w (args' : List Value), HR P B0 φ H w → B0 ≤ w.heap.size → GOk P B0 w → VRs φ args args' →
  Calls P f args'.toArray w fun e w' => ∃ φ' v', e = .returned v' ∧ VR φ' v v' ∧ Inv P B0 H.length D φ w φ' H' w'

def Rl (P : Program) (C : Cx) (B0 : Nat) (φ0 : Phi) (w0 : World) (s : St) (a : Act) (w : World) : Prop :=
 ∃ φ, Inv P B0 C.n0 C.D φ0 w0 φ s.H w ∧ TR φ s.ts a.tmps ∧ a.tmps.size = C.N ∧ a.defers = []

/-! ### an operation -/
abbrev uV : Value := .tuple #[]
inductive Kd where
 | pure
 | load (t : TypeId) (a : Value)
 | new
 | eff
 | mp
/-- One operation: what it leaves in its slot, and the heap behind it. -/
inductive SE (P : Program) (C : Cx) (o : Oper) (s : St) : Kd → Value → Heap → List Nat → Prop
 | pure {v} (h : pureOp P (evO s.ts) o.op = some v) : SE P C o s .pure v s.H []
 | load {t x a v} (ho : o.op = .load t x) (h : evO s.ts x = some a) (hv : ldA P s.H t a = some v) : SE P C o s (.load t a) v s.H []
 | new {ty cs f} (h : newA P (evO s.ts) o.op = some ⟨ty, cs, f⟩) : SE P C o s .new (f s.H.length) (s.H ++ [⟨ty, cs, true, true⟩]) []
 | store {t x y a v id H'} (ho : o.op = .store t x y) (h : evO s.ts x = some a) (h' : evO s.ts y = some v) (hs : stA P s.H t a v = some (id, H')) (hw : wr C.n0 C.D id) : SE P C o s .eff uV H' [id]
 | append {as ts x y a b k v H'} (ho : o.op = .call { callee := .builtin .append, args := as, argTypes := ts }) (ha : as.toList = [x, y]) (h : evO s.ts x = some a) (h' : evO s.ts y = some b)
   (hs : apA P s.H ts.toList a b = some (k, v, H')) (hw : ∀ id, k = some id → wr C.n0 C.D id) : SE P C o s .eff v H' k.toList
 | call {fx as ts f cap vs v H' Dc} (ho : o.op = .call { callee := .value fx, args := as, argTypes := ts }) (hf : evO s.ts fx = some (.func (.func f) #[] cap)) (ha : evL (evO s.ts) as.toList = some vs)
   (hc : AC P f (vs ++ cap.toList) s.H v H' Dc) (hw : ∀ d, d ∈ Dc → wr C.n0 C.D d) : SE P C o s .eff v H' Dc
 | look {t x y m k v} (ho : o.op = .lookup t x y false) (h : evO s.ts x = some m) (h' : evO s.ts y = some k) (hl : lookA P s.H t m k = some v) : SE P C o s .mp v s.H []
 | mput {t x y z m k v id H'} (ho : o.op = .mapUpdate t x y z) (h : evO s.ts x = some m) (h' : evO s.ts y = some k) (h'' : evO s.ts z = some v) (hs : mputA P s.H t m k v = some (id, H')) (hw : wr C.n0 C.D id) : SE P C o s .mp uV H' [id]
 | conv {src dst x a v} (ho : o.op = .convert src dst x) (h : evO s.ts x = some a) (hv : cvA P s.H src dst a = some v) : SE P C o s .mp v s.H []
 | mnew {t} (ho : o.op = .makeMap t none) : SE P C o s .mp (.map (some s.H.length)) (s.H ++ [⟨t, [], true, false⟩]) []

theorem Calls.of_ac {P : Program} {f : FuncId} {args args' : List Value} {H H' : Heap} {v : Value} {Dc : List Nat} (hc : AC P f args H v H' Dc) {C : Cx} {B0 : Nat} {φ0 φ : Phi} {w0 w : World}
  (h : Inv P B0 C.n0 C.D φ0 w0 φ H w) (ha : VRs φ args args') (hw : ∀ d, d ∈ Dc → wr C.n0 C.D d) :
  Calls P f args'.toArray w fun e w' => ∃ φ' v', e = .returned v' ∧ VR φ' v v' ∧ Inv P B0 C.n0 C.D φ0 w0 φ' H' w' ∧ φ.le φ' ∧ FrE φ φ' w w' Dc H.length ∧ H.length ≤ H'.length := by
 refine (hc.2 B0 φ w args' h.hr (Nat.le_trans h.b0 h.size) h.gl ha).mono ?_
 rintro e w' ⟨φ', v', he, hv, hi⟩
 refine ⟨φ', v', he, hv, ⟨hi.hr, h.b0, hi.gl, Nat.le_trans h.len hi.len, h.dom0, ?_, ?_, hi.os.trans h.os, hi.tape.trans h.tape, hi.output.trans h.output, Nat.le_trans h.size hi.size, ?_⟩, hi.le0, ⟨hi.low, hi.size, fun b hb hk => hi.keep b hb fun d hd L hL _ => hk d hd L hL, ?_⟩, hi.len⟩
 ·intro id hid
  rw [hi.low id (by have := h.len; omega)]
  exact h.low id hid
 ·intro id L hid hL
  by_cases hn : id < H.length
  ·rw [hi.low id hn] at hL
   exact h.high id L hid hL
  ·obtain ⟨h1, h2 | ⟨d, hd, L0, h3, h4, h5⟩⟩ := hi.high id L (by omega) hL
   ·exact ⟨h1, .inl (by have := h.size; omega)⟩
   ·refine ⟨h1, ?_⟩
    rcases hw d hd with hwd | hwd
    ·have := (h.high d L0 hwd h3).2
     rwa [h5] at this
    ·by_cases hdn : C.n0 ≤ d
     ·have := (h.high d L0 hdn h3).2
      rwa [h5] at this
     ·exact .inr ⟨d, hwd, L0, by rw [← h.low d (by omega)]; exact h3, h4, h5⟩
 ·intro b hb hk
  rw [hi.keep b (by have := h.size; omega) (by
   intro d hd L hL hr
   exact fun e => h.wr_ne (hw d hd) hL hr hb hk e.symm)]
  exact h.keep b hb hk
 ·intro id M hM
  by_cases hn : id < H.length
  ·exact .inl (by rw [← hi.low id hn]; exact hM)
  ·obtain ⟨_, h1 | ⟨d, hd, L0, h3, _, h5⟩⟩ := hi.high id M (by omega) hM
   ·exact .inr (.inl h1)
   ·exact .inr (.inr ⟨d, hd, L0, h3, h5⟩)

theorem Rl.put {P : Program} {C : Cx} {B0 : Nat} {φ0 φ : Phi} {w0 w : World} {ts : List (Nat × Value)} {H : Heap} {a : Act} (hi : Inv P B0 C.n0 C.D φ0 w0 φ H w) (ht : TR φ ts a.tmps) (hN : a.tmps.size = C.N) (hd : a.defers = [])
  {d : Nat} (hdN : d < C.N) {v v' : Value} (hv : VR φ v v') : Rl P C B0 φ0 w0 ⟨(d, v) :: ts, H⟩ (a.put (some d) v') w :=
 ⟨φ, hi, ht.put (by omega) hv, by simp [Act.put, hN], hd⟩
def putT (dst : Option Tmp) (v : Value) (ts : List (Nat × Value)) : List (Nat × Value) := match dst with
 | some d => (d, v) :: ts
 | none => ts
def dstOk (N : Nat) : Option Tmp → Prop
 | some d => d < N
 | none => True
theorem Rl.putO {P : Program} {C : Cx} {B0 : Nat} {φ0 φ : Phi} {w0 w : World} {ts : List (Nat × Value)} {H : Heap} {a : Act} (hi : Inv P B0 C.n0 C.D φ0 w0 φ H w) (ht : TR φ ts a.tmps) (hN : a.tmps.size = C.N) (hd : a.defers = [])
  {dst : Option Tmp} (hdN : dstOk C.N dst) {v v' : Value} (hv : VR φ v v') : Rl P C B0 φ0 w0 ⟨putT dst v ts, H⟩ (a.put dst v') w := by
 cases dst with
 | none => exact ⟨φ, hi, ht, hN, hd⟩
 | some d => exact Rl.put hi ht hN hd hdN hv
theorem uV_VR (φ : Phi) : VR φ uV undef := .tup rfl fun i h1 => by simp at h1

/-- The machine does it, too. -/
theorem SE.sound {P : Program} {C : Cx} {o : Oper} {s : St} {k : Kd} {v : Value} {H' : Heap} {T : List Nat} (h : SE P C o s k v H' T) (hdst : dstOk C.N o.dst) {B0 : Nat} {φ0 : Phi} {w0 w : World} {a : Act} (hR : Rl P C B0 φ0 w0 s a w)
  {Q : Exit → Act → World → Prop} {K : Act → World → Prop} (hK : ∀ a' w', Rl P C B0 φ0 w0 ⟨putT o.dst v s.ts, H'⟩ a' w' → K a' w') : o.wp P a w K Q := by
 obtain ⟨φ, hi, ht, hN, hd⟩ := hR
 have hev : ∀ x u, evO s.ts x = some u → VR φ u (a.eval x) := fun x u hx => evO_VR ht hx
 unfold Oper.wp
 cases h with
 | pure h =>
  obtain ⟨v', h1, h2⟩ := pure_sound hev h
  rw [h2 w]
  exact hK _ _ (Rl.putO hi ht hN hd hdst h1)
 | load ho h hv =>
  obtain ⟨r', h1, h2⟩ := ldA_sound hi.hr (hev _ _ h) hv
  simp only [execOp, ho, Sem.run_bind, h2, Result.andThen_ok, Sem.run_pure]
  exact hK _ _ (Rl.putO hi ht hN hd hdst h1)
 | new h =>
  obtain ⟨φ', v', w', h1, h2, h3, h4⟩ := newA_sound hi hev h
  rw [h1]
  exact hK _ _ (Rl.putO h3 (ht.mono h4) hN hd hdst h2)
 | store ho h h' hs hw =>
  obtain ⟨w', h1, h2, _, _⟩ := stA_sound hi (hev _ _ h) (hev _ _ h') hs hw
  simp only [execOp, ho, Sem.run_bind, h1, Result.andThen_ok, Sem.run_pure]
  exact hK _ _ (Rl.putO h2 ht hN hd hdst (uV_VR φ))
 | @append as ts x y va vb k v H' ho ha h h' hs hw =>
  obtain rfl : as = #[x, y] := by rw [← Array.toList_inj]; simpa using ha
  obtain ⟨φ', v', w', h1, h2, h3, h4, _, _⟩ := apA_sound (ty := o.type) hi (hev _ _ h) (hev _ _ h') hs hw
  have : (execOp a.eval o).run P w = .ok (.value v') w' := by
   simp [execOp, ho, resolve, invoke, builtin, h1]
  rw [this]
  exact hK _ _ (Rl.putO h3 (ht.mono h4) hN hd hdst h2)
 | @call fx as ts f cap vs v H' Dc ho hf ha hc hw =>
  have hfx := hev _ _ hf
  generalize hef : a.eval fx = ef at hfx
  obtain ⟨cap', rfl, hcap⟩ := hfx.fn_inv
  have hvs := evL_VRs hev ha
  have hargs := hvs.append hcap
  have hok := hc.1
  unfold fnOk at hok
  cases hfn : P.funcs[f]? with
  | none => rw [hfn] at hok; cases hok
  | some fn =>
   rw [hfn] at hok
   simp only [Bool.and_eq_true, bne_iff_ne] at hok
   have hrun : (execOp a.eval o).run P w = .ok (.enter f (as.map a.eval ++ cap')) w := by
    have hb : fn.body ≠ none := by cases hbb : fn.body <;> simp_all
    simp [execOp, ho, resolve, hef, Deferred.ofValue, invoke, callFunc, run_program, hfn, hok.1, hb]
   rw [hrun]
   rw [Oper.upon_enter]
   have hcalls := Calls.of_ac hc hi hargs hw
   have harr : ((List.map a.eval as.toList) ++ cap'.toList).toArray = as.map a.eval ++ cap' := by
    apply Array.toList_inj.1; simp
   rw [harr] at hcalls
   refine hcalls.mono ?_
   rintro e w' ⟨φ', v', rfl, h2, h3, h4, _, _⟩
   exact hK _ _ (Rl.putO h3 (ht.mono h4) hN hd hdst h2)
 | look ho h h' hl =>
  obtain ⟨h1, h2⟩ := lookA_sound hi.hr (hev _ _ h) (hev _ _ h') hl
  simp only [execOp, ho, Sem.run_bind, h1, Result.andThen_ok, Sem.run_pure]
  exact hK _ _ (Rl.putO hi ht hN hd hdst h2)
 | mput ho h h' h'' hs hw =>
  obtain ⟨w', h1, h2⟩ := mputA_sound hi (hev _ _ h) (hev _ _ h') (hev _ _ h'') hs hw
  simp only [execOp, ho, Sem.run_bind, h1, Result.andThen_ok, Sem.run_pure]
  exact hK _ _ (Rl.putO h2 ht hN hd hdst (uV_VR φ))
 | conv ho h hv =>
  obtain ⟨h1, h2⟩ := cvA_sound hi.hr (hev _ _ h) hv
  simp only [execOp, ho, Sem.run_bind, h1, Result.andThen_ok, Sem.run_pure]
  exact hK _ _ (Rl.putO hi ht hN hd hdst (plainV_VR h2))
 | @mnew t ho =>
  obtain ⟨h1, h2⟩ := hi.newM t
  have hrun : (execOp a.eval o).run P w = .ok (.value (.map (some w.heap.size))) (w.alloc (.map #[] 0)) := by
   simp [execOp, ho, Instr.makeMap]
  rw [hrun]
  exact hK _ _ (Rl.putO h1 (ht.mono h2) hN hd hdst (.mp (Phi.set_same φ s.H.length ⟨w.heap.size, 0, 0, true⟩)))

/-! ### a region in the text's order -/
def wantedA (ops : Array Oper) (o : Oper) (ts : List (Nat × Value)) : Option Bool :=
 match o.guard with
 | none => some true
 | some (j, want) => match ((ops[j]?).bind (·.dst)).bind (getT ts) with
  | some (.bool b) => some (b == want)
  | some (.tuple _) => some false
  | _ => none
theorem wantedA_sound {φ : Phi} {ops : Array Oper} {o : Oper} {ts : List (Nat × Value)} {tmps : Array Value} (ht : TR φ ts tmps) {b : Bool} (h : wantedA ops o ts = some b) : Region.wanted o (yielded ops tmps) = b := by
 unfold wantedA at h
 unfold Region.wanted
 split at h
 ·rename_i hg; rw [hg]; cases h; rfl
 ·rename_i j want hg
  rw [hg]
  simp only
  unfold yielded
  cases hd : (ops[j]?).bind (·.dst) with
  | none => rw [hd] at h; simp at h
  | some t =>
   rw [hd] at h
   simp only [Option.bind_some] at h ⊢
   split at h
   ·rename_i b' hb
    cases h
    obtain ⟨v', h1, h2⟩ := ht t _ hb
    cases h2
    rw [h1]
    cases b' <;> cases want <;> rfl
   ·rename_i cs hb
    cases h
    obtain ⟨v', h1, h2⟩ := ht t _ hb
    obtain ⟨ds, rfl, _⟩ := h2.tup_inv
    rw [h1]; rfl
   ·cases h

/-- The operations, one behind the other. -/
inductive OpsEv (P : Program) (C : Cx) (ops : Array Oper) : List Oper → St → St → Prop
 | nil (s) : OpsEv P C ops [] s s
 | go {o l s s' k v H' T} (hw : wantedA ops o s.ts = some true) (hd : dstOk C.N o.dst) (h : SE P C o s k v H' T) (r : OpsEv P C ops l ⟨putT o.dst v s.ts, H'⟩ s') : OpsEv P C ops (o :: l) s s'
 | skip {o l s s'} (hw : wantedA ops o s.ts = some false) (hd : dstOk C.N o.dst) (r : OpsEv P C ops l ⟨putT o.dst uV s.ts, s.H⟩ s') : OpsEv P C ops (o :: l) s s'
theorem OpsEv.sound {P : Program} {C : Cx} {ops : Array Oper} {l : List Oper} {s s' : St} (h : OpsEv P C ops l s s') {B0 : Nat} {φ0 : Phi} {w0 : World} {Q : Exit → Act → World → Prop}
  (hQ : ∀ a' w', Rl P C B0 φ0 w0 s' a' w' → Q .normal a' w') : ∀ {a : Act} {w : World}, Rl P C B0 φ0 w0 s a w → wpList P ops Q l a w := by
 induction h with
 | nil s => intro a w hR; exact hQ _ _ hR
 | @go o l s s' k v H' T hw hd h r ih =>
  intro a w hR
  unfold wpList
  have hw' : Region.wanted o (yielded ops a.tmps) = true := by obtain ⟨φ, _, ht, _⟩ := hR; exact wantedA_sound ht hw
  rw [if_pos hw']
  exact .inl (h.sound hd hR fun a' w' hR' => ih hQ hR')
 | @skip o l s s' hw hd r ih =>
  intro a w hR
  unfold wpList
  have hw' : Region.wanted o (yielded ops a.tmps) = false := by obtain ⟨φ, _, ht, _⟩ := hR; exact wantedA_sound ht hw
  rw [if_neg (by simp [hw'])]
  obtain ⟨φ, hi, ht, hN, hdd⟩ := hR
  exact ih hQ (Rl.putO hi ht hN hdd hd (uV_VR φ))

def fnV : Value → Option (FuncId × List Value)
 | .func (.func f) first cap => if first.size = 0 then some (f, cap.toList) else none
 | _ => none
theorem fnV_eq {v : Value} {r : FuncId × List Value} (h : fnV v = some r) : ∃ cap : Array Value, v = .func (.func r.1) #[] cap ∧ cap.toList = r.2 := by
 unfold fnV at h
 split at h
 ·rename_i f first cap
  split at h
  ·rename_i h0
   cases h
   have : first = #[] := Array.eq_empty_of_size_eq_zero h0
   exact ⟨cap, by rw [this], rfl⟩
  ·cases h
 ·cases h
def wrL (n0 : Nat) (D Dc : List Nat) : Prop := ∀ d, d ∈ Dc → wr n0 D d
theorem wrL_nil (n0 : Nat) (D : List Nat) : wrL n0 D [] := fun d h => by simp at h
theorem wrL_cons (n0 : Nat) (D : List Nat) (d : Nat) (l : List Nat) : wrL n0 D (d :: l) ↔ wr n0 D d ∧ wrL n0 D l := by simp [wrL]
def wrO (n0 : Nat) (D : List Nat) (k : Option Nat) : Prop := ∀ id, k = some id → wr n0 D id
theorem wrO_none (n0 : Nat) (D : List Nat) : wrO n0 D none := fun d h => by simp at h
theorem wrO_some (n0 : Nat) (D : List Nat) (d : Nat) : wrO n0 D (some d) ↔ wr n0 D d := by simp [wrO]
def liveO (H : Heap) (k : Option Nat) : Prop := ∀ id, k = some id → H.live id = true
theorem liveO_none (H : Heap) : liveO H none := fun d h => by simp at h
theorem liveO_some (H : Heap) (d : Nat) : liveO H (some d) ↔ H.live d = true := by simp [liveO]
def liveL (H : Heap) (Dc : List Nat) : Prop := ∀ d, d ∈ Dc → H.live d = true
theorem liveL_nil (H : Heap) : liveL H [] := fun d h => by simp at h
theorem liveL_cons (H : Heap) (d : Nat) (l : List Nat) : liveL H (d :: l) ↔ H.live d = true ∧ liveL H l := by simp [liveL]
/-- A call's contract is asked for; what follows is k. -/
def Ask (P : Program) (f : FuncId) (args : List Value) (H : Heap) (k : Value → Heap → List Nat → Prop) : Prop := ∃ v H' Dc, AC P f args H v H' Dc ∧ k v H' Dc
@[congr] theorem Ask.cong {P : Program} {f f' : FuncId} {args args' : List Value} {H H' : Heap} {k : Value → Heap → List Nat → Prop} (h1 : ∀ _ : Unit, f = f') (h2 : ∀ _ : Unit, args = args') (h3 : ∀ _ : Unit, H = H') : Ask P f args H k = Ask P f' args' H' k := by rw [h1 (), h2 (), h3 ()]
theorem Ask.go {P : Program} {f : FuncId} {args : List Value} {H H' : Heap} {v : Value} {Dc : List Nat} {k : Value → Heap → List Nat → Prop} (h : AC P f args H v H' Dc) (hk : k v H' Dc) : Ask P f args H k := ⟨v, H', Dc, h, hk⟩
/-! ### statements -/
inductive Ex where
 | normal
 | exit (id : Nat)
 | ret
def Ex.to : Ex → Exit
 | .normal => .normal
 | .exit id => .exit id
 | .ret => .ret
def AEv (P : Program) (C : Cx) (c : Code) (s : St) (e : Ex) (s' : St) : Prop :=
 ∀ B0 φ0 w0 a w, Rl P C B0 φ0 w0 s a w → c.wp P (fun e' a' w' => e' = e.to ∧ Rl P C B0 φ0 w0 s' a' w') a w
def AW (P : Program) (C : Cx) (c : Code) (Q : Ex → St → Prop) (s : St) : Prop := ∃ e s', AEv P C c s e s' ∧ Q e s'
def thenA (next : St → Prop) (Q : Ex → St → Prop) : Ex → St → Prop
 | .normal, s => next s
 | e, s => Q e s
def blockA (id : Nat) (Q : Ex → St → Prop) : Ex → St → Prop
 | .exit id', s => if id' = id then Q .normal s else Q (.exit id') s
 | e, s => Q e s

section
variable {P : Program} {C : Cx} {Q : Ex → St → Prop} {s : St}
theorem AW.mono {c : Code} {Q' : Ex → St → Prop} (h : AW P C c Q s) (hq : ∀ e s, Q e s → Q' e s) : AW P C c Q' s :=
 let ⟨e, s', h1, h2⟩ := h; ⟨e, s', h1, hq _ _ h2⟩
theorem aw_skip (h : Q .normal s) : AW P C .skip Q s := ⟨.normal, s, fun B0 φ0 w0 a w hR => wp_skip ⟨rfl, hR⟩, h⟩
theorem aw_exit {id : Nat} (h : Q (.exit id) s) : AW P C (.exit id) Q s := ⟨.exit id, s, fun B0 φ0 w0 a w hR => wp_exit ⟨rfl, hR⟩, h⟩
theorem aw_ret (h : Q .ret s) : AW P C .ret Q s := ⟨.ret, s, fun B0 φ0 w0 a w hR => wp_ret ⟨rfl, hR⟩, h⟩
theorem aw_seq {x y : Code} (h : AW P C x (thenA (AW P C y Q) Q) s) : AW P C (.seq x y) Q s := by
 obtain ⟨e1, s1, h1, h2⟩ := h
 cases e1 with
 | normal =>
  obtain ⟨e2, s2, h3, h4⟩ := h2
  refine ⟨e2, s2, fun B0 φ0 w0 a w hR => wp_seq (wp_mono (h1 B0 φ0 w0 a w hR) ?_), h4⟩
  rintro e a' w' ⟨rfl, hR'⟩
  exact h3 B0 φ0 w0 a' w' hR'
 | exit id =>
  refine ⟨.exit id, s1, fun B0 φ0 w0 a w hR => wp_seq (wp_mono (h1 B0 φ0 w0 a w hR) ?_), h2⟩
  rintro e a' w' ⟨rfl, hR'⟩
  exact ⟨rfl, hR'⟩
 | ret =>
  refine ⟨.ret, s1, fun B0 φ0 w0 a w hR => wp_seq (wp_mono (h1 B0 φ0 w0 a w hR) ?_), h2⟩
  rintro e a' w' ⟨rfl, hR'⟩
  exact ⟨rfl, hR'⟩
theorem aw_cond {c : Operand} {x y : Code} {t : Bool} (hc : evO s.ts c = some (.bool t)) (h : AW P C (if t then x else y) Q s) : AW P C (.cond c x y) Q s := by
 obtain ⟨e, s', h1, h2⟩ := h
 refine ⟨e, s', fun B0 φ0 w0 a w hR => wp_cond (t := t) ?_ (h1 B0 φ0 w0 a w hR), h2⟩
 obtain ⟨φ, _, ht, _⟩ := hR
 have := evO_VR ht hc
 generalize a.eval c = v at this
 cases this; rfl
theorem aw_block {id : Nat} {c : Code} (h : AW P C c (blockA id Q) s) : AW P C (.block id c) Q s := by
 obtain ⟨e, s', h1, h2⟩ := h
 cases e with
 | normal =>
  refine ⟨.normal, s', fun B0 φ0 w0 a w hR => wp_block (wp_mono (h1 B0 φ0 w0 a w hR) ?_), h2⟩
  rintro e a' w' ⟨rfl, hR'⟩
  exact ⟨rfl, hR'⟩
 | ret =>
  refine ⟨.ret, s', fun B0 φ0 w0 a w hR => wp_block (wp_mono (h1 B0 φ0 w0 a w hR) ?_), h2⟩
  rintro e a' w' ⟨rfl, hR'⟩
  exact ⟨rfl, hR'⟩
 | exit id' =>
  simp only [blockA] at h2
  by_cases hid : id' = id
  ·rw [if_pos hid] at h2
   refine ⟨.normal, s', fun B0 φ0 w0 a w hR => wp_block (wp_mono (h1 B0 φ0 w0 a w hR) ?_), h2⟩
   rintro e a' w' ⟨rfl, hR'⟩
   simpa [Ex.to, Exit.inBlock, hid] using hR'
  ·rw [if_neg hid] at h2
   refine ⟨.exit id', s', fun B0 φ0 w0 a w hR => wp_block (wp_mono (h1 B0 φ0 w0 a w hR) ?_), h2⟩
   rintro e a' w' ⟨rfl, hR'⟩
   simpa [Ex.to, Exit.inBlock, hid] using hR'
/-- The rounds of a loop. -/
inductive Rounds (P : Program) (C : Cx) (c : Code) : Nat → St → Ex → St → Prop
 | last {s e s'} (h : AEv P C c s e s') (he : e ≠ .normal) : Rounds P C c 0 s e s'
 | more {n s s1 e s'} (h : AEv P C c s .normal s1) (r : Rounds P C c n s1 e s') : Rounds P C c (n + 1) s e s'
theorem Rounds.ev {c : Code} {n : Nat} {e : Ex} {s' : St} (h : Rounds P C c n s e s') : AEv P C (.loop c) s e s' := by
 intro B0 φ0 w0 a w hR
 refine wp_loop_ghost (fun n a w => ∃ s, Rounds P C c n s e s' ∧ Rl P C B0 φ0 w0 s a w) n ⟨s, h, hR⟩ ?_
 rintro m a w ⟨s, hr, hR⟩
 cases hr with
 | last h he =>
  refine wp_mono (h B0 φ0 w0 a w hR) ?_
  rintro e' a' w' ⟨rfl, hR'⟩
  cases e with
  | normal => exact absurd rfl he
  | exit id => exact ⟨rfl, hR'⟩
  | ret => exact ⟨rfl, hR'⟩
 | more h r =>
  refine wp_mono (h B0 φ0 w0 a w hR) ?_
  rintro e' a' w' ⟨rfl, hR'⟩
  exact ⟨_, Nat.lt_succ_self _, _, r, hR'⟩
/-- A loop: an invariant with a number that every round lowers. -/
theorem aw_loop {c : Code} (I : Nat → St → Prop) (n : Nat) (h0 : I n s) (hI : ∀ n s, I n s → AW P C c (thenA (fun s' => ∃ m, m < n ∧ I m s') (fun e s' => e ≠ .normal → Q e s')) s) : AW P C (.loop c) Q s := by
 induction n using Nat.strongRecOn generalizing s with
 | _ n ih =>
  obtain ⟨e, s1, h1, h2⟩ := hI n s h0
  have key : ∀ {n s}, I n s → ∃ m e s', Rounds P C c m s e s' ∧ Q e s' := by
   intro n
   induction n using Nat.strongRecOn with
   | _ n ih =>
    intro s h0
    obtain ⟨e, s1, h1, h2⟩ := hI n s h0
    cases e with
    | normal =>
     obtain ⟨m, hm, hm'⟩ := h2
     obtain ⟨k, e, s', hr, hq⟩ := ih m hm hm'
     exact ⟨k + 1, e, s', .more h1 hr, hq⟩
    | exit id => exact ⟨0, _, s1, .last h1 (by simp), h2 (by simp)⟩
    | ret => exact ⟨0, _, s1, .last h1 (by simp), h2 (by simp)⟩
  obtain ⟨m, e, s', hr, hq⟩ := key h0
  exact ⟨e, s', hr.ev, hq⟩
/-- What is not asked for any more may be left out. -/
theorem AW.sub {c : Code} {ts : List (Nat × Value)} (h : AW P C c Q ⟨ts, s.H⟩) (hs : ∀ t v, getT ts t = some v → getT s.ts t = some v) : AW P C c Q s := by
 obtain ⟨e, s', h1, h2⟩ := h
 refine ⟨e, s', fun B0 φ0 w0 a w hR => h1 B0 φ0 w0 a w ?_, h2⟩
 obtain ⟨φ, hi, ht, hN, hd⟩ := hR
 exact ⟨φ, hi, ht.sub hs, hN, hd⟩
end

/-! ### what is still to do, as a list -/
inductive It where
 | c (x : Code)
 | blk (id : Nat)
 | inv (I : St → Prop)
def post (P : Program) (C : Cx) (R : St → Prop) : List It → Ex → St → Prop
 | [] => fun e s => (e = .normal ∨ e = .ret) ∧ R s
 | .c y :: k => thenA (AW P C y (post P C R k)) (post P C R k)
 | .blk id :: k => blockA id (post P C R k)
 | .inv I :: k => thenA I (fun e s => e ≠ .normal → post P C R k e s)
def AK (P : Program) (C : Cx) (R : St → Prop) (k : List It) (s : St) : Prop := post P C R k .normal s
def unw (id : Nat) : List It → List It
 | [] => []
 | .c _ :: k => unw id k
 | .blk id' :: k => if id = id' then k else unw id k
 | .inv _ :: k => unw id k
/-- An exit finds its block. -/
def has (id : Nat) : List It → Bool
 | [] => false
 | .c _ :: k => has id k
 | .blk id' :: k => id == id' || has id k
 | .inv _ :: k => has id k
theorem post_exit {P : Program} {C : Cx} {R : St → Prop} {id : Nat} {s : St} : ∀ {k : List It}, has id k = true → AK P C R (unw id k) s → post P C R k (.exit id) s
 | [], h, _ => by cases h
 | .c y :: k, h, hk => post_exit (k := k) h hk
 | .inv I :: k, h, hk => fun _ => post_exit (k := k) h hk
 | .blk id' :: k, h, hk => by
  by_cases e : id = id'
  ·subst e
   simp only [unw, if_true] at hk
   show (if id = id then _ else _)
   rw [if_pos rfl]; exact hk
  ·simp only [unw, e, if_false] at hk
   show (if id = id' then _ else _)
   rw [if_neg e]
   refine post_exit ?_ hk
   simpa [has, e] using h
theorem post_ret {P : Program} {C : Cx} {R : St → Prop} {s : St} (h : R s) : ∀ (k : List It), post P C R k .ret s
 | [] => ⟨.inr rfl, h⟩
 | .c _ :: k => post_ret h k
 | .inv _ :: k => fun _ => post_ret h k
 | .blk _ :: k => post_ret h k
section
variable {P : Program} {C : Cx} {R : St → Prop} {k : List It} {s : St}
theorem ak_nil (h : R s) : AK P C R [] s := ⟨.inl rfl, h⟩
theorem ak_seq {x y : Code} (h : AK P C R (.c x :: .c y :: k) s) : AK P C R (.c (.seq x y) :: k) s := aw_seq h
theorem ak_skip (h : AK P C R k s) : AK P C R (.c .skip :: k) s := aw_skip h
theorem ak_block {id : Nat} {x : Code} (h : AK P C R (.c x :: .blk id :: k) s) : AK P C R (.c (.block id x) :: k) s := aw_block h
theorem ak_blk {id : Nat} (h : AK P C R k s) : AK P C R (.blk id :: k) s := h
theorem ak_inv {I : St → Prop} (h : I s) : AK P C R (.inv I :: k) s := h
theorem ak_exit {id : Nat} (hh : has id k = true) (h : AK P C R (unw id k) s) : AK P C R (.c (.exit id) :: k) s := aw_exit (post_exit hh h)
theorem ak_ret (h : R s) : AK P C R (.c .ret :: k) s := aw_ret (post_ret h k)
theorem ak_cond_t {c : Operand} {x y : Code} (hc : evO s.ts c = some (.bool true)) (h : AK P C R (.c x :: k) s) : AK P C R (.c (.cond c x y) :: k) s := aw_cond hc h
theorem ak_cond_f {c : Operand} {x y : Code} (hc : evO s.ts c = some (.bool false)) (h : AK P C R (.c y :: k) s) : AK P C R (.c (.cond c x y) :: k) s := aw_cond hc h
theorem ak_sub {ts ts' : List (Nat × Value)} {H : Heap} {x : Code} (hs : ∀ t v, getT ts' t = some v → getT ts t = some v) (h : AK P C R (.c x :: k) ⟨ts', H⟩) : AK P C R (.c x :: k) ⟨ts, H⟩ := AW.sub (s := ⟨ts, H⟩) h hs
theorem ak_loop {x : Code} (I : Nat → St → Prop) (n : Nat) (h0 : I n s) (hI : ∀ n s, I n s → AK P C R (.c x :: .inv (fun s' => ∃ m, m < n ∧ I m s') :: k) s) : AK P C R (.c (.loop x) :: k) s := aw_loop I n h0 hI
end

/-! ### a function's end, and its contract out of its body -/
def resOne (P : Program) (s : St) : ResultVar → Option Value
 | .tmp t => getT s.ts t
 | .cell a t => match getT s.ts a with
  | some p => ldA P s.H t p
  | none => none
def resL (P : Program) (s : St) : List ResultVar → Option (List Value)
 | [] => some []
 | r :: rs => match resOne P s r, resL P s rs with
  | some v, some l => some (v :: l)
  | _, _ => none
def resA (P : Program) (s : St) (rs : List ResultVar) : Option Value := match resL P s rs with
 | some [v] => some v
 | some l => some (.tuple l.toArray)
 | none => none
def resS (tmps : Array Value) : ResultVar → Sem Value
 | .tmp t => pure (tmps.getD t undef)
 | .cell a t => do loadVar t (← asAddr (tmps.getD a undef))
theorem resOne_sound {P : Program} {B0 : Nat} {φ : Phi} {H : Heap} {ts : List (Nat × Value)} {w : World} {tmps : Array Value} (h : HR P B0 φ H w) (ht : TR φ ts tmps) {r : ResultVar} {v : Value} (hr : resOne P ⟨ts, H⟩ r = some v) :
  ∃ v', VR φ v v' ∧ (resS tmps r).run P w = .ok v' w := by
 cases r with
 | tmp t =>
  obtain ⟨v', h1, h2⟩ := ht t v hr
  exact ⟨v', h2, by simp [resS, h1]⟩
 | cell a t =>
  simp only [resOne] at hr
  split at hr
  ·rename_i p hp
   obtain ⟨p', h1, h2⟩ := ht a p hp
   obtain ⟨r', h3, h4⟩ := ldA_sound h h2 hr
   refine ⟨r', h3, ?_⟩
   unfold ldA at hr
   split at hr
   ·cases h2
    simp only [Instr.loadAt, Instr.sureAddr, Sem.run_bind, Sem.run_pure, Result.andThen_ok] at h4
    simp [resS, h1, asAddr, h4]
   ·cases hr
  ·cases hr
theorem resA_sound {P : Program} {B0 : Nat} {φ : Phi} {H : Heap} {ts : List (Nat × Value)} {w : World} {tmps : Array Value} (h : HR P B0 φ H w) (ht : TR φ ts tmps) {fn : Func} {v : Value} (hr : resA P ⟨ts, H⟩ fn.results.toList = some v) :
  ∃ v', VR φ v v' ∧ (results fn tmps).run P w = .ok v' w := by
 have key : ∀ (rs : List ResultVar) (l : List Value), resL P ⟨ts, H⟩ rs = some l → ∃ l', VRs φ l l' ∧ (rs.mapM (resS tmps)).run P w = .ok l' w := by
  intro rs
  induction rs with
  | nil => intro l hl; cases hl; exact ⟨[], .nil _, rfl⟩
  | cons r rs ih =>
   intro l hl
   simp only [resL] at hl
   split at hl
   ·rename_i v1 l1 h1 h2
    cases hl
    obtain ⟨v', a1, a2⟩ := resOne_sound h ht h1
    obtain ⟨l', b1, b2⟩ := ih l1 h2
    refine ⟨v' :: l', .cons a1 b1, ?_⟩
    rw [List.mapM_cons]
    simp only [Sem.run_bind, a2, b2, Result.andThen_ok, Sem.run_pure]
   ·cases hl
 unfold resA at hr
 cases hl : resL P ⟨ts, H⟩ fn.results.toList with
 | none => rw [hl] at hr; cases hr
 | some l =>
  rw [hl] at hr
  obtain ⟨l', h1, h2⟩ := key _ _ hl
  have hrun : (results fn tmps).run P w = .ok (if h : l'.toArray.size = 1 then l'.toArray[0] else .tuple l'.toArray) w := by
   have e1 : results fn tmps = (do let vs ← fn.results.mapM (resS tmps); pure (if h : vs.size = 1 then vs[0] else .tuple vs)) := by
    unfold results
    congr 1
   rw [e1, Array.mapM_eq_mapM_toList]
   simp only [Sem.run_bind, Sem.run_map, h2, Result.andThen_ok, Sem.run_pure]
  rw [hrun]
  match l, hr, h1 with
  | [], hr, h1 =>
   rw [h1.inv_nil]
   cases hr
   exact ⟨_, .tup rfl fun i h => by simp at h, rfl⟩
  | [v1], hr, h1 =>
   obtain ⟨y, ys, rfl, a1, a2⟩ := h1.inv
   rw [a2.inv_nil]
   cases hr
   exact ⟨y, a1, rfl⟩
  | v1 :: v2 :: l, hr, h1 =>
   have hlen := h1.1
   cases hr
   have hne : ¬ (l'.toArray.size = 1) := by simp at hlen ⊢; omega
   rw [dif_neg hne]
   exact ⟨_, VR.tup_of h1, rfl⟩

/-- Ids of this value are below n. -/
def Clo (n : Nat) (x : Value) : Prop := ∀ (φ φ' : Phi) (y : Value), φ.le φ' → (∀ i, i < n → φ' i = φ i) → VR φ' x y → VR φ x y
theorem Clo.plain {n : Nat} {x : Value} (h : plainV x = true) : Clo n x := fun φ φ' y hle _ hv => by
 have := (plainV_VR (φ := φ) h)
 exact hv.back hle this
theorem Clo.pt {n id o : Nat} (h : id < n) : Clo n (pt id o) := fun φ φ' y hle hn hv => by
 cases hv with | ptr hL => exact .ptr (by rw [← hn id h]; exact hL)
theorem Clo.sl {n id o m : Nat} (h : id < n) : Clo n (sl id o m) := fun φ φ' y hle hn hv => by
 cases hv with
 | slc hL h1 h2 => exact .slc (by rw [← hn id h]; exact hL) h1 h2
 | sl0 hL h1 => exact .sl0 (by rw [← hn id h]; exact hL) h1
theorem Clo.agg {n : Nat} {cs : Array Value} (h : ∀ x, x ∈ cs.toList → Clo n x) : Clo n (.agg cs) := fun φ φ' y hle hn hv => by
 obtain ⟨ds, rfl, hds⟩ := hv.agg_inv
 have : VRs φ cs.toList ds.toList := ⟨hds.1, fun i u v hu hv => h u (List.mem_of_getElem? hu) φ φ' v hle hn (hds.2 i u v hu hv)⟩
 simpa using VR.agg_of this
theorem Clo.tup {n : Nat} {cs : Array Value} (h : ∀ x, x ∈ cs.toList → Clo n x) : Clo n (.tuple cs) := fun φ φ' y hle hn hv => by
 obtain ⟨ds, rfl, hds⟩ := hv.tup_inv
 have : VRs φ cs.toList ds.toList := ⟨hds.1, fun i u v hu hv => h u (List.mem_of_getElem? hu) φ φ' v hle hn (hds.2 i u v hu hv)⟩
 simpa using VR.tup_of this
def Phi.cut (φ : Phi) (n : Nat) : Phi := fun i => if i < n then φ i else none
theorem Phi.cut_le (φ : Phi) (n : Nat) : (φ.cut n).le φ := fun id L h => by
 unfold Phi.cut at h; split at h
 ·exact h
 ·cases h
theorem Phi.cut_lt (φ : Phi) {n i : Nat} (h : i < n) : φ.cut n i = φ i := by simp [Phi.cut, h]
/-- What was made on the way, and is named by nothing any more, is let go. -/
theorem Inv.cut {P : Program} {B0 n0 : Nat} {D : List Nat} {φ0 φ : Phi} {w0 w : World} {H J H0 : Heap} (h : Inv P B0 n0 D φ0 w0 φ (H ++ J) w) (h0 : HR P B0 φ0 H0 w0) (hn : n0 ≤ H.length)
  (hc : ∀ id j x, Heap.cell H id j = some x → (id < n0 ∧ Heap.cell H0 id j = some x) ∨ Clo H.length x) : Inv P B0 n0 D φ0 w0 (φ.cut H.length) H w := by
 have hget : ∀ id, id < H.length → (H ++ J)[id]? = H[id]? := fun id hi => by rw [List.getElem?_append_left hi]
 have hlt : ∀ {id L}, φ.cut H.length id = some L → id < H.length ∧ φ id = some L := fun {id L} hL => by
  unfold Phi.cut at hL; split at hL
  ·rename_i hh; exact ⟨hh, hL⟩
  ·cases hL
 have hlive : ∀ id, id < H.length → Heap.hot (H ++ J) id = Heap.hot H id := fun id hi => by unfold Heap.hot; rw [hget id hi]
 refine ⟨⟨?_, ?_, ?_, ?_, ?_, ?_, ?_, ?_⟩, h.b0, h.gl, hn, h.dom0, ?_, ?_, h.os, h.tape, h.output, h.size, h.keep⟩
 ·intro id L hL; exact (hlt hL).1
 ·intro id L hL; exact h.hr.ro id L (hlt hL).2
 ·intro id L hL; exact h.hr.lt id L (hlt hL).2
 ·intro id L j x hL hx
  obtain ⟨hi, hL'⟩ := hlt hL
  obtain ⟨y, hy, hcl⟩ := h.hr.cell id L j x hL' (by unfold Heap.cell at hx ⊢; rw [hget id hi]; exact hx)
  refine ⟨y, ?_, hcl⟩
  rcases hc id j x hx with ⟨hid, hx0⟩ | hclo
  ·have e1 := h.low id hid
   rw [hL'] at e1
   obtain ⟨y0, hy0, _⟩ := h0.cell id L j x e1.symm hx0
   have hle : φ0.le (φ.cut H.length) := fun i M hM => by
    have hin := h.dom0 i M hM
    rw [Phi.cut_lt φ (show i < H.length by omega), h.low i hin]; exact hM
   exact hy.back (Phi.cut_le φ _) (hy0.mono hle)
  ·exact hclo _ _ y (Phi.cut_le φ _) (fun i hi => (Phi.cut_lt φ hi).symm) hy
 ·intro id L b hL hr hb hl
  obtain ⟨hi, hL'⟩ := hlt hL
  exact h.hr.row id L b hL' hr (by rw [hget id hi]; exact hb) hl
 ·intro id L b hL hb hr
  obtain ⟨hi, hL'⟩ := hlt hL
  exact h.hr.flag id L b hL' (by rw [hget id hi]; exact hb) hr
 ·intro id id' L L' hL hL' hr hr' hbe hl hl'
  obtain ⟨hi, hL1⟩ := hlt hL
  obtain ⟨hi', hL2⟩ := hlt hL'
  exact h.hr.inj id id' L L' hL1 hL2 hr hr' hbe (by rw [hlive id hi]; exact hl) (by rw [hlive id' hi']; exact hl')
 ·intro id L b hL hb hl hr
  obtain ⟨hi, hL'⟩ := hlt hL
  exact h.hr.mp id L b hL' (by rw [hget id hi]; exact hb) hl hr
 ·intro id hid
  rw [Phi.cut_lt φ (show id < H.length by omega)]
  exact h.low id hid
 ·intro id L hid hL
  exact h.high id L hid (hlt hL).2

def enumT : Nat → List Value → List (Nat × Value)
 | _, [] => []
 | i, v :: r => (i, v) :: enumT (i + 1) r
theorem enumT_get : ∀ (l : List Value) (i t : Nat) (v : Value), getT (enumT i l) t = some v → i ≤ t ∧ l[t - i]? = some v
 | [], i, t, v, h => by simp [enumT, getT] at h
 | x :: l, i, t, v, h => by
  simp only [enumT, getT] at h
  split at h
  ·rename_i e; subst e; cases h; simp
  ·rename_i e
   obtain ⟨h1, h2⟩ := enumT_get l (i + 1) t v h
   refine ⟨by omega, ?_⟩
   have : t - i = (t - (i + 1)) + 1 := by omega
   rw [this]; simpa using h2
/-- What is asked at a body's end. -/
def endR (P : Program) (rs : List ResultVar) (R : Value → Heap → Prop) (s : St) : Prop := match resA P s rs with
 | some v => R v s.H
 | none => False
theorem endR_some {P : Program} {rs : List ResultVar} {R : Value → Heap → Prop} {s : St} (h : endR P rs R s) : ∃ v, resA P s rs = some v ∧ R v s.H := by
 unfold endR at h
 split at h
 ·rename_i v hv; exact ⟨v, hv, h⟩
 ·exact h.elim
theorem endR_mono {P : Program} {rs : List ResultVar} {R R' : Value → Heap → Prop} (hR : ∀ v H, R v H → R' v H) {s : St} (h : endR P rs R s) : endR P rs R' s := by
 unfold endR at h ⊢
 split at h
 ·exact hR _ _ h
 ·exact h
theorem post_mono {P : Program} {C : Cx} {R R' : St → Prop} (hR : ∀ s, R s → R' s) : ∀ {k : List It} {e : Ex} {s : St}, post P C R k e s → post P C R' k e s
 | [], e, s, h => ⟨h.1, hR s h.2⟩
 | .c y :: k, .normal, s, h => AW.mono h fun e s h => post_mono hR h
 | .c y :: k, .exit id, s, h => post_mono (k := k) hR h
 | .c y :: k, .ret, s, h => post_mono (k := k) hR h
 | .blk id :: k, .normal, s, h => post_mono (k := k) hR h
 | .blk id :: k, .ret, s, h => post_mono (k := k) hR h
 | .blk id :: k, .exit id', s, h => by
  unfold post blockA at h ⊢
  simp only at h ⊢
  split at h
  ·rename_i e; rw [if_pos e]; exact post_mono (k := k) hR h
  ·rename_i e; rw [if_neg e]; exact post_mono (k := k) hR h
 | .inv I :: k, .normal, s, h => h
 | .inv I :: k, .exit id, s, h => fun hne => post_mono (k := k) hR (h hne)
 | .inv I :: k, .ret, s, h => fun hne => post_mono (k := k) hR (h hne)
theorem AC.of_body {P : Program} {f : FuncId} {fn : Func} {c : Code} {N : Nat} {rs : List ResultVar} {args : List Value} {H : Heap} {D : List Nat} {R : Value → Heap → Prop} (hf : P.funcs[f]? = some fn) (hb : fn.body = some c) (hok : fnOk P f = true) (hNe : fn.ntmps = N) (hrs : fn.results.toList = rs) (hN : args.length ≤ N)
  (h : AK P ⟨N, H.length, D⟩ (endR P rs fun v Hn => ∃ H' J, Hn = H' ++ J ∧ H.length ≤ H'.length ∧ (∀ id j x, Heap.cell H' id j = some x → (id < H.length ∧ Heap.cell H id j = some x) ∨ Clo H'.length x) ∧ Clo H'.length v ∧ R v H') [.c c] ⟨enumT 0 args, H⟩) :
  ∃ v H', AC P f args H v H' D ∧ R v H' := by
 subst hNe
 subst hrs
 obtain ⟨e, s', h1, he, hend⟩ := h
 obtain ⟨v, hv, H', J, hJ, hlen, hcl, hvc, hR⟩ := endR_some hend
 refine ⟨v, H', ⟨hok, fun B0 φ w args' hr hB hG ha => ?_⟩, hR⟩
 refine calls_of_wp hf hb (wp_mono (h1 B0 φ w _ w ⟨φ, Inv.init hr hB hG, ?_, ?_, rfl⟩) ?_)
 ·intro t u hu
  obtain ⟨_, h2⟩ := enumT_get args 0 t u hu
  have hlt : t < args.length := by
   have := (List.getElem?_eq_some_iff.1 h2).1; omega
  have hlt' : t < args'.length := by rw [← ha.1]; exact hlt
  refine ⟨args'[t], ?_, ha.2 t u _ (by simpa using h2) (by simp [hlt'])⟩
  rw [Array.getElem?_append_left (by simpa using hlt')]
  simp [hlt']
 ·have := ha.1; simp; omega
 ·rintro e' a' w' ⟨rfl, φ', hi, ht, hN', hd⟩
  have hi' : Inv P B0 H.length D φ w φ' (H' ++ J) w' := by rw [← hJ]; exact hi
  obtain ⟨v', h2, h3⟩ := resA_sound (fn := fn) hi.hr ht (by cases s'; exact hv)
  have hcut := hi'.cut hr hlen hcl
  have hv2 : VR (φ'.cut H'.length) v v' := hvc _ _ v' (Phi.cut_le _ _) (fun i hi => (Phi.cut_lt φ' hi).symm) h2
  have hpost : bodyPost P fn (fun e w' => ∃ φ' v', e = .returned v' ∧ VR φ' v v' ∧ Inv P B0 H.length D φ w φ' H' w') .normal a' w' := ⟨hd, v', h3, _, v', rfl, hv2, hcut⟩
  rcases he with rfl | rfl
  ·exact hpost
  ·exact hpost

/-- A body's contract, with all that it left. -/
theorem AC.of_body0 {P : Program} {f : FuncId} {fn : Func} {c : Code} {N : Nat} {rs : List ResultVar} {args : List Value} {H : Heap} {D : List Nat} {R : Value → Heap → Prop} (hf : P.funcs[f]? = some fn) (hb : fn.body = some c) (hok : fnOk P f = true) (hNe : fn.ntmps = N) (hrs : fn.results.toList = rs) (hN : args.length ≤ N)
  (h : AK P ⟨N, H.length, D⟩ (endR P rs R) [.c c] ⟨enumT 0 args, H⟩) : ∃ v H', AC P f args H v H' D ∧ R v H' := by
 subst hNe
 subst hrs
 obtain ⟨e, s', h1, he, hend⟩ := h
 obtain ⟨v, hv, hR⟩ := endR_some hend
 refine ⟨v, s'.H, ⟨hok, fun B0 φ w args' hr hB hG ha => ?_⟩, hR⟩
 refine calls_of_wp hf hb (wp_mono (h1 B0 φ w _ w ⟨φ, Inv.init hr hB hG, ?_, ?_, rfl⟩) ?_)
 ·intro t u hu
  obtain ⟨_, h2⟩ := enumT_get args 0 t u hu
  have hlt : t < args.length := by
   have := (List.getElem?_eq_some_iff.1 h2).1; omega
  have hlt' : t < args'.length := by rw [← ha.1]; exact hlt
  refine ⟨args'[t], ?_, ha.2 t u _ (by simpa using h2) (by simp [hlt'])⟩
  rw [Array.getElem?_append_left (by simpa using hlt')]
  simp [hlt']
 ·have := ha.1; simp; omega
 ·rintro e' a' w' ⟨rfl, φ', hi, ht, hN', hd⟩
  obtain ⟨v', h2, h3⟩ := resA_sound (fn := fn) hi.hr ht (by cases s'; exact hv)
  have hpost : bodyPost P fn (fun e w' => ∃ φ' v', e = .returned v' ∧ VR φ' v v' ∧ Inv P B0 H.length D φ w φ' s'.H w') .normal a' w' := ⟨hd, v', h3, _, v', rfl, h2, hi⟩
  rcases he with rfl | rfl
  ·exact hpost
  ·exact hpost

/-- A body that leaves a plain value, and of the heap nothing but what it let go. -/
theorem AC.of_pure {P : Program} {f : FuncId} {fn : Func} {c : Code} {N : Nat} {rs : List ResultVar} {args : List Value} {H : Heap} {r : Value} (hf : P.funcs[f]? = some fn) (hb : fn.body = some c) (hok : fnOk P f = true) (hNe : fn.ntmps = N) (hrs : fn.results.toList = rs) (hN : args.length ≤ N) (hr : plainV r = true)
  (h : AK P ⟨N, H.length, []⟩ (endR P rs fun v Hn => v = r ∧ ∃ J, Hn = H ++ J) [.c c] ⟨enumT 0 args, H⟩) : AC P f args H r H [] := by
 obtain ⟨v, H', h1, rfl, rfl⟩ := AC.of_body (R := fun v H' => v = r ∧ H' = H) hf hb hok hNe hrs hN (post_mono (fun s => endR_mono fun v Hn ⟨hvr, J, hJ⟩ => ⟨H, J, hJ, Nat.le_refl _, fun id j x hx => .inl ⟨Heap.lt_of_live (Heap.live_of_cell hx), hx⟩, Clo.plain (by rw [hvr]; exact hr), hvr, rfl⟩) h)
 exact h1

/-! ### an id that was waiting for its block -/
theorem HR.addAt {P : Program} {B0 : Nat} {φ : Phi} {H : Heap} {w : World} (h : HR P B0 φ H w) {id : Nat} (hn : φ id = none)
  {ty : TypeId} {xs : List Value} {cur : Array Value} {cap sz g : Nat} (hid : H[id]? = some ⟨ty, xs, true, true⟩) (hsz : szO P ty = some sz) (hB : B0 ≤ g) (hnew : w.heap[g]? = some (.cells cur ty (0, 0)))
  (hfree : ∀ i M, φ i = some M → M.blk ≠ g)
  (hcap : cur.size = cap * sz) (hmax : cap ≤ maxLen) (hlen : xs.length ≤ cur.size) (hv : ∀ (j : Nat) (x : Value), xs[j]? = some x → ∃ y, VR φ x y ∧ cur[j]? = some y) :
  HR P B0 (φ.set id ⟨g, 0, cap, true⟩) H w := by
 have hle := Phi.le_set (L := ⟨g, 0, cap, true⟩) hn
 refine ⟨?_, ?_, ?_, ?_, ?_, ?_, ?_, ?_⟩
 ·intro i L hL
  by_cases e : i = id
  ·subst e; exact (List.getElem?_eq_some_iff.1 hid).1
  ·rw [Phi.set_ne _ _ e] at hL; exact h.dom _ _ hL
 ·intro i L hL hr
  by_cases e : i = id
  ·subst e; rw [Phi.set_same] at hL; cases hL; cases hr
  ·rw [Phi.set_ne _ _ e] at hL; exact h.ro _ _ hL hr
 ·intro i L hL
  by_cases e : i = id
  ·subst e; rw [Phi.set_same] at hL; cases hL; exact (Array.getElem?_eq_some_iff.1 hnew).1
  ·rw [Phi.set_ne _ _ e] at hL; exact h.lt _ _ hL
 ·intro i L j x hL hx
  by_cases e : i = id
  ·subst e
   rw [Phi.set_same] at hL; cases hL
   simp only [Heap.cell, hid, if_true] at hx
   obtain ⟨y, hy, hc⟩ := hv j x hx
   refine ⟨y, hy.mono hle, ?_⟩
   rw [cell_of_row _ _ _ _ _ _ hnew]; simpa using hc
  ·rw [Phi.set_ne _ _ e] at hL
   obtain ⟨y, hy, hc⟩ := h.cell i L j x hL hx
   exact ⟨y, hy.mono hle, hc⟩
 ·intro i L b hL hr hb hl
  by_cases e : i = id
  ·subst e
   rw [Phi.set_same] at hL; cases hL
   rw [hid] at hb; cases hb
   exact ⟨rfl, hB, cur, sz, hsz, hnew, hcap, hlen, hmax⟩
  ·rw [Phi.set_ne _ _ e] at hL
   exact h.row i L b hL hr hb hl
 ·intro i L b hL hb hr
  by_cases e : i = id
  ·subst e; rw [Phi.set_same] at hL; cases hL; rfl
  ·rw [Phi.set_ne _ _ e] at hL
   exact h.flag i L b hL hb hr
 ·intro i i' L L' hL hL' hr hr' hbe hl hl'
  by_cases e : i = id
  ·by_cases e' : i' = id
   ·omega
   ·subst e
    rw [Phi.set_same] at hL; cases hL
    rw [Phi.set_ne _ _ e'] at hL'
    exact absurd hbe.symm (hfree i' L' hL')
  ·by_cases e' : i' = id
   ·subst e'
    rw [Phi.set_same] at hL'; cases hL'
    rw [Phi.set_ne _ _ e] at hL
    exact absurd hbe (hfree i L hL)
   ·rw [Phi.set_ne _ _ e] at hL
    rw [Phi.set_ne _ _ e'] at hL'
    exact h.inj i i' L L' hL hL' hr hr' hbe hl hl'
 ·intro i L b hL hb hl hr
  by_cases e : i = id
  ·subst e; rw [hid] at hb; cases hb; cases hl
  ·rw [Phi.set_ne _ _ e] at hL
   exact h.mp i L b hL hb hl hr

/-- Another heap that says no more of the ids that are there. -/
theorem HR.less {P : Program} {B0 : Nat} {φ : Phi} {H H' : Heap} {w : World} (h : HR P B0 φ H w) (hd : ∀ id L, φ id = some L → id < H'.length)
  (hs : ∀ id L, φ id = some L → H'[id]? = H[id]? ∨ H'.hot id = false) : HR P B0 φ H' w := by
 have hlive : ∀ id L, φ id = some L → H'.hot id = true → H'[id]? = H[id]? := fun id L hL hl => by
  rcases hs id L hL with e | e
  ·exact e
  ·rw [e] at hl; cases hl
 refine ⟨hd, h.ro, h.lt, ?_, ?_, ?_, ?_, ?_⟩
 ·intro id L j x hL hx
  have e := hlive id L hL (Heap.hot_of_live (Heap.live_of_cell hx))
  exact h.cell id L j x hL (by unfold Heap.cell at hx ⊢; rw [← e]; exact hx)
 ·intro id L b hL hr hb hl
  have e := hlive id L hL (by simp [Heap.hot, hb, hl])
  exact h.row id L b hL hr (by rw [← e]; exact hb) hl
 ·intro id L b hL hb hr
  have e := hlive id L hL (by simp [Heap.hot, hb, hr])
  exact h.flag id L b hL (by rw [← e]; exact hb) hr
 ·intro id id' L L' hL hL' hr hr' hbe hl hl'
  have e := hlive id L hL hl
  have e' := hlive id' L' hL' hl'
  exact h.inj id id' L L' hL hL' hr hr' hbe (by unfold Heap.hot at hl ⊢; rw [← e]; exact hl) (by unfold Heap.hot at hl' ⊢; rw [← e']; exact hl')
 ·intro id L b hL hb hl hr
  have e := hlive id L hL (by simp [Heap.hot, hb, hr])
  exact h.mp id L b hL (by rw [← e]; exact hb) hl hr
theorem Inv.less {P : Program} {B0 n0 : Nat} {D : List Nat} {φ0 φ : Phi} {w0 w : World} {H H' : Heap} (h : Inv P B0 n0 D φ0 w0 φ H w) (hn : n0 ≤ H'.length) (hd : ∀ id L, φ id = some L → id < H'.length)
  (hs : ∀ id L, φ id = some L → H'[id]? = H[id]? ∨ H'.hot id = false) : Inv P B0 n0 D φ0 w0 φ H' w :=
 ⟨h.hr.less hd hs, h.b0, h.gl, hn, h.dom0, h.low, h.high, h.os, h.tape, h.output, h.size, h.keep⟩
theorem Inv.newAt {P : Program} {B0 n0 : Nat} {D : List Nat} {φ0 φ : Phi} {w0 w : World} {H : Heap} (h : Inv P B0 n0 D φ0 w0 φ H w) {id : Nat} (hn : φ id = none) (hn0 : n0 ≤ id) {ty : TypeId} {xs ys : List Value} {cap sz : Nat}
  (hid : H[id]? = some ⟨ty, xs, true, true⟩) (hsz : szO P ty = some sz) (hcap : ys.length = cap * sz) (hmax : cap ≤ maxLen) (hv : VRs φ xs ys) :
  Inv P B0 n0 D φ0 w0 (φ.set id ⟨w.heap.size, 0, cap, true⟩) H (w.alloc (.cells ys.toArray ty)) ∧ φ.le (φ.set id ⟨w.heap.size, 0, cap, true⟩) := by
 have hold : ∀ b, b < w.heap.size → (w.alloc (.cells ys.toArray ty)).heap[b]? = w.heap[b]? := fun b hb => Below.heap_alloc w _ b hb
 have hB : B0 ≤ w.heap.size := Nat.le_trans h.b0 h.size
 refine ⟨⟨?_, h.b0, h.gl.on fun k hk => hold k (by omega), h.len, h.dom0, ?_, ?_, h.os, h.tape, h.output, ?_, ?_⟩, Phi.le_set _ hn⟩
 ·refine (h.hr.grow (by simp) hold).addAt hn hid hsz hB (heap_alloc_new w _) (fun i M hM => Nat.ne_of_lt (h.hr.lt i M hM)) (by simpa using hcap) hmax (by have := hv.1; simp; omega) fun j x hx => ?_
  have hj : j < ys.length := by rw [← hv.1]; exact (List.getElem?_eq_some_iff.1 hx).1
  exact ⟨ys[j], hv.2 j x _ hx (by simp [hj]), by simp [hj]⟩
 ·intro i hi
  rw [Phi.set_ne _ _ (by omega)]
  exact h.low i hi
 ·intro i L hi hL
  by_cases e : i = id
  ·subst e; rw [Phi.set_same] at hL; cases hL; exact ⟨rfl, .inl h.size⟩
  ·rw [Phi.set_ne _ _ e] at hL; exact h.high i L hi hL
 ·have := h.size; simp; omega
 ·intro b hb hk
  rw [hold b (by have := h.size; omega)]
  exact h.keep b hb hk

/-! ### an operation looks at its own slots alone -/
def namesL (l : List Operand) : List Tmp := l.filterMap fun | .tmp t => some t | _ => none
def looks (ops : Array Oper) (o : Oper) : List Tmp := namesL o.op.operands.toList ++ (match o.guard with
 | some (g, _) => ((ops[g]?).bind (·.dst)).toList
 | none => [])
/-- The slots of which nothing else is asked are left out. -/
def only (ns : List Tmp) (ts : List (Nat × Value)) : List (Nat × Value) := ts.filter fun p => ns.contains p.1
theorem getT_only (ns : List Tmp) (ts : List (Nat × Value)) (t : Nat) : getT (only ns ts) t = if t ∈ ns then getT ts t else none := by
 induction ts with
 | nil => simp [only, getT]
 | cons p ts ih =>
  obtain ⟨k, v⟩ := p
  unfold only at ih ⊢
  simp only [List.filter_cons]
  by_cases hk : k ∈ ns
  ·simp only [List.contains_eq_mem, hk, decide_true, if_true, getT]
   by_cases e : k = t
   ·subst e; simp [hk]
   ·simp only [e, if_false]; simpa using ih
  ·simp only [List.contains_eq_mem, hk, decide_false, Bool.false_eq_true, if_false, getT]
   by_cases e : k = t
   ·subst e; simp only [hk, if_false]; simpa [hk] using ih
   ·simp only [e, if_false]; simpa using ih
theorem evO_only {ns : List Tmp} {ts : List (Nat × Value)} {x : Operand} (h : ∀ t, x = .tmp t → t ∈ ns) : evO (only ns ts) x = evO ts x := by
 cases x with
 | tmp t => simp only [evO]; rw [getT_only, if_pos (h t rfl)]
 | _ => rfl
theorem evL_congr {ρ ρ' : Operand → Option Value} : ∀ {l : List Operand}, (∀ x, x ∈ l → ρ x = ρ' x) → evL ρ l = evL ρ' l
 | [], _ => rfl
 | x :: l, h => by
  simp only [evL]
  rw [h x (by simp), evL_congr fun y hy => h y (by simp [hy])]
theorem evP_congr {ρ ρ' : Operand → Option Value} : ∀ {l : List (Nat × Operand)}, (∀ x, x ∈ l.map (·.2) → ρ x = ρ' x) → evP ρ l = evP ρ' l
 | [], _ => rfl
 | (i, x) :: l, h => by
  simp only [evP]
  rw [h x (by simp), evP_congr fun y hy => h y (by simp at hy ⊢; exact .inr hy)]
theorem evM_congr {ρ ρ' : Operand → Option Value} {x : Option Operand} (h : ∀ y, x = some y → ρ y = ρ' y) : evM ρ x = evM ρ' x := by
 cases x with
 | none => rfl
 | some y => simp only [evM]; rw [h y rfl]
theorem pureOp_congr {P : Program} {ρ ρ' : Operand → Option Value} {op : Op} (h : ∀ x, x ∈ op.operands.toList → ρ x = ρ' x) : pureOp P ρ op = pureOp P ρ' op := by
 unfold pureOp
 split
 ·exact h _ (by simp [Op.operands])
 ·exact h _ (by simp [Op.operands])
 ·rename_i c a b; rw [h c (by simp [Op.operands]), h a (by simp [Op.operands]), h b (by simp [Op.operands])]
 ·rename_i t parts; rw [evP_congr fun x hx => h x (by simpa [Op.operands] using hx)]
 ·rename_i x; rw [h x (by simp [Op.operands])]
 ·rename_i op t x y z; rw [h x (by simp [Op.operands]), h y (by simp [Op.operands])]
 ·rename_i t x; rw [h x (by simp [Op.operands])]
 ·rename_i s d x; rw [h x (by simp [Op.operands])]
 ·rename_i t x lo hi
  rw [h x (by simp [Op.operands]), evM_congr (x := lo) fun y hy => h y (by simp [Op.operands, hy]), evM_congr (x := hi) fun y hy => h y (by simp [Op.operands, hy])]
 ·rename_i s x f; rw [h x (by simp [Op.operands])]
 ·rename_i t x f; rw [h x (by simp [Op.operands])]
 ·rename_i t x i; rw [h x (by simp [Op.operands]), h i (by simp [Op.operands])]
 ·rename_i f first captured; rw [evL_congr (l := captured.toList) fun x hx => h x (by simp [Op.operands] at hx ⊢; exact .inr hx)]
 ·rename_i x i; rw [h x (by simp [Op.operands])]
 ·rename_i args ts
  split
  ·rename_i x hx; rw [h x (by simp [Op.operands, Call.operands, ← Array.mem_toList_iff, hx])]
  ·rfl
 ·rename_i args ts
  split
  ·rename_i x y hx; rw [h x (by simp [Op.operands, Call.operands, ← Array.mem_toList_iff, hx]), h y (by simp [Op.operands, Call.operands, ← Array.mem_toList_iff, hx])]
  ·rfl
 ·rfl
theorem newA_congr {P : Program} {ρ ρ' : Operand → Option Value} {op : Op} (h : ∀ x, x ∈ op.operands.toList → ρ x = ρ' x) : newA P ρ op = newA P ρ' op := by
 unfold newA
 split
 ·rfl
 ·rename_i t x; rw [h x (by simp [Op.operands])]
 ·rename_i t n parts; rw [evP_congr fun x hx => h x (by simpa [Op.operands] using hx)]
 ·rename_i t l c; rw [h l (by simp [Op.operands]), h c (by simp [Op.operands])]
 ·rfl
theorem names_mem {ops : Array Oper} {o : Oper} {x : Operand} (hx : x ∈ o.op.operands.toList) : ∀ t, x = .tmp t → t ∈ looks ops o := fun t e => by
 subst e
 exact List.mem_append_left _ (List.mem_filterMap.2 ⟨.tmp t, hx, rfl⟩)
theorem pure_only {P : Program} {ops : Array Oper} {o : Oper} {ts : List (Nat × Value)} : pureOp P (evO (only (looks ops o) ts)) o.op = pureOp P (evO ts) o.op := pureOp_congr fun x hx => evO_only (names_mem hx)
theorem new_only {P : Program} {ops : Array Oper} {o : Oper} {ts : List (Nat × Value)} : newA P (evO (only (looks ops o) ts)) o.op = newA P (evO ts) o.op := newA_congr fun x hx => evO_only (names_mem hx)
theorem wanted_only {ops : Array Oper} {o : Oper} {ts : List (Nat × Value)} : wantedA ops o (only (looks ops o) ts) = wantedA ops o ts := by
 unfold wantedA
 split
 ·rfl
 ·rename_i j want hg
  cases hd : (ops[j]?).bind (·.dst) with
  | none => rfl
  | some t =>
   simp only [Option.bind_some]
   rw [getT_only, if_pos (by unfold looks; rw [hg]; simp [hd])]
def isEff : Op → Bool
 | .store .. => true
 | .call { callee := .value _, .. } => true
 | .call { callee := .builtin .append, .. } => true
 | _ => false
theorem SE.only {P : Program} {C : Cx} {ops : Array Oper} {o : Oper} {s : St} {v : Value} {H' : Heap} {T : List Nat} (h : SE P C o s .eff v H' T) : SE P C o ⟨only (looks ops o) s.ts, s.H⟩ .eff v H' T := by
 have key : ∀ x, x ∈ o.op.operands.toList → evO (YtpoedfmkiiijnaaDoorAm.only (looks ops o) s.ts) x = evO s.ts x := fun x hx => evO_only (names_mem hx)
 cases h with
 | store ho h h' hs hw =>
  rw [ho] at key
  exact .store ho (by rw [← h]; exact key _ (by simp [Op.operands])) (by rw [← h']; exact key _ (by simp [Op.operands])) hs hw
 | append ho ha h h' hs hw =>
  rw [ho] at key
  exact .append ho ha (by rw [← h]; exact key _ (by simp [Op.operands, Call.operands, ← Array.mem_toList_iff, ha])) (by rw [← h']; exact key _ (by simp [Op.operands, Call.operands, ← Array.mem_toList_iff, ha])) hs hw
 | call ho hf ha hc hw =>
  rw [ho] at key
  refine .call ho (by rw [← hf]; exact key _ (by simp [Op.operands, Call.operands])) ?_ hc hw
  rw [← ha]
  exact evL_congr fun x hx => key x (by simp [Op.operands, Call.operands] at hx ⊢; exact .inr hx)

/-- An effect, and what it leaves of the world. -/
theorem SE.eff_sound {P : Program} {C : Cx} {o : Oper} {s : St} {v : Value} {H' : Heap} {T : List Nat} (h : SE P C o s .eff v H' T) {B0 : Nat} {φ0 φ : Phi} {w0 w : World} {a : Act}
  (hi : Inv P B0 C.n0 C.D φ0 w0 φ s.H w) (ht : TR φ s.ts a.tmps)
  {Q : Exit → Act → World → Prop} {K : Act → World → Prop} (hK : ∀ φ' v' w', VR φ' v v' → Inv P B0 C.n0 C.D φ0 w0 φ' H' w' → φ.le φ' → FrE φ φ' w w' T s.H.length → s.H.length ≤ H'.length → K (a.put o.dst v') w') : o.wp P a w K Q := by
 have hev : ∀ x u, evO s.ts x = some u → VR φ u (a.eval x) := fun x u hx => evO_VR ht hx
 unfold Oper.wp
 cases h with
 | store ho h h' hs hw =>
  obtain ⟨w', h1, h2, h3, h4⟩ := stA_sound hi (hev _ _ h) (hev _ _ h') hs hw
  simp only [execOp, ho, Sem.run_bind, h1, Result.andThen_ok, Sem.run_pure]
  exact hK φ undef w' (uV_VR φ) h2 (Phi.le_refl _) h3 (by omega)
 | @append as ts x y va vb k v H' ho ha h h' hs hw =>
  obtain rfl : as = #[x, y] := by rw [← Array.toList_inj]; simpa using ha
  obtain ⟨φ', v', w', h1, h2, h3, h4, h5, h6⟩ := apA_sound (ty := o.type) hi (hev _ _ h) (hev _ _ h') hs hw
  have : (execOp a.eval o).run P w = .ok (.value v') w' := by
   simp [execOp, ho, resolve, invoke, builtin, h1]
  rw [this]
  exact hK φ' v' w' h2 h3 h4 h5 h6
 | @call fx as ts f cap vs v H' Dc ho hf ha hc hw =>
  have hfx := hev _ _ hf
  generalize hef : a.eval fx = ef at hfx
  obtain ⟨cap', rfl, hcap⟩ := hfx.fn_inv
  have hvs := evL_VRs hev ha
  have hargs := hvs.append hcap
  have hok := hc.1
  unfold fnOk at hok
  cases hfn : P.funcs[f]? with
  | none => rw [hfn] at hok; cases hok
  | some fn =>
   rw [hfn] at hok
   simp only [Bool.and_eq_true, bne_iff_ne] at hok
   have hrun : (execOp a.eval o).run P w = .ok (.enter f (as.map a.eval ++ cap')) w := by
    have hb : fn.body ≠ none := by cases hbb : fn.body <;> simp_all
    simp [execOp, ho, resolve, hef, Deferred.ofValue, invoke, callFunc, run_program, hfn, hok.1, hb]
   rw [hrun]
   rw [Oper.upon_enter]
   have hcalls := Calls.of_ac hc hi hargs hw
   have harr : ((List.map a.eval as.toList) ++ cap'.toList).toArray = as.map a.eval ++ cap' := by
    apply Array.toList_inj.1; simp
   rw [harr] at hcalls
   refine hcalls.mono ?_
   rintro e w' ⟨φ', v', rfl, h2, h3, h4, h5, h6⟩
   exact hK φ' v' w' h2 h3 h4 h5 h6

inductive K2 where
 | pure
 | load (t : TypeId) (a : Value)
 | new (id : Nat) (b : Blk)
 | eff (T : List Nat)
structure En where
 s : St
 k : K2
 v : Value
 wt : Bool
def OpOk (P : Program) (C : Cx) (ops : Array Oper) (o : Oper) (e : En) (s' : St) : Prop :=
 dstOk C.N o.dst ∧ s'.ts = putT o.dst e.v e.s.ts ∧ wantedA ops o e.s.ts = some e.wt ∧
 (e.wt = false → e.v = uV ∧ e.k = .pure ∧ s'.H = e.s.H) ∧
 (e.wt = true → match e.k with
  | .pure => pureOp P (evO e.s.ts) o.op = some e.v ∧ s'.H = e.s.H
  | .load t a => (∃ x, o.op = .load t x ∧ evO e.s.ts x = some a) ∧ ldA P e.s.H t a = some e.v ∧ s'.H = e.s.H
  | .new id b => ∃ r, newA P (evO e.s.ts) o.op = some r ∧ b = ⟨r.ty, r.cells, true, true⟩ ∧ e.v = r.val id ∧ s'.H = e.s.H.set id b ∧ e.s.H.live id = false ∧ id < e.s.H.length
  | .eff T => isEff o.op = true ∧ SE P C o e.s .eff e.v s'.H T ∧ (∀ d, d ∈ T → e.s.H.live d = true) ∧ e.s.H.length ≤ s'.H.length)

/-- A region's text order, reckoned, with what makes the order not matter. -/
structure Trc (P : Program) (C : Cx) (ops : Array Oper) (E : Nat → En) (pr : Nat → List Nat) (base : Nat) : Prop where
 ok : ∀ i o, ops[i]? = some o → OpOk P C ops o (E i) (E (i + 1)).s
 p1 : ∀ i o, ops[i]? = some o → ∀ j, j ∈ pr i → j < i ∧ ∃ e, e ∈ o.after ∧ Region.binds .any e = true ∧ (e.on = j ∨ (e.on < i ∧ j ∈ pr e.on))
 p2 : ∀ i j oi oj, ops[i]? = some oi → ops[j]? = some oj → i < j → ((∃ d, oi.dst = some d ∧ (d ∈ looks ops oj ∨ oj.dst = some d)) ∨ ∃ d, oj.dst = some d ∧ d ∈ looks ops oi) → i ∈ pr j
 p3 : ∀ i j oi oj, ops[i]? = some oi → ops[j]? = some oj → i < j → isEff oi.op = true → isEff oj.op = true → i ∈ pr j
 p4 : ∀ i o, ops[i]? = some o → ∀ e, e ∈ o.after → Region.binds .any e = true → e.on < i
 cA : ∀ i j t a T, i < j → j < ops.size → (E i).k = .load t a → (E i).wt = true → (E j).k = .eff T → i ∉ pr j → ldA P (E (j + 1)).s.H t a = some (E i).v
 cB : ∀ i j t a T, i < j → j < ops.size → (E i).k = .eff T → (E j).k = .load t a → (E j).wt = true → i ∉ pr j → ldA P (E i).s.H t a = some (E j).v
 cC : ∀ i j id b T, i < j → j < ops.size → (E i).k = .new id b → (E j).k = .eff T → i ∉ pr j → (E (j + 1)).s.H[id]? = (E j).s.H[id]?
 cD : ∀ j id b, j < ops.size → (E j).k = .new id b → ∀ k, k ≤ j → Heap.hot (E k).s.H id = false
 cI : ∀ j id b, j < ops.size → (E j).k = .new id b → id < (E 0).s.H.length ∧ base ≤ id
 cN : ∀ i j id b b', i < j → j < ops.size → (E i).k = .new id b → (E j).k ≠ .new id b'

section
variable {P : Program} {C : Cx} {ops : Array Oper} {E : Nat → En} {pr : Nat → List Nat} {base : Nat}

theorem Trc.uniq (h : Trc P C ops E pr base) {i j id : Nat} {b b' : Blk} (hi : i < ops.size) (hj : j < ops.size) (e1 : (E i).k = .new id b) (e2 : (E j).k = .new id b') : i = j ∧ b = b' := by
 rcases Nat.lt_trichotomy i j with hlt | heq | hgt
 ·exact absurd e2 (h.cN i j id b b' hlt hj e1)
 ·subst heq; rw [e1] at e2; cases e2; exact ⟨rfl, rfl⟩
 ·exact absurd e1 (h.cN j i id b' b hgt hi e2)
theorem opAt {i : Nat} (hi : i < ops.size) : ∃ o, ops[i]? = some o := ⟨ops[i], by simp [hi]⟩
/-- What the operation at i does to the heap, by its kind. -/
theorem Trc.step (h : Trc P C ops E pr base) {i : Nat} (hi : i < ops.size) : (∃ T, (E i).k = .eff T) ∨ (∃ id b, (E i).k = .new id b ∧ (E i).wt = true ∧ (E (i + 1)).s.H = (E i).s.H.set id b ∧ id < (E i).s.H.length ∧ (E i).s.H.live id = false) ∨
  ((E (i + 1)).s.H = (E i).s.H ∧ (∀ id b, (E i).k ≠ .new id b)) := by
 obtain ⟨o, ho⟩ := opAt hi
 obtain ⟨_, _, _, h4, h5⟩ := h.ok i o ho
 cases hw : (E i).wt with
 | false => obtain ⟨_, hk, hH⟩ := h4 hw; exact .inr (.inr ⟨hH, fun id b => by rw [hk]; simp⟩)
 | true =>
  have h5' := h5 hw
  cases hk : (E i).k with
  | pure => rw [hk] at h5'; exact .inr (.inr ⟨h5'.2, fun id b => by simp⟩)
  | load t a => rw [hk] at h5'; exact .inr (.inr ⟨h5'.2.2, fun id b => by simp⟩)
  | eff T => exact .inl ⟨T, rfl⟩
  | new id b =>
   rw [hk] at h5'
   obtain ⟨r, _, _, _, hH, hl, hlt⟩ := h5'
   exact .inr (.inl ⟨id, b, rfl, rfl, hH, hlt, hl⟩)
theorem Trc.stL (h : Trc P C ops E pr base) {k : Nat} : ∀ {k' : Nat}, k ≤ k' → k' ≤ ops.size → (∀ e T, k ≤ e → e < k' → (E e).k ≠ .eff T) → (E k').s.H.length = (E k).s.H.length := by
  intro k'
  induction k' with
  | zero => intro hk _ _; obtain rfl : k = 0 := by omega
            rfl
  | succ m ih =>
    intro hk hn he
    by_cases hkm : k = m + 1
    · subst hkm; rfl
    · have ih' := ih (by omega) (by omega) fun e T h1 h2 => he e T h1 (by omega)
      rcases h.step (show m < ops.size by omega) with ⟨T, hT⟩ | ⟨id, b, _, _, hH, _⟩ | ⟨hH, _⟩
      · exact absurd hT (he m T (by omega) (by omega))
      · rw [hH]; simp [ih']
      · rw [hH]; exact ih'
theorem Trc.stA (h : Trc P C ops E pr base) {k id : Nat} : ∀ {k' : Nat}, k ≤ k' → k' ≤ ops.size → (∀ e T, k ≤ e → e < k' → (E e).k ≠ .eff T) → (∀ j b, k ≤ j → j < k' → (E j).k ≠ .new id b) → (E k').s.H[id]? = (E k).s.H[id]? := by
  intro k'
  induction k' with
  | zero => intro hk _ _ _; obtain rfl : k = 0 := by omega
            rfl
  | succ m ih =>
    intro hk hn he hne
    by_cases hkm : k = m + 1
    · subst hkm; rfl
    · have ih' := ih (by omega) (by omega) (fun e T h1 h2 => he e T h1 (by omega)) fun j b h1 h2 => hne j b h1 (by omega)
      rcases h.step (show m < ops.size by omega) with ⟨T, hT⟩ | ⟨id', b, hk', _, hH, _⟩ | ⟨hH, _⟩
      · exact absurd hT (he m T (by omega) (by omega))
      · have hid : id' ≠ id := fun e => hne m b (by omega) (by omega) (by rw [← e]; exact hk')
        rw [hH, List.getElem?_set_ne hid]; exact ih'
      · rw [hH]; exact ih'
theorem Trc.stB (h : Trc P C ops E pr base) {k j id : Nat} {b : Blk} (hj : (E j).k = .new id b) : ∀ {k' : Nat}, k ≤ j → j < k' → k' ≤ ops.size → (∀ e T, k ≤ e → e < k' → (E e).k ≠ .eff T) → (E k').s.H[id]? = some b := by
 intro k' hkj hjk hn he
 have hstep : (E (j + 1)).s.H[id]? = some b := by
  rcases h.step (show j < ops.size by omega) with ⟨T, hT⟩ | ⟨id', b', hk', _, hH, hlt, _⟩ | ⟨_, hno⟩
  ·exact absurd hT (he j T hkj hjk)
  ·rw [hj] at hk'; cases hk'; rw [hH]; simp [hlt]
  ·exact absurd hj (hno id b)
 rw [← hstep]
 exact h.stA (by omega) hn (fun e T h1 h2 => he e T (by omega) h2) fun i b' h1 h2 e => by
  have := (h.uniq (by omega) (by omega) e hj).1; omega
/-- A new block that no effect waits for stays as it was made. -/
theorem Trc.stC (h : Trc P C ops E pr base) {i id : Nat} {b : Blk} (hi : (E i).k = .new id b) : ∀ {c : Nat}, i < c → c ≤ ops.size → (∀ e T, i < e → e < c → (E e).k = .eff T → i ∉ pr e) → (E c).s.H[id]? = some b := by
 intro c
 induction c with
 | zero => intro h0; omega
 | succ m ih =>
  intro hic hn he
  by_cases him : i = m
  ·subst him
   rcases h.step (show i < ops.size by omega) with ⟨T, hT⟩ | ⟨id', b', hk', _, hH, hlt, _⟩ | ⟨_, hno⟩
   ·rw [hi] at hT; cases hT
   ·rw [hi] at hk'; cases hk'; rw [hH]; simp [hlt]
   ·exact absurd hi (hno id b)
  ·have ih' := ih (by omega) (by omega) fun e T h1 h2 => he e T h1 (by omega)
   rcases h.step (show m < ops.size by omega) with ⟨T, hT⟩ | ⟨id', b', hk', _, hH, _⟩ | ⟨hH, _⟩
   ·rw [h.cC i m id b T (by omega) (by omega) hi hT (he m T (by omega) (by omega) hT)]; exact ih'
   ·have hid : id' ≠ id := fun e => by
     have := (h.uniq (by omega) (by omega) (e ▸ hk') hi).1; omega
    rw [hH, List.getElem?_set_ne hid]; exact ih'
   ·rw [hH]; exact ih'

/-- The slots behind those operations below k that have come up. -/
def absL (ops : Array Oper) (E : Nat → En) (ts0 : List (Nat × Value)) (X : Nat → Bool) : Nat → List (Nat × Value)
 | 0 => ts0
 | k + 1 => match ops[k]? with
  | some o => if X k then putT o.dst (E k).v (absL ops E ts0 X k) else absL ops E ts0 X k
  | none => absL ops E ts0 X k
theorem getT_putT_ne {dst : Option Tmp} {v : Value} {ts : List (Nat × Value)} {t : Nat} (h : dst ≠ some t) : getT (putT dst v ts) t = getT ts t := by
 cases dst with
 | none => rfl
 | some d => simp only [putT, getT]; rw [if_neg fun e => h (by rw [e])]
theorem Trc.text (h : Trc P C ops E pr base) : ∀ k, k ≤ ops.size → (E k).s.ts = absL ops E (E 0).s.ts (fun _ => true) k := by
 intro k
 induction k with
 | zero => intro _; rfl
 | succ m ih =>
  intro hk
  obtain ⟨o, ho⟩ := opAt (ops := ops) (show m < ops.size by omega)
  obtain ⟨_, h2, _⟩ := h.ok m o ho
  simp only [absL, ho, if_true]
  rw [h2, ih (by omega)]
/-- At its turn an operation finds in its slots what the text's order gives it. -/
theorem Trc.look (h : Trc P C ops E pr base) {X : Nat → Bool} {i : Nat} {o : Oper} (ho : ops[i]? = some o) (hX : X i = false) (hcl : ∀ j, X j = true → ∀ m, m ∈ pr j → X m = true) (hpr : ∀ j, j ∈ pr i → X j = true)
  {t : Nat} (ht : t ∈ looks ops o ∨ o.dst = some t) : getT (absL ops E (E 0).s.ts X ops.size) t = getT (E i).s.ts t := by
 have hin : i < ops.size := (Array.getElem?_eq_some_iff.1 ho).1
 have h1 : ∀ k, k ≤ i → getT (absL ops E (E 0).s.ts X k) t = getT (absL ops E (E 0).s.ts (fun _ => true) k) t := by
  intro k
  induction k with
  | zero => intro _; rfl
  | succ m ih =>
   intro hk
   obtain ⟨om, hom⟩ := opAt (ops := ops) (show m < ops.size by omega)
   have ih' := ih (by omega)
   simp only [absL, hom, if_true]
   by_cases hd : om.dst = some t
   ·have hm : m ∈ pr i := h.p2 m i om o hom ho (by omega) (.inl ⟨t, hd, ht.imp id id⟩)
    rw [if_pos (hpr m hm), hd]
    simp [putT, getT]
   ·rw [getT_putT_ne hd]
    split
    ·rw [getT_putT_ne hd]; exact ih'
    ·exact ih'
 have h2 : ∀ d, i + d ≤ ops.size → getT (absL ops E (E 0).s.ts X (i + d)) t = getT (absL ops E (E 0).s.ts X i) t := by
  intro d
  induction d with
  | zero => intro _; rfl
  | succ d ih =>
   intro hk
   obtain ⟨om, hom⟩ := opAt (ops := ops) (show i + d < ops.size by omega)
   have ih' := ih (by omega)
   rw [show i + (d + 1) = i + d + 1 by omega]
   simp only [absL, hom]
   split
   ·rename_i hx
    have hd : om.dst ≠ some t := fun hd => by
     by_cases h0 : d = 0
     ·subst h0; simp [hX] at hx
     ·have hm : i ∈ pr (i + d) := h.p2 i (i + d) o om ho hom (by omega) (by
       rcases ht with ht | ht
       ·exact .inr ⟨t, hd, ht⟩
       ·exact .inl ⟨t, ht, .inr hd⟩)
      rw [hcl (i + d) hx i hm] at hX; cases hX
    rw [getT_putT_ne hd]; exact ih'
   ·exact ih'
 have := h2 (ops.size - i) (by omega)
 rw [show i + (ops.size - i) = ops.size by omega] at this
 rw [this, h1 i (Nat.le_refl _), ← h.text i (by omega)]
/-- Behind it its slot holds what it gave, the others what they held. -/
theorem Trc.put (h : Trc P C ops E pr base) {X : Nat → Bool} {i : Nat} {o : Oper} (ho : ops[i]? = some o) (hX : X i = false) (hcl : ∀ j, X j = true → ∀ m, m ∈ pr j → X m = true)
  (t : Nat) : getT (absL ops E (E 0).s.ts (fun j => if j = i then true else X j) ops.size) t = getT (putT o.dst (E i).v (absL ops E (E 0).s.ts X ops.size)) t := by
 have hin : i < ops.size := (Array.getElem?_eq_some_iff.1 ho).1
 have h1 : ∀ k, k ≤ i → absL ops E (E 0).s.ts (fun j => if j = i then true else X j) k = absL ops E (E 0).s.ts X k := by
  intro k
  induction k with
  | zero => intro _; rfl
  | succ m ih =>
   intro hk
   simp only [absL, ih (by omega)]
   rw [if_neg (show ¬ m = i by omega)]
 have h2 : ∀ d, i + 1 + d ≤ ops.size → getT (absL ops E (E 0).s.ts (fun j => if j = i then true else X j) (i + 1 + d)) t = getT (putT o.dst (E i).v (absL ops E (E 0).s.ts X (i + 1 + d))) t := by
  intro d
  induction d with
  | zero =>
   intro _
   simp only [Nat.add_zero, absL, ho, h1 i (Nat.le_refl _), if_true, hX, Bool.false_eq_true, if_false]
  | succ d ih =>
   intro hk
   obtain ⟨om, hom⟩ := opAt (ops := ops) (show i + 1 + d < ops.size by omega)
   have ih' := ih (by omega)
   rw [show i + 1 + (d + 1) = i + 1 + d + 1 by omega]
   simp only [absL, hom]
   have hne0 : ¬ i + 1 + d = i := by omega
   simp only [hne0, if_false]
   split
   ·rename_i hx
    by_cases hd : om.dst = some t
    ·have hne : o.dst ≠ some t := fun hd' => by
      have hm : i ∈ pr (i + 1 + d) := h.p2 i (i + 1 + d) o om ho hom (by omega) (.inl ⟨t, hd', .inr hd⟩)
      rw [hcl _ hx i hm] at hX; cases hX
     rw [getT_putT_ne hne, hd]
     simp [putT, getT]
    ·rw [getT_putT_ne hd, ih']
     by_cases hd' : o.dst = some t
     ·rw [hd']; simp [putT, getT]
     ·rw [getT_putT_ne hd', getT_putT_ne hd', getT_putT_ne hd]
   ·exact ih'
 have := h2 (ops.size - (i + 1)) (by omega)
 rw [show i + 1 + (ops.size - (i + 1)) = ops.size by omega] at this
 exact this

/-- The heap that is meant when the operations of X have come up, those with an effect being all below c. -/
def VS (n : Nat) (E : Nat → En) (c : Nat) (X : Nat → Bool) (V : Heap) : Prop :=
 V.length = (E c).s.H.length ∧ ∀ id, (∀ i b, c ≤ i → i < n → X i = true → (E i).k = .new id b → V[id]? = some b) ∧ ((∀ i b, c ≤ i → i < n → X i = true → (E i).k ≠ .new id b) → V[id]? = (E c).s.H[id]?)
open Classical in
theorem Trc.exV (h : Trc P C ops E pr base) (c : Nat) (X : Nat → Bool) (hlt : ∀ i id b, c ≤ i → i < ops.size → (E i).k = .new id b → id < (E c).s.H.length) : ∃ V, VS ops.size E c X V := by
 refine ⟨(E c).s.H.mapIdx fun id b => if hx : ∃ b', ∃ i, c ≤ i ∧ i < ops.size ∧ X i = true ∧ (E i).k = .new id b' then hx.choose else b, by simp, fun id => ⟨?_, ?_⟩⟩
 ·intro i b h1 h2 h3 h4
  have hx : ∃ b', ∃ i, c ≤ i ∧ i < ops.size ∧ X i = true ∧ (E i).k = .new id b' := ⟨b, i, h1, h2, h3, h4⟩
  have hlen := hlt i id b h1 h2 h4
  obtain ⟨j, _, hj2, _, hj4⟩ := hx.choose_spec
  have := (h.uniq h2 hj2 h4 hj4).2
  rw [List.getElem?_mapIdx, List.getElem?_eq_getElem hlen]
  simp only [Option.map_some]
  rw [dif_pos hx, ← this]
 ·intro hno
  have hx : ¬ ∃ b', ∃ i, c ≤ i ∧ i < ops.size ∧ X i = true ∧ (E i).k = .new id b' := fun ⟨b', i, h1, h2, h3, h4⟩ => hno i b' h1 h2 h3 h4
  rw [List.getElem?_mapIdx]
  cases (E c).s.H[id]? with
  | none => rfl
  | some b => simp only [Option.map_some]; rw [dif_neg hx]

/-- What holds when the operations of X have come up. -/
structure Mid (P : Program) (C : Cx) (ops : Array Oper) (E : Nat → En) (B0 : Nat) (φ0 : Phi) (w0 : World) (X : Nat → Bool) (a : Act) (w : World) : Prop where
 mk ::
 out : ∃ φ c V, c ≤ ops.size ∧ (∀ e T, e < ops.size → (E e).k = .eff T → (X e = true ↔ e < c)) ∧ VS ops.size E c X V ∧ Inv P B0 C.n0 C.D φ0 w0 φ V w ∧
  TR φ (absL ops E (E 0).s.ts X ops.size) a.tmps ∧ a.tmps.size = C.N ∧ a.defers = [] ∧
  (∀ i id b, i < ops.size → (E i).k = .new id b → X i = false → φ id = none) ∧
  (∀ i id b, c ≤ i → i < ops.size → (E i).k = .new id b → X i = true → ∀ id' L L', id' ≠ id → φ id' = some L → φ id = some L' → L.blk ≠ L'.blk) ∧
  (∀ i id b, i < ops.size → (E i).k = .new id b → id < (E c).s.H.length) ∧ (∀ i id b, i < ops.size → (E i).k = .new id b → X i = true → ∃ L, φ id = some L)

def setX (X : Nat → Bool) (i : Nat) : Nat → Bool := fun j => if j = i then true else X j
/-- The first effect from c on, if there is one below i; else i. -/
theorem firstEff (E : Nat → En) (c i : Nat) (hci : c ≤ i) : ∃ k, c ≤ k ∧ k ≤ i ∧ (∀ e T, c ≤ e → e < k → (E e).k ≠ .eff T) ∧ (k = i ∨ ∃ T, (E k).k = .eff T) := by
 induction i with
 | zero => exact ⟨0, hci, Nat.le_refl _, fun e T h1 h2 => by omega, .inl rfl⟩
 | succ m ih =>
  by_cases h : c = m + 1
  ·exact ⟨m + 1, hci, Nat.le_refl _, fun e T h1 h2 => by omega, .inl rfl⟩
  ·obtain ⟨k, h1, h2, h3, h4⟩ := ih (by omega)
   rcases h4 with rfl | ⟨T, hT⟩
   ·by_cases hk : ∃ T, (E k).k = .eff T
    ·exact ⟨k, h1, by omega, h3, .inr hk⟩
    ·exact ⟨k + 1, by omega, Nat.le_refl _, fun e T h5 h6 => by
      by_cases he : e = k
      ·subst he; exact fun h7 => hk ⟨T, h7⟩
      ·exact h3 e T h5 (by omega), .inl rfl⟩
   ·exact ⟨k, h1, by omega, h3, .inr ⟨T, hT⟩⟩

theorem Trc.move (h : Trc P C ops E pr base) (hb0 : C.n0 ≤ base) {B0 : Nat} {φ0 : Phi} {w0 w : World} {X : Nat → Bool} {a : Act} (hm : Mid P C ops E B0 φ0 w0 X a w) (hcl : ∀ j, X j = true → ∀ m, m ∈ pr j → X m = true)
  {i : Nat} {o : Oper} (ho : ops[i]? = some o) (hX : X i = false) (hpr : ∀ j, j ∈ pr i → X j = true) {Q : Exit → Act → World → Prop} {K : Act → World → Prop}
  (hK : ∀ a' w', Mid P C ops E B0 φ0 w0 (setX X i) a' w' → K a' w') : wpOp P ops Q i K a w := by
 have hin : i < ops.size := (Array.getElem?_eq_some_iff.1 ho).1
 obtain ⟨φ, c, V, hc, hcut, hV, hi, ht, hN, hd, hfree, hearly, hids, hset⟩ := hm.out
 obtain ⟨hdst, hts, hwant, hskip, hgo⟩ := h.ok i o ho
 -- the slots at which the operation looks
 have hlook : TR φ (only (looks ops o) (E i).s.ts) a.tmps := by
  intro t v hv
  rw [getT_only] at hv
  split at hv
  ·rename_i htm
   rw [← h.look ho hX hcl hpr (.inl htm)] at hv
   exact ht t v hv
  ·cases hv
 have hw' : Region.wanted o (yielded ops a.tmps) = (E i).wt := wantedA_sound hlook (by rw [wanted_only]; exact hwant)
 have hput : ∀ {φ' : Phi} {v' : Value}, φ.le φ' → VR φ' (E i).v v' → TR φ' (absL ops E (E 0).s.ts (setX X i) ops.size) (a.put o.dst v').tmps := by
  intro φ' v' hle hv
  have h1 : TR φ' (putT o.dst (E i).v (absL ops E (E 0).s.ts X ops.size)) (a.put o.dst v').tmps := by
   cases hdd : o.dst with
   | none => exact ht.mono hle
   | some d => exact (ht.mono hle).put (by rw [hdd] at hdst; rw [hN]; exact hdst) hv
  exact h1.sub fun t u hu => by rw [← h.put ho hX hcl t]; exact hu
 have hsz : ∀ v', (a.put o.dst v').tmps.size = C.N ∧ (a.put o.dst v').defers = [] := fun v' => by
  cases o.dst <;> simp [Act.put, hN, hd]
 have hXe : ∀ j, j ≠ i → setX X i j = X j := fun j hj => by simp [setX, hj]
 have hXi : setX X i i = true := by simp [setX]
 -- neither a new block nor an effect: only the slot turns
 have still : ∀ v', VR φ (E i).v v' → (∀ id b, (E i).k ≠ .new id b) → (∀ T, (E i).k ≠ .eff T) → Mid P C ops E B0 φ0 w0 (setX X i) (a.put o.dst v') w := by
  intro v' hv hnn hne
  refine ⟨φ, c, V, hc, ?_, ⟨hV.1, fun id => ⟨?_, ?_⟩⟩, hi, hput (Phi.le_refl _) hv, (hsz v').1, (hsz v').2, ?_, ?_, hids, ?_⟩
  ·intro e T he hk
   rw [hXe e fun e' => hne T (by rw [← e']; exact hk)]; exact hcut e T he hk
  ·intro j b h1 h2 h3 h4
   exact (hV.2 id).1 j b h1 h2 (by rwa [hXe j fun e' => hnn id b (by rw [← e']; exact h4)] at h3) h4
  ·intro hno
   exact (hV.2 id).2 fun j b h1 h2 h3 h4 => hno j b h1 h2 (by rw [hXe j fun e' => hnn id b (by rw [← e']; exact h4)]; exact h3) h4
  ·intro j id b h1 h2 h3
   exact hfree j id b h1 h2 (by rwa [hXe j fun e' => hnn id b (by rw [← e']; exact h2)] at h3)
  ·intro j id b h1 h2 h3 h4
   exact hearly j id b h1 h2 h3 (by rwa [hXe j fun e' => hnn id b (by rw [← e']; exact h3)] at h4)
  ·intro j id b h1 h2 h3
   exact hset j id b h1 h2 (by rwa [hXe j fun e' => hnn id b (by rw [← e']; exact h2)] at h3)
 unfold wpOp
 simp only [ho]
 cases hwt : (E i).wt with
 | false =>
  rw [hwt] at hw'
  obtain ⟨hv, hk, _⟩ := hskip hwt
  rw [if_neg (by simp [hw'])]
  exact hK _ _ (still undef (by rw [hv]; exact uV_VR φ) (by rw [hk]; simp) (by rw [hk]; simp))
 | true =>
  rw [hwt] at hw'
  rw [if_pos hw']
  refine .inl ?_
  have hgo' := hgo hwt
  have hev : ∀ x u, evO (only (looks ops o) (E i).s.ts) x = some u → VR φ u (a.eval x) := fun x u hx => evO_VR hlook hx
  unfold Oper.wp
  cases hk : (E i).k with
  | pure =>
   rw [hk] at hgo'
   obtain ⟨v', h1, h2⟩ := pure_sound hev (by rw [pure_only]; exact hgo'.1)
   rw [h2 w]
   exact hK _ _ (still v' h1 (by rw [hk]; simp) (by rw [hk]; simp))
  | load t x0 =>
   rw [hk] at hgo'
   obtain ⟨⟨x, hox, hx⟩, hld, hH⟩ := hgo'
   have hxl : evO (only (looks ops o) (E i).s.ts) x = some x0 := by
    rw [evO_only (names_mem (ops := ops) (o := o) (by rw [hox]; simp [Op.operands]))]; exact hx
   have hvx := hev x x0 hxl
   -- where the cell is read
   have hldV : ldA P V t x0 = some (E i).v := by
    have hldi := hld
    unfold ldA at hld
    split at hld
    ·rename_i id off
     obtain ⟨L, hL⟩ : ∃ L, φ id = some L := by
      generalize a.eval x = ex at hvx
      cases hvx with | ptr hL => exact ⟨_, hL⟩
     have hexec : ∀ j b, j < ops.size → (E j).k = .new id b → X j = true := fun j b hj hjk => by
      cases hx : X j with
      | true => rfl
      | false => rw [hfree j id b hj hjk hx] at hL; cases hL
     have same : ∀ G : Heap, G[id]? = V[id]? → ldA P G t (pt id off) = some (E i).v → ldA P V t (pt id off) = some (E i).v := by
      intro G hG hl
      have hcell : ∀ q, Heap.cell V id q = Heap.cell G id q := fun q => by unfold Heap.cell; rw [hG]
      have hldc : ∀ n o', ldC V id o' n = ldC G id o' n := by
       intro n
       induction n with
       | zero => intro o'; rfl
       | succ n ih => intro o'; simp only [ldC, hcell, ih]
      rw [← hl]
      simp only [ldA, hcell, hldc]
     have dead : ∀ k j b, k ≤ j → j < ops.size → (E j).k = .new id b → ldA P (E k).s.H t (pt id off) = some (E i).v → False := by
      intro k j b hkj hj hjk hl
      have hlk := Heap.live_of_hot_f (h.cD j id b hj hjk k hkj)
      have hcn : ∀ q, Heap.cell (E k).s.H id q = none := fun q => by
       cases hq : Heap.cell (E k).s.H id q with
       | none => rfl
       | some u => rw [Heap.live_of_cell hq] at hlk; cases hlk
      simp only [ldA] at hl
      split at hl
      ·simp only [ldC, hcn] at hl; cases hl
      ·rw [hcn] at hl; cases hl
      ·cases hl
     -- the stage at which the text reads it
     have stage : ∃ k, k ≤ ops.size ∧ ldA P (E k).s.H t (pt id off) = some (E i).v ∧ ((c ≤ k ∧ ∀ e T, c ≤ e → e < k → (E e).k ≠ .eff T) ∨ (k ≤ c ∧ ∀ e T, k ≤ e → e < c → (E e).k ≠ .eff T)) := by
      by_cases hci : c ≤ i
      ·obtain ⟨k, k1, k2, k3, k4⟩ := firstEff E c i hci
       refine ⟨k, by omega, ?_, .inl ⟨k1, k3⟩⟩
       rcases k4 with rfl | ⟨T, hT⟩
       ·exact hldi
       ·by_cases hki : k = i
        ·rw [hki]; exact hldi
        ·refine h.cB k i t _ T (by omega) hin hT hk hwt fun hmem => ?_
         have := (hcut k T (by omega) hT).1 (hpr k hmem)
         omega
      ·-- the last effect below c
       have last : ∀ q, i + q ≤ c → ∃ k, i ≤ k ∧ k ≤ i + q ∧ ldA P (E k).s.H t (pt id off) = some (E i).v ∧ ∀ e T, k ≤ e → e < i + q → (E e).k ≠ .eff T := by
        intro q
        induction q with
        | zero => intro _; exact ⟨i, Nat.le_refl _, Nat.le_refl _, hldi, fun e T h1 h2 => by omega⟩
        | succ q ih =>
         intro hq
         obtain ⟨k, k1, k2, k3, k4⟩ := ih (by omega)
         by_cases hef : ∃ T, (E (i + q)).k = .eff T
         ·obtain ⟨T, hT⟩ := hef
          have hqi : i < i + q := by
           rcases Nat.eq_zero_or_pos q with h0 | h0
           ·subst h0; rw [Nat.add_zero, hk] at hT; cases hT
           ·omega
          refine ⟨i + q + 1, by omega, by omega, ?_, fun e T' h1 h2 => by omega⟩
          refine h.cA i (i + q) t _ T hqi (by omega) hk hwt hT fun hmem => ?_
          have hx := (hcut (i + q) T (by omega) hT).2 (by omega)
          rw [hcl (i + q) hx i hmem] at hX; cases hX
         ·refine ⟨k, k1, by omega, k3, fun e T h1 h2 => ?_⟩
          by_cases he : e = i + q
          ·subst he; exact fun h7 => hef ⟨T, h7⟩
          ·exact k4 e T h1 (by omega)
       obtain ⟨k, k1, k2, k3, k4⟩ := last (c - i) (by omega)
       rw [show i + (c - i) = c by omega] at k2 k4
       exact ⟨k, by omega, k3, .inr ⟨k2, k4⟩⟩
     obtain ⟨k, hkn, hlk, hst⟩ := stage
     refine same (E k).s.H ?_ hlk
     by_cases hnew : ∃ j b, j < ops.size ∧ (E j).k = .new id b
     ·obtain ⟨j, b, hj, hjk⟩ := hnew
      have hjlt : j < k := Nat.lt_of_not_le fun hle => dead k j b hle hj hjk hlk
      have hxj := hexec j b hj hjk
      rcases hst with ⟨hck, hne⟩ | ⟨hkc, hne⟩
      ·by_cases hcj : c ≤ j
       ·rw [(hV.2 id).1 j b hcj hj hxj hjk]
        exact h.stB hjk hcj hjlt hkn hne
       ·rw [(hV.2 id).2 fun q b' h1 h2 h3 h4 => by have := (h.uniq h2 hj h4 hjk).1; omega]
        exact h.stA hck hkn hne fun q b' h1 h2 h4 => by have := (h.uniq (by omega) hj h4 hjk).1; omega
      ·rw [(hV.2 id).2 fun q b' h1 h2 h3 h4 => by have := (h.uniq h2 hj h4 hjk).1; omega]
       exact (h.stA hkc hc hne fun q b' h1 h2 h4 => by have := (h.uniq (by omega) hj h4 hjk).1; omega).symm
     ·have hno : ∀ q b', q < ops.size → (E q).k ≠ .new id b' := fun q b' h1 h2 => hnew ⟨q, b', h1, h2⟩
      rw [(hV.2 id).2 fun q b' h1 h2 h3 => hno q b' h2]
      rcases hst with ⟨hck, hne⟩ | ⟨hkc, hne⟩
      ·exact h.stA hck hkn hne fun q b' h1 h2 => hno q b' (by omega)
      ·exact (h.stA hkc hc hne fun q b' h1 h2 => hno q b' (by omega)).symm
    ·cases hld
   obtain ⟨r', h1, h2⟩ := ldA_sound hi.hr hvx hldV
   simp only [execOp, hox, Sem.run_bind, h2, Result.andThen_ok, Sem.run_pure]
   exact hK _ _ (still r' h1 (by rw [hk]; simp) (by rw [hk]; simp))
  | new id b =>
   rw [hk] at hgo'
   obtain ⟨r, hr, hb, hv, hH, hl, hlt⟩ := hgo'
   have hn0 : C.n0 ≤ id := Nat.le_trans hb0 (h.cI i id b hin hk).2
   obtain ⟨ty, cs, f⟩ := r
   obtain ⟨ys, cap, sz, v', r1, r2, r3, r4, r5, r6⟩ := newA_core hev (by rw [new_only]; exact hr) w
   have hφ : φ id = none := hfree i id b hin hk hX
   -- the heap that is meant behind it
   have hVV : ∃ V', VS ops.size E c (setX X i) V' ∧ V'[id]? = some b ∧ V'.length = V.length ∧ ∀ id', id' ≠ id → V'[id']? = V[id']? := by
    by_cases hci : c ≤ i
    ·have hlV : id < V.length := by rw [hV.1]; exact hids i id b hin hk
     refine ⟨V.set id b, ⟨by simp [hV.1], fun id' => ⟨?_, ?_⟩⟩, by simp [hlV], by simp, fun id' hne => List.getElem?_set_ne (Ne.symm hne)⟩
     ·intro j b' h1 h2 h3 h4
      by_cases hji : j = i
      ·subst hji; rw [hk] at h4; cases h4; simp [hlV]
      ·have hne : id ≠ id' := fun e => hji (h.uniq h2 hin h4 (e ▸ hk)).1
       rw [List.getElem?_set_ne hne]
       exact (hV.2 id').1 j b' h1 h2 (by rwa [hXe j hji] at h3) h4
     ·intro hno
      have hne : id ≠ id' := fun e => hno i b hci hin hXi (e ▸ hk)
      rw [List.getElem?_set_ne hne]
      refine (hV.2 id').2 fun j b' h1 h2 h3 h4 => ?_
      by_cases hji : j = i
      ·subst hji; rw [hX] at h3; cases h3
      ·exact hno j b' h1 h2 (by rw [hXe j hji]; exact h3) h4
    ·have hVid : V[id]? = some b := by
      rw [(hV.2 id).2 fun j b' h1 h2 h3 h4 => by have := (h.uniq h2 hin h4 hk).1; omega]
      refine h.stC hk (by omega) hc fun e T h1 h2 h3 hmem => ?_
      have hx := (hcut e T (by omega) h3).2 h2
      rw [hcl e hx i hmem] at hX; cases hX
     refine ⟨V, ⟨hV.1, fun id' => ⟨?_, ?_⟩⟩, hVid, rfl, fun _ _ => rfl⟩
     ·intro j b' h1 h2 h3 h4
      exact (hV.2 id').1 j b' h1 h2 (by rwa [hXe j (by omega)] at h3) h4
     ·intro hno
      exact (hV.2 id').2 fun j b' h1 h2 h3 h4 => hno j b' h1 h2 (by rw [hXe j (by omega)]; exact h3) h4
   obtain ⟨V', hV', hVid, hVl, hVo⟩ := hVV
   have hi' : Inv P B0 C.n0 C.D φ0 w0 φ V' w := hi.less (by rw [hVl]; exact hi.len) (fun id' L hL => by rw [hVl]; exact hi.hr.dom id' L hL) fun id' L hL => .inl (hVo id' fun e => by subst e; rw [hφ] at hL; cases hL)
   obtain ⟨k1, k2⟩ := hi'.newAt hφ hn0 (by rw [hVid, hb]) r2 r3 r4 r5
   rw [r1]
   refine hK _ _ ⟨_, c, V', hc, ?_, hV', k1, hput k2 (by rw [hv]; exact r6 _ _ (Phi.set_same _ _ _)), (hsz v').1, (hsz v').2, ?_, ?_, hids, ?_⟩
   ·intro e T he hke
    rw [hXe e fun e' => by subst e'; rw [hk] at hke; cases hke]; exact hcut e T he hke
   ·intro j id' b' h1 h2 h3
    have hji : j ≠ i := fun e => by subst e; rw [hXi] at h3; cases h3
    have hne : id' ≠ id := fun e => hji (h.uniq h1 hin (e ▸ h2) hk).1
    rw [Phi.set_ne _ _ hne]
    exact hfree j id' b' h1 h2 (by rwa [hXe j hji] at h3)
   ·intro j id1 b' h1 h2 h3 h4 id' L L' hne hL hL'
    by_cases hji : j = i
    ·subst hji
     rw [hk] at h3; cases h3
     rw [Phi.set_same] at hL'; cases hL'
     rw [Phi.set_ne _ _ hne] at hL
     exact Nat.ne_of_lt (hi.hr.lt id' L hL)
    ·have hne1 : id1 ≠ id := fun e => hji (h.uniq h2 hin (e ▸ h3) hk).1
     rw [Phi.set_ne _ _ hne1] at hL'
     by_cases he : id' = id
     ·subst he
      rw [Phi.set_same] at hL; cases hL
      exact Nat.ne_of_gt (hi.hr.lt id1 L' hL')
     ·rw [Phi.set_ne _ _ he] at hL
      exact hearly j id1 b' h1 h2 h3 (by rwa [hXe j hji] at h4) id' L L' hne hL hL'
   ·intro j id' b' h1 h2 h3
    by_cases hji : j = i
    ·subst hji; rw [hk] at h2; cases h2; exact ⟨_, Phi.set_same _ _ _⟩
    ·obtain ⟨L, hL⟩ := hset j id' b' h1 h2 (by rwa [hXe j hji] at h3)
     exact ⟨L, k2 _ _ hL⟩
  | eff T =>
   rw [hk] at hgo'
   obtain ⟨hie, hse, hlive, hlen⟩ := hgo'
   have hbelow : ∀ e T', e < i → (E e).k = .eff T' → e < c := by
    intro e T' he hke
    obtain ⟨oe, hoe⟩ := opAt (ops := ops) (show e < ops.size by omega)
    have hie' : isEff oe.op = true := by
     obtain ⟨_, _, _, hs', hg'⟩ := h.ok e oe hoe
     cases hwe : (E e).wt with
     | false => obtain ⟨_, hke', _⟩ := hs' hwe; rw [hke] at hke'; cases hke'
     | true => have := hg' hwe; rw [hke] at this; exact this.1
    exact (hcut e T' (by omega) hke).1 (hpr e (h.p3 e i oe o hoe ho he hie' hie))
   have hci : c ≤ i := Nat.le_of_not_lt fun hlt => by
    have := (hcut i T hin hk).2 hlt
    rw [hX] at this; cases this
   have hne : ∀ e T', c ≤ e → e < i → (E e).k ≠ .eff T' := fun e T' h1 h2 h3 => by have := hbelow e T' h2 h3; omega
   have hLi : (E i).s.H.length = V.length := by rw [hV.1]; exact h.stL hci (by omega) hne
   have hexec : ∀ j id b L, j < ops.size → (E j).k = .new id b → φ id = some L → X j = true := fun j id b L hj hjk hL => by
    cases hx : X j with
    | true => rfl
    | false => rw [hfree j id b hj hjk hx] at hL; cases hL
   have hi' : Inv P B0 C.n0 C.D φ0 w0 φ (E i).s.H w := hi.less (by rw [hLi]; exact hi.len) (fun id' L hL => by rw [hLi]; exact hi.hr.dom id' L hL) fun id' L hL => by
    by_cases hnew : ∃ j b, j < ops.size ∧ (E j).k = .new id' b
    ·obtain ⟨j, b, hj, hjk⟩ := hnew
     have hxj := hexec j id' b L hj hjk hL
     by_cases hij : i ≤ j
     ·exact .inr (h.cD j id' b hj hjk i hij)
     ·by_cases hcj : c ≤ j
      ·rw [(hV.2 id').1 j b hcj hj hxj hjk]
       exact .inl (h.stB hjk hcj (by omega) (by omega) hne)
      ·rw [(hV.2 id').2 fun q b' h1 h2 h3 h4 => by have := (h.uniq h2 hj h4 hjk).1; omega]
       exact .inl (h.stA hci (by omega) hne fun q b' h1 h2 h4 => by have := (h.uniq (by omega) hj h4 hjk).1; omega)
    ·have hno : ∀ q b', q < ops.size → (E q).k ≠ .new id' b' := fun q b' h1 h2 => hnew ⟨q, b', h1, h2⟩
     rw [(hV.2 id').2 fun q b' h1 h2 h3 => hno q b' h2]
     exact .inl (h.stA hci (by omega) hne fun q b' h1 h2 => hno q b' (by omega))
   have := (hse.only (ops := ops)).eff_sound (Q := Q) (K := K) (B0 := B0) (φ0 := φ0) (w0 := w0) (w := w) (a := a) hi' hlook
   refine this fun φ' v' w' hv' hinv hle hfr hlen' => hK _ _ ?_
   simp only at hfr hlen'
   obtain ⟨V', hV'⟩ := h.exV (i + 1) (setX X i) fun j id' b' h1 h2 h3 => by
    have := hids j id' b' h2 h3
    rw [← hV.1, ← hLi] at this; omega
   -- a new block that is ahead of its turn lies apart from all others
   have apart : ∀ j id1 b1, i < j → j < ops.size → (E j).k = .new id1 b1 → X j = true → ∃ L1, φ id1 = some L1 ∧ φ' id1 = some L1 ∧ L1.rw = true ∧ V[id1]? = some b1 ∧ w'.heap[L1.blk]? = w.heap[L1.blk]? ∧
     ∀ id' L, id' ≠ id1 → φ' id' = some L → L.blk ≠ L1.blk := by
    intro j id1 b1 hij hj hjk hxj
    obtain ⟨L1, hL1⟩ := hset j id1 b1 hj hjk hxj
    have hdead := Heap.live_of_hot_f (h.cD j id1 b1 hj hjk i (by omega))
    have hear := hearly j id1 b1 (by omega) hj hjk hxj
    refine ⟨L1, hL1, hle _ _ hL1, (hi.high id1 L1 (Nat.le_trans hb0 (h.cI j id1 b1 hj hjk).2) hL1).1, (hV.2 id1).1 j b1 (by omega) hj hxj hjk, hfr.keep _ (hi.hr.lt _ _ hL1) ?_, ?_⟩
    ·intro d hdT M hM
     refine hear d M L1 (fun e => ?_) hM hL1
     subst e
     rw [hlive d hdT] at hdead; cases hdead
    ·intro id' L hne' hL
     rcases hfr.loc id' L hL with h1 | h1 | ⟨d, hdT, M0, h1, h2⟩
     ·exact hear id' L L1 hne' h1 hL1
     ·have := hi.hr.lt _ _ hL1; omega
     ·rw [← h2]
      refine hear d M0 L1 (fun e => ?_) h1 hL1
      subst e
      rw [hlive d hdT] at hdead; cases hdead
   have hVcase : ∀ id', (∃ j b1, i < j ∧ j < ops.size ∧ (E j).k = .new id' b1 ∧ X j = true ∧ V'[id']? = some b1) ∨ V'[id']? = (E (i + 1)).s.H[id']? := by
    intro id'
    by_cases hnew : ∃ j b1, i + 1 ≤ j ∧ j < ops.size ∧ setX X i j = true ∧ (E j).k = .new id' b1
    ·obtain ⟨j, b1, h1, h2, h3, h4⟩ := hnew
     exact .inl ⟨j, b1, by omega, h2, h4, by rwa [hXe j (by omega)] at h3, (hV'.2 id').1 j b1 h1 h2 h3 h4⟩
    ·exact .inr ((hV'.2 id').2 fun j b1 h1 h2 h3 h4 => hnew ⟨j, b1, h1, h2, h3, h4⟩)
   have hHR : HR P B0 φ' V' w' := by
    refine ⟨fun id' L hL => by rw [hV'.1]; exact hinv.hr.dom id' L hL, hinv.hr.ro, hinv.hr.lt, ?_, ?_, ?_, ?_, ?_⟩
    ·intro id' L q x hL hx
     rcases hVcase id' with ⟨j, b1, h1, h2, h3, h4, h5⟩ | h5
     ·obtain ⟨L1, q1, q2, q3, q4, q5, q6⟩ := apart j id' b1 h1 h2 h3 h4
      rw [q2] at hL; cases hL
      have hx' : Heap.cell V id' q = some x := by unfold Heap.cell at hx ⊢; rw [q4, ← h5]; exact hx
      obtain ⟨y, hy, hc'⟩ := hi.hr.cell id' _ q x q1 hx'
      exact ⟨y, hy.mono hle, by rw [cell_same (w := w) q5]; exact hc'⟩
     ·exact hinv.hr.cell id' L q x hL (by unfold Heap.cell at hx ⊢; rw [← h5]; exact hx)
    ·intro id' L b' hL hr' hb' hl'
     rcases hVcase id' with ⟨j, b1, h1, h2, h3, h4, h5⟩ | h5
     ·obtain ⟨L1, q1, q2, q3, q4, q5, q6⟩ := apart j id' b1 h1 h2 h3 h4
      rw [q2] at hL; cases hL
      obtain ⟨s1, s2, cur, sz, s3, s4, s5⟩ := hi.hr.row id' _ b' q1 hr' (by rw [q4, ← h5]; exact hb') hl'
      exact ⟨s1, s2, cur, sz, s3, by rw [q5]; exact s4, s5⟩
     ·exact hinv.hr.row id' L b' hL hr' (by rw [← h5]; exact hb') hl'
    ·intro id' L b' hL hb' hr'
     rcases hVcase id' with ⟨j, b1, h1, h2, h3, h4, h5⟩ | h5
     ·obtain ⟨L1, q1, q2, q3, q4, q5, q6⟩ := apart j id' b1 h1 h2 h3 h4
      rw [q2] at hL; cases hL; exact q3
     ·exact hinv.hr.flag id' L b' hL (by rw [← h5]; exact hb') hr'
    ·intro id1 id2 L1 L2 hL1 hL2 hr1 hr2 hbe hl1 hl2
     by_cases heq : id1 = id2
     ·exact heq
     rcases hVcase id1 with ⟨j, b1, h1, h2, h3, h4, h5⟩ | h5
     ·obtain ⟨M, q1, q2, q3, q4, q5, q6⟩ := apart j id1 b1 h1 h2 h3 h4
      rw [q2] at hL1; cases hL1
      exact absurd hbe.symm (q6 id2 L2 (Ne.symm heq) hL2)
     ·rcases hVcase id2 with ⟨j, b1, h1, h2, h3, h4, h6⟩ | h6
      ·obtain ⟨M, q1, q2, q3, q4, q5, q6⟩ := apart j id2 b1 h1 h2 h3 h4
       rw [q2] at hL2; cases hL2
       exact absurd hbe (q6 id1 L1 heq hL1)
      ·exact hinv.hr.inj id1 id2 L1 L2 hL1 hL2 hr1 hr2 hbe (by unfold Heap.hot at hl1 ⊢; rw [← h5]; exact hl1) (by unfold Heap.hot at hl2 ⊢; rw [← h6]; exact hl2)
    ·intro id' L b' hL hb' hl' hr'
     rcases hVcase id' with ⟨j, b1, h1, h2, h3, h4, h5⟩ | h5
     ·obtain ⟨L1, q1, q2, q3, q4, q5, q6⟩ := apart j id' b1 h1 h2 h3 h4
      rw [q2] at hL; cases hL
      obtain ⟨s1, s2⟩ := hi.hr.mp id' _ b' q1 (by rw [q4, ← h5]; exact hb') hl' hr'
      exact ⟨s1, by rw [q5]; exact s2⟩
     ·exact hinv.hr.mp id' L b' hL (by rw [← h5]; exact hb') hl' hr'
   refine ⟨φ', i + 1, V', by omega, ?_, hV', ⟨hHR, hinv.b0, hinv.gl, by rw [hV'.1]; exact hinv.len, hinv.dom0, hinv.low, hinv.high, hinv.os, hinv.tape, hinv.output, hinv.size, hinv.keep⟩, hput hle hv', (hsz v').1, (hsz v').2, ?_, ?_, ?_, ?_⟩
   ·intro e T' he hke
    by_cases hei : e = i
    ·subst hei; rw [hXi]; simp
    ·rw [hXe e hei, hcut e T' he hke]
     constructor
     ·intro h1; omega
     ·intro h1; exact hbelow e T' (by omega) hke
   ·intro j id' b' h1 h2 h3
    have hji : j ≠ i := fun e => by subst e; rw [hXi] at h3; cases h3
    have hfr' := hfree j id' b' h1 h2 (by rwa [hXe j hji] at h3)
    rw [hfr.low id' (by have := hids j id' b' h1 h2; rw [← hV.1, ← hLi] at this; exact this)]
    exact hfr'
   ·intro j id1 b' h1 h2 h3 h4 id' L L' hne' hL hL'
    obtain ⟨L1, q1, q2, q3, q4, q5, q6⟩ := apart j id1 b' (by omega) h2 h3 (by rwa [hXe j (by omega)] at h4)
    rw [q2] at hL'; cases hL'
    exact q6 id' L hne' hL
   ·intro j id' b' h1 h2
    have := hids j id' b' h1 h2
    rw [← hV.1, ← hLi] at this
    omega
   ·intro j id' b' h1 h2 h3
    by_cases hji : j = i
    ·subst hji; rw [hk] at h2; cases h2
    ·obtain ⟨L, hL⟩ := hset j id' b' h1 h2 (by rwa [hXe j hji] at h3)
     exact ⟨L, hle _ _ hL⟩
end
def cntF (X : Nat → Bool) : Nat → Nat
 | 0 => 0
 | k + 1 => cntF X k + (if X k then 0 else 1)
theorem cntF_set {X : Nat → Bool} {i : Nat} (hX : X i = false) : ∀ {n : Nat}, (i < n → cntF (setX X i) n + 1 = cntF X n) ∧ (n ≤ i → cntF (setX X i) n = cntF X n) := by
 intro n
 induction n with
 | zero => exact ⟨fun h => by omega, fun _ => rfl⟩
 | succ n ih =>
  refine ⟨fun h => ?_, fun h => ?_⟩
  ·by_cases e : n = i
   ·subst e
    simp only [cntF, ih.2 (Nat.le_refl _), hX, setX, if_true, Bool.false_eq_true, if_false]
   ·have := ih.1 (by omega)
    have e2 : setX X i n = X n := by simp [setX, e]
    simp only [cntF, e2]; omega
  ·have e2 : setX X i n = X n := by simp [setX, show ¬ n = i by omega]
   simp only [cntF, e2, ih.2 (by omega)]
theorem cntF_zero {X : Nat → Bool} : ∀ {n : Nat}, cntF X n = 0 → ∀ i, i < n → X i = true := by
 intro n
 induction n with
 | zero => intro _ i hi; omega
 | succ n ih =>
  intro h i hi
  simp only [cntF] at h
  have h1 : cntF X n = 0 := by omega
  by_cases e : i = n
  ·subst e
   cases hx : X i with
   | true => rfl
   | false => rw [hx] at h; simp at h
  ·exact ih h1 i (by omega)
theorem cntF_false : ∀ n, cntF (fun _ => false) n = n
 | 0 => rfl
 | n + 1 => by simp [cntF, cntF_false n]

section
variable {P : Program} {C : Cx} {ops : Array Oper} {E : Nat → En} {pr : Nat → List Nat} {base : Nat}
def lst (listed : Array Bool) : Nat → Bool := fun i => listed.getD i false
theorem absL_congr {ts : List (Nat × Value)} {X Y : Nat → Bool} : ∀ {n : Nat}, (∀ i, i < n → X i = Y i) → absL ops E ts X n = absL ops E ts Y n := by
 intro n
 induction n with
 | zero => intro _; rfl
 | succ n ih =>
  intro h
  simp only [absL, ih fun i hi => h i (by omega), h n (by omega)]
theorem Mid.congr {B0 : Nat} {φ0 : Phi} {w0 w : World} {X Y : Nat → Bool} {a : Act} (hm : Mid P C ops E B0 φ0 w0 X a w) (h : ∀ i, i < ops.size → X i = Y i) : Mid P C ops E B0 φ0 w0 Y a w := by
 obtain ⟨φ, c, V, hc, hcut, hV, hi, ht, hN, hd, hfree, hearly, hids, hset⟩ := hm.out
 refine ⟨φ, c, V, hc, fun e T he hk => by rw [← h e he]; exact hcut e T he hk, ⟨hV.1, fun id => ⟨fun i b h1 h2 h3 h4 => (hV.2 id).1 i b h1 h2 (by rw [h i h2]; exact h3) h4, fun hno => (hV.2 id).2 fun i b h1 h2 h3 h4 => hno i b h1 h2 (by rw [← h i h2]; exact h3) h4⟩⟩, hi,
  by rw [← absL_congr h]; exact ht, hN, hd, fun i id b h1 h2 h3 => hfree i id b h1 h2 (by rw [h i h1]; exact h3), fun i id b h1 h2 h3 h4 => hearly i id b h1 h2 h3 (by rw [h i h2]; exact h4), hids, fun i id b h1 h2 h3 => hset i id b h1 h2 (by rw [h i h1]; exact h3)⟩
theorem Trc.all (h : Trc P C ops E pr base) (hb0 : C.n0 ≤ base) {B0 : Nat} {φ0 : Phi} {w0 : World} {Q : Exit → Act → World → Prop}
    (hQ : ∀ a' w', Rl P C B0 φ0 w0 (E ops.size).s a' w' → Q .normal a' w') : ∀ (fuel : Nat) (listed : Array Bool) (a : Act) (w : World), listed.size = ops.size → cntF (lst listed) ops.size ≤ fuel →
      (∀ j, lst listed j = true → ∀ m, m ∈ pr j → lst listed m = true) → Mid P C ops E B0 φ0 w0 (lst listed) a w → wpAny P .any ops Q fuel listed a w := by
  have fin : ∀ (listed : Array Bool) (a : Act) (w : World), (∀ i, i < ops.size → lst listed i = true) → Mid P C ops E B0 φ0 w0 (lst listed) a w → Q .normal a w := by
    intro listed a w hall hm
    obtain ⟨φ, c, V, hc, hcut, hV, hi, ht, hN, hd, hfree, hearly, hids, hset⟩ := hm.out
    have hne : ∀ e T, c ≤ e → e < ops.size → (E e).k ≠ .eff T := fun e T h1 h2 h3 => by have := (hcut e T h2 h3).1 (hall e h2); omega
    refine hQ a w ⟨φ, ?_, ?_, hN, hd⟩
    · have hl := h.stL hc (Nat.le_refl _) hne
      refine hi.less (by rw [hl, ← hV.1]; exact hi.len) (fun id L hL => by rw [hl, ← hV.1]; exact hi.hr.dom id L hL) fun id L hL => .inl ?_
      by_cases hnew : ∃ j b, c ≤ j ∧ j < ops.size ∧ (E j).k = .new id b
      · obtain ⟨j, b, h1, h2, h3⟩ := hnew
        rw [(hV.2 id).1 j b h1 h2 (hall j h2) h3]
        exact h.stB h3 h1 h2 (Nat.le_refl _) hne
      · rw [(hV.2 id).2 fun j b h1 h2 _ h3 => hnew ⟨j, b, h1, h2, h3⟩]
        exact h.stA hc (Nat.le_refl _) hne fun j b h1 h2 h3 => hnew ⟨j, b, h1, h2, h3⟩
    · rw [h.text _ (Nat.le_refl _), ← absL_congr hall]; exact ht
  intro fuel
  induction fuel with
  | zero =>
    intro listed a w hsz hc hcl hm
    have hall := cntF_zero (Nat.le_zero.1 hc)
    refine ⟨?_, fin listed a w hall hm⟩
    cases hr : Region.ready .any ops listed with
    | nil => rfl
    | cons i r =>
      have hmem : i ∈ Region.ready .any ops listed := by rw [hr]; simp
      obtain ⟨h0, o, ho, _⟩ := mem_ready.1 hmem
      have hin : i < ops.size := (Array.getElem?_eq_some_iff.1 ho).1
      have := hall i hin
      unfold lst at this
      have hlt : i < listed.size := by omega
      simp [hlt] at h0 this
      rw [h0] at this; cases this
  | succ fuel ih =>
    intro listed a w hsz hc hcl hm
    refine ⟨fun hr => fin listed a w ?_ hm, ?_⟩
    · intro i
      induction i using Nat.strongRecOn with
      | _ i ihi =>
        intro hin
        cases hx : lst listed i with
        | true => rfl
        | false =>
          obtain ⟨o, ho⟩ := opAt hin
          have : i ∈ Region.ready .any ops listed := mem_ready.2 ⟨by unfold lst at hx; have hlt : i < listed.size := by omega
                                                                     simp [hlt] at hx ⊢; exact hx, o, ho, fun e he hb => ihi e.on (h.p4 i o ho e he hb) (by have := h.p4 i o ho e he hb; omega)⟩
          rw [hr] at this; cases this
    · intro i hmem
      obtain ⟨h0, o, ho, hed⟩ := mem_ready.1 hmem
      have hin : i < ops.size := (Array.getElem?_eq_some_iff.1 ho).1
      have hlt : i < listed.size := by omega
      have hX : lst listed i = false := by unfold lst; simp [hlt] at h0 ⊢; exact h0
      have hpr : ∀ j, j ∈ pr i → lst listed j = true := by
        intro j hj
        obtain ⟨_, e, he, hb, hcase⟩ := h.p1 i o ho j hj
        rcases hcase with rfl | ⟨_, hj'⟩
        · exact hed e he hb
        · exact hcl e.on (hed e he hb) j hj'
      have hset : ∀ j, lst (listed.setIfInBounds i true) j = setX (lst listed) i j := by
        intro j
        unfold lst setX
        by_cases e : j = i
        · subst e; simp [hlt]
        · simp only [e, if_false]; exact getD_set_ne false (Ne.symm e)
      refine h.move hb0 hm hcl ho hX hpr fun a' w' hm' => ih _ a' w' (by simp [hsz]) ?_ ?_ (hm'.congr fun j _ => (hset j).symm)
      · have e1 := (cntF_set (n := ops.size) hX).1 hin
        have e2 : cntF (lst (listed.setIfInBounds i true)) ops.size = cntF (setX (lst listed) i) ops.size := by
          rw [show lst (listed.setIfInBounds i true) = setX (lst listed) i from funext hset]
        omega
      · intro j hj m hmj
        rw [hset] at hj ⊢
        by_cases e : j = i
        · subst e
          have := hpr m hmj
          unfold setX; split <;> simp [this]
        · have hj' : lst listed j = true := by simpa [setX, e] using hj
          have := hcl j hj' m hmj
          unfold setX; split <;> simp [this]
end

/-! ### the static look at a region's edges -/
def preOk (ops : List Oper) (pr : List (List Nat)) : Bool :=
 ops.zipIdx.all fun (o, i) => ((pr.getD i []).all fun j => decide (j < i) && o.after.toList.any fun e => Region.binds .any e && (e.on == j || (decide (e.on < i) && (pr.getD e.on []).contains j))) &&
  o.after.toList.all fun e => !Region.binds .any e || decide (e.on < i)
def clash (ops : Array Oper) (a b : Oper) : Bool :=
 (match a.dst with | some d => (looks ops b).contains d || b.dst == some d | none => false) || (match b.dst with | some d => (looks ops a).contains d | none => false) || (isEff a.op && isEff b.op)
def pairOk (ops : Array Oper) (pr : List (List Nat)) : Bool :=
 ops.toList.zipIdx.all fun (o, j) => ops.toList.zipIdx.all fun (o', i) => decide (j ≤ i) || !clash ops o' o || (pr.getD j []).contains i
def drawOk (ops : Array Oper) (pr : List (List Nat)) : Bool := preOk ops.toList pr && pairOk ops pr

/-! ### the walk in the text's order -/
inductive HE where
 | load (t : TypeId) (a v : Value)
 | eff (H : Heap)
 | new (id : Nat)
def chkB (P : Program) (p : List Nat) (t : TypeId) (a v : Value) : List (Nat × HE) → Prop
 | [] => True
 | (e, .eff H) :: r => if p.contains e then chkB P p t a v r else ldA P H t a = some v ∧ chkB P p t a v r
 | (_, .load _ _ _) :: r => chkB P p t a v r
 | (_, .new _) :: r => chkB P p t a v r
def chkA (P : Program) (p : List Nat) (H H' : Heap) : List (Nat × HE) → Prop
 | [] => True
 | (_, .eff _) :: r => chkA P p H H' r
 | (j, .load t a v) :: r => if p.contains j then chkA P p H H' r else ldA P H' t a = some v ∧ chkA P p H H' r
 | (j, .new id) :: r => if p.contains j then chkA P p H H' r else H'[id]? = H[id]? ∧ chkA P p H H' r
/-- Ids that are still to come stay dead. -/
def pendD (H : Heap) (id : Nat) : Nat → Prop
 | 0 => True
 | f + 1 => Heap.hot H id = false ∧ pendD H (id + 1) f
def drawP (P : Program) (C : Cx) (ops : Array Oper) (pr : List (List Nat)) (base m : Nat) : List Oper → Nat → Nat → List (Nat × HE) → St → (St → Prop) → Prop
 | [], _, _, _, s, K => K s
 | o :: l, i, cnt, hist, s, K => dstOk C.N o.dst ∧ match wantedA ops o s.ts with
  | none => False
  | some false => drawP P C ops pr base m l (i + 1) cnt hist ⟨putT o.dst uV s.ts, s.H⟩ K
  | some true => match o.op with
   | .load t x => match evO s.ts x with
    | some a => match ldA P s.H t a with
     | some v => chkB P (pr.getD i []) t a v hist ∧ drawP P C ops pr base m l (i + 1) cnt ((i, .load t a v) :: hist) ⟨putT o.dst v s.ts, s.H⟩ K
     | none => False
    | none => False
   | .store t x y => match evO s.ts x, evO s.ts y with
    | some a, some v => match stA P s.H t a v with
     | some r => wr C.n0 C.D r.1 ∧ chkA P (pr.getD i []) s.H r.2 hist ∧ pendD r.2 (base + cnt) (m - cnt) ∧ drawP P C ops pr base m l (i + 1) cnt ((i, .eff s.H) :: hist) ⟨putT o.dst uV s.ts, r.2⟩ K
     | none => False
    | _, _ => False
   | .call { callee := .value fx, args := as, argTypes := _ } => match (evO s.ts fx).bind fnV, evL (evO s.ts) as.toList with
    | some r, some vs => Ask P r.1 (vs ++ r.2) s.H fun v H' Dc => wrL C.n0 C.D Dc ∧ liveL s.H Dc ∧ s.H.length ≤ H'.length ∧
      chkA P (pr.getD i []) s.H H' hist ∧ pendD H' (base + cnt) (m - cnt) ∧ drawP P C ops pr base m l (i + 1) cnt ((i, .eff s.H) :: hist) ⟨putT o.dst v s.ts, H'⟩ K
    | _, _ => False
   | .call { callee := .builtin .append, args := as, argTypes := ts } => match as.toList with
    | [x, y] => match evO s.ts x, evO s.ts y with
     | some a, some b => match apA P s.H ts.toList a b with
      | some r => wrO C.n0 C.D r.1 ∧ liveO s.H r.1 ∧ chkA P (pr.getD i []) s.H r.2.2 hist ∧ pendD r.2.2 (base + cnt) (m - cnt) ∧
        drawP P C ops pr base m l (i + 1) cnt ((i, .eff s.H) :: hist) ⟨putT o.dst r.2.1 s.ts, r.2.2⟩ K
      | none => False
     | _, _ => False
    | _ => False
   | .alloc t => match newA P (evO s.ts) (.alloc t) with
    | some r => cnt < m ∧ drawP P C ops pr base m l (i + 1) (cnt + 1) ((i, .new (base + cnt)) :: hist) ⟨putT o.dst (r.val (base + cnt)) s.ts, s.H.set (base + cnt) ⟨r.ty, r.cells, true, true⟩⟩ K
    | none => False
   | .box t x => match newA P (evO s.ts) (.box t x) with
    | some r => cnt < m ∧ drawP P C ops pr base m l (i + 1) (cnt + 1) ((i, .new (base + cnt)) :: hist) ⟨putT o.dst (r.val (base + cnt)) s.ts, s.H.set (base + cnt) ⟨r.ty, r.cells, true, true⟩⟩ K
    | none => False
   | .buildSlice t n ps => match newA P (evO s.ts) (.buildSlice t n ps) with
    | some r => cnt < m ∧ drawP P C ops pr base m l (i + 1) (cnt + 1) ((i, .new (base + cnt)) :: hist) ⟨putT o.dst (r.val (base + cnt)) s.ts, s.H.set (base + cnt) ⟨r.ty, r.cells, true, true⟩⟩ K
    | none => False
   | .makeSlice t a b => match newA P (evO s.ts) (.makeSlice t a b) with
    | some r => cnt < m ∧ drawP P C ops pr base m l (i + 1) (cnt + 1) ((i, .new (base + cnt)) :: hist) ⟨putT o.dst (r.val (base + cnt)) s.ts, s.H.set (base + cnt) ⟨r.ty, r.cells, true, true⟩⟩ K
    | none => False
   | op => match pureOp P (evO s.ts) op with
    | some v => drawP P C ops pr base m l (i + 1) cnt hist ⟨putT o.dst v s.ts, s.H⟩ K
    | none => False

/-! ### out of the walk, the trace -/
def HN (i : Nat) (e : En) : List (Nat × HE) := match e.wt, e.k with
 | true, .load t a => [(i, .load t a e.v)]
 | true, .new id _ => [(i, .new id)]
 | true, .eff _ => [(i, .eff e.s.H)]
 | _, _ => []
def cN1 (e : En) : Nat := match e.wt, e.k with
 | true, .new _ _ => 1
 | _, _ => 0
def hsE (E : Nat → En) : Nat → List (Nat × HE)
 | 0 => []
 | i + 1 => HN i (E i) ++ hsE E i
def cnE (E : Nat → En) : Nat → Nat
 | 0 => 0
 | i + 1 => cnE E i + cN1 (E i)
def Good (P : Program) (C : Cx) (ops : Array Oper) (pr : List (List Nat)) (base m i : Nat) (o : Oper) (cnt : Nat) (hist : List (Nat × HE)) (e : En) (s' : St) : Prop :=
 dstOk C.N o.dst ∧ s'.ts = putT o.dst e.v e.s.ts ∧ wantedA ops o e.s.ts = some e.wt ∧
 (e.wt = false → e.v = uV ∧ e.k = .pure ∧ s'.H = e.s.H) ∧
 (e.wt = true → match e.k with
  | .pure => pureOp P (evO e.s.ts) o.op = some e.v ∧ s'.H = e.s.H
  | .load t a => (∃ x, o.op = .load t x ∧ evO e.s.ts x = some a) ∧ ldA P e.s.H t a = some e.v ∧ s'.H = e.s.H ∧ chkB P (pr.getD i []) t a e.v hist
  | .new id b => ∃ r, newA P (evO e.s.ts) o.op = some r ∧ b = ⟨r.ty, r.cells, true, true⟩ ∧ e.v = r.val id ∧ s'.H = e.s.H.set id b ∧ id = base + cnt ∧ cnt < m
  | .eff T => isEff o.op = true ∧ SE P C o e.s .eff e.v s'.H T ∧ (∀ d, d ∈ T → e.s.H.live d = true) ∧ e.s.H.length ≤ s'.H.length ∧ chkA P (pr.getD i []) e.s.H s'.H hist ∧ pendD s'.H (base + cnt) (m - cnt))
theorem apA_len {P : Program} {H : Heap} {ts : List TypeId} {a b : Value} {r : Option Nat × Value × Heap} (h : apA P H ts a b = some r) : H.length ≤ r.2.2.length := by
 have h0 : ∀ {r : Option Nat × Value × Heap}, apA0 P H ts a b = some r → H.length ≤ r.2.2.length := fun h => by
  unfold apA0 at h
  (repeat' split at h) <;> first | cases h; done | (cases h; simp [length_killO])
 unfold apA at h
 cases h1 : apA0 P H ts a b with
 | some r' => rw [h1] at h; cases h; exact h0 h1
 | none =>
 rw [h1] at h
 simp only [Option.none_or] at h
 unfold apS at h
 (repeat' split at h) <;> first | cases h; done | (cases h; simp [length_killO])
theorem stA_len {P : Program} {H : Heap} {t : TypeId} {a v : Value} {r : Nat × Heap} (h : stA P H t a v = some r) : H.length ≤ r.2.length ∧ H.live r.1 = true := by
 unfold stA at h
 split at h
 ·split at h
  ·rename_i hh; cases h; exact ⟨by rw [Heap.length_puts]; exact Nat.le_refl _, Heap.live_of_rwOk hh.1⟩
  ·cases h
 ·cases h
theorem drawP_step {P : Program} {C : Cx} {ops : Array Oper} {pr : List (List Nat)} {base m i cnt : Nat} {o : Oper} {l : List Oper} {hist : List (Nat × HE)} {s : St} {K : St → Prop}
  (h : drawP P C ops pr base m (o :: l) i cnt hist s K) : ∃ e s', e.s = s ∧ Good P C ops pr base m i o cnt hist e s' ∧ drawP P C ops pr base m l (i + 1) (cnt + cN1 e) (HN i e ++ hist) s' K := by
 obtain ⟨hd, h⟩ := h
 split at h
 ·exact h.elim
 ·rename_i hw
  exact ⟨⟨s, .pure, uV, false⟩, ⟨putT o.dst uV s.ts, s.H⟩, rfl, ⟨hd, rfl, hw, fun _ => ⟨rfl, rfl, rfl⟩, fun e => by cases e⟩, h⟩
 ·rename_i hw
  have news : ∀ (r : NewR), newA P (evO s.ts) o.op = some r → cnt < m → drawP P C ops pr base m l (i + 1) (cnt + 1) ((i, .new (base + cnt)) :: hist) ⟨putT o.dst (r.val (base + cnt)) s.ts, s.H.set (base + cnt) ⟨r.ty, r.cells, true, true⟩⟩ K →
    ∃ e s', e.s = s ∧ Good P C ops pr base m i o cnt hist e s' ∧ drawP P C ops pr base m l (i + 1) (cnt + cN1 e) (HN i e ++ hist) s' K := fun r hr hc h =>
   ⟨⟨s, .new (base + cnt) ⟨r.ty, r.cells, true, true⟩, r.val (base + cnt), true⟩, ⟨putT o.dst (r.val (base + cnt)) s.ts, s.H.set (base + cnt) ⟨r.ty, r.cells, true, true⟩⟩, rfl, ⟨hd, rfl, hw, (fun e => by cases e), fun _ => ⟨r, hr, rfl, rfl, rfl, rfl, hc⟩⟩, h⟩
  split at h
  ·rename_i t x ho
   split at h
   ·rename_i a ha
    split at h
    ·rename_i v hv
     exact ⟨⟨s, .load t a, v, true⟩, ⟨putT o.dst v s.ts, s.H⟩, rfl, ⟨hd, rfl, hw, (fun e => by cases e), fun _ => ⟨⟨x, ho, ha⟩, hv, rfl, h.1⟩⟩, h.2⟩
    ·exact h.elim
   ·exact h.elim
  ·rename_i t x y ho
   split at h
   ·rename_i a v ha hv
    split at h
    ·rename_i r hr
     obtain ⟨h1, h2, h3, h4⟩ := h
     obtain ⟨l1, l2⟩ := stA_len hr
     exact ⟨⟨s, .eff [r.1], uV, true⟩, ⟨putT o.dst uV s.ts, r.2⟩, rfl, ⟨hd, rfl, hw, (fun e => by cases e), fun _ => ⟨by rw [ho]; rfl, .store ho ha hv hr h1, (fun d hd' => by simp at hd'; rw [hd']; exact l2), l1, h2, h3⟩⟩, h4⟩
    ·exact h.elim
   ·exact h.elim
  ·rename_i fx as ts ho
   split at h
   ·rename_i r vs hf ha
    obtain ⟨v, H', Dc, h1, h2, h2l, h3, h4, h5, h6⟩ := h
    obtain ⟨u, hu, hfn⟩ := Option.bind_eq_some_iff.1 hf
    obtain ⟨cap, rfl, hcap⟩ := fnV_eq hfn
    rw [← hcap] at h1
    exact ⟨⟨s, .eff Dc, v, true⟩, ⟨putT o.dst v s.ts, H'⟩, rfl, ⟨hd, rfl, hw, (fun e => by cases e), fun _ => ⟨by rw [ho]; rfl, .call ho hu ha h1 h2, h2l, h3, h4, h5⟩⟩, h6⟩
   ·exact h.elim
  ·rename_i as ts ho
   split at h
   ·rename_i x y has
    split at h
    ·rename_i a b ha hb
     split at h
     ·rename_i r hr
      obtain ⟨h1, h1l, h2, h3, h4⟩ := h
      exact ⟨⟨s, .eff r.1.toList, r.2.1, true⟩, ⟨putT o.dst r.2.1 s.ts, r.2.2⟩, rfl, ⟨hd, rfl, hw, (fun e => by cases e), fun _ => ⟨by rw [ho]; rfl, .append ho has ha hb hr h1, fun d hd' => h1l d (by simpa using hd'), apA_len hr, h2, h3⟩⟩, h4⟩
     ·exact h.elim
    ·exact h.elim
   ·exact h.elim
  ·rename_i t ho
   split at h
   ·rename_i r hr; exact news r (by rw [ho]; exact hr) h.1 h.2
   ·exact h.elim
  ·rename_i t x ho
   split at h
   ·rename_i r hr; exact news r (by rw [ho]; exact hr) h.1 h.2
   ·exact h.elim
  ·rename_i t n ps ho
   split at h
   ·rename_i r hr; exact news r (by rw [ho]; exact hr) h.1 h.2
   ·exact h.elim
  ·rename_i t a b ho
   split at h
   ·rename_i r hr; exact news r (by rw [ho]; exact hr) h.1 h.2
   ·exact h.elim
  ·split at h
   ·rename_i v hv
    exact ⟨⟨s, .pure, v, true⟩, ⟨putT o.dst v s.ts, s.H⟩, rfl, ⟨hd, rfl, hw, (fun e => by cases e), fun _ => ⟨hv, rfl⟩⟩, h⟩
   ·exact h.elim
theorem hsE_congr {E E' : Nat → En} : ∀ {i : Nat}, (∀ q, q < i → E q = E' q) → hsE E i = hsE E' i ∧ cnE E i = cnE E' i
 | 0, _ => ⟨rfl, rfl⟩
 | i + 1, h => by
  obtain ⟨h1, h2⟩ := hsE_congr (i := i) fun q hq => h q (by omega)
  simp only [hsE, cnE, h1, h2, h i (by omega), and_self]
theorem drawP_trace {P : Program} {C : Cx} {ops : Array Oper} {pr : List (List Nat)} {base m : Nat} {K : St → Prop} : ∀ (l : List Oper) (i : Nat) (E0 : Nat → En) (s : St), drawP P C ops pr base m l i (cnE E0 i) (hsE E0 i) s K →
  ∃ E : Nat → En, (∀ q, q < i → E q = E0 q) ∧ (E i).s = s ∧ K (E (i + l.length)).s ∧ ∀ q o, l[q]? = some o → Good P C ops pr base m (i + q) o (cnE E (i + q)) (hsE E (i + q)) (E (i + q)) (E (i + q + 1)).s
 | [], i, E0, s, h => ⟨fun q => if q = i then ⟨s, .pure, uV, false⟩ else E0 q, fun q hq => by simp [show ¬ q = i by omega], by simp, by simpa [drawP] using h, fun q o hq => by simp at hq⟩
 | o :: l, i, E0, s, h => by
  obtain ⟨e, s', hes, hg, hn⟩ := drawP_step h
  have hag : ∀ q, q < i → (fun q => if q = i then e else E0 q) q = E0 q := fun q hq => by simp [show ¬ q = i by omega]
  obtain ⟨c1, c2⟩ := hsE_congr hag
  obtain ⟨E, k1, k2, k3, k4⟩ := drawP_trace l (i + 1) (fun q => if q = i then e else E0 q) s' (by
   simp only [cnE, hsE, c1, c2, if_true]; exact hn)
  have hEi : E i = e := by rw [k1 i (by omega)]; simp
  have hbelow : ∀ q, q < i → E q = E0 q := fun q hq => by rw [k1 q (by omega)]; exact hag q hq
  refine ⟨E, hbelow, by rw [hEi]; exact hes, by rw [show i + (o :: l).length = i + 1 + l.length by simp; omega]; exact k3, fun q o' hq => ?_⟩
  obtain ⟨d1, d2⟩ := hsE_congr hbelow
  cases q with
  | zero =>
   simp at hq; subst hq
   rw [Nat.add_zero, hEi, d1, d2, k2]; exact hg
  | succ q =>
   have := k4 q o' (by simpa using hq)
   rw [show i + (q + 1) = i + 1 + q by omega]; exact this

theorem hs_mem {E : Nat → En} {j : Nat} {x : Nat × HE} : ∀ {i : Nat}, j < i → x ∈ HN j (E j) → x ∈ hsE E i
 | 0, h, _ => by omega
 | i + 1, h, hx => by
  simp only [hsE, List.mem_append]
  by_cases e : j = i
  ·subst e; exact .inl hx
  ·exact .inr (hs_mem (i := i) (by omega) hx)
theorem chkB_mem {P : Program} {p : List Nat} {t : TypeId} {a v : Value} {e : Nat} {H : Heap} : ∀ {hist : List (Nat × HE)}, chkB P p t a v hist → (e, HE.eff H) ∈ hist → e ∉ p → ldA P H t a = some v
 | [], _, hm, _ => by simp at hm
 | (e', .eff H') :: r, h, hm, hp => by
  simp only [chkB] at h
  rcases List.mem_cons.1 hm with heq | hm'
  ·cases heq
   rw [if_neg (by simpa using hp)] at h; exact h.1
  ·split at h
   ·exact chkB_mem h hm' hp
   ·exact chkB_mem h.2 hm' hp
 | (e', .load _ _ _) :: r, h, hm, hp => chkB_mem (hist := r) h (by simpa using hm) hp
 | (e', .new _) :: r, h, hm, hp => chkB_mem (hist := r) h (by simpa using hm) hp
theorem chkA_load {P : Program} {p : List Nat} {H H' : Heap} {t : TypeId} {a v : Value} {j : Nat} : ∀ {hist : List (Nat × HE)}, chkA P p H H' hist → (j, HE.load t a v) ∈ hist → j ∉ p → ldA P H' t a = some v
 | [], _, hm, _ => by simp at hm
 | (e', .load t' a' v') :: r, h, hm, hp => by
  simp only [chkA] at h
  rcases List.mem_cons.1 hm with heq | hm'
  ·cases heq
   rw [if_neg (by simpa using hp)] at h; exact h.1
  ·split at h
   ·exact chkA_load h hm' hp
   ·exact chkA_load h.2 hm' hp
 | (e', .new id) :: r, h, hm, hp => by
  simp only [chkA] at h
  have hm' : (j, HE.load t a v) ∈ r := by simpa using hm
  split at h
  ·exact chkA_load h hm' hp
  ·exact chkA_load h.2 hm' hp
 | (e', .eff _) :: r, h, hm, hp => chkA_load (hist := r) h (by simpa using hm) hp
theorem chkA_new {P : Program} {p : List Nat} {H H' : Heap} {id j : Nat} : ∀ {hist : List (Nat × HE)}, chkA P p H H' hist → (j, HE.new id) ∈ hist → j ∉ p → H'[id]? = H[id]?
 | [], _, hm, _ => by simp at hm
 | (e', .new id') :: r, h, hm, hp => by
  simp only [chkA] at h
  rcases List.mem_cons.1 hm with heq | hm'
  ·cases heq
   rw [if_neg (by simpa using hp)] at h; exact h.1
  ·split at h
   ·exact chkA_new h hm' hp
   ·exact chkA_new h.2 hm' hp
 | (e', .load t' a' v') :: r, h, hm, hp => by
  simp only [chkA] at h
  have hm' : (j, HE.new id) ∈ r := by simpa using hm
  split at h
  ·exact chkA_new h hm' hp
  ·exact chkA_new h.2 hm' hp
 | (e', .eff _) :: r, h, hm, hp => chkA_new (hist := r) h (by simpa using hm) hp
theorem pendD_at {H : Heap} : ∀ {f id : Nat}, pendD H id f → ∀ q, q < f → Heap.hot H (id + q) = false
 | 0, id, _, q, hq => by omega
 | f + 1, id, h, q, hq => by
  cases q with
  | zero => exact h.1
  | succ q => rw [show id + (q + 1) = id + 1 + q by omega]; exact pendD_at h.2 q (by omega)
def deadB : Blk := ⟨0, [], false, false⟩

theorem Trc.of_good {P : Program} {C : Cx} {ops : Array Oper} {pr : List (List Nat)} {base m : Nat} {E : Nat → En} {H0 : Heap} (hst : drawOk ops pr = true) (hb : base = H0.length) (h0 : (E 0).s.H = H0 ++ List.replicate m deadB)
  (hg : ∀ q o, ops[q]? = some o → Good P C ops pr base m q o (cnE E q) (hsE E q) (E q) (E (q + 1)).s) : Trc P C ops E (fun i => pr.getD i []) base := by
 have hlen0 : (E 0).s.H.length = base + m := by rw [h0, hb]; simp
 have kinds : ∀ q, q < ops.size → ((∃ T, (E q).k = .eff T) ∧ (E q).wt = true ∧ (E q).s.H.length ≤ (E (q + 1)).s.H.length ∧ cN1 (E q) = 0 ∧ pendD (E (q + 1)).s.H (base + cnE E q) (m - cnE E q)) ∨
   (∃ b, (E q).k = .new (base + cnE E q) b ∧ (E q).wt = true ∧ cnE E q < m ∧ cN1 (E q) = 1 ∧ (E (q + 1)).s.H = (E q).s.H.set (base + cnE E q) b) ∨
   ((E (q + 1)).s.H = (E q).s.H ∧ cN1 (E q) = 0 ∧ (∀ id b, (E q).k ≠ .new id b) ∧ ∀ T, (E q).k ≠ .eff T) := by
  intro q hq
  obtain ⟨o, ho⟩ := opAt hq
  obtain ⟨_, _, _, h4, h5⟩ := hg q o ho
  cases hw : (E q).wt with
  | false => obtain ⟨_, hk, hH⟩ := h4 hw; exact .inr (.inr ⟨hH, by simp [cN1, hw], fun id b => by rw [hk]; simp, fun T => by rw [hk]; simp⟩)
  | true =>
   have h5' := h5 hw
   cases hk : (E q).k with
   | pure => rw [hk] at h5'; exact .inr (.inr ⟨h5'.2, by simp [cN1, hw, hk], fun id b => by simp, fun T => by simp⟩)
   | load t a => rw [hk] at h5'; exact .inr (.inr ⟨h5'.2.2.1, by simp [cN1, hw, hk], fun id b => by simp, fun T => by simp⟩)
   | eff T => rw [hk] at h5'; exact .inl ⟨⟨T, rfl⟩, rfl, h5'.2.2.2.1, by simp [cN1, hw, hk], h5'.2.2.2.2.2⟩
   | new id b =>
    rw [hk] at h5'
    obtain ⟨r, _, _, _, hH, hid, hc⟩ := h5'
    subst hid
    exact .inr (.inl ⟨b, rfl, rfl, hc, by simp [cN1, hw, hk], hH⟩)
 have hlen : ∀ q, q ≤ ops.size → base + m ≤ (E q).s.H.length := by
  intro q
  induction q with
  | zero => intro _; omega
  | succ q ih =>
   intro hq
   have ih' := ih (by omega)
   rcases kinds q (by omega) with ⟨_, _, h1, _⟩ | ⟨b, _, _, _, _, hH⟩ | ⟨hH, _⟩
   ·omega
   ·rw [hH]; simpa using ih'
   ·rw [hH]; exact ih'
 have hdead : ∀ k, k ≤ ops.size → ∀ q, cnE E k ≤ q → q < m → Heap.hot (E k).s.H (base + q) = false := by
  intro k
  induction k with
  | zero =>
   intro _ q _ hq
   unfold Heap.hot
   rw [h0, hb, List.getElem?_append_right (by omega)]
   simp [hq, deadB]
  | succ k ih =>
   intro hk q hcq hqm
   rcases kinds k (by omega) with ⟨_, _, _, hc, hp⟩ | ⟨b, _, _, _, hc, hH⟩ | ⟨hH, hc, _⟩
   ·simp only [cnE, hc] at hcq
    have := pendD_at hp (q - cnE E k) (by omega)
    rwa [show base + cnE E k + (q - cnE E k) = base + q by omega] at this
   ·simp only [cnE, hc] at hcq
    have := ih (by omega) q (by omega) hqm
    unfold Heap.hot at this ⊢
    rw [hH, List.getElem?_set_ne (by omega)]; exact this
   ·simp only [cnE, hc] at hcq
    rw [hH]; exact ih (by omega) q (by omega) hqm
 have hmono : ∀ d k, cnE E k ≤ cnE E (k + d) := by
  intro d
  induction d with
  | zero => intro k; exact Nat.le_refl _
  | succ d ih => intro k; have := ih k; rw [show k + (d + 1) = k + d + 1 by omega]; simp only [cnE]; omega
 have hnew : ∀ j id b, j < ops.size → (E j).k = .new id b → id = base + cnE E j ∧ cnE E j < m ∧ (E j).wt = true ∧ cN1 (E j) = 1 := by
  intro j id b hj hk
  rcases kinds j hj with ⟨⟨T, hT⟩, _⟩ | ⟨b', hk', hw, hc, hc1, _⟩ | ⟨_, _, hno, _⟩
  ·rw [hk] at hT; cases hT
  ·rw [hk] at hk'; cases hk'; exact ⟨rfl, hc, hw, hc1⟩
  ·exact absurd hk (hno id b)
 have heffw : ∀ j T, j < ops.size → (E j).k = .eff T → (E j).wt = true := by
  intro j T hj hk
  rcases kinds j hj with ⟨_, hw, _⟩ | ⟨b', hk', _⟩ | ⟨_, _, _, hno⟩
  ·exact hw
  ·rw [hk] at hk'; cases hk'
  ·exact absurd hk (hno T)
 simp only [drawOk, Bool.and_eq_true] at hst
 obtain ⟨hpre, hpair⟩ := hst
 simp only [preOk, List.all_eq_true] at hpre
 simp only [pairOk, List.all_eq_true] at hpair
 have hzip : ∀ (q : Nat) (o : Oper), ops[q]? = some o → (o, q) ∈ ops.toList.zipIdx := fun q o ho => by
  rw [List.mem_zipIdx_iff_getElem?]; simpa using ho
 have hpp : ∀ i j oi oj, ops[i]? = some oi → ops[j]? = some oj → i < j → clash ops oi oj = true → i ∈ pr.getD j [] := by
  intro i j oi oj hi hj hij hc
  have := hpair (oj, j) (hzip j oj hj) (oi, i) (hzip i oi hi)
  simp only [hc, Bool.not_true, Bool.or_false, Bool.or_eq_true, decide_eq_true_eq] at this
  rcases this with h1 | h1
  ·omega
  ·simpa using h1
 refine ⟨?_, ?_, ?_, ?_, ?_, ?_, ?_, ?_, ?_, ?_, ?_⟩
 ·intro i o ho
  have hi : i < ops.size := (Array.getElem?_eq_some_iff.1 ho).1
  obtain ⟨g1, g2, g3, g4, g5⟩ := hg i o ho
  refine ⟨g1, g2, g3, g4, fun hw => ?_⟩
  have g5' := g5 hw
  cases hk : (E i).k with
  | pure => rw [hk] at g5'; exact g5'
  | load t a => rw [hk] at g5'; exact ⟨g5'.1, g5'.2.1, g5'.2.2.1⟩
  | new id b =>
   rw [hk] at g5'
   obtain ⟨r, r1, r2, r3, r4, r5, r6⟩ := g5'
   exact ⟨r, r1, r2, r3, r4, by rw [r5]; exact Heap.live_of_hot_f (hdead i (by omega) _ (Nat.le_refl _) r6), by have := hlen i (by omega); omega⟩
  | eff T => rw [hk] at g5'; exact ⟨g5'.1, g5'.2.1, g5'.2.2.1, g5'.2.2.2.1⟩
 ·intro i o ho j hj
  have := hpre (o, i) (hzip i o ho)
  simp only [Bool.and_eq_true, List.all_eq_true] at this
  have h1 := this.1 j hj
  simp only [Bool.and_eq_true, decide_eq_true_eq, List.any_eq_true, Bool.or_eq_true, beq_iff_eq] at h1
  obtain ⟨h2, e, he, hb', hc⟩ := h1
  refine ⟨h2, e, Array.mem_toList_iff.1 he, hb', ?_⟩
  rcases hc with hc | hc
  ·exact .inl hc
  ·exact .inr ⟨hc.1, by simpa using hc.2⟩
 ·intro i j oi oj hi hj hij hc
  refine hpp i j oi oj hi hj hij ?_
  unfold clash
  rcases hc with ⟨d, hd, hc⟩ | ⟨d, hd, hc⟩
  ·rw [hd]
   rcases hc with hc | hc
   ·simp [hc]
   ·simp [hc]
  ·rw [hd]; simp [hc]
 ·intro i j oi oj hi hj hij h1 h2
  exact hpp i j oi oj hi hj hij (by unfold clash; simp [h1, h2])
 ·intro i o ho e he hb'
  have := hpre (o, i) (hzip i o ho)
  simp only [Bool.and_eq_true, List.all_eq_true] at this
  have h1 := this.2 e (Array.mem_toList_iff.2 he)
  simp only [hb', Bool.not_true, Bool.false_or, decide_eq_true_eq] at h1
  exact h1
 ·intro i j t a T hij hj hki hwi hkj hp
  obtain ⟨o, ho⟩ := opAt hj
  obtain ⟨_, _, _, _, g5⟩ := hg j o ho
  have g5' := g5 (heffw j T hj hkj)
  rw [hkj] at g5'
  exact chkA_load g5'.2.2.2.2.1 (hs_mem hij (by simp [HN, hwi, hki])) hp
 ·intro i j t a T hij hj hki hkj hwj hp
  obtain ⟨o, ho⟩ := opAt hj
  obtain ⟨_, _, _, _, g5⟩ := hg j o ho
  have g5' := g5 hwj
  rw [hkj] at g5'
  exact chkB_mem g5'.2.2.2 (hs_mem hij (by simp [HN, heffw i T (by omega) hki, hki])) hp
 ·intro i j id b T hij hj hki hkj hp
  obtain ⟨o, ho⟩ := opAt hj
  obtain ⟨_, _, _, _, g5⟩ := hg j o ho
  have g5' := g5 (heffw j T hj hkj)
  rw [hkj] at g5'
  exact chkA_new g5'.2.2.2.2.1 (hs_mem hij (by simp [HN, (hnew i id b (by omega) hki).2.2.1, hki])) hp
 ·intro j id b hj hk k hkj
  obtain ⟨h1, h2, _⟩ := hnew j id b hj hk
  rw [h1]
  refine hdead k (by omega) _ ?_ h2
  have := hmono (j - k) k
  rwa [show k + (j - k) = j by omega] at this
 ·intro j id b hj hk
  obtain ⟨h1, h2, _⟩ := hnew j id b hj hk
  exact ⟨by rw [hlen0]; omega, by omega⟩
 ·intro i j id b b' hij hj hki hkj
  obtain ⟨h1, _, _, h4⟩ := hnew i id b (by omega) hki
  obtain ⟨h2, _⟩ := hnew j id b' hj hkj
  have := hmono (j - (i + 1)) (i + 1)
  rw [show i + 1 + (j - (i + 1)) = j by omega] at this
  simp only [cnE, h4] at this
  omega

theorem Inv.drew {P : Program} {B0 n0 : Nat} {D : List Nat} {φ0 φ : Phi} {w0 w : World} {H : Heap} (h : Inv P B0 n0 D φ0 w0 φ H w) : Inv P B0 n0 D φ0 w0 φ H { w with drawn := w.drawn + 1 } :=
 ⟨⟨h.hr.dom, h.hr.ro, h.hr.lt, h.hr.cell, h.hr.row, h.hr.flag, h.hr.inj, h.hr.mp⟩, h.b0, h.gl.on fun _ _ => rfl, h.len, h.dom0, h.low, h.high, h.os, h.tape, h.output, h.size, h.keep⟩
/-- **A region that draws its order**, walked in the text's order: m new blocks get their ids first. -/
theorem ak_draw {P : Program} {C : Cx} {R : St → Prop} {k : List It} {ts : List (Nat × Value)} {H : Heap} {id : Nat} {ops : Array Oper} (hmix : P.follows .mixedOrders = true) (pr : List (List Nat)) (m : Nat) (hst : drawOk ops pr = true)
  (h : ∀ K : St → Prop, (∀ s', AK P C R k s' → K s') → drawP P C ops pr H.length m ops.toList 0 0 [] ⟨ts, H ++ List.replicate m deadB⟩ K) : AK P C R (.c (.region id ops true) :: k) ⟨ts, H⟩ := by
 have h' := h (AK P C R k) fun _ h => h
 obtain ⟨E, _, hE0, hK, hg⟩ := drawP_trace (m := m) ops.toList 0 (fun _ => ⟨⟨[], []⟩, .pure, uV, false⟩) _ h'
 simp only [Nat.zero_add, Array.length_toList, Array.getElem?_toList] at hK hg
 have hT := Trc.of_good hst rfl (by rw [hE0]) hg
 refine ⟨.normal, (E ops.size).s, fun B0 φ0 w0 a w hR => ?_, hK⟩
 obtain ⟨φ, hi, ht, hN, hd⟩ := hR
 have hz : lst (Array.replicate ops.size false) = fun _ => false := by
  funext i
  unfold lst
  by_cases hi : i < ops.size
  ·simp [hi]
  ·simp [hi]
 have hE0H : (E 0).s.H = H ++ List.replicate m deadB := by rw [hE0]
 have hno : ∀ i, lst (Array.replicate ops.size false) i ≠ true := fun i => by rw [hz]; simp
 refine wp_region_any hmix (hT.all (B0 := B0) (φ0 := φ0) (w0 := w0) hi.len (fun a' w' hR' => ⟨rfl, hR'⟩) ops.size _ a _ (by simp) (by rw [hz, cntF_false]; exact Nat.le_refl _) (fun j hj => absurd hj (hno j)) ?_)
 refine ⟨φ, 0, (E 0).s.H, Nat.zero_le _, fun e T he hk => by rw [hz]; simp, ⟨rfl, fun id => ⟨fun i b _ _ h3 => absurd h3 (hno i), fun _ => rfl⟩⟩, ?_, ?_, hN, hd, ?_, fun i id b _ _ _ h4 => absurd h4 (hno i), fun i id b h1 h2 => (hT.cI i id b h1 h2).1, fun i id b _ _ h3 => absurd h3 (hno i)⟩
 ·rw [hE0H]
  exact (hi.drew.less (by have : C.n0 ≤ H.length := hi.len; simp; omega) (fun id L hL => by have := hi.hr.dom id L hL; simp only [List.length_append]; simp only at this; omega) fun id L hL => .inl (List.getElem?_append_left (hi.hr.dom id L hL)))
 ·rw [hz]
  have : ∀ n, absL ops E (E 0).s.ts (fun _ => false) n = (E 0).s.ts := by
   intro n
   induction n with
   | zero => rfl
   | succ n ih =>
    simp only [absL, ih]
    cases ops[n]? <;> simp
  rw [this, hE0]; exact ht
 ·intro i id b h1 h2 _
  cases e : φ id with
  | none => rfl
  | some L =>
   have h3 := hi.hr.dom id L e
   have h4 := (hT.cI i id b h1 h2).2
   simp only at h3
   omega
end Go.Proofs.YtpoedfmkiiijnaaDoorAm
