/- The abstract machine, part 7: an operation at a time that is not the text's: what it asks of the frame and of memory. Plain lemmas; no program in sight. -/
import Derived.Test.YtpoedfmkiiijnaaAm6
namespace Go.Proofs.YtpoedfmkiiijnaaAm
open Go Go.RowKit
set_option linter.unusedVariables false
set_option linter.unusedSimpArgs false

/-! ### an id that was waiting for its block -/
theorem HR.addAt {P : Program} {B0 : Nat} {φ : Phi} {H : Heap} {w : World} (h : HR P B0 φ H w) {id : Nat} (hn : φ id = none)
    {ty : TypeId} {xs : List Value} {cur : Array Value} {cap sz g : Nat} (hid : H[id]? = some ⟨ty, xs, true, true⟩) (hsz : szO P ty = some sz) (hB : B0 ≤ g) (hnew : w.heap[g]? = some (.cells cur ty (0, 0)))
    (hfree : ∀ i M, φ i = some M → M.blk ≠ g)
    (hcap : cur.size = cap * sz) (hmax : cap ≤ maxLen) (hlen : xs.length ≤ cur.size) (hv : ∀ (j : Nat) (x : Value), xs[j]? = some x → ∃ y, VR φ x y ∧ cur[j]? = some y) :
    HR P B0 (φ.set id ⟨g, 0, cap, true⟩) H w := by
  have hle := Phi.le_set (L := ⟨g, 0, cap, true⟩) hn
  refine ⟨?_, ?_, ?_, ?_, ?_, ?_, ?_, ?_⟩
  · intro i L hL
    by_cases e : i = id
    · subst e; exact (List.getElem?_eq_some_iff.1 hid).1
    · rw [Phi.set_ne _ _ e] at hL; exact h.dom _ _ hL
  · intro i L hL hr
    by_cases e : i = id
    · subst e; rw [Phi.set_same] at hL; cases hL; cases hr
    · rw [Phi.set_ne _ _ e] at hL; exact h.ro _ _ hL hr
  · intro i L hL
    by_cases e : i = id
    · subst e; rw [Phi.set_same] at hL; cases hL; exact (Array.getElem?_eq_some_iff.1 hnew).1
    · rw [Phi.set_ne _ _ e] at hL; exact h.lt _ _ hL
  · intro i L j x hL hx
    by_cases e : i = id
    · subst e
      rw [Phi.set_same] at hL; cases hL
      simp only [Heap.cell, hid, if_true] at hx
      obtain ⟨y, hy, hc⟩ := hv j x hx
      refine ⟨y, hy.mono hle, ?_⟩
      rw [cell_of_row _ _ _ _ _ _ hnew]; simpa using hc
    · rw [Phi.set_ne _ _ e] at hL
      obtain ⟨y, hy, hc⟩ := h.cell i L j x hL hx
      exact ⟨y, hy.mono hle, hc⟩
  · intro i L b hL hr hb hl
    by_cases e : i = id
    · subst e
      rw [Phi.set_same] at hL; cases hL
      rw [hid] at hb; cases hb
      exact ⟨rfl, hB, cur, sz, hsz, hnew, hcap, hlen, hmax⟩
    · rw [Phi.set_ne _ _ e] at hL
      exact h.row i L b hL hr hb hl
  · intro i L b hL hb hr
    by_cases e : i = id
    · subst e; rw [Phi.set_same] at hL; cases hL; rfl
    · rw [Phi.set_ne _ _ e] at hL
      exact h.flag i L b hL hb hr
  · intro i i' L L' hL hL' hr hr' hbe hl hl'
    by_cases e : i = id
    · by_cases e' : i' = id
      · omega
      · subst e
        rw [Phi.set_same] at hL; cases hL
        rw [Phi.set_ne _ _ e'] at hL'
        exact absurd hbe.symm (hfree i' L' hL')
    · by_cases e' : i' = id
      · subst e'
        rw [Phi.set_same] at hL'; cases hL'
        rw [Phi.set_ne _ _ e] at hL
        exact absurd hbe (hfree i L hL)
      · rw [Phi.set_ne _ _ e] at hL
        rw [Phi.set_ne _ _ e'] at hL'
        exact h.inj i i' L L' hL hL' hr hr' hbe hl hl'
  · intro i L b hL hb hl hr
    by_cases e : i = id
    · subst e; rw [hid] at hb; cases hb; cases hl
    · rw [Phi.set_ne _ _ e] at hL
      exact h.mp i L b hL hb hl hr

/-- Another heap that says no more of the ids that are there. -/
theorem HR.less {P : Program} {B0 : Nat} {φ : Phi} {H H' : Heap} {w : World} (h : HR P B0 φ H w) (hd : ∀ id L, φ id = some L → id < H'.length)
    (hs : ∀ id L, φ id = some L → H'[id]? = H[id]? ∨ H'.hot id = false) : HR P B0 φ H' w := by
  have hlive : ∀ id L, φ id = some L → H'.hot id = true → H'[id]? = H[id]? := fun id L hL hl => by
    rcases hs id L hL with e | e
    · exact e
    · rw [e] at hl; cases hl
  refine ⟨hd, h.ro, h.lt, ?_, ?_, ?_, ?_, ?_⟩
  · intro id L j x hL hx
    have e := hlive id L hL (Heap.hot_of_live (Heap.live_of_cell hx))
    exact h.cell id L j x hL (by unfold Heap.cell at hx ⊢; rw [← e]; exact hx)
  · intro id L b hL hr hb hl
    have e := hlive id L hL (by simp [Heap.hot, hb, hl])
    exact h.row id L b hL hr (by rw [← e]; exact hb) hl
  · intro id L b hL hb hr
    have e := hlive id L hL (by simp [Heap.hot, hb, hr])
    exact h.flag id L b hL (by rw [← e]; exact hb) hr
  · intro id id' L L' hL hL' hr hr' hbe hl hl'
    have e := hlive id L hL hl
    have e' := hlive id' L' hL' hl'
    exact h.inj id id' L L' hL hL' hr hr' hbe (by unfold Heap.hot at hl ⊢; rw [← e]; exact hl) (by unfold Heap.hot at hl' ⊢; rw [← e']; exact hl')
  · intro id L b hL hb hl hr
    have e := hlive id L hL (by simp [Heap.hot, hb, hr])
    exact h.mp id L b hL (by rw [← e]; exact hb) hl hr
theorem Inv.less {P : Program} {B0 n0 : Nat} {D : List Nat} {φ0 φ : Phi} {w0 w : World} {H H' : Heap} (h : Inv P B0 n0 D φ0 w0 φ H w) (hn : n0 ≤ H'.length) (hd : ∀ id L, φ id = some L → id < H'.length)
    (hs : ∀ id L, φ id = some L → H'[id]? = H[id]? ∨ H'.hot id = false) : Inv P B0 n0 D φ0 w0 φ H' w :=
  ⟨h.hr.less hd hs, h.b0, hn, h.dom0, h.low, h.high, h.os, h.tape, h.output, h.size, h.keep⟩
theorem Inv.newAt {P : Program} {B0 n0 : Nat} {D : List Nat} {φ0 φ : Phi} {w0 w : World} {H : Heap} (h : Inv P B0 n0 D φ0 w0 φ H w) {id : Nat} (hn : φ id = none) (hn0 : n0 ≤ id) {ty : TypeId} {xs ys : List Value} {cap sz : Nat}
    (hid : H[id]? = some ⟨ty, xs, true, true⟩) (hsz : szO P ty = some sz) (hcap : ys.length = cap * sz) (hmax : cap ≤ maxLen) (hv : VRs φ xs ys) :
    Inv P B0 n0 D φ0 w0 (φ.set id ⟨w.heap.size, 0, cap, true⟩) H (w.alloc (.cells ys.toArray ty)) ∧ φ.le (φ.set id ⟨w.heap.size, 0, cap, true⟩) := by
  have hold : ∀ b, b < w.heap.size → (w.alloc (.cells ys.toArray ty)).heap[b]? = w.heap[b]? := fun b hb => Below.heap_alloc w _ b hb
  have hB : B0 ≤ w.heap.size := Nat.le_trans h.b0 h.size
  refine ⟨⟨?_, h.b0, h.len, h.dom0, ?_, ?_, h.os, h.tape, h.output, ?_, ?_⟩, Phi.le_set _ hn⟩
  · refine (h.hr.grow (by simp) hold).addAt hn hid hsz hB (heap_alloc_new w _) (fun i M hM => Nat.ne_of_lt (h.hr.lt i M hM)) (by simpa using hcap) hmax (by have := hv.1; simp; omega) fun j x hx => ?_
    have hj : j < ys.length := by rw [← hv.1]; exact (List.getElem?_eq_some_iff.1 hx).1
    exact ⟨ys[j], hv.2 j x _ hx (by simp [hj]), by simp [hj]⟩
  · intro i hi
    rw [Phi.set_ne _ _ (by omega)]
    exact h.low i hi
  · intro i L hi hL
    by_cases e : i = id
    · subst e; rw [Phi.set_same] at hL; cases hL; exact ⟨rfl, .inl h.size⟩
    · rw [Phi.set_ne _ _ e] at hL; exact h.high i L hi hL
  · have := h.size; simp; omega
  · intro b hb hk
    rw [hold b (by have := h.size; omega)]
    exact h.keep b hb hk

/-! ### an operation looks at its own slots alone -/
def namesL (l : List Operand) : List Tmp := l.filterMap fun | .tmp t => some t | _ => none
def looks (ops : Array Oper) (o : Oper) : List Tmp := namesL o.op.operands.toList ++ (match o.guard with
  | some (g, _) => ((ops[g]?).bind (·.dst)).toList
  | none => [])
/-- The slots of which nothing else is asked are left out. -/
def only (ns : List Tmp) (ts : List (Nat × Value)) : List (Nat × Value) := ts.filter fun p => ns.contains p.1
theorem getT_only (ns : List Tmp) (ts : List (Nat × Value)) (t : Nat) : getT (only ns ts) t = if t ∈ ns then getT ts t else none := by
  induction ts with
  | nil => simp [only, getT]
  | cons p ts ih =>
    obtain ⟨k, v⟩ := p
    unfold only at ih ⊢
    simp only [List.filter_cons]
    by_cases hk : k ∈ ns
    · simp only [List.contains_eq_mem, hk, decide_true, if_true, getT]
      by_cases e : k = t
      · subst e; simp [hk]
      · simp only [e, if_false]; simpa using ih
    · simp only [List.contains_eq_mem, hk, decide_false, Bool.false_eq_true, if_false, getT]
      by_cases e : k = t
      · subst e; simp only [hk, if_false]; simpa [hk] using ih
      · simp only [e, if_false]; simpa using ih
theorem evO_only {ns : List Tmp} {ts : List (Nat × Value)} {x : Operand} (h : ∀ t, x = .tmp t → t ∈ ns) : evO (only ns ts) x = evO ts x := by
  cases x with
  | tmp t => simp only [evO]; rw [getT_only, if_pos (h t rfl)]
  | _ => rfl
theorem evL_congr {ρ ρ' : Operand → Option Value} : ∀ {l : List Operand}, (∀ x, x ∈ l → ρ x = ρ' x) → evL ρ l = evL ρ' l
  | [], _ => rfl
  | x :: l, h => by
    simp only [evL]
    rw [h x (by simp), evL_congr fun y hy => h y (by simp [hy])]
theorem evP_congr {ρ ρ' : Operand → Option Value} : ∀ {l : List (Nat × Operand)}, (∀ x, x ∈ l.map (·.2) → ρ x = ρ' x) → evP ρ l = evP ρ' l
  | [], _ => rfl
  | (i, x) :: l, h => by
    simp only [evP]
    rw [h x (by simp), evP_congr fun y hy => h y (by simp at hy ⊢; exact .inr hy)]
theorem evM_congr {ρ ρ' : Operand → Option Value} {x : Option Operand} (h : ∀ y, x = some y → ρ y = ρ' y) : evM ρ x = evM ρ' x := by
  cases x with
  | none => rfl
  | some y => simp only [evM]; rw [h y rfl]
theorem pureOp_congr {P : Program} {ρ ρ' : Operand → Option Value} {op : Op} (h : ∀ x, x ∈ op.operands.toList → ρ x = ρ' x) : pureOp P ρ op = pureOp P ρ' op := by
  unfold pureOp
  split
  · exact h _ (by simp [Op.operands])
  · exact h _ (by simp [Op.operands])
  · rename_i c a b; rw [h c (by simp [Op.operands]), h a (by simp [Op.operands]), h b (by simp [Op.operands])]
  · rename_i t parts; rw [evP_congr fun x hx => h x (by simpa [Op.operands] using hx)]
  · rename_i x; rw [h x (by simp [Op.operands])]
  · rename_i op t x y z; rw [h x (by simp [Op.operands]), h y (by simp [Op.operands])]
  · rename_i t x; rw [h x (by simp [Op.operands])]
  · rename_i s d x; rw [h x (by simp [Op.operands])]
  · rename_i t x lo hi
    rw [h x (by simp [Op.operands]), evM_congr (x := lo) fun y hy => h y (by simp [Op.operands, hy]), evM_congr (x := hi) fun y hy => h y (by simp [Op.operands, hy])]
  · rename_i s x f; rw [h x (by simp [Op.operands])]
  · rename_i t x f; rw [h x (by simp [Op.operands])]
  · rename_i t x i; rw [h x (by simp [Op.operands]), h i (by simp [Op.operands])]
  · rename_i f first captured; rw [evL_congr (l := captured.toList) fun x hx => h x (by simp [Op.operands] at hx ⊢; exact .inr hx)]
  · rename_i x i; rw [h x (by simp [Op.operands])]
  · rename_i args ts
    split
    · rename_i x hx; rw [h x (by simp [Op.operands, Call.operands, ← Array.mem_toList_iff, hx])]
    · rfl
  · rename_i args ts
    split
    · rename_i x y hx; rw [h x (by simp [Op.operands, Call.operands, ← Array.mem_toList_iff, hx]), h y (by simp [Op.operands, Call.operands, ← Array.mem_toList_iff, hx])]
    · rfl
  · rfl
theorem newA_congr {P : Program} {ρ ρ' : Operand → Option Value} {op : Op} (h : ∀ x, x ∈ op.operands.toList → ρ x = ρ' x) : newA P ρ op = newA P ρ' op := by
  unfold newA
  split
  · rfl
  · rename_i t x; rw [h x (by simp [Op.operands])]
  · rename_i t n parts; rw [evP_congr fun x hx => h x (by simpa [Op.operands] using hx)]
  · rename_i t l c; rw [h l (by simp [Op.operands]), h c (by simp [Op.operands])]
  · rfl
theorem names_mem {ops : Array Oper} {o : Oper} {x : Operand} (hx : x ∈ o.op.operands.toList) : ∀ t, x = .tmp t → t ∈ looks ops o := fun t e => by
  subst e
  exact List.mem_append_left _ (List.mem_filterMap.2 ⟨.tmp t, hx, rfl⟩)
theorem pure_only {P : Program} {ops : Array Oper} {o : Oper} {ts : List (Nat × Value)} : pureOp P (evO (only (looks ops o) ts)) o.op = pureOp P (evO ts) o.op := pureOp_congr fun x hx => evO_only (names_mem hx)
theorem new_only {P : Program} {ops : Array Oper} {o : Oper} {ts : List (Nat × Value)} : newA P (evO (only (looks ops o) ts)) o.op = newA P (evO ts) o.op := newA_congr fun x hx => evO_only (names_mem hx)
theorem wanted_only {ops : Array Oper} {o : Oper} {ts : List (Nat × Value)} : wantedA ops o (only (looks ops o) ts) = wantedA ops o ts := by
  unfold wantedA
  split
  · rfl
  · rename_i j want hg
    cases hd : (ops[j]?).bind (·.dst) with
    | none => rfl
    | some t =>
      simp only [Option.bind_some]
      rw [getT_only, if_pos (by unfold looks; rw [hg]; simp [hd])]
def isEff : Op → Bool
  | .store .. => true
  | .call { callee := .value _, .. } => true
  | .call { callee := .builtin .append, .. } => true
  | _ => false
theorem SE.only {P : Program} {C : Cx} {ops : Array Oper} {o : Oper} {s : St} {v : Value} {H' : Heap} {T : List Nat} (h : SE P C o s .eff v H' T) : SE P C o ⟨only (looks ops o) s.ts, s.H⟩ .eff v H' T := by
  have key : ∀ x, x ∈ o.op.operands.toList → evO (YtpoedfmkiiijnaaAm.only (looks ops o) s.ts) x = evO s.ts x := fun x hx => evO_only (names_mem hx)
  cases h with
  | store ho h h' hs hw =>
    rw [ho] at key
    exact .store ho (by rw [← h]; exact key _ (by simp [Op.operands])) (by rw [← h']; exact key _ (by simp [Op.operands])) hs hw
  | append ho ha h h' hs hw =>
    rw [ho] at key
    exact .append ho ha (by rw [← h]; exact key _ (by simp [Op.operands, Call.operands, ← Array.mem_toList_iff, ha])) (by rw [← h']; exact key _ (by simp [Op.operands, Call.operands, ← Array.mem_toList_iff, ha])) hs hw
  | call ho hf ha hc hw =>
    rw [ho] at key
    refine .call ho (by rw [← hf]; exact key _ (by simp [Op.operands, Call.operands])) ?_ hc hw
    rw [← ha]
    exact evL_congr fun x hx => key x (by simp [Op.operands, Call.operands] at hx ⊢; exact .inr hx)

/-- An effect, and what it leaves of the world. -/
theorem SE.eff_sound {P : Program} {C : Cx} {o : Oper} {s : St} {v : Value} {H' : Heap} {T : List Nat} (h : SE P C o s .eff v H' T) {B0 : Nat} {φ0 φ : Phi} {w0 w : World} {a : Act}
    (hi : Inv P B0 C.n0 C.D φ0 w0 φ s.H w) (ht : TR φ s.ts a.tmps)
    {Q : Exit → Act → World → Prop} {K : Act → World → Prop} (hK : ∀ φ' v' w', VR φ' v v' → Inv P B0 C.n0 C.D φ0 w0 φ' H' w' → φ.le φ' → FrE φ φ' w w' T s.H.length → s.H.length ≤ H'.length → K (a.put o.dst v') w') : o.wp P a w K Q := by
  have hev : ∀ x u, evO s.ts x = some u → VR φ u (a.eval x) := fun x u hx => evO_VR ht hx
  unfold Oper.wp
  cases h with
  | store ho h h' hs hw =>
    obtain ⟨w', h1, h2, h3, h4⟩ := stA_sound hi (hev _ _ h) (hev _ _ h') hs hw
    simp only [execOp, ho, Sem.run_bind, h1, Result.andThen_ok, Sem.run_pure]
    exact hK φ undef w' (uV_VR φ) h2 (Phi.le_refl _) h3 (by omega)
  | @append as ts x y va vb k v H' ho ha h h' hs hw =>
    obtain rfl : as = #[x, y] := by rw [← Array.toList_inj]; simpa using ha
    obtain ⟨φ', v', w', h1, h2, h3, h4, h5, h6⟩ := apA_sound (ty := o.type) hi (hev _ _ h) (hev _ _ h') hs hw
    have : (execOp a.eval o).run P w = .ok (.value v') w' := by
      simp [execOp, ho, resolve, invoke, builtin, h1]
    rw [this]
    exact hK φ' v' w' h2 h3 h4 h5 h6
  | @call fx as ts f cap vs v H' Dc ho hf ha hc hw =>
    have hfx := hev _ _ hf
    generalize hef : a.eval fx = ef at hfx
    obtain ⟨cap', rfl, hcap⟩ := hfx.fn_inv
    have hvs := evL_VRs hev ha
    have hargs := hvs.append hcap
    have hok := hc.1
    unfold fnOk at hok
    cases hfn : P.funcs[f]? with
    | none => rw [hfn] at hok; cases hok
    | some fn =>
      rw [hfn] at hok
      simp only [Bool.and_eq_true, bne_iff_ne] at hok
      have hrun : (execOp a.eval o).run P w = .ok (.enter f (as.map a.eval ++ cap')) w := by
        have hb : fn.body ≠ none := by cases hbb : fn.body <;> simp_all
        simp [execOp, ho, resolve, hef, Deferred.ofValue, invoke, callFunc, run_program, hfn, hok.1, hb]
      rw [hrun]
      rw [Oper.upon_enter]
      have hcalls := Calls.of_ac hc hi hargs hw
      have harr : ((List.map a.eval as.toList) ++ cap'.toList).toArray = as.map a.eval ++ cap' := by
        apply Array.toList_inj.1; simp
      rw [harr] at hcalls
      refine hcalls.mono ?_
      rintro e w' ⟨φ', v', rfl, h2, h3, h4, h5, h6⟩
      exact hK φ' v' w' h2 h3 h4 h5 h6

end Go.Proofs.YtpoedfmkiiijnaaAm
