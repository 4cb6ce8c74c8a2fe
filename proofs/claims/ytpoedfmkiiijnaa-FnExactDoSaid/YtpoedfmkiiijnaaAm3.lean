/- The abstract machine, part 3: pure operations, loads, stores, new blocks. Plain lemmas; no program in sight. -/
import Derived.Test.YtpoedfmkiiijnaaAm2
namespace Go.Proofs.YtpoedfmkiiijnaaAm
open Go Go.RowKit
set_option linter.unusedVariables false
set_option linter.unusedSimpArgs false

theorem add_plain' (b o n : Nat) : (⟨b, o, none⟩ : Addr).add n = ⟨b, o + n, none⟩ := by unfold Addr.add; split <;> simp_all
theorem elem_und {P : Program} {t e : TypeId} (h : elemO P t = some e) : P.underlying t = some (.slice e) := by
  unfold elemO at h
  cases hu : P.underlying t with
  | none => rw [hu] at h; cases h
  | some d => rw [hu] at h; cases d <;> simp [elemD] at h; subst h; rfl
theorem sz_info {P : Program} {t n : Nat} (h : szO P t = some n) : ∃ i, P.info? t = some i ∧ i.size = n := by
  unfold szO at h
  cases hi : P.info? t with
  | none => rw [hi] at h; cases h
  | some i => rw [hi] at h; exact ⟨i, rfl, by simpa using h⟩
theorem run_sizeOf' {P : Program} {t n : Nat} (h : szO P t = some n) (w : World) : (sizeOf t).run P w = .ok n w := by
  obtain ⟨i, hi, rfl⟩ := sz_info h
  simp [sizeOf, typeInfo, hi]
theorem flds_at {P : Program} {t : TypeId} {fl : List (Nat × Nat)} (h : fldsO P t = some fl) : ∃ fs : Array Field, P.underlying t = some (.struct fs) ∧
    ∀ (f : Nat) (off sz : Nat), fl[f]? = some (off, sz) → ∃ fd, fs[f]? = some fd ∧ fd.offset = off ∧ szO P fd.type = some sz := by
  unfold fldsO at h
  cases hu : P.underlying t with
  | none => rw [hu] at h; cases h
  | some d =>
    rw [hu] at h
    cases d with
    | struct fs =>
      refine ⟨fs, rfl, ?_⟩
      simp only [Option.bind_some, fldsD] at h
      have key : ∀ (l : List Field) (r : List (Nat × Nat)), l.mapM (fun f => (P.info? f.type).map fun i => (f.offset, i.size)) = some r →
          ∀ (f : Nat) (off sz : Nat), r[f]? = some (off, sz) → ∃ fd, l[f]? = some fd ∧ fd.offset = off ∧ szO P fd.type = some sz := by
        intro l
        induction l with
        | nil => intro r hr f off sz hf; simp at hr; subst hr; simp at hf
        | cons x l ih =>
          intro r hr f off sz hf
          simp only [List.mapM_cons] at hr
          cases hx : P.info? x.type with
          | none => rw [hx] at hr; simp at hr
          | some it =>
            rw [hx] at hr
            simp only [Option.map_some] at hr
            cases hl : l.mapM (fun f => (P.info? f.type).map fun i => (f.offset, i.size)) with
            | none => rw [hl] at hr; simp at hr
            | some r' =>
              rw [hl] at hr
              simp at hr
              subst hr
              cases f with
              | zero =>
                simp at hf
                exact ⟨x, rfl, hf.1, by simp [szO, hx, hf.2]⟩
              | succ f => exact ih r' hl f off sz (by simpa using hf)
      intro f off sz hf
      obtain ⟨fd, h1, h2⟩ := key fs.toList fl h f off sz hf
      exact ⟨fd, by simpa using h1, h2⟩
    | _ => simp [fldsD] at h

def hiA (n : Nat) : Option Value → Option Nat
  | none => some n
  | some (.int _ j) => if 0 ≤ j ∧ j ≤ (n : Int) then some j.toNat else none
  | _ => none
def loA (h : Nat) : Option Value → Option Nat
  | none => some 0
  | some (.int _ i) => if 0 ≤ i ∧ i ≤ (h : Int) then some i.toNat else none
  | _ => none
/-- x[lo:hi] of a slice. -/
def sliceA (P : Program) (t : TypeId) (x : Value) (lo hi : Option Value) : Option Value :=
  match x with
  | .slice (some ⟨id, o, none⟩) n 0 => match (elemO P t).bind (szO P), hiA n hi with
    | some (sz + 1), some h => match loA h lo with
      | some l => some (sl id (o + l * (sz + 1)) (h - l))
      | none => none
    | _, _ => none
  | .slice none 0 0 => match (elemO P t).bind (szO P), hiA 0 hi with
    | some _, some h => match loA h lo with
      | some _ => some nl
      | none => none
    | _, _ => none
  | _ => none
/-- An operation's operand, if it has one. -/
def evM (ρ : Operand → Option Value) : Option Operand → Option (Option Value)
  | none => some none
  | some x => match ρ x with | some v => some (some v) | none => none
theorem loA_le {h l : Nat} {lo : Option Value} (hh : loA h lo = some l) : l ≤ h := by
  unfold loA at hh
  split at hh
  · cases hh; omega
  · split at hh
    · cases hh; omega
    · cases hh
  · cases hh
theorem hiA_le {n h : Nat} {hi : Option Value} (hh : hiA n hi = some h) : h ≤ n := by
  unfold hiA at hh
  split at hh
  · cases hh; omega
  · split at hh
    · cases hh; omega
    · cases hh
  · cases hh
theorem hiA_cases {n h : Nat} {hi : Option Value} (h1 : hiA n hi = some h) : (hi = none ∧ h = n) ∨ ∃ k j, hi = some (.int k j) ∧ 0 ≤ j ∧ j ≤ (n : Int) ∧ h = j.toNat := by
  cases hi with
  | none => simp only [hiA, Option.some.injEq] at h1; exact .inl ⟨rfl, h1.symm⟩
  | some v =>
    cases v with
    | int k j =>
      simp only [hiA] at h1
      split at h1
      · rename_i hj; cases h1; exact .inr ⟨k, j, rfl, hj.1, hj.2, rfl⟩
      · cases h1
    | _ => simp [hiA] at h1
theorem loA_cases {h l : Nat} {lo : Option Value} (h1 : loA h lo = some l) : (lo = none ∧ l = 0) ∨ ∃ k j, lo = some (.int k j) ∧ 0 ≤ j ∧ j ≤ (h : Int) ∧ l = j.toNat := by
  cases lo with
  | none => simp only [loA, Option.some.injEq] at h1; exact .inl ⟨rfl, h1.symm⟩
  | some v =>
    cases v with
    | int k j =>
      simp only [loA] at h1
      split at h1
      · rename_i hj; cases h1; exact .inr ⟨k, j, rfl, hj.1, hj.2, rfl⟩
      · cases h1
    | _ => simp [loA] at h1
theorem run_bounds_sl {P : Program} {w : World} {n c h l : Nat} {lo hi : Option Value} (hn : n ≤ c) (h1 : hiA n hi = some h) (h2 : loA h lo = some l) :
    (Instr.sliceBounds true n c lo hi none).run P w = .ok (l, h, c) w := by
  have hb : ∀ (k : IntKind) (j : Int) (y : Nat) (code : BoundsCode), 0 ≤ j → j ≤ (y : Int) → (Instr.sliceBound (.int k j) y code).run P w = .ok j.toNat w := fun k j y code h0 h1 => run_sliceBound w k j y code h0 h1
  rcases hiA_cases h1 with ⟨rfl, rfl⟩ | ⟨k, j, rfl, a1, a2, rfl⟩ <;> rcases loA_cases h2 with ⟨rfl, rfl⟩ | ⟨k', j', rfl, b1, b2, rfl⟩
  · simp [Instr.sliceBounds]
  · simp [Instr.sliceBounds, hb k' j' _ _ b1 b2]
  · simp [Instr.sliceBounds, hb k j c _ a1 (by omega)]
  · simp [Instr.sliceBounds, hb k j c _ a1 (by omega), hb k' j' _ _ b1 b2]
theorem sliceA_sound {P : Program} {φ : Phi} {t : TypeId} {x x' v : Value} {lo hi : Option Value} (h : sliceA P t x lo hi = some v) (hx : VR φ x x')
    (hpl : (∀ u, lo = some u → ∃ k i, u = .int k i)) (hph : (∀ u, hi = some u → ∃ k i, u = .int k i)) (w : World) :
    ∃ v', VR φ v v' ∧ (Instr.sliceAt t x' lo hi none).run P w = .ok v' w := by
  have go : ∀ (e sz : Nat) (a : Option Addr) (n c h l : Nat), elemO P t = some e → szO P e = some sz → n ≤ c → hiA n hi = some h → loA h lo = some l →
      (Instr.sliceAt t (.slice a n c) lo hi none).run P w = .ok (.slice (if c = l then a else a.map (·.add (l * sz))) (h - l) (c - l)) w := by
    intro e sz a n c h l he hsz hn h1 h2
    unfold Instr.sliceAt Instr.slice
    simp only [Sem.run_bind, run_underlying (elem_und he), Result.andThen_ok, run_bounds_sl hn h1 h2, run_sizeOf' hsz, Sem.run_pure]
  cases hx with
  | nils =>
    simp only [sliceA] at h
    split at h
    · rename_i s hh hb h1
      split at h
      · rename_i l h2
        cases h
        cases he : elemO P t with
        | none => rw [he] at hb; cases hb
        | some e =>
          rw [he] at hb
          have := hiA_le h1
          have := loA_le h2
          obtain rfl : hh = 0 := by omega
          obtain rfl : l = 0 := by omega
          exact ⟨_, .nils, by rw [go e s none 0 0 0 0 he hb (Nat.le_refl _) h1 h2]; rfl⟩
      · cases h
    · cases h
  | @slc id o n c L hL hn hc =>
    simp only [sliceA] at h
    split at h
    · rename_i sz hh hb h1
      split at h
      · rename_i l h2
        cases h
        cases he : elemO P t with
        | none => rw [he] at hb; cases hb
        | some e =>
          rw [he] at hb
          refine ⟨_, ?_, go e (sz + 1) _ n c hh l he hb hn h1 h2⟩
          have a1 := hiA_le h1
          have a2 := loA_le h2
          by_cases hcl : c = l
          · rw [if_pos hcl]
            have e1 : hh - l = 0 := by omega
            have e2 : c - l = 0 := by omega
            rw [e1, e2]
            by_cases h0 : o + l * (sz + 1) = 0
            · have ho : o = 0 := by omega
              have hl : l = 0 := by
                have : l * (sz + 1) = 0 := by omega
                exact (Nat.mul_eq_zero.1 this).resolve_right (by omega)
              rw [h0]
              have hcap : L.rw = true → (0 : Nat) = 0 → 0 = L.cap := fun hr _ => by have := hc hr ho; omega
              have := VR.slc (o := 0) (n := 0) (c := 0) hL (Nat.le_refl _) hcap
              rw [ho]; exact this
            · exact .sl0 hL h0
          · rw [if_neg hcl]
            simp only [Option.map_some, add_plain']
            rw [Nat.add_assoc]
            refine VR.slc hL (by omega) fun hr h0 => ?_
            have ho : o = 0 := by omega
            have hl : l = 0 := by
              have : l * (sz + 1) = 0 := by omega
              exact (Nat.mul_eq_zero.1 this).resolve_right (by omega)
            have := hc hr ho
            omega
      · cases h
    · cases h
  | @sl0 id o a L hL ho =>
    simp only [sliceA] at h
    split at h
    · rename_i sz hh hb h1
      split at h
      · rename_i l h2
        cases h
        cases he : elemO P t with
        | none => rw [he] at hb; cases hb
        | some e =>
          rw [he] at hb
          have := hiA_le h1
          have := loA_le h2
          obtain rfl : hh = 0 := by omega
          obtain rfl : l = 0 := by omega
          refine ⟨_, ?_, go e (sz + 1) (some a) 0 0 0 0 he hb (Nat.le_refl _) h1 h2⟩
          simp only [Nat.zero_mul, Nat.add_zero, if_true, Nat.sub_self]
          exact .sl0 hL ho
      · cases h
    · cases h
  | _ => simp [sliceA] at h

/-- An operation that neither reads nor writes memory. -/
def pureOp (P : Program) (ρ : Operand → Option Value) : Op → Option Value
  | .move x | .assign x => ρ x
  | .pick c a b => match ρ c with
    | some (.bool true) => ρ a
    | some (.bool false) => ρ b
    | _ => none
  | .build t parts => match evP ρ parts.toList with
    | some l => match buildA P t l with
      | some cs => some (.agg cs.toArray)
      | none => none
    | none => none
  | .nilCheck x => match ρ x with
    | some (.pointer (some ⟨id, o, none⟩)) => some (pt id o)
    | _ => none
  | .binOp op t x y _ => match ρ x, ρ y with
    | some a, some b => binA P op t a b
    | _, _ => none
  | .unOp .not _ x => match ρ x with
    | some (.bool b) => some (.bool !b)
    | _ => none
  | .convert src dst x => match P.underlying src, intO P dst, ρ x with
    | some _, some k, some (.int _ n) => some (.int k (k.wrap n))
    | _, _, _ => none
  | .slice t x lo hi none => match ρ x, evM ρ lo, evM ρ hi with
    | some v, some l, some h => sliceA P t v l h
    | _, _, _ => none
  | .fieldAddr s x f => match ρ x, (fldsO P s).bind (fun fl => fl[f]?) with
    | some (.pointer (some ⟨id, o, none⟩)), some (off, _ + 1) => some (pt id (o + off))
    | _, _ => none
  | .field t x f => match ρ x, (fldsO P t).bind (fun fl => fl[f]?), P.underlying t with
    | some (.agg cs), some (off, _), some (.struct fs) => match fs[f]? with
      | some fd => if (aggO P fd.type) = some false then cs[off]? else none
      | none => none
    | _, _, _ => none
  | .indexAddr t x i => match ρ x, ρ i, (elemO P t).bind (szO P) with
    | some (.slice (some ⟨id, o, none⟩) n 0), some (.int _ j), some sz => if 0 ≤ j ∧ j < (n : Int) then some (pt id (o + j.toNat * sz)) else none
    | _, _, _ => none
  | .makeFunc f first captured => if first.size = 0 then (match evL ρ captured.toList with | some l => some (.func f #[] l.toArray) | none => none) else none
  | .extract x i => match ρ x with
    | some (.tuple vs) => vs[i]?
    | _ => none
  | .call { callee := .builtin .len, args := args, argTypes := ts } => match args.toList with
    | [x] => match ρ x, (ts[0]?).bind P.underlying with
      | some (.slice _ n _), some (.slice _) => some (.int .i64 n)
      | some (.string s), some .string => some (.int .i64 s.size)
      | _, _ => none
    | _ => none
  | .call { callee := .builtin .max, args := args, argTypes := ts } => match args.toList with
    | [x, y] => match ρ x, ρ y with
      | some (.int k a), some (.int _ b) => some (.int k (if a < b then b else a))
      | _, _ => none
    | _ => none
  | _ => none

theorem pure_sound {P : Program} {φ : Phi} {ρ : Operand → Option Value} {e : Operand → Value} (hρ : ∀ x v, ρ x = some v → VR φ v (e x)) {o : Oper} {v : Value} (h : pureOp P ρ o.op = some v) :
    ∃ v', VR φ v v' ∧ ∀ w, (execOp e o).run P w = .ok (.value v') w := by
  obtain ⟨dst, op, type, pos, after, guard⟩ := o
  simp only at h
  unfold pureOp at h
  split at h
  · rename_i x; exact ⟨e x, hρ x v h, fun w => by simp [execOp]⟩
  · rename_i x; exact ⟨e x, hρ x v h, fun w => by simp [execOp]⟩
  · rename_i c a b
    split at h
    · rename_i hc
      have h1 := hρ c _ hc
      generalize hec : e c = ec at h1
      cases h1
      exact ⟨e a, hρ a v h, fun w => by simp [execOp, hec, asBool]⟩
    · rename_i hc
      have h1 := hρ c _ hc
      generalize hec : e c = ec at h1
      cases h1
      exact ⟨e b, hρ b v h, fun w => by simp [execOp, hec, asBool]⟩
    · cases h
  · rename_i t parts
    split at h
    · rename_i l hl
      split at h
      · rename_i cs hcs
        cases h
        obtain ⟨ds, h1, h2⟩ := buildA_sound (evP_PR hρ hl) hcs
        refine ⟨.agg ds, by simpa using VR.agg_of h2, fun w => ?_⟩
        have hm : (parts.map fun (i, x) => (i, e x)).toList = parts.toList.map fun p => (p.1, e p.2) := by simp
        have := run_build w t (parts.map fun (i, x) => (i, e x)) ds (by rw [hm]; exact h1)
        simp [execOp, this]
      · cases h
    · cases h
  · rename_i x
    split at h
    · rename_i id o hx
      cases h
      have h1 := hρ x _ hx
      generalize hex : e x = ex at h1
      cases h1 with
      | ptr hL => exact ⟨_, .ptr hL, fun w => by simp [execOp, hex]⟩
    · cases h
  · rename_i op t x y yt
    split at h
    · rename_i a b ha hb
      refine ⟨v, ?_, fun w => ?_⟩
      · exact plainV_VR (binA_sound (ox := x) (oy := y) h (hρ x a ha) (hρ y b hb) default).2
      · have := (binA_sound (ox := x) (oy := y) h (hρ x a ha) (hρ y b hb) w).1
        simp only [execOp, Sem.run_bind] at this ⊢
        rw [this]; rfl
    · cases h
  · rename_i t x
    split at h
    · rename_i b hx
      cases h
      have h1 := hρ x _ hx
      generalize hex : e x = ex at h1
      cases h1
      exact ⟨_, .bool _, fun w => by simp [execOp, hex, Op.unary]⟩
    · cases h
  · rename_i src dst x
    split at h
    · rename_i d k k' n hsrc hdst hx
      cases h
      have h1 := hρ x _ hx
      generalize hex : e x = ex at h1
      cases h1
      have hu : P.underlying dst = some (.int k) := by
        unfold intO at hdst
        cases hu : P.underlying dst with
        | none => rw [hu] at hdst; cases hdst
        | some dd => rw [hu] at hdst; cases dd <;> simp [intD] at hdst; subst hdst; rfl
      refine ⟨_, .int _ _, fun w => ?_⟩
      simp only [execOp, hex, convert, Sem.run_bind, run_underlying hsrc, run_underlying hu, Result.andThen_ok]
      cases d <;> simp [Conv.intToInt]
    · cases h
  · rename_i t x lo hi
    split at h
    · rename_i vx l hh hx hl hhi
      have hlo : lo.map e = l ∧ ∀ u, l = some u → ∃ k i, u = .int k i := by
        cases lo with
        | none => simp [evM] at hl; subst hl; exact ⟨rfl, fun u hu => by cases hu⟩
        | some y =>
          simp only [evM] at hl
          split at hl
          · rename_i u hu
            cases hl
            have hv := hρ y u hu
            cases u with
            | int k i => generalize hey : e y = ey at hv; cases hv; exact ⟨by simp [hey], fun u hu => by cases hu; exact ⟨_, _, rfl⟩⟩
            | _ => exfalso; revert h; unfold sliceA loA; (repeat' split) <;> simp_all
          · cases hl
      have hhi' : hi.map e = hh ∧ ∀ u, hh = some u → ∃ k i, u = .int k i := by
        cases hi with
        | none => simp [evM] at hhi; subst hhi; exact ⟨rfl, fun u hu => by cases hu⟩
        | some y =>
          simp only [evM] at hhi
          split at hhi
          · rename_i u hu
            cases hhi
            have hv := hρ y u hu
            cases u with
            | int k i => generalize hey : e y = ey at hv; cases hv; exact ⟨by simp [hey], fun u hu => by cases hu; exact ⟨_, _, rfl⟩⟩
            | _ => exfalso; revert h; unfold sliceA hiA; (repeat' split) <;> simp_all
          · cases hhi
      obtain ⟨v', h1, hrun0⟩ := sliceA_sound h (hρ x vx hx) hlo.2 hhi'.2 (default : World)
      have key : ∀ w, ∃ v', VR φ v v' ∧ (Instr.sliceAt t (e x) l hh none).run P w = .ok v' w := fun w => sliceA_sound h (hρ x vx hx) hlo.2 hhi'.2 w
      have same : ∀ w w' v1 v2, (Instr.sliceAt t (e x) l hh none).run P w = .ok v1 w → (Instr.sliceAt t (e x) l hh none).run P w' = .ok v2 w' → v1 = v2 := by
        intro w w' v1 v2 e1 e2
        have hvx := hρ x vx hx
        unfold sliceA at h
        split at h
        · rename_i id o n
          split at h
          · rename_i sz hq hb hq1
            split at h
            · rename_i lq hq2
              cases he : elemO P t with
              | none => rw [he] at hb; cases hb
              | some el =>
                rw [he] at hb
                generalize hex : e x = ex at hvx e1 e2
                cases hvx with
                | slc hL hn hc =>
                  simp only [Instr.sliceAt, Instr.slice, Sem.run_bind, run_underlying (elem_und he), Result.andThen_ok, run_bounds_sl hn hq1 hq2, run_sizeOf' hb, Sem.run_pure] at e1 e2
                  cases e1; cases e2; rfl
                | sl0 hL ho =>
                  simp only [Instr.sliceAt, Instr.slice, Sem.run_bind, run_underlying (elem_und he), Result.andThen_ok, run_bounds_sl (Nat.le_refl 0) hq1 hq2, run_sizeOf' hb, Sem.run_pure] at e1 e2
                  cases e1; cases e2; rfl
            · cases h
          · cases h
        · split at h
          · rename_i sz hq hb hq1
            split at h
            · rename_i lq hq2
              cases he : elemO P t with
              | none => rw [he] at hb; cases hb
              | some el =>
                rw [he] at hb
                generalize hex : e x = ex at hvx e1 e2
                cases hvx with
                | nils =>
                  simp only [Instr.sliceAt, Instr.slice, Sem.run_bind, run_underlying (elem_und he), Result.andThen_ok, run_bounds_sl (Nat.le_refl 0) hq1 hq2, run_sizeOf' hb, Sem.run_pure] at e1 e2
                  cases e1; cases e2; rfl
            · cases h
          · cases h
        · cases h
      refine ⟨v', h1, fun w => ?_⟩
      obtain ⟨v2, _, h2⟩ := key w
      simp only [execOp, hlo.1, hhi'.1, Option.map_none, Sem.run_bind]
      rw [h2]
      have : v2 = v' := same w default v2 v' h2 hrun0
      rw [this]; rfl
    · cases h
  · rename_i s x f
    split at h
    · rename_i id o off sz hx hf
      cases h
      have h1 := hρ x _ hx
      generalize hex : e x = ex at h1
      cases hfl : fldsO P s with
      | none => rw [hfl] at hf; cases hf
      | some fl =>
        rw [hfl] at hf
        obtain ⟨fs, hu, hfs⟩ := flds_at hfl
        obtain ⟨fd, hfd, rfl, hsz⟩ := hfs f off _ hf
        cases h1 with
        | @ptr _ _ L hL =>
          refine ⟨_, .ptr hL, fun w => ?_⟩
          simp only [execOp, hex, Instr.fieldAt, Sem.run_bind, run_underlying hu, Result.andThen_ok, hfd, Instr.sureAddr, fieldPlace, run_sizeOf' hsz, Sem.run_pure, add_plain']
          simp [Nat.add_assoc]
    · cases h
  · rename_i t x f
    split at h
    · rename_i cs off sz fs hx hf hu
      split at h
      · rename_i fd hfd
        split at h
        · rename_i hag
          have h1 := hρ x _ hx
          generalize hex : e x = ex at h1
          obtain ⟨ds, rfl, hds⟩ := h1.agg_inv
          cases hfl : fldsO P t with
          | none => rw [hfl] at hf; cases hf
          | some fl =>
            rw [hfl] at hf
            obtain ⟨fs', hu', hfs⟩ := flds_at hfl
            rw [hu] at hu'; cases hu'
            obtain ⟨fd', hfd', rfl, hsz⟩ := hfs f off _ hf
            rw [hfd] at hfd'; cases hfd'
            have hlt : fd.offset < cs.size := by
              rcases Nat.lt_or_ge fd.offset cs.size with h' | h'
              · exact h'
              · simp [Array.getElem?_eq_none h'] at h
            have hlt' : fd.offset < ds.size := by have := hds.1; simp at this; omega
            refine ⟨ds[fd.offset], hds.2 fd.offset v _ (by simpa using h) (by simp [hlt']), fun w => ?_⟩
            unfold aggO at hag
            cases hd : P.underlying fd.type with
            | none => rw [hd] at hag; cases hag
            | some d =>
              rw [hd] at hag
              have hd2 : (isAgg fd.type).run P w = .ok false w := by
                cases d <;> simp [aggD] at hag <;> simp [isAgg, run_underlying hd]
              simp only [execOp, hex, Instr.field, Sem.run_bind, run_underlying hu, Result.andThen_ok, hfd, asAgg, Sem.run_pure, part, hd2]
              simp [hlt']
        · cases h
      · cases h
    · cases h
  · rename_i t x i
    split at h
    · rename_i id o n k j sz hx hi hb
      split at h
      · rename_i hj
        cases h
        cases he : elemO P t with
        | none => rw [he] at hb; cases hb
        | some el =>
          rw [he] at hb
          have h1 := hρ x _ hx
          have h2 := hρ i _ hi
          generalize hex : e x = ex at h1
          generalize hei : e i = ei at h2
          cases h2
          cases h1 with
          | @slc _ _ _ c L hL hn hc =>
            refine ⟨_, .ptr hL, fun w => ?_⟩
            simp only [execOp, hex, hei, Instr.indexAt, asIntOf, Sem.run_bind, Sem.run_pure, Result.andThen_ok, run_underlying (elem_und he), hj, and_self, if_true, run_sizeOf' hb, add_plain']
            simp [Nat.add_assoc]
          | sl0 hL ho => omega
      · cases h
    · cases h
  · rename_i f first captured
    split at h
    · rename_i hf
      split at h
      · rename_i l hl
        cases h
        have := evL_VRs hρ hl
        refine ⟨_, VR.fn_of this, fun w => ?_⟩
        have h0 : first = #[] := Array.eq_empty_of_size_eq_zero hf
        subst h0
        simp only [execOp, Instr.makeFunc, Sem.run_bind, Sem.run_pure, Result.andThen_ok, Array.map_empty]
        rw [← Array.toList_map]
      · cases h
    · cases h
  · rename_i x i
    split at h
    · rename_i vs hx
      have h1 := hρ x _ hx
      generalize hex : e x = ex at h1
      obtain ⟨ds, rfl, hds⟩ := h1.tup_inv
      have hlt : i < vs.size := by
        rcases Nat.lt_or_ge i vs.size with h' | h'
        · exact h'
        · simp [Array.getElem?_eq_none h'] at h
      have hlt' : i < ds.size := by have := hds.1; simp at this; omega
      exact ⟨ds[i], hds.2 i v _ (by simpa using h) (by simp [hlt']), fun w => by simp [execOp, hex, Instr.extract, hlt']⟩
    · cases h
  · rename_i args ts
    split at h
    · rename_i x hargs
      obtain rfl : args = #[x] := by rw [← Array.toList_inj]; simpa using hargs
      split at h
      · rename_i a n c el hx hu
        cases h
        have h1 := hρ x _ hx
        cases ht : ts[0]? with
        | none => rw [ht] at hu; cases hu
        | some t =>
          rw [ht] at hu
          generalize hex : e x = ex at h1
          have hr : ∀ w a c, (Builtin.len_ ts type #[.slice a n c]).run P w = .ok (.int .i64 n) w := by
            intro w a c
            simp [Builtin.len_, ht, run_underlying (show P.underlying t = _ from hu), goInt]
          refine ⟨_, .int _ _, fun w => ?_⟩
          cases h1 <;> simp [execOp, resolve, invoke, builtin, hex, hr]
      · rename_i s hx hu
        cases h
        have h1 := hρ x _ hx
        cases ht : ts[0]? with
        | none => rw [ht] at hu; cases hu
        | some t =>
          rw [ht] at hu
          generalize hex : e x = ex at h1
          cases h1
          exact ⟨_, .int _ _, fun w => by simp [execOp, resolve, invoke, builtin, hex, Builtin.len_, ht, run_underlying (show P.underlying t = _ from hu), goInt]⟩
      · cases h
    · cases h
  · rename_i args ts
    split at h
    · rename_i x y hargs
      obtain rfl : args = #[x, y] := by rw [← Array.toList_inj]; simpa using hargs
      split at h
      · rename_i k a k' b hx hy
        cases h
        have h1 := hρ x _ hx
        have h2 := hρ y _ hy
        generalize hex : e x = ex at h1
        generalize hey : e y = ey at h2
        cases h1; cases h2
        exact ⟨_, .int _ _, fun w => by simp [execOp, resolve, invoke, builtin, hex, hey, Builtin.max_, Builtin.max2]⟩
      · cases h
    · cases h
  · cases h

end Go.Proofs.YtpoedfmkiiijnaaAm
