/- The simp rules by which a walk over stripped code reckons. -/
import Derived.Test.YtpoedfmkiiijnaaSc
namespace Go.Proofs.YtpoedfmkiiijnaaAm
open Go Go.RowKit
set_option linter.unusedVariables false
set_option linter.unusedSimpArgs false
@[simp] theorem evO_tmp (ts t) : evO ts (.tmp t) = getT ts t := rfl.trans rfl
@[simp] theorem evO_int (ts k n) : evO ts (.const (.int k n)) = some (.int k n) := rfl.trans rfl
@[simp] theorem evO_bool (ts b) : evO ts (.const (.bool b)) = some (.bool b) := rfl.trans rfl
@[simp] theorem evO_str (ts b) : evO ts (.const (.string b)) = some (.string b) := rfl.trans rfl
@[simp] theorem evO_nils (ts) : evO ts (.const (.slice none 0 0)) = some nl := rfl.trans rfl
@[simp] theorem evO_nilp (ts) : evO ts (.const (.pointer none)) = some (.pointer none) := rfl.trans rfl
@[simp] theorem evO_func (ts f) : evO ts (.func f) = some (.func (.func f) #[] #[]) := rfl.trans rfl
@[simp] theorem getT_nil (t) : getT [] t = none := rfl.trans rfl
@[simp] theorem getT_cons (k v r t) : getT ((k, v) :: r) t = if k = t then some v else getT r t := rfl.trans rfl
@[simp] theorem putT_some (d v ts) : putT (some d) v ts = (d, v) :: ts := rfl.trans rfl
@[simp] theorem putT_none (v ts) : putT none v ts = ts := rfl.trans rfl
@[simp] theorem enumT_nil (i) : enumT i [] = [] := rfl.trans rfl
@[simp] theorem enumT_cons (i v r) : enumT i (v :: r) = (i, v) :: enumT (i + 1) r := rfl.trans rfl
section
variable (P : Program) (ρ : Operand → Option Value)
@[simp] theorem pureOp_pick (c a b) : pureOp P ρ (.pick c a b) = match ρ c with
    | some (.bool true) => ρ a
    | some (.bool false) => ρ b
    | _ => none := rfl.trans rfl
@[simp] theorem pureOp_build (t ps) : pureOp P ρ (.build t ps) = match evP ρ ps.toList with
    | some l => match buildA P t l with
      | some cs => some (.agg cs.toArray)
      | none => none
    | none => none := rfl.trans rfl
@[simp] theorem pureOp_nilCheck (x) : pureOp P ρ (.nilCheck x) = match ρ x with
    | some (.pointer (some ⟨id, o, none⟩)) => some (pt id o)
    | _ => none := rfl.trans rfl
@[simp] theorem pureOp_binOp (o t x y z) : pureOp P ρ (.binOp o t x y z) = match ρ x, ρ y with
    | some a, some b => binA P o t a b
    | _, _ => none := rfl.trans rfl
@[simp] theorem pureOp_not (t x) : pureOp P ρ (.unOp .not t x) = match ρ x with
    | some (.bool b) => some (.bool !b)
    | _ => none := rfl.trans rfl
@[simp] theorem pureOp_convert (a b x) : pureOp P ρ (.convert a b x) = match P.underlying a, intO P b, ρ x with
    | some _, some k, some (.int _ n) => some (.int k (k.wrap n))
    | _, _, _ => none := rfl.trans rfl
@[simp] theorem pureOp_slice (t x lo hi) : pureOp P ρ (.slice t x lo hi none) = match ρ x, evM ρ lo, evM ρ hi with
    | some v, some l, some h => sliceA P t v l h
    | _, _, _ => none := rfl.trans rfl
@[simp] theorem pureOp_fieldAddr (t x f) : pureOp P ρ (.fieldAddr t x f) = match ρ x, (fldsO P t).bind (fun fl => fl[f]?) with
    | some (.pointer (some ⟨id, o, none⟩)), some (off, _ + 1) => some (pt id (o + off))
    | _, _ => none := rfl.trans rfl
@[simp] theorem pureOp_field (t x f) : pureOp P ρ (.field t x f) = match ρ x, (fldsO P t).bind (fun fl => fl[f]?), P.underlying t with
    | some (.agg cs), some (off, _), some (.struct fs) => match fs[f]? with
      | some fd => if (aggO P fd.type) = some false then cs[off]? else none
      | none => none
    | _, _, _ => none := rfl.trans rfl
@[simp] theorem pureOp_indexAddr (t x i) : pureOp P ρ (.indexAddr t x i) = match ρ x, ρ i, (elemO P t).bind (szO P) with
    | some (.slice (some ⟨id, o, none⟩) n 0), some (.int _ j), some sz => if 0 ≤ j ∧ j < (n : Int) then some (pt id (o + j.toNat * sz)) else none
    | _, _, _ => none := rfl.trans rfl
@[simp] theorem pureOp_makeFunc (f a c) : pureOp P ρ (.makeFunc f a c) = if a.size = 0 then (match evL ρ c.toList with | some l => some (.func f #[] l.toArray) | none => none) else none := rfl.trans rfl
@[simp] theorem pureOp_extract (x i) : pureOp P ρ (.extract x i) = match ρ x with
    | some (.tuple vs) => vs[i]?
    | _ => none := rfl.trans rfl
@[simp] theorem pureOp_len (as ts) : pureOp P ρ (.call { callee := .builtin .len, args := as, argTypes := ts }) = match as.toList with
    | [x] => match ρ x, (ts[0]?).bind P.underlying with
      | some (.slice _ n _), some (.slice _) => some (.int .i64 n)
      | some (.string s), some .string => some (.int .i64 s.size)
      | _, _ => none
    | _ => none := rfl.trans rfl
@[simp] theorem pureOp_max (as ts) : pureOp P ρ (.call { callee := .builtin .max, args := as, argTypes := ts }) = match as.toList with
    | [x, y] => match ρ x, ρ y with
      | some (.int k a), some (.int _ b) => some (.int k (if a < b then b else a))
      | _, _ => none
    | _ => none := rfl.trans rfl
@[simp] theorem newA_alloc (t) : newA P ρ (.alloc t) = match zeroO P t, szO P t with
    | some z, some n => if (cellsV z).length = n ∧ allPlain (cellsV z) = true then some ⟨t, cellsV z, fun id => pt id 0⟩ else none
    | _, _ => none := rfl.trans rfl
@[simp] theorem newA_box (t x) : newA P ρ (.box t x) = match ρ x, szO P t with
    | some v, some n => if (cellsV v).length = n then some ⟨t, cellsV v, fun id => pt id 0⟩ else none
    | _, _ => none := rfl.trans rfl
@[simp] theorem newA_buildSlice (t n ps) : newA P ρ (.buildSlice t n ps) = match elemO P t, evP ρ ps.toList with
    | some e, some l => match szO P e, zeroO P e with
      | some (sz + 1), some z => if (cellsV z).length = sz + 1 ∧ allPlain (cellsV z) = true ∧ n * (sz + 1) ≤ 16777216 then
          (match fillA (fun i => some (i * (sz + 1), sz + 1)) (List.replicate n (cellsV z)).flatten l with
          | some cs => some ⟨e, cs, fun id => sl id 0 n⟩
          | none => none) else none
      | _, _ => none
    | _, _ => none := rfl.trans rfl
@[simp] theorem newA_makeSlice (t l c) : newA P ρ (.makeSlice t l c) = match ρ l, ρ c, elemO P t with
    | some (.int _ a), some (.int _ b), some e => match szO P e, byO P e, zeroO P e with
      | some (sz + 1), some by', some z => if a = b ∧ 0 ≤ a ∧ (by' : Int) * a ≤ 281474976710656 ∧ a ≤ 9223372036854775807 ∧ (cellsV z).length = sz + 1 ∧ allPlain (cellsV z) = true then
          some ⟨e, (List.replicate a.toNat (cellsV z)).flatten, fun id => sl id 0 a.toNat⟩ else none
      | _, _, _ => none
    | _, _, _ => none := rfl.trans rfl
end
section
variable (k : IntKind) (a b : Int)
@[simp] theorem intA_add : intA .add k a k b = some (.int k (k.wrap (a + b))) := by simp [intA]
@[simp] theorem intA_sub : intA .sub k a k b = some (.int k (k.wrap (a - b))) := by simp [intA]
@[simp] theorem intA_mul : intA .mul k a k b = some (.int k (k.wrap (a * b))) := by simp [intA]
@[simp] theorem intA_eql : intA .eql k a k b = some (.bool (decide (a = b))) := by simp [intA]
@[simp] theorem intA_neq : intA .neq k a k b = some (.bool (!decide (a = b))) := by simp [intA]
@[simp] theorem intA_lss : intA .lss k a k b = some (.bool (decide (a < b))) := by simp [intA]
@[simp] theorem intA_leq : intA .leq k a k b = some (.bool (decide (a ≤ b))) := by simp [intA]
@[simp] theorem intA_gtr : intA .gtr k a k b = some (.bool (decide (b < a))) := by simp [intA]
@[simp] theorem intA_geq : intA .geq k a k b = some (.bool (decide (b ≤ a))) := by simp [intA]
end
@[simp] theorem binA_int (P : Program) (op t k a k' b) : binA P op t (.int k a) (.int k' b) = intA op k a k' b := rfl.trans rfl
@[simp] theorem binA_bool (P : Program) (op t a b) : binA P op t (.bool a) (.bool b) = if (P.underlying t matches some .bool) then (match op with | .eql => some (.bool (a == b)) | .neq => some (.bool (!(a == b))) | _ => none) else none := rfl.trans rfl
@[simp] theorem binA_nil (P : Program) (op t p n c) : binA P op t (.slice p n c) (.slice none 0 0) = if (elemO P t).isSome then (match op with | .eql => some (.bool p.isNone) | .neq => some (.bool (!p.isNone)) | _ => none) else none := rfl.trans rfl
@[simp] theorem binA_agg (P : Program) (op t xs ys) : binA P op t (.agg xs) (.agg ys) = if eqOk P t = true ∧ xs.toList.length = (fldsO P t |>.getD []).length then (match op, eqCells xs.toList ys.toList with | .eql, some r => some (.bool r) | .neq, some r => some (.bool (!r)) | _, _ => none) else none := rfl.trans rfl
attribute [simp] evL evP plainV sliceA hiA loA evM ldA ldC stA buildA fillA setAll cv_agg cv_int cv_bool cv_slice cv_ptr allPlain fnV resA resL resOne endR cell_at cell_at0 put_at put_at0 rwOk_put cell_put wrL_nil wrL_cons wrO_none wrO_some rw_at rw_at0 get_at get_at0 kill_at kill_at0 cell_c0 cell_cs put_c0 put_cs rw_c0 rw_cs kill_c0 kill_cs Heap.puts wr one_int one_bool one_slice one_ptr eqCells offs11 offs12 offs13 offs14 offs21 offs22 offs23 offs24
attribute [simp] liveL_nil liveL_cons liveO_none liveO_some List.replicate deadB set_at set_at0 set_c0 set_cs live_at live_at0 live_c0 live_cs hot_at hot_at0 hot_c0 hot_cs
end Go.Proofs.YtpoedfmkiiijnaaAm
