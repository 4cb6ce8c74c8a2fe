/- The types of the statements' arguments: how they are laid in an input heap. -/
import Derived.Test.YtpoedfmkiiijnaaArg
import Derived.Test.YtpoedfmkiiijnaaDat
import Derived.Test.YtpoedfmkiiijnaaTy
namespace Go.Proofs.Ytpoedfmkiiijnaa
open Go Go.RowKit Go.Proofs.YtpoedfmkiiijnaaAm
set_option linter.unusedVariables false
set_option linter.unusedSimpArgs false

def ftO (P : Program) (t : TypeId) : Option (List (TypeId × Nat × Nat)) := match P.underlying t with
  | some (.struct fs) => some (fs.toList.map fun f => (f.type, f.offset, P.cellsOf f.type))
  | _ => none
section
variable {HH : Type} {enc : TypeId × Value → HH} {W : World}
theorem rd_fields {P : Program} {t : TypeId} {l : List (TypeId × Nat × Nat)} {cs : List Value} (ht : ftO P t = some l) (h : Rdb enc P W t cs) : cs.length = P.cellsOf t ∧ ∀ x, x ∈ l → Rdb enc P W x.1 ((cs.drop x.2.1).take x.2.2) := by
  unfold ftO at ht
  split at ht
  · rename_i fs hu
    cases ht
    obtain ⟨h1, h2⟩ := rd_struct hu h
    refine ⟨h1, fun x hx => ?_⟩
    obtain ⟨f, hf, rfl⟩ := List.mem_map.1 hx
    exact h2 f hf
  · cases ht
theorem ft_g : ftO Try.prog 174 = some [(3, 0, 1), (3, 1, 1)] := by kernel_rfl
theorem ft_l : ftO Try.prog 159 = some [(3, 0, 1), (40, 1, 1), (157, 2, 1), (3, 3, 1)] := by kernel_rfl
theorem ft_b : ftO Try.prog 53 = some [(4, 0, 1), (3, 1, 1), (51, 2, 1)] := by kernel_rfl
theorem ft_e : ftO Try.prog 58 = some [(3, 0, 1), (3, 1, 1), (3, 2, 1)] := by kernel_rfl
theorem ft_bd : ftO Try.prog 165 = some [(3, 0, 1), (3, 1, 1), (3, 2, 1), (3, 3, 1)] := by kernel_rfl
theorem ft_w : ftO Try.prog 83 = some [(4, 0, 1), (53, 1, 3), (81, 4, 1)] := by kernel_rfl
theorem ft_a : ftO Try.prog 98 = some [(3, 0, 1), (58, 1, 3), (3, 4, 1), (3, 5, 1)] := by kernel_rfl
theorem co_g : Try.prog.cellsOf 174 = 2 := by kernel_rfl
theorem co_l : Try.prog.cellsOf 159 = 4 := by kernel_rfl
theorem co_b : Try.prog.cellsOf 53 = 3 := by kernel_rfl
theorem co_e : Try.prog.cellsOf 58 = 3 := by kernel_rfl
theorem co_bd : Try.prog.cellsOf 165 = 4 := by kernel_rfl
theorem co_w : Try.prog.cellsOf 83 = 5 := by kernel_rfl
theorem co_a : Try.prog.cellsOf 98 = 6 := by kernel_rfl
theorem co_i : Try.prog.cellsOf 3 = 1 := by kernel_rfl
theorem un3 : Try.prog.underlying 3 = some (.int .i64) := by kernel_rfl
theorem un4 : Try.prog.underlying 4 = some .bool := by kernel_rfl
theorem un40 : Try.prog.underlying 40 = some (.slice 3) := by kernel_rfl
theorem un157 : Try.prog.underlying 157 = some (.slice 174) := by kernel_rfl
theorem un51 : Try.prog.underlying 51 = some (.slice 159) := by kernel_rfl
theorem un81 : Try.prog.underlying 81 = some (.slice 165) := by kernel_rfl
theorem un90 : Try.prog.underlying 90 = some (.slice 58) := by kernel_rfl
theorem un103 : Try.prog.underlying 103 = some (.slice 98) := by kernel_rfl

theorem lays_int : Lays HH enc Try.prog W 3 RInt := fun φ H cs hrd h => by
  obtain ⟨n, rfl⟩ := rd_int un3 hrd
  exact ⟨φ, [], n, _, [], by simpa using h, Phi.le_refl _, ⟨rfl, rfl⟩, .cons (.int _ _) (.nil _)⟩
theorem list2 {l : List Value} (h : l.length = 2) : ∃ a b, l = [a, b] := by
  match l, h with | [a, b], _ => exact ⟨a, b, rfl⟩
theorem list3 {l : List Value} (h : l.length = 3) : ∃ a b c, l = [a, b, c] := by
  match l, h with | [a, b, c], _ => exact ⟨a, b, c, rfl⟩
theorem list4 {l : List Value} (h : l.length = 4) : ∃ a b c d, l = [a, b, c, d] := by
  match l, h with | [a, b, c, d], _ => exact ⟨a, b, c, d, rfl⟩
theorem list5 {l : List Value} (h : l.length = 5) : ∃ a b c d e, l = [a, b, c, d, e] := by
  match l, h with | [a, b, c, d, e], _ => exact ⟨a, b, c, d, e, rfl⟩
theorem list6 {l : List Value} (h : l.length = 6) : ∃ a b c d e f, l = [a, b, c, d, e, f] := by
  match l, h with | [a, b, c, d, e, f], _ => exact ⟨a, b, c, d, e, f, rfl⟩
theorem rd1 {v : Value} (h : Rdb enc Try.prog W 3 [v]) : ∃ n, v = iv n := by
  obtain ⟨n, hn⟩ := rd_int un3 h
  exact ⟨n, by simpa using hn⟩
theorem rdB {v : Value} (h : Rdb enc Try.prog W 4 [v]) : ∃ b, v = .bool b := by
  obtain ⟨n, hn⟩ := rd_bool un4 h
  exact ⟨n, by simpa using hn⟩
theorem lays_gr : Lays HH enc Try.prog W 174 RGr := fun φ H cs hrd h => by
  obtain ⟨hl, hf⟩ := rd_fields ft_g hrd
  obtain ⟨c0, c1, rfl⟩ := list2 (hl.trans co_g)
  obtain ⟨n0, rfl⟩ := rd1 (hf _ (List.mem_cons_self ..))
  obtain ⟨n1, rfl⟩ := rd1 (hf (3, 1, 1) (by simp))
  exact ⟨φ, [], ⟨n0, n1⟩, _, [], by simpa using h, Phi.le_refl _, ⟨rfl, rfl⟩, .cons (.int _ _) (.cons (.int _ _) (.nil _))⟩
theorem lays_ev : Lays HH enc Try.prog W 58 REv := fun φ H cs hrd h => by
  obtain ⟨hl, hf⟩ := rd_fields ft_e hrd
  obtain ⟨c0, c1, c2, rfl⟩ := list3 (hl.trans co_e)
  obtain ⟨n0, rfl⟩ := rd1 (hf (3, 0, 1) (by simp))
  obtain ⟨n1, rfl⟩ := rd1 (hf (3, 1, 1) (by simp))
  obtain ⟨n2, rfl⟩ := rd1 (hf (3, 2, 1) (by simp))
  exact ⟨φ, [], ⟨n0, n1, n2⟩, _, [], by simpa using h, Phi.le_refl _, ⟨rfl, rfl⟩, .cons (.int _ _) (.cons (.int _ _) (.cons (.int _ _) (.nil _)))⟩
theorem lays_bd : Lays HH enc Try.prog W 165 RBd := fun φ H cs hrd h => by
  obtain ⟨hl, hf⟩ := rd_fields ft_bd hrd
  obtain ⟨c0, c1, c2, c3, rfl⟩ := list4 (hl.trans co_bd)
  obtain ⟨n0, rfl⟩ := rd1 (hf (3, 0, 1) (by simp))
  obtain ⟨n1, rfl⟩ := rd1 (hf (3, 1, 1) (by simp))
  obtain ⟨n2, rfl⟩ := rd1 (hf (3, 2, 1) (by simp))
  obtain ⟨n3, rfl⟩ := rd1 (hf (3, 3, 1) (by simp))
  exact ⟨φ, [], ⟨n0, n1, n2, n3⟩, _, [], by simpa using h, Phi.le_refl _, ⟨rfl, rfl⟩, .cons (.int _ _) (.cons (.int _ _) (.cons (.int _ _) (.cons (.int _ _) (.nil _))))⟩
theorem lays_ac : Lays HH enc Try.prog W 98 RAc := fun φ H cs hrd h => by
  obtain ⟨hl, hf⟩ := rd_fields ft_a hrd
  obtain ⟨c0, c1, c2, c3, c4, c5, rfl⟩ := list6 (hl.trans co_a)
  obtain ⟨n0, rfl⟩ := rd1 (hf (3, 0, 1) (by simp))
  obtain ⟨_, hf2⟩ := rd_fields ft_e (hf (58, 1, 3) (by simp))
  obtain ⟨n1, rfl⟩ := rd1 (hf2 (3, 0, 1) (by simp))
  obtain ⟨n2, rfl⟩ := rd1 (hf2 (3, 1, 1) (by simp))
  obtain ⟨n3, rfl⟩ := rd1 (hf2 (3, 2, 1) (by simp))
  obtain ⟨n4, rfl⟩ := rd1 (hf (3, 4, 1) (by simp))
  obtain ⟨n5, rfl⟩ := rd1 (hf (3, 5, 1) (by simp))
  exact ⟨φ, [], ⟨n0, ⟨n1, n2, n3⟩, n4, n5⟩, _, [], by simpa using h, Phi.le_refl _, ⟨rfl, rfl⟩, .cons (.int _ _) (.cons (.int _ _) (.cons (.int _ _) (.cons (.int _ _) (.cons (.int _ _) (.cons (.int _ _) (.nil _))))))⟩
theorem lays_ints : Lays HH enc Try.prog W 40 fun H E xs cs => ∃ v, cs = [v] ∧ RS 1 RInt H E v xs := lays_slice (sz := 0) un40 co_i (of_decide_eq_true (by kernel_rfl)) lays_int (RP.frm _)
theorem lays_grs : Lays HH enc Try.prog W 157 fun H E xs cs => ∃ v, cs = [v] ∧ RS 2 RGr H E v xs := lays_slice (sz := 1) un157 co_g (of_decide_eq_true (by kernel_rfl)) lays_gr (RP.frm _)
theorem lays_evs : Lays HH enc Try.prog W 90 fun H E xs cs => ∃ v, cs = [v] ∧ RS 3 REv H E v xs := lays_slice (sz := 2) un90 co_e (of_decide_eq_true (by kernel_rfl)) lays_ev (RP.frm _)
theorem lays_bds : Lays HH enc Try.prog W 81 fun H E xs cs => ∃ v, cs = [v] ∧ RS 4 RBd H E v xs := lays_slice (sz := 3) un81 co_bd (of_decide_eq_true (by kernel_rfl)) lays_bd (RP.frm _)
theorem lays_acs : Lays HH enc Try.prog W 103 fun H E xs cs => ∃ v, cs = [v] ∧ RS 6 RAc H E v xs := lays_slice (sz := 5) un103 co_a (of_decide_eq_true (by kernel_rfl)) lays_ac (RP.frm _)
theorem lays_ln : Lays HH enc Try.prog W 159 RLn := fun φ H cs hrd h => by
  obtain ⟨hl, hf⟩ := rd_fields ft_l hrd
  obtain ⟨c0, c1, c2, c3, rfl⟩ := list4 (hl.trans co_l)
  obtain ⟨n0, rfl⟩ := rd1 (hf (3, 0, 1) (by simp))
  obtain ⟨n3, rfl⟩ := rd1 (hf (3, 3, 1) (by simp))
  obtain ⟨φ1, J1, way, x1, E1, i1, l1, ⟨v1, rfl, r1⟩, w1⟩ := lays_ints φ H _ (hf (40, 1, 1) (by simp)) h
  obtain ⟨φ2, J2, grs, x2, E2, i2, l2, ⟨v2, rfl, r2⟩, w2⟩ := lays_grs φ1 (H ++ J1) _ (hf (157, 2, 1) (by simp)) i1
  obtain ⟨y1, _, e1, u1, _⟩ := w1.inv
  obtain ⟨y2, _, e2, u2, _⟩ := w2.inv
  simp at e1 e2
  obtain ⟨rfl, _⟩ := e1
  obtain ⟨rfl, _⟩ := e2
  refine ⟨φ2, J1 ++ J2, ⟨n0, way, grs, n3⟩, _, E1 ++ E2, by rw [← List.append_assoc]; exact i2, Phi.le_trans l1 l2, ⟨E1, E2, v1, v2, rfl, rfl, ?_, ?_⟩, .cons (.int _ _) (.cons (u1.mono l2) (.cons u2 (.cons (.int _ _) (.nil _))))⟩
  · rw [← List.append_assoc]; exact r1.ext (RP.frm _)
  · rw [← List.append_assoc]; exact r2
theorem lays_lns : Lays HH enc Try.prog W 51 fun H E xs cs => ∃ v, cs = [v] ∧ RS 4 RLn H E v xs := lays_slice (sz := 3) un51 co_l (of_decide_eq_true (by kernel_rfl)) lays_ln RLn.frm
theorem lays_bk : Lays HH enc Try.prog W 53 RBk := fun φ H cs hrd h => by
  obtain ⟨hl, hf⟩ := rd_fields ft_b hrd
  obtain ⟨c0, c1, c2, rfl⟩ := list3 (hl.trans co_b)
  obtain ⟨b0, rfl⟩ := rdB (hf (4, 0, 1) (by simp))
  obtain ⟨n1, rfl⟩ := rd1 (hf (3, 1, 1) (by simp))
  obtain ⟨φ1, J1, ls, x1, E1, i1, l1, ⟨v1, rfl, r1⟩, w1⟩ := lays_lns φ H _ (hf (51, 2, 1) (by simp)) h
  obtain ⟨y1, _, e1, u1, _⟩ := w1.inv
  simp at e1
  obtain ⟨rfl, _⟩ := e1
  exact ⟨φ1, J1, ⟨b0, n1, ls⟩, _, E1, i1, l1, ⟨v1, rfl, r1⟩, .cons (.bool _) (.cons (.int _ _) (.cons u1 (.nil _)))⟩
theorem lays_wd : Lays HH enc Try.prog W 83 RWd := fun φ H cs hrd h => by
  obtain ⟨hl, hf⟩ := rd_fields ft_w hrd
  obtain ⟨c0, c1, c2, c3, c4, rfl⟩ := list5 (hl.trans co_w)
  obtain ⟨b0, rfl⟩ := rdB (hf (4, 0, 1) (by simp))
  obtain ⟨φ1, J1, bk, x1, E1, i1, l1, r1, w1⟩ := lays_bk φ H _ (hf (53, 1, 3) (by simp)) h
  obtain ⟨φ2, J2, bds, x2, E2, i2, l2, ⟨v2, rfl, r2⟩, w2⟩ := lays_bds φ1 (H ++ J1) _ (hf (81, 4, 1) (by simp)) i1
  refine ⟨φ2, J1 ++ J2, ⟨b0, bk, bds⟩, _, E1 ++ E2, by rw [← List.append_assoc]; exact i2, Phi.le_trans l1 l2, ⟨E1, E2, x1, v2, rfl, rfl, ?_, ?_⟩, ?_⟩
  · rw [← List.append_assoc]; exact RBk.frm.ext r1
  · rw [← List.append_assoc]; exact r2
  · have := (w1.mono l2).append w2
    exact .cons (.bool _) (by simpa using this)
/-- A struct argument. -/
theorem lays_val {α : Type} {t : TypeId} {R : Heap → List Nat → α → List Value → Prop} (hL : Lays HH enc Try.prog W t R) {φ : Phi} {H : Heap} {cs : Array Value} (hrd : Rdb enc Try.prog W t (Value.agg cs).cells.toList) (h : HRi Try.prog W φ H) :
    ∃ φ' J x xs E, HRi Try.prog W φ' (H ++ J) ∧ φ.le φ' ∧ R (H ++ J) E x xs ∧ VR φ' (.agg xs.toArray) (.agg cs) := by
  obtain ⟨φ', J, x, xs, E, h1, h2, h3, h4⟩ := hL φ H _ hrd h
  refine ⟨φ', J, x, xs, E, h1, h2, h3, ?_⟩
  have := VR.agg_of h4
  simpa [Value.cells] using this
theorem okW_agg {P : Program} {W : World} {r : Reach} {base : Nat} {t : TypeId} {fs : Array Field} {v : Value} (hu : P.underlying t = some (.struct fs)) (h : Value.okWide P W r base t v) : ∃ cs, v = .agg cs := by
  simp only [Value.okWide, hu] at h
  obtain ⟨cs, rfl, _⟩ := h
  exact ⟨cs, rfl⟩
end
end Go.Proofs.Ytpoedfmkiiijnaa
