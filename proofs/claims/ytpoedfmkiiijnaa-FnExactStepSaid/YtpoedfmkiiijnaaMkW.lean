/- The mark and held functions over worlds. Walks. -/
import Derived.Test.YtpoedfmkiiijnaaMkD
namespace Go.Proofs.Ytpoedfmkiiijnaa
open Go Go.RowKit Go.Proofs.YtpoedfmkiiijnaaAm
set_option linter.unusedVariables false
set_option linter.unusedSimpArgs false
set_option maxRecDepth 10000
set_option maxHeartbeats 8000000
theorem cnWd_nn (w : Wd) : 0 ≤ cnWd w := by
  have := cnL_nn cnLn_nn w.book.lines
  have := cnL_nn cnBd_nn w.bodies
  unfold cnWd cnBk; omega
/-- Marks on a world's memory, one part behind the other. -/
theorem mkWd_parts {H : Heap} {E : List Nat} {c : List Value} {w : Wd} {k : Int} (h : RWd H E w c) (ho : Own H E) (hk : 0 ≤ k) (hb : k + cnWd w ≤ 4611686018427387904) :
    ∃ E1 E2 vl vb H2 H3, E = E1 ++ E2 ∧ c = [.bool w.ok, .bool w.book.ok, iv w.book.sec, vl, vb] ∧ vl.oneCell' = true ∧ vb.oneCell' = true ∧ cellsV vl = [vl] ∧ cellsV vb = [vb] ∧ AC Try.prog 23 [.agg #[.bool w.book.ok, iv w.book.sec, vl], iv k] H (iv (k + cnBk w.book)) H2 E1 ∧ AC Try.prog 107 [vb, iv (k + cnBk w.book)] H2 (iv (k + cnBk w.book + cnL cnBd w.bodies)) H3 E2 ∧
      MK E1 H H2 ∧ MK E2 H2 H3 ∧ RWd H3 E (mkWd w k) c := by
  obtain ⟨E1, E2, c1, vb, rfl, rfl, hbk, hbd⟩ := h
  have hbk0 := hbk
  obtain ⟨vl, rfl, hl⟩ := hbk
  have q1 := cnL_nn cnLn_nn w.book.lines
  have q2 := cnL_nn cnBd_nn w.bodies
  unfold cnWd cnBk at hb
  have hap := ho.apart
  obtain ⟨H2, ac2, mk2, r2⟩ := markBook_ac (k := k) hbk0 ho.left hk (by unfold cnBk; omega)
  obtain ⟨H3, ac3, mk3, r3⟩ := markBodyS_ac (k := k + cnBk w.book) (hbd.fr (RP.frm _) fun e he _ => mk2.out e fun hh => hap e hh he) (ho.right.mk mk2) (by unfold cnBk; omega) (by unfold cnBk; omega)
  refine ⟨E1, E2, vl, vb, H2, H3, rfl, rfl, hl.one, hbd.one, hl.cv, hbd.cv, ac2, ac3, mk2, mk3, E1, E2, _, vb, rfl, rfl, RBk.frm.fr r2 fun e he _ => mk3.out e (hap e he), r3⟩
def B51 : SC := .seq (.reg [⟨some 2, .box 64 (.tmp 0), none, []⟩, ⟨some 4, .assign (.const (.int .i64 0)), none, []⟩]) (.seq (.reg [⟨some 5, .fieldAddr 64 (.tmp 2) 1, none, []⟩, ⟨some 6, .load 25 (.tmp 5), none, []⟩, ⟨some 7, .move (.tmp 1), none, []⟩, ⟨some 8, .call { callee := (.value (.func 23)), args := #[(.tmp 6), (.tmp 7)], argTypes := #[25, 3] }, none, []⟩, ⟨some 1, .assign (.tmp 8), none, []⟩]) (.seq (.reg [⟨some 9, .fieldAddr 64 (.tmp 2) 2, none, []⟩, ⟨some 10, .load 62 (.tmp 9), none, []⟩, ⟨some 11, .move (.tmp 1), none, []⟩, ⟨some 12, .call { callee := (.value (.func 107)), args := #[(.tmp 10), (.tmp 11)], argTypes := #[62, 3] }, none, []⟩, ⟨some 1, .assign (.tmp 12), none, []⟩]) (.seq (.reg [⟨some 13, .move (.tmp 1), none, []⟩, ⟨some 4, .assign (.tmp 13), none, []⟩]) .ret)))
theorem s51 : Try.f51.body.bind (stripC 14) = some B51 := by kernel_rfl
theorem markWorld_ac {H : Heap} {E : List Nat} {c : List Value} {w : Wd} {k : Int} (h : RWd H E w c) (ho : Own H E) (hk : 0 ≤ k) (hb : k + cnWd w ≤ 4611686018427387904) :
    ∃ H', AC Try.prog 51 [.agg c.toArray, iv k] H (iv (k + cnWd w)) H' E ∧ MK E H H' ∧ RWd H' E (mkWd w k) c := by
  have hbd := RWd.frm.bd h
  have hx := h
  obtain ⟨_, _, _, vb, _, rfl, ⟨vl, rfl, hl⟩, hb2⟩ := hx
  have hbx := hb2.one
  have hlx := hl.one
  obtain ⟨E1, E2, vl', vb', H2, H3, rfl, hcc, x, y, _, _, ac2, ac3, mk2, mk3, r⟩ := mkWd_parts (k := k) (RWd.frm.ext (L := [⟨64, [.bool w.ok, .bool w.book.ok, iv w.book.sec, vl, vb], true, true⟩]) h) (ho.ext hbd) hk hb
  simp only [List.cons_append, List.nil_append, List.cons.injEq, and_true, true_and] at hcc
  obtain ⟨rfl, rfl⟩ := hcc
  have mk : MK (E1 ++ E2) (H ++ [⟨64, [.bool w.ok, .bool w.book.ok, iv w.book.sec, vl, vb], true, true⟩]) H3 := (mk2.sub fun e he => List.mem_append_left _ he).trans (mk3.sub fun e he => List.mem_append_right _ he)
  have b2 := mk2.out H.length fun hh => by have := hbd _ (List.mem_append_left _ hh); omega
  simp at b2
  have d4 : CF H2 H.length 4 vb := CF.of b2 rfl rfl
  obtain ⟨H', rfl, mk'⟩ := mk.cut hbd
  have hD1 : wrL H.length (E1 ++ E2) E1 := fun d hd => .inr (List.mem_append_left _ hd)
  have hD2 : wrL H.length (E1 ++ E2) E2 := fun d hd => .inr (List.mem_append_right _ hd)
  have hr : k + cnWd w = k + cnBk w.book + cnL cnBd w.bodies := by unfold cnWd; omega
  refine AC.of_markS (N := 14) Try.func51 s51 (by kernel_rfl) rfl rfl (by simp) rfl ?_; unfold B51
  repeat (first | refine sk_seq ?_ | refine sk_block ?_ | refine sk_blk ?_ | refine sk_skip ?_ | refine sk_exit rfl ?_ | refine sk_cond_t rfl ?_ | refine sk_cond_f rfl ?_ | ((first | refine sk_reg fun K hK => ?_ | refine sk_drw mix fun K hK => ?_); simp [hbx, hlx, hD1, hD2, d4.s]; (repeat ((first | refine AskX.go (ac2) ?_ | refine AskD.go (ac2) ?_ | refine AskX.go (ac3) ?_ | refine AskD.go (ac3) ?_); simp [hbx, hlx, hD1, hD2, d4.s])); refine hK _ ?_; clear hK K))
  refine sk_ret ?_; simp [hr]
  exact ⟨H', ⟨_, rfl⟩, mk', RWd.frm.cut r (by rw [mk'.len]; exact hbd)⟩
def B52 : SC := .seq (.reg [⟨some 2, .box 64 (.tmp 0), none, []⟩, ⟨some 4, .assign (.const (.int .i64 0)), none, []⟩]) (.seq (.reg [⟨some 5, .fieldAddr 64 (.tmp 2) 1, none, []⟩, ⟨some 6, .load 25 (.tmp 5), none, []⟩, ⟨some 7, .move (.tmp 1), none, []⟩, ⟨some 8, .call { callee := (.value (.func 24)), args := #[(.tmp 6), (.tmp 7)], argTypes := #[25, 3] }, none, []⟩, ⟨some 1, .assign (.tmp 8), none, []⟩]) (.seq (.seq (.reg [⟨some 9, .move (.tmp 1), none, []⟩, ⟨some 10, .binOp .lss 3 (.tmp 9) (.const (.int .i64 0)) 3, none, []⟩]) (.cond (.tmp 10) (.seq (.reg [⟨some 4, .assign (.const (.int .i64 (-1))), none, []⟩]) .ret) .skip)) (.seq (.reg [⟨some 11, .fieldAddr 64 (.tmp 2) 2, none, []⟩, ⟨some 12, .load 62 (.tmp 11), none, []⟩, ⟨some 13, .move (.tmp 1), none, []⟩, ⟨some 14, .call { callee := (.value (.func 108)), args := #[(.tmp 12), (.tmp 13)], argTypes := #[62, 3] }, none, []⟩, ⟨some 1, .assign (.tmp 14), none, []⟩]) (.seq (.seq (.reg [⟨some 15, .move (.tmp 1), none, []⟩, ⟨some 16, .binOp .lss 3 (.tmp 15) (.const (.int .i64 0)) 3, none, []⟩]) (.cond (.tmp 16) (.seq (.reg [⟨some 4, .assign (.const (.int .i64 (-1))), none, []⟩]) .ret) .skip)) (.seq (.reg [⟨some 17, .move (.tmp 1), none, []⟩, ⟨some 4, .assign (.tmp 17), none, []⟩]) .ret)))))
theorem s52 : Try.f52.body.bind (stripC 18) = some B52 := by kernel_rfl
theorem heldWorld_ac {H : Heap} {E : List Nat} {c : List Value} {w : Wd} {k : Int} (h : RWd H E (mkWd w k) c) (hk : 0 ≤ k) (hb : k + cnWd w ≤ 4611686018427387904) :
    AC Try.prog 52 [.agg c.toArray, iv k] H (iv (k + cnWd w)) H [] := by
  obtain ⟨E1, E2, c1, vb, rfl, rfl, hbk, hbd⟩ := h
  have hbk0 := hbk
  obtain ⟨vl, rfl, hl⟩ := hbk
  have x := hl.one
  have y := hbd.one
  have q1 := cnL_nn cnLn_nn w.book.lines
  have q2 := cnL_nn cnBd_nn w.bodies
  unfold cnWd cnBk at hb
  have a1 := fun L : Heap => heldBook_ac (H := H ++ L) (b := w.book) (k := k) (RBk.frm.ext hbk0) hk (by unfold cnBk; omega)
  have a2 := fun L : Heap => heldBodyS_ac (H := H ++ L) (xs := w.bodies) (k := k + cnBk w.book) (hbd.ext (RP.frm _)) (by unfold cnBk; omega) (by unfold cnBk; omega)
  have p1 : ¬ (k + cnBk w.book < 0) := by unfold cnBk; omega
  have p2 : ¬ (k + cnBk w.book + cnL cnBd w.bodies < 0) := by unfold cnBk; omega
  have hr : k + cnWd w = k + cnBk w.book + cnL cnBd w.bodies := by unfold cnWd; omega
  refine AC.of_pureS (N := 18) Try.func52 s52 (by kernel_rfl) rfl rfl (by simp) rfl ?_; unfold B52
  repeat (first | refine sk_seq ?_ | refine sk_block ?_ | refine sk_blk ?_ | refine sk_skip ?_ | refine sk_exit rfl ?_ | refine sk_cond_t rfl ?_ | refine sk_cond_f rfl ?_ | ((first | refine sk_reg fun K hK => ?_ | refine sk_drw mix fun K hK => ?_); simp [x, y, p1, p2]; (repeat ((first | refine AskX.go (a1 _) ?_ | refine AskD.go (a1 _) ?_ | refine AskX.go (a2 _) ?_ | refine AskD.go (a2 _) ?_); simp [x, y, p1, p2])); refine hK _ ?_; clear hK K))
  refine sk_ret ?_; simp [hr]
def B72 : SC := .seq (.reg [⟨some 2, .box 67 (.tmp 0), none, []⟩, ⟨some 4, .assign (.const (.int .i64 0)), none, []⟩]) (.seq (.reg [⟨some 5, .fieldAddr 67 (.tmp 2) 1, none, []⟩, ⟨some 6, .load 64 (.tmp 5), none, []⟩, ⟨some 7, .move (.tmp 1), none, []⟩, ⟨some 8, .call { callee := (.value (.func 51)), args := #[(.tmp 6), (.tmp 7)], argTypes := #[64, 3] }, none, []⟩, ⟨some 1, .assign (.tmp 8), none, []⟩]) (.seq (.reg [⟨some 9, .move (.tmp 1), none, []⟩, ⟨some 4, .assign (.tmp 9), none, []⟩]) .ret))
theorem s72 : Try.f72.body.bind (stripC 10) = some B72 := by kernel_rfl
theorem markMoved_ac {H : Heap} {E : List Nat} {c : List Value} {n k : Int} {w : Wd} (h : RWd H E w c) (ho : Own H E) (hk : 0 ≤ k) (hb : k + cnWd w ≤ 4611686018427387904) :
    ∃ H', AC Try.prog 72 [.agg (iv n :: c).toArray, iv k] H (iv (k + cnWd w)) H' E ∧ MK E H H' ∧ RWd H' E (mkWd w k) c := by
  have hbd := RWd.frm.bd h
  have hx := h
  obtain ⟨_, _, _, vb, _, rfl, ⟨vl, rfl, hl⟩, hb2⟩ := hx
  have hbx := hb2.one
  have hlx := hl.one
  obtain ⟨H2, ac, mk, r⟩ := markWorld_ac (k := k) (RWd.frm.ext (L := [⟨67, [iv n, .bool w.ok, .bool w.book.ok, iv w.book.sec, vl, vb], true, true⟩]) h) (ho.ext hbd) hk hb
  obtain ⟨H', rfl, mk'⟩ := mk.cut hbd
  have hD : wrL H.length E E := fun d hd => .inr hd
  refine AC.of_markS (N := 10) Try.func72 s72 (by kernel_rfl) rfl rfl (by simp) rfl ?_; unfold B72
  repeat (first | refine sk_seq ?_ | refine sk_block ?_ | refine sk_blk ?_ | refine sk_skip ?_ | refine sk_exit rfl ?_ | refine sk_cond_t rfl ?_ | refine sk_cond_f rfl ?_ | ((first | refine sk_reg fun K hK => ?_ | refine sk_drw mix fun K hK => ?_); simp [hbx, hlx, hD]; (repeat ((first | refine AskX.go (ac) ?_ | refine AskD.go (ac) ?_); simp [hbx, hlx, hD])); refine hK _ ?_; clear hK K))
  refine sk_ret ?_; simp
  exact ⟨H', ⟨_, rfl⟩, mk', RWd.frm.cut r (by rw [mk'.len]; exact hbd)⟩
def B73 : SC := .seq (.reg [⟨some 2, .box 67 (.tmp 0), none, []⟩, ⟨some 4, .assign (.const (.int .i64 0)), none, []⟩]) (.seq (.reg [⟨some 5, .fieldAddr 67 (.tmp 2) 1, none, []⟩, ⟨some 6, .load 64 (.tmp 5), none, []⟩, ⟨some 7, .move (.tmp 1), none, []⟩, ⟨some 8, .call { callee := (.value (.func 52)), args := #[(.tmp 6), (.tmp 7)], argTypes := #[64, 3] }, none, []⟩, ⟨some 1, .assign (.tmp 8), none, []⟩]) (.seq (.seq (.reg [⟨some 9, .move (.tmp 1), none, []⟩, ⟨some 10, .binOp .lss 3 (.tmp 9) (.const (.int .i64 0)) 3, none, []⟩]) (.cond (.tmp 10) (.seq (.reg [⟨some 4, .assign (.const (.int .i64 (-1))), none, []⟩]) .ret) .skip)) (.seq (.reg [⟨some 11, .move (.tmp 1), none, []⟩, ⟨some 4, .assign (.tmp 11), none, []⟩]) .ret)))
theorem s73 : Try.f73.body.bind (stripC 12) = some B73 := by kernel_rfl
theorem heldMoved_ac {H : Heap} {E : List Nat} {c : List Value} {n k : Int} {w : Wd} (h : RWd H E (mkWd w k) c) (hk : 0 ≤ k) (hb : k + cnWd w ≤ 4611686018427387904) :
    AC Try.prog 73 [.agg (iv n :: c).toArray, iv k] H (iv (k + cnWd w)) H [] := by
  have h0 := h
  obtain ⟨_, _, _, vb, _, rfl, ⟨vl, rfl, hl⟩, hb2⟩ := h
  have hbx := hb2.one
  have hlx := hl.one
  have q := cnWd_nn w
  have p1 : ¬ (k + cnWd w < 0) := by omega
  have hac := fun L : Heap => heldWorld_ac (H := H ++ L) (RWd.frm.ext h0) hk hb
  refine AC.of_pureS (N := 12) Try.func73 s73 (by kernel_rfl) rfl rfl (by simp) rfl ?_; unfold B73
  repeat (first | refine sk_seq ?_ | refine sk_block ?_ | refine sk_blk ?_ | refine sk_skip ?_ | refine sk_exit rfl ?_ | refine sk_cond_t rfl ?_ | refine sk_cond_f rfl ?_ | ((first | refine sk_reg fun K hK => ?_ | refine sk_drw mix fun K hK => ?_); simp [hbx, hlx, p1]; (repeat ((first | refine AskX.go (hac _) ?_ | refine AskD.go (hac _) ?_); simp [hbx, hlx, p1])); refine hK _ ?_; clear hK K))
  refine sk_ret ?_; simp
end Go.Proofs.Ytpoedfmkiiijnaa
