/- The size and the copying functions of the statements over lines, books, worlds. Walks. -/
import Derived.Test.YtpoedfmkiiijnaaTo1
namespace Go.Proofs.Ytpoedfmkiiijnaa
open Go Go.RowKit Go.Proofs.YtpoedfmkiiijnaaAm
set_option linter.unusedVariables false
set_option linter.unusedSimpArgs false
set_option maxRecDepth 10000
set_option maxHeartbeats 4000000
def szL (l : Ln) : Int := l.way.length + l.grs.length
theorem szL_nn (l : Ln) : 0 ≤ szL l := by unfold szL; omega
def szLs (ls : List Ln) : Int := ls.length + cnL szL ls
def szW (w : Wd) : Int := szLs w.book.lines + w.bodies.length
theorem subN_sub {a m n : Int} (hm : m ≤ a) (hn : 0 ≤ n) : subN (a - m) n = subN a (m + n) := by
  unfold subN; by_cases h : n ≤ a - m
  · rw [if_pos h, if_pos (by omega)]; omega
  · rw [if_neg h, if_neg (by omega)]
def B131 : SC := .seq (.reg [⟨some 2, .box 159 (.tmp 0), none, []⟩, ⟨some 4, .assign (.const (.int .i64 0)), none, []⟩]) (.seq (.reg [⟨some 5, .fieldAddr 159 (.tmp 2) 1, none, []⟩, ⟨some 6, .load 40 (.tmp 5), none, []⟩, ⟨some 7, .move (.tmp 1), none, []⟩, ⟨some 8, .call { callee := (.value (.func 141)), args := #[(.tmp 6), (.tmp 7)], argTypes := #[40, 3] }, none, []⟩, ⟨some 1, .assign (.tmp 8), none, []⟩]) (.seq (.seq (.reg [⟨some 9, .move (.tmp 1), none, []⟩, ⟨some 10, .binOp .lss 3 (.tmp 9) (.const (.int .i64 0)) 3, none, []⟩]) (.cond (.tmp 10) (.seq (.reg [⟨some 4, .assign (.const (.int .i64 (-1))), none, []⟩]) .ret) .skip)) (.seq (.reg [⟨some 11, .fieldAddr 159 (.tmp 2) 2, none, []⟩, ⟨some 12, .load 157 (.tmp 11), none, []⟩, ⟨some 13, .move (.tmp 1), none, []⟩, ⟨some 14, .call { callee := (.value (.func 142)), args := #[(.tmp 12), (.tmp 13)], argTypes := #[157, 3] }, none, []⟩, ⟨some 1, .assign (.tmp 14), none, []⟩]) (.seq (.seq (.reg [⟨some 15, .move (.tmp 1), none, []⟩, ⟨some 16, .binOp .lss 3 (.tmp 15) (.const (.int .i64 0)) 3, none, []⟩]) (.cond (.tmp 16) (.seq (.reg [⟨some 4, .assign (.const (.int .i64 (-1))), none, []⟩]) .ret) .skip)) (.seq (.reg [⟨some 17, .move (.tmp 1), none, []⟩, ⟨some 4, .assign (.tmp 17), none, []⟩]) .ret)))))
theorem s131 : Try.f131.body.bind (stripC 18) = some B131 := by kernel_rfl
theorem szLine_ac {H : Heap} {E1 E2 : List Nat} {v1 v2 : Value} {l : Ln} (h1 : RS 1 RInt H E1 v1 l.way) (h2 : RS 2 RGr H E2 v2 l.grs) {a : Int} (ha : 0 ≤ a ∧ a ≤ 1048576) :
    AC Try.prog 131 [.agg #[iv l.gone, v1, v2, iv l.drop], iv a] H (iv (subN a (szL l))) H [] := by
  have x1 := h1.one
  have x2 := h2.one
  have b1 := h1.1
  have b2 := h2.1
  refine AC.of_pureS (N := 18) Try.func131 s131 (by kernel_rfl) rfl rfl (by simp) rfl ?_; unfold B131
  by_cases q : (l.way.length : Int) ≤ a
  case neg =>
    have hr : subN a (szL l) = -1 := subN_no (by unfold szL; omega)
    have hs := subN_no q
    have s1 := fun L : Heap => szIntS_ac (H := H ++ L) (h1.ext (RP.frm _)) ha
    rw [hs] at s1
    repeat (first | refine sk_seq ?_ | refine sk_block ?_ | refine sk_blk ?_ | refine sk_skip ?_ | refine sk_exit rfl ?_ | refine sk_cond_t rfl ?_ | refine sk_cond_f rfl ?_ | (refine sk_reg fun K hK => ?_; simp [x1, x2]; (repeat (first | (refine AskX.go (s1 _) ?_; simp [x1, x2]))); refine hK _ ?_; clear hK K) | (refine sk_drw mix fun K hK => ?_; simp [x1, x2]; (repeat (first | (refine AskD.go (s1 _) ?_; simp [x1, x2]))); refine hK _ ?_; clear hK K))
    refine sk_ret ?_; simp [hr]
  have s1 := fun L : Heap => szIntS_ac (H := H ++ L) (h1.ext (RP.frm _)) ha
  rw [subN_lt q] at s1
  have q1 : ¬ (a - (l.way.length : Int) < 0) := by omega
  have s2 := fun L : Heap => szGrantS_ac (H := H ++ L) (h2.ext (RP.frm _)) (a := a - l.way.length) (by omega)
  rw [subN_sub q (by omega)] at s2
  by_cases q2 : szL l ≤ a
  · have q2' : ¬ (a - szL l < 0) := by omega
    have hr := subN_lt q2
    rw [show (l.way.length : Int) + l.grs.length = szL l from rfl, hr] at s2
    repeat (first | refine sk_seq ?_ | refine sk_block ?_ | refine sk_blk ?_ | refine sk_skip ?_ | refine sk_exit rfl ?_ | refine sk_cond_t rfl ?_ | refine sk_cond_f rfl ?_ | (refine sk_reg fun K hK => ?_; simp [x1, x2, q1, q2']; (repeat (first | (refine AskX.go (s1 _) ?_; simp [x1, x2, q1, q2']) | (refine AskX.go (s2 _) ?_; simp [x1, x2, q1, q2']))); refine hK _ ?_; clear hK K) | (refine sk_drw mix fun K hK => ?_; simp [x1, x2, q1, q2']; (repeat (first | (refine AskD.go (s1 _) ?_; simp [x1, x2, q1, q2']) | (refine AskD.go (s2 _) ?_; simp [x1, x2, q1, q2']))); refine hK _ ?_; clear hK K))
    refine sk_ret ?_; simp [hr]
  · have hr := subN_no q2
    rw [show (l.way.length : Int) + l.grs.length = szL l from rfl, hr] at s2
    repeat (first | refine sk_seq ?_ | refine sk_block ?_ | refine sk_blk ?_ | refine sk_skip ?_ | refine sk_exit rfl ?_ | refine sk_cond_t rfl ?_ | refine sk_cond_f rfl ?_ | (refine sk_reg fun K hK => ?_; simp [x1, x2, q1]; (repeat (first | (refine AskX.go (s1 _) ?_; simp [x1, x2, q1]) | (refine AskX.go (s2 _) ?_; simp [x1, x2, q1]))); refine hK _ ?_; clear hK K) | (refine sk_drw mix fun K hK => ?_; simp [x1, x2, q1]; (repeat (first | (refine AskD.go (s1 _) ?_; simp [x1, x2, q1]) | (refine AskD.go (s2 _) ?_; simp [x1, x2, q1]))); refine hK _ ?_; clear hK K))
    refine sk_ret ?_; simp [hr]
def B95 : SC := .seq (.reg [⟨some 4, .assign (.const (.int .i64 0)), none, []⟩]) (.seq (.reg [⟨some 6, .move (.tmp 1), none, []⟩, ⟨some 7, .move (.tmp 0), none, []⟩, ⟨some 8, .call { callee := (.builtin .len), args := #[(.tmp 7)], argTypes := #[51] }, none, []⟩, ⟨some 9, .binOp .sub 3 (.tmp 6) (.tmp 8) 3, none, []⟩, ⟨some 1, .assign (.tmp 9), none, []⟩]) (.seq (.seq (.reg [⟨some 10, .move (.tmp 1), none, []⟩, ⟨some 11, .binOp .lss 3 (.tmp 10) (.const (.int .i64 0)) 3, none, []⟩]) (.cond (.tmp 11) (.seq (.reg [⟨some 4, .assign (.const (.int .i64 (-1))), none, []⟩]) .ret) .skip)) (.seq (.seq (.reg [⟨some 5, .assign (.const (.int .i64 0)), none, []⟩]) (.block 0 (.loop (.seq (.seq (.reg [⟨some 12, .move (.tmp 5), none, []⟩, ⟨some 13, .move (.tmp 0), none, []⟩, ⟨some 14, .call { callee := (.builtin .len), args := #[(.tmp 13)], argTypes := #[51] }, none, []⟩, ⟨some 15, .binOp .lss 3 (.tmp 12) (.tmp 14) 3, none, []⟩]) (.cond (.tmp 15) .skip (.exit 0))) (.seq (.block 1 (.seq (.reg [⟨some 18, .move (.tmp 0), none, []⟩, ⟨some 19, .move (.tmp 5), none, []⟩, ⟨some 20, .indexAddr 51 (.tmp 18) (.tmp 19), none, []⟩, ⟨some 21, .load 159 (.tmp 20), none, []⟩, ⟨some 22, .move (.tmp 1), none, []⟩, ⟨some 23, .call { callee := (.value (.func 131)), args := #[(.tmp 21), (.tmp 22)], argTypes := #[159, 3] }, none, []⟩, ⟨some 1, .assign (.tmp 23), none, []⟩]) (.seq (.reg [⟨some 24, .move (.tmp 1), none, []⟩, ⟨some 25, .binOp .lss 3 (.tmp 24) (.const (.int .i64 0)) 3, none, []⟩]) (.cond (.tmp 25) (.seq (.reg [⟨some 4, .assign (.const (.int .i64 (-1))), none, []⟩]) .ret) .skip)))) (.reg [⟨some 16, .move (.tmp 5), none, []⟩, ⟨some 17, .binOp .add 3 (.tmp 16) (.const (.int .i64 1)) 3, none, []⟩, ⟨some 5, .assign (.tmp 17), none, []⟩])))))) (.seq (.reg [⟨some 26, .move (.tmp 1), none, []⟩, ⟨some 4, .assign (.tmp 26), none, []⟩]) .ret))))
theorem s95 : Try.f95.body.bind (stripC 27) = some B95 := by kernel_rfl
theorem szLineS_ac {H : Heap} {E : List Nat} {v : Value} {ls : List Ln} (h : RS 4 RLn H E v ls) {a : Int} (ha : 0 ≤ a ∧ a ≤ 1048576) : AC Try.prog 95 [v, iv a] H (iv (subN a (szLs ls))) H [] := by
  obtain ⟨a1, c1, rfl⟩ := h.form
  have hn := h.1
  have hnn := cnL_nn szL_nn ls
  have hw0 := wrap_id (x := a - ls.length) (by omega) (by omega)
  refine AC.of_pureS (N := 27) Try.func95 s95 (by kernel_rfl) rfl rfl (by simp) rfl ?_; unfold B95
  by_cases q : (ls.length : Int) ≤ a
  case neg =>
    have hr : subN a (szLs ls) = -1 := subN_no (by unfold szLs; omega)
    have q' : a - (ls.length : Int) < 0 := by omega
    repeat (first | refine sk_seq ?_ | refine sk_block ?_ | refine sk_blk ?_ | refine sk_skip ?_ | refine sk_exit rfl ?_ | refine sk_cond_t rfl ?_ | refine sk_cond_f rfl ?_ | (refine sk_reg fun K hK => ?_; simp [hw0, q']; refine hK _ ?_; clear hK K) | (refine sk_drw mix fun K hK => ?_; simp [hw0, q']; refine hK _ ?_; clear hK K))
    refine sk_ret ?_; simp [hr]
  have q' : ¬ (a - (ls.length : Int) < 0) := by omega
  repeat (first | refine sk_seq ?_ | refine sk_block ?_ | refine sk_blk ?_ | refine sk_skip ?_ | refine sk_exit rfl ?_ | refine sk_cond_t rfl ?_ | refine sk_cond_f rfl ?_ | (refine sk_reg fun K hK => ?_; simp [hw0, q']; refine hK _ ?_; clear hK K) | (refine sk_drw mix fun K hK => ?_; simp [hw0, q']; refine hK _ ?_; clear hK K))
  refine sk_rng ls.length (fun i => [(0, .slice a1 ls.length c1), (1, iv (a - (ls.length + cnL szL (ls.take i)))), (5, iv i)]) (fun i H1 => Gro H H1 ∧ ls.length + cnL szL (ls.take i) ≤ a) (by simp [subL, getT, cnL]) ⟨(by first | exact Gro.refl _ | exact Gro.one _ _), by simpa [cnL] using q⟩ ?_ ?_
  · rintro i H1 hi ⟨hg, hle⟩
    have hl := hg.len
    have hw := wrap_id (x := (i : Int) + 1) (by omega) (by omega)
    have hsu := cnL_succ (c := szL) hi
    have hn1 := cnL_nn szL_nn (ls.take i)
    have hn2 := szL_nn ls[i]
    have hcl := cnL_le (c := szL) (xs := ls) szL_nn (i + 1)
    obtain ⟨id, o, v1, v2, E1, E2, hve, hid, d0, d1, d2, d3, hw1, hw2, x1, x2, _⟩ := (h.gro hg RLn.frm).line hi
    generalize hln : ls[i] = l at *
    have s1 := szLine_ac (H := H1) hw1 hw2 (a := a - (ls.length + cnL szL (ls.take i))) (by omega)
    rw [subN_sub hle hn2, Int.add_assoc, ← hsu] at s1
    by_cases q2 : ls.length + cnL szL (ls.take (i + 1)) ≤ a
    · have q3 : ¬ (a - (ls.length + cnL szL (ls.take (i + 1))) < 0) := by omega
      rw [subN_lt q2] at s1
      repeat (first | refine sk_seq ?_ | refine sk_block ?_ | refine sk_blk ?_ | refine sk_skip ?_ | refine sk_exit rfl ?_ | refine sk_cond_t rfl ?_ | refine sk_cond_f rfl ?_ | (refine sk_reg fun K hK => ?_; simp [hi, hve, d0.a, d0.b, d1.a, d1.b, d2.a, d2.b, d3.a, d3.b, x1, x2, hl, hw, q3]; (repeat (first | (refine AskX.go (s1) ?_; simp [hi, hve, d0.a, d0.b, d1.a, d1.b, d2.a, d2.b, d3.a, d3.b, x1, x2, hl, hw, q3]))); refine hK _ ?_; clear hK K) | (refine sk_drw mix fun K hK => ?_; simp [hi, hve, d0.a, d0.b, d1.a, d1.b, d2.a, d2.b, d3.a, d3.b, x1, x2, hl, hw, q3]; (repeat (first | (refine AskD.go (s1) ?_; simp [hi, hve, d0.a, d0.b, d1.a, d1.b, d2.a, d2.b, d3.a, d3.b, x1, x2, hl, hw, q3]))); refine hK _ ?_; clear hK K))
      exact sk_inv ⟨by simp [subL, getT, hve], hg, q2⟩
    · have hr : subN a (szLs ls) = -1 := subN_no (by unfold szLs; omega)
      rw [subN_no q2] at s1
      repeat (first | refine sk_seq ?_ | refine sk_block ?_ | refine sk_blk ?_ | refine sk_skip ?_ | refine sk_exit rfl ?_ | refine sk_cond_t rfl ?_ | refine sk_cond_f rfl ?_ | (refine sk_reg fun K hK => ?_; simp [hi, hve, d0.a, d0.b, d1.a, d1.b, d2.a, d2.b, d3.a, d3.b, x1, x2, hl]; (repeat (first | (refine AskX.go (s1) ?_; simp [hi, hve, d0.a, d0.b, d1.a, d1.b, d2.a, d2.b, d3.a, d3.b, x1, x2, hl]))); refine hK _ ?_; clear hK K) | (refine sk_drw mix fun K hK => ?_; simp [hi, hve, d0.a, d0.b, d1.a, d1.b, d2.a, d2.b, d3.a, d3.b, x1, x2, hl]; (repeat (first | (refine AskD.go (s1) ?_; simp [hi, hve, d0.a, d0.b, d1.a, d1.b, d2.a, d2.b, d3.a, d3.b, x1, x2, hl]))); refine hK _ ?_; clear hK K))
      refine sk_ret ?_; simp [hr]
      exact hg
  · rintro H1 ⟨hg, hle⟩
    rw [List.take_length] at hle ⊢
    have hr : subN a (szLs ls) = a - (ls.length + cnL szL ls) := subN_lt hle
    repeat (first | refine sk_seq ?_ | refine sk_block ?_ | refine sk_blk ?_ | refine sk_skip ?_ | refine sk_exit rfl ?_ | refine sk_cond_t rfl ?_ | refine sk_cond_f rfl ?_ | (refine sk_reg fun K hK => ?_; simp; refine hK _ ?_; clear hK K) | (refine sk_drw mix fun K hK => ?_; simp; refine hK _ ?_; clear hK K))
    refine sk_ret ?_; simp [hr]
    exact hg
def B33 : SC := .seq (.reg [⟨some 2, .box 53 (.tmp 0), none, []⟩, ⟨some 4, .assign (.const (.int .i64 0)), none, []⟩]) (.seq (.reg [⟨some 5, .fieldAddr 53 (.tmp 2) 2, none, []⟩, ⟨some 6, .load 51 (.tmp 5), none, []⟩, ⟨some 7, .move (.tmp 1), none, []⟩, ⟨some 8, .call { callee := (.value (.func 95)), args := #[(.tmp 6), (.tmp 7)], argTypes := #[51, 3] }, none, []⟩, ⟨some 1, .assign (.tmp 8), none, []⟩]) (.seq (.seq (.reg [⟨some 9, .move (.tmp 1), none, []⟩, ⟨some 10, .binOp .lss 3 (.tmp 9) (.const (.int .i64 0)) 3, none, []⟩]) (.cond (.tmp 10) (.seq (.reg [⟨some 4, .assign (.const (.int .i64 (-1))), none, []⟩]) .ret) .skip)) (.seq (.reg [⟨some 11, .move (.tmp 1), none, []⟩, ⟨some 4, .assign (.tmp 11), none, []⟩]) .ret)))
theorem s33 : Try.f33.body.bind (stripC 12) = some B33 := by kernel_rfl
theorem szBook_ac {H : Heap} {E : List Nat} {b : Bk} {cs : List Value} (h : RBk H E b cs) {a : Int} (ha : 0 ≤ a ∧ a ≤ 1048576) : AC Try.prog 33 [.agg cs.toArray, iv a] H (iv (subN a (szLs b.lines))) H [] := by
  obtain ⟨v, rfl, hv⟩ := h
  have x := hv.one
  have s1 := fun L : Heap => szLineS_ac (H := H ++ L) (hv.ext RLn.frm) ha
  refine AC.of_pureS (N := 12) Try.func33 s33 (by kernel_rfl) rfl rfl (by simp) rfl ?_; unfold B33
  by_cases q : szLs b.lines ≤ a
  · have hr := subN_lt q
    have q' : ¬ (a - szLs b.lines < 0) := by omega
    rw [hr] at s1
    repeat (first | refine sk_seq ?_ | refine sk_block ?_ | refine sk_blk ?_ | refine sk_skip ?_ | refine sk_exit rfl ?_ | refine sk_cond_t rfl ?_ | refine sk_cond_f rfl ?_ | (refine sk_reg fun K hK => ?_; simp [x, q']; (repeat (first | (refine AskX.go (s1 _) ?_; simp [x, q']))); refine hK _ ?_; clear hK K) | (refine sk_drw mix fun K hK => ?_; simp [x, q']; (repeat (first | (refine AskD.go (s1 _) ?_; simp [x, q']))); refine hK _ ?_; clear hK K))
    refine sk_ret ?_; simp [hr]
  · have hr := subN_no q
    rw [hr] at s1
    repeat (first | refine sk_seq ?_ | refine sk_block ?_ | refine sk_blk ?_ | refine sk_skip ?_ | refine sk_exit rfl ?_ | refine sk_cond_t rfl ?_ | refine sk_cond_f rfl ?_ | (refine sk_reg fun K hK => ?_; simp [x]; (repeat (first | (refine AskX.go (s1 _) ?_; simp [x]))); refine hK _ ?_; clear hK K) | (refine sk_drw mix fun K hK => ?_; simp [x]; (repeat (first | (refine AskD.go (s1 _) ?_; simp [x]))); refine hK _ ?_; clear hK K))
    refine sk_ret ?_; simp [hr]
def B53 : SC := .seq (.reg [⟨some 2, .box 83 (.tmp 0), none, []⟩, ⟨some 4, .assign (.const (.int .i64 0)), none, []⟩]) (.seq (.reg [⟨some 5, .fieldAddr 83 (.tmp 2) 1, none, []⟩, ⟨some 6, .load 53 (.tmp 5), none, []⟩, ⟨some 7, .move (.tmp 1), none, []⟩, ⟨some 8, .call { callee := (.value (.func 33)), args := #[(.tmp 6), (.tmp 7)], argTypes := #[53, 3] }, none, []⟩, ⟨some 1, .assign (.tmp 8), none, []⟩]) (.seq (.seq (.reg [⟨some 9, .move (.tmp 1), none, []⟩, ⟨some 10, .binOp .lss 3 (.tmp 9) (.const (.int .i64 0)) 3, none, []⟩]) (.cond (.tmp 10) (.seq (.reg [⟨some 4, .assign (.const (.int .i64 (-1))), none, []⟩]) .ret) .skip)) (.seq (.reg [⟨some 11, .fieldAddr 83 (.tmp 2) 2, none, []⟩, ⟨some 12, .load 81 (.tmp 11), none, []⟩, ⟨some 13, .move (.tmp 1), none, []⟩, ⟨some 14, .call { callee := (.value (.func 109)), args := #[(.tmp 12), (.tmp 13)], argTypes := #[81, 3] }, none, []⟩, ⟨some 1, .assign (.tmp 14), none, []⟩]) (.seq (.seq (.reg [⟨some 15, .move (.tmp 1), none, []⟩, ⟨some 16, .binOp .lss 3 (.tmp 15) (.const (.int .i64 0)) 3, none, []⟩]) (.cond (.tmp 16) (.seq (.reg [⟨some 4, .assign (.const (.int .i64 (-1))), none, []⟩]) .ret) .skip)) (.seq (.reg [⟨some 17, .move (.tmp 1), none, []⟩, ⟨some 4, .assign (.tmp 17), none, []⟩]) .ret)))))
theorem s53 : Try.f53.body.bind (stripC 18) = some B53 := by kernel_rfl
theorem szWorld_ac {H : Heap} {E : List Nat} {w : Wd} {cs : List Value} (h : RWd H E w cs) {a : Int} (ha : 0 ≤ a ∧ a ≤ 1048576) : AC Try.prog 53 [.agg cs.toArray, iv a] H (iv (subN a (szW w))) H [] := by
  obtain ⟨E1, E2, c, v, rfl, rfl, hb, hv⟩ := h
  have s1 := fun L : Heap => szBook_ac (H := H ++ L) (RBk.frm.ext hb) ha
  obtain ⟨u, rfl, hu⟩ := hb
  have x := hv.one
  have y := hu.one
  have n1 : 0 ≤ szLs w.book.lines := by have := cnL_nn szL_nn w.book.lines; unfold szLs; omega
  refine AC.of_pureS (N := 18) Try.func53 s53 (by kernel_rfl) rfl rfl (by simp) rfl ?_; unfold B53
  by_cases q : szLs w.book.lines ≤ a
  case neg =>
    have hr : subN a (szW w) = -1 := subN_no (by unfold szW; omega)
    rw [subN_no q] at s1
    repeat (first | refine sk_seq ?_ | refine sk_block ?_ | refine sk_blk ?_ | refine sk_skip ?_ | refine sk_exit rfl ?_ | refine sk_cond_t rfl ?_ | refine sk_cond_f rfl ?_ | (refine sk_reg fun K hK => ?_; simp [x, y]; (repeat (first | (refine AskX.go (s1 _) ?_; simp [x, y]))); refine hK _ ?_; clear hK K) | (refine sk_drw mix fun K hK => ?_; simp [x, y]; (repeat (first | (refine AskD.go (s1 _) ?_; simp [x, y]))); refine hK _ ?_; clear hK K))
    refine sk_ret ?_; simp [hr]
  have q' : ¬ (a - szLs w.book.lines < 0) := by omega
  rw [subN_lt q] at s1
  have s2 := fun L : Heap => szBodyS_ac (H := H ++ L) (hv.ext (RP.frm _)) (a := a - szLs w.book.lines) (by omega)
  rw [subN_sub q (by omega), show szLs w.book.lines + w.bodies.length = szW w from rfl] at s2
  by_cases q2 : szW w ≤ a
  · have hr := subN_lt q2
    have q2' : ¬ (a - szW w < 0) := by omega
    rw [hr] at s2
    repeat (first | refine sk_seq ?_ | refine sk_block ?_ | refine sk_blk ?_ | refine sk_skip ?_ | refine sk_exit rfl ?_ | refine sk_cond_t rfl ?_ | refine sk_cond_f rfl ?_ | (refine sk_reg fun K hK => ?_; simp [x, y, q', q2']; (repeat (first | (refine AskX.go (s1 _) ?_; simp [x, y, q', q2']) | (refine AskX.go (s2 _) ?_; simp [x, y, q', q2']))); refine hK _ ?_; clear hK K) | (refine sk_drw mix fun K hK => ?_; simp [x, y, q', q2']; (repeat (first | (refine AskD.go (s1 _) ?_; simp [x, y, q', q2']) | (refine AskD.go (s2 _) ?_; simp [x, y, q', q2']))); refine hK _ ?_; clear hK K))
    refine sk_ret ?_; simp [hr]
  · have hr := subN_no q2
    rw [hr] at s2
    repeat (first | refine sk_seq ?_ | refine sk_block ?_ | refine sk_blk ?_ | refine sk_skip ?_ | refine sk_exit rfl ?_ | refine sk_cond_t rfl ?_ | refine sk_cond_f rfl ?_ | (refine sk_reg fun K hK => ?_; simp [x, y, q']; (repeat (first | (refine AskX.go (s1 _) ?_; simp [x, y, q']) | (refine AskX.go (s2 _) ?_; simp [x, y, q']))); refine hK _ ?_; clear hK K) | (refine sk_drw mix fun K hK => ?_; simp [x, y, q']; (repeat (first | (refine AskD.go (s1 _) ?_; simp [x, y, q']) | (refine AskD.go (s2 _) ?_; simp [x, y, q']))); refine hK _ ?_; clear hK K))
    refine sk_ret ?_; simp [hr]
end Go.Proofs.Ytpoedfmkiiijnaa
