/- The small functions of the book: total, reach, l1most, l2later, l1total, Contains. Walks. -/
import Derived.Test.YtpoedfmkiiijnaaSy
namespace Go.Proofs.Ytpoedfmkiiijnaa
open Go Go.RowKit Go.Proofs.YtpoedfmkiiijnaaAm
set_option linter.unusedVariables false
set_option linter.unusedSimpArgs false
set_option maxRecDepth 10000

def B91 : SC := .seq (.reg [⟨some 1, .box 43 (.tmp 0), none, []⟩, ⟨some 2, .assign (.const (.int .i64 0)), none, []⟩]) (.seq (.reg [⟨some 3, .fieldAddr 43 (.tmp 1) 0, none, []⟩, ⟨some 4, .load 3 (.tmp 3), none, []⟩, ⟨some 5, .fieldAddr 43 (.tmp 1) 1, none, []⟩, ⟨some 6, .load 40 (.tmp 5), none, []⟩, ⟨some 7, .call { callee := (.builtin .len), args := #[(.tmp 6)], argTypes := #[40] }, none, []⟩, ⟨some 8, .binOp .add 3 (.tmp 4) (.tmp 7) 3, none, []⟩, ⟨some 2, .assign (.tmp 8), none, []⟩]) .ret)
theorem s91 : Try.f91.body.bind (stripC 9) = some B91 := by kernel_rfl
theorem total_ac {H : Heap} {g d : Int} {n : Nat} {v1 v2 : Value} (h1 : ∃ a c, v1 = .slice a n c) (h2 : v2.oneCell' = true) : AC Try.prog 91 [.agg #[iv g, v1, v2, iv d]] H (iv (IntKind.i64.wrap (g + n))) H [] := by
  obtain ⟨a, c, rfl⟩ := h1
  refine AC.of_pureS (N := 9) Try.func91 s91 (by kernel_rfl) rfl rfl (by simp) rfl ?_; unfold B91
  repeat (first | refine sk_seq ?_ | refine sk_block ?_ | refine sk_blk ?_ | refine sk_skip ?_ | refine sk_exit rfl ?_ | refine sk_cond_t rfl ?_ | refine sk_cond_f rfl ?_ | (refine sk_reg fun K hK => ?_; simp [h2]; refine hK _ ?_; clear hK K) | (refine sk_drw mix fun K hK => ?_; simp [h2]; refine hK _ ?_; clear hK K))
  refine sk_ret ?_; simp
def B115 : SC := .seq (.reg [⟨some 1, .box 43 (.tmp 0), none, []⟩, ⟨some 2, .assign (.const (.int .i64 0)), none, []⟩]) (.seq (.reg [⟨some 3, .fieldAddr 43 (.tmp 1) 0, none, []⟩, ⟨some 4, .load 3 (.tmp 3), none, []⟩, ⟨some 5, .fieldAddr 43 (.tmp 1) 1, none, []⟩, ⟨some 6, .load 40 (.tmp 5), none, []⟩, ⟨some 7, .call { callee := (.builtin .len), args := #[(.tmp 6)], argTypes := #[40] }, none, []⟩, ⟨some 8, .binOp .add 3 (.tmp 4) (.tmp 7) 3, none, []⟩, ⟨some 2, .assign (.tmp 8), none, []⟩]) .ret)
theorem s115 : Try.f115.body.bind (stripC 9) = some B115 := by kernel_rfl
theorem l1total_ac {H : Heap} {g d : Int} {n : Nat} {v1 v2 : Value} (h1 : ∃ a c, v1 = .slice a n c) (h2 : v2.oneCell' = true) : AC Try.prog 115 [.agg #[iv g, v1, v2, iv d]] H (iv (IntKind.i64.wrap (g + n))) H [] := by
  obtain ⟨a, c, rfl⟩ := h1
  refine AC.of_pureS (N := 9) Try.func115 s115 (by kernel_rfl) rfl rfl (by simp) rfl ?_; unfold B115
  repeat (first | refine sk_seq ?_ | refine sk_block ?_ | refine sk_blk ?_ | refine sk_skip ?_ | refine sk_exit rfl ?_ | refine sk_cond_t rfl ?_ | refine sk_cond_f rfl ?_ | (refine sk_reg fun K hK => ?_; simp [h2]; refine hK _ ?_; clear hK K) | (refine sk_drw mix fun K hK => ?_; simp [h2]; refine hK _ ?_; clear hK K))
  refine sk_ret ?_; simp
theorem maxI_eq (a b : Int) : (if a < b then b else a) = maxI a b := rfl
def B92 : SC := .seq (.reg [⟨some 2, .assign (.const (.int .i64 0)), none, []⟩]) (.seq (.reg [⟨some 3, .assign (.const (.int .i64 0)), none, []⟩]) (.seq (.seq (.reg [⟨some 6, .move (.tmp 0), none, []⟩, ⟨some 7, .call { callee := (.builtin .len), args := #[(.tmp 6)], argTypes := #[41] }, none, []⟩, ⟨some 8, .move (.const (.int .i64 0)), none, []⟩]) (.block 0 (.loop (.seq (.reg [⟨some 9, .binOp .lss 3 (.tmp 8) (.tmp 7) 3, none, []⟩]) (.seq (.cond (.tmp 9) .skip (.exit 0)) (.seq (.block 1 (.seq (.reg [⟨some 10, .indexAddr 41 (.tmp 6) (.tmp 8), none, []⟩, ⟨some 11, .load 45 (.tmp 10), none, []⟩, ⟨some 5, .alloc 45, none, []⟩, ⟨none, .store 45 (.tmp 5) (.tmp 11), none, []⟩]) (.reg [⟨some 12, .move (.tmp 3), none, []⟩, ⟨some 13, .fieldAddr 45 (.tmp 5) 1, none, []⟩, ⟨some 14, .load 3 (.tmp 13), none, []⟩, ⟨some 15, .call { callee := (.builtin .max), args := #[(.tmp 12), (.tmp 14)], argTypes := #[3, 3] }, none, []⟩, ⟨some 3, .assign (.tmp 15), none, []⟩]))) (.reg [⟨some 16, .binOp .add 3 (.tmp 8) (.const (.int .i64 1)) 3, none, []⟩, ⟨some 8, .move (.tmp 16), none, []⟩]))))))) (.seq (.reg [⟨some 17, .move (.tmp 3), none, []⟩, ⟨some 2, .assign (.tmp 17), none, []⟩]) .ret)))
theorem s92 : Try.f92.body.bind (stripC 18) = some B92 := by kernel_rfl
theorem reach_ac {H : Heap} {E : List Nat} {v : Value} {gs : List Gr} (h : RS 2 RGr H E v gs) : AC Try.prog 92 [v] H (iv (reachL gs)) H [] := by
  obtain ⟨a1, c1, ha⟩ := h.form
  have hn := h.1
  refine AC.of_pureS (N := 18) Try.func92 s92 (by kernel_rfl) rfl rfl (by simp) rfl ?_; unfold B92
  rw [ha]
  repeat (first | refine sk_seq ?_ | refine sk_block ?_ | refine sk_blk ?_ | refine sk_skip ?_ | refine sk_exit rfl ?_ | refine sk_cond_t rfl ?_ | refine sk_cond_f rfl ?_ | (refine sk_reg fun K hK => ?_; simp; refine hK _ ?_; clear hK K) | (refine sk_drw mix fun K hK => ?_; simp; refine hK _ ?_; clear hK K))
  rw [← ha]
  refine sk_rng gs.length (fun i => [(3, iv (reachL (gs.take i))), (6, v), (7, iv gs.length), (8, iv i)]) (fun i H1 => Gro H H1) (by simp [subL, getT, ha, reachL]) (by first | exact Gro.refl _ | exact Gro.one _ _) ?_ ?_
  · intro i H1 hi hg
    obtain ⟨id, o, Ek, cs, hv, hid, _, _, hR, hsz, hc⟩ := (h.gro hg (RP.frm _)).at hi
    obtain ⟨_, rfl⟩ := hR
    have c0 : CF H1 _ _ _ := hc 0 _ rfl
    have c1 : CF H1 _ _ _ := hc 1 _ rfl
    simp only [Nat.add_zero] at c0
    have hw := wrap_id (x := (i : Int) + 1) (by omega) (by omega)
    have hl := hg.len
    repeat (first | refine sk_seq ?_ | refine sk_block ?_ | refine sk_blk ?_ | refine sk_skip ?_ | refine sk_exit rfl ?_ | refine sk_cond_t rfl ?_ | refine sk_cond_f rfl ?_ | (refine sk_reg fun K hK => ?_; simp [hi, hv, c0.a, c0.b, c1.a, c1.b, hw, hl]; refine hK _ ?_; clear hK K) | (refine sk_drw mix fun K hK => ?_; simp [hi, hv, c0.a, c0.b, c1.a, c1.b, hw, hl]; refine hK _ ?_; clear hK K))
    refine sk_inv ⟨?_, ?_⟩
    · rw [take_snoc hi, reachL_snoc]; simp [subL, getT, hv, maxI]
    · exact hg.app _
  · intro H1 hg
    repeat (first | refine sk_seq ?_ | refine sk_block ?_ | refine sk_blk ?_ | refine sk_skip ?_ | refine sk_exit rfl ?_ | refine sk_cond_t rfl ?_ | refine sk_cond_f rfl ?_ | (refine sk_reg fun K hK => ?_; simp [ha]; refine hK _ ?_; clear hK K) | (refine sk_drw mix fun K hK => ?_; simp [ha]; refine hK _ ?_; clear hK K))
    refine sk_ret ?_; simp
    exact hg
theorem gt_maxI {a b : Int} : maxI a b = if a < b then b else a := rfl
def B98 : SC := .seq (.reg [⟨some 1, .box 43 (.tmp 0), none, []⟩, ⟨some 2, .assign (.const (.int .i64 0)), none, []⟩]) (.seq (.reg [⟨some 3, .assign (.const (.int .i64 0)), none, []⟩]) (.seq (.seq (.reg [⟨some 6, .fieldAddr 43 (.tmp 1) 2, none, []⟩, ⟨some 7, .load 41 (.tmp 6), none, []⟩, ⟨some 8, .call { callee := (.builtin .len), args := #[(.tmp 7)], argTypes := #[41] }, none, []⟩, ⟨some 9, .move (.const (.int .i64 0)), none, []⟩]) (.block 0 (.loop (.seq (.reg [⟨some 10, .binOp .lss 3 (.tmp 9) (.tmp 8) 3, none, []⟩]) (.seq (.cond (.tmp 10) .skip (.exit 0)) (.seq (.block 1 (.seq (.reg [⟨some 11, .indexAddr 41 (.tmp 7) (.tmp 9), none, []⟩, ⟨some 12, .load 45 (.tmp 11), none, []⟩, ⟨some 5, .alloc 45, none, []⟩, ⟨none, .store 45 (.tmp 5) (.tmp 12), none, []⟩]) (.seq (.reg [⟨some 13, .fieldAddr 45 (.tmp 5) 1, none, []⟩, ⟨some 14, .load 3 (.tmp 13), none, []⟩, ⟨some 15, .move (.tmp 3), none, []⟩, ⟨some 16, .binOp .gtr 3 (.tmp 14) (.tmp 15) 3, none, []⟩]) (.cond (.tmp 16) (.reg [⟨some 17, .fieldAddr 45 (.tmp 5) 1, none, []⟩, ⟨some 18, .load 3 (.tmp 17), none, []⟩, ⟨some 3, .assign (.tmp 18), none, []⟩]) .skip)))) (.reg [⟨some 19, .binOp .add 3 (.tmp 9) (.const (.int .i64 1)) 3, none, []⟩, ⟨some 9, .move (.tmp 19), none, []⟩]))))))) (.seq (.reg [⟨some 20, .move (.tmp 3), none, []⟩, ⟨some 2, .assign (.tmp 20), none, []⟩]) .ret)))
theorem s98 : Try.f98.body.bind (stripC 21) = some B98 := by kernel_rfl
theorem l1most_ac {H : Heap} {E : List Nat} {g d : Int} {v1 v2 : Value} {gs : List Gr} (h1 : ∃ a n c, v1 = .slice a n c) (h : RS 2 RGr H E v2 gs) : AC Try.prog 98 [.agg #[iv g, v1, v2, iv d]] H (iv (reachL gs)) H [] := by
  obtain ⟨a0, n0, c00, rfl⟩ := h1
  obtain ⟨a1, c1, ha⟩ := h.form
  have hn := h.1
  refine AC.of_pureS (N := 21) Try.func98 s98 (by kernel_rfl) rfl rfl (by simp) rfl ?_; unfold B98
  rw [ha]
  repeat (first | refine sk_seq ?_ | refine sk_block ?_ | refine sk_blk ?_ | refine sk_skip ?_ | refine sk_exit rfl ?_ | refine sk_cond_t rfl ?_ | refine sk_cond_f rfl ?_ | (refine sk_reg fun K hK => ?_; simp; refine hK _ ?_; clear hK K) | (refine sk_drw mix fun K hK => ?_; simp; refine hK _ ?_; clear hK K))
  rw [← ha]
  refine sk_rng gs.length (fun i => [(3, iv (reachL (gs.take i))), (7, v2), (8, iv gs.length), (9, iv i)]) (fun i H1 => Gro H H1) (by simp [subL, getT, ha, reachL]) (by first | exact Gro.refl _ | exact Gro.one _ _) ?_ ?_
  · intro i H1 hi hg
    obtain ⟨id, o, Ek, cs, hv, hid, _, _, hR, hsz, hc⟩ := (h.gro hg (RP.frm _)).at hi
    obtain ⟨_, rfl⟩ := hR
    have c0 : CF H1 _ _ _ := hc 0 _ rfl
    have c1 : CF H1 _ _ _ := hc 1 _ rfl
    simp only [Nat.add_zero] at c0
    have hw := wrap_id (x := (i : Int) + 1) (by omega) (by omega)
    have hl := hg.len
    by_cases hb : reachL (gs.take i) < gs[i].cel
    all_goals
      repeat (first | refine sk_seq ?_ | refine sk_block ?_ | refine sk_blk ?_ | refine sk_skip ?_ | refine sk_exit rfl ?_ | refine sk_cond_t rfl ?_ | refine sk_cond_f rfl ?_ | (refine sk_reg fun K hK => ?_; simp [hi, hv, c0.a, c0.b, c1.a, c1.b, hw, hl, hb]; refine hK _ ?_; clear hK K) | (refine sk_drw mix fun K hK => ?_; simp [hi, hv, c0.a, c0.b, c1.a, c1.b, hw, hl, hb]; refine hK _ ?_; clear hK K))
      refine sk_inv ⟨?_, hg.app _⟩
      rw [take_snoc hi, reachL_snoc, gt_maxI]; simp [subL, getT, hv, hb]
  · intro H1 hg
    repeat (first | refine sk_seq ?_ | refine sk_block ?_ | refine sk_blk ?_ | refine sk_skip ?_ | refine sk_exit rfl ?_ | refine sk_cond_t rfl ?_ | refine sk_cond_f rfl ?_ | (refine sk_reg fun K hK => ?_; simp [ha]; refine hK _ ?_; clear hK K) | (refine sk_drw mix fun K hK => ?_; simp [ha]; refine hK _ ?_; clear hK K))
    refine sk_ret ?_; simp
    exact hg
def B116 : SC := .seq (.reg [⟨some 2, .assign (.const (.int .i64 0)), none, []⟩]) (.seq (.reg [⟨some 3, .assign (.const (.int .i64 0)), none, []⟩]) (.seq (.seq (.reg [⟨some 6, .move (.tmp 0), none, []⟩, ⟨some 7, .call { callee := (.builtin .len), args := #[(.tmp 6)], argTypes := #[41] }, none, []⟩, ⟨some 8, .move (.const (.int .i64 0)), none, []⟩]) (.block 0 (.loop (.seq (.reg [⟨some 9, .binOp .lss 3 (.tmp 8) (.tmp 7) 3, none, []⟩]) (.seq (.cond (.tmp 9) .skip (.exit 0)) (.seq (.block 1 (.seq (.reg [⟨some 10, .indexAddr 41 (.tmp 6) (.tmp 8), none, []⟩, ⟨some 11, .load 45 (.tmp 10), none, []⟩, ⟨some 5, .alloc 45, none, []⟩, ⟨none, .store 45 (.tmp 5) (.tmp 11), none, []⟩]) (.seq (.reg [⟨some 12, .fieldAddr 45 (.tmp 5) 1, none, []⟩, ⟨some 13, .load 3 (.tmp 12), none, []⟩, ⟨some 14, .move (.tmp 3), none, []⟩, ⟨some 15, .binOp .gtr 3 (.tmp 13) (.tmp 14) 3, none, []⟩]) (.cond (.tmp 15) (.reg [⟨some 16, .fieldAddr 45 (.tmp 5) 1, none, []⟩, ⟨some 17, .load 3 (.tmp 16), none, []⟩, ⟨some 3, .assign (.tmp 17), none, []⟩]) .skip)))) (.reg [⟨some 18, .binOp .add 3 (.tmp 8) (.const (.int .i64 1)) 3, none, []⟩, ⟨some 8, .move (.tmp 18), none, []⟩]))))))) (.seq (.reg [⟨some 19, .move (.tmp 3), none, []⟩, ⟨some 2, .assign (.tmp 19), none, []⟩]) .ret)))
theorem s116 : Try.f116.body.bind (stripC 20) = some B116 := by kernel_rfl
theorem l2later_ac {H : Heap} {E : List Nat} {v : Value} {gs : List Gr} (h : RS 2 RGr H E v gs) : AC Try.prog 116 [v] H (iv (reachL gs)) H [] := by
  obtain ⟨a1, c1, ha⟩ := h.form
  have hn := h.1
  refine AC.of_pureS (N := 20) Try.func116 s116 (by kernel_rfl) rfl rfl (by simp) rfl ?_; unfold B116
  rw [ha]
  repeat (first | refine sk_seq ?_ | refine sk_block ?_ | refine sk_blk ?_ | refine sk_skip ?_ | refine sk_exit rfl ?_ | refine sk_cond_t rfl ?_ | refine sk_cond_f rfl ?_ | (refine sk_reg fun K hK => ?_; simp; refine hK _ ?_; clear hK K) | (refine sk_drw mix fun K hK => ?_; simp; refine hK _ ?_; clear hK K))
  rw [← ha]
  refine sk_rng gs.length (fun i => [(3, iv (reachL (gs.take i))), (6, v), (7, iv gs.length), (8, iv i)]) (fun i H1 => Gro H H1) (by simp [subL, getT, ha, reachL]) (by first | exact Gro.refl _ | exact Gro.one _ _) ?_ ?_
  · intro i H1 hi hg
    obtain ⟨id, o, Ek, cs, hv, hid, _, _, hR, hsz, hc⟩ := (h.gro hg (RP.frm _)).at hi
    obtain ⟨_, rfl⟩ := hR
    have c0 : CF H1 _ _ _ := hc 0 _ rfl
    have c1 : CF H1 _ _ _ := hc 1 _ rfl
    simp only [Nat.add_zero] at c0
    have hw := wrap_id (x := (i : Int) + 1) (by omega) (by omega)
    have hl := hg.len
    by_cases hb : reachL (gs.take i) < gs[i].cel
    all_goals
      repeat (first | refine sk_seq ?_ | refine sk_block ?_ | refine sk_blk ?_ | refine sk_skip ?_ | refine sk_exit rfl ?_ | refine sk_cond_t rfl ?_ | refine sk_cond_f rfl ?_ | (refine sk_reg fun K hK => ?_; simp [hi, hv, c0.a, c0.b, c1.a, c1.b, hw, hl, hb]; refine hK _ ?_; clear hK K) | (refine sk_drw mix fun K hK => ?_; simp [hi, hv, c0.a, c0.b, c1.a, c1.b, hw, hl, hb]; refine hK _ ?_; clear hK K))
      refine sk_inv ⟨?_, hg.app _⟩
      rw [take_snoc hi, reachL_snoc, gt_maxI]; simp [subL, getT, hv, hb]
  · intro H1 hg
    repeat (first | refine sk_seq ?_ | refine sk_block ?_ | refine sk_blk ?_ | refine sk_skip ?_ | refine sk_exit rfl ?_ | refine sk_cond_t rfl ?_ | refine sk_cond_f rfl ?_ | (refine sk_reg fun K hK => ?_; simp [ha]; refine hK _ ?_; clear hK K) | (refine sk_drw mix fun K hK => ?_; simp [ha]; refine hK _ ?_; clear hK K))
    refine sk_ret ?_; simp
    exact hg
def B133 : SC := .seq (.reg [⟨some 4, .assign (.const (.int .i64 0)), none, []⟩]) (.seq (.seq (.reg [⟨some 6, .move (.tmp 0), none, []⟩, ⟨some 7, .call { callee := (.builtin .len), args := #[(.tmp 6)], argTypes := #[40] }, none, []⟩, ⟨some 8, .move (.const (.int .i64 0)), none, []⟩]) (.block 0 (.loop (.seq (.reg [⟨some 9, .binOp .lss 3 (.tmp 8) (.tmp 7) 3, none, []⟩]) (.seq (.cond (.tmp 9) .skip (.exit 0)) (.seq (.block 1 (.seq (.reg [⟨some 10, .move (.tmp 8), none, []⟩, ⟨some 5, .assign (.tmp 10), none, []⟩]) (.seq (.reg [⟨some 11, .move (.tmp 1), none, []⟩, ⟨some 12, .move (.tmp 0), none, []⟩, ⟨some 13, .move (.tmp 5), none, []⟩, ⟨some 14, .indexAddr 40 (.tmp 12) (.tmp 13), none, []⟩, ⟨some 15, .load 3 (.tmp 14), none, []⟩, ⟨some 16, .binOp .eql 3 (.tmp 11) (.tmp 15) 3, none, []⟩]) (.cond (.tmp 16) (.seq (.reg [⟨some 17, .move (.tmp 5), none, []⟩, ⟨some 4, .assign (.tmp 17), none, []⟩]) .ret) .skip)))) (.reg [⟨some 18, .binOp .add 3 (.tmp 8) (.const (.int .i64 1)) 3, none, []⟩, ⟨some 8, .move (.tmp 18), none, []⟩]))))))) (.seq (.reg [⟨some 4, .assign (.const (.int .i64 (-1))), none, []⟩]) .ret))
theorem s133 : Try.f133.body.bind (stripC 19) = some B133 := by kernel_rfl
theorem indexI_ac {H : Heap} {E : List Nat} {v : Value} {xs : List Int} (h : RS 1 RInt H E v xs) (x : Int) : AC Try.prog 133 [v, iv x] H (iv (fstI (isI x) xs)) H [] := by
  obtain ⟨a1, c1, ha⟩ := h.form
  have hn := h.1
  refine AC.of_pureS (N := 19) Try.func133 s133 (by kernel_rfl) rfl rfl (by simp) rfl ?_; unfold B133
  rw [ha]
  repeat (first | refine sk_seq ?_ | refine sk_block ?_ | refine sk_blk ?_ | refine sk_skip ?_ | refine sk_exit rfl ?_ | refine sk_cond_t rfl ?_ | refine sk_cond_f rfl ?_ | (refine sk_reg fun K hK => ?_; simp; refine hK _ ?_; clear hK K) | (refine sk_drw mix fun K hK => ?_; simp; refine hK _ ?_; clear hK K))
  rw [← ha]
  refine sk_rng xs.length (fun i => [(0, v), (1, iv x), (7, iv xs.length), (8, iv i)]) (fun i H1 => Gro H H1 ∧ ∀ j (hj : j < i) (hx : j < xs.length), isI x xs[j] = false) (by simp [subL, getT, ha]) ⟨(by first | exact Gro.refl _ | exact Gro.one _ _), fun j hj => by omega⟩ ?_ ?_
  · rintro i H1 hi ⟨hg, hpre⟩
    obtain ⟨id, o, Ek, cs, hv, hid, _, _, hR, hsz, hc⟩ := (h.gro hg (RP.frm _)).at hi
    obtain ⟨_, rfl⟩ := hR
    have c0 : CF H1 _ _ _ := hc 0 _ rfl
    simp only [Nat.add_zero, Nat.mul_one] at c0
    have hw := wrap_id (x := (i : Int) + 1) (by omega) (by omega)
    have hl := hg.len
    cases hb : isI x xs[i]
    · have hb' : ¬ x = xs[i] := by simpa [isI] using hb
      repeat (first | refine sk_seq ?_ | refine sk_block ?_ | refine sk_blk ?_ | refine sk_skip ?_ | refine sk_exit rfl ?_ | refine sk_cond_t rfl ?_ | refine sk_cond_f rfl ?_ | (refine sk_reg fun K hK => ?_; simp [hi, hv, c0.a, c0.b, hw, hl, hb']; refine hK _ ?_; clear hK K) | (refine sk_drw mix fun K hK => ?_; simp [hi, hv, c0.a, c0.b, hw, hl, hb']; refine hK _ ?_; clear hK K))
      refine sk_inv ⟨?_, hg, fun j hj hx => ?_⟩
      · simp [subL, getT, hv]
      · by_cases e : j = i
        · subst e; exact hb
        · exact hpre j (by omega) hx
    · have hb' : x = xs[i] := by simpa [isI] using hb
      have hr := fstI_some hi hb fun j hj => hpre j hj (by omega)
      repeat (first | refine sk_seq ?_ | refine sk_block ?_ | refine sk_blk ?_ | refine sk_skip ?_ | refine sk_exit rfl ?_ | refine sk_cond_t rfl ?_ | refine sk_cond_f rfl ?_ | (refine sk_reg fun K hK => ?_; simp [hi, hv, c0.a, c0.b, hw, hl, ← hb']; refine hK _ ?_; clear hK K) | (refine sk_drw mix fun K hK => ?_; simp [hi, hv, c0.a, c0.b, hw, hl, ← hb']; refine hK _ ?_; clear hK K))
      refine sk_ret ?_; simp [hr]
      exact hg
  · rintro H1 ⟨hg, hpre⟩
    have hr := fstI_none (p := isI x) (xs := xs) fun j hj => hpre j hj hj
    repeat (first | refine sk_seq ?_ | refine sk_block ?_ | refine sk_blk ?_ | refine sk_skip ?_ | refine sk_exit rfl ?_ | refine sk_cond_t rfl ?_ | refine sk_cond_f rfl ?_ | (refine sk_reg fun K hK => ?_; simp [ha]; refine hK _ ?_; clear hK K) | (refine sk_drw mix fun K hK => ?_; simp [ha]; refine hK _ ?_; clear hK K))
    refine sk_ret ?_; simp [hr]
    exact hg
def B99 : SC := .seq (.reg [⟨some 4, .assign (.const (.bool false)), none, []⟩]) (.seq (.reg [⟨some 5, .move (.tmp 0), none, []⟩, ⟨some 6, .move (.tmp 1), none, []⟩, ⟨some 7, .call { callee := (.value (.func 133)), args := #[(.tmp 5), (.tmp 6)], argTypes := #[40, 3] }, none, []⟩, ⟨some 8, .binOp .geq 3 (.tmp 7) (.const (.int .i64 0)) 3, none, []⟩, ⟨some 4, .assign (.tmp 8), none, []⟩]) .ret)
theorem s99 : Try.f99.body.bind (stripC 9) = some B99 := by kernel_rfl
theorem containsI_ac {H : Heap} {E : List Nat} {v : Value} {xs : List Int} (h : RS 1 RInt H E v xs) (x : Int) : AC Try.prog 99 [v, iv x] H (.bool (decide (x ∈ xs))) H [] := by
  obtain ⟨a1, c1, ha⟩ := h.form
  refine AC.of_pureS (N := 9) Try.func99 s99 (by kernel_rfl) rfl rfl (by simp) rfl ?_; unfold B99
  rw [ha]
  have ac := indexI_ac h x
  rw [ha] at ac
  repeat (first | refine sk_seq ?_ | refine sk_block ?_ | refine sk_blk ?_ | refine sk_skip ?_ | refine sk_exit rfl ?_ | refine sk_cond_t rfl ?_ | refine sk_cond_f rfl ?_ | (refine sk_reg fun K hK => ?_; simp; (repeat (first | (refine AskX.go (ac) ?_; simp))); refine hK _ ?_; clear hK K) | (refine sk_drw mix fun K hK => ?_; simp; (repeat (first | (refine AskD.go (ac) ?_; simp))); refine hK _ ?_; clear hK K))
  refine sk_ret ?_; simp [contI]
end Go.Proofs.Ytpoedfmkiiijnaa
