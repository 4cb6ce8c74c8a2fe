/- Owner, Reach, EventOk of the program and of the reference. Walks. -/
import Derived.Test.YtpoedfmkiiijnaaBk2
import Derived.Test.YtpoedfmkiiijnaaBk4
namespace Go.Proofs.Ytpoedfmkiiijnaa
open Go Go.RowKit Go.Proofs.YtpoedfmkiiijnaaAm
set_option linter.unusedVariables false
set_option linter.unusedSimpArgs false
set_option maxRecDepth 10000
set_option maxHeartbeats 4000000

def B105 : SC := .seq (.reg [⟨some 2, .box 25 (.tmp 0), none, []⟩, ⟨some 4, .assign (.const (.int .i64 0)), none, []⟩]) (.seq (.seq (.reg [⟨some 7, .fieldAddr 25 (.tmp 2) 2, none, []⟩, ⟨some 8, .load 23 (.tmp 7), none, []⟩, ⟨some 9, .call { callee := (.builtin .len), args := #[(.tmp 8)], argTypes := #[23] }, none, []⟩, ⟨some 10, .move (.const (.int .i64 0)), none, []⟩]) (.block 0 (.loop (.seq (.reg [⟨some 11, .binOp .lss 3 (.tmp 10) (.tmp 9) 3, none, []⟩]) (.seq (.cond (.tmp 11) .skip (.exit 0)) (.seq (.block 1 (.seq (.reg [⟨some 12, .move (.tmp 10), none, []⟩, ⟨some 13, .indexAddr 23 (.tmp 8) (.tmp 10), none, []⟩, ⟨some 14, .load 43 (.tmp 13), none, []⟩, ⟨some 6, .alloc 43, none, []⟩, ⟨some 5, .assign (.tmp 12), none, []⟩, ⟨none, .store 43 (.tmp 6) (.tmp 14), none, []⟩]) (.seq (.reg [⟨some 15, .fieldAddr 43 (.tmp 6) 1, none, []⟩, ⟨some 16, .load 40 (.tmp 15), none, []⟩, ⟨some 17, .move (.tmp 1), none, []⟩, ⟨some 18, .call { callee := (.value (.func 99)), args := #[(.tmp 16), (.tmp 17)], argTypes := #[40, 3] }, none, []⟩]) (.cond (.tmp 18) (.seq (.reg [⟨some 19, .move (.tmp 5), none, []⟩, ⟨some 4, .assign (.tmp 19), none, []⟩]) .ret) .skip)))) (.reg [⟨some 20, .binOp .add 3 (.tmp 10) (.const (.int .i64 1)) 3, none, []⟩, ⟨some 10, .move (.tmp 20), none, []⟩]))))))) (.seq (.reg [⟨some 4, .assign (.const (.int .i64 (-1))), none, []⟩]) .ret))
theorem s105 : Try.f105.body.bind (stripC 21) = some B105 := by kernel_rfl
theorem owner_ac {H : Heap} {E : List Nat} {b : Bk} {cs : List Value} (h : RBk H E b cs) (s : Int) : AC Try.prog 105 [.agg cs.toArray, iv s] H (iv (ownB b.lines s)) H [] := by
  obtain ⟨v, rfl, hv⟩ := h
  obtain ⟨a0, c0, rfl⟩ := hv.form
  have hn := hv.1
  refine AC.of_pureS (N := 21) Try.func105 s105 (by kernel_rfl) rfl rfl (by simp) rfl ?_; unfold B105
  repeat (first | refine sk_seq ?_ | refine sk_block ?_ | refine sk_blk ?_ | refine sk_skip ?_ | refine sk_exit rfl ?_ | refine sk_cond_t rfl ?_ | refine sk_cond_f rfl ?_ | (refine sk_reg fun K hK => ?_; simp; refine hK _ ?_; clear hK K) | (refine sk_drw mix fun K hK => ?_; simp; refine hK _ ?_; clear hK K))
  refine sk_rng b.lines.length (fun i => [(1, iv s), (8, .slice a0 b.lines.length c0), (9, iv b.lines.length), (10, iv i)]) (fun i H1 => Gro H H1 ∧ ∀ j (hj : j < i) (hx : j < b.lines.length), inWay s b.lines[j] = false) (by simp [subL, getT]) ⟨(by first | exact Gro.refl _ | exact Gro.one _ _), fun j hj => by omega⟩ ?_ ?_
  · rintro i H1 hi ⟨hg, hpre⟩
    have hl := hg.len
    obtain ⟨id, o, v1, v2, E1, E2, hve, hid, d0, d1, d2, d3, hw1, hw2, x1, x2, _⟩ := (hv.gro hg RLn.frm).line hi
    have hwi := wrap_id (x := (i : Int) + 1) (by omega) (by omega)
    have hfs := fun h => fstI_some (p := inWay s) hi h fun j hj => hpre j hj (by omega)
    generalize hln : b.lines[i] = l at *
    have cac := fun L : Heap => containsI_ac (H := H1 ++ L) (hw1.ext (RP.frm _)) s
    by_cases q : s ∈ l.way
    · have hr := hfs (by simp [inWay, q])
      rw [decide_eq_true q] at cac
      repeat (first | refine sk_seq ?_ | refine sk_block ?_ | refine sk_blk ?_ | refine sk_skip ?_ | refine sk_exit rfl ?_ | refine sk_cond_t rfl ?_ | refine sk_cond_f rfl ?_ | (refine sk_reg fun K hK => ?_; simp [hi, hve, d0.a, d0.b, d1.a, d1.b, d2.a, d2.b, d3.a, d3.b, x1, x2, hl]; (repeat (first | (refine AskX.go (cac _) ?_; simp [hi, hve, d0.a, d0.b, d1.a, d1.b, d2.a, d2.b, d3.a, d3.b, x1, x2, hl]))); refine hK _ ?_; clear hK K) | (refine sk_drw mix fun K hK => ?_; simp [hi, hve, d0.a, d0.b, d1.a, d1.b, d2.a, d2.b, d3.a, d3.b, x1, x2, hl]; (repeat (first | (refine AskD.go (cac _) ?_; simp [hi, hve, d0.a, d0.b, d1.a, d1.b, d2.a, d2.b, d3.a, d3.b, x1, x2, hl]))); refine hK _ ?_; clear hK K))
      refine sk_ret ?_; simp [ownB, hr]
      exact hg.app _
    · rw [decide_eq_false q] at cac
      repeat (first | refine sk_seq ?_ | refine sk_block ?_ | refine sk_blk ?_ | refine sk_skip ?_ | refine sk_exit rfl ?_ | refine sk_cond_t rfl ?_ | refine sk_cond_f rfl ?_ | (refine sk_reg fun K hK => ?_; simp [hi, hve, d0.a, d0.b, d1.a, d1.b, d2.a, d2.b, d3.a, d3.b, x1, x2, hl, hwi]; (repeat (first | (refine AskX.go (cac _) ?_; simp [hi, hve, d0.a, d0.b, d1.a, d1.b, d2.a, d2.b, d3.a, d3.b, x1, x2, hl, hwi]))); refine hK _ ?_; clear hK K) | (refine sk_drw mix fun K hK => ?_; simp [hi, hve, d0.a, d0.b, d1.a, d1.b, d2.a, d2.b, d3.a, d3.b, x1, x2, hl, hwi]; (repeat (first | (refine AskD.go (cac _) ?_; simp [hi, hve, d0.a, d0.b, d1.a, d1.b, d2.a, d2.b, d3.a, d3.b, x1, x2, hl, hwi]))); refine hK _ ?_; clear hK K))
      refine sk_inv ⟨by simp [subL, getT, hve], hg.app _, fun j hj hx => ?_⟩
      by_cases e : j = i
      · subst e; rw [hln]; simp [inWay, q]
      · exact hpre j (by omega) hx
  · rintro H1 ⟨hg, hpre⟩
    have hr := fstI_none (p := inWay s) (xs := b.lines) fun j hj => hpre j hj hj
    repeat (first | refine sk_seq ?_ | refine sk_block ?_ | refine sk_blk ?_ | refine sk_skip ?_ | refine sk_exit rfl ?_ | refine sk_cond_t rfl ?_ | refine sk_cond_f rfl ?_ | (refine sk_reg fun K hK => ?_; simp; refine hK _ ?_; clear hK K) | (refine sk_drw mix fun K hK => ?_; simp; refine hK _ ?_; clear hK K))
    refine sk_ret ?_; simp [ownB, hr]
    exact hg
def B44 : SC := .seq (.reg [⟨some 2, .box 25 (.tmp 0), none, []⟩, ⟨some 4, .assign (.const (.int .i64 0)), none, []⟩]) (.seq (.seq (.reg [⟨some 5, .load 25 (.tmp 2), none, []⟩, ⟨some 6, .call { callee := (.value (.func 29)), args := #[(.tmp 5)], argTypes := #[25] }, none, []⟩, ⟨some 7, .binOp .neq 3 (.tmp 6) (.const (.int .i64 0)) 3, none, []⟩]) (.cond (.tmp 7) (.seq (.reg [⟨some 4, .assign (.const (.int .i64 (-1))), none, []⟩]) .ret) .skip)) (.seq (.reg [⟨some 8, .load 25 (.tmp 2), none, []⟩, ⟨some 9, .move (.tmp 1), none, []⟩, ⟨some 10, .call { callee := (.value (.func 105)), args := #[(.tmp 8), (.tmp 9)], argTypes := #[25, 3] }, none, []⟩, ⟨some 4, .assign (.tmp 10), none, []⟩]) .ret))
theorem s44 : Try.f44.body.bind (stripC 11) = some B44 := by kernel_rfl
theorem implOwner_ac {H : Heap} {E : List Nat} {b : Bk} {cs : List Value} (h : RBk H E b cs) (s : Int) : AC Try.prog 44 [.agg cs.toArray, iv s] H (iv (ownerB b s)) H [] := by
  have h0 := h
  obtain ⟨v, rfl, hv⟩ := h
  have hx := hv.one
  have bac := fun L : Heap => implBookOk_ac (H := H ++ L) (RBk.frm.ext h0)
  have oac := fun L : Heap => owner_ac (H := H ++ L) (RBk.frm.ext h0) s
  refine AC.of_pureS (N := 11) Try.func44 s44 (by kernel_rfl) rfl rfl (by simp) rfl ?_; unfold B44
  by_cases q : bookOkB b = 0
  · have hr : ownerB b s = ownB b.lines s := by simp [ownerB, q]
    rw [q] at bac
    repeat (first | refine sk_seq ?_ | refine sk_block ?_ | refine sk_blk ?_ | refine sk_skip ?_ | refine sk_exit rfl ?_ | refine sk_cond_t rfl ?_ | refine sk_cond_f rfl ?_ | (refine sk_reg fun K hK => ?_; simp [hx]; (repeat (first | (refine AskX.go (bac _) ?_; simp [hx]) | (refine AskX.go (oac _) ?_; simp [hx]))); refine hK _ ?_; clear hK K) | (refine sk_drw mix fun K hK => ?_; simp [hx]; (repeat (first | (refine AskD.go (bac _) ?_; simp [hx]) | (refine AskD.go (oac _) ?_; simp [hx]))); refine hK _ ?_; clear hK K))
    refine sk_ret ?_; simp [hr]
  · have hr : ownerB b s = -1 := by simp [ownerB, q]
    repeat (first | refine sk_seq ?_ | refine sk_block ?_ | refine sk_blk ?_ | refine sk_skip ?_ | refine sk_exit rfl ?_ | refine sk_cond_t rfl ?_ | refine sk_cond_f rfl ?_ | (refine sk_reg fun K hK => ?_; simp [hx, q]; (repeat (first | (refine AskX.go (bac _) ?_; simp [hx, q]))); refine hK _ ?_; clear hK K) | (refine sk_drw mix fun K hK => ?_; simp [hx, q]; (repeat (first | (refine AskD.go (bac _) ?_; simp [hx, q]))); refine hK _ ?_; clear hK K))
    refine sk_ret ?_; simp [hr]
def B45 : SC := .seq (.reg [⟨some 2, .box 25 (.tmp 0), none, []⟩, ⟨some 4, .assign (.const (.int .i64 0)), none, []⟩]) (.seq (.seq (.reg [⟨some 9, .load 25 (.tmp 2), none, []⟩, ⟨some 10, .call { callee := (.value (.func 34)), args := #[(.tmp 9)], argTypes := #[25] }, none, []⟩, ⟨some 11, .binOp .neq 3 (.tmp 10) (.const (.int .i64 0)) 3, none, []⟩]) (.cond (.tmp 11) (.seq (.reg [⟨some 4, .assign (.const (.int .i64 (-1))), none, []⟩]) .ret) .skip)) (.seq (.seq (.reg [⟨some 12, .fieldAddr 25 (.tmp 2) 2, none, []⟩, ⟨some 13, .load 23 (.tmp 12), none, []⟩, ⟨some 14, .call { callee := (.builtin .len), args := #[(.tmp 13)], argTypes := #[23] }, none, []⟩, ⟨some 15, .move (.const (.int .i64 0)), none, []⟩]) (.block 0 (.loop (.seq (.reg [⟨some 16, .binOp .lss 3 (.tmp 15) (.tmp 14) 3, none, []⟩]) (.seq (.cond (.tmp 16) .skip (.exit 0)) (.seq (.block 1 (.seq (.reg [⟨some 17, .move (.tmp 15), none, []⟩, ⟨some 18, .indexAddr 23 (.tmp 13) (.tmp 15), none, []⟩, ⟨some 19, .load 43 (.tmp 18), none, []⟩, ⟨some 6, .alloc 43, none, []⟩, ⟨some 5, .assign (.tmp 17), none, []⟩, ⟨none, .store 43 (.tmp 6) (.tmp 19), none, []⟩]) (.seq (.reg [⟨some 20, .fieldAddr 43 (.tmp 6) 1, none, []⟩, ⟨some 21, .load 40 (.tmp 20), none, []⟩, ⟨some 22, .call { callee := (.builtin .len), args := #[(.tmp 21)], argTypes := #[40] }, none, []⟩, ⟨some 23, .move (.const (.int .i64 0)), none, []⟩]) (.block 2 (.loop (.seq (.reg [⟨some 24, .binOp .lss 3 (.tmp 23) (.tmp 22) 3, none, []⟩]) (.seq (.cond (.tmp 24) .skip (.exit 2)) (.seq (.block 3 (.seq (.reg [⟨some 25, .indexAddr 40 (.tmp 21) (.tmp 23), none, []⟩, ⟨some 26, .load 3 (.tmp 25), none, []⟩, ⟨some 8, .assign (.tmp 26), none, []⟩]) (.seq (.reg [⟨some 27, .move (.tmp 8), none, []⟩, ⟨some 28, .move (.tmp 1), none, []⟩, ⟨some 29, .binOp .eql 3 (.tmp 27) (.tmp 28) 3, none, []⟩]) (.cond (.tmp 29) (.seq (.reg [⟨some 30, .move (.tmp 5), none, []⟩, ⟨some 4, .assign (.tmp 30), none, []⟩]) .ret) .skip)))) (.reg [⟨some 31, .binOp .add 3 (.tmp 23) (.const (.int .i64 1)) 3, none, []⟩, ⟨some 23, .move (.tmp 31), none, []⟩]))))))))) (.reg [⟨some 32, .binOp .add 3 (.tmp 15) (.const (.int .i64 1)) 3, none, []⟩, ⟨some 15, .move (.tmp 32), none, []⟩]))))))) (.seq (.reg [⟨some 4, .assign (.const (.int .i64 (-1))), none, []⟩]) .ret)))
theorem s45 : Try.f45.body.bind (stripC 33) = some B45 := by kernel_rfl
theorem specOwner_ac {H : Heap} {E : List Nat} {b : Bk} {cs : List Value} (h : RBk H E b cs) (s : Int) : AC Try.prog 45 [.agg cs.toArray, iv s] H (iv (ownerB b s)) H [] := by
  have h0 := h
  obtain ⟨v, rfl, hv⟩ := h
  obtain ⟨a0, c0, rfl⟩ := hv.form
  have hn := hv.1
  have bac := fun L : Heap => specBookOk_ac (H := H ++ L) (RBk.frm.ext h0)
  refine AC.of_pureS (N := 33) Try.func45 s45 (by kernel_rfl) rfl rfl (by simp) rfl ?_; unfold B45
  by_cases q0 : bookOkB b = 0
  case neg =>
    have hr : ownerB b s = -1 := by simp [ownerB, q0]
    repeat (first | refine sk_seq ?_ | refine sk_block ?_ | refine sk_blk ?_ | refine sk_skip ?_ | refine sk_exit rfl ?_ | refine sk_cond_t rfl ?_ | refine sk_cond_f rfl ?_ | (refine sk_reg fun K hK => ?_; simp [q0]; (repeat (first | (refine AskX.go (bac _) ?_; simp [q0]))); refine hK _ ?_; clear hK K) | (refine sk_drw mix fun K hK => ?_; simp [q0]; (repeat (first | (refine AskD.go (bac _) ?_; simp [q0]))); refine hK _ ?_; clear hK K))
    refine sk_ret ?_; simp [hr]
  have hr0 : ownerB b s = ownB b.lines s := by simp [ownerB, q0]
  rw [q0] at bac
  repeat (first | refine sk_seq ?_ | refine sk_block ?_ | refine sk_blk ?_ | refine sk_skip ?_ | refine sk_exit rfl ?_ | refine sk_cond_t rfl ?_ | refine sk_cond_f rfl ?_ | (refine sk_reg fun K hK => ?_; simp; (repeat (first | (refine AskX.go (bac _) ?_; simp))); refine hK _ ?_; clear hK K) | (refine sk_drw mix fun K hK => ?_; simp; (repeat (first | (refine AskD.go (bac _) ?_; simp))); refine hK _ ?_; clear hK K))
  refine sk_rng b.lines.length (fun i => [(1, iv s), (13, .slice a0 b.lines.length c0), (14, iv b.lines.length), (15, iv i)]) (fun i H1 => Gro H H1 ∧ ∀ j (hj : j < i) (hx : j < b.lines.length), inWay s b.lines[j] = false) (by simp [subL, getT]) ⟨(by first | exact Gro.refl _ | exact Gro.one _ _), fun j hj => by omega⟩ ?_ ?_
  · rintro i H1 hi ⟨hg, hpre⟩
    have hl := hg.len
    obtain ⟨id, o, v1, v2, E1, E2, hve, hid, d0, d1, d2, d3, hw1, hw2, x1, x2, _⟩ := (hv.gro hg RLn.frm).line hi
    have hwi := wrap_id (x := (i : Int) + 1) (by omega) (by omega)
    have hfs := fun h => fstI_some (p := inWay s) hi h fun j hj => hpre j hj (by omega)
    generalize hln : b.lines[i] = l at *
    obtain ⟨a1, c1, rfl⟩ := hw1.form
    have hn1 := hw1.1
    repeat (first | refine sk_seq ?_ | refine sk_block ?_ | refine sk_blk ?_ | refine sk_skip ?_ | refine sk_exit rfl ?_ | refine sk_cond_t rfl ?_ | refine sk_cond_f rfl ?_ | (refine sk_reg fun K hK => ?_; simp [hi, hve, d0.a, d0.b, d1.a, d1.b, d2.a, d2.b, d3.a, d3.b, x1, x2, hl]; refine hK _ ?_; clear hK K) | (refine sk_drw mix fun K hK => ?_; simp [hi, hve, d0.a, d0.b, d1.a, d1.b, d2.a, d2.b, d3.a, d3.b, x1, x2, hl]; refine hK _ ?_; clear hK K))
    refine sk_rng l.way.length (fun j => [(1, iv s), (13, .slice a0 b.lines.length c0), (14, iv b.lines.length), (15, iv i), (5, iv i), (21, .slice a1 l.way.length c1), (22, iv l.way.length), (23, iv j)])
      (fun j H2 => Gro H1 H2 ∧ ∀ q (hj : q < j) (hx : q < l.way.length), l.way[q] ≠ s) (by simp [subL, getT, hve]) ⟨(by first | exact Gro.refl _ | exact Gro.one _ _), fun j hj => by omega⟩ ?_ ?_
    · rintro j H2 hj ⟨hg2, hpre2⟩
      obtain ⟨id2, o2, hv2, hid2, f0⟩ := (hw1.gro hg2 (RP.frm _)).int hj
      have hwj := wrap_id (x := (j : Int) + 1) (by omega) (by omega)
      by_cases q : l.way[j] = s
      · have hr := hfs (by simp only [inWay, decide_eq_true_eq]; rw [← q]; exact List.getElem_mem hj)
        repeat (first | refine sk_seq ?_ | refine sk_block ?_ | refine sk_blk ?_ | refine sk_skip ?_ | refine sk_exit rfl ?_ | refine sk_cond_t rfl ?_ | refine sk_cond_f rfl ?_ | (refine sk_reg fun K hK => ?_; simp [hj, hv2, f0.a, f0.b, q]; refine hK _ ?_; clear hK K) | (refine sk_drw mix fun K hK => ?_; simp [hj, hv2, f0.a, f0.b, q]; refine hK _ ?_; clear hK K))
        refine sk_ret ?_; simp [hr0, ownB, hr]
        exact hg.trans hg2
      · repeat (first | refine sk_seq ?_ | refine sk_block ?_ | refine sk_blk ?_ | refine sk_skip ?_ | refine sk_exit rfl ?_ | refine sk_cond_t rfl ?_ | refine sk_cond_f rfl ?_ | (refine sk_reg fun K hK => ?_; simp [hj, hv2, f0.a, f0.b, q, hwj]; refine hK _ ?_; clear hK K) | (refine sk_drw mix fun K hK => ?_; simp [hj, hv2, f0.a, f0.b, q, hwj]; refine hK _ ?_; clear hK K))
        refine sk_inv ⟨by simp [subL, getT, hv2], hg2, fun k hk hx => ?_⟩
        by_cases e : k = j
        · subst e; exact q
        · exact hpre2 k (by omega) hx
    · rintro H2 ⟨hg2, hpre2⟩
      repeat (first | refine sk_seq ?_ | refine sk_block ?_ | refine sk_blk ?_ | refine sk_skip ?_ | refine sk_exit rfl ?_ | refine sk_cond_t rfl ?_ | refine sk_cond_f rfl ?_ | (refine sk_reg fun K hK => ?_; simp [hwi]; refine hK _ ?_; clear hK K) | (refine sk_drw mix fun K hK => ?_; simp [hwi]; refine hK _ ?_; clear hK K))
      refine sk_inv ⟨by simp [subL, getT, hve], hg.trans hg2, fun j hj hx => ?_⟩
      by_cases e : j = i
      · subst e
        rw [hln]
        simp only [inWay, decide_eq_false_iff_not]
        intro hm
        obtain ⟨q, hq, e⟩ := List.getElem_of_mem hm
        exact hpre2 q hq hq e
      · exact hpre j (by omega) hx
  · rintro H1 ⟨hg, hpre⟩
    have hr := fstI_none (p := inWay s) (xs := b.lines) fun j hj => hpre j hj hj
    repeat (first | refine sk_seq ?_ | refine sk_block ?_ | refine sk_blk ?_ | refine sk_skip ?_ | refine sk_exit rfl ?_ | refine sk_cond_t rfl ?_ | refine sk_cond_f rfl ?_ | (refine sk_reg fun K hK => ?_; simp; refine hK _ ?_; clear hK K) | (refine sk_drw mix fun K hK => ?_; simp; refine hK _ ?_; clear hK K))
    refine sk_ret ?_; simp [hr0, ownB, hr]
    exact hg
theorem lnAt_eq {b : Bk} {i : Nat} (h : i < b.lines.length) : lnAt b i = b.lines[i] := by simp [lnAt, h]
def B37 : SC := .seq (.reg [⟨some 2, .box 25 (.tmp 0), none, []⟩, ⟨some 4, .assign (.const (.int .i64 0)), none, []⟩]) (.seq (.seq (.reg [⟨some 5, .load 25 (.tmp 2), none, []⟩, ⟨some 6, .call { callee := (.value (.func 29)), args := #[(.tmp 5)], argTypes := #[25] }, none, []⟩, ⟨some 7, .binOp .neq 3 (.tmp 6) (.const (.int .i64 0)) 3, none, []⟩, ⟨some 8, .move (.tmp 7), none, []⟩, ⟨some 9, .move (.tmp 1), some (8, false), []⟩, ⟨some 10, .fieldAddr 25 (.tmp 2) 2, some (8, false), []⟩, ⟨some 11, .load 23 (.tmp 10), some (8, false), []⟩, ⟨some 12, .call { callee := (.builtin .len), args := #[(.tmp 11)], argTypes := #[23] }, some (8, false), []⟩, ⟨some 13, .binOp .sub 3 (.tmp 12) (.const (.int .i64 1)) 3, some (8, false), []⟩, ⟨some 14, .call { callee := (.value (.func 84)), args := #[(.tmp 9), (.const (.int .i64 0)), (.tmp 13)], argTypes := #[3, 3, 3] }, some (8, false), []⟩, ⟨some 15, .unOp .not 4 (.tmp 14), some (8, false), []⟩, ⟨some 16, .pick (.tmp 8) (.const (.bool true)) (.tmp 15), none, []⟩]) (.cond (.tmp 16) (.seq (.reg [⟨some 4, .assign (.const (.int .i64 (-1))), none, []⟩]) .ret) .skip)) (.seq (.reg [⟨some 17, .fieldAddr 25 (.tmp 2) 2, none, []⟩, ⟨some 18, .load 23 (.tmp 17), none, []⟩, ⟨some 19, .move (.tmp 1), none, []⟩, ⟨some 20, .indexAddr 23 (.tmp 18) (.tmp 19), none, []⟩, ⟨some 21, .fieldAddr 43 (.tmp 20) 2, none, []⟩, ⟨some 22, .load 41 (.tmp 21), none, []⟩, ⟨some 23, .call { callee := (.value (.func 92)), args := #[(.tmp 22)], argTypes := #[41] }, none, []⟩, ⟨some 4, .assign (.tmp 23), none, []⟩]) .ret))
theorem s37 : Try.f37.body.bind (stripC 24) = some B37 := by kernel_rfl
theorem implReach_ac {H : Heap} {E : List Nat} {b : Bk} {cs : List Value} (h : RBk H E b cs) (t : Int) : AC Try.prog 37 [.agg cs.toArray, iv t] H (iv (reachB b t)) H [] := by
  have h0 := h
  obtain ⟨v, rfl, hv⟩ := h
  obtain ⟨a0, c0, rfl⟩ := hv.form
  have hn := hv.1
  have bac := fun L : Heap => implBookOk_ac (H := H ++ L) (RBk.frm.ext h0)
  have hwl := wrap_id (x := (b.lines.length : Int) - 1) (by omega) (by omega)
  refine AC.of_pureS (N := 24) Try.func37 s37 (by kernel_rfl) rfl rfl (by simp) rfl ?_; unfold B37
  by_cases q0 : bookOkB b = 0
  case neg =>
    have hr : reachB b t = -1 := by simp [reachB, q0]
    repeat (first | refine sk_seq ?_ | refine sk_block ?_ | refine sk_blk ?_ | refine sk_skip ?_ | refine sk_exit rfl ?_ | refine sk_cond_t rfl ?_ | refine sk_cond_f rfl ?_ | (refine sk_reg fun K hK => ?_; simp [q0]; (repeat (first | (refine AskX.go (bac _) ?_; simp [q0]))); refine hK _ ?_; clear hK K) | (refine sk_drw mix fun K hK => ?_; simp [q0]; (repeat (first | (refine AskD.go (bac _) ?_; simp [q0]))); refine hK _ ?_; clear hK K))
    refine sk_ret ?_; simp [hr]
  rw [q0] at bac
  cases q1 : inB t 0 ((b.lines.length : Int) - 1)
  · have hr : reachB b t = -1 := by simp [reachB, q1]
    repeat (first | refine sk_seq ?_ | refine sk_block ?_ | refine sk_blk ?_ | refine sk_skip ?_ | refine sk_exit rfl ?_ | refine sk_cond_t rfl ?_ | refine sk_cond_f rfl ?_ | (refine sk_reg fun K hK => ?_; simp [hwl, q1]; (repeat (first | (refine AskX.go (bac _) ?_; simp [hwl, q1]) | (refine AskX.go (in_ac _ _ _) ?_; simp [hwl, q1]))); refine hK _ ?_; clear hK K) | (refine sk_drw mix fun K hK => ?_; simp [hwl, q1]; (repeat (first | (refine AskD.go (bac _) ?_; simp [hwl, q1]) | (refine AskD.go (in_ac _ _ _) ?_; simp [hwl, q1]))); refine hK _ ?_; clear hK K))
    refine sk_ret ?_; simp [hr]
  have hq := q1
  simp only [inB, Bool.and_eq_true, decide_eq_true_eq] at hq
  obtain ⟨i, rfl⟩ : ∃ i : Nat, t = i := ⟨t.toNat, by omega⟩
  have hi : i < b.lines.length := by omega
  have hr : reachB b i = reachL b.lines[i].grs := by simp [reachB, q0, q1, lnAt_eq hi]
  obtain ⟨id, o, v1, v2, E1, E2, hve, hid, d0, d1, d2, d3, hw1, hw2, x1, x2, _⟩ := hv.line hi
  cases hve
  repeat (first | refine sk_seq ?_ | refine sk_block ?_ | refine sk_blk ?_ | refine sk_skip ?_ | refine sk_exit rfl ?_ | refine sk_cond_t rfl ?_ | refine sk_cond_f rfl ?_ | (refine sk_reg fun K hK => ?_; simp [hwl, q1, hi, d2.a, d2.b]; (repeat (first | (refine AskX.go (bac _) ?_; simp [hwl, q1, hi, d2.a, d2.b]) | (refine AskX.go (in_ac _ _ _) ?_; simp [hwl, q1, hi, d2.a, d2.b]) | (refine AskX.go (reach_ac (hw2.ext (RP.frm _))) ?_; simp [hwl, q1, hi, d2.a, d2.b]))); refine hK _ ?_; clear hK K) | (refine sk_drw mix fun K hK => ?_; simp [hwl, q1, hi, d2.a, d2.b]; (repeat (first | (refine AskD.go (bac _) ?_; simp [hwl, q1, hi, d2.a, d2.b]) | (refine AskD.go (in_ac _ _ _) ?_; simp [hwl, q1, hi, d2.a, d2.b]) | (refine AskD.go (reach_ac (hw2.ext (RP.frm _))) ?_; simp [hwl, q1, hi, d2.a, d2.b]))); refine hK _ ?_; clear hK K))
  refine sk_ret ?_; simp [hr]
def B36 : SC := .seq (.reg [⟨some 2, .box 25 (.tmp 0), none, []⟩, ⟨some 4, .assign (.const (.int .i64 0)), none, []⟩]) (.seq (.seq (.reg [⟨some 5, .load 25 (.tmp 2), none, []⟩, ⟨some 6, .call { callee := (.value (.func 34)), args := #[(.tmp 5)], argTypes := #[25] }, none, []⟩, ⟨some 7, .binOp .neq 3 (.tmp 6) (.const (.int .i64 0)) 3, none, []⟩, ⟨some 8, .move (.tmp 7), none, []⟩, ⟨some 9, .move (.tmp 1), some (8, false), []⟩, ⟨some 10, .fieldAddr 25 (.tmp 2) 2, some (8, false), []⟩, ⟨some 11, .load 23 (.tmp 10), some (8, false), []⟩, ⟨some 12, .call { callee := (.builtin .len), args := #[(.tmp 11)], argTypes := #[23] }, some (8, false), []⟩, ⟨some 13, .binOp .sub 3 (.tmp 12) (.const (.int .i64 1)) 3, some (8, false), []⟩, ⟨some 14, .call { callee := (.value (.func 83)), args := #[(.tmp 9), (.const (.int .i64 0)), (.tmp 13)], argTypes := #[3, 3, 3] }, some (8, false), []⟩, ⟨some 15, .unOp .not 4 (.tmp 14), some (8, false), []⟩, ⟨some 16, .pick (.tmp 8) (.const (.bool true)) (.tmp 15), none, []⟩]) (.cond (.tmp 16) (.seq (.reg [⟨some 4, .assign (.const (.int .i64 (-1))), none, []⟩]) .ret) .skip)) (.seq (.reg [⟨some 17, .fieldAddr 25 (.tmp 2) 2, none, []⟩, ⟨some 18, .load 23 (.tmp 17), none, []⟩, ⟨some 19, .move (.tmp 1), none, []⟩, ⟨some 20, .indexAddr 23 (.tmp 18) (.tmp 19), none, []⟩, ⟨some 21, .load 43 (.tmp 20), none, []⟩, ⟨some 22, .call { callee := (.value (.func 98)), args := #[(.tmp 21)], argTypes := #[43] }, none, []⟩, ⟨some 4, .assign (.tmp 22), none, []⟩]) .ret))
theorem s36 : Try.f36.body.bind (stripC 23) = some B36 := by kernel_rfl
theorem specReach_ac {H : Heap} {E : List Nat} {b : Bk} {cs : List Value} (h : RBk H E b cs) (t : Int) : AC Try.prog 36 [.agg cs.toArray, iv t] H (iv (reachB b t)) H [] := by
  have h0 := h
  obtain ⟨v, rfl, hv⟩ := h
  obtain ⟨a0, c0, rfl⟩ := hv.form
  have hn := hv.1
  have bac := fun L : Heap => specBookOk_ac (H := H ++ L) (RBk.frm.ext h0)
  have hwl := wrap_id (x := (b.lines.length : Int) - 1) (by omega) (by omega)
  refine AC.of_pureS (N := 23) Try.func36 s36 (by kernel_rfl) rfl rfl (by simp) rfl ?_; unfold B36
  by_cases q0 : bookOkB b = 0
  case neg =>
    have hr : reachB b t = -1 := by simp [reachB, q0]
    repeat (first | refine sk_seq ?_ | refine sk_block ?_ | refine sk_blk ?_ | refine sk_skip ?_ | refine sk_exit rfl ?_ | refine sk_cond_t rfl ?_ | refine sk_cond_f rfl ?_ | (refine sk_reg fun K hK => ?_; simp [q0]; (repeat (first | (refine AskX.go (bac _) ?_; simp [q0]))); refine hK _ ?_; clear hK K) | (refine sk_drw mix fun K hK => ?_; simp [q0]; (repeat (first | (refine AskD.go (bac _) ?_; simp [q0]))); refine hK _ ?_; clear hK K))
    refine sk_ret ?_; simp [hr]
  rw [q0] at bac
  cases q1 : inB t 0 ((b.lines.length : Int) - 1)
  · have hr : reachB b t = -1 := by simp [reachB, q1]
    repeat (first | refine sk_seq ?_ | refine sk_block ?_ | refine sk_blk ?_ | refine sk_skip ?_ | refine sk_exit rfl ?_ | refine sk_cond_t rfl ?_ | refine sk_cond_f rfl ?_ | (refine sk_reg fun K hK => ?_; simp [hwl, q1]; (repeat (first | (refine AskX.go (bac _) ?_; simp [hwl, q1]) | (refine AskX.go (l1in_ac _ _ _) ?_; simp [hwl, q1]))); refine hK _ ?_; clear hK K) | (refine sk_drw mix fun K hK => ?_; simp [hwl, q1]; (repeat (first | (refine AskD.go (bac _) ?_; simp [hwl, q1]) | (refine AskD.go (l1in_ac _ _ _) ?_; simp [hwl, q1]))); refine hK _ ?_; clear hK K))
    refine sk_ret ?_; simp [hr]
  have hq := q1
  simp only [inB, Bool.and_eq_true, decide_eq_true_eq] at hq
  obtain ⟨i, rfl⟩ : ∃ i : Nat, t = i := ⟨t.toNat, by omega⟩
  have hi : i < b.lines.length := by omega
  have hr : reachB b i = reachL b.lines[i].grs := by simp [reachB, q0, q1, lnAt_eq hi]
  obtain ⟨id, o, v1, v2, E1, E2, hve, hid, d0, d1, d2, d3, hw1, hw2, x1, x2, _⟩ := hv.line hi
  cases hve
  obtain ⟨a1, c1, rfl⟩ := hw1.form
  repeat (first | refine sk_seq ?_ | refine sk_block ?_ | refine sk_blk ?_ | refine sk_skip ?_ | refine sk_exit rfl ?_ | refine sk_cond_t rfl ?_ | refine sk_cond_f rfl ?_ | (refine sk_reg fun K hK => ?_; simp [hwl, q1, hi, d0.a, d0.b, d1.a, d1.b, d2.a, d2.b, d3.a, d3.b]; (repeat (first | (refine AskX.go (bac _) ?_; simp [hwl, q1, hi, d0.a, d0.b, d1.a, d1.b, d2.a, d2.b, d3.a, d3.b]) | (refine AskX.go (l1in_ac _ _ _) ?_; simp [hwl, q1, hi, d0.a, d0.b, d1.a, d1.b, d2.a, d2.b, d3.a, d3.b]) | (refine AskX.go (l1most_ac ⟨_, _, _, rfl⟩ (hw2.ext (RP.frm _))) ?_; simp [hwl, q1, hi, d0.a, d0.b, d1.a, d1.b, d2.a, d2.b, d3.a, d3.b]))); refine hK _ ?_; clear hK K) | (refine sk_drw mix fun K hK => ?_; simp [hwl, q1, hi, d0.a, d0.b, d1.a, d1.b, d2.a, d2.b, d3.a, d3.b]; (repeat (first | (refine AskD.go (bac _) ?_; simp [hwl, q1, hi, d0.a, d0.b, d1.a, d1.b, d2.a, d2.b, d3.a, d3.b]) | (refine AskD.go (l1in_ac _ _ _) ?_; simp [hwl, q1, hi, d0.a, d0.b, d1.a, d1.b, d2.a, d2.b, d3.a, d3.b]) | (refine AskD.go (l1most_ac ⟨_, _, _, rfl⟩ (hw2.ext (RP.frm _))) ?_; simp [hwl, q1, hi, d0.a, d0.b, d1.a, d1.b, d2.a, d2.b, d3.a, d3.b]))); refine hK _ ?_; clear hK K))
  refine sk_ret ?_; simp [hr]
def B40 : SC := .seq (.reg [⟨some 2, .box 25 (.tmp 0), none, []⟩, ⟨some 3, .box 49 (.tmp 1), none, []⟩, ⟨some 4, .assign (.const (.bool false)), none, []⟩]) (.seq (.seq (.reg [⟨some 5, .load 25 (.tmp 2), none, []⟩, ⟨some 6, .call { callee := (.value (.func 29)), args := #[(.tmp 5)], argTypes := #[25] }, none, []⟩, ⟨some 7, .binOp .neq 3 (.tmp 6) (.const (.int .i64 0)) 3, none, []⟩, ⟨some 8, .move (.tmp 7), none, []⟩, ⟨some 9, .fieldAddr 49 (.tmp 3) 0, some (8, false), []⟩, ⟨some 10, .load 3 (.tmp 9), some (8, false), []⟩, ⟨some 11, .call { callee := (.value (.func 84)), args := #[(.tmp 10), (.const (.int .i64 1)), (.const (.int .i64 5))], argTypes := #[3, 3, 3] }, some (8, false), []⟩, ⟨some 12, .unOp .not 4 (.tmp 11), some (8, false), []⟩, ⟨some 13, .pick (.tmp 8) (.const (.bool true)) (.tmp 12), none, []⟩, ⟨some 14, .move (.tmp 13), none, []⟩, ⟨some 15, .fieldAddr 49 (.tmp 3) 1, some (14, false), []⟩, ⟨some 16, .load 3 (.tmp 15), some (14, false), []⟩, ⟨some 17, .fieldAddr 25 (.tmp 2) 2, some (14, false), []⟩, ⟨some 18, .load 23 (.tmp 17), some (14, false), []⟩, ⟨some 19, .call { callee := (.builtin .len), args := #[(.tmp 18)], argTypes := #[23] }, some (14, false), []⟩, ⟨some 20, .binOp .sub 3 (.tmp 19) (.const (.int .i64 1)) 3, some (14, false), []⟩, ⟨some 21, .call { callee := (.value (.func 84)), args := #[(.tmp 16), (.const (.int .i64 0)), (.tmp 20)], argTypes := #[3, 3, 3] }, some (14, false), []⟩, ⟨some 22, .unOp .not 4 (.tmp 21), some (14, false), []⟩, ⟨some 23, .pick (.tmp 14) (.const (.bool true)) (.tmp 22), none, []⟩]) (.cond (.tmp 23) (.seq (.reg [⟨some 4, .assign (.const (.bool false)), none, []⟩]) .ret) .skip)) (.seq (.seq (.reg [⟨some 24, .fieldAddr 49 (.tmp 3) 0, none, []⟩, ⟨some 25, .load 3 (.tmp 24), none, []⟩, ⟨some 26, .binOp .eql 3 (.tmp 25) (.const (.int .i64 1)) 3, none, []⟩]) (.cond (.tmp 26) (.seq (.reg [⟨some 27, .fieldAddr 49 (.tmp 3) 2, none, []⟩, ⟨some 28, .load 3 (.tmp 27), none, []⟩, ⟨some 29, .fieldAddr 25 (.tmp 2) 1, none, []⟩, ⟨some 30, .load 3 (.tmp 29), none, []⟩, ⟨some 31, .binOp .sub 3 (.tmp 30) (.const (.int .i64 1)) 3, none, []⟩, ⟨some 32, .call { callee := (.value (.func 84)), args := #[(.tmp 28), (.const (.int .i64 0)), (.tmp 31)], argTypes := #[3, 3, 3] }, none, []⟩, ⟨some 4, .assign (.tmp 32), none, []⟩]) .ret) .skip)) (.seq (.reg [⟨some 33, .fieldAddr 49 (.tmp 3) 2, none, []⟩, ⟨some 34, .load 3 (.tmp 33), none, []⟩, ⟨some 35, .call { callee := (.value (.func 84)), args := #[(.tmp 34), (.const (.int .i64 0)), (.const (.int .i64 1000000))], argTypes := #[3, 3, 3] }, none, []⟩, ⟨some 4, .assign (.tmp 35), none, []⟩]) .ret)))
theorem s40 : Try.f40.body.bind (stripC 36) = some B40 := by kernel_rfl
theorem implEventOk_ac {H : Heap} {E : List Nat} {b : Bk} {cs : List Value} (h : RBk H E b cs) (e : Evt) : AC Try.prog 40 [.agg cs.toArray, vEv e] H (.bool (evOkB b e)) H [] := by
  have h0 := h
  obtain ⟨v, rfl, hv⟩ := h
  obtain ⟨a0, c0, rfl⟩ := hv.form
  have hn := hv.1
  have bac := fun L : Heap => implBookOk_ac (H := H ++ L) (RBk.frm.ext h0)
  have hwl := wrap_id (x := (b.lines.length : Int) - 1) (by omega) (by omega)
  refine AC.of_pureS (N := 36) Try.func40 s40 (by kernel_rfl) rfl rfl (by simp) rfl ?_; unfold B40
  by_cases q0 : bookOkB b = 0
  case neg =>
    have hr : evOkB b e = false := by simp [evOkB, q0]
    repeat (first | refine sk_seq ?_ | refine sk_block ?_ | refine sk_blk ?_ | refine sk_skip ?_ | refine sk_exit rfl ?_ | refine sk_cond_t rfl ?_ | refine sk_cond_f rfl ?_ | (refine sk_reg fun K hK => ?_; simp [q0]; (repeat (first | (refine AskX.go (bac _) ?_; simp [q0]))); refine hK _ ?_; clear hK K) | (refine sk_drw mix fun K hK => ?_; simp [q0]; (repeat (first | (refine AskD.go (bac _) ?_; simp [q0]))); refine hK _ ?_; clear hK K))
    refine sk_ret ?_; simp [hr]
  obtain ⟨s1, s2, _⟩ := bookOk_sec q0
  have hws := wrap_id (x := b.sec - 1) (by omega) (by omega)
  rw [q0] at bac
  cases q1 : inB e.op 1 5
  · have hr : evOkB b e = false := by simp [evOkB, q1]
    repeat (first | refine sk_seq ?_ | refine sk_block ?_ | refine sk_blk ?_ | refine sk_skip ?_ | refine sk_exit rfl ?_ | refine sk_cond_t rfl ?_ | refine sk_cond_f rfl ?_ | (refine sk_reg fun K hK => ?_; simp [hwl, q1]; (repeat (first | (refine AskX.go (bac _) ?_; simp [hwl, q1]) | (refine AskX.go (in_ac _ _ _) ?_; simp [hwl, q1]))); refine hK _ ?_; clear hK K) | (refine sk_drw mix fun K hK => ?_; simp [hwl, q1]; (repeat (first | (refine AskD.go (bac _) ?_; simp [hwl, q1]) | (refine AskD.go (in_ac _ _ _) ?_; simp [hwl, q1]))); refine hK _ ?_; clear hK K))
    refine sk_ret ?_; simp [hr]
  cases q2 : inB e.train 0 ((b.lines.length : Int) - 1)
  · have hr : evOkB b e = false := by simp [evOkB, q2]
    repeat (first | refine sk_seq ?_ | refine sk_block ?_ | refine sk_blk ?_ | refine sk_skip ?_ | refine sk_exit rfl ?_ | refine sk_cond_t rfl ?_ | refine sk_cond_f rfl ?_ | (refine sk_reg fun K hK => ?_; simp [hwl, q1, q2]; (repeat (first | (refine AskX.go (bac _) ?_; simp [hwl, q1, q2]) | (refine AskX.go (in_ac _ _ _) ?_; simp [hwl, q1, q2]))); refine hK _ ?_; clear hK K) | (refine sk_drw mix fun K hK => ?_; simp [hwl, q1, q2]; (repeat (first | (refine AskD.go (bac _) ?_; simp [hwl, q1, q2]) | (refine AskD.go (in_ac _ _ _) ?_; simp [hwl, q1, q2]))); refine hK _ ?_; clear hK K))
    refine sk_ret ?_; simp [hr]
  by_cases q3 : e.op = 1
  · have hr : evOkB b e = inB e.n 0 (b.sec - 1) := by simp [evOkB, q0, q1, q2, q3]; simp [inB]
    have q3' := eq_true q3
    repeat (first | refine sk_seq ?_ | refine sk_block ?_ | refine sk_blk ?_ | refine sk_skip ?_ | refine sk_exit rfl ?_ | refine sk_cond_t rfl ?_ | refine sk_cond_f rfl ?_ | (refine sk_reg fun K hK => ?_; simp [hwl, q1, q2, q3', hws]; (repeat (first | (refine AskX.go (bac _) ?_; simp [hwl, q1, q2, q3', hws]) | (refine AskX.go (in_ac _ _ _) ?_; simp [hwl, q1, q2, q3', hws]))); refine hK _ ?_; clear hK K) | (refine sk_drw mix fun K hK => ?_; simp [hwl, q1, q2, q3', hws]; (repeat (first | (refine AskD.go (bac _) ?_; simp [hwl, q1, q2, q3', hws]) | (refine AskD.go (in_ac _ _ _) ?_; simp [hwl, q1, q2, q3', hws]))); refine hK _ ?_; clear hK K))
    refine sk_ret ?_; simp [hr]
  · have hr : evOkB b e = inB e.n 0 1000000 := by simp [evOkB, q0, q1, q2, q3]
    repeat (first | refine sk_seq ?_ | refine sk_block ?_ | refine sk_blk ?_ | refine sk_skip ?_ | refine sk_exit rfl ?_ | refine sk_cond_t rfl ?_ | refine sk_cond_f rfl ?_ | (refine sk_reg fun K hK => ?_; simp [hwl, q1, q2, q3, hws]; (repeat (first | (refine AskX.go (bac _) ?_; simp [hwl, q1, q2, q3, hws]) | (refine AskX.go (in_ac _ _ _) ?_; simp [hwl, q1, q2, q3, hws]))); refine hK _ ?_; clear hK K) | (refine sk_drw mix fun K hK => ?_; simp [hwl, q1, q2, q3, hws]; (repeat (first | (refine AskD.go (bac _) ?_; simp [hwl, q1, q2, q3, hws]) | (refine AskD.go (in_ac _ _ _) ?_; simp [hwl, q1, q2, q3, hws]))); refine hK _ ?_; clear hK K))
    refine sk_ret ?_; simp [hr]
def B38 : SC := .seq (.reg [⟨some 2, .box 25 (.tmp 0), none, []⟩, ⟨some 3, .box 49 (.tmp 1), none, []⟩, ⟨some 4, .assign (.const (.bool false)), none, []⟩]) (.seq (.seq (.reg [⟨some 5, .load 25 (.tmp 2), none, []⟩, ⟨some 6, .call { callee := (.value (.func 34)), args := #[(.tmp 5)], argTypes := #[25] }, none, []⟩, ⟨some 7, .binOp .neq 3 (.tmp 6) (.const (.int .i64 0)) 3, none, []⟩, ⟨some 8, .move (.tmp 7), none, []⟩, ⟨some 9, .fieldAddr 49 (.tmp 3) 1, some (8, false), []⟩, ⟨some 10, .load 3 (.tmp 9), some (8, false), []⟩, ⟨some 11, .fieldAddr 25 (.tmp 2) 2, some (8, false), []⟩, ⟨some 12, .load 23 (.tmp 11), some (8, false), []⟩, ⟨some 13, .call { callee := (.builtin .len), args := #[(.tmp 12)], argTypes := #[23] }, some (8, false), []⟩, ⟨some 14, .binOp .sub 3 (.tmp 13) (.const (.int .i64 1)) 3, some (8, false), []⟩, ⟨some 15, .call { callee := (.value (.func 83)), args := #[(.tmp 10), (.const (.int .i64 0)), (.tmp 14)], argTypes := #[3, 3, 3] }, some (8, false), []⟩, ⟨some 16, .unOp .not 4 (.tmp 15), some (8, false), []⟩, ⟨some 17, .pick (.tmp 8) (.const (.bool true)) (.tmp 16), none, []⟩, ⟨some 18, .move (.tmp 17), none, []⟩, ⟨some 19, .fieldAddr 49 (.tmp 3) 0, some (18, false), []⟩, ⟨some 20, .load 3 (.tmp 19), some (18, false), []⟩, ⟨some 21, .call { callee := (.value (.func 83)), args := #[(.tmp 20), (.const (.int .i64 1)), (.const (.int .i64 5))], argTypes := #[3, 3, 3] }, some (18, false), []⟩, ⟨some 22, .unOp .not 4 (.tmp 21), some (18, false), []⟩, ⟨some 23, .pick (.tmp 18) (.const (.bool true)) (.tmp 22), none, []⟩]) (.cond (.tmp 23) (.seq (.reg [⟨some 4, .assign (.const (.bool false)), none, []⟩]) .ret) .skip)) (.seq (.seq (.reg [⟨some 24, .fieldAddr 49 (.tmp 3) 0, none, []⟩, ⟨some 25, .load 3 (.tmp 24), none, []⟩, ⟨some 26, .binOp .eql 3 (.tmp 25) (.const (.int .i64 1)) 3, none, []⟩]) (.cond (.tmp 26) (.seq (.reg [⟨some 27, .fieldAddr 49 (.tmp 3) 2, none, []⟩, ⟨some 28, .load 3 (.tmp 27), none, []⟩, ⟨some 29, .fieldAddr 25 (.tmp 2) 1, none, []⟩, ⟨some 30, .load 3 (.tmp 29), none, []⟩, ⟨some 31, .binOp .sub 3 (.tmp 30) (.const (.int .i64 1)) 3, none, []⟩, ⟨some 32, .call { callee := (.value (.func 83)), args := #[(.tmp 28), (.const (.int .i64 0)), (.tmp 31)], argTypes := #[3, 3, 3] }, none, []⟩, ⟨some 4, .assign (.tmp 32), none, []⟩]) .ret) .skip)) (.seq (.reg [⟨some 33, .fieldAddr 49 (.tmp 3) 2, none, []⟩, ⟨some 34, .load 3 (.tmp 33), none, []⟩, ⟨some 35, .call { callee := (.value (.func 83)), args := #[(.tmp 34), (.const (.int .i64 0)), (.const (.int .i64 1000000))], argTypes := #[3, 3, 3] }, none, []⟩, ⟨some 4, .assign (.tmp 35), none, []⟩]) .ret)))
theorem s38 : Try.f38.body.bind (stripC 36) = some B38 := by kernel_rfl
theorem specEventOk_ac {H : Heap} {E : List Nat} {b : Bk} {cs : List Value} (h : RBk H E b cs) (e : Evt) : AC Try.prog 38 [.agg cs.toArray, vEv e] H (.bool (evOkB b e)) H [] := by
  have h0 := h
  obtain ⟨v, rfl, hv⟩ := h
  obtain ⟨a0, c0, rfl⟩ := hv.form
  have hn := hv.1
  have bac := fun L : Heap => specBookOk_ac (H := H ++ L) (RBk.frm.ext h0)
  have hwl := wrap_id (x := (b.lines.length : Int) - 1) (by omega) (by omega)
  refine AC.of_pureS (N := 36) Try.func38 s38 (by kernel_rfl) rfl rfl (by simp) rfl ?_; unfold B38
  by_cases q0 : bookOkB b = 0
  case neg =>
    have hr : evOkB b e = false := by simp [evOkB, q0]
    repeat (first | refine sk_seq ?_ | refine sk_block ?_ | refine sk_blk ?_ | refine sk_skip ?_ | refine sk_exit rfl ?_ | refine sk_cond_t rfl ?_ | refine sk_cond_f rfl ?_ | (refine sk_reg fun K hK => ?_; simp [q0]; (repeat (first | (refine AskX.go (bac _) ?_; simp [q0]))); refine hK _ ?_; clear hK K) | (refine sk_drw mix fun K hK => ?_; simp [q0]; (repeat (first | (refine AskD.go (bac _) ?_; simp [q0]))); refine hK _ ?_; clear hK K))
    refine sk_ret ?_; simp [hr]
  obtain ⟨s1, s2, _⟩ := bookOk_sec q0
  have hws := wrap_id (x := b.sec - 1) (by omega) (by omega)
  rw [q0] at bac
  cases q2 : inB e.train 0 ((b.lines.length : Int) - 1)
  · have hr : evOkB b e = false := by simp [evOkB, q2]
    repeat (first | refine sk_seq ?_ | refine sk_block ?_ | refine sk_blk ?_ | refine sk_skip ?_ | refine sk_exit rfl ?_ | refine sk_cond_t rfl ?_ | refine sk_cond_f rfl ?_ | (refine sk_reg fun K hK => ?_; simp [hwl, q2]; (repeat (first | (refine AskX.go (bac _) ?_; simp [hwl, q2]) | (refine AskX.go (l1in_ac _ _ _) ?_; simp [hwl, q2]))); refine hK _ ?_; clear hK K) | (refine sk_drw mix fun K hK => ?_; simp [hwl, q2]; (repeat (first | (refine AskD.go (bac _) ?_; simp [hwl, q2]) | (refine AskD.go (l1in_ac _ _ _) ?_; simp [hwl, q2]))); refine hK _ ?_; clear hK K))
    refine sk_ret ?_; simp [hr]
  cases q1 : inB e.op 1 5
  · have hr : evOkB b e = false := by simp [evOkB, q1]
    repeat (first | refine sk_seq ?_ | refine sk_block ?_ | refine sk_blk ?_ | refine sk_skip ?_ | refine sk_exit rfl ?_ | refine sk_cond_t rfl ?_ | refine sk_cond_f rfl ?_ | (refine sk_reg fun K hK => ?_; simp [hwl, q1, q2]; (repeat (first | (refine AskX.go (bac _) ?_; simp [hwl, q1, q2]) | (refine AskX.go (l1in_ac _ _ _) ?_; simp [hwl, q1, q2]))); refine hK _ ?_; clear hK K) | (refine sk_drw mix fun K hK => ?_; simp [hwl, q1, q2]; (repeat (first | (refine AskD.go (bac _) ?_; simp [hwl, q1, q2]) | (refine AskD.go (l1in_ac _ _ _) ?_; simp [hwl, q1, q2]))); refine hK _ ?_; clear hK K))
    refine sk_ret ?_; simp [hr]
  by_cases q3 : e.op = 1
  · have hr : evOkB b e = inB e.n 0 (b.sec - 1) := by simp [evOkB, q0, q1, q2, q3]; simp [inB]
    have q3' := eq_true q3
    repeat (first | refine sk_seq ?_ | refine sk_block ?_ | refine sk_blk ?_ | refine sk_skip ?_ | refine sk_exit rfl ?_ | refine sk_cond_t rfl ?_ | refine sk_cond_f rfl ?_ | (refine sk_reg fun K hK => ?_; simp [hwl, q1, q2, q3', hws]; (repeat (first | (refine AskX.go (bac _) ?_; simp [hwl, q1, q2, q3', hws]) | (refine AskX.go (l1in_ac _ _ _) ?_; simp [hwl, q1, q2, q3', hws]))); refine hK _ ?_; clear hK K) | (refine sk_drw mix fun K hK => ?_; simp [hwl, q1, q2, q3', hws]; (repeat (first | (refine AskD.go (bac _) ?_; simp [hwl, q1, q2, q3', hws]) | (refine AskD.go (l1in_ac _ _ _) ?_; simp [hwl, q1, q2, q3', hws]))); refine hK _ ?_; clear hK K))
    refine sk_ret ?_; simp [hr]
  · have hr : evOkB b e = inB e.n 0 1000000 := by simp [evOkB, q0, q1, q2, q3]
    repeat (first | refine sk_seq ?_ | refine sk_block ?_ | refine sk_blk ?_ | refine sk_skip ?_ | refine sk_exit rfl ?_ | refine sk_cond_t rfl ?_ | refine sk_cond_f rfl ?_ | (refine sk_reg fun K hK => ?_; simp [hwl, q1, q2, q3, hws]; (repeat (first | (refine AskX.go (bac _) ?_; simp [hwl, q1, q2, q3, hws]) | (refine AskX.go (l1in_ac _ _ _) ?_; simp [hwl, q1, q2, q3, hws]))); refine hK _ ?_; clear hK K) | (refine sk_drw mix fun K hK => ?_; simp [hwl, q1, q2, q3, hws]; (repeat (first | (refine AskD.go (bac _) ?_; simp [hwl, q1, q2, q3, hws]) | (refine AskD.go (l1in_ac _ _ _) ?_; simp [hwl, q1, q2, q3, hws]))); refine hK _ ?_; clear hK K))
    refine sk_ret ?_; simp [hr]
end Go.Proofs.Ytpoedfmkiiijnaa
