/- BookOk of the reference. A walk. -/
import Derived.Test.YtpoedfmkiiijnaaBk3
namespace Go.Proofs.Ytpoedfmkiiijnaa
open Go Go.RowKit Go.Proofs.YtpoedfmkiiijnaaAm
set_option linter.unusedVariables false
set_option linter.unusedSimpArgs false
set_option maxRecDepth 10000
set_option maxHeartbeats 4000000

def B34 : SC := .seq (.reg [⟨some 1, .box 25 (.tmp 0), none, []⟩, ⟨some 2, .assign (.const (.int .i64 0)), none, []⟩]) (.seq (.seq (.reg [⟨some 11, .fieldAddr 25 (.tmp 1) 0, none, []⟩, ⟨some 12, .load 4 (.tmp 11), none, []⟩, ⟨some 13, .unOp .not 4 (.tmp 12), none, []⟩, ⟨some 14, .move (.tmp 13), none, []⟩, ⟨some 15, .fieldAddr 25 (.tmp 1) 1, some (14, false), []⟩, ⟨some 16, .load 3 (.tmp 15), some (14, false), []⟩, ⟨some 17, .call { callee := (.value (.func 83)), args := #[(.tmp 16), (.const (.int .i64 1)), (.const (.int .i64 200))], argTypes := #[3, 3, 3] }, some (14, false), []⟩, ⟨some 18, .unOp .not 4 (.tmp 17), some (14, false), []⟩, ⟨some 19, .pick (.tmp 14) (.const (.bool true)) (.tmp 18), none, []⟩, ⟨some 20, .move (.tmp 19), none, []⟩, ⟨some 21, .fieldAddr 25 (.tmp 1) 2, some (20, false), []⟩, ⟨some 22, .load 23 (.tmp 21), some (20, false), []⟩, ⟨some 23, .call { callee := (.builtin .len), args := #[(.tmp 22)], argTypes := #[23] }, some (20, false), []⟩, ⟨some 24, .binOp .gtr 3 (.tmp 23) (.const (.int .i64 20)) 3, some (20, false), []⟩, ⟨some 25, .pick (.tmp 20) (.const (.bool true)) (.tmp 24), none, []⟩]) (.cond (.tmp 25) (.seq (.reg [⟨some 2, .assign (.const (.int .i64 1)), none, []⟩]) .ret) .skip)) (.seq (.seq (.reg [⟨some 3, .assign (.const (.int .i64 2)), none, []⟩]) (.block 0 (.loop (.seq (.seq (.reg [⟨some 26, .move (.tmp 3), none, []⟩, ⟨some 27, .binOp .leq 3 (.tmp 26) (.const (.int .i64 4)) 3, none, []⟩]) (.cond (.tmp 27) .skip (.exit 0))) (.seq (.block 1 (.seq (.reg [⟨some 30, .fieldAddr 25 (.tmp 1) 2, none, []⟩, ⟨some 31, .load 23 (.tmp 30), none, []⟩, ⟨some 32, .call { callee := (.builtin .len), args := #[(.tmp 31)], argTypes := #[23] }, none, []⟩, ⟨some 33, .move (.const (.int .i64 0)), none, []⟩]) (.block 2 (.loop (.seq (.reg [⟨some 34, .binOp .lss 3 (.tmp 33) (.tmp 32) 3, none, []⟩]) (.seq (.cond (.tmp 34) .skip (.exit 2)) (.seq (.block 3 (.seq (.reg [⟨some 35, .indexAddr 23 (.tmp 31) (.tmp 33), none, []⟩, ⟨some 36, .load 43 (.tmp 35), none, []⟩, ⟨some 5, .alloc 43, none, []⟩, ⟨none, .store 43 (.tmp 5) (.tmp 36), none, []⟩]) (.seq (.reg [⟨some 37, .load 25 (.tmp 1), none, []⟩, ⟨some 38, .load 43 (.tmp 5), none, []⟩, ⟨some 39, .call { callee := (.value (.func 96)), args := #[(.tmp 37), (.tmp 38)], argTypes := #[25, 43] }, none, []⟩, ⟨some 40, .move (.tmp 3), none, []⟩, ⟨some 41, .binOp .eql 3 (.tmp 39) (.tmp 40) 3, none, []⟩]) (.cond (.tmp 41) (.seq (.reg [⟨some 42, .move (.tmp 3), none, []⟩, ⟨some 2, .assign (.tmp 42), none, []⟩]) .ret) .skip)))) (.reg [⟨some 43, .binOp .add 3 (.tmp 33) (.const (.int .i64 1)) 3, none, []⟩, ⟨some 33, .move (.tmp 43), none, []⟩])))))))) (.reg [⟨some 28, .move (.tmp 3), none, []⟩, ⟨some 29, .binOp .add 3 (.tmp 28) (.const (.int .i64 1)) 3, none, []⟩, ⟨some 3, .assign (.tmp 29), none, []⟩])))))) (.seq (.reg [⟨some 44, .fieldAddr 25 (.tmp 1) 1, none, []⟩, ⟨some 45, .load 3 (.tmp 44), none, []⟩, ⟨some 46, .makeSlice 129 (.tmp 45) (.tmp 45), none, []⟩, ⟨some 6, .assign (.tmp 46), none, []⟩]) (.seq (.seq (.reg [⟨some 47, .fieldAddr 25 (.tmp 1) 2, none, []⟩, ⟨some 48, .load 23 (.tmp 47), none, []⟩, ⟨some 49, .call { callee := (.builtin .len), args := #[(.tmp 48)], argTypes := #[23] }, none, []⟩, ⟨some 50, .move (.const (.int .i64 0)), none, []⟩]) (.block 4 (.loop (.seq (.reg [⟨some 51, .binOp .lss 3 (.tmp 50) (.tmp 49) 3, none, []⟩]) (.seq (.cond (.tmp 51) .skip (.exit 4)) (.seq (.block 5 (.seq (.reg [⟨some 52, .indexAddr 23 (.tmp 48) (.tmp 50), none, []⟩, ⟨some 53, .load 43 (.tmp 52), none, []⟩, ⟨some 8, .alloc 43, none, []⟩, ⟨none, .store 43 (.tmp 8) (.tmp 53), none, []⟩]) (.seq (.reg [⟨some 54, .fieldAddr 43 (.tmp 8) 1, none, []⟩, ⟨some 55, .load 40 (.tmp 54), none, []⟩, ⟨some 56, .call { callee := (.builtin .len), args := #[(.tmp 55)], argTypes := #[40] }, none, []⟩, ⟨some 57, .move (.const (.int .i64 0)), none, []⟩]) (.block 6 (.loop (.seq (.reg [⟨some 58, .binOp .lss 3 (.tmp 57) (.tmp 56) 3, none, []⟩]) (.seq (.cond (.tmp 58) .skip (.exit 6)) (.seq (.block 7 (.seq (.reg [⟨some 59, .indexAddr 40 (.tmp 55) (.tmp 57), none, []⟩, ⟨some 60, .load 3 (.tmp 59), none, []⟩, ⟨some 10, .assign (.tmp 60), none, []⟩]) (.seq (.seq (.reg [⟨some 61, .move (.tmp 6), none, []⟩, ⟨some 62, .move (.tmp 10), none, []⟩, ⟨some 63, .indexAddr 129 (.tmp 61) (.tmp 62), none, []⟩, ⟨some 64, .load 4 (.tmp 63), none, []⟩]) (.cond (.tmp 64) (.seq (.reg [⟨some 2, .assign (.const (.int .i64 5)), none, []⟩]) .ret) .skip)) (.reg [⟨some 65, .move (.tmp 6), none, []⟩, ⟨some 66, .move (.tmp 10), none, []⟩, ⟨some 67, .indexAddr 129 (.tmp 65) (.tmp 66), none, []⟩, ⟨none, .store 4 (.tmp 67) (.const (.bool true)), none, []⟩])))) (.reg [⟨some 68, .binOp .add 3 (.tmp 57) (.const (.int .i64 1)) 3, none, []⟩, ⟨some 57, .move (.tmp 68), none, []⟩]))))))))) (.reg [⟨some 69, .binOp .add 3 (.tmp 50) (.const (.int .i64 1)) 3, none, []⟩, ⟨some 50, .move (.tmp 69), none, []⟩]))))))) (.seq (.reg [⟨some 2, .assign (.const (.int .i64 0)), none, []⟩]) .ret)))))
theorem s34 : Try.f34.body.bind (stripC 70) = some B34 := by kernel_rfl
theorem specBookOk_ac {H : Heap} {E : List Nat} {b : Bk} {cs : List Value} (h : RBk H E b cs) : AC Try.prog 34 [.agg cs.toArray] H (iv (bookOkB b)) H [] := by
  obtain ⟨v, rfl, hv⟩ := h
  obtain ⟨a0, c0, rfl⟩ := hv.form
  have hx := hv.one
  have hn := hv.1
  refine AC.of_pureS (N := 70) Try.func34 s34 (by kernel_rfl) rfl rfl (by simp) rfl ?_; unfold B34
  cases h1 : b.ok
  · have hr := bookOkB_1 (b := b) (by simp [ok1, h1])
    repeat (first | refine sk_seq ?_ | refine sk_block ?_ | refine sk_blk ?_ | refine sk_skip ?_ | refine sk_exit rfl ?_ | refine sk_cond_t rfl ?_ | refine sk_cond_f rfl ?_ | (refine sk_reg fun K hK => ?_; simp [hx, h1]; refine hK _ ?_; clear hK K) | (refine sk_drw mix fun K hK => ?_; simp [hx, h1]; refine hK _ ?_; clear hK K))
    refine sk_ret ?_; simp [hr]
  cases h2 : inB b.sec 1 200
  · have hr := bookOkB_1 (b := b) (by simp [ok1, h2])
    repeat (first | refine sk_seq ?_ | refine sk_block ?_ | refine sk_blk ?_ | refine sk_skip ?_ | refine sk_exit rfl ?_ | refine sk_cond_t rfl ?_ | refine sk_cond_f rfl ?_ | (refine sk_reg fun K hK => ?_; simp [hx, h1, h2]; (repeat (first | (refine AskX.go (l1in_ac _ _ _) ?_; simp [hx, h1, h2]))); refine hK _ ?_; clear hK K) | (refine sk_drw mix fun K hK => ?_; simp [hx, h1, h2]; (repeat (first | (refine AskD.go (l1in_ac _ _ _) ?_; simp [hx, h1, h2]))); refine hK _ ?_; clear hK K))
    refine sk_ret ?_; simp [hr]
  by_cases h3 : b.lines.length ≤ 20
  case neg =>
    have hr := bookOkB_1 (b := b) (by simp [ok1, h3])
    have h3' : (20 : Int) < b.lines.length := by omega
    repeat (first | refine sk_seq ?_ | refine sk_block ?_ | refine sk_blk ?_ | refine sk_skip ?_ | refine sk_exit rfl ?_ | refine sk_cond_t rfl ?_ | refine sk_cond_f rfl ?_ | (refine sk_reg fun K hK => ?_; simp [hx, h1, h2, h3']; (repeat (first | (refine AskX.go (l1in_ac _ _ _) ?_; simp [hx, h1, h2, h3']))); refine hK _ ?_; clear hK K) | (refine sk_drw mix fun K hK => ?_; simp [hx, h1, h2, h3']; (repeat (first | (refine AskD.go (l1in_ac _ _ _) ?_; simp [hx, h1, h2, h3']))); refine hK _ ?_; clear hK K))
    refine sk_ret ?_; simp [hr]
  have hk1 : ok1 b = true := by simp [ok1, h1, h2, h3]
  have h3' : ¬ (20 : Int) < b.lines.length := by omega
  simp only [inB, Bool.and_eq_true, decide_eq_true_eq] at h2
  have h2' : inB b.sec 1 200 = true := by simp [inB]; omega
  repeat (first | refine sk_seq ?_ | refine sk_block ?_ | refine sk_blk ?_ | refine sk_skip ?_ | refine sk_exit rfl ?_ | refine sk_cond_t rfl ?_ | refine sk_cond_f rfl ?_ | (refine sk_reg fun K hK => ?_; simp [hx, h1, h2', h3']; (repeat (first | (refine AskX.go (l1in_ac _ _ _) ?_; simp [hx, h1, h2', h3']))); refine hK _ ?_; clear hK K) | (refine sk_drw mix fun K hK => ?_; simp [hx, h1, h2', h3']; (repeat (first | (refine AskD.go (l1in_ac _ _ _) ?_; simp [hx, h1, h2', h3']))); refine hK _ ?_; clear hK K))
  -- the codes 2, 3, 4
  refine sk_rng 3 (fun i => [(1, pt H.length 0), (3, iv ((i : Int) + 2))]) (fun i H1 => Gro H H1 ∧ H1[H.length]? = some ⟨25, [.bool true, iv b.sec, .slice a0 b.lines.length c0], true, true⟩ ∧ stage b i) (by simp [subL, getT]) ⟨(by first | exact Gro.refl _ | exact Gro.one _ _), by simp [h1], ⟨fun h => by omega, fun h => by omega, fun h => by omega⟩⟩ ?_ ?_
  · rintro i H1 hi ⟨hg, hb, hst⟩
    have hl := hg.len
    have c0' : CF H1 H.length 0 (.bool true) := CF.of hb rfl rfl
    have c1' : CF H1 H.length 1 (iv b.sec) := CF.of hb rfl rfl
    have c2' : CF H1 H.length 2 (.slice a0 b.lines.length c0) := CF.of hb rfl rfl
    have hle : (i : Int) + 2 ≤ 4 := by omega
    have hle2 : (i : Int) ≤ 2 := by omega
    have hwi := wrap_id (x := (i : Int) + 2 + 1) (by omega) (by omega)
    repeat (first | refine sk_seq ?_ | refine sk_block ?_ | refine sk_blk ?_ | refine sk_skip ?_ | refine sk_exit rfl ?_ | refine sk_cond_t rfl ?_ | refine sk_cond_f rfl ?_ | (refine sk_reg fun K hK => ?_; simp [hle, hle2, c0'.a, c0'.b, c1'.a, c1'.b, c2'.a, c2'.b]; refine hK _ ?_; clear hK K) | (refine sk_drw mix fun K hK => ?_; simp [hle, hle2, c0'.a, c0'.b, c1'.a, c1'.b, c2'.a, c2'.b]; refine hK _ ?_; clear hK K))
    refine sk_rng b.lines.length (fun j => [(1, pt H.length 0), (3, iv ((i : Int) + 2)), (31, .slice a0 b.lines.length c0), (32, iv b.lines.length), (33, iv j)])
      (fun j H2 => Gro H1 H2 ∧ ∀ q (hj : q < j) (hx : q < b.lines.length), lineB b.sec b.lines[q] ≠ (i : Int) + 2) (by simp [subL, getT]) ⟨(by first | exact Gro.refl _ | exact Gro.one _ _), fun j hj => by omega⟩ ?_ ?_
    · rintro j H2 hj ⟨hg2, hpre⟩
      have hl2 := hg2.len
      have hl3 : H.length ≤ H2.length := by omega
      have b0 := c0'.gro hg2
      have b1 := c1'.gro hg2
      have b2 := c2'.gro hg2
      obtain ⟨id, o, v1, v2, E1, E2, hve, hid, d0, d1, d2, d3, hw1, hw2, x1, x2, _⟩ := (hv.gro (hg.trans hg2) RLn.frm).line hj
      have hit := fun h => stage_hit hk1 hst hi hj h
      generalize hln : b.lines[j] = l at *
      have hwj := wrap_id (x := (j : Int) + 1) (by omega) (by omega)
      have lac := fun L : Heap => l1line_ac (H := H2 ++ L) (ok := true) (sec := b.sec) (v := sl id o b.lines.length) h2 rfl (hw1.ext (RP.frm _)) (hw2.ext (RP.frm _))
      by_cases q : lineB b.sec l = (i : Int) + 2
      · have hr := hit q
        rw [q] at lac
        repeat (first | refine sk_seq ?_ | refine sk_block ?_ | refine sk_blk ?_ | refine sk_skip ?_ | refine sk_exit rfl ?_ | refine sk_cond_t rfl ?_ | refine sk_cond_f rfl ?_ | (refine sk_reg fun K hK => ?_; simp [hj, hve, b0.a, b0.b, b1.a, b1.b, b2.a, b2.b, d0.a, d0.b, d1.a, d1.b, d2.a, d2.b, d3.a, d3.b, x1, x2, hl3]; (repeat (first | (refine AskX.go (lac _) ?_; simp [hj, hve, b0.a, b0.b, b1.a, b1.b, b2.a, b2.b, d0.a, d0.b, d1.a, d1.b, d2.a, d2.b, d3.a, d3.b, x1, x2, hl3]))); refine hK _ ?_; clear hK K) | (refine sk_drw mix fun K hK => ?_; simp [hj, hve, b0.a, b0.b, b1.a, b1.b, b2.a, b2.b, d0.a, d0.b, d1.a, d1.b, d2.a, d2.b, d3.a, d3.b, x1, x2, hl3]; (repeat (first | (refine AskD.go (lac _) ?_; simp [hj, hve, b0.a, b0.b, b1.a, b1.b, b2.a, b2.b, d0.a, d0.b, d1.a, d1.b, d2.a, d2.b, d3.a, d3.b, x1, x2, hl3]))); refine hK _ ?_; clear hK K))
        refine sk_ret ?_; simp [hr]
        exact (hg.trans hg2).app _
      · have q' := eq_false q
        repeat (first | refine sk_seq ?_ | refine sk_block ?_ | refine sk_blk ?_ | refine sk_skip ?_ | refine sk_exit rfl ?_ | refine sk_cond_t rfl ?_ | refine sk_cond_f rfl ?_ | (refine sk_reg fun K hK => ?_; simp [hj, hve, b0.a, b0.b, b1.a, b1.b, b2.a, b2.b, d0.a, d0.b, d1.a, d1.b, d2.a, d2.b, d3.a, d3.b, x1, x2, hl3, q', hwj]; (repeat (first | (refine AskX.go (lac _) ?_; simp [hj, hve, b0.a, b0.b, b1.a, b1.b, b2.a, b2.b, d0.a, d0.b, d1.a, d1.b, d2.a, d2.b, d3.a, d3.b, x1, x2, hl3, q', hwj]))); refine hK _ ?_; clear hK K) | (refine sk_drw mix fun K hK => ?_; simp [hj, hve, b0.a, b0.b, b1.a, b1.b, b2.a, b2.b, d0.a, d0.b, d1.a, d1.b, d2.a, d2.b, d3.a, d3.b, x1, x2, hl3, q', hwj]; (repeat (first | (refine AskD.go (lac _) ?_; simp [hj, hve, b0.a, b0.b, b1.a, b1.b, b2.a, b2.b, d0.a, d0.b, d1.a, d1.b, d2.a, d2.b, d3.a, d3.b, x1, x2, hl3, q', hwj]))); refine hK _ ?_; clear hK K))
        refine sk_inv ⟨by simp [subL, getT, hve], hg2.app _, fun k hk hx => ?_⟩
        by_cases e : k = j
        · subst e; rw [hln]; exact q
        · exact hpre k (by omega) hx
    · rintro H2 ⟨hg2, hpre⟩
      repeat (first | refine sk_seq ?_ | refine sk_block ?_ | refine sk_blk ?_ | refine sk_skip ?_ | refine sk_exit rfl ?_ | refine sk_cond_t rfl ?_ | refine sk_cond_f rfl ?_ | (refine sk_reg fun K hK => ?_; simp [hwi]; refine hK _ ?_; clear hK K) | (refine sk_drw mix fun K hK => ?_; simp [hwi]; refine hK _ ?_; clear hK K))
      refine sk_inv ⟨?_, hg.trans hg2, hg2.get hb, stage_next hst hi fun j hj => hpre j hj hj⟩
      simp [subL, getT]; omega
  rintro H1 ⟨hg, hb, hst⟩
  obtain ⟨s1, s2, s3⟩ := hst
  have hk2 := s1 (by omega)
  have hk3 := s2 (by omega)
  have hk4 := s3 (by omega)
  have hl := hg.len
  have hlt : H.length < H1.length := lt_of_get hb
  have c1' : CF H1 H.length 1 (iv b.sec) := CF.of hb rfl rfl
  have c2' : CF H1 H.length 2 (.slice a0 b.lines.length c0) := CF.of hb rfl rfl
  obtain ⟨n, hns⟩ : ∃ n : Nat, b.sec = (n : Int) := ⟨b.sec.toNat, by omega⟩
  rw [hns] at c1'
  have hb0 : (0 : Int) ≤ n := by omega
  have hb1 : (n : Int) ≤ 281474976710656 := by omega
  have hb2 : (n : Int) ≤ 9223372036854775807 := by omega
  repeat (first | refine sk_seq ?_ | refine sk_block ?_ | refine sk_blk ?_ | refine sk_skip ?_ | refine sk_exit rfl ?_ | refine sk_cond_t rfl ?_ | refine sk_cond_f rfl ?_ | (refine sk_reg fun K hK => ?_; simp [c1'.a, c1'.b, c2'.a, c2'.b, hl, hb0, hb1, hb2]; refine hK _ ?_; clear hK K) | (refine sk_drw mix fun K hK => ?_; simp [c1'.a, c1'.b, c2'.a, c2'.b, hl, hb0, hb1, hb2]; refine hK _ ?_; clear hK K))
  have hsec : ∀ k (hk : k < b.lines.length) j (hj : j < b.lines[k].way.length), 0 ≤ b.lines[k].way[j] ∧ b.lines[k].way[j] < (n : Int) := fun k hk j hj => by
    have := all_at hk2 hk
    simp only [ok2, Bool.and_eq_true] at this
    have := all_at this.2 hj
    simp only [inB, Bool.and_eq_true, decide_eq_true_eq] at this
    omega
  refine sk_rng b.lines.length (fun i => [(1, pt H.length 0), (6, sl H1.length 0 n), (48, .slice a0 b.lines.length c0), (49, iv b.lines.length), (50, iv i)])
    (fun i H2 => Gro H H2 ∧ H2[H1.length]? = some ⟨4, bitsL n (secs (b.lines.take i)), true, true⟩ ∧ (secs (b.lines.take i)).Nodup) (by simp [subL, getT]) ⟨hg.app _, by simp [secs, bitsL_nil], by simp [secs]⟩ ?_ ?_
  · rintro i H2 hi ⟨hg2, hm, hnd⟩
    have hl2 := hg2.len
    obtain ⟨id, o, v1, v2, E1, E2, hve, hid, d0, d1, d2, d3, hw1, hw2, x1, x2, _⟩ := hv.line hi
    have e0 := d0.gro hg2
    have e1 := d1.gro hg2
    have e2 := d2.gro hg2
    have e3 := d3.gro hg2
    have hst := secs_take hi
    obtain ⟨rest, hsp⟩ := secs_split hi
    have hse := hsec i hi
    generalize hln : b.lines[i] = l at *
    obtain ⟨a1, c1, rfl⟩ := hw1.form
    have hwi := wrap_id (x := (i : Int) + 1) (by omega) (by omega)
    have hn1 := hw1.1
    repeat (first | refine sk_seq ?_ | refine sk_block ?_ | refine sk_blk ?_ | refine sk_skip ?_ | refine sk_exit rfl ?_ | refine sk_cond_t rfl ?_ | refine sk_cond_f rfl ?_ | (refine sk_reg fun K hK => ?_; simp [hi, hve, e0.a, e0.b, e1.a, e1.b, e2.a, e2.b, e3.a, e3.b, x1, x2, hl2]; refine hK _ ?_; clear hK K) | (refine sk_drw mix fun K hK => ?_; simp [hi, hve, e0.a, e0.b, e1.a, e1.b, e2.a, e2.b, e3.a, e3.b, x1, x2, hl2]; refine hK _ ?_; clear hK K))
    refine sk_rng l.way.length (fun j => [(1, pt H.length 0), (6, sl H1.length 0 n), (48, .slice a0 b.lines.length c0), (49, iv b.lines.length), (50, iv i), (55, .slice a1 l.way.length c1), (56, iv l.way.length), (57, iv j)])
      (fun j H2 => Gro H H2 ∧ H2[H1.length]? = some ⟨4, bitsL n (secs (b.lines.take i) ++ l.way.take j), true, true⟩ ∧ (secs (b.lines.take i) ++ l.way.take j).Nodup) (by simp [subL, getT, hve]) ⟨hg2.app _, by simpa using (Gro.one _ _).get hm, by simpa using hnd⟩ ?_ ?_
    · rintro j H3 hj ⟨hg3, hm3, hnd3⟩
      have hl3 := hg3.len
      have hlt3 : H1.length < H3.length := lt_of_get hm3
      obtain ⟨id2, o2, hv2, hid2, f0⟩ := (hw1.gro hg3 (RP.frm _)).int hj
      have hwj := wrap_id (x := (j : Int) + 1) (by omega) (by omega)
      obtain ⟨g0, g1⟩ := hse j hj
      have hcast : ((l.way[j].toNat : Nat) : Int) = l.way[j] := Int.toNat_of_nonneg g0
      have htn : l.way[j].toNat < n := by omega
      have lk : CF H3 H1.length l.way[j].toNat (.bool (decide (l.way[j] ∈ secs (b.lines.take i) ++ l.way.take j))) := CF.of hm3 rfl (by
        have := bitsL_get htn (secs (b.lines.take i) ++ l.way.take j)
        rw [hcast] at this; exact this)
      have hrw : Heap.rwOk H3 H1.length = true := by unfold Heap.rwOk; rw [hm3]; rfl
      have htk := take_snoc hj
      by_cases q : l.way[j] ∈ secs (b.lines.take i) ++ l.way.take j
      · have hr := bookOkB_5 hk1 hk2 hk3 hk4 (fun hh => by
          rw [hsp, ← List.append_assoc] at hh
          have e : l.way = l.way.take j ++ l.way[j] :: l.way.drop (j + 1) := by rw [List.getElem_cons_drop]; exact (List.take_append_drop j l.way).symm
          rw [e, ← List.append_assoc, List.append_assoc] at hh
          exact (List.nodup_append.1 hh).2.2 _ q l.way[j] (List.mem_append_left _ List.mem_cons_self) rfl)
        rw [decide_eq_true q] at lk
        repeat (first | refine sk_seq ?_ | refine sk_block ?_ | refine sk_blk ?_ | refine sk_skip ?_ | refine sk_exit rfl ?_ | refine sk_cond_t rfl ?_ | refine sk_cond_f rfl ?_ | (refine sk_reg fun K hK => ?_; simp [hj, hv2, f0.a, f0.b, lk.a, lk.b, g0, g1, htn]; refine hK _ ?_; clear hK K) | (refine sk_drw mix fun K hK => ?_; simp [hj, hv2, f0.a, f0.b, lk.a, lk.b, g0, g1, htn]; refine hK _ ?_; clear hK K))
        refine sk_ret ?_; simp [hr]
        exact hg3
      · rw [decide_eq_false q] at lk
        repeat (first | refine sk_seq ?_ | refine sk_block ?_ | refine sk_blk ?_ | refine sk_skip ?_ | refine sk_exit rfl ?_ | refine sk_cond_t rfl ?_ | refine sk_cond_f rfl ?_ | (refine sk_reg fun K hK => ?_; simp [hj, hv2, f0.a, f0.b, lk.a, lk.b, g0, g1, htn, hwj, hl, hrw]; refine hK _ ?_; clear hK K) | (refine sk_drw mix fun K hK => ?_; simp [hj, hv2, f0.a, f0.b, lk.a, lk.b, g0, g1, htn, hwj, hl, hrw]; refine hK _ ?_; clear hK K))
        refine sk_inv ⟨by simp [subL, getT, hv2], ?_, ?_, ?_⟩
        · exact Gro.of (by rw [length_put]; exact hl3) fun k hk => by rw [get_put_ne _ _ _ (by omega)]; exact hg3.same hk
        · rw [htk, ← List.append_assoc, get_put, hm3]
          simp only [Option.map_some]
          rw [bitsL_set htn, hcast]
        · rw [htk, ← List.append_assoc, List.nodup_append]
          exact ⟨hnd3, by simp, fun a ha b hb hab => by simp at hb; subst hb; subst hab; exact q ha⟩
    · rintro H3 ⟨hg3, hm3, hnd3⟩
      repeat (first | refine sk_seq ?_ | refine sk_block ?_ | refine sk_blk ?_ | refine sk_skip ?_ | refine sk_exit rfl ?_ | refine sk_cond_t rfl ?_ | refine sk_cond_f rfl ?_ | (refine sk_reg fun K hK => ?_; simp [hwi]; refine hK _ ?_; clear hK K) | (refine sk_drw mix fun K hK => ?_; simp [hwi]; refine hK _ ?_; clear hK K))
      rw [List.take_length, ← hst] at hm3 hnd3
      exact sk_inv ⟨by simp [subL, getT, hve], hg3, hm3, hnd3⟩
  · rintro H2 ⟨hg2, hm, hnd⟩
    rw [List.take_length] at hnd
    have hr := bookOkB_0 hk1 hk2 hk3 hk4 hnd
    repeat (first | refine sk_seq ?_ | refine sk_block ?_ | refine sk_blk ?_ | refine sk_skip ?_ | refine sk_exit rfl ?_ | refine sk_cond_t rfl ?_ | refine sk_cond_f rfl ?_ | (refine sk_reg fun K hK => ?_; simp; refine hK _ ?_; clear hK K) | (refine sk_drw mix fun K hK => ?_; simp; refine hK _ ?_; clear hK K))
    refine sk_ret ?_; simp [hr]
    exact hg2
end Go.Proofs.Ytpoedfmkiiijnaa
