/- l2settle of the reference. A walk. -/
import Derived.Test.YtpoedfmkiiijnaaDo3
import Derived.Test.YtpoedfmkiiijnaaCp4
namespace Go.Proofs.Ytpoedfmkiiijnaa
open Go Go.RowKit Go.Proofs.YtpoedfmkiiijnaaAm
set_option linter.unusedVariables false
set_option linter.unusedSimpArgs false
set_option maxRecDepth 10000
set_option maxHeartbeats 8000000
def B117 : SC := .seq (.seq (.reg [⟨some 3, .move (.tmp 0), none, []⟩, ⟨some 4, .nilCheck (.tmp 3), none, []⟩, ⟨some 5, .fieldAddr 43 (.tmp 4) 3, none, []⟩, ⟨some 6, .load 3 (.tmp 5), none, []⟩, ⟨some 7, .binOp .lss 3 (.tmp 6) (.const (.int .i64 0)) 3, none, []⟩]) (.cond (.tmp 7) .ret .skip)) (.seq (.reg [⟨some 8, .move (.tmp 0), none, []⟩, ⟨some 9, .nilCheck (.tmp 8), none, []⟩, ⟨some 10, .load 43 (.tmp 9), none, []⟩, ⟨some 11, .call { callee := (.value (.func 98)), args := #[(.tmp 10)], argTypes := #[43] }, none, []⟩, ⟨some 2, .assign (.tmp 11), none, []⟩]) (.seq (.seq (.reg [⟨some 12, .move (.tmp 0), none, []⟩, ⟨some 13, .nilCheck (.tmp 12), none, []⟩, ⟨some 14, .fieldAddr 43 (.tmp 13) 3, none, []⟩, ⟨some 15, .load 3 (.tmp 14), none, []⟩, ⟨some 16, .move (.tmp 2), none, []⟩, ⟨some 17, .binOp .gtr 3 (.tmp 15) (.tmp 16) 3, none, []⟩]) (.cond (.tmp 17) (.reg [⟨some 18, .move (.tmp 0), none, []⟩, ⟨some 19, .nilCheck (.tmp 18), none, []⟩, ⟨some 20, .fieldAddr 43 (.tmp 19) 3, none, []⟩, ⟨some 21, .load 3 (.tmp 20), none, []⟩, ⟨some 2, .assign (.tmp 21), none, []⟩]) .skip)) (.seq (.seq (.reg [⟨some 22, .move (.tmp 2), none, []⟩, ⟨some 23, .move (.tmp 0), none, []⟩, ⟨some 24, .nilCheck (.tmp 23), none, []⟩, ⟨some 25, .load 43 (.tmp 24), none, []⟩, ⟨some 26, .call { callee := (.value (.func 115)), args := #[(.tmp 25)], argTypes := #[43] }, none, []⟩, ⟨some 27, .binOp .lss 3 (.tmp 22) (.tmp 26) 3, none, []⟩]) (.cond (.tmp 27) (.drw 0 [⟨some 28, .move (.tmp 0), none, []⟩, ⟨some 29, .move (.tmp 0), none, []⟩, ⟨some 30, .nilCheck (.tmp 29), none, [1]⟩, ⟨some 31, .fieldAddr 43 (.tmp 30) 1, none, [2, 1]⟩, ⟨some 32, .load 40 (.tmp 31), none, [3, 2, 1]⟩, ⟨some 33, .move (.tmp 2), none, []⟩, ⟨some 34, .move (.tmp 0), none, []⟩, ⟨some 35, .nilCheck (.tmp 34), none, [6]⟩, ⟨some 36, .fieldAddr 43 (.tmp 35) 0, none, [7, 6]⟩, ⟨some 37, .load 3 (.tmp 36), none, [8, 7, 6]⟩, ⟨some 38, .binOp .sub 3 (.tmp 33) (.tmp 37) 3, none, [5, 9, 8, 7, 6]⟩, ⟨some 39, .slice 40 (.tmp 32) none (some (.tmp 38)) none, none, [4, 3, 2, 1, 10, 5, 9, 8, 7, 6]⟩, ⟨some 40, .nilCheck (.tmp 28), none, [0, 1, 2, 3, 4, 5, 6, 7, 8, 9, 10, 11]⟩, ⟨some 41, .fieldAddr 43 (.tmp 40) 1, none, [12, 0, 1, 2, 3, 4, 5, 6, 7, 8, 9, 10, 11]⟩, ⟨none, .store 40 (.tmp 41) (.tmp 39), none, [13, 12, 0, 1, 2, 3, 4, 5, 6, 7, 8, 9, 10, 11]⟩]) .skip)) (.seq (.drw 0 [⟨some 42, .move (.tmp 0), none, []⟩, ⟨some 43, .nilCheck (.tmp 42), none, [0]⟩, ⟨some 44, .fieldAddr 43 (.tmp 43) 3, none, [1, 0]⟩, ⟨some 45, .load 3 (.tmp 44), none, [2, 1, 0]⟩, ⟨some 46, .move (.tmp 0), none, []⟩, ⟨some 47, .nilCheck (.tmp 46), none, [4]⟩, ⟨some 48, .load 43 (.tmp 47), none, [5, 4]⟩, ⟨some 49, .call { callee := (.value (.func 115)), args := #[(.tmp 48)], argTypes := #[43] }, none, [6, 5, 4]⟩, ⟨some 50, .binOp .geq 3 (.tmp 45) (.tmp 49) 3, none, [3, 2, 1, 0, 7, 6, 5, 4]⟩]) (.cond (.tmp 50) (.reg [⟨some 51, .move (.tmp 0), none, []⟩, ⟨some 52, .nilCheck (.tmp 51), none, []⟩, ⟨some 53, .fieldAddr 43 (.tmp 52) 3, none, []⟩, ⟨none, .store 3 (.tmp 53) (.const (.int .i64 (-1))), none, []⟩]) .skip)))))
theorem s117 : Try.f117.body.bind (stripC 54) = some B117 := by kernel_rfl
theorem l2settle_mark {H : Heap} {id n : Nat} {ty : TypeId} {a z : List Value} {l' : Ln} {u1 u2 : Value} {F1 F2 : List Nat} (hal : a.length = n) (hb3 : H[id]? = some ⟨ty, a ++ ([iv l'.gone, u1, u2, iv l'.drop] ++ z), true, true⟩)
    (hwy : RS 1 RInt H F1 u1 l'.way) (u1n : u1 ≠ es) (hgs : RS 2 RGr H F2 u2 l'.grs)
    (hk : 0 ≤ l'.gone ∧ l'.gone ≤ 1000000 ∧ l'.way.length ≤ 101 ∧ totL l' ≤ 1000001 ∧ (l'.drop = -1 ∨ (l'.gone ≤ l'.drop ∧ l'.drop ≤ 1000000)) ∧ 0 ≤ reachL l'.grs ∧ reachL l'.grs ≤ 1000000) :
    ∃ v H', AC Try.prog 117 [pt id n] H v H' [id] ∧ v = .tuple #[] ∧ (∀ i, i ≠ id → H'[i]? = H[i]?) ∧ ∃ u, u ≠ es ∧ H'[id]? = some ⟨ty, a ++ ([iv (settleL l').gone, u, u2, iv (settleL l').drop] ++ z), true, true⟩ ∧ RS 1 RInt H F1 u (settleL l').way := by
  obtain ⟨k1, k2, k3, k4, k5, k6, k7⟩ := hk
  have m0 : CF H id n (iv l'.gone) := CF.of hb3 rfl (by have := get_mid (j := 0) (z := z) (m := [iv l'.gone, u1, u2, iv l'.drop]) hal rfl; simpa using this)
  have m1 : CF H id (n + 1) u1 := CF.of hb3 rfl (by have := get_mid (j := 1) (z := z) (m := [iv l'.gone, u1, u2, iv l'.drop]) hal rfl; simpa using this)
  have m2 : CF H id (n + 2) u2 := CF.of hb3 rfl (by have := get_mid (j := 2) (z := z) (m := [iv l'.gone, u1, u2, iv l'.drop]) hal rfl; simpa using this)
  have m3 : CF H id (n + 3) (iv l'.drop) := CF.of hb3 rfl (by have := get_mid (j := 3) (z := z) (m := [iv l'.gone, u1, u2, iv l'.drop]) hal rfl; simpa using this)
  have mr := RF.of hb3
  have wri : wr H.length [id] id := by simp [wr]
  have nf : ∀ (j : Nat) (x : Value) i, i ≠ id → (H.put id j x)[i]? = H[i]? := fun j x i hi => get_put_ne _ _ _ hi
  refine AC.of_bodyS (N := 54) Try.func117 s117 (by kernel_rfl) rfl rfl (by simp) ?_; unfold B117
  by_cases d1 : l'.drop = -1
  · have d0 : l'.drop < 0 := by omega
    have hs : settleL l' = l' := by simp [settleL, d1]
    rw [hs]
    repeat (first | refine sk_seq ?_ | refine sk_block ?_ | refine sk_blk ?_ | refine sk_skip ?_ | refine sk_exit rfl ?_ | refine sk_cond_t rfl ?_ | refine sk_cond_f rfl ?_ | (refine sk_reg fun K hK => ?_; simp [d0, m3.a, m3.b]; refine hK _ ?_; clear hK K) | (refine sk_drw mix fun K hK => ?_; simp [d0, m3.a, m3.b]; refine hK _ ?_; clear hK K))
    refine sk_ret ?_; simp
    exact ⟨u1, u1n, hb3, hwy⟩
  have d0 : ¬ l'.drop < 0 := by omega
  obtain ⟨av', cv', hvf'⟩ := hwy.form
  have u2o := hgs.one
  have u2c := hgs.cv
  have u1o := hwy.one
  have u1c := hwy.cv
  have htd' : totL l' = l'.gone + l'.way.length := rfl
  have htot' : IntKind.i64.wrap (l'.gone + l'.way.length) = totL l' := wrap_id (x := l'.gone + l'.way.length) (by omega) (by omega)
  have hMd : l'.drop ≤ maxI l'.drop (reachL l'.grs) := by unfold maxI; split <;> omega
  have hMl : maxI l'.drop (reachL l'.grs) ≤ 1000000 := by unfold maxI; split <;> omega
  repeat (first | refine sk_seq ?_ | refine sk_block ?_ | refine sk_blk ?_ | refine sk_skip ?_ | refine sk_exit rfl ?_ | refine sk_cond_t rfl ?_ | refine sk_cond_f rfl ?_ | (refine sk_reg fun K hK => ?_; simp [d0, m0.a, m0.b, m1.a, m1.b, m2.a, m2.b, m3.a, m3.b, u1o, u1c, u2o, u2c]; (repeat (first | (refine AskX.go (l1most_ac ⟨_, _, _, hvf'⟩ hgs) ?_; simp [d0, m0.a, m0.b, m1.a, m1.b, m2.a, m2.b, m3.a, m3.b, u1o, u1c, u2o, u2c]))); refine hK _ ?_; clear hK K) | (refine sk_drw mix fun K hK => ?_; simp [d0, m0.a, m0.b, m1.a, m1.b, m2.a, m2.b, m3.a, m3.b, u1o, u1c, u2o, u2c]; (repeat (first | (refine AskD.go (l1most_ac ⟨_, _, _, hvf'⟩ hgs) ?_; simp [d0, m0.a, m0.b, m1.a, m1.b, m2.a, m2.b, m3.a, m3.b, u1o, u1c, u2o, u2c]))); refine hK _ ?_; clear hK K))
  refine sk_cut [(0, pt id n), (2, iv (maxI l'.drop (reachL l'.grs)))] (fun H1 => H1 = H) ?_ ?_
  · by_cases c0 : reachL l'.grs < l'.drop
    · have hm : maxI l'.drop (reachL l'.grs) = l'.drop := by unfold maxI; rw [if_neg (by omega)]
      rw [decide_eq_true c0]
      repeat (first | refine sk_seq ?_ | refine sk_block ?_ | refine sk_blk ?_ | refine sk_skip ?_ | refine sk_exit rfl ?_ | refine sk_cond_t rfl ?_ | refine sk_cond_f rfl ?_ | (refine sk_reg fun K hK => ?_; simp [m3.a, m3.b]; refine hK _ ?_; clear hK K) | (refine sk_drw mix fun K hK => ?_; simp [m3.a, m3.b]; refine hK _ ?_; clear hK K))
      exact sk_inv ⟨by simp [subL, getT, hm], rfl⟩
    · have hm : maxI l'.drop (reachL l'.grs) = reachL l'.grs := by unfold maxI; split <;> omega
      rw [decide_eq_false c0]
      repeat (first | refine sk_seq ?_ | refine sk_block ?_ | refine sk_blk ?_ | refine sk_skip ?_ | refine sk_exit rfl ?_ | refine sk_cond_t rfl ?_ | refine sk_cond_f rfl ?_ | (refine sk_reg fun K hK => ?_; simp [m3.a, m3.b]; refine hK _ ?_; clear hK K) | (refine sk_drw mix fun K hK => ?_; simp [m3.a, m3.b]; refine hK _ ?_; clear hK K))
      exact sk_inv ⟨by simp [subL, getT, hm], rfl⟩
  rintro H1 hH1
  subst hH1
  by_cases c1 : maxI l'.drop (reachL l'.grs) < totL l'
  · obtain ⟨m, hm⟩ : ∃ m : Nat, maxI l'.drop (reachL l'.grs) - l'.gone = m := ⟨(maxI l'.drop (reachL l'.grs) - l'.gone).toNat, by omega⟩
    have hmw : m ≤ l'.way.length := by omega
    have hwr : IntKind.i64.wrap (maxI l'.drop (reachL l'.grs) - l'.gone) = (m : Int) := by rw [wrap_id (by omega) (by omega)]; exact hm
    obtain ⟨u, hsl, un, hu, uo, uc⟩ := take_sl hwy u1n hmw
    obtain ⟨au, cu, huf⟩ := hu.form
    rw [List.length_take, Nat.min_eq_left hmw] at huf
    have htot2 : IntKind.i64.wrap (l'.gone + (m : Int)) = maxI l'.drop (reachL l'.grs) := by rw [wrap_id (by omega) (by omega)]; omega
    have nm : (Heap.put H1 id (n + 1) u)[id]? = some ⟨ty, a ++ ([iv l'.gone, u, u2, iv l'.drop] ++ z), true, true⟩ := by
      rw [get_put, hb3]
      simp only [Option.map_some]
      rw [set_mid hal (by simp)]; rfl
    have n0 : CF (Heap.put H1 id (n + 1) u) id n (iv l'.gone) := CF.of nm rfl (by have := get_mid (j := 0) (z := z) (m := [iv l'.gone, u, u2, iv l'.drop]) hal rfl; simpa using this)
    have n1 : CF (Heap.put H1 id (n + 1) u) id (n + 1) u := CF.of nm rfl (by have := get_mid (j := 1) (z := z) (m := [iv l'.gone, u, u2, iv l'.drop]) hal rfl; simpa using this)
    have n2 : CF (Heap.put H1 id (n + 1) u) id (n + 2) u2 := CF.of nm rfl (by have := get_mid (j := 2) (z := z) (m := [iv l'.gone, u, u2, iv l'.drop]) hal rfl; simpa using this)
    have n3 : CF (Heap.put H1 id (n + 1) u) id (n + 3) (iv l'.drop) := CF.of nm rfl (by have := get_mid (j := 3) (z := z) (m := [iv l'.gone, u, u2, iv l'.drop]) hal rfl; simpa using this)
    have nr := RF.of nm
    have hml : (l'.way.take m).length = m := by rw [List.length_take, Nat.min_eq_left hmw]
    by_cases c3 : maxI l'.drop (reachL l'.grs) ≤ l'.drop
    · have hs : settleL l' = { l' with way := l'.way.take m, drop := -1 } := by
        simp only [settleL, if_neg d1, if_pos c1, hm, Int.toNat_natCast]
        rw [if_pos]
        show l'.gone + ((l'.way.take m).length : Int) ≤ l'.drop
        omega
      rw [hs]
      repeat (first | refine sk_seq ?_ | refine sk_block ?_ | refine sk_blk ?_ | refine sk_skip ?_ | refine sk_exit rfl ?_ | refine sk_cond_t rfl ?_ | refine sk_cond_f rfl ?_ | (refine sk_reg fun K hK => ?_; simp [c1, c3, htot', htot2, hwr, -sliceA, hsl, uo, uc, u1o, u1c, u2o, u2c, m0.a, m0.b, m1.a, m1.b, m2.a, m2.b, m3.a, m3.b, mr.a, mr.b, n0.a, n0.b, n1.a, n1.b, n2.a, n2.b, n3.a, n3.b, nr.a, nr.b, wr]; (repeat (first | (refine AskX.go (l1total_ac ⟨_, _, hvf'⟩ u2o) ?_; simp [c1, c3, htot', htot2, hwr, -sliceA, hsl, uo, uc, u1o, u1c, u2o, u2c, m0.a, m0.b, m1.a, m1.b, m2.a, m2.b, m3.a, m3.b, mr.a, mr.b, n0.a, n0.b, n1.a, n1.b, n2.a, n2.b, n3.a, n3.b, nr.a, nr.b, wr]) | (refine AskX.go (l1total_ac ⟨_, _, huf⟩ u2o) ?_; simp [c1, c3, htot', htot2, hwr, -sliceA, hsl, uo, uc, u1o, u1c, u2o, u2c, m0.a, m0.b, m1.a, m1.b, m2.a, m2.b, m3.a, m3.b, mr.a, mr.b, n0.a, n0.b, n1.a, n1.b, n2.a, n2.b, n3.a, n3.b, nr.a, nr.b, wr]))); refine hK _ ?_; clear hK K) | (refine sk_drw mix fun K hK => ?_; simp [c1, c3, htot', htot2, hwr, -sliceA, hsl, uo, uc, u1o, u1c, u2o, u2c, m0.a, m0.b, m1.a, m1.b, m2.a, m2.b, m3.a, m3.b, mr.a, mr.b, n0.a, n0.b, n1.a, n1.b, n2.a, n2.b, n3.a, n3.b, nr.a, nr.b, wr]; (repeat (first | (refine AskD.go (l1total_ac ⟨_, _, hvf'⟩ u2o) ?_; simp [c1, c3, htot', htot2, hwr, -sliceA, hsl, uo, uc, u1o, u1c, u2o, u2c, m0.a, m0.b, m1.a, m1.b, m2.a, m2.b, m3.a, m3.b, mr.a, mr.b, n0.a, n0.b, n1.a, n1.b, n2.a, n2.b, n3.a, n3.b, nr.a, nr.b, wr]) | (refine AskD.go (l1total_ac ⟨_, _, huf⟩ u2o) ?_; simp [c1, c3, htot', htot2, hwr, -sliceA, hsl, uo, uc, u1o, u1c, u2o, u2c, m0.a, m0.b, m1.a, m1.b, m2.a, m2.b, m3.a, m3.b, mr.a, mr.b, n0.a, n0.b, n1.a, n1.b, n2.a, n2.b, n3.a, n3.b, nr.a, nr.b, wr]))); refine hK _ ?_; clear hK K))
      refine sk_nil ?_; simp
      refine ⟨fun i hi => by rw [get_put_ne _ _ _ hi]; exact nf _ _ i hi, u, un, ?_, hu⟩
      rw [get_put, nm]
      simp only [Option.map_some]
      rw [set_mid hal (by simp)]; rfl
    · have hs : settleL l' = { l' with way := l'.way.take m } := by
        simp only [settleL, if_neg d1, if_pos c1, hm, Int.toNat_natCast]
        rw [if_neg]
        show ¬ (l'.gone + ((l'.way.take m).length : Int) ≤ l'.drop)
        omega
      rw [hs]
      repeat (first | refine sk_seq ?_ | refine sk_block ?_ | refine sk_blk ?_ | refine sk_skip ?_ | refine sk_exit rfl ?_ | refine sk_cond_t rfl ?_ | refine sk_cond_f rfl ?_ | (refine sk_reg fun K hK => ?_; simp [c1, c3, htot', htot2, hwr, -sliceA, hsl, uo, uc, u1o, u1c, u2o, u2c, m0.a, m0.b, m1.a, m1.b, m2.a, m2.b, m3.a, m3.b, mr.a, mr.b, n0.a, n0.b, n1.a, n1.b, n2.a, n2.b, n3.a, n3.b, nr.a, nr.b, wr]; (repeat (first | (refine AskX.go (l1total_ac ⟨_, _, hvf'⟩ u2o) ?_; simp [c1, c3, htot', htot2, hwr, -sliceA, hsl, uo, uc, u1o, u1c, u2o, u2c, m0.a, m0.b, m1.a, m1.b, m2.a, m2.b, m3.a, m3.b, mr.a, mr.b, n0.a, n0.b, n1.a, n1.b, n2.a, n2.b, n3.a, n3.b, nr.a, nr.b, wr]) | (refine AskX.go (l1total_ac ⟨_, _, huf⟩ u2o) ?_; simp [c1, c3, htot', htot2, hwr, -sliceA, hsl, uo, uc, u1o, u1c, u2o, u2c, m0.a, m0.b, m1.a, m1.b, m2.a, m2.b, m3.a, m3.b, mr.a, mr.b, n0.a, n0.b, n1.a, n1.b, n2.a, n2.b, n3.a, n3.b, nr.a, nr.b, wr]))); refine hK _ ?_; clear hK K) | (refine sk_drw mix fun K hK => ?_; simp [c1, c3, htot', htot2, hwr, -sliceA, hsl, uo, uc, u1o, u1c, u2o, u2c, m0.a, m0.b, m1.a, m1.b, m2.a, m2.b, m3.a, m3.b, mr.a, mr.b, n0.a, n0.b, n1.a, n1.b, n2.a, n2.b, n3.a, n3.b, nr.a, nr.b, wr]; (repeat (first | (refine AskD.go (l1total_ac ⟨_, _, hvf'⟩ u2o) ?_; simp [c1, c3, htot', htot2, hwr, -sliceA, hsl, uo, uc, u1o, u1c, u2o, u2c, m0.a, m0.b, m1.a, m1.b, m2.a, m2.b, m3.a, m3.b, mr.a, mr.b, n0.a, n0.b, n1.a, n1.b, n2.a, n2.b, n3.a, n3.b, nr.a, nr.b, wr]) | (refine AskD.go (l1total_ac ⟨_, _, huf⟩ u2o) ?_; simp [c1, c3, htot', htot2, hwr, -sliceA, hsl, uo, uc, u1o, u1c, u2o, u2c, m0.a, m0.b, m1.a, m1.b, m2.a, m2.b, m3.a, m3.b, mr.a, mr.b, n0.a, n0.b, n1.a, n1.b, n2.a, n2.b, n3.a, n3.b, nr.a, nr.b, wr]))); refine hK _ ?_; clear hK K))
      refine sk_nil ?_; simp
      exact ⟨nf _ _, u, un, nm, hu⟩
  by_cases c3 : totL l' ≤ l'.drop
  · have hs : settleL l' = { l' with drop := -1 } := by
      simp only [settleL, if_neg d1, if_neg c1, if_pos c3]
    rw [hs]
    repeat (first | refine sk_seq ?_ | refine sk_block ?_ | refine sk_blk ?_ | refine sk_skip ?_ | refine sk_exit rfl ?_ | refine sk_cond_t rfl ?_ | refine sk_cond_f rfl ?_ | (refine sk_reg fun K hK => ?_; simp [c1, c3, htot', u1o, u1c, u2o, u2c, m0.a, m0.b, m1.a, m1.b, m2.a, m2.b, m3.a, m3.b, mr.a, mr.b, wr]; (repeat (first | (refine AskX.go (l1total_ac ⟨_, _, hvf'⟩ u2o) ?_; simp [c1, c3, htot', u1o, u1c, u2o, u2c, m0.a, m0.b, m1.a, m1.b, m2.a, m2.b, m3.a, m3.b, mr.a, mr.b, wr]))); refine hK _ ?_; clear hK K) | (refine sk_drw mix fun K hK => ?_; simp [c1, c3, htot', u1o, u1c, u2o, u2c, m0.a, m0.b, m1.a, m1.b, m2.a, m2.b, m3.a, m3.b, mr.a, mr.b, wr]; (repeat (first | (refine AskD.go (l1total_ac ⟨_, _, hvf'⟩ u2o) ?_; simp [c1, c3, htot', u1o, u1c, u2o, u2c, m0.a, m0.b, m1.a, m1.b, m2.a, m2.b, m3.a, m3.b, mr.a, mr.b, wr]))); refine hK _ ?_; clear hK K))
    refine sk_nil ?_; simp
    refine ⟨nf _ _, u1, u1n, ?_, hwy⟩
    rw [get_put, hb3]
    simp only [Option.map_some]
    rw [set_mid hal (by simp)]; rfl
  · have hs : settleL l' = l' := by
      simp only [settleL, if_neg d1, if_neg c1, if_neg c3]
    rw [hs]
    repeat (first | refine sk_seq ?_ | refine sk_block ?_ | refine sk_blk ?_ | refine sk_skip ?_ | refine sk_exit rfl ?_ | refine sk_cond_t rfl ?_ | refine sk_cond_f rfl ?_ | (refine sk_reg fun K hK => ?_; simp [c1, c3, htot', u1o, u1c, u2o, u2c, m0.a, m0.b, m1.a, m1.b, m2.a, m2.b, m3.a, m3.b, mr.a, mr.b, wr]; (repeat (first | (refine AskX.go (l1total_ac ⟨_, _, hvf'⟩ u2o) ?_; simp [c1, c3, htot', u1o, u1c, u2o, u2c, m0.a, m0.b, m1.a, m1.b, m2.a, m2.b, m3.a, m3.b, mr.a, mr.b, wr]))); refine hK _ ?_; clear hK K) | (refine sk_drw mix fun K hK => ?_; simp [c1, c3, htot', u1o, u1c, u2o, u2c, m0.a, m0.b, m1.a, m1.b, m2.a, m2.b, m3.a, m3.b, mr.a, mr.b, wr]; (repeat (first | (refine AskD.go (l1total_ac ⟨_, _, hvf'⟩ u2o) ?_; simp [c1, c3, htot', u1o, u1c, u2o, u2c, m0.a, m0.b, m1.a, m1.b, m2.a, m2.b, m3.a, m3.b, mr.a, mr.b, wr]))); refine hK _ ?_; clear hK K))
    refine sk_nil ?_; simp
    exact ⟨u1, u1n, hb3, hwy⟩
end Go.Proofs.Ytpoedfmkiiijnaa
