/- Texts of this repo, one behind the other (Do4 Do5). Plain lemmas and walks. -/
import Derived.Test.YtpoedfmkiiijnaaDoorGI
import Derived.Test.YtpoedfmkiiijnaaDoorGL
namespace Go.Proofs.YtpoedfmkiiijnaaDoor
open Go Go.RowKit Go.Proofs.YtpoedfmkiiijnaaDoorAm
set_option linter.unusedVariables false
set_option linter.unusedSimpArgs false
set_option maxRecDepth 10000
set_option maxHeartbeats 8000000
def B76 : SC := .seq (.seq (.reg [⟨some 3, .move (.tmp 0), none, []⟩, ⟨some 4, .nilCheck (.tmp 3), none, []⟩, ⟨some 5, .fieldAddr 50 (.tmp 4) 3, none, []⟩, ⟨some 6, .load 3 (.tmp 5), none, []⟩, ⟨some 7, .binOp .lss 3 (.tmp 6) (.const (.int .i64 0)) 3, none, []⟩]) (.cond (.tmp 7) .ret .skip)) (.seq (.reg [⟨some 8, .move (.tmp 0), none, []⟩, ⟨some 9, .nilCheck (.tmp 8), none, []⟩, ⟨some 10, .load 50 (.tmp 9), none, []⟩, ⟨some 11, .call ⟨.value (.func 19), #[.tmp 10], #[50]⟩, none, []⟩, ⟨some 2, .assign (.tmp 11), none, []⟩]) (.seq (.seq (.reg [⟨some 12, .move (.tmp 0), none, []⟩, ⟨some 13, .nilCheck (.tmp 12), none, []⟩, ⟨some 14, .fieldAddr 50 (.tmp 13) 3, none, []⟩, ⟨some 15, .load 3 (.tmp 14), none, []⟩, ⟨some 16, .move (.tmp 2), none, []⟩, ⟨some 17, .binOp .gtr 3 (.tmp 15) (.tmp 16) 3, none, []⟩]) (.cond (.tmp 17) (.reg [⟨some 18, .move (.tmp 0), none, []⟩, ⟨some 19, .nilCheck (.tmp 18), none, []⟩, ⟨some 20, .fieldAddr 50 (.tmp 19) 3, none, []⟩, ⟨some 21, .load 3 (.tmp 20), none, []⟩, ⟨some 2, .assign (.tmp 21), none, []⟩]) .skip)) (.seq (.seq (.reg [⟨some 22, .move (.tmp 2), none, []⟩, ⟨some 23, .move (.tmp 0), none, []⟩, ⟨some 24, .nilCheck (.tmp 23), none, []⟩, ⟨some 25, .load 50 (.tmp 24), none, []⟩, ⟨some 26, .call ⟨.value (.func 74), #[.tmp 25], #[50]⟩, none, []⟩, ⟨some 27, .binOp .lss 3 (.tmp 22) (.tmp 26) 3, none, []⟩]) (.cond (.tmp 27) (.drw 0 [⟨some 28, .move (.tmp 0), none, []⟩, ⟨some 29, .move (.tmp 0), none, []⟩, ⟨some 30, .nilCheck (.tmp 29), none, [1]⟩, ⟨some 31, .fieldAddr 50 (.tmp 30) 1, none, [2, 1]⟩, ⟨some 32, .load 22 (.tmp 31), none, [3, 2, 1]⟩, ⟨some 33, .move (.tmp 2), none, []⟩, ⟨some 34, .move (.tmp 0), none, []⟩, ⟨some 35, .nilCheck (.tmp 34), none, [6]⟩, ⟨some 36, .fieldAddr 50 (.tmp 35) 0, none, [7, 6]⟩, ⟨some 37, .load 3 (.tmp 36), none, [8, 7, 6]⟩, ⟨some 38, .binOp .sub 3 (.tmp 33) (.tmp 37) 3, none, [5, 9, 8, 7, 6]⟩, ⟨some 39, .slice 22 (.tmp 32) none (some (.tmp 38)) none, none, [4, 3, 2, 1, 10, 5, 9, 8, 7, 6]⟩, ⟨some 40, .nilCheck (.tmp 28), none, [0, 1, 2, 3, 4, 5, 6, 7, 8, 9, 10, 11]⟩, ⟨some 41, .fieldAddr 50 (.tmp 40) 1, none, [12, 0, 1, 2, 3, 4, 5, 6, 7, 8, 9, 10, 11]⟩, ⟨none, .store 22 (.tmp 41) (.tmp 39), none, [13, 12, 0, 1, 2, 3, 4, 5, 6, 7, 8, 9, 10, 11]⟩]) .skip)) (.seq (.drw 0 [⟨some 42, .move (.tmp 0), none, []⟩, ⟨some 43, .nilCheck (.tmp 42), none, [0]⟩, ⟨some 44, .fieldAddr 50 (.tmp 43) 3, none, [1, 0]⟩, ⟨some 45, .load 3 (.tmp 44), none, [2, 1, 0]⟩, ⟨some 46, .move (.tmp 0), none, []⟩, ⟨some 47, .nilCheck (.tmp 46), none, [4]⟩, ⟨some 48, .load 50 (.tmp 47), none, [5, 4]⟩, ⟨some 49, .call ⟨.value (.func 74), #[.tmp 48], #[50]⟩, none, [6, 5, 4]⟩, ⟨some 50, .binOp .geq 3 (.tmp 45) (.tmp 49) 3, none, [3, 2, 1, 0, 7, 6, 5, 4]⟩]) (.cond (.tmp 50) (.reg [⟨some 51, .move (.tmp 0), none, []⟩, ⟨some 52, .nilCheck (.tmp 51), none, []⟩, ⟨some 53, .fieldAddr 50 (.tmp 52) 3, none, []⟩, ⟨none, .store 3 (.tmp 53) (.const (.int .i64 (-1))), none, []⟩]) .skip)))))
theorem s76 : Tryd.f76.body.bind (stripC 54) = some B76 := by kernel_rfl
theorem l2settle_mark {H : Heap} {id n : Nat} {ty : TypeId} {a z : List Value} {l' : Ln} {u1 u2 : Value} {F1 F2 : List Nat} (hal : a.length = n) (hb3 : H[id]? = some ⟨ty, a ++ ([iv l'.gone, u1, u2, iv l'.drop] ++ z), true, true⟩)
  (hwy : RS 1 RInt H F1 u1 l'.way) (u1n : u1 ≠ es) (hgs : RS 2 RGr H F2 u2 l'.grs)
  (hk : 0 ≤ l'.gone ∧ l'.gone ≤ 1000000 ∧ l'.way.length ≤ 101 ∧ totL l' ≤ 1000001 ∧ (l'.drop = -1 ∨ (l'.gone ≤ l'.drop ∧ l'.drop ≤ 1000000)) ∧ 0 ≤ reachL l'.grs ∧ reachL l'.grs ≤ 1000000) :
  ∃ v H', AC Tryd.prog 76 [pt id n] H v H' [id] ∧ v = .tuple #[] ∧ (∀ i, i ≠ id → H'[i]? = H[i]?) ∧ ∃ u, u ≠ es ∧ H'[id]? = some ⟨ty, a ++ ([iv (settleL l').gone, u, u2, iv (settleL l').drop] ++ z), true, true⟩ ∧ RS 1 RInt H F1 u (settleL l').way := by
 obtain ⟨k1, k2, k3, k4, k5, k6, k7⟩ := hk
 have m0 : CF H id n (iv l'.gone) := CF.of hb3 rfl (by have := get_mid (j := 0) (z := z) (m := [iv l'.gone, u1, u2, iv l'.drop]) hal rfl; simpa using this)
 have m1 : CF H id (n + 1) u1 := CF.of hb3 rfl (by have := get_mid (j := 1) (z := z) (m := [iv l'.gone, u1, u2, iv l'.drop]) hal rfl; simpa using this)
 have m2 : CF H id (n + 2) u2 := CF.of hb3 rfl (by have := get_mid (j := 2) (z := z) (m := [iv l'.gone, u1, u2, iv l'.drop]) hal rfl; simpa using this)
 have m3 : CF H id (n + 3) (iv l'.drop) := CF.of hb3 rfl (by have := get_mid (j := 3) (z := z) (m := [iv l'.gone, u1, u2, iv l'.drop]) hal rfl; simpa using this)
 have mr := RF.of hb3
 have wri : wr H.length [id] id := by simp [wr]
 have nf : ∀ (j : Nat) (x : Value) i, i ≠ id → (H.put id j x)[i]? = H[i]? := fun j x i hi => get_put_ne _ _ _ hi
 refine AC.of_bodyS (N := 54) Tryd.func76 s76 (by kernel_rfl) rfl rfl (by simp) ?_; unfold B76
 by_cases d1 : l'.drop = -1
 ·have d0 : l'.drop < 0 := by omega
  have hs : settleL l' = l' := by simp [settleL, d1]
  rw [hs]
  repeat (first | refine sA ?_ | refine sB ?_ | refine sC ?_ | refine sD ?_ | refine sE rfl ?_ | refine sF rfl ?_ | refine sG rfl ?_ | ((first | refine sk_reg fun K hK => ?_ | refine sk_drw mix fun K hK => ?_); simp [d0, m3.s]; refine hK _ ?_; clear hK K))
  refine sk_ret ?_; simp
  exact ⟨u1, u1n, hb3, hwy⟩
 have d0 : ¬ l'.drop < 0 := by omega
 obtain ⟨av', cv', hvf'⟩ := hwy.form
 have u2o := hgs.one
 have u2c := hgs.cv
 have u1o := hwy.one
 have u1c := hwy.cv
 have htd' : totL l' = l'.gone + l'.way.length := rfl
 have htot' : IntKind.i64.wrap (l'.gone + l'.way.length) = totL l' := wrap_id (x := l'.gone + l'.way.length) (by omega) (by omega)
 have hMd : l'.drop ≤ maxI l'.drop (reachL l'.grs) := by unfold maxI; split <;> omega
 have hMl : maxI l'.drop (reachL l'.grs) ≤ 1000000 := by unfold maxI; split <;> omega
 repeat (first | refine sA ?_ | refine sB ?_ | refine sC ?_ | refine sD ?_ | refine sE rfl ?_ | refine sF rfl ?_ | refine sG rfl ?_ | ((first | refine sk_reg fun K hK => ?_ | refine sk_drw mix fun K hK => ?_); simp [d0, m0.s, m1.s, m2.s, m3.s, u1o, u1c, u2o, u2c]; (repeat ((first | refine AskX.go (l1most_ac ⟨_, _, _, hvf'⟩ hgs) ?_ | refine AskD.go (l1most_ac ⟨_, _, _, hvf'⟩ hgs) ?_); simp [d0, m0.s, m1.s, m2.s, m3.s, u1o, u1c, u2o, u2c])); refine hK _ ?_; clear hK K))
 refine sk_cut [(0, pt id n), (2, iv (maxI l'.drop (reachL l'.grs)))] (fun H1 => H1 = H) ?_ ?_
 ·by_cases c0 : reachL l'.grs < l'.drop
  ·have hm : maxI l'.drop (reachL l'.grs) = l'.drop := by unfold maxI; rw [if_neg (by omega)]
   rw [decide_eq_true c0]
   repeat (first | refine sA ?_ | refine sB ?_ | refine sC ?_ | refine sD ?_ | refine sE rfl ?_ | refine sF rfl ?_ | refine sG rfl ?_ | ((first | refine sk_reg fun K hK => ?_ | refine sk_drw mix fun K hK => ?_); simp [m3.s]; refine hK _ ?_; clear hK K))
   exact sk_inv ⟨by simp [subL, getT, hm], rfl⟩
  ·have hm : maxI l'.drop (reachL l'.grs) = reachL l'.grs := by unfold maxI; split <;> omega
   rw [decide_eq_false c0]
   repeat (first | refine sA ?_ | refine sB ?_ | refine sC ?_ | refine sD ?_ | refine sE rfl ?_ | refine sF rfl ?_ | refine sG rfl ?_ | ((first | refine sk_reg fun K hK => ?_ | refine sk_drw mix fun K hK => ?_); simp [m3.s]; refine hK _ ?_; clear hK K))
   exact sk_inv ⟨by simp [subL, getT, hm], rfl⟩
 rintro H1 hH1
 subst hH1
 by_cases c1 : maxI l'.drop (reachL l'.grs) < totL l'
 ·obtain ⟨m, hm⟩ : ∃ m : Nat, maxI l'.drop (reachL l'.grs) - l'.gone = m := ⟨(maxI l'.drop (reachL l'.grs) - l'.gone).toNat, by omega⟩
  have hmw : m ≤ l'.way.length := by omega
  have hwr : IntKind.i64.wrap (maxI l'.drop (reachL l'.grs) - l'.gone) = (m : Int) := by rw [wrap_id (by omega) (by omega)]; exact hm
  obtain ⟨u, hsl, un, hu, uo, uc⟩ := take_sl hwy u1n hmw
  obtain ⟨au, cu, huf⟩ := hu.form
  rw [List.length_take, Nat.min_eq_left hmw] at huf
  have htot2 : IntKind.i64.wrap (l'.gone + (m : Int)) = maxI l'.drop (reachL l'.grs) := by rw [wrap_id (by omega) (by omega)]; omega
  have nm : (Heap.put H1 id (n + 1) u)[id]? = some ⟨ty, a ++ ([iv l'.gone, u, u2, iv l'.drop] ++ z), true, true⟩ := by
   rw [get_put, hb3]
   simp only [Option.map_some]
   rw [set_mid hal (by simp)]; rfl
  have n0 : CF (Heap.put H1 id (n + 1) u) id n (iv l'.gone) := CF.of nm rfl (by have := get_mid (j := 0) (z := z) (m := [iv l'.gone, u, u2, iv l'.drop]) hal rfl; simpa using this)
  have n1 : CF (Heap.put H1 id (n + 1) u) id (n + 1) u := CF.of nm rfl (by have := get_mid (j := 1) (z := z) (m := [iv l'.gone, u, u2, iv l'.drop]) hal rfl; simpa using this)
  have n2 : CF (Heap.put H1 id (n + 1) u) id (n + 2) u2 := CF.of nm rfl (by have := get_mid (j := 2) (z := z) (m := [iv l'.gone, u, u2, iv l'.drop]) hal rfl; simpa using this)
  have n3 : CF (Heap.put H1 id (n + 1) u) id (n + 3) (iv l'.drop) := CF.of nm rfl (by have := get_mid (j := 3) (z := z) (m := [iv l'.gone, u, u2, iv l'.drop]) hal rfl; simpa using this)
  have nr := RF.of nm
  have hml : (l'.way.take m).length = m := by rw [List.length_take, Nat.min_eq_left hmw]
  by_cases c3 : maxI l'.drop (reachL l'.grs) ≤ l'.drop
  ·have hs : settleL l' = { l' with way := l'.way.take m, drop := -1 } := by
    simp only [settleL, if_neg d1, if_pos c1, hm, Int.toNat_natCast]
    rw [if_pos]
    show l'.gone + ((l'.way.take m).length : Int) ≤ l'.drop
    omega
   rw [hs]
   repeat (first | refine sA ?_ | refine sB ?_ | refine sC ?_ | refine sD ?_ | refine sE rfl ?_ | refine sF rfl ?_ | refine sG rfl ?_ | ((first | refine sk_reg fun K hK => ?_ | refine sk_drw mix fun K hK => ?_); simp [c1, c3, htot', htot2, hwr, -sliceA, hsl, uo, uc, u1o, u1c, u2o, u2c, m0.s, m1.s, m2.s, m3.s, mr.s, n0.s, n1.s, n2.s, n3.s, nr.s, wr]; (repeat ((first | refine AskX.go (l1total_ac ⟨_, _, hvf'⟩ u2o) ?_ | refine AskD.go (l1total_ac ⟨_, _, hvf'⟩ u2o) ?_ | refine AskX.go (l1total_ac ⟨_, _, huf⟩ u2o) ?_ | refine AskD.go (l1total_ac ⟨_, _, huf⟩ u2o) ?_); simp [c1, c3, htot', htot2, hwr, -sliceA, hsl, uo, uc, u1o, u1c, u2o, u2c, m0.s, m1.s, m2.s, m3.s, mr.s, n0.s, n1.s, n2.s, n3.s, nr.s, wr])); refine hK _ ?_; clear hK K))
   refine sk_nil ?_; simp
   refine ⟨fun i hi => by rw [get_put_ne _ _ _ hi]; exact nf _ _ i hi, u, un, ?_, hu⟩
   rw [get_put, nm]
   simp only [Option.map_some]
   rw [set_mid hal (by simp)]; rfl
  ·have hs : settleL l' = { l' with way := l'.way.take m } := by
    simp only [settleL, if_neg d1, if_pos c1, hm, Int.toNat_natCast]
    rw [if_neg]
    show ¬ (l'.gone + ((l'.way.take m).length : Int) ≤ l'.drop)
    omega
   rw [hs]
   repeat (first | refine sA ?_ | refine sB ?_ | refine sC ?_ | refine sD ?_ | refine sE rfl ?_ | refine sF rfl ?_ | refine sG rfl ?_ | ((first | refine sk_reg fun K hK => ?_ | refine sk_drw mix fun K hK => ?_); simp [c1, c3, htot', htot2, hwr, -sliceA, hsl, uo, uc, u1o, u1c, u2o, u2c, m0.s, m1.s, m2.s, m3.s, mr.s, n0.s, n1.s, n2.s, n3.s, nr.s, wr]; (repeat ((first | refine AskX.go (l1total_ac ⟨_, _, hvf'⟩ u2o) ?_ | refine AskD.go (l1total_ac ⟨_, _, hvf'⟩ u2o) ?_ | refine AskX.go (l1total_ac ⟨_, _, huf⟩ u2o) ?_ | refine AskD.go (l1total_ac ⟨_, _, huf⟩ u2o) ?_); simp [c1, c3, htot', htot2, hwr, -sliceA, hsl, uo, uc, u1o, u1c, u2o, u2c, m0.s, m1.s, m2.s, m3.s, mr.s, n0.s, n1.s, n2.s, n3.s, nr.s, wr])); refine hK _ ?_; clear hK K))
   refine sk_nil ?_; simp
   exact ⟨nf _ _, u, un, nm, hu⟩
 by_cases c3 : totL l' ≤ l'.drop
 ·have hs : settleL l' = { l' with drop := -1 } := by
   simp only [settleL, if_neg d1, if_neg c1, if_pos c3]
  rw [hs]
  repeat (first | refine sA ?_ | refine sB ?_ | refine sC ?_ | refine sD ?_ | refine sE rfl ?_ | refine sF rfl ?_ | refine sG rfl ?_ | ((first | refine sk_reg fun K hK => ?_ | refine sk_drw mix fun K hK => ?_); simp [c1, c3, htot', u1o, u1c, u2o, u2c, m0.s, m1.s, m2.s, m3.s, mr.s, wr]; (repeat ((first | refine AskX.go (l1total_ac ⟨_, _, hvf'⟩ u2o) ?_ | refine AskD.go (l1total_ac ⟨_, _, hvf'⟩ u2o) ?_); simp [c1, c3, htot', u1o, u1c, u2o, u2c, m0.s, m1.s, m2.s, m3.s, mr.s, wr])); refine hK _ ?_; clear hK K))
  refine sk_nil ?_; simp
  refine ⟨nf _ _, u1, u1n, ?_, hwy⟩
  rw [get_put, hb3]
  simp only [Option.map_some]
  rw [set_mid hal (by simp)]; rfl
 ·have hs : settleL l' = l' := by
   simp only [settleL, if_neg d1, if_neg c1, if_neg c3]
  rw [hs]
  repeat (first | refine sA ?_ | refine sB ?_ | refine sC ?_ | refine sD ?_ | refine sE rfl ?_ | refine sF rfl ?_ | refine sG rfl ?_ | ((first | refine sk_reg fun K hK => ?_ | refine sk_drw mix fun K hK => ?_); simp [c1, c3, htot', u1o, u1c, u2o, u2c, m0.s, m1.s, m2.s, m3.s, mr.s, wr]; (repeat ((first | refine AskX.go (l1total_ac ⟨_, _, hvf'⟩ u2o) ?_ | refine AskD.go (l1total_ac ⟨_, _, hvf'⟩ u2o) ?_); simp [c1, c3, htot', u1o, u1c, u2o, u2c, m0.s, m1.s, m2.s, m3.s, mr.s, wr])); refine hK _ ?_; clear hK K))
  refine sk_nil ?_; simp
  exact ⟨u1, u1n, hb3, hwy⟩
theorem evLn_fail {ls : List Ln} {l : Ln} {e : Evt} (h : (evLn ls l e).1 ≠ 0) : (evLn ls l e).2 = l := by
 revert h
 unfold evLn
 (repeat' split) <;> simp
theorem settleL_grs (l : Ln) : (settleL l).grs = l.grs := by
 unfold settleL
 split
 ·rfl
 ·simp only
  split <;> split <;> rfl
theorem lnOk_bds {l : Ln} (h : LnOk l) : 0 ≤ l.gone ∧ l.gone ≤ 1000000 ∧ l.way.length ≤ 101 ∧ totL l ≤ 1000001 ∧ (l.drop = -1 ∨ (l.gone ≤ l.drop ∧ l.drop ≤ 1000000)) ∧ 0 ≤ reachL l.grs ∧ reachL l.grs ≤ 1000000 := by
 have h1 := h.reach
 have h2 := reachL_nn l.grs
 have h3 := h.t1
 have h4 := h.w1
 have h5 := h.g0
 have h6 := h.g1
 refine ⟨h5, h6, by omega, by omega, ?_, h2, by omega⟩
 rcases h.dr with e | e
 ·exact .inl e
 ·exact .inr ⟨e.1, by omega⟩
/-- The line behind an event, within bounds, whether it is done or not. -/
theorem evLn_bd {ls : List Ln} {l : Ln} {e : Evt} (h : LnOk l) (hn : 0 ≤ e.n ∧ e.n ≤ 1000000) :
  0 ≤ (evLn ls l e).2.gone ∧ (evLn ls l e).2.gone ≤ 1000000 ∧ (evLn ls l e).2.way.length ≤ 101 ∧ totL (evLn ls l e).2 ≤ 1000001 ∧ ((evLn ls l e).2.drop = -1 ∨ ((evLn ls l e).2.gone ≤ (evLn ls l e).2.drop ∧ (evLn ls l e).2.drop ≤ 1000000)) ∧ 0 ≤ reachL (evLn ls l e).2.grs ∧ reachL (evLn ls l e).2.grs ≤ 1000000 := by
 by_cases h0 : (evLn ls l e).1 = 0
 ·exact evLn_b h hn (Prod.ext h0 rfl)
 ·rw [evLn_fail h0]; exact lnOk_bds h
theorem doV_eq {b : Bk} {e : Evt} {k : Nat} (hk : e.train = k) (hkl : k < b.lines.length) (h : LnOk b.lines[k]) : doV b e = ⟨(evLn b.lines b.lines[k] e).1, { b with lines := b.lines.set k (settleL (evLn b.lines b.lines[k] e).2) }⟩ := by
 have hl : lnAt b e.train = b.lines[k] := by simp [lnAt, hk, hkl]
 unfold doV
 rw [hl]
 simp only [hk, Int.toNat_natCast]
 split
 ·rename_i h0; rw [h0]
 ·rename_i h0
  rw [evLn_fail h0, h.settle, List.set_getElem_self]
def B56 : SC := .seq (.reg [⟨some 2, .box 39 (.tmp 0), none, []⟩, ⟨some 3, .box 57 (.tmp 1), none, []⟩, ⟨some 4, .alloc 99, none, []⟩]) (.seq (.seq (.reg [⟨some 10, .load 39 (.tmp 2), none, []⟩, ⟨some 11, .load 57 (.tmp 3), none, []⟩, ⟨some 12, .call ⟨.value (.func 72), #[.tmp 10, .tmp 11], #[39, 57]⟩, none, []⟩, ⟨some 13, .unOp .not 4 (.tmp 12), none, []⟩]) (.cond (.tmp 13) (.seq (.reg [⟨some 14, .build 99 #[(0, (.const (.int .i64 1)))], none, []⟩, ⟨none, .store 99 (.tmp 4) (.tmp 14), none, []⟩]) .ret) .skip)) (.seq (.reg [⟨some 15, .load 39 (.tmp 2), none, []⟩, ⟨some 16, .call ⟨.value (.func 57), #[.tmp 15], #[39]⟩, none, []⟩, ⟨some 5, .alloc 39, none, []⟩, ⟨none, .store 39 (.tmp 5) (.tmp 16), none, []⟩]) (.seq (.reg [⟨some 17, .fieldAddr 39 (.tmp 5) 2, none, []⟩, ⟨some 18, .load 37 (.tmp 17), none, []⟩, ⟨some 19, .fieldAddr 57 (.tmp 3) 1, none, []⟩, ⟨some 20, .load 3 (.tmp 19), none, []⟩, ⟨some 21, .indexAddr 37 (.tmp 18) (.tmp 20), none, []⟩, ⟨some 6, .assign (.tmp 21), none, []⟩]) (.seq (.reg [⟨some 22, .move (.tmp 6), none, []⟩, ⟨some 23, .nilCheck (.tmp 22), none, []⟩, ⟨some 24, .fieldAddr 50 (.tmp 23) 2, none, []⟩, ⟨some 25, .load 48 (.tmp 24), none, []⟩, ⟨some 26, .call ⟨.builtin .len, #[.tmp 25], #[48]⟩, none, []⟩, ⟨some 7, .assign (.tmp 26), none, []⟩]) (.seq (.reg [⟨some 8, .assign (.const (.int .i64 0)), none, []⟩]) (.seq (.seq (.reg [⟨some 27, .fieldAddr 57 (.tmp 3) 0, none, []⟩, ⟨some 28, .load 3 (.tmp 27), none, []⟩]) (.block 0 (.seq (.reg [⟨some 30, .binOp .eql 3 (.tmp 28) (.const (.int .i64 1)) 3, none, []⟩, ⟨some 29, .assign (.tmp 30), none, []⟩]) (.cond (.tmp 29) (.seq (.reg [⟨some 31, .load 39 (.tmp 2), none, []⟩, ⟨some 32, .fieldAddr 57 (.tmp 3) 2, none, []⟩, ⟨some 33, .load 3 (.tmp 32), none, []⟩, ⟨some 34, .call ⟨.value (.func 73), #[.tmp 31, .tmp 33], #[39, 3]⟩, none, []⟩, ⟨some 35, .binOp .geq 3 (.tmp 34) (.const (.int .i64 0)) 3, none, []⟩]) (.cond (.tmp 35) (.reg [⟨some 8, .assign (.const (.int .i64 2)), none, []⟩]) (.seq (.reg [⟨some 36, .move (.tmp 6), none, []⟩, ⟨some 37, .nilCheck (.tmp 36), none, []⟩, ⟨some 38, .fieldAddr 50 (.tmp 37) 3, none, []⟩, ⟨some 39, .load 3 (.tmp 38), none, []⟩, ⟨some 40, .binOp .geq 3 (.tmp 39) (.const (.int .i64 0)) 3, none, []⟩]) (.cond (.tmp 40) (.reg [⟨some 8, .assign (.const (.int .i64 3)), none, []⟩]) (.seq (.reg [⟨some 41, .move (.tmp 6), none, []⟩, ⟨some 42, .nilCheck (.tmp 41), none, []⟩, ⟨some 43, .fieldAddr 50 (.tmp 42) 1, none, []⟩, ⟨some 44, .load 22 (.tmp 43), none, []⟩, ⟨some 45, .call ⟨.builtin .len, #[.tmp 44], #[22]⟩, none, []⟩, ⟨some 46, .binOp .eql 3 (.tmp 45) (.const (.int .i64 100)) 3, none, []⟩, ⟨some 47, .move (.tmp 46), none, []⟩, ⟨some 48, .move (.tmp 6), some (47, false), []⟩, ⟨some 49, .nilCheck (.tmp 48), some (47, false), []⟩, ⟨some 50, .load 50 (.tmp 49), some (47, false), []⟩, ⟨some 51, .call ⟨.value (.func 74), #[.tmp 50], #[50]⟩, some (47, false), []⟩, ⟨some 52, .binOp .eql 3 (.tmp 51) (.const (.int .i64 1000000)) 3, some (47, false), []⟩, ⟨some 53, .pick (.tmp 47) (.const (.bool true)) (.tmp 52), none, []⟩]) (.cond (.tmp 53) (.reg [⟨some 8, .assign (.const (.int .i64 4)), none, []⟩]) (.drw 1 [⟨some 54, .move (.tmp 6), none, []⟩, ⟨some 55, .move (.tmp 6), none, []⟩, ⟨some 56, .nilCheck (.tmp 55), none, [1]⟩, ⟨some 57, .fieldAddr 50 (.tmp 56) 1, none, [2, 1]⟩, ⟨some 58, .load 22 (.tmp 57), none, [3, 2, 1]⟩, ⟨some 59, .fieldAddr 57 (.tmp 3) 2, none, []⟩, ⟨some 60, .load 3 (.tmp 59), none, [5]⟩, ⟨some 61, .buildSlice 22 1 #[(0, (.tmp 60))], none, [6, 5]⟩, ⟨some 62, .call ⟨.builtin .append, #[.tmp 58, .tmp 61], #[22, 22]⟩, none, [4, 3, 2, 1, 7, 6, 5]⟩, ⟨some 63, .nilCheck (.tmp 54), none, [0, 1, 2, 3, 4, 5, 6, 7, 8]⟩, ⟨some 64, .fieldAddr 50 (.tmp 63) 1, none, [9, 0, 1, 2, 3, 4, 5, 6, 7, 8]⟩, ⟨none, .store 22 (.tmp 64) (.tmp 62), none, [10, 9, 0, 1, 2, 3, 4, 5, 6, 7, 8]⟩]))))))) (.seq (.reg [⟨some 66, .binOp .eql 3 (.tmp 28) (.const (.int .i64 2)) 3, none, []⟩, ⟨some 65, .assign (.tmp 66), none, []⟩]) (.cond (.tmp 65) (.seq (.drw 0 [⟨some 67, .fieldAddr 57 (.tmp 3) 2, none, []⟩, ⟨some 68, .load 3 (.tmp 67), none, [0]⟩, ⟨some 69, .move (.tmp 6), none, []⟩, ⟨some 70, .nilCheck (.tmp 69), none, [2]⟩, ⟨some 71, .fieldAddr 50 (.tmp 70) 0, none, [3, 2]⟩, ⟨some 72, .load 3 (.tmp 71), none, [4, 3, 2]⟩, ⟨some 73, .binOp .lss 3 (.tmp 68) (.tmp 72) 3, none, [1, 0, 5, 4, 3, 2]⟩, ⟨some 74, .move (.tmp 73), none, [6, 1, 0, 5, 4, 3, 2]⟩, ⟨some 75, .fieldAddr 57 (.tmp 3) 2, some (74, false), [7, 6, 1, 0, 5, 4, 3, 2]⟩, ⟨some 76, .load 3 (.tmp 75), some (74, false), [8, 7, 6, 1, 0, 5, 4, 3, 2]⟩, ⟨some 77, .move (.tmp 6), some (74, false), [7, 6, 1, 0, 5, 4, 3, 2]⟩, ⟨some 78, .nilCheck (.tmp 77), some (74, false), [10, 7, 6, 1, 0, 5, 4, 3, 2]⟩, ⟨some 79, .load 50 (.tmp 78), some (74, false), [11, 10, 7, 6, 1, 0, 5, 4, 3, 2]⟩, ⟨some 80, .call ⟨.value (.func 74), #[.tmp 79], #[50]⟩, some (74, false), [12, 11, 10, 7, 6, 1, 0, 5, 4, 3, 2]⟩, ⟨some 81, .binOp .gtr 3 (.tmp 76) (.tmp 80) 3, some (74, false), [9, 8, 7, 6, 1, 0, 5, 4, 3, 2, 13, 12, 11, 10]⟩, ⟨some 82, .pick (.tmp 74) (.const (.bool true)) (.tmp 81), none, [7, 6, 1, 0, 5, 4, 3, 2, 14, 9, 8, 13, 12, 11, 10]⟩, ⟨some 83, .move (.tmp 82), none, [15, 7, 6, 1, 0, 5, 4, 3, 2, 14, 9, 8, 13, 12, 11, 10]⟩, ⟨some 84, .move (.tmp 6), some (83, false), [16, 15, 7, 6, 1, 0, 5, 4, 3, 2, 14, 9, 8, 13, 12, 11, 10]⟩, ⟨some 85, .nilCheck (.tmp 84), some (83, false), [17, 16, 15, 7, 6, 1, 0, 5, 4, 3, 2, 14, 9, 8, 13, 12, 11, 10]⟩, ⟨some 86, .fieldAddr 50 (.tmp 85) 3, some (83, false), [18, 17, 16, 15, 7, 6, 1, 0, 5, 4, 3, 2, 14, 9, 8, 13, 12, 11, 10]⟩, ⟨some 87, .load 3 (.tmp 86), some (83, false), [19, 18, 17, 16, 15, 7, 6, 1, 0, 5, 4, 3, 2, 14, 9, 8, 13, 12, 11, 10]⟩, ⟨some 88, .binOp .geq 3 (.tmp 87) (.const (.int .i64 0)) 3, some (83, false), [20, 19, 18, 17, 16, 15, 7, 6, 1, 0, 5, 4, 3, 2, 14, 9, 8, 13, 12, 11, 10]⟩, ⟨some 89, .move (.tmp 88), some (83, false), [21, 20, 19, 18, 17, 16, 15, 7, 6, 1, 0, 5, 4, 3, 2, 14, 9, 8, 13, 12, 11, 10]⟩, ⟨some 90, .fieldAddr 57 (.tmp 3) 2, some (89, true), [22, 21, 20, 19, 18, 17, 16, 15, 7, 6, 1, 0, 5, 4, 3, 2, 14, 9, 8, 13, 12, 11, 10]⟩, ⟨some 91, .load 3 (.tmp 90), some (89, true), [23, 22, 21, 20, 19, 18, 17, 16, 15, 7, 6, 1, 0, 5, 4, 3, 2, 14, 9, 8, 13, 12, 11, 10]⟩, ⟨some 92, .move (.tmp 6), some (89, true), [22, 21, 20, 19, 18, 17, 16, 15, 7, 6, 1, 0, 5, 4, 3, 2, 14, 9, 8, 13, 12, 11, 10]⟩, ⟨some 93, .nilCheck (.tmp 92), some (89, true), [25, 22, 21, 20, 19, 18, 17, 16, 15, 7, 6, 1, 0, 5, 4, 3, 2, 14, 9, 8, 13, 12, 11, 10]⟩, ⟨some 94, .fieldAddr 50 (.tmp 93) 3, some (89, true), [26, 25, 22, 21, 20, 19, 18, 17, 16, 15, 7, 6, 1, 0, 5, 4, 3, 2, 14, 9, 8, 13, 12, 11, 10]⟩, ⟨some 95, .load 3 (.tmp 94), some (89, true), [27, 26, 25, 22, 21, 20, 19, 18, 17, 16, 15, 7, 6, 1, 0, 5, 4, 3, 2, 14, 9, 8, 13, 12, 11, 10]⟩, ⟨some 96, .binOp .gtr 3 (.tmp 91) (.tmp 95) 3, some (89, true), [24, 23, 22, 21, 20, 19, 18, 17, 16, 15, 7, 6, 1, 0, 5, 4, 3, 2, 14, 9, 8, 13, 12, 11, 10, 28, 27, 26, 25]⟩, ⟨some 97, .pick (.tmp 89) (.tmp 96) (.const (.bool false)), some (83, false), [22, 21, 20, 19, 18, 17, 16, 15, 7, 6, 1, 0, 5, 4, 3, 2, 14, 9, 8, 13, 12, 11, 10, 29, 24, 23, 28, 27, 26, 25]⟩, ⟨some 98, .pick (.tmp 83) (.const (.bool true)) (.tmp 97), none, [16, 15, 7, 6, 1, 0, 5, 4, 3, 2, 14, 9, 8, 13, 12, 11, 10, 30, 22, 21, 20, 19, 18, 17, 29, 24, 23, 28, 27, 26, 25]⟩]) (.cond (.tmp 98) (.reg [⟨some 8, .assign (.const (.int .i64 2)), none, []⟩]) (.seq (.reg [⟨some 99, .move (.tmp 7), none, []⟩, ⟨some 100, .binOp .eql 3 (.tmp 99) (.const (.int .i64 20)) 3, none, []⟩, ⟨some 101, .move (.tmp 100), none, []⟩, ⟨some 102, .move (.tmp 6), some (101, false), []⟩, ⟨some 103, .nilCheck (.tmp 102), some (101, false), []⟩, ⟨some 104, .fieldAddr 50 (.tmp 103) 2, some (101, false), []⟩, ⟨some 105, .load 48 (.tmp 104), some (101, false), []⟩, ⟨some 106, .move (.tmp 7), some (101, false), []⟩, ⟨some 107, .binOp .sub 3 (.tmp 106) (.const (.int .i64 1)) 3, some (101, false), []⟩, ⟨some 108, .indexAddr 48 (.tmp 105) (.tmp 107), some (101, false), []⟩, ⟨some 109, .fieldAddr 88 (.tmp 108) 0, some (101, false), []⟩, ⟨some 110, .load 3 (.tmp 109), some (101, false), []⟩, ⟨some 111, .binOp .eql 3 (.tmp 110) (.const (.int .i64 1000000)) 3, some (101, false), []⟩, ⟨some 112, .pick (.tmp 101) (.const (.bool true)) (.tmp 111), none, []⟩]) (.cond (.tmp 112) (.reg [⟨some 8, .assign (.const (.int .i64 4)), none, []⟩]) (.drw 1 [⟨some 113, .move (.tmp 6), none, []⟩, ⟨some 114, .move (.tmp 6), none, []⟩, ⟨some 115, .nilCheck (.tmp 114), none, [1]⟩, ⟨some 116, .fieldAddr 50 (.tmp 115) 2, none, [2, 1]⟩, ⟨some 117, .load 48 (.tmp 116), none, [3, 2, 1]⟩, ⟨some 118, .move (.tmp 6), none, []⟩, ⟨some 119, .nilCheck (.tmp 118), none, [5]⟩, ⟨some 120, .fieldAddr 50 (.tmp 119) 2, none, [6, 5]⟩, ⟨some 121, .load 48 (.tmp 120), none, [7, 6, 5]⟩, ⟨some 122, .move (.tmp 7), none, []⟩, ⟨some 123, .binOp .sub 3 (.tmp 122) (.const (.int .i64 1)) 3, none, [9]⟩, ⟨some 124, .indexAddr 48 (.tmp 121) (.tmp 123), none, [8, 7, 6, 5, 10, 9]⟩, ⟨some 125, .fieldAddr 88 (.tmp 124) 0, none, [11, 8, 7, 6, 5, 10, 9]⟩, ⟨some 126, .load 3 (.tmp 125), none, [12, 11, 8, 7, 6, 5, 10, 9]⟩, ⟨some 127, .binOp .add 3 (.tmp 126) (.const (.int .i64 1)) 3, none, [13, 12, 11, 8, 7, 6, 5, 10, 9]⟩, ⟨some 128, .fieldAddr 57 (.tmp 3) 2, none, []⟩, ⟨some 129, .load 3 (.tmp 128), none, [15]⟩, ⟨some 130, .build 88 #[(0, (.tmp 127)), (1, (.tmp 129))], none, [14, 13, 12, 11, 8, 7, 6, 5, 10, 9, 16, 15]⟩, ⟨some 131, .buildSlice 48 1 #[(0, (.tmp 130))], none, [17, 14, 13, 12, 11, 8, 7, 6, 5, 10, 9, 16, 15]⟩, ⟨some 132, .call ⟨.builtin .append, #[.tmp 117, .tmp 131], #[48, 48]⟩, none, [4, 3, 2, 1, 18, 17, 14, 13, 12, 11, 8, 7, 6, 5, 10, 9, 16, 15]⟩, ⟨some 133, .nilCheck (.tmp 113), none, [0, 1, 2, 3, 4, 5, 6, 7, 8, 9, 10, 11, 12, 13, 14, 15, 16, 17, 18, 19]⟩, ⟨some 134, .fieldAddr 50 (.tmp 133) 2, none, [20, 0, 1, 2, 3, 4, 5, 6, 7, 8, 9, 10, 11, 12, 13, 14, 15, 16, 17, 18, 19]⟩, ⟨none, .store 48 (.tmp 134) (.tmp 132), none, [21, 20, 0, 1, 2, 3, 4, 5, 6, 7, 8, 9, 10, 11, 12, 13, 14, 15, 16, 17, 18, 19]⟩]))))) (.seq (.reg [⟨some 136, .binOp .eql 3 (.tmp 28) (.const (.int .i64 3)) 3, none, []⟩, ⟨some 135, .assign (.tmp 136), none, []⟩]) (.cond (.tmp 135) (.seq (.drw 0 [⟨some 137, .fieldAddr 57 (.tmp 3) 2, none, []⟩, ⟨some 138, .load 3 (.tmp 137), none, [0]⟩, ⟨some 139, .move (.tmp 6), none, []⟩, ⟨some 140, .nilCheck (.tmp 139), none, [2]⟩, ⟨some 141, .fieldAddr 50 (.tmp 140) 2, none, [3, 2]⟩, ⟨some 142, .load 48 (.tmp 141), none, [4, 3, 2]⟩, ⟨some 143, .indexAddr 48 (.tmp 142) (.const (.int .i64 0)), none, [5, 4, 3, 2]⟩, ⟨some 144, .fieldAddr 88 (.tmp 143) 0, none, [6, 5, 4, 3, 2]⟩, ⟨some 145, .load 3 (.tmp 144), none, [7, 6, 5, 4, 3, 2]⟩, ⟨some 146, .binOp .sub 3 (.tmp 138) (.tmp 145) 3, none, [1, 0, 8, 7, 6, 5, 4, 3, 2]⟩, ⟨some 9, .assign (.tmp 146), none, [9, 1, 0, 8, 7, 6, 5, 4, 3, 2]⟩]) (.seq (.reg [⟨some 147, .move (.tmp 9), none, []⟩, ⟨some 148, .binOp .lss 3 (.tmp 147) (.const (.int .i64 0)) 3, none, []⟩, ⟨some 149, .move (.tmp 148), none, []⟩, ⟨some 150, .move (.tmp 9), some (149, false), []⟩, ⟨some 151, .move (.tmp 7), some (149, false), []⟩, ⟨some 152, .binOp .geq 3 (.tmp 150) (.tmp 151) 3, some (149, false), []⟩, ⟨some 153, .pick (.tmp 149) (.const (.bool true)) (.tmp 152), none, []⟩]) (.cond (.tmp 153) (.reg [⟨some 8, .assign (.const (.int .i64 2)), none, []⟩]) (.seq (.drw 0 [⟨some 154, .move (.tmp 6), none, []⟩, ⟨some 155, .nilCheck (.tmp 154), none, [0]⟩, ⟨some 156, .fieldAddr 50 (.tmp 155) 2, none, [1, 0]⟩, ⟨some 157, .load 48 (.tmp 156), none, [2, 1, 0]⟩, ⟨some 158, .move (.tmp 9), none, []⟩, ⟨some 159, .slice 48 (.tmp 157) (some (.tmp 158)) none none, none, [3, 2, 1, 0, 4]⟩, ⟨some 160, .call ⟨.value (.func 75), #[.tmp 159], #[48]⟩, none, [5, 3, 2, 1, 0, 4]⟩, ⟨some 161, .move (.tmp 6), none, []⟩, ⟨some 162, .nilCheck (.tmp 161), none, [7]⟩, ⟨some 163, .fieldAddr 50 (.tmp 162) 0, none, [8, 7]⟩, ⟨some 164, .load 3 (.tmp 163), none, [9, 8, 7]⟩, ⟨some 165, .binOp .lss 3 (.tmp 160) (.tmp 164) 3, none, [6, 5, 3, 2, 1, 0, 4, 10, 9, 8, 7]⟩]) (.cond (.tmp 165) (.reg [⟨some 8, .assign (.const (.int .i64 3)), none, []⟩]) (.reg [⟨some 166, .move (.tmp 6), none, []⟩, ⟨some 167, .move (.tmp 6), none, []⟩, ⟨some 168, .nilCheck (.tmp 167), none, []⟩, ⟨some 169, .fieldAddr 50 (.tmp 168) 2, none, []⟩, ⟨some 170, .load 48 (.tmp 169), none, []⟩, ⟨some 171, .move (.tmp 9), none, []⟩, ⟨some 172, .slice 48 (.tmp 170) (some (.tmp 171)) none none, none, []⟩, ⟨some 173, .nilCheck (.tmp 166), none, []⟩, ⟨some 174, .fieldAddr 50 (.tmp 173) 2, none, []⟩, ⟨none, .store 48 (.tmp 174) (.tmp 172), none, []⟩])))))) (.seq (.reg [⟨some 176, .binOp .eql 3 (.tmp 28) (.const (.int .i64 4)) 3, none, []⟩, ⟨some 175, .assign (.tmp 176), none, []⟩]) (.cond (.tmp 175) (.seq (.drw 0 [⟨some 177, .fieldAddr 57 (.tmp 3) 2, none, []⟩, ⟨some 178, .load 3 (.tmp 177), none, [0]⟩, ⟨some 179, .move (.tmp 6), none, []⟩, ⟨some 180, .nilCheck (.tmp 179), none, [2]⟩, ⟨some 181, .fieldAddr 50 (.tmp 180) 0, none, [3, 2]⟩, ⟨some 182, .load 3 (.tmp 181), none, [4, 3, 2]⟩, ⟨some 183, .binOp .lss 3 (.tmp 178) (.tmp 182) 3, none, [1, 0, 5, 4, 3, 2]⟩, ⟨some 184, .move (.tmp 183), none, [6, 1, 0, 5, 4, 3, 2]⟩, ⟨some 185, .fieldAddr 57 (.tmp 3) 2, some (184, false), [7, 6, 1, 0, 5, 4, 3, 2]⟩, ⟨some 186, .load 3 (.tmp 185), some (184, false), [8, 7, 6, 1, 0, 5, 4, 3, 2]⟩, ⟨some 187, .move (.tmp 6), some (184, false), [7, 6, 1, 0, 5, 4, 3, 2]⟩, ⟨some 188, .nilCheck (.tmp 187), some (184, false), [10, 7, 6, 1, 0, 5, 4, 3, 2]⟩, ⟨some 189, .load 50 (.tmp 188), some (184, false), [11, 10, 7, 6, 1, 0, 5, 4, 3, 2]⟩, ⟨some 190, .call ⟨.value (.func 19), #[.tmp 189], #[50]⟩, some (184, false), [12, 11, 10, 7, 6, 1, 0, 5, 4, 3, 2]⟩, ⟨some 191, .binOp .gtr 3 (.tmp 186) (.tmp 190) 3, some (184, false), [9, 8, 7, 6, 1, 0, 5, 4, 3, 2, 13, 12, 11, 10]⟩, ⟨some 192, .pick (.tmp 184) (.const (.bool true)) (.tmp 191), none, [7, 6, 1, 0, 5, 4, 3, 2, 14, 9, 8, 13, 12, 11, 10]⟩]) (.cond (.tmp 192) (.reg [⟨some 8, .assign (.const (.int .i64 2)), none, []⟩]) (.seq (.drw 0 [⟨some 193, .move (.tmp 6), none, []⟩, ⟨some 194, .move (.tmp 6), none, []⟩, ⟨some 195, .nilCheck (.tmp 194), none, [1]⟩, ⟨some 196, .fieldAddr 50 (.tmp 195) 1, none, [2, 1]⟩, ⟨some 197, .load 22 (.tmp 196), none, [3, 2, 1]⟩, ⟨some 198, .fieldAddr 57 (.tmp 3) 2, none, []⟩, ⟨some 199, .load 3 (.tmp 198), none, [5]⟩, ⟨some 200, .move (.tmp 6), none, []⟩, ⟨some 201, .nilCheck (.tmp 200), none, [7]⟩, ⟨some 202, .fieldAddr 50 (.tmp 201) 0, none, [8, 7]⟩, ⟨some 203, .load 3 (.tmp 202), none, [9, 8, 7]⟩, ⟨some 204, .binOp .sub 3 (.tmp 199) (.tmp 203) 3, none, [6, 5, 10, 9, 8, 7]⟩, ⟨some 205, .slice 22 (.tmp 197) (some (.tmp 204)) none none, none, [4, 3, 2, 1, 11, 6, 5, 10, 9, 8, 7]⟩, ⟨some 206, .nilCheck (.tmp 193), none, [0, 1, 2, 3, 4, 5, 6, 7, 8, 9, 10, 11, 12]⟩, ⟨some 207, .fieldAddr 50 (.tmp 206) 1, none, [13, 0, 1, 2, 3, 4, 5, 6, 7, 8, 9, 10, 11, 12]⟩, ⟨none, .store 22 (.tmp 207) (.tmp 205), none, [14, 13, 0, 1, 2, 3, 4, 5, 6, 7, 8, 9, 10, 11, 12]⟩]) (.seq (.reg [⟨some 208, .move (.tmp 6), none, []⟩, ⟨some 209, .fieldAddr 57 (.tmp 3) 2, none, []⟩, ⟨some 210, .load 3 (.tmp 209), none, []⟩, ⟨some 211, .nilCheck (.tmp 208), none, []⟩, ⟨some 212, .fieldAddr 50 (.tmp 211) 0, none, []⟩, ⟨none, .store 3 (.tmp 212) (.tmp 210), none, []⟩]) (.seq (.drw 0 [⟨some 213, .move (.tmp 6), none, []⟩, ⟨some 214, .nilCheck (.tmp 213), none, [0]⟩, ⟨some 215, .fieldAddr 50 (.tmp 214) 3, none, [1, 0]⟩, ⟨some 216, .load 3 (.tmp 215), none, [2, 1, 0]⟩, ⟨some 217, .binOp .geq 3 (.tmp 216) (.const (.int .i64 0)) 3, none, [3, 2, 1, 0]⟩, ⟨some 218, .move (.tmp 217), none, [4, 3, 2, 1, 0]⟩, ⟨some 219, .move (.tmp 6), some (218, true), [5, 4, 3, 2, 1, 0]⟩, ⟨some 220, .nilCheck (.tmp 219), some (218, true), [6, 5, 4, 3, 2, 1, 0]⟩, ⟨some 221, .fieldAddr 50 (.tmp 220) 3, some (218, true), [7, 6, 5, 4, 3, 2, 1, 0]⟩, ⟨some 222, .load 3 (.tmp 221), some (218, true), [8, 7, 6, 5, 4, 3, 2, 1, 0]⟩, ⟨some 223, .fieldAddr 57 (.tmp 3) 2, some (218, true), [5, 4, 3, 2, 1, 0]⟩, ⟨some 224, .load 3 (.tmp 223), some (218, true), [10, 5, 4, 3, 2, 1, 0]⟩, ⟨some 225, .binOp .lss 3 (.tmp 222) (.tmp 224) 3, some (218, true), [9, 8, 7, 6, 5, 4, 3, 2, 1, 0, 11, 10]⟩, ⟨some 226, .pick (.tmp 218) (.tmp 225) (.const (.bool false)), none, [5, 4, 3, 2, 1, 0, 12, 9, 8, 7, 6, 11, 10]⟩]) (.cond (.tmp 226) (.reg [⟨some 227, .move (.tmp 6), none, []⟩, ⟨some 228, .fieldAddr 57 (.tmp 3) 2, none, []⟩, ⟨some 229, .load 3 (.tmp 228), none, []⟩, ⟨some 230, .nilCheck (.tmp 227), none, []⟩, ⟨some 231, .fieldAddr 50 (.tmp 230) 3, none, []⟩, ⟨none, .store 3 (.tmp 231) (.tmp 229), none, []⟩]) .skip)))))) (.seq (.reg [⟨some 233, .binOp .eql 3 (.tmp 28) (.const (.int .i64 5)) 3, none, []⟩, ⟨some 232, .assign (.tmp 233), none, []⟩]) (.cond (.tmp 232) (.seq (.drw 0 [⟨some 234, .fieldAddr 57 (.tmp 3) 2, none, []⟩, ⟨some 235, .load 3 (.tmp 234), none, [0]⟩, ⟨some 236, .move (.tmp 6), none, []⟩, ⟨some 237, .nilCheck (.tmp 236), none, [2]⟩, ⟨some 238, .fieldAddr 50 (.tmp 237) 0, none, [3, 2]⟩, ⟨some 239, .load 3 (.tmp 238), none, [4, 3, 2]⟩, ⟨some 240, .binOp .lss 3 (.tmp 235) (.tmp 239) 3, none, [1, 0, 5, 4, 3, 2]⟩, ⟨some 241, .move (.tmp 240), none, [6, 1, 0, 5, 4, 3, 2]⟩, ⟨some 242, .fieldAddr 57 (.tmp 3) 2, some (241, false), [7, 6, 1, 0, 5, 4, 3, 2]⟩, ⟨some 243, .load 3 (.tmp 242), some (241, false), [8, 7, 6, 1, 0, 5, 4, 3, 2]⟩, ⟨some 244, .move (.tmp 6), some (241, false), [7, 6, 1, 0, 5, 4, 3, 2]⟩, ⟨some 245, .nilCheck (.tmp 244), some (241, false), [10, 7, 6, 1, 0, 5, 4, 3, 2]⟩, ⟨some 246, .load 50 (.tmp 245), some (241, false), [11, 10, 7, 6, 1, 0, 5, 4, 3, 2]⟩, ⟨some 247, .call ⟨.value (.func 74), #[.tmp 246], #[50]⟩, some (241, false), [12, 11, 10, 7, 6, 1, 0, 5, 4, 3, 2]⟩, ⟨some 248, .binOp .geq 3 (.tmp 243) (.tmp 247) 3, some (241, false), [9, 8, 7, 6, 1, 0, 5, 4, 3, 2, 13, 12, 11, 10]⟩, ⟨some 249, .pick (.tmp 241) (.const (.bool true)) (.tmp 248), none, [7, 6, 1, 0, 5, 4, 3, 2, 14, 9, 8, 13, 12, 11, 10]⟩]) (.cond (.tmp 249) (.reg [⟨some 8, .assign (.const (.int .i64 2)), none, []⟩]) (.seq (.drw 0 [⟨some 250, .move (.tmp 6), none, []⟩, ⟨some 251, .nilCheck (.tmp 250), none, [0]⟩, ⟨some 252, .fieldAddr 50 (.tmp 251) 2, none, [1, 0]⟩, ⟨some 253, .load 48 (.tmp 252), none, [2, 1, 0]⟩, ⟨some 254, .move (.tmp 7), none, []⟩, ⟨some 255, .binOp .sub 3 (.tmp 254) (.const (.int .i64 1)) 3, none, [4]⟩, ⟨some 256, .indexAddr 48 (.tmp 253) (.tmp 255), none, [3, 2, 1, 0, 5, 4]⟩, ⟨some 257, .fieldAddr 88 (.tmp 256) 1, none, [6, 3, 2, 1, 0, 5, 4]⟩, ⟨some 258, .load 3 (.tmp 257), none, [7, 6, 3, 2, 1, 0, 5, 4]⟩, ⟨some 259, .fieldAddr 57 (.tmp 3) 2, none, []⟩, ⟨some 260, .load 3 (.tmp 259), none, [9]⟩, ⟨some 261, .binOp .gtr 3 (.tmp 258) (.tmp 260) 3, none, [8, 7, 6, 3, 2, 1, 0, 5, 4, 10, 9]⟩]) (.cond (.tmp 261) (.reg [⟨some 8, .assign (.const (.int .i64 3)), none, []⟩]) (.reg [⟨some 262, .move (.tmp 6), none, []⟩, ⟨some 263, .fieldAddr 57 (.tmp 3) 2, none, []⟩, ⟨some 264, .load 3 (.tmp 263), none, []⟩, ⟨some 265, .nilCheck (.tmp 262), none, []⟩, ⟨some 266, .fieldAddr 50 (.tmp 265) 3, none, []⟩, ⟨none, .store 3 (.tmp 266) (.tmp 264), none, []⟩]))))) .skip)))))))))))) (.seq (.reg [⟨some 267, .move (.tmp 6), none, []⟩, ⟨some 268, .call ⟨.value (.func 76), #[.tmp 267], #[117]⟩, none, []⟩]) (.seq (.reg [⟨some 269, .move (.tmp 8), none, []⟩, ⟨some 270, .load 39 (.tmp 5), none, []⟩, ⟨some 271, .build 99 #[(0, (.tmp 269)), (1, (.tmp 270))], none, []⟩, ⟨none, .store 99 (.tmp 4) (.tmp 271), none, []⟩]) .ret))))))))
theorem s56 : Tryd.f56.body.bind (stripC 272) = some B56 := by kernel_rfl
theorem specDo_mk {H : Heap} {E : List Nat} {b : Bk} {cs : List Value} (h : RBk H E b cs) (e : Evt) : Mkr Tryd.prog 56 [.agg cs.toArray, vEv e] H fun H' E' v' => ∃ cs', v' = .agg cs'.toArray ∧ RDn H' E' (doB b e) cs' := by
 have h0 := h
 obtain ⟨v, rfl, hv⟩ := h
 have x := hv.one
 have eac := fun L : Heap => specEventOk_ac (H := H ++ L) (RBk.frm.ext h0) e
 refine Mkr.of_bodyS (N := 272) Tryd.func56 s56 (by kernel_rfl) rfl rfl (by simp) ?_; unfold B56
 by_cases q : evOkB b e = true
 case neg =>
  have q' : evOkB b e = false := by simpa using q
  have hd : doB b e = ⟨1, bk0⟩ := by simp [doB, q']
  rw [q'] at eac
  repeat (first | refine sA ?_ | refine sB ?_ | refine sC ?_ | refine sD ?_ | refine sE rfl ?_ | refine sF rfl ?_ | refine sG rfl ?_ | ((first | refine sk_reg fun K hK => ?_ | refine sk_drw mix fun K hK => ?_); simp [x]; (repeat ((first | refine AskX.go (eac _) ?_ | refine AskD.go (eac _) ?_); simp [x])); refine hK _ ?_; clear hK K))
  refine sk_ret ?_; simp
  rw [hd]
  exact ⟨fun i hi => List.getElem?_append_left hi, [], ⟨_, rfl, _, rfl, ⟨by simp [bk0], .inl ⟨.inl rfl, rfl, rfl⟩⟩⟩, ⟨List.nodup_nil, fun i hi => by simp at hi⟩, fun i hi => by simp at hi⟩
 have hd : doB b e = doV b e := by simp [doB, q]
 rw [hd]
 have hok := evOk_book q
 have hev := q
 rw [q] at eac
 obtain ⟨s1, s2, s3, s4⟩ := bookOk_sec hok
 have hlen : ∀ l, l ∈ b.lines → lenOk l := fun l hl => by
  obtain ⟨i, hi, rfl⟩ := List.getElem_of_mem hl
  have := bookOk_ln hok hi
  exact ⟨by have := this.w1; omega, by have := this.n1; omega⟩
 simp only [evOkB, Bool.and_eq_true, decide_eq_true_eq] at hev
 obtain ⟨_, hop, htr, hne⟩ := hev
 simp only [inB, Bool.and_eq_true, decide_eq_true_eq] at hop htr
 have hn10 : 0 ≤ e.n ∧ e.n ≤ 1000000 := by
  by_cases p1 : e.op = 1
  ·rw [if_pos p1] at hne; simp [inB] at hne; omega
  ·rw [if_neg p1] at hne; simpa [inB] using hne
 obtain ⟨k, hk⟩ : ∃ k : Nat, e.train = k := ⟨e.train.toNat, by omega⟩
 have hkl : k < b.lines.length := by omega
 have hlo := bookOk_ln hok hkl
 have hdv := doV_eq hk hkl hlo
 repeat (first | refine sA ?_ | refine sB ?_ | refine sC ?_ | refine sD ?_ | refine sE rfl ?_ | refine sF rfl ?_ | refine sG rfl ?_ | ((first | refine sk_reg fun K hK => ?_ | refine sk_drw mix fun K hK => ?_); simp [x]; (repeat ((first | refine AskX.go (eac _) ?_ | refine AskD.go (eac _) ?_); simp [x])); refine hK _ ?_; clear hK K))
 refine sk_reg fun K hK => ?_; simp [x]
 refine AskX.mkr (l2copy_mk (RBk.frm.gro h0 (by first | exact Gro.refl _ | exact ⟨_, rfl⟩ | exact ⟨_, by simp only [List.append_assoc, List.cons_append, List.nil_append]; rfl⟩ | exact ⟨[], by simp⟩)) (by omega) hlen) ?_; rintro _ J1 A2 ⟨w1, rfl, r2⟩ o2 n2; simp [r2.one, r2.cv]
 refine hK _ ?_; clear hK K
 simp only [List.append_assoc, List.cons_append, List.nil_append, List.length_append, List.length_cons, List.length_nil] at r2 o2 n2
 obtain ⟨W, hW⟩ : ∃ W, W = H.length + (J1.length + 3) := ⟨_, rfl⟩
 have o2l := o2.lt
 simp only [List.length_append, List.length_cons] at o2l
 refine sk_at [(2, pt H.length 0), (3, pt (H.length + 1) 0), (4, pt (H.length + 2) 0), (5, pt W 0)]
  (fun H1 => Gro H H1 ∧ H1[H.length]? = some ⟨39, [.bool b.ok, iv b.sec, v], true, true⟩ ∧ H1[H.length + 1]? = some ⟨57, [iv e.op, iv e.train, iv e.n], true, true⟩ ∧ H1[H.length + 2]? = some ⟨99, [iv 0, .bool false, iv 0, nl], true, true⟩ ∧
   H1[W]? = some ⟨39, [.bool b.ok, iv b.sec, w1], true, true⟩ ∧ RS 4 RLnW H1 A2 w1 b.lines ∧ Own H1 A2 ∧ ∀ e, e ∈ A2 → H.length + 3 ≤ e ∧ e ≠ W) (by simp [subL, getT, hW]) ?_ ?_
 ·generalize hF : H ++ _ = F
  have g2 : ∀ e, e ∈ A2 → F[e]? = J1[e - (H.length + 3)]? := fun e he => by
   have := n2 e he
   have := o2l e he
   rw [← hF, get_t3 _ _ _ _ _ (by omega), List.getElem?_append_left (by omega)]
  have k2 : ∀ e, e ∈ A2 → H.length + 3 ≤ e := fun e he => by have := n2 e he; omega
  refine ⟨by rw [← hF]; exact Gro.one _ _, by rw [← hF]; simp, by rw [← hF]; simp, by rw [← hF]; simp, ?_,
   r2.fr RLnW.frm fun e he _ => (g2 e he).trans (get_t3 _ _ _ _ _ (k2 e he)).symm, o2.fr fun e he => (g2 e he).trans (get_t3 _ _ _ _ _ (k2 e he)).symm, fun e he => ⟨k2 e he, by have := o2l e he; omega⟩⟩
  rw [← hF, hW, get_t3 _ _ _ _ _ (by omega), List.getElem?_append_right (by omega), show H.length + (J1.length + 3) - (H.length + 3) - J1.length = 0 by omega]
  rfl
 clear r2 o2 n2 o2l
 rintro H1 ⟨hg, b0, b1, b2, bw, r2, o2, l2⟩
 have hl1 := hg.len
 have hwlt := lt_of_get bw
 obtain ⟨id, o, Ek, ck, a, z, ty, rfl, hid2, hnid, hsub, hnd, ⟨E1, E2, v1, v2, rfl, rfl, hway, hgrs⟩, _, hal, hbk, hcl⟩ := r2.upd RLnW.frm RLn.frm (fun l hl E cs hr => hr.ln (hlen l hl)) o2 hkl
 have hlast : lastG b.lines[k] = gAt b.lines[k].grs (b.lines[k].grs.length - 1) := rfl
 generalize hln : b.lines[k] = l at *
 have hn0 := hlo.n0
 have hgrs0 := hgrs
 rcases hgrs with ⟨_, hh, _⟩ | ⟨idg, Eg, gcs, rfl, rfl, hgb, hgr⟩
 ·rw [hh] at hn0; simp at hn0
 have hgl : l.grs.length - 1 < l.grs.length := by omega
 have hg0 : 0 < l.grs.length := by omega
 have ggr : RS 2 RGr H1 (idg :: Eg) (sl idg 0 l.grs.length) l.grs := hgrs0.rs (by have := hlo.n1; omega)
 obtain ⟨_, _, hsl, _, f0, f1⟩ := ggr.gr hgl
 simp at hsl
 obtain ⟨rfl, rfl⟩ := hsl
 rw [← gAt_eq hgl, ← hlast] at f0 f1
 obtain ⟨_, _, hsl, _, y0, y1⟩ := ggr.gr hg0
 simp at hsl
 obtain ⟨rfl, rfl⟩ := hsl
 rw [← gAt_eq hg0] at y0 y1
 simp only [Nat.zero_add, Nat.zero_mul] at f0 f1 y0 y1
 have c2 : CF H1 W 2 (sl id o b.lines.length) := CF.of bw rfl rfl
 have w0 : CF H1 W 0 (.bool b.ok) := CF.of bw rfl rfl
 have w1 : CF H1 W 1 (iv b.sec) := CF.of bw rfl rfl
 have e0 : CF H1 (H.length + 1) 0 (iv e.op) := CF.of b1 rfl rfl
 have e1 : CF H1 (H.length + 1) 1 (iv k) := by rw [← hk]; exact CF.of b1 rfl rfl
 have e2 : CF H1 (H.length + 1) 2 (iv e.n) := CF.of b1 rfl rfl
 have t0 : CF H1 H.length 0 (.bool b.ok) := CF.of b0 rfl rfl
 have t1 : CF H1 H.length 1 (iv b.sec) := CF.of b0 rfl rfl
 have t2 : CF H1 H.length 2 v := CF.of b0 rfl rfl
 have m0 : CF H1 id (o + k * 4) (iv l.gone) := CF.of hbk rfl (by have := get_mid (j := 0) (z := z) (m := [iv l.gone, v1, sl idg 0 l.grs.length, iv l.drop]) hal rfl; simpa using this)
 have m1 : CF H1 id (o + k * 4 + 1) v1 := CF.of hbk rfl (by have := get_mid (j := 1) (z := z) (m := [iv l.gone, v1, sl idg 0 l.grs.length, iv l.drop]) hal rfl; simpa using this)
 have m2 : CF H1 id (o + k * 4 + 2) (sl idg 0 l.grs.length) := CF.of hbk rfl (by have := get_mid (j := 2) (z := z) (m := [iv l.gone, v1, sl idg 0 l.grs.length, iv l.drop]) hal rfl; simpa using this)
 have m3 : CF H1 id (o + k * 4 + 3) (iv l.drop) := CF.of hbk rfl (by have := get_mid (j := 3) (z := z) (m := [iv l.gone, v1, sl idg 0 l.grs.length, iv l.drop]) hal rfl; simpa using this)
 have mr := RF.of hbk
 have hwg : IntKind.i64.wrap ((l.grs.length : Int) - 1) = ((l.grs.length - 1 : Nat) : Int) := by rw [wrap_id (by omega) (by have := hlo.n1; omega)]; omega
 refine sk_seq ?_
 refine sk_reg fun K hK => ?_; simp [c2.s, e1.s, hkl]
 refine hK _ ?_; clear hK K
 refine sk_seq ?_
 refine sk_reg fun K hK => ?_; simp [m2.s]
 refine hK _ ?_; clear hK K
 refine sk_seq ?_
 refine sk_reg fun K hK => ?_; simp
 refine hK _ ?_; clear hK K
 refine sk_seq ?_
 refine sk_seq ?_
 refine sk_reg fun K hK => ?_; simp [e0.s]
 refine hK _ ?_; clear hK K
 have hidlt := lt_of_get hbk
 have hid3 := (l2 id hid2).1
 have hidW := (l2 id hid2).2
 have hidH : H.length ≤ id := by omega
 have nidL1 : id ≠ H.length + 1 := by omega
 have gwy : RS 1 RInt H1 E1 v1 l.way := hway.rs (by have := hlo.w1; omega)
 have x1 := gwy.one
 have x1c := gwy.cv
 have x2c := hv.cv
 have htd : totL l = l.gone + l.way.length := rfl
 have q0 := hlo.g0
 have q1 := hlo.t1
 have q2 := hlo.w1
 have q3 := hlo.n1
 have hrch := hlo.reach
 have hrc0 := reachL_nn l.grs
 have htot : IntKind.i64.wrap (l.gone + l.way.length) = totL l := wrap_id (x := l.gone + l.way.length) (by omega) (by omega)
 have ownk : Own H1 (E1 ++ (idg :: Eg)) := ⟨hnd, fun i hi => o2.2 i (hsub i hi)⟩
 have subk : ∀ e, e ∈ E1 ++ (idg :: Eg) → (e ∈ E1 ++ (idg :: Eg) ∨ e ∉ A2) ∧ H.length + 3 ≤ e ∧ e ≠ id ∧ e ≠ W := fun e he => ⟨.inl he, (l2 e (hsub e he)).1, fun hh => hnid (hh ▸ he), (l2 e (hsub e he)).2⟩
 have hbl := o2.lt
 have hW3 : H.length + 3 ≤ W := by omega
 have v1n : v1 ≠ es := by
  rcases hway with ⟨h, _⟩ | ⟨i, _, _, h, _⟩
  ·rw [h]; simp
  ·rw [h]; simp
 obtain ⟨av, cv, hvf⟩ := gwy.form
 -- a line changed in its own cells alone
 have stay : ∀ (u1 u2 : Value) (F : Heap), (∀ i, i ≠ id → F[i]? = H1[i]?) → F[id]? = some ⟨ty, a ++ ([iv (evLn b.lines l e).2.gone, u1, u2, iv (evLn b.lines l e).2.drop] ++ z), true, true⟩ → u1 ≠ es →
   RS 1 RInt H1 E1 u1 (evLn b.lines l e).2.way → RS 2 RGr H1 (idg :: Eg) u2 (evLn b.lines l e).2.grs → ∃ u1 u2 F1 F2, Gro H F ∧ F[H.length + 2]? = some ⟨99, [iv 0, .bool false, iv 0, nl], true, true⟩ ∧ F[W]? = some ⟨39, [.bool b.ok, iv b.sec, sl id o b.lines.length], true, true⟩ ∧
   F[id]? = some ⟨ty, a ++ ([iv (evLn b.lines l e).2.gone, u1, u2, iv (evLn b.lines l e).2.drop] ++ z), true, true⟩ ∧ u1 ≠ es ∧ RS 1 RInt F F1 u1 (evLn b.lines l e).2.way ∧ RS 2 RGr F F2 u2 (evLn b.lines l e).2.grs ∧ Own F (F1 ++ F2) ∧ (∀ e, e ∈ F1 ++ F2 → (e ∈ E1 ++ (idg :: Eg) ∨ e ∉ A2) ∧ H.length + 3 ≤ e ∧ e ≠ id ∧ e ≠ W) ∧
   ∀ e, e ∈ A2 → e ≠ id → e ∉ E1 ++ (idg :: Eg) → F[e]? = H1[e]? := by
  intro u1 u2 F h2 h3 h3' h4 h5
  have hk : ∀ e, e ∈ E1 ++ (idg :: Eg) → F[e]? = H1[e]? := fun e he => h2 e (subk e he).2.2.1
  refine ⟨u1, u2, E1, idg :: Eg, ?_, by rw [h2 _ (by omega)]; exact b2, by rw [h2 _ (Ne.symm hidW)]; exact bw, h3, h3', h4.fr (RP.frm _) fun e he _ => hk e (by simp [he]), h5.fr (RP.frm _) fun e he _ => hk e (List.mem_append_right _ he), ownk.fr hk, subk, fun e _ he _ => h2 e he⟩
  have := lt_of_get h3
  exact Gro.of (by omega) fun i hi => by rw [h2 i (by omega)]; exact hg.same hi
 have stop : ∀ c, evLn b.lines l e = (c, l) → ∃ u1 u2 F1 F2, Gro H H1 ∧ H1[H.length + 2]? = some ⟨99, [iv 0, .bool false, iv 0, nl], true, true⟩ ∧ H1[W]? = some ⟨39, [.bool b.ok, iv b.sec, sl id o b.lines.length], true, true⟩ ∧
   H1[id]? = some ⟨ty, a ++ ([iv (evLn b.lines l e).2.gone, u1, u2, iv (evLn b.lines l e).2.drop] ++ z), true, true⟩ ∧ u1 ≠ es ∧ RS 1 RInt H1 F1 u1 (evLn b.lines l e).2.way ∧ RS 2 RGr H1 F2 u2 (evLn b.lines l e).2.grs ∧ Own H1 (F1 ++ F2) ∧ (∀ e, e ∈ F1 ++ F2 → (e ∈ E1 ++ (idg :: Eg) ∨ e ∉ A2) ∧ H.length + 3 ≤ e ∧ e ≠ id ∧ e ≠ W) ∧
   ∀ e, e ∈ A2 → e ≠ id → e ∉ E1 ++ (idg :: Eg) → H1[e]? = H1[e]? := by
  intro c hc
  exact stay v1 (sl idg 0 l.grs.length) H1 (fun _ _ => rfl) (by rw [hc]; exact hbk) v1n (by rw [hc]; exact gwy) (by rw [hc]; exact ggr)
 refine sk_cut [(4, pt (H.length + 2) 0), (5, pt W 0), (6, pt id (o + k * 4)), (8, iv (evLn b.lines l e).1)] (fun H3 => ∃ u1 u2 F1 F2, Gro H H3 ∧ H3[H.length + 2]? = some ⟨99, [iv 0, .bool false, iv 0, nl], true, true⟩ ∧ H3[W]? = some ⟨39, [.bool b.ok, iv b.sec, sl id o b.lines.length], true, true⟩ ∧
   H3[id]? = some ⟨ty, a ++ ([iv (evLn b.lines l e).2.gone, u1, u2, iv (evLn b.lines l e).2.drop] ++ z), true, true⟩ ∧ u1 ≠ es ∧ RS 1 RInt H3 F1 u1 (evLn b.lines l e).2.way ∧ RS 2 RGr H3 F2 u2 (evLn b.lines l e).2.grs ∧ Own H3 (F1 ++ F2) ∧ (∀ e, e ∈ F1 ++ F2 → (e ∈ E1 ++ (idg :: Eg) ∨ e ∉ A2) ∧ H.length + 3 ≤ e ∧ e ≠ id ∧ e ≠ W) ∧
   ∀ e, e ∈ A2 → e ≠ id → e ∉ E1 ++ (idg :: Eg) → H3[e]? = H1[e]?) ?_ ?_
 ·by_cases p1 : e.op = 1
  ·have p1' := eq_true p1
   have hown := specOwner_ac (RBk.frm.gro h0 hg) e.n
   rw [show ownerB b e.n = ownB b.lines e.n by simp [ownerB, hok]] at hown
   by_cases c1 : 0 ≤ ownB b.lines e.n
   ·have hc : evLn b.lines l e = (2, l) := by simp [evLn, p1, c1]
    repeat (first | refine sA ?_ | refine sB ?_ | refine sC ?_ | refine sD ?_ | refine sE rfl ?_ | refine sF rfl ?_ | refine sG rfl ?_ | ((first | refine sk_reg fun K hK => ?_ | refine sk_drw mix fun K hK => ?_); simp [p1', c1, t0.s, t1.s, t2.s, e2.s, x, x2c]; (repeat ((first | refine AskX.go (hown) ?_ | refine AskD.go (hown) ?_); simp [p1', c1, t0.s, t1.s, t2.s, e2.s, x, x2c])); refine hK _ ?_; clear hK K))
    exact sk_inv ⟨by simp [subL, getT, hc], stop _ hc⟩
   by_cases c2 : l.drop = -1
   case neg =>
    have c2n : 0 ≤ l.drop := hlo.drop c2
    have hc : evLn b.lines l e = (3, l) := by simp [evLn, p1, c1, c2]
    repeat (first | refine sA ?_ | refine sB ?_ | refine sC ?_ | refine sD ?_ | refine sE rfl ?_ | refine sF rfl ?_ | refine sG rfl ?_ | ((first | refine sk_reg fun K hK => ?_ | refine sk_drw mix fun K hK => ?_); simp [p1', c1, c2n, t0.s, t1.s, t2.s, e2.s, m3.s, x, x2c]; (repeat ((first | refine AskX.go (hown) ?_ | refine AskD.go (hown) ?_); simp [p1', c1, c2n, t0.s, t1.s, t2.s, e2.s, m3.s, x, x2c])); refine hK _ ?_; clear hK K))
    exact sk_inv ⟨by simp [subL, getT, hc], stop _ hc⟩
   have c2' : ¬ (0 ≤ l.drop) := by omega
   have m1v := m1
   rw [hvf] at m1v
   rcases Classical.em (l.way.length = 100 ∨ totL l = 1000000) with c3 | c3
   ·have hc : evLn b.lines l e = (4, l) := by simp [evLn, p1, c1, c2, c3]
    by_cases c4 : l.way.length = 100
    ·have c4' := eq_true c4
     have c4i : ((l.way.length : Int) = 100) = True := eq_true (by omega)
     repeat (first | refine sA ?_ | refine sB ?_ | refine sC ?_ | refine sD ?_ | refine sE rfl ?_ | refine sF rfl ?_ | refine sG rfl ?_ | ((first | refine sk_reg fun K hK => ?_ | refine sk_drw mix fun K hK => ?_); simp [p1', c1, c2', c4', c4i, t0.s, t1.s, t2.s, e2.s, m3.s, m1v.s, x, x2c]; (repeat ((first | refine AskX.go (hown) ?_ | refine AskD.go (hown) ?_); simp [p1', c1, c2', c4', c4i, t0.s, t1.s, t2.s, e2.s, m3.s, m1v.s, x, x2c])); refine hK _ ?_; clear hK K))
     exact sk_inv ⟨by simp [subL, getT, hc], stop _ hc⟩
    ·have c5 := eq_true (c3.resolve_left c4)
     have c4i : ¬ ((l.way.length : Int) = 100) := by omega
     repeat (first | refine sA ?_ | refine sB ?_ | refine sC ?_ | refine sD ?_ | refine sE rfl ?_ | refine sF rfl ?_ | refine sG rfl ?_ | ((first | refine sk_reg fun K hK => ?_ | refine sk_drw mix fun K hK => ?_); simp [p1', c1, c2', c4, c4i, c5, htot, t0.s, t1.s, t2.s, e2.s, m0.s, m1v.s, m2.s, m3.s, x, x2c]; (repeat ((first | refine AskX.go (hown) ?_ | refine AskD.go (hown) ?_ | refine AskX.go (l1total_ac ⟨_, _, rfl⟩ rfl) ?_ | refine AskD.go (l1total_ac ⟨_, _, rfl⟩ rfl) ?_); simp [p1', c1, c2', c4, c4i, c5, htot, t0.s, t1.s, t2.s, e2.s, m0.s, m1v.s, m2.s, m3.s, x, x2c])); refine hK _ ?_; clear hK K))
     exact sk_inv ⟨by simp [subL, getT, hc], stop _ hc⟩
   have c4 : ¬ l.way.length = 100 := fun h => c3 (.inl h)
   have c5 : ¬ totL l = 1000000 := fun h => c3 (.inr h)
   have c4i : ¬ ((l.way.length : Int) = 100) := by omega
   have hc : evLn b.lines l e = (0, { l with way := l.way ++ [e.n] }) := by simp [evLn, p1, c1, c2, c3]
   have hone : RS 1 RInt (H1 ++ [⟨3, [iv e.n], true, true⟩]) [H1.length] (sl H1.length 0 1) [e.n] := ⟨by simp, .inr ⟨H1.length, 0, [], 3, true, [], [iv e.n], [], rfl, rfl, by simp, rfl, [], [], [iv e.n], [], rfl, rfl, rfl, ⟨rfl, rfl⟩, rfl, rfl⟩⟩
   have owE1 : Own H1 E1 := ownk.left
   have hE1 : ∀ e, e ∈ E1 → e < H1.length := fun e he => owE1.lt e he
   obtain ⟨k', u1, H3, E', f1', f2, f3, f4, f5, f6, f7⟩ := app_plain (P := Tryd.prog) (t := 22) (e := 3) (sz := 0) (by' := 8) (z := iv 0) (by simp) (by simp) (by simp) (by simp) rfl (g := cInt) (fun _ => rfl) (hway.ext (RP.frm _)) (owE1.ext hE1) hone (by simp; omega) (by simp [maxLen]; omega)
   have nidE : id ∉ E1 := fun hh => hnid (by simp [hh])
   have nWE : ∀ e, e ∈ E1 → H.length + 3 ≤ e ∧ e ≠ W := fun e he => by have := subk e (List.mem_append_left _ he); exact ⟨this.2.1, this.2.2.2⟩
   have g3 : ∀ i, i < H1.length → i ∉ E1 → H3[i]? = H1[i]? := fun i hi hn => by rw [f4 i (by simp; omega) hn, List.getElem?_append_left hi]
   have hid3' : H3[id]? = _ := (g3 id hidlt nidE).trans hbk
   have wr1 : wrO H.length [] k' := fun i hi => .inl (by have := (nWE i (f2 i hi).1).1; omega)
   have lv1 : liveO (H1 ++ [⟨3, [iv e.n], true, true⟩]) k' := fun i hi => (f2 i hi).2
   have n1 : CF H3 id (o + k * 4 + 1) v1 := CF.of hid3' rfl (by have := get_mid (j := 1) (z := z) (m := [iv l.gone, v1, sl idg 0 l.grs.length, iv l.drop]) hal rfl; simpa using this)
   have nr := RF.of hid3'
   have f3' : H1.length + 1 ≤ H3.length := by simpa using f3
   repeat (first | refine sA ?_ | refine sB ?_ | refine sC ?_ | refine sD ?_ | refine sE rfl ?_ | refine sF rfl ?_ | refine sG rfl ?_ | ((first | refine sk_reg fun K hK => ?_ | refine sk_drw mix fun K hK => ?_); simp [p1', c1, c2', c4, c4i, c5, htot, t0.s, t1.s, t2.s, e2.s, m0.s, m1v.s, m2.s, m3.s, x, x2c]; (repeat ((first | refine AskX.go (hown) ?_ | refine AskD.go (hown) ?_ | refine AskX.go (l1total_ac ⟨_, _, rfl⟩ rfl) ?_ | refine AskD.go (l1total_ac ⟨_, _, rfl⟩ rfl) ?_); simp [p1', c1, c2', c4, c4i, c5, htot, t0.s, t1.s, t2.s, e2.s, m0.s, m1v.s, m2.s, m3.s, x, x2c])); refine hK _ ?_; clear hK K))
   refine sk_drw mix fun K hK => ?_; simp [m1.s, e2.s, f1', wr1, lv1, f3', n1.s, nr.s, f5.one, f5.cv, hl1, hidH]
   refine hK _ ?_; clear hK K
   repeat (first | refine sA ?_ | refine sB ?_ | refine sC ?_ | refine sD ?_ | refine sE rfl ?_ | refine sF rfl ?_ | refine sG rfl ?_ | ((first | refine sk_reg fun K hK => ?_ | refine sk_drw mix fun K hK => ?_); simp; refine hK _ ?_; clear hK K))
   have g4 : ∀ i, i ≠ id → (H3.put id (o + k * 4 + 1) u1)[i]? = H3[i]? := fun i hi => get_put_ne _ _ _ hi
   have hidF : (H3.put id (o + k * 4 + 1) u1)[id]? = some ⟨ty, a ++ ([iv l.gone, u1, sl idg 0 l.grs.length, iv l.drop] ++ z), true, true⟩ := by
    rw [get_put, hid3']
    simp only [Option.map_some]
    rw [set_mid hal (by simp)]; rfl
   have hE'n : ∀ e, e ∈ E' → (e ∈ E1 ∨ e = H1.length + 1) := fun e he => by rcases f7 e he with h | h; exact .inl h; right; simpa using h
   have hE'i : ∀ e, e ∈ E' → e ≠ id := fun e he hh => by rcases hE'n e he with h | h; exact nidE (hh ▸ h); omega
   have hkg : ∀ e, e ∈ (idg :: Eg) → (H3.put id (o + k * 4 + 1) u1)[e]? = H1[e]? := fun e he => by
    have h1 := subk e (List.mem_append_right _ he)
    rw [g4 e h1.2.2.1, g3 e (ownk.right.lt e he) (fun hh => (List.nodup_append.1 ownk.1).2.2 e hh e he rfl)]
   have gro3 : Gro H (H3.put id (o + k * 4 + 1) u1) := Gro.of (by rw [length_put]; omega) fun i hi => by
    rw [g4 i (by omega), g3 i (by omega) fun hh => by have := (nWE i hh).1; omega]; exact hg.same hi
   have u1n : u1 ≠ es := by
    rcases f5 with ⟨h, _⟩ | ⟨_, _, _, h, _⟩ <;> rw [h] <;> simp
   refine sk_inv ⟨by simp [subL, getT, hc], u1, sl idg 0 l.grs.length, E', idg :: Eg, gro3, ?_, ?_, by rw [hc]; exact hidF, u1n, ?_, by rw [hc]; exact ggr.fr (RP.frm _) fun e he _ => hkg e he, ?_, ?_, ?_⟩
   ·rw [g4 _ (by omega), g3 _ (lt_of_get b2) fun hh => by have := (nWE _ hh).1; omega]; exact b2
   ·rw [g4 _ (Ne.symm hidW), g3 _ hwlt fun hh => (nWE _ hh).2 rfl]; exact bw
   ·rw [hc]; exact (f5.rs (by simp; omega)).fr (RP.frm _) fun e he _ => g4 e (hE'i e he)
   ·refine (f6.fr fun e he => g4 e (hE'i e he)).app (ownk.right.fr hkg) fun e h1 h2 => ?_
    rcases hE'n e h1 with h | h
    ·exact (List.nodup_append.1 ownk.1).2.2 e h e h2 rfl
    ·have := ownk.right.lt e h2; omega
   ·intro e he
    rcases List.mem_append.1 he with he | he
    ·rcases hE'n e he with h | h
     ·exact subk e (List.mem_append_left _ h)
     ·exact ⟨.inr fun hh => by have := hbl e hh; omega, by omega, hE'i e he, by omega⟩
    ·exact subk e (List.mem_append_right _ he)
   ·intro e h1 h2 h3
    rw [g4 e h2, g3 e (hbl e h1) fun hh => h3 (List.mem_append_left _ hh)]
  by_cases p2 : e.op = 2
  ·have p2' := eq_true p2
   have m1v := m1
   rw [hvf] at m1v
   by_cases c1 : e.n < l.gone
   ·have hc : evLn b.lines l e = (2, l) := by simp [evLn, p2, c1]
    repeat (first | refine sA ?_ | refine sB ?_ | refine sC ?_ | refine sD ?_ | refine sE rfl ?_ | refine sF rfl ?_ | refine sG rfl ?_ | ((first | refine sk_reg fun K hK => ?_ | refine sk_drw mix fun K hK => ?_); simp [p1, p2', c1, e2.s, m0.s, m1v.s, m2.s, m3.s]; (repeat ((first | refine AskX.go (l1total_ac ⟨_, _, rfl⟩ rfl) ?_ | refine AskD.go (l1total_ac ⟨_, _, rfl⟩ rfl) ?_); simp [p1, p2', c1, e2.s, m0.s, m1v.s, m2.s, m3.s])); refine hK _ ?_; clear hK K))
    exact sk_inv ⟨by simp [subL, getT, hc], stop _ hc⟩
   by_cases c2 : totL l < e.n
   ·have hc : evLn b.lines l e = (2, l) := by simp [evLn, p2, c2]
    repeat (first | refine sA ?_ | refine sB ?_ | refine sC ?_ | refine sD ?_ | refine sE rfl ?_ | refine sF rfl ?_ | refine sG rfl ?_ | ((first | refine sk_reg fun K hK => ?_ | refine sk_drw mix fun K hK => ?_); simp [p1, p2', c1, c2, htot, e2.s, m0.s, m1v.s, m2.s, m3.s]; (repeat ((first | refine AskX.go (l1total_ac ⟨_, _, rfl⟩ rfl) ?_ | refine AskD.go (l1total_ac ⟨_, _, rfl⟩ rfl) ?_); simp [p1, p2', c1, c2, htot, e2.s, m0.s, m1v.s, m2.s, m3.s])); refine hK _ ?_; clear hK K))
    exact sk_inv ⟨by simp [subL, getT, hc], stop _ hc⟩
   by_cases c3 : 0 ≤ l.drop ∧ l.drop < e.n
   ·have c4 := c3.1
    have c5 := c3.2
    have hc : evLn b.lines l e = (2, l) := by
     have : l.drop ≠ -1 := by omega
     simp [evLn, p2, this, c5]
    repeat (first | refine sA ?_ | refine sB ?_ | refine sC ?_ | refine sD ?_ | refine sE rfl ?_ | refine sF rfl ?_ | refine sG rfl ?_ | ((first | refine sk_reg fun K hK => ?_ | refine sk_drw mix fun K hK => ?_); simp [p1, p2', c1, c2, c4, c5, htot, e2.s, m0.s, m1v.s, m2.s, m3.s]; (repeat ((first | refine AskX.go (l1total_ac ⟨_, _, rfl⟩ rfl) ?_ | refine AskD.go (l1total_ac ⟨_, _, rfl⟩ rfl) ?_); simp [p1, p2', c1, c2, c4, c5, htot, e2.s, m0.s, m1v.s, m2.s, m3.s])); refine hK _ ?_; clear hK K))
    exact sk_inv ⟨by simp [subL, getT, hc], stop _ hc⟩
   have hdd : l.drop = -1 ∨ 0 ≤ l.drop := by
    by_cases h : l.drop = -1
    ·exact .inl h
    ·exact .inr (hlo.drop h)
   have c0 : ¬ (e.n < l.gone ∨ totL l < e.n ∨ (l.drop ≠ -1 ∧ l.drop < e.n)) := by omega
   have c3' : (¬ 0 ≤ l.drop) ∨ (0 ≤ l.drop ∧ ¬ l.drop < e.n) := by omega
   have hlG : lastG l = l.grs[l.grs.length - 1] := by rw [hlast, gAt_eq hgl]
   have hlg := hlo.gs (l.grs.length - 1) hgl
   rw [← hlG] at hlg
   by_cases c6 : l.grs.length = 20
   ·have c6i : ((l.grs.length : Int) = 20) = True := eq_true (by omega)
    have c6n := eq_true c6
    have hc : evLn b.lines l e = (4, l) := by simp only [evLn, p2, if_neg c0, if_pos (Or.inl c6)]; simp
    rcases c3' with c4 | ⟨c4, c5⟩
    ·repeat (first | refine sA ?_ | refine sB ?_ | refine sC ?_ | refine sD ?_ | refine sE rfl ?_ | refine sF rfl ?_ | refine sG rfl ?_ | ((first | refine sk_reg fun K hK => ?_ | refine sk_drw mix fun K hK => ?_); simp [p1, p2', c1, c2, c4, c6i, c6n, htot, e2.s, m0.s, m1v.s, m2.s, m3.s]; (repeat ((first | refine AskX.go (l1total_ac ⟨_, _, rfl⟩ rfl) ?_ | refine AskD.go (l1total_ac ⟨_, _, rfl⟩ rfl) ?_); simp [p1, p2', c1, c2, c4, c6i, c6n, htot, e2.s, m0.s, m1v.s, m2.s, m3.s])); refine hK _ ?_; clear hK K))
     exact sk_inv ⟨by simp [subL, getT, hc], stop _ hc⟩
    ·repeat (first | refine sA ?_ | refine sB ?_ | refine sC ?_ | refine sD ?_ | refine sE rfl ?_ | refine sF rfl ?_ | refine sG rfl ?_ | ((first | refine sk_reg fun K hK => ?_ | refine sk_drw mix fun K hK => ?_); simp [p1, p2', c1, c2, c4, c5, c6i, c6n, htot, e2.s, m0.s, m1v.s, m2.s, m3.s]; (repeat ((first | refine AskX.go (l1total_ac ⟨_, _, rfl⟩ rfl) ?_ | refine AskD.go (l1total_ac ⟨_, _, rfl⟩ rfl) ?_); simp [p1, p2', c1, c2, c4, c5, c6i, c6n, htot, e2.s, m0.s, m1v.s, m2.s, m3.s])); refine hK _ ?_; clear hK K))
     exact sk_inv ⟨by simp [subL, getT, hc], stop _ hc⟩
   have c6i : ¬ ((l.grs.length : Int) = 20) := by omega
   by_cases c7 : (lastG l).ver = 1000000
   ·have c7' := eq_true c7
    have hc : evLn b.lines l e = (4, l) := by simp only [evLn, p2, if_neg c0, if_pos (Or.inr c7)]; simp
    rcases c3' with c4 | ⟨c4, c5⟩
    ·repeat (first | refine sA ?_ | refine sB ?_ | refine sC ?_ | refine sD ?_ | refine sE rfl ?_ | refine sF rfl ?_ | refine sG rfl ?_ | ((first | refine sk_reg fun K hK => ?_ | refine sk_drw mix fun K hK => ?_); simp [p1, p2', c1, c2, c4, c6i, c6, c7', hwg, hgl, f0.s, htot, e2.s, m0.s, m1v.s, m2.s, m3.s]; (repeat ((first | refine AskX.go (l1total_ac ⟨_, _, rfl⟩ rfl) ?_ | refine AskD.go (l1total_ac ⟨_, _, rfl⟩ rfl) ?_); simp [p1, p2', c1, c2, c4, c6i, c6, c7', hwg, hgl, f0.s, htot, e2.s, m0.s, m1v.s, m2.s, m3.s])); refine hK _ ?_; clear hK K))
     exact sk_inv ⟨by simp [subL, getT, hc], stop _ hc⟩
    ·repeat (first | refine sA ?_ | refine sB ?_ | refine sC ?_ | refine sD ?_ | refine sE rfl ?_ | refine sF rfl ?_ | refine sG rfl ?_ | ((first | refine sk_reg fun K hK => ?_ | refine sk_drw mix fun K hK => ?_); simp [p1, p2', c1, c2, c4, c5, c6i, c6, c7', hwg, hgl, f0.s, htot, e2.s, m0.s, m1v.s, m2.s, m3.s]; (repeat ((first | refine AskX.go (l1total_ac ⟨_, _, rfl⟩ rfl) ?_ | refine AskD.go (l1total_ac ⟨_, _, rfl⟩ rfl) ?_); simp [p1, p2', c1, c2, c4, c5, c6i, c6, c7', hwg, hgl, f0.s, htot, e2.s, m0.s, m1v.s, m2.s, m3.s])); refine hK _ ?_; clear hK K))
     exact sk_inv ⟨by simp [subL, getT, hc], stop _ hc⟩
   have hc : evLn b.lines l e = (0, { l with grs := l.grs ++ [⟨(lastG l).ver + 1, e.n⟩] }) := by
    simp only [evLn, p2, if_neg c0, if_neg (show ¬ (l.grs.length = 20 ∨ (lastG l).ver = 1000000) by simp [c6, c7])]; simp
   have hwv := wrap_id (x := (lastG l).ver + 1) (by omega) (by omega)
   have hone : RS 2 RGr (H1 ++ [⟨88, [iv ((lastG l).ver + 1), iv e.n], true, true⟩]) [H1.length] (sl H1.length 0 1) [⟨(lastG l).ver + 1, e.n⟩] := ⟨by simp, .inr ⟨H1.length, 0, [], 88, true, [], [iv ((lastG l).ver + 1), iv e.n], [], rfl, rfl, by simp, rfl, [], [], [iv ((lastG l).ver + 1), iv e.n], [], rfl, rfl, rfl, ⟨rfl, rfl⟩, rfl, rfl⟩⟩
   have owE2 : Own H1 (idg :: Eg) := ownk.right
   have hE2 : ∀ e, e ∈ idg :: Eg → e < H1.length := fun e he => owE2.lt e he
   obtain ⟨k', u2, H3, E', f1', f2, f3, f4, f5, f6, f7⟩ := app_plain (P := Tryd.prog) (t := 48) (e := 88) (sz := 1) (by' := 16) (z := .agg #[iv 0, iv 0]) (by simp) (by simp) (by simp) (by simp) rfl (g := cGr) (fun _ => rfl) (hgrs0.ext (RP.frm _)) (owE2.ext hE2) hone (by simp; omega) (by simp [maxLen]; omega)
   have nidE : id ∉ idg :: Eg := fun hh => hnid (List.mem_append_right _ hh)
   have nWE : ∀ e, e ∈ idg :: Eg → H.length + 3 ≤ e ∧ e ≠ W := fun e he => by have := subk e (List.mem_append_right _ he); exact ⟨this.2.1, this.2.2.2⟩
   have g3 : ∀ i, i < H1.length → i ∉ idg :: Eg → H3[i]? = H1[i]? := fun i hi hn => by rw [f4 i (by simp; omega) hn, List.getElem?_append_left hi]
   have hid3' : H3[id]? = _ := (g3 id hidlt nidE).trans hbk
   have wr1 : wrO H.length [] k' := fun i hi => .inl (by have := (nWE i (f2 i hi).1).1; omega)
   have lv1 : liveO (H1 ++ [⟨88, [iv ((lastG l).ver + 1), iv e.n], true, true⟩]) k' := fun i hi => (f2 i hi).2
   have n2 : CF H3 id (o + k * 4 + 2) (sl idg 0 l.grs.length) := CF.of hid3' rfl (by have := get_mid (j := 2) (z := z) (m := [iv l.gone, v1, sl idg 0 l.grs.length, iv l.drop]) hal rfl; simpa using this)
   have nr := RF.of hid3'
   have f3' : H1.length + 1 ≤ H3.length := by simpa using f3
   have g4 : ∀ i, i ≠ id → (H3.put id (o + k * 4 + 2) u2)[i]? = H3[i]? := fun i hi => get_put_ne _ _ _ hi
   have hidF : (H3.put id (o + k * 4 + 2) u2)[id]? = some ⟨ty, a ++ ([iv l.gone, v1, u2, iv l.drop] ++ z), true, true⟩ := by
    rw [get_put, hid3']
    simp only [Option.map_some]
    rw [set_mid hal (by simp)]; rfl
   have hE'n : ∀ e, e ∈ E' → (e ∈ idg :: Eg ∨ e = H1.length + 1) := fun e he => by rcases f7 e he with h | h; exact .inl h; right; simpa using h
   have hE'i : ∀ e, e ∈ E' → e ≠ id := fun e he hh => by rcases hE'n e he with h | h; exact nidE (hh ▸ h); omega
   have hkg : ∀ e, e ∈ E1 → (H3.put id (o + k * 4 + 2) u2)[e]? = H1[e]? := fun e he => by
    have h1 := subk e (List.mem_append_left _ he)
    rw [g4 e h1.2.2.1, g3 e (ownk.left.lt e he) (fun hh => (List.nodup_append.1 ownk.1).2.2 e he e hh rfl)]
   have gro3 : Gro H (H3.put id (o + k * 4 + 2) u2) := Gro.of (by rw [length_put]; omega) fun i hi => by
    rw [g4 i (by omega), g3 i (by omega) fun hh => by have := (nWE i hh).1; omega]; exact hg.same hi
   generalize hFF : H3.put id (o + k * 4 + 2) u2 = F at g4 hidF hkg gro3
   have done2 : ∃ u1 u2 F1 F2, Gro H F ∧ F[H.length + 2]? = some ⟨99, [iv 0, .bool false, iv 0, nl], true, true⟩ ∧ F[W]? = some ⟨39, [.bool b.ok, iv b.sec, sl id o b.lines.length], true, true⟩ ∧
   F[id]? = some ⟨ty, a ++ ([iv (evLn b.lines l e).2.gone, u1, u2, iv (evLn b.lines l e).2.drop] ++ z), true, true⟩ ∧ u1 ≠ es ∧ RS 1 RInt F F1 u1 (evLn b.lines l e).2.way ∧ RS 2 RGr F F2 u2 (evLn b.lines l e).2.grs ∧ Own F (F1 ++ F2) ∧ (∀ e, e ∈ F1 ++ F2 → (e ∈ E1 ++ (idg :: Eg) ∨ e ∉ A2) ∧ H.length + 3 ≤ e ∧ e ≠ id ∧ e ≠ W) ∧
   ∀ e, e ∈ A2 → e ≠ id → e ∉ E1 ++ (idg :: Eg) → F[e]? = H1[e]? := by
    refine ⟨v1, u2, E1, E', gro3, ?_, ?_, by rw [hc]; exact hidF, v1n, by rw [hc]; exact gwy.fr (RP.frm _) fun e he _ => hkg e he, ?_, ?_, ?_, ?_⟩
    ·rw [g4 _ (by omega), g3 _ (lt_of_get b2) fun hh => by have := (nWE _ hh).1; omega]; exact b2
    ·rw [g4 _ (Ne.symm hidW), g3 _ hwlt fun hh => (nWE _ hh).2 rfl]; exact bw
    ·rw [hc]; exact (f5.rs (by simp; omega)).fr (RP.frm _) fun e he _ => g4 e (hE'i e he)
    ·refine (ownk.left.fr hkg).app (f6.fr fun e he => g4 e (hE'i e he)) fun e h1 h2 => ?_
     rcases hE'n e h2 with h | h
     ·exact (List.nodup_append.1 ownk.1).2.2 e h1 e h rfl
     ·have := ownk.left.lt e h1; omega
    ·intro e he
     rcases List.mem_append.1 he with he | he
     ·exact subk e (List.mem_append_left _ he)
     ·rcases hE'n e he with h | h
      ·exact subk e (List.mem_append_right _ h)
      ·exact ⟨.inr fun hh => by have := hbl e hh; omega, by omega, hE'i e he, by omega⟩
    ·intro e h1 h2 h3
     rw [g4 e h2, g3 e (hbl e h1) fun hh => h3 (List.mem_append_right _ hh)]
   rcases c3' with c4 | ⟨c4, c5⟩
   ·repeat (first | refine sA ?_ | refine sB ?_ | refine sC ?_ | refine sD ?_ | refine sE rfl ?_ | refine sF rfl ?_ | refine sG rfl ?_ | ((first | refine sk_reg fun K hK => ?_ | refine sk_drw mix fun K hK => ?_); simp [p1, p2', c1, c2, c4, c6i, c6, c7, hwg, hgl, f0.s, htot, e2.s, m0.s, m1v.s, m2.s, m3.s]; (repeat ((first | refine AskX.go (l1total_ac ⟨_, _, rfl⟩ rfl) ?_ | refine AskD.go (l1total_ac ⟨_, _, rfl⟩ rfl) ?_); simp [p1, p2', c1, c2, c4, c6i, c6, c7, hwg, hgl, f0.s, htot, e2.s, m0.s, m1v.s, m2.s, m3.s])); refine hK _ ?_; clear hK K))
    refine sk_drw mix fun K hK => ?_; simp [m2.s, e2.s, hwg, hgl, f0.s, hwv, f1', wr1, lv1, f3', n2.s, nr.s, f5.one, f5.cv, hl1, hidH]
    refine hK _ ?_; clear hK K
    repeat (first | refine sA ?_ | refine sB ?_ | refine sC ?_ | refine sD ?_ | refine sE rfl ?_ | refine sF rfl ?_ | refine sG rfl ?_ | ((first | refine sk_reg fun K hK => ?_ | refine sk_drw mix fun K hK => ?_); simp; refine hK _ ?_; clear hK K))
    rw [hFF]
    exact sk_inv ⟨by simp [subL, getT, hc], done2⟩
   ·repeat (first | refine sA ?_ | refine sB ?_ | refine sC ?_ | refine sD ?_ | refine sE rfl ?_ | refine sF rfl ?_ | refine sG rfl ?_ | ((first | refine sk_reg fun K hK => ?_ | refine sk_drw mix fun K hK => ?_); simp [p1, p2', c1, c2, c4, c5, c6i, c6, c7, hwg, hgl, f0.s, htot, e2.s, m0.s, m1v.s, m2.s, m3.s]; (repeat ((first | refine AskX.go (l1total_ac ⟨_, _, rfl⟩ rfl) ?_ | refine AskD.go (l1total_ac ⟨_, _, rfl⟩ rfl) ?_); simp [p1, p2', c1, c2, c4, c5, c6i, c6, c7, hwg, hgl, f0.s, htot, e2.s, m0.s, m1v.s, m2.s, m3.s])); refine hK _ ?_; clear hK K))
    refine sk_drw mix fun K hK => ?_; simp [m2.s, e2.s, hwg, hgl, f0.s, hwv, f1', wr1, lv1, f3', n2.s, nr.s, f5.one, f5.cv, hl1, hidH]
    refine hK _ ?_; clear hK K
    repeat (first | refine sA ?_ | refine sB ?_ | refine sC ?_ | refine sD ?_ | refine sE rfl ?_ | refine sF rfl ?_ | refine sG rfl ?_ | ((first | refine sk_reg fun K hK => ?_ | refine sk_drw mix fun K hK => ?_); simp; refine hK _ ?_; clear hK K))
    rw [hFF]
    exact sk_inv ⟨by simp [subL, getT, hc], done2⟩
  by_cases p3 : e.op = 3
  ·have p3' := eq_true p3
   have hv0 := hlo.gs 0 hg0
   rw [← gAt_eq hg0] at hv0
   have hwi := wrap_id (x := e.n - (gAt l.grs 0).ver) (by omega) (by omega)
   have hfd := hlo.find e.n
   by_cases c1 : e.n - (gAt l.grs 0).ver < 0
   ·have hc : evLn b.lines l e = (2, l) := by
     rw [if_neg (by omega)] at hfd
     simp [evLn, p1, p2, p3, hfd]
    repeat (first | refine sA ?_ | refine sB ?_ | refine sC ?_ | refine sD ?_ | refine sE rfl ?_ | refine sF rfl ?_ | refine sG rfl ?_ | ((first | refine sk_reg fun K hK => ?_ | refine sk_drw mix fun K hK => ?_); simp [p1, p2, p3', c1, hwi, e2.s, m2.s, y0.s, hg0]; refine hK _ ?_; clear hK K))
    exact sk_inv ⟨by simp [subL, getT, hc], stop _ hc⟩
   by_cases c2 : (l.grs.length : Int) ≤ e.n - (gAt l.grs 0).ver
   ·have hc : evLn b.lines l e = (2, l) := by
     rw [if_neg (by omega)] at hfd
     simp [evLn, p1, p2, p3, hfd]
    repeat (first | refine sA ?_ | refine sB ?_ | refine sC ?_ | refine sD ?_ | refine sE rfl ?_ | refine sF rfl ?_ | refine sG rfl ?_ | ((first | refine sk_reg fun K hK => ?_ | refine sk_drw mix fun K hK => ?_); simp [p1, p2, p3', c1, c2, hwi, e2.s, m2.s, y0.s, hg0]; refine hK _ ?_; clear hK K))
    exact sk_inv ⟨by simp [subL, getT, hc], stop _ hc⟩
   obtain ⟨i, hi⟩ : ∃ i : Nat, e.n - (gAt l.grs 0).ver = i := ⟨(e.n - (gAt l.grs 0).ver).toNat, by omega⟩
   rw [if_pos (by omega), hi] at hfd
   rw [hi] at hwi
   have c1' : ¬ ((i : Int) < 0) := by omega
   have c2' : ¬ (l.grs.length ≤ i) := by omega
   have hil' : i ≤ l.grs.length := by omega
   have gdr : RS 2 RGr H1 (idg :: Eg) (sl idg (0 + i * 2) (l.grs.length - i)) (l.grs.drop i) := ggr.drop (k := i) (by omega)
   rw [Nat.zero_add] at gdr
   by_cases c3 : reachL (l.grs.drop i) < l.gone
   ·have hc : evLn b.lines l e = (3, l) := by simp [evLn, p1, p2, p3, hfd, c1', c3]
    repeat (first | refine sA ?_ | refine sB ?_ | refine sC ?_ | refine sD ?_ | refine sE rfl ?_ | refine sF rfl ?_ | refine sG rfl ?_ | ((first | refine sk_reg fun K hK => ?_ | refine sk_drw mix fun K hK => ?_); simp [p1, p2, p3', c1', c2', c3, hi, hwi, hil', e2.s, m0.s, m2.s, y0.s, hg0]; (repeat ((first | refine AskX.go (l2later_ac gdr) ?_ | refine AskD.go (l2later_ac gdr) ?_); simp [p1, p2, p3', c1', c2', c3, hi, hwi, hil', e2.s, m0.s, m2.s, y0.s, hg0])); refine hK _ ?_; clear hK K))
    exact sk_inv ⟨by simp [subL, getT, hc], stop _ hc⟩
   ·have hc : evLn b.lines l e = (0, { l with grs := l.grs.drop i }) := by simp [evLn, p1, p2, p3, hfd, c1', c3]
    repeat (first | refine sA ?_ | refine sB ?_ | refine sC ?_ | refine sD ?_ | refine sE rfl ?_ | refine sF rfl ?_ | refine sG rfl ?_ | ((first | refine sk_reg fun K hK => ?_ | refine sk_drw mix fun K hK => ?_); simp [p1, p2, p3', c1', c2', c3, hi, hwi, hil', e2.s, m0.s, m2.s, mr.s, y0.s, hg0, hl1, hidH]; (repeat ((first | refine AskX.go (l2later_ac gdr) ?_ | refine AskD.go (l2later_ac gdr) ?_); simp [p1, p2, p3', c1', c2', c3, hi, hwi, hil', e2.s, m0.s, m2.s, mr.s, y0.s, hg0, hl1, hidH])); refine hK _ ?_; clear hK K))
    refine sk_inv ⟨by simp [subL, getT, hc], stay v1 (sl idg (i * 2) (l.grs.length - i)) _ (fun i hi => get_put_ne _ _ _ hi) ?_ v1n (by rw [hc]; exact gwy) (by rw [hc]; exact gdr)⟩
    rw [get_put, hbk, hc]
    simp only [Option.map_some]
    rw [set_mid hal (by simp)]; rfl
  by_cases p4 : e.op = 4
  ·have p4' := eq_true p4
   by_cases c1 : e.n < l.gone
   ·have hc : evLn b.lines l e = (2, l) := by simp [evLn, p1, p2, p3, p4, c1]
    repeat (first | refine sA ?_ | refine sB ?_ | refine sC ?_ | refine sD ?_ | refine sE rfl ?_ | refine sF rfl ?_ | refine sG rfl ?_ | ((first | refine sk_reg fun K hK => ?_ | refine sk_drw mix fun K hK => ?_); simp [p1, p2, p3, p4', c1, x1, x1c, e2.s, m0.s, m1.s, m2.s, m3.s]; (repeat ((first | refine AskX.go (l1most_ac ⟨_, _, _, hvf⟩ ggr) ?_ | refine AskD.go (l1most_ac ⟨_, _, _, hvf⟩ ggr) ?_); simp [p1, p2, p3, p4', c1, x1, x1c, e2.s, m0.s, m1.s, m2.s, m3.s])); refine hK _ ?_; clear hK K))
    exact sk_inv ⟨by simp [subL, getT, hc], stop _ hc⟩
   by_cases c2 : reachL l.grs < e.n
   ·have hc : evLn b.lines l e = (2, l) := by simp [evLn, p1, p2, p3, p4, c2]
    repeat (first | refine sA ?_ | refine sB ?_ | refine sC ?_ | refine sD ?_ | refine sE rfl ?_ | refine sF rfl ?_ | refine sG rfl ?_ | ((first | refine sk_reg fun K hK => ?_ | refine sk_drw mix fun K hK => ?_); simp [p1, p2, p3, p4', c1, c2, x1, x1c, e2.s, m0.s, m1.s, m2.s, m3.s]; (repeat ((first | refine AskX.go (l1most_ac ⟨_, _, _, hvf⟩ ggr) ?_ | refine AskD.go (l1most_ac ⟨_, _, _, hvf⟩ ggr) ?_); simp [p1, p2, p3, p4', c1, c2, x1, x1c, e2.s, m0.s, m1.s, m2.s, m3.s])); refine hK _ ?_; clear hK K))
    exact sk_inv ⟨by simp [subL, getT, hc], stop _ hc⟩
   obtain ⟨m, hm⟩ : ∃ m : Nat, e.n - l.gone = m := ⟨(e.n - l.gone).toNat, by omega⟩
   have hmw : m ≤ l.way.length := by omega
   have hwr : IntKind.i64.wrap (e.n - l.gone) = (m : Int) := by rw [wrap_id (by omega) (by omega)]; exact hm
   obtain ⟨u1, hsl, u1n, hu1, u1o, u1c⟩ := drop_sl gwy v1n hmw
   have nm : ∀ x : Value, ((H1.put id (o + k * 4 + 1) u1).put id (o + k * 4) x)[id]? = some ⟨ty, a ++ ([x, u1, sl idg 0 l.grs.length, iv l.drop] ++ z), true, true⟩ := fun x => by
    rw [get_put, get_put, hbk]
    simp only [Option.map_some]
    rw [set_mid hal (by simp), show o + k * 4 = o + k * 4 + 0 from rfl, set_mid hal (by simp)]; rfl
   have nm3 : CF ((H1.put id (o + k * 4 + 1) u1).put id (o + k * 4) (iv e.n)) id (o + k * 4 + 3) (iv l.drop) := CF.of (nm _) rfl (by have := get_mid (j := 3) (z := z) (m := [iv e.n, u1, sl idg 0 l.grs.length, iv l.drop]) hal rfl; simpa using this)
   have nmr := RF.of (nm (iv e.n))
   have nf : ∀ (x : Value) i, i ≠ id → ((H1.put id (o + k * 4 + 1) u1).put id (o + k * 4) x)[i]? = H1[i]? := fun x i hi => by rw [get_put_ne _ _ _ hi, get_put_ne _ _ _ hi]
   have c0 : ¬ (e.n < l.gone ∨ reachL l.grs < e.n) := by omega
   by_cases c3 : l.drop = -1
   ·have c3' : ¬ (0 ≤ l.drop) := by omega
    have hc : evLn b.lines l e = (0, { l with way := l.way.drop m, gone := e.n }) := by
     simp only [evLn, if_neg p1, if_neg p2, if_neg p3, if_pos p4, if_neg c0, hm, Int.toNat_natCast]
     simp [c3]
    repeat (first | refine sA ?_ | refine sB ?_ | refine sC ?_ | refine sD ?_ | refine sE rfl ?_ | refine sF rfl ?_ | refine sG rfl ?_ | ((first | refine sk_reg fun K hK => ?_ | refine sk_drw mix fun K hK => ?_); simp [p1, p2, p3, p4', c1, c2, c3', -sliceA, hsl, hwr, u1o, u1c, nidL1, Ne.symm nidL1, x1, x1c, e2.s, m0.s, m1.s, m2.s, m3.s, mr.s, nm3.s, hl1, hidH]; (repeat ((first | refine AskX.go (l1most_ac ⟨_, _, _, hvf⟩ ggr) ?_ | refine AskD.go (l1most_ac ⟨_, _, _, hvf⟩ ggr) ?_); simp [p1, p2, p3, p4', c1, c2, c3', -sliceA, hsl, hwr, u1o, u1c, nidL1, Ne.symm nidL1, x1, x1c, e2.s, m0.s, m1.s, m2.s, m3.s, mr.s, nm3.s, hl1, hidH])); refine hK _ ?_; clear hK K))
    exact sk_inv ⟨by simp [subL, getT, hc], stay u1 (sl idg 0 l.grs.length) _ (nf _) (by rw [hc]; exact nm _) u1n (by rw [hc]; exact hu1) (by rw [hc]; exact ggr)⟩
   have c3' : 0 ≤ l.drop := hlo.drop c3
   by_cases c4 : l.drop < e.n
   ·have hc : evLn b.lines l e = (0, { l with way := l.way.drop m, gone := e.n, drop := e.n }) := by
     simp only [evLn, if_neg p1, if_neg p2, if_neg p3, if_pos p4, if_neg c0, hm, Int.toNat_natCast]
     simp [c3, c4]
    repeat (first | refine sA ?_ | refine sB ?_ | refine sC ?_ | refine sD ?_ | refine sE rfl ?_ | refine sF rfl ?_ | refine sG rfl ?_ | ((first | refine sk_reg fun K hK => ?_ | refine sk_drw mix fun K hK => ?_); simp [p1, p2, p3, p4', c1, c2, c3', c4, -sliceA, hsl, hwr, u1o, u1c, nidL1, Ne.symm nidL1, x1, x1c, e2.s, m0.s, m1.s, m2.s, m3.s, mr.s, nm3.s, nmr.s, hl1, hidH]; (repeat ((first | refine AskX.go (l1most_ac ⟨_, _, _, hvf⟩ ggr) ?_ | refine AskD.go (l1most_ac ⟨_, _, _, hvf⟩ ggr) ?_); simp [p1, p2, p3, p4', c1, c2, c3', c4, -sliceA, hsl, hwr, u1o, u1c, nidL1, Ne.symm nidL1, x1, x1c, e2.s, m0.s, m1.s, m2.s, m3.s, mr.s, nm3.s, nmr.s, hl1, hidH])); refine hK _ ?_; clear hK K))
    refine sk_inv ⟨by simp [subL, getT, hc], stay u1 (sl idg 0 l.grs.length) _ (fun i hi => by rw [get_put_ne _ _ _ hi]; exact nf _ i hi) ?_ u1n (by rw [hc]; exact hu1) (by rw [hc]; exact ggr)⟩
    rw [get_put, nm, hc]
    simp only [Option.map_some]
    rw [set_mid hal (by simp)]; rfl
   ·have hc : evLn b.lines l e = (0, { l with way := l.way.drop m, gone := e.n }) := by
     simp only [evLn, if_neg p1, if_neg p2, if_neg p3, if_pos p4, if_neg c0, hm, Int.toNat_natCast]
     simp [c3, c4]
    repeat (first | refine sA ?_ | refine sB ?_ | refine sC ?_ | refine sD ?_ | refine sE rfl ?_ | refine sF rfl ?_ | refine sG rfl ?_ | ((first | refine sk_reg fun K hK => ?_ | refine sk_drw mix fun K hK => ?_); simp [p1, p2, p3, p4', c1, c2, c3', c4, -sliceA, hsl, hwr, u1o, u1c, nidL1, Ne.symm nidL1, x1, x1c, e2.s, m0.s, m1.s, m2.s, m3.s, mr.s, nm3.s, nmr.s, hl1, hidH]; (repeat ((first | refine AskX.go (l1most_ac ⟨_, _, _, hvf⟩ ggr) ?_ | refine AskD.go (l1most_ac ⟨_, _, _, hvf⟩ ggr) ?_); simp [p1, p2, p3, p4', c1, c2, c3', c4, -sliceA, hsl, hwr, u1o, u1c, nidL1, Ne.symm nidL1, x1, x1c, e2.s, m0.s, m1.s, m2.s, m3.s, mr.s, nm3.s, nmr.s, hl1, hidH])); refine hK _ ?_; clear hK K))
    exact sk_inv ⟨by simp [subL, getT, hc], stay u1 (sl idg 0 l.grs.length) _ (nf _) (by rw [hc]; exact nm _) u1n (by rw [hc]; exact hu1) (by rw [hc]; exact ggr)⟩
  have p5 : e.op = 5 := by omega
  have p5' := eq_true p5
  by_cases c1 : e.n < l.gone
  ·have hc : evLn b.lines l e = (2, l) := by simp [evLn, p1, p2, p3, p4, c1]
   repeat (first | refine sA ?_ | refine sB ?_ | refine sC ?_ | refine sD ?_ | refine sE rfl ?_ | refine sF rfl ?_ | refine sG rfl ?_ | ((first | refine sk_reg fun K hK => ?_ | refine sk_drw mix fun K hK => ?_); simp [p1, p2, p3, p4, p5', c1, htot, x1, x1c, e2.s, m0.s, m1.s, m2.s, m3.s]; (repeat ((first | refine AskX.go (l1total_ac ⟨_, _, hvf⟩ rfl) ?_ | refine AskD.go (l1total_ac ⟨_, _, hvf⟩ rfl) ?_); simp [p1, p2, p3, p4, p5', c1, htot, x1, x1c, e2.s, m0.s, m1.s, m2.s, m3.s])); refine hK _ ?_; clear hK K))
   exact sk_inv ⟨by simp [subL, getT, hc], stop _ hc⟩
  by_cases c2 : totL l ≤ e.n
  ·have hc : evLn b.lines l e = (2, l) := by simp [evLn, p1, p2, p3, p4, c2]
   repeat (first | refine sA ?_ | refine sB ?_ | refine sC ?_ | refine sD ?_ | refine sE rfl ?_ | refine sF rfl ?_ | refine sG rfl ?_ | ((first | refine sk_reg fun K hK => ?_ | refine sk_drw mix fun K hK => ?_); simp [p1, p2, p3, p4, p5', c1, c2, htot, x1, x1c, e2.s, m0.s, m1.s, m2.s, m3.s]; (repeat ((first | refine AskX.go (l1total_ac ⟨_, _, hvf⟩ rfl) ?_ | refine AskD.go (l1total_ac ⟨_, _, hvf⟩ rfl) ?_); simp [p1, p2, p3, p4, p5', c1, c2, htot, x1, x1c, e2.s, m0.s, m1.s, m2.s, m3.s])); refine hK _ ?_; clear hK K))
   exact sk_inv ⟨by simp [subL, getT, hc], stop _ hc⟩
  by_cases c3 : e.n < (lastG l).cel
  ·have hc : evLn b.lines l e = (3, l) := by simp [evLn, p1, p2, p3, p4, c1, c2, c3]
   repeat (first | refine sA ?_ | refine sB ?_ | refine sC ?_ | refine sD ?_ | refine sE rfl ?_ | refine sF rfl ?_ | refine sG rfl ?_ | ((first | refine sk_reg fun K hK => ?_ | refine sk_drw mix fun K hK => ?_); simp [p1, p2, p3, p4, p5', c1, c2, c3, htot, x1, x1c, hwg, hgl, f0.s, f1.s, e2.s, m0.s, m1.s, m2.s, m3.s]; (repeat ((first | refine AskX.go (l1total_ac ⟨_, _, hvf⟩ rfl) ?_ | refine AskD.go (l1total_ac ⟨_, _, hvf⟩ rfl) ?_); simp [p1, p2, p3, p4, p5', c1, c2, c3, htot, x1, x1c, hwg, hgl, f0.s, f1.s, e2.s, m0.s, m1.s, m2.s, m3.s])); refine hK _ ?_; clear hK K))
   exact sk_inv ⟨by simp [subL, getT, hc], stop _ hc⟩
  have hc : evLn b.lines l e = (0, { l with drop := e.n }) := by simp [evLn, p1, p2, p3, p4, c1, c2, c3]
  repeat (first | refine sA ?_ | refine sB ?_ | refine sC ?_ | refine sD ?_ | refine sE rfl ?_ | refine sF rfl ?_ | refine sG rfl ?_ | ((first | refine sk_reg fun K hK => ?_ | refine sk_drw mix fun K hK => ?_); simp [p1, p2, p3, p4, p5', c1, c2, c3, htot, x1, x1c, hwg, hgl, f0.s, f1.s, e2.s, m0.s, m1.s, m2.s, m3.s, mr.s, hl1, hidH]; (repeat ((first | refine AskX.go (l1total_ac ⟨_, _, hvf⟩ rfl) ?_ | refine AskD.go (l1total_ac ⟨_, _, hvf⟩ rfl) ?_); simp [p1, p2, p3, p4, p5', c1, c2, c3, htot, x1, x1c, hwg, hgl, f0.s, f1.s, e2.s, m0.s, m1.s, m2.s, m3.s, mr.s, hl1, hidH])); refine hK _ ?_; clear hK K))
  refine sk_inv ⟨by simp [subL, getT, hc], stay v1 (sl idg 0 l.grs.length) _ (fun i hi => get_put_ne _ _ _ hi) ?_ v1n (by rw [hc]; exact gwy) (by rw [hc]; exact ggr)⟩
  rw [get_put, hbk, hc]
  simp only [Option.map_some]
  rw [set_mid hal (by simp)]; rfl
 ·rintro H3 ⟨u1, u2, F1, F2, hg3, hb2, hbw, hb3, u1n, hwy, hgs, hown3, hsub3, hfr3⟩
  have hbd := evLn_bd (ls := b.lines) hlo hn10
  generalize (evLn b.lines l e).1 = c at *
  generalize (evLn b.lines l e).2 = l' at *
  have hl3 := hg3.len
  obtain ⟨_, H4, sac, rfl, hF, u, un, hFid, hu⟩ := l2settle_mark hal hb3 hwy u1n hgs hbd
  have hb2' : H4[H.length + 2]? = _ := (hF _ (by omega)).trans hb2
  have hbw' : H4[W]? = _ := (hF _ (Ne.symm hidW)).trans hbw
  have z0 : CF H4 (H.length + 2) 0 (iv 0) := CF.of hb2' rfl rfl
  have z1 : CF H4 (H.length + 2) 1 (.bool false) := CF.of hb2' rfl rfl
  have z2 : CF H4 (H.length + 2) 2 (iv 0) := CF.of hb2' rfl rfl
  have z3 : CF H4 (H.length + 2) 3 nl := CF.of hb2' rfl rfl
  have zr := RF.of hb2'
  have w0 : CF H4 W 0 (.bool b.ok) := CF.of hbw' rfl rfl
  have w1 : CF H4 W 1 (iv b.sec) := CF.of hbw' rfl rfl
  have w2 : CF H4 W 2 (sl id o b.lines.length) := CF.of hbw' rfl rfl
  have wrs : wr H.length [] id := by simp [wr]; omega
  repeat (first | refine sA ?_ | refine sB ?_ | refine sC ?_ | refine sD ?_ | refine sE rfl ?_ | refine sF rfl ?_ | refine sG rfl ?_ | ((first | refine sk_reg fun K hK => ?_ | refine sk_drw mix fun K hK => ?_); simp [wrs, hidH, w0.s, w1.s, w2.s, z0.s, z1.s, z2.s, z3.s, zr.s]; (repeat ((first | refine AskX.go (sac) ?_ | refine AskD.go (sac) ?_); simp [wrs, hidH, w0.s, w1.s, w2.s, z0.s, z1.s, z2.s, z3.s, zr.s])); refine hK _ ?_; clear hK K))
  refine sk_ret ?_; simp [z0.s, z1.s, z2.s, z3.s]
  have hGF : ∀ i, i ≠ H.length + 2 → ((((H4.put (H.length + 2) 0 (iv c)).put (H.length + 2) 1 (.bool b.ok)).put (H.length + 2) 2 (iv b.sec)).put (H.length + 2) 3 (sl id o b.lines.length))[i]? = H4[i]? := fun i hi => by
   rw [get_put_ne _ _ _ hi, get_put_ne _ _ _ hi, get_put_ne _ _ _ hi, get_put_ne _ _ _ hi]
  have hFl := lt_of_get hFid
  have hgl4 : H.length ≤ H4.length := by omega
  refine ⟨by simp only [length_put]; exact hgl4, ?_⟩
  generalize ((((H4.put (H.length + 2) 0 (iv c)).put (H.length + 2) 1 (.bool b.ok)).put (H.length + 2) 2 (iv b.sec)).put (H.length + 2) 3 (sl id o b.lines.length)) = G at hGF ⊢
  have hkk : ∀ e, e ∈ F1 ++ F2 → G[e]? = H3[e]? := fun e he => by
   have := hsub3 e he
   rw [hGF e (by omega), hF e this.2.2.1]
  have hsg : (settleL l').grs = l'.grs := settleL_grs l'
  obtain ⟨E', q1, q2, q3⟩ := hcl G (settleL l') [iv (settleL l').gone, u, u2, iv (settleL l').drop] (F1 ++ F2) rfl ⟨F1, F2, u, u2, rfl, rfl, hu.fr (RP.frm _) fun e he _ => hkk e (by simp [he]), by rw [hsg]; exact hgs.fr (RP.frm _) fun e he _ => hkk e (List.mem_append_right _ he)⟩ (hown3.fr hkk)
   (fun e he => (hsub3 e he).1) (fun e h1 h2 h3 => by rw [hGF e (by have := (l2 e h1).1; omega), hF e h2, hfr3 e h1 h2 h3]) (by rw [hGF id (by omega)]; exact hFid)
  rw [hdv]
  refine ⟨fun i hi => by rw [hGF i (by omega), hF i (by omega)]; exact hg3.same hi, E', ⟨_, rfl, _, rfl, q1⟩, q2, fun e he => ?_⟩
  rcases q3 e he with h | h
  ·have := (l2 e h).1; omega
  ·have := (hsub3 e h).2.1; omega
end Go.Proofs.YtpoedfmkiiijnaaDoor
