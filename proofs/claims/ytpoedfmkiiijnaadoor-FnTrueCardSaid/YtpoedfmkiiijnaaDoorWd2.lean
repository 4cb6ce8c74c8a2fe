/- Is a world right? Walks. -/
import Derived.Test.YtpoedfmkiiijnaaDoorWd1
namespace Go.Proofs.YtpoedfmkiiijnaaDoor
open Go Go.RowKit Go.Proofs.YtpoedfmkiiijnaaDoorAm
set_option linter.unusedVariables false
set_option linter.unusedSimpArgs false
set_option maxRecDepth 10000
set_option maxHeartbeats 8000000
theorem RS.bd {H : Heap} {E : List Nat} {v : Value} {xs : List Bd} (h : RS 4 RBd H E v xs) {k : Nat} (hk : k < xs.length) : ∃ id o, v = sl id o xs.length ∧ id < H.length ∧ CF H id (o + k * 4) (iv xs[k].ver) ∧ CF H id (o + k * 4 + 1) (iv xs[k].cel) ∧ CF H id (o + k * 4 + 2) (iv xs[k].tail) ∧ CF H id (o + k * 4 + 3) (iv xs[k].front) := by
 obtain ⟨id, o, Ek, cs, hv, hid, _, _, hR, hsz, hc⟩ := h.at hk
 obtain ⟨_, rfl⟩ := hR
 exact ⟨id, o, hv, hid, hc 0 _ rfl, hc 1 _ rfl, hc 2 _ rfl, hc 3 _ rfl⟩
theorem bodiesOk_f {ls : List Ln} {xs : List Bd} {i : Nat} (hi : i < xs.length) (hl : i < ls.length) (h : bodyOk ls[i] xs[i] = false) : bodiesOk ls xs = false := by
 unfold bodiesOk
 rw [List.all_eq_false]
 exact ⟨i, List.mem_range.2 hi, by rw [lAt_eq hl, bAt_eq hi, h]; simp⟩
theorem bodiesOk_t {ls : List Ln} {xs : List Bd} (hl : xs.length = ls.length) (h : ∀ i (hi : i < xs.length), bodyOk (ls[i]'(by omega)) xs[i] = true) : bodiesOk ls xs = true := by
 unfold bodiesOk
 rw [List.all_eq_true]
 intro i hi
 rw [List.mem_range] at hi
 rw [lAt_eq (show i < ls.length by omega), bAt_eq hi]
 exact h i hi
def B36 : SC := .seq (.reg [⟨some 1, .box 42 (.tmp 0), none, []⟩, ⟨some 2, .assign (.const (.bool false)), none, []⟩]) (.seq (.seq (.reg [⟨some 6, .fieldAddr 42 (.tmp 1) 0, none, []⟩, ⟨some 7, .load 4 (.tmp 6), none, []⟩, ⟨some 8, .unOp .not 4 (.tmp 7), none, []⟩, ⟨some 9, .move (.tmp 8), none, []⟩, ⟨some 10, .fieldAddr 42 (.tmp 1) 1, some (9, false), []⟩, ⟨some 11, .load 39 (.tmp 10), some (9, false), []⟩, ⟨some 12, .call ⟨.value (.func 35), #[.tmp 11], #[39]⟩, some (9, false), []⟩, ⟨some 13, .binOp .neq 3 (.tmp 12) (.const (.int .i64 0)) 3, some (9, false), []⟩, ⟨some 14, .pick (.tmp 9) (.const (.bool true)) (.tmp 13), none, []⟩, ⟨some 15, .move (.tmp 14), none, []⟩, ⟨some 16, .fieldAddr 42 (.tmp 1) 2, some (15, false), []⟩, ⟨some 17, .load 40 (.tmp 16), some (15, false), []⟩, ⟨some 18, .call ⟨.builtin .len, #[.tmp 17], #[40]⟩, some (15, false), []⟩, ⟨some 19, .fieldAddr 42 (.tmp 1) 1, some (15, false), []⟩, ⟨some 20, .fieldAddr 39 (.tmp 19) 2, some (15, false), []⟩, ⟨some 21, .load 37 (.tmp 20), some (15, false), []⟩, ⟨some 22, .call ⟨.builtin .len, #[.tmp 21], #[37]⟩, some (15, false), []⟩, ⟨some 23, .binOp .neq 3 (.tmp 18) (.tmp 22) 3, some (15, false), []⟩, ⟨some 24, .pick (.tmp 15) (.const (.bool true)) (.tmp 23), none, []⟩]) (.cond (.tmp 24) (.seq (.reg [⟨some 2, .assign (.const (.bool false)), none, []⟩]) .ret) .skip)) (.seq (.seq (.reg [⟨some 25, .fieldAddr 42 (.tmp 1) 2, none, []⟩, ⟨some 26, .load 40 (.tmp 25), none, []⟩, ⟨some 27, .call ⟨.builtin .len, #[.tmp 26], #[40]⟩, none, []⟩, ⟨some 28, .move (.const (.int .i64 0)), none, []⟩]) (.block 0 (.loop (.seq (.reg [⟨some 29, .binOp .lss 3 (.tmp 28) (.tmp 27) 3, none, []⟩]) (.seq (.cond (.tmp 29) .skip (.exit 0)) (.seq (.block 1 (.seq (.reg [⟨some 30, .move (.tmp 28), none, []⟩, ⟨some 31, .indexAddr 40 (.tmp 26) (.tmp 28), none, []⟩, ⟨some 32, .load 47 (.tmp 31), none, []⟩, ⟨some 4, .alloc 47, none, []⟩, ⟨some 3, .assign (.tmp 30), none, []⟩, ⟨none, .store 47 (.tmp 4) (.tmp 32), none, []⟩]) (.seq (.reg [⟨some 33, .fieldAddr 42 (.tmp 1) 1, none, []⟩, ⟨some 34, .fieldAddr 39 (.tmp 33) 2, none, []⟩, ⟨some 35, .load 37 (.tmp 34), none, []⟩, ⟨some 36, .move (.tmp 3), none, []⟩, ⟨some 37, .indexAddr 37 (.tmp 35) (.tmp 36), none, []⟩, ⟨some 38, .load 50 (.tmp 37), none, []⟩, ⟨some 5, .alloc 50, none, []⟩, ⟨none, .store 50 (.tmp 5) (.tmp 38), none, []⟩]) (.seq (.reg [⟨some 39, .fieldAddr 50 (.tmp 5) 2, none, []⟩, ⟨some 40, .load 48 (.tmp 39), none, []⟩, ⟨some 41, .fieldAddr 47 (.tmp 4) 0, none, []⟩, ⟨some 42, .load 3 (.tmp 41), none, []⟩, ⟨some 43, .fieldAddr 47 (.tmp 4) 1, none, []⟩, ⟨some 44, .load 3 (.tmp 43), none, []⟩, ⟨some 45, .build 88 #[(0, (.tmp 42)), (1, (.tmp 44))], none, []⟩, ⟨some 46, .call ⟨.value (.func 60), #[.tmp 40, .tmp 45], #[48, 88]⟩, none, []⟩, ⟨some 47, .unOp .not 4 (.tmp 46), none, []⟩, ⟨some 48, .move (.tmp 47), none, []⟩, ⟨some 49, .fieldAddr 47 (.tmp 4) 2, some (48, false), []⟩, ⟨some 50, .load 3 (.tmp 49), some (48, false), []⟩, ⟨some 51, .fieldAddr 50 (.tmp 5) 0, some (48, false), []⟩, ⟨some 52, .load 3 (.tmp 51), some (48, false), []⟩, ⟨some 53, .fieldAddr 47 (.tmp 4) 3, some (48, false), []⟩, ⟨some 54, .load 3 (.tmp 53), some (48, false), []⟩, ⟨some 55, .call ⟨.value (.func 23), #[.tmp 50, .tmp 52, .tmp 54], #[3, 3, 3]⟩, some (48, false), []⟩, ⟨some 56, .unOp .not 4 (.tmp 55), some (48, false), []⟩, ⟨some 57, .pick (.tmp 48) (.const (.bool true)) (.tmp 56), none, []⟩, ⟨some 58, .move (.tmp 57), none, []⟩, ⟨some 59, .fieldAddr 47 (.tmp 4) 3, some (58, false), []⟩, ⟨some 60, .load 3 (.tmp 59), some (58, false), []⟩, ⟨some 61, .fieldAddr 47 (.tmp 4) 1, some (58, false), []⟩, ⟨some 62, .load 3 (.tmp 61), some (58, false), []⟩, ⟨some 63, .binOp .geq 3 (.tmp 60) (.tmp 62) 3, some (58, false), []⟩, ⟨some 64, .pick (.tmp 58) (.const (.bool true)) (.tmp 63), none, []⟩]) (.cond (.tmp 64) (.seq (.reg [⟨some 2, .assign (.const (.bool false)), none, []⟩]) .ret) .skip))))) (.reg [⟨some 65, .binOp .add 3 (.tmp 28) (.const (.int .i64 1)) 3, none, []⟩, ⟨some 28, .move (.tmp 65), none, []⟩]))))))) (.seq (.reg [⟨some 2, .assign (.const (.bool true)), none, []⟩]) .ret)))
theorem s36 : Tryd.f36.body.bind (stripC 66) = some B36 := by kernel_rfl
theorem right_ac {H : Heap} {E : List Nat} {w : Wd} {cs : List Value} (h : RWd H E w cs) : AC Tryd.prog 36 [.agg cs.toArray] H (.bool (rightB w)) H [] := by
 obtain ⟨E1, E2, c, vb, rfl, rfl, hbk, hbd⟩ := h
 have hbk0 := hbk
 obtain ⟨vl, rfl, hl⟩ := hbk
 have x := hl.one
 have y := hbd.one
 have ac := fun L : Heap => implBookOk_ac (H := H ++ L) (RBk.frm.ext hbk0)
 obtain ⟨aL, cL, hvl⟩ := hl.form
 obtain ⟨aB, cB, hvb⟩ := hbd.form
 have hn1 := hl.1
 have hn2 := hbd.1
 subst hvl
 subst hvb
 refine AC.of_pureS (N := 66) Tryd.func36 s36 (by kernel_rfl) rfl rfl (by simp) rfl ?_; unfold B36
 cases hok : w.ok
 ·have hr : rightB w = false := by simp [rightB, hok]
  repeat (first | refine sA ?_ | refine sB ?_ | refine sC ?_ | refine sD ?_ | refine sE rfl ?_ | refine sF rfl ?_ | refine sG rfl ?_ | (refine sk_reg fun K hK => ?_; simp [x, y]; refine hK _ ?_; clear hK K))
  refine sk_ret ?_; simp [hr]
 by_cases hb0 : bookOkB w.book = 0
 case neg =>
  have hr : rightB w = false := by simp [rightB, hb0]
  repeat (first | refine sA ?_ | refine sB ?_ | refine sC ?_ | refine sD ?_ | refine sE rfl ?_ | refine sF rfl ?_ | refine sG rfl ?_ | (refine sk_reg fun K hK => ?_; simp [x, y, hb0]; (repeat ((first | refine AskX.go (ac _) ?_); simp [x, y, hb0])); refine hK _ ?_; clear hK K))
  refine sk_ret ?_; simp [hr]
 by_cases hlen : w.bodies.length = w.book.lines.length
 case neg =>
  have hr : rightB w = false := by simp [rightB, hlen]
  have hlen' : ¬ ((w.bodies.length : Int) = w.book.lines.length) := by omega
  rw [hb0] at ac
  repeat (first | refine sA ?_ | refine sB ?_ | refine sC ?_ | refine sD ?_ | refine sE rfl ?_ | refine sF rfl ?_ | refine sG rfl ?_ | (refine sk_reg fun K hK => ?_; simp [x, y, hlen']; (repeat ((first | refine AskX.go (ac _) ?_); simp [x, y, hlen'])); refine hK _ ?_; clear hK K))
  refine sk_ret ?_; simp [hr]
 have hr0 : rightB w = bodiesOk w.book.lines w.bodies := by simp [rightB, hok, hb0, hlen]
 rw [hb0] at ac
 have hlen' : ((w.bodies.length : Int) = w.book.lines.length) = True := eq_true (by omega)
 repeat (first | refine sA ?_ | refine sB ?_ | refine sC ?_ | refine sD ?_ | refine sE rfl ?_ | refine sF rfl ?_ | refine sG rfl ?_ | (refine sk_reg fun K hK => ?_; simp [hlen', x, y]; (repeat ((first | refine AskX.go (ac _) ?_); simp [hlen', x, y])); refine hK _ ?_; clear hK K))
 refine sk_rng w.bodies.length (fun i => [(1, pt H.length 0), (26, .slice aB w.bodies.length cB), (27, iv w.bodies.length), (28, iv i)])
  (fun i H1 => Gro H H1 ∧ H1[H.length]? = some ⟨42, [.bool true, .bool w.book.ok, iv w.book.sec, .slice aL w.book.lines.length cL, .slice aB w.bodies.length cB], true, true⟩ ∧ ∀ j (hj : j < i) (hb : j < w.bodies.length), bodyOk (w.book.lines[j]'(by omega)) w.bodies[j] = true) (by simp [subL, getT]) ⟨Gro.one _ _, by simp, fun j hj => by omega⟩ ?_ ?_
 ·rintro i H1 hi ⟨hg, hbx, hpre⟩
  have hil : i < w.book.lines.length := by omega
  obtain ⟨ib, ob, hvb, hidb, b0, b1, b2, b3⟩ := RS.bd (hbd.gro hg (RP.frm _)) hi
  obtain ⟨il, ol, v1, v2, F1, F2, hvl, hidl, l0, l1, l2, l3, rw1, rg1, yo1, yo2, _⟩ := (hl.gro hg RLn.frm).line hil
  have z3 : CF H1 H.length 3 (.slice aL w.book.lines.length cL) := CF.of hbx rfl rfl
  have hw := wrap_id (x := (i : Int) + 1) (by omega) (by omega)
  have hll := hg.len
  have hgz : ∀ n, H.length ≤ H1.length + n := fun n => by omega
  have cg := fun L : Heap => containsG_ac (H := H1 ++ L) (rg1.ext (RP.frm _)) ⟨w.bodies[i].ver, w.bodies[i].cel⟩
  have hbf : ∀ hh : bodyOk w.book.lines[i] w.bodies[i] = false, rightB w = false := fun hh => by rw [hr0]; exact bodiesOk_f hi hil hh
  have bo : bodyOk w.book.lines[i] w.bodies[i] = (decide ((⟨w.bodies[i].ver, w.bodies[i].cel⟩ : Gr) ∈ w.book.lines[i].grs) && (inB w.bodies[i].tail w.book.lines[i].gone w.bodies[i].front && decide (w.bodies[i].front < w.bodies[i].cel))) := rfl
  cases m1 : decide ((⟨w.bodies[i].ver, w.bodies[i].cel⟩ : Gr) ∈ w.book.lines[i].grs)
  ·have hr := hbf (by rw [bo, m1]; rfl)
   rw [m1] at cg
   repeat (first | refine sA ?_ | refine sB ?_ | refine sC ?_ | refine sD ?_ | refine sE rfl ?_ | refine sF rfl ?_ | refine sG rfl ?_ | (refine sk_reg fun K hK => ?_; simp [hi, hil, hvb, hvl, b0.s, b1.s, b2.s, b3.s, l0.s, l1.s, l2.s, l3.s, z3.s, yo1, yo2, hll, hgz]; (repeat ((first | refine AskX.go (cg _) ?_); simp [hi, hil, hvb, hvl, b0.s, b1.s, b2.s, b3.s, l0.s, l1.s, l2.s, l3.s, z3.s, yo1, yo2, hll, hgz])); refine hK _ ?_; clear hK K))
   refine sk_ret ?_; simp [hr]
   exact hg.app _
  rw [m1] at cg
  cases m2 : inB w.bodies[i].tail w.book.lines[i].gone w.bodies[i].front
  ·have hr := hbf (by rw [bo, m1, m2]; rfl)
   repeat (first | refine sA ?_ | refine sB ?_ | refine sC ?_ | refine sD ?_ | refine sE rfl ?_ | refine sF rfl ?_ | refine sG rfl ?_ | (refine sk_reg fun K hK => ?_; simp [hi, hil, hvb, hvl, b0.s, b1.s, b2.s, b3.s, l0.s, l1.s, l2.s, l3.s, z3.s, yo1, yo2, hll, hgz, m2]; (repeat ((first | refine AskX.go (cg _) ?_ | refine AskX.go (in_ac _ _ _) ?_); simp [hi, hil, hvb, hvl, b0.s, b1.s, b2.s, b3.s, l0.s, l1.s, l2.s, l3.s, z3.s, yo1, yo2, hll, hgz, m2])); refine hK _ ?_; clear hK K))
   refine sk_ret ?_; simp [hr]
   exact hg.app _
  by_cases m3 : w.bodies[i].cel ≤ w.bodies[i].front
  ·have hr := hbf (by rw [bo, m1, m2, decide_eq_false (by omega)]; rfl)
   repeat (first | refine sA ?_ | refine sB ?_ | refine sC ?_ | refine sD ?_ | refine sE rfl ?_ | refine sF rfl ?_ | refine sG rfl ?_ | (refine sk_reg fun K hK => ?_; simp [hi, hil, hvb, hvl, b0.s, b1.s, b2.s, b3.s, l0.s, l1.s, l2.s, l3.s, z3.s, yo1, yo2, hll, hgz, m2, m3]; (repeat ((first | refine AskX.go (cg _) ?_ | refine AskX.go (in_ac _ _ _) ?_); simp [hi, hil, hvb, hvl, b0.s, b1.s, b2.s, b3.s, l0.s, l1.s, l2.s, l3.s, z3.s, yo1, yo2, hll, hgz, m2, m3])); refine hK _ ?_; clear hK K))
   refine sk_ret ?_; simp [hr]
   exact hg.app _
  ·have ht : bodyOk w.book.lines[i] w.bodies[i] = true := by rw [bo, m1, m2, decide_eq_true (by omega)]; rfl
   repeat (first | refine sA ?_ | refine sB ?_ | refine sC ?_ | refine sD ?_ | refine sE rfl ?_ | refine sF rfl ?_ | refine sG rfl ?_ | (refine sk_reg fun K hK => ?_; simp [hi, hil, hvb, hvl, b0.s, b1.s, b2.s, b3.s, l0.s, l1.s, l2.s, l3.s, z3.s, yo1, yo2, hll, hgz, m2, m3, hw]; (repeat ((first | refine AskX.go (cg _) ?_ | refine AskX.go (in_ac _ _ _) ?_); simp [hi, hil, hvb, hvl, b0.s, b1.s, b2.s, b3.s, l0.s, l1.s, l2.s, l3.s, z3.s, yo1, yo2, hll, hgz, m2, m3, hw])); refine hK _ ?_; clear hK K))
   refine sk_inv ⟨?_, hg.app _, by rw [List.getElem?_append_left (lt_of_get hbx)]; exact hbx, fun j hj hb => ?_⟩
   ·simp [subL, getT, hvb]
   ·by_cases e : j = i
    ·subst e; exact ht
    ·exact hpre j (by omega) hb
 ·rintro H1 ⟨hg, hbx, hpre⟩
  have hr : rightB w = true := by rw [hr0]; exact bodiesOk_t hlen fun i hi => hpre i hi hi
  repeat (first | refine sA ?_ | refine sB ?_ | refine sC ?_ | refine sD ?_ | refine sE rfl ?_ | refine sF rfl ?_ | refine sG rfl ?_ | (refine sk_reg fun K hK => ?_; simp; refine hK _ ?_; clear hK K))
  refine sk_ret ?_; simp [hr]
  exact hg
def B55 : SC := .seq (.reg [⟨some 1, .box 42 (.tmp 0), none, []⟩, ⟨some 2, .assign (.const (.bool false)), none, []⟩]) (.seq (.seq (.reg [⟨some 7, .fieldAddr 42 (.tmp 1) 0, none, []⟩, ⟨some 8, .load 4 (.tmp 7), none, []⟩, ⟨some 9, .unOp .not 4 (.tmp 8), none, []⟩, ⟨some 10, .move (.tmp 9), none, []⟩, ⟨some 11, .fieldAddr 42 (.tmp 1) 1, some (10, false), []⟩, ⟨some 12, .load 39 (.tmp 11), some (10, false), []⟩, ⟨some 13, .call ⟨.value (.func 54), #[.tmp 12], #[39]⟩, some (10, false), []⟩, ⟨some 14, .binOp .neq 3 (.tmp 13) (.const (.int .i64 0)) 3, some (10, false), []⟩, ⟨some 15, .pick (.tmp 10) (.const (.bool true)) (.tmp 14), none, []⟩, ⟨some 16, .move (.tmp 15), none, []⟩, ⟨some 17, .fieldAddr 42 (.tmp 1) 2, some (16, false), []⟩, ⟨some 18, .load 40 (.tmp 17), some (16, false), []⟩, ⟨some 19, .call ⟨.builtin .len, #[.tmp 18], #[40]⟩, some (16, false), []⟩, ⟨some 20, .fieldAddr 42 (.tmp 1) 1, some (16, false), []⟩, ⟨some 21, .fieldAddr 39 (.tmp 20) 2, some (16, false), []⟩, ⟨some 22, .load 37 (.tmp 21), some (16, false), []⟩, ⟨some 23, .call ⟨.builtin .len, #[.tmp 22], #[37]⟩, some (16, false), []⟩, ⟨some 24, .binOp .neq 3 (.tmp 19) (.tmp 23) 3, some (16, false), []⟩, ⟨some 25, .pick (.tmp 16) (.const (.bool true)) (.tmp 24), none, []⟩]) (.cond (.tmp 25) (.seq (.reg [⟨some 2, .assign (.const (.bool false)), none, []⟩]) .ret) .skip)) (.seq (.seq (.reg [⟨some 26, .fieldAddr 42 (.tmp 1) 2, none, []⟩, ⟨some 27, .load 40 (.tmp 26), none, []⟩, ⟨some 28, .call ⟨.builtin .len, #[.tmp 27], #[40]⟩, none, []⟩, ⟨some 29, .move (.const (.int .i64 0)), none, []⟩]) (.block 0 (.loop (.seq (.reg [⟨some 30, .binOp .lss 3 (.tmp 29) (.tmp 28) 3, none, []⟩]) (.seq (.cond (.tmp 30) .skip (.exit 0)) (.seq (.block 1 (.seq (.reg [⟨some 31, .move (.tmp 29), none, []⟩, ⟨some 32, .indexAddr 40 (.tmp 27) (.tmp 29), none, []⟩, ⟨some 33, .load 47 (.tmp 32), none, []⟩, ⟨some 4, .alloc 47, none, []⟩, ⟨some 3, .assign (.tmp 31), none, []⟩, ⟨none, .store 47 (.tmp 4) (.tmp 33), none, []⟩]) (.seq (.reg [⟨some 34, .fieldAddr 42 (.tmp 1) 1, none, []⟩, ⟨some 35, .fieldAddr 39 (.tmp 34) 2, none, []⟩, ⟨some 36, .load 37 (.tmp 35), none, []⟩, ⟨some 37, .move (.tmp 3), none, []⟩, ⟨some 38, .indexAddr 37 (.tmp 36) (.tmp 37), none, []⟩, ⟨some 39, .load 50 (.tmp 38), none, []⟩, ⟨some 5, .alloc 50, none, []⟩, ⟨none, .store 50 (.tmp 5) (.tmp 39), none, []⟩]) (.seq (.drw 0 [⟨some 40, .fieldAddr 47 (.tmp 4) 0, none, []⟩, ⟨some 41, .load 3 (.tmp 40), none, [0]⟩, ⟨some 42, .fieldAddr 50 (.tmp 5) 2, none, []⟩, ⟨some 43, .load 48 (.tmp 42), none, [2]⟩, ⟨some 44, .indexAddr 48 (.tmp 43) (.const (.int .i64 0)), none, [3, 2]⟩, ⟨some 45, .fieldAddr 88 (.tmp 44) 0, none, [4, 3, 2]⟩, ⟨some 46, .load 3 (.tmp 45), none, [5, 4, 3, 2]⟩, ⟨some 47, .binOp .sub 3 (.tmp 41) (.tmp 46) 3, none, [1, 0, 6, 5, 4, 3, 2]⟩, ⟨some 6, .assign (.tmp 47), none, [7, 1, 0, 6, 5, 4, 3, 2]⟩]) (.seq (.drw 0 [⟨some 48, .move (.tmp 6), none, []⟩, ⟨some 49, .binOp .lss 3 (.tmp 48) (.const (.int .i64 0)) 3, none, [0]⟩, ⟨some 50, .move (.tmp 49), none, [1, 0]⟩, ⟨some 51, .move (.tmp 6), some (50, false), [2, 1, 0]⟩, ⟨some 52, .fieldAddr 50 (.tmp 5) 2, some (50, false), [2, 1, 0]⟩, ⟨some 53, .load 48 (.tmp 52), some (50, false), [4, 2, 1, 0]⟩, ⟨some 54, .call ⟨.builtin .len, #[.tmp 53], #[48]⟩, some (50, false), [5, 4, 2, 1, 0]⟩, ⟨some 55, .binOp .geq 3 (.tmp 51) (.tmp 54) 3, some (50, false), [3, 2, 1, 0, 6, 5, 4]⟩, ⟨some 56, .pick (.tmp 50) (.const (.bool true)) (.tmp 55), none, [2, 1, 0, 7, 3, 6, 5, 4]⟩, ⟨some 57, .move (.tmp 56), none, [8, 2, 1, 0, 7, 3, 6, 5, 4]⟩, ⟨some 58, .fieldAddr 50 (.tmp 5) 2, some (57, false), [9, 8, 2, 1, 0, 7, 3, 6, 5, 4]⟩, ⟨some 59, .load 48 (.tmp 58), some (57, false), [10, 9, 8, 2, 1, 0, 7, 3, 6, 5, 4]⟩, ⟨some 60, .move (.tmp 6), some (57, false), [9, 8, 2, 1, 0, 7, 3, 6, 5, 4]⟩, ⟨some 61, .indexAddr 48 (.tmp 59) (.tmp 60), some (57, false), [11, 10, 9, 8, 2, 1, 0, 7, 3, 6, 5, 4, 12]⟩, ⟨some 62, .fieldAddr 88 (.tmp 61) 1, some (57, false), [13, 11, 10, 9, 8, 2, 1, 0, 7, 3, 6, 5, 4, 12]⟩, ⟨some 63, .load 3 (.tmp 62), some (57, false), [14, 13, 11, 10, 9, 8, 2, 1, 0, 7, 3, 6, 5, 4, 12]⟩, ⟨some 64, .fieldAddr 47 (.tmp 4) 1, some (57, false), [9, 8, 2, 1, 0, 7, 3, 6, 5, 4]⟩, ⟨some 65, .load 3 (.tmp 64), some (57, false), [16, 9, 8, 2, 1, 0, 7, 3, 6, 5, 4]⟩, ⟨some 66, .binOp .neq 3 (.tmp 63) (.tmp 65) 3, some (57, false), [15, 14, 13, 11, 10, 9, 8, 2, 1, 0, 7, 3, 6, 5, 4, 12, 17, 16]⟩, ⟨some 67, .pick (.tmp 57) (.const (.bool true)) (.tmp 66), none, [9, 8, 2, 1, 0, 7, 3, 6, 5, 4, 18, 15, 14, 13, 11, 10, 12, 17, 16]⟩, ⟨some 68, .move (.tmp 67), none, [19, 9, 8, 2, 1, 0, 7, 3, 6, 5, 4, 18, 15, 14, 13, 11, 10, 12, 17, 16]⟩, ⟨some 69, .fieldAddr 47 (.tmp 4) 2, some (68, false), [20, 19, 9, 8, 2, 1, 0, 7, 3, 6, 5, 4, 18, 15, 14, 13, 11, 10, 12, 17, 16]⟩, ⟨some 70, .load 3 (.tmp 69), some (68, false), [21, 20, 19, 9, 8, 2, 1, 0, 7, 3, 6, 5, 4, 18, 15, 14, 13, 11, 10, 12, 17, 16]⟩, ⟨some 71, .fieldAddr 50 (.tmp 5) 0, some (68, false), [20, 19, 9, 8, 2, 1, 0, 7, 3, 6, 5, 4, 18, 15, 14, 13, 11, 10, 12, 17, 16]⟩, ⟨some 72, .load 3 (.tmp 71), some (68, false), [23, 20, 19, 9, 8, 2, 1, 0, 7, 3, 6, 5, 4, 18, 15, 14, 13, 11, 10, 12, 17, 16]⟩, ⟨some 73, .fieldAddr 47 (.tmp 4) 3, some (68, false), [20, 19, 9, 8, 2, 1, 0, 7, 3, 6, 5, 4, 18, 15, 14, 13, 11, 10, 12, 17, 16]⟩, ⟨some 74, .load 3 (.tmp 73), some (68, false), [25, 20, 19, 9, 8, 2, 1, 0, 7, 3, 6, 5, 4, 18, 15, 14, 13, 11, 10, 12, 17, 16]⟩, ⟨some 75, .call ⟨.value (.func 53), #[.tmp 70, .tmp 72, .tmp 74], #[3, 3, 3]⟩, some (68, false), [22, 21, 20, 19, 9, 8, 2, 1, 0, 7, 3, 6, 5, 4, 18, 15, 14, 13, 11, 10, 12, 17, 16, 24, 23, 26, 25]⟩, ⟨some 76, .unOp .not 4 (.tmp 75), some (68, false), [27, 22, 21, 20, 19, 9, 8, 2, 1, 0, 7, 3, 6, 5, 4, 18, 15, 14, 13, 11, 10, 12, 17, 16, 24, 23, 26, 25]⟩, ⟨some 77, .pick (.tmp 68) (.const (.bool true)) (.tmp 76), none, [20, 19, 9, 8, 2, 1, 0, 7, 3, 6, 5, 4, 18, 15, 14, 13, 11, 10, 12, 17, 16, 28, 27, 22, 21, 24, 23, 26, 25]⟩, ⟨some 78, .move (.tmp 77), none, [29, 20, 19, 9, 8, 2, 1, 0, 7, 3, 6, 5, 4, 18, 15, 14, 13, 11, 10, 12, 17, 16, 28, 27, 22, 21, 24, 23, 26, 25]⟩, ⟨some 79, .fieldAddr 47 (.tmp 4) 3, some (78, false), [30, 29, 20, 19, 9, 8, 2, 1, 0, 7, 3, 6, 5, 4, 18, 15, 14, 13, 11, 10, 12, 17, 16, 28, 27, 22, 21, 24, 23, 26, 25]⟩, ⟨some 80, .load 3 (.tmp 79), some (78, false), [31, 30, 29, 20, 19, 9, 8, 2, 1, 0, 7, 3, 6, 5, 4, 18, 15, 14, 13, 11, 10, 12, 17, 16, 28, 27, 22, 21, 24, 23, 26, 25]⟩, ⟨some 81, .fieldAddr 47 (.tmp 4) 1, some (78, false), [30, 29, 20, 19, 9, 8, 2, 1, 0, 7, 3, 6, 5, 4, 18, 15, 14, 13, 11, 10, 12, 17, 16, 28, 27, 22, 21, 24, 23, 26, 25]⟩, ⟨some 82, .load 3 (.tmp 81), some (78, false), [33, 30, 29, 20, 19, 9, 8, 2, 1, 0, 7, 3, 6, 5, 4, 18, 15, 14, 13, 11, 10, 12, 17, 16, 28, 27, 22, 21, 24, 23, 26, 25]⟩, ⟨some 83, .binOp .geq 3 (.tmp 80) (.tmp 82) 3, some (78, false), [32, 31, 30, 29, 20, 19, 9, 8, 2, 1, 0, 7, 3, 6, 5, 4, 18, 15, 14, 13, 11, 10, 12, 17, 16, 28, 27, 22, 21, 24, 23, 26, 25, 34, 33]⟩, ⟨some 84, .pick (.tmp 78) (.const (.bool true)) (.tmp 83), none, [30, 29, 20, 19, 9, 8, 2, 1, 0, 7, 3, 6, 5, 4, 18, 15, 14, 13, 11, 10, 12, 17, 16, 28, 27, 22, 21, 24, 23, 26, 25, 35, 32, 31, 34, 33]⟩]) (.cond (.tmp 84) (.seq (.reg [⟨some 2, .assign (.const (.bool false)), none, []⟩]) .ret) .skip)))))) (.reg [⟨some 85, .binOp .add 3 (.tmp 29) (.const (.int .i64 1)) 3, none, []⟩, ⟨some 29, .move (.tmp 85), none, []⟩]))))))) (.seq (.reg [⟨some 2, .assign (.const (.bool true)), none, []⟩]) .ret)))
theorem s55 : Tryd.f55.body.bind (stripC 86) = some B55 := by kernel_rfl
theorem l3ok_ac {H : Heap} {E : List Nat} {w : Wd} {cs : List Value} (h : RWd H E w cs) (hrg : ∀ b, b ∈ w.bodies → bdR b) : AC Tryd.prog 55 [.agg cs.toArray] H (.bool (rightB w)) H [] := by
 obtain ⟨E1, E2, c, vb, rfl, rfl, hbk, hbd⟩ := h
 have hbk0 := hbk
 obtain ⟨vl, rfl, hl⟩ := hbk
 have x := hl.one
 have y := hbd.one
 have ac := fun L : Heap => specBookOk_ac (H := H ++ L) (RBk.frm.ext hbk0)
 obtain ⟨aL, cL, hvl⟩ := hl.form
 obtain ⟨aB, cB, hvb⟩ := hbd.form
 have hn1 := hl.1
 have hn2 := hbd.1
 subst hvl
 subst hvb
 refine AC.of_pureS (N := 86) Tryd.func55 s55 (by kernel_rfl) rfl rfl (by simp) rfl ?_; unfold B55
 cases hok : w.ok
 ·have hr : rightB w = false := by simp [rightB, hok]
  repeat (first | refine sA ?_ | refine sB ?_ | refine sC ?_ | refine sD ?_ | refine sE rfl ?_ | refine sF rfl ?_ | refine sG rfl ?_ | ((first | refine sk_reg fun K hK => ?_ | refine sk_drw mix fun K hK => ?_); simp [x, y]; refine hK _ ?_; clear hK K))
  refine sk_ret ?_; simp [hr]
 by_cases hb0 : bookOkB w.book = 0
 case neg =>
  have hr : rightB w = false := by simp [rightB, hb0]
  repeat (first | refine sA ?_ | refine sB ?_ | refine sC ?_ | refine sD ?_ | refine sE rfl ?_ | refine sF rfl ?_ | refine sG rfl ?_ | ((first | refine sk_reg fun K hK => ?_ | refine sk_drw mix fun K hK => ?_); simp [x, y, hb0]; (repeat ((first | refine AskX.go (ac _) ?_ | refine AskD.go (ac _) ?_); simp [x, y, hb0])); refine hK _ ?_; clear hK K))
  refine sk_ret ?_; simp [hr]
 by_cases hlen : w.bodies.length = w.book.lines.length
 case neg =>
  have hr : rightB w = false := by simp [rightB, hlen]
  have hlen' : ¬ ((w.bodies.length : Int) = w.book.lines.length) := by omega
  rw [hb0] at ac
  repeat (first | refine sA ?_ | refine sB ?_ | refine sC ?_ | refine sD ?_ | refine sE rfl ?_ | refine sF rfl ?_ | refine sG rfl ?_ | ((first | refine sk_reg fun K hK => ?_ | refine sk_drw mix fun K hK => ?_); simp [x, y, hlen']; (repeat ((first | refine AskX.go (ac _) ?_ | refine AskD.go (ac _) ?_); simp [x, y, hlen'])); refine hK _ ?_; clear hK K))
  refine sk_ret ?_; simp [hr]
 have hr0 : rightB w = bodiesOk w.book.lines w.bodies := by simp [rightB, hok, hb0, hlen]
 rw [hb0] at ac
 have hlen' : ((w.bodies.length : Int) = w.book.lines.length) = True := eq_true (by omega)
 repeat (first | refine sA ?_ | refine sB ?_ | refine sC ?_ | refine sD ?_ | refine sE rfl ?_ | refine sF rfl ?_ | refine sG rfl ?_ | ((first | refine sk_reg fun K hK => ?_ | refine sk_drw mix fun K hK => ?_); simp [hlen', x, y]; (repeat ((first | refine AskX.go (ac _) ?_ | refine AskD.go (ac _) ?_); simp [hlen', x, y])); refine hK _ ?_; clear hK K))
 refine sk_rng w.bodies.length (fun i => [(1, pt H.length 0), (27, .slice aB w.bodies.length cB), (28, iv w.bodies.length), (29, iv i)])
  (fun i H1 => Gro H H1 ∧ H1[H.length]? = some ⟨42, [.bool true, .bool w.book.ok, iv w.book.sec, .slice aL w.book.lines.length cL, .slice aB w.bodies.length cB], true, true⟩ ∧ ∀ j (hj : j < i) (hb : j < w.bodies.length), bodyOk (w.book.lines[j]'(by omega)) w.bodies[j] = true) (by simp [subL, getT]) ⟨Gro.one _ _, by simp, fun j hj => by omega⟩ ?_ ?_
 ·rintro i H1 hi ⟨hg, hbx, hpre⟩
  have hil : i < w.book.lines.length := by omega
  obtain ⟨ib, ob, hvb, hidb, b0, b1, b2, b3⟩ := RS.bd (hbd.gro hg (RP.frm _)) hi
  obtain ⟨il, ol, v1, v2, F1, F2, hvl, hidl, l0, l1, l2, l3, rw1, rg1, yo1, yo2, _⟩ := (hl.gro hg RLn.frm).line hil
  have z3 : CF H1 H.length 3 (.slice aL w.book.lines.length cL) := CF.of hbx rfl rfl
  have hw := wrap_id (x := (i : Int) + 1) (by omega) (by omega)
  have hll := hg.len
  have hgz : ∀ n, H.length ≤ H1.length + n := fun n => by omega
  have hbf : ∀ hh : bodyOk w.book.lines[i] w.bodies[i] = false, rightB w = false := fun hh => by rw [hr0]; exact bodiesOk_f hi hil hh
  have hlo := bookOk_ln hb0 hil
  have hbr : bdR w.bodies[i] := hrg _ (List.getElem_mem hi)
  generalize hX : w.bodies[i] = bx at *
  generalize hL : w.book.lines[i] = ln at *
  have bo : bodyOk ln bx = (decide ((⟨bx.ver, bx.cel⟩ : Gr) ∈ ln.grs) && (inB bx.tail ln.gone bx.front && decide (bx.front < bx.cel))) := rfl
  have hn0 := hlo.n0
  have hn1 := hlo.n1
  obtain ⟨ig, og, hvg, hidg, q0, _⟩ := rg1.gr (k := 0) (by omega)
  have gv0 := hlo.gs 0 (by omega)
  simp only [Nat.zero_mul, Nat.add_zero] at q0
  rw [← gAt_eq (show 0 < ln.grs.length by omega)] at q0 gv0
  have hw0 : 0 < ln.grs.length := by omega
  have hne : ¬ ln.grs = [] := fun hh => by rw [hh] at hw0; simp at hw0
  by_cases hk : (gAt ln.grs 0).ver ≤ bx.ver ∧ bx.ver < (gAt ln.grs 0).ver + ln.grs.length
  case neg =>
   have hm : decide ((⟨bx.ver, bx.cel⟩ : Gr) ∈ ln.grs) = false := by
    rw [decide_eq_false_iff_not]
    intro hm
    obtain ⟨j, hj, he⟩ := List.getElem_of_mem hm
    have := hlo.place j hj
    rw [he] at this
    simp only at this
    exact hk ⟨by omega, by omega⟩
   have hr := hbf (by rw [bo, hm]; rfl)
   have hkw : IntKind.i64.wrap (bx.ver - (gAt ln.grs 0).ver) < 0 ∨ (ln.grs.length : Int) ≤ IntKind.i64.wrap (bx.ver - (gAt ln.grs 0).ver) := by
    have h1 := hbr.1
    have h2 := hbr.2
    rw [IntKind.wrap_i64]
    omega
   generalize hkk : IntKind.i64.wrap (bx.ver - (gAt ln.grs 0).ver) = kk at hkw
   by_cases hk1 : kk < 0
   ·repeat (first | refine sA ?_ | refine sB ?_ | refine sC ?_ | refine sD ?_ | refine sE rfl ?_ | refine sF rfl ?_ | refine sG rfl ?_ | ((first | refine sk_reg fun K hK => ?_ | refine sk_drw mix fun K hK => ?_); simp [hi, hil, hvb, hvl, hvg, b0.s, b1.s, b2.s, b3.s, l0.s, l1.s, l2.s, l3.s, z3.s, q0.s, yo1, yo2, hll, hgz, hw0, hne, hkk, hk1]; refine hK _ ?_; clear hK K))
    refine sk_ret ?_; simp [hr]
    exact hg.app _
   ·have hk2 : (ln.grs.length : Int) ≤ kk := by omega
    repeat (first | refine sA ?_ | refine sB ?_ | refine sC ?_ | refine sD ?_ | refine sE rfl ?_ | refine sF rfl ?_ | refine sG rfl ?_ | ((first | refine sk_reg fun K hK => ?_ | refine sk_drw mix fun K hK => ?_); simp [hi, hil, hvb, hvl, hvg, b0.s, b1.s, b2.s, b3.s, l0.s, l1.s, l2.s, l3.s, z3.s, q0.s, yo1, yo2, hll, hgz, hw0, hne, hkk, hk1, hk2]; refine hK _ ?_; clear hK K))
    refine sk_ret ?_; simp [hr]
    exact hg.app _
  obtain ⟨k, hkv⟩ : ∃ k : Nat, bx.ver = (gAt ln.grs 0).ver + k := ⟨(bx.ver - (gAt ln.grs 0).ver).toNat, by omega⟩
  have hkl : k < ln.grs.length := by omega
  have hkk : IntKind.i64.wrap (bx.ver - (gAt ln.grs 0).ver) = (k : Int) := by rw [wrap_id (by omega) (by omega)]; omega
  obtain ⟨_, _, hvg2, _, _, q1⟩ := rg1.gr hkl
  rw [hvg] at hvg2
  simp at hvg2
  obtain ⟨rfl, rfl⟩ := hvg2
  have hpl := hlo.place k hkl
  have hk1 : ¬ (k : Int) < 0 := by omega
  have hk2 : ¬ (ln.grs.length : Int) ≤ (k : Int) := by omega
  have hk3 : ¬ ln.grs.length ≤ k := by omega
  have hmm : decide ((⟨bx.ver, bx.cel⟩ : Gr) ∈ ln.grs) = decide (ln.grs[k].cel = bx.cel) := by
   have : ((⟨bx.ver, bx.cel⟩ : Gr) ∈ ln.grs) ↔ ln.grs[k].cel = bx.cel := by
    constructor
    ·intro hm
     obtain ⟨j, hj, he⟩ := List.getElem_of_mem hm
     have h1 := hlo.place j hj
     rw [he] at h1
     simp only at h1
     obtain rfl : j = k := by omega
     rw [he]
    ·intro hc
     have : ln.grs[k] = ⟨bx.ver, bx.cel⟩ := by
      have h2 : ln.grs[k].ver = bx.ver := by omega
      cases hg : ln.grs[k] with
      | mk a b => rw [hg] at h2 hc; simp only at h2 hc; subst h2; subst hc; rfl
     rw [← this]; exact List.getElem_mem hkl
   simp [this]
  by_cases m1 : ln.grs[k].cel = bx.cel
  case neg =>
   have hr := hbf (by rw [bo, hmm, decide_eq_false m1]; rfl)
   repeat (first | refine sA ?_ | refine sB ?_ | refine sC ?_ | refine sD ?_ | refine sE rfl ?_ | refine sF rfl ?_ | refine sG rfl ?_ | ((first | refine sk_reg fun K hK => ?_ | refine sk_drw mix fun K hK => ?_); simp [hi, hil, hvb, hvl, hvg, b0.s, b1.s, b2.s, b3.s, l0.s, l1.s, l2.s, l3.s, z3.s, q0.s, q1.s, yo1, yo2, hll, hgz, hw0, hne, hkk, hk1, hk2, hk3, hkl, m1]; refine hK _ ?_; clear hK K))
   refine sk_ret ?_; simp [hr]
   exact hg.app _
  rw [m1] at q1
  rw [decide_eq_true m1] at hmm
  cases m2 : inB bx.tail ln.gone bx.front
  ·have hr := hbf (by rw [bo, hmm, m2]; rfl)
   repeat (first | refine sA ?_ | refine sB ?_ | refine sC ?_ | refine sD ?_ | refine sE rfl ?_ | refine sF rfl ?_ | refine sG rfl ?_ | ((first | refine sk_reg fun K hK => ?_ | refine sk_drw mix fun K hK => ?_); simp [hi, hil, hvb, hvl, hvg, b0.s, b1.s, b2.s, b3.s, l0.s, l1.s, l2.s, l3.s, z3.s, q0.s, q1.s, yo1, yo2, hll, hgz, hw0, hne, hkk, hk1, hk2, hk3, hkl, m2]; (repeat ((first | refine AskX.go (l1in_ac _ _ _) ?_ | refine AskD.go (l1in_ac _ _ _) ?_); simp [hi, hil, hvb, hvl, hvg, b0.s, b1.s, b2.s, b3.s, l0.s, l1.s, l2.s, l3.s, z3.s, q0.s, q1.s, yo1, yo2, hll, hgz, hw0, hne, hkk, hk1, hk2, hk3, hkl, m2])); refine hK _ ?_; clear hK K))
   refine sk_ret ?_; simp [hr]
   exact hg.app _
  by_cases m3 : bx.cel ≤ bx.front
  ·have hr := hbf (by rw [bo, hmm, m2, decide_eq_false (by omega)]; rfl)
   repeat (first | refine sA ?_ | refine sB ?_ | refine sC ?_ | refine sD ?_ | refine sE rfl ?_ | refine sF rfl ?_ | refine sG rfl ?_ | ((first | refine sk_reg fun K hK => ?_ | refine sk_drw mix fun K hK => ?_); simp [hi, hil, hvb, hvl, hvg, b0.s, b1.s, b2.s, b3.s, l0.s, l1.s, l2.s, l3.s, z3.s, q0.s, q1.s, yo1, yo2, hll, hgz, hw0, hne, hkk, hk1, hk2, hk3, hkl, m2, m3]; (repeat ((first | refine AskX.go (l1in_ac _ _ _) ?_ | refine AskD.go (l1in_ac _ _ _) ?_); simp [hi, hil, hvb, hvl, hvg, b0.s, b1.s, b2.s, b3.s, l0.s, l1.s, l2.s, l3.s, z3.s, q0.s, q1.s, yo1, yo2, hll, hgz, hw0, hne, hkk, hk1, hk2, hk3, hkl, m2, m3])); refine hK _ ?_; clear hK K))
   refine sk_ret ?_; simp [hr]
   exact hg.app _
  ·have ht : bodyOk ln bx = true := by rw [bo, hmm, m2, decide_eq_true (by omega)]; rfl
   repeat (first | refine sA ?_ | refine sB ?_ | refine sC ?_ | refine sD ?_ | refine sE rfl ?_ | refine sF rfl ?_ | refine sG rfl ?_ | ((first | refine sk_reg fun K hK => ?_ | refine sk_drw mix fun K hK => ?_); simp [hi, hil, hvb, hvl, hvg, b0.s, b1.s, b2.s, b3.s, l0.s, l1.s, l2.s, l3.s, z3.s, q0.s, q1.s, yo1, yo2, hll, hgz, hw0, hne, hkk, hk1, hk2, hk3, hkl, m2, m3, hw]; (repeat ((first | refine AskX.go (l1in_ac _ _ _) ?_ | refine AskD.go (l1in_ac _ _ _) ?_); simp [hi, hil, hvb, hvl, hvg, b0.s, b1.s, b2.s, b3.s, l0.s, l1.s, l2.s, l3.s, z3.s, q0.s, q1.s, yo1, yo2, hll, hgz, hw0, hne, hkk, hk1, hk2, hk3, hkl, m2, m3, hw])); refine hK _ ?_; clear hK K))
   refine sk_inv ⟨?_, hg.app _, by rw [List.getElem?_append_left (lt_of_get hbx)]; exact hbx, fun j hj hb => ?_⟩
   ·simp [subL, getT, hvb]
   ·by_cases e : j = i
    ·subst e; rw [hL, hX]; exact ht
    ·exact hpre j (by omega) hb
 ·rintro H1 ⟨hg, hbx, hpre⟩
  have hr : rightB w = true := by rw [hr0]; exact bodiesOk_t hlen fun i hi => hpre i hi hi
  repeat (first | refine sA ?_ | refine sB ?_ | refine sC ?_ | refine sD ?_ | refine sE rfl ?_ | refine sF rfl ?_ | refine sG rfl ?_ | ((first | refine sk_reg fun K hK => ?_ | refine sk_drw mix fun K hK => ?_); simp; refine hK _ ?_; clear hK K))
  refine sk_ret ?_; simp [hr]
  exact hg
end Go.Proofs.YtpoedfmkiiijnaaDoor
