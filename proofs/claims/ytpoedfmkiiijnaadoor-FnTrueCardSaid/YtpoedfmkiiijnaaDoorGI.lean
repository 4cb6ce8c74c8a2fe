/- Texts of this repo, one behind the other (Do1 Do2 Do3). Plain lemmas and walks. -/
import Derived.Test.YtpoedfmkiiijnaaDoorGL
import Derived.Test.YtpoedfmkiiijnaaDoorGC
import Derived.Test.YtpoedfmkiiijnaaDoorGG
namespace Go.Proofs.YtpoedfmkiiijnaaDoor
open Go Go.RowKit Go.Proofs.YtpoedfmkiiijnaaDoorAm
set_option linter.unusedVariables false
set_option linter.unusedSimpArgs false
set_option maxRecDepth 10000
set_option maxHeartbeats 4000000
def B48 : SC := .seq (.reg [⟨some 4, .assign (.const (.int .i64 0)), none, []⟩]) (.seq (.seq (.reg [⟨some 6, .move (.tmp 0), none, []⟩, ⟨some 7, .call ⟨.builtin .len, #[.tmp 6], #[48]⟩, none, []⟩, ⟨some 8, .move (.const (.int .i64 0)), none, []⟩]) (.block 0 (.loop (.seq (.reg [⟨some 9, .binOp .lss 3 (.tmp 8) (.tmp 7) 3, none, []⟩]) (.seq (.cond (.tmp 9) .skip (.exit 0)) (.seq (.block 1 (.seq (.reg [⟨some 10, .move (.tmp 8), none, []⟩, ⟨some 5, .assign (.tmp 10), none, []⟩]) (.seq (.reg [⟨some 11, .move (.tmp 1), none, []⟩, ⟨some 12, .move (.tmp 0), none, []⟩, ⟨some 13, .move (.tmp 5), none, []⟩, ⟨some 14, .indexAddr 48 (.tmp 12) (.tmp 13), none, []⟩, ⟨some 15, .load 88 (.tmp 14), none, []⟩, ⟨some 16, .call ⟨.value (.tmp 11), #[.tmp 15], #[88]⟩, none, []⟩]) (.cond (.tmp 16) (.seq (.reg [⟨some 17, .move (.tmp 5), none, []⟩, ⟨some 4, .assign (.tmp 17), none, []⟩]) .ret) .skip)))) (.reg [⟨some 18, .binOp .add 3 (.tmp 8) (.const (.int .i64 1)) 3, none, []⟩, ⟨some 8, .move (.tmp 18), none, []⟩]))))))) (.seq (.reg [⟨some 4, .assign (.const (.int .i64 (-1))), none, []⟩]) .ret))
theorem s48 : Tryd.f48.body.bind (stripC 19) = some B48 := by kernel_rfl
theorem indexF_ac {H : Heap} {E : List Nat} {v : Value} {gs : List Gr} (h : RS 2 RGr H E v gs) {f : FuncId} {cap : List Value} {p : Gr → Bool} (hc : ∀ H1 g, Gro H H1 → AC Tryd.prog f ([.agg #[iv g.ver, iv g.cel]] ++ cap) H1 (.bool (p g)) H1 []) :
  AC Tryd.prog 48 [v, .func (.func f) #[] cap.toArray] H (iv (fstI p gs)) H [] := by
 obtain ⟨a1, c1, rfl⟩ := h.form
 have hn := h.1
 refine AC.of_pureS (N := 19) Tryd.func48 s48 (by kernel_rfl) rfl rfl (by simp) rfl ?_; unfold B48
 repeat (first | refine sA ?_ | refine sB ?_ | refine sC ?_ | refine sD ?_ | refine sE rfl ?_ | refine sF rfl ?_ | refine sG rfl ?_ | (refine sk_reg fun K hK => ?_; simp; refine hK _ ?_; clear hK K))
 refine sk_rng gs.length (fun i => [(0, .slice a1 gs.length c1), (1, .func (.func f) #[] cap.toArray), (7, iv gs.length), (8, iv i)]) (fun i H1 => Gro H H1 ∧ ∀ j (hj : j < i) (hx : j < gs.length), p gs[j] = false) (by simp [subL, getT]) ⟨(by first | exact Gro.refl _ | exact Gro.one _ _), fun j hj => by omega⟩ ?_ ?_
 ·rintro i H1 hi ⟨hg, hpre⟩
  obtain ⟨id, o, hv, hid, d0, d1⟩ := (h.gro hg (RP.frm _)).gr hi
  have hw := wrap_id (x := (i : Int) + 1) (by omega) (by omega)
  have ac := hc H1 gs[i] hg
  simp only [List.cons_append, List.nil_append] at ac
  cases hb : p gs[i]
  ·rw [hb] at ac
   repeat (first | refine sA ?_ | refine sB ?_ | refine sC ?_ | refine sD ?_ | refine sE rfl ?_ | refine sF rfl ?_ | refine sG rfl ?_ | (refine sk_reg fun K hK => ?_; simp [hi, hv, d0.s, d1.s, hw]; (repeat ((first | refine AskX.go (ac) ?_); simp [hi, hv, d0.s, d1.s, hw])); refine hK _ ?_; clear hK K))
   refine sk_inv ⟨by simp [subL, getT, hv], hg, fun j hj hx => ?_⟩
   by_cases e : j = i
   ·subst e; exact hb
   ·exact hpre j (by omega) hx
  ·rw [hb] at ac
   have hr := fstI_some hi hb fun j hj => hpre j hj (by omega)
   repeat (first | refine sA ?_ | refine sB ?_ | refine sC ?_ | refine sD ?_ | refine sE rfl ?_ | refine sF rfl ?_ | refine sG rfl ?_ | (refine sk_reg fun K hK => ?_; simp [hi, hv, d0.s, d1.s, hw]; (repeat ((first | refine AskX.go (ac) ?_); simp [hi, hv, d0.s, d1.s, hw])); refine hK _ ?_; clear hK K))
   refine sk_ret ?_; simp [hr]
   exact hg
 ·rintro H1 ⟨hg, hpre⟩
  have hr := fstI_none (p := p) (xs := gs) fun j hj => hpre j hj hj
  repeat (first | refine sA ?_ | refine sB ?_ | refine sC ?_ | refine sD ?_ | refine sE rfl ?_ | refine sF rfl ?_ | refine sG rfl ?_ | (refine sk_reg fun K hK => ?_; simp; refine hK _ ?_; clear hK K))
  refine sk_ret ?_; simp [hr]
  exact hg
def B84 : SC := .seq (.reg [⟨some 2, .box 88 (.tmp 0), none, []⟩, ⟨some 3, .assign (.const (.bool false)), none, []⟩]) (.seq (.reg [⟨some 4, .fieldAddr 88 (.tmp 2) 0, none, []⟩, ⟨some 5, .load 3 (.tmp 4), none, []⟩, ⟨some 6, .fieldAddr 57 (.tmp 1) 2, none, []⟩, ⟨some 7, .load 3 (.tmp 6), none, []⟩, ⟨some 8, .binOp .eql 3 (.tmp 5) (.tmp 7) 3, none, []⟩, ⟨some 3, .assign (.tmp 8), none, []⟩]) .ret)
theorem s84 : Tryd.f84.body.bind (stripC 9) = some B84 := by kernel_rfl
theorem doPred_ac {H : Heap} {X : Nat} {n : Int} (hx : CF H X 2 (iv n)) (g : Gr) : AC Tryd.prog 84 [.agg #[iv g.ver, iv g.cel], pt X 0] H (.bool (hasV n g)) H [] := by
 refine AC.of_pureS (N := 9) Tryd.func84 s84 (by kernel_rfl) rfl rfl (by simp) rfl ?_; unfold B84
 repeat (first | refine sA ?_ | refine sB ?_ | refine sC ?_ | refine sD ?_ | refine sE rfl ?_ | refine sF rfl ?_ | refine sG rfl ?_ | (refine sk_reg fun K hK => ?_; simp [hx.s]; refine hK _ ?_; clear hK K))
 refine sk_ret ?_; simp [hasV]
def B82 : SC := .seq (.reg [⟨some 3, .alloc 99, none, []⟩]) (.seq (.reg [⟨some 4, .move (.tmp 0), none, []⟩, ⟨some 5, .load 39 (.tmp 1), none, []⟩, ⟨some 6, .build 99 #[(0, (.tmp 4)), (1, (.tmp 5))], none, []⟩, ⟨none, .store 99 (.tmp 3) (.tmp 6), none, []⟩]) .ret)
theorem s82 : Tryd.f82.body.bind (stripC 7) = some B82 := by kernel_rfl
theorem doFail_ac {H : Heap} {X : Nat} {b : Bk} {w : Value} (c : Int) (c0 : CF H X 0 (.bool b.ok)) (c1 : CF H X 1 (iv b.sec)) (c2 : CF H X 2 w) (x : w.oneCell' = true) (hw : Clo H.length w) :
  AC Tryd.prog 82 [iv c, pt X 0] H (.agg #[iv c, .bool b.ok, iv b.sec, w]) H [] := by
 have hclo : Clo H.length (.agg #[iv c, .bool b.ok, iv b.sec, w]) := Clo.agg fun y hy => by
  simp at hy
  rcases hy with rfl | rfl | rfl | rfl
  ·exact Clo.plain rfl
  ·exact Clo.plain rfl
  ·exact Clo.plain rfl
  ·exact hw
 refine AC.of_pureCS (N := 7) Tryd.func82 s82 (by kernel_rfl) rfl rfl (by simp) hclo ?_; unfold B82
 repeat (first | refine sA ?_ | refine sB ?_ | refine sC ?_ | refine sD ?_ | refine sE rfl ?_ | refine sF rfl ?_ | refine sG rfl ?_ | (refine sk_reg fun K hK => ?_; simp [c0.s, c1.s, c2.s, x]; refine hK _ ?_; clear hK K))
 refine sk_ret ?_; simp
end Go.Proofs.YtpoedfmkiiijnaaDoor
namespace Go.Proofs.YtpoedfmkiiijnaaDoor
open Go Go.RowKit Go.Proofs.YtpoedfmkiiijnaaDoorAm
set_option linter.unusedVariables false
set_option linter.unusedSimpArgs false
set_option maxRecDepth 10000
set_option maxHeartbeats 8000000
/-- What is known of memory at the switch: the book's copy, opened at the event's line, and the other copy. -/
structure DoI (H H1 : Heap) (b : Bk) (e : Evt) (l : Ln) (w1 w2 : Value) (A1 A2 : List Nat) (W T id o : Nat) (Ek : List Nat) (a z : List Value) (ty : TypeId) (v1 v2 : Value) (E1 E2 : List Nat) : Prop where
  g : Gro H H1
  b0 : H1[H.length]? = some ⟨39, [.bool b.ok, iv b.sec, w2], true, true⟩
  b1 : H1[H.length + 1]? = some ⟨57, [iv e.op, iv e.train, iv e.n], true, true⟩
  b2 : H1[H.length + 2]? = some ⟨99, [iv 0, .bool false, iv 0, nl], true, true⟩
  bw : H1[W]? = some ⟨39, [.bool b.ok, iv b.sec, w1], true, true⟩
  bt : H1[T]? = some ⟨88, [iv (lastG l).ver, iv (lastG l).cel], true, true⟩
  r1 : RS 4 RLnW H1 A1 w1 b.lines
  o1 : Own H1 A1
  r2 : RS 4 RLnW H1 A2 w2 b.lines
  l1 : ∀ e, e ∈ A1 → H.length + 3 ≤ e
  o2 : Own H1 A2
  l2 : ∀ e, e ∈ A2 → H.length + 3 ≤ e ∧ e ≠ W ∧ e ≠ T
  id2 : id ∈ A2
  sub : ∀ e, e ∈ Ek → e ∈ A2
  nid : id ∉ Ek
  al : a.length = o
  bk : H1[id]? = some ⟨ty, a ++ ([iv l.gone, v1, v2, iv l.drop] ++ z), true, true⟩
  ek : Ek = E1 ++ E2
  way : RW 3 1 RInt H1 E1 v1 l.way
  grs : RW 88 2 RGr H1 E2 v2 l.grs
  cl : ∀ (H' : Heap) (x' : Ln) (ck' : List Value) (Ek' : List Nat), ck'.length = 4 → RLn H' Ek' x' ck' → Own H' Ek' → (∀ e, e ∈ Ek' → e ∈ Ek ∨ e ∉ A2) → (∀ e, e ∈ A2 → e ≠ id → e ∉ Ek → H'[e]? = H1[e]?) →
        H'[id]? = some ⟨ty, a ++ (ck' ++ z), true, true⟩ → ∃ E', RS 4 RLn H' E' w2 (b.lines.set e.train.toNat x') ∧ Own H' E' ∧ ∀ e, e ∈ E' → e ∈ A2 ∨ e ∈ Ek'
  wlt : H.length + 3 ≤ W
  tlt : H.length + 3 ≤ T

theorem el40 : (elemO Tryd.prog 22).bind (szO Tryd.prog) = some 1 := by kernel_rfl
theorem el41 : (elemO Tryd.prog 48).bind (szO Tryd.prog) = some 2 := by kernel_rfl
theorem drop_sl {H : Heap} {E : List Nat} {v : Value} {xs : List Int} {m : Nat} (h : RS 1 RInt H E v xs) (hne : v ≠ es) (hm : m ≤ xs.length) : ∃ v', sliceA Tryd.prog 22 v (some (iv m)) none = some v' ∧ v' ≠ es ∧ RS 1 RInt H E v' (xs.drop m) ∧ v'.oneCell' = true ∧ cellsV v' = [v'] := by
 have h0 := h
 obtain ⟨hl, ⟨hv | hv, hx, hE⟩ | ⟨id, o, E', ty, rw, pre, cs, post, h1, h2⟩⟩ := h
 ·subst hv; subst hx
  have : m = 0 := by simpa using hm
  subst this
  exact ⟨nl, by simp [sliceA, el40, hiA, loA], by simp, by simpa using h0, rfl, rfl⟩
 ·exact absurd hv hne
 ·subst h1
  refine ⟨sl id (o + m * 1) (xs.length - m), ?_, by simp, RS.drop h0 hm, rfl, rfl⟩
  simp [sliceA, el40, hiA, loA, hm]
theorem take_sl {H : Heap} {E : List Nat} {v : Value} {xs : List Int} {m : Nat} (h : RS 1 RInt H E v xs) (hne : v ≠ es) (hm : m ≤ xs.length) : ∃ v', sliceA Tryd.prog 22 v none (some (iv m)) = some v' ∧ v' ≠ es ∧ RS 1 RInt H E v' (xs.take m) ∧ v'.oneCell' = true ∧ cellsV v' = [v'] := by
 have h0 := h
 obtain ⟨hl, ⟨hv | hv, hx, hE⟩ | ⟨id, o, E', ty, rw, pre, cs, post, h1, h2⟩⟩ := h
 ·subst hv; subst hx
  have : m = 0 := by simpa using hm
  subst this
  exact ⟨nl, by simp [sliceA, el40, hiA, loA], by simp, by simpa using h0, rfl, rfl⟩
 ·exact absurd hv hne
 ·subst h1
  refine ⟨sl id o m, ?_, by simp, RS.take h0 hm, rfl, rfl⟩
  simp [sliceA, el40, hiA, loA, hm]
theorem slg_lo {id o n i : Nat} (h : i ≤ n) : sliceA Tryd.prog 48 (sl id o n) (some (iv i)) none = some (sl id (o + i * 2) (n - i)) := by simp [sliceA, el41, hiA, loA, h]
def B67 : SC := .seq (.reg [⟨some 2, .box 39 (.tmp 0), none, []⟩, ⟨some 3, .box 57 (.tmp 1), none, []⟩, ⟨some 4, .alloc 99, none, []⟩]) (.seq (.reg [⟨some 11, .load 39 (.tmp 2), none, []⟩, ⟨some 12, .call ⟨.value (.func 50), #[.tmp 11], #[39]⟩, none, []⟩, ⟨some 5, .alloc 39, none, []⟩, ⟨none, .store 39 (.tmp 5) (.tmp 12), none, []⟩]) (.seq (.reg [⟨some 13, .load 39 (.tmp 2), none, []⟩, ⟨some 14, .call ⟨.value (.func 50), #[.tmp 13], #[39]⟩, none, []⟩, ⟨none, .store 39 (.tmp 2) (.tmp 14), none, []⟩]) (.seq (.reg [⟨some 15, .fieldAddr 39 (.tmp 2) 2, none, []⟩, ⟨some 16, .load 37 (.tmp 15), none, []⟩, ⟨some 17, .fieldAddr 57 (.tmp 3) 1, none, []⟩, ⟨some 18, .load 3 (.tmp 17), none, []⟩, ⟨some 19, .indexAddr 37 (.tmp 16) (.tmp 18), none, []⟩, ⟨some 6, .assign (.tmp 19), none, []⟩]) (.seq (.drw 1 [⟨some 20, .move (.tmp 6), none, []⟩, ⟨some 21, .nilCheck (.tmp 20), none, [0]⟩, ⟨some 22, .fieldAddr 50 (.tmp 21) 2, none, [1, 0]⟩, ⟨some 23, .load 48 (.tmp 22), none, [2, 1, 0]⟩, ⟨some 24, .move (.tmp 6), none, []⟩, ⟨some 25, .nilCheck (.tmp 24), none, [4]⟩, ⟨some 26, .fieldAddr 50 (.tmp 25) 2, none, [5, 4]⟩, ⟨some 27, .load 48 (.tmp 26), none, [6, 5, 4]⟩, ⟨some 28, .call ⟨.builtin .len, #[.tmp 27], #[48]⟩, none, [7, 6, 5, 4]⟩, ⟨some 29, .binOp .sub 3 (.tmp 28) (.const (.int .i64 1)) 3, none, [8, 7, 6, 5, 4]⟩, ⟨some 30, .indexAddr 48 (.tmp 23) (.tmp 29), none, [3, 2, 1, 0, 9, 8, 7, 6, 5, 4]⟩, ⟨some 31, .load 88 (.tmp 30), none, [10, 3, 2, 1, 0, 9, 8, 7, 6, 5, 4]⟩, ⟨some 7, .alloc 88, none, []⟩, ⟨none, .store 88 (.tmp 7) (.tmp 31), none, [12, 11, 10, 3, 2, 1, 0, 9, 8, 7, 6, 5, 4]⟩]) (.seq (.reg [⟨some 32, .makeFunc (.func 82) #[] #[(.tmp 5)], none, []⟩, ⟨some 8, .assign (.tmp 32), none, []⟩]) (.seq (.seq (.reg [⟨some 33, .fieldAddr 57 (.tmp 3) 0, none, []⟩, ⟨some 34, .load 3 (.tmp 33), none, []⟩]) (.block 0 (.seq (.reg [⟨some 36, .binOp .eql 3 (.tmp 34) (.const (.int .i64 1)) 3, none, []⟩, ⟨some 35, .assign (.tmp 36), none, []⟩]) (.cond (.tmp 35) (.seq (.block 1 (.seq (.reg [⟨some 38, .load 39 (.tmp 2), none, []⟩, ⟨some 39, .fieldAddr 57 (.tmp 3) 2, none, []⟩, ⟨some 40, .load 3 (.tmp 39), none, []⟩, ⟨some 41, .call ⟨.value (.func 83), #[.tmp 38, .tmp 40], #[39, 3]⟩, none, []⟩, ⟨some 42, .binOp .geq 3 (.tmp 41) (.const (.int .i64 0)) 3, none, []⟩, ⟨some 37, .assign (.tmp 42), none, []⟩]) (.cond (.tmp 37) (.seq (.reg [⟨some 43, .move (.tmp 8), none, []⟩, ⟨some 44, .call ⟨.value (.tmp 43), #[.const (.int .i64 2)], #[3]⟩, none, []⟩, ⟨none, .store 99 (.tmp 4) (.tmp 44), none, []⟩]) .ret) (.seq (.reg [⟨some 46, .move (.tmp 6), none, []⟩, ⟨some 47, .nilCheck (.tmp 46), none, []⟩, ⟨some 48, .fieldAddr 50 (.tmp 47) 3, none, []⟩, ⟨some 49, .load 3 (.tmp 48), none, []⟩, ⟨some 50, .binOp .neq 3 (.tmp 49) (.const (.int .i64 (-1))) 3, none, []⟩, ⟨some 45, .assign (.tmp 50), none, []⟩]) (.cond (.tmp 45) (.seq (.reg [⟨some 51, .move (.tmp 8), none, []⟩, ⟨some 52, .call ⟨.value (.tmp 51), #[.const (.int .i64 3)], #[3]⟩, none, []⟩, ⟨none, .store 99 (.tmp 4) (.tmp 52), none, []⟩]) .ret) (.seq (.reg [⟨some 54, .move (.tmp 6), none, []⟩, ⟨some 55, .nilCheck (.tmp 54), none, []⟩, ⟨some 56, .fieldAddr 50 (.tmp 55) 1, none, []⟩, ⟨some 57, .load 22 (.tmp 56), none, []⟩, ⟨some 58, .call ⟨.builtin .len, #[.tmp 57], #[22]⟩, none, []⟩, ⟨some 59, .binOp .eql 3 (.tmp 58) (.const (.int .i64 100)) 3, none, []⟩, ⟨some 60, .move (.tmp 59), none, []⟩, ⟨some 61, .move (.tmp 6), some (60, false), []⟩, ⟨some 62, .nilCheck (.tmp 61), some (60, false), []⟩, ⟨some 63, .load 50 (.tmp 62), some (60, false), []⟩, ⟨some 64, .call ⟨.value (.func 59), #[.tmp 63], #[117]⟩, some (60, false), []⟩, ⟨some 65, .binOp .eql 3 (.tmp 64) (.const (.int .i64 1000000)) 3, some (60, false), []⟩, ⟨some 66, .pick (.tmp 60) (.const (.bool true)) (.tmp 65), none, []⟩, ⟨some 53, .assign (.tmp 66), none, []⟩]) (.cond (.tmp 53) (.seq (.reg [⟨some 67, .move (.tmp 8), none, []⟩, ⟨some 68, .call ⟨.value (.tmp 67), #[.const (.int .i64 4)], #[3]⟩, none, []⟩, ⟨none, .store 99 (.tmp 4) (.tmp 68), none, []⟩]) .ret) .skip))))))) (.drw 1 [⟨some 69, .move (.tmp 6), none, []⟩, ⟨some 70, .move (.tmp 6), none, []⟩, ⟨some 71, .nilCheck (.tmp 70), none, [1]⟩, ⟨some 72, .fieldAddr 50 (.tmp 71) 1, none, [2, 1]⟩, ⟨some 73, .load 22 (.tmp 72), none, [3, 2, 1]⟩, ⟨some 74, .fieldAddr 57 (.tmp 3) 2, none, []⟩, ⟨some 75, .load 3 (.tmp 74), none, [5]⟩, ⟨some 76, .buildSlice 22 1 #[(0, (.tmp 75))], none, [6, 5]⟩, ⟨some 77, .call ⟨.builtin .append, #[.tmp 73, .tmp 76], #[22, 22]⟩, none, [4, 3, 2, 1, 7, 6, 5]⟩, ⟨some 78, .nilCheck (.tmp 69), none, [0, 1, 2, 3, 4, 5, 6, 7, 8]⟩, ⟨some 79, .fieldAddr 50 (.tmp 78) 1, none, [9, 0, 1, 2, 3, 4, 5, 6, 7, 8]⟩, ⟨none, .store 22 (.tmp 79) (.tmp 77), none, [10, 9, 0, 1, 2, 3, 4, 5, 6, 7, 8]⟩])) (.seq (.reg [⟨some 81, .binOp .eql 3 (.tmp 34) (.const (.int .i64 2)) 3, none, []⟩, ⟨some 80, .assign (.tmp 81), none, []⟩]) (.cond (.tmp 80) (.seq (.block 2 (.seq (.drw 0 [⟨some 83, .fieldAddr 57 (.tmp 3) 2, none, []⟩, ⟨some 84, .load 3 (.tmp 83), none, [0]⟩, ⟨some 85, .move (.tmp 6), none, []⟩, ⟨some 86, .nilCheck (.tmp 85), none, [2]⟩, ⟨some 87, .fieldAddr 50 (.tmp 86) 0, none, [3, 2]⟩, ⟨some 88, .load 3 (.tmp 87), none, [4, 3, 2]⟩, ⟨some 89, .binOp .lss 3 (.tmp 84) (.tmp 88) 3, none, [1, 0, 5, 4, 3, 2]⟩, ⟨some 90, .move (.tmp 89), none, [6, 1, 0, 5, 4, 3, 2]⟩, ⟨some 91, .fieldAddr 57 (.tmp 3) 2, some (90, false), [7, 6, 1, 0, 5, 4, 3, 2]⟩, ⟨some 92, .load 3 (.tmp 91), some (90, false), [8, 7, 6, 1, 0, 5, 4, 3, 2]⟩, ⟨some 93, .move (.tmp 6), some (90, false), [7, 6, 1, 0, 5, 4, 3, 2]⟩, ⟨some 94, .nilCheck (.tmp 93), some (90, false), [10, 7, 6, 1, 0, 5, 4, 3, 2]⟩, ⟨some 95, .load 50 (.tmp 94), some (90, false), [11, 10, 7, 6, 1, 0, 5, 4, 3, 2]⟩, ⟨some 96, .call ⟨.value (.func 59), #[.tmp 95], #[117]⟩, some (90, false), [12, 11, 10, 7, 6, 1, 0, 5, 4, 3, 2]⟩, ⟨some 97, .binOp .gtr 3 (.tmp 92) (.tmp 96) 3, some (90, false), [9, 8, 7, 6, 1, 0, 5, 4, 3, 2, 13, 12, 11, 10]⟩, ⟨some 98, .pick (.tmp 90) (.const (.bool true)) (.tmp 97), none, [7, 6, 1, 0, 5, 4, 3, 2, 14, 9, 8, 13, 12, 11, 10]⟩, ⟨some 99, .move (.tmp 98), none, [15, 7, 6, 1, 0, 5, 4, 3, 2, 14, 9, 8, 13, 12, 11, 10]⟩, ⟨some 100, .move (.tmp 6), some (99, false), [16, 15, 7, 6, 1, 0, 5, 4, 3, 2, 14, 9, 8, 13, 12, 11, 10]⟩, ⟨some 101, .nilCheck (.tmp 100), some (99, false), [17, 16, 15, 7, 6, 1, 0, 5, 4, 3, 2, 14, 9, 8, 13, 12, 11, 10]⟩, ⟨some 102, .fieldAddr 50 (.tmp 101) 3, some (99, false), [18, 17, 16, 15, 7, 6, 1, 0, 5, 4, 3, 2, 14, 9, 8, 13, 12, 11, 10]⟩, ⟨some 103, .load 3 (.tmp 102), some (99, false), [19, 18, 17, 16, 15, 7, 6, 1, 0, 5, 4, 3, 2, 14, 9, 8, 13, 12, 11, 10]⟩, ⟨some 104, .binOp .neq 3 (.tmp 103) (.const (.int .i64 (-1))) 3, some (99, false), [20, 19, 18, 17, 16, 15, 7, 6, 1, 0, 5, 4, 3, 2, 14, 9, 8, 13, 12, 11, 10]⟩, ⟨some 105, .move (.tmp 104), some (99, false), [21, 20, 19, 18, 17, 16, 15, 7, 6, 1, 0, 5, 4, 3, 2, 14, 9, 8, 13, 12, 11, 10]⟩, ⟨some 106, .move (.tmp 6), some (105, true), [22, 21, 20, 19, 18, 17, 16, 15, 7, 6, 1, 0, 5, 4, 3, 2, 14, 9, 8, 13, 12, 11, 10]⟩, ⟨some 107, .nilCheck (.tmp 106), some (105, true), [23, 22, 21, 20, 19, 18, 17, 16, 15, 7, 6, 1, 0, 5, 4, 3, 2, 14, 9, 8, 13, 12, 11, 10]⟩, ⟨some 108, .fieldAddr 50 (.tmp 107) 3, some (105, true), [24, 23, 22, 21, 20, 19, 18, 17, 16, 15, 7, 6, 1, 0, 5, 4, 3, 2, 14, 9, 8, 13, 12, 11, 10]⟩, ⟨some 109, .load 3 (.tmp 108), some (105, true), [25, 24, 23, 22, 21, 20, 19, 18, 17, 16, 15, 7, 6, 1, 0, 5, 4, 3, 2, 14, 9, 8, 13, 12, 11, 10]⟩, ⟨some 110, .fieldAddr 57 (.tmp 3) 2, some (105, true), [22, 21, 20, 19, 18, 17, 16, 15, 7, 6, 1, 0, 5, 4, 3, 2, 14, 9, 8, 13, 12, 11, 10]⟩, ⟨some 111, .load 3 (.tmp 110), some (105, true), [27, 22, 21, 20, 19, 18, 17, 16, 15, 7, 6, 1, 0, 5, 4, 3, 2, 14, 9, 8, 13, 12, 11, 10]⟩, ⟨some 112, .binOp .lss 3 (.tmp 109) (.tmp 111) 3, some (105, true), [26, 25, 24, 23, 22, 21, 20, 19, 18, 17, 16, 15, 7, 6, 1, 0, 5, 4, 3, 2, 14, 9, 8, 13, 12, 11, 10, 28, 27]⟩, ⟨some 113, .pick (.tmp 105) (.tmp 112) (.const (.bool false)), some (99, false), [22, 21, 20, 19, 18, 17, 16, 15, 7, 6, 1, 0, 5, 4, 3, 2, 14, 9, 8, 13, 12, 11, 10, 29, 26, 25, 24, 23, 28, 27]⟩, ⟨some 114, .pick (.tmp 99) (.const (.bool true)) (.tmp 113), none, [16, 15, 7, 6, 1, 0, 5, 4, 3, 2, 14, 9, 8, 13, 12, 11, 10, 30, 22, 21, 20, 19, 18, 17, 29, 26, 25, 24, 23, 28, 27]⟩, ⟨some 82, .assign (.tmp 114), none, [31, 16, 15, 7, 6, 1, 0, 5, 4, 3, 2, 14, 9, 8, 13, 12, 11, 10, 30, 22, 21, 20, 19, 18, 17, 29, 26, 25, 24, 23, 28, 27]⟩]) (.cond (.tmp 82) (.seq (.reg [⟨some 115, .move (.tmp 8), none, []⟩, ⟨some 116, .call ⟨.value (.tmp 115), #[.const (.int .i64 2)], #[3]⟩, none, []⟩, ⟨none, .store 99 (.tmp 4) (.tmp 116), none, []⟩]) .ret) (.seq (.reg [⟨some 118, .move (.tmp 6), none, []⟩, ⟨some 119, .nilCheck (.tmp 118), none, []⟩, ⟨some 120, .fieldAddr 50 (.tmp 119) 2, none, []⟩, ⟨some 121, .load 48 (.tmp 120), none, []⟩, ⟨some 122, .call ⟨.builtin .len, #[.tmp 121], #[48]⟩, none, []⟩, ⟨some 123, .binOp .eql 3 (.tmp 122) (.const (.int .i64 20)) 3, none, []⟩, ⟨some 124, .move (.tmp 123), none, []⟩, ⟨some 125, .fieldAddr 88 (.tmp 7) 0, some (124, false), []⟩, ⟨some 126, .load 3 (.tmp 125), some (124, false), []⟩, ⟨some 127, .binOp .eql 3 (.tmp 126) (.const (.int .i64 1000000)) 3, some (124, false), []⟩, ⟨some 128, .pick (.tmp 124) (.const (.bool true)) (.tmp 127), none, []⟩, ⟨some 117, .assign (.tmp 128), none, []⟩]) (.cond (.tmp 117) (.seq (.reg [⟨some 129, .move (.tmp 8), none, []⟩, ⟨some 130, .call ⟨.value (.tmp 129), #[.const (.int .i64 4)], #[3]⟩, none, []⟩, ⟨none, .store 99 (.tmp 4) (.tmp 130), none, []⟩]) .ret) .skip))))) (.drw 1 [⟨some 131, .move (.tmp 6), none, []⟩, ⟨some 132, .move (.tmp 6), none, []⟩, ⟨some 133, .nilCheck (.tmp 132), none, [1]⟩, ⟨some 134, .fieldAddr 50 (.tmp 133) 2, none, [2, 1]⟩, ⟨some 135, .load 48 (.tmp 134), none, [3, 2, 1]⟩, ⟨some 136, .fieldAddr 88 (.tmp 7) 0, none, []⟩, ⟨some 137, .load 3 (.tmp 136), none, [5]⟩, ⟨some 138, .binOp .add 3 (.tmp 137) (.const (.int .i64 1)) 3, none, [6, 5]⟩, ⟨some 139, .fieldAddr 57 (.tmp 3) 2, none, []⟩, ⟨some 140, .load 3 (.tmp 139), none, [8]⟩, ⟨some 141, .build 88 #[(0, (.tmp 138)), (1, (.tmp 140))], none, [7, 6, 5, 9, 8]⟩, ⟨some 142, .buildSlice 48 1 #[(0, (.tmp 141))], none, [10, 7, 6, 5, 9, 8]⟩, ⟨some 143, .call ⟨.builtin .append, #[.tmp 135, .tmp 142], #[48, 48]⟩, none, [4, 3, 2, 1, 11, 10, 7, 6, 5, 9, 8]⟩, ⟨some 144, .nilCheck (.tmp 131), none, [0, 1, 2, 3, 4, 5, 6, 7, 8, 9, 10, 11, 12]⟩, ⟨some 145, .fieldAddr 50 (.tmp 144) 2, none, [13, 0, 1, 2, 3, 4, 5, 6, 7, 8, 9, 10, 11, 12]⟩, ⟨none, .store 48 (.tmp 145) (.tmp 143), none, [14, 13, 0, 1, 2, 3, 4, 5, 6, 7, 8, 9, 10, 11, 12]⟩])) (.seq (.reg [⟨some 147, .binOp .eql 3 (.tmp 34) (.const (.int .i64 3)) 3, none, []⟩, ⟨some 146, .assign (.tmp 147), none, []⟩]) (.cond (.tmp 146) (.seq (.reg [⟨some 148, .move (.tmp 6), none, []⟩, ⟨some 149, .nilCheck (.tmp 148), none, []⟩, ⟨some 150, .fieldAddr 50 (.tmp 149) 2, none, []⟩, ⟨some 151, .load 48 (.tmp 150), none, []⟩, ⟨some 152, .makeFunc (.func 84) #[] #[(.tmp 3)], none, []⟩, ⟨some 153, .call ⟨.value (.func 48), #[.tmp 151, .tmp 152], #[48, 103]⟩, none, []⟩, ⟨some 9, .assign (.tmp 153), none, []⟩]) (.seq (.block 3 (.seq (.reg [⟨some 155, .move (.tmp 9), none, []⟩, ⟨some 156, .binOp .lss 3 (.tmp 155) (.const (.int .i64 0)) 3, none, []⟩, ⟨some 154, .assign (.tmp 156), none, []⟩]) (.cond (.tmp 154) (.seq (.reg [⟨some 157, .move (.tmp 8), none, []⟩, ⟨some 158, .call ⟨.value (.tmp 157), #[.const (.int .i64 2)], #[3]⟩, none, []⟩, ⟨none, .store 99 (.tmp 4) (.tmp 158), none, []⟩]) .ret) (.seq (.drw 0 [⟨some 160, .move (.tmp 6), none, []⟩, ⟨some 161, .nilCheck (.tmp 160), none, [0]⟩, ⟨some 162, .fieldAddr 50 (.tmp 161) 2, none, [1, 0]⟩, ⟨some 163, .load 48 (.tmp 162), none, [2, 1, 0]⟩, ⟨some 164, .move (.tmp 9), none, []⟩, ⟨some 165, .slice 48 (.tmp 163) (some (.tmp 164)) none none, none, [3, 2, 1, 0, 4]⟩, ⟨some 166, .call ⟨.value (.func 24), #[.tmp 165], #[48]⟩, none, [5, 3, 2, 1, 0, 4]⟩, ⟨some 167, .move (.tmp 6), none, []⟩, ⟨some 168, .nilCheck (.tmp 167), none, [7]⟩, ⟨some 169, .fieldAddr 50 (.tmp 168) 0, none, [8, 7]⟩, ⟨some 170, .load 3 (.tmp 169), none, [9, 8, 7]⟩, ⟨some 171, .binOp .lss 3 (.tmp 166) (.tmp 170) 3, none, [6, 5, 3, 2, 1, 0, 4, 10, 9, 8, 7]⟩, ⟨some 159, .assign (.tmp 171), none, [11, 6, 5, 3, 2, 1, 0, 4, 10, 9, 8, 7]⟩]) (.cond (.tmp 159) (.seq (.reg [⟨some 172, .move (.tmp 8), none, []⟩, ⟨some 173, .call ⟨.value (.tmp 172), #[.const (.int .i64 3)], #[3]⟩, none, []⟩, ⟨none, .store 99 (.tmp 4) (.tmp 173), none, []⟩]) .ret) .skip))))) (.reg [⟨some 174, .move (.tmp 6), none, []⟩, ⟨some 175, .move (.tmp 6), none, []⟩, ⟨some 176, .nilCheck (.tmp 175), none, []⟩, ⟨some 177, .fieldAddr 50 (.tmp 176) 2, none, []⟩, ⟨some 178, .load 48 (.tmp 177), none, []⟩, ⟨some 179, .move (.tmp 9), none, []⟩, ⟨some 180, .slice 48 (.tmp 178) (some (.tmp 179)) none none, none, []⟩, ⟨some 181, .nilCheck (.tmp 174), none, []⟩, ⟨some 182, .fieldAddr 50 (.tmp 181) 2, none, []⟩, ⟨none, .store 48 (.tmp 182) (.tmp 180), none, []⟩]))) (.seq (.reg [⟨some 184, .binOp .eql 3 (.tmp 34) (.const (.int .i64 4)) 3, none, []⟩, ⟨some 183, .assign (.tmp 184), none, []⟩]) (.cond (.tmp 183) (.seq (.seq (.drw 0 [⟨some 185, .fieldAddr 57 (.tmp 3) 2, none, []⟩, ⟨some 186, .load 3 (.tmp 185), none, [0]⟩, ⟨some 187, .move (.tmp 6), none, []⟩, ⟨some 188, .nilCheck (.tmp 187), none, [2]⟩, ⟨some 189, .fieldAddr 50 (.tmp 188) 0, none, [3, 2]⟩, ⟨some 190, .load 3 (.tmp 189), none, [4, 3, 2]⟩, ⟨some 191, .binOp .lss 3 (.tmp 186) (.tmp 190) 3, none, [1, 0, 5, 4, 3, 2]⟩, ⟨some 192, .move (.tmp 191), none, [6, 1, 0, 5, 4, 3, 2]⟩, ⟨some 193, .fieldAddr 57 (.tmp 3) 2, some (192, false), [7, 6, 1, 0, 5, 4, 3, 2]⟩, ⟨some 194, .load 3 (.tmp 193), some (192, false), [8, 7, 6, 1, 0, 5, 4, 3, 2]⟩, ⟨some 195, .move (.tmp 6), some (192, false), [7, 6, 1, 0, 5, 4, 3, 2]⟩, ⟨some 196, .nilCheck (.tmp 195), some (192, false), [10, 7, 6, 1, 0, 5, 4, 3, 2]⟩, ⟨some 197, .fieldAddr 50 (.tmp 196) 2, some (192, false), [11, 10, 7, 6, 1, 0, 5, 4, 3, 2]⟩, ⟨some 198, .load 48 (.tmp 197), some (192, false), [12, 11, 10, 7, 6, 1, 0, 5, 4, 3, 2]⟩, ⟨some 199, .call ⟨.value (.func 24), #[.tmp 198], #[48]⟩, some (192, false), [13, 12, 11, 10, 7, 6, 1, 0, 5, 4, 3, 2]⟩, ⟨some 200, .binOp .gtr 3 (.tmp 194) (.tmp 199) 3, some (192, false), [9, 8, 7, 6, 1, 0, 5, 4, 3, 2, 14, 13, 12, 11, 10]⟩, ⟨some 201, .pick (.tmp 192) (.const (.bool true)) (.tmp 200), none, [7, 6, 1, 0, 5, 4, 3, 2, 15, 9, 8, 14, 13, 12, 11, 10]⟩]) (.cond (.tmp 201) (.seq (.reg [⟨some 202, .move (.tmp 8), none, []⟩, ⟨some 203, .call ⟨.value (.tmp 202), #[.const (.int .i64 2)], #[3]⟩, none, []⟩, ⟨none, .store 99 (.tmp 4) (.tmp 203), none, []⟩]) .ret) .skip)) (.seq (.drw 0 [⟨some 204, .move (.tmp 6), none, []⟩, ⟨some 205, .move (.tmp 6), none, []⟩, ⟨some 206, .nilCheck (.tmp 205), none, [1]⟩, ⟨some 207, .fieldAddr 50 (.tmp 206) 1, none, [2, 1]⟩, ⟨some 208, .load 22 (.tmp 207), none, [3, 2, 1]⟩, ⟨some 209, .fieldAddr 57 (.tmp 3) 2, none, []⟩, ⟨some 210, .load 3 (.tmp 209), none, [5]⟩, ⟨some 211, .move (.tmp 6), none, []⟩, ⟨some 212, .nilCheck (.tmp 211), none, [7]⟩, ⟨some 213, .fieldAddr 50 (.tmp 212) 0, none, [8, 7]⟩, ⟨some 214, .load 3 (.tmp 213), none, [9, 8, 7]⟩, ⟨some 215, .binOp .sub 3 (.tmp 210) (.tmp 214) 3, none, [6, 5, 10, 9, 8, 7]⟩, ⟨some 216, .slice 22 (.tmp 208) (some (.tmp 215)) none none, none, [4, 3, 2, 1, 11, 6, 5, 10, 9, 8, 7]⟩, ⟨some 217, .nilCheck (.tmp 204), none, [0, 1, 2, 3, 4, 5, 6, 7, 8, 9, 10, 11, 12]⟩, ⟨some 218, .fieldAddr 50 (.tmp 217) 1, none, [13, 0, 1, 2, 3, 4, 5, 6, 7, 8, 9, 10, 11, 12]⟩, ⟨none, .store 22 (.tmp 218) (.tmp 216), none, [14, 13, 0, 1, 2, 3, 4, 5, 6, 7, 8, 9, 10, 11, 12]⟩]) (.seq (.reg [⟨some 219, .move (.tmp 6), none, []⟩, ⟨some 220, .fieldAddr 57 (.tmp 3) 2, none, []⟩, ⟨some 221, .load 3 (.tmp 220), none, []⟩, ⟨some 222, .nilCheck (.tmp 219), none, []⟩, ⟨some 223, .fieldAddr 50 (.tmp 222) 0, none, []⟩, ⟨none, .store 3 (.tmp 223) (.tmp 221), none, []⟩]) (.seq (.drw 0 [⟨some 224, .move (.tmp 6), none, []⟩, ⟨some 225, .nilCheck (.tmp 224), none, [0]⟩, ⟨some 226, .fieldAddr 50 (.tmp 225) 3, none, [1, 0]⟩, ⟨some 227, .load 3 (.tmp 226), none, [2, 1, 0]⟩, ⟨some 228, .binOp .neq 3 (.tmp 227) (.const (.int .i64 (-1))) 3, none, [3, 2, 1, 0]⟩, ⟨some 229, .move (.tmp 228), none, [4, 3, 2, 1, 0]⟩, ⟨some 230, .move (.tmp 6), some (229, true), [5, 4, 3, 2, 1, 0]⟩, ⟨some 231, .nilCheck (.tmp 230), some (229, true), [6, 5, 4, 3, 2, 1, 0]⟩, ⟨some 232, .fieldAddr 50 (.tmp 231) 3, some (229, true), [7, 6, 5, 4, 3, 2, 1, 0]⟩, ⟨some 233, .load 3 (.tmp 232), some (229, true), [8, 7, 6, 5, 4, 3, 2, 1, 0]⟩, ⟨some 234, .fieldAddr 57 (.tmp 3) 2, some (229, true), [5, 4, 3, 2, 1, 0]⟩, ⟨some 235, .load 3 (.tmp 234), some (229, true), [10, 5, 4, 3, 2, 1, 0]⟩, ⟨some 236, .binOp .lss 3 (.tmp 233) (.tmp 235) 3, some (229, true), [9, 8, 7, 6, 5, 4, 3, 2, 1, 0, 11, 10]⟩, ⟨some 237, .pick (.tmp 229) (.tmp 236) (.const (.bool false)), none, [5, 4, 3, 2, 1, 0, 12, 9, 8, 7, 6, 11, 10]⟩]) (.cond (.tmp 237) (.reg [⟨some 238, .move (.tmp 6), none, []⟩, ⟨some 239, .fieldAddr 57 (.tmp 3) 2, none, []⟩, ⟨some 240, .load 3 (.tmp 239), none, []⟩, ⟨some 241, .nilCheck (.tmp 238), none, []⟩, ⟨some 242, .fieldAddr 50 (.tmp 241) 3, none, []⟩, ⟨none, .store 3 (.tmp 242) (.tmp 240), none, []⟩]) .skip))))) (.seq (.reg [⟨some 244, .binOp .eql 3 (.tmp 34) (.const (.int .i64 5)) 3, none, []⟩, ⟨some 243, .assign (.tmp 244), none, []⟩]) (.cond (.tmp 243) (.seq (.block 4 (.seq (.drw 0 [⟨some 246, .fieldAddr 57 (.tmp 3) 2, none, []⟩, ⟨some 247, .load 3 (.tmp 246), none, [0]⟩, ⟨some 248, .move (.tmp 6), none, []⟩, ⟨some 249, .nilCheck (.tmp 248), none, [2]⟩, ⟨some 250, .fieldAddr 50 (.tmp 249) 0, none, [3, 2]⟩, ⟨some 251, .load 3 (.tmp 250), none, [4, 3, 2]⟩, ⟨some 252, .binOp .lss 3 (.tmp 247) (.tmp 251) 3, none, [1, 0, 5, 4, 3, 2]⟩, ⟨some 253, .move (.tmp 252), none, [6, 1, 0, 5, 4, 3, 2]⟩, ⟨some 254, .fieldAddr 57 (.tmp 3) 2, some (253, false), [7, 6, 1, 0, 5, 4, 3, 2]⟩, ⟨some 255, .load 3 (.tmp 254), some (253, false), [8, 7, 6, 1, 0, 5, 4, 3, 2]⟩, ⟨some 256, .move (.tmp 6), some (253, false), [7, 6, 1, 0, 5, 4, 3, 2]⟩, ⟨some 257, .nilCheck (.tmp 256), some (253, false), [10, 7, 6, 1, 0, 5, 4, 3, 2]⟩, ⟨some 258, .load 50 (.tmp 257), some (253, false), [11, 10, 7, 6, 1, 0, 5, 4, 3, 2]⟩, ⟨some 259, .call ⟨.value (.func 59), #[.tmp 258], #[117]⟩, some (253, false), [12, 11, 10, 7, 6, 1, 0, 5, 4, 3, 2]⟩, ⟨some 260, .binOp .geq 3 (.tmp 255) (.tmp 259) 3, some (253, false), [9, 8, 7, 6, 1, 0, 5, 4, 3, 2, 13, 12, 11, 10]⟩, ⟨some 261, .pick (.tmp 253) (.const (.bool true)) (.tmp 260), none, [7, 6, 1, 0, 5, 4, 3, 2, 14, 9, 8, 13, 12, 11, 10]⟩, ⟨some 245, .assign (.tmp 261), none, [15, 7, 6, 1, 0, 5, 4, 3, 2, 14, 9, 8, 13, 12, 11, 10]⟩]) (.cond (.tmp 245) (.seq (.reg [⟨some 262, .move (.tmp 8), none, []⟩, ⟨some 263, .call ⟨.value (.tmp 262), #[.const (.int .i64 2)], #[3]⟩, none, []⟩, ⟨none, .store 99 (.tmp 4) (.tmp 263), none, []⟩]) .ret) (.seq (.reg [⟨some 265, .fieldAddr 88 (.tmp 7) 1, none, []⟩, ⟨some 266, .load 3 (.tmp 265), none, []⟩, ⟨some 267, .fieldAddr 57 (.tmp 3) 2, none, []⟩, ⟨some 268, .load 3 (.tmp 267), none, []⟩, ⟨some 269, .binOp .gtr 3 (.tmp 266) (.tmp 268) 3, none, []⟩, ⟨some 264, .assign (.tmp 269), none, []⟩]) (.cond (.tmp 264) (.seq (.reg [⟨some 270, .move (.tmp 8), none, []⟩, ⟨some 271, .call ⟨.value (.tmp 270), #[.const (.int .i64 3)], #[3]⟩, none, []⟩, ⟨none, .store 99 (.tmp 4) (.tmp 271), none, []⟩]) .ret) .skip))))) (.reg [⟨some 272, .move (.tmp 6), none, []⟩, ⟨some 273, .fieldAddr 57 (.tmp 3) 2, none, []⟩, ⟨some 274, .load 3 (.tmp 273), none, []⟩, ⟨some 275, .nilCheck (.tmp 272), none, []⟩, ⟨some 276, .fieldAddr 50 (.tmp 275) 3, none, []⟩, ⟨none, .store 3 (.tmp 276) (.tmp 274), none, []⟩])) .skip)))))))))))) (.seq (.seq (.reg [⟨some 277, .move (.tmp 6), none, []⟩, ⟨some 278, .nilCheck (.tmp 277), none, []⟩, ⟨some 279, .fieldAddr 50 (.tmp 278) 3, none, []⟩, ⟨some 280, .load 3 (.tmp 279), none, []⟩, ⟨some 281, .binOp .neq 3 (.tmp 280) (.const (.int .i64 (-1))) 3, none, []⟩]) (.cond (.tmp 281) (.seq (.seq (.drw 0 [⟨some 282, .move (.tmp 6), none, []⟩, ⟨some 283, .nilCheck (.tmp 282), none, [0]⟩, ⟨some 284, .fieldAddr 50 (.tmp 283) 3, none, [1, 0]⟩, ⟨some 285, .load 3 (.tmp 284), none, [2, 1, 0]⟩, ⟨some 286, .move (.tmp 6), none, []⟩, ⟨some 287, .nilCheck (.tmp 286), none, [4]⟩, ⟨some 288, .fieldAddr 50 (.tmp 287) 2, none, [5, 4]⟩, ⟨some 289, .load 48 (.tmp 288), none, [6, 5, 4]⟩, ⟨some 290, .call ⟨.value (.func 24), #[.tmp 289], #[48]⟩, none, [7, 6, 5, 4]⟩, ⟨some 291, .call ⟨.builtin .max, #[.tmp 285, .tmp 290], #[3, 3]⟩, none, [3, 2, 1, 0, 8, 7, 6, 5, 4]⟩, ⟨some 10, .assign (.tmp 291), none, [9, 3, 2, 1, 0, 8, 7, 6, 5, 4]⟩]) (.seq (.reg [⟨some 292, .move (.tmp 10), none, []⟩, ⟨some 293, .move (.tmp 6), none, []⟩, ⟨some 294, .nilCheck (.tmp 293), none, []⟩, ⟨some 295, .load 50 (.tmp 294), none, []⟩, ⟨some 296, .call ⟨.value (.func 59), #[.tmp 295], #[117]⟩, none, []⟩, ⟨some 297, .binOp .lss 3 (.tmp 292) (.tmp 296) 3, none, []⟩]) (.cond (.tmp 297) (.drw 0 [⟨some 298, .move (.tmp 6), none, []⟩, ⟨some 299, .move (.tmp 6), none, []⟩, ⟨some 300, .nilCheck (.tmp 299), none, [1]⟩, ⟨some 301, .fieldAddr 50 (.tmp 300) 1, none, [2, 1]⟩, ⟨some 302, .load 22 (.tmp 301), none, [3, 2, 1]⟩, ⟨some 303, .move (.tmp 10), none, []⟩, ⟨some 304, .move (.tmp 6), none, []⟩, ⟨some 305, .nilCheck (.tmp 304), none, [6]⟩, ⟨some 306, .fieldAddr 50 (.tmp 305) 0, none, [7, 6]⟩, ⟨some 307, .load 3 (.tmp 306), none, [8, 7, 6]⟩, ⟨some 308, .binOp .sub 3 (.tmp 303) (.tmp 307) 3, none, [5, 9, 8, 7, 6]⟩, ⟨some 309, .slice 22 (.tmp 302) none (some (.tmp 308)) none, none, [4, 3, 2, 1, 10, 5, 9, 8, 7, 6]⟩, ⟨some 310, .nilCheck (.tmp 298), none, [0, 1, 2, 3, 4, 5, 6, 7, 8, 9, 10, 11]⟩, ⟨some 311, .fieldAddr 50 (.tmp 310) 1, none, [12, 0, 1, 2, 3, 4, 5, 6, 7, 8, 9, 10, 11]⟩, ⟨none, .store 22 (.tmp 311) (.tmp 309), none, [13, 12, 0, 1, 2, 3, 4, 5, 6, 7, 8, 9, 10, 11]⟩]) .skip))) (.seq (.drw 0 [⟨some 312, .move (.tmp 6), none, []⟩, ⟨some 313, .nilCheck (.tmp 312), none, [0]⟩, ⟨some 314, .fieldAddr 50 (.tmp 313) 3, none, [1, 0]⟩, ⟨some 315, .load 3 (.tmp 314), none, [2, 1, 0]⟩, ⟨some 316, .move (.tmp 6), none, []⟩, ⟨some 317, .nilCheck (.tmp 316), none, [4]⟩, ⟨some 318, .load 50 (.tmp 317), none, [5, 4]⟩, ⟨some 319, .call ⟨.value (.func 59), #[.tmp 318], #[117]⟩, none, [6, 5, 4]⟩, ⟨some 320, .binOp .geq 3 (.tmp 315) (.tmp 319) 3, none, [3, 2, 1, 0, 7, 6, 5, 4]⟩]) (.cond (.tmp 320) (.reg [⟨some 321, .move (.tmp 6), none, []⟩, ⟨some 322, .nilCheck (.tmp 321), none, []⟩, ⟨some 323, .fieldAddr 50 (.tmp 322) 3, none, []⟩, ⟨none, .store 3 (.tmp 323) (.const (.int .i64 (-1))), none, []⟩]) .skip))) .skip)) (.seq (.reg [⟨some 324, .load 39 (.tmp 2), none, []⟩, ⟨some 325, .build 99 #[(0, (.const (.int .i64 0))), (1, (.tmp 324))], none, []⟩, ⟨none, .store 99 (.tmp 4) (.tmp 325), none, []⟩]) .ret))))))))
theorem s67 : Tryd.f67.body.bind (stripC 326) = some B67 := by kernel_rfl
theorem implDo_mk {H : Heap} {E : List Nat} {b : Bk} {cs : List Value} (h : RBk H E b cs) (e : Evt) (hok : bookOkB b = 0) (hev : evOkB b e = true) : Mkr Tryd.prog 67 [.agg cs.toArray, vEv e] H fun H' E' v' => ∃ cs', v' = .agg cs'.toArray ∧ RDn H' E' (doV b e) cs' := by
 have h0 := h
 obtain ⟨v, rfl, hv⟩ := h
 have x := hv.one
 obtain ⟨s1, s2, s3, s4⟩ := bookOk_sec hok
 have hlen : ∀ l, l ∈ b.lines → lenOk l := fun l hl => by
  obtain ⟨i, hi, rfl⟩ := List.getElem_of_mem hl
  have := bookOk_ln hok hi
  exact ⟨by have := this.w1; omega, by have := this.n1; omega⟩
 simp only [evOkB, Bool.and_eq_true, decide_eq_true_eq] at hev
 obtain ⟨_, hop, htr, hne⟩ := hev
 simp only [inB, Bool.and_eq_true, decide_eq_true_eq] at hop htr
 obtain ⟨k, hk⟩ : ∃ k : Nat, e.train = k := ⟨e.train.toNat, by omega⟩
 have hkl : k < b.lines.length := by omega
 have hl : lnAt b e.train = b.lines[k] := by simp [lnAt, hk, hkl]
 have hlo := bookOk_ln hok hkl
 refine Mkr.of_bodyS (N := 326) Tryd.func67 s67 (by kernel_rfl) rfl rfl (by simp) ?_; unfold B67
 repeat (first | refine sA ?_ | refine sB ?_ | refine sC ?_ | refine sD ?_ | refine sE rfl ?_ | refine sF rfl ?_ | refine sG rfl ?_ | ((first | refine sk_reg fun K hK => ?_ | refine sk_drw mix fun K hK => ?_); simp [x]; refine hK _ ?_; clear hK K))
 refine sk_reg fun K hK => ?_; simp [x]
 refine AskX.mkr (copied_mk (RBk.frm.gro h0 (by first | exact Gro.refl _ | exact ⟨_, rfl⟩ | exact ⟨_, by simp only [List.append_assoc, List.cons_append, List.nil_append]; rfl⟩ | exact ⟨[], by simp⟩)) (by omega) hlen) ?_; rintro _ J1 A1 ⟨w1, rfl, r1⟩ o1 n1; simp [r1.one, r1.cv]
 refine hK _ ?_; clear hK K
 repeat (first | refine sA ?_ | refine sB ?_ | refine sC ?_ | refine sD ?_ | refine sE rfl ?_ | refine sF rfl ?_ | refine sG rfl ?_ | ((first | refine sk_reg fun K hK => ?_ | refine sk_drw mix fun K hK => ?_); simp; refine hK _ ?_; clear hK K))
 refine sk_reg fun K hK => ?_; simp [x, r1.one, r1.cv]
 refine AskX.mkr (copied_mk (RBk.frm.gro h0 (by first | exact Gro.refl _ | exact ⟨_, rfl⟩ | exact ⟨_, by simp only [List.append_assoc, List.cons_append, List.nil_append]; rfl⟩ | exact ⟨[], by simp⟩)) (by omega) hlen) ?_; rintro _ J2 A2 ⟨w2, rfl, r2⟩ o2 n2; simp [r1.one, r1.cv, r2.one, r2.cv]
 refine hK _ ?_; clear hK K
 simp only [List.append_assoc, List.cons_append, List.nil_append, List.length_append, List.length_cons, List.length_nil] at r1 o1 n1 r2 o2 n2
 obtain ⟨W, hW⟩ : ∃ W, W = H.length + (J1.length + 3) := ⟨_, rfl⟩
 have o1l := o1.lt
 simp only [List.length_append, List.length_cons] at o1l
 refine sk_at [(2, pt H.length 0), (3, pt (H.length + 1) 0), (4, pt (H.length + 2) 0), (5, pt W 0)]
  (fun H1 => Gro H H1 ∧ H1[H.length]? = some ⟨39, [.bool b.ok, iv b.sec, w2], true, true⟩ ∧ H1[H.length + 1]? = some ⟨57, [iv e.op, iv e.train, iv e.n], true, true⟩ ∧ H1[H.length + 2]? = some ⟨99, [iv 0, .bool false, iv 0, nl], true, true⟩ ∧
   H1[W]? = some ⟨39, [.bool b.ok, iv b.sec, w1], true, true⟩ ∧ RS 4 RLnW H1 A1 w1 b.lines ∧ Own H1 A1 ∧ (∀ e, e ∈ A1 → H.length + 3 ≤ e) ∧ RS 4 RLnW H1 A2 w2 b.lines ∧ Own H1 A2 ∧ (∀ e, e ∈ A2 → H.length + 3 ≤ e ∧ e ≠ W)) (by simp [subL, getT, hW]) ?_ ?_
 ·generalize hF : H ++ _ = F
  have g1 : ∀ e, e ∈ A1 → F[e]? = J1[e - (H.length + 3)]? := fun e he => by
   have := n1 e he
   have := o1l e he
   rw [← hF, get_t3 _ _ _ _ _ (by omega), List.getElem?_append_left (by omega)]
  have g2 : ∀ e, e ∈ A2 → F[e]? = (J1 ++ ⟨39, [.bool b.ok, iv b.sec, w1], true, true⟩ :: J2)[e - (H.length + 3)]? := fun e he => by
   have := n2 e he
   rw [← hF, get_t3 _ _ _ _ _ (by omega)]
  have k1 : ∀ e, e ∈ A1 → H.length + 3 ≤ e := fun e he => by have := n1 e he; omega
  have k2 : ∀ e, e ∈ A2 → H.length + 3 ≤ e := fun e he => by have := n2 e he; omega
  refine ⟨by rw [← hF]; exact Gro.one _ _, by rw [← hF]; simp, by rw [← hF]; simp, by rw [← hF]; simp, ?_, r1.fr RLnW.frm fun e he _ => (g1 e he).trans (get_t3 _ _ _ _ _ (k1 e he)).symm, o1.fr fun e he => (g1 e he).trans (get_t3 _ _ _ _ _ (k1 e he)).symm, k1,
   r2.fr RLnW.frm fun e he _ => (g2 e he).trans (get_t3 _ _ _ _ _ (k2 e he)).symm, o2.fr fun e he => (g2 e he).trans (get_t3 _ _ _ _ _ (k2 e he)).symm, fun e he => by have := n2 e he; omega⟩
  rw [← hF, hW, get_t3 _ _ _ _ _ (by omega), List.getElem?_append_right (by omega), show H.length + (J1.length + 3) - (H.length + 3) - J1.length = 0 by omega]
  rfl
 clear r1 o1 n1 r2 o2 n2 o1l
 rintro H1 ⟨hg, b0, b1, b2, bw, r1, o1, l1, r2, o2, l2⟩
 have hl1 := hg.len
 have hwlt := lt_of_get bw
 obtain ⟨id, o, Ek, ck, a, z, ty, rfl, hid2, hnid, hsub, hnd, ⟨E1, E2, v1, v2, rfl, rfl, hway, hgrs⟩, _, hal, hbk, hcl⟩ := r2.upd RLnW.frm RLn.frm (fun l hl E cs hr => hr.ln (hlen l hl)) o2 hkl
 have hlast : lastG b.lines[k] = gAt b.lines[k].grs (b.lines[k].grs.length - 1) := rfl
 generalize hln : b.lines[k] = l at *
 have hn0 := hlo.n0
 have hgrs0 := hgrs
 rcases hgrs with ⟨_, hh, _⟩ | ⟨idg, Eg, gcs, rfl, rfl, hgb, hgr⟩
 ·rw [hh] at hn0; simp at hn0
 have hgl : l.grs.length - 1 < l.grs.length := by omega
 obtain ⟨_, _, hsl, _, f0, f1⟩ := (hgrs0.rs (by have := hlo.n1; omega)).gr hgl
 simp at hsl
 obtain ⟨rfl, rfl⟩ := hsl
 rw [← gAt_eq hgl, ← hlast] at f0 f1
 have c2 : CF H1 H.length 2 (sl id o b.lines.length) := CF.of b0 rfl rfl
 have e1 : CF H1 (H.length + 1) 1 (iv k) := by rw [← hk]; exact CF.of b1 rfl rfl
 have e0 : CF H1 (H.length + 1) 0 (iv e.op) := CF.of b1 rfl rfl
 have d2 : CF H1 id (o + k * 4 + 2) (sl idg 0 l.grs.length) := CF.of hbk rfl (by have := get_mid (j := 2) (z := z) (m := [iv l.gone, v1, sl idg 0 l.grs.length, iv l.drop]) hal rfl; simpa using this)
 have hwg : IntKind.i64.wrap ((l.grs.length : Int) - 1) = ((l.grs.length - 1 : Nat) : Int) := by rw [wrap_id (by omega) (by have := hlo.n1; omega)]; omega
 simp only [Nat.zero_add] at f0 f1
 refine sk_seq ?_
 refine sk_reg fun K hK => ?_; simp [c2.s, e1.s, hkl]
 refine hK _ ?_; clear hK K
 refine sk_seq ?_
 refine sk_drw mix fun K hK => ?_; simp [d2.s, hwg, hgl, f0.s, f1.s, hl1]
 refine hK _ ?_; clear hK K
 refine sk_seq ?_
 refine sk_reg fun K hK => ?_; simp
 refine hK _ ?_; clear hK K
 refine sk_seq ?_
 refine sk_seq ?_
 refine sk_reg fun K hK => ?_; simp [e0.s]
 refine hK _ ?_; clear hK K
 obtain ⟨T, hT⟩ : ∃ T, T = H1.length := ⟨_, rfl⟩
 refine sk_at [(2, pt H.length 0), (3, pt (H.length + 1) 0), (4, pt (H.length + 2) 0), (5, pt W 0), (6, pt id (o + k * 4)), (7, pt T 0), (8, .func (.func 82) #[] #[pt W 0]), (34, iv e.op)]
  (fun H2 => DoI H H2 b e l w1 (sl id o b.lines.length) A1 A2 W T id (o + k * 4) (E1 ++ (idg :: Eg)) a z ty v1 (sl idg 0 l.grs.length) E1 (idg :: Eg)) (by simp [subL, getT, hT]) ?_ ?_
 ·have bd1 := r1.bd RLnW.frm
  have bd2 := o2.lt
  have gg : Gro H1 (H1 ++ [⟨88, [iv (lastG l).ver, iv (lastG l).cel], true, true⟩]) := Gro.one _ _
  exact {
   g := hg.trans gg, b0 := gg.get b0, b1 := gg.get b1, b2 := gg.get b2, bw := gg.get bw
   bt := by rw [hT]; simp
   r1 := r1.gro gg RLnW.frm, o1 := o1.gro gg, l1 := l1, r2 := r2.gro gg RLnW.frm, o2 := o2.gro gg
   l2 := fun e he => ⟨(l2 e he).1, (l2 e he).2, by have := bd2 e he; omega⟩
   id2 := hid2, sub := hsub, nid := hnid, al := hal, bk := gg.get hbk, ek := rfl
   way := hway.gro gg (RP.frm _), grs := hgrs0.gro gg (RP.frm _)
   cl := fun H' x' ck' Ek' h1 h2 h3 h4 h5 h6 => by
    have := hcl H' x' ck' Ek' h1 h2 h3 h4 (fun e he hne hnk => by rw [h5 e he hne hnk, gg.same (bd2 e he)]) h6
    rw [hk, Int.toNat_natCast]; exact this
   wlt := by omega, tlt := by have := lt_of_get b2; omega }
 rintro H2 hD
 have hl2 := hD.g.len
 have r1ln := hD.r1.ofW hlen
 have cw0 : CF H2 W 0 (.bool b.ok) := CF.of hD.bw rfl rfl
 have cw1 : CF H2 W 1 (iv b.sec) := CF.of hD.bw rfl rfl
 have cw2 : CF H2 W 2 w1 := CF.of hD.bw rfl rfl
 have fac := fun c : Int => doFail_ac c cw0 cw1 cw2 r1ln.one r1ln.clo
 have z0 : CF H2 (H.length + 2) 0 (iv 0) := CF.of hD.b2 rfl rfl
 have z1 : CF H2 (H.length + 2) 1 (.bool false) := CF.of hD.b2 rfl rfl
 have z2 : CF H2 (H.length + 2) 2 (iv 0) := CF.of hD.b2 rfl rfl
 have z3 : CF H2 (H.length + 2) 3 nl := CF.of hD.b2 rfl rfl
 have zr := RF.of hD.b2
 have x1 := r1ln.one
 have x1v := r1ln.cv
 have e0 : CF H2 (H.length + 1) 0 (iv e.op) := CF.of hD.b1 rfl rfl
 have e1 : CF H2 (H.length + 1) 1 (iv e.train) := CF.of hD.b1 rfl rfl
 have e2 : CF H2 (H.length + 1) 2 (iv e.n) := CF.of hD.b1 rfl rfl
 have b0 : CF H2 H.length 0 (.bool b.ok) := CF.of hD.b0 rfl rfl
 have b1 : CF H2 H.length 1 (iv b.sec) := CF.of hD.b0 rfl rfl
 have b2 : CF H2 H.length 2 (sl id o b.lines.length) := CF.of hD.b0 rfl rfl
 have t0 : CF H2 T 0 (iv (lastG l).ver) := CF.of hD.bt rfl rfl
 have t1 : CF H2 T 1 (iv (lastG l).cel) := CF.of hD.bt rfl rfl
 have m0 : CF H2 id (o + k * 4) (iv l.gone) := CF.of hD.bk rfl (by have := get_mid (j := 0) (z := z) (m := [iv l.gone, v1, sl idg 0 l.grs.length, iv l.drop]) hD.al rfl; simpa using this)
 have m1 : CF H2 id (o + k * 4 + 1) v1 := CF.of hD.bk rfl (by have := get_mid (j := 1) (z := z) (m := [iv l.gone, v1, sl idg 0 l.grs.length, iv l.drop]) hD.al rfl; simpa using this)
 have m2 : CF H2 id (o + k * 4 + 2) (sl idg 0 l.grs.length) := CF.of hD.bk rfl (by have := get_mid (j := 2) (z := z) (m := [iv l.gone, v1, sl idg 0 l.grs.length, iv l.drop]) hD.al rfl; simpa using this)
 have m3 : CF H2 id (o + k * 4 + 3) (iv l.drop) := CF.of hD.bk rfl (by have := get_mid (j := 3) (z := z) (m := [iv l.gone, v1, sl idg 0 l.grs.length, iv l.drop]) hD.al rfl; simpa using this)
 have mr := RF.of hD.bk
 have finF : ∀ (c : Int), evLn b.lines l e = (c, l) → c ≠ 0 → H.length ≤ List.length ((((H2.put (H.length + 2) 0 (iv c)).put (H.length + 2) 1 (.bool b.ok)).put (H.length + 2) 2 (iv b.sec)).put (H.length + 2) 3 w1) ∧ (∀ i, i < H.length → ((((H2.put (H.length + 2) 0 (iv c)).put (H.length + 2) 1 (.bool b.ok)).put (H.length + 2) 2 (iv b.sec)).put (H.length + 2) 3 w1)[i]? = H[i]?) ∧
   ∃ E, RDn ((((H2.put (H.length + 2) 0 (iv c)).put (H.length + 2) 1 (.bool b.ok)).put (H.length + 2) 2 (iv b.sec)).put (H.length + 2) 3 w1) E (doV b e) [iv c, .bool b.ok, iv b.sec, w1] ∧
    Own ((((H2.put (H.length + 2) 0 (iv c)).put (H.length + 2) 1 (.bool b.ok)).put (H.length + 2) 2 (iv b.sec)).put (H.length + 2) 3 w1) E ∧ ∀ e, e ∈ E → H.length ≤ e := by
  intro c hc hc0
  have hF : ∀ i, i ≠ H.length + 2 → ((((H2.put (H.length + 2) 0 (iv c)).put (H.length + 2) 1 (.bool b.ok)).put (H.length + 2) 2 (iv b.sec)).put (H.length + 2) 3 w1)[i]? = H2[i]? := fun i hi => by
   rw [get_put_ne _ _ _ hi, get_put_ne _ _ _ hi, get_put_ne _ _ _ hi, get_put_ne _ _ _ hi]
  refine ⟨by simp only [length_put]; exact hl2, ?_⟩
  generalize ((((H2.put (H.length + 2) 0 (iv c)).put (H.length + 2) 1 (.bool b.ok)).put (H.length + 2) 2 (iv b.sec)).put (H.length + 2) 3 w1) = F at hF ⊢
  have hdv : doV b e = ⟨c, b⟩ := by simp [doV, hl, hc, hc0]
  refine ⟨fun i hi => by rw [hF i (by omega)]; exact hD.g.same hi, A1, ⟨_, by rw [hdv], ⟨w1, by rw [hdv], ?_⟩⟩, hD.o1.fr fun e he => hF e (by have := hD.l1 e he; omega), fun e he => by have := hD.l1 e he; omega⟩
  rw [hdv]
  exact r1ln.fr RLn.frm fun e he _ => hF e (by have := hD.l1 e he; omega)
 have hidlt := lt_of_get hD.bk
 have hid3 := (hD.l2 id hD.id2).1
 have hidH : H.length ≤ id := by omega
 have nidL : id ≠ H.length := by omega
 have nidL2 : id ≠ H.length + 2 := by omega
 have nidL1 : id ≠ H.length + 1 := by omega
 have gwy : RS 1 RInt H2 E1 v1 l.way := hD.way.rs (by have := hlo.w1; omega)
 have ggr : RS 2 RGr H2 (idg :: Eg) (sl idg 0 l.grs.length) l.grs := hD.grs.rs (by have := hlo.n1; omega)
 have yv := gwy.one
 have htd : totL l = l.gone + l.way.length := rfl
 have q0 := hlo.g0
 have q1 := hlo.t1
 have q2 := hlo.w1
 have q3 := hlo.n1
 have hrch := hlo.reach
 have hrc0 := reachL_nn l.grs
 have htot : IntKind.i64.wrap (l.gone + l.way.length) = totL l := wrap_id (x := l.gone + l.way.length) (by omega) (by omega)
 have ownk : Own H2 (E1 ++ (idg :: Eg)) := ⟨by rw [← hD.ek]; exact hnd, fun i hi => hD.o2.2 i (hD.sub i hi)⟩
 have subk : ∀ e, e ∈ E1 ++ (idg :: Eg) → (e ∈ E1 ++ (idg :: Eg) ∨ e ∉ A2) ∧ H.length + 3 ≤ e ∧ e ≠ id := fun e he => ⟨.inl he, (hD.l2 e (hD.sub e he)).1, fun hh => hD.nid (hh ▸ he)⟩
 have hbl := hD.o2.lt
 have v1n : v1 ≠ es := by
  rcases hD.way with ⟨h, _⟩ | ⟨i, _, _, h, _⟩
  ·rw [h]; simp
  ·rw [h]; simp
 -- a line changed in its own cells alone
 have stay : ∀ (l' : Ln) (u1 u2 : Value) (F : Heap), evLn b.lines l e = (0, l') → (∀ i, i ≠ id → F[i]? = H2[i]?) → F[id]? = some ⟨ty, a ++ ([iv l'.gone, u1, u2, iv l'.drop] ++ z), true, true⟩ → u1 ≠ es →
   RS 1 RInt H2 E1 u1 l'.way → RS 2 RGr H2 (idg :: Eg) u2 l'.grs → ∃ l' u1 u2 F1 F2, evLn b.lines l e = (0, l') ∧ Gro H F ∧ F[H.length]? = some ⟨39, [.bool b.ok, iv b.sec, sl id o b.lines.length], true, true⟩ ∧ F[H.length + 2]? = some ⟨99, [iv 0, .bool false, iv 0, nl], true, true⟩ ∧
   F[id]? = some ⟨ty, a ++ ([iv l'.gone, u1, u2, iv l'.drop] ++ z), true, true⟩ ∧ u1 ≠ es ∧ RS 1 RInt F F1 u1 l'.way ∧ RS 2 RGr F F2 u2 l'.grs ∧ Own F (F1 ++ F2) ∧ (∀ e, e ∈ F1 ++ F2 → (e ∈ E1 ++ (idg :: Eg) ∨ e ∉ A2) ∧ H.length + 3 ≤ e ∧ e ≠ id) ∧
   ∀ e, e ∈ A2 → e ≠ id → e ∉ E1 ++ (idg :: Eg) → F[e]? = H2[e]? := by
  intro l' u1 u2 F h1 h2 h3 h3' h4 h5
  have hk : ∀ e, e ∈ E1 ++ (idg :: Eg) → F[e]? = H2[e]? := fun e he => h2 e (subk e he).2.2
  refine ⟨l', u1, u2, E1, idg :: Eg, h1, ?_, by rw [h2 _ (Ne.symm nidL)]; exact hD.b0, by rw [h2 _ (Ne.symm nidL2)]; exact hD.b2, h3, h3', h4.fr (RP.frm _) fun e he _ => hk e (by simp [he]), h5.fr (RP.frm _) fun e he _ => hk e (List.mem_append_right _ he), ownk.fr hk, subk, fun e _ he _ => h2 e he⟩
  refine Gro.of ?_ fun i hi => by rw [h2 i (by omega)]; exact hD.g.same hi
  by_cases hn : H.length = 0
  ·omega
  ·have : F[H.length - 1]? = H2[H.length - 1]? := h2 _ (by omega)
   rw [List.getElem?_eq_getElem (show H.length - 1 < H2.length by omega)] at this
   have := lt_of_get this
   omega
 refine sk_cut [(2, pt H.length 0), (4, pt (H.length + 2) 0), (6, pt id (o + k * 4))]
  (fun H3 => ∃ l' u1 u2 F1 F2, evLn b.lines l e = (0, l') ∧ Gro H H3 ∧ H3[H.length]? = some ⟨39, [.bool b.ok, iv b.sec, sl id o b.lines.length], true, true⟩ ∧ H3[H.length + 2]? = some ⟨99, [iv 0, .bool false, iv 0, nl], true, true⟩ ∧
   H3[id]? = some ⟨ty, a ++ ([iv l'.gone, u1, u2, iv l'.drop] ++ z), true, true⟩ ∧ u1 ≠ es ∧ RS 1 RInt H3 F1 u1 l'.way ∧ RS 2 RGr H3 F2 u2 l'.grs ∧ Own H3 (F1 ++ F2) ∧ (∀ e, e ∈ F1 ++ F2 → (e ∈ E1 ++ (idg :: Eg) ∨ e ∉ A2) ∧ H.length + 3 ≤ e ∧ e ≠ id) ∧
   ∀ e, e ∈ A2 → e ≠ id → e ∉ E1 ++ (idg :: Eg) → H3[e]? = H2[e]?) ?_ ?_
 ·by_cases p1 : e.op = 1
  ·have p1' := eq_true p1
   have hown := owner_ac (H := H2) (E := A2) (b := b) (cs := [.bool b.ok, iv b.sec, sl id o b.lines.length]) ⟨_, rfl, hD.r2.ofW hlen⟩ e.n
   by_cases c1 : 0 ≤ ownB b.lines e.n
   ·repeat (first | refine sA ?_ | refine sB ?_ | refine sC ?_ | refine sD ?_ | refine sE rfl ?_ | refine sF rfl ?_ | refine sG rfl ?_ | ((first | refine sk_reg fun K hK => ?_ | refine sk_drw mix fun K hK => ?_); simp [p1', c1, b0.s, b1.s, b2.s, e2.s, z0.s, z1.s, z2.s, z3.s, zr.s, x1]; (repeat ((first | refine AskX.go (hown) ?_ | refine AskD.go (hown) ?_ | refine AskX.go (fac 2) ?_ | refine AskD.go (fac 2) ?_); simp [p1', c1, b0.s, b1.s, b2.s, e2.s, z0.s, z1.s, z2.s, z3.s, zr.s, x1])); refine hK _ ?_; clear hK K))
    refine sk_ret ?_; simp [z0.s, z1.s, z2.s, z3.s]
    exact finF 2 (by simp [evLn, p1, c1]) (by decide)
   by_cases c2 : l.drop = -1
   case neg =>
    repeat (first | refine sA ?_ | refine sB ?_ | refine sC ?_ | refine sD ?_ | refine sE rfl ?_ | refine sF rfl ?_ | refine sG rfl ?_ | ((first | refine sk_reg fun K hK => ?_ | refine sk_drw mix fun K hK => ?_); simp [p1', c1, c2, b0.s, b1.s, b2.s, e2.s, m3.s, z0.s, z1.s, z2.s, z3.s, zr.s, x1]; (repeat ((first | refine AskX.go (hown) ?_ | refine AskD.go (hown) ?_ | refine AskX.go (fac 3) ?_ | refine AskD.go (fac 3) ?_); simp [p1', c1, c2, b0.s, b1.s, b2.s, e2.s, m3.s, z0.s, z1.s, z2.s, z3.s, zr.s, x1])); refine hK _ ?_; clear hK K))
    refine sk_ret ?_; simp [z0.s, z1.s, z2.s, z3.s]
    exact finF 3 (by simp [evLn, p1, c1, c2]) (by decide)
   have c2' := eq_true c2
   have hfull : (l.way.length = 100 ∨ totL l = 1000000) ∨ ¬ (l.way.length = 100 ∨ totL l = 1000000) := Classical.em _
   rcases hfull with c3 | c3
   ·by_cases c4 : l.way.length = 100
    ·have c4' := eq_true c4
     have c4i : ((l.way.length : Int) = 100) = True := eq_true (by omega)
     obtain ⟨av, cv, hvf⟩ := gwy.form
     rw [hvf] at m1
     repeat (first | refine sA ?_ | refine sB ?_ | refine sC ?_ | refine sD ?_ | refine sE rfl ?_ | refine sF rfl ?_ | refine sG rfl ?_ | ((first | refine sk_reg fun K hK => ?_ | refine sk_drw mix fun K hK => ?_); simp [p1', c1, c2', c4', c4i, b0.s, b1.s, b2.s, e2.s, m3.s, m1.s, z0.s, z1.s, z2.s, z3.s, zr.s, x1]; (repeat ((first | refine AskX.go (hown) ?_ | refine AskD.go (hown) ?_ | refine AskX.go (fac 4) ?_ | refine AskD.go (fac 4) ?_); simp [p1', c1, c2', c4', c4i, b0.s, b1.s, b2.s, e2.s, m3.s, m1.s, z0.s, z1.s, z2.s, z3.s, zr.s, x1])); refine hK _ ?_; clear hK K))
     refine sk_ret ?_; simp [z0.s, z1.s, z2.s, z3.s]
     exact finF 4 (by simp [evLn, p1, c1, c2, c3]) (by decide)
    ·have c5 := eq_true (c3.resolve_left c4)
     have c4i : ¬ ((l.way.length : Int) = 100) := by omega
     obtain ⟨av, cv, hvf⟩ := gwy.form
     rw [hvf] at m1
     repeat (first | refine sA ?_ | refine sB ?_ | refine sC ?_ | refine sD ?_ | refine sE rfl ?_ | refine sF rfl ?_ | refine sG rfl ?_ | ((first | refine sk_reg fun K hK => ?_ | refine sk_drw mix fun K hK => ?_); simp [p1', c1, c2', c4, c4i, c5, htot, b0.s, b1.s, b2.s, e2.s, m0.s, m1.s, m2.s, m3.s, z0.s, z1.s, z2.s, z3.s, zr.s, x1]; (repeat ((first | refine AskX.go (hown) ?_ | refine AskD.go (hown) ?_ | refine AskX.go (total_ac ⟨_, _, rfl⟩ rfl) ?_ | refine AskD.go (total_ac ⟨_, _, rfl⟩ rfl) ?_ | refine AskX.go (fac 4) ?_ | refine AskD.go (fac 4) ?_); simp [p1', c1, c2', c4, c4i, c5, htot, b0.s, b1.s, b2.s, e2.s, m0.s, m1.s, m2.s, m3.s, z0.s, z1.s, z2.s, z3.s, zr.s, x1])); refine hK _ ?_; clear hK K))
     refine sk_ret ?_; simp [z0.s, z1.s, z2.s, z3.s]
     exact finF 4 (by simp [evLn, p1, c1, c2, c3]) (by decide)
   have c4 : ¬ l.way.length = 100 := fun h => c3 (.inl h)
   have c5 : ¬ totL l = 1000000 := fun h => c3 (.inr h)
   have c4i : ¬ ((l.way.length : Int) = 100) := by omega
   have hres : evLn b.lines l e = (0, { l with way := l.way ++ [e.n] }) := by simp [evLn, p1, c1, c2, c3]
   have hone : RS 1 RInt (H2 ++ [⟨3, [iv e.n], true, true⟩]) [H2.length] (sl H2.length 0 1) [e.n] := ⟨by simp, .inr ⟨H2.length, 0, [], 3, true, [], [iv e.n], [], rfl, rfl, by simp, rfl, [], [], [iv e.n], [], rfl, rfl, rfl, ⟨rfl, rfl⟩, rfl, rfl⟩⟩
   have owE1 : Own H2 E1 := ownk.left
   have hE1 : ∀ e, e ∈ E1 → e < H2.length := fun e he => owE1.lt e he
   obtain ⟨k', u1, H3, E', f1, f2, f3, f4, f5, f6, f7⟩ := app_plain (P := Tryd.prog) (t := 22) (e := 3) (sz := 0) (by' := 8) (z := iv 0) (by simp) (by simp) (by simp) (by simp) rfl (g := cInt) (fun _ => rfl) (hD.way.ext (RP.frm _)) (owE1.ext hE1) hone (by simp; omega) (by simp [maxLen]; omega)
   have nidE : id ∉ E1 := fun hh => hD.nid (by simp [hh])
   have g3 : ∀ i, i < H2.length → i ∉ E1 → H3[i]? = H2[i]? := fun i hi hn => by rw [f4 i (by simp; omega) hn, List.getElem?_append_left hi]
   have hid3' : H3[id]? = _ := (g3 id hidlt nidE).trans hD.bk
   have wr1 : wrO H.length [] k' := fun i hi => .inl (by have := (f2 i hi).1; have := (hD.l2 i (hD.sub i (by simp [this]))).1; omega)
   have lv1 : liveO (H2 ++ [⟨3, [iv e.n], true, true⟩]) k' := fun i hi => (f2 i hi).2
   have n1 : CF H3 id (o + k * 4 + 1) v1 := CF.of hid3' rfl (by have := get_mid (j := 1) (z := z) (m := [iv l.gone, v1, sl idg 0 l.grs.length, iv l.drop]) hD.al rfl; simpa using this)
   have nr := RF.of hid3'
   have f3' : H2.length + 1 ≤ H3.length := by simpa using f3
   obtain ⟨av, cv, hvf⟩ := gwy.form
   have m1v := m1
   rw [hvf] at m1v
   repeat (first | refine sA ?_ | refine sB ?_ | refine sC ?_ | refine sD ?_ | refine sE rfl ?_ | refine sF rfl ?_ | refine sG rfl ?_ | ((first | refine sk_reg fun K hK => ?_ | refine sk_drw mix fun K hK => ?_); simp [p1', c1, c2', c4, c4i, c5, htot, b0.s, b1.s, b2.s, e2.s, m0.s, m1v.s, m2.s, m3.s, x1]; (repeat ((first | refine AskX.go (hown) ?_ | refine AskD.go (hown) ?_ | refine AskX.go (total_ac ⟨_, _, rfl⟩ rfl) ?_ | refine AskD.go (total_ac ⟨_, _, rfl⟩ rfl) ?_); simp [p1', c1, c2', c4, c4i, c5, htot, b0.s, b1.s, b2.s, e2.s, m0.s, m1v.s, m2.s, m3.s, x1])); refine hK _ ?_; clear hK K))
   refine sk_drw mix fun K hK => ?_; simp [m1.s, e2.s, f1, wr1, lv1, f3', n1.s, nr.s, f5.one, f5.cv, hl2, hidH]
   refine hK _ ?_; clear hK K
   repeat (first | refine sA ?_ | refine sB ?_ | refine sC ?_ | refine sD ?_ | refine sE rfl ?_ | refine sF rfl ?_ | refine sG rfl ?_ | ((first | refine sk_reg fun K hK => ?_ | refine sk_drw mix fun K hK => ?_); simp; refine hK _ ?_; clear hK K))
   have g4 : ∀ i, i ≠ id → (H3.put id (o + k * 4 + 1) u1)[i]? = H3[i]? := fun i hi => get_put_ne _ _ _ hi
   have hidF : (H3.put id (o + k * 4 + 1) u1)[id]? = some ⟨ty, a ++ ([iv l.gone, u1, sl idg 0 l.grs.length, iv l.drop] ++ z), true, true⟩ := by
    rw [get_put, hid3']
    simp only [Option.map_some]
    rw [set_mid hD.al (by simp)]; rfl
   have hE'n : ∀ e, e ∈ E' → (e ∈ E1 ∨ e = H2.length + 1) := fun e he => by rcases f7 e he with h | h; exact .inl h; right; simpa using h
   have hE'i : ∀ e, e ∈ E' → e ≠ id := fun e he hh => by rcases hE'n e he with h | h; exact nidE (hh ▸ h); omega
   have hkg : ∀ e, e ∈ (idg :: Eg) → (H3.put id (o + k * 4 + 1) u1)[e]? = H2[e]? := fun e he => by
    have h1 := subk e (List.mem_append_right _ he)
    rw [g4 e h1.2.2, g3 e (ownk.right.lt e he) (fun hh => (List.nodup_append.1 ownk.1).2.2 e hh e he rfl)]
   have gro3 : Gro H (H3.put id (o + k * 4 + 1) u1) := Gro.of (by rw [length_put]; omega) fun i hi => by
    rw [g4 i (by omega), g3 i (by omega) fun hh => by have := (subk i (List.mem_append_left _ hh)).2.1; omega]; exact hD.g.same hi
   have u1n : u1 ≠ es := by
    rcases f5 with ⟨h, _⟩ | ⟨_, _, _, h, _⟩ <;> rw [h] <;> simp
   refine sk_inv ⟨by simp [subL, getT], _, u1, sl idg 0 l.grs.length, E', idg :: Eg, hres, gro3, ?_, ?_, hidF, u1n, ?_, ggr.fr (RP.frm _) fun e he _ => hkg e he, ?_, ?_, ?_⟩
   ·rw [g4 _ (by omega), g3 _ (by omega) fun hh => by have := (subk _ (List.mem_append_left _ hh)).2.1; omega]; exact hD.b0
   ·rw [g4 _ (by omega), g3 _ (lt_of_get hD.b2) fun hh => by have := (subk _ (List.mem_append_left _ hh)).2.1; omega]; exact hD.b2
   ·exact (f5.rs (by simp; omega)).fr (RP.frm _) fun e he _ => g4 e (hE'i e he)
   ·refine (f6.fr fun e he => g4 e (hE'i e he)).app (ownk.right.fr hkg) fun e h1 h2 => ?_
    rcases hE'n e h1 with h | h
    ·exact (List.nodup_append.1 ownk.1).2.2 e h e h2 rfl
    ·have := ownk.right.lt e h2; omega
   ·intro e he
    rcases List.mem_append.1 he with he | he
    ·rcases hE'n e he with h | h
     ·exact subk e (List.mem_append_left _ h)
     ·exact ⟨.inr fun hh => by have := hbl e hh; omega, by omega, hE'i e he⟩
    ·exact subk e (List.mem_append_right _ he)
   ·intro e h1 h2 h3
    rw [g4 e h2, g3 e (hbl e h1) fun hh => h3 (List.mem_append_left _ hh)]
  have hn10 : 0 ≤ e.n ∧ e.n ≤ 1000000 := by
   rw [if_neg p1] at hne
   simpa [inB] using hne
  have hlg := hlo.gs (l.grs.length - 1) hgl
  have hlG : lastG l = l.grs[l.grs.length - 1] := by rw [hlast, gAt_eq hgl]
  rw [← hlG] at hlg
  obtain ⟨av, cv, hvf⟩ := gwy.form
  have m1v := m1
  rw [hvf] at m1v
  by_cases p2 : e.op = 2
  ·have p2' := eq_true p2
   by_cases c1 : e.n < l.gone
   ·repeat (first | refine sA ?_ | refine sB ?_ | refine sC ?_ | refine sD ?_ | refine sE rfl ?_ | refine sF rfl ?_ | refine sG rfl ?_ | ((first | refine sk_reg fun K hK => ?_ | refine sk_drw mix fun K hK => ?_); simp [p1, p2', c1, e2.s, m0.s, m1v.s, m2.s, m3.s, z0.s, z1.s, z2.s, z3.s, zr.s, x1]; (repeat ((first | refine AskX.go (total_ac ⟨_, _, rfl⟩ rfl) ?_ | refine AskD.go (total_ac ⟨_, _, rfl⟩ rfl) ?_ | refine AskX.go (fac 2) ?_ | refine AskD.go (fac 2) ?_); simp [p1, p2', c1, e2.s, m0.s, m1v.s, m2.s, m3.s, z0.s, z1.s, z2.s, z3.s, zr.s, x1])); refine hK _ ?_; clear hK K))
    refine sk_ret ?_; simp [z0.s, z1.s, z2.s, z3.s]
    exact finF 2 (by simp [evLn, p2, c1]) (by decide)
   by_cases c2 : totL l < e.n
   ·repeat (first | refine sA ?_ | refine sB ?_ | refine sC ?_ | refine sD ?_ | refine sE rfl ?_ | refine sF rfl ?_ | refine sG rfl ?_ | ((first | refine sk_reg fun K hK => ?_ | refine sk_drw mix fun K hK => ?_); simp [p1, p2', c1, c2, htot, e2.s, m0.s, m1v.s, m2.s, m3.s, z0.s, z1.s, z2.s, z3.s, zr.s, x1]; (repeat ((first | refine AskX.go (total_ac ⟨_, _, rfl⟩ rfl) ?_ | refine AskD.go (total_ac ⟨_, _, rfl⟩ rfl) ?_ | refine AskX.go (fac 2) ?_ | refine AskD.go (fac 2) ?_); simp [p1, p2', c1, c2, htot, e2.s, m0.s, m1v.s, m2.s, m3.s, z0.s, z1.s, z2.s, z3.s, zr.s, x1])); refine hK _ ?_; clear hK K))
    refine sk_ret ?_; simp [z0.s, z1.s, z2.s, z3.s]
    exact finF 2 (by simp [evLn, p2, c2]) (by decide)
   have c3 : (l.drop = -1 ∨ (l.drop ≠ -1 ∧ ¬ l.drop < e.n)) ∨ (l.drop ≠ -1 ∧ l.drop < e.n) := by omega
   rcases c3 with c3 | c3
   case inr =>
    have c4 := c3.1
    have c5 := c3.2
    repeat (first | refine sA ?_ | refine sB ?_ | refine sC ?_ | refine sD ?_ | refine sE rfl ?_ | refine sF rfl ?_ | refine sG rfl ?_ | ((first | refine sk_reg fun K hK => ?_ | refine sk_drw mix fun K hK => ?_); simp [p1, p2', c1, c2, c4, c5, htot, e2.s, m0.s, m1v.s, m2.s, m3.s, z0.s, z1.s, z2.s, z3.s, zr.s, x1]; (repeat ((first | refine AskX.go (total_ac ⟨_, _, rfl⟩ rfl) ?_ | refine AskD.go (total_ac ⟨_, _, rfl⟩ rfl) ?_ | refine AskX.go (fac 2) ?_ | refine AskD.go (fac 2) ?_); simp [p1, p2', c1, c2, c4, c5, htot, e2.s, m0.s, m1v.s, m2.s, m3.s, z0.s, z1.s, z2.s, z3.s, zr.s, x1])); refine hK _ ?_; clear hK K))
    refine sk_ret ?_; simp [z0.s, z1.s, z2.s, z3.s]
    exact finF 2 (by simp [evLn, p2, c3]) (by decide)
   have c0 : ¬ (e.n < l.gone ∨ totL l < e.n ∨ (l.drop ≠ -1 ∧ l.drop < e.n)) := by omega
   by_cases c6 : l.grs.length = 20
   ·have c6i : ((l.grs.length : Int) = 20) = True := eq_true (by omega)
    have c6n := eq_true c6
    have hr := finF 4 (by simp only [evLn, p2, if_neg c0, if_pos (Or.inl c6)]; simp) (by decide)
    rcases c3 with c3 | c3
    ·have c3' := eq_true c3
     repeat (first | refine sA ?_ | refine sB ?_ | refine sC ?_ | refine sD ?_ | refine sE rfl ?_ | refine sF rfl ?_ | refine sG rfl ?_ | ((first | refine sk_reg fun K hK => ?_ | refine sk_drw mix fun K hK => ?_); simp [p1, p2', c1, c2, c3', c6i, c6n, htot, e2.s, m0.s, m1v.s, m2.s, m3.s, t0.s, z0.s, z1.s, z2.s, z3.s, zr.s, x1]; (repeat ((first | refine AskX.go (total_ac ⟨_, _, rfl⟩ rfl) ?_ | refine AskD.go (total_ac ⟨_, _, rfl⟩ rfl) ?_ | refine AskX.go (fac 4) ?_ | refine AskD.go (fac 4) ?_); simp [p1, p2', c1, c2, c3', c6i, c6n, htot, e2.s, m0.s, m1v.s, m2.s, m3.s, t0.s, z0.s, z1.s, z2.s, z3.s, zr.s, x1])); refine hK _ ?_; clear hK K))
     refine sk_ret ?_; simp [z0.s, z1.s, z2.s, z3.s]
     exact hr
    ·have c4 := c3.1
     have c5 := c3.2
     repeat (first | refine sA ?_ | refine sB ?_ | refine sC ?_ | refine sD ?_ | refine sE rfl ?_ | refine sF rfl ?_ | refine sG rfl ?_ | ((first | refine sk_reg fun K hK => ?_ | refine sk_drw mix fun K hK => ?_); simp [p1, p2', c1, c2, c4, c5, c6i, c6n, htot, e2.s, m0.s, m1v.s, m2.s, m3.s, t0.s, z0.s, z1.s, z2.s, z3.s, zr.s, x1]; (repeat ((first | refine AskX.go (total_ac ⟨_, _, rfl⟩ rfl) ?_ | refine AskD.go (total_ac ⟨_, _, rfl⟩ rfl) ?_ | refine AskX.go (fac 4) ?_ | refine AskD.go (fac 4) ?_); simp [p1, p2', c1, c2, c4, c5, c6i, c6n, htot, e2.s, m0.s, m1v.s, m2.s, m3.s, t0.s, z0.s, z1.s, z2.s, z3.s, zr.s, x1])); refine hK _ ?_; clear hK K))
     refine sk_ret ?_; simp [z0.s, z1.s, z2.s, z3.s]
     exact hr
   have c6i : ¬ ((l.grs.length : Int) = 20) := by omega
   by_cases c7 : (lastG l).ver = 1000000
   ·have c7' := eq_true c7
    have hr := finF 4 (by simp only [evLn, p2, if_neg c0, if_pos (Or.inr c7)]; simp) (by decide)
    rcases c3 with c3 | c3
    ·have c3' := eq_true c3
     repeat (first | refine sA ?_ | refine sB ?_ | refine sC ?_ | refine sD ?_ | refine sE rfl ?_ | refine sF rfl ?_ | refine sG rfl ?_ | ((first | refine sk_reg fun K hK => ?_ | refine sk_drw mix fun K hK => ?_); simp [p1, p2', c1, c2, c3', c6i, c6, c7', htot, e2.s, m0.s, m1v.s, m2.s, m3.s, t0.s, z0.s, z1.s, z2.s, z3.s, zr.s, x1]; (repeat ((first | refine AskX.go (total_ac ⟨_, _, rfl⟩ rfl) ?_ | refine AskD.go (total_ac ⟨_, _, rfl⟩ rfl) ?_ | refine AskX.go (fac 4) ?_ | refine AskD.go (fac 4) ?_); simp [p1, p2', c1, c2, c3', c6i, c6, c7', htot, e2.s, m0.s, m1v.s, m2.s, m3.s, t0.s, z0.s, z1.s, z2.s, z3.s, zr.s, x1])); refine hK _ ?_; clear hK K))
     refine sk_ret ?_; simp [z0.s, z1.s, z2.s, z3.s]
     exact hr
    ·have c4 := c3.1
     have c5 := c3.2
     repeat (first | refine sA ?_ | refine sB ?_ | refine sC ?_ | refine sD ?_ | refine sE rfl ?_ | refine sF rfl ?_ | refine sG rfl ?_ | ((first | refine sk_reg fun K hK => ?_ | refine sk_drw mix fun K hK => ?_); simp [p1, p2', c1, c2, c4, c5, c6i, c6, c7', htot, e2.s, m0.s, m1v.s, m2.s, m3.s, t0.s, z0.s, z1.s, z2.s, z3.s, zr.s, x1]; (repeat ((first | refine AskX.go (total_ac ⟨_, _, rfl⟩ rfl) ?_ | refine AskD.go (total_ac ⟨_, _, rfl⟩ rfl) ?_ | refine AskX.go (fac 4) ?_ | refine AskD.go (fac 4) ?_); simp [p1, p2', c1, c2, c4, c5, c6i, c6, c7', htot, e2.s, m0.s, m1v.s, m2.s, m3.s, t0.s, z0.s, z1.s, z2.s, z3.s, zr.s, x1])); refine hK _ ?_; clear hK K))
     refine sk_ret ?_; simp [z0.s, z1.s, z2.s, z3.s]
     exact hr
   have hres : evLn b.lines l e = (0, { l with grs := l.grs ++ [⟨(lastG l).ver + 1, e.n⟩] }) := by
    simp only [evLn, p2, if_neg c0, if_neg (show ¬ (l.grs.length = 20 ∨ (lastG l).ver = 1000000) by simp [c6, c7])]; simp
   have hwv := wrap_id (x := (lastG l).ver + 1) (by omega) (by omega)
   have hone : RS 2 RGr (H2 ++ [⟨88, [iv ((lastG l).ver + 1), iv e.n], true, true⟩]) [H2.length] (sl H2.length 0 1) [⟨(lastG l).ver + 1, e.n⟩] := ⟨by simp, .inr ⟨H2.length, 0, [], 88, true, [], [iv ((lastG l).ver + 1), iv e.n], [], rfl, rfl, by simp, rfl, [], [], [iv ((lastG l).ver + 1), iv e.n], [], rfl, rfl, rfl, ⟨rfl, rfl⟩, rfl, rfl⟩⟩
   have owE2 : Own H2 (idg :: Eg) := ownk.right
   have hE2 : ∀ e, e ∈ idg :: Eg → e < H2.length := fun e he => owE2.lt e he
   obtain ⟨k', u2, H3, E', f1, f2, f3, f4, f5, f6, f7⟩ := app_plain (P := Tryd.prog) (t := 48) (e := 88) (sz := 1) (by' := 16) (z := .agg #[iv 0, iv 0]) (by simp) (by simp) (by simp) (by simp) rfl (g := cGr) (fun _ => rfl) (hD.grs.ext (RP.frm _)) (owE2.ext hE2) hone (by simp; omega) (by simp [maxLen]; omega)
   have nidE : id ∉ idg :: Eg := fun hh => hD.nid (List.mem_append_right _ hh)
   have g3 : ∀ i, i < H2.length → i ∉ idg :: Eg → H3[i]? = H2[i]? := fun i hi hn => by rw [f4 i (by simp; omega) hn, List.getElem?_append_left hi]
   have hid3' : H3[id]? = _ := (g3 id hidlt nidE).trans hD.bk
   have wr1 : wrO H.length [] k' := fun i hi => .inl (by have := (subk i (List.mem_append_right _ (f2 i hi).1)).2.1; omega)
   have lv1 : liveO (H2 ++ [⟨88, [iv ((lastG l).ver + 1), iv e.n], true, true⟩]) k' := fun i hi => (f2 i hi).2
   have n2 : CF H3 id (o + k * 4 + 2) (sl idg 0 l.grs.length) := CF.of hid3' rfl (by have := get_mid (j := 2) (z := z) (m := [iv l.gone, v1, sl idg 0 l.grs.length, iv l.drop]) hD.al rfl; simpa using this)
   have nr := RF.of hid3'
   have f3' : H2.length + 1 ≤ H3.length := by simpa using f3
   have g4 : ∀ i, i ≠ id → (H3.put id (o + k * 4 + 2) u2)[i]? = H3[i]? := fun i hi => get_put_ne _ _ _ hi
   have hidF : (H3.put id (o + k * 4 + 2) u2)[id]? = some ⟨ty, a ++ ([iv l.gone, v1, u2, iv l.drop] ++ z), true, true⟩ := by
    rw [get_put, hid3']
    simp only [Option.map_some]
    rw [set_mid hD.al (by simp)]; rfl
   have hE'n : ∀ e, e ∈ E' → (e ∈ idg :: Eg ∨ e = H2.length + 1) := fun e he => by rcases f7 e he with h | h; exact .inl h; right; simpa using h
   have hE'i : ∀ e, e ∈ E' → e ≠ id := fun e he hh => by rcases hE'n e he with h | h; exact nidE (hh ▸ h); omega
   have hkg : ∀ e, e ∈ E1 → (H3.put id (o + k * 4 + 2) u2)[e]? = H2[e]? := fun e he => by
    have h1 := subk e (List.mem_append_left _ he)
    rw [g4 e h1.2.2, g3 e (ownk.left.lt e he) (fun hh => (List.nodup_append.1 ownk.1).2.2 e he e hh rfl)]
   have gro3 : Gro H (H3.put id (o + k * 4 + 2) u2) := Gro.of (by rw [length_put]; omega) fun i hi => by
    rw [g4 i (by omega), g3 i (by omega) fun hh => by have := (subk i (List.mem_append_right _ hh)).2.1; omega]; exact hD.g.same hi
   have done2 : ∃ l' y1 y2 F1 F2, evLn b.lines l e = (0, l') ∧ Gro H (H3.put id (o + k * 4 + 2) u2) ∧ (H3.put id (o + k * 4 + 2) u2)[H.length]? = some ⟨39, [.bool b.ok, iv b.sec, sl id o b.lines.length], true, true⟩ ∧ (H3.put id (o + k * 4 + 2) u2)[H.length + 2]? = some ⟨99, [iv 0, .bool false, iv 0, nl], true, true⟩ ∧
     (H3.put id (o + k * 4 + 2) u2)[id]? = some ⟨ty, a ++ ([iv l'.gone, y1, y2, iv l'.drop] ++ z), true, true⟩ ∧ y1 ≠ es ∧ RS 1 RInt (H3.put id (o + k * 4 + 2) u2) F1 y1 l'.way ∧ RS 2 RGr (H3.put id (o + k * 4 + 2) u2) F2 y2 l'.grs ∧ Own (H3.put id (o + k * 4 + 2) u2) (F1 ++ F2) ∧ (∀ e, e ∈ F1 ++ F2 → (e ∈ E1 ++ (idg :: Eg) ∨ e ∉ A2) ∧ H.length + 3 ≤ e ∧ e ≠ id) ∧
     ∀ e, e ∈ A2 → e ≠ id → e ∉ E1 ++ (idg :: Eg) → (H3.put id (o + k * 4 + 2) u2)[e]? = H2[e]? := by
    refine ⟨_, v1, u2, E1, E', hres, gro3, ?_, ?_, hidF, v1n, gwy.fr (RP.frm _) fun e he _ => hkg e he, ?_, ?_, ?_, ?_⟩
    ·rw [g4 _ (by omega), g3 _ (by omega) fun hh => by have := (subk _ (List.mem_append_right _ hh)).2.1; omega]; exact hD.b0
    ·rw [g4 _ (by omega), g3 _ (lt_of_get hD.b2) fun hh => by have := (subk _ (List.mem_append_right _ hh)).2.1; omega]; exact hD.b2
    ·exact (f5.rs (by simp; omega)).fr (RP.frm _) fun e he _ => g4 e (hE'i e he)
    ·refine (ownk.left.fr hkg).app (f6.fr fun e he => g4 e (hE'i e he)) fun e h1 h2 => ?_
     rcases hE'n e h2 with h | h
     ·exact (List.nodup_append.1 ownk.1).2.2 e h1 e h rfl
     ·have := ownk.left.lt e h1; omega
    ·intro e he
     rcases List.mem_append.1 he with he | he
     ·exact subk e (List.mem_append_left _ he)
     ·rcases hE'n e he with h | h
      ·exact subk e (List.mem_append_right _ h)
      ·exact ⟨.inr fun hh => by have := hbl e hh; omega, by omega, hE'i e he⟩
    ·intro e h1 h2 h3
     rw [g4 e h2, g3 e (hbl e h1) fun hh => h3 (List.mem_append_right _ hh)]
   rcases c3 with c3 | c3
   ·have c3' := eq_true c3
    repeat (first | refine sA ?_ | refine sB ?_ | refine sC ?_ | refine sD ?_ | refine sE rfl ?_ | refine sF rfl ?_ | refine sG rfl ?_ | ((first | refine sk_reg fun K hK => ?_ | refine sk_drw mix fun K hK => ?_); simp [p1, p2', c1, c2, c3', c6i, c6, c7, htot, e2.s, m0.s, m1v.s, m2.s, m3.s, t0.s, x1]; (repeat ((first | refine AskX.go (total_ac ⟨_, _, rfl⟩ rfl) ?_ | refine AskD.go (total_ac ⟨_, _, rfl⟩ rfl) ?_); simp [p1, p2', c1, c2, c3', c6i, c6, c7, htot, e2.s, m0.s, m1v.s, m2.s, m3.s, t0.s, x1])); refine hK _ ?_; clear hK K))
    refine sk_drw mix fun K hK => ?_; simp [m2.s, e2.s, t0.s, hwv, f1, wr1, lv1, f3', n2.s, nr.s, f5.one, f5.cv, hl2, hidH]
    refine hK _ ?_; clear hK K
    repeat (first | refine sA ?_ | refine sB ?_ | refine sC ?_ | refine sD ?_ | refine sE rfl ?_ | refine sF rfl ?_ | refine sG rfl ?_ | ((first | refine sk_reg fun K hK => ?_ | refine sk_drw mix fun K hK => ?_); simp; refine hK _ ?_; clear hK K))
    exact sk_inv ⟨by simp [subL, getT], done2⟩
   ·have c4 := c3.1
    have c5 := c3.2
    repeat (first | refine sA ?_ | refine sB ?_ | refine sC ?_ | refine sD ?_ | refine sE rfl ?_ | refine sF rfl ?_ | refine sG rfl ?_ | ((first | refine sk_reg fun K hK => ?_ | refine sk_drw mix fun K hK => ?_); simp [p1, p2', c1, c2, c4, c5, c6i, c6, c7, htot, e2.s, m0.s, m1v.s, m2.s, m3.s, t0.s, x1]; (repeat ((first | refine AskX.go (total_ac ⟨_, _, rfl⟩ rfl) ?_ | refine AskD.go (total_ac ⟨_, _, rfl⟩ rfl) ?_); simp [p1, p2', c1, c2, c4, c5, c6i, c6, c7, htot, e2.s, m0.s, m1v.s, m2.s, m3.s, t0.s, x1])); refine hK _ ?_; clear hK K))
    refine sk_drw mix fun K hK => ?_; simp [m2.s, e2.s, t0.s, hwv, f1, wr1, lv1, f3', n2.s, nr.s, f5.one, f5.cv, hl2, hidH]
    refine hK _ ?_; clear hK K
    repeat (first | refine sA ?_ | refine sB ?_ | refine sC ?_ | refine sD ?_ | refine sE rfl ?_ | refine sF rfl ?_ | refine sG rfl ?_ | ((first | refine sk_reg fun K hK => ?_ | refine sk_drw mix fun K hK => ?_); simp; refine hK _ ?_; clear hK K))
    exact sk_inv ⟨by simp [subL, getT], done2⟩
  by_cases p3 : e.op = 3
  ·have p3' := eq_true p3
   have idx := indexF_ac ggr (f := 84) (cap := [pt (H.length + 1) 0]) (p := hasV e.n) fun H1 g hg => doPred_ac (e2.gro hg) g
   by_cases c1 : fstI (hasV e.n) l.grs < 0
   ·repeat (first | refine sA ?_ | refine sB ?_ | refine sC ?_ | refine sD ?_ | refine sE rfl ?_ | refine sF rfl ?_ | refine sG rfl ?_ | ((first | refine sk_reg fun K hK => ?_ | refine sk_drw mix fun K hK => ?_); simp [p1, p2, p3', c1, e2.s, m0.s, m2.s, m3.s, z0.s, z1.s, z2.s, z3.s, zr.s, x1]; (repeat ((first | refine AskX.go (idx) ?_ | refine AskD.go (idx) ?_ | refine AskX.go (fac 2) ?_ | refine AskD.go (fac 2) ?_); simp [p1, p2, p3', c1, e2.s, m0.s, m2.s, m3.s, z0.s, z1.s, z2.s, z3.s, zr.s, x1])); refine hK _ ?_; clear hK K))
    refine sk_ret ?_; simp [z0.s, z1.s, z2.s, z3.s]
    exact finF 2 (by simp [evLn, p1, p2, p3, c1]) (by decide)
   obtain ⟨i, hi, hil⟩ : ∃ i : Nat, fstI (hasV e.n) l.grs = i ∧ i < l.grs.length := by
    have := hlo.find e.n
    split at this
    ·exact ⟨(fstI (hasV e.n) l.grs).toNat, by omega, by omega⟩
    ·omega
   rw [hi] at idx
   have gdr : RS 2 RGr H2 (idg :: Eg) (sl idg (0 + i * 2) (l.grs.length - i)) (l.grs.drop i) := ggr.drop (k := i) (by omega)
   have hil' : i ≤ l.grs.length := by omega
   have hsl := slg_lo (id := idg) (o := 0) (n := l.grs.length) (i := i) (by omega)
   rw [Nat.zero_add] at gdr hsl
   by_cases c2 : reachL (l.grs.drop i) < l.gone
   ·repeat (first | refine sA ?_ | refine sB ?_ | refine sC ?_ | refine sD ?_ | refine sE rfl ?_ | refine sF rfl ?_ | refine sG rfl ?_ | ((first | refine sk_reg fun K hK => ?_ | refine sk_drw mix fun K hK => ?_); simp [p1, p2, p3', c2, hsl, hil', e2.s, m0.s, m2.s, m3.s, z0.s, z1.s, z2.s, z3.s, zr.s, x1]; (repeat ((first | refine AskX.go (idx) ?_ | refine AskD.go (idx) ?_ | refine AskX.go (reach_ac gdr) ?_ | refine AskD.go (reach_ac gdr) ?_ | refine AskX.go (fac 3) ?_ | refine AskD.go (fac 3) ?_); simp [p1, p2, p3', c2, hsl, hil', e2.s, m0.s, m2.s, m3.s, z0.s, z1.s, z2.s, z3.s, zr.s, x1])); refine hK _ ?_; clear hK K))
    refine sk_ret ?_; simp [z0.s, z1.s, z2.s, z3.s]
    exact finF 3 (by simp [evLn, p1, p2, p3, hi, c2]) (by decide)
   have hres : evLn b.lines l e = (0, { l with grs := l.grs.drop i }) := by
    have : ¬ ((i : Int) < 0) := by omega
    simp [evLn, p1, p2, p3, hi, c2, this]
   repeat (first | refine sA ?_ | refine sB ?_ | refine sC ?_ | refine sD ?_ | refine sE rfl ?_ | refine sF rfl ?_ | refine sG rfl ?_ | ((first | refine sk_reg fun K hK => ?_ | refine sk_drw mix fun K hK => ?_); simp [p1, p2, p3', c2, hsl, hil', e2.s, m0.s, m2.s, m3.s, mr.s, hl2, hidH, x1]; (repeat ((first | refine AskX.go (idx) ?_ | refine AskD.go (idx) ?_ | refine AskX.go (reach_ac gdr) ?_ | refine AskD.go (reach_ac gdr) ?_); simp [p1, p2, p3', c2, hsl, hil', e2.s, m0.s, m2.s, m3.s, mr.s, hl2, hidH, x1])); refine hK _ ?_; clear hK K))
   refine sk_inv ⟨by simp [subL, getT], stay _ v1 (sl idg (i * 2) (l.grs.length - i)) _ hres (fun i hi => get_put_ne _ _ _ hi) ?_ v1n gwy gdr⟩
   rw [get_put, hD.bk]
   simp only [Option.map_some]
   rw [set_mid hD.al (by simp)]; rfl
  by_cases p4 : e.op = 4
  ·have p4' := eq_true p4
   by_cases c1 : e.n < l.gone
   ·repeat (first | refine sA ?_ | refine sB ?_ | refine sC ?_ | refine sD ?_ | refine sE rfl ?_ | refine sF rfl ?_ | refine sG rfl ?_ | ((first | refine sk_reg fun K hK => ?_ | refine sk_drw mix fun K hK => ?_); simp [p1, p2, p3, p4', c1, e2.s, m0.s, m2.s, m3.s, z0.s, z1.s, z2.s, z3.s, zr.s, x1]; (repeat ((first | refine AskX.go (reach_ac ggr) ?_ | refine AskD.go (reach_ac ggr) ?_ | refine AskX.go (fac 2) ?_ | refine AskD.go (fac 2) ?_); simp [p1, p2, p3, p4', c1, e2.s, m0.s, m2.s, m3.s, z0.s, z1.s, z2.s, z3.s, zr.s, x1])); refine hK _ ?_; clear hK K))
    refine sk_ret ?_; simp [z0.s, z1.s, z2.s, z3.s]
    exact finF 2 (by simp [evLn, p1, p2, p3, p4, c1]) (by decide)
   by_cases c2 : reachL l.grs < e.n
   ·repeat (first | refine sA ?_ | refine sB ?_ | refine sC ?_ | refine sD ?_ | refine sE rfl ?_ | refine sF rfl ?_ | refine sG rfl ?_ | ((first | refine sk_reg fun K hK => ?_ | refine sk_drw mix fun K hK => ?_); simp [p1, p2, p3, p4', c1, c2, e2.s, m0.s, m2.s, m3.s, z0.s, z1.s, z2.s, z3.s, zr.s, x1]; (repeat ((first | refine AskX.go (reach_ac ggr) ?_ | refine AskD.go (reach_ac ggr) ?_ | refine AskX.go (fac 2) ?_ | refine AskD.go (fac 2) ?_); simp [p1, p2, p3, p4', c1, c2, e2.s, m0.s, m2.s, m3.s, z0.s, z1.s, z2.s, z3.s, zr.s, x1])); refine hK _ ?_; clear hK K))
    refine sk_ret ?_; simp [z0.s, z1.s, z2.s, z3.s]
    exact finF 2 (by simp [evLn, p1, p2, p3, p4, c2]) (by decide)
   obtain ⟨m, hm⟩ : ∃ m : Nat, e.n - l.gone = m := ⟨(e.n - l.gone).toNat, by omega⟩
   have hmw : m ≤ l.way.length := by omega
   have hwr : IntKind.i64.wrap (e.n - l.gone) = (m : Int) := by rw [wrap_id (by omega) (by omega)]; exact hm
   obtain ⟨u1, hsl, u1n, hu1, u1o, u1c⟩ := drop_sl gwy v1n hmw
   have nm : ∀ x : Value, ((H2.put id (o + k * 4 + 1) u1).put id (o + k * 4) x)[id]? = some ⟨ty, a ++ ([x, u1, sl idg 0 l.grs.length, iv l.drop] ++ z), true, true⟩ := fun x => by
    rw [get_put, get_put, hD.bk]
    simp only [Option.map_some]
    rw [set_mid hD.al (by simp), show o + k * 4 = o + k * 4 + 0 from rfl, set_mid hD.al (by simp)]; rfl
   have nm3 : CF ((H2.put id (o + k * 4 + 1) u1).put id (o + k * 4) (iv e.n)) id (o + k * 4 + 3) (iv l.drop) := CF.of (nm _) rfl (by have := get_mid (j := 3) (z := z) (m := [iv e.n, u1, sl idg 0 l.grs.length, iv l.drop]) hD.al rfl; simpa using this)
   have nmr := RF.of (nm (iv e.n))
   have nf : ∀ (x : Value) i, i ≠ id → ((H2.put id (o + k * 4 + 1) u1).put id (o + k * 4) x)[i]? = H2[i]? := fun x i hi => by rw [get_put_ne _ _ _ hi, get_put_ne _ _ _ hi]
   have c0 : ¬ (e.n < l.gone ∨ reachL l.grs < e.n) := by omega
   by_cases c3 : l.drop = -1
   ·have c3' := eq_true c3
    have hres : evLn b.lines l e = (0, { l with way := l.way.drop m, gone := e.n }) := by
     simp only [evLn, if_neg p1, if_neg p2, if_neg p3, if_pos p4, if_neg c0, hm, Int.toNat_natCast]
     simp [c3]
    repeat (first | refine sA ?_ | refine sB ?_ | refine sC ?_ | refine sD ?_ | refine sE rfl ?_ | refine sF rfl ?_ | refine sG rfl ?_ | ((first | refine sk_reg fun K hK => ?_ | refine sk_drw mix fun K hK => ?_); simp [p1, p2, p3, p4', c1, c2, c3', -sliceA, hsl, hwr, u1o, u1c, nidL1, Ne.symm nidL1, e2.s, m0.s, m1.s, m2.s, m3.s, mr.s, nm3.s, hl2, hidH, yv]; (repeat ((first | refine AskX.go (reach_ac ggr) ?_ | refine AskD.go (reach_ac ggr) ?_); simp [p1, p2, p3, p4', c1, c2, c3', -sliceA, hsl, hwr, u1o, u1c, nidL1, Ne.symm nidL1, e2.s, m0.s, m1.s, m2.s, m3.s, mr.s, nm3.s, hl2, hidH, yv])); refine hK _ ?_; clear hK K))
    exact sk_inv ⟨by simp [subL, getT], stay _ u1 (sl idg 0 l.grs.length) _ hres (nf _) (nm _) u1n hu1 ggr⟩
   by_cases c4 : l.drop < e.n
   ·have hres : evLn b.lines l e = (0, { l with way := l.way.drop m, gone := e.n, drop := e.n }) := by
     simp only [evLn, if_neg p1, if_neg p2, if_neg p3, if_pos p4, if_neg c0, hm, Int.toNat_natCast]
     simp [c3, c4]
    repeat (first | refine sA ?_ | refine sB ?_ | refine sC ?_ | refine sD ?_ | refine sE rfl ?_ | refine sF rfl ?_ | refine sG rfl ?_ | ((first | refine sk_reg fun K hK => ?_ | refine sk_drw mix fun K hK => ?_); simp [p1, p2, p3, p4', c1, c2, c3, c4, -sliceA, hsl, hwr, u1o, u1c, nidL1, Ne.symm nidL1, e2.s, m0.s, m1.s, m2.s, m3.s, mr.s, nm3.s, nmr.s, hl2, hidH, yv]; (repeat ((first | refine AskX.go (reach_ac ggr) ?_ | refine AskD.go (reach_ac ggr) ?_); simp [p1, p2, p3, p4', c1, c2, c3, c4, -sliceA, hsl, hwr, u1o, u1c, nidL1, Ne.symm nidL1, e2.s, m0.s, m1.s, m2.s, m3.s, mr.s, nm3.s, nmr.s, hl2, hidH, yv])); refine hK _ ?_; clear hK K))
    refine sk_inv ⟨by simp [subL, getT], stay _ u1 (sl idg 0 l.grs.length) _ hres (fun i hi => by rw [get_put_ne _ _ _ hi]; exact nf _ i hi) ?_ u1n hu1 ggr⟩
    rw [get_put, nm]
    simp only [Option.map_some]
    rw [set_mid hD.al (by simp)]; rfl
   ·have hres : evLn b.lines l e = (0, { l with way := l.way.drop m, gone := e.n }) := by
     simp only [evLn, if_neg p1, if_neg p2, if_neg p3, if_pos p4, if_neg c0, hm, Int.toNat_natCast]
     simp [c3, c4]
    repeat (first | refine sA ?_ | refine sB ?_ | refine sC ?_ | refine sD ?_ | refine sE rfl ?_ | refine sF rfl ?_ | refine sG rfl ?_ | ((first | refine sk_reg fun K hK => ?_ | refine sk_drw mix fun K hK => ?_); simp [p1, p2, p3, p4', c1, c2, c3, c4, -sliceA, hsl, hwr, u1o, u1c, nidL1, Ne.symm nidL1, e2.s, m0.s, m1.s, m2.s, m3.s, mr.s, nm3.s, nmr.s, hl2, hidH, yv]; (repeat ((first | refine AskX.go (reach_ac ggr) ?_ | refine AskD.go (reach_ac ggr) ?_); simp [p1, p2, p3, p4', c1, c2, c3, c4, -sliceA, hsl, hwr, u1o, u1c, nidL1, Ne.symm nidL1, e2.s, m0.s, m1.s, m2.s, m3.s, mr.s, nm3.s, nmr.s, hl2, hidH, yv])); refine hK _ ?_; clear hK K))
    exact sk_inv ⟨by simp [subL, getT], stay _ u1 (sl idg 0 l.grs.length) _ hres (nf _) (nm _) u1n hu1 ggr⟩
  have p5 : e.op = 5 := by omega
  have p5' := eq_true p5
  by_cases c1 : e.n < l.gone
  ·repeat (first | refine sA ?_ | refine sB ?_ | refine sC ?_ | refine sD ?_ | refine sE rfl ?_ | refine sF rfl ?_ | refine sG rfl ?_ | ((first | refine sk_reg fun K hK => ?_ | refine sk_drw mix fun K hK => ?_); simp [p1, p2, p3, p4, p5', c1, e2.s, m0.s, m1v.s, m2.s, m3.s, z0.s, z1.s, z2.s, z3.s, zr.s, x1]; (repeat ((first | refine AskX.go (total_ac ⟨_, _, rfl⟩ rfl) ?_ | refine AskD.go (total_ac ⟨_, _, rfl⟩ rfl) ?_ | refine AskX.go (fac 2) ?_ | refine AskD.go (fac 2) ?_); simp [p1, p2, p3, p4, p5', c1, e2.s, m0.s, m1v.s, m2.s, m3.s, z0.s, z1.s, z2.s, z3.s, zr.s, x1])); refine hK _ ?_; clear hK K))
   refine sk_ret ?_; simp [z0.s, z1.s, z2.s, z3.s]
   exact finF 2 (by simp [evLn, p1, p2, p3, p4, c1]) (by decide)
  by_cases c2 : totL l ≤ e.n
  ·repeat (first | refine sA ?_ | refine sB ?_ | refine sC ?_ | refine sD ?_ | refine sE rfl ?_ | refine sF rfl ?_ | refine sG rfl ?_ | ((first | refine sk_reg fun K hK => ?_ | refine sk_drw mix fun K hK => ?_); simp [p1, p2, p3, p4, p5', c1, c2, htot, e2.s, m0.s, m1v.s, m2.s, m3.s, z0.s, z1.s, z2.s, z3.s, zr.s, x1]; (repeat ((first | refine AskX.go (total_ac ⟨_, _, rfl⟩ rfl) ?_ | refine AskD.go (total_ac ⟨_, _, rfl⟩ rfl) ?_ | refine AskX.go (fac 2) ?_ | refine AskD.go (fac 2) ?_); simp [p1, p2, p3, p4, p5', c1, c2, htot, e2.s, m0.s, m1v.s, m2.s, m3.s, z0.s, z1.s, z2.s, z3.s, zr.s, x1])); refine hK _ ?_; clear hK K))
   refine sk_ret ?_; simp [z0.s, z1.s, z2.s, z3.s]
   exact finF 2 (by simp [evLn, p1, p2, p3, p4, c2]) (by decide)
  by_cases c3 : e.n < (lastG l).cel
  ·repeat (first | refine sA ?_ | refine sB ?_ | refine sC ?_ | refine sD ?_ | refine sE rfl ?_ | refine sF rfl ?_ | refine sG rfl ?_ | ((first | refine sk_reg fun K hK => ?_ | refine sk_drw mix fun K hK => ?_); simp [p1, p2, p3, p4, p5', c1, c2, c3, htot, e2.s, m0.s, m1v.s, m2.s, m3.s, t0.s, t1.s, z0.s, z1.s, z2.s, z3.s, zr.s, x1]; (repeat ((first | refine AskX.go (total_ac ⟨_, _, rfl⟩ rfl) ?_ | refine AskD.go (total_ac ⟨_, _, rfl⟩ rfl) ?_ | refine AskX.go (fac 3) ?_ | refine AskD.go (fac 3) ?_); simp [p1, p2, p3, p4, p5', c1, c2, c3, htot, e2.s, m0.s, m1v.s, m2.s, m3.s, t0.s, t1.s, z0.s, z1.s, z2.s, z3.s, zr.s, x1])); refine hK _ ?_; clear hK K))
   refine sk_ret ?_; simp [z0.s, z1.s, z2.s, z3.s]
   exact finF 3 (by simp [evLn, p1, p2, p3, p4, c1, c2, c3]) (by decide)
  have hres : evLn b.lines l e = (0, { l with drop := e.n }) := by simp [evLn, p1, p2, p3, p4, c1, c2, c3]
  repeat (first | refine sA ?_ | refine sB ?_ | refine sC ?_ | refine sD ?_ | refine sE rfl ?_ | refine sF rfl ?_ | refine sG rfl ?_ | ((first | refine sk_reg fun K hK => ?_ | refine sk_drw mix fun K hK => ?_); simp [p1, p2, p3, p4, p5', c1, c2, c3, htot, e2.s, m0.s, m1v.s, m2.s, m3.s, t0.s, t1.s, mr.s, hl2, hidH, x1]; (repeat ((first | refine AskX.go (total_ac ⟨_, _, rfl⟩ rfl) ?_ | refine AskD.go (total_ac ⟨_, _, rfl⟩ rfl) ?_); simp [p1, p2, p3, p4, p5', c1, c2, c3, htot, e2.s, m0.s, m1v.s, m2.s, m3.s, t0.s, t1.s, mr.s, hl2, hidH, x1])); refine hK _ ?_; clear hK K))
  refine sk_inv ⟨by simp [subL, getT], stay _ v1 (sl idg 0 l.grs.length) _ hres (fun i hi => get_put_ne _ _ _ hi) ?_ v1n gwy ggr⟩
  rw [get_put, hD.bk]
  simp only [Option.map_some]
  rw [set_mid hD.al (by simp)]; rfl
 ·rintro H3 ⟨l', u1, u2, F1, F2, hev2, hg3, hb0, hb2, hb3, u1n, hwy, hgs, hown3, hsub3, hfr3⟩
  have hn10 : 0 ≤ e.n ∧ e.n ≤ 1000000 := by
   by_cases p1 : e.op = 1
   ·rw [if_pos p1] at hne; simp [inB] at hne; omega
   ·rw [if_neg p1] at hne; simpa [inB] using hne
  obtain ⟨k1, k2, k3, k4, k5, k6, k7⟩ := evLn_b hlo hn10 hev2
  have hl3 := hg3.len
  clear fac z0 z1 z2 z3 zr e0 e1 e2 b0 b1 b2 t0 t1 m0 m1 m2 m3 mr stay finF
  have z0 : CF H3 (H.length + 2) 0 (iv 0) := CF.of hb2 rfl rfl
  have z1 : CF H3 (H.length + 2) 1 (.bool false) := CF.of hb2 rfl rfl
  have z2 : CF H3 (H.length + 2) 2 (iv 0) := CF.of hb2 rfl rfl
  have z3 : CF H3 (H.length + 2) 3 nl := CF.of hb2 rfl rfl
  have zr := RF.of hb2
  have b0 : CF H3 H.length 0 (.bool b.ok) := CF.of hb0 rfl rfl
  have b1 : CF H3 H.length 1 (iv b.sec) := CF.of hb0 rfl rfl
  have b2 : CF H3 H.length 2 (sl id o b.lines.length) := CF.of hb0 rfl rfl
  have m0 : CF H3 id (o + k * 4) (iv l'.gone) := CF.of hb3 rfl (by have := get_mid (j := 0) (z := z) (m := [iv l'.gone, u1, u2, iv l'.drop]) hD.al rfl; simpa using this)
  have m1 : CF H3 id (o + k * 4 + 1) u1 := CF.of hb3 rfl (by have := get_mid (j := 1) (z := z) (m := [iv l'.gone, u1, u2, iv l'.drop]) hD.al rfl; simpa using this)
  have m2 : CF H3 id (o + k * 4 + 2) u2 := CF.of hb3 rfl (by have := get_mid (j := 2) (z := z) (m := [iv l'.gone, u1, u2, iv l'.drop]) hD.al rfl; simpa using this)
  have m3 : CF H3 id (o + k * 4 + 3) (iv l'.drop) := CF.of hb3 rfl (by have := get_mid (j := 3) (z := z) (m := [iv l'.gone, u1, u2, iv l'.drop]) hD.al rfl; simpa using this)
  have mr := RF.of hb3
  have finS : ∀ (l2 : Ln) (u : Value) (F : Heap), settleL l' = l2 → l2.grs = l'.grs → (∀ i, i ≠ id → F[i]? = H3[i]?) → F[id]? = some ⟨ty, a ++ ([iv l2.gone, u, u2, iv l2.drop] ++ z), true, true⟩ → RS 1 RInt H3 F1 u l2.way →
    H.length ≤ List.length ((((F.put (H.length + 2) 0 (iv 0)).put (H.length + 2) 1 (.bool b.ok)).put (H.length + 2) 2 (iv b.sec)).put (H.length + 2) 3 (sl id o b.lines.length)) ∧ (∀ i, i < H.length → ((((F.put (H.length + 2) 0 (iv 0)).put (H.length + 2) 1 (.bool b.ok)).put (H.length + 2) 2 (iv b.sec)).put (H.length + 2) 3 (sl id o b.lines.length))[i]? = H[i]?) ∧
    ∃ E, RDn ((((F.put (H.length + 2) 0 (iv 0)).put (H.length + 2) 1 (.bool b.ok)).put (H.length + 2) 2 (iv b.sec)).put (H.length + 2) 3 (sl id o b.lines.length)) E (doV b e) [iv 0, .bool b.ok, iv b.sec, sl id o b.lines.length] ∧
     Own ((((F.put (H.length + 2) 0 (iv 0)).put (H.length + 2) 1 (.bool b.ok)).put (H.length + 2) 2 (iv b.sec)).put (H.length + 2) 3 (sl id o b.lines.length)) E ∧ ∀ e, e ∈ E → H.length ≤ e := by
   intro l2 u F hs hg hF hFid hu
   have hGF : ∀ i, i ≠ H.length + 2 → ((((F.put (H.length + 2) 0 (iv 0)).put (H.length + 2) 1 (.bool b.ok)).put (H.length + 2) 2 (iv b.sec)).put (H.length + 2) 3 (sl id o b.lines.length))[i]? = F[i]? := fun i hi => by
    rw [get_put_ne _ _ _ hi, get_put_ne _ _ _ hi, get_put_ne _ _ _ hi, get_put_ne _ _ _ hi]
   have hdv : doV b e = ⟨0, { b with lines := b.lines.set e.train.toNat l2 }⟩ := by simp [doV, hl, hev2, hs]
   have hFl := lt_of_get hFid
   refine ⟨by simp only [length_put]; omega, ?_⟩
   generalize ((((F.put (H.length + 2) 0 (iv 0)).put (H.length + 2) 1 (.bool b.ok)).put (H.length + 2) 2 (iv b.sec)).put (H.length + 2) 3 (sl id o b.lines.length)) = G at hGF ⊢
   have hkk : ∀ e, e ∈ F1 ++ F2 → G[e]? = H3[e]? := fun e he => by
    have := hsub3 e he
    rw [hGF e (by omega), hF e this.2.2]
   obtain ⟨E', q1, q2, q3⟩ := hD.cl G l2 [iv l2.gone, u, u2, iv l2.drop] (F1 ++ F2) rfl ⟨F1, F2, u, u2, rfl, rfl, hu.fr (RP.frm _) fun e he _ => hkk e (by simp [he]), by rw [hg]; exact hgs.fr (RP.frm _) fun e he _ => hkk e (List.mem_append_right _ he)⟩ (hown3.fr hkk)
    (fun e he => (hsub3 e he).1) (fun e h1 h2 h3 => by rw [hGF e (by have := (hD.l2 e h1).1; omega), hF e h2, hfr3 e h1 h2 h3]) (by rw [hGF id nidL2]; exact hFid)
   refine ⟨fun i hi => by rw [hGF i (by omega), hF i (by omega)]; exact hg3.same hi, E', ⟨_, by rw [hdv], ⟨_, by rw [hdv], ?_⟩⟩, q2, fun e he => ?_⟩
   ·rw [hdv]; exact q1
   ·rcases q3 e he with h | h
    ·have := (hD.l2 e h).1; omega
    ·have := (hsub3 e h).2.1; omega
  by_cases d1 : l'.drop = -1
  ·have d1' := eq_true d1
   repeat (first | refine sA ?_ | refine sB ?_ | refine sC ?_ | refine sD ?_ | refine sE rfl ?_ | refine sF rfl ?_ | refine sG rfl ?_ | ((first | refine sk_reg fun K hK => ?_ | refine sk_drw mix fun K hK => ?_); simp [d1', b0.s, b1.s, b2.s, m3.s, z0.s, z1.s, z2.s, z3.s, zr.s, hl3]; refine hK _ ?_; clear hK K))
   refine sk_ret ?_; simp [z0.s, z1.s, z2.s, z3.s]
   exact finS l' u1 H3 (by simp [settleL, d1]) rfl (fun _ _ => rfl) hb3 hwy
  obtain ⟨av', cv', hvf'⟩ := hwy.form
  have u2o := hgs.one
  have u2c := hgs.cv
  have u1o := hwy.one
  have u1c := hwy.cv
  have htd' : totL l' = l'.gone + l'.way.length := rfl
  have htot' : IntKind.i64.wrap (l'.gone + l'.way.length) = totL l' := wrap_id (x := l'.gone + l'.way.length) (by omega) (by omega)
  have hM := maxI_eq l'.drop (reachL l'.grs)
  have hMd : l'.drop ≤ maxI l'.drop (reachL l'.grs) := by unfold maxI; split <;> omega
  have nf : ∀ (j : Nat) (x : Value) i, i ≠ id → (H3.put id j x)[i]? = H3[i]? := fun j x i hi => get_put_ne _ _ _ hi
  by_cases c1 : maxI l'.drop (reachL l'.grs) < totL l'
  ·obtain ⟨m, hm⟩ : ∃ m : Nat, maxI l'.drop (reachL l'.grs) - l'.gone = m := ⟨(maxI l'.drop (reachL l'.grs) - l'.gone).toNat, by omega⟩
   have hmw : m ≤ l'.way.length := by omega
   have hwr : IntKind.i64.wrap (maxI l'.drop (reachL l'.grs) - l'.gone) = (m : Int) := by rw [wrap_id (by omega) (by omega)]; exact hm
   obtain ⟨u, hsl, un, hu, uo, uc⟩ := take_sl hwy u1n hmw
   obtain ⟨au, cu, huf⟩ := hu.form
   rw [List.length_take, Nat.min_eq_left hmw] at huf
   have htot2 : IntKind.i64.wrap (l'.gone + (m : Int)) = maxI l'.drop (reachL l'.grs) := by rw [wrap_id (by omega) (by omega)]; omega
   have nm : (H3.put id (o + k * 4 + 1) u)[id]? = some ⟨ty, a ++ ([iv l'.gone, u, u2, iv l'.drop] ++ z), true, true⟩ := by
    rw [get_put, hb3]
    simp only [Option.map_some]
    rw [set_mid hD.al (by simp)]; rfl
   have n0 : CF (H3.put id (o + k * 4 + 1) u) id (o + k * 4) (iv l'.gone) := CF.of nm rfl (by have := get_mid (j := 0) (z := z) (m := [iv l'.gone, u, u2, iv l'.drop]) hD.al rfl; simpa using this)
   have n1 : CF (H3.put id (o + k * 4 + 1) u) id (o + k * 4 + 1) u := CF.of nm rfl (by have := get_mid (j := 1) (z := z) (m := [iv l'.gone, u, u2, iv l'.drop]) hD.al rfl; simpa using this)
   have n2 : CF (H3.put id (o + k * 4 + 1) u) id (o + k * 4 + 2) u2 := CF.of nm rfl (by have := get_mid (j := 2) (z := z) (m := [iv l'.gone, u, u2, iv l'.drop]) hD.al rfl; simpa using this)
   have n3 : CF (H3.put id (o + k * 4 + 1) u) id (o + k * 4 + 3) (iv l'.drop) := CF.of nm rfl (by have := get_mid (j := 3) (z := z) (m := [iv l'.gone, u, u2, iv l'.drop]) hD.al rfl; simpa using this)
   have nr := RF.of nm
   have hml : (l'.way.take m).length = m := by rw [List.length_take, Nat.min_eq_left hmw]
   by_cases c3 : maxI l'.drop (reachL l'.grs) ≤ l'.drop
   ·have hs : settleL l' = { l' with way := l'.way.take m, drop := -1 } := by
     simp only [settleL, if_neg d1, if_pos c1, hm, Int.toNat_natCast]
     rw [if_pos]
     show l'.gone + ((l'.way.take m).length : Int) ≤ l'.drop
     omega
    repeat (first | refine sA ?_ | refine sB ?_ | refine sC ?_ | refine sD ?_ | refine sE rfl ?_ | refine sF rfl ?_ | refine sG rfl ?_ | ((first | refine sk_reg fun K hK => ?_ | refine sk_drw mix fun K hK => ?_); simp [d1, hM, c1, c3, htot', htot2, hwr, -sliceA, hsl, uo, uc, u1o, u1c, u2o, u2c, b0.s, b1.s, b2.s, m0.s, m1.s, m2.s, m3.s, mr.s, n0.s, n1.s, n2.s, n3.s, nr.s, z0.s, z1.s, z2.s, z3.s, zr.s, hl3, hidH, nidL, nidL2, Ne.symm nidL, Ne.symm nidL2]; (repeat ((first | refine AskX.go (reach_ac hgs) ?_ | refine AskD.go (reach_ac hgs) ?_ | refine AskX.go (total_ac ⟨_, _, hvf'⟩ u2o) ?_ | refine AskD.go (total_ac ⟨_, _, hvf'⟩ u2o) ?_ | refine AskX.go (total_ac ⟨_, _, huf⟩ u2o) ?_ | refine AskD.go (total_ac ⟨_, _, huf⟩ u2o) ?_); simp [d1, hM, c1, c3, htot', htot2, hwr, -sliceA, hsl, uo, uc, u1o, u1c, u2o, u2c, b0.s, b1.s, b2.s, m0.s, m1.s, m2.s, m3.s, mr.s, n0.s, n1.s, n2.s, n3.s, nr.s, z0.s, z1.s, z2.s, z3.s, zr.s, hl3, hidH, nidL, nidL2, Ne.symm nidL, Ne.symm nidL2])); refine hK _ ?_; clear hK K))
    refine sk_ret ?_; simp [z0.s, z1.s, z2.s, z3.s, nidL, nidL2, Ne.symm nidL, Ne.symm nidL2]
    refine finS _ u _ hs rfl (fun i hi => by rw [get_put_ne _ _ _ hi]; exact nf _ _ i hi) ?_ hu
    rw [get_put, nm]
    simp only [Option.map_some]
    rw [set_mid hD.al (by simp)]; rfl
   ·have hs : settleL l' = { l' with way := l'.way.take m } := by
     simp only [settleL, if_neg d1, if_pos c1, hm, Int.toNat_natCast]
     rw [if_neg]
     show ¬ (l'.gone + ((l'.way.take m).length : Int) ≤ l'.drop)
     omega
    repeat (first | refine sA ?_ | refine sB ?_ | refine sC ?_ | refine sD ?_ | refine sE rfl ?_ | refine sF rfl ?_ | refine sG rfl ?_ | ((first | refine sk_reg fun K hK => ?_ | refine sk_drw mix fun K hK => ?_); simp [d1, hM, c1, c3, htot', htot2, hwr, -sliceA, hsl, uo, uc, u1o, u1c, u2o, u2c, b0.s, b1.s, b2.s, m0.s, m1.s, m2.s, m3.s, mr.s, n0.s, n1.s, n2.s, n3.s, nr.s, z0.s, z1.s, z2.s, z3.s, zr.s, hl3, hidH, nidL, nidL2, Ne.symm nidL, Ne.symm nidL2]; (repeat ((first | refine AskX.go (reach_ac hgs) ?_ | refine AskD.go (reach_ac hgs) ?_ | refine AskX.go (total_ac ⟨_, _, hvf'⟩ u2o) ?_ | refine AskD.go (total_ac ⟨_, _, hvf'⟩ u2o) ?_ | refine AskX.go (total_ac ⟨_, _, huf⟩ u2o) ?_ | refine AskD.go (total_ac ⟨_, _, huf⟩ u2o) ?_); simp [d1, hM, c1, c3, htot', htot2, hwr, -sliceA, hsl, uo, uc, u1o, u1c, u2o, u2c, b0.s, b1.s, b2.s, m0.s, m1.s, m2.s, m3.s, mr.s, n0.s, n1.s, n2.s, n3.s, nr.s, z0.s, z1.s, z2.s, z3.s, zr.s, hl3, hidH, nidL, nidL2, Ne.symm nidL, Ne.symm nidL2])); refine hK _ ?_; clear hK K))
    refine sk_ret ?_; simp [z0.s, z1.s, z2.s, z3.s, nidL, nidL2, Ne.symm nidL, Ne.symm nidL2]
    exact finS _ u _ hs rfl (nf _ _) nm hu
  by_cases c3 : totL l' ≤ l'.drop
  ·have hs : settleL l' = { l' with drop := -1 } := by
    simp only [settleL, if_neg d1, if_neg c1, if_pos c3]
   repeat (first | refine sA ?_ | refine sB ?_ | refine sC ?_ | refine sD ?_ | refine sE rfl ?_ | refine sF rfl ?_ | refine sG rfl ?_ | ((first | refine sk_reg fun K hK => ?_ | refine sk_drw mix fun K hK => ?_); simp [d1, hM, c1, c3, htot', u1o, u1c, u2o, u2c, b0.s, b1.s, b2.s, m0.s, m1.s, m2.s, m3.s, mr.s, z0.s, z1.s, z2.s, z3.s, zr.s, hl3, hidH, nidL, nidL2, Ne.symm nidL, Ne.symm nidL2]; (repeat ((first | refine AskX.go (reach_ac hgs) ?_ | refine AskD.go (reach_ac hgs) ?_ | refine AskX.go (total_ac ⟨_, _, hvf'⟩ u2o) ?_ | refine AskD.go (total_ac ⟨_, _, hvf'⟩ u2o) ?_); simp [d1, hM, c1, c3, htot', u1o, u1c, u2o, u2c, b0.s, b1.s, b2.s, m0.s, m1.s, m2.s, m3.s, mr.s, z0.s, z1.s, z2.s, z3.s, zr.s, hl3, hidH, nidL, nidL2, Ne.symm nidL, Ne.symm nidL2])); refine hK _ ?_; clear hK K))
   refine sk_ret ?_; simp [z0.s, z1.s, z2.s, z3.s, nidL, nidL2, Ne.symm nidL, Ne.symm nidL2]
   refine finS _ u1 _ hs rfl (nf _ _) ?_ hwy
   rw [get_put, hb3]
   simp only [Option.map_some]
   rw [set_mid hD.al (by simp)]; rfl
  ·have hs : settleL l' = l' := by
    simp only [settleL, if_neg d1, if_neg c1, if_neg c3]
   repeat (first | refine sA ?_ | refine sB ?_ | refine sC ?_ | refine sD ?_ | refine sE rfl ?_ | refine sF rfl ?_ | refine sG rfl ?_ | ((first | refine sk_reg fun K hK => ?_ | refine sk_drw mix fun K hK => ?_); simp [d1, hM, c1, c3, htot', u1o, u1c, u2o, u2c, b0.s, b1.s, b2.s, m0.s, m1.s, m2.s, m3.s, mr.s, z0.s, z1.s, z2.s, z3.s, zr.s, hl3, hidH, nidL, nidL2, Ne.symm nidL, Ne.symm nidL2]; (repeat ((first | refine AskX.go (reach_ac hgs) ?_ | refine AskD.go (reach_ac hgs) ?_ | refine AskX.go (total_ac ⟨_, _, hvf'⟩ u2o) ?_ | refine AskD.go (total_ac ⟨_, _, hvf'⟩ u2o) ?_); simp [d1, hM, c1, c3, htot', u1o, u1c, u2o, u2c, b0.s, b1.s, b2.s, m0.s, m1.s, m2.s, m3.s, mr.s, z0.s, z1.s, z2.s, z3.s, zr.s, hl3, hidH, nidL, nidL2, Ne.symm nidL, Ne.symm nidL2])); refine hK _ ?_; clear hK K))
   refine sk_ret ?_; simp [z0.s, z1.s, z2.s, z3.s, nidL, nidL2, Ne.symm nidL, Ne.symm nidL2]
   exact finS _ u1 _ hs rfl (fun _ _ => rfl) hb3 hwy
theorem evOk_book {b : Bk} {e : Evt} (h : evOkB b e = true) : bookOkB b = 0 := by
 simp only [evOkB, Bool.and_eq_true, decide_eq_true_eq] at h
 exact h.1
def B47 : SC := .seq (.reg [⟨some 2, .box 39 (.tmp 0), none, []⟩, ⟨some 3, .box 57 (.tmp 1), none, []⟩, ⟨some 4, .alloc 99, none, []⟩]) (.seq (.seq (.reg [⟨some 5, .load 39 (.tmp 2), none, []⟩, ⟨some 6, .load 57 (.tmp 3), none, []⟩, ⟨some 7, .call ⟨.value (.func 66), #[.tmp 5, .tmp 6], #[39, 57]⟩, none, []⟩, ⟨some 8, .unOp .not 4 (.tmp 7), none, []⟩]) (.cond (.tmp 8) (.seq (.reg [⟨some 9, .build 99 #[(0, (.const (.int .i64 1)))], none, []⟩, ⟨none, .store 99 (.tmp 4) (.tmp 9), none, []⟩]) .ret) .skip)) (.seq (.reg [⟨some 10, .load 39 (.tmp 2), none, []⟩, ⟨some 11, .load 57 (.tmp 3), none, []⟩, ⟨some 12, .call ⟨.value (.func 67), #[.tmp 10, .tmp 11], #[39, 57]⟩, none, []⟩, ⟨none, .store 99 (.tmp 4) (.tmp 12), none, []⟩]) .ret))
theorem s47 : Tryd.f47.body.bind (stripC 13) = some B47 := by kernel_rfl
theorem implDoX_mk {H : Heap} {E : List Nat} {b : Bk} {cs : List Value} (h : RBk H E b cs) (e : Evt) : Mkr Tryd.prog 47 [.agg cs.toArray, vEv e] H fun H' E' v' => ∃ cs', v' = .agg cs'.toArray ∧ RDn H' E' (doB b e) cs' := by
 have h0 := h
 obtain ⟨v, rfl, hv⟩ := h
 have x := hv.one
 have eac := fun L : Heap => implEventOk_ac (H := H ++ L) (RBk.frm.ext h0) e
 refine Mkr.of_bodyS (N := 13) Tryd.func47 s47 (by kernel_rfl) rfl rfl (by simp) ?_; unfold B47
 by_cases q : evOkB b e = true
 case neg =>
  have q' : evOkB b e = false := by simpa using q
  have hd : doB b e = ⟨1, bk0⟩ := by simp [doB, q']
  rw [q'] at eac
  repeat (first | refine sA ?_ | refine sB ?_ | refine sC ?_ | refine sD ?_ | refine sE rfl ?_ | refine sF rfl ?_ | refine sG rfl ?_ | (refine sk_reg fun K hK => ?_; simp [x]; (repeat ((first | refine AskX.go (eac _) ?_); simp [x])); refine hK _ ?_; clear hK K))
  refine sk_ret ?_; simp
  rw [hd]
  exact ⟨fun i hi => List.getElem?_append_left hi, [], ⟨_, rfl, _, rfl, ⟨by simp [bk0], .inl ⟨.inl rfl, rfl, rfl⟩⟩⟩, ⟨List.nodup_nil, fun i hi => by simp at hi⟩, fun i hi => by simp at hi⟩
 have hd : doB b e = doV b e := by simp [doB, q]
 rw [q] at eac
 rw [hd]
 repeat (first | refine sA ?_ | refine sB ?_ | refine sC ?_ | refine sD ?_ | refine sE rfl ?_ | refine sF rfl ?_ | refine sG rfl ?_ | (refine sk_reg fun K hK => ?_; simp [x]; (repeat ((first | refine AskX.go (eac _) ?_); simp [x])); refine hK _ ?_; clear hK K))
 refine sk_reg fun K hK => ?_; simp [x]
 refine AskX.mkr (implDo_mk (RBk.frm.gro h0 (by first | exact Gro.refl _ | exact ⟨_, rfl⟩ | exact ⟨_, by simp only [List.append_assoc, List.cons_append, List.nil_append]; rfl⟩ | exact ⟨[], by simp⟩)) e (evOk_book q) q) ?_; rintro _ J A ⟨_, rfl, _, rfl, w, rfl, r⟩ o n; simp [x, r.one, r.cv]
 refine hK _ ?_; clear hK K
 repeat (first | refine sA ?_ | refine sB ?_ | refine sC ?_ | refine sD ?_ | refine sE rfl ?_ | refine sF rfl ?_ | refine sG rfl ?_ | (refine sk_reg fun K hK => ?_; simp; refine hK _ ?_; clear hK K))
 refine sk_ret ?_; simp [r.one, r.cv]
 simp only [List.append_assoc, List.cons_append, List.nil_append, List.length_append, List.length_cons, List.length_nil] at r o n
 have n' : ∀ e, e ∈ A → H.length + 3 ≤ e := fun e he => by have := n e he; omega
 refine ⟨fun i hi => List.getElem?_append_left hi, A, ⟨_, rfl, _, rfl, r.fr RLn.frm fun e he _ => ?_⟩, o.fr fun e he => ?_, fun e he => by have := n' e he; omega⟩
 ·rw [get_t3 _ _ _ _ _ (n' e he), get_t3 _ _ _ _ _ (n' e he)]
 ·rw [get_t3 _ _ _ _ _ (n' e he), get_t3 _ _ _ _ _ (n' e he)]
end Go.Proofs.YtpoedfmkiiijnaaDoor
