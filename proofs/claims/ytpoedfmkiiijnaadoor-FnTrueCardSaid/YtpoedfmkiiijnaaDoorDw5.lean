/- The drawn drive: l4drive, Drives. Walks. -/
import Derived.Test.YtpoedfmkiiijnaaDoorDw3
import Derived.Test.YtpoedfmkiiijnaaDoorDw4
import Derived.Test.YtpoedfmkiiijnaaDoorSp3
import Derived.Test.YtpoedfmkiiijnaaDoorSt2
import Derived.Test.YtpoedfmkiiijnaaDoorAp1
import Derived.Test.YtpoedfmkiiijnaaDoorDr1
import Derived.Test.YtpoedfmkiiijnaaDoorPuW
namespace Go.Proofs.YtpoedfmkiiijnaaDoor
open Go Go.RowKit Go.Proofs.YtpoedfmkiiijnaaDoorAm
set_option linter.unusedVariables false
set_option linter.unusedSimpArgs false
set_option maxRecDepth 10000
set_option maxHeartbeats 8000000
/-- Between two rounds of a drawn drive. -/
structure LdI (bs : List Int) (E : List Nat) (C m : Nat) (H H1 : Heap) (X : Nat) (w : Wd) (ul ub : Value) (Eb : List Nat) (vt : Value) (T : List Nat) (l : List Int) (es' : List Actn) (ve : Value) (A : List Nat) : Prop where
 c : Cur bs E C m H1
 g : GC C H H1
 x : H1[X]? = some ⟨42, [.bool w.ok, .bool w.book.ok, iv w.book.sec, ul, ub], true, true⟩
 rb : RWd H1 Eb w [.bool w.ok, .bool w.book.ok, iv w.book.sec, ul, ub]
 ok : rightB w = true
 ne : 0 < w.bodies.length
 nb : ∀ e, e ∈ Eb → e ≠ C ∧ e ≠ X ∧ H.length < e ∧ e ∉ A
 rt : RS 1 RInt H1 T vt l
 nt : ∀ e, e ∈ T → e ≠ C ∧ e ≠ X ∧ H.length < e ∧ e ∉ A
 ra : RW 59 6 RAc H1 A ve es'
 ac : ∀ a, a ∈ es' → acR a
 oa : Own H1 A
 la : ∀ e, e ∈ A → e ≠ C ∧ X < e
 hx : H.length < X
 hc : C < H.length
theorem LdI.step {bs : List Int} {E : List Nat} {C m m' : Nat} {H H1 H2 : Heap} {X : Nat} {w : Wd} {ul ub : Value} {Eb : List Nat} {vt : Value} {T : List Nat} {l : List Int} {es' : List Actn} {ve : Value} {A : List Nat} (h : LdI bs E C m H H1 X w ul ub Eb vt T l es' ve A) (c : Cur bs E C m' H2) (g : GC C H1 H2) : LdI bs E C m' H H2 X w ul ub Eb vt T l es' ve A := by
 have hX := h.hx
 have hC := h.hc
 have bA := h.ra.bd (RP.frm _)
 exact ⟨c, h.g.trans g, g.cf h.x (by omega), g.fr RWd.frm h.rb fun e he => (h.nb e he).1, h.ok, h.ne, h.nb, g.rs (RP.frm _) h.rt fun e he => (h.nt e he).1, h.nt, h.ra.fr (RP.frm _) fun i hi hl => g.s i hl (h.la i hi).1, h.ac, h.oa.fr fun i hi => g.s i (bA i hi) (h.la i hi).1, h.la, h.hx, h.hc⟩
theorem LdI.gro {bs : List Int} {E : List Nat} {C m : Nat} {H H1 H2 : Heap} {X : Nat} {w : Wd} {ul ub : Value} {Eb : List Nat} {vt : Value} {T : List Nat} {l : List Int} {es' : List Actn} {ve : Value} {A : List Nat} (h : LdI bs E C m H H1 X w ul ub Eb vt T l es' ve A) (g : Gro H1 H2) : LdI bs E C m H H2 X w ul ub Eb vt T l es' ve A := h.step (h.c.gro g) (GC.of g)
/-- A block that is none of these changes. -/
theorem LdI.off {bs : List Int} {E : List Nat} {C m : Nat} {H H1 H2 : Heap} {X : Nat} {w : Wd} {ul ub : Value} {Eb : List Nat} {vt : Value} {T : List Nat} {l : List Int} {es' : List Actn} {ve : Value} {A : List Nat} (h : LdI bs E C m H H1 X w ul ub Eb vt T l es' ve A) (Y : Nat) (hE : ∀ e, e ∈ E → e < H.length) (hY : H.length ≤ Y) (hX : Y ≠ X) (hb : Y ∉ Eb) (ht : Y ∉ T) (ha : Y ∉ A) (hl : H1.length ≤ H2.length) (hn : ∀ i, i ≠ Y → H2[i]? = H1[i]?) : LdI bs E C m H H2 X w ul ub Eb vt T l es' ve A := by
 have hc := h.hc
 exact ⟨h.c.off Y (by omega) (fun hh => by have := hE _ hh; omega) hn, h.g.off Y hY hl hn, (hn X (Ne.symm hX)).trans h.x, RWd.frm.fr h.rb fun i hi _ => hn i (fun hh => hb (hh ▸ hi)), h.ok, h.ne, h.nb, h.rt.fr (RP.frm _) fun i hi _ => hn i (fun hh => ht (hh ▸ hi)), h.nt, h.ra.fr (RP.frm _) fun i hi _ => hn i (fun hh => ha (hh ▸ hi)), h.ac, h.oa.fr fun i hi => hn i (fun hh => ha (hh ▸ hi)), h.la, h.hx, h.hc⟩
theorem LdI.cf {bs : List Int} {E : List Nat} {C m : Nat} {H H1 : Heap} {X : Nat} {w : Wd} {ul ub : Value} {Eb : List Nat} {vt : Value} {T : List Nat} {l : List Int} {es' : List Actn} {ve : Value} {A : List Nat} (h : LdI bs E C m H H1 X w ul ub Eb vt T l es' ve A) : CF H1 X 0 (.bool w.ok) ∧ CF H1 X 1 (.bool w.book.ok) ∧ CF H1 X 2 (iv w.book.sec) ∧ CF H1 X 3 ul ∧ CF H1 X 4 ub ∧ RF H1 X :=
 ⟨CF.of h.x rfl rfl, CF.of h.x rfl rfl, CF.of h.x rfl rfl, CF.of h.x rfl rfl, CF.of h.x rfl rfl, RF.of h.x⟩
theorem ac_cf {H : Heap} {Y : Nat} {a : Actn} (h : H[Y]? = some ⟨59, cAc a, true, true⟩) : CF H Y 0 (iv a.op) ∧ CF H Y 1 (iv a.ev.op) ∧ CF H Y 2 (iv a.ev.train) ∧ CF H Y 3 (iv a.ev.n) ∧ CF H Y 4 (iv a.train) ∧ CF H Y 5 (iv a.n) ∧ RF H Y :=
 ⟨CF.of h rfl rfl, CF.of h rfl rfl, CF.of h rfl rfl, CF.of h rfl rfl, CF.of h rfl rfl, CF.of h rfl rfl, RF.of h⟩
abbrev wd5 : List Value := [.bool false, .bool false, iv 0, nl, nl]
def B27 : SC := .seq (.reg [⟨some 4, .assign (.const (.int .i64 0)), none, []⟩, ⟨some 5, .assign (.const (.slice none 0 0)), none, []⟩, ⟨some 6, .assign (.const (.slice none 0 0)), none, []⟩, ⟨some 7, .alloc 42, none, []⟩]) (.seq (.reg [⟨some 15, .move (.tmp 0), none, []⟩, ⟨some 16, .call ⟨.value (.func 41), #[.tmp 15, .const (.int .i64 12)], #[75, 3]⟩, none, []⟩, ⟨some 17, .binOp .add 3 (.const (.int .i64 2)) (.tmp 16) 3, none, []⟩, ⟨some 8, .assign (.tmp 17), none, []⟩]) (.seq (.reg [⟨some 18, .move (.tmp 0), none, []⟩, ⟨some 19, .move (.tmp 8), none, []⟩, ⟨some 20, .call ⟨.value (.func 42), #[.tmp 18, .tmp 19], #[75, 3]⟩, none, []⟩, ⟨some 9, .assign (.tmp 20), none, []⟩]) (.seq (.reg [⟨some 21, .move (.tmp 8), none, []⟩, ⟨some 22, .move (.tmp 9), none, []⟩, ⟨some 23, .call ⟨.value (.func 31), #[.tmp 21, .tmp 22], #[3, 22]⟩, none, []⟩, ⟨some 10, .alloc 42, none, []⟩, ⟨none, .store 42 (.tmp 10) (.tmp 23), none, []⟩]) (.seq (.reg [⟨some 11, .assign (.const (.slice none 0 0)), none, []⟩]) (.seq (.seq (.reg [⟨some 24, .move (.tmp 0), none, []⟩, ⟨some 25, .move (.tmp 1), none, []⟩, ⟨some 26, .call ⟨.value (.func 41), #[.tmp 24, .tmp 25], #[75, 3]⟩, none, []⟩, ⟨some 12, .assign (.tmp 26), none, []⟩]) (.block 0 (.loop (.seq (.seq (.reg [⟨some 27, .move (.tmp 12), none, []⟩, ⟨some 28, .binOp .gtr 3 (.tmp 27) (.const (.int .i64 0)) 3, none, []⟩]) (.cond (.tmp 28) .skip (.exit 0))) (.seq (.block 1 (.seq (.reg [⟨some 31, .move (.tmp 0), none, []⟩, ⟨some 32, .load 42 (.tmp 10), none, []⟩, ⟨some 33, .call ⟨.value (.func 43), #[.tmp 31, .tmp 32], #[75, 42]⟩, none, []⟩, ⟨some 13, .alloc 59, none, []⟩, ⟨none, .store 59 (.tmp 13) (.tmp 33), none, []⟩]) (.seq (.reg [⟨some 34, .load 42 (.tmp 10), none, []⟩, ⟨some 35, .load 59 (.tmp 13), none, []⟩, ⟨some 36, .call ⟨.value (.func 32), #[.tmp 34, .tmp 35], #[42, 59]⟩, none, []⟩, ⟨some 14, .alloc 44, none, []⟩, ⟨none, .store 44 (.tmp 14) (.tmp 36), none, []⟩]) (.seq (.seq (.reg [⟨some 37, .fieldAddr 44 (.tmp 14) 0, none, []⟩, ⟨some 38, .load 3 (.tmp 37), none, []⟩, ⟨some 39, .binOp .neq 3 (.tmp 38) (.const (.int .i64 1)) 3, none, []⟩]) (.cond (.tmp 39) (.reg [⟨some 40, .fieldAddr 44 (.tmp 14) 1, none, []⟩, ⟨some 41, .load 42 (.tmp 40), none, []⟩, ⟨none, .store 42 (.tmp 10) (.tmp 41), none, []⟩]) .skip)) (.reg [⟨some 42, .move (.tmp 11), none, []⟩, ⟨some 43, .load 59 (.tmp 13), none, []⟩, ⟨some 44, .buildSlice 27 1 #[(0, (.tmp 43))], none, []⟩, ⟨some 45, .call ⟨.builtin .append, #[.tmp 42, .tmp 44], #[27, 27]⟩, none, []⟩, ⟨some 11, .assign (.tmp 45), none, []⟩]))))) (.reg [⟨some 29, .move (.tmp 12), none, []⟩, ⟨some 30, .binOp .sub 3 (.tmp 29) (.const (.int .i64 1)) 3, none, []⟩, ⟨some 12, .assign (.tmp 30), none, []⟩])))))) (.seq (.drw 0 [⟨some 46, .move (.tmp 8), none, []⟩, ⟨some 47, .move (.tmp 9), none, []⟩, ⟨some 48, .move (.tmp 11), none, []⟩, ⟨some 49, .load 42 (.tmp 10), none, []⟩, ⟨some 4, .assign (.tmp 46), none, [0]⟩, ⟨some 5, .assign (.tmp 47), none, [1, 4, 0]⟩, ⟨some 6, .assign (.tmp 48), none, [2, 5, 1, 4, 0]⟩, ⟨none, .store 42 (.tmp 7) (.tmp 49), none, [3, 6, 2, 5, 1, 4, 0]⟩]) .ret))))))
theorem s27 : Tryd.f27.body.bind (stripC 50) = some B27 := by kernel_rfl
theorem l4drive_ac {H : Heap} {bs : List Int} {E : List Nat} {C m : Nat} (h : Cur bs E C m H) (hm : m ≤ 100000) (n : Nat) (hn : n ≤ 200) :
  ∃ v H', AC Tryd.prog 27 [pt C 0, iv n] H v H' [C] ∧ ∃ (s : Int) (l : List Int) (vt : Value) (T : List Nat) (es' : List Actn) (ve : Value) (A : List Nat) (w : Wd) (ul ub : Value), v = .tuple #[iv s, vt, ve, .agg #[.bool w.ok, .bool w.book.ok, iv w.book.sec, ul, ub]] ∧ 2 ≤ s ∧ s ≤ 13 ∧ RS 1 RInt H' T vt l ∧ RS 6 RAc H' A ve es' ∧ (∀ a, a ∈ es' → acR a) ∧ es'.length ≤ 200 ∧ ul.oneCell' = true ∧ ub.oneCell' = true ∧ cellsV ul = [ul] ∧ cellsV ub = [ub] ∧ GC C H H' := by
 have hCl := h.lt
 have hEl := h.bd
 refine AC.of_bodyS (N := 50) Tryd.func27 s27 (by kernel_rfl) rfl rfl (by simp) ?_; unfold B27
 repeat (first | refine sA ?_ | refine sB ?_ | refine sC ?_ | refine sD ?_ | refine sE rfl ?_ | refine sF rfl ?_ | refine sG rfl ?_ | ((first | refine sk_reg fun K hK => ?_ | refine sk_drw mix fun K hK => ?_); simp; refine hK _ ?_; clear hK K))
 refine sk_at [(0, pt C 0), (1, iv n), (7, pt H.length 0)] (fun H0 => Cur bs E C m H0 ∧ GC C H H0 ∧ H0[H.length]? = some ⟨42, wd5, true, true⟩) (by simp [subL, getT]) ⟨h.gro (Gro.one _ _), GC.of (Gro.one _ _), by simp⟩ ?_
 rintro H0 ⟨h0, g0, b0⟩
 have hH0 : H.length < H0.length := lt_of_get b0
 obtain ⟨_, H1, ac1, x, rfl, x0, x1, _, h1, g1⟩ := pick_ac h0 (by omega) 12
 have hx := x1 (by omega)
 obtain ⟨s, hs⟩ : ∃ s, s = 2 + x := ⟨_, rfl⟩
 have hs12 : 2 ≤ s ∧ s ≤ 13 := by omega
 have hw1 : IntKind.i64.wrap (2 + x) = s := by rw [hs]; exact wrap_id (by omega) (by omega)
 obtain ⟨vt, H2, ac2, l, T, l1, l2, l3, l4, rt, nt, h2, g2⟩ := places_ac h1 (by omega) s (by omega)
 have xt := rt.one
 have hst : startOk s l = true := by
  simp only [startOk, Bool.and_eq_true, decide_eq_true_eq, List.all_eq_true]
  exact ⟨by simp [inB]; omega, by omega, fun y hy => by have := l4 y hy; simp [inB]; omega, l3⟩
 have hW : startW s l = wdS s l := by unfold startW; rw [if_pos hst]
 have hWr : rightB (startW s l) = true := by rw [hW]; exact wdS_ok hst
 have hWn : 0 < (startW s l).bodies.length := by rw [hW]; simp only [wdS, List.length_map]; exact List.length_pos_iff.2 l1
 repeat (first | refine sA ?_ | refine sB ?_ | refine sC ?_ | refine sD ?_ | refine sE rfl ?_ | refine sF rfl ?_ | refine sG rfl ?_ | ((first | refine sk_reg fun K hK => ?_ | refine sk_drw mix fun K hK => ?_); simp [hw1]; (repeat ((first | refine AskX.go (ac1) ?_ | refine AskD.go (ac1) ?_ | refine AskX.go (ac2) ?_ | refine AskD.go (ac2) ?_); simp [hw1])); refine hK _ ?_; clear hK K))
 refine sk_reg fun K hK => ?_; simp
 refine AskX.mkr (specStart_mk (rt.gro (by first | exact Gro.refl _ | exact ⟨_, rfl⟩ | exact ⟨_, by simp only [List.append_assoc, List.cons_append, List.nil_append]; rfl⟩ | exact ⟨[], by simp⟩) (RP.frm _)) s) ?_; rintro _ J1 Eb ⟨_, rfl, r1⟩ o1 n1; simp
 obtain ⟨ul, ub, E3, E4, rfl, rfl, rl, rd⟩ := RWd.five r1
 have hl02 : H0.length ≤ H2.length := Nat.le_trans g1.l g2.l
 have hz2 : ∀ n, H.length ≤ H2.length + n := fun n => by omega
 simp [rl.one, rl.cv, rd.one, rd.cv, hz2]
 refine hK _ ?_; clear hK K
 have o1l := o1.lt
 obtain ⟨X, hX⟩ : ∃ X, X = H2.length + J1.length := ⟨_, rfl⟩
 refine sk_at [(0, pt C 0), (1, iv n), (7, pt H.length 0), (8, iv s), (9, vt), (10, pt X 0)] (fun Hx => LdI bs E C (m + 22) H Hx X (startW s l) ul ub (E3 ++ E4) vt T l [] nl [] ∧ Hx[H.length]? = some ⟨42, wd5, true, true⟩) (by simp [subL, getT, hX]) ?_ ?_
 ·have b2 := g2.cf (g1.cf b0 (by omega)) (by omega)
  refine ⟨⟨h2.gro (Gro.one _ _), ((g0.trans g1).trans g2).trans (GC.of (Gro.one _ _)), ?_, ?_, hWr, hWn, fun e he => ?_, rt.gro (Gro.one _ _) (RP.frm _), fun e he => ?_, .inl ⟨rfl, rfl, rfl⟩, fun a ha => by simp at ha, ⟨List.nodup_nil, fun i hi => by simp at hi⟩, fun e he => by simp at he, by omega, hCl⟩, ?_⟩
  ·rw [hX, List.getElem?_append_right (by omega), Nat.add_sub_cancel_left]
   simp
  ·exact RWd.frm.gro (H := H2 ++ J1) r1 (by first | exact Gro.refl _ | exact ⟨_, rfl⟩ | exact ⟨_, by simp only [List.append_assoc, List.cons_append, List.nil_append]; rfl⟩ | exact ⟨[], by simp⟩)
  ·have h3 := n1 e he
   have h4 := o1l e he
   simp only [List.length_append] at h4
   exact ⟨by omega, by omega, by omega, by simp⟩
  ·have h3 := nt e he
   have h4 := rt.bd (RP.frm _) e he
   have h5 := g1.l
   exact ⟨by omega, by omega, by omega, by simp⟩
  ·exact (List.getElem?_append_left (lt_of_get b2)).trans b2
 clear ac1 ac2 x0 x1 h1 h2 g1 g2 r1 rl rd o1 n1 o1l h0 g0 b0 rt nt hz2 hl02 hX hH0
 rintro H3 ⟨hI, b7⟩
 obtain ⟨_, H4, ac1, j0, rfl, j00, j01, j02, h4, g4⟩ := pick_ac hI.c (by omega) (n : Int)
 have hI4 := hI.step h4 g4
 have b74 := g4.cf b7 (by omega)
 obtain ⟨N, rfl⟩ : ∃ N : Nat, j0 = N := ⟨j0.toNat, by omega⟩
 have hN : N ≤ 200 := by
  by_cases q : 1 ≤ (n : Int)
  ·have := j01 q; omega
  ·have := j02 (by omega); omega
 repeat (first | refine sA ?_ | refine sB ?_ | refine sC ?_ | refine sD ?_ | refine sE rfl ?_ | refine sF rfl ?_ | refine sG rfl ?_ | ((first | refine sk_reg fun K hK => ?_ | refine sk_drw mix fun K hK => ?_); simp; (repeat ((first | refine AskX.go (ac1) ?_ | refine AskD.go (ac1) ?_); simp)); refine hK _ ?_; clear hK K))
 refine sk_loop (fun t ts H' => ∃ (j : Nat) (w : Wd) (ul ub : Value) (Eb : List Nat) (es' : List Actn) (ve : Value) (A : List Nat), j ≤ N ∧ t = j ∧ LdI bs E C (m + 30 + 70 * (N - j)) H H' X w ul ub Eb vt T l es' ve A ∧ es'.length = N - j ∧ H'[H.length]? = some ⟨42, wd5, true, true⟩ ∧ ts = [(0, pt C 0), (7, pt H.length 0), (8, iv s), (9, vt), (10, pt X 0), (11, ve), (12, iv j)]) N _ ?_ ⟨N, startW s l, ul, ub, E3 ++ E4, [], nl, [], by omega, rfl, ?_, by simp, b74, rfl⟩ ?_
 ·simp [subL, getT]
 ·rw [Nat.sub_self]; exact hI4.step (hI4.c.mono (by omega)) (GC.refl _ _)
 clear hI hI4 b7 b74 ac1 h4 g4
 rintro j ts H5 ⟨_, w, ul, ub, Eb, es', ve, A, hj, rfl, hI, hel, b7, rfl⟩
 have hl5 := hI.g.l
 have hhx := hI.hx
 have wX : ∀ n, H.length ≤ X + n := fun n => by omega
 obtain ⟨x0, x1, x2, x3, x4, xr⟩ := hI.cf
 obtain ⟨vl', vb', F1, F2, hE, hEb, hll, hbb⟩ := RWd.five hI.rb
 simp only [List.cons.injEq, true_and, and_true] at hE
 obtain ⟨rfl, rfl⟩ := hE
 have xu := hll.one
 have yu := hll.cv
 have xv := hbb.one
 have yv := hbb.cv
 by_cases hj0 : j = 0
 ·subst hj0
  have c0 : CF H5 H.length 0 (.bool false) := CF.of b7 rfl rfl
  have c1 : CF H5 H.length 1 (.bool false) := CF.of b7 rfl rfl
  have c2 : CF H5 H.length 2 (iv 0) := CF.of b7 rfl rfl
  have c3 : CF H5 H.length 3 nl := CF.of b7 rfl rfl
  have c4 : CF H5 H.length 4 nl := CF.of b7 rfl rfl
  have cr := RF.of b7
  obtain ⟨av, cv, rfl⟩ := hI.ra.form
  have lv : H5.live C = true := hI.c.live
  repeat (first | refine sA ?_ | refine sB ?_ | refine sC ?_ | refine sD ?_ | refine sE rfl ?_ | refine sF rfl ?_ | refine sG rfl ?_ | ((first | refine sk_reg fun K hK => ?_ | refine sk_drw mix fun K hK => ?_); simp [x0.s, x1.s, x2.s, x3.s, x4.s, c0.s, c1.s, c2.s, c3.s, c4.s, cr.s, xu, yu, xv, yv, xt, lv]; refine hK _ ?_; clear hK K))
  refine sk_ret ?_; simp [c0.s, c1.s, c2.s, c3.s, c4.s]
  have hnp : ∀ i, i ≠ H.length → ((((((H5.put H.length 0 (.bool w.ok)).put H.length 1 (.bool w.book.ok)).put H.length 2 (iv w.book.sec)).put H.length 3 ul).put H.length 4 ub) : Heap)[i]? = H5[i]? := fun i hi => by rw [get_put_ne _ _ _ hi, get_put_ne _ _ _ hi, get_put_ne _ _ _ hi, get_put_ne _ _ _ hi, get_put_ne _ _ _ hi]
  have hI' := hI.off H.length hEl (Nat.le_refl _) (by omega) (fun hh => by have := (hI.nb _ hh).2.2.1; omega) (fun hh => by have := (hI.nt _ hh).2.2.1; omega) (fun hh => by have := (hI.la _ hh).2; omega) (H2 := ((((H5.put H.length 0 (.bool w.ok)).put H.length 1 (.bool w.book.ok)).put H.length 2 (iv w.book.sec)).put H.length 3 ul).put H.length 4 ub) (by simp only [length_put]; omega) hnp
  exact ⟨s, l, vt, T, es', _, A, w, ul, ub, ⟨rfl, rfl, rfl, rfl, rfl, rfl, rfl, rfl⟩, by omega, by omega, hI'.rt, hI'.ra.rs (by omega), hI'.ac, by omega, xu, xv, yu, yv, hI'.g⟩
 have hjz : 0 < j := by omega
 obtain ⟨_, H6, ac1, a, rfl, hra, h6, g6⟩ := act_ac hI.c (by omega) hI.rb (fun e he => (hI.nb e he).1) hI.ok hI.ne
 have hI6 := hI.step h6 g6
 have b76 := g6.cf b7 (by omega)
 have hl6 := hI6.g.l
 repeat (first | refine sA ?_ | refine sB ?_ | refine sC ?_ | refine sD ?_ | refine sE rfl ?_ | refine sF rfl ?_ | refine sG rfl ?_ | ((first | refine sk_reg fun K hK => ?_ | refine sk_drw mix fun K hK => ?_); simp [hjz, x0.s, x1.s, x2.s, x3.s, x4.s, xu, yu, xv, yv, hl6]; (repeat ((first | refine AskX.go (ac1) ?_ | refine AskD.go (ac1) ?_); simp [hjz, x0.s, x1.s, x2.s, x3.s, x4.s, xu, yu, xv, yv, hl6])); refine hK _ ?_; clear hK K))
 obtain ⟨Y, hY⟩ : ∃ Y, Y = H6.length := ⟨_, rfl⟩
 have bA := hI6.ra.bd (RP.frm _)
 have bE := RWd.frm.bd hI6.rb
 have bT := hI6.rt.bd (RP.frm _)
 have bX := lt_of_get hI6.x
 refine sk_at [(0, pt C 0), (7, pt H.length 0), (8, iv s), (9, vt), (10, pt X 0), (11, ve), (12, iv j), (13, pt Y 0)] (fun Hx => LdI bs E C (m + 30 + 70 * (N - j) + 60) H Hx X w ul ub Eb vt T l es' ve A ∧ Hx[H.length]? = some ⟨42, wd5, true, true⟩ ∧ Hx[Y]? = some ⟨59, cAc a, true, true⟩) (by simp [subL, getT, hY]) ⟨hI6.gro (Gro.one _ _), (List.getElem?_append_left (lt_of_get b76)).trans b76, by rw [hY]; simp [cAc]⟩ ?_
 have hYl : H.length ≤ Y := by omega
 have hYC : Y ≠ C := by have := hI.hc; omega
 have hYX : Y ≠ X := by omega
 have hYA : Y ∉ A := fun hh => by have := bA _ hh; omega
 have hYE : Y ∉ Eb := fun hh => by have := bE _ hh; omega
 have hY7 : Y ≠ H.length := by omega
 have wY : ∀ n, H.length ≤ Y + n := fun n => by omega
 clear hI6 b76 bA bE bT bX ac1 h6 g6 hI b7 x0 x1 x2 x3 x4 xr hll hbb hl5 hl6 hY
 rintro H7 ⟨hI, b7, by7⟩
 obtain ⟨x0, x1, x2, x3, x4, xr⟩ := hI.cf
 obtain ⟨c0, c1, c2, c3, c4, c5, cr⟩ := ac_cf by7
 have hl7 := hI.g.l
 have hz7 : ∀ n, H.length ≤ H7.length + n := fun n => by omega
 repeat refine sk_seq ?_
 refine sk_reg fun K hK => ?_; simp [x0.s, x1.s, x2.s, x3.s, x4.s, xu, xv, c0.s, c1.s, c2.s, c3.s, c4.s, c5.s]
 refine AskX.mkr (specStep_mk (RWd.frm.gro hI.rb (by first | exact Gro.refl _ | exact ⟨_, rfl⟩ | exact ⟨_, by simp only [List.append_assoc, List.cons_append, List.nil_append]; rfl⟩ | exact ⟨[], by simp⟩)) (right_bd hI.ok) a hra) ?_; rintro _ J3 A3 ⟨_, rfl, _, rfl, r3⟩ o3 n3; simp [xu, xv, c0.s, c1.s, c2.s, c3.s, c4.s, c5.s]
 obtain ⟨pl, pb, G1, G2, rfl, rfl, hpl, hpb⟩ := RWd.five r3
 simp [hpl.one, hpb.one, hpl.cv, hpb.cv, hl7, hz7]
 refine hK _ ?_; clear hK K
 obtain ⟨Z, hZ⟩ : ∃ Z, Z = H7.length + J3.length := ⟨_, rfl⟩
 have o3l := o3.lt
 have xpl := hpl.one
 have xpb := hpb.one
 have ypl := hpl.cv
 have ypb := hpb.cv
 have bA := hI.ra.bd (RP.frm _)
 have bX := lt_of_get hI.x
 have hDk : (stepWd w a).code ≠ 1 → rightB (stepWd w a).world = true ∧ 0 < (stepWd w a).world.bodies.length := fun hc => ⟨stepWd_ok hc, by rw [(stepWd_keep hc).1]; exact hI.ne⟩
 generalize hD : stepWd w a = D at *
 refine sk_at [(0, pt C 0), (7, pt H.length 0), (8, iv s), (9, vt), (10, pt X 0), (11, ve), (12, iv j), (13, pt Y 0), (14, pt Z 0)] (fun Hx => LdI bs E C (m + 30 + 70 * (N - j) + 60) H Hx X w ul ub Eb vt T l es' ve A ∧ Hx[H.length]? = some ⟨42, wd5, true, true⟩ ∧ Hx[Y]? = some ⟨59, cAc a, true, true⟩ ∧ Hx[Z]? = some ⟨44, [iv D.code, .bool D.world.ok, .bool D.world.book.ok, iv D.world.book.sec, pl, pb], true, true⟩ ∧ RWd Hx (G1 ++ G2) D.world [.bool D.world.ok, .bool D.world.book.ok, iv D.world.book.sec, pl, pb]) (by simp [subL, getT, hZ]) ?_ ?_
 ·refine ⟨hI.gro (Gro.one _ _), (List.getElem?_append_left (lt_of_get b7)).trans b7, (List.getElem?_append_left (lt_of_get by7)).trans by7, ?_, RWd.frm.gro (H := H7 ++ J3) r3 (by first | exact Gro.refl _ | exact ⟨_, rfl⟩ | exact ⟨_, by simp only [List.append_assoc, List.cons_append, List.nil_append]; rfl⟩ | exact ⟨[], by simp⟩)⟩
  rw [hZ, List.getElem?_append_right (by omega), Nat.add_sub_cancel_left]
  simp
 have n3' : ∀ e, e ∈ G1 ++ G2 → e ≠ C ∧ e ≠ X ∧ H.length < e ∧ e ∉ A := fun e he => by
  have h1 := n3 e he
  have hc := hI.hc
  have hx := hI.hx
  exact ⟨by omega, by omega, by omega, fun hh => by have := bA _ hh; omega⟩
 clear hI b7 by7 x0 x1 x2 x3 x4 xr c0 c1 c2 c3 c4 c5 cr hpl hpb r3 o3 n3 o3l bA
 rintro H10 ⟨hI, b7, by7, bz, r3⟩
 obtain ⟨x0, x1, x2, x3, x4, xr⟩ := hI.cf
 have z0 : CF H10 Z 0 (iv D.code) := CF.of bz rfl rfl
 have z1 : CF H10 Z 1 (.bool D.world.ok) := CF.of bz rfl rfl
 have z2 : CF H10 Z 2 (.bool D.world.book.ok) := CF.of bz rfl rfl
 have z3 : CF H10 Z 3 (iv D.world.book.sec) := CF.of bz rfl rfl
 have z4 : CF H10 Z 4 pl := CF.of bz rfl rfl
 have z5 : CF H10 Z 5 pb := CF.of bz rfl rfl
 refine sk_seq ?_
 refine sk_cut [(0, pt C 0), (7, pt H.length 0), (8, iv s), (9, vt), (10, pt X 0), (11, ve), (12, iv j), (13, pt Y 0)] (fun Hx => ∃ (w : Wd) (ul ub : Value) (Eb : List Nat), LdI bs E C (m + 30 + 70 * (N - j) + 60) H Hx X w ul ub Eb vt T l es' ve A ∧ Hx[H.length]? = some ⟨42, wd5, true, true⟩ ∧ Hx[Y]? = some ⟨59, cAc a, true, true⟩) ?_ ?_
 ·by_cases hc : D.code = 1
  ·repeat (first | refine sA ?_ | refine sB ?_ | refine sC ?_ | refine sD ?_ | refine sE rfl ?_ | refine sF rfl ?_ | refine sG rfl ?_ | ((first | refine sk_reg fun K hK => ?_ | refine sk_drw mix fun K hK => ?_); simp [z0.s, hc]; refine hK _ ?_; clear hK K))
   refine sk_inv ⟨by simp [subL, getT], w, ul, ub, Eb, hI, b7, by7⟩
  ·obtain ⟨hok, hne⟩ := hDk hc
   have hXl0 : H.length ≤ X := by omega
   repeat (first | refine sA ?_ | refine sB ?_ | refine sC ?_ | refine sD ?_ | refine sE rfl ?_ | refine sF rfl ?_ | refine sG rfl ?_ | ((first | refine sk_reg fun K hK => ?_ | refine sk_drw mix fun K hK => ?_); simp [z0.s, z1.s, z2.s, z3.s, z4.s, z5.s, x0.s, x1.s, x2.s, x3.s, x4.s, xr.s, hc, xpl, xpb, ypl, ypb, wX, hXl0]; refine hK _ ?_; clear hK K))
   have hnp : ∀ i, i ≠ X → ((((((H10.put X 0 (.bool D.world.ok)).put X 1 (.bool D.world.book.ok)).put X 2 (iv D.world.book.sec)).put X 3 pl).put X 4 pb) : Heap)[i]? = H10[i]? := fun i hi => by rw [get_put_ne _ _ _ hi, get_put_ne _ _ _ hi, get_put_ne _ _ _ hi, get_put_ne _ _ _ hi, get_put_ne _ _ _ hi]
   have hXC : X ≠ C := by have := hI.hc; omega
   have hxA : X ∉ A := fun hh => by have := (hI.la _ hh).2; omega
   have hxT : X ∉ T := fun hh => (hI.nt _ hh).2.1 rfl
   refine sk_inv ⟨by simp [subL, getT], D.world, pl, pb, G1 ++ G2, ⟨hI.c.off X hXC (fun hh => by have := hEl _ hh; omega) hnp, hI.g.off X hXl0 (by simp only [length_put]; omega) hnp, by rw [get_put, get_put, get_put, get_put, get_put, hI.x]; rfl, RWd.frm.fr r3 fun i hi _ => hnp i (n3' i hi).2.1, hok, hne, n3', hI.rt.fr (RP.frm _) fun i hi _ => hnp i (fun hh => hxT (hh ▸ hi)), hI.nt, hI.ra.fr (RP.frm _) fun i hi _ => hnp i (fun hh => hxA (hh ▸ hi)), hI.ac, hI.oa.fr fun i hi => hnp i (fun hh => hxA (hh ▸ hi)), hI.la, hI.hx, hI.hc⟩, (hnp _ (by omega)).trans b7, (hnp _ hYX).trans by7⟩
 clear hI b7 by7 bz r3 x0 x1 x2 x3 x4 xr z0 z1 z2 z3 z4 z5 xu yu xv yv
 rintro H11 ⟨w, ul, ub, Eb, hI, b7, by7⟩
 have hl11 := hI.g.l
 obtain ⟨c0, c1, c2, c3, c4, c5, cr⟩ := ac_cf by7
 have bA := hI.ra.bd (RP.frm _)
 obtain ⟨k', v', H12, A', e1, e2, e3, e4, e5, e6, e7⟩ := app_one (P := Tryd.prog) (t := 27) (e := 59) (sz := 5) (by' := 48) (z := .agg #[iv 0, iv 0, iv 0, iv 0, iv 0, iv 0]) (by simp) (by simp) (by simp) (by simp) rfl (RP.frm cAc) hI.ra hI.oa (x := a) (cx := [iv a.op, iv a.ev.op, iv a.ev.train, iv a.ev.n, iv a.train, iv a.n]) (Ex := []) ⟨rfl, rfl⟩ ⟨List.nodup_nil, fun i hi => by simp at hi⟩ (fun j _ hj => by simp at hj) rfl rfl (by omega) (by simp [maxLen]; omega)
 have hwr : wrO H.length [C] k' := fun i hi => .inl (by have := (hI.la i (e2 i hi).1).2; have := hI.hx; omega)
 have hwj : IntKind.i64.wrap ((j : Int) - 1) = ((j - 1 : Nat) : Int) := by rw [wrap_id (by omega) (by omega)]; omega
 repeat (first | refine sA ?_ | refine sB ?_ | refine sC ?_ | refine sD ?_ | refine sE rfl ?_ | refine sF rfl ?_ | refine sG rfl ?_ | ((first | refine sk_reg fun K hK => ?_ | refine sk_drw mix fun K hK => ?_); simp [c0.s, c1.s, c2.s, c3.s, c4.s, c5.s, e1, hwr, hl11, hwj]; refine hK _ ?_; clear hK K))
 have hhx := hI.hx
 have hhc := hI.hc
 have hs : ∀ i, i < H11.length → i ∉ A → H12[i]? = H11[i]? := fun i hi ha => e4 i hi ha
 have bE := RWd.frm.bd hI.rb
 have bT := hI.rt.bd (RP.frm _)
 have hcl := lt_of_get hI.x
 refine sk_inv ⟨j - 1, _, by omega, ?_, j - 1, w, ul, ub, Eb, es' ++ [a], v', A', by omega, rfl, ⟨?_, ⟨by show H.length ≤ H12.length; omega, fun i hi hc => (hs i (by omega) fun hh => by have := (hI.la i hh).2; omega).trans (hI.g.s i hi hc)⟩, (hs X hcl fun hh => by have := (hI.la X hh).2; omega).trans hI.x, RWd.frm.fr hI.rb fun i hi hl => hs i hl (hI.nb i hi).2.2.2, hI.ok, hI.ne, fun i hi => ⟨(hI.nb i hi).1, (hI.nb i hi).2.1, (hI.nb i hi).2.2.1, fun hh => ?_⟩, hI.rt.fr (RP.frm _) fun i hi hl => hs i hl (hI.nt i hi).2.2.2, fun i hi => ⟨(hI.nt i hi).1, (hI.nt i hi).2.1, (hI.nt i hi).2.2.1, fun hh => ?_⟩, e5, fun x hx => ?_, e6, fun i hi => ?_, hhx, hhc⟩, ?_, (hs _ (by omega) fun hh => by have := (hI.la _ hh).2; omega).trans b7, rfl⟩
 ·simp [subL, getT]
 ·obtain ⟨a1, c1, t, s', h1, h2, h3, h4⟩ := hI.c
  exact ⟨a1, c1, t, s', (hs C (by omega) fun hh => (hI.la C hh).1 rfl).trans h1, by omega, h3.fr (RPp.frm _ _) fun i hi hl => hs i hl fun hh => by have := (hI.la i hh).2; have := hEl i hi; omega, h4⟩
 ·rcases e7 i hh with h | h | h
  ·exact (hI.nb i hi).2.2.2 h
  ·simp at h
  ·have := bE i hi; omega
 ·rcases e7 i hh with h | h | h
  ·exact (hI.nt i hi).2.2.2 h
  ·simp at h
  ·have := bT i hi; omega
 ·rcases List.mem_append.1 hx with h | h
  ·exact hI.ac x h
  ·rw [List.mem_singleton.1 h]; exact hra
 ·rcases e7 i hi with h | h | h
  ·exact hI.la i h
  ·simp at h
  ·omega
 ·simp only [List.length_append, List.length_cons, List.length_nil]; omega
def B12 : SC := .seq (.reg [⟨some 2, .assign (.const (.int .i64 0)), none, []⟩, ⟨some 3, .assign (.const (.slice none 0 0)), none, []⟩, ⟨some 4, .assign (.const (.slice none 0 0)), none, []⟩]) (.seq (.reg [⟨some 10, .move (.tmp 0), none, []⟩, ⟨some 11, .build 78 #[(0, (.tmp 10))], none, []⟩, ⟨some 12, .box 78 (.tmp 11), none, []⟩, ⟨some 5, .assign (.tmp 12), none, []⟩]) (.seq (.reg [⟨some 14, .move (.tmp 5), none, []⟩, ⟨some 15, .call ⟨.value (.func 27), #[.tmp 14, .const (.int .i64 120)], #[75, 3]⟩, none, []⟩, ⟨some 13, .move (.tmp 15), none, []⟩, ⟨some 16, .extract (.tmp 13) 0, none, []⟩, ⟨some 17, .extract (.tmp 13) 1, none, []⟩, ⟨some 18, .extract (.tmp 13) 2, none, []⟩, ⟨some 19, .extract (.tmp 13) 3, none, []⟩, ⟨some 9, .alloc 42, none, []⟩, ⟨some 6, .assign (.tmp 16), none, []⟩, ⟨some 7, .assign (.tmp 17), none, []⟩, ⟨some 8, .assign (.tmp 18), none, []⟩, ⟨none, .store 42 (.tmp 9) (.tmp 19), none, []⟩]) (.seq (.reg [⟨some 20, .move (.tmp 6), none, []⟩, ⟨some 21, .move (.tmp 7), none, []⟩, ⟨some 22, .move (.tmp 8), none, []⟩, ⟨some 2, .assign (.tmp 20), none, []⟩, ⟨some 3, .assign (.tmp 21), none, []⟩, ⟨some 4, .assign (.tmp 22), none, []⟩]) .ret)))
theorem s12 : Tryd.f12.body.bind (stripC 23) = some B12 := by kernel_rfl
theorem drives_mk {H : Heap} {bs : List Int} {E : List Nat} {v : Value} (h : RS 1 RBy H E v bs) :
  Mkr Tryd.prog 12 [v] H fun H' A v' => ∃ (s : Int) (l : List Int) (vt ve : Value) (T : List Nat) (es' : List Actn) (A' : List Nat), v' = .tuple #[iv s, vt, ve] ∧ A = [] ∧ 2 ≤ s ∧ s ≤ 13 ∧ RS 1 RInt H' T vt l ∧ RS 6 RAc H' A' ve es' ∧ (∀ a, a ∈ es' → acR a) ∧ es'.length ≤ 200 := by
 obtain ⟨a1, c1, rfl⟩ := h.form
 have hEl := h.bd (RPp.frm _ _)
 have hcur : Cur bs E H.length 0 (H ++ [(⟨78, [.slice a1 bs.length c1, iv 0, .int .u64 0], true, true⟩ : Blk)]) := ⟨a1, c1, 0, 0, by simp, Nat.le_refl _, h.ext (RPp.frm _ _), fun e he => by have := hEl e he; omega⟩
 obtain ⟨_, H1, ac1, s, l, vt, T, es', ve, A, w, ul, ub, rfl, s1, s2, rt, ra, hac, hl, xu, xv, yu, yv, g1⟩ := l4drive_ac hcur (by omega) 120 (by omega)
 rw [show ((120 : Nat) : Int) = 120 from rfl] at ac1
 have gl := g1.l
 rw [List.length_append] at gl
 have hz1 : ∀ n, H.length ≤ H1.length + n := fun n => by omega
 have xt := rt.one
 have xe := ra.one
 refine Mkr.of_bodyS (N := 23) Tryd.func12 s12 (by kernel_rfl) rfl rfl (by simp) ?_; unfold B12
 have hl1 : H.length ≤ H1.length := by omega
 repeat (first | refine sA ?_ | refine sB ?_ | refine sC ?_ | refine sD ?_ | refine sE rfl ?_ | refine sF rfl ?_ | refine sG rfl ?_ | (refine sk_reg fun K hK => ?_; simp [xu, yu, xv, yv, xt, xe, hz1, hl1]; (repeat ((first | refine AskX.go (ac1) ?_); simp [xu, yu, xv, yv, xt, xe, hz1, hl1])); refine hK _ ?_; clear hK K))
 have hs1 : ∀ i, i < H.length → (H1 ++ [(⟨42, [.bool w.ok, .bool w.book.ok, iv w.book.sec, ul, ub], true, true⟩ : Blk)])[i]? = H[i]? := fun i hi => by
  rw [List.getElem?_append_left (by omega), g1.s i (by simp; omega) (by omega), List.getElem?_append_left hi]
 refine sk_ret ?_
 refine ⟨by rw [List.length_append]; omega, hs1, [], ⟨s, l, vt, ve, T, es', A, rfl, rfl, s1, s2, rt.ext (RP.frm _), ra.ext (RP.frm _), hac, hl⟩, ⟨List.nodup_nil, fun i hi => by simp at hi⟩, fun e he => by simp at he⟩
end Go.Proofs.YtpoedfmkiiijnaaDoor
