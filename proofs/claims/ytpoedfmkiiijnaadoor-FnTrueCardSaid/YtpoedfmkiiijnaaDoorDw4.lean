/- The drawing cursor: act. A walk. -/
import Derived.Test.YtpoedfmkiiijnaaDoorDw2
import Derived.Test.YtpoedfmkiiijnaaDoorSp2
namespace Go.Proofs.YtpoedfmkiiijnaaDoor
open Go Go.RowKit Go.Proofs.YtpoedfmkiiijnaaDoorAm
set_option linter.unusedVariables false
set_option linter.unusedSimpArgs false
set_option maxRecDepth 10000
set_option maxHeartbeats 8000000
/-- The first two blocks of act, and the cursor. -/
structure AcI (bs : List Int) (E : List Nat) (C m : Nat) (H H1 : Heap) (w : Wd) (vl vb : Value) : Prop where
 c : Cur bs E C m H1
 g : GC C H H1
 b3 : H1[H.length]? = some ⟨42, [.bool w.ok, .bool w.book.ok, iv w.book.sec, vl, vb], true, true⟩
 b4 : H1[H.length + 1]? = some ⟨59, [iv 0, iv 0, iv 0, iv 0, iv 0, iv 0], true, true⟩
theorem AcI.step {bs : List Int} {E : List Nat} {C m m' : Nat} {H H1 H2 : Heap} {w : Wd} {vl vb : Value} (h : AcI bs E C m H H1 w vl vb) (hC : C < H.length) (c : Cur bs E C m' H2) (g : GC C H1 H2) : AcI bs E C m' H H2 w vl vb :=
 ⟨c, h.g.trans g, g.cf h.b3 (by omega), g.cf h.b4 (by omega)⟩
/-- The act's block beside them. -/
structure AcJ (bs : List Int) (E : List Nat) (C m : Nat) (H H1 : Heap) (w : Wd) (vl vb : Value) (B5 : Nat) (a : Actn) : Prop where
 i : AcI bs E C m H H1 w vl vb
 b5 : H1[B5]? = some ⟨59, cAc a, true, true⟩
theorem AcJ.step {bs : List Int} {E : List Nat} {C m m' : Nat} {H H1 H2 : Heap} {w : Wd} {vl vb : Value} {B5 : Nat} {a : Actn} (h : AcJ bs E C m H H1 w vl vb B5 a) (hC : C < H.length) (h5 : H.length ≤ B5) (c : Cur bs E C m' H2) (g : GC C H1 H2) : AcJ bs E C m' H H2 w vl vb B5 a :=
 ⟨h.i.step hC c g, g.cf h.b5 (by omega)⟩
theorem AcJ.mono {bs : List Int} {E : List Nat} {C m m' : Nat} {H H1 : Heap} {w : Wd} {vl vb : Value} {B5 : Nat} {a : Actn} (h : AcJ bs E C m H H1 w vl vb B5 a) (hm : m ≤ m') : AcJ bs E C m' H H1 w vl vb B5 a := ⟨⟨h.i.c.mono hm, h.i.g, h.i.b3, h.i.b4⟩, h.b5⟩
/-- The act changes. -/
theorem AcJ.chg {bs : List Int} {E : List Nat} {C m : Nat} {H H1 H2 : Heap} {w : Wd} {vl vb : Value} {B5 : Nat} {a a' : Actn} (h : AcJ bs E C m H H1 w vl vb B5 a) (hC : C < H.length) (hE : ∀ e, e ∈ E → e < H.length) (h5 : H.length + 1 < B5) (hl : H1.length ≤ H2.length) (hn : ∀ i, i ≠ B5 → H2[i]? = H1[i]?) (hb : H2[B5]? = some ⟨59, cAc a', true, true⟩) :
  AcJ bs E C m H H2 w vl vb B5 a' :=
 ⟨⟨h.i.c.off B5 (by omega) (fun hh => by have := hE _ hh; omega) hn, h.i.g.off B5 (by omega) hl hn, (hn _ (by omega)).trans h.i.b3, (hn _ (by omega)).trans h.i.b4⟩, hb⟩
theorem AcJ.put {bs : List Int} {E : List Nat} {C m : Nat} {H H1 : Heap} {w : Wd} {vl vb : Value} {B5 : Nat} {a a' : Actn} (h : AcJ bs E C m H H1 w vl vb B5 a) (hC : C < H.length) (hE : ∀ e, e ∈ E → e < H.length) (h5 : H.length + 1 < B5) (j : Nat) (x : Value) (he : (cAc a).set j x = cAc a') :
  AcJ bs E C m H (H1.put B5 j x) w vl vb B5 a' := by
 refine h.chg hC hE h5 (by rw [length_put]; exact Nat.le_refl _) (fun i hi => get_put_ne _ _ _ hi) ?_
 rw [get_put, h.b5, ← he]
 rfl
theorem AcJ.cf {bs : List Int} {E : List Nat} {C m : Nat} {H H1 : Heap} {w : Wd} {vl vb : Value} {B5 : Nat} {a : Actn} (h : AcJ bs E C m H H1 w vl vb B5 a) :
  CF H1 B5 0 (iv a.op) ∧ CF H1 B5 1 (iv a.ev.op) ∧ CF H1 B5 2 (iv a.ev.train) ∧ CF H1 B5 3 (iv a.ev.n) ∧ CF H1 B5 4 (iv a.train) ∧ CF H1 B5 5 (iv a.n) ∧ RF H1 B5 ∧
  CF H1 H.length 0 (.bool w.ok) ∧ CF H1 H.length 1 (.bool w.book.ok) ∧ CF H1 H.length 2 (iv w.book.sec) ∧ CF H1 H.length 3 vl ∧ CF H1 H.length 4 vb :=
 ⟨CF.of h.b5 rfl rfl, CF.of h.b5 rfl rfl, CF.of h.b5 rfl rfl, CF.of h.b5 rfl rfl, CF.of h.b5 rfl rfl, CF.of h.b5 rfl rfl, RF.of h.b5, CF.of h.i.b3 rfl rfl, CF.of h.i.b3 rfl rfl, CF.of h.i.b3 rfl rfl, CF.of h.i.b3 rfl rfl, CF.of h.i.b3 rfl rfl⟩
def B43 : SC := .seq (.reg [⟨some 3, .box 42 (.tmp 1), none, []⟩, ⟨some 4, .alloc 59, none, []⟩]) (.seq (.drw 1 [⟨some 8, .move (.tmp 0), none, []⟩, ⟨some 9, .call ⟨.value (.func 41), #[.tmp 8, .const (.int .i64 5)], #[75, 3]⟩, none, [0]⟩, ⟨some 10, .binOp .add 3 (.const (.int .i64 1)) (.tmp 9) 3, none, [1, 0]⟩, ⟨some 11, .move (.tmp 0), none, []⟩, ⟨some 12, .fieldAddr 42 (.tmp 3) 2, none, []⟩, ⟨some 13, .load 40 (.tmp 12), none, [4]⟩, ⟨some 14, .call ⟨.builtin .len, #[.tmp 13], #[40]⟩, none, [5, 4]⟩, ⟨some 15, .call ⟨.value (.func 41), #[.tmp 11, .tmp 14], #[75, 3]⟩, none, [3, 6, 5, 4, 1, 0]⟩, ⟨some 16, .build 59 #[(0, (.tmp 10)), (2, (.tmp 15))], none, [2, 1, 0, 7, 3, 6, 5, 4]⟩, ⟨some 5, .alloc 59, none, []⟩, ⟨none, .store 59 (.tmp 5) (.tmp 16), none, [9, 8, 2, 1, 0, 7, 3, 6, 5, 4]⟩]) (.seq (.seq (.reg [⟨some 17, .fieldAddr 59 (.tmp 5) 0, none, []⟩, ⟨some 18, .load 3 (.tmp 17), none, []⟩]) (.block 0 (.seq (.reg [⟨some 20, .binOp .eql 3 (.tmp 18) (.const (.int .i64 1)) 3, none, []⟩, ⟨some 19, .assign (.tmp 20), none, []⟩]) (.cond (.tmp 19) (.seq (.reg [⟨some 21, .move (.tmp 0), none, []⟩, ⟨some 22, .fieldAddr 42 (.tmp 3) 1, none, []⟩, ⟨some 23, .load 39 (.tmp 22), none, []⟩, ⟨some 24, .call ⟨.value (.func 64), #[.tmp 21, .tmp 23], #[75, 39]⟩, none, []⟩, ⟨some 25, .fieldAddr 59 (.tmp 5) 1, none, []⟩, ⟨none, .store 57 (.tmp 25) (.tmp 24), none, []⟩]) (.seq (.reg [⟨some 26, .fieldAddr 59 (.tmp 5) 2, none, []⟩, ⟨some 27, .load 3 (.tmp 26), none, []⟩, ⟨some 28, .fieldAddr 59 (.tmp 5) 1, none, []⟩, ⟨some 29, .fieldAddr 57 (.tmp 28) 1, none, []⟩, ⟨none, .store 3 (.tmp 29) (.tmp 27), none, []⟩]) (.seq (.reg [⟨some 30, .move (.tmp 0), none, []⟩, ⟨some 31, .call ⟨.value (.func 41), #[.tmp 30, .const (.int .i64 3)], #[75, 3]⟩, none, []⟩, ⟨some 32, .binOp .eql 3 (.tmp 31) (.const (.int .i64 0)) 3, none, []⟩]) (.cond (.tmp 32) (.seq (.reg [⟨some 33, .fieldAddr 42 (.tmp 3) 1, none, []⟩, ⟨some 34, .fieldAddr 39 (.tmp 33) 2, none, []⟩, ⟨some 35, .load 37 (.tmp 34), none, []⟩, ⟨some 36, .fieldAddr 59 (.tmp 5) 2, none, []⟩, ⟨some 37, .load 3 (.tmp 36), none, []⟩, ⟨some 38, .indexAddr 37 (.tmp 35) (.tmp 37), none, []⟩, ⟨some 39, .load 50 (.tmp 38), none, []⟩, ⟨some 6, .alloc 50, none, []⟩, ⟨none, .store 50 (.tmp 6) (.tmp 39), none, []⟩]) (.drw 0 [⟨some 40, .fieldAddr 59 (.tmp 5) 2, none, []⟩, ⟨some 41, .load 3 (.tmp 40), none, [0]⟩, ⟨some 42, .fieldAddr 50 (.tmp 6) 0, none, []⟩, ⟨some 43, .load 3 (.tmp 42), none, [2]⟩, ⟨some 44, .fieldAddr 50 (.tmp 6) 1, none, []⟩, ⟨some 45, .load 22 (.tmp 44), none, [4]⟩, ⟨some 46, .call ⟨.builtin .len, #[.tmp 45], #[22]⟩, none, [5, 4]⟩, ⟨some 47, .binOp .add 3 (.tmp 43) (.tmp 46) 3, none, [3, 2, 6, 5, 4]⟩, ⟨some 48, .move (.tmp 0), none, []⟩, ⟨some 49, .call ⟨.value (.func 41), #[.tmp 48, .const (.int .i64 3)], #[75, 3]⟩, none, [8]⟩, ⟨some 50, .move (.tmp 0), none, []⟩, ⟨some 51, .call ⟨.value (.func 41), #[.tmp 50, .const (.int .i64 2)], #[75, 3]⟩, none, [10, 9, 8]⟩, ⟨some 52, .binOp .mul 3 (.tmp 49) (.tmp 51) 3, none, [9, 8, 11, 10]⟩, ⟨some 53, .binOp .sub 3 (.tmp 47) (.tmp 52) 3, none, [7, 3, 2, 6, 5, 4, 12, 9, 8, 11, 10]⟩, ⟨some 54, .build 57 #[(0, (.const (.int .i64 2))), (1, (.tmp 41)), (2, (.tmp 53))], none, [1, 0, 13, 7, 3, 2, 6, 5, 4, 12, 9, 8, 11, 10]⟩, ⟨some 55, .fieldAddr 59 (.tmp 5) 1, none, [0, 1, 2, 3, 4, 5, 6, 7, 8, 9, 10, 11, 12, 13, 14]⟩, ⟨none, .store 57 (.tmp 55) (.tmp 54), none, [15, 0, 1, 2, 3, 4, 5, 6, 7, 8, 9, 10, 11, 12, 13, 14]⟩])) .skip)))) (.seq (.reg [⟨some 57, .binOp .eql 3 (.tmp 18) (.const (.int .i64 2)) 3, none, []⟩, ⟨some 56, .assign (.tmp 57), none, []⟩]) (.cond (.tmp 56) (.seq (.reg [⟨some 58, .fieldAddr 42 (.tmp 3) 1, none, []⟩, ⟨some 59, .fieldAddr 39 (.tmp 58) 2, none, []⟩, ⟨some 60, .load 37 (.tmp 59), none, []⟩, ⟨some 61, .fieldAddr 59 (.tmp 5) 2, none, []⟩, ⟨some 62, .load 3 (.tmp 61), none, []⟩, ⟨some 63, .indexAddr 37 (.tmp 60) (.tmp 62), none, []⟩, ⟨some 64, .load 50 (.tmp 63), none, []⟩, ⟨some 7, .alloc 50, none, []⟩, ⟨none, .store 50 (.tmp 7) (.tmp 64), none, []⟩]) (.drw 0 [⟨some 65, .fieldAddr 50 (.tmp 7) 2, none, []⟩, ⟨some 66, .load 48 (.tmp 65), none, [0]⟩, ⟨some 67, .fieldAddr 50 (.tmp 7) 2, none, []⟩, ⟨some 68, .load 48 (.tmp 67), none, [2]⟩, ⟨some 69, .call ⟨.builtin .len, #[.tmp 68], #[48]⟩, none, [3, 2]⟩, ⟨some 70, .binOp .sub 3 (.tmp 69) (.const (.int .i64 1)) 3, none, [4, 3, 2]⟩, ⟨some 71, .move (.tmp 0), none, []⟩, ⟨some 72, .call ⟨.value (.func 41), #[.tmp 71, .const (.int .i64 3)], #[75, 3]⟩, none, [6]⟩, ⟨some 73, .move (.tmp 0), none, []⟩, ⟨some 74, .call ⟨.value (.func 41), #[.tmp 73, .const (.int .i64 2)], #[75, 3]⟩, none, [8, 7, 6]⟩, ⟨some 75, .binOp .mul 3 (.tmp 72) (.tmp 74) 3, none, [7, 6, 9, 8]⟩, ⟨some 76, .fieldAddr 50 (.tmp 7) 2, none, []⟩, ⟨some 77, .load 48 (.tmp 76), none, [11]⟩, ⟨some 78, .call ⟨.builtin .len, #[.tmp 77], #[48]⟩, none, [12, 11]⟩, ⟨some 79, .binOp .rem 3 (.tmp 75) (.tmp 78) 3, none, [10, 7, 6, 9, 8, 13, 12, 11]⟩, ⟨some 80, .binOp .sub 3 (.tmp 70) (.tmp 79) 3, none, [5, 4, 3, 2, 14, 10, 7, 6, 9, 8, 13, 12, 11]⟩, ⟨some 81, .indexAddr 48 (.tmp 66) (.tmp 80), none, [1, 0, 15, 5, 4, 3, 2, 14, 10, 7, 6, 9, 8, 13, 12, 11]⟩, ⟨some 82, .fieldAddr 88 (.tmp 81) 0, none, [16, 1, 0, 15, 5, 4, 3, 2, 14, 10, 7, 6, 9, 8, 13, 12, 11]⟩, ⟨some 83, .load 3 (.tmp 82), none, [17, 16, 1, 0, 15, 5, 4, 3, 2, 14, 10, 7, 6, 9, 8, 13, 12, 11]⟩, ⟨some 84, .fieldAddr 59 (.tmp 5) 3, none, [0, 1, 2, 3, 4, 5, 6, 7, 8, 9, 10, 11, 12, 13, 14, 15, 16, 17, 18]⟩, ⟨none, .store 3 (.tmp 84) (.tmp 83), none, [19, 0, 1, 2, 3, 4, 5, 6, 7, 8, 9, 10, 11, 12, 13, 14, 15, 16, 17, 18]⟩])) .skip)))))) (.seq (.seq (.reg [⟨some 85, .move (.tmp 0), none, []⟩, ⟨some 86, .call ⟨.value (.func 41), #[.tmp 85, .const (.int .i64 40)], #[75, 3]⟩, none, []⟩, ⟨some 87, .binOp .eql 3 (.tmp 86) (.const (.int .i64 0)) 3, none, []⟩]) (.cond (.tmp 87) (.seq (.reg [⟨some 88, .move (.tmp 0), none, []⟩, ⟨some 89, .call ⟨.value (.func 41), #[.tmp 88, .const (.int .i64 9)], #[75, 3]⟩, none, []⟩, ⟨some 90, .binOp .sub 3 (.tmp 89) (.const (.int .i64 1)) 3, none, []⟩, ⟨some 91, .fieldAddr 59 (.tmp 5) 3, none, []⟩, ⟨none, .store 3 (.tmp 91) (.tmp 90), none, []⟩]) (.reg [⟨some 92, .move (.tmp 0), none, []⟩, ⟨some 93, .fieldAddr 42 (.tmp 3) 2, none, []⟩, ⟨some 94, .load 40 (.tmp 93), none, []⟩, ⟨some 95, .call ⟨.builtin .len, #[.tmp 94], #[40]⟩, none, []⟩, ⟨some 96, .binOp .add 3 (.tmp 95) (.const (.int .i64 2)) 3, none, []⟩, ⟨some 97, .call ⟨.value (.func 41), #[.tmp 92, .tmp 96], #[75, 3]⟩, none, []⟩, ⟨some 98, .binOp .sub 3 (.tmp 97) (.const (.int .i64 1)) 3, none, []⟩, ⟨some 99, .fieldAddr 59 (.tmp 5) 2, none, []⟩, ⟨none, .store 3 (.tmp 99) (.tmp 98), none, []⟩])) .skip)) (.seq (.reg [⟨some 100, .load 59 (.tmp 5), none, []⟩, ⟨none, .store 59 (.tmp 4) (.tmp 100), none, []⟩]) .ret))))
theorem s43 : Tryd.f43.body.bind (stripC 101) = some B43 := by kernel_rfl
theorem act_ac {H : Heap} {bs : List Int} {E E2 : List Nat} {C m : Nat} (h : Cur bs E C m H) (hm : m ≤ 1000000) {w : Wd} {cs : List Value} (hw : RWd H E2 w cs) (hnc : ∀ e, e ∈ E2 → e ≠ C) (hr : rightB w = true) (hne : 0 < w.bodies.length) :
  ∃ v H', AC Tryd.prog 43 [pt C 0, .agg cs.toArray] H v H' [C] ∧ ∃ a : Actn, v = vAc a ∧ acR a ∧ Cur bs E C (m + 60) H' ∧ GC C H H' := by
 obtain ⟨vl, vb, E3, E4, rfl, rfl, hl, hb⟩ := RWd.five hw
 have hCl := h.lt
 have hEl := h.bd
 have xl := hl.one
 have xb := hb.one
 obtain ⟨rr1, rr2, rr3, rr4⟩ := rightB_all hr
 obtain ⟨hs1, hs2, hll, _⟩ := bookOk_sec rr2
 obtain ⟨al, cl, rfl⟩ := hl.form
 obtain ⟨ab, cb, rfl⟩ := hb.form
 refine AC.of_bodyS (N := 101) Tryd.func43 s43 (by kernel_rfl) rfl rfl (by simp) ?_; unfold B43
 repeat (first | refine sA ?_ | refine sB ?_ | refine sC ?_ | refine sD ?_ | refine sE rfl ?_ | refine sF rfl ?_ | refine sG rfl ?_ | ((first | refine sk_reg fun K hK => ?_ | refine sk_drw mix fun K hK => ?_); simp; refine hK _ ?_; clear hK K))
 refine sk_at [(0, pt C 0), (3, pt H.length 0), (4, pt (H.length + 1) 0)] (fun H0 => AcI bs E C m H H0 w (.slice al w.book.lines.length cl) (.slice ab w.bodies.length cb)) (by simp [subL, getT]) ⟨h.gro (Gro.one _ _), GC.of (Gro.one _ _), by simp, by simp⟩ ?_
 rintro H0 hI
 have h0 := hI.c
 have hz0 : ∀ n, H.length ≤ H.length + n := fun n => by omega
 have p4 : CF H0 H.length 4 (.slice ab w.bodies.length cb) := CF.of hI.b3 rfl rfl
 obtain ⟨Hd, hHd⟩ : ∃ Hd, Hd = H0 ++ [(⟨0, [], false, false⟩ : Blk)] := ⟨_, rfl⟩
 have hId : AcI bs E C m H Hd w (.slice al w.book.lines.length cl) (.slice ab w.bodies.length cb) := hI.step hCl (by rw [hHd]; exact h0.gro (Gro.one _ _)) (by rw [hHd]; exact GC.of (Gro.one _ _))
 have hdd : Hd[H0.length]? = some ⟨0, [], false, false⟩ := by rw [hHd]; simp
 obtain ⟨_, H1, ac1, x, rfl, x0, x1, _, h1, g1⟩ := pick_ac hId.c (by omega) 5
 obtain ⟨_, H2, ac2, y, rfl, y0, y1, _, h2, g2⟩ := pick_ac h1 (by omega) (w.bodies.length : Int)
 have hx5 := x1 (by omega)
 have hy5 := y1 (by omega)
 obtain ⟨k, rfl⟩ : ∃ k : Nat, y = k := ⟨y.toNat, by omega⟩
 have hw1 : IntKind.i64.wrap (1 + x) = 1 + x := wrap_id (by omega) (by omega)
 have hI1 := hId.step hCl h1 g1
 have hI2 := hI1.step hCl h2 g2
 have hBC : H0.length ≠ C := by have := hI.g.l; omega
 have d1 := g1.cf hdd hBC
 have d2 := g2.cf d1 hBC
 have k1 : Heap.hot H1 H0.length = false := hot_dead d1
 have k2 : Heap.hot H2 H0.length = false := hot_dead d2
 have p4' : CF H1 H.length 4 (.slice ab w.bodies.length cb) := CF.of hI1.b3 rfl rfl
 have hl0 := hI.g.l
 have hl2 := hI2.g.l
 have hd1 := g1.l
 have hd2 := g2.l
 have lv0 : Hd.live C = true := hId.c.live
 have lv1 : H1.live C = true := h1.live
 have lv2 : H2.live C = true := h2.live
 rw [hHd] at ac1 hd1 lv0
 simp only [List.length_append, List.length_cons, List.length_nil, Nat.zero_add] at hd1
 obtain ⟨B5, hB5⟩ : ∃ B, B = H0.length := ⟨_, rfl⟩
 rw [← hB5] at d1 d2 k1 k2 hBC hd1
 obtain ⟨H3, hH3⟩ : ∃ H3 : Heap, H2.set B5 ⟨59, [iv 0, iv 0, iv 0, iv 0, iv 0, iv 0], true, true⟩ = H3 := ⟨_, rfl⟩
 have n3 : ∀ i, i ≠ B5 → H3[i]? = H2[i]? := fun i hi => by rw [← hH3, List.getElem?_set_ne (Ne.symm hi)]
 have nb : H3[B5]? = some ⟨59, [iv 0, iv 0, iv 0, iv 0, iv 0, iv 0], true, true⟩ := by rw [← hH3, List.getElem?_set_self (lt_of_get d2)]
 have nl3 : H3.length = H2.length := by rw [← hH3, List.length_set]
 have n0 : CF H3 B5 0 (iv 0) := CF.of nb rfl rfl
 have n1 : CF H3 B5 1 (iv 0) := CF.of nb rfl rfl
 have n2 : CF H3 B5 2 (iv 0) := CF.of nb rfl rfl
 have n4 : CF H3 B5 3 (iv 0) := CF.of nb rfl rfl
 have n5 : CF H3 B5 4 (iv 0) := CF.of nb rfl rfl
 have n6 : CF H3 B5 5 (iv 0) := CF.of nb rfl rfl
 have nr : RF H3 B5 := RF.of nb
 have hB5l : H.length + 1 < B5 := by have := lt_of_get hI.b4; omega
 have hB5m : H.length ≤ B5 := by omega
 obtain ⟨H4, hH4⟩ : ∃ H4 : Heap, (((((H3.put B5 0 (iv (1 + x))).put B5 1 (iv 0)).put B5 2 (iv 0)).put B5 3 (iv 0)).put B5 4 (iv k)).put B5 5 (iv 0) = H4 := ⟨_, rfl⟩
 have hn4 : ∀ i, i ≠ B5 → H4[i]? = H2[i]? := fun i hi => by rw [← hH4, get_put_ne _ _ _ hi, get_put_ne _ _ _ hi, get_put_ne _ _ _ hi, get_put_ne _ _ _ hi, get_put_ne _ _ _ hi, get_put_ne _ _ _ hi, n3 i hi]
 have hl4 : H4.length = H2.length := by rw [← hH4]; simp only [length_put]; exact nl3
 have hb4 : H4[B5]? = some ⟨59, cAc ⟨1 + x, ⟨0, 0, 0⟩, k, 0⟩, true, true⟩ := by rw [← hH4, get_put, get_put, get_put, get_put, get_put, get_put, nb]; rfl
 have hE5 : B5 ∉ E := fun hh => by have := hEl _ hh; omega
 refine sk_drw mix fun K hK => ?_; simp [p4.s, ← hB5]
 refine AskD.go (ac1) ?_; simp [hw1, p4.s, p4'.s, k1, hd1, lv0, ← hB5]
 refine AskD.go (ac2) ?_; simp [hw1, p4.s, p4'.s, k1, k2, hd1, hd2, lv1, ← hB5, hH3, n0.s, n1.s, n2.s, n4.s, n5.s, n6.s, nr.s, hB5m, hH4]
 refine hK _ ?_; clear hK K
 obtain ⟨op, hop⟩ : ∃ op, op = 1 + x := ⟨_, rfl⟩
 rw [← hop] at hb4
 have hkb : k < w.bodies.length := by omega
 have hkl : k < w.book.lines.length := by omega
 have hnc3 : ∀ e, e ∈ E3 → e ≠ C := fun e he => hnc e (by simp [he])
 have hln := bookOk_ln rr2 hkl
 have wB : ∀ n, H.length ≤ B5 + n := fun n => by omega
 refine sk_at [(0, pt C 0), (3, pt H.length 0), (4, pt (H.length + 1) 0), (5, pt B5 0)] (fun Hx => AcJ bs E C (m + 4) H Hx w (.slice al w.book.lines.length cl) (.slice ab w.bodies.length cb) B5 ⟨op, ⟨0, 0, 0⟩, k, 0⟩) (by simp [subL, getT]) ⟨⟨h2.off B5 hBC hE5 hn4, hI2.g.off B5 hB5m (by omega) hn4, (hn4 _ (by omega)).trans hI2.b3, (hn4 _ (by omega)).trans hI2.b4⟩, hb4⟩ ?_
 clear ac1 ac2 n0 n1 n2 n4 n5 n6 nr nb hn4 n3 nl3 d1 d2 k1 k2 p4 p4' hdd hI hI1 hI2 hId h0 h1 h2 g1 g2 hd1 hd2 lv0 lv1 lv2 hH3 hH4 hl0 hl2 hb4 hl4
 rintro H5 hJ
 obtain ⟨u0, u1, u2, u3, u4, u5, ur, p0, p1, p2, p3, p4⟩ := hJ.cf
 refine sk_seq ?_
 refine sk_cut [(0, pt C 0), (3, pt H.length 0), (4, pt (H.length + 1) 0), (5, pt B5 0)] (fun Hx => ∃ a : Actn, AcJ bs E C (m + 40) H Hx w (.slice al w.book.lines.length cl) (.slice ab w.bodies.length cb) B5 a ∧ acR a) ?_ ?_
 ·by_cases o1 : op = 1
  ·subst o1
   obtain ⟨_, H6, ac1, e, rfl, h6, g6⟩ := event_ac hJ.i.c (by omega) (b := w.book) ⟨_, rfl, hJ.i.g.rs RLn.frm hl hnc3⟩ hnc3 rr2
   have hJ6 := hJ.step hCl hB5m h6 g6
   obtain ⟨u0', u1', u2', u3', u4', u5', ur', _⟩ := hJ6.cf
   have gl := g6.l
   have lv : H5.live C = true := hJ.i.c.live
   repeat (first | refine sA ?_ | refine sB ?_ | refine sC ?_ | refine sD ?_ | refine sE rfl ?_ | refine sF rfl ?_ | refine sG rfl ?_ | ((first | refine sk_reg fun K hK => ?_ | refine sk_drw mix fun K hK => ?_); simp [u0.s, p0.s, p1.s, p2.s, p3.s, p4.s, u0'.s, u1'.s, u2'.s, u3'.s, u4'.s, u5'.s, ur'.s, wB, hB5m, lv, gl]; (repeat ((first | refine AskX.go (ac1) ?_ | refine AskD.go (ac1) ?_); simp [u0.s, p0.s, p1.s, p2.s, p3.s, p4.s, u0'.s, u1'.s, u2'.s, u3'.s, u4'.s, u5'.s, ur'.s, wB, hB5m, lv, gl])); refine hK _ ?_; clear hK K))
   have hJ7 : AcJ bs E C (m + 4 + 24) H ((((H6.put B5 1 (iv e.op)).put B5 2 (iv e.train)).put B5 3 (iv e.n)).put B5 2 (iv k)) w (.slice al w.book.lines.length cl) (.slice ab w.bodies.length cb) B5 ⟨1, ⟨e.op, k, e.n⟩, k, 0⟩ :=
    (((hJ6.put hCl hEl hB5l 1 (iv e.op) (a' := ⟨1, ⟨e.op, 0, 0⟩, k, 0⟩) rfl).put hCl hEl hB5l 2 (iv e.train) (a' := ⟨1, ⟨e.op, e.train, 0⟩, k, 0⟩) rfl).put hCl hEl hB5l 3 (iv e.n) (a' := ⟨1, ⟨e.op, e.train, e.n⟩, k, 0⟩) rfl).put hCl hEl hB5l 2 (iv k) (a' := ⟨1, ⟨e.op, k, e.n⟩, k, 0⟩) rfl
   refine sk_at [(0, pt C 0), (3, pt H.length 0), (4, pt (H.length + 1) 0), (5, pt B5 0)] (fun Hx => AcJ bs E C (m + 4 + 24) H Hx w (.slice al w.book.lines.length cl) (.slice ab w.bodies.length cb) B5 ⟨1, ⟨e.op, k, e.n⟩, k, 0⟩) (by simp [subL, getT]) hJ7 ?_
   clear hJ hJ6 hJ7 ac1 h6 g6 gl lv u0 u1 u2 u3 u4 u5 ur p0 p1 p2 p3 p4 u0' u1' u2' u3' u4' u5' ur'
   rintro H7 hJ
   obtain ⟨_, H8, ac1, z, rfl, z0, z1, _, h1, g1⟩ := pick_ac hJ.i.c (by omega) 3
   have hJ8 := hJ.step hCl hB5m h1 g1
   by_cases hz : z = 0
   case neg =>
    repeat (first | refine sA ?_ | refine sB ?_ | refine sC ?_ | refine sD ?_ | refine sE rfl ?_ | refine sF rfl ?_ | refine sG rfl ?_ | ((first | refine sk_reg fun K hK => ?_ | refine sk_drw mix fun K hK => ?_); simp [hz]; (repeat ((first | refine AskX.go (ac1) ?_ | refine AskD.go (ac1) ?_); simp [hz])); refine hK _ ?_; clear hK K))
    refine sk_inv ⟨by simp [subL, getT], _, hJ8.mono (by omega), by simp [acR, i64R]⟩
   obtain ⟨u0, u1, u2, u3, u4, u5, ur, p0, p1, p2, p3, p4⟩ := hJ8.cf
   have hl8 : RS 4 RLn H8 E3 (.slice al w.book.lines.length cl) w.book.lines := hJ8.i.g.rs RLn.frm hl hnc3
   obtain ⟨il, ol, vw, vg, F1, F2, hpl, hil, d0, d1, d2, d3, rw1, rg1, yo1, yo2, hFE⟩ := hl8.line hkl
   simp only [Value.slice.injEq, true_and] at hpl
   obtain ⟨rfl, rfl⟩ := hpl
   obtain ⟨aw, cw, rfl⟩ := rw1.form
   have hg8 := hJ8.i.g.l
   repeat (first | refine sA ?_ | refine sB ?_ | refine sC ?_ | refine sD ?_ | refine sE rfl ?_ | refine sF rfl ?_ | refine sG rfl ?_ | ((first | refine sk_reg fun K hK => ?_ | refine sk_drw mix fun K hK => ?_); simp [hz, p0.s, p1.s, p2.s, p3.s, p4.s, u4.s, d0.s, d1.s, d2.s, d3.s, hkl, yo1, yo2, hg8]; (repeat ((first | refine AskX.go (ac1) ?_ | refine AskD.go (ac1) ?_); simp [hz, p0.s, p1.s, p2.s, p3.s, p4.s, u4.s, d0.s, d1.s, d2.s, d3.s, hkl, yo1, yo2, hg8])); refine hK _ ?_; clear hK K))
   obtain ⟨B6, hB6⟩ : ∃ B, B = H8.length := ⟨_, rfl⟩
   have hB56 : B5 < B6 := by have := lt_of_get hJ8.b5; omega
   refine sk_at [(0, pt C 0), (3, pt H.length 0), (4, pt (H.length + 1) 0), (5, pt B5 0), (6, pt B6 0)] (fun Hx => AcJ bs E C (m + 4 + 24 + 2) H Hx w (.slice (some ⟨il, ol, none⟩) w.book.lines.length 0) (.slice ab w.bodies.length cb) B5 ⟨1, ⟨e.op, k, e.n⟩, k, 0⟩ ∧ Hx[B6]? = some ⟨50, [iv w.book.lines[k].gone, .slice aw w.book.lines[k].way.length cw, vg, iv w.book.lines[k].drop], true, true⟩) (by simp [subL, getT, hB6]) ⟨hJ8.step hCl hB5m (hJ8.i.c.gro (Gro.one _ _)) (GC.of (Gro.one _ _)), by rw [hB6]; simp⟩ ?_
   clear hJ hJ8 ac1 h1 g1 z0 z1 u0 u1 u2 u3 u4 u5 ur p0 p1 p2 p3 p4 d0 d1 d2 d3 rw1 rg1 hB6 hg8 hl8
   rintro H9 ⟨hJ, b6⟩
   have hBC6 : B6 ≠ C := by omega
   obtain ⟨_, H10, ac1, z1, rfl, z10, z11, _, h1, g1⟩ := pick_ac hJ.i.c (by omega) 3
   have hJ10 := hJ.step hCl hB5m h1 g1
   obtain ⟨_, H11, ac2, z2, rfl, z20, z21, _, h2, g2⟩ := pick_ac hJ10.i.c (by omega) 2
   have hJ11 := hJ10.step hCl hB5m h2 g2
   have b6' := g1.cf b6 hBC6
   obtain ⟨u0, u1, u2, u3, u4, u5, ur, _⟩ := hJ.cf
   obtain ⟨v0, v1, v2, v3, v4, v5, vr, _⟩ := hJ10.cf
   obtain ⟨t0, t1, t2, t3, t4, t5, tr, _⟩ := hJ11.cf
   have b6'' := g2.cf b6' hBC6
   have l0 : CF H9 B6 0 (iv w.book.lines[k].gone) := CF.of b6 rfl rfl
   have l1 : CF H9 B6 1 (.slice aw w.book.lines[k].way.length cw) := CF.of b6 rfl rfl
   have l0' : CF H10 B6 0 (iv w.book.lines[k].gone) := CF.of b6' rfl rfl
   have l1' : CF H10 B6 1 (.slice aw w.book.lines[k].way.length cw) := CF.of b6' rfl rfl
   have l0'' : CF H11 B6 0 (iv w.book.lines[k].gone) := CF.of b6'' rfl rfl
   have l1'' : CF H11 B6 1 (.slice aw w.book.lines[k].way.length cw) := CF.of b6'' rfl rfl
   have gl1 := g1.l
   have gl2 := g2.l
   have lv9 : H9.live C = true := hJ.i.c.live
   have lv10 : H10.live C = true := hJ10.i.c.live
   repeat (first | refine sA ?_ | refine sB ?_ | refine sC ?_ | refine sD ?_ | refine sE rfl ?_ | refine sF rfl ?_ | refine sG rfl ?_ | ((first | refine sk_reg fun K hK => ?_ | refine sk_drw mix fun K hK => ?_); simp [u4.s, l0.s, l1.s, v4.s, l0'.s, l1'.s, t4.s, l0''.s, l1''.s, t1.s, t2.s, t3.s, tr.s, wB, hB5m, gl1, gl2, lv9, lv10]; (repeat ((first | refine AskX.go (ac1) ?_ | refine AskD.go (ac1) ?_ | refine AskX.go (ac2) ?_ | refine AskD.go (ac2) ?_); simp [u4.s, l0.s, l1.s, v4.s, l0'.s, l1'.s, t4.s, l0''.s, l1''.s, t1.s, t2.s, t3.s, tr.s, wB, hB5m, gl1, gl2, lv9, lv10])); refine hK _ ?_; clear hK K))
   have hJ12 : AcJ bs E C (m + 4 + 24 + 2 + 2 + 2) H (((H11.put B5 1 (iv 2)).put B5 2 (iv k)).put B5 3 (iv (IntKind.i64.wrap (IntKind.i64.wrap (w.book.lines[k].gone + w.book.lines[k].way.length) - IntKind.i64.wrap (z1 * z2))))) w (.slice (some ⟨il, ol, none⟩) w.book.lines.length 0) (.slice ab w.bodies.length cb) B5 ⟨1, ⟨2, k, IntKind.i64.wrap (IntKind.i64.wrap (w.book.lines[k].gone + w.book.lines[k].way.length) - IntKind.i64.wrap (z1 * z2))⟩, k, 0⟩ :=
    ((hJ11.put hCl hEl hB5l 1 (iv 2) (a' := ⟨1, ⟨2, k, e.n⟩, k, 0⟩) rfl).put hCl hEl hB5l 2 (iv k) (a' := ⟨1, ⟨2, k, e.n⟩, k, 0⟩) rfl).put hCl hEl hB5l 3 _ (a' := ⟨1, ⟨2, k, _⟩, k, 0⟩) rfl
   refine sk_inv ⟨by simp [subL, getT], _, hJ12.mono (by omega), by simp [acR, i64R]⟩
  by_cases o2 : op = 2
  case neg =>
   repeat (first | refine sA ?_ | refine sB ?_ | refine sC ?_ | refine sD ?_ | refine sE rfl ?_ | refine sF rfl ?_ | refine sG rfl ?_ | ((first | refine sk_reg fun K hK => ?_ | refine sk_drw mix fun K hK => ?_); simp [u0.s, o1, o2]; refine hK _ ?_; clear hK K))
   refine sk_inv ⟨by simp [subL, getT], _, hJ.mono (by omega), by simp [acR, i64R]⟩
  subst o2
  have hl8 : RS 4 RLn H5 E3 (.slice al w.book.lines.length cl) w.book.lines := hJ.i.g.rs RLn.frm hl hnc3
  obtain ⟨il, ol, vw, vg, F1, F2, hpl, hil, d0, d1, d2, d3, rw1, rg1, yo1, yo2, hFE⟩ := hl8.line hkl
  simp only [Value.slice.injEq, true_and] at hpl
  obtain ⟨rfl, rfl⟩ := hpl
  have hg8 := hJ.i.g.l
  repeat (first | refine sA ?_ | refine sB ?_ | refine sC ?_ | refine sD ?_ | refine sE rfl ?_ | refine sF rfl ?_ | refine sG rfl ?_ | ((first | refine sk_reg fun K hK => ?_ | refine sk_drw mix fun K hK => ?_); simp [u0.s, p0.s, p1.s, p2.s, p3.s, p4.s, u4.s, d0.s, d1.s, d2.s, d3.s, hkl, yo1, yo2, hg8]; refine hK _ ?_; clear hK K))
  obtain ⟨B6, hB6⟩ : ∃ B, B = H5.length := ⟨_, rfl⟩
  have hB56 : B5 < B6 := by have := lt_of_get hJ.b5; omega
  have hB6l : H.length ≤ B6 := by omega
  refine sk_at [(0, pt C 0), (3, pt H.length 0), (4, pt (H.length + 1) 0), (5, pt B5 0), (7, pt B6 0)] (fun Hx => AcJ bs E C (m + 4) H Hx w (.slice (some ⟨il, ol, none⟩) w.book.lines.length 0) (.slice ab w.bodies.length cb) B5 ⟨2, ⟨0, 0, 0⟩, k, 0⟩ ∧ Hx[B6]? = some ⟨50, [iv w.book.lines[k].gone, vw, vg, iv w.book.lines[k].drop], true, true⟩ ∧ RS 2 RGr Hx F2 vg w.book.lines[k].grs) (by simp [subL, getT, hB6]) ⟨hJ.step hCl hB5m (hJ.i.c.gro (Gro.one _ _)) (GC.of (Gro.one _ _)), by rw [hB6]; simp, rg1.gro (Gro.one _ _) (RP.frm _)⟩ ?_
  clear hJ u0 u1 u2 u3 u4 u5 ur p0 p1 p2 p3 p4 d0 d1 d2 d3 rw1 rg1 hB6 hg8 hl8
  rintro H9 ⟨hJ, b6, rg⟩
  have hBC6 : B6 ≠ C := by omega
  have hnF : ∀ e, e ∈ F2 → e ≠ C := fun e he => hnc3 e (hFE e (by simp [he]))
  obtain ⟨_, H10, ac1, z1, rfl, z10, z11, _, h1, g1⟩ := pick_ac hJ.i.c (by omega) 3
  have hJ10 := hJ.step hCl hB5m h1 g1
  obtain ⟨_, H11, ac2, z2, rfl, z20, z21, _, h2, g2⟩ := pick_ac hJ10.i.c (by omega) 2
  have hJ11 := hJ10.step hCl hB5m h2 g2
  have b6' := g1.cf b6 hBC6
  have b6'' := g2.cf b6' hBC6
  have rg' := g1.rs (RP.frm _) rg hnF
  have rg'' := g2.rs (RP.frm _) rg' hnF
  have hn0 := hln.n0
  have hn1 := hln.n1
  have hm0 : 0 ≤ z1 * z2 := Int.mul_nonneg z10 z20
  have hm1 : z1 * z2 ≤ 1000 := by
   have a1 := z11 (by omega)
   have a2 := z21 (by omega)
   have : z1 * z2 ≤ 3 * 2 := Int.mul_le_mul (by omega) (by omega) z20 (by omega)
   omega
  have hmw : IntKind.i64.wrap (z1 * z2) = z1 * z2 := wrap_id (by omega) (by omega)
  obtain ⟨L, hL⟩ : ∃ L, L = w.book.lines[k].grs.length := ⟨_, rfl⟩
  have hLr : 0 ≤ (z1 * z2).tmod L ∧ (z1 * z2).tmod L < L := by rw [Int.tmod_eq_emod_of_nonneg hm0]; exact ⟨Int.emod_nonneg _ (by omega), Int.emod_lt_of_pos _ (by omega)⟩
  obtain ⟨t, ht⟩ : ∃ t : Nat, (t : Int) = (L : Int) - 1 - (z1 * z2).tmod L := ⟨((L : Int) - 1 - (z1 * z2).tmod L).toNat, by omega⟩
  have htl : t < w.book.lines[k].grs.length := by omega
  have hw2 : IntKind.i64.wrap ((w.book.lines[k].grs.length : Int) - 1) = (w.book.lines[k].grs.length : Int) - 1 := wrap_id (by omega) (by omega)
  rw [hL] at ht hLr
  have hw3 : IntKind.i64.wrap ((w.book.lines[k].grs.length : Int) - 1 - (z1 * z2).tmod (w.book.lines[k].grs.length : Int)) = (t : Int) := by rw [wrap_id (by omega) (by omega), ht]
  have hLne : (w.book.lines[k].grs.length : Int) ≠ 0 := by omega
  obtain ⟨ig, og, hvv, hig, c0, c1⟩ := rg''.gr htl
  subst hvv
  obtain ⟨u0, u1, u2, u3, u4, u5, ur, _⟩ := hJ.cf
  obtain ⟨v0, v1, v2, v3, v4, v5, vr, _⟩ := hJ10.cf
  obtain ⟨t0, t1, t2, t3, t4, t5, tr, _⟩ := hJ11.cf
  have l2 : CF H9 B6 2 (sl ig og w.book.lines[k].grs.length) := CF.of b6 rfl rfl
  have l2' : CF H10 B6 2 (sl ig og w.book.lines[k].grs.length) := CF.of b6' rfl rfl
  have l2'' : CF H11 B6 2 (sl ig og w.book.lines[k].grs.length) := CF.of b6'' rfl rfl
  have gl1 := g1.l
  have gl2 := g2.l
  have lv9 : H9.live C = true := hJ.i.c.live
  have lv10 : H10.live C = true := hJ10.i.c.live
  have hrem := intA_rem (k := .i64) (a := z1 * z2) hLne
  refine sk_drw mix fun K hK => ?_; simp [l2.s, hB5m]
  refine AskD.go (ac1) ?_; simp [l2.s, l2'.s, hmw, hw2, hw3, lv9, gl1]
  refine AskD.go (ac2) ?_; simp [l2.s, l2'.s, l2''.s, t5.s, tr.s, c0.s, htl, wB, hB5m, hmw, hw2, hw3, lv10, hrem, gl1, gl2]
  refine hK _ ?_; clear hK K
  have hJ12 := hJ11.put hCl hEl hB5l 5 (iv w.book.lines[k].grs[t].ver) (a' := ⟨2, ⟨0, 0, 0⟩, k, w.book.lines[k].grs[t].ver⟩) rfl
  have hv := hln.gs t htl
  repeat (first | refine sA ?_ | refine sB ?_ | refine sC ?_ | refine sD ?_ | refine sE rfl ?_ | refine sF rfl ?_ | refine sG rfl ?_ | ((first | refine sk_reg fun K hK => ?_ | refine sk_drw mix fun K hK => ?_); simp; refine hK _ ?_; clear hK K))
  refine sk_inv ⟨by simp [subL, getT], _, hJ12.mono (by omega), by show -9223372036854775808 ≤ w.book.lines[k].grs[t].ver ∧ w.book.lines[k].grs[t].ver ≤ 9223372036854775807; omega⟩
 clear hJ u0 u1 u2 u3 u4 u5 ur p0 p1 p2 p3 p4
 rintro H6 ⟨a, hJ, hra⟩
 have w4 : ∀ n, H.length ≤ H.length + n := fun n => by omega
 refine sk_seq ?_
 refine sk_cut [(0, pt C 0), (3, pt H.length 0), (4, pt (H.length + 1) 0), (5, pt B5 0)] (fun Hx => ∃ a : Actn, AcJ bs E C (m + 46) H Hx w (.slice al w.book.lines.length cl) (.slice ab w.bodies.length cb) B5 a ∧ acR a) ?_ ?_
 ·obtain ⟨_, H7, ac1, z, rfl, z0, z1, _, h1, g1⟩ := pick_ac hJ.i.c (by omega) 40
  have hJ7 := hJ.step hCl hB5m h1 g1
  by_cases hz : z = 0
  case neg =>
   repeat (first | refine sA ?_ | refine sB ?_ | refine sC ?_ | refine sD ?_ | refine sE rfl ?_ | refine sF rfl ?_ | refine sG rfl ?_ | ((first | refine sk_reg fun K hK => ?_ | refine sk_drw mix fun K hK => ?_); simp [hz]; (repeat ((first | refine AskX.go (ac1) ?_ | refine AskD.go (ac1) ?_); simp [hz])); refine hK _ ?_; clear hK K))
   refine sk_inv ⟨by simp [subL, getT], a, hJ7.mono (by omega), hra⟩
  obtain ⟨_, H8, ac2, x2, rfl, x20, x21, _, h2, g2⟩ := pick_ac hJ7.i.c (by omega) 9
  have hx2 := x21 (by omega)
  have hJ8 := hJ7.step hCl hB5m h2 g2
  have hJ9 := hJ8.put hCl hEl hB5l 5 (iv (x2 - 1)) (a' := ⟨a.op, a.ev, a.train, x2 - 1⟩) rfl
  have hw5 : IntKind.i64.wrap (x2 - 1) = x2 - 1 := wrap_id (by omega) (by omega)
  obtain ⟨_, H9, ac3, x3, rfl, x30, x31, x32, h3, g3⟩ := pick_ac hJ9.i.c (by omega) (IntKind.i64.wrap ((w.bodies.length : Int) + 2))
  have hJ10 := hJ9.step hCl hB5m h3 g3
  have hJ11 := hJ10.put hCl hEl hB5l 4 (iv (IntKind.i64.wrap (x3 - 1))) (a' := ⟨a.op, a.ev, IntKind.i64.wrap (x3 - 1), x2 - 1⟩) rfl
  obtain ⟨u0, u1, u2, u3, u4, u5, ur, p0, p1, p2, p3, p4⟩ := hJ8.cf
  obtain ⟨v0, v1, v2, v3, v4, v5, vr, q0, q1, q2, q3, q4⟩ := hJ9.cf
  obtain ⟨t0, t1, t2, t3, t4, t5, tr, _⟩ := hJ10.cf
  have gl1 := g1.l
  have gl2 := g2.l
  have gl3 := g3.l
  simp only [length_put] at gl3
  have lv6 : H6.live C = true := hJ.i.c.live
  have lv7 : H7.live C = true := hJ7.i.c.live
  have lv9 := hJ9.i.c.live
  repeat (first | refine sA ?_ | refine sB ?_ | refine sC ?_ | refine sD ?_ | refine sE rfl ?_ | refine sF rfl ?_ | refine sG rfl ?_ | ((first | refine sk_reg fun K hK => ?_ | refine sk_drw mix fun K hK => ?_); simp [hz, hw5, u5.s, ur.s, q4.s, t4.s, tr.s, wB, hB5m, gl1, gl2, gl3, lv6, lv7, lv9]; (repeat ((first | refine AskX.go (ac1) ?_ | refine AskD.go (ac1) ?_ | refine AskX.go (ac2) ?_ | refine AskD.go (ac2) ?_ | refine AskX.go (ac3) ?_ | refine AskD.go (ac3) ?_); simp [hz, hw5, u5.s, ur.s, q4.s, t4.s, tr.s, wB, hB5m, gl1, gl2, gl3, lv6, lv7, lv9])); refine hK _ ?_; clear hK K))
  refine sk_inv ⟨by simp [subL, getT], _, hJ11.mono (by omega), by show -9223372036854775808 ≤ x2 - 1 ∧ x2 - 1 ≤ 9223372036854775807; omega⟩
 clear hJ hra
 rintro H7 ⟨a, hJ, hra⟩
 obtain ⟨u0, u1, u2, u3, u4, u5, ur, _⟩ := hJ.cf
 have b4 := hJ.i.b4
 have r0 : CF H7 (H.length + 1) 0 (iv 0) := CF.of b4 rfl rfl
 have r1 : CF H7 (H.length + 1) 1 (iv 0) := CF.of b4 rfl rfl
 have r2 : CF H7 (H.length + 1) 2 (iv 0) := CF.of b4 rfl rfl
 have r3 : CF H7 (H.length + 1) 3 (iv 0) := CF.of b4 rfl rfl
 have r4 : CF H7 (H.length + 1) 4 (iv 0) := CF.of b4 rfl rfl
 have r5 : CF H7 (H.length + 1) 5 (iv 0) := CF.of b4 rfl rfl
 have rr := RF.of b4
 repeat (first | refine sA ?_ | refine sB ?_ | refine sC ?_ | refine sD ?_ | refine sE rfl ?_ | refine sF rfl ?_ | refine sG rfl ?_ | ((first | refine sk_reg fun K hK => ?_ | refine sk_drw mix fun K hK => ?_); simp [u0.s, u1.s, u2.s, u3.s, u4.s, u5.s, r0.s, r1.s, r2.s, r3.s, r4.s, r5.s, rr.s, w4]; refine hK _ ?_; clear hK K))
 refine sk_ret ?_; simp [r0.s, r1.s, r2.s, r3.s, r4.s, r5.s]
 have hnp : ∀ i, i ≠ H.length + 1 → (((((((H7.put (H.length + 1) 0 (iv a.op)).put (H.length + 1) 1 (iv a.ev.op)).put (H.length + 1) 2 (iv a.ev.train)).put (H.length + 1) 3 (iv a.ev.n)).put (H.length + 1) 4 (iv a.train)).put (H.length + 1) 5 (iv a.n)) : Heap)[i]? = H7[i]? := fun i hi => by rw [get_put_ne _ _ _ hi, get_put_ne _ _ _ hi, get_put_ne _ _ _ hi, get_put_ne _ _ _ hi, get_put_ne _ _ _ hi, get_put_ne _ _ _ hi]
 exact ⟨a, ⟨rfl, rfl, rfl, rfl, rfl, rfl⟩, hra, (hJ.i.c.off (H.length + 1) (by omega) (fun hh => by have := hEl _ hh; omega) hnp).mono (by omega), hJ.i.g.off (H.length + 1) (by omega) (by simp only [length_put]; omega) hnp⟩
end Go.Proofs.YtpoedfmkiiijnaaDoor
