/- The drawing cursor: event. A walk. -/
import Derived.Test.YtpoedfmkiiijnaaDoorDw1
import Derived.Test.YtpoedfmkiiijnaaDoorGG
import Derived.Test.YtpoedfmkiiijnaaDoorGN
namespace Go.Proofs.YtpoedfmkiiijnaaDoor
open Go Go.RowKit Go.Proofs.YtpoedfmkiiijnaaDoorAm
set_option linter.unusedVariables false
set_option linter.unusedSimpArgs false
set_option maxRecDepth 10000
set_option maxHeartbeats 8000000
/-- The first two blocks of event, and the cursor. -/
structure EvI (bs : List Int) (E : List Nat) (C m : Nat) (H H1 : Heap) (b : Bk) (vl : Value) : Prop where
 c : Cur bs E C m H1
 g : GC C H H1
 b3 : H1[H.length]? = some ⟨39, [.bool b.ok, iv b.sec, vl], true, true⟩
 b4 : H1[H.length + 1]? = some ⟨57, [iv 0, iv 0, iv 0], true, true⟩
theorem EvI.step {bs : List Int} {E : List Nat} {C m m' : Nat} {H H1 H2 : Heap} {b : Bk} {vl : Value} (h : EvI bs E C m H H1 b vl) (hC : C < H.length) (c : Cur bs E C m' H2) (g : GC C H1 H2) : EvI bs E C m' H H2 b vl :=
 ⟨c, h.g.trans g, g.cf h.b3 (by omega), g.cf h.b4 (by omega)⟩
/-- The event's and the line's block beside them. -/
structure EvJ (bs : List Int) (E : List Nat) (C m : Nat) (H H1 : Heap) (b : Bk) (vl : Value) (B5 B6 : Nat) (e : Evt) (l : Ln) (vw vg : Value) (F2 : List Nat) : Prop where
 i : EvI bs E C m H H1 b vl
 b5 : H1[B5]? = some ⟨57, [iv e.op, iv e.train, iv e.n], true, true⟩
 b6 : H1[B6]? = some ⟨50, [iv l.gone, vw, vg, iv l.drop], true, true⟩
 rg : RS 2 RGr H1 F2 vg l.grs
 fc : ∀ e, e ∈ F2 → e ≠ C ∧ e < H.length
theorem EvJ.step {bs : List Int} {E : List Nat} {C m m' : Nat} {H H1 H2 : Heap} {b : Bk} {vl : Value} {B5 B6 : Nat} {e : Evt} {l : Ln} {vw vg : Value} {F2 : List Nat} (h : EvJ bs E C m H H1 b vl B5 B6 e l vw vg F2) (hC : C < H.length) (h5 : H.length ≤ B5) (h6 : H.length ≤ B6) (c : Cur bs E C m' H2) (g : GC C H1 H2) : EvJ bs E C m' H H2 b vl B5 B6 e l vw vg F2 :=
 ⟨h.i.step hC c g, g.cf h.b5 (by omega), g.cf h.b6 (by omega), g.rs (RP.frm _) h.rg fun e he => (h.fc e he).1, h.fc⟩
/-- The event changes. -/
theorem EvJ.put {bs : List Int} {E : List Nat} {C m : Nat} {H H1 : Heap} {b : Bk} {vl : Value} {B5 B6 : Nat} {e : Evt} {l : Ln} {vw vg : Value} {F2 : List Nat} (h : EvJ bs E C m H H1 b vl B5 B6 e l vw vg F2) (hC : C < H.length) (hE : ∀ e, e ∈ E → e < H.length) (h5 : H.length + 1 < B5) (h6 : B5 < B6) (j : Nat) (x : Int) (e' : Evt) (he : ([iv e.op, iv e.train, iv e.n] : List Value).set j (iv x) = [iv e'.op, iv e'.train, iv e'.n]) :
  EvJ bs E C m H (H1.put B5 j (iv x)) b vl B5 B6 e' l vw vg F2 := by
 have hn : ∀ i, i ≠ B5 → (H1.put B5 j (iv x))[i]? = H1[i]? := fun i hi => get_put_ne _ _ _ hi
 refine ⟨⟨h.i.c.off B5 (by omega) (fun hh => by have := hE _ hh; omega) hn, h.i.g.off B5 (by omega) (by rw [length_put]; exact Nat.le_refl _) hn, (hn _ (by omega)).trans h.i.b3, (hn _ (by omega)).trans h.i.b4⟩, ?_, (hn _ (by omega)).trans h.b6, h.rg.fr (RP.frm _) fun i hi _ => hn i (by have := (h.fc i hi).2; omega), h.fc⟩
 rw [get_put, h.b5, ← he]
 rfl
theorem EvJ.put2 {bs : List Int} {E : List Nat} {C m : Nat} {H H1 : Heap} {b : Bk} {vl : Value} {B5 B6 : Nat} {e : Evt} {l : Ln} {vw vg : Value} {F2 : List Nat} (h : EvJ bs E C m H H1 b vl B5 B6 e l vw vg F2) (hC : C < H.length) (hE : ∀ e, e ∈ E → e < H.length) (h5 : H.length + 1 < B5) (h6 : B5 < B6) (x : Int) : EvJ bs E C m H (H1.put B5 2 (iv x)) b vl B5 B6 ⟨e.op, e.train, x⟩ l vw vg F2 :=
 h.put hC hE h5 h6 2 x _ rfl
theorem EvJ.cf {bs : List Int} {E : List Nat} {C m : Nat} {H H1 : Heap} {b : Bk} {vl : Value} {B5 B6 : Nat} {e : Evt} {l : Ln} {vw vg : Value} {F2 : List Nat} (h : EvJ bs E C m H H1 b vl B5 B6 e l vw vg F2) :
  CF H1 B5 0 (iv e.op) ∧ CF H1 B5 1 (iv e.train) ∧ CF H1 B5 2 (iv e.n) ∧ RF H1 B5 ∧ CF H1 B6 0 (iv l.gone) ∧ CF H1 B6 1 vw ∧ CF H1 B6 2 vg ∧ CF H1 B6 3 (iv l.drop) ∧ CF H1 H.length 0 (.bool b.ok) ∧ CF H1 H.length 1 (iv b.sec) ∧ CF H1 H.length 2 vl ∧ CF H1 (H.length + 1) 0 (iv 0) ∧ CF H1 (H.length + 1) 1 (iv 0) ∧ CF H1 (H.length + 1) 2 (iv 0) ∧ RF H1 (H.length + 1) :=
 ⟨CF.of h.b5 rfl rfl, CF.of h.b5 rfl rfl, CF.of h.b5 rfl rfl, RF.of h.b5, CF.of h.b6 rfl rfl, CF.of h.b6 rfl rfl, CF.of h.b6 rfl rfl, CF.of h.b6 rfl rfl, CF.of h.i.b3 rfl rfl, CF.of h.i.b3 rfl rfl, CF.of h.i.b3 rfl rfl, CF.of h.i.b4 rfl rfl, CF.of h.i.b4 rfl rfl, CF.of h.i.b4 rfl rfl, RF.of h.i.b4⟩
theorem hot_dead {H : Heap} {i : Nat} (h : H[i]? = some ⟨0, [], false, false⟩) : Heap.hot H i = false := by simp [Heap.hot, h]
def B64 : SC := .seq (.reg [⟨some 3, .box 39 (.tmp 1), none, []⟩, ⟨some 4, .alloc 57, none, []⟩]) (.seq (.seq (.reg [⟨some 8, .fieldAddr 39 (.tmp 3) 2, none, []⟩, ⟨some 9, .load 37 (.tmp 8), none, []⟩, ⟨some 10, .call ⟨.builtin .len, #[.tmp 9], #[37]⟩, none, []⟩, ⟨some 11, .binOp .eql 3 (.tmp 10) (.const (.int .i64 0)) 3, none, []⟩, ⟨some 12, .move (.tmp 11), none, []⟩, ⟨some 13, .fieldAddr 39 (.tmp 3) 1, some (12, false), []⟩, ⟨some 14, .load 3 (.tmp 13), some (12, false), []⟩, ⟨some 15, .binOp .lss 3 (.tmp 14) (.const (.int .i64 1)) 3, some (12, false), []⟩, ⟨some 16, .pick (.tmp 12) (.const (.bool true)) (.tmp 15), none, []⟩]) (.cond (.tmp 16) (.seq (.reg [⟨some 17, .move (.tmp 0), none, []⟩, ⟨some 18, .call ⟨.value (.func 41), #[.tmp 17, .const (.int .i64 7)], #[75, 3]⟩, none, []⟩, ⟨some 19, .build 57 #[(0, (.tmp 18))], none, []⟩, ⟨none, .store 57 (.tmp 4) (.tmp 19), none, []⟩]) .ret) .skip)) (.seq (.drw 1 [⟨some 20, .move (.tmp 0), none, []⟩, ⟨some 21, .call ⟨.value (.func 41), #[.tmp 20, .const (.int .i64 5)], #[75, 3]⟩, none, [0]⟩, ⟨some 22, .binOp .add 3 (.const (.int .i64 1)) (.tmp 21) 3, none, [1, 0]⟩, ⟨some 23, .move (.tmp 0), none, []⟩, ⟨some 24, .fieldAddr 39 (.tmp 3) 2, none, []⟩, ⟨some 25, .load 37 (.tmp 24), none, [4]⟩, ⟨some 26, .call ⟨.builtin .len, #[.tmp 25], #[37]⟩, none, [5, 4]⟩, ⟨some 27, .call ⟨.value (.func 41), #[.tmp 23, .tmp 26], #[75, 3]⟩, none, [3, 6, 5, 4, 1, 0]⟩, ⟨some 28, .build 57 #[(0, (.tmp 22)), (1, (.tmp 27))], none, [2, 1, 0, 7, 3, 6, 5, 4]⟩, ⟨some 5, .alloc 57, none, []⟩, ⟨none, .store 57 (.tmp 5) (.tmp 28), none, [9, 8, 2, 1, 0, 7, 3, 6, 5, 4]⟩]) (.seq (.reg [⟨some 29, .fieldAddr 39 (.tmp 3) 2, none, []⟩, ⟨some 30, .load 37 (.tmp 29), none, []⟩, ⟨some 31, .fieldAddr 57 (.tmp 5) 1, none, []⟩, ⟨some 32, .load 3 (.tmp 31), none, []⟩, ⟨some 33, .indexAddr 37 (.tmp 30) (.tmp 32), none, []⟩, ⟨some 34, .load 50 (.tmp 33), none, []⟩, ⟨some 6, .alloc 50, none, []⟩, ⟨none, .store 50 (.tmp 6) (.tmp 34), none, []⟩]) (.seq (.seq (.reg [⟨some 35, .move (.tmp 0), none, []⟩, ⟨some 36, .call ⟨.value (.func 41), #[.tmp 35, .const (.int .i64 3)], #[75, 3]⟩, none, []⟩, ⟨some 37, .binOp .eql 3 (.tmp 36) (.const (.int .i64 0)) 3, none, []⟩]) (.cond (.tmp 37) (.reg [⟨some 38, .fieldAddr 57 (.tmp 5) 0, none, []⟩, ⟨none, .store 3 (.tmp 38) (.const (.int .i64 1)), none, []⟩]) .skip)) (.seq (.seq (.reg [⟨some 39, .fieldAddr 57 (.tmp 5) 0, none, []⟩, ⟨some 40, .load 3 (.tmp 39), none, []⟩]) (.block 0 (.seq (.reg [⟨some 52, .binOp .eql 3 (.tmp 40) (.const (.int .i64 1)) 3, none, []⟩, ⟨some 51, .assign (.tmp 52), none, []⟩]) (.cond (.tmp 51) (.seq (.reg [⟨some 53, .move (.tmp 0), none, []⟩, ⟨some 54, .fieldAddr 39 (.tmp 3) 1, none, []⟩, ⟨some 55, .load 3 (.tmp 54), none, []⟩, ⟨some 56, .call ⟨.value (.func 41), #[.tmp 53, .tmp 55], #[75, 3]⟩, none, []⟩, ⟨some 57, .fieldAddr 57 (.tmp 5) 2, none, []⟩, ⟨none, .store 3 (.tmp 57) (.tmp 56), none, []⟩]) (.seq (.reg [⟨some 7, .assign (.const (.int .i64 0)), none, []⟩]) (.block 1 (.loop (.seq (.seq (.reg [⟨some 58, .move (.tmp 7), none, []⟩, ⟨some 59, .binOp .lss 3 (.tmp 58) (.const (.int .i64 3)) 3, none, []⟩, ⟨some 60, .move (.tmp 59), none, []⟩, ⟨some 61, .load 39 (.tmp 3), some (60, true), []⟩, ⟨some 62, .fieldAddr 57 (.tmp 5) 2, some (60, true), []⟩, ⟨some 63, .load 3 (.tmp 62), some (60, true), []⟩, ⟨some 64, .call ⟨.value (.func 73), #[.tmp 61, .tmp 63], #[39, 3]⟩, some (60, true), []⟩, ⟨some 65, .binOp .geq 3 (.tmp 64) (.const (.int .i64 0)) 3, some (60, true), []⟩, ⟨some 66, .pick (.tmp 60) (.tmp 65) (.const (.bool false)), none, []⟩]) (.cond (.tmp 66) .skip (.exit 1))) (.seq (.block 2 (.reg [⟨some 69, .move (.tmp 0), none, []⟩, ⟨some 70, .fieldAddr 39 (.tmp 3) 1, none, []⟩, ⟨some 71, .load 3 (.tmp 70), none, []⟩, ⟨some 72, .call ⟨.value (.func 41), #[.tmp 69, .tmp 71], #[75, 3]⟩, none, []⟩, ⟨some 73, .fieldAddr 57 (.tmp 5) 2, none, []⟩, ⟨none, .store 3 (.tmp 73) (.tmp 72), none, []⟩])) (.reg [⟨some 67, .move (.tmp 7), none, []⟩, ⟨some 68, .binOp .add 3 (.tmp 67) (.const (.int .i64 1)) 3, none, []⟩, ⟨some 7, .assign (.tmp 68), none, []⟩]))))))) (.seq (.reg [⟨some 75, .binOp .eql 3 (.tmp 40) (.const (.int .i64 2)) 3, none, []⟩, ⟨some 74, .assign (.tmp 75), none, []⟩]) (.cond (.tmp 74) (.drw 0 [⟨some 76, .fieldAddr 50 (.tmp 6) 0, none, []⟩, ⟨some 77, .load 3 (.tmp 76), none, [0]⟩, ⟨some 78, .move (.tmp 0), none, []⟩, ⟨some 79, .fieldAddr 50 (.tmp 6) 1, none, []⟩, ⟨some 80, .load 22 (.tmp 79), none, [3]⟩, ⟨some 81, .call ⟨.builtin .len, #[.tmp 80], #[22]⟩, none, [4, 3]⟩, ⟨some 82, .binOp .add 3 (.tmp 81) (.const (.int .i64 1)) 3, none, [5, 4, 3]⟩, ⟨some 83, .call ⟨.value (.func 41), #[.tmp 78, .tmp 82], #[75, 3]⟩, none, [2, 6, 5, 4, 3]⟩, ⟨some 84, .binOp .add 3 (.tmp 77) (.tmp 83) 3, none, [1, 0, 7, 2, 6, 5, 4, 3]⟩, ⟨some 85, .fieldAddr 57 (.tmp 5) 2, none, [0, 1, 2, 3, 4, 5, 6, 7, 8]⟩, ⟨none, .store 3 (.tmp 85) (.tmp 84), none, [9, 0, 1, 2, 3, 4, 5, 6, 7, 8]⟩]) (.seq (.reg [⟨some 87, .binOp .eql 3 (.tmp 40) (.const (.int .i64 3)) 3, none, []⟩, ⟨some 86, .assign (.tmp 87), none, []⟩]) (.cond (.tmp 86) (.drw 0 [⟨some 88, .fieldAddr 50 (.tmp 6) 2, none, []⟩, ⟨some 89, .load 48 (.tmp 88), none, [0]⟩, ⟨some 90, .move (.tmp 0), none, []⟩, ⟨some 91, .fieldAddr 50 (.tmp 6) 2, none, []⟩, ⟨some 92, .load 48 (.tmp 91), none, [3]⟩, ⟨some 93, .call ⟨.builtin .len, #[.tmp 92], #[48]⟩, none, [4, 3]⟩, ⟨some 94, .call ⟨.value (.func 41), #[.tmp 90, .tmp 93], #[75, 3]⟩, none, [2, 5, 4, 3]⟩, ⟨some 95, .indexAddr 48 (.tmp 89) (.tmp 94), none, [1, 0, 6, 2, 5, 4, 3]⟩, ⟨some 96, .fieldAddr 88 (.tmp 95) 0, none, [7, 1, 0, 6, 2, 5, 4, 3]⟩, ⟨some 97, .load 3 (.tmp 96), none, [8, 7, 1, 0, 6, 2, 5, 4, 3]⟩, ⟨some 98, .fieldAddr 57 (.tmp 5) 2, none, [0, 1, 2, 3, 4, 5, 6, 7, 8, 9]⟩, ⟨none, .store 3 (.tmp 98) (.tmp 97), none, [10, 0, 1, 2, 3, 4, 5, 6, 7, 8, 9]⟩]) (.seq (.reg [⟨some 100, .binOp .eql 3 (.tmp 40) (.const (.int .i64 4)) 3, none, []⟩, ⟨some 99, .assign (.tmp 100), none, []⟩]) (.cond (.tmp 99) (.drw 0 [⟨some 101, .fieldAddr 50 (.tmp 6) 0, none, []⟩, ⟨some 102, .load 3 (.tmp 101), none, [0]⟩, ⟨some 103, .move (.tmp 0), none, []⟩, ⟨some 104, .call ⟨.value (.func 41), #[.tmp 103, .const (.int .i64 3)], #[75, 3]⟩, none, [2]⟩, ⟨some 105, .binOp .add 3 (.tmp 102) (.tmp 104) 3, none, [1, 0, 3, 2]⟩, ⟨some 106, .fieldAddr 57 (.tmp 5) 2, none, [0, 1, 2, 3, 4]⟩, ⟨none, .store 3 (.tmp 106) (.tmp 105), none, [5, 0, 1, 2, 3, 4]⟩]) (.drw 0 [⟨some 41, .fieldAddr 50 (.tmp 6) 0, none, []⟩, ⟨some 42, .load 3 (.tmp 41), none, [0]⟩, ⟨some 43, .move (.tmp 0), none, []⟩, ⟨some 44, .fieldAddr 50 (.tmp 6) 1, none, []⟩, ⟨some 45, .load 22 (.tmp 44), none, [3]⟩, ⟨some 46, .call ⟨.builtin .len, #[.tmp 45], #[22]⟩, none, [4, 3]⟩, ⟨some 47, .binOp .add 3 (.tmp 46) (.const (.int .i64 1)) 3, none, [5, 4, 3]⟩, ⟨some 48, .call ⟨.value (.func 41), #[.tmp 43, .tmp 47], #[75, 3]⟩, none, [2, 6, 5, 4, 3]⟩, ⟨some 49, .binOp .add 3 (.tmp 42) (.tmp 48) 3, none, [1, 0, 7, 2, 6, 5, 4, 3]⟩, ⟨some 50, .fieldAddr 57 (.tmp 5) 2, none, [0, 1, 2, 3, 4, 5, 6, 7, 8]⟩, ⟨none, .store 3 (.tmp 50) (.tmp 49), none, [9, 0, 1, 2, 3, 4, 5, 6, 7, 8]⟩]))))))))))) (.seq (.seq (.reg [⟨some 107, .move (.tmp 0), none, []⟩, ⟨some 108, .call ⟨.value (.func 41), #[.tmp 107, .const (.int .i64 20)], #[75, 3]⟩, none, []⟩, ⟨some 109, .binOp .eql 3 (.tmp 108) (.const (.int .i64 0)) 3, none, []⟩]) (.cond (.tmp 109) (.drw 0 [⟨some 110, .fieldAddr 57 (.tmp 5) 2, none, []⟩, ⟨some 111, .load 3 (.tmp 110), none, [0]⟩, ⟨some 112, .move (.tmp 0), none, []⟩, ⟨some 113, .call ⟨.value (.func 41), #[.tmp 112, .const (.int .i64 5)], #[75, 3]⟩, none, [2]⟩, ⟨some 114, .binOp .sub 3 (.tmp 113) (.const (.int .i64 2)) 3, none, [3, 2]⟩, ⟨some 115, .binOp .add 3 (.tmp 111) (.tmp 114) 3, none, [1, 0, 4, 3, 2]⟩, ⟨some 116, .fieldAddr 57 (.tmp 5) 2, none, [0, 1, 2, 3, 4, 5]⟩, ⟨none, .store 3 (.tmp 116) (.tmp 115), none, [6, 0, 1, 2, 3, 4, 5]⟩]) .skip)) (.seq (.reg [⟨some 117, .load 57 (.tmp 5), none, []⟩, ⟨none, .store 57 (.tmp 4) (.tmp 117), none, []⟩]) .ret)))))))
theorem s64 : Tryd.f64.body.bind (stripC 118) = some B64 := by kernel_rfl
theorem event_ac {H : Heap} {bs : List Int} {E E2 : List Nat} {C m : Nat} (h : Cur bs E C m H) (hm : m ≤ 10000000) {b : Bk} {cs : List Value} (hb : RBk H E2 b cs) (hnc : ∀ e, e ∈ E2 → e ≠ C) (hok : bookOkB b = 0) :
  ∃ v H', AC Tryd.prog 64 [pt C 0, .agg cs.toArray] H v H' [C] ∧ ∃ e : Evt, v = vEv e ∧ Cur bs E C (m + 24) H' ∧ GC C H H' := by
 obtain ⟨vl, rfl, hl⟩ := hb
 have hCl := h.lt
 have hEl := h.bd
 have xl := hl.one
 have yl := hl.cv
 obtain ⟨hs1, hs2, hll, _⟩ := bookOk_sec hok
 obtain ⟨al, cl, rfl⟩ := hl.form
 refine AC.of_bodyS (N := 118) Tryd.func64 s64 (by kernel_rfl) rfl rfl (by simp) ?_; unfold B64
 repeat (first | refine sA ?_ | refine sB ?_ | refine sC ?_ | refine sD ?_ | refine sE rfl ?_ | refine sF rfl ?_ | refine sG rfl ?_ | ((first | refine sk_reg fun K hK => ?_ | refine sk_drw mix fun K hK => ?_); simp; refine hK _ ?_; clear hK K))
 refine sk_at [(0, pt C 0), (3, pt H.length 0), (4, pt (H.length + 1) 0)] (fun H0 => EvI bs E C m H H0 b (.slice al b.lines.length cl)) (by simp [subL, getT]) ⟨h.gro (Gro.one _ _), GC.of (Gro.one _ _), by simp, by simp⟩ ?_
 rintro H0 hI
 have h0 := hI.c
 have hz0 : ∀ n, H.length ≤ H.length + n := fun n => by omega
 have p0 : CF H0 H.length 0 (.bool b.ok) := CF.of hI.b3 rfl rfl
 have p1 : CF H0 H.length 1 (iv b.sec) := CF.of hI.b3 rfl rfl
 have p2 : CF H0 H.length 2 (.slice al b.lines.length cl) := CF.of hI.b3 rfl rfl
 have hs0 : ¬ b.sec < 1 := by omega
 by_cases hlen : b.lines.length = 0
 ·have hlen' : b.lines = [] := List.length_eq_zero_iff.1 hlen
  obtain ⟨_, H1, ac1, x, rfl, x0, x1, _, h1, g1⟩ := pick_ac h0 (by omega) 7
  have hI1 := hI.step hCl h1 g1
  have q0 : CF H1 (H.length + 1) 0 (iv 0) := CF.of hI1.b4 rfl rfl
  have q1 : CF H1 (H.length + 1) 1 (iv 0) := CF.of hI1.b4 rfl rfl
  have q2 : CF H1 (H.length + 1) 2 (iv 0) := CF.of hI1.b4 rfl rfl
  have qr := RF.of hI1.b4
  repeat (first | refine sA ?_ | refine sB ?_ | refine sC ?_ | refine sD ?_ | refine sE rfl ?_ | refine sF rfl ?_ | refine sG rfl ?_ | ((first | refine sk_reg fun K hK => ?_ | refine sk_drw mix fun K hK => ?_); simp [hlen, hlen', hs0, p0.s, p1.s, p2.s, q0.s, q1.s, q2.s, qr.s, hz0]; (repeat ((first | refine AskX.go (ac1) ?_ | refine AskD.go (ac1) ?_); simp [hlen, hlen', hs0, p0.s, p1.s, p2.s, q0.s, q1.s, q2.s, qr.s, hz0])); refine hK _ ?_; clear hK K))
  refine sk_ret ?_; simp [q0.s, q1.s, q2.s]
  have hnp : ∀ i, i ≠ H.length + 1 → ((((H1.put (H.length + 1) 0 (iv x)).put (H.length + 1) 1 (iv 0)).put (H.length + 1) 2 (iv 0)) : Heap)[i]? = H1[i]? := fun i hi => by rw [get_put_ne _ _ _ hi, get_put_ne _ _ _ hi, get_put_ne _ _ _ hi]
  exact ⟨⟨⟨x, 0, 0⟩, rfl, rfl, rfl⟩, (h1.mono (by omega)).off (H.length + 1) (by omega) (fun hh => by have := hEl _ hh; omega) hnp, hI1.g.off (H.length + 1) (by omega) (by simp only [length_put]; omega) hnp⟩
 have hlen' : ¬ b.lines = [] := fun hh => hlen (by rw [hh]; rfl)
 have hlz : 0 < b.lines.length := by omega
 obtain ⟨Hd, hHd⟩ : ∃ Hd, Hd = H0 ++ [(⟨0, [], false, false⟩ : Blk)] := ⟨_, rfl⟩
 have hId : EvI bs E C m H Hd b (.slice al b.lines.length cl) := hI.step hCl (by rw [hHd]; exact h0.gro (Gro.one _ _)) (by rw [hHd]; exact GC.of (Gro.one _ _))
 have hdd : Hd[H0.length]? = some ⟨0, [], false, false⟩ := by rw [hHd]; simp
 obtain ⟨_, H1, ac1, x, rfl, x0, x1, _, h1, g1⟩ := pick_ac hId.c (by omega) 5
 obtain ⟨_, H2, ac2, y, rfl, y0, y1, _, h2, g2⟩ := pick_ac h1 (by omega) (b.lines.length : Int)
 have hx5 := x1 (by omega)
 have hy5 := y1 (by omega)
 obtain ⟨k, rfl⟩ : ∃ k : Nat, y = k := ⟨y.toNat, by omega⟩
 have hw1 : IntKind.i64.wrap (1 + x) = 1 + x := wrap_id (by omega) (by omega)
 have hI1 := hId.step hCl h1 g1
 have hI2 := hI1.step hCl h2 g2
 have hBC : H0.length ≠ C := by have := hI.g.l; omega
 have d1 := g1.cf hdd hBC
 have d2 := g2.cf d1 hBC
 have k1 : Heap.hot H1 H0.length = false := hot_dead d1
 have k2 : Heap.hot H2 H0.length = false := hot_dead d2
 have p2' : CF H1 H.length 2 (.slice al b.lines.length cl) := CF.of hI1.b3 rfl rfl
 have hl0 := hI.g.l
 have hl2 := hI2.g.l
 have hd1 := g1.l
 have hd2 := g2.l
 have lv0 : Hd.live C = true := hId.c.live
 have lv1 : H1.live C = true := h1.live
 have lv2 : H2.live C = true := h2.live
 rw [hHd] at ac1 hd1 lv0
 simp only [List.length_append, List.length_cons, List.length_nil, Nat.zero_add] at hd1
 obtain ⟨B5, hB5⟩ : ∃ B, B = H0.length := ⟨_, rfl⟩
 rw [← hB5] at d1 d2 k1 k2 hBC hd1
 obtain ⟨H3, hH3⟩ : ∃ H3 : Heap, H2.set B5 ⟨57, [iv 0, iv 0, iv 0], true, true⟩ = H3 := ⟨_, rfl⟩
 have n3 : ∀ i, i ≠ B5 → H3[i]? = H2[i]? := fun i hi => by rw [← hH3, List.getElem?_set_ne (Ne.symm hi)]
 have nb : H3[B5]? = some ⟨57, [iv 0, iv 0, iv 0], true, true⟩ := by rw [← hH3, List.getElem?_set_self (lt_of_get d2)]
 have nl3 : H3.length = H2.length := by rw [← hH3, List.length_set]
 have n0 : CF H3 B5 0 (iv 0) := CF.of nb rfl rfl
 have n1 : CF H3 B5 1 (iv 0) := CF.of nb rfl rfl
 have n2 : CF H3 B5 2 (iv 0) := CF.of nb rfl rfl
 have nr : RF H3 B5 := RF.of nb
 have hB5l : H.length + 1 < B5 := by have := lt_of_get hI.b4; omega
 have hB5m : H.length ≤ B5 := by omega
 have hn3 : ∀ i, i ≠ B5 → ((((H3.put B5 0 (iv (1 + x))).put B5 1 (iv k)).put B5 2 (iv 0)) : Heap)[i]? = H2[i]? := fun i hi => by rw [get_put_ne _ _ _ hi, get_put_ne _ _ _ hi, get_put_ne _ _ _ hi, n3 i hi]
 have hE5 : B5 ∉ E := fun hh => by have := hEl _ hh; omega
 repeat (first | refine sA ?_ | refine sB ?_ | refine sC ?_ | refine sD ?_ | refine sE rfl ?_ | refine sF rfl ?_ | refine sG rfl ?_ | ((first | refine sk_reg fun K hK => ?_ | refine sk_drw mix fun K hK => ?_); simp [hlen, hlen', hs0, hlz, p0.s, p1.s, p2.s]; refine hK _ ?_; clear hK K))
 refine sk_drw mix fun K hK => ?_; simp [p0.s, p1.s, p2.s, ← hB5]
 refine AskD.go (ac1) ?_; simp [hw1, p0.s, p1.s, p2.s, p2'.s, k1, hd1, lv0, ← hB5]
 refine AskD.go (ac2) ?_; simp [hw1, p0.s, p1.s, p2.s, p2'.s, k1, k2, hd1, hd2, lv1, ← hB5, hH3, n0.s, n1.s, n2.s, nr.s, hB5m]
 refine hK _ ?_; clear hK K
 refine sk_at [(0, pt C 0), (3, pt H.length 0), (4, pt (H.length + 1) 0), (5, pt B5 0)] (fun Hx => EvI bs E C (m + 4) H Hx b (.slice al b.lines.length cl) ∧ Hx[B5]? = some ⟨57, [iv (1 + x), iv k, iv 0], true, true⟩) (by simp [subL, getT]) ⟨⟨h2.off B5 hBC hE5 hn3, hI2.g.off B5 hB5m (by simp only [length_put]; omega) hn3, (hn3 _ (by omega)).trans hI2.b3, (hn3 _ (by omega)).trans hI2.b4⟩, by rw [get_put, get_put, get_put, nb]; rfl⟩ ?_
 clear ac1 ac2 n0 n1 n2 nr nb hn3 n3 nl3 d1 d2 k1 k2 p0 p1 p2 p2' hdd hI hI1 hI2 hId h0 h1 h2 g1 g2 hd1 hd2 lv0 lv1 lv2 hH3 hl0 hl2
 rintro H4 ⟨hI4, b5⟩
 have p0 : CF H4 H.length 0 (.bool b.ok) := CF.of hI4.b3 rfl rfl
 have p1 : CF H4 H.length 1 (iv b.sec) := CF.of hI4.b3 rfl rfl
 have p2 : CF H4 H.length 2 (.slice al b.lines.length cl) := CF.of hI4.b3 rfl rfl
 have q0 : CF H4 B5 0 (iv (1 + x)) := CF.of b5 rfl rfl
 have q1 : CF H4 B5 1 (iv k) := CF.of b5 rfl rfl
 have q2 : CF H4 B5 2 (iv 0) := CF.of b5 rfl rfl
 have hkl : k < b.lines.length := by omega
 have hl4 : RS 4 RLn H4 E2 (.slice al b.lines.length cl) b.lines := hI4.g.rs RLn.frm hl hnc
 obtain ⟨il, ol, vw, vg, F1, F2, hpl, hil, d0, d1, d2, d3, rw1, rg1, yo1, yo2, hFE⟩ := hl4.line hkl
 have hln := bookOk_ln hok hkl
 simp only [Value.slice.injEq, true_and] at hpl
 obtain ⟨rfl, rfl⟩ := hpl
 obtain ⟨aw, cw, rfl⟩ := rw1.form
 obtain ⟨ag, cg, rfl⟩ := rg1.form
 have hg2 : ∀ e, e ∈ F2 → e ≠ C := fun e he => hnc e (hFE e (List.mem_append_right _ he))
 have hl4 := hI4.g.l
 repeat (first | refine sA ?_ | refine sB ?_ | refine sC ?_ | refine sD ?_ | refine sE rfl ?_ | refine sF rfl ?_ | refine sG rfl ?_ | ((first | refine sk_reg fun K hK => ?_ | refine sk_drw mix fun K hK => ?_); simp [p0.s, p1.s, p2.s, q0.s, q1.s, q2.s, d0.s, d1.s, d2.s, d3.s, hkl, yo1, yo2, hl4]; refine hK _ ?_; clear hK K))
 obtain ⟨B6, hB6⟩ : ∃ B, B = H4.length := ⟨_, rfl⟩
 obtain ⟨vw, hvw⟩ : ∃ w, w = Value.slice aw b.lines[k].way.length cw := ⟨_, rfl⟩
 obtain ⟨vg, hvg⟩ : ∃ w, w = Value.slice ag b.lines[k].grs.length cg := ⟨_, rfl⟩
 have hB56 : B5 < B6 := by have := lt_of_get b5; omega
 refine sk_at [(0, pt C 0), (3, pt H.length 0), (4, pt (H.length + 1) 0), (5, pt B5 0), (6, pt B6 0)] (fun Hx => EvJ bs E C (m + 4) H Hx b (.slice (some ⟨il, ol, none⟩) b.lines.length 0) B5 B6 ⟨1 + x, k, 0⟩ b.lines[k] vw vg F2) (by simp [subL, getT, hB6]) ⟨hI4.step hCl (hI4.c.gro (Gro.one _ _)) (GC.of (Gro.one _ _)), (List.getElem?_append_left (lt_of_get b5)).trans b5, by rw [hB6, hvw, hvg]; simp, by rw [hvg]; exact rg1.ext (RP.frm _), fun e he => ⟨hg2 e he, hl.bd RLn.frm e (hFE e (List.mem_append_right _ he))⟩⟩ ?_
 clear hI4 b5 p0 p1 p2 q0 q1 q2 d0 d1 d2 d3 rw1 hB6 hl4
 have hB6l : H.length ≤ B6 := by omega
 have wB : ∀ n, H.length ≤ B5 + n := fun n => by omega
 have w4 : ∀ n, H.length ≤ H.length + 1 + n := fun n => by omega
 generalize hbv : Value.slice (some ⟨il, ol, none⟩) b.lines.length 0 = vb at *
 rintro H5 hJ
 obtain ⟨_, H6, ac1, z, rfl, z0, z1, _, h1, g1⟩ := pick_ac hJ.i.c (by omega) 3
 have hJ6 := hJ.step hCl hB5m hB6l h1 g1
 refine sk_reg fun K hK => ?_; simp
 refine AskX.go (ac1) ?_; simp
 refine hK _ ?_; clear hK K
 refine sk_cut [(0, pt C 0), (3, pt H.length 0), (4, pt (H.length + 1) 0), (5, pt B5 0), (6, pt B6 0)] (fun Hx => ∃ op, EvJ bs E C (m + 6) H Hx b vb B5 B6 ⟨op, k, 0⟩ b.lines[k] vw vg F2) ?_ ?_
 ·obtain ⟨u0, u1, u2, ur, l0, l1, l2, l3, p0, p1, p2, r0, r1, r2, rr⟩ := hJ6.cf
  by_cases hz : z = 0
  ·rw [decide_eq_true hz]
   repeat (first | refine sA ?_ | refine sB ?_ | refine sC ?_ | refine sD ?_ | refine sE rfl ?_ | refine sF rfl ?_ | refine sG rfl ?_ | ((first | refine sk_reg fun K hK => ?_ | refine sk_drw mix fun K hK => ?_); simp [u0.s, u1.s, u2.s, ur.s, wB, hB5m]; refine hK _ ?_; clear hK K))
   refine sk_inv ⟨by simp [subL, getT], 1, hJ6.put hCl hEl hB5l hB56 0 1 ⟨1, k, 0⟩ rfl⟩
  ·rw [decide_eq_false hz]
   repeat (first | refine sA ?_ | refine sB ?_ | refine sC ?_ | refine sD ?_ | refine sE rfl ?_ | refine sF rfl ?_ | refine sG rfl ?_ | ((first | refine sk_reg fun K hK => ?_ | refine sk_drw mix fun K hK => ?_); simp; refine hK _ ?_; clear hK K))
   refine sk_inv ⟨by simp [subL, getT], _, hJ6⟩
 clear hJ hJ6 ac1 h1 g1 z0 z1
 rintro H7 ⟨op, hJ⟩
 refine sk_seq ?_
 refine sk_cut [(0, pt C 0), (3, pt H.length 0), (4, pt (H.length + 1) 0), (5, pt B5 0), (6, pt B6 0)] (fun Hx => ∃ n, EvJ bs E C (m + 18) H Hx b vb B5 B6 ⟨op, k, n⟩ b.lines[k] vw vg F2) ?_ ?_
 ·obtain ⟨u0, u1, u2, ur, l0, l1, l2, l3, p0, p1, p2, r0, r1, r2, rr⟩ := hJ.cf
  have mono : ∀ {m' n : Nat} {Hx : Heap} {e : Evt}, EvJ bs E C m' H Hx b vb B5 B6 e b.lines[k] vw vg F2 → m' ≤ n → EvJ bs E C n H Hx b vb B5 B6 e b.lines[k] vw vg F2 := fun h hm => ⟨⟨h.i.c.mono hm, h.i.g, h.i.b3, h.i.b4⟩, h.b5, h.b6, h.rg, h.fc⟩
  have lv : H7.live C = true := hJ.i.c.live
  have hw7 : IntKind.i64.wrap (1 : Int) = 1 := by decide
  by_cases o1 : op = 1
  ·subst o1
   obtain ⟨_, H9, ac1, z, rfl, z0, z1, _, h1, g1⟩ := pick_ac hJ.i.c (by omega) b.sec
   have hJ9 := hJ.step hCl hB5m hB6l h1 g1
   obtain ⟨u0', u1', u2', ur', _, _, _, _, _⟩ := hJ9.cf
   repeat (first | refine sA ?_ | refine sB ?_ | refine sC ?_ | refine sD ?_ | refine sE rfl ?_ | refine sF rfl ?_ | refine sG rfl ?_ | ((first | refine sk_reg fun K hK => ?_ | refine sk_drw mix fun K hK => ?_); simp [u0.s, p1.s, u0'.s, u1'.s, u2'.s, ur'.s, wB, hB5m]; (repeat ((first | refine AskX.go (ac1) ?_ | refine AskD.go (ac1) ?_); simp [u0.s, p1.s, u0'.s, u1'.s, u2'.s, ur'.s, wB, hB5m])); refine hK _ ?_; clear hK K))
   refine sk_loop (fun t ts H' => ∃ (j : Nat) (n : Int), j ≤ 3 ∧ t = 3 - j ∧ EvJ bs E C (m + 8 + 2 * j) H H' b vb B5 B6 ⟨1, k, n⟩ b.lines[k] vw vg F2 ∧ ts = [(0, pt C 0), (3, pt H.length 0), (4, pt (H.length + 1) 0), (5, pt B5 0), (6, pt B6 0), (7, iv j)]) 3 _ ?_ ⟨0, _, by omega, rfl, hJ9.put2 hCl hEl hB5l hB56 _, rfl⟩ ?_
   ·simp [subL, getT]
   clear ac1 z0 z1 h1 g1 hJ9 u0' u1' u2' ur' u0 u1 u2 ur l0 l1 l2 l3 p0 p1 p2 r0 r1 r2 rr
   rintro t ts H9 ⟨j, n, hj, rfl, hJ9, rfl⟩
   obtain ⟨u0, u1, u2, ur, l0, l1, l2, l3, p0, p1, p2, r0, r1, r2, rr⟩ := hJ9.cf
   have hvo : RBk H9 E2 b [.bool b.ok, iv b.sec, vb] := ⟨vb, rfl, hJ9.i.g.rs RLn.frm hl hnc⟩
   have xvb : vb.oneCell' = true := by rw [← hbv]; rfl
   have aco := specOwner_ac hvo n
   have hwj : IntKind.i64.wrap ((j : Int) + 1) = (j : Int) + 1 := wrap_id (by omega) (by omega)
   by_cases hj3 : j < 3
   ·have hjz : (j : Int) < 3 := by omega
    by_cases ho : 0 ≤ ownerB b n
    ·obtain ⟨_, H10, ac1, z, rfl, z0, z1, _, h1, g1⟩ := pick_ac hJ9.i.c (by omega) b.sec
     have hJ10 := hJ9.step hCl hB5m hB6l h1 g1
     obtain ⟨u0', u1', u2', ur', _, _, _, _, _⟩ := hJ10.cf
     repeat (first | refine sA ?_ | refine sB ?_ | refine sC ?_ | refine sD ?_ | refine sE rfl ?_ | refine sF rfl ?_ | refine sG rfl ?_ | ((first | refine sk_reg fun K hK => ?_ | refine sk_drw mix fun K hK => ?_); simp [hjz, ho, u0.s, u1.s, u2.s, p0.s, p1.s, p2.s, u0'.s, u1'.s, u2'.s, ur'.s, wB, hB5m, hwj, xvb]; (repeat ((first | refine AskX.go (aco) ?_ | refine AskD.go (aco) ?_ | refine AskX.go (ac1) ?_ | refine AskD.go (ac1) ?_); simp [hjz, ho, u0.s, u1.s, u2.s, p0.s, p1.s, p2.s, u0'.s, u1'.s, u2'.s, ur'.s, wB, hB5m, hwj, xvb])); refine hK _ ?_; clear hK K))
     refine sk_inv ⟨3 - (j + 1), _, by omega, ?_, j + 1, _, by omega, rfl, mono (hJ10.put2 hCl hEl hB5l hB56 _) (by omega), rfl⟩
     simp [subL, getT]
    ·repeat (first | refine sA ?_ | refine sB ?_ | refine sC ?_ | refine sD ?_ | refine sE rfl ?_ | refine sF rfl ?_ | refine sG rfl ?_ | ((first | refine sk_reg fun K hK => ?_ | refine sk_drw mix fun K hK => ?_); simp [hjz, ho, u0.s, u1.s, u2.s, p0.s, p1.s, p2.s, xvb]; (repeat ((first | refine AskX.go (aco) ?_ | refine AskD.go (aco) ?_); simp [hjz, ho, u0.s, u1.s, u2.s, p0.s, p1.s, p2.s, xvb])); refine hK _ ?_; clear hK K))
     refine sk_inv ⟨by simp [subL, getT], _, mono hJ9 (by omega)⟩
   ·obtain rfl : j = 3 := by omega
    repeat (first | refine sA ?_ | refine sB ?_ | refine sC ?_ | refine sD ?_ | refine sE rfl ?_ | refine sF rfl ?_ | refine sG rfl ?_ | ((first | refine sk_reg fun K hK => ?_ | refine sk_drw mix fun K hK => ?_); simp; refine hK _ ?_; clear hK K))
    refine sk_inv ⟨by simp [subL, getT], _, mono hJ9 (by omega)⟩
  by_cases o2 : op = 2
  ·subst o2
   obtain ⟨_, H9, ac1, z, rfl, z0, z1, _, h1, g1⟩ := pick_ac hJ.i.c (by omega) (IntKind.i64.wrap ((b.lines[k].way.length : Int) + 1))
   have hJ9 := hJ.step hCl hB5m hB6l h1 g1
   obtain ⟨u0', u1', u2', ur', l0', l1', l2', l3', _⟩ := hJ9.cf
   rw [hvw] at l1
   have gl := g1.l
   repeat (first | refine sA ?_ | refine sB ?_ | refine sC ?_ | refine sD ?_ | refine sE rfl ?_ | refine sF rfl ?_ | refine sG rfl ?_ | ((first | refine sk_reg fun K hK => ?_ | refine sk_drw mix fun K hK => ?_); simp [u0.s, l0.s, l1.s, u0'.s, u1'.s, u2'.s, ur'.s, l0'.s, wB, hB5m, lv, gl]; (repeat ((first | refine AskX.go (ac1) ?_ | refine AskD.go (ac1) ?_); simp [u0.s, l0.s, l1.s, u0'.s, u1'.s, u2'.s, ur'.s, l0'.s, wB, hB5m, lv, gl])); refine hK _ ?_; clear hK K))
   refine sk_inv ⟨by simp [subL, getT], _, mono (hJ9.put2 hCl hEl hB5l hB56 _) (by omega)⟩
  by_cases o3 : op = 3
  ·subst o3
   obtain ⟨_, H9, ac1, z, rfl, z0, z1, _, h1, g1⟩ := pick_ac hJ.i.c (by omega) (b.lines[k].grs.length : Int)
   have hJ9 := hJ.step hCl hB5m hB6l h1 g1
   obtain ⟨u0', u1', u2', ur', l0', l1', l2', l3', _⟩ := hJ9.cf
   have hn0 := hln.n0
   have zl := z1 (by omega)
   obtain ⟨t, rfl⟩ : ∃ t : Nat, z = t := ⟨z.toNat, by omega⟩
   have htl : t < b.lines[k].grs.length := by omega
   obtain ⟨ig, og, hvv, hig, c0, c1⟩ := hJ9.rg.gr htl
   rw [hvg] at l2 l2' hvv
   simp only [Value.slice.injEq, true_and] at hvv
   obtain ⟨rfl, rfl⟩ := hvv
   have gl := g1.l
   have hgn : 0 < b.lines[k].grs.length := by omega
   repeat (first | refine sA ?_ | refine sB ?_ | refine sC ?_ | refine sD ?_ | refine sE rfl ?_ | refine sF rfl ?_ | refine sG rfl ?_ | ((first | refine sk_reg fun K hK => ?_ | refine sk_drw mix fun K hK => ?_); simp [u0.s, l2.s, u0'.s, u1'.s, u2'.s, ur'.s, l2'.s, c0.s, htl, wB, hB5m, lv, gl]; (repeat ((first | refine AskX.go (ac1) ?_ | refine AskD.go (ac1) ?_); simp [u0.s, l2.s, u0'.s, u1'.s, u2'.s, ur'.s, l2'.s, c0.s, htl, wB, hB5m, lv, gl])); refine hK _ ?_; clear hK K))
   refine sk_inv ⟨by simp [subL, getT], _, mono (hJ9.put2 hCl hEl hB5l hB56 _) (by omega)⟩
  by_cases o4 : op = 4
  ·subst o4
   obtain ⟨_, H9, ac1, z, rfl, z0, z1, _, h1, g1⟩ := pick_ac hJ.i.c (by omega) 3
   have hJ9 := hJ.step hCl hB5m hB6l h1 g1
   obtain ⟨u0', u1', u2', ur', l0', l1', l2', l3', _⟩ := hJ9.cf
   have gl := g1.l
   repeat (first | refine sA ?_ | refine sB ?_ | refine sC ?_ | refine sD ?_ | refine sE rfl ?_ | refine sF rfl ?_ | refine sG rfl ?_ | ((first | refine sk_reg fun K hK => ?_ | refine sk_drw mix fun K hK => ?_); simp [u0.s, l0.s, l1.s, u0'.s, u1'.s, u2'.s, ur'.s, l0'.s, wB, hB5m, lv, gl]; (repeat ((first | refine AskX.go (ac1) ?_ | refine AskD.go (ac1) ?_); simp [u0.s, l0.s, l1.s, u0'.s, u1'.s, u2'.s, ur'.s, l0'.s, wB, hB5m, lv, gl])); refine hK _ ?_; clear hK K))
   refine sk_inv ⟨by simp [subL, getT], _, mono (hJ9.put2 hCl hEl hB5l hB56 _) (by omega)⟩
  ·obtain ⟨_, H9, ac1, z, rfl, z0, z1, _, h1, g1⟩ := pick_ac hJ.i.c (by omega) (IntKind.i64.wrap ((b.lines[k].way.length : Int) + 1))
   have hJ9 := hJ.step hCl hB5m hB6l h1 g1
   obtain ⟨u0', u1', u2', ur', l0', l1', l2', l3', _⟩ := hJ9.cf
   rw [hvw] at l1
   have gl := g1.l
   repeat (first | refine sA ?_ | refine sB ?_ | refine sC ?_ | refine sD ?_ | refine sE rfl ?_ | refine sF rfl ?_ | refine sG rfl ?_ | ((first | refine sk_reg fun K hK => ?_ | refine sk_drw mix fun K hK => ?_); simp [o1, o2, o3, o4, u0.s, l0.s, l1.s, u0'.s, u1'.s, u2'.s, ur'.s, l0'.s, wB, hB5m, lv, gl]; (repeat ((first | refine AskX.go (ac1) ?_ | refine AskD.go (ac1) ?_); simp [o1, o2, o3, o4, u0.s, l0.s, l1.s, u0'.s, u1'.s, u2'.s, ur'.s, l0'.s, wB, hB5m, lv, gl])); refine hK _ ?_; clear hK K))
   refine sk_inv ⟨by simp [subL, getT], _, mono (hJ9.put2 hCl hEl hB5l hB56 _) (by omega)⟩
 clear hJ
 rintro H8 ⟨n, hJ⟩
 obtain ⟨_, H9, ac1, z, rfl, z0, z1, _, h1, g1⟩ := pick_ac hJ.i.c (by omega) 20
 have hJ9 := hJ.step hCl hB5m hB6l h1 g1
 have lv : H8.live C = true := hJ.i.c.live
 refine sk_seq ?_
 refine sk_seq ?_
 refine sk_reg fun K hK => ?_; simp
 refine AskX.go (ac1) ?_; simp
 refine hK _ ?_; clear hK K
 refine sk_cut [(0, pt C 0), (3, pt H.length 0), (4, pt (H.length + 1) 0), (5, pt B5 0), (6, pt B6 0)] (fun Hx => ∃ n, EvJ bs E C (m + 24) H Hx b vb B5 B6 ⟨op, k, n⟩ b.lines[k] vw vg F2) ?_ ?_
 ·have mono : ∀ {m' n : Nat} {Hx : Heap} {e : Evt}, EvJ bs E C m' H Hx b vb B5 B6 e b.lines[k] vw vg F2 → m' ≤ n → EvJ bs E C n H Hx b vb B5 B6 e b.lines[k] vw vg F2 := fun h hm => ⟨⟨h.i.c.mono hm, h.i.g, h.i.b3, h.i.b4⟩, h.b5, h.b6, h.rg, h.fc⟩
  by_cases hz : z = 0
  ·obtain ⟨_, H10, ac2, z', rfl, z0', z1', _, h2, g2⟩ := pick_ac hJ9.i.c (by omega) 5
   have hJ10 := hJ9.step hCl hB5m hB6l h2 g2
   obtain ⟨u0, u1, u2, ur, l0, l1, l2, l3, p0, p1, p2, r0, r1, r2, rr⟩ := hJ9.cf
   obtain ⟨u0', u1', u2', ur', _, _, _, _, _⟩ := hJ10.cf
   have lv9 : H9.live C = true := hJ9.i.c.live
   have gl := g2.l
   rw [decide_eq_true hz]
   repeat (first | refine sA ?_ | refine sB ?_ | refine sC ?_ | refine sD ?_ | refine sE rfl ?_ | refine sF rfl ?_ | refine sG rfl ?_ | ((first | refine sk_reg fun K hK => ?_ | refine sk_drw mix fun K hK => ?_); simp [u0.s, u1.s, u2.s, ur.s, u0'.s, u1'.s, u2'.s, ur'.s, wB, hB5m, lv9, gl]; (repeat ((first | refine AskX.go (ac2) ?_ | refine AskD.go (ac2) ?_); simp [u0.s, u1.s, u2.s, ur.s, u0'.s, u1'.s, u2'.s, ur'.s, wB, hB5m, lv9, gl])); refine hK _ ?_; clear hK K))
   refine sk_inv ⟨by simp [subL, getT], _, mono (hJ10.put2 hCl hEl hB5l hB56 _) (by omega)⟩
  ·rw [decide_eq_false hz]
   repeat (first | refine sA ?_ | refine sB ?_ | refine sC ?_ | refine sD ?_ | refine sE rfl ?_ | refine sF rfl ?_ | refine sG rfl ?_ | ((first | refine sk_reg fun K hK => ?_ | refine sk_drw mix fun K hK => ?_); simp; refine hK _ ?_; clear hK K))
   refine sk_inv ⟨by simp [subL, getT], _, mono hJ9 (by omega)⟩
 clear hJ hJ9 ac1 h1 g1 z0 z1 lv
 rintro H10 ⟨n', hJ⟩
 obtain ⟨u0, u1, u2, ur, l0, l1, l2, l3, p0, p1, p2, r0, r1, r2, rr⟩ := hJ.cf
 repeat (first | refine sA ?_ | refine sB ?_ | refine sC ?_ | refine sD ?_ | refine sE rfl ?_ | refine sF rfl ?_ | refine sG rfl ?_ | ((first | refine sk_reg fun K hK => ?_ | refine sk_drw mix fun K hK => ?_); simp [u0.s, u1.s, u2.s, r0.s, r1.s, r2.s, rr.s, w4]; refine hK _ ?_; clear hK K))
 refine sk_ret ?_; simp [r0.s, r1.s, r2.s]
 have hnp : ∀ i, i ≠ H.length + 1 → ((((H10.put (H.length + 1) 0 (iv op)).put (H.length + 1) 1 (iv k)).put (H.length + 1) 2 (iv n')) : Heap)[i]? = H10[i]? := fun i hi => by rw [get_put_ne _ _ _ hi, get_put_ne _ _ _ hi, get_put_ne _ _ _ hi]
 exact ⟨⟨⟨op, k, n'⟩, rfl, rfl, rfl⟩, hJ.i.c.off (H.length + 1) (by omega) (fun hh => by have := hEl _ hh; omega) hnp, hJ.i.g.off (H.length + 1) (by omega) (by simp only [length_put]; omega) hnp⟩
end Go.Proofs.YtpoedfmkiiijnaaDoor
