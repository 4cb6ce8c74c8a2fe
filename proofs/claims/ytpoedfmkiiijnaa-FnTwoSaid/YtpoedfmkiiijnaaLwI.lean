/- The statement's own function FnTwo: it answers true. A walk. -/
import Derived.Test.YtpoedfmkiiijnaaOn1
import Derived.Test.YtpoedfmkiiijnaaBk6
import Derived.Test.YtpoedfmkiiijnaaSt1
import Derived.Test.YtpoedfmkiiijnaaSp2
import Derived.Test.YtpoedfmkiiijnaaWb
import Derived.Test.YtpoedfmkiiijnaaPuT
namespace Go.Proofs.Ytpoedfmkiiijnaa
open Go Go.RowKit Go.Proofs.YtpoedfmkiiijnaaAm
set_option linter.unusedVariables false
set_option linter.unusedSimpArgs false
set_option maxRecDepth 10000
set_option maxHeartbeats 8000000
abbrev wdC (w : Wd) (ul ub : Value) : List Value := [.bool w.ok, .bool w.book.ok, iv w.book.sec, ul, ub]
/-- A world in its block, and where the two trains are. -/
structure TwF (H : Heap) (X Y : Nat) (w : Wd) (a : Nat → Int) (H1 : Heap) (ul ub : Value) (Eb : List Nat) : Prop where
  g : Gro H H1
  x : H1[X]? = some ⟨64, [.bool w.ok, .bool w.book.ok, iv w.book.sec, ul, ub], true, true⟩
  y : H1[Y]? = some ⟨3, [iv (a 0), iv (a 1)], true, true⟩
  rb : RWd H1 Eb w [.bool w.ok, .bool w.book.ok, iv w.book.sec, ul, ub]
  nb : ∀ e, e ∈ Eb → e ≠ X ∧ e ≠ Y
  hx : H.length ≤ X
  hy : X < Y
theorem rs_blk {α : Type} {sz : Nat} {g : α → List Value} (hg : ∀ x, (g x).length = sz) {H : Heap} {id : Nat} {ty : TypeId} {xs : List α} {cs : List Value} {b : Bool} (hx : H[id]? = some ⟨ty, cs, b, true⟩) (hc : cs = xs.flatMap g) (hl : xs.length ≤ 4611686018427387904) : RS sz (RP g) H [id] (sl id 0 xs.length) xs :=
  ⟨hl, .inr ⟨id, 0, [], ty, b, [], cs, [], rfl, rfl, by simpa using hx, rfl, hc ▸ RCs.plain hg H xs⟩⟩
theorem TwI.mono {n : Nat} {b b' : Int} {w : Wd} {g v a : Nat → Int} (h : TwI n b w g v a) (hb : b ≤ b') : TwI n b' w g v a := ⟨h.r, h.s, h.bl, h.l, h.x, fun k hk => by have := h.gb k hk; omega⟩
abbrev putW (H : Heap) (X : Nat) (w : Wd) (p q : Value) : Heap := ((((H.put X 0 (.bool w.ok)).put X 1 (.bool w.book.ok)).put X 2 (iv w.book.sec)).put X 3 p).put X 4 q
theorem putW_ne {H : Heap} {X : Nat} {w : Wd} {p q : Value} {e : Nat} (h : e ≠ X) : (putW H X w p q)[e]? = H[e]? := by
  unfold putW
  rw [get_put_ne _ _ _ h, get_put_ne _ _ _ h, get_put_ne _ _ _ h, get_put_ne _ _ _ h, get_put_ne _ _ _ h]
theorem putW_len {H : Heap} {X : Nat} {w : Wd} {p q : Value} : (putW H X w p q).length = H.length := by simp only [length_put]
abbrev putM (H : Heap) (T : Nat) (c : Int) (w : Wd) (p q : Value) : Heap := (((((H.put T 0 (iv c)).put T 1 (.bool w.ok)).put T 2 (.bool w.book.ok)).put T 3 (iv w.book.sec)).put T 4 p).put T 5 q
theorem putM_ne {H : Heap} {X : Nat} {c : Int} {w : Wd} {p q : Value} {e : Nat} (h : e ≠ X) : (putM H X c w p q)[e]? = H[e]? := by
  unfold putM
  rw [get_put_ne _ _ _ h, get_put_ne _ _ _ h, get_put_ne _ _ _ h, get_put_ne _ _ _ h, get_put_ne _ _ _ h, get_put_ne _ _ _ h]
theorem putM_len {H : Heap} {X : Nat} {c : Int} {w : Wd} {p q : Value} : (putM H X c w p q).length = H.length := by simp only [length_put]
theorem TwF.put {H : Heap} {X Y : Nat} {w w' : Wd} {a : Nat → Int} {H1 : Heap} {ul ub p q : Value} {Eb G : List Nat} (h : TwF H X Y w a H1 ul ub Eb) (r : RWd H1 G w' [.bool w'.ok, .bool w'.book.ok, iv w'.book.sec, p, q]) (n : ∀ e, e ∈ G → e ≠ X ∧ e ≠ Y) : TwF H X Y w' a (putW H1 X w' p q) p q G := by
  have hy := h.hy
  refine ⟨Gro.of (by rw [putW_len]; exact h.g.len) fun j hj => ?_, ?_, ?_, RWd.frm.fr r fun e he _ => putW_ne (n e he).1, n, h.hx, h.hy⟩
  · rw [putW_ne (by have := h.hx; omega)]; exact h.g.same hj
  · unfold putW
    rw [get_put, get_put, get_put, get_put, get_put, h.x]
    rfl
  · rw [putW_ne (by omega)]; exact h.y
theorem TwF.off {H : Heap} {X Y T : Nat} {w : Wd} {a : Nat → Int} {H1 H2 : Heap} {ul ub : Value} {Eb : List Nat} (h : TwF H X Y w a H1 ul ub Eb) (hl : H1.length ≤ H2.length) (hs : ∀ e, e ≠ T → H2[e]? = H1[e]?) (hT : H.length ≤ T) (hX : X ≠ T) (hY : Y ≠ T) (hn : ∀ e, e ∈ Eb → e ≠ T) : TwF H X Y w a H2 ul ub Eb := by
  refine ⟨Gro.of (by have := h.g.len; omega) fun j hj => ?_, (hs X hX).trans h.x, (hs Y hY).trans h.y, RWd.frm.fr h.rb fun e he _ => hs e (hn e he), h.nb, h.hx, h.hy⟩
  rw [hs j (by omega)]; exact h.g.same hj
def twL (i : Nat) (g v : Int) : List Actn := [⟨1, ⟨2, i, g + 2⟩, i, 0⟩, ⟨2, ⟨0, 0, 0⟩, i, v + 1⟩, ⟨3, ⟨0, 0, 0⟩, i, 0⟩, ⟨4, ⟨0, 0, 0⟩, i, 0⟩, ⟨5, ⟨0, 0, 0⟩, i, 0⟩]
theorem TwR.act {n : Nat} {b : Int} {w : Wd} {g v a : Nat → Int} {i : Nat} {nx : Int} {wj : Nat → Wd} (h : TwR n b w g v a i nx wj) {j : Nat} (hj : j < 5) (hj2 : j < (twL i (g i) (v i)).length) : stepWd (wj j) (twL i (g i) (v i))[j] = ⟨0, wj (j + 1)⟩ := by
  have : j = 0 ∨ j = 1 ∨ j = 2 ∨ j = 3 ∨ j = 4 := by omega
  rcases this with rfl | rfl | rfl | rfl | rfl
  · exact h.s1
  · exact h.s2
  · exact h.s3
  · exact h.s4
  · exact h.s5
theorem TwF.gro {H : Heap} {X Y : Nat} {w : Wd} {a : Nat → Int} {H1 H2 : Heap} {ul ub : Value} {Eb : List Nat} (h : TwF H X Y w a H1 ul ub Eb) (g : Gro H1 H2) : TwF H X Y w a H2 ul ub Eb :=
  ⟨h.g.trans g, (g.same (lt_of_get h.x)).trans h.x, (g.same (lt_of_get h.y)).trans h.y, RWd.frm.gro h.rb g, h.nb, h.hx, h.hy⟩
def B10 : SC := .seq (.reg [⟨some 2, .assign (.const (.bool false)), none, []⟩]) (.seq (.seq (.reg [⟨some 14, .move (.tmp 0), none, []⟩, ⟨some 15, .call { callee := (.builtin .len), args := #[(.tmp 14)], argTypes := #[30] }, none, []⟩, ⟨some 16, .binOp .gtr 3 (.tmp 15) (.const (.int .i64 1048576)) 3, none, []⟩]) (.cond (.tmp 16) (.seq (.reg [⟨some 2, .assign (.const (.bool true)), none, []⟩]) .ret) .skip)) (.seq (.reg [⟨some 17, .move (.tmp 0), none, []⟩, ⟨some 18, .call { callee := (.value (.func 31)), args := #[(.tmp 17), (.const (.int .i64 0))], argTypes := #[30, 3] }, none, []⟩, ⟨some 19, .binOp .rem 3 (.tmp 18) (.const (.int .i64 10)) 3, none, []⟩, ⟨some 20, .binOp .add 3 (.const (.int .i64 3)) (.tmp 19) 3, none, []⟩, ⟨some 3, .assign (.tmp 20), none, []⟩]) (.seq (.reg [⟨some 21, .move (.tmp 3), none, []⟩, ⟨some 22, .move (.tmp 0), none, []⟩, ⟨some 23, .call { callee := (.value (.func 31)), args := #[(.tmp 22), (.const (.int .i64 1))], argTypes := #[30, 3] }, none, []⟩, ⟨some 24, .move (.tmp 3), none, []⟩, ⟨some 25, .binOp .sub 3 (.tmp 24) (.const (.int .i64 1)) 3, none, []⟩, ⟨some 26, .binOp .rem 3 (.tmp 23) (.tmp 25) 3, none, []⟩, ⟨some 27, .binOp .add 3 (.const (.int .i64 1)) (.tmp 26) 3, none, []⟩, ⟨some 28, .buildSlice 40 2 #[(0, (.const (.int .i64 0))), (1, (.tmp 27))], none, []⟩, ⟨some 29, .call { callee := (.value (.func 41)), args := #[(.tmp 21), (.tmp 28)], argTypes := #[3, 40] }, none, []⟩, ⟨some 4, .alloc 64, none, []⟩, ⟨none, .store 64 (.tmp 4) (.tmp 29), none, []⟩]) (.seq (.reg [⟨some 30, .move (.tmp 0), none, []⟩, ⟨some 31, .call { callee := (.value (.func 31)), args := #[(.tmp 30), (.const (.int .i64 1))], argTypes := #[30, 3] }, none, []⟩, ⟨some 32, .move (.tmp 3), none, []⟩, ⟨some 33, .binOp .sub 3 (.tmp 32) (.const (.int .i64 1)) 3, none, []⟩, ⟨some 34, .binOp .rem 3 (.tmp 31) (.tmp 33) 3, none, []⟩, ⟨some 35, .binOp .add 3 (.const (.int .i64 1)) (.tmp 34) 3, none, []⟩, ⟨some 36, .buildSlice 40 2 #[(0, (.const (.int .i64 0))), (1, (.tmp 35))], none, []⟩, ⟨some 5, .assign (.tmp 36), none, []⟩]) (.seq (.seq (.reg [⟨some 37, .fieldAddr 64 (.tmp 4) 0, none, []⟩, ⟨some 38, .load 4 (.tmp 37), none, []⟩, ⟨some 39, .unOp .not 4 (.tmp 38), none, []⟩, ⟨some 40, .move (.tmp 39), none, []⟩, ⟨some 41, .fieldAddr 64 (.tmp 4) 2, some (40, false), []⟩, ⟨some 42, .load 62 (.tmp 41), some (40, false), []⟩, ⟨some 43, .call { callee := (.builtin .len), args := #[(.tmp 42)], argTypes := #[62] }, some (40, false), []⟩, ⟨some 44, .binOp .neq 3 (.tmp 43) (.const (.int .i64 2)) 3, some (40, false), []⟩, ⟨some 45, .pick (.tmp 40) (.const (.bool true)) (.tmp 44), none, []⟩]) (.cond (.tmp 45) (.seq (.reg [⟨some 2, .assign (.const (.bool false)), none, []⟩]) .ret) .skip)) (.seq (.seq (.reg [⟨some 6, .assign (.const (.int .i64 0)), none, []⟩]) (.block 0 (.loop (.seq (.seq (.reg [⟨some 46, .move (.tmp 6), none, []⟩, ⟨some 47, .binOp .lss 3 (.tmp 46) (.const (.int .i64 40)) 3, none, []⟩]) (.cond (.tmp 47) .skip (.exit 0))) (.seq (.block 1 (.seq (.reg [⟨some 50, .move (.tmp 0), none, []⟩, ⟨some 51, .move (.tmp 6), none, []⟩, ⟨some 52, .binOp .add 3 (.tmp 51) (.const (.int .i64 2)) 3, none, []⟩, ⟨some 53, .call { callee := (.value (.func 31)), args := #[(.tmp 50), (.tmp 52)], argTypes := #[30, 3] }, none, []⟩, ⟨some 54, .binOp .rem 3 (.tmp 53) (.const (.int .i64 2)) 3, none, []⟩, ⟨some 7, .assign (.tmp 54), none, []⟩]) (.seq (.reg [⟨some 55, .move (.tmp 5), none, []⟩, ⟨some 56, .move (.tmp 7), none, []⟩, ⟨some 57, .indexAddr 40 (.tmp 55) (.tmp 56), none, []⟩, ⟨some 58, .load 3 (.tmp 57), none, []⟩, ⟨some 59, .binOp .add 3 (.tmp 58) (.const (.int .i64 1)) 3, none, []⟩, ⟨some 60, .move (.tmp 3), none, []⟩, ⟨some 61, .binOp .rem 3 (.tmp 59) (.tmp 60) 3, none, []⟩, ⟨some 8, .assign (.tmp 61), none, []⟩]) (.seq (.reg [⟨some 62, .move (.tmp 8), none, []⟩, ⟨some 63, .move (.tmp 5), none, []⟩, ⟨some 64, .move (.tmp 7), none, []⟩, ⟨some 65, .binOp .sub 3 (.const (.int .i64 1)) (.tmp 64) 3, none, []⟩, ⟨some 66, .indexAddr 40 (.tmp 63) (.tmp 65), none, []⟩, ⟨some 67, .load 3 (.tmp 66), none, []⟩, ⟨some 68, .binOp .neq 3 (.tmp 62) (.tmp 67) 3, none, []⟩, ⟨some 9, .assign (.tmp 68), none, []⟩]) (.seq (.reg [⟨some 69, .load 64 (.tmp 4), none, []⟩, ⟨some 70, .move (.tmp 7), none, []⟩, ⟨some 71, .move (.tmp 7), none, []⟩, ⟨some 72, .move (.tmp 8), none, []⟩, ⟨some 73, .build 49 #[(0, (.const (.int .i64 1))), (1, (.tmp 71)), (2, (.tmp 72))], none, []⟩, ⟨some 74, .build 70 #[(0, (.const (.int .i64 1))), (2, (.tmp 70)), (1, (.tmp 73))], none, []⟩, ⟨some 75, .call { callee := (.value (.func 42)), args := #[(.tmp 69), (.tmp 74)], argTypes := #[64, 70] }, none, []⟩, ⟨some 10, .alloc 67, none, []⟩, ⟨none, .store 67 (.tmp 10) (.tmp 75), none, []⟩]) (.seq (.seq (.reg [⟨some 76, .fieldAddr 67 (.tmp 10) 0, none, []⟩, ⟨some 77, .load 3 (.tmp 76), none, []⟩, ⟨some 78, .binOp .eql 3 (.tmp 77) (.const (.int .i64 0)) 3, none, []⟩, ⟨some 79, .move (.tmp 9), none, []⟩, ⟨some 80, .binOp .neq 4 (.tmp 78) (.tmp 79) 4, none, []⟩, ⟨some 81, .move (.tmp 80), none, []⟩, ⟨some 82, .fieldAddr 67 (.tmp 10) 1, some (81, false), []⟩, ⟨some 83, .fieldAddr 64 (.tmp 82) 2, some (81, false), []⟩, ⟨some 84, .load 62 (.tmp 83), some (81, false), []⟩, ⟨some 85, .call { callee := (.builtin .len), args := #[(.tmp 84)], argTypes := #[62] }, some (81, false), []⟩, ⟨some 86, .binOp .neq 3 (.tmp 85) (.const (.int .i64 2)) 3, some (81, false), []⟩, ⟨some 87, .pick (.tmp 81) (.const (.bool true)) (.tmp 86), none, []⟩]) (.cond (.tmp 87) (.seq (.reg [⟨some 2, .assign (.const (.bool false)), none, []⟩]) .ret) .skip)) (.seq (.seq (.reg [⟨some 88, .move (.tmp 9), none, []⟩, ⟨some 89, .unOp .not 4 (.tmp 88), none, []⟩]) (.cond (.tmp 89) (.exit 1) .skip)) (.seq (.reg [⟨some 90, .fieldAddr 67 (.tmp 10) 1, none, []⟩, ⟨some 91, .load 64 (.tmp 90), none, []⟩, ⟨none, .store 64 (.tmp 4) (.tmp 91), none, []⟩]) (.seq (.reg [⟨some 92, .fieldAddr 64 (.tmp 4) 1, none, []⟩, ⟨some 93, .fieldAddr 25 (.tmp 92) 2, none, []⟩, ⟨some 94, .load 23 (.tmp 93), none, []⟩, ⟨some 95, .move (.tmp 7), none, []⟩, ⟨some 96, .indexAddr 23 (.tmp 94) (.tmp 95), none, []⟩, ⟨some 97, .load 43 (.tmp 96), none, []⟩, ⟨some 11, .alloc 43, none, []⟩, ⟨none, .store 43 (.tmp 11) (.tmp 97), none, []⟩]) (.seq (.seq (.drw 1 [⟨some 98, .move (.tmp 7), none, []⟩, ⟨some 99, .move (.tmp 7), none, []⟩, ⟨some 100, .fieldAddr 43 (.tmp 11) 0, none, []⟩, ⟨some 101, .load 3 (.tmp 100), none, [2]⟩, ⟨some 102, .fieldAddr 43 (.tmp 11) 1, none, []⟩, ⟨some 103, .load 40 (.tmp 102), none, [4]⟩, ⟨some 104, .call { callee := (.builtin .len), args := #[(.tmp 103)], argTypes := #[40] }, none, [5, 4]⟩, ⟨some 105, .binOp .add 3 (.tmp 101) (.tmp 104) 3, none, [3, 2, 6, 5, 4]⟩, ⟨some 106, .build 49 #[(0, (.const (.int .i64 2))), (1, (.tmp 99)), (2, (.tmp 105))], none, [1, 7, 3, 2, 6, 5, 4]⟩, ⟨some 107, .build 70 #[(0, (.const (.int .i64 1))), (2, (.tmp 98)), (1, (.tmp 106))], none, [0, 8, 1, 7, 3, 2, 6, 5, 4]⟩, ⟨some 108, .move (.tmp 7), none, []⟩, ⟨some 109, .fieldAddr 64 (.tmp 4) 2, none, []⟩, ⟨some 110, .load 62 (.tmp 109), none, [11]⟩, ⟨some 111, .move (.tmp 7), none, []⟩, ⟨some 112, .indexAddr 62 (.tmp 110) (.tmp 111), none, [12, 11, 13]⟩, ⟨some 113, .fieldAddr 72 (.tmp 112) 0, none, [14, 12, 11, 13]⟩, ⟨some 114, .load 3 (.tmp 113), none, [15, 14, 12, 11, 13]⟩, ⟨some 115, .binOp .add 3 (.tmp 114) (.const (.int .i64 1)) 3, none, [16, 15, 14, 12, 11, 13]⟩, ⟨some 116, .build 70 #[(0, (.const (.int .i64 2))), (2, (.tmp 108)), (3, (.tmp 115))], none, [10, 17, 16, 15, 14, 12, 11, 13]⟩, ⟨some 117, .move (.tmp 7), none, []⟩, ⟨some 118, .build 70 #[(0, (.const (.int .i64 3))), (2, (.tmp 117))], none, [19]⟩, ⟨some 119, .move (.tmp 7), none, []⟩, ⟨some 120, .build 70 #[(0, (.const (.int .i64 4))), (2, (.tmp 119))], none, [21]⟩, ⟨some 121, .move (.tmp 7), none, []⟩, ⟨some 122, .build 70 #[(0, (.const (.int .i64 5))), (2, (.tmp 121))], none, [23]⟩, ⟨some 123, .buildSlice 73 5 #[(0, (.tmp 107)), (1, (.tmp 116)), (2, (.tmp 118)), (3, (.tmp 120)), (4, (.tmp 122))], none, [9, 0, 8, 1, 7, 3, 2, 6, 5, 4, 18, 10, 17, 16, 15, 14, 12, 11, 13, 20, 19, 22, 21, 24, 23]⟩, ⟨some 124, .call { callee := (.builtin .len), args := #[(.tmp 123)], argTypes := #[73] }, none, [25, 9, 0, 8, 1, 7, 3, 2, 6, 5, 4, 18, 10, 17, 16, 15, 14, 12, 11, 13, 20, 19, 22, 21, 24, 23]⟩, ⟨some 125, .move (.const (.int .i64 0)), none, []⟩]) (.block 2 (.loop (.seq (.reg [⟨some 126, .binOp .lss 3 (.tmp 125) (.tmp 124) 3, none, []⟩]) (.seq (.cond (.tmp 126) .skip (.exit 2)) (.seq (.block 3 (.seq (.reg [⟨some 127, .indexAddr 73 (.tmp 123) (.tmp 125), none, []⟩, ⟨some 128, .load 70 (.tmp 127), none, []⟩, ⟨some 13, .alloc 70, none, []⟩, ⟨none, .store 70 (.tmp 13) (.tmp 128), none, []⟩]) (.seq (.reg [⟨some 129, .load 64 (.tmp 4), none, []⟩, ⟨some 130, .load 70 (.tmp 13), none, []⟩, ⟨some 131, .call { callee := (.value (.func 42)), args := #[(.tmp 129), (.tmp 130)], argTypes := #[64, 70] }, none, []⟩, ⟨none, .store 67 (.tmp 10) (.tmp 131), none, []⟩]) (.seq (.seq (.reg [⟨some 132, .fieldAddr 67 (.tmp 10) 0, none, []⟩, ⟨some 133, .load 3 (.tmp 132), none, []⟩, ⟨some 134, .binOp .neq 3 (.tmp 133) (.const (.int .i64 0)) 3, none, []⟩, ⟨some 135, .move (.tmp 134), none, []⟩, ⟨some 136, .fieldAddr 67 (.tmp 10) 1, some (135, false), []⟩, ⟨some 137, .fieldAddr 64 (.tmp 136) 2, some (135, false), []⟩, ⟨some 138, .load 62 (.tmp 137), some (135, false), []⟩, ⟨some 139, .call { callee := (.builtin .len), args := #[(.tmp 138)], argTypes := #[62] }, some (135, false), []⟩, ⟨some 140, .binOp .neq 3 (.tmp 139) (.const (.int .i64 2)) 3, some (135, false), []⟩, ⟨some 141, .pick (.tmp 135) (.const (.bool true)) (.tmp 140), none, []⟩, ⟨some 142, .move (.tmp 141), none, []⟩, ⟨some 143, .fieldAddr 67 (.tmp 10) 1, some (142, false), []⟩, ⟨some 144, .fieldAddr 64 (.tmp 143) 1, some (142, false), []⟩, ⟨some 145, .fieldAddr 25 (.tmp 144) 2, some (142, false), []⟩, ⟨some 146, .load 23 (.tmp 145), some (142, false), []⟩, ⟨some 147, .call { callee := (.builtin .len), args := #[(.tmp 146)], argTypes := #[23] }, some (142, false), []⟩, ⟨some 148, .binOp .neq 3 (.tmp 147) (.const (.int .i64 2)) 3, some (142, false), []⟩, ⟨some 149, .pick (.tmp 142) (.const (.bool true)) (.tmp 148), none, []⟩]) (.cond (.tmp 149) (.seq (.reg [⟨some 2, .assign (.const (.bool false)), none, []⟩]) .ret) .skip)) (.reg [⟨some 150, .fieldAddr 67 (.tmp 10) 1, none, []⟩, ⟨some 151, .load 64 (.tmp 150), none, []⟩, ⟨none, .store 64 (.tmp 4) (.tmp 151), none, []⟩]))))) (.reg [⟨some 152, .binOp .add 3 (.tmp 125) (.const (.int .i64 1)) 3, none, []⟩, ⟨some 125, .move (.tmp 152), none, []⟩]))))))) (.seq (.reg [⟨some 153, .move (.tmp 5), none, []⟩, ⟨some 154, .move (.tmp 7), none, []⟩, ⟨some 155, .move (.tmp 8), none, []⟩, ⟨some 156, .indexAddr 40 (.tmp 153) (.tmp 154), none, []⟩, ⟨none, .store 3 (.tmp 156) (.tmp 155), none, []⟩]) (.seq (.reg [⟨some 157, .load 64 (.tmp 4), none, []⟩, ⟨some 158, .move (.tmp 8), none, []⟩, ⟨some 159, .call { callee := (.value (.func 43)), args := #[(.tmp 157), (.tmp 158)], argTypes := #[64, 3] }, none, []⟩, ⟨some 160, .call { callee := (.builtin .len), args := #[(.tmp 159)], argTypes := #[40] }, none, []⟩, ⟨some 161, .binOp .neq 3 (.tmp 160) (.const (.int .i64 1)) 3, none, []⟩, ⟨some 162, .move (.tmp 161), none, []⟩, ⟨some 163, .fieldAddr 64 (.tmp 4) 1, some (162, false), []⟩, ⟨some 164, .load 25 (.tmp 163), some (162, false), []⟩, ⟨some 165, .move (.tmp 8), some (162, false), []⟩, ⟨some 166, .call { callee := (.value (.func 44)), args := #[(.tmp 164), (.tmp 165)], argTypes := #[25, 3] }, some (162, false), []⟩, ⟨some 167, .move (.tmp 7), some (162, false), []⟩, ⟨some 168, .binOp .neq 3 (.tmp 166) (.tmp 167) 3, some (162, false), []⟩, ⟨some 169, .pick (.tmp 162) (.const (.bool true)) (.tmp 168), none, []⟩]) (.cond (.tmp 169) (.seq (.reg [⟨some 2, .assign (.const (.bool false)), none, []⟩]) .ret) .skip))))))))))))) (.reg [⟨some 48, .move (.tmp 6), none, []⟩, ⟨some 49, .binOp .add 3 (.tmp 48) (.const (.int .i64 1)) 3, none, []⟩, ⟨some 6, .assign (.tmp 49), none, []⟩])))))) (.seq (.reg [⟨some 2, .assign (.const (.bool true)), none, []⟩]) .ret)))))))
theorem s10 : Try.f10.body.bind (stripC 170) = some B10 := by kernel_rfl
theorem lawTwo_ac {H : Heap} {E : List Nat} {v : Value} {bs : List Int} (h : RS 1 RBy H E v bs) : AC Try.prog 10 [v] H (.bool true) H [] := by
  obtain ⟨a1, c1, rfl⟩ := h.form
  have hn := h.1
  refine AC.of_pureS (N := 170) Try.func10 s10 (by kernel_rfl) rfl rfl (by simp) rfl ?_; unfold B10
  by_cases q : bs.length ≤ 1048576
  case neg =>
    have q' : (1048576 : Int) < bs.length := by omega
    repeat (first | refine sA ?_ | refine sB ?_ | refine sC ?_ | refine sD ?_ | refine sE rfl ?_ | refine sF rfl ?_ | refine sG rfl ?_ | ((first | refine sk_reg fun K hK => ?_ | refine sk_drw mix fun K hK => ?_); simp [q']; refine hK _ ?_; clear hK K))
    refine sk_ret ?_; simp
  have q' : ¬ (1048576 : Int) < bs.length := by omega
  have r0 := byB_rng h.prop 0
  have r1 := byB_rng h.prop 1
  have w0 : AC Try.prog 31 [.slice a1 bs.length c1, iv 0] H (iv (byB bs 0)) H [] := wByte_ac h 0 (by omega)
  have w1 : AC Try.prog 31 [.slice a1 bs.length c1, iv 1] H (iv (byB bs 1)) H [] := wByte_ac h 1 (by omega)
  obtain ⟨N, hN, hN3, hN12⟩ : ∃ N : Nat, 3 + (byB bs 0).tmod 10 = N ∧ 3 ≤ N ∧ N ≤ 12 := by
    rw [Int.tmod_eq_emod_of_nonneg r0.1]
    exact ⟨(3 + byB bs 0 % 10).toNat, by omega, by omega, by omega⟩
  obtain ⟨c, hc, hc1, hcN⟩ : ∃ c : Nat, 1 + (byB bs 1).tmod ((N : Int) - 1) = c ∧ 1 ≤ c ∧ (c : Int) ≤ (N : Int) - 1 := by
    rw [Int.tmod_eq_emod_of_nonneg r1.1]
    have h1 := Int.emod_nonneg (byB bs 1) (show ((N : Int) - 1) ≠ 0 by omega)
    have h2 := Int.emod_lt_of_pos (byB bs 1) (show (0 : Int) < (N : Int) - 1 by omega)
    exact ⟨(1 + byB bs 1 % ((N : Int) - 1)).toNat, by omega, by omega, by omega⟩
  have f0 := intA_rem (k := .i64) (a := byB bs 0) (b := 10) (by decide)
  have f1 := intA_rem (k := .i64) (a := byB bs 1) (b := (N : Int) - 1) (by omega)
  have hwN : IntKind.i64.wrap (3 + (byB bs 0).tmod 10) = N := by rw [hN]; exact wrap_id (by omega) (by omega)
  have hw1 : IntKind.i64.wrap ((N : Int) - 1) = (N : Int) - 1 := wrap_id (by omega) (by omega)
  have hwc : IntKind.i64.wrap (1 + (byB bs 1).tmod ((N : Int) - 1)) = c := by rw [hc]; exact wrap_id (by omega) (by omega)
  have wB : ∀ L : Heap, AC Try.prog 31 [.slice a1 bs.length c1, iv 1] (H ++ L) (iv (byB bs 1)) (H ++ L) [] := fun L => wByte_ac (h.ext (RPp.frm _ _)) 1 (by omega)
  have hcs : startW (N : Int) [0, (c : Int)] = startW (N : Int) [0, (c : Int)] := rfl
  have hI0 := TwI.start (n := N) (c := c) ⟨hN3, by omega⟩ ⟨by omega, hcN⟩
  have hb0 := hI0.bl
  have hr0 := (rightB_all hI0.r).1
  generalize hW : startW (N : Int) [0, (c : Int)] = W at *
  repeat (first | refine sA ?_ | refine sB ?_ | refine sC ?_ | refine sD ?_ | refine sE rfl ?_ | refine sF rfl ?_ | refine sG rfl ?_ | ((first | refine sk_reg fun K hK => ?_ | refine sk_drw mix fun K hK => ?_); simp [q', f0, hwN]; (repeat ((first | refine AskX.go (w0) ?_ | refine AskD.go (w0) ?_); simp [q', f0, hwN])); refine hK _ ?_; clear hK K))
  refine sk_reg fun K hK => ?_; simp
  refine AskX.go (w1) ?_; simp [f1, hw1, hwc]
  refine AskX.mkr (implStart_mk (l := [0, (c : Int)]) (rs_blk (g := cInt) (ty := 3) (b := true) (xs := [0, (c : Int)]) (fun _ => rfl) (cs := [iv 0, iv (c : Int)]) (by simp) (by simp [cInt]) (by simp)) N) ?_; rintro _ J1 A1 ⟨cs1, rfl, r1⟩ o1 n1; simp
  rw [hW] at r1
  obtain ⟨wl, wb, E1, E2, rfl, rfl, hwl, hwb⟩ := RWd.five r1
  simp [hwl.one, hwb.one, hwl.cv, hwb.cv]
  refine hK _ ?_; clear hK K
  obtain ⟨X, hX⟩ : ∃ X, X = H.length + (J1.length + 1) := ⟨_, rfl⟩
  have o1l := o1.lt
  simp only [List.append_assoc, List.cons_append, List.nil_append, List.length_append, List.length_cons, List.length_nil] at r1 o1 n1 o1l
  obtain ⟨a2, c2, hwb2⟩ := hwb.form
  rw [hb0] at hwb2
  subst hwb2
  repeat (first | refine sA ?_ | refine sB ?_ | refine sC ?_ | refine sD ?_ | refine sE rfl ?_ | refine sF rfl ?_ | refine sG rfl ?_ | ((first | refine sk_reg fun K hK => ?_ | refine sk_drw mix fun K hK => ?_); simp [f1, hw1, hwc, hr0]; (repeat ((first | refine AskX.go (wB _) ?_ | refine AskD.go (wB _) ?_); simp [f1, hw1, hwc, hr0])); refine hK _ ?_; clear hK K))
  refine sk_loop (fun m ts H' => ∃ (k : Nat) (w : Wd) (g v a : Nat → Int) (ul ub : Value) (Eb : List Nat), k ≤ 40 ∧ m = 40 - k ∧ TwI N k w g v a ∧ TwF H X (X + 1) w a H' ul ub Eb ∧ ts = [(0, .slice a1 bs.length c1), (3, iv N), (4, pt X 0), (5, sl (X + 1) 0 2), (6, iv k)]) 40 _ ?_ ⟨0, W, _, _, _, wl, _, _, by omega, rfl, hI0, ⟨Gro.one _ _, ?_, ?_, RWd.frm.gro r1 (by first | exact Gro.refl _ | exact ⟨_, rfl⟩ | exact ⟨_, by simp only [List.append_assoc, List.cons_append, List.nil_append]; rfl⟩ | exact ⟨[], by simp⟩), ?_, by omega, by omega⟩, rfl⟩ ?_
  · simp [subL, getT, hX]
  · rw [hX, List.getElem?_append_right (by omega), Nat.add_sub_cancel_left]
    simp [hr0]
  · rw [hX, List.getElem?_append_right (by omega), show H.length + (J1.length + 1) + 1 - H.length = J1.length + 2 by omega]
    simp
  · exact fun e he => by have := n1 e he; have := o1l e he; omega
  clear r1 o1 n1 o1l hwl hwb
  rintro m ts H1 ⟨k, w, g, v, a, ul, ub, Eb, hk, rfl, hI, hF, rfl⟩
  have hl1 := hF.g.len
  have hgz : ∀ n, H.length ≤ H1.length + n := fun n => by omega
  by_cases hlt : k < 40
  case neg =>
    obtain rfl : k = 40 := by omega
    repeat (first | refine sA ?_ | refine sB ?_ | refine sC ?_ | refine sD ?_ | refine sE rfl ?_ | refine sF rfl ?_ | refine sG rfl ?_ | ((first | refine sk_reg fun K hK => ?_ | refine sk_drw mix fun K hK => ?_); simp; refine hK _ ?_; clear hK K))
    refine sk_ret ?_; simp
    exact hF.g
  have hlt' : (k : Int) < 40 := by omega
  have rk := byB_rng h.prop (k + 2)
  have wk : AC Try.prog 31 [.slice a1 bs.length c1, iv ((k : Int) + 2)] H1 (iv (byB bs (k + 2))) H1 [] := by
    rw [show (k : Int) + 2 = ((k + 2 : Nat) : Int) by omega]
    exact wByte_ac (h.gro hF.g (RPp.frm _ _)) (k + 2) (by omega)
  obtain ⟨i, hi, hi2⟩ : ∃ i : Nat, (byB bs (k + 2)).tmod 2 = i ∧ i < 2 := by
    rw [Int.tmod_eq_emod_of_nonneg rk.1]
    exact ⟨(byB bs (k + 2) % 2).toNat, by omega, by omega⟩
  obtain ⟨i', hi', hi2'⟩ : ∃ i' : Nat, 1 - (i : Int) = i' ∧ i' < 2 := ⟨1 - i, by omega, by omega⟩
  have fk := intA_rem (k := .i64) (a := byB bs (k + 2)) (b := 2) (by decide)
  rw [hi] at fk
  have ra := hI.rng hi2
  obtain ⟨nx, hnx, hnx0, hnxN, hnxa⟩ : ∃ nx : Int, (a i + 1).tmod N = nx ∧ 0 ≤ nx ∧ nx ≤ (N : Int) - 1 ∧ nx ≠ a i := by
    rw [Int.tmod_eq_emod_of_nonneg (by omega)]
    refine ⟨_, rfl, Int.emod_nonneg _ (by omega), by have := Int.emod_lt_of_pos (a i + 1) (show (0 : Int) < N by omega); omega, fun hh => ?_⟩
    by_cases hq : a i + 1 < N
    · rw [Int.emod_eq_of_lt (by omega) hq] at hh; omega
    · rw [show a i + 1 = (N : Int) by omega, Int.emod_self] at hh; omega
  have fn := intA_rem (k := .i64) (a := a i + 1) (b := (N : Int)) (by omega)
  rw [hnx] at fn
  have hw2 : IntKind.i64.wrap ((k : Int) + 2) = (k : Int) + 2 := wrap_id (by omega) (by omega)
  have hwa : IntKind.i64.wrap (a i + 1) = a i + 1 := wrap_id (by omega) (by omega)
  have hwi : IntKind.i64.wrap (1 - (i : Int)) = (i' : Int) := by rw [hi']; exact wrap_id (by omega) (by omega)
  have hyc : ∀ t, t < 2 → CF H1 (X + 1) t (iv (a t)) := fun t ht => by
    have : t = 0 ∨ t = 1 := by omega
    rcases this with rfl | rfl
    · exact CF.of hF.y rfl rfl
    · exact CF.of hF.y rfl rfl
  have ya := hyc i hi2
  have yb := hyc i' hi2'
  have x0 : CF H1 X 0 (.bool w.ok) := CF.of hF.x rfl rfl
  have x1 : CF H1 X 1 (.bool w.book.ok) := CF.of hF.x rfl rfl
  have x2 : CF H1 X 2 (iv w.book.sec) := CF.of hF.x rfl rfl
  have x3 : CF H1 X 3 ul := CF.of hF.x rfl rfl
  have x4 : CF H1 X 4 ub := CF.of hF.x rfl rfl
  obtain ⟨vl', vb', _, _, hE, _, hxl, hxb⟩ := RWd.five hF.rb
  simp only [List.cons.injEq, true_and, and_true] at hE
  obtain ⟨rfl, rfl⟩ := hE
  have xu := hxl.one
  have xv := hxb.one
  have yu := hxl.cv
  have yv := hxb.cv
  have hap := hI.apart
  have hiz : (i : Int) < 2 := by omega
  have hiz' : (i' : Int) < 2 := by omega
  have hone : ∀ o, (if o = a 0 then (0 : Int) else if o = a 1 then 1 else -1) < 0 ↔ (o ≠ a 0 ∧ o ≠ a 1) := fun o => by
    by_cases p : o = a 0
    · rw [if_pos p]; exact ⟨fun h => by omega, fun h => absurd p h.1⟩
    · rw [if_neg p]
      by_cases p1 : o = a 1
      · rw [if_pos p1]; exact ⟨fun h => by omega, fun h => absurd p1 h.2⟩
      · rw [if_neg p1]; exact ⟨fun _ => ⟨p, p1⟩, fun _ => by omega⟩
  have hown := (hone nx)
  rw [← hI.own nx] at hown
  have hfree : ownB w.book.lines nx < 0 ↔ nx ≠ a i' := by
    rw [hown]
    have : (i = 0 ∧ i' = 1) ∨ (i = 1 ∧ i' = 0) := by omega
    rcases this with ⟨rfl, rfl⟩ | ⟨rfl, rfl⟩
    · exact ⟨fun q => q.2, fun q => ⟨hnxa, q⟩⟩
    · exact ⟨fun q => q.1, fun q => ⟨q, hnxa⟩⟩
  repeat (first | refine sA ?_ | refine sB ?_ | refine sC ?_ | refine sD ?_ | refine sE rfl ?_ | refine sF rfl ?_ | refine sG rfl ?_ | ((first | refine sk_reg fun K hK => ?_ | refine sk_drw mix fun K hK => ?_); simp [hlt', hw2, hwa, hwi, fk, fn, hiz, hiz', ya.s, yb.s, hl1, hgz]; (repeat ((first | refine AskX.go (wk) ?_ | refine AskD.go (wk) ?_); simp [hlt', hw2, hwa, hwi, fk, fn, hiz, hiz', ya.s, yb.s, hl1, hgz])); refine hK _ ?_; clear hK K))
  refine sk_reg fun K hK => ?_; simp [x0.s, x1.s, x2.s, x3.s, x4.s, xu, xv]
  refine AskX.mkr (implStep_mk (RWd.frm.gro hF.rb (by first | exact Gro.refl _ | exact ⟨_, rfl⟩ | exact ⟨_, by simp only [List.append_assoc, List.cons_append, List.nil_append]; rfl⟩ | exact ⟨[], by simp⟩)) ⟨1, ⟨1, i, nx⟩, i, 0⟩) ?_; rintro _ J2 A2 ⟨_, rfl, _, rfl, r2⟩ o2 n2; simp [xu, xv, hl1, hgz]
  obtain ⟨pl, pb, G1, G2, rfl, rfl, hpl, hpb⟩ := RWd.five r2
  simp [hpl.one, hpb.one, hpl.cv, hpb.cv, hl1, hgz]
  refine hK _ ?_; clear hK K
  have xpl := hpl.one
  have xpb := hpb.one
  have ypl := hpl.cv
  have ypb := hpb.cv
  clear hpl hpb
  obtain ⟨T, hT⟩ : ∃ T, T = H1.length + J2.length := ⟨_, rfl⟩
  have hDb : (stepWd w ⟨1, ⟨1, i, nx⟩, i, 0⟩).world.bodies.length = 2 ∧ (nx = a i' → (stepWd w ⟨1, ⟨1, i, nx⟩, i, 0⟩).code = 2) := by
    by_cases hq : ownB w.book.lines nx < 0
    · obtain ⟨wj, hR⟩ := hI.round (by omega) hi2 ⟨hnx0, hnxN⟩ hq
      rw [hR.w0]
      exact ⟨(hR.s 0 (by omega)).2.1, fun hh => absurd hh (hfree.1 hq)⟩
    · have := two_no (w := w) (k := i) (nx := nx) hI.r (by have := hI.bl; omega) (by have := hI.ll; omega) (by rw [hI.s]; omega) (by omega)
      exact ⟨by rw [this.2]; exact hI.bl, fun _ => this.1⟩
  obtain ⟨hDb, hD2⟩ := hDb
  generalize hD : stepWd w ⟨1, ⟨1, i, nx⟩, i, 0⟩ = D at *
  have o2l := o2.lt
  simp only [List.append_assoc, List.cons_append, List.nil_append, List.length_append, List.length_cons, List.length_nil] at r2 o2 n2 o2l
  refine sk_at [(0, .slice a1 bs.length c1), (3, iv N), (4, pt X 0), (5, sl (X + 1) 0 2), (6, iv k), (7, iv i), (8, iv nx), (9, .bool (!decide (nx = a i'))), (10, pt T 0)]
    (fun H2 => Gro H1 H2 ∧ H2[T]? = some ⟨67, [iv D.code, .bool D.world.ok, .bool D.world.book.ok, iv D.world.book.sec, pl, pb], true, true⟩ ∧ RWd H2 (G1 ++ G2) D.world [.bool D.world.ok, .bool D.world.book.ok, iv D.world.book.sec, pl, pb] ∧ ∀ e, e ∈ G1 ++ G2 → H1.length ≤ e ∧ e ≠ T) (by simp [subL, getT, hT]) ?_ ?_
  · refine ⟨Gro.one _ _, ?_, RWd.frm.gro r2 (by first | exact Gro.refl _ | exact ⟨_, rfl⟩ | exact ⟨_, by simp only [List.append_assoc, List.cons_append, List.nil_append]; rfl⟩ | exact ⟨[], by simp⟩), fun j hj => ⟨by have := n2 j hj; omega, by have := o2l j hj; omega⟩⟩
    show (H1 ++ _)[T]? = _
    rw [hT, List.getElem?_append_right (by omega), Nat.add_sub_cancel_left]
    simp
  clear r2 o2 n2 o2l
  rintro H2 ⟨g2, hT2b, r2, n2⟩
  have hl2 := g2.len
  have hTl : H1.length ≤ T := by omega
  have hxT : X + 1 < H1.length := lt_of_get hF.y
  have hXl := hF.hx
  have tc0 : CF H2 T 0 (iv D.code) := CF.of hT2b rfl rfl
  have tc1 : CF H2 T 1 (.bool D.world.ok) := CF.of hT2b rfl rfl
  have tc2 : CF H2 T 2 (.bool D.world.book.ok) := CF.of hT2b rfl rfl
  have tc3 : CF H2 T 3 (iv D.world.book.sec) := CF.of hT2b rfl rfl
  have tc4 : CF H2 T 4 pl := CF.of hT2b rfl rfl
  have tc5 : CF H2 T 5 pb := CF.of hT2b rfl rfl
  have hF2 := hF.gro g2
  have xr : RF H2 X := RF.of hF2.x
  have hw3 : IntKind.i64.wrap ((k : Int) + 1) = (k : Int) + 1 := wrap_id (by omega) (by omega)
  have hpb5 : ∃ a c, pb = .slice a 2 c := by
    obtain ⟨vl', vb', _, _, hE, _, hxl, hxb⟩ := RWd.five r2
    simp only [List.cons.injEq, true_and, and_true] at hE
    obtain ⟨rfl, rfl⟩ := hE
    have := hxb.form
    rw [hDb] at this
    exact this
  obtain ⟨ap, cp, rfl⟩ := hpb5
  by_cases hf : nx = a i'
  · have hc := hD2 hf
    repeat (first | refine sA ?_ | refine sB ?_ | refine sC ?_ | refine sD ?_ | refine sE rfl ?_ | refine sF rfl ?_ | refine sG rfl ?_ | ((first | refine sk_reg fun K hK => ?_ | refine sk_drw mix fun K hK => ?_); simp [tc0.s, tc1.s, tc2.s, tc3.s, tc4.s, tc5.s, hc, hf, hw3]; refine hK _ ?_; clear hK K))
    refine sk_inv ⟨40 - (k + 1), _, by omega, ?_, k + 1, w, g, v, a, ul, ub, Eb, by omega, rfl, TwI.mono hI (by omega), hF2, rfl⟩
    simp [subL, getT]
  have hq : ownB w.book.lines nx < 0 := hfree.2 hf
  obtain ⟨wj, hR⟩ := hI.round (by omega) hi2 ⟨hnx0, hnxN⟩ hq
  have hDw : D = ⟨0, wj 0⟩ := by rw [← hD, hR.w0]
  subst hDw
  repeat (first | refine sA ?_ | refine sB ?_ | refine sC ?_ | refine sD ?_ | refine sE rfl ?_ | refine sF rfl ?_ | refine sG rfl ?_ | ((first | refine sk_reg fun K hK => ?_ | refine sk_drw mix fun K hK => ?_); simp [tc0.s, tc1.s, tc2.s, tc3.s, tc4.s, tc5.s, hf]; refine hK _ ?_; clear hK K))
  have hXT : X ≠ T := by omega
  have wX : ∀ n, H.length ≤ X + n := fun n => by omega
  have v0 := x0.gro g2
  have v1 := x1.gro g2
  have v2 := x2.gro g2
  have v3 := x3.gro g2
  have v4 := x4.gro g2
  refine sk_reg fun K hK => ?_; simp [tc1.s, tc2.s, tc3.s, tc4.s, tc5.s, xr.s, v0.s, v1.s, v2.s, v3.s, v4.s, xpl, hXl, wX]
  refine hK _ ?_; clear hK K
  have hnb : ∀ e, e ∈ G1 ++ G2 → e ≠ X ∧ e ≠ X + 1 := fun e he => by have := n2 e he; omega
  have hF3 := hF2.put r2 hnb
  refine sk_at [(0, .slice a1 bs.length c1), (3, iv N), (4, pt X 0), (5, sl (X + 1) 0 2), (6, iv k), (7, iv i), (8, iv nx), (9, .bool true), (10, pt T 0)]
    (fun H3 => TwF H X (X + 1) (wj 0) a H3 pl (.slice ap 2 cp) (G1 ++ G2) ∧ H3[T]? = some ⟨67, [iv 0, .bool (wj 0).ok, .bool (wj 0).book.ok, iv (wj 0).book.sec, pl, .slice ap 2 cp], true, true⟩) (by simp [subL, getT]) ⟨hF3, (putW_ne (Ne.symm hXT)).trans hT2b⟩ ?_
  clear hF3 v0 v1 v2 v3 v4 tc0 tc1 tc2 tc3 tc4 tc5 hT2b hF2 xr
  rintro H3 ⟨hF3, hT3⟩
  have hl3 := hF3.g.len
  have hz3 : ∀ n, H.length ≤ H3.length + n := fun n => by omega
  have hT3l := lt_of_get hT3
  have v0 : CF H3 X 0 (.bool (wj 0).ok) := CF.of hF3.x rfl rfl
  have v1 : CF H3 X 1 (.bool (wj 0).book.ok) := CF.of hF3.x rfl rfl
  have v2 : CF H3 X 2 (iv (wj 0).book.sec) := CF.of hF3.x rfl rfl
  have v3 : CF H3 X 3 pl := CF.of hF3.x rfl rfl
  have v4 : CF H3 X 4 (.slice ap 2 cp) := CF.of hF3.x rfl rfl
  obtain ⟨vl', vb', _, _, hE, _, hxl', hxb'⟩ := RWd.five hF3.rb
  simp only [List.cons.injEq, true_and, and_true] at hE
  obtain ⟨rfl, rfl⟩ := hE
  have hb2 := (hR.s 0 (by omega)).2.1
  have hb3 := (hR.s 0 (by omega)).2.2
  obtain ⟨il, ol, e1, e2, F1, F2, hpl', hil, d0, d1, d2, d3, rw1, rg1, yo1, yo2, _⟩ := hxl'.line (k := i) (by omega)
  rw [hR.l0] at d0 d3 rw1 rg1
  obtain ⟨ib, ob, hpb', hib, b0, b1, b2, b3⟩ := RS.bd hxb' (k := i) (by omega)
  rw [hR.x0] at b0 b1 b2 b3
  rw [hb3] at hpl'
  rw [hb2] at hpb'
  subst hpl'
  obtain ⟨ay, cy, hy1⟩ := rw1.form
  subst hy1
  simp only [Value.slice.injEq, true_and] at hpb'
  obtain ⟨rfl, rfl⟩ := hpb'
  have hgi := hI.gb i hi2
  have hwg : IntKind.i64.wrap (g i + 2) = g i + 2 := wrap_id (by omega) (by omega)
  have hwv : IntKind.i64.wrap (v i + 1) = v i + 1 := wrap_id (by omega) (by omega)
  repeat (first | refine sA ?_ | refine sB ?_ | refine sC ?_ | refine sD ?_ | refine sE rfl ?_ | refine sF rfl ?_ | refine sG rfl ?_ | ((first | refine sk_reg fun K hK => ?_ | refine sk_drw mix fun K hK => ?_); simp [v0.s, v1.s, v2.s, v3.s, v4.s, d0.s, d1.s, d2.s, d3.s, b0.s, b1.s, b2.s, b3.s, yo1, yo2, hiz, hl3, hz3, hXl, wX, hwg, hwv]; refine hK _ ?_; clear hK K))
  obtain ⟨acs, hacs⟩ : ∃ acs, acs = twL i (g i) (v i) := ⟨_, rfl⟩
  have hal : acs.length = 5 := by rw [hacs]; rfl
  obtain ⟨S, hS⟩ : ∃ S, S = H3.length + 1 := ⟨_, rfl⟩
  refine sk_loop (fun m ts H' => ∃ (j : Nat) (pl pb : Value) (Eb : List Nat) (cs : List Value), j ≤ 5 ∧ m = 5 - j ∧ TwF H X (X + 1) (wj j) a H' pl pb Eb ∧ (∀ e, e ∈ Eb → e ≠ T) ∧ (∃ c0 c1 c2 c3 c4 c5, H'[T]? = some ⟨67, [c0, c1, c2, c3, c4, c5], true, true⟩) ∧ H'[S]? = some ⟨70, acs.flatMap cAc, true, true⟩ ∧ ts = [(0, .slice a1 bs.length c1), (3, iv N), (4, pt X 0), (5, sl (X + 1) 0 2), (6, iv k), (7, iv i), (8, iv nx), (10, pt T 0), (123, sl S 0 5), (124, iv 5), (125, iv j)]) 5 _ ?_ ⟨0, _, _, _, [], by omega, rfl, hF3.gro (by first | exact Gro.refl _ | exact ⟨_, rfl⟩ | exact ⟨_, by simp only [List.append_assoc, List.cons_append, List.nil_append]; rfl⟩ | exact ⟨[], by simp⟩), fun e he => (n2 e he).2, ⟨_, _, _, _, _, _, (List.getElem?_append_left hT3l).trans hT3⟩, ?_, rfl⟩ ?_
  · simp [subL, getT, hS]
  · rw [hS, List.getElem?_append_right (by omega), show H3.length + 1 - H3.length = 1 by omega, hacs]
    rfl
  clear v0 v1 v2 v3 v4 d0 d1 d2 d3 b0 b1 b2 b3 rw1 rg1 hxl' hxb' hF3 hT3
  rintro m ts H4 ⟨j, pl, pb, Eb4, _, hj, rfl, hF4, hn4, ⟨z0, z1, z2, z3, z4, z5, hT4⟩, hS4, rfl⟩
  have hl4 := hF4.g.len
  have hz4 : ∀ n, H.length ≤ H4.length + n := fun n => by omega
  have hT4l := lt_of_get hT4
  have v0 : CF H4 X 0 (.bool (wj j).ok) := CF.of hF4.x rfl rfl
  have v1 : CF H4 X 1 (.bool (wj j).book.ok) := CF.of hF4.x rfl rfl
  have v2 : CF H4 X 2 (iv (wj j).book.sec) := CF.of hF4.x rfl rfl
  have v3 : CF H4 X 3 pl := CF.of hF4.x rfl rfl
  have v4 : CF H4 X 4 pb := CF.of hF4.x rfl rfl
  obtain ⟨vl', vb', _, _, hE, _, hxl', hxb'⟩ := RWd.five hF4.rb
  simp only [List.cons.injEq, true_and, and_true] at hE
  obtain ⟨rfl, rfl⟩ := hE
  have xp := hxl'.one
  have xq := hxb'.one
  have yp := hxl'.cv
  have yq := hxb'.cv
  by_cases hjt : j < 5
  · have hjz : (j : Int) < 5 := by omega
    have hja : j < acs.length := by omega
    have hst : stepWd (wj j) acs[j] = ⟨0, wj (j + 1)⟩ := by subst hacs; exact TwR.act hR hjt hja
    have hrs : RS 6 RAc H4 [S] (sl S 0 acs.length) acs := rs_blk (g := cAc) (xs := acs) (fun _ => rfl) hS4 rfl (by omega)
    obtain ⟨id, o, Ek, cs, hv, hid, _, _, hRR, hsz, hc⟩ := hrs.at hja
    obtain ⟨_, rfl⟩ := hRR
    generalize hev : acs[j] = e at *
    simp only [Value.slice.injEq, Option.some.injEq, Addr.mk.injEq, and_true] at hv
    obtain ⟨rfl, rfl⟩ := hv
    have q0 : CF H4 S (j * 6) (iv e.op) := fun L => by have := hc 0 _ rfl L; simpa using this
    have q1 : CF H4 S (j * 6 + 1) (iv e.ev.op) := fun L => by have := hc 1 _ rfl L; simpa using this
    have q2 : CF H4 S (j * 6 + 2) (iv e.ev.train) := fun L => by have := hc 2 _ rfl L; simpa using this
    have q3 : CF H4 S (j * 6 + 3) (iv e.ev.n) := fun L => by have := hc 3 _ rfl L; simpa using this
    have q4 : CF H4 S (j * 6 + 4) (iv e.train) := fun L => by have := hc 4 _ rfl L; simpa using this
    have q5 : CF H4 S (j * 6 + 5) (iv e.n) := fun L => by have := hc 5 _ rfl L; simpa using this
    repeat (first | refine sA ?_ | refine sB ?_ | refine sC ?_ | refine sD ?_ | refine sE rfl ?_ | refine sF rfl ?_ | refine sG rfl ?_ | ((first | refine sk_reg fun K hK => ?_ | refine sk_drw mix fun K hK => ?_); simp [hjz, q0.s, q1.s, q2.s, q3.s, q4.s, q5.s, hl4, hz4]; refine hK _ ?_; clear hK K))
    have t0 : CF H4 T 0 z0 := CF.of hT4 rfl rfl
    have t1 : CF H4 T 1 z1 := CF.of hT4 rfl rfl
    have t2 : CF H4 T 2 z2 := CF.of hT4 rfl rfl
    have t3 : CF H4 T 3 z3 := CF.of hT4 rfl rfl
    have t4 : CF H4 T 4 z4 := CF.of hT4 rfl rfl
    have t5 : CF H4 T 5 z5 := CF.of hT4 rfl rfl
    have tr : RF H4 T := RF.of hT4
    have wT : ∀ n, H.length ≤ T + n := fun n => by omega
    have wT0 : H.length ≤ T := by omega
    refine sk_reg fun K hK => ?_; simp [v0.s, v1.s, v2.s, v3.s, v4.s, xp, xq, hl4, hz4]
    refine AskX.mkr (implStep_mk (RWd.frm.gro hF4.rb (by first | exact Gro.refl _ | exact ⟨_, rfl⟩ | exact ⟨_, by simp only [List.append_assoc, List.cons_append, List.nil_append]; rfl⟩ | exact ⟨[], by simp⟩)) e) ?_; rintro _ J5 A5 ⟨_, rfl, _, rfl, r5⟩ o5 n5; simp [xp, xq, hl4, hz4]
    rw [hst] at r5
    obtain ⟨ql, qb, K1, K2, rfl, rfl, hql, hqb⟩ := RWd.five r5
    simp [hst, t0.s, t1.s, t2.s, t3.s, t4.s, t5.s, tr.s, hql.one, hqb.one, hql.cv, hqb.cv, wT, wT0, hl4, hz4]
    refine hK _ ?_; clear hK K
    have hSl := lt_of_get hS4
    have hST : S ≠ T := by omega
    refine sk_at [(0, .slice a1 bs.length c1), (3, iv N), (4, pt X 0), (5, sl (X + 1) 0 2), (6, iv k), (7, iv i), (8, iv nx), (10, pt T 0), (123, sl S 0 5), (124, iv 5), (125, iv j)]
      (fun H5 => TwF H X (X + 1) (wj j) a H5 pl pb Eb4 ∧ H5[T]? = some ⟨67, [iv 0, .bool (wj (j + 1)).ok, .bool (wj (j + 1)).book.ok, iv (wj (j + 1)).book.sec, ql, qb], true, true⟩ ∧ RWd H5 (K1 ++ K2) (wj (j + 1)) [.bool (wj (j + 1)).ok, .bool (wj (j + 1)).book.ok, iv (wj (j + 1)).book.sec, ql, qb] ∧ H5[S]? = some ⟨70, acs.flatMap cAc, true, true⟩) (by simp [subL, getT]) ?_ ?_
    · have kT : ∀ e, e ∈ K1 ++ K2 → e ≠ T := fun e he => by have := n5 e he; simp only [List.length_append, List.length_cons, List.length_nil] at this; omega
      refine ⟨TwF.off (T := T) (hF4.gro (by first | exact Gro.refl _ | exact ⟨_, rfl⟩ | exact ⟨_, by simp only [List.append_assoc, List.cons_append, List.nil_append]; rfl⟩ | exact ⟨[], by simp⟩)) (Nat.le_of_eq putM_len.symm) (fun e he => putM_ne he) wT0 hXT (by omega) hn4, ?_, ?_, ?_⟩
      · rw [get_put, get_put, get_put, get_put, get_put, get_put, List.getElem?_append_left hT4l, hT4]
        rfl
      · refine RWd.frm.fr (H := H4 ++ _) (by simpa only [List.append_assoc, List.cons_append, List.nil_append] using r5) fun e he _ => putM_ne (kT e he)
      · exact (putM_ne hST).trans ((List.getElem?_append_left hSl).trans hS4)
    have n5' : ∀ e, e ∈ K1 ++ K2 → H4.length < e := fun e he => by have := n5 e he; simp only [List.length_append, List.length_cons, List.length_nil] at this; omega
    have xql := hql.one
    have xqb := hqb.one
    clear v0 v1 v2 v3 v4 q0 q1 q2 q3 q4 q5 t0 t1 t2 t3 t4 t5 tr hql hqb r5 o5 n5 hxl' hxb'
    rintro H5 ⟨hF5, hT5, r5, hS5⟩
    obtain ⟨vl', vb', _, _, hE, _, hxl', hxb'⟩ := RWd.five r5
    simp only [List.cons.injEq, true_and, and_true] at hE
    obtain ⟨rfl, rfl⟩ := hE
    have b2 := (hR.s (j + 1) (by omega)).2.1
    have b3 := (hR.s (j + 1) (by omega)).2.2
    obtain ⟨ap1, cp1, hv1⟩ := hxl'.form
    obtain ⟨ap2, cp2, hv2⟩ := hxb'.form
    rw [b3] at hv1
    rw [b2] at hv2
    subst hv1
    subst hv2
    have t0 : CF H5 T 0 (iv 0) := CF.of hT5 rfl rfl
    have t1 : CF H5 T 1 (.bool (wj (j + 1)).ok) := CF.of hT5 rfl rfl
    have t2 : CF H5 T 2 (.bool (wj (j + 1)).book.ok) := CF.of hT5 rfl rfl
    have t3 : CF H5 T 3 (iv (wj (j + 1)).book.sec) := CF.of hT5 rfl rfl
    have t4 : CF H5 T 4 (.slice ap1 2 cp1) := CF.of hT5 rfl rfl
    have t5 : CF H5 T 5 (.slice ap2 2 cp2) := CF.of hT5 rfl rfl
    have v0 : CF H5 X 0 (.bool (wj j).ok) := CF.of hF5.x rfl rfl
    have v1 : CF H5 X 1 (.bool (wj j).book.ok) := CF.of hF5.x rfl rfl
    have v2 : CF H5 X 2 (iv (wj j).book.sec) := CF.of hF5.x rfl rfl
    have v3 : CF H5 X 3 pl := CF.of hF5.x rfl rfl
    have v4 : CF H5 X 4 pb := CF.of hF5.x rfl rfl
    have vr : RF H5 X := RF.of hF5.x
    have hwj : IntKind.i64.wrap ((j : Int) + 1) = (j : Int) + 1 := wrap_id (by omega) (by omega)
    repeat (first | refine sA ?_ | refine sB ?_ | refine sC ?_ | refine sD ?_ | refine sE rfl ?_ | refine sF rfl ?_ | refine sG rfl ?_ | ((first | refine sk_reg fun K hK => ?_ | refine sk_drw mix fun K hK => ?_); simp [t0.s, t1.s, t2.s, t3.s, t4.s, t5.s, v0.s, v1.s, v2.s, v3.s, v4.s, vr.s, hXl, wX, hwj]; refine hK _ ?_; clear hK K))
    refine sk_inv ⟨5 - (j + 1), _, by omega, ?_, j + 1, _, _, _, [], by omega, rfl, hF5.put r5 fun e he => by have := n5' e he; omega, fun e he => by have := n5' e he; omega, ⟨_, _, _, _, _, _, (putW_ne (Ne.symm hXT)).trans hT5⟩, (putW_ne (by omega)).trans hS5, rfl⟩
    simp [subL, getT]
  obtain rfl : j = 5 := by omega
  have yr : RF H4 (X + 1) := RF.of hF4.y
  have wY : ∀ n, H.length ≤ X + 1 + n := fun n => by omega
  have wY0 : H.length ≤ X + 1 := by omega
  have yci : CF H4 (X + 1) i (iv (a i)) := by
    have : i = 0 ∨ i = 1 := by omega
    rcases this with rfl | rfl
    · exact CF.of hF4.y rfl rfl
    · exact CF.of hF4.y rfl rfl
  repeat (first | refine sA ?_ | refine sB ?_ | refine sC ?_ | refine sD ?_ | refine sE rfl ?_ | refine sF rfl ?_ | refine sG rfl ?_ | ((first | refine sk_reg fun K hK => ?_ | refine sk_drw mix fun K hK => ?_); simp; refine hK _ ?_; clear hK K))
  refine sk_reg fun K hK => ?_; simp [yr.s, yci.s, hiz, wY, wY0, hl4]
  refine hK _ ?_; clear hK K
  have hcase : (i = 0 ∨ i = 1) := by omega
  refine sk_at [(0, .slice a1 bs.length c1), (3, iv N), (4, pt X 0), (5, sl (X + 1) 0 2), (6, iv k), (7, iv i), (8, iv nx)]
    (fun H5 => TwF H X (X + 1) (wj 5) (upd a i nx) H5 pl pb Eb4) (by simp [subL, getT]) ?_ ?_
  · have hne : ∀ e, e ≠ X + 1 → (H4.put (X + 1) i (iv nx))[e]? = H4[e]? := fun e he => get_put_ne _ _ _ he
    refine ⟨Gro.of (by rw [length_put]; exact hl4) fun j hj => (hne j (by omega)).trans (hF4.g.same hj), (hne X (by omega)).trans hF4.x, ?_, RWd.frm.fr hF4.rb fun e he _ => hne e (hF4.nb e he).2, hF4.nb, hF4.hx, hF4.hy⟩
    rw [get_put, hF4.y]
    rcases hcase with rfl | rfl <;> simp [upd]
  clear v0 v1 v2 v3 v4 hxl' hxb' yr yci
  rintro H5 hF5
  have hl5 := hF5.g.len
  have hz5 : ∀ n, H.length ≤ H5.length + n := fun n => by omega
  have v0 : CF H5 X 0 (.bool (wj 5).ok) := CF.of hF5.x rfl rfl
  have v1 : CF H5 X 1 (.bool (wj 5).book.ok) := CF.of hF5.x rfl rfl
  have v2 : CF H5 X 2 (iv (wj 5).book.sec) := CF.of hF5.x rfl rfl
  have v3 : CF H5 X 3 pl := CF.of hF5.x rfl rfl
  have v4 : CF H5 X 4 pb := CF.of hF5.x rfl rfl
  have hIe := hR.e
  have hui : upd a i nx i = nx := by simp [upd]
  have hon : (onW (wj 5) nx).length = 1 := by have := hIe.on hi2; rwa [hui] at this
  have hok := (rightB_all hIe.r).2.1
  have how : ownerB (wj 5).book nx = i := by
    unfold ownerB
    rw [if_pos hok, hIe.own nx]
    have hap5 := hIe.apart
    rcases hcase with rfl | rfl
    · rw [hui, if_pos rfl]; rfl
    · rw [hui] at hap5 ⊢
      rw [if_neg (fun hh => hap5 hh.symm), if_pos rfl]; rfl
  obtain ⟨vl', vb', E5, _, hE, _, hxl', hxb'⟩ := RWd.five hF5.rb
  simp only [List.cons.injEq, true_and, and_true] at hE
  obtain ⟨rfl, rfl⟩ := hE
  have rbk : RBk H5 E5 (wj 5).book [.bool (wj 5).book.ok, iv (wj 5).book.sec, pl] := ⟨_, rfl, hxl'⟩
  refine sk_seq ?_
  refine sk_reg fun K hK => ?_; simp [v0.s, v1.s, v2.s, v3.s, v4.s, xp, xq, hl5, hz5]
  refine AskX.mkr (implOn_mk (RWd.frm.gro hF5.rb (by first | exact Gro.refl _ | exact ⟨_, rfl⟩ | exact ⟨_, by simp only [List.append_assoc, List.cons_append, List.nil_append]; rfl⟩ | exact ⟨[], by simp⟩)) nx) ?_; rintro u9 J9 A9 r9 o9 n9; simp [xp, xq, hl5, hz5, v0.s, v1.s, v2.s, v3.s, v4.s]
  obtain ⟨a9, c9, rfl⟩ := r9.form
  rw [hon]
  simp [xp, xq, hl5, hz5, v0.s, v1.s, v2.s, v3.s, v4.s]
  refine AskX.go (implOwner_ac (RBk.frm.gro rbk (by first | exact Gro.refl _ | exact ⟨_, rfl⟩ | exact ⟨_, by simp only [List.append_assoc, List.cons_append, List.nil_append]; rfl⟩ | exact ⟨[], by simp⟩)) nx) ?_; simp [how, xp, xq, hl5, hz5, v0.s, v1.s, v2.s, v3.s, v4.s]
  refine hK _ ?_; clear hK K
  repeat (first | refine sA ?_ | refine sB ?_ | refine sC ?_ | refine sD ?_ | refine sE rfl ?_ | refine sF rfl ?_ | refine sG rfl ?_ | ((first | refine sk_reg fun K hK => ?_ | refine sk_drw mix fun K hK => ?_); simp [hw3]; refine hK _ ?_; clear hK K))
  refine sk_inv ⟨40 - (k + 1), _, by omega, ?_, k + 1, _, _, _, _, _, _, _, by omega, rfl, hIe, hF5.gro (by first | exact Gro.refl _ | exact ⟨_, rfl⟩ | exact ⟨_, by simp only [List.append_assoc, List.cons_append, List.nil_append]; rfl⟩ | exact ⟨[], by simp⟩), rfl⟩
  simp [subL, getT]
end Go.Proofs.Ytpoedfmkiiijnaa
