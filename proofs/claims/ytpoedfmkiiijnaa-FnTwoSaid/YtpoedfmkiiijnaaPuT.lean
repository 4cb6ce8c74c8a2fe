/- Two trains on a ring, over plain data. Plain definitions and lemmas; no program in sight. -/
import Derived.Test.YtpoedfmkiiijnaaPu7
namespace Go.Proofs.YtpoedfmkiiijnaaAm
set_option linter.unusedVariables false
set_option linter.unusedSimpArgs false
set_option linter.unusedSectionVars false
theorem settle_m1 {l : Ln} (h : l.drop = -1) : settleL l = l := by unfold settleL; rw [if_pos h]
theorem bookW_eq {w : Wd} {k : Nat} {e : Evt} {l' : Ln} (hl : k < w.book.lines.length) (ht : e.train = k) (hev : evOkB w.book e = true) (he : evLn w.book.lines w.book.lines[k] e = (0, l')) (hd : l'.drop = -1) :
    bookW w e = ⟨0, { w with book := { w.book with lines := w.book.lines.set k l' } }⟩ := by
  have hln : lnAt w.book ((k : Nat) : Int) = w.book.lines[k] := by simp [lnAt, hl]
  have hd : doB w.book e = ⟨0, { w.book with lines := w.book.lines.set k l' }⟩ := by
    unfold doB
    rw [if_pos hev]
    unfold doV
    rw [ht]
    simp only [hln, he, if_true, Int.toNat_natCast, settle_m1 hd]
  unfold bookW
  rw [hd]
  rfl
theorem evOk_w {w : Wd} {k : Nat} {e : Evt} (hr : rightB w = true) (hl : k < w.book.lines.length) (ht : e.train = k) (ho : 1 ≤ e.op ∧ e.op ≤ 5) (hn : if e.op = 1 then 0 ≤ e.n ∧ e.n ≤ w.book.sec - 1 else 0 ≤ e.n ∧ e.n ≤ 1000000) : evOkB w.book e = true := by
  obtain ⟨_, h2, _, _⟩ := rightB_all hr
  unfold evOkB
  rw [h2]
  simp only [inB, Bool.and_eq_true, decide_eq_true_eq, decide_true, true_and]
  refine ⟨ho, by omega, ?_⟩
  split
  · rename_i h1; rw [if_pos h1] at hn; simp only [Bool.and_eq_true, decide_eq_true_eq]; exact hn
  · rename_i h1; rw [if_neg h1] at hn; simp only [Bool.and_eq_true, decide_eq_true_eq]; exact hn
theorem act_w {w : Wd} {k : Nat} {a : Actn} (hr : rightB w = true) (hk : k < w.bodies.length) (ht : a.train = k) (ho : 1 ≤ a.op ∧ a.op ≤ 5) : stepWd w a = stepV w a := by
  unfold stepWd
  rw [if_pos]
  simp only [actOk, hr, inB, Bool.true_and, Bool.and_eq_true, decide_eq_true_eq]
  omega
section
variable {w : Wd} {k : Nat} {g v a nx : Int} (hr : rightB w = true) (hk : k < w.bodies.length) (hl : k < w.book.lines.length)
theorem lnAt_k (hl : k < w.book.lines.length) : lnAt w.book ((k : Nat) : Int) = w.book.lines[k] := by simp [lnAt, hl]
theorem bdAt_k (hk : k < w.bodies.length) : bdAt w ((k : Nat) : Int) = w.bodies[k] := by simp [bdAt, bAt, hk]
include hr hk hl in
/-- The next section is asked for. -/
theorem two_add (hL : w.book.lines[k] = ⟨g, [a], [⟨v, g + 1⟩], -1⟩) (hg : 0 ≤ g ∧ g ≤ 1000) (hnx : 0 ≤ nx ∧ nx ≤ w.book.sec - 1) (ho : ownB w.book.lines nx < 0) :
    stepWd w ⟨1, ⟨1, k, nx⟩, k, 0⟩ = ⟨0, { w with book := { w.book with lines := w.book.lines.set k ⟨g, [a, nx], [⟨v, g + 1⟩], -1⟩ } }⟩ := by
  rw [act_w hr hk rfl (by simp)]
  unfold stepV
  simp only
  rw [if_pos trivial, if_neg (by omega)]
  refine bookW_eq hl rfl (evOk_w hr hl rfl (by simp) (by simpa using hnx)) ?_ rfl
  rw [hL]
  unfold evLn
  simp only
  rw [if_pos trivial, if_neg (by omega), if_neg (by simp), if_neg ?_]
  · rfl
  · simp only [totL, List.length_cons, List.length_nil]; omega
include hr hk hl in
/-- It is the other one's. -/
theorem two_no (hnx : 0 ≤ nx ∧ nx ≤ w.book.sec - 1) (ho : 0 ≤ ownB w.book.lines nx) : (stepWd w ⟨1, ⟨1, k, nx⟩, k, 0⟩).code = 2 ∧ (stepWd w ⟨1, ⟨1, k, nx⟩, k, 0⟩).world.bodies = w.bodies := by
  rw [act_w hr hk rfl (by simp)]
  unfold stepV
  simp only
  rw [if_pos trivial, if_neg (by omega)]
  have hev : evOkB w.book ⟨1, k, nx⟩ = true := evOk_w hr hl rfl (by simp) (by simpa using hnx)
  have hd : (doB w.book ⟨1, k, nx⟩).code = 2 := by
    unfold doB
    rw [if_pos hev]
    unfold doV evLn
    simp only
    rw [if_pos trivial, if_pos ho]
    rfl
  unfold bookW
  rw [if_neg (by rw [hd]; decide)]
  exact ⟨hd, rfl⟩
include hr hk hl in
/-- A leash is sent. -/
theorem two_end (hL : w.book.lines[k] = ⟨g, [a, nx], [⟨v, g + 1⟩], -1⟩) (hg : 0 ≤ g ∧ g ≤ 1000) (hv : 0 ≤ v ∧ v ≤ 1000) :
    stepWd w ⟨1, ⟨2, k, g + 2⟩, k, 0⟩ = ⟨0, { w with book := { w.book with lines := w.book.lines.set k ⟨g, [a, nx], [⟨v, g + 1⟩, ⟨v + 1, g + 2⟩], -1⟩ } }⟩ := by
  rw [act_w hr hk rfl (by simp)]
  unfold stepV
  simp only
  rw [if_pos trivial, if_neg (by omega)]
  refine bookW_eq hl rfl (evOk_w hr hl rfl (by simp) (by simp; omega)) ?_ rfl
  rw [hL]
  unfold evLn
  simp only
  rw [if_neg (by decide), if_pos trivial, if_neg ?_, if_neg ?_]
  · rfl
  · simp [lastG, gAt]; omega
  · simp [totL]; omega
include hr hk hl in
/-- It is taken. -/
theorem two_take (hL : w.book.lines[k] = ⟨g, [a, nx], [⟨v, g + 1⟩, ⟨v + 1, g + 2⟩], -1⟩) (hX : w.bodies[k] = ⟨v, g + 1, g, g⟩) :
    stepWd w ⟨2, ⟨0, 0, 0⟩, k, v + 1⟩ = ⟨0, { w with bodies := w.bodies.set k ⟨v + 1, g + 2, g, g⟩ }⟩ := by
  rw [act_w hr hk rfl (by simp)]
  unfold stepV
  simp only
  rw [lnAt_k hl, bdAt_k hk, hL, hX, if_neg (by decide), if_pos trivial]
  have hf : fstI (hasV (v + 1)) ([⟨v, g + 1⟩, ⟨v + 1, g + 2⟩] : List Gr) = 1 := fstI_some (i := 1) (by simp) (by simp [hasV]) (fun j hj => by
    obtain rfl : j = 0 := by omega
    simp [hasV]; omega)
  simp only [hf]
  rw [if_neg (by omega), if_neg ?_]
  · simp [setBd, gAt]
  · simp [gAt]; omega
include hr hk hl in
/-- It is told. -/
theorem two_tell (hL : w.book.lines[k] = ⟨g, [a, nx], [⟨v, g + 1⟩, ⟨v + 1, g + 2⟩], -1⟩) (hX : w.bodies[k] = ⟨v + 1, g + 2, g, g⟩) (hg : 0 ≤ g ∧ g ≤ 1000) (hv : 0 ≤ v ∧ v ≤ 1000) :
    stepWd w ⟨3, ⟨0, 0, 0⟩, k, 0⟩ = ⟨0, { w with book := { w.book with lines := w.book.lines.set k ⟨g, [a, nx], [⟨v + 1, g + 2⟩], -1⟩ } }⟩ := by
  rw [act_w hr hk rfl (by simp)]
  unfold stepV
  simp only
  rw [bdAt_k hk, hX, if_neg (by decide), if_neg (by decide), if_pos trivial]
  refine bookW_eq hl rfl (evOk_w hr hl rfl (by simp) (by simp; omega)) ?_ rfl
  rw [hL]
  have hf : fstI (hasV (v + 1)) ([⟨v, g + 1⟩, ⟨v + 1, g + 2⟩] : List Gr) = 1 := fstI_some (i := 1) (by simp) (by simp [hasV]) (fun j hj => by
    obtain rfl : j = 0 := by omega
    simp [hasV]; omega)
  unfold evLn
  simp only [hf]
  rw [if_neg (by decide), if_neg (by decide), if_pos trivial, if_neg (by decide), if_neg ?_]
  · rfl
  · simp [reachL, maxI]; split <;> omega
include hr hk hl in
/-- The front moves. -/
theorem two_move (hX : w.bodies[k] = ⟨v + 1, g + 2, g, g⟩) : stepWd w ⟨4, ⟨0, 0, 0⟩, k, 0⟩ = ⟨0, { w with bodies := w.bodies.set k ⟨v + 1, g + 2, g, g + 1⟩ }⟩ := by
  rw [act_w hr hk rfl (by simp)]
  unfold stepV
  simp only
  rw [bdAt_k hk, hX, if_neg (by decide), if_neg (by decide), if_neg (by decide), if_pos trivial]
  simp only
  rw [if_neg (by omega)]
  simp [setBd]
include hr hk hl in
/-- The tail follows. -/
theorem two_tail (hL : w.book.lines[k] = ⟨g, [a, nx], [⟨v + 1, g + 2⟩], -1⟩) (hX : w.bodies[k] = ⟨v + 1, g + 2, g, g + 1⟩) (hg : 0 ≤ g ∧ g ≤ 1000) (hv : 0 ≤ v ∧ v ≤ 1000) :
    stepWd w ⟨5, ⟨0, 0, 0⟩, k, 0⟩ = ⟨0, { w with book := { w.book with lines := w.book.lines.set k ⟨g + 1, [nx], [⟨v + 1, g + 2⟩], -1⟩ }, bodies := w.bodies.set k ⟨v + 1, g + 2, g + 1, g + 1⟩ }⟩ := by
  rw [act_w hr hk rfl (by simp)]
  unfold stepV
  simp only
  rw [bdAt_k hk, hX, if_neg (by decide), if_neg (by decide), if_neg (by decide), if_neg (by decide)]
  simp only
  rw [if_neg (by omega)]
  have hev : evOkB w.book ⟨4, k, g + 1⟩ = true := evOk_w hr hl rfl (by simp) (by simp; omega)
  have he : evLn w.book.lines w.book.lines[k] ⟨4, k, g + 1⟩ = (0, ⟨g + 1, [nx], [⟨v + 1, g + 2⟩], -1⟩) := by
    rw [hL]
    unfold evLn
    simp only
    rw [if_neg (by decide), if_neg (by decide), if_neg (by decide), if_pos trivial, if_neg ?_]
    · rw [show (g + 1 - g).toNat = 1 by omega]
      rfl
    · simp [reachL, maxI]; split <;> omega
  have := bookW_eq (w := setBd w (k : Int) ⟨v + 1, g + 2, g + 1, g + 1⟩) (e := ⟨4, k, g + 1⟩) hl rfl hev he rfl
  rw [this]
  simp [setBd]
end
/-- What is so between two rounds. -/
structure TwI (n : Nat) (b : Int) (w : Wd) (g v a : Nat → Int) : Prop where
  r : rightB w = true
  s : w.book.sec = n
  bl : w.bodies.length = 2
  l : ∀ k (hk : k < w.book.lines.length), w.book.lines[k] = ⟨g k, [a k], [⟨v k, g k + 1⟩], -1⟩
  x : ∀ k (hk : k < w.bodies.length), w.bodies[k] = ⟨v k, g k + 1, g k, g k⟩
  gb : ∀ k, k < 2 → 0 ≤ g k ∧ g k ≤ b ∧ 0 ≤ v k ∧ v k ≤ b
theorem TwI.ll {n : Nat} {b : Int} {w : Wd} {g v a : Nat → Int} (h : TwI n b w g v a) : w.book.lines.length = 2 := by
  obtain ⟨_, _, h3, _⟩ := rightB_all h.r
  have := h.bl
  omega
def upd (f : Nat → Int) (i : Nat) (x : Int) : Nat → Int := fun k => if k = i then x else f k
/-- The worlds of a round. -/
structure TwR (n : Nat) (b : Int) (w : Wd) (g v a : Nat → Int) (i : Nat) (nx : Int) (wj : Nat → Wd) : Prop where
  w0 : stepWd w ⟨1, ⟨1, i, nx⟩, i, 0⟩ = ⟨0, wj 0⟩
  s : ∀ j, j ≤ 5 → rightB (wj j) = true ∧ (wj j).bodies.length = 2 ∧ (wj j).book.lines.length = 2
  l0 : ∀ hk, (wj 0).book.lines[i]'hk = ⟨g i, [a i, nx], [⟨v i, g i + 1⟩], -1⟩
  x0 : ∀ hk, (wj 0).bodies[i]'hk = ⟨v i, g i + 1, g i, g i⟩
  s1 : stepWd (wj 0) ⟨1, ⟨2, i, g i + 2⟩, i, 0⟩ = ⟨0, wj 1⟩
  s2 : stepWd (wj 1) ⟨2, ⟨0, 0, 0⟩, i, v i + 1⟩ = ⟨0, wj 2⟩
  s3 : stepWd (wj 2) ⟨3, ⟨0, 0, 0⟩, i, 0⟩ = ⟨0, wj 3⟩
  s4 : stepWd (wj 3) ⟨4, ⟨0, 0, 0⟩, i, 0⟩ = ⟨0, wj 4⟩
  s5 : stepWd (wj 4) ⟨5, ⟨0, 0, 0⟩, i, 0⟩ = ⟨0, wj 5⟩
  e : TwI n (b + 1) (wj 5) (upd g i (g i + 1)) (upd v i (v i + 1)) (upd a i nx)
theorem TwI.round {n : Nat} {b : Int} {w : Wd} {g v a : Nat → Int} (h : TwI n b w g v a) (hb : b ≤ 100) {i : Nat} (hi : i < 2) {nx : Int} (hnx : 0 ≤ nx ∧ nx ≤ (n : Int) - 1) (ho : ownB w.book.lines nx < 0) : ∃ wj, TwR n b w g v a i nx wj := by
  have hll := h.ll
  have hbl := h.bl
  have hg := h.gb i hi
  have hr := h.r
  have k1 : i < w.bodies.length := by omega
  have k2 : i < w.book.lines.length := by omega
  have hL := h.l i k2
  have hX := h.x i k1
  have hs := h.s
  have e0 := two_add (a := a i) (v := v i) (g := g i) (nx := nx) hr k1 k2 hL (by omega) (by omega) ho
  have r0 := stepWd_ok (w := w) (a := ⟨1, ⟨1, i, nx⟩, i, 0⟩) (by rw [e0]; simp)
  rw [e0] at r0
  generalize hw0 : ({ w with book := { w.book with lines := w.book.lines.set i ⟨g i, [a i, nx], [⟨v i, g i + 1⟩], -1⟩ } } : Wd) = w0 at e0 r0
  simp only at r0
  have b0 : w0.bodies = w.bodies := by rw [← hw0]
  have l0 : w0.book.lines = w.book.lines.set i ⟨g i, [a i, nx], [⟨v i, g i + 1⟩], -1⟩ := by rw [← hw0]
  have c0 : w0.book.sec = w.book.sec := by rw [← hw0]
  have m0 : i < w0.bodies.length := by rw [b0]; omega
  have n0 : i < w0.book.lines.length := by rw [l0]; simp; omega
  have L0 : w0.book.lines[i] = ⟨g i, [a i, nx], [⟨v i, g i + 1⟩], -1⟩ := by simp [l0]
  have X0 : w0.bodies[i] = ⟨v i, g i + 1, g i, g i⟩ := by simp [b0, hX]
  have e1 := two_end r0 m0 n0 L0 (by omega) (by omega)
  have r1 := stepWd_ok (w := w0) (a := ⟨1, ⟨2, i, g i + 2⟩, i, 0⟩) (by rw [e1]; simp)
  rw [e1] at r1
  generalize hw1 : ({ w0 with book := { w0.book with lines := w0.book.lines.set i ⟨g i, [a i, nx], [⟨v i, g i + 1⟩, ⟨v i + 1, g i + 2⟩], -1⟩ } } : Wd) = w1 at e1 r1
  simp only at r1
  have b1 : w1.bodies = w.bodies := by rw [← hw1]; exact b0
  have l1 : w1.book.lines = w.book.lines.set i ⟨g i, [a i, nx], [⟨v i, g i + 1⟩, ⟨v i + 1, g i + 2⟩], -1⟩ := by rw [← hw1]; simp [l0]
  have c1 : w1.book.sec = w.book.sec := by rw [← hw1]; exact c0
  have m1 : i < w1.bodies.length := by rw [b1]; omega
  have n1 : i < w1.book.lines.length := by rw [l1]; simp; omega
  have L1 : w1.book.lines[i] = ⟨g i, [a i, nx], [⟨v i, g i + 1⟩, ⟨v i + 1, g i + 2⟩], -1⟩ := by simp [l1]
  have X1 : w1.bodies[i] = ⟨v i, g i + 1, g i, g i⟩ := by simp [b1, hX]
  have e2 := two_take r1 m1 n1 L1 X1
  have r2 := stepWd_ok (w := w1) (a := ⟨2, ⟨0, 0, 0⟩, i, v i + 1⟩) (by rw [e2]; simp)
  rw [e2] at r2
  generalize hw2 : ({ w1 with bodies := w1.bodies.set i ⟨v i + 1, g i + 2, g i, g i⟩ } : Wd) = w2 at e2 r2
  simp only at r2
  have b2 : w2.bodies = w.bodies.set i ⟨v i + 1, g i + 2, g i, g i⟩ := by rw [← hw2]; simp [b1]
  have l2 : w2.book.lines = w.book.lines.set i ⟨g i, [a i, nx], [⟨v i, g i + 1⟩, ⟨v i + 1, g i + 2⟩], -1⟩ := by rw [← hw2]; exact l1
  have c2 : w2.book.sec = w.book.sec := by rw [← hw2]; exact c1
  have m2 : i < w2.bodies.length := by rw [b2]; simp; omega
  have n2 : i < w2.book.lines.length := by rw [l2]; simp; omega
  have L2 : w2.book.lines[i] = ⟨g i, [a i, nx], [⟨v i, g i + 1⟩, ⟨v i + 1, g i + 2⟩], -1⟩ := by simp [l2]
  have X2 : w2.bodies[i] = ⟨v i + 1, g i + 2, g i, g i⟩ := by simp [b2]
  have e3 := two_tell r2 m2 n2 L2 X2 (by omega) (by omega)
  have r3 := stepWd_ok (w := w2) (a := ⟨3, ⟨0, 0, 0⟩, i, 0⟩) (by rw [e3]; simp)
  rw [e3] at r3
  generalize hw3 : ({ w2 with book := { w2.book with lines := w2.book.lines.set i ⟨g i, [a i, nx], [⟨v i + 1, g i + 2⟩], -1⟩ } } : Wd) = w3 at e3 r3
  simp only at r3
  have b3 : w3.bodies = w.bodies.set i ⟨v i + 1, g i + 2, g i, g i⟩ := by rw [← hw3]; exact b2
  have l3 : w3.book.lines = w.book.lines.set i ⟨g i, [a i, nx], [⟨v i + 1, g i + 2⟩], -1⟩ := by rw [← hw3]; simp [l2]
  have c3 : w3.book.sec = w.book.sec := by rw [← hw3]; exact c2
  have m3 : i < w3.bodies.length := by rw [b3]; simp; omega
  have n3 : i < w3.book.lines.length := by rw [l3]; simp; omega
  have L3 : w3.book.lines[i] = ⟨g i, [a i, nx], [⟨v i + 1, g i + 2⟩], -1⟩ := by simp [l3]
  have X3 : w3.bodies[i] = ⟨v i + 1, g i + 2, g i, g i⟩ := by simp [b3]
  have e4 := two_move r3 m3 n3 X3
  have r4 := stepWd_ok (w := w3) (a := ⟨4, ⟨0, 0, 0⟩, i, 0⟩) (by rw [e4]; simp)
  rw [e4] at r4
  generalize hw4 : ({ w3 with bodies := w3.bodies.set i ⟨v i + 1, g i + 2, g i, g i + 1⟩ } : Wd) = w4 at e4 r4
  simp only at r4
  have b4 : w4.bodies = w.bodies.set i ⟨v i + 1, g i + 2, g i, g i + 1⟩ := by rw [← hw4]; simp [b3]
  have l4 : w4.book.lines = w.book.lines.set i ⟨g i, [a i, nx], [⟨v i + 1, g i + 2⟩], -1⟩ := by rw [← hw4]; exact l3
  have c4 : w4.book.sec = w.book.sec := by rw [← hw4]; exact c3
  have m4 : i < w4.bodies.length := by rw [b4]; simp; omega
  have n4 : i < w4.book.lines.length := by rw [l4]; simp; omega
  have L4 : w4.book.lines[i] = ⟨g i, [a i, nx], [⟨v i + 1, g i + 2⟩], -1⟩ := by simp [l4]
  have X4 : w4.bodies[i] = ⟨v i + 1, g i + 2, g i, g i + 1⟩ := by simp [b4]
  have e5 := two_tail r4 m4 n4 L4 X4 (by omega) (by omega)
  have r5 := stepWd_ok (w := w4) (a := ⟨5, ⟨0, 0, 0⟩, i, 0⟩) (by rw [e5]; simp)
  rw [e5] at r5
  generalize hw5 : ({ w4 with book := { w4.book with lines := w4.book.lines.set i ⟨g i + 1, [nx], [⟨v i + 1, g i + 2⟩], -1⟩ }, bodies := w4.bodies.set i ⟨v i + 1, g i + 2, g i + 1, g i + 1⟩ } : Wd) = w5 at e5 r5
  simp only at r5
  have b5 : w5.bodies = w.bodies.set i ⟨v i + 1, g i + 2, g i + 1, g i + 1⟩ := by rw [← hw5]; simp [b4]
  have l5 : w5.book.lines = w.book.lines.set i ⟨g i + 1, [nx], [⟨v i + 1, g i + 2⟩], -1⟩ := by rw [← hw5]; simp [l4]
  have c5 : w5.book.sec = w.book.sec := by rw [← hw5]; exact c4
  refine ⟨fun j => match j with | 0 => w0 | 1 => w1 | 2 => w2 | 3 => w3 | 4 => w4 | _ => w5, e0, fun j hj => ?_, fun _ => L0, fun _ => X0, e1, e2, e3, e4, e5, ?_⟩
  · have : j = 0 ∨ j = 1 ∨ j = 2 ∨ j = 3 ∨ j = 4 ∨ j = 5 := by omega
    rcases this with rfl | rfl | rfl | rfl | rfl | rfl
    · exact ⟨r0, by simp [b0, hbl], by simp [l0, hll]⟩
    · exact ⟨r1, by simp [b1, hbl], by simp [l1, hll]⟩
    · exact ⟨r2, by simp [b2, hbl], by simp [l2, hll]⟩
    · exact ⟨r3, by simp [b3, hbl], by simp [l3, hll]⟩
    · exact ⟨r4, by simp [b4, hbl], by simp [l4, hll]⟩
    · exact ⟨r5, by simp [b5, hbl], by simp [l5, hll]⟩
  · refine ⟨r5, by show w5.book.sec = _; rw [c5, hs], by show w5.bodies.length = 2; simp [b5, hbl], fun k hk => ?_, fun k hk => ?_, fun k hk => ?_⟩
    · show w5.book.lines[k] = _
      simp only [l5, List.getElem_set, upd]
      by_cases e : i = k
      · subst e; simp; omega
      · have e' : ¬ k = i := fun hh => e hh.symm
        simp only [e, e', if_false]
        exact h.l k (by have : k < w5.book.lines.length := hk; rw [l5] at this; simpa using this)
    · show w5.bodies[k] = _
      simp only [b5, List.getElem_set, upd]
      by_cases e : i = k
      · subst e; simp; omega
      · have e' : ¬ k = i := fun hh => e hh.symm
        simp only [e, e', if_false]
        exact h.x k (by have : k < w5.bodies.length := hk; rw [b5] at this; simpa using this)
    · have := h.gb k hk
      simp only [upd]
      split <;> omega
/-- In whose way a section is. -/
theorem TwI.own {n : Nat} {b : Int} {w : Wd} {g v a : Nat → Int} (h : TwI n b w g v a) (s : Int) : ownB w.book.lines s = if s = a 0 then 0 else if s = a 1 then 1 else -1 := by
  have hll := h.ll
  have h0 := h.l 0 (by omega)
  have h1 := h.l 1 (by omega)
  unfold ownB
  split
  · rename_i e
    exact fstI_some (i := 0) (by omega) (by simp [h0, inWay, e]) fun j hj => by omega
  · rename_i e
    split
    · rename_i e1
      exact fstI_some (i := 1) (by omega) (by simp [h1, inWay, e1]) fun j hj => by
        obtain rfl : j = 0 := by omega
        simp [h0, inWay, e]
    · rename_i e1
      refine fstI_none fun j hj => ?_
      have : j = 0 ∨ j = 1 := by omega
      rcases this with rfl | rfl
      · simp [h0, inWay, e]
      · simp [h1, inWay, e1]
theorem TwI.rng {n : Nat} {b : Int} {w : Wd} {g v a : Nat → Int} (h : TwI n b w g v a) {k : Nat} (hk : k < 2) : 0 ≤ a k ∧ a k ≤ (n : Int) - 1 := by
  have hll := h.ll
  obtain ⟨_, h2, _, _⟩ := rightB_all h.r
  obtain ⟨_, o2, _, _, _⟩ := bookOk_all h2
  have := all_at o2 (i := k) (by omega)
  rw [h.l k (by omega)] at this
  simp only [ok2, inB, Bool.and_eq_true, decide_eq_true_eq, List.all_eq_true] at this
  have h3 := this.2 (a k) (by simp)
  rw [h.s] at h3
  exact h3
theorem TwI.apart {n : Nat} {b : Int} {w : Wd} {g v a : Nat → Int} (h : TwI n b w g v a) : a 0 ≠ a 1 := by
  have hll := h.ll
  obtain ⟨_, h2, _, _⟩ := rightB_all h.r
  obtain ⟨_, _, _, _, o5⟩ := bookOk_all h2
  have h0 := h.l 0 (by omega)
  have h1 := h.l 1 (by omega)
  have e : w.book.lines = [w.book.lines[0], w.book.lines[1]] := by
    apply List.ext_getElem
    · simp [hll]
    · intro i h1 h2
      have : i = 0 ∨ i = 1 := by omega
      rcases this with rfl | rfl <;> simp
  rw [e, h0, h1] at o5
  simp [secs] at o5
  exact fun hh => o5 hh
/-- Who is on a section. -/
theorem TwI.on {n : Nat} {b : Int} {w : Wd} {g v a : Nat → Int} (h : TwI n b w g v a) {i : Nat} (hi : i < 2) : (onW w (a i)).length = 1 := by
  have hll := h.ll
  have hbl := h.bl
  have hap := h.apart
  unfold onW
  rw [if_pos h.r, hbl]
  have ex : ∀ k, k < 2 → onX (lAt w.book.lines k) (bAt w.bodies k) (a i) (k : Nat) = if a k = a i then [(k : Int)] else [] := fun k hk => by
    rw [lAt_eq (show k < w.book.lines.length by omega), bAt_eq (show k < w.bodies.length by omega), h.l k (by omega), h.x k (by omega)]
    rw [onX_eq (b := 0) (m := 0) (by simp) (by simp)]
    simp [onC]
  have e0 := ex 0 (by omega)
  have e1 := ex 1 (by omega)
  have : i = 0 ∨ i = 1 := by omega
  simp only [onN, e0, e1, List.nil_append]
  rcases this with rfl | rfl
  · rw [if_pos rfl, if_neg (fun hh => hap hh.symm)]; rfl
  · rw [if_neg hap, if_pos rfl]; rfl
theorem TwI.start {n : Nat} {c : Int} (hn : 3 ≤ n ∧ n ≤ 200) (hc : 1 ≤ c ∧ c ≤ (n : Int) - 1) : TwI n 0 (startW n [0, c]) (fun _ => 0) (fun _ => 0) (fun k => if k = 0 then 0 else c) := by
  have hs : startOk n [0, c] = true := by
    simp only [startOk, inB, List.length_cons, List.length_nil, Bool.and_eq_true, decide_eq_true_eq, List.all_cons, List.all_nil, List.nodup_cons, List.mem_cons, List.not_mem_nil, or_false, not_false_eq_true, List.nodup_nil, and_true, Bool.and_true]
    omega
  have e : startW n [0, c] = wdS n [0, c] := by unfold startW; rw [if_pos hs]
  rw [e]
  refine ⟨wdS_ok hs, rfl, rfl, fun k hk => ?_, fun k hk => ?_, fun k hk => by simp⟩
  · have : k = 0 ∨ k = 1 := by simp [wdS, bkS] at hk; omega
    rcases this with rfl | rfl <;> rfl
  · have : k = 0 ∨ k = 1 := by simp [wdS] at hk; omega
    rcases this with rfl | rfl <;> rfl
end Go.Proofs.YtpoedfmkiiijnaaAm
