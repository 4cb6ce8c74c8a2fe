/- The drawing cursor: next, pick, odd. Walks. -/
import Derived.Test.YtpoedfmkiiijnaaDoorWb
namespace Go.Proofs.YtpoedfmkiiijnaaDoor
open Go Go.RowKit Go.Proofs.YtpoedfmkiiijnaaDoorAm
set_option linter.unusedVariables false
set_option linter.unusedSimpArgs false
set_option maxRecDepth 10000
set_option maxHeartbeats 8000000
/-- Memory grew, and of the old only block C may have changed. -/
structure GC (C : Nat) (H H' : Heap) : Prop where
 l : H.length ≤ H'.length
 s : ∀ i, i < H.length → i ≠ C → H'[i]? = H[i]?
theorem GC.refl (C : Nat) (H : Heap) : GC C H H := ⟨Nat.le_refl _, fun _ _ _ => rfl⟩
theorem GC.trans {C : Nat} {a b c : Heap} (h : GC C a b) (k : GC C b c) : GC C a c := ⟨Nat.le_trans h.l k.l, fun i hi hn => (k.s i (Nat.lt_of_lt_of_le hi h.l) hn).trans (h.s i hi hn)⟩
theorem GC.of {C : Nat} {a b : Heap} (h : Gro a b) : GC C a b := ⟨h.len, fun i hi _ => h.same hi⟩
theorem GC.cf {C : Nat} {H H' : Heap} {id : Nat} {b : Blk} (g : GC C H H') (h : H[id]? = some b) (hn : id ≠ C) : H'[id]? = some b := (g.s id (lt_of_get h) hn).trans h
theorem GC.fr {α : Type} {R : Heap → List Nat → α → List Value → Prop} (hR : Frm R) {C : Nat} {H H' : Heap} {E : List Nat} {x : α} {cs : List Value} (g : GC C H H') (h : R H E x cs) (hn : ∀ e, e ∈ E → e ≠ C) : R H' E x cs := hR.fr h fun i hi hl => g.s i hl (hn i hi)
theorem GC.rs {α : Type} {sz : Nat} {R : Heap → List Nat → α → List Value → Prop} (hR : Frm R) {C : Nat} {H H' : Heap} {E : List Nat} {v : Value} {xs : List α} (g : GC C H H') (h : RS sz R H E v xs) (hn : ∀ e, e ∈ E → e ≠ C) : RS sz R H' E v xs := h.fr hR fun i hi hl => g.s i hl (hn i hi)
/-- The cursor's block. -/
def Cur (bs : List Int) (E : List Nat) (C : Nat) (m : Nat) (H : Heap) : Prop :=
 ∃ (a1 : Option Addr) (c1 t : Nat) (s : Int), H[C]? = some ⟨78, [.slice a1 bs.length c1, iv t, .int .u64 s], true, true⟩ ∧ t ≤ m ∧ RS 1 RBy H E (.slice a1 bs.length c1) bs ∧ ∀ e, e ∈ E → e ≠ C
theorem Cur.lt {bs : List Int} {E : List Nat} {C m : Nat} {H : Heap} (h : Cur bs E C m H) : C < H.length := by
 obtain ⟨_, _, _, _, h, _⟩ := h; exact lt_of_get h
theorem Cur.gro {bs : List Int} {E : List Nat} {C m : Nat} {H H' : Heap} (h : Cur bs E C m H) (g : Gro H H') : Cur bs E C m H' := by
 obtain ⟨a1, c1, t, s, h1, h2, h3, h4⟩ := h
 exact ⟨a1, c1, t, s, (g.same (lt_of_get h1)).trans h1, h2, h3.gro g (RPp.frm _ _), h4⟩
theorem Cur.mono {bs : List Int} {E : List Nat} {C m m' : Nat} {H : Heap} (h : Cur bs E C m H) (hm : m ≤ m') : Cur bs E C m' H := by
 obtain ⟨a1, c1, t, s, h1, h2, h3, h4⟩ := h
 exact ⟨a1, c1, t, s, h1, by omega, h3, h4⟩
/-- What is not the cursor's may change. -/
theorem Cur.same {bs : List Int} {E : List Nat} {C m : Nat} {H H' : Heap} (h : Cur bs E C m H) (hn : ∀ i, i < H.length → H'[i]? = H[i]?) : Cur bs E C m H' := by
 obtain ⟨a1, c1, t, s, h1, h2, h3, h4⟩ := h
 exact ⟨a1, c1, t, s, (hn C (lt_of_get h1)).trans h1, h2, h3.fr (RPp.frm _ _) fun i _ hl => hn i hl, h4⟩
theorem Cur.bd {bs : List Int} {E : List Nat} {C m : Nat} {H : Heap} (h : Cur bs E C m H) : ∀ e, e ∈ E → e < H.length := by
 obtain ⟨a1, c1, t, s, h1, h2, h3, h4⟩ := h; exact h3.bd (RPp.frm _ _)
/-- A block that is not the cursor's changes. -/
theorem Cur.off {bs : List Int} {E : List Nat} {C m : Nat} {H H' : Heap} (h : Cur bs E C m H) (B : Nat) (hB : B ≠ C) (hE : B ∉ E) (hn : ∀ i, i ≠ B → H'[i]? = H[i]?) : Cur bs E C m H' := by
 obtain ⟨a1, c1, t, s, h1, h2, h3, h4⟩ := h
 exact ⟨a1, c1, t, s, (hn C (Ne.symm hB)).trans h1, h2, h3.fr (RPp.frm _ _) fun i hi hl => hn i (fun hh => hE (hh ▸ hi)), h4⟩
/-- A block that was not there changes. -/
theorem GC.off {C : Nat} {H0 H H' : Heap} (g : GC C H0 H) (B : Nat) (hB : H0.length ≤ B) (hl : H.length ≤ H'.length) (hn : ∀ i, i ≠ B → H'[i]? = H[i]?) : GC C H0 H' := ⟨Nat.le_trans g.l hl, fun i hi hc => (hn i (by omega)).trans (g.s i hi hc)⟩
theorem Cur.live {bs : List Int} {E : List Nat} {C m : Nat} {H : Heap} (h : Cur bs E C m H) : H.live C = true := by
 obtain ⟨_, _, _, _, h, _⟩ := h
 simp [Heap.live, h]
def lowB (a : Int) : Int := IntKind.u64.wrap ((BitVec.ofInt IntKind.u64.bits a &&& BitVec.ofInt IntKind.u64.bits 255).toNat : Int)
theorem intA_shr {k : IntKind} {a : Int} : intA .shr .u64 a k 40 = some (.int .u64 (a.fdiv (2 ^ 40))) := by simp [intA, IntKind.bits]
theorem intA_and {a : Int} : intA .and .u64 a .u64 255 = some (.int .u64 (lowB a)) := by simp [intA, lowB]
theorem lowB_rng (a : Int) : 0 ≤ lowB a ∧ lowB a ≤ 255 := by
 have h : (BitVec.ofInt IntKind.u64.bits a &&& BitVec.ofInt IntKind.u64.bits 255).toNat ≤ 255 := by
  rw [BitVec.toNat_and]
  exact Nat.le_trans Nat.and_le_right (by decide)
 unfold lowB
 generalize (BitVec.ofInt IntKind.u64.bits a &&& BitVec.ofInt IntKind.u64.bits 255).toNat = n at h
 have : IntKind.u64.wrap (n : Int) = n := by
  simp [IntKind.wrap, IntKind.bits, IntKind.signed]; omega
 omega
theorem cur_put {H H' : Heap} {bs : List Int} {E : List Nat} {C m t c1 : Nat} {a1 : Option Addr} {s s' : Int} (hb : H[C]? = some ⟨78, [.slice a1 bs.length c1, iv t, .int .u64 s], true, true⟩) (ht : t ≤ m) (hr : RS 1 RBy H E (.slice a1 bs.length c1) bs) (hE : ∀ e, e ∈ E → e ≠ C)
  (hl : H'.length = H.length) (hn : ∀ i, i ≠ C → H'[i]? = H[i]?) (hc : H'[C]? = some ⟨78, [.slice a1 bs.length c1, iv ((t : Int) + 1), .int .u64 s'], true, true⟩) : Cur bs E C (m + 1) H' ∧ GC C H H' :=
 ⟨⟨a1, c1, t + 1, s', hc, by omega, hr.fr (RPp.frm _ _) fun i hi _ => hn i (hE i hi), hE⟩, by omega, fun i _ hi => hn i hi⟩
def B63 : SC := .seq (.reg [⟨some 2, .assign (.const (.int .i64 0)), none, []⟩]) (.seq (.seq (.drw 0 [⟨some 4, .move (.tmp 0), none, []⟩, ⟨some 5, .nilCheck (.tmp 4), none, [0]⟩, ⟨some 6, .fieldAddr 78 (.tmp 5) 1, none, [1, 0]⟩, ⟨some 7, .load 3 (.tmp 6), none, [2, 1, 0]⟩, ⟨some 8, .move (.tmp 0), none, []⟩, ⟨some 9, .nilCheck (.tmp 8), none, [4]⟩, ⟨some 10, .fieldAddr 78 (.tmp 9) 0, none, [5, 4]⟩, ⟨some 11, .load 32 (.tmp 10), none, [6, 5, 4]⟩, ⟨some 12, .call ⟨.builtin .len, #[.tmp 11], #[32]⟩, none, [7, 6, 5, 4]⟩, ⟨some 13, .binOp .lss 3 (.tmp 7) (.tmp 12) 3, none, [3, 2, 1, 0, 8, 7, 6, 5, 4]⟩]) (.cond (.tmp 13) (.seq (.drw 0 [⟨some 14, .move (.tmp 0), none, []⟩, ⟨some 15, .nilCheck (.tmp 14), none, [0]⟩, ⟨some 16, .fieldAddr 78 (.tmp 15) 0, none, [1, 0]⟩, ⟨some 17, .load 32 (.tmp 16), none, [2, 1, 0]⟩, ⟨some 18, .move (.tmp 0), none, []⟩, ⟨some 19, .nilCheck (.tmp 18), none, [4]⟩, ⟨some 20, .fieldAddr 78 (.tmp 19) 1, none, [5, 4]⟩, ⟨some 21, .load 3 (.tmp 20), none, [6, 5, 4]⟩, ⟨some 22, .indexAddr 32 (.tmp 17) (.tmp 21), none, [3, 2, 1, 0, 7, 6, 5, 4]⟩, ⟨some 23, .load 5 (.tmp 22), none, [8, 3, 2, 1, 0, 7, 6, 5, 4]⟩, ⟨some 3, .assign (.tmp 23), none, [9, 8, 3, 2, 1, 0, 7, 6, 5, 4]⟩]) (.seq (.reg [⟨some 24, .move (.tmp 0), none, []⟩, ⟨some 25, .nilCheck (.tmp 24), none, []⟩, ⟨some 26, .fieldAddr 78 (.tmp 25) 1, none, []⟩, ⟨some 27, .load 3 (.tmp 26), none, []⟩, ⟨some 28, .binOp .add 3 (.tmp 27) (.const (.int .i64 1)) 3, none, []⟩, ⟨some 29, .nilCheck (.tmp 24), none, []⟩, ⟨some 30, .fieldAddr 78 (.tmp 29) 1, none, []⟩, ⟨none, .store 3 (.tmp 30) (.tmp 28), none, []⟩]) (.seq (.reg [⟨some 31, .move (.tmp 0), none, []⟩, ⟨some 32, .move (.tmp 0), none, []⟩, ⟨some 33, .nilCheck (.tmp 32), none, []⟩, ⟨some 34, .fieldAddr 78 (.tmp 33) 2, none, []⟩, ⟨some 35, .load 76 (.tmp 34), none, []⟩, ⟨some 36, .binOp .mul 76 (.tmp 35) (.const (.int .u64 6364136223846793005)) 76, none, []⟩, ⟨some 37, .move (.tmp 3), none, []⟩, ⟨some 38, .convert 5 76 (.tmp 37), none, []⟩, ⟨some 39, .binOp .add 76 (.tmp 36) (.tmp 38) 76, none, []⟩, ⟨some 40, .binOp .add 76 (.tmp 39) (.const (.int .u64 1442695040888963407)) 76, none, []⟩, ⟨some 41, .nilCheck (.tmp 31), none, []⟩, ⟨some 42, .fieldAddr 78 (.tmp 41) 2, none, []⟩, ⟨none, .store 76 (.tmp 42) (.tmp 40), none, []⟩]) (.seq (.reg [⟨some 43, .move (.tmp 3), none, []⟩, ⟨some 44, .convert 5 3 (.tmp 43), none, []⟩, ⟨some 2, .assign (.tmp 44), none, []⟩]) .ret)))) .skip)) (.seq (.reg [⟨some 45, .move (.tmp 0), none, []⟩, ⟨some 46, .move (.tmp 0), none, []⟩, ⟨some 47, .nilCheck (.tmp 46), none, []⟩, ⟨some 48, .fieldAddr 78 (.tmp 47) 2, none, []⟩, ⟨some 49, .load 76 (.tmp 48), none, []⟩, ⟨some 50, .binOp .mul 76 (.tmp 49) (.const (.int .u64 6364136223846793005)) 76, none, []⟩, ⟨some 51, .binOp .add 76 (.tmp 50) (.const (.int .u64 1442695040888963407)) 76, none, []⟩, ⟨some 52, .nilCheck (.tmp 45), none, []⟩, ⟨some 53, .fieldAddr 78 (.tmp 52) 2, none, []⟩, ⟨none, .store 76 (.tmp 53) (.tmp 51), none, []⟩]) (.seq (.reg [⟨some 54, .move (.tmp 0), none, []⟩, ⟨some 55, .nilCheck (.tmp 54), none, []⟩, ⟨some 56, .fieldAddr 78 (.tmp 55) 1, none, []⟩, ⟨some 57, .load 3 (.tmp 56), none, []⟩, ⟨some 58, .binOp .add 3 (.tmp 57) (.const (.int .i64 1)) 3, none, []⟩, ⟨some 59, .nilCheck (.tmp 54), none, []⟩, ⟨some 60, .fieldAddr 78 (.tmp 59) 1, none, []⟩, ⟨none, .store 3 (.tmp 60) (.tmp 58), none, []⟩]) (.seq (.reg [⟨some 61, .move (.tmp 0), none, []⟩, ⟨some 62, .nilCheck (.tmp 61), none, []⟩, ⟨some 63, .fieldAddr 78 (.tmp 62) 2, none, []⟩, ⟨some 64, .load 76 (.tmp 63), none, []⟩, ⟨some 65, .binOp .shr 76 (.tmp 64) (.const (.int .u64 40)) 128, none, []⟩, ⟨some 66, .binOp .and 76 (.tmp 65) (.const (.int .u64 255)) 76, none, []⟩, ⟨some 67, .convert 76 3 (.tmp 66), none, []⟩, ⟨some 2, .assign (.tmp 67), none, []⟩]) .ret))))
theorem s63 : Tryd.f63.body.bind (stripC 68) = some B63 := by kernel_rfl
theorem next_ac {H : Heap} {bs : List Int} {E : List Nat} {C m : Nat} (h : Cur bs E C m H) (hm : m ≤ 1000000000) :
  ∃ v H', AC Tryd.prog 63 [pt C 0] H v H' [C] ∧ ∃ x : Int, v = iv x ∧ 0 ≤ x ∧ x ≤ 255 ∧ Cur bs E C (m + 1) H' ∧ GC C H H' := by
 obtain ⟨a1, c1, t, s, hb, ht, hr, hE⟩ := h
 have hCl := lt_of_get hb
 have q0 : CF H C 0 (.slice a1 bs.length c1) := CF.of hb rfl rfl
 have q1 : CF H C 1 (iv t) := CF.of hb rfl rfl
 have q2 : CF H C 2 (.int .u64 s) := CF.of hb rfl rfl
 have qr : RF H C := RF.of hb
 have hw : IntKind.i64.wrap ((t : Int) + 1) = (t : Int) + 1 := wrap_id (by omega) (by omega)
 have hn := hr.1
 refine AC.of_bodyS (N := 68) Tryd.func63 s63 (by kernel_rfl) rfl rfl (by simp) ?_; unfold B63
 by_cases hlt : t < bs.length
 ·obtain ⟨id, o, Ek, cs, hv, hid, _, _, hR, hsz, hc⟩ := hr.at hlt
  obtain ⟨⟨_, rfl⟩, hx⟩ := hR
  have c0 : CF H id (o + t) (.int .u8 bs[t]) := fun L => by have := hc 0 _ rfl L; simpa using this
  simp at hv
  obtain ⟨rfl, rfl⟩ := hv
  obtain ⟨x, hx0⟩ : ∃ x, x = bs[t] := ⟨_, rfl⟩
  rw [← hx0] at c0 hx
  obtain ⟨hx1, hx2⟩ := hx
  have hwx : IntKind.i64.wrap x = x := wrap_id (by omega) (by omega)
  repeat (first | refine sA ?_ | refine sB ?_ | refine sC ?_ | refine sD ?_ | refine sE rfl ?_ | refine sF rfl ?_ | refine sG rfl ?_ | ((first | refine sk_reg fun K hK => ?_ | refine sk_drw mix fun K hK => ?_); simp [hlt, q0.s, q1.s, q2.s, qr.s, c0.s, hw, hwx]; refine hK _ ?_; clear hK K))
  refine sk_ret ?_; simp [hx1, hx2]
  exact cur_put hb ht hr hE (by simp only [length_put]) (fun i hi => by rw [get_put_ne _ _ _ hi, get_put_ne _ _ _ hi]) (by rw [get_put, get_put, hb]; rfl)
 ·have hwl : ∀ a, IntKind.i64.wrap (lowB a) = lowB a := fun a => by have := lowB_rng a; exact wrap_id (by omega) (by omega)
  repeat (first | refine sA ?_ | refine sB ?_ | refine sC ?_ | refine sD ?_ | refine sE rfl ?_ | refine sF rfl ?_ | refine sG rfl ?_ | ((first | refine sk_reg fun K hK => ?_ | refine sk_drw mix fun K hK => ?_); simp [hlt, q0.s, q1.s, q2.s, qr.s, hw, intA_shr, intA_and, hwl]; refine hK _ ?_; clear hK K))
  refine sk_ret ?_; simp [lowB_rng]
  exact cur_put hb ht hr hE (by simp only [length_put]) (fun i hi => by rw [get_put_ne _ _ _ hi, get_put_ne _ _ _ hi]) (by rw [get_put, get_put, hb]; rfl)
/-- What a pick gives. -/
abbrev PickR (bs : List Int) (E : List Nat) (C m : Nat) (n : Int) (H : Heap) (v : Value) (H' : Heap) : Prop := ∃ x : Int, v = iv x ∧ 0 ≤ x ∧ (1 ≤ n → x < n) ∧ (n ≤ 1 → x = 0) ∧ Cur bs E C (m + 2) H' ∧ GC C H H'
def B41 : SC := .seq (.reg [⟨some 4, .assign (.const (.int .i64 0)), none, []⟩]) (.seq (.seq (.reg [⟨some 6, .move (.tmp 1), none, []⟩, ⟨some 7, .binOp .leq 3 (.tmp 6) (.const (.int .i64 1)) 3, none, []⟩]) (.cond (.tmp 7) (.seq (.reg [⟨some 4, .assign (.const (.int .i64 0)), none, []⟩]) .ret) .skip)) (.seq (.reg [⟨some 8, .move (.tmp 0), none, []⟩, ⟨some 9, .call ⟨.value (.func 63), #[.tmp 8], #[75]⟩, none, []⟩, ⟨some 5, .assign (.tmp 9), none, []⟩]) (.seq (.seq (.reg [⟨some 10, .move (.tmp 1), none, []⟩, ⟨some 11, .binOp .gtr 3 (.tmp 10) (.const (.int .i64 200)) 3, none, []⟩]) (.cond (.tmp 11) (.reg [⟨some 12, .move (.tmp 5), none, []⟩, ⟨some 13, .binOp .mul 3 (.tmp 12) (.const (.int .i64 256)) 3, none, []⟩, ⟨some 14, .move (.tmp 0), none, []⟩, ⟨some 15, .call ⟨.value (.func 63), #[.tmp 14], #[75]⟩, none, []⟩, ⟨some 16, .binOp .add 3 (.tmp 13) (.tmp 15) 3, none, []⟩, ⟨some 5, .assign (.tmp 16), none, []⟩]) .skip)) (.seq (.reg [⟨some 17, .move (.tmp 5), none, []⟩, ⟨some 18, .move (.tmp 1), none, []⟩, ⟨some 19, .binOp .rem 3 (.tmp 17) (.tmp 18) 3, none, []⟩, ⟨some 4, .assign (.tmp 19), none, []⟩]) .ret))))
theorem s41 : Tryd.f41.body.bind (stripC 20) = some B41 := by kernel_rfl
theorem pick_ac {H : Heap} {bs : List Int} {E : List Nat} {C m : Nat} (h : Cur bs E C m H) (hm : m ≤ 100000000) (n : Int) :
  ∃ v H', AC Tryd.prog 41 [pt C 0, iv n] H v H' [C] ∧ PickR bs E C m n H v H' := by
 obtain ⟨_, H1, ac1, x, rfl, x0, x1, h1, g1⟩ := next_ac h (by omega)
 obtain ⟨_, H2, ac2, y, rfl, y0, y1, h2, g2⟩ := next_ac h1 (by omega)
 refine AC.of_bodyS (N := 20) Tryd.func41 s41 (by kernel_rfl) rfl rfl (by simp) ?_; unfold B41
 by_cases hn : n ≤ 1
 ·repeat (first | refine sA ?_ | refine sB ?_ | refine sC ?_ | refine sD ?_ | refine sE rfl ?_ | refine sF rfl ?_ | refine sG rfl ?_ | (refine sk_reg fun K hK => ?_; simp [hn]; refine hK _ ?_; clear hK K))
  refine sk_ret ?_; simp
  exact ⟨0, rfl, by omega, fun _ => by omega, fun _ => rfl, h.mono (by omega), GC.refl _ _⟩
 have hn0 : n ≠ 0 := by omega
 have f1 := intA_rem (k := .i64) (a := x) hn0
 have f2 := intA_rem (k := .i64) (a := x * 256 + y) hn0
 have k1 : 0 ≤ x.tmod n ∧ x.tmod n < n := by rw [Int.tmod_eq_emod_of_nonneg x0]; exact ⟨Int.emod_nonneg _ hn0, Int.emod_lt_of_pos _ (by omega)⟩
 have k2 : 0 ≤ (x * 256 + y).tmod n ∧ (x * 256 + y).tmod n < n := by rw [Int.tmod_eq_emod_of_nonneg (by omega)]; exact ⟨Int.emod_nonneg _ hn0, Int.emod_lt_of_pos _ (by omega)⟩
 have w1 : IntKind.i64.wrap (x * 256) = x * 256 := wrap_id (by omega) (by omega)
 have w2 : IntKind.i64.wrap (x * 256 + y) = x * 256 + y := wrap_id (by omega) (by omega)
 by_cases hq : 200 < n
 ·repeat (first | refine sA ?_ | refine sB ?_ | refine sC ?_ | refine sD ?_ | refine sE rfl ?_ | refine sF rfl ?_ | refine sG rfl ?_ | (refine sk_reg fun K hK => ?_; simp [hn, hq, f2, w1, w2]; (repeat ((first | refine AskX.go (ac1) ?_ | refine AskX.go (ac2) ?_); simp [hn, hq, f2, w1, w2])); refine hK _ ?_; clear hK K))
  refine sk_ret ?_; simp
  exact ⟨_, rfl, k2.1, fun _ => k2.2, fun hh => absurd hh hn, h2, g1.trans g2⟩
 ·repeat (first | refine sA ?_ | refine sB ?_ | refine sC ?_ | refine sD ?_ | refine sE rfl ?_ | refine sF rfl ?_ | refine sG rfl ?_ | (refine sk_reg fun K hK => ?_; simp [hn, hq, f1]; (repeat ((first | refine AskX.go (ac1) ?_ | refine AskX.go (ac2) ?_); simp [hn, hq, f1])); refine hK _ ?_; clear hK K))
  refine sk_ret ?_; simp
  exact ⟨_, rfl, k1.1, fun _ => k1.2, fun hh => absurd hh hn, h1.mono (by omega), g1⟩
end Go.Proofs.YtpoedfmkiiijnaaDoor
