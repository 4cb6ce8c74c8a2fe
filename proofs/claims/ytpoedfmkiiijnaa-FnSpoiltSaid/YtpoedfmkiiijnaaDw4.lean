/- A full book. A walk. -/
import Derived.Test.YtpoedfmkiiijnaaDw1
import Derived.Test.YtpoedfmkiiijnaaGJ
import Derived.Test.YtpoedfmkiiijnaaGF
import Derived.Test.YtpoedfmkiiijnaaPuA
namespace Go.Proofs.Ytpoedfmkiiijnaa
open Go Go.RowKit Go.Proofs.YtpoedfmkiiijnaaAm
set_option linter.unusedVariables false
set_option linter.unusedSimpArgs false
set_option maxRecDepth 10000
set_option maxHeartbeats 8000000
theorem doB_len {b : Bk} {e : Evt} (h : evOkB b e = true) : (doB b e).book.lines.length = b.lines.length ∧ (doB b e).book.sec = b.sec ∧ bookOkB (doB b e).book = 0 := by
  have hb : bookOkB b = 0 := by
    simp only [evOkB, Bool.and_eq_true, decide_eq_true_eq] at h; exact h.1
  have e1 : doB b e = doV b e := by unfold doB; rw [if_pos h]
  rw [e1]
  refine ⟨?_, ?_, doV_ok hb h⟩
  · unfold doV; simp only; split <;> simp
  · unfold doV; simp only; split <;> rfl
/-- The book in its block, while it is filled. -/
structure FuI (bs : List Int) (E : List Nat) (C m : Nat) (H H1 : Heap) (X : Nat) (b : Bk) (ul : Value) (Eb : List Nat) : Prop where
  c : Cur bs E C m H1
  g : GC C H H1
  b2 : H1[H.length]? = some ⟨25, [.bool false, iv 0, nl], true, true⟩
  x : H1[X]? = some ⟨25, [.bool b.ok, iv b.sec, ul], true, true⟩
  rb : RS 4 RLn H1 Eb ul b.lines
  ok : bookOkB b = 0
  ll : b.lines.length = 2
  sc : b.sec = 200
  nb : ∀ e, e ∈ Eb → e ≠ C ∧ e ≠ X ∧ H.length < e
  hx : H.length < X
  hc : C < H.length
theorem FuI.step {bs : List Int} {E : List Nat} {C m m' : Nat} {H H1 H2 : Heap} {X : Nat} {b : Bk} {ul : Value} {Eb : List Nat} (h : FuI bs E C m H H1 X b ul Eb) (c : Cur bs E C m' H2) (g : GC C H1 H2) : FuI bs E C m' H H2 X b ul Eb := by
  have hX := h.hx
  have hC := h.hc
  exact ⟨c, h.g.trans g, g.cf h.b2 (by omega), g.cf h.x (by omega), g.rs RLn.frm h.rb fun e he => (h.nb e he).1, h.ok, h.ll, h.sc, h.nb, h.hx, h.hc⟩
theorem FuI.gro {bs : List Int} {E : List Nat} {C m : Nat} {H H1 H2 : Heap} {X : Nat} {b : Bk} {ul : Value} {Eb : List Nat} (h : FuI bs E C m H H1 X b ul Eb) (g : Gro H1 H2) : FuI bs E C m H H2 X b ul Eb := h.step (h.c.gro g) (GC.of g)
theorem FuI.put {bs : List Int} {E : List Nat} {C m : Nat} {H H1 : Heap} {X : Nat} {b b' : Bk} {ul wl : Value} {Eb A : List Nat} (h : FuI bs E C m H H1 X b ul Eb) (hE : ∀ e, e ∈ E → e < H.length) (r : RS 4 RLn H1 A wl b'.lines) (ok : bookOkB b' = 0) (ll : b'.lines.length = 2) (sc : b'.sec = 200) (nb : ∀ e, e ∈ A → e ≠ C ∧ e ≠ X ∧ H.length < e) :
    FuI bs E C m H (((H1.put X 0 (.bool b'.ok)).put X 1 (iv b'.sec)).put X 2 wl) X b' wl A := by
  have hX := h.hx
  have hC := h.hc
  have hnp : ∀ i, i ≠ X → ((((H1.put X 0 (.bool b'.ok)).put X 1 (iv b'.sec)).put X 2 wl) : Heap)[i]? = H1[i]? := fun i hi => by rw [get_put_ne _ _ _ hi, get_put_ne _ _ _ hi, get_put_ne _ _ _ hi]
  exact ⟨h.c.off X (by omega) (fun hh => by have := hE _ hh; omega) hnp, h.g.off X (by omega) (by simp only [length_put]; omega) hnp, (hnp _ (by omega)).trans h.b2, by rw [get_put, get_put, get_put, h.x]; rfl, r.fr RLn.frm fun i hi _ => hnp i (nb i hi).2.1, ok, ll, sc, nb, h.hx, h.hc⟩
def B138 : SC := .seq (.reg [⟨some 2, .alloc 25, none, []⟩]) (.seq (.reg [⟨some 9, .call { callee := (.value (.func 20)), args := #[(.const (.int .i64 200)), (.const (.int .i64 2))], argTypes := #[3, 3] }, none, []⟩, ⟨some 3, .alloc 25, none, []⟩, ⟨none, .store 25 (.tmp 3) (.tmp 9), none, []⟩]) (.seq (.reg [⟨some 10, .move (.tmp 0), none, []⟩, ⟨some 11, .call { callee := (.value (.func 113)), args := #[(.tmp 10), (.const (.int .i64 2))], argTypes := #[116, 3] }, none, []⟩, ⟨some 12, .binOp .sub 3 (.const (.int .i64 100)) (.tmp 11) 3, none, []⟩, ⟨some 4, .assign (.tmp 12), none, []⟩]) (.seq (.seq (.reg [⟨some 5, .assign (.const (.int .i64 0)), none, []⟩]) (.block 0 (.loop (.seq (.seq (.reg [⟨some 13, .move (.tmp 5), none, []⟩, ⟨some 14, .move (.tmp 4), none, []⟩, ⟨some 15, .binOp .lss 3 (.tmp 13) (.tmp 14) 3, none, []⟩]) (.cond (.tmp 15) .skip (.exit 0))) (.seq (.block 1 (.seq (.reg [⟨some 18, .load 25 (.tmp 3), none, []⟩, ⟨some 19, .move (.tmp 5), none, []⟩, ⟨some 20, .build 49 #[(0, (.const (.int .i64 1))), (2, (.tmp 19))], none, []⟩, ⟨some 21, .call { callee := (.value (.func 58)), args := #[(.tmp 18), (.tmp 20)], argTypes := #[25, 49] }, none, []⟩, ⟨some 6, .alloc 39, none, []⟩, ⟨none, .store 39 (.tmp 6) (.tmp 21), none, []⟩]) (.reg [⟨some 22, .fieldAddr 39 (.tmp 6) 1, none, []⟩, ⟨some 23, .load 25 (.tmp 22), none, []⟩, ⟨none, .store 25 (.tmp 3) (.tmp 23), none, []⟩]))) (.reg [⟨some 16, .move (.tmp 5), none, []⟩, ⟨some 17, .binOp .add 3 (.tmp 16) (.const (.int .i64 1)) 3, none, []⟩, ⟨some 5, .assign (.tmp 17), none, []⟩])))))) (.seq (.reg [⟨some 24, .move (.tmp 0), none, []⟩, ⟨some 25, .call { callee := (.value (.func 113)), args := #[(.tmp 24), (.const (.int .i64 2))], argTypes := #[116, 3] }, none, []⟩, ⟨some 26, .binOp .sub 3 (.const (.int .i64 19)) (.tmp 25) 3, none, []⟩, ⟨some 4, .assign (.tmp 26), none, []⟩]) (.seq (.seq (.reg [⟨some 7, .assign (.const (.int .i64 0)), none, []⟩]) (.block 2 (.loop (.seq (.seq (.reg [⟨some 27, .move (.tmp 7), none, []⟩, ⟨some 28, .move (.tmp 4), none, []⟩, ⟨some 29, .binOp .lss 3 (.tmp 27) (.tmp 28) 3, none, []⟩]) (.cond (.tmp 29) .skip (.exit 2))) (.seq (.block 3 (.seq (.reg [⟨some 32, .load 25 (.tmp 3), none, []⟩, ⟨some 33, .move (.tmp 7), none, []⟩, ⟨some 34, .build 49 #[(0, (.const (.int .i64 2))), (2, (.tmp 33))], none, []⟩, ⟨some 35, .call { callee := (.value (.func 58)), args := #[(.tmp 32), (.tmp 34)], argTypes := #[25, 49] }, none, []⟩, ⟨some 8, .alloc 39, none, []⟩, ⟨none, .store 39 (.tmp 8) (.tmp 35), none, []⟩]) (.reg [⟨some 36, .fieldAddr 39 (.tmp 8) 1, none, []⟩, ⟨some 37, .load 25 (.tmp 36), none, []⟩, ⟨none, .store 25 (.tmp 3) (.tmp 37), none, []⟩]))) (.reg [⟨some 30, .move (.tmp 7), none, []⟩, ⟨some 31, .binOp .add 3 (.tmp 30) (.const (.int .i64 1)) 3, none, []⟩, ⟨some 7, .assign (.tmp 31), none, []⟩])))))) (.seq (.reg [⟨some 38, .load 25 (.tmp 3), none, []⟩, ⟨none, .store 25 (.tmp 2) (.tmp 38), none, []⟩]) .ret))))))
theorem s138 : Try.f138.body.bind (stripC 39) = some B138 := by kernel_rfl
theorem full_ac {H : Heap} {bs : List Int} {E : List Nat} {C m : Nat} (h : Cur bs E C m H) (hm : m ≤ 1000000) :
    ∃ v H', AC Try.prog 138 [pt C 0] H v H' [C] ∧ ∃ (b : Bk) (ul : Value) (Eb : List Nat), v = .agg #[.bool b.ok, iv b.sec, ul] ∧ bookOkB b = 0 ∧ RS 4 RLn H' Eb ul b.lines ∧ Cur bs E C (m + 4) H' ∧ GC C H H' ∧ ∀ e, e ∈ Eb → H.length < e := by
  have hCl := h.lt
  have hEl := h.bd
  refine AC.of_bodyS (N := 39) Try.func138 s138 (by kernel_rfl) rfl rfl (by simp) ?_; unfold B138
  repeat (first | refine sA ?_ | refine sB ?_ | refine sC ?_ | refine sD ?_ | refine sE rfl ?_ | refine sF rfl ?_ | refine sG rfl ?_ | (refine sk_reg fun K hK => ?_; simp; refine hK _ ?_; clear hK K))
  refine sk_at [(0, pt C 0), (2, pt H.length 0)] (fun H0 => Gro H H0 ∧ H0[H.length]? = some ⟨25, [.bool false, iv 0, nl], true, true⟩) (by simp [subL, getT]) ⟨Gro.one _ _, by simp⟩ ?_
  rintro H0 ⟨g0, b0⟩
  have hl0 : H.length < H0.length := lt_of_get b0
  have hl0' : H.length ≤ H0.length := by omega
  have hz0 : ∀ n, H.length ≤ H0.length + n := fun n => by omega
  have hbk : bookOkB (beginB 200 2) = 0 := begin_ok (by unfold beginB; rw [if_pos (by simp [inB])])
  refine sk_reg fun K hK => ?_; simp
  refine AskX.mkr (specBegin_mk 200 2) ?_; rintro _ J1 Eb ⟨_, rfl, ul, rfl, rl⟩ o1 n1; simp
  simp [rl.one, rl.cv, hl0', hz0]
  refine hK _ ?_; clear hK K
  have o1l := o1.lt
  obtain ⟨X, hX⟩ : ∃ X, X = H0.length + J1.length := ⟨_, rfl⟩
  refine sk_at [(0, pt C 0), (2, pt H.length 0), (3, pt X 0)] (fun Hx => FuI bs E C m H Hx X (beginB 200 2) ul Eb) (by simp [subL, getT, hX]) ?_ ?_
  · refine ⟨(h.gro g0).gro (Gro.one _ _), GC.of (g0.trans (Gro.one _ _)), (List.getElem?_append_left (lt_of_get b0)).trans b0, ?_, ?_, hbk, ?_, ?_, fun e he => ?_, by omega, hCl⟩
    · rw [hX, List.getElem?_append_right (by omega), Nat.add_sub_cancel_left]
      simp
    · exact rl.gro (by first | exact Gro.refl _ | exact ⟨_, rfl⟩ | exact ⟨_, by simp only [List.append_assoc, List.cons_append, List.nil_append]; rfl⟩ | exact ⟨[], by simp⟩) RLn.frm
    · unfold beginB; rw [if_pos (by simp [inB])]; simp
    · unfold beginB; rw [if_pos (by simp [inB])]
    · have h3 := n1 e he
      have h4 := o1l e he
      simp only [List.length_append] at h4
      exact ⟨by omega, by omega, by omega⟩
  clear rl o1 n1 o1l g0 b0
  rintro H3 hI
  obtain ⟨_, H4, ac1, z, rfl, z0, z1, _, h4, g4⟩ := pick_ac hI.c (by omega) 2
  have hI4 := hI.step h4 g4
  obtain ⟨N, hN⟩ : ∃ N : Nat, 100 - z = N := ⟨(100 - z).toNat, by have := z1 (by omega); omega⟩
  have hN2 : N ≤ 100 := by omega
  have hwN : IntKind.i64.wrap (100 - z) = N := by rw [hN]; exact wrap_id (by omega) (by omega)
  repeat (first | refine sA ?_ | refine sB ?_ | refine sC ?_ | refine sD ?_ | refine sE rfl ?_ | refine sF rfl ?_ | refine sG rfl ?_ | (refine sk_reg fun K hK => ?_; simp [hwN]; (repeat ((first | refine AskX.go (ac1) ?_); simp [hwN])); refine hK _ ?_; clear hK K))
  refine sk_loop (fun t ts H' => ∃ (j : Nat) (b : Bk) (ul : Value) (Eb : List Nat), j ≤ N ∧ t = N - j ∧ FuI bs E C (m + 2) H H' X b ul Eb ∧ ts = [(0, pt C 0), (2, pt H.length 0), (3, pt X 0), (4, iv N), (5, iv j)]) N _ ?_ ⟨0, beginB 200 2, ul, Eb, by omega, rfl, hI4, rfl⟩ ?_
  · simp [subL, getT]
  clear hI hI4 ac1 h4 g4 z0 z1
  rintro t ts H5 ⟨j, b, ul, Eb, hj, rfl, hI, rfl⟩
  have hl5 := hI.g.l
  have hz5 : ∀ n, H.length ≤ H5.length + n := fun n => by omega
  have hhx := hI.hx
  have hXl0 : H.length ≤ X := by omega
  have wX : ∀ n, H.length ≤ X + n := fun n => by omega
  by_cases hjt : j < N
  · have x0 : CF H5 X 0 (.bool b.ok) := CF.of hI.x rfl rfl
    have x1 : CF H5 X 1 (iv b.sec) := CF.of hI.x rfl rfl
    have x2 : CF H5 X 2 ul := CF.of hI.x rfl rfl
    have xu := hI.rb.one
    have yu := hI.rb.cv
    have hbx := lt_of_get hI.x
    have hev : evOkB b ⟨1, 0, j⟩ = true := by
      simp only [evOkB, hI.ok, hI.ll, hI.sc, inB]
      simp; omega
    obtain ⟨hd1, hd2, hd3⟩ := doB_len hev
    repeat (first | refine sA ?_ | refine sB ?_ | refine sC ?_ | refine sD ?_ | refine sE rfl ?_ | refine sF rfl ?_ | refine sG rfl ?_ | (refine sk_reg fun K hK => ?_; simp [hjt]; refine hK _ ?_; clear hK K))
    refine sk_reg fun K hK => ?_; simp [x0.s, x1.s, x2.s, xu, yu]
    refine AskX.mkr (specDo_mk (cs := [.bool b.ok, iv b.sec, ul]) ⟨_, rfl, hI.rb.gro (by first | exact Gro.refl _ | exact ⟨_, rfl⟩ | exact ⟨_, by simp only [List.append_assoc, List.cons_append, List.nil_append]; rfl⟩ | exact ⟨[], by simp⟩) RLn.frm⟩ ⟨1, 0, j⟩) ?_; rintro _ J3 A3 ⟨_, rfl, _, rfl, wl, rfl, r3⟩ o3 n3; simp [xu, yu, hl5, hz5]
    simp [r3.one, r3.cv, hl5, hz5]
    refine hK _ ?_; clear hK K
    obtain ⟨Z, hZ⟩ : ∃ Z, Z = H5.length + J3.length := ⟨_, rfl⟩
    have xw := r3.one
    have yw := r3.cv
    generalize hD : doB b ⟨1, 0, j⟩ = D at *
    refine sk_at [(0, pt C 0), (2, pt H.length 0), (3, pt X 0), (4, iv N), (5, iv j), (6, pt Z 0)] (fun Hx => FuI bs E C (m + 2) H Hx X b ul Eb ∧ Hx[Z]? = some ⟨39, [iv D.code, .bool D.book.ok, iv D.book.sec, wl], true, true⟩ ∧ RS 4 RLn Hx A3 wl D.book.lines) (by simp [subL, getT, hZ]) ⟨hI.gro (Gro.one _ _), ?_, RS.gro r3 (by first | exact Gro.refl _ | exact ⟨_, rfl⟩ | exact ⟨_, by simp only [List.append_assoc, List.cons_append, List.nil_append]; rfl⟩ | exact ⟨[], by simp⟩) RLn.frm⟩ ?_
    · rw [hZ, List.getElem?_append_right (by omega), Nat.add_sub_cancel_left]
      simp
    have n3' : ∀ e, e ∈ A3 → e ≠ C ∧ e ≠ X ∧ H.length < e := fun e he => by
      have h1 := n3 e he
      exact ⟨by omega, by omega, by omega⟩
    clear x0 x1 x2 r3 o3 n3 hI
    rintro H10 ⟨hI, bz, r3⟩
    have x0 : CF H10 X 0 (.bool b.ok) := CF.of hI.x rfl rfl
    have x1 : CF H10 X 1 (iv b.sec) := CF.of hI.x rfl rfl
    have x2 : CF H10 X 2 ul := CF.of hI.x rfl rfl
    have xr := RF.of hI.x
    have z0 : CF H10 Z 0 (iv D.code) := CF.of bz rfl rfl
    have z1 : CF H10 Z 1 (.bool D.book.ok) := CF.of bz rfl rfl
    have z2 : CF H10 Z 2 (iv D.book.sec) := CF.of bz rfl rfl
    have z3 : CF H10 Z 3 wl := CF.of bz rfl rfl
    have hwj : IntKind.i64.wrap ((j : Int) + 1) = (j : Int) + 1 := wrap_id (by omega) (by omega)
    repeat (first | refine sA ?_ | refine sB ?_ | refine sC ?_ | refine sD ?_ | refine sE rfl ?_ | refine sF rfl ?_ | refine sG rfl ?_ | (refine sk_reg fun K hK => ?_; simp [z0.s, z1.s, z2.s, z3.s, x0.s, x1.s, x2.s, xr.s, xw, yw, wX, hXl0, hwj]; refine hK _ ?_; clear hK K))
    refine sk_inv ⟨N - (j + 1), _, by omega, ?_, j + 1, D.book, wl, A3, by omega, rfl, hI.put hEl r3 hd3 (by rw [hd1, hI.ll]) (by rw [hd2, hI.sc]) n3', rfl⟩
    simp [subL, getT]
  obtain rfl : j = N := by omega
  obtain ⟨_, H6, ac1, z, rfl, z0, z1, _, h6, g6⟩ := pick_ac hI.c (by omega) 2
  have hI6 := hI.step h6 g6
  obtain ⟨M, hM⟩ : ∃ M : Nat, 19 - z = M := ⟨(19 - z).toNat, by have := z1 (by omega); omega⟩
  have hM2 : M ≤ 19 := by omega
  have hwM : IntKind.i64.wrap (19 - z) = M := by rw [hM]; exact wrap_id (by omega) (by omega)
  repeat (first | refine sA ?_ | refine sB ?_ | refine sC ?_ | refine sD ?_ | refine sE rfl ?_ | refine sF rfl ?_ | refine sG rfl ?_ | (refine sk_reg fun K hK => ?_; simp [hwM]; (repeat ((first | refine AskX.go (ac1) ?_); simp [hwM])); refine hK _ ?_; clear hK K))
  refine sk_loop (fun t ts H' => ∃ (j : Nat) (b : Bk) (ul : Value) (Eb : List Nat), j ≤ M ∧ t = M - j ∧ FuI bs E C (m + 4) H H' X b ul Eb ∧ ts = [(0, pt C 0), (2, pt H.length 0), (3, pt X 0), (4, iv M), (7, iv j)]) M _ ?_ ⟨0, b, ul, Eb, by omega, rfl, hI6, rfl⟩ ?_
  · simp [subL, getT]
  clear hI hI6 ac1 h6 g6 z0 z1 hl5 hz5 hhx hXl0 wX
  rintro t ts H5 ⟨j, b, ul, Eb, hj, rfl, hI, rfl⟩
  have hl5 := hI.g.l
  have hz5 : ∀ n, H.length ≤ H5.length + n := fun n => by omega
  have hhx := hI.hx
  have hXl0 : H.length ≤ X := by omega
  have wX : ∀ n, H.length ≤ X + n := fun n => by omega
  by_cases hjt : j < M
  · have x0 : CF H5 X 0 (.bool b.ok) := CF.of hI.x rfl rfl
    have x1 : CF H5 X 1 (iv b.sec) := CF.of hI.x rfl rfl
    have x2 : CF H5 X 2 ul := CF.of hI.x rfl rfl
    have xu := hI.rb.one
    have yu := hI.rb.cv
    have hbx := lt_of_get hI.x
    have hev : evOkB b ⟨2, 0, j⟩ = true := by
      simp only [evOkB, hI.ok, hI.ll, hI.sc, inB]
      simp; omega
    obtain ⟨hd1, hd2, hd3⟩ := doB_len hev
    repeat (first | refine sA ?_ | refine sB ?_ | refine sC ?_ | refine sD ?_ | refine sE rfl ?_ | refine sF rfl ?_ | refine sG rfl ?_ | (refine sk_reg fun K hK => ?_; simp [hjt]; refine hK _ ?_; clear hK K))
    refine sk_reg fun K hK => ?_; simp [x0.s, x1.s, x2.s, xu, yu]
    refine AskX.mkr (specDo_mk (cs := [.bool b.ok, iv b.sec, ul]) ⟨_, rfl, hI.rb.gro (by first | exact Gro.refl _ | exact ⟨_, rfl⟩ | exact ⟨_, by simp only [List.append_assoc, List.cons_append, List.nil_append]; rfl⟩ | exact ⟨[], by simp⟩) RLn.frm⟩ ⟨2, 0, j⟩) ?_; rintro _ J3 A3 ⟨_, rfl, _, rfl, wl, rfl, r3⟩ o3 n3; simp [xu, yu, hl5, hz5]
    simp [r3.one, r3.cv, hl5, hz5]
    refine hK _ ?_; clear hK K
    obtain ⟨Z, hZ⟩ : ∃ Z, Z = H5.length + J3.length := ⟨_, rfl⟩
    have xw := r3.one
    have yw := r3.cv
    generalize hD : doB b ⟨2, 0, j⟩ = D at *
    refine sk_at [(0, pt C 0), (2, pt H.length 0), (3, pt X 0), (4, iv M), (7, iv j), (8, pt Z 0)] (fun Hx => FuI bs E C (m + 4) H Hx X b ul Eb ∧ Hx[Z]? = some ⟨39, [iv D.code, .bool D.book.ok, iv D.book.sec, wl], true, true⟩ ∧ RS 4 RLn Hx A3 wl D.book.lines) (by simp [subL, getT, hZ]) ⟨hI.gro (Gro.one _ _), ?_, RS.gro r3 (by first | exact Gro.refl _ | exact ⟨_, rfl⟩ | exact ⟨_, by simp only [List.append_assoc, List.cons_append, List.nil_append]; rfl⟩ | exact ⟨[], by simp⟩) RLn.frm⟩ ?_
    · rw [hZ, List.getElem?_append_right (by omega), Nat.add_sub_cancel_left]
      simp
    have n3' : ∀ e, e ∈ A3 → e ≠ C ∧ e ≠ X ∧ H.length < e := fun e he => by
      have h1 := n3 e he
      exact ⟨by omega, by omega, by omega⟩
    clear x0 x1 x2 r3 o3 n3 hI
    rintro H10 ⟨hI, bz, r3⟩
    have x0 : CF H10 X 0 (.bool b.ok) := CF.of hI.x rfl rfl
    have x1 : CF H10 X 1 (iv b.sec) := CF.of hI.x rfl rfl
    have x2 : CF H10 X 2 ul := CF.of hI.x rfl rfl
    have xr := RF.of hI.x
    have z0 : CF H10 Z 0 (iv D.code) := CF.of bz rfl rfl
    have z1 : CF H10 Z 1 (.bool D.book.ok) := CF.of bz rfl rfl
    have z2 : CF H10 Z 2 (iv D.book.sec) := CF.of bz rfl rfl
    have z3 : CF H10 Z 3 wl := CF.of bz rfl rfl
    have hwj : IntKind.i64.wrap ((j : Int) + 1) = (j : Int) + 1 := wrap_id (by omega) (by omega)
    repeat (first | refine sA ?_ | refine sB ?_ | refine sC ?_ | refine sD ?_ | refine sE rfl ?_ | refine sF rfl ?_ | refine sG rfl ?_ | (refine sk_reg fun K hK => ?_; simp [z0.s, z1.s, z2.s, z3.s, x0.s, x1.s, x2.s, xr.s, xw, yw, wX, hXl0, hwj]; refine hK _ ?_; clear hK K))
    refine sk_inv ⟨M - (j + 1), _, by omega, ?_, j + 1, D.book, wl, A3, by omega, rfl, hI.put hEl r3 hd3 (by rw [hd1, hI.ll]) (by rw [hd2, hI.sc]) n3', rfl⟩
    simp [subL, getT]
  obtain rfl : j = M := by omega
  have x0 : CF H5 X 0 (.bool b.ok) := CF.of hI.x rfl rfl
  have x1 : CF H5 X 1 (iv b.sec) := CF.of hI.x rfl rfl
  have x2 : CF H5 X 2 ul := CF.of hI.x rfl rfl
  have c0 : CF H5 H.length 0 (.bool false) := CF.of hI.b2 rfl rfl
  have c1 : CF H5 H.length 1 (iv 0) := CF.of hI.b2 rfl rfl
  have c2 : CF H5 H.length 2 nl := CF.of hI.b2 rfl rfl
  have cr := RF.of hI.b2
  have xu := hI.rb.one
  have yu := hI.rb.cv
  repeat (first | refine sA ?_ | refine sB ?_ | refine sC ?_ | refine sD ?_ | refine sE rfl ?_ | refine sF rfl ?_ | refine sG rfl ?_ | (refine sk_reg fun K hK => ?_; simp [x0.s, x1.s, x2.s, c0.s, c1.s, c2.s, cr.s, xu, yu]; refine hK _ ?_; clear hK K))
  refine sk_ret ?_; simp [c0.s, c1.s, c2.s]
  have hnp : ∀ i, i ≠ H.length → ((((H5.put H.length 0 (.bool b.ok)).put H.length 1 (iv b.sec)).put H.length 2 ul) : Heap)[i]? = H5[i]? := fun i hi => by rw [get_put_ne _ _ _ hi, get_put_ne _ _ _ hi, get_put_ne _ _ _ hi]
  exact ⟨b, ul, ⟨rfl, rfl, rfl⟩, hI.ok, Eb, hI.rb.fr RLn.frm fun i hi _ => hnp i (by have := (hI.nb i hi).2.2; omega), hI.c.off H.length (by omega) (fun hh => by have := hEl _ hh; omega) hnp, hI.g.off H.length (Nat.le_refl _) (by simp only [length_put]; omega) hnp, fun e he => (hI.nb e he).2.2⟩
end Go.Proofs.Ytpoedfmkiiijnaa
