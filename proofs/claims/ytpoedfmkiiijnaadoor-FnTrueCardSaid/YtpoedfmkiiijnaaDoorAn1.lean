/- Answer of the program. A walk. -/
import Derived.Test.YtpoedfmkiiijnaaDoorDr1
import Derived.Test.YtpoedfmkiiijnaaDoorAn0
namespace Go.Proofs.YtpoedfmkiiijnaaDoor
open Go Go.RowKit Go.Proofs.YtpoedfmkiiijnaaDoorAm
set_option linter.unusedVariables false
set_option linter.unusedSimpArgs false
set_option maxRecDepth 10000
set_option maxHeartbeats 8000000
def B9 : SC := .seq (.reg [⟨some 6, .assign (.const (.string { data := #[] })), none, []⟩]) (.seq (.reg [⟨some 7, .alloc 66, none, []⟩]) (.seq (.seq (.reg [⟨some 17, .move (.tmp 0), none, []⟩, ⟨some 18, .move (.tmp 1), none, []⟩, ⟨some 19, .move (.tmp 2), none, []⟩, ⟨some 20, .call ⟨.value (.func 13), #[.tmp 17, .tmp 18, .tmp 19], #[3, 22, 27]⟩, none, []⟩, ⟨some 21, .call ⟨.builtin .len, #[.tmp 20], #[35]⟩, none, []⟩, ⟨some 22, .move (.const (.int .i64 0)), none, []⟩]) (.block 0 (.loop (.seq (.reg [⟨some 23, .binOp .lss 3 (.tmp 22) (.tmp 21) 3, none, []⟩]) (.seq (.cond (.tmp 23) .skip (.exit 0)) (.seq (.block 1 (.seq (.reg [⟨some 24, .indexAddr 35 (.tmp 20) (.tmp 22), none, []⟩, ⟨some 25, .load 44 (.tmp 24), none, []⟩, ⟨some 9, .alloc 44, none, []⟩, ⟨none, .store 44 (.tmp 9) (.tmp 25), none, []⟩]) (.seq (.reg [⟨some 26, .fieldAddr 44 (.tmp 9) 0, none, []⟩, ⟨some 27, .load 3 (.tmp 26), none, []⟩, ⟨some 28, .call ⟨.value (.func 22), #[.tmp 27], #[3]⟩, none, []⟩, ⟨some 29, .call ⟨.value (.func 21), #[.tmp 7, .tmp 28], #[66, 9]⟩, none, []⟩]) (.seq (.seq (.reg [⟨some 30, .fieldAddr 44 (.tmp 9) 1, none, []⟩, ⟨some 31, .fieldAddr 42 (.tmp 30) 1, none, []⟩, ⟨some 32, .fieldAddr 39 (.tmp 31) 2, none, []⟩, ⟨some 33, .load 37 (.tmp 32), none, []⟩, ⟨some 34, .call ⟨.builtin .len, #[.tmp 33], #[37]⟩, none, []⟩, ⟨some 35, .move (.const (.int .i64 0)), none, []⟩]) (.block 2 (.loop (.seq (.reg [⟨some 36, .binOp .lss 3 (.tmp 35) (.tmp 34) 3, none, []⟩]) (.seq (.cond (.tmp 36) .skip (.exit 2)) (.seq (.block 3 (.seq (.reg [⟨some 37, .move (.tmp 35), none, []⟩, ⟨some 38, .indexAddr 37 (.tmp 33) (.tmp 35), none, []⟩, ⟨some 39, .load 50 (.tmp 38), none, []⟩, ⟨some 11, .alloc 50, none, []⟩, ⟨some 10, .assign (.tmp 37), none, []⟩, ⟨none, .store 50 (.tmp 11) (.tmp 39), none, []⟩]) (.seq (.reg [⟨some 40, .call ⟨.value (.func 21), #[.tmp 7, .const (.string { data := #[32, 124] })], #[66, 9]⟩, none, []⟩]) (.seq (.reg [⟨some 41, .fieldAddr 44 (.tmp 9) 1, none, []⟩, ⟨some 42, .fieldAddr 42 (.tmp 41) 2, none, []⟩, ⟨some 43, .load 40 (.tmp 42), none, []⟩, ⟨some 44, .move (.tmp 10), none, []⟩, ⟨some 45, .indexAddr 40 (.tmp 43) (.tmp 44), none, []⟩, ⟨some 46, .load 47 (.tmp 45), none, []⟩, ⟨some 12, .alloc 47, none, []⟩, ⟨none, .store 47 (.tmp 12) (.tmp 46), none, []⟩]) (.seq (.reg [⟨some 47, .fieldAddr 50 (.tmp 11) 1, none, []⟩, ⟨some 48, .load 22 (.tmp 47), none, []⟩, ⟨some 49, .call ⟨.builtin .len, #[.tmp 48], #[22]⟩, none, []⟩, ⟨some 50, .move (.const (.int .i64 0)), none, []⟩]) (.block 4 (.loop (.seq (.reg [⟨some 51, .binOp .lss 3 (.tmp 50) (.tmp 49) 3, none, []⟩]) (.seq (.cond (.tmp 51) .skip (.exit 4)) (.seq (.block 5 (.seq (.reg [⟨some 52, .move (.tmp 50), none, []⟩, ⟨some 53, .indexAddr 22 (.tmp 48) (.tmp 50), none, []⟩, ⟨some 54, .load 3 (.tmp 53), none, []⟩, ⟨some 13, .assign (.tmp 52), none, []⟩, ⟨some 14, .assign (.tmp 54), none, []⟩]) (.seq (.reg [⟨some 55, .fieldAddr 50 (.tmp 11) 0, none, []⟩, ⟨some 56, .load 3 (.tmp 55), none, []⟩, ⟨some 57, .move (.tmp 13), none, []⟩, ⟨some 58, .binOp .add 3 (.tmp 56) (.tmp 57) 3, none, []⟩, ⟨some 15, .assign (.tmp 58), none, []⟩]) (.seq (.reg [⟨some 16, .assign (.const (.string { data := #[] })), none, []⟩]) (.seq (.block 6 (.seq (.reg [⟨some 60, .move (.tmp 15), none, []⟩, ⟨some 61, .fieldAddr 47 (.tmp 12) 2, none, []⟩, ⟨some 62, .load 3 (.tmp 61), none, []⟩, ⟨some 63, .fieldAddr 47 (.tmp 12) 3, none, []⟩, ⟨some 64, .load 3 (.tmp 63), none, []⟩, ⟨some 65, .call ⟨.value (.func 23), #[.tmp 60, .tmp 62, .tmp 64], #[3, 3, 3]⟩, none, []⟩, ⟨some 59, .assign (.tmp 65), none, []⟩]) (.cond (.tmp 59) (.reg [⟨some 16, .assign (.const (.string { data := #[42] })), none, []⟩]) (.seq (.reg [⟨some 67, .move (.tmp 15), none, []⟩, ⟨some 68, .fieldAddr 47 (.tmp 12) 1, none, []⟩, ⟨some 69, .load 3 (.tmp 68), none, []⟩, ⟨some 70, .binOp .lss 3 (.tmp 67) (.tmp 69) 3, none, []⟩, ⟨some 66, .assign (.tmp 70), none, []⟩]) (.cond (.tmp 66) (.reg [⟨some 16, .assign (.const (.string { data := #[43] })), none, []⟩]) (.seq (.reg [⟨some 72, .move (.tmp 15), none, []⟩, ⟨some 73, .fieldAddr 50 (.tmp 11) 2, none, []⟩, ⟨some 74, .load 48 (.tmp 73), none, []⟩, ⟨some 75, .call ⟨.value (.func 24), #[.tmp 74], #[48]⟩, none, []⟩, ⟨some 76, .binOp .lss 3 (.tmp 72) (.tmp 75) 3, none, []⟩, ⟨some 71, .assign (.tmp 76), none, []⟩]) (.cond (.tmp 71) (.reg [⟨some 16, .assign (.const (.string { data := #[63] })), none, []⟩]) .skip))))))) (.reg [⟨some 77, .move (.tmp 16), none, []⟩, ⟨some 78, .binOp .add 9 (.const (.string { data := #[32] })) (.tmp 77) 9, none, []⟩, ⟨some 79, .move (.tmp 14), none, []⟩, ⟨some 80, .call ⟨.value (.func 22), #[.tmp 79], #[3]⟩, none, []⟩, ⟨some 81, .binOp .add 9 (.tmp 78) (.tmp 80) 9, none, []⟩, ⟨some 82, .call ⟨.value (.func 21), #[.tmp 7, .tmp 81], #[66, 9]⟩, none, []⟩])))))) (.reg [⟨some 83, .binOp .add 3 (.tmp 50) (.const (.int .i64 1)) 3, none, []⟩, ⟨some 50, .move (.tmp 83), none, []⟩]))))))))))) (.reg [⟨some 84, .binOp .add 3 (.tmp 35) (.const (.int .i64 1)) 3, none, []⟩, ⟨some 35, .move (.tmp 84), none, []⟩]))))))) (.reg [⟨some 85, .call ⟨.value (.func 21), #[.tmp 7, .const (.string { data := #[10] })], #[66, 9]⟩, none, []⟩]))))) (.reg [⟨some 86, .binOp .add 3 (.tmp 22) (.const (.int .i64 1)) 3, none, []⟩, ⟨some 22, .move (.tmp 86), none, []⟩]))))))) (.seq (.reg [⟨some 87, .call ⟨.value (.func 25), #[.tmp 7], #[66]⟩, none, []⟩, ⟨some 6, .assign (.tmp 87), none, []⟩]) .ret)))
theorem s9 : Tryd.f9.body.bind (stripC 88) = some B9 := by kernel_rfl
theorem implAnswer_ac {H : Heap} {E F : List Nat} {v vt : Value} {l : List Int} {es' : List Actn} (ht : RS 1 RInt H F vt l) (h : RS 6 RAc H E v es') (s : Int) : AC Tryd.prog 9 [iv s, vt, v] H (vs (anS (driveW s l es'))) H [] := by
 have xt := ht.one
 have xv := h.one
 refine AC.of_pureS (N := 88) Tryd.func9 s9 (by kernel_rfl) rfl rfl (by simp) rfl ?_; unfold B9
 repeat (first | refine sA ?_ | refine sB ?_ | refine sC ?_ | refine sD ?_ | refine sE rfl ?_ | refine sF rfl ?_ | refine sG rfl ?_ | (refine sk_reg fun K hK => ?_; simp; refine hK _ ?_; clear hK K))
 refine sk_reg fun K hK => ?_; simp
 refine AskX.mkr (implDrive_mk (ht.gro (by first | exact Gro.refl _ | exact ⟨_, rfl⟩ | exact ⟨_, by simp only [List.append_assoc, List.cons_append, List.nil_append]; rfl⟩ | exact ⟨[], by simp⟩) (RP.frm _)) (h.gro (by first | exact Gro.refl _ | exact ⟨_, rfl⟩ | exact ⟨_, by simp only [List.append_assoc, List.cons_append, List.nil_append]; rfl⟩ | exact ⟨[], by simp⟩) (RP.frm _)) s) ?_; rintro v1 J1 A1 r1 o1 n1; simp
 obtain ⟨hB, hD⟩ := driveW_B (s := s) (l := l) (es := es')
 generalize driveW s l es' = D at *
 obtain ⟨a2, c2, rfl⟩ := r1.form
 simp
 refine hK _ ?_; clear hK K
 repeat (first | refine sA ?_ | refine sB ?_ | refine sC ?_ | refine sD ?_ | refine sE rfl ?_ | refine sF rfl ?_ | refine sG rfl ?_ | (refine sk_reg fun K hK => ?_; simp; refine hK _ ?_; clear hK K))
 obtain ⟨X, hX⟩ : ∃ X, X = H.length := ⟨_, rfl⟩
 simp only [List.append_assoc, List.cons_append, List.nil_append, List.length_append, List.length_cons, List.length_nil] at r1 n1
 refine sk_at [(7, pt X 0), (20, .slice a2 D.length c2), (21, iv D.length), (22, iv 0)] (fun H1 => Gro H H1 ∧ RS 6 RMv H1 A1 (.slice a2 D.length c2) D ∧ BS H1 X [] [] ∧ ∀ e, e ∈ A1 → X < e) (by simp [subL, getT, hX]) ?_ ?_
 ·exact ⟨Gro.one _ _, r1, ⟨.pointer none, nl, by rw [hX]; simp, .inl rfl, .inl ⟨rfl, rfl, rfl⟩, ⟨List.nodup_nil, fun i hi => by simp at hi⟩, by simp, fun _ => rfl⟩, fun e he => by have := n1 e he; omega⟩
 clear r1 o1 n1
 rintro H0 ⟨hg, r1, hbs, n1⟩
 have bd1 := r1.bd RMv.frm
 have hl0 := hg.len
 refine sk_loop (fun m ts H' => ∃ i F, i ≤ D.length ∧ m = D.length - i ∧ AnI H0 X [] H' F (anS (D.take i)) ∧ ts = [(7, pt X 0), (20, .slice a2 D.length c2), (21, iv D.length), (22, iv i)]) D.length _ ?_ ⟨0, [], by omega, rfl, by simpa [anS] using AnI.refl hbs, rfl⟩ ?_
 ·simp [subL, getT]
 rintro m ts H1 ⟨i, F, hi, rfl, hI, rfl⟩
 have hlo := hI.lo (n := H.length) (fun _ h => by simp at h) hl0
 have hl1 := hI.len
 have same0 : ∀ {H' F' l'}, AnI H0 X [] H' F' l' → ∀ e, e ∈ A1 → H'[e]? = H1[e]? := fun k e he => (k.same e (bd1 e he) (by have := n1 e he; omega) (by simp)).trans (hI.same e (bd1 e he) (by have := n1 e he; omega) (by simp)).symm
 have r1' : RS 6 RMv H1 A1 (.slice a2 D.length c2) D := r1.fr RMv.frm fun e he hl => hI.same e hl (by have := n1 e he; omega) (by simp)
 have hw := wrap_id (x := (i : Int) + 1) (by omega) (by omega)
 by_cases hlt : i < D.length
 case neg =>
  obtain rfl : i = D.length := by omega
  rw [List.take_length] at hI
  obtain ⟨Hs, acs, ls, ss⟩ := bString_ac hI.bs
  have wF : wrL H.length [] F := fun d hd => .inl (hlo d hd)
  repeat (first | refine sA ?_ | refine sB ?_ | refine sC ?_ | refine sD ?_ | refine sE rfl ?_ | refine sF rfl ?_ | refine sG rfl ?_ | (refine sk_reg fun K hK => ?_; simp [wF]; (repeat ((first | refine AskX.go (acs) ?_); simp [wF])); refine hK _ ?_; clear hK K))
  refine sk_ret ?_; simp
  have hgs : Gro H Hs := Gro.of (by omega) fun j hj => by
   rw [ss j (fun hh => by have := hlo j hh; omega), hI.same j (by omega) (by omega) (by simp)]
   exact hg.same hj
  obtain ⟨J, hJ⟩ := hgs
  exact ⟨J, hJ⟩
 have hmb : MvB D[i] := hB _ (List.getElem_mem hlt)
 have hans := anS_s hlt
 have hal : (anS (D.take i)).length ≤ 60000 * i := by
  have := anS_len (ms := D.take i) fun m hm => hB m (List.mem_of_mem_take hm)
  rwa [List.length_take, Nat.min_eq_left hi] at this
 obtain ⟨id, o, Ek, cs, hv, hid, hide, hEk, hR, hsz, hc⟩ := r1'.at hlt
 obtain ⟨cw, rfl, hW⟩ := hR
 obtain ⟨vl, vb, E1, E2, rfl, rfl, hl, hb⟩ := RWd.five hW
 have hE1 : ∀ e, e ∈ E1 → e ∈ A1 := fun e he => hEk e (by simp [he])
 have hE2 : ∀ e, e ∈ E2 → e ∈ A1 := fun e he => hEk e (by simp [he])
 generalize D[i] = mv at *
 obtain ⟨al, cl, rfl⟩ := hl.form
 obtain ⟨ab, cb, rfl⟩ := hb.form
 have c0 : CF H1 id (o + i * 6) (iv mv.code) := fun L => by have := hc 0 _ rfl L; simpa using this
 have c1 : CF H1 id (o + i * 6 + 1) (.bool mv.world.ok) := fun L => hc 1 _ rfl L
 have c2' : CF H1 id (o + i * 6 + 2) (.bool mv.world.book.ok) := fun L => hc 2 _ rfl L
 have c3 : CF H1 id (o + i * 6 + 3) (iv mv.world.book.sec) := fun L => hc 3 _ rfl L
 have c4 : CF H1 id (o + i * 6 + 4) (.slice al mv.world.book.lines.length cl) := fun L => hc 4 _ rfl L
 have c5 : CF H1 id (o + i * 6 + 5) (.slice ab mv.world.bodies.length cb) := fun L => hc 5 _ rfl L
 have hgz : ∀ n, H.length ≤ H1.length + n := fun n => by omega
 have hgz0 : H.length ≤ H1.length := by omega
 simp only [Value.slice.injEq, true_and] at hv
 obtain ⟨rfl, rfl⟩ := hv
 repeat (first | refine sA ?_ | refine sB ?_ | refine sC ?_ | refine sD ?_ | refine sE rfl ?_ | refine sF rfl ?_ | refine sG rfl ?_ | (refine sk_reg fun K hK => ?_; simp [hlt, c0.s, c1.s, c2'.s, c3.s, c4.s, c5.s, hgz, hgz0]; refine hK _ ?_; clear hK K))
 obtain ⟨T, hT⟩ : ∃ T, T = H1.length := ⟨_, rfl⟩
 have hTX : T ≠ X := by have := hI.bs.lt.1; omega
 have hTF : T ∉ F := fun hh => by have := hI.bs.lt.2 T hh; omega
 have hcl := itoa_le (n := mv.code) (by have := hmb.c; omega)
 obtain ⟨H2, ac2, F2, hI2⟩ := AnI.write (hI.bs.ext [⟨44, [iv mv.code, .bool mv.world.ok, .bool mv.world.book.ok, iv mv.world.book.sec, .slice al mv.world.book.lines.length cl, .slice ab mv.world.bodies.length cb], true, true⟩]) (s := Lib.itoa mv.code) (by omega)
 have w2 : wrL H.length [] (X :: F) := AnI.wr (by omega) hlo
 have hT1 : (H1 ++ [(⟨44, [iv mv.code, .bool mv.world.ok, .bool mv.world.book.ok, iv mv.world.book.sec, .slice al mv.world.book.lines.length cl, .slice ab mv.world.bodies.length cb], true, true⟩ : Blk)])[T]? = some ⟨44, [iv mv.code, .bool mv.world.ok, .bool mv.world.book.ok, iv mv.world.book.sec, .slice al mv.world.book.lines.length cl, .slice ab mv.world.bodies.length cb], true, true⟩ := by rw [hT]; simp
 have hT2 : H2[T]? = _ := (hI2.same T (by simp; omega) hTX hTF).trans hT1
 have hTF2 : T ∉ F2 := fun hh => by
  rcases hI2.fr T hh with h1 | h1
  ·exact hTF h1
  ·simp at h1; omega
 have hI02 := (hI.ext [⟨44, [iv mv.code, .bool mv.world.ok, .bool mv.world.book.ok, iv mv.world.book.sec, .slice al mv.world.book.lines.length cl, .slice ab mv.world.bodies.length cb], true, true⟩]).trans hI2
 have hlo2 := hI02.lo (n := H.length) (fun _ h => by simp at h) hl0
 have t0 : CF (H1 ++ [(⟨44, [iv mv.code, .bool mv.world.ok, .bool mv.world.book.ok, iv mv.world.book.sec, .slice al mv.world.book.lines.length cl, .slice ab mv.world.bodies.length cb], true, true⟩ : Blk)]) H1.length 0 (iv mv.code) := CF.of (by rw [← hT]; exact hT1) rfl rfl
 have u4 : CF H2 H1.length 4 (.slice al mv.world.book.lines.length cl) := CF.of (by rw [← hT]; exact hT2) rfl rfl
 have hn1 := hl.1
 have hn2 := hb.1
 obtain ⟨rr1, rr2, rr3, rr4⟩ := rightB_all hmb.r
 obtain ⟨_, _, hl20, _⟩ := bookOk_sec rr2
 repeat (first | refine sA ?_ | refine sB ?_ | refine sC ?_ | refine sD ?_ | refine sE rfl ?_ | refine sF rfl ?_ | refine sG rfl ?_ | (refine sk_reg fun K hK => ?_; simp [t0.s, u4.s, w2]; (repeat ((first | refine AskX.go (itoa_ac mv.code (by have := hmb.c; omega) (by have := hmb.c; omega)) ?_ | refine AskX.go (ac2) ?_); simp [t0.s, u4.s, w2])); refine hK _ ?_; clear hK K))
 rw [← hT]
 have hbB : mv.world.book.lines.length = mv.world.bodies.length := by omega
 have hTl2 := lt_of_get hT2
 refine sk_loop (fun m ts H' => ∃ k F3, k ≤ mv.world.book.lines.length ∧ m = mv.world.book.lines.length - k ∧ AnI H2 X F2 H' F3 (anS (D.take i) ++ Lib.itoa mv.code ++ lsS mv.world.book.lines mv.world.bodies k) ∧
   ts = [(7, pt X 0), (9, pt T 0), (20, sl id o D.length), (21, iv D.length), (22, iv i), (33, .slice al mv.world.book.lines.length cl), (34, iv mv.world.book.lines.length), (35, iv k)]) mv.world.book.lines.length _ ?_ ⟨0, F2, by omega, rfl, by rw [lsS_0, List.append_nil]; exact AnI.refl hI2.bs, rfl⟩ ?_
 ·simp [subL, getT]
 rintro m ts H3 ⟨k, F3, hk, rfl, hI3, rfl⟩
 have hI03 := hI02.trans hI3
 have hlo3 := hI03.lo (n := H.length) (fun _ h => by simp at h) hl0
 have hl3 := hI03.len
 have hwk := wrap_id (x := (k : Int) + 1) (by omega) (by omega)
 have hT3 : H3[T]? = _ := (hI3.same T hTl2 hTX hTF2).trans hT2
 have hTF3 : T ∉ F3 := fun hh => by
  rcases hI3.fr T hh with h1 | h1
  ·exact hTF2 h1
  ·omega
 have hls := lsS_len hmb.r hk
 by_cases hlk : k < mv.world.book.lines.length
 case neg =>
  obtain rfl : k = mv.world.book.lines.length := by omega
  obtain ⟨H4, ac4, F4, hI4⟩ := AnI.write hI3.bs (s := [10]) (by simp only [List.length_append, List.length_cons, List.length_nil]; omega)
  have w4 : wrL H.length [] (X :: F3) := AnI.wr (by omega) hlo3
  repeat (first | refine sA ?_ | refine sB ?_ | refine sC ?_ | refine sD ?_ | refine sE rfl ?_ | refine sF rfl ?_ | refine sG rfl ?_ | (refine sk_reg fun K hK => ?_; simp [w4, hw]; (repeat ((first | refine AskX.go (ac4) ?_); simp [w4, hw])); refine hK _ ?_; clear hK K))
  refine sk_inv ⟨D.length - (i + 1), _, by omega, ?_, i + 1, F4, by omega, rfl, ?_, rfl⟩
  ·simp [subL, getT]
  ·have := hI03.trans hI4
   rw [hans, mvS]
   simpa [List.append_assoc] using this
 have hlb : k < mv.world.bodies.length := by omega
 have hln := bookOk_ln rr2 hlk
 have hbo := rr4 k hlb hlk
 have hwa := fun c hc => way_at (c := c) hmb.r hlk hc
 have hwy := fun c hc => wyS_len (k := c) hmb.r hlk mv.world.bodies[k] hc
 have hls1 : lsS mv.world.book.lines mv.world.bodies (k + 1) = lsS mv.world.book.lines mv.world.bodies k ++ lnS mv.world.book.lines[k] mv.world.bodies[k] := by rw [lsS_s, lAt_eq hlk, bAt_eq hlb]
 obtain ⟨il, ol, v1, v2, G1, G2, hvl, hidl, l0, l1, l2, l3, rw1, rg1, _, _, hG⟩ := (hl.fr RLn.frm (H' := H3) fun e he _ => same0 hI03 e (hE1 e he)).line hlk
 obtain ⟨a3, c3', rfl⟩ := rw1.form
 obtain ⟨a4, c4', rfl⟩ := rg1.form
 simp only [Value.slice.injEq, true_and] at hvl
 obtain ⟨rfl, rfl⟩ := hvl
 generalize mv.world.book.lines[k] = ln at *
 have hgz3 : ∀ n, H.length ≤ H3.length + n := fun n => by omega
 have hgz30 : H.length ≤ H3.length := by omega
 repeat (first | refine sA ?_ | refine sB ?_ | refine sC ?_ | refine sD ?_ | refine sE rfl ?_ | refine sF rfl ?_ | refine sG rfl ?_ | (refine sk_reg fun K hK => ?_; simp [hlk, l0.s, l1.s, l2.s, l3.s, hgz3, hgz30]; refine hK _ ?_; clear hK K))
 obtain ⟨U, hU⟩ : ∃ U, U = H3.length := ⟨_, rfl⟩
 have hUX : U ≠ X := by have := hI3.bs.lt.1; omega
 have hUF : U ∉ F3 := fun hh => by have := hI3.bs.lt.2 U hh; omega
 have hw1 := hln.w1
 obtain ⟨H4, ac4, F4, hI4⟩ := AnI.write (hI3.bs.ext [⟨50, [iv ln.gone, .slice a3 ln.way.length c3', .slice a4 ln.grs.length c4', iv ln.drop], true, true⟩]) (s := [32, 124]) (by simp only [List.length_append, List.length_cons, List.length_nil]; omega)
 have w4 : wrL H.length [] (X :: F3) := AnI.wr (by omega) hlo3
 have hU3 : (H3 ++ [(⟨50, [iv ln.gone, .slice a3 ln.way.length c3', .slice a4 ln.grs.length c4', iv ln.drop], true, true⟩ : Blk)])[U]? = some ⟨50, [iv ln.gone, .slice a3 ln.way.length c3', .slice a4 ln.grs.length c4', iv ln.drop], true, true⟩ := by rw [hU]; simp
 have hU4 : H4[U]? = _ := (hI4.same U (by simp; omega) hUX hUF).trans hU3
 have hT4 : H4[T]? = _ := (hI4.same T (by have := lt_of_get hT3; simp; omega) hTX hTF3).trans (get_app _ hT3)
 have hI34 := (hI3.ext [⟨50, [iv ln.gone, .slice a3 ln.way.length c3', .slice a4 ln.grs.length c4', iv ln.drop], true, true⟩]).trans hI4
 have hI04 := hI02.trans hI34
 have hlo4 := hI04.lo (n := H.length) (fun _ h => by simp at h) hl0
 have hl4 := hI04.len
 have hUF4 : U ∉ F4 := fun hh => by
  rcases hI4.fr U hh with h1 | h1
  ·exact hUF h1
  ·simp at h1; omega
 have hTF4 : T ∉ F4 := fun hh => by
  rcases hI4.fr T hh with h1 | h1
  ·exact hTF3 h1
  ·have := lt_of_get hT3; simp at h1; omega
 obtain ⟨ib, ob, hvb, hidb, b0, b1, b2, b3⟩ := RS.bd (hb.fr (RP.frm _) (H' := H4) fun e he _ => same0 hI04 e (hE2 e he)) hlb
 simp only [Value.slice.injEq, true_and] at hvb
 obtain ⟨rfl, rfl⟩ := hvb
 generalize mv.world.bodies[k] = bx at *
 have t5 : CF H4 T 5 (.slice (some ⟨ib, ob, none⟩) mv.world.bodies.length 0) := CF.of hT4 rfl rfl
 have u1 : CF H4 H3.length 1 (.slice a3 ln.way.length c3') := CF.of (by rw [← hU]; exact hU4) rfl rfl
 have hgz4 : ∀ n, H.length ≤ H4.length + n := fun n => by omega
 have hgz40 : H.length ≤ H4.length := by omega
 have hn3 := rw1.1
 repeat (first | refine sA ?_ | refine sB ?_ | refine sC ?_ | refine sD ?_ | refine sE rfl ?_ | refine sF rfl ?_ | refine sG rfl ?_ | (refine sk_reg fun K hK => ?_; simp [w4, t5.s, b0.s, b1.s, b2.s, b3.s, u1.s, hlb, hgz4, hgz40]; (repeat ((first | refine AskX.go (ac4) ?_); simp [w4, t5.s, b0.s, b1.s, b2.s, b3.s, u1.s, hlb, hgz4, hgz40])); refine hK _ ?_; clear hK K))
 rw [← hU]
 obtain ⟨W, hW4⟩ : ∃ W, W = H4.length := ⟨_, rfl⟩
 rw [← hW4]
 have hWX : W ≠ X := by have := hI4.bs.lt.1; omega
 have hWF : W ∉ F4 := fun hh => by have := hI4.bs.lt.2 W hh; omega
 have hgn := hln.g0
 have hgn1 := hln.g1
 have htt := hln.t1
 refine sk_loop (fun m ts H' => ∃ j F6, j ≤ ln.way.length ∧ m = ln.way.length - j ∧ AnI (H4 ++ [⟨47, [iv bx.ver, iv bx.cel, iv bx.tail, iv bx.front], true, true⟩]) X F4 H' F6 (anS (D.take i) ++ Lib.itoa mv.code ++ lsS mv.world.book.lines mv.world.bodies k ++ [32, 124] ++ wyS ln bx j) ∧
   ts = [(7, pt X 0), (9, pt T 0), (10, iv k), (11, pt U 0), (12, pt W 0), (20, sl id o D.length), (21, iv D.length), (22, iv i), (33, sl il ol mv.world.book.lines.length), (34, iv mv.world.book.lines.length), (35, iv k), (48, .slice a3 ln.way.length c3'), (49, iv ln.way.length), (50, iv j)]) ln.way.length _ ?_ ⟨0, F4, by omega, rfl, by rw [wyS_0, List.append_nil]; exact AnI.refl (hI4.bs.ext _), rfl⟩ ?_
 ·simp [subL, getT]
 rintro m ts H6 ⟨j, F6, hj, rfl, hI6, rfl⟩
 have hI06 := (hI04.ext [⟨47, [iv bx.ver, iv bx.cel, iv bx.tail, iv bx.front], true, true⟩]).trans hI6
 have hI26 := (hI34.ext [⟨47, [iv bx.ver, iv bx.cel, iv bx.tail, iv bx.front], true, true⟩]).trans hI6
 have hlo6 := hI06.lo (n := H.length) (fun _ h => by simp at h) hl0
 have hl6 := hI06.len
 have hwj := hwy j hj
 by_cases hjl : j < ln.way.length
 case neg =>
  obtain rfl : j = ln.way.length := by omega
  repeat (first | refine sA ?_ | refine sB ?_ | refine sC ?_ | refine sD ?_ | refine sE rfl ?_ | refine sF rfl ?_ | refine sG rfl ?_ | (refine sk_reg fun K hK => ?_; simp [hwk]; refine hK _ ?_; clear hK K))
  refine sk_inv ⟨mv.world.book.lines.length - (k + 1), _, by omega, ?_, k + 1, F6, by omega, rfl, ?_, rfl⟩
  ·simp [subL, getT]
  ·rw [hls1, lnS]
   simpa [List.append_assoc] using hI26
 have w6 : wrL H.length [] (X :: F6) := AnI.wr (by omega) hlo6
 have hwj1 := wrap_id (x := (j : Int) + 1) (by omega) (by omega)
 have hW6 : H6[W]? = some ⟨47, [iv bx.ver, iv bx.cel, iv bx.tail, iv bx.front], true, true⟩ := (hI6.same W (by simp; omega) hWX hWF).trans (by rw [hW4]; simp)
 have hU6 : H6[U]? = _ := (hI6.same U (by have := lt_of_get hU4; simp; omega) hUX hUF4).trans (get_app _ hU4)
 have to6 : ∀ e, e ∈ G1 ++ G2 → H6[e]? = H3[e]? := fun e he => (same0 hI06 e (hE1 e (hG e he))).trans (same0 hI03 e (hE1 e (hG e he))).symm
 have rg6 := rg1.fr (RP.frm _) (H' := H6) fun e he _ => to6 e (by simp [he])
 obtain ⟨iw, ow, hvw, hidw, e0⟩ := (rw1.fr (RP.frm _) (H' := H6) fun e he _ => to6 e (by simp [he])).int hjl
 simp only [Value.slice.injEq, true_and] at hvw
 obtain ⟨rfl, rfl⟩ := hvw
 have d0 : CF H6 U 0 (iv ln.gone) := CF.of hU6 rfl rfl
 have d2 : CF H6 U 2 (.slice a4 ln.grs.length c4') := CF.of hU6 rfl rfl
 have e1 : CF H6 W 1 (iv bx.cel) := CF.of hW6 rfl rfl
 have e2 : CF H6 W 2 (iv bx.tail) := CF.of hW6 rfl rfl
 have e3 : CF H6 W 3 (iv bx.front) := CF.of hW6 rfl rfl
 have hsum : IntKind.i64.wrap (ln.gone + (j : Int)) = ln.gone + (j : Int) := wrap_id (by omega) (by unfold totL at htt; omega)
 obtain ⟨wa0, wa1⟩ := hwa j hjl
 have hil := itoa_le (n := ln.way[j]) ⟨wa0, by omega⟩
 have hgw : ln.way.getD j 0 = ln.way[j] := by simp [hjl]
 have hce : ceS ln bx j = 32 :: (mkS ln bx j ++ Lib.itoa ln.way[j]) := by rw [ceS, hgw]
 have hs1 : (1 : Nat) + 1 ≤ 4611686018427387904 := by omega
 have hs2 : (1 : Nat) + (Lib.itoa ln.way[j]).length ≤ 4611686018427387904 := by omega
 have hs3 : 1 + 1 + (Lib.itoa ln.way[j]).length ≤ 4611686018427387904 := by omega
 have hs4 : 2 + (Lib.itoa ln.way[j]).length ≤ 4611686018427387904 := by omega
 have hcase : (inB (ln.gone + (j : Int)) bx.tail bx.front = true ∧ mkS ln bx j = [42]) ∨ (inB (ln.gone + (j : Int)) bx.tail bx.front = false ∧ ln.gone + (j : Int) < bx.cel ∧ mkS ln bx j = [43]) ∨
   (inB (ln.gone + (j : Int)) bx.tail bx.front = false ∧ ¬ ln.gone + (j : Int) < bx.cel ∧ ln.gone + (j : Int) < reachL ln.grs ∧ mkS ln bx j = [63]) ∨ (inB (ln.gone + (j : Int)) bx.tail bx.front = false ∧ ¬ ln.gone + (j : Int) < bx.cel ∧ ¬ ln.gone + (j : Int) < reachL ln.grs ∧ mkS ln bx j = []) := by
  unfold mkS
  cases q : inB (ln.gone + (j : Int)) bx.tail bx.front
  ·by_cases q2 : ln.gone + (j : Int) < bx.cel
   ·exact .inr (.inl ⟨rfl, q2, by simp [q2]⟩)
   ·by_cases q3 : ln.gone + (j : Int) < reachL ln.grs
    ·exact .inr (.inr (.inl ⟨rfl, q2, q3, by simp [q2, q3]⟩))
    ·exact .inr (.inr (.inr ⟨rfl, q2, q3, by simp [q2, q3]⟩))
  ·exact .inl ⟨rfl, by simp⟩
 repeat (first | refine sA ?_ | refine sB ?_ | refine sC ?_ | refine sD ?_ | refine sE rfl ?_ | refine sF rfl ?_ | refine sG rfl ?_ | (refine sk_reg fun K hK => ?_; simp [hjl, e0.s, d0.s, hsum]; refine hK _ ?_; clear hK K))
 rcases hcase with ⟨q1, qm⟩ | ⟨q1, q2, qm⟩ | ⟨q1, q2, q3, qm⟩ | ⟨q1, q2, q3, qm⟩
 ·rw [qm] at hce
  obtain ⟨H7, ac7, F7, hI7⟩ := AnI.write hI6.bs (s := 32 :: 42 :: Lib.itoa ln.way[j]) (by simp only [List.length_append, List.length_cons, List.length_nil] at hwj ⊢; omega)
  repeat (first | refine sA ?_ | refine sB ?_ | refine sC ?_ | refine sD ?_ | refine sE rfl ?_ | refine sF rfl ?_ | refine sG rfl ?_ | (refine sk_reg fun K hK => ?_; simp [q1, d0.s, d2.s, e1.s, e2.s, e3.s, hs1, hs2, hs3, hs4, w6, hwj1]; (repeat ((first | refine AskX.go (in_ac (ln.gone + (j : Int)) bx.tail bx.front) ?_ | refine AskX.go (reach_ac rg6) ?_ | refine AskX.go (itoa_ac ln.way[j] (by omega) (by omega)) ?_ | refine AskX.go (ac7) ?_); simp [q1, d0.s, d2.s, e1.s, e2.s, e3.s, hs1, hs2, hs3, hs4, w6, hwj1])); refine hK _ ?_; clear hK K))
  refine sk_inv ⟨ln.way.length - (j + 1), _, by omega, ?_, j + 1, F7, by omega, rfl, ?_, rfl⟩
  ·simp [subL, getT]
  ·have := hI6.trans hI7
   rw [wyS_s, hce]
   simpa [List.append_assoc] using this
 ·rw [qm] at hce
  obtain ⟨H7, ac7, F7, hI7⟩ := AnI.write hI6.bs (s := 32 :: 43 :: Lib.itoa ln.way[j]) (by simp only [List.length_append, List.length_cons, List.length_nil] at hwj ⊢; omega)
  repeat (first | refine sA ?_ | refine sB ?_ | refine sC ?_ | refine sD ?_ | refine sE rfl ?_ | refine sF rfl ?_ | refine sG rfl ?_ | (refine sk_reg fun K hK => ?_; simp [q1, q2, d0.s, d2.s, e1.s, e2.s, e3.s, hs1, hs2, hs3, hs4, w6, hwj1]; (repeat ((first | refine AskX.go (in_ac (ln.gone + (j : Int)) bx.tail bx.front) ?_ | refine AskX.go (reach_ac rg6) ?_ | refine AskX.go (itoa_ac ln.way[j] (by omega) (by omega)) ?_ | refine AskX.go (ac7) ?_); simp [q1, q2, d0.s, d2.s, e1.s, e2.s, e3.s, hs1, hs2, hs3, hs4, w6, hwj1])); refine hK _ ?_; clear hK K))
  refine sk_inv ⟨ln.way.length - (j + 1), _, by omega, ?_, j + 1, F7, by omega, rfl, ?_, rfl⟩
  ·simp [subL, getT]
  ·have := hI6.trans hI7
   rw [wyS_s, hce]
   simpa [List.append_assoc] using this
 ·rw [qm] at hce
  obtain ⟨H7, ac7, F7, hI7⟩ := AnI.write hI6.bs (s := 32 :: 63 :: Lib.itoa ln.way[j]) (by simp only [List.length_append, List.length_cons, List.length_nil] at hwj ⊢; omega)
  repeat (first | refine sA ?_ | refine sB ?_ | refine sC ?_ | refine sD ?_ | refine sE rfl ?_ | refine sF rfl ?_ | refine sG rfl ?_ | (refine sk_reg fun K hK => ?_; simp [q1, q2, q3, d0.s, d2.s, e1.s, e2.s, e3.s, hs1, hs2, hs3, hs4, w6, hwj1]; (repeat ((first | refine AskX.go (in_ac (ln.gone + (j : Int)) bx.tail bx.front) ?_ | refine AskX.go (reach_ac rg6) ?_ | refine AskX.go (itoa_ac ln.way[j] (by omega) (by omega)) ?_ | refine AskX.go (ac7) ?_); simp [q1, q2, q3, d0.s, d2.s, e1.s, e2.s, e3.s, hs1, hs2, hs3, hs4, w6, hwj1])); refine hK _ ?_; clear hK K))
  refine sk_inv ⟨ln.way.length - (j + 1), _, by omega, ?_, j + 1, F7, by omega, rfl, ?_, rfl⟩
  ·simp [subL, getT]
  ·have := hI6.trans hI7
   rw [wyS_s, hce]
   simpa [List.append_assoc] using this
 ·rw [qm] at hce
  obtain ⟨H7, ac7, F7, hI7⟩ := AnI.write hI6.bs (s := 32 :: Lib.itoa ln.way[j]) (by simp only [List.length_append, List.length_cons, List.length_nil] at hwj ⊢; omega)
  repeat (first | refine sA ?_ | refine sB ?_ | refine sC ?_ | refine sD ?_ | refine sE rfl ?_ | refine sF rfl ?_ | refine sG rfl ?_ | (refine sk_reg fun K hK => ?_; simp [q1, q2, q3, d0.s, d2.s, e1.s, e2.s, e3.s, hs1, hs2, hs3, hs4, w6, hwj1]; (repeat ((first | refine AskX.go (in_ac (ln.gone + (j : Int)) bx.tail bx.front) ?_ | refine AskX.go (reach_ac rg6) ?_ | refine AskX.go (itoa_ac ln.way[j] (by omega) (by omega)) ?_ | refine AskX.go (ac7) ?_); simp [q1, q2, q3, d0.s, d2.s, e1.s, e2.s, e3.s, hs1, hs2, hs3, hs4, w6, hwj1])); refine hK _ ?_; clear hK K))
  refine sk_inv ⟨ln.way.length - (j + 1), _, by omega, ?_, j + 1, F7, by omega, rfl, ?_, rfl⟩
  ·simp [subL, getT]
  ·have := hI6.trans hI7
   rw [wyS_s, hce]
   simpa [List.append_assoc] using this
end Go.Proofs.YtpoedfmkiiijnaaDoor
