/- Drive of the program. A walk. -/
import Derived.Test.YtpoedfmkiiijnaaDoorSt1
import Derived.Test.YtpoedfmkiiijnaaDoorSp2
namespace Go.Proofs.YtpoedfmkiiijnaaDoor
open Go Go.RowKit Go.Proofs.YtpoedfmkiiijnaaDoorAm
set_option linter.unusedVariables false
set_option linter.unusedSimpArgs false
set_option maxRecDepth 10000
set_option maxHeartbeats 8000000
/-- The loop of Drive: the world in its block, what is answered so far. -/
structure DrvI (H : Heap) (X : Nat) (w0 : Wd) (es' : List Actn) (i : Nat) (vl : Value) (H1 : Heap) (ul ub : Value) (Eb A : List Nat) : Prop where
 g : Gro H H1
 x : H1[X]? = some ⟨42, [.bool (endW w0 (es'.take i)).ok, .bool (endW w0 (es'.take i)).book.ok, iv (endW w0 (es'.take i)).book.sec, ul, ub], true, true⟩
 rb : RWd H1 Eb (endW w0 (es'.take i)) [.bool (endW w0 (es'.take i)).ok, .bool (endW w0 (es'.take i)).book.ok, iv (endW w0 (es'.take i)).book.sec, ul, ub]
 ra : RW 44 6 RMv H1 A vl (goW w0 (es'.take i))
 oa : Own H1 A
 la : ∀ e, e ∈ A → X < e
 hx : H.length ≤ X
theorem goW_take {w0 : Wd} {es' : List Actn} {i : Nat} (h : i < es'.length) : goW w0 (es'.take (i + 1)) = goW w0 (es'.take i) ++ [stepM (endW w0 (es'.take i)) es'[i]] := by rw [take_snoc h, goW_snoc]
theorem endW_take {w0 : Wd} {es' : List Actn} {i : Nat} (h : i < es'.length) : endW w0 (es'.take (i + 1)) = (stepM (endW w0 (es'.take i)) es'[i]).world := by rw [take_snoc h, endW_snoc]
theorem rwd_vals {H : Heap} {E : List Nat} {w : Wd} {ul ub : Value} (h : RWd H E w [.bool w.ok, .bool w.book.ok, iv w.book.sec, ul, ub]) : ul.oneCell' = true ∧ ub.oneCell' = true ∧ cellsV ul = [ul] ∧ cellsV ub = [ub] := by
 obtain ⟨vl, vb, E1, E2, e, _, hl, hb⟩ := RWd.five h
 simp only [List.cons.injEq, true_and, and_true] at e
 obtain ⟨rfl, rfl⟩ := e
 exact ⟨hl.one, hb.one, hl.cv, hb.cv⟩
theorem right_bd {w : Wd} (h : rightB w = true) : ∀ b, b ∈ w.bodies → bdR b := fun b hb => by
 obtain ⟨i, hi, rfl⟩ := List.getElem_of_mem hb
 obtain ⟨hl, _, h3, h4⟩ := right_at h hi
 obtain ⟨_, _, _, _, v0, v1, _⟩ := body_leash h3 h4
 exact ⟨by omega, by omega⟩
def B13 : SC := .seq (.reg [⟨some 6, .assign (.const (.slice none 0 0)), none, []⟩]) (.seq (.reg [⟨some 12, .move (.tmp 0), none, []⟩, ⟨some 13, .move (.tmp 1), none, []⟩, ⟨some 14, .call ⟨.value (.func 28), #[.tmp 12, .tmp 13], #[3, 22]⟩, none, []⟩, ⟨some 7, .alloc 42, none, []⟩, ⟨none, .store 42 (.tmp 7) (.tmp 14), none, []⟩]) (.seq (.seq (.reg [⟨some 15, .fieldAddr 42 (.tmp 7) 0, none, []⟩, ⟨some 16, .load 4 (.tmp 15), none, []⟩, ⟨some 17, .unOp .not 4 (.tmp 16), none, []⟩, ⟨some 18, .move (.tmp 17), none, []⟩, ⟨some 19, .move (.tmp 2), some (18, false), []⟩, ⟨some 20, .call ⟨.builtin .len, #[.tmp 19], #[27]⟩, some (18, false), []⟩, ⟨some 21, .binOp .gtr 3 (.tmp 20) (.const (.int .i64 2000)) 3, some (18, false), []⟩, ⟨some 22, .pick (.tmp 18) (.const (.bool true)) (.tmp 21), none, []⟩]) (.cond (.tmp 22) (.seq (.reg [⟨some 6, .assign (.const (.slice none 0 0)), none, []⟩]) .ret) .skip)) (.seq (.reg [⟨some 8, .assign (.const (.slice none 0 0)), none, []⟩]) (.seq (.seq (.reg [⟨some 23, .move (.tmp 2), none, []⟩, ⟨some 24, .call ⟨.builtin .len, #[.tmp 23], #[27]⟩, none, []⟩, ⟨some 25, .move (.const (.int .i64 0)), none, []⟩]) (.block 0 (.loop (.seq (.reg [⟨some 26, .binOp .lss 3 (.tmp 25) (.tmp 24) 3, none, []⟩]) (.seq (.cond (.tmp 26) .skip (.exit 0)) (.seq (.block 1 (.seq (.reg [⟨some 27, .indexAddr 27 (.tmp 23) (.tmp 25), none, []⟩, ⟨some 28, .load 59 (.tmp 27), none, []⟩, ⟨some 10, .alloc 59, none, []⟩, ⟨none, .store 59 (.tmp 10) (.tmp 28), none, []⟩]) (.seq (.reg [⟨some 29, .load 42 (.tmp 7), none, []⟩, ⟨some 30, .load 59 (.tmp 10), none, []⟩, ⟨some 31, .call ⟨.value (.func 29), #[.tmp 29, .tmp 30], #[42, 59]⟩, none, []⟩, ⟨some 11, .alloc 44, none, []⟩, ⟨none, .store 44 (.tmp 11) (.tmp 31), none, []⟩]) (.seq (.seq (.reg [⟨some 32, .fieldAddr 44 (.tmp 11) 0, none, []⟩, ⟨some 33, .load 3 (.tmp 32), none, []⟩, ⟨some 34, .binOp .eql 3 (.tmp 33) (.const (.int .i64 1)) 3, none, []⟩]) (.cond (.tmp 34) (.reg [⟨some 35, .load 42 (.tmp 7), none, []⟩, ⟨some 36, .call ⟨.value (.func 30), #[.tmp 35], #[42]⟩, none, []⟩, ⟨some 37, .fieldAddr 44 (.tmp 11) 1, none, []⟩, ⟨none, .store 42 (.tmp 37) (.tmp 36), none, []⟩]) .skip)) (.seq (.reg [⟨some 38, .move (.tmp 8), none, []⟩, ⟨some 39, .load 44 (.tmp 11), none, []⟩, ⟨some 40, .buildSlice 35 1 #[(0, (.tmp 39))], none, []⟩, ⟨some 41, .call ⟨.builtin .append, #[.tmp 38, .tmp 40], #[35, 35]⟩, none, []⟩, ⟨some 8, .assign (.tmp 41), none, []⟩]) (.reg [⟨some 42, .fieldAddr 44 (.tmp 11) 1, none, []⟩, ⟨some 43, .load 42 (.tmp 42), none, []⟩, ⟨none, .store 42 (.tmp 7) (.tmp 43), none, []⟩])))))) (.reg [⟨some 44, .binOp .add 3 (.tmp 25) (.const (.int .i64 1)) 3, none, []⟩, ⟨some 25, .move (.tmp 44), none, []⟩]))))))) (.seq (.reg [⟨some 45, .move (.tmp 8), none, []⟩, ⟨some 6, .assign (.tmp 45), none, []⟩]) .ret)))))
theorem s13 : Tryd.f13.body.bind (stripC 46) = some B13 := by kernel_rfl
theorem implDrive_mk {H : Heap} {E F : List Nat} {v vt : Value} {l : List Int} {es' : List Actn} (ht : RS 1 RInt H F vt l) (h : RS 6 RAc H E v es') (s : Int) : Mkr Tryd.prog 13 [iv s, vt, v] H fun H' E' v' => RS 6 RMv H' E' v' (driveW s l es') := by
 obtain ⟨a1, c1, rfl⟩ := h.form
 have hn := h.1
 have xt := ht.one
 refine Mkr.of_bodyS (N := 46) Tryd.func13 s13 (by kernel_rfl) rfl rfl (by simp) ?_; unfold B13
 repeat (first | refine sA ?_ | refine sB ?_ | refine sC ?_ | refine sD ?_ | refine sE rfl ?_ | refine sF rfl ?_ | refine sG rfl ?_ | (refine sk_reg fun K hK => ?_; simp; refine hK _ ?_; clear hK K))
 refine sk_reg fun K hK => ?_; simp
 refine AskX.mkr (implStart_mk (ht.gro (by first | exact Gro.refl _ | exact ⟨_, rfl⟩ | exact ⟨_, by simp only [List.append_assoc, List.cons_append, List.nil_append]; rfl⟩ | exact ⟨[], by simp⟩) (RP.frm _)) s) ?_; rintro _ J1 A1 ⟨cs1, rfl, r1⟩ o1 n1; simp
 obtain ⟨wl, wb, E1, E2, rfl, rfl, hwl, hwb⟩ := RWd.five r1
 simp [hwl.one, hwb.one, hwl.cv, hwb.cv]
 refine hK _ ?_; clear hK K
 by_cases hb : (startW s l).ok = true
 case neg =>
  have hb' : (startW s l).ok = false := by simpa using hb
  repeat (first | refine sA ?_ | refine sB ?_ | refine sC ?_ | refine sD ?_ | refine sE rfl ?_ | refine sF rfl ?_ | refine sG rfl ?_ | (refine sk_reg fun K hK => ?_; simp [hb']; refine hK _ ?_; clear hK K))
  refine sk_ret ?_; simp
  exact ⟨fun i hi => List.getElem?_append_left hi, [], ⟨by simp [driveW, hb'], .inl ⟨.inl rfl, by simp [driveW, hb'], rfl⟩⟩, ⟨List.nodup_nil, fun i hi => by simp at hi⟩, fun i hi => by simp at hi⟩
 by_cases hlen : es'.length ≤ 2000
 case neg =>
  have hlen' : (2000 : Int) < es'.length := by omega
  repeat (first | refine sA ?_ | refine sB ?_ | refine sC ?_ | refine sD ?_ | refine sE rfl ?_ | refine sF rfl ?_ | refine sG rfl ?_ | (refine sk_reg fun K hK => ?_; simp [hb, hlen']; refine hK _ ?_; clear hK K))
  refine sk_ret ?_; simp
  exact ⟨fun i hi => List.getElem?_append_left hi, [], ⟨by simp [driveW, hlen], .inl ⟨.inl rfl, by simp [driveW, hlen], rfl⟩⟩, ⟨List.nodup_nil, fun i hi => by simp at hi⟩, fun i hi => by simp at hi⟩
 have hlen' : ¬ (2000 : Int) < es'.length := by omega
 have hrun : driveW s l es' = goW (startW s l) es' := by simp [driveW, hb, hlen]
 obtain ⟨hso, hsw⟩ := startW_ok hb
 have hbok : rightB (startW s l) = true := by rw [hsw]; exact wdS_ok hso
 rw [hrun]
 repeat (first | refine sA ?_ | refine sB ?_ | refine sC ?_ | refine sD ?_ | refine sE rfl ?_ | refine sF rfl ?_ | refine sG rfl ?_ | (refine sk_reg fun K hK => ?_; simp [hb, hlen']; refine hK _ ?_; clear hK K))
 obtain ⟨X, hX⟩ : ∃ X, X = H.length + J1.length := ⟨_, rfl⟩
 refine sk_loop (fun m ts H' => ∃ (i : Nat) (vl ul ub : Value) (Eb A : List Nat), i ≤ es'.length ∧ m = es'.length - i ∧ DrvI H X (startW s l) es' i vl H' ul ub Eb A ∧ ts = [(7, pt X 0), (8, vl), (23, .slice a1 es'.length c1), (24, iv es'.length), (25, iv i)]) es'.length _ ?_ ⟨0, nl, wl, wb, E1 ++ E2, [], by omega, rfl, ⟨Gro.one _ _, ?_, ?_, .inl ⟨rfl, rfl, rfl⟩, ⟨List.nodup_nil, fun i hi => by simp at hi⟩, fun i hi => by simp at hi, by omega⟩, rfl⟩ ?_
 ·simp [subL, getT, hX]
 ·rw [hX, List.getElem?_append_right (by omega), Nat.add_sub_cancel_left]
  simp [endW, hb]
 ·exact RWd.frm.gro r1 (by first | exact Gro.refl _ | exact ⟨_, rfl⟩ | exact ⟨_, by simp only [List.append_assoc, List.cons_append, List.nil_append]; rfl⟩ | exact ⟨[], by simp⟩)
 rintro m ts H1 ⟨i, vl, ul, ub, Eb, A, hi, rfl, hI, rfl⟩
 obtain ⟨hg, hx, rb, ra, oa, la, hXl⟩ := hI
 have hl1 := hg.len
 have hgz : ∀ n, H.length ≤ H1.length + n := fun n => by omega
 have hxl := lt_of_get hx
 have ba := ra.bd RMv.frm
 have hgl := goW_len (startW s l) (es'.take i)
 rw [List.length_take, Nat.min_eq_left hi] at hgl
 by_cases hlt : i < es'.length
 case neg =>
  obtain rfl : i = es'.length := by omega
  obtain ⟨a2, c2, hvl⟩ := ra.form
  subst hvl
  repeat (first | refine sA ?_ | refine sB ?_ | refine sC ?_ | refine sD ?_ | refine sE rfl ?_ | refine sF rfl ?_ | refine sG rfl ?_ | (refine sk_reg fun K hK => ?_; simp; refine hK _ ?_; clear hK K))
  refine sk_ret ?_; simp
  rw [List.take_length] at ra
  exact ⟨hl1, fun i hi => hg.same hi, A, ra.rs (by rw [goW_len]; omega), oa, fun e he => by have := la e he; omega⟩
 have hrt : rightB (endW (startW s l) (es'.take i)) = true := endW_ok hbok _
 have hgt := goW_take (w0 := startW s l) hlt
 have het := endW_take (w0 := startW s l) hlt
 generalize hB : endW (startW s l) (es'.take i) = w at *
 obtain ⟨id, o, Ek, cs, hv, hid, _, _, hR, hsz, hc⟩ := (h.gro hg (RP.frm _)).at hlt
 obtain ⟨_, rfl⟩ := hR
 generalize hev : es'[i] = e at *
 have c0 : CF H1 id (o + i * 6) (iv e.op) := fun L => by have := hc 0 _ rfl L; simpa using this
 have c1 : CF H1 id (o + i * 6 + 1) (iv e.ev.op) := fun L => hc 1 _ rfl L
 have c2 : CF H1 id (o + i * 6 + 2) (iv e.ev.train) := fun L => hc 2 _ rfl L
 have c3 : CF H1 id (o + i * 6 + 3) (iv e.ev.n) := fun L => hc 3 _ rfl L
 have c4 : CF H1 id (o + i * 6 + 4) (iv e.train) := fun L => hc 4 _ rfl L
 have c5 : CF H1 id (o + i * 6 + 5) (iv e.n) := fun L => hc 5 _ rfl L
 have x0 : CF H1 X 0 (.bool w.ok) := CF.of hx rfl rfl
 have x1 : CF H1 X 1 (.bool w.book.ok) := CF.of hx rfl rfl
 have x2 : CF H1 X 2 (iv w.book.sec) := CF.of hx rfl rfl
 have x3 : CF H1 X 3 ul := CF.of hx rfl rfl
 have x4 : CF H1 X 4 ub := CF.of hx rfl rfl
 obtain ⟨xu, xv, yu, yv⟩ := rwd_vals rb
 repeat (first | refine sA ?_ | refine sB ?_ | refine sC ?_ | refine sD ?_ | refine sE rfl ?_ | refine sF rfl ?_ | refine sG rfl ?_ | (refine sk_reg fun K hK => ?_; simp [hlt, hv, c0.s, c1.s, c2.s, c3.s, c4.s, c5.s, hl1]; refine hK _ ?_; clear hK K))
 refine sk_reg fun K hK => ?_; simp [x0.s, x1.s, x2.s, x3.s, x4.s, xu, xv]
 refine AskX.mkr (implStep_mk (RWd.frm.gro rb (by first | exact Gro.refl _ | exact ⟨_, rfl⟩ | exact ⟨_, by simp only [List.append_assoc, List.cons_append, List.nil_append]; rfl⟩ | exact ⟨[], by simp⟩)) e) ?_; rintro _ J2 A2 ⟨_, rfl, _, rfl, r2⟩ o2 n2; simp [xu, xv, hl1, hgz]
 obtain ⟨pl, pb, G1, G2, rfl, rfl, hpl, hpb⟩ := RWd.five r2
 simp [hpl.one, hpb.one, hpl.cv, hpb.cv, hl1, hgz]
 refine hK _ ?_; clear hK K
 have hbo := W2len hrt
 have xpl := hpl.one
 have xpb := hpb.one
 clear hpl hpb
 obtain ⟨T, hT⟩ : ∃ T, T = H1.length + (J2.length + 1) := ⟨_, rfl⟩
 generalize hD : stepWd w e = D at *
 have o2l := o2.lt
 simp only [List.append_assoc, List.cons_append, List.nil_append, List.length_append, List.length_cons, List.length_nil] at r2 o2 n2 o2l
 refine sk_at [(7, pt X 0), (8, vl), (11, pt T 0), (23, sl id o es'.length), (24, iv es'.length), (25, iv i)]
  (fun H2 => Gro H1 H2 ∧ H2[T]? = some ⟨44, [iv D.code, .bool D.world.ok, .bool D.world.book.ok, iv D.world.book.sec, pl, pb], true, true⟩ ∧ RWd H2 (G1 ++ G2) D.world [.bool D.world.ok, .bool D.world.book.ok, iv D.world.book.sec, pl, pb] ∧ Own H2 (G1 ++ G2) ∧ ∀ e, e ∈ G1 ++ G2 → H1.length ≤ e ∧ e ≠ T) (by simp [subL, getT, hT]) ?_ ?_
 ·refine ⟨Gro.one _ _, ?_, RWd.frm.gro r2 (by first | exact Gro.refl _ | exact ⟨_, rfl⟩ | exact ⟨_, by simp only [List.append_assoc, List.cons_append, List.nil_append]; rfl⟩ | exact ⟨[], by simp⟩), o2.gro (by first | exact Gro.refl _ | exact ⟨_, rfl⟩ | exact ⟨_, by simp only [List.append_assoc, List.cons_append, List.nil_append]; rfl⟩ | exact ⟨[], by simp⟩), fun j hj => ⟨by have := n2 j hj; omega, by have := o2l j hj; omega⟩⟩
  show (H1 ++ _)[T]? = _
  rw [hT, List.getElem?_append_right (by omega), Nat.add_sub_cancel_left]
  simp
 clear r2 o2 n2 o2l
 rintro H2 ⟨g2, hT2b, r2, o2, n2⟩
 have hl2 := g2.len
 have hTl : H1.length ≤ T := by omega
 have tc0 : CF H2 T 0 (iv D.code) := CF.of hT2b rfl rfl
 have tc1 : CF H2 T 1 (.bool D.world.ok) := CF.of hT2b rfl rfl
 have tc2 : CF H2 T 2 (.bool D.world.book.ok) := CF.of hT2b rfl rfl
 have tc3 : CF H2 T 3 (iv D.world.book.sec) := CF.of hT2b rfl rfl
 have tc4 : CF H2 T 4 pl := CF.of hT2b rfl rfl
 have tc5 : CF H2 T 5 pb := CF.of hT2b rfl rfl
 have tr := RF.of hT2b
 have y0 := x0.gro g2
 have y1 := x1.gro g2
 have y2 := x2.gro g2
 have y3 := x3.gro g2
 have y4 := x4.gro g2
 refine sk_seq ?_
 refine sk_cut [(7, pt X 0), (8, vl), (11, pt T 0), (23, sl id o es'.length), (24, iv es'.length), (25, iv i)]
  (fun H3 => ∃ ql qb Aw, H3[T]? = some ⟨44, [iv (stepM w e).code, .bool (stepM w e).world.ok, .bool (stepM w e).world.book.ok, iv (stepM w e).world.book.sec, ql, qb], true, true⟩ ∧ RWd H3 Aw (stepM w e).world [.bool (stepM w e).world.ok, .bool (stepM w e).world.book.ok, iv (stepM w e).world.book.sec, ql, qb] ∧ Own H3 Aw ∧ (∀ e, e ∈ Aw → H1.length ≤ e ∧ e ≠ T) ∧ H1.length ≤ H3.length ∧ ∀ i, i < H1.length → H3[i]? = H1[i]?) ?_ ?_
 ·by_cases hc : D.code = 1
  ·have hc' := eq_true hc
   have hs : stepM w e = ⟨1, w⟩ := by simp [stepM, hD, hc]
   have wT : H.length ≤ T := by omega
   repeat (first | refine sA ?_ | refine sB ?_ | refine sC ?_ | refine sD ?_ | refine sE rfl ?_ | refine sF rfl ?_ | refine sG rfl ?_ | (refine sk_reg fun K hK => ?_; simp [tc0.s, hc']; refine hK _ ?_; clear hK K))
   refine sk_reg fun K hK => ?_; simp [y0.s, y1.s, y2.s, y3.s, y4.s, xu, xv]
   refine AskX.mkr (again_mk (RWd.frm.gro rb g2) hbo) ?_; rintro _ J3 A3 ⟨_, rfl, r3⟩ o3 n3; simp [tc0.s, tc1.s, tc2.s, tc3.s, tc4.s, tc5.s, tr.s, xu, xv, wT]
   obtain ⟨ql, qb, K1, K2, rfl, rfl, hql, hqb⟩ := RWd.five r3
   simp [tc0.s, tc1.s, tc2.s, tc3.s, tc4.s, tc5.s, tr.s, hql.one, hqb.one, hql.cv, hqb.cv, wT]
   refine hK _ ?_; clear hK K
   have o3l := o3.lt
   have hTl2 := lt_of_get hT2b
   have hF : ∀ i, i ≠ T → ((((((H2 ++ J3).put T 1 (.bool w.ok)).put T 2 (.bool w.book.ok)).put T 3 (iv w.book.sec)).put T 4 ql).put T 5 qb)[i]? = (H2 ++ J3)[i]? := fun i hi => by rw [get_put_ne _ _ _ hi, get_put_ne _ _ _ hi, get_put_ne _ _ _ hi, get_put_ne _ _ _ hi, get_put_ne _ _ _ hi]
   have nT : ∀ e, e ∈ K1 ++ K2 → e ≠ T := fun e he => by have := n3 e he; omega
   refine sk_inv ⟨by simp [subL, getT], ql, qb, K1 ++ K2, ?_, ?_, ?_, fun j hj => ⟨by have := n3 j hj; omega, nT j hj⟩, ?_, fun j hj => ?_⟩
   ·rw [hs, get_put, get_put, get_put, get_put, get_put, List.getElem?_append_left hTl2, hT2b]
    simp [hc]
   ·rw [hs]
    exact RWd.frm.fr r3 fun e he _ => hF e (nT e he)
   ·exact o3.fr fun e he => hF e (nT e he)
   ·simp only [length_put, List.length_append]; omega
   ·rw [hF j (by omega), List.getElem?_append_left (by omega), g2.same hj]
  ·have hs : stepM w e = D := by simp [stepM, hD, hc]
   repeat (first | refine sA ?_ | refine sB ?_ | refine sC ?_ | refine sD ?_ | refine sE rfl ?_ | refine sF rfl ?_ | refine sG rfl ?_ | (refine sk_reg fun K hK => ?_; simp [tc0.s, hc]; refine hK _ ?_; clear hK K))
   refine sk_inv ⟨by simp [subL, getT], pl, pb, G1 ++ G2, by rw [hs]; exact hT2b, by rw [hs]; exact r2, o2, n2, hl2, fun j hj => g2.same hj⟩
 clear tc0 tc1 tc2 tc3 tc4 tc5 tr y0 y1 y2 y3 y4 r2 o2 n2
 rintro H3 ⟨ql, qb, Aw, hT3b, r3, o3, n3, hl3, s3⟩
 generalize hS : stepM w e = S at *
 have hx3 : H3[X]? = _ := (s3 X hxl).trans hx
 obtain ⟨xql, xqb, yql, yqb⟩ := rwd_vals r3
 have hw := wrap_id (x := (i : Int) + 1) (by omega) (by omega)
 have u0 : CF H3 T 0 (iv S.code) := CF.of hT3b rfl rfl
 have u1 : CF H3 T 1 (.bool S.world.ok) := CF.of hT3b rfl rfl
 have u2 : CF H3 T 2 (.bool S.world.book.ok) := CF.of hT3b rfl rfl
 have u3 : CF H3 T 3 (iv S.world.book.sec) := CF.of hT3b rfl rfl
 have u4 : CF H3 T 4 ql := CF.of hT3b rfl rfl
 have u5 : CF H3 T 5 qb := CF.of hT3b rfl rfl
 have hd3 : RMv H3 Aw S [iv S.code, .bool S.world.ok, .bool S.world.book.ok, iv S.world.book.sec, ql, qb] := ⟨_, rfl, r3⟩
 have ra3 : RW 44 6 RMv H3 A vl (goW (startW s l) (es'.take i)) := ra.fr RMv.frm fun j hj hl => s3 j hl
 have oa3 : Own H3 A := oa.fr fun j hj => s3 j (ba j hj)
 obtain ⟨k, v', H4, A', e1, e2, e3, e4, e5, e6, e7⟩ := app_one (P := Tryd.prog) (t := 35) (e := 44) (sz := 5) (by' := 80) (z := .agg #[iv 0, .bool false, .bool false, iv 0, nl, nl]) (by simp) (by simp) (by simp) (by simp) rfl RMv.frm ra3 oa3 hd3 o3 (fun j h1 h2 => by have := ba j h1; have := (n3 j h2).1; omega) rfl (by simp [xql, xqb]) (by rw [hgl]; omega) (by rw [hgl]; simp [maxLen]; omega)
 have hwr : wrO H.length [] k := fun j hj => .inl (by have := la j (e2 j hj).1; omega)
 have hT4 : H4[T]? = H3[T]? := e4 T (lt_of_get hT3b) fun hh => by have := ba T hh; omega
 have hX4 : H4[X]? = _ := (e4 X (by omega) fun hh => by have := la X hh; omega).trans hx3
 rw [hT3b] at hT4
 have p0 : CF H4 T 0 (iv S.code) := CF.of hT4 rfl rfl
 have p1 : CF H4 T 1 (.bool S.world.ok) := CF.of hT4 rfl rfl
 have p2 : CF H4 T 2 (.bool S.world.book.ok) := CF.of hT4 rfl rfl
 have p3 : CF H4 T 3 (iv S.world.book.sec) := CF.of hT4 rfl rfl
 have p4 : CF H4 T 4 ql := CF.of hT4 rfl rfl
 have p5 : CF H4 T 5 qb := CF.of hT4 rfl rfl
 have q0 : CF H4 X 0 (.bool w.ok) := CF.of hX4 rfl rfl
 have q1 : CF H4 X 1 (.bool w.book.ok) := CF.of hX4 rfl rfl
 have q2 : CF H4 X 2 (iv w.book.sec) := CF.of hX4 rfl rfl
 have q3 : CF H4 X 3 ul := CF.of hX4 rfl rfl
 have q4 : CF H4 X 4 ub := CF.of hX4 rfl rfl
 have pr := RF.of hX4
 have hl13 : H.length ≤ H3.length := by omega
 refine sk_seq ?_
 refine sk_reg fun K hK => ?_; simp [u0.s, u1.s, u2.s, u3.s, u4.s, u5.s, xql, xqb, hl13, e1, hwr]
 refine hK _ ?_; clear hK K
 repeat (first | refine sA ?_ | refine sB ?_ | refine sC ?_ | refine sD ?_ | refine sE rfl ?_ | refine sF rfl ?_ | refine sG rfl ?_ | (refine sk_reg fun K hK => ?_; simp [p0.s, p1.s, p2.s, p3.s, p4.s, p5.s, q0.s, q1.s, q2.s, q3.s, q4.s, pr.s, xql, xqb, hXl, hw]; refine hK _ ?_; clear hK K))
 have nX' : ∀ j, j ∈ A' → X < j := fun j hj => by
  rcases e7 j hj with h | h | h
  ·exact la j h
  ·have := (n3 j h).1; omega
  ·omega
 have nX : ∀ j, j ∈ A' → j ≠ X := fun j hj => by have := nX' j hj; omega
 have hF : ∀ j, j ≠ X → (((((H4.put X 0 (.bool S.world.ok)).put X 1 (.bool S.world.book.ok)).put X 2 (iv S.world.book.sec)).put X 3 ql).put X 4 qb)[j]? = H4[j]? := fun j hj => by rw [get_put_ne _ _ _ hj, get_put_ne _ _ _ hj, get_put_ne _ _ _ hj, get_put_ne _ _ _ hj, get_put_ne _ _ _ hj]
 refine sk_inv ⟨es'.length - (i + 1), _, by omega, ?_, i + 1, v', ql, qb, Aw, A', by omega, rfl, ⟨?_, ?_, ?_, ?_, ?_, nX', hXl⟩, rfl⟩
 ·simp [subL, getT, hv]
 ·refine Gro.of (by simp only [length_put]; omega) fun j hj => ?_
  rw [hF j (by omega), e4 j (by omega) fun hh => by have := la j hh; omega, s3 j (by omega), hg.same hj]
 ·rw [get_put, get_put, get_put, get_put, get_put, hX4, het]
  rfl
 ·rw [het]
  exact RWd.frm.fr r3 fun j hj hl => (hF j (by have := (n3 j hj).1; omega)).trans (e4 j hl fun hh => by have := ba j hh; have := (n3 j hj).1; omega)
 ·rw [hgt]
  exact e5.fr RMv.frm fun j hj hl => hF j (nX j hj)
 ·exact e6.fr fun j hj => hF j (nX j hj)
end Go.Proofs.YtpoedfmkiiijnaaDoor
