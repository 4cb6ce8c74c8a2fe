/- Worlds: read anew, copied; is a world right? Walks. -/
import Derived.Test.YtpoedfmkiiijnaaDoorGJ
import Derived.Test.YtpoedfmkiiijnaaDoorGL
import Derived.Test.YtpoedfmkiiijnaaDoorGN
import Derived.Test.YtpoedfmkiiijnaaDoorAp1
import Derived.Test.YtpoedfmkiiijnaaDoorGD
namespace Go.Proofs.YtpoedfmkiiijnaaDoor
open Go Go.RowKit Go.Proofs.YtpoedfmkiiijnaaDoorAm
set_option linter.unusedVariables false
set_option linter.unusedSimpArgs false
set_option maxRecDepth 10000
set_option maxHeartbeats 8000000
theorem tl2 (H J K : Heap) (a b a' b' : Blk) {i : Nat} (h : H.length + 2 ≤ i) (hl : i < (H ++ a :: b :: J).length) : (H ++ a' :: b' :: (J ++ K))[i]? = (H ++ a :: b :: J)[i]? := by
 simp only [List.length_append, List.length_cons] at hl
 rw [get_t2 _ _ _ _ h, get_t2 _ _ _ _ h, List.getElem?_append_left (by omega)]
theorem tl3n (H J : Heap) (a b c a' b' c' : Blk) {i : Nat} (h : H.length + 3 ≤ i) : (H ++ a' :: b' :: c' :: J)[i]? = (H ++ a :: b :: c :: J)[i]? := by rw [get_t3 _ _ _ _ _ h, get_t3 _ _ _ _ _ h]
def B77 : SC := .seq (.reg [⟨some 3, .box 88 (.tmp 1), none, []⟩, ⟨some 4, .assign (.const (.int .i64 0)), none, []⟩]) (.seq (.seq (.reg [⟨some 6, .move (.tmp 0), none, []⟩, ⟨some 7, .call ⟨.builtin .len, #[.tmp 6], #[48]⟩, none, []⟩, ⟨some 8, .move (.const (.int .i64 0)), none, []⟩]) (.block 0 (.loop (.seq (.reg [⟨some 9, .binOp .lss 3 (.tmp 8) (.tmp 7) 3, none, []⟩]) (.seq (.cond (.tmp 9) .skip (.exit 0)) (.seq (.block 1 (.seq (.reg [⟨some 10, .move (.tmp 8), none, []⟩, ⟨some 5, .assign (.tmp 10), none, []⟩]) (.seq (.drw 0 [⟨some 11, .load 88 (.tmp 3), none, []⟩, ⟨some 12, .move (.tmp 0), none, []⟩, ⟨some 13, .move (.tmp 5), none, []⟩, ⟨some 14, .indexAddr 48 (.tmp 12) (.tmp 13), none, [1, 2]⟩, ⟨some 15, .load 88 (.tmp 14), none, [3, 1, 2]⟩, ⟨some 16, .binOp .eql 88 (.tmp 11) (.tmp 15) 88, none, [0, 4, 3, 1, 2]⟩]) (.cond (.tmp 16) (.seq (.reg [⟨some 17, .move (.tmp 5), none, []⟩, ⟨some 4, .assign (.tmp 17), none, []⟩]) .ret) .skip)))) (.reg [⟨some 18, .binOp .add 3 (.tmp 8) (.const (.int .i64 1)) 3, none, []⟩, ⟨some 8, .move (.tmp 18), none, []⟩]))))))) (.seq (.reg [⟨some 4, .assign (.const (.int .i64 (-1))), none, []⟩]) .ret))
theorem s77 : Tryd.f77.body.bind (stripC 19) = some B77 := by kernel_rfl
theorem indexG_ac {H : Heap} {E : List Nat} {v : Value} {xs : List Gr} (h : RS 2 RGr H E v xs) (x : Gr) : AC Tryd.prog 77 [v, .agg #[iv x.ver, iv x.cel]] H (iv (fstI (isG x) xs)) H [] := by
 obtain ⟨a1, c1, ha⟩ := h.form
 have hn := h.1
 refine AC.of_pureS (N := 19) Tryd.func77 s77 (by kernel_rfl) rfl rfl (by simp) rfl ?_; unfold B77
 rw [ha]
 repeat (first | refine sA ?_ | refine sB ?_ | refine sC ?_ | refine sD ?_ | refine sE rfl ?_ | refine sF rfl ?_ | refine sG rfl ?_ | ((first | refine sk_reg fun K hK => ?_ | refine sk_drw mix fun K hK => ?_); simp; refine hK _ ?_; clear hK K))
 rw [← ha]
 refine sk_rng xs.length (fun i => [(0, v), (3, pt H.length 0), (7, iv xs.length), (8, iv i)]) (fun i H1 => Gro H H1 ∧ H1[H.length]? = some ⟨88, [iv x.ver, iv x.cel], true, true⟩ ∧ ∀ j (hj : j < i) (hx : j < xs.length), isG x xs[j] = false) (by simp [subL, getT, ha]) ⟨Gro.one _ _, by simp, fun j hj => by omega⟩ ?_ ?_
 ·rintro i H1 hi ⟨hg, hbx, hpre⟩
  obtain ⟨id, o, hv, hid, d0, d1⟩ := (h.gro hg (RP.frm _)).gr hi
  have b0 : CF H1 H.length 0 (iv x.ver) := CF.of hbx rfl rfl
  have b1 : CF H1 H.length 1 (iv x.cel) := CF.of hbx rfl rfl
  have hw := wrap_id (x := (i : Int) + 1) (by omega) (by omega)
  have hl := hg.len
  by_cases hb : x.ver = xs[i].ver ∧ x.cel = xs[i].cel
  ·have hb' : isG x xs[i] = true := by simp [isG, hb.1, hb.2]
   have hr := fstI_some hi hb' fun j hj => hpre j hj (by omega)
   rw [← hb.1] at d0
   rw [← hb.2] at d1
   repeat (first | refine sA ?_ | refine sB ?_ | refine sC ?_ | refine sD ?_ | refine sE rfl ?_ | refine sF rfl ?_ | refine sG rfl ?_ | ((first | refine sk_reg fun K hK => ?_ | refine sk_drw mix fun K hK => ?_); simp [hi, hv, d0.s, d1.s, b0.s, b1.s, hw, hl]; refine hK _ ?_; clear hK K))
   refine sk_ret ?_; simp [hr]
   exact hg
  ·have hb' : isG x xs[i] = false := by
    simp only [isG, Bool.and_eq_false_iff, decide_eq_false_iff_not]
    by_cases e : x.ver = xs[i].ver
    ·exact .inr fun h => hb ⟨e, h⟩
    ·exact .inl e
   have hbt : (x.ver = xs[i].ver → ¬ x.cel = xs[i].cel) := fun h1 h2 => hb ⟨h1, h2⟩
   have hbf : (decide (x.ver = xs[i].ver) && decide (x.cel = xs[i].cel)) = false := by simpa [isG] using hb'
   repeat (first | refine sA ?_ | refine sB ?_ | refine sC ?_ | refine sD ?_ | refine sE rfl ?_ | refine sF rfl ?_ | refine sG rfl ?_ | ((first | refine sk_reg fun K hK => ?_ | refine sk_drw mix fun K hK => ?_); simp [hi, hv, d0.s, d1.s, b0.s, b1.s, hw, hl, hbf]; refine hK _ ?_; clear hK K))
   refine sk_inv ⟨?_, hg, hbx, fun j hj hx => ?_⟩
   ·simp [subL, getT, hv]
   ·by_cases e : j = i
    ·subst e; exact hb'
    ·exact hpre j (by omega) hx
 ·rintro H1 ⟨hg, hbx, hpre⟩
  have hr := fstI_none (p := isG x) (xs := xs) fun j hj => hpre j hj hj
  repeat (first | refine sA ?_ | refine sB ?_ | refine sC ?_ | refine sD ?_ | refine sE rfl ?_ | refine sF rfl ?_ | refine sG rfl ?_ | ((first | refine sk_reg fun K hK => ?_ | refine sk_drw mix fun K hK => ?_); simp [ha]; refine hK _ ?_; clear hK K))
  refine sk_ret ?_; simp [hr]
  exact hg
def B60 : SC := .seq (.reg [⟨some 3, .box 88 (.tmp 1), none, []⟩, ⟨some 4, .assign (.const (.bool false)), none, []⟩]) (.seq (.reg [⟨some 5, .move (.tmp 0), none, []⟩, ⟨some 6, .load 88 (.tmp 3), none, []⟩, ⟨some 7, .call ⟨.value (.func 77), #[.tmp 5, .tmp 6], #[48, 88]⟩, none, []⟩, ⟨some 8, .binOp .geq 3 (.tmp 7) (.const (.int .i64 0)) 3, none, []⟩, ⟨some 4, .assign (.tmp 8), none, []⟩]) .ret)
theorem s60 : Tryd.f60.body.bind (stripC 9) = some B60 := by kernel_rfl
theorem containsG_ac {H : Heap} {E : List Nat} {v : Value} {xs : List Gr} (h : RS 2 RGr H E v xs) (x : Gr) : AC Tryd.prog 60 [v, .agg #[iv x.ver, iv x.cel]] H (.bool (decide (x ∈ xs))) H [] := by
 obtain ⟨a1, c1, ha⟩ := h.form
 refine AC.of_pureS (N := 9) Tryd.func60 s60 (by kernel_rfl) rfl rfl (by simp) rfl ?_; unfold B60
 rw [ha]
 have ac := fun L : Heap => indexG_ac (H := H ++ L) (h.ext (RP.frm _)) x
 rw [ha] at ac
 repeat (first | refine sA ?_ | refine sB ?_ | refine sC ?_ | refine sD ?_ | refine sE rfl ?_ | refine sF rfl ?_ | refine sG rfl ?_ | (refine sk_reg fun K hK => ?_; simp; (repeat ((first | refine AskX.go (ac _) ?_); simp)); refine hK _ ?_; clear hK K))
 refine sk_ret ?_; simp [contG]
theorem W2len {w : Wd} (h : rightB w = true) : w.book.lines.length ≤ 1048576 ∧ w.bodies.length ≤ 1048576 ∧ ∀ l, l ∈ w.book.lines → lenOk l := by
 obtain ⟨_, h2, h3, _⟩ := rightB_all h
 obtain ⟨h4, h5⟩ := bookOk_len h2
 exact ⟨h4, by omega, h5⟩
def B30 : SC := .seq (.reg [⟨some 1, .box 42 (.tmp 0), none, []⟩, ⟨some 2, .alloc 42, none, []⟩]) (.seq (.reg [⟨some 3, .fieldAddr 42 (.tmp 1) 1, none, []⟩, ⟨some 4, .load 39 (.tmp 3), none, []⟩, ⟨some 5, .call ⟨.value (.func 50), #[.tmp 4], #[39]⟩, none, []⟩, ⟨some 6, .fieldAddr 42 (.tmp 1) 1, none, []⟩, ⟨none, .store 39 (.tmp 6) (.tmp 5), none, []⟩]) (.seq (.reg [⟨some 7, .fieldAddr 42 (.tmp 1) 2, none, []⟩, ⟨some 8, .load 40 (.tmp 7), none, []⟩, ⟨some 9, .call ⟨.value (.func 51), #[.tmp 8], #[40]⟩, none, []⟩, ⟨some 10, .fieldAddr 42 (.tmp 1) 2, none, []⟩, ⟨none, .store 40 (.tmp 10) (.tmp 9), none, []⟩]) (.seq (.reg [⟨some 11, .load 42 (.tmp 1), none, []⟩, ⟨none, .store 42 (.tmp 2) (.tmp 11), none, []⟩]) .ret)))
theorem s30 : Tryd.f30.body.bind (stripC 12) = some B30 := by kernel_rfl
theorem again_mk {H : Heap} {E : List Nat} {w : Wd} {cs : List Value} (h : RWd H E w cs) (hb : w.book.lines.length ≤ 1048576 ∧ w.bodies.length ≤ 1048576 ∧ ∀ l, l ∈ w.book.lines → lenOk l) : Mkr Tryd.prog 30 [.agg cs.toArray] H fun H' E' v' => ∃ cs', v' = .agg cs'.toArray ∧ RWd H' E' w cs' := by
 obtain ⟨E1, E2, c, vb, rfl, rfl, hbk, hbd⟩ := h
 have hbk0 := hbk
 obtain ⟨vl, rfl, hl⟩ := hbk
 have x := hl.one
 have y := hbd.one
 refine Mkr.of_bodyS (N := 12) Tryd.func30 s30 (by kernel_rfl) rfl rfl (by simp) ?_; unfold B30
 repeat (first | refine sA ?_ | refine sB ?_ | refine sC ?_ | refine sD ?_ | refine sE rfl ?_ | refine sF rfl ?_ | refine sG rfl ?_ | (refine sk_reg fun K hK => ?_; simp [x, y]; refine hK _ ?_; clear hK K))
 refine sk_reg fun K hK => ?_; simp [x, y]
 refine AskX.mkr (copied_mk (RBk.frm.gro hbk0 (by first | exact Gro.refl _ | exact ⟨_, rfl⟩ | exact ⟨_, by simp only [List.append_assoc, List.cons_append, List.nil_append]; rfl⟩ | exact ⟨[], by simp⟩)) hb.1 hb.2.2) ?_; rintro _ J1 A1 ⟨w1, rfl, r1⟩ o1 n1; simp [x, y, r1.one, r1.cv]
 refine hK _ ?_; clear hK K
 have r1 := r1.ofW hb.2.2
 repeat (first | refine sA ?_ | refine sB ?_ | refine sC ?_ | refine sD ?_ | refine sE rfl ?_ | refine sF rfl ?_ | refine sG rfl ?_ | (refine sk_reg fun K hK => ?_; simp [x, y]; refine hK _ ?_; clear hK K))
 refine sk_reg fun K hK => ?_; simp [x, y]
 refine AskX.mkr (cloneB_mk (hbd.gro (by first | exact Gro.refl _ | exact ⟨_, rfl⟩ | exact ⟨_, by simp only [List.append_assoc, List.cons_append, List.nil_append]; rfl⟩ | exact ⟨[], by simp⟩) (RP.frm _)) hb.2.1) ?_; rintro w2 J2 A2 r2 o2 n2; simp [x, y, r1.one, r1.cv, r2.one, r2.cv]
 refine hK _ ?_; clear hK K
 have r2 := r2.rs (by have := hb.2.1; omega)
 repeat (first | refine sA ?_ | refine sB ?_ | refine sC ?_ | refine sD ?_ | refine sE rfl ?_ | refine sF rfl ?_ | refine sG rfl ?_ | (refine sk_reg fun K hK => ?_; simp [x, y, r1.one, r1.cv, r2.one, r2.cv]; refine hK _ ?_; clear hK K))
 refine sk_ret ?_; simp [r1.one, r2.one]
 simp only [List.append_assoc, List.cons_append, List.nil_append, List.length_append, List.length_cons, List.length_nil] at r1 o1 n1 r2 o2 n2
 have k1 : ∀ e, e ∈ A1 → H.length + 2 ≤ e := fun e he => by have := n1 e he; omega
 have k2 : ∀ e, e ∈ A2 → H.length + 2 + J1.length ≤ e := fun e he => by have := n2 e he; omega
 have l1 := o1.lt
 have l2 := o2.lt
 refine ⟨fun i hi => List.getElem?_append_left hi, A1 ++ A2, ⟨A1, A2, [.bool w.book.ok, iv w.book.sec, w1], w2, rfl, rfl, ⟨w1, rfl, ?_⟩, ?_⟩, (Own.fr o1 ?_).app (o2.fr ?_) fun e h1 h2 => ?_, fun e he => ?_⟩
 ·exact r1.fr RLn.frm fun e he hl => tl2 _ _ _ _ _ _ _ (k1 e he) hl
 ·exact r2.fr (RP.frm _) fun e he hl => by have := tl2 H (J1 ++ J2) [] _ _ ⟨42, [.bool w.ok, .bool w.book.ok, iv w.book.sec, w1, w2], true, true⟩ ⟨42, [.bool w.ok, .bool w.book.ok, iv w.book.sec, w1, w2], true, true⟩ (by have := k2 e he; omega) hl; simpa using this
 ·exact fun e he => tl2 _ _ _ _ _ _ _ (k1 e he) (l1 e he)
 ·exact fun e he => by have := tl2 H (J1 ++ J2) [] _ _ ⟨42, [.bool w.ok, .bool w.book.ok, iv w.book.sec, w1, w2], true, true⟩ ⟨42, [.bool w.ok, .bool w.book.ok, iv w.book.sec, w1, w2], true, true⟩ (by have := k2 e he; omega) (l2 e he); simpa using this
 ·have := l1 e h1; have := k2 e h2; simp at *; omega
 ·rcases List.mem_append.1 he with he | he
  ·have := k1 e he; omega
  ·have := k2 e he; omega
def B33 : SC := .seq (.reg [⟨some 1, .box 42 (.tmp 0), none, []⟩, ⟨some 2, .alloc 42, none, []⟩]) (.seq (.drw 1 [⟨some 4, .fieldAddr 42 (.tmp 1) 0, none, []⟩, ⟨some 5, .load 4 (.tmp 4), none, [0]⟩, ⟨some 6, .fieldAddr 42 (.tmp 1) 1, none, []⟩, ⟨some 7, .load 39 (.tmp 6), none, [2]⟩, ⟨some 8, .call ⟨.value (.func 57), #[.tmp 7], #[39]⟩, none, [3, 2]⟩, ⟨some 9, .build 42 #[(0, (.tmp 5)), (1, (.tmp 8))], none, [1, 0, 4, 3, 2]⟩, ⟨some 3, .alloc 42, none, []⟩, ⟨none, .store 42 (.tmp 3) (.tmp 9), none, [6, 5, 1, 0, 4, 3, 2]⟩]) (.seq (.reg [⟨some 10, .fieldAddr 42 (.tmp 3) 2, none, []⟩, ⟨some 11, .load 40 (.tmp 10), none, []⟩, ⟨some 12, .fieldAddr 42 (.tmp 1) 2, none, []⟩, ⟨some 13, .load 40 (.tmp 12), none, []⟩, ⟨some 14, .call ⟨.builtin .append, #[.tmp 11, .tmp 13], #[40, 40]⟩, none, []⟩, ⟨some 15, .fieldAddr 42 (.tmp 3) 2, none, []⟩, ⟨none, .store 40 (.tmp 15) (.tmp 14), none, []⟩]) (.seq (.reg [⟨some 16, .load 42 (.tmp 3), none, []⟩, ⟨none, .store 42 (.tmp 2) (.tmp 16), none, []⟩]) .ret)))
theorem s33 : Tryd.f33.body.bind (stripC 17) = some B33 := by kernel_rfl
theorem l3copy_mk {H : Heap} {E : List Nat} {w : Wd} {cs : List Value} (h : RWd H E w cs) (hb : w.book.lines.length ≤ 1048576 ∧ w.bodies.length ≤ 1048576 ∧ ∀ l, l ∈ w.book.lines → lenOk l) : Mkr Tryd.prog 33 [.agg cs.toArray] H fun H' E' v' => ∃ cs', v' = .agg cs'.toArray ∧ RWd H' E' w cs' := by
 obtain ⟨E1, E2, c, vb, rfl, rfl, hbk, hbd⟩ := h
 have hbk0 := hbk
 obtain ⟨vl, rfl, hl⟩ := hbk
 have x := hl.one
 have y := hbd.one
 refine Mkr.of_bodyS (N := 17) Tryd.func33 s33 (by kernel_rfl) rfl rfl (by simp) ?_; unfold B33
 repeat (first | refine sA ?_ | refine sB ?_ | refine sC ?_ | refine sD ?_ | refine sE rfl ?_ | refine sF rfl ?_ | refine sG rfl ?_ | ((first | refine sk_reg fun K hK => ?_ | refine sk_drw mix fun K hK => ?_); simp [x, y]; refine hK _ ?_; clear hK K))
 refine sk_drw mix fun K hK => ?_; simp [x, y]
 refine AskD.mkr (l2copy_mk (RBk.frm.gro hbk0 (by first | exact Gro.refl _ | exact ⟨_, rfl⟩ | exact ⟨_, by simp only [List.append_assoc, List.cons_append, List.nil_append]; rfl⟩ | exact ⟨[], by simp⟩)) hb.1 hb.2.2) ?_; rintro _ J1 A1 ⟨w1, rfl, r1⟩ o1 n1; simp [x, y, r1.one, r1.cv]
 refine hK _ ?_; clear hK K
 have r1 := r1.ofW hb.2.2
 simp only [List.append_assoc, List.cons_append, List.nil_append, List.length_append, List.length_cons, List.length_nil] at r1 o1 n1
 have k1 : ∀ e, e ∈ A1 → H.length + 3 ≤ e := fun e he => by have := n1 e he; omega
 have l1 := o1.lt
 refine sk_at [(1, pt H.length 0), (2, pt (H.length + 1) 0), (3, pt (H.length + 2) 0)] (fun H1 => Gro H H1 ∧ H1[H.length]? = some ⟨42, [.bool w.ok, .bool w.book.ok, iv w.book.sec, vl, vb], true, true⟩ ∧ H1[H.length + 1]? = some ⟨42, [.bool false, .bool false, iv 0, nl, nl], true, true⟩ ∧
  H1[H.length + 2]? = some ⟨42, [.bool w.ok, .bool w.book.ok, iv w.book.sec, w1, nl], true, true⟩ ∧ RS 4 RLn H1 A1 w1 w.book.lines ∧ Own H1 A1) (by simp [subL, getT]) ⟨Gro.one _ _, by simp, by simp, by simp, ?_, ?_⟩ ?_
 ·exact r1.fr RLn.frm fun e he hl => tl3n _ _ _ _ _ _ _ _ (k1 e he)
 ·exact o1.fr fun e he => tl3n _ _ _ _ _ _ _ _ (k1 e he)
 clear r1 o1 n1 l1
 rintro H1 ⟨hg, b1, b2, b3, r1, o1⟩
 have hl1 := hg.len
 have l1 := o1.lt
 obtain ⟨k, v', H2, E', e1, e2, e3, e4, e5, e6, e7⟩ := app_plain (P := Tryd.prog) (t := 40) (e := 47) (sz := 3) (by' := 32) (z := .agg #[iv 0, iv 0, iv 0, iv 0]) (by simp) (by simp) (by simp) (by simp) rfl (g := cBd) (fun _ => rfl) (E1 := []) (v := nl) (xs := []) (.inl ⟨rfl, rfl, rfl⟩) ⟨List.nodup_nil, fun i hi => by simp at hi⟩ (hbd.gro hg (RP.frm _)) (by have := hb.2.1; simp; omega) (by have := hb.2.1; simp [maxLen]; omega)
 rw [List.nil_append] at e5
 have hwr : wrO H.length [] k := fun j hj => by have := (e2 j hj).1; simp at this
 have g2 : Gro H1 H2 := Gro.of e3 fun i hi => e4 i hi (by simp)
 have c2 : CF H1 (H.length + 2) 4 nl := CF.of b3 rfl rfl
 have a4 : CF H1 H.length 4 vb := CF.of b1 rfl rfl
 have d0 : CF H2 (H.length + 2) 0 (.bool w.ok) := (CF.of b3 rfl rfl).gro g2
 have d1 : CF H2 (H.length + 2) 1 (.bool w.book.ok) := (CF.of b3 rfl rfl).gro g2
 have d2 : CF H2 (H.length + 2) 2 (iv w.book.sec) := (CF.of b3 rfl rfl).gro g2
 have d3 : CF H2 (H.length + 2) 3 w1 := (CF.of b3 rfl rfl).gro g2
 have d4 : CF H2 (H.length + 2) 4 nl := (CF.of b3 rfl rfl).gro g2
 have dr := RF.of (g2.get b3)
 have f0 : CF H2 (H.length + 1) 0 (.bool false) := (CF.of b2 rfl rfl).gro g2
 have f1 : CF H2 (H.length + 1) 1 (.bool false) := (CF.of b2 rfl rfl).gro g2
 have f2 : CF H2 (H.length + 1) 2 (iv 0) := (CF.of b2 rfl rfl).gro g2
 have f3 : CF H2 (H.length + 1) 3 nl := (CF.of b2 rfl rfl).gro g2
 have f4 : CF H2 (H.length + 1) 4 nl := (CF.of b2 rfl rfl).gro g2
 have fr := RF.of (g2.get b2)
 have xw := r1.one
 have xv := e5.one
 have xcv := e5.cv
 have e5' := e5.rs (by have := hb.2.1; omega)
 repeat (first | refine sA ?_ | refine sB ?_ | refine sC ?_ | refine sD ?_ | refine sE rfl ?_ | refine sF rfl ?_ | refine sG rfl ?_ | ((first | refine sk_reg fun K hK => ?_ | refine sk_drw mix fun K hK => ?_); simp [c2.s, a4.s, e1, hwr, d0.s, d1.s, d2.s, d3.s, d4.s, dr.s, xv, xcv, xw, f0.s, f1.s, f2.s, f3.s, f4.s, fr.s]; refine hK _ ?_; clear hK K))
 refine sk_ret ?_; simp [f0.s, f1.s, f2.s, f3.s, f4.s, fr.s, xw, xv]
 have hg2 := hg.trans g2
 have hlF : H.length ≤ List.length ((((((H2.put (H.length + 2) 4 v').put (H.length + 1) 0 (.bool w.ok)).put (H.length + 1) 1 (.bool w.book.ok)).put (H.length + 1) 2 (iv w.book.sec)).put (H.length + 1) 3 w1).put (H.length + 1) 4 v') := by simp only [length_put]; exact hg2.len
 have hF : ∀ i, i ≠ H.length + 1 → i ≠ H.length + 2 → ((((((H2.put (H.length + 2) 4 v').put (H.length + 1) 0 (.bool w.ok)).put (H.length + 1) 1 (.bool w.book.ok)).put (H.length + 1) 2 (iv w.book.sec)).put (H.length + 1) 3 w1).put (H.length + 1) 4 v')[i]? = H2[i]? := fun i h1 h2 => by
  rw [get_put_ne _ _ _ h1, get_put_ne _ _ _ h1, get_put_ne _ _ _ h1, get_put_ne _ _ _ h1, get_put_ne _ _ _ h1, get_put_ne _ _ _ h2]
 generalize ((((((H2.put (H.length + 2) 4 v').put (H.length + 1) 0 (.bool w.ok)).put (H.length + 1) 1 (.bool w.book.ok)).put (H.length + 1) 2 (iv w.book.sec)).put (H.length + 1) 3 w1).put (H.length + 1) 4 v') = F at hF hlF ⊢
 have n1 : ∀ e, e ∈ A1 → F[e]? = H1[e]? := fun e he => (hF e (by have := k1 e he; omega) (by have := k1 e he; omega)).trans (g2.same (l1 e he))
 have b3l := lt_of_get b3
 have n2 : ∀ e, e ∈ E' → F[e]? = H2[e]? ∧ H1.length ≤ e := fun e he => by
  rcases e7 e he with h | h
  ·simp at h
  ·exact ⟨hF e (by omega) (by omega), by omega⟩
 refine ⟨hlF, fun i hi => (hF i (by omega) (by omega)).trans (hg2.same hi), A1 ++ E', ⟨A1, E', [.bool w.book.ok, iv w.book.sec, w1], v', rfl, rfl, ⟨w1, rfl, r1.fr RLn.frm fun e he _ => n1 e he⟩, e5'.fr (RP.frm _) fun e he _ => (n2 e he).1⟩, (o1.fr n1).app (e6.fr fun e he => (n2 e he).1) fun e h1 h2 => ?_, fun e he => ?_⟩
 ·have := l1 e h1; have := (n2 e h2).2; omega
 ·rcases List.mem_append.1 he with he | he
  ·have := k1 e he; omega
  ·have := (n2 e he).2; omega
end Go.Proofs.YtpoedfmkiiijnaaDoor
