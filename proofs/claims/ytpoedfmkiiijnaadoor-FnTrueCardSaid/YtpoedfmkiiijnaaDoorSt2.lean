/- Start of the reference. A walk. -/
import Derived.Test.YtpoedfmkiiijnaaDoorSt1
namespace Go.Proofs.YtpoedfmkiiijnaaDoor
open Go Go.RowKit Go.Proofs.YtpoedfmkiiijnaaDoorAm
set_option linter.unusedVariables false
set_option linter.unusedSimpArgs false
set_option maxRecDepth 10000
set_option maxHeartbeats 8000000
def B31 : SC := .seq (.reg [⟨some 4, .alloc 42, none, []⟩]) (.seq (.reg [⟨some 9, .move (.tmp 0), none, []⟩, ⟨some 10, .move (.tmp 1), none, []⟩, ⟨some 11, .call ⟨.builtin .len, #[.tmp 10], #[22]⟩, none, []⟩, ⟨some 12, .call ⟨.value (.func 52), #[.tmp 9, .tmp 11], #[3, 3]⟩, none, []⟩, ⟨some 5, .alloc 39, none, []⟩, ⟨none, .store 39 (.tmp 5) (.tmp 12), none, []⟩]) (.seq (.seq (.reg [⟨some 13, .fieldAddr 39 (.tmp 5) 0, none, []⟩, ⟨some 14, .load 4 (.tmp 13), none, []⟩, ⟨some 15, .unOp .not 4 (.tmp 14), none, []⟩]) (.cond (.tmp 15) (.seq (.reg [⟨some 16, .build 42 #[], none, []⟩, ⟨none, .store 42 (.tmp 4) (.tmp 16), none, []⟩]) .ret) .skip)) (.seq (.reg [⟨some 17, .load 39 (.tmp 5), none, []⟩, ⟨some 18, .build 42 #[(0, (.const (.bool true))), (1, (.tmp 17))], none, []⟩, ⟨some 6, .alloc 42, none, []⟩, ⟨none, .store 42 (.tmp 6) (.tmp 18), none, []⟩]) (.seq (.seq (.reg [⟨some 19, .move (.tmp 1), none, []⟩, ⟨some 20, .call ⟨.builtin .len, #[.tmp 19], #[22]⟩, none, []⟩, ⟨some 21, .move (.const (.int .i64 0)), none, []⟩]) (.block 0 (.loop (.seq (.reg [⟨some 22, .binOp .lss 3 (.tmp 21) (.tmp 20) 3, none, []⟩]) (.seq (.cond (.tmp 22) .skip (.exit 0)) (.seq (.block 1 (.seq (.reg [⟨some 23, .move (.tmp 21), none, []⟩, ⟨some 24, .indexAddr 22 (.tmp 19) (.tmp 21), none, []⟩, ⟨some 25, .load 3 (.tmp 24), none, []⟩, ⟨some 7, .assign (.tmp 23), none, []⟩, ⟨some 8, .assign (.tmp 25), none, []⟩]) (.seq (.seq (.reg [⟨some 26, .move (.tmp 8), none, []⟩, ⟨some 27, .move (.tmp 0), none, []⟩, ⟨some 28, .binOp .sub 3 (.tmp 27) (.const (.int .i64 1)) 3, none, []⟩, ⟨some 29, .call ⟨.value (.func 53), #[.tmp 26, .const (.int .i64 0), .tmp 28], #[3, 3, 3]⟩, none, []⟩, ⟨some 30, .unOp .not 4 (.tmp 29), none, []⟩]) (.cond (.tmp 30) (.seq (.reg [⟨some 31, .build 42 #[], none, []⟩, ⟨none, .store 42 (.tmp 4) (.tmp 31), none, []⟩]) .ret) .skip)) (.seq (.reg [⟨some 32, .fieldAddr 39 (.tmp 5) 2, none, []⟩, ⟨some 33, .load 37 (.tmp 32), none, []⟩, ⟨some 34, .move (.tmp 7), none, []⟩, ⟨some 35, .move (.tmp 8), none, []⟩, ⟨some 36, .buildSlice 22 1 #[(0, (.tmp 35))], none, []⟩, ⟨some 37, .indexAddr 37 (.tmp 33) (.tmp 34), none, []⟩, ⟨some 38, .fieldAddr 50 (.tmp 37) 1, none, []⟩, ⟨none, .store 22 (.tmp 38) (.tmp 36), none, []⟩]) (.seq (.reg [⟨some 39, .fieldAddr 39 (.tmp 5) 2, none, []⟩, ⟨some 40, .load 37 (.tmp 39), none, []⟩, ⟨some 41, .move (.tmp 7), none, []⟩, ⟨some 42, .build 88 #[(1, (.const (.int .i64 1)))], none, []⟩, ⟨some 43, .buildSlice 48 1 #[(0, (.tmp 42))], none, []⟩, ⟨some 44, .indexAddr 37 (.tmp 40) (.tmp 41), none, []⟩, ⟨some 45, .fieldAddr 50 (.tmp 44) 2, none, []⟩, ⟨none, .store 48 (.tmp 45) (.tmp 43), none, []⟩]) (.reg [⟨some 46, .fieldAddr 42 (.tmp 6) 2, none, []⟩, ⟨some 47, .load 40 (.tmp 46), none, []⟩, ⟨some 48, .build 47 #[(1, (.const (.int .i64 1)))], none, []⟩, ⟨some 49, .buildSlice 40 1 #[(0, (.tmp 48))], none, []⟩, ⟨some 50, .call ⟨.builtin .append, #[.tmp 47, .tmp 49], #[40, 40]⟩, none, []⟩, ⟨some 51, .fieldAddr 42 (.tmp 6) 2, none, []⟩, ⟨none, .store 40 (.tmp 51) (.tmp 50), none, []⟩])))))) (.reg [⟨some 52, .binOp .add 3 (.tmp 21) (.const (.int .i64 1)) 3, none, []⟩, ⟨some 21, .move (.tmp 52), none, []⟩]))))))) (.seq (.reg [⟨some 53, .load 39 (.tmp 5), none, []⟩, ⟨some 54, .fieldAddr 42 (.tmp 6) 1, none, []⟩, ⟨none, .store 39 (.tmp 54) (.tmp 53), none, []⟩]) (.seq (.seq (.reg [⟨some 55, .load 39 (.tmp 5), none, []⟩, ⟨some 56, .call ⟨.value (.func 54), #[.tmp 55], #[39]⟩, none, []⟩, ⟨some 57, .binOp .neq 3 (.tmp 56) (.const (.int .i64 0)) 3, none, []⟩]) (.cond (.tmp 57) (.seq (.reg [⟨some 58, .build 42 #[], none, []⟩, ⟨none, .store 42 (.tmp 4) (.tmp 58), none, []⟩]) .ret) .skip)) (.seq (.reg [⟨some 59, .load 42 (.tmp 6), none, []⟩, ⟨none, .store 42 (.tmp 4) (.tmp 59), none, []⟩]) .ret)))))))
theorem s31 : Tryd.f31.body.bind (stripC 60) = some B31 := by kernel_rfl
theorem specStart_mk {H : Heap} {E : List Nat} {v : Value} {l : List Int} (h : RS 1 RInt H E v l) (s : Int) : Mkr Tryd.prog 31 [iv s, v] H fun H' E' v' => ∃ cs, v' = .agg cs.toArray ∧ RWd H' E' (startW s l) cs := by
 obtain ⟨a1, c1, rfl⟩ := h.form
 have hn := h.1
 refine Mkr.of_bodyS (N := 60) Tryd.func31 s31 (by kernel_rfl) rfl rfl (by simp) ?_; unfold B31
 repeat (first | refine sA ?_ | refine sB ?_ | refine sC ?_ | refine sD ?_ | refine sE rfl ?_ | refine sF rfl ?_ | refine sG rfl ?_ | (refine sk_reg fun K hK => ?_; simp; refine hK _ ?_; clear hK K))
 refine sk_reg fun K hK => ?_; simp
 refine AskX.mkr (specBegin_mk s (l.length : Int)) ?_; rintro _ J1 A1 ⟨cs1, rfl, w1, rfl, r1⟩ o1 n1; simp [r1.one, r1.cv]
 refine hK _ ?_; clear hK K
 have hbo := beginB_ok (s := s) (n := l.length)
 by_cases hb : (beginB s l.length).ok = true
 case neg =>
  have hb' : (beginB s l.length).ok = false := by simpa using hb
  have hst : startW s l = wd0 := by
   unfold startW
   rw [if_neg]
   intro hs
   obtain ⟨h1, h2, _⟩ := startOk_all hs
   rw [hbo, h1, decide_eq_true h2] at hb'
   cases hb'
  repeat (first | refine sA ?_ | refine sB ?_ | refine sC ?_ | refine sD ?_ | refine sE rfl ?_ | refine sF rfl ?_ | refine sG rfl ?_ | (refine sk_reg fun K hK => ?_; simp [hb']; refine hK _ ?_; clear hK K))
  refine sk_ret ?_; simp
  rw [hst]
  exact ⟨fun i hi => List.getElem?_append_left hi, [], wd0_rd _, ⟨List.nodup_nil, fun i hi => by simp at hi⟩, fun i hi => by simp at hi⟩
 rw [hbo] at hb
 simp only [Bool.and_eq_true, decide_eq_true_eq] at hb
 obtain ⟨hs1, hl20⟩ := hb
 have hs2 := hs1
 simp only [inB, Bool.and_eq_true, decide_eq_true_eq] at hs2
 have hBk : beginB s l.length = ⟨true, s, List.replicate l.length line0⟩ := by
  unfold beginB
  rw [if_pos ⟨hs1, by simp [inB]; omega⟩]; simp
 rw [hBk] at r1 ⊢
 have xw := r1.one
 repeat (first | refine sA ?_ | refine sB ?_ | refine sC ?_ | refine sD ?_ | refine sE rfl ?_ | refine sF rfl ?_ | refine sG rfl ?_ | (refine sk_reg fun K hK => ?_; simp [xw]; refine hK _ ?_; clear hK K))
 obtain ⟨X5, hX5⟩ : ∃ X, X = H.length + (J1.length + 1) := ⟨_, rfl⟩
 have l1 := o1.lt
 simp only [List.append_assoc, List.cons_append, List.nil_append, List.length_append, List.length_cons, List.length_nil] at r1 o1 n1 l1
 refine sk_loop (fun m ts H' => ∃ (i : Nat) (vB : Value) (A B : List Nat), i ≤ l.length ∧ m = l.length - i ∧ StI H X5 s l w1 i i H' vB A B ∧ (∀ x, x ∈ l.take i → inB x 0 (s - 1) = true) ∧ ts = [(0, iv s), (1, .slice a1 l.length c1), (4, pt H.length 0), (5, pt X5 0), (6, pt (X5 + 1) 0), (19, .slice a1 l.length c1), (20, iv l.length), (21, iv i)])
  l.length _ ?_ ⟨0, nl, A1, [], by omega, rfl, ⟨Gro.one _ _, by simp, ?_, ?_, ?_, .inl ⟨rfl, rfl, rfl⟩, ?_, ⟨List.nodup_nil, fun i hi => by simp at hi⟩, ?_, fun i hi => by simp at hi, fun i hi hh => by simp at hh, by omega⟩, fun x hx => by simp at hx, rfl⟩ ?_
 ·simp [subL, getT, hX5]
 ·rw [hX5, List.getElem?_append_right (by omega), Nat.add_sub_cancel_left]
  simp
 ·rw [hX5, Nat.add_assoc, List.getElem?_append_right (by omega), Nat.add_sub_cancel_left]
  simp
 ·rw [lnsS_0]; exact r1.gro (by first | exact Gro.refl _ | exact ⟨_, rfl⟩ | exact ⟨_, by simp only [List.append_assoc, List.cons_append, List.nil_append]; rfl⟩ | exact ⟨[], by simp⟩) RLn.frm
 ·exact o1.gro (by first | exact Gro.refl _ | exact ⟨_, rfl⟩ | exact ⟨_, by simp only [List.append_assoc, List.cons_append, List.nil_append]; rfl⟩ | exact ⟨[], by simp⟩)
 ·exact fun e he => ⟨by have := n1 e he; omega, by have := l1 e he; omega, by have := l1 e he; omega⟩
 clear r1 o1 n1 l1
 rintro m ts H1 ⟨i, vB, A, B, hi, rfl, hI, hin, rfl⟩
 obtain ⟨hg, b4, b5, b6, rl, rb, oa, ob, la, lb, ab, hx⟩ := hI
 have hl1 := hg.len
 have hgz : ∀ n, H.length ≤ H1.length + n := fun n => by omega
 have f0 : CF H1 H.length 0 (.bool false) := CF.of b4 rfl rfl
 have f1 : CF H1 H.length 1 (.bool false) := CF.of b4 rfl rfl
 have f2 : CF H1 H.length 2 (iv 0) := CF.of b4 rfl rfl
 have f3 : CF H1 H.length 3 nl := CF.of b4 rfl rfl
 have f4 : CF H1 H.length 4 nl := CF.of b4 rfl rfl
 have fr := RF.of b4
 have d2 : CF H1 X5 2 w1 := CF.of b5 rfl rfl
 have e0 : CF H1 (X5 + 1) 0 (.bool true) := CF.of b6 rfl rfl
 have e1 : CF H1 (X5 + 1) 1 (.bool true) := CF.of b6 rfl rfl
 have e2 : CF H1 (X5 + 1) 2 (iv s) := CF.of b6 rfl rfl
 have e3 : CF H1 (X5 + 1) 3 w1 := CF.of b6 rfl rfl
 have e4 : CF H1 (X5 + 1) 4 vB := CF.of b6 rfl rfl
 have xv := rb.one
 have xcv := rb.cv
 have b5l := lt_of_get b5
 have b6l := lt_of_get b6
 have bda := oa.lt
 have bdb := ob.lt
 by_cases hlt : i < l.length
 case neg =>
  obtain rfl : i = l.length := by omega
  rw [List.take_length] at hin
  have hbc := bkS_code hs1 hl20 hin
  rw [lnsS_n] at rl
  have gr6 := RF.of b6
  have hF6 : ∀ j, j ≠ X5 + 1 → (((H1.put (X5 + 1) 1 (.bool true)).put (X5 + 1) 2 (iv s)).put (X5 + 1) 3 w1)[j]? = H1[j]? := fun j hj => by rw [get_put_ne _ _ _ hj, get_put_ne _ _ _ hj, get_put_ne _ _ _ hj]
  have hF66 : (((H1.put (X5 + 1) 1 (.bool true)).put (X5 + 1) 2 (iv s)).put (X5 + 1) 3 w1)[X5 + 1]? = some ⟨42, [.bool true, .bool true, iv s, w1, vB], true, true⟩ := by rw [get_put, get_put, get_put, b6]; rfl
  have hlF6 : List.length (((H1.put (X5 + 1) 1 (.bool true)).put (X5 + 1) 2 (iv s)).put (X5 + 1) 3 w1) = H1.length := by simp only [length_put]
  have d0 : CF H1 X5 0 (.bool true) := CF.of b5 rfl rfl
  have d1 : CF H1 X5 1 (iv s) := CF.of b5 rfl rfl
  have hx6 : H.length ≤ X5 + 1 := by omega
  repeat (first | refine sA ?_ | refine sB ?_ | refine sC ?_ | refine sD ?_ | refine sE rfl ?_ | refine sF rfl ?_ | refine sG rfl ?_ | (refine sk_reg fun K hK => ?_; simp [d0.s, d1.s, d2.s, e1.s, e2.s, e3.s, gr6.s, xw, hx6]; refine hK _ ?_; clear hK K))
  generalize (((H1.put (X5 + 1) 1 (.bool true)).put (X5 + 1) 2 (iv s)).put (X5 + 1) 3 w1) = F at hF6 hF66 hlF6 ⊢
  have hA : ∀ j, j ∈ A → F[j]? = H1[j]? := fun j hj => hF6 j (la j hj).2.2
  have hB : ∀ j, j ∈ B → F[j]? = H1[j]? := fun j hj => hF6 j (lb j hj).2.2
  have rl := rl.fr RLn.frm (H' := F) fun j hj _ => hA j hj
  have rb := rb.fr (RP.frm _) (H' := F) fun j hj _ => hB j hj
  have oa := oa.fr (H' := F) hA
  have ob := ob.fr (H' := F) hB
  have hg := Gro.of (H := H) (H1 := F) (by omega) fun j hj => (hF6 j (by omega)).trans (hg.same hj)
  have b5 := (hF6 X5 (by omega)).trans b5
  have b4 := (hF6 H.length (by omega)).trans b4
  have hl1 := hg.len
  have d0 : CF F X5 0 (.bool true) := CF.of b5 rfl rfl
  have d1 : CF F X5 1 (iv s) := CF.of b5 rfl rfl
  have d2 : CF F X5 2 w1 := CF.of b5 rfl rfl
  have e0 : CF F (X5 + 1) 0 (.bool true) := CF.of hF66 rfl rfl
  have e1 : CF F (X5 + 1) 1 (.bool true) := CF.of hF66 rfl rfl
  have e2 : CF F (X5 + 1) 2 (iv s) := CF.of hF66 rfl rfl
  have e3 : CF F (X5 + 1) 3 w1 := CF.of hF66 rfl rfl
  have e4 : CF F (X5 + 1) 4 vB := CF.of hF66 rfl rfl
  have f0 : CF F H.length 0 (.bool false) := CF.of b4 rfl rfl
  have f1 : CF F H.length 1 (.bool false) := CF.of b4 rfl rfl
  have f2 : CF F H.length 2 (iv 0) := CF.of b4 rfl rfl
  have f3 : CF F H.length 3 nl := CF.of b4 rfl rfl
  have f4 : CF F H.length 4 nl := CF.of b4 rfl rfl
  have fr := RF.of b4
  have ac := specBookOk_ac (show RBk F A (bkS s l) [.bool true, iv s, w1] from ⟨w1, rfl, rl⟩)
  rw [hbc] at ac
  by_cases hnd : l.Nodup
  case neg =>
   have hst : startW s l = wd0 := by
    unfold startW
    rw [if_neg fun hh => hnd (startOk_all hh).2.2.2]
   rw [if_neg hnd] at ac
   have hF0 : ∀ j, j ≠ H.length → (((((F.put H.length 0 (.bool false)).put H.length 1 (.bool false)).put H.length 2 (iv 0)).put H.length 3 nl).put H.length 4 nl)[j]? = F[j]? := fun j hj => by
    rw [get_put_ne _ _ _ hj, get_put_ne _ _ _ hj, get_put_ne _ _ _ hj, get_put_ne _ _ _ hj, get_put_ne _ _ _ hj]
   have hlF0 : List.length (((((F.put H.length 0 (.bool false)).put H.length 1 (.bool false)).put H.length 2 (iv 0)).put H.length 3 nl).put H.length 4 nl) = F.length := by simp only [length_put]
   repeat (first | refine sA ?_ | refine sB ?_ | refine sC ?_ | refine sD ?_ | refine sE rfl ?_ | refine sF rfl ?_ | refine sG rfl ?_ | (refine sk_reg fun K hK => ?_; simp [d0.s, d1.s, d2.s, xw, f0.s, f1.s, f2.s, f3.s, f4.s, fr.s]; (repeat ((first | refine AskX.go (ac) ?_); simp [d0.s, d1.s, d2.s, xw, f0.s, f1.s, f2.s, f3.s, f4.s, fr.s])); refine hK _ ?_; clear hK K))
   refine sk_ret ?_; simp [f0.s, f1.s, f2.s, f3.s, f4.s, fr.s]
   rw [hst]
   exact ⟨Nat.le_trans hl1 (Nat.le_of_eq hlF0.symm), fun j hj => (hF0 j (by omega)).trans (hg.same hj), [], wd0_rd _, ⟨List.nodup_nil, fun i hi => by simp at hi⟩, fun i hi => by simp at hi⟩
  rw [if_pos hnd] at ac
  have hst : startW s l = wdS s l := by
   unfold startW
   rw [if_pos]
   simp only [startOk, Bool.and_eq_true, decide_eq_true_eq, List.all_eq_true]
   exact ⟨hs1, hl20, hin, hnd⟩
  repeat (first | refine sA ?_ | refine sB ?_ | refine sC ?_ | refine sD ?_ | refine sE rfl ?_ | refine sF rfl ?_ | refine sG rfl ?_ | (refine sk_reg fun K hK => ?_; simp [d0.s, d1.s, d2.s, e0.s, e1.s, e2.s, e3.s, e4.s, xw, xv, f0.s, f1.s, f2.s, f3.s, f4.s, fr.s]; (repeat ((first | refine AskX.go (ac) ?_); simp [d0.s, d1.s, d2.s, e0.s, e1.s, e2.s, e3.s, e4.s, xw, xv, f0.s, f1.s, f2.s, f3.s, f4.s, fr.s])); refine hK _ ?_; clear hK K))
  refine sk_ret ?_; simp [f0.s, f1.s, f2.s, f3.s, f4.s, fr.s, xw, xv]
  rw [hst]
  have hF : ∀ j, j ≠ H.length → (((((F.put H.length 0 (.bool true)).put H.length 1 (.bool true)).put H.length 2 (iv s)).put H.length 3 w1).put H.length 4 vB)[j]? = F[j]? := fun j hj => by
   rw [get_put_ne _ _ _ hj, get_put_ne _ _ _ hj, get_put_ne _ _ _ hj, get_put_ne _ _ _ hj, get_put_ne _ _ _ hj]
  have hlF : List.length (((((F.put H.length 0 (.bool true)).put H.length 1 (.bool true)).put H.length 2 (iv s)).put H.length 3 w1).put H.length 4 vB) = F.length := by simp only [length_put]
  generalize (((((F.put H.length 0 (.bool true)).put H.length 1 (.bool true)).put H.length 2 (iv s)).put H.length 3 w1).put H.length 4 vB) = F' at hF hlF ⊢
  have hA : ∀ j, j ∈ A → F'[j]? = F[j]? := fun j hj => hF j (by have := (la j hj).1; omega)
  have hB : ∀ j, j ∈ B → F'[j]? = F[j]? := fun j hj => hF j (by have := (lb j hj).1; omega)
  have rb' := rb.rs (by simp; omega)
  refine ⟨by omega, fun j hj => (hF j (by omega)).trans (hg.same hj), A ++ B, ⟨A, B, [.bool true, iv s, w1], vB, rfl, rfl, ⟨w1, rfl, rl.fr RLn.frm fun j hj _ => hA j hj⟩, ?_⟩, (oa.fr hA).app (ob.fr hB) ab, fun e he => ?_⟩
  ·have := rb'.fr (RP.frm _) (H' := F') fun j hj _ => hB j hj
   show RS 4 RBd F' B vB (l.map fun _ => bdS)
   rw [List.map_const']
   exact this
  ·rcases List.mem_append.1 he with he | he
   ·have := (la e he).1; omega
   ·have := (lb e he).1; omega
 obtain ⟨ia, pa, hva, hida, c0⟩ := (h.gro hg (RP.frm _)).int hlt
 simp at hva
 obtain ⟨rfl, rfl⟩ := hva
 have hws : IntKind.i64.wrap (s - 1) = s - 1 := wrap_id (by omega) (by omega)
 have hw := wrap_id (x := (i : Int) + 1) (by omega) (by omega)
 have hbad : (∀ hh : startOk s l = true, False) → startW s l = wd0 := fun hh => by unfold startW; rw [if_neg hh]
 have hF0 : ∀ j, j ≠ H.length → (((((H1.put H.length 0 (.bool false)).put H.length 1 (.bool false)).put H.length 2 (iv 0)).put H.length 3 nl).put H.length 4 nl)[j]? = H1[j]? := fun j hj => by
  rw [get_put_ne _ _ _ hj, get_put_ne _ _ _ hj, get_put_ne _ _ _ hj, get_put_ne _ _ _ hj, get_put_ne _ _ _ hj]
 have hlF0 : List.length (((((H1.put H.length 0 (.bool false)).put H.length 1 (.bool false)).put H.length 2 (iv 0)).put H.length 3 nl).put H.length 4 nl) = H1.length := by simp only [length_put]
 cases hin0 : inB l[i] 0 (s - 1)
 ·have hst := hbad fun hh => by
   have := (startOk_all hh).2.2.1 l[i] (List.getElem_mem hlt)
   rw [hin0] at this; cases this
  repeat (first | refine sA ?_ | refine sB ?_ | refine sC ?_ | refine sD ?_ | refine sE rfl ?_ | refine sF rfl ?_ | refine sG rfl ?_ | (refine sk_reg fun K hK => ?_; simp [hlt, c0.s, hws, hin0, f0.s, f1.s, f2.s, f3.s, f4.s, fr.s]; (repeat ((first | refine AskX.go (l1in_ac _ _ _) ?_); simp [hlt, c0.s, hws, hin0, f0.s, f1.s, f2.s, f3.s, f4.s, fr.s])); refine hK _ ?_; clear hK K))
  refine sk_ret ?_; simp [f0.s, f1.s, f2.s, f3.s, f4.s, fr.s]
  rw [hst]
  exact ⟨Nat.le_trans hl1 (Nat.le_of_eq hlF0.symm), fun j hj => (hF0 j (by omega)).trans (hg.same hj), [], wd0_rd _, ⟨List.nodup_nil, fun i hi => by simp at hi⟩, fun i hi => by simp at hi⟩
 repeat (first | refine sA ?_ | refine sB ?_ | refine sC ?_ | refine sD ?_ | refine sE rfl ?_ | refine sF rfl ?_ | refine sG rfl ?_ | (refine sk_reg fun K hK => ?_; simp [hlt, c0.s, hws, hin0]; (repeat ((first | refine AskX.go (l1in_ac _ _ _) ?_); simp [hlt, c0.s, hws, hin0])); refine hK _ ?_; clear hK K))
 have hLl := lnsS_len (l := l) hi
 obtain ⟨id, o, Ek, ck, z1, z2, ty, hwv, hidA, hnid, hsub, hndk, hRk, hckl, hal, hbk, hcl⟩ := rl.upd RLn.frm RLn.frm (fun _ _ _ _ h => h) oa (k := i) (by omega)
 rw [lnsS_get hlt] at hRk
 obtain ⟨E1, E2, v1, v2, rfl, rfl, hr1, hr2⟩ := hRk
 have hset := lnsS_set hlt
 rw [hLl] at hwv
 subst hwv
 have hidn := la id hidA
 have x2 := hr2.one
 simp only [line0] at hal hbk
 have m1 : CF H1 id (o + i * 4 + 1) v1 := CF.of hbk rfl (by have := get_mid (j := 1) (z := z2) (m := [iv 0, v1, v2, iv (-1)]) hal rfl; simpa using this)
 have m2 : CF H1 id (o + i * 4 + 2) v2 := CF.of hbk rfl (by have := get_mid (j := 2) (z := z2) (m := [iv 0, v1, v2, iv (-1)]) hal rfl; simpa using this)
 have mr := RF.of hbk
 have hidl : H.length ≤ id := by omega
 have q5 : ¬ id = X5 := fun hh => hidn.2.1 hh
 have q6 : ¬ id = X5 + 1 := fun hh => hidn.2.2 hh
 have hN : ¬ H1.length = id := by have := lt_of_get hbk; omega
 repeat (first | refine sA ?_ | refine sB ?_ | refine sC ?_ | refine sD ?_ | refine sE rfl ?_ | refine sF rfl ?_ | refine sG rfl ?_ | (refine sk_reg fun K hK => ?_; simp [d2.s, hlt, m1.s, m2.s, mr.s, hidl, hl1, q5, q6, hgz]; refine hK _ ?_; clear hK K))
 refine sk_at [(0, iv s), (1, sl ia pa l.length), (4, pt H.length 0), (5, pt X5 0), (6, pt (X5 + 1) 0), (7, iv i), (8, iv l[i]), (19, sl ia pa l.length), (20, iv l.length), (21, iv i)]
  (fun F => (∀ j, j < H1.length → j ≠ id → F[j]? = H1[j]?) ∧ F.length = H1.length + 1 ∧ F[H1.length]? = some ⟨3, [iv l[i]], true, true⟩ ∧ F[id]? = some ⟨ty, z1 ++ ([iv 0, sl H1.length 0 1, v2, iv (-1)] ++ z2), true, true⟩) (by simp [subL, getT]) ⟨fun j hj h1 => ?_, ?_, ?_, ?_⟩ ?_
 ·rw [get_put_ne _ _ _ h1, List.getElem?_append_left hj]
 ·rw [length_put]; simp
 ·rw [get_put_ne _ _ _ hN]; simp
 ·rw [get_put, List.getElem?_append_left (lt_of_get hbk), hbk]
  simp only [Option.map_some]
  rw [set_mid hal (by simp)]
  rfl
 rintro F1 ⟨w1, w2, w3, w4⟩
 have b5F : F1[X5]? = _ := (w1 X5 b5l (Ne.symm q5)).trans b5
 have d2 : CF F1 X5 2 (sl id o l.length) := CF.of b5F rfl rfl
 have m2 : CF F1 id (o + i * 4 + 2) v2 := CF.of w4 rfl (by have := get_mid (j := 2) (z := z2) (m := [iv 0, sl H1.length 0 1, v2, iv (-1)]) hal rfl; simpa using this)
 have mr := RF.of w4
 have hgF : H.length ≤ F1.length := by omega
 repeat (first | refine sA ?_ | refine sB ?_ | refine sC ?_ | refine sD ?_ | refine sE rfl ?_ | refine sF rfl ?_ | refine sG rfl ?_ | (refine sk_reg fun K hK => ?_; simp [d2.s, hlt, m2.s, mr.s, hidl, hgF]; refine hK _ ?_; clear hK K))
 refine sk_at [(0, iv s), (1, sl ia pa l.length), (4, pt H.length 0), (5, pt X5 0), (6, pt (X5 + 1) 0), (19, sl ia pa l.length), (20, iv l.length), (21, iv i)]
  (fun F => ∃ A', StI H X5 s l (sl id o l.length) (i + 1) i F vB A' B) (by simp [subL, getT]) ?_ ?_
 ·have hNi : ¬ F1.length = id := by have := lt_of_get hbk; omega
  have hgF : ∀ j, j < H1.length → j ≠ id → (Heap.put (F1 ++ [⟨88, [iv 0, iv 1], true, true⟩]) id (o + i * 4 + 2) (sl F1.length 0 1))[j]? = H1[j]? := fun j hj h1 => by
   rw [get_put_ne _ _ _ h1, List.getElem?_append_left (by omega), w1 j hj h1]
  have hgN : (Heap.put (F1 ++ [⟨88, [iv 0, iv 1], true, true⟩]) id (o + i * 4 + 2) (sl F1.length 0 1))[H1.length]? = some ⟨3, [iv l[i]], true, true⟩ := by
   rw [get_put_ne _ _ _ hN, List.getElem?_append_left (by omega), w3]
  have hgG : (Heap.put (F1 ++ [⟨88, [iv 0, iv 1], true, true⟩]) id (o + i * 4 + 2) (sl F1.length 0 1))[F1.length]? = some ⟨88, [] ++ [iv 0, iv 1] ++ [], true, true⟩ := by
   rw [get_put_ne _ _ _ hNi]; simp
  have hgI : (Heap.put (F1 ++ [⟨88, [iv 0, iv 1], true, true⟩]) id (o + i * 4 + 2) (sl F1.length 0 1))[id]? = some ⟨ty, z1 ++ ([iv 0, sl H1.length 0 1, sl F1.length 0 1, iv (-1)] ++ z2), true, true⟩ := by
   rw [get_put, List.getElem?_append_left (lt_of_get w4), w4]
   simp only [Option.map_some]
   rw [set_mid hal (by simp)]
   rfl
  have hlF : List.length (Heap.put (F1 ++ [⟨88, [iv 0, iv 1], true, true⟩]) id (o + i * 4 + 2) (sl F1.length 0 1)) = H1.length + 2 := by simp [length_put, w2]
  show ∃ A', StI H X5 s l (sl id o l.length) (i + 1) i (Heap.put (F1 ++ [⟨88, [iv 0, iv 1], true, true⟩]) id (o + i * 4 + 2) (sl F1.length 0 1)) vB A' B
  generalize (Heap.put (F1 ++ [⟨88, [iv 0, iv 1], true, true⟩]) id (o + i * 4 + 2) (sl F1.length 0 1)) = F at hgF hgN hgI hgG hlF ⊢
  have hB : ∀ j, j ∈ B → F[j]? = H1[j]? := fun j hj => hgF j (bdb j hj) (fun hh => ab id hidA (hh ▸ hj))
  obtain ⟨A', ra', oa', la'⟩ := hcl F (lineS l[i]) [iv 0, sl H1.length 0 1, sl F1.length 0 1, iv (-1)] [H1.length, F1.length] rfl
   ⟨[H1.length], [F1.length], sl H1.length 0 1, sl F1.length 0 1, rfl, rfl, ⟨by simp [lineS], .inr ⟨H1.length, 0, [], 3, true, [], [iv l[i]], [], rfl, rfl, hgN, rfl, ⟨[], [], [iv l[i]], [], rfl, rfl, rfl, ⟨rfl, rfl⟩, rfl, rfl⟩⟩⟩,
    ⟨by simp [lineS], .inr ⟨F1.length, 0, [], 88, true, [], [iv 0, iv 1], [], rfl, rfl, hgG, rfl, ⟨[], [], [iv 0, iv 1], [], rfl, rfl, rfl, ⟨rfl, rfl⟩, rfl, rfl⟩⟩⟩⟩
   ⟨by simp [w2], fun e he => by
    simp at he
    rcases he with rfl | rfl
    ·exact rw_get hgN
    ·exact rw_get hgG⟩ (fun e he => by
    simp at he
    rcases he with rfl | rfl
    ·exact .inr fun hh => by have := bda _ hh; omega
    ·exact .inr fun hh => by have := bda _ hh; omega) (fun e he h1 h2 => hgF e (bda e he) h1) hgI
  rw [hset] at ra'
  have hA' : ∀ e, e ∈ A' → e ∈ A ∨ H1.length ≤ e := fun e he => by
   rcases la' e he with h1 | h1
   ·exact .inl h1
   ·simp at h1
    rcases h1 with rfl | rfl
    ·exact .inr (Nat.le_refl _)
    ·exact .inr (by omega)
  refine ⟨A', ⟨Gro.of (by omega) fun j hj => (hgF j (by omega) (by omega)).trans (hg.same hj), (hgF _ (by omega) (by omega)).trans b4, (hgF _ b5l (Ne.symm q5)).trans b5, (hgF _ b6l (Ne.symm q6)).trans b6, ra', rb.fr (RP.frm _) fun j hj _ => hB j hj, oa', ob.fr hB, fun e he => ?_, lb, fun e he hb => ?_, hx⟩⟩
  ·rcases hA' e he with h1 | h1
   ·exact la e h1
   ·omega
  ·rcases hA' e he with h1 | h1
   ·exact ab e h1 hb
   ·have := bdb e hb; omega
 clear b4 b5 b6 rl rb oa ob la lb ab hg hl1 hgz f0 f1 f2 f3 f4 fr d2 e0 e1 e2 e3 e4 xv xcv b5l b6l bda bdb hcl w1 w2 w3 w4 hbk hidA hsub hnid hndk m1 m2 mr hidl hidn hgF b5F
 rintro F ⟨A', hg, b4, b5, b6, rl, rb, oa, ob, la, lb, ab, hx⟩
 have hl1 := hg.len
 have e4 : CF F (X5 + 1) 4 vB := CF.of b6 rfl rfl
 have bda := oa.lt
 have bdb := ob.lt
 obtain ⟨k, v2, H4, B', e5, e6, e7, e8, e9, e10, e11⟩ := app_one (P := Tryd.prog) (t := 40) (e := 47) (sz := 3) (by' := 32) (z := .agg #[iv 0, iv 0, iv 0, iv 0]) (by simp) (by simp) (by simp) (by simp) rfl (RP.frm cBd) rb ob (x := bdS) (cx := [iv 0, iv 1, iv 0, iv 0]) (Ex := []) ⟨rfl, rfl⟩ ⟨List.nodup_nil, fun i hi => by simp at hi⟩ (fun j _ hj => by simp at hj) rfl rfl (by simp; omega) (by simp [maxLen]; omega)
 have hwr : wrO H.length [] k := fun j hj => .inl (by have := lb j (e6 j hj).1; omega)
 have h6 : H4[X5 + 1]? = _ := (e8 _ (lt_of_get b6) fun hh => (lb _ hh).2.2 rfl).trans b6
 have h5 : H4[X5]? = _ := (e8 _ (lt_of_get b5) fun hh => (lb _ hh).2.1 rfl).trans b5
 have h4 : H4[H.length]? = _ := (e8 _ (lt_of_get b4) fun hh => by have := (lb _ hh).1; omega).trans b4
 have t4 : CF H4 (X5 + 1) 4 vB := CF.of h6 rfl rfl
 have tr := RF.of h6
 have xv := e9.one
 have xcv := e9.cv
 have hx6 : H.length ≤ X5 + 1 := by omega
 repeat (first | refine sA ?_ | refine sB ?_ | refine sC ?_ | refine sD ?_ | refine sE rfl ?_ | refine sF rfl ?_ | refine sG rfl ?_ | (refine sk_reg fun K hK => ?_; simp [e4.s, e5, hwr, hl1, t4.s, tr.s, xv, xcv, hx6, hw]; refine hK _ ?_; clear hK K))
 have hF6 : ∀ j, j ≠ X5 + 1 → (H4.put (X5 + 1) 4 v2)[j]? = H4[j]? := fun j hj => get_put_ne _ _ _ hj
 have nB : ∀ j, j ∈ B' → H.length < j ∧ j ≠ X5 ∧ j ≠ X5 + 1 := fun j hj => by
  rcases e11 j hj with hh | hh | hh
  ·exact lb j hh
  ·simp at hh
  ·have := lt_of_get b6; omega
 have nA : ∀ j, j ∈ A' → (H4.put (X5 + 1) 4 v2)[j]? = F[j]? := fun j hj => (hF6 j (la j hj).2.2).trans (e8 j (bda j hj) (ab j hj))
 refine sk_inv ⟨l.length - (i + 1), _, by omega, ?_, i + 1, v2, A', B', by omega, rfl, ⟨Gro.of (by rw [length_put]; omega) fun j hj => ((hF6 j (by omega)).trans (e8 j (by omega) fun hh => by have := (lb j hh).1; omega)).trans (hg.same hj), (hF6 _ (by omega)).trans h4, (hF6 _ (by omega)).trans h5, ?_, rl.fr RLn.frm fun j hj _ => nA j hj, ?_, oa.fr nA, e10.fr fun j hj => hF6 j (nB j hj).2.2, la, nB, fun j h1 h2 => ?_, hx⟩, ?_, rfl⟩
 ·simp [subL, getT]
 ·rw [get_put, h6]; rfl
 ·rw [List.replicate_succ']
  exact e9.fr (RP.frm _) fun j hj _ => hF6 j (nB j hj).2.2
 ·rcases e11 j h2 with hh | hh | hh
  ·exact ab j h1 hh
  ·simp at hh
  ·have := bda j h1; omega
 ·intro x hx
  rw [take_snoc hlt, List.mem_append] at hx
  rcases hx with hx | hx
  ·exact hin x hx
  ·simp at hx; subst hx; exact hin0
end Go.Proofs.YtpoedfmkiiijnaaDoor
