/- Start of the program. A walk. -/
import Derived.Test.YtpoedfmkiiijnaaDoorWd2
import Derived.Test.YtpoedfmkiiijnaaDoorGF
import Derived.Test.YtpoedfmkiiijnaaDoorGI
namespace Go.Proofs.YtpoedfmkiiijnaaDoor
open Go Go.RowKit Go.Proofs.YtpoedfmkiiijnaaDoorAm
set_option linter.unusedVariables false
set_option linter.unusedSimpArgs false
set_option maxRecDepth 10000
set_option maxHeartbeats 8000000
/-- The lines of a beginning, so far. -/
def lnsS (l : List Int) (i : Nat) : List Ln := (l.take i).map lineS ++ List.replicate (l.length - i) line0
theorem lnsS_len {l : List Int} {i : Nat} (h : i ≤ l.length) : (lnsS l i).length = l.length := by simp [lnsS]; omega
theorem lnsS_0 (l : List Int) : lnsS l 0 = List.replicate l.length line0 := by simp [lnsS]
theorem lnsS_n (l : List Int) : lnsS l l.length = l.map lineS := by simp [lnsS]
theorem lnsS_get {l : List Int} {i : Nat} (h : i < l.length) (h2 : i < (lnsS l i).length) : (lnsS l i)[i] = line0 := by
 simp only [lnsS]
 rw [List.getElem_append_right (by simp; omega)]
 simp
theorem lnsS_set {l : List Int} {i : Nat} (h : i < l.length) : (lnsS l i).set i (lineS l[i]) = lnsS l (i + 1) := by
 unfold lnsS
 rw [take_snoc h, List.map_append, List.set_append, if_neg (by simp; omega)]
 have e : l.length - i = (l.length - (i + 1)) + 1 := by omega
 rw [e, List.replicate_succ]
 simp only [List.length_map, List.length_take, Nat.min_eq_left (Nat.le_of_lt h), Nat.sub_self, List.set_cons_zero, List.map_cons, List.map_nil, List.append_assoc, List.cons_append, List.nil_append]
theorem beginB_ok {s : Int} {n : Nat} : (beginB s n).ok = (inB s 1 200 && decide (n ≤ 20)) := by
 unfold beginB
 by_cases h : inB s 1 200 = true ∧ inB (n : Int) 0 20 = true
 ·rw [if_pos h, h.1]
  have h2 := h.2
  simp only [inB, Bool.and_eq_true, decide_eq_true_eq] at h2
  rw [decide_eq_true (by omega)]; rfl
 ·rw [if_neg h]
  by_cases h1 : inB s 1 200 = true
  ·have : ¬ inB (n : Int) 0 20 = true := fun h2 => h ⟨h1, h2⟩
   simp only [inB, Bool.and_eq_true, decide_eq_true_eq] at this
   rw [h1, decide_eq_false (by omega)]; rfl
  ·have : inB s 1 200 = false := by simpa using h1
   rw [this]; rfl
theorem wd0_rd (H : Heap) : RWd H [] wd0 [.bool false, .bool false, iv 0, nl, nl] := ⟨[], [], [.bool false, iv 0, nl], nl, rfl, rfl, ⟨nl, rfl, by simp [wd0, bk0], .inl ⟨.inl rfl, rfl, rfl⟩⟩, by simp [wd0], .inl ⟨.inl rfl, rfl, rfl⟩⟩
/-- What is known of memory in Start's loop. -/
structure StI (H : Heap) (X5 : Nat) (s : Int) (l : List Int) (vL : Value) (i k : Nat) (H1 : Heap) (vB : Value) (A B : List Nat) : Prop where
 g : Gro H H1
 b4 : H1[H.length]? = some ⟨42, [.bool false, .bool false, iv 0, nl, nl], true, true⟩
 b5 : H1[X5]? = some ⟨39, [.bool true, iv s, vL], true, true⟩
 b6 : H1[X5 + 1]? = some ⟨42, [.bool true, .bool true, iv s, vL, vB], true, true⟩
 rl : RS 4 RLn H1 A vL (lnsS l i)
 rb : RW 47 4 RBd H1 B vB (List.replicate k bdS)
 oa : Own H1 A
 ob : Own H1 B
 la : ∀ e, e ∈ A → H.length < e ∧ e ≠ X5 ∧ e ≠ X5 + 1
 lb : ∀ e, e ∈ B → H.length < e ∧ e ≠ X5 ∧ e ≠ X5 + 1
 ab : ∀ e, e ∈ A → e ∉ B
 hx : H.length < X5
def B28 : SC := .seq (.reg [⟨some 4, .alloc 42, none, []⟩]) (.seq (.reg [⟨some 9, .move (.tmp 0), none, []⟩, ⟨some 10, .move (.tmp 1), none, []⟩, ⟨some 11, .call ⟨.builtin .len, #[.tmp 10], #[22]⟩, none, []⟩, ⟨some 12, .call ⟨.value (.func 44), #[.tmp 9, .tmp 11], #[3, 3]⟩, none, []⟩, ⟨some 5, .alloc 39, none, []⟩, ⟨none, .store 39 (.tmp 5) (.tmp 12), none, []⟩]) (.seq (.seq (.reg [⟨some 13, .fieldAddr 39 (.tmp 5) 0, none, []⟩, ⟨some 14, .load 4 (.tmp 13), none, []⟩, ⟨some 15, .unOp .not 4 (.tmp 14), none, []⟩]) (.cond (.tmp 15) (.seq (.reg [⟨some 16, .build 42 #[], none, []⟩, ⟨none, .store 42 (.tmp 4) (.tmp 16), none, []⟩]) .ret) .skip)) (.seq (.reg [⟨some 17, .load 39 (.tmp 5), none, []⟩, ⟨some 18, .build 42 #[(0, (.const (.bool true))), (1, (.tmp 17))], none, []⟩, ⟨some 6, .alloc 42, none, []⟩, ⟨none, .store 42 (.tmp 6) (.tmp 18), none, []⟩]) (.seq (.seq (.reg [⟨some 19, .move (.tmp 1), none, []⟩, ⟨some 20, .call ⟨.builtin .len, #[.tmp 19], #[22]⟩, none, []⟩, ⟨some 21, .move (.const (.int .i64 0)), none, []⟩]) (.block 0 (.loop (.seq (.reg [⟨some 22, .binOp .lss 3 (.tmp 21) (.tmp 20) 3, none, []⟩]) (.seq (.cond (.tmp 22) .skip (.exit 0)) (.seq (.block 1 (.seq (.reg [⟨some 23, .move (.tmp 21), none, []⟩, ⟨some 24, .indexAddr 22 (.tmp 19) (.tmp 21), none, []⟩, ⟨some 25, .load 3 (.tmp 24), none, []⟩, ⟨some 7, .assign (.tmp 23), none, []⟩, ⟨some 8, .assign (.tmp 25), none, []⟩]) (.seq (.seq (.reg [⟨some 26, .move (.tmp 8), none, []⟩, ⟨some 27, .move (.tmp 0), none, []⟩, ⟨some 28, .binOp .sub 3 (.tmp 27) (.const (.int .i64 1)) 3, none, []⟩, ⟨some 29, .call ⟨.value (.func 23), #[.tmp 26, .const (.int .i64 0), .tmp 28], #[3, 3, 3]⟩, none, []⟩, ⟨some 30, .unOp .not 4 (.tmp 29), none, []⟩, ⟨some 31, .move (.tmp 30), none, []⟩, ⟨some 32, .move (.tmp 1), some (31, false), []⟩, ⟨some 33, .move (.tmp 7), some (31, false), []⟩, ⟨some 34, .slice 22 (.tmp 32) none (some (.tmp 33)) none, some (31, false), []⟩, ⟨some 35, .move (.tmp 8), some (31, false), []⟩, ⟨some 36, .call ⟨.value (.func 45), #[.tmp 34, .tmp 35], #[22, 3]⟩, some (31, false), []⟩, ⟨some 37, .pick (.tmp 31) (.const (.bool true)) (.tmp 36), none, []⟩]) (.cond (.tmp 37) (.seq (.reg [⟨some 38, .build 42 #[], none, []⟩, ⟨none, .store 42 (.tmp 4) (.tmp 38), none, []⟩]) .ret) .skip)) (.seq (.reg [⟨some 39, .fieldAddr 39 (.tmp 5) 2, none, []⟩, ⟨some 40, .load 37 (.tmp 39), none, []⟩, ⟨some 41, .move (.tmp 7), none, []⟩, ⟨some 42, .move (.tmp 8), none, []⟩, ⟨some 43, .buildSlice 22 1 #[(0, (.tmp 42))], none, []⟩, ⟨some 44, .indexAddr 37 (.tmp 40) (.tmp 41), none, []⟩, ⟨some 45, .fieldAddr 50 (.tmp 44) 1, none, []⟩, ⟨none, .store 22 (.tmp 45) (.tmp 43), none, []⟩]) (.seq (.reg [⟨some 46, .fieldAddr 39 (.tmp 5) 2, none, []⟩, ⟨some 47, .load 37 (.tmp 46), none, []⟩, ⟨some 48, .move (.tmp 7), none, []⟩, ⟨some 49, .indexAddr 37 (.tmp 47) (.tmp 48), none, []⟩, ⟨some 50, .fieldAddr 50 (.tmp 49) 2, none, []⟩, ⟨some 51, .load 48 (.tmp 50), none, []⟩, ⟨some 52, .indexAddr 48 (.tmp 51) (.const (.int .i64 0)), none, []⟩, ⟨some 53, .fieldAddr 88 (.tmp 52) 1, none, []⟩, ⟨none, .store 3 (.tmp 53) (.const (.int .i64 1)), none, []⟩]) (.reg [⟨some 54, .fieldAddr 42 (.tmp 6) 2, none, []⟩, ⟨some 55, .load 40 (.tmp 54), none, []⟩, ⟨some 56, .build 47 #[(1, (.const (.int .i64 1)))], none, []⟩, ⟨some 57, .buildSlice 40 1 #[(0, (.tmp 56))], none, []⟩, ⟨some 58, .call ⟨.builtin .append, #[.tmp 55, .tmp 57], #[40, 40]⟩, none, []⟩, ⟨some 59, .fieldAddr 42 (.tmp 6) 2, none, []⟩, ⟨none, .store 40 (.tmp 59) (.tmp 58), none, []⟩])))))) (.reg [⟨some 60, .binOp .add 3 (.tmp 21) (.const (.int .i64 1)) 3, none, []⟩, ⟨some 21, .move (.tmp 60), none, []⟩]))))))) (.seq (.reg [⟨some 61, .load 42 (.tmp 6), none, []⟩, ⟨none, .store 42 (.tmp 4) (.tmp 61), none, []⟩]) .ret)))))
theorem s28 : Tryd.f28.body.bind (stripC 62) = some B28 := by kernel_rfl
theorem implStart_mk {H : Heap} {E : List Nat} {v : Value} {l : List Int} (h : RS 1 RInt H E v l) (s : Int) : Mkr Tryd.prog 28 [iv s, v] H fun H' E' v' => ∃ cs, v' = .agg cs.toArray ∧ RWd H' E' (startW s l) cs := by
 obtain ⟨a1, c1, rfl⟩ := h.form
 have hn := h.1
 refine Mkr.of_bodyS (N := 62) Tryd.func28 s28 (by kernel_rfl) rfl rfl (by simp) ?_; unfold B28
 repeat (first | refine sA ?_ | refine sB ?_ | refine sC ?_ | refine sD ?_ | refine sE rfl ?_ | refine sF rfl ?_ | refine sG rfl ?_ | (refine sk_reg fun K hK => ?_; simp; refine hK _ ?_; clear hK K))
 refine sk_reg fun K hK => ?_; simp
 refine AskX.mkr (implBegin_mk s (l.length : Int)) ?_; rintro _ J1 A1 ⟨cs1, rfl, w1, rfl, r1⟩ o1 n1; simp [r1.one, r1.cv]
 refine hK _ ?_; clear hK K
 have hbo := beginB_ok (s := s) (n := l.length)
 by_cases hb : (beginB s l.length).ok = true
 case neg =>
  have hb' : (beginB s l.length).ok = false := by simpa using hb
  have hst : startW s l = wd0 := by
   unfold startW
   rw [if_neg]
   intro hs
   obtain ⟨h1, h2, _⟩ := startOk_all hs
   rw [hbo, h1, decide_eq_true h2] at hb'
   cases hb'
  repeat (first | refine sA ?_ | refine sB ?_ | refine sC ?_ | refine sD ?_ | refine sE rfl ?_ | refine sF rfl ?_ | refine sG rfl ?_ | (refine sk_reg fun K hK => ?_; simp [hb']; refine hK _ ?_; clear hK K))
  refine sk_ret ?_; simp
  rw [hst]
  exact ⟨fun i hi => List.getElem?_append_left hi, [], wd0_rd _, ⟨List.nodup_nil, fun i hi => by simp at hi⟩, fun i hi => by simp at hi⟩
 rw [hbo] at hb
 simp only [Bool.and_eq_true, decide_eq_true_eq] at hb
 obtain ⟨hs1, hl20⟩ := hb
 have hs2 := hs1
 simp only [inB, Bool.and_eq_true, decide_eq_true_eq] at hs2
 have hBk : beginB s l.length = ⟨true, s, List.replicate l.length line0⟩ := by
  unfold beginB
  rw [if_pos ⟨hs1, by simp [inB]; omega⟩]; simp
 rw [hBk] at r1 ⊢
 have xw := r1.one
 repeat (first | refine sA ?_ | refine sB ?_ | refine sC ?_ | refine sD ?_ | refine sE rfl ?_ | refine sF rfl ?_ | refine sG rfl ?_ | (refine sk_reg fun K hK => ?_; simp [xw]; refine hK _ ?_; clear hK K))
 obtain ⟨X5, hX5⟩ : ∃ X, X = H.length + (J1.length + 1) := ⟨_, rfl⟩
 have l1 := o1.lt
 simp only [List.append_assoc, List.cons_append, List.nil_append, List.length_append, List.length_cons, List.length_nil] at r1 o1 n1 l1
 refine sk_loop (fun m ts H' => ∃ (i : Nat) (vB : Value) (A B : List Nat), i ≤ l.length ∧ m = l.length - i ∧ StI H X5 s l w1 i i H' vB A B ∧ (∀ x, x ∈ l.take i → inB x 0 (s - 1) = true) ∧ (l.take i).Nodup ∧ ts = [(0, iv s), (1, .slice a1 l.length c1), (4, pt H.length 0), (5, pt X5 0), (6, pt (X5 + 1) 0), (19, .slice a1 l.length c1), (20, iv l.length), (21, iv i)])
  l.length _ ?_ ⟨0, nl, A1, [], by omega, rfl, ⟨Gro.one _ _, by simp, ?_, ?_, ?_, .inl ⟨rfl, rfl, rfl⟩, ?_, ⟨List.nodup_nil, fun i hi => by simp at hi⟩, ?_, fun i hi => by simp at hi, fun i hi hh => by simp at hh, by omega⟩, fun x hx => by simp at hx, by simp, rfl⟩ ?_
 ·simp [subL, getT, hX5]
 ·rw [hX5, List.getElem?_append_right (by omega), Nat.add_sub_cancel_left]
  simp
 ·rw [hX5, Nat.add_assoc, List.getElem?_append_right (by omega), Nat.add_sub_cancel_left]
  simp
 ·rw [lnsS_0]; exact r1.gro (by first | exact Gro.refl _ | exact ⟨_, rfl⟩ | exact ⟨_, by simp only [List.append_assoc, List.cons_append, List.nil_append]; rfl⟩ | exact ⟨[], by simp⟩) RLn.frm
 ·exact o1.gro (by first | exact Gro.refl _ | exact ⟨_, rfl⟩ | exact ⟨_, by simp only [List.append_assoc, List.cons_append, List.nil_append]; rfl⟩ | exact ⟨[], by simp⟩)
 ·exact fun e he => ⟨by have := n1 e he; omega, by have := l1 e he; omega, by have := l1 e he; omega⟩
 clear r1 o1 n1 l1
 rintro m ts H1 ⟨i, vB, A, B, hi, rfl, hI, hin, hnd, rfl⟩
 obtain ⟨hg, b4, b5, b6, rl, rb, oa, ob, la, lb, ab, hx⟩ := hI
 have hl1 := hg.len
 have hgz : ∀ n, H.length ≤ H1.length + n := fun n => by omega
 have f0 : CF H1 H.length 0 (.bool false) := CF.of b4 rfl rfl
 have f1 : CF H1 H.length 1 (.bool false) := CF.of b4 rfl rfl
 have f2 : CF H1 H.length 2 (iv 0) := CF.of b4 rfl rfl
 have f3 : CF H1 H.length 3 nl := CF.of b4 rfl rfl
 have f4 : CF H1 H.length 4 nl := CF.of b4 rfl rfl
 have fr := RF.of b4
 have d2 : CF H1 X5 2 w1 := CF.of b5 rfl rfl
 have e0 : CF H1 (X5 + 1) 0 (.bool true) := CF.of b6 rfl rfl
 have e1 : CF H1 (X5 + 1) 1 (.bool true) := CF.of b6 rfl rfl
 have e2 : CF H1 (X5 + 1) 2 (iv s) := CF.of b6 rfl rfl
 have e3 : CF H1 (X5 + 1) 3 w1 := CF.of b6 rfl rfl
 have e4 : CF H1 (X5 + 1) 4 vB := CF.of b6 rfl rfl
 have xv := rb.one
 have xcv := rb.cv
 have b5l := lt_of_get b5
 have b6l := lt_of_get b6
 have bda := oa.lt
 have bdb := ob.lt
 by_cases hlt : i < l.length
 case neg =>
  obtain rfl : i = l.length := by omega
  rw [List.take_length] at hin hnd
  have hst : startW s l = wdS s l := by
   unfold startW
   rw [if_pos]
   simp only [startOk, Bool.and_eq_true, decide_eq_true_eq, List.all_eq_true]
   exact ⟨hs1, hl20, hin, hnd⟩
  rw [lnsS_n] at rl
  repeat (first | refine sA ?_ | refine sB ?_ | refine sC ?_ | refine sD ?_ | refine sE rfl ?_ | refine sF rfl ?_ | refine sG rfl ?_ | (refine sk_reg fun K hK => ?_; simp [e0.s, e1.s, e2.s, e3.s, e4.s, xw, xv, f0.s, f1.s, f2.s, f3.s, f4.s, fr.s]; refine hK _ ?_; clear hK K))
  refine sk_ret ?_; simp [f0.s, f1.s, f2.s, f3.s, f4.s, fr.s, xw, xv]
  rw [hst]
  have hF : ∀ j, j ≠ H.length → (((((H1.put H.length 0 (.bool true)).put H.length 1 (.bool true)).put H.length 2 (iv s)).put H.length 3 w1).put H.length 4 vB)[j]? = H1[j]? := fun j hj => by
   rw [get_put_ne _ _ _ hj, get_put_ne _ _ _ hj, get_put_ne _ _ _ hj, get_put_ne _ _ _ hj, get_put_ne _ _ _ hj]
  have hlF : List.length (((((H1.put H.length 0 (.bool true)).put H.length 1 (.bool true)).put H.length 2 (iv s)).put H.length 3 w1).put H.length 4 vB) = H1.length := by simp only [length_put]
  generalize (((((H1.put H.length 0 (.bool true)).put H.length 1 (.bool true)).put H.length 2 (iv s)).put H.length 3 w1).put H.length 4 vB) = F at hF hlF ⊢
  have hA : ∀ j, j ∈ A → F[j]? = H1[j]? := fun j hj => hF j (by have := (la j hj).1; omega)
  have hB : ∀ j, j ∈ B → F[j]? = H1[j]? := fun j hj => hF j (by have := (lb j hj).1; omega)
  have rb' := rb.rs (by simp; omega)
  refine ⟨by omega, fun j hj => (hF j (by omega)).trans (hg.same hj), A ++ B, ⟨A, B, [.bool true, iv s, w1], vB, rfl, rfl, ⟨w1, rfl, rl.fr RLn.frm fun j hj _ => hA j hj⟩, ?_⟩, (oa.fr hA).app (ob.fr hB) ab, fun e he => ?_⟩
  ·have := rb'.fr (RP.frm _) (H' := F) fun j hj _ => hB j hj
   show RS 4 RBd F B vB (l.map fun _ => bdS)
   rw [List.map_const']
   exact this
  ·rcases List.mem_append.1 he with he | he
   ·have := (la e he).1; omega
   ·have := (lb e he).1; omega
 obtain ⟨ia, pa, hva, hida, c0⟩ := (h.gro hg (RP.frm _)).int hlt
 simp at hva
 obtain ⟨rfl, rfl⟩ := hva
 have hws : IntKind.i64.wrap (s - 1) = s - 1 := wrap_id (by omega) (by omega)
 have hw := wrap_id (x := (i : Int) + 1) (by omega) (by omega)
 obtain ⟨v', hsl, hne', rt, yv', _⟩ := take_sl (h.gro hg (RP.frm _)) (by simp) (Nat.le_of_lt hlt)
 have ci := fun L : Heap => containsI_ac (H := H1 ++ L) (rt.ext (RP.frm _)) l[i]
 have ci0 := containsI_ac rt l[i]
 have hbad : (∀ hh : startOk s l = true, False) → startW s l = wd0 := fun hh => by unfold startW; rw [if_neg hh]
 have hF0 : ∀ j, j ≠ H.length → (((((H1.put H.length 0 (.bool false)).put H.length 1 (.bool false)).put H.length 2 (iv 0)).put H.length 3 nl).put H.length 4 nl)[j]? = H1[j]? := fun j hj => by
  rw [get_put_ne _ _ _ hj, get_put_ne _ _ _ hj, get_put_ne _ _ _ hj, get_put_ne _ _ _ hj, get_put_ne _ _ _ hj]
 have hlF0 : List.length (((((H1.put H.length 0 (.bool false)).put H.length 1 (.bool false)).put H.length 2 (iv 0)).put H.length 3 nl).put H.length 4 nl) = H1.length := by simp only [length_put]
 cases hin0 : inB l[i] 0 (s - 1)
 ·have hst := hbad fun hh => by
   have := (startOk_all hh).2.2.1 l[i] (List.getElem_mem hlt)
   rw [hin0] at this; cases this
  repeat (first | refine sA ?_ | refine sB ?_ | refine sC ?_ | refine sD ?_ | refine sE rfl ?_ | refine sF rfl ?_ | refine sG rfl ?_ | (refine sk_reg fun K hK => ?_; simp [hlt, c0.s, hws, hin0, f0.s, f1.s, f2.s, f3.s, f4.s, fr.s]; (repeat ((first | refine AskX.go (in_ac _ _ _) ?_); simp [hlt, c0.s, hws, hin0, f0.s, f1.s, f2.s, f3.s, f4.s, fr.s])); refine hK _ ?_; clear hK K))
  refine sk_ret ?_; simp [f0.s, f1.s, f2.s, f3.s, f4.s, fr.s]
  rw [hst]
  exact ⟨Nat.le_trans hl1 (Nat.le_of_eq hlF0.symm), fun j hj => (hF0 j (by omega)).trans (hg.same hj), [], wd0_rd _, ⟨List.nodup_nil, fun i hi => by simp at hi⟩, fun i hi => by simp at hi⟩
 cases hm0 : decide (l[i] ∈ l.take i)
 case true =>
  rw [hm0] at ci0
  have hst := hbad fun hh => by
   have e : l.take i ++ l[i] :: l.drop (i + 1) = l := by rw [List.getElem_cons_drop]; exact List.take_append_drop i l
   have hnn : (l.take i ++ l[i] :: l.drop (i + 1)).Nodup := by rw [e]; exact (startOk_all hh).2.2.2
   rw [List.nodup_append] at hnn
   exact hnn.2.2 _ (of_decide_eq_true hm0) l[i] List.mem_cons_self rfl
  repeat (first | refine sA ?_ | refine sB ?_ | refine sC ?_ | refine sD ?_ | refine sE rfl ?_ | refine sF rfl ?_ | refine sG rfl ?_ | (refine sk_reg fun K hK => ?_; simp [hlt, c0.s, hws, hin0, f0.s, f1.s, f2.s, f3.s, f4.s, fr.s, -sliceA, hsl]; (repeat ((first | refine AskX.go (in_ac _ _ _) ?_ | refine AskX.go (ci0) ?_); simp [hlt, c0.s, hws, hin0, f0.s, f1.s, f2.s, f3.s, f4.s, fr.s, -sliceA, hsl])); refine hK _ ?_; clear hK K))
  refine sk_ret ?_; simp [f0.s, f1.s, f2.s, f3.s, f4.s, fr.s]
  rw [hst]
  exact ⟨Nat.le_trans hl1 (Nat.le_of_eq hlF0.symm), fun j hj => (hF0 j (by omega)).trans (hg.same hj), [], wd0_rd _, ⟨List.nodup_nil, fun i hi => by simp at hi⟩, fun i hi => by simp at hi⟩
 rw [hm0] at ci0
 repeat (first | refine sA ?_ | refine sB ?_ | refine sC ?_ | refine sD ?_ | refine sE rfl ?_ | refine sF rfl ?_ | refine sG rfl ?_ | (refine sk_reg fun K hK => ?_; simp [hlt, c0.s, hws, hin0, -sliceA, hsl]; (repeat ((first | refine AskX.go (in_ac _ _ _) ?_ | refine AskX.go (ci0) ?_); simp [hlt, c0.s, hws, hin0, -sliceA, hsl])); refine hK _ ?_; clear hK K))
 have hLl := lnsS_len (l := l) hi
 obtain ⟨id, o, Ek, ck, z1, z2, ty, hwv, hidA, hnid, hsub, hndk, hRk, hckl, hal, hbk, hcl⟩ := rl.upd RLn.frm RLn.frm (fun _ _ _ _ h => h) oa (k := i) (by omega)
 rw [lnsS_get hlt] at hRk
 obtain ⟨E1, E2, v1, v2, rfl, rfl, hr1, hr2⟩ := hRk
 have hset := lnsS_set hlt
 obtain ⟨_, ⟨_, hh, _⟩ | ⟨ig, og, Eg, tg, rwg, pre, cs, post, rfl, rfl, hbg, hpre, hcs⟩⟩ := hr2
 ·simp [line0] at hh
 obtain ⟨rfl, rfl⟩ := hcs.plainE
 obtain rfl : rwg = true := by
  have := oa.2 ig (hsub ig (by simp))
  unfold Heap.rwOk at this
  rw [hbg] at this; simpa using this
 have hgne : ig ≠ id := fun hh => hnid (by rw [← hh]; simp)
 rw [hLl] at hwv
 subst hwv
 have hidn := la id hidA
 have hign := la ig (hsub ig (by simp))
 simp only [line0, List.length_cons, List.length_nil, Nat.zero_add, List.flatMap_cons, List.flatMap_nil, cGr, List.append_nil] at hbg hal hbk
 have m1 : CF H1 id (o + i * 4 + 1) v1 := CF.of hbk rfl (by have := get_mid (j := 1) (z := z2) (m := [iv 0, v1, sl ig og 1, iv (-1)]) hal rfl; simpa using this)
 have m2 : CF H1 id (o + i * 4 + 2) (sl ig og 1) := CF.of hbk rfl (by have := get_mid (j := 2) (z := z2) (m := [iv 0, v1, sl ig og 1, iv (-1)]) hal rfl; simpa using this)
 have mr := RF.of hbk
 have g1 : CF H1 ig (og + 1) (iv 0) := CF.of hbg rfl (by have := get_mid (j := 1) (z := post) (m := [iv 0, iv 0]) hpre rfl; simpa using this)
 have gr := RF.of hbg
 have hidl : H.length ≤ id := by omega
 have higl : H.length ≤ ig := by omega
 have hgne' : ¬ id = ig := fun hh => hgne hh.symm
 have q5 : ¬ id = X5 := fun hh => hidn.2.1 hh
 have q6 : ¬ id = X5 + 1 := fun hh => hidn.2.2 hh
 have p5 : ¬ ig = X5 := fun hh => hign.2.1 hh
 have p6 : ¬ ig = X5 + 1 := fun hh => hign.2.2 hh
 repeat (first | refine sA ?_ | refine sB ?_ | refine sC ?_ | refine sD ?_ | refine sE rfl ?_ | refine sF rfl ?_ | refine sG rfl ?_ | (refine sk_reg fun K hK => ?_; simp [d2.s, hlt, m1.s, m2.s, mr.s, g1.s, gr.s, hidl, higl, hl1, hgne, hgne', q5, q6, p5, p6]; refine hK _ ?_; clear hK K))
 refine sk_at [(0, iv s), (1, sl ia pa l.length), (4, pt H.length 0), (5, pt X5 0), (6, pt (X5 + 1) 0), (19, sl ia pa l.length), (20, iv l.length), (21, iv i)]
  (fun F => ∃ A', StI H X5 s l (sl id o l.length) (i + 1) i F vB A' B) (by simp [subL, getT]) ?_ ?_
 ·have hN : ¬ H1.length = id := by have := lt_of_get hbk; omega
  have hNg : ¬ H1.length = ig := by have := lt_of_get hbg; omega
  have hgF : ∀ j, j < H1.length → j ≠ id → j ≠ ig → (Heap.put (Heap.put (H1 ++ [⟨3, [iv l[i]], true, true⟩]) id (o + i * 4 + 1) (sl H1.length 0 1)) ig (og + 1) (iv 1))[j]? = H1[j]? := fun j hj h1 h2 => by
   rw [get_put_ne _ _ _ h2, get_put_ne _ _ _ h1, List.getElem?_append_left hj]
  have hgN : (Heap.put (Heap.put (H1 ++ [⟨3, [iv l[i]], true, true⟩]) id (o + i * 4 + 1) (sl H1.length 0 1)) ig (og + 1) (iv 1))[H1.length]? = some ⟨3, [iv l[i]], true, true⟩ := by
   rw [get_put_ne _ _ _ hNg, get_put_ne _ _ _ hN]; simp
  have hgI : (Heap.put (Heap.put (H1 ++ [⟨3, [iv l[i]], true, true⟩]) id (o + i * 4 + 1) (sl H1.length 0 1)) ig (og + 1) (iv 1))[id]? = some ⟨ty, z1 ++ ([iv 0, sl H1.length 0 1, sl ig og 1, iv (-1)] ++ z2), true, true⟩ := by
   rw [get_put_ne _ _ _ hgne', get_put, List.getElem?_append_left (lt_of_get hbk), hbk]
   simp only [Option.map_some]
   rw [set_mid hal (by simp)]
   rfl
  have hgG : (Heap.put (Heap.put (H1 ++ [⟨3, [iv l[i]], true, true⟩]) id (o + i * 4 + 1) (sl H1.length 0 1)) ig (og + 1) (iv 1))[ig]? = some ⟨tg, pre ++ [iv 0, iv 1] ++ post, true, true⟩ := by
   rw [get_put, get_put_ne _ _ _ hgne, List.getElem?_append_left (lt_of_get hbg), hbg]
   simp only [Option.map_some, List.append_assoc]
   rw [set_mid hpre (by simp)]
   rfl
  have hlF : List.length (Heap.put (Heap.put (H1 ++ [⟨3, [iv l[i]], true, true⟩]) id (o + i * 4 + 1) (sl H1.length 0 1)) ig (og + 1) (iv 1)) = H1.length + 1 := by simp [length_put]
  show ∃ A', StI H X5 s l (sl id o l.length) (i + 1) i (Heap.put (Heap.put (H1 ++ [⟨3, [iv l[i]], true, true⟩]) id (o + i * 4 + 1) (sl H1.length 0 1)) ig (og + 1) (iv 1)) vB A' B
  generalize (Heap.put (Heap.put (H1 ++ [⟨3, [iv l[i]], true, true⟩]) id (o + i * 4 + 1) (sl H1.length 0 1)) ig (og + 1) (iv 1)) = F at hgF hgN hgI hgG hlF ⊢
  have hB : ∀ j, j ∈ B → F[j]? = H1[j]? := fun j hj => hgF j (bdb j hj) (fun hh => ab id hidA (hh ▸ hj)) (fun hh => ab ig (hsub ig (by simp)) (hh ▸ hj))
  obtain ⟨A', ra', oa', la'⟩ := hcl F (lineS l[i]) [iv 0, sl H1.length 0 1, sl ig og 1, iv (-1)] [H1.length, ig] rfl
   ⟨[H1.length], [ig], sl H1.length 0 1, sl ig og 1, rfl, rfl, ⟨by simp [lineS], .inr ⟨H1.length, 0, [], 3, true, [], [iv l[i]], [], rfl, rfl, hgN, rfl, ⟨[], [], [iv l[i]], [], rfl, rfl, rfl, ⟨rfl, rfl⟩, rfl, rfl⟩⟩⟩,
    ⟨by simp [lineS], .inr ⟨ig, og, [], tg, true, pre, [iv 0, iv 1], post, rfl, rfl, hgG, hpre, ⟨[], [], [iv 0, iv 1], [], rfl, rfl, rfl, ⟨rfl, rfl⟩, rfl, rfl⟩⟩⟩⟩
   ⟨by simp [hNg], fun e he => by
    simp at he
    rcases he with rfl | rfl
    ·exact rw_get hgN
    ·exact rw_get hgG⟩ (fun e he => by
    simp at he
    rcases he with rfl | rfl
    ·exact .inr fun hh => by have := bda _ hh; omega
    ·exact .inl (by simp)) (fun e he h1 h2 => hgF e (bda e he) h1 fun hh => h2 (by rw [hh]; simp)) hgI
  rw [hset] at ra'
  have hA' : ∀ e, e ∈ A' → e ∈ A ∨ e = H1.length := fun e he => by
   rcases la' e he with h1 | h1
   ·exact .inl h1
   ·simp at h1
    rcases h1 with rfl | rfl
    ·exact .inr rfl
    ·exact .inl (hsub _ (by simp))
  refine ⟨A', ⟨Gro.of (by omega) fun j hj => (hgF j (by omega) (by omega) (by omega)).trans (hg.same hj), (hgF _ (by omega) (by omega) (by omega)).trans b4, (hgF _ b5l (Ne.symm q5) (Ne.symm p5)).trans b5, (hgF _ b6l (Ne.symm q6) (Ne.symm p6)).trans b6, ra', rb.fr (RP.frm _) fun j hj _ => hB j hj, oa', ob.fr hB, fun e he => ?_, lb, fun e he hb => ?_, hx⟩⟩
  ·rcases hA' e he with h1 | h1
   ·exact la e h1
   ·omega
  ·rcases hA' e he with h1 | h1
   ·exact ab e h1 hb
   ·have := bdb e hb; omega
 clear b4 b5 b6 rl rb oa ob la lb ab hg hl1 hgz f0 f1 f2 f3 f4 fr d2 e0 e1 e2 e3 e4 xv xcv b5l b6l bda bdb m1 m2 mr g1 gr hidl higl hcl hbk hbg hidn hign hidA hsub hnid hndk
 rintro F ⟨A', hg, b4, b5, b6, rl, rb, oa, ob, la, lb, ab, hx⟩
 have hl1 := hg.len
 have e4 : CF F (X5 + 1) 4 vB := CF.of b6 rfl rfl
 have bda := oa.lt
 have bdb := ob.lt
 obtain ⟨k, v2, H4, B', e5, e6, e7, e8, e9, e10, e11⟩ := app_one (P := Tryd.prog) (t := 40) (e := 47) (sz := 3) (by' := 32) (z := .agg #[iv 0, iv 0, iv 0, iv 0]) (by simp) (by simp) (by simp) (by simp) rfl (RP.frm cBd) rb ob (x := bdS) (cx := [iv 0, iv 1, iv 0, iv 0]) (Ex := []) ⟨rfl, rfl⟩ ⟨List.nodup_nil, fun i hi => by simp at hi⟩ (fun j _ hj => by simp at hj) rfl rfl (by simp; omega) (by simp [maxLen]; omega)
 have hwr : wrO H.length [] k := fun j hj => .inl (by have := lb j (e6 j hj).1; omega)
 have h6 : H4[X5 + 1]? = _ := (e8 _ (lt_of_get b6) fun hh => (lb _ hh).2.2 rfl).trans b6
 have h5 : H4[X5]? = _ := (e8 _ (lt_of_get b5) fun hh => (lb _ hh).2.1 rfl).trans b5
 have h4 : H4[H.length]? = _ := (e8 _ (lt_of_get b4) fun hh => by have := (lb _ hh).1; omega).trans b4
 have t4 : CF H4 (X5 + 1) 4 vB := CF.of h6 rfl rfl
 have tr := RF.of h6
 have xv := e9.one
 have xcv := e9.cv
 have hx6 : H.length ≤ X5 + 1 := by omega
 repeat (first | refine sA ?_ | refine sB ?_ | refine sC ?_ | refine sD ?_ | refine sE rfl ?_ | refine sF rfl ?_ | refine sG rfl ?_ | (refine sk_reg fun K hK => ?_; simp [e4.s, e5, hwr, hl1, t4.s, tr.s, xv, xcv, hx6, hw]; refine hK _ ?_; clear hK K))
 have hF6 : ∀ j, j ≠ X5 + 1 → (H4.put (X5 + 1) 4 v2)[j]? = H4[j]? := fun j hj => get_put_ne _ _ _ hj
 have nB : ∀ j, j ∈ B' → H.length < j ∧ j ≠ X5 ∧ j ≠ X5 + 1 := fun j hj => by
  rcases e11 j hj with hh | hh | hh
  ·exact lb j hh
  ·simp at hh
  ·have := lt_of_get b6; omega
 have nA : ∀ j, j ∈ A' → (H4.put (X5 + 1) 4 v2)[j]? = F[j]? := fun j hj => (hF6 j (la j hj).2.2).trans (e8 j (bda j hj) (ab j hj))
 refine sk_inv ⟨l.length - (i + 1), _, by omega, ?_, i + 1, v2, A', B', by omega, rfl, ⟨Gro.of (by rw [length_put]; omega) fun j hj => ((hF6 j (by omega)).trans (e8 j (by omega) fun hh => by have := (lb j hh).1; omega)).trans (hg.same hj), (hF6 _ (by omega)).trans h4, (hF6 _ (by omega)).trans h5, ?_, rl.fr RLn.frm fun j hj _ => nA j hj, ?_, oa.fr nA, e10.fr fun j hj => hF6 j (nB j hj).2.2, la, nB, fun j h1 h2 => ?_, hx⟩, ?_, ?_, rfl⟩
 ·simp [subL, getT]
 ·rw [get_put, h6]; rfl
 ·rw [List.replicate_succ']
  exact e9.fr (RP.frm _) fun j hj _ => hF6 j (nB j hj).2.2
 ·rcases e11 j h2 with hh | hh | hh
  ·exact ab j h1 hh
  ·simp at hh
  ·have := bda j h1; omega
 ·intro x hx
  rw [take_snoc hlt, List.mem_append] at hx
  rcases hx with hx | hx
  ·exact hin x hx
  ·simp at hx; subst hx; exact hin0
 ·rw [take_snoc hlt, List.nodup_append]
  refine ⟨hnd, by simp, fun a ha b hb hab => ?_⟩
  simp at hb; subst hb; subst hab
  exact of_decide_eq_false hm0 ha
end Go.Proofs.YtpoedfmkiiijnaaDoor
