/- The statement's own function FnAlone: it answers true. A walk. -/
import Derived.Test.YtpoedfmkiiijnaaDw3
import Derived.Test.YtpoedfmkiiijnaaRn1
import Derived.Test.YtpoedfmkiiijnaaBk6
import Derived.Test.YtpoedfmkiiijnaaPuA
namespace Go.Proofs.Ytpoedfmkiiijnaa
open Go Go.RowKit Go.Proofs.YtpoedfmkiiijnaaAm
set_option linter.unusedVariables false
set_option linter.unusedSimpArgs false
set_option maxRecDepth 10000
set_option maxHeartbeats 8000000
/-- The owners' block, beside what was there. -/
structure AlO (H H1 : Heap) (O : Nat) (arr : List Int) : Prop where
  g : Gro H H1
  o : H1[O]? = some ⟨3, arr.map (fun x => iv x), true, true⟩
  h : H.length ≤ O
theorem AlO.gro {H H1 H2 : Heap} {O : Nat} {arr : List Int} (h : AlO H H1 O arr) (g : Gro H1 H2) : AlO H H2 O arr := ⟨h.g.trans g, (g.same (lt_of_get h.o)).trans h.o, h.h⟩
theorem AlO.cf {H H1 : Heap} {O : Nat} {arr : List Int} (h : AlO H H1 O arr) {j : Nat} (hj : j < arr.length) : CF H1 O j (iv arr[j]) := CF.of h.o rfl (by simp [hj])
theorem AlO.put {H H1 : Heap} {O : Nat} {arr : List Int} (h : AlO H H1 O arr) (j : Nat) (x : Int) : AlO H (H1.put O j (iv x)) O (arr.set j x) := by
  have hh := h.h
  refine ⟨Gro.of (by rw [length_put]; exact h.g.len) fun i hi => (get_put_ne _ _ _ (by omega)).trans (h.g.same hi), ?_, hh⟩
  rw [get_put, h.o]
  simp [List.map_set]
theorem fill_set {S j : Nat} (h : j < S) : (List.replicate j (-1 : Int) ++ List.replicate (S - j) 0).set j (-1) = List.replicate (j + 1) (-1) ++ List.replicate (S - (j + 1)) 0 := by
  rw [show S - j = (S - (j + 1)) + 1 by omega, List.replicate_succ, List.set_append_right _ _ (by simp), List.length_replicate, Nat.sub_self, List.set_cons_zero, List.replicate_succ', List.append_assoc]
  rfl
def B14 : SC := .seq (.reg [⟨some 2, .assign (.const (.bool false)), none, []⟩]) (.seq (.seq (.reg [⟨some 19, .move (.tmp 0), none, []⟩, ⟨some 20, .call { callee := (.builtin .len), args := #[(.tmp 19)], argTypes := #[30] }, none, []⟩, ⟨some 21, .binOp .gtr 3 (.tmp 20) (.const (.int .i64 1048576)) 3, none, []⟩]) (.cond (.tmp 21) (.seq (.reg [⟨some 2, .assign (.const (.bool true)), none, []⟩]) .ret) .skip)) (.seq (.reg [⟨some 23, .move (.tmp 0), none, []⟩, ⟨some 24, .call { callee := (.value (.func 25)), args := #[(.tmp 23)], argTypes := #[30] }, none, []⟩, ⟨some 22, .move (.tmp 24), none, []⟩, ⟨some 25, .extract (.tmp 22) 0, none, []⟩, ⟨some 26, .extract (.tmp 22) 1, none, []⟩, ⟨some 27, .extract (.tmp 22) 2, none, []⟩, ⟨some 3, .assign (.tmp 25), none, []⟩, ⟨some 4, .assign (.tmp 26), none, []⟩, ⟨some 5, .assign (.tmp 27), none, []⟩]) (.seq (.reg [⟨some 28, .move (.tmp 3), none, []⟩, ⟨some 29, .move (.tmp 4), none, []⟩, ⟨some 30, .move (.tmp 5), none, []⟩, ⟨some 31, .call { callee := (.value (.func 27)), args := #[(.tmp 28), (.tmp 29), (.tmp 30)], argTypes := #[3, 3, 31] }, none, []⟩, ⟨some 6, .assign (.tmp 31), none, []⟩]) (.seq (.seq (.reg [⟨some 32, .move (.tmp 6), none, []⟩, ⟨some 33, .call { callee := (.builtin .len), args := #[(.tmp 32)], argTypes := #[34] }, none, []⟩, ⟨some 34, .move (.tmp 5), none, []⟩, ⟨some 35, .call { callee := (.builtin .len), args := #[(.tmp 34)], argTypes := #[31] }, none, []⟩, ⟨some 36, .binOp .neq 3 (.tmp 33) (.tmp 35) 3, none, []⟩]) (.cond (.tmp 36) (.seq (.reg [⟨some 2, .assign (.const (.bool false)), none, []⟩]) .ret) .skip)) (.seq (.seq (.reg [⟨some 37, .move (.tmp 6), none, []⟩, ⟨some 38, .call { callee := (.builtin .len), args := #[(.tmp 37)], argTypes := #[34] }, none, []⟩, ⟨some 39, .move (.const (.int .i64 0)), none, []⟩]) (.block 0 (.loop (.seq (.reg [⟨some 40, .binOp .lss 3 (.tmp 39) (.tmp 38) 3, none, []⟩]) (.seq (.cond (.tmp 40) .skip (.exit 0)) (.seq (.block 1 (.seq (.reg [⟨some 41, .indexAddr 34 (.tmp 37) (.tmp 39), none, []⟩, ⟨some 42, .load 39 (.tmp 41), none, []⟩, ⟨some 8, .alloc 39, none, []⟩, ⟨none, .store 39 (.tmp 8) (.tmp 42), none, []⟩]) (.seq (.reg [⟨some 43, .move (.tmp 3), none, []⟩, ⟨some 44, .makeSlice 40 (.tmp 43) (.tmp 43), none, []⟩, ⟨some 9, .assign (.tmp 44), none, []⟩]) (.seq (.seq (.reg [⟨some 45, .move (.tmp 9), none, []⟩, ⟨some 46, .call { callee := (.builtin .len), args := #[(.tmp 45)], argTypes := #[40] }, none, []⟩, ⟨some 47, .move (.const (.int .i64 0)), none, []⟩]) (.block 2 (.loop (.seq (.reg [⟨some 48, .binOp .lss 3 (.tmp 47) (.tmp 46) 3, none, []⟩]) (.seq (.cond (.tmp 48) .skip (.exit 2)) (.seq (.block 3 (.seq (.reg [⟨some 49, .move (.tmp 47), none, []⟩, ⟨some 10, .assign (.tmp 49), none, []⟩]) (.reg [⟨some 50, .move (.tmp 9), none, []⟩, ⟨some 51, .move (.tmp 10), none, []⟩, ⟨some 52, .indexAddr 40 (.tmp 50) (.tmp 51), none, []⟩, ⟨none, .store 3 (.tmp 52) (.const (.int .i64 (-1))), none, []⟩]))) (.reg [⟨some 53, .binOp .add 3 (.tmp 47) (.const (.int .i64 1)) 3, none, []⟩, ⟨some 47, .move (.tmp 53), none, []⟩]))))))) (.seq (.seq (.reg [⟨some 54, .fieldAddr 39 (.tmp 8) 1, none, []⟩, ⟨some 55, .fieldAddr 25 (.tmp 54) 2, none, []⟩, ⟨some 56, .load 23 (.tmp 55), none, []⟩, ⟨some 57, .call { callee := (.builtin .len), args := #[(.tmp 56)], argTypes := #[23] }, none, []⟩, ⟨some 58, .move (.const (.int .i64 0)), none, []⟩]) (.block 4 (.loop (.seq (.reg [⟨some 59, .binOp .lss 3 (.tmp 58) (.tmp 57) 3, none, []⟩]) (.seq (.cond (.tmp 59) .skip (.exit 4)) (.seq (.block 5 (.seq (.reg [⟨some 60, .move (.tmp 58), none, []⟩, ⟨some 61, .indexAddr 23 (.tmp 56) (.tmp 58), none, []⟩, ⟨some 62, .load 43 (.tmp 61), none, []⟩, ⟨some 12, .alloc 43, none, []⟩, ⟨some 11, .assign (.tmp 60), none, []⟩, ⟨none, .store 43 (.tmp 12) (.tmp 62), none, []⟩]) (.seq (.seq (.reg [⟨some 63, .fieldAddr 43 (.tmp 12) 1, none, []⟩, ⟨some 64, .load 40 (.tmp 63), none, []⟩, ⟨some 65, .call { callee := (.builtin .len), args := #[(.tmp 64)], argTypes := #[40] }, none, []⟩, ⟨some 66, .move (.const (.int .i64 0)), none, []⟩]) (.block 6 (.loop (.seq (.reg [⟨some 67, .binOp .lss 3 (.tmp 66) (.tmp 65) 3, none, []⟩]) (.seq (.cond (.tmp 67) .skip (.exit 6)) (.seq (.block 7 (.seq (.reg [⟨some 68, .indexAddr 40 (.tmp 64) (.tmp 66), none, []⟩, ⟨some 69, .load 3 (.tmp 68), none, []⟩, ⟨some 14, .assign (.tmp 69), none, []⟩]) (.seq (.seq (.reg [⟨some 70, .move (.tmp 14), none, []⟩, ⟨some 71, .binOp .lss 3 (.tmp 70) (.const (.int .i64 0)) 3, none, []⟩, ⟨some 72, .move (.tmp 71), none, []⟩, ⟨some 73, .move (.tmp 14), some (72, false), []⟩, ⟨some 74, .move (.tmp 3), some (72, false), []⟩, ⟨some 75, .binOp .geq 3 (.tmp 73) (.tmp 74) 3, some (72, false), []⟩, ⟨some 76, .pick (.tmp 72) (.const (.bool true)) (.tmp 75), none, []⟩, ⟨some 77, .move (.tmp 76), none, []⟩, ⟨some 78, .move (.tmp 9), some (77, false), []⟩, ⟨some 79, .move (.tmp 14), some (77, false), []⟩, ⟨some 80, .indexAddr 40 (.tmp 78) (.tmp 79), some (77, false), []⟩, ⟨some 81, .load 3 (.tmp 80), some (77, false), []⟩, ⟨some 82, .binOp .geq 3 (.tmp 81) (.const (.int .i64 0)) 3, some (77, false), []⟩, ⟨some 83, .pick (.tmp 77) (.const (.bool true)) (.tmp 82), none, []⟩]) (.cond (.tmp 83) (.seq (.reg [⟨some 2, .assign (.const (.bool false)), none, []⟩]) .ret) .skip)) (.reg [⟨some 84, .move (.tmp 9), none, []⟩, ⟨some 85, .move (.tmp 14), none, []⟩, ⟨some 86, .move (.tmp 11), none, []⟩, ⟨some 87, .indexAddr 40 (.tmp 84) (.tmp 85), none, []⟩, ⟨none, .store 3 (.tmp 87) (.tmp 86), none, []⟩])))) (.reg [⟨some 88, .binOp .add 3 (.tmp 66) (.const (.int .i64 1)) 3, none, []⟩, ⟨some 66, .move (.tmp 88), none, []⟩]))))))) (.seq (.reg [⟨some 15, .assign (.const (.int .i64 0)), none, []⟩]) (.seq (.seq (.reg [⟨some 89, .fieldAddr 43 (.tmp 12) 2, none, []⟩, ⟨some 90, .load 41 (.tmp 89), none, []⟩, ⟨some 91, .call { callee := (.builtin .len), args := #[(.tmp 90)], argTypes := #[41] }, none, []⟩, ⟨some 92, .move (.const (.int .i64 0)), none, []⟩]) (.block 8 (.loop (.seq (.reg [⟨some 93, .binOp .lss 3 (.tmp 92) (.tmp 91) 3, none, []⟩]) (.seq (.cond (.tmp 93) .skip (.exit 8)) (.seq (.block 9 (.seq (.reg [⟨some 94, .indexAddr 41 (.tmp 90) (.tmp 92), none, []⟩, ⟨some 95, .load 45 (.tmp 94), none, []⟩, ⟨some 17, .alloc 45, none, []⟩, ⟨none, .store 45 (.tmp 17) (.tmp 95), none, []⟩]) (.seq (.seq (.reg [⟨some 96, .fieldAddr 45 (.tmp 17) 1, none, []⟩, ⟨some 97, .load 3 (.tmp 96), none, []⟩, ⟨some 98, .fieldAddr 43 (.tmp 12) 0, none, []⟩, ⟨some 99, .load 3 (.tmp 98), none, []⟩, ⟨some 100, .fieldAddr 43 (.tmp 12) 1, none, []⟩, ⟨some 101, .load 40 (.tmp 100), none, []⟩, ⟨some 102, .call { callee := (.builtin .len), args := #[(.tmp 101)], argTypes := #[40] }, none, []⟩, ⟨some 103, .binOp .add 3 (.tmp 99) (.tmp 102) 3, none, []⟩, ⟨some 104, .binOp .gtr 3 (.tmp 97) (.tmp 103) 3, none, []⟩]) (.cond (.tmp 104) (.seq (.reg [⟨some 2, .assign (.const (.bool false)), none, []⟩]) .ret) .skip)) (.seq (.reg [⟨some 105, .fieldAddr 45 (.tmp 17) 1, none, []⟩, ⟨some 106, .load 3 (.tmp 105), none, []⟩, ⟨some 107, .move (.tmp 15), none, []⟩, ⟨some 108, .binOp .gtr 3 (.tmp 106) (.tmp 107) 3, none, []⟩]) (.cond (.tmp 108) (.reg [⟨some 109, .fieldAddr 45 (.tmp 17) 1, none, []⟩, ⟨some 110, .load 3 (.tmp 109), none, []⟩, ⟨some 15, .assign (.tmp 110), none, []⟩]) .skip))))) (.reg [⟨some 111, .binOp .add 3 (.tmp 92) (.const (.int .i64 1)) 3, none, []⟩, ⟨some 92, .move (.tmp 111), none, []⟩]))))))) (.seq (.reg [⟨some 112, .fieldAddr 39 (.tmp 8) 1, none, []⟩, ⟨some 113, .load 25 (.tmp 112), none, []⟩, ⟨some 114, .move (.tmp 11), none, []⟩, ⟨some 115, .call { callee := (.value (.func 37)), args := #[(.tmp 113), (.tmp 114)], argTypes := #[25, 3] }, none, []⟩, ⟨some 116, .move (.tmp 15), none, []⟩, ⟨some 117, .binOp .neq 3 (.tmp 115) (.tmp 116) 3, none, []⟩]) (.cond (.tmp 117) (.seq (.reg [⟨some 2, .assign (.const (.bool false)), none, []⟩]) .ret) .skip))))))) (.reg [⟨some 118, .binOp .add 3 (.tmp 58) (.const (.int .i64 1)) 3, none, []⟩, ⟨some 58, .move (.tmp 118), none, []⟩]))))))) (.seq (.reg [⟨some 119, .move (.tmp 9), none, []⟩, ⟨some 120, .call { callee := (.builtin .len), args := #[(.tmp 119)], argTypes := #[40] }, none, []⟩, ⟨some 121, .move (.const (.int .i64 0)), none, []⟩]) (.block 10 (.loop (.seq (.reg [⟨some 122, .binOp .lss 3 (.tmp 121) (.tmp 120) 3, none, []⟩]) (.seq (.cond (.tmp 122) .skip (.exit 10)) (.seq (.block 11 (.seq (.reg [⟨some 123, .move (.tmp 121), none, []⟩, ⟨some 18, .assign (.tmp 123), none, []⟩]) (.seq (.drw 0 [⟨some 124, .fieldAddr 39 (.tmp 8) 1, none, []⟩, ⟨some 125, .load 25 (.tmp 124), none, [0]⟩, ⟨some 126, .move (.tmp 18), none, []⟩, ⟨some 127, .call { callee := (.value (.func 44)), args := #[(.tmp 125), (.tmp 126)], argTypes := #[25, 3] }, none, [1, 0, 2]⟩, ⟨some 128, .move (.tmp 9), none, []⟩, ⟨some 129, .move (.tmp 18), none, []⟩, ⟨some 130, .indexAddr 40 (.tmp 128) (.tmp 129), none, [4, 5]⟩, ⟨some 131, .load 3 (.tmp 130), none, [6, 4, 5]⟩, ⟨some 132, .binOp .neq 3 (.tmp 127) (.tmp 131) 3, none, [3, 1, 0, 2, 7, 6, 4, 5]⟩]) (.cond (.tmp 132) (.seq (.reg [⟨some 2, .assign (.const (.bool false)), none, []⟩]) .ret) .skip)))) (.reg [⟨some 133, .binOp .add 3 (.tmp 121) (.const (.int .i64 1)) 3, none, []⟩, ⟨some 121, .move (.tmp 133), none, []⟩])))))))))))) (.reg [⟨some 134, .binOp .add 3 (.tmp 39) (.const (.int .i64 1)) 3, none, []⟩, ⟨some 39, .move (.tmp 134), none, []⟩]))))))) (.seq (.reg [⟨some 2, .assign (.const (.bool true)), none, []⟩]) .ret))))))
theorem s14 : Try.f14.body.bind (stripC 135) = some B14 := by kernel_rfl
theorem lawAlone_ac {H : Heap} {E : List Nat} {v : Value} {bs : List Int} (h : RS 1 RBy H E v bs) : AC Try.prog 14 [v] H (.bool true) H [] := by
  obtain ⟨a1, c1, rfl⟩ := h.form
  have hn := h.1
  refine AC.of_pureS (N := 135) Try.func14 s14 (by kernel_rfl) rfl rfl (by simp) rfl ?_; unfold B14
  by_cases q : bs.length ≤ 1048576
  case neg =>
    have q' : (1048576 : Int) < bs.length := by omega
    repeat (first | refine sA ?_ | refine sB ?_ | refine sC ?_ | refine sD ?_ | refine sE rfl ?_ | refine sF rfl ?_ | refine sG rfl ?_ | ((first | refine sk_reg fun K hK => ?_ | refine sk_drw mix fun K hK => ?_); simp [q']; refine hK _ ?_; clear hK K))
    refine sk_ret ?_; simp
  have q' : ¬ (1048576 : Int) < bs.length := by omega
  repeat (first | refine sA ?_ | refine sB ?_ | refine sC ?_ | refine sD ?_ | refine sE rfl ?_ | refine sF rfl ?_ | refine sG rfl ?_ | ((first | refine sk_reg fun K hK => ?_ | refine sk_drw mix fun K hK => ?_); simp [q']; refine hK _ ?_; clear hK K))
  refine sk_reg fun K hK => ?_; simp
  refine AskX.mkr (events_mk h) ?_; rintro _ J1 A1 ⟨s, t, es', ve, rfl, s1, s2, t1, t2, r1, hel⟩ o1 n1; simp [r1.one, r1.cv]
  refine hK _ ?_; clear hK K
  obtain ⟨S, rfl⟩ : ∃ S : Nat, s = S := ⟨s.toNat, by omega⟩
  obtain ⟨hrl, hrk⟩ := runB_at (s := S) (t := t) ⟨s1, s2⟩ ⟨t1, t2⟩ hel
  obtain ⟨av, cv, rfl⟩ := r1.form
  repeat (first | refine sA ?_ | refine sB ?_ | refine sC ?_ | refine sD ?_ | refine sE rfl ?_ | refine sF rfl ?_ | refine sG rfl ?_ | ((first | refine sk_reg fun K hK => ?_ | refine sk_drw mix fun K hK => ?_); simp; refine hK _ ?_; clear hK K))
  refine sk_reg fun K hK => ?_; simp
  refine AskX.mkr (implRun_mk (r1.gro (by first | exact Gro.refl _ | exact ⟨_, rfl⟩ | exact ⟨_, by simp only [List.append_assoc, List.cons_append, List.nil_append]; rfl⟩ | exact ⟨[], by simp⟩) (RP.frm _)) (S : Int) t) ?_; rintro w8 J8 A8 r8 o8 n8; simp [r8.one, r8.cv]
  refine hK _ ?_; clear hK K
  generalize hD : runB S t es' = D at *
  obtain ⟨a8, c8, rfl⟩ := r8.form
  repeat (first | refine sA ?_ | refine sB ?_ | refine sC ?_ | refine sD ?_ | refine sE rfl ?_ | refine sF rfl ?_ | refine sG rfl ?_ | ((first | refine sk_reg fun K hK => ?_ | refine sk_drw mix fun K hK => ?_); simp [hrl]; refine hK _ ?_; clear hK K))
  have r8' : RS 4 RDn (H ++ (J1 ++ J8)) A8 (.slice a8 es'.length c8) D := by rw [← List.append_assoc]; rw [hrl] at r8; exact r8
  clear r8 o8 n8
  obtain ⟨H1, hH1⟩ : ∃ H1, H1 = H ++ (J1 ++ J8) := ⟨_, rfl⟩
  rw [← hH1] at r8' ⊢
  have hg1 : Gro H H1 := ⟨_, hH1⟩
  clear hH1 r1 o1 n1
  generalize es'.length = L at *
  refine sk_loop (fun m ts H' => ∃ i : Nat, i ≤ L ∧ m = L - i ∧ Gro H1 H' ∧ ts = [(3, iv S), (37, .slice a8 L c8), (38, iv L), (39, iv i)]) L _ ?_ ⟨0, by omega, rfl, Gro.refl _, rfl⟩ ?_
  · simp [subL, getT]
  rintro m ts H2 ⟨i, hi, rfl, hg2, rfl⟩
  by_cases hlt : i < L
  case neg =>
    obtain rfl : i = L := by omega
    repeat (first | refine sA ?_ | refine sB ?_ | refine sC ?_ | refine sD ?_ | refine sE rfl ?_ | refine sF rfl ?_ | refine sG rfl ?_ | ((first | refine sk_reg fun K hK => ?_ | refine sk_drw mix fun K hK => ?_); simp; refine hK _ ?_; clear hK K))
    refine sk_ret ?_; simp
    exact hg1.trans hg2
  obtain ⟨hbo, hse⟩ := hrk D[i] (List.getElem_mem (by omega))
  obtain ⟨id, o, Ek, cs, hv, hid, _, _, hR, hsz, hc⟩ := (r8'.gro hg2 RDn.frm).at (k := i) (by omega)
  obtain ⟨_, rfl, ul, rfl, rl⟩ := hR
  rw [hrl] at hv
  simp only [Value.slice.injEq, true_and] at hv
  obtain ⟨rfl, rfl⟩ := hv
  obtain ⟨d, hdi⟩ : ∃ d, d = D[i] := ⟨_, rfl⟩
  rw [← hdi] at hbo hse rl hc
  have c0 : CF H2 id (o + i * 4) (iv d.code) := fun L => by have := hc 0 _ rfl L; simpa using this
  have c1 : CF H2 id (o + i * 4 + 1) (.bool d.book.ok) := fun L => hc 1 _ rfl L
  have c2 : CF H2 id (o + i * 4 + 2) (iv d.book.sec) := fun L => hc 2 _ rfl L
  have c3 : CF H2 id (o + i * 4 + 3) ul := fun L => hc 3 _ rfl L
  have xu := rl.one
  have yu := rl.cv
  have hl2 : H.length ≤ H2.length := (hg1.trans hg2).len
  repeat (first | refine sA ?_ | refine sB ?_ | refine sC ?_ | refine sD ?_ | refine sE rfl ?_ | refine sF rfl ?_ | refine sG rfl ?_ | ((first | refine sk_reg fun K hK => ?_ | refine sk_drw mix fun K hK => ?_); simp [hlt, c0.s, c1.s, c2.s, c3.s, xu, yu, hl2]; refine hK _ ?_; clear hK K))
  refine sk_at [(3, iv S), (8, pt H2.length 0), (37, sl id o L), (38, iv L), (39, iv i)] (fun H3 => Gro H2 H3 ∧ H3[H2.length]? = some ⟨39, [iv d.code, .bool d.book.ok, iv d.book.sec, ul], true, true⟩) (by simp [subL, getT]) ⟨Gro.one _ _, by simp⟩ ?_
  rintro H3 ⟨g3, b8⟩
  generalize hT8 : H2.length = T8 at *
  have rl3 := rl.gro g3 RLn.frm
  have hl3 : H.length ≤ H3.length := ((hg1.trans hg2).trans g3).len
  have hz3 : ∀ n, H.length ≤ H3.length + n := fun n => by omega
  have hm1 : (8 : Int) * (S : Int) ≤ 281474976710656 := by omega
  have hm2 : (S : Int) ≤ 9223372036854775807 := by omega
  have hg3 : Gro H H3 := (hg1.trans hg2).trans g3
  have hg13 : Gro H1 H3 := hg2.trans g3
  clear c0 c1 c2 c3 rl r8' hc hsz
  repeat (first | refine sA ?_ | refine sB ?_ | refine sC ?_ | refine sD ?_ | refine sE rfl ?_ | refine sF rfl ?_ | refine sG rfl ?_ | ((first | refine sk_reg fun K hK => ?_ | refine sk_drw mix fun K hK => ?_); simp [hm1, hm2, hl3]; refine hK _ ?_; clear hK K))
  refine sk_loop (fun m ts H' => ∃ j : Nat, j ≤ S ∧ m = S - j ∧ AlO H3 H' H3.length (List.replicate j (-1) ++ List.replicate (S - j) 0) ∧ ts = [(3, iv S), (8, pt T8 0), (37, sl id o L), (38, iv L), (39, iv i), (9, sl H3.length 0 S), (46, iv S), (47, iv j)]) S _ ?_ ⟨0, by omega, rfl, ⟨Gro.one _ _, by simp, Nat.le_refl _⟩, rfl⟩ ?_
  · simp [subL, getT]
  rintro m ts H4 ⟨j, hj, rfl, hA, rfl⟩
  by_cases hjt : j < S
  · have cj := hA.cf (j := j) (by simp; omega)
    have ar := RF.of hA.o
    have hwj : IntKind.i64.wrap ((j : Int) + 1) = (j : Int) + 1 := wrap_id (by omega) (by omega)
    repeat (first | refine sA ?_ | refine sB ?_ | refine sC ?_ | refine sD ?_ | refine sE rfl ?_ | refine sF rfl ?_ | refine sG rfl ?_ | ((first | refine sk_reg fun K hK => ?_ | refine sk_drw mix fun K hK => ?_); simp [hjt, cj.s, ar.s, hl3, hz3, hwj]; refine hK _ ?_; clear hK K))
    refine sk_inv ⟨S - (j + 1), _, by omega, ?_, j + 1, by omega, rfl, by rw [← fill_set hjt]; exact hA.put j (-1), rfl⟩
    simp [subL, getT]
  obtain rfl : S = j := by omega
  rw [Nat.sub_self, List.replicate_zero, List.append_nil] at hA
  obtain ⟨_, hrg2, _, _, hnd⟩ := bookOk_all hbo
  have hA0 : AlO H3 H4 H3.length (arrL d.book.lines 0 0 S) := by
    rw [show arrL d.book.lines 0 0 S = List.replicate S (-1) from by simp [arrL, arrF_0, List.map_const']]
    exact hA
  clear hA
  generalize hO : H3.length = O at *
  have hgT : ∀ {H' : Heap} {arr : List Int}, AlO H3 H' O arr → H'[T8]? = some ⟨39, [iv d.code, .bool d.book.ok, iv d.book.sec, ul], true, true⟩ := fun h => (h.g.same (lt_of_get b8)).trans b8
  obtain ⟨au, cu, rfl⟩ := rl3.form
  have d0 : CF H4 T8 0 (iv d.code) := CF.of (hgT hA0) rfl rfl
  have d1 : CF H4 T8 1 (.bool d.book.ok) := CF.of (hgT hA0) rfl rfl
  have d2 : CF H4 T8 2 (iv d.book.sec) := CF.of (hgT hA0) rfl rfl
  have d3 : CF H4 T8 3 (.slice au d.book.lines.length cu) := CF.of (hgT hA0) rfl rfl
  repeat (first | refine sA ?_ | refine sB ?_ | refine sC ?_ | refine sD ?_ | refine sE rfl ?_ | refine sF rfl ?_ | refine sG rfl ?_ | ((first | refine sk_reg fun K hK => ?_ | refine sk_drw mix fun K hK => ?_); simp [d0.s, d1.s, d2.s, d3.s]; refine hK _ ?_; clear hK K))
  clear d0 d1 d2 d3
  refine sk_loop (fun m ts H' => ∃ k : Nat, k ≤ d.book.lines.length ∧ m = d.book.lines.length - k ∧ AlO H3 H' O (arrL d.book.lines k 0 S) ∧ ts = [(3, iv S), (8, pt T8 0), (9, sl O 0 S), (37, sl id o L), (38, iv L), (39, iv i), (56, .slice au d.book.lines.length cu), (57, iv d.book.lines.length), (58, iv k)]) d.book.lines.length _ ?_ ⟨0, by omega, rfl, hA0, rfl⟩ ?_
  · simp [subL, getT]
  clear hA0
  rintro m ts H5 ⟨k, hk, rfl, hA, rfl⟩
  have d0 : CF H5 T8 0 (iv d.code) := CF.of (hgT hA) rfl rfl
  have d1 : CF H5 T8 1 (.bool d.book.ok) := CF.of (hgT hA) rfl rfl
  have d2 : CF H5 T8 2 (iv d.book.sec) := CF.of (hgT hA) rfl rfl
  have d3 : CF H5 T8 3 (.slice au d.book.lines.length cu) := CF.of (hgT hA) rfl rfl
  have hl5 : H.length ≤ H5.length := (hg3.trans hA.g).len
  by_cases hkt : k < d.book.lines.length
  case neg =>
    obtain rfl : k = d.book.lines.length := by omega
    repeat (first | refine sA ?_ | refine sB ?_ | refine sC ?_ | refine sD ?_ | refine sE rfl ?_ | refine sF rfl ?_ | refine sG rfl ?_ | ((first | refine sk_reg fun K hK => ?_ | refine sk_drw mix fun K hK => ?_); simp; refine hK _ ?_; clear hK K))
    refine sk_loop (fun m ts H' => ∃ q : Nat, q ≤ S ∧ m = S - q ∧ AlO H3 H' O (arrL d.book.lines d.book.lines.length 0 S) ∧ ts = [(3, iv S), (8, pt T8 0), (9, sl O 0 S), (37, sl id o L), (38, iv L), (39, iv i), (120, iv S), (121, iv q)]) S _ ?_ ⟨0, by omega, rfl, hA, rfl⟩ ?_
    · simp [subL, getT]
    clear hA d0 d1 d2 d3
    rintro m ts H6 ⟨q, hq, rfl, hA, rfl⟩
    have d0 : CF H6 T8 0 (iv d.code) := CF.of (hgT hA) rfl rfl
    have d1 : CF H6 T8 1 (.bool d.book.ok) := CF.of (hgT hA) rfl rfl
    have d2 : CF H6 T8 2 (iv d.book.sec) := CF.of (hgT hA) rfl rfl
    have d3 : CF H6 T8 3 (.slice au d.book.lines.length cu) := CF.of (hgT hA) rfl rfl
    by_cases hqt : q < S
    · have hwq : IntKind.i64.wrap ((q : Int) + 1) = (q : Int) + 1 := wrap_id (by omega) (by omega)
      have aco := implOwner_ac (H := H6) (b := d.book) (cs := [.bool d.book.ok, iv d.book.sec, .slice au d.book.lines.length cu]) ⟨_, rfl, rl3.gro hA.g RLn.frm⟩ q
      have how : ownerB d.book q = ownB d.book.lines q := by unfold ownerB; rw [if_pos hbo]
      rw [how] at aco
      have cq := hA.cf (j := q) (by simp [arrL]; omega)
      rw [show (arrL d.book.lines d.book.lines.length 0 S)[q]'(by simp [arrL]; omega) = ownB d.book.lines q from by simp only [arrL, List.getElem_map, List.getElem_range, arrF_n]] at cq
      have hl6 : H.length ≤ H6.length := (hg3.trans hA.g).len
      repeat (first | refine sA ?_ | refine sB ?_ | refine sC ?_ | refine sD ?_ | refine sE rfl ?_ | refine sF rfl ?_ | refine sG rfl ?_ | ((first | refine sk_reg fun K hK => ?_ | refine sk_drw mix fun K hK => ?_); simp [hqt, d0.s, d1.s, d2.s, d3.s, cq.s, hwq, hl6]; (repeat ((first | refine AskX.go (aco) ?_ | refine AskD.go (aco) ?_); simp [hqt, d0.s, d1.s, d2.s, d3.s, cq.s, hwq, hl6])); refine hK _ ?_; clear hK K))
      refine sk_inv ⟨S - (q + 1), _, by omega, ?_, q + 1, by omega, rfl, hA, rfl⟩
      simp [subL, getT]
    obtain rfl : S = q := by omega
    have hwi : IntKind.i64.wrap ((i : Int) + 1) = (i : Int) + 1 := wrap_id (by omega) (by omega)
    repeat (first | refine sA ?_ | refine sB ?_ | refine sC ?_ | refine sD ?_ | refine sE rfl ?_ | refine sF rfl ?_ | refine sG rfl ?_ | ((first | refine sk_reg fun K hK => ?_ | refine sk_drw mix fun K hK => ?_); simp [hwi]; refine hK _ ?_; clear hK K))
    refine sk_inv ⟨L - (i + 1), _, by omega, ?_, i + 1, by omega, rfl, hg13.trans hA.g, rfl⟩
    simp [subL, getT]
  have hln := bookOk_ln hbo hkt
  obtain ⟨il, ol, vw, vg, F1, F2, hpl, hil, l0, l1, l2, l3, rw1, rg1, yo1, yo2, _⟩ := rl3.line hkt
  simp only [Value.slice.injEq, true_and] at hpl
  obtain ⟨rfl, rfl⟩ := hpl
  generalize hl : d.book.lines[k] = l at *
  have l0' := l0.gro hA.g
  have l1' := l1.gro hA.g
  have l2' := l2.gro hA.g
  have l3' := l3.gro hA.g
  repeat (first | refine sA ?_ | refine sB ?_ | refine sC ?_ | refine sD ?_ | refine sE rfl ?_ | refine sF rfl ?_ | refine sG rfl ?_ | ((first | refine sk_reg fun K hK => ?_ | refine sk_drw mix fun K hK => ?_); simp [hkt, l0'.s, l1'.s, l2'.s, l3'.s, yo1, yo2, hl5]; refine hK _ ?_; clear hK K))
  obtain ⟨T, hT⟩ : ∃ T, T = H5.length := ⟨_, rfl⟩
  refine sk_at [(3, iv S), (8, pt T8 0), (9, sl O 0 S), (37, sl id o L), (38, iv L), (39, iv i), (56, sl il ol d.book.lines.length), (57, iv d.book.lines.length), (58, iv k), (11, iv k), (12, pt T 0)] (fun H6 => AlO H3 H6 O (arrL d.book.lines k 0 S) ∧ H6[T]? = some ⟨43, [iv l.gone, vw, vg, iv l.drop], true, true⟩) (by simp [subL, getT, hT]) ⟨hA.gro (Gro.one _ _), by rw [hT]; simp⟩ ?_
  have hOT : T ≠ O := by have := lt_of_get hA.o; omega
  clear hA d0 d1 d2 d3 l0' l1' l2' l3' l0 l1 l2 l3
  rintro H6 ⟨hA, bT⟩
  have t0 : CF H6 T 0 (iv l.gone) := CF.of bT rfl rfl
  have t1 : CF H6 T 1 vw := CF.of bT rfl rfl
  obtain ⟨aw, cw, rfl⟩ := rw1.form
  repeat (first | refine sA ?_ | refine sB ?_ | refine sC ?_ | refine sD ?_ | refine sE rfl ?_ | refine sF rfl ?_ | refine sG rfl ?_ | ((first | refine sk_reg fun K hK => ?_ | refine sk_drw mix fun K hK => ?_); simp [t0.s, t1.s]; refine hK _ ?_; clear hK K))
  refine sk_loop (fun m ts H' => ∃ w : Nat, w ≤ l.way.length ∧ m = l.way.length - w ∧ AlO H3 H' O (arrL d.book.lines k w S) ∧ H'[T]? = some ⟨43, [iv l.gone, .slice aw l.way.length cw, vg, iv l.drop], true, true⟩ ∧ ts = [(3, iv S), (8, pt T8 0), (9, sl O 0 S), (37, sl id o L), (38, iv L), (39, iv i), (56, sl il ol d.book.lines.length), (57, iv d.book.lines.length), (58, iv k), (11, iv k), (12, pt T 0), (64, .slice aw l.way.length cw), (65, iv l.way.length), (66, iv w)]) l.way.length _ ?_ ⟨0, by omega, rfl, hA, bT, rfl⟩ ?_
  · simp [subL, getT]
  clear hA bT t0 t1
  rintro m ts H7 ⟨w, hw, rfl, hA, bT, rfl⟩
  by_cases hwt : w < l.way.length
  · obtain ⟨iw, ow, hvw, hiw, cx⟩ := (rw1.gro hA.g (RP.frm _)).int hwt
    simp only [Value.slice.injEq, true_and] at hvw
    obtain ⟨rfl, rfl⟩ := hvw
    have hr2 := all_at hrg2 hkt
    rw [hl, hse] at hr2
    simp only [ok2, inB, Bool.and_eq_true, decide_eq_true_eq, List.all_eq_true] at hr2
    have hxr := hr2.2 l.way[w] (List.getElem_mem hwt)
    obtain ⟨x, hx⟩ : ∃ x : Nat, l.way[w] = x := ⟨l.way[w].toNat, by omega⟩
    rw [hx] at cx hxr
    have hxS : x < S := by omega
    have hxS' : ¬ S ≤ x := by omega
    have hx0 : ¬ (x : Int) < 0 := by omega
    have ca := hA.cf (j := x) (by simp [arrL]; omega)
    rw [show (arrL d.book.lines k w S)[x]'(by simp [arrL]; omega) = -1 from by
      simp only [arrL, List.getElem_map, List.getElem_range]
      have := arrF_free hnd hkt (w := w) (by rw [hl]; exact hwt)
      simp only [hl, hx] at this
      exact this] at ca
    have ar := RF.of hA.o
    have hset := arrL_set hnd (S := S) hkt (w := w) (x := x) (by rw [hl]; exact hwt) (by simp only [hl]; exact hx) hxS
    have hl7 : H.length ≤ H7.length := (hg3.trans hA.g).len
    have hOl : H.length ≤ O := by have := hA.h; omega
    have wO : ∀ n, H.length ≤ O + n := fun n => by omega
    have hww : IntKind.i64.wrap ((w : Int) + 1) = (w : Int) + 1 := wrap_id (by have := hln.w1; omega) (by have := hln.w1; omega)
    repeat (first | refine sA ?_ | refine sB ?_ | refine sC ?_ | refine sD ?_ | refine sE rfl ?_ | refine sF rfl ?_ | refine sG rfl ?_ | ((first | refine sk_reg fun K hK => ?_ | refine sk_drw mix fun K hK => ?_); simp [hwt, cx.s, ca.s, ar.s, hxS, hxS', hx0, hl7, wO, hOl, hww]; refine hK _ ?_; clear hK K))
    refine sk_inv ⟨l.way.length - (w + 1), _, by omega, ?_, w + 1, by omega, rfl, by rw [← hset]; exact hA.put x k, (get_put_ne _ _ _ hOT).trans bT, rfl⟩
    simp [subL, getT]
  obtain rfl : w = l.way.length := by omega
  have hA' : AlO H3 H7 O (arrL d.book.lines (k + 1) 0 S) := by
    rw [← arrL_next hnd hkt, hl]; exact hA
  clear hA
  have t0 : CF H7 T 0 (iv l.gone) := CF.of bT rfl rfl
  have t1 : CF H7 T 1 (.slice aw l.way.length cw) := CF.of bT rfl rfl
  have t2 : CF H7 T 2 vg := CF.of bT rfl rfl
  obtain ⟨ag, cg, rfl⟩ := rg1.form
  repeat (first | refine sA ?_ | refine sB ?_ | refine sC ?_ | refine sD ?_ | refine sE rfl ?_ | refine sF rfl ?_ | refine sG rfl ?_ | ((first | refine sk_reg fun K hK => ?_ | refine sk_drw mix fun K hK => ?_); simp [t0.s, t1.s, t2.s]; refine hK _ ?_; clear hK K))
  refine sk_loop (fun m ts H' => ∃ g : Nat, g ≤ l.grs.length ∧ m = l.grs.length - g ∧ AlO H3 H' O (arrL d.book.lines (k + 1) 0 S) ∧ H'[T]? = some ⟨43, [iv l.gone, .slice aw l.way.length cw, .slice ag l.grs.length cg, iv l.drop], true, true⟩ ∧ ts = [(3, iv S), (8, pt T8 0), (9, sl O 0 S), (37, sl id o L), (38, iv L), (39, iv i), (56, sl il ol d.book.lines.length), (57, iv d.book.lines.length), (58, iv k), (11, iv k), (12, pt T 0), (15, iv (reachL (l.grs.take g))), (90, .slice ag l.grs.length cg), (91, iv l.grs.length), (92, iv g)]) l.grs.length _ ?_ ⟨0, by omega, rfl, hA', bT, rfl⟩ ?_
  · simp [subL, getT, reachL]
  clear hA' bT t0 t1 t2
  rintro m ts H8 ⟨g, hg, rfl, hA, bT, rfl⟩
  have t0 : CF H8 T 0 (iv l.gone) := CF.of bT rfl rfl
  have t1 : CF H8 T 1 (.slice aw l.way.length cw) := CF.of bT rfl rfl
  have hl8 : H.length ≤ H8.length := (hg3.trans hA.g).len
  by_cases hgt : g < l.grs.length
  · obtain ⟨ig, og, hvg, hig, e0, e1⟩ := (rg1.gro hA.g (RP.frm _)).gr hgt
    simp only [Value.slice.injEq, true_and] at hvg
    obtain ⟨rfl, rfl⟩ := hvg
    have hgs := hln.gs g hgt
    have hrt := reach_take hgt
    generalize hG : l.grs[g] = G at *
    have hn1 := hln.n1
    have hwl := hln.w1
    have htl := hln.t1
    have hg0 := hln.g0
    have hwg : IntKind.i64.wrap ((g : Int) + 1) = (g : Int) + 1 := wrap_id (by omega) (by omega)
    have hwt : IntKind.i64.wrap (l.gone + (l.way.length : Int)) = l.gone + l.way.length := wrap_id (by omega) (by unfold totL at htl; omega)
    have hce : ¬ l.gone + (l.way.length : Int) < G.cel := by unfold totL at hgs; omega
    by_cases hmx : reachL (l.grs.take g) < G.cel
    · repeat (first | refine sA ?_ | refine sB ?_ | refine sC ?_ | refine sD ?_ | refine sE rfl ?_ | refine sF rfl ?_ | refine sG rfl ?_ | ((first | refine sk_reg fun K hK => ?_ | refine sk_drw mix fun K hK => ?_); simp [hgt, e0.s, e1.s, t0.s, t1.s, hl8, hwg, hwt, hce, hmx]; refine hK _ ?_; clear hK K))
      refine sk_inv ⟨l.grs.length - (g + 1), _, by omega, ?_, g + 1, by omega, rfl, hA.gro (by first | exact Gro.refl _ | exact ⟨_, rfl⟩ | exact ⟨_, by simp only [List.append_assoc, List.cons_append, List.nil_append]; rfl⟩ | exact ⟨[], by simp⟩), (List.getElem?_append_left (lt_of_get bT)).trans bT, rfl⟩
      simp [subL, getT, hrt, maxI, hmx]
    · repeat (first | refine sA ?_ | refine sB ?_ | refine sC ?_ | refine sD ?_ | refine sE rfl ?_ | refine sF rfl ?_ | refine sG rfl ?_ | ((first | refine sk_reg fun K hK => ?_ | refine sk_drw mix fun K hK => ?_); simp [hgt, e0.s, e1.s, t0.s, t1.s, hl8, hwg, hwt, hce, hmx]; refine hK _ ?_; clear hK K))
      refine sk_inv ⟨l.grs.length - (g + 1), _, by omega, ?_, g + 1, by omega, rfl, hA.gro (by first | exact Gro.refl _ | exact ⟨_, rfl⟩ | exact ⟨_, by simp only [List.append_assoc, List.cons_append, List.nil_append]; rfl⟩ | exact ⟨[], by simp⟩), (List.getElem?_append_left (lt_of_get bT)).trans bT, rfl⟩
      simp [subL, getT, hrt, maxI, hmx]
  obtain rfl : g = l.grs.length := by omega
  rw [List.take_length]
  have hwk : IntKind.i64.wrap ((k : Int) + 1) = (k : Int) + 1 := wrap_id (by have := (bookOk_sec hbo).2.2.1; omega) (by have := (bookOk_sec hbo).2.2.1; omega)
  have d0 : CF H8 T8 0 (iv d.code) := CF.of (hgT hA) rfl rfl
  have d1 : CF H8 T8 1 (.bool d.book.ok) := CF.of (hgT hA) rfl rfl
  have d2 : CF H8 T8 2 (iv d.book.sec) := CF.of (hgT hA) rfl rfl
  have d3 : CF H8 T8 3 (sl il ol d.book.lines.length) := CF.of (hgT hA) rfl rfl
  have aco := implReach_ac (H := H8) (b := d.book) (cs := [.bool d.book.ok, iv d.book.sec, sl il ol d.book.lines.length]) ⟨_, rfl, rl3.gro hA.g RLn.frm⟩ k
  have how : reachB d.book k = reachL l.grs := by
    unfold reachB
    rw [if_pos ⟨hbo, by simp [inB]; omega⟩]
    have : lnAt d.book k = l := by rw [← hl]; simp [lnAt, hkt]
    rw [this]
  rw [how] at aco
  repeat (first | refine sA ?_ | refine sB ?_ | refine sC ?_ | refine sD ?_ | refine sE rfl ?_ | refine sF rfl ?_ | refine sG rfl ?_ | ((first | refine sk_reg fun K hK => ?_ | refine sk_drw mix fun K hK => ?_); simp [d0.s, d1.s, d2.s, d3.s, hwk]; (repeat ((first | refine AskX.go (aco) ?_ | refine AskD.go (aco) ?_); simp [d0.s, d1.s, d2.s, d3.s, hwk])); refine hK _ ?_; clear hK K))
  refine sk_inv ⟨d.book.lines.length - (k + 1), _, by omega, ?_, k + 1, by omega, rfl, hA, rfl⟩
  simp [subL, getT]
end Go.Proofs.Ytpoedfmkiiijnaa
