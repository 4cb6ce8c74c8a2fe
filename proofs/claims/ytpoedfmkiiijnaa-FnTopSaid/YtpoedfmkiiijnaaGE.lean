/- Texts of this repo, one behind the other (EqF MkP MkN). Plain lemmas and walks. -/
import Derived.Test.YtpoedfmkiiijnaaGD
import Derived.Test.YtpoedfmkiiijnaaGC
namespace Go.Proofs.Ytpoedfmkiiijnaa
open Go Go.RowKit Go.Proofs.YtpoedfmkiiijnaaAm
set_option linter.unusedVariables false
set_option linter.unusedSimpArgs false
set_option maxRecDepth 10000
set_option maxHeartbeats 8000000

def B145 : SC := .seq (.reg [⟨some 2, .box 45 (.tmp 0), none, []⟩, ⟨some 3, .box 45 (.tmp 1), none, []⟩, ⟨some 4, .assign (.const (.bool false)), none, []⟩]) (.seq (.seq (.reg [⟨some 5, .fieldAddr 45 (.tmp 2) 0, none, []⟩, ⟨some 6, .load 3 (.tmp 5), none, []⟩, ⟨some 7, .fieldAddr 45 (.tmp 3) 0, none, []⟩, ⟨some 8, .load 3 (.tmp 7), none, []⟩, ⟨some 9, .binOp .neq 3 (.tmp 6) (.tmp 8) 3, none, []⟩]) (.cond (.tmp 9) (.seq (.reg [⟨some 4, .assign (.const (.bool false)), none, []⟩]) .ret) .skip)) (.seq (.seq (.reg [⟨some 10, .fieldAddr 45 (.tmp 2) 1, none, []⟩, ⟨some 11, .load 3 (.tmp 10), none, []⟩, ⟨some 12, .fieldAddr 45 (.tmp 3) 1, none, []⟩, ⟨some 13, .load 3 (.tmp 12), none, []⟩, ⟨some 14, .binOp .neq 3 (.tmp 11) (.tmp 13) 3, none, []⟩]) (.cond (.tmp 14) (.seq (.reg [⟨some 4, .assign (.const (.bool false)), none, []⟩]) .ret) .skip)) (.seq (.reg [⟨some 4, .assign (.const (.bool true)), none, []⟩]) .ret)))
theorem s145 : Try.f145.body.bind (stripC 15) = some B145 := by kernel_rfl
theorem eqGrant_ac {H : Heap} (g : Gr) : AC Try.prog 145 [.agg #[iv g.ver, iv g.cel], .agg #[iv g.ver, iv g.cel]] H (.bool true) H [] := by
  refine AC.of_pureS (N := 15) Try.func145 s145 (by kernel_rfl) rfl rfl (by simp) rfl ?_; unfold B145
  repeat (first | refine sA ?_ | refine sB ?_ | refine sC ?_ | refine sD ?_ | refine sE rfl ?_ | refine sF rfl ?_ | refine sG rfl ?_ | (refine sk_reg fun K hK => ?_; simp; refine hK _ ?_; clear hK K))
  refine sk_ret ?_; simp

def B118 : SC := .seq (.reg [⟨some 2, .box 49 (.tmp 0), none, []⟩, ⟨some 3, .box 49 (.tmp 1), none, []⟩, ⟨some 4, .assign (.const (.bool false)), none, []⟩]) (.seq (.seq (.reg [⟨some 5, .fieldAddr 49 (.tmp 2) 0, none, []⟩, ⟨some 6, .load 3 (.tmp 5), none, []⟩, ⟨some 7, .fieldAddr 49 (.tmp 3) 0, none, []⟩, ⟨some 8, .load 3 (.tmp 7), none, []⟩, ⟨some 9, .binOp .neq 3 (.tmp 6) (.tmp 8) 3, none, []⟩]) (.cond (.tmp 9) (.seq (.reg [⟨some 4, .assign (.const (.bool false)), none, []⟩]) .ret) .skip)) (.seq (.seq (.reg [⟨some 10, .fieldAddr 49 (.tmp 2) 1, none, []⟩, ⟨some 11, .load 3 (.tmp 10), none, []⟩, ⟨some 12, .fieldAddr 49 (.tmp 3) 1, none, []⟩, ⟨some 13, .load 3 (.tmp 12), none, []⟩, ⟨some 14, .binOp .neq 3 (.tmp 11) (.tmp 13) 3, none, []⟩]) (.cond (.tmp 14) (.seq (.reg [⟨some 4, .assign (.const (.bool false)), none, []⟩]) .ret) .skip)) (.seq (.seq (.reg [⟨some 15, .fieldAddr 49 (.tmp 2) 2, none, []⟩, ⟨some 16, .load 3 (.tmp 15), none, []⟩, ⟨some 17, .fieldAddr 49 (.tmp 3) 2, none, []⟩, ⟨some 18, .load 3 (.tmp 17), none, []⟩, ⟨some 19, .binOp .neq 3 (.tmp 16) (.tmp 18) 3, none, []⟩]) (.cond (.tmp 19) (.seq (.reg [⟨some 4, .assign (.const (.bool false)), none, []⟩]) .ret) .skip)) (.seq (.reg [⟨some 4, .assign (.const (.bool true)), none, []⟩]) .ret))))
theorem s118 : Try.f118.body.bind (stripC 20) = some B118 := by kernel_rfl
theorem eqEvent_ac {H : Heap} (g : Evt) : AC Try.prog 118 [.agg #[iv g.op, iv g.train, iv g.n], .agg #[iv g.op, iv g.train, iv g.n]] H (.bool true) H [] := by
  refine AC.of_pureS (N := 20) Try.func118 s118 (by kernel_rfl) rfl rfl (by simp) rfl ?_; unfold B118
  repeat (first | refine sA ?_ | refine sB ?_ | refine sC ?_ | refine sD ?_ | refine sE rfl ?_ | refine sF rfl ?_ | refine sG rfl ?_ | (refine sk_reg fun K hK => ?_; simp; refine hK _ ?_; clear hK K))
  refine sk_ret ?_; simp

def B136 : SC := .seq (.reg [⟨some 2, .box 72 (.tmp 0), none, []⟩, ⟨some 3, .box 72 (.tmp 1), none, []⟩, ⟨some 4, .assign (.const (.bool false)), none, []⟩]) (.seq (.seq (.reg [⟨some 5, .fieldAddr 72 (.tmp 2) 0, none, []⟩, ⟨some 6, .load 3 (.tmp 5), none, []⟩, ⟨some 7, .fieldAddr 72 (.tmp 3) 0, none, []⟩, ⟨some 8, .load 3 (.tmp 7), none, []⟩, ⟨some 9, .binOp .neq 3 (.tmp 6) (.tmp 8) 3, none, []⟩]) (.cond (.tmp 9) (.seq (.reg [⟨some 4, .assign (.const (.bool false)), none, []⟩]) .ret) .skip)) (.seq (.seq (.reg [⟨some 10, .fieldAddr 72 (.tmp 2) 1, none, []⟩, ⟨some 11, .load 3 (.tmp 10), none, []⟩, ⟨some 12, .fieldAddr 72 (.tmp 3) 1, none, []⟩, ⟨some 13, .load 3 (.tmp 12), none, []⟩, ⟨some 14, .binOp .neq 3 (.tmp 11) (.tmp 13) 3, none, []⟩]) (.cond (.tmp 14) (.seq (.reg [⟨some 4, .assign (.const (.bool false)), none, []⟩]) .ret) .skip)) (.seq (.seq (.reg [⟨some 15, .fieldAddr 72 (.tmp 2) 2, none, []⟩, ⟨some 16, .load 3 (.tmp 15), none, []⟩, ⟨some 17, .fieldAddr 72 (.tmp 3) 2, none, []⟩, ⟨some 18, .load 3 (.tmp 17), none, []⟩, ⟨some 19, .binOp .neq 3 (.tmp 16) (.tmp 18) 3, none, []⟩]) (.cond (.tmp 19) (.seq (.reg [⟨some 4, .assign (.const (.bool false)), none, []⟩]) .ret) .skip)) (.seq (.seq (.reg [⟨some 20, .fieldAddr 72 (.tmp 2) 3, none, []⟩, ⟨some 21, .load 3 (.tmp 20), none, []⟩, ⟨some 22, .fieldAddr 72 (.tmp 3) 3, none, []⟩, ⟨some 23, .load 3 (.tmp 22), none, []⟩, ⟨some 24, .binOp .neq 3 (.tmp 21) (.tmp 23) 3, none, []⟩]) (.cond (.tmp 24) (.seq (.reg [⟨some 4, .assign (.const (.bool false)), none, []⟩]) .ret) .skip)) (.seq (.reg [⟨some 4, .assign (.const (.bool true)), none, []⟩]) .ret)))))
theorem s136 : Try.f136.body.bind (stripC 25) = some B136 := by kernel_rfl
theorem eqBody_ac {H : Heap} (g : Bd) : AC Try.prog 136 [.agg #[iv g.ver, iv g.cel, iv g.tail, iv g.front], .agg #[iv g.ver, iv g.cel, iv g.tail, iv g.front]] H (.bool true) H [] := by
  refine AC.of_pureS (N := 25) Try.func136 s136 (by kernel_rfl) rfl rfl (by simp) rfl ?_; unfold B136
  repeat (first | refine sA ?_ | refine sB ?_ | refine sC ?_ | refine sD ?_ | refine sE rfl ?_ | refine sF rfl ?_ | refine sG rfl ?_ | (refine sk_reg fun K hK => ?_; simp; refine hK _ ?_; clear hK K))
  refine sk_ret ?_; simp

def B120 : SC := .seq (.reg [⟨some 2, .box 70 (.tmp 0), none, []⟩, ⟨some 3, .box 70 (.tmp 1), none, []⟩, ⟨some 4, .assign (.const (.bool false)), none, []⟩]) (.seq (.seq (.reg [⟨some 5, .fieldAddr 70 (.tmp 2) 0, none, []⟩, ⟨some 6, .load 3 (.tmp 5), none, []⟩, ⟨some 7, .fieldAddr 70 (.tmp 3) 0, none, []⟩, ⟨some 8, .load 3 (.tmp 7), none, []⟩, ⟨some 9, .binOp .neq 3 (.tmp 6) (.tmp 8) 3, none, []⟩]) (.cond (.tmp 9) (.seq (.reg [⟨some 4, .assign (.const (.bool false)), none, []⟩]) .ret) .skip)) (.seq (.seq (.reg [⟨some 10, .fieldAddr 70 (.tmp 2) 1, none, []⟩, ⟨some 11, .load 49 (.tmp 10), none, []⟩, ⟨some 12, .fieldAddr 70 (.tmp 3) 1, none, []⟩, ⟨some 13, .load 49 (.tmp 12), none, []⟩, ⟨some 14, .call { callee := (.value (.func 118)), args := #[(.tmp 11), (.tmp 13)], argTypes := #[49, 49] }, none, []⟩, ⟨some 15, .unOp .not 4 (.tmp 14), none, []⟩]) (.cond (.tmp 15) (.seq (.reg [⟨some 4, .assign (.const (.bool false)), none, []⟩]) .ret) .skip)) (.seq (.seq (.reg [⟨some 16, .fieldAddr 70 (.tmp 2) 2, none, []⟩, ⟨some 17, .load 3 (.tmp 16), none, []⟩, ⟨some 18, .fieldAddr 70 (.tmp 3) 2, none, []⟩, ⟨some 19, .load 3 (.tmp 18), none, []⟩, ⟨some 20, .binOp .neq 3 (.tmp 17) (.tmp 19) 3, none, []⟩]) (.cond (.tmp 20) (.seq (.reg [⟨some 4, .assign (.const (.bool false)), none, []⟩]) .ret) .skip)) (.seq (.seq (.reg [⟨some 21, .fieldAddr 70 (.tmp 2) 3, none, []⟩, ⟨some 22, .load 3 (.tmp 21), none, []⟩, ⟨some 23, .fieldAddr 70 (.tmp 3) 3, none, []⟩, ⟨some 24, .load 3 (.tmp 23), none, []⟩, ⟨some 25, .binOp .neq 3 (.tmp 22) (.tmp 24) 3, none, []⟩]) (.cond (.tmp 25) (.seq (.reg [⟨some 4, .assign (.const (.bool false)), none, []⟩]) .ret) .skip)) (.seq (.reg [⟨some 4, .assign (.const (.bool true)), none, []⟩]) .ret)))))
theorem s120 : Try.f120.body.bind (stripC 26) = some B120 := by kernel_rfl
theorem eqAct_ac {H : Heap} (g : Actn) : AC Try.prog 120 [.agg #[iv g.op, iv g.ev.op, iv g.ev.train, iv g.ev.n, iv g.train, iv g.n], .agg #[iv g.op, iv g.ev.op, iv g.ev.train, iv g.ev.n, iv g.train, iv g.n]] H (.bool true) H [] := by
  refine AC.of_pureS (N := 26) Try.func120 s120 (by kernel_rfl) rfl rfl (by simp) rfl ?_; unfold B120
  repeat (first | refine sA ?_ | refine sB ?_ | refine sC ?_ | refine sD ?_ | refine sE rfl ?_ | refine sF rfl ?_ | refine sG rfl ?_ | (refine sk_reg fun K hK => ?_; simp; (repeat ((first | refine AskX.go (eqEvent_ac g.ev) ?_); simp)); refine hK _ ?_; clear hK K))
  refine sk_ret ?_; simp

def B49 : SC := .seq (.reg [⟨some 4, .assign (.const (.bool false)), none, []⟩]) (.seq (.seq (.reg [⟨some 6, .move (.tmp 0), none, []⟩, ⟨some 7, .call { callee := (.builtin .len), args := #[(.tmp 6)], argTypes := #[40] }, none, []⟩, ⟨some 8, .move (.tmp 1), none, []⟩, ⟨some 9, .call { callee := (.builtin .len), args := #[(.tmp 8)], argTypes := #[40] }, none, []⟩, ⟨some 10, .binOp .neq 3 (.tmp 7) (.tmp 9) 3, none, []⟩]) (.cond (.tmp 10) (.seq (.reg [⟨some 4, .assign (.const (.bool false)), none, []⟩]) .ret) .skip)) (.seq (.seq (.reg [⟨some 5, .assign (.const (.int .i64 0)), none, []⟩]) (.block 0 (.loop (.seq (.seq (.reg [⟨some 11, .move (.tmp 5), none, []⟩, ⟨some 12, .move (.tmp 0), none, []⟩, ⟨some 13, .call { callee := (.builtin .len), args := #[(.tmp 12)], argTypes := #[40] }, none, []⟩, ⟨some 14, .binOp .lss 3 (.tmp 11) (.tmp 13) 3, none, []⟩]) (.cond (.tmp 14) .skip (.exit 0))) (.seq (.block 1 (.seq (.drw 0 [⟨some 17, .move (.tmp 0), none, []⟩, ⟨some 18, .move (.tmp 5), none, []⟩, ⟨some 19, .indexAddr 40 (.tmp 17) (.tmp 18), none, [0, 1]⟩, ⟨some 20, .load 3 (.tmp 19), none, [2, 0, 1]⟩, ⟨some 21, .move (.tmp 1), none, []⟩, ⟨some 22, .move (.tmp 5), none, []⟩, ⟨some 23, .indexAddr 40 (.tmp 21) (.tmp 22), none, [4, 5]⟩, ⟨some 24, .load 3 (.tmp 23), none, [6, 4, 5]⟩, ⟨some 25, .binOp .neq 3 (.tmp 20) (.tmp 24) 3, none, [3, 2, 0, 1, 7, 6, 4, 5]⟩]) (.cond (.tmp 25) (.seq (.reg [⟨some 4, .assign (.const (.bool false)), none, []⟩]) .ret) .skip))) (.reg [⟨some 15, .move (.tmp 5), none, []⟩, ⟨some 16, .binOp .add 3 (.tmp 15) (.const (.int .i64 1)) 3, none, []⟩, ⟨some 5, .assign (.tmp 16), none, []⟩])))))) (.seq (.reg [⟨some 4, .assign (.const (.bool true)), none, []⟩]) .ret)))
theorem s49 : Try.f49.body.bind (stripC 26) = some B49 := by kernel_rfl
theorem eqIntS_ac {H : Heap} {E1 E2 : List Nat} {a b : Value} {xs : List Int} (h1 : RS 1 RInt H E1 a xs) (h2 : RS 1 RInt H E2 b xs) : AC Try.prog 49 [a, b] H (.bool true) H [] := by
  obtain ⟨a1, c1, ha⟩ := h1.form
  obtain ⟨a2, c2, hb⟩ := h2.form
  have hn := h1.1
  refine AC.of_pureS (N := 26) Try.func49 s49 (by kernel_rfl) rfl rfl (by simp) rfl ?_; unfold B49
  rw [ha, hb]
  repeat (first | refine sA ?_ | refine sB ?_ | refine sC ?_ | refine sD ?_ | refine sE rfl ?_ | refine sF rfl ?_ | refine sG rfl ?_ | ((first | refine sk_reg fun K hK => ?_ | refine sk_drw mix fun K hK => ?_); simp; refine hK _ ?_; clear hK K))
  rw [← ha, ← hb]
  refine sk_loop (fun m ts H' => ∃ (k : Nat) (J : Heap), k ≤ xs.length ∧ m = xs.length - k ∧ H' = H ++ J ∧ ts = [(0, a), (1, b), (5, iv k)]) xs.length _ ?_ ⟨0, [], by omega, rfl, by simp, rfl⟩ ?_
  · simp [subL, getT, ha, hb]
  · rintro m ts H1 ⟨k, J, hk, rfl, rfl, rfl⟩
    by_cases hlt : k < xs.length
    · obtain ⟨id, o, Ek, cs, hv, hid, _, _, hR, hsz, hc⟩ := h1.at hlt
      obtain ⟨id2, o2, Ek2, cs2, hv2, hid2, _, _, hR2, hsz2, hc2⟩ := h2.at hlt
      obtain ⟨_, rfl⟩ := hR
      obtain ⟨_, rfl⟩ := hR2
      have c0 := hc 0 _ rfl
      have d0 := hc2 0 _ rfl
      simp only [Nat.mul_one, Nat.add_zero] at c0 d0
      have hw := wrap_id (x := (k : Int) + 1) (by omega) (by omega)
      repeat (first | refine sA ?_ | refine sB ?_ | refine sC ?_ | refine sD ?_ | refine sE rfl ?_ | refine sF rfl ?_ | refine sG rfl ?_ | ((first | refine sk_reg fun K hK => ?_ | refine sk_drw mix fun K hK => ?_); simp [hlt, hv, hv2, c0, d0, hw]; refine hK _ ?_; clear hK K))
      refine sk_inv ⟨xs.length - (k + 1), _, by omega, ?_, ⟨k + 1, J, by omega, rfl, rfl, rfl⟩⟩
      simp [subL, getT, hv, hv2]
    · have hk2 : k = xs.length := by omega
      subst hk2
      repeat (first | refine sA ?_ | refine sB ?_ | refine sC ?_ | refine sD ?_ | refine sE rfl ?_ | refine sF rfl ?_ | refine sG rfl ?_ | ((first | refine sk_reg fun K hK => ?_ | refine sk_drw mix fun K hK => ?_); simp [hlt, ha, hb]; refine hK _ ?_; clear hK K))
      refine sk_ret ?_; simp

def B140 : SC := .seq (.reg [⟨some 4, .assign (.const (.bool false)), none, []⟩]) (.seq (.seq (.reg [⟨some 6, .move (.tmp 0), none, []⟩, ⟨some 7, .call { callee := (.builtin .len), args := #[(.tmp 6)], argTypes := #[41] }, none, []⟩, ⟨some 8, .move (.tmp 1), none, []⟩, ⟨some 9, .call { callee := (.builtin .len), args := #[(.tmp 8)], argTypes := #[41] }, none, []⟩, ⟨some 10, .binOp .neq 3 (.tmp 7) (.tmp 9) 3, none, []⟩]) (.cond (.tmp 10) (.seq (.reg [⟨some 4, .assign (.const (.bool false)), none, []⟩]) .ret) .skip)) (.seq (.seq (.reg [⟨some 5, .assign (.const (.int .i64 0)), none, []⟩]) (.block 0 (.loop (.seq (.seq (.reg [⟨some 11, .move (.tmp 5), none, []⟩, ⟨some 12, .move (.tmp 0), none, []⟩, ⟨some 13, .call { callee := (.builtin .len), args := #[(.tmp 12)], argTypes := #[41] }, none, []⟩, ⟨some 14, .binOp .lss 3 (.tmp 11) (.tmp 13) 3, none, []⟩]) (.cond (.tmp 14) .skip (.exit 0))) (.seq (.block 1 (.seq (.drw 0 [⟨some 17, .move (.tmp 0), none, []⟩, ⟨some 18, .move (.tmp 5), none, []⟩, ⟨some 19, .indexAddr 41 (.tmp 17) (.tmp 18), none, [0, 1]⟩, ⟨some 20, .load 45 (.tmp 19), none, [2, 0, 1]⟩, ⟨some 21, .move (.tmp 1), none, []⟩, ⟨some 22, .move (.tmp 5), none, []⟩, ⟨some 23, .indexAddr 41 (.tmp 21) (.tmp 22), none, [4, 5]⟩, ⟨some 24, .load 45 (.tmp 23), none, [6, 4, 5]⟩, ⟨some 25, .call { callee := (.value (.func 145)), args := #[(.tmp 20), (.tmp 24)], argTypes := #[45, 45] }, none, [3, 2, 0, 1, 7, 6, 4, 5]⟩, ⟨some 26, .unOp .not 4 (.tmp 25), none, [8, 3, 2, 0, 1, 7, 6, 4, 5]⟩]) (.cond (.tmp 26) (.seq (.reg [⟨some 4, .assign (.const (.bool false)), none, []⟩]) .ret) .skip))) (.reg [⟨some 15, .move (.tmp 5), none, []⟩, ⟨some 16, .binOp .add 3 (.tmp 15) (.const (.int .i64 1)) 3, none, []⟩, ⟨some 5, .assign (.tmp 16), none, []⟩])))))) (.seq (.reg [⟨some 4, .assign (.const (.bool true)), none, []⟩]) .ret)))
theorem s140 : Try.f140.body.bind (stripC 27) = some B140 := by kernel_rfl
theorem eqGrantS_ac {H : Heap} {E1 E2 : List Nat} {a b : Value} {xs : List Gr} (h1 : RS 2 RGr H E1 a xs) (h2 : RS 2 RGr H E2 b xs) : AC Try.prog 140 [a, b] H (.bool true) H [] := by
  obtain ⟨a1, c1, ha⟩ := h1.form
  obtain ⟨a2, c2, hb⟩ := h2.form
  have hn := h1.1
  refine AC.of_pureS (N := 27) Try.func140 s140 (by kernel_rfl) rfl rfl (by simp) rfl ?_; unfold B140
  rw [ha, hb]
  repeat (first | refine sA ?_ | refine sB ?_ | refine sC ?_ | refine sD ?_ | refine sE rfl ?_ | refine sF rfl ?_ | refine sG rfl ?_ | ((first | refine sk_reg fun K hK => ?_ | refine sk_drw mix fun K hK => ?_); simp; refine hK _ ?_; clear hK K))
  rw [← ha, ← hb]
  refine sk_loop (fun m ts H' => ∃ (k : Nat) (J : Heap), k ≤ xs.length ∧ m = xs.length - k ∧ H' = H ++ J ∧ ts = [(0, a), (1, b), (5, iv k)]) xs.length _ ?_ ⟨0, [], by omega, rfl, by simp, rfl⟩ ?_
  · simp [subL, getT, ha, hb]
  · rintro m ts H1 ⟨k, J, hk, rfl, rfl, rfl⟩
    by_cases hlt : k < xs.length
    · obtain ⟨id, o, Ek, cs, hv, hid, _, _, hR, hsz, hc⟩ := h1.at hlt
      obtain ⟨id2, o2, Ek2, cs2, hv2, hid2, _, _, hR2, hsz2, hc2⟩ := h2.at hlt
      obtain ⟨_, rfl⟩ := hR
      obtain ⟨_, rfl⟩ := hR2
      have c0 := hc 0 _ rfl
      have d0 := hc2 0 _ rfl
      have c1 := hc 1 _ rfl
      have d1 := hc2 1 _ rfl
      simp only [Nat.mul_one, Nat.add_zero] at c0 d0 c1 d1
      have hw := wrap_id (x := (k : Int) + 1) (by omega) (by omega)
      repeat (first | refine sA ?_ | refine sB ?_ | refine sC ?_ | refine sD ?_ | refine sE rfl ?_ | refine sF rfl ?_ | refine sG rfl ?_ | ((first | refine sk_reg fun K hK => ?_ | refine sk_drw mix fun K hK => ?_); simp [hlt, hv, hv2, c0, d0, c1, d1, hw]; (repeat ((first | refine AskX.go (eqGrant_ac xs[k]) ?_ | refine AskD.go (eqGrant_ac xs[k]) ?_); simp [hlt, hv, hv2, c0, d0, c1, d1, hw])); refine hK _ ?_; clear hK K))
      refine sk_inv ⟨xs.length - (k + 1), _, by omega, ?_, ⟨k + 1, J, by omega, rfl, rfl, rfl⟩⟩
      simp [subL, getT, hv, hv2]
    · have hk2 : k = xs.length := by omega
      subst hk2
      repeat (first | refine sA ?_ | refine sB ?_ | refine sC ?_ | refine sD ?_ | refine sE rfl ?_ | refine sF rfl ?_ | refine sG rfl ?_ | ((first | refine sk_reg fun K hK => ?_ | refine sk_drw mix fun K hK => ?_); simp [hlt, ha, hb]; refine hK _ ?_; clear hK K))
      refine sk_ret ?_; simp

def B106 : SC := .seq (.reg [⟨some 4, .assign (.const (.bool false)), none, []⟩]) (.seq (.seq (.reg [⟨some 6, .move (.tmp 0), none, []⟩, ⟨some 7, .call { callee := (.builtin .len), args := #[(.tmp 6)], argTypes := #[62] }, none, []⟩, ⟨some 8, .move (.tmp 1), none, []⟩, ⟨some 9, .call { callee := (.builtin .len), args := #[(.tmp 8)], argTypes := #[62] }, none, []⟩, ⟨some 10, .binOp .neq 3 (.tmp 7) (.tmp 9) 3, none, []⟩]) (.cond (.tmp 10) (.seq (.reg [⟨some 4, .assign (.const (.bool false)), none, []⟩]) .ret) .skip)) (.seq (.seq (.reg [⟨some 5, .assign (.const (.int .i64 0)), none, []⟩]) (.block 0 (.loop (.seq (.seq (.reg [⟨some 11, .move (.tmp 5), none, []⟩, ⟨some 12, .move (.tmp 0), none, []⟩, ⟨some 13, .call { callee := (.builtin .len), args := #[(.tmp 12)], argTypes := #[62] }, none, []⟩, ⟨some 14, .binOp .lss 3 (.tmp 11) (.tmp 13) 3, none, []⟩]) (.cond (.tmp 14) .skip (.exit 0))) (.seq (.block 1 (.seq (.drw 0 [⟨some 17, .move (.tmp 0), none, []⟩, ⟨some 18, .move (.tmp 5), none, []⟩, ⟨some 19, .indexAddr 62 (.tmp 17) (.tmp 18), none, [0, 1]⟩, ⟨some 20, .load 72 (.tmp 19), none, [2, 0, 1]⟩, ⟨some 21, .move (.tmp 1), none, []⟩, ⟨some 22, .move (.tmp 5), none, []⟩, ⟨some 23, .indexAddr 62 (.tmp 21) (.tmp 22), none, [4, 5]⟩, ⟨some 24, .load 72 (.tmp 23), none, [6, 4, 5]⟩, ⟨some 25, .call { callee := (.value (.func 136)), args := #[(.tmp 20), (.tmp 24)], argTypes := #[72, 72] }, none, [3, 2, 0, 1, 7, 6, 4, 5]⟩, ⟨some 26, .unOp .not 4 (.tmp 25), none, [8, 3, 2, 0, 1, 7, 6, 4, 5]⟩]) (.cond (.tmp 26) (.seq (.reg [⟨some 4, .assign (.const (.bool false)), none, []⟩]) .ret) .skip))) (.reg [⟨some 15, .move (.tmp 5), none, []⟩, ⟨some 16, .binOp .add 3 (.tmp 15) (.const (.int .i64 1)) 3, none, []⟩, ⟨some 5, .assign (.tmp 16), none, []⟩])))))) (.seq (.reg [⟨some 4, .assign (.const (.bool true)), none, []⟩]) .ret)))
theorem s106 : Try.f106.body.bind (stripC 27) = some B106 := by kernel_rfl
theorem eqBodyS_ac {H : Heap} {E1 E2 : List Nat} {a b : Value} {xs : List Bd} (h1 : RS 4 RBd H E1 a xs) (h2 : RS 4 RBd H E2 b xs) : AC Try.prog 106 [a, b] H (.bool true) H [] := by
  obtain ⟨a1, c1, ha⟩ := h1.form
  obtain ⟨a2, c2, hb⟩ := h2.form
  have hn := h1.1
  refine AC.of_pureS (N := 27) Try.func106 s106 (by kernel_rfl) rfl rfl (by simp) rfl ?_; unfold B106
  rw [ha, hb]
  repeat (first | refine sA ?_ | refine sB ?_ | refine sC ?_ | refine sD ?_ | refine sE rfl ?_ | refine sF rfl ?_ | refine sG rfl ?_ | ((first | refine sk_reg fun K hK => ?_ | refine sk_drw mix fun K hK => ?_); simp; refine hK _ ?_; clear hK K))
  rw [← ha, ← hb]
  refine sk_loop (fun m ts H' => ∃ (k : Nat) (J : Heap), k ≤ xs.length ∧ m = xs.length - k ∧ H' = H ++ J ∧ ts = [(0, a), (1, b), (5, iv k)]) xs.length _ ?_ ⟨0, [], by omega, rfl, by simp, rfl⟩ ?_
  · simp [subL, getT, ha, hb]
  · rintro m ts H1 ⟨k, J, hk, rfl, rfl, rfl⟩
    by_cases hlt : k < xs.length
    · obtain ⟨id, o, Ek, cs, hv, hid, _, _, hR, hsz, hc⟩ := h1.at hlt
      obtain ⟨id2, o2, Ek2, cs2, hv2, hid2, _, _, hR2, hsz2, hc2⟩ := h2.at hlt
      obtain ⟨_, rfl⟩ := hR
      obtain ⟨_, rfl⟩ := hR2
      have c0 := hc 0 _ rfl
      have d0 := hc2 0 _ rfl
      have c1 := hc 1 _ rfl
      have d1 := hc2 1 _ rfl
      have c2 := hc 2 _ rfl
      have d2 := hc2 2 _ rfl
      have c3 := hc 3 _ rfl
      have d3 := hc2 3 _ rfl
      simp only [Nat.mul_one, Nat.add_zero] at c0 d0 c1 d1 c2 d2 c3 d3
      have hw := wrap_id (x := (k : Int) + 1) (by omega) (by omega)
      repeat (first | refine sA ?_ | refine sB ?_ | refine sC ?_ | refine sD ?_ | refine sE rfl ?_ | refine sF rfl ?_ | refine sG rfl ?_ | ((first | refine sk_reg fun K hK => ?_ | refine sk_drw mix fun K hK => ?_); simp [hlt, hv, hv2, c0, d0, c1, d1, c2, d2, c3, d3, hw]; (repeat ((first | refine AskX.go (eqBody_ac xs[k]) ?_ | refine AskD.go (eqBody_ac xs[k]) ?_); simp [hlt, hv, hv2, c0, d0, c1, d1, c2, d2, c3, d3, hw])); refine hK _ ?_; clear hK K))
      refine sk_inv ⟨xs.length - (k + 1), _, by omega, ?_, ⟨k + 1, J, by omega, rfl, rfl, rfl⟩⟩
      simp [subL, getT, hv, hv2]
    · have hk2 : k = xs.length := by omega
      subst hk2
      repeat (first | refine sA ?_ | refine sB ?_ | refine sC ?_ | refine sD ?_ | refine sE rfl ?_ | refine sF rfl ?_ | refine sG rfl ?_ | ((first | refine sk_reg fun K hK => ?_ | refine sk_drw mix fun K hK => ?_); simp [hlt, ha, hb]; refine hK _ ?_; clear hK K))
      refine sk_ret ?_; simp

def B79 : SC := .seq (.reg [⟨some 4, .assign (.const (.bool false)), none, []⟩]) (.seq (.seq (.reg [⟨some 6, .move (.tmp 0), none, []⟩, ⟨some 7, .call { callee := (.builtin .len), args := #[(.tmp 6)], argTypes := #[73] }, none, []⟩, ⟨some 8, .move (.tmp 1), none, []⟩, ⟨some 9, .call { callee := (.builtin .len), args := #[(.tmp 8)], argTypes := #[73] }, none, []⟩, ⟨some 10, .binOp .neq 3 (.tmp 7) (.tmp 9) 3, none, []⟩]) (.cond (.tmp 10) (.seq (.reg [⟨some 4, .assign (.const (.bool false)), none, []⟩]) .ret) .skip)) (.seq (.seq (.reg [⟨some 5, .assign (.const (.int .i64 0)), none, []⟩]) (.block 0 (.loop (.seq (.seq (.reg [⟨some 11, .move (.tmp 5), none, []⟩, ⟨some 12, .move (.tmp 0), none, []⟩, ⟨some 13, .call { callee := (.builtin .len), args := #[(.tmp 12)], argTypes := #[73] }, none, []⟩, ⟨some 14, .binOp .lss 3 (.tmp 11) (.tmp 13) 3, none, []⟩]) (.cond (.tmp 14) .skip (.exit 0))) (.seq (.block 1 (.seq (.drw 0 [⟨some 17, .move (.tmp 0), none, []⟩, ⟨some 18, .move (.tmp 5), none, []⟩, ⟨some 19, .indexAddr 73 (.tmp 17) (.tmp 18), none, [0, 1]⟩, ⟨some 20, .load 70 (.tmp 19), none, [2, 0, 1]⟩, ⟨some 21, .move (.tmp 1), none, []⟩, ⟨some 22, .move (.tmp 5), none, []⟩, ⟨some 23, .indexAddr 73 (.tmp 21) (.tmp 22), none, [4, 5]⟩, ⟨some 24, .load 70 (.tmp 23), none, [6, 4, 5]⟩, ⟨some 25, .call { callee := (.value (.func 120)), args := #[(.tmp 20), (.tmp 24)], argTypes := #[70, 70] }, none, [3, 2, 0, 1, 7, 6, 4, 5]⟩, ⟨some 26, .unOp .not 4 (.tmp 25), none, [8, 3, 2, 0, 1, 7, 6, 4, 5]⟩]) (.cond (.tmp 26) (.seq (.reg [⟨some 4, .assign (.const (.bool false)), none, []⟩]) .ret) .skip))) (.reg [⟨some 15, .move (.tmp 5), none, []⟩, ⟨some 16, .binOp .add 3 (.tmp 15) (.const (.int .i64 1)) 3, none, []⟩, ⟨some 5, .assign (.tmp 16), none, []⟩])))))) (.seq (.reg [⟨some 4, .assign (.const (.bool true)), none, []⟩]) .ret)))
theorem s79 : Try.f79.body.bind (stripC 27) = some B79 := by kernel_rfl
theorem eqActS_ac {H : Heap} {E1 E2 : List Nat} {a b : Value} {xs : List Actn} (h1 : RS 6 RAc H E1 a xs) (h2 : RS 6 RAc H E2 b xs) : AC Try.prog 79 [a, b] H (.bool true) H [] := by
  obtain ⟨a1, c1, ha⟩ := h1.form
  obtain ⟨a2, c2, hb⟩ := h2.form
  have hn := h1.1
  refine AC.of_pureS (N := 27) Try.func79 s79 (by kernel_rfl) rfl rfl (by simp) rfl ?_; unfold B79
  rw [ha, hb]
  repeat (first | refine sA ?_ | refine sB ?_ | refine sC ?_ | refine sD ?_ | refine sE rfl ?_ | refine sF rfl ?_ | refine sG rfl ?_ | ((first | refine sk_reg fun K hK => ?_ | refine sk_drw mix fun K hK => ?_); simp; refine hK _ ?_; clear hK K))
  rw [← ha, ← hb]
  refine sk_loop (fun m ts H' => ∃ (k : Nat) (J : Heap), k ≤ xs.length ∧ m = xs.length - k ∧ H' = H ++ J ∧ ts = [(0, a), (1, b), (5, iv k)]) xs.length _ ?_ ⟨0, [], by omega, rfl, by simp, rfl⟩ ?_
  · simp [subL, getT, ha, hb]
  · rintro m ts H1 ⟨k, J, hk, rfl, rfl, rfl⟩
    by_cases hlt : k < xs.length
    · obtain ⟨id, o, Ek, cs, hv, hid, _, _, hR, hsz, hc⟩ := h1.at hlt
      obtain ⟨id2, o2, Ek2, cs2, hv2, hid2, _, _, hR2, hsz2, hc2⟩ := h2.at hlt
      obtain ⟨_, rfl⟩ := hR
      obtain ⟨_, rfl⟩ := hR2
      have c0 := hc 0 _ rfl
      have d0 := hc2 0 _ rfl
      have c1 := hc 1 _ rfl
      have d1 := hc2 1 _ rfl
      have c2 := hc 2 _ rfl
      have d2 := hc2 2 _ rfl
      have c3 := hc 3 _ rfl
      have d3 := hc2 3 _ rfl
      have c4 := hc 4 _ rfl
      have d4 := hc2 4 _ rfl
      have c5 := hc 5 _ rfl
      have d5 := hc2 5 _ rfl
      simp only [Nat.mul_one, Nat.add_zero] at c0 d0 c1 d1 c2 d2 c3 d3 c4 d4 c5 d5
      have hw := wrap_id (x := (k : Int) + 1) (by omega) (by omega)
      repeat (first | refine sA ?_ | refine sB ?_ | refine sC ?_ | refine sD ?_ | refine sE rfl ?_ | refine sF rfl ?_ | refine sG rfl ?_ | ((first | refine sk_reg fun K hK => ?_ | refine sk_drw mix fun K hK => ?_); simp [hlt, hv, hv2, c0, d0, c1, d1, c2, d2, c3, d3, c4, d4, c5, d5, hw]; (repeat ((first | refine AskX.go (eqAct_ac xs[k]) ?_ | refine AskD.go (eqAct_ac xs[k]) ?_); simp [hlt, hv, hv2, c0, d0, c1, d1, c2, d2, c3, d3, c4, d4, c5, d5, hw])); refine hK _ ?_; clear hK K))
      refine sk_inv ⟨xs.length - (k + 1), _, by omega, ?_, ⟨k + 1, J, by omega, rfl, rfl, rfl⟩⟩
      simp [subL, getT, hv, hv2]
    · have hk2 : k = xs.length := by omega
      subst hk2
      repeat (first | refine sA ?_ | refine sB ?_ | refine sC ?_ | refine sD ?_ | refine sE rfl ?_ | refine sF rfl ?_ | refine sG rfl ?_ | ((first | refine sk_reg fun K hK => ?_ | refine sk_drw mix fun K hK => ?_); simp [hlt, ha, hb]; refine hK _ ?_; clear hK K))
      refine sk_ret ?_; simp

def B121 : SC := .seq (.reg [⟨some 2, .box 43 (.tmp 0), none, []⟩, ⟨some 3, .box 43 (.tmp 1), none, []⟩, ⟨some 4, .assign (.const (.bool false)), none, []⟩]) (.seq (.seq (.reg [⟨some 5, .fieldAddr 43 (.tmp 2) 0, none, []⟩, ⟨some 6, .load 3 (.tmp 5), none, []⟩, ⟨some 7, .fieldAddr 43 (.tmp 3) 0, none, []⟩, ⟨some 8, .load 3 (.tmp 7), none, []⟩, ⟨some 9, .binOp .neq 3 (.tmp 6) (.tmp 8) 3, none, []⟩]) (.cond (.tmp 9) (.seq (.reg [⟨some 4, .assign (.const (.bool false)), none, []⟩]) .ret) .skip)) (.seq (.seq (.reg [⟨some 10, .fieldAddr 43 (.tmp 2) 1, none, []⟩, ⟨some 11, .load 40 (.tmp 10), none, []⟩, ⟨some 12, .fieldAddr 43 (.tmp 3) 1, none, []⟩, ⟨some 13, .load 40 (.tmp 12), none, []⟩, ⟨some 14, .call { callee := (.value (.func 49)), args := #[(.tmp 11), (.tmp 13)], argTypes := #[40, 40] }, none, []⟩, ⟨some 15, .unOp .not 4 (.tmp 14), none, []⟩]) (.cond (.tmp 15) (.seq (.reg [⟨some 4, .assign (.const (.bool false)), none, []⟩]) .ret) .skip)) (.seq (.seq (.reg [⟨some 16, .fieldAddr 43 (.tmp 2) 2, none, []⟩, ⟨some 17, .load 41 (.tmp 16), none, []⟩, ⟨some 18, .fieldAddr 43 (.tmp 3) 2, none, []⟩, ⟨some 19, .load 41 (.tmp 18), none, []⟩, ⟨some 20, .call { callee := (.value (.func 140)), args := #[(.tmp 17), (.tmp 19)], argTypes := #[41, 41] }, none, []⟩, ⟨some 21, .unOp .not 4 (.tmp 20), none, []⟩]) (.cond (.tmp 21) (.seq (.reg [⟨some 4, .assign (.const (.bool false)), none, []⟩]) .ret) .skip)) (.seq (.seq (.reg [⟨some 22, .fieldAddr 43 (.tmp 2) 3, none, []⟩, ⟨some 23, .load 3 (.tmp 22), none, []⟩, ⟨some 24, .fieldAddr 43 (.tmp 3) 3, none, []⟩, ⟨some 25, .load 3 (.tmp 24), none, []⟩, ⟨some 26, .binOp .neq 3 (.tmp 23) (.tmp 25) 3, none, []⟩]) (.cond (.tmp 26) (.seq (.reg [⟨some 4, .assign (.const (.bool false)), none, []⟩]) .ret) .skip)) (.seq (.reg [⟨some 4, .assign (.const (.bool true)), none, []⟩]) .ret)))))
theorem s121 : Try.f121.body.bind (stripC 27) = some B121 := by kernel_rfl
theorem eqLine_ac {H : Heap} {E1 E2 : List Nat} {c1 c2 : List Value} {x : Ln} (h1 : RLn H E1 x c1) (h2 : RLn H E2 x c2) : AC Try.prog 121 [.agg c1.toArray, .agg c2.toArray] H (.bool true) H [] := by
  obtain ⟨A1, A2, u1, u2, rfl, rfl, a1, a2⟩ := h1
  obtain ⟨B1, B2, w1, w2, rfl, rfl, b1, b2⟩ := h2
  refine AC.of_pureS (N := 27) Try.func121 s121 (by kernel_rfl) rfl rfl (by simp) rfl ?_; unfold B121
  repeat (first | refine sA ?_ | refine sB ?_ | refine sC ?_ | refine sD ?_ | refine sE rfl ?_ | refine sF rfl ?_ | refine sG rfl ?_ | (refine sk_reg fun K hK => ?_; simp; (repeat ((first | refine AskX.go (eqIntS_ac (a1.ext (RP.frm _)) (b1.ext (RP.frm _))) ?_ | refine AskX.go (eqGrantS_ac (a2.ext (RP.frm _)) (b2.ext (RP.frm _))) ?_); simp)); refine hK _ ?_; clear hK K))
  refine sk_ret ?_; simp

def B85 : SC := .seq (.reg [⟨some 4, .assign (.const (.bool false)), none, []⟩]) (.seq (.seq (.reg [⟨some 6, .move (.tmp 0), none, []⟩, ⟨some 7, .call { callee := (.builtin .len), args := #[(.tmp 6)], argTypes := #[23] }, none, []⟩, ⟨some 8, .move (.tmp 1), none, []⟩, ⟨some 9, .call { callee := (.builtin .len), args := #[(.tmp 8)], argTypes := #[23] }, none, []⟩, ⟨some 10, .binOp .neq 3 (.tmp 7) (.tmp 9) 3, none, []⟩]) (.cond (.tmp 10) (.seq (.reg [⟨some 4, .assign (.const (.bool false)), none, []⟩]) .ret) .skip)) (.seq (.seq (.reg [⟨some 5, .assign (.const (.int .i64 0)), none, []⟩]) (.block 0 (.loop (.seq (.seq (.reg [⟨some 11, .move (.tmp 5), none, []⟩, ⟨some 12, .move (.tmp 0), none, []⟩, ⟨some 13, .call { callee := (.builtin .len), args := #[(.tmp 12)], argTypes := #[23] }, none, []⟩, ⟨some 14, .binOp .lss 3 (.tmp 11) (.tmp 13) 3, none, []⟩]) (.cond (.tmp 14) .skip (.exit 0))) (.seq (.block 1 (.seq (.drw 0 [⟨some 17, .move (.tmp 0), none, []⟩, ⟨some 18, .move (.tmp 5), none, []⟩, ⟨some 19, .indexAddr 23 (.tmp 17) (.tmp 18), none, [0, 1]⟩, ⟨some 20, .load 43 (.tmp 19), none, [2, 0, 1]⟩, ⟨some 21, .move (.tmp 1), none, []⟩, ⟨some 22, .move (.tmp 5), none, []⟩, ⟨some 23, .indexAddr 23 (.tmp 21) (.tmp 22), none, [4, 5]⟩, ⟨some 24, .load 43 (.tmp 23), none, [6, 4, 5]⟩, ⟨some 25, .call { callee := (.value (.func 121)), args := #[(.tmp 20), (.tmp 24)], argTypes := #[43, 43] }, none, [3, 2, 0, 1, 7, 6, 4, 5]⟩, ⟨some 26, .unOp .not 4 (.tmp 25), none, [8, 3, 2, 0, 1, 7, 6, 4, 5]⟩]) (.cond (.tmp 26) (.seq (.reg [⟨some 4, .assign (.const (.bool false)), none, []⟩]) .ret) .skip))) (.reg [⟨some 15, .move (.tmp 5), none, []⟩, ⟨some 16, .binOp .add 3 (.tmp 15) (.const (.int .i64 1)) 3, none, []⟩, ⟨some 5, .assign (.tmp 16), none, []⟩])))))) (.seq (.reg [⟨some 4, .assign (.const (.bool true)), none, []⟩]) .ret)))
theorem s85 : Try.f85.body.bind (stripC 27) = some B85 := by kernel_rfl
theorem eqLineS_ac {H : Heap} {E1 E2 : List Nat} {a b : Value} {xs : List Ln} (h1 : RS 4 RLn H E1 a xs) (h2 : RS 4 RLn H E2 b xs) : AC Try.prog 85 [a, b] H (.bool true) H [] := by
  obtain ⟨a1, c1, ha⟩ := h1.form
  obtain ⟨a2, c2, hb⟩ := h2.form
  have hn := h1.1
  refine AC.of_pureS (N := 27) Try.func85 s85 (by kernel_rfl) rfl rfl (by simp) rfl ?_; unfold B85
  rw [ha, hb]
  repeat (first | refine sA ?_ | refine sB ?_ | refine sC ?_ | refine sD ?_ | refine sE rfl ?_ | refine sF rfl ?_ | refine sG rfl ?_ | ((first | refine sk_reg fun K hK => ?_ | refine sk_drw mix fun K hK => ?_); simp; refine hK _ ?_; clear hK K))
  rw [← ha, ← hb]
  refine sk_loop (fun m ts H' => ∃ (k : Nat) (J : Heap), k ≤ xs.length ∧ m = xs.length - k ∧ H' = H ++ J ∧ ts = [(0, a), (1, b), (5, iv k)]) xs.length _ ?_ ⟨0, [], by omega, rfl, by simp, rfl⟩ ?_
  · simp [subL, getT, ha, hb]
  · rintro m ts H1 ⟨k, J, hk, rfl, rfl, rfl⟩
    by_cases hlt : k < xs.length
    · obtain ⟨id, o, Ek, cs, hv, hid, _, _, hR, hsz, hc⟩ := h1.at hlt
      obtain ⟨id2, o2, Ek2, cs2, hv2, hid2, _, _, hR2, hsz2, hc2⟩ := h2.at hlt
      have kR := hR
      have kR2 := hR2
      obtain ⟨A1, A2, u1, u2, rfl, rfl, a1, a2⟩ := hR
      obtain ⟨B1, B2, w1, w2, rfl, rfl, b1, b2⟩ := hR2
      have c0 := hc 0 _ rfl
      have d0 := hc2 0 _ rfl
      have c1 := hc 1 _ rfl
      have d1 := hc2 1 _ rfl
      have c2 := hc 2 _ rfl
      have d2 := hc2 2 _ rfl
      have c3 := hc 3 _ rfl
      have d3 := hc2 3 _ rfl
      simp only [Nat.mul_one, Nat.add_zero] at c0 d0 c1 d1 c2 d2 c3 d3
      have hw := wrap_id (x := (k : Int) + 1) (by omega) (by omega)
      repeat (first | refine sA ?_ | refine sB ?_ | refine sC ?_ | refine sD ?_ | refine sE rfl ?_ | refine sF rfl ?_ | refine sG rfl ?_ | ((first | refine sk_reg fun K hK => ?_ | refine sk_drw mix fun K hK => ?_); simp [hlt, hv, hv2, c0, d0, c1, d1, c2, d2, c3, d3, hw]; (repeat ((first | refine AskX.go (eqLine_ac (RLn.frm.ext kR) (RLn.frm.ext kR2)) ?_ | refine AskD.go (eqLine_ac (RLn.frm.ext kR) (RLn.frm.ext kR2)) ?_); simp [hlt, hv, hv2, c0, d0, c1, d1, c2, d2, c3, d3, hw])); refine hK _ ?_; clear hK K))
      refine sk_inv ⟨xs.length - (k + 1), _, by omega, ?_, ⟨k + 1, J, by omega, rfl, rfl, rfl⟩⟩
      simp [subL, getT, hv, hv2]
    · have hk2 : k = xs.length := by omega
      subst hk2
      repeat (first | refine sA ?_ | refine sB ?_ | refine sC ?_ | refine sD ?_ | refine sE rfl ?_ | refine sF rfl ?_ | refine sG rfl ?_ | ((first | refine sk_reg fun K hK => ?_ | refine sk_drw mix fun K hK => ?_); simp [hlt, ha, hb]; refine hK _ ?_; clear hK K))
      refine sk_ret ?_; simp

def B22 : SC := .seq (.reg [⟨some 2, .box 25 (.tmp 0), none, []⟩, ⟨some 3, .box 25 (.tmp 1), none, []⟩, ⟨some 4, .assign (.const (.bool false)), none, []⟩]) (.seq (.seq (.reg [⟨some 5, .fieldAddr 25 (.tmp 2) 0, none, []⟩, ⟨some 6, .load 4 (.tmp 5), none, []⟩, ⟨some 7, .fieldAddr 25 (.tmp 3) 0, none, []⟩, ⟨some 8, .load 4 (.tmp 7), none, []⟩, ⟨some 9, .binOp .neq 4 (.tmp 6) (.tmp 8) 4, none, []⟩]) (.cond (.tmp 9) (.seq (.reg [⟨some 4, .assign (.const (.bool false)), none, []⟩]) .ret) .skip)) (.seq (.seq (.reg [⟨some 10, .fieldAddr 25 (.tmp 2) 1, none, []⟩, ⟨some 11, .load 3 (.tmp 10), none, []⟩, ⟨some 12, .fieldAddr 25 (.tmp 3) 1, none, []⟩, ⟨some 13, .load 3 (.tmp 12), none, []⟩, ⟨some 14, .binOp .neq 3 (.tmp 11) (.tmp 13) 3, none, []⟩]) (.cond (.tmp 14) (.seq (.reg [⟨some 4, .assign (.const (.bool false)), none, []⟩]) .ret) .skip)) (.seq (.seq (.reg [⟨some 15, .fieldAddr 25 (.tmp 2) 2, none, []⟩, ⟨some 16, .load 23 (.tmp 15), none, []⟩, ⟨some 17, .fieldAddr 25 (.tmp 3) 2, none, []⟩, ⟨some 18, .load 23 (.tmp 17), none, []⟩, ⟨some 19, .call { callee := (.value (.func 85)), args := #[(.tmp 16), (.tmp 18)], argTypes := #[23, 23] }, none, []⟩, ⟨some 20, .unOp .not 4 (.tmp 19), none, []⟩]) (.cond (.tmp 20) (.seq (.reg [⟨some 4, .assign (.const (.bool false)), none, []⟩]) .ret) .skip)) (.seq (.reg [⟨some 4, .assign (.const (.bool true)), none, []⟩]) .ret))))
theorem s22 : Try.f22.body.bind (stripC 21) = some B22 := by kernel_rfl
theorem eqBook_ac {H : Heap} {E1 E2 : List Nat} {c1 c2 : List Value} {x : Bk} (h1 : RBk H E1 x c1) (h2 : RBk H E2 x c2) : AC Try.prog 22 [.agg c1.toArray, .agg c2.toArray] H (.bool true) H [] := by
  obtain ⟨u1, rfl, a1⟩ := h1
  obtain ⟨u2, rfl, a2⟩ := h2
  refine AC.of_pureS (N := 21) Try.func22 s22 (by kernel_rfl) rfl rfl (by simp) rfl ?_; unfold B22
  repeat (first | refine sA ?_ | refine sB ?_ | refine sC ?_ | refine sD ?_ | refine sE rfl ?_ | refine sF rfl ?_ | refine sG rfl ?_ | (refine sk_reg fun K hK => ?_; simp; (repeat ((first | refine AskX.go (eqLineS_ac (a1.ext RLn.frm) (a2.ext RLn.frm)) ?_); simp)); refine hK _ ?_; clear hK K))
  refine sk_ret ?_; simp

def B48 : SC := .seq (.reg [⟨some 2, .box 64 (.tmp 0), none, []⟩, ⟨some 3, .box 64 (.tmp 1), none, []⟩, ⟨some 4, .assign (.const (.bool false)), none, []⟩]) (.seq (.seq (.reg [⟨some 5, .fieldAddr 64 (.tmp 2) 0, none, []⟩, ⟨some 6, .load 4 (.tmp 5), none, []⟩, ⟨some 7, .fieldAddr 64 (.tmp 3) 0, none, []⟩, ⟨some 8, .load 4 (.tmp 7), none, []⟩, ⟨some 9, .binOp .neq 4 (.tmp 6) (.tmp 8) 4, none, []⟩]) (.cond (.tmp 9) (.seq (.reg [⟨some 4, .assign (.const (.bool false)), none, []⟩]) .ret) .skip)) (.seq (.seq (.reg [⟨some 10, .fieldAddr 64 (.tmp 2) 1, none, []⟩, ⟨some 11, .load 25 (.tmp 10), none, []⟩, ⟨some 12, .fieldAddr 64 (.tmp 3) 1, none, []⟩, ⟨some 13, .load 25 (.tmp 12), none, []⟩, ⟨some 14, .call { callee := (.value (.func 22)), args := #[(.tmp 11), (.tmp 13)], argTypes := #[25, 25] }, none, []⟩, ⟨some 15, .unOp .not 4 (.tmp 14), none, []⟩]) (.cond (.tmp 15) (.seq (.reg [⟨some 4, .assign (.const (.bool false)), none, []⟩]) .ret) .skip)) (.seq (.seq (.reg [⟨some 16, .fieldAddr 64 (.tmp 2) 2, none, []⟩, ⟨some 17, .load 62 (.tmp 16), none, []⟩, ⟨some 18, .fieldAddr 64 (.tmp 3) 2, none, []⟩, ⟨some 19, .load 62 (.tmp 18), none, []⟩, ⟨some 20, .call { callee := (.value (.func 106)), args := #[(.tmp 17), (.tmp 19)], argTypes := #[62, 62] }, none, []⟩, ⟨some 21, .unOp .not 4 (.tmp 20), none, []⟩]) (.cond (.tmp 21) (.seq (.reg [⟨some 4, .assign (.const (.bool false)), none, []⟩]) .ret) .skip)) (.seq (.reg [⟨some 4, .assign (.const (.bool true)), none, []⟩]) .ret))))
theorem s48 : Try.f48.body.bind (stripC 22) = some B48 := by kernel_rfl
theorem eqWorld_ac {H : Heap} {E1 E2 : List Nat} {c1 c2 : List Value} {x : Wd} (h1 : RWd H E1 x c1) (h2 : RWd H E2 x c2) : AC Try.prog 48 [.agg c1.toArray, .agg c2.toArray] H (.bool true) H [] := by
  obtain ⟨A1, A2, d1, w1, rfl, rfl, a1, a2⟩ := h1
  obtain ⟨B1, B2, d2, w2, rfl, rfl, b1, b2⟩ := h2
  have e1 := a1
  have e2 := b1
  obtain ⟨u1, rfl, _⟩ := a1
  obtain ⟨u2, rfl, _⟩ := b1
  refine AC.of_pureS (N := 22) Try.func48 s48 (by kernel_rfl) rfl rfl (by simp) rfl ?_; unfold B48
  repeat (first | refine sA ?_ | refine sB ?_ | refine sC ?_ | refine sD ?_ | refine sE rfl ?_ | refine sF rfl ?_ | refine sG rfl ?_ | (refine sk_reg fun K hK => ?_; simp; (repeat ((first | refine AskX.go (eqBook_ac (RBk.frm.ext e1) (RBk.frm.ext e2)) ?_ | refine AskX.go (eqBodyS_ac (a2.ext (RP.frm _)) (b2.ext (RP.frm _))) ?_); simp)); refine hK _ ?_; clear hK K))
  refine sk_ret ?_; simp

def B71 : SC := .seq (.reg [⟨some 2, .box 67 (.tmp 0), none, []⟩, ⟨some 3, .box 67 (.tmp 1), none, []⟩, ⟨some 4, .assign (.const (.bool false)), none, []⟩]) (.seq (.seq (.reg [⟨some 5, .fieldAddr 67 (.tmp 2) 0, none, []⟩, ⟨some 6, .load 3 (.tmp 5), none, []⟩, ⟨some 7, .fieldAddr 67 (.tmp 3) 0, none, []⟩, ⟨some 8, .load 3 (.tmp 7), none, []⟩, ⟨some 9, .binOp .neq 3 (.tmp 6) (.tmp 8) 3, none, []⟩]) (.cond (.tmp 9) (.seq (.reg [⟨some 4, .assign (.const (.bool false)), none, []⟩]) .ret) .skip)) (.seq (.seq (.reg [⟨some 10, .fieldAddr 67 (.tmp 2) 1, none, []⟩, ⟨some 11, .load 64 (.tmp 10), none, []⟩, ⟨some 12, .fieldAddr 67 (.tmp 3) 1, none, []⟩, ⟨some 13, .load 64 (.tmp 12), none, []⟩, ⟨some 14, .call { callee := (.value (.func 48)), args := #[(.tmp 11), (.tmp 13)], argTypes := #[64, 64] }, none, []⟩, ⟨some 15, .unOp .not 4 (.tmp 14), none, []⟩]) (.cond (.tmp 15) (.seq (.reg [⟨some 4, .assign (.const (.bool false)), none, []⟩]) .ret) .skip)) (.seq (.reg [⟨some 4, .assign (.const (.bool true)), none, []⟩]) .ret)))
theorem s71 : Try.f71.body.bind (stripC 16) = some B71 := by kernel_rfl
theorem eqMoved_ac {H : Heap} {E1 E2 : List Nat} {c1 c2 : List Value} {x : Mv} (h1 : RMv H E1 x c1) (h2 : RMv H E2 x c2) : AC Try.prog 71 [.agg c1.toArray, .agg c2.toArray] H (.bool true) H [] := by
  obtain ⟨d1, rfl, a1⟩ := h1
  obtain ⟨d2, rfl, a2⟩ := h2
  have e1 := a1
  have e2 := a2
  obtain ⟨A1, A2, d1, w1, rfl, rfl, a1, a3⟩ := a1
  obtain ⟨B1, B2, d2, w2, rfl, rfl, b1, b3⟩ := a2
  obtain ⟨u1, rfl, _⟩ := a1
  obtain ⟨u2, rfl, _⟩ := b1
  refine AC.of_pureS (N := 16) Try.func71 s71 (by kernel_rfl) rfl rfl (by simp) rfl ?_; unfold B71
  repeat (first | refine sA ?_ | refine sB ?_ | refine sC ?_ | refine sD ?_ | refine sE rfl ?_ | refine sF rfl ?_ | refine sG rfl ?_ | (refine sk_reg fun K hK => ?_; simp; (repeat ((first | refine AskX.go (eqWorld_ac (RWd.frm.ext e1) (RWd.frm.ext e2)) ?_); simp)); refine hK _ ?_; clear hK K))
  refine sk_ret ?_; simp

def B78 : SC := .seq (.reg [⟨some 4, .assign (.const (.bool false)), none, []⟩]) (.seq (.seq (.reg [⟨some 6, .move (.tmp 0), none, []⟩, ⟨some 7, .call { callee := (.builtin .len), args := #[(.tmp 6)], argTypes := #[105] }, none, []⟩, ⟨some 8, .move (.tmp 1), none, []⟩, ⟨some 9, .call { callee := (.builtin .len), args := #[(.tmp 8)], argTypes := #[105] }, none, []⟩, ⟨some 10, .binOp .neq 3 (.tmp 7) (.tmp 9) 3, none, []⟩]) (.cond (.tmp 10) (.seq (.reg [⟨some 4, .assign (.const (.bool false)), none, []⟩]) .ret) .skip)) (.seq (.seq (.reg [⟨some 5, .assign (.const (.int .i64 0)), none, []⟩]) (.block 0 (.loop (.seq (.seq (.reg [⟨some 11, .move (.tmp 5), none, []⟩, ⟨some 12, .move (.tmp 0), none, []⟩, ⟨some 13, .call { callee := (.builtin .len), args := #[(.tmp 12)], argTypes := #[105] }, none, []⟩, ⟨some 14, .binOp .lss 3 (.tmp 11) (.tmp 13) 3, none, []⟩]) (.cond (.tmp 14) .skip (.exit 0))) (.seq (.block 1 (.seq (.drw 0 [⟨some 17, .move (.tmp 0), none, []⟩, ⟨some 18, .move (.tmp 5), none, []⟩, ⟨some 19, .indexAddr 105 (.tmp 17) (.tmp 18), none, [0, 1]⟩, ⟨some 20, .load 67 (.tmp 19), none, [2, 0, 1]⟩, ⟨some 21, .move (.tmp 1), none, []⟩, ⟨some 22, .move (.tmp 5), none, []⟩, ⟨some 23, .indexAddr 105 (.tmp 21) (.tmp 22), none, [4, 5]⟩, ⟨some 24, .load 67 (.tmp 23), none, [6, 4, 5]⟩, ⟨some 25, .call { callee := (.value (.func 71)), args := #[(.tmp 20), (.tmp 24)], argTypes := #[67, 67] }, none, [3, 2, 0, 1, 7, 6, 4, 5]⟩, ⟨some 26, .unOp .not 4 (.tmp 25), none, [8, 3, 2, 0, 1, 7, 6, 4, 5]⟩]) (.cond (.tmp 26) (.seq (.reg [⟨some 4, .assign (.const (.bool false)), none, []⟩]) .ret) .skip))) (.reg [⟨some 15, .move (.tmp 5), none, []⟩, ⟨some 16, .binOp .add 3 (.tmp 15) (.const (.int .i64 1)) 3, none, []⟩, ⟨some 5, .assign (.tmp 16), none, []⟩])))))) (.seq (.reg [⟨some 4, .assign (.const (.bool true)), none, []⟩]) .ret)))
theorem s78 : Try.f78.body.bind (stripC 27) = some B78 := by kernel_rfl
theorem eqMovedS_ac {H : Heap} {E1 E2 : List Nat} {a b : Value} {xs : List Mv} (h1 : RS 6 RMv H E1 a xs) (h2 : RS 6 RMv H E2 b xs) : AC Try.prog 78 [a, b] H (.bool true) H [] := by
  obtain ⟨a1, c1, ha⟩ := h1.form
  obtain ⟨a2, c2, hb⟩ := h2.form
  have hn := h1.1
  refine AC.of_pureS (N := 27) Try.func78 s78 (by kernel_rfl) rfl rfl (by simp) rfl ?_; unfold B78
  rw [ha, hb]
  repeat (first | refine sA ?_ | refine sB ?_ | refine sC ?_ | refine sD ?_ | refine sE rfl ?_ | refine sF rfl ?_ | refine sG rfl ?_ | ((first | refine sk_reg fun K hK => ?_ | refine sk_drw mix fun K hK => ?_); simp; refine hK _ ?_; clear hK K))
  rw [← ha, ← hb]
  refine sk_loop (fun m ts H' => ∃ (k : Nat) (J : Heap), k ≤ xs.length ∧ m = xs.length - k ∧ H' = H ++ J ∧ ts = [(0, a), (1, b), (5, iv k)]) xs.length _ ?_ ⟨0, [], by omega, rfl, by simp, rfl⟩ ?_
  · simp [subL, getT, ha, hb]
  · rintro m ts H1 ⟨k, J, hk, rfl, rfl, rfl⟩
    by_cases hlt : k < xs.length
    · obtain ⟨id, o, Ek, cs, hv, hid, _, _, hR, hsz, hc⟩ := h1.at hlt
      obtain ⟨id2, o2, Ek2, cs2, hv2, hid2, _, _, hR2, hsz2, hc2⟩ := h2.at hlt
      have kR := hR
      have kR2 := hR2
      obtain ⟨f1, rfl, A1, A2, g1, w1, rfl, rfl, ⟨u1, rfl, _⟩, _⟩ := hR
      obtain ⟨f2, rfl, B1, B2, g2, w2, rfl, rfl, ⟨u2, rfl, _⟩, _⟩ := hR2
      have c0 := hc 0 _ rfl
      have d0 := hc2 0 _ rfl
      have c1 := hc 1 _ rfl
      have d1 := hc2 1 _ rfl
      have c2 := hc 2 _ rfl
      have d2 := hc2 2 _ rfl
      have c3 := hc 3 _ rfl
      have d3 := hc2 3 _ rfl
      have c4 := hc 4 _ rfl
      have d4 := hc2 4 _ rfl
      have c5 := hc 5 _ rfl
      have d5 := hc2 5 _ rfl
      simp only [Nat.mul_one, Nat.add_zero] at c0 d0 c1 d1 c2 d2 c3 d3 c4 d4 c5 d5
      have hw := wrap_id (x := (k : Int) + 1) (by omega) (by omega)
      repeat (first | refine sA ?_ | refine sB ?_ | refine sC ?_ | refine sD ?_ | refine sE rfl ?_ | refine sF rfl ?_ | refine sG rfl ?_ | ((first | refine sk_reg fun K hK => ?_ | refine sk_drw mix fun K hK => ?_); simp [hlt, hv, hv2, c0, d0, c1, d1, c2, d2, c3, d3, c4, d4, c5, d5, hw]; (repeat ((first | refine AskX.go (eqMoved_ac (RMv.frm.ext kR) (RMv.frm.ext kR2)) ?_ | refine AskD.go (eqMoved_ac (RMv.frm.ext kR) (RMv.frm.ext kR2)) ?_); simp [hlt, hv, hv2, c0, d0, c1, d1, c2, d2, c3, d3, c4, d4, c5, d5, hw])); refine hK _ ?_; clear hK K))
      refine sk_inv ⟨xs.length - (k + 1), _, by omega, ?_, ⟨k + 1, J, by omega, rfl, rfl, rfl⟩⟩
      simp [subL, getT, hv, hv2]
    · have hk2 : k = xs.length := by omega
      subst hk2
      repeat (first | refine sA ?_ | refine sB ?_ | refine sC ?_ | refine sD ?_ | refine sE rfl ?_ | refine sF rfl ?_ | refine sG rfl ?_ | ((first | refine sk_reg fun K hK => ?_ | refine sk_drw mix fun K hK => ?_); simp [hlt, ha, hb]; refine hK _ ?_; clear hK K))
      refine sk_ret ?_; simp

end Go.Proofs.Ytpoedfmkiiijnaa
namespace Go.Proofs.Ytpoedfmkiiijnaa
open Go Go.RowKit Go.Proofs.YtpoedfmkiiijnaaAm
set_option linter.unusedVariables false
set_option linter.unusedSimpArgs false
set_option maxRecDepth 10000
set_option maxHeartbeats 8000000

def B50 : SC := .seq (.reg [⟨some 4, .assign (.const (.int .i64 0)), none, []⟩]) (.seq (.seq (.reg [⟨some 5, .assign (.const (.int .i64 0)), none, []⟩]) (.block 0 (.loop (.seq (.seq (.reg [⟨some 6, .move (.tmp 5), none, []⟩, ⟨some 7, .move (.tmp 0), none, []⟩, ⟨some 8, .call { callee := (.builtin .len), args := #[(.tmp 7)], argTypes := #[40] }, none, []⟩, ⟨some 9, .binOp .lss 3 (.tmp 6) (.tmp 8) 3, none, []⟩]) (.cond (.tmp 9) .skip (.exit 0))) (.seq (.block 1 (.seq (.reg [⟨some 12, .move (.tmp 0), none, []⟩, ⟨some 13, .move (.tmp 5), none, []⟩, ⟨some 14, .move (.tmp 1), none, []⟩, ⟨some 15, .indexAddr 40 (.tmp 12) (.tmp 13), none, []⟩, ⟨none, .store 3 (.tmp 15) (.tmp 14), none, []⟩]) (.reg [⟨some 16, .move (.tmp 1), none, []⟩, ⟨some 17, .binOp .add 3 (.tmp 16) (.const (.int .i64 1)) 3, none, []⟩, ⟨some 1, .assign (.tmp 17), none, []⟩]))) (.reg [⟨some 10, .move (.tmp 5), none, []⟩, ⟨some 11, .binOp .add 3 (.tmp 10) (.const (.int .i64 1)) 3, none, []⟩, ⟨some 5, .assign (.tmp 11), none, []⟩])))))) (.seq (.reg [⟨some 18, .move (.tmp 1), none, []⟩, ⟨some 4, .assign (.tmp 18), none, []⟩]) .ret))
theorem s50 : Try.f50.body.bind (stripC 19) = some B50 := by kernel_rfl
theorem markIntS_ac {H : Heap} {E : List Nat} {v : Value} {xs : List Int} {k : Int} (h : RS 1 RInt H E v xs) (ho : Own H E) (hk : 0 ≤ k) (hb : k + cnL cnInt xs ≤ 4611686018427387904) :
    ∃ H', AC Try.prog 50 [v, iv k] H (iv (k + cnL cnInt xs)) H' E ∧ MK E H H' ∧ RS 1 RInt H' E v (mkL mkInt cnInt xs k) := by
  obtain ⟨a1, c1, ha⟩ := h.form
  have hn := h.1
  refine AC.of_markS (N := 19) Try.func50 s50 (by kernel_rfl) rfl rfl (by simp) rfl ?_; unfold B50
  rw [ha]
  repeat (first | refine sA ?_ | refine sB ?_ | refine sC ?_ | refine sD ?_ | refine sE rfl ?_ | refine sF rfl ?_ | refine sG rfl ?_ | (refine sk_reg fun K hK => ?_; simp; refine hK _ ?_; clear hK K))
  rw [← ha]
  refine sk_loop (fun m ts H' => ∃ (i : Nat), i ≤ xs.length ∧ m = xs.length - i ∧ MK E H H' ∧ RS 1 RInt H' E v (mkAt mkInt cnInt xs i k) ∧ ts = [(0, v), (1, iv (k + cnL cnInt (xs.take i))), (5, iv i)]) xs.length _ ?_ ⟨0, by omega, rfl, MK.refl _ _, by rw [mkAt_zero]; exact h, rfl⟩ ?_
  · simp [subL, getT, ha, cnL]
  · rintro m ts H1 ⟨i, hi, rfl, hmk, hr, rfl⟩
    by_cases hlt : i < xs.length
    · have hle := cnL_le (c := cnInt) (xs := xs) cnInt_nn (i + 1)
      have hle0 := cnL_nn (c := cnInt) cnInt_nn (xs.take i)
      rw [cnL_succ hlt] at hle
      have hset := mkAt_set (f := mkInt) (c := cnInt) (k := k) hlt
      obtain ⟨id, o, hv, hid, hc, hput⟩ := hr.putP (fun _ => rfl) ho.1 (k := i) (by rw [mkAt_len]; exact hlt)
      rw [mkAt_len] at hv
      generalize hK : k + cnL cnInt (xs.take i) = K at hset ⊢
      have c0 := hc 0 _ rfl
      have hrw := (ho.mk hmk).2 id hid
      have hput := hput (mkInt xs[i] K)
      rw [hset] at hput
      simp only [Nat.mul_one, Nat.add_zero] at c0 hput
      have hw := wrap_id (x := (i : Int) + 1) (by omega) (by omega)
      simp only [cnInt] at hle
      have hw1 := wrap_id (x := K + 1) (by omega) (by omega)
      repeat (first | refine sA ?_ | refine sB ?_ | refine sC ?_ | refine sD ?_ | refine sE rfl ?_ | refine sF rfl ?_ | refine sG rfl ?_ | (refine sk_reg fun K hK => ?_; simp [hlt, hv, hid, hrw, c0, hw, hw1]; refine hK _ ?_; clear hK K))
      refine sk_inv ⟨xs.length - (i + 1), _, by omega, ?_, ⟨i + 1, by omega, rfl, ?_, hput, rfl⟩⟩
      · rw [cnL_succ hlt, ← Int.add_assoc, hK]
        simp [subL, getT, hv, cnInt, Int.add_assoc]
      · exact hmk.trans (MK.put _ _ hid rfl)
    · have hk2 : i = xs.length := by omega
      subst hk2
      rw [mkAt_all] at hr
      repeat (first | refine sA ?_ | refine sB ?_ | refine sC ?_ | refine sD ?_ | refine sE rfl ?_ | refine sF rfl ?_ | refine sG rfl ?_ | (refine sk_reg fun K hK => ?_; simp [hlt, ha]; refine hK _ ?_; clear hK K))
      refine sk_ret ?_; simp
      exact ⟨H1, ⟨[], by simp⟩, hmk, hr⟩

def B122 : SC := .seq (.reg [⟨some 4, .assign (.const (.int .i64 0)), none, []⟩]) (.seq (.seq (.reg [⟨some 5, .assign (.const (.int .i64 0)), none, []⟩]) (.block 0 (.loop (.seq (.seq (.reg [⟨some 6, .move (.tmp 5), none, []⟩, ⟨some 7, .move (.tmp 0), none, []⟩, ⟨some 8, .call { callee := (.builtin .len), args := #[(.tmp 7)], argTypes := #[41] }, none, []⟩, ⟨some 9, .binOp .lss 3 (.tmp 6) (.tmp 8) 3, none, []⟩]) (.cond (.tmp 9) .skip (.exit 0))) (.seq (.block 1 (.seq (.reg [⟨some 12, .move (.tmp 0), none, []⟩, ⟨some 13, .move (.tmp 5), none, []⟩, ⟨some 14, .move (.tmp 1), none, []⟩, ⟨some 15, .indexAddr 41 (.tmp 12) (.tmp 13), none, []⟩, ⟨some 16, .fieldAddr 45 (.tmp 15) 0, none, []⟩, ⟨none, .store 3 (.tmp 16) (.tmp 14), none, []⟩]) (.seq (.reg [⟨some 17, .move (.tmp 1), none, []⟩, ⟨some 18, .binOp .add 3 (.tmp 17) (.const (.int .i64 1)) 3, none, []⟩, ⟨some 1, .assign (.tmp 18), none, []⟩]) (.seq (.reg [⟨some 19, .move (.tmp 0), none, []⟩, ⟨some 20, .move (.tmp 5), none, []⟩, ⟨some 21, .move (.tmp 1), none, []⟩, ⟨some 22, .indexAddr 41 (.tmp 19) (.tmp 20), none, []⟩, ⟨some 23, .fieldAddr 45 (.tmp 22) 1, none, []⟩, ⟨none, .store 3 (.tmp 23) (.tmp 21), none, []⟩]) (.reg [⟨some 24, .move (.tmp 1), none, []⟩, ⟨some 25, .binOp .add 3 (.tmp 24) (.const (.int .i64 1)) 3, none, []⟩, ⟨some 1, .assign (.tmp 25), none, []⟩]))))) (.reg [⟨some 10, .move (.tmp 5), none, []⟩, ⟨some 11, .binOp .add 3 (.tmp 10) (.const (.int .i64 1)) 3, none, []⟩, ⟨some 5, .assign (.tmp 11), none, []⟩])))))) (.seq (.reg [⟨some 26, .move (.tmp 1), none, []⟩, ⟨some 4, .assign (.tmp 26), none, []⟩]) .ret))
theorem s122 : Try.f122.body.bind (stripC 27) = some B122 := by kernel_rfl
theorem markGrantS_ac {H : Heap} {E : List Nat} {v : Value} {xs : List Gr} {k : Int} (h : RS 2 RGr H E v xs) (ho : Own H E) (hk : 0 ≤ k) (hb : k + cnL cnGr xs ≤ 4611686018427387904) :
    ∃ H', AC Try.prog 122 [v, iv k] H (iv (k + cnL cnGr xs)) H' E ∧ MK E H H' ∧ RS 2 RGr H' E v (mkL mkGr cnGr xs k) := by
  obtain ⟨a1, c1, ha⟩ := h.form
  have hn := h.1
  refine AC.of_markS (N := 27) Try.func122 s122 (by kernel_rfl) rfl rfl (by simp) rfl ?_; unfold B122
  rw [ha]
  repeat (first | refine sA ?_ | refine sB ?_ | refine sC ?_ | refine sD ?_ | refine sE rfl ?_ | refine sF rfl ?_ | refine sG rfl ?_ | (refine sk_reg fun K hK => ?_; simp; refine hK _ ?_; clear hK K))
  rw [← ha]
  refine sk_loop (fun m ts H' => ∃ (i : Nat), i ≤ xs.length ∧ m = xs.length - i ∧ MK E H H' ∧ RS 2 RGr H' E v (mkAt mkGr cnGr xs i k) ∧ ts = [(0, v), (1, iv (k + cnL cnGr (xs.take i))), (5, iv i)]) xs.length _ ?_ ⟨0, by omega, rfl, MK.refl _ _, by rw [mkAt_zero]; exact h, rfl⟩ ?_
  · simp [subL, getT, ha, cnL]
  · rintro m ts H1 ⟨i, hi, rfl, hmk, hr, rfl⟩
    by_cases hlt : i < xs.length
    · have hle := cnL_le (c := cnGr) (xs := xs) cnGr_nn (i + 1)
      have hle0 := cnL_nn (c := cnGr) cnGr_nn (xs.take i)
      rw [cnL_succ hlt] at hle
      have hset := mkAt_set (f := mkGr) (c := cnGr) (k := k) hlt
      obtain ⟨id, o, hv, hid, hc, hput⟩ := hr.putP (fun _ => rfl) ho.1 (k := i) (by rw [mkAt_len]; exact hlt)
      rw [mkAt_len] at hv
      generalize hK : k + cnL cnGr (xs.take i) = K at hset ⊢
      have c0 := hc 0 _ rfl
      have c1 := hc 1 _ rfl
      have hrw := (ho.mk hmk).2 id hid
      have hput := hput (mkGr xs[i] K)
      rw [hset] at hput
      simp only [Nat.mul_one, Nat.add_zero] at c0 c1 hput
      have hw := wrap_id (x := (i : Int) + 1) (by omega) (by omega)
      simp only [cnGr] at hle
      have hw1 := wrap_id (x := K + 1) (by omega) (by omega)
      have hw2 := wrap_id (x := K + 1 + 1) (by omega) (by omega)
      repeat (first | refine sA ?_ | refine sB ?_ | refine sC ?_ | refine sD ?_ | refine sE rfl ?_ | refine sF rfl ?_ | refine sG rfl ?_ | (refine sk_reg fun K hK => ?_; simp [hlt, hv, hid, hrw, c0, c1, hw, hw1, hw2]; refine hK _ ?_; clear hK K))
      refine sk_inv ⟨xs.length - (i + 1), _, by omega, ?_, ⟨i + 1, by omega, rfl, ?_, hput, rfl⟩⟩
      · rw [cnL_succ hlt, ← Int.add_assoc, hK]
        simp [subL, getT, hv, cnGr, Int.add_assoc]
      · exact hmk.trans (MK.put _ _ hid rfl) |>.trans (MK.put _ _ hid rfl)
    · have hk2 : i = xs.length := by omega
      subst hk2
      rw [mkAt_all] at hr
      repeat (first | refine sA ?_ | refine sB ?_ | refine sC ?_ | refine sD ?_ | refine sE rfl ?_ | refine sF rfl ?_ | refine sG rfl ?_ | (refine sk_reg fun K hK => ?_; simp [hlt, ha]; refine hK _ ?_; clear hK K))
      refine sk_ret ?_; simp
      exact ⟨H1, ⟨[], by simp⟩, hmk, hr⟩

def B107 : SC := .seq (.reg [⟨some 4, .assign (.const (.int .i64 0)), none, []⟩]) (.seq (.seq (.reg [⟨some 5, .assign (.const (.int .i64 0)), none, []⟩]) (.block 0 (.loop (.seq (.seq (.reg [⟨some 6, .move (.tmp 5), none, []⟩, ⟨some 7, .move (.tmp 0), none, []⟩, ⟨some 8, .call { callee := (.builtin .len), args := #[(.tmp 7)], argTypes := #[62] }, none, []⟩, ⟨some 9, .binOp .lss 3 (.tmp 6) (.tmp 8) 3, none, []⟩]) (.cond (.tmp 9) .skip (.exit 0))) (.seq (.block 1 (.seq (.reg [⟨some 12, .move (.tmp 0), none, []⟩, ⟨some 13, .move (.tmp 5), none, []⟩, ⟨some 14, .move (.tmp 1), none, []⟩, ⟨some 15, .indexAddr 62 (.tmp 12) (.tmp 13), none, []⟩, ⟨some 16, .fieldAddr 72 (.tmp 15) 0, none, []⟩, ⟨none, .store 3 (.tmp 16) (.tmp 14), none, []⟩]) (.seq (.reg [⟨some 17, .move (.tmp 1), none, []⟩, ⟨some 18, .binOp .add 3 (.tmp 17) (.const (.int .i64 1)) 3, none, []⟩, ⟨some 1, .assign (.tmp 18), none, []⟩]) (.seq (.reg [⟨some 19, .move (.tmp 0), none, []⟩, ⟨some 20, .move (.tmp 5), none, []⟩, ⟨some 21, .move (.tmp 1), none, []⟩, ⟨some 22, .indexAddr 62 (.tmp 19) (.tmp 20), none, []⟩, ⟨some 23, .fieldAddr 72 (.tmp 22) 1, none, []⟩, ⟨none, .store 3 (.tmp 23) (.tmp 21), none, []⟩]) (.seq (.reg [⟨some 24, .move (.tmp 1), none, []⟩, ⟨some 25, .binOp .add 3 (.tmp 24) (.const (.int .i64 1)) 3, none, []⟩, ⟨some 1, .assign (.tmp 25), none, []⟩]) (.seq (.reg [⟨some 26, .move (.tmp 0), none, []⟩, ⟨some 27, .move (.tmp 5), none, []⟩, ⟨some 28, .move (.tmp 1), none, []⟩, ⟨some 29, .indexAddr 62 (.tmp 26) (.tmp 27), none, []⟩, ⟨some 30, .fieldAddr 72 (.tmp 29) 2, none, []⟩, ⟨none, .store 3 (.tmp 30) (.tmp 28), none, []⟩]) (.seq (.reg [⟨some 31, .move (.tmp 1), none, []⟩, ⟨some 32, .binOp .add 3 (.tmp 31) (.const (.int .i64 1)) 3, none, []⟩, ⟨some 1, .assign (.tmp 32), none, []⟩]) (.seq (.reg [⟨some 33, .move (.tmp 0), none, []⟩, ⟨some 34, .move (.tmp 5), none, []⟩, ⟨some 35, .move (.tmp 1), none, []⟩, ⟨some 36, .indexAddr 62 (.tmp 33) (.tmp 34), none, []⟩, ⟨some 37, .fieldAddr 72 (.tmp 36) 3, none, []⟩, ⟨none, .store 3 (.tmp 37) (.tmp 35), none, []⟩]) (.reg [⟨some 38, .move (.tmp 1), none, []⟩, ⟨some 39, .binOp .add 3 (.tmp 38) (.const (.int .i64 1)) 3, none, []⟩, ⟨some 1, .assign (.tmp 39), none, []⟩]))))))))) (.reg [⟨some 10, .move (.tmp 5), none, []⟩, ⟨some 11, .binOp .add 3 (.tmp 10) (.const (.int .i64 1)) 3, none, []⟩, ⟨some 5, .assign (.tmp 11), none, []⟩])))))) (.seq (.reg [⟨some 40, .move (.tmp 1), none, []⟩, ⟨some 4, .assign (.tmp 40), none, []⟩]) .ret))
theorem s107 : Try.f107.body.bind (stripC 41) = some B107 := by kernel_rfl
theorem markBodyS_ac {H : Heap} {E : List Nat} {v : Value} {xs : List Bd} {k : Int} (h : RS 4 RBd H E v xs) (ho : Own H E) (hk : 0 ≤ k) (hb : k + cnL cnBd xs ≤ 4611686018427387904) :
    ∃ H', AC Try.prog 107 [v, iv k] H (iv (k + cnL cnBd xs)) H' E ∧ MK E H H' ∧ RS 4 RBd H' E v (mkL mkBd cnBd xs k) := by
  obtain ⟨a1, c1, ha⟩ := h.form
  have hn := h.1
  refine AC.of_markS (N := 41) Try.func107 s107 (by kernel_rfl) rfl rfl (by simp) rfl ?_; unfold B107
  rw [ha]
  repeat (first | refine sA ?_ | refine sB ?_ | refine sC ?_ | refine sD ?_ | refine sE rfl ?_ | refine sF rfl ?_ | refine sG rfl ?_ | (refine sk_reg fun K hK => ?_; simp; refine hK _ ?_; clear hK K))
  rw [← ha]
  refine sk_loop (fun m ts H' => ∃ (i : Nat), i ≤ xs.length ∧ m = xs.length - i ∧ MK E H H' ∧ RS 4 RBd H' E v (mkAt mkBd cnBd xs i k) ∧ ts = [(0, v), (1, iv (k + cnL cnBd (xs.take i))), (5, iv i)]) xs.length _ ?_ ⟨0, by omega, rfl, MK.refl _ _, by rw [mkAt_zero]; exact h, rfl⟩ ?_
  · simp [subL, getT, ha, cnL]
  · rintro m ts H1 ⟨i, hi, rfl, hmk, hr, rfl⟩
    by_cases hlt : i < xs.length
    · have hle := cnL_le (c := cnBd) (xs := xs) cnBd_nn (i + 1)
      have hle0 := cnL_nn (c := cnBd) cnBd_nn (xs.take i)
      rw [cnL_succ hlt] at hle
      have hset := mkAt_set (f := mkBd) (c := cnBd) (k := k) hlt
      obtain ⟨id, o, hv, hid, hc, hput⟩ := hr.putP (fun _ => rfl) ho.1 (k := i) (by rw [mkAt_len]; exact hlt)
      rw [mkAt_len] at hv
      generalize hK : k + cnL cnBd (xs.take i) = K at hset ⊢
      have c0 := hc 0 _ rfl
      have c1 := hc 1 _ rfl
      have c2 := hc 2 _ rfl
      have c3 := hc 3 _ rfl
      have hrw := (ho.mk hmk).2 id hid
      have hput := hput (mkBd xs[i] K)
      rw [hset] at hput
      simp only [Nat.mul_one, Nat.add_zero] at c0 c1 c2 c3 hput
      have hw := wrap_id (x := (i : Int) + 1) (by omega) (by omega)
      simp only [cnBd] at hle
      have hw1 := wrap_id (x := K + 1) (by omega) (by omega)
      have hw2 := wrap_id (x := K + 1 + 1) (by omega) (by omega)
      have hw3 := wrap_id (x := K + 1 + 1 + 1) (by omega) (by omega)
      have hw4 := wrap_id (x := K + 1 + 1 + 1 + 1) (by omega) (by omega)
      repeat (first | refine sA ?_ | refine sB ?_ | refine sC ?_ | refine sD ?_ | refine sE rfl ?_ | refine sF rfl ?_ | refine sG rfl ?_ | (refine sk_reg fun K hK => ?_; simp [hlt, hv, hid, hrw, c0, c1, c2, c3, hw, hw1, hw2, hw3, hw4]; refine hK _ ?_; clear hK K))
      refine sk_inv ⟨xs.length - (i + 1), _, by omega, ?_, ⟨i + 1, by omega, rfl, ?_, hput, rfl⟩⟩
      · rw [cnL_succ hlt, ← Int.add_assoc, hK]
        simp [subL, getT, hv, cnBd, Int.add_assoc]
      · exact hmk.trans (MK.put _ _ hid rfl) |>.trans (MK.put _ _ hid rfl) |>.trans (MK.put _ _ hid rfl) |>.trans (MK.put _ _ hid rfl)
    · have hk2 : i = xs.length := by omega
      subst hk2
      rw [mkAt_all] at hr
      repeat (first | refine sA ?_ | refine sB ?_ | refine sC ?_ | refine sD ?_ | refine sE rfl ?_ | refine sF rfl ?_ | refine sG rfl ?_ | (refine sk_reg fun K hK => ?_; simp [hlt, ha]; refine hK _ ?_; clear hK K))
      refine sk_ret ?_; simp
      exact ⟨H1, ⟨[], by simp⟩, hmk, hr⟩

def B80 : SC := .seq (.reg [⟨some 4, .assign (.const (.int .i64 0)), none, []⟩]) (.seq (.seq (.reg [⟨some 5, .assign (.const (.int .i64 0)), none, []⟩]) (.block 0 (.loop (.seq (.seq (.reg [⟨some 6, .move (.tmp 5), none, []⟩, ⟨some 7, .move (.tmp 0), none, []⟩, ⟨some 8, .call { callee := (.builtin .len), args := #[(.tmp 7)], argTypes := #[73] }, none, []⟩, ⟨some 9, .binOp .lss 3 (.tmp 6) (.tmp 8) 3, none, []⟩]) (.cond (.tmp 9) .skip (.exit 0))) (.seq (.block 1 (.seq (.reg [⟨some 12, .move (.tmp 0), none, []⟩, ⟨some 13, .move (.tmp 5), none, []⟩, ⟨some 14, .move (.tmp 1), none, []⟩, ⟨some 15, .indexAddr 73 (.tmp 12) (.tmp 13), none, []⟩, ⟨some 16, .fieldAddr 70 (.tmp 15) 0, none, []⟩, ⟨none, .store 3 (.tmp 16) (.tmp 14), none, []⟩]) (.seq (.reg [⟨some 17, .move (.tmp 1), none, []⟩, ⟨some 18, .binOp .add 3 (.tmp 17) (.const (.int .i64 1)) 3, none, []⟩, ⟨some 1, .assign (.tmp 18), none, []⟩]) (.seq (.reg [⟨some 19, .move (.tmp 0), none, []⟩, ⟨some 20, .move (.tmp 5), none, []⟩, ⟨some 21, .move (.tmp 1), none, []⟩, ⟨some 22, .indexAddr 73 (.tmp 19) (.tmp 20), none, []⟩, ⟨some 23, .fieldAddr 70 (.tmp 22) 1, none, []⟩, ⟨some 24, .fieldAddr 49 (.tmp 23) 0, none, []⟩, ⟨none, .store 3 (.tmp 24) (.tmp 21), none, []⟩]) (.seq (.reg [⟨some 25, .move (.tmp 1), none, []⟩, ⟨some 26, .binOp .add 3 (.tmp 25) (.const (.int .i64 1)) 3, none, []⟩, ⟨some 1, .assign (.tmp 26), none, []⟩]) (.seq (.reg [⟨some 27, .move (.tmp 0), none, []⟩, ⟨some 28, .move (.tmp 5), none, []⟩, ⟨some 29, .move (.tmp 1), none, []⟩, ⟨some 30, .indexAddr 73 (.tmp 27) (.tmp 28), none, []⟩, ⟨some 31, .fieldAddr 70 (.tmp 30) 1, none, []⟩, ⟨some 32, .fieldAddr 49 (.tmp 31) 1, none, []⟩, ⟨none, .store 3 (.tmp 32) (.tmp 29), none, []⟩]) (.seq (.reg [⟨some 33, .move (.tmp 1), none, []⟩, ⟨some 34, .binOp .add 3 (.tmp 33) (.const (.int .i64 1)) 3, none, []⟩, ⟨some 1, .assign (.tmp 34), none, []⟩]) (.seq (.reg [⟨some 35, .move (.tmp 0), none, []⟩, ⟨some 36, .move (.tmp 5), none, []⟩, ⟨some 37, .move (.tmp 1), none, []⟩, ⟨some 38, .indexAddr 73 (.tmp 35) (.tmp 36), none, []⟩, ⟨some 39, .fieldAddr 70 (.tmp 38) 1, none, []⟩, ⟨some 40, .fieldAddr 49 (.tmp 39) 2, none, []⟩, ⟨none, .store 3 (.tmp 40) (.tmp 37), none, []⟩]) (.seq (.reg [⟨some 41, .move (.tmp 1), none, []⟩, ⟨some 42, .binOp .add 3 (.tmp 41) (.const (.int .i64 1)) 3, none, []⟩, ⟨some 1, .assign (.tmp 42), none, []⟩]) (.seq (.reg [⟨some 43, .move (.tmp 0), none, []⟩, ⟨some 44, .move (.tmp 5), none, []⟩, ⟨some 45, .move (.tmp 1), none, []⟩, ⟨some 46, .indexAddr 73 (.tmp 43) (.tmp 44), none, []⟩, ⟨some 47, .fieldAddr 70 (.tmp 46) 2, none, []⟩, ⟨none, .store 3 (.tmp 47) (.tmp 45), none, []⟩]) (.seq (.reg [⟨some 48, .move (.tmp 1), none, []⟩, ⟨some 49, .binOp .add 3 (.tmp 48) (.const (.int .i64 1)) 3, none, []⟩, ⟨some 1, .assign (.tmp 49), none, []⟩]) (.seq (.reg [⟨some 50, .move (.tmp 0), none, []⟩, ⟨some 51, .move (.tmp 5), none, []⟩, ⟨some 52, .move (.tmp 1), none, []⟩, ⟨some 53, .indexAddr 73 (.tmp 50) (.tmp 51), none, []⟩, ⟨some 54, .fieldAddr 70 (.tmp 53) 3, none, []⟩, ⟨none, .store 3 (.tmp 54) (.tmp 52), none, []⟩]) (.reg [⟨some 55, .move (.tmp 1), none, []⟩, ⟨some 56, .binOp .add 3 (.tmp 55) (.const (.int .i64 1)) 3, none, []⟩, ⟨some 1, .assign (.tmp 56), none, []⟩]))))))))))))) (.reg [⟨some 10, .move (.tmp 5), none, []⟩, ⟨some 11, .binOp .add 3 (.tmp 10) (.const (.int .i64 1)) 3, none, []⟩, ⟨some 5, .assign (.tmp 11), none, []⟩])))))) (.seq (.reg [⟨some 57, .move (.tmp 1), none, []⟩, ⟨some 4, .assign (.tmp 57), none, []⟩]) .ret))
theorem s80 : Try.f80.body.bind (stripC 58) = some B80 := by kernel_rfl
theorem markActS_ac {H : Heap} {E : List Nat} {v : Value} {xs : List Actn} {k : Int} (h : RS 6 RAc H E v xs) (ho : Own H E) (hk : 0 ≤ k) (hb : k + cnL cnAc xs ≤ 4611686018427387904) :
    ∃ H', AC Try.prog 80 [v, iv k] H (iv (k + cnL cnAc xs)) H' E ∧ MK E H H' ∧ RS 6 RAc H' E v (mkL mkAc cnAc xs k) := by
  obtain ⟨a1, c1, ha⟩ := h.form
  have hn := h.1
  refine AC.of_markS (N := 58) Try.func80 s80 (by kernel_rfl) rfl rfl (by simp) rfl ?_; unfold B80
  rw [ha]
  repeat (first | refine sA ?_ | refine sB ?_ | refine sC ?_ | refine sD ?_ | refine sE rfl ?_ | refine sF rfl ?_ | refine sG rfl ?_ | (refine sk_reg fun K hK => ?_; simp; refine hK _ ?_; clear hK K))
  rw [← ha]
  refine sk_loop (fun m ts H' => ∃ (i : Nat), i ≤ xs.length ∧ m = xs.length - i ∧ MK E H H' ∧ RS 6 RAc H' E v (mkAt mkAc cnAc xs i k) ∧ ts = [(0, v), (1, iv (k + cnL cnAc (xs.take i))), (5, iv i)]) xs.length _ ?_ ⟨0, by omega, rfl, MK.refl _ _, by rw [mkAt_zero]; exact h, rfl⟩ ?_
  · simp [subL, getT, ha, cnL]
  · rintro m ts H1 ⟨i, hi, rfl, hmk, hr, rfl⟩
    by_cases hlt : i < xs.length
    · have hle := cnL_le (c := cnAc) (xs := xs) cnAc_nn (i + 1)
      have hle0 := cnL_nn (c := cnAc) cnAc_nn (xs.take i)
      rw [cnL_succ hlt] at hle
      have hset := mkAt_set (f := mkAc) (c := cnAc) (k := k) hlt
      obtain ⟨id, o, hv, hid, hc, hput⟩ := hr.putP (fun _ => rfl) ho.1 (k := i) (by rw [mkAt_len]; exact hlt)
      rw [mkAt_len] at hv
      generalize hK : k + cnL cnAc (xs.take i) = K at hset ⊢
      have c0 := hc 0 _ rfl
      have c1 := hc 1 _ rfl
      have c2 := hc 2 _ rfl
      have c3 := hc 3 _ rfl
      have c4 := hc 4 _ rfl
      have c5 := hc 5 _ rfl
      have hrw := (ho.mk hmk).2 id hid
      have hput := hput (mkAc xs[i] K)
      rw [hset] at hput
      simp only [Nat.mul_one, Nat.add_zero] at c0 c1 c2 c3 c4 c5 hput
      have hw := wrap_id (x := (i : Int) + 1) (by omega) (by omega)
      simp only [cnAc] at hle
      have hw1 := wrap_id (x := K + 1) (by omega) (by omega)
      have hw2 := wrap_id (x := K + 1 + 1) (by omega) (by omega)
      have hw3 := wrap_id (x := K + 1 + 1 + 1) (by omega) (by omega)
      have hw4 := wrap_id (x := K + 1 + 1 + 1 + 1) (by omega) (by omega)
      have hw5 := wrap_id (x := K + 1 + 1 + 1 + 1 + 1) (by omega) (by omega)
      have hw6 := wrap_id (x := K + 1 + 1 + 1 + 1 + 1 + 1) (by omega) (by omega)
      repeat (first | refine sA ?_ | refine sB ?_ | refine sC ?_ | refine sD ?_ | refine sE rfl ?_ | refine sF rfl ?_ | refine sG rfl ?_ | (refine sk_reg fun K hK => ?_; simp [hlt, hv, hid, hrw, c0, c1, c2, c3, c4, c5, hw, hw1, hw2, hw3, hw4, hw5, hw6]; refine hK _ ?_; clear hK K))
      refine sk_inv ⟨xs.length - (i + 1), _, by omega, ?_, ⟨i + 1, by omega, rfl, ?_, hput, rfl⟩⟩
      · rw [cnL_succ hlt, ← Int.add_assoc, hK]
        simp [subL, getT, hv, cnAc, Int.add_assoc]
      · exact hmk.trans (MK.put _ _ hid rfl) |>.trans (MK.put _ _ hid rfl) |>.trans (MK.put _ _ hid rfl) |>.trans (MK.put _ _ hid rfl) |>.trans (MK.put _ _ hid rfl) |>.trans (MK.put _ _ hid rfl)
    · have hk2 : i = xs.length := by omega
      subst hk2
      rw [mkAt_all] at hr
      repeat (first | refine sA ?_ | refine sB ?_ | refine sC ?_ | refine sD ?_ | refine sE rfl ?_ | refine sF rfl ?_ | refine sG rfl ?_ | (refine sk_reg fun K hK => ?_; simp [hlt, ha]; refine hK _ ?_; clear hK K))
      refine sk_ret ?_; simp
      exact ⟨H1, ⟨[], by simp⟩, hmk, hr⟩

def B56 : SC := .seq (.reg [⟨some 4, .assign (.const (.int .i64 0)), none, []⟩]) (.seq (.seq (.reg [⟨some 5, .assign (.const (.int .i64 0)), none, []⟩]) (.block 0 (.loop (.seq (.seq (.reg [⟨some 6, .move (.tmp 5), none, []⟩, ⟨some 7, .move (.tmp 0), none, []⟩, ⟨some 8, .call { callee := (.builtin .len), args := #[(.tmp 7)], argTypes := #[40] }, none, []⟩, ⟨some 9, .binOp .lss 3 (.tmp 6) (.tmp 8) 3, none, []⟩]) (.cond (.tmp 9) .skip (.exit 0))) (.seq (.block 1 (.seq (.seq (.reg [⟨some 12, .move (.tmp 0), none, []⟩, ⟨some 13, .move (.tmp 5), none, []⟩, ⟨some 14, .indexAddr 40 (.tmp 12) (.tmp 13), none, []⟩, ⟨some 15, .load 3 (.tmp 14), none, []⟩, ⟨some 16, .move (.tmp 1), none, []⟩, ⟨some 17, .binOp .neq 3 (.tmp 15) (.tmp 16) 3, none, []⟩]) (.cond (.tmp 17) (.seq (.reg [⟨some 4, .assign (.const (.int .i64 (-1))), none, []⟩]) .ret) .skip)) (.reg [⟨some 18, .move (.tmp 1), none, []⟩, ⟨some 19, .binOp .add 3 (.tmp 18) (.const (.int .i64 1)) 3, none, []⟩, ⟨some 1, .assign (.tmp 19), none, []⟩]))) (.reg [⟨some 10, .move (.tmp 5), none, []⟩, ⟨some 11, .binOp .add 3 (.tmp 10) (.const (.int .i64 1)) 3, none, []⟩, ⟨some 5, .assign (.tmp 11), none, []⟩])))))) (.seq (.reg [⟨some 20, .move (.tmp 1), none, []⟩, ⟨some 4, .assign (.tmp 20), none, []⟩]) .ret))
theorem s56 : Try.f56.body.bind (stripC 21) = some B56 := by kernel_rfl
theorem heldIntS_ac {H : Heap} {E : List Nat} {v : Value} {xs : List Int} {k : Int} (h : RS 1 RInt H E v (mkL mkInt cnInt xs k)) (hk : 0 ≤ k) (hb : k + cnL cnInt xs ≤ 4611686018427387904) :
    AC Try.prog 56 [v, iv k] H (iv (k + cnL cnInt xs)) H [] := by
  obtain ⟨a1, c1, ha⟩ := h.form
  have hn := h.1
  rw [mkL_len] at ha hn
  refine AC.of_pureS (N := 21) Try.func56 s56 (by kernel_rfl) rfl rfl (by simp) rfl ?_; unfold B56
  rw [ha]
  repeat (first | refine sA ?_ | refine sB ?_ | refine sC ?_ | refine sD ?_ | refine sE rfl ?_ | refine sF rfl ?_ | refine sG rfl ?_ | (refine sk_reg fun K hK => ?_; simp; refine hK _ ?_; clear hK K))
  rw [← ha]
  refine sk_loop (fun m ts H' => ∃ (i : Nat) (J : Heap), i ≤ xs.length ∧ m = xs.length - i ∧ H' = H ++ J ∧ ts = [(0, v), (1, iv (k + cnL cnInt (xs.take i))), (5, iv i)]) xs.length _ ?_ ⟨0, [], by omega, rfl, by simp, rfl⟩ ?_
  · simp [subL, getT, ha, cnL]
  · rintro m ts H1 ⟨i, J, hi, rfl, rfl, rfl⟩
    by_cases hlt : i < xs.length
    · have hle := cnL_le (c := cnInt) (xs := xs) cnInt_nn (i + 1)
      have hle0 := cnL_nn (c := cnInt) cnInt_nn (xs.take i)
      rw [cnL_succ hlt] at hle
      obtain ⟨id, o, Ek, cs, hv, hid, _, _, hR, hsz, hc⟩ := h.at (k := i) (by rw [mkL_len]; exact hlt)
      rw [mkL_len] at hv
      rw [mkL_get hlt] at hR
      generalize hK : k + cnL cnInt (xs.take i) = K at hR ⊢
      obtain ⟨_, rfl⟩ := hR
      have c0 := hc 0 _ rfl
      simp only [Nat.mul_one, Nat.add_zero, mkInt] at c0
      have hw := wrap_id (x := (i : Int) + 1) (by omega) (by omega)
      simp only [cnInt] at hle
      have hw1 := wrap_id (x := K + 1) (by omega) (by omega)
      repeat (first | refine sA ?_ | refine sB ?_ | refine sC ?_ | refine sD ?_ | refine sE rfl ?_ | refine sF rfl ?_ | refine sG rfl ?_ | (refine sk_reg fun K hK => ?_; simp [hlt, hv, c0, hw, hw1]; refine hK _ ?_; clear hK K))
      refine sk_inv ⟨xs.length - (i + 1), _, by omega, ?_, ⟨i + 1, J, by omega, rfl, rfl, rfl⟩⟩
      rw [cnL_succ hlt, ← Int.add_assoc, hK]
      simp [subL, getT, hv, cnInt, Int.add_assoc]
    · have hk2 : i = xs.length := by omega
      subst hk2
      repeat (first | refine sA ?_ | refine sB ?_ | refine sC ?_ | refine sD ?_ | refine sE rfl ?_ | refine sF rfl ?_ | refine sG rfl ?_ | (refine sk_reg fun K hK => ?_; simp [hlt, ha]; refine hK _ ?_; clear hK K))
      refine sk_ret ?_; simp

def B123 : SC := .seq (.reg [⟨some 4, .assign (.const (.int .i64 0)), none, []⟩]) (.seq (.seq (.reg [⟨some 5, .assign (.const (.int .i64 0)), none, []⟩]) (.block 0 (.loop (.seq (.seq (.reg [⟨some 6, .move (.tmp 5), none, []⟩, ⟨some 7, .move (.tmp 0), none, []⟩, ⟨some 8, .call { callee := (.builtin .len), args := #[(.tmp 7)], argTypes := #[41] }, none, []⟩, ⟨some 9, .binOp .lss 3 (.tmp 6) (.tmp 8) 3, none, []⟩]) (.cond (.tmp 9) .skip (.exit 0))) (.seq (.block 1 (.seq (.seq (.reg [⟨some 12, .move (.tmp 0), none, []⟩, ⟨some 13, .move (.tmp 5), none, []⟩, ⟨some 14, .indexAddr 41 (.tmp 12) (.tmp 13), none, []⟩, ⟨some 15, .fieldAddr 45 (.tmp 14) 0, none, []⟩, ⟨some 16, .load 3 (.tmp 15), none, []⟩, ⟨some 17, .move (.tmp 1), none, []⟩, ⟨some 18, .binOp .neq 3 (.tmp 16) (.tmp 17) 3, none, []⟩]) (.cond (.tmp 18) (.seq (.reg [⟨some 4, .assign (.const (.int .i64 (-1))), none, []⟩]) .ret) .skip)) (.seq (.reg [⟨some 19, .move (.tmp 1), none, []⟩, ⟨some 20, .binOp .add 3 (.tmp 19) (.const (.int .i64 1)) 3, none, []⟩, ⟨some 1, .assign (.tmp 20), none, []⟩]) (.seq (.seq (.reg [⟨some 21, .move (.tmp 0), none, []⟩, ⟨some 22, .move (.tmp 5), none, []⟩, ⟨some 23, .indexAddr 41 (.tmp 21) (.tmp 22), none, []⟩, ⟨some 24, .fieldAddr 45 (.tmp 23) 1, none, []⟩, ⟨some 25, .load 3 (.tmp 24), none, []⟩, ⟨some 26, .move (.tmp 1), none, []⟩, ⟨some 27, .binOp .neq 3 (.tmp 25) (.tmp 26) 3, none, []⟩]) (.cond (.tmp 27) (.seq (.reg [⟨some 4, .assign (.const (.int .i64 (-1))), none, []⟩]) .ret) .skip)) (.reg [⟨some 28, .move (.tmp 1), none, []⟩, ⟨some 29, .binOp .add 3 (.tmp 28) (.const (.int .i64 1)) 3, none, []⟩, ⟨some 1, .assign (.tmp 29), none, []⟩]))))) (.reg [⟨some 10, .move (.tmp 5), none, []⟩, ⟨some 11, .binOp .add 3 (.tmp 10) (.const (.int .i64 1)) 3, none, []⟩, ⟨some 5, .assign (.tmp 11), none, []⟩])))))) (.seq (.reg [⟨some 30, .move (.tmp 1), none, []⟩, ⟨some 4, .assign (.tmp 30), none, []⟩]) .ret))
theorem s123 : Try.f123.body.bind (stripC 31) = some B123 := by kernel_rfl
theorem heldGrantS_ac {H : Heap} {E : List Nat} {v : Value} {xs : List Gr} {k : Int} (h : RS 2 RGr H E v (mkL mkGr cnGr xs k)) (hk : 0 ≤ k) (hb : k + cnL cnGr xs ≤ 4611686018427387904) :
    AC Try.prog 123 [v, iv k] H (iv (k + cnL cnGr xs)) H [] := by
  obtain ⟨a1, c1, ha⟩ := h.form
  have hn := h.1
  rw [mkL_len] at ha hn
  refine AC.of_pureS (N := 31) Try.func123 s123 (by kernel_rfl) rfl rfl (by simp) rfl ?_; unfold B123
  rw [ha]
  repeat (first | refine sA ?_ | refine sB ?_ | refine sC ?_ | refine sD ?_ | refine sE rfl ?_ | refine sF rfl ?_ | refine sG rfl ?_ | (refine sk_reg fun K hK => ?_; simp; refine hK _ ?_; clear hK K))
  rw [← ha]
  refine sk_loop (fun m ts H' => ∃ (i : Nat) (J : Heap), i ≤ xs.length ∧ m = xs.length - i ∧ H' = H ++ J ∧ ts = [(0, v), (1, iv (k + cnL cnGr (xs.take i))), (5, iv i)]) xs.length _ ?_ ⟨0, [], by omega, rfl, by simp, rfl⟩ ?_
  · simp [subL, getT, ha, cnL]
  · rintro m ts H1 ⟨i, J, hi, rfl, rfl, rfl⟩
    by_cases hlt : i < xs.length
    · have hle := cnL_le (c := cnGr) (xs := xs) cnGr_nn (i + 1)
      have hle0 := cnL_nn (c := cnGr) cnGr_nn (xs.take i)
      rw [cnL_succ hlt] at hle
      obtain ⟨id, o, Ek, cs, hv, hid, _, _, hR, hsz, hc⟩ := h.at (k := i) (by rw [mkL_len]; exact hlt)
      rw [mkL_len] at hv
      rw [mkL_get hlt] at hR
      generalize hK : k + cnL cnGr (xs.take i) = K at hR ⊢
      obtain ⟨_, rfl⟩ := hR
      have c0 := hc 0 _ rfl
      have c1 := hc 1 _ rfl
      simp only [Nat.mul_one, Nat.add_zero, mkGr] at c0 c1
      have hw := wrap_id (x := (i : Int) + 1) (by omega) (by omega)
      simp only [cnGr] at hle
      have hw1 := wrap_id (x := K + 1) (by omega) (by omega)
      have hw2 := wrap_id (x := K + 1 + 1) (by omega) (by omega)
      repeat (first | refine sA ?_ | refine sB ?_ | refine sC ?_ | refine sD ?_ | refine sE rfl ?_ | refine sF rfl ?_ | refine sG rfl ?_ | (refine sk_reg fun K hK => ?_; simp [hlt, hv, c0, c1, hw, hw1, hw2]; refine hK _ ?_; clear hK K))
      refine sk_inv ⟨xs.length - (i + 1), _, by omega, ?_, ⟨i + 1, J, by omega, rfl, rfl, rfl⟩⟩
      rw [cnL_succ hlt, ← Int.add_assoc, hK]
      simp [subL, getT, hv, cnGr, Int.add_assoc]
    · have hk2 : i = xs.length := by omega
      subst hk2
      repeat (first | refine sA ?_ | refine sB ?_ | refine sC ?_ | refine sD ?_ | refine sE rfl ?_ | refine sF rfl ?_ | refine sG rfl ?_ | (refine sk_reg fun K hK => ?_; simp [hlt, ha]; refine hK _ ?_; clear hK K))
      refine sk_ret ?_; simp

def B108 : SC := .seq (.reg [⟨some 4, .assign (.const (.int .i64 0)), none, []⟩]) (.seq (.seq (.reg [⟨some 5, .assign (.const (.int .i64 0)), none, []⟩]) (.block 0 (.loop (.seq (.seq (.reg [⟨some 6, .move (.tmp 5), none, []⟩, ⟨some 7, .move (.tmp 0), none, []⟩, ⟨some 8, .call { callee := (.builtin .len), args := #[(.tmp 7)], argTypes := #[62] }, none, []⟩, ⟨some 9, .binOp .lss 3 (.tmp 6) (.tmp 8) 3, none, []⟩]) (.cond (.tmp 9) .skip (.exit 0))) (.seq (.block 1 (.seq (.seq (.reg [⟨some 12, .move (.tmp 0), none, []⟩, ⟨some 13, .move (.tmp 5), none, []⟩, ⟨some 14, .indexAddr 62 (.tmp 12) (.tmp 13), none, []⟩, ⟨some 15, .fieldAddr 72 (.tmp 14) 0, none, []⟩, ⟨some 16, .load 3 (.tmp 15), none, []⟩, ⟨some 17, .move (.tmp 1), none, []⟩, ⟨some 18, .binOp .neq 3 (.tmp 16) (.tmp 17) 3, none, []⟩]) (.cond (.tmp 18) (.seq (.reg [⟨some 4, .assign (.const (.int .i64 (-1))), none, []⟩]) .ret) .skip)) (.seq (.reg [⟨some 19, .move (.tmp 1), none, []⟩, ⟨some 20, .binOp .add 3 (.tmp 19) (.const (.int .i64 1)) 3, none, []⟩, ⟨some 1, .assign (.tmp 20), none, []⟩]) (.seq (.seq (.reg [⟨some 21, .move (.tmp 0), none, []⟩, ⟨some 22, .move (.tmp 5), none, []⟩, ⟨some 23, .indexAddr 62 (.tmp 21) (.tmp 22), none, []⟩, ⟨some 24, .fieldAddr 72 (.tmp 23) 1, none, []⟩, ⟨some 25, .load 3 (.tmp 24), none, []⟩, ⟨some 26, .move (.tmp 1), none, []⟩, ⟨some 27, .binOp .neq 3 (.tmp 25) (.tmp 26) 3, none, []⟩]) (.cond (.tmp 27) (.seq (.reg [⟨some 4, .assign (.const (.int .i64 (-1))), none, []⟩]) .ret) .skip)) (.seq (.reg [⟨some 28, .move (.tmp 1), none, []⟩, ⟨some 29, .binOp .add 3 (.tmp 28) (.const (.int .i64 1)) 3, none, []⟩, ⟨some 1, .assign (.tmp 29), none, []⟩]) (.seq (.seq (.reg [⟨some 30, .move (.tmp 0), none, []⟩, ⟨some 31, .move (.tmp 5), none, []⟩, ⟨some 32, .indexAddr 62 (.tmp 30) (.tmp 31), none, []⟩, ⟨some 33, .fieldAddr 72 (.tmp 32) 2, none, []⟩, ⟨some 34, .load 3 (.tmp 33), none, []⟩, ⟨some 35, .move (.tmp 1), none, []⟩, ⟨some 36, .binOp .neq 3 (.tmp 34) (.tmp 35) 3, none, []⟩]) (.cond (.tmp 36) (.seq (.reg [⟨some 4, .assign (.const (.int .i64 (-1))), none, []⟩]) .ret) .skip)) (.seq (.reg [⟨some 37, .move (.tmp 1), none, []⟩, ⟨some 38, .binOp .add 3 (.tmp 37) (.const (.int .i64 1)) 3, none, []⟩, ⟨some 1, .assign (.tmp 38), none, []⟩]) (.seq (.seq (.reg [⟨some 39, .move (.tmp 0), none, []⟩, ⟨some 40, .move (.tmp 5), none, []⟩, ⟨some 41, .indexAddr 62 (.tmp 39) (.tmp 40), none, []⟩, ⟨some 42, .fieldAddr 72 (.tmp 41) 3, none, []⟩, ⟨some 43, .load 3 (.tmp 42), none, []⟩, ⟨some 44, .move (.tmp 1), none, []⟩, ⟨some 45, .binOp .neq 3 (.tmp 43) (.tmp 44) 3, none, []⟩]) (.cond (.tmp 45) (.seq (.reg [⟨some 4, .assign (.const (.int .i64 (-1))), none, []⟩]) .ret) .skip)) (.reg [⟨some 46, .move (.tmp 1), none, []⟩, ⟨some 47, .binOp .add 3 (.tmp 46) (.const (.int .i64 1)) 3, none, []⟩, ⟨some 1, .assign (.tmp 47), none, []⟩]))))))))) (.reg [⟨some 10, .move (.tmp 5), none, []⟩, ⟨some 11, .binOp .add 3 (.tmp 10) (.const (.int .i64 1)) 3, none, []⟩, ⟨some 5, .assign (.tmp 11), none, []⟩])))))) (.seq (.reg [⟨some 48, .move (.tmp 1), none, []⟩, ⟨some 4, .assign (.tmp 48), none, []⟩]) .ret))
theorem s108 : Try.f108.body.bind (stripC 49) = some B108 := by kernel_rfl
theorem heldBodyS_ac {H : Heap} {E : List Nat} {v : Value} {xs : List Bd} {k : Int} (h : RS 4 RBd H E v (mkL mkBd cnBd xs k)) (hk : 0 ≤ k) (hb : k + cnL cnBd xs ≤ 4611686018427387904) :
    AC Try.prog 108 [v, iv k] H (iv (k + cnL cnBd xs)) H [] := by
  obtain ⟨a1, c1, ha⟩ := h.form
  have hn := h.1
  rw [mkL_len] at ha hn
  refine AC.of_pureS (N := 49) Try.func108 s108 (by kernel_rfl) rfl rfl (by simp) rfl ?_; unfold B108
  rw [ha]
  repeat (first | refine sA ?_ | refine sB ?_ | refine sC ?_ | refine sD ?_ | refine sE rfl ?_ | refine sF rfl ?_ | refine sG rfl ?_ | (refine sk_reg fun K hK => ?_; simp; refine hK _ ?_; clear hK K))
  rw [← ha]
  refine sk_loop (fun m ts H' => ∃ (i : Nat) (J : Heap), i ≤ xs.length ∧ m = xs.length - i ∧ H' = H ++ J ∧ ts = [(0, v), (1, iv (k + cnL cnBd (xs.take i))), (5, iv i)]) xs.length _ ?_ ⟨0, [], by omega, rfl, by simp, rfl⟩ ?_
  · simp [subL, getT, ha, cnL]
  · rintro m ts H1 ⟨i, J, hi, rfl, rfl, rfl⟩
    by_cases hlt : i < xs.length
    · have hle := cnL_le (c := cnBd) (xs := xs) cnBd_nn (i + 1)
      have hle0 := cnL_nn (c := cnBd) cnBd_nn (xs.take i)
      rw [cnL_succ hlt] at hle
      obtain ⟨id, o, Ek, cs, hv, hid, _, _, hR, hsz, hc⟩ := h.at (k := i) (by rw [mkL_len]; exact hlt)
      rw [mkL_len] at hv
      rw [mkL_get hlt] at hR
      generalize hK : k + cnL cnBd (xs.take i) = K at hR ⊢
      obtain ⟨_, rfl⟩ := hR
      have c0 := hc 0 _ rfl
      have c1 := hc 1 _ rfl
      have c2 := hc 2 _ rfl
      have c3 := hc 3 _ rfl
      simp only [Nat.mul_one, Nat.add_zero, mkBd] at c0 c1 c2 c3
      have hw := wrap_id (x := (i : Int) + 1) (by omega) (by omega)
      simp only [cnBd] at hle
      have hw1 := wrap_id (x := K + 1) (by omega) (by omega)
      have hw2 := wrap_id (x := K + 1 + 1) (by omega) (by omega)
      have hw3 := wrap_id (x := K + 1 + 1 + 1) (by omega) (by omega)
      have hw4 := wrap_id (x := K + 1 + 1 + 1 + 1) (by omega) (by omega)
      repeat (first | refine sA ?_ | refine sB ?_ | refine sC ?_ | refine sD ?_ | refine sE rfl ?_ | refine sF rfl ?_ | refine sG rfl ?_ | (refine sk_reg fun K hK => ?_; simp [hlt, hv, c0, c1, c2, c3, hw, hw1, hw2, hw3, hw4]; refine hK _ ?_; clear hK K))
      refine sk_inv ⟨xs.length - (i + 1), _, by omega, ?_, ⟨i + 1, J, by omega, rfl, rfl, rfl⟩⟩
      rw [cnL_succ hlt, ← Int.add_assoc, hK]
      simp [subL, getT, hv, cnBd, Int.add_assoc]
    · have hk2 : i = xs.length := by omega
      subst hk2
      repeat (first | refine sA ?_ | refine sB ?_ | refine sC ?_ | refine sD ?_ | refine sE rfl ?_ | refine sF rfl ?_ | refine sG rfl ?_ | (refine sk_reg fun K hK => ?_; simp [hlt, ha]; refine hK _ ?_; clear hK K))
      refine sk_ret ?_; simp

end Go.Proofs.Ytpoedfmkiiijnaa
namespace Go.Proofs.Ytpoedfmkiiijnaa
open Go Go.RowKit Go.Proofs.YtpoedfmkiiijnaaAm
set_option linter.unusedVariables false
set_option linter.unusedSimpArgs false
set_option maxRecDepth 10000
set_option maxHeartbeats 8000000

def B86 : SC := .seq (.reg [⟨some 4, .assign (.const (.int .i64 0)), none, []⟩]) (.seq (.seq (.reg [⟨some 5, .assign (.const (.int .i64 0)), none, []⟩]) (.block 0 (.loop (.seq (.seq (.reg [⟨some 6, .move (.tmp 5), none, []⟩, ⟨some 7, .move (.tmp 0), none, []⟩, ⟨some 8, .call { callee := (.builtin .len), args := #[(.tmp 7)], argTypes := #[23] }, none, []⟩, ⟨some 9, .binOp .lss 3 (.tmp 6) (.tmp 8) 3, none, []⟩]) (.cond (.tmp 9) .skip (.exit 0))) (.seq (.block 1 (.seq (.reg [⟨some 12, .move (.tmp 0), none, []⟩, ⟨some 13, .move (.tmp 5), none, []⟩, ⟨some 14, .move (.tmp 1), none, []⟩, ⟨some 15, .indexAddr 23 (.tmp 12) (.tmp 13), none, []⟩, ⟨some 16, .fieldAddr 43 (.tmp 15) 0, none, []⟩, ⟨none, .store 3 (.tmp 16) (.tmp 14), none, []⟩]) (.seq (.reg [⟨some 17, .move (.tmp 1), none, []⟩, ⟨some 18, .binOp .add 3 (.tmp 17) (.const (.int .i64 1)) 3, none, []⟩, ⟨some 1, .assign (.tmp 18), none, []⟩]) (.seq (.reg [⟨some 19, .move (.tmp 0), none, []⟩, ⟨some 20, .move (.tmp 5), none, []⟩, ⟨some 21, .indexAddr 23 (.tmp 19) (.tmp 20), none, []⟩, ⟨some 22, .fieldAddr 43 (.tmp 21) 1, none, []⟩, ⟨some 23, .load 40 (.tmp 22), none, []⟩, ⟨some 24, .move (.tmp 1), none, []⟩, ⟨some 25, .call { callee := (.value (.func 50)), args := #[(.tmp 23), (.tmp 24)], argTypes := #[40, 3] }, none, []⟩, ⟨some 1, .assign (.tmp 25), none, []⟩]) (.seq (.reg [⟨some 26, .move (.tmp 0), none, []⟩, ⟨some 27, .move (.tmp 5), none, []⟩, ⟨some 28, .indexAddr 23 (.tmp 26) (.tmp 27), none, []⟩, ⟨some 29, .fieldAddr 43 (.tmp 28) 2, none, []⟩, ⟨some 30, .load 41 (.tmp 29), none, []⟩, ⟨some 31, .move (.tmp 1), none, []⟩, ⟨some 32, .call { callee := (.value (.func 122)), args := #[(.tmp 30), (.tmp 31)], argTypes := #[41, 3] }, none, []⟩, ⟨some 1, .assign (.tmp 32), none, []⟩]) (.seq (.reg [⟨some 33, .move (.tmp 0), none, []⟩, ⟨some 34, .move (.tmp 5), none, []⟩, ⟨some 35, .move (.tmp 1), none, []⟩, ⟨some 36, .indexAddr 23 (.tmp 33) (.tmp 34), none, []⟩, ⟨some 37, .fieldAddr 43 (.tmp 36) 3, none, []⟩, ⟨none, .store 3 (.tmp 37) (.tmp 35), none, []⟩]) (.reg [⟨some 38, .move (.tmp 1), none, []⟩, ⟨some 39, .binOp .add 3 (.tmp 38) (.const (.int .i64 1)) 3, none, []⟩, ⟨some 1, .assign (.tmp 39), none, []⟩]))))))) (.reg [⟨some 10, .move (.tmp 5), none, []⟩, ⟨some 11, .binOp .add 3 (.tmp 10) (.const (.int .i64 1)) 3, none, []⟩, ⟨some 5, .assign (.tmp 11), none, []⟩])))))) (.seq (.reg [⟨some 40, .move (.tmp 1), none, []⟩, ⟨some 4, .assign (.tmp 40), none, []⟩]) .ret))
theorem s86 : Try.f86.body.bind (stripC 41) = some B86 := by kernel_rfl
theorem markLineS_ac {H : Heap} {E : List Nat} {v : Value} {xs : List Ln} {k : Int} (h : RS 4 RLn H E v xs) (ho : Own H E) (hk : 0 ≤ k) (hb : k + cnL cnLn xs ≤ 4611686018427387904) :
    ∃ H', AC Try.prog 86 [v, iv k] H (iv (k + cnL cnLn xs)) H' E ∧ MK E H H' ∧ RS 4 RLn H' E v (mkL mkLn cnLn xs k) := by
  obtain ⟨a1, c1, ha⟩ := h.form
  have hn := h.1
  refine AC.of_markS (N := 41) Try.func86 s86 (by kernel_rfl) rfl rfl (by simp) rfl ?_; unfold B86
  rw [ha]
  repeat (first | refine sA ?_ | refine sB ?_ | refine sC ?_ | refine sD ?_ | refine sE rfl ?_ | refine sF rfl ?_ | refine sG rfl ?_ | (refine sk_reg fun K hK => ?_; simp; refine hK _ ?_; clear hK K))
  rw [← ha]
  refine sk_loop (fun m ts H' => ∃ (i : Nat), i ≤ xs.length ∧ m = xs.length - i ∧ MK E H H' ∧ RS 4 RLn H' E v (mkAt mkLn cnLn xs i k) ∧ ts = [(0, v), (1, iv (k + cnL cnLn (xs.take i))), (5, iv i)]) xs.length _ ?_ ⟨0, by omega, rfl, MK.refl _ _, by rw [mkAt_zero]; exact h, rfl⟩ ?_
  · simp [subL, getT, ha, cnL]
  · rintro m ts H1 ⟨i, hi, rfl, hmk, hr, rfl⟩
    by_cases hlt : i < xs.length
    · have hle := cnL_le (c := cnLn) (xs := xs) cnLn_nn (i + 1)
      have hle0 := cnL_nn (c := cnLn) cnLn_nn (xs.take i)
      rw [cnL_succ hlt] at hle
      have hset := mkAt_set (f := mkLn) (c := cnLn) (k := k) hlt
      have hown := ho.mk hmk
      obtain ⟨id, o, Ek, ck, hv, hid, hne, hsub, hndk, hR, hsz, hc, hcl⟩ := hr.opn RLn.frm ho.1 (k := i) (by rw [mkAt_len]; exact hlt)
      rw [mkAt_get hlt] at hR
      rw [mkAt_len] at hv
      generalize hK : k + cnL cnLn (xs.take i) = K at hset ⊢
      generalize hl : xs[i] = l at hset hR hle
      obtain ⟨E1, E2, v1, v2, rfl, rfl, hw1, hw2⟩ := hR
      have hownk : Own H1 (E1 ++ E2) := ⟨hndk, fun e he => hown.2 e (hsub e he)⟩
      have hap := hownk.apart
      have hne1 : id ∉ E1 := fun he => hne (by simp [he])
      have hne2 : id ∉ E2 := fun he => hne (by simp [he])
      have g1 : ∀ e, e ∈ E1 → e ≠ id := fun e he hh => hne1 (by rw [← hh]; exact he)
      have g2 : ∀ e, e ∈ E2 → e ≠ id := fun e he hh => hne2 (by rw [← hh]; exact he)
      have c0 := hc 0 _ rfl
      have c1 := hc 1 _ rfl
      have c2 := hc 2 _ rfl
      have c3 := hc 3 _ rfl
      simp only [Nat.add_zero] at c0
      have hrw := hown.2 id hid
      have hw := wrap_id (x := (i : Int) + 1) (by omega) (by omega)
      have q1 := cnL_nn cnInt_nn l.way
      have q2 := cnL_nn cnGr_nn l.grs
      simp only [cnLn] at hle
      have hx1 := wrap_id (x := K + 1) (by omega) (by omega)
      have hx2 := wrap_id (x := K + 1 + cnL cnInt l.way + cnL cnGr l.grs + 1) (by omega) (by omega)
      have m1 : MK [id] H1 (H1.put id (o + i * 4) (iv K)) := MK.put _ _ (by simp) rfl
      have n1 : ∀ e, e ∈ E1 ++ E2 → e ∉ [id] := fun e he hh => hne (by simp at hh; rw [← hh]; exact he)
      have w1 : RS 1 RInt (H1.put id (o + i * 4) (iv K)) E1 v1 l.way := hw1.fr (RP.frm _) fun e he _ => m1.out e (n1 e (by simp [he]))
      have w2 : RS 2 RGr (H1.put id (o + i * 4) (iv K)) E2 v2 l.grs := hw2.fr (RP.frm _) fun e he _ => m1.out e (n1 e (by simp [he]))
      obtain ⟨H3, ac3, m3, r3⟩ := markIntS_ac (k := K + 1) w1 (hownk.left.mk m1) (by omega) (by omega)
      obtain ⟨H4, ac4, m4, r4⟩ := markGrantS_ac (k := K + 1 + cnL cnInt l.way) (w2.fr (RP.frm _) fun e he _ => m3.out e fun hh => hap e hh he) ((hownk.right.mk m1).mk m3) (by omega) (by omega)
      have d3 := fun j => m3.cellEq hne1 j
      have d4 := fun j => m4.cellEq hne2 j
      have rw3 : Heap.rwOk H3 id = true := by rw [m3.rw, m1.rw]; exact hrw
      have rw4 : Heap.rwOk H4 id = true := by rw [m4.rw]; exact rw3
      have hD : ∀ d, (d ∈ E1 ∨ d ∈ E2) → d ∈ E := fun d hd => hsub d (by simpa using hd)
      have hD1 : wrL H.length E E1 := fun d hd => .inr (hD d (.inl hd))
      have hD2 : wrL H.length E E2 := fun d hd => .inr (hD d (.inr hd))
      repeat (first | refine sA ?_ | refine sB ?_ | refine sC ?_ | refine sD ?_ | refine sE rfl ?_ | refine sF rfl ?_ | refine sG rfl ?_ | (refine sk_reg fun K hK => ?_; simp [hlt, hv, hid, hrw, c0, c1, c2, c3, hw, hx1, hx2, d3, d4, rw3, rw4, hD1, hD2]; (repeat ((first | refine AskX.go (ac3) ?_ | refine AskX.go (ac4) ?_); simp [hlt, hv, hid, hrw, c0, c1, c2, c3, hw, hx1, hx2, d3, d4, rw3, rw4, hD1, hD2])); refine hK _ ?_; clear hK K))
      refine sk_inv ⟨xs.length - (i + 1), _, by omega, ?_, ⟨i + 1, by omega, rfl, ?_, ?_, rfl⟩⟩
      · rw [cnL_succ hlt, ← Int.add_assoc, hK, hl]
        simp [subL, getT, hv, cnLn]; omega
      · exact (((hmk.trans (m1.sub (by simpa using hid))).trans (m3.sub fun e he => hD e (.inl he))).trans (m4.sub fun e he => hD e (.inr he))).trans (MK.put _ _ hid rfl)
      · rw [← hset]
        refine hcl _ (mkLn l K) [iv K, v1, v2, iv (K + 1 + cnL cnInt l.way + cnL cnGr l.grs)] rfl ⟨E1, E2, v1, v2, rfl, rfl, ?_, ?_⟩ ?_ ?_
        · refine r3.fr (RP.frm _) fun e he _ => ?_
          dsimp only
          rw [get_put_ne _ _ _ (g1 e he), m4.out e (hap e he)]
        · refine r4.fr (RP.frm _) fun e he _ => ?_
          dsimp only
          rw [get_put_ne _ _ _ (g2 e he)]
        · intro e he hn1 hn2
          dsimp only
          rw [get_put_ne _ _ _ hn1, m4.out e fun hh => hn2 (by simp [hh]), m3.out e fun hh => hn2 (by simp [hh]), get_put_ne _ _ _ hn1]
        · intro a z b hb' hbc ha'
          dsimp only
          rw [get_put, m4.out id hne2, m3.out id hne1, get_put, hb']
          simp only [Option.map_some, hbc, ← ha']
          simp
    · have hk2 : i = xs.length := by omega
      subst hk2
      rw [mkAt_all] at hr
      repeat (first | refine sA ?_ | refine sB ?_ | refine sC ?_ | refine sD ?_ | refine sE rfl ?_ | refine sF rfl ?_ | refine sG rfl ?_ | (refine sk_reg fun K hK => ?_; simp [hlt, ha]; refine hK _ ?_; clear hK K))
      refine sk_ret ?_; simp
      exact ⟨H1, ⟨[], by simp⟩, hmk, hr⟩

def B87 : SC := .seq (.reg [⟨some 4, .assign (.const (.int .i64 0)), none, []⟩]) (.seq (.seq (.reg [⟨some 5, .assign (.const (.int .i64 0)), none, []⟩]) (.block 0 (.loop (.seq (.seq (.reg [⟨some 6, .move (.tmp 5), none, []⟩, ⟨some 7, .move (.tmp 0), none, []⟩, ⟨some 8, .call { callee := (.builtin .len), args := #[(.tmp 7)], argTypes := #[23] }, none, []⟩, ⟨some 9, .binOp .lss 3 (.tmp 6) (.tmp 8) 3, none, []⟩]) (.cond (.tmp 9) .skip (.exit 0))) (.seq (.block 1 (.seq (.seq (.reg [⟨some 12, .move (.tmp 0), none, []⟩, ⟨some 13, .move (.tmp 5), none, []⟩, ⟨some 14, .indexAddr 23 (.tmp 12) (.tmp 13), none, []⟩, ⟨some 15, .fieldAddr 43 (.tmp 14) 0, none, []⟩, ⟨some 16, .load 3 (.tmp 15), none, []⟩, ⟨some 17, .move (.tmp 1), none, []⟩, ⟨some 18, .binOp .neq 3 (.tmp 16) (.tmp 17) 3, none, []⟩]) (.cond (.tmp 18) (.seq (.reg [⟨some 4, .assign (.const (.int .i64 (-1))), none, []⟩]) .ret) .skip)) (.seq (.reg [⟨some 19, .move (.tmp 1), none, []⟩, ⟨some 20, .binOp .add 3 (.tmp 19) (.const (.int .i64 1)) 3, none, []⟩, ⟨some 1, .assign (.tmp 20), none, []⟩]) (.seq (.reg [⟨some 21, .move (.tmp 0), none, []⟩, ⟨some 22, .move (.tmp 5), none, []⟩, ⟨some 23, .indexAddr 23 (.tmp 21) (.tmp 22), none, []⟩, ⟨some 24, .fieldAddr 43 (.tmp 23) 1, none, []⟩, ⟨some 25, .load 40 (.tmp 24), none, []⟩, ⟨some 26, .move (.tmp 1), none, []⟩, ⟨some 27, .call { callee := (.value (.func 56)), args := #[(.tmp 25), (.tmp 26)], argTypes := #[40, 3] }, none, []⟩, ⟨some 1, .assign (.tmp 27), none, []⟩]) (.seq (.seq (.reg [⟨some 28, .move (.tmp 1), none, []⟩, ⟨some 29, .binOp .lss 3 (.tmp 28) (.const (.int .i64 0)) 3, none, []⟩]) (.cond (.tmp 29) (.seq (.reg [⟨some 4, .assign (.const (.int .i64 (-1))), none, []⟩]) .ret) .skip)) (.seq (.reg [⟨some 30, .move (.tmp 0), none, []⟩, ⟨some 31, .move (.tmp 5), none, []⟩, ⟨some 32, .indexAddr 23 (.tmp 30) (.tmp 31), none, []⟩, ⟨some 33, .fieldAddr 43 (.tmp 32) 2, none, []⟩, ⟨some 34, .load 41 (.tmp 33), none, []⟩, ⟨some 35, .move (.tmp 1), none, []⟩, ⟨some 36, .call { callee := (.value (.func 123)), args := #[(.tmp 34), (.tmp 35)], argTypes := #[41, 3] }, none, []⟩, ⟨some 1, .assign (.tmp 36), none, []⟩]) (.seq (.seq (.reg [⟨some 37, .move (.tmp 1), none, []⟩, ⟨some 38, .binOp .lss 3 (.tmp 37) (.const (.int .i64 0)) 3, none, []⟩]) (.cond (.tmp 38) (.seq (.reg [⟨some 4, .assign (.const (.int .i64 (-1))), none, []⟩]) .ret) .skip)) (.seq (.seq (.reg [⟨some 39, .move (.tmp 0), none, []⟩, ⟨some 40, .move (.tmp 5), none, []⟩, ⟨some 41, .indexAddr 23 (.tmp 39) (.tmp 40), none, []⟩, ⟨some 42, .fieldAddr 43 (.tmp 41) 3, none, []⟩, ⟨some 43, .load 3 (.tmp 42), none, []⟩, ⟨some 44, .move (.tmp 1), none, []⟩, ⟨some 45, .binOp .neq 3 (.tmp 43) (.tmp 44) 3, none, []⟩]) (.cond (.tmp 45) (.seq (.reg [⟨some 4, .assign (.const (.int .i64 (-1))), none, []⟩]) .ret) .skip)) (.reg [⟨some 46, .move (.tmp 1), none, []⟩, ⟨some 47, .binOp .add 3 (.tmp 46) (.const (.int .i64 1)) 3, none, []⟩, ⟨some 1, .assign (.tmp 47), none, []⟩]))))))))) (.reg [⟨some 10, .move (.tmp 5), none, []⟩, ⟨some 11, .binOp .add 3 (.tmp 10) (.const (.int .i64 1)) 3, none, []⟩, ⟨some 5, .assign (.tmp 11), none, []⟩])))))) (.seq (.reg [⟨some 48, .move (.tmp 1), none, []⟩, ⟨some 4, .assign (.tmp 48), none, []⟩]) .ret))
theorem s87 : Try.f87.body.bind (stripC 49) = some B87 := by kernel_rfl
theorem heldLineS_ac {H : Heap} {E : List Nat} {v : Value} {xs : List Ln} {k : Int} (h : RS 4 RLn H E v (mkL mkLn cnLn xs k)) (hk : 0 ≤ k) (hb : k + cnL cnLn xs ≤ 4611686018427387904) :
    AC Try.prog 87 [v, iv k] H (iv (k + cnL cnLn xs)) H [] := by
  obtain ⟨a1, c1, ha⟩ := h.form
  have hn := h.1
  rw [mkL_len] at ha hn
  refine AC.of_pureS (N := 49) Try.func87 s87 (by kernel_rfl) rfl rfl (by simp) rfl ?_; unfold B87
  rw [ha]
  repeat (first | refine sA ?_ | refine sB ?_ | refine sC ?_ | refine sD ?_ | refine sE rfl ?_ | refine sF rfl ?_ | refine sG rfl ?_ | (refine sk_reg fun K hK => ?_; simp; refine hK _ ?_; clear hK K))
  rw [← ha]
  refine sk_loop (fun m ts H' => ∃ (i : Nat) (J : Heap), i ≤ xs.length ∧ m = xs.length - i ∧ H' = H ++ J ∧ ts = [(0, v), (1, iv (k + cnL cnLn (xs.take i))), (5, iv i)]) xs.length _ ?_ ⟨0, [], by omega, rfl, by simp, rfl⟩ ?_
  · simp [subL, getT, ha, cnL]
  · rintro m ts H1 ⟨i, J, hi, rfl, rfl, rfl⟩
    by_cases hlt : i < xs.length
    · have hle := cnL_le (c := cnLn) (xs := xs) cnLn_nn (i + 1)
      have hle0 := cnL_nn (c := cnLn) cnLn_nn (xs.take i)
      rw [cnL_succ hlt] at hle
      obtain ⟨id, o, Ek, cs, hv, hid, _, _, hR, hsz, hc⟩ := h.at (k := i) (by rw [mkL_len]; exact hlt)
      rw [mkL_len] at hv
      rw [mkL_get hlt] at hR
      generalize hK : k + cnL cnLn (xs.take i) = K at hR ⊢
      generalize hl : xs[i] = l at hR hle
      obtain ⟨E1, E2, v1, v2, rfl, rfl, hw1, hw2⟩ := hR
      have c0 := hc 0 _ rfl
      have c1 := hc 1 _ rfl
      have c2 := hc 2 _ rfl
      have c3 := hc 3 _ rfl
      simp only [Nat.add_zero, mkLn] at c0 c1 c2 c3 hw1 hw2
      have hw := wrap_id (x := (i : Int) + 1) (by omega) (by omega)
      have q1 := cnL_nn cnInt_nn l.way
      have q2 := cnL_nn cnGr_nn l.grs
      simp only [cnLn] at hle
      have hx1 := wrap_id (x := K + 1) (by omega) (by omega)
      have hx2 := wrap_id (x := K + 1 + cnL cnInt l.way + cnL cnGr l.grs + 1) (by omega) (by omega)
      have p1 : ¬ (K + 1 + cnL cnInt l.way < 0) := by omega
      have p2 : ¬ (K + 1 + cnL cnInt l.way + cnL cnGr l.grs < 0) := by omega
      repeat (first | refine sA ?_ | refine sB ?_ | refine sC ?_ | refine sD ?_ | refine sE rfl ?_ | refine sF rfl ?_ | refine sG rfl ?_ | (refine sk_reg fun K hK => ?_; simp [hlt, hv, c0, c1, c2, c3, hw, hx1, hx2, p1, p2]; (repeat ((first | refine AskX.go (heldIntS_ac (hw1.ext (RP.frm _)) (by omega) (by omega)) ?_ | refine AskX.go (heldGrantS_ac (hw2.ext (RP.frm _)) (by omega) (by omega)) ?_); simp [hlt, hv, c0, c1, c2, c3, hw, hx1, hx2, p1, p2])); refine hK _ ?_; clear hK K))
      refine sk_inv ⟨xs.length - (i + 1), _, by omega, ?_, ⟨i + 1, J, by omega, rfl, rfl, rfl⟩⟩
      rw [cnL_succ hlt, ← Int.add_assoc, hK, hl]
      simp [subL, getT, hv, cnLn]; omega
    · have hk2 : i = xs.length := by omega
      subst hk2
      repeat (first | refine sA ?_ | refine sB ?_ | refine sC ?_ | refine sD ?_ | refine sE rfl ?_ | refine sF rfl ?_ | refine sG rfl ?_ | (refine sk_reg fun K hK => ?_; simp [hlt, ha]; refine hK _ ?_; clear hK K))
      refine sk_ret ?_; simp

def B23 : SC := .seq (.reg [⟨some 2, .box 25 (.tmp 0), none, []⟩, ⟨some 4, .assign (.const (.int .i64 0)), none, []⟩]) (.seq (.reg [⟨some 5, .fieldAddr 25 (.tmp 2) 2, none, []⟩, ⟨some 6, .load 23 (.tmp 5), none, []⟩, ⟨some 7, .move (.tmp 1), none, []⟩, ⟨some 8, .call { callee := (.value (.func 86)), args := #[(.tmp 6), (.tmp 7)], argTypes := #[23, 3] }, none, []⟩, ⟨some 1, .assign (.tmp 8), none, []⟩]) (.seq (.reg [⟨some 9, .move (.tmp 1), none, []⟩, ⟨some 4, .assign (.tmp 9), none, []⟩]) .ret))
theorem s23 : Try.f23.body.bind (stripC 10) = some B23 := by kernel_rfl
theorem markBook_ac {H : Heap} {E : List Nat} {cs : List Value} {b : Bk} {k : Int} (h : RBk H E b cs) (ho : Own H E) (hk : 0 ≤ k) (hb : k + cnBk b ≤ 4611686018427387904) :
    ∃ H', AC Try.prog 23 [.agg cs.toArray, iv k] H (iv (k + cnBk b)) H' E ∧ MK E H H' ∧ RBk H' E (mkBk b k) cs := by
  obtain ⟨v, rfl, hv⟩ := h
  have hbd := hv.bd RLn.frm
  refine AC.of_markS (N := 10) Try.func23 s23 (by kernel_rfl) rfl rfl (by simp) rfl ?_; unfold B23
  obtain ⟨H2, ac, mk, r⟩ := markLineS_ac (k := k) (hv.ext (L := [⟨25, [.bool b.ok, iv b.sec, v], true, true⟩]) RLn.frm) (ho.ext hbd) hk hb
  obtain ⟨H', rfl, mk'⟩ := mk.cut hbd
  have hD : wrL H.length E E := fun d hd => .inr hd
  repeat (first | refine sA ?_ | refine sB ?_ | refine sC ?_ | refine sD ?_ | refine sE rfl ?_ | refine sF rfl ?_ | refine sG rfl ?_ | (refine sk_reg fun K hK => ?_; simp [hD]; (repeat ((first | refine AskX.go (ac) ?_); simp [hD])); refine hK _ ?_; clear hK K))
  refine sk_ret ?_; simp
  exact ⟨rfl, H', ⟨_, rfl⟩, mk', v, rfl, r.cut RLn.frm (by rw [mk'.len]; exact hbd)⟩

def B24 : SC := .seq (.reg [⟨some 2, .box 25 (.tmp 0), none, []⟩, ⟨some 4, .assign (.const (.int .i64 0)), none, []⟩]) (.seq (.reg [⟨some 5, .fieldAddr 25 (.tmp 2) 2, none, []⟩, ⟨some 6, .load 23 (.tmp 5), none, []⟩, ⟨some 7, .move (.tmp 1), none, []⟩, ⟨some 8, .call { callee := (.value (.func 87)), args := #[(.tmp 6), (.tmp 7)], argTypes := #[23, 3] }, none, []⟩, ⟨some 1, .assign (.tmp 8), none, []⟩]) (.seq (.seq (.reg [⟨some 9, .move (.tmp 1), none, []⟩, ⟨some 10, .binOp .lss 3 (.tmp 9) (.const (.int .i64 0)) 3, none, []⟩]) (.cond (.tmp 10) (.seq (.reg [⟨some 4, .assign (.const (.int .i64 (-1))), none, []⟩]) .ret) .skip)) (.seq (.reg [⟨some 11, .move (.tmp 1), none, []⟩, ⟨some 4, .assign (.tmp 11), none, []⟩]) .ret)))
theorem s24 : Try.f24.body.bind (stripC 12) = some B24 := by kernel_rfl
theorem heldBook_ac {H : Heap} {E : List Nat} {cs : List Value} {b : Bk} {k : Int} (h : RBk H E (mkBk b k) cs) (hk : 0 ≤ k) (hb : k + cnBk b ≤ 4611686018427387904) :
    AC Try.prog 24 [.agg cs.toArray, iv k] H (iv (k + cnBk b)) H [] := by
  obtain ⟨v, rfl, hv⟩ := h
  have q := cnL_nn cnLn_nn b.lines
  have p1 : ¬ (k + cnL cnLn b.lines < 0) := by omega
  refine AC.of_pureS (N := 12) Try.func24 s24 (by kernel_rfl) rfl rfl (by simp) rfl ?_; unfold B24
  repeat (first | refine sA ?_ | refine sB ?_ | refine sC ?_ | refine sD ?_ | refine sE rfl ?_ | refine sF rfl ?_ | refine sG rfl ?_ | (refine sk_reg fun K hK => ?_; simp [p1]; (repeat ((first | refine AskX.go (heldLineS_ac (hv.ext RLn.frm) hk hb) ?_); simp [p1])); refine hK _ ?_; clear hK K))
  refine sk_ret ?_; simp [cnBk]

end Go.Proofs.Ytpoedfmkiiijnaa
