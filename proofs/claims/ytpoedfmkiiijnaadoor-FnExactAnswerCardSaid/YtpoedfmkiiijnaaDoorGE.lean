/- Texts of this repo, one behind the other (EqF). Plain lemmas and walks. -/
import Derived.Test.YtpoedfmkiiijnaaDoorGD
import Derived.Test.YtpoedfmkiiijnaaDoorGC
namespace Go.Proofs.YtpoedfmkiiijnaaDoor
open Go Go.RowKit Go.Proofs.YtpoedfmkiiijnaaDoorAm
set_option linter.unusedVariables false
set_option linter.unusedSimpArgs false
set_option maxRecDepth 10000
set_option maxHeartbeats 8000000

def B40 : SC := .seq (.reg [⟨some 2, .box 57 (.tmp 0), none, []⟩, ⟨some 3, .box 57 (.tmp 1), none, []⟩, ⟨some 4, .assign (.const (.bool false)), none, []⟩]) (.seq (.seq (.reg [⟨some 5, .fieldAddr 57 (.tmp 2) 0, none, []⟩, ⟨some 6, .load 3 (.tmp 5), none, []⟩, ⟨some 7, .fieldAddr 57 (.tmp 3) 0, none, []⟩, ⟨some 8, .load 3 (.tmp 7), none, []⟩, ⟨some 9, .binOp .neq 3 (.tmp 6) (.tmp 8) 3, none, []⟩]) (.cond (.tmp 9) (.seq (.reg [⟨some 4, .assign (.const (.bool false)), none, []⟩]) .ret) .skip)) (.seq (.seq (.reg [⟨some 10, .fieldAddr 57 (.tmp 2) 1, none, []⟩, ⟨some 11, .load 3 (.tmp 10), none, []⟩, ⟨some 12, .fieldAddr 57 (.tmp 3) 1, none, []⟩, ⟨some 13, .load 3 (.tmp 12), none, []⟩, ⟨some 14, .binOp .neq 3 (.tmp 11) (.tmp 13) 3, none, []⟩]) (.cond (.tmp 14) (.seq (.reg [⟨some 4, .assign (.const (.bool false)), none, []⟩]) .ret) .skip)) (.seq (.seq (.reg [⟨some 15, .fieldAddr 57 (.tmp 2) 2, none, []⟩, ⟨some 16, .load 3 (.tmp 15), none, []⟩, ⟨some 17, .fieldAddr 57 (.tmp 3) 2, none, []⟩, ⟨some 18, .load 3 (.tmp 17), none, []⟩, ⟨some 19, .binOp .neq 3 (.tmp 16) (.tmp 18) 3, none, []⟩]) (.cond (.tmp 19) (.seq (.reg [⟨some 4, .assign (.const (.bool false)), none, []⟩]) .ret) .skip)) (.seq (.reg [⟨some 4, .assign (.const (.bool true)), none, []⟩]) .ret))))
theorem s40 : Tryd.f40.body.bind (stripC 20) = some B40 := by kernel_rfl
theorem eqEvent_ac {H : Heap} (g : Evt) : AC Tryd.prog 40 [.agg #[iv g.op, iv g.train, iv g.n], .agg #[iv g.op, iv g.train, iv g.n]] H (.bool true) H [] := by
  refine AC.of_pureS (N := 20) Tryd.func40 s40 (by kernel_rfl) rfl rfl (by simp) rfl ?_; unfold B40
  repeat (first | refine sA ?_ | refine sB ?_ | refine sC ?_ | refine sD ?_ | refine sE rfl ?_ | refine sF rfl ?_ | refine sG rfl ?_ | (refine sk_reg fun K hK => ?_; simp; refine hK _ ?_; clear hK K))
  refine sk_ret ?_; simp

def B26 : SC := .seq (.reg [⟨some 2, .box 59 (.tmp 0), none, []⟩, ⟨some 3, .box 59 (.tmp 1), none, []⟩, ⟨some 4, .assign (.const (.bool false)), none, []⟩]) (.seq (.seq (.reg [⟨some 5, .fieldAddr 59 (.tmp 2) 0, none, []⟩, ⟨some 6, .load 3 (.tmp 5), none, []⟩, ⟨some 7, .fieldAddr 59 (.tmp 3) 0, none, []⟩, ⟨some 8, .load 3 (.tmp 7), none, []⟩, ⟨some 9, .binOp .neq 3 (.tmp 6) (.tmp 8) 3, none, []⟩]) (.cond (.tmp 9) (.seq (.reg [⟨some 4, .assign (.const (.bool false)), none, []⟩]) .ret) .skip)) (.seq (.seq (.reg [⟨some 10, .fieldAddr 59 (.tmp 2) 1, none, []⟩, ⟨some 11, .load 57 (.tmp 10), none, []⟩, ⟨some 12, .fieldAddr 59 (.tmp 3) 1, none, []⟩, ⟨some 13, .load 57 (.tmp 12), none, []⟩, ⟨some 14, .call { callee := (.value (.func 40)), args := #[(.tmp 11), (.tmp 13)], argTypes := #[57, 57] }, none, []⟩, ⟨some 15, .unOp .not 4 (.tmp 14), none, []⟩]) (.cond (.tmp 15) (.seq (.reg [⟨some 4, .assign (.const (.bool false)), none, []⟩]) .ret) .skip)) (.seq (.seq (.reg [⟨some 16, .fieldAddr 59 (.tmp 2) 2, none, []⟩, ⟨some 17, .load 3 (.tmp 16), none, []⟩, ⟨some 18, .fieldAddr 59 (.tmp 3) 2, none, []⟩, ⟨some 19, .load 3 (.tmp 18), none, []⟩, ⟨some 20, .binOp .neq 3 (.tmp 17) (.tmp 19) 3, none, []⟩]) (.cond (.tmp 20) (.seq (.reg [⟨some 4, .assign (.const (.bool false)), none, []⟩]) .ret) .skip)) (.seq (.seq (.reg [⟨some 21, .fieldAddr 59 (.tmp 2) 3, none, []⟩, ⟨some 22, .load 3 (.tmp 21), none, []⟩, ⟨some 23, .fieldAddr 59 (.tmp 3) 3, none, []⟩, ⟨some 24, .load 3 (.tmp 23), none, []⟩, ⟨some 25, .binOp .neq 3 (.tmp 22) (.tmp 24) 3, none, []⟩]) (.cond (.tmp 25) (.seq (.reg [⟨some 4, .assign (.const (.bool false)), none, []⟩]) .ret) .skip)) (.seq (.reg [⟨some 4, .assign (.const (.bool true)), none, []⟩]) .ret)))))
theorem s26 : Tryd.f26.body.bind (stripC 26) = some B26 := by kernel_rfl
theorem eqAct_ac {H : Heap} (g : Actn) : AC Tryd.prog 26 [.agg #[iv g.op, iv g.ev.op, iv g.ev.train, iv g.ev.n, iv g.train, iv g.n], .agg #[iv g.op, iv g.ev.op, iv g.ev.train, iv g.ev.n, iv g.train, iv g.n]] H (.bool true) H [] := by
  refine AC.of_pureS (N := 26) Tryd.func26 s26 (by kernel_rfl) rfl rfl (by simp) rfl ?_; unfold B26
  repeat (first | refine sA ?_ | refine sB ?_ | refine sC ?_ | refine sD ?_ | refine sE rfl ?_ | refine sF rfl ?_ | refine sG rfl ?_ | (refine sk_reg fun K hK => ?_; simp; (repeat ((first | refine AskX.go (eqEvent_ac g.ev) ?_); simp)); refine hK _ ?_; clear hK K))
  refine sk_ret ?_; simp

def B10 : SC := .seq (.reg [⟨some 4, .assign (.const (.bool false)), none, []⟩]) (.seq (.seq (.reg [⟨some 6, .move (.tmp 0), none, []⟩, ⟨some 7, .call { callee := (.builtin .len), args := #[(.tmp 6)], argTypes := #[22] }, none, []⟩, ⟨some 8, .move (.tmp 1), none, []⟩, ⟨some 9, .call { callee := (.builtin .len), args := #[(.tmp 8)], argTypes := #[22] }, none, []⟩, ⟨some 10, .binOp .neq 3 (.tmp 7) (.tmp 9) 3, none, []⟩]) (.cond (.tmp 10) (.seq (.reg [⟨some 4, .assign (.const (.bool false)), none, []⟩]) .ret) .skip)) (.seq (.seq (.reg [⟨some 5, .assign (.const (.int .i64 0)), none, []⟩]) (.block 0 (.loop (.seq (.seq (.reg [⟨some 11, .move (.tmp 5), none, []⟩, ⟨some 12, .move (.tmp 0), none, []⟩, ⟨some 13, .call { callee := (.builtin .len), args := #[(.tmp 12)], argTypes := #[22] }, none, []⟩, ⟨some 14, .binOp .lss 3 (.tmp 11) (.tmp 13) 3, none, []⟩]) (.cond (.tmp 14) .skip (.exit 0))) (.seq (.block 1 (.seq (.drw 0 [⟨some 17, .move (.tmp 0), none, []⟩, ⟨some 18, .move (.tmp 5), none, []⟩, ⟨some 19, .indexAddr 22 (.tmp 17) (.tmp 18), none, [0, 1]⟩, ⟨some 20, .load 3 (.tmp 19), none, [2, 0, 1]⟩, ⟨some 21, .move (.tmp 1), none, []⟩, ⟨some 22, .move (.tmp 5), none, []⟩, ⟨some 23, .indexAddr 22 (.tmp 21) (.tmp 22), none, [4, 5]⟩, ⟨some 24, .load 3 (.tmp 23), none, [6, 4, 5]⟩, ⟨some 25, .binOp .neq 3 (.tmp 20) (.tmp 24) 3, none, [3, 2, 0, 1, 7, 6, 4, 5]⟩]) (.cond (.tmp 25) (.seq (.reg [⟨some 4, .assign (.const (.bool false)), none, []⟩]) .ret) .skip))) (.reg [⟨some 15, .move (.tmp 5), none, []⟩, ⟨some 16, .binOp .add 3 (.tmp 15) (.const (.int .i64 1)) 3, none, []⟩, ⟨some 5, .assign (.tmp 16), none, []⟩])))))) (.seq (.reg [⟨some 4, .assign (.const (.bool true)), none, []⟩]) .ret)))
theorem s10 : Tryd.f10.body.bind (stripC 26) = some B10 := by kernel_rfl
theorem eqIntS_ac {H : Heap} {E1 E2 : List Nat} {a b : Value} {xs : List Int} (h1 : RS 1 RInt H E1 a xs) (h2 : RS 1 RInt H E2 b xs) : AC Tryd.prog 10 [a, b] H (.bool true) H [] := by
  obtain ⟨a1, c1, ha⟩ := h1.form
  obtain ⟨a2, c2, hb⟩ := h2.form
  have hn := h1.1
  refine AC.of_pureS (N := 26) Tryd.func10 s10 (by kernel_rfl) rfl rfl (by simp) rfl ?_; unfold B10
  rw [ha, hb]
  repeat (first | refine sA ?_ | refine sB ?_ | refine sC ?_ | refine sD ?_ | refine sE rfl ?_ | refine sF rfl ?_ | refine sG rfl ?_ | ((first | refine sk_reg fun K hK => ?_ | refine sk_drw mix fun K hK => ?_); simp; refine hK _ ?_; clear hK K))
  rw [← ha, ← hb]
  refine sk_loop (fun m ts H' => ∃ (k : Nat) (J : Heap), k ≤ xs.length ∧ m = xs.length - k ∧ H' = H ++ J ∧ ts = [(0, a), (1, b), (5, iv k)]) xs.length _ ?_ ⟨0, [], by omega, rfl, by simp, rfl⟩ ?_
  · simp [subL, getT, ha, hb]
  · rintro m ts H1 ⟨k, J, hk, rfl, rfl, rfl⟩
    by_cases hlt : k < xs.length
    · obtain ⟨id, o, Ek, cs, hv, hid, _, _, hR, hsz, hc⟩ := h1.at hlt
      obtain ⟨id2, o2, Ek2, cs2, hv2, hid2, _, _, hR2, hsz2, hc2⟩ := h2.at hlt
      obtain ⟨_, rfl⟩ := hR
      obtain ⟨_, rfl⟩ := hR2
      have c0 := hc 0 _ rfl
      have d0 := hc2 0 _ rfl
      simp only [Nat.mul_one, Nat.add_zero] at c0 d0
      have hw := wrap_id (x := (k : Int) + 1) (by omega) (by omega)
      repeat (first | refine sA ?_ | refine sB ?_ | refine sC ?_ | refine sD ?_ | refine sE rfl ?_ | refine sF rfl ?_ | refine sG rfl ?_ | ((first | refine sk_reg fun K hK => ?_ | refine sk_drw mix fun K hK => ?_); simp [hlt, hv, hv2, c0, d0, hw]; refine hK _ ?_; clear hK K))
      refine sk_inv ⟨xs.length - (k + 1), _, by omega, ?_, ⟨k + 1, J, by omega, rfl, rfl, rfl⟩⟩
      simp [subL, getT, hv, hv2]
    · have hk2 : k = xs.length := by omega
      subst hk2
      repeat (first | refine sA ?_ | refine sB ?_ | refine sC ?_ | refine sD ?_ | refine sE rfl ?_ | refine sF rfl ?_ | refine sG rfl ?_ | ((first | refine sk_reg fun K hK => ?_ | refine sk_drw mix fun K hK => ?_); simp [hlt, ha, hb]; refine hK _ ?_; clear hK K))
      refine sk_ret ?_; simp

def B11 : SC := .seq (.reg [⟨some 4, .assign (.const (.bool false)), none, []⟩]) (.seq (.seq (.reg [⟨some 6, .move (.tmp 0), none, []⟩, ⟨some 7, .call { callee := (.builtin .len), args := #[(.tmp 6)], argTypes := #[27] }, none, []⟩, ⟨some 8, .move (.tmp 1), none, []⟩, ⟨some 9, .call { callee := (.builtin .len), args := #[(.tmp 8)], argTypes := #[27] }, none, []⟩, ⟨some 10, .binOp .neq 3 (.tmp 7) (.tmp 9) 3, none, []⟩]) (.cond (.tmp 10) (.seq (.reg [⟨some 4, .assign (.const (.bool false)), none, []⟩]) .ret) .skip)) (.seq (.seq (.reg [⟨some 5, .assign (.const (.int .i64 0)), none, []⟩]) (.block 0 (.loop (.seq (.seq (.reg [⟨some 11, .move (.tmp 5), none, []⟩, ⟨some 12, .move (.tmp 0), none, []⟩, ⟨some 13, .call { callee := (.builtin .len), args := #[(.tmp 12)], argTypes := #[27] }, none, []⟩, ⟨some 14, .binOp .lss 3 (.tmp 11) (.tmp 13) 3, none, []⟩]) (.cond (.tmp 14) .skip (.exit 0))) (.seq (.block 1 (.seq (.drw 0 [⟨some 17, .move (.tmp 0), none, []⟩, ⟨some 18, .move (.tmp 5), none, []⟩, ⟨some 19, .indexAddr 27 (.tmp 17) (.tmp 18), none, [0, 1]⟩, ⟨some 20, .load 59 (.tmp 19), none, [2, 0, 1]⟩, ⟨some 21, .move (.tmp 1), none, []⟩, ⟨some 22, .move (.tmp 5), none, []⟩, ⟨some 23, .indexAddr 27 (.tmp 21) (.tmp 22), none, [4, 5]⟩, ⟨some 24, .load 59 (.tmp 23), none, [6, 4, 5]⟩, ⟨some 25, .call { callee := (.value (.func 26)), args := #[(.tmp 20), (.tmp 24)], argTypes := #[59, 59] }, none, [3, 2, 0, 1, 7, 6, 4, 5]⟩, ⟨some 26, .unOp .not 4 (.tmp 25), none, [8, 3, 2, 0, 1, 7, 6, 4, 5]⟩]) (.cond (.tmp 26) (.seq (.reg [⟨some 4, .assign (.const (.bool false)), none, []⟩]) .ret) .skip))) (.reg [⟨some 15, .move (.tmp 5), none, []⟩, ⟨some 16, .binOp .add 3 (.tmp 15) (.const (.int .i64 1)) 3, none, []⟩, ⟨some 5, .assign (.tmp 16), none, []⟩])))))) (.seq (.reg [⟨some 4, .assign (.const (.bool true)), none, []⟩]) .ret)))
theorem s11 : Tryd.f11.body.bind (stripC 27) = some B11 := by kernel_rfl
theorem eqActS_ac {H : Heap} {E1 E2 : List Nat} {a b : Value} {xs : List Actn} (h1 : RS 6 RAc H E1 a xs) (h2 : RS 6 RAc H E2 b xs) : AC Tryd.prog 11 [a, b] H (.bool true) H [] := by
  obtain ⟨a1, c1, ha⟩ := h1.form
  obtain ⟨a2, c2, hb⟩ := h2.form
  have hn := h1.1
  refine AC.of_pureS (N := 27) Tryd.func11 s11 (by kernel_rfl) rfl rfl (by simp) rfl ?_; unfold B11
  rw [ha, hb]
  repeat (first | refine sA ?_ | refine sB ?_ | refine sC ?_ | refine sD ?_ | refine sE rfl ?_ | refine sF rfl ?_ | refine sG rfl ?_ | ((first | refine sk_reg fun K hK => ?_ | refine sk_drw mix fun K hK => ?_); simp; refine hK _ ?_; clear hK K))
  rw [← ha, ← hb]
  refine sk_loop (fun m ts H' => ∃ (k : Nat) (J : Heap), k ≤ xs.length ∧ m = xs.length - k ∧ H' = H ++ J ∧ ts = [(0, a), (1, b), (5, iv k)]) xs.length _ ?_ ⟨0, [], by omega, rfl, by simp, rfl⟩ ?_
  · simp [subL, getT, ha, hb]
  · rintro m ts H1 ⟨k, J, hk, rfl, rfl, rfl⟩
    by_cases hlt : k < xs.length
    · obtain ⟨id, o, Ek, cs, hv, hid, _, _, hR, hsz, hc⟩ := h1.at hlt
      obtain ⟨id2, o2, Ek2, cs2, hv2, hid2, _, _, hR2, hsz2, hc2⟩ := h2.at hlt
      obtain ⟨_, rfl⟩ := hR
      obtain ⟨_, rfl⟩ := hR2
      have c0 := hc 0 _ rfl
      have d0 := hc2 0 _ rfl
      have c1 := hc 1 _ rfl
      have d1 := hc2 1 _ rfl
      have c2 := hc 2 _ rfl
      have d2 := hc2 2 _ rfl
      have c3 := hc 3 _ rfl
      have d3 := hc2 3 _ rfl
      have c4 := hc 4 _ rfl
      have d4 := hc2 4 _ rfl
      have c5 := hc 5 _ rfl
      have d5 := hc2 5 _ rfl
      simp only [Nat.mul_one, Nat.add_zero] at c0 d0 c1 d1 c2 d2 c3 d3 c4 d4 c5 d5
      have hw := wrap_id (x := (k : Int) + 1) (by omega) (by omega)
      repeat (first | refine sA ?_ | refine sB ?_ | refine sC ?_ | refine sD ?_ | refine sE rfl ?_ | refine sF rfl ?_ | refine sG rfl ?_ | ((first | refine sk_reg fun K hK => ?_ | refine sk_drw mix fun K hK => ?_); simp [hlt, hv, hv2, c0, d0, c1, d1, c2, d2, c3, d3, c4, d4, c5, d5, hw]; (repeat ((first | refine AskX.go (eqAct_ac xs[k]) ?_ | refine AskD.go (eqAct_ac xs[k]) ?_); simp [hlt, hv, hv2, c0, d0, c1, d1, c2, d2, c3, d3, c4, d4, c5, d5, hw])); refine hK _ ?_; clear hK K))
      refine sk_inv ⟨xs.length - (k + 1), _, by omega, ?_, ⟨k + 1, J, by omega, rfl, rfl, rfl⟩⟩
      simp [subL, getT, hv, hv2]
    · have hk2 : k = xs.length := by omega
      subst hk2
      repeat (first | refine sA ?_ | refine sB ?_ | refine sC ?_ | refine sD ?_ | refine sE rfl ?_ | refine sF rfl ?_ | refine sG rfl ?_ | ((first | refine sk_reg fun K hK => ?_ | refine sk_drw mix fun K hK => ?_); simp [hlt, ha, hb]; refine hK _ ?_; clear hK K))
      refine sk_ret ?_; simp

end Go.Proofs.YtpoedfmkiiijnaaDoor
