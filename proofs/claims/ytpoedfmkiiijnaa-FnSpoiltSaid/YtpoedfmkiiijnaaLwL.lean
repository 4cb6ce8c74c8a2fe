/- The statement's own function FnSpoilt: it answers true. A walk. -/
import Derived.Test.YtpoedfmkiiijnaaDw7
import Derived.Test.YtpoedfmkiiijnaaBk6
import Derived.Test.YtpoedfmkiiijnaaGI
namespace Go.Proofs.Ytpoedfmkiiijnaa
open Go Go.RowKit Go.Proofs.YtpoedfmkiiijnaaAm
set_option linter.unusedVariables false
set_option linter.unusedSimpArgs false
set_option maxRecDepth 10000
set_option maxHeartbeats 8000000
def B15 : SC := .seq (.reg [⟨some 2, .assign (.const (.bool false)), none, []⟩]) (.seq (.seq (.reg [⟨some 6, .move (.tmp 0), none, []⟩, ⟨some 7, .call { callee := (.builtin .len), args := #[(.tmp 6)], argTypes := #[30] }, none, []⟩, ⟨some 8, .binOp .gtr 3 (.tmp 7) (.const (.int .i64 1048576)) 3, none, []⟩]) (.cond (.tmp 8) (.seq (.reg [⟨some 2, .assign (.const (.bool true)), none, []⟩]) .ret) .skip)) (.seq (.reg [⟨some 9, .move (.tmp 0), none, []⟩, ⟨some 10, .call { callee := (.value (.func 57)), args := #[(.tmp 9)], argTypes := #[30] }, none, []⟩, ⟨some 3, .alloc 25, none, []⟩, ⟨none, .store 25 (.tmp 3) (.tmp 10), none, []⟩]) (.seq (.reg [⟨some 11, .load 25 (.tmp 3), none, []⟩, ⟨some 12, .call { callee := (.value (.func 29)), args := #[(.tmp 11)], argTypes := #[25] }, none, []⟩, ⟨some 4, .assign (.tmp 12), none, []⟩]) (.seq (.seq (.reg [⟨some 13, .move (.tmp 4), none, []⟩, ⟨some 14, .load 25 (.tmp 3), none, []⟩, ⟨some 15, .call { callee := (.value (.func 34)), args := #[(.tmp 14)], argTypes := #[25] }, none, []⟩, ⟨some 16, .binOp .neq 3 (.tmp 13) (.tmp 15) 3, none, []⟩]) (.cond (.tmp 16) (.seq (.reg [⟨some 2, .assign (.const (.bool false)), none, []⟩]) .ret) .skip)) (.seq (.reg [⟨some 17, .build 49 #[(0, (.const (.int .i64 1)))], none, []⟩, ⟨some 5, .alloc 49, none, []⟩, ⟨none, .store 49 (.tmp 5) (.tmp 17), none, []⟩]) (.seq (.seq (.reg [⟨some 18, .move (.tmp 4), none, []⟩, ⟨some 19, .binOp .eql 3 (.tmp 18) (.const (.int .i64 0)) 3, none, []⟩]) (.cond (.tmp 19) (.seq (.drw 0 [⟨some 20, .load 25 (.tmp 3), none, []⟩, ⟨some 21, .load 49 (.tmp 5), none, []⟩, ⟨some 22, .call { callee := (.value (.func 40)), args := #[(.tmp 20), (.tmp 21)], argTypes := #[25, 49] }, none, [0, 1]⟩, ⟨some 23, .fieldAddr 25 (.tmp 3) 2, none, []⟩, ⟨some 24, .load 23 (.tmp 23), none, [3]⟩, ⟨some 25, .call { callee := (.builtin .len), args := #[(.tmp 24)], argTypes := #[23] }, none, [4, 3]⟩, ⟨some 26, .binOp .gtr 3 (.tmp 25) (.const (.int .i64 0)) 3, none, [5, 4, 3]⟩, ⟨some 27, .binOp .eql 4 (.tmp 22) (.tmp 26) 4, none, [2, 0, 1, 6, 5, 4, 3]⟩, ⟨some 2, .assign (.tmp 27), none, [7, 2, 0, 1, 6, 5, 4, 3]⟩]) .ret) .skip)) (.seq (.reg [⟨some 28, .load 25 (.tmp 3), none, []⟩, ⟨some 29, .load 49 (.tmp 5), none, []⟩, ⟨some 30, .call { callee := (.value (.func 40)), args := #[(.tmp 28), (.tmp 29)], argTypes := #[25, 49] }, none, []⟩, ⟨some 31, .unOp .not 4 (.tmp 30), none, []⟩, ⟨some 32, .move (.tmp 31), none, []⟩, ⟨some 33, .load 25 (.tmp 3), some (32, true), []⟩, ⟨some 34, .load 49 (.tmp 5), some (32, true), []⟩, ⟨some 35, .call { callee := (.value (.func 32)), args := #[(.tmp 33), (.tmp 34)], argTypes := #[25, 49] }, some (32, true), []⟩, ⟨some 36, .field 39 (.tmp 35) 0, some (32, true), []⟩, ⟨some 37, .binOp .eql 3 (.tmp 36) (.const (.int .i64 1)) 3, some (32, true), []⟩, ⟨some 38, .pick (.tmp 32) (.tmp 37) (.const (.bool false)), none, []⟩, ⟨some 39, .move (.tmp 38), none, []⟩, ⟨some 40, .load 25 (.tmp 3), some (39, true), []⟩, ⟨some 41, .call { callee := (.value (.func 44)), args := #[(.tmp 40), (.const (.int .i64 0))], argTypes := #[25, 3] }, some (39, true), []⟩, ⟨some 42, .binOp .eql 3 (.tmp 41) (.const (.int .i64 (-1))) 3, some (39, true), []⟩, ⟨some 43, .pick (.tmp 39) (.tmp 42) (.const (.bool false)), none, []⟩, ⟨some 44, .move (.tmp 43), none, []⟩, ⟨some 45, .load 25 (.tmp 3), some (44, true), []⟩, ⟨some 46, .call { callee := (.value (.func 37)), args := #[(.tmp 45), (.const (.int .i64 0))], argTypes := #[25, 3] }, some (44, true), []⟩, ⟨some 47, .binOp .eql 3 (.tmp 46) (.const (.int .i64 (-1))) 3, some (44, true), []⟩, ⟨some 48, .pick (.tmp 44) (.tmp 47) (.const (.bool false)), none, []⟩, ⟨some 2, .assign (.tmp 48), none, []⟩]) .ret)))))))
theorem s15 : Try.f15.body.bind (stripC 49) = some B15 := by kernel_rfl
theorem lawSpoilt_ac {H : Heap} {E : List Nat} {v : Value} {bs : List Int} (h : RS 1 RBy H E v bs) : AC Try.prog 15 [v] H (.bool true) H [] := by
  obtain ⟨_, H1, ac1, b, ul, A, rfl, r, g1⟩ := drawBookOk_ac h
  obtain ⟨a1, c1, rfl⟩ := h.form
  have hn := h.1
  have hl1 := g1.len
  refine AC.of_pureS (N := 49) Try.func15 s15 (by kernel_rfl) rfl rfl (by simp) rfl ?_; unfold B15
  by_cases q : bs.length ≤ 1048576
  case neg =>
    have q' : (1048576 : Int) < bs.length := by omega
    repeat (first | refine sA ?_ | refine sB ?_ | refine sC ?_ | refine sD ?_ | refine sE rfl ?_ | refine sF rfl ?_ | refine sG rfl ?_ | ((first | refine sk_reg fun K hK => ?_ | refine sk_drw mix fun K hK => ?_); simp [q']; refine hK _ ?_; clear hK K))
    refine sk_ret ?_; simp
  have q' : ¬ (1048576 : Int) < bs.length := by omega
  have hz1 : ∀ n, H.length ≤ H1.length + n := fun n => by omega
  obtain ⟨au, cu, rfl⟩ := r.form
  have rb : ∀ {H' : Heap}, Gro H1 H' → RBk H' A b [.bool b.ok, iv b.sec, .slice au b.lines.length cu] := fun g => ⟨_, rfl, r.gro g RLn.frm⟩
  repeat (first | refine sA ?_ | refine sB ?_ | refine sC ?_ | refine sD ?_ | refine sE rfl ?_ | refine sF rfl ?_ | refine sG rfl ?_ | ((first | refine sk_reg fun K hK => ?_ | refine sk_drw mix fun K hK => ?_); simp [q', hz1, hl1]; (repeat ((first | refine AskX.go (ac1) ?_ | refine AskD.go (ac1) ?_ | refine AskX.go (implBookOk_ac (rb (by first | exact Gro.refl _ | exact ⟨_, rfl⟩ | exact ⟨_, by simp only [List.append_assoc, List.cons_append, List.nil_append]; rfl⟩ | exact ⟨[], by simp⟩))) ?_ | refine AskD.go (implBookOk_ac (rb (by first | exact Gro.refl _ | exact ⟨_, rfl⟩ | exact ⟨_, by simp only [List.append_assoc, List.cons_append, List.nil_append]; rfl⟩ | exact ⟨[], by simp⟩))) ?_ | refine AskX.go (specBookOk_ac (rb (by first | exact Gro.refl _ | exact ⟨_, rfl⟩ | exact ⟨_, by simp only [List.append_assoc, List.cons_append, List.nil_append]; rfl⟩ | exact ⟨[], by simp⟩))) ?_ | refine AskD.go (specBookOk_ac (rb (by first | exact Gro.refl _ | exact ⟨_, rfl⟩ | exact ⟨_, by simp only [List.append_assoc, List.cons_append, List.nil_append]; rfl⟩ | exact ⟨[], by simp⟩))) ?_); simp [q', hz1, hl1])); refine hK _ ?_; clear hK K))
  have fin : ∀ J : Heap, ∃ J', H1 ++ J = H ++ J' := fun J => by
    obtain ⟨J1, rfl⟩ := g1
    exact ⟨J1 ++ J, List.append_assoc _ _ _⟩
  by_cases hb : bookOkB b = 0
  · obtain ⟨hs1, hs2, hll, _⟩ := bookOk_sec hb
    have hev : evOkB b ⟨1, 0, 0⟩ = decide (0 < b.lines.length) := by
      unfold evOkB
      rw [hb]
      by_cases h0 : 0 < b.lines.length
      · simp [inB, h0]; omega
      · simp [inB, h0]; omega
    have aev := fun {H' : Heap} (g : Gro H1 H') => implEventOk_ac (rb g) ⟨1, 0, 0⟩
    rw [hev] at aev
    rw [decide_eq_true hb]
    repeat (first | refine sA ?_ | refine sB ?_ | refine sC ?_ | refine sD ?_ | refine sE rfl ?_ | refine sF rfl ?_ | refine sG rfl ?_ | ((first | refine sk_reg fun K hK => ?_ | refine sk_drw mix fun K hK => ?_); simp [hz1, hl1]; (repeat ((first | refine AskX.go (aev (by first | exact Gro.refl _ | exact ⟨_, rfl⟩ | exact ⟨_, by simp only [List.append_assoc, List.cons_append, List.nil_append]; rfl⟩ | exact ⟨[], by simp⟩)) ?_ | refine AskD.go (aev (by first | exact Gro.refl _ | exact ⟨_, rfl⟩ | exact ⟨_, by simp only [List.append_assoc, List.cons_append, List.nil_append]; rfl⟩ | exact ⟨[], by simp⟩)) ?_); simp [hz1, hl1])); refine hK _ ?_; clear hK K))
    by_cases h0 : 0 < b.lines.length
    · refine sk_ret ?_; simp [h0]
      exact fin _
    · refine sk_ret ?_; simp [h0]
      exact fin _
  have hev : evOkB b ⟨1, 0, 0⟩ = false := by simp [evOkB, hb]
  have hdo : doB b ⟨1, 0, 0⟩ = ⟨1, bk0⟩ := by unfold doB; rw [hev]; simp
  have how : ownerB b 0 = -1 := by unfold ownerB; rw [if_neg hb]
  have hre : reachB b 0 = -1 := by unfold reachB; rw [if_neg fun h => hb h.1]
  have aev := fun {H' : Heap} (g : Gro H1 H') => implEventOk_ac (rb g) ⟨1, 0, 0⟩
  rw [hev] at aev
  have aow := fun {H' : Heap} (g : Gro H1 H') => implOwner_ac (rb g) 0
  rw [how] at aow
  have are := fun {H' : Heap} (g : Gro H1 H') => implReach_ac (rb g) 0
  rw [hre] at are
  rw [decide_eq_false hb]
  repeat (first | refine sA ?_ | refine sB ?_ | refine sC ?_ | refine sD ?_ | refine sE rfl ?_ | refine sF rfl ?_ | refine sG rfl ?_ | ((first | refine sk_reg fun K hK => ?_ | refine sk_drw mix fun K hK => ?_); simp; refine hK _ ?_; clear hK K))
  refine sk_reg fun K hK => ?_; simp
  refine AskX.go (aev (by first | exact Gro.refl _ | exact ⟨_, rfl⟩ | exact ⟨_, by simp only [List.append_assoc, List.cons_append, List.nil_append]; rfl⟩ | exact ⟨[], by simp⟩)) ?_; simp
  refine AskX.mkr (implDoX_mk (rb (by first | exact Gro.refl _ | exact ⟨_, rfl⟩ | exact ⟨_, by simp only [List.append_assoc, List.cons_append, List.nil_append]; rfl⟩ | exact ⟨[], by simp⟩)) ⟨1, 0, 0⟩) ?_; rintro _ J1 A1 ⟨_, rfl, _, rfl, v1, rfl, q1⟩ o1 n1; simp [hz1, hl1, hdo]
  refine AskX.go (aow (by first | exact Gro.refl _ | exact ⟨_, rfl⟩ | exact ⟨_, by simp only [List.append_assoc, List.cons_append, List.nil_append]; rfl⟩ | exact ⟨[], by simp⟩)) ?_; simp [hz1, hl1]
  refine AskX.go (are (by first | exact Gro.refl _ | exact ⟨_, rfl⟩ | exact ⟨_, by simp only [List.append_assoc, List.cons_append, List.nil_append]; rfl⟩ | exact ⟨[], by simp⟩)) ?_; simp [hz1, hl1]
  refine hK _ ?_; clear hK K
  repeat (first | refine sA ?_ | refine sB ?_ | refine sC ?_ | refine sD ?_ | refine sE rfl ?_ | refine sF rfl ?_ | refine sG rfl ?_ | ((first | refine sk_reg fun K hK => ?_ | refine sk_drw mix fun K hK => ?_); simp; refine hK _ ?_; clear hK K))
  refine sk_ret ?_; simp
  exact fin _
end Go.Proofs.Ytpoedfmkiiijnaa
