/- The statement's own function FnExactAnswer: it answers true. A walk. -/
import Derived.Test.YtpoedfmkiiijnaaDoorAn1
import Derived.Test.YtpoedfmkiiijnaaDoorAn2
import Derived.Test.YtpoedfmkiiijnaaDoorGK
import Derived.Test.YtpoedfmkiiijnaaDoorGE
import Derived.Test.YtpoedfmkiiijnaaDoorGD
namespace Go.Proofs.YtpoedfmkiiijnaaDoor
open Go Go.RowKit Go.Proofs.YtpoedfmkiiijnaaDoorAm
set_option linter.unusedVariables false
set_option linter.unusedSimpArgs false
set_option maxRecDepth 10000
set_option maxHeartbeats 8000000
def B3 : SC := .seq (.reg [⟨some 6, .assign (.const (.bool false)), none, []⟩]) (.seq (.seq (.reg [⟨some 12, .move (.tmp 1), none, []⟩, ⟨some 13, .call { callee := (.builtin .len), args := #[(.tmp 12)], argTypes := #[22] }, none, []⟩, ⟨some 14, .binOp .gtr 3 (.tmp 13) (.const (.int .i64 1048576)) 3, none, []⟩]) (.cond (.tmp 14) (.seq (.reg [⟨some 6, .assign (.const (.bool true)), none, []⟩]) .ret) .skip)) (.seq (.reg [⟨some 7, .assign (.const (.int .i64 1048576)), none, []⟩]) (.seq (.reg [⟨some 15, .move (.tmp 2), none, []⟩, ⟨some 16, .move (.tmp 7), none, []⟩, ⟨some 17, .call { callee := (.value (.func 5)), args := #[(.tmp 15), (.tmp 16)], argTypes := #[23, 3] }, none, []⟩, ⟨some 7, .assign (.tmp 17), none, []⟩]) (.seq (.seq (.reg [⟨some 18, .move (.tmp 7), none, []⟩, ⟨some 19, .binOp .lss 3 (.tmp 18) (.const (.int .i64 0)) 3, none, []⟩]) (.cond (.tmp 19) (.seq (.reg [⟨some 6, .assign (.const (.bool true)), none, []⟩]) .ret) .skip)) (.seq (.reg [⟨some 20, .move (.tmp 0), none, []⟩, ⟨some 21, .move (.tmp 1), none, []⟩, ⟨some 22, .call { callee := (.value (.func 7)), args := #[(.tmp 21)], argTypes := #[22] }, none, []⟩, ⟨some 23, .move (.tmp 2), none, []⟩, ⟨some 24, .call { callee := (.value (.func 8)), args := #[(.tmp 23)], argTypes := #[23] }, none, []⟩, ⟨some 25, .call { callee := (.value (.func 6)), args := #[(.tmp 20), (.tmp 22), (.tmp 24)], argTypes := #[3, 22, 27] }, none, []⟩, ⟨some 8, .assign (.tmp 25), none, []⟩]) (.seq (.reg [⟨some 26, .move (.tmp 1), none, []⟩, ⟨some 27, .call { callee := (.value (.func 7)), args := #[(.tmp 26)], argTypes := #[22] }, none, []⟩, ⟨some 9, .assign (.tmp 27), none, []⟩]) (.seq (.reg [⟨some 28, .move (.tmp 2), none, []⟩, ⟨some 29, .call { callee := (.value (.func 8)), args := #[(.tmp 28)], argTypes := #[23] }, none, []⟩, ⟨some 10, .assign (.tmp 29), none, []⟩]) (.seq (.reg [⟨some 30, .move (.tmp 0), none, []⟩, ⟨some 31, .move (.tmp 9), none, []⟩, ⟨some 32, .move (.tmp 10), none, []⟩, ⟨some 33, .call { callee := (.value (.func 9)), args := #[(.tmp 30), (.tmp 31), (.tmp 32)], argTypes := #[3, 22, 27] }, none, []⟩, ⟨some 11, .assign (.tmp 33), none, []⟩]) (.seq (.seq (.reg [⟨some 34, .move (.tmp 11), none, []⟩, ⟨some 35, .move (.tmp 8), none, []⟩, ⟨some 36, .binOp .neq 9 (.tmp 34) (.tmp 35) 9, none, []⟩]) (.cond (.tmp 36) (.seq (.reg [⟨some 6, .assign (.const (.bool false)), none, []⟩]) .ret) .skip)) (.seq (.seq (.reg [⟨some 37, .move (.tmp 9), none, []⟩, ⟨some 38, .move (.tmp 1), none, []⟩, ⟨some 39, .call { callee := (.value (.func 7)), args := #[(.tmp 38)], argTypes := #[22] }, none, []⟩, ⟨some 40, .call { callee := (.value (.func 10)), args := #[(.tmp 37), (.tmp 39)], argTypes := #[22, 22] }, none, []⟩, ⟨some 41, .unOp .not 4 (.tmp 40), none, []⟩]) (.cond (.tmp 41) (.seq (.reg [⟨some 6, .assign (.const (.bool false)), none, []⟩]) .ret) .skip)) (.seq (.seq (.reg [⟨some 42, .move (.tmp 10), none, []⟩, ⟨some 43, .move (.tmp 2), none, []⟩, ⟨some 44, .call { callee := (.value (.func 8)), args := #[(.tmp 43)], argTypes := #[23] }, none, []⟩, ⟨some 45, .call { callee := (.value (.func 11)), args := #[(.tmp 42), (.tmp 44)], argTypes := #[27, 27] }, none, []⟩, ⟨some 46, .unOp .not 4 (.tmp 45), none, []⟩]) (.cond (.tmp 46) (.seq (.reg [⟨some 6, .assign (.const (.bool false)), none, []⟩]) .ret) .skip)) (.seq (.reg [⟨some 6, .assign (.const (.bool true)), none, []⟩]) .ret))))))))))))
theorem s3 : Tryd.f3.body.bind (stripC 47) = some B3 := by kernel_rfl
theorem lawAnswer_ac {H : Heap} {E F : List Nat} {v vt : Value} {l : List Int} {es' : List Actn} (ht : RS 1 RInt H F vt l) (hR : RS 6 (RPp cAc acR) H E v es') (s : Int) : AC Tryd.prog 3 [iv s, vt, v] H (.bool true) H [] := by
  have h : RS 6 RAc H E v es' := hR.unp
  have hra := hR.prop
  obtain ⟨a1, c1, rfl⟩ := ht.form
  have xv := h.one
  have hn := ht.1
  refine AC.of_pureS (N := 47) Tryd.func3 s3 (by kernel_rfl) rfl rfl (by simp) rfl ?_; unfold B3
  by_cases q0 : l.length ≤ 1048576
  case neg =>
    have q0' : (1048576 : Int) < l.length := by omega
    repeat (first | refine sA ?_ | refine sB ?_ | refine sC ?_ | refine sD ?_ | refine sE rfl ?_ | refine sF rfl ?_ | refine sG rfl ?_ | (refine sk_reg fun K hK => ?_; simp [q0']; refine hK _ ?_; clear hK K))
    refine sk_ret ?_; simp
  have q0' : ¬ (1048576 : Int) < l.length := by omega
  by_cases q : (es'.length : Int) ≤ 1048576
  case neg =>
    repeat (first | refine sA ?_ | refine sB ?_ | refine sC ?_ | refine sD ?_ | refine sE rfl ?_ | refine sF rfl ?_ | refine sG rfl ?_ | (refine sk_reg fun K hK => ?_; simp [q0', subN_no q]; (repeat ((first | refine AskX.go (szActS_ac h (a := 1048576) (by omega)) ?_); simp [q0', subN_no q])); refine hK _ ?_; clear hK K))
    refine sk_ret ?_; simp
  have q' : ¬ ((1048576 : Int) - es'.length < 0) := by omega
  have qn : es'.length ≤ 1048576 := by omega
  repeat (first | refine sA ?_ | refine sB ?_ | refine sC ?_ | refine sD ?_ | refine sE rfl ?_ | refine sF rfl ?_ | refine sG rfl ?_ | (refine sk_reg fun K hK => ?_; simp [q0', subN_lt q, q']; (repeat ((first | refine AskX.go (szActS_ac h (a := 1048576) (by omega)) ?_); simp [q0', subN_lt q, q'])); refine hK _ ?_; clear hK K))
  refine sk_reg fun K hK => ?_; simp
  refine AskX.mkr (toIntS_mk (ht.gro (by first | exact Gro.refl _ | exact ⟨_, rfl⟩ | exact ⟨_, by simp only [List.append_assoc, List.cons_append, List.nil_append]; rfl⟩ | exact ⟨[], by simp⟩) (RP.frm _)) q0) ?_; rintro y1 K1 B1 p1 b1 m1; simp
  refine AskX.mkr (toActS_mk (h.gro (by first | exact Gro.refl _ | exact ⟨_, rfl⟩ | exact ⟨_, by simp only [List.append_assoc, List.cons_append, List.nil_append]; rfl⟩ | exact ⟨[], by simp⟩) (RP.frm _)) qn) ?_; rintro w1 J1 A1 r1 o1 n1; simp
  refine AskX.go (specAnswer_ac (p1.gro (by first | exact Gro.refl _ | exact ⟨_, rfl⟩ | exact ⟨_, by simp only [List.append_assoc, List.cons_append, List.nil_append]; rfl⟩ | exact ⟨[], by simp⟩) (RP.frm _)) (r1.gro (by first | exact Gro.refl _ | exact ⟨_, rfl⟩ | exact ⟨_, by simp only [List.append_assoc, List.cons_append, List.nil_append]; rfl⟩ | exact ⟨[], by simp⟩) (RP.frm _)) hra s) ?_; simp
  refine hK _ ?_; clear hK K
  repeat (first | refine sA ?_ | refine sB ?_ | refine sC ?_ | refine sD ?_ | refine sE rfl ?_ | refine sF rfl ?_ | refine sG rfl ?_ | (refine sk_reg fun K hK => ?_; simp; refine hK _ ?_; clear hK K))
  refine sk_reg fun K hK => ?_; simp
  refine AskX.mkr (toIntS_mk (ht.gro (by first | exact Gro.refl _ | exact ⟨_, rfl⟩ | exact ⟨_, by simp only [List.append_assoc, List.cons_append, List.nil_append]; rfl⟩ | exact ⟨[], by simp⟩) (RP.frm _)) q0) ?_; rintro y3 K3 B3 p3 b3 m3; simp
  refine hK _ ?_; clear hK K
  repeat (first | refine sA ?_ | refine sB ?_ | refine sC ?_ | refine sD ?_ | refine sE rfl ?_ | refine sF rfl ?_ | refine sG rfl ?_ | (refine sk_reg fun K hK => ?_; simp; refine hK _ ?_; clear hK K))
  refine sk_reg fun K hK => ?_; simp
  refine AskX.mkr (toActS_mk (h.gro (by first | exact Gro.refl _ | exact ⟨_, rfl⟩ | exact ⟨_, by simp only [List.append_assoc, List.cons_append, List.nil_append]; rfl⟩ | exact ⟨[], by simp⟩) (RP.frm _)) qn) ?_; rintro w3 J3 A3 r3 o3 n3; simp
  refine hK _ ?_; clear hK K
  repeat (first | refine sA ?_ | refine sB ?_ | refine sC ?_ | refine sD ?_ | refine sE rfl ?_ | refine sF rfl ?_ | refine sG rfl ?_ | (refine sk_reg fun K hK => ?_; simp; refine hK _ ?_; clear hK K))
  refine sk_reg fun K hK => ?_; simp
  refine AskX.go (implAnswer_ac (p3.gro (by first | exact Gro.refl _ | exact ⟨_, rfl⟩ | exact ⟨_, by simp only [List.append_assoc, List.cons_append, List.nil_append]; rfl⟩ | exact ⟨[], by simp⟩) (RP.frm _)) (r3.gro (by first | exact Gro.refl _ | exact ⟨_, rfl⟩ | exact ⟨_, by simp only [List.append_assoc, List.cons_append, List.nil_append]; rfl⟩ | exact ⟨[], by simp⟩) (RP.frm _)) s) ?_; simp
  refine hK _ ?_; clear hK K
  repeat (first | refine sA ?_ | refine sB ?_ | refine sC ?_ | refine sD ?_ | refine sE rfl ?_ | refine sF rfl ?_ | refine sG rfl ?_ | (refine sk_reg fun K hK => ?_; simp; refine hK _ ?_; clear hK K))
  refine sk_reg fun K hK => ?_; simp
  refine AskX.mkr (toIntS_mk (ht.gro (by first | exact Gro.refl _ | exact ⟨_, rfl⟩ | exact ⟨_, by simp only [List.append_assoc, List.cons_append, List.nil_append]; rfl⟩ | exact ⟨[], by simp⟩) (RP.frm _)) q0) ?_; rintro y5 K5 B5 p5 b5 m5; simp
  refine AskX.go (eqIntS_ac (p3.gro (by first | exact Gro.refl _ | exact ⟨_, rfl⟩ | exact ⟨_, by simp only [List.append_assoc, List.cons_append, List.nil_append]; rfl⟩ | exact ⟨[], by simp⟩) (RP.frm _)) (p5.gro (by first | exact Gro.refl _ | exact ⟨_, rfl⟩ | exact ⟨_, by simp only [List.append_assoc, List.cons_append, List.nil_append]; rfl⟩ | exact ⟨[], by simp⟩) (RP.frm _))) ?_; simp
  refine hK _ ?_; clear hK K
  repeat (first | refine sA ?_ | refine sB ?_ | refine sC ?_ | refine sD ?_ | refine sE rfl ?_ | refine sF rfl ?_ | refine sG rfl ?_ | (refine sk_reg fun K hK => ?_; simp; refine hK _ ?_; clear hK K))
  refine sk_reg fun K hK => ?_; simp
  refine AskX.mkr (toActS_mk (h.gro (by first | exact Gro.refl _ | exact ⟨_, rfl⟩ | exact ⟨_, by simp only [List.append_assoc, List.cons_append, List.nil_append]; rfl⟩ | exact ⟨[], by simp⟩) (RP.frm _)) qn) ?_; rintro w5 J5 A5 r5 o5 n5; simp
  refine AskX.go (eqActS_ac (r3.gro (by first | exact Gro.refl _ | exact ⟨_, rfl⟩ | exact ⟨_, by simp only [List.append_assoc, List.cons_append, List.nil_append]; rfl⟩ | exact ⟨[], by simp⟩) (RP.frm _)) (r5.gro (by first | exact Gro.refl _ | exact ⟨_, rfl⟩ | exact ⟨_, by simp only [List.append_assoc, List.cons_append, List.nil_append]; rfl⟩ | exact ⟨[], by simp⟩) (RP.frm _))) ?_; simp
  refine hK _ ?_; clear hK K
  repeat (first | refine sA ?_ | refine sB ?_ | refine sC ?_ | refine sD ?_ | refine sE rfl ?_ | refine sF rfl ?_ | refine sG rfl ?_ | (refine sk_reg fun K hK => ?_; simp; refine hK _ ?_; clear hK K))
  refine sk_ret ?_; simp
end Go.Proofs.YtpoedfmkiiijnaaDoor
