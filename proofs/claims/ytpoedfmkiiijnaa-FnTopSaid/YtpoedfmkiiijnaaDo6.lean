/- Marks on what Do answers; how many there are. -/
import Derived.Test.YtpoedfmkiiijnaaGJ
import Derived.Test.YtpoedfmkiiijnaaGE
namespace Go.Proofs.Ytpoedfmkiiijnaa
open Go Go.RowKit Go.Proofs.YtpoedfmkiiijnaaAm
set_option linter.unusedVariables false
set_option linter.unusedSimpArgs false
set_option maxRecDepth 10000
set_option maxHeartbeats 4000000
def B60 : SC := .seq (.reg [⟨some 2, .box 39 (.tmp 0), none, []⟩, ⟨some 4, .assign (.const (.int .i64 0)), none, []⟩]) (.seq (.reg [⟨some 5, .fieldAddr 39 (.tmp 2) 1, none, []⟩, ⟨some 6, .load 25 (.tmp 5), none, []⟩, ⟨some 7, .move (.tmp 1), none, []⟩, ⟨some 8, .call { callee := (.value (.func 23)), args := #[(.tmp 6), (.tmp 7)], argTypes := #[25, 3] }, none, []⟩, ⟨some 1, .assign (.tmp 8), none, []⟩]) (.seq (.reg [⟨some 9, .move (.tmp 1), none, []⟩, ⟨some 4, .assign (.tmp 9), none, []⟩]) .ret))
theorem s60 : Try.f60.body.bind (stripC 10) = some B60 := by kernel_rfl
theorem markDone_ac {H : Heap} {E : List Nat} {c : List Value} {n k : Int} {b : Bk} (h : RBk H E b c) (ho : Own H E) (hk : 0 ≤ k) (hb : k + cnBk b ≤ 4611686018427387904) :
    ∃ H', AC Try.prog 60 [.agg (iv n :: c).toArray, iv k] H (iv (k + cnBk b)) H' E ∧ MK E H H' ∧ RBk H' E (mkBk b k) c := by
  have h0 := h
  have hbd := RBk.frm.bd h0
  obtain ⟨v, rfl, hv⟩ := h
  have x := hv.one
  have xc := hv.cv
  obtain ⟨H2, ac, mk, r⟩ := markBook_ac (k := k) (RBk.frm.ext (L := [⟨39, [iv n, .bool b.ok, iv b.sec, v], true, true⟩]) h0) (ho.ext hbd) hk hb
  obtain ⟨H', rfl, mk'⟩ := mk.cut hbd
  have hD : wrL H.length E E := fun d hd => .inr hd
  refine AC.of_markS (N := 10) Try.func60 s60 (by kernel_rfl) rfl rfl (by simp) rfl ?_; unfold B60
  repeat (first | refine sA ?_ | refine sB ?_ | refine sC ?_ | refine sD ?_ | refine sE rfl ?_ | refine sF rfl ?_ | refine sG rfl ?_ | (refine sk_reg fun K hK => ?_; simp [x, xc, hD]; (repeat ((first | refine AskX.go (ac) ?_); simp [x, xc, hD])); refine hK _ ?_; clear hK K))
  refine sk_ret ?_; simp
  obtain ⟨w, hw, hr⟩ := r
  simp only [List.cons.injEq, and_true] at hw
  obtain ⟨hw1, hw2, rfl⟩ := hw
  exact ⟨H', ⟨_, rfl⟩, mk', v, rfl, hr.cut RLn.frm (by rw [mk'.len]; exact hbd)⟩
def B61 : SC := .seq (.reg [⟨some 2, .box 39 (.tmp 0), none, []⟩, ⟨some 4, .assign (.const (.int .i64 0)), none, []⟩]) (.seq (.reg [⟨some 5, .fieldAddr 39 (.tmp 2) 1, none, []⟩, ⟨some 6, .load 25 (.tmp 5), none, []⟩, ⟨some 7, .move (.tmp 1), none, []⟩, ⟨some 8, .call { callee := (.value (.func 24)), args := #[(.tmp 6), (.tmp 7)], argTypes := #[25, 3] }, none, []⟩, ⟨some 1, .assign (.tmp 8), none, []⟩]) (.seq (.seq (.reg [⟨some 9, .move (.tmp 1), none, []⟩, ⟨some 10, .binOp .lss 3 (.tmp 9) (.const (.int .i64 0)) 3, none, []⟩]) (.cond (.tmp 10) (.seq (.reg [⟨some 4, .assign (.const (.int .i64 (-1))), none, []⟩]) .ret) .skip)) (.seq (.reg [⟨some 11, .move (.tmp 1), none, []⟩, ⟨some 4, .assign (.tmp 11), none, []⟩]) .ret)))
theorem s61 : Try.f61.body.bind (stripC 12) = some B61 := by kernel_rfl
theorem heldDone_ac {H : Heap} {E : List Nat} {c : List Value} {n k : Int} {b b0 : Bk} (h : RBk H E (mkBk b k) c) (hk : 0 ≤ k) (hb : k + cnBk b ≤ 4611686018427387904) :
    AC Try.prog 61 [.agg (iv n :: c).toArray, iv k] H (iv (k + cnBk b)) H [] := by
  have h0 := h
  obtain ⟨v, rfl, hv⟩ := h
  have x := hv.one
  have xc := hv.cv
  have q : 0 ≤ cnBk b := cnL_nn cnLn_nn b.lines
  have p1 : ¬ (k + cnBk b < 0) := by omega
  have hac := fun L : Heap => heldBook_ac (H := H ++ L) (RBk.frm.ext h0) hk hb
  refine AC.of_pureS (N := 12) Try.func61 s61 (by kernel_rfl) rfl rfl (by simp) rfl ?_; unfold B61
  repeat (first | refine sA ?_ | refine sB ?_ | refine sC ?_ | refine sD ?_ | refine sE rfl ?_ | refine sF rfl ?_ | refine sG rfl ?_ | (refine sk_reg fun K hK => ?_; simp [x, xc, p1]; (repeat ((first | refine AskX.go (hac _) ?_); simp [x, xc, p1])); refine hK _ ?_; clear hK K))
  refine sk_ret ?_; simp
end Go.Proofs.Ytpoedfmkiiijnaa
