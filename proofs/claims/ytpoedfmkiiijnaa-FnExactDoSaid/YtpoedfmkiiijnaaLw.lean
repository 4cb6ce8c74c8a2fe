/- From an abstract contract to a statement's call. Plain lemmas. -/
import Derived.Test.YtpoedfmkiiijnaaMk
import Derived.Below
namespace Go.Proofs.YtpoedfmkiiijnaaAm
open Go Go.RowKit
set_option linter.unusedVariables false
theorem AC.law {P : Program} {f : FuncId} {args args' : List Value} {H H' : Heap} {φ : Phi} {W : World} (h : AC P f args H (.bool true) H' []) (hr : HR P W.heap.size φ H W) (ha : VRs φ args args') :
    Calls P f args'.toArray W fun e w' => e = .returned (.bool true) ∧ Below W.heap.size W w' := by
  refine (h.2 W.heap.size φ W args' hr (Nat.le_refl _) ha).mono ?_
  rintro e w' ⟨φ', v', rfl, hv, hi⟩
  cases hv
  exact ⟨rfl, hi.os, hi.tape, hi.output, hi.size, fun k hk => hi.keep k hk fun d hd => by simp at hd⟩
theorem HR.none {P : Program} {W : World} : HR P W.heap.size (fun _ => none) [] W :=
  ⟨fun _ _ h => (by cases h), fun _ _ h => (by cases h), fun _ _ h => (by cases h), fun _ _ _ _ h => (by cases h), fun _ _ _ h => (by cases h), fun _ _ _ h => (by cases h), fun _ _ _ _ h => (by cases h), fun _ _ _ h => (by cases h)⟩
theorem VRs.ints {φ : Phi} : ∀ l : List Int, VRs φ (l.map iv) (l.map iv)
  | [] => .nil _
  | _ :: l => .cons (.int _ _) (VRs.ints l)
end Go.Proofs.YtpoedfmkiiijnaaAm
