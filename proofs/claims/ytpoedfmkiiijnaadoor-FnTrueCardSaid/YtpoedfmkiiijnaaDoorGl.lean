/- What the rows' list of variables gives the walks: the table of the powers of ten. -/
import Derived.Test.YtpoedfmkiiijnaaDoorRows
import Derived.Test.YtpoedfmkiiijnaaDoorGA
import Derived.Stop.LaidErr
import Derived.ProofKit
import Derived.LaidMore
namespace Go.Proofs.YtpoedfmkiiijnaaDoor
open Go Go.RowKit
open Go.Proofs.YtpoedfmkiiijnaaDoorAm (GOk)
theorem tabT : (Tryd.prog.globals[0]?).map (·.type) = some 131 := by kernel_rfl
theorem tabU : Tryd.prog.underlying 131 = some (.array 20 76) := by kernel_rfl
theorem tabK : Tryd.prog.underlying 76 = some (.int .u64) := by kernel_rfl
theorem tabC : Tryd.prog.cellsOf 76 = 1 := by kernel_rfl
theorem tabA : Tryd.prog.cellsOf 131 = 20 := by kernel_rfl
theorem tab3 {P : Program} {W : World} {a b c : String × DataW Unit} (h : laidMet P [a, b, c] W) : laidMet P [c] W := h.tail.tail
theorem gl_of {W : World} (h : laidMet Tryd.prog Rows.fnTrueRow.laid W) : GOk Tryd.prog W.heap.size W := by
 have h1 := tab3 (c := (_, Lib.tabData .u64 Lib.pow10Tab)) h
 have h2 := Lib.tabIs_of_head (rest := []) (g := 0) (by kernel_rfl) tabT tabU tabK tabC tabA h1
 intro w' hk n hn
 have hs : 0 < W.heap.size := by
  have h3 := h2
  unfold Lib.TabIs World.var? at h3
  obtain ⟨g, hg, h4⟩ := Option.bind_eq_some_iff.1 h3
  obtain rfl : g = 0 := Option.some.inj (hg.symm.trans (by kernel_rfl))
  rcases Nat.lt_or_ge 0 W.heap.size with hh | hh
  ·exact hh
  ·rw [Array.getElem?_eq_none hh] at h4; simp at h4
 unfold Lib.TabIs World.var? at h2 ⊢
 obtain ⟨g, hg, h4⟩ := Option.bind_eq_some_iff.1 h2
 obtain rfl : g = 0 := Option.some.inj (hg.symm.trans (by kernel_rfl))
 rw [hn]
 simp only [Option.bind_some]
 rw [hk 0 hs]
 exact h4
end Go.Proofs.YtpoedfmkiiijnaaDoor
