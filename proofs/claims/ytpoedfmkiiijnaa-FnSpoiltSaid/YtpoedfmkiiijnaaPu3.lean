/- What a run answers, over plain data. Plain definitions; no program in sight. -/
import Derived.Test.YtpoedfmkiiijnaaGC
namespace Go.Proofs.YtpoedfmkiiijnaaAm
/-- An event of a run: what is answered for it (an event that cannot be read leaves the book). -/
def stepD (b : Bk) (e : Evt) : Dn := if (doB b e).code = 1 then ⟨1, b⟩ else doB b e
def goB (b : Bk) : List Evt → List Dn
  | [] => []
  | e :: es => stepD b e :: goB (stepD b e).book es
def endB (b : Bk) : List Evt → Bk
  | [] => b
  | e :: es => endB (stepD b e).book es
def runB (s t : Int) (es : List Evt) : List Dn := if (beginB s t).ok = true ∧ es.length ≤ 2000 then goB (beginB s t) es else []
theorem goB_snoc (b : Bk) (es : List Evt) (e : Evt) : goB b (es ++ [e]) = goB b es ++ [stepD (endB b es) e] := by
  induction es generalizing b with
  | nil => rfl
  | cons x xs ih => simp only [List.cons_append, goB, endB, ih]
theorem endB_snoc (b : Bk) (es : List Evt) (e : Evt) : endB b (es ++ [e]) = (stepD (endB b es) e).book := by
  induction es generalizing b with
  | nil => rfl
  | cons x xs ih => simp only [List.cons_append, endB, ih]
theorem goB_len (b : Bk) (es : List Evt) : (goB b es).length = es.length := by
  induction es generalizing b with
  | nil => rfl
  | cons x xs ih => simp only [goB, List.length_cons, ih]
end Go.Proofs.YtpoedfmkiiijnaaAm
