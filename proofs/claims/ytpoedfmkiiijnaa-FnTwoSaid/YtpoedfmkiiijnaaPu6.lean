/- The beginning of a world, and a drive, over plain data. Plain definitions and lemmas; no program in sight. -/
import Derived.Test.YtpoedfmkiiijnaaPu5
namespace Go.Proofs.YtpoedfmkiiijnaaAm
set_option linter.unusedVariables false
set_option linter.unusedSimpArgs false
def lineS (s : Int) : Ln := ⟨0, [s], [⟨0, 1⟩], -1⟩
def bdS : Bd := ⟨0, 1, 0, 0⟩
def bkS (s : Int) (at' : List Int) : Bk := ⟨true, s, at'.map lineS⟩
def wdS (s : Int) (at' : List Int) : Wd := ⟨true, bkS s at', at'.map fun _ => bdS⟩
def startOk (s : Int) (at' : List Int) : Bool := inB s 1 200 && (decide (at'.length ≤ 20) && ((at'.all fun x => inB x 0 (s - 1)) && decide at'.Nodup))
def startW (s : Int) (at' : List Int) : Wd := if startOk s at' = true then wdS s at' else wd0
theorem lineS_ok (s : Int) : LnOk (lineS s) := by
  refine ⟨by simp [lineS], by simp [lineS], by simp [lineS, totL], by simp [lineS], by simp [lineS], by simp [lineS], fun i h => ?_, fun i h => ?_, by simp [lineS, reachL, maxI], .inl rfl⟩
  · have : i = 0 := by simp [lineS] at h; omega
    subst this; simp [lineS, totL]
  · simp [lineS] at h
theorem secs_lineS (l : List Int) : secs (l.map lineS) = l := by
  induction l with
  | nil => rfl
  | cons a l ih => rw [List.map_cons, secs_cons, ih]; rfl
/-- A book of lines with one section each is right where these are apart. -/
theorem bkS_code {s : Int} {l : List Int} (h1 : inB s 1 200 = true) (h2 : l.length ≤ 20) (h3 : ∀ x, x ∈ l → inB x 0 (s - 1) = true) : bookOkB (bkS s l) = if l.Nodup then 0 else 5 := by
  have a : ∀ x, x ∈ l.map lineS → ok2 s x = true ∧ ok3 x = true ∧ ok4 x = true := fun x hx => by
    obtain ⟨y, hy, rfl⟩ := List.mem_map.1 hx
    refine (lineS_ok y).to fun z hz => ?_
    have : z = y := by simpa [lineS] using hz
    subst this
    have := h3 z hy
    simpa [inB] using this
  have k1 : ok1 (bkS s l) = true := by simp only [ok1, bkS, h1, List.length_map, Bool.true_and, decide_eq_true_eq]; exact h2
  have k2 : (bkS s l).lines.all (ok2 s) = true := List.all_eq_true.2 fun x hx => (a x hx).1
  have k3 : (bkS s l).lines.all ok3 = true := List.all_eq_true.2 fun x hx => (a x hx).2.1
  have k4 : (bkS s l).lines.all ok4 = true := List.all_eq_true.2 fun x hx => (a x hx).2.2
  have ks : secs (bkS s l).lines = l := secs_lineS l
  split
  · rename_i hn; exact bookOkB_0 k1 k2 k3 k4 (by rw [ks]; exact hn)
  · rename_i hn; exact bookOkB_5 k1 k2 k3 k4 (by rw [ks]; exact hn)
theorem startOk_all {s : Int} {l : List Int} (h : startOk s l = true) : inB s 1 200 = true ∧ l.length ≤ 20 ∧ (∀ x, x ∈ l → inB x 0 (s - 1) = true) ∧ l.Nodup := by
  simp only [startOk, Bool.and_eq_true, decide_eq_true_eq, List.all_eq_true] at h
  exact ⟨h.1, h.2.1, h.2.2.1, h.2.2.2⟩
theorem wdS_ok {s : Int} {l : List Int} (h : startOk s l = true) : rightB (wdS s l) = true := by
  obtain ⟨h1, h2, h3, h4⟩ := startOk_all h
  refine rightB_mk rfl (by show bookOkB (bkS s l) = 0; rw [bkS_code h1 h2 h3, if_pos h4]) (by simp [wdS, bkS]) fun i hi hl => ?_
  simp only [wdS, bkS, List.getElem_map]
  rfl
theorem startW_ok {s : Int} {l : List Int} (h : (startW s l).ok = true) : startOk s l = true ∧ startW s l = wdS s l := by
  unfold startW at h ⊢
  split at h
  · rename_i q; exact ⟨q, by rw [if_pos q]⟩
  · simp [wd0] at h
/-- An act of a drive (an act that cannot be read leaves the world). -/
def stepM (w : Wd) (a : Actn) : Mv := if (stepWd w a).code = 1 then ⟨1, w⟩ else stepWd w a
def goW (w : Wd) : List Actn → List Mv
  | [] => []
  | a :: as => stepM w a :: goW (stepM w a).world as
def endW (w : Wd) : List Actn → Wd
  | [] => w
  | a :: as => endW (stepM w a).world as
def driveW (s : Int) (at' : List Int) (as : List Actn) : List Mv := if (startW s at').ok = true ∧ as.length ≤ 2000 then goW (startW s at') as else []
theorem goW_snoc (w : Wd) (as : List Actn) (a : Actn) : goW w (as ++ [a]) = goW w as ++ [stepM (endW w as) a] := by
  induction as generalizing w with
  | nil => rfl
  | cons x xs ih => simp only [List.cons_append, goW, endW, ih]
theorem endW_snoc (w : Wd) (as : List Actn) (a : Actn) : endW w (as ++ [a]) = (stepM (endW w as) a).world := by
  induction as generalizing w with
  | nil => rfl
  | cons x xs ih => simp only [List.cons_append, endW, ih]
theorem goW_len (w : Wd) (as : List Actn) : (goW w as).length = as.length := by
  induction as generalizing w with
  | nil => rfl
  | cons x xs ih => simp only [goW, List.length_cons, ih]
theorem stepM_ok {w : Wd} (h : rightB w = true) (a : Actn) : rightB (stepM w a).world = true := by
  unfold stepM
  split
  · exact h
  · rename_i hc; exact stepWd_ok hc
theorem goW_ok {w : Wd} (h : rightB w = true) : ∀ as : List Actn, ∀ m, m ∈ goW w as → rightB m.world = true
  | [], m, hm => by simp [goW] at hm
  | a :: as, m, hm => by
    simp only [goW, List.mem_cons] at hm
    rcases hm with rfl | hm
    · exact stepM_ok h a
    · exact goW_ok (stepM_ok h a) as m hm
theorem endW_ok {w : Wd} (h : rightB w = true) : ∀ as : List Actn, rightB (endW w as) = true
  | [] => h
  | a :: as => endW_ok (stepM_ok h a) as
end Go.Proofs.YtpoedfmkiiijnaaAm
