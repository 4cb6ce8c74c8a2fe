/- What the functions of the book compute, over plain data. Plain definitions and lemmas; no program in sight. -/
import Derived.Test.YtpoedfmkiiijnaaPur
namespace Go.Proofs.YtpoedfmkiiijnaaAm
def maxI (a b : Int) : Int := if a < b then b else a
def reachL (gs : List Gr) : Int := gs.foldl (fun n g => maxI n g.cel) 0
def totL (l : Ln) : Int := l.gone + l.way.length
def ok2 (sec : Int) (l : Ln) : Bool := inB l.gone 0 1000000 && inB (totL l) 0 1000000 && decide (l.way.length ≤ 100) && l.way.all fun s => inB s 0 (sec - 1)
def gAt (gs : List Gr) (i : Nat) : Gr := gs.getD i ⟨0, 0⟩
def gOk (tot : Int) (gs : List Gr) (i : Nat) : Bool := inB (gAt gs i).cel 0 tot && inB (gAt gs i).ver 0 1000000 && (decide (i = 0) || decide ((gAt gs i).ver = (gAt gs (i - 1)).ver + 1))
def ok3 (l : Ln) : Bool := inB l.grs.length 1 20 && (List.range l.grs.length).all (gOk (totL l) l.grs) && decide (l.gone ≤ reachL l.grs)
def ok4 (l : Ln) : Bool := decide (l.drop = -1) || (inB l.drop l.gone (totL l - 1) && decide ((gAt l.grs (l.grs.length - 1)).cel ≤ l.drop) && decide (totL l ≤ reachL l.grs))
def secs (ls : List Ln) : List Int := (ls.map (·.way)).flatten
def ok1 (b : Bk) : Bool := b.ok && inB b.sec 1 200 && decide (b.lines.length ≤ 20)
def bookOkB (b : Bk) : Int := if ok1 b = false then 1 else if b.lines.all (ok2 b.sec) = false then 2 else if b.lines.all ok3 = false then 3 else if b.lines.all ok4 = false then 4 else if (secs b.lines).Nodup then 0 else 5
theorem bookOkB_1 {b : Bk} (h : ok1 b = false) : bookOkB b = 1 := by simp [bookOkB, h]
theorem bookOkB_2 {b : Bk} (h1 : ok1 b = true) (h : b.lines.all (ok2 b.sec) = false) : bookOkB b = 2 := by simp only [bookOkB, h1, h]; simp
theorem bookOkB_3 {b : Bk} (h1 : ok1 b = true) (h2 : b.lines.all (ok2 b.sec) = true) (h : b.lines.all ok3 = false) : bookOkB b = 3 := by simp only [bookOkB, h1, h2, h]; simp
theorem bookOkB_4 {b : Bk} (h1 : ok1 b = true) (h2 : b.lines.all (ok2 b.sec) = true) (h3 : b.lines.all ok3 = true) (h : b.lines.all ok4 = false) : bookOkB b = 4 := by simp only [bookOkB, h1, h2, h3, h]; simp
theorem bookOkB_5 {b : Bk} (h1 : ok1 b = true) (h2 : b.lines.all (ok2 b.sec) = true) (h3 : b.lines.all ok3 = true) (h4 : b.lines.all ok4 = true) (h : ¬ (secs b.lines).Nodup) : bookOkB b = 5 := by simp only [bookOkB, h1, h2, h3, h4, h]; simp
theorem bookOkB_0 {b : Bk} (h1 : ok1 b = true) (h2 : b.lines.all (ok2 b.sec) = true) (h3 : b.lines.all ok3 = true) (h4 : b.lines.all ok4 = true) (h : (secs b.lines).Nodup) : bookOkB b = 0 := by simp only [bookOkB, h1, h2, h3, h4, h]; simp
theorem all_false_at {α : Type} {p : α → Bool} {xs : List α} {i : Nat} (hi : i < xs.length) (h : p xs[i] = false) : xs.all p = false := by
  rw [List.all_eq_false]; exact ⟨xs[i], List.getElem_mem hi, by simp [h]⟩
theorem all_true_at {α : Type} {p : α → Bool} {xs : List α} (h : ∀ i (hi : i < xs.length), p xs[i] = true) : xs.all p = true := by
  rw [List.all_eq_true]; intro x hx; obtain ⟨i, hi, rfl⟩ := List.getElem_of_mem hx; exact h i hi
theorem all_at {α : Type} {p : α → Bool} {xs : List α} (h : xs.all p = true) {i : Nat} (hi : i < xs.length) : p xs[i] = true := by
  rw [List.all_eq_true] at h; exact h _ (List.getElem_mem hi)
theorem reachL_snoc (gs : List Gr) (g : Gr) : reachL (gs ++ [g]) = maxI (reachL gs) g.cel := by simp [reachL]
theorem take_snoc {α : Type} {xs : List α} {i : Nat} (h : i < xs.length) : xs.take (i + 1) = xs.take i ++ [xs[i]] := by
  rw [List.take_add_one, List.getElem?_eq_getElem h]; rfl
theorem gAt_eq {gs : List Gr} {i : Nat} (h : i < gs.length) : gAt gs i = gs[i] := by simp [gAt, h]
theorem ok2_in {sec : Int} {l : Ln} (h : ok2 sec l = true) : 0 ≤ l.gone ∧ l.gone ≤ 1000000 ∧ 0 ≤ totL l ∧ totL l ≤ 1000000 ∧ l.way.length ≤ 100 := by
  simp only [ok2, inB, Bool.and_eq_true, decide_eq_true_eq] at h; omega
theorem secs_app (a b : List Ln) : secs (a ++ b) = secs a ++ secs b := by simp [secs]
theorem secs_cons (a : Ln) (b : List Ln) : secs (a :: b) = a.way ++ secs b := by simp [secs]
theorem secs_nil : secs [] = [] := rfl
/-- One step of the last check: what has been met, and the next. -/
theorem secs_take {ls : List Ln} {k : Nat} (h : k < ls.length) : secs (ls.take (k + 1)) = secs (ls.take k) ++ ls[k].way := by rw [take_snoc h, secs_app, secs_cons, secs_nil, List.append_nil]
theorem secs_split {ls : List Ln} {k : Nat} (h : k < ls.length) : ∃ r, secs ls = secs (ls.take k) ++ (ls[k].way ++ r) := by
  refine ⟨secs (ls.drop (k + 1)), ?_⟩
  have e : ls = ls.take k ++ ls[k] :: ls.drop (k + 1) := by rw [List.getElem_cons_drop]; exact (List.take_append_drop k ls).symm
  conv => lhs; rw [e]
  rw [secs_app, secs_cons]
/-- The first place where p holds, -1 for none. -/
def fstI {α : Type} (p : α → Bool) (xs : List α) : Int := match xs.findIdx? p with
  | some i => i
  | none => -1
theorem fstI_some {α : Type} {p : α → Bool} {xs : List α} {i : Nat} (hi : i < xs.length) (hp : p xs[i] = true) (hb : ∀ j (hj : j < i), p (xs[j]'(by omega)) = false) : fstI p xs = i := by
  have : xs.findIdx? p = some i := by
    rw [List.findIdx?_eq_some_iff_getElem]
    exact ⟨hi, hp, fun j hj => by rw [hb j hj]; simp⟩
  simp [fstI, this]
theorem fstI_none {α : Type} {p : α → Bool} {xs : List α} (h : ∀ j (hj : j < xs.length), p xs[j] = false) : fstI p xs = -1 := by
  have : xs.findIdx? p = none := by
    rw [List.findIdx?_eq_none_iff]
    intro x hx; obtain ⟨i, hi, rfl⟩ := List.getElem_of_mem hx; exact h i hi
  simp [fstI, this]
theorem fstI_nn {α : Type} {p : α → Bool} {xs : List α} : 0 ≤ fstI p xs ↔ ∃ x, x ∈ xs ∧ p x = true := by
  unfold fstI
  cases h : xs.findIdx? p with
  | none =>
    rw [List.findIdx?_eq_none_iff] at h
    simp only [Int.reduceNeg, Int.reduceLE, false_iff]
    rintro ⟨x, hx, hp⟩
    rw [h x hx] at hp; cases hp
  | some i =>
    rw [List.findIdx?_eq_some_iff_getElem] at h
    obtain ⟨hi, hp, _⟩ := h
    simp only [show (0 : Int) ≤ (i : Int) by omega, true_iff]
    exact ⟨_, List.getElem_mem hi, hp⟩
theorem fstI_range {α : Type} {p : α → Bool} {xs : List α} : (fstI p xs = -1 ∧ ∀ x, x ∈ xs → p x = false) ∨ ∃ i, ∃ hi : i < xs.length, fstI p xs = (i : Nat) ∧ p xs[i] = true ∧ ∀ j (hj : j < i), p (xs[j]'(by omega)) = false := by
  unfold fstI
  cases h : xs.findIdx? p with
  | none => rw [List.findIdx?_eq_none_iff] at h; exact .inl ⟨rfl, h⟩
  | some i =>
    rw [List.findIdx?_eq_some_iff_getElem] at h
    obtain ⟨hi, hp, hb⟩ := h
    exact .inr ⟨i, hi, rfl, hp, fun j hj => by have := hb j hj; simpa using this⟩
def isI (x : Int) (y : Int) : Bool := decide (x = y)
def isG (g : Gr) (h : Gr) : Bool := decide (g.ver = h.ver) && decide (g.cel = h.cel)
def hasV (n : Int) (g : Gr) : Bool := decide (g.ver = n)
def inWay (s : Int) (l : Ln) : Bool := decide (s ∈ l.way)
def ownB (ls : List Ln) (s : Int) : Int := fstI (inWay s) ls
theorem contI (xs : List Int) (x : Int) : decide (0 ≤ fstI (isI x) xs) = decide (x ∈ xs) := by
  have : (0 ≤ fstI (isI x) xs) ↔ x ∈ xs := by
    rw [fstI_nn]
    constructor
    · rintro ⟨y, hy, h⟩; simp [isI] at h; subst h; exact hy
    · intro h; exact ⟨x, h, by simp [isI]⟩
  simp [this]
theorem contG (xs : List Gr) (x : Gr) : decide (0 ≤ fstI (isG x) xs) = decide (x ∈ xs) := by
  have : (0 ≤ fstI (isG x) xs) ↔ x ∈ xs := by
    rw [fstI_nn]
    constructor
    · rintro ⟨y, hy, h⟩
      simp [isG] at h
      have : x = y := by cases x; cases y; simp_all
      subst this; exact hy
    · intro h; exact ⟨x, h, by simp [isG]⟩
  simp [this]
def lineB (sec : Int) (l : Ln) : Int := if ok2 sec l = false then 2 else if ok3 l = false then 3 else if ok4 l = false then 4 else 0
theorem lineB_2 {sec : Int} {l : Ln} (h : ok2 sec l = false) : lineB sec l = 2 := by simp [lineB, h]
theorem lineB_3 {sec : Int} {l : Ln} (h : ok2 sec l = true) (h3 : ok3 l = false) : lineB sec l = 3 := by simp [lineB, h, h3]
theorem lineB_4 {sec : Int} {l : Ln} (h : ok2 sec l = true) (h3 : ok3 l = true) (h4 : ok4 l = false) : lineB sec l = 4 := by simp [lineB, h, h3, h4]
theorem lineB_0 {sec : Int} {l : Ln} (h : ok2 sec l = true) (h3 : ok3 l = true) (h4 : ok4 l = true) : lineB sec l = 0 := by simp [lineB, h, h3, h4]
/-- How far the reference's checks have come. -/
def stage (b : Bk) (i : Nat) : Prop := (1 ≤ i → b.lines.all (ok2 b.sec) = true) ∧ (2 ≤ i → b.lines.all ok3 = true) ∧ (3 ≤ i → b.lines.all ok4 = true)
theorem stage_hit {b : Bk} {i j : Nat} (h1 : ok1 b = true) (hs : stage b i) (hi : i < 3) (hj : j < b.lines.length) (h : lineB b.sec b.lines[j] = (i : Int) + 2) : bookOkB b = (i : Int) + 2 := by
  obtain ⟨s1, s2, s3⟩ := hs
  have hl : lineB b.sec b.lines[j] = 2 ∨ lineB b.sec b.lines[j] = 3 ∨ lineB b.sec b.lines[j] = 4 := by omega
  unfold lineB at h hl
  cases e2 : ok2 b.sec b.lines[j] with
  | false => rw [e2] at h; simp only [if_true] at h; rw [← h]; exact bookOkB_2 h1 (all_false_at hj e2)
  | true =>
    rw [e2] at h hl
    simp only [Bool.true_eq_false, if_false] at h hl
    cases e3 : ok3 b.lines[j] with
    | false => rw [e3] at h; simp only [if_true] at h; rw [← h]; exact bookOkB_3 h1 (s1 (by omega)) (all_false_at hj e3)
    | true =>
      rw [e3] at h hl
      simp only [Bool.true_eq_false, if_false] at h hl
      cases e4 : ok4 b.lines[j] with
      | false => rw [e4] at h; simp only [if_true] at h; rw [← h]; exact bookOkB_4 h1 (s1 (by omega)) (s2 (by omega)) (all_false_at hj e4)
      | true => rw [e4] at hl; simp at hl
theorem stage_next {b : Bk} {i : Nat} (hs : stage b i) (hi : i < 3) (h : ∀ j (hj : j < b.lines.length), lineB b.sec b.lines[j] ≠ (i : Int) + 2) : stage b (i + 1) := by
  obtain ⟨s1, s2, s3⟩ := hs
  have g2 : i = 0 → b.lines.all (ok2 b.sec) = true := fun e => all_true_at fun j hj => by
    cases e2 : ok2 b.sec b.lines[j] with
    | true => rfl
    | false => exact absurd (lineB_2 e2) (by have := h j hj; subst e; simpa using this)
  have g3 : i = 1 → b.lines.all ok3 = true := fun e => all_true_at fun j hj => by
    cases e3 : ok3 b.lines[j] with
    | true => rfl
    | false => exact absurd (lineB_3 (all_at (s1 (by omega)) hj) e3) (by have := h j hj; subst e; simpa using this)
  have g4 : i = 2 → b.lines.all ok4 = true := fun e => all_true_at fun j hj => by
    cases e4 : ok4 b.lines[j] with
    | true => rfl
    | false => exact absurd (lineB_4 (all_at (s1 (by omega)) hj) (all_at (s2 (by omega)) hj) e4) (by have := h j hj; subst e; simpa using this)
  refine ⟨fun _ => ?_, fun _ => ?_, fun _ => ?_⟩
  · by_cases e : i = 0
    · exact g2 e
    · exact s1 (by omega)
  · by_cases e : i = 1
    · exact g3 e
    · exact s2 (by omega)
  · exact g4 (by omega)
def ownerB (b : Bk) (s : Int) : Int := if bookOkB b = 0 then ownB b.lines s else -1
def lnAt (b : Bk) (t : Int) : Ln := b.lines.getD t.toNat line0
def reachB (b : Bk) (t : Int) : Int := if bookOkB b = 0 ∧ inB t 0 ((b.lines.length : Int) - 1) = true then reachL (lnAt b t).grs else -1
def evOkB (b : Bk) (e : Evt) : Bool := decide (bookOkB b = 0) && (inB e.op 1 5 && (inB e.train 0 ((b.lines.length : Int) - 1) && (if e.op = 1 then inB e.n 0 (b.sec - 1) else inB e.n 0 1000000)))
theorem bookOk_sec {b : Bk} (h : bookOkB b = 0) : 1 ≤ b.sec ∧ b.sec ≤ 200 ∧ b.lines.length ≤ 20 ∧ b.ok = true := by
  have h1 : ok1 b = true := by
    cases e : ok1 b with
    | true => rfl
    | false => rw [bookOkB_1 e] at h; cases h
  simp only [ok1, inB, Bool.and_eq_true, decide_eq_true_eq] at h1
  exact ⟨h1.1.2.1, h1.1.2.2, h1.2, h1.1.1⟩
theorem bookOk_all {b : Bk} (h : bookOkB b = 0) : ok1 b = true ∧ b.lines.all (ok2 b.sec) = true ∧ b.lines.all ok3 = true ∧ b.lines.all ok4 = true ∧ (secs b.lines).Nodup := by
  unfold bookOkB at h
  split at h
  · cases h
  · split at h
    · cases h
    · split at h
      · cases h
      · split at h
        · cases h
        · split at h
          · simp_all
          · cases h
end Go.Proofs.YtpoedfmkiiijnaaAm
