/- What an event does, over plain data. Plain definitions and lemmas; no program in sight. -/
import Derived.Test.YtpoedfmkiiijnaaPu1
namespace Go.Proofs.YtpoedfmkiiijnaaAm
def lastG (l : Ln) : Gr := gAt l.grs (l.grs.length - 1)
/-- What is given back at once. -/
def settleL (l : Ln) : Ln :=
  if l.drop = -1 then l else
    let l1 : Ln := if maxI l.drop (reachL l.grs) < totL l then { l with way := l.way.take (maxI l.drop (reachL l.grs) - l.gone).toNat } else l
    if totL l1 ≤ l1.drop then { l1 with drop := -1 } else l1
/-- An event at a line: why it is not done (0: it is), and the line behind it. -/
def evLn (ls : List Ln) (l : Ln) (e : Evt) : Int × Ln :=
  if e.op = 1 then
    (if 0 ≤ ownB ls e.n then (2, l) else if l.drop ≠ -1 then (3, l) else if l.way.length = 100 ∨ totL l = 1000000 then (4, l) else (0, { l with way := l.way ++ [e.n] }))
  else if e.op = 2 then
    (if e.n < l.gone ∨ totL l < e.n ∨ (l.drop ≠ -1 ∧ l.drop < e.n) then (2, l) else if l.grs.length = 20 ∨ (lastG l).ver = 1000000 then (4, l) else (0, { l with grs := l.grs ++ [⟨(lastG l).ver + 1, e.n⟩] }))
  else if e.op = 3 then
    (if fstI (hasV e.n) l.grs < 0 then (2, l) else if reachL (l.grs.drop (fstI (hasV e.n) l.grs).toNat) < l.gone then (3, l) else (0, { l with grs := l.grs.drop (fstI (hasV e.n) l.grs).toNat }))
  else if e.op = 4 then
    (if e.n < l.gone ∨ reachL l.grs < e.n then (2, l) else (0, { l with way := l.way.drop (e.n - l.gone).toNat, gone := e.n, drop := if l.drop ≠ -1 ∧ l.drop < e.n then e.n else l.drop }))
  else
    (if e.n < l.gone ∨ totL l ≤ e.n then (2, l) else if e.n < (lastG l).cel then (3, l) else (0, { l with drop := e.n }))
def doV (b : Bk) (e : Evt) : Dn :=
  let r := evLn b.lines (lnAt b e.train) e
  if r.1 = 0 then ⟨0, { b with lines := b.lines.set e.train.toNat (settleL r.2) }⟩ else ⟨r.1, b⟩
def doB (b : Bk) (e : Evt) : Dn := if evOkB b e = true then doV b e else ⟨1, bk0⟩
theorem reachL_ge (gs : List Gr) (i : Nat) (h : i < gs.length) : gs[i].cel ≤ reachL gs ∧ 0 ≤ reachL gs := by
  have key : ∀ (l : List Gr) (a : Int), a ≤ l.foldl (fun n g => maxI n g.cel) a ∧ ∀ g, g ∈ l → g.cel ≤ l.foldl (fun n g => maxI n g.cel) a := by
    intro l
    induction l with
    | nil => intro a; exact ⟨Int.le_refl _, fun g hg => by simp at hg⟩
    | cons x l ih =>
      intro a
      obtain ⟨h1, h2⟩ := ih (maxI a x.cel)
      have : a ≤ maxI a x.cel ∧ x.cel ≤ maxI a x.cel := by unfold maxI; split <;> omega
      refine ⟨by simp only [List.foldl_cons]; omega, fun g hg => ?_⟩
      simp only [List.foldl_cons]
      rcases List.mem_cons.1 hg with rfl | hg
      · omega
      · exact h2 g hg
  exact ⟨(key gs 0).2 _ (List.getElem_mem h), (key gs 0).1⟩
theorem reachL_nn (gs : List Gr) : 0 ≤ reachL gs := by
  cases gs with
  | nil => simp [reachL]
  | cons g r => exact (reachL_ge (g :: r) 0 (by simp)).2
/-- The most of some leashes is one of them, or nothing. -/
theorem reachL_le {gs : List Gr} {m : Int} (h0 : 0 ≤ m) (h : ∀ g, g ∈ gs → g.cel ≤ m) : reachL gs ≤ m := by
  have key : ∀ (l : List Gr) (a : Int), a ≤ m → (∀ g, g ∈ l → g.cel ≤ m) → l.foldl (fun n g => maxI n g.cel) a ≤ m := by
    intro l
    induction l with
    | nil => intro a ha _; exact ha
    | cons x l ih =>
      intro a ha hl
      simp only [List.foldl_cons]
      refine ih _ ?_ fun g hg => hl g (by simp [hg])
      have := hl x (by simp)
      unfold maxI; split <;> omega
  exact key gs 0 h0 h
/-- What a right book says of a line. -/
structure LnOk (l : Ln) : Prop where
  g0 : 0 ≤ l.gone
  g1 : l.gone ≤ 1000000
  t1 : totL l ≤ 1000000
  w1 : l.way.length ≤ 100
  n0 : 1 ≤ l.grs.length
  n1 : l.grs.length ≤ 20
  gs : ∀ i (h : i < l.grs.length), 0 ≤ l.grs[i].cel ∧ l.grs[i].cel ≤ totL l ∧ 0 ≤ l.grs[i].ver ∧ l.grs[i].ver ≤ 1000000
  ch : ∀ i (h : i + 1 < l.grs.length), l.grs[i + 1].ver = (l.grs[i]'(by omega)).ver + 1
  rg : l.gone ≤ reachL l.grs
  dr : l.drop = -1 ∨ (l.gone ≤ l.drop ∧ l.drop < totL l ∧ (lastG l).cel ≤ l.drop ∧ totL l ≤ reachL l.grs)
theorem LnOk.of {sec : Int} {l : Ln} (h2 : ok2 sec l = true) (h3 : ok3 l = true) (h4 : ok4 l = true) : LnOk l := by
  obtain ⟨a1, a2, a3, a4, a5⟩ := ok2_in h2
  simp only [ok3, inB, Bool.and_eq_true, decide_eq_true_eq] at h3
  obtain ⟨⟨⟨b1, b2⟩, b3⟩, b4⟩ := h3
  rw [List.all_eq_true] at b3
  have hg : ∀ i (h : i < l.grs.length), gOk (totL l) l.grs i = true := fun i h => b3 i (List.mem_range.2 h)
  refine ⟨a1, a2, a4, a5, by omega, by omega, fun i h => ?_, fun i h => ?_, b4, ?_⟩
  · have := hg i h
    simp only [gOk, gAt_eq h, inB, Bool.and_eq_true, decide_eq_true_eq] at this
    omega
  · have := hg (i + 1) h
    simp only [gOk, gAt_eq h, Nat.add_sub_cancel, gAt_eq (show i < l.grs.length by omega), Bool.and_eq_true, Bool.or_eq_true, decide_eq_true_eq] at this
    rcases this.2 with h1 | h1
    · omega
    · exact h1
  · simp only [ok4, inB, Bool.or_eq_true, Bool.and_eq_true, decide_eq_true_eq] at h4
    rcases h4 with h | ⟨⟨h, h'⟩, h''⟩
    · exact .inl h
    · exact .inr ⟨h.1, by omega, h', h''⟩
theorem bookOk_ln {b : Bk} (h : bookOkB b = 0) {i : Nat} (hi : i < b.lines.length) : LnOk b.lines[i] := by
  obtain ⟨_, h2, h3, h4, _⟩ := bookOk_all h
  exact LnOk.of (all_at h2 hi) (all_at h3 hi) (all_at h4 hi)
theorem LnOk.drop {l : Ln} (h : LnOk l) (hd : l.drop ≠ -1) : 0 ≤ l.drop := by
  rcases h.dr with e | e
  · exact absurd e hd
  · have := h.g0; omega
/-- A right line keeps what it has. -/
theorem LnOk.settle {l : Ln} (h : LnOk l) : settleL l = l := by
  unfold settleL
  rcases h.dr with e | ⟨_, d1, _, d2⟩
  · rw [if_pos e]
  · split
    · rfl
    · have : ¬ maxI l.drop (reachL l.grs) < totL l := by unfold maxI; split <;> omega
      rw [if_neg this]
      simp only
      rw [if_neg (by omega)]
/-- The versions go up by one: a version's place. -/
theorem LnOk.place {l : Ln} (h : LnOk l) (i : Nat) (hi : i < l.grs.length) : l.grs[i].ver = (gAt l.grs 0).ver + i := by
  have h0 := h.n0
  rw [gAt_eq (by omega)]
  induction i with
  | zero => simp
  | succ i ih => rw [h.ch i hi, ih (by omega)]; omega
theorem LnOk.find {l : Ln} (h : LnOk l) (n : Int) : fstI (hasV n) l.grs = if (gAt l.grs 0).ver ≤ n ∧ n < (gAt l.grs 0).ver + l.grs.length then n - (gAt l.grs 0).ver else -1 := by
  split
  · rename_i hh
    have hi : (n - (gAt l.grs 0).ver).toNat < l.grs.length := by omega
    rw [fstI_some (i := (n - (gAt l.grs 0).ver).toNat) hi]
    · omega
    · simp only [hasV, decide_eq_true_eq, h.place _ hi]; omega
    · intro j hj
      simp only [hasV, decide_eq_false_iff_not, h.place j (by omega)]; omega
  · rename_i hh
    refine fstI_none fun j hj => ?_
    simp only [hasV, decide_eq_false_iff_not, h.place j hj]
    omega
theorem LnOk.reach {l : Ln} (h : LnOk l) : reachL l.grs ≤ totL l := reachL_le (by have := h.g0; unfold totL; omega) fun g hg => by
  obtain ⟨i, hi, rfl⟩ := List.getElem_of_mem hg
  exact (h.gs i hi).2.1
theorem reachL_drop (gs : List Gr) (k : Nat) : reachL (gs.drop k) ≤ reachL gs := reachL_le (reachL_nn gs) fun g hg => by
  obtain ⟨i, hi, rfl⟩ := List.getElem_of_mem (List.mem_of_mem_drop hg)
  exact (reachL_ge gs i hi).1
theorem reachL_app (gs : List Gr) (g : Gr) : reachL (gs ++ [g]) = maxI (reachL gs) g.cel := reachL_snoc gs g
/-- What an event that is done leaves is within bounds. -/
theorem evLn_b {ls : List Ln} {l l' : Ln} {e : Evt} (h : LnOk l) (hn : 0 ≤ e.n ∧ e.n ≤ 1000000) (he : evLn ls l e = (0, l')) :
    0 ≤ l'.gone ∧ l'.gone ≤ 1000000 ∧ l'.way.length ≤ 101 ∧ totL l' ≤ 1000001 ∧ (l'.drop = -1 ∨ (l'.gone ≤ l'.drop ∧ l'.drop ≤ 1000000)) ∧ 0 ≤ reachL l'.grs ∧ reachL l'.grs ≤ 1000000 := by
  have hr := h.reach
  have hr0 := reachL_nn l.grs
  have ht := h.t1
  have hg := h.g0
  have hw := h.w1
  have hd : l.drop = -1 ∨ (l.gone ≤ l.drop ∧ l.drop ≤ 1000000) := by
    rcases h.dr with e | e
    · exact .inl e
    · exact .inr ⟨e.1, by omega⟩
  have hg1 := h.g1
  have htd : totL l = l.gone + l.way.length := rfl
  unfold evLn at he
  split at he
  · split at he
    · simp at he
    · split at he
      · simp at he
      · split at he
        · simp at he
        · simp only [Prod.mk.injEq, true_and] at he; subst he
          refine ⟨hg, hg1, by simp; omega, by simp [totL]; omega, hd, hr0, by simp only; omega⟩
  · split at he
    · split at he
      · simp at he
      · split at he
        · simp at he
        · rename_i h1 _
          simp only [Prod.mk.injEq, true_and] at he; subst he
          refine ⟨hg, hg1, by simp; omega, by simp only [totL] at ht ⊢; omega, hd, ?_, ?_⟩
          · exact reachL_nn _
          · simp only [reachL_app]; unfold maxI; split <;> omega
    · split at he
      · split at he
        · simp at he
        · split at he
          · simp at he
          · simp only [Prod.mk.injEq, true_and] at he; subst he
            have := reachL_drop l.grs (fstI (hasV e.n) l.grs).toNat
            refine ⟨hg, hg1, by simp; omega, by simp only [totL] at ht ⊢; omega, hd, reachL_nn _, by simp only; omega⟩
      · split at he
        · split at he
          · simp at he
          · rename_i h1
            simp only [Prod.mk.injEq, true_and] at he; subst he
            refine ⟨hn.1, hn.2, by simp; omega, ?_, ?_, hr0, by simp only; omega⟩
            · simp only [totL, List.length_drop]; omega
            · simp only
              split
              · exact .inr ⟨by omega, by omega⟩
              · rename_i h2
                rcases hd with e | e
                · exact .inl e
                · right; omega
        · split at he
          · simp at he
          · split at he
            · simp at he
            · simp only [Prod.mk.injEq, true_and] at he; subst he
              refine ⟨hg, hg1, by simp; omega, by simp only [totL] at ht ⊢; omega, .inr ⟨by simp only; omega, hn.2⟩, hr0, by simp only; omega⟩
end Go.Proofs.YtpoedfmkiiijnaaAm
