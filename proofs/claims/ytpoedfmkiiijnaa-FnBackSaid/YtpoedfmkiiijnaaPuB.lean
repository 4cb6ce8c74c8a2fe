/- Giving back in two steps, over plain data. Plain lemmas; no program in sight. -/
import Derived.Test.YtpoedfmkiiijnaaPu4
namespace Go.Proofs.YtpoedfmkiiijnaaAm
set_option linter.unusedVariables false
set_option linter.unusedSectionVars false
set_option linter.unusedSimpArgs false
def rngI (k : Nat) : List Int := (List.range k).map fun i : Nat => (i : Int)
theorem rngI_len (k : Nat) : (rngI k).length = k := by simp [rngI]
theorem rngI_mem {k : Nat} {s : Int} : s ∈ rngI k ↔ 0 ≤ s ∧ s < k := by
  simp only [rngI, List.mem_map, List.mem_range]
  constructor
  · rintro ⟨i, hi, rfl⟩; omega
  · rintro ⟨h1, h2⟩; exact ⟨s.toNat, by omega, by omega⟩
theorem rngI_succ (k : Nat) : rngI (k + 1) = rngI k ++ [(k : Int)] := by simp [rngI, List.range_succ]
theorem rngI_nodup (k : Nat) : (rngI k).Nodup := by
  induction k with
  | zero => simp [rngI]
  | succ k ih =>
    rw [rngI_succ, List.nodup_append]
    refine ⟨ih, by simp, fun a ha b hb hab => ?_⟩
    simp at hb; subst hb; subst hab
    have := (rngI_mem.1 ha).2; omega
theorem rngI_take {k m : Nat} (h : m ≤ k) : (rngI k).take m = rngI m := by
  simp [rngI, ← List.map_take, List.take_range, Nat.min_eq_left h]
/-- A book of two lines, of which the other has nothing. -/
def bkT (n : Nat) (w : Nat) (gs : List Gr) (d : Int) : Bk := ⟨true, n, [⟨0, rngI w, gs, d⟩, line0]⟩
theorem settle_keep {l : Ln} (hm : totL l ≤ maxI l.drop (reachL l.grs)) (hq : l.drop < totL l) : settleL l = l := by
  unfold settleL
  split
  · rfl
  · rw [if_neg (show ¬ maxI l.drop (reachL l.grs) < totL l by omega)]
    simp only
    rw [if_neg (show ¬ totL l ≤ l.drop by omega)]
theorem settle_cut {l : Ln} {m : Int} (hd : l.drop ≠ -1) (hM : maxI l.drop (reachL l.grs) = m) (h : m < totL l) (hg : l.gone ≤ m) (hq : l.drop < m) : settleL l = { l with way := l.way.take (m - l.gone).toNat } := by
  unfold settleL
  rw [if_neg hd, hM, if_pos h]
  simp only
  rw [if_neg]
  simp only [totL, List.length_take] at h ⊢
  omega
theorem settle_end {l : Ln} {m : Int} (hd : l.drop ≠ -1) (hM : maxI l.drop (reachL l.grs) = m) (h : m < totL l) (hg : l.gone ≤ m) (hq : m ≤ l.drop) : settleL l = { l with way := l.way.take (m - l.gone).toNat, drop := -1 } := by
  unfold settleL
  rw [if_neg hd, hM, if_pos h]
  simp only
  rw [if_pos]
  simp only [totL, List.length_take] at h ⊢
  omega
theorem line0_ok : LnOk line0 := by
  refine ⟨by decide, by decide, by decide, by decide, by decide, by decide, fun i h => ?_, fun i h => ?_, by decide, .inl rfl⟩
  · have : i = 0 := by simp [line0] at h; omega
    subst this; simp [line0, totL]
  · simp [line0] at h
theorem bkT_ok {n w : Nat} {gs : List Gr} {d : Int} (h1 : 1 ≤ n) (h2 : n ≤ 200) (hw : w ≤ n) (h : LnOk ⟨0, rngI w, gs, d⟩) : bookOkB (bkT n w gs d) = 0 := by
  obtain ⟨a2, a3, a4⟩ := h.to (sec := n) fun s hs => by have := rngI_mem.1 hs; omega
  obtain ⟨b2, b3, b4⟩ := line0_ok.to (sec := n) fun s hs => by simp [line0] at hs
  refine bookOkB_0 ?_ ?_ ?_ ?_ ?_
  · have hs : (bkT n w gs d).sec = n := rfl
    have hll : (bkT n w gs d).lines.length = 2 := rfl
    have hko : (bkT n w gs d).ok = true := rfl
    simp only [ok1, inB, hs, hll, hko, Bool.and_eq_true, decide_eq_true_eq, true_and]; omega
  · simp only [bkT, List.all_cons, List.all_nil, a2, b2]; rfl
  · simp only [bkT, List.all_cons, List.all_nil, a3, b3]; rfl
  · simp only [bkT, List.all_cons, List.all_nil, a4, b4]; rfl
  · simp only [bkT, secs_cons, secs_nil, line0, List.append_nil]; exact rngI_nodup w
theorem ownT {n w : Nat} {gs : List Gr} {d s : Int} : ownB (bkT n w gs d).lines s = if 0 ≤ s ∧ s < w then 0 else -1 := by
  unfold ownB
  split
  · rename_i h
    exact fstI_some (i := 0) (by simp [bkT]) (by exact decide_eq_true (rngI_mem.2 h)) (fun j hj => by omega)
  · rename_i h
    refine fstI_none fun j hj => ?_
    simp only [bkT, List.length_cons, List.length_nil] at hj
    have : j = 0 ∨ j = 1 := by omega
    rcases this with rfl | rfl
    · exact decide_eq_false fun hm => h (rngI_mem.1 hm)
    · simp [bkT, inWay, line0]
theorem evT {n w : Nat} {gs : List Gr} {d : Int} {e : Evt} (hok : bookOkB (bkT n w gs d) = 0) (ho : 1 ≤ e.op ∧ e.op ≤ 5) (ht : e.train = 0 ∨ e.train = 1) (hn : 0 ≤ e.n ∧ e.n ≤ (n : Int) - 1 ∨ (e.op ≠ 1 ∧ 0 ≤ e.n ∧ e.n ≤ 1000000)) (h2 : n ≤ 200) : evOkB (bkT n w gs d) e = true := by
  unfold evOkB
  rw [hok]
  have hs : (bkT n w gs d).sec = n := rfl
  have hll : (bkT n w gs d).lines.length = 2 := rfl
  simp only [inB, hs, hll, Bool.and_eq_true, decide_eq_true_eq, decide_true, true_and]
  refine ⟨ho, by omega, ?_⟩
  split
  · simp only [Bool.and_eq_true, decide_eq_true_eq]; omega
  · simp only [Bool.and_eq_true, decide_eq_true_eq]; omega
section
variable {n w : Nat} {gs : List Gr} {d : Int}
theorem lnT0 : lnAt (bkT n w gs d) 0 = ⟨0, rngI w, gs, d⟩ := rfl
theorem lnT1 : lnAt (bkT n w gs d) 1 = line0 := rfl
theorem doT {e : Evt} {l' : Ln} (h : evOkB (bkT n w gs d) e = true) (ht : e.train = 0) (he : evLn (bkT n w gs d).lines ⟨0, rngI w, gs, d⟩ e = (0, l')) : doB (bkT n w gs d) e = ⟨0, ⟨true, n, [settleL l', line0]⟩⟩ := by
  unfold doB
  rw [if_pos h]
  unfold doV
  rw [ht, lnT0, he]
  rfl
theorem doTc {e : Evt} {l' : Ln} {c : Int} (h : evOkB (bkT n w gs d) e = true) (he : evLn (bkT n w gs d).lines (lnAt (bkT n w gs d) e.train) e = (c, l')) : (doB (bkT n w gs d) e).code = c := by
  unfold doB
  rw [if_pos h]
  unfold doV
  simp only [he]
  split
  · rename_i h0; exact h0.symm
  · rfl
end
theorem ok_add {w : Nat} (h : w ≤ 100) : LnOk ⟨0, rngI w, [⟨0, 0⟩], -1⟩ := by
  refine ⟨Int.le_refl _, by simp, ?_, by simpa [rngI_len] using h, by simp, by simp, fun i hi => ?_, fun i hi => by simp at hi, by simp [reachL, maxI], .inl rfl⟩
  · simp only [totL, rngI_len]; omega
  · have : i = 0 := by simp at hi; omega
    subst this
    simp only [List.getElem_cons_zero, totL, rngI_len]; omega
theorem stepAdd {n k : Nat} (h1 : 1 ≤ n) (h2 : n ≤ 21) (hk : k < n) : stepD (bkT n k [⟨0, 0⟩] (-1)) ⟨1, 0, k⟩ = ⟨0, bkT n (k + 1) [⟨0, 0⟩] (-1)⟩ := by
  have hok : bookOkB (bkT n k [⟨0, 0⟩] (-1)) = 0 := bkT_ok h1 (by omega) (by omega) (ok_add (by omega))
  have hev : evOkB (bkT n k [⟨0, 0⟩] (-1)) ⟨1, 0, k⟩ = true := evT hok (by simp) (.inl rfl) (.inl (by simp only; omega)) (by omega)
  have hd : doB (bkT n k [⟨0, 0⟩] (-1)) ⟨1, 0, k⟩ = ⟨0, bkT n (k + 1) [⟨0, 0⟩] (-1)⟩ := by
    have he : evLn (bkT n k [⟨0, 0⟩] (-1)).lines ⟨0, rngI k, [⟨0, 0⟩], -1⟩ ⟨1, 0, k⟩ = (0, ⟨0, rngI (k + 1), [⟨0, 0⟩], -1⟩) := by
      unfold evLn
      rw [if_pos rfl, ownT, if_neg (show ¬ (0 ≤ (k : Int) ∧ (k : Int) < k) by omega), if_neg (by decide), if_neg (by simp), if_neg ?_, rngI_succ]
      simp only [totL, rngI_len]; omega
    rw [doT hev rfl he]
    rfl
  unfold stepD
  rw [hd]
  rfl
def addsE (n : Nat) : List Evt := (List.range n).map fun k : Nat => ⟨1, 0, k⟩
theorem endAdd {n : Nat} (h1 : 1 ≤ n) (h2 : n ≤ 21) : ∀ k, k ≤ n → endB (bkT n 0 [⟨0, 0⟩] (-1)) (addsE k) = bkT n k [⟨0, 0⟩] (-1)
  | 0, _ => rfl
  | k + 1, h => by
    rw [addsE, List.range_succ, List.map_append, List.map_cons, List.map_nil, endB_snoc, ← addsE, endAdd h1 h2 k (by omega), stepAdd h1 h2 (by omega)]
def backE (n e t : Nat) : List Evt := addsE n ++ [⟨2, 0, e⟩, ⟨2, 0, t⟩, ⟨5, 0, t⟩]
theorem addsE_len (n : Nat) : (addsE n).length = n := by simp [addsE]
theorem backE_len (n e t : Nat) : (backE n e t).length = n + 3 := by simp [backE, addsE_len]
theorem beginT {n : Nat} (h1 : 1 ≤ n) (h2 : n ≤ 200) : beginB n 2 = bkT n 0 [⟨0, 0⟩] (-1) := by
  unfold beginB
  rw [if_pos ⟨by simp [inB]; omega, rfl⟩]
  rfl
section
variable {n e t : Nat} (h1 : 1 ≤ n) (h2 : n ≤ 21) (he : e ≤ n) (he1 : 1 ≤ e) (ht : t < e)
def g1T : List Gr := [⟨0, 0⟩]
def g2T (e : Nat) : List Gr := [⟨0, 0⟩, ⟨1, e⟩]
def g3T (e t : Nat) : List Gr := [⟨0, 0⟩, ⟨1, e⟩, ⟨2, t⟩]
theorem reach2 : reachL (g2T e) = e := by simp only [g2T, reachL, List.foldl, maxI]; split <;> omega
include ht in
theorem reach3 : reachL (g3T e t) = e := by simp only [g3T, reachL, List.foldl, maxI]; (repeat' split) <;> omega
include h2 he in
theorem ok_g2 : LnOk ⟨0, rngI n, g2T e, -1⟩ := by
  refine ⟨Int.le_refl _, by simp, ?_, by simp only [rngI_len]; omega, by simp [g2T], by simp [g2T], fun i hi => ?_, fun i hi => ?_, ?_, .inl rfl⟩
  · simp only [totL, rngI_len]; omega
  · have : i = 0 ∨ i = 1 := by simp [g2T] at hi; omega
    rcases this with rfl | rfl <;> simp [g2T, totL, rngI_len] <;> omega
  · have : i = 0 := by simp [g2T] at hi; omega
    subst this; simp [g2T]
  · simp only [reach2]; omega
include h2 he ht in
theorem ok_g3 {w : Nat} {d : Int} (hw : w ≤ n) (hew : e ≤ w) (hd : d = -1 ∨ (d = t ∧ w = e)) : LnOk ⟨0, rngI w, g3T e t, d⟩ := by
  refine ⟨Int.le_refl _, by simp, ?_, by simp only [rngI_len]; omega, by simp [g3T], by simp [g3T], fun i hi => ?_, fun i hi => ?_, ?_, ?_⟩
  · simp only [totL, rngI_len]; omega
  · have : i = 0 ∨ i = 1 ∨ i = 2 := by simp [g3T] at hi; omega
    rcases this with rfl | rfl | rfl <;> simp [g3T, totL, rngI_len] <;> omega
  · have : i = 0 ∨ i = 1 := by simp [g3T] at hi; omega
    rcases this with rfl | rfl <;> simp [g3T]
  · simp only [reach3 ht]; omega
  · rcases hd with h | ⟨rfl, rfl⟩
    · exact .inl h
    · right
      simp only [reach3 ht, totL, rngI_len]
      refine ⟨by omega, by omega, ?_, by omega⟩
      simp [lastG, g3T, gAt]
include h1 h2 he in
theorem stepEnd1 : stepD (bkT n n g1T (-1)) ⟨2, 0, e⟩ = ⟨0, bkT n n (g2T e) (-1)⟩ := by
  have hok : bookOkB (bkT n n g1T (-1)) = 0 := bkT_ok h1 (by omega) (by omega) (ok_add (by omega))
  have hev : evOkB (bkT n n g1T (-1)) ⟨2, 0, e⟩ = true := evT hok (by simp) (.inl rfl) (.inr (by simp only; omega)) (by omega)
  have hd : doB (bkT n n g1T (-1)) ⟨2, 0, e⟩ = ⟨0, bkT n n (g2T e) (-1)⟩ := by
    have he : evLn (bkT n n g1T (-1)).lines ⟨0, rngI n, g1T, -1⟩ ⟨2, 0, e⟩ = (0, ⟨0, rngI n, g2T e, -1⟩) := by
      unfold evLn
      rw [if_neg (by simp), if_pos rfl, if_neg (by simp only [totL, rngI_len]; omega), if_neg (by simp [g1T, lastG, gAt])]
      rfl
    rw [doT hev rfl he]
    rfl
  unfold stepD
  rw [hd]
  rfl
include h1 h2 he ht in
theorem stepEnd2 : stepD (bkT n n (g2T e) (-1)) ⟨2, 0, t⟩ = ⟨0, bkT n n (g3T e t) (-1)⟩ := by
  have hok : bookOkB (bkT n n (g2T e) (-1)) = 0 := bkT_ok h1 (by omega) (by omega) (ok_g2 h2 he)
  have hev : evOkB (bkT n n (g2T e) (-1)) ⟨2, 0, t⟩ = true := evT hok (by simp) (.inl rfl) (.inr (by simp only; omega)) (by omega)
  have hd : doB (bkT n n (g2T e) (-1)) ⟨2, 0, t⟩ = ⟨0, bkT n n (g3T e t) (-1)⟩ := by
    have he : evLn (bkT n n (g2T e) (-1)).lines ⟨0, rngI n, g2T e, -1⟩ ⟨2, 0, t⟩ = (0, ⟨0, rngI n, g3T e t, -1⟩) := by
      unfold evLn
      rw [if_neg (by simp), if_pos rfl, if_neg (by simp only [totL, rngI_len]; omega), if_neg (by simp [g2T, lastG, gAt])]
      rfl
    rw [doT hev rfl he]
    rfl
  unfold stepD
  rw [hd]
  rfl
include h1 h2 he he1 ht in
theorem stepDrop : stepD (bkT n n (g3T e t) (-1)) ⟨5, 0, t⟩ = ⟨0, bkT n e (g3T e t) t⟩ := by
  have hok : bookOkB (bkT n n (g3T e t) (-1)) = 0 := bkT_ok h1 (by omega) (by omega) (ok_g3 h2 he ht (by omega) he (.inl rfl))
  have hev : evOkB (bkT n n (g3T e t) (-1)) ⟨5, 0, t⟩ = true := evT hok (by simp) (.inl rfl) (.inr (by simp only; omega)) (by omega)
  have hd : doB (bkT n n (g3T e t) (-1)) ⟨5, 0, t⟩ = ⟨0, bkT n e (g3T e t) t⟩ := by
    have hev2 : evLn (bkT n n (g3T e t) (-1)).lines ⟨0, rngI n, g3T e t, -1⟩ ⟨5, 0, t⟩ = (0, ⟨0, rngI n, g3T e t, t⟩) := by
      unfold evLn
      rw [if_neg (by simp), if_neg (by simp), if_neg (by simp), if_neg (by simp), if_neg (by simp only [totL, rngI_len]; omega), if_neg (by simp [g3T, lastG, gAt])]
    rw [doT hev rfl hev2]
    have hs : settleL ⟨0, rngI n, g3T e t, t⟩ = ⟨0, rngI e, g3T e t, t⟩ := by
      have hm : maxI (t : Int) (e : Int) = e := by unfold maxI; split <;> omega
      by_cases hh : e < n
      · rw [settle_cut (m := e) (by simp only; omega) (by simp only [reach3 ht, hm]) (by simp only [totL, rngI_len]; omega) (by simp) (by simp only; omega)]
        simp only [Int.sub_zero, Int.toNat_natCast, rngI_take he]
      · obtain rfl : e = n := by omega
        exact settle_keep (by simp only [reach3 ht, hm, totL, rngI_len]; omega) (by simp only [totL, rngI_len]; omega)
    rw [hs]
    rfl
  unfold stepD
  rw [hd]
  rfl
include h1 h2 he he1 ht in
/-- What the run answers at its end. -/
theorem back_run : runB n 2 (backE n e t) = goB (bkT n 0 [⟨0, 0⟩] (-1)) (addsE n ++ [⟨2, 0, e⟩, ⟨2, 0, t⟩]) ++ [⟨0, bkT n e (g3T e t) t⟩] := by
  unfold runB
  rw [beginT h1 (by omega), if_pos ⟨rfl, by rw [backE_len]; omega⟩]
  have e1 : backE n e t = (addsE n ++ [⟨2, 0, e⟩, ⟨2, 0, t⟩]) ++ [⟨5, 0, t⟩] := by simp [backE]
  have e2 : addsE n ++ [⟨2, 0, e⟩, ⟨2, 0, t⟩] = (addsE n ++ [⟨2, 0, e⟩]) ++ [(⟨2, 0, t⟩ : Evt)] := by simp
  rw [e1, goB_snoc]
  conv => lhs; rw [e2]
  rw [endB_snoc, endB_snoc, endAdd h1 h2 n (Nat.le_refl _)]
  have s1 := stepEnd1 h1 h2 he
  have s2 := stepEnd2 h1 h2 he ht
  have s3 := stepDrop h1 h2 he he1 ht
  unfold g1T at s1
  rw [s1, s2, s3, e2]
include h1 h2 he he1 ht in
theorem back_ok : bookOkB (bkT n e (g3T e t) t) = 0 := bkT_ok h1 (by omega) he (ok_g3 h2 he ht he (Nat.le_refl _) (.inr ⟨rfl, rfl⟩))
include h1 h2 he he1 ht in
theorem back1 : (doB (bkT n e (g3T e t) t) ⟨1, 1, (e : Int) - 1⟩).code = 2 :=
  doTc (l' := line0) (evT (back_ok h1 h2 he he1 ht) (by simp) (.inr rfl) (.inl (by simp only; omega)) (by omega)) (by
    rw [show (⟨1, 1, (e : Int) - 1⟩ : Evt).train = 1 from rfl, lnT1]
    unfold evLn
    rw [if_pos rfl, ownT, if_pos (show 0 ≤ (e : Int) - 1 ∧ (e : Int) - 1 < e by omega), if_pos (by decide)])
include h1 h2 he he1 ht in
theorem back2 (h : e < n) : (doB (bkT n e (g3T e t) t) ⟨1, 1, e⟩).code = 0 :=
  doTc (l' := ⟨0, [(e : Int)], [⟨0, 0⟩], -1⟩) (evT (back_ok h1 h2 he he1 ht) (by simp) (.inr rfl) (.inl (by simp only; omega)) (by omega)) (by
    rw [show (⟨1, 1, (e : Int)⟩ : Evt).train = 1 from rfl, lnT1]
    unfold evLn
    rw [if_pos rfl, ownT, if_neg (show ¬ (0 ≤ (e : Int) ∧ (e : Int) < e) by omega), if_neg (by decide), if_neg (by simp [line0]), if_neg (by simp [line0, totL])]
    rfl)
include h1 h2 he he1 ht in
theorem back3 : doB (bkT n e (g3T e t) t) ⟨3, 0, 1⟩ = ⟨0, ⟨true, n, [⟨0, rngI e, [⟨1, e⟩, ⟨2, t⟩], t⟩, line0]⟩⟩ := by
  have hev : evOkB (bkT n e (g3T e t) t) ⟨3, 0, 1⟩ = true := evT (back_ok h1 h2 he he1 ht) (by simp) (.inl rfl) (.inr (by simp)) (by omega)
  have hev2 : evLn (bkT n e (g3T e t) t).lines ⟨0, rngI e, g3T e t, t⟩ ⟨3, 0, 1⟩ = (0, ⟨0, rngI e, [⟨1, e⟩, ⟨2, t⟩], t⟩) := by
    have hf : fstI (hasV 1) (g3T e t) = 1 := fstI_some (i := 1) (by simp [g3T]) (by simp [g3T, hasV]) (fun j hj => by
      obtain rfl : j = 0 := by omega
      simp [g3T, hasV])
    have hr : 0 ≤ reachL ((g3T e t).drop (1 : Int).toNat) := reachL_nn _
    unfold evLn
    rw [if_neg (by simp), if_neg (by simp), if_pos rfl]
    simp only [hf]
    rw [if_neg (by decide), if_neg (by omega)]
    rfl
  rw [doT hev rfl hev2]
  have hr : reachL [⟨1, e⟩, ⟨2, t⟩] = (e : Int) := by simp only [reachL, List.foldl, maxI]; (repeat' split) <;> omega
  have hs : settleL ⟨0, rngI e, [⟨1, e⟩, ⟨2, t⟩], t⟩ = ⟨0, rngI e, [⟨1, e⟩, ⟨2, t⟩], t⟩ := by
    have hm : maxI (t : Int) (e : Int) = e := by unfold maxI; split <;> omega
    exact settle_keep (by simp only [hr, hm, totL, rngI_len]; omega) (by simp only [totL, rngI_len]; omega)
  rw [hs]
include h1 h2 he he1 ht in
theorem back4 : doB (bkT n e (g3T e t) t) ⟨3, 0, 2⟩ = ⟨0, bkT n t [⟨2, t⟩] (-1)⟩ := by
  have hev : evOkB (bkT n e (g3T e t) t) ⟨3, 0, 2⟩ = true := evT (back_ok h1 h2 he he1 ht) (by simp) (.inl rfl) (.inr (by simp)) (by omega)
  have hev2 : evLn (bkT n e (g3T e t) t).lines ⟨0, rngI e, g3T e t, t⟩ ⟨3, 0, 2⟩ = (0, ⟨0, rngI e, [⟨2, t⟩], t⟩) := by
    have hf : fstI (hasV 2) (g3T e t) = 2 := fstI_some (i := 2) (by simp [g3T]) (by simp [g3T, hasV]) (fun j hj => by
      have : j = 0 ∨ j = 1 := by omega
      rcases this with rfl | rfl <;> simp [g3T, hasV])
    have hr : 0 ≤ reachL ((g3T e t).drop (2 : Int).toNat) := reachL_nn _
    unfold evLn
    rw [if_neg (by simp), if_neg (by simp), if_pos rfl]
    simp only [hf]
    rw [if_neg (by decide), if_neg (by omega)]
    rfl
  rw [doT hev rfl hev2]
  have hr : reachL [⟨2, t⟩] = (t : Int) := by simp only [reachL, List.foldl, maxI]; (repeat' split) <;> omega
  have hs : settleL ⟨0, rngI e, [⟨2, t⟩], t⟩ = ⟨0, rngI t, [⟨2, t⟩], -1⟩ := by
    have hm : maxI (t : Int) (t : Int) = t := by unfold maxI; split <;> omega
    rw [settle_end (m := t) (by simp only; omega) (by simp only [hr, hm]) (by simp only [totL, rngI_len]; omega) (by simp) (by simp)]
    simp only [Int.sub_zero, Int.toNat_natCast, rngI_take (Nat.le_of_lt ht)]
  rw [hs]
  rfl
include h1 h2 he he1 ht in
theorem back5 : (doB (bkT n t [⟨2, t⟩] (-1)) ⟨1, 1, (e : Int) - 1⟩).code = 0 := by
  have hok : bookOkB (bkT n t [⟨2, t⟩] (-1)) = 0 := by
    have := doB_ok (b := bkT n e (g3T e t) t) (e := ⟨3, 0, 2⟩) (by rw [back4 h1 h2 he he1 ht]; simp)
    rwa [back4 h1 h2 he he1 ht] at this
  exact doTc (l' := ⟨0, [(e : Int) - 1], [⟨0, 0⟩], -1⟩) (evT hok (by simp) (.inr rfl) (.inl (by simp only; omega)) (by omega)) (by
    rw [show (⟨1, 1, (e : Int) - 1⟩ : Evt).train = 1 from rfl, lnT1]
    unfold evLn
    rw [if_pos rfl, ownT, if_neg (show ¬ (0 ≤ (e : Int) - 1 ∧ (e : Int) - 1 < t) by omega), if_neg (by decide), if_neg (by simp [line0]), if_neg (by simp [line0, totL])]
    rfl)
end
end Go.Proofs.YtpoedfmkiiijnaaAm
