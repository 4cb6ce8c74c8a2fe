/- One owner: over plain data. Plain definitions and lemmas; no program in sight. -/
import Derived.Test.YtpoedfmkiiijnaaPu4
namespace Go.Proofs.YtpoedfmkiiijnaaAm
set_option linter.unusedVariables false
set_option linter.unusedSimpArgs false
theorem doB_sec {b : Bk} {e : Evt} (h : (doB b e).code ≠ 1) : (doB b e).book.sec = b.sec := by
  unfold doB at h ⊢
  split
  · unfold doV
    simp only
    split <;> rfl
  · rename_i hh
    rw [if_neg hh] at h
    exact absurd rfl h
theorem stepD_sec (b : Bk) (e : Evt) : (stepD b e).book.sec = b.sec := by
  unfold stepD
  split
  · rfl
  · rename_i h; exact doB_sec h
theorem goB_sec {b : Bk} : ∀ (es : List Evt) d, d ∈ goB b es → d.book.sec = b.sec := by
  intro es
  induction es generalizing b with
  | nil => intro d hd; simp [goB] at hd
  | cons e es ih =>
    intro d hd
    simp only [goB, List.mem_cons] at hd
    rcases hd with rfl | hd
    · exact stepD_sec b e
    · rw [ih d hd, stepD_sec]
theorem runB_at {s t : Int} {es : List Evt} (hs : 1 ≤ s ∧ s ≤ 12) (ht : 0 ≤ t ∧ t ≤ 4) (hl : es.length ≤ 100) : (runB s t es).length = es.length ∧ ∀ d, d ∈ runB s t es → bookOkB d.book = 0 ∧ d.book.sec = s := by
  have hb : beginB s t = ⟨true, s, List.replicate t.toNat line0⟩ := by unfold beginB; rw [if_pos (by simp [inB]; omega)]
  have hok : (beginB s t).ok = true := by rw [hb]
  unfold runB
  rw [if_pos ⟨hok, by omega⟩]
  exact ⟨goB_len _ _, fun d hd => ⟨goB_ok (begin_ok hok) es d hd, by rw [goB_sec es d hd, hb]⟩⟩
/-- Who has a section when the lines before k and w sections of line k are seen. -/
def arrF (ls : List Ln) (k w : Nat) (q : Int) : Int := if q ∈ (ls.getD k line0).way.take w then k else ownB (ls.take k) q
theorem secs_one {ls : List Ln} (h : (secs ls).Nodup) {k : Nat} (hk : k < ls.length) : ls[k].way.Nodup ∧ ∀ j (hj : j < k) q, q ∈ ls[k].way → q ∉ (ls[j]'(by omega)).way := by
  unfold secs List.Nodup at h
  rw [List.pairwise_flatten] at h
  obtain ⟨h1, h2⟩ := h
  refine ⟨h1 _ (List.mem_map.2 ⟨_, List.getElem_mem hk, rfl⟩), fun j hj q hq hq2 => ?_⟩
  rw [List.pairwise_iff_getElem] at h2
  have := h2 j k (by simpa using (by omega)) (by simpa using hk) hj
  simp only [List.getElem_map] at this
  exact this q hq2 q hq rfl
theorem own_before {ls : List Ln} (h : (secs ls).Nodup) {k : Nat} (hk : k < ls.length) {q : Int} (hq : q ∈ ls[k].way) : ownB (ls.take k) q = -1 := by
  refine fstI_none fun j hj => ?_
  rw [List.length_take] at hj
  have hj2 : j < k := by omega
  simp only [List.getElem_take, inWay, decide_eq_false_iff_not]
  exact (secs_one h hk).2 j hj2 q hq
theorem arrF_free {ls : List Ln} (h : (secs ls).Nodup) {k w : Nat} (hk : k < ls.length) (hw : w < ls[k].way.length) : arrF ls k w ls[k].way[w] = -1 := by
  unfold arrF
  rw [List.getD_eq_getElem?_getD, List.getElem?_eq_getElem hk, Option.getD_some, if_neg, own_before h hk (List.getElem_mem hw)]
  intro hm
  obtain ⟨i, hi, he⟩ := List.getElem_of_mem hm
  rw [List.length_take] at hi
  rw [List.getElem_take] at he
  have hp := (secs_one h hk).1
  unfold List.Nodup at hp
  rw [List.pairwise_iff_getElem] at hp
  exact hp i w (by omega) hw (by omega) he
theorem arrF_0 (ls : List Ln) (q : Int) : arrF ls 0 0 q = -1 := by simp [arrF, ownB, fstI]
theorem arrF_n (ls : List Ln) (q : Int) : arrF ls ls.length 0 q = ownB ls q := by simp [arrF]
theorem arrF_next {ls : List Ln} (h : (secs ls).Nodup) {k : Nat} (hk : k < ls.length) (q : Int) : arrF ls k ls[k].way.length q = arrF ls (k + 1) 0 q := by
  unfold arrF
  rw [List.getD_eq_getElem?_getD, List.getElem?_eq_getElem hk, Option.getD_some, List.take_length]
  simp only [List.take_zero, List.not_mem_nil, if_false]
  split
  · rename_i hq
    symm
    refine fstI_some (i := k) (by rw [List.length_take]; omega) (by simp [inWay, hq]) fun j hj => ?_
    simp only [List.getElem_take, inWay, decide_eq_false_iff_not]
    exact (secs_one h hk).2 j hj q hq
  · rename_i hq
    unfold ownB fstI
    rw [take_snoc hk, List.findIdx?_append]
    have : List.findIdx? (inWay q) [ls[k]] = none := by simp [inWay, hq]
    rw [this]
    cases List.findIdx? (inWay q) (ls.take k) <;> rfl
abbrev arrL (ls : List Ln) (k w S : Nat) : List Int := (List.range S).map fun (q : Nat) => arrF ls k w q
theorem arrL_set {ls : List Ln} (h : (secs ls).Nodup) {k w S x : Nat} (hk : k < ls.length) (hw : w < ls[k].way.length) (hx : ls[k].way[w] = x) (hxS : x < S) : (arrL ls k w S).set x (k : Int) = arrL ls k (w + 1) S := by
  apply List.ext_getElem
  · simp [arrL]
  · intro q h1 h2
    simp only [arrL, List.getElem_set, List.getElem_map, List.getElem_range]
    unfold arrF
    rw [List.getD_eq_getElem?_getD, List.getElem?_eq_getElem hk, Option.getD_some, take_snoc hw, hx]
    by_cases e : x = q
    · subst e; simp
    · have : ¬ (q : Int) = x := by omega
      simp [e, this]
theorem arrL_next {ls : List Ln} (h : (secs ls).Nodup) {k S : Nat} (hk : k < ls.length) : arrL ls k ls[k].way.length S = arrL ls (k + 1) 0 S := by
  unfold arrL
  congr 1
  funext q
  exact arrF_next h hk q
theorem reach_take {gs : List Gr} {i : Nat} (h : i < gs.length) : reachL (gs.take (i + 1)) = maxI (reachL (gs.take i)) gs[i].cel := by rw [take_snoc h, reachL_snoc]
end Go.Proofs.YtpoedfmkiiijnaaAm
