/- A right book stays right under an event. Plain lemmas; no program in sight. -/
import Derived.Test.YtpoedfmkiiijnaaPu3
namespace Go.Proofs.YtpoedfmkiiijnaaAm
set_option linter.unusedVariables false
set_option linter.unusedSimpArgs false
theorem LnOk.to {sec : Int} {l : Ln} (h : LnOk l) (hw : ∀ s, s ∈ l.way → 0 ≤ s ∧ s ≤ sec - 1) : ok2 sec l = true ∧ ok3 l = true ∧ ok4 l = true := by
  have g0 := h.g0
  have g1 := h.g1
  have t1 := h.t1
  have w1 := h.w1
  have n0 := h.n0
  have n1 := h.n1
  have rg := h.rg
  refine ⟨?_, ?_, ?_⟩
  · simp only [ok2, inB, Bool.and_eq_true, decide_eq_true_eq, List.all_eq_true]
    exact ⟨⟨⟨⟨g0, g1⟩, by unfold totL; omega, t1⟩, w1⟩, hw⟩
  · simp only [ok3, inB, Bool.and_eq_true, decide_eq_true_eq, List.all_eq_true]
    refine ⟨⟨⟨by omega, by omega⟩, fun i hi => ?_⟩, rg⟩
    rw [List.mem_range] at hi
    have := h.gs i hi
    simp only [gOk, gAt_eq hi, inB, Bool.and_eq_true, Bool.or_eq_true, decide_eq_true_eq]
    refine ⟨⟨⟨this.1, this.2.1⟩, this.2.2⟩, ?_⟩
    by_cases e : i = 0
    · exact .inl e
    · right
      obtain ⟨j, rfl⟩ : ∃ j, i = j + 1 := ⟨i - 1, by omega⟩
      rw [Nat.add_sub_cancel, gAt_eq (show j < l.grs.length by omega)]
      exact h.ch j hi
  · simp only [ok4, inB, Bool.or_eq_true, Bool.and_eq_true, decide_eq_true_eq]
    rcases h.dr with e | ⟨d1, d2, d3, d4⟩
    · exact .inl e
    · exact .inr ⟨⟨⟨d1, by omega⟩, d3⟩, d4⟩
/-- A line that is right but for its end: what is given back makes it right. -/
theorem LnOk.give {l : Ln} (g0 : 0 ≤ l.gone) (g1 : l.gone ≤ 1000000) (t1 : totL l ≤ 1000000) (w1 : l.way.length ≤ 100) (n0 : 1 ≤ l.grs.length) (n1 : l.grs.length ≤ 20)
    (gs : ∀ i (h : i < l.grs.length), 0 ≤ l.grs[i].cel ∧ l.grs[i].cel ≤ totL l ∧ 0 ≤ l.grs[i].ver ∧ l.grs[i].ver ≤ 1000000) (ch : ∀ i (h : i + 1 < l.grs.length), l.grs[i + 1].ver = (l.grs[i]'(by omega)).ver + 1)
    (rg : l.gone ≤ reachL l.grs) (dr : l.drop = -1 ∨ (l.gone ≤ l.drop ∧ (lastG l).cel ≤ l.drop)) : LnOk (settleL l) := by
  have td : totL l = l.gone + l.way.length := rfl
  have hrt : reachL l.grs ≤ totL l := reachL_le (by omega) fun g hg => by
    obtain ⟨i, hi, rfl⟩ := List.getElem_of_mem hg
    exact (gs i hi).2.1
  unfold settleL
  by_cases hd : l.drop = -1
  · rw [if_pos hd]; exact ⟨g0, g1, t1, w1, n0, n1, gs, ch, rg, .inl hd⟩
  rw [if_neg hd]
  have dr := dr.resolve_left hd
  simp only
  by_cases hm : maxI l.drop (reachL l.grs) < totL l
  · rw [if_pos hm]
    have m1 : l.drop ≤ maxI l.drop (reachL l.grs) ∧ reachL l.grs ≤ maxI l.drop (reachL l.grs) ∧ (maxI l.drop (reachL l.grs) = l.drop ∨ maxI l.drop (reachL l.grs) = reachL l.grs) := by
      unfold maxI; split <;> omega
    generalize hM : maxI l.drop (reachL l.grs) = m at hm m1 ⊢
    have ht : totL { l with way := l.way.take (m - l.gone).toNat } = m := by
      simp only [totL, List.length_take]; omega
    have hgs : ∀ i (h : i < l.grs.length), 0 ≤ l.grs[i].cel ∧ l.grs[i].cel ≤ m ∧ 0 ≤ l.grs[i].ver ∧ l.grs[i].ver ≤ 1000000 := fun i h => by
      have h1 := gs i h
      have h2 := (reachL_ge l.grs i h).1
      exact ⟨h1.1, by omega, h1.2.2⟩
    by_cases hq : totL { l with way := l.way.take (m - l.gone).toNat } ≤ l.drop
    · rw [if_pos hq]
      exact ⟨g0, g1, by show totL { l with way := l.way.take (m - l.gone).toNat } ≤ _; omega, by simp; omega, n0, n1, fun i h => by
        have := hgs i h
        show 0 ≤ l.grs[i].cel ∧ l.grs[i].cel ≤ totL { l with way := l.way.take (m - l.gone).toNat } ∧ _
        rw [ht]; exact this, ch, rg, .inl rfl⟩
    · rw [if_neg hq]
      rw [ht] at hq
      exact ⟨g0, g1, by rw [ht]; omega, by simp; omega, n0, n1, fun i h => by rw [ht]; exact hgs i h, ch, rg, .inr ⟨dr.1, by rw [ht]; show l.drop < m; omega, dr.2, by rw [ht]; show m ≤ reachL l.grs; omega⟩⟩
  · rw [if_neg hm]
    by_cases hq : totL l ≤ l.drop
    · rw [if_pos hq]
      exact ⟨g0, g1, t1, w1, n0, n1, gs, ch, rg, .inl rfl⟩
    · rw [if_neg hq]
      refine ⟨g0, g1, t1, w1, n0, n1, gs, ch, rg, .inr ⟨dr.1, by omega, dr.2, ?_⟩⟩
      unfold maxI at hm; split at hm <;> omega
theorem lastG_app {l : Ln} (g : Gr) (h : l.grs = l.grs) : lastG { l with grs := l.grs ++ [g] } = g := by
  simp [lastG, gAt]
theorem LnOk.last {l : Ln} (h : LnOk l) : ∃ hl : l.grs.length - 1 < l.grs.length, lastG l = l.grs[l.grs.length - 1] := ⟨by have := h.n0; omega, gAt_eq (by have := h.n0; omega)⟩
/-- An event that is done leaves a right line. -/
theorem LnOk.ev {ls : List Ln} {l l' : Ln} {e : Evt} (h : LnOk l) (hn : 0 ≤ e.n ∧ e.n ≤ 1000000) (he : evLn ls l e = (0, l')) : LnOk (settleL l') := by
  have g0 := h.g0
  have g1 := h.g1
  have t1 := h.t1
  have w1 := h.w1
  have n0 := h.n0
  have n1 := h.n1
  have rg := h.rg
  have hrt := h.reach
  have td : totL l = l.gone + l.way.length := rfl
  obtain ⟨hl1, hlast⟩ := h.last
  have hdr : l.drop = -1 ∨ (l.gone ≤ l.drop ∧ (lastG l).cel ≤ l.drop) := by
    rcases h.dr with e | ⟨d1, _, d3, _⟩
    · exact .inl e
    · exact .inr ⟨d1, d3⟩
  unfold evLn at he
  split at he
  · split at he
    · simp at he
    · split at he
      · simp at he
      · split at he
        · simp at he
        · rename_i hd hf
          simp only [Prod.mk.injEq, true_and] at he; subst he
          have ht : totL { l with way := l.way ++ [e.n] } = totL l + 1 := by simp [totL]; omega
          have hd' : l.drop = -1 := by simpa using hd
          refine LnOk.give g0 g1 (by rw [ht]; omega) (by simp; omega) n0 n1 (fun i hi => ?_) h.ch rg (.inl hd')
          have := h.gs i hi
          rw [ht]; exact ⟨this.1, by have := this.2.1; show l.grs[i].cel ≤ _; omega, this.2.2⟩
  · split at he
    · split at he
      · simp at he
      · split at he
        · simp at he
        · rename_i hc hf
          simp only [Prod.mk.injEq, true_and] at he; subst he
          have hlv := h.gs _ hl1
          rw [← hlast] at hlv
          refine LnOk.give (l := { l with grs := l.grs ++ [⟨(lastG l).ver + 1, e.n⟩] }) g0 g1 t1 w1 (by simp) (by simp; omega) (fun i hi => ?_) (fun i hi => ?_) ?_ ?_
          · simp only [List.length_append, List.length_cons, List.length_nil] at hi
            by_cases hh : i < l.grs.length
            · simp only [List.getElem_append_left hh]; exact h.gs i hh
            · obtain rfl : i = l.grs.length := by omega
              simp only [List.getElem_concat_length]
              refine ⟨hn.1, ?_, by omega, by omega⟩
              show e.n ≤ totL l
              omega
          · simp only [List.length_append, List.length_cons, List.length_nil] at hi
            by_cases hh : i + 1 < l.grs.length
            · simp only [List.getElem_append_left hh, List.getElem_append_left (show i < l.grs.length by omega)]; exact h.ch i hh
            · have hi2 : i + 1 = l.grs.length := by omega
              have hi3 : i = l.grs.length - 1 := by omega
              have e1 : (l.grs ++ [(⟨(lastG l).ver + 1, e.n⟩ : Gr)])[i + 1]'(by simp; omega) = ⟨(lastG l).ver + 1, e.n⟩ := by
                rw [List.getElem_append_right (by omega)]; simp [hi2]
              have e2 : (l.grs ++ [(⟨(lastG l).ver + 1, e.n⟩ : Gr)])[i]'(by simp; omega) = lastG l := by
                rw [List.getElem_append_left (by omega), hlast]; congr 1
              simp only [e1, e2]
          · simp only [reachL_app]; unfold maxI; split <;> omega
          · rw [show lastG { l with grs := l.grs ++ [⟨(lastG l).ver + 1, e.n⟩] } = ⟨(lastG l).ver + 1, e.n⟩ from lastG_app _ rfl]
            rcases hdr with e1 | e1
            · exact .inl e1
            · right
              refine ⟨e1.1, ?_⟩
              show e.n ≤ l.drop
              have : l.drop ≠ -1 := by omega
              omega
    · split at he
      · split at he
        · simp at he
        · split at he
          · simp at he
          · rename_i hk hr
            simp only [Prod.mk.injEq, true_and] at he; subst he
            rcases fstI_range (p := hasV e.n) (xs := l.grs) with ⟨h1, _⟩ | ⟨i, hi, h1, _⟩
            · omega
            rw [h1] at hr ⊢
            simp only [Int.toNat_natCast] at hr ⊢
            refine LnOk.give (l := { l with grs := l.grs.drop i }) g0 g1 t1 w1 (by simp; omega) (by simp; omega) (fun j hj => ?_) (fun j hj => ?_) (by simp only; omega) ?_
            · simp only [List.length_drop] at hj
              simp only [List.getElem_drop]
              exact h.gs (i + j) (by omega)
            · simp only [List.length_drop] at hj
              simp only [List.getElem_drop]
              exact h.ch (i + j) (by omega)
            · have : lastG { l with grs := l.grs.drop i } = lastG l := by
                unfold lastG
                simp only [List.length_drop]
                rw [gAt_eq (by simp; omega), gAt_eq hl1, List.getElem_drop]
                congr 1; omega
              rw [this]; exact hdr
      · split at he
        · split at he
          · simp at he
          · rename_i hc
            simp only [Prod.mk.injEq, true_and] at he; subst he
            have ht : totL { l with way := l.way.drop (e.n - l.gone).toNat, gone := e.n, drop := if l.drop ≠ -1 ∧ l.drop < e.n then e.n else l.drop } = totL l := by
              simp only [totL, List.length_drop]; omega
            refine LnOk.give (l := { l with way := l.way.drop (e.n - l.gone).toNat, gone := e.n, drop := if l.drop ≠ -1 ∧ l.drop < e.n then e.n else l.drop }) hn.1 hn.2 (by rw [ht]; exact t1) (by simp; omega) n0 n1 (fun i hi => by rw [ht]; exact h.gs i hi) h.ch (by simp only; omega) ?_
            have hl' : lastG { l with way := l.way.drop (e.n - l.gone).toNat, gone := e.n, drop := if l.drop ≠ -1 ∧ l.drop < e.n then e.n else l.drop } = lastG l := rfl
            rw [hl']
            rcases hdr with e1 | e1
            · left; simp [e1]
            · right
              have : l.drop ≠ -1 := by omega
              simp only [this, ne_eq, not_false_eq_true, true_and]
              split <;> omega
        · split at he
          · simp at he
          · split at he
            · simp at he
            · rename_i hc hd
              simp only [Prod.mk.injEq, true_and] at he; subst he
              refine LnOk.give (l := { l with drop := e.n }) g0 g1 t1 w1 n0 n1 h.gs h.ch rg (.inr ⟨by simp only; omega, ?_⟩)
              show (lastG l).cel ≤ e.n
              omega
theorem settleL_sub (l : Ln) : (settleL l).way.Sublist l.way := by
  unfold settleL
  split
  · exact List.Sublist.refl _
  · simp only
    split <;> split <;> first | exact List.take_sublist _ _ | exact List.Sublist.refl _
theorem evLn_way {ls : List Ln} {l l' : Ln} {e : Evt} (he : evLn ls l e = (0, l')) : l'.way.Sublist l.way ∨ (e.op = 1 ∧ ownB ls e.n < 0 ∧ l'.way = l.way ++ [e.n]) := by
  unfold evLn at he
  split at he
  · split at he
    · simp at he
    · split at he
      · simp at he
      · split at he
        · simp at he
        · rename_i h1 h2 _ _
          simp only [Prod.mk.injEq, true_and] at he; subst he
          exact .inr ⟨h1, by omega, rfl⟩
  · (repeat' split at he) <;> first | (simp at he; done) | (simp only [Prod.mk.injEq, true_and] at he; subst he; left; first | exact List.Sublist.refl _ | exact List.drop_sublist _ _)
theorem secs_set {ls : List Ln} {k : Nat} (hk : k < ls.length) (x : Ln) : secs (ls.set k x) = secs (ls.take k) ++ (x.way ++ secs (ls.drop (k + 1))) := by
  rw [List.set_eq_take_append_cons_drop, if_pos hk, secs_app, secs_cons]
theorem secs_at {ls : List Ln} {k : Nat} (hk : k < ls.length) : secs ls = secs (ls.take k) ++ (ls[k].way ++ secs (ls.drop (k + 1))) := by
  have := secs_set hk ls[k]
  rwa [List.set_getElem_self] at this
theorem mem_secs {ls : List Ln} {s : Int} : s ∈ secs ls ↔ ∃ l, l ∈ ls ∧ s ∈ l.way := by simp only [secs, List.mem_flatten, List.mem_map]; exact ⟨fun ⟨_, ⟨a, ha, h⟩, hs⟩ => ⟨a, ha, h ▸ hs⟩, fun ⟨a, ha, hs⟩ => ⟨_, ⟨a, ha, rfl⟩, hs⟩⟩
theorem ownB_neg {ls : List Ln} {s : Int} (h : ownB ls s < 0) : s ∉ secs ls := by
  intro hm
  obtain ⟨l, hl, hs⟩ := mem_secs.1 hm
  have : 0 ≤ ownB ls s := fstI_nn.2 ⟨l, hl, by simp [inWay, hs]⟩
  omega
/-- A right book stays right. -/
theorem doV_ok {b : Bk} {e : Evt} (h : bookOkB b = 0) (he : evOkB b e = true) : bookOkB (doV b e).book = 0 := by
  have hev := he
  simp only [evOkB, Bool.and_eq_true, decide_eq_true_eq] at hev
  obtain ⟨_, hop, htr, hne⟩ := hev
  simp only [inB, Bool.and_eq_true, decide_eq_true_eq] at hop htr
  obtain ⟨k, hk⟩ : ∃ k : Nat, e.train = k := ⟨e.train.toNat, by omega⟩
  have hkl : k < b.lines.length := by omega
  have hl : lnAt b e.train = b.lines[k] := by simp [lnAt, hk, hkl]
  obtain ⟨o1, o2, o3, o4, o5⟩ := bookOk_all h
  obtain ⟨s1, s2, s3, s4⟩ := bookOk_sec h
  have hn10 : 0 ≤ e.n ∧ e.n ≤ 1000000 := by
    by_cases p1 : e.op = 1
    · rw [if_pos p1] at hne; simp [inB] at hne; omega
    · rw [if_neg p1] at hne; simpa [inB] using hne
  unfold doV
  simp only
  split
  case isFalse => exact h
  rename_i h0
  rw [hl] at h0 ⊢
  obtain ⟨l', hl'⟩ : ∃ l', evLn b.lines b.lines[k] e = (0, l') := ⟨_, Prod.ext h0 rfl⟩
  rw [hl']
  have hln := (bookOk_ln h hkl).ev hn10 hl'
  have hsub := settleL_sub l'
  have hway : ∀ s, s ∈ (settleL l').way → 0 ≤ s ∧ s ≤ b.sec - 1 := fun s hs => by
    have hold : ∀ s, s ∈ b.lines[k].way → 0 ≤ s ∧ s ≤ b.sec - 1 := fun s hs => by
      have := all_at o2 hkl
      simp only [ok2, inB, Bool.and_eq_true, decide_eq_true_eq, List.all_eq_true] at this
      exact this.2 s hs
    rcases evLn_way hl' with hw | ⟨p1, _, hw⟩
    · exact hold s ((hsub.trans hw).subset hs)
    · have := hsub.subset hs
      rw [hw] at this
      rcases List.mem_append.1 this with h1 | h1
      · exact hold s h1
      · rw [if_pos p1] at hne; simp [inB] at hne h1; omega
  obtain ⟨q2, q3, q4⟩ := hln.to hway
  have hmem : ∀ x, x ∈ b.lines.set k (settleL l') → x ∈ b.lines ∨ x = settleL l' := fun x hx => List.mem_or_eq_of_mem_set hx
  have hnd : (secs (b.lines.set k (settleL l'))).Nodup := by
    rw [secs_set hkl]
    rw [secs_at hkl] at o5
    rcases evLn_way hl' with hw | ⟨p1, hown, hw⟩
    · exact o5.sublist ((List.Sublist.refl _).append ((hsub.trans hw).append (List.Sublist.refl _)))
    · have hn := ownB_neg hown
      rw [secs_at hkl] at hn
      have hbig : (secs (b.lines.take k) ++ ((b.lines[k].way ++ [e.n]) ++ secs (b.lines.drop (k + 1)))).Nodup := by
        have hp : (secs (b.lines.take k) ++ ((b.lines[k].way ++ [e.n]) ++ secs (b.lines.drop (k + 1)))).Perm (e.n :: (secs (b.lines.take k) ++ (b.lines[k].way ++ secs (b.lines.drop (k + 1))))) := by
          rw [← List.append_assoc, ← List.append_assoc, ← List.append_assoc]
          rw [List.append_assoc (secs (b.lines.take k) ++ b.lines[k].way)]
          exact List.perm_middle
        exact hp.nodup_iff.2 (List.nodup_cons.2 ⟨hn, o5⟩)
      rw [hw] at hsub
      exact hbig.sublist ((List.Sublist.refl _).append (hsub.append (List.Sublist.refl _)))
  rw [hk, Int.toNat_natCast]
  refine bookOkB_0 ?_ ?_ ?_ ?_ hnd
  · simp only [ok1, List.length_set] at o1 ⊢; exact o1
  · rw [List.all_eq_true] at o2 ⊢
    intro x hx
    rcases hmem x hx with h1 | rfl
    · exact o2 x h1
    · exact q2
  · rw [List.all_eq_true] at o3 ⊢
    intro x hx
    rcases hmem x hx with h1 | rfl
    · exact o3 x h1
    · exact q3
  · rw [List.all_eq_true] at o4 ⊢
    intro x hx
    rcases hmem x hx with h1 | rfl
    · exact o4 x h1
    · exact q4
theorem doB_ok {b : Bk} {e : Evt} (hc : (doB b e).code ≠ 1) : bookOkB (doB b e).book = 0 := by
  unfold doB at hc ⊢
  split at hc
  · rename_i q
    rw [if_pos q]
    have : bookOkB b = 0 := by
      have h := q
      simp only [evOkB, Bool.and_eq_true, decide_eq_true_eq] at h
      exact h.1
    exact doV_ok this q
  · simp at hc
theorem stepD_ok {b : Bk} (h : bookOkB b = 0) (e : Evt) : bookOkB (stepD b e).book = 0 := by
  unfold stepD
  split
  · exact h
  · rename_i hc; exact doB_ok hc
theorem begin_ok {s t : Int} (h : (beginB s t).ok = true) : bookOkB (beginB s t) = 0 := by
  unfold beginB at h ⊢
  split at h
  · rename_i hh
    rw [if_pos hh]
    have h2 := hh.2
    simp only [inB, Bool.and_eq_true, decide_eq_true_eq] at h2
    refine bookOkB_0 ?_ ?_ ?_ ?_ ?_
    · simp only [ok1, hh.1, List.length_replicate, Bool.and_eq_true, decide_eq_true_eq, true_and]; omega
    · rw [List.all_eq_true]; intro x hx; rw [List.eq_of_mem_replicate hx]; rfl
    · rw [List.all_eq_true]; intro x hx; rw [List.eq_of_mem_replicate hx]; rfl
    · rw [List.all_eq_true]; intro x hx; rw [List.eq_of_mem_replicate hx]; rfl
    · have : secs (List.replicate t.toNat line0) = [] := by
        simp [secs, line0]
      rw [this]; exact List.nodup_nil
  · simp [bk0] at h
theorem goB_ok {b : Bk} (h : bookOkB b = 0) : ∀ es : List Evt, ∀ d, d ∈ goB b es → bookOkB d.book = 0
  | [], d, hd => by simp [goB] at hd
  | e :: es, d, hd => by
    simp only [goB, List.mem_cons] at hd
    rcases hd with rfl | hd
    · exact stepD_ok h e
    · exact goB_ok (stepD_ok h e) es d hd
theorem endB_ok {b : Bk} (h : bookOkB b = 0) : ∀ es : List Evt, bookOkB (endB b es) = 0
  | [] => h
  | e :: es => endB_ok (stepD_ok h e) es
end Go.Proofs.YtpoedfmkiiijnaaAm
