/- Texts of this repo, one behind the other (Pu3 Pu4 Pu5 Pu6 Pu7). Plain lemmas and walks. -/
import Derived.Test.YtpoedfmkiiijnaaDoorGC
namespace Go.Proofs.YtpoedfmkiiijnaaDoorAm
end Go.Proofs.YtpoedfmkiiijnaaDoorAm
namespace Go.Proofs.YtpoedfmkiiijnaaDoorAm
set_option linter.unusedVariables false
set_option linter.unusedSimpArgs false
theorem LnOk.to {sec : Int} {l : Ln} (h : LnOk l) (hw : ∀ s, s ∈ l.way → 0 ≤ s ∧ s ≤ sec - 1) : ok2 sec l = true ∧ ok3 l = true ∧ ok4 l = true := by
 have g0 := h.g0
 have g1 := h.g1
 have t1 := h.t1
 have w1 := h.w1
 have n0 := h.n0
 have n1 := h.n1
 have rg := h.rg
 refine ⟨?_, ?_, ?_⟩
 ·simp only [ok2, inB, Bool.and_eq_true, decide_eq_true_eq, List.all_eq_true]
  exact ⟨⟨⟨⟨g0, g1⟩, by unfold totL; omega, t1⟩, w1⟩, hw⟩
 ·simp only [ok3, inB, Bool.and_eq_true, decide_eq_true_eq, List.all_eq_true]
  refine ⟨⟨⟨by omega, by omega⟩, fun i hi => ?_⟩, rg⟩
  rw [List.mem_range] at hi
  have := h.gs i hi
  simp only [gOk, gAt_eq hi, inB, Bool.and_eq_true, Bool.or_eq_true, decide_eq_true_eq]
  refine ⟨⟨⟨this.1, this.2.1⟩, this.2.2⟩, ?_⟩
  by_cases e : i = 0
  ·exact .inl e
  ·right
   obtain ⟨j, rfl⟩ : ∃ j, i = j + 1 := ⟨i - 1, by omega⟩
   rw [Nat.add_sub_cancel, gAt_eq (show j < l.grs.length by omega)]
   exact h.ch j hi
 ·simp only [ok4, inB, Bool.or_eq_true, Bool.and_eq_true, decide_eq_true_eq]
  rcases h.dr with e | ⟨d1, d2, d3, d4⟩
  ·exact .inl e
  ·exact .inr ⟨⟨⟨d1, by omega⟩, d3⟩, d4⟩
/-- A line that is right but for its end: what is given back makes it right. -/
theorem LnOk.give {l : Ln} (g0 : 0 ≤ l.gone) (g1 : l.gone ≤ 1000000) (t1 : totL l ≤ 1000000) (w1 : l.way.length ≤ 100) (n0 : 1 ≤ l.grs.length) (n1 : l.grs.length ≤ 20)
  (gs : ∀ i (h : i < l.grs.length), 0 ≤ l.grs[i].cel ∧ l.grs[i].cel ≤ totL l ∧ 0 ≤ l.grs[i].ver ∧ l.grs[i].ver ≤ 1000000) (ch : ∀ i (h : i + 1 < l.grs.length), l.grs[i + 1].ver = (l.grs[i]'(by omega)).ver + 1)
  (rg : l.gone ≤ reachL l.grs) (dr : l.drop = -1 ∨ (l.gone ≤ l.drop ∧ (lastG l).cel ≤ l.drop)) : LnOk (settleL l) := by
 have td : totL l = l.gone + l.way.length := rfl
 have hrt : reachL l.grs ≤ totL l := reachL_le (by omega) fun g hg => by
  obtain ⟨i, hi, rfl⟩ := List.getElem_of_mem hg
  exact (gs i hi).2.1
 unfold settleL
 by_cases hd : l.drop = -1
 ·rw [if_pos hd]; exact ⟨g0, g1, t1, w1, n0, n1, gs, ch, rg, .inl hd⟩
 rw [if_neg hd]
 have dr := dr.resolve_left hd
 simp only
 by_cases hm : maxI l.drop (reachL l.grs) < totL l
 ·rw [if_pos hm]
  have m1 : l.drop ≤ maxI l.drop (reachL l.grs) ∧ reachL l.grs ≤ maxI l.drop (reachL l.grs) ∧ (maxI l.drop (reachL l.grs) = l.drop ∨ maxI l.drop (reachL l.grs) = reachL l.grs) := by
   unfold maxI; split <;> omega
  generalize hM : maxI l.drop (reachL l.grs) = m at hm m1 ⊢
  have ht : totL { l with way := l.way.take (m - l.gone).toNat } = m := by
   simp only [totL, List.length_take]; omega
  have hgs : ∀ i (h : i < l.grs.length), 0 ≤ l.grs[i].cel ∧ l.grs[i].cel ≤ m ∧ 0 ≤ l.grs[i].ver ∧ l.grs[i].ver ≤ 1000000 := fun i h => by
   have h1 := gs i h
   have h2 := (reachL_ge l.grs i h).1
   exact ⟨h1.1, by omega, h1.2.2⟩
  by_cases hq : totL { l with way := l.way.take (m - l.gone).toNat } ≤ l.drop
  ·rw [if_pos hq]
   exact ⟨g0, g1, by show totL { l with way := l.way.take (m - l.gone).toNat } ≤ _; omega, by simp; omega, n0, n1, fun i h => by
    have := hgs i h
    show 0 ≤ l.grs[i].cel ∧ l.grs[i].cel ≤ totL { l with way := l.way.take (m - l.gone).toNat } ∧ _
    rw [ht]; exact this, ch, rg, .inl rfl⟩
  ·rw [if_neg hq]
   rw [ht] at hq
   exact ⟨g0, g1, by rw [ht]; omega, by simp; omega, n0, n1, fun i h => by rw [ht]; exact hgs i h, ch, rg, .inr ⟨dr.1, by rw [ht]; show l.drop < m; omega, dr.2, by rw [ht]; show m ≤ reachL l.grs; omega⟩⟩
 ·rw [if_neg hm]
  by_cases hq : totL l ≤ l.drop
  ·rw [if_pos hq]
   exact ⟨g0, g1, t1, w1, n0, n1, gs, ch, rg, .inl rfl⟩
  ·rw [if_neg hq]
   refine ⟨g0, g1, t1, w1, n0, n1, gs, ch, rg, .inr ⟨dr.1, by omega, dr.2, ?_⟩⟩
   unfold maxI at hm; split at hm <;> omega
theorem lastG_app {l : Ln} (g : Gr) (h : l.grs = l.grs) : lastG { l with grs := l.grs ++ [g] } = g := by
 simp [lastG, gAt]
theorem LnOk.last {l : Ln} (h : LnOk l) : ∃ hl : l.grs.length - 1 < l.grs.length, lastG l = l.grs[l.grs.length - 1] := ⟨by have := h.n0; omega, gAt_eq (by have := h.n0; omega)⟩
/-- An event that is done leaves a right line. -/
theorem LnOk.ev {ls : List Ln} {l l' : Ln} {e : Evt} (h : LnOk l) (hn : 0 ≤ e.n ∧ e.n ≤ 1000000) (he : evLn ls l e = (0, l')) : LnOk (settleL l') := by
 have g0 := h.g0
 have g1 := h.g1
 have t1 := h.t1
 have w1 := h.w1
 have n0 := h.n0
 have n1 := h.n1
 have rg := h.rg
 have hrt := h.reach
 have td : totL l = l.gone + l.way.length := rfl
 obtain ⟨hl1, hlast⟩ := h.last
 have hdr : l.drop = -1 ∨ (l.gone ≤ l.drop ∧ (lastG l).cel ≤ l.drop) := by
  rcases h.dr with e | ⟨d1, _, d3, _⟩
  ·exact .inl e
  ·exact .inr ⟨d1, d3⟩
 unfold evLn at he
 split at he
 ·split at he
  ·simp at he
  ·split at he
   ·simp at he
   ·split at he
    ·simp at he
    ·rename_i hd hf
     simp only [Prod.mk.injEq, true_and] at he; subst he
     have ht : totL { l with way := l.way ++ [e.n] } = totL l + 1 := by simp [totL]; omega
     have hd' : l.drop = -1 := by simpa using hd
     refine LnOk.give g0 g1 (by rw [ht]; omega) (by simp; omega) n0 n1 (fun i hi => ?_) h.ch rg (.inl hd')
     have := h.gs i hi
     rw [ht]; exact ⟨this.1, by have := this.2.1; show l.grs[i].cel ≤ _; omega, this.2.2⟩
 ·split at he
  ·split at he
   ·simp at he
   ·split at he
    ·simp at he
    ·rename_i hc hf
     simp only [Prod.mk.injEq, true_and] at he; subst he
     have hlv := h.gs _ hl1
     rw [← hlast] at hlv
     refine LnOk.give (l := { l with grs := l.grs ++ [⟨(lastG l).ver + 1, e.n⟩] }) g0 g1 t1 w1 (by simp) (by simp; omega) (fun i hi => ?_) (fun i hi => ?_) ?_ ?_
     ·simp only [List.length_append, List.length_cons, List.length_nil] at hi
      by_cases hh : i < l.grs.length
      ·simp only [List.getElem_append_left hh]; exact h.gs i hh
      ·obtain rfl : i = l.grs.length := by omega
       simp only [List.getElem_concat_length]
       refine ⟨hn.1, ?_, by omega, by omega⟩
       show e.n ≤ totL l
       omega
     ·simp only [List.length_append, List.length_cons, List.length_nil] at hi
      by_cases hh : i + 1 < l.grs.length
      ·simp only [List.getElem_append_left hh, List.getElem_append_left (show i < l.grs.length by omega)]; exact h.ch i hh
      ·have hi2 : i + 1 = l.grs.length := by omega
       have hi3 : i = l.grs.length - 1 := by omega
       have e1 : (l.grs ++ [(⟨(lastG l).ver + 1, e.n⟩ : Gr)])[i + 1]'(by simp; omega) = ⟨(lastG l).ver + 1, e.n⟩ := by
        rw [List.getElem_append_right (by omega)]; simp [hi2]
       have e2 : (l.grs ++ [(⟨(lastG l).ver + 1, e.n⟩ : Gr)])[i]'(by simp; omega) = lastG l := by
        rw [List.getElem_append_left (by omega), hlast]; congr 1
       simp only [e1, e2]
     ·simp only [reachL_app]; unfold maxI; split <;> omega
     ·rw [show lastG { l with grs := l.grs ++ [⟨(lastG l).ver + 1, e.n⟩] } = ⟨(lastG l).ver + 1, e.n⟩ from lastG_app _ rfl]
      rcases hdr with e1 | e1
      ·exact .inl e1
      ·right
       refine ⟨e1.1, ?_⟩
       show e.n ≤ l.drop
       have : l.drop ≠ -1 := by omega
       omega
  ·split at he
   ·split at he
    ·simp at he
    ·split at he
     ·simp at he
     ·rename_i hk hr
      simp only [Prod.mk.injEq, true_and] at he; subst he
      rcases fstI_range (p := hasV e.n) (xs := l.grs) with ⟨h1, _⟩ | ⟨i, hi, h1, _⟩
      ·omega
      rw [h1] at hr ⊢
      simp only [Int.toNat_natCast] at hr ⊢
      refine LnOk.give (l := { l with grs := l.grs.drop i }) g0 g1 t1 w1 (by simp; omega) (by simp; omega) (fun j hj => ?_) (fun j hj => ?_) (by simp only; omega) ?_
      ·simp only [List.length_drop] at hj
       simp only [List.getElem_drop]
       exact h.gs (i + j) (by omega)
      ·simp only [List.length_drop] at hj
       simp only [List.getElem_drop]
       exact h.ch (i + j) (by omega)
      ·have : lastG { l with grs := l.grs.drop i } = lastG l := by
        unfold lastG
        simp only [List.length_drop]
        rw [gAt_eq (by simp; omega), gAt_eq hl1, List.getElem_drop]
        congr 1; omega
       rw [this]; exact hdr
   ·split at he
    ·split at he
     ·simp at he
     ·rename_i hc
      simp only [Prod.mk.injEq, true_and] at he; subst he
      have ht : totL { l with way := l.way.drop (e.n - l.gone).toNat, gone := e.n, drop := if l.drop ≠ -1 ∧ l.drop < e.n then e.n else l.drop } = totL l := by
       simp only [totL, List.length_drop]; omega
      refine LnOk.give (l := { l with way := l.way.drop (e.n - l.gone).toNat, gone := e.n, drop := if l.drop ≠ -1 ∧ l.drop < e.n then e.n else l.drop }) hn.1 hn.2 (by rw [ht]; exact t1) (by simp; omega) n0 n1 (fun i hi => by rw [ht]; exact h.gs i hi) h.ch (by simp only; omega) ?_
      have hl' : lastG { l with way := l.way.drop (e.n - l.gone).toNat, gone := e.n, drop := if l.drop ≠ -1 ∧ l.drop < e.n then e.n else l.drop } = lastG l := rfl
      rw [hl']
      rcases hdr with e1 | e1
      ·left; simp [e1]
      ·right
       have : l.drop ≠ -1 := by omega
       simp only [this, ne_eq, not_false_eq_true, true_and]
       split <;> omega
    ·split at he
     ·simp at he
     ·split at he
      ·simp at he
      ·rename_i hc hd
       simp only [Prod.mk.injEq, true_and] at he; subst he
       refine LnOk.give (l := { l with drop := e.n }) g0 g1 t1 w1 n0 n1 h.gs h.ch rg (.inr ⟨by simp only; omega, ?_⟩)
       show (lastG l).cel ≤ e.n
       omega
theorem settleL_sub (l : Ln) : (settleL l).way.Sublist l.way := by
 unfold settleL
 split
 ·exact List.Sublist.refl _
 ·simp only
  split <;> split <;> first | exact List.take_sublist _ _ | exact List.Sublist.refl _
theorem evLn_way {ls : List Ln} {l l' : Ln} {e : Evt} (he : evLn ls l e = (0, l')) : l'.way.Sublist l.way ∨ (e.op = 1 ∧ ownB ls e.n < 0 ∧ l'.way = l.way ++ [e.n]) := by
 unfold evLn at he
 split at he
 ·split at he
  ·simp at he
  ·split at he
   ·simp at he
   ·split at he
    ·simp at he
    ·rename_i h1 h2 _ _
     simp only [Prod.mk.injEq, true_and] at he; subst he
     exact .inr ⟨h1, by omega, rfl⟩
 ·(repeat' split at he) <;> first | (simp at he; done) | (simp only [Prod.mk.injEq, true_and] at he; subst he; left; first | exact List.Sublist.refl _ | exact List.drop_sublist _ _)
theorem secs_set {ls : List Ln} {k : Nat} (hk : k < ls.length) (x : Ln) : secs (ls.set k x) = secs (ls.take k) ++ (x.way ++ secs (ls.drop (k + 1))) := by
 rw [List.set_eq_take_append_cons_drop, if_pos hk, secs_app, secs_cons]
theorem secs_at {ls : List Ln} {k : Nat} (hk : k < ls.length) : secs ls = secs (ls.take k) ++ (ls[k].way ++ secs (ls.drop (k + 1))) := by
 have := secs_set hk ls[k]
 rwa [List.set_getElem_self] at this
theorem mem_secs {ls : List Ln} {s : Int} : s ∈ secs ls ↔ ∃ l, l ∈ ls ∧ s ∈ l.way := by simp only [secs, List.mem_flatten, List.mem_map]; exact ⟨fun ⟨_, ⟨a, ha, h⟩, hs⟩ => ⟨a, ha, h ▸ hs⟩, fun ⟨a, ha, hs⟩ => ⟨_, ⟨a, ha, rfl⟩, hs⟩⟩
theorem ownB_neg {ls : List Ln} {s : Int} (h : ownB ls s < 0) : s ∉ secs ls := by
 intro hm
 obtain ⟨l, hl, hs⟩ := mem_secs.1 hm
 have : 0 ≤ ownB ls s := fstI_nn.2 ⟨l, hl, by simp [inWay, hs]⟩
 omega
/-- A right book stays right. -/
theorem doV_ok {b : Bk} {e : Evt} (h : bookOkB b = 0) (he : evOkB b e = true) : bookOkB (doV b e).book = 0 := by
 have hev := he
 simp only [evOkB, Bool.and_eq_true, decide_eq_true_eq] at hev
 obtain ⟨_, hop, htr, hne⟩ := hev
 simp only [inB, Bool.and_eq_true, decide_eq_true_eq] at hop htr
 obtain ⟨k, hk⟩ : ∃ k : Nat, e.train = k := ⟨e.train.toNat, by omega⟩
 have hkl : k < b.lines.length := by omega
 have hl : lnAt b e.train = b.lines[k] := by simp [lnAt, hk, hkl]
 obtain ⟨o1, o2, o3, o4, o5⟩ := bookOk_all h
 obtain ⟨s1, s2, s3, s4⟩ := bookOk_sec h
 have hn10 : 0 ≤ e.n ∧ e.n ≤ 1000000 := by
  by_cases p1 : e.op = 1
  ·rw [if_pos p1] at hne; simp [inB] at hne; omega
  ·rw [if_neg p1] at hne; simpa [inB] using hne
 unfold doV
 simp only
 split
 case isFalse => exact h
 rename_i h0
 rw [hl] at h0 ⊢
 obtain ⟨l', hl'⟩ : ∃ l', evLn b.lines b.lines[k] e = (0, l') := ⟨_, Prod.ext h0 rfl⟩
 rw [hl']
 have hln := (bookOk_ln h hkl).ev hn10 hl'
 have hsub := settleL_sub l'
 have hway : ∀ s, s ∈ (settleL l').way → 0 ≤ s ∧ s ≤ b.sec - 1 := fun s hs => by
  have hold : ∀ s, s ∈ b.lines[k].way → 0 ≤ s ∧ s ≤ b.sec - 1 := fun s hs => by
   have := all_at o2 hkl
   simp only [ok2, inB, Bool.and_eq_true, decide_eq_true_eq, List.all_eq_true] at this
   exact this.2 s hs
  rcases evLn_way hl' with hw | ⟨p1, _, hw⟩
  ·exact hold s ((hsub.trans hw).subset hs)
  ·have := hsub.subset hs
   rw [hw] at this
   rcases List.mem_append.1 this with h1 | h1
   ·exact hold s h1
   ·rw [if_pos p1] at hne; simp [inB] at hne h1; omega
 obtain ⟨q2, q3, q4⟩ := hln.to hway
 have hmem : ∀ x, x ∈ b.lines.set k (settleL l') → x ∈ b.lines ∨ x = settleL l' := fun x hx => List.mem_or_eq_of_mem_set hx
 have hnd : (secs (b.lines.set k (settleL l'))).Nodup := by
  rw [secs_set hkl]
  rw [secs_at hkl] at o5
  rcases evLn_way hl' with hw | ⟨p1, hown, hw⟩
  ·exact o5.sublist ((List.Sublist.refl _).append ((hsub.trans hw).append (List.Sublist.refl _)))
  ·have hn := ownB_neg hown
   rw [secs_at hkl] at hn
   have hbig : (secs (b.lines.take k) ++ ((b.lines[k].way ++ [e.n]) ++ secs (b.lines.drop (k + 1)))).Nodup := by
    have hp : (secs (b.lines.take k) ++ ((b.lines[k].way ++ [e.n]) ++ secs (b.lines.drop (k + 1)))).Perm (e.n :: (secs (b.lines.take k) ++ (b.lines[k].way ++ secs (b.lines.drop (k + 1))))) := by
     rw [← List.append_assoc, ← List.append_assoc, ← List.append_assoc]
     rw [List.append_assoc (secs (b.lines.take k) ++ b.lines[k].way)]
     exact List.perm_middle
    exact hp.nodup_iff.2 (List.nodup_cons.2 ⟨hn, o5⟩)
   rw [hw] at hsub
   exact hbig.sublist ((List.Sublist.refl _).append (hsub.append (List.Sublist.refl _)))
 rw [hk, Int.toNat_natCast]
 refine bookOkB_0 ?_ ?_ ?_ ?_ hnd
 ·simp only [ok1, List.length_set] at o1 ⊢; exact o1
 ·rw [List.all_eq_true] at o2 ⊢
  intro x hx
  rcases hmem x hx with h1 | rfl
  ·exact o2 x h1
  ·exact q2
 ·rw [List.all_eq_true] at o3 ⊢
  intro x hx
  rcases hmem x hx with h1 | rfl
  ·exact o3 x h1
  ·exact q3
 ·rw [List.all_eq_true] at o4 ⊢
  intro x hx
  rcases hmem x hx with h1 | rfl
  ·exact o4 x h1
  ·exact q4
theorem doB_ok {b : Bk} {e : Evt} (hc : (doB b e).code ≠ 1) : bookOkB (doB b e).book = 0 := by
 unfold doB at hc ⊢
 split at hc
 ·rename_i q
  rw [if_pos q]
  have : bookOkB b = 0 := by
   have h := q
   simp only [evOkB, Bool.and_eq_true, decide_eq_true_eq] at h
   exact h.1
  exact doV_ok this q
 ·simp at hc
def wd0 : Wd := ⟨false, bk0, []⟩
def bd0 : Bd := ⟨0, 0, 0, 0⟩
def bAt (xs : List Bd) (i : Nat) : Bd := xs.getD i bd0
def lAt (ls : List Ln) (i : Nat) : Ln := ls.getD i line0
theorem bAt_eq {xs : List Bd} {i : Nat} (h : i < xs.length) : bAt xs i = xs[i] := by simp [bAt, h]
theorem lAt_eq {ls : List Ln} {i : Nat} (h : i < ls.length) : lAt ls i = ls[i] := by simp [lAt, h]
/-- A body is where its line lets it be. -/
def bodyOk (l : Ln) (x : Bd) : Bool := decide ((⟨x.ver, x.cel⟩ : Gr) ∈ l.grs) && (inB x.tail l.gone x.front && decide (x.front < x.cel))
def bodiesOk (ls : List Ln) (xs : List Bd) : Bool := (List.range xs.length).all fun i => bodyOk (lAt ls i) (bAt xs i)
def rightB (w : Wd) : Bool := w.ok && (decide (bookOkB w.book = 0) && (decide (w.bodies.length = w.book.lines.length) && bodiesOk w.book.lines w.bodies))
theorem rightB_all {w : Wd} (h : rightB w = true) : w.ok = true ∧ bookOkB w.book = 0 ∧ w.bodies.length = w.book.lines.length ∧ ∀ i (hi : i < w.bodies.length) (hl : i < w.book.lines.length), bodyOk w.book.lines[i] w.bodies[i] = true := by
 simp only [rightB, bodiesOk, Bool.and_eq_true, decide_eq_true_eq, List.all_eq_true, List.mem_range] at h
 exact ⟨h.1, h.2.1, h.2.2.1, fun i hi hl => by have := h.2.2.2 i hi; rwa [lAt_eq hl, bAt_eq hi] at this⟩
theorem rightB_mk {w : Wd} (h1 : w.ok = true) (h2 : bookOkB w.book = 0) (h3 : w.bodies.length = w.book.lines.length) (h4 : ∀ i (hi : i < w.bodies.length) (hl : i < w.book.lines.length), bodyOk w.book.lines[i] w.bodies[i] = true) : rightB w = true := by
 simp only [rightB, bodiesOk, Bool.and_eq_true, decide_eq_true_eq, List.all_eq_true, List.mem_range]
 exact ⟨h1, h2, h3, fun i hi => by rw [lAt_eq (show i < w.book.lines.length by omega), bAt_eq hi]; exact h4 i hi (by omega)⟩
theorem bodyOk_iff {l : Ln} {x : Bd} : bodyOk l x = true ↔ (⟨x.ver, x.cel⟩ : Gr) ∈ l.grs ∧ l.gone ≤ x.tail ∧ x.tail ≤ x.front ∧ x.front < x.cel := by
 simp only [bodyOk, inB, Bool.and_eq_true, decide_eq_true_eq, and_assoc]
def bookW (w : Wd) (e : Evt) : Mv := if (doB w.book e).code = 1 then ⟨1, wd0⟩ else ⟨(doB w.book e).code, { w with book := (doB w.book e).book }⟩
def setBd (w : Wd) (t : Int) (x : Bd) : Wd := { w with bodies := w.bodies.set t.toNat x }
def bdAt (w : Wd) (t : Int) : Bd := bAt w.bodies t.toNat
def actOk (w : Wd) (a : Actn) : Bool := rightB w && (inB a.op 1 5 && inB a.train 0 ((w.bodies.length : Int) - 1))
def stepV (w : Wd) (a : Actn) : Mv :=
 let x := bdAt w a.train
 let gs := (lnAt w.book a.train).grs
 if a.op = 1 then (if a.ev.op = 3 ∨ a.ev.op = 4 then ⟨1, wd0⟩ else bookW w a.ev)
 else if a.op = 2 then
  (if fstI (hasV a.n) gs < 0 ∨ a.n ≤ x.ver then ⟨2, w⟩ else if (gAt gs (fstI (hasV a.n) gs).toNat).cel ≤ x.front then ⟨3, w⟩ else ⟨0, setBd w a.train { x with ver := a.n, cel := (gAt gs (fstI (hasV a.n) gs).toNat).cel }⟩)
 else if a.op = 3 then bookW w ⟨3, a.train, x.ver⟩
 else if a.op = 4 then (if x.cel ≤ x.front + 1 then ⟨3, w⟩ else ⟨0, setBd w a.train { x with front := x.front + 1 }⟩)
 else (if x.tail = x.front then ⟨3, w⟩ else bookW (setBd w a.train { x with tail := x.tail + 1 }) ⟨4, a.train, x.tail + 1⟩)
def stepWd (w : Wd) (a : Actn) : Mv := if actOk w a = true then stepV w a else ⟨1, wd0⟩
/-- What an event leaves of a line's leashes and of what it has left behind. -/
theorem settleL_gone (l : Ln) : (settleL l).gone = l.gone := by
 unfold settleL
 split
 ·rfl
 ·simp only
  split <;> split <;> rfl
theorem settleL_gr (l : Ln) : (settleL l).grs = l.grs := by
 unfold settleL
 split
 ·rfl
 ·simp only
  split <;> split <;> rfl
/-- The line of the event behind it. -/
theorem doB_line {b : Bk} {e : Evt} (he : evOkB b e = true) (h0 : (doB b e).code = 0) : ∃ (k : Nat) (hk : k < b.lines.length) (l' : Ln), e.train = k ∧ evLn b.lines b.lines[k] e = (0, l') ∧ doB b e = ⟨0, { b with lines := b.lines.set k (settleL l') }⟩ := by
 have hev := he
 simp only [evOkB, Bool.and_eq_true, decide_eq_true_eq] at hev
 obtain ⟨_, _, htr, _⟩ := hev
 simp only [inB, Bool.and_eq_true, decide_eq_true_eq] at htr
 obtain ⟨k, hk⟩ : ∃ k : Nat, e.train = k := ⟨e.train.toNat, by omega⟩
 have hkl : k < b.lines.length := by omega
 have hl : lnAt b e.train = b.lines[k] := by simp [lnAt, hk, hkl]
 have hd : doB b e = doV b e := by unfold doB; rw [if_pos he]
 rw [hd] at h0 ⊢
 unfold doV at h0 ⊢
 simp only [hl] at h0 ⊢
 by_cases h1 : (evLn b.lines b.lines[k] e).1 = 0
 ·exact ⟨k, hkl, _, hk, Prod.ext h1 rfl, by rw [if_pos h1, hk, Int.toNat_natCast]⟩
 ·rw [if_neg h1] at h0
  exact absurd h0 h1
theorem doB_fail {b : Bk} {e : Evt} (h1 : (doB b e).code ≠ 1) (h0 : (doB b e).code ≠ 0) : (doB b e).book = b := by
 unfold doB at h1 h0 ⊢
 split
 ·rename_i q
  rw [if_pos q] at h1 h0
  unfold doV at h1 h0 ⊢
  simp only at h1 h0 ⊢
  split
  ·rename_i hh; rw [if_pos hh] at h0; exact absurd rfl h0
  ·rfl
 ·rename_i q; rw [if_neg q] at h1; exact absurd rfl h1
theorem evLn_keep {ls : List Ln} {l l' : Ln} {e : Evt} (h3 : e.op ≠ 3) (h4 : e.op ≠ 4) (he : evLn ls l e = (0, l')) : l'.gone = l.gone ∧ ∀ g, g ∈ l.grs → g ∈ l'.grs := by
 unfold evLn at he
 split at he
 ·(repeat' split at he) <;> first | (simp at he; done) | (simp only [Prod.mk.injEq, true_and] at he; subst he; exact ⟨rfl, fun g hg => hg⟩)
 ·split at he
  ·(repeat' split at he) <;> first | (simp at he; done) | (simp only [Prod.mk.injEq, true_and] at he; subst he; exact ⟨rfl, fun g hg => List.mem_append_left _ hg⟩)
  ·(repeat' split at he) <;> first | (simp at he; done) | (simp only [Prod.mk.injEq, true_and] at he; subst he; exact ⟨rfl, fun g hg => hg⟩)
/-- A body's leash: its place among its line's, and its bounds. -/
theorem body_leash {l : Ln} {x : Bd} (h : LnOk l) (hb : bodyOk l x = true) : ∃ i, ∃ hi : i < l.grs.length, l.grs[i] = ⟨x.ver, x.cel⟩ ∧ x.ver = (gAt l.grs 0).ver + i ∧ 0 ≤ x.ver ∧ x.ver ≤ 1000000 ∧ x.cel ≤ totL l ∧ x.cel ≤ reachL l.grs ∧ 0 ≤ x.tail ∧ x.tail ≤ x.front ∧ x.front < x.cel ∧ l.gone ≤ x.tail ∧ x.cel ≤ 1000000 := by
 obtain ⟨hm, h1, h2, h3⟩ := bodyOk_iff.1 hb
 obtain ⟨i, hi, he⟩ := List.getElem_of_mem hm
 have hg := h.gs i hi
 have hp := h.place i hi
 have hr := reachL_ge l.grs i hi
 rw [he] at hg hp hr
 have := h.g0
 have := h.t1
 exact ⟨i, hi, he, hp, hg.2.2.1, hg.2.2.2, hg.2.1, hr.1, by omega, h2, h3, h1, by have := hg.2.1; simp only at this; omega⟩
theorem find_at {l : Ln} (h : LnOk l) {i : Nat} (hi : i < l.grs.length) {n : Int} (hn : n = (gAt l.grs 0).ver + i) : fstI (hasV n) l.grs = i := by
 rw [h.find, if_pos (by omega)]; omega
theorem drop_head {gs : List Gr} {i : Nat} (hi : i < gs.length) : gs.drop i = gs[i] :: gs.drop (i + 1) := by rw [List.getElem_cons_drop]
theorem reach_drop_at {gs : List Gr} {i : Nat} (hi : i < gs.length) : gs[i].cel ≤ reachL (gs.drop i) := by
 have := (reachL_ge (gs.drop i) 0 (by simp; omega)).1
 rw [List.getElem_drop] at this
 simpa using this
section
variable {w : Wd} {k : Nat} (hr : rightB w = true) (hk : k < w.bodies.length)
include hr hk in
theorem right_at : ∃ hl : k < w.book.lines.length, bookOkB w.book = 0 ∧ LnOk w.book.lines[k] ∧ bodyOk w.book.lines[k] w.bodies[k] = true := by
 obtain ⟨_, h2, h3, h4⟩ := rightB_all hr
 exact ⟨by omega, h2, bookOk_ln h2 (by omega), h4 k hk (by omega)⟩
include hr hk in
/-- Telling what one goes by is always done. -/
theorem tell_ok : evOkB w.book ⟨3, (k : Int), w.bodies[k].ver⟩ = true ∧ (doB w.book ⟨3, (k : Int), w.bodies[k].ver⟩).code = 0 := by
 obtain ⟨hl, h2, h3, h4⟩ := right_at hr hk
 obtain ⟨i, hi, he, hp, v0, v1, _, _, t0, t1, t2, t3, _⟩ := body_leash h3 h4
 have hev : evOkB w.book ⟨3, (k : Int), w.bodies[k].ver⟩ = true := by
  simp only [evOkB, h2, inB, decide_true, Bool.true_and, Bool.and_eq_true, decide_eq_true_eq]
  refine ⟨by decide, by omega, ?_⟩
  rw [if_neg (by decide)]
  simp only [Bool.and_eq_true, decide_eq_true_eq]; omega
 refine ⟨hev, ?_⟩
 have hf := find_at h3 hi hp
 have hrd := reach_drop_at hi
 rw [he] at hrd
 have hev2 : evLn w.book.lines w.book.lines[k] ⟨3, (k : Int), w.bodies[k].ver⟩ = (0, { w.book.lines[k] with grs := w.book.lines[k].grs.drop i }) := by
  unfold evLn
  rw [if_neg (show ¬ (3 : Int) = 1 by decide), if_neg (show ¬ (3 : Int) = 2 by decide), if_pos rfl]
  simp only [hf, Int.toNat_natCast]
  rw [if_neg (by omega), if_neg (by simp only at hrd; omega)]
 unfold doB
 rw [if_pos hev]
 have hln : lnAt w.book ((k : Nat) : Int) = w.book.lines[k] := by simp [lnAt, hl]
 unfold doV
 simp only [hln, hev2, if_true]
include hr hk in
/-- A tail that may move gives its section back. -/
theorem tail_ok (ht : w.bodies[k].tail ≠ w.bodies[k].front) : evOkB w.book ⟨4, (k : Int), w.bodies[k].tail + 1⟩ = true ∧ (doB w.book ⟨4, (k : Int), w.bodies[k].tail + 1⟩).code = 0 := by
 obtain ⟨hl, h2, h3, h4⟩ := right_at hr hk
 obtain ⟨i, hi, he, hp, v0, v1, c1, c2, t0, t1, t2, t3, c3⟩ := body_leash h3 h4
 have hev : evOkB w.book ⟨4, (k : Int), w.bodies[k].tail + 1⟩ = true := by
  simp only [evOkB, h2, inB, decide_true, Bool.true_and, Bool.and_eq_true, decide_eq_true_eq]
  refine ⟨by decide, by omega, ?_⟩
  rw [if_neg (by decide)]
  simp only [Bool.and_eq_true, decide_eq_true_eq]; omega
 refine ⟨hev, ?_⟩
 have hev2 : (evLn w.book.lines w.book.lines[k] ⟨4, (k : Int), w.bodies[k].tail + 1⟩).1 = 0 := by
  unfold evLn
  rw [if_neg (show ¬ (4 : Int) = 1 by decide), if_neg (show ¬ (4 : Int) = 2 by decide), if_neg (show ¬ (4 : Int) = 3 by decide), if_pos rfl, if_neg (by simp only; omega)]
 unfold doB
 rw [if_pos hev]
 have hln : lnAt w.book ((k : Nat) : Int) = w.book.lines[k] := by simp [lnAt, hl]
 unfold doV
 simp only [hln, hev2, if_true]
end
theorem right_book {w : Wd} {b : Bk} (hr : rightB w = true) (hb : bookOkB b = 0) (hl : b.lines.length = w.book.lines.length) (h : ∀ i (hi : i < w.bodies.length) (h1 : i < w.book.lines.length) (h2 : i < b.lines.length), bodyOk b.lines[i] w.bodies[i] = true) : rightB { w with book := b } = true := by
 obtain ⟨r1, r2, r3, r4⟩ := rightB_all hr
 exact rightB_mk r1 hb (by simp only; omega) fun i hi h2 => h i hi (by simp only at h2; omega) h2
theorem right_body {w : Wd} {k : Nat} {x : Bd} (hr : rightB w = true) (hk : k < w.bodies.length) (hl : k < w.book.lines.length) (h : bodyOk w.book.lines[k] x = true) : rightB (setBd w (k : Int) x) = true := by
 obtain ⟨r1, r2, r3, r4⟩ := rightB_all hr
 refine rightB_mk r1 r2 (by simp only [setBd, List.length_set]; exact r3) fun i hi h2 => ?_
 simp only [setBd, Int.toNat_natCast, List.length_set] at hi h2 ⊢
 rw [List.getElem_set]
 split
 ·rename_i e; subst e; exact h
 ·exact r4 i hi h2
theorem bookW_ok {w : Wd} {e : Evt} (hr : rightB w = true) (h3 : e.op ≠ 3) (h4 : e.op ≠ 4) (hc : (bookW w e).code ≠ 1) : rightB (bookW w e).world = true := by
 unfold bookW at hc ⊢
 split at hc
 ·simp at hc
 rename_i h1
 rw [if_neg h1]
 simp only at hc ⊢
 obtain ⟨r1, r2, r3, r4⟩ := rightB_all hr
 by_cases h0 : (doB w.book e).code = 0
 ·have hev : evOkB w.book e = true := by
   cases q : evOkB w.book e with
   | true => rfl
   | false => exact absurd (by simp [doB, q]) h1
  have hbo := doB_ok h1
  obtain ⟨k, hk, l', ht, hl', hd⟩ := doB_line hev h0
  rw [hd] at hbo ⊢
  refine right_book hr hbo (by simp) fun i hi h1 h2 => ?_
  simp only [List.getElem_set]
  split
  ·rename_i e1; subst e1
   obtain ⟨k1, k2⟩ := evLn_keep h3 h4 hl'
   obtain ⟨b1, b2, b3, b4⟩ := bodyOk_iff.1 (r4 k hi h1)
   rw [bodyOk_iff, settleL_gr, settleL_gone, k1]
   exact ⟨k2 _ b1, b2, b3, b4⟩
  ·exact r4 i hi h1
 ·rw [doB_fail h1 h0]; exact hr
/-- A right world stays right. -/
theorem stepWd_ok {w : Wd} {a : Actn} (hc : (stepWd w a).code ≠ 1) : rightB (stepWd w a).world = true := by
 unfold stepWd at hc ⊢
 split at hc
 case isFalse => simp at hc
 rename_i q
 rw [if_pos q]
 simp only [actOk, inB, Bool.and_eq_true, decide_eq_true_eq] at q
 obtain ⟨hr, hop, htr⟩ := q
 obtain ⟨k, hk⟩ : ∃ k : Nat, a.train = k := ⟨a.train.toNat, by omega⟩
 have hkl : k < w.bodies.length := by omega
 obtain ⟨hl, h2, h3, h4⟩ := right_at hr hkl
 have hln : lnAt w.book a.train = w.book.lines[k] := by simp [lnAt, hk, hl]
 have hbd : bdAt w a.train = w.bodies[k] := by simp [bdAt, bAt, hk, hkl]
 unfold stepV at hc ⊢
 rw [hln, hbd] at hc ⊢
 simp only at hc ⊢
 split at hc
 ·rename_i p1; rw [if_pos p1]
  split at hc
  ·simp at hc
  ·rename_i p2; rw [if_neg p2]; exact bookW_ok hr (by omega) (by omega) hc
 rename_i p1; rw [if_neg p1]
 obtain ⟨b1, b2, b3, b4⟩ := bodyOk_iff.1 h4
 split at hc
 ·rename_i p2; rw [if_pos p2]
  split at hc
  ·rename_i p3; rw [if_pos p3]; exact hr
  rename_i p3; rw [if_neg p3]
  split at hc
  ·rename_i p4; rw [if_pos p4]; exact hr
  rename_i p4; rw [if_neg p4, hk]
  refine right_body hr hkl hl ?_
  rcases fstI_range (p := hasV a.n) (xs := w.book.lines[k].grs) with ⟨e1, _⟩ | ⟨i, hi, e1, e2, _⟩
  ·omega
  rw [e1, Int.toNat_natCast, gAt_eq hi] at p4 ⊢
  rw [bodyOk_iff]
  refine ⟨?_, b2, b3, by simp only; omega⟩
  simp only [hasV, decide_eq_true_eq] at e2
  rw [← e2]
  exact List.getElem_mem hi
 rename_i p2; rw [if_neg p2]
 split at hc
 ·rename_i p3; rw [if_pos p3, hk]
  obtain ⟨hev, h0⟩ := tell_ok hr hkl
  obtain ⟨i, hi, he, hp, _⟩ := body_leash h3 h4
  have hf := find_at h3 hi hp
  unfold bookW
  rw [if_neg (by rw [h0]; decide)]
  have hbo := doB_ok (b := w.book) (e := ⟨3, (k : Int), w.bodies[k].ver⟩) (by rw [h0]; decide)
  obtain ⟨k', hk', l', ht, hl', hd⟩ := doB_line hev h0
  simp only at ht
  obtain rfl : k = k' := by omega
  rw [hd] at hbo ⊢
  refine right_book hr hbo (by simp) fun j hj h1 h2 => ?_
  simp only [List.getElem_set]
  split
  ·rename_i e1; subst e1
   rw [bodyOk_iff, settleL_gr, settleL_gone]
   unfold evLn at hl'
   rw [if_neg (show ¬ (3 : Int) = 1 by decide), if_neg (show ¬ (3 : Int) = 2 by decide), if_pos rfl] at hl'
   simp only [hf, Int.toNat_natCast] at hl'
   split at hl'
   ·simp at hl'
   ·split at hl'
    ·simp at hl'
    ·simp only [Prod.mk.injEq, true_and] at hl'; subst hl'
     refine ⟨?_, b2, b3, b4⟩
     rw [← he]
     simp only
     rw [drop_head hi]
     exact List.mem_cons_self
  ·obtain ⟨_, _, _, r4⟩ := rightB_all hr
   exact r4 j hj h1
 rename_i p3; rw [if_neg p3]
 split at hc
 ·rename_i p4; rw [if_pos p4]
  split at hc
  ·rename_i p5; rw [if_pos p5]; exact hr
  rename_i p5; rw [if_neg p5, hk]
  exact right_body hr hkl hl (bodyOk_iff.2 ⟨b1, by simp only; omega, by simp only; omega, by simp only; omega⟩)
 rename_i p4; rw [if_neg p4]
 split at hc
 ·rename_i p5; rw [if_pos p5]; exact hr
 rename_i p5; rw [if_neg p5, hk]
 obtain ⟨hev, h0⟩ := tail_ok hr hkl p5
 unfold bookW
 have hbk : (setBd w (k : Int) { w.bodies[k] with tail := w.bodies[k].tail + 1 }).book = w.book := rfl
 rw [hbk, if_neg (by rw [h0]; decide)]
 have hbo := doB_ok (b := w.book) (e := ⟨4, (k : Int), w.bodies[k].tail + 1⟩) (by rw [h0]; decide)
 obtain ⟨k', hk', l', ht, hl', hd⟩ := doB_line hev h0
 simp only at ht
 obtain rfl : k = k' := by omega
 have hr2 : rightB (setBd w (k : Int) { w.bodies[k] with tail := w.bodies[k].tail + 1 }) = true := right_body hr hkl hl (bodyOk_iff.2 ⟨b1, by simp only; omega, by simp only; omega, by simp only; omega⟩)
 rw [hd] at hbo ⊢
 refine right_book hr2 hbo (by simp [hbk]) fun j hj h1 h2 => ?_
 simp only [setBd, Int.toNat_natCast, List.length_set] at hj
 simp only [setBd, Int.toNat_natCast, List.getElem_set]
 split
 ·rename_i e1; subst e1
  rw [bodyOk_iff, settleL_gr, settleL_gone]
  unfold evLn at hl'
  rw [if_neg (show ¬ (4 : Int) = 1 by decide), if_neg (show ¬ (4 : Int) = 2 by decide), if_neg (show ¬ (4 : Int) = 3 by decide), if_pos rfl] at hl'
  split at hl'
  ·simp at hl'
  ·simp only [Prod.mk.injEq, true_and] at hl'; subst hl'
   exact ⟨b1, Int.le_refl _, by simp only; omega, b4⟩
 ·obtain ⟨_, _, _, r4⟩ := rightB_all hr
  rename_i e1
  exact r4 j hj (by rw [hbk] at h1; exact h1)
def lineS (s : Int) : Ln := ⟨0, [s], [⟨0, 1⟩], -1⟩
def bdS : Bd := ⟨0, 1, 0, 0⟩
def bkS (s : Int) (at' : List Int) : Bk := ⟨true, s, at'.map lineS⟩
def wdS (s : Int) (at' : List Int) : Wd := ⟨true, bkS s at', at'.map fun _ => bdS⟩
def startOk (s : Int) (at' : List Int) : Bool := inB s 1 200 && (decide (at'.length ≤ 20) && ((at'.all fun x => inB x 0 (s - 1)) && decide at'.Nodup))
def startW (s : Int) (at' : List Int) : Wd := if startOk s at' = true then wdS s at' else wd0
theorem lineS_ok (s : Int) : LnOk (lineS s) := by
 refine ⟨by simp [lineS], by simp [lineS], by simp [lineS, totL], by simp [lineS], by simp [lineS], by simp [lineS], fun i h => ?_, fun i h => ?_, by simp [lineS, reachL, maxI], .inl rfl⟩
 ·have : i = 0 := by simp [lineS] at h; omega
  subst this; simp [lineS, totL]
 ·simp [lineS] at h
theorem secs_lineS (l : List Int) : secs (l.map lineS) = l := by
 induction l with
 | nil => rfl
 | cons a l ih => rw [List.map_cons, secs_cons, ih]; rfl
/-- A book of lines with one section each is right where these are apart. -/
theorem bkS_code {s : Int} {l : List Int} (h1 : inB s 1 200 = true) (h2 : l.length ≤ 20) (h3 : ∀ x, x ∈ l → inB x 0 (s - 1) = true) : bookOkB (bkS s l) = if l.Nodup then 0 else 5 := by
 have a : ∀ x, x ∈ l.map lineS → ok2 s x = true ∧ ok3 x = true ∧ ok4 x = true := fun x hx => by
  obtain ⟨y, hy, rfl⟩ := List.mem_map.1 hx
  refine (lineS_ok y).to fun z hz => ?_
  have : z = y := by simpa [lineS] using hz
  subst this
  have := h3 z hy
  simpa [inB] using this
 have k1 : ok1 (bkS s l) = true := by simp only [ok1, bkS, h1, List.length_map, Bool.true_and, decide_eq_true_eq]; exact h2
 have k2 : (bkS s l).lines.all (ok2 s) = true := List.all_eq_true.2 fun x hx => (a x hx).1
 have k3 : (bkS s l).lines.all ok3 = true := List.all_eq_true.2 fun x hx => (a x hx).2.1
 have k4 : (bkS s l).lines.all ok4 = true := List.all_eq_true.2 fun x hx => (a x hx).2.2
 have ks : secs (bkS s l).lines = l := secs_lineS l
 split
 ·rename_i hn; exact bookOkB_0 k1 k2 k3 k4 (by rw [ks]; exact hn)
 ·rename_i hn; exact bookOkB_5 k1 k2 k3 k4 (by rw [ks]; exact hn)
theorem startOk_all {s : Int} {l : List Int} (h : startOk s l = true) : inB s 1 200 = true ∧ l.length ≤ 20 ∧ (∀ x, x ∈ l → inB x 0 (s - 1) = true) ∧ l.Nodup := by
 simp only [startOk, Bool.and_eq_true, decide_eq_true_eq, List.all_eq_true] at h
 exact ⟨h.1, h.2.1, h.2.2.1, h.2.2.2⟩
theorem wdS_ok {s : Int} {l : List Int} (h : startOk s l = true) : rightB (wdS s l) = true := by
 obtain ⟨h1, h2, h3, h4⟩ := startOk_all h
 refine rightB_mk rfl (by show bookOkB (bkS s l) = 0; rw [bkS_code h1 h2 h3, if_pos h4]) (by simp [wdS, bkS]) fun i hi hl => ?_
 simp only [wdS, bkS, List.getElem_map]
 rfl
theorem startW_ok {s : Int} {l : List Int} (h : (startW s l).ok = true) : startOk s l = true ∧ startW s l = wdS s l := by
 unfold startW at h ⊢
 split at h
 ·rename_i q; exact ⟨q, by rw [if_pos q]⟩
 ·simp [wd0] at h
/-- An act of a drive (an act that cannot be read leaves the world). -/
def stepM (w : Wd) (a : Actn) : Mv := if (stepWd w a).code = 1 then ⟨1, w⟩ else stepWd w a
def goW (w : Wd) : List Actn → List Mv
 | [] => []
 | a :: as => stepM w a :: goW (stepM w a).world as
def endW (w : Wd) : List Actn → Wd
 | [] => w
 | a :: as => endW (stepM w a).world as
def driveW (s : Int) (at' : List Int) (as : List Actn) : List Mv := if (startW s at').ok = true ∧ as.length ≤ 2000 then goW (startW s at') as else []
theorem goW_snoc (w : Wd) (as : List Actn) (a : Actn) : goW w (as ++ [a]) = goW w as ++ [stepM (endW w as) a] := by
 induction as generalizing w with
 | nil => rfl
 | cons x xs ih => simp only [List.cons_append, goW, endW, ih]
theorem endW_snoc (w : Wd) (as : List Actn) (a : Actn) : endW w (as ++ [a]) = (stepM (endW w as) a).world := by
 induction as generalizing w with
 | nil => rfl
 | cons x xs ih => simp only [List.cons_append, endW, ih]
theorem goW_len (w : Wd) (as : List Actn) : (goW w as).length = as.length := by
 induction as generalizing w with
 | nil => rfl
 | cons x xs ih => simp only [goW, List.length_cons, ih]
theorem stepM_ok {w : Wd} (h : rightB w = true) (a : Actn) : rightB (stepM w a).world = true := by
 unfold stepM
 split
 ·exact h
 ·rename_i hc; exact stepWd_ok hc
theorem goW_ok {w : Wd} (h : rightB w = true) : ∀ as : List Actn, ∀ m, m ∈ goW w as → rightB m.world = true
 | [], m, hm => by simp [goW] at hm
 | a :: as, m, hm => by
  simp only [goW, List.mem_cons] at hm
  rcases hm with rfl | hm
  ·exact stepM_ok h a
  ·exact goW_ok (stepM_ok h a) as m hm
theorem endW_ok {w : Wd} (h : rightB w = true) : ∀ as : List Actn, rightB (endW w as) = true
 | [] => h
 | a :: as => endW_ok (stepM_ok h a) as
def onC (w : List Int) (b : Nat) (s i : Int) : Nat → List Int
 | 0 => []
 | d + 1 => onC w b s i d ++ if w.getD (b + d) 0 = s then [i] else []
def onX (l : Ln) (x : Bd) (s i : Int) : List Int := onC l.way (x.tail - l.gone).toNat s i (x.front - x.tail + 1).toNat
def onN (ls : List Ln) (xs : List Bd) (s : Int) : Nat → List Int
 | 0 => []
 | i + 1 => onN ls xs s i ++ onX (lAt ls i) (bAt xs i) s i
def onW (w : Wd) (s : Int) : List Int := if rightB w = true then onN w.book.lines w.bodies s w.bodies.length else []
theorem onC_len (w : List Int) (b : Nat) (s i : Int) : ∀ d, (onC w b s i d).length ≤ d
 | 0 => by simp [onC]
 | d + 1 => by
  have := onC_len w b s i d
  simp only [onC, List.length_append]
  split <;> simp <;> omega
/-- Where a body is on its line's way. -/
theorem body_way {l : Ln} {x : Bd} (h : LnOk l) (hb : bodyOk l x = true) : ∃ b m : Nat, x.tail = l.gone + b ∧ x.front = x.tail + m ∧ b + m < l.way.length ∧ 0 ≤ x.tail ∧ x.front ≤ 1000000 := by
 obtain ⟨i, hi, he, hp, v0, v1, c1, c2, t0, t1, t2, t3, c3⟩ := body_leash h hb
 have td : totL l = l.gone + l.way.length := rfl
 exact ⟨(x.tail - l.gone).toNat, (x.front - x.tail).toNat, by omega, by omega, by omega, t0, by omega⟩
theorem onX_eq {l : Ln} {x : Bd} {b m : Nat} (h1 : x.tail = l.gone + b) (h2 : x.front = x.tail + m) (s i : Int) : onX l x s i = onC l.way b s i (m + 1) := by
 unfold onX
 rw [show (x.tail - l.gone).toNat = b by omega, show (x.front - x.tail + 1).toNat = m + 1 by omega]
theorem onN_len {ls : List Ln} {xs : List Bd} {s : Int} {n : Nat} (h : ∀ i, i < n → LnOk (lAt ls i) ∧ bodyOk (lAt ls i) (bAt xs i) = true) : (onN ls xs s n).length ≤ 101 * n := by
 induction n with
 | zero => simp [onN]
 | succ n ih =>
  have h1 := ih fun i hi => h i (by omega)
  obtain ⟨h2, h3⟩ := h n (by omega)
  obtain ⟨b, m, e1, e2, e3, _, _⟩ := body_way h2 h3
  have h4 := h2.w1
  have h5 := onC_len (lAt ls n).way b s n (m + 1)
  simp only [onN, onX_eq e1 e2, List.length_append]
  omega
end Go.Proofs.YtpoedfmkiiijnaaDoorAm
