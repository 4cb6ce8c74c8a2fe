/- A book bent out of shape. A walk. -/
import Derived.Test.YtpoedfmkiiijnaaDw1
import Derived.Test.YtpoedfmkiiijnaaGL
import Derived.Test.YtpoedfmkiiijnaaAp1
import Derived.Test.YtpoedfmkiiijnaaGI
namespace Go.Proofs.Ytpoedfmkiiijnaa
open Go Go.RowKit Go.Proofs.YtpoedfmkiiijnaaAm
set_option linter.unusedVariables false
set_option linter.unusedSimpArgs false
set_option maxRecDepth 10000
set_option maxHeartbeats 8000000
/-- What bend works on: its copy of the book, the result's block. -/
structure BeI (bs : List Int) (E : List Nat) (C m : Nat) (H H1 : Heap) (ok : Bool) (sec : Int) (ul : Value) (A : List Nat) (ls : List Ln) : Prop where
  c : Cur bs E C m H1
  g : GC C H H1
  b3 : H1[H.length]? = some ⟨25, [.bool ok, iv sec, ul], true, true⟩
  b4 : H1[H.length + 1]? = some ⟨25, [.bool false, iv 0, nl], true, true⟩
  r : RS 4 RLnW H1 A ul ls
  o : Own H1 A
  n : ∀ e, e ∈ A → e ≠ C ∧ H.length + 1 < e
  hc : C < H.length
theorem BeI.step {bs : List Int} {E : List Nat} {C m m' : Nat} {H H1 H2 : Heap} {ok : Bool} {sec : Int} {ul : Value} {A : List Nat} {ls : List Ln} (h : BeI bs E C m H H1 ok sec ul A ls) (c : Cur bs E C m' H2) (g : GC C H1 H2) : BeI bs E C m' H H2 ok sec ul A ls := by
  have hC := h.hc
  have bA := h.r.bd RLnW.frm
  exact ⟨c, h.g.trans g, g.cf h.b3 (by omega), g.cf h.b4 (by omega), g.rs RLnW.frm h.r fun e he => (h.n e he).1, h.o.fr fun i hi => g.s i (bA i hi) (h.n i hi).1, h.n, h.hc⟩
/-- A book's lines are short. -/
def shortL (K : Nat) (ls : List Ln) : Prop := ∀ l, l ∈ ls → l.way.length ≤ K ∧ l.grs.length ≤ K
/-- What bend has done. -/
structure BeF (bs : List Int) (E : List Nat) (C m K : Nat) (H H1 : Heap) (ok : Bool) (sec : Int) (ul : Value) (A : List Nat) (ls : List Ln) : Prop where
  c : Cur bs E C m H1
  g : GC C H H1
  b3 : H1[H.length]? = some ⟨25, [.bool ok, iv sec, ul], true, true⟩
  b4 : H1[H.length + 1]? = some ⟨25, [.bool false, iv 0, nl], true, true⟩
  r : RS 4 RLn H1 A ul ls
  n : ∀ e, e ∈ A → H.length + 1 < e
  l : ls.length ≤ 20
  s : shortL (K + 30) ls
theorem BeI.fin {bs : List Int} {E : List Nat} {C m m' K : Nat} {H H1 : Heap} {ok : Bool} {sec : Int} {ul : Value} {A : List Nat} {ls : List Ln} (h : BeI bs E C m H H1 ok sec ul A ls) (hm : m ≤ m') (hl : ls.length ≤ 20) (hs : shortL K ls) (hK : K ≤ 1000) : BeF bs E C m' K H H1 ok sec ul A ls :=
  ⟨h.c.mono hm, h.g, h.b3, h.b4, RS.ofW h.r fun l hl => ⟨by have := (hs l hl).1; omega, by have := (hs l hl).2; omega⟩, fun e he => (h.n e he).2, hl, fun l hl => ⟨by have := (hs l hl).1; omega, by have := (hs l hl).2; omega⟩⟩
theorem BeF.ret {bs : List Int} {E : List Nat} {C m K : Nat} {H H1 : Heap} {ok : Bool} {sec : Int} {ul : Value} {A : List Nat} {ls : List Ln} (h : BeF bs E C m K H H1 ok sec ul A ls) (hC : C < H.length) (hE : ∀ e, e ∈ E → e < H.length) :
    RS 4 RLn (((H1.put (H.length + 1) 0 (.bool ok)).put (H.length + 1) 1 (iv sec)).put (H.length + 1) 2 ul) A ul ls ∧ ls.length ≤ 20 ∧ shortL (K + 30) ls ∧ Cur bs E C m (((H1.put (H.length + 1) 0 (.bool ok)).put (H.length + 1) 1 (iv sec)).put (H.length + 1) 2 ul) ∧ GC C H (((H1.put (H.length + 1) 0 (.bool ok)).put (H.length + 1) 1 (iv sec)).put (H.length + 1) 2 ul) ∧ ∀ e, e ∈ A → H.length < e := by
  have hnp : ∀ i, i ≠ H.length + 1 → ((((H1.put (H.length + 1) 0 (.bool ok)).put (H.length + 1) 1 (iv sec)).put (H.length + 1) 2 ul) : Heap)[i]? = H1[i]? := fun i hi => by rw [get_put_ne _ _ _ hi, get_put_ne _ _ _ hi, get_put_ne _ _ _ hi]
  exact ⟨h.r.fr RLn.frm fun i hi _ => hnp i (by have := h.n i hi; omega), h.l, h.s, h.c.off (H.length + 1) (by omega) (fun hh => by have := hE _ hh; omega) hnp, h.g.off (H.length + 1) (by omega) (by simp only [length_put]; omega) hnp, fun e he => by have := h.n e he; omega⟩
/-- The copy's own block changes. -/
theorem BeF.putOk {bs : List Int} {E : List Nat} {C m K : Nat} {H H1 : Heap} {ok : Bool} {sec : Int} {ul : Value} {A : List Nat} {ls : List Ln} (h : BeF bs E C m K H H1 ok sec ul A ls) (hC : C < H.length) (hE : ∀ e, e ∈ E → e < H.length) (b' : Bool) : BeF bs E C m K H (H1.put H.length 0 (.bool b')) b' sec ul A ls := by
  have hnp : ∀ i, i ≠ H.length → (H1.put H.length 0 (.bool b'))[i]? = H1[i]? := fun i hi => get_put_ne _ _ _ hi
  exact ⟨h.c.off H.length (by omega) (fun hh => by have := hE _ hh; omega) hnp, h.g.off H.length (Nat.le_refl _) (by rw [length_put]; omega) hnp, by rw [get_put, h.b3]; rfl, (hnp _ (by omega)).trans h.b4, h.r.fr RLn.frm fun i hi _ => hnp i (by have := h.n i hi; omega), h.n, h.l, h.s⟩
theorem BeF.putSec {bs : List Int} {E : List Nat} {C m K : Nat} {H H1 : Heap} {ok : Bool} {sec : Int} {ul : Value} {A : List Nat} {ls : List Ln} (h : BeF bs E C m K H H1 ok sec ul A ls) (hC : C < H.length) (hE : ∀ e, e ∈ E → e < H.length) (s' : Int) : BeF bs E C m K H (H1.put H.length 1 (iv s')) ok s' ul A ls := by
  have hnp : ∀ i, i ≠ H.length → (H1.put H.length 1 (iv s'))[i]? = H1[i]? := fun i hi => get_put_ne _ _ _ hi
  exact ⟨h.c.off H.length (by omega) (fun hh => by have := hE _ hh; omega) hnp, h.g.off H.length (Nat.le_refl _) (by rw [length_put]; omega) hnp, by rw [get_put, h.b3]; rfl, (hnp _ (by omega)).trans h.b4, h.r.fr RLn.frm fun i hi _ => hnp i (by have := h.n i hi; omega), h.n, h.l, h.s⟩
theorem at_set {a ck zz : List Value} {n i : Nat} {c : Value} (ha : a.length = n) (hi : i < ck.length) : (a ++ (ck ++ zz)).set (n + i) c = a ++ (ck.set i c ++ zz) := by
  subst ha
  rw [List.set_append_right _ _ (by omega), show a.length + i - a.length = i by omega, List.set_append_left _ _ hi]
theorem at_cf {H : Heap} {id n : Nat} {ty : TypeId} {a ck zz : List Value} (hb : H[id]? = some ⟨ty, a ++ (ck ++ zz), true, true⟩) (ha : a.length = n) {i : Nat} {c : Value} (hc : ck[i]? = some c) : CF H id (n + i) c := by
  have hi := (List.getElem?_eq_some_iff.1 hc).1
  refine CF.of hb rfl ?_
  subst ha
  show (a ++ (ck ++ zz))[a.length + i]? = some c
  rw [List.getElem?_append_right (by omega), show a.length + i - a.length = i by omega, List.getElem?_append_left hi]
  exact hc
/-- A line of the copy, opened. -/
structure BeL (R : Heap → List Nat → Ln → List Value → Prop) (H1 : Heap) (il p : Nat) (A E1 E2 : List Nat) (l : Ln) (v1 v2 : Value) (a zz : List Value) (ty : TypeId) (P : Heap → Ln → Value → Value → List Nat → Prop) : Prop where
  i : il ∈ A
  ne : il ∉ E1 ++ E2
  sub : ∀ e, e ∈ E1 ++ E2 → e ∈ A
  o : Own H1 (E1 ++ E2)
  w : RW 3 1 RInt H1 E1 v1 l.way
  g : RW 45 2 RGr H1 E2 v2 l.grs
  b : H1[il]? = some ⟨ty, a ++ ([iv l.gone, v1, v2, iv l.drop] ++ zz), true, true⟩
  al : a.length = p
  cl : ∀ (H' : Heap) (l' : Ln) (v1' v2' : Value) (Ek' : List Nat), R H' Ek' l' [iv l'.gone, v1', v2', iv l'.drop] → Own H' Ek' → (∀ e, e ∈ Ek' → e ∈ E1 ++ E2 ∨ e ∉ A) → (∀ e, e ∈ A → e ≠ il → e ∉ E1 ++ E2 → H'[e]? = H1[e]?) → H'[il]? = some ⟨ty, a ++ ([iv l'.gone, v1', v2', iv l'.drop] ++ zz), true, true⟩ → P H' l' v1' v2' Ek'
theorem BeI.line {bs : List Int} {E : List Nat} {C m K : Nat} {H H1 : Heap} {ok : Bool} {sec : Int} {il ol n : Nat} {A : List Nat} {ls : List Ln} (h : BeI bs E C m H H1 ok sec (sl il ol n) A ls) (hsh : shortL K ls) (hK : K ≤ 1000) {k : Nat} (hk : k < ls.length) :
    ∃ E1 E2 v1 v2 a zz ty, BeL RLn H1 il (ol + k * 4) A E1 E2 ls[k] v1 v2 a zz ty fun H' l' _ _ Ek' => ∃ E', RS 4 RLn H' E' (sl il ol n) (ls.set k l') ∧ Own H' E' ∧ ∀ e, e ∈ E' → e ∈ A ∨ e ∈ Ek' := by
  obtain ⟨id, o, Ek, ck, a, zz, ty, hv, hil, hne, hsub, hnd, hR, hsz, hal, hbl, hupd⟩ := h.r.upd RLnW.frm RLn.frm (fun l hl E cs h => h.ln ⟨by have := (hsh l hl).1; omega, by have := (hsh l hl).2; omega⟩) h.o hk
  simp only [Value.slice.injEq, Option.some.injEq, Addr.mk.injEq, and_true] at hv
  obtain ⟨⟨rfl, rfl⟩, rfl⟩ := hv
  obtain ⟨E1, E2, v1, v2, rfl, rfl, hw, hg⟩ := hR
  exact ⟨E1, E2, v1, v2, a, zz, ty, hil, hne, hsub, ⟨hnd, fun e he => h.o.2 e (hsub e he)⟩, hw, hg, hbl, hal, fun H' l' v1' v2' Ek' q1 q2 q3 q4 q5 => hupd H' l' _ Ek' rfl q1 q2 q3 q4 q5⟩
/-- A line of the copy has changed: that was it. -/
theorem BeI.done {bs : List Int} {E : List Nat} {C m m' K : Nat} {H H1 H' : Heap} {ok : Bool} {sec : Int} {ul : Value} {A Ek' : List Nat} {ls : List Ln} (h : BeI bs E C m H H1 ok sec ul A ls) (hE : ∀ e, e ∈ E → e < H.length) (hm : m ≤ m') (hll : ls.length ≤ 20) (hsh : shortL K ls) {k : Nat} {l' : Ln} (hl : H1.length ≤ H'.length) (hs : ∀ e, e ≤ H.length + 1 → H'[e]? = H1[e]?) (hr : ∃ E', RS 4 RLn H' E' ul (ls.set k l') ∧ Own H' E' ∧ ∀ e, e ∈ E' → e ∈ A ∨ e ∈ Ek') (hk : ∀ e, e ∈ Ek' → H.length + 1 < e) (h1 : l'.way.length ≤ K + 30) (h2 : l'.grs.length ≤ K + 30) :
    ∃ ok sec ul A ls, BeF bs E C m' K H H' ok sec ul A ls := by
  obtain ⟨E', r, _, hE'⟩ := hr
  have hC := h.hc
  have l3 := lt_of_get h.b3
  have l4 := lt_of_get h.b4
  have nA : ∀ e, e ≤ H.length + 1 → e ∉ A := fun e he hh => by have := (h.n e hh).2; omega
  refine ⟨ok, sec, ul, E', _, ?_, ⟨Nat.le_trans h.g.l hl, fun i hi hc => (hs i (by omega)).trans (h.g.s i hi hc)⟩, (hs _ (by omega)).trans h.b3, (hs _ (by omega)).trans h.b4, r, fun e he => ?_, by rw [List.length_set]; exact hll, fun l hl => ?_⟩
  · obtain ⟨a1, c1, t, s', q1, q2, q3, q4⟩ := h.c
    exact ⟨a1, c1, t, s', (hs C (by omega)).trans q1, by omega, q3.fr (RPp.frm _ _) fun i hi hl => hs i (by have := hE i hi; omega), q4⟩
  · rcases hE' e he with h | h'
    · exact (BeI.n ‹_› e h).2
    · exact hk e h'
  · rcases List.mem_or_eq_of_mem_set hl with h | rfl
    · exact ⟨by have := (hsh l h).1; omega, by have := (hsh l h).2; omega⟩
    · exact ⟨h1, h2⟩
/-- A cell of a line of the copy is written. -/
theorem BeI.put {bs : List Int} {E : List Nat} {C m m' K : Nat} {H H1 H2 : Heap} {ok : Bool} {sec : Int} {ul : Value} {A E1 E2 Ek' : List Nat} {ls : List Ln} {il p : Nat} {l l' : Ln} {v1 v2 v1' v2' : Value} {a zz : List Value} {ty : TypeId} {k : Nat}
    (h : BeI bs E C m H H1 ok sec ul A ls) (hL : BeL RLn H1 il p A E1 E2 l v1 v2 a zz ty fun H' l' _ _ Ek' => ∃ E', RS 4 RLn H' E' ul (ls.set k l') ∧ Own H' E' ∧ ∀ e, e ∈ E' → e ∈ A ∨ e ∈ Ek') (hE : ∀ e, e ∈ E → e < H.length) (hm : m ≤ m') (hll : ls.length ≤ 20) (hsh : shortL K ls)
    (hl : H1.length ≤ H2.length) (hs : ∀ e, e ∈ A → e ∉ E1 ++ E2 → H2[e]? = H1[e]?) (hs2 : ∀ e, e ≤ H.length + 1 → H2[e]? = H1[e]?) (i : Nat) (c : Value) (hi : i < 4) (hck : [iv l.gone, v1, v2, iv l.drop].set i c = [iv l'.gone, v1', v2', iv l'.drop])
    (hr : RLn H2 Ek' l' [iv l'.gone, v1', v2', iv l'.drop]) (ho : Own H2 Ek') (he : ∀ e, e ∈ Ek' → e ∈ E1 ++ E2 ∨ (e ∉ A ∧ H.length + 1 < e)) (h1 : l'.way.length ≤ K + 30) (h2 : l'.grs.length ≤ K + 30) :
    ∃ ok sec ul A ls, BeF bs E C m' K H (H2.put il (p + i) c) ok sec ul A ls := by
  have hil := (h.n il hL.i).2
  have hnp : ∀ j, j ≠ il → (H2.put il (p + i) c)[j]? = H2[j]? := fun j hj => get_put_ne _ _ _ hj
  have nil' : ∀ e, e ∈ Ek' → e ≠ il := fun e hh hq => by
    rcases he e hh with h' | h'
    · exact hL.ne (hq ▸ h')
    · exact h'.1 (hq ▸ hL.i)
  refine BeI.done h hE (k := k) (l' := l') hm hll hsh (by rw [length_put]; exact hl) (fun e h3 => (hnp e (by omega)).trans (hs2 e h3)) (hL.cl _ l' v1' v2' Ek' (RLn.frm.fr hr fun e h3 _ => hnp e (nil' e h3)) (ho.fr fun e h3 => hnp e (nil' e h3)) (fun e h3 => ?_) (fun e h3 h4 h5 => (hnp e h4).trans (hs e h3 h5)) ?_) (fun e h3 => ?_) h1 h2
  · rcases he e h3 with h' | h'
    · exact .inl h'
    · exact .inr h'.1
  · rw [get_put, hs il hL.i hL.ne, hL.b]
    have := at_set (a := a) (ck := [iv l.gone, v1, v2, iv l.drop]) (zz := zz) (i := i) (c := c) hL.al (by simpa using hi)
    simp only [Option.map_some]
    rw [this, hck]
  · rcases he e h3 with h' | h'
    · exact (h.n e (hL.sub e h')).2
    · exact h'.2
theorem BeL.step {R : Heap → List Nat → Ln → List Value → Prop} {C : Nat} {H1 H2 : Heap} {il p : Nat} {A E1 E2 : List Nat} {l : Ln} {v1 v2 : Value} {a zz : List Value} {ty : TypeId} {P : Heap → Ln → Value → Value → List Nat → Prop} (hL : BeL R H1 il p A E1 E2 l v1 v2 a zz ty P) (g : GC C H1 H2) (hn : ∀ e, e ∈ A → e ≠ C) (bA : ∀ e, e ∈ A → e < H1.length) : BeL R H2 il p A E1 E2 l v1 v2 a zz ty P :=
  have n1 : ∀ e, e ∈ E1 ++ E2 → H2[e]? = H1[e]? := fun e he => g.s e (bA e (hL.sub e he)) (hn e (hL.sub e he))
  ⟨hL.i, hL.ne, hL.sub, hL.o.fr n1, hL.w.fr (RP.frm _) fun e he _ => n1 e (List.mem_append_left _ he), hL.g.fr (RP.frm _) fun e he _ => n1 e (List.mem_append_right _ he), g.cf hL.b (hn il hL.i), hL.al, fun H' l' v1' v2' Ek' q1 q2 q3 q4 q5 => hL.cl H' l' v1' v2' Ek' q1 q2 q3 (fun e he h1 h2 => (q4 e he h1 h2).trans (g.s e (bA e he) (hn e he))) q5⟩
theorem BeI.lineW {bs : List Int} {E : List Nat} {C m : Nat} {H H1 : Heap} {ok : Bool} {sec : Int} {il ol n : Nat} {A : List Nat} {ls : List Ln} (h : BeI bs E C m H H1 ok sec (sl il ol n) A ls) {k : Nat} (hk : k < ls.length) :
    ∃ E1 E2 v1 v2 a zz ty, BeL RLnW H1 il (ol + k * 4) A E1 E2 ls[k] v1 v2 a zz ty fun H' l' _ _ Ek' => ∃ E', RS 4 RLnW H' E' (sl il ol n) (ls.set k l') ∧ Own H' E' ∧ ∀ e, e ∈ E' → e ∈ A ∨ e ∈ Ek' := by
  obtain ⟨id, o, Ek, ck, a, zz, ty, hv, hil, hne, hsub, hnd, hR, hsz, hal, hbl, hupd⟩ := h.r.upd RLnW.frm RLnW.frm (fun l hl E cs h => h) h.o hk
  simp only [Value.slice.injEq, Option.some.injEq, Addr.mk.injEq, and_true] at hv
  obtain ⟨⟨rfl, rfl⟩, rfl⟩ := hv
  obtain ⟨E1, E2, v1, v2, rfl, rfl, hw, hg⟩ := hR
  exact ⟨E1, E2, v1, v2, a, zz, ty, hil, hne, hsub, ⟨hnd, fun e he => h.o.2 e (hsub e he)⟩, hw, hg, hbl, hal, fun H' l' v1' v2' Ek' q1 q2 q3 q4 q5 => hupd H' l' _ Ek' rfl q1 q2 q3 q4 q5⟩
/-- The same, and more is to come. -/
theorem BeI.putW {bs : List Int} {E : List Nat} {C m : Nat} {H H1 H2 : Heap} {ok : Bool} {sec : Int} {ul : Value} {A E1 E2 Ek' : List Nat} {ls : List Ln} {il p : Nat} {l l' : Ln} {v1 v2 v1' v2' : Value} {a zz : List Value} {ty : TypeId} {k : Nat}
    (h : BeI bs E C m H H1 ok sec ul A ls) (hL : BeL RLnW H1 il p A E1 E2 l v1 v2 a zz ty fun H' l' _ _ Ek' => ∃ E', RS 4 RLnW H' E' ul (ls.set k l') ∧ Own H' E' ∧ ∀ e, e ∈ E' → e ∈ A ∨ e ∈ Ek') (hE : ∀ e, e ∈ E → e < H.length)
    (hl : H1.length ≤ H2.length) (hs : ∀ e, e ∈ A → e ∉ E1 ++ E2 → H2[e]? = H1[e]?) (hs2 : ∀ e, e ≤ H.length + 1 → H2[e]? = H1[e]?) (i : Nat) (c : Value) (hi : i < 4) (hck : [iv l.gone, v1, v2, iv l.drop].set i c = [iv l'.gone, v1', v2', iv l'.drop])
    (hr : RLnW H2 Ek' l' [iv l'.gone, v1', v2', iv l'.drop]) (ho : Own H2 Ek') (he : ∀ e, e ∈ Ek' → e ∈ E1 ++ E2 ∨ (e ∉ A ∧ H.length + 1 < e)) :
    ∃ A', BeI bs E C m H (H2.put il (p + i) c) ok sec ul A' (ls.set k l') := by
  have hil := (h.n il hL.i).2
  have hC := h.hc
  have hnp : ∀ j, j ≠ il → (H2.put il (p + i) c)[j]? = H2[j]? := fun j hj => get_put_ne _ _ _ hj
  have nil' : ∀ e, e ∈ Ek' → e ≠ il := fun e hh hq => by
    rcases he e hh with h' | h'
    · exact hL.ne (hq ▸ h')
    · exact h'.1 (hq ▸ hL.i)
  have hlo : ∀ e, e ≤ H.length + 1 → (H2.put il (p + i) c)[e]? = H1[e]? := fun e h3 => (hnp e (by omega)).trans (hs2 e h3)
  obtain ⟨E', r, o, hE'⟩ := hL.cl (H2.put il (p + i) c) l' v1' v2' Ek' (RLnW.frm.fr hr fun e h3 _ => hnp e (nil' e h3)) (ho.fr fun e h3 => hnp e (nil' e h3)) (fun e h3 => by
    rcases he e h3 with h' | h'
    · exact .inl h'
    · exact .inr h'.1) (fun e h3 h4 h5 => (hnp e h4).trans (hs e h3 h5)) (by
    rw [get_put, hs il hL.i hL.ne, hL.b]
    have := at_set (a := a) (ck := [iv l.gone, v1, v2, iv l.drop]) (zz := zz) (i := i) (c := c) hL.al (by simpa using hi)
    simp only [Option.map_some]
    rw [this, hck])
  refine ⟨E', ?_, ⟨by rw [length_put]; exact Nat.le_trans h.g.l hl, fun i hi hc => (hlo i (by omega)).trans (h.g.s i hi hc)⟩, (hlo _ (by omega)).trans h.b3, (hlo _ (by omega)).trans h.b4, r, o, fun e h3 => ?_, hC⟩
  · obtain ⟨a1, c1, t, s', q1, q2, q3, q4⟩ := h.c
    exact ⟨a1, c1, t, s', (hlo C (by omega)).trans q1, q2, q3.fr (RPp.frm _ _) fun i hi hl => hlo i (by have := hE i hi; omega), q4⟩
  · rcases hE' e h3 with h' | h'
    · exact h.n e h'
    · rcases he e h' with q | q
      · exact h.n e (hL.sub e q)
      · exact ⟨by omega, q.2⟩
theorem hot_dead' {H : Heap} {i : Nat} (h : H[i]? = some ⟨0, [], false, false⟩) : Heap.hot H i = false := by simp [Heap.hot, h]
theorem rs_blk' {α : Type} {sz : Nat} {g : α → List Value} (hg : ∀ x, (g x).length = sz) {H : Heap} {id : Nat} {ty : TypeId} {xs : List α} {cs : List Value} {b : Bool} (hx : H[id]? = some ⟨ty, cs, b, true⟩) (hc : cs = xs.flatMap g) (hl : xs.length ≤ 4611686018427387904) : RS sz (RP g) H [id] (sl id 0 xs.length) xs :=
  ⟨hl, .inr ⟨id, 0, [], ty, b, [], cs, [], rfl, rfl, by simpa using hx, rfl, hc ▸ RCs.plain hg H xs⟩⟩
theorem BeI.fin2 {bs : List Int} {E : List Nat} {C m m' K : Nat} {H H1 : Heap} {ok : Bool} {sec : Int} {ul : Value} {A : List Nat} {ls : List Ln} (h : BeI bs E C m H H1 ok sec ul A ls) (hm : m ≤ m') (hl : ls.length ≤ 20) (hs : shortL (K + 30) ls) (hK : K ≤ 1000) : BeF bs E C m' K H H1 ok sec ul A ls :=
  ⟨h.c.mono hm, h.g, h.b3, h.b4, RS.ofW h.r fun l hl => ⟨by have := (hs l hl).1; omega, by have := (hs l hl).2; omega⟩, fun e he => (h.n e he).2, hl, hs⟩
theorem app_at {α : Type} {g : α → List Value} {P : Program} {t e : TypeId} {sz by' : Nat} {z : Value} (he : elemO P t = some e) (hs : szO P e = some (sz + 1)) (hb : byO P e = some by') (hz : zeroO P e = some z) (hzl : (cellsV z).length = sz + 1)
    {H : Heap} {E1 : List Nat} {v : Value} {xs : List α} {x : α} {S : Nat} (h1 : RW e (sz + 1) (RP g) H E1 v xs) (ho : Own H E1) (hS : H[S]? = some ⟨e, g x, true, true⟩) (hcx : (g x).length = sz + 1) (hone : (g x).all (·.oneCell') = true)
    (hby : (xs.length + 1) * by' ≤ 140737488355328) (hmax : xs.length + 1 ≤ maxLen) :
    ∃ k v' H3 E', apA P H [t, t] v (sl S 0 1) = some (k, v', H3) ∧ (∀ i, k = some i → i ∈ E1 ∧ Heap.live H i = true) ∧ H.length ≤ H3.length ∧ (∀ i, i < H.length → i ∉ E1 → H3[i]? = H[i]?) ∧
      RW e (sz + 1) (RP g) H3 E' v' (xs ++ [x]) ∧ Own H3 E' ∧ ∀ i, i ∈ E' → i ∈ E1 ∨ H.length ≤ i := by
  have hsrc : srcA H (sz + 1) (sl S 0 1) = some (([x] : List α).length, g x) := by
    have hl : ldC H S ([] : List Value).length (sz + 1) = some (g x) := ldC_cells (b := ⟨e, g x, true, true⟩) hS rfl (sz + 1) [] (g x) [] (by simp) hcx
    unfold srcA
    simp only [Nat.one_mul, List.length_nil] at hl ⊢
    rw [hl]
    rfl
  obtain ⟨k, v', H3, E', e1, e2, e3, e4, e5, e6, e7, e8⟩ := apA_RW he hs hb hz hzl (RP.frm g) h1 hsrc (ys := [x]) (news := g x) ⟨[], [], g x, [], rfl, by simp, hcx, ⟨rfl, rfl⟩, rfl, rfl⟩ hone ho.1 List.nodup_nil (fun i _ hi => by simp at hi) hby hmax
  refine ⟨k, v', H3, E', e1, e2, e3, e4, e5, ⟨e6, fun i hi => ?_⟩, fun i hi => ?_⟩
  · rcases e7 i hi with ⟨h | h, _, h3⟩ | ⟨_, h⟩
    · have := ho.2 i h
      unfold Heap.rwOk at this ⊢
      rw [h3]; exact this
    · simp at h
    · exact h
  · rcases e7 i hi with ⟨h | h, _⟩ | ⟨h, _⟩
    · exact .inl h
    · simp at h
    · exact .inr (by omega)
theorem RFown {H : Heap} {id : Nat} (h : Heap.rwOk H id = true) : RF H id := fun L => by
  have hlt := Heap.lt_of_live (Heap.live_of_rwOk h)
  unfold Heap.rwOk at h ⊢
  rw [List.getElem?_append_left hlt]; exact h
theorem CFat {H : Heap} {id j : Nat} {x : Value} (h : Heap.cell H id j = some x) : CF H id j x := fun L => by
  have hlt := Heap.lt_of_live (Heap.live_of_cell h)
  unfold Heap.cell at h ⊢
  rw [List.getElem?_append_left hlt]; exact h
def B114 : SC := .seq (.reg [⟨some 3, .box 25 (.tmp 1), none, []⟩, ⟨some 4, .alloc 25, none, []⟩]) (.seq (.reg [⟨some 6, .load 25 (.tmp 3), none, []⟩, ⟨some 7, .call { callee := (.value (.func 89)), args := #[(.tmp 6)], argTypes := #[25] }, none, []⟩, ⟨none, .store 25 (.tmp 3) (.tmp 7), none, []⟩]) (.seq (.seq (.reg [⟨some 8, .fieldAddr 25 (.tmp 3) 2, none, []⟩, ⟨some 9, .load 23 (.tmp 8), none, []⟩, ⟨some 10, .call { callee := (.builtin .len), args := #[(.tmp 9)], argTypes := #[23] }, none, []⟩, ⟨some 11, .binOp .eql 3 (.tmp 10) (.const (.int .i64 0)) 3, none, []⟩]) (.cond (.tmp 11) (.seq (.reg [⟨some 12, .fieldAddr 25 (.tmp 3) 0, none, []⟩, ⟨none, .store 4 (.tmp 12) (.const (.bool false)), none, []⟩]) (.seq (.reg [⟨some 13, .load 25 (.tmp 3), none, []⟩, ⟨none, .store 25 (.tmp 4) (.tmp 13), none, []⟩]) .ret)) .skip)) (.seq (.drw 0 [⟨some 14, .fieldAddr 25 (.tmp 3) 2, none, []⟩, ⟨some 15, .load 23 (.tmp 14), none, [0]⟩, ⟨some 16, .move (.tmp 0), none, []⟩, ⟨some 17, .fieldAddr 25 (.tmp 3) 2, none, []⟩, ⟨some 18, .load 23 (.tmp 17), none, [3]⟩, ⟨some 19, .call { callee := (.builtin .len), args := #[(.tmp 18)], argTypes := #[23] }, none, [4, 3]⟩, ⟨some 20, .call { callee := (.value (.func 113)), args := #[(.tmp 16), (.tmp 19)], argTypes := #[116, 3] }, none, [2, 5, 4, 3]⟩, ⟨some 21, .indexAddr 23 (.tmp 15) (.tmp 20), none, [1, 0, 6, 2, 5, 4, 3]⟩, ⟨some 5, .assign (.tmp 21), none, [7, 1, 0, 6, 2, 5, 4, 3]⟩]) (.seq (.seq (.reg [⟨some 22, .move (.tmp 5), none, []⟩, ⟨some 23, .nilCheck (.tmp 22), none, []⟩, ⟨some 24, .fieldAddr 43 (.tmp 23) 2, none, []⟩, ⟨some 25, .load 41 (.tmp 24), none, []⟩, ⟨some 26, .call { callee := (.builtin .len), args := #[(.tmp 25)], argTypes := #[41] }, none, []⟩, ⟨some 27, .binOp .eql 3 (.tmp 26) (.const (.int .i64 0)) 3, none, []⟩]) (.cond (.tmp 27) (.seq (.reg [⟨some 28, .load 25 (.tmp 3), none, []⟩, ⟨none, .store 25 (.tmp 4) (.tmp 28), none, []⟩]) .ret) .skip)) (.seq (.seq (.reg [⟨some 29, .move (.tmp 0), none, []⟩, ⟨some 30, .call { callee := (.value (.func 113)), args := #[(.tmp 29), (.const (.int .i64 11))], argTypes := #[116, 3] }, none, []⟩]) (.block 0 (.seq (.reg [⟨some 56, .binOp .eql 3 (.tmp 30) (.const (.int .i64 0)) 3, none, []⟩, ⟨some 55, .assign (.tmp 56), none, []⟩]) (.cond (.tmp 55) (.reg [⟨some 57, .move (.tmp 5), none, []⟩, ⟨some 58, .move (.tmp 0), none, []⟩, ⟨some 59, .call { callee := (.value (.func 113)), args := #[(.tmp 58), (.const (.int .i64 6))], argTypes := #[116, 3] }, none, []⟩, ⟨some 60, .binOp .sub 3 (.tmp 59) (.const (.int .i64 1)) 3, none, []⟩, ⟨some 61, .nilCheck (.tmp 57), none, []⟩, ⟨some 62, .fieldAddr 43 (.tmp 61) 0, none, []⟩, ⟨none, .store 3 (.tmp 62) (.tmp 60), none, []⟩]) (.seq (.reg [⟨some 64, .binOp .eql 3 (.tmp 30) (.const (.int .i64 1)) 3, none, []⟩, ⟨some 63, .assign (.tmp 64), none, []⟩]) (.cond (.tmp 63) (.drw 1 [⟨some 65, .move (.tmp 5), none, []⟩, ⟨some 66, .move (.tmp 5), none, []⟩, ⟨some 67, .nilCheck (.tmp 66), none, [1]⟩, ⟨some 68, .fieldAddr 43 (.tmp 67) 1, none, [2, 1]⟩, ⟨some 69, .load 40 (.tmp 68), none, [3, 2, 1]⟩, ⟨some 70, .move (.tmp 0), none, []⟩, ⟨some 71, .fieldAddr 25 (.tmp 3) 1, none, []⟩, ⟨some 72, .load 3 (.tmp 71), none, [6]⟩, ⟨some 73, .binOp .add 3 (.tmp 72) (.const (.int .i64 2)) 3, none, [7, 6]⟩, ⟨some 74, .call { callee := (.value (.func 113)), args := #[(.tmp 70), (.tmp 73)], argTypes := #[116, 3] }, none, [5, 8, 7, 6]⟩, ⟨some 75, .binOp .sub 3 (.tmp 74) (.const (.int .i64 1)) 3, none, [9, 5, 8, 7, 6]⟩, ⟨some 76, .buildSlice 40 1 #[(0, (.tmp 75))], none, [10, 9, 5, 8, 7, 6]⟩, ⟨some 77, .call { callee := (.builtin .append), args := #[(.tmp 69), (.tmp 76)], argTypes := #[40, 40] }, none, [4, 3, 2, 1, 11, 10, 9, 5, 8, 7, 6]⟩, ⟨some 78, .nilCheck (.tmp 65), none, [0, 1, 2, 3, 4, 5, 6, 7, 8, 9, 10, 11, 12]⟩, ⟨some 79, .fieldAddr 43 (.tmp 78) 1, none, [13, 0, 1, 2, 3, 4, 5, 6, 7, 8, 9, 10, 11, 12]⟩, ⟨none, .store 40 (.tmp 79) (.tmp 77), none, [14, 13, 0, 1, 2, 3, 4, 5, 6, 7, 8, 9, 10, 11, 12]⟩]) (.seq (.reg [⟨some 81, .binOp .eql 3 (.tmp 30) (.const (.int .i64 2)) 3, none, []⟩, ⟨some 80, .assign (.tmp 81), none, []⟩]) (.cond (.tmp 80) (.seq (.reg [⟨some 82, .move (.tmp 5), none, []⟩, ⟨some 83, .nilCheck (.tmp 82), none, []⟩, ⟨some 84, .fieldAddr 43 (.tmp 83) 1, none, []⟩, ⟨some 85, .load 40 (.tmp 84), none, []⟩, ⟨some 86, .call { callee := (.builtin .len), args := #[(.tmp 85)], argTypes := #[40] }, none, []⟩, ⟨some 87, .binOp .gtr 3 (.tmp 86) (.const (.int .i64 0)) 3, none, []⟩]) (.cond (.tmp 87) (.reg [⟨some 88, .move (.tmp 5), none, []⟩, ⟨some 89, .move (.tmp 5), none, []⟩, ⟨some 90, .nilCheck (.tmp 89), none, []⟩, ⟨some 91, .fieldAddr 43 (.tmp 90) 1, none, []⟩, ⟨some 92, .load 40 (.tmp 91), none, []⟩, ⟨some 93, .slice 40 (.tmp 92) (some (.const (.int .i64 1))) none none, none, []⟩, ⟨some 94, .nilCheck (.tmp 88), none, []⟩, ⟨some 95, .fieldAddr 43 (.tmp 94) 1, none, []⟩, ⟨none, .store 40 (.tmp 95) (.tmp 93), none, []⟩]) .skip)) (.seq (.reg [⟨some 97, .binOp .eql 3 (.tmp 30) (.const (.int .i64 3)) 3, none, []⟩, ⟨some 96, .assign (.tmp 97), none, []⟩]) (.cond (.tmp 96) (.reg [⟨some 98, .move (.tmp 5), none, []⟩, ⟨some 99, .nilCheck (.tmp 98), none, []⟩, ⟨some 100, .fieldAddr 43 (.tmp 99) 2, none, []⟩, ⟨none, .store 41 (.tmp 100) (.const (.slice none 0 0)), none, []⟩]) (.seq (.reg [⟨some 102, .binOp .eql 3 (.tmp 30) (.const (.int .i64 4)) 3, none, []⟩, ⟨some 101, .assign (.tmp 102), none, []⟩]) (.cond (.tmp 101) (.drw 0 [⟨some 103, .move (.tmp 5), none, []⟩, ⟨some 104, .nilCheck (.tmp 103), none, [0]⟩, ⟨some 105, .fieldAddr 43 (.tmp 104) 2, none, [1, 0]⟩, ⟨some 106, .load 41 (.tmp 105), none, [2, 1, 0]⟩, ⟨some 107, .move (.tmp 0), none, []⟩, ⟨some 108, .move (.tmp 5), none, []⟩, ⟨some 109, .nilCheck (.tmp 108), none, [5]⟩, ⟨some 110, .fieldAddr 43 (.tmp 109) 2, none, [6, 5]⟩, ⟨some 111, .load 41 (.tmp 110), none, [7, 6, 5]⟩, ⟨some 112, .call { callee := (.builtin .len), args := #[(.tmp 111)], argTypes := #[41] }, none, [8, 7, 6, 5]⟩, ⟨some 113, .call { callee := (.value (.func 113)), args := #[(.tmp 107), (.tmp 112)], argTypes := #[116, 3] }, none, [4, 9, 8, 7, 6, 5]⟩, ⟨some 114, .move (.tmp 0), none, []⟩, ⟨some 115, .call { callee := (.value (.func 113)), args := #[(.tmp 114), (.const (.int .i64 9))], argTypes := #[116, 3] }, none, [11, 10, 4, 9, 8, 7, 6, 5]⟩, ⟨some 116, .binOp .sub 3 (.tmp 115) (.const (.int .i64 1)) 3, none, [12, 11, 10, 4, 9, 8, 7, 6, 5]⟩, ⟨some 117, .indexAddr 41 (.tmp 106) (.tmp 113), none, [3, 2, 1, 0, 10, 4, 9, 8, 7, 6, 5, 11, 12, 13]⟩, ⟨some 118, .fieldAddr 45 (.tmp 117) 1, none, [14, 3, 2, 1, 0, 10, 4, 9, 8, 7, 6, 5, 11, 12, 13]⟩, ⟨none, .store 3 (.tmp 118) (.tmp 116), none, [15, 14, 3, 2, 1, 0, 10, 4, 9, 8, 7, 6, 5, 11, 12, 13]⟩]) (.seq (.reg [⟨some 120, .binOp .eql 3 (.tmp 30) (.const (.int .i64 5)) 3, none, []⟩, ⟨some 119, .assign (.tmp 120), none, []⟩]) (.cond (.tmp 119) (.drw 0 [⟨some 121, .move (.tmp 5), none, []⟩, ⟨some 122, .nilCheck (.tmp 121), none, [0]⟩, ⟨some 123, .fieldAddr 43 (.tmp 122) 2, none, [1, 0]⟩, ⟨some 124, .load 41 (.tmp 123), none, [2, 1, 0]⟩, ⟨some 125, .move (.tmp 0), none, []⟩, ⟨some 126, .move (.tmp 5), none, []⟩, ⟨some 127, .nilCheck (.tmp 126), none, [5]⟩, ⟨some 128, .fieldAddr 43 (.tmp 127) 2, none, [6, 5]⟩, ⟨some 129, .load 41 (.tmp 128), none, [7, 6, 5]⟩, ⟨some 130, .call { callee := (.builtin .len), args := #[(.tmp 129)], argTypes := #[41] }, none, [8, 7, 6, 5]⟩, ⟨some 131, .call { callee := (.value (.func 113)), args := #[(.tmp 125), (.tmp 130)], argTypes := #[116, 3] }, none, [4, 9, 8, 7, 6, 5]⟩, ⟨some 132, .indexAddr 41 (.tmp 124) (.tmp 131), none, [3, 2, 1, 0, 10, 4, 9, 8, 7, 6, 5]⟩, ⟨some 133, .fieldAddr 45 (.tmp 132) 0, none, [11, 3, 2, 1, 0, 10, 4, 9, 8, 7, 6, 5]⟩, ⟨some 134, .load 3 (.tmp 133), none, [12, 11, 3, 2, 1, 0, 10, 4, 9, 8, 7, 6, 5]⟩, ⟨some 135, .move (.tmp 0), none, []⟩, ⟨some 136, .call { callee := (.value (.func 113)), args := #[(.tmp 135), (.const (.int .i64 3))], argTypes := #[116, 3] }, none, [14, 10, 4, 9, 8, 7, 6, 5]⟩, ⟨some 137, .binOp .sub 3 (.tmp 136) (.const (.int .i64 1)) 3, none, [15, 14, 10, 4, 9, 8, 7, 6, 5]⟩, ⟨some 138, .binOp .add 3 (.tmp 134) (.tmp 137) 3, none, [13, 12, 11, 3, 2, 1, 0, 10, 4, 9, 8, 7, 6, 5, 16, 15, 14]⟩, ⟨some 139, .indexAddr 41 (.tmp 124) (.tmp 131), none, [3, 2, 1, 0, 10, 4, 9, 8, 7, 6, 5, 11, 12, 13, 14, 15, 16, 17]⟩, ⟨some 140, .fieldAddr 45 (.tmp 139) 0, none, [18, 3, 2, 1, 0, 10, 4, 9, 8, 7, 6, 5, 11, 12, 13, 14, 15, 16, 17]⟩, ⟨none, .store 3 (.tmp 140) (.tmp 138), none, [19, 18, 3, 2, 1, 0, 10, 4, 9, 8, 7, 6, 5, 11, 12, 13, 14, 15, 16, 17]⟩]) (.seq (.reg [⟨some 142, .binOp .eql 3 (.tmp 30) (.const (.int .i64 6)) 3, none, []⟩, ⟨some 141, .assign (.tmp 142), none, []⟩]) (.cond (.tmp 141) (.reg [⟨some 143, .move (.tmp 5), none, []⟩, ⟨some 144, .move (.tmp 0), none, []⟩, ⟨some 145, .call { callee := (.value (.func 113)), args := #[(.tmp 144), (.const (.int .i64 9))], argTypes := #[116, 3] }, none, []⟩, ⟨some 146, .binOp .sub 3 (.tmp 145) (.const (.int .i64 2)) 3, none, []⟩, ⟨some 147, .nilCheck (.tmp 143), none, []⟩, ⟨some 148, .fieldAddr 43 (.tmp 147) 3, none, []⟩, ⟨none, .store 3 (.tmp 148) (.tmp 146), none, []⟩]) (.seq (.reg [⟨some 150, .binOp .eql 3 (.tmp 30) (.const (.int .i64 7)) 3, none, []⟩, ⟨some 149, .assign (.tmp 150), none, []⟩]) (.cond (.tmp 149) (.reg [⟨some 151, .buildSlice 40 4 #[(0, (.const (.int .i64 0))), (1, (.const (.int .i64 1))), (2, (.const (.int .i64 200))), (3, (.const (.int .i64 201)))], none, []⟩, ⟨some 152, .move (.tmp 0), none, []⟩, ⟨some 153, .call { callee := (.value (.func 113)), args := #[(.tmp 152), (.const (.int .i64 4))], argTypes := #[116, 3] }, none, []⟩, ⟨some 154, .indexAddr 40 (.tmp 151) (.tmp 153), none, []⟩, ⟨some 155, .load 3 (.tmp 154), none, []⟩, ⟨some 156, .fieldAddr 25 (.tmp 3) 1, none, []⟩, ⟨none, .store 3 (.tmp 156) (.tmp 155), none, []⟩]) (.seq (.reg [⟨some 158, .binOp .eql 3 (.tmp 30) (.const (.int .i64 8)) 3, none, []⟩, ⟨some 157, .assign (.tmp 158), none, []⟩]) (.cond (.tmp 157) (.block 1 (.loop (.seq (.seq (.drw 0 [⟨some 159, .move (.tmp 5), none, []⟩, ⟨some 160, .nilCheck (.tmp 159), none, [0]⟩, ⟨some 161, .fieldAddr 43 (.tmp 160) 2, none, [1, 0]⟩, ⟨some 162, .load 41 (.tmp 161), none, [2, 1, 0]⟩, ⟨some 163, .call { callee := (.builtin .len), args := #[(.tmp 162)], argTypes := #[41] }, none, [3, 2, 1, 0]⟩, ⟨some 164, .move (.tmp 0), none, []⟩, ⟨some 165, .call { callee := (.value (.func 113)), args := #[(.tmp 164), (.const (.int .i64 2))], argTypes := #[116, 3] }, none, [5]⟩, ⟨some 166, .binOp .add 3 (.const (.int .i64 20)) (.tmp 165) 3, none, [6, 5]⟩, ⟨some 167, .binOp .lss 3 (.tmp 163) (.tmp 166) 3, none, [4, 3, 2, 1, 0, 7, 6, 5]⟩]) (.cond (.tmp 167) .skip (.exit 1))) (.block 2 (.drw 1 [⟨some 168, .move (.tmp 5), none, []⟩, ⟨some 169, .move (.tmp 5), none, []⟩, ⟨some 170, .nilCheck (.tmp 169), none, [1]⟩, ⟨some 171, .fieldAddr 43 (.tmp 170) 2, none, [2, 1]⟩, ⟨some 172, .load 41 (.tmp 171), none, [3, 2, 1]⟩, ⟨some 173, .move (.tmp 5), none, []⟩, ⟨some 174, .nilCheck (.tmp 173), none, [5]⟩, ⟨some 175, .fieldAddr 43 (.tmp 174) 2, none, [6, 5]⟩, ⟨some 176, .load 41 (.tmp 175), none, [7, 6, 5]⟩, ⟨some 177, .move (.tmp 5), none, []⟩, ⟨some 178, .nilCheck (.tmp 177), none, [9]⟩, ⟨some 179, .fieldAddr 43 (.tmp 178) 2, none, [10, 9]⟩, ⟨some 180, .load 41 (.tmp 179), none, [11, 10, 9]⟩, ⟨some 181, .call { callee := (.builtin .len), args := #[(.tmp 180)], argTypes := #[41] }, none, [12, 11, 10, 9]⟩, ⟨some 182, .binOp .sub 3 (.tmp 181) (.const (.int .i64 1)) 3, none, [13, 12, 11, 10, 9]⟩, ⟨some 183, .indexAddr 41 (.tmp 176) (.tmp 182), none, [8, 7, 6, 5, 14, 13, 12, 11, 10, 9]⟩, ⟨some 184, .fieldAddr 45 (.tmp 183) 0, none, [15, 8, 7, 6, 5, 14, 13, 12, 11, 10, 9]⟩, ⟨some 185, .load 3 (.tmp 184), none, [16, 15, 8, 7, 6, 5, 14, 13, 12, 11, 10, 9]⟩, ⟨some 186, .binOp .add 3 (.tmp 185) (.const (.int .i64 1)) 3, none, [17, 16, 15, 8, 7, 6, 5, 14, 13, 12, 11, 10, 9]⟩, ⟨some 187, .move (.tmp 5), none, []⟩, ⟨some 188, .nilCheck (.tmp 187), none, [19]⟩, ⟨some 189, .fieldAddr 43 (.tmp 188) 0, none, [20, 19]⟩, ⟨some 190, .load 3 (.tmp 189), none, [21, 20, 19]⟩, ⟨some 191, .build 45 #[(0, (.tmp 186)), (1, (.tmp 190))], none, [18, 17, 16, 15, 8, 7, 6, 5, 14, 13, 12, 11, 10, 9, 22, 21, 20, 19]⟩, ⟨some 192, .buildSlice 41 1 #[(0, (.tmp 191))], none, [23, 18, 17, 16, 15, 8, 7, 6, 5, 14, 13, 12, 11, 10, 9, 22, 21, 20, 19]⟩, ⟨some 193, .call { callee := (.builtin .append), args := #[(.tmp 172), (.tmp 192)], argTypes := #[41, 41] }, none, [4, 3, 2, 1, 24, 23, 18, 17, 16, 15, 8, 7, 6, 5, 14, 13, 12, 11, 10, 9, 22, 21, 20, 19]⟩, ⟨some 194, .nilCheck (.tmp 168), none, [0, 1, 2, 3, 4, 5, 6, 7, 8, 9, 10, 11, 12, 13, 14, 15, 16, 17, 18, 19, 20, 21, 22, 23, 24, 25]⟩, ⟨some 195, .fieldAddr 43 (.tmp 194) 2, none, [26, 0, 1, 2, 3, 4, 5, 6, 7, 8, 9, 10, 11, 12, 13, 14, 15, 16, 17, 18, 19, 20, 21, 22, 23, 24, 25]⟩, ⟨none, .store 41 (.tmp 195) (.tmp 193), none, [27, 26, 0, 1, 2, 3, 4, 5, 6, 7, 8, 9, 10, 11, 12, 13, 14, 15, 16, 17, 18, 19, 20, 21, 22, 23, 24, 25]⟩]))))) (.seq (.reg [⟨some 197, .binOp .eql 3 (.tmp 30) (.const (.int .i64 9)) 3, none, []⟩, ⟨some 196, .assign (.tmp 197), none, []⟩]) (.cond (.tmp 196) (.reg [⟨some 198, .fieldAddr 25 (.tmp 3) 0, none, []⟩, ⟨none, .store 4 (.tmp 198) (.const (.bool false)), none, []⟩]) (.seq (.reg [⟨some 31, .move (.tmp 5), none, []⟩, ⟨some 32, .move (.tmp 0), none, []⟩, ⟨some 33, .call { callee := (.value (.func 113)), args := #[(.tmp 32), (.const (.int .i64 3))], argTypes := #[116, 3] }, none, []⟩, ⟨some 34, .binOp .sub 3 (.const (.int .i64 1000000)) (.tmp 33) 3, none, []⟩, ⟨some 35, .nilCheck (.tmp 31), none, []⟩, ⟨some 36, .fieldAddr 43 (.tmp 35) 0, none, []⟩, ⟨none, .store 3 (.tmp 36) (.tmp 34), none, []⟩]) (.drw 1 [⟨some 37, .move (.tmp 5), none, []⟩, ⟨some 38, .move (.tmp 0), none, []⟩, ⟨some 39, .call { callee := (.value (.func 113)), args := #[(.tmp 38), (.const (.int .i64 2))], argTypes := #[116, 3] }, none, [1]⟩, ⟨some 40, .binOp .sub 3 (.const (.int .i64 1000000)) (.tmp 39) 3, none, [2, 1]⟩, ⟨some 41, .move (.tmp 5), none, []⟩, ⟨some 42, .nilCheck (.tmp 41), none, [4]⟩, ⟨some 43, .fieldAddr 43 (.tmp 42) 0, none, [5, 4]⟩, ⟨some 44, .load 3 (.tmp 43), none, [6, 5, 4]⟩, ⟨some 45, .move (.tmp 5), none, []⟩, ⟨some 46, .nilCheck (.tmp 45), none, [8]⟩, ⟨some 47, .fieldAddr 43 (.tmp 46) 1, none, [9, 8]⟩, ⟨some 48, .load 40 (.tmp 47), none, [10, 9, 8]⟩, ⟨some 49, .call { callee := (.builtin .len), args := #[(.tmp 48)], argTypes := #[40] }, none, [11, 10, 9, 8]⟩, ⟨some 50, .binOp .add 3 (.tmp 44) (.tmp 49) 3, none, [7, 6, 5, 4, 12, 11, 10, 9, 8]⟩, ⟨some 51, .build 45 #[(0, (.tmp 40)), (1, (.tmp 50))], none, [3, 2, 1, 13, 7, 6, 5, 4, 12, 11, 10, 9, 8]⟩, ⟨some 52, .buildSlice 41 1 #[(0, (.tmp 51))], none, [14, 3, 2, 1, 13, 7, 6, 5, 4, 12, 11, 10, 9, 8]⟩, ⟨some 53, .nilCheck (.tmp 37), none, [0, 1, 2, 3, 4, 5, 6, 7, 8, 9, 10, 11, 12, 13, 14, 15]⟩, ⟨some 54, .fieldAddr 43 (.tmp 53) 2, none, [16, 0, 1, 2, 3, 4, 5, 6, 7, 8, 9, 10, 11, 12, 13, 14, 15]⟩, ⟨none, .store 41 (.tmp 54) (.tmp 52), none, [17, 16, 0, 1, 2, 3, 4, 5, 6, 7, 8, 9, 10, 11, 12, 13, 14, 15]⟩])))))))))))))))))))))))) (.seq (.reg [⟨some 199, .load 25 (.tmp 3), none, []⟩, ⟨none, .store 25 (.tmp 4) (.tmp 199), none, []⟩]) .ret))))))
theorem s114 : Try.f114.body.bind (stripC 200) = some B114 := by kernel_rfl
theorem bend_ac {H : Heap} {bs : List Int} {E E2 : List Nat} {C m K : Nat} (h : Cur bs E C m H) (hm : m ≤ 1000000) (hK : K ≤ 1000) {b : Bk} {ul : Value} (hb : RS 4 RLn H E2 ul b.lines) (hnc : ∀ e, e ∈ E2 → e ≠ C) (hll : b.lines.length ≤ 20) (hsh : shortL K b.lines) :
    ∃ v H', AC Try.prog 114 [pt C 0, .agg #[.bool b.ok, iv b.sec, ul]] H v H' [C] ∧ ∃ (b' : Bk) (wl : Value) (A : List Nat), v = .agg #[.bool b'.ok, iv b'.sec, wl] ∧ RS 4 RLn H' A wl b'.lines ∧ b'.lines.length ≤ 20 ∧ shortL (K + 30) b'.lines ∧ Cur bs E C (m + 200) H' ∧ GC C H H' ∧ ∀ e, e ∈ A → H.length < e := by
  have hCl := h.lt
  have hEl := h.bd
  have xu := hb.one
  have yu := hb.cv
  refine AC.of_bodyS (N := 200) Try.func114 s114 (by kernel_rfl) rfl rfl (by simp) ?_; unfold B114
  repeat (first | refine sA ?_ | refine sB ?_ | refine sC ?_ | refine sD ?_ | refine sE rfl ?_ | refine sF rfl ?_ | refine sG rfl ?_ | ((first | refine sk_reg fun K hK => ?_ | refine sk_drw mix fun K hK => ?_); simp [xu, yu]; refine hK _ ?_; clear hK K))
  refine sk_at [(0, pt C 0), (3, pt H.length 0), (4, pt (H.length + 1) 0)] (fun H0 => Gro H H0 ∧ H0[H.length]? = some ⟨25, [.bool b.ok, iv b.sec, ul], true, true⟩ ∧ H0[H.length + 1]? = some ⟨25, [.bool false, iv 0, nl], true, true⟩) (by simp [subL, getT]) ⟨Gro.one _ _, by simp, by simp⟩ ?_
  rintro H0 ⟨g0, b3, b4⟩
  have hl0 : H.length + 1 < H0.length := lt_of_get b4
  have hl0' : H.length ≤ H0.length := by omega
  have p0 : CF H0 H.length 0 (.bool b.ok) := CF.of b3 rfl rfl
  have p1 : CF H0 H.length 1 (iv b.sec) := CF.of b3 rfl rfl
  have p2 : CF H0 H.length 2 ul := CF.of b3 rfl rfl
  have pr := RF.of b3
  have w0 : ∀ n, H.length ≤ H.length + n := fun n => by omega
  refine sk_reg fun K hK => ?_; simp [p0.s, p1.s, p2.s, xu, yu]
  refine AskX.mkr (l2copy_mk (cs := [.bool b.ok, iv b.sec, ul]) ⟨_, rfl, hb.gro g0 RLn.frm⟩ (by omega) (fun l hl => ⟨by have := (hsh l hl).1; omega, by have := (hsh l hl).2; omega⟩)) ?_; rintro _ J1 A ⟨wl, rfl, rl⟩ o1 n1; simp [p0.s, p1.s, p2.s, pr.s, xu, yu, hl0']
  simp [p0.s, p1.s, p2.s, pr.s, rl.one, rl.cv]
  refine hK _ ?_; clear hK K
  have hnp : ∀ i, i ≠ H.length → (((((H0 ++ J1).put H.length 0 (.bool b.ok)).put H.length 1 (iv b.sec)).put H.length 2 wl) : Heap)[i]? = (H0 ++ J1)[i]? := fun i hi => by rw [get_put_ne _ _ _ hi, get_put_ne _ _ _ hi, get_put_ne _ _ _ hi]
  have n1' : ∀ e, e ∈ A → e ≠ C ∧ H.length + 1 < e := fun e he => by have := n1 e he; exact ⟨by omega, by omega⟩
  refine sk_at [(0, pt C 0), (3, pt H.length 0), (4, pt (H.length + 1) 0)] (fun Hx => BeI bs E C m H Hx b.ok b.sec wl A b.lines) (by simp [subL, getT]) ?_ ?_
  · refine ⟨((h.gro g0).gro ⟨J1, rfl⟩).off H.length (by omega) (fun hh => by have := hEl _ hh; omega) hnp, (GC.of (g0.trans ⟨J1, rfl⟩)).off H.length (Nat.le_refl _) (by simp only [length_put]; omega) hnp, ?_, ?_, rl.fr RLnW.frm fun i hi _ => hnp i (by have := (n1' i hi).2; omega), o1.fr fun i hi => hnp i (by have := (n1' i hi).2; omega), n1', hCl⟩
    · rw [get_put, get_put, get_put, List.getElem?_append_left (lt_of_get b3), b3]
      rfl
    · rw [hnp _ (by omega), List.getElem?_append_left (lt_of_get b4)]
      exact b4
  clear rl o1 n1 n1' hnp g0 b3 b4 p0 p1 p2 pr hl0 hl0'
  rintro H1 hI
  have p0 : CF H1 H.length 0 (.bool b.ok) := CF.of hI.b3 rfl rfl
  have p1 : CF H1 H.length 1 (iv b.sec) := CF.of hI.b3 rfl rfl
  have p2 : CF H1 H.length 2 wl := CF.of hI.b3 rfl rfl
  have pr := RF.of hI.b3
  have r0 : CF H1 (H.length + 1) 0 (.bool false) := CF.of hI.b4 rfl rfl
  have r1 : CF H1 (H.length + 1) 1 (iv 0) := CF.of hI.b4 rfl rfl
  have r2 : CF H1 (H.length + 1) 2 nl := CF.of hI.b4 rfl rfl
  have rr := RF.of hI.b4
  have w4 : ∀ n, H.length ≤ H.length + 1 + n := fun n => by omega
  obtain ⟨al, cl, rfl⟩ := hI.r.form
  have hl1 := hI.g.l
  by_cases hlen : b.lines.length = 0
  · have hlen' : b.lines = [] := List.length_eq_zero_iff.1 hlen
    repeat (first | refine sA ?_ | refine sB ?_ | refine sC ?_ | refine sD ?_ | refine sE rfl ?_ | refine sF rfl ?_ | refine sG rfl ?_ | ((first | refine sk_reg fun K hK => ?_ | refine sk_drw mix fun K hK => ?_); simp [hlen, hlen', p0.s, p1.s, p2.s, pr.s, r0.s, r1.s, r2.s, rr.s, w0, w4]; refine hK _ ?_; clear hK K))
    have hF := (BeF.putOk (hI.fin (m' := m + 200) (by omega) hll hsh hK) hCl hEl false).ret hCl hEl
    rw [hlen] at hF
    refine sk_ret ?_; simp [r0.s, r1.s, r2.s]
    obtain ⟨q1, _, q3⟩ := hF
    exact ⟨⟨false, b.sec, b.lines⟩, _, ⟨rfl, rfl, rfl⟩, A, q1, hll, q3⟩
  have hlen' : ¬ b.lines = [] := fun hh => hlen (by rw [hh]; rfl)
  obtain ⟨_, H2, ac1, z, rfl, z0, z1, _, h2, g2⟩ := pick_ac hI.c (by omega) (b.lines.length : Int)
  obtain ⟨k, rfl⟩ : ∃ k : Nat, z = k := ⟨z.toNat, by omega⟩
  have hk : k < b.lines.length := by have := z1 (by omega); omega
  have hI2 := hI.step h2 g2
  have q2 : CF H2 H.length 2 (.slice al b.lines.length cl) := CF.of hI2.b3 rfl rfl
  have lv := hI.c.live
  have gl := g2.l
  obtain ⟨il, ol, Ek, ck, a, zz, ty, hv, _⟩ := hI2.r.upd RLnW.frm RLn.frm (fun l hl E cs h => h.ln ⟨by have := (hsh l hl).1; omega, by have := (hsh l hl).2; omega⟩) hI2.o hk
  simp only [Value.slice.injEq, true_and] at hv
  obtain ⟨rfl, rfl⟩ := hv
  repeat (first | refine sA ?_ | refine sB ?_ | refine sC ?_ | refine sD ?_ | refine sE rfl ?_ | refine sF rfl ?_ | refine sG rfl ?_ | ((first | refine sk_reg fun K hK => ?_ | refine sk_drw mix fun K hK => ?_); simp [hlen, hlen', hk, p0.s, p1.s, p2.s, q2.s, lv, gl]; (repeat ((first | refine AskX.go (ac1) ?_ | refine AskD.go (ac1) ?_); simp [hlen, hlen', hk, p0.s, p1.s, p2.s, q2.s, lv, gl])); refine hK _ ?_; clear hK K))
  refine sk_at [(0, pt C 0), (3, pt H.length 0), (4, pt (H.length + 1) 0), (5, pt il (ol + k * 4))] (fun Hx => BeI bs E C (m + 2) H Hx b.ok b.sec (sl il ol b.lines.length) A b.lines) (by simp [subL, getT]) hI2 ?_
  clear hI hI2 h2 g2 ac1 z0 z1 lv gl p0 p1 p2 pr q2 r0 r1 r2 rr hl1
  rintro H3 hI
  obtain ⟨E1, E2', v1, v2, a, zz, ty, hL⟩ := hI.line hsh hK hk
  have hl := hsh _ (List.getElem_mem hk)
  generalize hbk : b.lines[k] = l at *
  have x0 : CF H3 il (ol + k * 4) (iv l.gone) := at_cf (i := 0) hL.b hL.al rfl
  have x2 : CF H3 il (ol + k * 4 + 2) v2 := at_cf hL.b hL.al rfl
  obtain ⟨ag, cg, hv2⟩ := hL.g.form
  have p0 : CF H3 H.length 0 (.bool b.ok) := CF.of hI.b3 rfl rfl
  have p1 : CF H3 H.length 1 (iv b.sec) := CF.of hI.b3 rfl rfl
  have p2 : CF H3 H.length 2 (sl il ol b.lines.length) := CF.of hI.b3 rfl rfl
  have r0 : CF H3 (H.length + 1) 0 (.bool false) := CF.of hI.b4 rfl rfl
  have r1 : CF H3 (H.length + 1) 1 (iv 0) := CF.of hI.b4 rfl rfl
  have r2 : CF H3 (H.length + 1) 2 nl := CF.of hI.b4 rfl rfl
  have rr := RF.of hI.b4
  rw [hv2] at x2
  by_cases hg0 : l.grs.length = 0
  · have hg0' : l.grs = [] := List.length_eq_zero_iff.1 hg0
    have hF := (hI.fin (m' := m + 200) (by omega) hll hsh hK).ret hCl hEl
    repeat (first | refine sA ?_ | refine sB ?_ | refine sC ?_ | refine sD ?_ | refine sE rfl ?_ | refine sF rfl ?_ | refine sG rfl ?_ | ((first | refine sk_reg fun K hK => ?_ | refine sk_drw mix fun K hK => ?_); simp [hg0, hg0', x2.s, p0.s, p1.s, p2.s, r0.s, r1.s, r2.s, rr.s, w4]; refine hK _ ?_; clear hK K))
    refine sk_ret ?_; simp [r0.s, r1.s, r2.s]
    exact ⟨⟨b.ok, b.sec, b.lines⟩, _, ⟨rfl, rfl, rfl⟩, A, hF⟩
  have hg0' : ¬ l.grs = [] := fun hh => hg0 (by rw [hh]; rfl)
  obtain ⟨_, H4, ac1, z, rfl, z0, z1, _, h4, g4⟩ := pick_ac hI.c (by omega) 11
  have hI4 := hI.step h4 g4
  repeat (first | refine sA ?_ | refine sB ?_ | refine sC ?_ | refine sD ?_ | refine sE rfl ?_ | refine sF rfl ?_ | refine sG rfl ?_ | ((first | refine sk_reg fun K hK => ?_ | refine sk_drw mix fun K hK => ?_); simp [hg0, hg0', x2.s]; refine hK _ ?_; clear hK K))
  refine sk_reg fun K hK => ?_; simp
  refine AskX.go (ac1) ?_; simp
  refine hK _ ?_; clear hK K
  refine sk_cut [(0, pt C 0), (3, pt H.length 0), (4, pt (H.length + 1) 0)] (fun Hx => ∃ ok sec ul A ls, BeF bs E C (m + 200) K H Hx ok sec ul A ls) ?_ ?_
  · clear hL x0 x2 p0 p1 p2 r0 r1 r2 rr
    clear hI h4 g4 ac1
    have lv := hI4.c.live
    have hil4 : H.length ≤ il := by
      obtain ⟨E1, E2', v1, v2, a, zz, ty, hL⟩ := hI4.line hsh hK hk
      have := (hI4.n il hL.i).2; omega
    have wi : ∀ n, H.length ≤ il + n := fun n => by omega
    by_cases o0 : z = 0
    · obtain ⟨_, H5, ac1, x, rfl, x0, x1, _, h5, g5⟩ := pick_ac hI4.c (by omega) 6
      have hI5 := hI4.step h5 g5
      obtain ⟨E1, E2', v1, v2, a, zz, ty, hL⟩ := hI5.line hsh hK hk
      rw [hbk] at hL
      have y0 : CF H5 il (ol + k * 4) (iv l.gone) := at_cf (i := 0) hL.b hL.al rfl
      have yr := RF.of hL.b
      repeat (first | refine sA ?_ | refine sB ?_ | refine sC ?_ | refine sD ?_ | refine sE rfl ?_ | refine sF rfl ?_ | refine sG rfl ?_ | ((first | refine sk_reg fun K hK => ?_ | refine sk_drw mix fun K hK => ?_); simp [o0, y0.s, yr.s, hil4, wi]; (repeat ((first | refine AskX.go (ac1) ?_ | refine AskD.go (ac1) ?_); simp [o0, y0.s, yr.s, hil4, wi])); refine hK _ ?_; clear hK K))
      have hrl : RLn H5 (E1 ++ E2') ⟨IntKind.i64.wrap (x - 1), l.way, l.grs, l.drop⟩ [iv (IntKind.i64.wrap (x - 1)), v1, v2, iv l.drop] := ⟨E1, E2', v1, v2, rfl, rfl, hL.w.rs (by have := hl.1; omega), hL.g.rs (by have := hl.2; omega)⟩
      refine sk_inv ⟨by simp [subL, getT], BeI.put hI5 hL hEl (by omega) hll hsh (Nat.le_refl _) (fun _ _ _ => rfl) (fun _ _ => rfl) 0 _ (by omega) rfl hrl hL.o (fun e he => .inl he) (by have := hl.1; show l.way.length ≤ _; omega) (by have := hl.2; show l.grs.length ≤ _; omega)⟩
    by_cases o3 : z = 3
    · obtain ⟨E1, E2', v1, v2, a, zz, ty, hL⟩ := hI4.line hsh hK hk
      rw [hbk] at hL
      have y0 : CF H4 il (ol + k * 4 + 2) v2 := at_cf (i := 2) hL.b hL.al rfl
      have yr := RF.of hL.b
      repeat (first | refine sA ?_ | refine sB ?_ | refine sC ?_ | refine sD ?_ | refine sE rfl ?_ | refine sF rfl ?_ | refine sG rfl ?_ | ((first | refine sk_reg fun K hK => ?_ | refine sk_drw mix fun K hK => ?_); simp [o0, o3, y0.s, yr.s, hil4, wi]; refine hK _ ?_; clear hK K))
      have hrl : RLn H4 E1 ⟨l.gone, l.way, [], l.drop⟩ [iv l.gone, v1, nl, iv l.drop] := ⟨E1, [], v1, nl, (List.append_nil _).symm, rfl, hL.w.rs (by have := hl.1; omega), ⟨by simp, .inl ⟨.inl rfl, rfl, rfl⟩⟩⟩
      refine sk_inv ⟨by simp [subL, getT], BeI.put (l' := ⟨l.gone, l.way, [], l.drop⟩) hI4 hL hEl (by omega) hll hsh (Nat.le_refl _) (fun _ _ _ => rfl) (fun _ _ => rfl) 2 _ (by omega) rfl hrl hL.o.left (fun e he => .inl (List.mem_append_left _ he)) (by have := hl.1; show l.way.length ≤ _; omega) (Nat.zero_le _)⟩
    by_cases o6 : z = 6
    · obtain ⟨_, H5, ac1, x, rfl, x0, x1, _, h5, g5⟩ := pick_ac hI4.c (by omega) 9
      have hI5 := hI4.step h5 g5
      obtain ⟨E1, E2', v1, v2, a, zz, ty, hL⟩ := hI5.line hsh hK hk
      rw [hbk] at hL
      have y0 : CF H5 il (ol + k * 4 + 3) (iv l.drop) := at_cf (i := 3) hL.b hL.al rfl
      have yr := RF.of hL.b
      repeat (first | refine sA ?_ | refine sB ?_ | refine sC ?_ | refine sD ?_ | refine sE rfl ?_ | refine sF rfl ?_ | refine sG rfl ?_ | ((first | refine sk_reg fun K hK => ?_ | refine sk_drw mix fun K hK => ?_); simp [o0, o3, o6, y0.s, yr.s, hil4, wi]; (repeat ((first | refine AskX.go (ac1) ?_ | refine AskD.go (ac1) ?_); simp [o0, o3, o6, y0.s, yr.s, hil4, wi])); refine hK _ ?_; clear hK K))
      have hrl : RLn H5 (E1 ++ E2') ⟨l.gone, l.way, l.grs, IntKind.i64.wrap (x - 2)⟩ [iv l.gone, v1, v2, iv (IntKind.i64.wrap (x - 2))] := ⟨E1, E2', v1, v2, rfl, rfl, hL.w.rs (by have := hl.1; omega), hL.g.rs (by have := hl.2; omega)⟩
      refine sk_inv ⟨by simp [subL, getT], BeI.put hI5 hL hEl (by omega) hll hsh (Nat.le_refl _) (fun _ _ _ => rfl) (fun _ _ => rfl) 3 _ (by omega) rfl hrl hL.o (fun e he => .inl he) (by have := hl.1; show l.way.length ≤ _; omega) (by have := hl.2; show l.grs.length ≤ _; omega)⟩
    by_cases o9 : z = 9
    · have p0 : CF H4 H.length 0 (.bool b.ok) := CF.of hI4.b3 rfl rfl
      have pr := RF.of hI4.b3
      repeat (first | refine sA ?_ | refine sB ?_ | refine sC ?_ | refine sD ?_ | refine sE rfl ?_ | refine sF rfl ?_ | refine sG rfl ?_ | ((first | refine sk_reg fun K hK => ?_ | refine sk_drw mix fun K hK => ?_); simp [o0, o3, o6, o9, p0.s, pr.s, w0]; refine hK _ ?_; clear hK K))
      refine sk_inv ⟨by simp [subL, getT], _, _, _, _, _, BeF.putOk (hI4.fin (m' := m + 200) (by omega) hll hsh hK) hCl hEl false⟩
    by_cases o7 : z = 7
    · obtain ⟨_, H5, ac1, x, rfl, x0, x1, _, h5, g5⟩ := pick_ac (hI4.c.gro (Gro.one H4 [(⟨3, [iv 0, iv 1, iv 200, iv 201], true, true⟩ : Blk)])) (by omega) 4
      have hI5 := (hI4.step (hI4.c.gro (Gro.one H4 [(⟨3, [iv 0, iv 1, iv 200, iv 201], true, true⟩ : Blk)])) (GC.of (Gro.one _ _))).step h5 g5
      obtain ⟨j, hj⟩ : ∃ j : Nat, x = j := ⟨x.toNat, by omega⟩
      subst hj
      have hj4 := x1 (by omega)
      have hC4 : H4.length ≠ C := by have := hI4.c.lt; omega
      have s5 : H5[H4.length]? = some ⟨3, [iv 0, iv 1, iv 200, iv 201], true, true⟩ := g5.cf (b := ⟨3, [iv 0, iv 1, iv 200, iv 201], true, true⟩) (by simp) hC4
      obtain ⟨u, hu⟩ : ∃ u, CF H5 H4.length j (iv u) := by
        have : j = 0 ∨ j = 1 ∨ j = 2 ∨ j = 3 := by omega
        rcases this with rfl | rfl | rfl | rfl <;> exact ⟨_, CF.of s5 rfl rfl⟩
      have p1 : CF H5 H.length 1 (iv b.sec) := CF.of hI5.b3 rfl rfl
      have pr := RF.of hI5.b3
      have hl4 := hI4.g.l
      repeat (first | refine sA ?_ | refine sB ?_ | refine sC ?_ | refine sD ?_ | refine sE rfl ?_ | refine sF rfl ?_ | refine sG rfl ?_ | ((first | refine sk_reg fun K hK => ?_ | refine sk_drw mix fun K hK => ?_); simp [o0, o3, o6, o9, o7, p1.s, pr.s, hu.s, w0, hl4, hj4]; (repeat ((first | refine AskX.go (ac1) ?_ | refine AskD.go (ac1) ?_); simp [o0, o3, o6, o9, o7, p1.s, pr.s, hu.s, w0, hl4, hj4])); refine hK _ ?_; clear hK K))
      refine sk_inv ⟨by simp [subL, getT], _, _, _, _, _, BeF.putSec (hI5.fin (m' := m + 200) (by omega) hll hsh hK) hCl hEl u⟩
    by_cases o2 : z = 2
    · obtain ⟨E1, E2', v1, v2, a, zz, ty, hL⟩ := hI4.line hsh hK hk
      rw [hbk] at hL
      have y1 : CF H4 il (ol + k * 4 + 1) v1 := at_cf (i := 1) hL.b hL.al rfl
      have yr := RF.of hL.b
      have rw1 : RS 1 RInt H4 E1 v1 l.way := hL.w.rs (by have := hl.1; omega)
      have v1n : v1 ≠ es := by
        rcases hL.w with h | ⟨_, _, _, h, _⟩
        · rw [h.1]; simp
        · rw [h]; simp
      by_cases hwl : l.way.length = 0
      · obtain ⟨aw, cw, hvw⟩ := rw1.form
        rw [hvw, hwl] at y1
        repeat (first | refine sA ?_ | refine sB ?_ | refine sC ?_ | refine sD ?_ | refine sE rfl ?_ | refine sF rfl ?_ | refine sG rfl ?_ | ((first | refine sk_reg fun K hK => ?_ | refine sk_drw mix fun K hK => ?_); simp [o0, o3, o6, o9, o7, o2, y1.s]; refine hK _ ?_; clear hK K))
        refine sk_inv ⟨by simp [subL, getT], _, _, _, _, _, hI4.fin (m' := m + 200) (by omega) hll hsh hK⟩
      · obtain ⟨u1, hsl, u1n, hu1, u1o, u1c⟩ := drop_sl (m := 1) rw1 v1n (by omega)
        obtain ⟨aw, cw, hvw⟩ := rw1.form
        rw [hvw] at y1 hsl
        have hwl' : ¬ l.way = [] := fun hh => hwl (by rw [hh]; rfl)
        have hwl0 : 0 < l.way.length := by omega
        have hsl' : sliceA Try.prog 40 (.slice aw l.way.length cw) (some (.int .i64 1)) none = some u1 := hsl
        repeat (first | refine sA ?_ | refine sB ?_ | refine sC ?_ | refine sD ?_ | refine sE rfl ?_ | refine sF rfl ?_ | refine sG rfl ?_ | ((first | refine sk_reg fun K hK => ?_ | refine sk_drw mix fun K hK => ?_); simp [o0, o3, o6, o9, o7, o2, y1.s, yr.s, hil4, wi, hwl, hwl', hwl0, -sliceA, hsl', u1o, u1c]; refine hK _ ?_; clear hK K))
        have hrl : RLn H4 (E1 ++ E2') ⟨l.gone, l.way.drop 1, l.grs, l.drop⟩ [iv l.gone, u1, v2, iv l.drop] := ⟨E1, E2', u1, v2, rfl, rfl, hu1, hL.g.rs (by have := hl.2; omega)⟩
        refine sk_inv ⟨by simp [subL, getT], BeI.put (l' := ⟨l.gone, l.way.drop 1, l.grs, l.drop⟩) hI4 hL hEl (by omega) hll hsh (Nat.le_refl _) (fun _ _ _ => rfl) (fun _ _ => rfl) 1 _ (by omega) rfl hrl hL.o (fun e he => .inl he) (by have := hl.1; show (l.way.drop 1).length ≤ _; rw [List.length_drop]; omega) (by have := hl.2; show l.grs.length ≤ _; omega)⟩
    have nC : ∀ e, e ∈ A → e ≠ C := fun e he => (hI4.n e he).1
    have b4 := hI4.r.bd RLnW.frm
    by_cases o45 : z = 4 ∨ z = 5
    · obtain ⟨E1, E2', v1, v2, a, zz, ty, hL⟩ := hI4.line hsh hK hk
      rw [hbk] at hL
      obtain ⟨N, hN⟩ : ∃ N : Int, (z = 4 → N = 9) ∧ (z = 5 → N = 3) := ⟨if z = 4 then 9 else 3, by intro h; rw [if_pos h], by intro h; rw [if_neg (by omega)]⟩
      obtain ⟨_, H5, ac1, x, rfl, x0, x1, _, h5, g5⟩ := pick_ac hI4.c (by omega) (l.grs.length : Int)
      obtain ⟨_, H6, ac2, y, rfl, y0, y1, _, h6, g6⟩ := pick_ac h5 (by omega) N
      have hI5 := hI4.step h5 g5
      have hI6 := hI5.step h6 g6
      have hL5 := hL.step g5 nC b4
      have hL6 := hL5.step g6 nC (fun e he => Nat.lt_of_lt_of_le (b4 e he) g5.l)
      obtain ⟨j, hj⟩ : ∃ j : Nat, x = j := ⟨x.toNat, by omega⟩
      subst hj
      have hjl : j < l.grs.length := by have := x1 (by omega); omega
      have rg5 : RS 2 RGr H5 E2' v2 l.grs := hL5.g.rs (by have := hl.2; omega)
      have rg6 : RS 2 RGr H6 E2' v2 l.grs := hL6.g.rs (by have := hl.2; omega)
      obtain ⟨idg, og, _, _, hvg, hidg, _, _, _, hRg, _, hcg, hputg, _⟩ := rg6.put1 (RP.frm _) hL6.o.right.1 hjl
      obtain ⟨rfl, rfl⟩ := hRg
      obtain ⟨_, _, hvg5, _, e0, e1⟩ := rg5.gr hjl
      rw [hvg] at hvg5
      simp only [Value.slice.injEq, Option.some.injEq, Addr.mk.injEq, and_true] at hvg5
      obtain ⟨rfl, rfl⟩ := hvg5
      have e0' : CF H6 idg (og + j * 2) (iv l.grs[j].ver) := CFat (by simpa using hcg 0 _ rfl)
      have e1' : CF H6 idg (og + j * 2 + 1) (iv l.grs[j].cel) := CFat (hcg 1 _ rfl)
      have er := RFown (hL6.o.right.2 idg hidg)
      have t4 : CF H4 il (ol + k * 4 + 2) v2 := at_cf (i := 2) hL.b hL.al rfl
      have t5 : CF H5 il (ol + k * 4 + 2) v2 := at_cf (i := 2) hL5.b hL5.al rfl
      have t6 : CF H6 il (ol + k * 4 + 2) v2 := at_cf (i := 2) hL6.b hL6.al rfl
      rw [hvg] at t4 t5 t6
      have hig : idg ∈ A := hL.sub idg (List.mem_append_right _ hidg)
      have hgl : H.length ≤ idg := by have := (hI4.n idg hig).2; omega
      have gl5 := g5.l
      have gl6 := g6.l
      have lv5 := hI5.c.live
      have fin : ∀ (i : Nat) (c : Value) (G : Gr), i < 2 → plainV c = true → (cGr l.grs[j]).set i c = cGr G → ∃ ok sec ul A ls, BeF bs E C (m + 200) K H (H6.put idg (og + j * 2 + i) c) ok sec ul A ls := fun i c G hi hpl hc => by
        have hnp : ∀ e, e ≠ idg → (H6.put idg (og + j * 2 + i) c)[e]? = H6[e]? := fun e he => get_put_ne _ _ _ he
        have hig1 : idg ∉ E1 := fun hh => hL.o.apart idg hh hidg
        have nil1 : il ≠ idg := fun hh => hL.ne (hh ▸ List.mem_append_right _ hidg)
        have nA : ∀ e, e ∉ A → e ≠ idg := fun e he hh => he (hh ▸ hig)
        refine BeI.done (H1 := H6) (H' := H6.put idg (og + j * 2 + i) c) (k := k) (l' := ⟨l.gone, l.way, l.grs.set j G, l.drop⟩) (Ek' := E1 ++ E2') hI6 hEl (by omega) hll hsh (by rw [length_put]; exact Nat.le_refl _) (fun e he => hnp e (by have := (hI4.n idg hig).2; omega)) (hL6.cl _ ⟨l.gone, l.way, l.grs.set j G, l.drop⟩ v1 v2 (E1 ++ E2') ⟨E1, E2', v1, v2, rfl, rfl, (hL6.w.rs (by have := hl.1; omega)).fr (RP.frm _) fun e he _ => hnp e (fun hh => hig1 (hh ▸ he)), hputg i c G hi ⟨rfl, hc⟩⟩ ⟨hL6.o.1, fun e he => ?_⟩ (fun e he => .inl he) (fun e _ _ he => hnp e (fun hh => he (hh ▸ List.mem_append_right _ hidg))) ?_) (fun e he => (hI4.n e (hL.sub e he)).2) (by have := hl.1; show l.way.length ≤ _; omega) (by have := hl.2; show (l.grs.set j G).length ≤ _; rw [List.length_set]; omega)
        · rw [(MK.put (E := [idg]) H6 (og + j * 2 + i) (by simp) hpl).rw]; exact hL6.o.2 e he
        · rw [hnp il nil1]; exact hL6.b
      by_cases o4 : z = 4
      · obtain rfl := hN.1 o4
        repeat (first | refine sA ?_ | refine sB ?_ | refine sC ?_ | refine sD ?_ | refine sE rfl ?_ | refine sF rfl ?_ | refine sG rfl ?_ | ((first | refine sk_reg fun K hK => ?_ | refine sk_drw mix fun K hK => ?_); simp [o0, o3, o6, o9, o7, o2, o4, t4.s, t5.s, t6.s, e0'.s, e1'.s, e0.s, e1.s, er.s, hjl, hgl, gl5, gl6, lv, lv5]; (repeat ((first | refine AskX.go (ac1) ?_ | refine AskD.go (ac1) ?_ | refine AskX.go (ac2) ?_ | refine AskD.go (ac2) ?_); simp [o0, o3, o6, o9, o7, o2, o4, t4.s, t5.s, t6.s, e0'.s, e1'.s, e0.s, e1.s, er.s, hjl, hgl, gl5, gl6, lv, lv5])); refine hK _ ?_; clear hK K))
        refine sk_inv ⟨by simp [subL, getT], fin 1 _ ⟨l.grs[j].ver, IntKind.i64.wrap (y - 1)⟩ (by omega) rfl rfl⟩
      · have o5 : z = 5 := by omega
        obtain rfl := hN.2 o5
        repeat (first | refine sA ?_ | refine sB ?_ | refine sC ?_ | refine sD ?_ | refine sE rfl ?_ | refine sF rfl ?_ | refine sG rfl ?_ | ((first | refine sk_reg fun K hK => ?_ | refine sk_drw mix fun K hK => ?_); simp [o0, o3, o6, o9, o7, o2, o4, o5, t4.s, t5.s, t6.s, e0'.s, e1'.s, e0.s, e1.s, er.s, hjl, hgl, gl5, gl6, lv, lv5]; (repeat ((first | refine AskX.go (ac1) ?_ | refine AskD.go (ac1) ?_ | refine AskX.go (ac2) ?_ | refine AskD.go (ac2) ?_); simp [o0, o3, o6, o9, o7, o2, o4, o5, t4.s, t5.s, t6.s, e0'.s, e1'.s, e0.s, e1.s, er.s, hjl, hgl, gl5, gl6, lv, lv5])); refine hK _ ?_; clear hK K))
        refine sk_inv ⟨by simp [subL, getT], fin 0 _ ⟨IntKind.i64.wrap (l.grs[j].ver + IntKind.i64.wrap (y - 1)), l.grs[j].cel⟩ (by omega) rfl rfl⟩
    by_cases o10 : z = 10
    · obtain ⟨_, H5, ac1, x, rfl, x0, x1, _, h5, g5⟩ := pick_ac hI4.c (by omega) 3
      have hI5 := hI4.step h5 g5
      obtain ⟨E1, E2', v1, v2, a, zz, ty, hL⟩ := hI5.lineW hk
      rw [hbk] at hL
      have y0 : CF H5 il (ol + k * 4) (iv l.gone) := at_cf (i := 0) hL.b hL.al rfl
      have yr := RF.of hL.b
      repeat (first | refine sA ?_ | refine sB ?_ | refine sC ?_ | refine sD ?_ | refine sE rfl ?_ | refine sF rfl ?_ | refine sG rfl ?_ | ((first | refine sk_reg fun K hK => ?_ | refine sk_drw mix fun K hK => ?_); simp [o10, y0.s, yr.s, hil4, wi]; (repeat ((first | refine AskX.go (ac1) ?_ | refine AskD.go (ac1) ?_); simp [o10, y0.s, yr.s, hil4, wi])); refine hK _ ?_; clear hK K))
      obtain ⟨A', hI6⟩ := BeI.putW (l' := ⟨IntKind.i64.wrap (1000000 - x), l.way, l.grs, l.drop⟩) hI5 hL hEl (Nat.le_refl _) (fun _ _ _ => rfl) (fun _ _ => rfl) 0 (iv (IntKind.i64.wrap (1000000 - x))) (by omega) rfl ⟨E1, E2', v1, v2, rfl, rfl, hL.w, hL.g⟩ hL.o (fun e he => .inl he)
      obtain ⟨l1, hl1⟩ : ∃ l1 : Ln, l1 = ⟨IntKind.i64.wrap (1000000 - x), l.way, l.grs, l.drop⟩ := ⟨_, rfl⟩
      rw [← hl1] at hI6
      have hk1 : k < (b.lines.set k l1).length := by rw [List.length_set]; exact hk
      have hll1 : (b.lines.set k l1).length ≤ 20 := by rw [List.length_set]; exact hll
      have hsh1 : shortL K (b.lines.set k l1) := fun q hq => by
        rcases List.mem_or_eq_of_mem_set hq with h | rfl
        · exact hsh q h
        · rw [hl1]; exact hl
      have hg1 : (b.lines.set k l1)[k] = l1 := List.getElem_set_self _
      refine sk_at [(0, pt C 0), (3, pt H.length 0), (4, pt (H.length + 1) 0), (5, pt il (ol + k * 4))] (fun Hx => BeI bs E C (m + 2 + 2 + 2) H Hx b.ok b.sec (sl il ol b.lines.length) A' (b.lines.set k l1)) (by simp [subL, getT]) hI6 ?_
      clear hL y0 yr ac1 h5 g5 hI5 hI6
      generalize b.lines.set k l1 = ls1 at *
      rintro H7 hI7
      obtain ⟨Hd, hHd⟩ : ∃ Hd, Hd = H7 ++ [(⟨0, [], false, false⟩ : Blk)] := ⟨_, rfl⟩
      have gd : Gro H7 Hd := by rw [hHd]; exact Gro.one _ _
      have hId := hI7.step (hI7.c.gro gd) (GC.of gd)
      obtain ⟨S, hS⟩ : ∃ S, S = H7.length := ⟨_, rfl⟩
      have hdd : Hd[S]? = some ⟨0, [], false, false⟩ := by rw [hHd, hS]; simp
      have lC7 := hI7.c.lt
      have hSC : S ≠ C := by omega
      obtain ⟨_, H8, ac2, x2, rfl, x20, x21, _, h8, g8⟩ := pick_ac hId.c (by omega) 2
      have hI8 := hId.step h8 g8
      have d8 := g8.cf hdd hSC
      have hot8 := hot_dead' d8
      have b7 := hI7.r.bd RLnW.frm
      obtain ⟨E1, E2', v1, v2, a, zz, ty, hL7⟩ := hI7.line hsh1 hK hk1
      rw [hg1] at hL7
      have hLd := hL7.step (GC.of gd) (fun e he => (hI7.n e he).1) b7
      have hL8 := hLd.step g8 (fun e he => (hI7.n e he).1) (fun e he => Nat.lt_of_lt_of_le (b7 e he) gd.len)
      obtain ⟨H9, hH9⟩ : ∃ H9 : Heap, H8.set S ⟨45, [iv (IntKind.i64.wrap (1000000 - x2)), iv (IntKind.i64.wrap (l1.gone + (l1.way.length : Int)))], true, true⟩ = H9 := ⟨_, rfl⟩
      have n9 : ∀ i, i ≠ S → H9[i]? = H8[i]? := fun i hi => by rw [← hH9, List.getElem?_set_ne (Ne.symm hi)]
      have s9 : H9[S]? = some ⟨45, [iv (IntKind.i64.wrap (1000000 - x2)), iv (IntKind.i64.wrap (l1.gone + (l1.way.length : Int)))], true, true⟩ := by rw [← hH9, List.getElem?_set_self (lt_of_get d8)]
      have nl9 : H9.length = H8.length := by rw [← hH9, List.length_set]
      have hlS := b7 il hL7.i
      have hSA : S ∉ A' := fun hh => by have := b7 S hh; omega
      have y0 : CF H7 il (ol + k * 4) (iv l1.gone) := at_cf (i := 0) hL7.b hL7.al rfl
      have y1 : CF H7 il (ol + k * 4 + 1) v1 := at_cf (i := 1) hL7.b hL7.al rfl
      have z0 : CF H8 il (ol + k * 4) (iv l1.gone) := at_cf (i := 0) hL8.b hL8.al rfl
      have z1 : CF H8 il (ol + k * 4 + 1) v1 := at_cf (i := 1) hL8.b hL8.al rfl
      have b9 := (n9 il (by omega)).trans hL8.b
      have u2 : CF H9 il (ol + k * 4 + 2) v2 := at_cf (i := 2) b9 hL8.al rfl
      have ur := RF.of b9
      obtain ⟨aw, cw, hvw⟩ := hL7.w.form
      rw [hvw] at y1 z1
      have lv7 := hId.c.live
      have gl8 := g8.l
      have hl7 := hI7.g.l
      have wS : H.length ≤ S := by omega
      rw [hHd] at ac2 lv7 gl8
      simp only [List.length_append, List.length_cons, List.length_nil, Nat.zero_add] at gl8
      rw [← hS] at gl8
      refine sk_drw mix fun K hK => ?_; simp [← hS]
      refine AskD.go (ac2) ?_; simp [y0.s, y1.s, z0.s, z1.s, u2.s, ur.s, ← hS, lv7, gl8, hot8, hH9, hil4, wi, wS]
      refine hK _ ?_; clear hK K
      have hlw : l1.way.length ≤ K := by rw [hl1]; exact hl.1
      have hE1S : ∀ e, e ∈ E1 → e ≠ S := fun e he hh => hSA (hh ▸ hL8.sub e (List.mem_append_left _ he))
      have hrl : RLn H9 (E1 ++ [S]) ⟨l1.gone, l1.way, [⟨IntKind.i64.wrap (1000000 - x2), IntKind.i64.wrap (l1.gone + (l1.way.length : Int))⟩], l1.drop⟩ [iv l1.gone, v1, sl S 0 1, iv l1.drop] := ⟨E1, [S], v1, _, rfl, rfl, (hL8.w.rs (by omega)).fr (RP.frm _) fun e he _ => n9 e (hE1S e he), rs_blk' (g := cGr) (xs := [⟨IntKind.i64.wrap (1000000 - x2), IntKind.i64.wrap (l1.gone + (l1.way.length : Int))⟩]) (fun _ => rfl) s9 rfl (by simp)⟩
      have hoS : Own H9 (E1 ++ [S]) := (hL8.o.left.fr fun e he => n9 e (hE1S e he)).app ⟨by simp, fun e he => by simp at he; subst he; simp [Heap.rwOk, s9]⟩ fun e he hh => hE1S e he (by simpa using hh)
      have hput := BeI.put (m' := m + 200) (l' := ⟨l1.gone, l1.way, [⟨IntKind.i64.wrap (1000000 - x2), IntKind.i64.wrap (l1.gone + (l1.way.length : Int))⟩], l1.drop⟩) hI8 hL8 hEl (by omega) hll1 hsh1 (Nat.le_of_eq nl9.symm) (fun e he _ => n9 e (fun hh => hSA (hh ▸ he))) (fun e he => n9 e (by have := (hI7.n il hL7.i).2; have := lt_of_get hI7.b4; omega)) 2 (sl S 0 1) (by omega) rfl hrl hoS (fun e he => by
        rcases List.mem_append.1 he with h | h
        · exact .inl (List.mem_append_left _ h)
        · simp at h; subst h; exact .inr ⟨hSA, by have := lt_of_get hI7.b4; omega⟩) (by show l1.way.length ≤ _; omega) (by simp)
      repeat (first | refine sA ?_ | refine sB ?_ | refine sC ?_ | refine sD ?_ | refine sE rfl ?_ | refine sF rfl ?_ | refine sG rfl ?_ | ((first | refine sk_reg fun K hK => ?_ | refine sk_drw mix fun K hK => ?_); simp; refine hK _ ?_; clear hK K))
      refine sk_inv ⟨by simp [subL, getT], hput⟩
    by_cases o8 : z = 8
    · repeat (first | refine sA ?_ | refine sB ?_ | refine sC ?_ | refine sD ?_ | refine sE rfl ?_ | refine sF rfl ?_ | refine sG rfl ?_ | ((first | refine sk_reg fun K hK => ?_ | refine sk_drw mix fun K hK => ?_); simp [o8]; refine hK _ ?_; clear hK K))
      refine sk_loop (fun t ts H' => ∃ (j : Nat) (A' : List Nat) (ls' : List Ln) (l' : Ln) (hk' : k < ls'.length), j ≤ 22 ∧ t = 22 - l'.grs.length ∧ BeI bs E C (m + 4 + 2 * j) H H' b.ok b.sec (sl il ol b.lines.length) A' ls' ∧ ls'.length = b.lines.length ∧ shortL (K + 30) ls' ∧ ls'[k] = l' ∧ l'.grs.length = l.grs.length + j ∧ ts = [(0, pt C 0), (3, pt H.length 0), (4, pt (H.length + 1) 0), (5, pt il (ol + k * 4))]) (22 - l.grs.length) _ ?_ ⟨0, A, b.lines, l, hk, by omega, rfl, hI4.step (hI4.c.mono (by omega)) (GC.refl _ _), rfl, fun q hq => ⟨by have := (hsh q hq).1; omega, by have := (hsh q hq).2; omega⟩, hbk, rfl, rfl⟩ ?_
      · simp [subL, getT]
      rintro t ts H5 ⟨j, A', ls', l', hk', hj, rfl, hI5, hll', hsh', hlk, hgl', rfl⟩
      obtain ⟨_, H6, ac1, x, rfl, x0, x1, _, h6, g6⟩ := pick_ac hI5.c (by omega) 2
      have hI6 := hI5.step h6 g6
      obtain ⟨E1, E2', v1, v2, a, zz, ty, hL5⟩ := hI5.lineW hk'
      rw [hlk] at hL5
      have b5 := hI5.r.bd RLnW.frm
      have hL6 := hL5.step g6 (fun e he => (hI5.n e he).1) b5
      have t5 : CF H5 il (ol + k * 4 + 2) v2 := at_cf (i := 2) hL5.b hL5.al rfl
      have t6 : CF H6 il (ol + k * 4 + 2) v2 := at_cf (i := 2) hL6.b hL6.al rfl
      have t60 : CF H6 il (ol + k * 4) (iv l'.gone) := at_cf (i := 0) hL6.b hL6.al rfl
      have hsl' := hsh' l' (by rw [← hlk]; exact List.getElem_mem hk')
      have rg6 : RS 2 RGr H6 E2' v2 l'.grs := hL6.g.rs (by have := hsl'.2; omega)
      obtain ⟨ag', cg', hvg⟩ := rg6.form
      have lv5 := hI5.c.live
      have gl6 := g6.l
      have x2 := x1 (by omega)
      obtain ⟨B, hB⟩ : ∃ B : Nat, 20 + x = B := ⟨(20 + x).toNat, by omega⟩
      have hwB : IntKind.i64.wrap (20 + x) = B := by rw [hB]; exact wrap_id (by omega) (by omega)
      rw [hvg] at t5 t6
      by_cases hlb : l'.grs.length < B
      · have hgp : 0 < l'.grs.length := by omega
        obtain ⟨gl, hgl0⟩ : ∃ g : Nat, g + 1 = l'.grs.length := ⟨l'.grs.length - 1, by omega⟩
        have hglt : gl < l'.grs.length := by omega
        have hwg : IntKind.i64.wrap ((l'.grs.length : Int) - 1) = (gl : Int) := by rw [wrap_id (by omega) (by omega)]; omega
        obtain ⟨idg, og, hvg', _, e0, e1⟩ := rg6.gr hglt
        rw [hvg] at hvg'
        simp only [Value.slice.injEq, true_and] at hvg'
        obtain ⟨rfl, rfl⟩ := hvg'
        obtain ⟨G, hG⟩ : ∃ G : Gr, G = ⟨IntKind.i64.wrap (l'.grs[gl].ver + 1), l'.gone⟩ := ⟨_, rfl⟩
        obtain ⟨k1, v', H7, A'', f1, f2, f3, f4, f5, f6, f7⟩ := app_one (P := Try.prog) (t := 41) (e := 45) (sz := 1) (by' := 16) (z := .agg #[iv 0, iv 0]) (by simp) (by simp) (by simp) (by simp) rfl (RP.frm cGr) hL6.g hL6.o.right (x := G) (cx := [iv (IntKind.i64.wrap (l'.grs[gl].ver + 1)), iv l'.gone]) (Ex := []) ⟨rfl, by rw [hG]; rfl⟩ ⟨List.nodup_nil, fun i hi => by simp at hi⟩ (fun j _ hj => by simp at hj) rfl rfl (by omega) (by simp [maxLen]; omega)
        rw [hvg] at f1
        have hl6 := hI6.g.l
        have hwr : wrO H.length [C] k1 := fun i hi => .inl (by have := (hI6.n i (hL6.sub i (List.mem_append_right _ (f2 i hi).1))).2; omega)
        have hlv : liveO (H6 ++ [⟨45, [iv (IntKind.i64.wrap (l'.grs[gl].ver + 1)), iv l'.gone], true, true⟩]) k1 := fun i hi => (f2 i hi).2
        have nE2 : il ∉ E2' := fun hh => hL6.ne (List.mem_append_right _ hh)
        have il6 := lt_of_get hL6.b
        have b7 : H7[il]? = _ := (f4 il il6 nE2).trans hL6.b
        have w2 : CF H7 il (ol + k * 4 + 2) v2 := at_cf (i := 2) b7 hL6.al rfl
        have wr := RF.of b7
        rw [hvg] at w2
        have xv' := f5.one
        have yv' := f5.cv
        repeat (first | refine sA ?_ | refine sB ?_ | refine sC ?_ | refine sD ?_ | refine sE rfl ?_ | refine sF rfl ?_ | refine sG rfl ?_ | ((first | refine sk_reg fun K hK => ?_ | refine sk_drw mix fun K hK => ?_); simp [hlb, t5.s, t6.s, t60.s, hwB, lv5, gl6, hgp, hwg, hglt, e0.s, e1.s, f1, hwr, hlv, w2.s, wr.s, hil4, wi, hl6, xv', yv']; (repeat ((first | refine AskX.go (ac1) ?_ | refine AskD.go (ac1) ?_); simp [hlb, t5.s, t6.s, t60.s, hwB, lv5, gl6, hgp, hwg, hglt, e0.s, e1.s, f1, hwr, hlv, w2.s, wr.s, hil4, wi, hl6, xv', yv'])); refine hK _ ?_; clear hK K))
        have b6 := hI6.r.bd RLnW.frm
        have nA'' : ∀ e, e ∈ A'' → e ∈ E2' ∨ H6.length ≤ e := fun e he => by
          rcases f7 e he with h | h | h
          · exact .inl h
          · simp at h
          · exact .inr h
        have E17 : ∀ e, e ∈ E1 → H7[e]? = H6[e]? := fun e he => f4 e (b6 e (hL6.sub e (List.mem_append_left _ he))) fun hh => hL6.o.apart e he hh
        have hEH : ∀ e, e ≤ H.length + 1 → e < H6.length := fun e he => by have := lt_of_get hI6.b4; omega
        obtain ⟨A7, hI7⟩ := BeI.putW (l' := ⟨l'.gone, l'.way, l'.grs ++ [G], l'.drop⟩) (Ek' := E1 ++ A'') hI6 hL6 hEl f3 (fun e he hn => f4 e (b6 e he) fun hh => hn (List.mem_append_right _ hh)) (fun e he => f4 e (hEH e he) fun hh => by have := (hI6.n e (hL6.sub e (List.mem_append_right _ hh))).2; omega) 2 v' (by omega) rfl ⟨E1, A'', v1, v', rfl, rfl, hL6.w.fr (RP.frm _) fun e he _ => E17 e he, f5⟩ ((hL6.o.left.fr E17).app f6 fun e he hh => by
          rcases nA'' e hh with h | h
          · exact hL6.o.apart e he h
          · have := b6 e (hL6.sub e (List.mem_append_left _ he)); omega) (fun e he => by
          rcases List.mem_append.1 he with h | h
          · exact .inl (List.mem_append_left _ h)
          · rcases nA'' e h with h | h
            · exact .inl (List.mem_append_right _ h)
            · exact .inr ⟨fun hh => by have := b6 e hh; omega, by have := lt_of_get hI6.b4; omega⟩)
        refine sk_inv ⟨22 - (l'.grs.length + 1), _, by omega, ?_, j + 1, A7, ls'.set k ⟨l'.gone, l'.way, l'.grs ++ [G], l'.drop⟩, ⟨l'.gone, l'.way, l'.grs ++ [G], l'.drop⟩, by rw [List.length_set]; exact hk', by omega, by simp, hI7.step (hI7.c.mono (by omega)) (GC.refl _ _), by rw [List.length_set]; exact hll', fun q hq => ?_, List.getElem_set_self _, by simp only [List.length_append, List.length_cons, List.length_nil]; omega, rfl⟩
        · simp [subL, getT]
        · rcases List.mem_or_eq_of_mem_set hq with h | rfl
          · exact hsh' q h
          · exact ⟨hsl'.1, by simp only [List.length_append, List.length_cons, List.length_nil]; omega⟩
      · repeat (first | refine sA ?_ | refine sB ?_ | refine sC ?_ | refine sD ?_ | refine sE rfl ?_ | refine sF rfl ?_ | refine sG rfl ?_ | ((first | refine sk_reg fun K hK => ?_ | refine sk_drw mix fun K hK => ?_); simp [hlb, t5.s, t6.s, hwB, lv5, gl6]; (repeat ((first | refine AskX.go (ac1) ?_ | refine AskD.go (ac1) ?_); simp [hlb, t5.s, t6.s, hwB, lv5, gl6])); refine hK _ ?_; clear hK K))
        refine sk_inv ⟨by simp [subL, getT], _, _, _, _, _, hI6.fin2 (m' := m + 200) (by omega) (by omega) hsh' hK⟩
    have o1 : z = 1 := by omega
    obtain ⟨Hd, hHd⟩ : ∃ Hd, Hd = H4 ++ [(⟨0, [], false, false⟩ : Blk)] := ⟨_, rfl⟩
    have gd : Gro H4 Hd := by rw [hHd]; exact Gro.one _ _
    have hId := hI4.step (hI4.c.gro gd) (GC.of gd)
    obtain ⟨S, hS⟩ : ∃ S, S = H4.length := ⟨_, rfl⟩
    have hdd : Hd[S]? = some ⟨0, [], false, false⟩ := by rw [hHd, hS]; simp
    have lC4 := hI4.c.lt
    have hSC : S ≠ C := by omega
    obtain ⟨_, H8, ac2, x2, rfl, x20, x21, _, h8, g8⟩ := pick_ac hId.c (by omega) (IntKind.i64.wrap (b.sec + 2))
    have hI8 := hId.step h8 g8
    have d8 := g8.cf hdd hSC
    have hot8 := hot_dead' d8
    obtain ⟨E1, E2', v1, v2, a, zz, ty, hL4⟩ := hI4.line hsh hK hk
    rw [hbk] at hL4
    have hLd := hL4.step (GC.of gd) nC b4
    have hL8 := hLd.step g8 nC (fun e he => Nat.lt_of_lt_of_le (b4 e he) gd.len)
    obtain ⟨H9, hH9⟩ : ∃ H9 : Heap, H8.set S ⟨3, [iv (IntKind.i64.wrap (x2 - 1))], true, true⟩ = H9 := ⟨_, rfl⟩
    have n9 : ∀ i, i ≠ S → H9[i]? = H8[i]? := fun i hi => by rw [← hH9, List.getElem?_set_ne (Ne.symm hi)]
    have s9 : H9[S]? = some ⟨3, [iv (IntKind.i64.wrap (x2 - 1))], true, true⟩ := by rw [← hH9, List.getElem?_set_self (lt_of_get d8)]
    have nl9 : H9.length = H8.length := by rw [← hH9, List.length_set]
    have hlS := b4 il hL4.i
    have hSA : S ∉ A := fun hh => by have := b4 S hh; omega
    have hE1S : ∀ e, e ∈ E1 → e ≠ S := fun e he hh => hSA (hh ▸ hL8.sub e (List.mem_append_left _ he))
    have hE2S : ∀ e, e ∈ E2' → e ≠ S := fun e he hh => hSA (hh ▸ hL8.sub e (List.mem_append_right _ he))
    obtain ⟨k1, v', H7, A'', f1, f2, f3, f4, f5, f6, f7⟩ := app_at (P := Try.prog) (t := 40) (e := 3) (sz := 0) (by' := 8) (z := iv 0) (g := cInt) (by simp) (by simp) (by simp) (by simp) rfl (hL8.w.fr (RP.frm _) fun e he _ => n9 e (hE1S e he)) (hL8.o.left.fr fun e he => n9 e (hE1S e he)) (x := IntKind.i64.wrap (x2 - 1)) s9 rfl rfl (by have := hl.1; omega) (by have := hl.1; simp [maxLen]; omega)
    have y1 : CF H4 il (ol + k * 4 + 1) v1 := at_cf (i := 1) hL4.b hL4.al rfl
    have z1 : CF H8 il (ol + k * 4 + 1) v1 := at_cf (i := 1) hL8.b hL8.al rfl
    have nE1 : il ∉ E1 := fun hh => hL8.ne (List.mem_append_left _ hh)
    have il8 := lt_of_get hL8.b
    have b7 : H7[il]? = _ := (f4 il (by omega) nE1).trans ((n9 il (by omega)).trans hL8.b)
    have w1 : CF H7 il (ol + k * 4 + 1) v1 := at_cf (i := 1) b7 hL8.al rfl
    have wr := RF.of b7
    have q1 : CF H4 H.length 1 (iv b.sec) := CF.of hI4.b3 rfl rfl
    have q18 : CF H8 H.length 1 (iv b.sec) := CF.of hI8.b3 rfl rfl
    have xv1 := hL4.w.one
    have yv1 := hL4.w.cv
    have xv' := f5.one
    have yv' := f5.cv
    have lv7 := hId.c.live
    have gl8 := g8.l
    have hl4 := hI4.g.l
    have wS : H.length ≤ S := by omega
    have hwr : wrO H.length [C] k1 := fun i hi => .inl (by have := (hI8.n i (hL8.sub i (List.mem_append_left _ (f2 i hi).1))).2; omega)
    have hlv : liveO H9 k1 := fun i hi => (f2 i hi).2
    rw [hHd] at ac2 lv7 gl8
    simp only [List.length_append, List.length_cons, List.length_nil, Nat.zero_add] at gl8
    rw [← hS] at gl8
    repeat (first | refine sA ?_ | refine sB ?_ | refine sC ?_ | refine sD ?_ | refine sE rfl ?_ | refine sF rfl ?_ | refine sG rfl ?_ | ((first | refine sk_reg fun K hK => ?_ | refine sk_drw mix fun K hK => ?_); simp [o1]; refine hK _ ?_; clear hK K))
    refine sk_drw mix fun K hK => ?_; simp [← hS, y1.s, q1.s, xv1, yv1]
    refine AskD.go (ac2) ?_; simp [y1.s, z1.s, q1.s, q18.s, ← hS, lv7, gl8, hot8, hH9, f1, hwr, hlv, w1.s, wr.s, hil4, wi, wS, xv1, yv1, xv', yv']
    refine hK _ ?_; clear hK K
    have b8 := hI8.r.bd RLnW.frm
    have hB4 := lt_of_get hI8.b4
    have nA'' : ∀ e, e ∈ A'' → e ∈ E1 ∨ H8.length ≤ e := fun e he => by
      rcases f7 e he with h | h
      · exact .inl h
      · exact .inr (by omega)
    have E27 : ∀ e, e ∈ E2' → H7[e]? = H8[e]? := fun e he => (f4 e (by have := b8 e (hL8.sub e (List.mem_append_right _ he)); omega) fun hh => hL8.o.apart e hh he).trans (n9 e (hE2S e he))
    have hrl : RLn H7 (A'' ++ E2') ⟨l.gone, l.way ++ [IntKind.i64.wrap (x2 - 1)], l.grs, l.drop⟩ [iv l.gone, v', v2, iv l.drop] := ⟨A'', E2', v', v2, rfl, rfl, f5.rs (by have := hl.1; rw [List.length_append]; simp; omega), (hL8.g.rs (by have := hl.2; omega)).fr (RP.frm _) fun e he _ => E27 e he⟩
    have hput := BeI.put (m' := m + 200) (l' := ⟨l.gone, l.way ++ [IntKind.i64.wrap (x2 - 1)], l.grs, l.drop⟩) hI8 hL8 hEl (by omega) hll hsh (by omega) (fun e he hn => (f4 e (by have := b8 e he; omega) fun hh => hn (List.mem_append_left _ hh)).trans (n9 e (fun hh => hSA (hh ▸ he)))) (fun e he => (f4 e (by omega) fun hh => by have := (hI8.n e (hL8.sub e (List.mem_append_left _ hh))).2; omega).trans (n9 e (by have := lt_of_get hI4.b4; omega))) 1 v' (by omega) rfl hrl (f6.app (hL8.o.right.fr E27) fun e he hh => by
      rcases nA'' e he with h | h
      · exact hL8.o.apart e h hh
      · have := b8 e (hL8.sub e (List.mem_append_right _ hh)); omega) (fun e he => by
      rcases List.mem_append.1 he with h | h
      · rcases nA'' e h with h | h
        · exact .inl (List.mem_append_left _ h)
        · exact .inr ⟨fun hh => by have := b8 e hh; omega, by omega⟩
      · exact .inl (List.mem_append_right _ h)) (by have := hl.1; show (l.way ++ [_]).length ≤ _; rw [List.length_append]; simp; omega) (by have := hl.2; show l.grs.length ≤ _; omega)
    repeat (first | refine sA ?_ | refine sB ?_ | refine sC ?_ | refine sD ?_ | refine sE rfl ?_ | refine sF rfl ?_ | refine sG rfl ?_ | ((first | refine sk_reg fun K hK => ?_ | refine sk_drw mix fun K hK => ?_); simp; refine hK _ ?_; clear hK K))
    refine sk_inv ⟨by simp [subL, getT], hput⟩
  rintro H5 ⟨ok, sec, ul', A', ls, hF⟩
  have hR := hF.ret hCl hEl
  have p0 : CF H5 H.length 0 (.bool ok) := CF.of hF.b3 rfl rfl
  have p1 : CF H5 H.length 1 (iv sec) := CF.of hF.b3 rfl rfl
  have p2 : CF H5 H.length 2 ul' := CF.of hF.b3 rfl rfl
  have r0 : CF H5 (H.length + 1) 0 (.bool false) := CF.of hF.b4 rfl rfl
  have r1 : CF H5 (H.length + 1) 1 (iv 0) := CF.of hF.b4 rfl rfl
  have r2 : CF H5 (H.length + 1) 2 nl := CF.of hF.b4 rfl rfl
  have rr := RF.of hF.b4
  repeat (first | refine sA ?_ | refine sB ?_ | refine sC ?_ | refine sD ?_ | refine sE rfl ?_ | refine sF rfl ?_ | refine sG rfl ?_ | ((first | refine sk_reg fun K hK => ?_ | refine sk_drw mix fun K hK => ?_); simp [p0.s, p1.s, p2.s, r0.s, r1.s, r2.s, rr.s, w4, hF.r.one, hF.r.cv]; refine hK _ ?_; clear hK K))
  refine sk_ret ?_; simp [r0.s, r1.s, r2.s]
  exact ⟨⟨ok, sec, ls⟩, _, ⟨rfl, rfl, rfl⟩, A', hR⟩
end Go.Proofs.Ytpoedfmkiiijnaa
