/- Lines whose ways and leashes can be appended to; an element of a slice is changed, with what it owns. Plain lemmas. -/
import Derived.Test.YtpoedfmkiiijnaaSc
namespace Go.Proofs.YtpoedfmkiiijnaaAm
open Go Go.RowKit
set_option linter.unusedVariables false
set_option linter.unusedSimpArgs false
/-- A line's cells; the way and the leashes are whole blocks. -/
def RLnW (H : Heap) (E : List Nat) (l : Ln) (cs : List Value) : Prop :=
  ∃ E1 E2 v1 v2, E = E1 ++ E2 ∧ cs = [iv l.gone, v1, v2, iv l.drop] ∧ RW 3 1 RInt H E1 v1 l.way ∧ RW 45 2 RGr H E2 v2 l.grs
theorem RLnW.frm : Frm RLnW := by
  refine ⟨?_, ?_⟩
  · rintro H H' E x cs ⟨E1, E2, v1, v2, rfl, h2, h3, h4⟩ ha
    exact ⟨E1, E2, v1, v2, rfl, h2, h3.fr (RP.frm _) fun id hi => ha id (by simp [hi]), h4.fr (RP.frm _) fun id hi => ha id (by simp [hi])⟩
  · rintro H E x cs ⟨E1, E2, v1, v2, rfl, h2, h3, h4⟩ id hi
    rcases List.mem_append.1 hi with hi | hi
    · exact h3.bd (RP.frm _) id hi
    · exact h4.bd (RP.frm _) id hi
def lenOk (l : Ln) : Prop := l.way.length ≤ 1048576 ∧ l.grs.length ≤ 1048576
theorem RLnW.ln {H : Heap} {E : List Nat} {l : Ln} {cs : List Value} (h : RLnW H E l cs) (hl : lenOk l) : RLn H E l cs := by
  obtain ⟨E1, E2, v1, v2, h1, h2, h3, h4⟩ := h
  exact ⟨E1, E2, v1, v2, h1, h2, h3.rs (by have := hl.1; omega), h4.rs (by have := hl.2; omega)⟩
theorem RCs.conv {α : Type} {sz : Nat} {R R' : Heap → List Nat → α → List Value → Prop} {H : Heap} : ∀ {xs : List α} {E : List Nat} {cs : List Value}, RCs sz R H E xs cs → (∀ x, x ∈ xs → ∀ E cs, R H E x cs → R' H E x cs) → RCs sz R' H E xs cs
  | [], _, _, h, _ => h
  | x :: xs, _, _, ⟨E1, E2, c1, c2, h1, h2, h3, h4, h5⟩, hc => ⟨E1, E2, c1, c2, h1, h2, h3, hc x (by simp) _ _ h4, h5.conv fun y hy => hc y (by simp [hy])⟩
theorem RS.conv {α : Type} {sz : Nat} {R R' : Heap → List Nat → α → List Value → Prop} {H : Heap} {E : List Nat} {v : Value} {xs : List α} (h : RS sz R H E v xs) (hc : ∀ x, x ∈ xs → ∀ E cs, R H E x cs → R' H E x cs) : RS sz R' H E v xs := by
  obtain ⟨hl, h | ⟨id, o, E', ty, rw, pre, cs, post, h1, h2, h3, h4, h5⟩⟩ := h
  · exact ⟨hl, .inl h⟩
  · exact ⟨hl, .inr ⟨id, o, E', ty, rw, pre, cs, post, h1, h2, h3, h4, h5.conv hc⟩⟩
theorem RS.ofW {H : Heap} {E : List Nat} {v : Value} {ls : List Ln} (h : RS 4 RLnW H E v ls) (hl : ∀ l, l ∈ ls → lenOk l) : RS 4 RLn H E v ls := h.conv fun l hm E cs hr => hr.ln (hl l hm)
section
variable {α : Type} {sz : Nat} {R : Heap → List Nat → α → List Value → Prop} {H : Heap} {v : Value}
/-- At an element: it and what it owns are changed. -/
theorem RS.upd {R' : Heap → List Nat → α → List Value → Prop} (hR : Frm R) (hR' : Frm R') {E : List Nat} {xs : List α} (h : RS sz R H E v xs) (hcv : ∀ x, x ∈ xs → ∀ E cs, R H E x cs → R' H E x cs) (ho : Own H E) {k : Nat} (hk : k < xs.length) :
    ∃ id o Ek ck a z ty, v = sl id o xs.length ∧ id ∈ E ∧ id ∉ Ek ∧ (∀ e, e ∈ Ek → e ∈ E) ∧ Ek.Nodup ∧ R H Ek xs[k] ck ∧ ck.length = sz ∧ a.length = o + k * sz ∧ H[id]? = some ⟨ty, a ++ (ck ++ z), true, true⟩ ∧
      ∀ (H' : Heap) (x' : α) (ck' : List Value) (Ek' : List Nat), ck'.length = sz → R' H' Ek' x' ck' → Own H' Ek' → (∀ e, e ∈ Ek' → e ∈ Ek ∨ e ∉ E) → (∀ e, e ∈ E → e ≠ id → e ∉ Ek → H'[e]? = H[e]?) →
        H'[id]? = some ⟨ty, a ++ (ck' ++ z), true, true⟩ → ∃ E', RS sz R' H' E' v (xs.set k x') ∧ Own H' E' ∧ ∀ e, e ∈ E' → e ∈ E ∨ e ∈ Ek' := by
  have hrwE := ho.2
  have hnd := ho.1
  obtain ⟨hl, ⟨_, rfl, _⟩ | ⟨id, o, E', ty, rw, pre, cs, post, h1, h2, h3, h4, h5⟩⟩ := h
  · simp at hk
  · subst h2
    have hrw1 : rw = true := by
      have := hrwE id (by simp)
      unfold Heap.rwOk at this
      rw [h3] at this; simpa using this
    subst hrw1
    obtain ⟨E1, Ek, E2, c1, ck, c2, k1, k2, k3, k4, k5, k6, k7⟩ := h5.at hk
    subst k1; subst k2
    have hnd' := List.nodup_cons.1 hnd
    have hnd2 := List.nodup_append.1 hnd'.2
    have hnd3 := List.nodup_append.1 hnd2.2.1
    refine ⟨id, o, Ek, ck, pre ++ c1, c2 ++ post, ty, h1, by simp, fun he => hnd'.1 (by simp [he]), fun e he => by simp [he], hnd3.1, k6, k4, by simp [h4, k3], by rw [h3]; simp, fun H' x' ck' Ek' hsz hR2 hown hsub hout hnew => ?_⟩
    have e : xs.set k x' = xs.take k ++ x' :: xs.drop (k + 1) := List.set_eq_take_append_cons_drop.trans (by simp [hk])
    have n1 : ∀ e, e ∈ E1 → e ≠ id ∧ e ∉ Ek := fun e he => ⟨fun h => hnd'.1 (by rw [← h]; simp [he]), fun h => hnd2.2.2 e he e (by simp [h]) rfl⟩
    have n2 : ∀ e, e ∈ E2 → e ≠ id ∧ e ∉ Ek := fun e he => ⟨fun h => hnd'.1 (by rw [← h]; simp [he]), fun h => hnd3.2.2 e h e he rfl⟩
    have m1 : ∀ e, e ∈ Ek' → e ≠ id ∧ e ∉ E1 ∧ e ∉ E2 := fun e he => by
      rcases hsub e he with h | h
      · exact ⟨fun hh => hnd'.1 (by rw [← hh]; simp [h]), fun hh => hnd2.2.2 e hh e (by simp [h]) rfl, fun hh => hnd3.2.2 e h e hh rfl⟩
      · exact ⟨fun hh => h (by simp [hh]), fun hh => h (by simp [hh]), fun hh => h (by simp [hh])⟩
    have v5 : RCs sz R' H E1 (xs.take k) c1 := k5.conv fun x hx => hcv x (List.mem_of_mem_take hx)
    have v7 : RCs sz R' H E2 (xs.drop (k + 1)) c2 := k7.conv fun x hx => hcv x (List.mem_of_mem_drop hx)
    refine ⟨id :: (E1 ++ (Ek' ++ E2)), ⟨by simpa using hl, .inr ⟨id, o, E1 ++ (Ek' ++ E2), ty, true, pre, c1 ++ (ck' ++ c2), post, by simpa using h1, rfl, ?_, h4, ?_⟩⟩, ⟨?_, ?_⟩, ?_⟩
    · rw [hnew]; simp
    · rw [e]
      exact (v5.fr hR' fun e he _ => hout e (by simp [he]) (n1 e he).1 (n1 e he).2).app ⟨Ek', E2, ck', c2, rfl, rfl, hsz, hR2, v7.fr hR' fun e he _ => hout e (by simp [he]) (n2 e he).1 (n2 e he).2⟩
    · refine List.nodup_cons.2 ⟨fun hm => ?_, List.nodup_append.2 ⟨hnd2.1, List.nodup_append.2 ⟨hown.1, hnd3.2.1, fun a ha b hb hab => (m1 a ha).2.2 (hab ▸ hb)⟩, fun a ha b hb hab => ?_⟩⟩
      · rcases List.mem_append.1 hm with hm | hm
        · exact (n1 _ hm).1 rfl
        · rcases List.mem_append.1 hm with hm | hm
          · exact (m1 _ hm).1 rfl
          · exact (n2 _ hm).1 rfl
      · rcases List.mem_append.1 hb with hb | hb
        · exact (m1 b hb).2.1 (hab ▸ ha)
        · exact hnd2.2.2 a ha b (by simp [hb]) hab
    · have hold : ∀ e, e ∈ E1 ∨ e ∈ E2 → Heap.rwOk H' e = true := fun e he => by
        have hmem : e ∈ id :: (E1 ++ (Ek ++ E2)) := by rcases he with he | he <;> simp [he]
        have hne : e ≠ id ∧ e ∉ Ek := by rcases he with he | he; exact n1 e he; exact n2 e he
        have := hrwE e hmem
        unfold Heap.rwOk at this ⊢
        rw [hout e hmem hne.1 hne.2]; exact this
      intro e he
      rcases List.mem_cons.1 he with rfl | he
      · exact rw_get hnew
      · rcases List.mem_append.1 he with he | he
        · exact hold e (.inl he)
        · rcases List.mem_append.1 he with he | he
          · exact hown.2 e he
          · exact hold e (.inr he)
    · intro e he
      rcases List.mem_cons.1 he with rfl | he
      · exact .inl (by simp)
      · rcases List.mem_append.1 he with he | he
        · exact .inl (by simp [he])
        · rcases List.mem_append.1 he with he | he
          · exact .inr he
          · exact .inl (by simp [he])
end
theorem RCs.plainE {α : Type} {sz : Nat} {g : α → List Value} {H : Heap} : ∀ {xs : List α} {E : List Nat} {cs : List Value}, RCs sz (RP g) H E xs cs → E = [] ∧ cs = xs.flatMap g
  | [], _, _, h => ⟨h.1, h.2⟩
  | x :: xs, _, _, ⟨E1, E2, c1, c2, h1, h2, h3, ⟨h4, h5⟩, h6⟩ => by
    obtain ⟨k1, k2⟩ := h6.plainE
    subst h4; subst k1; subst h5; subst k2
    exact ⟨h1, by rw [h2, List.flatMap_cons]⟩
theorem all_flat {α : Type} {g : α → List Value} (hg : ∀ x, (g x).all (·.oneCell') = true) (xs : List α) : (xs.flatMap g).all (·.oneCell') = true := by
  rw [List.all_flatMap]
  simp only [List.all_eq_true] at hg ⊢
  exact fun x _ => by simpa using hg x
/-- append onto a slice of one's own, of plain elements. -/
theorem app_plain {α : Type} {g : α → List Value} {P : Program} {t e : TypeId} {sz by' : Nat} {z : Value} (he : elemO P t = some e) (hs : szO P e = some (sz + 1)) (hb : byO P e = some by') (hz : zeroO P e = some z) (hzl : (cellsV z).length = sz + 1)
    (hg : ∀ x, (g x).all (·.oneCell') = true) {H : Heap} {E1 E : List Nat} {v w : Value} {xs ys : List α} (h1 : RW e (sz + 1) (RP g) H E1 v xs) (ho : Own H E1) (h : RS (sz + 1) (RP g) H E w ys) (hby : (xs.length + ys.length) * by' ≤ 140737488355328) (hmax : xs.length + ys.length ≤ maxLen) :
    ∃ k v' H2 E', apA P H [t, t] v w = some (k, v', H2) ∧ (∀ i, k = some i → i ∈ E1 ∧ H.live i = true) ∧ H.length ≤ H2.length ∧ (∀ i, i < H.length → i ∉ E1 → H2[i]? = H[i]?) ∧ RW e (sz + 1) (RP g) H2 E' v' (xs ++ ys) ∧ Own H2 E' ∧ ∀ i, i ∈ E' → i ∈ E1 ∨ i = H.length := by
  obtain ⟨E2, news, hsrc, h2, _, _⟩ := h.src
  obtain ⟨rfl, rfl⟩ := h2.plainE
  obtain ⟨k, v', H2, E', e1, e2, e3, e4, e5, e6, e7, _⟩ := apA_RW he hs hb hz hzl (RP.frm g) h1 hsrc h2 (all_flat hg ys) ho.1 List.nodup_nil (fun i _ hi => by simp at hi) hby hmax
  refine ⟨k, v', H2, E', e1, e2, e3, e4, e5, ⟨e6, fun i hi => ?_⟩, fun i hi => ?_⟩
  · rcases e7 i hi with ⟨h1 | h1, _, h3⟩ | ⟨_, h2⟩
    · have := ho.2 i h1
      unfold Heap.rwOk at this ⊢
      rw [h3]; exact this
    · simp at h1
    · exact h2
  · rcases e7 i hi with ⟨h1 | h1, _⟩ | ⟨h1, _⟩
    · exact .inl h1
    · simp at h1
    · exact .inr h1
/-- A clone. -/
theorem clone_app {α : Type} {g : α → List Value} {P : Program} {t e : TypeId} {sz by' : Nat} {z : Value} (he : elemO P t = some e) (hs : szO P e = some (sz + 1)) (hb : byO P e = some by') (hz : zeroO P e = some z) (hzl : (cellsV z).length = sz + 1)
    (hg : ∀ x, (g x).all (·.oneCell') = true) {H : Heap} {E : List Nat} {w : Value} {ys : List α} (h : RS (sz + 1) (RP g) H E w ys) (hby : ys.length * by' ≤ 140737488355328) (hmax : ys.length ≤ maxLen) :
    ∃ k v' H2 E', apA P (H ++ [⟨e, [], true, true⟩]) [t, t] (sl H.length 0 0) w = some (k, v', H2) ∧ wrO H.length [] k ∧ Gro H H2 ∧ RW e (sz + 1) (RP g) H2 E' v' ys ∧ Own H2 E' ∧ ∀ i, i ∈ E' → H.length ≤ i := by
  have hw : RW e (sz + 1) (RP g) (H ++ [⟨e, [], true, true⟩]) [H.length] (sl H.length 0 0) [] := .inr ⟨H.length, [], [], rfl, rfl, by simp, rfl, rfl⟩
  have hown : Own (H ++ [⟨e, [], true, true⟩]) [H.length] := ⟨by simp, fun i hi => by simp at hi; subst hi; exact rw_get (t := e) (cs := []) (by simp)⟩
  obtain ⟨k, v', H2, E', e1, e2, e3, e4, e5, e6, e7⟩ := app_plain he hs hb hz hzl hg hw hown (h.ext (RP.frm g)) (by simpa using hby) (by simpa using hmax)
  refine ⟨k, v', H2, E', e1, fun i hi => .inl (by have := (e2 i hi).1; simp at this; omega), Gro.of (by simp at e3; omega) fun i hi => ?_, by simpa using e5, e6, fun i hi => ?_⟩
  · rw [e4 i (by simp; omega) (by simp; omega), List.getElem?_append_left hi]
  · rcases e7 i hi with h | h
    · simp at h; omega
    · simp at h; omega
theorem RS.nilx {α : Type} {sz : Nat} {R : Heap → List Nat → α → List Value → Prop} {H : Heap} {E : List Nat} {xs : List α} (h : RS sz R H E nl xs) : xs = [] := by
  obtain ⟨_, h | ⟨id, o, E', ty, rw, pre, cs, post, h1, _⟩⟩ := h
  · exact h.2.1
  · simp at h1
theorem RS.some {α : Type} {sz : Nat} {R : Heap → List Nat → α → List Value → Prop} {H : Heap} {E : List Nat} {v : Value} {xs : List α} (h : RS sz R H E v xs) (hn : v ≠ nl) : ∃ a c, v = .slice (some a) xs.length c := by
  obtain ⟨_, ⟨rfl | rfl, rfl, _⟩ | ⟨id, o, E', ty, rw, pre, cs, post, h1, _⟩⟩ := h
  · exact absurd rfl hn
  · exact ⟨_, _, rfl⟩
  · exact ⟨_, _, h1⟩
/-- append onto a new, empty slice. -/
theorem apA_new {P : Program} {t e : TypeId} {sz by' m : Nat} {z : Value} {news : List Value} (he : elemO P t = some e) (hs : szO P e = some (sz + 1)) (hb : byO P e = some by') (hz : zeroO P e = some z) (hzl : (cellsV z).length = sz + 1) {H : Heap} {w : Value}
    (hsrc : srcA (H ++ [⟨e, [], true, true⟩]) (sz + 1) w = some (m, news)) (hone : news.all (·.oneCell') = true) (hby : m * by' ≤ 140737488355328) (hmax : m ≤ maxLen) :
    apA P (H ++ [⟨e, [], true, true⟩]) [t, t] (sl H.length 0 0) w = some (some H.length, sl (H.length + 1) 0 m, H ++ [⟨e, [], false, false⟩, ⟨e, news, true, true⟩]) := by
  have hg : (H ++ [(⟨e, [], true, true⟩ : Blk)])[H.length]? = some ⟨e, [], true, true⟩ := by simp
  unfold apA
  simp only [he, hs, hb, hz, destA, hsrc, hg]
  rw [if_pos (by simp), ]
  simp only
  rw [if_pos ⟨trivial, hzl, by simpa using hby, by simpa using hmax, hone⟩]
  simp [killO, kill_at0, kill_c0]
theorem set_mid {a m z : List Value} {n j : Nat} {x : Value} (h : a.length = n) (hj : j < m.length) : (a ++ (m ++ z)).set (n + j) x = a ++ (m.set j x ++ z) := by
  rw [List.set_append, if_neg (by omega), h, Nat.add_sub_cancel_left, List.set_append, if_pos hj]
theorem drop_cons {α : Type} {xs : List α} {i : Nat} (h : i < xs.length) : xs.drop i = xs[i] :: xs.drop (i + 1) := by rw [List.getElem_cons_drop]
theorem RW.one {α : Type} {ty : TypeId} {sz : Nat} {R : Heap → List Nat → α → List Value → Prop} {H : Heap} {E : List Nat} {v : Value} {xs : List α} (h : RW ty sz R H E v xs) : v.oneCell' = true := by
  obtain ⟨a, c, rfl⟩ := h.form; rfl
theorem RW.cv {α : Type} {ty : TypeId} {sz : Nat} {R : Heap → List Nat → α → List Value → Prop} {H : Heap} {E : List Nat} {v : Value} {xs : List α} (h : RW ty sz R H E v xs) : cellsV v = [v] := by
  obtain ⟨a, c, rfl⟩ := h.form; rfl
theorem Clo.es (n : Nat) : Clo n es := fun φ φ' y hle hn hv => by
  cases hv with
  | emp a c => exact .emp a c
theorem RS.clo {α : Type} {sz : Nat} {R : Heap → List Nat → α → List Value → Prop} {H : Heap} {E : List Nat} {v : Value} {xs : List α} (h : RS sz R H E v xs) : Clo H.length v := by
  obtain ⟨_, ⟨rfl | rfl, _⟩ | ⟨id, o, E', ty, rw, pre, cs, post, rfl, _, h3, _⟩⟩ := h
  · exact Clo.plain rfl
  · exact Clo.es _
  · exact Clo.sl (lt_of_get h3)
/-- A piece of a slice of plain elements. -/
theorem RS.drop {α : Type} {sz : Nat} {g : α → List Value} {H : Heap} {E : List Nat} {id o n : Nat} {xs : List α} (h : RS (sz + 1) (RP g) H E (sl id o n) xs) {k : Nat} (hk : k ≤ xs.length) : RS (sz + 1) (RP g) H E (sl id (o + k * (sz + 1)) (n - k)) (xs.drop k) := by
  obtain ⟨hl, ⟨h | h, _⟩ | ⟨id', o', E', ty, rw, pre, cs, post, h1, h2, h3, h4, h5⟩⟩ := h
  · simp at h
  · simp at h
  · simp at h1
    obtain ⟨⟨rfl, rfl⟩, rfl⟩ := h1
    obtain ⟨rfl, rfl⟩ := h5.plainE
    have hlen := h5.len
    have e : xs = xs.take k ++ xs.drop k := (List.take_append_drop k xs).symm
    rw [e, List.flatMap_append] at h3 h5
    obtain ⟨E1, E2, c1, c2, k1, k2, k3, k4⟩ := h5.split
    obtain ⟨rfl, rfl⟩ := k3.plainE
    obtain ⟨rfl, rfl⟩ := k4.plainE
    refine ⟨by simp; omega, .inr ⟨id, o + k * (sz + 1), [], ty, rw, pre ++ (xs.take k).flatMap g, (xs.drop k).flatMap g, post, by simp, by simpa using h2, by rw [h3]; simp, ?_, k4⟩⟩
    have := k3.len
    rw [List.length_append, h4, this, List.length_take, Nat.min_eq_left hk]
theorem RS.take {α : Type} {sz : Nat} {g : α → List Value} {H : Heap} {E : List Nat} {id o n : Nat} {xs : List α} (h : RS (sz + 1) (RP g) H E (sl id o n) xs) {k : Nat} (hk : k ≤ xs.length) : RS (sz + 1) (RP g) H E (sl id o k) (xs.take k) := by
  obtain ⟨hl, ⟨h | h, _⟩ | ⟨id', o', E', ty, rw, pre, cs, post, h1, h2, h3, h4, h5⟩⟩ := h
  · simp at h
  · simp at h
  · simp at h1
    obtain ⟨⟨rfl, rfl⟩, rfl⟩ := h1
    obtain ⟨rfl, rfl⟩ := h5.plainE
    have e : xs = xs.take k ++ xs.drop k := (List.take_append_drop k xs).symm
    rw [e, List.flatMap_append] at h3 h5
    obtain ⟨E1, E2, c1, c2, k1, k2, k3, k4⟩ := h5.split
    obtain ⟨rfl, rfl⟩ := k3.plainE
    exact ⟨by simp; omega, .inr ⟨id, o, [], ty, rw, pre, (xs.take k).flatMap g, (xs.drop k).flatMap g ++ post, by simp [Nat.min_eq_left hk], by simpa using h2, by rw [h3]; simp, h4, k3⟩⟩
end Go.Proofs.YtpoedfmkiiijnaaAm
