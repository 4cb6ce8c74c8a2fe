/- append over lists; makers. Plain lemmas. -/
import Derived.Test.YtpoedfmkiiijnaaMk
namespace Go.Proofs.YtpoedfmkiiijnaaAm
open Go Go.RowKit
set_option linter.unusedVariables false
set_option linter.unusedSimpArgs false

theorem get_kill_ne (H : Heap) {id i : Nat} (h : i ≠ id) : (H.kill id)[i]? = H[i]? := by
  unfold Heap.kill; rw [List.getElem?_modify]; simp [Ne.symm h]
theorem length_kill' (H : Heap) (id : Nat) : (H.kill id).length = H.length := by unfold Heap.kill; simp
theorem ldC_cells {H : Heap} {id : Nat} {b : Blk} (hb : H[id]? = some b) (hl : b.live = true) : ∀ (n : Nat) (a m z : List Value), b.cells = a ++ (m ++ z) → m.length = n → ldC H id a.length n = some m
  | 0, a, m, z, h, hm => by rw [List.length_eq_zero_iff.1 hm]; rfl
  | n + 1, a, [], z, h, hm => by simp at hm
  | n + 1, a, x :: m, z, h, hm => by
    have h1 : Heap.cell H id a.length = some x := by
      unfold Heap.cell; rw [hb]; simp only [hl, if_true]; rw [h, List.getElem?_append_right (Nat.le_refl _)]; simp
    have := ldC_cells hb hl n (a ++ [x]) m z (by rw [h]; simp) (by simpa using hm)
    rw [List.length_append] at this
    unfold ldC
    rw [h1, show a.length + 1 = a.length + [x].length from rfl, this]
section
variable {α : Type} {sz : Nat} {R : Heap → List Nat → α → List Value → Prop} {H : Heap}
theorem RCs.one (hR : ∀ {E x cs}, R H E x cs → cs.all (·.oneCell') = true) : ∀ {xs : List α} {E : List Nat} {cs : List Value}, RCs sz R H E xs cs → cs.all (·.oneCell') = true
  | [], _, _, h => by rw [h.2]; rfl
  | x :: xs, _, _, ⟨E1, E2, c1, c2, _, h2, h3, h4, h5⟩ => by rw [h2, List.all_append, hR h4, h5.one hR]; rfl
/-- A slice that is read by append. -/
theorem RS.src {E : List Nat} {w : Value} {ys : List α} (h : RS sz R H E w ys) : ∃ E' news, srcA H sz w = some (ys.length, news) ∧ RCs sz R H E' ys news ∧ (∀ e, e ∈ E' → e ∈ E) ∧ (E.Nodup → E'.Nodup) := by
  obtain ⟨_, ⟨rfl | rfl, rfl, rfl⟩ | ⟨id, o, E', ty, rw, pre, cs, post, rfl, rfl, h3, h4, h5⟩⟩ := h
  · exact ⟨[], [], rfl, ⟨rfl, rfl⟩, fun e he => he, fun h => h⟩
  · exact ⟨[], [], rfl, ⟨rfl, rfl⟩, fun e he => he, fun h => h⟩
  · refine ⟨E', cs, ?_, h5, fun e he => by simp [he], fun h => (List.nodup_cons.1 h).2⟩
    have := ldC_cells h3 rfl (ys.length * sz) pre cs post (by simp) h5.len
    rw [h4] at this
    unfold srcA
    simp only [this]
/-- append: what it leaves. -/
theorem apA_RW {P : Program} {t e : TypeId} {by' : Nat} {z : Value} (he : elemO P t = some e) (hs : szO P e = some (sz + 1)) (hb : byO P e = some by') (hz : zeroO P e = some z) (hzl : (cellsV z).length = sz + 1) (hR : Frm R)
    {E1 E2 : List Nat} {v w : Value} {xs ys : List α} {news : List Value} (h1 : RW e (sz + 1) R H E1 v xs) (hsrc : srcA H (sz + 1) w = some (ys.length, news)) (h2 : RCs (sz + 1) R H E2 ys news) (hone : news.all (·.oneCell') = true)
    (hnd : E1.Nodup) (hnd2 : E2.Nodup) (hap : ∀ i, i ∈ E1 → i ∉ E2) (hby : (xs.length + ys.length) * by' ≤ 140737488355328) (hmax : xs.length + ys.length ≤ maxLen) :
    ∃ k v' H2 E', apA P H [t, t] v w = some (k, v', H2) ∧ (∀ i, k = some i → i ∈ E1 ∧ H.live i = true) ∧ H.length ≤ H2.length ∧ (∀ i, i < H.length → i ∉ E1 → H2[i]? = H[i]?) ∧ RW e (sz + 1) R H2 E' v' (xs ++ ys) ∧ E'.Nodup ∧
      (∀ i, i ∈ E' → ((i ∈ E1 ∨ i ∈ E2) ∧ i < H.length ∧ H2[i]? = H[i]?) ∨ (i = H.length ∧ Heap.rwOk H2 i = true)) ∧ ∀ i, i ∈ E2 → H2[i]? = H[i]? := by
  have hz' : ¬ (t = t ∧ (cellsV z).length = sz + 1 ∧ (xs.length + ys.length) * by' ≤ 140737488355328 ∧ xs.length + ys.length ≤ maxLen ∧ news.all (·.oneCell') = true) → False := fun h => h ⟨rfl, hzl, hby, hmax, hone⟩
  have hnl := h2.len
  rcases h1 with ⟨rfl, rfl, rfl⟩ | ⟨id, E', cs, rfl, rfl, hbk, hcs⟩
  · by_cases hy : ys = []
    · subst hy
      refine ⟨none, nl, H, [], ?_, fun i h => by simp at h, Nat.le_refl _, fun _ _ _ => rfl, .inl ⟨rfl, rfl, rfl⟩, List.nodup_nil, fun i hi => by simp at hi, fun _ _ => rfl⟩
      unfold apA
      simp only [he, hs, hb, hz, destA, hsrc, List.length_nil] at hz' ⊢
      rw [if_pos (by simpa using Classical.not_not.1 hz')]
      simp
    · have hm : ys.length ≠ 0 := fun h => hy (List.length_eq_zero_iff.1 h)
      refine ⟨none, sl H.length 0 ys.length, H ++ [⟨e, news, true, true⟩], H.length :: E2, ?_, fun i h => by simp at h, by simp, fun i hi _ => List.getElem?_append_left hi, .inr ⟨H.length, E2, news, by simp, rfl, by simp, ?_⟩, ?_, fun i hi => ?_, fun i hi => List.getElem?_append_left (h2.bd hR i hi)⟩
      · unfold apA
        simp only [he, hs, hb, hz, destA, hsrc, List.length_nil] at hz' ⊢
        rw [if_pos (by simpa using Classical.not_not.1 hz')]
        simp [hm, killO]
      · exact h2.fr hR (agr_app H _ E2)
      · exact List.nodup_cons.2 ⟨fun h => by have := h2.bd hR _ h; omega, hnd2⟩
      · rcases List.mem_cons.1 hi with h | h
        · exact .inr ⟨h, by rw [h]; unfold Heap.rwOk; simp⟩
        · exact .inl ⟨.inr h, h2.bd hR i h, List.getElem?_append_left (h2.bd hR i h)⟩
  · have hlen := hcs.len
    have hnd' := List.nodup_cons.1 hnd
    have hlt := lt_of_get hbk
    have hid2 : id ∉ E2 := hap id (by simp)
    have hget : ∀ i, i < H.length → i ≠ id → (H.kill id ++ [(⟨e, cs ++ news, true, true⟩ : Blk)])[i]? = H[i]? := fun i hi hne => by rw [List.getElem?_append_left (by rw [length_kill']; exact hi), get_kill_ne H hne]
    have ha1 : ∀ i, i ∈ E' → i < H.length → (H.kill id ++ [(⟨e, cs ++ news, true, true⟩ : Blk)])[i]? = H[i]? := fun i hi hl => hget i hl fun h => hnd'.1 (h ▸ hi)
    have ha2 : ∀ i, i ∈ E2 → i < H.length → (H.kill id ++ [(⟨e, cs ++ news, true, true⟩ : Blk)])[i]? = H[i]? := fun i hi hl => hget i hl fun h => hid2 (h ▸ hi)
    refine ⟨some id, sl H.length 0 (xs.length + ys.length), H.kill id ++ [⟨e, cs ++ news, true, true⟩], H.length :: (E' ++ E2), ?_, fun i h => ?_, by simp [length_kill'], fun i hi hn => hget i hi fun h => hn (by simp [h]), .inr ⟨H.length, E' ++ E2, cs ++ news, by simp, rfl, ?_, ?_⟩, ?_, fun i hi => ?_, fun i hi => ha2 i hi (h2.bd hR i hi)⟩
    · unfold apA
      simp only [he, hs, hb, hz, destA, hsrc, hbk] at hz' ⊢
      simp only [hlen, and_self, if_true]
      rw [if_pos (Classical.not_not.1 hz')]
      simp [killO]
    · cases h; exact ⟨by simp, by unfold Heap.live; rw [hbk]⟩
    · rw [List.getElem?_append_right (by rw [length_kill']; exact Nat.le_refl _), length_kill']; simp
    · exact (hcs.fr hR ha1).app (h2.fr hR ha2)
    · refine List.nodup_cons.2 ⟨fun h => ?_, List.nodup_append.2 ⟨hnd'.2, hnd2, fun a ha b hb hab => hap a (by simp [ha]) (hab ▸ hb)⟩⟩
      rcases List.mem_append.1 h with h | h
      · have := hcs.bd hR _ h; omega
      · have := h2.bd hR _ h; omega
    · rcases List.mem_cons.1 hi with h | h
      · refine .inr ⟨h, ?_⟩
        rw [h]; unfold Heap.rwOk
        rw [List.getElem?_append_right (by rw [length_kill']; exact Nat.le_refl _), length_kill']; simp
      · rcases List.mem_append.1 h with h | h
        · exact .inl ⟨.inl (by simp [h]), hcs.bd hR i h, ha1 i h (hcs.bd hR i h)⟩
        · exact .inl ⟨.inr h, h2.bd hR i h, ha2 i h (h2.bd hR i h)⟩
end

/-- Marks within a stretch of new blocks leave the rest. -/
theorem MK.mid {E : List Nat} {A J B H2 : Heap} (h : MK E (A ++ (J ++ B)) H2) (hb : ∀ e, e ∈ E → A.length ≤ e ∧ e < A.length + J.length) : ∃ J', J.length = J'.length ∧ H2 = A ++ (J' ++ B) := by
  have hlen := h.len
  simp only [List.length_append] at hlen
  refine ⟨(H2.drop A.length).take J.length, by simp; omega, ?_⟩
  apply List.ext_getElem?
  intro i
  by_cases h1 : i < A.length
  · rw [List.getElem?_append_left h1, h.out i fun he => by have := hb i he; omega, List.getElem?_append_left h1]
  · rw [List.getElem?_append_right (by omega)]
    by_cases h2 : i < A.length + J.length
    · rw [List.getElem?_append_left (by simp; omega), List.getElem?_take, if_pos (by omega), List.getElem?_drop]; congr 1; omega
    · rw [List.getElem?_append_right (by simp; omega), h.out i fun he => by have := hb i he; omega, List.getElem?_append_right (by omega), List.getElem?_append_right (by omega)]
      congr 1; simp; omega

/-! ### makers -/
/-- A call that makes: what it answers owns new blocks alone. -/
def Mkr (P : Program) (f : FuncId) (args : List Value) (H : Heap) (Q : Heap → List Nat → Value → Prop) : Prop :=
  ∃ v J E, AC P f args H v (H ++ J) [] ∧ Q (H ++ J) E v ∧ Own (H ++ J) E ∧ (∀ e, e ∈ E → H.length ≤ e)
theorem app_of_same {H Hn : Heap} (hl : H.length ≤ Hn.length) (h : ∀ i, i < H.length → Hn[i]? = H[i]?) : Hn = H ++ Hn.drop H.length := by
  apply List.ext_getElem?
  intro i
  by_cases hi : i < H.length
  · rw [h i hi, List.getElem?_append_left hi]
  · rw [List.getElem?_append_right (by omega), List.getElem?_drop]; congr 1; omega
theorem Mkr.of_body {P : Program} {f : FuncId} {fn : Func} {c : Code} {N : Nat} {rs : List ResultVar} {args : List Value} {H : Heap} {Q : Heap → List Nat → Value → Prop} (hf : P.funcs[f]? = some fn) (hb : fn.body = some c) (hok : fnOk P f = true) (hNe : fn.ntmps = N) (hrs : fn.results.toList = rs) (hN : args.length ≤ N)
    (h : AK P ⟨N, H.length, []⟩ (endR P rs fun v Hn => H.length ≤ Hn.length ∧ (∀ i, i < H.length → Hn[i]? = H[i]?) ∧ ∃ E, Q Hn E v ∧ Own Hn E ∧ (∀ e, e ∈ E → H.length ≤ e)) [.c c] ⟨enumT 0 args, H⟩) : Mkr P f args H Q := by
  obtain ⟨v, H', h1, h2, h3, E, h4, h5, h6⟩ := AC.of_body0 hf hb hok hNe hrs hN h
  have e := app_of_same h2 h3
  rw [e] at h1 h4 h5
  exact ⟨v, _, E, h1, h4, h5, h6⟩
end Go.Proofs.YtpoedfmkiiijnaaAm
