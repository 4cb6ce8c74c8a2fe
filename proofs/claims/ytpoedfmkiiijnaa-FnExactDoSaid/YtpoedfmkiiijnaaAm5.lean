/- The abstract machine, part 5: append. Plain lemmas; no program in sight. -/
import Derived.Test.YtpoedfmkiiijnaaAm4
namespace Go.Proofs.YtpoedfmkiiijnaaAm
open Go Go.RowKit
set_option linter.unusedVariables false
set_option linter.unusedSimpArgs false

/-- An id more, for a block of the world that no live id of one's own names. -/
theorem HR.add {P : Program} {B0 : Nat} {φ : Phi} {H : Heap} {w : World} (h : HR P B0 φ H w)
    {ty : TypeId} {xs : List Value} {cur : Array Value} {cap sz g : Nat} (hsz : szO P ty = some sz) (hB : B0 ≤ g) (hnew : w.heap[g]? = some (.cells cur ty (0, 0)))
    (hfree : ∀ i M, φ i = some M → M.rw = true → H.hot i = true → M.blk ≠ g)
    (hcap : cur.size = cap * sz) (hmax : cap ≤ maxLen) (hlen : xs.length ≤ cur.size) (hv : ∀ (j : Nat) (x : Value), xs[j]? = some x → ∃ y, VR φ x y ∧ cur[j]? = some y) :
    HR P B0 (φ.set H.length ⟨g, 0, cap, true⟩) (H ++ [⟨ty, xs, true, true⟩]) w := by
  have hnone : φ H.length = none := by
    cases e : φ H.length with
    | none => rfl
    | some L => exact absurd (h.dom _ _ e) (Nat.lt_irrefl _)
  have hle := Phi.le_set (L := ⟨g, 0, cap, true⟩) hnone
  have hlast : (H ++ [(⟨ty, xs, true, true⟩ : Blk)])[H.length]? = some ⟨ty, xs, true, true⟩ := by simp
  have hprev : ∀ id, id < H.length → (H ++ [(⟨ty, xs, true, true⟩ : Blk)])[id]? = H[id]? := fun id hi => by rw [List.getElem?_append_left hi]
  refine ⟨?_, ?_, ?_, ?_, ?_, ?_, ?_, ?_⟩
  · intro id L hL
    by_cases e : id = H.length
    · subst e; simp
    · rw [Phi.set_ne _ _ e] at hL; have := h.dom _ _ hL; simp; omega
  · intro id L hL hr
    by_cases e : id = H.length
    · subst e; rw [Phi.set_same] at hL; cases hL; cases hr
    · rw [Phi.set_ne _ _ e] at hL; exact h.ro _ _ hL hr
  · intro id L hL
    by_cases e : id = H.length
    · subst e; rw [Phi.set_same] at hL; cases hL; exact (Array.getElem?_eq_some_iff.1 hnew).1
    · rw [Phi.set_ne _ _ e] at hL; exact h.lt _ _ hL
  · intro id L j x hL hx
    by_cases e : id = H.length
    · subst e
      rw [Phi.set_same] at hL; cases hL
      simp only [Heap.cell, hlast, if_true] at hx
      obtain ⟨y, hy, hc⟩ := hv j x hx
      refine ⟨y, hy.mono hle, ?_⟩
      rw [cell_of_row _ _ _ _ _ _ hnew]; simpa using hc
    · rw [Phi.set_ne _ _ e] at hL
      have hlt := h.dom _ _ hL
      simp only [Heap.cell, hprev id hlt] at hx
      obtain ⟨y, hy, hc⟩ := h.cell id L j x hL hx
      exact ⟨y, hy.mono hle, hc⟩
  · intro id L b hL hr hb hl
    by_cases e : id = H.length
    · subst e
      rw [Phi.set_same] at hL; cases hL
      rw [hlast] at hb; cases hb
      exact ⟨rfl, hB, cur, sz, hsz, hnew, hcap, hlen, hmax⟩
    · rw [Phi.set_ne _ _ e] at hL
      rw [hprev id (h.dom _ _ hL)] at hb
      exact h.row id L b hL hr hb hl
  · intro id L b hL hb hr
    by_cases e : id = H.length
    · subst e; rw [Phi.set_same] at hL; cases hL; rfl
    · rw [Phi.set_ne _ _ e] at hL
      rw [hprev id (h.dom _ _ hL)] at hb
      exact h.flag id L b hL hb hr
  · intro id id' L L' hL hL' hr hr' hbe hl hl'
    have old : ∀ i M, i ≠ H.length → φ.set H.length ⟨g, 0, cap, true⟩ i = some M → Heap.hot (H ++ [⟨ty, xs, true, true⟩]) i = true → φ i = some M ∧ Heap.hot H i = true := fun i M hi hM hli => by
      rw [Phi.set_ne _ _ hi] at hM
      have hlt := h.dom _ _ hM
      exact ⟨hM, by simpa [Heap.hot, hprev i hlt] using hli⟩
    by_cases e : id = H.length
    · by_cases e' : id' = H.length
      · omega
      · subst e
        rw [Phi.set_same] at hL; cases hL
        obtain ⟨a1, a2⟩ := old id' L' e' hL' hl'
        exact absurd hbe.symm (hfree id' L' a1 hr' a2)
    · by_cases e' : id' = H.length
      · subst e'
        rw [Phi.set_same] at hL'; cases hL'
        obtain ⟨a1, a2⟩ := old id L e hL hl
        exact absurd hbe (hfree id L a1 hr a2)
      · obtain ⟨a1, a2⟩ := old id L e hL hl
        obtain ⟨b1, b2⟩ := old id' L' e' hL' hl'
        exact h.inj id id' L L' a1 b1 hr hr' hbe a2 b2
  · intro id L b hL hb hl hr
    by_cases e : id = H.length
    · subst e; rw [hlast] at hb; cases hb; cases hl
    · rw [Phi.set_ne _ _ e] at hL
      rw [hprev id (h.dom _ _ hL)] at hb
      exact h.mp id L b hL hb hl hr

def killO (H : Heap) : Option Nat → Heap
  | none => H
  | some id => H.kill id
theorem length_killO (H : Heap) (k : Option Nat) : (killO H k).length = H.length := by cases k <;> simp [killO, Heap.length_kill]
/-- Onto what is appended: whose block, how many elements, their cells. -/
def destA (H : Heap) (e : TypeId) (sz : Nat) : Value → Option (Option Nat × Nat × List Value)
  | .slice none 0 0 => some (none, 0, [])
  | .slice (some ⟨id, 0, none⟩) n 0 => match H[id]? with
    | some b => if b.live = true ∧ b.rw = true ∧ b.ty = e ∧ b.cells.length = n * sz then some (some id, n, b.cells) else none
    | none => none
  | _ => none
def srcA (H : Heap) (sz : Nat) : Value → Option (Nat × List Value)
  | .slice none 0 0 => some (0, [])
  | .slice (some ⟨id, o, none⟩) m 0 => match ldC H id o (m * sz) with
    | some l => some (m, l)
    | none => none
  | .slice (some ⟨_, _, some _⟩) 0 0 => some (0, [])
  | _ => none
/-- append(s, x...): which id goes, the value, the heap. -/
def apA (P : Program) (H : Heap) (ts : List TypeId) (s x : Value) : Option (Option Nat × Value × Heap) :=
  match ts with
  | [t, t'] => match elemO P t with
    | some e => match szO P e, byO P e, zeroO P e with
      | some (sz + 1), some by', some z => match destA H e (sz + 1) s, srcA H (sz + 1) x with
        | some (k, n, old), some (m, news) =>
          if t' = t ∧ (cellsV z).length = sz + 1 ∧ (n + m) * by' ≤ 140737488355328 ∧ n + m ≤ maxLen ∧ news.all (·.oneCell') = true then
            (if k = none ∧ m = 0 then some (none, nl, H) else some (k, sl H.length 0 (n + m), killO H k ++ [⟨e, old ++ news, true, true⟩]))
          else none
        | _, _ => none
      | _, _, _ => none
    | none => none
  | _ => none

section
variable {P : Program} {B0 n0 : Nat} {D : List Nat} {φ0 φ : Phi} {w0 w : World} {H : Heap}

/-- What append leaves: in place, or in the world's next block. -/
theorem Inv.appended (h : Inv P B0 n0 D φ0 w0 φ H w) {k : Option Nat} {L : Loc} (hk : ∀ id, k = some id → wr n0 D id ∧ φ id = some L ∧ H.live id = true ∧ L.rw = true ∧ B0 ≤ L.blk)
    {e : TypeId} {sz n : Nat} {xs ys : List Value} {v' : Value} {w' : World} (hsz : szO P e = some sz) (hxy : VRs φ xs ys) (hown : w'.ownsRow 0 e sz v' n ys) (hnil : v' ≠ nl)
    (hg : w.grownBy w' (k.map fun _ => L.blk)) (hat : v'.ownBlock = (k.map fun _ => L.blk) ∨ v'.ownBlock = some w.heap.size) :
    ∃ φ', VR φ' (sl H.length 0 n) v' ∧ Inv P B0 n0 D φ0 w0 φ' (killO H k ++ [⟨e, xs, true, true⟩]) w' ∧ φ.le φ' ∧ FrE φ φ' w w' k.toList H.length := by
  rcases hown.2 with ⟨rfl, _⟩ | ⟨g, cap, cur, rfl, _, hcur, hnc, hcm, hcs, htake⟩
  · exact absurd rfl hnil
  have hB : B0 ≤ w.heap.size := Nat.le_trans h.b0 h.size
  have hgc : (∃ id, k = some id ∧ g = L.blk) ∨ g = w.heap.size := by
    rcases hat with e1 | e1
    · cases k with
      | none => simp [Value.ownBlock] at e1
      | some id => simp [Value.ownBlock] at e1; exact .inl ⟨id, rfl, e1⟩
    · simp [Value.ownBlock] at e1; exact .inr e1
  have hBg : B0 ≤ g := by
    rcases hgc with ⟨id, hk1, rfl⟩ | rfl
    · exact (hk id hk1).2.2.2.2
    · exact hB
  have h1 : HR P B0 φ (killO H k) w := by
    cases k with
    | none => exact h.hr
    | some id => exact h.hr.kill id
  have hlive : ∀ i, (killO H k).hot i = true → H.hot i = true ∧ k ≠ some i := by
    intro i hi
    cases k with
    | none => exact ⟨hi, by simp⟩
    | some id =>
      simp only [killO, Heap.hot_kill] at hi
      split at hi
      · cases hi
      · rename_i hne; exact ⟨hi, fun e => hne (by cases e; rfl)⟩
  have hne : ∀ id, k = some id → ∀ i M, φ i = some M → (killO H k).hot i = true → M.blk ≠ L.blk := by
    intro id hkid i M hM hi e1
    obtain ⟨k1, k2, k3, k4, k5⟩ := hk id hkid
    obtain ⟨l1, l2⟩ := hlive i hi
    by_cases hr : M.rw = true
    · have := h.hr.inj i id M L hM k2 hr k4 e1 l1 (Heap.hot_of_live k3)
      subst this; exact l2 hkid
    · have := h.hr.ro i M hM (by simpa using hr)
      omega
  have h2 : HR P B0 φ (killO H k) w' := h1.keep hg.size fun i M hM hi hlt => hg.block M.blk hlt (by
    cases hkk : k with
    | none => simp
    | some id => simp; exact hne id hkk i M hM hi)
  have hadd := h2.add (xs := xs) hsz hBg hcur (by
    intro i M hM hr hi e1
    rcases hgc with ⟨id, hk1, rfl⟩ | rfl
    · exact hne id hk1 i M hM hi e1
    · have := h.hr.lt i M hM
      omega) hcs hcm (by
      have e1 := congrArg List.length htake
      have e2 := hown.1
      rw [List.length_take] at e1
      have e3 := hxy.1
      simp only [Array.length_toList] at e1
      have : n * sz ≤ cap * sz := Nat.mul_le_mul_right _ hnc
      omega) (by
      intro j x hx
      have hj : j < ys.length := by rw [← hxy.1]; exact (List.getElem?_eq_some_iff.1 hx).1
      refine ⟨ys[j], hxy.2 j x _ hx (by simp [hj]), ?_⟩
      have e1 : (cur.toList.take (n * sz))[j]? = some ys[j] := by rw [htake]; simp [hj]
      rw [List.getElem?_take] at e1
      split at e1
      · simpa using e1
      · cases e1)
  have hnone : φ H.length = none := by
    cases e : φ H.length with
    | none => rfl
    | some L => exact absurd (h.hr.dom _ _ e) (Nat.lt_irrefl _)
  rw [length_killO] at hadd
  have hVR : VR (φ.set H.length ⟨g, 0, cap, true⟩) (sl H.length 0 n) (.slice (some ⟨g, 0, none⟩) n cap) := by
    have := VR.slc (o := 0) (n := n) (c := cap) (Phi.set_same φ H.length ⟨g, 0, cap, true⟩) hnc (fun _ _ => rfl)
    simpa using this
  refine ⟨φ.set H.length ⟨g, 0, cap, true⟩, hVR, ⟨hadd, h.b0, ?_, h.dom0, ?_, ?_, hg.os.trans h.os, hg.tape.trans h.tape, hg.output.trans h.output, Nat.le_trans h.size hg.size, ?_⟩, Phi.le_set _ hnone, ⟨fun id hid => Phi.set_ne _ _ (by omega), hg.size, ?_, ?_⟩⟩
  · have := h.len; simp [length_killO]; omega
  · intro id hid
    rw [Phi.set_ne _ _ (by have := h.len; omega)]
    exact h.low id hid
  · intro id M hid hM
    by_cases e1 : id = H.length
    · subst e1
      rw [Phi.set_same] at hM; cases hM
      refine ⟨rfl, ?_⟩
      rcases hgc with ⟨id, hk1, rfl⟩ | rfl
      · obtain ⟨k1, k2, k3, k4, k5⟩ := hk id hk1
        by_cases hn : n0 ≤ id
        · exact (h.high id L hn k2).2
        · have hD : id ∈ D := k1.resolve_left hn
          have := h.low id (by omega)
          rw [k2] at this
          exact .inr ⟨id, hD, L, this.symm, k4, rfl⟩
      · exact .inl h.size
    · rw [Phi.set_ne _ _ e1] at hM
      exact h.high id M hid hM
  · intro b hb hkb
    rw [hg.block b (by have := h.size; omega) (by
      cases hkk : k with
      | none => simp
      | some id =>
        obtain ⟨k1, k2, k3, k4, k5⟩ := hk id hkk
        simp
        exact h.wr_ne k1 k2 k4 hb hkb)]
    exact h.keep b hb hkb
  · intro b hb hkb
    refine hg.block b hb ?_
    cases hkk : k with
    | none => simp
    | some id =>
      simp
      exact fun e1 => hkb id (by simp [hkk]) L (hk id hkk).2.1 e1.symm
  · intro id M hM
    by_cases e1 : id = H.length
    · subst e1
      rw [Phi.set_same] at hM; cases hM
      rcases hgc with ⟨id, hk1, rfl⟩ | rfl
      · exact .inr (.inr ⟨id, by simp [hk1], L, (hk id hk1).2.1, rfl⟩)
      · exact .inr (.inl (Nat.le_refl _))
    · rw [Phi.set_ne _ _ e1] at hM
      exact .inl hM

theorem apA_sound (h : Inv P B0 n0 D φ0 w0 φ H w) {ts : Array TypeId} {ty : TypeId} {s x s' x' v : Value} {k : Option Nat} {H' : Heap} (hs : VR φ s s') (hx : VR φ x x') (ha : apA P H ts.toList s x = some (k, v, H'))
    (hw : ∀ id, k = some id → wr n0 D id) :
    ∃ φ' v' w', (Builtin.append_ ts ty #[s', x']).run P w = .ok v' w' ∧ VR φ' v v' ∧ Inv P B0 n0 D φ0 w0 φ' H' w' ∧ φ.le φ' ∧ FrE φ φ' w w' k.toList H.length ∧ H.length ≤ H'.length := by
  unfold apA at ha
  split at ha
  · rename_i t t' hts
    split at ha
    · rename_i e he
      split at ha
      · rename_i sz by' z hsz hby hz
        split at ha
        · rename_i k1 n old m news hd hsrc
          split at ha
          · rename_i hh
            obtain ⟨rfl, hzl, hbytes, hmax, hone⟩ := hh
            obtain rfl : ts = #[t', t'] := by rw [← Array.toList_inj]; simpa using hts
            obtain ⟨i, hi, hiz⟩ := zero_info hz
            obtain ⟨i2, hi2, his⟩ := sz_info hsz
            rw [hi] at hi2; cases hi2
            have hib : i.bytes = by' := by unfold byO at hby; rw [hi] at hby; simpa using hby
            have hzs : z.cells.size = sz + 1 := by rw [← Array.length_toList, cellsV_eq]; exact hzl
            -- onto what
            have hdest : ∃ L old', (∀ id, k1 = some id → φ id = some L ∧ H.live id = true ∧ L.rw = true ∧ B0 ≤ L.blk) ∧ VRs φ old old' ∧ w.ownsRow 0 e (sz + 1) s' n old' ∧ s'.ownBlock = (k1.map fun _ => L.blk) ∧ (s' = nl ↔ k1 = none) := by
              unfold destA at hd
              split at hd
              · cases hd
                cases hs
                exact ⟨⟨0, 0, 0, true⟩, [], (fun id hid => by cases hid), .nil _, World.ownsRow_nil w 0 e (sz + 1), rfl, by simp⟩
              · rename_i id n1
                split at hd
                · rename_i b hb
                  split at hd
                  · rename_i hc
                    obtain ⟨c1, c2, c3, c4⟩ := hc
                    cases hd
                    have fin : ∀ (L : Loc) (c : Nat), φ id = some L → n ≤ c → (L.rw = true → (0 : Nat) = 0 → c = L.cap) → ∃ L' old', (∀ id', some id = some id' → φ id' = some L' ∧ H.live id' = true ∧ L'.rw = true ∧ B0 ≤ L'.blk) ∧ VRs φ b.cells old' ∧
                        w.ownsRow 0 e (sz + 1) (.slice (some ⟨L.blk, L.base + 0, none⟩) n c) n old' ∧ Value.ownBlock (.slice (some ⟨L.blk, L.base + 0, none⟩) n c) = ((some id).map fun _ => L'.blk) ∧
                        (Value.slice (some ⟨L.blk, L.base + 0, none⟩) n c = nl ↔ some id = none) := by
                      intro L c hL hn hc
                      have hLr := h.hr.flag id L b hL hb c2
                      obtain ⟨r1, r2, cur, sz', r3, r4, r5, r6, r7⟩ := h.hr.row id L b hL hLr hb c1
                      rw [c3] at r3 r4
                      rw [hsz] at r3; cases r3
                      have hcc := hc hLr rfl
                      refine ⟨L, cur.toList.take (n * (sz + 1)), (fun id' hid => by cases hid; exact ⟨hL, by simp [Heap.live, hb, c1], hLr, r2⟩), ?_, ?_, rfl, by simp⟩
                      · refine ⟨by simp; omega, fun j x y hxj hyj => ?_⟩
                        obtain ⟨y1, q1, q2⟩ := h.hr.cell id L j x hL (by simp [Heap.cell, hb, c1, hxj])
                        rw [r1, Nat.zero_add] at q2
                        rw [cell_of_row _ _ _ _ _ _ r4] at q2
                        rw [List.getElem?_take] at hyj
                        split at hyj
                        · simp only [Array.getElem?_toList] at hyj
                          rw [q2] at hyj; cases hyj; exact q1
                        · cases hyj
                      · refine ⟨by simp; omega, .inr ⟨L.blk, c, cur, by rw [r1], Nat.zero_le _, r4, hn, by omega, by rw [hcc]; exact r5, rfl⟩⟩
                    cases hs with
                    | slc hL hn hc => exact fin _ _ hL hn hc
                    | sl0 hL ho => exact absurd rfl ho
                  · cases hd
                · cases hd
              · cases hd
            obtain ⟨L, old', d1, d2, d3, d4, d5⟩ := hdest
            have hk1 : (k1 = none ∧ m = 0) ∨ k = k1 := by
              split at ha
              · rename_i hz; exact .inl hz
              · cases ha; exact .inr rfl
            -- what is appended
            have hsource : (x' = nl ∧ m = 0 ∧ news = []) ∨ ∃ a c news', x' = .slice (some a) m c ∧ VRs φ news news' ∧ news.length = m * (sz + 1) ∧ ∀ (j : Nat) (u : Value), news'[j]? = some u → w.cell? (a.add j) = some u := by
              unfold srcA at hsrc
              split at hsrc
              · cases hsrc; cases hx; exact .inl ⟨rfl, rfl, rfl⟩
              · rename_i id o m1
                split at hsrc
                · rename_i l hl
                  cases hsrc
                  cases hx with
                  | @slc _ _ _ c M hL hn hc =>
                    obtain ⟨l', q1, q2, q3⟩ := ldC_sound h.hr hL hl
                    exact .inr ⟨_, c, l', rfl, q1, q2, fun j u hu => by rw [add_plain', Nat.add_assoc]; exact q3 j u hu⟩
                  | @sl0 _ _ a M hL ho =>
                    rw [Nat.zero_mul] at hl
                    cases hl
                    exact .inr ⟨a, 0, [], rfl, .nil _, by simp, fun j u hu => by simp at hu⟩
                · cases hsrc
              · cases hsrc
                cases hx with
                | emp a c => exact .inr ⟨a, c, [], rfl, .nil _, by simp, fun j u hu => by simp at hu⟩
              · cases hsrc
            have hbig : ∃ v' w', (Builtin.append_ #[t', t'] ty #[s', x']).run P w = .ok v' w' ∧ (∃ news', VRs φ news news' ∧ w'.ownsRow 0 e (sz + 1) v' (n + m) (old' ++ news')) ∧ w.grownBy w' s'.ownBlock ∧ (v' = nl ↔ s' = nl ∧ m = 0) ∧ (v'.ownBlock = s'.ownBlock ∨ v'.ownBlock = some w.heap.size) ∧ (k1 = none ∧ m = 0 → v' = nl ∧ w' = w) := by
              rcases hsource with ⟨rfl, rfl, rfl⟩ | ⟨a, c, news', rfl, q1, q2, q3⟩
              · refine ⟨s', w, run_append_owned_none w 0 t' ty e i (sz + 1) (elem_und he) hi s' n old' d3, ⟨[], .nil _, by simpa using d3⟩, ⟨rfl, rfl, rfl, Nat.le_refl _, fun _ _ _ => rfl⟩, by simp, .inl rfl, fun hh => ⟨d5.2 hh.1, rfl⟩⟩
              · have hone' : ∀ u ∈ news', u.oneCell' = true := by
                  intro u hu
                  obtain ⟨j, hj, rfl⟩ := List.mem_iff_getElem.1 hu
                  have hj' : j < news.length := by rw [q1.1]; exact hj
                  have := q1.2 j news[j] news'[j] (by simp [hj']) (by simp [hj])
                  rw [this.one]
                  simp only [List.all_eq_true] at hone
                  exact hone _ (List.getElem_mem hj')
                by_cases hz0 : k1 = none ∧ m = 0
                · have hsn := d5.2 hz0.1
                  obtain ⟨_, rfl⟩ := hz0
                  have hn0 : news' = [] := List.eq_nil_of_length_eq_zero (by rw [← q1.1]; simpa using q2)
                  have hnn : n = 0 ∧ old' = [] := by
                    rw [hsn] at d3
                    rcases d3.2 with ⟨_, hn⟩ | ⟨g, cap, cur, he1, _⟩
                    · exact ⟨hn, List.eq_nil_of_length_eq_zero (by have := d3.1; rw [hn] at this; simpa using this)⟩
                    · simp at he1
                  refine ⟨nl, w, ?_, ⟨[], ?_, ?_⟩, ⟨rfl, rfl, rfl, Nat.le_refl _, fun _ _ _ => rfl⟩, by simp [hsn], .inl (by rw [hsn]), fun _ => ⟨rfl, rfl⟩⟩
                  · rw [hsn]
                    simp [Builtin.append_, run_underlying (elem_und he), sizeOf, typeInfo, hi, Builtin.lenOf, Builtin.firstCells, loadCells, loadCellsFrom]
                  · have : news = [] := List.eq_nil_of_length_eq_zero (by simpa using q2)
                    rw [this]; exact .nil _
                  · rw [hnn.1, hnn.2]; exact World.ownsRow_nil w 0 e (sz + 1)
                · obtain ⟨v', w', r1, r2, r3, r4, r5⟩ := run_append_own_at (P := P) w 0 t' ty e i z (sz + 1) by' (elem_und he) hi hiz his hib hzs (by omega) s' n old' d3 a m c news' (by rw [← q1.1]; exact q2) q3 hone' hmax hbytes (Nat.zero_le _)
                  exact ⟨v', w', r1, ⟨news', q1, r2⟩, r3, r4, r5, fun hh => absurd hh hz0⟩
            obtain ⟨v', w', r1, ⟨news', r2, r3⟩, r4, r5, r6, r7⟩ := hbig
            split at ha
            · rename_i hz0
              cases ha
              obtain ⟨rfl, rfl⟩ := r7 hz0
              exact ⟨φ, _, _, r1, .nils, h, Phi.le_refl _, ⟨fun _ _ => rfl, Nat.le_refl _, fun _ _ _ => rfl, fun id M hM => .inl hM⟩, Nat.le_refl _⟩
            · rename_i hz0
              cases ha
              rw [d4] at r4 r6
              obtain ⟨φ', p1, p2, p3, p4⟩ := h.appended (k := k) (L := L) (fun id hid => ⟨hw id hid, d1 id hid⟩) hsz (d2.append r2) r3 (fun e1 => hz0 ⟨d5.1 (r5.1 e1).1, (r5.1 e1).2⟩) r4 r6
              exact ⟨φ', v', w', r1, p1, p2, p3, p4, by simp [length_killO]⟩
          · cases ha
        · cases ha
      · cases ha
    · cases ha
  · cases ha

end
end Go.Proofs.YtpoedfmkiiijnaaAm
