/- Texts of this repo, one behind the other (Bld1 Bld2 Bld3). Plain lemmas and walks. -/
import Derived.Test.YtpoedfmkiiijnaaDoorBld0
import Derived.Test.YtpoedfmkiiijnaaDoorShf
import Derived.Test.YtpoedfmkiiijnaaDoorGD
import Derived.Test.YtpoedfmkiiijnaaDoorAp1
namespace Go.Proofs.YtpoedfmkiiijnaaDoor
open Go Go.RowKit Go.Proofs.YtpoedfmkiiijnaaDoorAm
set_option linter.unusedVariables false
set_option linter.unusedSimpArgs false
def c8 (x : UInt8) : List Value := [.int .u8 x.toNat]
abbrev R8 := RP c8
abbrev vs (l : List UInt8) : Value := .string ⟨l.toArray⟩
theorem strCells_mk (l : List UInt8) : Lib.strCells ⟨l.toArray⟩ = l.flatMap c8 := by
 simp only [Lib.strCells]
 induction l with
 | nil => rfl
 | cons x l ih => simp_all [c8]
theorem c8_len (x : UInt8) : (c8 x).length = 1 := rfl
/-- append of a string's bytes onto a slice of bytes of one's own. -/
theorem app_str {P : Program} {t u e : TypeId} (he : elemO P t = some e) (hu : strO P u = true) (hs : szO P e = some 1) (hb : byO P e = some 1) (hz : zeroO P e = some (.int .u8 0)) {H : Heap} {E1 : List Nat} {v : Value} {l s : List UInt8}
  (h1 : RW e 1 R8 H E1 v l) (ho : Own H E1) (hby : l.length + s.length ≤ 140737488355328) :
  ∃ k v' H2 E', apA P H [t, u] v (vs s) = some (k, v', H2) ∧ (∀ i, k = some i → i ∈ E1 ∧ H.live i = true) ∧ H.length ≤ H2.length ∧ (∀ i, i < H.length → i ∉ E1 → H2[i]? = H[i]?) ∧ RW e 1 R8 H2 E' v' (l ++ s) ∧ Own H2 E' ∧ (∀ i, i ∈ E' → H.length ≤ i) ∧ ((l = [] → v = nl) → l ++ s = [] → v' = nl) := by
 have h0 : apA0 P H [t, u] v (vs s) = none := by
  unfold apA0
  simp only [he, hs, hb, hz, srcA]
  cases destA H e 1 v <;> rfl
 have hap : apA P H [t, u] v (vs s) = apS P H [t, u] v (vs s) := by rw [apA, h0]; rfl
 rw [hap]
 unfold apS
 simp only [he, hu, hs, hb, hz, strCells_mk]
 have hsz : (⟨s.toArray⟩ : ByteArray).size = s.length := by simp [ByteArray.size]
 simp only [hsz]
 rcases h1 with ⟨rfl, rfl, rfl⟩ | ⟨id, E', cs, rfl, rfl, hbk, hcs⟩
 ·simp only [destA, Nat.zero_add, List.nil_append]
  simp only [List.length_nil, Nat.zero_add] at hby
  rw [if_pos hby]
  by_cases hs0 : s.length = 0
  ·have : s = [] := List.length_eq_zero_iff.1 hs0
   subst this
   exact ⟨none, nl, H, [], by simp, fun i h => (by cases h), Nat.le_refl _, fun _ _ _ => rfl, .inl ⟨rfl, rfl, rfl⟩, ⟨List.nodup_nil, fun i hi => by simp at hi⟩, fun i hi => by simp at hi, fun _ _ => rfl⟩
  ·rw [if_neg (by simpa using hs0)]
   refine ⟨none, _, _, [H.length], rfl, fun i h => (by cases h), by simp [killO], fun i hi _ => by simp [killO, List.getElem?_append_left hi], .inr ⟨H.length, [], _, rfl, rfl, by simp [killO], RCs.plain c8_len _ _⟩, ⟨by simp, fun i hi => ?_⟩, fun i hi => by simp at hi; omega, fun _ h => absurd (by rw [h]; rfl) hs0⟩
   simp at hi; subst hi; unfold Heap.rwOk; simp [killO]
 ·obtain ⟨rfl, rfl⟩ := hcs.plainE
  have hlen : (l.flatMap c8).length = l.length * 1 := flatMap_len c8_len l
  have hlt := lt_of_get hbk
  simp only [destA, hbk, hlen, and_self, if_true]
  rw [if_pos hby, if_neg (by simp)]
  have hk1 : (H.kill id).length = H.length := Heap.length_kill _ _
  refine ⟨some id, _, _, [H.length], rfl, fun i h => by cases h; exact ⟨by simp, by unfold Heap.live; rw [hbk]⟩, by simp [killO, hk1], fun i hi hn => ?_, .inr ⟨H.length, [], l.flatMap c8 ++ s.flatMap c8, by rw [List.length_append], rfl, ?_, ?_⟩, ⟨by simp, fun i hi => ?_⟩, fun i hi => by simp at hi; omega, fun h1 h2 => by have := h1 (List.append_eq_nil_iff.1 h2).1; simp at this⟩
  ·simp only [killO]
   rw [List.getElem?_append_left (by rw [hk1]; exact hi), Heap.get_kill, if_neg (fun e => hn (by simp [e]))]
  ·simp only [killO]
   rw [List.getElem?_append_right (by rw [hk1]; exact Nat.le_refl _), hk1]; simp
  ·rw [← List.flatMap_append]; exact RCs.plain c8_len _ _
  ·simp at hi; subst hi; unfold Heap.rwOk; simp only [killO]
   rw [List.getElem?_append_right (by rw [hk1]; exact Nat.le_refl _), hk1]; simp
/-- A callee that leaves the old blocks as they were. -/
theorem AC.of_keep {P : Program} {f : FuncId} {args : List Value} {H : Heap} {v : Value} (hok : fnOk P f = true) (hv : plainV v = true) (ha : allPlain args = true)
  (h : ∀ B0 w, B0 ≤ w.heap.size → GOk P B0 w → Calls P f args.toArray w fun e w' => e = .returned v ∧ StrW w w' none) : AC P f args H v H [] := by
 refine ⟨hok, fun B0 φ w args' hr hB hG hargs => ?_⟩
 obtain rfl : args' = args := by
  have hp := ha
  simp only [allPlain, List.all_eq_true] at hp
  refine List.ext_getElem? fun i => ?_
  rcases Nat.lt_or_ge i args.length with hi | hi
  ·have hi' : i < args'.length := by rw [← hargs.1]; exact hi
   have := hargs.2 i args[i] args'[i] (by simp [hi]) (by simp [hi'])
   rw [List.getElem?_eq_getElem hi, List.getElem?_eq_getElem hi', VR.plain_eq (hp _ (List.getElem_mem hi)) this]
  ·rw [List.getElem?_eq_none hi, List.getElem?_eq_none (by rw [← hargs.1]; exact hi)]
 refine (h B0 w hB hG).mono ?_
 rintro e w' ⟨rfl, k⟩
 exact ⟨φ, v, rfl, plainV_VR hv, ⟨hr.grow k.size fun q hq => k.keep q hq (by simp), hB, hG.on fun q hq => k.keep q (by omega) (by simp), Nat.le_refl _, hr.dom, fun _ _ => rfl, fun id L hi hL => absurd (hr.dom id L hL) (by omega), k.os, k.tape, k.output, k.size, fun q hq _ => k.keep q hq (by simp)⟩⟩
theorem itoa_ac {H : Heap} (n : Int) (h0 : -9223372036854775808 ≤ n) (h1 : n ≤ 9223372036854775807) : AC Tryd.prog 22 [iv n] H (vs (Lib.itoa n)) H [] := by
 refine AC.of_keep (by kernel_rfl) rfl rfl fun B0 w hB hG => ?_
 refine (Any.strconv_Itoa Tryd.laysItoa n h0 h1 w (hG.here (by kernel_rfl))).mono ?_
 rintro e w' ⟨rfl, k, os, rfl⟩
 exact ⟨rfl, ⟨rfl, rfl, rfl, by simp [Sort.grow], fun q hq _ => by simp [Sort.grow, World.drewN, Array.getElem?_append_left hq]⟩⟩
end Go.Proofs.YtpoedfmkiiijnaaDoor
namespace Go.Proofs.YtpoedfmkiiijnaaDoorAm
open Go Go.RowKit
/-- A block of the abstract heap, in the world. -/
theorem HR.blk {P : Program} {B0 : Nat} {φ : Phi} {H : Heap} {w : World} (h : HR P B0 φ H w) {id : Nat} {L : Go.Proofs.YtpoedfmkiiijnaaDoorAm.Loc} {b : Blk} (hL : φ id = some L) (hb : H[id]? = some b) (hl : b.live = true) (hr : b.rw = true) {sz : Nat} (hsz : szO P b.ty = some sz) :
  L.rw = true ∧ L.base = 0 ∧ B0 ≤ L.blk ∧ ∃ cur, w.heap[L.blk]? = some (.cells cur b.ty (0, 0)) ∧ cur.size = L.cap * sz ∧ b.cells.length ≤ cur.size ∧ L.cap ≤ maxLen ∧ ∀ (j : Nat) (x : Value), b.cells[j]? = some x → ∃ y, VR φ x y ∧ cur[j]? = some y := by
 have hLr := h.flag id L b hL hb hr
 obtain ⟨r1, r2, cur, sz', r3, r4, r5, r6, r7⟩ := h.row id L b hL hLr hb hl
 rw [hsz] at r3; cases r3
 refine ⟨hLr, r1, r2, cur, r4, r5, r6, r7, fun j x hx => ?_⟩
 obtain ⟨y, q1, q2⟩ := h.cell id L j x hL (by simp [Heap.cell, hb, hl, hx])
 rw [r1, Nat.zero_add] at q2
 rw [cell_of_row _ _ _ _ _ _ r4] at q2
 exact ⟨y, q1, q2⟩
end Go.Proofs.YtpoedfmkiiijnaaDoorAm
namespace Go.Proofs.YtpoedfmkiiijnaaDoor
open Go Go.RowKit Go.Proofs.YtpoedfmkiiijnaaDoorAm
set_option linter.unusedVariables false
set_option linter.unusedSimpArgs false
/-- A builder's block X: it holds the bytes l, in a block of its own. -/
def BS (H : Heap) (X : Nat) (F : List Nat) (l : List UInt8) : Prop :=
 ∃ x0 x1, H[X]? = some ⟨66, [x0, x1], true, true⟩ ∧ (x0 = .pointer none ∨ x0 = pt X 0) ∧ RW 5 1 R8 H F x1 l ∧ Own H F ∧ X ∉ F ∧ (l = [] → x1 = nl)
theorem BS.fr {H H' : Heap} {X : Nat} {F : List Nat} {l : List UInt8} (h : BS H X F l) (ha : ∀ i, i = X ∨ i ∈ F → H'[i]? = H[i]?) : BS H' X F l := by
 obtain ⟨x0, x1, h1, h2, h3, h4, h5⟩ := h
 exact ⟨x0, x1, by rw [ha X (.inl rfl)]; exact h1, h2, h3.fr (RP.frm _) fun i hi _ => ha i (.inr hi), h4.fr fun i hi => ha i (.inr hi), h5⟩
theorem BS.lt {H : Heap} {X : Nat} {F : List Nat} {l : List UInt8} (h : BS H X F l) : X < H.length ∧ ∀ i, i ∈ F → i < H.length := by
 obtain ⟨x0, x1, h1, h2, h3, h4, h5⟩ := h
 exact ⟨lt_of_get h1, h3.bd (RP.frm _)⟩
theorem copyCheck_ac {H : Heap} {X : Nat} {x0 x1 : Value} (hX : H[X]? = some ⟨66, [x0, x1], true, true⟩) (h0 : x0 = .pointer none ∨ x0 = pt X 0) : AC Tryd.prog 38 [pt X 0] H uV (H.put X 0 (pt X 0)) [X] := by
 refine ⟨by kernel_rfl, fun B0 φ w args' hr hB hG hargs => ?_⟩
 obtain ⟨y, ds, rfl, h1, h2⟩ := hargs.inv
 obtain rfl := h2.inv_nil
 cases h1 with
 | @ptr _ _ L hL =>
  obtain ⟨hLr, hbase, hBL, cur, hcur, hcs, hcl, hcm, hcell⟩ := hr.blk hL hX rfl rfl sz_66
  have hi : Inv Tryd.prog B0 H.length [X] φ w φ H w := Inv.init hr hB hG
  have hput := hi.put (id := X) (j := 0) (x := pt X 0) (y := .pointer (some ⟨L.blk, L.base + 0, none⟩)) hL (.inr (by simp)) (by unfold Heap.rwOk; simp [hX]) (u := x0) (by simp [Heap.cell, hX]) (.ptr hL) rfl
  obtain ⟨y0, hy0, hc0⟩ := hcell 0 x0 rfl
  rw [hbase] at hput ⊢
  simp only [Nat.zero_add] at hput ⊢
  have hc : w.cell? ⟨L.blk, 0, none⟩ = some y0 := by rw [cell_of_row _ _ _ _ _ _ hcur]; exact hc0
  rcases h0 with rfl | rfl
  ·cases hy0
   refine (copyCheck_fresh L.blk w hc L.cap (by simp at hcl; omega) (by simp [World.shape?, hcur, hcs]) (Lib.frozen_of_heap hcur 0)).mono ?_
   rintro e w' ⟨rfl, rfl⟩
   exact ⟨φ, uV, rfl, uV_VR φ, hput.1⟩
  ·have hsame : H.put X 0 (pt X 0) = H := by
    refine List.ext_getElem? fun i => ?_
    rw [Heap.get_put]
    split
    ·rename_i e; subst e; rw [hX]; rfl
    ·rfl
   cases hy0 with
   | @ptr _ _ L' hL' =>
    rw [hL] at hL'; cases hL'
    rw [hbase] at hc
    simp only [Nat.zero_add] at hc
    refine (copyCheck_used L.blk w hc).mono ?_
    rintro e w' ⟨rfl, rfl⟩
    exact ⟨φ, uV, rfl, uV_VR φ, by rw [hsame]; exact hi⟩
theorem bString_ac {H : Heap} {X : Nat} {F : List Nat} {l : List UInt8} (h : BS H X F l) : ∃ H', AC Tryd.prog 25 [pt X 0] H (vs l) H' F ∧ H'.length = H.length ∧ ∀ i, i ∉ F → H'[i]? = H[i]? := by
 obtain ⟨x0, x1, hX, h0, h1, h2, h3, h4⟩ := h
 rcases h1 with ⟨rfl, rfl, rfl⟩ | ⟨id, E', cs, rfl, rfl, hbk, hcs⟩
 ·refine ⟨H, ⟨by kernel_rfl, fun B0 φ w args' hr hB hG hargs => ?_⟩, rfl, fun _ _ => rfl⟩
  obtain ⟨y, ds, rfl, k1, k2⟩ := hargs.inv
  obtain rfl := k2.inv_nil
  cases k1 with
  | @ptr _ _ L hL =>
   obtain ⟨hLr, hbase, hBL, cur, hcur, hcs, hcl, hcm, hcell⟩ := hr.blk hL hX rfl rfl sz_66
   obtain ⟨y1, hy1, hc1⟩ := hcell 1 nl rfl
   cases hy1
   rw [hbase]
   refine (bString_none (L.blk) w (by rw [cell_of_row _ _ _ _ _ _ hcur]; exact hc1)).mono ?_
   rintro e w' ⟨rfl, k⟩
   exact ⟨φ, vs [], rfl, .str _, ⟨hr.grow k.size fun q hq => k.keep q hq (by simp), hB, hG.on fun q hq => k.keep q (by omega) (by simp), Nat.le_refl _, hr.dom, fun _ _ => rfl, fun id L hi hL => absurd (hr.dom id L hL) (by omega), k.os, k.tape, k.output, k.size, fun q hq _ => k.keep q hq (by simp)⟩⟩
 ·obtain ⟨rfl, rfl⟩ := hcs.plainE
  have hl0 : l ≠ [] := fun e => by have := h4 e; simp at this
  refine ⟨H.kill id, ⟨by kernel_rfl, fun B0 φ w args' hr hB hG hargs => ?_⟩, Heap.length_kill _ _, fun i hi => by rw [Heap.get_kill, if_neg (fun e => hi (by simp [e]))]⟩
  obtain ⟨y, ds, rfl, k1, k2⟩ := hargs.inv
  obtain rfl := k2.inv_nil
  cases k1 with
  | @ptr _ _ L hL =>
   obtain ⟨hLr, hbase, hBL, cur, hcur, hcs, hcl, hcm, hcell⟩ := hr.blk hL hX rfl rfl sz_66
   obtain ⟨y1, hy1, hc1⟩ := hcell 1 _ rfl
   rw [hbase]
   have hcc : w.cell? ⟨L.blk, 1, none⟩ = some y1 := by rw [cell_of_row _ _ _ _ _ _ hcur]; exact hc1
   have hln : ∃ n, n = l.length := ⟨_, rfl⟩
   obtain ⟨n, hln⟩ := hln
   rw [← hln] at hy1
   cases hy1 with
   | @sl0 _ _ a M hM ho => exact absurd rfl ho
   | @slc _ _ _ c M hM hn hc =>
    obtain ⟨hMr, hMb, hBM, cur2, hcur2, hcs2, hcl2, hcm2, hcell2⟩ := hr.blk hM hbk rfl rfl sz_5
    have hcap := hc hMr rfl
    subst hln
    rw [hMb] at hcc
    refine (bString_some L.blk M.blk c cur2 l w hl0 hcc hcur2 hn (by omega) (by omega) fun j x hx => ?_).mono ?_
    ·have hj : (l.flatMap c8)[j]? = some (.int .u8 x.toNat) := by
      rw [← strCells_mk]; simp [Lib.strCells, hx]
     obtain ⟨y, q1, q2⟩ := hcell2 j _ hj
     cases q1; exact q2
    rintro e w' ⟨rfl, k⟩
    have hne : ∀ i N, φ i = some N → Heap.hot (H.kill id) i = true → N.blk ≠ M.blk := fun i N hN hh e => by
     rw [Heap.hot_kill] at hh
     split at hh
     ·cases hh
     ·rename_i hi
      by_cases hNr : N.rw = true
      ·exact hi (hr.inj i id N M hN hM hNr hMr e hh (by unfold Heap.hot; simp [hbk]))
      ·have := hr.ro i N hN (by simpa using hNr); omega
    refine ⟨φ, vs l, rfl, .str _, ⟨(hr.kill id).keep k.size fun i N hN hh hlt => k.keep _ hlt (fun e => hne i N hN hh (Option.some.inj e).symm), hB, hG.on fun q hq => k.keep q (by omega) (fun e => by have := Option.some.inj e; omega), ?_, hr.dom, fun _ _ => rfl, fun i N hi hN => absurd (hr.dom i N hN) (by omega), k.os, k.tape, k.output, k.size, fun q hq hd => k.keep q hq fun e => hd id (by simp) M hM hMr (Option.some.inj e)⟩⟩
    rw [Heap.length_kill]; exact Nat.le_refl _
end Go.Proofs.YtpoedfmkiiijnaaDoor
namespace Go.Proofs.YtpoedfmkiiijnaaDoor
open Go Go.RowKit Go.Proofs.YtpoedfmkiiijnaaDoorAm
set_option linter.unusedVariables false
set_option linter.unusedSimpArgs false
set_option maxRecDepth 10000
set_option maxHeartbeats 4000000
theorem bsz (l : List UInt8) : (⟨l.toArray⟩ : ByteArray).size = l.length := by simp [ByteArray.size]
def B21 : SC := .seq (.reg [⟨some 4, .assign (.const (.int .i64 0)), none, []⟩, ⟨some 5, .assign (.const .nilIface), none, []⟩]) (.seq (.reg [⟨some 6, .move (.tmp 0), none, []⟩, ⟨some 7, .call ⟨.value (.func 38), #[.tmp 6], #[64]⟩, none, []⟩]) (.seq (.reg [⟨some 8, .move (.tmp 0), none, []⟩, ⟨some 9, .move (.tmp 0), none, []⟩, ⟨some 10, .nilCheck (.tmp 9), none, []⟩, ⟨some 11, .fieldAddr 66 (.tmp 10) 1, none, []⟩, ⟨some 12, .load 32 (.tmp 11), none, []⟩, ⟨some 13, .move (.tmp 1), none, []⟩, ⟨some 14, .call ⟨.builtin .append, #[.tmp 12, .tmp 13], #[32, 9]⟩, none, []⟩, ⟨some 15, .nilCheck (.tmp 8), none, []⟩, ⟨some 16, .fieldAddr 66 (.tmp 15) 1, none, []⟩, ⟨none, .store 32 (.tmp 16) (.tmp 14), none, []⟩]) (.seq (.reg [⟨some 17, .move (.tmp 1), none, []⟩, ⟨some 18, .call ⟨.builtin .len, #[.tmp 17], #[9]⟩, none, []⟩, ⟨some 4, .assign (.tmp 18), none, []⟩, ⟨some 5, .assign (.const .nilIface), none, []⟩]) .ret)))
theorem s21 : Tryd.f21.body.bind (stripC 19) = some B21 := by kernel_rfl
theorem wString_ac {H : Heap} {X : Nat} {F : List Nat} {l s : List UInt8} (h : BS H X F l) (hb : l.length + s.length ≤ 140737488355328) :
  ∃ H', AC Tryd.prog 21 [pt X 0, vs s] H (.tuple #[iv s.length, .nilIface]) H' (X :: F) ∧ ∃ F', BS H' X F' (l ++ s) ∧ H.length ≤ H'.length ∧ (∀ i, i < H.length → i ≠ X → i ∉ F → H'[i]? = H[i]?) ∧ ∀ i, i ∈ F' → H.length ≤ i := by
 obtain ⟨x0, x1, hX, h0, h1, h2, h3, h4⟩ := h
 have hXl := lt_of_get hX
 have hX1 : (Heap.put H X 0 (pt X 0))[X]? = some ⟨66, [pt X 0, x1], true, true⟩ := by rw [get_put, hX]; rfl
 have hne : ∀ i, i ≠ X → (Heap.put H X 0 (pt X 0))[i]? = H[i]? := fun i hi => get_put_ne _ _ _ hi
 have g1 : RW 5 1 R8 (Heap.put H X 0 (pt X 0)) F x1 l := h1.fr (RP.frm _) fun i hi _ => hne i (fun e => h3 (e ▸ hi))
 have o1 : Own (Heap.put H X 0 (pt X 0)) F := h2.fr fun i hi => hne i (fun e => h3 (e ▸ hi))
 obtain ⟨k, v', H2, F', e1, e2, e3, e4, e5, e6, e7, e8⟩ := app_str (P := Tryd.prog) (t := 32) (u := 9) (e := 5) (by simp) (by simp) (by simp) (by simp) (by simp) g1 o1 hb
 rw [length_put] at e3 e7
 have hX2 : H2[X]? = some ⟨66, [pt X 0, x1], true, true⟩ := by rw [e4 X (by rw [length_put]; exact hXl) h3]; exact hX1
 have hwr : wrO H.length (X :: F) k := fun i hi => .inr (by simp [(e2 i hi).1])
 have cc := copyCheck_ac hX h0
 have wX : wrL H.length (X :: F) [X] := fun d hd => .inr (by simp at hd; simp [hd])
 have wX' : wr H.length (X :: F) X := .inr (by simp)
 have p1 : CF (Heap.put H X 0 (pt X 0)) X 1 x1 := CF.of hX1 rfl rfl
 have q1 : CF H2 X 1 x1 := CF.of hX2 rfl rfl
 have qr := RF.of hX2
 have hv := e5.rs (by rw [List.length_append]; omega)
 have hone := hv.one
 have hcv := hv.cv
 suffices hs : ∃ v H', AC Tryd.prog 21 [pt X 0, vs s] H v H' (X :: F) ∧ (v = .tuple #[iv s.length, .nilIface] ∧ H' = H2.put X 1 v') by
  obtain ⟨v, H', a1, rfl, rfl⟩ := hs
  have hF : ∀ i, i ≠ X → (H2.put X 1 v')[i]? = H2[i]? := fun i hi => get_put_ne _ _ _ hi
  have hXF : X ∉ F' := fun hh => by have := e7 X hh; omega
  refine ⟨_, a1, F', ⟨pt X 0, v', by rw [get_put, hX2]; rfl, .inr rfl, e5.fr (RP.frm _) fun i hi _ => hF i (fun e => hXF (e ▸ hi)), e6.fr fun i hi => hF i (fun e => hXF (e ▸ hi)), hXF, e8 h4⟩, by rw [length_put]; exact e3, fun i hi hx hn => ?_, e7⟩
  rw [hF i hx, e4 i (by rw [length_put]; exact hi) hn, hne i hx]
 refine AC.of_bodyS (N := 19) Tryd.func21 s21 (by kernel_rfl) rfl rfl (by simp) ?_; unfold B21
 repeat (first | refine sA ?_ | refine sB ?_ | refine sC ?_ | refine sD ?_ | refine sE rfl ?_ | refine sF rfl ?_ | refine sG rfl ?_ | (refine sk_reg fun K hK => ?_; simp [p1.s, q1.s, qr.s, e1, hwr, wX, wX', bsz, hone, hcv]; (repeat ((first | refine AskX.go (cc) ?_); simp [p1.s, q1.s, qr.s, e1, hwr, wX, wX', bsz, hone, hcv])); refine hK _ ?_; clear hK K))
 refine sk_ret ?_; simp
end Go.Proofs.YtpoedfmkiiijnaaDoor
