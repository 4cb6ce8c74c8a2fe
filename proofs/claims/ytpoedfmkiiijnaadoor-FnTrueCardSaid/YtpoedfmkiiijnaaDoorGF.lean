/- Texts of this repo, one behind the other (Beg Bk1 Bk2). Plain lemmas and walks. -/
import Derived.Test.YtpoedfmkiiijnaaDoorGD
import Derived.Test.YtpoedfmkiiijnaaDoorGC
namespace Go.Proofs.YtpoedfmkiiijnaaDoor
open Go Go.RowKit Go.Proofs.YtpoedfmkiiijnaaDoorAm
set_option linter.unusedVariables false
set_option linter.unusedSimpArgs false
set_option maxRecDepth 10000
set_option maxHeartbeats 8000000

def B23 : SC := .seq (.reg [⟨some 6, .assign (.const (.bool false)), none, []⟩]) (.seq (.reg [⟨some 7, .move (.tmp 0), none, []⟩, ⟨some 8, .move (.tmp 1), none, []⟩, ⟨some 9, .binOp .geq 3 (.tmp 7) (.tmp 8) 3, none, []⟩, ⟨some 10, .move (.tmp 9), none, []⟩, ⟨some 11, .move (.tmp 0), some (10, true), []⟩, ⟨some 12, .move (.tmp 2), some (10, true), []⟩, ⟨some 13, .binOp .leq 3 (.tmp 11) (.tmp 12) 3, some (10, true), []⟩, ⟨some 14, .pick (.tmp 10) (.tmp 13) (.const (.bool false)), none, []⟩, ⟨some 6, .assign (.tmp 14), none, []⟩]) .ret)
theorem s23 : Tryd.f23.body.bind (stripC 15) = some B23 := by kernel_rfl
theorem in_ac {H : Heap} (x a b : Int) : AC Tryd.prog 23 [iv x, iv a, iv b] H (.bool (inB x a b)) H [] := by
 refine AC.of_pureS (N := 15) Tryd.func23 s23 (by kernel_rfl) rfl rfl (by simp) rfl ?_; unfold B23
 by_cases h1 : a ≤ x <;> by_cases h2 : x ≤ b <;> (repeat (first | refine sA ?_ | refine sB ?_ | refine sC ?_ | refine sD ?_ | refine sE rfl ?_ | refine sF rfl ?_ | refine sG rfl ?_ | (refine sk_reg fun K hK => ?_; simp [h1, h2]; refine hK _ ?_; clear hK K))) <;> (refine sk_ret ?_) <;> simp [inB, h1, h2]
def B53 : SC := .seq (.reg [⟨some 6, .assign (.const (.bool false)), none, []⟩]) (.seq (.reg [⟨some 7, .move (.tmp 0), none, []⟩, ⟨some 8, .move (.tmp 1), none, []⟩, ⟨some 9, .binOp .geq 3 (.tmp 7) (.tmp 8) 3, none, []⟩, ⟨some 10, .move (.tmp 9), none, []⟩, ⟨some 11, .move (.tmp 0), some (10, true), []⟩, ⟨some 12, .move (.tmp 2), some (10, true), []⟩, ⟨some 13, .binOp .leq 3 (.tmp 11) (.tmp 12) 3, some (10, true), []⟩, ⟨some 14, .pick (.tmp 10) (.tmp 13) (.const (.bool false)), none, []⟩, ⟨some 6, .assign (.tmp 14), none, []⟩]) .ret)
theorem s53 : Tryd.f53.body.bind (stripC 15) = some B53 := by kernel_rfl
theorem l1in_ac {H : Heap} (x a b : Int) : AC Tryd.prog 53 [iv x, iv a, iv b] H (.bool (inB x a b)) H [] := by
 refine AC.of_pureS (N := 15) Tryd.func53 s53 (by kernel_rfl) rfl rfl (by simp) rfl ?_; unfold B53
 by_cases h1 : a ≤ x <;> by_cases h2 : x ≤ b <;> (repeat (first | refine sA ?_ | refine sB ?_ | refine sC ?_ | refine sD ?_ | refine sE rfl ?_ | refine sF rfl ?_ | refine sG rfl ?_ | (refine sk_reg fun K hK => ?_; simp [h1, h2]; refine hK _ ?_; clear hK K))) <;> (refine sk_ret ?_) <;> simp [inB, h1, h2]

/-- The loop of Begin: the book in its block, with so many lines. -/
structure BegI (H : Heap) (s : Int) (k : Nat) (H1 : Heap) (vl : Value) (E : List Nat) : Prop where
 len : H.length + 2 ≤ H1.length
 low : ∀ i, i < H.length → H1[i]? = H[i]?
 b4 : H1[H.length]? = some ⟨39, [.bool false, iv 0, nl], true, true⟩
 b5 : H1[H.length + 1]? = some ⟨39, [.bool true, iv s, vl], true, true⟩
 rep : RW 50 4 RLn H1 E vl (List.replicate k line0)
 own : Own H1 E
 new : ∀ e, e ∈ E → H.length + 2 ≤ e
theorem begStep {H H1 : Heap} {s : Int} {k : Nat} {vl : Value} {E : List Nat} (h : BegI H s k H1 vl E) (hk : k < 1000) : ∃ k' v' H2 E',
  apA Tryd.prog (H1 ++ [⟨88, [iv 0, iv 0], true, true⟩, ⟨50, [iv 0, nl, sl H1.length 0 1, iv (-1)], true, true⟩]) [37, 37] vl (sl (H1.length + 1) 0 1) = some (k', v', H2) ∧ wrO H.length [] k' ∧
  Heap.rwOk H2 (H.length + 1) = true ∧ Heap.cell H2 (H.length + 1) 2 = some vl ∧ BegI H s (k + 1) (H2.put (H.length + 1) 2 v') v' E' := by
 have hln : RLn (H1 ++ [⟨88, [iv 0, iv 0], true, true⟩, ⟨50, [iv 0, nl, sl H1.length 0 1, iv (-1)], true, true⟩]) [H1.length] line0 [iv 0, nl, sl H1.length 0 1, iv (-1)] :=
  ⟨[], [H1.length], nl, sl H1.length 0 1, rfl, rfl, ⟨by simp [line0], .inl ⟨.inl rfl, rfl, rfl⟩⟩, ⟨by simp [line0], .inr ⟨H1.length, 0, [], 88, true, [], [iv 0, iv 0], [], rfl, rfl, by simp, rfl, [], [], [iv 0, iv 0], [], rfl, rfl, rfl, ⟨rfl, rfl⟩, rfl, rfl⟩⟩⟩
 have hnE : ∀ i, i ∈ E → i < H1.length := h.rep.bd RLn.frm
 obtain ⟨k', v', H2, E', e1, e2, e3, e4, e5, e6, e7, e8⟩ := apA_RW (P := Tryd.prog) (t := 37) (e := 50) (sz := 3) (by' := 64) (z := .agg #[iv 0, nl, nl, iv 0]) (by simp) (by simp) (by simp) (by simp) rfl RLn.frm (h.rep.ext RLn.frm (L := [⟨88, [iv 0, iv 0], true, true⟩, ⟨50, [iv 0, nl, sl H1.length 0 1, iv (-1)], true, true⟩])) (w := sl (H1.length + 1) 0 1) (ys := [line0]) (news := [iv 0, nl, sl H1.length 0 1, iv (-1)])
  (by simp [srcA, ldC, cell_at, cell_cs, cell_c0]) ⟨[H1.length], [], _, [], rfl, rfl, rfl, hln, rfl, rfl⟩ rfl h.own.1 (by simp) (fun i hi hj => by have := hnE i hi; simp at hj; omega) (by simp; omega) (by simp [maxLen]; omega)
 have hp : ∀ i, i < H.length + 2 → H2[i]? = H1[i]? := fun i hi => by
  have := h.len
  rw [e4 i (by simp; omega) fun hh => by have := h.new i hh; omega, List.getElem?_append_left (by omega)]
 have hE'new : ∀ e, e ∈ E' → H.length + 2 ≤ e := fun e he => by
  have := h.len
  rcases e7 e he with ⟨h1 | h1, _⟩ | ⟨h1, _⟩
  ·exact h.new e h1
  ·simp at h1; omega
  ·simp at h1; omega
 have hb5 : H2[H.length + 1]? = some ⟨39, [.bool true, iv s, vl], true, true⟩ := by rw [hp _ (by omega), h.b5]
 have hput : ∀ i, i ≠ H.length + 1 → (H2.put (H.length + 1) 2 v')[i]? = H2[i]? := fun i hi => get_put_ne H2 2 v' hi
 refine ⟨k', v', H2, E', e1, fun i hi => .inl (by have := h.new i (e2 i hi).1; omega), by unfold Heap.rwOk; rw [hb5]; rfl, by unfold Heap.cell; rw [hb5]; rfl, ⟨?_, ?_, ?_, ?_, ?_, ?_, hE'new⟩⟩
 ·have := h.len; rw [length_put]; simp at e3; omega
 ·intro i hi; rw [hput i (by omega), hp i (by omega), h.low i hi]
 ·rw [hput _ (by omega), hp _ (by omega), h.b4]
 ·rw [get_put, hb5]; rfl
 ·have := e5.fr RLn.frm (H' := H2.put (H.length + 1) 2 v') fun i hi _ => hput i (by have := hE'new i hi; omega)
  rwa [show List.replicate k line0 ++ [line0] = List.replicate (k + 1) line0 from List.replicate_succ'.symm] at this
 ·refine ⟨e6, fun i hi => ?_⟩
  rw [rwOk_put]
  rcases e7 i hi with ⟨h1 | h1, h2, h3⟩ | ⟨h1, h2⟩
  ·have := h.own.2 i h1
   unfold Heap.rwOk at this ⊢
   rw [h3, List.getElem?_append_left (hnE i h1)]; exact this
  ·simp at h1; subst h1
   unfold Heap.rwOk
   rw [h3]; simp
  ·exact h2

def B52 : SC := .seq (.reg [⟨some 4, .alloc 39, none, []⟩]) (.seq (.seq (.reg [⟨some 7, .move (.tmp 0), none, []⟩, ⟨some 8, .call ⟨.value (.func 53), #[.tmp 7, .const (.int .i64 1), .const (.int .i64 200)], #[3, 3, 3]⟩, none, []⟩, ⟨some 9, .unOp .not 4 (.tmp 8), none, []⟩, ⟨some 10, .move (.tmp 9), none, []⟩, ⟨some 11, .move (.tmp 1), some (10, false), []⟩, ⟨some 12, .call ⟨.value (.func 53), #[.tmp 11, .const (.int .i64 0), .const (.int .i64 20)], #[3, 3, 3]⟩, some (10, false), []⟩, ⟨some 13, .unOp .not 4 (.tmp 12), some (10, false), []⟩, ⟨some 14, .pick (.tmp 10) (.const (.bool true)) (.tmp 13), none, []⟩]) (.cond (.tmp 14) (.seq (.reg [⟨some 15, .build 39 #[], none, []⟩, ⟨none, .store 39 (.tmp 4) (.tmp 15), none, []⟩]) .ret) .skip)) (.seq (.reg [⟨some 16, .move (.tmp 0), none, []⟩, ⟨some 17, .build 39 #[(0, (.const (.bool true))), (1, (.tmp 16))], none, []⟩, ⟨some 5, .alloc 39, none, []⟩, ⟨none, .store 39 (.tmp 5) (.tmp 17), none, []⟩]) (.seq (.seq (.reg [⟨some 6, .assign (.const (.int .i64 0)), none, []⟩]) (.block 0 (.loop (.seq (.seq (.reg [⟨some 18, .move (.tmp 6), none, []⟩, ⟨some 19, .move (.tmp 1), none, []⟩, ⟨some 20, .binOp .lss 3 (.tmp 18) (.tmp 19) 3, none, []⟩]) (.cond (.tmp 20) .skip (.exit 0))) (.seq (.block 1 (.reg [⟨some 23, .fieldAddr 39 (.tmp 5) 2, none, []⟩, ⟨some 24, .load 37 (.tmp 23), none, []⟩, ⟨some 25, .build 88 #[], none, []⟩, ⟨some 26, .buildSlice 48 1 #[(0, (.tmp 25))], none, []⟩, ⟨some 27, .build 50 #[(2, (.tmp 26)), (3, (.const (.int .i64 (-1))))], none, []⟩, ⟨some 28, .buildSlice 37 1 #[(0, (.tmp 27))], none, []⟩, ⟨some 29, .call ⟨.builtin .append, #[.tmp 24, .tmp 28], #[37, 37]⟩, none, []⟩, ⟨some 30, .fieldAddr 39 (.tmp 5) 2, none, []⟩, ⟨none, .store 37 (.tmp 30) (.tmp 29), none, []⟩])) (.reg [⟨some 21, .move (.tmp 6), none, []⟩, ⟨some 22, .binOp .add 3 (.tmp 21) (.const (.int .i64 1)) 3, none, []⟩, ⟨some 6, .assign (.tmp 22), none, []⟩])))))) (.seq (.reg [⟨some 31, .load 39 (.tmp 5), none, []⟩, ⟨none, .store 39 (.tmp 4) (.tmp 31), none, []⟩]) .ret))))
theorem s52 : Tryd.f52.body.bind (stripC 32) = some B52 := by kernel_rfl
theorem specBegin_mk {H : Heap} (s t : Int) : Mkr Tryd.prog 52 [iv s, iv t] H fun H' E v => ∃ cs, v = .agg cs.toArray ∧ RBk H' E (beginB s t) cs := by
 refine Mkr.of_bodyS (N := 32) Tryd.func52 s52 (by kernel_rfl) rfl rfl (by simp) ?_; unfold B52
 cases h1 : inB s 1 200
 ·repeat (first | refine sA ?_ | refine sB ?_ | refine sC ?_ | refine sD ?_ | refine sE rfl ?_ | refine sF rfl ?_ | refine sG rfl ?_ | (refine sk_reg fun K hK => ?_; simp [h1]; (repeat ((first | refine AskX.go (l1in_ac _ _ _) ?_); simp [h1])); refine hK _ ?_; clear hK K))
  refine sk_ret ?_; simp
  exact ⟨fun i hi => List.getElem?_append_left hi, [], ⟨nl, by simp [beginB, h1, bk0], by simp [beginB, h1, bk0], .inl ⟨.inl rfl, by simp [beginB, h1, bk0], rfl⟩⟩, ⟨List.nodup_nil, fun i hi => by simp at hi⟩, fun i hi => by simp at hi⟩
 cases h2 : inB t 0 20
 ·repeat (first | refine sA ?_ | refine sB ?_ | refine sC ?_ | refine sD ?_ | refine sE rfl ?_ | refine sF rfl ?_ | refine sG rfl ?_ | (refine sk_reg fun K hK => ?_; simp [h1, h2]; (repeat ((first | refine AskX.go (l1in_ac _ _ _) ?_); simp [h1, h2])); refine hK _ ?_; clear hK K))
  refine sk_ret ?_; simp
  exact ⟨fun i hi => List.getElem?_append_left hi, [], ⟨nl, by simp [beginB, h2, bk0], by simp [beginB, h2, bk0], .inl ⟨.inl rfl, by simp [beginB, h2, bk0], rfl⟩⟩, ⟨List.nodup_nil, fun i hi => by simp at hi⟩, fun i hi => by simp at hi⟩
 simp only [inB, Bool.and_eq_true, decide_eq_true_eq] at h2
 obtain ⟨t, rfl⟩ : ∃ n : Nat, t = n := ⟨t.toNat, by omega⟩
 have h2' : inB t 0 20 = true := by simp [inB]; omega
 repeat (first | refine sA ?_ | refine sB ?_ | refine sC ?_ | refine sD ?_ | refine sE rfl ?_ | refine sF rfl ?_ | refine sG rfl ?_ | (refine sk_reg fun K hK => ?_; simp [h1, h2']; (repeat ((first | refine AskX.go (l1in_ac _ _ _) ?_); simp [h1, h2'])); refine hK _ ?_; clear hK K))
 refine sk_loop (fun m ts H' => ∃ (k : Nat) (vl : Value) (E : List Nat), k ≤ t ∧ m = t - k ∧ BegI H s k H' vl E ∧ ts = [(0, iv s), (1, iv t), (4, pt H.length 0), (5, pt (H.length + 1) 0), (6, iv k)]) t _ ?_ ⟨0, nl, [], by omega, rfl, ⟨by simp, fun i hi => List.getElem?_append_left hi, by simp, by simp, .inl ⟨rfl, rfl, rfl⟩, ⟨List.nodup_nil, fun i hi => by simp at hi⟩, fun i hi => by simp at hi⟩, rfl⟩ ?_
 ·simp [subL, getT]
 ·rintro m ts H1 ⟨k, vl, E, hk, rfl, hI, rfl⟩
  by_cases hlt : k < t
  ·obtain ⟨k', v', H2, E', e1, e2, e3, e4, e5⟩ := begStep hI (by omega)
   obtain ⟨a', c', hv'⟩ := e5.rep.form
   rw [List.length_replicate] at hv'
   subst hv'
   have c2 : ∀ L, Heap.cell (H1 ++ L) (H.length + 1) 2 = some vl := fun L => by
    unfold Heap.cell; rw [List.getElem?_append_left (by have := hI.len; omega), hI.b5]; rfl
   have c2' := c2 []
   rw [List.append_nil] at c2'
   have hw := wrap_id (x := (k : Int) + 1) (by omega) (by omega)
   repeat (first | refine sA ?_ | refine sB ?_ | refine sC ?_ | refine sD ?_ | refine sE rfl ?_ | refine sF rfl ?_ | refine sG rfl ?_ | (refine sk_reg fun K hK => ?_; simp [hlt, hw]; refine hK _ ?_; clear hK K))
   refine sk_reg fun K hK => ?_; simp [c2, c2', e1, e2, e3, e4]
   refine hK _ ?_; clear hK K
   repeat (first | refine sA ?_ | refine sB ?_ | refine sC ?_ | refine sD ?_ | refine sE rfl ?_ | refine sF rfl ?_ | refine sG rfl ?_ | (refine sk_reg fun K hK => ?_; simp [hlt, hw]; refine hK _ ?_; clear hK K))
   refine sk_inv ⟨t - (k + 1), _, by omega, ?_, ⟨k + 1, _, E', by omega, rfl, e5, rfl⟩⟩
   simp [subL, getT]
  ·have hk2 : k = t := by omega
   subst hk2
   have hlen := hI.len
   obtain ⟨a', c', hv'⟩ := hI.rep.form
   rw [List.length_replicate] at hv'
   subst hv'
   have c0 : Heap.cell H1 (H.length + 1) 0 = some (.bool true) := by unfold Heap.cell; rw [hI.b5]; rfl
   have c1 : Heap.cell H1 (H.length + 1) 1 = some (iv s) := by unfold Heap.cell; rw [hI.b5]; rfl
   have c2 : Heap.cell H1 (H.length + 1) 2 = some (.slice a' k c') := by unfold Heap.cell; rw [hI.b5]; rfl
   have d0 : Heap.cell H1 H.length 0 = some (.bool false) := by unfold Heap.cell; rw [hI.b4]; rfl
   have d1 : Heap.cell H1 H.length 1 = some (iv 0) := by unfold Heap.cell; rw [hI.b4]; rfl
   have d2 : Heap.cell H1 H.length 2 = some nl := by unfold Heap.cell; rw [hI.b4]; rfl
   have hrw : Heap.rwOk H1 H.length = true := by unfold Heap.rwOk; rw [hI.b4]; rfl
   repeat (first | refine sA ?_ | refine sB ?_ | refine sC ?_ | refine sD ?_ | refine sE rfl ?_ | refine sF rfl ?_ | refine sG rfl ?_ | (refine sk_reg fun K hK => ?_; simp [hlt, c0, c1, c2, d0, d1, d2, hrw]; refine hK _ ?_; clear hK K))
   refine sk_ret ?_; simp [c0, c1, c2, d0, d1, d2]
   have hput : ∀ (i : Nat), i ≠ H.length → (((H1.put H.length 0 (.bool true)).put H.length 1 (iv s)).put H.length 2 (.slice a' k c'))[i]? = H1[i]? := fun i hi => by rw [get_put_ne _ _ _ hi, get_put_ne _ _ _ hi, get_put_ne _ _ _ hi]
   refine ⟨by simp only [length_put]; omega, fun i hi => by rw [hput i (by omega), hI.low i hi], E, ⟨.slice a' k c', ?_, ?_⟩, ⟨hI.own.1, fun i hi => ?_⟩, fun i hi => by have := hI.new i hi; omega⟩
   ·simp [beginB, h1, h2']
   ·simp only [beginB, h1, h2', and_self, if_true, Int.toNat_natCast]
    exact (hI.rep.fr RLn.frm fun i hi _ => hput i (by have := hI.new i hi; omega)).rs (by simp; omega)
   ·simp only [rwOk_put]; exact hI.own.2 i hi
def B44 : SC := .seq (.reg [⟨some 4, .alloc 39, none, []⟩]) (.seq (.seq (.reg [⟨some 6, .move (.tmp 0), none, []⟩, ⟨some 7, .call ⟨.value (.func 23), #[.tmp 6, .const (.int .i64 1), .const (.int .i64 200)], #[3, 3, 3]⟩, none, []⟩, ⟨some 8, .unOp .not 4 (.tmp 7), none, []⟩, ⟨some 9, .move (.tmp 8), none, []⟩, ⟨some 10, .move (.tmp 1), some (9, false), []⟩, ⟨some 11, .call ⟨.value (.func 23), #[.tmp 10, .const (.int .i64 0), .const (.int .i64 20)], #[3, 3, 3]⟩, some (9, false), []⟩, ⟨some 12, .unOp .not 4 (.tmp 11), some (9, false), []⟩, ⟨some 13, .pick (.tmp 9) (.const (.bool true)) (.tmp 12), none, []⟩]) (.cond (.tmp 13) (.seq (.reg [⟨some 14, .build 39 #[], none, []⟩, ⟨none, .store 39 (.tmp 4) (.tmp 14), none, []⟩]) .ret) .skip)) (.seq (.reg [⟨some 15, .move (.tmp 0), none, []⟩, ⟨some 16, .build 39 #[(0, (.const (.bool true))), (1, (.tmp 15))], none, []⟩, ⟨some 5, .alloc 39, none, []⟩, ⟨none, .store 39 (.tmp 5) (.tmp 16), none, []⟩]) (.seq (.seq (.reg [⟨some 17, .move (.tmp 1), none, []⟩, ⟨some 18, .move (.const (.int .i64 0)), none, []⟩]) (.block 0 (.loop (.seq (.reg [⟨some 19, .binOp .lss 3 (.tmp 18) (.tmp 17) 3, none, []⟩]) (.seq (.cond (.tmp 19) .skip (.exit 0)) (.seq (.block 1 (.reg [⟨some 20, .fieldAddr 39 (.tmp 5) 2, none, []⟩, ⟨some 21, .load 37 (.tmp 20), none, []⟩, ⟨some 22, .build 88 #[], none, []⟩, ⟨some 23, .buildSlice 48 1 #[(0, (.tmp 22))], none, []⟩, ⟨some 24, .build 50 #[(2, (.tmp 23)), (3, (.const (.int .i64 (-1))))], none, []⟩, ⟨some 25, .buildSlice 37 1 #[(0, (.tmp 24))], none, []⟩, ⟨some 26, .call ⟨.builtin .append, #[.tmp 21, .tmp 25], #[37, 37]⟩, none, []⟩, ⟨some 27, .fieldAddr 39 (.tmp 5) 2, none, []⟩, ⟨none, .store 37 (.tmp 27) (.tmp 26), none, []⟩])) (.reg [⟨some 28, .binOp .add 3 (.tmp 18) (.const (.int .i64 1)) 3, none, []⟩, ⟨some 18, .move (.tmp 28), none, []⟩]))))))) (.seq (.reg [⟨some 29, .load 39 (.tmp 5), none, []⟩, ⟨none, .store 39 (.tmp 4) (.tmp 29), none, []⟩]) .ret))))
theorem s44 : Tryd.f44.body.bind (stripC 30) = some B44 := by kernel_rfl
theorem implBegin_mk {H : Heap} (s t : Int) : Mkr Tryd.prog 44 [iv s, iv t] H fun H' E v => ∃ cs, v = .agg cs.toArray ∧ RBk H' E (beginB s t) cs := by
 refine Mkr.of_bodyS (N := 30) Tryd.func44 s44 (by kernel_rfl) rfl rfl (by simp) ?_; unfold B44
 cases h1 : inB s 1 200
 ·repeat (first | refine sA ?_ | refine sB ?_ | refine sC ?_ | refine sD ?_ | refine sE rfl ?_ | refine sF rfl ?_ | refine sG rfl ?_ | (refine sk_reg fun K hK => ?_; simp [h1]; (repeat ((first | refine AskX.go (in_ac _ _ _) ?_); simp [h1])); refine hK _ ?_; clear hK K))
  refine sk_ret ?_; simp
  exact ⟨fun i hi => List.getElem?_append_left hi, [], ⟨nl, by simp [beginB, h1, bk0], by simp [beginB, h1, bk0], .inl ⟨.inl rfl, by simp [beginB, h1, bk0], rfl⟩⟩, ⟨List.nodup_nil, fun i hi => by simp at hi⟩, fun i hi => by simp at hi⟩
 cases h2 : inB t 0 20
 ·repeat (first | refine sA ?_ | refine sB ?_ | refine sC ?_ | refine sD ?_ | refine sE rfl ?_ | refine sF rfl ?_ | refine sG rfl ?_ | (refine sk_reg fun K hK => ?_; simp [h1, h2]; (repeat ((first | refine AskX.go (in_ac _ _ _) ?_); simp [h1, h2])); refine hK _ ?_; clear hK K))
  refine sk_ret ?_; simp
  exact ⟨fun i hi => List.getElem?_append_left hi, [], ⟨nl, by simp [beginB, h2, bk0], by simp [beginB, h2, bk0], .inl ⟨.inl rfl, by simp [beginB, h2, bk0], rfl⟩⟩, ⟨List.nodup_nil, fun i hi => by simp at hi⟩, fun i hi => by simp at hi⟩
 simp only [inB, Bool.and_eq_true, decide_eq_true_eq] at h2
 obtain ⟨t, rfl⟩ : ∃ n : Nat, t = n := ⟨t.toNat, by omega⟩
 have h2' : inB t 0 20 = true := by simp [inB]; omega
 repeat (first | refine sA ?_ | refine sB ?_ | refine sC ?_ | refine sD ?_ | refine sE rfl ?_ | refine sF rfl ?_ | refine sG rfl ?_ | (refine sk_reg fun K hK => ?_; simp [h1, h2']; (repeat ((first | refine AskX.go (in_ac _ _ _) ?_); simp [h1, h2'])); refine hK _ ?_; clear hK K))
 refine sk_loop (fun m ts H' => ∃ (k : Nat) (vl : Value) (E : List Nat), k ≤ t ∧ m = t - k ∧ BegI H s k H' vl E ∧ ts = [(0, iv s), (1, iv t), (4, pt H.length 0), (5, pt (H.length + 1) 0), (17, iv t), (18, iv k)]) t _ ?_ ⟨0, nl, [], by omega, rfl, ⟨by simp, fun i hi => List.getElem?_append_left hi, by simp, by simp, .inl ⟨rfl, rfl, rfl⟩, ⟨List.nodup_nil, fun i hi => by simp at hi⟩, fun i hi => by simp at hi⟩, rfl⟩ ?_
 ·simp [subL, getT]
 ·rintro m ts H1 ⟨k, vl, E, hk, rfl, hI, rfl⟩
  by_cases hlt : k < t
  ·obtain ⟨k', v', H2, E', e1, e2, e3, e4, e5⟩ := begStep hI (by omega)
   obtain ⟨a', c', hv'⟩ := e5.rep.form
   rw [List.length_replicate] at hv'
   subst hv'
   have c2 : ∀ L, Heap.cell (H1 ++ L) (H.length + 1) 2 = some vl := fun L => by
    unfold Heap.cell; rw [List.getElem?_append_left (by have := hI.len; omega), hI.b5]; rfl
   have c2' := c2 []
   rw [List.append_nil] at c2'
   have hw := wrap_id (x := (k : Int) + 1) (by omega) (by omega)
   repeat (first | refine sA ?_ | refine sB ?_ | refine sC ?_ | refine sD ?_ | refine sE rfl ?_ | refine sF rfl ?_ | refine sG rfl ?_ | (refine sk_reg fun K hK => ?_; simp [hlt, hw]; refine hK _ ?_; clear hK K))
   refine sk_reg fun K hK => ?_; simp [c2, c2', e1, e2, e3, e4]
   refine hK _ ?_; clear hK K
   repeat (first | refine sA ?_ | refine sB ?_ | refine sC ?_ | refine sD ?_ | refine sE rfl ?_ | refine sF rfl ?_ | refine sG rfl ?_ | (refine sk_reg fun K hK => ?_; simp [hlt, hw]; refine hK _ ?_; clear hK K))
   refine sk_inv ⟨t - (k + 1), _, by omega, ?_, ⟨k + 1, _, E', by omega, rfl, e5, rfl⟩⟩
   simp [subL, getT]
  ·have hk2 : k = t := by omega
   subst hk2
   have hlen := hI.len
   obtain ⟨a', c', hv'⟩ := hI.rep.form
   rw [List.length_replicate] at hv'
   subst hv'
   have c0 : Heap.cell H1 (H.length + 1) 0 = some (.bool true) := by unfold Heap.cell; rw [hI.b5]; rfl
   have c1 : Heap.cell H1 (H.length + 1) 1 = some (iv s) := by unfold Heap.cell; rw [hI.b5]; rfl
   have c2 : Heap.cell H1 (H.length + 1) 2 = some (.slice a' k c') := by unfold Heap.cell; rw [hI.b5]; rfl
   have d0 : Heap.cell H1 H.length 0 = some (.bool false) := by unfold Heap.cell; rw [hI.b4]; rfl
   have d1 : Heap.cell H1 H.length 1 = some (iv 0) := by unfold Heap.cell; rw [hI.b4]; rfl
   have d2 : Heap.cell H1 H.length 2 = some nl := by unfold Heap.cell; rw [hI.b4]; rfl
   have hrw : Heap.rwOk H1 H.length = true := by unfold Heap.rwOk; rw [hI.b4]; rfl
   repeat (first | refine sA ?_ | refine sB ?_ | refine sC ?_ | refine sD ?_ | refine sE rfl ?_ | refine sF rfl ?_ | refine sG rfl ?_ | (refine sk_reg fun K hK => ?_; simp [hlt, c0, c1, c2, d0, d1, d2, hrw]; refine hK _ ?_; clear hK K))
   refine sk_ret ?_; simp [c0, c1, c2, d0, d1, d2]
   have hput : ∀ (i : Nat), i ≠ H.length → (((H1.put H.length 0 (.bool true)).put H.length 1 (iv s)).put H.length 2 (.slice a' k c'))[i]? = H1[i]? := fun i hi => by rw [get_put_ne _ _ _ hi, get_put_ne _ _ _ hi, get_put_ne _ _ _ hi]
   refine ⟨by simp only [length_put]; omega, fun i hi => by rw [hput i (by omega), hI.low i hi], E, ⟨.slice a' k c', ?_, ?_⟩, ⟨hI.own.1, fun i hi => ?_⟩, fun i hi => by have := hI.new i hi; omega⟩
   ·simp [beginB, h1, h2']
   ·simp only [beginB, h1, h2', and_self, if_true, Int.toNat_natCast]
    exact (hI.rep.fr RLn.frm fun i hi _ => hput i (by have := hI.new i hi; omega)).rs (by simp; omega)
   ·simp only [rwOk_put]; exact hI.own.2 i hi
end Go.Proofs.YtpoedfmkiiijnaaDoor
namespace Go.Proofs.YtpoedfmkiiijnaaDoor
open Go Go.RowKit Go.Proofs.YtpoedfmkiiijnaaDoorAm
set_option linter.unusedVariables false
set_option linter.unusedSimpArgs false
set_option maxRecDepth 10000

def B59 : SC := .seq (.reg [⟨some 1, .box 50 (.tmp 0), none, []⟩, ⟨some 2, .assign (.const (.int .i64 0)), none, []⟩]) (.seq (.reg [⟨some 3, .fieldAddr 50 (.tmp 1) 0, none, []⟩, ⟨some 4, .load 3 (.tmp 3), none, []⟩, ⟨some 5, .fieldAddr 50 (.tmp 1) 1, none, []⟩, ⟨some 6, .load 22 (.tmp 5), none, []⟩, ⟨some 7, .call ⟨.builtin .len, #[.tmp 6], #[22]⟩, none, []⟩, ⟨some 8, .binOp .add 3 (.tmp 4) (.tmp 7) 3, none, []⟩, ⟨some 2, .assign (.tmp 8), none, []⟩]) .ret)
theorem s59 : Tryd.f59.body.bind (stripC 9) = some B59 := by kernel_rfl
theorem total_ac {H : Heap} {g d : Int} {n : Nat} {v1 v2 : Value} (h1 : ∃ a c, v1 = .slice a n c) (h2 : v2.oneCell' = true) : AC Tryd.prog 59 [.agg #[iv g, v1, v2, iv d]] H (iv (IntKind.i64.wrap (g + n))) H [] := by
 obtain ⟨a, c, rfl⟩ := h1
 refine AC.of_pureS (N := 9) Tryd.func59 s59 (by kernel_rfl) rfl rfl (by simp) rfl ?_; unfold B59
 repeat (first | refine sA ?_ | refine sB ?_ | refine sC ?_ | refine sD ?_ | refine sE rfl ?_ | refine sF rfl ?_ | refine sG rfl ?_ | (refine sk_reg fun K hK => ?_; simp [h2]; refine hK _ ?_; clear hK K))
 refine sk_ret ?_; simp
def B74 : SC := .seq (.reg [⟨some 1, .box 50 (.tmp 0), none, []⟩, ⟨some 2, .assign (.const (.int .i64 0)), none, []⟩]) (.seq (.reg [⟨some 3, .fieldAddr 50 (.tmp 1) 0, none, []⟩, ⟨some 4, .load 3 (.tmp 3), none, []⟩, ⟨some 5, .fieldAddr 50 (.tmp 1) 1, none, []⟩, ⟨some 6, .load 22 (.tmp 5), none, []⟩, ⟨some 7, .call ⟨.builtin .len, #[.tmp 6], #[22]⟩, none, []⟩, ⟨some 8, .binOp .add 3 (.tmp 4) (.tmp 7) 3, none, []⟩, ⟨some 2, .assign (.tmp 8), none, []⟩]) .ret)
theorem s74 : Tryd.f74.body.bind (stripC 9) = some B74 := by kernel_rfl
theorem l1total_ac {H : Heap} {g d : Int} {n : Nat} {v1 v2 : Value} (h1 : ∃ a c, v1 = .slice a n c) (h2 : v2.oneCell' = true) : AC Tryd.prog 74 [.agg #[iv g, v1, v2, iv d]] H (iv (IntKind.i64.wrap (g + n))) H [] := by
 obtain ⟨a, c, rfl⟩ := h1
 refine AC.of_pureS (N := 9) Tryd.func74 s74 (by kernel_rfl) rfl rfl (by simp) rfl ?_; unfold B74
 repeat (first | refine sA ?_ | refine sB ?_ | refine sC ?_ | refine sD ?_ | refine sE rfl ?_ | refine sF rfl ?_ | refine sG rfl ?_ | (refine sk_reg fun K hK => ?_; simp [h2]; refine hK _ ?_; clear hK K))
 refine sk_ret ?_; simp
theorem maxI_eq (a b : Int) : (if a < b then b else a) = maxI a b := rfl
def B24 : SC := .seq (.reg [⟨some 2, .assign (.const (.int .i64 0)), none, []⟩]) (.seq (.reg [⟨some 3, .assign (.const (.int .i64 0)), none, []⟩]) (.seq (.seq (.reg [⟨some 6, .move (.tmp 0), none, []⟩, ⟨some 7, .call ⟨.builtin .len, #[.tmp 6], #[48]⟩, none, []⟩, ⟨some 8, .move (.const (.int .i64 0)), none, []⟩]) (.block 0 (.loop (.seq (.reg [⟨some 9, .binOp .lss 3 (.tmp 8) (.tmp 7) 3, none, []⟩]) (.seq (.cond (.tmp 9) .skip (.exit 0)) (.seq (.block 1 (.seq (.reg [⟨some 10, .indexAddr 48 (.tmp 6) (.tmp 8), none, []⟩, ⟨some 11, .load 88 (.tmp 10), none, []⟩, ⟨some 5, .alloc 88, none, []⟩, ⟨none, .store 88 (.tmp 5) (.tmp 11), none, []⟩]) (.reg [⟨some 12, .move (.tmp 3), none, []⟩, ⟨some 13, .fieldAddr 88 (.tmp 5) 1, none, []⟩, ⟨some 14, .load 3 (.tmp 13), none, []⟩, ⟨some 15, .call ⟨.builtin .max, #[.tmp 12, .tmp 14], #[3, 3]⟩, none, []⟩, ⟨some 3, .assign (.tmp 15), none, []⟩]))) (.reg [⟨some 16, .binOp .add 3 (.tmp 8) (.const (.int .i64 1)) 3, none, []⟩, ⟨some 8, .move (.tmp 16), none, []⟩]))))))) (.seq (.reg [⟨some 17, .move (.tmp 3), none, []⟩, ⟨some 2, .assign (.tmp 17), none, []⟩]) .ret)))
theorem s24 : Tryd.f24.body.bind (stripC 18) = some B24 := by kernel_rfl
theorem reach_ac {H : Heap} {E : List Nat} {v : Value} {gs : List Gr} (h : RS 2 RGr H E v gs) : AC Tryd.prog 24 [v] H (iv (reachL gs)) H [] := by
 obtain ⟨a1, c1, ha⟩ := h.form
 have hn := h.1
 refine AC.of_pureS (N := 18) Tryd.func24 s24 (by kernel_rfl) rfl rfl (by simp) rfl ?_; unfold B24
 rw [ha]
 repeat (first | refine sA ?_ | refine sB ?_ | refine sC ?_ | refine sD ?_ | refine sE rfl ?_ | refine sF rfl ?_ | refine sG rfl ?_ | (refine sk_reg fun K hK => ?_; simp; refine hK _ ?_; clear hK K))
 rw [← ha]
 refine sk_rng gs.length (fun i => [(3, iv (reachL (gs.take i))), (6, v), (7, iv gs.length), (8, iv i)]) (fun i H1 => Gro H H1) (by simp [subL, getT, ha, reachL]) (by first | exact Gro.refl _ | exact Gro.one _ _) ?_ ?_
 ·intro i H1 hi hg
  obtain ⟨id, o, Ek, cs, hv, hid, _, _, hR, hsz, hc⟩ := (h.gro hg (RP.frm _)).at hi
  obtain ⟨_, rfl⟩ := hR
  have c0 : CF H1 _ _ _ := hc 0 _ rfl
  have c1 : CF H1 _ _ _ := hc 1 _ rfl
  simp only [Nat.add_zero] at c0
  have hw := wrap_id (x := (i : Int) + 1) (by omega) (by omega)
  have hl := hg.len
  repeat (first | refine sA ?_ | refine sB ?_ | refine sC ?_ | refine sD ?_ | refine sE rfl ?_ | refine sF rfl ?_ | refine sG rfl ?_ | (refine sk_reg fun K hK => ?_; simp [hi, hv, c0.s, c1.s, hw, hl]; refine hK _ ?_; clear hK K))
  refine sk_inv ⟨?_, ?_⟩
  ·rw [take_snoc hi, reachL_snoc]; simp [subL, getT, hv, maxI]
  ·exact hg.app _
 ·intro H1 hg
  repeat (first | refine sA ?_ | refine sB ?_ | refine sC ?_ | refine sD ?_ | refine sE rfl ?_ | refine sF rfl ?_ | refine sG rfl ?_ | (refine sk_reg fun K hK => ?_; simp [ha]; refine hK _ ?_; clear hK K))
  refine sk_ret ?_; simp
  exact hg
theorem gt_maxI {a b : Int} : maxI a b = if a < b then b else a := rfl
def B19 : SC := .seq (.reg [⟨some 1, .box 50 (.tmp 0), none, []⟩, ⟨some 2, .assign (.const (.int .i64 0)), none, []⟩]) (.seq (.reg [⟨some 3, .assign (.const (.int .i64 0)), none, []⟩]) (.seq (.seq (.reg [⟨some 6, .fieldAddr 50 (.tmp 1) 2, none, []⟩, ⟨some 7, .load 48 (.tmp 6), none, []⟩, ⟨some 8, .call ⟨.builtin .len, #[.tmp 7], #[48]⟩, none, []⟩, ⟨some 9, .move (.const (.int .i64 0)), none, []⟩]) (.block 0 (.loop (.seq (.reg [⟨some 10, .binOp .lss 3 (.tmp 9) (.tmp 8) 3, none, []⟩]) (.seq (.cond (.tmp 10) .skip (.exit 0)) (.seq (.block 1 (.seq (.reg [⟨some 11, .indexAddr 48 (.tmp 7) (.tmp 9), none, []⟩, ⟨some 12, .load 88 (.tmp 11), none, []⟩, ⟨some 5, .alloc 88, none, []⟩, ⟨none, .store 88 (.tmp 5) (.tmp 12), none, []⟩]) (.seq (.reg [⟨some 13, .fieldAddr 88 (.tmp 5) 1, none, []⟩, ⟨some 14, .load 3 (.tmp 13), none, []⟩, ⟨some 15, .move (.tmp 3), none, []⟩, ⟨some 16, .binOp .gtr 3 (.tmp 14) (.tmp 15) 3, none, []⟩]) (.cond (.tmp 16) (.reg [⟨some 17, .fieldAddr 88 (.tmp 5) 1, none, []⟩, ⟨some 18, .load 3 (.tmp 17), none, []⟩, ⟨some 3, .assign (.tmp 18), none, []⟩]) .skip)))) (.reg [⟨some 19, .binOp .add 3 (.tmp 9) (.const (.int .i64 1)) 3, none, []⟩, ⟨some 9, .move (.tmp 19), none, []⟩]))))))) (.seq (.reg [⟨some 20, .move (.tmp 3), none, []⟩, ⟨some 2, .assign (.tmp 20), none, []⟩]) .ret)))
theorem s19 : Tryd.f19.body.bind (stripC 21) = some B19 := by kernel_rfl
theorem l1most_ac {H : Heap} {E : List Nat} {g d : Int} {v1 v2 : Value} {gs : List Gr} (h1 : ∃ a n c, v1 = .slice a n c) (h : RS 2 RGr H E v2 gs) : AC Tryd.prog 19 [.agg #[iv g, v1, v2, iv d]] H (iv (reachL gs)) H [] := by
 obtain ⟨a0, n0, c00, rfl⟩ := h1
 obtain ⟨a1, c1, ha⟩ := h.form
 have hn := h.1
 refine AC.of_pureS (N := 21) Tryd.func19 s19 (by kernel_rfl) rfl rfl (by simp) rfl ?_; unfold B19
 rw [ha]
 repeat (first | refine sA ?_ | refine sB ?_ | refine sC ?_ | refine sD ?_ | refine sE rfl ?_ | refine sF rfl ?_ | refine sG rfl ?_ | (refine sk_reg fun K hK => ?_; simp; refine hK _ ?_; clear hK K))
 rw [← ha]
 refine sk_rng gs.length (fun i => [(3, iv (reachL (gs.take i))), (7, v2), (8, iv gs.length), (9, iv i)]) (fun i H1 => Gro H H1) (by simp [subL, getT, ha, reachL]) (by first | exact Gro.refl _ | exact Gro.one _ _) ?_ ?_
 ·intro i H1 hi hg
  obtain ⟨id, o, Ek, cs, hv, hid, _, _, hR, hsz, hc⟩ := (h.gro hg (RP.frm _)).at hi
  obtain ⟨_, rfl⟩ := hR
  have c0 : CF H1 _ _ _ := hc 0 _ rfl
  have c1 : CF H1 _ _ _ := hc 1 _ rfl
  simp only [Nat.add_zero] at c0
  have hw := wrap_id (x := (i : Int) + 1) (by omega) (by omega)
  have hl := hg.len
  by_cases hb : reachL (gs.take i) < gs[i].cel
  all_goals
   repeat (first | refine sA ?_ | refine sB ?_ | refine sC ?_ | refine sD ?_ | refine sE rfl ?_ | refine sF rfl ?_ | refine sG rfl ?_ | (refine sk_reg fun K hK => ?_; simp [hi, hv, c0.s, c1.s, hw, hl, hb]; refine hK _ ?_; clear hK K))
   refine sk_inv ⟨?_, hg.app _⟩
   rw [take_snoc hi, reachL_snoc, gt_maxI]; simp [subL, getT, hv, hb]
 ·intro H1 hg
  repeat (first | refine sA ?_ | refine sB ?_ | refine sC ?_ | refine sD ?_ | refine sE rfl ?_ | refine sF rfl ?_ | refine sG rfl ?_ | (refine sk_reg fun K hK => ?_; simp [ha]; refine hK _ ?_; clear hK K))
  refine sk_ret ?_; simp
  exact hg
def B75 : SC := .seq (.reg [⟨some 2, .assign (.const (.int .i64 0)), none, []⟩]) (.seq (.reg [⟨some 3, .assign (.const (.int .i64 0)), none, []⟩]) (.seq (.seq (.reg [⟨some 6, .move (.tmp 0), none, []⟩, ⟨some 7, .call ⟨.builtin .len, #[.tmp 6], #[48]⟩, none, []⟩, ⟨some 8, .move (.const (.int .i64 0)), none, []⟩]) (.block 0 (.loop (.seq (.reg [⟨some 9, .binOp .lss 3 (.tmp 8) (.tmp 7) 3, none, []⟩]) (.seq (.cond (.tmp 9) .skip (.exit 0)) (.seq (.block 1 (.seq (.reg [⟨some 10, .indexAddr 48 (.tmp 6) (.tmp 8), none, []⟩, ⟨some 11, .load 88 (.tmp 10), none, []⟩, ⟨some 5, .alloc 88, none, []⟩, ⟨none, .store 88 (.tmp 5) (.tmp 11), none, []⟩]) (.seq (.reg [⟨some 12, .fieldAddr 88 (.tmp 5) 1, none, []⟩, ⟨some 13, .load 3 (.tmp 12), none, []⟩, ⟨some 14, .move (.tmp 3), none, []⟩, ⟨some 15, .binOp .gtr 3 (.tmp 13) (.tmp 14) 3, none, []⟩]) (.cond (.tmp 15) (.reg [⟨some 16, .fieldAddr 88 (.tmp 5) 1, none, []⟩, ⟨some 17, .load 3 (.tmp 16), none, []⟩, ⟨some 3, .assign (.tmp 17), none, []⟩]) .skip)))) (.reg [⟨some 18, .binOp .add 3 (.tmp 8) (.const (.int .i64 1)) 3, none, []⟩, ⟨some 8, .move (.tmp 18), none, []⟩]))))))) (.seq (.reg [⟨some 19, .move (.tmp 3), none, []⟩, ⟨some 2, .assign (.tmp 19), none, []⟩]) .ret)))
theorem s75 : Tryd.f75.body.bind (stripC 20) = some B75 := by kernel_rfl
theorem l2later_ac {H : Heap} {E : List Nat} {v : Value} {gs : List Gr} (h : RS 2 RGr H E v gs) : AC Tryd.prog 75 [v] H (iv (reachL gs)) H [] := by
 obtain ⟨a1, c1, ha⟩ := h.form
 have hn := h.1
 refine AC.of_pureS (N := 20) Tryd.func75 s75 (by kernel_rfl) rfl rfl (by simp) rfl ?_; unfold B75
 rw [ha]
 repeat (first | refine sA ?_ | refine sB ?_ | refine sC ?_ | refine sD ?_ | refine sE rfl ?_ | refine sF rfl ?_ | refine sG rfl ?_ | (refine sk_reg fun K hK => ?_; simp; refine hK _ ?_; clear hK K))
 rw [← ha]
 refine sk_rng gs.length (fun i => [(3, iv (reachL (gs.take i))), (6, v), (7, iv gs.length), (8, iv i)]) (fun i H1 => Gro H H1) (by simp [subL, getT, ha, reachL]) (by first | exact Gro.refl _ | exact Gro.one _ _) ?_ ?_
 ·intro i H1 hi hg
  obtain ⟨id, o, Ek, cs, hv, hid, _, _, hR, hsz, hc⟩ := (h.gro hg (RP.frm _)).at hi
  obtain ⟨_, rfl⟩ := hR
  have c0 : CF H1 _ _ _ := hc 0 _ rfl
  have c1 : CF H1 _ _ _ := hc 1 _ rfl
  simp only [Nat.add_zero] at c0
  have hw := wrap_id (x := (i : Int) + 1) (by omega) (by omega)
  have hl := hg.len
  by_cases hb : reachL (gs.take i) < gs[i].cel
  all_goals
   repeat (first | refine sA ?_ | refine sB ?_ | refine sC ?_ | refine sD ?_ | refine sE rfl ?_ | refine sF rfl ?_ | refine sG rfl ?_ | (refine sk_reg fun K hK => ?_; simp [hi, hv, c0.s, c1.s, hw, hl, hb]; refine hK _ ?_; clear hK K))
   refine sk_inv ⟨?_, hg.app _⟩
   rw [take_snoc hi, reachL_snoc, gt_maxI]; simp [subL, getT, hv, hb]
 ·intro H1 hg
  repeat (first | refine sA ?_ | refine sB ?_ | refine sC ?_ | refine sD ?_ | refine sE rfl ?_ | refine sF rfl ?_ | refine sG rfl ?_ | (refine sk_reg fun K hK => ?_; simp [ha]; refine hK _ ?_; clear hK K))
  refine sk_ret ?_; simp
  exact hg
def B65 : SC := .seq (.reg [⟨some 4, .assign (.const (.int .i64 0)), none, []⟩]) (.seq (.seq (.reg [⟨some 6, .move (.tmp 0), none, []⟩, ⟨some 7, .call ⟨.builtin .len, #[.tmp 6], #[22]⟩, none, []⟩, ⟨some 8, .move (.const (.int .i64 0)), none, []⟩]) (.block 0 (.loop (.seq (.reg [⟨some 9, .binOp .lss 3 (.tmp 8) (.tmp 7) 3, none, []⟩]) (.seq (.cond (.tmp 9) .skip (.exit 0)) (.seq (.block 1 (.seq (.reg [⟨some 10, .move (.tmp 8), none, []⟩, ⟨some 5, .assign (.tmp 10), none, []⟩]) (.seq (.reg [⟨some 11, .move (.tmp 1), none, []⟩, ⟨some 12, .move (.tmp 0), none, []⟩, ⟨some 13, .move (.tmp 5), none, []⟩, ⟨some 14, .indexAddr 22 (.tmp 12) (.tmp 13), none, []⟩, ⟨some 15, .load 3 (.tmp 14), none, []⟩, ⟨some 16, .binOp .eql 3 (.tmp 11) (.tmp 15) 3, none, []⟩]) (.cond (.tmp 16) (.seq (.reg [⟨some 17, .move (.tmp 5), none, []⟩, ⟨some 4, .assign (.tmp 17), none, []⟩]) .ret) .skip)))) (.reg [⟨some 18, .binOp .add 3 (.tmp 8) (.const (.int .i64 1)) 3, none, []⟩, ⟨some 8, .move (.tmp 18), none, []⟩]))))))) (.seq (.reg [⟨some 4, .assign (.const (.int .i64 (-1))), none, []⟩]) .ret))
theorem s65 : Tryd.f65.body.bind (stripC 19) = some B65 := by kernel_rfl
theorem indexI_ac {H : Heap} {E : List Nat} {v : Value} {xs : List Int} (h : RS 1 RInt H E v xs) (x : Int) : AC Tryd.prog 65 [v, iv x] H (iv (fstI (isI x) xs)) H [] := by
 obtain ⟨a1, c1, ha⟩ := h.form
 have hn := h.1
 refine AC.of_pureS (N := 19) Tryd.func65 s65 (by kernel_rfl) rfl rfl (by simp) rfl ?_; unfold B65
 rw [ha]
 repeat (first | refine sA ?_ | refine sB ?_ | refine sC ?_ | refine sD ?_ | refine sE rfl ?_ | refine sF rfl ?_ | refine sG rfl ?_ | (refine sk_reg fun K hK => ?_; simp; refine hK _ ?_; clear hK K))
 rw [← ha]
 refine sk_rng xs.length (fun i => [(0, v), (1, iv x), (7, iv xs.length), (8, iv i)]) (fun i H1 => Gro H H1 ∧ ∀ j (hj : j < i) (hx : j < xs.length), isI x xs[j] = false) (by simp [subL, getT, ha]) ⟨(by first | exact Gro.refl _ | exact Gro.one _ _), fun j hj => by omega⟩ ?_ ?_
 ·rintro i H1 hi ⟨hg, hpre⟩
  obtain ⟨id, o, Ek, cs, hv, hid, _, _, hR, hsz, hc⟩ := (h.gro hg (RP.frm _)).at hi
  obtain ⟨_, rfl⟩ := hR
  have c0 : CF H1 _ _ _ := hc 0 _ rfl
  simp only [Nat.add_zero, Nat.mul_one] at c0
  have hw := wrap_id (x := (i : Int) + 1) (by omega) (by omega)
  have hl := hg.len
  cases hb : isI x xs[i]
  ·have hb' : ¬ x = xs[i] := by simpa [isI] using hb
   repeat (first | refine sA ?_ | refine sB ?_ | refine sC ?_ | refine sD ?_ | refine sE rfl ?_ | refine sF rfl ?_ | refine sG rfl ?_ | (refine sk_reg fun K hK => ?_; simp [hi, hv, c0.s, hw, hl, hb']; refine hK _ ?_; clear hK K))
   refine sk_inv ⟨?_, hg, fun j hj hx => ?_⟩
   ·simp [subL, getT, hv]
   ·by_cases e : j = i
    ·subst e; exact hb
    ·exact hpre j (by omega) hx
  ·have hb' : x = xs[i] := by simpa [isI] using hb
   have hr := fstI_some hi hb fun j hj => hpre j hj (by omega)
   repeat (first | refine sA ?_ | refine sB ?_ | refine sC ?_ | refine sD ?_ | refine sE rfl ?_ | refine sF rfl ?_ | refine sG rfl ?_ | (refine sk_reg fun K hK => ?_; simp [hi, hv, c0.s, hw, hl, ← hb']; refine hK _ ?_; clear hK K))
   refine sk_ret ?_; simp [hr]
   exact hg
 ·rintro H1 ⟨hg, hpre⟩
  have hr := fstI_none (p := isI x) (xs := xs) fun j hj => hpre j hj hj
  repeat (first | refine sA ?_ | refine sB ?_ | refine sC ?_ | refine sD ?_ | refine sE rfl ?_ | refine sF rfl ?_ | refine sG rfl ?_ | (refine sk_reg fun K hK => ?_; simp [ha]; refine hK _ ?_; clear hK K))
  refine sk_ret ?_; simp [hr]
  exact hg
def B45 : SC := .seq (.reg [⟨some 4, .assign (.const (.bool false)), none, []⟩]) (.seq (.reg [⟨some 5, .move (.tmp 0), none, []⟩, ⟨some 6, .move (.tmp 1), none, []⟩, ⟨some 7, .call ⟨.value (.func 65), #[.tmp 5, .tmp 6], #[22, 3]⟩, none, []⟩, ⟨some 8, .binOp .geq 3 (.tmp 7) (.const (.int .i64 0)) 3, none, []⟩, ⟨some 4, .assign (.tmp 8), none, []⟩]) .ret)
theorem s45 : Tryd.f45.body.bind (stripC 9) = some B45 := by kernel_rfl
theorem containsI_ac {H : Heap} {E : List Nat} {v : Value} {xs : List Int} (h : RS 1 RInt H E v xs) (x : Int) : AC Tryd.prog 45 [v, iv x] H (.bool (decide (x ∈ xs))) H [] := by
 obtain ⟨a1, c1, ha⟩ := h.form
 refine AC.of_pureS (N := 9) Tryd.func45 s45 (by kernel_rfl) rfl rfl (by simp) rfl ?_; unfold B45
 rw [ha]
 have ac := indexI_ac h x
 rw [ha] at ac
 repeat (first | refine sA ?_ | refine sB ?_ | refine sC ?_ | refine sD ?_ | refine sE rfl ?_ | refine sF rfl ?_ | refine sG rfl ?_ | (refine sk_reg fun K hK => ?_; simp; (repeat ((first | refine AskX.go (ac) ?_); simp)); refine hK _ ?_; clear hK K))
 refine sk_ret ?_; simp [contI]
end Go.Proofs.YtpoedfmkiiijnaaDoor
namespace Go.Proofs.YtpoedfmkiiijnaaDoor
open Go Go.RowKit Go.Proofs.YtpoedfmkiiijnaaDoorAm
set_option linter.unusedVariables false
set_option linter.unusedSimpArgs false
set_option maxRecDepth 10000
set_option maxHeartbeats 4000000

def B35 : SC := .seq (.reg [⟨some 1, .box 39 (.tmp 0), none, []⟩, ⟨some 2, .assign (.const (.int .i64 0)), none, []⟩]) (.seq (.seq (.reg [⟨some 18, .fieldAddr 39 (.tmp 1) 0, none, []⟩, ⟨some 19, .load 4 (.tmp 18), none, []⟩, ⟨some 20, .unOp .not 4 (.tmp 19), none, []⟩, ⟨some 21, .move (.tmp 20), none, []⟩, ⟨some 22, .fieldAddr 39 (.tmp 1) 1, some (21, false), []⟩, ⟨some 23, .load 3 (.tmp 22), some (21, false), []⟩, ⟨some 24, .call ⟨.value (.func 23), #[.tmp 23, .const (.int .i64 1), .const (.int .i64 200)], #[3, 3, 3]⟩, some (21, false), []⟩, ⟨some 25, .unOp .not 4 (.tmp 24), some (21, false), []⟩, ⟨some 26, .pick (.tmp 21) (.const (.bool true)) (.tmp 25), none, []⟩, ⟨some 27, .move (.tmp 26), none, []⟩, ⟨some 28, .fieldAddr 39 (.tmp 1) 2, some (27, false), []⟩, ⟨some 29, .load 37 (.tmp 28), some (27, false), []⟩, ⟨some 30, .call ⟨.builtin .len, #[.tmp 29], #[37]⟩, some (27, false), []⟩, ⟨some 31, .binOp .gtr 3 (.tmp 30) (.const (.int .i64 20)) 3, some (27, false), []⟩, ⟨some 32, .pick (.tmp 27) (.const (.bool true)) (.tmp 31), none, []⟩]) (.cond (.tmp 32) (.seq (.reg [⟨some 2, .assign (.const (.int .i64 1)), none, []⟩]) .ret) .skip)) (.seq (.seq (.reg [⟨some 33, .fieldAddr 39 (.tmp 1) 2, none, []⟩, ⟨some 34, .load 37 (.tmp 33), none, []⟩, ⟨some 35, .call ⟨.builtin .len, #[.tmp 34], #[37]⟩, none, []⟩, ⟨some 36, .move (.const (.int .i64 0)), none, []⟩]) (.block 0 (.loop (.seq (.reg [⟨some 37, .binOp .lss 3 (.tmp 36) (.tmp 35) 3, none, []⟩]) (.seq (.cond (.tmp 37) .skip (.exit 0)) (.seq (.block 1 (.seq (.reg [⟨some 38, .indexAddr 37 (.tmp 34) (.tmp 36), none, []⟩, ⟨some 39, .load 50 (.tmp 38), none, []⟩, ⟨some 4, .alloc 50, none, []⟩, ⟨none, .store 50 (.tmp 4) (.tmp 39), none, []⟩]) (.seq (.seq (.reg [⟨some 40, .fieldAddr 50 (.tmp 4) 0, none, []⟩, ⟨some 41, .load 3 (.tmp 40), none, []⟩, ⟨some 42, .call ⟨.value (.func 23), #[.tmp 41, .const (.int .i64 0), .const (.int .i64 1000000)], #[3, 3, 3]⟩, none, []⟩, ⟨some 43, .unOp .not 4 (.tmp 42), none, []⟩, ⟨some 44, .move (.tmp 43), none, []⟩, ⟨some 45, .load 50 (.tmp 4), some (44, false), []⟩, ⟨some 46, .call ⟨.value (.func 59), #[.tmp 45], #[50]⟩, some (44, false), []⟩, ⟨some 47, .call ⟨.value (.func 23), #[.tmp 46, .const (.int .i64 0), .const (.int .i64 1000000)], #[3, 3, 3]⟩, some (44, false), []⟩, ⟨some 48, .unOp .not 4 (.tmp 47), some (44, false), []⟩, ⟨some 49, .pick (.tmp 44) (.const (.bool true)) (.tmp 48), none, []⟩, ⟨some 50, .move (.tmp 49), none, []⟩, ⟨some 51, .fieldAddr 50 (.tmp 4) 1, some (50, false), []⟩, ⟨some 52, .load 22 (.tmp 51), some (50, false), []⟩, ⟨some 53, .call ⟨.builtin .len, #[.tmp 52], #[22]⟩, some (50, false), []⟩, ⟨some 54, .binOp .gtr 3 (.tmp 53) (.const (.int .i64 100)) 3, some (50, false), []⟩, ⟨some 55, .pick (.tmp 50) (.const (.bool true)) (.tmp 54), none, []⟩]) (.cond (.tmp 55) (.seq (.reg [⟨some 2, .assign (.const (.int .i64 2)), none, []⟩]) .ret) .skip)) (.seq (.reg [⟨some 56, .fieldAddr 50 (.tmp 4) 1, none, []⟩, ⟨some 57, .load 22 (.tmp 56), none, []⟩, ⟨some 58, .call ⟨.builtin .len, #[.tmp 57], #[22]⟩, none, []⟩, ⟨some 59, .move (.const (.int .i64 0)), none, []⟩]) (.block 2 (.loop (.seq (.reg [⟨some 60, .binOp .lss 3 (.tmp 59) (.tmp 58) 3, none, []⟩]) (.seq (.cond (.tmp 60) .skip (.exit 2)) (.seq (.block 3 (.seq (.reg [⟨some 61, .indexAddr 22 (.tmp 57) (.tmp 59), none, []⟩, ⟨some 62, .load 3 (.tmp 61), none, []⟩, ⟨some 6, .assign (.tmp 62), none, []⟩]) (.seq (.reg [⟨some 63, .move (.tmp 6), none, []⟩, ⟨some 64, .fieldAddr 39 (.tmp 1) 1, none, []⟩, ⟨some 65, .load 3 (.tmp 64), none, []⟩, ⟨some 66, .binOp .sub 3 (.tmp 65) (.const (.int .i64 1)) 3, none, []⟩, ⟨some 67, .call ⟨.value (.func 23), #[.tmp 63, .const (.int .i64 0), .tmp 66], #[3, 3, 3]⟩, none, []⟩, ⟨some 68, .unOp .not 4 (.tmp 67), none, []⟩]) (.cond (.tmp 68) (.seq (.reg [⟨some 2, .assign (.const (.int .i64 2)), none, []⟩]) .ret) .skip)))) (.reg [⟨some 69, .binOp .add 3 (.tmp 59) (.const (.int .i64 1)) 3, none, []⟩, ⟨some 59, .move (.tmp 69), none, []⟩])))))))))) (.reg [⟨some 70, .binOp .add 3 (.tmp 36) (.const (.int .i64 1)) 3, none, []⟩, ⟨some 36, .move (.tmp 70), none, []⟩]))))))) (.seq (.seq (.reg [⟨some 71, .fieldAddr 39 (.tmp 1) 2, none, []⟩, ⟨some 72, .load 37 (.tmp 71), none, []⟩, ⟨some 73, .call ⟨.builtin .len, #[.tmp 72], #[37]⟩, none, []⟩, ⟨some 74, .move (.const (.int .i64 0)), none, []⟩]) (.block 4 (.loop (.seq (.reg [⟨some 75, .binOp .lss 3 (.tmp 74) (.tmp 73) 3, none, []⟩]) (.seq (.cond (.tmp 75) .skip (.exit 4)) (.seq (.block 5 (.seq (.reg [⟨some 76, .indexAddr 37 (.tmp 72) (.tmp 74), none, []⟩, ⟨some 77, .load 50 (.tmp 76), none, []⟩, ⟨some 8, .alloc 50, none, []⟩, ⟨none, .store 50 (.tmp 8) (.tmp 77), none, []⟩]) (.seq (.seq (.reg [⟨some 78, .fieldAddr 50 (.tmp 8) 2, none, []⟩, ⟨some 79, .load 48 (.tmp 78), none, []⟩, ⟨some 80, .call ⟨.builtin .len, #[.tmp 79], #[48]⟩, none, []⟩, ⟨some 81, .call ⟨.value (.func 23), #[.tmp 80, .const (.int .i64 1), .const (.int .i64 20)], #[3, 3, 3]⟩, none, []⟩, ⟨some 82, .unOp .not 4 (.tmp 81), none, []⟩]) (.cond (.tmp 82) (.seq (.reg [⟨some 2, .assign (.const (.int .i64 3)), none, []⟩]) .ret) .skip)) (.seq (.seq (.reg [⟨some 83, .fieldAddr 50 (.tmp 8) 2, none, []⟩, ⟨some 84, .load 48 (.tmp 83), none, []⟩, ⟨some 85, .call ⟨.builtin .len, #[.tmp 84], #[48]⟩, none, []⟩, ⟨some 86, .move (.const (.int .i64 0)), none, []⟩]) (.block 6 (.loop (.seq (.reg [⟨some 87, .binOp .lss 3 (.tmp 86) (.tmp 85) 3, none, []⟩]) (.seq (.cond (.tmp 87) .skip (.exit 6)) (.seq (.block 7 (.seq (.reg [⟨some 88, .move (.tmp 86), none, []⟩, ⟨some 89, .indexAddr 48 (.tmp 84) (.tmp 86), none, []⟩, ⟨some 90, .load 88 (.tmp 89), none, []⟩, ⟨some 10, .alloc 88, none, []⟩, ⟨some 9, .assign (.tmp 88), none, []⟩, ⟨none, .store 88 (.tmp 10) (.tmp 90), none, []⟩]) (.seq (.drw 0 [⟨some 91, .fieldAddr 88 (.tmp 10) 1, none, []⟩, ⟨some 92, .load 3 (.tmp 91), none, [0]⟩, ⟨some 93, .load 50 (.tmp 8), none, []⟩, ⟨some 94, .call ⟨.value (.func 59), #[.tmp 93], #[50]⟩, none, [2]⟩, ⟨some 95, .call ⟨.value (.func 23), #[.tmp 92, .const (.int .i64 0), .tmp 94], #[3, 3, 3]⟩, none, [1, 0, 3, 2]⟩, ⟨some 96, .unOp .not 4 (.tmp 95), none, [4, 1, 0, 3, 2]⟩, ⟨some 97, .move (.tmp 96), none, [5, 4, 1, 0, 3, 2]⟩, ⟨some 98, .fieldAddr 88 (.tmp 10) 0, some (97, false), [6, 5, 4, 1, 0, 3, 2]⟩, ⟨some 99, .load 3 (.tmp 98), some (97, false), [7, 6, 5, 4, 1, 0, 3, 2]⟩, ⟨some 100, .call ⟨.value (.func 23), #[.tmp 99, .const (.int .i64 0), .const (.int .i64 1000000)], #[3, 3, 3]⟩, some (97, false), [8, 7, 6, 5, 4, 1, 0, 3, 2]⟩, ⟨some 101, .unOp .not 4 (.tmp 100), some (97, false), [9, 8, 7, 6, 5, 4, 1, 0, 3, 2]⟩, ⟨some 102, .pick (.tmp 97) (.const (.bool true)) (.tmp 101), none, [6, 5, 4, 1, 0, 3, 2, 10, 9, 8, 7]⟩, ⟨some 103, .move (.tmp 102), none, [11, 6, 5, 4, 1, 0, 3, 2, 10, 9, 8, 7]⟩, ⟨some 104, .move (.tmp 9), some (103, false), [12, 11, 6, 5, 4, 1, 0, 3, 2, 10, 9, 8, 7]⟩, ⟨some 105, .binOp .gtr 3 (.tmp 104) (.const (.int .i64 0)) 3, some (103, false), [13, 12, 11, 6, 5, 4, 1, 0, 3, 2, 10, 9, 8, 7]⟩, ⟨some 106, .move (.tmp 105), some (103, false), [14, 13, 12, 11, 6, 5, 4, 1, 0, 3, 2, 10, 9, 8, 7]⟩, ⟨some 107, .fieldAddr 88 (.tmp 10) 0, some (106, true), [15, 14, 13, 12, 11, 6, 5, 4, 1, 0, 3, 2, 10, 9, 8, 7]⟩, ⟨some 108, .load 3 (.tmp 107), some (106, true), [16, 15, 14, 13, 12, 11, 6, 5, 4, 1, 0, 3, 2, 10, 9, 8, 7]⟩, ⟨some 109, .fieldAddr 50 (.tmp 8) 2, some (106, true), [15, 14, 13, 12, 11, 6, 5, 4, 1, 0, 3, 2, 10, 9, 8, 7]⟩, ⟨some 110, .load 48 (.tmp 109), some (106, true), [18, 15, 14, 13, 12, 11, 6, 5, 4, 1, 0, 3, 2, 10, 9, 8, 7]⟩, ⟨some 111, .move (.tmp 9), some (106, true), [15, 14, 13, 12, 11, 6, 5, 4, 1, 0, 3, 2, 10, 9, 8, 7]⟩, ⟨some 112, .binOp .sub 3 (.tmp 111) (.const (.int .i64 1)) 3, some (106, true), [20, 15, 14, 13, 12, 11, 6, 5, 4, 1, 0, 3, 2, 10, 9, 8, 7]⟩, ⟨some 113, .indexAddr 48 (.tmp 110) (.tmp 112), some (106, true), [19, 18, 15, 14, 13, 12, 11, 6, 5, 4, 1, 0, 3, 2, 10, 9, 8, 7, 21, 20]⟩, ⟨some 114, .fieldAddr 88 (.tmp 113) 0, some (106, true), [22, 19, 18, 15, 14, 13, 12, 11, 6, 5, 4, 1, 0, 3, 2, 10, 9, 8, 7, 21, 20]⟩, ⟨some 115, .load 3 (.tmp 114), some (106, true), [23, 22, 19, 18, 15, 14, 13, 12, 11, 6, 5, 4, 1, 0, 3, 2, 10, 9, 8, 7, 21, 20]⟩, ⟨some 116, .binOp .add 3 (.tmp 115) (.const (.int .i64 1)) 3, some (106, true), [24, 23, 22, 19, 18, 15, 14, 13, 12, 11, 6, 5, 4, 1, 0, 3, 2, 10, 9, 8, 7, 21, 20]⟩, ⟨some 117, .binOp .neq 3 (.tmp 108) (.tmp 116) 3, some (106, true), [17, 16, 15, 14, 13, 12, 11, 6, 5, 4, 1, 0, 3, 2, 10, 9, 8, 7, 25, 24, 23, 22, 19, 18, 21, 20]⟩, ⟨some 118, .pick (.tmp 106) (.tmp 117) (.const (.bool false)), some (103, false), [15, 14, 13, 12, 11, 6, 5, 4, 1, 0, 3, 2, 10, 9, 8, 7, 26, 17, 16, 25, 24, 23, 22, 19, 18, 21, 20]⟩, ⟨some 119, .pick (.tmp 103) (.const (.bool true)) (.tmp 118), none, [12, 11, 6, 5, 4, 1, 0, 3, 2, 10, 9, 8, 7, 27, 15, 14, 13, 26, 17, 16, 25, 24, 23, 22, 19, 18, 21, 20]⟩]) (.cond (.tmp 119) (.seq (.reg [⟨some 2, .assign (.const (.int .i64 3)), none, []⟩]) .ret) .skip)))) (.reg [⟨some 120, .binOp .add 3 (.tmp 86) (.const (.int .i64 1)) 3, none, []⟩, ⟨some 86, .move (.tmp 120), none, []⟩]))))))) (.seq (.drw 0 [⟨some 121, .fieldAddr 50 (.tmp 8) 2, none, []⟩, ⟨some 122, .load 48 (.tmp 121), none, [0]⟩, ⟨some 123, .call ⟨.value (.func 24), #[.tmp 122], #[48]⟩, none, [1, 0]⟩, ⟨some 124, .fieldAddr 50 (.tmp 8) 0, none, []⟩, ⟨some 125, .load 3 (.tmp 124), none, [3]⟩, ⟨some 126, .binOp .lss 3 (.tmp 123) (.tmp 125) 3, none, [2, 1, 0, 4, 3]⟩]) (.cond (.tmp 126) (.seq (.reg [⟨some 2, .assign (.const (.int .i64 3)), none, []⟩]) .ret) .skip)))))) (.reg [⟨some 127, .binOp .add 3 (.tmp 74) (.const (.int .i64 1)) 3, none, []⟩, ⟨some 74, .move (.tmp 127), none, []⟩]))))))) (.seq (.seq (.reg [⟨some 128, .fieldAddr 39 (.tmp 1) 2, none, []⟩, ⟨some 129, .load 37 (.tmp 128), none, []⟩, ⟨some 130, .call ⟨.builtin .len, #[.tmp 129], #[37]⟩, none, []⟩, ⟨some 131, .move (.const (.int .i64 0)), none, []⟩]) (.block 8 (.loop (.seq (.reg [⟨some 132, .binOp .lss 3 (.tmp 131) (.tmp 130) 3, none, []⟩]) (.seq (.cond (.tmp 132) .skip (.exit 8)) (.seq (.block 9 (.seq (.reg [⟨some 133, .indexAddr 37 (.tmp 129) (.tmp 131), none, []⟩, ⟨some 134, .load 50 (.tmp 133), none, []⟩, ⟨some 12, .alloc 50, none, []⟩, ⟨none, .store 50 (.tmp 12) (.tmp 134), none, []⟩]) (.seq (.drw 0 [⟨some 135, .fieldAddr 50 (.tmp 12) 3, none, []⟩, ⟨some 136, .load 3 (.tmp 135), none, [0]⟩, ⟨some 137, .binOp .neq 3 (.tmp 136) (.const (.int .i64 (-1))) 3, none, [1, 0]⟩, ⟨some 138, .move (.tmp 137), none, [2, 1, 0]⟩, ⟨some 139, .fieldAddr 50 (.tmp 12) 3, some (138, true), [3, 2, 1, 0]⟩, ⟨some 140, .load 3 (.tmp 139), some (138, true), [4, 3, 2, 1, 0]⟩, ⟨some 141, .fieldAddr 50 (.tmp 12) 0, some (138, true), [3, 2, 1, 0]⟩, ⟨some 142, .load 3 (.tmp 141), some (138, true), [6, 3, 2, 1, 0]⟩, ⟨some 143, .load 50 (.tmp 12), some (138, true), [3, 2, 1, 0]⟩, ⟨some 144, .call ⟨.value (.func 59), #[.tmp 143], #[50]⟩, some (138, true), [8, 3, 2, 1, 0]⟩, ⟨some 145, .binOp .sub 3 (.tmp 144) (.const (.int .i64 1)) 3, some (138, true), [9, 8, 3, 2, 1, 0]⟩, ⟨some 146, .call ⟨.value (.func 23), #[.tmp 140, .tmp 142, .tmp 145], #[3, 3, 3]⟩, some (138, true), [5, 4, 3, 2, 1, 0, 7, 6, 10, 9, 8]⟩, ⟨some 147, .unOp .not 4 (.tmp 146), some (138, true), [11, 5, 4, 3, 2, 1, 0, 7, 6, 10, 9, 8]⟩, ⟨some 148, .move (.tmp 147), some (138, true), [12, 11, 5, 4, 3, 2, 1, 0, 7, 6, 10, 9, 8]⟩, ⟨some 149, .fieldAddr 50 (.tmp 12) 2, some (148, false), [13, 12, 11, 5, 4, 3, 2, 1, 0, 7, 6, 10, 9, 8]⟩, ⟨some 150, .load 48 (.tmp 149), some (148, false), [14, 13, 12, 11, 5, 4, 3, 2, 1, 0, 7, 6, 10, 9, 8]⟩, ⟨some 151, .fieldAddr 50 (.tmp 12) 2, some (148, false), [13, 12, 11, 5, 4, 3, 2, 1, 0, 7, 6, 10, 9, 8]⟩, ⟨some 152, .load 48 (.tmp 151), some (148, false), [16, 13, 12, 11, 5, 4, 3, 2, 1, 0, 7, 6, 10, 9, 8]⟩, ⟨some 153, .call ⟨.builtin .len, #[.tmp 152], #[48]⟩, some (148, false), [17, 16, 13, 12, 11, 5, 4, 3, 2, 1, 0, 7, 6, 10, 9, 8]⟩, ⟨some 154, .binOp .sub 3 (.tmp 153) (.const (.int .i64 1)) 3, some (148, false), [18, 17, 16, 13, 12, 11, 5, 4, 3, 2, 1, 0, 7, 6, 10, 9, 8]⟩, ⟨some 155, .indexAddr 48 (.tmp 150) (.tmp 154), some (148, false), [15, 14, 13, 12, 11, 5, 4, 3, 2, 1, 0, 7, 6, 10, 9, 8, 19, 18, 17, 16]⟩, ⟨some 156, .fieldAddr 88 (.tmp 155) 1, some (148, false), [20, 15, 14, 13, 12, 11, 5, 4, 3, 2, 1, 0, 7, 6, 10, 9, 8, 19, 18, 17, 16]⟩, ⟨some 157, .load 3 (.tmp 156), some (148, false), [21, 20, 15, 14, 13, 12, 11, 5, 4, 3, 2, 1, 0, 7, 6, 10, 9, 8, 19, 18, 17, 16]⟩, ⟨some 158, .fieldAddr 50 (.tmp 12) 3, some (148, false), [13, 12, 11, 5, 4, 3, 2, 1, 0, 7, 6, 10, 9, 8]⟩, ⟨some 159, .load 3 (.tmp 158), some (148, false), [23, 13, 12, 11, 5, 4, 3, 2, 1, 0, 7, 6, 10, 9, 8]⟩, ⟨some 160, .binOp .gtr 3 (.tmp 157) (.tmp 159) 3, some (148, false), [22, 21, 20, 15, 14, 13, 12, 11, 5, 4, 3, 2, 1, 0, 7, 6, 10, 9, 8, 19, 18, 17, 16, 24, 23]⟩, ⟨some 161, .pick (.tmp 148) (.const (.bool true)) (.tmp 160), some (138, true), [13, 12, 11, 5, 4, 3, 2, 1, 0, 7, 6, 10, 9, 8, 25, 22, 21, 20, 15, 14, 19, 18, 17, 16, 24, 23]⟩, ⟨some 162, .move (.tmp 161), some (138, true), [26, 13, 12, 11, 5, 4, 3, 2, 1, 0, 7, 6, 10, 9, 8, 25, 22, 21, 20, 15, 14, 19, 18, 17, 16, 24, 23]⟩, ⟨some 163, .fieldAddr 50 (.tmp 12) 2, some (162, false), [27, 26, 13, 12, 11, 5, 4, 3, 2, 1, 0, 7, 6, 10, 9, 8, 25, 22, 21, 20, 15, 14, 19, 18, 17, 16, 24, 23]⟩, ⟨some 164, .load 48 (.tmp 163), some (162, false), [28, 27, 26, 13, 12, 11, 5, 4, 3, 2, 1, 0, 7, 6, 10, 9, 8, 25, 22, 21, 20, 15, 14, 19, 18, 17, 16, 24, 23]⟩, ⟨some 165, .call ⟨.value (.func 24), #[.tmp 164], #[48]⟩, some (162, false), [29, 28, 27, 26, 13, 12, 11, 5, 4, 3, 2, 1, 0, 7, 6, 10, 9, 8, 25, 22, 21, 20, 15, 14, 19, 18, 17, 16, 24, 23]⟩, ⟨some 166, .load 50 (.tmp 12), some (162, false), [27, 26, 13, 12, 11, 5, 4, 3, 2, 1, 0, 7, 6, 10, 9, 8, 25, 22, 21, 20, 15, 14, 19, 18, 17, 16, 24, 23]⟩, ⟨some 167, .call ⟨.value (.func 59), #[.tmp 166], #[50]⟩, some (162, false), [31, 27, 26, 13, 12, 11, 5, 4, 3, 2, 1, 0, 7, 6, 10, 9, 8, 25, 22, 21, 20, 15, 14, 19, 18, 17, 16, 24, 23, 30, 29, 28]⟩, ⟨some 168, .binOp .lss 3 (.tmp 165) (.tmp 167) 3, some (162, false), [30, 29, 28, 27, 26, 13, 12, 11, 5, 4, 3, 2, 1, 0, 7, 6, 10, 9, 8, 25, 22, 21, 20, 15, 14, 19, 18, 17, 16, 24, 23, 32, 31]⟩, ⟨some 169, .pick (.tmp 162) (.const (.bool true)) (.tmp 168), some (138, true), [27, 26, 13, 12, 11, 5, 4, 3, 2, 1, 0, 7, 6, 10, 9, 8, 25, 22, 21, 20, 15, 14, 19, 18, 17, 16, 24, 23, 33, 30, 29, 28, 32, 31]⟩, ⟨some 170, .pick (.tmp 138) (.tmp 169) (.const (.bool false)), none, [3, 2, 1, 0, 34, 27, 26, 13, 12, 11, 5, 4, 7, 6, 10, 9, 8, 25, 22, 21, 20, 15, 14, 19, 18, 17, 16, 24, 23, 33, 30, 29, 28, 32, 31]⟩]) (.cond (.tmp 170) (.seq (.reg [⟨some 2, .assign (.const (.int .i64 4)), none, []⟩]) .ret) .skip)))) (.reg [⟨some 171, .binOp .add 3 (.tmp 131) (.const (.int .i64 1)) 3, none, []⟩, ⟨some 131, .move (.tmp 171), none, []⟩]))))))) (.seq (.reg [⟨some 172, .makeMap 108 none, none, []⟩, ⟨some 13, .assign (.tmp 172), none, []⟩]) (.seq (.seq (.reg [⟨some 173, .fieldAddr 39 (.tmp 1) 2, none, []⟩, ⟨some 174, .load 37 (.tmp 173), none, []⟩, ⟨some 175, .call ⟨.builtin .len, #[.tmp 174], #[37]⟩, none, []⟩, ⟨some 176, .move (.const (.int .i64 0)), none, []⟩]) (.block 10 (.loop (.seq (.reg [⟨some 177, .binOp .lss 3 (.tmp 176) (.tmp 175) 3, none, []⟩]) (.seq (.cond (.tmp 177) .skip (.exit 10)) (.seq (.block 11 (.seq (.reg [⟨some 178, .indexAddr 37 (.tmp 174) (.tmp 176), none, []⟩, ⟨some 179, .load 50 (.tmp 178), none, []⟩, ⟨some 15, .alloc 50, none, []⟩, ⟨none, .store 50 (.tmp 15) (.tmp 179), none, []⟩]) (.seq (.reg [⟨some 180, .fieldAddr 50 (.tmp 15) 1, none, []⟩, ⟨some 181, .load 22 (.tmp 180), none, []⟩, ⟨some 182, .call ⟨.builtin .len, #[.tmp 181], #[22]⟩, none, []⟩, ⟨some 183, .move (.const (.int .i64 0)), none, []⟩]) (.block 12 (.loop (.seq (.reg [⟨some 184, .binOp .lss 3 (.tmp 183) (.tmp 182) 3, none, []⟩]) (.seq (.cond (.tmp 184) .skip (.exit 12)) (.seq (.block 13 (.seq (.reg [⟨some 185, .indexAddr 22 (.tmp 181) (.tmp 183), none, []⟩, ⟨some 186, .load 3 (.tmp 185), none, []⟩, ⟨some 17, .assign (.tmp 186), none, []⟩]) (.seq (.seq (.reg [⟨some 187, .move (.tmp 13), none, []⟩, ⟨some 188, .move (.tmp 17), none, []⟩, ⟨some 189, .lookup 108 (.tmp 187) (.tmp 188) false, none, []⟩]) (.cond (.tmp 189) (.seq (.reg [⟨some 2, .assign (.const (.int .i64 5)), none, []⟩]) .ret) .skip)) (.reg [⟨some 190, .move (.tmp 13), none, []⟩, ⟨some 191, .move (.tmp 17), none, []⟩, ⟨none, .mapUpdate 108 (.tmp 190) (.tmp 191) (.const (.bool true)), none, []⟩])))) (.reg [⟨some 192, .binOp .add 3 (.tmp 183) (.const (.int .i64 1)) 3, none, []⟩, ⟨some 183, .move (.tmp 192), none, []⟩]))))))))) (.reg [⟨some 193, .binOp .add 3 (.tmp 176) (.const (.int .i64 1)) 3, none, []⟩, ⟨some 176, .move (.tmp 193), none, []⟩]))))))) (.seq (.reg [⟨some 2, .assign (.const (.int .i64 0)), none, []⟩]) .ret)))))))
theorem s35 : Tryd.f35.body.bind (stripC 194) = some B35 := by kernel_rfl
theorem implBookOk_ac {H : Heap} {E : List Nat} {b : Bk} {cs : List Value} (h : RBk H E b cs) : AC Tryd.prog 35 [.agg cs.toArray] H (iv (bookOkB b)) H [] := by
 obtain ⟨v, rfl, hv⟩ := h
 obtain ⟨a0, c0, rfl⟩ := hv.form
 have hx := hv.one
 have hn := hv.1
 refine AC.of_pureS (N := 194) Tryd.func35 s35 (by kernel_rfl) rfl rfl (by simp) rfl ?_; unfold B35
 cases h1 : b.ok
 ·have hr := bookOkB_1 (b := b) (by simp [ok1, h1])
  repeat (first | refine sA ?_ | refine sB ?_ | refine sC ?_ | refine sD ?_ | refine sE rfl ?_ | refine sF rfl ?_ | refine sG rfl ?_ | ((first | refine sk_reg fun K hK => ?_ | refine sk_drw mix fun K hK => ?_); simp [hx, h1]; refine hK _ ?_; clear hK K))
  refine sk_ret ?_; simp [hr]
 cases h2 : inB b.sec 1 200
 ·have hr := bookOkB_1 (b := b) (by simp [ok1, h2])
  repeat (first | refine sA ?_ | refine sB ?_ | refine sC ?_ | refine sD ?_ | refine sE rfl ?_ | refine sF rfl ?_ | refine sG rfl ?_ | ((first | refine sk_reg fun K hK => ?_ | refine sk_drw mix fun K hK => ?_); simp [hx, h1, h2]; (repeat ((first | refine AskX.go (in_ac _ _ _) ?_ | refine AskD.go (in_ac _ _ _) ?_); simp [hx, h1, h2])); refine hK _ ?_; clear hK K))
  refine sk_ret ?_; simp [hr]
 by_cases h3 : b.lines.length ≤ 20
 case neg =>
  have hr := bookOkB_1 (b := b) (by simp [ok1, h3])
  have h3' : (20 : Int) < b.lines.length := by omega
  repeat (first | refine sA ?_ | refine sB ?_ | refine sC ?_ | refine sD ?_ | refine sE rfl ?_ | refine sF rfl ?_ | refine sG rfl ?_ | ((first | refine sk_reg fun K hK => ?_ | refine sk_drw mix fun K hK => ?_); simp [hx, h1, h2, h3']; (repeat ((first | refine AskX.go (in_ac _ _ _) ?_ | refine AskD.go (in_ac _ _ _) ?_); simp [hx, h1, h2, h3'])); refine hK _ ?_; clear hK K))
  refine sk_ret ?_; simp [hr]
 have hk1 : ok1 b = true := by simp [ok1, h1, h2, h3]
 have h3' : ¬ (20 : Int) < b.lines.length := by omega
 simp only [inB, Bool.and_eq_true, decide_eq_true_eq] at h2
 have h2' : inB b.sec 1 200 = true := by simp [inB]; omega
 have hws := wrap_id (x := b.sec - 1) (by omega) (by omega)
 repeat (first | refine sA ?_ | refine sB ?_ | refine sC ?_ | refine sD ?_ | refine sE rfl ?_ | refine sF rfl ?_ | refine sG rfl ?_ | ((first | refine sk_reg fun K hK => ?_ | refine sk_drw mix fun K hK => ?_); simp [hx, h1, h2', h3']; (repeat ((first | refine AskX.go (in_ac _ _ _) ?_ | refine AskD.go (in_ac _ _ _) ?_); simp [hx, h1, h2', h3'])); refine hK _ ?_; clear hK K))
 refine sk_rng b.lines.length (fun i => [(1, pt H.length 0), (34, .slice a0 b.lines.length c0), (35, iv b.lines.length), (36, iv i)]) (fun i H1 => Gro H H1 ∧ H1[H.length]? = some ⟨39, [.bool b.ok, iv b.sec, .slice a0 b.lines.length c0], true, true⟩ ∧ ∀ j (hj : j < i) (hx : j < b.lines.length), ok2 b.sec b.lines[j] = true) (by simp [subL, getT]) ⟨(by first | exact Gro.refl _ | exact Gro.one _ _), by simp [h1], fun j hj => by omega⟩ ?_ ?_
 ·rintro i H1 hi ⟨hg, hb, hpre⟩
  have hl := hg.len
  have cb1 : CF H1 H.length 1 (iv b.sec) := CF.of hb rfl rfl
  obtain ⟨id, o, v1, v2, E1, E2, hve, hid, d0, d1, d2, d3, hw1, hw2, x1, x2, _⟩ := (hv.gro hg RLn.frm).line hi
  generalize hln : b.lines[i] = l at *
  obtain ⟨a1, c1, rfl⟩ := hw1.form
  have hwi := wrap_id (x := (i : Int) + 1) (by omega) (by omega)
  have hn1 := hw1.1
  have bad : ok2 b.sec l = false → bookOkB b = 2 := fun e => bookOkB_2 hk1 (all_false_at hi (by rw [hln]; exact e))
  cases q1 : inB l.gone 0 1000000
  ·have hr := bad (by simp [ok2, q1])
   repeat (first | refine sA ?_ | refine sB ?_ | refine sC ?_ | refine sD ?_ | refine sE rfl ?_ | refine sF rfl ?_ | refine sG rfl ?_ | ((first | refine sk_reg fun K hK => ?_ | refine sk_drw mix fun K hK => ?_); simp [hi, hve, d0.s, d1.s, d2.s, d3.s, cb1.s, x1, x2, hl, q1]; (repeat ((first | refine AskX.go (in_ac _ _ _) ?_ | refine AskD.go (in_ac _ _ _) ?_); simp [hi, hve, d0.s, d1.s, d2.s, d3.s, cb1.s, x1, x2, hl, q1])); refine hK _ ?_; clear hK K))
   refine sk_ret ?_; simp [hr]
   exact hg.app _
  have hq := q1
  simp only [inB, Bool.and_eq_true, decide_eq_true_eq] at hq
  have htot := wrap_id (x := l.gone + l.way.length) (by omega) (by omega)
  have htot : IntKind.i64.wrap (l.gone + l.way.length) = totL l := htot
  cases q2 : inB (totL l) 0 1000000
  ·have hr := bad (by simp [ok2, q2])
   repeat (first | refine sA ?_ | refine sB ?_ | refine sC ?_ | refine sD ?_ | refine sE rfl ?_ | refine sF rfl ?_ | refine sG rfl ?_ | ((first | refine sk_reg fun K hK => ?_ | refine sk_drw mix fun K hK => ?_); simp [hi, hve, d0.s, d1.s, d2.s, d3.s, cb1.s, x1, x2, hl, q1, q2, htot]; (repeat ((first | refine AskX.go (in_ac _ _ _) ?_ | refine AskD.go (in_ac _ _ _) ?_ | refine AskX.go (total_ac ⟨_, _, rfl⟩ x2) ?_ | refine AskD.go (total_ac ⟨_, _, rfl⟩ x2) ?_); simp [hi, hve, d0.s, d1.s, d2.s, d3.s, cb1.s, x1, x2, hl, q1, q2, htot])); refine hK _ ?_; clear hK K))
   refine sk_ret ?_; simp [hr]
   exact hg.app _
  by_cases q3 : l.way.length ≤ 100
  case neg =>
   have hr := bad (by simp [ok2, q3])
   have q3' : (100 : Int) < l.way.length := by omega
   repeat (first | refine sA ?_ | refine sB ?_ | refine sC ?_ | refine sD ?_ | refine sE rfl ?_ | refine sF rfl ?_ | refine sG rfl ?_ | ((first | refine sk_reg fun K hK => ?_ | refine sk_drw mix fun K hK => ?_); simp [hi, hve, d0.s, d1.s, d2.s, d3.s, cb1.s, x1, x2, hl, q1, q2, htot, q3']; (repeat ((first | refine AskX.go (in_ac _ _ _) ?_ | refine AskD.go (in_ac _ _ _) ?_ | refine AskX.go (total_ac ⟨_, _, rfl⟩ x2) ?_ | refine AskD.go (total_ac ⟨_, _, rfl⟩ x2) ?_); simp [hi, hve, d0.s, d1.s, d2.s, d3.s, cb1.s, x1, x2, hl, q1, q2, htot, q3'])); refine hK _ ?_; clear hK K))
   refine sk_ret ?_; simp [hr]
   exact hg.app _
  have q3' : ¬ (100 : Int) < l.way.length := by omega
  repeat (first | refine sA ?_ | refine sB ?_ | refine sC ?_ | refine sD ?_ | refine sE rfl ?_ | refine sF rfl ?_ | refine sG rfl ?_ | ((first | refine sk_reg fun K hK => ?_ | refine sk_drw mix fun K hK => ?_); simp [hi, hve, d0.s, d1.s, d2.s, d3.s, cb1.s, x1, x2, hl, q1, q2, htot, q3']; (repeat ((first | refine AskX.go (in_ac _ _ _) ?_ | refine AskD.go (in_ac _ _ _) ?_ | refine AskX.go (total_ac ⟨_, _, rfl⟩ x2) ?_ | refine AskD.go (total_ac ⟨_, _, rfl⟩ x2) ?_); simp [hi, hve, d0.s, d1.s, d2.s, d3.s, cb1.s, x1, x2, hl, q1, q2, htot, q3'])); refine hK _ ?_; clear hK K))
  refine sk_rng l.way.length (fun j => [(1, pt H.length 0), (34, .slice a0 b.lines.length c0), (35, iv b.lines.length), (36, iv i), (57, .slice a1 l.way.length c1), (58, iv l.way.length), (59, iv j)]) (fun j H2 => Gro H1 H2 ∧ ∀ q (hj : q < j) (hx : q < l.way.length), inB l.way[q] 0 (b.sec - 1) = true) (by simp [subL, getT, hve]) ⟨(by first | exact Gro.refl _ | exact Gro.one _ _), fun j hj => by omega⟩ ?_ ?_
  ·rintro j H2 hj ⟨hg2, hpre2⟩
   have hl2 := hg2.len
   have cb2 := cb1.gro hg2
   obtain ⟨id2, o2, hv2, hid2, e0⟩ := (hw1.gro hg2 (RP.frm _)).int hj
   have hwj := wrap_id (x := (j : Int) + 1) (by omega) (by omega)
   cases q4 : inB l.way[j] 0 (b.sec - 1)
   ·have hr := bad (by simp only [ok2, all_false_at (p := fun s => inB s 0 (b.sec - 1)) hj q4, Bool.and_false])
    repeat (first | refine sA ?_ | refine sB ?_ | refine sC ?_ | refine sD ?_ | refine sE rfl ?_ | refine sF rfl ?_ | refine sG rfl ?_ | ((first | refine sk_reg fun K hK => ?_ | refine sk_drw mix fun K hK => ?_); simp [hj, hv2, e0.s, cb2.s, hws, q4]; (repeat ((first | refine AskX.go (in_ac _ _ _) ?_ | refine AskD.go (in_ac _ _ _) ?_); simp [hj, hv2, e0.s, cb2.s, hws, q4])); refine hK _ ?_; clear hK K))
    refine sk_ret ?_; simp [hr]
    exact hg.trans hg2
   ·repeat (first | refine sA ?_ | refine sB ?_ | refine sC ?_ | refine sD ?_ | refine sE rfl ?_ | refine sF rfl ?_ | refine sG rfl ?_ | ((first | refine sk_reg fun K hK => ?_ | refine sk_drw mix fun K hK => ?_); simp [hj, hv2, e0.s, cb2.s, hws, q4, hwj]; (repeat ((first | refine AskX.go (in_ac _ _ _) ?_ | refine AskD.go (in_ac _ _ _) ?_); simp [hj, hv2, e0.s, cb2.s, hws, q4, hwj])); refine hK _ ?_; clear hK K))
    refine sk_inv ⟨?_, hg2, fun q hq hx => ?_⟩
    ·simp [subL, getT, hv2]
    ·by_cases e : q = j
     ·subst e; exact q4
     ·exact hpre2 q (by omega) hx
  ·rintro H2 ⟨hg2, hpre2⟩
   repeat (first | refine sA ?_ | refine sB ?_ | refine sC ?_ | refine sD ?_ | refine sE rfl ?_ | refine sF rfl ?_ | refine sG rfl ?_ | ((first | refine sk_reg fun K hK => ?_ | refine sk_drw mix fun K hK => ?_); simp [hwi]; refine hK _ ?_; clear hK K))
   refine sk_inv ⟨?_, hg.trans hg2, hg2.get hb, fun j hj hx => ?_⟩
   ·simp [subL, getT]
   ·by_cases e : j = i
    ·subst e
     rw [hln]
     simp only [ok2, q1, q2, q3, decide_true, Bool.and_true, Bool.true_and]
     exact all_true_at fun q hq => hpre2 q hq hq
    ·exact hpre j (by omega) hx
 rintro H1 ⟨hg, hb, hall⟩
 have hk2 : b.lines.all (ok2 b.sec) = true := all_true_at fun j hj => hall j hj hj
 have cb2 : CF H1 H.length 2 (.slice a0 b.lines.length c0) := CF.of hb rfl rfl
 repeat (first | refine sA ?_ | refine sB ?_ | refine sC ?_ | refine sD ?_ | refine sE rfl ?_ | refine sF rfl ?_ | refine sG rfl ?_ | ((first | refine sk_reg fun K hK => ?_ | refine sk_drw mix fun K hK => ?_); simp [cb2.s]; refine hK _ ?_; clear hK K))
 clear cb2
 -- the second loop: the leashes
 refine sk_rng b.lines.length (fun i => [(1, pt H.length 0), (72, .slice a0 b.lines.length c0), (73, iv b.lines.length), (74, iv i)]) (fun i H2 => Gro H H2 ∧ H2[H.length]? = some ⟨39, [.bool b.ok, iv b.sec, .slice a0 b.lines.length c0], true, true⟩ ∧ ∀ j (hj : j < i) (hx : j < b.lines.length), ok3 b.lines[j] = true) (by simp [subL, getT]) ⟨hg, hb, fun j hj => by omega⟩ ?_ ?_
 ·clear hg hb hall H1
  rintro i H1 hi ⟨hg, hb, hpre⟩
  have hl := hg.len
  obtain ⟨id, o, v1, v2, E1, E2, hve, hid, d0, d1, d2, d3, hw1, hw2, x1, x2, _⟩ := (hv.gro hg RLn.frm).line hi
  have hok2 := ok2_in (all_at hk2 hi)
  generalize hln : b.lines[i] = l at *
  obtain ⟨a1, c1, rfl⟩ := hw1.form
  obtain ⟨a2, c2, rfl⟩ := hw2.form
  have hwi := wrap_id (x := (i : Int) + 1) (by omega) (by omega)
  have hn1 := hw1.1
  have hn2 := hw2.1
  have htot := wrap_id (x := l.gone + l.way.length) (by unfold totL at hok2; omega) (by unfold totL at hok2; omega)
  have htot : IntKind.i64.wrap (l.gone + l.way.length) = totL l := htot
  have bad : ok3 l = false → bookOkB b = 3 := fun e => bookOkB_3 hk1 hk2 (all_false_at hi (by rw [hln]; exact e))
  cases q1 : inB l.grs.length 1 20
  ·have hr := bad (by simp [ok3, q1])
   repeat (first | refine sA ?_ | refine sB ?_ | refine sC ?_ | refine sD ?_ | refine sE rfl ?_ | refine sF rfl ?_ | refine sG rfl ?_ | ((first | refine sk_reg fun K hK => ?_ | refine sk_drw mix fun K hK => ?_); simp [hi, hve, d0.s, d1.s, d2.s, d3.s, x1, x2, hl, q1]; (repeat ((first | refine AskX.go (in_ac _ _ _) ?_ | refine AskD.go (in_ac _ _ _) ?_); simp [hi, hve, d0.s, d1.s, d2.s, d3.s, x1, x2, hl, q1])); refine hK _ ?_; clear hK K))
   refine sk_ret ?_; simp [hr]
   exact hg.app _
  have hq := q1
  simp only [inB, Bool.and_eq_true, decide_eq_true_eq] at hq
  repeat (first | refine sA ?_ | refine sB ?_ | refine sC ?_ | refine sD ?_ | refine sE rfl ?_ | refine sF rfl ?_ | refine sG rfl ?_ | ((first | refine sk_reg fun K hK => ?_ | refine sk_drw mix fun K hK => ?_); simp [hi, hve, d0.s, d1.s, d2.s, d3.s, x1, x2, hl, q1]; (repeat ((first | refine AskX.go (in_ac _ _ _) ?_ | refine AskD.go (in_ac _ _ _) ?_); simp [hi, hve, d0.s, d1.s, d2.s, d3.s, x1, x2, hl, q1])); refine hK _ ?_; clear hK K))
  refine sk_rng l.grs.length (fun j => [(1, pt H.length 0), (72, .slice a0 b.lines.length c0), (73, iv b.lines.length), (74, iv i), (8, pt H1.length 0), (84, .slice a2 l.grs.length c2), (85, iv l.grs.length), (86, iv j)])
   (fun j H2 => Gro H1 H2 ∧ H2[H1.length]? = some ⟨50, [iv l.gone, .slice a1 l.way.length c1, .slice a2 l.grs.length c2, iv l.drop], true, true⟩ ∧ ∀ q (hj : q < j), gOk (totL l) l.grs q = true) (by simp [subL, getT, hve]) ⟨(by first | exact Gro.refl _ | exact Gro.one _ _), by simp, fun j hj => by omega⟩ ?_ ?_
  ·rintro j H2 hj ⟨hg2, hb2, hpre2⟩
   have hl2 := hg2.len
   have hl3 : H.length ≤ H2.length := by omega
   have e0 : CF H2 H1.length 0 (iv l.gone) := CF.of hb2 rfl rfl
   have e1 : CF H2 H1.length 1 (.slice a1 l.way.length c1) := CF.of hb2 rfl rfl
   have e2 : CF H2 H1.length 2 (.slice a2 l.grs.length c2) := CF.of hb2 rfl rfl
   have e3 : CF H2 H1.length 3 (iv l.drop) := CF.of hb2 rfl rfl
   obtain ⟨id2, o2, hv2, hid2, f0, f1⟩ := (hw2.gro hg2 (RP.frm _)).gr hj
   have hwj := wrap_id (x := (j : Int) + 1) (by omega) (by omega)
   have badj : gOk (totL l) l.grs j = false → bookOkB b = 3 := fun e => bad (by
    have : (List.range l.grs.length).all (gOk (totL l) l.grs) = false := by rw [List.all_eq_false]; exact ⟨j, List.mem_range.2 hj, by simp [e]⟩
    simp only [ok3, this, Bool.and_false, Bool.false_and])
   have gok : gOk (totL l) l.grs j = (inB l.grs[j].cel 0 (totL l) && inB l.grs[j].ver 0 1000000 && (decide (j = 0) || decide (l.grs[j].ver = (gAt l.grs (j - 1)).ver + 1))) := by simp only [gOk, gAt_eq hj]
   cases q2 : inB l.grs[j].cel 0 (totL l)
   ·have hr := badj (by rw [gok, q2]; simp)
    repeat (first | refine sA ?_ | refine sB ?_ | refine sC ?_ | refine sD ?_ | refine sE rfl ?_ | refine sF rfl ?_ | refine sG rfl ?_ | ((first | refine sk_reg fun K hK => ?_ | refine sk_drw mix fun K hK => ?_); simp [hj, hv2, e0.s, e1.s, e2.s, e3.s, f0.s, f1.s, hl3, htot, q2]; (repeat ((first | refine AskX.go (in_ac _ _ _) ?_ | refine AskD.go (in_ac _ _ _) ?_ | refine AskX.go (total_ac ⟨_, _, rfl⟩ rfl) ?_ | refine AskD.go (total_ac ⟨_, _, rfl⟩ rfl) ?_); simp [hj, hv2, e0.s, e1.s, e2.s, e3.s, f0.s, f1.s, hl3, htot, q2])); refine hK _ ?_; clear hK K))
    refine sk_ret ?_; simp [hr]
    exact (hg.trans hg2).app _
   cases q3 : inB l.grs[j].ver 0 1000000
   ·have hr := badj (by rw [gok, q3]; simp)
    repeat (first | refine sA ?_ | refine sB ?_ | refine sC ?_ | refine sD ?_ | refine sE rfl ?_ | refine sF rfl ?_ | refine sG rfl ?_ | ((first | refine sk_reg fun K hK => ?_ | refine sk_drw mix fun K hK => ?_); simp [hj, hv2, e0.s, e1.s, e2.s, e3.s, f0.s, f1.s, hl3, htot, q2, q3]; (repeat ((first | refine AskX.go (in_ac _ _ _) ?_ | refine AskD.go (in_ac _ _ _) ?_ | refine AskX.go (total_ac ⟨_, _, rfl⟩ rfl) ?_ | refine AskD.go (total_ac ⟨_, _, rfl⟩ rfl) ?_); simp [hj, hv2, e0.s, e1.s, e2.s, e3.s, f0.s, f1.s, hl3, htot, q2, q3])); refine hK _ ?_; clear hK K))
    refine sk_ret ?_; simp [hr]
    exact (hg.trans hg2).app _
   have next : ∀ H3, Gro H2 H3 → gOk (totL l) l.grs j = true → Gro H1 H3 ∧ H3[H1.length]? = some ⟨50, [iv l.gone, .slice a1 l.way.length c1, .slice a2 l.grs.length c2, iv l.drop], true, true⟩ ∧ ∀ q (hj : q < j + 1), gOk (totL l) l.grs q = true := fun H3 g3 hg0 => ⟨hg2.trans g3, g3.get hb2, fun q hq => by
    by_cases e : q = j
    ·subst e; exact hg0
    ·exact hpre2 q (by omega)⟩
   by_cases hp : 0 < j
   ·have hp1 : j - 1 < l.grs.length := by omega
    obtain ⟨id3, o3, hv3, hid3, g0, g1⟩ := (hw2.gro hg2 (RP.frm _)).gr hp1
    have hio : id3 = id2 ∧ o3 = o2 := by rw [hv2] at hv3; simp at hv3; exact ⟨hv3.1.symm, hv3.2.symm⟩
    obtain ⟨rfl, rfl⟩ := hio
    have hwp : IntKind.i64.wrap ((j : Int) - 1) = ((j - 1 : Nat) : Int) := by rw [wrap_id (by omega) (by omega)]; omega
    have hv := hpre2 (j - 1) (by omega)
    rw [gOk, gAt_eq hp1] at hv
    simp only [inB, Bool.and_eq_true, decide_eq_true_eq] at hv
    have hwv := wrap_id (x := l.grs[j - 1].ver + 1) (by omega) (by omega)
    rw [gAt_eq hp1] at gok
    by_cases q4 : l.grs[j].ver = l.grs[j - 1].ver + 1
    ·have g := next (H2 ++ [⟨88, [iv l.grs[j].ver, iv l.grs[j].cel], true, true⟩]) (Gro.one _ _) (by rw [gok, q2, q3, q4]; simp)
     have q4' := eq_true q4
     repeat (first | refine sA ?_ | refine sB ?_ | refine sC ?_ | refine sD ?_ | refine sE rfl ?_ | refine sF rfl ?_ | refine sG rfl ?_ | ((first | refine sk_reg fun K hK => ?_ | refine sk_drw mix fun K hK => ?_); simp [hj, hv2, e0.s, e1.s, e2.s, e3.s, f0.s, f1.s, g0.s, g1.s, hl3, htot, q2, q3, hp, hp1, hwp, hwv, q4', hwj]; (repeat ((first | refine AskX.go (in_ac _ _ _) ?_ | refine AskD.go (in_ac _ _ _) ?_ | refine AskX.go (total_ac ⟨_, _, rfl⟩ rfl) ?_ | refine AskD.go (total_ac ⟨_, _, rfl⟩ rfl) ?_); simp [hj, hv2, e0.s, e1.s, e2.s, e3.s, f0.s, f1.s, g0.s, g1.s, hl3, htot, q2, q3, hp, hp1, hwp, hwv, q4', hwj])); refine hK _ ?_; clear hK K))
     exact sk_inv ⟨by simp [subL, getT, hv2], g⟩
    ·have hr := badj (by rw [gok, q2, q3]; simp [q4]; omega)
     repeat (first | refine sA ?_ | refine sB ?_ | refine sC ?_ | refine sD ?_ | refine sE rfl ?_ | refine sF rfl ?_ | refine sG rfl ?_ | ((first | refine sk_reg fun K hK => ?_ | refine sk_drw mix fun K hK => ?_); simp [hj, hv2, e0.s, e1.s, e2.s, e3.s, f0.s, f1.s, g0.s, g1.s, hl3, htot, q2, q3, hp, hp1, hwp, hwv, q4]; (repeat ((first | refine AskX.go (in_ac _ _ _) ?_ | refine AskD.go (in_ac _ _ _) ?_ | refine AskX.go (total_ac ⟨_, _, rfl⟩ rfl) ?_ | refine AskD.go (total_ac ⟨_, _, rfl⟩ rfl) ?_); simp [hj, hv2, e0.s, e1.s, e2.s, e3.s, f0.s, f1.s, g0.s, g1.s, hl3, htot, q2, q3, hp, hp1, hwp, hwv, q4])); refine hK _ ?_; clear hK K))
     refine sk_ret ?_; simp [hr]
     exact (hg.trans hg2).app _
   ·have g := next (H2 ++ [⟨88, [iv l.grs[j].ver, iv l.grs[j].cel], true, true⟩]) (Gro.one _ _) (by rw [gok, q2, q3]; simp; omega)
    repeat (first | refine sA ?_ | refine sB ?_ | refine sC ?_ | refine sD ?_ | refine sE rfl ?_ | refine sF rfl ?_ | refine sG rfl ?_ | ((first | refine sk_reg fun K hK => ?_ | refine sk_drw mix fun K hK => ?_); simp [hj, hv2, e0.s, e1.s, e2.s, e3.s, f0.s, f1.s, hl3, htot, q2, q3, hp, hwj]; (repeat ((first | refine AskX.go (in_ac _ _ _) ?_ | refine AskD.go (in_ac _ _ _) ?_ | refine AskX.go (total_ac ⟨_, _, rfl⟩ rfl) ?_ | refine AskD.go (total_ac ⟨_, _, rfl⟩ rfl) ?_); simp [hj, hv2, e0.s, e1.s, e2.s, e3.s, f0.s, f1.s, hl3, htot, q2, q3, hp, hwj])); refine hK _ ?_; clear hK K))
    exact sk_inv ⟨by simp [subL, getT, hv2], g⟩
  ·rintro H2 ⟨hg2, hb2, hpre2⟩
   have e0 : CF H2 H1.length 0 (iv l.gone) := CF.of hb2 rfl rfl
   have e2 : CF H2 H1.length 2 (.slice a2 l.grs.length c2) := CF.of hb2 rfl rfl
   have hgs : (List.range l.grs.length).all (gOk (totL l) l.grs) = true := by rw [List.all_eq_true]; exact fun q hq => hpre2 q (List.mem_range.1 hq)
   by_cases q2 : reachL l.grs < l.gone
   ·have hr := bad (by simp only [ok3, q1, hgs]; simp; omega)
    repeat (first | refine sA ?_ | refine sB ?_ | refine sC ?_ | refine sD ?_ | refine sE rfl ?_ | refine sF rfl ?_ | refine sG rfl ?_ | ((first | refine sk_reg fun K hK => ?_ | refine sk_drw mix fun K hK => ?_); simp [e0.s, e2.s, q2]; (repeat ((first | refine AskX.go (reach_ac (hw2.gro hg2 (RP.frm _))) ?_ | refine AskD.go (reach_ac (hw2.gro hg2 (RP.frm _))) ?_); simp [e0.s, e2.s, q2])); refine hK _ ?_; clear hK K))
    refine sk_ret ?_; simp [hr]
    exact hg.trans hg2
   ·repeat (first | refine sA ?_ | refine sB ?_ | refine sC ?_ | refine sD ?_ | refine sE rfl ?_ | refine sF rfl ?_ | refine sG rfl ?_ | ((first | refine sk_reg fun K hK => ?_ | refine sk_drw mix fun K hK => ?_); simp [e0.s, e2.s, q2, hwi]; (repeat ((first | refine AskX.go (reach_ac (hw2.gro hg2 (RP.frm _))) ?_ | refine AskD.go (reach_ac (hw2.gro hg2 (RP.frm _))) ?_); simp [e0.s, e2.s, q2, hwi])); refine hK _ ?_; clear hK K))
    refine sk_inv ⟨by simp [subL, getT, hve], hg.trans hg2, hg2.get hb, fun j hj hx => ?_⟩
    by_cases e : j = i
    ·subst e; rw [hln]; simp only [ok3, q1, hgs]; simp; omega
    ·exact hpre j (by omega) hx
 clear hg hb hall H1
 rintro H1 ⟨hg, hb, hall⟩
 have hk3 : b.lines.all ok3 = true := all_true_at fun j hj => hall j hj hj
 have cb2 : CF H1 H.length 2 (.slice a0 b.lines.length c0) := CF.of hb rfl rfl
 repeat (first | refine sA ?_ | refine sB ?_ | refine sC ?_ | refine sD ?_ | refine sE rfl ?_ | refine sF rfl ?_ | refine sG rfl ?_ | ((first | refine sk_reg fun K hK => ?_ | refine sk_drw mix fun K hK => ?_); simp [cb2.s]; refine hK _ ?_; clear hK K))
 clear cb2
 -- the third loop: shortened ways
 refine sk_rng b.lines.length (fun i => [(1, pt H.length 0), (129, .slice a0 b.lines.length c0), (130, iv b.lines.length), (131, iv i)]) (fun i H2 => Gro H H2 ∧ H2[H.length]? = some ⟨39, [.bool b.ok, iv b.sec, .slice a0 b.lines.length c0], true, true⟩ ∧ ∀ j (hj : j < i) (hx : j < b.lines.length), ok4 b.lines[j] = true) (by simp [subL, getT]) ⟨hg, hb, fun j hj => by omega⟩ ?_ ?_
 ·clear hg hb hall H1
  rintro i H1 hi ⟨hg, hb, hpre⟩
  have hl := hg.len
  obtain ⟨id, o, v1, v2, E1, E2, hve, hid, d0, d1, d2, d3, hw1, hw2, x1, x2, _⟩ := (hv.gro hg RLn.frm).line hi
  have hok2 := ok2_in (all_at hk2 hi)
  have hok3 := all_at hk3 hi
  generalize hln : b.lines[i] = l at *
  obtain ⟨a1, c1, rfl⟩ := hw1.form
  obtain ⟨a2, c2, rfl⟩ := hw2.form
  have hwi := wrap_id (x := (i : Int) + 1) (by omega) (by omega)
  have hn1 := hw1.1
  have hn2 := hw2.1
  have htot := wrap_id (x := l.gone + l.way.length) (by unfold totL at hok2; omega) (by unfold totL at hok2; omega)
  have htot : IntKind.i64.wrap (l.gone + l.way.length) = totL l := htot
  have hwt := wrap_id (x := totL l - 1) (by omega) (by omega)
  simp only [ok3, inB, Bool.and_eq_true, decide_eq_true_eq] at hok3
  have hp1 : l.grs.length - 1 < l.grs.length := by omega
  have hwg : IntKind.i64.wrap ((l.grs.length : Int) - 1) = ((l.grs.length - 1 : Nat) : Int) := by rw [wrap_id (by omega) (by omega)]; omega
  obtain ⟨id3, o3, hv3, hid3, g0, g1⟩ := hw2.gr hp1
  have bad : ok4 l = false → bookOkB b = 4 := fun e => bookOkB_4 hk1 hk2 hk3 (all_false_at hi (by rw [hln]; exact e))
  have next : ∀ H3, Gro H1 H3 → ok4 l = true → Gro H H3 ∧ H3[H.length]? = some ⟨39, [.bool b.ok, iv b.sec, .slice a0 b.lines.length c0], true, true⟩ ∧ ∀ j (hj : j < i + 1) (hx : j < b.lines.length), ok4 b.lines[j] = true := fun H3 g3 e => ⟨hg.trans g3, g3.get hb, fun j hj hx => by
   by_cases e : j = i
   ·subst e; rw [hln]; assumption
   ·exact hpre j (by omega) hx⟩
  have key : ok4 l = (decide (l.drop = -1) || (inB l.drop l.gone (totL l - 1) && decide (l.grs[l.grs.length - 1].cel ≤ l.drop) && decide (totL l ≤ reachL l.grs))) := by rw [ok4, gAt_eq hp1]
  by_cases q1 : l.drop = -1
  ·have g := next (H1 ++ [⟨50, [iv l.gone, .slice a1 l.way.length c1, .slice a2 l.grs.length c2, iv l.drop], true, true⟩]) (Gro.one _ _) (by rw [key]; simp [q1])
   have q1' := eq_true q1
   repeat (first | refine sA ?_ | refine sB ?_ | refine sC ?_ | refine sD ?_ | refine sE rfl ?_ | refine sF rfl ?_ | refine sG rfl ?_ | ((first | refine sk_reg fun K hK => ?_ | refine sk_drw mix fun K hK => ?_); simp [hi, hve, d0.s, d1.s, d2.s, d3.s, x1, x2, hl, q1', hwi]; refine hK _ ?_; clear hK K))
   exact sk_inv ⟨by simp [subL, getT, hve], g⟩
  cases q2 : inB l.drop l.gone (totL l - 1)
  ·have hr := bad (by rw [key]; simp [q1, q2])
   repeat (first | refine sA ?_ | refine sB ?_ | refine sC ?_ | refine sD ?_ | refine sE rfl ?_ | refine sF rfl ?_ | refine sG rfl ?_ | ((first | refine sk_reg fun K hK => ?_ | refine sk_drw mix fun K hK => ?_); simp [hi, hve, d0.s, d1.s, d2.s, d3.s, x1, x2, hl, q1, q2, htot, hwt]; (repeat ((first | refine AskX.go (in_ac _ _ _) ?_ | refine AskD.go (in_ac _ _ _) ?_ | refine AskX.go (total_ac ⟨_, _, rfl⟩ rfl) ?_ | refine AskD.go (total_ac ⟨_, _, rfl⟩ rfl) ?_); simp [hi, hve, d0.s, d1.s, d2.s, d3.s, x1, x2, hl, q1, q2, htot, hwt])); refine hK _ ?_; clear hK K))
   refine sk_ret ?_; simp [hr]
   exact hg.app _
  by_cases q3 : l.drop < l.grs[l.grs.length - 1].cel
  ·have hr := bad (by rw [key]; simp [q1, q2]; omega)
   repeat (first | refine sA ?_ | refine sB ?_ | refine sC ?_ | refine sD ?_ | refine sE rfl ?_ | refine sF rfl ?_ | refine sG rfl ?_ | ((first | refine sk_reg fun K hK => ?_ | refine sk_drw mix fun K hK => ?_); simp [hi, hve, hv3, d0.s, d1.s, d2.s, d3.s, g0.s, g1.s, x1, x2, hl, q1, q2, q3, htot, hwt, hwg, hp1]; (repeat ((first | refine AskX.go (in_ac _ _ _) ?_ | refine AskD.go (in_ac _ _ _) ?_ | refine AskX.go (total_ac ⟨_, _, rfl⟩ rfl) ?_ | refine AskD.go (total_ac ⟨_, _, rfl⟩ rfl) ?_); simp [hi, hve, hv3, d0.s, d1.s, d2.s, d3.s, g0.s, g1.s, x1, x2, hl, q1, q2, q3, htot, hwt, hwg, hp1])); refine hK _ ?_; clear hK K))
   refine sk_ret ?_; simp [hr]
   exact hg.app _
  by_cases q4 : reachL l.grs < totL l
  ·have hr := bad (by rw [key]; simp [q1, q2]; omega)
   rw [hv3] at hw2
   repeat (first | refine sA ?_ | refine sB ?_ | refine sC ?_ | refine sD ?_ | refine sE rfl ?_ | refine sF rfl ?_ | refine sG rfl ?_ | ((first | refine sk_reg fun K hK => ?_ | refine sk_drw mix fun K hK => ?_); simp [hi, hve, hv3, d0.s, d1.s, d2.s, d3.s, g0.s, g1.s, x1, x2, hl, q1, q2, q3, q4, htot, hwt, hwg, hp1]; (repeat ((first | refine AskX.go (in_ac _ _ _) ?_ | refine AskD.go (in_ac _ _ _) ?_ | refine AskX.go (total_ac ⟨_, _, rfl⟩ rfl) ?_ | refine AskD.go (total_ac ⟨_, _, rfl⟩ rfl) ?_ | refine AskX.go (reach_ac (hw2.ext (RP.frm _))) ?_ | refine AskD.go (reach_ac (hw2.ext (RP.frm _))) ?_); simp [hi, hve, hv3, d0.s, d1.s, d2.s, d3.s, g0.s, g1.s, x1, x2, hl, q1, q2, q3, q4, htot, hwt, hwg, hp1])); refine hK _ ?_; clear hK K))
   refine sk_ret ?_; simp [hr]
   exact hg.app _
  ·have g := next (H1 ++ [⟨50, [iv l.gone, .slice a1 l.way.length c1, .slice a2 l.grs.length c2, iv l.drop], true, true⟩]) (Gro.one _ _) (by rw [key]; simp [q1, q2]; omega)
   rw [hv3] at hw2 g
   repeat (first | refine sA ?_ | refine sB ?_ | refine sC ?_ | refine sD ?_ | refine sE rfl ?_ | refine sF rfl ?_ | refine sG rfl ?_ | ((first | refine sk_reg fun K hK => ?_ | refine sk_drw mix fun K hK => ?_); simp [hi, hve, hv3, d0.s, d1.s, d2.s, d3.s, g0.s, g1.s, x1, x2, hl, q1, q2, q3, q4, htot, hwt, hwg, hp1, hwi]; (repeat ((first | refine AskX.go (in_ac _ _ _) ?_ | refine AskD.go (in_ac _ _ _) ?_ | refine AskX.go (total_ac ⟨_, _, rfl⟩ rfl) ?_ | refine AskD.go (total_ac ⟨_, _, rfl⟩ rfl) ?_ | refine AskX.go (reach_ac (hw2.ext (RP.frm _))) ?_ | refine AskD.go (reach_ac (hw2.ext (RP.frm _))) ?_); simp [hi, hve, hv3, d0.s, d1.s, d2.s, d3.s, g0.s, g1.s, x1, x2, hl, q1, q2, q3, q4, htot, hwt, hwg, hp1, hwi])); refine hK _ ?_; clear hK K))
   exact sk_inv ⟨by simp [subL, getT, hve], g⟩
 clear hg hb hall H1
 rintro H1 ⟨hg, hb, hall⟩
 have hk4 : b.lines.all ok4 = true := all_true_at fun j hj => hall j hj hj
 have cb2 : CF H1 H.length 2 (.slice a0 b.lines.length c0) := CF.of hb rfl rfl
 have hl := hg.len
 have hlt : H.length < H1.length := lt_of_get hb
 repeat (first | refine sA ?_ | refine sB ?_ | refine sC ?_ | refine sD ?_ | refine sE rfl ?_ | refine sF rfl ?_ | refine sG rfl ?_ | ((first | refine sk_reg fun K hK => ?_ | refine sk_drw mix fun K hK => ?_); simp [cb2.s, hl]; refine hK _ ?_; clear hK K))
 -- the fourth loop: every section once
 refine sk_rng b.lines.length (fun i => [(1, pt H.length 0), (13, .map (some H1.length)), (174, .slice a0 b.lines.length c0), (175, iv b.lines.length), (176, iv i)])
  (fun i H2 => Gro H H2 ∧ H2[H1.length]? = some ⟨108, encM (secs (b.lines.take i)), true, false⟩ ∧ (secs (b.lines.take i)).Nodup) (by simp [subL, getT]) ⟨hg.app _, by simp [secs, encM], by simp [secs]⟩ ?_ ?_
 ·rintro i H2 hi ⟨hg2, hm, hnd⟩
  have hl2 := hg2.len
  obtain ⟨id, o, v1, v2, E1, E2, hve, hid, d0, d1, d2, d3, hw1, hw2, x1, x2, _⟩ := hv.line hi
  have e0 := d0.gro hg2
  have e1 := d1.gro hg2
  have e2 := d2.gro hg2
  have e3 := d3.gro hg2
  have hst := secs_take hi
  obtain ⟨rest, hsp⟩ := secs_split hi
  generalize hln : b.lines[i] = l at *
  obtain ⟨a1, c1, rfl⟩ := hw1.form
  have hwi := wrap_id (x := (i : Int) + 1) (by omega) (by omega)
  have hn1 := hw1.1
  repeat (first | refine sA ?_ | refine sB ?_ | refine sC ?_ | refine sD ?_ | refine sE rfl ?_ | refine sF rfl ?_ | refine sG rfl ?_ | ((first | refine sk_reg fun K hK => ?_ | refine sk_drw mix fun K hK => ?_); simp [hi, hve, e0.s, e1.s, e2.s, e3.s, x1, x2, hl2]; refine hK _ ?_; clear hK K))
  refine sk_rng l.way.length (fun j => [(1, pt H.length 0), (13, .map (some H1.length)), (174, .slice a0 b.lines.length c0), (175, iv b.lines.length), (176, iv i), (181, .slice a1 l.way.length c1), (182, iv l.way.length), (183, iv j)])
   (fun j H2 => Gro H H2 ∧ H2[H1.length]? = some ⟨108, encM (secs (b.lines.take i) ++ l.way.take j), true, false⟩ ∧ (secs (b.lines.take i) ++ l.way.take j).Nodup) (by simp [subL, getT, hve]) ⟨hg2.app _, by simpa using (Gro.one _ _).get hm, by simpa using hnd⟩ ?_ ?_
  ·rintro j H3 hj ⟨hg3, hm3, hnd3⟩
   have hl3 := hg3.len
   have hlt3 : H1.length < H3.length := lt_of_get hm3
   obtain ⟨id2, o2, hv2, hid2, f0⟩ := (hw1.gro hg3 (RP.frm _)).int hj
   have hwj := wrap_id (x := (j : Int) + 1) (by omega) (by omega)
   have lk := lookA_enc l.way[j] mz_108 hm3
   have htk := take_snoc hj
   by_cases q : l.way[j] ∈ secs (b.lines.take i) ++ l.way.take j
   ·have hr := bookOkB_5 hk1 hk2 hk3 hk4 (fun hh => by
     rw [hsp, ← List.append_assoc] at hh
     have e : l.way = l.way.take j ++ l.way[j] :: l.way.drop (j + 1) := by rw [List.getElem_cons_drop]; exact (List.take_append_drop j l.way).symm
     rw [e, ← List.append_assoc, List.append_assoc] at hh
     exact (List.nodup_append.1 hh).2.2 _ q l.way[j] (List.mem_append_left _ List.mem_cons_self) rfl)
    rw [decide_eq_true q] at lk
    repeat (first | refine sA ?_ | refine sB ?_ | refine sC ?_ | refine sD ?_ | refine sE rfl ?_ | refine sF rfl ?_ | refine sG rfl ?_ | ((first | refine sk_reg fun K hK => ?_ | refine sk_drw mix fun K hK => ?_); simp [hj, hv2, f0.s, lk]; refine hK _ ?_; clear hK K))
    refine sk_ret ?_; simp [hr]
    exact hg3
   ·have mp := mputA_enc mz_108 hm3 q
    rw [decide_eq_false q] at lk
    repeat (first | refine sA ?_ | refine sB ?_ | refine sC ?_ | refine sD ?_ | refine sE rfl ?_ | refine sF rfl ?_ | refine sG rfl ?_ | ((first | refine sk_reg fun K hK => ?_ | refine sk_drw mix fun K hK => ?_); simp [hj, hv2, f0.s, lk, mp, hwj, hl]; refine hK _ ?_; clear hK K))
    refine sk_inv ⟨by simp [subL, getT, hv2], hg3.set hl _, ?_, ?_⟩
    ·rw [htk, ← List.append_assoc]; simp [hlt3]
    ·rw [htk, ← List.append_assoc, List.nodup_append]
     exact ⟨hnd3, by simp, fun a ha b hb hab => by simp at hb; subst hb; subst hab; exact q ha⟩
  ·rintro H3 ⟨hg3, hm3, hnd3⟩
   repeat (first | refine sA ?_ | refine sB ?_ | refine sC ?_ | refine sD ?_ | refine sE rfl ?_ | refine sF rfl ?_ | refine sG rfl ?_ | ((first | refine sk_reg fun K hK => ?_ | refine sk_drw mix fun K hK => ?_); simp [hwi]; refine hK _ ?_; clear hK K))
   rw [List.take_length, ← hst] at hm3 hnd3
   exact sk_inv ⟨by simp [subL, getT, hve], hg3, hm3, hnd3⟩
 ·rintro H2 ⟨hg2, hm, hnd⟩
  rw [List.take_length] at hnd
  have hr := bookOkB_0 hk1 hk2 hk3 hk4 hnd
  repeat (first | refine sA ?_ | refine sB ?_ | refine sC ?_ | refine sD ?_ | refine sE rfl ?_ | refine sF rfl ?_ | refine sG rfl ?_ | ((first | refine sk_reg fun K hK => ?_ | refine sk_drw mix fun K hK => ?_); simp; refine hK _ ?_; clear hK K))
  refine sk_ret ?_; simp [hr]
  exact hg2
end Go.Proofs.YtpoedfmkiiijnaaDoor
