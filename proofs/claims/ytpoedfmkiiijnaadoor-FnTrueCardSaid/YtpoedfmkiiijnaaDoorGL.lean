/- Texts of this repo, one behind the other (Cp2 Cp3 Cp4). Plain lemmas and walks. -/
import Derived.Test.YtpoedfmkiiijnaaDoorGD
import Derived.Test.YtpoedfmkiiijnaaDoorGF
import Derived.Test.YtpoedfmkiiijnaaDoorGC
namespace Go.Proofs.YtpoedfmkiiijnaaDoor
open Go Go.RowKit Go.Proofs.YtpoedfmkiiijnaaDoorAm
set_option linter.unusedVariables false
set_option linter.unusedSimpArgs false
set_option maxRecDepth 10000
set_option maxHeartbeats 4000000

def B69 : SC := .seq (.reg [⟨some 2, .assign (.const (.slice none 0 0)), none, []⟩]) (.seq (.seq (.reg [⟨some 3, .move (.tmp 0), none, []⟩, ⟨some 4, .binOp .eql 22 (.tmp 3) (.const (.slice none 0 0)) 22, none, []⟩]) (.cond (.tmp 4) (.seq (.reg [⟨some 2, .assign (.const (.slice none 0 0)), none, []⟩]) .ret) .skip)) (.seq (.reg [⟨some 5, .buildSlice 22 0 #[], none, []⟩, ⟨some 6, .move (.tmp 0), none, []⟩, ⟨some 7, .call ⟨.builtin .append, #[.tmp 5, .tmp 6], #[22, 22]⟩, none, []⟩, ⟨some 2, .assign (.tmp 7), none, []⟩]) .ret))
theorem s69 : Tryd.f69.body.bind (stripC 8) = some B69 := by kernel_rfl
theorem cloneI_mk {H : Heap} {E : List Nat} {v : Value} {xs : List Int} (h : RS 1 RInt H E v xs) (hb : xs.length ≤ 1048576) : Mkr Tryd.prog 69 [v] H fun H' E' v' => RW 3 1 RInt H' E' v' xs := by
 refine Mkr.of_bodyS (N := 8) Tryd.func69 s69 (by kernel_rfl) rfl rfl (by simp) ?_; unfold B69
 by_cases hn : v = nl
 ·subst hn
  obtain rfl := h.nilx
  repeat (first | refine sA ?_ | refine sB ?_ | refine sC ?_ | refine sD ?_ | refine sE rfl ?_ | refine sF rfl ?_ | refine sG rfl ?_ | (refine sk_reg fun K hK => ?_; simp; refine hK _ ?_; clear hK K))
  refine sk_ret ?_; simp
  exact ⟨[], .inl ⟨rfl, rfl, rfl⟩, ⟨List.nodup_nil, fun i hi => by simp at hi⟩, fun i hi => by simp at hi⟩
 ·obtain ⟨k, v', H2, E', e1, e2, e3, e4, e5, e6⟩ := clone_app (P := Tryd.prog) (t := 22) (e := 3) (sz := 0) (by' := 8) (z := iv 0) (by simp) (by simp) (by simp) (by simp) rfl (g := cInt) (fun _ => rfl) h (by omega) (by simp [maxLen]; omega)
  obtain ⟨a, c, rfl⟩ := h.some hn
  repeat (first | refine sA ?_ | refine sB ?_ | refine sC ?_ | refine sD ?_ | refine sE rfl ?_ | refine sF rfl ?_ | refine sG rfl ?_ | (refine sk_reg fun K hK => ?_; simp [e1, e2]; refine hK _ ?_; clear hK K))
  refine sk_ret ?_; simp
  exact ⟨e3.len, fun i hi => e3.same hi, E', e4, e5, e6⟩

def B70 : SC := .seq (.reg [⟨some 2, .assign (.const (.slice none 0 0)), none, []⟩]) (.seq (.seq (.reg [⟨some 3, .move (.tmp 0), none, []⟩, ⟨some 4, .binOp .eql 48 (.tmp 3) (.const (.slice none 0 0)) 48, none, []⟩]) (.cond (.tmp 4) (.seq (.reg [⟨some 2, .assign (.const (.slice none 0 0)), none, []⟩]) .ret) .skip)) (.seq (.reg [⟨some 5, .buildSlice 48 0 #[], none, []⟩, ⟨some 6, .move (.tmp 0), none, []⟩, ⟨some 7, .call ⟨.builtin .append, #[.tmp 5, .tmp 6], #[48, 48]⟩, none, []⟩, ⟨some 2, .assign (.tmp 7), none, []⟩]) .ret))
theorem s70 : Tryd.f70.body.bind (stripC 8) = some B70 := by kernel_rfl
theorem cloneG_mk {H : Heap} {E : List Nat} {v : Value} {xs : List Gr} (h : RS 2 RGr H E v xs) (hb : xs.length ≤ 1048576) : Mkr Tryd.prog 70 [v] H fun H' E' v' => RW 88 2 RGr H' E' v' xs := by
 refine Mkr.of_bodyS (N := 8) Tryd.func70 s70 (by kernel_rfl) rfl rfl (by simp) ?_; unfold B70
 by_cases hn : v = nl
 ·subst hn
  obtain rfl := h.nilx
  repeat (first | refine sA ?_ | refine sB ?_ | refine sC ?_ | refine sD ?_ | refine sE rfl ?_ | refine sF rfl ?_ | refine sG rfl ?_ | (refine sk_reg fun K hK => ?_; simp; refine hK _ ?_; clear hK K))
  refine sk_ret ?_; simp
  exact ⟨[], .inl ⟨rfl, rfl, rfl⟩, ⟨List.nodup_nil, fun i hi => by simp at hi⟩, fun i hi => by simp at hi⟩
 ·obtain ⟨k, v', H2, E', e1, e2, e3, e4, e5, e6⟩ := clone_app (P := Tryd.prog) (t := 48) (e := 88) (sz := 1) (by' := 16) (z := .agg #[iv 0, iv 0]) (by simp) (by simp) (by simp) (by simp) rfl (g := cGr) (fun _ => rfl) h (by omega) (by simp [maxLen]; omega)
  obtain ⟨a, c, rfl⟩ := h.some hn
  repeat (first | refine sA ?_ | refine sB ?_ | refine sC ?_ | refine sD ?_ | refine sE rfl ?_ | refine sF rfl ?_ | refine sG rfl ?_ | (refine sk_reg fun K hK => ?_; simp [e1, e2]; refine hK _ ?_; clear hK K))
  refine sk_ret ?_; simp
  exact ⟨e3.len, fun i hi => e3.same hi, E', e4, e5, e6⟩

def B51 : SC := .seq (.reg [⟨some 2, .assign (.const (.slice none 0 0)), none, []⟩]) (.seq (.seq (.reg [⟨some 3, .move (.tmp 0), none, []⟩, ⟨some 4, .binOp .eql 40 (.tmp 3) (.const (.slice none 0 0)) 40, none, []⟩]) (.cond (.tmp 4) (.seq (.reg [⟨some 2, .assign (.const (.slice none 0 0)), none, []⟩]) .ret) .skip)) (.seq (.reg [⟨some 5, .buildSlice 40 0 #[], none, []⟩, ⟨some 6, .move (.tmp 0), none, []⟩, ⟨some 7, .call ⟨.builtin .append, #[.tmp 5, .tmp 6], #[40, 40]⟩, none, []⟩, ⟨some 2, .assign (.tmp 7), none, []⟩]) .ret))
theorem s51 : Tryd.f51.body.bind (stripC 8) = some B51 := by kernel_rfl
theorem cloneB_mk {H : Heap} {E : List Nat} {v : Value} {xs : List Bd} (h : RS 4 RBd H E v xs) (hb : xs.length ≤ 1048576) : Mkr Tryd.prog 51 [v] H fun H' E' v' => RW 47 4 RBd H' E' v' xs := by
 refine Mkr.of_bodyS (N := 8) Tryd.func51 s51 (by kernel_rfl) rfl rfl (by simp) ?_; unfold B51
 by_cases hn : v = nl
 ·subst hn
  obtain rfl := h.nilx
  repeat (first | refine sA ?_ | refine sB ?_ | refine sC ?_ | refine sD ?_ | refine sE rfl ?_ | refine sF rfl ?_ | refine sG rfl ?_ | (refine sk_reg fun K hK => ?_; simp; refine hK _ ?_; clear hK K))
  refine sk_ret ?_; simp
  exact ⟨[], .inl ⟨rfl, rfl, rfl⟩, ⟨List.nodup_nil, fun i hi => by simp at hi⟩, fun i hi => by simp at hi⟩
 ·obtain ⟨k, v', H2, E', e1, e2, e3, e4, e5, e6⟩ := clone_app (P := Tryd.prog) (t := 40) (e := 47) (sz := 3) (by' := 32) (z := .agg #[iv 0, iv 0, iv 0, iv 0]) (by simp) (by simp) (by simp) (by simp) rfl (g := cBd) (fun _ => rfl) h (by omega) (by simp [maxLen]; omega)
  obtain ⟨a, c, rfl⟩ := h.some hn
  repeat (first | refine sA ?_ | refine sB ?_ | refine sC ?_ | refine sD ?_ | refine sE rfl ?_ | refine sF rfl ?_ | refine sG rfl ?_ | (refine sk_reg fun K hK => ?_; simp [e1, e2]; refine hK _ ?_; clear hK K))
  refine sk_ret ?_; simp
  exact ⟨e3.len, fun i hi => e3.same hi, E', e4, e5, e6⟩

end Go.Proofs.YtpoedfmkiiijnaaDoor
namespace Go.Proofs.YtpoedfmkiiijnaaDoor
open Go Go.RowKit Go.Proofs.YtpoedfmkiiijnaaDoorAm
set_option linter.unusedVariables false
set_option linter.unusedSimpArgs false
set_option maxRecDepth 10000
set_option maxHeartbeats 4000000
def clnQ (H : Heap) (E : List Nat) (ls : List Ln) (H' : Heap) (E' : List Nat) (v' : Value) : Prop :=
 (v' = nl ∧ ls = [] ∧ E' = []) ∨ ∃ id cells E0, v' = sl id 0 ls.length ∧ E' = [id] ∧ H'[id]? = some ⟨50, cells, true, true⟩ ∧ RCs 4 RLn H E0 ls cells ∧ ∀ e, e ∈ E0 → e ∈ E
theorem RLn.one {H : Heap} {E : List Nat} {l : Ln} {cs : List Value} (h : RLn H E l cs) : cs.all (·.oneCell') = true := by
 obtain ⟨E1, E2, v1, v2, rfl, rfl, h1, h2⟩ := h
 simp only [List.all_cons, List.all_nil, h1.one, h2.one]
 rfl
def B68 : SC := .seq (.reg [⟨some 2, .assign (.const (.slice none 0 0)), none, []⟩]) (.seq (.seq (.reg [⟨some 3, .move (.tmp 0), none, []⟩, ⟨some 4, .binOp .eql 37 (.tmp 3) (.const (.slice none 0 0)) 37, none, []⟩]) (.cond (.tmp 4) (.seq (.reg [⟨some 2, .assign (.const (.slice none 0 0)), none, []⟩]) .ret) .skip)) (.seq (.reg [⟨some 5, .buildSlice 37 0 #[], none, []⟩, ⟨some 6, .move (.tmp 0), none, []⟩, ⟨some 7, .call ⟨.builtin .append, #[.tmp 5, .tmp 6], #[37, 37]⟩, none, []⟩, ⟨some 2, .assign (.tmp 7), none, []⟩]) .ret))
theorem s68 : Tryd.f68.body.bind (stripC 8) = some B68 := by kernel_rfl
theorem cloneL_mk {H : Heap} {E : List Nat} {v : Value} {ls : List Ln} (h : RS 4 RLn H E v ls) (hb : ls.length ≤ 1048576) : Mkr Tryd.prog 68 [v] H (clnQ H E ls) := by
 refine Mkr.of_bodyS (N := 8) Tryd.func68 s68 (by kernel_rfl) rfl rfl (by simp) ?_; unfold B68
 by_cases hn : v = nl
 ·subst hn
  obtain rfl := h.nilx
  repeat (first | refine sA ?_ | refine sB ?_ | refine sC ?_ | refine sD ?_ | refine sE rfl ?_ | refine sF rfl ?_ | refine sG rfl ?_ | (refine sk_reg fun K hK => ?_; simp; refine hK _ ?_; clear hK K))
  refine sk_ret ?_; simp
  exact ⟨[], .inl ⟨rfl, rfl, rfl⟩, ⟨List.nodup_nil, fun i hi => by simp at hi⟩, fun i hi => by simp at hi⟩
 ·obtain ⟨E2, news, hsrc, h2, hE2, _⟩ := (h.ext (L := [⟨50, [], true, true⟩]) RLn.frm).src
  have e1 := apA_new (P := Tryd.prog) (t := 37) (e := 50) (sz := 3) (by' := 64) (z := .agg #[iv 0, nl, nl, iv 0]) (by simp) (by simp) (by simp) (by simp) rfl hsrc (h2.one RLn.one) (by omega) (by simp [maxLen]; omega)
  have hbd := h.bd RLn.frm
  obtain ⟨a, c, rfl⟩ := h.some hn
  repeat (first | refine sA ?_ | refine sB ?_ | refine sC ?_ | refine sD ?_ | refine sE rfl ?_ | refine sF rfl ?_ | refine sG rfl ?_ | (refine sk_reg fun K hK => ?_; simp [e1]; refine hK _ ?_; clear hK K))
  refine sk_ret ?_; simp
  refine ⟨fun i hi => List.getElem?_append_left hi, [H.length + 1], .inr ⟨H.length + 1, news, E2, rfl, rfl, by simp, h2.fr RLn.frm (agr_cut H _ fun e he => hbd e (hE2 e he)), hE2⟩, ⟨by simp, fun i hi => ?_⟩, fun i hi => by simp at hi; omega⟩
  simp at hi; subst hi
  exact rw_get (t := 50) (cs := news) (by simp)
def B50 : SC := .seq (.reg [⟨some 1, .box 39 (.tmp 0), none, []⟩, ⟨some 2, .alloc 39, none, []⟩]) (.seq (.reg [⟨some 5, .fieldAddr 39 (.tmp 1) 2, none, []⟩, ⟨some 6, .load 37 (.tmp 5), none, []⟩, ⟨some 7, .call ⟨.value (.func 68), #[.tmp 6], #[37]⟩, none, []⟩, ⟨some 8, .fieldAddr 39 (.tmp 1) 2, none, []⟩, ⟨none, .store 37 (.tmp 8) (.tmp 7), none, []⟩]) (.seq (.seq (.reg [⟨some 9, .fieldAddr 39 (.tmp 1) 2, none, []⟩, ⟨some 10, .load 37 (.tmp 9), none, []⟩, ⟨some 11, .call ⟨.builtin .len, #[.tmp 10], #[37]⟩, none, []⟩, ⟨some 12, .move (.const (.int .i64 0)), none, []⟩]) (.block 0 (.loop (.seq (.reg [⟨some 13, .binOp .lss 3 (.tmp 12) (.tmp 11) 3, none, []⟩]) (.seq (.cond (.tmp 13) .skip (.exit 0)) (.seq (.block 1 (.seq (.reg [⟨some 14, .move (.tmp 12), none, []⟩, ⟨some 3, .assign (.tmp 14), none, []⟩]) (.seq (.reg [⟨some 15, .fieldAddr 39 (.tmp 1) 2, none, []⟩, ⟨some 16, .load 37 (.tmp 15), none, []⟩, ⟨some 17, .move (.tmp 3), none, []⟩, ⟨some 18, .indexAddr 37 (.tmp 16) (.tmp 17), none, []⟩, ⟨some 4, .assign (.tmp 18), none, []⟩]) (.drw 0 [⟨some 19, .move (.tmp 4), none, []⟩, ⟨some 20, .move (.tmp 4), none, []⟩, ⟨some 21, .move (.tmp 4), none, []⟩, ⟨some 22, .nilCheck (.tmp 21), none, [2]⟩, ⟨some 23, .fieldAddr 50 (.tmp 22) 1, none, [3, 2]⟩, ⟨some 24, .load 22 (.tmp 23), none, [4, 3, 2]⟩, ⟨some 25, .call ⟨.value (.func 69), #[.tmp 24], #[22]⟩, none, [5, 4, 3, 2]⟩, ⟨some 26, .move (.tmp 4), none, []⟩, ⟨some 27, .nilCheck (.tmp 26), none, [7]⟩, ⟨some 28, .fieldAddr 50 (.tmp 27) 2, none, [8, 7]⟩, ⟨some 29, .load 48 (.tmp 28), none, [9, 8, 7]⟩, ⟨some 30, .call ⟨.value (.func 70), #[.tmp 29], #[48]⟩, none, [10, 9, 8, 7, 6, 5, 4, 3, 2]⟩, ⟨some 31, .nilCheck (.tmp 19), none, [0, 2, 3, 4, 5, 6, 10, 9, 8, 7, 11]⟩, ⟨some 32, .fieldAddr 50 (.tmp 31) 1, none, [12, 0, 2, 3, 4, 5, 6, 10, 9, 8, 7, 11]⟩, ⟨none, .store 22 (.tmp 32) (.tmp 25), none, [13, 12, 0, 2, 3, 4, 5, 6, 10, 9, 8, 7, 11]⟩, ⟨some 33, .nilCheck (.tmp 20), none, [1, 0, 2, 3, 4, 5, 6, 7, 8, 9, 10, 11, 12, 13, 14]⟩, ⟨some 34, .fieldAddr 50 (.tmp 33) 2, none, [15, 1, 0, 2, 3, 4, 5, 6, 7, 8, 9, 10, 11, 12, 13, 14]⟩, ⟨none, .store 48 (.tmp 34) (.tmp 30), none, [16, 15, 1, 0, 2, 3, 4, 5, 6, 7, 8, 9, 10, 11, 12, 13, 14]⟩])))) (.reg [⟨some 35, .binOp .add 3 (.tmp 12) (.const (.int .i64 1)) 3, none, []⟩, ⟨some 12, .move (.tmp 35), none, []⟩]))))))) (.seq (.reg [⟨some 36, .load 39 (.tmp 1), none, []⟩, ⟨none, .store 39 (.tmp 2) (.tmp 36), none, []⟩]) .ret)))
theorem s50 : Tryd.f50.body.bind (stripC 37) = some B50 := by kernel_rfl
theorem copied_mk {H : Heap} {E : List Nat} {b : Bk} {cs : List Value} (h : RBk H E b cs) (hb : b.lines.length ≤ 1048576) (hlen : ∀ l, l ∈ b.lines → lenOk l) :
  Mkr Tryd.prog 50 [.agg cs.toArray] H fun H' E' v' => ∃ w, v' = .agg #[.bool b.ok, iv b.sec, w] ∧ RS 4 RLnW H' E' w b.lines := by
 obtain ⟨v, rfl, hv⟩ := h
 have x := hv.one
 refine Mkr.of_bodyS (N := 37) Tryd.func50 s50 (by kernel_rfl) rfl rfl (by simp) ?_; unfold B50
 repeat (first | refine sA ?_ | refine sB ?_ | refine sC ?_ | refine sD ?_ | refine sE rfl ?_ | refine sF rfl ?_ | refine sG rfl ?_ | ((first | refine sk_reg fun K hK => ?_ | refine sk_drw mix fun K hK => ?_); simp [x]; refine hK _ ?_; clear hK K))
 refine sk_reg fun K hK => ?_; simp [x]
 refine AskX.mkr (cloneL_mk (hv.gro (by first | exact Gro.refl _ | exact ⟨_, rfl⟩ | exact ⟨_, by simp only [List.append_assoc, List.cons_append, List.nil_append]; rfl⟩ | exact ⟨[], by simp⟩) RLn.frm) hb) ?_; rintro w J A hQ o n; simp
 rcases hQ with ⟨rfl, hnil, rfl⟩ | ⟨id, cells, E0, rfl, rfl, hcell, hrc, hE0⟩
 ·simp
  refine hK _ ?_; clear hK K
  repeat (first | refine sA ?_ | refine sB ?_ | refine sC ?_ | refine sD ?_ | refine sE rfl ?_ | refine sF rfl ?_ | refine sG rfl ?_ | ((first | refine sk_reg fun K hK => ?_ | refine sk_drw mix fun K hK => ?_); simp; refine hK _ ?_; clear hK K))
  refine sk_rng 0 (fun i => [(1, pt H.length 0), (2, pt (H.length + 1) 0), (10, nl), (11, iv 0), (12, iv 0)]) (fun i H1 => H1 = H ++ ⟨39, [.bool b.ok, iv b.sec, nl], true, true⟩ :: ⟨39, [.bool false, iv 0, nl], true, true⟩ :: J) (by simp [subL, getT]) rfl (fun i H1 hi => by omega) ?_
  rintro H1 rfl
  repeat (first | refine sA ?_ | refine sB ?_ | refine sC ?_ | refine sD ?_ | refine sE rfl ?_ | refine sF rfl ?_ | refine sG rfl ?_ | ((first | refine sk_reg fun K hK => ?_ | refine sk_drw mix fun K hK => ?_); simp; refine hK _ ?_; clear hK K))
  refine sk_ret ?_; simp
  exact ⟨fun i hi => List.getElem?_append_left hi, [], ⟨by simp [hnil], .inl ⟨.inl rfl, hnil, rfl⟩⟩, ⟨List.nodup_nil, fun i hi => by simp at hi⟩, fun i hi => by simp at hi⟩
 simp
 refine hK _ ?_; clear hK K
 repeat (first | refine sA ?_ | refine sB ?_ | refine sC ?_ | refine sD ?_ | refine sE rfl ?_ | refine sF rfl ?_ | refine sG rfl ?_ | ((first | refine sk_reg fun K hK => ?_ | refine sk_drw mix fun K hK => ?_); simp; refine hK _ ?_; clear hK K))
 have hrc0 : RCs 4 RLn H E0 b.lines cells := hrc.fr RLn.frm (agr_cut H _ fun e he => hv.bd RLn.frm e (hE0 e he))
 have hid0 := n id (by simp)
 simp only [List.length_append, List.length_cons, List.length_nil] at hid0
 simp only [List.append_assoc, List.cons_append, List.nil_append] at hcell
 rw [get_t2 _ _ _ _ (by omega)] at hcell
 refine sk_rng b.lines.length (fun i => [(1, pt H.length 0), (2, pt (H.length + 1) 0), (10, sl id 0 b.lines.length), (11, iv b.lines.length), (12, iv i)])
  (fun i H1 => Gro H H1 ∧ H1[H.length]? = some ⟨39, [.bool b.ok, iv b.sec, sl id 0 b.lines.length], true, true⟩ ∧ H1[H.length + 1]? = some ⟨39, [.bool false, iv 0, nl], true, true⟩ ∧
   ∃ A done rest E1, H1[id]? = some ⟨50, done ++ rest, true, true⟩ ∧ RCs 4 RLnW H1 A (b.lines.take i) done ∧ RCs 4 RLn H E1 (b.lines.drop i) rest ∧ Own H1 A ∧ ∀ e, e ∈ A → H.length + 2 ≤ e ∧ e ≠ id)
  (by simp [subL, getT]) ⟨Gro.one _ _, by simp, by simp, [], [], cells, E0, by rw [get_t2 _ _ _ _ (by omega)]; exact hcell, ⟨rfl, rfl⟩, by simpa using hrc0, ⟨List.nodup_nil, fun i hi => by simp at hi⟩, fun e he => by simp at he⟩ ?_ ?_
 ·clear hcell hrc hrc0 o n
  rintro i H1 hi ⟨hg, hb0, hb1, A, done, rest, E1, hbk, hdn, hrs, ho, hA⟩
  have hl := hg.len
  have hw := wrap_id (x := (i : Int) + 1) (by omega) (by omega)
  have hdl := hdn.len
  rw [List.length_take, Nat.min_eq_left (by omega)] at hdl
  have htk := take_snoc hi
  have hlo := hlen _ (List.getElem_mem hi)
  rw [drop_cons hi] at hrs
  generalize hln : b.lines[i] = l at *
  obtain ⟨_, F3, _, rest, rfl, rfl, _, ⟨F1, F2, v1, v2, rfl, rfl, r1, r2⟩, hrs⟩ := hrs
  have x1 := r1.one
  have x2 := r2.one
  have c2 : CF H1 H.length 2 (sl id 0 b.lines.length) := CF.of hb0 rfl rfl
  have g0 : CF H1 id (i * 4) (iv l.gone) := CF.of hbk rfl (by have := get_mid (j := 0) (z := rest) (m := [iv l.gone, v1, v2, iv l.drop]) hdl rfl; simpa using this)
  have g1 : CF H1 id (i * 4 + 1) v1 := CF.of hbk rfl (by have := get_mid (j := 1) (z := rest) (m := [iv l.gone, v1, v2, iv l.drop]) hdl rfl; simpa using this)
  have g2 : CF H1 id (i * 4 + 2) v2 := CF.of hbk rfl (by have := get_mid (j := 2) (z := rest) (m := [iv l.gone, v1, v2, iv l.drop]) hdl rfl; simpa using this)
  have hrw := RF.of hbk
  have hidl : H.length ≤ id := by omega
  repeat (first | refine sA ?_ | refine sB ?_ | refine sC ?_ | refine sD ?_ | refine sE rfl ?_ | refine sF rfl ?_ | refine sG rfl ?_ | ((first | refine sk_reg fun K hK => ?_ | refine sk_drw mix fun K hK => ?_); simp [hi, c2.s]; refine hK _ ?_; clear hK K))
  refine sk_drw mix fun K hK => ?_; simp [g1.s, g2.s]
  refine AskD.mkr (cloneI_mk (r1.gro hg (RP.frm _)) hlo.1) ?_; rintro u1 J1 A1 q1 o1 n1; simp [g1.s, g2.s, hrw.s, x1, x2]
  refine AskD.mkr (cloneG_mk (r2.gro (hg.app J1) (RP.frm _)) hlo.2) ?_; rintro u2 J2 A2 q2 o2 n2; simp [g1.s, g2.s, hrw.s, x1, x2, hidl, q1.one, q1.cv, q2.one, q2.cv]
  refine hK _ ?_; clear hK K
  repeat (first | refine sA ?_ | refine sB ?_ | refine sC ?_ | refine sD ?_ | refine sE rfl ?_ | refine sF rfl ?_ | refine sG rfl ?_ | ((first | refine sk_reg fun K hK => ?_ | refine sk_drw mix fun K hK => ?_); simp [hw]; refine hK _ ?_; clear hK K))
  have hlt := lt_of_get hbk
  have hA1 := ho.lt
  have o1l := o1.lt
  have hbk' := get_app (J1 ++ J2) hbk
  have hF : ∀ e, e ≠ id → ((Heap.put (H1 ++ (J1 ++ J2)) id (i * 4 + 1) u1).put id (i * 4 + 2) u2)[e]? = (H1 ++ (J1 ++ J2))[e]? := fun e he => by rw [get_put_ne _ _ _ he, get_put_ne _ _ _ he]
  have hFid : ((Heap.put (H1 ++ (J1 ++ J2)) id (i * 4 + 1) u1).put id (i * 4 + 2) u2)[id]? = some ⟨50, done ++ ([iv l.gone, u1, u2, iv l.drop] ++ rest), true, true⟩ := by
   rw [get_put, get_put, hbk']
   simp only [Option.map_some]
   rw [set_mid hdl (by simp), set_mid hdl (by simp)]
   rfl
  generalize hFF : ((Heap.put (H1 ++ (J1 ++ J2)) id (i * 4 + 1) u1).put id (i * 4 + 2) u2) = F at hF hFid ⊢
  have a0 : ∀ e, e ∈ A → F[e]? = H1[e]? := fun e he => by rw [hF e (hA e he).2, List.getElem?_append_left (hA1 e he)]
  have a1 : ∀ e, e ∈ A1 → F[e]? = (H1 ++ J1)[e]? := fun e he => by
   have := n1 e he
   have := o1l e he
   rw [hF e (by omega), ← List.append_assoc, List.getElem?_append_left (o1l e he)]
  have a2 : ∀ e, e ∈ A2 → F[e]? = (H1 ++ J1 ++ J2)[e]? := fun e he => by
   have := n2 e he
   simp only [List.length_append] at this
   rw [hF e (by omega), ← List.append_assoc]
  have hgF : Gro H F := by rw [← hFF]; exact ((hg.app _).put hidl _ _).put hidl _ _
  refine sk_inv ⟨by simp [subL, getT], hgF, by rw [hF _ (by omega)]; exact get_app _ hb0, by rw [hF _ (by omega)]; exact get_app _ hb1, A ++ (A1 ++ A2), done ++ [iv l.gone, u1, u2, iv l.drop], rest, F3, ?_, ?_, hrs, ?_, ?_⟩
  ·rw [hFid, List.append_assoc]
  ·rw [htk]
   have hR : RLnW F (A1 ++ A2) l [iv l.gone, u1, u2, iv l.drop] := ⟨A1, A2, u1, u2, rfl, rfl, q1.fr (RP.frm _) fun e he _ => a1 e he, q2.fr (RP.frm _) fun e he _ => a2 e he⟩
   exact (hdn.fr RLnW.frm fun e he _ => a0 e he).app ⟨A1 ++ A2, [], _, [], by simp, by simp, rfl, hR, rfl, rfl⟩
  ·refine (ho.fr a0).app ((o1.fr a1).app (o2.fr a2) fun e h1 h2 => ?_) fun e h1 h2 => ?_
   ·have := o1l e h1; have := n2 e h2; omega
   ·have := hA1 e h1
    rcases List.mem_append.1 h2 with h2 | h2
    ·have := n1 e h2; omega
    ·have := n2 e h2; simp at this; omega
  ·intro e he
   rcases List.mem_append.1 he with he | he
   ·exact hA e he
   ·rcases List.mem_append.1 he with he | he
    ·have := n1 e he; omega
    ·have := n2 e he; simp at this; omega
 ·clear hcell hrc hrc0 o n
  rintro H1 ⟨hg, hb0, hb1, A, done, rest, E1, hbk, hdn, hrs, ho, hA⟩
  rw [List.drop_length] at hrs
  obtain ⟨_, rfl⟩ := hrs
  rw [List.take_length] at hdn
  rw [List.append_nil] at hbk
  have c0 : CF H1 H.length 0 (.bool b.ok) := CF.of hb0 rfl rfl
  have c1 : CF H1 H.length 1 (iv b.sec) := CF.of hb0 rfl rfl
  have c2 : CF H1 H.length 2 (sl id 0 b.lines.length) := CF.of hb0 rfl rfl
  have d0 : CF H1 (H.length + 1) 0 (.bool false) := CF.of hb1 rfl rfl
  have d1 : CF H1 (H.length + 1) 1 (iv 0) := CF.of hb1 rfl rfl
  have d2 : CF H1 (H.length + 1) 2 nl := CF.of hb1 rfl rfl
  have hrw := RF.of hb1
  repeat (first | refine sA ?_ | refine sB ?_ | refine sC ?_ | refine sD ?_ | refine sE rfl ?_ | refine sF rfl ?_ | refine sG rfl ?_ | ((first | refine sk_reg fun K hK => ?_ | refine sk_drw mix fun K hK => ?_); simp [c0.s, c1.s, c2.s, d0.s, d1.s, d2.s, hrw.s]; refine hK _ ?_; clear hK K))
  refine sk_ret ?_; simp [c0.s, c1.s, c2.s, d0.s, d1.s, d2.s]
  have hF : ∀ e, e ≠ H.length + 1 → (((H1.put (H.length + 1) 0 (.bool b.ok)).put (H.length + 1) 1 (iv b.sec)).put (H.length + 1) 2 (sl id 0 b.lines.length))[e]? = H1[e]? := fun e he => by rw [get_put_ne _ _ _ he, get_put_ne _ _ _ he, get_put_ne _ _ _ he]
  refine ⟨by simp only [length_put]; exact hg.len, fun i hi => by rw [hF i (by omega)]; exact hg.same hi, id :: A, ⟨by omega, .inr ⟨id, 0, A, 50, true, [], done, [], rfl, rfl, by rw [hF id (by omega)]; simpa using hbk, rfl, hdn.fr RLnW.frm fun e he _ => hF e (by have := hA e he; omega)⟩⟩, ⟨List.nodup_cons.2 ⟨fun hm => (hA _ hm).2 rfl, ho.1⟩, fun e he => ?_⟩, fun e he => ?_⟩
  ·rcases List.mem_cons.1 he with rfl | he
   ·exact rw_get (by rw [hF _ (by omega)]; exact hbk)
   ·have := ho.2 e he
    unfold Heap.rwOk at this ⊢
    rw [hF e (by have := hA e he; omega)]; exact this
  ·rcases List.mem_cons.1 he with rfl | he
   ·omega
   ·have := hA e he; omega
theorem RLnW.one {H : Heap} {E : List Nat} {l : Ln} {cs : List Value} (h : RLnW H E l cs) : cs.all (·.oneCell') = true := by
 obtain ⟨E1, E2, v1, v2, rfl, rfl, h1, h2⟩ := h
 simp only [List.all_cons, List.all_nil, h1.one, h2.one]
 rfl
def B57 : SC := .seq (.reg [⟨some 1, .box 39 (.tmp 0), none, []⟩, ⟨some 2, .alloc 39, none, []⟩]) (.seq (.reg [⟨some 7, .fieldAddr 39 (.tmp 1) 0, none, []⟩, ⟨some 8, .load 4 (.tmp 7), none, []⟩, ⟨some 9, .fieldAddr 39 (.tmp 1) 1, none, []⟩, ⟨some 10, .load 3 (.tmp 9), none, []⟩, ⟨some 11, .build 39 #[(0, (.tmp 8)), (1, (.tmp 10))], none, []⟩, ⟨some 3, .alloc 39, none, []⟩, ⟨none, .store 39 (.tmp 3) (.tmp 11), none, []⟩]) (.seq (.seq (.reg [⟨some 12, .fieldAddr 39 (.tmp 1) 2, none, []⟩, ⟨some 13, .load 37 (.tmp 12), none, []⟩, ⟨some 14, .call ⟨.builtin .len, #[.tmp 13], #[37]⟩, none, []⟩, ⟨some 15, .move (.const (.int .i64 0)), none, []⟩]) (.block 0 (.loop (.seq (.reg [⟨some 16, .binOp .lss 3 (.tmp 15) (.tmp 14) 3, none, []⟩]) (.seq (.cond (.tmp 16) .skip (.exit 0)) (.seq (.block 1 (.seq (.reg [⟨some 17, .indexAddr 37 (.tmp 13) (.tmp 15), none, []⟩, ⟨some 18, .load 50 (.tmp 17), none, []⟩, ⟨some 5, .alloc 50, none, []⟩, ⟨none, .store 50 (.tmp 5) (.tmp 18), none, []⟩]) (.seq (.reg [⟨some 19, .load 50 (.tmp 5), none, []⟩, ⟨some 6, .alloc 50, none, []⟩, ⟨none, .store 50 (.tmp 6) (.tmp 19), none, []⟩]) (.seq (.reg [⟨some 20, .buildSlice 22 0 #[], none, []⟩, ⟨some 21, .fieldAddr 50 (.tmp 5) 1, none, []⟩, ⟨some 22, .load 22 (.tmp 21), none, []⟩, ⟨some 23, .call ⟨.builtin .append, #[.tmp 20, .tmp 22], #[22, 22]⟩, none, []⟩, ⟨some 24, .fieldAddr 50 (.tmp 6) 1, none, []⟩, ⟨none, .store 22 (.tmp 24) (.tmp 23), none, []⟩]) (.seq (.reg [⟨some 25, .buildSlice 48 0 #[], none, []⟩, ⟨some 26, .fieldAddr 50 (.tmp 5) 2, none, []⟩, ⟨some 27, .load 48 (.tmp 26), none, []⟩, ⟨some 28, .call ⟨.builtin .append, #[.tmp 25, .tmp 27], #[48, 48]⟩, none, []⟩, ⟨some 29, .fieldAddr 50 (.tmp 6) 2, none, []⟩, ⟨none, .store 48 (.tmp 29) (.tmp 28), none, []⟩]) (.reg [⟨some 30, .fieldAddr 39 (.tmp 3) 2, none, []⟩, ⟨some 31, .load 37 (.tmp 30), none, []⟩, ⟨some 32, .load 50 (.tmp 6), none, []⟩, ⟨some 33, .buildSlice 37 1 #[(0, (.tmp 32))], none, []⟩, ⟨some 34, .call ⟨.builtin .append, #[.tmp 31, .tmp 33], #[37, 37]⟩, none, []⟩, ⟨some 35, .fieldAddr 39 (.tmp 3) 2, none, []⟩, ⟨none, .store 37 (.tmp 35) (.tmp 34), none, []⟩])))))) (.reg [⟨some 36, .binOp .add 3 (.tmp 15) (.const (.int .i64 1)) 3, none, []⟩, ⟨some 15, .move (.tmp 36), none, []⟩]))))))) (.seq (.reg [⟨some 37, .load 39 (.tmp 3), none, []⟩, ⟨none, .store 39 (.tmp 2) (.tmp 37), none, []⟩]) .ret)))
theorem s57 : Tryd.f57.body.bind (stripC 38) = some B57 := by kernel_rfl
theorem l2copy_mk {H : Heap} {E : List Nat} {b : Bk} {cs : List Value} (h : RBk H E b cs) (hb : b.lines.length ≤ 1048576) (hlen : ∀ l, l ∈ b.lines → lenOk l) :
  Mkr Tryd.prog 57 [.agg cs.toArray] H fun H' E' v' => ∃ w, v' = .agg #[.bool b.ok, iv b.sec, w] ∧ RS 4 RLnW H' E' w b.lines := by
 obtain ⟨v, rfl, hv⟩ := h
 have x := hv.one
 obtain ⟨a0, c0, rfl⟩ := hv.form
 refine Mkr.of_bodyS (N := 38) Tryd.func57 s57 (by kernel_rfl) rfl rfl (by simp) ?_; unfold B57
 repeat (first | refine sA ?_ | refine sB ?_ | refine sC ?_ | refine sD ?_ | refine sE rfl ?_ | refine sF rfl ?_ | refine sG rfl ?_ | (refine sk_reg fun K hK => ?_; simp [x]; refine hK _ ?_; clear hK K))
 refine sk_rng b.lines.length (fun i => [(2, pt (H.length + 1) 0), (3, pt (H.length + 2) 0), (13, .slice a0 b.lines.length c0), (14, iv b.lines.length), (15, iv i)])
  (fun i H1 => Gro H H1 ∧ H1[H.length + 1]? = some ⟨39, [.bool false, iv 0, nl], true, true⟩ ∧ ∃ vl A, H1[H.length + 2]? = some ⟨39, [.bool b.ok, iv b.sec, vl], true, true⟩ ∧ RW 50 4 RLnW H1 A vl (b.lines.take i) ∧ Own H1 A ∧ ∀ e, e ∈ A → H.length + 3 ≤ e)
  (by simp [subL, getT]) ⟨Gro.one _ _, by simp, nl, [], by simp, .inl ⟨rfl, by simp, rfl⟩, ⟨List.nodup_nil, fun i hi => by simp at hi⟩, fun e he => by simp at he⟩ ?_ ?_
 ·rintro i H1 hi ⟨hg, hb1, vl, A, hb2, hA, oA, nA⟩
  have hl := hg.len
  have hw := wrap_id (x := (i : Int) + 1) (by omega) (by omega)
  obtain ⟨id, o, v1, v2, E1, E2, hve, hid, d0, d1, d2, d3, hw1, hw2, x1, x2, _⟩ := (hv.gro hg RLn.frm).line hi
  have hlo := hlen _ (List.getElem_mem hi)
  have htk := take_snoc hi
  have hlt2 := lt_of_get hb2
  have hAlt := oA.lt
  generalize hln : b.lines[i] = l at *
  have xc1 := hw1.cv
  have xc2 := hw2.cv
  obtain ⟨k1, u1, H2, F1, e1, e2, e3, e4, e5, e6⟩ := clone_app (P := Tryd.prog) (t := 22) (e := 3) (sz := 0) (by' := 8) (z := iv 0) (by simp) (by simp) (by simp) (by simp) rfl (g := cInt) (fun _ => rfl) (hw1.ext (RP.frm _) (L := [⟨50, [iv l.gone, v1, v2, iv l.drop], true, true⟩, ⟨50, [iv l.gone, v1, v2, iv l.drop], true, true⟩])) (by have := hlo.1; omega) (by have := hlo.1; simp [maxLen]; omega)
  have q5 : H2[H1.length]? = some ⟨50, [iv l.gone, v1, v2, iv l.drop], true, true⟩ := e3.get (by simp)
  have q6 : H2[H1.length + 1]? = some ⟨50, [iv l.gone, v1, v2, iv l.drop], true, true⟩ := e3.get (by simp)
  have g2 : Gro H1 H2 := (Gro.one _ _).trans e3
  simp only [List.append_assoc, List.cons_append, List.nil_append, List.length_append, List.length_cons, List.length_nil, Nat.zero_add, Nat.reduceAdd] at e1 e2 e6
  have wr1 : wrO H.length [] k1 := fun i hi => by rcases e2 i hi with h | h; exact .inl (by omega); exact .inr h
  have m6 : CF H2 (H1.length + 1) 1 v1 := CF.of q6 rfl rfl
  have r6 := RF.of q6
  have y1 := e4.one
  have y1c := e4.cv
  have hl1 : H.length ≤ H1.length + 1 := by omega
  repeat (first | refine sA ?_ | refine sB ?_ | refine sC ?_ | refine sD ?_ | refine sE rfl ?_ | refine sF rfl ?_ | refine sG rfl ?_ | (refine sk_reg fun K hK => ?_; simp [hi, hve, d0.s, d1.s, d2.s, d3.s, x1, x2, xc1, xc2, hl, hl1]; refine hK _ ?_; clear hK K))
  refine sk_reg fun K hK => ?_; simp [e1, wr1, m6.s, r6.s, y1, y1c, hl1]
  refine hK _ ?_; clear hK K
  have hl2 := g2.len
  have hlt6 := lt_of_get q6
  have fb : ∀ i, i ≠ H1.length + 1 → (H2.put (H1.length + 1) 1 u1)[i]? = H2[i]? := fun i hi => get_put_ne _ _ _ hi
  have fbk : (H2.put (H1.length + 1) 1 u1)[H1.length + 1]? = some ⟨50, [iv l.gone, u1, v2, iv l.drop], true, true⟩ := by rw [get_put, q6]; rfl
  have fbl : (H2.put (H1.length + 1) 1 u1).length = H2.length := length_put _ _ _ _
  generalize H2.put (H1.length + 1) 1 u1 = Hb at fb fbk fbl ⊢
  have gb : Gro H1 Hb := Gro.of (by omega) fun i hi => by rw [fb i (by omega)]; exact g2.same hi
  obtain ⟨k2, u2, H3, F2, i1, i2, i3, i4, i5, i6⟩ := clone_app (P := Tryd.prog) (t := 48) (e := 88) (sz := 1) (by' := 16) (z := .agg #[iv 0, iv 0]) (by simp) (by simp) (by simp) (by simp) rfl (g := cGr) (fun _ => rfl) (hw2.gro gb (RP.frm _)) (by have := hlo.2; omega) (by have := hlo.2; simp [maxLen]; omega)
  have wr2 : wrO H.length [] k2 := fun i hi => by rcases i2 i hi with h | h; exact .inl (by omega); exact .inr h
  have n5 : CF Hb H1.length 2 v2 := CF.of (by rw [fb _ (by omega)]; exact q5) rfl rfl
  have q7 := i3.get fbk
  have m7 : CF H3 (H1.length + 1) 2 v2 := CF.of q7 rfl rfl
  have r7 := RF.of q7
  have y2 := i4.one
  have y2c := i4.cv
  have hlb : H.length ≤ Hb.length := by omega
  refine sk_seq ?_
  refine sk_reg fun K hK => ?_; simp [i1, wr2, n5.s, m7.s, r7.s, y2, y2c, hl1, hlb]
  refine hK _ ?_; clear hK K
  have fc : ∀ i, i ≠ H1.length + 1 → (H3.put (H1.length + 1) 2 u2)[i]? = H3[i]? := fun i hi => get_put_ne _ _ _ hi
  have fck : (H3.put (H1.length + 1) 2 u2)[H1.length + 1]? = some ⟨50, [iv l.gone, u1, u2, iv l.drop], true, true⟩ := by rw [get_put, q7]; rfl
  have fcl : (H3.put (H1.length + 1) 2 u2).length = H3.length := length_put _ _ _ _
  generalize H3.put (H1.length + 1) 2 u2 = Hc at fc fck fcl ⊢
  have hl3 := i3.len
  have gc : Gro H1 Hc := Gro.of (by omega) fun i hi => by rw [fc i (by omega), i3.same (by omega), gb.same hi]
  have e5l := e5.lt
  have i5l := i5.lt
  have a1 : ∀ e, e ∈ F1 → Hc[e]? = H2[e]? := fun e he => by
   have := e5l e he
   have := e6 e he
   rw [fc e (by omega), i3.same (by omega), fb e (by omega)]
  have a2 : ∀ e, e ∈ F2 → Hc[e]? = H3[e]? := fun e he => by
   have := i6 e he
   rw [fc e (by omega)]
  have hR : RLnW Hc (F1 ++ F2) l [iv l.gone, u1, u2, iv l.drop] := ⟨F1, F2, u1, u2, rfl, rfl, e4.fr (RP.frm _) fun e he _ => a1 e he, i4.fr (RP.frm _) fun e he _ => a2 e he⟩
  have oF : Own Hc (F1 ++ F2) := (e5.fr a1).app (i5.fr a2) fun e h1 h2 => by have := e5l e h1; have := i6 e h2; omega
  have nF : ∀ e, e ∈ F1 ++ F2 → H1.length + 2 ≤ e := fun e he => by
   rcases List.mem_append.1 he with he | he
   ·exact e6 e he
   ·have := i6 e he; omega
  have oFl := oF.lt
  have hti : (b.lines.take i).length = i := by rw [List.length_take, Nat.min_eq_left (by omega)]
  obtain ⟨k3, vl', H4, A', j1, j2, j3, j4, j5, j6, j7, j8⟩ := apA_RW (P := Tryd.prog) (t := 37) (e := 50) (sz := 3) (by' := 64) (z := .agg #[iv 0, nl, nl, iv 0]) (by simp) (by simp) (by simp) (by simp) rfl RLnW.frm ((hA.gro gc RLnW.frm).ext RLnW.frm (L := [⟨50, [iv l.gone, u1, u2, iv l.drop], true, true⟩]))
   (w := sl Hc.length 0 1) (ys := [l]) (news := [iv l.gone, u1, u2, iv l.drop]) (by simp [srcA, ldC, cell_at, cell_cs, cell_c0]) ⟨F1 ++ F2, [], _, [], by simp, by simp, rfl, RLnW.frm.ext hR, rfl, rfl⟩ (by simp [y1, y2]) oA.1 oF.1 (fun e h1 h2 => by have := hAlt e h1; have := nF e h2; omega) (by simp [hti]; omega) (by simp [hti, maxLen]; omega)
  have hb2c := gc.get hb2
  have hnA : H.length + 2 ∉ A := fun hh => by have := nA _ hh; omega
  have hnA1 : H.length + 1 ∉ A := fun hh => by have := nA _ hh; omega
  have hlc := gc.len
  have hb2d : H4[H.length + 2]? = _ := (j4 _ (by simp; omega) hnA).trans (get_app _ hb2c)
  have hb1d : H4[H.length + 1]? = _ := (j4 _ (by simp; omega) hnA1).trans (get_app _ (gc.get hb1))
  have wr3 : wrO H.length [] k3 := fun i hi => .inl (by have := nA i (j2 i hi).1; omega)
  have t2 : CF Hc (H.length + 2) 2 vl := CF.of hb2c rfl rfl
  have p0 : CF Hc (H1.length + 1) 0 (iv l.gone) := CF.of fck rfl rfl
  have p1 : CF Hc (H1.length + 1) 1 u1 := CF.of fck rfl rfl
  have p2 : CF Hc (H1.length + 1) 2 u2 := CF.of fck rfl rfl
  have p3 : CF Hc (H1.length + 1) 3 (iv l.drop) := CF.of fck rfl rfl
  have t4 : CF H4 (H.length + 2) 2 vl := CF.of hb2d rfl rfl
  have r4 := RF.of hb2d
  have hlc' : H.length ≤ Hc.length := by omega
  have yl := j5.one
  have ylc := j5.cv
  refine sk_reg fun K hK => ?_; simp [j1, wr3, t2.s, p0.s, p1.s, p2.s, p3.s, t4.s, r4.s, y1, y1c, y2, y2c, yl, ylc, hlc']
  refine hK _ ?_; clear hK K
  repeat (first | refine sA ?_ | refine sB ?_ | refine sC ?_ | refine sD ?_ | refine sE rfl ?_ | refine sF rfl ?_ | refine sG rfl ?_ | (refine sk_reg fun K hK => ?_; simp [hw]; refine hK _ ?_; clear hK K))
  have ff : ∀ i, i ≠ H.length + 2 → (H4.put (H.length + 2) 2 vl')[i]? = H4[i]? := fun i hi => get_put_ne _ _ _ hi
  simp only [List.length_append, List.length_cons, List.length_nil] at j3 j4 j7
  have nA' : ∀ e, e ∈ A' → H.length + 3 ≤ e := fun e he => by
   rcases j7 e he with ⟨h | h, _⟩ | ⟨h, _⟩
   ·exact nA e h
   ·have := nF e h; omega
   ·omega
  have gf : Gro H (H4.put (H.length + 2) 2 vl') := Gro.of (by rw [length_put]; omega) fun i hi => by
   rw [ff i (by omega), j4 i (by omega) fun hh => by have := nA i hh; omega, List.getElem?_append_left (by omega), gc.same (by omega), hg.same hi]
  refine sk_inv ⟨by simp [subL, getT, hve], gf, by rw [ff _ (by omega)]; exact hb1d, vl', A', by rw [get_put, hb2d]; rfl, ?_, ⟨j6, fun e he => ?_⟩, nA'⟩
  ·rw [htk]; exact j5.fr RLnW.frm fun e he _ => ff e (by have := nA' e he; omega)
  ·rw [rwOk_put]
   rcases j7 e he with ⟨h | h, h2, h3⟩ | ⟨_, h⟩
   ·have := (oA.fr fun e he => gc.same (hAlt e he)).2 e h
    unfold Heap.rwOk at this ⊢
    rw [h3, List.getElem?_append_left (by have := hAlt e h; omega)]; exact this
   ·have := oF.2 e h
    unfold Heap.rwOk at this ⊢
    rw [h3, List.getElem?_append_left (oFl e h)]; exact this
   ·exact h
 ·rintro H1 ⟨hg, hb1, vl, A, hb2, hA, oA, nA⟩
  have hl := hg.len
  rw [List.take_length] at hA
  have c0 : CF H1 (H.length + 2) 0 (.bool b.ok) := CF.of hb2 rfl rfl
  have c1 : CF H1 (H.length + 2) 1 (iv b.sec) := CF.of hb2 rfl rfl
  have c2 : CF H1 (H.length + 2) 2 vl := CF.of hb2 rfl rfl
  have d0 : CF H1 (H.length + 1) 0 (.bool false) := CF.of hb1 rfl rfl
  have d1 : CF H1 (H.length + 1) 1 (iv 0) := CF.of hb1 rfl rfl
  have d2 : CF H1 (H.length + 1) 2 nl := CF.of hb1 rfl rfl
  have hrw := RF.of hb1
  have yl := hA.one
  have ylc := hA.cv
  repeat (first | refine sA ?_ | refine sB ?_ | refine sC ?_ | refine sD ?_ | refine sE rfl ?_ | refine sF rfl ?_ | refine sG rfl ?_ | (refine sk_reg fun K hK => ?_; simp [c0.s, c1.s, c2.s, d0.s, d1.s, d2.s, hrw.s, yl, ylc]; refine hK _ ?_; clear hK K))
  refine sk_ret ?_; simp [c0.s, c1.s, c2.s, d0.s, d1.s, d2.s]
  have hF : ∀ e, e ≠ H.length + 1 → (((H1.put (H.length + 1) 0 (.bool b.ok)).put (H.length + 1) 1 (iv b.sec)).put (H.length + 1) 2 vl)[e]? = H1[e]? := fun e he => by rw [get_put_ne _ _ _ he, get_put_ne _ _ _ he, get_put_ne _ _ _ he]
  refine ⟨by simp only [length_put]; exact hg.len, fun i hi => by rw [hF i (by omega)]; exact hg.same hi, A, (hA.fr RLnW.frm fun e he _ => hF e (by have := nA e he; omega)).rs (by omega), oA.fr fun e he => hF e (by have := nA e he; omega), fun e he => by have := nA e he; omega⟩
end Go.Proofs.YtpoedfmkiiijnaaDoor
