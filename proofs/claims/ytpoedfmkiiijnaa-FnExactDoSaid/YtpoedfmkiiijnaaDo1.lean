/- The closures of do, and IndexFunc. Walks. -/
import Derived.Test.YtpoedfmkiiijnaaCp3
import Derived.Test.YtpoedfmkiiijnaaPu2
namespace Go.Proofs.Ytpoedfmkiiijnaa
open Go Go.RowKit Go.Proofs.YtpoedfmkiiijnaaAm
set_option linter.unusedVariables false
set_option linter.unusedSimpArgs false
set_option maxRecDepth 10000
set_option maxHeartbeats 4000000
def B103 : SC := .seq (.reg [⟨some 4, .assign (.const (.int .i64 0)), none, []⟩]) (.seq (.seq (.reg [⟨some 6, .move (.tmp 0), none, []⟩, ⟨some 7, .call { callee := (.builtin .len), args := #[(.tmp 6)], argTypes := #[41] }, none, []⟩, ⟨some 8, .move (.const (.int .i64 0)), none, []⟩]) (.block 0 (.loop (.seq (.reg [⟨some 9, .binOp .lss 3 (.tmp 8) (.tmp 7) 3, none, []⟩]) (.seq (.cond (.tmp 9) .skip (.exit 0)) (.seq (.block 1 (.seq (.reg [⟨some 10, .move (.tmp 8), none, []⟩, ⟨some 5, .assign (.tmp 10), none, []⟩]) (.seq (.reg [⟨some 11, .move (.tmp 1), none, []⟩, ⟨some 12, .move (.tmp 0), none, []⟩, ⟨some 13, .move (.tmp 5), none, []⟩, ⟨some 14, .indexAddr 41 (.tmp 12) (.tmp 13), none, []⟩, ⟨some 15, .load 45 (.tmp 14), none, []⟩, ⟨some 16, .call { callee := (.value (.tmp 11)), args := #[(.tmp 15)], argTypes := #[45] }, none, []⟩]) (.cond (.tmp 16) (.seq (.reg [⟨some 17, .move (.tmp 5), none, []⟩, ⟨some 4, .assign (.tmp 17), none, []⟩]) .ret) .skip)))) (.reg [⟨some 18, .binOp .add 3 (.tmp 8) (.const (.int .i64 1)) 3, none, []⟩, ⟨some 8, .move (.tmp 18), none, []⟩]))))))) (.seq (.reg [⟨some 4, .assign (.const (.int .i64 (-1))), none, []⟩]) .ret))
theorem s103 : Try.f103.body.bind (stripC 19) = some B103 := by kernel_rfl
theorem indexF_ac {H : Heap} {E : List Nat} {v : Value} {gs : List Gr} (h : RS 2 RGr H E v gs) {f : FuncId} {cap : List Value} {p : Gr → Bool} (hc : ∀ H1 g, Gro H H1 → AC Try.prog f ([.agg #[iv g.ver, iv g.cel]] ++ cap) H1 (.bool (p g)) H1 []) :
    AC Try.prog 103 [v, .func (.func f) #[] cap.toArray] H (iv (fstI p gs)) H [] := by
  obtain ⟨a1, c1, rfl⟩ := h.form
  have hn := h.1
  refine AC.of_pureS (N := 19) Try.func103 s103 (by kernel_rfl) rfl rfl (by simp) rfl ?_; unfold B103
  repeat (first | refine sk_seq ?_ | refine sk_block ?_ | refine sk_blk ?_ | refine sk_skip ?_ | refine sk_exit rfl ?_ | refine sk_cond_t rfl ?_ | refine sk_cond_f rfl ?_ | (refine sk_reg fun K hK => ?_; simp; refine hK _ ?_; clear hK K) | (refine sk_drw mix fun K hK => ?_; simp; refine hK _ ?_; clear hK K))
  refine sk_rng gs.length (fun i => [(0, .slice a1 gs.length c1), (1, .func (.func f) #[] cap.toArray), (7, iv gs.length), (8, iv i)]) (fun i H1 => Gro H H1 ∧ ∀ j (hj : j < i) (hx : j < gs.length), p gs[j] = false) (by simp [subL, getT]) ⟨(by first | exact Gro.refl _ | exact Gro.one _ _), fun j hj => by omega⟩ ?_ ?_
  · rintro i H1 hi ⟨hg, hpre⟩
    obtain ⟨id, o, hv, hid, d0, d1⟩ := (h.gro hg (RP.frm _)).gr hi
    have hw := wrap_id (x := (i : Int) + 1) (by omega) (by omega)
    have ac := hc H1 gs[i] hg
    simp only [List.cons_append, List.nil_append] at ac
    cases hb : p gs[i]
    · rw [hb] at ac
      repeat (first | refine sk_seq ?_ | refine sk_block ?_ | refine sk_blk ?_ | refine sk_skip ?_ | refine sk_exit rfl ?_ | refine sk_cond_t rfl ?_ | refine sk_cond_f rfl ?_ | (refine sk_reg fun K hK => ?_; simp [hi, hv, d0.a, d0.b, d1.a, d1.b, hw]; (repeat (first | (refine AskX.go (ac) ?_; simp [hi, hv, d0.a, d0.b, d1.a, d1.b, hw]))); refine hK _ ?_; clear hK K) | (refine sk_drw mix fun K hK => ?_; simp [hi, hv, d0.a, d0.b, d1.a, d1.b, hw]; (repeat (first | (refine AskD.go (ac) ?_; simp [hi, hv, d0.a, d0.b, d1.a, d1.b, hw]))); refine hK _ ?_; clear hK K))
      refine sk_inv ⟨by simp [subL, getT, hv], hg, fun j hj hx => ?_⟩
      by_cases e : j = i
      · subst e; exact hb
      · exact hpre j (by omega) hx
    · rw [hb] at ac
      have hr := fstI_some hi hb fun j hj => hpre j hj (by omega)
      repeat (first | refine sk_seq ?_ | refine sk_block ?_ | refine sk_blk ?_ | refine sk_skip ?_ | refine sk_exit rfl ?_ | refine sk_cond_t rfl ?_ | refine sk_cond_f rfl ?_ | (refine sk_reg fun K hK => ?_; simp [hi, hv, d0.a, d0.b, d1.a, d1.b, hw]; (repeat (first | (refine AskX.go (ac) ?_; simp [hi, hv, d0.a, d0.b, d1.a, d1.b, hw]))); refine hK _ ?_; clear hK K) | (refine sk_drw mix fun K hK => ?_; simp [hi, hv, d0.a, d0.b, d1.a, d1.b, hw]; (repeat (first | (refine AskD.go (ac) ?_; simp [hi, hv, d0.a, d0.b, d1.a, d1.b, hw]))); refine hK _ ?_; clear hK K))
      refine sk_ret ?_; simp [hr]
      exact hg
  · rintro H1 ⟨hg, hpre⟩
    have hr := fstI_none (p := p) (xs := gs) fun j hj => hpre j hj hj
    repeat (first | refine sk_seq ?_ | refine sk_block ?_ | refine sk_blk ?_ | refine sk_skip ?_ | refine sk_exit rfl ?_ | refine sk_cond_t rfl ?_ | refine sk_cond_f rfl ?_ | (refine sk_reg fun K hK => ?_; simp; refine hK _ ?_; clear hK K) | (refine sk_drw mix fun K hK => ?_; simp; refine hK _ ?_; clear hK K))
    refine sk_ret ?_; simp [hr]
    exact hg
def B130 : SC := .seq (.reg [⟨some 2, .box 45 (.tmp 0), none, []⟩, ⟨some 3, .assign (.const (.bool false)), none, []⟩]) (.seq (.reg [⟨some 4, .fieldAddr 45 (.tmp 2) 0, none, []⟩, ⟨some 5, .load 3 (.tmp 4), none, []⟩, ⟨some 6, .fieldAddr 49 (.tmp 1) 2, none, []⟩, ⟨some 7, .load 3 (.tmp 6), none, []⟩, ⟨some 8, .binOp .eql 3 (.tmp 5) (.tmp 7) 3, none, []⟩, ⟨some 3, .assign (.tmp 8), none, []⟩]) .ret)
theorem s130 : Try.f130.body.bind (stripC 9) = some B130 := by kernel_rfl
theorem doPred_ac {H : Heap} {X : Nat} {n : Int} (hx : CF H X 2 (iv n)) (g : Gr) : AC Try.prog 130 [.agg #[iv g.ver, iv g.cel], pt X 0] H (.bool (hasV n g)) H [] := by
  refine AC.of_pureS (N := 9) Try.func130 s130 (by kernel_rfl) rfl rfl (by simp) rfl ?_; unfold B130
  repeat (first | refine sk_seq ?_ | refine sk_block ?_ | refine sk_blk ?_ | refine sk_skip ?_ | refine sk_exit rfl ?_ | refine sk_cond_t rfl ?_ | refine sk_cond_f rfl ?_ | (refine sk_reg fun K hK => ?_; simp [hx.a, hx.b]; refine hK _ ?_; clear hK K) | (refine sk_drw mix fun K hK => ?_; simp [hx.a, hx.b]; refine hK _ ?_; clear hK K))
  refine sk_ret ?_; simp [hasV]
def B129 : SC := .seq (.reg [⟨some 3, .alloc 39, none, []⟩]) (.seq (.reg [⟨some 4, .move (.tmp 0), none, []⟩, ⟨some 5, .load 25 (.tmp 1), none, []⟩, ⟨some 6, .build 39 #[(0, (.tmp 4)), (1, (.tmp 5))], none, []⟩, ⟨none, .store 39 (.tmp 3) (.tmp 6), none, []⟩]) .ret)
theorem s129 : Try.f129.body.bind (stripC 7) = some B129 := by kernel_rfl
theorem doFail_ac {H : Heap} {X : Nat} {b : Bk} {w : Value} (c : Int) (c0 : CF H X 0 (.bool b.ok)) (c1 : CF H X 1 (iv b.sec)) (c2 : CF H X 2 w) (x : w.oneCell' = true) (hw : Clo H.length w) :
    AC Try.prog 129 [iv c, pt X 0] H (.agg #[iv c, .bool b.ok, iv b.sec, w]) H [] := by
  have hclo : Clo H.length (.agg #[iv c, .bool b.ok, iv b.sec, w]) := Clo.agg fun y hy => by
    simp at hy
    rcases hy with rfl | rfl | rfl | rfl
    · exact Clo.plain rfl
    · exact Clo.plain rfl
    · exact Clo.plain rfl
    · exact hw
  refine AC.of_pureCS (N := 7) Try.func129 s129 (by kernel_rfl) rfl rfl (by simp) hclo ?_; unfold B129
  repeat (first | refine sk_seq ?_ | refine sk_block ?_ | refine sk_blk ?_ | refine sk_skip ?_ | refine sk_exit rfl ?_ | refine sk_cond_t rfl ?_ | refine sk_cond_f rfl ?_ | (refine sk_reg fun K hK => ?_; simp [c0.a, c0.b, c1.a, c1.b, c2.a, c2.b, x]; refine hK _ ?_; clear hK K) | (refine sk_drw mix fun K hK => ?_; simp [c0.a, c0.b, c1.a, c1.b, c2.a, c2.b, x]; refine hK _ ?_; clear hK K))
  refine sk_ret ?_; simp
end Go.Proofs.Ytpoedfmkiiijnaa
