/- The statement's own function FnExactDrive: it answers true. A walk. -/
import Derived.Test.YtpoedfmkiiijnaaDr2
import Derived.Test.YtpoedfmkiiijnaaMkM
import Derived.Test.YtpoedfmkiiijnaaGK
import Derived.Test.YtpoedfmkiiijnaaGE
import Derived.Test.YtpoedfmkiiijnaaGD
namespace Go.Proofs.Ytpoedfmkiiijnaa
open Go Go.RowKit Go.Proofs.YtpoedfmkiiijnaaAm
set_option linter.unusedVariables false
set_option linter.unusedSimpArgs false
set_option maxRecDepth 10000
set_option maxHeartbeats 8000000
theorem cnL_one' {α : Type} {c : α → Int} {m : Nat} (h : ∀ x, c x = m) : ∀ xs : List α, cnL c xs = m * xs.length
  | [] => by simp [cnL]
  | x :: xs => by simp only [cnL, cnL_one' h xs, h, List.length_cons, Int.natCast_succ]; rw [Int.mul_add]; omega
theorem cnL_bnd' {α : Type} {c : α → Int} {m : Int} : ∀ xs : List α, (∀ x, x ∈ xs → c x ≤ m) → cnL c xs ≤ m * xs.length
  | [], _ => by simp [cnL]
  | x :: xs, h => by
    have h1 := cnL_bnd' xs fun y hy => h y (by simp [hy])
    have h2 := h x (by simp)
    simp only [cnL, List.length_cons, Int.natCast_succ, Int.mul_add]
    omega
theorem cnMv_r {m : Mv} (h : rightB m.world = true) : cnMv m ≤ 4000 := by
  obtain ⟨_, h2, h3, _⟩ := rightB_all h
  obtain ⟨_, _, h5, _⟩ := bookOk_sec h2
  have h6 := cnL_one' (c := cnBd) (m := 4) (fun _ => rfl) m.world.bodies
  have h1 : cnL cnLn m.world.book.lines ≤ 145 * (m.world.book.lines.length : Int) := cnL_bnd' _ fun x hx => by
    obtain ⟨i, hi, rfl⟩ := List.getElem_of_mem hx
    have h1 := (bookOk_ln h2 hi).w1
    have h2 := (bookOk_ln h2 hi).n1
    have e1 := cnL_one' (c := cnInt) (m := 1) (fun _ => rfl) m.world.book.lines[i].way
    have e2 := cnL_one' (c := cnGr) (m := 2) (fun _ => rfl) m.world.book.lines[i].grs
    unfold cnLn; omega
  unfold cnMv; omega
theorem driveW_ok {s : Int} {l : List Int} {es : List Actn} : (∀ m, m ∈ driveW s l es → rightB m.world = true) ∧ (driveW s l es).length ≤ 2000 := by
  unfold driveW
  split
  · rename_i h
    obtain ⟨hso, hsw⟩ := startW_ok h.1
    exact ⟨goW_ok (by rw [hsw]; exact wdS_ok hso) es, by rw [goW_len]; exact h.2⟩
  · simp
theorem cnDrive {s : Int} {l : List Int} {es : List Actn} : cnL cnMv (driveW s l es) ≤ 10000000 := by
  obtain ⟨h1, h2⟩ := driveW_ok (s := s) (l := l) (es := es)
  have := cnL_bnd' (c := cnMv) (m := 4000) (driveW s l es) fun m hm => cnMv_r (h1 m hm)
  omega
def B19 : SC := .seq (.reg [⟨some 6, .assign (.const (.bool false)), none, []⟩]) (.seq (.seq (.reg [⟨some 16, .move (.tmp 1), none, []⟩, ⟨some 17, .call { callee := (.builtin .len), args := #[(.tmp 16)], argTypes := #[40] }, none, []⟩, ⟨some 18, .binOp .gtr 3 (.tmp 17) (.const (.int .i64 1048576)) 3, none, []⟩]) (.cond (.tmp 18) (.seq (.reg [⟨some 6, .assign (.const (.bool true)), none, []⟩]) .ret) .skip)) (.seq (.reg [⟨some 7, .assign (.const (.int .i64 1048576)), none, []⟩]) (.seq (.reg [⟨some 19, .move (.tmp 2), none, []⟩, ⟨some 20, .move (.tmp 7), none, []⟩, ⟨some 21, .call { callee := (.value (.func 74)), args := #[(.tmp 19), (.tmp 20)], argTypes := #[103, 3] }, none, []⟩, ⟨some 7, .assign (.tmp 21), none, []⟩]) (.seq (.seq (.reg [⟨some 22, .move (.tmp 7), none, []⟩, ⟨some 23, .binOp .lss 3 (.tmp 22) (.const (.int .i64 0)) 3, none, []⟩]) (.cond (.tmp 23) (.seq (.reg [⟨some 6, .assign (.const (.bool true)), none, []⟩]) .ret) .skip)) (.seq (.reg [⟨some 24, .move (.tmp 0), none, []⟩, ⟨some 25, .move (.tmp 1), none, []⟩, ⟨some 26, .call { callee := (.value (.func 47)), args := #[(.tmp 25)], argTypes := #[40] }, none, []⟩, ⟨some 27, .move (.tmp 2), none, []⟩, ⟨some 28, .call { callee := (.value (.func 76)), args := #[(.tmp 27)], argTypes := #[103] }, none, []⟩, ⟨some 29, .call { callee := (.value (.func 75)), args := #[(.tmp 24), (.tmp 26), (.tmp 28)], argTypes := #[3, 40, 73] }, none, []⟩, ⟨some 8, .assign (.tmp 29), none, []⟩]) (.seq (.reg [⟨some 30, .move (.tmp 1), none, []⟩, ⟨some 31, .call { callee := (.value (.func 47)), args := #[(.tmp 30)], argTypes := #[40] }, none, []⟩, ⟨some 9, .assign (.tmp 31), none, []⟩]) (.seq (.reg [⟨some 32, .move (.tmp 2), none, []⟩, ⟨some 33, .call { callee := (.value (.func 76)), args := #[(.tmp 32)], argTypes := #[103] }, none, []⟩, ⟨some 10, .assign (.tmp 33), none, []⟩]) (.seq (.reg [⟨some 34, .move (.tmp 0), none, []⟩, ⟨some 35, .move (.tmp 9), none, []⟩, ⟨some 36, .move (.tmp 10), none, []⟩, ⟨some 37, .call { callee := (.value (.func 77)), args := #[(.tmp 34), (.tmp 35), (.tmp 36)], argTypes := #[3, 40, 73] }, none, []⟩, ⟨some 11, .assign (.tmp 37), none, []⟩]) (.seq (.seq (.reg [⟨some 38, .move (.tmp 11), none, []⟩, ⟨some 39, .move (.tmp 8), none, []⟩, ⟨some 40, .call { callee := (.value (.func 78)), args := #[(.tmp 38), (.tmp 39)], argTypes := #[105, 105] }, none, []⟩, ⟨some 41, .unOp .not 4 (.tmp 40), none, []⟩]) (.cond (.tmp 41) (.seq (.reg [⟨some 6, .assign (.const (.bool false)), none, []⟩]) .ret) .skip)) (.seq (.seq (.reg [⟨some 42, .move (.tmp 9), none, []⟩, ⟨some 43, .move (.tmp 1), none, []⟩, ⟨some 44, .call { callee := (.value (.func 47)), args := #[(.tmp 43)], argTypes := #[40] }, none, []⟩, ⟨some 45, .call { callee := (.value (.func 49)), args := #[(.tmp 42), (.tmp 44)], argTypes := #[40, 40] }, none, []⟩, ⟨some 46, .unOp .not 4 (.tmp 45), none, []⟩]) (.cond (.tmp 46) (.seq (.reg [⟨some 6, .assign (.const (.bool false)), none, []⟩]) .ret) .skip)) (.seq (.seq (.reg [⟨some 47, .move (.tmp 10), none, []⟩, ⟨some 48, .move (.tmp 2), none, []⟩, ⟨some 49, .call { callee := (.value (.func 76)), args := #[(.tmp 48)], argTypes := #[103] }, none, []⟩, ⟨some 50, .call { callee := (.value (.func 79)), args := #[(.tmp 47), (.tmp 49)], argTypes := #[73, 73] }, none, []⟩, ⟨some 51, .unOp .not 4 (.tmp 50), none, []⟩]) (.cond (.tmp 51) (.seq (.reg [⟨some 6, .assign (.const (.bool false)), none, []⟩]) .ret) .skip)) (.seq (.reg [⟨some 12, .assign (.const (.int .i64 1)), none, []⟩]) (.seq (.reg [⟨some 52, .move (.tmp 9), none, []⟩, ⟨some 53, .move (.tmp 12), none, []⟩, ⟨some 54, .call { callee := (.value (.func 50)), args := #[(.tmp 52), (.tmp 53)], argTypes := #[40, 3] }, none, []⟩, ⟨some 12, .assign (.tmp 54), none, []⟩]) (.seq (.reg [⟨some 55, .move (.tmp 10), none, []⟩, ⟨some 56, .move (.tmp 12), none, []⟩, ⟨some 57, .call { callee := (.value (.func 80)), args := #[(.tmp 55), (.tmp 56)], argTypes := #[73, 3] }, none, []⟩, ⟨some 12, .assign (.tmp 57), none, []⟩]) (.seq (.seq (.reg [⟨some 58, .move (.tmp 12), none, []⟩, ⟨some 59, .binOp .lss 3 (.tmp 58) (.const (.int .i64 0)) 3, none, []⟩, ⟨some 60, .move (.tmp 59), none, []⟩, ⟨some 61, .move (.tmp 11), some (60, false), []⟩, ⟨some 62, .move (.tmp 8), some (60, false), []⟩, ⟨some 63, .call { callee := (.value (.func 78)), args := #[(.tmp 61), (.tmp 62)], argTypes := #[105, 105] }, some (60, false), []⟩, ⟨some 64, .unOp .not 4 (.tmp 63), some (60, false), []⟩, ⟨some 65, .pick (.tmp 60) (.const (.bool true)) (.tmp 64), none, []⟩]) (.cond (.tmp 65) (.seq (.reg [⟨some 6, .assign (.const (.bool false)), none, []⟩]) .ret) .skip)) (.seq (.reg [⟨some 13, .assign (.const (.int .i64 1)), none, []⟩]) (.seq (.reg [⟨some 66, .move (.tmp 11), none, []⟩, ⟨some 67, .move (.tmp 13), none, []⟩, ⟨some 68, .call { callee := (.value (.func 81)), args := #[(.tmp 66), (.tmp 67)], argTypes := #[105, 3] }, none, []⟩, ⟨some 13, .assign (.tmp 68), none, []⟩]) (.seq (.reg [⟨some 14, .assign (.const (.int .i64 1)), none, []⟩]) (.seq (.reg [⟨some 69, .move (.tmp 11), none, []⟩, ⟨some 70, .move (.tmp 14), none, []⟩, ⟨some 71, .call { callee := (.value (.func 82)), args := #[(.tmp 69), (.tmp 70)], argTypes := #[105, 3] }, none, []⟩, ⟨some 14, .assign (.tmp 71), none, []⟩]) (.seq (.seq (.reg [⟨some 72, .move (.tmp 14), none, []⟩, ⟨some 73, .binOp .lss 3 (.tmp 72) (.const (.int .i64 0)) 3, none, []⟩]) (.cond (.tmp 73) (.seq (.reg [⟨some 6, .assign (.const (.bool false)), none, []⟩]) .ret) .skip)) (.seq (.seq (.reg [⟨some 74, .move (.tmp 14), none, []⟩, ⟨some 75, .move (.tmp 13), none, []⟩, ⟨some 76, .binOp .neq 3 (.tmp 74) (.tmp 75) 3, none, []⟩]) (.cond (.tmp 76) (.seq (.reg [⟨some 6, .assign (.const (.bool false)), none, []⟩]) .ret) .skip)) (.seq (.reg [⟨some 77, .move (.tmp 0), none, []⟩, ⟨some 78, .move (.tmp 1), none, []⟩, ⟨some 79, .call { callee := (.value (.func 47)), args := #[(.tmp 78)], argTypes := #[40] }, none, []⟩, ⟨some 80, .move (.tmp 2), none, []⟩, ⟨some 81, .call { callee := (.value (.func 76)), args := #[(.tmp 80)], argTypes := #[103] }, none, []⟩, ⟨some 82, .call { callee := (.value (.func 77)), args := #[(.tmp 77), (.tmp 79), (.tmp 81)], argTypes := #[3, 40, 73] }, none, []⟩, ⟨some 15, .assign (.tmp 82), none, []⟩]) (.seq (.seq (.reg [⟨some 83, .move (.tmp 15), none, []⟩, ⟨some 84, .move (.tmp 8), none, []⟩, ⟨some 85, .call { callee := (.value (.func 78)), args := #[(.tmp 83), (.tmp 84)], argTypes := #[105, 105] }, none, []⟩, ⟨some 86, .unOp .not 4 (.tmp 85), none, []⟩]) (.cond (.tmp 86) (.seq (.reg [⟨some 6, .assign (.const (.bool false)), none, []⟩]) .ret) .skip)) (.seq (.reg [⟨some 14, .assign (.const (.int .i64 1)), none, []⟩]) (.seq (.reg [⟨some 87, .move (.tmp 11), none, []⟩, ⟨some 88, .move (.tmp 14), none, []⟩, ⟨some 89, .call { callee := (.value (.func 82)), args := #[(.tmp 87), (.tmp 88)], argTypes := #[105, 3] }, none, []⟩, ⟨some 14, .assign (.tmp 89), none, []⟩]) (.seq (.seq (.reg [⟨some 90, .move (.tmp 14), none, []⟩, ⟨some 91, .binOp .lss 3 (.tmp 90) (.const (.int .i64 0)) 3, none, []⟩]) (.cond (.tmp 91) (.seq (.reg [⟨some 6, .assign (.const (.bool false)), none, []⟩]) .ret) .skip)) (.seq (.seq (.reg [⟨some 92, .move (.tmp 14), none, []⟩, ⟨some 93, .move (.tmp 13), none, []⟩, ⟨some 94, .binOp .neq 3 (.tmp 92) (.tmp 93) 3, none, []⟩]) (.cond (.tmp 94) (.seq (.reg [⟨some 6, .assign (.const (.bool false)), none, []⟩]) .ret) .skip)) (.seq (.reg [⟨some 6, .assign (.const (.bool true)), none, []⟩]) .ret))))))))))))))))))))))))))))
theorem s19 : Try.f19.body.bind (stripC 95) = some B19 := by kernel_rfl
theorem lawDrive_ac {H : Heap} {E F : List Nat} {v vt : Value} {l : List Int} {es' : List Actn} (ht : RS 1 RInt H F vt l) (hR : RS 6 (RPp cAc acR) H E v es') (s : Int) : AC Try.prog 19 [iv s, vt, v] H (.bool true) H [] := by
  have h : RS 6 RAc H E v es' := hR.unp
  have hra := hR.prop
  obtain ⟨a1, c1, rfl⟩ := ht.form
  have xv := h.one
  have hn := ht.1
  refine AC.of_pureS (N := 95) Try.func19 s19 (by kernel_rfl) rfl rfl (by simp) rfl ?_; unfold B19
  by_cases q0 : l.length ≤ 1048576
  case neg =>
    have q0' : (1048576 : Int) < l.length := by omega
    repeat (first | refine sA ?_ | refine sB ?_ | refine sC ?_ | refine sD ?_ | refine sE rfl ?_ | refine sF rfl ?_ | refine sG rfl ?_ | (refine sk_reg fun K hK => ?_; simp [q0']; refine hK _ ?_; clear hK K))
    refine sk_ret ?_; simp
  have q0' : ¬ (1048576 : Int) < l.length := by omega
  by_cases q : (es'.length : Int) ≤ 1048576
  case neg =>
    repeat (first | refine sA ?_ | refine sB ?_ | refine sC ?_ | refine sD ?_ | refine sE rfl ?_ | refine sF rfl ?_ | refine sG rfl ?_ | (refine sk_reg fun K hK => ?_; simp [q0', subN_no q]; (repeat ((first | refine AskX.go (szActS_ac h (a := 1048576) (by omega)) ?_); simp [q0', subN_no q])); refine hK _ ?_; clear hK K))
    refine sk_ret ?_; simp
  have q' : ¬ ((1048576 : Int) - es'.length < 0) := by omega
  have qn : es'.length ≤ 1048576 := by omega
  repeat (first | refine sA ?_ | refine sB ?_ | refine sC ?_ | refine sD ?_ | refine sE rfl ?_ | refine sF rfl ?_ | refine sG rfl ?_ | (refine sk_reg fun K hK => ?_; simp [q0', subN_lt q, q']; (repeat ((first | refine AskX.go (szActS_ac h (a := 1048576) (by omega)) ?_); simp [q0', subN_lt q, q'])); refine hK _ ?_; clear hK K))
  refine sk_reg fun K hK => ?_; simp
  refine AskX.mkr (toIntS_mk (ht.gro (by first | exact Gro.refl _ | exact ⟨_, rfl⟩ | exact ⟨_, by simp only [List.append_assoc, List.cons_append, List.nil_append]; rfl⟩ | exact ⟨[], by simp⟩) (RP.frm _)) q0) ?_; rintro y1 K1 B1 p1 b1 m1; simp
  refine AskX.mkr (toActS_mk (h.gro (by first | exact Gro.refl _ | exact ⟨_, rfl⟩ | exact ⟨_, by simp only [List.append_assoc, List.cons_append, List.nil_append]; rfl⟩ | exact ⟨[], by simp⟩) (RP.frm _)) qn) ?_; rintro w1 J1 A1 r1 o1 n1; simp
  refine AskX.mkr (specDrive_mk (p1.gro (by first | exact Gro.refl _ | exact ⟨_, rfl⟩ | exact ⟨_, by simp only [List.append_assoc, List.cons_append, List.nil_append]; rfl⟩ | exact ⟨[], by simp⟩) (RP.frm _)) (r1.gro (by first | exact Gro.refl _ | exact ⟨_, rfl⟩ | exact ⟨_, by simp only [List.append_assoc, List.cons_append, List.nil_append]; rfl⟩ | exact ⟨[], by simp⟩) (RP.frm _)) hra s) ?_; rintro w2 J2 A2 r2 o2 n2; simp
  refine hK _ ?_; clear hK K
  repeat (first | refine sA ?_ | refine sB ?_ | refine sC ?_ | refine sD ?_ | refine sE rfl ?_ | refine sF rfl ?_ | refine sG rfl ?_ | (refine sk_reg fun K hK => ?_; simp; refine hK _ ?_; clear hK K))
  refine sk_reg fun K hK => ?_; simp
  refine AskX.mkr (toIntS_mk (ht.gro (by first | exact Gro.refl _ | exact ⟨_, rfl⟩ | exact ⟨_, by simp only [List.append_assoc, List.cons_append, List.nil_append]; rfl⟩ | exact ⟨[], by simp⟩) (RP.frm _)) q0) ?_; rintro y3 K3 B3 p3 b3 m3; simp
  refine hK _ ?_; clear hK K
  repeat (first | refine sA ?_ | refine sB ?_ | refine sC ?_ | refine sD ?_ | refine sE rfl ?_ | refine sF rfl ?_ | refine sG rfl ?_ | (refine sk_reg fun K hK => ?_; simp; refine hK _ ?_; clear hK K))
  refine sk_reg fun K hK => ?_; simp
  refine AskX.mkr (toActS_mk (h.gro (by first | exact Gro.refl _ | exact ⟨_, rfl⟩ | exact ⟨_, by simp only [List.append_assoc, List.cons_append, List.nil_append]; rfl⟩ | exact ⟨[], by simp⟩) (RP.frm _)) qn) ?_; rintro w3 J3 A3 r3 o3 n3; simp
  refine hK _ ?_; clear hK K
  repeat (first | refine sA ?_ | refine sB ?_ | refine sC ?_ | refine sD ?_ | refine sE rfl ?_ | refine sF rfl ?_ | refine sG rfl ?_ | (refine sk_reg fun K hK => ?_; simp; refine hK _ ?_; clear hK K))
  refine sk_reg fun K hK => ?_; simp
  refine AskX.mkr (implDrive_mk (p3.gro (by first | exact Gro.refl _ | exact ⟨_, rfl⟩ | exact ⟨_, by simp only [List.append_assoc, List.cons_append, List.nil_append]; rfl⟩ | exact ⟨[], by simp⟩) (RP.frm _)) (r3.gro (by first | exact Gro.refl _ | exact ⟨_, rfl⟩ | exact ⟨_, by simp only [List.append_assoc, List.cons_append, List.nil_append]; rfl⟩ | exact ⟨[], by simp⟩) (RP.frm _)) s) ?_; rintro w4 J4 A4 r4 o4 n4; simp
  refine hK _ ?_; clear hK K
  have hcn := cnDrive (s := s) (l := l) (es := es')
  have hcn0 := cnL_nn cnMv_nn (driveW s l es')
  have hce := cnL_one' (c := cnAc) (m := 6) (fun _ => rfl) es'
  have hci := cnL_one' (c := cnInt) (m := 1) (fun _ => rfl) l
  have hidx := fun (H' : Heap) (E' F' : List Nat) (v' vt' : Value) (ht : RS 1 RInt H' F' vt' l) (h : RS 6 RAc H' E' v' es') => implDrive_mk ht h s
  generalize hDd : driveW s l es' = D at *
  have l2 := o2.lt
  have lb3 := b3.lt
  have l3 := o3.lt
  have l4 := o4.lt
  simp only [List.append_assoc, List.cons_append, List.nil_append, List.length_append, List.length_cons, List.length_nil] at r2 o2 n2 l2 p3 b3 m3 lb3 r3 o3 n3 l3 r4 o4 n4 l4
  obtain ⟨P2, hP2⟩ : ∃ P, P = H.length + (K1.length + (J1.length + J2.length)) := ⟨_, rfl⟩
  obtain ⟨PB, hPB⟩ : ∃ P, P = P2 + K3.length := ⟨_, rfl⟩
  obtain ⟨P3, hP3⟩ : ∃ P, P = PB + J3.length := ⟨_, rfl⟩
  refine sk_at [(0, iv s), (1, .slice a1 l.length c1), (2, v), (8, w2), (9, y3), (10, w3), (11, w4)]
    (fun H1 => Gro H H1 ∧ RS 6 RMv H1 A2 w2 D ∧ RS 1 RInt H1 B3 y3 l ∧ RS 6 RAc H1 A3 w3 es' ∧ RS 6 RMv H1 A4 w4 D ∧ Own H1 B3 ∧ Own H1 A3 ∧ Own H1 A4 ∧ (∀ e, e ∈ A2 → H.length ≤ e ∧ e < P2) ∧ (∀ e, e ∈ B3 → P2 ≤ e ∧ e < PB) ∧ (∀ e, e ∈ A3 → PB ≤ e ∧ e < P3) ∧ (∀ e, e ∈ A4 → P3 ≤ e) ∧ H.length ≤ P2 ∧ P2 ≤ PB ∧ PB ≤ P3) (by simp [subL, getT]) ?_ ?_
  · exact ⟨Gro.one _ _, r2.gro (by first | exact Gro.refl _ | exact ⟨_, rfl⟩ | exact ⟨_, by simp only [List.append_assoc, List.cons_append, List.nil_append]; rfl⟩ | exact ⟨[], by simp⟩) RMv.frm, p3.gro (by first | exact Gro.refl _ | exact ⟨_, rfl⟩ | exact ⟨_, by simp only [List.append_assoc, List.cons_append, List.nil_append]; rfl⟩ | exact ⟨[], by simp⟩) (RP.frm _), r3.gro (by first | exact Gro.refl _ | exact ⟨_, rfl⟩ | exact ⟨_, by simp only [List.append_assoc, List.cons_append, List.nil_append]; rfl⟩ | exact ⟨[], by simp⟩) (RP.frm _), r4.gro (by first | exact Gro.refl _ | exact ⟨_, rfl⟩ | exact ⟨_, by simp only [List.append_assoc, List.cons_append, List.nil_append]; rfl⟩ | exact ⟨[], by simp⟩) RMv.frm, b3.gro (by first | exact Gro.refl _ | exact ⟨_, rfl⟩ | exact ⟨_, by simp only [List.append_assoc, List.cons_append, List.nil_append]; rfl⟩ | exact ⟨[], by simp⟩), o3.gro (by first | exact Gro.refl _ | exact ⟨_, rfl⟩ | exact ⟨_, by simp only [List.append_assoc, List.cons_append, List.nil_append]; rfl⟩ | exact ⟨[], by simp⟩), o4.gro (by first | exact Gro.refl _ | exact ⟨_, rfl⟩ | exact ⟨_, by simp only [List.append_assoc, List.cons_append, List.nil_append]; rfl⟩ | exact ⟨[], by simp⟩), fun e he => ⟨by have := n2 e he; omega, by have := l2 e he; omega⟩, fun e he => ⟨by have := m3 e he; omega, by have := lb3 e he; omega⟩, fun e he => ⟨by have := n3 e he; omega, by have := l3 e he; omega⟩, fun e he => by have := n4 e he; omega, by omega, by omega, by omega⟩
  clear r1 o1 n1 p1 b1 m1 r2 o2 n2 l2 p3 b3 m3 lb3 r3 o3 n3 l3 r4 o4 n4 l4
  rintro H1 ⟨hg, r2, p3, r3, r4, ob3, o3, o4, k2, kb, k3, k4, hp2, hpb, hp3⟩
  have hl1 := hg.len
  have b2 := r2.bd RMv.frm
  have bb := p3.bd (RP.frm _)
  have b3 := r3.bd (RP.frm _)
  have b4 := r4.bd RMv.frm
  repeat (first | refine sA ?_ | refine sB ?_ | refine sC ?_ | refine sD ?_ | refine sE rfl ?_ | refine sF rfl ?_ | refine sG rfl ?_ | (refine sk_reg fun K hK => ?_; simp; (repeat ((first | refine AskX.go (eqMovedS_ac r4 r2) ?_); simp)); refine hK _ ?_; clear hK K))
  refine sk_reg fun K hK => ?_; simp
  refine AskX.mkr (toIntS_mk (ht.gro hg (RP.frm _)) q0) ?_; rintro y5 K5 B5 p5 b5 m5; simp
  refine AskX.go (eqIntS_ac (p3.gro (by first | exact Gro.refl _ | exact ⟨_, rfl⟩ | exact ⟨_, by simp only [List.append_assoc, List.cons_append, List.nil_append]; rfl⟩ | exact ⟨[], by simp⟩) (RP.frm _)) p5) ?_; simp
  refine hK _ ?_; clear hK K
  repeat (first | refine sA ?_ | refine sB ?_ | refine sC ?_ | refine sD ?_ | refine sE rfl ?_ | refine sF rfl ?_ | refine sG rfl ?_ | (refine sk_reg fun K hK => ?_; simp; refine hK _ ?_; clear hK K))
  refine sk_reg fun K hK => ?_; simp
  refine AskX.mkr (toActS_mk (h.gro (hg.trans (by first | exact Gro.refl _ | exact ⟨_, rfl⟩ | exact ⟨_, by simp only [List.append_assoc, List.cons_append, List.nil_append]; rfl⟩ | exact ⟨[], by simp⟩)) (RP.frm _)) qn) ?_; rintro w5 J5 A5 r5 o5 n5; simp
  refine AskX.go (eqActS_ac (r3.gro (by first | exact Gro.refl _ | exact ⟨_, rfl⟩ | exact ⟨_, by simp only [List.append_assoc, List.cons_append, List.nil_append]; rfl⟩ | exact ⟨[], by simp⟩) (RP.frm _)) (r5.gro (by first | exact Gro.refl _ | exact ⟨_, rfl⟩ | exact ⟨_, by simp only [List.append_assoc, List.cons_append, List.nil_append]; rfl⟩ | exact ⟨[], by simp⟩) (RP.frm _))) ?_; simp
  refine hK _ ?_; clear hK K
  have gG : Gro H1 (H1 ++ (K5 ++ J5)) := ⟨_, rfl⟩
  obtain ⟨Hm, acm, mkm, pm⟩ := markIntS_ac (k := 1) (p3.gro gG (RP.frm _)) (ob3.gro gG) (by omega) (by omega)
  have wrm : wrL H.length [] B3 := fun d hd => .inl (by have := kb d hd; omega)
  have hlm : H1.length ≤ Hm.length := by have := mkm.len; simp at this; omega
  have outm : ∀ i, i < H1.length → i ∉ B3 → Hm[i]? = H1[i]? := fun i hi hn => (mkm.out i hn).trans (gG.same hi)
  have r3m : RS 6 RAc Hm A3 w3 es' := r3.fr (RP.frm _) fun f hf hlt => outm f hlt fun hh => by have := kb _ hh; have := k3 f hf; omega
  have o3m : Own Hm A3 := o3.fr fun f hf => outm f (b3 f hf) fun hh => by have := kb _ hh; have := k3 f hf; omega
  obtain ⟨H2, ac3, mk3, r3'⟩ := markActS_ac (k := 1 + cnL cnInt l) r3m o3m (by omega) (by omega)
  have wr3 : wrL H.length [] A3 := fun d hd => .inl (by have := k3 d hd; omega)
  have out3 : ∀ i, i < H1.length → i ∉ A3 → i ∉ B3 → H2[i]? = H1[i]? := fun i hi hn hn2 => (mk3.out i hn).trans (outm i hi hn2)
  have hl2 : H1.length ≤ H2.length := by have := mk3.len; omega
  have g2 : Gro H H2 := Gro.of (by omega) fun i hi => (out3 i (by omega) (fun hh => by have := k3 _ hh; omega) fun hh => by have := kb _ hh; omega).trans (hg.same hi)
  have r2' : RS 6 RMv H2 A2 w2 D := r2.fr RMv.frm fun f hf hlt => out3 f hlt (fun hh => by have := k3 _ hh; have := k2 f hf; omega) fun hh => by have := kb _ hh; have := k2 f hf; omega
  have r4' : RS 6 RMv H2 A4 w4 D := r4.fr RMv.frm fun f hf hlt => out3 f hlt (fun hh => by have := k3 _ hh; have := k4 f hf; omega) fun hh => by have := kb _ hh; have := k4 f hf; omega
  have o4' : Own H2 A4 := o4.fr fun f hf => out3 f (b4 f hf) (fun hh => by have := k3 _ hh; have := k4 f hf; omega) fun hh => by have := kb _ hh; have := k4 f hf; omega
  have p1 : ¬ (1 + cnL cnInt l + cnL cnAc es' < 0) := by omega
  obtain ⟨H3, ac4, mk4, r4m⟩ := markMovedS_ac (k := 1) r4' o4' (by omega) (by omega)
  have wr4 : wrL H.length [] A4 := fun d hd => .inl (by have := k4 d hd; omega)
  have hl3 : H3.length = H2.length := mk4.len
  have g3 : Gro H H3 := Gro.of (by omega) fun i hi => (mk4.out i fun hh => by have := k4 _ hh; omega).trans (g2.same hi)
  have r2n : RS 6 RMv H3 A2 w2 D := r2'.fr RMv.frm fun f hf hlt => mk4.out f fun hh => by have := k4 _ hh; have := k2 f hf; omega
  have p2 : ¬ (1 + cnL cnMv D < 0) := by omega
  have hac := heldMovedS_ac (k := 1) r4m (by omega) (by omega)
  repeat (first | refine sA ?_ | refine sB ?_ | refine sC ?_ | refine sD ?_ | refine sE rfl ?_ | refine sF rfl ?_ | refine sG rfl ?_ | (refine sk_reg fun K hK => ?_; simp [wrm, wr3, p1, p2, wr4]; (repeat ((first | refine AskX.go (acm) ?_ | refine AskX.go (ac3) ?_ | refine AskX.go (eqMovedS_ac r4' r2') ?_ | refine AskX.go (ac4) ?_ | refine AskX.go (hac) ?_); simp [wrm, wr3, p1, p2, wr4])); refine hK _ ?_; clear hK K))
  have hacL := fun L : Heap => heldMovedS_ac (k := 1) (r4m.ext (L := L) RMv.frm) (by omega) (by omega)
  refine sk_reg fun K hK => ?_; simp
  refine AskX.mkr (toIntS_mk (ht.gro g3 (RP.frm _)) q0) ?_; rintro y6 K6 B6 p6 b6 m6; simp
  refine AskX.mkr (toActS_mk (h.gro (g3.trans (by first | exact Gro.refl _ | exact ⟨_, rfl⟩ | exact ⟨_, by simp only [List.append_assoc, List.cons_append, List.nil_append]; rfl⟩ | exact ⟨[], by simp⟩)) (RP.frm _)) qn) ?_; rintro w6 J6 A6 r6 o6 n6; simp
  refine AskX.mkr (hidx _ _ _ _ _ (p6.gro (by first | exact Gro.refl _ | exact ⟨_, rfl⟩ | exact ⟨_, by simp only [List.append_assoc, List.cons_append, List.nil_append]; rfl⟩ | exact ⟨[], by simp⟩) (RP.frm _)) (r6.gro (by first | exact Gro.refl _ | exact ⟨_, rfl⟩ | exact ⟨_, by simp only [List.append_assoc, List.cons_append, List.nil_append]; rfl⟩ | exact ⟨[], by simp⟩) (RP.frm _))) ?_; rintro w7 J7 A7 r7 o7 n7; simp
  refine hK _ ?_; clear hK K
  simp only [List.append_assoc] at r7
  repeat (first | refine sA ?_ | refine sB ?_ | refine sC ?_ | refine sD ?_ | refine sE rfl ?_ | refine sF rfl ?_ | refine sG rfl ?_ | (refine sk_reg fun K hK => ?_; simp [p2]; (repeat ((first | refine AskX.go (eqMovedS_ac r7 (r2n.gro (by first | exact Gro.refl _ | exact ⟨_, rfl⟩ | exact ⟨_, by simp only [List.append_assoc, List.cons_append, List.nil_append]; rfl⟩ | exact ⟨[], by simp⟩) RMv.frm)) ?_ | refine AskX.go (hacL _) ?_); simp [p2])); refine hK _ ?_; clear hK K))
  refine sk_ret ?_; simp
  obtain ⟨K, rfl⟩ := g3
  exact ⟨_, List.append_assoc _ _ _⟩
end Go.Proofs.Ytpoedfmkiiijnaa
