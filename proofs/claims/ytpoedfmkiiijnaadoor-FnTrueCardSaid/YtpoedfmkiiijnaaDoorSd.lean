/- spec.l3decimal: a number's decimal digits. A walk. -/
import Derived.Test.YtpoedfmkiiijnaaDoorGM
import Derived.Lib.ItoaLen
namespace Go.Proofs.YtpoedfmkiiijnaaDoor
open Go Go.RowKit Go.Proofs.YtpoedfmkiiijnaaDoorAm
set_option linter.unusedVariables false
set_option linter.unusedSimpArgs false
set_option maxRecDepth 10000
set_option maxHeartbeats 4000000
theorem cv_one (H : Heap) (n : Int) : cvA Tryd.prog (H ++ [⟨5, [.int .u8 n], true, true⟩]) 32 9 (sl H.length 0 1) = some (vs [UInt8.ofNat n.toNat]) := by
 have hc : Heap.cell (H ++ [⟨5, [.int .u8 n], true, true⟩]) H.length 0 = some (.int .u8 n) := by simp [Heap.cell]
 simp [cvA, bytA, ldC, hc, bytsOf]
theorem digs_small {m : Nat} (h : m < 10) : Lib.decDigits m = [UInt8.ofNat (48 + m % 10)] := by rw [Lib.decDigits, dif_pos h, Nat.mod_eq_of_lt h]
theorem digs_big {m : Nat} (h : ¬ m < 10) : Lib.decDigits m = Lib.decDigits (m / 10) ++ [UInt8.ofNat (48 + m % 10)] := by rw [Lib.decDigits, dif_neg h]
theorem digs_len (m : Nat) (hm : m ≤ 9223372036854775807) : (Lib.decDigits m).length ≤ 21 := by
 have := Lib.itoa_length_le (m : Int) (by omega) (by omega)
 rwa [Lib.itoa_nonneg] at this
def B18 : SC := .seq (.reg [⟨some 2, .assign (.const (.string { data := #[] })), none, []⟩]) (.seq (.seq (.reg [⟨some 4, .move (.tmp 0), none, []⟩, ⟨some 5, .binOp .eql 3 (.tmp 4) (.const (.int .i64 0)) 3, none, []⟩]) (.cond (.tmp 5) (.seq (.reg [⟨some 2, .assign (.const (.string { data := #[48] })), none, []⟩]) .ret) .skip)) (.seq (.reg [⟨some 3, .assign (.const (.string { data := #[] })), none, []⟩]) (.seq (.block 0 (.loop (.seq (.seq (.reg [⟨some 6, .move (.tmp 0), none, []⟩, ⟨some 7, .binOp .gtr 3 (.tmp 6) (.const (.int .i64 0)) 3, none, []⟩]) (.cond (.tmp 7) .skip (.exit 0))) (.block 1 (.seq (.reg [⟨some 8, .move (.tmp 0), none, []⟩, ⟨some 9, .binOp .rem 3 (.tmp 8) (.const (.int .i64 10)) 3, none, []⟩, ⟨some 10, .binOp .add 3 (.const (.int .i64 48)) (.tmp 9) 3, none, []⟩, ⟨some 11, .convert 3 5 (.tmp 10), none, []⟩, ⟨some 12, .buildSlice 32 1 #[(0, (.tmp 11))], none, []⟩, ⟨some 13, .convert 32 9 (.tmp 12), none, []⟩, ⟨some 14, .move (.tmp 3), none, []⟩, ⟨some 15, .binOp .add 9 (.tmp 13) (.tmp 14) 9, none, []⟩, ⟨some 3, .assign (.tmp 15), none, []⟩]) (.reg [⟨some 16, .move (.tmp 0), none, []⟩, ⟨some 17, .binOp .quo 3 (.tmp 16) (.const (.int .i64 10)) 3, none, []⟩, ⟨some 0, .assign (.tmp 17), none, []⟩])))))) (.seq (.reg [⟨some 18, .move (.tmp 3), none, []⟩, ⟨some 2, .assign (.tmp 18), none, []⟩]) .ret))))
theorem s18 : Tryd.f18.body.bind (stripC 19) = some B18 := by kernel_rfl
theorem decimal_ac {H : Heap} (u : Nat) (hu : u ≤ 1000000000) : AC Tryd.prog 18 [iv u] H (vs (Lib.decDigits u)) H [] := by
 have hul := digs_len u (by omega)
 refine AC.of_pureS (N := 19) Tryd.func18 s18 (by kernel_rfl) rfl rfl (by simp) rfl ?_; unfold B18
 by_cases h0 : u = 0
 ·subst h0
  have hd : Lib.decDigits 0 = [48] := by rw [digs_small (by omega)]; rfl
  repeat (first | refine sA ?_ | refine sB ?_ | refine sC ?_ | refine sD ?_ | refine sE rfl ?_ | refine sF rfl ?_ | refine sG rfl ?_ | (refine sk_reg fun K hK => ?_; simp [hd]; refine hK _ ?_; clear hK K))
  refine sk_ret ?_; simp [hd]
 have h0' : ¬ ((u : Int) = 0) := by omega
 repeat (first | refine sA ?_ | refine sB ?_ | refine sC ?_ | refine sD ?_ | refine sE rfl ?_ | refine sF rfl ?_ | refine sG rfl ?_ | (refine sk_reg fun K hK => ?_; simp [h0, h0']; refine hK _ ?_; clear hK K))
 refine sk_loop (fun m ts H' => ∃ (o : List UInt8), m ≤ u ∧ Gro H H' ∧ (Lib.decDigits u = (if m = 0 then [] else Lib.decDigits m) ++ o) ∧ ts = [(0, iv m), (3, vs o)]) u _ ?_ ⟨[], Nat.le_refl _, Gro.refl _, by simp [h0], rfl⟩ ?_
 ·simp [subL, getT]
 rintro m ts H1 ⟨o, hm, hg, he, rfl⟩
 have hl1 := hg.len
 by_cases hp : 0 < m
 case neg =>
  obtain rfl : m = 0 := by omega
  simp only [if_true, List.nil_append] at he
  repeat (first | refine sA ?_ | refine sB ?_ | refine sC ?_ | refine sD ?_ | refine sE rfl ?_ | refine sF rfl ?_ | refine sG rfl ?_ | (refine sk_reg fun K hK => ?_; simp; refine hK _ ?_; clear hK K))
  refine sk_ret ?_; simp [he]
  obtain ⟨J, rfl⟩ := hg
  exact ⟨J, rfl⟩
 have hp' : (0 : Int) < m := by omega
 have hm0 : ¬ m = 0 := by omega
 rw [if_neg hm0] at he
 have e1 : (m : Int).tmod 10 = ((m % 10 : Nat) : Int) := by rw [Int.tmod_eq_emod_of_nonneg (by omega)]; omega
 have e2 : (m : Int).tdiv 10 = ((m / 10 : Nat) : Int) := by rw [Int.tdiv_eq_ediv_of_nonneg (by omega)]; omega
 have w1 : IntKind.i64.wrap (48 + (m : Int) % 10) = 48 + (m : Int) % 10 := wrap_id (by omega) (by omega)
 have w2 : IntKind.u8.wrap (48 + (m : Int) % 10) = 48 + (m : Int) % 10 := by
  have h1 : 0 ≤ (m : Int) % 10 ∧ (m : Int) % 10 < 10 := by omega
  generalize (m : Int) % 10 = d at h1 ⊢
  obtain ⟨d, rfl⟩ := Int.eq_ofNat_of_zero_le h1.1
  have h2 : d < 10 := by omega
  match d, h2 with
  | 0, _ | 1, _ | 2, _ | 3, _ | 4, _ | 5, _ | 6, _ | 7, _ | 8, _ | 9, _ => rfl
 have w3 : IntKind.i64.wrap ((m / 10 : Nat) : Int) = ((m / 10 : Nat) : Int) := wrap_id (by omega) (by omega)
 have q1 : intA .rem .i64 (m : Int) .i64 10 = some (.int .i64 ((m : Int) % 10)) := by simp [intA, e1]
 have q2 : intA .quo .i64 (m : Int) .i64 10 = some (.int .i64 ((m / 10 : Nat) : Int)) := by simp only [intA, e2, w3]; simp
 have hc := cv_one H1 (48 + (m : Int) % 10)
 have ht : (48 + (m : Int) % 10).toNat = 48 + m % 10 := by omega
 rw [ht] at hc
 have hol : o.length ≤ 21 := by have := congrArg List.length he; rw [List.length_append] at this; omega
 have hsz : 1 + o.length ≤ 4611686018427387904 := by omega
 repeat (first | refine sA ?_ | refine sB ?_ | refine sC ?_ | refine sD ?_ | refine sE rfl ?_ | refine sF rfl ?_ | refine sG rfl ?_ | (refine sk_reg fun K hK => ?_; simp [hp, hp', q1, q2, w1, w2, hc, hsz, hl1]; refine hK _ ?_; clear hK K))
 refine sk_inv ⟨m / 10, _, Nat.div_lt_self hp (by omega), ?_, UInt8.ofNat (48 + m % 10) :: o, by omega, hg.app _, ?_, rfl⟩
 ·simp [subL, getT]
 ·by_cases hs : m < 10
  ·rw [he, digs_small hs, if_pos (by omega)]; rfl
  ·rw [he, digs_big hs, if_neg (by omega)]; simp
end Go.Proofs.YtpoedfmkiiijnaaDoor
