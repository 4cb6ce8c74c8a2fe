/- wByte: a byte of an input. A walk. -/
import Derived.Test.YtpoedfmkiiijnaaGD
namespace Go.Proofs.Ytpoedfmkiiijnaa
open Go Go.RowKit Go.Proofs.YtpoedfmkiiijnaaAm
set_option linter.unusedVariables false
set_option linter.unusedSimpArgs false
set_option maxRecDepth 10000
theorem intA_rem {k : IntKind} {a b : Int} (h : b ≠ 0) : intA .rem k a k b = some (.int k (a.tmod b)) := by simp [intA, h]
def byB (bs : List Int) (i : Nat) : Int := bs.getD (i % bs.length) 0
theorem byB_rng {bs : List Int} (h : ∀ x, x ∈ bs → byR x) (i : Nat) : 0 ≤ byB bs i ∧ byB bs i ≤ 255 := by
  unfold byB
  by_cases hl : i % bs.length < bs.length
  · have := h _ (List.getElem_mem hl)
    simp only [List.getD_eq_getElem?_getD, List.getElem?_eq_getElem hl, Option.getD_some]; exact this
  · simp only [List.getD_eq_getElem?_getD, List.getElem?_eq_none (show bs.length ≤ i % bs.length by omega), Option.getD_none]; omega
def B31 : SC := .seq (.reg [⟨some 4, .assign (.const (.int .i64 0)), none, []⟩]) (.seq (.seq (.reg [⟨some 5, .move (.tmp 0), none, []⟩, ⟨some 6, .call { callee := (.builtin .len), args := #[(.tmp 5)], argTypes := #[30] }, none, []⟩, ⟨some 7, .binOp .eql 3 (.tmp 6) (.const (.int .i64 0)) 3, none, []⟩]) (.cond (.tmp 7) (.seq (.reg [⟨some 4, .assign (.const (.int .i64 0)), none, []⟩]) .ret) .skip)) (.seq (.reg [⟨some 8, .move (.tmp 0), none, []⟩, ⟨some 9, .move (.tmp 1), none, []⟩, ⟨some 10, .move (.tmp 0), none, []⟩, ⟨some 11, .call { callee := (.builtin .len), args := #[(.tmp 10)], argTypes := #[30] }, none, []⟩, ⟨some 12, .binOp .rem 3 (.tmp 9) (.tmp 11) 3, none, []⟩, ⟨some 13, .indexAddr 30 (.tmp 8) (.tmp 12), none, []⟩, ⟨some 14, .load 5 (.tmp 13), none, []⟩, ⟨some 15, .convert 5 3 (.tmp 14), none, []⟩, ⟨some 4, .assign (.tmp 15), none, []⟩]) .ret))
theorem s31 : Try.f31.body.bind (stripC 16) = some B31 := by kernel_rfl
theorem wByte_ac {H : Heap} {E : List Nat} {v : Value} {bs : List Int} (h : RS 1 RBy H E v bs) (i : Nat) (hi : i ≤ 1000) : AC Try.prog 31 [v, iv i] H (iv (byB bs i)) H [] := by
  obtain ⟨a1, c1, rfl⟩ := h.form
  have hn := h.1
  have hp := h.prop
  refine AC.of_pureS (N := 16) Try.func31 s31 (by kernel_rfl) rfl rfl (by simp) rfl ?_; unfold B31
  by_cases h0 : bs.length = 0
  · have hbs : bs = [] := List.length_eq_zero_iff.1 h0
    have hb : byB bs i = 0 := by
      have : bs = [] := List.length_eq_zero_iff.1 h0
      subst this; rfl
    repeat (first | refine sA ?_ | refine sB ?_ | refine sC ?_ | refine sD ?_ | refine sE rfl ?_ | refine sF rfl ?_ | refine sG rfl ?_ | (refine sk_reg fun K hK => ?_; simp [hbs]; refine hK _ ?_; clear hK K))
    refine sk_ret ?_; simp [hb]
  have h0' : ¬ ((bs.length : Nat) : Int) = 0 := by omega
  have hnb : ¬ bs = [] := fun hh => h0 (by rw [hh]; rfl)
  have hlt : i % bs.length < bs.length := Nat.mod_lt _ (by omega)
  have hr := intA_rem (k := .i64) (a := (i : Int)) h0'
  rw [← Int.ofNat_tmod] at hr
  obtain ⟨id, o, Ek, cs, hv, hid, _, _, hR, hsz, hc⟩ := h.at hlt
  obtain ⟨⟨_, rfl⟩, hx⟩ := hR
  have hb : byB bs i = bs[i % bs.length] := by simp [byB, hlt]
  have c0 : CF H id (o + i % bs.length) (.int .u8 (byB bs i)) := fun L => by have := hc 0 _ rfl L; rw [hb]; simpa using this
  have hw : IntKind.i64.wrap (byB bs i) = byB bs i := wrap_id (by rw [hb]; have := hx.1; omega) (by rw [hb]; have := hx.2; omega)
  simp at hv
  obtain ⟨rfl, rfl⟩ := hv
  generalize i % bs.length = m at *
  repeat (first | refine sA ?_ | refine sB ?_ | refine sC ?_ | refine sD ?_ | refine sE rfl ?_ | refine sF rfl ?_ | refine sG rfl ?_ | (refine sk_reg fun K hK => ?_; simp [hnb, hr, hlt, c0.s, hw]; refine hK _ ?_; clear hK K))
  refine sk_ret ?_; simp
end Go.Proofs.Ytpoedfmkiiijnaa
