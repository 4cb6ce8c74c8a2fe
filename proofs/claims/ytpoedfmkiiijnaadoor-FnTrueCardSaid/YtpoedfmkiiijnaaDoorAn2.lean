/- Answer of the specification. A walk. -/
import Derived.Test.YtpoedfmkiiijnaaDoorDr2
import Derived.Test.YtpoedfmkiiijnaaDoorAn0
import Derived.Test.YtpoedfmkiiijnaaDoorSd
namespace Go.Proofs.YtpoedfmkiiijnaaDoor
open Go Go.RowKit Go.Proofs.YtpoedfmkiiijnaaDoorAm
set_option linter.unusedVariables false
set_option linter.unusedSimpArgs false
set_option maxRecDepth 10000
set_option maxHeartbeats 8000000
theorem bytsOf_flat : ∀ l : List UInt8, bytsOf (l.flatMap c8) = some l
 | [] => rfl
 | x :: l => by
  have : (x :: l).flatMap c8 = .int .u8 x.toNat :: l.flatMap c8 := rfl
  rw [this]
  simp only [bytsOf, bytsOf_flat l]
  simp
theorem cv_rw {H : Heap} {E : List Nat} {v : Value} {l : List UInt8} (h : RW 5 1 R8 H E v l) : cvA Tryd.prog H 32 9 v = some (vs l) := by
 rcases h with ⟨rfl, rfl, rfl⟩ | ⟨id, E', cs, rfl, rfl, hbk, hcs⟩
 ·simp [cvA, bytA]
 ·obtain ⟨rfl, rfl⟩ := hcs.plainE
  have hl : ldC H id ([] : List Value).length l.length = some (l.flatMap c8) := ldC_cells (b := ⟨5, l.flatMap c8, true, true⟩) hbk rfl l.length [] _ [] (by simp) (by rw [flatMap_len c8_len l, Nat.mul_one])
  simp only [List.length_nil] at hl
  simp [cvA, bytA, hl, bytsOf_flat]
theorem decimal_ac' {H : Heap} {n : Int} (h : 0 ≤ n ∧ n ≤ 1000000000) : AC Tryd.prog 18 [iv n] H (vs (Lib.itoa n)) H [] := by
 obtain ⟨u, rfl⟩ := Int.eq_ofNat_of_zero_le h.1
 rw [Lib.itoa_nonneg]
 exact decimal_ac u (by omega)
/-- What is answered so far, over a heap that else only grows. -/
structure SaI (H0 H1 : Heap) (A : List Nat) (vo : Value) (l : List UInt8) : Prop where
 g : Gro H0 H1
 r : RW 5 1 R8 H1 A vo l
 o : Own H1 A
 lo : ∀ e, e ∈ A → H0.length ≤ e
theorem SaI.ext {H0 H1 : Heap} {A : List Nat} {vo : Value} {l : List UInt8} (h : SaI H0 H1 A vo l) (J : Heap) : SaI H0 (H1 ++ J) A vo l := ⟨h.g.app J, h.r.ext (RP.frm _), h.o.gro (Gro.one _ _), h.lo⟩
def B6 : SC := .seq (.reg [⟨some 6, .assign (.const (.string { data := #[] })), none, []⟩]) (.seq (.reg [⟨some 7, .assign (.const (.slice none 0 0)), none, []⟩]) (.seq (.seq (.reg [⟨some 18, .move (.tmp 0), none, []⟩, ⟨some 19, .move (.tmp 1), none, []⟩, ⟨some 20, .move (.tmp 2), none, []⟩, ⟨some 21, .call ⟨.value (.func 14), #[.tmp 18, .tmp 19, .tmp 20], #[3, 22, 27]⟩, none, []⟩, ⟨some 22, .call ⟨.builtin .len, #[.tmp 21], #[35]⟩, none, []⟩, ⟨some 23, .move (.const (.int .i64 0)), none, []⟩]) (.block 0 (.loop (.seq (.reg [⟨some 24, .binOp .lss 3 (.tmp 23) (.tmp 22) 3, none, []⟩]) (.seq (.cond (.tmp 24) .skip (.exit 0)) (.seq (.block 1 (.seq (.reg [⟨some 25, .indexAddr 35 (.tmp 21) (.tmp 23), none, []⟩, ⟨some 26, .load 44 (.tmp 25), none, []⟩, ⟨some 9, .alloc 44, none, []⟩, ⟨none, .store 44 (.tmp 9) (.tmp 26), none, []⟩]) (.seq (.reg [⟨some 27, .fieldAddr 44 (.tmp 9) 0, none, []⟩, ⟨some 28, .load 3 (.tmp 27), none, []⟩, ⟨some 29, .call ⟨.value (.func 18), #[.tmp 28], #[3]⟩, none, []⟩, ⟨some 10, .assign (.tmp 29), none, []⟩]) (.seq (.seq (.reg [⟨some 30, .fieldAddr 44 (.tmp 9) 1, none, []⟩, ⟨some 31, .fieldAddr 42 (.tmp 30) 2, none, []⟩, ⟨some 32, .load 40 (.tmp 31), none, []⟩, ⟨some 33, .call ⟨.builtin .len, #[.tmp 32], #[40]⟩, none, []⟩, ⟨some 34, .move (.const (.int .i64 0)), none, []⟩]) (.block 2 (.loop (.seq (.reg [⟨some 35, .binOp .lss 3 (.tmp 34) (.tmp 33) 3, none, []⟩]) (.seq (.cond (.tmp 35) .skip (.exit 2)) (.seq (.block 3 (.seq (.reg [⟨some 36, .move (.tmp 34), none, []⟩, ⟨some 37, .indexAddr 40 (.tmp 32) (.tmp 34), none, []⟩, ⟨some 38, .load 47 (.tmp 37), none, []⟩, ⟨some 12, .alloc 47, none, []⟩, ⟨some 11, .assign (.tmp 36), none, []⟩, ⟨none, .store 47 (.tmp 12) (.tmp 38), none, []⟩]) (.seq (.reg [⟨some 39, .fieldAddr 44 (.tmp 9) 1, none, []⟩, ⟨some 40, .fieldAddr 42 (.tmp 39) 1, none, []⟩, ⟨some 41, .fieldAddr 39 (.tmp 40) 2, none, []⟩, ⟨some 42, .load 37 (.tmp 41), none, []⟩, ⟨some 43, .move (.tmp 11), none, []⟩, ⟨some 44, .indexAddr 37 (.tmp 42) (.tmp 43), none, []⟩, ⟨some 45, .load 50 (.tmp 44), none, []⟩, ⟨some 13, .alloc 50, none, []⟩, ⟨none, .store 50 (.tmp 13) (.tmp 45), none, []⟩]) (.seq (.reg [⟨some 46, .move (.tmp 10), none, []⟩, ⟨some 47, .binOp .add 9 (.tmp 46) (.const (.string { data := #[32, 124] })) 9, none, []⟩, ⟨some 10, .assign (.tmp 47), none, []⟩]) (.seq (.reg [⟨some 48, .fieldAddr 50 (.tmp 13) 1, none, []⟩, ⟨some 49, .load 22 (.tmp 48), none, []⟩, ⟨some 50, .call ⟨.builtin .len, #[.tmp 49], #[22]⟩, none, []⟩, ⟨some 51, .move (.const (.int .i64 0)), none, []⟩]) (.block 4 (.loop (.seq (.reg [⟨some 52, .binOp .lss 3 (.tmp 51) (.tmp 50) 3, none, []⟩]) (.seq (.cond (.tmp 52) .skip (.exit 4)) (.seq (.block 5 (.seq (.reg [⟨some 53, .move (.tmp 51), none, []⟩, ⟨some 54, .indexAddr 22 (.tmp 49) (.tmp 51), none, []⟩, ⟨some 55, .load 3 (.tmp 54), none, []⟩, ⟨some 14, .assign (.tmp 53), none, []⟩, ⟨some 15, .assign (.tmp 55), none, []⟩]) (.seq (.reg [⟨some 56, .fieldAddr 50 (.tmp 13) 0, none, []⟩, ⟨some 57, .load 3 (.tmp 56), none, []⟩, ⟨some 58, .move (.tmp 14), none, []⟩, ⟨some 59, .binOp .add 3 (.tmp 57) (.tmp 58) 3, none, []⟩, ⟨some 16, .assign (.tmp 59), none, []⟩]) (.seq (.reg [⟨some 17, .assign (.const (.string { data := #[32] })), none, []⟩]) (.seq (.seq (.reg [⟨some 60, .move (.tmp 16), none, []⟩, ⟨some 61, .fieldAddr 47 (.tmp 12) 2, none, []⟩, ⟨some 62, .load 3 (.tmp 61), none, []⟩, ⟨some 63, .binOp .geq 3 (.tmp 60) (.tmp 62) 3, none, []⟩, ⟨some 64, .move (.tmp 63), none, []⟩, ⟨some 65, .move (.tmp 16), some (64, true), []⟩, ⟨some 66, .fieldAddr 47 (.tmp 12) 3, some (64, true), []⟩, ⟨some 67, .load 3 (.tmp 66), some (64, true), []⟩, ⟨some 68, .binOp .leq 3 (.tmp 65) (.tmp 67) 3, some (64, true), []⟩, ⟨some 69, .pick (.tmp 64) (.tmp 68) (.const (.bool false)), none, []⟩]) (.cond (.tmp 69) (.reg [⟨some 17, .assign (.const (.string { data := #[32, 42] })), none, []⟩]) (.seq (.reg [⟨some 70, .move (.tmp 16), none, []⟩, ⟨some 71, .fieldAddr 47 (.tmp 12) 1, none, []⟩, ⟨some 72, .load 3 (.tmp 71), none, []⟩, ⟨some 73, .binOp .lss 3 (.tmp 70) (.tmp 72) 3, none, []⟩]) (.cond (.tmp 73) (.reg [⟨some 17, .assign (.const (.string { data := #[32, 43] })), none, []⟩]) (.seq (.reg [⟨some 74, .move (.tmp 16), none, []⟩, ⟨some 75, .load 50 (.tmp 13), none, []⟩, ⟨some 76, .call ⟨.value (.func 19), #[.tmp 75], #[50]⟩, none, []⟩, ⟨some 77, .binOp .lss 3 (.tmp 74) (.tmp 76) 3, none, []⟩]) (.cond (.tmp 77) (.reg [⟨some 17, .assign (.const (.string { data := #[32, 63] })), none, []⟩]) .skip)))))) (.reg [⟨some 78, .move (.tmp 10), none, []⟩, ⟨some 79, .move (.tmp 17), none, []⟩, ⟨some 80, .move (.tmp 15), none, []⟩, ⟨some 81, .call ⟨.value (.func 18), #[.tmp 80], #[3]⟩, none, []⟩, ⟨some 82, .binOp .add 9 (.tmp 79) (.tmp 81) 9, none, []⟩, ⟨some 83, .binOp .add 9 (.tmp 78) (.tmp 82) 9, none, []⟩, ⟨some 10, .assign (.tmp 83), none, []⟩])))))) (.reg [⟨some 84, .binOp .add 3 (.tmp 51) (.const (.int .i64 1)) 3, none, []⟩, ⟨some 51, .move (.tmp 84), none, []⟩]))))))))))) (.reg [⟨some 85, .binOp .add 3 (.tmp 34) (.const (.int .i64 1)) 3, none, []⟩, ⟨some 34, .move (.tmp 85), none, []⟩]))))))) (.reg [⟨some 86, .move (.tmp 7), none, []⟩, ⟨some 87, .move (.tmp 10), none, []⟩, ⟨some 88, .binOp .add 9 (.tmp 87) (.const (.string { data := #[10] })) 9, none, []⟩, ⟨some 89, .call ⟨.builtin .append, #[.tmp 86, .tmp 88], #[32, 9]⟩, none, []⟩, ⟨some 7, .assign (.tmp 89), none, []⟩]))))) (.reg [⟨some 90, .binOp .add 3 (.tmp 23) (.const (.int .i64 1)) 3, none, []⟩, ⟨some 23, .move (.tmp 90), none, []⟩]))))))) (.seq (.reg [⟨some 91, .move (.tmp 7), none, []⟩, ⟨some 92, .convert 32 9 (.tmp 91), none, []⟩, ⟨some 6, .assign (.tmp 92), none, []⟩]) .ret)))
theorem s6 : Tryd.f6.body.bind (stripC 93) = some B6 := by kernel_rfl
theorem specAnswer_ac {H : Heap} {E F : List Nat} {v vt : Value} {l : List Int} {es' : List Actn} (ht : RS 1 RInt H F vt l) (h : RS 6 RAc H E v es') (hra : ∀ a, a ∈ es' → acR a) (s : Int) : AC Tryd.prog 6 [iv s, vt, v] H (vs (anS (driveW s l es'))) H [] := by
 have xt := ht.one
 have xv := h.one
 refine AC.of_pureS (N := 93) Tryd.func6 s6 (by kernel_rfl) rfl rfl (by simp) rfl ?_; unfold B6
 repeat (first | refine sA ?_ | refine sB ?_ | refine sC ?_ | refine sD ?_ | refine sE rfl ?_ | refine sF rfl ?_ | refine sG rfl ?_ | (refine sk_reg fun K hK => ?_; simp; refine hK _ ?_; clear hK K))
 refine sk_reg fun K hK => ?_; simp
 refine AskX.mkr (specDrive_mk ht h hra s) ?_; rintro v1 J1 A1 r1 o1 n1; simp
 obtain ⟨hB, hD⟩ := driveW_B (s := s) (l := l) (es := es')
 generalize driveW s l es' = D at *
 obtain ⟨a2, c2, rfl⟩ := r1.form
 simp
 refine hK _ ?_; clear hK K
 repeat (first | refine sA ?_ | refine sB ?_ | refine sC ?_ | refine sD ?_ | refine sE rfl ?_ | refine sF rfl ?_ | refine sG rfl ?_ | (refine sk_reg fun K hK => ?_; simp; refine hK _ ?_; clear hK K))
 refine sk_at [(7, nl), (21, .slice a2 D.length c2), (22, iv D.length), (23, iv 0)] (fun H1 => Gro H H1 ∧ RS 6 RMv H1 A1 (.slice a2 D.length c2) D) (by simp [subL, getT]) ⟨Gro.one _ _, r1⟩ ?_
 clear r1 o1 n1
 rintro H0 ⟨hg, r1⟩
 have hl0 := hg.len
 refine sk_loop (fun m ts H' => ∃ i A vo, i ≤ D.length ∧ m = D.length - i ∧ SaI H0 H' A vo (anS (D.take i)) ∧ ts = [(7, vo), (21, .slice a2 D.length c2), (22, iv D.length), (23, iv i)]) D.length _ ?_ ⟨0, [], nl, by omega, rfl, ⟨Gro.refl _, .inl ⟨rfl, rfl, rfl⟩, ⟨List.nodup_nil, fun i hi => by simp at hi⟩, fun i hi => by simp at hi⟩, rfl⟩ ?_
 ·simp [subL, getT]
 rintro m ts H1 ⟨i, A, vo, hi, rfl, hI, rfl⟩
 have hl1 := hI.g.len
 have hw := wrap_id (x := (i : Int) + 1) (by omega) (by omega)
 have yo := hI.r.one
 have yo2 := hI.r.cv
 by_cases hlt : i < D.length
 case neg =>
  obtain rfl : i = D.length := by omega
  rw [List.take_length] at hI
  have hcv := cv_rw hI.r
  obtain ⟨a5, c5, hvo⟩ := hI.r.form
  repeat (first | refine sA ?_ | refine sB ?_ | refine sC ?_ | refine sD ?_ | refine sE rfl ?_ | refine sF rfl ?_ | refine sG rfl ?_ | (refine sk_reg fun K hK => ?_; simp; refine hK _ ?_; clear hK K))
  refine sk_reg fun K hK => ?_; simp [hcv]
  refine hK _ ?_; clear hK K
  refine sk_ret ?_; simp
  obtain ⟨J, hJ⟩ := hg.trans hI.g
  exact ⟨J, hJ⟩
 have hmb : MvB D[i] := hB _ (List.getElem_mem hlt)
 have hans := anS_s hlt
 have hal : (anS (D.take i)).length ≤ 60000 * i := by
  have := anS_len (ms := D.take i) fun m hm => hB m (List.mem_of_mem_take hm)
  rwa [List.length_take, Nat.min_eq_left hi] at this
 obtain ⟨id, o, Ek, cs, hv, hid, hide, hEk, hR, hsz, hc⟩ := (r1.gro hI.g RMv.frm).at hlt
 obtain ⟨cw, rfl, hW⟩ := hR
 obtain ⟨vl, vb, E1, E2, rfl, rfl, hl, hb⟩ := RWd.five hW
 generalize D[i] = mv at *
 obtain ⟨al, cl, rfl⟩ := hl.form
 obtain ⟨ab, cb, rfl⟩ := hb.form
 have c0 : CF H1 id (o + i * 6) (iv mv.code) := fun L => by have := hc 0 _ rfl L; simpa using this
 have c1 : CF H1 id (o + i * 6 + 1) (.bool mv.world.ok) := fun L => hc 1 _ rfl L
 have c2' : CF H1 id (o + i * 6 + 2) (.bool mv.world.book.ok) := fun L => hc 2 _ rfl L
 have c3 : CF H1 id (o + i * 6 + 3) (iv mv.world.book.sec) := fun L => hc 3 _ rfl L
 have c4 : CF H1 id (o + i * 6 + 4) (.slice al mv.world.book.lines.length cl) := fun L => hc 4 _ rfl L
 have c5 : CF H1 id (o + i * 6 + 5) (.slice ab mv.world.bodies.length cb) := fun L => hc 5 _ rfl L
 have hgz : ∀ n, H.length ≤ H1.length + n := fun n => by omega
 have hgz0 : H.length ≤ H1.length := by omega
 simp only [Value.slice.injEq, true_and] at hv
 obtain ⟨rfl, rfl⟩ := hv
 have hn1 := hl.1
 have hn2 := hb.1
 obtain ⟨rr1, rr2, rr3, rr4⟩ := rightB_all hmb.r
 obtain ⟨_, _, hl20, _⟩ := bookOk_sec rr2
 have hcl := itoa_le (n := mv.code) (by have := hmb.c; omega)
 have hcd : 0 ≤ mv.code ∧ mv.code ≤ 1000000000 := by have := hmb.c; omega
 repeat (first | refine sA ?_ | refine sB ?_ | refine sC ?_ | refine sD ?_ | refine sE rfl ?_ | refine sF rfl ?_ | refine sG rfl ?_ | (refine sk_reg fun K hK => ?_; simp [hlt, c0.s, c1.s, c2'.s, c3.s, c4.s, c5.s, hgz, hgz0]; refine hK _ ?_; clear hK K))
 obtain ⟨T, hT⟩ : ∃ T, T = H1.length := ⟨_, rfl⟩
 have hT1 : (H1 ++ [(⟨44, [iv mv.code, .bool mv.world.ok, .bool mv.world.book.ok, iv mv.world.book.sec, .slice al mv.world.book.lines.length cl, .slice ab mv.world.bodies.length cb], true, true⟩ : Blk)])[T]? = some ⟨44, [iv mv.code, .bool mv.world.ok, .bool mv.world.book.ok, iv mv.world.book.sec, .slice al mv.world.book.lines.length cl, .slice ab mv.world.bodies.length cb], true, true⟩ := by rw [hT]; simp
 have t0 : CF (H1 ++ [(⟨44, [iv mv.code, .bool mv.world.ok, .bool mv.world.book.ok, iv mv.world.book.sec, .slice al mv.world.book.lines.length cl, .slice ab mv.world.bodies.length cb], true, true⟩ : Blk)]) H1.length 0 (iv mv.code) := CF.of (by rw [← hT]; exact hT1) rfl rfl
 have t5 : CF (H1 ++ [(⟨44, [iv mv.code, .bool mv.world.ok, .bool mv.world.book.ok, iv mv.world.book.sec, .slice al mv.world.book.lines.length cl, .slice ab mv.world.bodies.length cb], true, true⟩ : Blk)]) H1.length 5 (.slice ab mv.world.bodies.length cb) := CF.of (by rw [← hT]; exact hT1) rfl rfl
 repeat (first | refine sA ?_ | refine sB ?_ | refine sC ?_ | refine sD ?_ | refine sE rfl ?_ | refine sF rfl ?_ | refine sG rfl ?_ | (refine sk_reg fun K hK => ?_; simp [t0.s, t5.s]; (repeat ((first | refine AskX.go (decimal_ac' hcd) ?_); simp [t0.s, t5.s])); refine hK _ ?_; clear hK K))
 rw [← hT]
 refine sk_loop (fun m ts H' => ∃ k, k ≤ mv.world.bodies.length ∧ m = mv.world.bodies.length - k ∧ Gro (H1 ++ [⟨44, [iv mv.code, .bool mv.world.ok, .bool mv.world.book.ok, iv mv.world.book.sec, .slice al mv.world.book.lines.length cl, .slice ab mv.world.bodies.length cb], true, true⟩]) H' ∧
   ts = [(7, vo), (9, pt T 0), (10, vs (Lib.itoa mv.code ++ lsS mv.world.book.lines mv.world.bodies k)), (21, sl id o D.length), (22, iv D.length), (23, iv i), (32, .slice ab mv.world.bodies.length cb), (33, iv mv.world.bodies.length), (34, iv k)]) mv.world.bodies.length _ ?_ ⟨0, by omega, rfl, Gro.refl _, rfl⟩ ?_
 ·simp [subL, getT, lsS_0]
 rintro m ts H3 ⟨k, hk, rfl, hg3, rfl⟩
 have hl3 : H1.length + 1 ≤ H3.length := by have := hg3.len; simpa using this
 have hwk := wrap_id (x := (k : Int) + 1) (by omega) (by omega)
 have hg13 : Gro H1 H3 := (Gro.one _ _).trans hg3
 have hT3 := hg3.get hT1
 have hls := lsS_len (k := k) hmb.r (by omega)
 obtain ⟨q, hq⟩ : ∃ q, q = Lib.itoa mv.code ++ lsS mv.world.book.lines mv.world.bodies k := ⟨_, rfl⟩
 have hql : q.length ≤ 60000 := by rw [hq, List.length_append]; omega
 rw [← hq]
 by_cases hlb : k < mv.world.bodies.length
 case neg =>
  obtain rfl : k = mv.world.bodies.length := by omega
  have hr3 := hI.r.gro hg13 (RP.frm _)
  obtain ⟨kk, v', H4, A', e1, e2, e3, e4, e5, e6, e7, _⟩ := app_str (P := Tryd.prog) (t := 32) (u := 9) (e := 5) (by simp) (by simp) (by simp) (by simp) (by simp) hr3 (hI.o.gro hg13) (s := q ++ [10]) (by simp only [List.length_append, List.length_cons, List.length_nil]; omega)
  have hwr : wrO H.length [] kk := fun d hd => .inl (by have := hI.lo d (e2 d hd).1; omega)
  have hs : q.length + 1 ≤ 4611686018427387904 := by omega
  repeat (first | refine sA ?_ | refine sB ?_ | refine sC ?_ | refine sD ?_ | refine sE rfl ?_ | refine sF rfl ?_ | refine sG rfl ?_ | (refine sk_reg fun K hK => ?_; simp [hs, e1, hwr, hw]; refine hK _ ?_; clear hK K))
  refine sk_inv ⟨D.length - (i + 1), _, by omega, ?_, i + 1, A', v', by omega, rfl, ⟨Gro.of (H1 := H4) (by omega) fun x hx => ?_, ?_, e6, fun e he => by have := e7 e he; omega⟩, rfl⟩
  ·simp [subL, getT]
  ·rw [e4 x (by omega) (fun hh => by have := hI.lo x hh; omega), hg13.same (by omega), hI.g.same hx]
  ·rw [hans, mvS, ← rr3, ← hq]; exact e5
 have hlk : k < mv.world.book.lines.length := by omega
 have hln := bookOk_ln rr2 hlk
 have hbo := rr4 k hlb hlk
 have hwa := fun c hc => way_at (c := c) hmb.r hlk hc
 have hwy := fun c hc => wyS_len (k := c) hmb.r hlk mv.world.bodies[k] hc
 have hls1 : lsS mv.world.book.lines mv.world.bodies (k + 1) = lsS mv.world.book.lines mv.world.bodies k ++ lnS mv.world.book.lines[k] mv.world.bodies[k] := by rw [lsS_s, lAt_eq hlk, bAt_eq hlb]
 obtain ⟨il, ol, v1, v2, G1, G2, hvl, hidl, l0, l1, l2, l3, rw1, rg1, _, _, hG⟩ := (hl.gro hg13 RLn.frm).line hlk
 obtain ⟨a3, c3', rfl⟩ := rw1.form
 obtain ⟨a4, c4', rfl⟩ := rg1.form
 simp only [Value.slice.injEq, true_and] at hvl
 obtain ⟨rfl, rfl⟩ := hvl
 obtain ⟨ib, ob, hvb, hidb, b0, b1, b2, b3⟩ := RS.bd (hb.gro hg13 (RP.frm _)) hlb
 simp only [Value.slice.injEq, true_and] at hvb
 obtain ⟨rfl, rfl⟩ := hvb
 generalize mv.world.book.lines[k] = ln at *
 generalize mv.world.bodies[k] = bx at *
 have hgz3 : ∀ n, H.length ≤ H3.length + n := fun n => by omega
 have hgz30 : H.length ≤ H3.length := by omega
 have t4 : CF H3 T 4 (sl il ol mv.world.book.lines.length) := CF.of hT3 rfl rfl
 have hw1 := hln.w1
 have hn3 := rw1.1
 have hsp : q.length + 2 ≤ 4611686018427387904 := by omega
 repeat (first | refine sA ?_ | refine sB ?_ | refine sC ?_ | refine sD ?_ | refine sE rfl ?_ | refine sF rfl ?_ | refine sG rfl ?_ | (refine sk_reg fun K hK => ?_; simp [hlb, hlk, b0.s, b1.s, b2.s, b3.s, t4.s, l0.s, l1.s, l2.s, l3.s, hgz3, hgz30, hsp]; refine hK _ ?_; clear hK K))
 obtain ⟨W, hW4⟩ : ∃ W, W = H3.length := ⟨_, rfl⟩
 rw [← hW4]
 have hW6 : (H3 ++ [(⟨47, [iv bx.ver, iv bx.cel, iv bx.tail, iv bx.front], true, true⟩ : Blk), ⟨50, [iv ln.gone, .slice a3 ln.way.length c3', .slice a4 ln.grs.length c4', iv ln.drop], true, true⟩])[W]? = some ⟨47, [iv bx.ver, iv bx.cel, iv bx.tail, iv bx.front], true, true⟩ := by rw [hW4]; simp
 have hU6 : (H3 ++ [(⟨47, [iv bx.ver, iv bx.cel, iv bx.tail, iv bx.front], true, true⟩ : Blk), ⟨50, [iv ln.gone, .slice a3 ln.way.length c3', .slice a4 ln.grs.length c4', iv ln.drop], true, true⟩])[W + 1]? = some ⟨50, [iv ln.gone, .slice a3 ln.way.length c3', .slice a4 ln.grs.length c4', iv ln.drop], true, true⟩ := by rw [hW4]; simp
 have hg6 : Gro H3 (H3 ++ [(⟨47, [iv bx.ver, iv bx.cel, iv bx.tail, iv bx.front], true, true⟩ : Blk), ⟨50, [iv ln.gone, .slice a3 ln.way.length c3', .slice a4 ln.grs.length c4', iv ln.drop], true, true⟩]) := Gro.one _ _
 have rg6 := rg1.gro hg6 (RP.frm _)
 have rw6 := rw1.gro hg6 (RP.frm _)
 have hg16 := hg3.trans hg6
 have hgn := hln.g0
 have hgn1 := hln.g1
 have htt := hln.t1
 generalize hH6 : H3 ++ [(⟨47, [iv bx.ver, iv bx.cel, iv bx.tail, iv bx.front], true, true⟩ : Blk), ⟨50, [iv ln.gone, .slice a3 ln.way.length c3', .slice a4 ln.grs.length c4', iv ln.drop], true, true⟩] = H6 at *
 refine sk_loop (fun m ts H' => ∃ j, j ≤ ln.way.length ∧ m = ln.way.length - j ∧ H' = H6 ∧
   ts = [(7, vo), (9, pt T 0), (10, vs (q ++ [32, 124] ++ wyS ln bx j)), (12, pt W 0), (13, pt (W + 1) 0), (21, sl id o D.length), (22, iv D.length), (23, iv i), (32, sl ib ob mv.world.bodies.length), (33, iv mv.world.bodies.length), (34, iv k), (49, .slice a3 ln.way.length c3'), (50, iv ln.way.length), (51, iv j)]) ln.way.length _ ?_ ⟨0, by omega, rfl, rfl, rfl⟩ ?_
 ·simp [subL, getT, wyS_0]
 rintro m ts H7 ⟨j, hj, rfl, rfl, rfl⟩
 have hwj := hwy j hj
 obtain ⟨p, hp⟩ : ∃ p, p = q ++ [32, 124] ++ wyS ln bx j := ⟨_, rfl⟩
 have hpl : p.length ≤ 70000 := by rw [hp]; simp only [List.length_append, List.length_cons, List.length_nil]; omega
 rw [← hp]
 by_cases hjl : j < ln.way.length
 case neg =>
  obtain rfl : j = ln.way.length := by omega
  repeat (first | refine sA ?_ | refine sB ?_ | refine sC ?_ | refine sD ?_ | refine sE rfl ?_ | refine sF rfl ?_ | refine sG rfl ?_ | (refine sk_reg fun K hK => ?_; simp [hwk]; refine hK _ ?_; clear hK K))
  refine sk_inv ⟨mv.world.bodies.length - (k + 1), _, by omega, ?_, k + 1, by omega, rfl, hg16, rfl⟩
  rw [hls1, lnS, ← List.append_assoc, ← hq, ← List.append_assoc, ← hp]
  simp [subL, getT]
 have hwj1 := wrap_id (x := (j : Int) + 1) (by omega) (by omega)
 obtain ⟨iw, ow, hvw, hidw, e0⟩ := rw6.int hjl
 simp only [Value.slice.injEq, true_and] at hvw
 obtain ⟨rfl, rfl⟩ := hvw
 have d0 : CF H7 (W + 1) 0 (iv ln.gone) := CF.of hU6 rfl rfl
 have d1 : CF H7 (W + 1) 1 (sl iw ow ln.way.length) := CF.of hU6 rfl rfl
 have d2 : CF H7 (W + 1) 2 (.slice a4 ln.grs.length c4') := CF.of hU6 rfl rfl
 have d3 : CF H7 (W + 1) 3 (iv ln.drop) := CF.of hU6 rfl rfl
 have e1 : CF H7 W 1 (iv bx.cel) := CF.of hW6 rfl rfl
 have e2 : CF H7 W 2 (iv bx.tail) := CF.of hW6 rfl rfl
 have e3 : CF H7 W 3 (iv bx.front) := CF.of hW6 rfl rfl
 have hsum : IntKind.i64.wrap (ln.gone + (j : Int)) = ln.gone + (j : Int) := wrap_id (by omega) (by unfold totL at htt; omega)
 obtain ⟨wa0, wa1⟩ := hwa j hjl
 have hwd : 0 ≤ ln.way[j] ∧ ln.way[j] ≤ 1000000000 := by omega
 have hil := itoa_le (n := ln.way[j]) ⟨wa0, by omega⟩
 have hgw : ln.way.getD j 0 = ln.way[j] := by simp [hjl]
 have hce : ceS ln bx j = 32 :: (mkS ln bx j ++ Lib.itoa ln.way[j]) := by rw [ceS, hgw]
 have hs1 : (1 : Nat) + (Lib.itoa ln.way[j]).length ≤ 4611686018427387904 := by omega
 have hs2 : 1 + 1 + (Lib.itoa ln.way[j]).length ≤ 4611686018427387904 := by omega
 have hs3 : 2 + (Lib.itoa ln.way[j]).length ≤ 4611686018427387904 := by omega
 have hs4 : p.length + ((Lib.itoa ln.way[j]).length + 1) ≤ 4611686018427387904 := by omega
 have hs5 : p.length + ((Lib.itoa ln.way[j]).length + 1 + 1) ≤ 4611686018427387904 := by omega
 have hs6 : p.length + ((Lib.itoa ln.way[j]).length + 2) ≤ 4611686018427387904 := by omega
 have hcase : (bx.tail ≤ ln.gone + (j : Int) ∧ ln.gone + (j : Int) ≤ bx.front ∧ mkS ln bx j = [42]) ∨
   (¬ bx.tail ≤ ln.gone + (j : Int) ∧ ln.gone + (j : Int) < bx.cel ∧ mkS ln bx j = [43]) ∨
   (¬ bx.tail ≤ ln.gone + (j : Int) ∧ ¬ ln.gone + (j : Int) < bx.cel ∧ ln.gone + (j : Int) < reachL ln.grs ∧ mkS ln bx j = [63]) ∨
   (¬ bx.tail ≤ ln.gone + (j : Int) ∧ ¬ ln.gone + (j : Int) < bx.cel ∧ ¬ ln.gone + (j : Int) < reachL ln.grs ∧ mkS ln bx j = []) ∨
   (bx.tail ≤ ln.gone + (j : Int) ∧ ¬ ln.gone + (j : Int) ≤ bx.front ∧ ln.gone + (j : Int) < bx.cel ∧ mkS ln bx j = [43]) ∨
   (bx.tail ≤ ln.gone + (j : Int) ∧ ¬ ln.gone + (j : Int) ≤ bx.front ∧ ¬ ln.gone + (j : Int) < bx.cel ∧ ln.gone + (j : Int) < reachL ln.grs ∧ mkS ln bx j = [63]) ∨
   (bx.tail ≤ ln.gone + (j : Int) ∧ ¬ ln.gone + (j : Int) ≤ bx.front ∧ ¬ ln.gone + (j : Int) < bx.cel ∧ ¬ ln.gone + (j : Int) < reachL ln.grs ∧ mkS ln bx j = []) := by
  unfold mkS inB
  by_cases q0 : bx.tail ≤ ln.gone + (j : Int) <;> by_cases q1 : ln.gone + (j : Int) ≤ bx.front <;> by_cases q2 : ln.gone + (j : Int) < bx.cel <;> by_cases q3 : ln.gone + (j : Int) < reachL ln.grs <;> simp [q0, q1, q2, q3]
 repeat (first | refine sA ?_ | refine sB ?_ | refine sC ?_ | refine sD ?_ | refine sE rfl ?_ | refine sF rfl ?_ | refine sG rfl ?_ | (refine sk_reg fun K hK => ?_; simp [hjl, e0.s, d0.s, hsum]; refine hK _ ?_; clear hK K))
 rcases hcase with ⟨q0, q1, qm⟩ | ⟨q0, q2, qm⟩ | ⟨q0, q2, q3, qm⟩ | ⟨q0, q2, q3, qm⟩ | ⟨q0, q1, q2, qm⟩ | ⟨q0, q1, q2, q3, qm⟩ | ⟨q0, q1, q2, q3, qm⟩
 ·repeat (first | refine sA ?_ | refine sB ?_ | refine sC ?_ | refine sD ?_ | refine sE rfl ?_ | refine sF rfl ?_ | refine sG rfl ?_ | (refine sk_reg fun K hK => ?_; simp [q0, q1, d0.s, d1.s, d2.s, d3.s, e1.s, e2.s, e3.s, hs1, hs2, hs3, hs4, hs5, hs6, hwj1]; (repeat ((first | refine AskX.go (l1most_ac ⟨_, _, _, rfl⟩ rg6) ?_ | refine AskX.go (decimal_ac' hwd) ?_); simp [q0, q1, d0.s, d1.s, d2.s, d3.s, e1.s, e2.s, e3.s, hs1, hs2, hs3, hs4, hs5, hs6, hwj1])); refine hK _ ?_; clear hK K))
  refine sk_inv ⟨ln.way.length - (j + 1), _, by omega, ?_, j + 1, by omega, rfl, rfl, rfl⟩
  rw [wyS_s, hce, qm, ← List.append_assoc, ← hp]
  simp [subL, getT]
 ·repeat (first | refine sA ?_ | refine sB ?_ | refine sC ?_ | refine sD ?_ | refine sE rfl ?_ | refine sF rfl ?_ | refine sG rfl ?_ | (refine sk_reg fun K hK => ?_; simp [q0, q2, d0.s, d1.s, d2.s, d3.s, e1.s, e2.s, e3.s, hs1, hs2, hs3, hs4, hs5, hs6, hwj1]; (repeat ((first | refine AskX.go (l1most_ac ⟨_, _, _, rfl⟩ rg6) ?_ | refine AskX.go (decimal_ac' hwd) ?_); simp [q0, q2, d0.s, d1.s, d2.s, d3.s, e1.s, e2.s, e3.s, hs1, hs2, hs3, hs4, hs5, hs6, hwj1])); refine hK _ ?_; clear hK K))
  refine sk_inv ⟨ln.way.length - (j + 1), _, by omega, ?_, j + 1, by omega, rfl, rfl, rfl⟩
  rw [wyS_s, hce, qm, ← List.append_assoc, ← hp]
  simp [subL, getT]
 ·repeat (first | refine sA ?_ | refine sB ?_ | refine sC ?_ | refine sD ?_ | refine sE rfl ?_ | refine sF rfl ?_ | refine sG rfl ?_ | (refine sk_reg fun K hK => ?_; simp [q0, q2, q3, d0.s, d1.s, d2.s, d3.s, e1.s, e2.s, e3.s, hs1, hs2, hs3, hs4, hs5, hs6, hwj1]; (repeat ((first | refine AskX.go (l1most_ac ⟨_, _, _, rfl⟩ rg6) ?_ | refine AskX.go (decimal_ac' hwd) ?_); simp [q0, q2, q3, d0.s, d1.s, d2.s, d3.s, e1.s, e2.s, e3.s, hs1, hs2, hs3, hs4, hs5, hs6, hwj1])); refine hK _ ?_; clear hK K))
  refine sk_inv ⟨ln.way.length - (j + 1), _, by omega, ?_, j + 1, by omega, rfl, rfl, rfl⟩
  rw [wyS_s, hce, qm, ← List.append_assoc, ← hp]
  simp [subL, getT]
 ·repeat (first | refine sA ?_ | refine sB ?_ | refine sC ?_ | refine sD ?_ | refine sE rfl ?_ | refine sF rfl ?_ | refine sG rfl ?_ | (refine sk_reg fun K hK => ?_; simp [q0, q2, q3, d0.s, d1.s, d2.s, d3.s, e1.s, e2.s, e3.s, hs1, hs2, hs3, hs4, hs5, hs6, hwj1]; (repeat ((first | refine AskX.go (l1most_ac ⟨_, _, _, rfl⟩ rg6) ?_ | refine AskX.go (decimal_ac' hwd) ?_); simp [q0, q2, q3, d0.s, d1.s, d2.s, d3.s, e1.s, e2.s, e3.s, hs1, hs2, hs3, hs4, hs5, hs6, hwj1])); refine hK _ ?_; clear hK K))
  refine sk_inv ⟨ln.way.length - (j + 1), _, by omega, ?_, j + 1, by omega, rfl, rfl, rfl⟩
  rw [wyS_s, hce, qm, ← List.append_assoc, ← hp]
  simp [subL, getT]
 ·repeat (first | refine sA ?_ | refine sB ?_ | refine sC ?_ | refine sD ?_ | refine sE rfl ?_ | refine sF rfl ?_ | refine sG rfl ?_ | (refine sk_reg fun K hK => ?_; simp [q0, q1, q2, d0.s, d1.s, d2.s, d3.s, e1.s, e2.s, e3.s, hs1, hs2, hs3, hs4, hs5, hs6, hwj1]; (repeat ((first | refine AskX.go (l1most_ac ⟨_, _, _, rfl⟩ rg6) ?_ | refine AskX.go (decimal_ac' hwd) ?_); simp [q0, q1, q2, d0.s, d1.s, d2.s, d3.s, e1.s, e2.s, e3.s, hs1, hs2, hs3, hs4, hs5, hs6, hwj1])); refine hK _ ?_; clear hK K))
  refine sk_inv ⟨ln.way.length - (j + 1), _, by omega, ?_, j + 1, by omega, rfl, rfl, rfl⟩
  rw [wyS_s, hce, qm, ← List.append_assoc, ← hp]
  simp [subL, getT]
 ·repeat (first | refine sA ?_ | refine sB ?_ | refine sC ?_ | refine sD ?_ | refine sE rfl ?_ | refine sF rfl ?_ | refine sG rfl ?_ | (refine sk_reg fun K hK => ?_; simp [q0, q1, q2, q3, d0.s, d1.s, d2.s, d3.s, e1.s, e2.s, e3.s, hs1, hs2, hs3, hs4, hs5, hs6, hwj1]; (repeat ((first | refine AskX.go (l1most_ac ⟨_, _, _, rfl⟩ rg6) ?_ | refine AskX.go (decimal_ac' hwd) ?_); simp [q0, q1, q2, q3, d0.s, d1.s, d2.s, d3.s, e1.s, e2.s, e3.s, hs1, hs2, hs3, hs4, hs5, hs6, hwj1])); refine hK _ ?_; clear hK K))
  refine sk_inv ⟨ln.way.length - (j + 1), _, by omega, ?_, j + 1, by omega, rfl, rfl, rfl⟩
  rw [wyS_s, hce, qm, ← List.append_assoc, ← hp]
  simp [subL, getT]
 ·repeat (first | refine sA ?_ | refine sB ?_ | refine sC ?_ | refine sD ?_ | refine sE rfl ?_ | refine sF rfl ?_ | refine sG rfl ?_ | (refine sk_reg fun K hK => ?_; simp [q0, q1, q2, q3, d0.s, d1.s, d2.s, d3.s, e1.s, e2.s, e3.s, hs1, hs2, hs3, hs4, hs5, hs6, hwj1]; (repeat ((first | refine AskX.go (l1most_ac ⟨_, _, _, rfl⟩ rg6) ?_ | refine AskX.go (decimal_ac' hwd) ?_); simp [q0, q1, q2, q3, d0.s, d1.s, d2.s, d3.s, e1.s, e2.s, e3.s, hs1, hs2, hs3, hs4, hs5, hs6, hwj1])); refine hK _ ?_; clear hK K))
  refine sk_inv ⟨ln.way.length - (j + 1), _, by omega, ?_, j + 1, by omega, rfl, rfl, rfl⟩
  rw [wyS_s, hce, qm, ← List.append_assoc, ← hp]
  simp [subL, getT]
end Go.Proofs.YtpoedfmkiiijnaaDoor
