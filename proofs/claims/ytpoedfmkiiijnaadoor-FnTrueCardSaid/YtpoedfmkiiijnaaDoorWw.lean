/- wWorld: what is the same is found the same. A walk. -/
import Derived.Test.YtpoedfmkiiijnaaDoorW1
import Derived.Test.YtpoedfmkiiijnaaDoorWd2
namespace Go.Proofs.YtpoedfmkiiijnaaDoor
open Go Go.RowKit Go.Proofs.YtpoedfmkiiijnaaDoorAm
set_option linter.unusedVariables false
set_option linter.unusedSimpArgs false
set_option maxRecDepth 10000
set_option maxHeartbeats 8000000
def B15 : SC := .seq (.reg [⟨some 2, .box 42 (.tmp 0), none, []⟩, ⟨some 3, .box 42 (.tmp 1), none, []⟩, ⟨some 4, .assign (.const (.bool false)), none, []⟩]) (.seq (.seq (.reg [⟨some 6, .fieldAddr 42 (.tmp 2) 0, none, []⟩, ⟨some 7, .load 4 (.tmp 6), none, []⟩, ⟨some 8, .fieldAddr 42 (.tmp 3) 0, none, []⟩, ⟨some 9, .load 4 (.tmp 8), none, []⟩, ⟨some 10, .binOp .neq 4 (.tmp 7) (.tmp 9) 4, none, []⟩, ⟨some 11, .move (.tmp 10), none, []⟩, ⟨some 12, .fieldAddr 42 (.tmp 2) 1, some (11, false), []⟩, ⟨some 13, .load 39 (.tmp 12), some (11, false), []⟩, ⟨some 14, .fieldAddr 42 (.tmp 3) 1, some (11, false), []⟩, ⟨some 15, .load 39 (.tmp 14), some (11, false), []⟩, ⟨some 16, .call ⟨.value (.func 34), #[.tmp 13, .tmp 15], #[39, 39]⟩, some (11, false), []⟩, ⟨some 17, .unOp .not 4 (.tmp 16), some (11, false), []⟩, ⟨some 18, .pick (.tmp 11) (.const (.bool true)) (.tmp 17), none, []⟩, ⟨some 19, .move (.tmp 18), none, []⟩, ⟨some 20, .fieldAddr 42 (.tmp 2) 2, some (19, false), []⟩, ⟨some 21, .load 40 (.tmp 20), some (19, false), []⟩, ⟨some 22, .call ⟨.builtin .len, #[.tmp 21], #[40]⟩, some (19, false), []⟩, ⟨some 23, .fieldAddr 42 (.tmp 3) 2, some (19, false), []⟩, ⟨some 24, .load 40 (.tmp 23), some (19, false), []⟩, ⟨some 25, .call ⟨.builtin .len, #[.tmp 24], #[40]⟩, some (19, false), []⟩, ⟨some 26, .binOp .neq 3 (.tmp 22) (.tmp 25) 3, some (19, false), []⟩, ⟨some 27, .pick (.tmp 19) (.const (.bool true)) (.tmp 26), none, []⟩]) (.cond (.tmp 27) (.seq (.reg [⟨some 4, .assign (.const (.bool false)), none, []⟩]) .ret) .skip)) (.seq (.seq (.reg [⟨some 28, .fieldAddr 42 (.tmp 2) 2, none, []⟩, ⟨some 29, .load 40 (.tmp 28), none, []⟩, ⟨some 30, .call ⟨.builtin .len, #[.tmp 29], #[40]⟩, none, []⟩, ⟨some 31, .move (.const (.int .i64 0)), none, []⟩]) (.block 0 (.loop (.seq (.reg [⟨some 32, .binOp .lss 3 (.tmp 31) (.tmp 30) 3, none, []⟩]) (.seq (.cond (.tmp 32) .skip (.exit 0)) (.seq (.block 1 (.seq (.reg [⟨some 33, .move (.tmp 31), none, []⟩, ⟨some 5, .assign (.tmp 33), none, []⟩]) (.seq (.drw 0 [⟨some 34, .fieldAddr 42 (.tmp 2) 2, none, []⟩, ⟨some 35, .load 40 (.tmp 34), none, [0]⟩, ⟨some 36, .move (.tmp 5), none, []⟩, ⟨some 37, .indexAddr 40 (.tmp 35) (.tmp 36), none, [1, 0, 2]⟩, ⟨some 38, .load 47 (.tmp 37), none, [3, 1, 0, 2]⟩, ⟨some 39, .fieldAddr 42 (.tmp 3) 2, none, []⟩, ⟨some 40, .load 40 (.tmp 39), none, [5]⟩, ⟨some 41, .move (.tmp 5), none, []⟩, ⟨some 42, .indexAddr 40 (.tmp 40) (.tmp 41), none, [6, 5, 7]⟩, ⟨some 43, .load 47 (.tmp 42), none, [8, 6, 5, 7]⟩, ⟨some 44, .binOp .neq 47 (.tmp 38) (.tmp 43) 47, none, [4, 3, 1, 0, 2, 9, 8, 6, 5, 7]⟩]) (.cond (.tmp 44) (.seq (.reg [⟨some 4, .assign (.const (.bool false)), none, []⟩]) .ret) .skip)))) (.reg [⟨some 45, .binOp .add 3 (.tmp 31) (.const (.int .i64 1)) 3, none, []⟩, ⟨some 31, .move (.tmp 45), none, []⟩]))))))) (.seq (.reg [⟨some 4, .assign (.const (.bool true)), none, []⟩]) .ret)))
theorem s15 : Tryd.f15.body.bind (stripC 46) = some B15 := by kernel_rfl
theorem wWorld_ac {H : Heap} {E1 E2 F1 F2 : List Nat} {w : Wd} {v1 v2 u1 u2 : Value} (hl : RS 4 RLn H E1 v1 w.book.lines) (hb : RS 4 RBd H E2 v2 w.bodies) (kl : RS 4 RLn H F1 u1 w.book.lines) (kb : RS 4 RBd H F2 u2 w.bodies) :
  AC Tryd.prog 15 [.agg #[.bool w.ok, .bool w.book.ok, iv w.book.sec, v1, v2], .agg #[.bool w.ok, .bool w.book.ok, iv w.book.sec, u1, u2]] H (.bool true) H [] := by
 have xl := hl.one
 have yl := kl.one
 have aco := fun L : Heap => wBook_ac (b := w.book) (hl.ext RLn.frm (L := L)) (kl.ext RLn.frm)
 obtain ⟨ab, cb, rfl⟩ := hb.form
 obtain ⟨bb, db, rfl⟩ := kb.form
 have hn2 := hb.1
 refine AC.of_pureS (N := 46) Tryd.func15 s15 (by kernel_rfl) rfl rfl (by simp) rfl ?_; unfold B15
 repeat (first | refine sA ?_ | refine sB ?_ | refine sC ?_ | refine sD ?_ | refine sE rfl ?_ | refine sF rfl ?_ | refine sG rfl ?_ | ((first | refine sk_reg fun K hK => ?_ | refine sk_drw mix fun K hK => ?_); simp [xl, yl]; (repeat ((first | refine AskX.go (aco _) ?_ | refine AskD.go (aco _) ?_); simp [xl, yl])); refine hK _ ?_; clear hK K))
 refine sk_loop (fun m ts H' => ∃ i : Nat, i ≤ w.bodies.length ∧ m = w.bodies.length - i ∧ (H' = H ++ [(⟨42, [.bool w.ok, .bool w.book.ok, iv w.book.sec, v1, .slice ab w.bodies.length cb], true, true⟩ : Blk), ⟨42, [.bool w.ok, .bool w.book.ok, iv w.book.sec, u1, .slice bb w.bodies.length db], true, true⟩]) ∧ ts = [(2, pt H.length 0), (3, pt (H.length + 1) 0), (30, iv w.bodies.length), (31, iv i)]) w.bodies.length _ ?_ ⟨0, by omega, rfl, rfl, rfl⟩ ?_
 ·simp [subL, getT]
 rintro m ts H1 ⟨i, hi, rfl, rfl, rfl⟩
 by_cases hlt : i < w.bodies.length
 ·obtain ⟨ib, ob, hvb, hidb, b0, b1, b2, b3⟩ := RS.bd hb hlt
  obtain ⟨ib', ob', hvb', hidb', c0, c1, c2, c3⟩ := RS.bd kb hlt
  simp only [Value.slice.injEq, true_and] at hvb hvb'
  obtain ⟨rfl, rfl⟩ := hvb
  obtain ⟨rfl, rfl⟩ := hvb'
  have hwi : IntKind.i64.wrap ((i : Int) + 1) = (i : Int) + 1 := wrap_id (by omega) (by omega)
  repeat (first | refine sA ?_ | refine sB ?_ | refine sC ?_ | refine sD ?_ | refine sE rfl ?_ | refine sF rfl ?_ | refine sG rfl ?_ | ((first | refine sk_reg fun K hK => ?_ | refine sk_drw mix fun K hK => ?_); simp [hlt, b0.s, b1.s, b2.s, b3.s, c0.s, c1.s, c2.s, c3.s, hwi]; refine hK _ ?_; clear hK K))
  refine sk_inv ⟨w.bodies.length - (i + 1), _, by omega, ?_, i + 1, by omega, rfl, rfl, rfl⟩
  simp [subL, getT]
 obtain rfl : i = w.bodies.length := by omega
 repeat (first | refine sA ?_ | refine sB ?_ | refine sC ?_ | refine sD ?_ | refine sE rfl ?_ | refine sF rfl ?_ | refine sG rfl ?_ | ((first | refine sk_reg fun K hK => ?_ | refine sk_drw mix fun K hK => ?_); simp; refine hK _ ?_; clear hK K))
 refine sk_ret ?_; simp
end Go.Proofs.YtpoedfmkiiijnaaDoor
