/- wLine, wBook, wDone: what is the same is found the same. Walks. -/
import Derived.Test.YtpoedfmkiiijnaaDoorGD
import Derived.Test.YtpoedfmkiiijnaaDoorGC
import Derived.Test.YtpoedfmkiiijnaaDoorGN
namespace Go.Proofs.YtpoedfmkiiijnaaDoor
open Go Go.RowKit Go.Proofs.YtpoedfmkiiijnaaDoorAm
set_option linter.unusedVariables false
set_option linter.unusedSimpArgs false
set_option maxRecDepth 10000
set_option maxHeartbeats 8000000
def B58 : SC := .seq (.reg [⟨some 2, .box 50 (.tmp 0), none, []⟩, ⟨some 3, .box 50 (.tmp 1), none, []⟩, ⟨some 4, .assign (.const (.bool false)), none, []⟩]) (.seq (.seq (.reg [⟨some 7, .fieldAddr 50 (.tmp 2) 0, none, []⟩, ⟨some 8, .load 3 (.tmp 7), none, []⟩, ⟨some 9, .fieldAddr 50 (.tmp 3) 0, none, []⟩, ⟨some 10, .load 3 (.tmp 9), none, []⟩, ⟨some 11, .binOp .neq 3 (.tmp 8) (.tmp 10) 3, none, []⟩, ⟨some 12, .move (.tmp 11), none, []⟩, ⟨some 13, .fieldAddr 50 (.tmp 2) 3, some (12, false), []⟩, ⟨some 14, .load 3 (.tmp 13), some (12, false), []⟩, ⟨some 15, .fieldAddr 50 (.tmp 3) 3, some (12, false), []⟩, ⟨some 16, .load 3 (.tmp 15), some (12, false), []⟩, ⟨some 17, .binOp .neq 3 (.tmp 14) (.tmp 16) 3, some (12, false), []⟩, ⟨some 18, .pick (.tmp 12) (.const (.bool true)) (.tmp 17), none, []⟩, ⟨some 19, .move (.tmp 18), none, []⟩, ⟨some 20, .fieldAddr 50 (.tmp 2) 1, some (19, false), []⟩, ⟨some 21, .load 22 (.tmp 20), some (19, false), []⟩, ⟨some 22, .call ⟨.builtin .len, #[.tmp 21], #[22]⟩, some (19, false), []⟩, ⟨some 23, .fieldAddr 50 (.tmp 3) 1, some (19, false), []⟩, ⟨some 24, .load 22 (.tmp 23), some (19, false), []⟩, ⟨some 25, .call ⟨.builtin .len, #[.tmp 24], #[22]⟩, some (19, false), []⟩, ⟨some 26, .binOp .neq 3 (.tmp 22) (.tmp 25) 3, some (19, false), []⟩, ⟨some 27, .pick (.tmp 19) (.const (.bool true)) (.tmp 26), none, []⟩, ⟨some 28, .move (.tmp 27), none, []⟩, ⟨some 29, .fieldAddr 50 (.tmp 2) 2, some (28, false), []⟩, ⟨some 30, .load 48 (.tmp 29), some (28, false), []⟩, ⟨some 31, .call ⟨.builtin .len, #[.tmp 30], #[48]⟩, some (28, false), []⟩, ⟨some 32, .fieldAddr 50 (.tmp 3) 2, some (28, false), []⟩, ⟨some 33, .load 48 (.tmp 32), some (28, false), []⟩, ⟨some 34, .call ⟨.builtin .len, #[.tmp 33], #[48]⟩, some (28, false), []⟩, ⟨some 35, .binOp .neq 3 (.tmp 31) (.tmp 34) 3, some (28, false), []⟩, ⟨some 36, .pick (.tmp 28) (.const (.bool true)) (.tmp 35), none, []⟩]) (.cond (.tmp 36) (.seq (.reg [⟨some 4, .assign (.const (.bool false)), none, []⟩]) .ret) .skip)) (.seq (.seq (.reg [⟨some 37, .fieldAddr 50 (.tmp 2) 1, none, []⟩, ⟨some 38, .load 22 (.tmp 37), none, []⟩, ⟨some 39, .call ⟨.builtin .len, #[.tmp 38], #[22]⟩, none, []⟩, ⟨some 40, .move (.const (.int .i64 0)), none, []⟩]) (.block 0 (.loop (.seq (.reg [⟨some 41, .binOp .lss 3 (.tmp 40) (.tmp 39) 3, none, []⟩]) (.seq (.cond (.tmp 41) .skip (.exit 0)) (.seq (.block 1 (.seq (.reg [⟨some 42, .move (.tmp 40), none, []⟩, ⟨some 5, .assign (.tmp 42), none, []⟩]) (.seq (.drw 0 [⟨some 43, .fieldAddr 50 (.tmp 2) 1, none, []⟩, ⟨some 44, .load 22 (.tmp 43), none, [0]⟩, ⟨some 45, .move (.tmp 5), none, []⟩, ⟨some 46, .indexAddr 22 (.tmp 44) (.tmp 45), none, [1, 0, 2]⟩, ⟨some 47, .load 3 (.tmp 46), none, [3, 1, 0, 2]⟩, ⟨some 48, .fieldAddr 50 (.tmp 3) 1, none, []⟩, ⟨some 49, .load 22 (.tmp 48), none, [5]⟩, ⟨some 50, .move (.tmp 5), none, []⟩, ⟨some 51, .indexAddr 22 (.tmp 49) (.tmp 50), none, [6, 5, 7]⟩, ⟨some 52, .load 3 (.tmp 51), none, [8, 6, 5, 7]⟩, ⟨some 53, .binOp .neq 3 (.tmp 47) (.tmp 52) 3, none, [4, 3, 1, 0, 2, 9, 8, 6, 5, 7]⟩]) (.cond (.tmp 53) (.seq (.reg [⟨some 4, .assign (.const (.bool false)), none, []⟩]) .ret) .skip)))) (.reg [⟨some 54, .binOp .add 3 (.tmp 40) (.const (.int .i64 1)) 3, none, []⟩, ⟨some 40, .move (.tmp 54), none, []⟩]))))))) (.seq (.seq (.reg [⟨some 55, .fieldAddr 50 (.tmp 2) 2, none, []⟩, ⟨some 56, .load 48 (.tmp 55), none, []⟩, ⟨some 57, .call ⟨.builtin .len, #[.tmp 56], #[48]⟩, none, []⟩, ⟨some 58, .move (.const (.int .i64 0)), none, []⟩]) (.block 2 (.loop (.seq (.reg [⟨some 59, .binOp .lss 3 (.tmp 58) (.tmp 57) 3, none, []⟩]) (.seq (.cond (.tmp 59) .skip (.exit 2)) (.seq (.block 3 (.seq (.reg [⟨some 60, .move (.tmp 58), none, []⟩, ⟨some 6, .assign (.tmp 60), none, []⟩]) (.seq (.drw 0 [⟨some 61, .fieldAddr 50 (.tmp 2) 2, none, []⟩, ⟨some 62, .load 48 (.tmp 61), none, [0]⟩, ⟨some 63, .move (.tmp 6), none, []⟩, ⟨some 64, .indexAddr 48 (.tmp 62) (.tmp 63), none, [1, 0, 2]⟩, ⟨some 65, .load 88 (.tmp 64), none, [3, 1, 0, 2]⟩, ⟨some 66, .fieldAddr 50 (.tmp 3) 2, none, []⟩, ⟨some 67, .load 48 (.tmp 66), none, [5]⟩, ⟨some 68, .move (.tmp 6), none, []⟩, ⟨some 69, .indexAddr 48 (.tmp 67) (.tmp 68), none, [6, 5, 7]⟩, ⟨some 70, .load 88 (.tmp 69), none, [8, 6, 5, 7]⟩, ⟨some 71, .binOp .neq 88 (.tmp 65) (.tmp 70) 88, none, [4, 3, 1, 0, 2, 9, 8, 6, 5, 7]⟩]) (.cond (.tmp 71) (.seq (.reg [⟨some 4, .assign (.const (.bool false)), none, []⟩]) .ret) .skip)))) (.reg [⟨some 72, .binOp .add 3 (.tmp 58) (.const (.int .i64 1)) 3, none, []⟩, ⟨some 58, .move (.tmp 72), none, []⟩]))))))) (.seq (.reg [⟨some 4, .assign (.const (.bool true)), none, []⟩]) .ret))))
theorem s58 : Tryd.f58.body.bind (stripC 73) = some B58 := by kernel_rfl
theorem wLine_ac {H : Heap} {E1 E2 F1 F2 : List Nat} {l : Ln} {v1 v2 u1 u2 : Value} (hw : RS 1 RInt H E1 v1 l.way) (hg : RS 2 RGr H E2 v2 l.grs) (kw : RS 1 RInt H F1 u1 l.way) (kg : RS 2 RGr H F2 u2 l.grs) :
  AC Tryd.prog 58 [.agg #[iv l.gone, v1, v2, iv l.drop], .agg #[iv l.gone, u1, u2, iv l.drop]] H (.bool true) H [] := by
 obtain ⟨aw, cw, rfl⟩ := hw.form
 obtain ⟨ag, cg, rfl⟩ := hg.form
 obtain ⟨bw, dw, rfl⟩ := kw.form
 obtain ⟨bg, dg, rfl⟩ := kg.form
 have hn1 := hw.1
 have hn2 := hg.1
 refine AC.of_pureS (N := 73) Tryd.func58 s58 (by kernel_rfl) rfl rfl (by simp) rfl ?_; unfold B58
 repeat (first | refine sA ?_ | refine sB ?_ | refine sC ?_ | refine sD ?_ | refine sE rfl ?_ | refine sF rfl ?_ | refine sG rfl ?_ | ((first | refine sk_reg fun K hK => ?_ | refine sk_drw mix fun K hK => ?_); simp; refine hK _ ?_; clear hK K))
 refine sk_loop (fun m ts H' => ∃ i : Nat, i ≤ l.way.length ∧ m = l.way.length - i ∧ (H' = H ++ [(⟨50, [iv l.gone, .slice aw l.way.length cw, .slice ag l.grs.length cg, iv l.drop], true, true⟩ : Blk), ⟨50, [iv l.gone, .slice bw l.way.length dw, .slice bg l.grs.length dg, iv l.drop], true, true⟩]) ∧ ts = [(2, pt H.length 0), (3, pt (H.length + 1) 0), (39, iv l.way.length), (40, iv i)]) l.way.length _ ?_ ⟨0, by omega, rfl, rfl, rfl⟩ ?_
 ·simp [subL, getT]
 ·rintro m ts H1 ⟨i, hi, rfl, rfl, rfl⟩
  by_cases hlt : i < l.way.length
  ·obtain ⟨id, o, hv, hid, c0⟩ := hw.int hlt
   obtain ⟨id', o', hv', hid', c0'⟩ := kw.int hlt
   simp only [Value.slice.injEq, true_and] at hv hv'
   obtain ⟨rfl, rfl⟩ := hv
   obtain ⟨rfl, rfl⟩ := hv'
   have hwi : IntKind.i64.wrap ((i : Int) + 1) = (i : Int) + 1 := wrap_id (by omega) (by omega)
   repeat (first | refine sA ?_ | refine sB ?_ | refine sC ?_ | refine sD ?_ | refine sE rfl ?_ | refine sF rfl ?_ | refine sG rfl ?_ | ((first | refine sk_reg fun K hK => ?_ | refine sk_drw mix fun K hK => ?_); simp [hlt, c0.s, c0'.s, hwi]; refine hK _ ?_; clear hK K))
   refine sk_inv ⟨l.way.length - (i + 1), _, by omega, ?_, i + 1, by omega, rfl, rfl, rfl⟩
   simp [subL, getT]
  obtain rfl : i = l.way.length := by omega
  repeat (first | refine sA ?_ | refine sB ?_ | refine sC ?_ | refine sD ?_ | refine sE rfl ?_ | refine sF rfl ?_ | refine sG rfl ?_ | ((first | refine sk_reg fun K hK => ?_ | refine sk_drw mix fun K hK => ?_); simp; refine hK _ ?_; clear hK K))
  refine sk_loop (fun m ts H' => ∃ i : Nat, i ≤ l.grs.length ∧ m = l.grs.length - i ∧ (H' = H ++ [(⟨50, [iv l.gone, .slice aw l.way.length cw, .slice ag l.grs.length cg, iv l.drop], true, true⟩ : Blk), ⟨50, [iv l.gone, .slice bw l.way.length dw, .slice bg l.grs.length dg, iv l.drop], true, true⟩]) ∧ ts = [(2, pt H.length 0), (3, pt (H.length + 1) 0), (57, iv l.grs.length), (58, iv i)]) l.grs.length _ ?_ ⟨0, by omega, rfl, rfl, rfl⟩ ?_
  ·simp [subL, getT]
  rintro m ts H1 ⟨i, hi, rfl, rfl, rfl⟩
  by_cases hlt : i < l.grs.length
  ·obtain ⟨id, o, hv, hid, c0, c1⟩ := hg.gr hlt
   obtain ⟨id', o', hv', hid', c0', c1'⟩ := kg.gr hlt
   simp only [Value.slice.injEq, true_and] at hv hv'
   obtain ⟨rfl, rfl⟩ := hv
   obtain ⟨rfl, rfl⟩ := hv'
   have hwi : IntKind.i64.wrap ((i : Int) + 1) = (i : Int) + 1 := wrap_id (by omega) (by omega)
   repeat (first | refine sA ?_ | refine sB ?_ | refine sC ?_ | refine sD ?_ | refine sE rfl ?_ | refine sF rfl ?_ | refine sG rfl ?_ | ((first | refine sk_reg fun K hK => ?_ | refine sk_drw mix fun K hK => ?_); simp [hlt, c0.s, c0'.s, c1.s, c1'.s, hwi]; refine hK _ ?_; clear hK K))
   refine sk_inv ⟨l.grs.length - (i + 1), _, by omega, ?_, i + 1, by omega, rfl, rfl, rfl⟩
   simp [subL, getT]
  obtain rfl : i = l.grs.length := by omega
  repeat (first | refine sA ?_ | refine sB ?_ | refine sC ?_ | refine sD ?_ | refine sE rfl ?_ | refine sF rfl ?_ | refine sG rfl ?_ | ((first | refine sk_reg fun K hK => ?_ | refine sk_drw mix fun K hK => ?_); simp; refine hK _ ?_; clear hK K))
  refine sk_ret ?_; simp
def B34 : SC := .seq (.reg [⟨some 2, .box 39 (.tmp 0), none, []⟩, ⟨some 3, .box 39 (.tmp 1), none, []⟩, ⟨some 4, .assign (.const (.bool false)), none, []⟩]) (.seq (.seq (.reg [⟨some 6, .fieldAddr 39 (.tmp 2) 0, none, []⟩, ⟨some 7, .load 4 (.tmp 6), none, []⟩, ⟨some 8, .fieldAddr 39 (.tmp 3) 0, none, []⟩, ⟨some 9, .load 4 (.tmp 8), none, []⟩, ⟨some 10, .binOp .neq 4 (.tmp 7) (.tmp 9) 4, none, []⟩, ⟨some 11, .move (.tmp 10), none, []⟩, ⟨some 12, .fieldAddr 39 (.tmp 2) 1, some (11, false), []⟩, ⟨some 13, .load 3 (.tmp 12), some (11, false), []⟩, ⟨some 14, .fieldAddr 39 (.tmp 3) 1, some (11, false), []⟩, ⟨some 15, .load 3 (.tmp 14), some (11, false), []⟩, ⟨some 16, .binOp .neq 3 (.tmp 13) (.tmp 15) 3, some (11, false), []⟩, ⟨some 17, .pick (.tmp 11) (.const (.bool true)) (.tmp 16), none, []⟩, ⟨some 18, .move (.tmp 17), none, []⟩, ⟨some 19, .fieldAddr 39 (.tmp 2) 2, some (18, false), []⟩, ⟨some 20, .load 37 (.tmp 19), some (18, false), []⟩, ⟨some 21, .call ⟨.builtin .len, #[.tmp 20], #[37]⟩, some (18, false), []⟩, ⟨some 22, .fieldAddr 39 (.tmp 3) 2, some (18, false), []⟩, ⟨some 23, .load 37 (.tmp 22), some (18, false), []⟩, ⟨some 24, .call ⟨.builtin .len, #[.tmp 23], #[37]⟩, some (18, false), []⟩, ⟨some 25, .binOp .neq 3 (.tmp 21) (.tmp 24) 3, some (18, false), []⟩, ⟨some 26, .pick (.tmp 18) (.const (.bool true)) (.tmp 25), none, []⟩]) (.cond (.tmp 26) (.seq (.reg [⟨some 4, .assign (.const (.bool false)), none, []⟩]) .ret) .skip)) (.seq (.seq (.reg [⟨some 27, .fieldAddr 39 (.tmp 2) 2, none, []⟩, ⟨some 28, .load 37 (.tmp 27), none, []⟩, ⟨some 29, .call ⟨.builtin .len, #[.tmp 28], #[37]⟩, none, []⟩, ⟨some 30, .move (.const (.int .i64 0)), none, []⟩]) (.block 0 (.loop (.seq (.reg [⟨some 31, .binOp .lss 3 (.tmp 30) (.tmp 29) 3, none, []⟩]) (.seq (.cond (.tmp 31) .skip (.exit 0)) (.seq (.block 1 (.seq (.reg [⟨some 32, .move (.tmp 30), none, []⟩, ⟨some 5, .assign (.tmp 32), none, []⟩]) (.seq (.drw 0 [⟨some 33, .fieldAddr 39 (.tmp 2) 2, none, []⟩, ⟨some 34, .load 37 (.tmp 33), none, [0]⟩, ⟨some 35, .move (.tmp 5), none, []⟩, ⟨some 36, .indexAddr 37 (.tmp 34) (.tmp 35), none, [1, 0, 2]⟩, ⟨some 37, .load 50 (.tmp 36), none, [3, 1, 0, 2]⟩, ⟨some 38, .fieldAddr 39 (.tmp 3) 2, none, []⟩, ⟨some 39, .load 37 (.tmp 38), none, [5]⟩, ⟨some 40, .move (.tmp 5), none, []⟩, ⟨some 41, .indexAddr 37 (.tmp 39) (.tmp 40), none, [6, 5, 7]⟩, ⟨some 42, .load 50 (.tmp 41), none, [8, 6, 5, 7]⟩, ⟨some 43, .call ⟨.value (.func 58), #[.tmp 37, .tmp 42], #[50, 50]⟩, none, [4, 3, 1, 0, 2, 9, 8, 6, 5, 7]⟩, ⟨some 44, .unOp .not 4 (.tmp 43), none, [10, 4, 3, 1, 0, 2, 9, 8, 6, 5, 7]⟩]) (.cond (.tmp 44) (.seq (.reg [⟨some 4, .assign (.const (.bool false)), none, []⟩]) .ret) .skip)))) (.reg [⟨some 45, .binOp .add 3 (.tmp 30) (.const (.int .i64 1)) 3, none, []⟩, ⟨some 30, .move (.tmp 45), none, []⟩]))))))) (.seq (.reg [⟨some 4, .assign (.const (.bool true)), none, []⟩]) .ret)))
theorem s34 : Tryd.f34.body.bind (stripC 46) = some B34 := by kernel_rfl
theorem wBook_ac {H : Heap} {E F : List Nat} {b : Bk} {v u : Value} (h : RS 4 RLn H E v b.lines) (k : RS 4 RLn H F u b.lines) :
  AC Tryd.prog 34 [.agg #[.bool b.ok, iv b.sec, v], .agg #[.bool b.ok, iv b.sec, u]] H (.bool true) H [] := by
 obtain ⟨av, cv, rfl⟩ := h.form
 obtain ⟨au, cu, rfl⟩ := k.form
 have hn1 := h.1
 refine AC.of_pureS (N := 46) Tryd.func34 s34 (by kernel_rfl) rfl rfl (by simp) rfl ?_; unfold B34
 repeat (first | refine sA ?_ | refine sB ?_ | refine sC ?_ | refine sD ?_ | refine sE rfl ?_ | refine sF rfl ?_ | refine sG rfl ?_ | ((first | refine sk_reg fun K hK => ?_ | refine sk_drw mix fun K hK => ?_); simp; refine hK _ ?_; clear hK K))
 refine sk_loop (fun m ts H' => ∃ i : Nat, i ≤ b.lines.length ∧ m = b.lines.length - i ∧ (H' = H ++ [(⟨39, [.bool b.ok, iv b.sec, .slice av b.lines.length cv], true, true⟩ : Blk), ⟨39, [.bool b.ok, iv b.sec, .slice au b.lines.length cu], true, true⟩]) ∧ ts = [(2, pt H.length 0), (3, pt (H.length + 1) 0), (29, iv b.lines.length), (30, iv i)]) b.lines.length _ ?_ ⟨0, by omega, rfl, rfl, rfl⟩ ?_
 ·simp [subL, getT]
 ·rintro m ts H1 ⟨i, hi, rfl, rfl, rfl⟩
  by_cases hlt : i < b.lines.length
  ·obtain ⟨id, o, v1, v2, _, _, hv, hid, c0, c1, c2, c3, rw1, rg1, y1, y2, _⟩ := h.line hlt
   obtain ⟨id', o', v1', v2', _, _, hv', hid', c0', c1', c2', c3', rw1', rg1', y1', y2', _⟩ := k.line hlt
   simp only [Value.slice.injEq, true_and] at hv hv'
   obtain ⟨rfl, rfl⟩ := hv
   obtain ⟨rfl, rfl⟩ := hv'
   have hwi : IntKind.i64.wrap ((i : Int) + 1) = (i : Int) + 1 := wrap_id (by omega) (by omega)
   have aco := fun L : Heap => wLine_ac (rw1.ext (RP.frm _) (L := L)) (rg1.ext (RP.frm _)) (rw1'.ext (RP.frm _)) (rg1'.ext (RP.frm _))
   repeat (first | refine sA ?_ | refine sB ?_ | refine sC ?_ | refine sD ?_ | refine sE rfl ?_ | refine sF rfl ?_ | refine sG rfl ?_ | ((first | refine sk_reg fun K hK => ?_ | refine sk_drw mix fun K hK => ?_); simp [hlt, c0.s, c1.s, c2.s, c3.s, c0'.s, c1'.s, c2'.s, c3'.s, y1, y2, y1', y2', hwi]; (repeat ((first | refine AskX.go (aco _) ?_ | refine AskD.go (aco _) ?_); simp [hlt, c0.s, c1.s, c2.s, c3.s, c0'.s, c1'.s, c2'.s, c3'.s, y1, y2, y1', y2', hwi])); refine hK _ ?_; clear hK K))
   refine sk_inv ⟨b.lines.length - (i + 1), _, by omega, ?_, i + 1, by omega, rfl, rfl, rfl⟩
   simp [subL, getT]
  obtain rfl : i = b.lines.length := by omega
  repeat (first | refine sA ?_ | refine sB ?_ | refine sC ?_ | refine sD ?_ | refine sE rfl ?_ | refine sF rfl ?_ | refine sG rfl ?_ | ((first | refine sk_reg fun K hK => ?_ | refine sk_drw mix fun K hK => ?_); simp; refine hK _ ?_; clear hK K))
  refine sk_ret ?_; simp
end Go.Proofs.YtpoedfmkiiijnaaDoor
