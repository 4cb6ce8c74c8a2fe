/- Texts of this repo, one behind the other (Ty Lw Arg ArgT ArgR ArgU Si Sy). Plain lemmas and walks. -/
import Derived.Test.YtpoedfmkiiijnaaDoorProg
import Derived.Test.YtpoedfmkiiijnaaDoorGB
import Derived.Test.YtpoedfmkiiijnaaDoorGC
import Derived.Below
import Derived.ChangeOld
namespace Go.Proofs.YtpoedfmkiiijnaaDoor
open Go Go.Proofs.YtpoedfmkiiijnaaDoorAm
set_option linter.unusedVariables false
theorem sz_2 : szO Tryd.prog 2 = some 1 := by kernel_rfl
theorem by_2 : byO Tryd.prog 2 = some 8 := by kernel_rfl
theorem agg_2 : aggO Tryd.prog 2 = some false := by kernel_rfl
theorem zero_2 : zeroO Tryd.prog 2 = some (.int .i64 0) := by kernel_rfl
theorem int_2 : intO Tryd.prog 2 = some .i64 := by kernel_rfl
theorem un_2 : Tryd.prog.underlying 2 = some (.int .i64) := by kernel_rfl
attribute [simp] sz_2 by_2 agg_2 zero_2 int_2 un_2
theorem sz_3 : szO Tryd.prog 3 = some 1 := by kernel_rfl
theorem by_3 : byO Tryd.prog 3 = some 8 := by kernel_rfl
theorem agg_3 : aggO Tryd.prog 3 = some false := by kernel_rfl
theorem zero_3 : zeroO Tryd.prog 3 = some (.int .i64 0) := by kernel_rfl
theorem int_3 : intO Tryd.prog 3 = some .i64 := by kernel_rfl
theorem un_3 : Tryd.prog.underlying 3 = some (.int .i64) := by kernel_rfl
attribute [simp] sz_3 by_3 agg_3 zero_3 int_3 un_3
theorem sz_4 : szO Tryd.prog 4 = some 1 := by kernel_rfl
theorem by_4 : byO Tryd.prog 4 = some 1 := by kernel_rfl
theorem agg_4 : aggO Tryd.prog 4 = some false := by kernel_rfl
theorem zero_4 : zeroO Tryd.prog 4 = some (.bool false) := by kernel_rfl
theorem un_4 : Tryd.prog.underlying 4 = some .bool := by kernel_rfl
attribute [simp] sz_4 by_4 agg_4 zero_4 un_4
theorem sz_5 : szO Tryd.prog 5 = some 1 := by kernel_rfl
theorem by_5 : byO Tryd.prog 5 = some 1 := by kernel_rfl
theorem agg_5 : aggO Tryd.prog 5 = some false := by kernel_rfl
theorem zero_5 : zeroO Tryd.prog 5 = some (.int .u8 0) := by kernel_rfl
theorem int_5 : intO Tryd.prog 5 = some .u8 := by kernel_rfl
theorem un_5 : Tryd.prog.underlying 5 = some (.int .u8) := by kernel_rfl
attribute [simp] sz_5 by_5 agg_5 zero_5 int_5 un_5
theorem sz_9 : szO Tryd.prog 9 = some 1 := by kernel_rfl
theorem by_9 : byO Tryd.prog 9 = some 16 := by kernel_rfl
theorem agg_9 : aggO Tryd.prog 9 = some false := by kernel_rfl
theorem zero_9 : zeroO Tryd.prog 9 = some (.string ByteArray.empty) := by kernel_rfl
theorem nint_9 : intO Tryd.prog 9 = none := by kernel_rfl
theorem str_9 : strO Tryd.prog 9 = true := by kernel_rfl
theorem un_9 : Tryd.prog.underlying 9 = some .string := by kernel_rfl
attribute [simp] sz_9 by_9 agg_9 zero_9 nint_9 str_9 un_9
theorem sz_12 : szO Tryd.prog 12 = some 1 := by kernel_rfl
theorem by_12 : byO Tryd.prog 12 = some 8 := by kernel_rfl
theorem agg_12 : aggO Tryd.prog 12 = some false := by kernel_rfl
theorem zero_12 : zeroO Tryd.prog 12 = some (.int .u64 0) := by kernel_rfl
theorem int_12 : intO Tryd.prog 12 = some .u64 := by kernel_rfl
theorem un_12 : Tryd.prog.underlying 12 = some (.int .u64) := by kernel_rfl
attribute [simp] sz_12 by_12 agg_12 zero_12 int_12 un_12
theorem sz_13 : szO Tryd.prog 13 = some 2 := by kernel_rfl
theorem by_13 : byO Tryd.prog 13 = some 24 := by kernel_rfl
theorem agg_13 : aggO Tryd.prog 13 = some true := by kernel_rfl
theorem zero_13 : zeroO Tryd.prog 13 = some (.agg #[.string ByteArray.empty, .int .u64 0]) := by kernel_rfl
theorem fl_13 : fldsO Tryd.prog 13 = some [(0, 1), (1, 1)] := by kernel_rfl
attribute [simp] sz_13 by_13 agg_13 zero_13 fl_13
theorem sz_21 : szO Tryd.prog 21 = some 1 := by kernel_rfl
theorem by_21 : byO Tryd.prog 21 = some 4 := by kernel_rfl
theorem agg_21 : aggO Tryd.prog 21 = some false := by kernel_rfl
theorem zero_21 : zeroO Tryd.prog 21 = some (.int .i32 0) := by kernel_rfl
theorem int_21 : intO Tryd.prog 21 = some .i32 := by kernel_rfl
theorem un_21 : Tryd.prog.underlying 21 = some (.int .i32) := by kernel_rfl
attribute [simp] sz_21 by_21 agg_21 zero_21 int_21 un_21
theorem sz_22 : szO Tryd.prog 22 = some 1 := by kernel_rfl
theorem by_22 : byO Tryd.prog 22 = some 24 := by kernel_rfl
theorem agg_22 : aggO Tryd.prog 22 = some false := by kernel_rfl
theorem zero_22 : zeroO Tryd.prog 22 = some (.slice none 0 0) := by kernel_rfl
theorem el_22 : elemO Tryd.prog 22 = some 3 := by kernel_rfl
theorem un_22 : Tryd.prog.underlying 22 = some (.slice 3) := by kernel_rfl
attribute [simp] sz_22 by_22 agg_22 zero_22 el_22 un_22
theorem sz_23 : szO Tryd.prog 23 = some 1 := by kernel_rfl
theorem by_23 : byO Tryd.prog 23 = some 24 := by kernel_rfl
theorem agg_23 : aggO Tryd.prog 23 = some false := by kernel_rfl
theorem zero_23 : zeroO Tryd.prog 23 = some (.slice none 0 0) := by kernel_rfl
theorem el_23 : elemO Tryd.prog 23 = some 63 := by kernel_rfl
theorem un_23 : Tryd.prog.underlying 23 = some (.slice 63) := by kernel_rfl
attribute [simp] sz_23 by_23 agg_23 zero_23 el_23 un_23
theorem sz_27 : szO Tryd.prog 27 = some 1 := by kernel_rfl
theorem by_27 : byO Tryd.prog 27 = some 24 := by kernel_rfl
theorem agg_27 : aggO Tryd.prog 27 = some false := by kernel_rfl
theorem zero_27 : zeroO Tryd.prog 27 = some (.slice none 0 0) := by kernel_rfl
theorem el_27 : elemO Tryd.prog 27 = some 59 := by kernel_rfl
theorem un_27 : Tryd.prog.underlying 27 = some (.slice 59) := by kernel_rfl
attribute [simp] sz_27 by_27 agg_27 zero_27 el_27 un_27
theorem sz_32 : szO Tryd.prog 32 = some 1 := by kernel_rfl
theorem by_32 : byO Tryd.prog 32 = some 24 := by kernel_rfl
theorem agg_32 : aggO Tryd.prog 32 = some false := by kernel_rfl
theorem zero_32 : zeroO Tryd.prog 32 = some (.slice none 0 0) := by kernel_rfl
theorem el_32 : elemO Tryd.prog 32 = some 5 := by kernel_rfl
theorem un_32 : Tryd.prog.underlying 32 = some (.slice 5) := by kernel_rfl
attribute [simp] sz_32 by_32 agg_32 zero_32 el_32 un_32
theorem sz_35 : szO Tryd.prog 35 = some 1 := by kernel_rfl
theorem by_35 : byO Tryd.prog 35 = some 24 := by kernel_rfl
theorem agg_35 : aggO Tryd.prog 35 = some false := by kernel_rfl
theorem zero_35 : zeroO Tryd.prog 35 = some (.slice none 0 0) := by kernel_rfl
theorem el_35 : elemO Tryd.prog 35 = some 44 := by kernel_rfl
theorem un_35 : Tryd.prog.underlying 35 = some (.slice 44) := by kernel_rfl
attribute [simp] sz_35 by_35 agg_35 zero_35 el_35 un_35
theorem sz_37 : szO Tryd.prog 37 = some 1 := by kernel_rfl
theorem by_37 : byO Tryd.prog 37 = some 24 := by kernel_rfl
theorem agg_37 : aggO Tryd.prog 37 = some false := by kernel_rfl
theorem zero_37 : zeroO Tryd.prog 37 = some (.slice none 0 0) := by kernel_rfl
theorem el_37 : elemO Tryd.prog 37 = some 50 := by kernel_rfl
theorem un_37 : Tryd.prog.underlying 37 = some (.slice 50) := by kernel_rfl
attribute [simp] sz_37 by_37 agg_37 zero_37 el_37 un_37
theorem sz_38 : szO Tryd.prog 38 = some 3 := by kernel_rfl
theorem by_38 : byO Tryd.prog 38 = some 40 := by kernel_rfl
theorem agg_38 : aggO Tryd.prog 38 = some true := by kernel_rfl
theorem zero_38 : zeroO Tryd.prog 38 = some (.agg #[.bool false, .int .i64 0, .slice none 0 0]) := by kernel_rfl
theorem fl_38 : fldsO Tryd.prog 38 = some [(0, 1), (1, 1), (2, 1)] := by kernel_rfl
attribute [simp] sz_38 by_38 agg_38 zero_38 fl_38
theorem sz_39 : szO Tryd.prog 39 = some 3 := by kernel_rfl
theorem by_39 : byO Tryd.prog 39 = some 40 := by kernel_rfl
theorem agg_39 : aggO Tryd.prog 39 = some true := by kernel_rfl
theorem zero_39 : zeroO Tryd.prog 39 = some (.agg #[.bool false, .int .i64 0, .slice none 0 0]) := by kernel_rfl
theorem fl_39 : fldsO Tryd.prog 39 = some [(0, 1), (1, 1), (2, 1)] := by kernel_rfl
attribute [simp] sz_39 by_39 agg_39 zero_39 fl_39
theorem sz_40 : szO Tryd.prog 40 = some 1 := by kernel_rfl
theorem by_40 : byO Tryd.prog 40 = some 24 := by kernel_rfl
theorem agg_40 : aggO Tryd.prog 40 = some false := by kernel_rfl
theorem zero_40 : zeroO Tryd.prog 40 = some (.slice none 0 0) := by kernel_rfl
theorem el_40 : elemO Tryd.prog 40 = some 47 := by kernel_rfl
theorem un_40 : Tryd.prog.underlying 40 = some (.slice 47) := by kernel_rfl
attribute [simp] sz_40 by_40 agg_40 zero_40 el_40 un_40
theorem sz_41 : szO Tryd.prog 41 = some 5 := by kernel_rfl
theorem by_41 : byO Tryd.prog 41 = some 72 := by kernel_rfl
theorem agg_41 : aggO Tryd.prog 41 = some true := by kernel_rfl
theorem zero_41 : zeroO Tryd.prog 41 = some (.agg #[.bool false, .bool false, .int .i64 0, .slice none 0 0, .slice none 0 0]) := by kernel_rfl
theorem fl_41 : fldsO Tryd.prog 41 = some [(0, 1), (1, 3), (4, 1)] := by kernel_rfl
attribute [simp] sz_41 by_41 agg_41 zero_41 fl_41
theorem sz_42 : szO Tryd.prog 42 = some 5 := by kernel_rfl
theorem by_42 : byO Tryd.prog 42 = some 72 := by kernel_rfl
theorem agg_42 : aggO Tryd.prog 42 = some true := by kernel_rfl
theorem zero_42 : zeroO Tryd.prog 42 = some (.agg #[.bool false, .bool false, .int .i64 0, .slice none 0 0, .slice none 0 0]) := by kernel_rfl
theorem fl_42 : fldsO Tryd.prog 42 = some [(0, 1), (1, 3), (4, 1)] := by kernel_rfl
attribute [simp] sz_42 by_42 agg_42 zero_42 fl_42
theorem sz_43 : szO Tryd.prog 43 = some 6 := by kernel_rfl
theorem by_43 : byO Tryd.prog 43 = some 80 := by kernel_rfl
theorem agg_43 : aggO Tryd.prog 43 = some true := by kernel_rfl
theorem zero_43 : zeroO Tryd.prog 43 = some (.agg #[.int .i64 0, .bool false, .bool false, .int .i64 0, .slice none 0 0, .slice none 0 0]) := by kernel_rfl
theorem fl_43 : fldsO Tryd.prog 43 = some [(0, 1), (1, 5)] := by kernel_rfl
attribute [simp] sz_43 by_43 agg_43 zero_43 fl_43
theorem sz_44 : szO Tryd.prog 44 = some 6 := by kernel_rfl
theorem by_44 : byO Tryd.prog 44 = some 80 := by kernel_rfl
theorem agg_44 : aggO Tryd.prog 44 = some true := by kernel_rfl
theorem zero_44 : zeroO Tryd.prog 44 = some (.agg #[.int .i64 0, .bool false, .bool false, .int .i64 0, .slice none 0 0, .slice none 0 0]) := by kernel_rfl
theorem fl_44 : fldsO Tryd.prog 44 = some [(0, 1), (1, 5)] := by kernel_rfl
attribute [simp] sz_44 by_44 agg_44 zero_44 fl_44
theorem sz_46 : szO Tryd.prog 46 = some 4 := by kernel_rfl
theorem by_46 : byO Tryd.prog 46 = some 32 := by kernel_rfl
theorem agg_46 : aggO Tryd.prog 46 = some true := by kernel_rfl
theorem zero_46 : zeroO Tryd.prog 46 = some (.agg #[.int .i64 0, .int .i64 0, .int .i64 0, .int .i64 0]) := by kernel_rfl
theorem fl_46 : fldsO Tryd.prog 46 = some [(0, 1), (1, 1), (2, 1), (3, 1)] := by kernel_rfl
theorem eq_46 : eqOk Tryd.prog 46 = true := by kernel_rfl
attribute [simp] sz_46 by_46 agg_46 zero_46 fl_46 eq_46
theorem sz_47 : szO Tryd.prog 47 = some 4 := by kernel_rfl
theorem by_47 : byO Tryd.prog 47 = some 32 := by kernel_rfl
theorem agg_47 : aggO Tryd.prog 47 = some true := by kernel_rfl
theorem zero_47 : zeroO Tryd.prog 47 = some (.agg #[.int .i64 0, .int .i64 0, .int .i64 0, .int .i64 0]) := by kernel_rfl
theorem fl_47 : fldsO Tryd.prog 47 = some [(0, 1), (1, 1), (2, 1), (3, 1)] := by kernel_rfl
theorem eq_47 : eqOk Tryd.prog 47 = true := by kernel_rfl
attribute [simp] sz_47 by_47 agg_47 zero_47 fl_47 eq_47
theorem sz_48 : szO Tryd.prog 48 = some 1 := by kernel_rfl
theorem by_48 : byO Tryd.prog 48 = some 24 := by kernel_rfl
theorem agg_48 : aggO Tryd.prog 48 = some false := by kernel_rfl
theorem zero_48 : zeroO Tryd.prog 48 = some (.slice none 0 0) := by kernel_rfl
theorem el_48 : elemO Tryd.prog 48 = some 88 := by kernel_rfl
theorem un_48 : Tryd.prog.underlying 48 = some (.slice 88) := by kernel_rfl
attribute [simp] sz_48 by_48 agg_48 zero_48 el_48 un_48
theorem sz_49 : szO Tryd.prog 49 = some 4 := by kernel_rfl
theorem by_49 : byO Tryd.prog 49 = some 64 := by kernel_rfl
theorem agg_49 : aggO Tryd.prog 49 = some true := by kernel_rfl
theorem zero_49 : zeroO Tryd.prog 49 = some (.agg #[.int .i64 0, .slice none 0 0, .slice none 0 0, .int .i64 0]) := by kernel_rfl
theorem fl_49 : fldsO Tryd.prog 49 = some [(0, 1), (1, 1), (2, 1), (3, 1)] := by kernel_rfl
attribute [simp] sz_49 by_49 agg_49 zero_49 fl_49
theorem sz_50 : szO Tryd.prog 50 = some 4 := by kernel_rfl
theorem by_50 : byO Tryd.prog 50 = some 64 := by kernel_rfl
theorem agg_50 : aggO Tryd.prog 50 = some true := by kernel_rfl
theorem zero_50 : zeroO Tryd.prog 50 = some (.agg #[.int .i64 0, .slice none 0 0, .slice none 0 0, .int .i64 0]) := by kernel_rfl
theorem fl_50 : fldsO Tryd.prog 50 = some [(0, 1), (1, 1), (2, 1), (3, 1)] := by kernel_rfl
attribute [simp] sz_50 by_50 agg_50 zero_50 fl_50
theorem sz_56 : szO Tryd.prog 56 = some 3 := by kernel_rfl
theorem by_56 : byO Tryd.prog 56 = some 24 := by kernel_rfl
theorem agg_56 : aggO Tryd.prog 56 = some true := by kernel_rfl
theorem zero_56 : zeroO Tryd.prog 56 = some (.agg #[.int .i64 0, .int .i64 0, .int .i64 0]) := by kernel_rfl
theorem fl_56 : fldsO Tryd.prog 56 = some [(0, 1), (1, 1), (2, 1)] := by kernel_rfl
theorem eq_56 : eqOk Tryd.prog 56 = true := by kernel_rfl
attribute [simp] sz_56 by_56 agg_56 zero_56 fl_56 eq_56
theorem sz_57 : szO Tryd.prog 57 = some 3 := by kernel_rfl
theorem by_57 : byO Tryd.prog 57 = some 24 := by kernel_rfl
theorem agg_57 : aggO Tryd.prog 57 = some true := by kernel_rfl
theorem zero_57 : zeroO Tryd.prog 57 = some (.agg #[.int .i64 0, .int .i64 0, .int .i64 0]) := by kernel_rfl
theorem fl_57 : fldsO Tryd.prog 57 = some [(0, 1), (1, 1), (2, 1)] := by kernel_rfl
theorem eq_57 : eqOk Tryd.prog 57 = true := by kernel_rfl
attribute [simp] sz_57 by_57 agg_57 zero_57 fl_57 eq_57
theorem sz_58 : szO Tryd.prog 58 = some 6 := by kernel_rfl
theorem by_58 : byO Tryd.prog 58 = some 48 := by kernel_rfl
theorem agg_58 : aggO Tryd.prog 58 = some true := by kernel_rfl
theorem zero_58 : zeroO Tryd.prog 58 = some (.agg #[.int .i64 0, .int .i64 0, .int .i64 0, .int .i64 0, .int .i64 0, .int .i64 0]) := by kernel_rfl
theorem fl_58 : fldsO Tryd.prog 58 = some [(0, 1), (1, 3), (4, 1), (5, 1)] := by kernel_rfl
attribute [simp] sz_58 by_58 agg_58 zero_58 fl_58
theorem sz_59 : szO Tryd.prog 59 = some 6 := by kernel_rfl
theorem by_59 : byO Tryd.prog 59 = some 48 := by kernel_rfl
theorem agg_59 : aggO Tryd.prog 59 = some true := by kernel_rfl
theorem zero_59 : zeroO Tryd.prog 59 = some (.agg #[.int .i64 0, .int .i64 0, .int .i64 0, .int .i64 0, .int .i64 0, .int .i64 0]) := by kernel_rfl
theorem fl_59 : fldsO Tryd.prog 59 = some [(0, 1), (1, 3), (4, 1), (5, 1)] := by kernel_rfl
attribute [simp] sz_59 by_59 agg_59 zero_59 fl_59
theorem sz_61 : szO Tryd.prog 61 = some 3 := by kernel_rfl
theorem by_61 : byO Tryd.prog 61 = some 24 := by kernel_rfl
theorem agg_61 : aggO Tryd.prog 61 = some true := by kernel_rfl
theorem zero_61 : zeroO Tryd.prog 61 = some (.agg #[.int .i64 0, .int .i64 0, .int .i64 0]) := by kernel_rfl
theorem fl_61 : fldsO Tryd.prog 61 = some [(0, 1), (1, 1), (2, 1)] := by kernel_rfl
theorem eq_61 : eqOk Tryd.prog 61 = true := by kernel_rfl
attribute [simp] sz_61 by_61 agg_61 zero_61 fl_61 eq_61
theorem sz_62 : szO Tryd.prog 62 = some 6 := by kernel_rfl
theorem by_62 : byO Tryd.prog 62 = some 48 := by kernel_rfl
theorem agg_62 : aggO Tryd.prog 62 = some true := by kernel_rfl
theorem zero_62 : zeroO Tryd.prog 62 = some (.agg #[.int .i64 0, .int .i64 0, .int .i64 0, .int .i64 0, .int .i64 0, .int .i64 0]) := by kernel_rfl
theorem fl_62 : fldsO Tryd.prog 62 = some [(0, 1), (1, 3), (4, 1), (5, 1)] := by kernel_rfl
attribute [simp] sz_62 by_62 agg_62 zero_62 fl_62
theorem sz_63 : szO Tryd.prog 63 = some 6 := by kernel_rfl
theorem by_63 : byO Tryd.prog 63 = some 48 := by kernel_rfl
theorem agg_63 : aggO Tryd.prog 63 = some true := by kernel_rfl
theorem zero_63 : zeroO Tryd.prog 63 = some (.agg #[.int .i64 0, .int .i64 0, .int .i64 0, .int .i64 0, .int .i64 0, .int .i64 0]) := by kernel_rfl
theorem fl_63 : fldsO Tryd.prog 63 = some [(0, 1), (1, 3), (4, 1), (5, 1)] := by kernel_rfl
attribute [simp] sz_63 by_63 agg_63 zero_63 fl_63
theorem sz_64 : szO Tryd.prog 64 = some 1 := by kernel_rfl
theorem by_64 : byO Tryd.prog 64 = some 8 := by kernel_rfl
theorem agg_64 : aggO Tryd.prog 64 = some false := by kernel_rfl
theorem zero_64 : zeroO Tryd.prog 64 = some (.pointer none) := by kernel_rfl
attribute [simp] sz_64 by_64 agg_64 zero_64
theorem sz_65 : szO Tryd.prog 65 = some 2 := by kernel_rfl
theorem by_65 : byO Tryd.prog 65 = some 32 := by kernel_rfl
theorem agg_65 : aggO Tryd.prog 65 = some true := by kernel_rfl
theorem zero_65 : zeroO Tryd.prog 65 = some (.agg #[.pointer none, .slice none 0 0]) := by kernel_rfl
theorem fl_65 : fldsO Tryd.prog 65 = some [(0, 1), (1, 1)] := by kernel_rfl
attribute [simp] sz_65 by_65 agg_65 zero_65 fl_65
theorem sz_66 : szO Tryd.prog 66 = some 2 := by kernel_rfl
theorem by_66 : byO Tryd.prog 66 = some 32 := by kernel_rfl
theorem agg_66 : aggO Tryd.prog 66 = some true := by kernel_rfl
theorem zero_66 : zeroO Tryd.prog 66 = some (.agg #[.pointer none, .slice none 0 0]) := by kernel_rfl
theorem fl_66 : fldsO Tryd.prog 66 = some [(0, 1), (1, 1)] := by kernel_rfl
attribute [simp] sz_66 by_66 agg_66 zero_66 fl_66
theorem sz_75 : szO Tryd.prog 75 = some 1 := by kernel_rfl
theorem by_75 : byO Tryd.prog 75 = some 8 := by kernel_rfl
theorem agg_75 : aggO Tryd.prog 75 = some false := by kernel_rfl
theorem zero_75 : zeroO Tryd.prog 75 = some (.pointer none) := by kernel_rfl
attribute [simp] sz_75 by_75 agg_75 zero_75
theorem sz_76 : szO Tryd.prog 76 = some 1 := by kernel_rfl
theorem by_76 : byO Tryd.prog 76 = some 8 := by kernel_rfl
theorem agg_76 : aggO Tryd.prog 76 = some false := by kernel_rfl
theorem zero_76 : zeroO Tryd.prog 76 = some (.int .u64 0) := by kernel_rfl
theorem int_76 : intO Tryd.prog 76 = some .u64 := by kernel_rfl
theorem un_76 : Tryd.prog.underlying 76 = some (.int .u64) := by kernel_rfl
attribute [simp] sz_76 by_76 agg_76 zero_76 int_76 un_76
theorem sz_77 : szO Tryd.prog 77 = some 3 := by kernel_rfl
theorem by_77 : byO Tryd.prog 77 = some 40 := by kernel_rfl
theorem agg_77 : aggO Tryd.prog 77 = some true := by kernel_rfl
theorem zero_77 : zeroO Tryd.prog 77 = some (.agg #[.slice none 0 0, .int .i64 0, .int .u64 0]) := by kernel_rfl
theorem fl_77 : fldsO Tryd.prog 77 = some [(0, 1), (1, 1), (2, 1)] := by kernel_rfl
attribute [simp] sz_77 by_77 agg_77 zero_77 fl_77
theorem sz_78 : szO Tryd.prog 78 = some 3 := by kernel_rfl
theorem by_78 : byO Tryd.prog 78 = some 40 := by kernel_rfl
theorem agg_78 : aggO Tryd.prog 78 = some true := by kernel_rfl
theorem zero_78 : zeroO Tryd.prog 78 = some (.agg #[.slice none 0 0, .int .i64 0, .int .u64 0]) := by kernel_rfl
theorem fl_78 : fldsO Tryd.prog 78 = some [(0, 1), (1, 1), (2, 1)] := by kernel_rfl
attribute [simp] sz_78 by_78 agg_78 zero_78 fl_78
theorem sz_87 : szO Tryd.prog 87 = some 2 := by kernel_rfl
theorem by_87 : byO Tryd.prog 87 = some 16 := by kernel_rfl
theorem agg_87 : aggO Tryd.prog 87 = some true := by kernel_rfl
theorem zero_87 : zeroO Tryd.prog 87 = some (.agg #[.int .i64 0, .int .i64 0]) := by kernel_rfl
theorem fl_87 : fldsO Tryd.prog 87 = some [(0, 1), (1, 1)] := by kernel_rfl
theorem eq_87 : eqOk Tryd.prog 87 = true := by kernel_rfl
attribute [simp] sz_87 by_87 agg_87 zero_87 fl_87 eq_87
theorem sz_88 : szO Tryd.prog 88 = some 2 := by kernel_rfl
theorem by_88 : byO Tryd.prog 88 = some 16 := by kernel_rfl
theorem agg_88 : aggO Tryd.prog 88 = some true := by kernel_rfl
theorem zero_88 : zeroO Tryd.prog 88 = some (.agg #[.int .i64 0, .int .i64 0]) := by kernel_rfl
theorem fl_88 : fldsO Tryd.prog 88 = some [(0, 1), (1, 1)] := by kernel_rfl
theorem eq_88 : eqOk Tryd.prog 88 = true := by kernel_rfl
attribute [simp] sz_88 by_88 agg_88 zero_88 fl_88 eq_88
theorem sz_90 : szO Tryd.prog 90 = some 1 := by kernel_rfl
theorem by_90 : byO Tryd.prog 90 = some 8 := by kernel_rfl
theorem agg_90 : aggO Tryd.prog 90 = some false := by kernel_rfl
theorem zero_90 : zeroO Tryd.prog 90 = some (.pointer none) := by kernel_rfl
attribute [simp] sz_90 by_90 agg_90 zero_90
theorem sz_97 : szO Tryd.prog 97 = some 1 := by kernel_rfl
theorem by_97 : byO Tryd.prog 97 = some 8 := by kernel_rfl
theorem agg_97 : aggO Tryd.prog 97 = some false := by kernel_rfl
theorem zero_97 : zeroO Tryd.prog 97 = some (.pointer none) := by kernel_rfl
attribute [simp] sz_97 by_97 agg_97 zero_97
theorem sz_98 : szO Tryd.prog 98 = some 4 := by kernel_rfl
theorem by_98 : byO Tryd.prog 98 = some 48 := by kernel_rfl
theorem agg_98 : aggO Tryd.prog 98 = some true := by kernel_rfl
theorem zero_98 : zeroO Tryd.prog 98 = some (.agg #[.int .i64 0, .bool false, .int .i64 0, .slice none 0 0]) := by kernel_rfl
theorem fl_98 : fldsO Tryd.prog 98 = some [(0, 1), (1, 3)] := by kernel_rfl
attribute [simp] sz_98 by_98 agg_98 zero_98 fl_98
theorem sz_99 : szO Tryd.prog 99 = some 4 := by kernel_rfl
theorem by_99 : byO Tryd.prog 99 = some 48 := by kernel_rfl
theorem agg_99 : aggO Tryd.prog 99 = some true := by kernel_rfl
theorem zero_99 : zeroO Tryd.prog 99 = some (.agg #[.int .i64 0, .bool false, .int .i64 0, .slice none 0 0]) := by kernel_rfl
theorem fl_99 : fldsO Tryd.prog 99 = some [(0, 1), (1, 3)] := by kernel_rfl
attribute [simp] sz_99 by_99 agg_99 zero_99 fl_99
theorem sz_108 : szO Tryd.prog 108 = some 1 := by kernel_rfl
theorem by_108 : byO Tryd.prog 108 = some 8 := by kernel_rfl
theorem agg_108 : aggO Tryd.prog 108 = some false := by kernel_rfl
attribute [simp] sz_108 by_108 agg_108
theorem sz_117 : szO Tryd.prog 117 = some 1 := by kernel_rfl
theorem by_117 : byO Tryd.prog 117 = some 8 := by kernel_rfl
theorem agg_117 : aggO Tryd.prog 117 = some false := by kernel_rfl
theorem zero_117 : zeroO Tryd.prog 117 = some (.pointer none) := by kernel_rfl
attribute [simp] sz_117 by_117 agg_117 zero_117
theorem sz_120 : szO Tryd.prog 120 = some 1 := by kernel_rfl
theorem by_120 : byO Tryd.prog 120 = some 24 := by kernel_rfl
theorem agg_120 : aggO Tryd.prog 120 = some false := by kernel_rfl
theorem zero_120 : zeroO Tryd.prog 120 = some (.slice none 0 0) := by kernel_rfl
theorem el_120 : elemO Tryd.prog 120 = some 4 := by kernel_rfl
theorem un_120 : Tryd.prog.underlying 120 = some (.slice 4) := by kernel_rfl
attribute [simp] sz_120 by_120 agg_120 zero_120 el_120 un_120
theorem sz_128 : szO Tryd.prog 128 = some 1 := by kernel_rfl
theorem by_128 : byO Tryd.prog 128 = some 8 := by kernel_rfl
theorem agg_128 : aggO Tryd.prog 128 = some false := by kernel_rfl
theorem zero_128 : zeroO Tryd.prog 128 = some (.int .u64 0) := by kernel_rfl
theorem int_128 : intO Tryd.prog 128 = some .u64 := by kernel_rfl
theorem un_128 : Tryd.prog.underlying 128 = some (.int .u64) := by kernel_rfl
attribute [simp] sz_128 by_128 agg_128 zero_128 int_128 un_128
theorem sz_132 : szO Tryd.prog 132 = some 1 := by kernel_rfl
theorem by_132 : byO Tryd.prog 132 = some 4 := by kernel_rfl
theorem agg_132 : aggO Tryd.prog 132 = some false := by kernel_rfl
theorem zero_132 : zeroO Tryd.prog 132 = some (.int .u32 0) := by kernel_rfl
theorem int_132 : intO Tryd.prog 132 = some .u32 := by kernel_rfl
theorem un_132 : Tryd.prog.underlying 132 = some (.int .u32) := by kernel_rfl
attribute [simp] sz_132 by_132 agg_132 zero_132 int_132 un_132
end Go.Proofs.YtpoedfmkiiijnaaDoor
namespace Go.Proofs.YtpoedfmkiiijnaaDoorAm
open Go Go.RowKit
set_option linter.unusedVariables false
theorem AC.law {P : Program} {f : FuncId} {args args' : List Value} {H H' : Heap} {φ : Phi} {W : World} (h : AC P f args H (.bool true) H' []) (hG : GOk P W.heap.size W) (hr : HR P W.heap.size φ H W) (ha : VRs φ args args') :
  Calls P f args'.toArray W fun e w' => e = .returned (.bool true) ∧ Below W.heap.size W w' := by
 refine (h.2 W.heap.size φ W args' hr (Nat.le_refl _) hG ha).mono ?_
 rintro e w' ⟨φ', v', rfl, hv, hi⟩
 cases hv
 exact ⟨rfl, hi.os, hi.tape, hi.output, hi.size, fun k hk => hi.keep k hk fun d hd => by simp at hd⟩
theorem HR.none {P : Program} {W : World} : HR P W.heap.size (fun _ => none) [] W :=
 ⟨fun _ _ h => (by cases h), fun _ _ h => (by cases h), fun _ _ h => (by cases h), fun _ _ _ _ h => (by cases h), fun _ _ _ h => (by cases h), fun _ _ _ h => (by cases h), fun _ _ _ _ h => (by cases h), fun _ _ _ h => (by cases h)⟩
theorem VRs.ints {φ : Phi} : ∀ l : List Int, VRs φ (l.map iv) (l.map iv)
 | [] => .nil _
 | _ :: l => .cons (.int _ _) (VRs.ints l)
end Go.Proofs.YtpoedfmkiiijnaaDoorAm
namespace Go.Proofs.YtpoedfmkiiijnaaDoorAm
open Go Go.RowKit
set_option linter.unusedVariables false
set_option linter.unusedSimpArgs false

/-- It can be read as data of type t. -/
def Rdb {H : Type} (enc : TypeId × Value → H) (P : Program) (W : World) (t : TypeId) (cs : List Value) : Prop := ∃ fuel x, DataW.trod enc P W 0 (fun _ => true) true fuel t cs = some x ∧ (x.1.weights P t).all (· ≤ reachBytes) = true
theorem mapM_len {α β : Type} {f : α → Option β} : ∀ {l : List α} {r : List β}, l.mapM f = some r → r.length = l.length
 | [], r, h => by simp at h; subst h; rfl
 | a :: l, r, h => by
  simp only [List.mapM_cons] at h
  cases ha : f a with
  | none => rw [ha] at h; simp at h
  | some b =>
   rw [ha] at h
   cases hl : l.mapM f with
   | none => rw [hl] at h; simp at h
   | some r' => rw [hl] at h; simp at h; subst h; simp [mapM_len hl]
theorem mapM_all {H : Type} {P : Program} {p : Nat → Bool} {e : TypeId} {f : Nat → Option (DataW H × List MemPlace)} : ∀ {l : List Nat} {r : List (DataW H × List MemPlace)}, l.mapM f = some r → (DataW.weightsAll P e (r.map (·.1))).all p = true →
  ∀ x, x ∈ l → ∃ y, f x = some y ∧ (y.1.weights P e).all p = true
 | [], r, _, _, x, hx => by simp at hx
 | a :: l, r, h, hw, x, hx => by
  simp only [List.mapM_cons] at h
  cases ha : f a with
  | none => rw [ha] at h; simp at h
  | some b =>
   rw [ha] at h
   cases hl : l.mapM f with
   | none => rw [hl] at h; simp at h
   | some r' =>
    rw [hl] at h; simp at h; subst h
    simp only [List.map_cons, DataW.weightsAll, List.all_append, Bool.and_eq_true] at hw
    rcases List.mem_cons.1 hx with rfl | hx
    ·exact ⟨b, ha, hw.1⟩
    ·exact mapM_all hl hw.2 x hx
section
variable {HH : Type} {enc : TypeId × Value → HH} {P : Program} {W : World}
theorem rd_slice {t e : TypeId} {cs : List Value} (ht : P.underlying t = some (.slice e)) (hby : 0 < P.bytesOf e) (h : Rdb enc P W t cs) :
  cs = [nl] ∨ ∃ a len cap, cs = [.slice (some a) len cap] ∧ len ≤ cap ∧ len ≤ reachBytes ∧ ∀ i, i < len → ∃ ces, W.cells? 0 (a.add (i * P.cellsOf e)) (P.cellsOf e) = some ces ∧ Rdb enc P W e ces := by
 obtain ⟨fuel, x, h, hw⟩ := h
 cases fuel with
 | zero => simp [DataW.trod] at h
 | succ fuel =>
  unfold DataW.trod at h
  rw [ht] at h
  split at h
  all_goals try (exfalso; simp_all; done)
  ·exact .inl rfl
  ·rename_i e' a len cap he
   cases he
   dsimp only at h
   split at h
   ·rename_i hh
    obtain ⟨y, h3, h4⟩ := Option.bind_eq_some_iff.1 h
    obtain ⟨rest, _, rfl⟩ := Option.map_eq_some_iff.1 h4
    simp only [DataW.weights, ht, List.all_cons, List.all_append, Bool.and_eq_true, decide_eq_true_eq, List.length_map] at hw
    have hyl := mapM_len h3
    rw [List.length_range] at hyl
    refine .inr ⟨a, len, cap, rfl, hh.2.1, ?_, fun i hi => ?_⟩
    ·have h5 := hw.1
     have : len ≤ (y.length + rest.length) * P.bytesOf e := by
      rw [hyl]; exact Nat.le_trans (Nat.le_add_right _ _) (Nat.le_mul_of_pos_right _ hby)
     omega
    ·obtain ⟨z, hz, hzw⟩ := mapM_all h3 hw.2.1 i (by simpa using hi)
     obtain ⟨ces, c1, c2⟩ := Option.bind_eq_some_iff.1 hz
     exact ⟨ces, c1, fuel, z, c2, hzw⟩
   ·cases h

/-- A heap of inputs: nothing in it may be written. -/
structure HRi (P : Program) (W : World) (φ : Phi) (H : Heap) : Prop where
 hr : HR P W.heap.size φ H W
 ro : ∀ id L, φ id = some L → L.rw = false
 al : ∀ (id : Nat) (b : Blk), H[id]? = some b → b.rw = false ∧ b.live = true
theorem HRi.none (P : Program) (W : World) : HRi P W (fun _ => Option.none) [] :=
 ⟨⟨fun _ _ h => (by cases h), fun _ _ h => (by cases h), fun _ _ h => (by cases h), fun _ _ _ _ h => (by cases h), fun _ _ _ h => (by cases h), fun _ _ _ h => (by cases h), fun _ _ _ _ h => (by cases h), fun _ _ _ h => (by cases h)⟩,
  fun _ _ h => (by cases h), fun _ _ h => by simp at h⟩
theorem HRi.add {φ : Phi} {H : Heap} (h : HRi P W φ H) {b off : Nat} {ty : TypeId} {xs : List Value} (hb : b < W.heap.size) (hv : ∀ (j : Nat) (x : Value), xs[j]? = some x → ∃ y, VR φ x y ∧ W.cell? ⟨b, off + j, Option.none⟩ = some y) :
  HRi P W (φ.set H.length ⟨b, off, 0, false⟩) (H ++ [⟨ty, xs, false, true⟩]) ∧ φ.le (φ.set H.length ⟨b, off, 0, false⟩) := by
 have hnone : φ H.length = Option.none := by
  cases e : φ H.length with
  | none => rfl
  | some L => exact absurd (h.hr.dom _ _ e) (Nat.lt_irrefl _)
 have hle := Phi.le_set (L := ⟨b, off, 0, false⟩) hnone
 have hlast : (H ++ [(⟨ty, xs, false, true⟩ : Blk)])[H.length]? = some ⟨ty, xs, false, true⟩ := by simp
 have hprev : ∀ id, id < H.length → (H ++ [(⟨ty, xs, false, true⟩ : Blk)])[id]? = H[id]? := fun id hi => by rw [List.getElem?_append_left hi]
 have hro : ∀ id L, φ.set H.length ⟨b, off, 0, false⟩ id = some L → L.rw = false := fun id L hL => by
  by_cases e : id = H.length
  ·subst e; rw [Phi.set_same] at hL; cases hL; rfl
  ·rw [Phi.set_ne _ _ e] at hL; exact h.ro _ _ hL
 have hal : ∀ (id : Nat) (c : Blk), (H ++ [(⟨ty, xs, false, true⟩ : Blk)])[id]? = some c → c.rw = false ∧ c.live = true := fun id c hc => by
  by_cases hi : id < H.length
  ·rw [hprev id hi] at hc; exact h.al id c hc
  ·have : id = H.length := by have := lt_of_get hc; simp at this; omega
   subst this; rw [hlast] at hc; cases hc; exact ⟨rfl, rfl⟩
 refine ⟨⟨⟨?_, ?_, ?_, ?_, ?_, ?_, ?_, ?_⟩, hro, hal⟩, hle⟩
 ·intro id L hL
  by_cases e : id = H.length
  ·subst e; simp
  ·rw [Phi.set_ne _ _ e] at hL; have := h.hr.dom _ _ hL; simp; omega
 ·intro id L hL _
  by_cases e : id = H.length
  ·subst e; rw [Phi.set_same] at hL; cases hL; exact hb
  ·rw [Phi.set_ne _ _ e] at hL; exact h.hr.ro _ _ hL (h.ro _ _ hL)
 ·intro id L hL
  by_cases e : id = H.length
  ·subst e; rw [Phi.set_same] at hL; cases hL; exact hb
  ·rw [Phi.set_ne _ _ e] at hL; exact h.hr.lt _ _ hL
 ·intro id L j x hL hx
  by_cases e : id = H.length
  ·subst e
   rw [Phi.set_same] at hL; cases hL
   simp only [Heap.cell, hlast, if_true] at hx
   obtain ⟨y, hy, hc⟩ := hv j x hx
   exact ⟨y, hy.mono hle, hc⟩
  ·rw [Phi.set_ne _ _ e] at hL
   have hlt := h.hr.dom _ _ hL
   simp only [Heap.cell, hprev id hlt] at hx
   obtain ⟨y, hy, hc⟩ := h.hr.cell id L j x hL hx
   exact ⟨y, hy.mono hle, hc⟩
 ·intro id L c hL hr; rw [hro id L hL] at hr; cases hr
 ·intro id L c hL hc hr; rw [(hal id c hc).1] at hr; cases hr
 ·intro id id' L L' hL _ hr; rw [hro id L hL] at hr; cases hr
 ·intro id L c hL hc hl; rw [(hal id c hc).2] at hl; cases hl

theorem add_add (a : Addr) (m k : Nat) : (a.add m).add k = a.add (m + k) := by
 unfold Addr.add
 by_cases h1 : m = 0
 ·subst h1; simp
 ·by_cases h2 : k = 0
  ·subst h2; simp
  ·simp [h1, h2, Nat.add_assoc]
/-- Cells that can be read as type t are laid in an input heap, and read there as x. -/
def Lays (HH : Type) (enc : TypeId × Value → HH) (P : Program) (W : World) {α : Type} (t : TypeId) (R : Heap → List Nat → α → List Value → Prop) : Prop :=
 ∀ φ H cs, Rdb enc P W t cs → HRi P W φ H → ∃ φ' J x xs E, HRi P W φ' (H ++ J) ∧ φ.le φ' ∧ R (H ++ J) E x xs ∧ VRs φ' xs cs
theorem lays_cells {α : Type} {e : TypeId} {R : Heap → List Nat → α → List Value → Prop} (hE : Lays HH enc P W e R) (hR : Frm R) {a : Addr} : ∀ (len : Nat) (φ : Phi) (H : Heap), HRi P W φ H →
  (∀ i, i < len → ∃ ces, W.cells? 0 (a.add (i * P.cellsOf e)) (P.cellsOf e) = some ces ∧ Rdb enc P W e ces) →
  ∃ φ' J xs cells E ds, HRi P W φ' (H ++ J) ∧ φ.le φ' ∧ RCs (P.cellsOf e) R (H ++ J) E xs cells ∧ xs.length = len ∧ VRs φ' cells ds ∧ ∀ (j : Nat) (y : Value), ds[j]? = some y → W.cell? (a.add j) = some y
 | 0, φ, H, h, _ => ⟨φ, [], [], [], [], [], by simpa using h, Phi.le_refl _, ⟨rfl, rfl⟩, rfl, .nil _, fun j y hy => by simp at hy⟩
 | n + 1, φ, H, h, hc => by
  obtain ⟨φ1, J1, xs, cells, E1, ds, i1, l1, r1, n1, v1, w1⟩ := lays_cells hE hR n φ H h fun i hi => hc i (by omega)
  obtain ⟨ces, hces, hrd⟩ := hc n (by omega)
  obtain ⟨φ2, J2, x, ys, E2, i2, l2, r2, v2⟩ := hE φ1 (H ++ J1) ces hrd i1
  obtain ⟨_, hlen, hcell⟩ := World.cells?_some hces
  have hyl : ys.length = P.cellsOf e := by rw [v2.1]; exact hlen
  have hdl : ds.length = n * P.cellsOf e := by rw [← v1.1, r1.len, n1]
  refine ⟨φ2, J1 ++ J2, xs ++ [x], cells ++ ys, E1 ++ E2, ds ++ ces, by rw [← List.append_assoc]; exact i2, Phi.le_trans l1 l2, ?_, by simp [n1], (v1.mono l2).append v2, fun j y hy => ?_⟩
  ·rw [← List.append_assoc]
   have := (r1.fr hR (agr_app (H ++ J1) J2 E1)).app (show RCs (P.cellsOf e) R (H ++ J1 ++ J2) E2 [x] ys from ⟨E2, [], ys, [], by simp, by simp, hyl, r2, rfl, rfl⟩)
   exact this
  ·by_cases hj : j < ds.length
   ·rw [List.getElem?_append_left hj] at hy; exact w1 j y hy
   ·rw [List.getElem?_append_right (by omega)] at hy
    have hlt := (List.getElem?_eq_some_iff.1 hy).1
    have := hcell (j - ds.length) (by omega)
    rw [add_add, hy] at this
    rw [← this]
    congr 2; omega
theorem lays_slice {α : Type} {t e : TypeId} {sz : Nat} {R : Heap → List Nat → α → List Value → Prop} (ht : P.underlying t = some (.slice e)) (hsz : P.cellsOf e = sz + 1) (hby : 0 < P.bytesOf e) (hE : Lays HH enc P W e R) (hR : Frm R) :
  Lays HH enc P W t fun H E xs cs => ∃ v, cs = [v] ∧ RS (sz + 1) R H E v xs := by
 intro φ H cs hrd h
 rcases rd_slice ht hby hrd with rfl | ⟨a, len, cap, rfl, h1, h2, h3⟩
 ·exact ⟨φ, [], [], [nl], [], by simpa using h, Phi.le_refl _, ⟨nl, rfl, by simp, .inl ⟨.inl rfl, rfl, rfl⟩⟩, .cons .nils (.nil _)⟩
 ·by_cases h0 : len = 0
  ·subst h0
   exact ⟨φ, [], [], [es], [], by simpa using h, Phi.le_refl _, ⟨es, rfl, by simp, .inl ⟨.inr rfl, rfl, rfl⟩⟩, .cons (.emp _ _) (.nil _)⟩
  ·obtain ⟨φ1, J, xs, cells, E, ds, i1, l1, r1, n1, v1, w1⟩ := lays_cells hE hR (a := a) len φ H h h3
   rw [hsz] at r1
   have hlen := r1.len
   have hdl : 0 < ds.length := by rw [← v1.1, hlen, n1]; exact Nat.mul_pos (by omega) (by omega)
   have hc0 := w1 0 ds[0] (by simp [hdl])
   have hsp := World.cell?_spot hc0
   rw [show a.add 0 = a by simp [Addr.add]] at hsp hc0
   obtain ⟨b, off, spot⟩ := a
   simp only at hsp
   subst hsp
   have hb : b < W.heap.size := cell_lt hc0
   obtain ⟨i2, l2⟩ := i1.add (b := b) (off := off) (ty := e) (xs := cells) hb fun j x hx => by
    have hj : j < ds.length := by rw [← v1.1]; exact (List.getElem?_eq_some_iff.1 hx).1
    refine ⟨ds[j], v1.2 j x _ hx (by simp [hj]), ?_⟩
    have := w1 j ds[j] (by simp [hj])
    rwa [add_plain'] at this
   refine ⟨_, J ++ [⟨e, cells, false, true⟩], xs, [sl (H ++ J).length 0 len], (H ++ J).length :: E, by rw [← List.append_assoc]; exact i2, Phi.le_trans l1 l2, ⟨_, rfl, ?_, .inr ⟨(H ++ J).length, 0, E, e, false, [], cells, [], by rw [n1], rfl, ?_, rfl, ?_⟩⟩, .cons ?_ (.nil _)⟩
   ·rw [n1]; simp only [reachBytes] at h2; omega
   ·rw [← List.append_assoc]; simp
   ·rw [← List.append_assoc]; exact r1.fr hR (agr_app _ _ _)
   ·have := VR.slc (o := 0) (n := len) (c := cap) (Phi.set_same φ1 (H ++ J).length ⟨b, off, 0, false⟩) h1 (fun hr _ => by cases hr)
    exact this
end
end Go.Proofs.YtpoedfmkiiijnaaDoorAm
namespace Go.Proofs.YtpoedfmkiiijnaaDoor
open Go Go.RowKit Go.Proofs.YtpoedfmkiiijnaaDoorAm
set_option linter.unusedVariables false
set_option linter.unusedSimpArgs false

section
variable {HH : Type} {enc : TypeId × Value → HH} {W : World}
end
end Go.Proofs.YtpoedfmkiiijnaaDoor
namespace Go.Proofs.YtpoedfmkiiijnaaDoorAm
open Go Go.RowKit
set_option linter.unusedVariables false
set_option linter.unusedSimpArgs false
/-- Elements that own nothing, of which each has a property. -/
def RPp {α : Type} (f : α → List Value) (p : α → Prop) (H : Heap) (E : List Nat) (x : α) (cs : List Value) : Prop := RP f H E x cs ∧ p x
theorem RPp.frm {α : Type} (f : α → List Value) (p : α → Prop) : Frm (RPp f p) := ⟨fun h _ => h, fun h id hi => by rw [h.1.1] at hi; simp at hi⟩
theorem RCs.prop {α : Type} {sz : Nat} {f : α → List Value} {p : α → Prop} {H : Heap} : ∀ {xs : List α} {E : List Nat} {cs : List Value}, RCs sz (RPp f p) H E xs cs → ∀ x, x ∈ xs → p x
 | [], _, _, h, x, hx => by simp at hx
 | y :: ys, _, _, ⟨E1, E2, c1, c2, h1, h2, h3, h4, h5⟩, x, hx => by
  rcases List.mem_cons.1 hx with rfl | hx
  ·exact h4.2
  ·exact h5.prop x hx
theorem RS.prop {α : Type} {sz : Nat} {f : α → List Value} {p : α → Prop} {H : Heap} {E : List Nat} {v : Value} {xs : List α} (h : RS sz (RPp f p) H E v xs) : ∀ x, x ∈ xs → p x := by
 obtain ⟨hl, ⟨_, h, _⟩ | ⟨id, o, E', ty, rw, pre, cs, post, h1, h2, h3, h4, h5⟩⟩ := h
 ·subst h; intro x hx; simp at hx
 ·exact h5.prop
def cBy (n : Int) : List Value := [.int .u8 n]
def byR (n : Int) : Prop := 0 ≤ n ∧ n ≤ 255
def i64R (n : Int) : Prop := -9223372036854775808 ≤ n ∧ n ≤ 9223372036854775807
def bdR (b : Bd) : Prop := i64R b.ver
def acR (a : Actn) : Prop := i64R a.n
abbrev RBy := RPp cBy byR
/-- The cells of a world whose bodies' versions are within range. -/
def RWdR (H : Heap) (E : List Nat) (w : Wd) (cs : List Value) : Prop := ∃ E1 E2 c v, E = E1 ++ E2 ∧ cs = .bool w.ok :: (c ++ [v]) ∧ RBk H E1 w.book c ∧ RS 4 (RPp cBd bdR) H E2 v w.bodies
theorem RWdR.frm : Frm RWdR := by
 refine ⟨?_, ?_⟩
 ·rintro H H' E x cs ⟨E1, E2, c, v, rfl, h2, h3, h4⟩ ha
  exact ⟨E1, E2, c, v, rfl, h2, RBk.frm.fr h3 fun id hi => ha id (by simp [hi]), h4.fr (RPp.frm _ _) fun id hi => ha id (by simp [hi])⟩
 ·rintro H E x cs ⟨E1, E2, c, v, rfl, h2, h3, h4⟩ id hi
  rcases List.mem_append.1 hi with hi | hi
  ·exact RBk.frm.bd h3 id hi
  ·exact h4.bd (RPp.frm _ _) id hi
end Go.Proofs.YtpoedfmkiiijnaaDoorAm
namespace Go.Proofs.YtpoedfmkiiijnaaDoor
open Go Go.RowKit Go.Proofs.YtpoedfmkiiijnaaDoorAm
set_option linter.unusedVariables false
set_option linter.unusedSimpArgs false
section
variable {HH : Type} {enc : TypeId × Value → HH} {W : World}
theorem rd_intR {P : Program} {t : TypeId} {k : IntKind} {cs : List Value} (ht : P.underlying t = some (.int k)) (h : Rdb enc P W t cs) : ∃ n, cs = [.int k n] ∧ k.min ≤ n ∧ n ≤ k.max := by
 obtain ⟨fuel, x, h, hw⟩ := h
 cases fuel with
 | zero => simp [DataW.trod] at h
 | succ fuel =>
  unfold DataW.trod at h
  rw [ht] at h
  split at h
  case h_2 k' k2 n e1 =>
   cases e1
   split at h
   ·rename_i hh
    obtain ⟨rfl, h2⟩ := hh
    simp only [Lit.wf, Bool.and_eq_true, decide_eq_true_eq] at h2
    exact ⟨n, rfl, h2⟩
   ·cases h
  all_goals simp_all
theorem un5 : Tryd.prog.underlying 5 = some (.int .u8) := by kernel_rfl
theorem un32 : Tryd.prog.underlying 32 = some (.slice 5) := by kernel_rfl
theorem co_by : Tryd.prog.cellsOf 5 = 1 := by kernel_rfl
theorem lays_by : Lays HH enc Tryd.prog W 5 RBy := fun φ H cs hrd h => by
 obtain ⟨n, rfl, hn⟩ := rd_intR un5 hrd
 exact ⟨φ, [], n, _, [], by simpa using h, Phi.le_refl _, ⟨⟨rfl, rfl⟩, hn⟩, .cons (.int _ _) (.nil _)⟩
theorem lays_bys : Lays HH enc Tryd.prog W 32 fun H E xs cs => ∃ v, cs = [v] ∧ RS 1 RBy H E v xs := lays_slice (sz := 0) un32 co_by (of_decide_eq_true (by kernel_rfl)) lays_by (RPp.frm _ _)
end
end Go.Proofs.YtpoedfmkiiijnaaDoor
namespace Go.Proofs.YtpoedfmkiiijnaaDoorAm
open Go Go.RowKit
set_option linter.unusedVariables false
set_option linter.unusedSimpArgs false
@[simp] theorem evO_tmp (ts t) : evO ts (.tmp t) = getT ts t := rfl.trans rfl
@[simp] theorem evO_int (ts k n) : evO ts (.const (.int k n)) = some (.int k n) := rfl.trans rfl
@[simp] theorem evO_bool (ts b) : evO ts (.const (.bool b)) = some (.bool b) := rfl.trans rfl
@[simp] theorem evO_str (ts b) : evO ts (.const (.string b)) = some (.string b) := rfl.trans rfl
@[simp] theorem evO_nili (ts) : evO ts (.const .nilIface) = some .nilIface := rfl.trans rfl
@[simp] theorem evO_nils (ts) : evO ts (.const (.slice none 0 0)) = some nl := rfl.trans rfl
@[simp] theorem evO_nilp (ts) : evO ts (.const (.pointer none)) = some (.pointer none) := rfl.trans rfl
@[simp] theorem evO_func (ts f) : evO ts (.func f) = some (.func (.func f) #[] #[]) := rfl.trans rfl
@[simp] theorem getT_nil (t) : getT [] t = none := rfl.trans rfl
@[simp] theorem getT_cons (k v r t) : getT ((k, v) :: r) t = if k = t then some v else getT r t := rfl.trans rfl
@[simp] theorem putT_some (d v ts) : putT (some d) v ts = (d, v) :: ts := rfl.trans rfl
@[simp] theorem putT_none (v ts) : putT none v ts = ts := rfl.trans rfl
@[simp] theorem enumT_nil (i) : enumT i [] = [] := rfl.trans rfl
@[simp] theorem enumT_cons (i v r) : enumT i (v :: r) = (i, v) :: enumT (i + 1) r := rfl.trans rfl
section
variable (P : Program) (ρ : Operand → Option Value)
@[simp] theorem pureOp_pick (c a b) : pureOp P ρ (.pick c a b) = match ρ c with
  | some (.bool true) => ρ a
  | some (.bool false) => ρ b
  | _ => none := rfl.trans rfl
@[simp] theorem pureOp_build (t ps) : pureOp P ρ (.build t ps) = match evP ρ ps.toList with
  | some l => match buildA P t l with
   | some cs => some (.agg cs.toArray)
   | none => none
  | none => none := rfl.trans rfl
@[simp] theorem pureOp_nilCheck (x) : pureOp P ρ (.nilCheck x) = match ρ x with
  | some (.pointer (some ⟨id, o, none⟩)) => some (pt id o)
  | _ => none := rfl.trans rfl
@[simp] theorem pureOp_binOp (o t x y z) : pureOp P ρ (.binOp o t x y z) = match ρ x, ρ y with
  | some a, some b => binA P o t a b
  | _, _ => none := rfl.trans rfl
@[simp] theorem pureOp_not (t x) : pureOp P ρ (.unOp .not t x) = match ρ x with
  | some (.bool b) => some (.bool !b)
  | _ => none := rfl.trans rfl
@[simp] theorem pureOp_convert (a b x) : pureOp P ρ (.convert a b x) = match P.underlying a, intO P b, ρ x with
  | some _, some k, some (.int _ n) => some (.int k (k.wrap n))
  | _, _, _ => none := rfl.trans rfl
@[simp] theorem pureOp_slice (t x lo hi) : pureOp P ρ (.slice t x lo hi none) = match ρ x, evM ρ lo, evM ρ hi with
  | some v, some l, some h => sliceA P t v l h
  | _, _, _ => none := rfl.trans rfl
@[simp] theorem pureOp_fieldAddr (t x f) : pureOp P ρ (.fieldAddr t x f) = match ρ x, (fldsO P t).bind (fun fl => fl[f]?) with
  | some (.pointer (some ⟨id, o, none⟩)), some (off, _ + 1) => some (pt id (o + off))
  | _, _ => none := rfl.trans rfl
@[simp] theorem pureOp_field (t x f) : pureOp P ρ (.field t x f) = match ρ x, (fldsO P t).bind (fun fl => fl[f]?), P.underlying t with
  | some (.agg cs), some (off, _), some (.struct fs) => match fs[f]? with
   | some fd => if (aggO P fd.type) = some false then cs[off]? else none
   | none => none
  | _, _, _ => none := rfl.trans rfl
@[simp] theorem pureOp_indexAddr (t x i) : pureOp P ρ (.indexAddr t x i) = match ρ x, ρ i, (elemO P t).bind (szO P) with
  | some (.slice (some ⟨id, o, none⟩) n 0), some (.int _ j), some sz => if 0 ≤ j ∧ j < (n : Int) then some (pt id (o + j.toNat * sz)) else none
  | _, _, _ => none := rfl.trans rfl
@[simp] theorem pureOp_makeFunc (f a c) : pureOp P ρ (.makeFunc f a c) = if a.size = 0 then (match evL ρ c.toList with | some l => some (.func f #[] l.toArray) | none => none) else none := rfl.trans rfl
@[simp] theorem pureOp_extract (x i) : pureOp P ρ (.extract x i) = match ρ x with
  | some (.tuple vs) => vs[i]?
  | _ => none := rfl.trans rfl
@[simp] theorem pureOp_len (as1 ts) : pureOp P ρ (.call { callee := .builtin .len, args := as1, argTypes := ts }) = match as1.toList with
  | [x] => match ρ x, (ts[0]?).bind P.underlying with
   | some (.slice _ n _), some (.slice _) => some (.int .i64 n)
   | some (.string s), some .string => some (.int .i64 s.size)
   | _, _ => none
  | _ => none := rfl.trans rfl
@[simp] theorem pureOp_max (as1 ts) : pureOp P ρ (.call { callee := .builtin .max, args := as1, argTypes := ts }) = match as1.toList with
  | [x, y] => match ρ x, ρ y with
   | some (.int k a), some (.int _ b) => some (.int k (if a < b then b else a))
   | _, _ => none
  | _ => none := rfl.trans rfl
@[simp] theorem newA_alloc (t) : newA P ρ (.alloc t) = match zeroO P t, szO P t with
  | some z, some n => if (cellsV z).length = n ∧ allPlain (cellsV z) = true then some ⟨t, cellsV z, fun id => pt id 0⟩ else none
  | _, _ => none := rfl.trans rfl
@[simp] theorem newA_box (t x) : newA P ρ (.box t x) = match ρ x, szO P t with
  | some v, some n => if (cellsV v).length = n then some ⟨t, cellsV v, fun id => pt id 0⟩ else none
  | _, _ => none := rfl.trans rfl
@[simp] theorem newA_buildSlice (t n ps) : newA P ρ (.buildSlice t n ps) = match elemO P t, evP ρ ps.toList with
  | some e, some l => match szO P e, zeroO P e with
   | some (sz + 1), some z => if (cellsV z).length = sz + 1 ∧ allPlain (cellsV z) = true ∧ n * (sz + 1) ≤ 16777216 then
     (match fillA (fun i => some (i * (sz + 1), sz + 1)) (List.replicate n (cellsV z)).flatten l with
     | some cs => some ⟨e, cs, fun id => sl id 0 n⟩
     | none => none) else none
   | _, _ => none
  | _, _ => none := rfl.trans rfl
@[simp] theorem newA_makeSlice (t l c) : newA P ρ (.makeSlice t l c) = match ρ l, ρ c, elemO P t with
  | some (.int _ a), some (.int _ b), some e => match szO P e, byO P e, zeroO P e with
   | some (sz + 1), some by', some z => if a = b ∧ 0 ≤ a ∧ (by' : Int) * a ≤ 281474976710656 ∧ a ≤ 9223372036854775807 ∧ (cellsV z).length = sz + 1 ∧ allPlain (cellsV z) = true then
     some ⟨e, (List.replicate a.toNat (cellsV z)).flatten, fun id => sl id 0 a.toNat⟩ else none
   | _, _, _ => none
  | _, _, _ => none := rfl.trans rfl
end
section
variable (k : IntKind) (a b : Int)
@[simp] theorem intA_add : intA .add k a k b = some (.int k (k.wrap (a + b))) := by simp [intA]
@[simp] theorem intA_sub : intA .sub k a k b = some (.int k (k.wrap (a - b))) := by simp [intA]
@[simp] theorem intA_mul : intA .mul k a k b = some (.int k (k.wrap (a * b))) := by simp [intA]
@[simp] theorem intA_eql : intA .eql k a k b = some (.bool (decide (a = b))) := by simp [intA]
@[simp] theorem intA_neq : intA .neq k a k b = some (.bool (!decide (a = b))) := by simp [intA]
@[simp] theorem intA_lss : intA .lss k a k b = some (.bool (decide (a < b))) := by simp [intA]
@[simp] theorem intA_leq : intA .leq k a k b = some (.bool (decide (a ≤ b))) := by simp [intA]
@[simp] theorem intA_gtr : intA .gtr k a k b = some (.bool (decide (b < a))) := by simp [intA]
@[simp] theorem intA_geq : intA .geq k a k b = some (.bool (decide (b ≤ a))) := by simp [intA]
end
@[simp] theorem binA_str (P : Program) (op t a b) : binA P op t (.string a) (.string b) = strA op a b := rfl.trans rfl
@[simp] theorem strA_add (a b : List UInt8) : strA .add ⟨a.toArray⟩ ⟨b.toArray⟩ = if a.length + b.length ≤ 4611686018427387904 then some (.string ⟨(a ++ b).toArray⟩) else none := by simp [strA, ByteArray.size, catS_mk]
@[simp] theorem strA_eql (a b : ByteArray) : strA .eql a b = some (.bool (a.toList == b.toList)) := rfl.trans rfl
@[simp] theorem strA_neq (a b : ByteArray) : strA .neq a b = some (.bool (!(a.toList == b.toList))) := rfl.trans rfl
@[simp] theorem binA_int (P : Program) (op t k a k' b) : binA P op t (.int k a) (.int k' b) = intA op k a k' b := rfl.trans rfl
@[simp] theorem binA_bool (P : Program) (op t a b) : binA P op t (.bool a) (.bool b) = if (P.underlying t matches some .bool) then (match op with | .eql => some (.bool (a == b)) | .neq => some (.bool (!(a == b))) | _ => none) else none := rfl.trans rfl
@[simp] theorem binA_nil (P : Program) (op t p n c) : binA P op t (.slice p n c) (.slice none 0 0) = if (elemO P t).isSome then (match op with | .eql => some (.bool p.isNone) | .neq => some (.bool (!p.isNone)) | _ => none) else none := rfl.trans rfl
@[simp] theorem binA_agg (P : Program) (op t xs ys) : binA P op t (.agg xs) (.agg ys) = if eqOk P t = true ∧ xs.toList.length = (fldsO P t |>.getD []).length then (match op, eqCells xs.toList ys.toList with | .eql, some r => some (.bool r) | .neq, some r => some (.bool (!r)) | _, _ => none) else none := rfl.trans rfl
attribute [simp] evL evP plainV sliceA hiA loA evM ldA ldC stA buildA fillA setAll cv_agg cv_int cv_bool cv_slice cv_ptr allPlain fnV resA resL resOne endR cell_at cell_at0 put_at put_at0 rwOk_put cell_put wrL_nil wrL_cons wrO_none wrO_some rw_at rw_at0 get_at get_at0 kill_at kill_at0 cell_c0 cell_cs put_c0 put_cs rw_c0 rw_cs kill_c0 kill_cs Heap.puts wr one_int one_bool one_slice one_ptr eqCells offs11 offs12 offs13 offs14 offs21 offs22 offs23 offs24
attribute [simp] liveL_nil liveL_cons liveO_none liveO_some List.replicate deadB set_at set_at0 set_c0 set_cs live_at live_at0 live_c0 live_cs hot_at hot_at0 hot_c0 hot_cs
end Go.Proofs.YtpoedfmkiiijnaaDoorAm
namespace Go.Proofs.YtpoedfmkiiijnaaDoor
open Go Go.Proofs.YtpoedfmkiiijnaaDoorAm
theorem mix : Tryd.prog.follows .mixedOrders = true := by kernel_rfl
theorem mz_108 : mapZ Tryd.prog 108 = some (.bool false) := by kernel_rfl
end Go.Proofs.YtpoedfmkiiijnaaDoor
