/- Texts of this repo, one behind the other (Ty Lw Arg ArgT ArgR ArgU Si Sy). Plain lemmas and walks. -/
import Derived.Test.YtpoedfmkiiijnaaProg
import Derived.Test.YtpoedfmkiiijnaaGB
import Derived.Test.YtpoedfmkiiijnaaGC
import Derived.Below
import Derived.ChangeOld
namespace Go.Proofs.Ytpoedfmkiiijnaa
open Go Go.Proofs.YtpoedfmkiiijnaaAm
set_option linter.unusedVariables false
theorem sz_2 : szO Try.prog 2 = some 1 := by kernel_rfl
theorem by_2 : byO Try.prog 2 = some 8 := by kernel_rfl
theorem agg_2 : aggO Try.prog 2 = some false := by kernel_rfl
theorem zero_2 : zeroO Try.prog 2 = some (.int .i64 0) := by kernel_rfl
theorem int_2 : intO Try.prog 2 = some .i64 := by kernel_rfl
theorem un_2 : Try.prog.underlying 2 = some (.int .i64) := by kernel_rfl
attribute [simp] sz_2 by_2 agg_2 zero_2 int_2 un_2
theorem sz_3 : szO Try.prog 3 = some 1 := by kernel_rfl
theorem by_3 : byO Try.prog 3 = some 8 := by kernel_rfl
theorem agg_3 : aggO Try.prog 3 = some false := by kernel_rfl
theorem zero_3 : zeroO Try.prog 3 = some (.int .i64 0) := by kernel_rfl
theorem int_3 : intO Try.prog 3 = some .i64 := by kernel_rfl
theorem un_3 : Try.prog.underlying 3 = some (.int .i64) := by kernel_rfl
attribute [simp] sz_3 by_3 agg_3 zero_3 int_3 un_3
theorem sz_4 : szO Try.prog 4 = some 1 := by kernel_rfl
theorem by_4 : byO Try.prog 4 = some 1 := by kernel_rfl
theorem agg_4 : aggO Try.prog 4 = some false := by kernel_rfl
theorem zero_4 : zeroO Try.prog 4 = some (.bool false) := by kernel_rfl
theorem un_4 : Try.prog.underlying 4 = some .bool := by kernel_rfl
attribute [simp] sz_4 by_4 agg_4 zero_4 un_4
theorem sz_5 : szO Try.prog 5 = some 1 := by kernel_rfl
theorem by_5 : byO Try.prog 5 = some 1 := by kernel_rfl
theorem agg_5 : aggO Try.prog 5 = some false := by kernel_rfl
theorem zero_5 : zeroO Try.prog 5 = some (.int .u8 0) := by kernel_rfl
theorem int_5 : intO Try.prog 5 = some .u8 := by kernel_rfl
theorem un_5 : Try.prog.underlying 5 = some (.int .u8) := by kernel_rfl
attribute [simp] sz_5 by_5 agg_5 zero_5 int_5 un_5
theorem sz_9 : szO Try.prog 9 = some 1 := by kernel_rfl
theorem by_9 : byO Try.prog 9 = some 16 := by kernel_rfl
theorem agg_9 : aggO Try.prog 9 = some false := by kernel_rfl
theorem zero_9 : zeroO Try.prog 9 = some (.string ByteArray.empty) := by kernel_rfl
theorem un_9 : Try.prog.underlying 9 = some .string := by kernel_rfl
attribute [simp] sz_9 by_9 agg_9 zero_9 un_9
theorem sz_12 : szO Try.prog 12 = some 1 := by kernel_rfl
theorem by_12 : byO Try.prog 12 = some 8 := by kernel_rfl
theorem agg_12 : aggO Try.prog 12 = some false := by kernel_rfl
theorem zero_12 : zeroO Try.prog 12 = some (.int .u64 0) := by kernel_rfl
theorem int_12 : intO Try.prog 12 = some .u64 := by kernel_rfl
theorem un_12 : Try.prog.underlying 12 = some (.int .u64) := by kernel_rfl
attribute [simp] sz_12 by_12 agg_12 zero_12 int_12 un_12
theorem sz_13 : szO Try.prog 13 = some 2 := by kernel_rfl
theorem by_13 : byO Try.prog 13 = some 24 := by kernel_rfl
theorem agg_13 : aggO Try.prog 13 = some true := by kernel_rfl
theorem zero_13 : zeroO Try.prog 13 = some (.agg #[.string ByteArray.empty, .int .u64 0]) := by kernel_rfl
theorem fl_13 : fldsO Try.prog 13 = some [(0, 1), (1, 1)] := by kernel_rfl
attribute [simp] sz_13 by_13 agg_13 zero_13 fl_13
theorem sz_21 : szO Try.prog 21 = some 1 := by kernel_rfl
theorem by_21 : byO Try.prog 21 = some 4 := by kernel_rfl
theorem agg_21 : aggO Try.prog 21 = some false := by kernel_rfl
theorem zero_21 : zeroO Try.prog 21 = some (.int .i32 0) := by kernel_rfl
theorem int_21 : intO Try.prog 21 = some .i32 := by kernel_rfl
theorem un_21 : Try.prog.underlying 21 = some (.int .i32) := by kernel_rfl
attribute [simp] sz_21 by_21 agg_21 zero_21 int_21 un_21
theorem sz_23 : szO Try.prog 23 = some 1 := by kernel_rfl
theorem by_23 : byO Try.prog 23 = some 24 := by kernel_rfl
theorem agg_23 : aggO Try.prog 23 = some false := by kernel_rfl
theorem zero_23 : zeroO Try.prog 23 = some (.slice none 0 0) := by kernel_rfl
theorem el_23 : elemO Try.prog 23 = some 43 := by kernel_rfl
theorem un_23 : Try.prog.underlying 23 = some (.slice 43) := by kernel_rfl
attribute [simp] sz_23 by_23 agg_23 zero_23 el_23 un_23
theorem sz_24 : szO Try.prog 24 = some 3 := by kernel_rfl
theorem by_24 : byO Try.prog 24 = some 40 := by kernel_rfl
theorem agg_24 : aggO Try.prog 24 = some true := by kernel_rfl
theorem zero_24 : zeroO Try.prog 24 = some (.agg #[.bool false, .int .i64 0, .slice none 0 0]) := by kernel_rfl
theorem fl_24 : fldsO Try.prog 24 = some [(0, 1), (1, 1), (2, 1)] := by kernel_rfl
attribute [simp] sz_24 by_24 agg_24 zero_24 fl_24
theorem sz_25 : szO Try.prog 25 = some 3 := by kernel_rfl
theorem by_25 : byO Try.prog 25 = some 40 := by kernel_rfl
theorem agg_25 : aggO Try.prog 25 = some true := by kernel_rfl
theorem zero_25 : zeroO Try.prog 25 = some (.agg #[.bool false, .int .i64 0, .slice none 0 0]) := by kernel_rfl
theorem fl_25 : fldsO Try.prog 25 = some [(0, 1), (1, 1), (2, 1)] := by kernel_rfl
attribute [simp] sz_25 by_25 agg_25 zero_25 fl_25
theorem sz_30 : szO Try.prog 30 = some 1 := by kernel_rfl
theorem by_30 : byO Try.prog 30 = some 24 := by kernel_rfl
theorem agg_30 : aggO Try.prog 30 = some false := by kernel_rfl
theorem zero_30 : zeroO Try.prog 30 = some (.slice none 0 0) := by kernel_rfl
theorem el_30 : elemO Try.prog 30 = some 5 := by kernel_rfl
theorem un_30 : Try.prog.underlying 30 = some (.slice 5) := by kernel_rfl
attribute [simp] sz_30 by_30 agg_30 zero_30 el_30 un_30
theorem sz_31 : szO Try.prog 31 = some 1 := by kernel_rfl
theorem by_31 : byO Try.prog 31 = some 24 := by kernel_rfl
theorem agg_31 : aggO Try.prog 31 = some false := by kernel_rfl
theorem zero_31 : zeroO Try.prog 31 = some (.slice none 0 0) := by kernel_rfl
theorem el_31 : elemO Try.prog 31 = some 49 := by kernel_rfl
theorem un_31 : Try.prog.underlying 31 = some (.slice 49) := by kernel_rfl
attribute [simp] sz_31 by_31 agg_31 zero_31 el_31 un_31
theorem sz_34 : szO Try.prog 34 = some 1 := by kernel_rfl
theorem by_34 : byO Try.prog 34 = some 24 := by kernel_rfl
theorem agg_34 : aggO Try.prog 34 = some false := by kernel_rfl
theorem zero_34 : zeroO Try.prog 34 = some (.slice none 0 0) := by kernel_rfl
theorem el_34 : elemO Try.prog 34 = some 39 := by kernel_rfl
theorem un_34 : Try.prog.underlying 34 = some (.slice 39) := by kernel_rfl
attribute [simp] sz_34 by_34 agg_34 zero_34 el_34 un_34
theorem sz_38 : szO Try.prog 38 = some 4 := by kernel_rfl
theorem by_38 : byO Try.prog 38 = some 48 := by kernel_rfl
theorem agg_38 : aggO Try.prog 38 = some true := by kernel_rfl
theorem zero_38 : zeroO Try.prog 38 = some (.agg #[.int .i64 0, .bool false, .int .i64 0, .slice none 0 0]) := by kernel_rfl
theorem fl_38 : fldsO Try.prog 38 = some [(0, 1), (1, 3)] := by kernel_rfl
attribute [simp] sz_38 by_38 agg_38 zero_38 fl_38
theorem sz_39 : szO Try.prog 39 = some 4 := by kernel_rfl
theorem by_39 : byO Try.prog 39 = some 48 := by kernel_rfl
theorem agg_39 : aggO Try.prog 39 = some true := by kernel_rfl
theorem zero_39 : zeroO Try.prog 39 = some (.agg #[.int .i64 0, .bool false, .int .i64 0, .slice none 0 0]) := by kernel_rfl
theorem fl_39 : fldsO Try.prog 39 = some [(0, 1), (1, 3)] := by kernel_rfl
attribute [simp] sz_39 by_39 agg_39 zero_39 fl_39
theorem sz_40 : szO Try.prog 40 = some 1 := by kernel_rfl
theorem by_40 : byO Try.prog 40 = some 24 := by kernel_rfl
theorem agg_40 : aggO Try.prog 40 = some false := by kernel_rfl
theorem zero_40 : zeroO Try.prog 40 = some (.slice none 0 0) := by kernel_rfl
theorem el_40 : elemO Try.prog 40 = some 3 := by kernel_rfl
theorem un_40 : Try.prog.underlying 40 = some (.slice 3) := by kernel_rfl
attribute [simp] sz_40 by_40 agg_40 zero_40 el_40 un_40
theorem sz_41 : szO Try.prog 41 = some 1 := by kernel_rfl
theorem by_41 : byO Try.prog 41 = some 24 := by kernel_rfl
theorem agg_41 : aggO Try.prog 41 = some false := by kernel_rfl
theorem zero_41 : zeroO Try.prog 41 = some (.slice none 0 0) := by kernel_rfl
theorem el_41 : elemO Try.prog 41 = some 45 := by kernel_rfl
theorem un_41 : Try.prog.underlying 41 = some (.slice 45) := by kernel_rfl
attribute [simp] sz_41 by_41 agg_41 zero_41 el_41 un_41
theorem sz_42 : szO Try.prog 42 = some 4 := by kernel_rfl
theorem by_42 : byO Try.prog 42 = some 64 := by kernel_rfl
theorem agg_42 : aggO Try.prog 42 = some true := by kernel_rfl
theorem zero_42 : zeroO Try.prog 42 = some (.agg #[.int .i64 0, .slice none 0 0, .slice none 0 0, .int .i64 0]) := by kernel_rfl
theorem fl_42 : fldsO Try.prog 42 = some [(0, 1), (1, 1), (2, 1), (3, 1)] := by kernel_rfl
attribute [simp] sz_42 by_42 agg_42 zero_42 fl_42
theorem sz_43 : szO Try.prog 43 = some 4 := by kernel_rfl
theorem by_43 : byO Try.prog 43 = some 64 := by kernel_rfl
theorem agg_43 : aggO Try.prog 43 = some true := by kernel_rfl
theorem zero_43 : zeroO Try.prog 43 = some (.agg #[.int .i64 0, .slice none 0 0, .slice none 0 0, .int .i64 0]) := by kernel_rfl
theorem fl_43 : fldsO Try.prog 43 = some [(0, 1), (1, 1), (2, 1), (3, 1)] := by kernel_rfl
attribute [simp] sz_43 by_43 agg_43 zero_43 fl_43
theorem sz_44 : szO Try.prog 44 = some 2 := by kernel_rfl
theorem by_44 : byO Try.prog 44 = some 16 := by kernel_rfl
theorem agg_44 : aggO Try.prog 44 = some true := by kernel_rfl
theorem zero_44 : zeroO Try.prog 44 = some (.agg #[.int .i64 0, .int .i64 0]) := by kernel_rfl
theorem fl_44 : fldsO Try.prog 44 = some [(0, 1), (1, 1)] := by kernel_rfl
theorem eq_44 : eqOk Try.prog 44 = true := by kernel_rfl
attribute [simp] sz_44 by_44 agg_44 zero_44 fl_44 eq_44
theorem sz_45 : szO Try.prog 45 = some 2 := by kernel_rfl
theorem by_45 : byO Try.prog 45 = some 16 := by kernel_rfl
theorem agg_45 : aggO Try.prog 45 = some true := by kernel_rfl
theorem zero_45 : zeroO Try.prog 45 = some (.agg #[.int .i64 0, .int .i64 0]) := by kernel_rfl
theorem fl_45 : fldsO Try.prog 45 = some [(0, 1), (1, 1)] := by kernel_rfl
theorem eq_45 : eqOk Try.prog 45 = true := by kernel_rfl
attribute [simp] sz_45 by_45 agg_45 zero_45 fl_45 eq_45
theorem sz_48 : szO Try.prog 48 = some 3 := by kernel_rfl
theorem by_48 : byO Try.prog 48 = some 24 := by kernel_rfl
theorem agg_48 : aggO Try.prog 48 = some true := by kernel_rfl
theorem zero_48 : zeroO Try.prog 48 = some (.agg #[.int .i64 0, .int .i64 0, .int .i64 0]) := by kernel_rfl
theorem fl_48 : fldsO Try.prog 48 = some [(0, 1), (1, 1), (2, 1)] := by kernel_rfl
theorem eq_48 : eqOk Try.prog 48 = true := by kernel_rfl
attribute [simp] sz_48 by_48 agg_48 zero_48 fl_48 eq_48
theorem sz_49 : szO Try.prog 49 = some 3 := by kernel_rfl
theorem by_49 : byO Try.prog 49 = some 24 := by kernel_rfl
theorem agg_49 : aggO Try.prog 49 = some true := by kernel_rfl
theorem zero_49 : zeroO Try.prog 49 = some (.agg #[.int .i64 0, .int .i64 0, .int .i64 0]) := by kernel_rfl
theorem fl_49 : fldsO Try.prog 49 = some [(0, 1), (1, 1), (2, 1)] := by kernel_rfl
theorem eq_49 : eqOk Try.prog 49 = true := by kernel_rfl
attribute [simp] sz_49 by_49 agg_49 zero_49 fl_49 eq_49
theorem sz_51 : szO Try.prog 51 = some 1 := by kernel_rfl
theorem by_51 : byO Try.prog 51 = some 24 := by kernel_rfl
theorem agg_51 : aggO Try.prog 51 = some false := by kernel_rfl
theorem zero_51 : zeroO Try.prog 51 = some (.slice none 0 0) := by kernel_rfl
theorem el_51 : elemO Try.prog 51 = some 159 := by kernel_rfl
theorem un_51 : Try.prog.underlying 51 = some (.slice 159) := by kernel_rfl
attribute [simp] sz_51 by_51 agg_51 zero_51 el_51 un_51
theorem sz_52 : szO Try.prog 52 = some 3 := by kernel_rfl
theorem by_52 : byO Try.prog 52 = some 40 := by kernel_rfl
theorem agg_52 : aggO Try.prog 52 = some true := by kernel_rfl
theorem zero_52 : zeroO Try.prog 52 = some (.agg #[.bool false, .int .i64 0, .slice none 0 0]) := by kernel_rfl
theorem fl_52 : fldsO Try.prog 52 = some [(0, 1), (1, 1), (2, 1)] := by kernel_rfl
attribute [simp] sz_52 by_52 agg_52 zero_52 fl_52
theorem sz_53 : szO Try.prog 53 = some 3 := by kernel_rfl
theorem by_53 : byO Try.prog 53 = some 40 := by kernel_rfl
theorem agg_53 : aggO Try.prog 53 = some true := by kernel_rfl
theorem zero_53 : zeroO Try.prog 53 = some (.agg #[.bool false, .int .i64 0, .slice none 0 0]) := by kernel_rfl
theorem fl_53 : fldsO Try.prog 53 = some [(0, 1), (1, 1), (2, 1)] := by kernel_rfl
attribute [simp] sz_53 by_53 agg_53 zero_53 fl_53
theorem sz_58 : szO Try.prog 58 = some 3 := by kernel_rfl
theorem by_58 : byO Try.prog 58 = some 24 := by kernel_rfl
theorem agg_58 : aggO Try.prog 58 = some true := by kernel_rfl
theorem zero_58 : zeroO Try.prog 58 = some (.agg #[.int .i64 0, .int .i64 0, .int .i64 0]) := by kernel_rfl
theorem fl_58 : fldsO Try.prog 58 = some [(0, 1), (1, 1), (2, 1)] := by kernel_rfl
theorem eq_58 : eqOk Try.prog 58 = true := by kernel_rfl
attribute [simp] sz_58 by_58 agg_58 zero_58 fl_58 eq_58
theorem sz_62 : szO Try.prog 62 = some 1 := by kernel_rfl
theorem by_62 : byO Try.prog 62 = some 24 := by kernel_rfl
theorem agg_62 : aggO Try.prog 62 = some false := by kernel_rfl
theorem zero_62 : zeroO Try.prog 62 = some (.slice none 0 0) := by kernel_rfl
theorem el_62 : elemO Try.prog 62 = some 72 := by kernel_rfl
theorem un_62 : Try.prog.underlying 62 = some (.slice 72) := by kernel_rfl
attribute [simp] sz_62 by_62 agg_62 zero_62 el_62 un_62
theorem sz_63 : szO Try.prog 63 = some 5 := by kernel_rfl
theorem by_63 : byO Try.prog 63 = some 72 := by kernel_rfl
theorem agg_63 : aggO Try.prog 63 = some true := by kernel_rfl
theorem zero_63 : zeroO Try.prog 63 = some (.agg #[.bool false, .bool false, .int .i64 0, .slice none 0 0, .slice none 0 0]) := by kernel_rfl
theorem fl_63 : fldsO Try.prog 63 = some [(0, 1), (1, 3), (4, 1)] := by kernel_rfl
attribute [simp] sz_63 by_63 agg_63 zero_63 fl_63
theorem sz_64 : szO Try.prog 64 = some 5 := by kernel_rfl
theorem by_64 : byO Try.prog 64 = some 72 := by kernel_rfl
theorem agg_64 : aggO Try.prog 64 = some true := by kernel_rfl
theorem zero_64 : zeroO Try.prog 64 = some (.agg #[.bool false, .bool false, .int .i64 0, .slice none 0 0, .slice none 0 0]) := by kernel_rfl
theorem fl_64 : fldsO Try.prog 64 = some [(0, 1), (1, 3), (4, 1)] := by kernel_rfl
attribute [simp] sz_64 by_64 agg_64 zero_64 fl_64
theorem sz_66 : szO Try.prog 66 = some 6 := by kernel_rfl
theorem by_66 : byO Try.prog 66 = some 80 := by kernel_rfl
theorem agg_66 : aggO Try.prog 66 = some true := by kernel_rfl
theorem zero_66 : zeroO Try.prog 66 = some (.agg #[.int .i64 0, .bool false, .bool false, .int .i64 0, .slice none 0 0, .slice none 0 0]) := by kernel_rfl
theorem fl_66 : fldsO Try.prog 66 = some [(0, 1), (1, 5)] := by kernel_rfl
attribute [simp] sz_66 by_66 agg_66 zero_66 fl_66
theorem sz_67 : szO Try.prog 67 = some 6 := by kernel_rfl
theorem by_67 : byO Try.prog 67 = some 80 := by kernel_rfl
theorem agg_67 : aggO Try.prog 67 = some true := by kernel_rfl
theorem zero_67 : zeroO Try.prog 67 = some (.agg #[.int .i64 0, .bool false, .bool false, .int .i64 0, .slice none 0 0, .slice none 0 0]) := by kernel_rfl
theorem fl_67 : fldsO Try.prog 67 = some [(0, 1), (1, 5)] := by kernel_rfl
attribute [simp] sz_67 by_67 agg_67 zero_67 fl_67
theorem sz_69 : szO Try.prog 69 = some 6 := by kernel_rfl
theorem by_69 : byO Try.prog 69 = some 48 := by kernel_rfl
theorem agg_69 : aggO Try.prog 69 = some true := by kernel_rfl
theorem zero_69 : zeroO Try.prog 69 = some (.agg #[.int .i64 0, .int .i64 0, .int .i64 0, .int .i64 0, .int .i64 0, .int .i64 0]) := by kernel_rfl
theorem fl_69 : fldsO Try.prog 69 = some [(0, 1), (1, 3), (4, 1), (5, 1)] := by kernel_rfl
attribute [simp] sz_69 by_69 agg_69 zero_69 fl_69
theorem sz_70 : szO Try.prog 70 = some 6 := by kernel_rfl
theorem by_70 : byO Try.prog 70 = some 48 := by kernel_rfl
theorem agg_70 : aggO Try.prog 70 = some true := by kernel_rfl
theorem zero_70 : zeroO Try.prog 70 = some (.agg #[.int .i64 0, .int .i64 0, .int .i64 0, .int .i64 0, .int .i64 0, .int .i64 0]) := by kernel_rfl
theorem fl_70 : fldsO Try.prog 70 = some [(0, 1), (1, 3), (4, 1), (5, 1)] := by kernel_rfl
attribute [simp] sz_70 by_70 agg_70 zero_70 fl_70
theorem sz_71 : szO Try.prog 71 = some 4 := by kernel_rfl
theorem by_71 : byO Try.prog 71 = some 32 := by kernel_rfl
theorem agg_71 : aggO Try.prog 71 = some true := by kernel_rfl
theorem zero_71 : zeroO Try.prog 71 = some (.agg #[.int .i64 0, .int .i64 0, .int .i64 0, .int .i64 0]) := by kernel_rfl
theorem fl_71 : fldsO Try.prog 71 = some [(0, 1), (1, 1), (2, 1), (3, 1)] := by kernel_rfl
theorem eq_71 : eqOk Try.prog 71 = true := by kernel_rfl
attribute [simp] sz_71 by_71 agg_71 zero_71 fl_71 eq_71
theorem sz_72 : szO Try.prog 72 = some 4 := by kernel_rfl
theorem by_72 : byO Try.prog 72 = some 32 := by kernel_rfl
theorem agg_72 : aggO Try.prog 72 = some true := by kernel_rfl
theorem zero_72 : zeroO Try.prog 72 = some (.agg #[.int .i64 0, .int .i64 0, .int .i64 0, .int .i64 0]) := by kernel_rfl
theorem fl_72 : fldsO Try.prog 72 = some [(0, 1), (1, 1), (2, 1), (3, 1)] := by kernel_rfl
theorem eq_72 : eqOk Try.prog 72 = true := by kernel_rfl
attribute [simp] sz_72 by_72 agg_72 zero_72 fl_72 eq_72
theorem sz_73 : szO Try.prog 73 = some 1 := by kernel_rfl
theorem by_73 : byO Try.prog 73 = some 24 := by kernel_rfl
theorem agg_73 : aggO Try.prog 73 = some false := by kernel_rfl
theorem zero_73 : zeroO Try.prog 73 = some (.slice none 0 0) := by kernel_rfl
theorem el_73 : elemO Try.prog 73 = some 70 := by kernel_rfl
theorem un_73 : Try.prog.underlying 73 = some (.slice 70) := by kernel_rfl
attribute [simp] sz_73 by_73 agg_73 zero_73 el_73 un_73
theorem sz_81 : szO Try.prog 81 = some 1 := by kernel_rfl
theorem by_81 : byO Try.prog 81 = some 24 := by kernel_rfl
theorem agg_81 : aggO Try.prog 81 = some false := by kernel_rfl
theorem zero_81 : zeroO Try.prog 81 = some (.slice none 0 0) := by kernel_rfl
theorem el_81 : elemO Try.prog 81 = some 165 := by kernel_rfl
theorem un_81 : Try.prog.underlying 81 = some (.slice 165) := by kernel_rfl
attribute [simp] sz_81 by_81 agg_81 zero_81 el_81 un_81
theorem sz_82 : szO Try.prog 82 = some 5 := by kernel_rfl
theorem by_82 : byO Try.prog 82 = some 72 := by kernel_rfl
theorem agg_82 : aggO Try.prog 82 = some true := by kernel_rfl
theorem zero_82 : zeroO Try.prog 82 = some (.agg #[.bool false, .bool false, .int .i64 0, .slice none 0 0, .slice none 0 0]) := by kernel_rfl
theorem fl_82 : fldsO Try.prog 82 = some [(0, 1), (1, 3), (4, 1)] := by kernel_rfl
attribute [simp] sz_82 by_82 agg_82 zero_82 fl_82
theorem sz_83 : szO Try.prog 83 = some 5 := by kernel_rfl
theorem by_83 : byO Try.prog 83 = some 72 := by kernel_rfl
theorem agg_83 : aggO Try.prog 83 = some true := by kernel_rfl
theorem zero_83 : zeroO Try.prog 83 = some (.agg #[.bool false, .bool false, .int .i64 0, .slice none 0 0, .slice none 0 0]) := by kernel_rfl
theorem fl_83 : fldsO Try.prog 83 = some [(0, 1), (1, 3), (4, 1)] := by kernel_rfl
attribute [simp] sz_83 by_83 agg_83 zero_83 fl_83
theorem sz_90 : szO Try.prog 90 = some 1 := by kernel_rfl
theorem by_90 : byO Try.prog 90 = some 24 := by kernel_rfl
theorem agg_90 : aggO Try.prog 90 = some false := by kernel_rfl
theorem zero_90 : zeroO Try.prog 90 = some (.slice none 0 0) := by kernel_rfl
theorem el_90 : elemO Try.prog 90 = some 58 := by kernel_rfl
theorem un_90 : Try.prog.underlying 90 = some (.slice 58) := by kernel_rfl
attribute [simp] sz_90 by_90 agg_90 zero_90 el_90 un_90
theorem sz_97 : szO Try.prog 97 = some 6 := by kernel_rfl
theorem by_97 : byO Try.prog 97 = some 48 := by kernel_rfl
theorem agg_97 : aggO Try.prog 97 = some true := by kernel_rfl
theorem zero_97 : zeroO Try.prog 97 = some (.agg #[.int .i64 0, .int .i64 0, .int .i64 0, .int .i64 0, .int .i64 0, .int .i64 0]) := by kernel_rfl
theorem fl_97 : fldsO Try.prog 97 = some [(0, 1), (1, 3), (4, 1), (5, 1)] := by kernel_rfl
attribute [simp] sz_97 by_97 agg_97 zero_97 fl_97
theorem sz_98 : szO Try.prog 98 = some 6 := by kernel_rfl
theorem by_98 : byO Try.prog 98 = some 48 := by kernel_rfl
theorem agg_98 : aggO Try.prog 98 = some true := by kernel_rfl
theorem zero_98 : zeroO Try.prog 98 = some (.agg #[.int .i64 0, .int .i64 0, .int .i64 0, .int .i64 0, .int .i64 0, .int .i64 0]) := by kernel_rfl
theorem fl_98 : fldsO Try.prog 98 = some [(0, 1), (1, 3), (4, 1), (5, 1)] := by kernel_rfl
attribute [simp] sz_98 by_98 agg_98 zero_98 fl_98
theorem sz_103 : szO Try.prog 103 = some 1 := by kernel_rfl
theorem by_103 : byO Try.prog 103 = some 24 := by kernel_rfl
theorem agg_103 : aggO Try.prog 103 = some false := by kernel_rfl
theorem zero_103 : zeroO Try.prog 103 = some (.slice none 0 0) := by kernel_rfl
theorem el_103 : elemO Try.prog 103 = some 98 := by kernel_rfl
theorem un_103 : Try.prog.underlying 103 = some (.slice 98) := by kernel_rfl
attribute [simp] sz_103 by_103 agg_103 zero_103 el_103 un_103
theorem sz_105 : szO Try.prog 105 = some 1 := by kernel_rfl
theorem by_105 : byO Try.prog 105 = some 24 := by kernel_rfl
theorem agg_105 : aggO Try.prog 105 = some false := by kernel_rfl
theorem zero_105 : zeroO Try.prog 105 = some (.slice none 0 0) := by kernel_rfl
theorem el_105 : elemO Try.prog 105 = some 67 := by kernel_rfl
theorem un_105 : Try.prog.underlying 105 = some (.slice 67) := by kernel_rfl
attribute [simp] sz_105 by_105 agg_105 zero_105 el_105 un_105
theorem sz_116 : szO Try.prog 116 = some 1 := by kernel_rfl
theorem by_116 : byO Try.prog 116 = some 8 := by kernel_rfl
theorem agg_116 : aggO Try.prog 116 = some false := by kernel_rfl
theorem zero_116 : zeroO Try.prog 116 = some (.pointer none) := by kernel_rfl
attribute [simp] sz_116 by_116 agg_116 zero_116
theorem sz_117 : szO Try.prog 117 = some 1 := by kernel_rfl
theorem by_117 : byO Try.prog 117 = some 8 := by kernel_rfl
theorem agg_117 : aggO Try.prog 117 = some false := by kernel_rfl
theorem zero_117 : zeroO Try.prog 117 = some (.int .u64 0) := by kernel_rfl
theorem int_117 : intO Try.prog 117 = some .u64 := by kernel_rfl
theorem un_117 : Try.prog.underlying 117 = some (.int .u64) := by kernel_rfl
attribute [simp] sz_117 by_117 agg_117 zero_117 int_117 un_117
theorem sz_118 : szO Try.prog 118 = some 3 := by kernel_rfl
theorem by_118 : byO Try.prog 118 = some 40 := by kernel_rfl
theorem agg_118 : aggO Try.prog 118 = some true := by kernel_rfl
theorem zero_118 : zeroO Try.prog 118 = some (.agg #[.slice none 0 0, .int .i64 0, .int .u64 0]) := by kernel_rfl
theorem fl_118 : fldsO Try.prog 118 = some [(0, 1), (1, 1), (2, 1)] := by kernel_rfl
attribute [simp] sz_118 by_118 agg_118 zero_118 fl_118
theorem sz_119 : szO Try.prog 119 = some 3 := by kernel_rfl
theorem by_119 : byO Try.prog 119 = some 40 := by kernel_rfl
theorem agg_119 : aggO Try.prog 119 = some true := by kernel_rfl
theorem zero_119 : zeroO Try.prog 119 = some (.agg #[.slice none 0 0, .int .i64 0, .int .u64 0]) := by kernel_rfl
theorem fl_119 : fldsO Try.prog 119 = some [(0, 1), (1, 1), (2, 1)] := by kernel_rfl
attribute [simp] sz_119 by_119 agg_119 zero_119 fl_119
theorem sz_125 : szO Try.prog 125 = some 1 := by kernel_rfl
theorem by_125 : byO Try.prog 125 = some 8 := by kernel_rfl
theorem agg_125 : aggO Try.prog 125 = some false := by kernel_rfl
attribute [simp] sz_125 by_125 agg_125
theorem sz_129 : szO Try.prog 129 = some 1 := by kernel_rfl
theorem by_129 : byO Try.prog 129 = some 24 := by kernel_rfl
theorem agg_129 : aggO Try.prog 129 = some false := by kernel_rfl
theorem zero_129 : zeroO Try.prog 129 = some (.slice none 0 0) := by kernel_rfl
theorem el_129 : elemO Try.prog 129 = some 4 := by kernel_rfl
theorem un_129 : Try.prog.underlying 129 = some (.slice 4) := by kernel_rfl
attribute [simp] sz_129 by_129 agg_129 zero_129 el_129 un_129
theorem sz_135 : szO Try.prog 135 = some 1 := by kernel_rfl
theorem by_135 : byO Try.prog 135 = some 8 := by kernel_rfl
theorem agg_135 : aggO Try.prog 135 = some false := by kernel_rfl
theorem zero_135 : zeroO Try.prog 135 = some (.pointer none) := by kernel_rfl
attribute [simp] sz_135 by_135 agg_135 zero_135
theorem sz_146 : szO Try.prog 146 = some 1 := by kernel_rfl
theorem by_146 : byO Try.prog 146 = some 8 := by kernel_rfl
theorem agg_146 : aggO Try.prog 146 = some false := by kernel_rfl
theorem zero_146 : zeroO Try.prog 146 = some (.pointer none) := by kernel_rfl
attribute [simp] sz_146 by_146 agg_146 zero_146
theorem sz_157 : szO Try.prog 157 = some 1 := by kernel_rfl
theorem by_157 : byO Try.prog 157 = some 24 := by kernel_rfl
theorem agg_157 : aggO Try.prog 157 = some false := by kernel_rfl
theorem zero_157 : zeroO Try.prog 157 = some (.slice none 0 0) := by kernel_rfl
theorem el_157 : elemO Try.prog 157 = some 174 := by kernel_rfl
theorem un_157 : Try.prog.underlying 157 = some (.slice 174) := by kernel_rfl
attribute [simp] sz_157 by_157 agg_157 zero_157 el_157 un_157
theorem sz_158 : szO Try.prog 158 = some 4 := by kernel_rfl
theorem by_158 : byO Try.prog 158 = some 64 := by kernel_rfl
theorem agg_158 : aggO Try.prog 158 = some true := by kernel_rfl
theorem zero_158 : zeroO Try.prog 158 = some (.agg #[.int .i64 0, .slice none 0 0, .slice none 0 0, .int .i64 0]) := by kernel_rfl
theorem fl_158 : fldsO Try.prog 158 = some [(0, 1), (1, 1), (2, 1), (3, 1)] := by kernel_rfl
attribute [simp] sz_158 by_158 agg_158 zero_158 fl_158
theorem sz_159 : szO Try.prog 159 = some 4 := by kernel_rfl
theorem by_159 : byO Try.prog 159 = some 64 := by kernel_rfl
theorem agg_159 : aggO Try.prog 159 = some true := by kernel_rfl
theorem zero_159 : zeroO Try.prog 159 = some (.agg #[.int .i64 0, .slice none 0 0, .slice none 0 0, .int .i64 0]) := by kernel_rfl
theorem fl_159 : fldsO Try.prog 159 = some [(0, 1), (1, 1), (2, 1), (3, 1)] := by kernel_rfl
attribute [simp] sz_159 by_159 agg_159 zero_159 fl_159
theorem sz_165 : szO Try.prog 165 = some 4 := by kernel_rfl
theorem by_165 : byO Try.prog 165 = some 32 := by kernel_rfl
theorem agg_165 : aggO Try.prog 165 = some true := by kernel_rfl
theorem zero_165 : zeroO Try.prog 165 = some (.agg #[.int .i64 0, .int .i64 0, .int .i64 0, .int .i64 0]) := by kernel_rfl
theorem fl_165 : fldsO Try.prog 165 = some [(0, 1), (1, 1), (2, 1), (3, 1)] := by kernel_rfl
theorem eq_165 : eqOk Try.prog 165 = true := by kernel_rfl
attribute [simp] sz_165 by_165 agg_165 zero_165 fl_165 eq_165
theorem sz_171 : szO Try.prog 171 = some 1 := by kernel_rfl
theorem by_171 : byO Try.prog 171 = some 8 := by kernel_rfl
theorem agg_171 : aggO Try.prog 171 = some false := by kernel_rfl
theorem zero_171 : zeroO Try.prog 171 = some (.int .u64 0) := by kernel_rfl
theorem int_171 : intO Try.prog 171 = some .u64 := by kernel_rfl
theorem un_171 : Try.prog.underlying 171 = some (.int .u64) := by kernel_rfl
attribute [simp] sz_171 by_171 agg_171 zero_171 int_171 un_171
theorem sz_174 : szO Try.prog 174 = some 2 := by kernel_rfl
theorem by_174 : byO Try.prog 174 = some 16 := by kernel_rfl
theorem agg_174 : aggO Try.prog 174 = some true := by kernel_rfl
theorem zero_174 : zeroO Try.prog 174 = some (.agg #[.int .i64 0, .int .i64 0]) := by kernel_rfl
theorem fl_174 : fldsO Try.prog 174 = some [(0, 1), (1, 1)] := by kernel_rfl
theorem eq_174 : eqOk Try.prog 174 = true := by kernel_rfl
attribute [simp] sz_174 by_174 agg_174 zero_174 fl_174 eq_174
theorem sz_181 : szO Try.prog 181 = some 1 := by kernel_rfl
theorem by_181 : byO Try.prog 181 = some 4 := by kernel_rfl
theorem agg_181 : aggO Try.prog 181 = some false := by kernel_rfl
theorem zero_181 : zeroO Try.prog 181 = some (.int .u32 0) := by kernel_rfl
theorem int_181 : intO Try.prog 181 = some .u32 := by kernel_rfl
theorem un_181 : Try.prog.underlying 181 = some (.int .u32) := by kernel_rfl
attribute [simp] sz_181 by_181 agg_181 zero_181 int_181 un_181
theorem sz_185 : szO Try.prog 185 = some 1 := by kernel_rfl
theorem by_185 : byO Try.prog 185 = some 8 := by kernel_rfl
theorem agg_185 : aggO Try.prog 185 = some false := by kernel_rfl
theorem zero_185 : zeroO Try.prog 185 = some (.pointer none) := by kernel_rfl
attribute [simp] sz_185 by_185 agg_185 zero_185
end Go.Proofs.Ytpoedfmkiiijnaa
namespace Go.Proofs.YtpoedfmkiiijnaaAm
open Go Go.RowKit
set_option linter.unusedVariables false
theorem AC.law {P : Program} {f : FuncId} {args args' : List Value} {H H' : Heap} {φ : Phi} {W : World} (h : AC P f args H (.bool true) H' []) (hr : HR P W.heap.size φ H W) (ha : VRs φ args args') :
    Calls P f args'.toArray W fun e w' => e = .returned (.bool true) ∧ Below W.heap.size W w' := by
  refine (h.2 W.heap.size φ W args' hr (Nat.le_refl _) ha).mono ?_
  rintro e w' ⟨φ', v', rfl, hv, hi⟩
  cases hv
  exact ⟨rfl, hi.os, hi.tape, hi.output, hi.size, fun k hk => hi.keep k hk fun d hd => by simp at hd⟩
theorem HR.none {P : Program} {W : World} : HR P W.heap.size (fun _ => none) [] W :=
  ⟨fun _ _ h => (by cases h), fun _ _ h => (by cases h), fun _ _ h => (by cases h), fun _ _ _ _ h => (by cases h), fun _ _ _ h => (by cases h), fun _ _ _ h => (by cases h), fun _ _ _ _ h => (by cases h), fun _ _ _ h => (by cases h)⟩
theorem VRs.ints {φ : Phi} : ∀ l : List Int, VRs φ (l.map iv) (l.map iv)
  | [] => .nil _
  | _ :: l => .cons (.int _ _) (VRs.ints l)
end Go.Proofs.YtpoedfmkiiijnaaAm
namespace Go.Proofs.YtpoedfmkiiijnaaAm
open Go Go.RowKit
set_option linter.unusedVariables false
set_option linter.unusedSimpArgs false

/-- It can be read as data of type t. -/
def Rdb {H : Type} (enc : TypeId × Value → H) (P : Program) (W : World) (t : TypeId) (cs : List Value) : Prop := ∃ fuel x, DataW.trod enc P W 0 (fun _ => true) true fuel t cs = some x ∧ (x.1.weights P t).all (· ≤ reachBytes) = true
theorem mapM_mem {α β : Type} {f : α → Option β} : ∀ {l : List α} {r : List β}, l.mapM f = some r → ∀ x, x ∈ l → ∃ y, f x = some y
  | [], r, _, x, hx => by simp at hx
  | a :: l, r, h, x, hx => by
    simp only [List.mapM_cons] at h
    cases ha : f a with
    | none => rw [ha] at h; simp at h
    | some b =>
      rw [ha] at h
      cases hl : l.mapM f with
      | none => rw [hl] at h; simp at h
      | some r' =>
        rcases List.mem_cons.1 hx with rfl | hx
        · exact ⟨b, ha⟩
        · exact mapM_mem hl x hx
theorem mapM_len {α β : Type} {f : α → Option β} : ∀ {l : List α} {r : List β}, l.mapM f = some r → r.length = l.length
  | [], r, h => by simp at h; subst h; rfl
  | a :: l, r, h => by
    simp only [List.mapM_cons] at h
    cases ha : f a with
    | none => rw [ha] at h; simp at h
    | some b =>
      rw [ha] at h
      cases hl : l.mapM f with
      | none => rw [hl] at h; simp at h
      | some r' => rw [hl] at h; simp at h; subst h; simp [mapM_len hl]
theorem mapM_each {H : Type} {P : Program} {p : Nat → Bool} {f : Field → Option (DataW H × List MemPlace)} : ∀ {l : List Field} {r : List (DataW H × List MemPlace)}, l.mapM f = some r → (DataW.weightsEach P (l.map (·.type)) (r.map (·.1))).all p = true →
    ∀ x, x ∈ l → ∃ y, f x = some y ∧ (y.1.weights P x.type).all p = true
  | [], r, _, _, x, hx => by simp at hx
  | a :: l, r, h, hw, x, hx => by
    simp only [List.mapM_cons] at h
    cases ha : f a with
    | none => rw [ha] at h; simp at h
    | some b =>
      rw [ha] at h
      cases hl : l.mapM f with
      | none => rw [hl] at h; simp at h
      | some r' =>
        rw [hl] at h; simp at h; subst h
        simp only [List.map_cons, DataW.weightsEach, List.all_append, Bool.and_eq_true] at hw
        rcases List.mem_cons.1 hx with rfl | hx
        · exact ⟨b, ha, hw.1⟩
        · exact mapM_each hl hw.2 x hx
theorem mapM_all {H : Type} {P : Program} {p : Nat → Bool} {e : TypeId} {f : Nat → Option (DataW H × List MemPlace)} : ∀ {l : List Nat} {r : List (DataW H × List MemPlace)}, l.mapM f = some r → (DataW.weightsAll P e (r.map (·.1))).all p = true →
    ∀ x, x ∈ l → ∃ y, f x = some y ∧ (y.1.weights P e).all p = true
  | [], r, _, _, x, hx => by simp at hx
  | a :: l, r, h, hw, x, hx => by
    simp only [List.mapM_cons] at h
    cases ha : f a with
    | none => rw [ha] at h; simp at h
    | some b =>
      rw [ha] at h
      cases hl : l.mapM f with
      | none => rw [hl] at h; simp at h
      | some r' =>
        rw [hl] at h; simp at h; subst h
        simp only [List.map_cons, DataW.weightsAll, List.all_append, Bool.and_eq_true] at hw
        rcases List.mem_cons.1 hx with rfl | hx
        · exact ⟨b, ha, hw.1⟩
        · exact mapM_all hl hw.2 x hx
section
variable {HH : Type} {enc : TypeId × Value → HH} {P : Program} {W : World}
theorem rd_int {t : TypeId} {k : IntKind} {cs : List Value} (ht : P.underlying t = some (.int k)) (h : Rdb enc P W t cs) : ∃ n, cs = [.int k n] := by
  obtain ⟨fuel, x, h, hw⟩ := h
  cases fuel with
  | zero => simp [DataW.trod] at h
  | succ fuel =>
    unfold DataW.trod at h
    rw [ht] at h
    split at h <;> simp_all
theorem rd_bool {t : TypeId} {cs : List Value} (ht : P.underlying t = some .bool) (h : Rdb enc P W t cs) : ∃ b, cs = [.bool b] := by
  obtain ⟨fuel, x, h, hw⟩ := h
  cases fuel with
  | zero => simp [DataW.trod] at h
  | succ fuel =>
    unfold DataW.trod at h
    rw [ht] at h
    split at h <;> simp_all
theorem rd_struct {t : TypeId} {fs : Array Field} {cs : List Value} (ht : P.underlying t = some (.struct fs)) (h : Rdb enc P W t cs) :
    cs.length = P.cellsOf t ∧ ∀ f, f ∈ fs.toList → Rdb enc P W f.type ((cs.drop f.offset).take (P.cellsOf f.type)) := by
  obtain ⟨fuel, x, h, hw⟩ := h
  cases fuel with
  | zero => simp [DataW.trod] at h
  | succ fuel =>
    unfold DataW.trod at h
    rw [ht] at h
    dsimp only at h
    split at h
    · rename_i h1
      obtain ⟨y, h2, rfl⟩ := Option.map_eq_some_iff.1 h
      simp only [DataW.weights, ht] at hw
      exact ⟨h1, fun f hf => by
        obtain ⟨z, hz, hzw⟩ := mapM_each h2 hw f hf
        exact ⟨fuel, z, hz, hzw⟩⟩
    · cases h
theorem rd_slice {t e : TypeId} {cs : List Value} (ht : P.underlying t = some (.slice e)) (hby : 0 < P.bytesOf e) (h : Rdb enc P W t cs) :
    cs = [nl] ∨ ∃ a len cap, cs = [.slice (some a) len cap] ∧ len ≤ cap ∧ len ≤ reachBytes ∧ ∀ i, i < len → ∃ ces, W.cells? 0 (a.add (i * P.cellsOf e)) (P.cellsOf e) = some ces ∧ Rdb enc P W e ces := by
  obtain ⟨fuel, x, h, hw⟩ := h
  cases fuel with
  | zero => simp [DataW.trod] at h
  | succ fuel =>
    unfold DataW.trod at h
    rw [ht] at h
    split at h
    all_goals try (exfalso; simp_all; done)
    · exact .inl rfl
    · rename_i e' a len cap he
      cases he
      dsimp only at h
      split at h
      · rename_i hh
        obtain ⟨y, h3, h4⟩ := Option.bind_eq_some_iff.1 h
        obtain ⟨rest, _, rfl⟩ := Option.map_eq_some_iff.1 h4
        simp only [DataW.weights, ht, List.all_cons, List.all_append, Bool.and_eq_true, decide_eq_true_eq, List.length_map] at hw
        have hyl := mapM_len h3
        rw [List.length_range] at hyl
        refine .inr ⟨a, len, cap, rfl, hh.2.1, ?_, fun i hi => ?_⟩
        · have h5 := hw.1
          have : len ≤ (y.length + rest.length) * P.bytesOf e := by
            rw [hyl]; exact Nat.le_trans (Nat.le_add_right _ _) (Nat.le_mul_of_pos_right _ hby)
          omega
        · obtain ⟨z, hz, hzw⟩ := mapM_all h3 hw.2.1 i (by simpa using hi)
          obtain ⟨ces, c1, c2⟩ := Option.bind_eq_some_iff.1 hz
          exact ⟨ces, c1, fuel, z, c2, hzw⟩
      · cases h

/-- A heap of inputs: nothing in it may be written. -/
structure HRi (P : Program) (W : World) (φ : Phi) (H : Heap) : Prop where
  hr : HR P W.heap.size φ H W
  ro : ∀ id L, φ id = some L → L.rw = false
  al : ∀ (id : Nat) (b : Blk), H[id]? = some b → b.rw = false ∧ b.live = true
theorem HRi.none (P : Program) (W : World) : HRi P W (fun _ => Option.none) [] :=
  ⟨⟨fun _ _ h => (by cases h), fun _ _ h => (by cases h), fun _ _ h => (by cases h), fun _ _ _ _ h => (by cases h), fun _ _ _ h => (by cases h), fun _ _ _ h => (by cases h), fun _ _ _ _ h => (by cases h), fun _ _ _ h => (by cases h)⟩,
    fun _ _ h => (by cases h), fun _ _ h => by simp at h⟩
theorem HRi.add {φ : Phi} {H : Heap} (h : HRi P W φ H) {b off : Nat} {ty : TypeId} {xs : List Value} (hb : b < W.heap.size) (hv : ∀ (j : Nat) (x : Value), xs[j]? = some x → ∃ y, VR φ x y ∧ W.cell? ⟨b, off + j, Option.none⟩ = some y) :
    HRi P W (φ.set H.length ⟨b, off, 0, false⟩) (H ++ [⟨ty, xs, false, true⟩]) ∧ φ.le (φ.set H.length ⟨b, off, 0, false⟩) := by
  have hnone : φ H.length = Option.none := by
    cases e : φ H.length with
    | none => rfl
    | some L => exact absurd (h.hr.dom _ _ e) (Nat.lt_irrefl _)
  have hle := Phi.le_set (L := ⟨b, off, 0, false⟩) hnone
  have hlast : (H ++ [(⟨ty, xs, false, true⟩ : Blk)])[H.length]? = some ⟨ty, xs, false, true⟩ := by simp
  have hprev : ∀ id, id < H.length → (H ++ [(⟨ty, xs, false, true⟩ : Blk)])[id]? = H[id]? := fun id hi => by rw [List.getElem?_append_left hi]
  have hro : ∀ id L, φ.set H.length ⟨b, off, 0, false⟩ id = some L → L.rw = false := fun id L hL => by
    by_cases e : id = H.length
    · subst e; rw [Phi.set_same] at hL; cases hL; rfl
    · rw [Phi.set_ne _ _ e] at hL; exact h.ro _ _ hL
  have hal : ∀ (id : Nat) (c : Blk), (H ++ [(⟨ty, xs, false, true⟩ : Blk)])[id]? = some c → c.rw = false ∧ c.live = true := fun id c hc => by
    by_cases hi : id < H.length
    · rw [hprev id hi] at hc; exact h.al id c hc
    · have : id = H.length := by have := lt_of_get hc; simp at this; omega
      subst this; rw [hlast] at hc; cases hc; exact ⟨rfl, rfl⟩
  refine ⟨⟨⟨?_, ?_, ?_, ?_, ?_, ?_, ?_, ?_⟩, hro, hal⟩, hle⟩
  · intro id L hL
    by_cases e : id = H.length
    · subst e; simp
    · rw [Phi.set_ne _ _ e] at hL; have := h.hr.dom _ _ hL; simp; omega
  · intro id L hL _
    by_cases e : id = H.length
    · subst e; rw [Phi.set_same] at hL; cases hL; exact hb
    · rw [Phi.set_ne _ _ e] at hL; exact h.hr.ro _ _ hL (h.ro _ _ hL)
  · intro id L hL
    by_cases e : id = H.length
    · subst e; rw [Phi.set_same] at hL; cases hL; exact hb
    · rw [Phi.set_ne _ _ e] at hL; exact h.hr.lt _ _ hL
  · intro id L j x hL hx
    by_cases e : id = H.length
    · subst e
      rw [Phi.set_same] at hL; cases hL
      simp only [Heap.cell, hlast, if_true] at hx
      obtain ⟨y, hy, hc⟩ := hv j x hx
      exact ⟨y, hy.mono hle, hc⟩
    · rw [Phi.set_ne _ _ e] at hL
      have hlt := h.hr.dom _ _ hL
      simp only [Heap.cell, hprev id hlt] at hx
      obtain ⟨y, hy, hc⟩ := h.hr.cell id L j x hL hx
      exact ⟨y, hy.mono hle, hc⟩
  · intro id L c hL hr; rw [hro id L hL] at hr; cases hr
  · intro id L c hL hc hr; rw [(hal id c hc).1] at hr; cases hr
  · intro id id' L L' hL _ hr; rw [hro id L hL] at hr; cases hr
  · intro id L c hL hc hl; rw [(hal id c hc).2] at hl; cases hl

theorem add_add (a : Addr) (m k : Nat) : (a.add m).add k = a.add (m + k) := by
  unfold Addr.add
  by_cases h1 : m = 0
  · subst h1; simp
  · by_cases h2 : k = 0
    · subst h2; simp
    · simp [h1, h2, Nat.add_assoc]
/-- Cells that can be read as type t are laid in an input heap, and read there as x. -/
def Lays (HH : Type) (enc : TypeId × Value → HH) (P : Program) (W : World) {α : Type} (t : TypeId) (R : Heap → List Nat → α → List Value → Prop) : Prop :=
  ∀ φ H cs, Rdb enc P W t cs → HRi P W φ H → ∃ φ' J x xs E, HRi P W φ' (H ++ J) ∧ φ.le φ' ∧ R (H ++ J) E x xs ∧ VRs φ' xs cs
theorem lays_cells {α : Type} {e : TypeId} {R : Heap → List Nat → α → List Value → Prop} (hE : Lays HH enc P W e R) (hR : Frm R) {a : Addr} : ∀ (len : Nat) (φ : Phi) (H : Heap), HRi P W φ H →
    (∀ i, i < len → ∃ ces, W.cells? 0 (a.add (i * P.cellsOf e)) (P.cellsOf e) = some ces ∧ Rdb enc P W e ces) →
    ∃ φ' J xs cells E ds, HRi P W φ' (H ++ J) ∧ φ.le φ' ∧ RCs (P.cellsOf e) R (H ++ J) E xs cells ∧ xs.length = len ∧ VRs φ' cells ds ∧ ∀ (j : Nat) (y : Value), ds[j]? = some y → W.cell? (a.add j) = some y
  | 0, φ, H, h, _ => ⟨φ, [], [], [], [], [], by simpa using h, Phi.le_refl _, ⟨rfl, rfl⟩, rfl, .nil _, fun j y hy => by simp at hy⟩
  | n + 1, φ, H, h, hc => by
    obtain ⟨φ1, J1, xs, cells, E1, ds, i1, l1, r1, n1, v1, w1⟩ := lays_cells hE hR n φ H h fun i hi => hc i (by omega)
    obtain ⟨ces, hces, hrd⟩ := hc n (by omega)
    obtain ⟨φ2, J2, x, ys, E2, i2, l2, r2, v2⟩ := hE φ1 (H ++ J1) ces hrd i1
    obtain ⟨_, hlen, hcell⟩ := World.cells?_some hces
    have hyl : ys.length = P.cellsOf e := by rw [v2.1]; exact hlen
    have hdl : ds.length = n * P.cellsOf e := by rw [← v1.1, r1.len, n1]
    refine ⟨φ2, J1 ++ J2, xs ++ [x], cells ++ ys, E1 ++ E2, ds ++ ces, by rw [← List.append_assoc]; exact i2, Phi.le_trans l1 l2, ?_, by simp [n1], (v1.mono l2).append v2, fun j y hy => ?_⟩
    · rw [← List.append_assoc]
      have := (r1.fr hR (agr_app (H ++ J1) J2 E1)).app (show RCs (P.cellsOf e) R (H ++ J1 ++ J2) E2 [x] ys from ⟨E2, [], ys, [], by simp, by simp, hyl, r2, rfl, rfl⟩)
      exact this
    · by_cases hj : j < ds.length
      · rw [List.getElem?_append_left hj] at hy; exact w1 j y hy
      · rw [List.getElem?_append_right (by omega)] at hy
        have hlt := (List.getElem?_eq_some_iff.1 hy).1
        have := hcell (j - ds.length) (by omega)
        rw [add_add, hy] at this
        rw [← this]
        congr 2; omega
theorem lays_slice {α : Type} {t e : TypeId} {sz : Nat} {R : Heap → List Nat → α → List Value → Prop} (ht : P.underlying t = some (.slice e)) (hsz : P.cellsOf e = sz + 1) (hby : 0 < P.bytesOf e) (hE : Lays HH enc P W e R) (hR : Frm R) :
    Lays HH enc P W t fun H E xs cs => ∃ v, cs = [v] ∧ RS (sz + 1) R H E v xs := by
  intro φ H cs hrd h
  rcases rd_slice ht hby hrd with rfl | ⟨a, len, cap, rfl, h1, h2, h3⟩
  · exact ⟨φ, [], [], [nl], [], by simpa using h, Phi.le_refl _, ⟨nl, rfl, by simp, .inl ⟨.inl rfl, rfl, rfl⟩⟩, .cons .nils (.nil _)⟩
  · by_cases h0 : len = 0
    · subst h0
      exact ⟨φ, [], [], [es], [], by simpa using h, Phi.le_refl _, ⟨es, rfl, by simp, .inl ⟨.inr rfl, rfl, rfl⟩⟩, .cons (.emp _ _) (.nil _)⟩
    · obtain ⟨φ1, J, xs, cells, E, ds, i1, l1, r1, n1, v1, w1⟩ := lays_cells hE hR (a := a) len φ H h h3
      rw [hsz] at r1
      have hlen := r1.len
      have hdl : 0 < ds.length := by rw [← v1.1, hlen, n1]; exact Nat.mul_pos (by omega) (by omega)
      have hc0 := w1 0 ds[0] (by simp [hdl])
      have hsp := World.cell?_spot hc0
      rw [show a.add 0 = a by simp [Addr.add]] at hsp hc0
      obtain ⟨b, off, spot⟩ := a
      simp only at hsp
      subst hsp
      have hb : b < W.heap.size := cell_lt hc0
      obtain ⟨i2, l2⟩ := i1.add (b := b) (off := off) (ty := e) (xs := cells) hb fun j x hx => by
        have hj : j < ds.length := by rw [← v1.1]; exact (List.getElem?_eq_some_iff.1 hx).1
        refine ⟨ds[j], v1.2 j x _ hx (by simp [hj]), ?_⟩
        have := w1 j ds[j] (by simp [hj])
        rwa [add_plain'] at this
      refine ⟨_, J ++ [⟨e, cells, false, true⟩], xs, [sl (H ++ J).length 0 len], (H ++ J).length :: E, by rw [← List.append_assoc]; exact i2, Phi.le_trans l1 l2, ⟨_, rfl, ?_, .inr ⟨(H ++ J).length, 0, E, e, false, [], cells, [], by rw [n1], rfl, ?_, rfl, ?_⟩⟩, .cons ?_ (.nil _)⟩
      · rw [n1]; simp only [reachBytes] at h2; omega
      · rw [← List.append_assoc]; simp
      · rw [← List.append_assoc]; exact r1.fr hR (agr_app _ _ _)
      · have := VR.slc (o := 0) (n := len) (c := cap) (Phi.set_same φ1 (H ++ J).length ⟨b, off, 0, false⟩) h1 (fun hr _ => by cases hr)
        exact this
end
end Go.Proofs.YtpoedfmkiiijnaaAm
namespace Go.Proofs.Ytpoedfmkiiijnaa
open Go Go.RowKit Go.Proofs.YtpoedfmkiiijnaaAm
set_option linter.unusedVariables false
set_option linter.unusedSimpArgs false

def ftO (P : Program) (t : TypeId) : Option (List (TypeId × Nat × Nat)) := match P.underlying t with
  | some (.struct fs) => some (fs.toList.map fun f => (f.type, f.offset, P.cellsOf f.type))
  | _ => none
section
variable {HH : Type} {enc : TypeId × Value → HH} {W : World}
theorem rd_fields {P : Program} {t : TypeId} {l : List (TypeId × Nat × Nat)} {cs : List Value} (ht : ftO P t = some l) (h : Rdb enc P W t cs) : cs.length = P.cellsOf t ∧ ∀ x, x ∈ l → Rdb enc P W x.1 ((cs.drop x.2.1).take x.2.2) := by
  unfold ftO at ht
  split at ht
  · rename_i fs hu
    cases ht
    obtain ⟨h1, h2⟩ := rd_struct hu h
    refine ⟨h1, fun x hx => ?_⟩
    obtain ⟨f, hf, rfl⟩ := List.mem_map.1 hx
    exact h2 f hf
  · cases ht
theorem ft_g : ftO Try.prog 174 = some [(3, 0, 1), (3, 1, 1)] := by kernel_rfl
theorem ft_l : ftO Try.prog 159 = some [(3, 0, 1), (40, 1, 1), (157, 2, 1), (3, 3, 1)] := by kernel_rfl
theorem ft_b : ftO Try.prog 53 = some [(4, 0, 1), (3, 1, 1), (51, 2, 1)] := by kernel_rfl
theorem ft_e : ftO Try.prog 58 = some [(3, 0, 1), (3, 1, 1), (3, 2, 1)] := by kernel_rfl
theorem ft_bd : ftO Try.prog 165 = some [(3, 0, 1), (3, 1, 1), (3, 2, 1), (3, 3, 1)] := by kernel_rfl
theorem ft_w : ftO Try.prog 83 = some [(4, 0, 1), (53, 1, 3), (81, 4, 1)] := by kernel_rfl
theorem ft_a : ftO Try.prog 98 = some [(3, 0, 1), (58, 1, 3), (3, 4, 1), (3, 5, 1)] := by kernel_rfl
theorem co_g : Try.prog.cellsOf 174 = 2 := by kernel_rfl
theorem co_l : Try.prog.cellsOf 159 = 4 := by kernel_rfl
theorem co_b : Try.prog.cellsOf 53 = 3 := by kernel_rfl
theorem co_e : Try.prog.cellsOf 58 = 3 := by kernel_rfl
theorem co_bd : Try.prog.cellsOf 165 = 4 := by kernel_rfl
theorem co_w : Try.prog.cellsOf 83 = 5 := by kernel_rfl
theorem co_a : Try.prog.cellsOf 98 = 6 := by kernel_rfl
theorem co_i : Try.prog.cellsOf 3 = 1 := by kernel_rfl
theorem un3 : Try.prog.underlying 3 = some (.int .i64) := by kernel_rfl
theorem un4 : Try.prog.underlying 4 = some .bool := by kernel_rfl
theorem un40 : Try.prog.underlying 40 = some (.slice 3) := by kernel_rfl
theorem un157 : Try.prog.underlying 157 = some (.slice 174) := by kernel_rfl
theorem un51 : Try.prog.underlying 51 = some (.slice 159) := by kernel_rfl
theorem un81 : Try.prog.underlying 81 = some (.slice 165) := by kernel_rfl
theorem un90 : Try.prog.underlying 90 = some (.slice 58) := by kernel_rfl
theorem un103 : Try.prog.underlying 103 = some (.slice 98) := by kernel_rfl

theorem lays_int : Lays HH enc Try.prog W 3 RInt := fun φ H cs hrd h => by
  obtain ⟨n, rfl⟩ := rd_int un3 hrd
  exact ⟨φ, [], n, _, [], by simpa using h, Phi.le_refl _, ⟨rfl, rfl⟩, .cons (.int _ _) (.nil _)⟩
theorem list2 {l : List Value} (h : l.length = 2) : ∃ a b, l = [a, b] := by
  match l, h with | [a, b], _ => exact ⟨a, b, rfl⟩
theorem list3 {l : List Value} (h : l.length = 3) : ∃ a b c, l = [a, b, c] := by
  match l, h with | [a, b, c], _ => exact ⟨a, b, c, rfl⟩
theorem list4 {l : List Value} (h : l.length = 4) : ∃ a b c d, l = [a, b, c, d] := by
  match l, h with | [a, b, c, d], _ => exact ⟨a, b, c, d, rfl⟩
theorem list5 {l : List Value} (h : l.length = 5) : ∃ a b c d e, l = [a, b, c, d, e] := by
  match l, h with | [a, b, c, d, e], _ => exact ⟨a, b, c, d, e, rfl⟩
theorem list6 {l : List Value} (h : l.length = 6) : ∃ a b c d e f, l = [a, b, c, d, e, f] := by
  match l, h with | [a, b, c, d, e, f], _ => exact ⟨a, b, c, d, e, f, rfl⟩
theorem rd1 {v : Value} (h : Rdb enc Try.prog W 3 [v]) : ∃ n, v = iv n := by
  obtain ⟨n, hn⟩ := rd_int un3 h
  exact ⟨n, by simpa using hn⟩
theorem rdB {v : Value} (h : Rdb enc Try.prog W 4 [v]) : ∃ b, v = .bool b := by
  obtain ⟨n, hn⟩ := rd_bool un4 h
  exact ⟨n, by simpa using hn⟩
theorem lays_gr : Lays HH enc Try.prog W 174 RGr := fun φ H cs hrd h => by
  obtain ⟨hl, hf⟩ := rd_fields ft_g hrd
  obtain ⟨c0, c1, rfl⟩ := list2 (hl.trans co_g)
  obtain ⟨n0, rfl⟩ := rd1 (hf _ (List.mem_cons_self ..))
  obtain ⟨n1, rfl⟩ := rd1 (hf (3, 1, 1) (by simp))
  exact ⟨φ, [], ⟨n0, n1⟩, _, [], by simpa using h, Phi.le_refl _, ⟨rfl, rfl⟩, .cons (.int _ _) (.cons (.int _ _) (.nil _))⟩
theorem lays_ev : Lays HH enc Try.prog W 58 REv := fun φ H cs hrd h => by
  obtain ⟨hl, hf⟩ := rd_fields ft_e hrd
  obtain ⟨c0, c1, c2, rfl⟩ := list3 (hl.trans co_e)
  obtain ⟨n0, rfl⟩ := rd1 (hf (3, 0, 1) (by simp))
  obtain ⟨n1, rfl⟩ := rd1 (hf (3, 1, 1) (by simp))
  obtain ⟨n2, rfl⟩ := rd1 (hf (3, 2, 1) (by simp))
  exact ⟨φ, [], ⟨n0, n1, n2⟩, _, [], by simpa using h, Phi.le_refl _, ⟨rfl, rfl⟩, .cons (.int _ _) (.cons (.int _ _) (.cons (.int _ _) (.nil _)))⟩
theorem lays_bd : Lays HH enc Try.prog W 165 RBd := fun φ H cs hrd h => by
  obtain ⟨hl, hf⟩ := rd_fields ft_bd hrd
  obtain ⟨c0, c1, c2, c3, rfl⟩ := list4 (hl.trans co_bd)
  obtain ⟨n0, rfl⟩ := rd1 (hf (3, 0, 1) (by simp))
  obtain ⟨n1, rfl⟩ := rd1 (hf (3, 1, 1) (by simp))
  obtain ⟨n2, rfl⟩ := rd1 (hf (3, 2, 1) (by simp))
  obtain ⟨n3, rfl⟩ := rd1 (hf (3, 3, 1) (by simp))
  exact ⟨φ, [], ⟨n0, n1, n2, n3⟩, _, [], by simpa using h, Phi.le_refl _, ⟨rfl, rfl⟩, .cons (.int _ _) (.cons (.int _ _) (.cons (.int _ _) (.cons (.int _ _) (.nil _))))⟩
theorem lays_ac : Lays HH enc Try.prog W 98 RAc := fun φ H cs hrd h => by
  obtain ⟨hl, hf⟩ := rd_fields ft_a hrd
  obtain ⟨c0, c1, c2, c3, c4, c5, rfl⟩ := list6 (hl.trans co_a)
  obtain ⟨n0, rfl⟩ := rd1 (hf (3, 0, 1) (by simp))
  obtain ⟨_, hf2⟩ := rd_fields ft_e (hf (58, 1, 3) (by simp))
  obtain ⟨n1, rfl⟩ := rd1 (hf2 (3, 0, 1) (by simp))
  obtain ⟨n2, rfl⟩ := rd1 (hf2 (3, 1, 1) (by simp))
  obtain ⟨n3, rfl⟩ := rd1 (hf2 (3, 2, 1) (by simp))
  obtain ⟨n4, rfl⟩ := rd1 (hf (3, 4, 1) (by simp))
  obtain ⟨n5, rfl⟩ := rd1 (hf (3, 5, 1) (by simp))
  exact ⟨φ, [], ⟨n0, ⟨n1, n2, n3⟩, n4, n5⟩, _, [], by simpa using h, Phi.le_refl _, ⟨rfl, rfl⟩, .cons (.int _ _) (.cons (.int _ _) (.cons (.int _ _) (.cons (.int _ _) (.cons (.int _ _) (.cons (.int _ _) (.nil _))))))⟩
theorem lays_ints : Lays HH enc Try.prog W 40 fun H E xs cs => ∃ v, cs = [v] ∧ RS 1 RInt H E v xs := lays_slice (sz := 0) un40 co_i (of_decide_eq_true (by kernel_rfl)) lays_int (RP.frm _)
theorem lays_grs : Lays HH enc Try.prog W 157 fun H E xs cs => ∃ v, cs = [v] ∧ RS 2 RGr H E v xs := lays_slice (sz := 1) un157 co_g (of_decide_eq_true (by kernel_rfl)) lays_gr (RP.frm _)
theorem lays_evs : Lays HH enc Try.prog W 90 fun H E xs cs => ∃ v, cs = [v] ∧ RS 3 REv H E v xs := lays_slice (sz := 2) un90 co_e (of_decide_eq_true (by kernel_rfl)) lays_ev (RP.frm _)
theorem lays_bds : Lays HH enc Try.prog W 81 fun H E xs cs => ∃ v, cs = [v] ∧ RS 4 RBd H E v xs := lays_slice (sz := 3) un81 co_bd (of_decide_eq_true (by kernel_rfl)) lays_bd (RP.frm _)
theorem lays_acs : Lays HH enc Try.prog W 103 fun H E xs cs => ∃ v, cs = [v] ∧ RS 6 RAc H E v xs := lays_slice (sz := 5) un103 co_a (of_decide_eq_true (by kernel_rfl)) lays_ac (RP.frm _)
theorem lays_ln : Lays HH enc Try.prog W 159 RLn := fun φ H cs hrd h => by
  obtain ⟨hl, hf⟩ := rd_fields ft_l hrd
  obtain ⟨c0, c1, c2, c3, rfl⟩ := list4 (hl.trans co_l)
  obtain ⟨n0, rfl⟩ := rd1 (hf (3, 0, 1) (by simp))
  obtain ⟨n3, rfl⟩ := rd1 (hf (3, 3, 1) (by simp))
  obtain ⟨φ1, J1, way, x1, E1, i1, l1, ⟨v1, rfl, r1⟩, w1⟩ := lays_ints φ H _ (hf (40, 1, 1) (by simp)) h
  obtain ⟨φ2, J2, grs, x2, E2, i2, l2, ⟨v2, rfl, r2⟩, w2⟩ := lays_grs φ1 (H ++ J1) _ (hf (157, 2, 1) (by simp)) i1
  obtain ⟨y1, _, e1, u1, _⟩ := w1.inv
  obtain ⟨y2, _, e2, u2, _⟩ := w2.inv
  simp at e1 e2
  obtain ⟨rfl, _⟩ := e1
  obtain ⟨rfl, _⟩ := e2
  refine ⟨φ2, J1 ++ J2, ⟨n0, way, grs, n3⟩, _, E1 ++ E2, by rw [← List.append_assoc]; exact i2, Phi.le_trans l1 l2, ⟨E1, E2, v1, v2, rfl, rfl, ?_, ?_⟩, .cons (.int _ _) (.cons (u1.mono l2) (.cons u2 (.cons (.int _ _) (.nil _))))⟩
  · rw [← List.append_assoc]; exact r1.ext (RP.frm _)
  · rw [← List.append_assoc]; exact r2
theorem lays_lns : Lays HH enc Try.prog W 51 fun H E xs cs => ∃ v, cs = [v] ∧ RS 4 RLn H E v xs := lays_slice (sz := 3) un51 co_l (of_decide_eq_true (by kernel_rfl)) lays_ln RLn.frm
theorem lays_bk : Lays HH enc Try.prog W 53 RBk := fun φ H cs hrd h => by
  obtain ⟨hl, hf⟩ := rd_fields ft_b hrd
  obtain ⟨c0, c1, c2, rfl⟩ := list3 (hl.trans co_b)
  obtain ⟨b0, rfl⟩ := rdB (hf (4, 0, 1) (by simp))
  obtain ⟨n1, rfl⟩ := rd1 (hf (3, 1, 1) (by simp))
  obtain ⟨φ1, J1, ls, x1, E1, i1, l1, ⟨v1, rfl, r1⟩, w1⟩ := lays_lns φ H _ (hf (51, 2, 1) (by simp)) h
  obtain ⟨y1, _, e1, u1, _⟩ := w1.inv
  simp at e1
  obtain ⟨rfl, _⟩ := e1
  exact ⟨φ1, J1, ⟨b0, n1, ls⟩, _, E1, i1, l1, ⟨v1, rfl, r1⟩, .cons (.bool _) (.cons (.int _ _) (.cons u1 (.nil _)))⟩
theorem lays_wd : Lays HH enc Try.prog W 83 RWd := fun φ H cs hrd h => by
  obtain ⟨hl, hf⟩ := rd_fields ft_w hrd
  obtain ⟨c0, c1, c2, c3, c4, rfl⟩ := list5 (hl.trans co_w)
  obtain ⟨b0, rfl⟩ := rdB (hf (4, 0, 1) (by simp))
  obtain ⟨φ1, J1, bk, x1, E1, i1, l1, r1, w1⟩ := lays_bk φ H _ (hf (53, 1, 3) (by simp)) h
  obtain ⟨φ2, J2, bds, x2, E2, i2, l2, ⟨v2, rfl, r2⟩, w2⟩ := lays_bds φ1 (H ++ J1) _ (hf (81, 4, 1) (by simp)) i1
  refine ⟨φ2, J1 ++ J2, ⟨b0, bk, bds⟩, _, E1 ++ E2, by rw [← List.append_assoc]; exact i2, Phi.le_trans l1 l2, ⟨E1, E2, x1, v2, rfl, rfl, ?_, ?_⟩, ?_⟩
  · rw [← List.append_assoc]; exact RBk.frm.ext r1
  · rw [← List.append_assoc]; exact r2
  · have := (w1.mono l2).append w2
    exact .cons (.bool _) (by simpa using this)
/-- A struct argument. -/
theorem lays_val {α : Type} {t : TypeId} {R : Heap → List Nat → α → List Value → Prop} (hL : Lays HH enc Try.prog W t R) {φ : Phi} {H : Heap} {cs : Array Value} (hrd : Rdb enc Try.prog W t (Value.agg cs).cells.toList) (h : HRi Try.prog W φ H) :
    ∃ φ' J x xs E, HRi Try.prog W φ' (H ++ J) ∧ φ.le φ' ∧ R (H ++ J) E x xs ∧ VR φ' (.agg xs.toArray) (.agg cs) := by
  obtain ⟨φ', J, x, xs, E, h1, h2, h3, h4⟩ := hL φ H _ hrd h
  refine ⟨φ', J, x, xs, E, h1, h2, h3, ?_⟩
  have := VR.agg_of h4
  simpa [Value.cells] using this
theorem okW_agg {P : Program} {W : World} {r : Reach} {base : Nat} {t : TypeId} {fs : Array Field} {v : Value} (hu : P.underlying t = some (.struct fs)) (h : Value.okWide P W r base t v) : ∃ cs, v = .agg cs := by
  simp only [Value.okWide, hu] at h
  obtain ⟨cs, rfl, _⟩ := h
  exact ⟨cs, rfl⟩
end
end Go.Proofs.Ytpoedfmkiiijnaa
namespace Go.Proofs.YtpoedfmkiiijnaaAm
open Go Go.RowKit
set_option linter.unusedVariables false
set_option linter.unusedSimpArgs false
/-- Elements that own nothing, of which each has a property. -/
def RPp {α : Type} (f : α → List Value) (p : α → Prop) (H : Heap) (E : List Nat) (x : α) (cs : List Value) : Prop := RP f H E x cs ∧ p x
theorem RPp.frm {α : Type} (f : α → List Value) (p : α → Prop) : Frm (RPp f p) := ⟨fun h _ => h, fun h id hi => by rw [h.1.1] at hi; simp at hi⟩
theorem RCs.prop {α : Type} {sz : Nat} {f : α → List Value} {p : α → Prop} {H : Heap} : ∀ {xs : List α} {E : List Nat} {cs : List Value}, RCs sz (RPp f p) H E xs cs → ∀ x, x ∈ xs → p x
  | [], _, _, h, x, hx => by simp at hx
  | y :: ys, _, _, ⟨E1, E2, c1, c2, h1, h2, h3, h4, h5⟩, x, hx => by
    rcases List.mem_cons.1 hx with rfl | hx
    · exact h4.2
    · exact h5.prop x hx
theorem RS.prop {α : Type} {sz : Nat} {f : α → List Value} {p : α → Prop} {H : Heap} {E : List Nat} {v : Value} {xs : List α} (h : RS sz (RPp f p) H E v xs) : ∀ x, x ∈ xs → p x := by
  obtain ⟨hl, ⟨_, h, _⟩ | ⟨id, o, E', ty, rw, pre, cs, post, h1, h2, h3, h4, h5⟩⟩ := h
  · subst h; intro x hx; simp at hx
  · exact h5.prop
theorem RS.unp {α : Type} {sz : Nat} {f : α → List Value} {p : α → Prop} {H : Heap} {E : List Nat} {v : Value} {xs : List α} (h : RS sz (RPp f p) H E v xs) : RS sz (RP f) H E v xs := h.conv fun x _ E cs h => h.1
def cBy (n : Int) : List Value := [.int .u8 n]
def byR (n : Int) : Prop := 0 ≤ n ∧ n ≤ 255
def i64R (n : Int) : Prop := -9223372036854775808 ≤ n ∧ n ≤ 9223372036854775807
def bdR (b : Bd) : Prop := i64R b.ver
def acR (a : Actn) : Prop := i64R a.n
abbrev RBy := RPp cBy byR
/-- The cells of a world whose bodies' versions are within range. -/
def RWdR (H : Heap) (E : List Nat) (w : Wd) (cs : List Value) : Prop := ∃ E1 E2 c v, E = E1 ++ E2 ∧ cs = .bool w.ok :: (c ++ [v]) ∧ RBk H E1 w.book c ∧ RS 4 (RPp cBd bdR) H E2 v w.bodies
theorem RWdR.frm : Frm RWdR := by
  refine ⟨?_, ?_⟩
  · rintro H H' E x cs ⟨E1, E2, c, v, rfl, h2, h3, h4⟩ ha
    exact ⟨E1, E2, c, v, rfl, h2, RBk.frm.fr h3 fun id hi => ha id (by simp [hi]), h4.fr (RPp.frm _ _) fun id hi => ha id (by simp [hi])⟩
  · rintro H E x cs ⟨E1, E2, c, v, rfl, h2, h3, h4⟩ id hi
    rcases List.mem_append.1 hi with hi | hi
    · exact RBk.frm.bd h3 id hi
    · exact h4.bd (RPp.frm _ _) id hi
theorem RWdR.wd {H : Heap} {E : List Nat} {w : Wd} {cs : List Value} (h : RWdR H E w cs) : RWd H E w cs ∧ ∀ b, b ∈ w.bodies → bdR b := by
  obtain ⟨E1, E2, c, v, h1, h2, h3, h4⟩ := h
  exact ⟨⟨E1, E2, c, v, h1, h2, h3, h4.unp⟩, h4.prop⟩
end Go.Proofs.YtpoedfmkiiijnaaAm
namespace Go.Proofs.Ytpoedfmkiiijnaa
open Go Go.RowKit Go.Proofs.YtpoedfmkiiijnaaAm
set_option linter.unusedVariables false
set_option linter.unusedSimpArgs false
section
variable {HH : Type} {enc : TypeId × Value → HH} {W : World}
theorem rd_intR {P : Program} {t : TypeId} {k : IntKind} {cs : List Value} (ht : P.underlying t = some (.int k)) (h : Rdb enc P W t cs) : ∃ n, cs = [.int k n] ∧ k.min ≤ n ∧ n ≤ k.max := by
  obtain ⟨fuel, x, h, hw⟩ := h
  cases fuel with
  | zero => simp [DataW.trod] at h
  | succ fuel =>
    unfold DataW.trod at h
    rw [ht] at h
    split at h
    case h_2 k' k2 n e1 =>
      cases e1
      split at h
      · rename_i hh
        obtain ⟨rfl, h2⟩ := hh
        simp only [Lit.wf, Bool.and_eq_true, decide_eq_true_eq] at h2
        exact ⟨n, rfl, h2⟩
      · cases h
    all_goals simp_all
theorem un5 : Try.prog.underlying 5 = some (.int .u8) := by kernel_rfl
theorem un30 : Try.prog.underlying 30 = some (.slice 5) := by kernel_rfl
theorem co_by : Try.prog.cellsOf 5 = 1 := by kernel_rfl
theorem rd1R {v : Value} (h : Rdb enc Try.prog W 3 [v]) : ∃ n, v = iv n ∧ i64R n := by
  obtain ⟨n, hn, h1⟩ := rd_intR un3 h
  exact ⟨n, by simpa using hn, h1⟩
theorem lays_by : Lays HH enc Try.prog W 5 RBy := fun φ H cs hrd h => by
  obtain ⟨n, rfl, hn⟩ := rd_intR un5 hrd
  exact ⟨φ, [], n, _, [], by simpa using h, Phi.le_refl _, ⟨⟨rfl, rfl⟩, hn⟩, .cons (.int _ _) (.nil _)⟩
theorem lays_bys : Lays HH enc Try.prog W 30 fun H E xs cs => ∃ v, cs = [v] ∧ RS 1 RBy H E v xs := lays_slice (sz := 0) un30 co_by (of_decide_eq_true (by kernel_rfl)) lays_by (RPp.frm _ _)
theorem lays_bdR : Lays HH enc Try.prog W 165 (RPp cBd bdR) := fun φ H cs hrd h => by
  obtain ⟨hl, hf⟩ := rd_fields ft_bd hrd
  obtain ⟨c0, c1, c2, c3, rfl⟩ := list4 (hl.trans co_bd)
  obtain ⟨n0, rfl, hn⟩ := rd1R (hf (3, 0, 1) (by simp))
  obtain ⟨n1, rfl⟩ := rd1 (hf (3, 1, 1) (by simp))
  obtain ⟨n2, rfl⟩ := rd1 (hf (3, 2, 1) (by simp))
  obtain ⟨n3, rfl⟩ := rd1 (hf (3, 3, 1) (by simp))
  exact ⟨φ, [], ⟨n0, n1, n2, n3⟩, _, [], by simpa using h, Phi.le_refl _, ⟨⟨rfl, rfl⟩, hn⟩, .cons (.int _ _) (.cons (.int _ _) (.cons (.int _ _) (.cons (.int _ _) (.nil _))))⟩
theorem lays_bdsR : Lays HH enc Try.prog W 81 fun H E xs cs => ∃ v, cs = [v] ∧ RS 4 (RPp cBd bdR) H E v xs := lays_slice (sz := 3) un81 co_bd (of_decide_eq_true (by kernel_rfl)) lays_bdR (RPp.frm _ _)
theorem lays_wdR : Lays HH enc Try.prog W 83 RWdR := fun φ H cs hrd h => by
  obtain ⟨hl, hf⟩ := rd_fields ft_w hrd
  obtain ⟨c0, c1, c2, c3, c4, rfl⟩ := list5 (hl.trans co_w)
  obtain ⟨b0, rfl⟩ := rdB (hf (4, 0, 1) (by simp))
  obtain ⟨φ1, J1, bk, x1, E1, i1, l1, r1, w1⟩ := lays_bk φ H _ (hf (53, 1, 3) (by simp)) h
  obtain ⟨φ2, J2, bds, x2, E2, i2, l2, ⟨v2, rfl, r2⟩, w2⟩ := lays_bdsR φ1 (H ++ J1) _ (hf (81, 4, 1) (by simp)) i1
  refine ⟨φ2, J1 ++ J2, ⟨b0, bk, bds⟩, _, E1 ++ E2, by rw [← List.append_assoc]; exact i2, Phi.le_trans l1 l2, ⟨E1, E2, x1, v2, rfl, rfl, ?_, ?_⟩, ?_⟩
  · rw [← List.append_assoc]; exact RBk.frm.ext r1
  · rw [← List.append_assoc]; exact r2
  · have := (w1.mono l2).append w2
    exact .cons (.bool _) (by simpa using this)
theorem lays_acR : Lays HH enc Try.prog W 98 (RPp cAc acR) := fun φ H cs hrd h => by
  obtain ⟨hl, hf⟩ := rd_fields ft_a hrd
  obtain ⟨c0, c1, c2, c3, c4, c5, rfl⟩ := list6 (hl.trans co_a)
  obtain ⟨n0, rfl⟩ := rd1 (hf (3, 0, 1) (by simp))
  obtain ⟨_, hf2⟩ := rd_fields ft_e (hf (58, 1, 3) (by simp))
  obtain ⟨n1, rfl⟩ := rd1 (hf2 (3, 0, 1) (by simp))
  obtain ⟨n2, rfl⟩ := rd1 (hf2 (3, 1, 1) (by simp))
  obtain ⟨n3, rfl⟩ := rd1 (hf2 (3, 2, 1) (by simp))
  obtain ⟨n4, rfl⟩ := rd1 (hf (3, 4, 1) (by simp))
  obtain ⟨n5, rfl, hn⟩ := rd1R (hf (3, 5, 1) (by simp))
  exact ⟨φ, [], ⟨n0, ⟨n1, n2, n3⟩, n4, n5⟩, _, [], by simpa using h, Phi.le_refl _, ⟨⟨rfl, rfl⟩, hn⟩, .cons (.int _ _) (.cons (.int _ _) (.cons (.int _ _) (.cons (.int _ _) (.cons (.int _ _) (.cons (.int _ _) (.nil _))))))⟩
theorem lays_acsR : Lays HH enc Try.prog W 103 fun H E xs cs => ∃ v, cs = [v] ∧ RS 6 (RPp cAc acR) H E v xs := lays_slice (sz := 5) un103 co_a (of_decide_eq_true (by kernel_rfl)) lays_acR (RPp.frm _ _)
end
end Go.Proofs.Ytpoedfmkiiijnaa
namespace Go.Proofs.YtpoedfmkiiijnaaAm
open Go Go.RowKit
set_option linter.unusedVariables false
set_option linter.unusedSimpArgs false
@[simp] theorem evO_tmp (ts t) : evO ts (.tmp t) = getT ts t := rfl.trans rfl
@[simp] theorem evO_int (ts k n) : evO ts (.const (.int k n)) = some (.int k n) := rfl.trans rfl
@[simp] theorem evO_bool (ts b) : evO ts (.const (.bool b)) = some (.bool b) := rfl.trans rfl
@[simp] theorem evO_str (ts b) : evO ts (.const (.string b)) = some (.string b) := rfl.trans rfl
@[simp] theorem evO_nils (ts) : evO ts (.const (.slice none 0 0)) = some nl := rfl.trans rfl
@[simp] theorem evO_nilp (ts) : evO ts (.const (.pointer none)) = some (.pointer none) := rfl.trans rfl
@[simp] theorem evO_func (ts f) : evO ts (.func f) = some (.func (.func f) #[] #[]) := rfl.trans rfl
@[simp] theorem getT_nil (t) : getT [] t = none := rfl.trans rfl
@[simp] theorem getT_cons (k v r t) : getT ((k, v) :: r) t = if k = t then some v else getT r t := rfl.trans rfl
@[simp] theorem putT_some (d v ts) : putT (some d) v ts = (d, v) :: ts := rfl.trans rfl
@[simp] theorem putT_none (v ts) : putT none v ts = ts := rfl.trans rfl
@[simp] theorem enumT_nil (i) : enumT i [] = [] := rfl.trans rfl
@[simp] theorem enumT_cons (i v r) : enumT i (v :: r) = (i, v) :: enumT (i + 1) r := rfl.trans rfl
section
variable (P : Program) (ρ : Operand → Option Value)
@[simp] theorem pureOp_pick (c a b) : pureOp P ρ (.pick c a b) = match ρ c with
    | some (.bool true) => ρ a
    | some (.bool false) => ρ b
    | _ => none := rfl.trans rfl
@[simp] theorem pureOp_build (t ps) : pureOp P ρ (.build t ps) = match evP ρ ps.toList with
    | some l => match buildA P t l with
      | some cs => some (.agg cs.toArray)
      | none => none
    | none => none := rfl.trans rfl
@[simp] theorem pureOp_nilCheck (x) : pureOp P ρ (.nilCheck x) = match ρ x with
    | some (.pointer (some ⟨id, o, none⟩)) => some (pt id o)
    | _ => none := rfl.trans rfl
@[simp] theorem pureOp_binOp (o t x y z) : pureOp P ρ (.binOp o t x y z) = match ρ x, ρ y with
    | some a, some b => binA P o t a b
    | _, _ => none := rfl.trans rfl
@[simp] theorem pureOp_not (t x) : pureOp P ρ (.unOp .not t x) = match ρ x with
    | some (.bool b) => some (.bool !b)
    | _ => none := rfl.trans rfl
@[simp] theorem pureOp_convert (a b x) : pureOp P ρ (.convert a b x) = match P.underlying a, intO P b, ρ x with
    | some _, some k, some (.int _ n) => some (.int k (k.wrap n))
    | _, _, _ => none := rfl.trans rfl
@[simp] theorem pureOp_slice (t x lo hi) : pureOp P ρ (.slice t x lo hi none) = match ρ x, evM ρ lo, evM ρ hi with
    | some v, some l, some h => sliceA P t v l h
    | _, _, _ => none := rfl.trans rfl
@[simp] theorem pureOp_fieldAddr (t x f) : pureOp P ρ (.fieldAddr t x f) = match ρ x, (fldsO P t).bind (fun fl => fl[f]?) with
    | some (.pointer (some ⟨id, o, none⟩)), some (off, _ + 1) => some (pt id (o + off))
    | _, _ => none := rfl.trans rfl
@[simp] theorem pureOp_field (t x f) : pureOp P ρ (.field t x f) = match ρ x, (fldsO P t).bind (fun fl => fl[f]?), P.underlying t with
    | some (.agg cs), some (off, _), some (.struct fs) => match fs[f]? with
      | some fd => if (aggO P fd.type) = some false then cs[off]? else none
      | none => none
    | _, _, _ => none := rfl.trans rfl
@[simp] theorem pureOp_indexAddr (t x i) : pureOp P ρ (.indexAddr t x i) = match ρ x, ρ i, (elemO P t).bind (szO P) with
    | some (.slice (some ⟨id, o, none⟩) n 0), some (.int _ j), some sz => if 0 ≤ j ∧ j < (n : Int) then some (pt id (o + j.toNat * sz)) else none
    | _, _, _ => none := rfl.trans rfl
@[simp] theorem pureOp_makeFunc (f a c) : pureOp P ρ (.makeFunc f a c) = if a.size = 0 then (match evL ρ c.toList with | some l => some (.func f #[] l.toArray) | none => none) else none := rfl.trans rfl
@[simp] theorem pureOp_extract (x i) : pureOp P ρ (.extract x i) = match ρ x with
    | some (.tuple vs) => vs[i]?
    | _ => none := rfl.trans rfl
@[simp] theorem pureOp_len (as1 ts) : pureOp P ρ (.call { callee := .builtin .len, args := as1, argTypes := ts }) = match as1.toList with
    | [x] => match ρ x, (ts[0]?).bind P.underlying with
      | some (.slice _ n _), some (.slice _) => some (.int .i64 n)
      | some (.string s), some .string => some (.int .i64 s.size)
      | _, _ => none
    | _ => none := rfl.trans rfl
@[simp] theorem pureOp_max (as1 ts) : pureOp P ρ (.call { callee := .builtin .max, args := as1, argTypes := ts }) = match as1.toList with
    | [x, y] => match ρ x, ρ y with
      | some (.int k a), some (.int _ b) => some (.int k (if a < b then b else a))
      | _, _ => none
    | _ => none := rfl.trans rfl
@[simp] theorem newA_alloc (t) : newA P ρ (.alloc t) = match zeroO P t, szO P t with
    | some z, some n => if (cellsV z).length = n ∧ allPlain (cellsV z) = true then some ⟨t, cellsV z, fun id => pt id 0⟩ else none
    | _, _ => none := rfl.trans rfl
@[simp] theorem newA_box (t x) : newA P ρ (.box t x) = match ρ x, szO P t with
    | some v, some n => if (cellsV v).length = n then some ⟨t, cellsV v, fun id => pt id 0⟩ else none
    | _, _ => none := rfl.trans rfl
@[simp] theorem newA_buildSlice (t n ps) : newA P ρ (.buildSlice t n ps) = match elemO P t, evP ρ ps.toList with
    | some e, some l => match szO P e, zeroO P e with
      | some (sz + 1), some z => if (cellsV z).length = sz + 1 ∧ allPlain (cellsV z) = true ∧ n * (sz + 1) ≤ 16777216 then
          (match fillA (fun i => some (i * (sz + 1), sz + 1)) (List.replicate n (cellsV z)).flatten l with
          | some cs => some ⟨e, cs, fun id => sl id 0 n⟩
          | none => none) else none
      | _, _ => none
    | _, _ => none := rfl.trans rfl
@[simp] theorem newA_makeSlice (t l c) : newA P ρ (.makeSlice t l c) = match ρ l, ρ c, elemO P t with
    | some (.int _ a), some (.int _ b), some e => match szO P e, byO P e, zeroO P e with
      | some (sz + 1), some by', some z => if a = b ∧ 0 ≤ a ∧ (by' : Int) * a ≤ 281474976710656 ∧ a ≤ 9223372036854775807 ∧ (cellsV z).length = sz + 1 ∧ allPlain (cellsV z) = true then
          some ⟨e, (List.replicate a.toNat (cellsV z)).flatten, fun id => sl id 0 a.toNat⟩ else none
      | _, _, _ => none
    | _, _, _ => none := rfl.trans rfl
end
section
variable (k : IntKind) (a b : Int)
@[simp] theorem intA_add : intA .add k a k b = some (.int k (k.wrap (a + b))) := by simp [intA]
@[simp] theorem intA_sub : intA .sub k a k b = some (.int k (k.wrap (a - b))) := by simp [intA]
@[simp] theorem intA_mul : intA .mul k a k b = some (.int k (k.wrap (a * b))) := by simp [intA]
@[simp] theorem intA_eql : intA .eql k a k b = some (.bool (decide (a = b))) := by simp [intA]
@[simp] theorem intA_neq : intA .neq k a k b = some (.bool (!decide (a = b))) := by simp [intA]
@[simp] theorem intA_lss : intA .lss k a k b = some (.bool (decide (a < b))) := by simp [intA]
@[simp] theorem intA_leq : intA .leq k a k b = some (.bool (decide (a ≤ b))) := by simp [intA]
@[simp] theorem intA_gtr : intA .gtr k a k b = some (.bool (decide (b < a))) := by simp [intA]
@[simp] theorem intA_geq : intA .geq k a k b = some (.bool (decide (b ≤ a))) := by simp [intA]
end
@[simp] theorem binA_int (P : Program) (op t k a k' b) : binA P op t (.int k a) (.int k' b) = intA op k a k' b := rfl.trans rfl
@[simp] theorem binA_bool (P : Program) (op t a b) : binA P op t (.bool a) (.bool b) = if (P.underlying t matches some .bool) then (match op with | .eql => some (.bool (a == b)) | .neq => some (.bool (!(a == b))) | _ => none) else none := rfl.trans rfl
@[simp] theorem binA_nil (P : Program) (op t p n c) : binA P op t (.slice p n c) (.slice none 0 0) = if (elemO P t).isSome then (match op with | .eql => some (.bool p.isNone) | .neq => some (.bool (!p.isNone)) | _ => none) else none := rfl.trans rfl
@[simp] theorem binA_agg (P : Program) (op t xs ys) : binA P op t (.agg xs) (.agg ys) = if eqOk P t = true ∧ xs.toList.length = (fldsO P t |>.getD []).length then (match op, eqCells xs.toList ys.toList with | .eql, some r => some (.bool r) | .neq, some r => some (.bool (!r)) | _, _ => none) else none := rfl.trans rfl
attribute [simp] evL evP plainV sliceA hiA loA evM ldA ldC stA buildA fillA setAll cv_agg cv_int cv_bool cv_slice cv_ptr allPlain fnV resA resL resOne endR cell_at cell_at0 put_at put_at0 rwOk_put cell_put wrL_nil wrL_cons wrO_none wrO_some rw_at rw_at0 get_at get_at0 kill_at kill_at0 cell_c0 cell_cs put_c0 put_cs rw_c0 rw_cs kill_c0 kill_cs Heap.puts wr one_int one_bool one_slice one_ptr eqCells offs11 offs12 offs13 offs14 offs21 offs22 offs23 offs24
attribute [simp] liveL_nil liveL_cons liveO_none liveO_some List.replicate deadB set_at set_at0 set_c0 set_cs live_at live_at0 live_c0 live_cs hot_at hot_at0 hot_c0 hot_cs
end Go.Proofs.YtpoedfmkiiijnaaAm
namespace Go.Proofs.Ytpoedfmkiiijnaa
open Go Go.Proofs.YtpoedfmkiiijnaaAm
theorem mix : Try.prog.follows .mixedOrders = true := by kernel_rfl
theorem mz_125 : mapZ Try.prog 125 = some (.bool false) := by kernel_rfl
end Go.Proofs.Ytpoedfmkiiijnaa
