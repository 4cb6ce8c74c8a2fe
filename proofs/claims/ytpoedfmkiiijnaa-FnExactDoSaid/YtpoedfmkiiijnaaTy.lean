/- The facts of the types' table that the abstract machine asks for, of this program: printed by a small program (gen_ty.py), each checked by the kernel. -/
import Derived.Test.YtpoedfmkiiijnaaProg
import Derived.Test.YtpoedfmkiiijnaaAm6
namespace Go.Proofs.Ytpoedfmkiiijnaa
open Go Go.Proofs.YtpoedfmkiiijnaaAm
set_option linter.unusedVariables false
theorem sz_2 : szO Try.prog 2 = some 1 := by kernel_rfl
theorem by_2 : byO Try.prog 2 = some 8 := by kernel_rfl
theorem agg_2 : aggO Try.prog 2 = some false := by kernel_rfl
theorem zero_2 : zeroO Try.prog 2 = some (.int .i64 0) := by kernel_rfl
theorem int_2 : intO Try.prog 2 = some .i64 := by kernel_rfl
theorem un_2 : Try.prog.underlying 2 = some (.int .i64) := by kernel_rfl
attribute [simp] sz_2 by_2 agg_2 zero_2 int_2 un_2
theorem sz_3 : szO Try.prog 3 = some 1 := by kernel_rfl
theorem by_3 : byO Try.prog 3 = some 8 := by kernel_rfl
theorem agg_3 : aggO Try.prog 3 = some false := by kernel_rfl
theorem zero_3 : zeroO Try.prog 3 = some (.int .i64 0) := by kernel_rfl
theorem int_3 : intO Try.prog 3 = some .i64 := by kernel_rfl
theorem un_3 : Try.prog.underlying 3 = some (.int .i64) := by kernel_rfl
attribute [simp] sz_3 by_3 agg_3 zero_3 int_3 un_3
theorem sz_4 : szO Try.prog 4 = some 1 := by kernel_rfl
theorem by_4 : byO Try.prog 4 = some 1 := by kernel_rfl
theorem agg_4 : aggO Try.prog 4 = some false := by kernel_rfl
theorem zero_4 : zeroO Try.prog 4 = some (.bool false) := by kernel_rfl
theorem un_4 : Try.prog.underlying 4 = some .bool := by kernel_rfl
attribute [simp] sz_4 by_4 agg_4 zero_4 un_4
theorem sz_5 : szO Try.prog 5 = some 1 := by kernel_rfl
theorem by_5 : byO Try.prog 5 = some 1 := by kernel_rfl
theorem agg_5 : aggO Try.prog 5 = some false := by kernel_rfl
theorem zero_5 : zeroO Try.prog 5 = some (.int .u8 0) := by kernel_rfl
theorem int_5 : intO Try.prog 5 = some .u8 := by kernel_rfl
theorem un_5 : Try.prog.underlying 5 = some (.int .u8) := by kernel_rfl
attribute [simp] sz_5 by_5 agg_5 zero_5 int_5 un_5
theorem sz_9 : szO Try.prog 9 = some 1 := by kernel_rfl
theorem by_9 : byO Try.prog 9 = some 16 := by kernel_rfl
theorem agg_9 : aggO Try.prog 9 = some false := by kernel_rfl
theorem zero_9 : zeroO Try.prog 9 = some (.string ByteArray.empty) := by kernel_rfl
theorem un_9 : Try.prog.underlying 9 = some .string := by kernel_rfl
attribute [simp] sz_9 by_9 agg_9 zero_9 un_9
theorem sz_12 : szO Try.prog 12 = some 1 := by kernel_rfl
theorem by_12 : byO Try.prog 12 = some 8 := by kernel_rfl
theorem agg_12 : aggO Try.prog 12 = some false := by kernel_rfl
theorem zero_12 : zeroO Try.prog 12 = some (.int .u64 0) := by kernel_rfl
theorem int_12 : intO Try.prog 12 = some .u64 := by kernel_rfl
theorem un_12 : Try.prog.underlying 12 = some (.int .u64) := by kernel_rfl
attribute [simp] sz_12 by_12 agg_12 zero_12 int_12 un_12
theorem sz_13 : szO Try.prog 13 = some 2 := by kernel_rfl
theorem by_13 : byO Try.prog 13 = some 24 := by kernel_rfl
theorem agg_13 : aggO Try.prog 13 = some true := by kernel_rfl
theorem zero_13 : zeroO Try.prog 13 = some (.agg #[.string ByteArray.empty, .int .u64 0]) := by kernel_rfl
theorem fl_13 : fldsO Try.prog 13 = some [(0, 1), (1, 1)] := by kernel_rfl
attribute [simp] sz_13 by_13 agg_13 zero_13 fl_13
theorem sz_21 : szO Try.prog 21 = some 1 := by kernel_rfl
theorem by_21 : byO Try.prog 21 = some 4 := by kernel_rfl
theorem agg_21 : aggO Try.prog 21 = some false := by kernel_rfl
theorem zero_21 : zeroO Try.prog 21 = some (.int .i32 0) := by kernel_rfl
theorem int_21 : intO Try.prog 21 = some .i32 := by kernel_rfl
theorem un_21 : Try.prog.underlying 21 = some (.int .i32) := by kernel_rfl
attribute [simp] sz_21 by_21 agg_21 zero_21 int_21 un_21
theorem sz_23 : szO Try.prog 23 = some 1 := by kernel_rfl
theorem by_23 : byO Try.prog 23 = some 24 := by kernel_rfl
theorem agg_23 : aggO Try.prog 23 = some false := by kernel_rfl
theorem zero_23 : zeroO Try.prog 23 = some (.slice none 0 0) := by kernel_rfl
theorem el_23 : elemO Try.prog 23 = some 43 := by kernel_rfl
theorem un_23 : Try.prog.underlying 23 = some (.slice 43) := by kernel_rfl
attribute [simp] sz_23 by_23 agg_23 zero_23 el_23 un_23
theorem sz_24 : szO Try.prog 24 = some 3 := by kernel_rfl
theorem by_24 : byO Try.prog 24 = some 40 := by kernel_rfl
theorem agg_24 : aggO Try.prog 24 = some true := by kernel_rfl
theorem zero_24 : zeroO Try.prog 24 = some (.agg #[.bool false, .int .i64 0, .slice none 0 0]) := by kernel_rfl
theorem fl_24 : fldsO Try.prog 24 = some [(0, 1), (1, 1), (2, 1)] := by kernel_rfl
attribute [simp] sz_24 by_24 agg_24 zero_24 fl_24
theorem sz_25 : szO Try.prog 25 = some 3 := by kernel_rfl
theorem by_25 : byO Try.prog 25 = some 40 := by kernel_rfl
theorem agg_25 : aggO Try.prog 25 = some true := by kernel_rfl
theorem zero_25 : zeroO Try.prog 25 = some (.agg #[.bool false, .int .i64 0, .slice none 0 0]) := by kernel_rfl
theorem fl_25 : fldsO Try.prog 25 = some [(0, 1), (1, 1), (2, 1)] := by kernel_rfl
attribute [simp] sz_25 by_25 agg_25 zero_25 fl_25
theorem sz_30 : szO Try.prog 30 = some 1 := by kernel_rfl
theorem by_30 : byO Try.prog 30 = some 24 := by kernel_rfl
theorem agg_30 : aggO Try.prog 30 = some false := by kernel_rfl
theorem zero_30 : zeroO Try.prog 30 = some (.slice none 0 0) := by kernel_rfl
theorem el_30 : elemO Try.prog 30 = some 5 := by kernel_rfl
theorem un_30 : Try.prog.underlying 30 = some (.slice 5) := by kernel_rfl
attribute [simp] sz_30 by_30 agg_30 zero_30 el_30 un_30
theorem sz_31 : szO Try.prog 31 = some 1 := by kernel_rfl
theorem by_31 : byO Try.prog 31 = some 24 := by kernel_rfl
theorem agg_31 : aggO Try.prog 31 = some false := by kernel_rfl
theorem zero_31 : zeroO Try.prog 31 = some (.slice none 0 0) := by kernel_rfl
theorem el_31 : elemO Try.prog 31 = some 49 := by kernel_rfl
theorem un_31 : Try.prog.underlying 31 = some (.slice 49) := by kernel_rfl
attribute [simp] sz_31 by_31 agg_31 zero_31 el_31 un_31
theorem sz_34 : szO Try.prog 34 = some 1 := by kernel_rfl
theorem by_34 : byO Try.prog 34 = some 24 := by kernel_rfl
theorem agg_34 : aggO Try.prog 34 = some false := by kernel_rfl
theorem zero_34 : zeroO Try.prog 34 = some (.slice none 0 0) := by kernel_rfl
theorem el_34 : elemO Try.prog 34 = some 39 := by kernel_rfl
theorem un_34 : Try.prog.underlying 34 = some (.slice 39) := by kernel_rfl
attribute [simp] sz_34 by_34 agg_34 zero_34 el_34 un_34
theorem sz_38 : szO Try.prog 38 = some 4 := by kernel_rfl
theorem by_38 : byO Try.prog 38 = some 48 := by kernel_rfl
theorem agg_38 : aggO Try.prog 38 = some true := by kernel_rfl
theorem zero_38 : zeroO Try.prog 38 = some (.agg #[.int .i64 0, .bool false, .int .i64 0, .slice none 0 0]) := by kernel_rfl
theorem fl_38 : fldsO Try.prog 38 = some [(0, 1), (1, 3)] := by kernel_rfl
attribute [simp] sz_38 by_38 agg_38 zero_38 fl_38
theorem sz_39 : szO Try.prog 39 = some 4 := by kernel_rfl
theorem by_39 : byO Try.prog 39 = some 48 := by kernel_rfl
theorem agg_39 : aggO Try.prog 39 = some true := by kernel_rfl
theorem zero_39 : zeroO Try.prog 39 = some (.agg #[.int .i64 0, .bool false, .int .i64 0, .slice none 0 0]) := by kernel_rfl
theorem fl_39 : fldsO Try.prog 39 = some [(0, 1), (1, 3)] := by kernel_rfl
attribute [simp] sz_39 by_39 agg_39 zero_39 fl_39
theorem sz_40 : szO Try.prog 40 = some 1 := by kernel_rfl
theorem by_40 : byO Try.prog 40 = some 24 := by kernel_rfl
theorem agg_40 : aggO Try.prog 40 = some false := by kernel_rfl
theorem zero_40 : zeroO Try.prog 40 = some (.slice none 0 0) := by kernel_rfl
theorem el_40 : elemO Try.prog 40 = some 3 := by kernel_rfl
theorem un_40 : Try.prog.underlying 40 = some (.slice 3) := by kernel_rfl
attribute [simp] sz_40 by_40 agg_40 zero_40 el_40 un_40
theorem sz_41 : szO Try.prog 41 = some 1 := by kernel_rfl
theorem by_41 : byO Try.prog 41 = some 24 := by kernel_rfl
theorem agg_41 : aggO Try.prog 41 = some false := by kernel_rfl
theorem zero_41 : zeroO Try.prog 41 = some (.slice none 0 0) := by kernel_rfl
theorem el_41 : elemO Try.prog 41 = some 45 := by kernel_rfl
theorem un_41 : Try.prog.underlying 41 = some (.slice 45) := by kernel_rfl
attribute [simp] sz_41 by_41 agg_41 zero_41 el_41 un_41
theorem sz_42 : szO Try.prog 42 = some 4 := by kernel_rfl
theorem by_42 : byO Try.prog 42 = some 64 := by kernel_rfl
theorem agg_42 : aggO Try.prog 42 = some true := by kernel_rfl
theorem zero_42 : zeroO Try.prog 42 = some (.agg #[.int .i64 0, .slice none 0 0, .slice none 0 0, .int .i64 0]) := by kernel_rfl
theorem fl_42 : fldsO Try.prog 42 = some [(0, 1), (1, 1), (2, 1), (3, 1)] := by kernel_rfl
attribute [simp] sz_42 by_42 agg_42 zero_42 fl_42
theorem sz_43 : szO Try.prog 43 = some 4 := by kernel_rfl
theorem by_43 : byO Try.prog 43 = some 64 := by kernel_rfl
theorem agg_43 : aggO Try.prog 43 = some true := by kernel_rfl
theorem zero_43 : zeroO Try.prog 43 = some (.agg #[.int .i64 0, .slice none 0 0, .slice none 0 0, .int .i64 0]) := by kernel_rfl
theorem fl_43 : fldsO Try.prog 43 = some [(0, 1), (1, 1), (2, 1), (3, 1)] := by kernel_rfl
attribute [simp] sz_43 by_43 agg_43 zero_43 fl_43
theorem sz_44 : szO Try.prog 44 = some 2 := by kernel_rfl
theorem by_44 : byO Try.prog 44 = some 16 := by kernel_rfl
theorem agg_44 : aggO Try.prog 44 = some true := by kernel_rfl
theorem zero_44 : zeroO Try.prog 44 = some (.agg #[.int .i64 0, .int .i64 0]) := by kernel_rfl
theorem fl_44 : fldsO Try.prog 44 = some [(0, 1), (1, 1)] := by kernel_rfl
theorem eq_44 : eqOk Try.prog 44 = true := by kernel_rfl
attribute [simp] sz_44 by_44 agg_44 zero_44 fl_44 eq_44
theorem sz_45 : szO Try.prog 45 = some 2 := by kernel_rfl
theorem by_45 : byO Try.prog 45 = some 16 := by kernel_rfl
theorem agg_45 : aggO Try.prog 45 = some true := by kernel_rfl
theorem zero_45 : zeroO Try.prog 45 = some (.agg #[.int .i64 0, .int .i64 0]) := by kernel_rfl
theorem fl_45 : fldsO Try.prog 45 = some [(0, 1), (1, 1)] := by kernel_rfl
theorem eq_45 : eqOk Try.prog 45 = true := by kernel_rfl
attribute [simp] sz_45 by_45 agg_45 zero_45 fl_45 eq_45
theorem sz_48 : szO Try.prog 48 = some 3 := by kernel_rfl
theorem by_48 : byO Try.prog 48 = some 24 := by kernel_rfl
theorem agg_48 : aggO Try.prog 48 = some true := by kernel_rfl
theorem zero_48 : zeroO Try.prog 48 = some (.agg #[.int .i64 0, .int .i64 0, .int .i64 0]) := by kernel_rfl
theorem fl_48 : fldsO Try.prog 48 = some [(0, 1), (1, 1), (2, 1)] := by kernel_rfl
theorem eq_48 : eqOk Try.prog 48 = true := by kernel_rfl
attribute [simp] sz_48 by_48 agg_48 zero_48 fl_48 eq_48
theorem sz_49 : szO Try.prog 49 = some 3 := by kernel_rfl
theorem by_49 : byO Try.prog 49 = some 24 := by kernel_rfl
theorem agg_49 : aggO Try.prog 49 = some true := by kernel_rfl
theorem zero_49 : zeroO Try.prog 49 = some (.agg #[.int .i64 0, .int .i64 0, .int .i64 0]) := by kernel_rfl
theorem fl_49 : fldsO Try.prog 49 = some [(0, 1), (1, 1), (2, 1)] := by kernel_rfl
theorem eq_49 : eqOk Try.prog 49 = true := by kernel_rfl
attribute [simp] sz_49 by_49 agg_49 zero_49 fl_49 eq_49
theorem sz_51 : szO Try.prog 51 = some 1 := by kernel_rfl
theorem by_51 : byO Try.prog 51 = some 24 := by kernel_rfl
theorem agg_51 : aggO Try.prog 51 = some false := by kernel_rfl
theorem zero_51 : zeroO Try.prog 51 = some (.slice none 0 0) := by kernel_rfl
theorem el_51 : elemO Try.prog 51 = some 159 := by kernel_rfl
theorem un_51 : Try.prog.underlying 51 = some (.slice 159) := by kernel_rfl
attribute [simp] sz_51 by_51 agg_51 zero_51 el_51 un_51
theorem sz_52 : szO Try.prog 52 = some 3 := by kernel_rfl
theorem by_52 : byO Try.prog 52 = some 40 := by kernel_rfl
theorem agg_52 : aggO Try.prog 52 = some true := by kernel_rfl
theorem zero_52 : zeroO Try.prog 52 = some (.agg #[.bool false, .int .i64 0, .slice none 0 0]) := by kernel_rfl
theorem fl_52 : fldsO Try.prog 52 = some [(0, 1), (1, 1), (2, 1)] := by kernel_rfl
attribute [simp] sz_52 by_52 agg_52 zero_52 fl_52
theorem sz_53 : szO Try.prog 53 = some 3 := by kernel_rfl
theorem by_53 : byO Try.prog 53 = some 40 := by kernel_rfl
theorem agg_53 : aggO Try.prog 53 = some true := by kernel_rfl
theorem zero_53 : zeroO Try.prog 53 = some (.agg #[.bool false, .int .i64 0, .slice none 0 0]) := by kernel_rfl
theorem fl_53 : fldsO Try.prog 53 = some [(0, 1), (1, 1), (2, 1)] := by kernel_rfl
attribute [simp] sz_53 by_53 agg_53 zero_53 fl_53
theorem sz_58 : szO Try.prog 58 = some 3 := by kernel_rfl
theorem by_58 : byO Try.prog 58 = some 24 := by kernel_rfl
theorem agg_58 : aggO Try.prog 58 = some true := by kernel_rfl
theorem zero_58 : zeroO Try.prog 58 = some (.agg #[.int .i64 0, .int .i64 0, .int .i64 0]) := by kernel_rfl
theorem fl_58 : fldsO Try.prog 58 = some [(0, 1), (1, 1), (2, 1)] := by kernel_rfl
theorem eq_58 : eqOk Try.prog 58 = true := by kernel_rfl
attribute [simp] sz_58 by_58 agg_58 zero_58 fl_58 eq_58
theorem sz_62 : szO Try.prog 62 = some 1 := by kernel_rfl
theorem by_62 : byO Try.prog 62 = some 24 := by kernel_rfl
theorem agg_62 : aggO Try.prog 62 = some false := by kernel_rfl
theorem zero_62 : zeroO Try.prog 62 = some (.slice none 0 0) := by kernel_rfl
theorem el_62 : elemO Try.prog 62 = some 72 := by kernel_rfl
theorem un_62 : Try.prog.underlying 62 = some (.slice 72) := by kernel_rfl
attribute [simp] sz_62 by_62 agg_62 zero_62 el_62 un_62
theorem sz_63 : szO Try.prog 63 = some 5 := by kernel_rfl
theorem by_63 : byO Try.prog 63 = some 72 := by kernel_rfl
theorem agg_63 : aggO Try.prog 63 = some true := by kernel_rfl
theorem zero_63 : zeroO Try.prog 63 = some (.agg #[.bool false, .bool false, .int .i64 0, .slice none 0 0, .slice none 0 0]) := by kernel_rfl
theorem fl_63 : fldsO Try.prog 63 = some [(0, 1), (1, 3), (4, 1)] := by kernel_rfl
attribute [simp] sz_63 by_63 agg_63 zero_63 fl_63
theorem sz_64 : szO Try.prog 64 = some 5 := by kernel_rfl
theorem by_64 : byO Try.prog 64 = some 72 := by kernel_rfl
theorem agg_64 : aggO Try.prog 64 = some true := by kernel_rfl
theorem zero_64 : zeroO Try.prog 64 = some (.agg #[.bool false, .bool false, .int .i64 0, .slice none 0 0, .slice none 0 0]) := by kernel_rfl
theorem fl_64 : fldsO Try.prog 64 = some [(0, 1), (1, 3), (4, 1)] := by kernel_rfl
attribute [simp] sz_64 by_64 agg_64 zero_64 fl_64
theorem sz_66 : szO Try.prog 66 = some 6 := by kernel_rfl
theorem by_66 : byO Try.prog 66 = some 80 := by kernel_rfl
theorem agg_66 : aggO Try.prog 66 = some true := by kernel_rfl
theorem zero_66 : zeroO Try.prog 66 = some (.agg #[.int .i64 0, .bool false, .bool false, .int .i64 0, .slice none 0 0, .slice none 0 0]) := by kernel_rfl
theorem fl_66 : fldsO Try.prog 66 = some [(0, 1), (1, 5)] := by kernel_rfl
attribute [simp] sz_66 by_66 agg_66 zero_66 fl_66
theorem sz_67 : szO Try.prog 67 = some 6 := by kernel_rfl
theorem by_67 : byO Try.prog 67 = some 80 := by kernel_rfl
theorem agg_67 : aggO Try.prog 67 = some true := by kernel_rfl
theorem zero_67 : zeroO Try.prog 67 = some (.agg #[.int .i64 0, .bool false, .bool false, .int .i64 0, .slice none 0 0, .slice none 0 0]) := by kernel_rfl
theorem fl_67 : fldsO Try.prog 67 = some [(0, 1), (1, 5)] := by kernel_rfl
attribute [simp] sz_67 by_67 agg_67 zero_67 fl_67
theorem sz_69 : szO Try.prog 69 = some 6 := by kernel_rfl
theorem by_69 : byO Try.prog 69 = some 48 := by kernel_rfl
theorem agg_69 : aggO Try.prog 69 = some true := by kernel_rfl
theorem zero_69 : zeroO Try.prog 69 = some (.agg #[.int .i64 0, .int .i64 0, .int .i64 0, .int .i64 0, .int .i64 0, .int .i64 0]) := by kernel_rfl
theorem fl_69 : fldsO Try.prog 69 = some [(0, 1), (1, 3), (4, 1), (5, 1)] := by kernel_rfl
attribute [simp] sz_69 by_69 agg_69 zero_69 fl_69
theorem sz_70 : szO Try.prog 70 = some 6 := by kernel_rfl
theorem by_70 : byO Try.prog 70 = some 48 := by kernel_rfl
theorem agg_70 : aggO Try.prog 70 = some true := by kernel_rfl
theorem zero_70 : zeroO Try.prog 70 = some (.agg #[.int .i64 0, .int .i64 0, .int .i64 0, .int .i64 0, .int .i64 0, .int .i64 0]) := by kernel_rfl
theorem fl_70 : fldsO Try.prog 70 = some [(0, 1), (1, 3), (4, 1), (5, 1)] := by kernel_rfl
attribute [simp] sz_70 by_70 agg_70 zero_70 fl_70
theorem sz_71 : szO Try.prog 71 = some 4 := by kernel_rfl
theorem by_71 : byO Try.prog 71 = some 32 := by kernel_rfl
theorem agg_71 : aggO Try.prog 71 = some true := by kernel_rfl
theorem zero_71 : zeroO Try.prog 71 = some (.agg #[.int .i64 0, .int .i64 0, .int .i64 0, .int .i64 0]) := by kernel_rfl
theorem fl_71 : fldsO Try.prog 71 = some [(0, 1), (1, 1), (2, 1), (3, 1)] := by kernel_rfl
theorem eq_71 : eqOk Try.prog 71 = true := by kernel_rfl
attribute [simp] sz_71 by_71 agg_71 zero_71 fl_71 eq_71
theorem sz_72 : szO Try.prog 72 = some 4 := by kernel_rfl
theorem by_72 : byO Try.prog 72 = some 32 := by kernel_rfl
theorem agg_72 : aggO Try.prog 72 = some true := by kernel_rfl
theorem zero_72 : zeroO Try.prog 72 = some (.agg #[.int .i64 0, .int .i64 0, .int .i64 0, .int .i64 0]) := by kernel_rfl
theorem fl_72 : fldsO Try.prog 72 = some [(0, 1), (1, 1), (2, 1), (3, 1)] := by kernel_rfl
theorem eq_72 : eqOk Try.prog 72 = true := by kernel_rfl
attribute [simp] sz_72 by_72 agg_72 zero_72 fl_72 eq_72
theorem sz_73 : szO Try.prog 73 = some 1 := by kernel_rfl
theorem by_73 : byO Try.prog 73 = some 24 := by kernel_rfl
theorem agg_73 : aggO Try.prog 73 = some false := by kernel_rfl
theorem zero_73 : zeroO Try.prog 73 = some (.slice none 0 0) := by kernel_rfl
theorem el_73 : elemO Try.prog 73 = some 70 := by kernel_rfl
theorem un_73 : Try.prog.underlying 73 = some (.slice 70) := by kernel_rfl
attribute [simp] sz_73 by_73 agg_73 zero_73 el_73 un_73
theorem sz_81 : szO Try.prog 81 = some 1 := by kernel_rfl
theorem by_81 : byO Try.prog 81 = some 24 := by kernel_rfl
theorem agg_81 : aggO Try.prog 81 = some false := by kernel_rfl
theorem zero_81 : zeroO Try.prog 81 = some (.slice none 0 0) := by kernel_rfl
theorem el_81 : elemO Try.prog 81 = some 165 := by kernel_rfl
theorem un_81 : Try.prog.underlying 81 = some (.slice 165) := by kernel_rfl
attribute [simp] sz_81 by_81 agg_81 zero_81 el_81 un_81
theorem sz_82 : szO Try.prog 82 = some 5 := by kernel_rfl
theorem by_82 : byO Try.prog 82 = some 72 := by kernel_rfl
theorem agg_82 : aggO Try.prog 82 = some true := by kernel_rfl
theorem zero_82 : zeroO Try.prog 82 = some (.agg #[.bool false, .bool false, .int .i64 0, .slice none 0 0, .slice none 0 0]) := by kernel_rfl
theorem fl_82 : fldsO Try.prog 82 = some [(0, 1), (1, 3), (4, 1)] := by kernel_rfl
attribute [simp] sz_82 by_82 agg_82 zero_82 fl_82
theorem sz_83 : szO Try.prog 83 = some 5 := by kernel_rfl
theorem by_83 : byO Try.prog 83 = some 72 := by kernel_rfl
theorem agg_83 : aggO Try.prog 83 = some true := by kernel_rfl
theorem zero_83 : zeroO Try.prog 83 = some (.agg #[.bool false, .bool false, .int .i64 0, .slice none 0 0, .slice none 0 0]) := by kernel_rfl
theorem fl_83 : fldsO Try.prog 83 = some [(0, 1), (1, 3), (4, 1)] := by kernel_rfl
attribute [simp] sz_83 by_83 agg_83 zero_83 fl_83
theorem sz_90 : szO Try.prog 90 = some 1 := by kernel_rfl
theorem by_90 : byO Try.prog 90 = some 24 := by kernel_rfl
theorem agg_90 : aggO Try.prog 90 = some false := by kernel_rfl
theorem zero_90 : zeroO Try.prog 90 = some (.slice none 0 0) := by kernel_rfl
theorem el_90 : elemO Try.prog 90 = some 58 := by kernel_rfl
theorem un_90 : Try.prog.underlying 90 = some (.slice 58) := by kernel_rfl
attribute [simp] sz_90 by_90 agg_90 zero_90 el_90 un_90
theorem sz_97 : szO Try.prog 97 = some 6 := by kernel_rfl
theorem by_97 : byO Try.prog 97 = some 48 := by kernel_rfl
theorem agg_97 : aggO Try.prog 97 = some true := by kernel_rfl
theorem zero_97 : zeroO Try.prog 97 = some (.agg #[.int .i64 0, .int .i64 0, .int .i64 0, .int .i64 0, .int .i64 0, .int .i64 0]) := by kernel_rfl
theorem fl_97 : fldsO Try.prog 97 = some [(0, 1), (1, 3), (4, 1), (5, 1)] := by kernel_rfl
attribute [simp] sz_97 by_97 agg_97 zero_97 fl_97
theorem sz_98 : szO Try.prog 98 = some 6 := by kernel_rfl
theorem by_98 : byO Try.prog 98 = some 48 := by kernel_rfl
theorem agg_98 : aggO Try.prog 98 = some true := by kernel_rfl
theorem zero_98 : zeroO Try.prog 98 = some (.agg #[.int .i64 0, .int .i64 0, .int .i64 0, .int .i64 0, .int .i64 0, .int .i64 0]) := by kernel_rfl
theorem fl_98 : fldsO Try.prog 98 = some [(0, 1), (1, 3), (4, 1), (5, 1)] := by kernel_rfl
attribute [simp] sz_98 by_98 agg_98 zero_98 fl_98
theorem sz_103 : szO Try.prog 103 = some 1 := by kernel_rfl
theorem by_103 : byO Try.prog 103 = some 24 := by kernel_rfl
theorem agg_103 : aggO Try.prog 103 = some false := by kernel_rfl
theorem zero_103 : zeroO Try.prog 103 = some (.slice none 0 0) := by kernel_rfl
theorem el_103 : elemO Try.prog 103 = some 98 := by kernel_rfl
theorem un_103 : Try.prog.underlying 103 = some (.slice 98) := by kernel_rfl
attribute [simp] sz_103 by_103 agg_103 zero_103 el_103 un_103
theorem sz_105 : szO Try.prog 105 = some 1 := by kernel_rfl
theorem by_105 : byO Try.prog 105 = some 24 := by kernel_rfl
theorem agg_105 : aggO Try.prog 105 = some false := by kernel_rfl
theorem zero_105 : zeroO Try.prog 105 = some (.slice none 0 0) := by kernel_rfl
theorem el_105 : elemO Try.prog 105 = some 67 := by kernel_rfl
theorem un_105 : Try.prog.underlying 105 = some (.slice 67) := by kernel_rfl
attribute [simp] sz_105 by_105 agg_105 zero_105 el_105 un_105
theorem sz_116 : szO Try.prog 116 = some 1 := by kernel_rfl
theorem by_116 : byO Try.prog 116 = some 8 := by kernel_rfl
theorem agg_116 : aggO Try.prog 116 = some false := by kernel_rfl
theorem zero_116 : zeroO Try.prog 116 = some (.pointer none) := by kernel_rfl
attribute [simp] sz_116 by_116 agg_116 zero_116
theorem sz_117 : szO Try.prog 117 = some 1 := by kernel_rfl
theorem by_117 : byO Try.prog 117 = some 8 := by kernel_rfl
theorem agg_117 : aggO Try.prog 117 = some false := by kernel_rfl
theorem zero_117 : zeroO Try.prog 117 = some (.int .u64 0) := by kernel_rfl
theorem int_117 : intO Try.prog 117 = some .u64 := by kernel_rfl
theorem un_117 : Try.prog.underlying 117 = some (.int .u64) := by kernel_rfl
attribute [simp] sz_117 by_117 agg_117 zero_117 int_117 un_117
theorem sz_118 : szO Try.prog 118 = some 3 := by kernel_rfl
theorem by_118 : byO Try.prog 118 = some 40 := by kernel_rfl
theorem agg_118 : aggO Try.prog 118 = some true := by kernel_rfl
theorem zero_118 : zeroO Try.prog 118 = some (.agg #[.slice none 0 0, .int .i64 0, .int .u64 0]) := by kernel_rfl
theorem fl_118 : fldsO Try.prog 118 = some [(0, 1), (1, 1), (2, 1)] := by kernel_rfl
attribute [simp] sz_118 by_118 agg_118 zero_118 fl_118
theorem sz_119 : szO Try.prog 119 = some 3 := by kernel_rfl
theorem by_119 : byO Try.prog 119 = some 40 := by kernel_rfl
theorem agg_119 : aggO Try.prog 119 = some true := by kernel_rfl
theorem zero_119 : zeroO Try.prog 119 = some (.agg #[.slice none 0 0, .int .i64 0, .int .u64 0]) := by kernel_rfl
theorem fl_119 : fldsO Try.prog 119 = some [(0, 1), (1, 1), (2, 1)] := by kernel_rfl
attribute [simp] sz_119 by_119 agg_119 zero_119 fl_119
theorem sz_125 : szO Try.prog 125 = some 1 := by kernel_rfl
theorem by_125 : byO Try.prog 125 = some 8 := by kernel_rfl
theorem agg_125 : aggO Try.prog 125 = some false := by kernel_rfl
attribute [simp] sz_125 by_125 agg_125
theorem sz_129 : szO Try.prog 129 = some 1 := by kernel_rfl
theorem by_129 : byO Try.prog 129 = some 24 := by kernel_rfl
theorem agg_129 : aggO Try.prog 129 = some false := by kernel_rfl
theorem zero_129 : zeroO Try.prog 129 = some (.slice none 0 0) := by kernel_rfl
theorem el_129 : elemO Try.prog 129 = some 4 := by kernel_rfl
theorem un_129 : Try.prog.underlying 129 = some (.slice 4) := by kernel_rfl
attribute [simp] sz_129 by_129 agg_129 zero_129 el_129 un_129
theorem sz_135 : szO Try.prog 135 = some 1 := by kernel_rfl
theorem by_135 : byO Try.prog 135 = some 8 := by kernel_rfl
theorem agg_135 : aggO Try.prog 135 = some false := by kernel_rfl
theorem zero_135 : zeroO Try.prog 135 = some (.pointer none) := by kernel_rfl
attribute [simp] sz_135 by_135 agg_135 zero_135
theorem sz_146 : szO Try.prog 146 = some 1 := by kernel_rfl
theorem by_146 : byO Try.prog 146 = some 8 := by kernel_rfl
theorem agg_146 : aggO Try.prog 146 = some false := by kernel_rfl
theorem zero_146 : zeroO Try.prog 146 = some (.pointer none) := by kernel_rfl
attribute [simp] sz_146 by_146 agg_146 zero_146
theorem sz_157 : szO Try.prog 157 = some 1 := by kernel_rfl
theorem by_157 : byO Try.prog 157 = some 24 := by kernel_rfl
theorem agg_157 : aggO Try.prog 157 = some false := by kernel_rfl
theorem zero_157 : zeroO Try.prog 157 = some (.slice none 0 0) := by kernel_rfl
theorem el_157 : elemO Try.prog 157 = some 174 := by kernel_rfl
theorem un_157 : Try.prog.underlying 157 = some (.slice 174) := by kernel_rfl
attribute [simp] sz_157 by_157 agg_157 zero_157 el_157 un_157
theorem sz_158 : szO Try.prog 158 = some 4 := by kernel_rfl
theorem by_158 : byO Try.prog 158 = some 64 := by kernel_rfl
theorem agg_158 : aggO Try.prog 158 = some true := by kernel_rfl
theorem zero_158 : zeroO Try.prog 158 = some (.agg #[.int .i64 0, .slice none 0 0, .slice none 0 0, .int .i64 0]) := by kernel_rfl
theorem fl_158 : fldsO Try.prog 158 = some [(0, 1), (1, 1), (2, 1), (3, 1)] := by kernel_rfl
attribute [simp] sz_158 by_158 agg_158 zero_158 fl_158
theorem sz_159 : szO Try.prog 159 = some 4 := by kernel_rfl
theorem by_159 : byO Try.prog 159 = some 64 := by kernel_rfl
theorem agg_159 : aggO Try.prog 159 = some true := by kernel_rfl
theorem zero_159 : zeroO Try.prog 159 = some (.agg #[.int .i64 0, .slice none 0 0, .slice none 0 0, .int .i64 0]) := by kernel_rfl
theorem fl_159 : fldsO Try.prog 159 = some [(0, 1), (1, 1), (2, 1), (3, 1)] := by kernel_rfl
attribute [simp] sz_159 by_159 agg_159 zero_159 fl_159
theorem sz_165 : szO Try.prog 165 = some 4 := by kernel_rfl
theorem by_165 : byO Try.prog 165 = some 32 := by kernel_rfl
theorem agg_165 : aggO Try.prog 165 = some true := by kernel_rfl
theorem zero_165 : zeroO Try.prog 165 = some (.agg #[.int .i64 0, .int .i64 0, .int .i64 0, .int .i64 0]) := by kernel_rfl
theorem fl_165 : fldsO Try.prog 165 = some [(0, 1), (1, 1), (2, 1), (3, 1)] := by kernel_rfl
theorem eq_165 : eqOk Try.prog 165 = true := by kernel_rfl
attribute [simp] sz_165 by_165 agg_165 zero_165 fl_165 eq_165
theorem sz_171 : szO Try.prog 171 = some 1 := by kernel_rfl
theorem by_171 : byO Try.prog 171 = some 8 := by kernel_rfl
theorem agg_171 : aggO Try.prog 171 = some false := by kernel_rfl
theorem zero_171 : zeroO Try.prog 171 = some (.int .u64 0) := by kernel_rfl
theorem int_171 : intO Try.prog 171 = some .u64 := by kernel_rfl
theorem un_171 : Try.prog.underlying 171 = some (.int .u64) := by kernel_rfl
attribute [simp] sz_171 by_171 agg_171 zero_171 int_171 un_171
theorem sz_174 : szO Try.prog 174 = some 2 := by kernel_rfl
theorem by_174 : byO Try.prog 174 = some 16 := by kernel_rfl
theorem agg_174 : aggO Try.prog 174 = some true := by kernel_rfl
theorem zero_174 : zeroO Try.prog 174 = some (.agg #[.int .i64 0, .int .i64 0]) := by kernel_rfl
theorem fl_174 : fldsO Try.prog 174 = some [(0, 1), (1, 1)] := by kernel_rfl
theorem eq_174 : eqOk Try.prog 174 = true := by kernel_rfl
attribute [simp] sz_174 by_174 agg_174 zero_174 fl_174 eq_174
theorem sz_181 : szO Try.prog 181 = some 1 := by kernel_rfl
theorem by_181 : byO Try.prog 181 = some 4 := by kernel_rfl
theorem agg_181 : aggO Try.prog 181 = some false := by kernel_rfl
theorem zero_181 : zeroO Try.prog 181 = some (.int .u32 0) := by kernel_rfl
theorem int_181 : intO Try.prog 181 = some .u32 := by kernel_rfl
theorem un_181 : Try.prog.underlying 181 = some (.int .u32) := by kernel_rfl
attribute [simp] sz_181 by_181 agg_181 zero_181 int_181 un_181
theorem sz_185 : szO Try.prog 185 = some 1 := by kernel_rfl
theorem by_185 : byO Try.prog 185 = some 8 := by kernel_rfl
theorem agg_185 : aggO Try.prog 185 = some false := by kernel_rfl
theorem zero_185 : zeroO Try.prog 185 = some (.pointer none) := by kernel_rfl
attribute [simp] sz_185 by_185 agg_185 zero_185
end Go.Proofs.Ytpoedfmkiiijnaa
