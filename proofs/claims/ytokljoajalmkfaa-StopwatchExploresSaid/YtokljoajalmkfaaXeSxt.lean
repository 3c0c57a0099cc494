/- Part of the proof of stopwatch_explores_proved: Sxt. -/
import Derived.Test.YtokljoajalmkfaaProg
import Derived.Test.YtokljoajalmkfaaXeSxm
namespace Go.Proofs.Ytokljoajalmkfaa
open Go Go.RowKit
theorem ag_2 : aggS Try.prog 2 = some none := by kernel_rfl
theorem ik_2 : intK Try.prog 2 = some .i64 := by kernel_rfl
theorem un_2 : (Try.prog.underlying 2).isSome = true := by kernel_rfl
theorem ag_3 : aggS Try.prog 3 = some none := by kernel_rfl
theorem ul_3 : Try.prog.underlying 3 = some (.int .i64) := by kernel_rfl
theorem ik_3 : intK Try.prog 3 = some .i64 := by kernel_rfl
theorem un_3 : (Try.prog.underlying 3).isSome = true := by kernel_rfl
theorem zl_3 : zeroL Try.prog 3 = some [(.int .i64 (0))] := by kernel_rfl
theorem ag_4 : aggS Try.prog 4 = some none := by kernel_rfl
theorem zl_4 : zeroL Try.prog 4 = some [(.bool false)] := by kernel_rfl
theorem z1_4 : zero1 Try.prog 4 = some (.bool false) := by kernel_rfl
theorem ibool_4 : Try.prog.underlying 4 = some .bool := by kernel_rfl
theorem ik_5 : intK Try.prog 5 = some .u8 := by kernel_rfl
theorem un_5 : (Try.prog.underlying 5).isSome = true := by kernel_rfl
theorem ag_9 : aggS Try.prog 9 = some none := by kernel_rfl
theorem ul_9 : Try.prog.underlying 9 = some .string := by kernel_rfl
theorem istr_9 : isStr Try.prog 9 = true := by kernel_rfl
theorem sl_22 : slSz Try.prog 22 = some 7 := by kernel_rfl
theorem ag_22 : aggS Try.prog 22 = some none := by kernel_rfl
theorem se_22 : slE Try.prog 22 = some (37, 7, 80, [(.string ⟨#[]⟩), (.int .i64 (0)), (.int .i64 (0)), (.int .i64 (0)), (.int .i64 (0)), (.int .i64 (0)), (.slice none 0 0)]) := by kernel_rfl
theorem isl_22 : isSl Try.prog 22 = true := by kernel_rfl
theorem sl_25 : slSz Try.prog 25 = some 1 := by kernel_rfl
theorem ag_25 : aggS Try.prog 25 = some none := by kernel_rfl
theorem zl_25 : zeroL Try.prog 25 = some [(.slice none 0 0)] := by kernel_rfl
theorem se_25 : slE Try.prog 25 = some (2, 1, 8, [(.int .i64 (0))]) := by kernel_rfl
theorem isl_25 : isSl Try.prog 25 = true := by kernel_rfl
theorem ag_26 : aggS Try.prog 26 = some none := by kernel_rfl
theorem zl_26 : zeroL Try.prog 26 = some [(.int .i64 (0))] := by kernel_rfl
theorem ar_34 : arSz Try.prog 34 = some (4, 1) := by kernel_rfl
theorem sl_35 : slSz Try.prog 35 = some 3 := by kernel_rfl
theorem ag_35 : aggS Try.prog 35 = some none := by kernel_rfl
theorem isl_35 : isSl Try.prog 35 = true := by kernel_rfl
theorem ag_37 : aggS Try.prog 37 = some (some 7) := by kernel_rfl
theorem zl_37 : zeroL Try.prog 37 = some [(.string ⟨#[]⟩), (.int .i64 (0)), (.int .i64 (0)), (.int .i64 (0)), (.int .i64 (0)), (.int .i64 (0)), (.slice none 0 0)] := by kernel_rfl
theorem fo_37_0 : fldO Try.prog 37 0 = some 0 := by kernel_rfl
theorem fo_37_1 : fldO Try.prog 37 1 = some 1 := by kernel_rfl
theorem fo_37_2 : fldO Try.prog 37 2 = some 2 := by kernel_rfl
theorem fo_37_3 : fldO Try.prog 37 3 = some 3 := by kernel_rfl
theorem fo_37_4 : fldO Try.prog 37 4 = some 4 := by kernel_rfl
theorem fo_37_5 : fldO Try.prog 37 5 = some 5 := by kernel_rfl
theorem fo_37_6 : fldO Try.prog 37 6 = some 6 := by kernel_rfl
theorem ag_38 : aggS Try.prog 38 = some none := by kernel_rfl
theorem zl_38 : zeroL Try.prog 38 = some [(.pointer none)] := by kernel_rfl
theorem sl_39 : slSz Try.prog 39 = some 1 := by kernel_rfl
theorem ag_39 : aggS Try.prog 39 = some none := by kernel_rfl
theorem se_39 : slE Try.prog 39 = some (3, 1, 8, [(.int .i64 (0))]) := by kernel_rfl
theorem isl_39 : isSl Try.prog 39 = true := by kernel_rfl
theorem fo_41_0 : fldO Try.prog 41 0 = some 0 := by kernel_rfl
theorem fo_41_1 : fldO Try.prog 41 1 = some 1 := by kernel_rfl
theorem ag_42 : aggS Try.prog 42 = some none := by kernel_rfl
theorem ik_42 : intK Try.prog 42 = some .i16 := by kernel_rfl
theorem un_42 : (Try.prog.underlying 42).isSome = true := by kernel_rfl
theorem ar_44 : arSz Try.prog 44 = some (16, 1) := by kernel_rfl
theorem ag_44 : aggS Try.prog 44 = some (some 16) := by kernel_rfl
theorem zl_44 : zeroL Try.prog 44 = some [(.int .i16 (0)), (.int .i16 (0)), (.int .i16 (0)), (.int .i16 (0)), (.int .i16 (0)), (.int .i16 (0)), (.int .i16 (0)), (.int .i16 (0)), (.int .i16 (0)), (.int .i16 (0)), (.int .i16 (0)), (.int .i16 (0)), (.int .i16 (0)), (.int .i16 (0)), (.int .i16 (0)), (.int .i16 (0))] := by kernel_rfl
theorem ag_47 : aggS Try.prog 47 = some none := by kernel_rfl
theorem zl_47 : zeroL Try.prog 47 = some [(.map none)] := by kernel_rfl
theorem mt_47 : mapT2 Try.prog 47 = some (44, 4) := by kernel_rfl
theorem sl_48 : slSz Try.prog 48 = some 16 := by kernel_rfl
theorem ag_48 : aggS Try.prog 48 = some none := by kernel_rfl
theorem zl_48 : zeroL Try.prog 48 = some [(.slice none 0 0)] := by kernel_rfl
theorem se_48 : slE Try.prog 48 = some (44, 16, 32, [(.int .i16 (0)), (.int .i16 (0)), (.int .i16 (0)), (.int .i16 (0)), (.int .i16 (0)), (.int .i16 (0)), (.int .i16 (0)), (.int .i16 (0)), (.int .i16 (0)), (.int .i16 (0)), (.int .i16 (0)), (.int .i16 (0)), (.int .i16 (0)), (.int .i16 (0)), (.int .i16 (0)), (.int .i16 (0))]) := by kernel_rfl
theorem isl_48 : isSl Try.prog 48 = true := by kernel_rfl
theorem ar_53 : arSz Try.prog 53 = some (8, 1) := by kernel_rfl
theorem ag_55 : aggS Try.prog 55 = some (some 16) := by kernel_rfl
theorem zl_55 : zeroL Try.prog 55 = some [(.int .i64 (0)), (.int .i64 (0)), (.int .i64 (0)), (.int .i64 (0)), (.int .i64 (0)), (.int .i64 (0)), (.int .i64 (0)), (.int .i64 (0)), (.int .i64 (0)), (.int .i64 (0)), (.int .i64 (0)), (.int .i64 (0)), (.int .i64 (0)), (.int .i64 (0)), (.int .i64 (0)), (.int .i64 (0))] := by kernel_rfl
theorem fo_55_0 : fldO Try.prog 55 0 = some 0 := by kernel_rfl
theorem fo_55_1 : fldO Try.prog 55 1 = some 8 := by kernel_rfl
theorem mt_57 : mapT2 Try.prog 57 = some (55, 4) := by kernel_rfl
theorem sl_58 : slSz Try.prog 58 = some 16 := by kernel_rfl
theorem se_58 : slE Try.prog 58 = some (55, 16, 128, [(.int .i64 (0)), (.int .i64 (0)), (.int .i64 (0)), (.int .i64 (0)), (.int .i64 (0)), (.int .i64 (0)), (.int .i64 (0)), (.int .i64 (0)), (.int .i64 (0)), (.int .i64 (0)), (.int .i64 (0)), (.int .i64 (0)), (.int .i64 (0)), (.int .i64 (0)), (.int .i64 (0)), (.int .i64 (0))]) := by kernel_rfl
theorem isl_58 : isSl Try.prog 58 = true := by kernel_rfl
theorem ik_59 : intK Try.prog 59 = some .u64 := by kernel_rfl
theorem sl_68 : slSz Try.prog 68 = some 4 := by kernel_rfl
theorem se_68 : slE Try.prog 68 = some (34, 4, 32, [(.int .i64 (0)), (.int .i64 (0)), (.int .i64 (0)), (.int .i64 (0))]) := by kernel_rfl
theorem isl_68 : isSl Try.prog 68 = true := by kernel_rfl
theorem se_69 : slE Try.prog 69 = some (5, 1, 1, [(.int .u8 (0))]) := by kernel_rfl
theorem mt_70 : mapT2 Try.prog 70 = some (9, 4) := by kernel_rfl
theorem mt_71 : mapT2 Try.prog 71 = some (3, 4) := by kernel_rfl
theorem ag_77 : aggS Try.prog 77 = some (some 3) := by kernel_rfl
theorem zl_77 : zeroL Try.prog 77 = some [(.int .i64 (0)), (.int .i64 (0)), (.int .i64 (0))] := by kernel_rfl
theorem fo_77_0 : fldO Try.prog 77 0 = some 0 := by kernel_rfl
theorem fo_77_1 : fldO Try.prog 77 1 = some 1 := by kernel_rfl
theorem fo_77_2 : fldO Try.prog 77 2 = some 2 := by kernel_rfl
theorem fo_84_0 : fldO Try.prog 84 0 = some 0 := by kernel_rfl
theorem sl_85 : slSz Try.prog 85 = some 1 := by kernel_rfl
theorem se_85 : slE Try.prog 85 = some (86, 1, 8, [.nilFunc]) := by kernel_rfl
theorem ag_86 : aggS Try.prog 86 = some none := by kernel_rfl
theorem un_98 : (Try.prog.underlying 98).isSome = true := by kernel_rfl
theorem cf_5 : callable Try.prog 5 = true := by kernel_rfl
theorem cf_6 : callable Try.prog 6 = true := by kernel_rfl
theorem cf_7 : callable Try.prog 7 = true := by kernel_rfl
theorem cf_8 : callable Try.prog 8 = true := by kernel_rfl
theorem cf_9 : callable Try.prog 9 = true := by kernel_rfl
theorem cf_10 : callable Try.prog 10 = true := by kernel_rfl
theorem cf_11 : callable Try.prog 11 = true := by kernel_rfl
theorem cf_12 : callable Try.prog 12 = true := by kernel_rfl
theorem cf_14 : callable Try.prog 14 = true := by kernel_rfl
theorem cf_15 : callable Try.prog 15 = true := by kernel_rfl
theorem cf_16 : callable Try.prog 16 = true := by kernel_rfl
theorem cf_17 : callable Try.prog 17 = true := by kernel_rfl
theorem cf_18 : callable Try.prog 18 = true := by kernel_rfl
theorem cf_19 : callable Try.prog 19 = true := by kernel_rfl
theorem cf_20 : callable Try.prog 20 = true := by kernel_rfl
theorem cf_21 : callable Try.prog 21 = true := by kernel_rfl
theorem cf_22 : callable Try.prog 22 = true := by kernel_rfl
theorem cf_23 : callable Try.prog 23 = true := by kernel_rfl
theorem cf_24 : callable Try.prog 24 = true := by kernel_rfl
theorem cf_27 : callable Try.prog 27 = true := by kernel_rfl
theorem cf_28 : callable Try.prog 28 = true := by kernel_rfl
theorem cf_29 : callable Try.prog 29 = true := by kernel_rfl
theorem cf_30 : callable Try.prog 30 = true := by kernel_rfl
theorem cf_31 : callable Try.prog 31 = true := by kernel_rfl
theorem cf_32 : callable Try.prog 32 = true := by kernel_rfl
theorem cf_37 : callable Try.prog 37 = true := by kernel_rfl
theorem cf_38 : callable Try.prog 38 = true := by kernel_rfl
theorem cf_39 : callable Try.prog 39 = true := by kernel_rfl
theorem cf_40 : callable Try.prog 40 = true := by kernel_rfl
theorem cf_41 : callable Try.prog 41 = true := by kernel_rfl
theorem cf_50 : callable Try.prog 50 = true := by kernel_rfl
theorem mixed : Try.prog.follows .mixedOrders = true := by kernel_rfl
end Go.Proofs.Ytokljoajalmkfaa
