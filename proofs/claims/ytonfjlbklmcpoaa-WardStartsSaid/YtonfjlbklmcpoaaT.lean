/- Facts on the types of this seat's program, by a program of this session (gentypes.py). -/
import Derived.Test.YtonfjlbklmcpoaaProg
import Derived.Test.YtonfjlbklmcpoaaAb16
import Derived.KernelRfl
set_option linter.unusedSimpArgs false
set_option linter.unusedVariables false
namespace Go.Proofs.Ytonfjlbklmcpoaa.T
open Go.Ab
theorem un2 : Try.prog.underlying 2 = some (.int .i64) := by kernel_rfl
theorem zv2 : zvO Try.prog 2 = some (.int .i64 0) := by kernel_rfl
theorem ty2 : tyO Try.prog 2 = some (false, 1) := by kernel_rfl
theorem z2 : zeroO Try.prog 2 = some [.p (.lit (.int .i64 0))] := by kernel_rfl
theorem un3 : Try.prog.underlying 3 = some (.int .i64) := by kernel_rfl
theorem zv3 : zvO Try.prog 3 = some (.int .i64 0) := by kernel_rfl
theorem ty3 : tyO Try.prog 3 = some (false, 1) := by kernel_rfl
theorem z3 : zeroO Try.prog 3 = some [.p (.lit (.int .i64 0))] := by kernel_rfl
theorem un4 : Try.prog.underlying 4 = some .bool := by kernel_rfl
theorem zv4 : zvO Try.prog 4 = some (.bool false) := by kernel_rfl
theorem ty4 : tyO Try.prog 4 = some (false, 1) := by kernel_rfl
theorem z4 : zeroO Try.prog 4 = some [.p (.lit (.bool false))] := by kernel_rfl
theorem un5 : Try.prog.underlying 5 = some (.int .u8) := by kernel_rfl
theorem zv5 : zvO Try.prog 5 = some (.int .u8 0) := by kernel_rfl
theorem ty5 : tyO Try.prog 5 = some (false, 1) := by kernel_rfl
theorem z5 : zeroO Try.prog 5 = some [.p (.lit (.int .u8 0))] := by kernel_rfl
theorem un9 : Try.prog.underlying 9 = some .string := by kernel_rfl
theorem zv9 : zvO Try.prog 9 = some (.string ByteArray.empty) := by kernel_rfl
theorem ty9 : tyO Try.prog 9 = some (false, 1) := by kernel_rfl
theorem z9 : zeroO Try.prog 9 = some [.p (.lit (.string ByteArray.empty))] := by kernel_rfl
theorem un12 : Try.prog.underlying 12 = some (.int .u64) := by kernel_rfl
theorem zv12 : zvO Try.prog 12 = some (.int .u64 0) := by kernel_rfl
theorem ty12 : tyO Try.prog 12 = some (false, 1) := by kernel_rfl
theorem z12 : zeroO Try.prog 12 = some [.p (.lit (.int .u64 0))] := by kernel_rfl
theorem un21 : Try.prog.underlying 21 = some (.int .i32) := by kernel_rfl
theorem zv21 : zvO Try.prog 21 = some (.int .i32 0) := by kernel_rfl
theorem ty21 : tyO Try.prog 21 = some (false, 1) := by kernel_rfl
theorem z21 : zeroO Try.prog 21 = some [.p (.lit (.int .i32 0))] := by kernel_rfl
theorem un22 : Try.prog.underlying 22 = some (.slice 34) := by kernel_rfl
theorem ty22 : tyO Try.prog 22 = some (false, 1) := by kernel_rfl
theorem z22 : zeroO Try.prog 22 = some [.nil] := by kernel_rfl
theorem el22 : elO Try.prog 22 = some (3, 24) := by kernel_rfl
theorem ar22 : arO Try.prog 22 = none := by kernel_rfl
theorem sl22 : slO Try.prog 22 = some 3 := by kernel_rfl
theorem ap22 : apO Try.prog 22 = some (3, 24) := by kernel_rfl
theorem un23 : Try.prog.underlying 23 = some (.slice 3) := by kernel_rfl
theorem ty23 : tyO Try.prog 23 = some (false, 1) := by kernel_rfl
theorem z23 : zeroO Try.prog 23 = some [.nil] := by kernel_rfl
theorem el23 : elO Try.prog 23 = some (1, 8) := by kernel_rfl
theorem ar23 : arO Try.prog 23 = none := by kernel_rfl
theorem sl23 : slO Try.prog 23 = some 1 := by kernel_rfl
theorem ap23 : apO Try.prog 23 = some (1, 8) := by kernel_rfl
theorem ty24 : tyO Try.prog 24 = some (true, 5) := by kernel_rfl
theorem z24 : zeroO Try.prog 24 = some [.p (.lit (.int .i64 0)), .p (.lit (.int .i64 0)), .p (.lit (.int .i64 0)), .nil, .nil] := by kernel_rfl
theorem pl24 : plO Try.prog 24 = some [(0, 1), (1, 1), (2, 1), (3, 1), (4, 1)] := by kernel_rfl
theorem fd24_0 : fdO Try.prog 24 0 = some 0 := by kernel_rfl
theorem fd24_1 : fdO Try.prog 24 1 = some 1 := by kernel_rfl
theorem fd24_2 : fdO Try.prog 24 2 = some 2 := by kernel_rfl
theorem fd24_3 : fdO Try.prog 24 3 = some 3 := by kernel_rfl
theorem fd24_4 : fdO Try.prog 24 4 = some 4 := by kernel_rfl
theorem ar24 : arO Try.prog 24 = none := by kernel_rfl
theorem ty25 : tyO Try.prog 25 = some (true, 5) := by kernel_rfl
theorem z25 : zeroO Try.prog 25 = some [.p (.lit (.int .i64 0)), .p (.lit (.int .i64 0)), .p (.lit (.int .i64 0)), .nil, .nil] := by kernel_rfl
theorem pl25 : plO Try.prog 25 = some [(0, 1), (1, 1), (2, 1), (3, 1), (4, 1)] := by kernel_rfl
theorem fd25_0 : fdO Try.prog 25 0 = some 0 := by kernel_rfl
theorem fd25_1 : fdO Try.prog 25 1 = some 1 := by kernel_rfl
theorem fd25_2 : fdO Try.prog 25 2 = some 2 := by kernel_rfl
theorem fd25_3 : fdO Try.prog 25 3 = some 3 := by kernel_rfl
theorem fd25_4 : fdO Try.prog 25 4 = some 4 := by kernel_rfl
theorem ar25 : arO Try.prog 25 = none := by kernel_rfl
theorem ty26 : tyO Try.prog 26 = some (true, 3) := by kernel_rfl
theorem z26 : zeroO Try.prog 26 = some [.nil, .nil, .p (.lit (.bool false))] := by kernel_rfl
theorem pl26 : plO Try.prog 26 = some [(0, 1), (1, 1), (2, 1)] := by kernel_rfl
theorem fd26_0 : fdO Try.prog 26 0 = some 0 := by kernel_rfl
theorem fd26_1 : fdO Try.prog 26 1 = some 1 := by kernel_rfl
theorem fd26_2 : fdO Try.prog 26 2 = some 2 := by kernel_rfl
theorem ar26 : arO Try.prog 26 = none := by kernel_rfl
theorem ty27 : tyO Try.prog 27 = some (true, 3) := by kernel_rfl
theorem z27 : zeroO Try.prog 27 = some [.nil, .nil, .p (.lit (.bool false))] := by kernel_rfl
theorem pl27 : plO Try.prog 27 = some [(0, 1), (1, 1), (2, 1)] := by kernel_rfl
theorem fd27_0 : fdO Try.prog 27 0 = some 0 := by kernel_rfl
theorem fd27_1 : fdO Try.prog 27 1 = some 1 := by kernel_rfl
theorem fd27_2 : fdO Try.prog 27 2 = some 2 := by kernel_rfl
theorem ar27 : arO Try.prog 27 = none := by kernel_rfl
theorem un28 : Try.prog.underlying 28 = some (.int .i64) := by kernel_rfl
theorem zv28 : zvO Try.prog 28 = some (.int .i64 0) := by kernel_rfl
theorem ty28 : tyO Try.prog 28 = some (false, 1) := by kernel_rfl
theorem z28 : zeroO Try.prog 28 = some [.p (.lit (.int .i64 0))] := by kernel_rfl
theorem ty33 : tyO Try.prog 33 = some (true, 3) := by kernel_rfl
theorem z33 : zeroO Try.prog 33 = some [.p (.lit (.int .i64 0)), .p (.lit (.int .i64 0)), .p (.lit (.bool false))] := by kernel_rfl
theorem pl33 : plO Try.prog 33 = some [(0, 1), (1, 1), (2, 1)] := by kernel_rfl
theorem fd33_0 : fdO Try.prog 33 0 = some 0 := by kernel_rfl
theorem fd33_1 : fdO Try.prog 33 1 = some 1 := by kernel_rfl
theorem fd33_2 : fdO Try.prog 33 2 = some 2 := by kernel_rfl
theorem ar33 : arO Try.prog 33 = none := by kernel_rfl
theorem eq33 : eqO Try.prog 33 = some [.int .i64, .int .i64, .bool] := by kernel_rfl
theorem ty34 : tyO Try.prog 34 = some (true, 3) := by kernel_rfl
theorem z34 : zeroO Try.prog 34 = some [.p (.lit (.int .i64 0)), .p (.lit (.int .i64 0)), .p (.lit (.bool false))] := by kernel_rfl
theorem pl34 : plO Try.prog 34 = some [(0, 1), (1, 1), (2, 1)] := by kernel_rfl
theorem fd34_0 : fdO Try.prog 34 0 = some 0 := by kernel_rfl
theorem fd34_1 : fdO Try.prog 34 1 = some 1 := by kernel_rfl
theorem fd34_2 : fdO Try.prog 34 2 = some 2 := by kernel_rfl
theorem ar34 : arO Try.prog 34 = none := by kernel_rfl
theorem eq34 : eqO Try.prog 34 = some [.int .i64, .int .i64, .bool] := by kernel_rfl
theorem un38 : Try.prog.underlying 38 = some (.slice 43) := by kernel_rfl
theorem ty38 : tyO Try.prog 38 = some (false, 1) := by kernel_rfl
theorem z38 : zeroO Try.prog 38 = some [.nil] := by kernel_rfl
theorem el38 : elO Try.prog 38 = some (3, 24) := by kernel_rfl
theorem ar38 : arO Try.prog 38 = none := by kernel_rfl
theorem sl38 : slO Try.prog 38 = some 3 := by kernel_rfl
theorem ap38 : apO Try.prog 38 = some (3, 24) := by kernel_rfl
theorem un39 : Try.prog.underlying 39 = some (.slice 27) := by kernel_rfl
theorem ty39 : tyO Try.prog 39 = some (false, 1) := by kernel_rfl
theorem z39 : zeroO Try.prog 39 = some [.nil] := by kernel_rfl
theorem el39 : elO Try.prog 39 = some (3, 56) := by kernel_rfl
theorem ar39 : arO Try.prog 39 = none := by kernel_rfl
theorem sl39 : slO Try.prog 39 = some 3 := by kernel_rfl
theorem ap39 : apO Try.prog 39 = some (3, 56) := by kernel_rfl
theorem ty42 : tyO Try.prog 42 = some (true, 3) := by kernel_rfl
theorem z42 : zeroO Try.prog 42 = some [.p (.lit (.int .i64 0)), .p (.lit (.bool false)), .p (.lit (.int .i64 0))] := by kernel_rfl
theorem pl42 : plO Try.prog 42 = some [(0, 1), (1, 1), (2, 1)] := by kernel_rfl
theorem fd42_0 : fdO Try.prog 42 0 = some 0 := by kernel_rfl
theorem fd42_1 : fdO Try.prog 42 1 = some 1 := by kernel_rfl
theorem fd42_2 : fdO Try.prog 42 2 = some 2 := by kernel_rfl
theorem ar42 : arO Try.prog 42 = none := by kernel_rfl
theorem eq42 : eqO Try.prog 42 = some [.int .i64, .bool, .int .i64] := by kernel_rfl
theorem ty43 : tyO Try.prog 43 = some (true, 3) := by kernel_rfl
theorem z43 : zeroO Try.prog 43 = some [.p (.lit (.int .i64 0)), .p (.lit (.bool false)), .p (.lit (.int .i64 0))] := by kernel_rfl
theorem pl43 : plO Try.prog 43 = some [(0, 1), (1, 1), (2, 1)] := by kernel_rfl
theorem fd43_0 : fdO Try.prog 43 0 = some 0 := by kernel_rfl
theorem fd43_1 : fdO Try.prog 43 1 = some 1 := by kernel_rfl
theorem fd43_2 : fdO Try.prog 43 2 = some 2 := by kernel_rfl
theorem ar43 : arO Try.prog 43 = none := by kernel_rfl
theorem eq43 : eqO Try.prog 43 = some [.int .i64, .bool, .int .i64] := by kernel_rfl
theorem ty59 : tyO Try.prog 59 = some (false, 1) := by kernel_rfl
theorem z59 : zeroO Try.prog 59 = some [.p (.lit (.pointer none))] := by kernel_rfl
theorem un63 : Try.prog.underlying 63 = some (.int .u64) := by kernel_rfl
theorem zv63 : zvO Try.prog 63 = some (.int .u64 0) := by kernel_rfl
theorem ty63 : tyO Try.prog 63 = some (false, 1) := by kernel_rfl
theorem z63 : zeroO Try.prog 63 = some [.p (.lit (.int .u64 0))] := by kernel_rfl
theorem un68 : Try.prog.underlying 68 = some (.int .i64) := by kernel_rfl
theorem zv68 : zvO Try.prog 68 = some (.int .i64 0) := by kernel_rfl
theorem ty68 : tyO Try.prog 68 = some (false, 1) := by kernel_rfl
theorem z68 : zeroO Try.prog 68 = some [.p (.lit (.int .i64 0))] := by kernel_rfl
theorem un77 : Try.prog.underlying 77 = some (.int .u32) := by kernel_rfl
theorem zv77 : zvO Try.prog 77 = some (.int .u32 0) := by kernel_rfl
theorem ty77 : tyO Try.prog 77 = some (false, 1) := by kernel_rfl
theorem z77 : zeroO Try.prog 77 = some [.p (.lit (.int .u32 0))] := by kernel_rfl
theorem un79 : Try.prog.underlying 79 = some (.int .u64) := by kernel_rfl
theorem zv79 : zvO Try.prog 79 = some (.int .u64 0) := by kernel_rfl
theorem ty79 : tyO Try.prog 79 = some (false, 1) := by kernel_rfl
theorem z79 : zeroO Try.prog 79 = some [.p (.lit (.int .u64 0))] := by kernel_rfl
theorem un81 : Try.prog.underlying 81 = some (.int .u64) := by kernel_rfl
theorem zv81 : zvO Try.prog 81 = some (.int .u64 0) := by kernel_rfl
theorem ty81 : tyO Try.prog 81 = some (false, 1) := by kernel_rfl
theorem z81 : zeroO Try.prog 81 = some [.p (.lit (.int .u64 0))] := by kernel_rfl
theorem ty85 : tyO Try.prog 85 = some (false, 1) := by kernel_rfl
theorem z85 : zeroO Try.prog 85 = some [.p (.lit (.pointer none))] := by kernel_rfl
theorem ty87 : tyO Try.prog 87 = some (false, 1) := by kernel_rfl
theorem z87 : zeroO Try.prog 87 = some [.p (.lit (.pointer none))] := by kernel_rfl
theorem ty100 : tyO Try.prog 100 = some (false, 1) := by kernel_rfl
theorem z100 : zeroO Try.prog 100 = some [.p (.lit (.pointer none))] := by kernel_rfl
attribute [go_sem] un2 zv2 ty2 z2 un3 zv3 ty3 z3 un4 zv4 ty4 z4 un5 zv5 ty5 z5 un9 zv9 ty9 z9 un12 zv12 ty12 z12 un21 zv21 ty21 z21 un22 ty22 z22 el22 ar22 sl22 ap22 un23 ty23 z23 el23 ar23 sl23 ap23 ty24 z24 pl24 fd24_0 fd24_1 fd24_2 fd24_3 fd24_4 ar24 ty25 z25 pl25 fd25_0 fd25_1 fd25_2 fd25_3 fd25_4 ar25 ty26 z26 pl26 fd26_0 fd26_1 fd26_2 ar26 ty27 z27 pl27 fd27_0 fd27_1 fd27_2 ar27 un28 zv28 ty28 z28 ty33 z33 pl33 fd33_0 fd33_1 fd33_2 ar33 eq33 ty34 z34 pl34 fd34_0 fd34_1 fd34_2 ar34 eq34 un38 ty38 z38 el38 ar38 sl38 ap38 un39 ty39 z39 el39 ar39 sl39 ap39 ty42 z42 pl42 fd42_0 fd42_1 fd42_2 ar42 eq42 ty43 z43 pl43 fd43_0 fd43_1 fd43_2 ar43 eq43 ty59 z59 un63 zv63 ty63 z63 un68 zv68 ty68 z68 un77 zv77 ty77 z77 un79 zv79 ty79 z79 un81 zv81 ty81 z81 ty85 z85 ty87 z87 ty100 z100
end Go.Proofs.Ytonfjlbklmcpoaa.T
