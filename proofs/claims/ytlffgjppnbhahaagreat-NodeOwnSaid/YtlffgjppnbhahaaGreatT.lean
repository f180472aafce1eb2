/- Facts on the types of this seat's program, by a program of this session (gentypes.py). -/
import Derived.Test.YtlffgjppnbhahaaGreatProg
import Derived.Test.YtlffgjppnbhahaaGreatAb16
import Derived.KernelRfl
set_option linter.unusedSimpArgs false
set_option linter.unusedVariables false
set_option maxHeartbeats 1000000
namespace Go.Proofs.YtlffgjppnbhahaaGreat.T
open Go.Ab
theorem un2 : Tryz.prog.underlying 2 = some (.int .i64) := by kernel_rfl
theorem zv2 : zvO Tryz.prog 2 = some (.int .i64 0) := by kernel_rfl
theorem ty2 : tyO Tryz.prog 2 = some (false, 1) := by kernel_rfl
theorem z2 : zeroO Tryz.prog 2 = some [.p (.lit (.int .i64 0))] := by kernel_rfl
theorem un3 : Tryz.prog.underlying 3 = some (.int .i64) := by kernel_rfl
theorem zv3 : zvO Tryz.prog 3 = some (.int .i64 0) := by kernel_rfl
theorem ty3 : tyO Tryz.prog 3 = some (false, 1) := by kernel_rfl
theorem z3 : zeroO Tryz.prog 3 = some [.p (.lit (.int .i64 0))] := by kernel_rfl
theorem un4 : Tryz.prog.underlying 4 = some .bool := by kernel_rfl
theorem zv4 : zvO Tryz.prog 4 = some (.bool false) := by kernel_rfl
theorem ty4 : tyO Tryz.prog 4 = some (false, 1) := by kernel_rfl
theorem z4 : zeroO Tryz.prog 4 = some [.p (.lit (.bool false))] := by kernel_rfl
theorem un5 : Tryz.prog.underlying 5 = some (.int .u8) := by kernel_rfl
theorem zv5 : zvO Tryz.prog 5 = some (.int .u8 0) := by kernel_rfl
theorem ty5 : tyO Tryz.prog 5 = some (false, 1) := by kernel_rfl
theorem z5 : zeroO Tryz.prog 5 = some [.p (.lit (.int .u8 0))] := by kernel_rfl
theorem un9 : Tryz.prog.underlying 9 = some .string := by kernel_rfl
theorem zv9 : zvO Tryz.prog 9 = some (.string ByteArray.empty) := by kernel_rfl
theorem ty9 : tyO Tryz.prog 9 = some (false, 1) := by kernel_rfl
theorem z9 : zeroO Tryz.prog 9 = some [.p (.lit (.string ByteArray.empty))] := by kernel_rfl
theorem un12 : Tryz.prog.underlying 12 = some (.int .u64) := by kernel_rfl
theorem zv12 : zvO Tryz.prog 12 = some (.int .u64 0) := by kernel_rfl
theorem ty12 : tyO Tryz.prog 12 = some (false, 1) := by kernel_rfl
theorem z12 : zeroO Tryz.prog 12 = some [.p (.lit (.int .u64 0))] := by kernel_rfl
theorem un21 : Tryz.prog.underlying 21 = some (.int .i32) := by kernel_rfl
theorem zv21 : zvO Tryz.prog 21 = some (.int .i32 0) := by kernel_rfl
theorem ty21 : tyO Tryz.prog 21 = some (false, 1) := by kernel_rfl
theorem z21 : zeroO Tryz.prog 21 = some [.p (.lit (.int .i32 0))] := by kernel_rfl
theorem un23 : Tryz.prog.underlying 23 = some (.int .u64) := by kernel_rfl
theorem zv23 : zvO Tryz.prog 23 = some (.int .u64 0) := by kernel_rfl
theorem ty23 : tyO Tryz.prog 23 = some (false, 1) := by kernel_rfl
theorem z23 : zeroO Tryz.prog 23 = some [.p (.lit (.int .u64 0))] := by kernel_rfl
theorem un24 : Tryz.prog.underlying 24 = some (.slice 29) := by kernel_rfl
theorem ty24 : tyO Tryz.prog 24 = some (false, 1) := by kernel_rfl
theorem z24 : zeroO Tryz.prog 24 = some [.nil] := by kernel_rfl
theorem el24 : elO Tryz.prog 24 = some (1, 24) := by kernel_rfl
theorem ar24 : arO Tryz.prog 24 = none := by kernel_rfl
theorem sl24 : slO Tryz.prog 24 = some 1 := by kernel_rfl
theorem ap24 : apO Tryz.prog 24 = some (1, 24) := by kernel_rfl
theorem un25 : Tryz.prog.underlying 25 = some (.slice 29) := by kernel_rfl
theorem ty25 : tyO Tryz.prog 25 = some (false, 1) := by kernel_rfl
theorem z25 : zeroO Tryz.prog 25 = some [.nil] := by kernel_rfl
theorem el25 : elO Tryz.prog 25 = some (1, 24) := by kernel_rfl
theorem ar25 : arO Tryz.prog 25 = none := by kernel_rfl
theorem sl25 : slO Tryz.prog 25 = some 1 := by kernel_rfl
theorem ap25 : apO Tryz.prog 25 = some (1, 24) := by kernel_rfl
theorem un26 : Tryz.prog.underlying 26 = some (.slice 3) := by kernel_rfl
theorem ty26 : tyO Tryz.prog 26 = some (false, 1) := by kernel_rfl
theorem z26 : zeroO Tryz.prog 26 = some [.nil] := by kernel_rfl
theorem el26 : elO Tryz.prog 26 = some (1, 8) := by kernel_rfl
theorem ar26 : arO Tryz.prog 26 = none := by kernel_rfl
theorem sl26 : slO Tryz.prog 26 = some 1 := by kernel_rfl
theorem ap26 : apO Tryz.prog 26 = some (1, 8) := by kernel_rfl
theorem ty27 : tyO Tryz.prog 27 = some (true, 4) := by kernel_rfl
theorem z27 : zeroO Tryz.prog 27 = some [.p (.lit (.int .i64 0)), .p (.lit (.int .i64 0)), .p (.lit (.int .i64 0)), .nil] := by kernel_rfl
theorem pl27 : plO Tryz.prog 27 = some [(0, 1), (1, 1), (2, 1), (3, 1)] := by kernel_rfl
theorem fd27_0 : fdO Tryz.prog 27 0 = some 0 := by kernel_rfl
theorem fd27_1 : fdO Tryz.prog 27 1 = some 1 := by kernel_rfl
theorem fd27_2 : fdO Tryz.prog 27 2 = some 2 := by kernel_rfl
theorem fd27_3 : fdO Tryz.prog 27 3 = some 3 := by kernel_rfl
theorem ar27 : arO Tryz.prog 27 = none := by kernel_rfl
theorem ty28 : tyO Tryz.prog 28 = some (true, 4) := by kernel_rfl
theorem z28 : zeroO Tryz.prog 28 = some [.p (.lit (.int .i64 0)), .p (.lit (.int .i64 0)), .p (.lit (.int .i64 0)), .nil] := by kernel_rfl
theorem pl28 : plO Tryz.prog 28 = some [(0, 1), (1, 1), (2, 1), (3, 1)] := by kernel_rfl
theorem fd28_0 : fdO Tryz.prog 28 0 = some 0 := by kernel_rfl
theorem fd28_1 : fdO Tryz.prog 28 1 = some 1 := by kernel_rfl
theorem fd28_2 : fdO Tryz.prog 28 2 = some 2 := by kernel_rfl
theorem fd28_3 : fdO Tryz.prog 28 3 = some 3 := by kernel_rfl
theorem ar28 : arO Tryz.prog 28 = none := by kernel_rfl
theorem un29 : Tryz.prog.underlying 29 = some (.slice 28) := by kernel_rfl
theorem ty29 : tyO Tryz.prog 29 = some (false, 1) := by kernel_rfl
theorem z29 : zeroO Tryz.prog 29 = some [.nil] := by kernel_rfl
theorem el29 : elO Tryz.prog 29 = some (4, 48) := by kernel_rfl
theorem ar29 : arO Tryz.prog 29 = none := by kernel_rfl
theorem sl29 : slO Tryz.prog 29 = some 4 := by kernel_rfl
theorem ap29 : apO Tryz.prog 29 = some (4, 48) := by kernel_rfl
theorem ty30 : tyO Tryz.prog 30 = some (false, 1) := by kernel_rfl
theorem z30 : zeroO Tryz.prog 30 = some [.p (.lit (.pointer none))] := by kernel_rfl
theorem un31 : Tryz.prog.underlying 31 = some (.int .i64) := by kernel_rfl
theorem zv31 : zvO Tryz.prog 31 = some (.int .i64 0) := by kernel_rfl
theorem ty31 : tyO Tryz.prog 31 = some (false, 1) := by kernel_rfl
theorem z31 : zeroO Tryz.prog 31 = some [.p (.lit (.int .i64 0))] := by kernel_rfl
theorem un39 : Tryz.prog.underlying 39 = some (.slice 41) := by kernel_rfl
theorem ty39 : tyO Tryz.prog 39 = some (false, 1) := by kernel_rfl
theorem z39 : zeroO Tryz.prog 39 = some [.nil] := by kernel_rfl
theorem el39 : elO Tryz.prog 39 = some (4, 56) := by kernel_rfl
theorem ar39 : arO Tryz.prog 39 = none := by kernel_rfl
theorem sl39 : slO Tryz.prog 39 = some 4 := by kernel_rfl
theorem ap39 : apO Tryz.prog 39 = some (4, 56) := by kernel_rfl
theorem ty40 : tyO Tryz.prog 40 = some (true, 4) := by kernel_rfl
theorem z40 : zeroO Tryz.prog 40 = some [.p (.lit (.int .i64 0)), .p (.lit (.int .i64 0)), .p (.lit (.string ByteArray.empty)), .nil] := by kernel_rfl
theorem pl40 : plO Tryz.prog 40 = some [(0, 1), (1, 1), (2, 1), (3, 1)] := by kernel_rfl
theorem fd40_0 : fdO Tryz.prog 40 0 = some 0 := by kernel_rfl
theorem fd40_1 : fdO Tryz.prog 40 1 = some 1 := by kernel_rfl
theorem fd40_2 : fdO Tryz.prog 40 2 = some 2 := by kernel_rfl
theorem fd40_3 : fdO Tryz.prog 40 3 = some 3 := by kernel_rfl
theorem ar40 : arO Tryz.prog 40 = none := by kernel_rfl
theorem ty41 : tyO Tryz.prog 41 = some (true, 4) := by kernel_rfl
theorem z41 : zeroO Tryz.prog 41 = some [.p (.lit (.int .i64 0)), .p (.lit (.int .i64 0)), .p (.lit (.string ByteArray.empty)), .nil] := by kernel_rfl
theorem pl41 : plO Tryz.prog 41 = some [(0, 1), (1, 1), (2, 1), (3, 1)] := by kernel_rfl
theorem fd41_0 : fdO Tryz.prog 41 0 = some 0 := by kernel_rfl
theorem fd41_1 : fdO Tryz.prog 41 1 = some 1 := by kernel_rfl
theorem fd41_2 : fdO Tryz.prog 41 2 = some 2 := by kernel_rfl
theorem fd41_3 : fdO Tryz.prog 41 3 = some 3 := by kernel_rfl
theorem ar41 : arO Tryz.prog 41 = none := by kernel_rfl
theorem ty42 : tyO Tryz.prog 42 = some (true, 9) := by kernel_rfl
theorem z42 : zeroO Tryz.prog 42 = some [.p (.lit (.int .i64 0)), .p (.lit (.int .i64 0)), .p (.lit (.int .i64 0)), .p (.lit (.int .i64 0)), .p (.lit (.string ByteArray.empty)), .p (.lit (.int .i64 0)), .p (.lit (.int .i64 0)), .p (.lit (.string ByteArray.empty)), .nil] := by kernel_rfl
theorem pl42 : plO Tryz.prog 42 = some [(0, 1), (1, 1), (2, 1), (3, 1), (4, 1), (5, 4)] := by kernel_rfl
theorem fd42_0 : fdO Tryz.prog 42 0 = some 0 := by kernel_rfl
theorem fd42_1 : fdO Tryz.prog 42 1 = some 1 := by kernel_rfl
theorem fd42_2 : fdO Tryz.prog 42 2 = some 2 := by kernel_rfl
theorem fd42_3 : fdO Tryz.prog 42 3 = some 3 := by kernel_rfl
theorem fd42_4 : fdO Tryz.prog 42 4 = some 4 := by kernel_rfl
theorem fd42_5 : fdO Tryz.prog 42 5 = some 5 := by kernel_rfl
theorem ar42 : arO Tryz.prog 42 = none := by kernel_rfl
theorem ty43 : tyO Tryz.prog 43 = some (true, 9) := by kernel_rfl
theorem z43 : zeroO Tryz.prog 43 = some [.p (.lit (.int .i64 0)), .p (.lit (.int .i64 0)), .p (.lit (.int .i64 0)), .p (.lit (.int .i64 0)), .p (.lit (.string ByteArray.empty)), .p (.lit (.int .i64 0)), .p (.lit (.int .i64 0)), .p (.lit (.string ByteArray.empty)), .nil] := by kernel_rfl
theorem pl43 : plO Tryz.prog 43 = some [(0, 1), (1, 1), (2, 1), (3, 1), (4, 1), (5, 4)] := by kernel_rfl
theorem fd43_0 : fdO Tryz.prog 43 0 = some 0 := by kernel_rfl
theorem fd43_1 : fdO Tryz.prog 43 1 = some 1 := by kernel_rfl
theorem fd43_2 : fdO Tryz.prog 43 2 = some 2 := by kernel_rfl
theorem fd43_3 : fdO Tryz.prog 43 3 = some 3 := by kernel_rfl
theorem fd43_4 : fdO Tryz.prog 43 4 = some 4 := by kernel_rfl
theorem fd43_5 : fdO Tryz.prog 43 5 = some 5 := by kernel_rfl
theorem ar43 : arO Tryz.prog 43 = none := by kernel_rfl
theorem un45 : Tryz.prog.underlying 45 = some (.slice 43) := by kernel_rfl
theorem ty45 : tyO Tryz.prog 45 = some (false, 1) := by kernel_rfl
theorem z45 : zeroO Tryz.prog 45 = some [.nil] := by kernel_rfl
theorem el45 : elO Tryz.prog 45 = some (9, 104) := by kernel_rfl
theorem ar45 : arO Tryz.prog 45 = none := by kernel_rfl
theorem sl45 : slO Tryz.prog 45 = some 9 := by kernel_rfl
theorem ap45 : apO Tryz.prog 45 = some (9, 104) := by kernel_rfl
theorem un52 : Tryz.prog.underlying 52 = some (.slice 65) := by kernel_rfl
theorem ty52 : tyO Tryz.prog 52 = some (false, 1) := by kernel_rfl
theorem z52 : zeroO Tryz.prog 52 = some [.nil] := by kernel_rfl
theorem el52 : elO Tryz.prog 52 = some (4, 32) := by kernel_rfl
theorem ar52 : arO Tryz.prog 52 = none := by kernel_rfl
theorem sl52 : slO Tryz.prog 52 = some 4 := by kernel_rfl
theorem ap52 : apO Tryz.prog 52 = some (4, 32) := by kernel_rfl
theorem un55 : Tryz.prog.underlying 55 = some (.slice 59) := by kernel_rfl
theorem ty55 : tyO Tryz.prog 55 = some (false, 1) := by kernel_rfl
theorem z55 : zeroO Tryz.prog 55 = some [.nil] := by kernel_rfl
theorem el55 : elO Tryz.prog 55 = some (2, 16) := by kernel_rfl
theorem ar55 : arO Tryz.prog 55 = none := by kernel_rfl
theorem sl55 : slO Tryz.prog 55 = some 2 := by kernel_rfl
theorem ap55 : apO Tryz.prog 55 = some (2, 16) := by kernel_rfl
theorem ty58 : tyO Tryz.prog 58 = some (true, 2) := by kernel_rfl
theorem z58 : zeroO Tryz.prog 58 = some [.p (.lit (.int .i64 0)), .p (.lit (.int .i64 0))] := by kernel_rfl
theorem pl58 : plO Tryz.prog 58 = some [(0, 1), (1, 1)] := by kernel_rfl
theorem fd58_0 : fdO Tryz.prog 58 0 = some 0 := by kernel_rfl
theorem fd58_1 : fdO Tryz.prog 58 1 = some 1 := by kernel_rfl
theorem ar58 : arO Tryz.prog 58 = none := by kernel_rfl
theorem eq58 : eqO Tryz.prog 58 = some [.int .i64, .int .i64] := by kernel_rfl
theorem ty59 : tyO Tryz.prog 59 = some (true, 2) := by kernel_rfl
theorem z59 : zeroO Tryz.prog 59 = some [.p (.lit (.int .i64 0)), .p (.lit (.int .i64 0))] := by kernel_rfl
theorem pl59 : plO Tryz.prog 59 = some [(0, 1), (1, 1)] := by kernel_rfl
theorem fd59_0 : fdO Tryz.prog 59 0 = some 0 := by kernel_rfl
theorem fd59_1 : fdO Tryz.prog 59 1 = some 1 := by kernel_rfl
theorem ar59 : arO Tryz.prog 59 = none := by kernel_rfl
theorem eq59 : eqO Tryz.prog 59 = some [.int .i64, .int .i64] := by kernel_rfl
theorem un62 : Tryz.prog.underlying 62 = some (.array 2 26) := by kernel_rfl
theorem ty62 : tyO Tryz.prog 62 = some (true, 2) := by kernel_rfl
theorem z62 : zeroO Tryz.prog 62 = some [.nil, .nil] := by kernel_rfl
theorem pl62 : plO Tryz.prog 62 = some [(0, 1), (1, 1)] := by kernel_rfl
theorem ar62 : arO Tryz.prog 62 = some (2, 1) := by kernel_rfl
theorem un63 : Tryz.prog.underlying 63 = some (.array 2 3) := by kernel_rfl
theorem ty63 : tyO Tryz.prog 63 = some (true, 2) := by kernel_rfl
theorem z63 : zeroO Tryz.prog 63 = some [.p (.lit (.int .i64 0)), .p (.lit (.int .i64 0))] := by kernel_rfl
theorem eq63 : eqO Tryz.prog 63 = some [.int .i64, .int .i64] := by kernel_rfl
theorem pl63 : plO Tryz.prog 63 = some [(0, 1), (1, 1)] := by kernel_rfl
theorem ar63 : arO Tryz.prog 63 = some (2, 1) := by kernel_rfl
theorem ty64 : tyO Tryz.prog 64 = some (true, 4) := by kernel_rfl
theorem z64 : zeroO Tryz.prog 64 = some [.p (.lit (.int .i64 0)), .p (.lit (.int .i64 0)), .p (.lit (.int .i64 0)), .p (.lit (.int .i64 0))] := by kernel_rfl
theorem pl64 : plO Tryz.prog 64 = some [(0, 1), (1, 1), (2, 1), (3, 1)] := by kernel_rfl
theorem fd64_0 : fdO Tryz.prog 64 0 = some 0 := by kernel_rfl
theorem fd64_1 : fdO Tryz.prog 64 1 = some 1 := by kernel_rfl
theorem fd64_2 : fdO Tryz.prog 64 2 = some 2 := by kernel_rfl
theorem fd64_3 : fdO Tryz.prog 64 3 = some 3 := by kernel_rfl
theorem ar64 : arO Tryz.prog 64 = none := by kernel_rfl
theorem eq64 : eqO Tryz.prog 64 = some [.int .i64, .int .i64, .int .i64, .int .i64] := by kernel_rfl
theorem ty65 : tyO Tryz.prog 65 = some (true, 4) := by kernel_rfl
theorem z65 : zeroO Tryz.prog 65 = some [.p (.lit (.int .i64 0)), .p (.lit (.int .i64 0)), .p (.lit (.int .i64 0)), .p (.lit (.int .i64 0))] := by kernel_rfl
theorem pl65 : plO Tryz.prog 65 = some [(0, 1), (1, 1), (2, 1), (3, 1)] := by kernel_rfl
theorem fd65_0 : fdO Tryz.prog 65 0 = some 0 := by kernel_rfl
theorem fd65_1 : fdO Tryz.prog 65 1 = some 1 := by kernel_rfl
theorem fd65_2 : fdO Tryz.prog 65 2 = some 2 := by kernel_rfl
theorem fd65_3 : fdO Tryz.prog 65 3 = some 3 := by kernel_rfl
theorem ar65 : arO Tryz.prog 65 = none := by kernel_rfl
theorem eq65 : eqO Tryz.prog 65 = some [.int .i64, .int .i64, .int .i64, .int .i64] := by kernel_rfl
theorem un71 : Tryz.prog.underlying 71 = some (.slice 5) := by kernel_rfl
theorem ty71 : tyO Tryz.prog 71 = some (false, 1) := by kernel_rfl
theorem z71 : zeroO Tryz.prog 71 = some [.nil] := by kernel_rfl
theorem el71 : elO Tryz.prog 71 = some (1, 1) := by kernel_rfl
theorem ar71 : arO Tryz.prog 71 = none := by kernel_rfl
theorem sl71 : slO Tryz.prog 71 = some 1 := by kernel_rfl
theorem ap71 : apO Tryz.prog 71 = some (1, 1) := by kernel_rfl
theorem un78 : Tryz.prog.underlying 78 = some (.slice 178) := by kernel_rfl
theorem ty78 : tyO Tryz.prog 78 = some (false, 1) := by kernel_rfl
theorem z78 : zeroO Tryz.prog 78 = some [.nil] := by kernel_rfl
theorem el78 : elO Tryz.prog 78 = some (5, 64) := by kernel_rfl
theorem ar78 : arO Tryz.prog 78 = none := by kernel_rfl
theorem sl78 : slO Tryz.prog 78 = some 5 := by kernel_rfl
theorem ap78 : apO Tryz.prog 78 = some (5, 64) := by kernel_rfl
theorem ty79 : tyO Tryz.prog 79 = some (true, 3) := by kernel_rfl
theorem z79 : zeroO Tryz.prog 79 = some [.p (.lit (.string ByteArray.empty)), .nil, .nil] := by kernel_rfl
theorem pl79 : plO Tryz.prog 79 = some [(0, 1), (1, 1), (2, 1)] := by kernel_rfl
theorem fd79_0 : fdO Tryz.prog 79 0 = some 0 := by kernel_rfl
theorem fd79_1 : fdO Tryz.prog 79 1 = some 1 := by kernel_rfl
theorem fd79_2 : fdO Tryz.prog 79 2 = some 2 := by kernel_rfl
theorem ar79 : arO Tryz.prog 79 = none := by kernel_rfl
theorem ty80 : tyO Tryz.prog 80 = some (true, 3) := by kernel_rfl
theorem z80 : zeroO Tryz.prog 80 = some [.p (.lit (.string ByteArray.empty)), .nil, .nil] := by kernel_rfl
theorem pl80 : plO Tryz.prog 80 = some [(0, 1), (1, 1), (2, 1)] := by kernel_rfl
theorem fd80_0 : fdO Tryz.prog 80 0 = some 0 := by kernel_rfl
theorem fd80_1 : fdO Tryz.prog 80 1 = some 1 := by kernel_rfl
theorem fd80_2 : fdO Tryz.prog 80 2 = some 2 := by kernel_rfl
theorem ar80 : arO Tryz.prog 80 = none := by kernel_rfl
theorem ty81 : tyO Tryz.prog 81 = some (true, 8) := by kernel_rfl
theorem z81 : zeroO Tryz.prog 81 = some [.p (.lit (.int .i64 0)), .p (.lit (.string ByteArray.empty)), .nil, .nil, .nil, .p (.lit (.int .i64 0)), .nil, .nil] := by kernel_rfl
theorem pl81 : plO Tryz.prog 81 = some [(0, 1), (1, 3), (4, 1), (5, 1), (6, 1), (7, 1)] := by kernel_rfl
theorem fd81_0 : fdO Tryz.prog 81 0 = some 0 := by kernel_rfl
theorem fd81_1 : fdO Tryz.prog 81 1 = some 1 := by kernel_rfl
theorem fd81_2 : fdO Tryz.prog 81 2 = some 4 := by kernel_rfl
theorem fd81_3 : fdO Tryz.prog 81 3 = some 5 := by kernel_rfl
theorem fd81_4 : fdO Tryz.prog 81 4 = some 6 := by kernel_rfl
theorem fd81_5 : fdO Tryz.prog 81 5 = some 7 := by kernel_rfl
theorem ar81 : arO Tryz.prog 81 = none := by kernel_rfl
theorem ty82 : tyO Tryz.prog 82 = some (true, 8) := by kernel_rfl
theorem z82 : zeroO Tryz.prog 82 = some [.p (.lit (.int .i64 0)), .p (.lit (.string ByteArray.empty)), .nil, .nil, .nil, .p (.lit (.int .i64 0)), .nil, .nil] := by kernel_rfl
theorem pl82 : plO Tryz.prog 82 = some [(0, 1), (1, 3), (4, 1), (5, 1), (6, 1), (7, 1)] := by kernel_rfl
theorem fd82_0 : fdO Tryz.prog 82 0 = some 0 := by kernel_rfl
theorem fd82_1 : fdO Tryz.prog 82 1 = some 1 := by kernel_rfl
theorem fd82_2 : fdO Tryz.prog 82 2 = some 4 := by kernel_rfl
theorem fd82_3 : fdO Tryz.prog 82 3 = some 5 := by kernel_rfl
theorem fd82_4 : fdO Tryz.prog 82 4 = some 6 := by kernel_rfl
theorem fd82_5 : fdO Tryz.prog 82 5 = some 7 := by kernel_rfl
theorem ar82 : arO Tryz.prog 82 = none := by kernel_rfl
theorem un86 : Tryz.prog.underlying 86 = some (.map 3 4) := by kernel_rfl
theorem ty86 : tyO Tryz.prog 86 = some (false, 1) := by kernel_rfl
theorem z86 : zeroO Tryz.prog 86 = some [.p (.lit (.map none))] := by kernel_rfl
theorem un87 : Tryz.prog.underlying 87 = some (.slice 90) := by kernel_rfl
theorem ty87 : tyO Tryz.prog 87 = some (false, 1) := by kernel_rfl
theorem z87 : zeroO Tryz.prog 87 = some [.nil] := by kernel_rfl
theorem el87 : elO Tryz.prog 87 = some (4, 40) := by kernel_rfl
theorem ar87 : arO Tryz.prog 87 = none := by kernel_rfl
theorem sl87 : slO Tryz.prog 87 = some 4 := by kernel_rfl
theorem ap87 : apO Tryz.prog 87 = some (4, 40) := by kernel_rfl
theorem ty89 : tyO Tryz.prog 89 = some (true, 4) := by kernel_rfl
theorem z89 : zeroO Tryz.prog 89 = some [.p (.lit (.int .i64 0)), .p (.lit (.bool false)), .p (.lit (.bool false)), .nil] := by kernel_rfl
theorem pl89 : plO Tryz.prog 89 = some [(0, 1), (1, 1), (2, 1), (3, 1)] := by kernel_rfl
theorem fd89_0 : fdO Tryz.prog 89 0 = some 0 := by kernel_rfl
theorem fd89_1 : fdO Tryz.prog 89 1 = some 1 := by kernel_rfl
theorem fd89_2 : fdO Tryz.prog 89 2 = some 2 := by kernel_rfl
theorem fd89_3 : fdO Tryz.prog 89 3 = some 3 := by kernel_rfl
theorem ar89 : arO Tryz.prog 89 = none := by kernel_rfl
theorem ty90 : tyO Tryz.prog 90 = some (true, 4) := by kernel_rfl
theorem z90 : zeroO Tryz.prog 90 = some [.p (.lit (.int .i64 0)), .p (.lit (.bool false)), .p (.lit (.bool false)), .nil] := by kernel_rfl
theorem pl90 : plO Tryz.prog 90 = some [(0, 1), (1, 1), (2, 1), (3, 1)] := by kernel_rfl
theorem fd90_0 : fdO Tryz.prog 90 0 = some 0 := by kernel_rfl
theorem fd90_1 : fdO Tryz.prog 90 1 = some 1 := by kernel_rfl
theorem fd90_2 : fdO Tryz.prog 90 2 = some 2 := by kernel_rfl
theorem fd90_3 : fdO Tryz.prog 90 3 = some 3 := by kernel_rfl
theorem ar90 : arO Tryz.prog 90 = none := by kernel_rfl
theorem un99 : Tryz.prog.underlying 99 = some (.map 3 107) := by kernel_rfl
theorem ty99 : tyO Tryz.prog 99 = some (false, 1) := by kernel_rfl
theorem z99 : zeroO Tryz.prog 99 = some [.p (.lit (.map none))] := by kernel_rfl
theorem un100 : Tryz.prog.underlying 100 = some (.map 3 3) := by kernel_rfl
theorem ty100 : tyO Tryz.prog 100 = some (false, 1) := by kernel_rfl
theorem z100 : zeroO Tryz.prog 100 = some [.p (.lit (.map none))] := by kernel_rfl
theorem un101 : Tryz.prog.underlying 101 = some (.slice 135) := by kernel_rfl
theorem ty101 : tyO Tryz.prog 101 = some (false, 1) := by kernel_rfl
theorem z101 : zeroO Tryz.prog 101 = some [.nil] := by kernel_rfl
theorem el101 : elO Tryz.prog 101 = some (3, 56) := by kernel_rfl
theorem ar101 : arO Tryz.prog 101 = none := by kernel_rfl
theorem sl101 : slO Tryz.prog 101 = some 3 := by kernel_rfl
theorem ap101 : apO Tryz.prog 101 = some (3, 56) := by kernel_rfl
theorem ty102 : tyO Tryz.prog 102 = some (true, 10) := by kernel_rfl
theorem z102 : zeroO Tryz.prog 102 = some [.p (.lit (.int .i64 0)), .p (.lit (.int .i64 0)), .p (.lit .nilIface), .p (.lit (.int .i64 0)), .p (.lit (.int .i64 0)), .p (.lit (.map none)), .nil, .p (.lit (.map none)), .nil, .nil] := by kernel_rfl
theorem pl102 : plO Tryz.prog 102 = some [(0, 1), (1, 1), (2, 1), (3, 1), (4, 1), (5, 1), (6, 1), (7, 1), (8, 1), (9, 1)] := by kernel_rfl
theorem fd102_0 : fdO Tryz.prog 102 0 = some 0 := by kernel_rfl
theorem fd102_1 : fdO Tryz.prog 102 1 = some 1 := by kernel_rfl
theorem fd102_2 : fdO Tryz.prog 102 2 = some 2 := by kernel_rfl
theorem fd102_3 : fdO Tryz.prog 102 3 = some 3 := by kernel_rfl
theorem fd102_4 : fdO Tryz.prog 102 4 = some 4 := by kernel_rfl
theorem fd102_5 : fdO Tryz.prog 102 5 = some 5 := by kernel_rfl
theorem fd102_6 : fdO Tryz.prog 102 6 = some 6 := by kernel_rfl
theorem fd102_7 : fdO Tryz.prog 102 7 = some 7 := by kernel_rfl
theorem fd102_8 : fdO Tryz.prog 102 8 = some 8 := by kernel_rfl
theorem fd102_9 : fdO Tryz.prog 102 9 = some 9 := by kernel_rfl
theorem ar102 : arO Tryz.prog 102 = none := by kernel_rfl
theorem ty103 : tyO Tryz.prog 103 = some (true, 10) := by kernel_rfl
theorem z103 : zeroO Tryz.prog 103 = some [.p (.lit (.int .i64 0)), .p (.lit (.int .i64 0)), .p (.lit .nilIface), .p (.lit (.int .i64 0)), .p (.lit (.int .i64 0)), .p (.lit (.map none)), .nil, .p (.lit (.map none)), .nil, .nil] := by kernel_rfl
theorem pl103 : plO Tryz.prog 103 = some [(0, 1), (1, 1), (2, 1), (3, 1), (4, 1), (5, 1), (6, 1), (7, 1), (8, 1), (9, 1)] := by kernel_rfl
theorem fd103_0 : fdO Tryz.prog 103 0 = some 0 := by kernel_rfl
theorem fd103_1 : fdO Tryz.prog 103 1 = some 1 := by kernel_rfl
theorem fd103_2 : fdO Tryz.prog 103 2 = some 2 := by kernel_rfl
theorem fd103_3 : fdO Tryz.prog 103 3 = some 3 := by kernel_rfl
theorem fd103_4 : fdO Tryz.prog 103 4 = some 4 := by kernel_rfl
theorem fd103_5 : fdO Tryz.prog 103 5 = some 5 := by kernel_rfl
theorem fd103_6 : fdO Tryz.prog 103 6 = some 6 := by kernel_rfl
theorem fd103_7 : fdO Tryz.prog 103 7 = some 7 := by kernel_rfl
theorem fd103_8 : fdO Tryz.prog 103 8 = some 8 := by kernel_rfl
theorem fd103_9 : fdO Tryz.prog 103 9 = some 9 := by kernel_rfl
theorem ar103 : arO Tryz.prog 103 = none := by kernel_rfl
theorem ty104 : tyO Tryz.prog 104 = some (false, 1) := by kernel_rfl
theorem z104 : zeroO Tryz.prog 104 = some [.p (.lit (.pointer none))] := by kernel_rfl
theorem ty107 : tyO Tryz.prog 107 = some (false, 1) := by kernel_rfl
theorem z107 : zeroO Tryz.prog 107 = some [.p (.lit (.pointer none))] := by kernel_rfl
theorem ty109 : tyO Tryz.prog 109 = some (true, 2) := by kernel_rfl
theorem z109 : zeroO Tryz.prog 109 = some [.nil, .p (.lit (.int .i64 0))] := by kernel_rfl
theorem pl109 : plO Tryz.prog 109 = some [(0, 1), (1, 1)] := by kernel_rfl
theorem fd109_0 : fdO Tryz.prog 109 0 = some 0 := by kernel_rfl
theorem fd109_1 : fdO Tryz.prog 109 1 = some 1 := by kernel_rfl
theorem ar109 : arO Tryz.prog 109 = none := by kernel_rfl
theorem ty110 : tyO Tryz.prog 110 = some (true, 2) := by kernel_rfl
theorem z110 : zeroO Tryz.prog 110 = some [.nil, .p (.lit (.int .i64 0))] := by kernel_rfl
theorem pl110 : plO Tryz.prog 110 = some [(0, 1), (1, 1)] := by kernel_rfl
theorem fd110_0 : fdO Tryz.prog 110 0 = some 0 := by kernel_rfl
theorem fd110_1 : fdO Tryz.prog 110 1 = some 1 := by kernel_rfl
theorem ar110 : arO Tryz.prog 110 = none := by kernel_rfl
theorem ty111 : tyO Tryz.prog 111 = some (true, 6) := by kernel_rfl
theorem z111 : zeroO Tryz.prog 111 = some [.p (.lit (.pointer none)), .nil, .p (.lit (.int .i64 0)), .p (.lit (.bool false)), .p (.lit (.int .i64 0)), .p (.lit (.map none))] := by kernel_rfl
theorem pl111 : plO Tryz.prog 111 = some [(0, 1), (1, 2), (3, 1), (4, 1), (5, 1)] := by kernel_rfl
theorem fd111_0 : fdO Tryz.prog 111 0 = some 0 := by kernel_rfl
theorem fd111_1 : fdO Tryz.prog 111 1 = some 1 := by kernel_rfl
theorem fd111_2 : fdO Tryz.prog 111 2 = some 3 := by kernel_rfl
theorem fd111_3 : fdO Tryz.prog 111 3 = some 4 := by kernel_rfl
theorem fd111_4 : fdO Tryz.prog 111 4 = some 5 := by kernel_rfl
theorem ar111 : arO Tryz.prog 111 = none := by kernel_rfl
theorem ty112 : tyO Tryz.prog 112 = some (true, 6) := by kernel_rfl
theorem z112 : zeroO Tryz.prog 112 = some [.p (.lit (.pointer none)), .nil, .p (.lit (.int .i64 0)), .p (.lit (.bool false)), .p (.lit (.int .i64 0)), .p (.lit (.map none))] := by kernel_rfl
theorem pl112 : plO Tryz.prog 112 = some [(0, 1), (1, 2), (3, 1), (4, 1), (5, 1)] := by kernel_rfl
theorem fd112_0 : fdO Tryz.prog 112 0 = some 0 := by kernel_rfl
theorem fd112_1 : fdO Tryz.prog 112 1 = some 1 := by kernel_rfl
theorem fd112_2 : fdO Tryz.prog 112 2 = some 3 := by kernel_rfl
theorem fd112_3 : fdO Tryz.prog 112 3 = some 4 := by kernel_rfl
theorem fd112_4 : fdO Tryz.prog 112 4 = some 5 := by kernel_rfl
theorem ar112 : arO Tryz.prog 112 = none := by kernel_rfl
theorem ty114 : tyO Tryz.prog 114 = some (true, 8) := by kernel_rfl
theorem z114 : zeroO Tryz.prog 114 = some [.p (.lit (.int .i64 0)), .p (.lit (.int .i64 0)), .p (.lit (.string ByteArray.empty)), .p (.lit (.int .i64 0)), .p (.lit (.int .i64 0)), .p (.lit (.string ByteArray.empty)), .nil, .nil] := by kernel_rfl
theorem pl114 : plO Tryz.prog 114 = some [(0, 1), (1, 1), (2, 1), (3, 4), (7, 1)] := by kernel_rfl
theorem fd114_0 : fdO Tryz.prog 114 0 = some 0 := by kernel_rfl
theorem fd114_1 : fdO Tryz.prog 114 1 = some 1 := by kernel_rfl
theorem fd114_2 : fdO Tryz.prog 114 2 = some 2 := by kernel_rfl
theorem fd114_3 : fdO Tryz.prog 114 3 = some 3 := by kernel_rfl
theorem fd114_4 : fdO Tryz.prog 114 4 = some 7 := by kernel_rfl
theorem ar114 : arO Tryz.prog 114 = none := by kernel_rfl
theorem ty115 : tyO Tryz.prog 115 = some (true, 8) := by kernel_rfl
theorem z115 : zeroO Tryz.prog 115 = some [.p (.lit (.int .i64 0)), .p (.lit (.int .i64 0)), .p (.lit (.string ByteArray.empty)), .p (.lit (.int .i64 0)), .p (.lit (.int .i64 0)), .p (.lit (.string ByteArray.empty)), .nil, .nil] := by kernel_rfl
theorem pl115 : plO Tryz.prog 115 = some [(0, 1), (1, 1), (2, 1), (3, 4), (7, 1)] := by kernel_rfl
theorem fd115_0 : fdO Tryz.prog 115 0 = some 0 := by kernel_rfl
theorem fd115_1 : fdO Tryz.prog 115 1 = some 1 := by kernel_rfl
theorem fd115_2 : fdO Tryz.prog 115 2 = some 2 := by kernel_rfl
theorem fd115_3 : fdO Tryz.prog 115 3 = some 3 := by kernel_rfl
theorem fd115_4 : fdO Tryz.prog 115 4 = some 7 := by kernel_rfl
theorem ar115 : arO Tryz.prog 115 = none := by kernel_rfl
theorem ty134 : tyO Tryz.prog 134 = some (true, 3) := by kernel_rfl
theorem z134 : zeroO Tryz.prog 134 = some [.p (.lit (.int .i64 0)), .nil, .nil] := by kernel_rfl
theorem pl134 : plO Tryz.prog 134 = some [(0, 1), (1, 1), (2, 1)] := by kernel_rfl
theorem fd134_0 : fdO Tryz.prog 134 0 = some 0 := by kernel_rfl
theorem fd134_1 : fdO Tryz.prog 134 1 = some 1 := by kernel_rfl
theorem fd134_2 : fdO Tryz.prog 134 2 = some 2 := by kernel_rfl
theorem ar134 : arO Tryz.prog 134 = none := by kernel_rfl
theorem ty135 : tyO Tryz.prog 135 = some (true, 3) := by kernel_rfl
theorem z135 : zeroO Tryz.prog 135 = some [.p (.lit (.int .i64 0)), .nil, .nil] := by kernel_rfl
theorem pl135 : plO Tryz.prog 135 = some [(0, 1), (1, 1), (2, 1)] := by kernel_rfl
theorem fd135_0 : fdO Tryz.prog 135 0 = some 0 := by kernel_rfl
theorem fd135_1 : fdO Tryz.prog 135 1 = some 1 := by kernel_rfl
theorem fd135_2 : fdO Tryz.prog 135 2 = some 2 := by kernel_rfl
theorem ar135 : arO Tryz.prog 135 = none := by kernel_rfl
theorem un137 : Tryz.prog.underlying 137 = some (.slice 31) := by kernel_rfl
theorem ty137 : tyO Tryz.prog 137 = some (false, 1) := by kernel_rfl
theorem z137 : zeroO Tryz.prog 137 = some [.nil] := by kernel_rfl
theorem el137 : elO Tryz.prog 137 = some (1, 8) := by kernel_rfl
theorem ar137 : arO Tryz.prog 137 = none := by kernel_rfl
theorem sl137 : slO Tryz.prog 137 = some 1 := by kernel_rfl
theorem ap137 : apO Tryz.prog 137 = some (1, 8) := by kernel_rfl
theorem ty152 : tyO Tryz.prog 152 = some (true, 12) := by kernel_rfl
theorem z152 : zeroO Tryz.prog 152 = some [.p (.lit .nilIface), .p (.lit (.string ByteArray.empty)), .nil, .nil, .p (.lit (.int .i64 0)), .p (.lit (.int .i64 0)), .p (.lit (.string ByteArray.empty)), .p (.lit (.int .i64 0)), .p (.lit (.int .i64 0)), .p (.lit (.string ByteArray.empty)), .nil, .nil] := by kernel_rfl
theorem pl152 : plO Tryz.prog 152 = some [(0, 1), (1, 3), (4, 8)] := by kernel_rfl
theorem fd152_0 : fdO Tryz.prog 152 0 = some 0 := by kernel_rfl
theorem fd152_1 : fdO Tryz.prog 152 1 = some 1 := by kernel_rfl
theorem fd152_2 : fdO Tryz.prog 152 2 = some 4 := by kernel_rfl
theorem ar152 : arO Tryz.prog 152 = none := by kernel_rfl
theorem ty153 : tyO Tryz.prog 153 = some (true, 12) := by kernel_rfl
theorem z153 : zeroO Tryz.prog 153 = some [.p (.lit .nilIface), .p (.lit (.string ByteArray.empty)), .nil, .nil, .p (.lit (.int .i64 0)), .p (.lit (.int .i64 0)), .p (.lit (.string ByteArray.empty)), .p (.lit (.int .i64 0)), .p (.lit (.int .i64 0)), .p (.lit (.string ByteArray.empty)), .nil, .nil] := by kernel_rfl
theorem pl153 : plO Tryz.prog 153 = some [(0, 1), (1, 3), (4, 8)] := by kernel_rfl
theorem fd153_0 : fdO Tryz.prog 153 0 = some 0 := by kernel_rfl
theorem fd153_1 : fdO Tryz.prog 153 1 = some 1 := by kernel_rfl
theorem fd153_2 : fdO Tryz.prog 153 2 = some 4 := by kernel_rfl
theorem ar153 : arO Tryz.prog 153 = none := by kernel_rfl
theorem ty177 : tyO Tryz.prog 177 = some (true, 5) := by kernel_rfl
theorem z177 : zeroO Tryz.prog 177 = some [.p (.lit (.int .i64 0)), .p (.lit (.int .i64 0)), .p (.lit (.int .i64 0)), .p (.lit (.string ByteArray.empty)), .nil] := by kernel_rfl
theorem pl177 : plO Tryz.prog 177 = some [(0, 1), (1, 4)] := by kernel_rfl
theorem fd177_0 : fdO Tryz.prog 177 0 = some 0 := by kernel_rfl
theorem fd177_1 : fdO Tryz.prog 177 1 = some 1 := by kernel_rfl
theorem ar177 : arO Tryz.prog 177 = none := by kernel_rfl
theorem ty178 : tyO Tryz.prog 178 = some (true, 5) := by kernel_rfl
theorem z178 : zeroO Tryz.prog 178 = some [.p (.lit (.int .i64 0)), .p (.lit (.int .i64 0)), .p (.lit (.int .i64 0)), .p (.lit (.string ByteArray.empty)), .nil] := by kernel_rfl
theorem pl178 : plO Tryz.prog 178 = some [(0, 1), (1, 4)] := by kernel_rfl
theorem fd178_0 : fdO Tryz.prog 178 0 = some 0 := by kernel_rfl
theorem fd178_1 : fdO Tryz.prog 178 1 = some 1 := by kernel_rfl
theorem ar178 : arO Tryz.prog 178 = none := by kernel_rfl
theorem un194 : Tryz.prog.underlying 194 = some (.int .i64) := by kernel_rfl
theorem zv194 : zvO Tryz.prog 194 = some (.int .i64 0) := by kernel_rfl
theorem ty194 : tyO Tryz.prog 194 = some (false, 1) := by kernel_rfl
theorem z194 : zeroO Tryz.prog 194 = some [.p (.lit (.int .i64 0))] := by kernel_rfl
theorem un201 : Tryz.prog.underlying 201 = some (.int .u32) := by kernel_rfl
theorem zv201 : zvO Tryz.prog 201 = some (.int .u32 0) := by kernel_rfl
theorem ty201 : tyO Tryz.prog 201 = some (false, 1) := by kernel_rfl
theorem z201 : zeroO Tryz.prog 201 = some [.p (.lit (.int .u32 0))] := by kernel_rfl
theorem un203 : Tryz.prog.underlying 203 = some (.int .u64) := by kernel_rfl
theorem zv203 : zvO Tryz.prog 203 = some (.int .u64 0) := by kernel_rfl
theorem ty203 : tyO Tryz.prog 203 = some (false, 1) := by kernel_rfl
theorem z203 : zeroO Tryz.prog 203 = some [.p (.lit (.int .u64 0))] := by kernel_rfl
theorem un205 : Tryz.prog.underlying 205 = some (.slice 26) := by kernel_rfl
theorem ty205 : tyO Tryz.prog 205 = some (false, 1) := by kernel_rfl
theorem z205 : zeroO Tryz.prog 205 = some [.nil] := by kernel_rfl
theorem el205 : elO Tryz.prog 205 = some (1, 24) := by kernel_rfl
theorem ar205 : arO Tryz.prog 205 = none := by kernel_rfl
theorem sl205 : slO Tryz.prog 205 = some 1 := by kernel_rfl
theorem ap205 : apO Tryz.prog 205 = some (1, 24) := by kernel_rfl
theorem un212 : Tryz.prog.underlying 212 = some (.int .u64) := by kernel_rfl
theorem zv212 : zvO Tryz.prog 212 = some (.int .u64 0) := by kernel_rfl
theorem ty212 : tyO Tryz.prog 212 = some (false, 1) := by kernel_rfl
theorem z212 : zeroO Tryz.prog 212 = some [.p (.lit (.int .u64 0))] := by kernel_rfl
theorem ty216 : tyO Tryz.prog 216 = some (false, 1) := by kernel_rfl
theorem z216 : zeroO Tryz.prog 216 = some [.p (.lit (.pointer none))] := by kernel_rfl
theorem ty218 : tyO Tryz.prog 218 = some (false, 1) := by kernel_rfl
theorem z218 : zeroO Tryz.prog 218 = some [.p (.lit (.pointer none))] := by kernel_rfl
theorem ty230 : tyO Tryz.prog 230 = some (false, 1) := by kernel_rfl
theorem z230 : zeroO Tryz.prog 230 = some [.p (.lit (.pointer none))] := by kernel_rfl
theorem ty235 : tyO Tryz.prog 235 = some (false, 1) := by kernel_rfl
theorem z235 : zeroO Tryz.prog 235 = some [.p (.lit (.pointer none))] := by kernel_rfl
theorem ty236 : tyO Tryz.prog 236 = some (true, 15) := by kernel_rfl
theorem z236 : zeroO Tryz.prog 236 = some [.nil, .p (.lit (.int .i64 0)), .p (.lit (.int .i64 0)), .p (.lit (.int .i64 0)), .p (.lit (.bool false)), .p (.lit (.bool false)), .p (.lit (.bool false)), .p (.lit (.int .i64 0)), .p (.lit (.int .i64 0)), .p (.lit (.string ByteArray.empty)), .p (.lit (.int .i64 0)), .p (.lit (.int .i64 0)), .p (.lit (.string ByteArray.empty)), .nil, .nil] := by kernel_rfl
theorem pl236 : plO Tryz.prog 236 = some [(0, 1), (1, 1), (2, 1), (3, 1), (4, 1), (5, 1), (6, 1), (7, 8)] := by kernel_rfl
theorem fd236_0 : fdO Tryz.prog 236 0 = some 0 := by kernel_rfl
theorem fd236_1 : fdO Tryz.prog 236 1 = some 1 := by kernel_rfl
theorem fd236_2 : fdO Tryz.prog 236 2 = some 2 := by kernel_rfl
theorem fd236_3 : fdO Tryz.prog 236 3 = some 3 := by kernel_rfl
theorem fd236_4 : fdO Tryz.prog 236 4 = some 4 := by kernel_rfl
theorem fd236_5 : fdO Tryz.prog 236 5 = some 5 := by kernel_rfl
theorem fd236_6 : fdO Tryz.prog 236 6 = some 6 := by kernel_rfl
theorem fd236_7 : fdO Tryz.prog 236 7 = some 7 := by kernel_rfl
theorem ar236 : arO Tryz.prog 236 = none := by kernel_rfl
theorem ty237 : tyO Tryz.prog 237 = some (true, 15) := by kernel_rfl
theorem z237 : zeroO Tryz.prog 237 = some [.nil, .p (.lit (.int .i64 0)), .p (.lit (.int .i64 0)), .p (.lit (.int .i64 0)), .p (.lit (.bool false)), .p (.lit (.bool false)), .p (.lit (.bool false)), .p (.lit (.int .i64 0)), .p (.lit (.int .i64 0)), .p (.lit (.string ByteArray.empty)), .p (.lit (.int .i64 0)), .p (.lit (.int .i64 0)), .p (.lit (.string ByteArray.empty)), .nil, .nil] := by kernel_rfl
theorem pl237 : plO Tryz.prog 237 = some [(0, 1), (1, 1), (2, 1), (3, 1), (4, 1), (5, 1), (6, 1), (7, 8)] := by kernel_rfl
theorem fd237_0 : fdO Tryz.prog 237 0 = some 0 := by kernel_rfl
theorem fd237_1 : fdO Tryz.prog 237 1 = some 1 := by kernel_rfl
theorem fd237_2 : fdO Tryz.prog 237 2 = some 2 := by kernel_rfl
theorem fd237_3 : fdO Tryz.prog 237 3 = some 3 := by kernel_rfl
theorem fd237_4 : fdO Tryz.prog 237 4 = some 4 := by kernel_rfl
theorem fd237_5 : fdO Tryz.prog 237 5 = some 5 := by kernel_rfl
theorem fd237_6 : fdO Tryz.prog 237 6 = some 6 := by kernel_rfl
theorem fd237_7 : fdO Tryz.prog 237 7 = some 7 := by kernel_rfl
theorem ar237 : arO Tryz.prog 237 = none := by kernel_rfl
attribute [go_sem] un2 zv2 ty2 z2 un3 zv3 ty3 z3 un4 zv4 ty4 z4 un5 zv5 ty5 z5 un9 zv9 ty9 z9 un12 zv12 ty12 z12 un21 zv21 ty21 z21 un23 zv23 ty23 z23 un24 ty24 z24 el24 ar24 sl24 ap24 un25 ty25 z25 el25 ar25 sl25 ap25 un26 ty26 z26 el26 ar26 sl26 ap26 ty27 z27 pl27 fd27_0 fd27_1 fd27_2 fd27_3 ar27 ty28 z28 pl28 fd28_0 fd28_1 fd28_2 fd28_3 ar28 un29 ty29 z29 el29 ar29 sl29 ap29 ty30 z30 un31 zv31 ty31 z31 un39 ty39 z39 el39 ar39 sl39 ap39 ty40 z40 pl40 fd40_0 fd40_1 fd40_2 fd40_3 ar40 ty41 z41 pl41 fd41_0 fd41_1 fd41_2 fd41_3 ar41 ty42 z42 pl42 fd42_0 fd42_1 fd42_2 fd42_3 fd42_4 fd42_5 ar42 ty43 z43 pl43 fd43_0 fd43_1 fd43_2 fd43_3 fd43_4 fd43_5 ar43 un45 ty45 z45 el45 ar45 sl45 ap45 un52 ty52 z52 el52 ar52 sl52 ap52 un55 ty55 z55 el55 ar55 sl55 ap55 ty58 z58 pl58 fd58_0 fd58_1 ar58 eq58 ty59 z59 pl59 fd59_0 fd59_1 ar59 eq59 un62 ty62 z62 pl62 ar62 un63 ty63 z63 eq63 pl63 ar63 ty64 z64 pl64 fd64_0 fd64_1 fd64_2 fd64_3 ar64 eq64 ty65 z65 pl65 fd65_0 fd65_1 fd65_2 fd65_3 ar65 eq65 un71 ty71 z71 el71 ar71 sl71 ap71 un78 ty78 z78 el78 ar78 sl78 ap78 ty79 z79 pl79 fd79_0 fd79_1 fd79_2 ar79 ty80 z80 pl80 fd80_0 fd80_1 fd80_2 ar80 ty81 z81 pl81 fd81_0 fd81_1 fd81_2 fd81_3 fd81_4 fd81_5 ar81 ty82 z82 pl82 fd82_0 fd82_1 fd82_2 fd82_3 fd82_4 fd82_5 ar82 un86 ty86 z86 un87 ty87 z87 el87 ar87 sl87 ap87 ty89 z89 pl89 fd89_0 fd89_1 fd89_2 fd89_3 ar89 ty90 z90 pl90 fd90_0 fd90_1 fd90_2 fd90_3 ar90 un99 ty99 z99 un100 ty100 z100 un101 ty101 z101 el101 ar101 sl101 ap101 ty102 z102 pl102 fd102_0 fd102_1 fd102_2 fd102_3 fd102_4 fd102_5 fd102_6 fd102_7 fd102_8 fd102_9 ar102 ty103 z103 pl103 fd103_0 fd103_1 fd103_2 fd103_3 fd103_4 fd103_5 fd103_6 fd103_7 fd103_8 fd103_9 ar103 ty104 z104 ty107 z107 ty109 z109 pl109 fd109_0 fd109_1 ar109 ty110 z110 pl110 fd110_0 fd110_1 ar110 ty111 z111 pl111 fd111_0 fd111_1 fd111_2 fd111_3 fd111_4 ar111 ty112 z112 pl112 fd112_0 fd112_1 fd112_2 fd112_3 fd112_4 ar112 ty114 z114 pl114 fd114_0 fd114_1 fd114_2 fd114_3 fd114_4 ar114 ty115 z115 pl115 fd115_0 fd115_1 fd115_2 fd115_3 fd115_4 ar115 ty134 z134 pl134 fd134_0 fd134_1 fd134_2 ar134 ty135 z135 pl135 fd135_0 fd135_1 fd135_2 ar135 un137 ty137 z137 el137 ar137 sl137 ap137 ty152 z152 pl152 fd152_0 fd152_1 fd152_2 ar152 ty153 z153 pl153 fd153_0 fd153_1 fd153_2 ar153 ty177 z177 pl177 fd177_0 fd177_1 ar177 ty178 z178 pl178 fd178_0 fd178_1 ar178 un194 zv194 ty194 z194 un201 zv201 ty201 z201 un203 zv203 ty203 z203 un205 ty205 z205 el205 ar205 sl205 ap205 un212 zv212 ty212 z212 ty216 z216 ty218 z218 ty230 z230 ty235 z235 ty236 z236 pl236 fd236_0 fd236_1 fd236_2 fd236_3 fd236_4 fd236_5 fd236_6 fd236_7 ar236 ty237 z237 pl237 fd237_0 fd237_1 fd237_2 fd237_3 fd237_4 fd237_5 fd237_6 fd237_7 ar237
end Go.Proofs.YtlffgjppnbhahaaGreat.T
