/- Facts on the types of this seat's program, by a program of this session (gentypes.py). -/
import Derived.Test.YtofbhmcmejhepaaProg
import Derived.Test.YtofbhmcmejhepaaAb16
import Derived.KernelRfl
set_option linter.unusedSimpArgs false
set_option linter.unusedVariables false
set_option maxHeartbeats 1000000
namespace Go.Proofs.Ytofbhmcmejhepaa.T
open Go.Ab
theorem un2 : Try.prog.underlying 2 = some (.int .i64) := by kernel_rfl
theorem zv2 : zvO Try.prog 2 = some (.int .i64 0) := by kernel_rfl
theorem ty2 : tyO Try.prog 2 = some (false, 1) := by kernel_rfl
theorem z2 : zeroO Try.prog 2 = some [.p (.lit (.int .i64 0))] := by kernel_rfl
theorem un3 : Try.prog.underlying 3 = some (.int .i64) := by kernel_rfl
theorem zv3 : zvO Try.prog 3 = some (.int .i64 0) := by kernel_rfl
theorem ty3 : tyO Try.prog 3 = some (false, 1) := by kernel_rfl
theorem z3 : zeroO Try.prog 3 = some [.p (.lit (.int .i64 0))] := by kernel_rfl
theorem un4 : Try.prog.underlying 4 = some .bool := by kernel_rfl
theorem zv4 : zvO Try.prog 4 = some (.bool false) := by kernel_rfl
theorem ty4 : tyO Try.prog 4 = some (false, 1) := by kernel_rfl
theorem z4 : zeroO Try.prog 4 = some [.p (.lit (.bool false))] := by kernel_rfl
theorem un5 : Try.prog.underlying 5 = some (.int .u8) := by kernel_rfl
theorem zv5 : zvO Try.prog 5 = some (.int .u8 0) := by kernel_rfl
theorem ty5 : tyO Try.prog 5 = some (false, 1) := by kernel_rfl
theorem z5 : zeroO Try.prog 5 = some [.p (.lit (.int .u8 0))] := by kernel_rfl
theorem un9 : Try.prog.underlying 9 = some .string := by kernel_rfl
theorem zv9 : zvO Try.prog 9 = some (.string ByteArray.empty) := by kernel_rfl
theorem ty9 : tyO Try.prog 9 = some (false, 1) := by kernel_rfl
theorem z9 : zeroO Try.prog 9 = some [.p (.lit (.string ByteArray.empty))] := by kernel_rfl
theorem un12 : Try.prog.underlying 12 = some (.int .u64) := by kernel_rfl
theorem zv12 : zvO Try.prog 12 = some (.int .u64 0) := by kernel_rfl
theorem ty12 : tyO Try.prog 12 = some (false, 1) := by kernel_rfl
theorem z12 : zeroO Try.prog 12 = some [.p (.lit (.int .u64 0))] := by kernel_rfl
theorem un21 : Try.prog.underlying 21 = some (.int .i32) := by kernel_rfl
theorem zv21 : zvO Try.prog 21 = some (.int .i32 0) := by kernel_rfl
theorem ty21 : tyO Try.prog 21 = some (false, 1) := by kernel_rfl
theorem z21 : zeroO Try.prog 21 = some [.p (.lit (.int .i32 0))] := by kernel_rfl
theorem un22 : Try.prog.underlying 22 = some (.int .u64) := by kernel_rfl
theorem zv22 : zvO Try.prog 22 = some (.int .u64 0) := by kernel_rfl
theorem ty22 : tyO Try.prog 22 = some (false, 1) := by kernel_rfl
theorem z22 : zeroO Try.prog 22 = some [.p (.lit (.int .u64 0))] := by kernel_rfl
theorem un23 : Try.prog.underlying 23 = some (.int .i64) := by kernel_rfl
theorem zv23 : zvO Try.prog 23 = some (.int .i64 0) := by kernel_rfl
theorem ty23 : tyO Try.prog 23 = some (false, 1) := by kernel_rfl
theorem z23 : zeroO Try.prog 23 = some [.p (.lit (.int .i64 0))] := by kernel_rfl
theorem un32 : Try.prog.underlying 32 = some (.slice 34) := by kernel_rfl
theorem ty32 : tyO Try.prog 32 = some (false, 1) := by kernel_rfl
theorem z32 : zeroO Try.prog 32 = some [.nil] := by kernel_rfl
theorem el32 : elO Try.prog 32 = some (4, 56) := by kernel_rfl
theorem ar32 : arO Try.prog 32 = none := by kernel_rfl
theorem sl32 : slO Try.prog 32 = some 4 := by kernel_rfl
theorem ap32 : apO Try.prog 32 = some (4, 56) := by kernel_rfl
theorem ty33 : tyO Try.prog 33 = some (true, 4) := by kernel_rfl
theorem z33 : zeroO Try.prog 33 = some [.p (.lit (.int .i64 0)), .p (.lit (.int .i64 0)), .p (.lit (.string ByteArray.empty)), .nil] := by kernel_rfl
theorem pl33 : plO Try.prog 33 = some [(0, 1), (1, 1), (2, 1), (3, 1)] := by kernel_rfl
theorem fd33_0 : fdO Try.prog 33 0 = some 0 := by kernel_rfl
theorem fd33_1 : fdO Try.prog 33 1 = some 1 := by kernel_rfl
theorem fd33_2 : fdO Try.prog 33 2 = some 2 := by kernel_rfl
theorem fd33_3 : fdO Try.prog 33 3 = some 3 := by kernel_rfl
theorem ar33 : arO Try.prog 33 = none := by kernel_rfl
theorem ty34 : tyO Try.prog 34 = some (true, 4) := by kernel_rfl
theorem z34 : zeroO Try.prog 34 = some [.p (.lit (.int .i64 0)), .p (.lit (.int .i64 0)), .p (.lit (.string ByteArray.empty)), .nil] := by kernel_rfl
theorem pl34 : plO Try.prog 34 = some [(0, 1), (1, 1), (2, 1), (3, 1)] := by kernel_rfl
theorem fd34_0 : fdO Try.prog 34 0 = some 0 := by kernel_rfl
theorem fd34_1 : fdO Try.prog 34 1 = some 1 := by kernel_rfl
theorem fd34_2 : fdO Try.prog 34 2 = some 2 := by kernel_rfl
theorem fd34_3 : fdO Try.prog 34 3 = some 3 := by kernel_rfl
theorem ar34 : arO Try.prog 34 = none := by kernel_rfl
theorem un41 : Try.prog.underlying 41 = some (.slice 45) := by kernel_rfl
theorem ty41 : tyO Try.prog 41 = some (false, 1) := by kernel_rfl
theorem z41 : zeroO Try.prog 41 = some [.nil] := by kernel_rfl
theorem el41 : elO Try.prog 41 = some (9, 104) := by kernel_rfl
theorem ar41 : arO Try.prog 41 = none := by kernel_rfl
theorem sl41 : slO Try.prog 41 = some 9 := by kernel_rfl
theorem ap41 : apO Try.prog 41 = some (9, 104) := by kernel_rfl
theorem ty42 : tyO Try.prog 42 = some (true, 2) := by kernel_rfl
theorem z42 : zeroO Try.prog 42 = some [.nil, .p (.lit (.int .i64 0))] := by kernel_rfl
theorem pl42 : plO Try.prog 42 = some [(0, 1), (1, 1)] := by kernel_rfl
theorem fd42_0 : fdO Try.prog 42 0 = some 0 := by kernel_rfl
theorem fd42_1 : fdO Try.prog 42 1 = some 1 := by kernel_rfl
theorem ar42 : arO Try.prog 42 = none := by kernel_rfl
theorem ty43 : tyO Try.prog 43 = some (true, 2) := by kernel_rfl
theorem z43 : zeroO Try.prog 43 = some [.nil, .p (.lit (.int .i64 0))] := by kernel_rfl
theorem pl43 : plO Try.prog 43 = some [(0, 1), (1, 1)] := by kernel_rfl
theorem fd43_0 : fdO Try.prog 43 0 = some 0 := by kernel_rfl
theorem fd43_1 : fdO Try.prog 43 1 = some 1 := by kernel_rfl
theorem ar43 : arO Try.prog 43 = none := by kernel_rfl
theorem ty44 : tyO Try.prog 44 = some (true, 9) := by kernel_rfl
theorem z44 : zeroO Try.prog 44 = some [.p (.lit (.int .i64 0)), .p (.lit (.int .i64 0)), .p (.lit (.int .i64 0)), .p (.lit (.int .i64 0)), .p (.lit (.string ByteArray.empty)), .p (.lit (.int .i64 0)), .p (.lit (.int .i64 0)), .p (.lit (.string ByteArray.empty)), .nil] := by kernel_rfl
theorem pl44 : plO Try.prog 44 = some [(0, 1), (1, 1), (2, 1), (3, 1), (4, 1), (5, 4)] := by kernel_rfl
theorem fd44_0 : fdO Try.prog 44 0 = some 0 := by kernel_rfl
theorem fd44_1 : fdO Try.prog 44 1 = some 1 := by kernel_rfl
theorem fd44_2 : fdO Try.prog 44 2 = some 2 := by kernel_rfl
theorem fd44_3 : fdO Try.prog 44 3 = some 3 := by kernel_rfl
theorem fd44_4 : fdO Try.prog 44 4 = some 4 := by kernel_rfl
theorem fd44_5 : fdO Try.prog 44 5 = some 5 := by kernel_rfl
theorem ar44 : arO Try.prog 44 = none := by kernel_rfl
theorem ty45 : tyO Try.prog 45 = some (true, 9) := by kernel_rfl
theorem z45 : zeroO Try.prog 45 = some [.p (.lit (.int .i64 0)), .p (.lit (.int .i64 0)), .p (.lit (.int .i64 0)), .p (.lit (.int .i64 0)), .p (.lit (.string ByteArray.empty)), .p (.lit (.int .i64 0)), .p (.lit (.int .i64 0)), .p (.lit (.string ByteArray.empty)), .nil] := by kernel_rfl
theorem pl45 : plO Try.prog 45 = some [(0, 1), (1, 1), (2, 1), (3, 1), (4, 1), (5, 4)] := by kernel_rfl
theorem fd45_0 : fdO Try.prog 45 0 = some 0 := by kernel_rfl
theorem fd45_1 : fdO Try.prog 45 1 = some 1 := by kernel_rfl
theorem fd45_2 : fdO Try.prog 45 2 = some 2 := by kernel_rfl
theorem fd45_3 : fdO Try.prog 45 3 = some 3 := by kernel_rfl
theorem fd45_4 : fdO Try.prog 45 4 = some 4 := by kernel_rfl
theorem fd45_5 : fdO Try.prog 45 5 = some 5 := by kernel_rfl
theorem ar45 : arO Try.prog 45 = none := by kernel_rfl
theorem un55 : Try.prog.underlying 55 = some (.slice 57) := by kernel_rfl
theorem ty55 : tyO Try.prog 55 = some (false, 1) := by kernel_rfl
theorem z55 : zeroO Try.prog 55 = some [.nil] := by kernel_rfl
theorem el55 : elO Try.prog 55 = some (4, 56) := by kernel_rfl
theorem ar55 : arO Try.prog 55 = none := by kernel_rfl
theorem sl55 : slO Try.prog 55 = some 4 := by kernel_rfl
theorem ap55 : apO Try.prog 55 = some (4, 56) := by kernel_rfl
theorem ty56 : tyO Try.prog 56 = some (true, 4) := by kernel_rfl
theorem z56 : zeroO Try.prog 56 = some [.p (.lit (.int .i64 0)), .p (.lit (.int .i64 0)), .p (.lit (.string ByteArray.empty)), .nil] := by kernel_rfl
theorem pl56 : plO Try.prog 56 = some [(0, 1), (1, 1), (2, 1), (3, 1)] := by kernel_rfl
theorem fd56_0 : fdO Try.prog 56 0 = some 0 := by kernel_rfl
theorem fd56_1 : fdO Try.prog 56 1 = some 1 := by kernel_rfl
theorem fd56_2 : fdO Try.prog 56 2 = some 2 := by kernel_rfl
theorem fd56_3 : fdO Try.prog 56 3 = some 3 := by kernel_rfl
theorem ar56 : arO Try.prog 56 = none := by kernel_rfl
theorem ty57 : tyO Try.prog 57 = some (true, 4) := by kernel_rfl
theorem z57 : zeroO Try.prog 57 = some [.p (.lit (.int .i64 0)), .p (.lit (.int .i64 0)), .p (.lit (.string ByteArray.empty)), .nil] := by kernel_rfl
theorem pl57 : plO Try.prog 57 = some [(0, 1), (1, 1), (2, 1), (3, 1)] := by kernel_rfl
theorem fd57_0 : fdO Try.prog 57 0 = some 0 := by kernel_rfl
theorem fd57_1 : fdO Try.prog 57 1 = some 1 := by kernel_rfl
theorem fd57_2 : fdO Try.prog 57 2 = some 2 := by kernel_rfl
theorem fd57_3 : fdO Try.prog 57 3 = some 3 := by kernel_rfl
theorem ar57 : arO Try.prog 57 = none := by kernel_rfl
theorem un64 : Try.prog.underlying 64 = some (.slice 3) := by kernel_rfl
theorem ty64 : tyO Try.prog 64 = some (false, 1) := by kernel_rfl
theorem z64 : zeroO Try.prog 64 = some [.nil] := by kernel_rfl
theorem el64 : elO Try.prog 64 = some (1, 8) := by kernel_rfl
theorem ar64 : arO Try.prog 64 = none := by kernel_rfl
theorem sl64 : slO Try.prog 64 = some 1 := by kernel_rfl
theorem ap64 : apO Try.prog 64 = some (1, 8) := by kernel_rfl
theorem un82 : Try.prog.underlying 82 = some (.int .u64) := by kernel_rfl
theorem zv82 : zvO Try.prog 82 = some (.int .u64 0) := by kernel_rfl
theorem ty82 : tyO Try.prog 82 = some (false, 1) := by kernel_rfl
theorem z82 : zeroO Try.prog 82 = some [.p (.lit (.int .u64 0))] := by kernel_rfl
theorem un83 : Try.prog.underlying 83 = some (.slice 23) := by kernel_rfl
theorem ty83 : tyO Try.prog 83 = some (false, 1) := by kernel_rfl
theorem z83 : zeroO Try.prog 83 = some [.nil] := by kernel_rfl
theorem el83 : elO Try.prog 83 = some (1, 8) := by kernel_rfl
theorem ar83 : arO Try.prog 83 = none := by kernel_rfl
theorem sl83 : slO Try.prog 83 = some 1 := by kernel_rfl
theorem ap83 : apO Try.prog 83 = some (1, 8) := by kernel_rfl
theorem un86 : Try.prog.underlying 86 = some (.array 4 3) := by kernel_rfl
theorem ty86 : tyO Try.prog 86 = some (true, 4) := by kernel_rfl
theorem z86 : zeroO Try.prog 86 = some [.p (.lit (.int .i64 0)), .p (.lit (.int .i64 0)), .p (.lit (.int .i64 0)), .p (.lit (.int .i64 0))] := by kernel_rfl
theorem eq86 : eqO Try.prog 86 = some [.int .i64, .int .i64, .int .i64, .int .i64] := by kernel_rfl
theorem pl86 : plO Try.prog 86 = some [(0, 1), (1, 1), (2, 1), (3, 1)] := by kernel_rfl
theorem ar86 : arO Try.prog 86 = some (4, 1) := by kernel_rfl
theorem un98 : Try.prog.underlying 98 = some (.slice 41) := by kernel_rfl
theorem ty98 : tyO Try.prog 98 = some (false, 1) := by kernel_rfl
theorem z98 : zeroO Try.prog 98 = some [.nil] := by kernel_rfl
theorem el98 : elO Try.prog 98 = some (1, 24) := by kernel_rfl
theorem ar98 : arO Try.prog 98 = none := by kernel_rfl
theorem sl98 : slO Try.prog 98 = some 1 := by kernel_rfl
theorem ap98 : apO Try.prog 98 = some (1, 24) := by kernel_rfl
theorem un109 : Try.prog.underlying 109 = some (.int .u32) := by kernel_rfl
theorem zv109 : zvO Try.prog 109 = some (.int .u32 0) := by kernel_rfl
theorem ty109 : tyO Try.prog 109 = some (false, 1) := by kernel_rfl
theorem z109 : zeroO Try.prog 109 = some [.p (.lit (.int .u32 0))] := by kernel_rfl
theorem ty113 : tyO Try.prog 113 = some (false, 1) := by kernel_rfl
theorem z113 : zeroO Try.prog 113 = some [.p (.lit (.pointer none))] := by kernel_rfl
attribute [go_sem] un2 zv2 ty2 z2 un3 zv3 ty3 z3 un4 zv4 ty4 z4 un5 zv5 ty5 z5 un9 zv9 ty9 z9 un12 zv12 ty12 z12 un21 zv21 ty21 z21 un22 zv22 ty22 z22 un23 zv23 ty23 z23 un32 ty32 z32 el32 ar32 sl32 ap32 ty33 z33 pl33 fd33_0 fd33_1 fd33_2 fd33_3 ar33 ty34 z34 pl34 fd34_0 fd34_1 fd34_2 fd34_3 ar34 un41 ty41 z41 el41 ar41 sl41 ap41 ty42 z42 pl42 fd42_0 fd42_1 ar42 ty43 z43 pl43 fd43_0 fd43_1 ar43 ty44 z44 pl44 fd44_0 fd44_1 fd44_2 fd44_3 fd44_4 fd44_5 ar44 ty45 z45 pl45 fd45_0 fd45_1 fd45_2 fd45_3 fd45_4 fd45_5 ar45 un55 ty55 z55 el55 ar55 sl55 ap55 ty56 z56 pl56 fd56_0 fd56_1 fd56_2 fd56_3 ar56 ty57 z57 pl57 fd57_0 fd57_1 fd57_2 fd57_3 ar57 un64 ty64 z64 el64 ar64 sl64 ap64 un82 zv82 ty82 z82 un83 ty83 z83 el83 ar83 sl83 ap83 un86 ty86 z86 eq86 pl86 ar86 un98 ty98 z98 el98 ar98 sl98 ap98 un109 zv109 ty109 z109 ty113 z113
end Go.Proofs.Ytofbhmcmejhepaa.T
