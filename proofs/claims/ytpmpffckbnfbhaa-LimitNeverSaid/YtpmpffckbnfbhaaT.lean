/- Facts on the types of this seat's program, by a program of this session (gentypes.py). -/
import Derived.Test.YtpmpffckbnfbhaaProg
import Derived.Test.YtpmpffckbnfbhaaAb16
import Derived.KernelRfl
set_option linter.unusedSimpArgs false
set_option linter.unusedVariables false
namespace Go.Proofs.Ytpmpffckbnfbhaa.T
open Go.Ab
theorem un2 : Try.prog.underlying 2 = some (.int .i64) := by kernel_rfl
theorem zv2 : zvO Try.prog 2 = some (.int .i64 0) := by kernel_rfl
theorem ty2 : tyO Try.prog 2 = some (false, 1) := by kernel_rfl
theorem z2 : zeroO Try.prog 2 = some [.p (.lit (.int .i64 0))] := by kernel_rfl
theorem un3 : Try.prog.underlying 3 = some (.int .i64) := by kernel_rfl
theorem zv3 : zvO Try.prog 3 = some (.int .i64 0) := by kernel_rfl
theorem ty3 : tyO Try.prog 3 = some (false, 1) := by kernel_rfl
theorem z3 : zeroO Try.prog 3 = some [.p (.lit (.int .i64 0))] := by kernel_rfl
theorem un4 : Try.prog.underlying 4 = some .bool := by kernel_rfl
theorem zv4 : zvO Try.prog 4 = some (.bool false) := by kernel_rfl
theorem ty4 : tyO Try.prog 4 = some (false, 1) := by kernel_rfl
theorem z4 : zeroO Try.prog 4 = some [.p (.lit (.bool false))] := by kernel_rfl
theorem un5 : Try.prog.underlying 5 = some (.int .u8) := by kernel_rfl
theorem zv5 : zvO Try.prog 5 = some (.int .u8 0) := by kernel_rfl
theorem ty5 : tyO Try.prog 5 = some (false, 1) := by kernel_rfl
theorem z5 : zeroO Try.prog 5 = some [.p (.lit (.int .u8 0))] := by kernel_rfl
theorem un9 : Try.prog.underlying 9 = some .string := by kernel_rfl
theorem zv9 : zvO Try.prog 9 = some (.string ByteArray.empty) := by kernel_rfl
theorem ty9 : tyO Try.prog 9 = some (false, 1) := by kernel_rfl
theorem z9 : zeroO Try.prog 9 = some [.p (.lit (.string ByteArray.empty))] := by kernel_rfl
theorem un12 : Try.prog.underlying 12 = some (.int .u64) := by kernel_rfl
theorem zv12 : zvO Try.prog 12 = some (.int .u64 0) := by kernel_rfl
theorem ty12 : tyO Try.prog 12 = some (false, 1) := by kernel_rfl
theorem z12 : zeroO Try.prog 12 = some [.p (.lit (.int .u64 0))] := by kernel_rfl
theorem un21 : Try.prog.underlying 21 = some (.int .i32) := by kernel_rfl
theorem zv21 : zvO Try.prog 21 = some (.int .i32 0) := by kernel_rfl
theorem ty21 : tyO Try.prog 21 = some (false, 1) := by kernel_rfl
theorem z21 : zeroO Try.prog 21 = some [.p (.lit (.int .i32 0))] := by kernel_rfl
theorem un22 : Try.prog.underlying 22 = some (.slice 40) := by kernel_rfl
theorem ty22 : tyO Try.prog 22 = some (false, 1) := by kernel_rfl
theorem z22 : zeroO Try.prog 22 = some [.nil] := by kernel_rfl
theorem el22 : elO Try.prog 22 = some (2, 24) := by kernel_rfl
theorem ar22 : arO Try.prog 22 = none := by kernel_rfl
theorem sl22 : slO Try.prog 22 = some 2 := by kernel_rfl
theorem ap22 : apO Try.prog 22 = some (2, 24) := by kernel_rfl
theorem un23 : Try.prog.underlying 23 = some (.slice 40) := by kernel_rfl
theorem ty23 : tyO Try.prog 23 = some (false, 1) := by kernel_rfl
theorem z23 : zeroO Try.prog 23 = some [.nil] := by kernel_rfl
theorem el23 : elO Try.prog 23 = some (2, 24) := by kernel_rfl
theorem ar23 : arO Try.prog 23 = none := by kernel_rfl
theorem sl23 : slO Try.prog 23 = some 2 := by kernel_rfl
theorem ap23 : apO Try.prog 23 = some (2, 24) := by kernel_rfl
theorem un24 : Try.prog.underlying 24 = some (.int .i64) := by kernel_rfl
theorem zv24 : zvO Try.prog 24 = some (.int .i64 0) := by kernel_rfl
theorem ty24 : tyO Try.prog 24 = some (false, 1) := by kernel_rfl
theorem z24 : zeroO Try.prog 24 = some [.p (.lit (.int .i64 0))] := by kernel_rfl
theorem ty39 : tyO Try.prog 39 = some (true, 2) := by kernel_rfl
theorem z39 : zeroO Try.prog 39 = some [.p (.lit (.string ByteArray.empty)), .p (.lit (.int .i64 0))] := by kernel_rfl
theorem pl39 : plO Try.prog 39 = some [(0, 1), (1, 1)] := by kernel_rfl
theorem fd39_0 : fdO Try.prog 39 0 = some 0 := by kernel_rfl
theorem fd39_1 : fdO Try.prog 39 1 = some 1 := by kernel_rfl
theorem ar39 : arO Try.prog 39 = none := by kernel_rfl
theorem eq39 : eqO Try.prog 39 = some [.str, .int .i64] := by kernel_rfl
theorem ty40 : tyO Try.prog 40 = some (true, 2) := by kernel_rfl
theorem z40 : zeroO Try.prog 40 = some [.p (.lit (.string ByteArray.empty)), .p (.lit (.int .i64 0))] := by kernel_rfl
theorem pl40 : plO Try.prog 40 = some [(0, 1), (1, 1)] := by kernel_rfl
theorem fd40_0 : fdO Try.prog 40 0 = some 0 := by kernel_rfl
theorem fd40_1 : fdO Try.prog 40 1 = some 1 := by kernel_rfl
theorem ar40 : arO Try.prog 40 = none := by kernel_rfl
theorem eq40 : eqO Try.prog 40 = some [.str, .int .i64] := by kernel_rfl
theorem un41 : Try.prog.underlying 41 = some (.slice 46) := by kernel_rfl
theorem ty41 : tyO Try.prog 41 = some (false, 1) := by kernel_rfl
theorem z41 : zeroO Try.prog 41 = some [.nil] := by kernel_rfl
theorem el41 : elO Try.prog 41 = some (5, 40) := by kernel_rfl
theorem ar41 : arO Try.prog 41 = none := by kernel_rfl
theorem sl41 : slO Try.prog 41 = some 5 := by kernel_rfl
theorem ap41 : apO Try.prog 41 = some (5, 40) := by kernel_rfl
theorem ty45 : tyO Try.prog 45 = some (true, 5) := by kernel_rfl
theorem z45 : zeroO Try.prog 45 = some [.p (.lit (.int .i64 0)), .p (.lit (.int .i64 0)), .p (.lit (.int .i64 0)), .p (.lit (.int .i64 0)), .p (.lit (.int .i64 0))] := by kernel_rfl
theorem pl45 : plO Try.prog 45 = some [(0, 1), (1, 1), (2, 1), (3, 1), (4, 1)] := by kernel_rfl
theorem fd45_0 : fdO Try.prog 45 0 = some 0 := by kernel_rfl
theorem fd45_1 : fdO Try.prog 45 1 = some 1 := by kernel_rfl
theorem fd45_2 : fdO Try.prog 45 2 = some 2 := by kernel_rfl
theorem fd45_3 : fdO Try.prog 45 3 = some 3 := by kernel_rfl
theorem fd45_4 : fdO Try.prog 45 4 = some 4 := by kernel_rfl
theorem ar45 : arO Try.prog 45 = none := by kernel_rfl
theorem eq45 : eqO Try.prog 45 = some [.int .i64, .int .i64, .int .i64, .int .i64, .int .i64] := by kernel_rfl
theorem ty46 : tyO Try.prog 46 = some (true, 5) := by kernel_rfl
theorem z46 : zeroO Try.prog 46 = some [.p (.lit (.int .i64 0)), .p (.lit (.int .i64 0)), .p (.lit (.int .i64 0)), .p (.lit (.int .i64 0)), .p (.lit (.int .i64 0))] := by kernel_rfl
theorem pl46 : plO Try.prog 46 = some [(0, 1), (1, 1), (2, 1), (3, 1), (4, 1)] := by kernel_rfl
theorem fd46_0 : fdO Try.prog 46 0 = some 0 := by kernel_rfl
theorem fd46_1 : fdO Try.prog 46 1 = some 1 := by kernel_rfl
theorem fd46_2 : fdO Try.prog 46 2 = some 2 := by kernel_rfl
theorem fd46_3 : fdO Try.prog 46 3 = some 3 := by kernel_rfl
theorem fd46_4 : fdO Try.prog 46 4 = some 4 := by kernel_rfl
theorem ar46 : arO Try.prog 46 = none := by kernel_rfl
theorem eq46 : eqO Try.prog 46 = some [.int .i64, .int .i64, .int .i64, .int .i64, .int .i64] := by kernel_rfl
theorem un52 : Try.prog.underlying 52 = some (.array 2 3) := by kernel_rfl
theorem ty52 : tyO Try.prog 52 = some (true, 2) := by kernel_rfl
theorem z52 : zeroO Try.prog 52 = some [.p (.lit (.int .i64 0)), .p (.lit (.int .i64 0))] := by kernel_rfl
theorem eq52 : eqO Try.prog 52 = some [.int .i64, .int .i64] := by kernel_rfl
theorem pl52 : plO Try.prog 52 = some [(0, 1), (1, 1)] := by kernel_rfl
theorem ar52 : arO Try.prog 52 = some (2, 1) := by kernel_rfl
theorem un55 : Try.prog.underlying 55 = some (.slice 56) := by kernel_rfl
theorem ty55 : tyO Try.prog 55 = some (false, 1) := by kernel_rfl
theorem z55 : zeroO Try.prog 55 = some [.nil] := by kernel_rfl
theorem el55 : elO Try.prog 55 = some (5, 40) := by kernel_rfl
theorem ar55 : arO Try.prog 55 = none := by kernel_rfl
theorem sl55 : slO Try.prog 55 = some 5 := by kernel_rfl
theorem ap55 : apO Try.prog 55 = some (5, 40) := by kernel_rfl
theorem un56 : Try.prog.underlying 56 = some (.array 5 3) := by kernel_rfl
theorem ty56 : tyO Try.prog 56 = some (true, 5) := by kernel_rfl
theorem z56 : zeroO Try.prog 56 = some [.p (.lit (.int .i64 0)), .p (.lit (.int .i64 0)), .p (.lit (.int .i64 0)), .p (.lit (.int .i64 0)), .p (.lit (.int .i64 0))] := by kernel_rfl
theorem eq56 : eqO Try.prog 56 = some [.int .i64, .int .i64, .int .i64, .int .i64, .int .i64] := by kernel_rfl
theorem pl56 : plO Try.prog 56 = some [(0, 1), (1, 1), (2, 1), (3, 1), (4, 1)] := by kernel_rfl
theorem ar56 : arO Try.prog 56 = some (5, 1) := by kernel_rfl
theorem un63 : Try.prog.underlying 63 = some (.slice 24) := by kernel_rfl
theorem ty63 : tyO Try.prog 63 = some (false, 1) := by kernel_rfl
theorem z63 : zeroO Try.prog 63 = some [.nil] := by kernel_rfl
theorem el63 : elO Try.prog 63 = some (1, 8) := by kernel_rfl
theorem ar63 : arO Try.prog 63 = none := by kernel_rfl
theorem sl63 : slO Try.prog 63 = some 1 := by kernel_rfl
theorem ap63 : apO Try.prog 63 = some (1, 8) := by kernel_rfl
theorem un79 : Try.prog.underlying 79 = some (.int .u64) := by kernel_rfl
theorem zv79 : zvO Try.prog 79 = some (.int .u64 0) := by kernel_rfl
theorem ty79 : tyO Try.prog 79 = some (false, 1) := by kernel_rfl
theorem z79 : zeroO Try.prog 79 = some [.p (.lit (.int .u64 0))] := by kernel_rfl
theorem un88 : Try.prog.underlying 88 = some (.int .u32) := by kernel_rfl
theorem zv88 : zvO Try.prog 88 = some (.int .u32 0) := by kernel_rfl
theorem ty88 : tyO Try.prog 88 = some (false, 1) := by kernel_rfl
theorem z88 : zeroO Try.prog 88 = some [.p (.lit (.int .u32 0))] := by kernel_rfl
theorem ty92 : tyO Try.prog 92 = some (false, 1) := by kernel_rfl
theorem z92 : zeroO Try.prog 92 = some [.p (.lit (.pointer none))] := by kernel_rfl
attribute [go_sem] un2 zv2 ty2 z2 un3 zv3 ty3 z3 un4 zv4 ty4 z4 un5 zv5 ty5 z5 un9 zv9 ty9 z9 un12 zv12 ty12 z12 un21 zv21 ty21 z21 un22 ty22 z22 el22 ar22 sl22 ap22 un23 ty23 z23 el23 ar23 sl23 ap23 un24 zv24 ty24 z24 ty39 z39 pl39 fd39_0 fd39_1 ar39 eq39 ty40 z40 pl40 fd40_0 fd40_1 ar40 eq40 un41 ty41 z41 el41 ar41 sl41 ap41 ty45 z45 pl45 fd45_0 fd45_1 fd45_2 fd45_3 fd45_4 ar45 eq45 ty46 z46 pl46 fd46_0 fd46_1 fd46_2 fd46_3 fd46_4 ar46 eq46 un52 ty52 z52 eq52 pl52 ar52 un55 ty55 z55 el55 ar55 sl55 ap55 un56 ty56 z56 eq56 pl56 ar56 un63 ty63 z63 el63 ar63 sl63 ap63 un79 zv79 ty79 z79 un88 zv88 ty88 z88 ty92 z92
end Go.Proofs.Ytpmpffckbnfbhaa.T
