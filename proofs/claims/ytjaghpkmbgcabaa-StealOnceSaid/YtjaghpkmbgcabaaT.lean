/- Facts on the types of this seat's program, by a program of this session (gentypes.py). -/
import Derived.Test.YtjaghpkmbgcabaaProg
import Derived.Test.YtjaghpkmbgcabaaAb16
import Derived.KernelRfl
set_option linter.unusedSimpArgs false
set_option linter.unusedVariables false
set_option maxHeartbeats 1000000
namespace Go.Proofs.Ytjaghpkmbgcabaa.T
open Go.Ab
theorem un2 : Try.prog.underlying 2 = some (.int .i64) := by kernel_rfl
theorem zv2 : zvO Try.prog 2 = some (.int .i64 0) := by kernel_rfl
theorem ty2 : tyO Try.prog 2 = some (false, 1) := by kernel_rfl
theorem z2 : zeroO Try.prog 2 = some [.p (.lit (.int .i64 0))] := by kernel_rfl
theorem un3 : Try.prog.underlying 3 = some (.int .i64) := by kernel_rfl
theorem zv3 : zvO Try.prog 3 = some (.int .i64 0) := by kernel_rfl
theorem ty3 : tyO Try.prog 3 = some (false, 1) := by kernel_rfl
theorem z3 : zeroO Try.prog 3 = some [.p (.lit (.int .i64 0))] := by kernel_rfl
theorem un4 : Try.prog.underlying 4 = some .bool := by kernel_rfl
theorem zv4 : zvO Try.prog 4 = some (.bool false) := by kernel_rfl
theorem ty4 : tyO Try.prog 4 = some (false, 1) := by kernel_rfl
theorem z4 : zeroO Try.prog 4 = some [.p (.lit (.bool false))] := by kernel_rfl
theorem un5 : Try.prog.underlying 5 = some (.int .u8) := by kernel_rfl
theorem zv5 : zvO Try.prog 5 = some (.int .u8 0) := by kernel_rfl
theorem ty5 : tyO Try.prog 5 = some (false, 1) := by kernel_rfl
theorem z5 : zeroO Try.prog 5 = some [.p (.lit (.int .u8 0))] := by kernel_rfl
theorem un9 : Try.prog.underlying 9 = some .string := by kernel_rfl
theorem zv9 : zvO Try.prog 9 = some (.string ByteArray.empty) := by kernel_rfl
theorem ty9 : tyO Try.prog 9 = some (false, 1) := by kernel_rfl
theorem z9 : zeroO Try.prog 9 = some [.p (.lit (.string ByteArray.empty))] := by kernel_rfl
theorem un12 : Try.prog.underlying 12 = some (.int .u64) := by kernel_rfl
theorem zv12 : zvO Try.prog 12 = some (.int .u64 0) := by kernel_rfl
theorem ty12 : tyO Try.prog 12 = some (false, 1) := by kernel_rfl
theorem z12 : zeroO Try.prog 12 = some [.p (.lit (.int .u64 0))] := by kernel_rfl
theorem un21 : Try.prog.underlying 21 = some (.int .i32) := by kernel_rfl
theorem zv21 : zvO Try.prog 21 = some (.int .i32 0) := by kernel_rfl
theorem ty21 : tyO Try.prog 21 = some (false, 1) := by kernel_rfl
theorem z21 : zeroO Try.prog 21 = some [.p (.lit (.int .i32 0))] := by kernel_rfl
theorem un22 : Try.prog.underlying 22 = some (.slice 29) := by kernel_rfl
theorem ty22 : tyO Try.prog 22 = some (false, 1) := by kernel_rfl
theorem z22 : zeroO Try.prog 22 = some [.nil] := by kernel_rfl
theorem el22 : elO Try.prog 22 = some (2, 16) := by kernel_rfl
theorem ar22 : arO Try.prog 22 = none := by kernel_rfl
theorem sl22 : slO Try.prog 22 = some 2 := by kernel_rfl
theorem ap22 : apO Try.prog 22 = some (2, 16) := by kernel_rfl
theorem un23 : Try.prog.underlying 23 = some (.int .i64) := by kernel_rfl
theorem zv23 : zvO Try.prog 23 = some (.int .i64 0) := by kernel_rfl
theorem ty23 : tyO Try.prog 23 = some (false, 1) := by kernel_rfl
theorem z23 : zeroO Try.prog 23 = some [.p (.lit (.int .i64 0))] := by kernel_rfl
theorem un27 : Try.prog.underlying 27 = some (.map 3 3) := by kernel_rfl
theorem ty27 : tyO Try.prog 27 = some (false, 1) := by kernel_rfl
theorem z27 : zeroO Try.prog 27 = some [.p (.lit (.map none))] := by kernel_rfl
theorem ty28 : tyO Try.prog 28 = some (true, 2) := by kernel_rfl
theorem z28 : zeroO Try.prog 28 = some [.p (.lit (.int .i64 0)), .p (.lit (.int .i64 0))] := by kernel_rfl
theorem pl28 : plO Try.prog 28 = some [(0, 1), (1, 1)] := by kernel_rfl
theorem fd28_0 : fdO Try.prog 28 0 = some 0 := by kernel_rfl
theorem fd28_1 : fdO Try.prog 28 1 = some 1 := by kernel_rfl
theorem ar28 : arO Try.prog 28 = none := by kernel_rfl
theorem eq28 : eqO Try.prog 28 = some [.int .i64, .int .i64] := by kernel_rfl
theorem ty29 : tyO Try.prog 29 = some (true, 2) := by kernel_rfl
theorem z29 : zeroO Try.prog 29 = some [.p (.lit (.int .i64 0)), .p (.lit (.int .i64 0))] := by kernel_rfl
theorem pl29 : plO Try.prog 29 = some [(0, 1), (1, 1)] := by kernel_rfl
theorem fd29_0 : fdO Try.prog 29 0 = some 0 := by kernel_rfl
theorem fd29_1 : fdO Try.prog 29 1 = some 1 := by kernel_rfl
theorem ar29 : arO Try.prog 29 = none := by kernel_rfl
theorem eq29 : eqO Try.prog 29 = some [.int .i64, .int .i64] := by kernel_rfl
theorem un34 : Try.prog.underlying 34 = some (.slice 3) := by kernel_rfl
theorem ty34 : tyO Try.prog 34 = some (false, 1) := by kernel_rfl
theorem z34 : zeroO Try.prog 34 = some [.nil] := by kernel_rfl
theorem el34 : elO Try.prog 34 = some (1, 8) := by kernel_rfl
theorem ar34 : arO Try.prog 34 = none := by kernel_rfl
theorem sl34 : slO Try.prog 34 = some 1 := by kernel_rfl
theorem ap34 : apO Try.prog 34 = some (1, 8) := by kernel_rfl
theorem un40 : Try.prog.underlying 40 = some (.slice 34) := by kernel_rfl
theorem ty40 : tyO Try.prog 40 = some (false, 1) := by kernel_rfl
theorem z40 : zeroO Try.prog 40 = some [.nil] := by kernel_rfl
theorem el40 : elO Try.prog 40 = some (1, 24) := by kernel_rfl
theorem ar40 : arO Try.prog 40 = none := by kernel_rfl
theorem sl40 : slO Try.prog 40 = some 1 := by kernel_rfl
theorem ap40 : apO Try.prog 40 = some (1, 24) := by kernel_rfl
theorem un45 : Try.prog.underlying 45 = some (.slice 34) := by kernel_rfl
theorem ty45 : tyO Try.prog 45 = some (false, 1) := by kernel_rfl
theorem z45 : zeroO Try.prog 45 = some [.nil] := by kernel_rfl
theorem el45 : elO Try.prog 45 = some (1, 24) := by kernel_rfl
theorem ar45 : arO Try.prog 45 = none := by kernel_rfl
theorem sl45 : slO Try.prog 45 = some 1 := by kernel_rfl
theorem ap45 : apO Try.prog 45 = some (1, 24) := by kernel_rfl
theorem un56 : Try.prog.underlying 56 = some (.slice 59) := by kernel_rfl
theorem ty56 : tyO Try.prog 56 = some (false, 1) := by kernel_rfl
theorem z56 : zeroO Try.prog 56 = some [.nil] := by kernel_rfl
theorem el56 : elO Try.prog 56 = some (2, 16) := by kernel_rfl
theorem ar56 : arO Try.prog 56 = none := by kernel_rfl
theorem sl56 : slO Try.prog 56 = some 2 := by kernel_rfl
theorem ap56 : apO Try.prog 56 = some (2, 16) := by kernel_rfl
theorem un59 : Try.prog.underlying 59 = some (.array 2 3) := by kernel_rfl
theorem ty59 : tyO Try.prog 59 = some (true, 2) := by kernel_rfl
theorem z59 : zeroO Try.prog 59 = some [.p (.lit (.int .i64 0)), .p (.lit (.int .i64 0))] := by kernel_rfl
theorem eq59 : eqO Try.prog 59 = some [.int .i64, .int .i64] := by kernel_rfl
theorem pl59 : plO Try.prog 59 = some [(0, 1), (1, 1)] := by kernel_rfl
theorem ar59 : arO Try.prog 59 = some (2, 1) := by kernel_rfl
theorem un66 : Try.prog.underlying 66 = some (.int .u64) := by kernel_rfl
theorem zv66 : zvO Try.prog 66 = some (.int .u64 0) := by kernel_rfl
theorem ty66 : tyO Try.prog 66 = some (false, 1) := by kernel_rfl
theorem z66 : zeroO Try.prog 66 = some [.p (.lit (.int .u64 0))] := by kernel_rfl
theorem un71 : Try.prog.underlying 71 = some (.map 3 4) := by kernel_rfl
theorem ty71 : tyO Try.prog 71 = some (false, 1) := by kernel_rfl
theorem z71 : zeroO Try.prog 71 = some [.p (.lit (.map none))] := by kernel_rfl
theorem un74 : Try.prog.underlying 74 = some (.int .i64) := by kernel_rfl
theorem zv74 : zvO Try.prog 74 = some (.int .i64 0) := by kernel_rfl
theorem ty74 : tyO Try.prog 74 = some (false, 1) := by kernel_rfl
theorem z74 : zeroO Try.prog 74 = some [.p (.lit (.int .i64 0))] := by kernel_rfl
theorem un82 : Try.prog.underlying 82 = some (.int .u32) := by kernel_rfl
theorem zv82 : zvO Try.prog 82 = some (.int .u32 0) := by kernel_rfl
theorem ty82 : tyO Try.prog 82 = some (false, 1) := by kernel_rfl
theorem z82 : zeroO Try.prog 82 = some [.p (.lit (.int .u32 0))] := by kernel_rfl
theorem un84 : Try.prog.underlying 84 = some (.int .u64) := by kernel_rfl
theorem zv84 : zvO Try.prog 84 = some (.int .u64 0) := by kernel_rfl
theorem ty84 : tyO Try.prog 84 = some (false, 1) := by kernel_rfl
theorem z84 : zeroO Try.prog 84 = some [.p (.lit (.int .u64 0))] := by kernel_rfl
theorem un86 : Try.prog.underlying 86 = some (.int .u64) := by kernel_rfl
theorem zv86 : zvO Try.prog 86 = some (.int .u64 0) := by kernel_rfl
theorem ty86 : tyO Try.prog 86 = some (false, 1) := by kernel_rfl
theorem z86 : zeroO Try.prog 86 = some [.p (.lit (.int .u64 0))] := by kernel_rfl
theorem ty90 : tyO Try.prog 90 = some (false, 1) := by kernel_rfl
theorem z90 : zeroO Try.prog 90 = some [.p (.lit (.pointer none))] := by kernel_rfl
theorem ty92 : tyO Try.prog 92 = some (false, 1) := by kernel_rfl
theorem z92 : zeroO Try.prog 92 = some [.p (.lit (.pointer none))] := by kernel_rfl
theorem ty105 : tyO Try.prog 105 = some (false, 1) := by kernel_rfl
theorem z105 : zeroO Try.prog 105 = some [.p (.lit (.pointer none))] := by kernel_rfl
attribute [go_sem] un2 zv2 ty2 z2 un3 zv3 ty3 z3 un4 zv4 ty4 z4 un5 zv5 ty5 z5 un9 zv9 ty9 z9 un12 zv12 ty12 z12 un21 zv21 ty21 z21 un22 ty22 z22 el22 ar22 sl22 ap22 un23 zv23 ty23 z23 un27 ty27 z27 ty28 z28 pl28 fd28_0 fd28_1 ar28 eq28 ty29 z29 pl29 fd29_0 fd29_1 ar29 eq29 un34 ty34 z34 el34 ar34 sl34 ap34 un40 ty40 z40 el40 ar40 sl40 ap40 un45 ty45 z45 el45 ar45 sl45 ap45 un56 ty56 z56 el56 ar56 sl56 ap56 un59 ty59 z59 eq59 pl59 ar59 un66 zv66 ty66 z66 un71 ty71 z71 un74 zv74 ty74 z74 un82 zv82 ty82 z82 un84 zv84 ty84 z84 un86 zv86 ty86 z86 ty90 z90 ty92 z92 ty105 z105
end Go.Proofs.Ytjaghpkmbgcabaa.T
