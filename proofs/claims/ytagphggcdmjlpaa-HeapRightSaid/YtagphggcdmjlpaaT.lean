/- Facts on the types of this seat's program, by a program of this session (gentypes.py). -/
import Derived.Test.YtagphggcdmjlpaaProg
import Derived.Test.YtagphggcdmjlpaaAb16
import Derived.KernelRfl
set_option linter.unusedSimpArgs false
set_option linter.unusedVariables false
set_option maxHeartbeats 1000000
namespace Go.Proofs.Ytagphggcdmjlpaa.T
open Go.Ab
theorem un2 : Try.prog.underlying 2 = some (.int .i64) := by kernel_rfl
theorem zv2 : zvO Try.prog 2 = some (.int .i64 0) := by kernel_rfl
theorem ty2 : tyO Try.prog 2 = some (false, 1) := by kernel_rfl
theorem z2 : zeroO Try.prog 2 = some [.p (.lit (.int .i64 0))] := by kernel_rfl
theorem un3 : Try.prog.underlying 3 = some (.int .i64) := by kernel_rfl
theorem zv3 : zvO Try.prog 3 = some (.int .i64 0) := by kernel_rfl
theorem ty3 : tyO Try.prog 3 = some (false, 1) := by kernel_rfl
theorem z3 : zeroO Try.prog 3 = some [.p (.lit (.int .i64 0))] := by kernel_rfl
theorem un4 : Try.prog.underlying 4 = some .bool := by kernel_rfl
theorem zv4 : zvO Try.prog 4 = some (.bool false) := by kernel_rfl
theorem ty4 : tyO Try.prog 4 = some (false, 1) := by kernel_rfl
theorem z4 : zeroO Try.prog 4 = some [.p (.lit (.bool false))] := by kernel_rfl
theorem un5 : Try.prog.underlying 5 = some (.int .u8) := by kernel_rfl
theorem zv5 : zvO Try.prog 5 = some (.int .u8 0) := by kernel_rfl
theorem ty5 : tyO Try.prog 5 = some (false, 1) := by kernel_rfl
theorem z5 : zeroO Try.prog 5 = some [.p (.lit (.int .u8 0))] := by kernel_rfl
theorem un9 : Try.prog.underlying 9 = some .string := by kernel_rfl
theorem zv9 : zvO Try.prog 9 = some (.string ByteArray.empty) := by kernel_rfl
theorem ty9 : tyO Try.prog 9 = some (false, 1) := by kernel_rfl
theorem z9 : zeroO Try.prog 9 = some [.p (.lit (.string ByteArray.empty))] := by kernel_rfl
theorem un12 : Try.prog.underlying 12 = some (.int .u64) := by kernel_rfl
theorem zv12 : zvO Try.prog 12 = some (.int .u64 0) := by kernel_rfl
theorem ty12 : tyO Try.prog 12 = some (false, 1) := by kernel_rfl
theorem z12 : zeroO Try.prog 12 = some [.p (.lit (.int .u64 0))] := by kernel_rfl
theorem un21 : Try.prog.underlying 21 = some (.int .i32) := by kernel_rfl
theorem zv21 : zvO Try.prog 21 = some (.int .i32 0) := by kernel_rfl
theorem ty21 : tyO Try.prog 21 = some (false, 1) := by kernel_rfl
theorem z21 : zeroO Try.prog 21 = some [.p (.lit (.int .i32 0))] := by kernel_rfl
theorem un22 : Try.prog.underlying 22 = some (.slice 34) := by kernel_rfl
theorem ty22 : tyO Try.prog 22 = some (false, 1) := by kernel_rfl
theorem z22 : zeroO Try.prog 22 = some [.nil] := by kernel_rfl
theorem el22 : elO Try.prog 22 = some (1, 8) := by kernel_rfl
theorem ar22 : arO Try.prog 22 = none := by kernel_rfl
theorem sl22 : slO Try.prog 22 = some 1 := by kernel_rfl
theorem ap22 : apO Try.prog 22 = some (1, 8) := by kernel_rfl
theorem un23 : Try.prog.underlying 23 = some (.slice 34) := by kernel_rfl
theorem ty23 : tyO Try.prog 23 = some (false, 1) := by kernel_rfl
theorem z23 : zeroO Try.prog 23 = some [.nil] := by kernel_rfl
theorem el23 : elO Try.prog 23 = some (1, 8) := by kernel_rfl
theorem ar23 : arO Try.prog 23 = none := by kernel_rfl
theorem sl23 : slO Try.prog 23 = some 1 := by kernel_rfl
theorem ap23 : apO Try.prog 23 = some (1, 8) := by kernel_rfl
theorem un24 : Try.prog.underlying 24 = some (.slice 30) := by kernel_rfl
theorem ty24 : tyO Try.prog 24 = some (false, 1) := by kernel_rfl
theorem z24 : zeroO Try.prog 24 = some [.nil] := by kernel_rfl
theorem el24 : elO Try.prog 24 = some (5, 64) := by kernel_rfl
theorem ar24 : arO Try.prog 24 = none := by kernel_rfl
theorem sl24 : slO Try.prog 24 = some 5 := by kernel_rfl
theorem ap24 : apO Try.prog 24 = some (5, 64) := by kernel_rfl
theorem un25 : Try.prog.underlying 25 = some (.int .i64) := by kernel_rfl
theorem zv25 : zvO Try.prog 25 = some (.int .i64 0) := by kernel_rfl
theorem ty25 : tyO Try.prog 25 = some (false, 1) := by kernel_rfl
theorem z25 : zeroO Try.prog 25 = some [.p (.lit (.int .i64 0))] := by kernel_rfl
theorem ty29 : tyO Try.prog 29 = some (true, 5) := by kernel_rfl
theorem z29 : zeroO Try.prog 29 = some [.p (.lit (.int .i64 0)), .p (.lit (.int .i64 0)), .p (.lit (.int .i64 0)), .p (.lit (.string ByteArray.empty)), .nil] := by kernel_rfl
theorem pl29 : plO Try.prog 29 = some [(0, 1), (1, 1), (2, 1), (3, 1), (4, 1)] := by kernel_rfl
theorem fd29_0 : fdO Try.prog 29 0 = some 0 := by kernel_rfl
theorem fd29_1 : fdO Try.prog 29 1 = some 1 := by kernel_rfl
theorem fd29_2 : fdO Try.prog 29 2 = some 2 := by kernel_rfl
theorem fd29_3 : fdO Try.prog 29 3 = some 3 := by kernel_rfl
theorem fd29_4 : fdO Try.prog 29 4 = some 4 := by kernel_rfl
theorem ar29 : arO Try.prog 29 = none := by kernel_rfl
theorem ty30 : tyO Try.prog 30 = some (true, 5) := by kernel_rfl
theorem z30 : zeroO Try.prog 30 = some [.p (.lit (.int .i64 0)), .p (.lit (.int .i64 0)), .p (.lit (.int .i64 0)), .p (.lit (.string ByteArray.empty)), .nil] := by kernel_rfl
theorem pl30 : plO Try.prog 30 = some [(0, 1), (1, 1), (2, 1), (3, 1), (4, 1)] := by kernel_rfl
theorem fd30_0 : fdO Try.prog 30 0 = some 0 := by kernel_rfl
theorem fd30_1 : fdO Try.prog 30 1 = some 1 := by kernel_rfl
theorem fd30_2 : fdO Try.prog 30 2 = some 2 := by kernel_rfl
theorem fd30_3 : fdO Try.prog 30 3 = some 3 := by kernel_rfl
theorem fd30_4 : fdO Try.prog 30 4 = some 4 := by kernel_rfl
theorem ar30 : arO Try.prog 30 = none := by kernel_rfl
theorem un34 : Try.prog.underlying 34 = some (.int .u64) := by kernel_rfl
theorem zv34 : zvO Try.prog 34 = some (.int .u64 0) := by kernel_rfl
theorem ty34 : tyO Try.prog 34 = some (false, 1) := by kernel_rfl
theorem z34 : zeroO Try.prog 34 = some [.p (.lit (.int .u64 0))] := by kernel_rfl
theorem un36 : Try.prog.underlying 36 = some (.slice 38) := by kernel_rfl
theorem ty36 : tyO Try.prog 36 = some (false, 1) := by kernel_rfl
theorem z36 : zeroO Try.prog 36 = some [.nil] := by kernel_rfl
theorem el36 : elO Try.prog 36 = some (4, 56) := by kernel_rfl
theorem ar36 : arO Try.prog 36 = none := by kernel_rfl
theorem sl36 : slO Try.prog 36 = some 4 := by kernel_rfl
theorem ap36 : apO Try.prog 36 = some (4, 56) := by kernel_rfl
theorem ty37 : tyO Try.prog 37 = some (true, 4) := by kernel_rfl
theorem z37 : zeroO Try.prog 37 = some [.p (.lit (.int .i64 0)), .p (.lit (.int .i64 0)), .p (.lit (.string ByteArray.empty)), .nil] := by kernel_rfl
theorem pl37 : plO Try.prog 37 = some [(0, 1), (1, 1), (2, 1), (3, 1)] := by kernel_rfl
theorem fd37_0 : fdO Try.prog 37 0 = some 0 := by kernel_rfl
theorem fd37_1 : fdO Try.prog 37 1 = some 1 := by kernel_rfl
theorem fd37_2 : fdO Try.prog 37 2 = some 2 := by kernel_rfl
theorem fd37_3 : fdO Try.prog 37 3 = some 3 := by kernel_rfl
theorem ar37 : arO Try.prog 37 = none := by kernel_rfl
theorem ty38 : tyO Try.prog 38 = some (true, 4) := by kernel_rfl
theorem z38 : zeroO Try.prog 38 = some [.p (.lit (.int .i64 0)), .p (.lit (.int .i64 0)), .p (.lit (.string ByteArray.empty)), .nil] := by kernel_rfl
theorem pl38 : plO Try.prog 38 = some [(0, 1), (1, 1), (2, 1), (3, 1)] := by kernel_rfl
theorem fd38_0 : fdO Try.prog 38 0 = some 0 := by kernel_rfl
theorem fd38_1 : fdO Try.prog 38 1 = some 1 := by kernel_rfl
theorem fd38_2 : fdO Try.prog 38 2 = some 2 := by kernel_rfl
theorem fd38_3 : fdO Try.prog 38 3 = some 3 := by kernel_rfl
theorem ar38 : arO Try.prog 38 = none := by kernel_rfl
theorem un55 : Try.prog.underlying 55 = some (.map 3 3) := by kernel_rfl
theorem ty55 : tyO Try.prog 55 = some (false, 1) := by kernel_rfl
theorem z55 : zeroO Try.prog 55 = some [.p (.lit (.map none))] := by kernel_rfl
theorem un58 : Try.prog.underlying 58 = some (.slice 3) := by kernel_rfl
theorem ty58 : tyO Try.prog 58 = some (false, 1) := by kernel_rfl
theorem z58 : zeroO Try.prog 58 = some [.nil] := by kernel_rfl
theorem el58 : elO Try.prog 58 = some (1, 8) := by kernel_rfl
theorem ar58 : arO Try.prog 58 = none := by kernel_rfl
theorem sl58 : slO Try.prog 58 = some 1 := by kernel_rfl
theorem ap58 : apO Try.prog 58 = some (1, 8) := by kernel_rfl
theorem ty63 : tyO Try.prog 63 = some (true, 3) := by kernel_rfl
theorem z63 : zeroO Try.prog 63 = some [.nil, .p (.lit (.int .i64 0)), .nil] := by kernel_rfl
theorem pl63 : plO Try.prog 63 = some [(0, 1), (1, 1), (2, 1)] := by kernel_rfl
theorem fd63_0 : fdO Try.prog 63 0 = some 0 := by kernel_rfl
theorem fd63_1 : fdO Try.prog 63 1 = some 1 := by kernel_rfl
theorem fd63_2 : fdO Try.prog 63 2 = some 2 := by kernel_rfl
theorem ar63 : arO Try.prog 63 = none := by kernel_rfl
theorem ty64 : tyO Try.prog 64 = some (true, 3) := by kernel_rfl
theorem z64 : zeroO Try.prog 64 = some [.nil, .p (.lit (.int .i64 0)), .nil] := by kernel_rfl
theorem pl64 : plO Try.prog 64 = some [(0, 1), (1, 1), (2, 1)] := by kernel_rfl
theorem fd64_0 : fdO Try.prog 64 0 = some 0 := by kernel_rfl
theorem fd64_1 : fdO Try.prog 64 1 = some 1 := by kernel_rfl
theorem fd64_2 : fdO Try.prog 64 2 = some 2 := by kernel_rfl
theorem ar64 : arO Try.prog 64 = none := by kernel_rfl
theorem un70 : Try.prog.underlying 70 = some (.slice 139) := by kernel_rfl
theorem ty70 : tyO Try.prog 70 = some (false, 1) := by kernel_rfl
theorem z70 : zeroO Try.prog 70 = some [.nil] := by kernel_rfl
theorem el70 : elO Try.prog 70 = some (2, 16) := by kernel_rfl
theorem ar70 : arO Try.prog 70 = none := by kernel_rfl
theorem sl70 : slO Try.prog 70 = some 2 := by kernel_rfl
theorem ap70 : apO Try.prog 70 = some (2, 16) := by kernel_rfl
theorem un76 : Try.prog.underlying 76 = some (.slice 25) := by kernel_rfl
theorem ty76 : tyO Try.prog 76 = some (false, 1) := by kernel_rfl
theorem z76 : zeroO Try.prog 76 = some [.nil] := by kernel_rfl
theorem el76 : elO Try.prog 76 = some (1, 8) := by kernel_rfl
theorem ar76 : arO Try.prog 76 = none := by kernel_rfl
theorem sl76 : slO Try.prog 76 = some 1 := by kernel_rfl
theorem ap76 : apO Try.prog 76 = some (1, 8) := by kernel_rfl
theorem un81 : Try.prog.underlying 81 = some (.slice 86) := by kernel_rfl
theorem ty81 : tyO Try.prog 81 = some (false, 1) := by kernel_rfl
theorem z81 : zeroO Try.prog 81 = some [.nil] := by kernel_rfl
theorem el81 : elO Try.prog 81 = some (2, 24) := by kernel_rfl
theorem ar81 : arO Try.prog 81 = none := by kernel_rfl
theorem sl81 : slO Try.prog 81 = some 2 := by kernel_rfl
theorem ap81 : apO Try.prog 81 = some (2, 24) := by kernel_rfl
theorem un82 : Try.prog.underlying 82 = some (.slice 86) := by kernel_rfl
theorem ty82 : tyO Try.prog 82 = some (false, 1) := by kernel_rfl
theorem z82 : zeroO Try.prog 82 = some [.nil] := by kernel_rfl
theorem el82 : elO Try.prog 82 = some (2, 24) := by kernel_rfl
theorem ar82 : arO Try.prog 82 = none := by kernel_rfl
theorem sl82 : slO Try.prog 82 = some 2 := by kernel_rfl
theorem ap82 : apO Try.prog 82 = some (2, 24) := by kernel_rfl
theorem ty85 : tyO Try.prog 85 = some (true, 2) := by kernel_rfl
theorem z85 : zeroO Try.prog 85 = some [.p (.lit (.string ByteArray.empty)), .p (.lit (.int .i64 0))] := by kernel_rfl
theorem pl85 : plO Try.prog 85 = some [(0, 1), (1, 1)] := by kernel_rfl
theorem fd85_0 : fdO Try.prog 85 0 = some 0 := by kernel_rfl
theorem fd85_1 : fdO Try.prog 85 1 = some 1 := by kernel_rfl
theorem ar85 : arO Try.prog 85 = none := by kernel_rfl
theorem eq85 : eqO Try.prog 85 = some [.str, .int .i64] := by kernel_rfl
theorem ty86 : tyO Try.prog 86 = some (true, 2) := by kernel_rfl
theorem z86 : zeroO Try.prog 86 = some [.p (.lit (.string ByteArray.empty)), .p (.lit (.int .i64 0))] := by kernel_rfl
theorem pl86 : plO Try.prog 86 = some [(0, 1), (1, 1)] := by kernel_rfl
theorem fd86_0 : fdO Try.prog 86 0 = some 0 := by kernel_rfl
theorem fd86_1 : fdO Try.prog 86 1 = some 1 := by kernel_rfl
theorem ar86 : arO Try.prog 86 = none := by kernel_rfl
theorem eq86 : eqO Try.prog 86 = some [.str, .int .i64] := by kernel_rfl
theorem un94 : Try.prog.underlying 94 = some (.array 6 23) := by kernel_rfl
theorem ty94 : tyO Try.prog 94 = some (true, 6) := by kernel_rfl
theorem z94 : zeroO Try.prog 94 = some [.nil, .nil, .nil, .nil, .nil, .nil] := by kernel_rfl
theorem pl94 : plO Try.prog 94 = some [(0, 1), (1, 1), (2, 1), (3, 1), (4, 1), (5, 1)] := by kernel_rfl
theorem ar94 : arO Try.prog 94 = some (6, 1) := by kernel_rfl
theorem un95 : Try.prog.underlying 95 = some (.array 2 82) := by kernel_rfl
theorem ty95 : tyO Try.prog 95 = some (true, 2) := by kernel_rfl
theorem z95 : zeroO Try.prog 95 = some [.nil, .nil] := by kernel_rfl
theorem pl95 : plO Try.prog 95 = some [(0, 1), (1, 1)] := by kernel_rfl
theorem ar95 : arO Try.prog 95 = some (2, 1) := by kernel_rfl
theorem un100 : Try.prog.underlying 100 = some (.int .u64) := by kernel_rfl
theorem zv100 : zvO Try.prog 100 = some (.int .u64 0) := by kernel_rfl
theorem ty100 : tyO Try.prog 100 = some (false, 1) := by kernel_rfl
theorem z100 : zeroO Try.prog 100 = some [.p (.lit (.int .u64 0))] := by kernel_rfl
theorem un101 : Try.prog.underlying 101 = some (.slice 5) := by kernel_rfl
theorem ty101 : tyO Try.prog 101 = some (false, 1) := by kernel_rfl
theorem z101 : zeroO Try.prog 101 = some [.nil] := by kernel_rfl
theorem el101 : elO Try.prog 101 = some (1, 1) := by kernel_rfl
theorem ar101 : arO Try.prog 101 = none := by kernel_rfl
theorem sl101 : slO Try.prog 101 = some 1 := by kernel_rfl
theorem ap101 : apO Try.prog 101 = some (1, 1) := by kernel_rfl
theorem ty109 : tyO Try.prog 109 = some (false, 1) := by kernel_rfl
theorem z109 : zeroO Try.prog 109 = some [.p (.lit (.pointer none))] := by kernel_rfl
theorem un110 : Try.prog.underlying 110 = some (.array 2 23) := by kernel_rfl
theorem ty110 : tyO Try.prog 110 = some (true, 2) := by kernel_rfl
theorem z110 : zeroO Try.prog 110 = some [.nil, .nil] := by kernel_rfl
theorem pl110 : plO Try.prog 110 = some [(0, 1), (1, 1)] := by kernel_rfl
theorem ar110 : arO Try.prog 110 = some (2, 1) := by kernel_rfl
theorem ty111 : tyO Try.prog 111 = some (false, 1) := by kernel_rfl
theorem z111 : zeroO Try.prog 111 = some [.p (.lit (.pointer none))] := by kernel_rfl
theorem un112 : Try.prog.underlying 112 = some (.map 3 34) := by kernel_rfl
theorem ty112 : tyO Try.prog 112 = some (false, 1) := by kernel_rfl
theorem z112 : zeroO Try.prog 112 = some [.p (.lit (.map none))] := by kernel_rfl
theorem ty113 : tyO Try.prog 113 = some (true, 4) := by kernel_rfl
theorem z113 : zeroO Try.prog 113 = some [.nil, .nil, .nil, .p (.lit (.map none))] := by kernel_rfl
theorem pl113 : plO Try.prog 113 = some [(0, 1), (1, 1), (2, 1), (3, 1)] := by kernel_rfl
theorem fd113_0 : fdO Try.prog 113 0 = some 0 := by kernel_rfl
theorem fd113_1 : fdO Try.prog 113 1 = some 1 := by kernel_rfl
theorem fd113_2 : fdO Try.prog 113 2 = some 2 := by kernel_rfl
theorem fd113_3 : fdO Try.prog 113 3 = some 3 := by kernel_rfl
theorem ar113 : arO Try.prog 113 = none := by kernel_rfl
theorem ty114 : tyO Try.prog 114 = some (true, 4) := by kernel_rfl
theorem z114 : zeroO Try.prog 114 = some [.nil, .nil, .nil, .p (.lit (.map none))] := by kernel_rfl
theorem pl114 : plO Try.prog 114 = some [(0, 1), (1, 1), (2, 1), (3, 1)] := by kernel_rfl
theorem fd114_0 : fdO Try.prog 114 0 = some 0 := by kernel_rfl
theorem fd114_1 : fdO Try.prog 114 1 = some 1 := by kernel_rfl
theorem fd114_2 : fdO Try.prog 114 2 = some 2 := by kernel_rfl
theorem fd114_3 : fdO Try.prog 114 3 = some 3 := by kernel_rfl
theorem ar114 : arO Try.prog 114 = none := by kernel_rfl
theorem un116 : Try.prog.underlying 116 = some (.slice 118) := by kernel_rfl
theorem ty116 : tyO Try.prog 116 = some (false, 1) := by kernel_rfl
theorem z116 : zeroO Try.prog 116 = some [.nil] := by kernel_rfl
theorem el116 : elO Try.prog 116 = some (2, 16) := by kernel_rfl
theorem ar116 : arO Try.prog 116 = none := by kernel_rfl
theorem sl116 : slO Try.prog 116 = some 2 := by kernel_rfl
theorem ap116 : apO Try.prog 116 = some (2, 16) := by kernel_rfl
theorem ty117 : tyO Try.prog 117 = some (true, 2) := by kernel_rfl
theorem z117 : zeroO Try.prog 117 = some [.p (.lit (.int .u64 0)), .p (.lit (.int .u64 0))] := by kernel_rfl
theorem pl117 : plO Try.prog 117 = some [(0, 1), (1, 1)] := by kernel_rfl
theorem fd117_0 : fdO Try.prog 117 0 = some 0 := by kernel_rfl
theorem fd117_1 : fdO Try.prog 117 1 = some 1 := by kernel_rfl
theorem ar117 : arO Try.prog 117 = none := by kernel_rfl
theorem eq117 : eqO Try.prog 117 = some [.int .u64, .int .u64] := by kernel_rfl
theorem ty118 : tyO Try.prog 118 = some (true, 2) := by kernel_rfl
theorem z118 : zeroO Try.prog 118 = some [.p (.lit (.int .u64 0)), .p (.lit (.int .u64 0))] := by kernel_rfl
theorem pl118 : plO Try.prog 118 = some [(0, 1), (1, 1)] := by kernel_rfl
theorem fd118_0 : fdO Try.prog 118 0 = some 0 := by kernel_rfl
theorem fd118_1 : fdO Try.prog 118 1 = some 1 := by kernel_rfl
theorem ar118 : arO Try.prog 118 = none := by kernel_rfl
theorem eq118 : eqO Try.prog 118 = some [.int .u64, .int .u64] := by kernel_rfl
theorem un124 : Try.prog.underlying 124 = some (.map 3 4) := by kernel_rfl
theorem ty124 : tyO Try.prog 124 = some (false, 1) := by kernel_rfl
theorem z124 : zeroO Try.prog 124 = some [.p (.lit (.map none))] := by kernel_rfl
theorem un139 : Try.prog.underlying 139 = some (.array 2 3) := by kernel_rfl
theorem ty139 : tyO Try.prog 139 = some (true, 2) := by kernel_rfl
theorem z139 : zeroO Try.prog 139 = some [.p (.lit (.int .i64 0)), .p (.lit (.int .i64 0))] := by kernel_rfl
theorem eq139 : eqO Try.prog 139 = some [.int .i64, .int .i64] := by kernel_rfl
theorem pl139 : plO Try.prog 139 = some [(0, 1), (1, 1)] := by kernel_rfl
theorem ar139 : arO Try.prog 139 = some (2, 1) := by kernel_rfl
theorem ty140 : tyO Try.prog 140 = some (false, 1) := by kernel_rfl
theorem z140 : zeroO Try.prog 140 = some [.p (.lit (.pointer none))] := by kernel_rfl
theorem ty141 : tyO Try.prog 141 = some (true, 4) := by kernel_rfl
theorem z141 : zeroO Try.prog 141 = some [.nil, .p (.lit (.int .i64 0)), .nil, .p (.lit (.map none))] := by kernel_rfl
theorem pl141 : plO Try.prog 141 = some [(0, 1), (1, 1), (2, 1), (3, 1)] := by kernel_rfl
theorem fd141_0 : fdO Try.prog 141 0 = some 0 := by kernel_rfl
theorem fd141_1 : fdO Try.prog 141 1 = some 1 := by kernel_rfl
theorem fd141_2 : fdO Try.prog 141 2 = some 2 := by kernel_rfl
theorem fd141_3 : fdO Try.prog 141 3 = some 3 := by kernel_rfl
theorem ar141 : arO Try.prog 141 = none := by kernel_rfl
theorem ty142 : tyO Try.prog 142 = some (true, 4) := by kernel_rfl
theorem z142 : zeroO Try.prog 142 = some [.nil, .p (.lit (.int .i64 0)), .nil, .p (.lit (.map none))] := by kernel_rfl
theorem pl142 : plO Try.prog 142 = some [(0, 1), (1, 1), (2, 1), (3, 1)] := by kernel_rfl
theorem fd142_0 : fdO Try.prog 142 0 = some 0 := by kernel_rfl
theorem fd142_1 : fdO Try.prog 142 1 = some 1 := by kernel_rfl
theorem fd142_2 : fdO Try.prog 142 2 = some 2 := by kernel_rfl
theorem fd142_3 : fdO Try.prog 142 3 = some 3 := by kernel_rfl
theorem ar142 : arO Try.prog 142 = none := by kernel_rfl
theorem un164 : Try.prog.underlying 164 = some (.array 4 3) := by kernel_rfl
theorem ty164 : tyO Try.prog 164 = some (true, 4) := by kernel_rfl
theorem z164 : zeroO Try.prog 164 = some [.p (.lit (.int .i64 0)), .p (.lit (.int .i64 0)), .p (.lit (.int .i64 0)), .p (.lit (.int .i64 0))] := by kernel_rfl
theorem eq164 : eqO Try.prog 164 = some [.int .i64, .int .i64, .int .i64, .int .i64] := by kernel_rfl
theorem pl164 : plO Try.prog 164 = some [(0, 1), (1, 1), (2, 1), (3, 1)] := by kernel_rfl
theorem ar164 : arO Try.prog 164 = some (4, 1) := by kernel_rfl
theorem un165 : Try.prog.underlying 165 = some (.array 6 3) := by kernel_rfl
theorem ty165 : tyO Try.prog 165 = some (true, 6) := by kernel_rfl
theorem z165 : zeroO Try.prog 165 = some [.p (.lit (.int .i64 0)), .p (.lit (.int .i64 0)), .p (.lit (.int .i64 0)), .p (.lit (.int .i64 0)), .p (.lit (.int .i64 0)), .p (.lit (.int .i64 0))] := by kernel_rfl
theorem eq165 : eqO Try.prog 165 = some [.int .i64, .int .i64, .int .i64, .int .i64, .int .i64, .int .i64] := by kernel_rfl
theorem pl165 : plO Try.prog 165 = some [(0, 1), (1, 1), (2, 1), (3, 1), (4, 1), (5, 1)] := by kernel_rfl
theorem ar165 : arO Try.prog 165 = some (6, 1) := by kernel_rfl
theorem un167 : Try.prog.underlying 167 = some (.int .i64) := by kernel_rfl
theorem zv167 : zvO Try.prog 167 = some (.int .i64 0) := by kernel_rfl
theorem ty167 : tyO Try.prog 167 = some (false, 1) := by kernel_rfl
theorem z167 : zeroO Try.prog 167 = some [.p (.lit (.int .i64 0))] := by kernel_rfl
theorem un174 : Try.prog.underlying 174 = some (.int .u32) := by kernel_rfl
theorem zv174 : zvO Try.prog 174 = some (.int .u32 0) := by kernel_rfl
theorem ty174 : tyO Try.prog 174 = some (false, 1) := by kernel_rfl
theorem z174 : zeroO Try.prog 174 = some [.p (.lit (.int .u32 0))] := by kernel_rfl
theorem un177 : Try.prog.underlying 177 = some (.int .u64) := by kernel_rfl
theorem zv177 : zvO Try.prog 177 = some (.int .u64 0) := by kernel_rfl
theorem ty177 : tyO Try.prog 177 = some (false, 1) := by kernel_rfl
theorem z177 : zeroO Try.prog 177 = some [.p (.lit (.int .u64 0))] := by kernel_rfl
theorem ty182 : tyO Try.prog 182 = some (false, 1) := by kernel_rfl
theorem z182 : zeroO Try.prog 182 = some [.p (.lit (.pointer none))] := by kernel_rfl
theorem ty194 : tyO Try.prog 194 = some (false, 1) := by kernel_rfl
theorem z194 : zeroO Try.prog 194 = some [.p (.lit (.pointer none))] := by kernel_rfl
attribute [go_sem] un2 zv2 ty2 z2 un3 zv3 ty3 z3 un4 zv4 ty4 z4 un5 zv5 ty5 z5 un9 zv9 ty9 z9 un12 zv12 ty12 z12 un21 zv21 ty21 z21 un22 ty22 z22 el22 ar22 sl22 ap22 un23 ty23 z23 el23 ar23 sl23 ap23 un24 ty24 z24 el24 ar24 sl24 ap24 un25 zv25 ty25 z25 ty29 z29 pl29 fd29_0 fd29_1 fd29_2 fd29_3 fd29_4 ar29 ty30 z30 pl30 fd30_0 fd30_1 fd30_2 fd30_3 fd30_4 ar30 un34 zv34 ty34 z34 un36 ty36 z36 el36 ar36 sl36 ap36 ty37 z37 pl37 fd37_0 fd37_1 fd37_2 fd37_3 ar37 ty38 z38 pl38 fd38_0 fd38_1 fd38_2 fd38_3 ar38 un55 ty55 z55 un58 ty58 z58 el58 ar58 sl58 ap58 ty63 z63 pl63 fd63_0 fd63_1 fd63_2 ar63 ty64 z64 pl64 fd64_0 fd64_1 fd64_2 ar64 un70 ty70 z70 el70 ar70 sl70 ap70 un76 ty76 z76 el76 ar76 sl76 ap76 un81 ty81 z81 el81 ar81 sl81 ap81 un82 ty82 z82 el82 ar82 sl82 ap82 ty85 z85 pl85 fd85_0 fd85_1 ar85 eq85 ty86 z86 pl86 fd86_0 fd86_1 ar86 eq86 un94 ty94 z94 pl94 ar94 un95 ty95 z95 pl95 ar95 un100 zv100 ty100 z100 un101 ty101 z101 el101 ar101 sl101 ap101 ty109 z109 un110 ty110 z110 pl110 ar110 ty111 z111 un112 ty112 z112 ty113 z113 pl113 fd113_0 fd113_1 fd113_2 fd113_3 ar113 ty114 z114 pl114 fd114_0 fd114_1 fd114_2 fd114_3 ar114 un116 ty116 z116 el116 ar116 sl116 ap116 ty117 z117 pl117 fd117_0 fd117_1 ar117 eq117 ty118 z118 pl118 fd118_0 fd118_1 ar118 eq118 un124 ty124 z124 un139 ty139 z139 eq139 pl139 ar139 ty140 z140 ty141 z141 pl141 fd141_0 fd141_1 fd141_2 fd141_3 ar141 ty142 z142 pl142 fd142_0 fd142_1 fd142_2 fd142_3 ar142 un164 ty164 z164 eq164 pl164 ar164 un165 ty165 z165 eq165 pl165 ar165 un167 zv167 ty167 z167 un174 zv174 ty174 z174 un177 zv177 ty177 z177 ty182 z182 ty194 z194
end Go.Proofs.Ytagphggcdmjlpaa.T
