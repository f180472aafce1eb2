/- Facts on the types of this seat's program, by a program of this session (gentypes.py). -/
import Derived.Test.YtfjfiemcdnicoaaProg
import Derived.Test.YtfjfiemcdnicoaaAb16
import Derived.KernelRfl
set_option linter.unusedSimpArgs false
set_option linter.unusedVariables false
set_option maxHeartbeats 1000000
namespace Go.Proofs.Ytfjfiemcdnicoaa.T
open Go.Ab
theorem un2 : Try.prog.underlying 2 = some (.int .i64) := by kernel_rfl
theorem zv2 : zvO Try.prog 2 = some (.int .i64 0) := by kernel_rfl
theorem ty2 : tyO Try.prog 2 = some (false, 1) := by kernel_rfl
theorem z2 : zeroO Try.prog 2 = some [.p (.lit (.int .i64 0))] := by kernel_rfl
theorem un3 : Try.prog.underlying 3 = some (.int .i64) := by kernel_rfl
theorem zv3 : zvO Try.prog 3 = some (.int .i64 0) := by kernel_rfl
theorem ty3 : tyO Try.prog 3 = some (false, 1) := by kernel_rfl
theorem z3 : zeroO Try.prog 3 = some [.p (.lit (.int .i64 0))] := by kernel_rfl
theorem un4 : Try.prog.underlying 4 = some .bool := by kernel_rfl
theorem zv4 : zvO Try.prog 4 = some (.bool false) := by kernel_rfl
theorem ty4 : tyO Try.prog 4 = some (false, 1) := by kernel_rfl
theorem z4 : zeroO Try.prog 4 = some [.p (.lit (.bool false))] := by kernel_rfl
theorem un5 : Try.prog.underlying 5 = some (.int .u8) := by kernel_rfl
theorem zv5 : zvO Try.prog 5 = some (.int .u8 0) := by kernel_rfl
theorem ty5 : tyO Try.prog 5 = some (false, 1) := by kernel_rfl
theorem z5 : zeroO Try.prog 5 = some [.p (.lit (.int .u8 0))] := by kernel_rfl
theorem un9 : Try.prog.underlying 9 = some .string := by kernel_rfl
theorem zv9 : zvO Try.prog 9 = some (.string ByteArray.empty) := by kernel_rfl
theorem ty9 : tyO Try.prog 9 = some (false, 1) := by kernel_rfl
theorem z9 : zeroO Try.prog 9 = some [.p (.lit (.string ByteArray.empty))] := by kernel_rfl
theorem un12 : Try.prog.underlying 12 = some (.int .u64) := by kernel_rfl
theorem zv12 : zvO Try.prog 12 = some (.int .u64 0) := by kernel_rfl
theorem ty12 : tyO Try.prog 12 = some (false, 1) := by kernel_rfl
theorem z12 : zeroO Try.prog 12 = some [.p (.lit (.int .u64 0))] := by kernel_rfl
theorem un21 : Try.prog.underlying 21 = some (.int .i32) := by kernel_rfl
theorem zv21 : zvO Try.prog 21 = some (.int .i32 0) := by kernel_rfl
theorem ty21 : tyO Try.prog 21 = some (false, 1) := by kernel_rfl
theorem z21 : zeroO Try.prog 21 = some [.p (.lit (.int .i32 0))] := by kernel_rfl
theorem un22 : Try.prog.underlying 22 = some (.slice 24) := by kernel_rfl
theorem ty22 : tyO Try.prog 22 = some (false, 1) := by kernel_rfl
theorem z22 : zeroO Try.prog 22 = some [.nil] := by kernel_rfl
theorem el22 : elO Try.prog 22 = some (4, 56) := by kernel_rfl
theorem ar22 : arO Try.prog 22 = none := by kernel_rfl
theorem sl22 : slO Try.prog 22 = some 4 := by kernel_rfl
theorem ap22 : apO Try.prog 22 = some (4, 56) := by kernel_rfl
theorem ty23 : tyO Try.prog 23 = some (true, 4) := by kernel_rfl
theorem z23 : zeroO Try.prog 23 = some [.p (.lit (.int .i64 0)), .p (.lit (.int .i64 0)), .p (.lit (.string ByteArray.empty)), .nil] := by kernel_rfl
theorem pl23 : plO Try.prog 23 = some [(0, 1), (1, 1), (2, 1), (3, 1)] := by kernel_rfl
theorem fd23_0 : fdO Try.prog 23 0 = some 0 := by kernel_rfl
theorem fd23_1 : fdO Try.prog 23 1 = some 1 := by kernel_rfl
theorem fd23_2 : fdO Try.prog 23 2 = some 2 := by kernel_rfl
theorem fd23_3 : fdO Try.prog 23 3 = some 3 := by kernel_rfl
theorem ar23 : arO Try.prog 23 = none := by kernel_rfl
theorem ty24 : tyO Try.prog 24 = some (true, 4) := by kernel_rfl
theorem z24 : zeroO Try.prog 24 = some [.p (.lit (.int .i64 0)), .p (.lit (.int .i64 0)), .p (.lit (.string ByteArray.empty)), .nil] := by kernel_rfl
theorem pl24 : plO Try.prog 24 = some [(0, 1), (1, 1), (2, 1), (3, 1)] := by kernel_rfl
theorem fd24_0 : fdO Try.prog 24 0 = some 0 := by kernel_rfl
theorem fd24_1 : fdO Try.prog 24 1 = some 1 := by kernel_rfl
theorem fd24_2 : fdO Try.prog 24 2 = some 2 := by kernel_rfl
theorem fd24_3 : fdO Try.prog 24 3 = some 3 := by kernel_rfl
theorem ar24 : arO Try.prog 24 = none := by kernel_rfl
theorem ty25 : tyO Try.prog 25 = some (true, 9) := by kernel_rfl
theorem z25 : zeroO Try.prog 25 = some [.p (.lit (.int .i64 0)), .p (.lit (.int .i64 0)), .p (.lit (.int .i64 0)), .p (.lit (.int .i64 0)), .p (.lit (.string ByteArray.empty)), .p (.lit (.int .i64 0)), .p (.lit (.int .i64 0)), .p (.lit (.string ByteArray.empty)), .nil] := by kernel_rfl
theorem pl25 : plO Try.prog 25 = some [(0, 1), (1, 1), (2, 1), (3, 1), (4, 1), (5, 4)] := by kernel_rfl
theorem fd25_0 : fdO Try.prog 25 0 = some 0 := by kernel_rfl
theorem fd25_1 : fdO Try.prog 25 1 = some 1 := by kernel_rfl
theorem fd25_2 : fdO Try.prog 25 2 = some 2 := by kernel_rfl
theorem fd25_3 : fdO Try.prog 25 3 = some 3 := by kernel_rfl
theorem fd25_4 : fdO Try.prog 25 4 = some 4 := by kernel_rfl
theorem fd25_5 : fdO Try.prog 25 5 = some 5 := by kernel_rfl
theorem ar25 : arO Try.prog 25 = none := by kernel_rfl
theorem ty26 : tyO Try.prog 26 = some (true, 9) := by kernel_rfl
theorem z26 : zeroO Try.prog 26 = some [.p (.lit (.int .i64 0)), .p (.lit (.int .i64 0)), .p (.lit (.int .i64 0)), .p (.lit (.int .i64 0)), .p (.lit (.string ByteArray.empty)), .p (.lit (.int .i64 0)), .p (.lit (.int .i64 0)), .p (.lit (.string ByteArray.empty)), .nil] := by kernel_rfl
theorem pl26 : plO Try.prog 26 = some [(0, 1), (1, 1), (2, 1), (3, 1), (4, 1), (5, 4)] := by kernel_rfl
theorem fd26_0 : fdO Try.prog 26 0 = some 0 := by kernel_rfl
theorem fd26_1 : fdO Try.prog 26 1 = some 1 := by kernel_rfl
theorem fd26_2 : fdO Try.prog 26 2 = some 2 := by kernel_rfl
theorem fd26_3 : fdO Try.prog 26 3 = some 3 := by kernel_rfl
theorem fd26_4 : fdO Try.prog 26 4 = some 4 := by kernel_rfl
theorem fd26_5 : fdO Try.prog 26 5 = some 5 := by kernel_rfl
theorem ar26 : arO Try.prog 26 = none := by kernel_rfl
theorem un31 : Try.prog.underlying 31 = some (.slice 39) := by kernel_rfl
theorem ty31 : tyO Try.prog 31 = some (false, 1) := by kernel_rfl
theorem z31 : zeroO Try.prog 31 = some [.nil] := by kernel_rfl
theorem el31 : elO Try.prog 31 = some (3, 56) := by kernel_rfl
theorem ar31 : arO Try.prog 31 = none := by kernel_rfl
theorem sl31 : slO Try.prog 31 = some 3 := by kernel_rfl
theorem ap31 : apO Try.prog 31 = some (3, 56) := by kernel_rfl
theorem un32 : Try.prog.underlying 32 = some (.slice 26) := by kernel_rfl
theorem ty32 : tyO Try.prog 32 = some (false, 1) := by kernel_rfl
theorem z32 : zeroO Try.prog 32 = some [.nil] := by kernel_rfl
theorem el32 : elO Try.prog 32 = some (9, 104) := by kernel_rfl
theorem ar32 : arO Try.prog 32 = none := by kernel_rfl
theorem sl32 : slO Try.prog 32 = some 9 := by kernel_rfl
theorem ap32 : apO Try.prog 32 = some (9, 104) := by kernel_rfl
theorem un33 : Try.prog.underlying 33 = some (.int .i64) := by kernel_rfl
theorem zv33 : zvO Try.prog 33 = some (.int .i64 0) := by kernel_rfl
theorem ty33 : tyO Try.prog 33 = some (false, 1) := by kernel_rfl
theorem z33 : zeroO Try.prog 33 = some [.p (.lit (.int .i64 0))] := by kernel_rfl
theorem un37 : Try.prog.underlying 37 = some (.slice 3) := by kernel_rfl
theorem ty37 : tyO Try.prog 37 = some (false, 1) := by kernel_rfl
theorem z37 : zeroO Try.prog 37 = some [.nil] := by kernel_rfl
theorem el37 : elO Try.prog 37 = some (1, 8) := by kernel_rfl
theorem ar37 : arO Try.prog 37 = none := by kernel_rfl
theorem sl37 : slO Try.prog 37 = some 1 := by kernel_rfl
theorem ap37 : apO Try.prog 37 = some (1, 8) := by kernel_rfl
theorem ty38 : tyO Try.prog 38 = some (true, 3) := by kernel_rfl
theorem z38 : zeroO Try.prog 38 = some [.p (.lit (.int .i64 0)), .nil, .nil] := by kernel_rfl
theorem pl38 : plO Try.prog 38 = some [(0, 1), (1, 1), (2, 1)] := by kernel_rfl
theorem fd38_0 : fdO Try.prog 38 0 = some 0 := by kernel_rfl
theorem fd38_1 : fdO Try.prog 38 1 = some 1 := by kernel_rfl
theorem fd38_2 : fdO Try.prog 38 2 = some 2 := by kernel_rfl
theorem ar38 : arO Try.prog 38 = none := by kernel_rfl
theorem ty39 : tyO Try.prog 39 = some (true, 3) := by kernel_rfl
theorem z39 : zeroO Try.prog 39 = some [.p (.lit (.int .i64 0)), .nil, .nil] := by kernel_rfl
theorem pl39 : plO Try.prog 39 = some [(0, 1), (1, 1), (2, 1)] := by kernel_rfl
theorem fd39_0 : fdO Try.prog 39 0 = some 0 := by kernel_rfl
theorem fd39_1 : fdO Try.prog 39 1 = some 1 := by kernel_rfl
theorem fd39_2 : fdO Try.prog 39 2 = some 2 := by kernel_rfl
theorem ar39 : arO Try.prog 39 = none := by kernel_rfl
theorem un53 : Try.prog.underlying 53 = some (.slice 61) := by kernel_rfl
theorem ty53 : tyO Try.prog 53 = some (false, 1) := by kernel_rfl
theorem z53 : zeroO Try.prog 53 = some [.nil] := by kernel_rfl
theorem el53 : elO Try.prog 53 = some (2, 16) := by kernel_rfl
theorem ar53 : arO Try.prog 53 = none := by kernel_rfl
theorem sl53 : slO Try.prog 53 = some 2 := by kernel_rfl
theorem ap53 : apO Try.prog 53 = some (2, 16) := by kernel_rfl
theorem ty54 : tyO Try.prog 54 = some (true, 2) := by kernel_rfl
theorem z54 : zeroO Try.prog 54 = some [.p (.lit (.int .i64 0)), .nil] := by kernel_rfl
theorem pl54 : plO Try.prog 54 = some [(0, 1), (1, 1)] := by kernel_rfl
theorem fd54_0 : fdO Try.prog 54 0 = some 0 := by kernel_rfl
theorem fd54_1 : fdO Try.prog 54 1 = some 1 := by kernel_rfl
theorem ar54 : arO Try.prog 54 = none := by kernel_rfl
theorem ty55 : tyO Try.prog 55 = some (true, 2) := by kernel_rfl
theorem z55 : zeroO Try.prog 55 = some [.p (.lit (.int .i64 0)), .nil] := by kernel_rfl
theorem pl55 : plO Try.prog 55 = some [(0, 1), (1, 1)] := by kernel_rfl
theorem fd55_0 : fdO Try.prog 55 0 = some 0 := by kernel_rfl
theorem fd55_1 : fdO Try.prog 55 1 = some 1 := by kernel_rfl
theorem ar55 : arO Try.prog 55 = none := by kernel_rfl
theorem ty60 : tyO Try.prog 60 = some (true, 2) := by kernel_rfl
theorem z60 : zeroO Try.prog 60 = some [.p (.lit (.int .i64 0)), .p (.lit (.int .i64 0))] := by kernel_rfl
theorem pl60 : plO Try.prog 60 = some [(0, 1), (1, 1)] := by kernel_rfl
theorem fd60_0 : fdO Try.prog 60 0 = some 0 := by kernel_rfl
theorem fd60_1 : fdO Try.prog 60 1 = some 1 := by kernel_rfl
theorem ar60 : arO Try.prog 60 = none := by kernel_rfl
theorem eq60 : eqO Try.prog 60 = some [.int .i64, .int .i64] := by kernel_rfl
theorem ty61 : tyO Try.prog 61 = some (true, 2) := by kernel_rfl
theorem z61 : zeroO Try.prog 61 = some [.p (.lit (.int .i64 0)), .p (.lit (.int .i64 0))] := by kernel_rfl
theorem pl61 : plO Try.prog 61 = some [(0, 1), (1, 1)] := by kernel_rfl
theorem fd61_0 : fdO Try.prog 61 0 = some 0 := by kernel_rfl
theorem fd61_1 : fdO Try.prog 61 1 = some 1 := by kernel_rfl
theorem ar61 : arO Try.prog 61 = none := by kernel_rfl
theorem eq61 : eqO Try.prog 61 = some [.int .i64, .int .i64] := by kernel_rfl
theorem un64 : Try.prog.underlying 64 = some (.slice 66) := by kernel_rfl
theorem ty64 : tyO Try.prog 64 = some (false, 1) := by kernel_rfl
theorem z64 : zeroO Try.prog 64 = some [.nil] := by kernel_rfl
theorem el64 : elO Try.prog 64 = some (2, 16) := by kernel_rfl
theorem ar64 : arO Try.prog 64 = none := by kernel_rfl
theorem sl64 : slO Try.prog 64 = some 2 := by kernel_rfl
theorem ap64 : apO Try.prog 64 = some (2, 16) := by kernel_rfl
theorem un66 : Try.prog.underlying 66 = some (.array 2 3) := by kernel_rfl
theorem ty66 : tyO Try.prog 66 = some (true, 2) := by kernel_rfl
theorem z66 : zeroO Try.prog 66 = some [.p (.lit (.int .i64 0)), .p (.lit (.int .i64 0))] := by kernel_rfl
theorem eq66 : eqO Try.prog 66 = some [.int .i64, .int .i64] := by kernel_rfl
theorem pl66 : plO Try.prog 66 = some [(0, 1), (1, 1)] := by kernel_rfl
theorem ar66 : arO Try.prog 66 = some (2, 1) := by kernel_rfl
theorem un80 : Try.prog.underlying 80 = some (.slice 33) := by kernel_rfl
theorem ty80 : tyO Try.prog 80 = some (false, 1) := by kernel_rfl
theorem z80 : zeroO Try.prog 80 = some [.nil] := by kernel_rfl
theorem el80 : elO Try.prog 80 = some (1, 8) := by kernel_rfl
theorem ar80 : arO Try.prog 80 = none := by kernel_rfl
theorem sl80 : slO Try.prog 80 = some 1 := by kernel_rfl
theorem ap80 : apO Try.prog 80 = some (1, 8) := by kernel_rfl
theorem un92 : Try.prog.underlying 92 = some (.map 3 4) := by kernel_rfl
theorem ty92 : tyO Try.prog 92 = some (false, 1) := by kernel_rfl
theorem z92 : zeroO Try.prog 92 = some [.p (.lit (.map none))] := by kernel_rfl
theorem un95 : Try.prog.underlying 95 = some (.slice 53) := by kernel_rfl
theorem ty95 : tyO Try.prog 95 = some (false, 1) := by kernel_rfl
theorem z95 : zeroO Try.prog 95 = some [.nil] := by kernel_rfl
theorem el95 : elO Try.prog 95 = some (1, 24) := by kernel_rfl
theorem ar95 : arO Try.prog 95 = none := by kernel_rfl
theorem sl95 : slO Try.prog 95 = some 1 := by kernel_rfl
theorem ap95 : apO Try.prog 95 = some (1, 24) := by kernel_rfl
theorem un104 : Try.prog.underlying 104 = some (.int .u64) := by kernel_rfl
theorem zv104 : zvO Try.prog 104 = some (.int .u64 0) := by kernel_rfl
theorem ty104 : tyO Try.prog 104 = some (false, 1) := by kernel_rfl
theorem z104 : zeroO Try.prog 104 = some [.p (.lit (.int .u64 0))] := by kernel_rfl
theorem un117 : Try.prog.underlying 117 = some (.int .u32) := by kernel_rfl
theorem zv117 : zvO Try.prog 117 = some (.int .u32 0) := by kernel_rfl
theorem ty117 : tyO Try.prog 117 = some (false, 1) := by kernel_rfl
theorem z117 : zeroO Try.prog 117 = some [.p (.lit (.int .u32 0))] := by kernel_rfl
theorem ty121 : tyO Try.prog 121 = some (false, 1) := by kernel_rfl
theorem z121 : zeroO Try.prog 121 = some [.p (.lit (.pointer none))] := by kernel_rfl
attribute [go_sem] un2 zv2 ty2 z2 un3 zv3 ty3 z3 un4 zv4 ty4 z4 un5 zv5 ty5 z5 un9 zv9 ty9 z9 un12 zv12 ty12 z12 un21 zv21 ty21 z21 un22 ty22 z22 el22 ar22 sl22 ap22 ty23 z23 pl23 fd23_0 fd23_1 fd23_2 fd23_3 ar23 ty24 z24 pl24 fd24_0 fd24_1 fd24_2 fd24_3 ar24 ty25 z25 pl25 fd25_0 fd25_1 fd25_2 fd25_3 fd25_4 fd25_5 ar25 ty26 z26 pl26 fd26_0 fd26_1 fd26_2 fd26_3 fd26_4 fd26_5 ar26 un31 ty31 z31 el31 ar31 sl31 ap31 un32 ty32 z32 el32 ar32 sl32 ap32 un33 zv33 ty33 z33 un37 ty37 z37 el37 ar37 sl37 ap37 ty38 z38 pl38 fd38_0 fd38_1 fd38_2 ar38 ty39 z39 pl39 fd39_0 fd39_1 fd39_2 ar39 un53 ty53 z53 el53 ar53 sl53 ap53 ty54 z54 pl54 fd54_0 fd54_1 ar54 ty55 z55 pl55 fd55_0 fd55_1 ar55 ty60 z60 pl60 fd60_0 fd60_1 ar60 eq60 ty61 z61 pl61 fd61_0 fd61_1 ar61 eq61 un64 ty64 z64 el64 ar64 sl64 ap64 un66 ty66 z66 eq66 pl66 ar66 un80 ty80 z80 el80 ar80 sl80 ap80 un92 ty92 z92 un95 ty95 z95 el95 ar95 sl95 ap95 un104 zv104 ty104 z104 un117 zv117 ty117 z117 ty121 z121
end Go.Proofs.Ytfjfiemcdnicoaa.T
