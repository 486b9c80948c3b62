/- What the framework asks of this seat's types: each by the kernel's reduction. Printed by a program of ours (mkty.py). -/
import Derived.Test.YtpdmiojenhodlaaFwD
import Derived.Test.YtpdmiojenhodlaaProg
import Derived.KernelRfl
set_option linter.unusedVariables false
set_option linter.unusedSimpArgs false
namespace Go.Proofs.Ytpdmiojenhodlaa
open Go Go.Ab
theorem ty_k0 : tyk Try.prog 0 = some TyK.other := by kernel_rfl
theorem ty_s0 : shp Try.prog 0 = some (false, 1) := by kernel_rfl
theorem ty_z0 : zer Try.prog 0 = some [(AV.tuple [])] := by kernel_rfl
theorem ty_k1 : tyk Try.prog 1 = some TyK.func := by kernel_rfl
theorem ty_s1 : shp Try.prog 1 = some (false, 1) := by kernel_rfl
theorem ty_z1 : zer Try.prog 1 = some [AV.nilFn] := by kernel_rfl
theorem ty_k2 : tyk Try.prog 2 = some (TyK.int .i64) := by kernel_rfl
theorem ty_s2 : shp Try.prog 2 = some (false, 1) := by kernel_rfl
theorem ty_z2 : zer Try.prog 2 = some [(AV.int .i64 0)] := by kernel_rfl
theorem ty_f2 : flatT Try.prog 10 2 = some [(TyS.si .i64)] := by kernel_rfl
theorem ty_g2 : Try.prog.eqGuardType Try.prog.depth 2 = false := by kernel_rfl
theorem ty_k3 : tyk Try.prog 3 = some (TyK.int .i64) := by kernel_rfl
theorem ty_s3 : shp Try.prog 3 = some (false, 1) := by kernel_rfl
theorem ty_z3 : zer Try.prog 3 = some [(AV.int .i64 0)] := by kernel_rfl
theorem ty_f3 : flatT Try.prog 10 3 = some [(TyS.si .i64)] := by kernel_rfl
theorem ty_g3 : Try.prog.eqGuardType Try.prog.depth 3 = false := by kernel_rfl
theorem ty_k4 : tyk Try.prog 4 = some TyK.bool := by kernel_rfl
theorem ty_s4 : shp Try.prog 4 = some (false, 1) := by kernel_rfl
theorem ty_z4 : zer Try.prog 4 = some [(AV.bool false)] := by kernel_rfl
theorem ty_f4 : flatT Try.prog 10 4 = some [TyS.sb] := by kernel_rfl
theorem ty_g4 : Try.prog.eqGuardType Try.prog.depth 4 = false := by kernel_rfl
theorem ty_k5 : tyk Try.prog 5 = some (TyK.int .u8) := by kernel_rfl
theorem ty_s5 : shp Try.prog 5 = some (false, 1) := by kernel_rfl
theorem ty_z5 : zer Try.prog 5 = some [(AV.int .u8 0)] := by kernel_rfl
theorem ty_f5 : flatT Try.prog 10 5 = some [(TyS.si .u8)] := by kernel_rfl
theorem ty_g5 : Try.prog.eqGuardType Try.prog.depth 5 = false := by kernel_rfl
theorem ty_k6 : tyk Try.prog 6 = some (TyK.int .u8) := by kernel_rfl
theorem ty_s6 : shp Try.prog 6 = some (false, 1) := by kernel_rfl
theorem ty_z6 : zer Try.prog 6 = some [(AV.int .u8 0)] := by kernel_rfl
theorem ty_f6 : flatT Try.prog 10 6 = some [(TyS.si .u8)] := by kernel_rfl
theorem ty_g6 : Try.prog.eqGuardType Try.prog.depth 6 = false := by kernel_rfl
theorem ty_k7 : tyk Try.prog 7 = some (TyK.struct [(0, (false, 1)), (1, (false, 1)), (2, (false, 1)), (3, (false, 1))]) := by kernel_rfl
theorem ty_s7 : shp Try.prog 7 = some (true, 4) := by kernel_rfl
theorem ty_z7 : zer Try.prog 7 = some [(AV.int .i64 0), (AV.int .i64 0), (AV.bool false), (AV.int .u8 0)] := by kernel_rfl
theorem ty_f7 : flatT Try.prog 10 7 = some [(TyS.si .i64), (TyS.si .i64), TyS.sb, (TyS.si .u8)] := by kernel_rfl
theorem ty_g7 : Try.prog.eqGuardType Try.prog.depth 7 = false := by kernel_rfl
theorem ty_d7_0 : fldOf Try.prog 7 0 = some (0, false, 1) := by kernel_rfl
theorem ty_d7_1 : fldOf Try.prog 7 1 = some (1, false, 1) := by kernel_rfl
theorem ty_d7_2 : fldOf Try.prog 7 2 = some (2, false, 1) := by kernel_rfl
theorem ty_d7_3 : fldOf Try.prog 7 3 = some (3, false, 1) := by kernel_rfl
theorem ty_k8 : tyk Try.prog 8 = some (TyK.struct [(0, (false, 1)), (1, (false, 1)), (2, (false, 1)), (3, (false, 1))]) := by kernel_rfl
theorem ty_s8 : shp Try.prog 8 = some (true, 4) := by kernel_rfl
theorem ty_z8 : zer Try.prog 8 = some [(AV.int .i64 0), (AV.int .i64 0), (AV.bool false), (AV.int .u8 0)] := by kernel_rfl
theorem ty_f8 : flatT Try.prog 10 8 = some [(TyS.si .i64), (TyS.si .i64), TyS.sb, (TyS.si .u8)] := by kernel_rfl
theorem ty_g8 : Try.prog.eqGuardType Try.prog.depth 8 = false := by kernel_rfl
theorem ty_d8_0 : fldOf Try.prog 8 0 = some (0, false, 1) := by kernel_rfl
theorem ty_d8_1 : fldOf Try.prog 8 1 = some (1, false, 1) := by kernel_rfl
theorem ty_d8_2 : fldOf Try.prog 8 2 = some (2, false, 1) := by kernel_rfl
theorem ty_d8_3 : fldOf Try.prog 8 3 = some (3, false, 1) := by kernel_rfl
theorem ty_k9 : tyk Try.prog 9 = some TyK.str := by kernel_rfl
theorem ty_s9 : shp Try.prog 9 = some (false, 1) := by kernel_rfl
theorem ty_z9 : zer Try.prog 9 = some [(AV.str [])] := by kernel_rfl
theorem ty_f9 : flatT Try.prog 10 9 = some [TyS.ss] := by kernel_rfl
theorem ty_g9 : Try.prog.eqGuardType Try.prog.depth 9 = false := by kernel_rfl
theorem ty_k10 : tyk Try.prog 10 = some TyK.str := by kernel_rfl
theorem ty_s10 : shp Try.prog 10 = some (false, 1) := by kernel_rfl
theorem ty_z10 : zer Try.prog 10 = some [(AV.str [])] := by kernel_rfl
theorem ty_f10 : flatT Try.prog 10 10 = some [TyS.ss] := by kernel_rfl
theorem ty_g10 : Try.prog.eqGuardType Try.prog.depth 10 = false := by kernel_rfl
theorem ty_k11 : tyk Try.prog 11 = some TyK.str := by kernel_rfl
theorem ty_s11 : shp Try.prog 11 = some (false, 1) := by kernel_rfl
theorem ty_z11 : zer Try.prog 11 = some [(AV.str [])] := by kernel_rfl
theorem ty_f11 : flatT Try.prog 10 11 = some [TyS.ss] := by kernel_rfl
theorem ty_g11 : Try.prog.eqGuardType Try.prog.depth 11 = false := by kernel_rfl
theorem ty_k12 : tyk Try.prog 12 = some (TyK.int .u64) := by kernel_rfl
theorem ty_s12 : shp Try.prog 12 = some (false, 1) := by kernel_rfl
theorem ty_z12 : zer Try.prog 12 = some [(AV.int .u64 0)] := by kernel_rfl
theorem ty_f12 : flatT Try.prog 10 12 = some [(TyS.si .u64)] := by kernel_rfl
theorem ty_g12 : Try.prog.eqGuardType Try.prog.depth 12 = false := by kernel_rfl
theorem ty_k13 : tyk Try.prog 13 = some (TyK.struct [(0, (false, 1)), (1, (false, 1))]) := by kernel_rfl
theorem ty_s13 : shp Try.prog 13 = some (true, 2) := by kernel_rfl
theorem ty_z13 : zer Try.prog 13 = some [(AV.str []), (AV.int .u64 0)] := by kernel_rfl
theorem ty_d13_0 : fldOf Try.prog 13 0 = some (0, false, 1) := by kernel_rfl
theorem ty_d13_1 : fldOf Try.prog 13 1 = some (1, false, 1) := by kernel_rfl
theorem ty_k14 : tyk Try.prog 14 = some (TyK.struct [(0, (false, 1)), (1, (false, 1))]) := by kernel_rfl
theorem ty_s14 : shp Try.prog 14 = some (true, 2) := by kernel_rfl
theorem ty_z14 : zer Try.prog 14 = some [(AV.str []), (AV.int .u64 0)] := by kernel_rfl
theorem ty_d14_0 : fldOf Try.prog 14 0 = some (0, false, 1) := by kernel_rfl
theorem ty_d14_1 : fldOf Try.prog 14 1 = some (1, false, 1) := by kernel_rfl
theorem ty_k15 : tyk Try.prog 15 = some (TyK.ptr 100) := by kernel_rfl
theorem ty_s15 : shp Try.prog 15 = some (false, 1) := by kernel_rfl
theorem ty_z15 : zer Try.prog 15 = some [AV.nilPtr] := by kernel_rfl
theorem ty_k16 : tyk Try.prog 16 = some (TyK.ptr 103) := by kernel_rfl
theorem ty_s16 : shp Try.prog 16 = some (false, 1) := by kernel_rfl
theorem ty_z16 : zer Try.prog 16 = some [AV.nilPtr] := by kernel_rfl
theorem ty_k17 : tyk Try.prog 17 = some (TyK.ptr 112) := by kernel_rfl
theorem ty_s17 : shp Try.prog 17 = some (false, 1) := by kernel_rfl
theorem ty_z17 : zer Try.prog 17 = some [AV.nilPtr] := by kernel_rfl
theorem ty_k18 : tyk Try.prog 18 = some (TyK.struct [(0, (false, 1))]) := by kernel_rfl
theorem ty_s18 : shp Try.prog 18 = some (true, 1) := by kernel_rfl
theorem ty_z18 : zer Try.prog 18 = some [AV.nilPtr] := by kernel_rfl
theorem ty_d18_0 : fldOf Try.prog 18 0 = some (0, false, 1) := by kernel_rfl
theorem ty_k19 : tyk Try.prog 19 = some (TyK.struct [(0, (false, 1))]) := by kernel_rfl
theorem ty_s19 : shp Try.prog 19 = some (true, 1) := by kernel_rfl
theorem ty_z19 : zer Try.prog 19 = some [AV.nilPtr] := by kernel_rfl
theorem ty_d19_0 : fldOf Try.prog 19 0 = some (0, false, 1) := by kernel_rfl
theorem ty_k20 : tyk Try.prog 20 = some (TyK.iface 0) := by kernel_rfl
theorem ty_s20 : shp Try.prog 20 = some (false, 1) := by kernel_rfl
theorem ty_z20 : zer Try.prog 20 = some [AV.nilIface] := by kernel_rfl
theorem ty_k21 : tyk Try.prog 21 = some (TyK.int .i32) := by kernel_rfl
theorem ty_s21 : shp Try.prog 21 = some (false, 1) := by kernel_rfl
theorem ty_z21 : zer Try.prog 21 = some [(AV.int .i32 0)] := by kernel_rfl
theorem ty_f21 : flatT Try.prog 10 21 = some [(TyS.si .i32)] := by kernel_rfl
theorem ty_g21 : Try.prog.eqGuardType Try.prog.depth 21 = false := by kernel_rfl
theorem ty_k22 : tyk Try.prog 22 = some (TyK.slice 36 true 2 48) := by kernel_rfl
theorem ty_s22 : shp Try.prog 22 = some (false, 1) := by kernel_rfl
theorem ty_z22 : zer Try.prog 22 = some [AV.nilSl] := by kernel_rfl
theorem ty_k23 : tyk Try.prog 23 = some TyK.func := by kernel_rfl
theorem ty_s23 : shp Try.prog 23 = some (false, 1) := by kernel_rfl
theorem ty_z23 : zer Try.prog 23 = some [AV.nilFn] := by kernel_rfl
theorem ty_k24 : tyk Try.prog 24 = some TyK.func := by kernel_rfl
theorem ty_s24 : shp Try.prog 24 = some (false, 1) := by kernel_rfl
theorem ty_z24 : zer Try.prog 24 = some [AV.nilFn] := by kernel_rfl
theorem ty_k25 : tyk Try.prog 25 = some TyK.func := by kernel_rfl
theorem ty_s25 : shp Try.prog 25 = some (false, 1) := by kernel_rfl
theorem ty_z25 : zer Try.prog 25 = some [AV.nilFn] := by kernel_rfl
theorem ty_k26 : tyk Try.prog 26 = some (TyK.slice 38 true 5 48) := by kernel_rfl
theorem ty_s26 : shp Try.prog 26 = some (false, 1) := by kernel_rfl
theorem ty_z26 : zer Try.prog 26 = some [AV.nilSl] := by kernel_rfl
theorem ty_k27 : tyk Try.prog 27 = some TyK.func := by kernel_rfl
theorem ty_s27 : shp Try.prog 27 = some (false, 1) := by kernel_rfl
theorem ty_z27 : zer Try.prog 27 = some [AV.nilFn] := by kernel_rfl
theorem ty_k28 : tyk Try.prog 28 = some (TyK.slice 33 true 2 48) := by kernel_rfl
theorem ty_s28 : shp Try.prog 28 = some (false, 1) := by kernel_rfl
theorem ty_z28 : zer Try.prog 28 = some [AV.nilSl] := by kernel_rfl
theorem ty_k29 : tyk Try.prog 29 = some TyK.func := by kernel_rfl
theorem ty_s29 : shp Try.prog 29 = some (false, 1) := by kernel_rfl
theorem ty_z29 : zer Try.prog 29 = some [AV.nilFn] := by kernel_rfl
theorem ty_k30 : tyk Try.prog 30 = some TyK.func := by kernel_rfl
theorem ty_s30 : shp Try.prog 30 = some (false, 1) := by kernel_rfl
theorem ty_z30 : zer Try.prog 30 = some [AV.nilFn] := by kernel_rfl
theorem ty_k31 : tyk Try.prog 31 = some (TyK.slice 5 false 1 1) := by kernel_rfl
theorem ty_s31 : shp Try.prog 31 = some (false, 1) := by kernel_rfl
theorem ty_z31 : zer Try.prog 31 = some [AV.nilSl] := by kernel_rfl
theorem ty_k32 : tyk Try.prog 32 = some (TyK.struct [(0, (false, 1)), (1, (false, 1))]) := by kernel_rfl
theorem ty_s32 : shp Try.prog 32 = some (true, 2) := by kernel_rfl
theorem ty_z32 : zer Try.prog 32 = some [AV.nilSl, AV.nilSl] := by kernel_rfl
theorem ty_d32_0 : fldOf Try.prog 32 0 = some (0, false, 1) := by kernel_rfl
theorem ty_d32_1 : fldOf Try.prog 32 1 = some (1, false, 1) := by kernel_rfl
theorem ty_k33 : tyk Try.prog 33 = some (TyK.struct [(0, (false, 1)), (1, (false, 1))]) := by kernel_rfl
theorem ty_s33 : shp Try.prog 33 = some (true, 2) := by kernel_rfl
theorem ty_z33 : zer Try.prog 33 = some [AV.nilSl, AV.nilSl] := by kernel_rfl
theorem ty_d33_0 : fldOf Try.prog 33 0 = some (0, false, 1) := by kernel_rfl
theorem ty_d33_1 : fldOf Try.prog 33 1 = some (1, false, 1) := by kernel_rfl
theorem ty_k34 : tyk Try.prog 34 = some (TyK.slice 42 true 3 40) := by kernel_rfl
theorem ty_s34 : shp Try.prog 34 = some (false, 1) := by kernel_rfl
theorem ty_z34 : zer Try.prog 34 = some [AV.nilSl] := by kernel_rfl
theorem ty_k35 : tyk Try.prog 35 = some (TyK.struct [(0, (false, 1)), (1, (false, 1))]) := by kernel_rfl
theorem ty_s35 : shp Try.prog 35 = some (true, 2) := by kernel_rfl
theorem ty_z35 : zer Try.prog 35 = some [AV.nilSl, AV.nilSl] := by kernel_rfl
theorem ty_d35_0 : fldOf Try.prog 35 0 = some (0, false, 1) := by kernel_rfl
theorem ty_d35_1 : fldOf Try.prog 35 1 = some (1, false, 1) := by kernel_rfl
theorem ty_k36 : tyk Try.prog 36 = some (TyK.struct [(0, (false, 1)), (1, (false, 1))]) := by kernel_rfl
theorem ty_s36 : shp Try.prog 36 = some (true, 2) := by kernel_rfl
theorem ty_z36 : zer Try.prog 36 = some [AV.nilSl, AV.nilSl] := by kernel_rfl
theorem ty_d36_0 : fldOf Try.prog 36 0 = some (0, false, 1) := by kernel_rfl
theorem ty_d36_1 : fldOf Try.prog 36 1 = some (1, false, 1) := by kernel_rfl
theorem ty_k37 : tyk Try.prog 37 = some (TyK.struct [(0, (false, 1)), (1, (false, 1)), (2, (false, 1)), (3, (false, 1)), (4, (false, 1))]) := by kernel_rfl
theorem ty_s37 : shp Try.prog 37 = some (true, 5) := by kernel_rfl
theorem ty_z37 : zer Try.prog 37 = some [(AV.str []), (AV.bool false), (AV.int .i64 0), (AV.int .i64 0), (AV.bool false)] := by kernel_rfl
theorem ty_f37 : flatT Try.prog 10 37 = some [TyS.ss, TyS.sb, (TyS.si .i64), (TyS.si .i64), TyS.sb] := by kernel_rfl
theorem ty_g37 : Try.prog.eqGuardType Try.prog.depth 37 = false := by kernel_rfl
theorem ty_d37_0 : fldOf Try.prog 37 0 = some (0, false, 1) := by kernel_rfl
theorem ty_d37_1 : fldOf Try.prog 37 1 = some (1, false, 1) := by kernel_rfl
theorem ty_d37_2 : fldOf Try.prog 37 2 = some (2, false, 1) := by kernel_rfl
theorem ty_d37_3 : fldOf Try.prog 37 3 = some (3, false, 1) := by kernel_rfl
theorem ty_d37_4 : fldOf Try.prog 37 4 = some (4, false, 1) := by kernel_rfl
theorem ty_k38 : tyk Try.prog 38 = some (TyK.struct [(0, (false, 1)), (1, (false, 1)), (2, (false, 1)), (3, (false, 1)), (4, (false, 1))]) := by kernel_rfl
theorem ty_s38 : shp Try.prog 38 = some (true, 5) := by kernel_rfl
theorem ty_z38 : zer Try.prog 38 = some [(AV.str []), (AV.bool false), (AV.int .i64 0), (AV.int .i64 0), (AV.bool false)] := by kernel_rfl
theorem ty_f38 : flatT Try.prog 10 38 = some [TyS.ss, TyS.sb, (TyS.si .i64), (TyS.si .i64), TyS.sb] := by kernel_rfl
theorem ty_g38 : Try.prog.eqGuardType Try.prog.depth 38 = false := by kernel_rfl
theorem ty_d38_0 : fldOf Try.prog 38 0 = some (0, false, 1) := by kernel_rfl
theorem ty_d38_1 : fldOf Try.prog 38 1 = some (1, false, 1) := by kernel_rfl
theorem ty_d38_2 : fldOf Try.prog 38 2 = some (2, false, 1) := by kernel_rfl
theorem ty_d38_3 : fldOf Try.prog 38 3 = some (3, false, 1) := by kernel_rfl
theorem ty_d38_4 : fldOf Try.prog 38 4 = some (4, false, 1) := by kernel_rfl
theorem ty_k39 : tyk Try.prog 39 = some TyK.func := by kernel_rfl
theorem ty_s39 : shp Try.prog 39 = some (false, 1) := by kernel_rfl
theorem ty_z39 : zer Try.prog 39 = some [AV.nilFn] := by kernel_rfl
theorem ty_k40 : tyk Try.prog 40 = some TyK.func := by kernel_rfl
theorem ty_s40 : shp Try.prog 40 = some (false, 1) := by kernel_rfl
theorem ty_z40 : zer Try.prog 40 = some [AV.nilFn] := by kernel_rfl
theorem ty_k41 : tyk Try.prog 41 = some (TyK.struct [(0, (false, 1)), (1, (false, 1)), (2, (false, 1))]) := by kernel_rfl
theorem ty_s41 : shp Try.prog 41 = some (true, 3) := by kernel_rfl
theorem ty_z41 : zer Try.prog 41 = some [(AV.str []), (AV.bool false), (AV.str [])] := by kernel_rfl
theorem ty_f41 : flatT Try.prog 10 41 = some [TyS.ss, TyS.sb, TyS.ss] := by kernel_rfl
theorem ty_g41 : Try.prog.eqGuardType Try.prog.depth 41 = false := by kernel_rfl
theorem ty_d41_0 : fldOf Try.prog 41 0 = some (0, false, 1) := by kernel_rfl
theorem ty_d41_1 : fldOf Try.prog 41 1 = some (1, false, 1) := by kernel_rfl
theorem ty_d41_2 : fldOf Try.prog 41 2 = some (2, false, 1) := by kernel_rfl
theorem ty_k42 : tyk Try.prog 42 = some (TyK.struct [(0, (false, 1)), (1, (false, 1)), (2, (false, 1))]) := by kernel_rfl
theorem ty_s42 : shp Try.prog 42 = some (true, 3) := by kernel_rfl
theorem ty_z42 : zer Try.prog 42 = some [(AV.str []), (AV.bool false), (AV.str [])] := by kernel_rfl
theorem ty_f42 : flatT Try.prog 10 42 = some [TyS.ss, TyS.sb, TyS.ss] := by kernel_rfl
theorem ty_g42 : Try.prog.eqGuardType Try.prog.depth 42 = false := by kernel_rfl
theorem ty_d42_0 : fldOf Try.prog 42 0 = some (0, false, 1) := by kernel_rfl
theorem ty_d42_1 : fldOf Try.prog 42 1 = some (1, false, 1) := by kernel_rfl
theorem ty_d42_2 : fldOf Try.prog 42 2 = some (2, false, 1) := by kernel_rfl
theorem ty_k43 : tyk Try.prog 43 = some (TyK.ptr 47) := by kernel_rfl
theorem ty_s43 : shp Try.prog 43 = some (false, 1) := by kernel_rfl
theorem ty_z43 : zer Try.prog 43 = some [AV.nilPtr] := by kernel_rfl
theorem ty_k44 : tyk Try.prog 44 = some (TyK.map 59 60) := by kernel_rfl
theorem ty_s44 : shp Try.prog 44 = some (false, 1) := by kernel_rfl
theorem ty_z44 : zer Try.prog 44 = some [AV.nilMap] := by kernel_rfl
theorem ty_m44 : mapD Try.prog 44 = some ([TyS.ss, TyS.sb], (true, AV.nilSl)) := by kernel_rfl
theorem ty_h44 : keyShape Try.prog 44 = some ([TyS.ss, TyS.sb], true) := by kernel_rfl
theorem ty_k45 : tyk Try.prog 45 = some (TyK.map 38 4) := by kernel_rfl
theorem ty_s45 : shp Try.prog 45 = some (false, 1) := by kernel_rfl
theorem ty_z45 : zer Try.prog 45 = some [AV.nilMap] := by kernel_rfl
theorem ty_m45 : mapD Try.prog 45 = some ([TyS.ss, TyS.sb, (TyS.si .i64), (TyS.si .i64), TyS.sb], (true, (AV.bool false))) := by kernel_rfl
theorem ty_h45 : keyShape Try.prog 45 = some ([TyS.ss, TyS.sb, (TyS.si .i64), (TyS.si .i64), TyS.sb], true) := by kernel_rfl
theorem ty_k46 : tyk Try.prog 46 = some (TyK.struct [(0, (false, 1)), (1, (false, 1)), (2, (false, 1))]) := by kernel_rfl
theorem ty_s46 : shp Try.prog 46 = some (true, 3) := by kernel_rfl
theorem ty_z46 : zer Try.prog 46 = some [AV.nilMap, AV.nilMap, AV.nilMap] := by kernel_rfl
theorem ty_d46_0 : fldOf Try.prog 46 0 = some (0, false, 1) := by kernel_rfl
theorem ty_d46_1 : fldOf Try.prog 46 1 = some (1, false, 1) := by kernel_rfl
theorem ty_d46_2 : fldOf Try.prog 46 2 = some (2, false, 1) := by kernel_rfl
theorem ty_k47 : tyk Try.prog 47 = some (TyK.struct [(0, (false, 1)), (1, (false, 1)), (2, (false, 1))]) := by kernel_rfl
theorem ty_s47 : shp Try.prog 47 = some (true, 3) := by kernel_rfl
theorem ty_z47 : zer Try.prog 47 = some [AV.nilMap, AV.nilMap, AV.nilMap] := by kernel_rfl
theorem ty_d47_0 : fldOf Try.prog 47 0 = some (0, false, 1) := by kernel_rfl
theorem ty_d47_1 : fldOf Try.prog 47 1 = some (1, false, 1) := by kernel_rfl
theorem ty_d47_2 : fldOf Try.prog 47 2 = some (2, false, 1) := by kernel_rfl
theorem ty_k48 : tyk Try.prog 48 = some TyK.func := by kernel_rfl
theorem ty_s48 : shp Try.prog 48 = some (false, 1) := by kernel_rfl
theorem ty_z48 : zer Try.prog 48 = some [AV.nilFn] := by kernel_rfl
theorem ty_k49 : tyk Try.prog 49 = some TyK.func := by kernel_rfl
theorem ty_s49 : shp Try.prog 49 = some (false, 1) := by kernel_rfl
theorem ty_z49 : zer Try.prog 49 = some [AV.nilFn] := by kernel_rfl
theorem ty_k50 : tyk Try.prog 50 = some TyK.func := by kernel_rfl
theorem ty_s50 : shp Try.prog 50 = some (false, 1) := by kernel_rfl
theorem ty_z50 : zer Try.prog 50 = some [AV.nilFn] := by kernel_rfl
theorem ty_k51 : tyk Try.prog 51 = some TyK.func := by kernel_rfl
theorem ty_s51 : shp Try.prog 51 = some (false, 1) := by kernel_rfl
theorem ty_z51 : zer Try.prog 51 = some [AV.nilFn] := by kernel_rfl
theorem ty_k52 : tyk Try.prog 52 = some TyK.func := by kernel_rfl
theorem ty_s52 : shp Try.prog 52 = some (false, 1) := by kernel_rfl
theorem ty_z52 : zer Try.prog 52 = some [AV.nilFn] := by kernel_rfl
theorem ty_k53 : tyk Try.prog 53 = some TyK.func := by kernel_rfl
theorem ty_s53 : shp Try.prog 53 = some (false, 1) := by kernel_rfl
theorem ty_z53 : zer Try.prog 53 = some [AV.nilFn] := by kernel_rfl
theorem ty_k54 : tyk Try.prog 54 = some TyK.func := by kernel_rfl
theorem ty_s54 : shp Try.prog 54 = some (false, 1) := by kernel_rfl
theorem ty_z54 : zer Try.prog 54 = some [AV.nilFn] := by kernel_rfl
theorem ty_k55 : tyk Try.prog 55 = some TyK.func := by kernel_rfl
theorem ty_s55 : shp Try.prog 55 = some (false, 1) := by kernel_rfl
theorem ty_z55 : zer Try.prog 55 = some [AV.nilFn] := by kernel_rfl
theorem ty_k56 : tyk Try.prog 56 = some TyK.func := by kernel_rfl
theorem ty_s56 : shp Try.prog 56 = some (false, 1) := by kernel_rfl
theorem ty_z56 : zer Try.prog 56 = some [AV.nilFn] := by kernel_rfl
theorem ty_k57 : tyk Try.prog 57 = some TyK.func := by kernel_rfl
theorem ty_s57 : shp Try.prog 57 = some (false, 1) := by kernel_rfl
theorem ty_z57 : zer Try.prog 57 = some [AV.nilFn] := by kernel_rfl
theorem ty_k58 : tyk Try.prog 58 = some (TyK.struct [(0, (false, 1)), (1, (false, 1))]) := by kernel_rfl
theorem ty_s58 : shp Try.prog 58 = some (true, 2) := by kernel_rfl
theorem ty_z58 : zer Try.prog 58 = some [(AV.str []), (AV.bool false)] := by kernel_rfl
theorem ty_f58 : flatT Try.prog 10 58 = some [TyS.ss, TyS.sb] := by kernel_rfl
theorem ty_g58 : Try.prog.eqGuardType Try.prog.depth 58 = false := by kernel_rfl
theorem ty_d58_0 : fldOf Try.prog 58 0 = some (0, false, 1) := by kernel_rfl
theorem ty_d58_1 : fldOf Try.prog 58 1 = some (1, false, 1) := by kernel_rfl
theorem ty_k59 : tyk Try.prog 59 = some (TyK.struct [(0, (false, 1)), (1, (false, 1))]) := by kernel_rfl
theorem ty_s59 : shp Try.prog 59 = some (true, 2) := by kernel_rfl
theorem ty_z59 : zer Try.prog 59 = some [(AV.str []), (AV.bool false)] := by kernel_rfl
theorem ty_f59 : flatT Try.prog 10 59 = some [TyS.ss, TyS.sb] := by kernel_rfl
theorem ty_g59 : Try.prog.eqGuardType Try.prog.depth 59 = false := by kernel_rfl
theorem ty_d59_0 : fldOf Try.prog 59 0 = some (0, false, 1) := by kernel_rfl
theorem ty_d59_1 : fldOf Try.prog 59 1 = some (1, false, 1) := by kernel_rfl
theorem ty_k60 : tyk Try.prog 60 = some (TyK.slice 3 false 1 8) := by kernel_rfl
theorem ty_s60 : shp Try.prog 60 = some (false, 1) := by kernel_rfl
theorem ty_z60 : zer Try.prog 60 = some [AV.nilSl] := by kernel_rfl
theorem ty_k61 : tyk Try.prog 61 = some TyK.func := by kernel_rfl
theorem ty_s61 : shp Try.prog 61 = some (false, 1) := by kernel_rfl
theorem ty_z61 : zer Try.prog 61 = some [AV.nilFn] := by kernel_rfl
theorem ty_k62 : tyk Try.prog 62 = some TyK.func := by kernel_rfl
theorem ty_s62 : shp Try.prog 62 = some (false, 1) := by kernel_rfl
theorem ty_z62 : zer Try.prog 62 = some [AV.nilFn] := by kernel_rfl
theorem ty_k63 : tyk Try.prog 63 = some TyK.func := by kernel_rfl
theorem ty_s63 : shp Try.prog 63 = some (false, 1) := by kernel_rfl
theorem ty_z63 : zer Try.prog 63 = some [AV.nilFn] := by kernel_rfl
theorem ty_k64 : tyk Try.prog 64 = some TyK.func := by kernel_rfl
theorem ty_s64 : shp Try.prog 64 = some (false, 1) := by kernel_rfl
theorem ty_z64 : zer Try.prog 64 = some [AV.nilFn] := by kernel_rfl
theorem ty_k65 : tyk Try.prog 65 = some TyK.func := by kernel_rfl
theorem ty_s65 : shp Try.prog 65 = some (false, 1) := by kernel_rfl
theorem ty_z65 : zer Try.prog 65 = some [AV.nilFn] := by kernel_rfl
theorem ty_k66 : tyk Try.prog 66 = some TyK.func := by kernel_rfl
theorem ty_s66 : shp Try.prog 66 = some (false, 1) := by kernel_rfl
theorem ty_z66 : zer Try.prog 66 = some [AV.nilFn] := by kernel_rfl
theorem ty_k67 : tyk Try.prog 67 = some TyK.func := by kernel_rfl
theorem ty_s67 : shp Try.prog 67 = some (false, 1) := by kernel_rfl
theorem ty_z67 : zer Try.prog 67 = some [AV.nilFn] := by kernel_rfl
theorem ty_k68 : tyk Try.prog 68 = some TyK.func := by kernel_rfl
theorem ty_s68 : shp Try.prog 68 = some (false, 1) := by kernel_rfl
theorem ty_z68 : zer Try.prog 68 = some [AV.nilFn] := by kernel_rfl
theorem ty_k69 : tyk Try.prog 69 = some TyK.func := by kernel_rfl
theorem ty_s69 : shp Try.prog 69 = some (false, 1) := by kernel_rfl
theorem ty_z69 : zer Try.prog 69 = some [AV.nilFn] := by kernel_rfl
theorem ty_k70 : tyk Try.prog 70 = some TyK.func := by kernel_rfl
theorem ty_s70 : shp Try.prog 70 = some (false, 1) := by kernel_rfl
theorem ty_z70 : zer Try.prog 70 = some [AV.nilFn] := by kernel_rfl
theorem ty_k71 : tyk Try.prog 71 = some (TyK.slice 9 false 1 16) := by kernel_rfl
theorem ty_s71 : shp Try.prog 71 = some (false, 1) := by kernel_rfl
theorem ty_z71 : zer Try.prog 71 = some [AV.nilSl] := by kernel_rfl
theorem ty_k72 : tyk Try.prog 72 = some TyK.func := by kernel_rfl
theorem ty_s72 : shp Try.prog 72 = some (false, 1) := by kernel_rfl
theorem ty_z72 : zer Try.prog 72 = some [AV.nilFn] := by kernel_rfl
theorem ty_k73 : tyk Try.prog 73 = some TyK.func := by kernel_rfl
theorem ty_s73 : shp Try.prog 73 = some (false, 1) := by kernel_rfl
theorem ty_z73 : zer Try.prog 73 = some [AV.nilFn] := by kernel_rfl
theorem ty_k74 : tyk Try.prog 74 = some TyK.func := by kernel_rfl
theorem ty_s74 : shp Try.prog 74 = some (false, 1) := by kernel_rfl
theorem ty_z74 : zer Try.prog 74 = some [AV.nilFn] := by kernel_rfl
theorem ty_k75 : tyk Try.prog 75 = some (TyK.int .u64) := by kernel_rfl
theorem ty_s75 : shp Try.prog 75 = some (false, 1) := by kernel_rfl
theorem ty_z75 : zer Try.prog 75 = some [(AV.int .u64 0)] := by kernel_rfl
theorem ty_f75 : flatT Try.prog 10 75 = some [(TyS.si .u64)] := by kernel_rfl
theorem ty_g75 : Try.prog.eqGuardType Try.prog.depth 75 = false := by kernel_rfl
theorem ty_k76 : tyk Try.prog 76 = some TyK.func := by kernel_rfl
theorem ty_s76 : shp Try.prog 76 = some (false, 1) := by kernel_rfl
theorem ty_z76 : zer Try.prog 76 = some [AV.nilFn] := by kernel_rfl
theorem ty_k77 : tyk Try.prog 77 = some TyK.func := by kernel_rfl
theorem ty_s77 : shp Try.prog 77 = some (false, 1) := by kernel_rfl
theorem ty_z77 : zer Try.prog 77 = some [AV.nilFn] := by kernel_rfl
theorem ty_k78 : tyk Try.prog 78 = some (TyK.int .i64) := by kernel_rfl
theorem ty_s78 : shp Try.prog 78 = some (false, 1) := by kernel_rfl
theorem ty_z78 : zer Try.prog 78 = some [(AV.int .i64 0)] := by kernel_rfl
theorem ty_f78 : flatT Try.prog 10 78 = some [(TyS.si .i64)] := by kernel_rfl
theorem ty_g78 : Try.prog.eqGuardType Try.prog.depth 78 = false := by kernel_rfl
theorem ty_k79 : tyk Try.prog 79 = some TyK.other := by kernel_rfl
theorem ty_s79 : shp Try.prog 79 = some (false, 1) := by kernel_rfl
theorem ty_z79 : zer Try.prog 79 = some [(AV.tuple [(AV.int .i64 0), (AV.int .i64 0)])] := by kernel_rfl
theorem ty_k80 : tyk Try.prog 80 = some TyK.func := by kernel_rfl
theorem ty_s80 : shp Try.prog 80 = some (false, 1) := by kernel_rfl
theorem ty_z80 : zer Try.prog 80 = some [AV.nilFn] := by kernel_rfl
theorem ty_k81 : tyk Try.prog 81 = some TyK.func := by kernel_rfl
theorem ty_s81 : shp Try.prog 81 = some (false, 1) := by kernel_rfl
theorem ty_z81 : zer Try.prog 81 = some [AV.nilFn] := by kernel_rfl
theorem ty_k82 : tyk Try.prog 82 = some TyK.func := by kernel_rfl
theorem ty_s82 : shp Try.prog 82 = some (false, 1) := by kernel_rfl
theorem ty_z82 : zer Try.prog 82 = some [AV.nilFn] := by kernel_rfl
theorem ty_k83 : tyk Try.prog 83 = some TyK.other := by kernel_rfl
theorem ty_s83 : shp Try.prog 83 = some (false, 1) := by kernel_rfl
theorem ty_z83 : zer Try.prog 83 = some [(AV.tuple [(AV.int .i64 0), (AV.bool false)])] := by kernel_rfl
theorem ty_k84 : tyk Try.prog 84 = some TyK.func := by kernel_rfl
theorem ty_s84 : shp Try.prog 84 = some (false, 1) := by kernel_rfl
theorem ty_z84 : zer Try.prog 84 = some [AV.nilFn] := by kernel_rfl
theorem ty_k85 : tyk Try.prog 85 = some TyK.func := by kernel_rfl
theorem ty_s85 : shp Try.prog 85 = some (false, 1) := by kernel_rfl
theorem ty_z85 : zer Try.prog 85 = some [AV.nilFn] := by kernel_rfl
theorem ty_k86 : tyk Try.prog 86 = some (TyK.int .u32) := by kernel_rfl
theorem ty_s86 : shp Try.prog 86 = some (false, 1) := by kernel_rfl
theorem ty_z86 : zer Try.prog 86 = some [(AV.int .u32 0)] := by kernel_rfl
theorem ty_f86 : flatT Try.prog 10 86 = some [(TyS.si .u32)] := by kernel_rfl
theorem ty_g86 : Try.prog.eqGuardType Try.prog.depth 86 = false := by kernel_rfl
theorem ty_k87 : tyk Try.prog 87 = some TyK.func := by kernel_rfl
theorem ty_s87 : shp Try.prog 87 = some (false, 1) := by kernel_rfl
theorem ty_z87 : zer Try.prog 87 = some [AV.nilFn] := by kernel_rfl
theorem ty_k88 : tyk Try.prog 88 = some (TyK.int .u64) := by kernel_rfl
theorem ty_s88 : shp Try.prog 88 = some (false, 1) := by kernel_rfl
theorem ty_z88 : zer Try.prog 88 = some [(AV.int .u64 0)] := by kernel_rfl
theorem ty_f88 : flatT Try.prog 10 88 = some [(TyS.si .u64)] := by kernel_rfl
theorem ty_g88 : Try.prog.eqGuardType Try.prog.depth 88 = false := by kernel_rfl
theorem ty_k89 : tyk Try.prog 89 = some (TyK.int .u64) := by kernel_rfl
theorem ty_s89 : shp Try.prog 89 = some (false, 1) := by kernel_rfl
theorem ty_z89 : zer Try.prog 89 = some [(AV.int .u64 0)] := by kernel_rfl
theorem ty_f89 : flatT Try.prog 10 89 = some [(TyS.si .u64)] := by kernel_rfl
theorem ty_g89 : Try.prog.eqGuardType Try.prog.depth 89 = false := by kernel_rfl
theorem ty_k90 : tyk Try.prog 90 = some TyK.func := by kernel_rfl
theorem ty_s90 : shp Try.prog 90 = some (false, 1) := by kernel_rfl
theorem ty_z90 : zer Try.prog 90 = some [AV.nilFn] := by kernel_rfl
theorem ty_k91 : tyk Try.prog 91 = some TyK.func := by kernel_rfl
theorem ty_s91 : shp Try.prog 91 = some (false, 1) := by kernel_rfl
theorem ty_z91 : zer Try.prog 91 = some [AV.nilFn] := by kernel_rfl
theorem ty_k92 : tyk Try.prog 92 = some TyK.func := by kernel_rfl
theorem ty_s92 : shp Try.prog 92 = some (false, 1) := by kernel_rfl
theorem ty_z92 : zer Try.prog 92 = some [AV.nilFn] := by kernel_rfl
theorem ty_k93 : tyk Try.prog 93 = some (TyK.ptr 3) := by kernel_rfl
theorem ty_s93 : shp Try.prog 93 = some (false, 1) := by kernel_rfl
theorem ty_z93 : zer Try.prog 93 = some [AV.nilPtr] := by kernel_rfl
theorem ty_k94 : tyk Try.prog 94 = some TyK.func := by kernel_rfl
theorem ty_s94 : shp Try.prog 94 = some (false, 1) := by kernel_rfl
theorem ty_z94 : zer Try.prog 94 = some [AV.nilFn] := by kernel_rfl
theorem ty_k95 : tyk Try.prog 95 = some (TyK.ptr 89) := by kernel_rfl
theorem ty_s95 : shp Try.prog 95 = some (false, 1) := by kernel_rfl
theorem ty_z95 : zer Try.prog 95 = some [AV.nilPtr] := by kernel_rfl
theorem ty_k96 : tyk Try.prog 96 = some TyK.other := by kernel_rfl
theorem ty_s96 : shp Try.prog 96 = some (false, 1) := by kernel_rfl
theorem ty_z96 : zer Try.prog 96 = some [(AV.tuple [(AV.int .i64 0), (AV.int .i64 0)])] := by kernel_rfl
theorem ty_k97 : tyk Try.prog 97 = some TyK.func := by kernel_rfl
theorem ty_s97 : shp Try.prog 97 = some (false, 1) := by kernel_rfl
theorem ty_z97 : zer Try.prog 97 = some [AV.nilFn] := by kernel_rfl
theorem ty_k98 : tyk Try.prog 98 = some TyK.func := by kernel_rfl
theorem ty_s98 : shp Try.prog 98 = some (false, 1) := by kernel_rfl
theorem ty_z98 : zer Try.prog 98 = some [AV.nilFn] := by kernel_rfl
theorem ty_k99 : tyk Try.prog 99 = some (TyK.struct [(0, (false, 1)), (1, (false, 1)), (2, (false, 1)), (3, (false, 1))]) := by kernel_rfl
theorem ty_s99 : shp Try.prog 99 = some (true, 4) := by kernel_rfl
theorem ty_z99 : zer Try.prog 99 = some [AV.nilPtr, AV.nilPtr, AV.nilPtr, (AV.str [])] := by kernel_rfl
theorem ty_d99_0 : fldOf Try.prog 99 0 = some (0, false, 1) := by kernel_rfl
theorem ty_d99_1 : fldOf Try.prog 99 1 = some (1, false, 1) := by kernel_rfl
theorem ty_d99_2 : fldOf Try.prog 99 2 = some (2, false, 1) := by kernel_rfl
theorem ty_d99_3 : fldOf Try.prog 99 3 = some (3, false, 1) := by kernel_rfl
theorem ty_k100 : tyk Try.prog 100 = some (TyK.struct [(0, (false, 1)), (1, (false, 1)), (2, (false, 1)), (3, (false, 1))]) := by kernel_rfl
theorem ty_s100 : shp Try.prog 100 = some (true, 4) := by kernel_rfl
theorem ty_z100 : zer Try.prog 100 = some [AV.nilPtr, AV.nilPtr, AV.nilPtr, (AV.str [])] := by kernel_rfl
theorem ty_d100_0 : fldOf Try.prog 100 0 = some (0, false, 1) := by kernel_rfl
theorem ty_d100_1 : fldOf Try.prog 100 1 = some (1, false, 1) := by kernel_rfl
theorem ty_d100_2 : fldOf Try.prog 100 2 = some (2, false, 1) := by kernel_rfl
theorem ty_d100_3 : fldOf Try.prog 100 3 = some (3, false, 1) := by kernel_rfl
theorem ty_k101 : tyk Try.prog 101 = some (TyK.arr 0 16 false 1) := by kernel_rfl
theorem ty_s101 : shp Try.prog 101 = some (true, 0) := by kernel_rfl
theorem ty_z101 : zer Try.prog 101 = some [] := by kernel_rfl
theorem ty_k102 : tyk Try.prog 102 = some (TyK.struct [(0, (true, 0))]) := by kernel_rfl
theorem ty_s102 : shp Try.prog 102 = some (true, 0) := by kernel_rfl
theorem ty_z102 : zer Try.prog 102 = some [] := by kernel_rfl
theorem ty_d102_0 : fldOf Try.prog 102 0 = some (0, true, 0) := by kernel_rfl
theorem ty_k103 : tyk Try.prog 103 = some (TyK.struct [(0, (true, 0))]) := by kernel_rfl
theorem ty_s103 : shp Try.prog 103 = some (true, 0) := by kernel_rfl
theorem ty_z103 : zer Try.prog 103 = some [] := by kernel_rfl
theorem ty_d103_0 : fldOf Try.prog 103 0 = some (0, true, 0) := by kernel_rfl
theorem ty_k104 : tyk Try.prog 104 = some TyK.func := by kernel_rfl
theorem ty_s104 : shp Try.prog 104 = some (false, 1) := by kernel_rfl
theorem ty_z104 : zer Try.prog 104 = some [AV.nilFn] := by kernel_rfl
theorem ty_k105 : tyk Try.prog 105 = some (TyK.int .u8) := by kernel_rfl
theorem ty_s105 : shp Try.prog 105 = some (false, 1) := by kernel_rfl
theorem ty_z105 : zer Try.prog 105 = some [(AV.int .u8 0)] := by kernel_rfl
theorem ty_f105 : flatT Try.prog 10 105 = some [(TyS.si .u8)] := by kernel_rfl
theorem ty_g105 : Try.prog.eqGuardType Try.prog.depth 105 = false := by kernel_rfl
theorem ty_k106 : tyk Try.prog 106 = some (TyK.int .u8) := by kernel_rfl
theorem ty_s106 : shp Try.prog 106 = some (false, 1) := by kernel_rfl
theorem ty_z106 : zer Try.prog 106 = some [(AV.int .u8 0)] := by kernel_rfl
theorem ty_f106 : flatT Try.prog 10 106 = some [(TyS.si .u8)] := by kernel_rfl
theorem ty_g106 : Try.prog.eqGuardType Try.prog.depth 106 = false := by kernel_rfl
theorem ty_k107 : tyk Try.prog 107 = some TyK.func := by kernel_rfl
theorem ty_s107 : shp Try.prog 107 = some (false, 1) := by kernel_rfl
theorem ty_z107 : zer Try.prog 107 = some [AV.nilFn] := by kernel_rfl
theorem ty_k108 : tyk Try.prog 108 = some (TyK.ptr 5) := by kernel_rfl
theorem ty_s108 : shp Try.prog 108 = some (false, 1) := by kernel_rfl
theorem ty_z108 : zer Try.prog 108 = some [AV.nilPtr] := by kernel_rfl
theorem ty_k109 : tyk Try.prog 109 = some (TyK.int .i32) := by kernel_rfl
theorem ty_s109 : shp Try.prog 109 = some (false, 1) := by kernel_rfl
theorem ty_z109 : zer Try.prog 109 = some [(AV.int .i32 0)] := by kernel_rfl
theorem ty_f109 : flatT Try.prog 10 109 = some [(TyS.si .i32)] := by kernel_rfl
theorem ty_g109 : Try.prog.eqGuardType Try.prog.depth 109 = false := by kernel_rfl
theorem ty_k110 : tyk Try.prog 110 = some (TyK.int .i32) := by kernel_rfl
theorem ty_s110 : shp Try.prog 110 = some (false, 1) := by kernel_rfl
theorem ty_z110 : zer Try.prog 110 = some [(AV.int .i32 0)] := by kernel_rfl
theorem ty_f110 : flatT Try.prog 10 110 = some [(TyS.si .i32)] := by kernel_rfl
theorem ty_g110 : Try.prog.eqGuardType Try.prog.depth 110 = false := by kernel_rfl
theorem ty_k111 : tyk Try.prog 111 = some (TyK.struct [(0, (false, 1)), (1, (false, 1)), (2, (false, 1)), (3, (false, 1)), (4, (false, 1)), (5, (false, 1)), (6, (false, 1)), (7, (false, 1)), (8, (false, 1)), (9, (false, 1)), (10, (false, 1))]) := by kernel_rfl
theorem ty_s111 : shp Try.prog 111 = some (true, 11) := by kernel_rfl
theorem ty_z111 : zer Try.prog 111 = some [(AV.int .u64 0), (AV.int .u64 0), (AV.int .u32 0), (AV.int .u8 0), (AV.int .u8 0), (AV.int .u8 0), (AV.int .u8 0), AV.nilFn, AV.nilPtr, (AV.int .i32 0), (AV.int .i32 0)] := by kernel_rfl
theorem ty_d111_0 : fldOf Try.prog 111 0 = some (0, false, 1) := by kernel_rfl
theorem ty_d111_1 : fldOf Try.prog 111 1 = some (1, false, 1) := by kernel_rfl
theorem ty_d111_2 : fldOf Try.prog 111 2 = some (2, false, 1) := by kernel_rfl
theorem ty_d111_3 : fldOf Try.prog 111 3 = some (3, false, 1) := by kernel_rfl
theorem ty_d111_4 : fldOf Try.prog 111 4 = some (4, false, 1) := by kernel_rfl
theorem ty_d111_5 : fldOf Try.prog 111 5 = some (5, false, 1) := by kernel_rfl
theorem ty_d111_6 : fldOf Try.prog 111 6 = some (6, false, 1) := by kernel_rfl
theorem ty_d111_7 : fldOf Try.prog 111 7 = some (7, false, 1) := by kernel_rfl
theorem ty_d111_8 : fldOf Try.prog 111 8 = some (8, false, 1) := by kernel_rfl
theorem ty_d111_9 : fldOf Try.prog 111 9 = some (9, false, 1) := by kernel_rfl
theorem ty_d111_10 : fldOf Try.prog 111 10 = some (10, false, 1) := by kernel_rfl
theorem ty_k112 : tyk Try.prog 112 = some (TyK.struct [(0, (false, 1)), (1, (false, 1)), (2, (false, 1)), (3, (false, 1)), (4, (false, 1)), (5, (false, 1)), (6, (false, 1)), (7, (false, 1)), (8, (false, 1)), (9, (false, 1)), (10, (false, 1))]) := by kernel_rfl
theorem ty_s112 : shp Try.prog 112 = some (true, 11) := by kernel_rfl
theorem ty_z112 : zer Try.prog 112 = some [(AV.int .u64 0), (AV.int .u64 0), (AV.int .u32 0), (AV.int .u8 0), (AV.int .u8 0), (AV.int .u8 0), (AV.int .u8 0), AV.nilFn, AV.nilPtr, (AV.int .i32 0), (AV.int .i32 0)] := by kernel_rfl
theorem ty_d112_0 : fldOf Try.prog 112 0 = some (0, false, 1) := by kernel_rfl
theorem ty_d112_1 : fldOf Try.prog 112 1 = some (1, false, 1) := by kernel_rfl
theorem ty_d112_2 : fldOf Try.prog 112 2 = some (2, false, 1) := by kernel_rfl
theorem ty_d112_3 : fldOf Try.prog 112 3 = some (3, false, 1) := by kernel_rfl
theorem ty_d112_4 : fldOf Try.prog 112 4 = some (4, false, 1) := by kernel_rfl
theorem ty_d112_5 : fldOf Try.prog 112 5 = some (5, false, 1) := by kernel_rfl
theorem ty_d112_6 : fldOf Try.prog 112 6 = some (6, false, 1) := by kernel_rfl
theorem ty_d112_7 : fldOf Try.prog 112 7 = some (7, false, 1) := by kernel_rfl
theorem ty_d112_8 : fldOf Try.prog 112 8 = some (8, false, 1) := by kernel_rfl
theorem ty_d112_9 : fldOf Try.prog 112 9 = some (9, false, 1) := by kernel_rfl
theorem ty_d112_10 : fldOf Try.prog 112 10 = some (10, false, 1) := by kernel_rfl
theorem ty_k113 : tyk Try.prog 113 = some TyK.other := by kernel_rfl
theorem ty_s113 : shp Try.prog 113 = some (false, 1) := by kernel_rfl
theorem ty_z113 : zer Try.prog 113 = some [AV.nilPtr] := by kernel_rfl
attribute [go_sem] ty_k0 ty_s0 ty_z0 ty_k1 ty_s1 ty_z1 ty_k2 ty_s2 ty_z2 ty_f2 ty_g2 ty_k3 ty_s3 ty_z3 ty_f3 ty_g3 ty_k4 ty_s4 ty_z4 ty_f4 ty_g4 ty_k5 ty_s5 ty_z5 ty_f5 ty_g5 ty_k6 ty_s6 ty_z6 ty_f6 ty_g6 ty_k7 ty_s7 ty_z7 ty_f7 ty_g7 ty_d7_0 ty_d7_1 ty_d7_2 ty_d7_3
attribute [go_sem] ty_k8 ty_s8 ty_z8 ty_f8 ty_g8 ty_d8_0 ty_d8_1 ty_d8_2 ty_d8_3 ty_k9 ty_s9 ty_z9 ty_f9 ty_g9 ty_k10 ty_s10 ty_z10 ty_f10 ty_g10 ty_k11 ty_s11 ty_z11 ty_f11 ty_g11 ty_k12 ty_s12 ty_z12 ty_f12 ty_g12 ty_k13 ty_s13 ty_z13 ty_d13_0 ty_d13_1 ty_k14 ty_s14 ty_z14 ty_d14_0 ty_d14_1 ty_k15
attribute [go_sem] ty_s15 ty_z15 ty_k16 ty_s16 ty_z16 ty_k17 ty_s17 ty_z17 ty_k18 ty_s18 ty_z18 ty_d18_0 ty_k19 ty_s19 ty_z19 ty_d19_0 ty_k20 ty_s20 ty_z20 ty_k21 ty_s21 ty_z21 ty_f21 ty_g21 ty_k22 ty_s22 ty_z22 ty_k23 ty_s23 ty_z23 ty_k24 ty_s24 ty_z24 ty_k25 ty_s25 ty_z25 ty_k26 ty_s26 ty_z26 ty_k27
attribute [go_sem] ty_s27 ty_z27 ty_k28 ty_s28 ty_z28 ty_k29 ty_s29 ty_z29 ty_k30 ty_s30 ty_z30 ty_k31 ty_s31 ty_z31 ty_k32 ty_s32 ty_z32 ty_d32_0 ty_d32_1 ty_k33 ty_s33 ty_z33 ty_d33_0 ty_d33_1 ty_k34 ty_s34 ty_z34 ty_k35 ty_s35 ty_z35 ty_d35_0 ty_d35_1 ty_k36 ty_s36 ty_z36 ty_d36_0 ty_d36_1 ty_k37 ty_s37 ty_z37
attribute [go_sem] ty_f37 ty_g37 ty_d37_0 ty_d37_1 ty_d37_2 ty_d37_3 ty_d37_4 ty_k38 ty_s38 ty_z38 ty_f38 ty_g38 ty_d38_0 ty_d38_1 ty_d38_2 ty_d38_3 ty_d38_4 ty_k39 ty_s39 ty_z39 ty_k40 ty_s40 ty_z40 ty_k41 ty_s41 ty_z41 ty_f41 ty_g41 ty_d41_0 ty_d41_1 ty_d41_2 ty_k42 ty_s42 ty_z42 ty_f42 ty_g42 ty_d42_0 ty_d42_1 ty_d42_2 ty_k43
attribute [go_sem] ty_s43 ty_z43 ty_k44 ty_s44 ty_z44 ty_m44 ty_h44 ty_k45 ty_s45 ty_z45 ty_m45 ty_h45 ty_k46 ty_s46 ty_z46 ty_d46_0 ty_d46_1 ty_d46_2 ty_k47 ty_s47 ty_z47 ty_d47_0 ty_d47_1 ty_d47_2 ty_k48 ty_s48 ty_z48 ty_k49 ty_s49 ty_z49 ty_k50 ty_s50 ty_z50 ty_k51 ty_s51 ty_z51 ty_k52 ty_s52 ty_z52 ty_k53
attribute [go_sem] ty_s53 ty_z53 ty_k54 ty_s54 ty_z54 ty_k55 ty_s55 ty_z55 ty_k56 ty_s56 ty_z56 ty_k57 ty_s57 ty_z57 ty_k58 ty_s58 ty_z58 ty_f58 ty_g58 ty_d58_0 ty_d58_1 ty_k59 ty_s59 ty_z59 ty_f59 ty_g59 ty_d59_0 ty_d59_1 ty_k60 ty_s60 ty_z60 ty_k61 ty_s61 ty_z61 ty_k62 ty_s62 ty_z62 ty_k63 ty_s63 ty_z63
attribute [go_sem] ty_k64 ty_s64 ty_z64 ty_k65 ty_s65 ty_z65 ty_k66 ty_s66 ty_z66 ty_k67 ty_s67 ty_z67 ty_k68 ty_s68 ty_z68 ty_k69 ty_s69 ty_z69 ty_k70 ty_s70 ty_z70 ty_k71 ty_s71 ty_z71 ty_k72 ty_s72 ty_z72 ty_k73 ty_s73 ty_z73 ty_k74 ty_s74 ty_z74 ty_k75 ty_s75 ty_z75 ty_f75 ty_g75 ty_k76 ty_s76
attribute [go_sem] ty_z76 ty_k77 ty_s77 ty_z77 ty_k78 ty_s78 ty_z78 ty_f78 ty_g78 ty_k79 ty_s79 ty_z79 ty_k80 ty_s80 ty_z80 ty_k81 ty_s81 ty_z81 ty_k82 ty_s82 ty_z82 ty_k83 ty_s83 ty_z83 ty_k84 ty_s84 ty_z84 ty_k85 ty_s85 ty_z85 ty_k86 ty_s86 ty_z86 ty_f86 ty_g86 ty_k87 ty_s87 ty_z87 ty_k88 ty_s88
attribute [go_sem] ty_z88 ty_f88 ty_g88 ty_k89 ty_s89 ty_z89 ty_f89 ty_g89 ty_k90 ty_s90 ty_z90 ty_k91 ty_s91 ty_z91 ty_k92 ty_s92 ty_z92 ty_k93 ty_s93 ty_z93 ty_k94 ty_s94 ty_z94 ty_k95 ty_s95 ty_z95 ty_k96 ty_s96 ty_z96 ty_k97 ty_s97 ty_z97 ty_k98 ty_s98 ty_z98 ty_k99 ty_s99 ty_z99 ty_d99_0 ty_d99_1
attribute [go_sem] ty_d99_2 ty_d99_3 ty_k100 ty_s100 ty_z100 ty_d100_0 ty_d100_1 ty_d100_2 ty_d100_3 ty_k101 ty_s101 ty_z101 ty_k102 ty_s102 ty_z102 ty_d102_0 ty_k103 ty_s103 ty_z103 ty_d103_0 ty_k104 ty_s104 ty_z104 ty_k105 ty_s105 ty_z105 ty_f105 ty_g105 ty_k106 ty_s106 ty_z106 ty_f106 ty_g106 ty_k107 ty_s107 ty_z107 ty_k108 ty_s108 ty_z108 ty_k109
attribute [go_sem] ty_s109 ty_z109 ty_f109 ty_g109 ty_k110 ty_s110 ty_z110 ty_f110 ty_g110 ty_k111 ty_s111 ty_z111 ty_d111_0 ty_d111_1 ty_d111_2 ty_d111_3 ty_d111_4 ty_d111_5 ty_d111_6 ty_d111_7 ty_d111_8 ty_d111_9 ty_d111_10 ty_k112 ty_s112 ty_z112 ty_d112_0 ty_d112_1 ty_d112_2 ty_d112_3 ty_d112_4 ty_d112_5 ty_d112_6 ty_d112_7 ty_d112_8 ty_d112_9 ty_d112_10 ty_k113 ty_s113 ty_z113
theorem mixed : Try.prog.follows .mixedOrders = true := by kernel_rfl
end Go.Proofs.Ytpdmiojenhodlaa
