/- What the framework asks of this seat's types: each by the kernel's reduction. Printed by a program of ours (mkty.py). -/
import Derived.Test.YtbpembafoloinaaDoorFwD
import Derived.Test.YtbpembafoloinaaDoorProg
import Derived.KernelRfl
set_option linter.unusedVariables false
set_option linter.unusedSimpArgs false
namespace Go.Proofs.YtbpembafoloinaaDoor
open Go Go.Ab
theorem ty_k0 : tyk Tryd.prog 0 = some TyK.other := by kernel_rfl
theorem ty_s0 : shp Tryd.prog 0 = some (false, 1) := by kernel_rfl
theorem ty_z0 : zer Tryd.prog 0 = some [(AV.tuple [])] := by kernel_rfl
theorem ty_b0 : isBld Tryd.prog 0 = false := by kernel_rfl
theorem ty_k1 : tyk Tryd.prog 1 = some TyK.func := by kernel_rfl
theorem ty_s1 : shp Tryd.prog 1 = some (false, 1) := by kernel_rfl
theorem ty_z1 : zer Tryd.prog 1 = some [AV.nilFn] := by kernel_rfl
theorem ty_b1 : isBld Tryd.prog 1 = false := by kernel_rfl
theorem ty_k2 : tyk Tryd.prog 2 = some (TyK.int .i64) := by kernel_rfl
theorem ty_s2 : shp Tryd.prog 2 = some (false, 1) := by kernel_rfl
theorem ty_z2 : zer Tryd.prog 2 = some [(AV.int .i64 0)] := by kernel_rfl
theorem ty_b2 : isBld Tryd.prog 2 = false := by kernel_rfl
theorem ty_f2 : flatT Tryd.prog 10 2 = some [(TyS.si .i64)] := by kernel_rfl
theorem ty_g2 : Tryd.prog.eqGuardType Tryd.prog.depth 2 = false := by kernel_rfl
theorem ty_k3 : tyk Tryd.prog 3 = some (TyK.int .i64) := by kernel_rfl
theorem ty_s3 : shp Tryd.prog 3 = some (false, 1) := by kernel_rfl
theorem ty_z3 : zer Tryd.prog 3 = some [(AV.int .i64 0)] := by kernel_rfl
theorem ty_b3 : isBld Tryd.prog 3 = false := by kernel_rfl
theorem ty_f3 : flatT Tryd.prog 10 3 = some [(TyS.si .i64)] := by kernel_rfl
theorem ty_g3 : Tryd.prog.eqGuardType Tryd.prog.depth 3 = false := by kernel_rfl
theorem ty_k4 : tyk Tryd.prog 4 = some TyK.bool := by kernel_rfl
theorem ty_s4 : shp Tryd.prog 4 = some (false, 1) := by kernel_rfl
theorem ty_z4 : zer Tryd.prog 4 = some [(AV.bool false)] := by kernel_rfl
theorem ty_b4 : isBld Tryd.prog 4 = false := by kernel_rfl
theorem ty_f4 : flatT Tryd.prog 10 4 = some [TyS.sb] := by kernel_rfl
theorem ty_g4 : Tryd.prog.eqGuardType Tryd.prog.depth 4 = false := by kernel_rfl
theorem ty_k5 : tyk Tryd.prog 5 = some (TyK.int .u8) := by kernel_rfl
theorem ty_s5 : shp Tryd.prog 5 = some (false, 1) := by kernel_rfl
theorem ty_z5 : zer Tryd.prog 5 = some [(AV.int .u8 0)] := by kernel_rfl
theorem ty_b5 : isBld Tryd.prog 5 = false := by kernel_rfl
theorem ty_f5 : flatT Tryd.prog 10 5 = some [(TyS.si .u8)] := by kernel_rfl
theorem ty_g5 : Tryd.prog.eqGuardType Tryd.prog.depth 5 = false := by kernel_rfl
theorem ty_k6 : tyk Tryd.prog 6 = some (TyK.int .u8) := by kernel_rfl
theorem ty_s6 : shp Tryd.prog 6 = some (false, 1) := by kernel_rfl
theorem ty_z6 : zer Tryd.prog 6 = some [(AV.int .u8 0)] := by kernel_rfl
theorem ty_b6 : isBld Tryd.prog 6 = false := by kernel_rfl
theorem ty_f6 : flatT Tryd.prog 10 6 = some [(TyS.si .u8)] := by kernel_rfl
theorem ty_g6 : Tryd.prog.eqGuardType Tryd.prog.depth 6 = false := by kernel_rfl
theorem ty_k7 : tyk Tryd.prog 7 = some (TyK.struct [(0, (false, 1)), (1, (false, 1)), (2, (false, 1)), (3, (false, 1))]) := by kernel_rfl
theorem ty_s7 : shp Tryd.prog 7 = some (true, 4) := by kernel_rfl
theorem ty_z7 : zer Tryd.prog 7 = some [(AV.int .i64 0), (AV.int .i64 0), (AV.bool false), (AV.int .u8 0)] := by kernel_rfl
theorem ty_b7 : isBld Tryd.prog 7 = false := by kernel_rfl
theorem ty_f7 : flatT Tryd.prog 10 7 = some [(TyS.si .i64), (TyS.si .i64), TyS.sb, (TyS.si .u8)] := by kernel_rfl
theorem ty_g7 : Tryd.prog.eqGuardType Tryd.prog.depth 7 = false := by kernel_rfl
theorem ty_d7_0 : fldOf Tryd.prog 7 0 = some (0, false, 1) := by kernel_rfl
theorem ty_d7_1 : fldOf Tryd.prog 7 1 = some (1, false, 1) := by kernel_rfl
theorem ty_d7_2 : fldOf Tryd.prog 7 2 = some (2, false, 1) := by kernel_rfl
theorem ty_d7_3 : fldOf Tryd.prog 7 3 = some (3, false, 1) := by kernel_rfl
theorem ty_k8 : tyk Tryd.prog 8 = some (TyK.struct [(0, (false, 1)), (1, (false, 1)), (2, (false, 1)), (3, (false, 1))]) := by kernel_rfl
theorem ty_s8 : shp Tryd.prog 8 = some (true, 4) := by kernel_rfl
theorem ty_z8 : zer Tryd.prog 8 = some [(AV.int .i64 0), (AV.int .i64 0), (AV.bool false), (AV.int .u8 0)] := by kernel_rfl
theorem ty_b8 : isBld Tryd.prog 8 = false := by kernel_rfl
theorem ty_f8 : flatT Tryd.prog 10 8 = some [(TyS.si .i64), (TyS.si .i64), TyS.sb, (TyS.si .u8)] := by kernel_rfl
theorem ty_g8 : Tryd.prog.eqGuardType Tryd.prog.depth 8 = false := by kernel_rfl
theorem ty_d8_0 : fldOf Tryd.prog 8 0 = some (0, false, 1) := by kernel_rfl
theorem ty_d8_1 : fldOf Tryd.prog 8 1 = some (1, false, 1) := by kernel_rfl
theorem ty_d8_2 : fldOf Tryd.prog 8 2 = some (2, false, 1) := by kernel_rfl
theorem ty_d8_3 : fldOf Tryd.prog 8 3 = some (3, false, 1) := by kernel_rfl
theorem ty_k9 : tyk Tryd.prog 9 = some TyK.str := by kernel_rfl
theorem ty_s9 : shp Tryd.prog 9 = some (false, 1) := by kernel_rfl
theorem ty_z9 : zer Tryd.prog 9 = some [(AV.str [])] := by kernel_rfl
theorem ty_b9 : isBld Tryd.prog 9 = false := by kernel_rfl
theorem ty_f9 : flatT Tryd.prog 10 9 = some [TyS.ss] := by kernel_rfl
theorem ty_g9 : Tryd.prog.eqGuardType Tryd.prog.depth 9 = false := by kernel_rfl
theorem ty_k10 : tyk Tryd.prog 10 = some TyK.str := by kernel_rfl
theorem ty_s10 : shp Tryd.prog 10 = some (false, 1) := by kernel_rfl
theorem ty_z10 : zer Tryd.prog 10 = some [(AV.str [])] := by kernel_rfl
theorem ty_b10 : isBld Tryd.prog 10 = false := by kernel_rfl
theorem ty_f10 : flatT Tryd.prog 10 10 = some [TyS.ss] := by kernel_rfl
theorem ty_g10 : Tryd.prog.eqGuardType Tryd.prog.depth 10 = false := by kernel_rfl
theorem ty_k11 : tyk Tryd.prog 11 = some TyK.str := by kernel_rfl
theorem ty_s11 : shp Tryd.prog 11 = some (false, 1) := by kernel_rfl
theorem ty_z11 : zer Tryd.prog 11 = some [(AV.str [])] := by kernel_rfl
theorem ty_b11 : isBld Tryd.prog 11 = false := by kernel_rfl
theorem ty_f11 : flatT Tryd.prog 10 11 = some [TyS.ss] := by kernel_rfl
theorem ty_g11 : Tryd.prog.eqGuardType Tryd.prog.depth 11 = false := by kernel_rfl
theorem ty_k12 : tyk Tryd.prog 12 = some (TyK.int .u64) := by kernel_rfl
theorem ty_s12 : shp Tryd.prog 12 = some (false, 1) := by kernel_rfl
theorem ty_z12 : zer Tryd.prog 12 = some [(AV.int .u64 0)] := by kernel_rfl
theorem ty_b12 : isBld Tryd.prog 12 = false := by kernel_rfl
theorem ty_f12 : flatT Tryd.prog 10 12 = some [(TyS.si .u64)] := by kernel_rfl
theorem ty_g12 : Tryd.prog.eqGuardType Tryd.prog.depth 12 = false := by kernel_rfl
theorem ty_k13 : tyk Tryd.prog 13 = some (TyK.struct [(0, (false, 1)), (1, (false, 1))]) := by kernel_rfl
theorem ty_s13 : shp Tryd.prog 13 = some (true, 2) := by kernel_rfl
theorem ty_z13 : zer Tryd.prog 13 = some [(AV.str []), (AV.int .u64 0)] := by kernel_rfl
theorem ty_b13 : isBld Tryd.prog 13 = false := by kernel_rfl
theorem ty_d13_0 : fldOf Tryd.prog 13 0 = some (0, false, 1) := by kernel_rfl
theorem ty_d13_1 : fldOf Tryd.prog 13 1 = some (1, false, 1) := by kernel_rfl
theorem ty_k14 : tyk Tryd.prog 14 = some (TyK.struct [(0, (false, 1)), (1, (false, 1))]) := by kernel_rfl
theorem ty_s14 : shp Tryd.prog 14 = some (true, 2) := by kernel_rfl
theorem ty_z14 : zer Tryd.prog 14 = some [(AV.str []), (AV.int .u64 0)] := by kernel_rfl
theorem ty_b14 : isBld Tryd.prog 14 = false := by kernel_rfl
theorem ty_d14_0 : fldOf Tryd.prog 14 0 = some (0, false, 1) := by kernel_rfl
theorem ty_d14_1 : fldOf Tryd.prog 14 1 = some (1, false, 1) := by kernel_rfl
theorem ty_k15 : tyk Tryd.prog 15 = some (TyK.ptr 147) := by kernel_rfl
theorem ty_s15 : shp Tryd.prog 15 = some (false, 1) := by kernel_rfl
theorem ty_z15 : zer Tryd.prog 15 = some [AV.nilPtr] := by kernel_rfl
theorem ty_b15 : isBld Tryd.prog 15 = false := by kernel_rfl
theorem ty_k16 : tyk Tryd.prog 16 = some (TyK.ptr 150) := by kernel_rfl
theorem ty_s16 : shp Tryd.prog 16 = some (false, 1) := by kernel_rfl
theorem ty_z16 : zer Tryd.prog 16 = some [AV.nilPtr] := by kernel_rfl
theorem ty_b16 : isBld Tryd.prog 16 = false := by kernel_rfl
theorem ty_k17 : tyk Tryd.prog 17 = some (TyK.ptr 158) := by kernel_rfl
theorem ty_s17 : shp Tryd.prog 17 = some (false, 1) := by kernel_rfl
theorem ty_z17 : zer Tryd.prog 17 = some [AV.nilPtr] := by kernel_rfl
theorem ty_b17 : isBld Tryd.prog 17 = false := by kernel_rfl
theorem ty_k18 : tyk Tryd.prog 18 = some (TyK.struct [(0, (false, 1))]) := by kernel_rfl
theorem ty_s18 : shp Tryd.prog 18 = some (true, 1) := by kernel_rfl
theorem ty_z18 : zer Tryd.prog 18 = some [AV.nilPtr] := by kernel_rfl
theorem ty_b18 : isBld Tryd.prog 18 = false := by kernel_rfl
theorem ty_d18_0 : fldOf Tryd.prog 18 0 = some (0, false, 1) := by kernel_rfl
theorem ty_k19 : tyk Tryd.prog 19 = some (TyK.struct [(0, (false, 1))]) := by kernel_rfl
theorem ty_s19 : shp Tryd.prog 19 = some (true, 1) := by kernel_rfl
theorem ty_z19 : zer Tryd.prog 19 = some [AV.nilPtr] := by kernel_rfl
theorem ty_b19 : isBld Tryd.prog 19 = false := by kernel_rfl
theorem ty_d19_0 : fldOf Tryd.prog 19 0 = some (0, false, 1) := by kernel_rfl
theorem ty_k20 : tyk Tryd.prog 20 = some (TyK.iface 0) := by kernel_rfl
theorem ty_s20 : shp Tryd.prog 20 = some (false, 1) := by kernel_rfl
theorem ty_z20 : zer Tryd.prog 20 = some [AV.nilIface] := by kernel_rfl
theorem ty_b20 : isBld Tryd.prog 20 = false := by kernel_rfl
theorem ty_k21 : tyk Tryd.prog 21 = some (TyK.int .i32) := by kernel_rfl
theorem ty_s21 : shp Tryd.prog 21 = some (false, 1) := by kernel_rfl
theorem ty_z21 : zer Tryd.prog 21 = some [(AV.int .i32 0)] := by kernel_rfl
theorem ty_b21 : isBld Tryd.prog 21 = false := by kernel_rfl
theorem ty_f21 : flatT Tryd.prog 10 21 = some [(TyS.si .i32)] := by kernel_rfl
theorem ty_g21 : Tryd.prog.eqGuardType Tryd.prog.depth 21 = false := by kernel_rfl
theorem ty_k22 : tyk Tryd.prog 22 = some (TyK.struct [(0, (false, 1)), (1, (false, 1)), (2, (false, 1))]) := by kernel_rfl
theorem ty_s22 : shp Tryd.prog 22 = some (true, 3) := by kernel_rfl
theorem ty_z22 : zer Tryd.prog 22 = some [(AV.int .i64 0), (AV.int .i64 0), (AV.str [])] := by kernel_rfl
theorem ty_b22 : isBld Tryd.prog 22 = false := by kernel_rfl
theorem ty_f22 : flatT Tryd.prog 10 22 = some [(TyS.si .i64), (TyS.si .i64), TyS.ss] := by kernel_rfl
theorem ty_g22 : Tryd.prog.eqGuardType Tryd.prog.depth 22 = false := by kernel_rfl
theorem ty_d22_0 : fldOf Tryd.prog 22 0 = some (0, false, 1) := by kernel_rfl
theorem ty_d22_1 : fldOf Tryd.prog 22 1 = some (1, false, 1) := by kernel_rfl
theorem ty_d22_2 : fldOf Tryd.prog 22 2 = some (2, false, 1) := by kernel_rfl
theorem ty_k23 : tyk Tryd.prog 23 = some (TyK.struct [(0, (false, 1)), (1, (false, 1)), (2, (false, 1))]) := by kernel_rfl
theorem ty_s23 : shp Tryd.prog 23 = some (true, 3) := by kernel_rfl
theorem ty_z23 : zer Tryd.prog 23 = some [(AV.int .i64 0), (AV.int .i64 0), (AV.str [])] := by kernel_rfl
theorem ty_b23 : isBld Tryd.prog 23 = false := by kernel_rfl
theorem ty_f23 : flatT Tryd.prog 10 23 = some [(TyS.si .i64), (TyS.si .i64), TyS.ss] := by kernel_rfl
theorem ty_g23 : Tryd.prog.eqGuardType Tryd.prog.depth 23 = false := by kernel_rfl
theorem ty_d23_0 : fldOf Tryd.prog 23 0 = some (0, false, 1) := by kernel_rfl
theorem ty_d23_1 : fldOf Tryd.prog 23 1 = some (1, false, 1) := by kernel_rfl
theorem ty_d23_2 : fldOf Tryd.prog 23 2 = some (2, false, 1) := by kernel_rfl
theorem ty_k24 : tyk Tryd.prog 24 = some TyK.func := by kernel_rfl
theorem ty_s24 : shp Tryd.prog 24 = some (false, 1) := by kernel_rfl
theorem ty_z24 : zer Tryd.prog 24 = some [AV.nilFn] := by kernel_rfl
theorem ty_b24 : isBld Tryd.prog 24 = false := by kernel_rfl
theorem ty_k25 : tyk Tryd.prog 25 = some (TyK.int .i64) := by kernel_rfl
theorem ty_s25 : shp Tryd.prog 25 = some (false, 1) := by kernel_rfl
theorem ty_z25 : zer Tryd.prog 25 = some [(AV.int .i64 0)] := by kernel_rfl
theorem ty_b25 : isBld Tryd.prog 25 = false := by kernel_rfl
theorem ty_f25 : flatT Tryd.prog 10 25 = some [(TyS.si .i64)] := by kernel_rfl
theorem ty_g25 : Tryd.prog.eqGuardType Tryd.prog.depth 25 = false := by kernel_rfl
theorem ty_k26 : tyk Tryd.prog 26 = some TyK.other := by kernel_rfl
theorem ty_s26 : shp Tryd.prog 26 = some (false, 1) := by kernel_rfl
theorem ty_z26 : zer Tryd.prog 26 = some [(AV.tuple [AV.undef, (AV.int .i64 0)])] := by kernel_rfl
theorem ty_b26 : isBld Tryd.prog 26 = false := by kernel_rfl
theorem ty_k27 : tyk Tryd.prog 27 = some TyK.func := by kernel_rfl
theorem ty_s27 : shp Tryd.prog 27 = some (false, 1) := by kernel_rfl
theorem ty_z27 : zer Tryd.prog 27 = some [AV.nilFn] := by kernel_rfl
theorem ty_b27 : isBld Tryd.prog 27 = false := by kernel_rfl
theorem ty_k28 : tyk Tryd.prog 28 = some TyK.func := by kernel_rfl
theorem ty_s28 : shp Tryd.prog 28 = some (false, 1) := by kernel_rfl
theorem ty_z28 : zer Tryd.prog 28 = some [AV.nilFn] := by kernel_rfl
theorem ty_b28 : isBld Tryd.prog 28 = false := by kernel_rfl
theorem ty_k29 : tyk Tryd.prog 29 = some TyK.func := by kernel_rfl
theorem ty_s29 : shp Tryd.prog 29 = some (false, 1) := by kernel_rfl
theorem ty_z29 : zer Tryd.prog 29 = some [AV.nilFn] := by kernel_rfl
theorem ty_b29 : isBld Tryd.prog 29 = false := by kernel_rfl
theorem ty_k30 : tyk Tryd.prog 30 = some (TyK.struct [(0, (false, 1)), (1, (false, 1)), (2, (false, 1)), (3, (false, 1)), (4, (false, 1))]) := by kernel_rfl
theorem ty_s30 : shp Tryd.prog 30 = some (true, 5) := by kernel_rfl
theorem ty_z30 : zer Tryd.prog 30 = some [(AV.int .u8 0), (AV.int .u8 0), (AV.int .u8 0), (AV.int .u8 0), (AV.int .u8 0)] := by kernel_rfl
theorem ty_b30 : isBld Tryd.prog 30 = false := by kernel_rfl
theorem ty_f30 : flatT Tryd.prog 10 30 = some [(TyS.si .u8), (TyS.si .u8), (TyS.si .u8), (TyS.si .u8), (TyS.si .u8)] := by kernel_rfl
theorem ty_g30 : Tryd.prog.eqGuardType Tryd.prog.depth 30 = false := by kernel_rfl
theorem ty_d30_0 : fldOf Tryd.prog 30 0 = some (0, false, 1) := by kernel_rfl
theorem ty_d30_1 : fldOf Tryd.prog 30 1 = some (1, false, 1) := by kernel_rfl
theorem ty_d30_2 : fldOf Tryd.prog 30 2 = some (2, false, 1) := by kernel_rfl
theorem ty_d30_3 : fldOf Tryd.prog 30 3 = some (3, false, 1) := by kernel_rfl
theorem ty_d30_4 : fldOf Tryd.prog 30 4 = some (4, false, 1) := by kernel_rfl
theorem ty_k31 : tyk Tryd.prog 31 = some (TyK.struct [(0, (false, 1)), (1, (false, 1)), (2, (false, 1)), (3, (false, 1)), (4, (false, 1))]) := by kernel_rfl
theorem ty_s31 : shp Tryd.prog 31 = some (true, 5) := by kernel_rfl
theorem ty_z31 : zer Tryd.prog 31 = some [(AV.int .u8 0), (AV.int .u8 0), (AV.int .u8 0), (AV.int .u8 0), (AV.int .u8 0)] := by kernel_rfl
theorem ty_b31 : isBld Tryd.prog 31 = false := by kernel_rfl
theorem ty_f31 : flatT Tryd.prog 10 31 = some [(TyS.si .u8), (TyS.si .u8), (TyS.si .u8), (TyS.si .u8), (TyS.si .u8)] := by kernel_rfl
theorem ty_g31 : Tryd.prog.eqGuardType Tryd.prog.depth 31 = false := by kernel_rfl
theorem ty_d31_0 : fldOf Tryd.prog 31 0 = some (0, false, 1) := by kernel_rfl
theorem ty_d31_1 : fldOf Tryd.prog 31 1 = some (1, false, 1) := by kernel_rfl
theorem ty_d31_2 : fldOf Tryd.prog 31 2 = some (2, false, 1) := by kernel_rfl
theorem ty_d31_3 : fldOf Tryd.prog 31 3 = some (3, false, 1) := by kernel_rfl
theorem ty_d31_4 : fldOf Tryd.prog 31 4 = some (4, false, 1) := by kernel_rfl
theorem ty_k32 : tyk Tryd.prog 32 = some TyK.func := by kernel_rfl
theorem ty_s32 : shp Tryd.prog 32 = some (false, 1) := by kernel_rfl
theorem ty_z32 : zer Tryd.prog 32 = some [AV.nilFn] := by kernel_rfl
theorem ty_b32 : isBld Tryd.prog 32 = false := by kernel_rfl
theorem ty_k33 : tyk Tryd.prog 33 = some TyK.func := by kernel_rfl
theorem ty_s33 : shp Tryd.prog 33 = some (false, 1) := by kernel_rfl
theorem ty_z33 : zer Tryd.prog 33 = some [AV.nilFn] := by kernel_rfl
theorem ty_b33 : isBld Tryd.prog 33 = false := by kernel_rfl
theorem ty_k34 : tyk Tryd.prog 34 = some (TyK.slice 31 true 5 5) := by kernel_rfl
theorem ty_s34 : shp Tryd.prog 34 = some (false, 1) := by kernel_rfl
theorem ty_z34 : zer Tryd.prog 34 = some [AV.nilSl] := by kernel_rfl
theorem ty_b34 : isBld Tryd.prog 34 = false := by kernel_rfl
theorem ty_k35 : tyk Tryd.prog 35 = some (TyK.ptr 55) := by kernel_rfl
theorem ty_s35 : shp Tryd.prog 35 = some (false, 1) := by kernel_rfl
theorem ty_z35 : zer Tryd.prog 35 = some [AV.nilPtr] := by kernel_rfl
theorem ty_b35 : isBld Tryd.prog 35 = false := by kernel_rfl
theorem ty_k36 : tyk Tryd.prog 36 = some TyK.func := by kernel_rfl
theorem ty_s36 : shp Tryd.prog 36 = some (false, 1) := by kernel_rfl
theorem ty_z36 : zer Tryd.prog 36 = some [AV.nilFn] := by kernel_rfl
theorem ty_b36 : isBld Tryd.prog 36 = false := by kernel_rfl
theorem ty_k37 : tyk Tryd.prog 37 = some TyK.func := by kernel_rfl
theorem ty_s37 : shp Tryd.prog 37 = some (false, 1) := by kernel_rfl
theorem ty_z37 : zer Tryd.prog 37 = some [AV.nilFn] := by kernel_rfl
theorem ty_b37 : isBld Tryd.prog 37 = false := by kernel_rfl
theorem ty_k38 : tyk Tryd.prog 38 = some TyK.func := by kernel_rfl
theorem ty_s38 : shp Tryd.prog 38 = some (false, 1) := by kernel_rfl
theorem ty_z38 : zer Tryd.prog 38 = some [AV.nilFn] := by kernel_rfl
theorem ty_b38 : isBld Tryd.prog 38 = false := by kernel_rfl
theorem ty_k39 : tyk Tryd.prog 39 = some TyK.func := by kernel_rfl
theorem ty_s39 : shp Tryd.prog 39 = some (false, 1) := by kernel_rfl
theorem ty_z39 : zer Tryd.prog 39 = some [AV.nilFn] := by kernel_rfl
theorem ty_b39 : isBld Tryd.prog 39 = false := by kernel_rfl
theorem ty_k40 : tyk Tryd.prog 40 = some TyK.func := by kernel_rfl
theorem ty_s40 : shp Tryd.prog 40 = some (false, 1) := by kernel_rfl
theorem ty_z40 : zer Tryd.prog 40 = some [AV.nilFn] := by kernel_rfl
theorem ty_b40 : isBld Tryd.prog 40 = false := by kernel_rfl
theorem ty_k41 : tyk Tryd.prog 41 = some TyK.func := by kernel_rfl
theorem ty_s41 : shp Tryd.prog 41 = some (false, 1) := by kernel_rfl
theorem ty_z41 : zer Tryd.prog 41 = some [AV.nilFn] := by kernel_rfl
theorem ty_b41 : isBld Tryd.prog 41 = false := by kernel_rfl
theorem ty_k42 : tyk Tryd.prog 42 = some (TyK.slice 9 false 1 16) := by kernel_rfl
theorem ty_s42 : shp Tryd.prog 42 = some (false, 1) := by kernel_rfl
theorem ty_z42 : zer Tryd.prog 42 = some [AV.nilSl] := by kernel_rfl
theorem ty_b42 : isBld Tryd.prog 42 = false := by kernel_rfl
theorem ty_k43 : tyk Tryd.prog 43 = some TyK.func := by kernel_rfl
theorem ty_s43 : shp Tryd.prog 43 = some (false, 1) := by kernel_rfl
theorem ty_z43 : zer Tryd.prog 43 = some [AV.nilFn] := by kernel_rfl
theorem ty_b43 : isBld Tryd.prog 43 = false := by kernel_rfl
theorem ty_k44 : tyk Tryd.prog 44 = some TyK.other := by kernel_rfl
theorem ty_s44 : shp Tryd.prog 44 = some (false, 1) := by kernel_rfl
theorem ty_z44 : zer Tryd.prog 44 = some [(AV.tuple [AV.nilSl, (AV.int .i64 0)])] := by kernel_rfl
theorem ty_b44 : isBld Tryd.prog 44 = false := by kernel_rfl
theorem ty_k45 : tyk Tryd.prog 45 = some TyK.func := by kernel_rfl
theorem ty_s45 : shp Tryd.prog 45 = some (false, 1) := by kernel_rfl
theorem ty_z45 : zer Tryd.prog 45 = some [AV.nilFn] := by kernel_rfl
theorem ty_b45 : isBld Tryd.prog 45 = false := by kernel_rfl
theorem ty_k46 : tyk Tryd.prog 46 = some TyK.other := by kernel_rfl
theorem ty_s46 : shp Tryd.prog 46 = some (false, 1) := by kernel_rfl
theorem ty_z46 : zer Tryd.prog 46 = some [(AV.tuple [(AV.int .i64 0), (AV.bool false)])] := by kernel_rfl
theorem ty_b46 : isBld Tryd.prog 46 = false := by kernel_rfl
theorem ty_k47 : tyk Tryd.prog 47 = some TyK.func := by kernel_rfl
theorem ty_s47 : shp Tryd.prog 47 = some (false, 1) := by kernel_rfl
theorem ty_z47 : zer Tryd.prog 47 = some [AV.nilFn] := by kernel_rfl
theorem ty_b47 : isBld Tryd.prog 47 = false := by kernel_rfl
theorem ty_k48 : tyk Tryd.prog 48 = some TyK.func := by kernel_rfl
theorem ty_s48 : shp Tryd.prog 48 = some (false, 1) := by kernel_rfl
theorem ty_z48 : zer Tryd.prog 48 = some [AV.nilFn] := by kernel_rfl
theorem ty_b48 : isBld Tryd.prog 48 = false := by kernel_rfl
theorem ty_k49 : tyk Tryd.prog 49 = some TyK.func := by kernel_rfl
theorem ty_s49 : shp Tryd.prog 49 = some (false, 1) := by kernel_rfl
theorem ty_z49 : zer Tryd.prog 49 = some [AV.nilFn] := by kernel_rfl
theorem ty_b49 : isBld Tryd.prog 49 = false := by kernel_rfl
theorem ty_k50 : tyk Tryd.prog 50 = some TyK.func := by kernel_rfl
theorem ty_s50 : shp Tryd.prog 50 = some (false, 1) := by kernel_rfl
theorem ty_z50 : zer Tryd.prog 50 = some [AV.nilFn] := by kernel_rfl
theorem ty_b50 : isBld Tryd.prog 50 = false := by kernel_rfl
theorem ty_k51 : tyk Tryd.prog 51 = some (TyK.map 9 23) := by kernel_rfl
theorem ty_s51 : shp Tryd.prog 51 = some (false, 1) := by kernel_rfl
theorem ty_z51 : zer Tryd.prog 51 = some [AV.nilMap] := by kernel_rfl
theorem ty_b51 : isBld Tryd.prog 51 = false := by kernel_rfl
theorem ty_m51 : mapD Tryd.prog 51 = some ([TyS.ss], (false, (AV.agg [(AV.int .i64 0), (AV.int .i64 0), (AV.str [])]))) := by kernel_rfl
theorem ty_h51 : keyShape Tryd.prog 51 = some ([TyS.ss], false) := by kernel_rfl
theorem ty_k52 : tyk Tryd.prog 52 = some (TyK.map 9 23) := by kernel_rfl
theorem ty_s52 : shp Tryd.prog 52 = some (false, 1) := by kernel_rfl
theorem ty_z52 : zer Tryd.prog 52 = some [AV.nilMap] := by kernel_rfl
theorem ty_b52 : isBld Tryd.prog 52 = false := by kernel_rfl
theorem ty_m52 : mapD Tryd.prog 52 = some ([TyS.ss], (false, (AV.agg [(AV.int .i64 0), (AV.int .i64 0), (AV.str [])]))) := by kernel_rfl
theorem ty_h52 : keyShape Tryd.prog 52 = some ([TyS.ss], false) := by kernel_rfl
theorem ty_k53 : tyk Tryd.prog 53 = some (TyK.ptr 59) := by kernel_rfl
theorem ty_s53 : shp Tryd.prog 53 = some (false, 1) := by kernel_rfl
theorem ty_z53 : zer Tryd.prog 53 = some [AV.nilPtr] := by kernel_rfl
theorem ty_b53 : isBld Tryd.prog 53 = false := by kernel_rfl
theorem ty_k54 : tyk Tryd.prog 54 = some (TyK.struct [(0, (false, 1)), (1, (false, 1))]) := by kernel_rfl
theorem ty_s54 : shp Tryd.prog 54 = some (true, 2) := by kernel_rfl
theorem ty_z54 : zer Tryd.prog 54 = some [AV.nilMap, AV.nilPtr] := by kernel_rfl
theorem ty_b54 : isBld Tryd.prog 54 = false := by kernel_rfl
theorem ty_d54_0 : fldOf Tryd.prog 54 0 = some (0, false, 1) := by kernel_rfl
theorem ty_d54_1 : fldOf Tryd.prog 54 1 = some (1, false, 1) := by kernel_rfl
theorem ty_k55 : tyk Tryd.prog 55 = some (TyK.struct [(0, (false, 1)), (1, (false, 1))]) := by kernel_rfl
theorem ty_s55 : shp Tryd.prog 55 = some (true, 2) := by kernel_rfl
theorem ty_z55 : zer Tryd.prog 55 = some [AV.nilMap, AV.nilPtr] := by kernel_rfl
theorem ty_b55 : isBld Tryd.prog 55 = false := by kernel_rfl
theorem ty_d55_0 : fldOf Tryd.prog 55 0 = some (0, false, 1) := by kernel_rfl
theorem ty_d55_1 : fldOf Tryd.prog 55 1 = some (1, false, 1) := by kernel_rfl
theorem ty_k56 : tyk Tryd.prog 56 = some (TyK.map 62 9) := by kernel_rfl
theorem ty_s56 : shp Tryd.prog 56 = some (false, 1) := by kernel_rfl
theorem ty_z56 : zer Tryd.prog 56 = some [AV.nilMap] := by kernel_rfl
theorem ty_b56 : isBld Tryd.prog 56 = false := by kernel_rfl
theorem ty_m56 : mapD Tryd.prog 56 = some ([TyS.ss, TyS.sb], (true, (AV.str []))) := by kernel_rfl
theorem ty_h56 : keyShape Tryd.prog 56 = some ([TyS.ss, TyS.sb], true) := by kernel_rfl
theorem ty_k57 : tyk Tryd.prog 57 = some (TyK.map 9 4) := by kernel_rfl
theorem ty_s57 : shp Tryd.prog 57 = some (false, 1) := by kernel_rfl
theorem ty_z57 : zer Tryd.prog 57 = some [AV.nilMap] := by kernel_rfl
theorem ty_b57 : isBld Tryd.prog 57 = false := by kernel_rfl
theorem ty_m57 : mapD Tryd.prog 57 = some ([TyS.ss], (false, (AV.bool false))) := by kernel_rfl
theorem ty_h57 : keyShape Tryd.prog 57 = some ([TyS.ss], false) := by kernel_rfl
theorem ty_k58 : tyk Tryd.prog 58 = some (TyK.struct [(0, (false, 1)), (1, (false, 1)), (2, (false, 1))]) := by kernel_rfl
theorem ty_s58 : shp Tryd.prog 58 = some (true, 3) := by kernel_rfl
theorem ty_z58 : zer Tryd.prog 58 = some [AV.nilMap, AV.nilMap, AV.nilMap] := by kernel_rfl
theorem ty_b58 : isBld Tryd.prog 58 = false := by kernel_rfl
theorem ty_d58_0 : fldOf Tryd.prog 58 0 = some (0, false, 1) := by kernel_rfl
theorem ty_d58_1 : fldOf Tryd.prog 58 1 = some (1, false, 1) := by kernel_rfl
theorem ty_d58_2 : fldOf Tryd.prog 58 2 = some (2, false, 1) := by kernel_rfl
theorem ty_k59 : tyk Tryd.prog 59 = some (TyK.struct [(0, (false, 1)), (1, (false, 1)), (2, (false, 1))]) := by kernel_rfl
theorem ty_s59 : shp Tryd.prog 59 = some (true, 3) := by kernel_rfl
theorem ty_z59 : zer Tryd.prog 59 = some [AV.nilMap, AV.nilMap, AV.nilMap] := by kernel_rfl
theorem ty_b59 : isBld Tryd.prog 59 = false := by kernel_rfl
theorem ty_d59_0 : fldOf Tryd.prog 59 0 = some (0, false, 1) := by kernel_rfl
theorem ty_d59_1 : fldOf Tryd.prog 59 1 = some (1, false, 1) := by kernel_rfl
theorem ty_d59_2 : fldOf Tryd.prog 59 2 = some (2, false, 1) := by kernel_rfl
theorem ty_k60 : tyk Tryd.prog 60 = some TyK.func := by kernel_rfl
theorem ty_s60 : shp Tryd.prog 60 = some (false, 1) := by kernel_rfl
theorem ty_z60 : zer Tryd.prog 60 = some [AV.nilFn] := by kernel_rfl
theorem ty_b60 : isBld Tryd.prog 60 = false := by kernel_rfl
theorem ty_k61 : tyk Tryd.prog 61 = some (TyK.struct [(0, (false, 1)), (1, (false, 1))]) := by kernel_rfl
theorem ty_s61 : shp Tryd.prog 61 = some (true, 2) := by kernel_rfl
theorem ty_z61 : zer Tryd.prog 61 = some [(AV.str []), (AV.bool false)] := by kernel_rfl
theorem ty_b61 : isBld Tryd.prog 61 = false := by kernel_rfl
theorem ty_f61 : flatT Tryd.prog 10 61 = some [TyS.ss, TyS.sb] := by kernel_rfl
theorem ty_g61 : Tryd.prog.eqGuardType Tryd.prog.depth 61 = false := by kernel_rfl
theorem ty_d61_0 : fldOf Tryd.prog 61 0 = some (0, false, 1) := by kernel_rfl
theorem ty_d61_1 : fldOf Tryd.prog 61 1 = some (1, false, 1) := by kernel_rfl
theorem ty_k62 : tyk Tryd.prog 62 = some (TyK.struct [(0, (false, 1)), (1, (false, 1))]) := by kernel_rfl
theorem ty_s62 : shp Tryd.prog 62 = some (true, 2) := by kernel_rfl
theorem ty_z62 : zer Tryd.prog 62 = some [(AV.str []), (AV.bool false)] := by kernel_rfl
theorem ty_b62 : isBld Tryd.prog 62 = false := by kernel_rfl
theorem ty_f62 : flatT Tryd.prog 10 62 = some [TyS.ss, TyS.sb] := by kernel_rfl
theorem ty_g62 : Tryd.prog.eqGuardType Tryd.prog.depth 62 = false := by kernel_rfl
theorem ty_d62_0 : fldOf Tryd.prog 62 0 = some (0, false, 1) := by kernel_rfl
theorem ty_d62_1 : fldOf Tryd.prog 62 1 = some (1, false, 1) := by kernel_rfl
theorem ty_k63 : tyk Tryd.prog 63 = some TyK.other := by kernel_rfl
theorem ty_s63 : shp Tryd.prog 63 = some (false, 1) := by kernel_rfl
theorem ty_z63 : zer Tryd.prog 63 = some [(AV.tuple [(AV.str []), (AV.str []), (AV.bool false)])] := by kernel_rfl
theorem ty_b63 : isBld Tryd.prog 63 = false := by kernel_rfl
theorem ty_k64 : tyk Tryd.prog 64 = some TyK.func := by kernel_rfl
theorem ty_s64 : shp Tryd.prog 64 = some (false, 1) := by kernel_rfl
theorem ty_z64 : zer Tryd.prog 64 = some [AV.nilFn] := by kernel_rfl
theorem ty_b64 : isBld Tryd.prog 64 = false := by kernel_rfl
theorem ty_k65 : tyk Tryd.prog 65 = some (TyK.iface 1) := by kernel_rfl
theorem ty_s65 : shp Tryd.prog 65 = some (false, 1) := by kernel_rfl
theorem ty_z65 : zer Tryd.prog 65 = some [AV.nilIface] := by kernel_rfl
theorem ty_b65 : isBld Tryd.prog 65 = false := by kernel_rfl
theorem ty_k66 : tyk Tryd.prog 66 = some (TyK.iface 1) := by kernel_rfl
theorem ty_s66 : shp Tryd.prog 66 = some (false, 1) := by kernel_rfl
theorem ty_z66 : zer Tryd.prog 66 = some [AV.nilIface] := by kernel_rfl
theorem ty_b66 : isBld Tryd.prog 66 = false := by kernel_rfl
theorem ty_k67 : tyk Tryd.prog 67 = some TyK.other := by kernel_rfl
theorem ty_s67 : shp Tryd.prog 67 = some (false, 1) := by kernel_rfl
theorem ty_z67 : zer Tryd.prog 67 = some [(AV.tuple [(AV.int .i64 0), AV.nilIface])] := by kernel_rfl
theorem ty_b67 : isBld Tryd.prog 67 = false := by kernel_rfl
theorem ty_k68 : tyk Tryd.prog 68 = some TyK.func := by kernel_rfl
theorem ty_s68 : shp Tryd.prog 68 = some (false, 1) := by kernel_rfl
theorem ty_z68 : zer Tryd.prog 68 = some [AV.nilFn] := by kernel_rfl
theorem ty_b68 : isBld Tryd.prog 68 = false := by kernel_rfl
theorem ty_k69 : tyk Tryd.prog 69 = some (TyK.ptr 73) := by kernel_rfl
theorem ty_s69 : shp Tryd.prog 69 = some (false, 1) := by kernel_rfl
theorem ty_z69 : zer Tryd.prog 69 = some [AV.nilPtr] := by kernel_rfl
theorem ty_b69 : isBld Tryd.prog 69 = false := by kernel_rfl
theorem ty_k70 : tyk Tryd.prog 70 = some TyK.func := by kernel_rfl
theorem ty_s70 : shp Tryd.prog 70 = some (false, 1) := by kernel_rfl
theorem ty_z70 : zer Tryd.prog 70 = some [AV.nilFn] := by kernel_rfl
theorem ty_b70 : isBld Tryd.prog 70 = false := by kernel_rfl
theorem ty_k71 : tyk Tryd.prog 71 = some (TyK.slice 5 false 1 1) := by kernel_rfl
theorem ty_s71 : shp Tryd.prog 71 = some (false, 1) := by kernel_rfl
theorem ty_z71 : zer Tryd.prog 71 = some [AV.nilSl] := by kernel_rfl
theorem ty_b71 : isBld Tryd.prog 71 = false := by kernel_rfl
theorem ty_k72 : tyk Tryd.prog 72 = some (TyK.struct [(0, (false, 1)), (1, (false, 1))]) := by kernel_rfl
theorem ty_s72 : shp Tryd.prog 72 = some (true, 2) := by kernel_rfl
theorem ty_z72 : zer Tryd.prog 72 = some [AV.nilPtr, AV.nilSl] := by kernel_rfl
theorem ty_b72 : isBld Tryd.prog 72 = false := by kernel_rfl
theorem ty_d72_0 : fldOf Tryd.prog 72 0 = some (0, false, 1) := by kernel_rfl
theorem ty_d72_1 : fldOf Tryd.prog 72 1 = some (1, false, 1) := by kernel_rfl
theorem ty_k73 : tyk Tryd.prog 73 = some (TyK.struct [(0, (false, 1)), (1, (false, 1))]) := by kernel_rfl
theorem ty_s73 : shp Tryd.prog 73 = some (true, 2) := by kernel_rfl
theorem ty_z73 : zer Tryd.prog 73 = some [AV.nilPtr, AV.nilSl] := by kernel_rfl
theorem ty_b73 : isBld Tryd.prog 73 = true := by kernel_rfl
theorem ty_d73_0 : fldOf Tryd.prog 73 0 = some (0, false, 1) := by kernel_rfl
theorem ty_d73_1 : fldOf Tryd.prog 73 1 = some (1, false, 1) := by kernel_rfl
theorem ty_k74 : tyk Tryd.prog 74 = some TyK.func := by kernel_rfl
theorem ty_s74 : shp Tryd.prog 74 = some (false, 1) := by kernel_rfl
theorem ty_z74 : zer Tryd.prog 74 = some [AV.nilFn] := by kernel_rfl
theorem ty_b74 : isBld Tryd.prog 74 = false := by kernel_rfl
theorem ty_k75 : tyk Tryd.prog 75 = some TyK.func := by kernel_rfl
theorem ty_s75 : shp Tryd.prog 75 = some (false, 1) := by kernel_rfl
theorem ty_z75 : zer Tryd.prog 75 = some [AV.nilFn] := by kernel_rfl
theorem ty_b75 : isBld Tryd.prog 75 = false := by kernel_rfl
theorem ty_k76 : tyk Tryd.prog 76 = some TyK.other := by kernel_rfl
theorem ty_s76 : shp Tryd.prog 76 = some (false, 1) := by kernel_rfl
theorem ty_z76 : zer Tryd.prog 76 = some [(AV.tuple [(AV.str []), (AV.bool false)])] := by kernel_rfl
theorem ty_b76 : isBld Tryd.prog 76 = false := by kernel_rfl
theorem ty_k77 : tyk Tryd.prog 77 = some TyK.func := by kernel_rfl
theorem ty_s77 : shp Tryd.prog 77 = some (false, 1) := by kernel_rfl
theorem ty_z77 : zer Tryd.prog 77 = some [AV.nilFn] := by kernel_rfl
theorem ty_b77 : isBld Tryd.prog 77 = false := by kernel_rfl
theorem ty_k78 : tyk Tryd.prog 78 = some TyK.func := by kernel_rfl
theorem ty_s78 : shp Tryd.prog 78 = some (false, 1) := by kernel_rfl
theorem ty_z78 : zer Tryd.prog 78 = some [AV.nilFn] := by kernel_rfl
theorem ty_b78 : isBld Tryd.prog 78 = false := by kernel_rfl
theorem ty_k79 : tyk Tryd.prog 79 = some TyK.func := by kernel_rfl
theorem ty_s79 : shp Tryd.prog 79 = some (false, 1) := by kernel_rfl
theorem ty_z79 : zer Tryd.prog 79 = some [AV.nilFn] := by kernel_rfl
theorem ty_b79 : isBld Tryd.prog 79 = false := by kernel_rfl
theorem ty_k80 : tyk Tryd.prog 80 = some TyK.func := by kernel_rfl
theorem ty_s80 : shp Tryd.prog 80 = some (false, 1) := by kernel_rfl
theorem ty_z80 : zer Tryd.prog 80 = some [AV.nilFn] := by kernel_rfl
theorem ty_b80 : isBld Tryd.prog 80 = false := by kernel_rfl
theorem ty_k81 : tyk Tryd.prog 81 = some TyK.func := by kernel_rfl
theorem ty_s81 : shp Tryd.prog 81 = some (false, 1) := by kernel_rfl
theorem ty_z81 : zer Tryd.prog 81 = some [AV.nilFn] := by kernel_rfl
theorem ty_b81 : isBld Tryd.prog 81 = false := by kernel_rfl
theorem ty_k82 : tyk Tryd.prog 82 = some TyK.func := by kernel_rfl
theorem ty_s82 : shp Tryd.prog 82 = some (false, 1) := by kernel_rfl
theorem ty_z82 : zer Tryd.prog 82 = some [AV.nilFn] := by kernel_rfl
theorem ty_b82 : isBld Tryd.prog 82 = false := by kernel_rfl
theorem ty_k83 : tyk Tryd.prog 83 = some (TyK.ptr 5) := by kernel_rfl
theorem ty_s83 : shp Tryd.prog 83 = some (false, 1) := by kernel_rfl
theorem ty_z83 : zer Tryd.prog 83 = some [AV.nilPtr] := by kernel_rfl
theorem ty_b83 : isBld Tryd.prog 83 = false := by kernel_rfl
theorem ty_k84 : tyk Tryd.prog 84 = some TyK.func := by kernel_rfl
theorem ty_s84 : shp Tryd.prog 84 = some (false, 1) := by kernel_rfl
theorem ty_z84 : zer Tryd.prog 84 = some [AV.nilFn] := by kernel_rfl
theorem ty_b84 : isBld Tryd.prog 84 = false := by kernel_rfl
theorem ty_k85 : tyk Tryd.prog 85 = some TyK.func := by kernel_rfl
theorem ty_s85 : shp Tryd.prog 85 = some (false, 1) := by kernel_rfl
theorem ty_z85 : zer Tryd.prog 85 = some [AV.nilFn] := by kernel_rfl
theorem ty_b85 : isBld Tryd.prog 85 = false := by kernel_rfl
theorem ty_k86 : tyk Tryd.prog 86 = some TyK.func := by kernel_rfl
theorem ty_s86 : shp Tryd.prog 86 = some (false, 1) := by kernel_rfl
theorem ty_z86 : zer Tryd.prog 86 = some [AV.nilFn] := by kernel_rfl
theorem ty_b86 : isBld Tryd.prog 86 = false := by kernel_rfl
theorem ty_k87 : tyk Tryd.prog 87 = some TyK.func := by kernel_rfl
theorem ty_s87 : shp Tryd.prog 87 = some (false, 1) := by kernel_rfl
theorem ty_z87 : zer Tryd.prog 87 = some [AV.nilFn] := by kernel_rfl
theorem ty_b87 : isBld Tryd.prog 87 = false := by kernel_rfl
theorem ty_k88 : tyk Tryd.prog 88 = some TyK.func := by kernel_rfl
theorem ty_s88 : shp Tryd.prog 88 = some (false, 1) := by kernel_rfl
theorem ty_z88 : zer Tryd.prog 88 = some [AV.nilFn] := by kernel_rfl
theorem ty_b88 : isBld Tryd.prog 88 = false := by kernel_rfl
theorem ty_k89 : tyk Tryd.prog 89 = some TyK.func := by kernel_rfl
theorem ty_s89 : shp Tryd.prog 89 = some (false, 1) := by kernel_rfl
theorem ty_z89 : zer Tryd.prog 89 = some [AV.nilFn] := by kernel_rfl
theorem ty_b89 : isBld Tryd.prog 89 = false := by kernel_rfl
theorem ty_k90 : tyk Tryd.prog 90 = some (TyK.int .i64) := by kernel_rfl
theorem ty_s90 : shp Tryd.prog 90 = some (false, 1) := by kernel_rfl
theorem ty_z90 : zer Tryd.prog 90 = some [(AV.int .i64 0)] := by kernel_rfl
theorem ty_b90 : isBld Tryd.prog 90 = false := by kernel_rfl
theorem ty_f90 : flatT Tryd.prog 10 90 = some [(TyS.si .i64)] := by kernel_rfl
theorem ty_g90 : Tryd.prog.eqGuardType Tryd.prog.depth 90 = false := by kernel_rfl
theorem ty_k91 : tyk Tryd.prog 91 = some TyK.other := by kernel_rfl
theorem ty_s91 : shp Tryd.prog 91 = some (false, 1) := by kernel_rfl
theorem ty_z91 : zer Tryd.prog 91 = some [(AV.tuple [(AV.int .i64 0), AV.nilIface])] := by kernel_rfl
theorem ty_b91 : isBld Tryd.prog 91 = false := by kernel_rfl
theorem ty_k92 : tyk Tryd.prog 92 = some TyK.func := by kernel_rfl
theorem ty_s92 : shp Tryd.prog 92 = some (false, 1) := by kernel_rfl
theorem ty_z92 : zer Tryd.prog 92 = some [AV.nilFn] := by kernel_rfl
theorem ty_b92 : isBld Tryd.prog 92 = false := by kernel_rfl
theorem ty_k93 : tyk Tryd.prog 93 = some (TyK.ptr 114) := by kernel_rfl
theorem ty_s93 : shp Tryd.prog 93 = some (false, 1) := by kernel_rfl
theorem ty_z93 : zer Tryd.prog 93 = some [AV.nilPtr] := by kernel_rfl
theorem ty_b93 : isBld Tryd.prog 93 = false := by kernel_rfl
theorem ty_k94 : tyk Tryd.prog 94 = some TyK.func := by kernel_rfl
theorem ty_s94 : shp Tryd.prog 94 = some (false, 1) := by kernel_rfl
theorem ty_z94 : zer Tryd.prog 94 = some [AV.nilFn] := by kernel_rfl
theorem ty_b94 : isBld Tryd.prog 94 = false := by kernel_rfl
theorem ty_k95 : tyk Tryd.prog 95 = some TyK.func := by kernel_rfl
theorem ty_s95 : shp Tryd.prog 95 = some (false, 1) := by kernel_rfl
theorem ty_z95 : zer Tryd.prog 95 = some [AV.nilFn] := by kernel_rfl
theorem ty_b95 : isBld Tryd.prog 95 = false := by kernel_rfl
theorem ty_k96 : tyk Tryd.prog 96 = some TyK.other := by kernel_rfl
theorem ty_s96 : shp Tryd.prog 96 = some (false, 1) := by kernel_rfl
theorem ty_z96 : zer Tryd.prog 96 = some [AV.nilPtr] := by kernel_rfl
theorem ty_b96 : isBld Tryd.prog 96 = false := by kernel_rfl
theorem ty_k97 : tyk Tryd.prog 97 = some TyK.func := by kernel_rfl
theorem ty_s97 : shp Tryd.prog 97 = some (false, 1) := by kernel_rfl
theorem ty_z97 : zer Tryd.prog 97 = some [AV.nilFn] := by kernel_rfl
theorem ty_b97 : isBld Tryd.prog 97 = false := by kernel_rfl
theorem ty_k98 : tyk Tryd.prog 98 = some (TyK.arr 24 5 false 1) := by kernel_rfl
theorem ty_s98 : shp Tryd.prog 98 = some (true, 24) := by kernel_rfl
theorem ty_z98 : zer Tryd.prog 98 = some [(AV.int .u8 0), (AV.int .u8 0), (AV.int .u8 0), (AV.int .u8 0), (AV.int .u8 0), (AV.int .u8 0), (AV.int .u8 0), (AV.int .u8 0), (AV.int .u8 0), (AV.int .u8 0), (AV.int .u8 0), (AV.int .u8 0), (AV.int .u8 0), (AV.int .u8 0), (AV.int .u8 0), (AV.int .u8 0), (AV.int .u8 0), (AV.int .u8 0), (AV.int .u8 0), (AV.int .u8 0), (AV.int .u8 0), (AV.int .u8 0), (AV.int .u8 0), (AV.int .u8 0)] := by kernel_rfl
theorem ty_b98 : isBld Tryd.prog 98 = false := by kernel_rfl
theorem ty_k99 : tyk Tryd.prog 99 = some (TyK.int .u64) := by kernel_rfl
theorem ty_s99 : shp Tryd.prog 99 = some (false, 1) := by kernel_rfl
theorem ty_z99 : zer Tryd.prog 99 = some [(AV.int .u64 0)] := by kernel_rfl
theorem ty_b99 : isBld Tryd.prog 99 = false := by kernel_rfl
theorem ty_f99 : flatT Tryd.prog 10 99 = some [(TyS.si .u64)] := by kernel_rfl
theorem ty_g99 : Tryd.prog.eqGuardType Tryd.prog.depth 99 = false := by kernel_rfl
theorem ty_k100 : tyk Tryd.prog 100 = some TyK.func := by kernel_rfl
theorem ty_s100 : shp Tryd.prog 100 = some (false, 1) := by kernel_rfl
theorem ty_z100 : zer Tryd.prog 100 = some [AV.nilFn] := by kernel_rfl
theorem ty_b100 : isBld Tryd.prog 100 = false := by kernel_rfl
theorem ty_k101 : tyk Tryd.prog 101 = some TyK.func := by kernel_rfl
theorem ty_s101 : shp Tryd.prog 101 = some (false, 1) := by kernel_rfl
theorem ty_z101 : zer Tryd.prog 101 = some [AV.nilFn] := by kernel_rfl
theorem ty_b101 : isBld Tryd.prog 101 = false := by kernel_rfl
theorem ty_k102 : tyk Tryd.prog 102 = some TyK.other := by kernel_rfl
theorem ty_s102 : shp Tryd.prog 102 = some (false, 1) := by kernel_rfl
theorem ty_z102 : zer Tryd.prog 102 = some [(AV.tuple [AV.nilSl, (AV.str [])])] := by kernel_rfl
theorem ty_b102 : isBld Tryd.prog 102 = false := by kernel_rfl
theorem ty_k103 : tyk Tryd.prog 103 = some TyK.func := by kernel_rfl
theorem ty_s103 : shp Tryd.prog 103 = some (false, 1) := by kernel_rfl
theorem ty_z103 : zer Tryd.prog 103 = some [AV.nilFn] := by kernel_rfl
theorem ty_b103 : isBld Tryd.prog 103 = false := by kernel_rfl
theorem ty_k104 : tyk Tryd.prog 104 = some TyK.func := by kernel_rfl
theorem ty_s104 : shp Tryd.prog 104 = some (false, 1) := by kernel_rfl
theorem ty_z104 : zer Tryd.prog 104 = some [AV.nilFn] := by kernel_rfl
theorem ty_b104 : isBld Tryd.prog 104 = false := by kernel_rfl
theorem ty_k105 : tyk Tryd.prog 105 = some TyK.func := by kernel_rfl
theorem ty_s105 : shp Tryd.prog 105 = some (false, 1) := by kernel_rfl
theorem ty_z105 : zer Tryd.prog 105 = some [AV.nilFn] := by kernel_rfl
theorem ty_b105 : isBld Tryd.prog 105 = false := by kernel_rfl
theorem ty_k106 : tyk Tryd.prog 106 = some TyK.func := by kernel_rfl
theorem ty_s106 : shp Tryd.prog 106 = some (false, 1) := by kernel_rfl
theorem ty_z106 : zer Tryd.prog 106 = some [AV.nilFn] := by kernel_rfl
theorem ty_b106 : isBld Tryd.prog 106 = false := by kernel_rfl
theorem ty_k107 : tyk Tryd.prog 107 = some (TyK.int .u64) := by kernel_rfl
theorem ty_s107 : shp Tryd.prog 107 = some (false, 1) := by kernel_rfl
theorem ty_z107 : zer Tryd.prog 107 = some [(AV.int .u64 0)] := by kernel_rfl
theorem ty_b107 : isBld Tryd.prog 107 = false := by kernel_rfl
theorem ty_f107 : flatT Tryd.prog 10 107 = some [(TyS.si .u64)] := by kernel_rfl
theorem ty_g107 : Tryd.prog.eqGuardType Tryd.prog.depth 107 = false := by kernel_rfl
theorem ty_k108 : tyk Tryd.prog 108 = some TyK.func := by kernel_rfl
theorem ty_s108 : shp Tryd.prog 108 = some (false, 1) := by kernel_rfl
theorem ty_z108 : zer Tryd.prog 108 = some [AV.nilFn] := by kernel_rfl
theorem ty_b108 : isBld Tryd.prog 108 = false := by kernel_rfl
theorem ty_k109 : tyk Tryd.prog 109 = some TyK.func := by kernel_rfl
theorem ty_s109 : shp Tryd.prog 109 = some (false, 1) := by kernel_rfl
theorem ty_z109 : zer Tryd.prog 109 = some [AV.nilFn] := by kernel_rfl
theorem ty_b109 : isBld Tryd.prog 109 = false := by kernel_rfl
theorem ty_k110 : tyk Tryd.prog 110 = some TyK.other := by kernel_rfl
theorem ty_s110 : shp Tryd.prog 110 = some (false, 1) := by kernel_rfl
theorem ty_z110 : zer Tryd.prog 110 = some [(AV.tuple [(AV.int .u64 0), AV.nilIface])] := by kernel_rfl
theorem ty_b110 : isBld Tryd.prog 110 = false := by kernel_rfl
theorem ty_k111 : tyk Tryd.prog 111 = some TyK.func := by kernel_rfl
theorem ty_s111 : shp Tryd.prog 111 = some (false, 1) := by kernel_rfl
theorem ty_z111 : zer Tryd.prog 111 = some [AV.nilFn] := by kernel_rfl
theorem ty_b111 : isBld Tryd.prog 111 = false := by kernel_rfl
theorem ty_k112 : tyk Tryd.prog 112 = some TyK.func := by kernel_rfl
theorem ty_s112 : shp Tryd.prog 112 = some (false, 1) := by kernel_rfl
theorem ty_z112 : zer Tryd.prog 112 = some [AV.nilFn] := by kernel_rfl
theorem ty_b112 : isBld Tryd.prog 112 = false := by kernel_rfl
theorem ty_k113 : tyk Tryd.prog 113 = some (TyK.struct [(0, (false, 1)), (1, (false, 1)), (2, (false, 1))]) := by kernel_rfl
theorem ty_s113 : shp Tryd.prog 113 = some (true, 3) := by kernel_rfl
theorem ty_z113 : zer Tryd.prog 113 = some [(AV.str []), (AV.str []), AV.nilIface] := by kernel_rfl
theorem ty_b113 : isBld Tryd.prog 113 = false := by kernel_rfl
theorem ty_d113_0 : fldOf Tryd.prog 113 0 = some (0, false, 1) := by kernel_rfl
theorem ty_d113_1 : fldOf Tryd.prog 113 1 = some (1, false, 1) := by kernel_rfl
theorem ty_d113_2 : fldOf Tryd.prog 113 2 = some (2, false, 1) := by kernel_rfl
theorem ty_k114 : tyk Tryd.prog 114 = some (TyK.struct [(0, (false, 1)), (1, (false, 1)), (2, (false, 1))]) := by kernel_rfl
theorem ty_s114 : shp Tryd.prog 114 = some (true, 3) := by kernel_rfl
theorem ty_z114 : zer Tryd.prog 114 = some [(AV.str []), (AV.str []), AV.nilIface] := by kernel_rfl
theorem ty_b114 : isBld Tryd.prog 114 = false := by kernel_rfl
theorem ty_d114_0 : fldOf Tryd.prog 114 0 = some (0, false, 1) := by kernel_rfl
theorem ty_d114_1 : fldOf Tryd.prog 114 1 = some (1, false, 1) := by kernel_rfl
theorem ty_d114_2 : fldOf Tryd.prog 114 2 = some (2, false, 1) := by kernel_rfl
theorem ty_k115 : tyk Tryd.prog 115 = some TyK.func := by kernel_rfl
theorem ty_s115 : shp Tryd.prog 115 = some (false, 1) := by kernel_rfl
theorem ty_z115 : zer Tryd.prog 115 = some [AV.nilFn] := by kernel_rfl
theorem ty_b115 : isBld Tryd.prog 115 = false := by kernel_rfl
theorem ty_k116 : tyk Tryd.prog 116 = some TyK.func := by kernel_rfl
theorem ty_s116 : shp Tryd.prog 116 = some (false, 1) := by kernel_rfl
theorem ty_z116 : zer Tryd.prog 116 = some [AV.nilFn] := by kernel_rfl
theorem ty_b116 : isBld Tryd.prog 116 = false := by kernel_rfl
theorem ty_k117 : tyk Tryd.prog 117 = some (TyK.arr 20 99 false 1) := by kernel_rfl
theorem ty_s117 : shp Tryd.prog 117 = some (true, 20) := by kernel_rfl
theorem ty_z117 : zer Tryd.prog 117 = some [(AV.int .u64 0), (AV.int .u64 0), (AV.int .u64 0), (AV.int .u64 0), (AV.int .u64 0), (AV.int .u64 0), (AV.int .u64 0), (AV.int .u64 0), (AV.int .u64 0), (AV.int .u64 0), (AV.int .u64 0), (AV.int .u64 0), (AV.int .u64 0), (AV.int .u64 0), (AV.int .u64 0), (AV.int .u64 0), (AV.int .u64 0), (AV.int .u64 0), (AV.int .u64 0), (AV.int .u64 0)] := by kernel_rfl
theorem ty_b117 : isBld Tryd.prog 117 = false := by kernel_rfl
theorem ty_k118 : tyk Tryd.prog 118 = some (TyK.int .u32) := by kernel_rfl
theorem ty_s118 : shp Tryd.prog 118 = some (false, 1) := by kernel_rfl
theorem ty_z118 : zer Tryd.prog 118 = some [(AV.int .u32 0)] := by kernel_rfl
theorem ty_b118 : isBld Tryd.prog 118 = false := by kernel_rfl
theorem ty_f118 : flatT Tryd.prog 10 118 = some [(TyS.si .u32)] := by kernel_rfl
theorem ty_g118 : Tryd.prog.eqGuardType Tryd.prog.depth 118 = false := by kernel_rfl
theorem ty_k119 : tyk Tryd.prog 119 = some (TyK.arr 65 5 false 1) := by kernel_rfl
theorem ty_s119 : shp Tryd.prog 119 = some (true, 65) := by kernel_rfl
theorem ty_b119 : isBld Tryd.prog 119 = false := by kernel_rfl
theorem ty_k120 : tyk Tryd.prog 120 = some TyK.func := by kernel_rfl
theorem ty_s120 : shp Tryd.prog 120 = some (false, 1) := by kernel_rfl
theorem ty_z120 : zer Tryd.prog 120 = some [AV.nilFn] := by kernel_rfl
theorem ty_b120 : isBld Tryd.prog 120 = false := by kernel_rfl
theorem ty_k121 : tyk Tryd.prog 121 = some TyK.func := by kernel_rfl
theorem ty_s121 : shp Tryd.prog 121 = some (false, 1) := by kernel_rfl
theorem ty_z121 : zer Tryd.prog 121 = some [AV.nilFn] := by kernel_rfl
theorem ty_b121 : isBld Tryd.prog 121 = false := by kernel_rfl
theorem ty_k122 : tyk Tryd.prog 122 = some (TyK.int .i64) := by kernel_rfl
theorem ty_s122 : shp Tryd.prog 122 = some (false, 1) := by kernel_rfl
theorem ty_z122 : zer Tryd.prog 122 = some [(AV.int .i64 0)] := by kernel_rfl
theorem ty_b122 : isBld Tryd.prog 122 = false := by kernel_rfl
theorem ty_f122 : flatT Tryd.prog 10 122 = some [(TyS.si .i64)] := by kernel_rfl
theorem ty_g122 : Tryd.prog.eqGuardType Tryd.prog.depth 122 = false := by kernel_rfl
theorem ty_k123 : tyk Tryd.prog 123 = some TyK.other := by kernel_rfl
theorem ty_s123 : shp Tryd.prog 123 = some (false, 1) := by kernel_rfl
theorem ty_z123 : zer Tryd.prog 123 = some [(AV.tuple [(AV.int .i64 0), (AV.int .i64 0)])] := by kernel_rfl
theorem ty_b123 : isBld Tryd.prog 123 = false := by kernel_rfl
theorem ty_k124 : tyk Tryd.prog 124 = some TyK.func := by kernel_rfl
theorem ty_s124 : shp Tryd.prog 124 = some (false, 1) := by kernel_rfl
theorem ty_z124 : zer Tryd.prog 124 = some [AV.nilFn] := by kernel_rfl
theorem ty_b124 : isBld Tryd.prog 124 = false := by kernel_rfl
theorem ty_k125 : tyk Tryd.prog 125 = some TyK.func := by kernel_rfl
theorem ty_s125 : shp Tryd.prog 125 = some (false, 1) := by kernel_rfl
theorem ty_z125 : zer Tryd.prog 125 = some [AV.nilFn] := by kernel_rfl
theorem ty_b125 : isBld Tryd.prog 125 = false := by kernel_rfl
theorem ty_k126 : tyk Tryd.prog 126 = some TyK.func := by kernel_rfl
theorem ty_s126 : shp Tryd.prog 126 = some (false, 1) := by kernel_rfl
theorem ty_z126 : zer Tryd.prog 126 = some [AV.nilFn] := by kernel_rfl
theorem ty_b126 : isBld Tryd.prog 126 = false := by kernel_rfl
theorem ty_k127 : tyk Tryd.prog 127 = some TyK.func := by kernel_rfl
theorem ty_s127 : shp Tryd.prog 127 = some (false, 1) := by kernel_rfl
theorem ty_z127 : zer Tryd.prog 127 = some [AV.nilFn] := by kernel_rfl
theorem ty_b127 : isBld Tryd.prog 127 = false := by kernel_rfl
theorem ty_k128 : tyk Tryd.prog 128 = some TyK.func := by kernel_rfl
theorem ty_s128 : shp Tryd.prog 128 = some (false, 1) := by kernel_rfl
theorem ty_z128 : zer Tryd.prog 128 = some [AV.nilFn] := by kernel_rfl
theorem ty_b128 : isBld Tryd.prog 128 = false := by kernel_rfl
theorem ty_k129 : tyk Tryd.prog 129 = some TyK.other := by kernel_rfl
theorem ty_s129 : shp Tryd.prog 129 = some (false, 1) := by kernel_rfl
theorem ty_z129 : zer Tryd.prog 129 = some [(AV.tuple [(AV.int .u32 0), (AV.int .u32 0)])] := by kernel_rfl
theorem ty_b129 : isBld Tryd.prog 129 = false := by kernel_rfl
theorem ty_k130 : tyk Tryd.prog 130 = some TyK.func := by kernel_rfl
theorem ty_s130 : shp Tryd.prog 130 = some (false, 1) := by kernel_rfl
theorem ty_z130 : zer Tryd.prog 130 = some [AV.nilFn] := by kernel_rfl
theorem ty_b130 : isBld Tryd.prog 130 = false := by kernel_rfl
theorem ty_k131 : tyk Tryd.prog 131 = some TyK.func := by kernel_rfl
theorem ty_s131 : shp Tryd.prog 131 = some (false, 1) := by kernel_rfl
theorem ty_z131 : zer Tryd.prog 131 = some [AV.nilFn] := by kernel_rfl
theorem ty_b131 : isBld Tryd.prog 131 = false := by kernel_rfl
theorem ty_k132 : tyk Tryd.prog 132 = some (TyK.ptr 134) := by kernel_rfl
theorem ty_s132 : shp Tryd.prog 132 = some (false, 1) := by kernel_rfl
theorem ty_z132 : zer Tryd.prog 132 = some [AV.nilPtr] := by kernel_rfl
theorem ty_b132 : isBld Tryd.prog 132 = false := by kernel_rfl
theorem ty_k133 : tyk Tryd.prog 133 = some (TyK.struct [(0, (false, 1))]) := by kernel_rfl
theorem ty_s133 : shp Tryd.prog 133 = some (true, 1) := by kernel_rfl
theorem ty_z133 : zer Tryd.prog 133 = some [(AV.str [])] := by kernel_rfl
theorem ty_b133 : isBld Tryd.prog 133 = false := by kernel_rfl
theorem ty_f133 : flatT Tryd.prog 10 133 = some [TyS.ss] := by kernel_rfl
theorem ty_g133 : Tryd.prog.eqGuardType Tryd.prog.depth 133 = false := by kernel_rfl
theorem ty_d133_0 : fldOf Tryd.prog 133 0 = some (0, false, 1) := by kernel_rfl
theorem ty_k134 : tyk Tryd.prog 134 = some (TyK.struct [(0, (false, 1))]) := by kernel_rfl
theorem ty_s134 : shp Tryd.prog 134 = some (true, 1) := by kernel_rfl
theorem ty_z134 : zer Tryd.prog 134 = some [(AV.str [])] := by kernel_rfl
theorem ty_b134 : isBld Tryd.prog 134 = false := by kernel_rfl
theorem ty_f134 : flatT Tryd.prog 10 134 = some [TyS.ss] := by kernel_rfl
theorem ty_g134 : Tryd.prog.eqGuardType Tryd.prog.depth 134 = false := by kernel_rfl
theorem ty_d134_0 : fldOf Tryd.prog 134 0 = some (0, false, 1) := by kernel_rfl
theorem ty_k135 : tyk Tryd.prog 135 = some (TyK.int .u64) := by kernel_rfl
theorem ty_s135 : shp Tryd.prog 135 = some (false, 1) := by kernel_rfl
theorem ty_z135 : zer Tryd.prog 135 = some [(AV.int .u64 0)] := by kernel_rfl
theorem ty_b135 : isBld Tryd.prog 135 = false := by kernel_rfl
theorem ty_f135 : flatT Tryd.prog 10 135 = some [(TyS.si .u64)] := by kernel_rfl
theorem ty_g135 : Tryd.prog.eqGuardType Tryd.prog.depth 135 = false := by kernel_rfl
theorem ty_k136 : tyk Tryd.prog 136 = some TyK.func := by kernel_rfl
theorem ty_s136 : shp Tryd.prog 136 = some (false, 1) := by kernel_rfl
theorem ty_z136 : zer Tryd.prog 136 = some [AV.nilFn] := by kernel_rfl
theorem ty_b136 : isBld Tryd.prog 136 = false := by kernel_rfl
theorem ty_k137 : tyk Tryd.prog 137 = some TyK.func := by kernel_rfl
theorem ty_s137 : shp Tryd.prog 137 = some (false, 1) := by kernel_rfl
theorem ty_z137 : zer Tryd.prog 137 = some [AV.nilFn] := by kernel_rfl
theorem ty_b137 : isBld Tryd.prog 137 = false := by kernel_rfl
theorem ty_k138 : tyk Tryd.prog 138 = some TyK.func := by kernel_rfl
theorem ty_s138 : shp Tryd.prog 138 = some (false, 1) := by kernel_rfl
theorem ty_z138 : zer Tryd.prog 138 = some [AV.nilFn] := by kernel_rfl
theorem ty_b138 : isBld Tryd.prog 138 = false := by kernel_rfl
theorem ty_k139 : tyk Tryd.prog 139 = some (TyK.ptr 3) := by kernel_rfl
theorem ty_s139 : shp Tryd.prog 139 = some (false, 1) := by kernel_rfl
theorem ty_z139 : zer Tryd.prog 139 = some [AV.nilPtr] := by kernel_rfl
theorem ty_b139 : isBld Tryd.prog 139 = false := by kernel_rfl
theorem ty_k140 : tyk Tryd.prog 140 = some TyK.func := by kernel_rfl
theorem ty_s140 : shp Tryd.prog 140 = some (false, 1) := by kernel_rfl
theorem ty_z140 : zer Tryd.prog 140 = some [AV.nilFn] := by kernel_rfl
theorem ty_b140 : isBld Tryd.prog 140 = false := by kernel_rfl
theorem ty_k141 : tyk Tryd.prog 141 = some (TyK.arr 32 5 false 1) := by kernel_rfl
theorem ty_s141 : shp Tryd.prog 141 = some (true, 32) := by kernel_rfl
theorem ty_z141 : zer Tryd.prog 141 = some [(AV.int .u8 0), (AV.int .u8 0), (AV.int .u8 0), (AV.int .u8 0), (AV.int .u8 0), (AV.int .u8 0), (AV.int .u8 0), (AV.int .u8 0), (AV.int .u8 0), (AV.int .u8 0), (AV.int .u8 0), (AV.int .u8 0), (AV.int .u8 0), (AV.int .u8 0), (AV.int .u8 0), (AV.int .u8 0), (AV.int .u8 0), (AV.int .u8 0), (AV.int .u8 0), (AV.int .u8 0), (AV.int .u8 0), (AV.int .u8 0), (AV.int .u8 0), (AV.int .u8 0), (AV.int .u8 0), (AV.int .u8 0), (AV.int .u8 0), (AV.int .u8 0), (AV.int .u8 0), (AV.int .u8 0), (AV.int .u8 0), (AV.int .u8 0)] := by kernel_rfl
theorem ty_b141 : isBld Tryd.prog 141 = false := by kernel_rfl
theorem ty_k142 : tyk Tryd.prog 142 = some (TyK.arr 64 5 false 1) := by kernel_rfl
theorem ty_s142 : shp Tryd.prog 142 = some (true, 64) := by kernel_rfl
theorem ty_b142 : isBld Tryd.prog 142 = false := by kernel_rfl
theorem ty_k143 : tyk Tryd.prog 143 = some (TyK.ptr 135) := by kernel_rfl
theorem ty_s143 : shp Tryd.prog 143 = some (false, 1) := by kernel_rfl
theorem ty_z143 : zer Tryd.prog 143 = some [AV.nilPtr] := by kernel_rfl
theorem ty_b143 : isBld Tryd.prog 143 = false := by kernel_rfl
theorem ty_k144 : tyk Tryd.prog 144 = some TyK.other := by kernel_rfl
theorem ty_s144 : shp Tryd.prog 144 = some (false, 1) := by kernel_rfl
theorem ty_z144 : zer Tryd.prog 144 = some [(AV.tuple [(AV.int .i64 0), (AV.int .i64 0)])] := by kernel_rfl
theorem ty_b144 : isBld Tryd.prog 144 = false := by kernel_rfl
theorem ty_k145 : tyk Tryd.prog 145 = some TyK.func := by kernel_rfl
theorem ty_s145 : shp Tryd.prog 145 = some (false, 1) := by kernel_rfl
theorem ty_z145 : zer Tryd.prog 145 = some [AV.nilFn] := by kernel_rfl
theorem ty_b145 : isBld Tryd.prog 145 = false := by kernel_rfl
theorem ty_k146 : tyk Tryd.prog 146 = some (TyK.struct [(0, (false, 1)), (1, (false, 1)), (2, (false, 1)), (3, (false, 1))]) := by kernel_rfl
theorem ty_s146 : shp Tryd.prog 146 = some (true, 4) := by kernel_rfl
theorem ty_z146 : zer Tryd.prog 146 = some [AV.nilPtr, AV.nilPtr, AV.nilPtr, (AV.str [])] := by kernel_rfl
theorem ty_b146 : isBld Tryd.prog 146 = false := by kernel_rfl
theorem ty_d146_0 : fldOf Tryd.prog 146 0 = some (0, false, 1) := by kernel_rfl
theorem ty_d146_1 : fldOf Tryd.prog 146 1 = some (1, false, 1) := by kernel_rfl
theorem ty_d146_2 : fldOf Tryd.prog 146 2 = some (2, false, 1) := by kernel_rfl
theorem ty_d146_3 : fldOf Tryd.prog 146 3 = some (3, false, 1) := by kernel_rfl
theorem ty_k147 : tyk Tryd.prog 147 = some (TyK.struct [(0, (false, 1)), (1, (false, 1)), (2, (false, 1)), (3, (false, 1))]) := by kernel_rfl
theorem ty_s147 : shp Tryd.prog 147 = some (true, 4) := by kernel_rfl
theorem ty_z147 : zer Tryd.prog 147 = some [AV.nilPtr, AV.nilPtr, AV.nilPtr, (AV.str [])] := by kernel_rfl
theorem ty_b147 : isBld Tryd.prog 147 = false := by kernel_rfl
theorem ty_d147_0 : fldOf Tryd.prog 147 0 = some (0, false, 1) := by kernel_rfl
theorem ty_d147_1 : fldOf Tryd.prog 147 1 = some (1, false, 1) := by kernel_rfl
theorem ty_d147_2 : fldOf Tryd.prog 147 2 = some (2, false, 1) := by kernel_rfl
theorem ty_d147_3 : fldOf Tryd.prog 147 3 = some (3, false, 1) := by kernel_rfl
theorem ty_k148 : tyk Tryd.prog 148 = some (TyK.arr 0 16 false 1) := by kernel_rfl
theorem ty_s148 : shp Tryd.prog 148 = some (true, 0) := by kernel_rfl
theorem ty_z148 : zer Tryd.prog 148 = some [] := by kernel_rfl
theorem ty_b148 : isBld Tryd.prog 148 = false := by kernel_rfl
theorem ty_k149 : tyk Tryd.prog 149 = some (TyK.struct [(0, (true, 0))]) := by kernel_rfl
theorem ty_s149 : shp Tryd.prog 149 = some (true, 0) := by kernel_rfl
theorem ty_z149 : zer Tryd.prog 149 = some [] := by kernel_rfl
theorem ty_b149 : isBld Tryd.prog 149 = false := by kernel_rfl
theorem ty_d149_0 : fldOf Tryd.prog 149 0 = some (0, true, 0) := by kernel_rfl
theorem ty_k150 : tyk Tryd.prog 150 = some (TyK.struct [(0, (true, 0))]) := by kernel_rfl
theorem ty_s150 : shp Tryd.prog 150 = some (true, 0) := by kernel_rfl
theorem ty_z150 : zer Tryd.prog 150 = some [] := by kernel_rfl
theorem ty_b150 : isBld Tryd.prog 150 = false := by kernel_rfl
theorem ty_d150_0 : fldOf Tryd.prog 150 0 = some (0, true, 0) := by kernel_rfl
theorem ty_k151 : tyk Tryd.prog 151 = some TyK.func := by kernel_rfl
theorem ty_s151 : shp Tryd.prog 151 = some (false, 1) := by kernel_rfl
theorem ty_z151 : zer Tryd.prog 151 = some [AV.nilFn] := by kernel_rfl
theorem ty_b151 : isBld Tryd.prog 151 = false := by kernel_rfl
theorem ty_k152 : tyk Tryd.prog 152 = some (TyK.int .u8) := by kernel_rfl
theorem ty_s152 : shp Tryd.prog 152 = some (false, 1) := by kernel_rfl
theorem ty_z152 : zer Tryd.prog 152 = some [(AV.int .u8 0)] := by kernel_rfl
theorem ty_b152 : isBld Tryd.prog 152 = false := by kernel_rfl
theorem ty_f152 : flatT Tryd.prog 10 152 = some [(TyS.si .u8)] := by kernel_rfl
theorem ty_g152 : Tryd.prog.eqGuardType Tryd.prog.depth 152 = false := by kernel_rfl
theorem ty_k153 : tyk Tryd.prog 153 = some (TyK.int .u8) := by kernel_rfl
theorem ty_s153 : shp Tryd.prog 153 = some (false, 1) := by kernel_rfl
theorem ty_z153 : zer Tryd.prog 153 = some [(AV.int .u8 0)] := by kernel_rfl
theorem ty_b153 : isBld Tryd.prog 153 = false := by kernel_rfl
theorem ty_f153 : flatT Tryd.prog 10 153 = some [(TyS.si .u8)] := by kernel_rfl
theorem ty_g153 : Tryd.prog.eqGuardType Tryd.prog.depth 153 = false := by kernel_rfl
theorem ty_k154 : tyk Tryd.prog 154 = some TyK.func := by kernel_rfl
theorem ty_s154 : shp Tryd.prog 154 = some (false, 1) := by kernel_rfl
theorem ty_z154 : zer Tryd.prog 154 = some [AV.nilFn] := by kernel_rfl
theorem ty_b154 : isBld Tryd.prog 154 = false := by kernel_rfl
theorem ty_k155 : tyk Tryd.prog 155 = some (TyK.int .i32) := by kernel_rfl
theorem ty_s155 : shp Tryd.prog 155 = some (false, 1) := by kernel_rfl
theorem ty_z155 : zer Tryd.prog 155 = some [(AV.int .i32 0)] := by kernel_rfl
theorem ty_b155 : isBld Tryd.prog 155 = false := by kernel_rfl
theorem ty_f155 : flatT Tryd.prog 10 155 = some [(TyS.si .i32)] := by kernel_rfl
theorem ty_g155 : Tryd.prog.eqGuardType Tryd.prog.depth 155 = false := by kernel_rfl
theorem ty_k156 : tyk Tryd.prog 156 = some (TyK.int .i32) := by kernel_rfl
theorem ty_s156 : shp Tryd.prog 156 = some (false, 1) := by kernel_rfl
theorem ty_z156 : zer Tryd.prog 156 = some [(AV.int .i32 0)] := by kernel_rfl
theorem ty_b156 : isBld Tryd.prog 156 = false := by kernel_rfl
theorem ty_f156 : flatT Tryd.prog 10 156 = some [(TyS.si .i32)] := by kernel_rfl
theorem ty_g156 : Tryd.prog.eqGuardType Tryd.prog.depth 156 = false := by kernel_rfl
theorem ty_k157 : tyk Tryd.prog 157 = some (TyK.struct [(0, (false, 1)), (1, (false, 1)), (2, (false, 1)), (3, (false, 1)), (4, (false, 1)), (5, (false, 1)), (6, (false, 1)), (7, (false, 1)), (8, (false, 1)), (9, (false, 1)), (10, (false, 1))]) := by kernel_rfl
theorem ty_s157 : shp Tryd.prog 157 = some (true, 11) := by kernel_rfl
theorem ty_z157 : zer Tryd.prog 157 = some [(AV.int .u64 0), (AV.int .u64 0), (AV.int .u32 0), (AV.int .u8 0), (AV.int .u8 0), (AV.int .u8 0), (AV.int .u8 0), AV.nilFn, AV.nilPtr, (AV.int .i32 0), (AV.int .i32 0)] := by kernel_rfl
theorem ty_b157 : isBld Tryd.prog 157 = false := by kernel_rfl
theorem ty_d157_0 : fldOf Tryd.prog 157 0 = some (0, false, 1) := by kernel_rfl
theorem ty_d157_1 : fldOf Tryd.prog 157 1 = some (1, false, 1) := by kernel_rfl
theorem ty_d157_2 : fldOf Tryd.prog 157 2 = some (2, false, 1) := by kernel_rfl
theorem ty_d157_3 : fldOf Tryd.prog 157 3 = some (3, false, 1) := by kernel_rfl
theorem ty_d157_4 : fldOf Tryd.prog 157 4 = some (4, false, 1) := by kernel_rfl
theorem ty_d157_5 : fldOf Tryd.prog 157 5 = some (5, false, 1) := by kernel_rfl
theorem ty_d157_6 : fldOf Tryd.prog 157 6 = some (6, false, 1) := by kernel_rfl
theorem ty_d157_7 : fldOf Tryd.prog 157 7 = some (7, false, 1) := by kernel_rfl
theorem ty_d157_8 : fldOf Tryd.prog 157 8 = some (8, false, 1) := by kernel_rfl
theorem ty_d157_9 : fldOf Tryd.prog 157 9 = some (9, false, 1) := by kernel_rfl
theorem ty_d157_10 : fldOf Tryd.prog 157 10 = some (10, false, 1) := by kernel_rfl
theorem ty_k158 : tyk Tryd.prog 158 = some (TyK.struct [(0, (false, 1)), (1, (false, 1)), (2, (false, 1)), (3, (false, 1)), (4, (false, 1)), (5, (false, 1)), (6, (false, 1)), (7, (false, 1)), (8, (false, 1)), (9, (false, 1)), (10, (false, 1))]) := by kernel_rfl
theorem ty_s158 : shp Tryd.prog 158 = some (true, 11) := by kernel_rfl
theorem ty_z158 : zer Tryd.prog 158 = some [(AV.int .u64 0), (AV.int .u64 0), (AV.int .u32 0), (AV.int .u8 0), (AV.int .u8 0), (AV.int .u8 0), (AV.int .u8 0), AV.nilFn, AV.nilPtr, (AV.int .i32 0), (AV.int .i32 0)] := by kernel_rfl
theorem ty_b158 : isBld Tryd.prog 158 = false := by kernel_rfl
theorem ty_d158_0 : fldOf Tryd.prog 158 0 = some (0, false, 1) := by kernel_rfl
theorem ty_d158_1 : fldOf Tryd.prog 158 1 = some (1, false, 1) := by kernel_rfl
theorem ty_d158_2 : fldOf Tryd.prog 158 2 = some (2, false, 1) := by kernel_rfl
theorem ty_d158_3 : fldOf Tryd.prog 158 3 = some (3, false, 1) := by kernel_rfl
theorem ty_d158_4 : fldOf Tryd.prog 158 4 = some (4, false, 1) := by kernel_rfl
theorem ty_d158_5 : fldOf Tryd.prog 158 5 = some (5, false, 1) := by kernel_rfl
theorem ty_d158_6 : fldOf Tryd.prog 158 6 = some (6, false, 1) := by kernel_rfl
theorem ty_d158_7 : fldOf Tryd.prog 158 7 = some (7, false, 1) := by kernel_rfl
theorem ty_d158_8 : fldOf Tryd.prog 158 8 = some (8, false, 1) := by kernel_rfl
theorem ty_d158_9 : fldOf Tryd.prog 158 9 = some (9, false, 1) := by kernel_rfl
theorem ty_d158_10 : fldOf Tryd.prog 158 10 = some (10, false, 1) := by kernel_rfl
attribute [go_sem] ty_k0 ty_s0 ty_z0 ty_b0 ty_k1 ty_s1 ty_z1 ty_b1 ty_k2 ty_s2 ty_z2 ty_b2 ty_f2 ty_g2 ty_k3 ty_s3 ty_z3 ty_b3 ty_f3 ty_g3 ty_k4 ty_s4 ty_z4 ty_b4 ty_f4 ty_g4 ty_k5 ty_s5 ty_z5 ty_b5 ty_f5 ty_g5 ty_k6 ty_s6 ty_z6 ty_b6 ty_f6 ty_g6 ty_k7 ty_s7
attribute [go_sem] ty_z7 ty_b7 ty_f7 ty_g7 ty_d7_0 ty_d7_1 ty_d7_2 ty_d7_3 ty_k8 ty_s8 ty_z8 ty_b8 ty_f8 ty_g8 ty_d8_0 ty_d8_1 ty_d8_2 ty_d8_3 ty_k9 ty_s9 ty_z9 ty_b9 ty_f9 ty_g9 ty_k10 ty_s10 ty_z10 ty_b10 ty_f10 ty_g10 ty_k11 ty_s11 ty_z11 ty_b11 ty_f11 ty_g11 ty_k12 ty_s12 ty_z12 ty_b12
attribute [go_sem] ty_f12 ty_g12 ty_k13 ty_s13 ty_z13 ty_b13 ty_d13_0 ty_d13_1 ty_k14 ty_s14 ty_z14 ty_b14 ty_d14_0 ty_d14_1 ty_k15 ty_s15 ty_z15 ty_b15 ty_k16 ty_s16 ty_z16 ty_b16 ty_k17 ty_s17 ty_z17 ty_b17 ty_k18 ty_s18 ty_z18 ty_b18 ty_d18_0 ty_k19 ty_s19 ty_z19 ty_b19 ty_d19_0 ty_k20 ty_s20 ty_z20 ty_b20
attribute [go_sem] ty_k21 ty_s21 ty_z21 ty_b21 ty_f21 ty_g21 ty_k22 ty_s22 ty_z22 ty_b22 ty_f22 ty_g22 ty_d22_0 ty_d22_1 ty_d22_2 ty_k23 ty_s23 ty_z23 ty_b23 ty_f23 ty_g23 ty_d23_0 ty_d23_1 ty_d23_2 ty_k24 ty_s24 ty_z24 ty_b24 ty_k25 ty_s25 ty_z25 ty_b25 ty_f25 ty_g25 ty_k26 ty_s26 ty_z26 ty_b26 ty_k27 ty_s27
attribute [go_sem] ty_z27 ty_b27 ty_k28 ty_s28 ty_z28 ty_b28 ty_k29 ty_s29 ty_z29 ty_b29 ty_k30 ty_s30 ty_z30 ty_b30 ty_f30 ty_g30 ty_d30_0 ty_d30_1 ty_d30_2 ty_d30_3 ty_d30_4 ty_k31 ty_s31 ty_z31 ty_b31 ty_f31 ty_g31 ty_d31_0 ty_d31_1 ty_d31_2 ty_d31_3 ty_d31_4 ty_k32 ty_s32 ty_z32 ty_b32 ty_k33 ty_s33 ty_z33 ty_b33
attribute [go_sem] ty_k34 ty_s34 ty_z34 ty_b34 ty_k35 ty_s35 ty_z35 ty_b35 ty_k36 ty_s36 ty_z36 ty_b36 ty_k37 ty_s37 ty_z37 ty_b37 ty_k38 ty_s38 ty_z38 ty_b38 ty_k39 ty_s39 ty_z39 ty_b39 ty_k40 ty_s40 ty_z40 ty_b40 ty_k41 ty_s41 ty_z41 ty_b41 ty_k42 ty_s42 ty_z42 ty_b42 ty_k43 ty_s43 ty_z43 ty_b43
attribute [go_sem] ty_k44 ty_s44 ty_z44 ty_b44 ty_k45 ty_s45 ty_z45 ty_b45 ty_k46 ty_s46 ty_z46 ty_b46 ty_k47 ty_s47 ty_z47 ty_b47 ty_k48 ty_s48 ty_z48 ty_b48 ty_k49 ty_s49 ty_z49 ty_b49 ty_k50 ty_s50 ty_z50 ty_b50 ty_k51 ty_s51 ty_z51 ty_b51 ty_m51 ty_h51 ty_k52 ty_s52 ty_z52 ty_b52 ty_m52 ty_h52
attribute [go_sem] ty_k53 ty_s53 ty_z53 ty_b53 ty_k54 ty_s54 ty_z54 ty_b54 ty_d54_0 ty_d54_1 ty_k55 ty_s55 ty_z55 ty_b55 ty_d55_0 ty_d55_1 ty_k56 ty_s56 ty_z56 ty_b56 ty_m56 ty_h56 ty_k57 ty_s57 ty_z57 ty_b57 ty_m57 ty_h57 ty_k58 ty_s58 ty_z58 ty_b58 ty_d58_0 ty_d58_1 ty_d58_2 ty_k59 ty_s59 ty_z59 ty_b59 ty_d59_0
attribute [go_sem] ty_d59_1 ty_d59_2 ty_k60 ty_s60 ty_z60 ty_b60 ty_k61 ty_s61 ty_z61 ty_b61 ty_f61 ty_g61 ty_d61_0 ty_d61_1 ty_k62 ty_s62 ty_z62 ty_b62 ty_f62 ty_g62 ty_d62_0 ty_d62_1 ty_k63 ty_s63 ty_z63 ty_b63 ty_k64 ty_s64 ty_z64 ty_b64 ty_k65 ty_s65 ty_z65 ty_b65 ty_k66 ty_s66 ty_z66 ty_b66 ty_k67 ty_s67
attribute [go_sem] ty_z67 ty_b67 ty_k68 ty_s68 ty_z68 ty_b68 ty_k69 ty_s69 ty_z69 ty_b69 ty_k70 ty_s70 ty_z70 ty_b70 ty_k71 ty_s71 ty_z71 ty_b71 ty_k72 ty_s72 ty_z72 ty_b72 ty_d72_0 ty_d72_1 ty_k73 ty_s73 ty_z73 ty_b73 ty_d73_0 ty_d73_1 ty_k74 ty_s74 ty_z74 ty_b74 ty_k75 ty_s75 ty_z75 ty_b75 ty_k76 ty_s76
attribute [go_sem] ty_z76 ty_b76 ty_k77 ty_s77 ty_z77 ty_b77 ty_k78 ty_s78 ty_z78 ty_b78 ty_k79 ty_s79 ty_z79 ty_b79 ty_k80 ty_s80 ty_z80 ty_b80 ty_k81 ty_s81 ty_z81 ty_b81 ty_k82 ty_s82 ty_z82 ty_b82 ty_k83 ty_s83 ty_z83 ty_b83 ty_k84 ty_s84 ty_z84 ty_b84 ty_k85 ty_s85 ty_z85 ty_b85 ty_k86 ty_s86
attribute [go_sem] ty_z86 ty_b86 ty_k87 ty_s87 ty_z87 ty_b87 ty_k88 ty_s88 ty_z88 ty_b88 ty_k89 ty_s89 ty_z89 ty_b89 ty_k90 ty_s90 ty_z90 ty_b90 ty_f90 ty_g90 ty_k91 ty_s91 ty_z91 ty_b91 ty_k92 ty_s92 ty_z92 ty_b92 ty_k93 ty_s93 ty_z93 ty_b93 ty_k94 ty_s94 ty_z94 ty_b94 ty_k95 ty_s95 ty_z95 ty_b95
attribute [go_sem] ty_k96 ty_s96 ty_z96 ty_b96 ty_k97 ty_s97 ty_z97 ty_b97 ty_k98 ty_s98 ty_z98 ty_b98 ty_k99 ty_s99 ty_z99 ty_b99 ty_f99 ty_g99 ty_k100 ty_s100 ty_z100 ty_b100 ty_k101 ty_s101 ty_z101 ty_b101 ty_k102 ty_s102 ty_z102 ty_b102 ty_k103 ty_s103 ty_z103 ty_b103 ty_k104 ty_s104 ty_z104 ty_b104 ty_k105 ty_s105
attribute [go_sem] ty_z105 ty_b105 ty_k106 ty_s106 ty_z106 ty_b106 ty_k107 ty_s107 ty_z107 ty_b107 ty_f107 ty_g107 ty_k108 ty_s108 ty_z108 ty_b108 ty_k109 ty_s109 ty_z109 ty_b109 ty_k110 ty_s110 ty_z110 ty_b110 ty_k111 ty_s111 ty_z111 ty_b111 ty_k112 ty_s112 ty_z112 ty_b112 ty_k113 ty_s113 ty_z113 ty_b113 ty_d113_0 ty_d113_1 ty_d113_2 ty_k114
attribute [go_sem] ty_s114 ty_z114 ty_b114 ty_d114_0 ty_d114_1 ty_d114_2 ty_k115 ty_s115 ty_z115 ty_b115 ty_k116 ty_s116 ty_z116 ty_b116 ty_k117 ty_s117 ty_z117 ty_b117 ty_k118 ty_s118 ty_z118 ty_b118 ty_f118 ty_g118 ty_k119 ty_s119 ty_b119 ty_k120 ty_s120 ty_z120 ty_b120 ty_k121 ty_s121 ty_z121 ty_b121 ty_k122 ty_s122 ty_z122 ty_b122 ty_f122
attribute [go_sem] ty_g122 ty_k123 ty_s123 ty_z123 ty_b123 ty_k124 ty_s124 ty_z124 ty_b124 ty_k125 ty_s125 ty_z125 ty_b125 ty_k126 ty_s126 ty_z126 ty_b126 ty_k127 ty_s127 ty_z127 ty_b127 ty_k128 ty_s128 ty_z128 ty_b128 ty_k129 ty_s129 ty_z129 ty_b129 ty_k130 ty_s130 ty_z130 ty_b130 ty_k131 ty_s131 ty_z131 ty_b131 ty_k132 ty_s132 ty_z132
attribute [go_sem] ty_b132 ty_k133 ty_s133 ty_z133 ty_b133 ty_f133 ty_g133 ty_d133_0 ty_k134 ty_s134 ty_z134 ty_b134 ty_f134 ty_g134 ty_d134_0 ty_k135 ty_s135 ty_z135 ty_b135 ty_f135 ty_g135 ty_k136 ty_s136 ty_z136 ty_b136 ty_k137 ty_s137 ty_z137 ty_b137 ty_k138 ty_s138 ty_z138 ty_b138 ty_k139 ty_s139 ty_z139 ty_b139 ty_k140 ty_s140 ty_z140
attribute [go_sem] ty_b140 ty_k141 ty_s141 ty_z141 ty_b141 ty_k142 ty_s142 ty_b142 ty_k143 ty_s143 ty_z143 ty_b143 ty_k144 ty_s144 ty_z144 ty_b144 ty_k145 ty_s145 ty_z145 ty_b145 ty_k146 ty_s146 ty_z146 ty_b146 ty_d146_0 ty_d146_1 ty_d146_2 ty_d146_3 ty_k147 ty_s147 ty_z147 ty_b147 ty_d147_0 ty_d147_1 ty_d147_2 ty_d147_3 ty_k148 ty_s148 ty_z148 ty_b148
attribute [go_sem] ty_k149 ty_s149 ty_z149 ty_b149 ty_d149_0 ty_k150 ty_s150 ty_z150 ty_b150 ty_d150_0 ty_k151 ty_s151 ty_z151 ty_b151 ty_k152 ty_s152 ty_z152 ty_b152 ty_f152 ty_g152 ty_k153 ty_s153 ty_z153 ty_b153 ty_f153 ty_g153 ty_k154 ty_s154 ty_z154 ty_b154 ty_k155 ty_s155 ty_z155 ty_b155 ty_f155 ty_g155 ty_k156 ty_s156 ty_z156 ty_b156
attribute [go_sem] ty_f156 ty_g156 ty_k157 ty_s157 ty_z157 ty_b157 ty_d157_0 ty_d157_1 ty_d157_2 ty_d157_3 ty_d157_4 ty_d157_5 ty_d157_6 ty_d157_7 ty_d157_8 ty_d157_9 ty_d157_10 ty_k158 ty_s158 ty_z158 ty_b158 ty_d158_0 ty_d158_1 ty_d158_2 ty_d158_3 ty_d158_4 ty_d158_5 ty_d158_6 ty_d158_7 ty_d158_8 ty_d158_9 ty_d158_10
theorem mixed : Tryd.prog.follows .mixedOrders = true := by kernel_rfl
end Go.Proofs.YtbpembafoloinaaDoor
