/- What the framework asks of this seat's types: each by the kernel's reduction. Printed by a program of ours (mkty.py). -/
import Derived.Test.YtiaiggbimlbkfaaGreatDoorFwD
import Derived.Test.YtiaiggbimlbkfaaGreatDoorProg
import Derived.KernelRfl
set_option linter.unusedVariables false
set_option linter.unusedSimpArgs false
namespace Go.Proofs.YtiaiggbimlbkfaaGreatDoor
open Go Go.Ab
theorem ty_k0 : tyk Tryz.prog 0 = some TyK.other := by kernel_rfl
theorem ty_s0 : shp Tryz.prog 0 = some (false, 1) := by kernel_rfl
theorem ty_z0 : zer Tryz.prog 0 = some [(AV.tuple [])] := by kernel_rfl
theorem ty_b0 : isBld Tryz.prog 0 = false := by kernel_rfl
theorem ty_k1 : tyk Tryz.prog 1 = some TyK.func := by kernel_rfl
theorem ty_s1 : shp Tryz.prog 1 = some (false, 1) := by kernel_rfl
theorem ty_z1 : zer Tryz.prog 1 = some [AV.nilFn] := by kernel_rfl
theorem ty_b1 : isBld Tryz.prog 1 = false := by kernel_rfl
theorem ty_k2 : tyk Tryz.prog 2 = some (TyK.int .i64) := by kernel_rfl
theorem ty_s2 : shp Tryz.prog 2 = some (false, 1) := by kernel_rfl
theorem ty_z2 : zer Tryz.prog 2 = some [(AV.int .i64 0)] := by kernel_rfl
theorem ty_b2 : isBld Tryz.prog 2 = false := by kernel_rfl
theorem ty_f2 : flatT Tryz.prog 10 2 = some [(TyS.si .i64)] := by kernel_rfl
theorem ty_g2 : Tryz.prog.eqGuardType Tryz.prog.depth 2 = false := by kernel_rfl
theorem ty_k3 : tyk Tryz.prog 3 = some (TyK.int .i64) := by kernel_rfl
theorem ty_s3 : shp Tryz.prog 3 = some (false, 1) := by kernel_rfl
theorem ty_z3 : zer Tryz.prog 3 = some [(AV.int .i64 0)] := by kernel_rfl
theorem ty_b3 : isBld Tryz.prog 3 = false := by kernel_rfl
theorem ty_f3 : flatT Tryz.prog 10 3 = some [(TyS.si .i64)] := by kernel_rfl
theorem ty_g3 : Tryz.prog.eqGuardType Tryz.prog.depth 3 = false := by kernel_rfl
theorem ty_k4 : tyk Tryz.prog 4 = some TyK.bool := by kernel_rfl
theorem ty_s4 : shp Tryz.prog 4 = some (false, 1) := by kernel_rfl
theorem ty_z4 : zer Tryz.prog 4 = some [(AV.bool false)] := by kernel_rfl
theorem ty_b4 : isBld Tryz.prog 4 = false := by kernel_rfl
theorem ty_f4 : flatT Tryz.prog 10 4 = some [TyS.sb] := by kernel_rfl
theorem ty_g4 : Tryz.prog.eqGuardType Tryz.prog.depth 4 = false := by kernel_rfl
theorem ty_k5 : tyk Tryz.prog 5 = some (TyK.int .u8) := by kernel_rfl
theorem ty_s5 : shp Tryz.prog 5 = some (false, 1) := by kernel_rfl
theorem ty_z5 : zer Tryz.prog 5 = some [(AV.int .u8 0)] := by kernel_rfl
theorem ty_b5 : isBld Tryz.prog 5 = false := by kernel_rfl
theorem ty_f5 : flatT Tryz.prog 10 5 = some [(TyS.si .u8)] := by kernel_rfl
theorem ty_g5 : Tryz.prog.eqGuardType Tryz.prog.depth 5 = false := by kernel_rfl
theorem ty_k6 : tyk Tryz.prog 6 = some (TyK.int .u8) := by kernel_rfl
theorem ty_s6 : shp Tryz.prog 6 = some (false, 1) := by kernel_rfl
theorem ty_z6 : zer Tryz.prog 6 = some [(AV.int .u8 0)] := by kernel_rfl
theorem ty_b6 : isBld Tryz.prog 6 = false := by kernel_rfl
theorem ty_f6 : flatT Tryz.prog 10 6 = some [(TyS.si .u8)] := by kernel_rfl
theorem ty_g6 : Tryz.prog.eqGuardType Tryz.prog.depth 6 = false := by kernel_rfl
theorem ty_k7 : tyk Tryz.prog 7 = some (TyK.struct [(0, (false, 1)), (1, (false, 1)), (2, (false, 1)), (3, (false, 1))]) := by kernel_rfl
theorem ty_s7 : shp Tryz.prog 7 = some (true, 4) := by kernel_rfl
theorem ty_z7 : zer Tryz.prog 7 = some [(AV.int .i64 0), (AV.int .i64 0), (AV.bool false), (AV.int .u8 0)] := by kernel_rfl
theorem ty_b7 : isBld Tryz.prog 7 = false := by kernel_rfl
theorem ty_f7 : flatT Tryz.prog 10 7 = some [(TyS.si .i64), (TyS.si .i64), TyS.sb, (TyS.si .u8)] := by kernel_rfl
theorem ty_g7 : Tryz.prog.eqGuardType Tryz.prog.depth 7 = false := by kernel_rfl
theorem ty_d7_0 : fldOf Tryz.prog 7 0 = some (0, false, 1) := by kernel_rfl
theorem ty_d7_1 : fldOf Tryz.prog 7 1 = some (1, false, 1) := by kernel_rfl
theorem ty_d7_2 : fldOf Tryz.prog 7 2 = some (2, false, 1) := by kernel_rfl
theorem ty_d7_3 : fldOf Tryz.prog 7 3 = some (3, false, 1) := by kernel_rfl
theorem ty_k8 : tyk Tryz.prog 8 = some (TyK.struct [(0, (false, 1)), (1, (false, 1)), (2, (false, 1)), (3, (false, 1))]) := by kernel_rfl
theorem ty_s8 : shp Tryz.prog 8 = some (true, 4) := by kernel_rfl
theorem ty_z8 : zer Tryz.prog 8 = some [(AV.int .i64 0), (AV.int .i64 0), (AV.bool false), (AV.int .u8 0)] := by kernel_rfl
theorem ty_b8 : isBld Tryz.prog 8 = false := by kernel_rfl
theorem ty_f8 : flatT Tryz.prog 10 8 = some [(TyS.si .i64), (TyS.si .i64), TyS.sb, (TyS.si .u8)] := by kernel_rfl
theorem ty_g8 : Tryz.prog.eqGuardType Tryz.prog.depth 8 = false := by kernel_rfl
theorem ty_d8_0 : fldOf Tryz.prog 8 0 = some (0, false, 1) := by kernel_rfl
theorem ty_d8_1 : fldOf Tryz.prog 8 1 = some (1, false, 1) := by kernel_rfl
theorem ty_d8_2 : fldOf Tryz.prog 8 2 = some (2, false, 1) := by kernel_rfl
theorem ty_d8_3 : fldOf Tryz.prog 8 3 = some (3, false, 1) := by kernel_rfl
theorem ty_k9 : tyk Tryz.prog 9 = some TyK.str := by kernel_rfl
theorem ty_s9 : shp Tryz.prog 9 = some (false, 1) := by kernel_rfl
theorem ty_z9 : zer Tryz.prog 9 = some [(AV.str [])] := by kernel_rfl
theorem ty_b9 : isBld Tryz.prog 9 = false := by kernel_rfl
theorem ty_f9 : flatT Tryz.prog 10 9 = some [TyS.ss] := by kernel_rfl
theorem ty_g9 : Tryz.prog.eqGuardType Tryz.prog.depth 9 = false := by kernel_rfl
theorem ty_k10 : tyk Tryz.prog 10 = some TyK.str := by kernel_rfl
theorem ty_s10 : shp Tryz.prog 10 = some (false, 1) := by kernel_rfl
theorem ty_z10 : zer Tryz.prog 10 = some [(AV.str [])] := by kernel_rfl
theorem ty_b10 : isBld Tryz.prog 10 = false := by kernel_rfl
theorem ty_f10 : flatT Tryz.prog 10 10 = some [TyS.ss] := by kernel_rfl
theorem ty_g10 : Tryz.prog.eqGuardType Tryz.prog.depth 10 = false := by kernel_rfl
theorem ty_k11 : tyk Tryz.prog 11 = some TyK.str := by kernel_rfl
theorem ty_s11 : shp Tryz.prog 11 = some (false, 1) := by kernel_rfl
theorem ty_z11 : zer Tryz.prog 11 = some [(AV.str [])] := by kernel_rfl
theorem ty_b11 : isBld Tryz.prog 11 = false := by kernel_rfl
theorem ty_f11 : flatT Tryz.prog 10 11 = some [TyS.ss] := by kernel_rfl
theorem ty_g11 : Tryz.prog.eqGuardType Tryz.prog.depth 11 = false := by kernel_rfl
theorem ty_k12 : tyk Tryz.prog 12 = some (TyK.int .u64) := by kernel_rfl
theorem ty_s12 : shp Tryz.prog 12 = some (false, 1) := by kernel_rfl
theorem ty_z12 : zer Tryz.prog 12 = some [(AV.int .u64 0)] := by kernel_rfl
theorem ty_b12 : isBld Tryz.prog 12 = false := by kernel_rfl
theorem ty_f12 : flatT Tryz.prog 10 12 = some [(TyS.si .u64)] := by kernel_rfl
theorem ty_g12 : Tryz.prog.eqGuardType Tryz.prog.depth 12 = false := by kernel_rfl
theorem ty_k13 : tyk Tryz.prog 13 = some (TyK.struct [(0, (false, 1)), (1, (false, 1))]) := by kernel_rfl
theorem ty_s13 : shp Tryz.prog 13 = some (true, 2) := by kernel_rfl
theorem ty_z13 : zer Tryz.prog 13 = some [(AV.str []), (AV.int .u64 0)] := by kernel_rfl
theorem ty_b13 : isBld Tryz.prog 13 = false := by kernel_rfl
theorem ty_d13_0 : fldOf Tryz.prog 13 0 = some (0, false, 1) := by kernel_rfl
theorem ty_d13_1 : fldOf Tryz.prog 13 1 = some (1, false, 1) := by kernel_rfl
theorem ty_k14 : tyk Tryz.prog 14 = some (TyK.struct [(0, (false, 1)), (1, (false, 1))]) := by kernel_rfl
theorem ty_s14 : shp Tryz.prog 14 = some (true, 2) := by kernel_rfl
theorem ty_z14 : zer Tryz.prog 14 = some [(AV.str []), (AV.int .u64 0)] := by kernel_rfl
theorem ty_b14 : isBld Tryz.prog 14 = false := by kernel_rfl
theorem ty_d14_0 : fldOf Tryz.prog 14 0 = some (0, false, 1) := by kernel_rfl
theorem ty_d14_1 : fldOf Tryz.prog 14 1 = some (1, false, 1) := by kernel_rfl
theorem ty_k15 : tyk Tryz.prog 15 = some (TyK.ptr 160) := by kernel_rfl
theorem ty_s15 : shp Tryz.prog 15 = some (false, 1) := by kernel_rfl
theorem ty_z15 : zer Tryz.prog 15 = some [AV.nilPtr] := by kernel_rfl
theorem ty_b15 : isBld Tryz.prog 15 = false := by kernel_rfl
theorem ty_k16 : tyk Tryz.prog 16 = some (TyK.ptr 163) := by kernel_rfl
theorem ty_s16 : shp Tryz.prog 16 = some (false, 1) := by kernel_rfl
theorem ty_z16 : zer Tryz.prog 16 = some [AV.nilPtr] := by kernel_rfl
theorem ty_b16 : isBld Tryz.prog 16 = false := by kernel_rfl
theorem ty_k17 : tyk Tryz.prog 17 = some (TyK.ptr 171) := by kernel_rfl
theorem ty_s17 : shp Tryz.prog 17 = some (false, 1) := by kernel_rfl
theorem ty_z17 : zer Tryz.prog 17 = some [AV.nilPtr] := by kernel_rfl
theorem ty_b17 : isBld Tryz.prog 17 = false := by kernel_rfl
theorem ty_k18 : tyk Tryz.prog 18 = some (TyK.struct [(0, (false, 1))]) := by kernel_rfl
theorem ty_s18 : shp Tryz.prog 18 = some (true, 1) := by kernel_rfl
theorem ty_z18 : zer Tryz.prog 18 = some [AV.nilPtr] := by kernel_rfl
theorem ty_b18 : isBld Tryz.prog 18 = false := by kernel_rfl
theorem ty_d18_0 : fldOf Tryz.prog 18 0 = some (0, false, 1) := by kernel_rfl
theorem ty_k19 : tyk Tryz.prog 19 = some (TyK.struct [(0, (false, 1))]) := by kernel_rfl
theorem ty_s19 : shp Tryz.prog 19 = some (true, 1) := by kernel_rfl
theorem ty_z19 : zer Tryz.prog 19 = some [AV.nilPtr] := by kernel_rfl
theorem ty_b19 : isBld Tryz.prog 19 = false := by kernel_rfl
theorem ty_d19_0 : fldOf Tryz.prog 19 0 = some (0, false, 1) := by kernel_rfl
theorem ty_k20 : tyk Tryz.prog 20 = some (TyK.iface 0) := by kernel_rfl
theorem ty_s20 : shp Tryz.prog 20 = some (false, 1) := by kernel_rfl
theorem ty_z20 : zer Tryz.prog 20 = some [AV.nilIface] := by kernel_rfl
theorem ty_b20 : isBld Tryz.prog 20 = false := by kernel_rfl
theorem ty_k21 : tyk Tryz.prog 21 = some (TyK.int .i32) := by kernel_rfl
theorem ty_s21 : shp Tryz.prog 21 = some (false, 1) := by kernel_rfl
theorem ty_z21 : zer Tryz.prog 21 = some [(AV.int .i32 0)] := by kernel_rfl
theorem ty_b21 : isBld Tryz.prog 21 = false := by kernel_rfl
theorem ty_f21 : flatT Tryz.prog 10 21 = some [(TyS.si .i32)] := by kernel_rfl
theorem ty_g21 : Tryz.prog.eqGuardType Tryz.prog.depth 21 = false := by kernel_rfl
theorem ty_k22 : tyk Tryz.prog 22 = some (TyK.slice 9 false 1 16) := by kernel_rfl
theorem ty_s22 : shp Tryz.prog 22 = some (false, 1) := by kernel_rfl
theorem ty_z22 : zer Tryz.prog 22 = some [AV.nilSl] := by kernel_rfl
theorem ty_b22 : isBld Tryz.prog 22 = false := by kernel_rfl
theorem ty_k23 : tyk Tryz.prog 23 = some TyK.func := by kernel_rfl
theorem ty_s23 : shp Tryz.prog 23 = some (false, 1) := by kernel_rfl
theorem ty_z23 : zer Tryz.prog 23 = some [AV.nilFn] := by kernel_rfl
theorem ty_b23 : isBld Tryz.prog 23 = false := by kernel_rfl
theorem ty_k24 : tyk Tryz.prog 24 = some TyK.func := by kernel_rfl
theorem ty_s24 : shp Tryz.prog 24 = some (false, 1) := by kernel_rfl
theorem ty_z24 : zer Tryz.prog 24 = some [AV.nilFn] := by kernel_rfl
theorem ty_b24 : isBld Tryz.prog 24 = false := by kernel_rfl
theorem ty_k25 : tyk Tryz.prog 25 = some TyK.func := by kernel_rfl
theorem ty_s25 : shp Tryz.prog 25 = some (false, 1) := by kernel_rfl
theorem ty_z25 : zer Tryz.prog 25 = some [AV.nilFn] := by kernel_rfl
theorem ty_b25 : isBld Tryz.prog 25 = false := by kernel_rfl
theorem ty_k26 : tyk Tryz.prog 26 = some TyK.func := by kernel_rfl
theorem ty_s26 : shp Tryz.prog 26 = some (false, 1) := by kernel_rfl
theorem ty_z26 : zer Tryz.prog 26 = some [AV.nilFn] := by kernel_rfl
theorem ty_b26 : isBld Tryz.prog 26 = false := by kernel_rfl
theorem ty_k27 : tyk Tryz.prog 27 = some TyK.func := by kernel_rfl
theorem ty_s27 : shp Tryz.prog 27 = some (false, 1) := by kernel_rfl
theorem ty_z27 : zer Tryz.prog 27 = some [AV.nilFn] := by kernel_rfl
theorem ty_b27 : isBld Tryz.prog 27 = false := by kernel_rfl
theorem ty_k28 : tyk Tryz.prog 28 = some (TyK.slice 5 false 1 1) := by kernel_rfl
theorem ty_s28 : shp Tryz.prog 28 = some (false, 1) := by kernel_rfl
theorem ty_z28 : zer Tryz.prog 28 = some [AV.nilSl] := by kernel_rfl
theorem ty_b28 : isBld Tryz.prog 28 = false := by kernel_rfl
theorem ty_k29 : tyk Tryz.prog 29 = some TyK.func := by kernel_rfl
theorem ty_s29 : shp Tryz.prog 29 = some (false, 1) := by kernel_rfl
theorem ty_z29 : zer Tryz.prog 29 = some [AV.nilFn] := by kernel_rfl
theorem ty_b29 : isBld Tryz.prog 29 = false := by kernel_rfl
theorem ty_k30 : tyk Tryz.prog 30 = some TyK.func := by kernel_rfl
theorem ty_s30 : shp Tryz.prog 30 = some (false, 1) := by kernel_rfl
theorem ty_z30 : zer Tryz.prog 30 = some [AV.nilFn] := by kernel_rfl
theorem ty_b30 : isBld Tryz.prog 30 = false := by kernel_rfl
theorem ty_k31 : tyk Tryz.prog 31 = some (TyK.struct [(0, (false, 1)), (1, (false, 1)), (2, (false, 1))]) := by kernel_rfl
theorem ty_s31 : shp Tryz.prog 31 = some (true, 3) := by kernel_rfl
theorem ty_z31 : zer Tryz.prog 31 = some [(AV.int .i64 0), (AV.str []), (AV.str [])] := by kernel_rfl
theorem ty_b31 : isBld Tryz.prog 31 = false := by kernel_rfl
theorem ty_f31 : flatT Tryz.prog 10 31 = some [(TyS.si .i64), TyS.ss, TyS.ss] := by kernel_rfl
theorem ty_g31 : Tryz.prog.eqGuardType Tryz.prog.depth 31 = false := by kernel_rfl
theorem ty_d31_0 : fldOf Tryz.prog 31 0 = some (0, false, 1) := by kernel_rfl
theorem ty_d31_1 : fldOf Tryz.prog 31 1 = some (1, false, 1) := by kernel_rfl
theorem ty_d31_2 : fldOf Tryz.prog 31 2 = some (2, false, 1) := by kernel_rfl
theorem ty_k32 : tyk Tryz.prog 32 = some (TyK.struct [(0, (false, 1)), (1, (false, 1)), (2, (false, 1))]) := by kernel_rfl
theorem ty_s32 : shp Tryz.prog 32 = some (true, 3) := by kernel_rfl
theorem ty_z32 : zer Tryz.prog 32 = some [(AV.int .i64 0), (AV.str []), (AV.str [])] := by kernel_rfl
theorem ty_b32 : isBld Tryz.prog 32 = false := by kernel_rfl
theorem ty_f32 : flatT Tryz.prog 10 32 = some [(TyS.si .i64), TyS.ss, TyS.ss] := by kernel_rfl
theorem ty_g32 : Tryz.prog.eqGuardType Tryz.prog.depth 32 = false := by kernel_rfl
theorem ty_d32_0 : fldOf Tryz.prog 32 0 = some (0, false, 1) := by kernel_rfl
theorem ty_d32_1 : fldOf Tryz.prog 32 1 = some (1, false, 1) := by kernel_rfl
theorem ty_d32_2 : fldOf Tryz.prog 32 2 = some (2, false, 1) := by kernel_rfl
theorem ty_k33 : tyk Tryz.prog 33 = some TyK.other := by kernel_rfl
theorem ty_s33 : shp Tryz.prog 33 = some (false, 1) := by kernel_rfl
theorem ty_z33 : zer Tryz.prog 33 = some [(AV.tuple [AV.undef, (AV.bool false)])] := by kernel_rfl
theorem ty_b33 : isBld Tryz.prog 33 = false := by kernel_rfl
theorem ty_k34 : tyk Tryz.prog 34 = some TyK.func := by kernel_rfl
theorem ty_s34 : shp Tryz.prog 34 = some (false, 1) := by kernel_rfl
theorem ty_z34 : zer Tryz.prog 34 = some [AV.nilFn] := by kernel_rfl
theorem ty_b34 : isBld Tryz.prog 34 = false := by kernel_rfl
theorem ty_k35 : tyk Tryz.prog 35 = some TyK.func := by kernel_rfl
theorem ty_s35 : shp Tryz.prog 35 = some (false, 1) := by kernel_rfl
theorem ty_z35 : zer Tryz.prog 35 = some [AV.nilFn] := by kernel_rfl
theorem ty_b35 : isBld Tryz.prog 35 = false := by kernel_rfl
theorem ty_k36 : tyk Tryz.prog 36 = some TyK.func := by kernel_rfl
theorem ty_s36 : shp Tryz.prog 36 = some (false, 1) := by kernel_rfl
theorem ty_z36 : zer Tryz.prog 36 = some [AV.nilFn] := by kernel_rfl
theorem ty_b36 : isBld Tryz.prog 36 = false := by kernel_rfl
theorem ty_k37 : tyk Tryz.prog 37 = some TyK.func := by kernel_rfl
theorem ty_s37 : shp Tryz.prog 37 = some (false, 1) := by kernel_rfl
theorem ty_z37 : zer Tryz.prog 37 = some [AV.nilFn] := by kernel_rfl
theorem ty_b37 : isBld Tryz.prog 37 = false := by kernel_rfl
theorem ty_k38 : tyk Tryz.prog 38 = some TyK.func := by kernel_rfl
theorem ty_s38 : shp Tryz.prog 38 = some (false, 1) := by kernel_rfl
theorem ty_z38 : zer Tryz.prog 38 = some [AV.nilFn] := by kernel_rfl
theorem ty_b38 : isBld Tryz.prog 38 = false := by kernel_rfl
theorem ty_k39 : tyk Tryz.prog 39 = some TyK.func := by kernel_rfl
theorem ty_s39 : shp Tryz.prog 39 = some (false, 1) := by kernel_rfl
theorem ty_z39 : zer Tryz.prog 39 = some [AV.nilFn] := by kernel_rfl
theorem ty_b39 : isBld Tryz.prog 39 = false := by kernel_rfl
theorem ty_k40 : tyk Tryz.prog 40 = some TyK.func := by kernel_rfl
theorem ty_s40 : shp Tryz.prog 40 = some (false, 1) := by kernel_rfl
theorem ty_z40 : zer Tryz.prog 40 = some [AV.nilFn] := by kernel_rfl
theorem ty_b40 : isBld Tryz.prog 40 = false := by kernel_rfl
theorem ty_k41 : tyk Tryz.prog 41 = some TyK.func := by kernel_rfl
theorem ty_s41 : shp Tryz.prog 41 = some (false, 1) := by kernel_rfl
theorem ty_z41 : zer Tryz.prog 41 = some [AV.nilFn] := by kernel_rfl
theorem ty_b41 : isBld Tryz.prog 41 = false := by kernel_rfl
theorem ty_k42 : tyk Tryz.prog 42 = some (TyK.int .u16) := by kernel_rfl
theorem ty_s42 : shp Tryz.prog 42 = some (false, 1) := by kernel_rfl
theorem ty_z42 : zer Tryz.prog 42 = some [(AV.int .u16 0)] := by kernel_rfl
theorem ty_b42 : isBld Tryz.prog 42 = false := by kernel_rfl
theorem ty_f42 : flatT Tryz.prog 10 42 = some [(TyS.si .u16)] := by kernel_rfl
theorem ty_g42 : Tryz.prog.eqGuardType Tryz.prog.depth 42 = false := by kernel_rfl
theorem ty_k43 : tyk Tryz.prog 43 = some TyK.func := by kernel_rfl
theorem ty_s43 : shp Tryz.prog 43 = some (false, 1) := by kernel_rfl
theorem ty_z43 : zer Tryz.prog 43 = some [AV.nilFn] := by kernel_rfl
theorem ty_b43 : isBld Tryz.prog 43 = false := by kernel_rfl
theorem ty_k44 : tyk Tryz.prog 44 = some TyK.func := by kernel_rfl
theorem ty_s44 : shp Tryz.prog 44 = some (false, 1) := by kernel_rfl
theorem ty_z44 : zer Tryz.prog 44 = some [AV.nilFn] := by kernel_rfl
theorem ty_b44 : isBld Tryz.prog 44 = false := by kernel_rfl
theorem ty_k45 : tyk Tryz.prog 45 = some TyK.func := by kernel_rfl
theorem ty_s45 : shp Tryz.prog 45 = some (false, 1) := by kernel_rfl
theorem ty_z45 : zer Tryz.prog 45 = some [AV.nilFn] := by kernel_rfl
theorem ty_b45 : isBld Tryz.prog 45 = false := by kernel_rfl
theorem ty_k46 : tyk Tryz.prog 46 = some TyK.func := by kernel_rfl
theorem ty_s46 : shp Tryz.prog 46 = some (false, 1) := by kernel_rfl
theorem ty_z46 : zer Tryz.prog 46 = some [AV.nilFn] := by kernel_rfl
theorem ty_b46 : isBld Tryz.prog 46 = false := by kernel_rfl
theorem ty_k47 : tyk Tryz.prog 47 = some TyK.func := by kernel_rfl
theorem ty_s47 : shp Tryz.prog 47 = some (false, 1) := by kernel_rfl
theorem ty_z47 : zer Tryz.prog 47 = some [AV.nilFn] := by kernel_rfl
theorem ty_b47 : isBld Tryz.prog 47 = false := by kernel_rfl
theorem ty_k48 : tyk Tryz.prog 48 = some (TyK.map 9 34) := by kernel_rfl
theorem ty_s48 : shp Tryz.prog 48 = some (false, 1) := by kernel_rfl
theorem ty_z48 : zer Tryz.prog 48 = some [AV.nilMap] := by kernel_rfl
theorem ty_b48 : isBld Tryz.prog 48 = false := by kernel_rfl
theorem ty_m48 : mapD Tryz.prog 48 = some ([TyS.ss], (false, AV.nilFn)) := by kernel_rfl
theorem ty_h48 : keyShape Tryz.prog 48 = some ([TyS.ss], false) := by kernel_rfl
theorem ty_k49 : tyk Tryz.prog 49 = some TyK.other := by kernel_rfl
theorem ty_s49 : shp Tryz.prog 49 = some (false, 1) := by kernel_rfl
theorem ty_z49 : zer Tryz.prog 49 = some [(AV.tuple [AV.nilFn, (AV.bool false)])] := by kernel_rfl
theorem ty_b49 : isBld Tryz.prog 49 = false := by kernel_rfl
theorem ty_k50 : tyk Tryz.prog 50 = some TyK.func := by kernel_rfl
theorem ty_s50 : shp Tryz.prog 50 = some (false, 1) := by kernel_rfl
theorem ty_z50 : zer Tryz.prog 50 = some [AV.nilFn] := by kernel_rfl
theorem ty_b50 : isBld Tryz.prog 50 = false := by kernel_rfl
theorem ty_k51 : tyk Tryz.prog 51 = some TyK.func := by kernel_rfl
theorem ty_s51 : shp Tryz.prog 51 = some (false, 1) := by kernel_rfl
theorem ty_z51 : zer Tryz.prog 51 = some [AV.nilFn] := by kernel_rfl
theorem ty_b51 : isBld Tryz.prog 51 = false := by kernel_rfl
theorem ty_k52 : tyk Tryz.prog 52 = some TyK.func := by kernel_rfl
theorem ty_s52 : shp Tryz.prog 52 = some (false, 1) := by kernel_rfl
theorem ty_z52 : zer Tryz.prog 52 = some [AV.nilFn] := by kernel_rfl
theorem ty_b52 : isBld Tryz.prog 52 = false := by kernel_rfl
theorem ty_k53 : tyk Tryz.prog 53 = some TyK.func := by kernel_rfl
theorem ty_s53 : shp Tryz.prog 53 = some (false, 1) := by kernel_rfl
theorem ty_z53 : zer Tryz.prog 53 = some [AV.nilFn] := by kernel_rfl
theorem ty_b53 : isBld Tryz.prog 53 = false := by kernel_rfl
theorem ty_k54 : tyk Tryz.prog 54 = some TyK.func := by kernel_rfl
theorem ty_s54 : shp Tryz.prog 54 = some (false, 1) := by kernel_rfl
theorem ty_z54 : zer Tryz.prog 54 = some [AV.nilFn] := by kernel_rfl
theorem ty_b54 : isBld Tryz.prog 54 = false := by kernel_rfl
theorem ty_k55 : tyk Tryz.prog 55 = some TyK.func := by kernel_rfl
theorem ty_s55 : shp Tryz.prog 55 = some (false, 1) := by kernel_rfl
theorem ty_z55 : zer Tryz.prog 55 = some [AV.nilFn] := by kernel_rfl
theorem ty_b55 : isBld Tryz.prog 55 = false := by kernel_rfl
theorem ty_k56 : tyk Tryz.prog 56 = some TyK.other := by kernel_rfl
theorem ty_s56 : shp Tryz.prog 56 = some (false, 1) := by kernel_rfl
theorem ty_z56 : zer Tryz.prog 56 = some [(AV.tuple [(AV.int .i64 0), (AV.bool false)])] := by kernel_rfl
theorem ty_b56 : isBld Tryz.prog 56 = false := by kernel_rfl
theorem ty_k57 : tyk Tryz.prog 57 = some TyK.func := by kernel_rfl
theorem ty_s57 : shp Tryz.prog 57 = some (false, 1) := by kernel_rfl
theorem ty_z57 : zer Tryz.prog 57 = some [AV.nilFn] := by kernel_rfl
theorem ty_b57 : isBld Tryz.prog 57 = false := by kernel_rfl
theorem ty_k58 : tyk Tryz.prog 58 = some TyK.func := by kernel_rfl
theorem ty_s58 : shp Tryz.prog 58 = some (false, 1) := by kernel_rfl
theorem ty_z58 : zer Tryz.prog 58 = some [AV.nilFn] := by kernel_rfl
theorem ty_b58 : isBld Tryz.prog 58 = false := by kernel_rfl
theorem ty_k59 : tyk Tryz.prog 59 = some TyK.func := by kernel_rfl
theorem ty_s59 : shp Tryz.prog 59 = some (false, 1) := by kernel_rfl
theorem ty_z59 : zer Tryz.prog 59 = some [AV.nilFn] := by kernel_rfl
theorem ty_b59 : isBld Tryz.prog 59 = false := by kernel_rfl
theorem ty_k60 : tyk Tryz.prog 60 = some TyK.func := by kernel_rfl
theorem ty_s60 : shp Tryz.prog 60 = some (false, 1) := by kernel_rfl
theorem ty_z60 : zer Tryz.prog 60 = some [AV.nilFn] := by kernel_rfl
theorem ty_b60 : isBld Tryz.prog 60 = false := by kernel_rfl
theorem ty_k61 : tyk Tryz.prog 61 = some TyK.func := by kernel_rfl
theorem ty_s61 : shp Tryz.prog 61 = some (false, 1) := by kernel_rfl
theorem ty_z61 : zer Tryz.prog 61 = some [AV.nilFn] := by kernel_rfl
theorem ty_b61 : isBld Tryz.prog 61 = false := by kernel_rfl
theorem ty_k62 : tyk Tryz.prog 62 = some TyK.func := by kernel_rfl
theorem ty_s62 : shp Tryz.prog 62 = some (false, 1) := by kernel_rfl
theorem ty_z62 : zer Tryz.prog 62 = some [AV.nilFn] := by kernel_rfl
theorem ty_b62 : isBld Tryz.prog 62 = false := by kernel_rfl
theorem ty_k63 : tyk Tryz.prog 63 = some TyK.func := by kernel_rfl
theorem ty_s63 : shp Tryz.prog 63 = some (false, 1) := by kernel_rfl
theorem ty_z63 : zer Tryz.prog 63 = some [AV.nilFn] := by kernel_rfl
theorem ty_b63 : isBld Tryz.prog 63 = false := by kernel_rfl
theorem ty_k64 : tyk Tryz.prog 64 = some TyK.func := by kernel_rfl
theorem ty_s64 : shp Tryz.prog 64 = some (false, 1) := by kernel_rfl
theorem ty_z64 : zer Tryz.prog 64 = some [AV.nilFn] := by kernel_rfl
theorem ty_b64 : isBld Tryz.prog 64 = false := by kernel_rfl
theorem ty_k65 : tyk Tryz.prog 65 = some (TyK.ptr 67) := by kernel_rfl
theorem ty_s65 : shp Tryz.prog 65 = some (false, 1) := by kernel_rfl
theorem ty_z65 : zer Tryz.prog 65 = some [AV.nilPtr] := by kernel_rfl
theorem ty_b65 : isBld Tryz.prog 65 = false := by kernel_rfl
theorem ty_k66 : tyk Tryz.prog 66 = some (TyK.struct [(0, (false, 1)), (1, (false, 1))]) := by kernel_rfl
theorem ty_s66 : shp Tryz.prog 66 = some (true, 2) := by kernel_rfl
theorem ty_z66 : zer Tryz.prog 66 = some [AV.nilPtr, AV.nilSl] := by kernel_rfl
theorem ty_b66 : isBld Tryz.prog 66 = false := by kernel_rfl
theorem ty_d66_0 : fldOf Tryz.prog 66 0 = some (0, false, 1) := by kernel_rfl
theorem ty_d66_1 : fldOf Tryz.prog 66 1 = some (1, false, 1) := by kernel_rfl
theorem ty_k67 : tyk Tryz.prog 67 = some (TyK.struct [(0, (false, 1)), (1, (false, 1))]) := by kernel_rfl
theorem ty_s67 : shp Tryz.prog 67 = some (true, 2) := by kernel_rfl
theorem ty_z67 : zer Tryz.prog 67 = some [AV.nilPtr, AV.nilSl] := by kernel_rfl
theorem ty_b67 : isBld Tryz.prog 67 = true := by kernel_rfl
theorem ty_d67_0 : fldOf Tryz.prog 67 0 = some (0, false, 1) := by kernel_rfl
theorem ty_d67_1 : fldOf Tryz.prog 67 1 = some (1, false, 1) := by kernel_rfl
theorem ty_k68 : tyk Tryz.prog 68 = some (TyK.iface 1) := by kernel_rfl
theorem ty_s68 : shp Tryz.prog 68 = some (false, 1) := by kernel_rfl
theorem ty_z68 : zer Tryz.prog 68 = some [AV.nilIface] := by kernel_rfl
theorem ty_b68 : isBld Tryz.prog 68 = false := by kernel_rfl
theorem ty_k69 : tyk Tryz.prog 69 = some (TyK.iface 1) := by kernel_rfl
theorem ty_s69 : shp Tryz.prog 69 = some (false, 1) := by kernel_rfl
theorem ty_z69 : zer Tryz.prog 69 = some [AV.nilIface] := by kernel_rfl
theorem ty_b69 : isBld Tryz.prog 69 = false := by kernel_rfl
theorem ty_k70 : tyk Tryz.prog 70 = some TyK.other := by kernel_rfl
theorem ty_s70 : shp Tryz.prog 70 = some (false, 1) := by kernel_rfl
theorem ty_z70 : zer Tryz.prog 70 = some [(AV.tuple [(AV.int .i64 0), AV.nilIface])] := by kernel_rfl
theorem ty_b70 : isBld Tryz.prog 70 = false := by kernel_rfl
theorem ty_k71 : tyk Tryz.prog 71 = some TyK.func := by kernel_rfl
theorem ty_s71 : shp Tryz.prog 71 = some (false, 1) := by kernel_rfl
theorem ty_z71 : zer Tryz.prog 71 = some [AV.nilFn] := by kernel_rfl
theorem ty_b71 : isBld Tryz.prog 71 = false := by kernel_rfl
theorem ty_k72 : tyk Tryz.prog 72 = some TyK.func := by kernel_rfl
theorem ty_s72 : shp Tryz.prog 72 = some (false, 1) := by kernel_rfl
theorem ty_z72 : zer Tryz.prog 72 = some [AV.nilFn] := by kernel_rfl
theorem ty_b72 : isBld Tryz.prog 72 = false := by kernel_rfl
theorem ty_k73 : tyk Tryz.prog 73 = some TyK.func := by kernel_rfl
theorem ty_s73 : shp Tryz.prog 73 = some (false, 1) := by kernel_rfl
theorem ty_z73 : zer Tryz.prog 73 = some [AV.nilFn] := by kernel_rfl
theorem ty_b73 : isBld Tryz.prog 73 = false := by kernel_rfl
theorem ty_k74 : tyk Tryz.prog 74 = some TyK.func := by kernel_rfl
theorem ty_s74 : shp Tryz.prog 74 = some (false, 1) := by kernel_rfl
theorem ty_z74 : zer Tryz.prog 74 = some [AV.nilFn] := by kernel_rfl
theorem ty_b74 : isBld Tryz.prog 74 = false := by kernel_rfl
theorem ty_k75 : tyk Tryz.prog 75 = some (TyK.arr 256 3 false 1) := by kernel_rfl
theorem ty_s75 : shp Tryz.prog 75 = some (true, 256) := by kernel_rfl
theorem ty_b75 : isBld Tryz.prog 75 = false := by kernel_rfl
theorem ty_k76 : tyk Tryz.prog 76 = some TyK.func := by kernel_rfl
theorem ty_s76 : shp Tryz.prog 76 = some (false, 1) := by kernel_rfl
theorem ty_z76 : zer Tryz.prog 76 = some [AV.nilFn] := by kernel_rfl
theorem ty_b76 : isBld Tryz.prog 76 = false := by kernel_rfl
theorem ty_k77 : tyk Tryz.prog 77 = some TyK.func := by kernel_rfl
theorem ty_s77 : shp Tryz.prog 77 = some (false, 1) := by kernel_rfl
theorem ty_z77 : zer Tryz.prog 77 = some [AV.nilFn] := by kernel_rfl
theorem ty_b77 : isBld Tryz.prog 77 = false := by kernel_rfl
theorem ty_k78 : tyk Tryz.prog 78 = some TyK.func := by kernel_rfl
theorem ty_s78 : shp Tryz.prog 78 = some (false, 1) := by kernel_rfl
theorem ty_z78 : zer Tryz.prog 78 = some [AV.nilFn] := by kernel_rfl
theorem ty_b78 : isBld Tryz.prog 78 = false := by kernel_rfl
theorem ty_k79 : tyk Tryz.prog 79 = some TyK.func := by kernel_rfl
theorem ty_s79 : shp Tryz.prog 79 = some (false, 1) := by kernel_rfl
theorem ty_z79 : zer Tryz.prog 79 = some [AV.nilFn] := by kernel_rfl
theorem ty_b79 : isBld Tryz.prog 79 = false := by kernel_rfl
theorem ty_k80 : tyk Tryz.prog 80 = some TyK.func := by kernel_rfl
theorem ty_s80 : shp Tryz.prog 80 = some (false, 1) := by kernel_rfl
theorem ty_z80 : zer Tryz.prog 80 = some [AV.nilFn] := by kernel_rfl
theorem ty_b80 : isBld Tryz.prog 80 = false := by kernel_rfl
theorem ty_k81 : tyk Tryz.prog 81 = some TyK.func := by kernel_rfl
theorem ty_s81 : shp Tryz.prog 81 = some (false, 1) := by kernel_rfl
theorem ty_z81 : zer Tryz.prog 81 = some [AV.nilFn] := by kernel_rfl
theorem ty_b81 : isBld Tryz.prog 81 = false := by kernel_rfl
theorem ty_k82 : tyk Tryz.prog 82 = some TyK.func := by kernel_rfl
theorem ty_s82 : shp Tryz.prog 82 = some (false, 1) := by kernel_rfl
theorem ty_z82 : zer Tryz.prog 82 = some [AV.nilFn] := by kernel_rfl
theorem ty_b82 : isBld Tryz.prog 82 = false := by kernel_rfl
theorem ty_k83 : tyk Tryz.prog 83 = some TyK.func := by kernel_rfl
theorem ty_s83 : shp Tryz.prog 83 = some (false, 1) := by kernel_rfl
theorem ty_z83 : zer Tryz.prog 83 = some [AV.nilFn] := by kernel_rfl
theorem ty_b83 : isBld Tryz.prog 83 = false := by kernel_rfl
theorem ty_k84 : tyk Tryz.prog 84 = some TyK.func := by kernel_rfl
theorem ty_s84 : shp Tryz.prog 84 = some (false, 1) := by kernel_rfl
theorem ty_z84 : zer Tryz.prog 84 = some [AV.nilFn] := by kernel_rfl
theorem ty_b84 : isBld Tryz.prog 84 = false := by kernel_rfl
theorem ty_k85 : tyk Tryz.prog 85 = some (TyK.int .u64) := by kernel_rfl
theorem ty_s85 : shp Tryz.prog 85 = some (false, 1) := by kernel_rfl
theorem ty_z85 : zer Tryz.prog 85 = some [(AV.int .u64 0)] := by kernel_rfl
theorem ty_b85 : isBld Tryz.prog 85 = false := by kernel_rfl
theorem ty_f85 : flatT Tryz.prog 10 85 = some [(TyS.si .u64)] := by kernel_rfl
theorem ty_g85 : Tryz.prog.eqGuardType Tryz.prog.depth 85 = false := by kernel_rfl
theorem ty_k86 : tyk Tryz.prog 86 = some (TyK.ptr 5) := by kernel_rfl
theorem ty_s86 : shp Tryz.prog 86 = some (false, 1) := by kernel_rfl
theorem ty_z86 : zer Tryz.prog 86 = some [AV.nilPtr] := by kernel_rfl
theorem ty_b86 : isBld Tryz.prog 86 = false := by kernel_rfl
theorem ty_k87 : tyk Tryz.prog 87 = some TyK.func := by kernel_rfl
theorem ty_s87 : shp Tryz.prog 87 = some (false, 1) := by kernel_rfl
theorem ty_z87 : zer Tryz.prog 87 = some [AV.nilFn] := by kernel_rfl
theorem ty_b87 : isBld Tryz.prog 87 = false := by kernel_rfl
theorem ty_k88 : tyk Tryz.prog 88 = some TyK.func := by kernel_rfl
theorem ty_s88 : shp Tryz.prog 88 = some (false, 1) := by kernel_rfl
theorem ty_z88 : zer Tryz.prog 88 = some [AV.nilFn] := by kernel_rfl
theorem ty_b88 : isBld Tryz.prog 88 = false := by kernel_rfl
theorem ty_k89 : tyk Tryz.prog 89 = some TyK.func := by kernel_rfl
theorem ty_s89 : shp Tryz.prog 89 = some (false, 1) := by kernel_rfl
theorem ty_z89 : zer Tryz.prog 89 = some [AV.nilFn] := by kernel_rfl
theorem ty_b89 : isBld Tryz.prog 89 = false := by kernel_rfl
theorem ty_k90 : tyk Tryz.prog 90 = some (TyK.int .i64) := by kernel_rfl
theorem ty_s90 : shp Tryz.prog 90 = some (false, 1) := by kernel_rfl
theorem ty_z90 : zer Tryz.prog 90 = some [(AV.int .i64 0)] := by kernel_rfl
theorem ty_b90 : isBld Tryz.prog 90 = false := by kernel_rfl
theorem ty_f90 : flatT Tryz.prog 10 90 = some [(TyS.si .i64)] := by kernel_rfl
theorem ty_g90 : Tryz.prog.eqGuardType Tryz.prog.depth 90 = false := by kernel_rfl
theorem ty_k91 : tyk Tryz.prog 91 = some TyK.other := by kernel_rfl
theorem ty_s91 : shp Tryz.prog 91 = some (false, 1) := by kernel_rfl
theorem ty_z91 : zer Tryz.prog 91 = some [(AV.tuple [(AV.int .i64 0), (AV.int .i64 0)])] := by kernel_rfl
theorem ty_b91 : isBld Tryz.prog 91 = false := by kernel_rfl
theorem ty_k92 : tyk Tryz.prog 92 = some TyK.func := by kernel_rfl
theorem ty_s92 : shp Tryz.prog 92 = some (false, 1) := by kernel_rfl
theorem ty_z92 : zer Tryz.prog 92 = some [AV.nilFn] := by kernel_rfl
theorem ty_b92 : isBld Tryz.prog 92 = false := by kernel_rfl
theorem ty_k93 : tyk Tryz.prog 93 = some TyK.func := by kernel_rfl
theorem ty_s93 : shp Tryz.prog 93 = some (false, 1) := by kernel_rfl
theorem ty_z93 : zer Tryz.prog 93 = some [AV.nilFn] := by kernel_rfl
theorem ty_b93 : isBld Tryz.prog 93 = false := by kernel_rfl
theorem ty_k94 : tyk Tryz.prog 94 = some TyK.func := by kernel_rfl
theorem ty_s94 : shp Tryz.prog 94 = some (false, 1) := by kernel_rfl
theorem ty_z94 : zer Tryz.prog 94 = some [AV.nilFn] := by kernel_rfl
theorem ty_b94 : isBld Tryz.prog 94 = false := by kernel_rfl
theorem ty_k95 : tyk Tryz.prog 95 = some TyK.func := by kernel_rfl
theorem ty_s95 : shp Tryz.prog 95 = some (false, 1) := by kernel_rfl
theorem ty_z95 : zer Tryz.prog 95 = some [AV.nilFn] := by kernel_rfl
theorem ty_b95 : isBld Tryz.prog 95 = false := by kernel_rfl
theorem ty_k96 : tyk Tryz.prog 96 = some TyK.func := by kernel_rfl
theorem ty_s96 : shp Tryz.prog 96 = some (false, 1) := by kernel_rfl
theorem ty_z96 : zer Tryz.prog 96 = some [AV.nilFn] := by kernel_rfl
theorem ty_b96 : isBld Tryz.prog 96 = false := by kernel_rfl
theorem ty_k97 : tyk Tryz.prog 97 = some (TyK.int .u32) := by kernel_rfl
theorem ty_s97 : shp Tryz.prog 97 = some (false, 1) := by kernel_rfl
theorem ty_z97 : zer Tryz.prog 97 = some [(AV.int .u32 0)] := by kernel_rfl
theorem ty_b97 : isBld Tryz.prog 97 = false := by kernel_rfl
theorem ty_f97 : flatT Tryz.prog 10 97 = some [(TyS.si .u32)] := by kernel_rfl
theorem ty_g97 : Tryz.prog.eqGuardType Tryz.prog.depth 97 = false := by kernel_rfl
theorem ty_k98 : tyk Tryz.prog 98 = some TyK.func := by kernel_rfl
theorem ty_s98 : shp Tryz.prog 98 = some (false, 1) := by kernel_rfl
theorem ty_z98 : zer Tryz.prog 98 = some [AV.nilFn] := by kernel_rfl
theorem ty_b98 : isBld Tryz.prog 98 = false := by kernel_rfl
theorem ty_k99 : tyk Tryz.prog 99 = some (TyK.int .u64) := by kernel_rfl
theorem ty_s99 : shp Tryz.prog 99 = some (false, 1) := by kernel_rfl
theorem ty_z99 : zer Tryz.prog 99 = some [(AV.int .u64 0)] := by kernel_rfl
theorem ty_b99 : isBld Tryz.prog 99 = false := by kernel_rfl
theorem ty_f99 : flatT Tryz.prog 10 99 = some [(TyS.si .u64)] := by kernel_rfl
theorem ty_g99 : Tryz.prog.eqGuardType Tryz.prog.depth 99 = false := by kernel_rfl
theorem ty_k100 : tyk Tryz.prog 100 = some TyK.other := by kernel_rfl
theorem ty_s100 : shp Tryz.prog 100 = some (false, 1) := by kernel_rfl
theorem ty_z100 : zer Tryz.prog 100 = some [AV.nilPtr] := by kernel_rfl
theorem ty_b100 : isBld Tryz.prog 100 = false := by kernel_rfl
theorem ty_k101 : tyk Tryz.prog 101 = some TyK.func := by kernel_rfl
theorem ty_s101 : shp Tryz.prog 101 = some (false, 1) := by kernel_rfl
theorem ty_z101 : zer Tryz.prog 101 = some [AV.nilFn] := by kernel_rfl
theorem ty_b101 : isBld Tryz.prog 101 = false := by kernel_rfl
theorem ty_k102 : tyk Tryz.prog 102 = some TyK.func := by kernel_rfl
theorem ty_s102 : shp Tryz.prog 102 = some (false, 1) := by kernel_rfl
theorem ty_z102 : zer Tryz.prog 102 = some [AV.nilFn] := by kernel_rfl
theorem ty_b102 : isBld Tryz.prog 102 = false := by kernel_rfl
theorem ty_k103 : tyk Tryz.prog 103 = some TyK.func := by kernel_rfl
theorem ty_s103 : shp Tryz.prog 103 = some (false, 1) := by kernel_rfl
theorem ty_z103 : zer Tryz.prog 103 = some [AV.nilFn] := by kernel_rfl
theorem ty_b103 : isBld Tryz.prog 103 = false := by kernel_rfl
theorem ty_k104 : tyk Tryz.prog 104 = some TyK.func := by kernel_rfl
theorem ty_s104 : shp Tryz.prog 104 = some (false, 1) := by kernel_rfl
theorem ty_z104 : zer Tryz.prog 104 = some [AV.nilFn] := by kernel_rfl
theorem ty_b104 : isBld Tryz.prog 104 = false := by kernel_rfl
theorem ty_k105 : tyk Tryz.prog 105 = some (TyK.arr 256 4 false 1) := by kernel_rfl
theorem ty_s105 : shp Tryz.prog 105 = some (true, 256) := by kernel_rfl
theorem ty_b105 : isBld Tryz.prog 105 = false := by kernel_rfl
theorem ty_k106 : tyk Tryz.prog 106 = some (TyK.arr 256 4 false 1) := by kernel_rfl
theorem ty_s106 : shp Tryz.prog 106 = some (true, 256) := by kernel_rfl
theorem ty_b106 : isBld Tryz.prog 106 = false := by kernel_rfl
theorem ty_k107 : tyk Tryz.prog 107 = some TyK.other := by kernel_rfl
theorem ty_s107 : shp Tryz.prog 107 = some (false, 1) := by kernel_rfl
theorem ty_z107 : zer Tryz.prog 107 = some [(AV.tuple [AV.undef, (AV.bool false)])] := by kernel_rfl
theorem ty_b107 : isBld Tryz.prog 107 = false := by kernel_rfl
theorem ty_k108 : tyk Tryz.prog 108 = some TyK.func := by kernel_rfl
theorem ty_s108 : shp Tryz.prog 108 = some (false, 1) := by kernel_rfl
theorem ty_z108 : zer Tryz.prog 108 = some [AV.nilFn] := by kernel_rfl
theorem ty_b108 : isBld Tryz.prog 108 = false := by kernel_rfl
theorem ty_k109 : tyk Tryz.prog 109 = some TyK.func := by kernel_rfl
theorem ty_s109 : shp Tryz.prog 109 = some (false, 1) := by kernel_rfl
theorem ty_z109 : zer Tryz.prog 109 = some [AV.nilFn] := by kernel_rfl
theorem ty_b109 : isBld Tryz.prog 109 = false := by kernel_rfl
theorem ty_k110 : tyk Tryz.prog 110 = some (TyK.ptr 106) := by kernel_rfl
theorem ty_s110 : shp Tryz.prog 110 = some (false, 1) := by kernel_rfl
theorem ty_z110 : zer Tryz.prog 110 = some [AV.nilPtr] := by kernel_rfl
theorem ty_b110 : isBld Tryz.prog 110 = false := by kernel_rfl
theorem ty_k111 : tyk Tryz.prog 111 = some TyK.func := by kernel_rfl
theorem ty_s111 : shp Tryz.prog 111 = some (false, 1) := by kernel_rfl
theorem ty_z111 : zer Tryz.prog 111 = some [AV.nilFn] := by kernel_rfl
theorem ty_b111 : isBld Tryz.prog 111 = false := by kernel_rfl
theorem ty_k112 : tyk Tryz.prog 112 = some (TyK.arr 24 5 false 1) := by kernel_rfl
theorem ty_s112 : shp Tryz.prog 112 = some (true, 24) := by kernel_rfl
theorem ty_z112 : zer Tryz.prog 112 = some [(AV.int .u8 0), (AV.int .u8 0), (AV.int .u8 0), (AV.int .u8 0), (AV.int .u8 0), (AV.int .u8 0), (AV.int .u8 0), (AV.int .u8 0), (AV.int .u8 0), (AV.int .u8 0), (AV.int .u8 0), (AV.int .u8 0), (AV.int .u8 0), (AV.int .u8 0), (AV.int .u8 0), (AV.int .u8 0), (AV.int .u8 0), (AV.int .u8 0), (AV.int .u8 0), (AV.int .u8 0), (AV.int .u8 0), (AV.int .u8 0), (AV.int .u8 0), (AV.int .u8 0)] := by kernel_rfl
theorem ty_b112 : isBld Tryz.prog 112 = false := by kernel_rfl
theorem ty_k113 : tyk Tryz.prog 113 = some TyK.func := by kernel_rfl
theorem ty_s113 : shp Tryz.prog 113 = some (false, 1) := by kernel_rfl
theorem ty_z113 : zer Tryz.prog 113 = some [AV.nilFn] := by kernel_rfl
theorem ty_b113 : isBld Tryz.prog 113 = false := by kernel_rfl
theorem ty_k114 : tyk Tryz.prog 114 = some TyK.other := by kernel_rfl
theorem ty_s114 : shp Tryz.prog 114 = some (false, 1) := by kernel_rfl
theorem ty_z114 : zer Tryz.prog 114 = some [(AV.tuple [AV.nilSl, (AV.str [])])] := by kernel_rfl
theorem ty_b114 : isBld Tryz.prog 114 = false := by kernel_rfl
theorem ty_k115 : tyk Tryz.prog 115 = some TyK.func := by kernel_rfl
theorem ty_s115 : shp Tryz.prog 115 = some (false, 1) := by kernel_rfl
theorem ty_z115 : zer Tryz.prog 115 = some [AV.nilFn] := by kernel_rfl
theorem ty_b115 : isBld Tryz.prog 115 = false := by kernel_rfl
theorem ty_k116 : tyk Tryz.prog 116 = some TyK.func := by kernel_rfl
theorem ty_s116 : shp Tryz.prog 116 = some (false, 1) := by kernel_rfl
theorem ty_z116 : zer Tryz.prog 116 = some [AV.nilFn] := by kernel_rfl
theorem ty_b116 : isBld Tryz.prog 116 = false := by kernel_rfl
theorem ty_k117 : tyk Tryz.prog 117 = some (TyK.int .u64) := by kernel_rfl
theorem ty_s117 : shp Tryz.prog 117 = some (false, 1) := by kernel_rfl
theorem ty_z117 : zer Tryz.prog 117 = some [(AV.int .u64 0)] := by kernel_rfl
theorem ty_b117 : isBld Tryz.prog 117 = false := by kernel_rfl
theorem ty_f117 : flatT Tryz.prog 10 117 = some [(TyS.si .u64)] := by kernel_rfl
theorem ty_g117 : Tryz.prog.eqGuardType Tryz.prog.depth 117 = false := by kernel_rfl
theorem ty_k118 : tyk Tryz.prog 118 = some TyK.func := by kernel_rfl
theorem ty_s118 : shp Tryz.prog 118 = some (false, 1) := by kernel_rfl
theorem ty_z118 : zer Tryz.prog 118 = some [AV.nilFn] := by kernel_rfl
theorem ty_b118 : isBld Tryz.prog 118 = false := by kernel_rfl
theorem ty_k119 : tyk Tryz.prog 119 = some TyK.func := by kernel_rfl
theorem ty_s119 : shp Tryz.prog 119 = some (false, 1) := by kernel_rfl
theorem ty_z119 : zer Tryz.prog 119 = some [AV.nilFn] := by kernel_rfl
theorem ty_b119 : isBld Tryz.prog 119 = false := by kernel_rfl
theorem ty_k120 : tyk Tryz.prog 120 = some TyK.func := by kernel_rfl
theorem ty_s120 : shp Tryz.prog 120 = some (false, 1) := by kernel_rfl
theorem ty_z120 : zer Tryz.prog 120 = some [AV.nilFn] := by kernel_rfl
theorem ty_b120 : isBld Tryz.prog 120 = false := by kernel_rfl
theorem ty_k121 : tyk Tryz.prog 121 = some (TyK.ptr 3) := by kernel_rfl
theorem ty_s121 : shp Tryz.prog 121 = some (false, 1) := by kernel_rfl
theorem ty_z121 : zer Tryz.prog 121 = some [AV.nilPtr] := by kernel_rfl
theorem ty_b121 : isBld Tryz.prog 121 = false := by kernel_rfl
theorem ty_k122 : tyk Tryz.prog 122 = some TyK.func := by kernel_rfl
theorem ty_s122 : shp Tryz.prog 122 = some (false, 1) := by kernel_rfl
theorem ty_z122 : zer Tryz.prog 122 = some [AV.nilFn] := by kernel_rfl
theorem ty_b122 : isBld Tryz.prog 122 = false := by kernel_rfl
theorem ty_k123 : tyk Tryz.prog 123 = some (TyK.int .i64) := by kernel_rfl
theorem ty_s123 : shp Tryz.prog 123 = some (false, 1) := by kernel_rfl
theorem ty_z123 : zer Tryz.prog 123 = some [(AV.int .i64 0)] := by kernel_rfl
theorem ty_b123 : isBld Tryz.prog 123 = false := by kernel_rfl
theorem ty_f123 : flatT Tryz.prog 10 123 = some [(TyS.si .i64)] := by kernel_rfl
theorem ty_g123 : Tryz.prog.eqGuardType Tryz.prog.depth 123 = false := by kernel_rfl
theorem ty_k124 : tyk Tryz.prog 124 = some TyK.other := by kernel_rfl
theorem ty_s124 : shp Tryz.prog 124 = some (false, 1) := by kernel_rfl
theorem ty_z124 : zer Tryz.prog 124 = some [(AV.tuple [(AV.int .i64 0), AV.nilIface])] := by kernel_rfl
theorem ty_b124 : isBld Tryz.prog 124 = false := by kernel_rfl
theorem ty_k125 : tyk Tryz.prog 125 = some TyK.func := by kernel_rfl
theorem ty_s125 : shp Tryz.prog 125 = some (false, 1) := by kernel_rfl
theorem ty_z125 : zer Tryz.prog 125 = some [AV.nilFn] := by kernel_rfl
theorem ty_b125 : isBld Tryz.prog 125 = false := by kernel_rfl
theorem ty_k126 : tyk Tryz.prog 126 = some (TyK.ptr 145) := by kernel_rfl
theorem ty_s126 : shp Tryz.prog 126 = some (false, 1) := by kernel_rfl
theorem ty_z126 : zer Tryz.prog 126 = some [AV.nilPtr] := by kernel_rfl
theorem ty_b126 : isBld Tryz.prog 126 = false := by kernel_rfl
theorem ty_k127 : tyk Tryz.prog 127 = some TyK.func := by kernel_rfl
theorem ty_s127 : shp Tryz.prog 127 = some (false, 1) := by kernel_rfl
theorem ty_z127 : zer Tryz.prog 127 = some [AV.nilFn] := by kernel_rfl
theorem ty_b127 : isBld Tryz.prog 127 = false := by kernel_rfl
theorem ty_k128 : tyk Tryz.prog 128 = some TyK.func := by kernel_rfl
theorem ty_s128 : shp Tryz.prog 128 = some (false, 1) := by kernel_rfl
theorem ty_z128 : zer Tryz.prog 128 = some [AV.nilFn] := by kernel_rfl
theorem ty_b128 : isBld Tryz.prog 128 = false := by kernel_rfl
theorem ty_k129 : tyk Tryz.prog 129 = some TyK.other := by kernel_rfl
theorem ty_s129 : shp Tryz.prog 129 = some (false, 1) := by kernel_rfl
theorem ty_z129 : zer Tryz.prog 129 = some [(AV.tuple [(AV.int .i32 0), (AV.int .i64 0)])] := by kernel_rfl
theorem ty_b129 : isBld Tryz.prog 129 = false := by kernel_rfl
theorem ty_k130 : tyk Tryz.prog 130 = some TyK.func := by kernel_rfl
theorem ty_s130 : shp Tryz.prog 130 = some (false, 1) := by kernel_rfl
theorem ty_z130 : zer Tryz.prog 130 = some [AV.nilFn] := by kernel_rfl
theorem ty_b130 : isBld Tryz.prog 130 = false := by kernel_rfl
theorem ty_k131 : tyk Tryz.prog 131 = some TyK.func := by kernel_rfl
theorem ty_s131 : shp Tryz.prog 131 = some (false, 1) := by kernel_rfl
theorem ty_z131 : zer Tryz.prog 131 = some [AV.nilFn] := by kernel_rfl
theorem ty_b131 : isBld Tryz.prog 131 = false := by kernel_rfl
theorem ty_k132 : tyk Tryz.prog 132 = some TyK.func := by kernel_rfl
theorem ty_s132 : shp Tryz.prog 132 = some (false, 1) := by kernel_rfl
theorem ty_z132 : zer Tryz.prog 132 = some [AV.nilFn] := by kernel_rfl
theorem ty_b132 : isBld Tryz.prog 132 = false := by kernel_rfl
theorem ty_k133 : tyk Tryz.prog 133 = some TyK.func := by kernel_rfl
theorem ty_s133 : shp Tryz.prog 133 = some (false, 1) := by kernel_rfl
theorem ty_z133 : zer Tryz.prog 133 = some [AV.nilFn] := by kernel_rfl
theorem ty_b133 : isBld Tryz.prog 133 = false := by kernel_rfl
theorem ty_k134 : tyk Tryz.prog 134 = some (TyK.arr 20 99 false 1) := by kernel_rfl
theorem ty_s134 : shp Tryz.prog 134 = some (true, 20) := by kernel_rfl
theorem ty_z134 : zer Tryz.prog 134 = some [(AV.int .u64 0), (AV.int .u64 0), (AV.int .u64 0), (AV.int .u64 0), (AV.int .u64 0), (AV.int .u64 0), (AV.int .u64 0), (AV.int .u64 0), (AV.int .u64 0), (AV.int .u64 0), (AV.int .u64 0), (AV.int .u64 0), (AV.int .u64 0), (AV.int .u64 0), (AV.int .u64 0), (AV.int .u64 0), (AV.int .u64 0), (AV.int .u64 0), (AV.int .u64 0), (AV.int .u64 0)] := by kernel_rfl
theorem ty_b134 : isBld Tryz.prog 134 = false := by kernel_rfl
theorem ty_k135 : tyk Tryz.prog 135 = some (TyK.arr 65 5 false 1) := by kernel_rfl
theorem ty_s135 : shp Tryz.prog 135 = some (true, 65) := by kernel_rfl
theorem ty_b135 : isBld Tryz.prog 135 = false := by kernel_rfl
theorem ty_k136 : tyk Tryz.prog 136 = some TyK.func := by kernel_rfl
theorem ty_s136 : shp Tryz.prog 136 = some (false, 1) := by kernel_rfl
theorem ty_z136 : zer Tryz.prog 136 = some [AV.nilFn] := by kernel_rfl
theorem ty_b136 : isBld Tryz.prog 136 = false := by kernel_rfl
theorem ty_k137 : tyk Tryz.prog 137 = some TyK.other := by kernel_rfl
theorem ty_s137 : shp Tryz.prog 137 = some (false, 1) := by kernel_rfl
theorem ty_z137 : zer Tryz.prog 137 = some [(AV.tuple [(AV.int .u32 0), (AV.int .u32 0)])] := by kernel_rfl
theorem ty_b137 : isBld Tryz.prog 137 = false := by kernel_rfl
theorem ty_k138 : tyk Tryz.prog 138 = some TyK.func := by kernel_rfl
theorem ty_s138 : shp Tryz.prog 138 = some (false, 1) := by kernel_rfl
theorem ty_z138 : zer Tryz.prog 138 = some [AV.nilFn] := by kernel_rfl
theorem ty_b138 : isBld Tryz.prog 138 = false := by kernel_rfl
theorem ty_k139 : tyk Tryz.prog 139 = some (TyK.ptr 117) := by kernel_rfl
theorem ty_s139 : shp Tryz.prog 139 = some (false, 1) := by kernel_rfl
theorem ty_z139 : zer Tryz.prog 139 = some [AV.nilPtr] := by kernel_rfl
theorem ty_b139 : isBld Tryz.prog 139 = false := by kernel_rfl
theorem ty_k140 : tyk Tryz.prog 140 = some TyK.other := by kernel_rfl
theorem ty_s140 : shp Tryz.prog 140 = some (false, 1) := by kernel_rfl
theorem ty_z140 : zer Tryz.prog 140 = some [(AV.tuple [(AV.int .i64 0), (AV.int .i64 0)])] := by kernel_rfl
theorem ty_b140 : isBld Tryz.prog 140 = false := by kernel_rfl
theorem ty_k141 : tyk Tryz.prog 141 = some TyK.func := by kernel_rfl
theorem ty_s141 : shp Tryz.prog 141 = some (false, 1) := by kernel_rfl
theorem ty_z141 : zer Tryz.prog 141 = some [AV.nilFn] := by kernel_rfl
theorem ty_b141 : isBld Tryz.prog 141 = false := by kernel_rfl
theorem ty_k142 : tyk Tryz.prog 142 = some TyK.other := by kernel_rfl
theorem ty_s142 : shp Tryz.prog 142 = some (false, 1) := by kernel_rfl
theorem ty_z142 : zer Tryz.prog 142 = some [(AV.tuple [(AV.int .u64 0), AV.nilIface])] := by kernel_rfl
theorem ty_b142 : isBld Tryz.prog 142 = false := by kernel_rfl
theorem ty_k143 : tyk Tryz.prog 143 = some TyK.func := by kernel_rfl
theorem ty_s143 : shp Tryz.prog 143 = some (false, 1) := by kernel_rfl
theorem ty_z143 : zer Tryz.prog 143 = some [AV.nilFn] := by kernel_rfl
theorem ty_b143 : isBld Tryz.prog 143 = false := by kernel_rfl
theorem ty_k144 : tyk Tryz.prog 144 = some (TyK.struct [(0, (false, 1)), (1, (false, 1)), (2, (false, 1))]) := by kernel_rfl
theorem ty_s144 : shp Tryz.prog 144 = some (true, 3) := by kernel_rfl
theorem ty_z144 : zer Tryz.prog 144 = some [(AV.str []), (AV.str []), AV.nilIface] := by kernel_rfl
theorem ty_b144 : isBld Tryz.prog 144 = false := by kernel_rfl
theorem ty_d144_0 : fldOf Tryz.prog 144 0 = some (0, false, 1) := by kernel_rfl
theorem ty_d144_1 : fldOf Tryz.prog 144 1 = some (1, false, 1) := by kernel_rfl
theorem ty_d144_2 : fldOf Tryz.prog 144 2 = some (2, false, 1) := by kernel_rfl
theorem ty_k145 : tyk Tryz.prog 145 = some (TyK.struct [(0, (false, 1)), (1, (false, 1)), (2, (false, 1))]) := by kernel_rfl
theorem ty_s145 : shp Tryz.prog 145 = some (true, 3) := by kernel_rfl
theorem ty_z145 : zer Tryz.prog 145 = some [(AV.str []), (AV.str []), AV.nilIface] := by kernel_rfl
theorem ty_b145 : isBld Tryz.prog 145 = false := by kernel_rfl
theorem ty_d145_0 : fldOf Tryz.prog 145 0 = some (0, false, 1) := by kernel_rfl
theorem ty_d145_1 : fldOf Tryz.prog 145 1 = some (1, false, 1) := by kernel_rfl
theorem ty_d145_2 : fldOf Tryz.prog 145 2 = some (2, false, 1) := by kernel_rfl
theorem ty_k146 : tyk Tryz.prog 146 = some TyK.func := by kernel_rfl
theorem ty_s146 : shp Tryz.prog 146 = some (false, 1) := by kernel_rfl
theorem ty_z146 : zer Tryz.prog 146 = some [AV.nilFn] := by kernel_rfl
theorem ty_b146 : isBld Tryz.prog 146 = false := by kernel_rfl
theorem ty_k147 : tyk Tryz.prog 147 = some TyK.func := by kernel_rfl
theorem ty_s147 : shp Tryz.prog 147 = some (false, 1) := by kernel_rfl
theorem ty_z147 : zer Tryz.prog 147 = some [AV.nilFn] := by kernel_rfl
theorem ty_b147 : isBld Tryz.prog 147 = false := by kernel_rfl
theorem ty_k148 : tyk Tryz.prog 148 = some TyK.func := by kernel_rfl
theorem ty_s148 : shp Tryz.prog 148 = some (false, 1) := by kernel_rfl
theorem ty_z148 : zer Tryz.prog 148 = some [AV.nilFn] := by kernel_rfl
theorem ty_b148 : isBld Tryz.prog 148 = false := by kernel_rfl
theorem ty_k149 : tyk Tryz.prog 149 = some (TyK.ptr 151) := by kernel_rfl
theorem ty_s149 : shp Tryz.prog 149 = some (false, 1) := by kernel_rfl
theorem ty_z149 : zer Tryz.prog 149 = some [AV.nilPtr] := by kernel_rfl
theorem ty_b149 : isBld Tryz.prog 149 = false := by kernel_rfl
theorem ty_k150 : tyk Tryz.prog 150 = some (TyK.struct [(0, (false, 1))]) := by kernel_rfl
theorem ty_s150 : shp Tryz.prog 150 = some (true, 1) := by kernel_rfl
theorem ty_z150 : zer Tryz.prog 150 = some [(AV.str [])] := by kernel_rfl
theorem ty_b150 : isBld Tryz.prog 150 = false := by kernel_rfl
theorem ty_f150 : flatT Tryz.prog 10 150 = some [TyS.ss] := by kernel_rfl
theorem ty_g150 : Tryz.prog.eqGuardType Tryz.prog.depth 150 = false := by kernel_rfl
theorem ty_d150_0 : fldOf Tryz.prog 150 0 = some (0, false, 1) := by kernel_rfl
theorem ty_k151 : tyk Tryz.prog 151 = some (TyK.struct [(0, (false, 1))]) := by kernel_rfl
theorem ty_s151 : shp Tryz.prog 151 = some (true, 1) := by kernel_rfl
theorem ty_z151 : zer Tryz.prog 151 = some [(AV.str [])] := by kernel_rfl
theorem ty_b151 : isBld Tryz.prog 151 = false := by kernel_rfl
theorem ty_f151 : flatT Tryz.prog 10 151 = some [TyS.ss] := by kernel_rfl
theorem ty_g151 : Tryz.prog.eqGuardType Tryz.prog.depth 151 = false := by kernel_rfl
theorem ty_d151_0 : fldOf Tryz.prog 151 0 = some (0, false, 1) := by kernel_rfl
theorem ty_k152 : tyk Tryz.prog 152 = some (TyK.arr 256 5 false 1) := by kernel_rfl
theorem ty_s152 : shp Tryz.prog 152 = some (true, 256) := by kernel_rfl
theorem ty_b152 : isBld Tryz.prog 152 = false := by kernel_rfl
theorem ty_k153 : tyk Tryz.prog 153 = some (TyK.struct [(0, (false, 1)), (1, (false, 1))]) := by kernel_rfl
theorem ty_s153 : shp Tryz.prog 153 = some (true, 2) := by kernel_rfl
theorem ty_z153 : zer Tryz.prog 153 = some [(AV.int .u8 0), (AV.int .u8 0)] := by kernel_rfl
theorem ty_b153 : isBld Tryz.prog 153 = false := by kernel_rfl
theorem ty_f153 : flatT Tryz.prog 10 153 = some [(TyS.si .u8), (TyS.si .u8)] := by kernel_rfl
theorem ty_g153 : Tryz.prog.eqGuardType Tryz.prog.depth 153 = false := by kernel_rfl
theorem ty_d153_0 : fldOf Tryz.prog 153 0 = some (0, false, 1) := by kernel_rfl
theorem ty_d153_1 : fldOf Tryz.prog 153 1 = some (1, false, 1) := by kernel_rfl
theorem ty_k154 : tyk Tryz.prog 154 = some (TyK.struct [(0, (false, 1)), (1, (false, 1))]) := by kernel_rfl
theorem ty_s154 : shp Tryz.prog 154 = some (true, 2) := by kernel_rfl
theorem ty_z154 : zer Tryz.prog 154 = some [(AV.int .u8 0), (AV.int .u8 0)] := by kernel_rfl
theorem ty_b154 : isBld Tryz.prog 154 = false := by kernel_rfl
theorem ty_f154 : flatT Tryz.prog 10 154 = some [(TyS.si .u8), (TyS.si .u8)] := by kernel_rfl
theorem ty_g154 : Tryz.prog.eqGuardType Tryz.prog.depth 154 = false := by kernel_rfl
theorem ty_d154_0 : fldOf Tryz.prog 154 0 = some (0, false, 1) := by kernel_rfl
theorem ty_d154_1 : fldOf Tryz.prog 154 1 = some (1, false, 1) := by kernel_rfl
theorem ty_k155 : tyk Tryz.prog 155 = some (TyK.arr 16 154 true 2) := by kernel_rfl
theorem ty_s155 : shp Tryz.prog 155 = some (true, 32) := by kernel_rfl
theorem ty_z155 : zer Tryz.prog 155 = some [(AV.int .u8 0), (AV.int .u8 0), (AV.int .u8 0), (AV.int .u8 0), (AV.int .u8 0), (AV.int .u8 0), (AV.int .u8 0), (AV.int .u8 0), (AV.int .u8 0), (AV.int .u8 0), (AV.int .u8 0), (AV.int .u8 0), (AV.int .u8 0), (AV.int .u8 0), (AV.int .u8 0), (AV.int .u8 0), (AV.int .u8 0), (AV.int .u8 0), (AV.int .u8 0), (AV.int .u8 0), (AV.int .u8 0), (AV.int .u8 0), (AV.int .u8 0), (AV.int .u8 0), (AV.int .u8 0), (AV.int .u8 0), (AV.int .u8 0), (AV.int .u8 0), (AV.int .u8 0), (AV.int .u8 0), (AV.int .u8 0), (AV.int .u8 0)] := by kernel_rfl
theorem ty_b155 : isBld Tryz.prog 155 = false := by kernel_rfl
theorem ty_k156 : tyk Tryz.prog 156 = some TyK.func := by kernel_rfl
theorem ty_s156 : shp Tryz.prog 156 = some (false, 1) := by kernel_rfl
theorem ty_z156 : zer Tryz.prog 156 = some [AV.nilFn] := by kernel_rfl
theorem ty_b156 : isBld Tryz.prog 156 = false := by kernel_rfl
theorem ty_k157 : tyk Tryz.prog 157 = some (TyK.arr 32 5 false 1) := by kernel_rfl
theorem ty_s157 : shp Tryz.prog 157 = some (true, 32) := by kernel_rfl
theorem ty_z157 : zer Tryz.prog 157 = some [(AV.int .u8 0), (AV.int .u8 0), (AV.int .u8 0), (AV.int .u8 0), (AV.int .u8 0), (AV.int .u8 0), (AV.int .u8 0), (AV.int .u8 0), (AV.int .u8 0), (AV.int .u8 0), (AV.int .u8 0), (AV.int .u8 0), (AV.int .u8 0), (AV.int .u8 0), (AV.int .u8 0), (AV.int .u8 0), (AV.int .u8 0), (AV.int .u8 0), (AV.int .u8 0), (AV.int .u8 0), (AV.int .u8 0), (AV.int .u8 0), (AV.int .u8 0), (AV.int .u8 0), (AV.int .u8 0), (AV.int .u8 0), (AV.int .u8 0), (AV.int .u8 0), (AV.int .u8 0), (AV.int .u8 0), (AV.int .u8 0), (AV.int .u8 0)] := by kernel_rfl
theorem ty_b157 : isBld Tryz.prog 157 = false := by kernel_rfl
theorem ty_k158 : tyk Tryz.prog 158 = some (TyK.arr 64 5 false 1) := by kernel_rfl
theorem ty_s158 : shp Tryz.prog 158 = some (true, 64) := by kernel_rfl
theorem ty_b158 : isBld Tryz.prog 158 = false := by kernel_rfl
theorem ty_k159 : tyk Tryz.prog 159 = some (TyK.struct [(0, (false, 1)), (1, (false, 1)), (2, (false, 1)), (3, (false, 1))]) := by kernel_rfl
theorem ty_s159 : shp Tryz.prog 159 = some (true, 4) := by kernel_rfl
theorem ty_z159 : zer Tryz.prog 159 = some [AV.nilPtr, AV.nilPtr, AV.nilPtr, (AV.str [])] := by kernel_rfl
theorem ty_b159 : isBld Tryz.prog 159 = false := by kernel_rfl
theorem ty_d159_0 : fldOf Tryz.prog 159 0 = some (0, false, 1) := by kernel_rfl
theorem ty_d159_1 : fldOf Tryz.prog 159 1 = some (1, false, 1) := by kernel_rfl
theorem ty_d159_2 : fldOf Tryz.prog 159 2 = some (2, false, 1) := by kernel_rfl
theorem ty_d159_3 : fldOf Tryz.prog 159 3 = some (3, false, 1) := by kernel_rfl
theorem ty_k160 : tyk Tryz.prog 160 = some (TyK.struct [(0, (false, 1)), (1, (false, 1)), (2, (false, 1)), (3, (false, 1))]) := by kernel_rfl
theorem ty_s160 : shp Tryz.prog 160 = some (true, 4) := by kernel_rfl
theorem ty_z160 : zer Tryz.prog 160 = some [AV.nilPtr, AV.nilPtr, AV.nilPtr, (AV.str [])] := by kernel_rfl
theorem ty_b160 : isBld Tryz.prog 160 = false := by kernel_rfl
theorem ty_d160_0 : fldOf Tryz.prog 160 0 = some (0, false, 1) := by kernel_rfl
theorem ty_d160_1 : fldOf Tryz.prog 160 1 = some (1, false, 1) := by kernel_rfl
theorem ty_d160_2 : fldOf Tryz.prog 160 2 = some (2, false, 1) := by kernel_rfl
theorem ty_d160_3 : fldOf Tryz.prog 160 3 = some (3, false, 1) := by kernel_rfl
theorem ty_k161 : tyk Tryz.prog 161 = some (TyK.arr 0 16 false 1) := by kernel_rfl
theorem ty_s161 : shp Tryz.prog 161 = some (true, 0) := by kernel_rfl
theorem ty_z161 : zer Tryz.prog 161 = some [] := by kernel_rfl
theorem ty_b161 : isBld Tryz.prog 161 = false := by kernel_rfl
theorem ty_k162 : tyk Tryz.prog 162 = some (TyK.struct [(0, (true, 0))]) := by kernel_rfl
theorem ty_s162 : shp Tryz.prog 162 = some (true, 0) := by kernel_rfl
theorem ty_z162 : zer Tryz.prog 162 = some [] := by kernel_rfl
theorem ty_b162 : isBld Tryz.prog 162 = false := by kernel_rfl
theorem ty_d162_0 : fldOf Tryz.prog 162 0 = some (0, true, 0) := by kernel_rfl
theorem ty_k163 : tyk Tryz.prog 163 = some (TyK.struct [(0, (true, 0))]) := by kernel_rfl
theorem ty_s163 : shp Tryz.prog 163 = some (true, 0) := by kernel_rfl
theorem ty_z163 : zer Tryz.prog 163 = some [] := by kernel_rfl
theorem ty_b163 : isBld Tryz.prog 163 = false := by kernel_rfl
theorem ty_d163_0 : fldOf Tryz.prog 163 0 = some (0, true, 0) := by kernel_rfl
theorem ty_k164 : tyk Tryz.prog 164 = some TyK.func := by kernel_rfl
theorem ty_s164 : shp Tryz.prog 164 = some (false, 1) := by kernel_rfl
theorem ty_z164 : zer Tryz.prog 164 = some [AV.nilFn] := by kernel_rfl
theorem ty_b164 : isBld Tryz.prog 164 = false := by kernel_rfl
theorem ty_k165 : tyk Tryz.prog 165 = some (TyK.int .u8) := by kernel_rfl
theorem ty_s165 : shp Tryz.prog 165 = some (false, 1) := by kernel_rfl
theorem ty_z165 : zer Tryz.prog 165 = some [(AV.int .u8 0)] := by kernel_rfl
theorem ty_b165 : isBld Tryz.prog 165 = false := by kernel_rfl
theorem ty_f165 : flatT Tryz.prog 10 165 = some [(TyS.si .u8)] := by kernel_rfl
theorem ty_g165 : Tryz.prog.eqGuardType Tryz.prog.depth 165 = false := by kernel_rfl
theorem ty_k166 : tyk Tryz.prog 166 = some (TyK.int .u8) := by kernel_rfl
theorem ty_s166 : shp Tryz.prog 166 = some (false, 1) := by kernel_rfl
theorem ty_z166 : zer Tryz.prog 166 = some [(AV.int .u8 0)] := by kernel_rfl
theorem ty_b166 : isBld Tryz.prog 166 = false := by kernel_rfl
theorem ty_f166 : flatT Tryz.prog 10 166 = some [(TyS.si .u8)] := by kernel_rfl
theorem ty_g166 : Tryz.prog.eqGuardType Tryz.prog.depth 166 = false := by kernel_rfl
theorem ty_k167 : tyk Tryz.prog 167 = some TyK.func := by kernel_rfl
theorem ty_s167 : shp Tryz.prog 167 = some (false, 1) := by kernel_rfl
theorem ty_z167 : zer Tryz.prog 167 = some [AV.nilFn] := by kernel_rfl
theorem ty_b167 : isBld Tryz.prog 167 = false := by kernel_rfl
theorem ty_k168 : tyk Tryz.prog 168 = some (TyK.int .i32) := by kernel_rfl
theorem ty_s168 : shp Tryz.prog 168 = some (false, 1) := by kernel_rfl
theorem ty_z168 : zer Tryz.prog 168 = some [(AV.int .i32 0)] := by kernel_rfl
theorem ty_b168 : isBld Tryz.prog 168 = false := by kernel_rfl
theorem ty_f168 : flatT Tryz.prog 10 168 = some [(TyS.si .i32)] := by kernel_rfl
theorem ty_g168 : Tryz.prog.eqGuardType Tryz.prog.depth 168 = false := by kernel_rfl
theorem ty_k169 : tyk Tryz.prog 169 = some (TyK.int .i32) := by kernel_rfl
theorem ty_s169 : shp Tryz.prog 169 = some (false, 1) := by kernel_rfl
theorem ty_z169 : zer Tryz.prog 169 = some [(AV.int .i32 0)] := by kernel_rfl
theorem ty_b169 : isBld Tryz.prog 169 = false := by kernel_rfl
theorem ty_f169 : flatT Tryz.prog 10 169 = some [(TyS.si .i32)] := by kernel_rfl
theorem ty_g169 : Tryz.prog.eqGuardType Tryz.prog.depth 169 = false := by kernel_rfl
theorem ty_k170 : tyk Tryz.prog 170 = some (TyK.struct [(0, (false, 1)), (1, (false, 1)), (2, (false, 1)), (3, (false, 1)), (4, (false, 1)), (5, (false, 1)), (6, (false, 1)), (7, (false, 1)), (8, (false, 1)), (9, (false, 1)), (10, (false, 1))]) := by kernel_rfl
theorem ty_s170 : shp Tryz.prog 170 = some (true, 11) := by kernel_rfl
theorem ty_z170 : zer Tryz.prog 170 = some [(AV.int .u64 0), (AV.int .u64 0), (AV.int .u32 0), (AV.int .u8 0), (AV.int .u8 0), (AV.int .u8 0), (AV.int .u8 0), AV.nilFn, AV.nilPtr, (AV.int .i32 0), (AV.int .i32 0)] := by kernel_rfl
theorem ty_b170 : isBld Tryz.prog 170 = false := by kernel_rfl
theorem ty_d170_0 : fldOf Tryz.prog 170 0 = some (0, false, 1) := by kernel_rfl
theorem ty_d170_1 : fldOf Tryz.prog 170 1 = some (1, false, 1) := by kernel_rfl
theorem ty_d170_2 : fldOf Tryz.prog 170 2 = some (2, false, 1) := by kernel_rfl
theorem ty_d170_3 : fldOf Tryz.prog 170 3 = some (3, false, 1) := by kernel_rfl
theorem ty_d170_4 : fldOf Tryz.prog 170 4 = some (4, false, 1) := by kernel_rfl
theorem ty_d170_5 : fldOf Tryz.prog 170 5 = some (5, false, 1) := by kernel_rfl
theorem ty_d170_6 : fldOf Tryz.prog 170 6 = some (6, false, 1) := by kernel_rfl
theorem ty_d170_7 : fldOf Tryz.prog 170 7 = some (7, false, 1) := by kernel_rfl
theorem ty_d170_8 : fldOf Tryz.prog 170 8 = some (8, false, 1) := by kernel_rfl
theorem ty_d170_9 : fldOf Tryz.prog 170 9 = some (9, false, 1) := by kernel_rfl
theorem ty_d170_10 : fldOf Tryz.prog 170 10 = some (10, false, 1) := by kernel_rfl
theorem ty_k171 : tyk Tryz.prog 171 = some (TyK.struct [(0, (false, 1)), (1, (false, 1)), (2, (false, 1)), (3, (false, 1)), (4, (false, 1)), (5, (false, 1)), (6, (false, 1)), (7, (false, 1)), (8, (false, 1)), (9, (false, 1)), (10, (false, 1))]) := by kernel_rfl
theorem ty_s171 : shp Tryz.prog 171 = some (true, 11) := by kernel_rfl
theorem ty_z171 : zer Tryz.prog 171 = some [(AV.int .u64 0), (AV.int .u64 0), (AV.int .u32 0), (AV.int .u8 0), (AV.int .u8 0), (AV.int .u8 0), (AV.int .u8 0), AV.nilFn, AV.nilPtr, (AV.int .i32 0), (AV.int .i32 0)] := by kernel_rfl
theorem ty_b171 : isBld Tryz.prog 171 = false := by kernel_rfl
theorem ty_d171_0 : fldOf Tryz.prog 171 0 = some (0, false, 1) := by kernel_rfl
theorem ty_d171_1 : fldOf Tryz.prog 171 1 = some (1, false, 1) := by kernel_rfl
theorem ty_d171_2 : fldOf Tryz.prog 171 2 = some (2, false, 1) := by kernel_rfl
theorem ty_d171_3 : fldOf Tryz.prog 171 3 = some (3, false, 1) := by kernel_rfl
theorem ty_d171_4 : fldOf Tryz.prog 171 4 = some (4, false, 1) := by kernel_rfl
theorem ty_d171_5 : fldOf Tryz.prog 171 5 = some (5, false, 1) := by kernel_rfl
theorem ty_d171_6 : fldOf Tryz.prog 171 6 = some (6, false, 1) := by kernel_rfl
theorem ty_d171_7 : fldOf Tryz.prog 171 7 = some (7, false, 1) := by kernel_rfl
theorem ty_d171_8 : fldOf Tryz.prog 171 8 = some (8, false, 1) := by kernel_rfl
theorem ty_d171_9 : fldOf Tryz.prog 171 9 = some (9, false, 1) := by kernel_rfl
theorem ty_d171_10 : fldOf Tryz.prog 171 10 = some (10, false, 1) := by kernel_rfl
attribute [go_sem] ty_k0 ty_s0 ty_z0 ty_b0 ty_k1 ty_s1 ty_z1 ty_b1 ty_k2 ty_s2 ty_z2 ty_b2 ty_f2 ty_g2 ty_k3 ty_s3 ty_z3 ty_b3 ty_f3 ty_g3 ty_k4 ty_s4 ty_z4 ty_b4 ty_f4 ty_g4 ty_k5 ty_s5 ty_z5 ty_b5 ty_f5 ty_g5 ty_k6 ty_s6 ty_z6 ty_b6 ty_f6 ty_g6 ty_k7 ty_s7
attribute [go_sem] ty_z7 ty_b7 ty_f7 ty_g7 ty_d7_0 ty_d7_1 ty_d7_2 ty_d7_3 ty_k8 ty_s8 ty_z8 ty_b8 ty_f8 ty_g8 ty_d8_0 ty_d8_1 ty_d8_2 ty_d8_3 ty_k9 ty_s9 ty_z9 ty_b9 ty_f9 ty_g9 ty_k10 ty_s10 ty_z10 ty_b10 ty_f10 ty_g10 ty_k11 ty_s11 ty_z11 ty_b11 ty_f11 ty_g11 ty_k12 ty_s12 ty_z12 ty_b12
attribute [go_sem] ty_f12 ty_g12 ty_k13 ty_s13 ty_z13 ty_b13 ty_d13_0 ty_d13_1 ty_k14 ty_s14 ty_z14 ty_b14 ty_d14_0 ty_d14_1 ty_k15 ty_s15 ty_z15 ty_b15 ty_k16 ty_s16 ty_z16 ty_b16 ty_k17 ty_s17 ty_z17 ty_b17 ty_k18 ty_s18 ty_z18 ty_b18 ty_d18_0 ty_k19 ty_s19 ty_z19 ty_b19 ty_d19_0 ty_k20 ty_s20 ty_z20 ty_b20
attribute [go_sem] ty_k21 ty_s21 ty_z21 ty_b21 ty_f21 ty_g21 ty_k22 ty_s22 ty_z22 ty_b22 ty_k23 ty_s23 ty_z23 ty_b23 ty_k24 ty_s24 ty_z24 ty_b24 ty_k25 ty_s25 ty_z25 ty_b25 ty_k26 ty_s26 ty_z26 ty_b26 ty_k27 ty_s27 ty_z27 ty_b27 ty_k28 ty_s28 ty_z28 ty_b28 ty_k29 ty_s29 ty_z29 ty_b29 ty_k30 ty_s30
attribute [go_sem] ty_z30 ty_b30 ty_k31 ty_s31 ty_z31 ty_b31 ty_f31 ty_g31 ty_d31_0 ty_d31_1 ty_d31_2 ty_k32 ty_s32 ty_z32 ty_b32 ty_f32 ty_g32 ty_d32_0 ty_d32_1 ty_d32_2 ty_k33 ty_s33 ty_z33 ty_b33 ty_k34 ty_s34 ty_z34 ty_b34 ty_k35 ty_s35 ty_z35 ty_b35 ty_k36 ty_s36 ty_z36 ty_b36 ty_k37 ty_s37 ty_z37 ty_b37
attribute [go_sem] ty_k38 ty_s38 ty_z38 ty_b38 ty_k39 ty_s39 ty_z39 ty_b39 ty_k40 ty_s40 ty_z40 ty_b40 ty_k41 ty_s41 ty_z41 ty_b41 ty_k42 ty_s42 ty_z42 ty_b42 ty_f42 ty_g42 ty_k43 ty_s43 ty_z43 ty_b43 ty_k44 ty_s44 ty_z44 ty_b44 ty_k45 ty_s45 ty_z45 ty_b45 ty_k46 ty_s46 ty_z46 ty_b46 ty_k47 ty_s47
attribute [go_sem] ty_z47 ty_b47 ty_k48 ty_s48 ty_z48 ty_b48 ty_m48 ty_h48 ty_k49 ty_s49 ty_z49 ty_b49 ty_k50 ty_s50 ty_z50 ty_b50 ty_k51 ty_s51 ty_z51 ty_b51 ty_k52 ty_s52 ty_z52 ty_b52 ty_k53 ty_s53 ty_z53 ty_b53 ty_k54 ty_s54 ty_z54 ty_b54 ty_k55 ty_s55 ty_z55 ty_b55 ty_k56 ty_s56 ty_z56 ty_b56
attribute [go_sem] ty_k57 ty_s57 ty_z57 ty_b57 ty_k58 ty_s58 ty_z58 ty_b58 ty_k59 ty_s59 ty_z59 ty_b59 ty_k60 ty_s60 ty_z60 ty_b60 ty_k61 ty_s61 ty_z61 ty_b61 ty_k62 ty_s62 ty_z62 ty_b62 ty_k63 ty_s63 ty_z63 ty_b63 ty_k64 ty_s64 ty_z64 ty_b64 ty_k65 ty_s65 ty_z65 ty_b65 ty_k66 ty_s66 ty_z66 ty_b66
attribute [go_sem] ty_d66_0 ty_d66_1 ty_k67 ty_s67 ty_z67 ty_b67 ty_d67_0 ty_d67_1 ty_k68 ty_s68 ty_z68 ty_b68 ty_k69 ty_s69 ty_z69 ty_b69 ty_k70 ty_s70 ty_z70 ty_b70 ty_k71 ty_s71 ty_z71 ty_b71 ty_k72 ty_s72 ty_z72 ty_b72 ty_k73 ty_s73 ty_z73 ty_b73 ty_k74 ty_s74 ty_z74 ty_b74 ty_k75 ty_s75 ty_b75 ty_k76
attribute [go_sem] ty_s76 ty_z76 ty_b76 ty_k77 ty_s77 ty_z77 ty_b77 ty_k78 ty_s78 ty_z78 ty_b78 ty_k79 ty_s79 ty_z79 ty_b79 ty_k80 ty_s80 ty_z80 ty_b80 ty_k81 ty_s81 ty_z81 ty_b81 ty_k82 ty_s82 ty_z82 ty_b82 ty_k83 ty_s83 ty_z83 ty_b83 ty_k84 ty_s84 ty_z84 ty_b84 ty_k85 ty_s85 ty_z85 ty_b85 ty_f85
attribute [go_sem] ty_g85 ty_k86 ty_s86 ty_z86 ty_b86 ty_k87 ty_s87 ty_z87 ty_b87 ty_k88 ty_s88 ty_z88 ty_b88 ty_k89 ty_s89 ty_z89 ty_b89 ty_k90 ty_s90 ty_z90 ty_b90 ty_f90 ty_g90 ty_k91 ty_s91 ty_z91 ty_b91 ty_k92 ty_s92 ty_z92 ty_b92 ty_k93 ty_s93 ty_z93 ty_b93 ty_k94 ty_s94 ty_z94 ty_b94 ty_k95
attribute [go_sem] ty_s95 ty_z95 ty_b95 ty_k96 ty_s96 ty_z96 ty_b96 ty_k97 ty_s97 ty_z97 ty_b97 ty_f97 ty_g97 ty_k98 ty_s98 ty_z98 ty_b98 ty_k99 ty_s99 ty_z99 ty_b99 ty_f99 ty_g99 ty_k100 ty_s100 ty_z100 ty_b100 ty_k101 ty_s101 ty_z101 ty_b101 ty_k102 ty_s102 ty_z102 ty_b102 ty_k103 ty_s103 ty_z103 ty_b103 ty_k104
attribute [go_sem] ty_s104 ty_z104 ty_b104 ty_k105 ty_s105 ty_b105 ty_k106 ty_s106 ty_b106 ty_k107 ty_s107 ty_z107 ty_b107 ty_k108 ty_s108 ty_z108 ty_b108 ty_k109 ty_s109 ty_z109 ty_b109 ty_k110 ty_s110 ty_z110 ty_b110 ty_k111 ty_s111 ty_z111 ty_b111 ty_k112 ty_s112 ty_z112 ty_b112 ty_k113 ty_s113 ty_z113 ty_b113 ty_k114 ty_s114 ty_z114
attribute [go_sem] ty_b114 ty_k115 ty_s115 ty_z115 ty_b115 ty_k116 ty_s116 ty_z116 ty_b116 ty_k117 ty_s117 ty_z117 ty_b117 ty_f117 ty_g117 ty_k118 ty_s118 ty_z118 ty_b118 ty_k119 ty_s119 ty_z119 ty_b119 ty_k120 ty_s120 ty_z120 ty_b120 ty_k121 ty_s121 ty_z121 ty_b121 ty_k122 ty_s122 ty_z122 ty_b122 ty_k123 ty_s123 ty_z123 ty_b123 ty_f123
attribute [go_sem] ty_g123 ty_k124 ty_s124 ty_z124 ty_b124 ty_k125 ty_s125 ty_z125 ty_b125 ty_k126 ty_s126 ty_z126 ty_b126 ty_k127 ty_s127 ty_z127 ty_b127 ty_k128 ty_s128 ty_z128 ty_b128 ty_k129 ty_s129 ty_z129 ty_b129 ty_k130 ty_s130 ty_z130 ty_b130 ty_k131 ty_s131 ty_z131 ty_b131 ty_k132 ty_s132 ty_z132 ty_b132 ty_k133 ty_s133 ty_z133
attribute [go_sem] ty_b133 ty_k134 ty_s134 ty_z134 ty_b134 ty_k135 ty_s135 ty_b135 ty_k136 ty_s136 ty_z136 ty_b136 ty_k137 ty_s137 ty_z137 ty_b137 ty_k138 ty_s138 ty_z138 ty_b138 ty_k139 ty_s139 ty_z139 ty_b139 ty_k140 ty_s140 ty_z140 ty_b140 ty_k141 ty_s141 ty_z141 ty_b141 ty_k142 ty_s142 ty_z142 ty_b142 ty_k143 ty_s143 ty_z143 ty_b143
attribute [go_sem] ty_k144 ty_s144 ty_z144 ty_b144 ty_d144_0 ty_d144_1 ty_d144_2 ty_k145 ty_s145 ty_z145 ty_b145 ty_d145_0 ty_d145_1 ty_d145_2 ty_k146 ty_s146 ty_z146 ty_b146 ty_k147 ty_s147 ty_z147 ty_b147 ty_k148 ty_s148 ty_z148 ty_b148 ty_k149 ty_s149 ty_z149 ty_b149 ty_k150 ty_s150 ty_z150 ty_b150 ty_f150 ty_g150 ty_d150_0 ty_k151 ty_s151 ty_z151
attribute [go_sem] ty_b151 ty_f151 ty_g151 ty_d151_0 ty_k152 ty_s152 ty_b152 ty_k153 ty_s153 ty_z153 ty_b153 ty_f153 ty_g153 ty_d153_0 ty_d153_1 ty_k154 ty_s154 ty_z154 ty_b154 ty_f154 ty_g154 ty_d154_0 ty_d154_1 ty_k155 ty_s155 ty_z155 ty_b155 ty_k156 ty_s156 ty_z156 ty_b156 ty_k157 ty_s157 ty_z157 ty_b157 ty_k158 ty_s158 ty_b158 ty_k159 ty_s159
attribute [go_sem] ty_z159 ty_b159 ty_d159_0 ty_d159_1 ty_d159_2 ty_d159_3 ty_k160 ty_s160 ty_z160 ty_b160 ty_d160_0 ty_d160_1 ty_d160_2 ty_d160_3 ty_k161 ty_s161 ty_z161 ty_b161 ty_k162 ty_s162 ty_z162 ty_b162 ty_d162_0 ty_k163 ty_s163 ty_z163 ty_b163 ty_d163_0 ty_k164 ty_s164 ty_z164 ty_b164 ty_k165 ty_s165 ty_z165 ty_b165 ty_f165 ty_g165 ty_k166 ty_s166
attribute [go_sem] ty_z166 ty_b166 ty_f166 ty_g166 ty_k167 ty_s167 ty_z167 ty_b167 ty_k168 ty_s168 ty_z168 ty_b168 ty_f168 ty_g168 ty_k169 ty_s169 ty_z169 ty_b169 ty_f169 ty_g169 ty_k170 ty_s170 ty_z170 ty_b170 ty_d170_0 ty_d170_1 ty_d170_2 ty_d170_3 ty_d170_4 ty_d170_5 ty_d170_6 ty_d170_7 ty_d170_8 ty_d170_9 ty_d170_10 ty_k171 ty_s171 ty_z171 ty_b171 ty_d171_0
attribute [go_sem] ty_d171_1 ty_d171_2 ty_d171_3 ty_d171_4 ty_d171_5 ty_d171_6 ty_d171_7 ty_d171_8 ty_d171_9 ty_d171_10
theorem mixed : Tryz.prog.follows .mixedOrders = true := by kernel_rfl
end Go.Proofs.YtiaiggbimlbkfaaGreatDoor
