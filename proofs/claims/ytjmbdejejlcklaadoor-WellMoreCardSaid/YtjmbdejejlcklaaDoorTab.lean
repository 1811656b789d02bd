-- own work: an evaluator of the program's code, and what it answers
import Derived.Test.YtjmbdejejlcklaaDoorEngC
import Derived.KernelRfl
import Derived.Test.YtjmbdejejlcklaaDoorProg
import Derived.Lib.LaidTab
import Derived.Lib.SmallJoins
-- Printed by this work's own program (engtab.py). Not trusted: Lean checks it.
set_option maxRecDepth 100000
set_option linter.unusedSimpArgs false
set_option linter.unusedVariables false
namespace Go.Eng
open Go Go.Proofs
theorem ty2 : tyOf Tryd.prog 2 = some { size := 1, bytes := 8, agg := false, zero := [V.c (C.v (Value.int IntKind.i64 0))], kind := K.int IntKind.i64 } := by kernel_rfl
theorem ty3 : tyOf Tryd.prog 3 = some { size := 1, bytes := 8, agg := false, zero := [V.c (C.v (Value.int IntKind.i64 0))], kind := K.int IntKind.i64 } := by kernel_rfl
theorem ty4 : tyOf Tryd.prog 4 = some { size := 1, bytes := 1, agg := false, zero := [V.c (C.v (Value.bool false))], kind := K.bool } := by kernel_rfl
theorem ty5 : tyOf Tryd.prog 5 = some { size := 1, bytes := 1, agg := false, zero := [V.c (C.v (Value.int IntKind.u8 0))], kind := K.int IntKind.u8 } := by kernel_rfl
theorem ty9 : tyOf Tryd.prog 9 = some { size := 1, bytes := 16, agg := false, zero := [V.c (C.v (Value.string ByteArray.empty))], kind := K.str } := by kernel_rfl
theorem ty22 : tyOf Tryd.prog 22 = some { size := 1, bytes := 24, agg := false, zero := [V.tip none []], kind := K.slice 9 } := by kernel_rfl
theorem ty23 : tyOf Tryd.prog 23 = some { size := 1, bytes := 24, agg := false, zero := [V.tip none []], kind := K.slice 63 } := by kernel_rfl
theorem ty25 : tyOf Tryd.prog 25 = some { size := 2, bytes := 48, agg := true, zero := [V.tip none [], V.tip none []], kind := K.struct [{ off := 0, size := 1, agg := false }, { off := 1, size := 1, agg := false }] } := by kernel_rfl
theorem ty26 : tyOf Tryd.prog 26 = some { size := 1, bytes := 24, agg := false, zero := [V.tip none []], kind := K.slice 65 } := by kernel_rfl
theorem ty27 : tyOf Tryd.prog 27 = some { size := 1, bytes := 24, agg := false, zero := [V.tip none []], kind := K.slice 29 } := by kernel_rfl
theorem ty29 : tyOf Tryd.prog 29 = some { size := 4, bytes := 56, agg := true, zero := [V.c (C.v (Value.int IntKind.i64 0)), V.c (C.v (Value.string ByteArray.empty)), V.c (C.v (Value.int IntKind.i64 0)), V.tip none []], kind := K.struct [{ off := 0, size := 1, agg := false }, { off := 1, size := 1, agg := false }, { off := 2, size := 1, agg := false }, { off := 3, size := 1, agg := false }] } := by kernel_rfl
theorem ty33 : tyOf Tryd.prog 33 = some { size := 1, bytes := 24, agg := false, zero := [V.tip none []], kind := K.slice 3 } := by kernel_rfl
theorem ty34 : tyOf Tryd.prog 34 = some { size := 1, bytes := 8, agg := false, zero := [V.c (C.v (Value.int IntKind.i64 0))], kind := K.int IntKind.i64 } := by kernel_rfl
theorem ty39 : tyOf Tryd.prog 39 = some { size := 3, bytes := 48, agg := true, zero := [V.c (C.v (Value.string ByteArray.empty)), V.tip none [], V.c (C.v (Value.int IntKind.i64 0))], kind := K.struct [{ off := 0, size := 1, agg := false }, { off := 1, size := 1, agg := false }, { off := 2, size := 1, agg := false }] } := by kernel_rfl
theorem ty43 : tyOf Tryd.prog 43 = some { size := 1, bytes := 24, agg := false, zero := [V.tip none []], kind := K.slice 45 } := by kernel_rfl
theorem ty45 : tyOf Tryd.prog 45 = some { size := 5, bytes := 72, agg := true, zero := [V.c (C.v (Value.string ByteArray.empty)), V.c (C.v (Value.int IntKind.i64 0)), V.c (C.v (Value.string ByteArray.empty)), V.c (C.v (Value.int IntKind.i64 0)), V.tip none []], kind := K.struct [{ off := 0, size := 1, agg := false }, { off := 1, size := 4, agg := true }] } := by kernel_rfl
theorem ty50 : tyOf Tryd.prog 50 = some { size := 1, bytes := 24, agg := false, zero := [V.tip none []], kind := K.slice 52 } := by kernel_rfl
theorem ty52 : tyOf Tryd.prog 52 = some { size := 5, bytes := 88, agg := true, zero := [V.c (C.v (Value.int IntKind.i64 0)), V.c (C.v (Value.string ByteArray.empty)), V.c (C.v (Value.string ByteArray.empty)), V.tip none [], V.tip none []], kind := K.struct [{ off := 0, size := 1, agg := false }, { off := 1, size := 1, agg := false }, { off := 2, size := 1, agg := false }, { off := 3, size := 1, agg := false }, { off := 4, size := 1, agg := false }] } := by kernel_rfl
theorem ty63 : tyOf Tryd.prog 63 = some { size := 3, bytes := 56, agg := true, zero := [V.c (C.v (Value.string ByteArray.empty)), V.tip none [], V.c (C.v (Value.string ByteArray.empty))], kind := K.struct [{ off := 0, size := 1, agg := false }, { off := 1, size := 1, agg := false }, { off := 2, size := 1, agg := false }] } := by kernel_rfl
theorem ty65 : tyOf Tryd.prog 65 = some { size := 2, bytes := 32, agg := true, zero := [V.c (C.v (Value.string ByteArray.empty)), V.c (C.v (Value.string ByteArray.empty))], kind := K.struct [{ off := 0, size := 1, agg := false }, { off := 1, size := 1, agg := false }] } := by kernel_rfl
theorem ty67 : tyOf Tryd.prog 67 = some { size := 1, bytes := 8, agg := false, zero := [V.c (C.v Value.nilFunc)], kind := K.other } := by kernel_rfl
theorem ty69 : tyOf Tryd.prog 69 = some { size := 4, bytes := 80, agg := true, zero := [V.tip none [], V.tip none [], V.c (C.v Value.nilFunc), V.tip none []], kind := K.struct [{ off := 0, size := 2, agg := true }, { off := 2, size := 1, agg := false }, { off := 3, size := 1, agg := false }] } := by kernel_rfl
theorem ty78 : tyOf Tryd.prog 78 = some { size := 1, bytes := 8, agg := false, zero := [V.c (C.v Value.nilFunc)], kind := K.other } := by kernel_rfl
theorem ty81 : tyOf Tryd.prog 81 = some { size := 1, bytes := 8, agg := false, zero := [V.c (C.v Value.nilFunc)], kind := K.other } := by kernel_rfl
theorem ty101 : tyOf Tryd.prog 101 = some { size := 1, bytes := 8, agg := false, zero := [V.c (C.v Value.nilFunc)], kind := K.other } := by kernel_rfl
theorem ty108 : tyOf Tryd.prog 108 = some { size := 9, bytes := 72, agg := true, zero := [V.c (C.v (Value.int IntKind.i64 0)), V.c (C.v (Value.int IntKind.i64 0)), V.c (C.v (Value.int IntKind.i64 0)), V.c (C.v (Value.int IntKind.i64 0)), V.c (C.v (Value.int IntKind.i64 0)), V.c (C.v (Value.int IntKind.i64 0)), V.c (C.v (Value.int IntKind.i64 0)), V.c (C.v (Value.int IntKind.i64 0)), V.c (C.v (Value.int IntKind.i64 0))], kind := K.arr 9 3 } := by kernel_rfl
theorem ty113 : tyOf Tryd.prog 113 = some { size := 1, bytes := 8, agg := false, zero := [V.c (C.v Value.nilFunc)], kind := K.other } := by kernel_rfl
attribute [go_sem] ty2 ty3 ty4 ty5 ty9 ty22 ty23 ty25 ty26 ty27 ty29 ty33 ty34 ty39 ty43 ty45 ty50 ty52 ty63 ty65 ty67 ty69 ty78 ty81 ty101 ty108 ty113
theorem fn3 : Tryd.prog.funcs[3]? = some Tryd.f3 := by kernel_rfl
theorem fn4 : Tryd.prog.funcs[4]? = some Tryd.f4 := by kernel_rfl
theorem fn5 : Tryd.prog.funcs[5]? = some Tryd.f5 := by kernel_rfl
theorem fn6 : Tryd.prog.funcs[6]? = some Tryd.f6 := by kernel_rfl
theorem fn7 : Tryd.prog.funcs[7]? = some Tryd.f7 := by kernel_rfl
theorem fn8 : Tryd.prog.funcs[8]? = some Tryd.f8 := by kernel_rfl
theorem fn9 : Tryd.prog.funcs[9]? = some Tryd.f9 := by kernel_rfl
theorem fn10 : Tryd.prog.funcs[10]? = some Tryd.f10 := by kernel_rfl
theorem fn11 : Tryd.prog.funcs[11]? = some Tryd.f11 := by kernel_rfl
theorem fn12 : Tryd.prog.funcs[12]? = some Tryd.f12 := by kernel_rfl
theorem fn13 : Tryd.prog.funcs[13]? = some Tryd.f13 := by kernel_rfl
theorem fn14 : Tryd.prog.funcs[14]? = some Tryd.f14 := by kernel_rfl
theorem fn15 : Tryd.prog.funcs[15]? = some Tryd.f15 := by kernel_rfl
theorem fn16 : Tryd.prog.funcs[16]? = some Tryd.f16 := by kernel_rfl
theorem fn17 : Tryd.prog.funcs[17]? = some Tryd.f17 := by kernel_rfl
theorem fn18 : Tryd.prog.funcs[18]? = some Tryd.f18 := by kernel_rfl
theorem fn19 : Tryd.prog.funcs[19]? = some Tryd.f19 := by kernel_rfl
theorem fn20 : Tryd.prog.funcs[20]? = some Tryd.f20 := by kernel_rfl
theorem fn21 : Tryd.prog.funcs[21]? = some Tryd.f21 := by kernel_rfl
theorem fn22 : Tryd.prog.funcs[22]? = some Tryd.f22 := by kernel_rfl
theorem fn23 : Tryd.prog.funcs[23]? = some Tryd.f23 := by kernel_rfl
theorem fn24 : Tryd.prog.funcs[24]? = some Tryd.f24 := by kernel_rfl
theorem fn25 : Tryd.prog.funcs[25]? = some Tryd.f25 := by kernel_rfl
theorem fn26 : Tryd.prog.funcs[26]? = some Tryd.f26 := by kernel_rfl
theorem fn27 : Tryd.prog.funcs[27]? = some Tryd.f27 := by kernel_rfl
theorem fn28 : Tryd.prog.funcs[28]? = some Tryd.f28 := by kernel_rfl
theorem fn29 : Tryd.prog.funcs[29]? = some Tryd.f29 := by kernel_rfl
theorem fn30 : Tryd.prog.funcs[30]? = some Tryd.f30 := by kernel_rfl
theorem fn31 : Tryd.prog.funcs[31]? = some Tryd.f31 := by kernel_rfl
theorem fn32 : Tryd.prog.funcs[32]? = some Tryd.f32 := by kernel_rfl
theorem fn33 : Tryd.prog.funcs[33]? = some Tryd.f33 := by kernel_rfl
theorem fn34 : Tryd.prog.funcs[34]? = some Tryd.f34 := by kernel_rfl
theorem fn35 : Tryd.prog.funcs[35]? = some Tryd.f35 := by kernel_rfl
theorem fn36 : Tryd.prog.funcs[36]? = some Tryd.f36 := by kernel_rfl
theorem fn37 : Tryd.prog.funcs[37]? = some Tryd.f37 := by kernel_rfl
theorem fn38 : Tryd.prog.funcs[38]? = some Tryd.f38 := by kernel_rfl
theorem fn39 : Tryd.prog.funcs[39]? = some Tryd.f39 := by kernel_rfl
theorem fn40 : Tryd.prog.funcs[40]? = some Tryd.f40 := by kernel_rfl
theorem fn41 : Tryd.prog.funcs[41]? = some Tryd.f41 := by kernel_rfl
theorem fn42 : Tryd.prog.funcs[42]? = some Tryd.f42 := by kernel_rfl
theorem fn43 : Tryd.prog.funcs[43]? = some Tryd.f43 := by kernel_rfl
theorem fn44 : Tryd.prog.funcs[44]? = some Tryd.f44 := by kernel_rfl
theorem fn45 : Tryd.prog.funcs[45]? = some Tryd.f45 := by kernel_rfl
theorem fn47 : Tryd.prog.funcs[47]? = some Tryd.f47 := by kernel_rfl
theorem fn48 : Tryd.prog.funcs[48]? = some Tryd.f48 := by kernel_rfl
theorem fn49 : Tryd.prog.funcs[49]? = some Tryd.f49 := by kernel_rfl
theorem fn50 : Tryd.prog.funcs[50]? = some Tryd.f50 := by kernel_rfl
theorem fn51 : Tryd.prog.funcs[51]? = some Tryd.f51 := by kernel_rfl
theorem fn52 : Tryd.prog.funcs[52]? = some Tryd.f52 := by kernel_rfl
theorem fn53 : Tryd.prog.funcs[53]? = some Tryd.f53 := by kernel_rfl
theorem fn54 : Tryd.prog.funcs[54]? = some Tryd.f54 := by kernel_rfl
theorem fn55 : Tryd.prog.funcs[55]? = some Tryd.f55 := by kernel_rfl
theorem fn56 : Tryd.prog.funcs[56]? = some Tryd.f56 := by kernel_rfl
theorem fn57 : Tryd.prog.funcs[57]? = some Tryd.f57 := by kernel_rfl
theorem fn58 : Tryd.prog.funcs[58]? = some Tryd.f58 := by kernel_rfl
theorem fn59 : Tryd.prog.funcs[59]? = some Tryd.f59 := by kernel_rfl
theorem fn60 : Tryd.prog.funcs[60]? = some Tryd.f60 := by kernel_rfl
theorem fn61 : Tryd.prog.funcs[61]? = some Tryd.f61 := by kernel_rfl
theorem fn62 : Tryd.prog.funcs[62]? = some Tryd.f62 := by kernel_rfl
theorem fn63 : Tryd.prog.funcs[63]? = some Tryd.f63 := by kernel_rfl
theorem fn64 : Tryd.prog.funcs[64]? = some Tryd.f64 := by kernel_rfl
theorem fn65 : Tryd.prog.funcs[65]? = some Tryd.f65 := by kernel_rfl
theorem fn66 : Tryd.prog.funcs[66]? = some Tryd.f66 := by kernel_rfl
theorem fn67 : Tryd.prog.funcs[67]? = some Tryd.f67 := by kernel_rfl
theorem fn68 : Tryd.prog.funcs[68]? = some Tryd.f68 := by kernel_rfl
theorem fn69 : Tryd.prog.funcs[69]? = some Tryd.f69 := by kernel_rfl
theorem fn70 : Tryd.prog.funcs[70]? = some Tryd.f70 := by kernel_rfl
theorem fn71 : Tryd.prog.funcs[71]? = some Tryd.f71 := by kernel_rfl
theorem fn72 : Tryd.prog.funcs[72]? = some Tryd.f72 := by kernel_rfl
theorem fn74 : Tryd.prog.funcs[74]? = some Tryd.f74 := by kernel_rfl
theorem fn75 : Tryd.prog.funcs[75]? = some Tryd.f75 := by kernel_rfl
theorem fn76 : Tryd.prog.funcs[76]? = some Tryd.f76 := by kernel_rfl
theorem fn77 : Tryd.prog.funcs[77]? = some Tryd.f77 := by kernel_rfl
theorem fn78 : Tryd.prog.funcs[78]? = some Tryd.f78 := by kernel_rfl
theorem fn82 : Tryd.prog.funcs[82]? = some Tryd.f82 := by kernel_rfl
theorem fn83 : Tryd.prog.funcs[83]? = some Tryd.f83 := by kernel_rfl
theorem fn84 : Tryd.prog.funcs[84]? = some Tryd.f84 := by kernel_rfl
theorem fn85 : Tryd.prog.funcs[85]? = some Tryd.f85 := by kernel_rfl
theorem fn86 : Tryd.prog.funcs[86]? = some Tryd.f86 := by kernel_rfl
theorem fn87 : Tryd.prog.funcs[87]? = some Tryd.f87 := by kernel_rfl
theorem fn88 : Tryd.prog.funcs[88]? = some Tryd.f88 := by kernel_rfl
theorem fn90 : Tryd.prog.funcs[90]? = some Tryd.f90 := by kernel_rfl
theorem fn95 : Tryd.prog.funcs[95]? = some Tryd.f95 := by kernel_rfl
theorem fn96 : Tryd.prog.funcs[96]? = some Tryd.f96 := by kernel_rfl
theorem fn97 : Tryd.prog.funcs[97]? = some Tryd.f97 := by kernel_rfl
def fnL : List Nat := [3, 4, 5, 6, 7, 8, 9, 10, 11, 12, 13, 14, 15, 16, 17, 18, 19, 20, 21, 22, 23, 24, 25, 26, 27, 28, 29, 30, 31, 32, 33, 34, 35, 36, 37, 38, 39, 40, 41, 42, 43, 44, 45, 47, 48, 49, 50, 51, 52, 53, 54, 55, 56, 57, 58, 59, 60, 61, 62, 63, 64, 65, 66, 67, 68, 69, 70, 71, 72, 74, 75, 76, 77, 78, 82, 83, 84, 85, 86, 87, 88, 90, 95, 96, 97]
def tkF (f t : Nat) : Bool := if f = 4 then t == 92 else if f = 28 then t == 44 else if f = 29 then t == 34 else if f = 34 then t == 42 else if f = 51 then t == 36 else if f = 62 then t == 22 else false
def taF (f t : Nat) : Bool := false
def lcF (f t : Nat) : Bool := false
def frzF (f t : Nat) : Bool := if f = 3 then t == 4 || t == 7 else if f = 4 then t == 4 || t == 6 else if f = 5 then t == 3 || t == 5 else if f = 7 then t == 4 || t == 7 else if f = 8 then t == 2 else if f = 9 then t == 2 else if f = 10 then t == 2 else if f = 12 then t == 4 || t == 7 else if f = 13 then t == 3 || t == 5 else if f = 14 then t == 4 || t == 7 else if f = 17 then t == 3 else if f = 18 then t == 2 else if f = 19 then t == 3 || t == 5 else if f = 20 then t == 4 || t == 7 else if f = 21 then t == 2 else if f = 22 then t == 2 else if f = 23 then t == 2 else if f = 25 then t == 2 || t == 3 else if f = 26 then t == 3 || t == 5 else if f = 27 then t == 1 else if f = 28 then t == 4 || t == 7 else if f = 29 then t == 4 else if f = 30 then t == 2 else if f = 31 then t == 1 else if f = 32 then t == 5 else if f = 33 then t == 1 else if f = 34 then t == 4 || t == 7 else if f = 35 then t == 2 else if f = 38 then t == 2 else if f = 40 then t == 2 else if f = 41 then t == 2 else if f = 43 then t == 2 else if f = 44 then t == 1 else if f = 47 then t == 1 else if f = 48 then t == 2 else if f = 50 then t == 2 else if f = 51 then t == 3 else if f = 52 then t == 3 else if f = 53 then t == 5 || t == 7 else if f = 56 then t == 1 else if f = 57 then t == 1 else if f = 58 then t == 1 else if f = 64 then t == 1 else if f = 65 then t == 1 else if f = 66 then t == 1 else if f = 68 then t == 2 else if f = 69 then t == 1 else if f = 78 then t == 2 else if f = 82 then t == 2 else if f = 84 then t == 2 else if f = 85 then t == 3 else if f = 86 then t == 1 else if f = 90 then t == 3 else false
theorem frzF_3 (t : Nat) : frzF 3 t = (t == 4 || t == 7) := rfl
theorem frzF_4 (t : Nat) : frzF 4 t = (t == 4 || t == 6) := rfl
theorem frzF_5 (t : Nat) : frzF 5 t = (t == 3 || t == 5) := rfl
theorem frzF_6 (t : Nat) : frzF 6 t = false := rfl
theorem frzF_7 (t : Nat) : frzF 7 t = (t == 4 || t == 7) := rfl
theorem frzF_8 (t : Nat) : frzF 8 t = (t == 2) := rfl
theorem frzF_9 (t : Nat) : frzF 9 t = (t == 2) := rfl
theorem frzF_10 (t : Nat) : frzF 10 t = (t == 2) := rfl
theorem frzF_11 (t : Nat) : frzF 11 t = false := rfl
theorem frzF_12 (t : Nat) : frzF 12 t = (t == 4 || t == 7) := rfl
theorem frzF_13 (t : Nat) : frzF 13 t = (t == 3 || t == 5) := rfl
theorem frzF_14 (t : Nat) : frzF 14 t = (t == 4 || t == 7) := rfl
theorem frzF_15 (t : Nat) : frzF 15 t = false := rfl
theorem frzF_16 (t : Nat) : frzF 16 t = false := rfl
theorem frzF_17 (t : Nat) : frzF 17 t = (t == 3) := rfl
theorem frzF_18 (t : Nat) : frzF 18 t = (t == 2) := rfl
theorem frzF_19 (t : Nat) : frzF 19 t = (t == 3 || t == 5) := rfl
theorem frzF_20 (t : Nat) : frzF 20 t = (t == 4 || t == 7) := rfl
theorem frzF_21 (t : Nat) : frzF 21 t = (t == 2) := rfl
theorem frzF_22 (t : Nat) : frzF 22 t = (t == 2) := rfl
theorem frzF_23 (t : Nat) : frzF 23 t = (t == 2) := rfl
theorem frzF_24 (t : Nat) : frzF 24 t = false := rfl
theorem frzF_25 (t : Nat) : frzF 25 t = (t == 2 || t == 3) := rfl
theorem frzF_26 (t : Nat) : frzF 26 t = (t == 3 || t == 5) := rfl
theorem frzF_27 (t : Nat) : frzF 27 t = (t == 1) := rfl
theorem frzF_28 (t : Nat) : frzF 28 t = (t == 4 || t == 7) := rfl
theorem frzF_29 (t : Nat) : frzF 29 t = (t == 4) := rfl
theorem frzF_30 (t : Nat) : frzF 30 t = (t == 2) := rfl
theorem frzF_31 (t : Nat) : frzF 31 t = (t == 1) := rfl
theorem frzF_32 (t : Nat) : frzF 32 t = (t == 5) := rfl
theorem frzF_33 (t : Nat) : frzF 33 t = (t == 1) := rfl
theorem frzF_34 (t : Nat) : frzF 34 t = (t == 4 || t == 7) := rfl
theorem frzF_35 (t : Nat) : frzF 35 t = (t == 2) := rfl
theorem frzF_36 (t : Nat) : frzF 36 t = false := rfl
theorem frzF_37 (t : Nat) : frzF 37 t = false := rfl
theorem frzF_38 (t : Nat) : frzF 38 t = (t == 2) := rfl
theorem frzF_39 (t : Nat) : frzF 39 t = false := rfl
theorem frzF_40 (t : Nat) : frzF 40 t = (t == 2) := rfl
theorem frzF_41 (t : Nat) : frzF 41 t = (t == 2) := rfl
theorem frzF_42 (t : Nat) : frzF 42 t = false := rfl
theorem frzF_43 (t : Nat) : frzF 43 t = (t == 2) := rfl
theorem frzF_44 (t : Nat) : frzF 44 t = (t == 1) := rfl
theorem frzF_45 (t : Nat) : frzF 45 t = false := rfl
theorem frzF_47 (t : Nat) : frzF 47 t = (t == 1) := rfl
theorem frzF_48 (t : Nat) : frzF 48 t = (t == 2) := rfl
theorem frzF_49 (t : Nat) : frzF 49 t = false := rfl
theorem frzF_50 (t : Nat) : frzF 50 t = (t == 2) := rfl
theorem frzF_51 (t : Nat) : frzF 51 t = (t == 3) := rfl
theorem frzF_52 (t : Nat) : frzF 52 t = (t == 3) := rfl
theorem frzF_53 (t : Nat) : frzF 53 t = (t == 5 || t == 7) := rfl
theorem frzF_54 (t : Nat) : frzF 54 t = false := rfl
theorem frzF_55 (t : Nat) : frzF 55 t = false := rfl
theorem frzF_56 (t : Nat) : frzF 56 t = (t == 1) := rfl
theorem frzF_57 (t : Nat) : frzF 57 t = (t == 1) := rfl
theorem frzF_58 (t : Nat) : frzF 58 t = (t == 1) := rfl
theorem frzF_59 (t : Nat) : frzF 59 t = false := rfl
theorem frzF_60 (t : Nat) : frzF 60 t = false := rfl
theorem frzF_61 (t : Nat) : frzF 61 t = false := rfl
theorem frzF_62 (t : Nat) : frzF 62 t = false := rfl
theorem frzF_63 (t : Nat) : frzF 63 t = false := rfl
theorem frzF_64 (t : Nat) : frzF 64 t = (t == 1) := rfl
theorem frzF_65 (t : Nat) : frzF 65 t = (t == 1) := rfl
theorem frzF_66 (t : Nat) : frzF 66 t = (t == 1) := rfl
theorem frzF_67 (t : Nat) : frzF 67 t = false := rfl
theorem frzF_68 (t : Nat) : frzF 68 t = (t == 2) := rfl
theorem frzF_69 (t : Nat) : frzF 69 t = (t == 1) := rfl
theorem frzF_70 (t : Nat) : frzF 70 t = false := rfl
theorem frzF_71 (t : Nat) : frzF 71 t = false := rfl
theorem frzF_72 (t : Nat) : frzF 72 t = false := rfl
theorem frzF_74 (t : Nat) : frzF 74 t = false := rfl
theorem frzF_75 (t : Nat) : frzF 75 t = false := rfl
theorem frzF_76 (t : Nat) : frzF 76 t = false := rfl
theorem frzF_77 (t : Nat) : frzF 77 t = false := rfl
theorem frzF_78 (t : Nat) : frzF 78 t = (t == 2) := rfl
theorem frzF_82 (t : Nat) : frzF 82 t = (t == 2) := rfl
theorem frzF_83 (t : Nat) : frzF 83 t = false := rfl
theorem frzF_84 (t : Nat) : frzF 84 t = (t == 2) := rfl
theorem frzF_85 (t : Nat) : frzF 85 t = (t == 3) := rfl
theorem frzF_86 (t : Nat) : frzF 86 t = (t == 1) := rfl
theorem frzF_87 (t : Nat) : frzF 87 t = false := rfl
theorem frzF_88 (t : Nat) : frzF 88 t = false := rfl
theorem frzF_90 (t : Nat) : frzF 90 t = (t == 3) := rfl
theorem frzF_95 (t : Nat) : frzF 95 t = false := rfl
theorem frzF_96 (t : Nat) : frzF 96 t = false := rfl
theorem frzF_97 (t : Nat) : frzF 97 t = false := rfl
attribute [go_sem] frzF_3 frzF_4 frzF_5 frzF_6 frzF_7 frzF_8 frzF_9 frzF_10 frzF_11 frzF_12 frzF_13 frzF_14 frzF_15 frzF_16 frzF_17 frzF_18 frzF_19 frzF_20 frzF_21 frzF_22 frzF_23 frzF_24 frzF_25 frzF_26 frzF_27 frzF_28 frzF_29 frzF_30 frzF_31 frzF_32 frzF_33 frzF_34 frzF_35 frzF_36 frzF_37 frzF_38 frzF_39 frzF_40 frzF_41 frzF_42 frzF_43 frzF_44 frzF_45 frzF_47 frzF_48 frzF_49 frzF_50 frzF_51 frzF_52 frzF_53 frzF_54 frzF_55 frzF_56 frzF_57 frzF_58 frzF_59 frzF_60 frzF_61 frzF_62 frzF_63 frzF_64 frzF_65 frzF_66 frzF_67 frzF_68 frzF_69 frzF_70 frzF_71 frzF_72 frzF_74 frzF_75 frzF_76 frzF_77 frzF_78 frzF_82 frzF_83 frzF_84 frzF_85 frzF_86 frzF_87 frzF_88 frzF_90 frzF_95 frzF_96 frzF_97
def ownF (f t : Nat) : Option Nat := if f = 3 then (if t = 16 then some 16 else if t = 17 then some 17 else none) else if f = 21 then (if t = 6 then some 6 else none) else if f = 23 then (if t = 6 then some 6 else none) else if f = 28 then (if t = 8 then some 8 else if t = 11 then some 11 else none) else if f = 32 then (if t = 58 then some 3 else none) else if f = 34 then (if t = 8 then some 8 else if t = 11 then some 11 else if t = 13 then some 13 else none) else if f = 52 then (if t = 6 then some 6 else none) else none
def awayF (f t : Nat) : List Nat := if f = 3 then (if t = 4 then [16, 17] else if t = 7 then [16, 17] else []) else if f = 21 then (if t = 74 then [6] else if t = 76 then [6] else []) else if f = 23 then (if t = 2 then [6] else if t = 24 then [6] else []) else if f = 28 then (if t = 4 then [11] else if t = 28 then [11] else if t = 31 then [11] else if t = 38 then [8] else if t = 41 then [8] else []) else if f = 32 then (if t = 54 then [3] else []) else if f = 34 then (if t = 4 then [11, 13] else if t = 26 then [11] else if t = 29 then [11] else if t = 36 then [8] else if t = 39 then [8] else if t = 83 then [13] else if t = 86 then [13] else if t = 96 then [8] else if t = 99 then [8] else if t = 141 then [8] else if t = 144 then [8] else []) else if f = 52 then (if t = 8 then [6] else if t = 20 then [6] else []) else []
end Go.Eng
set_option maxRecDepth 100000
set_option linter.unusedVariables false
namespace Go.Eng
open Go Go.RowKit Go.Proofs
/-- the table of package term lies as its initialiser lays it -/
def NeedsLaid (w : World) : Prop := Lib.TabIs Tryd.prog w "sequitur/term.needs" .i64 needsL
theorem gNeeds : Tryd.prog.globalNamed "sequitur/term.needs" = some 0 := by kernel_rfl
theorem NeedsLaid.below {w w' : World} (h : NeedsLaid w) (hb : Below w.heap.size w w') : NeedsLaid w' :=
  Joins.tab_stays (g := 0) gNeeds h hb (Nat.le_refl _)
theorem NeedsLaid.cell {w : World} (h : NeedsLaid w) (i : Nat) (hi : i < 9) : w.cell? ⟨0, i, none⟩ = some (.int .i64 (needsL.getD i 0)) := Lib.TabIs.cell h gNeeds i hi
def globF (v : Nat) : Option (List C) := if v = 0 then some (needsL.map cI) else none
noncomputable def An : Ann := { tk := tkF, ta := taF, lc := lcF, frz := frzF, own := ownF, away := awayF, fn := fun f => fnL.contains f, glob := globF, ext := fun f => if f = 24 then some rightQ else if f = 45 then some sizeQ else if f = 55 then some repQ else none, laid := NeedsLaid }
def termL : List Nat := [47, 78, 44]
/-- three functions of package term, ahead of those that are told by hand -/
def AnT : Ann := { tk := tkF, ta := taF, lc := lcF, frz := frzF, own := ownF, away := awayF, fn := fun f => termL.contains f, glob := globF, ext := fun f => none, laid := NeedsLaid }
theorem An_tk (f t : Nat) : An.tk f t = tkF f t := rfl
theorem An_ta (f t : Nat) : An.ta f t = taF f t := rfl
theorem An_lc (f t : Nat) : An.lc f t = lcF f t := rfl
theorem An_frz (f t : Nat) : An.frz f t = frzF f t := rfl
theorem An_own (f t : Nat) : An.own f t = ownF f t := rfl
theorem An_away (f t : Nat) : An.away f t = awayF f t := rfl
theorem An_glob (v : Nat) : An.glob v = globF v := rfl
theorem AnT_tk (f t : Nat) : AnT.tk f t = tkF f t := rfl
theorem AnT_ta (f t : Nat) : AnT.ta f t = taF f t := rfl
theorem AnT_lc (f t : Nat) : AnT.lc f t = lcF f t := rfl
theorem AnT_frz (f t : Nat) : AnT.frz f t = frzF f t := rfl
theorem AnT_own (f t : Nat) : AnT.own f t = ownF f t := rfl
theorem AnT_away (f t : Nat) : AnT.away f t = awayF f t := rfl
theorem AnT_glob (v : Nat) : AnT.glob v = globF v := rfl
theorem globF_needs : globF 0 = some [.v (.int .i64 0), .v (.int .i64 0), .v (.int .i64 0), .v (.int .i64 8), .v (.int .i64 0), .v (.int .i64 2), .v (.int .i64 2), .v (.int .i64 1), .v (.int .i64 1)] := rfl
theorem glob_ok {A : Ann} (hA : A.glob = globF) {w : World} (h : NeedsLaid w) : GlobOK A (G0 w) := by
  intro v l hl
  rw [hA] at hl
  unfold globF at hl
  split at hl
  · rename_i e
    cases hl
    subst e
    refine ⟨needsL.map (.int .i64), fun j u hj => ?_, ?_⟩
    · have hj9 : j < 9 := by have := (List.getElem?_eq_some_iff.1 hj).1; simpa [needsL] using this
      have := h.cell j hj9
      simp only [G0, memF, Nat.zero_add]
      rw [this]
      rw [List.getElem?_map] at hj
      obtain ⟨x, hx, rfl⟩ := Option.map_eq_some_iff.1 hj
      rw [List.getD_eq_getElem?_getD, hx]; rfl
    · have : ∀ l : List Int, RL (G0 w).F (l.map cI) (l.map (.int .i64)) := by
        intro l
        induction l with
        | nil => simp [RL]
        | cons x r ih => simp only [List.map_cons, RL]; exact ⟨_, _, rfl, by simp [cI, RC, Value.oneCell'], rfl, ih⟩
      exact this needsL
  · cases hl
theorem right_ev (t : Tm) (ht : okT t) (ro : Nat) (m : Mem) : evL Tryd.prog An ro 24 [.c (encT t)] m = some (.c (.v (.int .i64 (rightT t))), m) :=
  evL_ext (cs := [encT t]) (q := rightQ) (by kernel_rfl) rfl (termQ_some ht) rfl
theorem tsize_ev (t : Tm) (ht : okT t) (ro : Nat) (m : Mem) : evL Tryd.prog An ro 45 [.c (encT t)] m = some (.c (.v (.int .i64 (min (sizeT t) 4097 : Nat))), m) :=
  evL_ext (cs := [encT t]) (q := sizeQ) (by kernel_rfl) rfl (termQ_some ht) rfl
theorem rep_ev (s : ByteArray) (n : Nat) (hn : n ≤ 2) (ro : Nat) (m : Mem) : evL Tryd.prog An ro 55 [.c (.sl [.v (.string s)]), .c (.v (.int .i64 n))] m = some (.c (.sl (List.replicate n (.v (.string s)))), m) :=
  evL_ext (cs := [.sl [.v (.string s)], .v (.int .i64 n)]) (q := repQ) (by kernel_rfl) rfl (by simp only [repQ]; rw [if_pos ⟨by omega, by omega⟩]; simp) rfl
attribute [go_sem] An_tk An_ta An_lc An_frz An_own An_away An_glob AnT_tk AnT_ta AnT_lc AnT_frz AnT_own AnT_away AnT_glob globF_needs tkF taF lcF ownF awayF
end Go.Eng
/- Three functions of package term: what is wrong with a part, and how deep a term is. -/
set_option maxRecDepth 100000
set_option linter.unusedVariables false
set_option linter.unusedSimpArgs false
namespace Go.Eng
open Go Go.Proofs
theorem depTs_append (l l2 : List Tm) : depTs (l ++ l2) = max (depTs l) (depTs l2) := by
  induction l with
  | nil => simp [depTs]
  | cons x r ih => simp only [List.cons_append, depTs, ih]; omega
theorem depTs_take (l : List Tm) (i : Nat) (x : Tm) (h : l[i]? = some x) : depTs (l.take (i + 1)) = max (depTs (l.take i)) (depT x) := by
  rw [List.take_add_one, h, depTs_append]; simp [depTs]
theorem depT_eq (t : Tm) : depT t = depTs t.l + 1 := by cases t; rw [depT]; rfl
set_option maxHeartbeats 4000000 in
theorem tdepth_evT (t : Tm) (ht : okT t) (k : Nat) (hk : 1 ≤ k) (hk2 : k ≤ 1000) (ro : Nat) (m : Mem) (hro : ro ≤ m.length) :
    evL Tryd.prog AnT ro 78 [.c (encT t), .c (.v (.int .i64 k))] m = some (.c (.v (.int .i64 (min (depT t) k : Nat))), m) := by
  induction hd : SizeOf.sizeOf t using Nat.strongRecOn generalizing t k ro m with
  | _ d ih =>
  have hlen := ht.len
  have hz := depT_eq t
  have hro1 : ro ≤ m.length + 1 := by omega
  rw [maxLen_eq] at hlen
  refine evL_by (n := 26) (by kernel_rfl) rfl fn78 rfl rfl rfl rfl ?_
  by_cases h1 : k = 1
  · subst h1
    have d1 : decide (((1 : Nat) : Int) ≤ 1) = true := dec_t (by omega)
    have : min (depT t) 1 = 1 := by omega
    simp only [go_sem, ↓reduceIte, d1, this]
    rfl
  · have d1 : decide ((k : Int) ≤ 1) = false := dec_f (by omega)
    simp only [go_sem, ↓reduceIte, d1]
    generalize hL : loopW _ _ = L
    obtain ⟨i, k1, hE, rfl⟩ := loopW_at hL (fun i : Nat => [(5, .c (.v (.int .i64 (min (depTs (t.l.take i)) (k - 1) : Nat)))), (13, .c (.v (.int .i64 i)))]) (fun _ => [] :: m) (fun i => i ≤ t.l.length) (fun i => i = t.l.length) (fun i => t.l.length - i) 0
      (by simp [sets, depTs]) rfl (by omega) (by
      rintro i k1 hE
      obtain ⟨x, hx⟩ : ∃ x, t.l[i]? = some x := ⟨_, List.getElem?_eq_getElem (by omega)⟩
      have c1 : decide ((i : Int) < (t.l.length : Int)) = true := dec_t (by omega)
      have c3 : IntKind.i64.wrap ((i : Int) + 1) = ((i + 1 : Nat) : Int) := wrap64 (by omega) (by omega)
      have c4 : IntKind.i64.wrap ((k : Int) - 1) = ((k - 1 : Nat) : Int) := (wrap64 (by omega) (by omega)).trans (by omega)
      have hmem := List.mem_of_getElem? hx
      have hsub := fun ro m hro => ih _ (by have := Tm.lt hmem; omega) x (ht.arg hmem) (k - 1) (by omega) (by omega) ro m hro rfl
      have htk := depTs_take _ _ _ hx
      have c6 : (if ((min (depT x) (k - 1) : Nat) : Int) > ((min (depTs (t.l.take i)) (k - 1) : Nat) : Int) then ((min (depT x) (k - 1) : Nat) : Int) else ((min (depTs (t.l.take i)) (k - 1) : Nat) : Int)) = ((min (depTs (t.l.take (i + 1))) (k - 1) : Nat) : Int) := by
        split <;> omega
      refine ⟨i + 1, by omega, by omega, ?_⟩
      rw [round_go]
      simp only [go_sem, ↓reduceIte, c1, c3, c4, c6, hx, hsub, hro, hro1])
    clear hL
    subst hE
    rw [loopW_go]
    have c1 : decide ((t.l.length : Int) < (t.l.length : Int)) = false := dec_f (by omega)
    rw [List.take_length]
    have c5 : IntKind.i64.wrap (((min (depTs t.l) (k - 1) : Nat) : Int) + 1) = ((min (depT t) k : Nat) : Int) := (wrap64 (by omega) (by omega)).trans (by omega)
    simp only [go_sem, ↓reduceIte, c1, c5]
set_option maxHeartbeats 2000000 in
theorem tDepth_evT (t : Tm) (ht : okT t) (ro : Nat) (m : Mem) (hro : ro ≤ m.length) : evL Tryd.prog AnT ro 44 [.c (encT t)] m = some (.c (.v (.int .i64 (min (depT t) 65 : Nat))), m) := by
  refine evL_by (n := 5) (by kernel_rfl) rfl fn44 rfl rfl rfl rfl ?_
  have hro1 : ro ≤ m.length + 1 := by omega
  have h := fun ro m hro => tdepth_evT t ht 65 (by omega) (by omega) ro m hro
  have e : ((65 : Nat) : Int) = 65 := rfl
  simp only [e] at h
  simp only [go_sem, ↓reduceIte, h, hro1]
end Go.Eng
