-- own work: an evaluator of the program's code, and what it answers
import Derived.Test.YtjahkimgmmcljaaDoorEngC
import Derived.KernelRfl
import Derived.Test.YtjahkimgmmcljaaDoorProg
import Derived.Lib.LaidTab
import Derived.Lib.SmallJoins
-- Printed by this work's own program (engtab.py). Not trusted: Lean checks it.
set_option maxRecDepth 100000
set_option linter.unusedSimpArgs false
set_option linter.unusedVariables false
namespace Go.Eng
open Go Go.Proofs
theorem ty2 : tyOf Tryd.prog 2 = some { size := 1, bytes := 8, agg := false, zero := [V.c (C.v (Value.int IntKind.i64 0))], kind := K.int IntKind.i64 } := by kernel_rfl
theorem ty3 : tyOf Tryd.prog 3 = some { size := 1, bytes := 8, agg := false, zero := [V.c (C.v (Value.int IntKind.i64 0))], kind := K.int IntKind.i64 } := by kernel_rfl
theorem ty4 : tyOf Tryd.prog 4 = some { size := 1, bytes := 1, agg := false, zero := [V.c (C.v (Value.bool false))], kind := K.bool } := by kernel_rfl
theorem ty5 : tyOf Tryd.prog 5 = some { size := 1, bytes := 1, agg := false, zero := [V.c (C.v (Value.int IntKind.u8 0))], kind := K.int IntKind.u8 } := by kernel_rfl
theorem ty9 : tyOf Tryd.prog 9 = some { size := 1, bytes := 16, agg := false, zero := [V.c (C.v (Value.string ByteArray.empty))], kind := K.str } := by kernel_rfl
theorem ty22 : tyOf Tryd.prog 22 = some { size := 1, bytes := 24, agg := false, zero := [V.tip none []], kind := K.slice 9 } := by kernel_rfl
theorem ty23 : tyOf Tryd.prog 23 = some { size := 1, bytes := 24, agg := false, zero := [V.tip none []], kind := K.slice 83 } := by kernel_rfl
theorem ty25 : tyOf Tryd.prog 25 = some { size := 2, bytes := 48, agg := true, zero := [V.tip none [], V.tip none []], kind := K.struct [{ off := 0, size := 1, agg := false }, { off := 1, size := 1, agg := false }] } := by kernel_rfl
theorem ty26 : tyOf Tryd.prog 26 = some { size := 1, bytes := 24, agg := false, zero := [V.tip none []], kind := K.slice 76 } := by kernel_rfl
theorem ty27 : tyOf Tryd.prog 27 = some { size := 1, bytes := 24, agg := false, zero := [V.tip none []], kind := K.slice 29 } := by kernel_rfl
theorem ty29 : tyOf Tryd.prog 29 = some { size := 4, bytes := 56, agg := true, zero := [V.c (C.v (Value.int IntKind.i64 0)), V.c (C.v (Value.string ByteArray.empty)), V.c (C.v (Value.int IntKind.i64 0)), V.tip none []], kind := K.struct [{ off := 0, size := 1, agg := false }, { off := 1, size := 1, agg := false }, { off := 2, size := 1, agg := false }, { off := 3, size := 1, agg := false }] } := by kernel_rfl
theorem ty33 : tyOf Tryd.prog 33 = some { size := 1, bytes := 24, agg := false, zero := [V.tip none []], kind := K.slice 3 } := by kernel_rfl
theorem ty34 : tyOf Tryd.prog 34 = some { size := 1, bytes := 8, agg := false, zero := [V.c (C.v (Value.int IntKind.i64 0))], kind := K.int IntKind.i64 } := by kernel_rfl
theorem ty39 : tyOf Tryd.prog 39 = some { size := 3, bytes := 48, agg := true, zero := [V.c (C.v (Value.string ByteArray.empty)), V.tip none [], V.c (C.v (Value.int IntKind.i64 0))], kind := K.struct [{ off := 0, size := 1, agg := false }, { off := 1, size := 1, agg := false }, { off := 2, size := 1, agg := false }] } := by kernel_rfl
theorem ty50 : tyOf Tryd.prog 50 = some { size := 1, bytes := 24, agg := false, zero := [V.tip none []], kind := K.slice 52 } := by kernel_rfl
theorem ty52 : tyOf Tryd.prog 52 = some { size := 5, bytes := 88, agg := true, zero := [V.c (C.v (Value.int IntKind.i64 0)), V.c (C.v (Value.string ByteArray.empty)), V.c (C.v (Value.string ByteArray.empty)), V.tip none [], V.tip none []], kind := K.struct [{ off := 0, size := 1, agg := false }, { off := 1, size := 1, agg := false }, { off := 2, size := 1, agg := false }, { off := 3, size := 1, agg := false }, { off := 4, size := 1, agg := false }] } := by kernel_rfl
theorem ty76 : tyOf Tryd.prog 76 = some { size := 2, bytes := 32, agg := true, zero := [V.c (C.v (Value.string ByteArray.empty)), V.c (C.v (Value.string ByteArray.empty))], kind := K.struct [{ off := 0, size := 1, agg := false }, { off := 1, size := 1, agg := false }] } := by kernel_rfl
theorem ty83 : tyOf Tryd.prog 83 = some { size := 3, bytes := 56, agg := true, zero := [V.c (C.v (Value.string ByteArray.empty)), V.tip none [], V.c (C.v (Value.string ByteArray.empty))], kind := K.struct [{ off := 0, size := 1, agg := false }, { off := 1, size := 1, agg := false }, { off := 2, size := 1, agg := false }] } := by kernel_rfl
theorem ty93 : tyOf Tryd.prog 93 = some { size := 1, bytes := 8, agg := false, zero := [V.c (C.v Value.nilFunc)], kind := K.other } := by kernel_rfl
theorem ty98 : tyOf Tryd.prog 98 = some { size := 1, bytes := 8, agg := false, zero := [V.c (C.v Value.nilFunc)], kind := K.other } := by kernel_rfl
theorem ty100 : tyOf Tryd.prog 100 = some { size := 4, bytes := 80, agg := true, zero := [V.tip none [], V.tip none [], V.c (C.v Value.nilFunc), V.tip none []], kind := K.struct [{ off := 0, size := 2, agg := true }, { off := 2, size := 1, agg := false }, { off := 3, size := 1, agg := false }] } := by kernel_rfl
theorem ty110 : tyOf Tryd.prog 110 = some { size := 1, bytes := 8, agg := false, zero := [V.c (C.v Value.nilFunc)], kind := K.other } := by kernel_rfl
theorem ty115 : tyOf Tryd.prog 115 = some { size := 1, bytes := 8, agg := false, zero := [V.c (C.v Value.nilFunc)], kind := K.other } := by kernel_rfl
theorem ty195 : tyOf Tryd.prog 195 = some { size := 9, bytes := 72, agg := true, zero := [V.c (C.v (Value.int IntKind.i64 0)), V.c (C.v (Value.int IntKind.i64 0)), V.c (C.v (Value.int IntKind.i64 0)), V.c (C.v (Value.int IntKind.i64 0)), V.c (C.v (Value.int IntKind.i64 0)), V.c (C.v (Value.int IntKind.i64 0)), V.c (C.v (Value.int IntKind.i64 0)), V.c (C.v (Value.int IntKind.i64 0)), V.c (C.v (Value.int IntKind.i64 0))], kind := K.arr 9 3 } := by kernel_rfl
attribute [go_sem] ty2 ty3 ty4 ty5 ty9 ty22 ty23 ty25 ty26 ty27 ty29 ty33 ty34 ty39 ty50 ty52 ty76 ty83 ty93 ty98 ty100 ty110 ty115 ty195
theorem fn5 : Tryd.prog.funcs[5]? = some Tryd.f5 := by kernel_rfl
theorem fn6 : Tryd.prog.funcs[6]? = some Tryd.f6 := by kernel_rfl
theorem fn7 : Tryd.prog.funcs[7]? = some Tryd.f7 := by kernel_rfl
theorem fn16 : Tryd.prog.funcs[16]? = some Tryd.f16 := by kernel_rfl
theorem fn17 : Tryd.prog.funcs[17]? = some Tryd.f17 := by kernel_rfl
theorem fn18 : Tryd.prog.funcs[18]? = some Tryd.f18 := by kernel_rfl
theorem fn19 : Tryd.prog.funcs[19]? = some Tryd.f19 := by kernel_rfl
theorem fn20 : Tryd.prog.funcs[20]? = some Tryd.f20 := by kernel_rfl
theorem fn22 : Tryd.prog.funcs[22]? = some Tryd.f22 := by kernel_rfl
theorem fn23 : Tryd.prog.funcs[23]? = some Tryd.f23 := by kernel_rfl
theorem fn25 : Tryd.prog.funcs[25]? = some Tryd.f25 := by kernel_rfl
theorem fn26 : Tryd.prog.funcs[26]? = some Tryd.f26 := by kernel_rfl
theorem fn27 : Tryd.prog.funcs[27]? = some Tryd.f27 := by kernel_rfl
theorem fn28 : Tryd.prog.funcs[28]? = some Tryd.f28 := by kernel_rfl
theorem fn41 : Tryd.prog.funcs[41]? = some Tryd.f41 := by kernel_rfl
theorem fn61 : Tryd.prog.funcs[61]? = some Tryd.f61 := by kernel_rfl
theorem fn62 : Tryd.prog.funcs[62]? = some Tryd.f62 := by kernel_rfl
theorem fn63 : Tryd.prog.funcs[63]? = some Tryd.f63 := by kernel_rfl
theorem fn64 : Tryd.prog.funcs[64]? = some Tryd.f64 := by kernel_rfl
theorem fn65 : Tryd.prog.funcs[65]? = some Tryd.f65 := by kernel_rfl
theorem fn67 : Tryd.prog.funcs[67]? = some Tryd.f67 := by kernel_rfl
theorem fn68 : Tryd.prog.funcs[68]? = some Tryd.f68 := by kernel_rfl
theorem fn69 : Tryd.prog.funcs[69]? = some Tryd.f69 := by kernel_rfl
theorem fn70 : Tryd.prog.funcs[70]? = some Tryd.f70 := by kernel_rfl
theorem fn71 : Tryd.prog.funcs[71]? = some Tryd.f71 := by kernel_rfl
theorem fn72 : Tryd.prog.funcs[72]? = some Tryd.f72 := by kernel_rfl
theorem fn75 : Tryd.prog.funcs[75]? = some Tryd.f75 := by kernel_rfl
theorem fn78 : Tryd.prog.funcs[78]? = some Tryd.f78 := by kernel_rfl
theorem fn80 : Tryd.prog.funcs[80]? = some Tryd.f80 := by kernel_rfl
theorem fn118 : Tryd.prog.funcs[118]? = some Tryd.f118 := by kernel_rfl
theorem fn119 : Tryd.prog.funcs[119]? = some Tryd.f119 := by kernel_rfl
theorem fn121 : Tryd.prog.funcs[121]? = some Tryd.f121 := by kernel_rfl
theorem fn122 : Tryd.prog.funcs[122]? = some Tryd.f122 := by kernel_rfl
theorem fn123 : Tryd.prog.funcs[123]? = some Tryd.f123 := by kernel_rfl
theorem fn124 : Tryd.prog.funcs[124]? = some Tryd.f124 := by kernel_rfl
theorem fn125 : Tryd.prog.funcs[125]? = some Tryd.f125 := by kernel_rfl
theorem fn126 : Tryd.prog.funcs[126]? = some Tryd.f126 := by kernel_rfl
theorem fn127 : Tryd.prog.funcs[127]? = some Tryd.f127 := by kernel_rfl
theorem fn128 : Tryd.prog.funcs[128]? = some Tryd.f128 := by kernel_rfl
theorem fn129 : Tryd.prog.funcs[129]? = some Tryd.f129 := by kernel_rfl
theorem fn130 : Tryd.prog.funcs[130]? = some Tryd.f130 := by kernel_rfl
theorem fn131 : Tryd.prog.funcs[131]? = some Tryd.f131 := by kernel_rfl
theorem fn132 : Tryd.prog.funcs[132]? = some Tryd.f132 := by kernel_rfl
theorem fn133 : Tryd.prog.funcs[133]? = some Tryd.f133 := by kernel_rfl
theorem fn134 : Tryd.prog.funcs[134]? = some Tryd.f134 := by kernel_rfl
theorem fn138 : Tryd.prog.funcs[138]? = some Tryd.f138 := by kernel_rfl
theorem fn139 : Tryd.prog.funcs[139]? = some Tryd.f139 := by kernel_rfl
theorem fn140 : Tryd.prog.funcs[140]? = some Tryd.f140 := by kernel_rfl
theorem fn141 : Tryd.prog.funcs[141]? = some Tryd.f141 := by kernel_rfl
theorem fn142 : Tryd.prog.funcs[142]? = some Tryd.f142 := by kernel_rfl
theorem fn143 : Tryd.prog.funcs[143]? = some Tryd.f143 := by kernel_rfl
theorem fn148 : Tryd.prog.funcs[148]? = some Tryd.f148 := by kernel_rfl
theorem fn182 : Tryd.prog.funcs[182]? = some Tryd.f182 := by kernel_rfl
theorem fn186 : Tryd.prog.funcs[186]? = some Tryd.f186 := by kernel_rfl
theorem fn187 : Tryd.prog.funcs[187]? = some Tryd.f187 := by kernel_rfl
theorem fn188 : Tryd.prog.funcs[188]? = some Tryd.f188 := by kernel_rfl
theorem fn189 : Tryd.prog.funcs[189]? = some Tryd.f189 := by kernel_rfl
theorem fn190 : Tryd.prog.funcs[190]? = some Tryd.f190 := by kernel_rfl
theorem fn191 : Tryd.prog.funcs[191]? = some Tryd.f191 := by kernel_rfl
theorem fn194 : Tryd.prog.funcs[194]? = some Tryd.f194 := by kernel_rfl
theorem fn205 : Tryd.prog.funcs[205]? = some Tryd.f205 := by kernel_rfl
theorem fn206 : Tryd.prog.funcs[206]? = some Tryd.f206 := by kernel_rfl
theorem fn207 : Tryd.prog.funcs[207]? = some Tryd.f207 := by kernel_rfl
def fnL : List Nat := [5, 6, 7, 16, 17, 18, 19, 20, 22, 23, 25, 26, 27, 28, 41, 61, 62, 63, 64, 65, 67, 68, 69, 70, 71, 72, 75, 78, 80, 118, 119, 121, 122, 123, 124, 125, 126, 127, 128, 129, 130, 131, 132, 133, 134, 138, 139, 140, 141, 142, 143, 148, 182, 186, 187, 188, 189, 190, 191, 194, 205, 206, 207]
def tkF (f t : Nat) : Bool := if f = 65 then t == 44 else if f = 71 then t == 42 else if f = 125 then t == 36 else false
def taF (f t : Nat) : Bool := false
def lcF (f t : Nat) : Bool := false
def frzF (f t : Nat) : Bool := if f = 5 then t == 3 || t == 5 else if f = 7 then t == 4 || t == 7 else if f = 16 then t == 2 else if f = 17 then t == 2 else if f = 19 then t == 4 || t == 7 else if f = 20 then t == 3 || t == 5 else if f = 25 then t == 2 else if f = 26 then t == 3 || t == 5 else if f = 27 then t == 4 || t == 7 else if f = 28 then t == 2 else if f = 62 then t == 2 || t == 3 else if f = 63 then t == 3 || t == 5 else if f = 64 then t == 1 else if f = 65 then t == 4 || t == 7 else if f = 67 then t == 2 else if f = 68 then t == 1 else if f = 69 then t == 5 else if f = 70 then t == 1 else if f = 71 then t == 4 || t == 7 else if f = 72 then t == 2 else if f = 75 then t == 2 else if f = 78 then t == 2 else if f = 80 then t == 2 else if f = 118 then t == 1 else if f = 121 then t == 1 else if f = 122 then t == 2 else if f = 124 then t == 2 else if f = 125 then t == 3 else if f = 126 then t == 3 else if f = 127 then t == 5 || t == 7 else if f = 130 then t == 1 else if f = 131 then t == 1 else if f = 132 then t == 1 else if f = 138 then t == 1 else if f = 139 then t == 1 else if f = 140 then t == 1 else if f = 142 then t == 2 else if f = 143 then t == 1 else if f = 182 then t == 2 else if f = 186 then t == 2 else if f = 188 then t == 2 else if f = 189 then t == 3 else if f = 190 then t == 1 else if f = 194 then t == 3 else false
theorem frzF_5 (t : Nat) : frzF 5 t = (t == 3 || t == 5) := rfl
theorem frzF_6 (t : Nat) : frzF 6 t = false := rfl
theorem frzF_7 (t : Nat) : frzF 7 t = (t == 4 || t == 7) := rfl
theorem frzF_16 (t : Nat) : frzF 16 t = (t == 2) := rfl
theorem frzF_17 (t : Nat) : frzF 17 t = (t == 2) := rfl
theorem frzF_18 (t : Nat) : frzF 18 t = false := rfl
theorem frzF_19 (t : Nat) : frzF 19 t = (t == 4 || t == 7) := rfl
theorem frzF_20 (t : Nat) : frzF 20 t = (t == 3 || t == 5) := rfl
theorem frzF_22 (t : Nat) : frzF 22 t = false := rfl
theorem frzF_23 (t : Nat) : frzF 23 t = false := rfl
theorem frzF_25 (t : Nat) : frzF 25 t = (t == 2) := rfl
theorem frzF_26 (t : Nat) : frzF 26 t = (t == 3 || t == 5) := rfl
theorem frzF_27 (t : Nat) : frzF 27 t = (t == 4 || t == 7) := rfl
theorem frzF_28 (t : Nat) : frzF 28 t = (t == 2) := rfl
theorem frzF_41 (t : Nat) : frzF 41 t = false := rfl
theorem frzF_61 (t : Nat) : frzF 61 t = false := rfl
theorem frzF_62 (t : Nat) : frzF 62 t = (t == 2 || t == 3) := rfl
theorem frzF_63 (t : Nat) : frzF 63 t = (t == 3 || t == 5) := rfl
theorem frzF_64 (t : Nat) : frzF 64 t = (t == 1) := rfl
theorem frzF_65 (t : Nat) : frzF 65 t = (t == 4 || t == 7) := rfl
theorem frzF_67 (t : Nat) : frzF 67 t = (t == 2) := rfl
theorem frzF_68 (t : Nat) : frzF 68 t = (t == 1) := rfl
theorem frzF_69 (t : Nat) : frzF 69 t = (t == 5) := rfl
theorem frzF_70 (t : Nat) : frzF 70 t = (t == 1) := rfl
theorem frzF_71 (t : Nat) : frzF 71 t = (t == 4 || t == 7) := rfl
theorem frzF_72 (t : Nat) : frzF 72 t = (t == 2) := rfl
theorem frzF_75 (t : Nat) : frzF 75 t = (t == 2) := rfl
theorem frzF_78 (t : Nat) : frzF 78 t = (t == 2) := rfl
theorem frzF_80 (t : Nat) : frzF 80 t = (t == 2) := rfl
theorem frzF_118 (t : Nat) : frzF 118 t = (t == 1) := rfl
theorem frzF_119 (t : Nat) : frzF 119 t = false := rfl
theorem frzF_121 (t : Nat) : frzF 121 t = (t == 1) := rfl
theorem frzF_122 (t : Nat) : frzF 122 t = (t == 2) := rfl
theorem frzF_123 (t : Nat) : frzF 123 t = false := rfl
theorem frzF_124 (t : Nat) : frzF 124 t = (t == 2) := rfl
theorem frzF_125 (t : Nat) : frzF 125 t = (t == 3) := rfl
theorem frzF_126 (t : Nat) : frzF 126 t = (t == 3) := rfl
theorem frzF_127 (t : Nat) : frzF 127 t = (t == 5 || t == 7) := rfl
theorem frzF_128 (t : Nat) : frzF 128 t = false := rfl
theorem frzF_129 (t : Nat) : frzF 129 t = false := rfl
theorem frzF_130 (t : Nat) : frzF 130 t = (t == 1) := rfl
theorem frzF_131 (t : Nat) : frzF 131 t = (t == 1) := rfl
theorem frzF_132 (t : Nat) : frzF 132 t = (t == 1) := rfl
theorem frzF_133 (t : Nat) : frzF 133 t = false := rfl
theorem frzF_134 (t : Nat) : frzF 134 t = false := rfl
theorem frzF_138 (t : Nat) : frzF 138 t = (t == 1) := rfl
theorem frzF_139 (t : Nat) : frzF 139 t = (t == 1) := rfl
theorem frzF_140 (t : Nat) : frzF 140 t = (t == 1) := rfl
theorem frzF_141 (t : Nat) : frzF 141 t = false := rfl
theorem frzF_142 (t : Nat) : frzF 142 t = (t == 2) := rfl
theorem frzF_143 (t : Nat) : frzF 143 t = (t == 1) := rfl
theorem frzF_148 (t : Nat) : frzF 148 t = false := rfl
theorem frzF_182 (t : Nat) : frzF 182 t = (t == 2) := rfl
theorem frzF_186 (t : Nat) : frzF 186 t = (t == 2) := rfl
theorem frzF_187 (t : Nat) : frzF 187 t = false := rfl
theorem frzF_188 (t : Nat) : frzF 188 t = (t == 2) := rfl
theorem frzF_189 (t : Nat) : frzF 189 t = (t == 3) := rfl
theorem frzF_190 (t : Nat) : frzF 190 t = (t == 1) := rfl
theorem frzF_191 (t : Nat) : frzF 191 t = false := rfl
theorem frzF_194 (t : Nat) : frzF 194 t = (t == 3) := rfl
theorem frzF_205 (t : Nat) : frzF 205 t = false := rfl
theorem frzF_206 (t : Nat) : frzF 206 t = false := rfl
theorem frzF_207 (t : Nat) : frzF 207 t = false := rfl
attribute [go_sem] frzF_5 frzF_6 frzF_7 frzF_16 frzF_17 frzF_18 frzF_19 frzF_20 frzF_22 frzF_23 frzF_25 frzF_26 frzF_27 frzF_28 frzF_41 frzF_61 frzF_62 frzF_63 frzF_64 frzF_65 frzF_67 frzF_68 frzF_69 frzF_70 frzF_71 frzF_72 frzF_75 frzF_78 frzF_80 frzF_118 frzF_119 frzF_121 frzF_122 frzF_123 frzF_124 frzF_125 frzF_126 frzF_127 frzF_128 frzF_129 frzF_130 frzF_131 frzF_132 frzF_133 frzF_134 frzF_138 frzF_139 frzF_140 frzF_141 frzF_142 frzF_143 frzF_148 frzF_182 frzF_186 frzF_187 frzF_188 frzF_189 frzF_190 frzF_191 frzF_194 frzF_205 frzF_206 frzF_207
def ownF (f t : Nat) : Option Nat := if f = 28 then (if t = 6 then some 6 else none) else if f = 65 then (if t = 8 then some 8 else if t = 11 then some 11 else none) else if f = 69 then (if t = 58 then some 3 else none) else if f = 71 then (if t = 8 then some 8 else if t = 11 then some 11 else if t = 13 then some 13 else none) else if f = 126 then (if t = 6 then some 6 else none) else none
def awayF (f t : Nat) : List Nat := if f = 28 then (if t = 74 then [6] else if t = 76 then [6] else []) else if f = 65 then (if t = 4 then [11] else if t = 28 then [11] else if t = 31 then [11] else if t = 38 then [8] else if t = 41 then [8] else []) else if f = 69 then (if t = 54 then [3] else []) else if f = 71 then (if t = 4 then [11, 13] else if t = 26 then [11] else if t = 29 then [11] else if t = 36 then [8] else if t = 39 then [8] else if t = 83 then [13] else if t = 86 then [13] else if t = 96 then [8] else if t = 99 then [8] else if t = 141 then [8] else if t = 144 then [8] else []) else if f = 126 then (if t = 8 then [6] else if t = 20 then [6] else []) else []
end Go.Eng
set_option maxRecDepth 100000
set_option linter.unusedVariables false
namespace Go.Eng
open Go Go.RowKit Go.Proofs
/-- the table of package term lies as its initialiser lays it -/
def NeedsLaid (w : World) : Prop := Lib.TabIs Tryd.prog w "sequitur/term.needs" .i64 needsL
theorem gNeeds : Tryd.prog.globalNamed "sequitur/term.needs" = some 2 := by kernel_rfl
theorem NeedsLaid.below {w w' : World} (h : NeedsLaid w) (hb : Below w.heap.size w w') : NeedsLaid w' :=
  Joins.tab_stays (g := 2) gNeeds h hb (Nat.le_refl _)
theorem NeedsLaid.cell {w : World} (h : NeedsLaid w) (i : Nat) (hi : i < 9) : w.cell? ⟨2, i, none⟩ = some (.int .i64 (needsL.getD i 0)) := Lib.TabIs.cell h gNeeds i hi
def globF (v : Nat) : Option (List C) := if v = 2 then some (needsL.map cI) else none
noncomputable def An : Ann := { tk := tkF, ta := taF, lc := lcF, frz := frzF, own := ownF, away := awayF, fn := fun f => fnL.contains f, glob := globF, ext := fun f => if f = 61 then some rightQ else if f = 119 then some sizeQ else if f = 129 then some repQ else none, laid := NeedsLaid }
def termL : List Nat := [121, 182, 118]
/-- three functions of package term, ahead of those that are told by hand -/
def AnT : Ann := { tk := tkF, ta := taF, lc := lcF, frz := frzF, own := ownF, away := awayF, fn := fun f => termL.contains f, glob := globF, ext := fun f => none, laid := NeedsLaid }
theorem An_tk (f t : Nat) : An.tk f t = tkF f t := rfl
theorem An_ta (f t : Nat) : An.ta f t = taF f t := rfl
theorem An_lc (f t : Nat) : An.lc f t = lcF f t := rfl
theorem An_frz (f t : Nat) : An.frz f t = frzF f t := rfl
theorem An_own (f t : Nat) : An.own f t = ownF f t := rfl
theorem An_away (f t : Nat) : An.away f t = awayF f t := rfl
theorem An_glob (v : Nat) : An.glob v = globF v := rfl
theorem AnT_tk (f t : Nat) : AnT.tk f t = tkF f t := rfl
theorem AnT_ta (f t : Nat) : AnT.ta f t = taF f t := rfl
theorem AnT_lc (f t : Nat) : AnT.lc f t = lcF f t := rfl
theorem AnT_frz (f t : Nat) : AnT.frz f t = frzF f t := rfl
theorem AnT_own (f t : Nat) : AnT.own f t = ownF f t := rfl
theorem AnT_away (f t : Nat) : AnT.away f t = awayF f t := rfl
theorem AnT_glob (v : Nat) : AnT.glob v = globF v := rfl
theorem globF_needs : globF 2 = some [.v (.int .i64 0), .v (.int .i64 0), .v (.int .i64 0), .v (.int .i64 8), .v (.int .i64 0), .v (.int .i64 2), .v (.int .i64 2), .v (.int .i64 1), .v (.int .i64 1)] := rfl
theorem glob_ok {A : Ann} (hA : A.glob = globF) {w : World} (h : NeedsLaid w) : GlobOK A (G0 w) := by
  intro v l hl
  rw [hA] at hl
  unfold globF at hl
  split at hl
  · rename_i e
    cases hl
    subst e
    refine ⟨needsL.map (.int .i64), fun j u hj => ?_, ?_⟩
    · have hj9 : j < 9 := by have := (List.getElem?_eq_some_iff.1 hj).1; simpa [needsL] using this
      have := h.cell j hj9
      simp only [G0, memF, Nat.zero_add]
      rw [this]
      rw [List.getElem?_map] at hj
      obtain ⟨x, hx, rfl⟩ := Option.map_eq_some_iff.1 hj
      rw [List.getD_eq_getElem?_getD, hx]; rfl
    · have : ∀ l : List Int, RL (G0 w).F (l.map cI) (l.map (.int .i64)) := by
        intro l
        induction l with
        | nil => simp [RL]
        | cons x r ih => simp only [List.map_cons, RL]; exact ⟨_, _, rfl, by simp [cI, RC, Value.oneCell'], rfl, ih⟩
      exact this needsL
  · cases hl
theorem right_ev (t : Tm) (ht : okT t) (ro : Nat) (m : Mem) : evL Tryd.prog An ro 61 [.c (encT t)] m = some (.c (.v (.int .i64 (rightT t))), m) :=
  evL_ext (cs := [encT t]) (q := rightQ) (by kernel_rfl) rfl (termQ_some ht) rfl
theorem tsize_ev (t : Tm) (ht : okT t) (ro : Nat) (m : Mem) : evL Tryd.prog An ro 119 [.c (encT t)] m = some (.c (.v (.int .i64 (min (sizeT t) 4097 : Nat))), m) :=
  evL_ext (cs := [encT t]) (q := sizeQ) (by kernel_rfl) rfl (termQ_some ht) rfl
theorem rep_ev (s : ByteArray) (n : Nat) (hn : n ≤ 2) (ro : Nat) (m : Mem) : evL Tryd.prog An ro 129 [.c (.sl [.v (.string s)]), .c (.v (.int .i64 n))] m = some (.c (.sl (List.replicate n (.v (.string s)))), m) :=
  evL_ext (cs := [.sl [.v (.string s)], .v (.int .i64 n)]) (q := repQ) (by kernel_rfl) rfl (by simp only [repQ]; rw [if_pos ⟨by omega, by omega⟩]; simp) rfl
attribute [go_sem] An_tk An_ta An_lc An_frz An_own An_away An_glob AnT_tk AnT_ta AnT_lc AnT_frz AnT_own AnT_away AnT_glob globF_needs tkF taF lcF ownF awayF
end Go.Eng
/- Three functions of package term: what is wrong with a part, and how deep a term is. -/
set_option maxRecDepth 100000
set_option linter.unusedVariables false
set_option linter.unusedSimpArgs false
namespace Go.Eng
open Go Go.Proofs
theorem depTs_append (l l2 : List Tm) : depTs (l ++ l2) = max (depTs l) (depTs l2) := by
  induction l with
  | nil => simp [depTs]
  | cons x r ih => simp only [List.cons_append, depTs, ih]; omega
theorem depTs_take (l : List Tm) (i : Nat) (x : Tm) (h : l[i]? = some x) : depTs (l.take (i + 1)) = max (depTs (l.take i)) (depT x) := by
  rw [List.take_add_one, h, depTs_append]; simp [depTs]
theorem depT_eq (t : Tm) : depT t = depTs t.l + 1 := by cases t; rw [depT]; rfl
set_option maxHeartbeats 4000000 in
theorem tdepth_evT (t : Tm) (ht : okT t) (k : Nat) (hk : 1 ≤ k) (hk2 : k ≤ 1000) (ro : Nat) (m : Mem) (hro : ro ≤ m.length) :
    evL Tryd.prog AnT ro 182 [.c (encT t), .c (.v (.int .i64 k))] m = some (.c (.v (.int .i64 (min (depT t) k : Nat))), m) := by
  induction hd : SizeOf.sizeOf t using Nat.strongRecOn generalizing t k ro m with
  | _ d ih =>
  have hlen := ht.len
  have hz := depT_eq t
  have hro1 : ro ≤ m.length + 1 := by omega
  rw [maxLen_eq] at hlen
  refine evL_by (n := 26) (by kernel_rfl) rfl fn182 rfl rfl rfl rfl ?_
  by_cases h1 : k = 1
  · subst h1
    have d1 : decide (((1 : Nat) : Int) ≤ 1) = true := dec_t (by omega)
    have : min (depT t) 1 = 1 := by omega
    simp only [go_sem, ↓reduceIte, d1, this]
    rfl
  · have d1 : decide ((k : Int) ≤ 1) = false := dec_f (by omega)
    simp only [go_sem, ↓reduceIte, d1]
    generalize hL : loopW _ _ = L
    obtain ⟨i, k1, hE, rfl⟩ := loopW_at hL (fun i : Nat => [(5, .c (.v (.int .i64 (min (depTs (t.l.take i)) (k - 1) : Nat)))), (13, .c (.v (.int .i64 i)))]) (fun _ => [] :: m) (fun i => i ≤ t.l.length) (fun i => i = t.l.length) (fun i => t.l.length - i) 0
      (by simp [sets, depTs]) rfl (by omega) (by
      rintro i k1 hE
      obtain ⟨x, hx⟩ : ∃ x, t.l[i]? = some x := ⟨_, List.getElem?_eq_getElem (by omega)⟩
      have c1 : decide ((i : Int) < (t.l.length : Int)) = true := dec_t (by omega)
      have c3 : IntKind.i64.wrap ((i : Int) + 1) = ((i + 1 : Nat) : Int) := wrap64 (by omega) (by omega)
      have c4 : IntKind.i64.wrap ((k : Int) - 1) = ((k - 1 : Nat) : Int) := (wrap64 (by omega) (by omega)).trans (by omega)
      have hmem := List.mem_of_getElem? hx
      have hsub := fun ro m hro => ih _ (by have := Tm.lt hmem; omega) x (ht.arg hmem) (k - 1) (by omega) (by omega) ro m hro rfl
      have htk := depTs_take _ _ _ hx
      have c6 : (if ((min (depT x) (k - 1) : Nat) : Int) > ((min (depTs (t.l.take i)) (k - 1) : Nat) : Int) then ((min (depT x) (k - 1) : Nat) : Int) else ((min (depTs (t.l.take i)) (k - 1) : Nat) : Int)) = ((min (depTs (t.l.take (i + 1))) (k - 1) : Nat) : Int) := by
        split <;> omega
      refine ⟨i + 1, by omega, by omega, ?_⟩
      rw [round_go]
      simp only [go_sem, ↓reduceIte, c1, c3, c4, c6, hx, hsub, hro, hro1])
    clear hL
    subst hE
    rw [loopW_go]
    have c1 : decide ((t.l.length : Int) < (t.l.length : Int)) = false := dec_f (by omega)
    rw [List.take_length]
    have c5 : IntKind.i64.wrap (((min (depTs t.l) (k - 1) : Nat) : Int) + 1) = ((min (depT t) k : Nat) : Int) := (wrap64 (by omega) (by omega)).trans (by omega)
    simp only [go_sem, ↓reduceIte, c1, c5]
set_option maxHeartbeats 2000000 in
theorem tDepth_evT (t : Tm) (ht : okT t) (ro : Nat) (m : Mem) (hro : ro ≤ m.length) : evL Tryd.prog AnT ro 118 [.c (encT t)] m = some (.c (.v (.int .i64 (min (depT t) 65 : Nat))), m) := by
  refine evL_by (n := 5) (by kernel_rfl) rfl fn118 rfl rfl rfl rfl ?_
  have hro1 : ro ≤ m.length + 1 := by omega
  have h := fun ro m hro => tdepth_evT t ht 65 (by omega) (by omega) ro m hro
  have e : ((65 : Nat) : Int) = 65 := rfl
  simp only [e] at h
  simp only [go_sem, ↓reduceIte, h, hro1]
end Go.Eng
