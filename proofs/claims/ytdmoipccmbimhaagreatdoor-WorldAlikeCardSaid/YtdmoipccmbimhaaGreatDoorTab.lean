-- own work: an evaluator of the program's code, and what it answers
import Derived.Test.YtdmoipccmbimhaaGreatDoorEngC
import Derived.KernelRfl
import Derived.Test.YtdmoipccmbimhaaGreatDoorProg
import Derived.Lib.LaidTab
import Derived.Lib.Fields
import Derived.Lib.SmallJoins
-- Printed by this work's own program (engtab.py). Not trusted: Lean checks it.
set_option maxRecDepth 100000
set_option linter.unusedSimpArgs false
set_option linter.unusedVariables false
namespace Go.Eng
open Go Go.Proofs
theorem ty2 : tyOf Tryz.prog 2 = some { size := 1, bytes := 8, agg := false, zero := [V.c (C.v (Value.int IntKind.i64 0))], kind := K.int IntKind.i64 } := by kernel_rfl
theorem ty3 : tyOf Tryz.prog 3 = some { size := 1, bytes := 8, agg := false, zero := [V.c (C.v (Value.int IntKind.i64 0))], kind := K.int IntKind.i64 } := by kernel_rfl
theorem ty4 : tyOf Tryz.prog 4 = some { size := 1, bytes := 1, agg := false, zero := [V.c (C.v (Value.bool false))], kind := K.bool } := by kernel_rfl
theorem ty5 : tyOf Tryz.prog 5 = some { size := 1, bytes := 1, agg := false, zero := [V.c (C.v (Value.int IntKind.u8 0))], kind := K.int IntKind.u8 } := by kernel_rfl
theorem ty9 : tyOf Tryz.prog 9 = some { size := 1, bytes := 16, agg := false, zero := [V.c (C.v (Value.string ByteArray.empty))], kind := K.str } := by kernel_rfl
theorem ty22 : tyOf Tryz.prog 22 = some { size := 1, bytes := 24, agg := false, zero := [V.tip none []], kind := K.slice 9 } := by kernel_rfl
theorem ty23 : tyOf Tryz.prog 23 = some { size := 1, bytes := 24, agg := false, zero := [V.tip none []], kind := K.slice 103 } := by kernel_rfl
theorem ty25 : tyOf Tryz.prog 25 = some { size := 2, bytes := 48, agg := true, zero := [V.tip none [], V.tip none []], kind := K.struct [{ off := 0, size := 1, agg := false }, { off := 1, size := 1, agg := false }] } := by kernel_rfl
theorem ty26 : tyOf Tryz.prog 26 = some { size := 1, bytes := 24, agg := false, zero := [V.tip none []], kind := K.slice 3 } := by kernel_rfl
theorem ty27 : tyOf Tryz.prog 27 = some { size := 1, bytes := 24, agg := false, zero := [V.tip none []], kind := K.slice 26 } := by kernel_rfl
theorem ty29 : tyOf Tryz.prog 29 = some { size := 2, bytes := 48, agg := true, zero := [V.tip none [], V.tip none []], kind := K.struct [{ off := 0, size := 1, agg := false }, { off := 1, size := 1, agg := false }] } := by kernel_rfl
theorem ty31 : tyOf Tryz.prog 31 = some { size := 1, bytes := 8, agg := false, zero := [V.c (C.v (Value.int IntKind.i64 0))], kind := K.int IntKind.i64 } := by kernel_rfl
theorem ty34 : tyOf Tryz.prog 34 = some { size := 2, bytes := 48, agg := true, zero := [V.tip none [], V.tip none []], kind := K.struct [{ off := 0, size := 1, agg := false }, { off := 1, size := 1, agg := false }] } := by kernel_rfl
theorem ty37 : tyOf Tryz.prog 37 = some { size := 1, bytes := 24, agg := false, zero := [V.tip none []], kind := K.slice 125 } := by kernel_rfl
theorem ty38 : tyOf Tryz.prog 38 = some { size := 1, bytes := 24, agg := false, zero := [V.tip none []], kind := K.slice 75 } := by kernel_rfl
theorem ty39 : tyOf Tryz.prog 39 = some { size := 1, bytes := 24, agg := false, zero := [V.tip none []], kind := K.slice 57 } := by kernel_rfl
theorem ty40 : tyOf Tryz.prog 40 = some { size := 1, bytes := 24, agg := false, zero := [V.tip none []], kind := K.slice 42 } := by kernel_rfl
theorem ty42 : tyOf Tryz.prog 42 = some { size := 5, bytes := 88, agg := true, zero := [V.c (C.v (Value.int IntKind.i64 0)), V.c (C.v (Value.string ByteArray.empty)), V.c (C.v (Value.string ByteArray.empty)), V.tip none [], V.tip none []], kind := K.struct [{ off := 0, size := 1, agg := false }, { off := 1, size := 1, agg := false }, { off := 2, size := 1, agg := false }, { off := 3, size := 1, agg := false }, { off := 4, size := 1, agg := false }] } := by kernel_rfl
theorem ty47 : tyOf Tryz.prog 47 = some { size := 2, bytes := 16, agg := true, zero := [V.c (C.v (Value.bool false)), V.c (C.v (Value.int IntKind.i64 0))], kind := K.struct [{ off := 0, size := 1, agg := false }, { off := 1, size := 1, agg := false }] } := by kernel_rfl
theorem ty49 : tyOf Tryz.prog 49 = some { size := 1, bytes := 24, agg := false, zero := [V.tip none []], kind := K.slice 118 } := by kernel_rfl
theorem ty57 : tyOf Tryz.prog 57 = some { size := 4, bytes := 56, agg := true, zero := [V.c (C.v (Value.int IntKind.i64 0)), V.c (C.v (Value.string ByteArray.empty)), V.c (C.v (Value.int IntKind.i64 0)), V.tip none []], kind := K.struct [{ off := 0, size := 1, agg := false }, { off := 1, size := 1, agg := false }, { off := 2, size := 1, agg := false }, { off := 3, size := 1, agg := false }] } := by kernel_rfl
theorem ty62 : tyOf Tryz.prog 62 = some { size := 2, bytes := 16, agg := true, zero := [V.c (C.v (Value.int IntKind.i64 0)), V.c (C.v (Value.int IntKind.i64 0))], kind := K.struct [{ off := 0, size := 1, agg := false }, { off := 1, size := 1, agg := false }] } := by kernel_rfl
theorem ty65 : tyOf Tryz.prog 65 = some { size := 1, bytes := 24, agg := false, zero := [V.tip none []], kind := K.slice 68 } := by kernel_rfl
theorem ty68 : tyOf Tryz.prog 68 = some { size := 5, bytes := 72, agg := true, zero := [V.c (C.v (Value.string ByteArray.empty)), V.c (C.v (Value.int IntKind.i64 0)), V.c (C.v (Value.string ByteArray.empty)), V.c (C.v (Value.int IntKind.i64 0)), V.tip none []], kind := K.struct [{ off := 0, size := 1, agg := false }, { off := 1, size := 4, agg := true }] } := by kernel_rfl
theorem ty72 : tyOf Tryz.prog 72 = some { size := 3, bytes := 48, agg := true, zero := [V.c (C.v (Value.string ByteArray.empty)), V.tip none [], V.c (C.v (Value.int IntKind.i64 0))], kind := K.struct [{ off := 0, size := 1, agg := false }, { off := 1, size := 1, agg := false }, { off := 2, size := 1, agg := false }] } := by kernel_rfl
theorem ty75 : tyOf Tryz.prog 75 = some { size := 2, bytes := 24, agg := true, zero := [V.c (C.v (Value.string ByteArray.empty)), V.c (C.v (Value.int IntKind.i64 0))], kind := K.struct [{ off := 0, size := 1, agg := false }, { off := 1, size := 1, agg := false }] } := by kernel_rfl
theorem ty80 : tyOf Tryz.prog 80 = some { size := 1, bytes := 8, agg := false, zero := [V.c (C.v Value.nilFunc)], kind := K.other } := by kernel_rfl
theorem ty88 : tyOf Tryz.prog 88 = some { size := 1, bytes := 24, agg := false, zero := [V.tip none []], kind := K.slice 92 } := by kernel_rfl
theorem ty90 : tyOf Tryz.prog 90 = some { size := 7, bytes := 136, agg := true, zero := [V.tip none [], V.tip none [], V.c (C.v (Value.int IntKind.i64 0)), V.c (C.v (Value.string ByteArray.empty)), V.c (C.v (Value.string ByteArray.empty)), V.tip none [], V.tip none []], kind := K.struct [{ off := 0, size := 1, agg := false }, { off := 1, size := 1, agg := false }, { off := 2, size := 5, agg := true }] } := by kernel_rfl
theorem ty92 : tyOf Tryz.prog 92 = some { size := 6, bytes := 104, agg := true, zero := [V.c (C.v (Value.string ByteArray.empty)), V.c (C.v (Value.int IntKind.i64 0)), V.c (C.v (Value.string ByteArray.empty)), V.c (C.v (Value.string ByteArray.empty)), V.tip none [], V.tip none []], kind := K.struct [{ off := 0, size := 1, agg := false }, { off := 1, size := 5, agg := true }] } := by kernel_rfl
theorem ty100 : tyOf Tryz.prog 100 = some { size := 1, bytes := 8, agg := false, zero := [V.c (C.v (Value.map none))], kind := K.map TypeDesc.string 3 } := by kernel_rfl
theorem ty103 : tyOf Tryz.prog 103 = some { size := 3, bytes := 56, agg := true, zero := [V.c (C.v (Value.string ByteArray.empty)), V.tip none [], V.c (C.v (Value.string ByteArray.empty))], kind := K.struct [{ off := 0, size := 1, agg := false }, { off := 1, size := 1, agg := false }, { off := 2, size := 1, agg := false }] } := by kernel_rfl
theorem ty106 : tyOf Tryz.prog 106 = some { size := 1, bytes := 8, agg := false, zero := [V.c (C.v Value.nilFunc)], kind := K.other } := by kernel_rfl
theorem ty111 : tyOf Tryz.prog 111 = some { size := 1, bytes := 24, agg := false, zero := [V.tip none []], kind := K.slice 2 } := by kernel_rfl
theorem ty113 : tyOf Tryz.prog 113 = some { size := 8, bytes := 176, agg := true, zero := [V.tip none [], V.tip none [], V.tip none [], V.tip none [], V.c (C.v (Value.map none)), V.tip none [], V.tip none [], V.tip none []], kind := K.struct [{ off := 0, size := 2, agg := true }, { off := 2, size := 2, agg := true }, { off := 4, size := 1, agg := false }, { off := 5, size := 1, agg := false }, { off := 6, size := 1, agg := false }, { off := 7, size := 1, agg := false }] } := by kernel_rfl
theorem ty118 : tyOf Tryz.prog 118 = some { size := 2, bytes := 24, agg := true, zero := [V.c (C.v (Value.string ByteArray.empty)), V.c (C.v (Value.int IntKind.i64 0))], kind := K.struct [{ off := 0, size := 1, agg := false }, { off := 1, size := 1, agg := false }] } := by kernel_rfl
theorem ty125 : tyOf Tryz.prog 125 = some { size := 2, bytes := 32, agg := true, zero := [V.c (C.v (Value.string ByteArray.empty)), V.c (C.v (Value.string ByteArray.empty))], kind := K.struct [{ off := 0, size := 1, agg := false }, { off := 1, size := 1, agg := false }] } := by kernel_rfl
theorem ty135 : tyOf Tryz.prog 135 = some { size := 1, bytes := 8, agg := false, zero := [V.c (C.v Value.nilFunc)], kind := K.other } := by kernel_rfl
theorem ty137 : tyOf Tryz.prog 137 = some { size := 1, bytes := 8, agg := false, zero := [V.c (C.v Value.nilFunc)], kind := K.other } := by kernel_rfl
theorem ty139 : tyOf Tryz.prog 139 = some { size := 4, bytes := 80, agg := true, zero := [V.tip none [], V.tip none [], V.c (C.v Value.nilFunc), V.tip none []], kind := K.struct [{ off := 0, size := 2, agg := true }, { off := 2, size := 1, agg := false }, { off := 3, size := 1, agg := false }] } := by kernel_rfl
theorem ty144 : tyOf Tryz.prog 144 = some { size := 1, bytes := 24, agg := false, zero := [V.tip none []], kind := K.slice 4 } := by kernel_rfl
theorem ty171 : tyOf Tryz.prog 171 = some { size := 1, bytes := 8, agg := false, zero := [V.c (C.v Value.nilFunc)], kind := K.other } := by kernel_rfl
theorem ty174 : tyOf Tryz.prog 174 = some { size := 1, bytes := 8, agg := false, zero := [V.c (C.v Value.nilFunc)], kind := K.other } := by kernel_rfl
theorem ty184 : tyOf Tryz.prog 184 = some { size := 1, bytes := 8, agg := false, zero := [V.c (C.v Value.nilFunc)], kind := K.other } := by kernel_rfl
theorem ty186 : tyOf Tryz.prog 186 = some { size := 1, bytes := 8, agg := false, zero := [V.c (C.v (Value.int IntKind.u64 0))], kind := K.int IntKind.u64 } := by kernel_rfl
theorem ty193 : tyOf Tryz.prog 193 = some { size := 2, bytes := 16, agg := true, zero := [V.c (C.v (Value.int IntKind.i64 0)), V.c (C.v (Value.int IntKind.u64 0))], kind := K.struct [{ off := 0, size := 1, agg := false }, { off := 1, size := 1, agg := false }] } := by kernel_rfl
theorem ty201 : tyOf Tryz.prog 201 = some { size := 1, bytes := 8, agg := false, zero := [V.c (C.v Value.nilFunc)], kind := K.other } := by kernel_rfl
theorem ty210 : tyOf Tryz.prog 210 = some { size := 1, bytes := 8, agg := false, zero := [V.c (C.v Value.nilFunc)], kind := K.other } := by kernel_rfl
theorem ty215 : tyOf Tryz.prog 215 = some { size := 9, bytes := 72, agg := true, zero := [V.c (C.v (Value.int IntKind.i64 0)), V.c (C.v (Value.int IntKind.i64 0)), V.c (C.v (Value.int IntKind.i64 0)), V.c (C.v (Value.int IntKind.i64 0)), V.c (C.v (Value.int IntKind.i64 0)), V.c (C.v (Value.int IntKind.i64 0)), V.c (C.v (Value.int IntKind.i64 0)), V.c (C.v (Value.int IntKind.i64 0)), V.c (C.v (Value.int IntKind.i64 0))], kind := K.arr 9 3 } := by kernel_rfl
attribute [go_sem] ty2 ty3 ty4 ty5 ty9 ty22 ty23 ty25 ty26 ty27 ty29 ty31 ty34 ty37 ty38 ty39 ty40 ty42 ty47 ty49 ty57 ty62 ty65 ty68 ty72 ty75 ty80 ty88 ty90 ty92 ty100 ty103 ty106 ty111 ty113 ty118 ty125 ty135 ty137 ty139 ty144 ty171 ty174 ty184 ty186 ty193 ty201 ty210 ty215
theorem fn3 : Tryz.prog.funcs[3]? = some Tryz.f3 := by kernel_rfl
theorem fn4 : Tryz.prog.funcs[4]? = some Tryz.f4 := by kernel_rfl
theorem fn5 : Tryz.prog.funcs[5]? = some Tryz.f5 := by kernel_rfl
theorem fn6 : Tryz.prog.funcs[6]? = some Tryz.f6 := by kernel_rfl
theorem fn7 : Tryz.prog.funcs[7]? = some Tryz.f7 := by kernel_rfl
theorem fn8 : Tryz.prog.funcs[8]? = some Tryz.f8 := by kernel_rfl
theorem fn9 : Tryz.prog.funcs[9]? = some Tryz.f9 := by kernel_rfl
theorem fn10 : Tryz.prog.funcs[10]? = some Tryz.f10 := by kernel_rfl
theorem fn11 : Tryz.prog.funcs[11]? = some Tryz.f11 := by kernel_rfl
theorem fn12 : Tryz.prog.funcs[12]? = some Tryz.f12 := by kernel_rfl
theorem fn13 : Tryz.prog.funcs[13]? = some Tryz.f13 := by kernel_rfl
theorem fn14 : Tryz.prog.funcs[14]? = some Tryz.f14 := by kernel_rfl
theorem fn15 : Tryz.prog.funcs[15]? = some Tryz.f15 := by kernel_rfl
theorem fn16 : Tryz.prog.funcs[16]? = some Tryz.f16 := by kernel_rfl
theorem fn17 : Tryz.prog.funcs[17]? = some Tryz.f17 := by kernel_rfl
theorem fn18 : Tryz.prog.funcs[18]? = some Tryz.f18 := by kernel_rfl
theorem fn19 : Tryz.prog.funcs[19]? = some Tryz.f19 := by kernel_rfl
theorem fn20 : Tryz.prog.funcs[20]? = some Tryz.f20 := by kernel_rfl
theorem fn21 : Tryz.prog.funcs[21]? = some Tryz.f21 := by kernel_rfl
theorem fn22 : Tryz.prog.funcs[22]? = some Tryz.f22 := by kernel_rfl
theorem fn23 : Tryz.prog.funcs[23]? = some Tryz.f23 := by kernel_rfl
theorem fn24 : Tryz.prog.funcs[24]? = some Tryz.f24 := by kernel_rfl
theorem fn25 : Tryz.prog.funcs[25]? = some Tryz.f25 := by kernel_rfl
theorem fn26 : Tryz.prog.funcs[26]? = some Tryz.f26 := by kernel_rfl
theorem fn27 : Tryz.prog.funcs[27]? = some Tryz.f27 := by kernel_rfl
theorem fn28 : Tryz.prog.funcs[28]? = some Tryz.f28 := by kernel_rfl
theorem fn29 : Tryz.prog.funcs[29]? = some Tryz.f29 := by kernel_rfl
theorem fn30 : Tryz.prog.funcs[30]? = some Tryz.f30 := by kernel_rfl
theorem fn31 : Tryz.prog.funcs[31]? = some Tryz.f31 := by kernel_rfl
theorem fn32 : Tryz.prog.funcs[32]? = some Tryz.f32 := by kernel_rfl
theorem fn33 : Tryz.prog.funcs[33]? = some Tryz.f33 := by kernel_rfl
theorem fn34 : Tryz.prog.funcs[34]? = some Tryz.f34 := by kernel_rfl
theorem fn35 : Tryz.prog.funcs[35]? = some Tryz.f35 := by kernel_rfl
theorem fn36 : Tryz.prog.funcs[36]? = some Tryz.f36 := by kernel_rfl
theorem fn37 : Tryz.prog.funcs[37]? = some Tryz.f37 := by kernel_rfl
theorem fn38 : Tryz.prog.funcs[38]? = some Tryz.f38 := by kernel_rfl
theorem fn39 : Tryz.prog.funcs[39]? = some Tryz.f39 := by kernel_rfl
theorem fn40 : Tryz.prog.funcs[40]? = some Tryz.f40 := by kernel_rfl
theorem fn41 : Tryz.prog.funcs[41]? = some Tryz.f41 := by kernel_rfl
theorem fn42 : Tryz.prog.funcs[42]? = some Tryz.f42 := by kernel_rfl
theorem fn43 : Tryz.prog.funcs[43]? = some Tryz.f43 := by kernel_rfl
theorem fn44 : Tryz.prog.funcs[44]? = some Tryz.f44 := by kernel_rfl
theorem fn45 : Tryz.prog.funcs[45]? = some Tryz.f45 := by kernel_rfl
theorem fn46 : Tryz.prog.funcs[46]? = some Tryz.f46 := by kernel_rfl
theorem fn47 : Tryz.prog.funcs[47]? = some Tryz.f47 := by kernel_rfl
theorem fn48 : Tryz.prog.funcs[48]? = some Tryz.f48 := by kernel_rfl
theorem fn49 : Tryz.prog.funcs[49]? = some Tryz.f49 := by kernel_rfl
theorem fn50 : Tryz.prog.funcs[50]? = some Tryz.f50 := by kernel_rfl
theorem fn51 : Tryz.prog.funcs[51]? = some Tryz.f51 := by kernel_rfl
theorem fn52 : Tryz.prog.funcs[52]? = some Tryz.f52 := by kernel_rfl
theorem fn53 : Tryz.prog.funcs[53]? = some Tryz.f53 := by kernel_rfl
theorem fn54 : Tryz.prog.funcs[54]? = some Tryz.f54 := by kernel_rfl
theorem fn55 : Tryz.prog.funcs[55]? = some Tryz.f55 := by kernel_rfl
theorem fn56 : Tryz.prog.funcs[56]? = some Tryz.f56 := by kernel_rfl
theorem fn57 : Tryz.prog.funcs[57]? = some Tryz.f57 := by kernel_rfl
theorem fn58 : Tryz.prog.funcs[58]? = some Tryz.f58 := by kernel_rfl
theorem fn59 : Tryz.prog.funcs[59]? = some Tryz.f59 := by kernel_rfl
theorem fn60 : Tryz.prog.funcs[60]? = some Tryz.f60 := by kernel_rfl
theorem fn61 : Tryz.prog.funcs[61]? = some Tryz.f61 := by kernel_rfl
theorem fn62 : Tryz.prog.funcs[62]? = some Tryz.f62 := by kernel_rfl
theorem fn63 : Tryz.prog.funcs[63]? = some Tryz.f63 := by kernel_rfl
theorem fn64 : Tryz.prog.funcs[64]? = some Tryz.f64 := by kernel_rfl
theorem fn65 : Tryz.prog.funcs[65]? = some Tryz.f65 := by kernel_rfl
theorem fn66 : Tryz.prog.funcs[66]? = some Tryz.f66 := by kernel_rfl
theorem fn67 : Tryz.prog.funcs[67]? = some Tryz.f67 := by kernel_rfl
theorem fn68 : Tryz.prog.funcs[68]? = some Tryz.f68 := by kernel_rfl
theorem fn69 : Tryz.prog.funcs[69]? = some Tryz.f69 := by kernel_rfl
theorem fn70 : Tryz.prog.funcs[70]? = some Tryz.f70 := by kernel_rfl
theorem fn71 : Tryz.prog.funcs[71]? = some Tryz.f71 := by kernel_rfl
theorem fn72 : Tryz.prog.funcs[72]? = some Tryz.f72 := by kernel_rfl
theorem fn73 : Tryz.prog.funcs[73]? = some Tryz.f73 := by kernel_rfl
theorem fn74 : Tryz.prog.funcs[74]? = some Tryz.f74 := by kernel_rfl
theorem fn75 : Tryz.prog.funcs[75]? = some Tryz.f75 := by kernel_rfl
theorem fn76 : Tryz.prog.funcs[76]? = some Tryz.f76 := by kernel_rfl
theorem fn77 : Tryz.prog.funcs[77]? = some Tryz.f77 := by kernel_rfl
theorem fn78 : Tryz.prog.funcs[78]? = some Tryz.f78 := by kernel_rfl
theorem fn79 : Tryz.prog.funcs[79]? = some Tryz.f79 := by kernel_rfl
theorem fn80 : Tryz.prog.funcs[80]? = some Tryz.f80 := by kernel_rfl
theorem fn81 : Tryz.prog.funcs[81]? = some Tryz.f81 := by kernel_rfl
theorem fn82 : Tryz.prog.funcs[82]? = some Tryz.f82 := by kernel_rfl
theorem fn83 : Tryz.prog.funcs[83]? = some Tryz.f83 := by kernel_rfl
theorem fn84 : Tryz.prog.funcs[84]? = some Tryz.f84 := by kernel_rfl
theorem fn85 : Tryz.prog.funcs[85]? = some Tryz.f85 := by kernel_rfl
theorem fn86 : Tryz.prog.funcs[86]? = some Tryz.f86 := by kernel_rfl
theorem fn87 : Tryz.prog.funcs[87]? = some Tryz.f87 := by kernel_rfl
theorem fn88 : Tryz.prog.funcs[88]? = some Tryz.f88 := by kernel_rfl
theorem fn89 : Tryz.prog.funcs[89]? = some Tryz.f89 := by kernel_rfl
theorem fn90 : Tryz.prog.funcs[90]? = some Tryz.f90 := by kernel_rfl
theorem fn91 : Tryz.prog.funcs[91]? = some Tryz.f91 := by kernel_rfl
theorem fn92 : Tryz.prog.funcs[92]? = some Tryz.f92 := by kernel_rfl
theorem fn93 : Tryz.prog.funcs[93]? = some Tryz.f93 := by kernel_rfl
theorem fn94 : Tryz.prog.funcs[94]? = some Tryz.f94 := by kernel_rfl
theorem fn95 : Tryz.prog.funcs[95]? = some Tryz.f95 := by kernel_rfl
theorem fn96 : Tryz.prog.funcs[96]? = some Tryz.f96 := by kernel_rfl
theorem fn97 : Tryz.prog.funcs[97]? = some Tryz.f97 := by kernel_rfl
theorem fn98 : Tryz.prog.funcs[98]? = some Tryz.f98 := by kernel_rfl
theorem fn99 : Tryz.prog.funcs[99]? = some Tryz.f99 := by kernel_rfl
theorem fn100 : Tryz.prog.funcs[100]? = some Tryz.f100 := by kernel_rfl
theorem fn101 : Tryz.prog.funcs[101]? = some Tryz.f101 := by kernel_rfl
theorem fn102 : Tryz.prog.funcs[102]? = some Tryz.f102 := by kernel_rfl
theorem fn103 : Tryz.prog.funcs[103]? = some Tryz.f103 := by kernel_rfl
theorem fn104 : Tryz.prog.funcs[104]? = some Tryz.f104 := by kernel_rfl
theorem fn105 : Tryz.prog.funcs[105]? = some Tryz.f105 := by kernel_rfl
theorem fn106 : Tryz.prog.funcs[106]? = some Tryz.f106 := by kernel_rfl
theorem fn107 : Tryz.prog.funcs[107]? = some Tryz.f107 := by kernel_rfl
theorem fn108 : Tryz.prog.funcs[108]? = some Tryz.f108 := by kernel_rfl
theorem fn109 : Tryz.prog.funcs[109]? = some Tryz.f109 := by kernel_rfl
theorem fn110 : Tryz.prog.funcs[110]? = some Tryz.f110 := by kernel_rfl
theorem fn111 : Tryz.prog.funcs[111]? = some Tryz.f111 := by kernel_rfl
theorem fn112 : Tryz.prog.funcs[112]? = some Tryz.f112 := by kernel_rfl
theorem fn113 : Tryz.prog.funcs[113]? = some Tryz.f113 := by kernel_rfl
theorem fn114 : Tryz.prog.funcs[114]? = some Tryz.f114 := by kernel_rfl
theorem fn115 : Tryz.prog.funcs[115]? = some Tryz.f115 := by kernel_rfl
theorem fn116 : Tryz.prog.funcs[116]? = some Tryz.f116 := by kernel_rfl
theorem fn117 : Tryz.prog.funcs[117]? = some Tryz.f117 := by kernel_rfl
theorem fn118 : Tryz.prog.funcs[118]? = some Tryz.f118 := by kernel_rfl
theorem fn119 : Tryz.prog.funcs[119]? = some Tryz.f119 := by kernel_rfl
theorem fn120 : Tryz.prog.funcs[120]? = some Tryz.f120 := by kernel_rfl
theorem fn121 : Tryz.prog.funcs[121]? = some Tryz.f121 := by kernel_rfl
theorem fn122 : Tryz.prog.funcs[122]? = some Tryz.f122 := by kernel_rfl
theorem fn123 : Tryz.prog.funcs[123]? = some Tryz.f123 := by kernel_rfl
theorem fn124 : Tryz.prog.funcs[124]? = some Tryz.f124 := by kernel_rfl
theorem fn125 : Tryz.prog.funcs[125]? = some Tryz.f125 := by kernel_rfl
theorem fn126 : Tryz.prog.funcs[126]? = some Tryz.f126 := by kernel_rfl
theorem fn127 : Tryz.prog.funcs[127]? = some Tryz.f127 := by kernel_rfl
theorem fn128 : Tryz.prog.funcs[128]? = some Tryz.f128 := by kernel_rfl
theorem fn129 : Tryz.prog.funcs[129]? = some Tryz.f129 := by kernel_rfl
theorem fn130 : Tryz.prog.funcs[130]? = some Tryz.f130 := by kernel_rfl
theorem fn131 : Tryz.prog.funcs[131]? = some Tryz.f131 := by kernel_rfl
theorem fn132 : Tryz.prog.funcs[132]? = some Tryz.f132 := by kernel_rfl
theorem fn133 : Tryz.prog.funcs[133]? = some Tryz.f133 := by kernel_rfl
theorem fn134 : Tryz.prog.funcs[134]? = some Tryz.f134 := by kernel_rfl
theorem fn135 : Tryz.prog.funcs[135]? = some Tryz.f135 := by kernel_rfl
theorem fn136 : Tryz.prog.funcs[136]? = some Tryz.f136 := by kernel_rfl
theorem fn137 : Tryz.prog.funcs[137]? = some Tryz.f137 := by kernel_rfl
theorem fn138 : Tryz.prog.funcs[138]? = some Tryz.f138 := by kernel_rfl
theorem fn139 : Tryz.prog.funcs[139]? = some Tryz.f139 := by kernel_rfl
theorem fn140 : Tryz.prog.funcs[140]? = some Tryz.f140 := by kernel_rfl
theorem fn141 : Tryz.prog.funcs[141]? = some Tryz.f141 := by kernel_rfl
theorem fn142 : Tryz.prog.funcs[142]? = some Tryz.f142 := by kernel_rfl
theorem fn143 : Tryz.prog.funcs[143]? = some Tryz.f143 := by kernel_rfl
theorem fn144 : Tryz.prog.funcs[144]? = some Tryz.f144 := by kernel_rfl
theorem fn145 : Tryz.prog.funcs[145]? = some Tryz.f145 := by kernel_rfl
theorem fn146 : Tryz.prog.funcs[146]? = some Tryz.f146 := by kernel_rfl
theorem fn147 : Tryz.prog.funcs[147]? = some Tryz.f147 := by kernel_rfl
theorem fn148 : Tryz.prog.funcs[148]? = some Tryz.f148 := by kernel_rfl
theorem fn149 : Tryz.prog.funcs[149]? = some Tryz.f149 := by kernel_rfl
theorem fn150 : Tryz.prog.funcs[150]? = some Tryz.f150 := by kernel_rfl
theorem fn151 : Tryz.prog.funcs[151]? = some Tryz.f151 := by kernel_rfl
theorem fn152 : Tryz.prog.funcs[152]? = some Tryz.f152 := by kernel_rfl
theorem fn153 : Tryz.prog.funcs[153]? = some Tryz.f153 := by kernel_rfl
theorem fn154 : Tryz.prog.funcs[154]? = some Tryz.f154 := by kernel_rfl
theorem fn155 : Tryz.prog.funcs[155]? = some Tryz.f155 := by kernel_rfl
theorem fn156 : Tryz.prog.funcs[156]? = some Tryz.f156 := by kernel_rfl
theorem fn157 : Tryz.prog.funcs[157]? = some Tryz.f157 := by kernel_rfl
theorem fn158 : Tryz.prog.funcs[158]? = some Tryz.f158 := by kernel_rfl
theorem fn159 : Tryz.prog.funcs[159]? = some Tryz.f159 := by kernel_rfl
theorem fn160 : Tryz.prog.funcs[160]? = some Tryz.f160 := by kernel_rfl
theorem fn161 : Tryz.prog.funcs[161]? = some Tryz.f161 := by kernel_rfl
theorem fn163 : Tryz.prog.funcs[163]? = some Tryz.f163 := by kernel_rfl
theorem fn164 : Tryz.prog.funcs[164]? = some Tryz.f164 := by kernel_rfl
theorem fn165 : Tryz.prog.funcs[165]? = some Tryz.f165 := by kernel_rfl
theorem fn166 : Tryz.prog.funcs[166]? = some Tryz.f166 := by kernel_rfl
theorem fn167 : Tryz.prog.funcs[167]? = some Tryz.f167 := by kernel_rfl
theorem fn168 : Tryz.prog.funcs[168]? = some Tryz.f168 := by kernel_rfl
theorem fn170 : Tryz.prog.funcs[170]? = some Tryz.f170 := by kernel_rfl
theorem fn174 : Tryz.prog.funcs[174]? = some Tryz.f174 := by kernel_rfl
def fnL : List Nat := [3, 4, 5, 6, 7, 8, 9, 10, 11, 12, 13, 14, 15, 16, 17, 18, 19, 20, 21, 22, 23, 24, 25, 26, 27, 28, 29, 30, 31, 32, 33, 34, 35, 36, 37, 38, 39, 40, 41, 42, 43, 44, 45, 46, 47, 48, 49, 50, 51, 52, 53, 54, 55, 56, 57, 58, 59, 60, 61, 62, 63, 64, 65, 66, 67, 68, 69, 70, 71, 72, 73, 74, 75, 76, 77, 78, 79, 80, 81, 82, 83, 84, 85, 86, 87, 88, 89, 90, 91, 92, 93, 94, 95, 96, 97, 98, 99, 100, 101, 102, 103, 104, 105, 106, 107, 108, 109, 110, 111, 112, 113, 114, 115, 116, 117, 118, 119, 120, 121, 122, 123, 124, 125, 126, 127, 128, 129, 130, 131, 132, 133, 134, 135, 136, 137, 138, 139, 140, 141, 142, 143, 144, 145, 146, 147, 148, 149, 150, 151, 152, 153, 154, 155, 156, 157, 158, 159, 160, 161, 163, 164, 165, 166, 167, 168, 170, 174]
def tkF (f t : Nat) : Bool := if f = 7 then t == 117 || t == 124 || t == 134 else if f = 18 then t == 11 else if f = 19 then t == 56 else if f = 32 then t == 64 || t == 80 else if f = 33 then t == 70 || t == 81 else if f = 51 then t == 54 else if f = 53 then t == 44 || t == 86 else if f = 58 then t == 39 else if f = 61 then t == 44 else if f = 62 then t == 34 else if f = 63 then t == 25 || t == 55 else if f = 77 then t == 26 else if f = 81 then t == 42 else if f = 105 then t == 22 else if f = 121 then t == 36 else false
def taF (f t : Nat) : Bool := false
def lcF (f t : Nat) : Bool := false
def frzF (f t : Nat) : Bool := if f = 3 then t == 2 || t == 3 else if f = 4 then t == 5 || t == 6 || t == 9 else if f = 5 then t == 6 || t == 7 || t == 10 else if f = 6 then t == 5 || t == 6 || t == 9 else if f = 7 then t == 7 || t == 8 || t == 12 || t == 13 else if f = 8 then t == 3 || t == 5 else if f = 9 then t == 4 || t == 5 || t == 7 else if f = 10 then t == 2 || t == 3 else if f = 11 then t == 2 || t == 3 else if f = 12 then t == 2 || t == 3 else if f = 13 then t == 1 else if f = 15 then t == 2 else if f = 16 then t == 5 || t == 6 || t == 9 else if f = 17 then t == 5 || t == 6 || t == 9 else if f = 19 then t == 2 else if f = 20 then t == 1 else if f = 21 then t == 2 else if f = 22 then t == 5 || t == 6 || t == 9 else if f = 23 then t == 5 || t == 6 || t == 9 else if f = 24 then t == 2 else if f = 25 then t == 1 else if f = 27 then t == 4 || t == 7 else if f = 28 then t == 3 else if f = 29 then t == 3 else if f = 30 then t == 2 else if f = 32 then t == 3 else if f = 33 then t == 3 else if f = 36 then t == 4 || t == 5 || t == 7 else if f = 37 then t == 4 || t == 5 || t == 7 else if f = 38 then t == 3 || t == 4 else if f = 39 then t == 3 || t == 4 || t == 5 else if f = 40 then t == 3 || t == 4 || t == 5 else if f = 41 then t == 2 else if f = 43 then t == 3 else if f = 46 then t == 2 else if f = 47 then t == 3 || t == 4 || t == 5 else if f = 48 then t == 3 || t == 4 else if f = 49 then t == 3 || t == 5 else if f = 50 then t == 4 || t == 5 else if f = 51 then t == 2 || t == 3 else if f = 52 then t == 4 || t == 7 else if f = 53 then t == 6 || t == 7 || t == 11 else if f = 54 then t == 2 else if f = 55 then t == 1 else if f = 56 then t == 3 || t == 5 else if f = 57 then t == 2 || t == 3 else if f = 58 then t == 6 || t == 7 || t == 11 else if f = 59 then t == 2 else if f = 60 then t == 1 else if f = 61 then t == 4 || t == 7 else if f = 62 then t == 4 else if f = 63 then t == 4 else if f = 67 then t == 1 else if f = 70 then t == 1 else if f = 72 then t == 1 else if f = 73 then t == 1 else if f = 74 then t == 1 else if f = 75 then t == 2 || t == 3 else if f = 76 then t == 5 else if f = 77 then t == 2 else if f = 78 then t == 2 || t == 3 else if f = 79 then t == 3 || t == 4 else if f = 81 then t == 4 || t == 7 else if f = 82 then t == 6 || t == 7 || t == 11 else if f = 83 then t == 2 else if f = 84 then t == 4 || t == 5 else if f = 85 then t == 4 || t == 7 else if f = 86 then t == 2 || t == 3 else if f = 92 then t == 5 || t == 6 else if f = 98 then t == 1 else if f = 99 then t == 1 else if f = 100 then t == 1 else if f = 102 then t == 2 else if f = 107 then t == 3 else if f = 110 then t == 2 || t == 3 else if f = 114 then t == 2 else if f = 115 then t == 1 else if f = 116 then t == 1 else if f = 117 then t == 1 else if f = 118 then t == 2 else if f = 120 then t == 2 else if f = 121 then t == 3 else if f = 122 then t == 2 else if f = 124 then t == 3 else if f = 125 then t == 5 || t == 7 else if f = 128 then t == 2 else if f = 130 then t == 3 || t == 5 else if f = 131 then t == 2 else if f = 133 then t == 2 else if f = 138 then t == 1 else if f = 139 then t == 2 || t == 3 else if f = 141 then t == 1 else if f = 143 then t == 2 else if f = 155 then t == 2 else if f = 156 then t == 3 else if f = 158 then t == 1 else if f = 160 then t == 2 else if f = 161 then t == 1 else if f = 163 then t == 1 else if f = 170 then t == 2 else false
theorem frzF_3 (t : Nat) : frzF 3 t = (t == 2 || t == 3) := rfl
theorem frzF_4 (t : Nat) : frzF 4 t = (t == 5 || t == 6 || t == 9) := rfl
theorem frzF_5 (t : Nat) : frzF 5 t = (t == 6 || t == 7 || t == 10) := rfl
theorem frzF_6 (t : Nat) : frzF 6 t = (t == 5 || t == 6 || t == 9) := rfl
theorem frzF_7 (t : Nat) : frzF 7 t = (t == 7 || t == 8 || t == 12 || t == 13) := rfl
theorem frzF_8 (t : Nat) : frzF 8 t = (t == 3 || t == 5) := rfl
theorem frzF_9 (t : Nat) : frzF 9 t = (t == 4 || t == 5 || t == 7) := rfl
theorem frzF_10 (t : Nat) : frzF 10 t = (t == 2 || t == 3) := rfl
theorem frzF_11 (t : Nat) : frzF 11 t = (t == 2 || t == 3) := rfl
theorem frzF_12 (t : Nat) : frzF 12 t = (t == 2 || t == 3) := rfl
theorem frzF_13 (t : Nat) : frzF 13 t = (t == 1) := rfl
theorem frzF_14 (t : Nat) : frzF 14 t = false := rfl
theorem frzF_15 (t : Nat) : frzF 15 t = (t == 2) := rfl
theorem frzF_16 (t : Nat) : frzF 16 t = (t == 5 || t == 6 || t == 9) := rfl
theorem frzF_17 (t : Nat) : frzF 17 t = (t == 5 || t == 6 || t == 9) := rfl
theorem frzF_18 (t : Nat) : frzF 18 t = false := rfl
theorem frzF_19 (t : Nat) : frzF 19 t = (t == 2) := rfl
theorem frzF_20 (t : Nat) : frzF 20 t = (t == 1) := rfl
theorem frzF_21 (t : Nat) : frzF 21 t = (t == 2) := rfl
theorem frzF_22 (t : Nat) : frzF 22 t = (t == 5 || t == 6 || t == 9) := rfl
theorem frzF_23 (t : Nat) : frzF 23 t = (t == 5 || t == 6 || t == 9) := rfl
theorem frzF_24 (t : Nat) : frzF 24 t = (t == 2) := rfl
theorem frzF_25 (t : Nat) : frzF 25 t = (t == 1) := rfl
theorem frzF_26 (t : Nat) : frzF 26 t = false := rfl
theorem frzF_27 (t : Nat) : frzF 27 t = (t == 4 || t == 7) := rfl
theorem frzF_28 (t : Nat) : frzF 28 t = (t == 3) := rfl
theorem frzF_29 (t : Nat) : frzF 29 t = (t == 3) := rfl
theorem frzF_30 (t : Nat) : frzF 30 t = (t == 2) := rfl
theorem frzF_31 (t : Nat) : frzF 31 t = false := rfl
theorem frzF_32 (t : Nat) : frzF 32 t = (t == 3) := rfl
theorem frzF_33 (t : Nat) : frzF 33 t = (t == 3) := rfl
theorem frzF_34 (t : Nat) : frzF 34 t = false := rfl
theorem frzF_35 (t : Nat) : frzF 35 t = false := rfl
theorem frzF_36 (t : Nat) : frzF 36 t = (t == 4 || t == 5 || t == 7) := rfl
theorem frzF_37 (t : Nat) : frzF 37 t = (t == 4 || t == 5 || t == 7) := rfl
theorem frzF_38 (t : Nat) : frzF 38 t = (t == 3 || t == 4) := rfl
theorem frzF_39 (t : Nat) : frzF 39 t = (t == 3 || t == 4 || t == 5) := rfl
theorem frzF_40 (t : Nat) : frzF 40 t = (t == 3 || t == 4 || t == 5) := rfl
theorem frzF_41 (t : Nat) : frzF 41 t = (t == 2) := rfl
theorem frzF_42 (t : Nat) : frzF 42 t = false := rfl
theorem frzF_43 (t : Nat) : frzF 43 t = (t == 3) := rfl
theorem frzF_44 (t : Nat) : frzF 44 t = false := rfl
theorem frzF_45 (t : Nat) : frzF 45 t = false := rfl
theorem frzF_46 (t : Nat) : frzF 46 t = (t == 2) := rfl
theorem frzF_47 (t : Nat) : frzF 47 t = (t == 3 || t == 4 || t == 5) := rfl
theorem frzF_48 (t : Nat) : frzF 48 t = (t == 3 || t == 4) := rfl
theorem frzF_49 (t : Nat) : frzF 49 t = (t == 3 || t == 5) := rfl
theorem frzF_50 (t : Nat) : frzF 50 t = (t == 4 || t == 5) := rfl
theorem frzF_51 (t : Nat) : frzF 51 t = (t == 2 || t == 3) := rfl
theorem frzF_52 (t : Nat) : frzF 52 t = (t == 4 || t == 7) := rfl
theorem frzF_53 (t : Nat) : frzF 53 t = (t == 6 || t == 7 || t == 11) := rfl
theorem frzF_54 (t : Nat) : frzF 54 t = (t == 2) := rfl
theorem frzF_55 (t : Nat) : frzF 55 t = (t == 1) := rfl
theorem frzF_56 (t : Nat) : frzF 56 t = (t == 3 || t == 5) := rfl
theorem frzF_57 (t : Nat) : frzF 57 t = (t == 2 || t == 3) := rfl
theorem frzF_58 (t : Nat) : frzF 58 t = (t == 6 || t == 7 || t == 11) := rfl
theorem frzF_59 (t : Nat) : frzF 59 t = (t == 2) := rfl
theorem frzF_60 (t : Nat) : frzF 60 t = (t == 1) := rfl
theorem frzF_61 (t : Nat) : frzF 61 t = (t == 4 || t == 7) := rfl
theorem frzF_62 (t : Nat) : frzF 62 t = (t == 4) := rfl
theorem frzF_63 (t : Nat) : frzF 63 t = (t == 4) := rfl
theorem frzF_64 (t : Nat) : frzF 64 t = false := rfl
theorem frzF_65 (t : Nat) : frzF 65 t = false := rfl
theorem frzF_66 (t : Nat) : frzF 66 t = false := rfl
theorem frzF_67 (t : Nat) : frzF 67 t = (t == 1) := rfl
theorem frzF_68 (t : Nat) : frzF 68 t = false := rfl
theorem frzF_69 (t : Nat) : frzF 69 t = false := rfl
theorem frzF_70 (t : Nat) : frzF 70 t = (t == 1) := rfl
theorem frzF_71 (t : Nat) : frzF 71 t = false := rfl
theorem frzF_72 (t : Nat) : frzF 72 t = (t == 1) := rfl
theorem frzF_73 (t : Nat) : frzF 73 t = (t == 1) := rfl
theorem frzF_74 (t : Nat) : frzF 74 t = (t == 1) := rfl
theorem frzF_75 (t : Nat) : frzF 75 t = (t == 2 || t == 3) := rfl
theorem frzF_76 (t : Nat) : frzF 76 t = (t == 5) := rfl
theorem frzF_77 (t : Nat) : frzF 77 t = (t == 2) := rfl
theorem frzF_78 (t : Nat) : frzF 78 t = (t == 2 || t == 3) := rfl
theorem frzF_79 (t : Nat) : frzF 79 t = (t == 3 || t == 4) := rfl
theorem frzF_80 (t : Nat) : frzF 80 t = false := rfl
theorem frzF_81 (t : Nat) : frzF 81 t = (t == 4 || t == 7) := rfl
theorem frzF_82 (t : Nat) : frzF 82 t = (t == 6 || t == 7 || t == 11) := rfl
theorem frzF_83 (t : Nat) : frzF 83 t = (t == 2) := rfl
theorem frzF_84 (t : Nat) : frzF 84 t = (t == 4 || t == 5) := rfl
theorem frzF_85 (t : Nat) : frzF 85 t = (t == 4 || t == 7) := rfl
theorem frzF_86 (t : Nat) : frzF 86 t = (t == 2 || t == 3) := rfl
theorem frzF_87 (t : Nat) : frzF 87 t = false := rfl
theorem frzF_88 (t : Nat) : frzF 88 t = false := rfl
theorem frzF_89 (t : Nat) : frzF 89 t = false := rfl
theorem frzF_90 (t : Nat) : frzF 90 t = false := rfl
theorem frzF_91 (t : Nat) : frzF 91 t = false := rfl
theorem frzF_92 (t : Nat) : frzF 92 t = (t == 5 || t == 6) := rfl
theorem frzF_93 (t : Nat) : frzF 93 t = false := rfl
theorem frzF_94 (t : Nat) : frzF 94 t = false := rfl
theorem frzF_95 (t : Nat) : frzF 95 t = false := rfl
theorem frzF_96 (t : Nat) : frzF 96 t = false := rfl
theorem frzF_97 (t : Nat) : frzF 97 t = false := rfl
theorem frzF_98 (t : Nat) : frzF 98 t = (t == 1) := rfl
theorem frzF_99 (t : Nat) : frzF 99 t = (t == 1) := rfl
theorem frzF_100 (t : Nat) : frzF 100 t = (t == 1) := rfl
theorem frzF_101 (t : Nat) : frzF 101 t = false := rfl
theorem frzF_102 (t : Nat) : frzF 102 t = (t == 2) := rfl
theorem frzF_103 (t : Nat) : frzF 103 t = false := rfl
theorem frzF_104 (t : Nat) : frzF 104 t = false := rfl
theorem frzF_105 (t : Nat) : frzF 105 t = false := rfl
theorem frzF_106 (t : Nat) : frzF 106 t = false := rfl
theorem frzF_107 (t : Nat) : frzF 107 t = (t == 3) := rfl
theorem frzF_108 (t : Nat) : frzF 108 t = false := rfl
theorem frzF_109 (t : Nat) : frzF 109 t = false := rfl
theorem frzF_110 (t : Nat) : frzF 110 t = (t == 2 || t == 3) := rfl
theorem frzF_111 (t : Nat) : frzF 111 t = false := rfl
theorem frzF_112 (t : Nat) : frzF 112 t = false := rfl
theorem frzF_113 (t : Nat) : frzF 113 t = false := rfl
theorem frzF_114 (t : Nat) : frzF 114 t = (t == 2) := rfl
theorem frzF_115 (t : Nat) : frzF 115 t = (t == 1) := rfl
theorem frzF_116 (t : Nat) : frzF 116 t = (t == 1) := rfl
theorem frzF_117 (t : Nat) : frzF 117 t = (t == 1) := rfl
theorem frzF_118 (t : Nat) : frzF 118 t = (t == 2) := rfl
theorem frzF_119 (t : Nat) : frzF 119 t = false := rfl
theorem frzF_120 (t : Nat) : frzF 120 t = (t == 2) := rfl
theorem frzF_121 (t : Nat) : frzF 121 t = (t == 3) := rfl
theorem frzF_122 (t : Nat) : frzF 122 t = (t == 2) := rfl
theorem frzF_123 (t : Nat) : frzF 123 t = false := rfl
theorem frzF_124 (t : Nat) : frzF 124 t = (t == 3) := rfl
theorem frzF_125 (t : Nat) : frzF 125 t = (t == 5 || t == 7) := rfl
theorem frzF_126 (t : Nat) : frzF 126 t = false := rfl
theorem frzF_127 (t : Nat) : frzF 127 t = false := rfl
theorem frzF_128 (t : Nat) : frzF 128 t = (t == 2) := rfl
theorem frzF_129 (t : Nat) : frzF 129 t = false := rfl
theorem frzF_130 (t : Nat) : frzF 130 t = (t == 3 || t == 5) := rfl
theorem frzF_131 (t : Nat) : frzF 131 t = (t == 2) := rfl
theorem frzF_132 (t : Nat) : frzF 132 t = false := rfl
theorem frzF_133 (t : Nat) : frzF 133 t = (t == 2) := rfl
theorem frzF_134 (t : Nat) : frzF 134 t = false := rfl
theorem frzF_135 (t : Nat) : frzF 135 t = false := rfl
theorem frzF_136 (t : Nat) : frzF 136 t = false := rfl
theorem frzF_137 (t : Nat) : frzF 137 t = false := rfl
theorem frzF_138 (t : Nat) : frzF 138 t = (t == 1) := rfl
theorem frzF_139 (t : Nat) : frzF 139 t = (t == 2 || t == 3) := rfl
theorem frzF_140 (t : Nat) : frzF 140 t = false := rfl
theorem frzF_141 (t : Nat) : frzF 141 t = (t == 1) := rfl
theorem frzF_142 (t : Nat) : frzF 142 t = false := rfl
theorem frzF_143 (t : Nat) : frzF 143 t = (t == 2) := rfl
theorem frzF_144 (t : Nat) : frzF 144 t = false := rfl
theorem frzF_145 (t : Nat) : frzF 145 t = false := rfl
theorem frzF_146 (t : Nat) : frzF 146 t = false := rfl
theorem frzF_147 (t : Nat) : frzF 147 t = false := rfl
theorem frzF_148 (t : Nat) : frzF 148 t = false := rfl
theorem frzF_149 (t : Nat) : frzF 149 t = false := rfl
theorem frzF_150 (t : Nat) : frzF 150 t = false := rfl
theorem frzF_151 (t : Nat) : frzF 151 t = false := rfl
theorem frzF_152 (t : Nat) : frzF 152 t = false := rfl
theorem frzF_153 (t : Nat) : frzF 153 t = false := rfl
theorem frzF_154 (t : Nat) : frzF 154 t = false := rfl
theorem frzF_155 (t : Nat) : frzF 155 t = (t == 2) := rfl
theorem frzF_156 (t : Nat) : frzF 156 t = (t == 3) := rfl
theorem frzF_157 (t : Nat) : frzF 157 t = false := rfl
theorem frzF_158 (t : Nat) : frzF 158 t = (t == 1) := rfl
theorem frzF_159 (t : Nat) : frzF 159 t = false := rfl
theorem frzF_160 (t : Nat) : frzF 160 t = (t == 2) := rfl
theorem frzF_161 (t : Nat) : frzF 161 t = (t == 1) := rfl
theorem frzF_163 (t : Nat) : frzF 163 t = (t == 1) := rfl
theorem frzF_164 (t : Nat) : frzF 164 t = false := rfl
theorem frzF_165 (t : Nat) : frzF 165 t = false := rfl
theorem frzF_166 (t : Nat) : frzF 166 t = false := rfl
theorem frzF_167 (t : Nat) : frzF 167 t = false := rfl
theorem frzF_168 (t : Nat) : frzF 168 t = false := rfl
theorem frzF_170 (t : Nat) : frzF 170 t = (t == 2) := rfl
theorem frzF_174 (t : Nat) : frzF 174 t = false := rfl
attribute [go_sem] frzF_3 frzF_4 frzF_5 frzF_6 frzF_7 frzF_8 frzF_9 frzF_10 frzF_11 frzF_12 frzF_13 frzF_14 frzF_15 frzF_16 frzF_17 frzF_18 frzF_19 frzF_20 frzF_21 frzF_22 frzF_23 frzF_24 frzF_25 frzF_26 frzF_27 frzF_28 frzF_29 frzF_30 frzF_31 frzF_32 frzF_33 frzF_34 frzF_35 frzF_36 frzF_37 frzF_38 frzF_39 frzF_40 frzF_41 frzF_42 frzF_43 frzF_44 frzF_45 frzF_46 frzF_47 frzF_48 frzF_49 frzF_50 frzF_51 frzF_52 frzF_53 frzF_54 frzF_55 frzF_56 frzF_57 frzF_58 frzF_59 frzF_60 frzF_61 frzF_62 frzF_63 frzF_64 frzF_65 frzF_66 frzF_67 frzF_68 frzF_69 frzF_70 frzF_71 frzF_72 frzF_73 frzF_74 frzF_75 frzF_76 frzF_77 frzF_78 frzF_79 frzF_80 frzF_81 frzF_82 frzF_83 frzF_84 frzF_85 frzF_86 frzF_87 frzF_88 frzF_89 frzF_90 frzF_91 frzF_92 frzF_93 frzF_94 frzF_95 frzF_96 frzF_97 frzF_98 frzF_99 frzF_100 frzF_101 frzF_102 frzF_103 frzF_104 frzF_105 frzF_106 frzF_107 frzF_108 frzF_109 frzF_110 frzF_111 frzF_112 frzF_113 frzF_114 frzF_115 frzF_116 frzF_117 frzF_118 frzF_119 frzF_120 frzF_121 frzF_122 frzF_123 frzF_124 frzF_125 frzF_126 frzF_127 frzF_128 frzF_129 frzF_130 frzF_131 frzF_132 frzF_133 frzF_134 frzF_135 frzF_136 frzF_137 frzF_138 frzF_139 frzF_140 frzF_141 frzF_142 frzF_143 frzF_144 frzF_145 frzF_146 frzF_147 frzF_148 frzF_149 frzF_150 frzF_151 frzF_152 frzF_153 frzF_154 frzF_155 frzF_156 frzF_157 frzF_158 frzF_159 frzF_160 frzF_161 frzF_163 frzF_164 frzF_165 frzF_166 frzF_167 frzF_168 frzF_170 frzF_174
def ownF (f t : Nat) : Option Nat := if f = 4 then (if t = 13 then some 13 else none) else if f = 6 then (if t = 13 then some 13 else none) else if f = 9 then (if t = 12 then some 12 else if t = 16 then some 16 else none) else if f = 50 then (if t = 8 then some 8 else none) else if f = 53 then (if t = 12 then some 12 else if t = 15 then some 15 else if t = 18 then some 18 else none) else if f = 58 then (if t = 12 then some 12 else if t = 15 then some 15 else none) else if f = 61 then (if t = 8 then some 8 else if t = 11 then some 11 else none) else if f = 63 then (if t = 36 then some 7 else if t = 66 then some 7 else none) else if f = 72 then (if t = 7 then some 7 else none) else if f = 76 then (if t = 58 then some 3 else none) else if f = 81 then (if t = 8 then some 8 else if t = 11 then some 11 else if t = 13 then some 13 else none) else if f = 82 then (if t = 16 then some 16 else none) else if f = 124 then (if t = 6 then some 6 else none) else none
def awayF (f t : Nat) : List Nat := if f = 4 then (if t = 5 then [13] else if t = 6 then [13] else if t = 9 then [13] else []) else if f = 6 then (if t = 5 then [13] else if t = 6 then [13] else if t = 9 then [13] else []) else if f = 9 then (if t = 4 then [12, 16] else if t = 5 then [12, 16] else if t = 7 then [12, 16] else []) else if f = 50 then (if t = 4 then [8] else if t = 5 then [8] else if t = 12 then [8] else []) else if f = 53 then (if t = 6 then [15, 18] else if t = 7 then [15, 18] else if t = 32 then [15] else if t = 35 then [15] else if t = 76 then [18] else if t = 79 then [18] else if t = 116 then [12] else if t = 119 then [12] else if t = 126 then [12] else if t = 129 then [12] else if t = 177 then [12] else if t = 180 then [12] else []) else if f = 58 then (if t = 6 then [15] else if t = 7 then [15] else if t = 29 then [15] else if t = 32 then [15] else if t = 75 then [12] else if t = 78 then [12] else if t = 87 then [12] else if t = 90 then [12] else if t = 107 then [12] else if t = 110 then [12] else []) else if f = 61 then (if t = 4 then [11] else if t = 28 then [11] else if t = 31 then [11] else if t = 38 then [8] else if t = 41 then [8] else []) else if f = 63 then (if t = 27 then [7] else if t = 30 then [7] else if t = 57 then [7] else if t = 60 then [7] else []) else if f = 72 then (if t = 68 then [7] else if t = 73 then [7] else []) else if f = 76 then (if t = 54 then [3] else []) else if f = 81 then (if t = 4 then [11, 13] else if t = 26 then [11] else if t = 29 then [11] else if t = 36 then [8] else if t = 39 then [8] else if t = 83 then [13] else if t = 86 then [13] else if t = 96 then [8] else if t = 99 then [8] else if t = 141 then [8] else if t = 144 then [8] else []) else if f = 82 then (if t = 6 then [16] else if t = 7 then [16] else if t = 40 then [16] else if t = 42 then [16] else []) else if f = 124 then (if t = 8 then [6] else if t = 20 then [6] else []) else []
end Go.Eng
set_option maxRecDepth 100000
set_option linter.unusedVariables false
namespace Go.Eng
open Go Go.RowKit Go.Proofs
/-- the table of package term lies as its initialiser lays it -/
def NeedsLaid (w : World) : Prop := Lib.TabIs Tryz.prog w "sequitur/term.needs" .i64 needsL
theorem gNeeds : Tryz.prog.globalNamed "sequitur/term.needs" = some 0 := by kernel_rfl
theorem NeedsLaid.below {w w' : World} (h : NeedsLaid w) (hb : Below w.heap.size w w') : NeedsLaid w' :=
  Joins.tab_stays (g := 0) gNeeds h hb (Nat.le_refl _)
theorem NeedsLaid.cell {w : World} (h : NeedsLaid w) (i : Nat) (hi : i < 9) : w.cell? ⟨0, i, none⟩ = some (.int .i64 (needsL.getD i 0)) := Lib.TabIs.cell h gNeeds i hi
/-- the library's table of blanks lies as its initialiser lays it -/
def LaidW (w : World) : Prop := Lib.TabIs Tryz.prog w "strings.asciiSpace" .u8 Lib.asciiSpaceTab
def LaidA (w : World) : Prop := NeedsLaid w ∧ LaidW w
def globF (v : Nat) : Option (List C) := if v = 0 then some (needsL.map cI) else none
/-- all that the first machine may call: not the functions that are told by hand behind it -/
def fnA : List Nat := fnL.filter fun f => ![68, 42, 135, 133].contains f
noncomputable def An : Ann := { tk := tkF, ta := taF, lc := lcF, frz := frzF, own := ownF, away := awayF, fn := fun f => fnA.contains f, glob := globF, ext := fun f => if f = 129 then some rightQ else if f = 157 then some sizeQ else if f = 164 then some repQ else if f = 150 then some wordQ else none, laid := LaidA }
def termL : List Nat := [163, 170, 161]
/-- three functions of package term, ahead of those that are told by hand -/
def AnT : Ann := { tk := tkF, ta := taF, lc := lcF, frz := frzF, own := ownF, away := awayF, fn := fun f => termL.contains f, glob := globF, ext := fun f => none, laid := NeedsLaid }
theorem An_tk (f t : Nat) : An.tk f t = tkF f t := rfl
theorem An_ta (f t : Nat) : An.ta f t = taF f t := rfl
theorem An_lc (f t : Nat) : An.lc f t = lcF f t := rfl
theorem An_frz (f t : Nat) : An.frz f t = frzF f t := rfl
theorem An_own (f t : Nat) : An.own f t = ownF f t := rfl
theorem An_away (f t : Nat) : An.away f t = awayF f t := rfl
theorem An_glob (v : Nat) : An.glob v = globF v := rfl
theorem AnT_tk (f t : Nat) : AnT.tk f t = tkF f t := rfl
theorem AnT_ta (f t : Nat) : AnT.ta f t = taF f t := rfl
theorem AnT_lc (f t : Nat) : AnT.lc f t = lcF f t := rfl
theorem AnT_frz (f t : Nat) : AnT.frz f t = frzF f t := rfl
theorem AnT_own (f t : Nat) : AnT.own f t = ownF f t := rfl
theorem AnT_away (f t : Nat) : AnT.away f t = awayF f t := rfl
theorem AnT_glob (v : Nat) : AnT.glob v = globF v := rfl
theorem globF_needs : globF 0 = some [.v (.int .i64 0), .v (.int .i64 0), .v (.int .i64 0), .v (.int .i64 8), .v (.int .i64 0), .v (.int .i64 2), .v (.int .i64 2), .v (.int .i64 1), .v (.int .i64 1)] := rfl
theorem glob_ok {A : Ann} (hA : A.glob = globF) {w : World} (h : NeedsLaid w) : GlobOK A (G0 w) := by
  intro v l hl
  rw [hA] at hl
  unfold globF at hl
  split at hl
  · rename_i e
    cases hl
    subst e
    refine ⟨needsL.map (.int .i64), fun j u hj => ?_, ?_⟩
    · have hj9 : j < 9 := by have := (List.getElem?_eq_some_iff.1 hj).1; simpa [needsL] using this
      have := h.cell j hj9
      simp only [G0, memF, Nat.zero_add]
      rw [this]
      rw [List.getElem?_map] at hj
      obtain ⟨x, hx, rfl⟩ := Option.map_eq_some_iff.1 hj
      rw [List.getD_eq_getElem?_getD, hx]; rfl
    · have : ∀ l : List Int, RL (G0 w).F (l.map cI) (l.map (.int .i64)) := by
        intro l
        induction l with
        | nil => simp [RL]
        | cons x r ih => simp only [List.map_cons, RL]; exact ⟨_, _, rfl, by simp [cI, RC, Value.oneCell'], rfl, ih⟩
      exact this needsL
  · cases hl
theorem right_ev (t : Tm) (ht : okT t) (ro : Nat) (m : Mem) : evL Tryz.prog An ro 129 [.c (encT t)] m = some (.c (.v (.int .i64 (rightT t))), m) :=
  evL_ext (cs := [encT t]) (q := rightQ) (by kernel_rfl) rfl (termQ_some ht) rfl
theorem tsize_ev (t : Tm) (ht : okT t) (ro : Nat) (m : Mem) : evL Tryz.prog An ro 157 [.c (encT t)] m = some (.c (.v (.int .i64 (min (sizeT t) 4097 : Nat))), m) :=
  evL_ext (cs := [encT t]) (q := sizeQ) (by kernel_rfl) rfl (termQ_some ht) rfl
theorem rep_ev (s : ByteArray) (n : Nat) (hn : n ≤ 2) (ro : Nat) (m : Mem) : evL Tryz.prog An ro 164 [.c (.sl [.v (.string s)]), .c (.v (.int .i64 n))] m = some (.c (.sl (List.replicate n (.v (.string s)))), m) :=
  evL_ext (cs := [.sl [.v (.string s)], .v (.int .i64 n)]) (q := repQ) (by kernel_rfl) rfl (by simp only [repQ]; rw [if_pos ⟨by omega, by omega⟩]; simp) rfl
theorem word_ev (s : ByteArray) (hs : s.size ≤ maxLen) (ro : Nat) (m : Mem) : evL Tryz.prog An ro 150 [.c (.v (.string s))] m = some (.c (.v (.bool (wordL s.data.toList))), m) :=
  evL_ext (cs := [.v (.string s)]) (q := wordQ) (by kernel_rfl) rfl (by simp only [wordQ]; rw [if_pos (by rw [maxLen_eq] at hs; omega)]) rfl
attribute [go_sem] An_tk An_ta An_lc An_frz An_own An_away An_glob AnT_tk AnT_ta AnT_lc AnT_frz AnT_own AnT_away AnT_glob globF_needs tkF taF lcF ownF awayF
end Go.Eng
/- Three functions of package term: what is wrong with a part, and how deep a term is. -/
set_option maxRecDepth 100000
set_option linter.unusedVariables false
set_option linter.unusedSimpArgs false
namespace Go.Eng
open Go Go.Proofs
theorem depTs_append (l l2 : List Tm) : depTs (l ++ l2) = max (depTs l) (depTs l2) := by
  induction l with
  | nil => simp [depTs]
  | cons x r ih => simp only [List.cons_append, depTs, ih]; omega
theorem depTs_take (l : List Tm) (i : Nat) (x : Tm) (h : l[i]? = some x) : depTs (l.take (i + 1)) = max (depTs (l.take i)) (depT x) := by
  rw [List.take_add_one, h, depTs_append]; simp [depTs]
theorem depT_eq (t : Tm) : depT t = depTs t.l + 1 := by cases t; rw [depT]; rfl
set_option maxHeartbeats 4000000 in
theorem tdepth_evT (t : Tm) (ht : okT t) (k : Nat) (hk : 1 ≤ k) (hk2 : k ≤ 1000) (ro : Nat) (m : Mem) (hro : ro ≤ m.length) :
    evL Tryz.prog AnT ro 170 [.c (encT t), .c (.v (.int .i64 k))] m = some (.c (.v (.int .i64 (min (depT t) k : Nat))), m) := by
  induction hd : SizeOf.sizeOf t using Nat.strongRecOn generalizing t k ro m with
  | _ d ih =>
  have hlen := ht.len
  have hz := depT_eq t
  have hro1 : ro ≤ m.length + 1 := by omega
  rw [maxLen_eq] at hlen
  refine evL_by (n := 26) (by kernel_rfl) rfl fn170 rfl rfl rfl rfl ?_
  by_cases h1 : k = 1
  · subst h1
    have d1 : decide (((1 : Nat) : Int) ≤ 1) = true := dec_t (by omega)
    have : min (depT t) 1 = 1 := by omega
    simp only [go_sem, ↓reduceIte, d1, this]
    rfl
  · have d1 : decide ((k : Int) ≤ 1) = false := dec_f (by omega)
    simp only [go_sem, ↓reduceIte, d1]
    generalize hL : loopW _ _ = L
    obtain ⟨i, k1, hE, rfl⟩ := loopW_at hL (fun i : Nat => [(5, .c (.v (.int .i64 (min (depTs (t.l.take i)) (k - 1) : Nat)))), (13, .c (.v (.int .i64 i)))]) (fun _ => [] :: m) (fun i => i ≤ t.l.length) (fun i => i = t.l.length) (fun i => t.l.length - i) 0
      (by simp [sets, depTs]) rfl (by omega) (by
      rintro i k1 hE
      obtain ⟨x, hx⟩ : ∃ x, t.l[i]? = some x := ⟨_, List.getElem?_eq_getElem (by omega)⟩
      have c1 : decide ((i : Int) < (t.l.length : Int)) = true := dec_t (by omega)
      have c3 : IntKind.i64.wrap ((i : Int) + 1) = ((i + 1 : Nat) : Int) := wrap64 (by omega) (by omega)
      have c4 : IntKind.i64.wrap ((k : Int) - 1) = ((k - 1 : Nat) : Int) := (wrap64 (by omega) (by omega)).trans (by omega)
      have hmem := List.mem_of_getElem? hx
      have hsub := fun ro m hro => ih _ (by have := Tm.lt hmem; omega) x (ht.arg hmem) (k - 1) (by omega) (by omega) ro m hro rfl
      have htk := depTs_take _ _ _ hx
      have c6 : (if ((min (depT x) (k - 1) : Nat) : Int) > ((min (depTs (t.l.take i)) (k - 1) : Nat) : Int) then ((min (depT x) (k - 1) : Nat) : Int) else ((min (depTs (t.l.take i)) (k - 1) : Nat) : Int)) = ((min (depTs (t.l.take (i + 1))) (k - 1) : Nat) : Int) := by
        split <;> omega
      refine ⟨i + 1, by omega, by omega, ?_⟩
      rw [round_go]
      simp only [go_sem, ↓reduceIte, c1, c3, c4, c6, hx, hsub, hro, hro1])
    clear hL
    subst hE
    rw [loopW_go]
    have c1 : decide ((t.l.length : Int) < (t.l.length : Int)) = false := dec_f (by omega)
    rw [List.take_length]
    have c5 : IntKind.i64.wrap (((min (depTs t.l) (k - 1) : Nat) : Int) + 1) = ((min (depT t) k : Nat) : Int) := (wrap64 (by omega) (by omega)).trans (by omega)
    simp only [go_sem, ↓reduceIte, c1, c5]
set_option maxHeartbeats 2000000 in
theorem tDepth_evT (t : Tm) (ht : okT t) (ro : Nat) (m : Mem) (hro : ro ≤ m.length) : evL Tryz.prog AnT ro 161 [.c (encT t)] m = some (.c (.v (.int .i64 (min (depT t) 65 : Nat))), m) := by
  refine evL_by (n := 5) (by kernel_rfl) rfl fn161 rfl rfl rfl rfl ?_
  have hro1 : ro ≤ m.length + 1 := by omega
  have h := fun ro m hro => tdepth_evT t ht 65 (by omega) (by omega) ro m hro
  have e : ((65 : Nat) : Int) = 65 := rfl
  simp only [e] at h
  simp only [go_sem, ↓reduceIte, h, hro1]
end Go.Eng
