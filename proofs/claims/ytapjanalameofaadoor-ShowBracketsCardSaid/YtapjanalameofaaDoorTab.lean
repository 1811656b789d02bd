-- own work: an evaluator of the program's code, and what it answers
import Derived.Test.YtapjanalameofaaDoorEngC
import Derived.KernelRfl
import Derived.Test.YtapjanalameofaaDoorProg
import Derived.Test.YtapjanalameofaaDoorShow2
import Derived.Lib.LaidTab
import Derived.Lib.Fields
import Derived.Lib.SmallJoins
import Derived.Lib.ItoaNum
-- Printed by this work's own program (engtab.py). Not trusted: Lean checks it.
set_option maxRecDepth 100000
set_option linter.unusedSimpArgs false
set_option linter.unusedVariables false
namespace Go.Eng
open Go Go.Proofs
theorem ty2 : tyOf Tryd.prog 2 = some { size := 1, bytes := 8, agg := false, zero := [V.c (C.v (Value.int IntKind.i64 0))], kind := K.int IntKind.i64 } := by kernel_rfl
theorem ty3 : tyOf Tryd.prog 3 = some { size := 1, bytes := 8, agg := false, zero := [V.c (C.v (Value.int IntKind.i64 0))], kind := K.int IntKind.i64 } := by kernel_rfl
theorem ty4 : tyOf Tryd.prog 4 = some { size := 1, bytes := 1, agg := false, zero := [V.c (C.v (Value.bool false))], kind := K.bool } := by kernel_rfl
theorem ty5 : tyOf Tryd.prog 5 = some { size := 1, bytes := 1, agg := false, zero := [V.c (C.v (Value.int IntKind.u8 0))], kind := K.int IntKind.u8 } := by kernel_rfl
theorem ty9 : tyOf Tryd.prog 9 = some { size := 1, bytes := 16, agg := false, zero := [V.c (C.v (Value.string ByteArray.empty))], kind := K.str } := by kernel_rfl
theorem ty22 : tyOf Tryd.prog 22 = some { size := 1, bytes := 24, agg := false, zero := [V.tip none []], kind := K.slice 24 } := by kernel_rfl
theorem ty24 : tyOf Tryd.prog 24 = some { size := 4, bytes := 56, agg := true, zero := [V.c (C.v (Value.int IntKind.i64 0)), V.c (C.v (Value.string ByteArray.empty)), V.c (C.v (Value.int IntKind.i64 0)), V.tip none []], kind := K.struct [{ off := 0, size := 1, agg := false }, { off := 1, size := 1, agg := false }, { off := 2, size := 1, agg := false }, { off := 3, size := 1, agg := false }] } := by kernel_rfl
theorem ty31 : tyOf Tryd.prog 31 = some { size := 1, bytes := 24, agg := false, zero := [V.tip none []], kind := K.slice 33 } := by kernel_rfl
theorem ty33 : tyOf Tryd.prog 33 = some { size := 5, bytes := 88, agg := true, zero := [V.c (C.v (Value.int IntKind.i64 0)), V.c (C.v (Value.string ByteArray.empty)), V.c (C.v (Value.string ByteArray.empty)), V.tip none [], V.tip none []], kind := K.struct [{ off := 0, size := 1, agg := false }, { off := 1, size := 1, agg := false }, { off := 2, size := 1, agg := false }, { off := 3, size := 1, agg := false }, { off := 4, size := 1, agg := false }] } := by kernel_rfl
theorem ty37 : tyOf Tryd.prog 37 = some { size := 1, bytes := 24, agg := false, zero := [V.tip none []], kind := K.slice 9 } := by kernel_rfl
theorem ty55 : tyOf Tryd.prog 55 = some { size := 3, bytes := 56, agg := true, zero := [V.c (C.v (Value.string ByteArray.empty)), V.tip none [], V.c (C.v (Value.string ByteArray.empty))], kind := K.struct [{ off := 0, size := 1, agg := false }, { off := 1, size := 1, agg := false }, { off := 2, size := 1, agg := false }] } := by kernel_rfl
theorem ty59 : tyOf Tryd.prog 59 = some { size := 1, bytes := 8, agg := false, zero := [V.c (C.v (Value.pointer none))], kind := K.ptr } := by kernel_rfl
theorem ty61 : tyOf Tryd.prog 61 = some { size := 1, bytes := 24, agg := true, zero := [V.tip none []], kind := K.struct [{ off := 0, size := 1, agg := false }] } := by kernel_rfl
theorem ty71 : tyOf Tryd.prog 71 = some { size := 1, bytes := 24, agg := false, zero := [V.tip none []], kind := K.slice 5 } := by kernel_rfl
theorem ty90 : tyOf Tryd.prog 90 = some { size := 1, bytes := 8, agg := false, zero := [V.c (C.v (Value.map none))], kind := K.map (TypeDesc.int IntKind.i64) 3 } := by kernel_rfl
theorem ty91 : tyOf Tryd.prog 91 = some { size := 1, bytes := 8, agg := false, zero := [V.c (C.v (Value.map none))], kind := K.map (TypeDesc.int IntKind.i64) 9 } := by kernel_rfl
theorem ty97 : tyOf Tryd.prog 97 = some { size := 1, bytes := 8, agg := false, zero := [V.c (C.v (Value.int IntKind.u64 0))], kind := K.int IntKind.u64 } := by kernel_rfl
theorem ty105 : tyOf Tryd.prog 105 = some { size := 1, bytes := 8, agg := false, zero := [V.c (C.v Value.nilFunc)], kind := K.other } := by kernel_rfl
attribute [go_sem] ty2 ty3 ty4 ty5 ty9 ty22 ty24 ty31 ty33 ty37 ty55 ty59 ty61 ty71 ty90 ty91 ty97 ty105
theorem fn3 : Tryd.prog.funcs[3]? = some Tryd.f3 := by kernel_rfl
theorem fn4 : Tryd.prog.funcs[4]? = some Tryd.f4 := by kernel_rfl
theorem fn5 : Tryd.prog.funcs[5]? = some Tryd.f5 := by kernel_rfl
theorem fn6 : Tryd.prog.funcs[6]? = some Tryd.f6 := by kernel_rfl
theorem fn8 : Tryd.prog.funcs[8]? = some Tryd.f8 := by kernel_rfl
theorem fn9 : Tryd.prog.funcs[9]? = some Tryd.f9 := by kernel_rfl
theorem fn10 : Tryd.prog.funcs[10]? = some Tryd.f10 := by kernel_rfl
theorem fn11 : Tryd.prog.funcs[11]? = some Tryd.f11 := by kernel_rfl
theorem fn12 : Tryd.prog.funcs[12]? = some Tryd.f12 := by kernel_rfl
theorem fn13 : Tryd.prog.funcs[13]? = some Tryd.f13 := by kernel_rfl
theorem fn14 : Tryd.prog.funcs[14]? = some Tryd.f14 := by kernel_rfl
theorem fn15 : Tryd.prog.funcs[15]? = some Tryd.f15 := by kernel_rfl
theorem fn16 : Tryd.prog.funcs[16]? = some Tryd.f16 := by kernel_rfl
theorem fn17 : Tryd.prog.funcs[17]? = some Tryd.f17 := by kernel_rfl
theorem fn18 : Tryd.prog.funcs[18]? = some Tryd.f18 := by kernel_rfl
theorem fn19 : Tryd.prog.funcs[19]? = some Tryd.f19 := by kernel_rfl
theorem fn20 : Tryd.prog.funcs[20]? = some Tryd.f20 := by kernel_rfl
theorem fn21 : Tryd.prog.funcs[21]? = some Tryd.f21 := by kernel_rfl
theorem fn22 : Tryd.prog.funcs[22]? = some Tryd.f22 := by kernel_rfl
theorem fn27 : Tryd.prog.funcs[27]? = some Tryd.f27 := by kernel_rfl
theorem fn28 : Tryd.prog.funcs[28]? = some Tryd.f28 := by kernel_rfl
theorem fn29 : Tryd.prog.funcs[29]? = some Tryd.f29 := by kernel_rfl
theorem fn30 : Tryd.prog.funcs[30]? = some Tryd.f30 := by kernel_rfl
theorem fn31 : Tryd.prog.funcs[31]? = some Tryd.f31 := by kernel_rfl
theorem fn32 : Tryd.prog.funcs[32]? = some Tryd.f32 := by kernel_rfl
theorem fn33 : Tryd.prog.funcs[33]? = some Tryd.f33 := by kernel_rfl
theorem fn34 : Tryd.prog.funcs[34]? = some Tryd.f34 := by kernel_rfl
theorem fn35 : Tryd.prog.funcs[35]? = some Tryd.f35 := by kernel_rfl
theorem fn36 : Tryd.prog.funcs[36]? = some Tryd.f36 := by kernel_rfl
theorem fn37 : Tryd.prog.funcs[37]? = some Tryd.f37 := by kernel_rfl
theorem fn38 : Tryd.prog.funcs[38]? = some Tryd.f38 := by kernel_rfl
theorem fn39 : Tryd.prog.funcs[39]? = some Tryd.f39 := by kernel_rfl
theorem fn40 : Tryd.prog.funcs[40]? = some Tryd.f40 := by kernel_rfl
theorem fn41 : Tryd.prog.funcs[41]? = some Tryd.f41 := by kernel_rfl
theorem fn42 : Tryd.prog.funcs[42]? = some Tryd.f42 := by kernel_rfl
theorem fn43 : Tryd.prog.funcs[43]? = some Tryd.f43 := by kernel_rfl
theorem fn44 : Tryd.prog.funcs[44]? = some Tryd.f44 := by kernel_rfl
theorem fn45 : Tryd.prog.funcs[45]? = some Tryd.f45 := by kernel_rfl
theorem fn46 : Tryd.prog.funcs[46]? = some Tryd.f46 := by kernel_rfl
theorem fn47 : Tryd.prog.funcs[47]? = some Tryd.f47 := by kernel_rfl
theorem fn50 : Tryd.prog.funcs[50]? = some Tryd.f50 := by kernel_rfl
theorem fn51 : Tryd.prog.funcs[51]? = some Tryd.f51 := by kernel_rfl
theorem fn52 : Tryd.prog.funcs[52]? = some Tryd.f52 := by kernel_rfl
theorem fn53 : Tryd.prog.funcs[53]? = some Tryd.f53 := by kernel_rfl
theorem fn54 : Tryd.prog.funcs[54]? = some Tryd.f54 := by kernel_rfl
theorem fn55 : Tryd.prog.funcs[55]? = some Tryd.f55 := by kernel_rfl
theorem fn56 : Tryd.prog.funcs[56]? = some Tryd.f56 := by kernel_rfl
theorem fn57 : Tryd.prog.funcs[57]? = some Tryd.f57 := by kernel_rfl
theorem fn58 : Tryd.prog.funcs[58]? = some Tryd.f58 := by kernel_rfl
theorem fn59 : Tryd.prog.funcs[59]? = some Tryd.f59 := by kernel_rfl
theorem fn60 : Tryd.prog.funcs[60]? = some Tryd.f60 := by kernel_rfl
theorem fn61 : Tryd.prog.funcs[61]? = some Tryd.f61 := by kernel_rfl
theorem fn62 : Tryd.prog.funcs[62]? = some Tryd.f62 := by kernel_rfl
theorem fn63 : Tryd.prog.funcs[63]? = some Tryd.f63 := by kernel_rfl
theorem fn64 : Tryd.prog.funcs[64]? = some Tryd.f64 := by kernel_rfl
theorem fn65 : Tryd.prog.funcs[65]? = some Tryd.f65 := by kernel_rfl
theorem fn66 : Tryd.prog.funcs[66]? = some Tryd.f66 := by kernel_rfl
theorem fn67 : Tryd.prog.funcs[67]? = some Tryd.f67 := by kernel_rfl
theorem fn68 : Tryd.prog.funcs[68]? = some Tryd.f68 := by kernel_rfl
theorem fn69 : Tryd.prog.funcs[69]? = some Tryd.f69 := by kernel_rfl
theorem fn70 : Tryd.prog.funcs[70]? = some Tryd.f70 := by kernel_rfl
theorem fn71 : Tryd.prog.funcs[71]? = some Tryd.f71 := by kernel_rfl
theorem fn72 : Tryd.prog.funcs[72]? = some Tryd.f72 := by kernel_rfl
theorem fn73 : Tryd.prog.funcs[73]? = some Tryd.f73 := by kernel_rfl
theorem fn76 : Tryd.prog.funcs[76]? = some Tryd.f76 := by kernel_rfl
theorem fn77 : Tryd.prog.funcs[77]? = some Tryd.f77 := by kernel_rfl
theorem fn78 : Tryd.prog.funcs[78]? = some Tryd.f78 := by kernel_rfl
theorem fn79 : Tryd.prog.funcs[79]? = some Tryd.f79 := by kernel_rfl
theorem fn80 : Tryd.prog.funcs[80]? = some Tryd.f80 := by kernel_rfl
theorem fn81 : Tryd.prog.funcs[81]? = some Tryd.f81 := by kernel_rfl
theorem fn85 : Tryd.prog.funcs[85]? = some Tryd.f85 := by kernel_rfl
theorem fn86 : Tryd.prog.funcs[86]? = some Tryd.f86 := by kernel_rfl
theorem fn87 : Tryd.prog.funcs[87]? = some Tryd.f87 := by kernel_rfl
theorem fn94 : Tryd.prog.funcs[94]? = some Tryd.f94 := by kernel_rfl
def fnL : List Nat := [3, 4, 5, 6, 8, 9, 10, 11, 12, 13, 14, 15, 16, 17, 18, 19, 20, 21, 22, 27, 28, 29, 30, 31, 32, 33, 34, 35, 36, 37, 38, 39, 40, 41, 42, 43, 44, 45, 46, 47, 50, 51, 52, 53, 54, 55, 56, 57, 58, 59, 60, 61, 62, 63, 64, 65, 66, 67, 68, 69, 70, 71, 72, 73, 76, 77, 78, 79, 80, 81, 85, 86, 87, 94]
def tkF (f t : Nat) : Bool := if f = 36 then t == 15 else if f = 38 then t == 87 || t == 90 || t == 97 || t == 100 else if f = 39 then t == 9 || t == 21 || t == 36 else if f = 55 then t == 20 else if f = 61 then t == 18 else if f = 68 then t == 13 || t == 25 else false
def taF (f t : Nat) : Bool := false
def lcF (f t : Nat) : Bool := false
def frzF (f t : Nat) : Bool := if f = 3 then t == 1 else if f = 4 then t == 1 else if f = 6 then t == 3 || t == 4 else if f = 8 then t == 1 else if f = 9 then t == 2 else if f = 10 then t == 1 else if f = 11 then t == 1 else if f = 13 then t == 1 else if f = 14 then t == 1 else if f = 15 then t == 2 else if f = 16 then t == 1 else if f = 17 then t == 1 else if f = 21 then t == 1 else if f = 22 then t == 1 else if f = 27 then t == 1 else if f = 28 then t == 1 else if f = 29 then t == 2 else if f = 30 then t == 2 else if f = 31 then t == 1 else if f = 32 then t == 2 else if f = 33 then t == 2 else if f = 34 then t == 2 else if f = 35 then t == 1 else if f = 36 then t == 3 else if f = 37 then t == 6 else if f = 38 then t == 5 else if f = 39 then t == 1 else if f = 44 then t == 1 else if f = 45 then t == 1 else if f = 46 then t == 1 else if f = 47 then t == 1 else if f = 51 then t == 2 else if f = 53 then t == 3 else if f = 54 then t == 1 else if f = 58 then t == 3 else if f = 59 then t == 1 else if f = 60 then t == 2 else if f = 61 then t == 3 else if f = 62 then t == 2 else if f = 63 then t == 2 else if f = 68 then t == 1 else if f = 71 then t == 2 else if f = 72 then t == 2 else if f = 77 then t == 1 else false
theorem frzF_3 (t : Nat) : frzF 3 t = (t == 1) := rfl
theorem frzF_4 (t : Nat) : frzF 4 t = (t == 1) := rfl
theorem frzF_5 (t : Nat) : frzF 5 t = false := rfl
theorem frzF_6 (t : Nat) : frzF 6 t = (t == 3 || t == 4) := rfl
theorem frzF_8 (t : Nat) : frzF 8 t = (t == 1) := rfl
theorem frzF_9 (t : Nat) : frzF 9 t = (t == 2) := rfl
theorem frzF_10 (t : Nat) : frzF 10 t = (t == 1) := rfl
theorem frzF_11 (t : Nat) : frzF 11 t = (t == 1) := rfl
theorem frzF_12 (t : Nat) : frzF 12 t = false := rfl
theorem frzF_13 (t : Nat) : frzF 13 t = (t == 1) := rfl
theorem frzF_14 (t : Nat) : frzF 14 t = (t == 1) := rfl
theorem frzF_15 (t : Nat) : frzF 15 t = (t == 2) := rfl
theorem frzF_16 (t : Nat) : frzF 16 t = (t == 1) := rfl
theorem frzF_17 (t : Nat) : frzF 17 t = (t == 1) := rfl
theorem frzF_18 (t : Nat) : frzF 18 t = false := rfl
theorem frzF_19 (t : Nat) : frzF 19 t = false := rfl
theorem frzF_20 (t : Nat) : frzF 20 t = false := rfl
theorem frzF_21 (t : Nat) : frzF 21 t = (t == 1) := rfl
theorem frzF_22 (t : Nat) : frzF 22 t = (t == 1) := rfl
theorem frzF_27 (t : Nat) : frzF 27 t = (t == 1) := rfl
theorem frzF_28 (t : Nat) : frzF 28 t = (t == 1) := rfl
theorem frzF_29 (t : Nat) : frzF 29 t = (t == 2) := rfl
theorem frzF_30 (t : Nat) : frzF 30 t = (t == 2) := rfl
theorem frzF_31 (t : Nat) : frzF 31 t = (t == 1) := rfl
theorem frzF_32 (t : Nat) : frzF 32 t = (t == 2) := rfl
theorem frzF_33 (t : Nat) : frzF 33 t = (t == 2) := rfl
theorem frzF_34 (t : Nat) : frzF 34 t = (t == 2) := rfl
theorem frzF_35 (t : Nat) : frzF 35 t = (t == 1) := rfl
theorem frzF_36 (t : Nat) : frzF 36 t = (t == 3) := rfl
theorem frzF_37 (t : Nat) : frzF 37 t = (t == 6) := rfl
theorem frzF_38 (t : Nat) : frzF 38 t = (t == 5) := rfl
theorem frzF_39 (t : Nat) : frzF 39 t = (t == 1) := rfl
theorem frzF_40 (t : Nat) : frzF 40 t = false := rfl
theorem frzF_41 (t : Nat) : frzF 41 t = false := rfl
theorem frzF_42 (t : Nat) : frzF 42 t = false := rfl
theorem frzF_43 (t : Nat) : frzF 43 t = false := rfl
theorem frzF_44 (t : Nat) : frzF 44 t = (t == 1) := rfl
theorem frzF_45 (t : Nat) : frzF 45 t = (t == 1) := rfl
theorem frzF_46 (t : Nat) : frzF 46 t = (t == 1) := rfl
theorem frzF_47 (t : Nat) : frzF 47 t = (t == 1) := rfl
theorem frzF_50 (t : Nat) : frzF 50 t = false := rfl
theorem frzF_51 (t : Nat) : frzF 51 t = (t == 2) := rfl
theorem frzF_52 (t : Nat) : frzF 52 t = false := rfl
theorem frzF_53 (t : Nat) : frzF 53 t = (t == 3) := rfl
theorem frzF_54 (t : Nat) : frzF 54 t = (t == 1) := rfl
theorem frzF_55 (t : Nat) : frzF 55 t = false := rfl
theorem frzF_56 (t : Nat) : frzF 56 t = false := rfl
theorem frzF_57 (t : Nat) : frzF 57 t = false := rfl
theorem frzF_58 (t : Nat) : frzF 58 t = (t == 3) := rfl
theorem frzF_59 (t : Nat) : frzF 59 t = (t == 1) := rfl
theorem frzF_60 (t : Nat) : frzF 60 t = (t == 2) := rfl
theorem frzF_61 (t : Nat) : frzF 61 t = (t == 3) := rfl
theorem frzF_62 (t : Nat) : frzF 62 t = (t == 2) := rfl
theorem frzF_63 (t : Nat) : frzF 63 t = (t == 2) := rfl
theorem frzF_64 (t : Nat) : frzF 64 t = false := rfl
theorem frzF_65 (t : Nat) : frzF 65 t = false := rfl
theorem frzF_66 (t : Nat) : frzF 66 t = false := rfl
theorem frzF_67 (t : Nat) : frzF 67 t = false := rfl
theorem frzF_68 (t : Nat) : frzF 68 t = (t == 1) := rfl
theorem frzF_69 (t : Nat) : frzF 69 t = false := rfl
theorem frzF_70 (t : Nat) : frzF 70 t = false := rfl
theorem frzF_71 (t : Nat) : frzF 71 t = (t == 2) := rfl
theorem frzF_72 (t : Nat) : frzF 72 t = (t == 2) := rfl
theorem frzF_73 (t : Nat) : frzF 73 t = false := rfl
theorem frzF_76 (t : Nat) : frzF 76 t = false := rfl
theorem frzF_77 (t : Nat) : frzF 77 t = (t == 1) := rfl
theorem frzF_78 (t : Nat) : frzF 78 t = false := rfl
theorem frzF_79 (t : Nat) : frzF 79 t = false := rfl
theorem frzF_80 (t : Nat) : frzF 80 t = false := rfl
theorem frzF_81 (t : Nat) : frzF 81 t = false := rfl
theorem frzF_85 (t : Nat) : frzF 85 t = false := rfl
theorem frzF_86 (t : Nat) : frzF 86 t = false := rfl
theorem frzF_87 (t : Nat) : frzF 87 t = false := rfl
theorem frzF_94 (t : Nat) : frzF 94 t = false := rfl
attribute [go_sem] frzF_3 frzF_4 frzF_5 frzF_6 frzF_8 frzF_9 frzF_10 frzF_11 frzF_12 frzF_13 frzF_14 frzF_15 frzF_16 frzF_17 frzF_18 frzF_19 frzF_20 frzF_21 frzF_22 frzF_27 frzF_28 frzF_29 frzF_30 frzF_31 frzF_32 frzF_33 frzF_34 frzF_35 frzF_36 frzF_37 frzF_38 frzF_39 frzF_40 frzF_41 frzF_42 frzF_43 frzF_44 frzF_45 frzF_46 frzF_47 frzF_50 frzF_51 frzF_52 frzF_53 frzF_54 frzF_55 frzF_56 frzF_57 frzF_58 frzF_59 frzF_60 frzF_61 frzF_62 frzF_63 frzF_64 frzF_65 frzF_66 frzF_67 frzF_68 frzF_69 frzF_70 frzF_71 frzF_72 frzF_73 frzF_76 frzF_77 frzF_78 frzF_79 frzF_80 frzF_81 frzF_85 frzF_86 frzF_87 frzF_94
def ownF (f t : Nat) : Option Nat := if f = 12 then (if t = 7 then some 7 else if t = 8 then some 8 else none) else none
def awayF (f t : Nat) : List Nat := if f = 12 then (if t = 4 then [7, 8] else if t = 6 then [7, 8] else []) else []
end Go.Eng
/- The machine of the layer of texts: what it may call, and what lies in the packages' variables. -/
set_option maxRecDepth 100000
set_option linter.unusedVariables false
namespace Go.Eng
open Go Go.RowKit Go.Proofs
def strsOf : List C → Option (List ByteArray)
  | [] => some []
  | .v (.string s) :: r => (strsOf r).map fun l => s :: l
  | _ => none
def fmtQ : List C → Option V
  | [.v (.int .i64 n), .v (.int .i64 b)] => if b = 10 ∧ -9223372036854775808 ≤ n ∧ n ≤ 9223372036854775807 then some (.c (.v (.string (digB n)))) else none
  | _ => none
def joinQ : List C → Option V
  | [.sl l, .v (.string s)] => match strsOf l with
    | some xs => if xs.length ≤ 140737488355328 ∧ (Lib.join (xs.map fun x => x.data.toList) s.data.toList).length ≤ 140737488355328 then some (.c (.v (.string (mkS (Lib.join (xs.map fun x => x.data.toList) s.data.toList))))) else none
    | none => none
  | _ => none
/-- how tightly signs bind, and the signs -/
def tightC : C := .mp [.int .i64 7, .int .i64 8, .int .i64 9, .int .i64 10] [cI 4, cI 3, cI 2, cI 1]
def signsC : C := .mp [.int .i64 7, .int .i64 8, .int .i64 9, .int .i64 10] [cS ⟨#[32, 38, 32]⟩, cS ⟨#[32, 124, 32]⟩, cS ⟨#[32, 45, 62, 32]⟩, cS ⟨#[32, 60, 45, 62, 32]⟩]
def globF (v : Nat) : Option (List C) := if v = 0 then some [tightC] else if v = 1 then some [signsC] else none
/-- the library's table of blanks lies as its initialiser lays it -/
def LaidW (w : World) : Prop := Lib.TabIs Tryd.prog w "strings.asciiSpace" .u8 Lib.asciiSpaceTab
structure LaidS (w : World) : Prop where
  ws : LaidW w
  pow : Lib.TabIs Tryd.prog w "internal/strconv.uint64pow10" .u64 Lib.pow10Tab
  tight : ∃ u, w.cell? ⟨0, 0, none⟩ = some u ∧ RC (memF w) tightC [u]
  signs : ∃ u, w.cell? ⟨1, 0, none⟩ = some u ∧ RC (memF w) signsC [u]
def extS (f : Nat) : Option (List C → Option V) := if f = 76 then some fmtQ else if f = 50 then some joinQ else if f = 79 then some wordQ else none
def An : Ann := { tk := tkF, ta := taF, lc := lcF, frz := frzF, own := ownF, away := awayF, fn := fun f => fnL.contains f, glob := globF, ext := extS, laid := LaidS }
theorem An_tk (f t : Nat) : An.tk f t = tkF f t := rfl
theorem An_ta (f t : Nat) : An.ta f t = taF f t := rfl
theorem An_lc (f t : Nat) : An.lc f t = lcF f t := rfl
theorem An_frz (f t : Nat) : An.frz f t = frzF f t := rfl
theorem An_own (f t : Nat) : An.own f t = ownF f t := rfl
theorem An_away (f t : Nat) : An.away f t = awayF f t := rfl
theorem An_glob (v : Nat) : An.glob v = globF v := rfl
theorem globF_tight : globF 0 = some [tightC] := rfl
theorem globF_signs : globF 1 = some [signsC] := rfl
theorem glob_ok {A : Ann} (hA : A.glob = globF) {w : World} (h : LaidS w) : GlobOK A (G0 w) := by
  intro v l hl
  rw [hA] at hl
  have key : ∀ g c, (∃ u, w.cell? ⟨g, 0, none⟩ = some u ∧ RC (memF w) c [u]) → c.isAgg = false → ∃ vs, At (G0 w).F g 0 vs ∧ RL (G0 w).F [c] vs := fun g c ⟨u, h1, h2⟩ hc => ⟨[u], fun j x hj => by
      cases j with
      | zero => simp at hj; subst hj; exact h1
      | succ j => simp at hj, by simp only [RL]; exact ⟨u, [], rfl, h2, hc, rfl⟩⟩
  unfold globF at hl
  split at hl
  · rename_i e; subst e; cases hl; exact key _ _ h.tight rfl
  · split at hl
    · rename_i e; subst e; cases hl; exact key _ _ h.signs rfl
    · cases hl
theorem word_ev (s : ByteArray) (hs : s.size ≤ maxLen) (ro : Nat) (m : Mem) : evL Tryd.prog An ro 79 [.c (.v (.string s))] m = some (.c (.v (.bool (wordL s.data.toList))), m) :=
  evL_ext (cs := [.v (.string s)]) (q := wordQ) (by kernel_rfl) rfl (by simp only [wordQ]; rw [if_pos (by rw [maxLen_eq] at hs; omega)]) rfl
theorem fmt_ev (n : Int) (h0 : -9223372036854775808 ≤ n) (h1 : n ≤ 9223372036854775807) (ro : Nat) (m : Mem) : evL Tryd.prog An ro 76 [.c (.v (.int .i64 n)), .c (.v (.int .i64 10))] m = some (.c (.v (.string (digB n))), m) :=
  evL_ext (cs := [.v (.int .i64 n), .v (.int .i64 10)]) (q := fmtQ) (by kernel_rfl) rfl (by simp only [fmtQ]; rw [if_pos ⟨by trivial, h0, h1⟩]) rfl
theorem strsOf_map : ∀ l : List ByteArray, strsOf (l.map cS) = some l
  | [] => rfl
  | x :: r => by have h := strsOf_map r; simp only [List.map_cons, cS, strsOf]; exact (congrArg (Option.map fun l => x :: l) h)
theorem join_ev (l : List ByteArray) (h1 : l.length ≤ 140737488355328) (h2 : (joinX l).size ≤ 140737488355328) (ro : Nat) (m : Mem) : evL Tryd.prog An ro 50 [.c (.sl (l.map cS)), .c (.v (.string ⟨#[44, 32]⟩))] m = some (.c (.v (.string (joinX l))), m) := by
  have e := joinX_eq l
  have e2 : (⟨#[44, 32]⟩ : ByteArray).data.toList = [44, 32] := rfl
  refine evL_ext (cs := [.sl (l.map cS), .v (.string ⟨#[44, 32]⟩)]) (q := joinQ) (by kernel_rfl) rfl ?_ rfl
  simp only [joinQ, strsOf_map, e2]
  have e3 : (Lib.join (l.map fun x => x.data.toList) [44, 32]).length = (joinX l).size := by rw [← e]; exact (mkS_size _).symm
  rw [if_pos ⟨h1, by rw [e3]; exact h2⟩, ← e]
  rfl
/-- the page's examples: reckoned by the kernel -/
theorem alive_ev (fr : Fr) (ro : Nat) (hro : ro = 0 ∨ ro = 1) : evL Tryd.prog An ro 12 [] [fr] = some (.c (.v (.bool true)), [fr]) := by
  rcases hro with rfl | rfl
  · exact evL_some.2 ⟨30, by kernel_rfl⟩
  · exact evL_some.2 ⟨30, by kernel_rfl⟩
attribute [go_sem] An_tk An_ta An_lc An_frz An_own An_away An_glob globF_tight globF_signs tkF taF lcF ownF awayF
end Go.Eng
