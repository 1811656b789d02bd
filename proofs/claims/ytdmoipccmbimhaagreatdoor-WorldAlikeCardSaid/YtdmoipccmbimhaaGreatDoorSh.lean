-- own work: an evaluator of the program's code, and what it answers
import Derived.Shelf.LaysM
import Derived.Shelf.Strings.SplitShaped
import Derived.Test.YtdmoipccmbimhaaGreatDoorProg
import Derived.Shelf.Lays
import Derived.Shelf.Bits.Mul64
-- the shelf's contracts, laid at this seat by the kit's own tools (lay-shelf, lay-plain), cut to what is used (cutshelf.py)
namespace Go.Proofs
open Go.Shelf
def Tryz.laysM157_ren : Go.Shelf.Ren := ⟨fun | 157 => 175 | 229 => 177 | 199 => 178 | 261 => 179 | 311 => 180 | 312 => 181 | n => n, fun | 9 => 9 | 31 => 22 | 3 => 3 | 5 => 5 | 4 => 4 | 119 => 222 | 0 => 0 | 40 => 224 | 152 => 225 | 21 => 21 | 154 => 227 | 51 => 219 | 141 => 229 | 196 => 233 | 193 => 230 | 198 => 236 | 49 => 234 | 194 => 231 | 201 => 239 | 226 => 241 | 46 => 209 | 227 => 242 | n => n, fun | 0 => 1 | 6 => 2 | n => n⟩
theorem Tryz.laysM157 : Go.Proofs.LaysM.n157 Tryz.prog Tryz.laysM157_ren := {
  mixed := by kernel_rfl
  f157 := Tryz.func175.trans (congrArg some (by kernel_rfl))
  f199 := Tryz.func178.trans (congrArg some (by kernel_rfl))
  f229 := Tryz.func177.trans (congrArg some (by kernel_rfl))
  f261 := Tryz.func179.trans (congrArg some (by kernel_rfl))
  f311 := Tryz.func180.trans (congrArg some (by kernel_rfl))
  f312 := Tryz.func181.trans (congrArg some (by kernel_rfl))
  t0 := Tryz.underlying0
  a0 := Tryz.isAgg0
  z0 := Tryz.sizeOf0
  v0 := Tryz.zeroValue0
  t3 := Tryz.underlying3
  a3 := Tryz.isAgg3
  z3 := Tryz.sizeOf3
  v3 := Tryz.zeroValue3
  t4 := Tryz.underlying4
  a4 := Tryz.isAgg4
  z4 := Tryz.sizeOf4
  v4 := Tryz.zeroValue4
  t5 := Tryz.underlying5
  a5 := Tryz.isAgg5
  z5 := Tryz.sizeOf5
  v5 := Tryz.zeroValue5
  t9 := Tryz.underlying9
  a9 := Tryz.isAgg9
  z9 := Tryz.sizeOf9
  v9 := Tryz.zeroValue9
  t21 := Tryz.underlying21
  a21 := Tryz.isAgg21
  z21 := Tryz.sizeOf21
  v21 := Tryz.zeroValue21
  t31 := Tryz.underlying22
  a31 := Tryz.isAgg22
  z31 := Tryz.sizeOf22
  v31 := Tryz.zeroValue22
  t40 := Tryz.underlying224
  a40 := Tryz.isAgg224
  z40 := Tryz.sizeOf224
  v40 := Tryz.zeroValue224
  t46 := Tryz.underlying209
  a46 := Tryz.isAgg209
  z46 := Tryz.sizeOf209
  v46 := Tryz.zeroValue209
  t49 := Tryz.underlying234
  a49 := Tryz.isAgg234
  z49 := Tryz.sizeOf234
  v49 := Tryz.zeroValue234
  t51 := Tryz.underlying219
  a51 := Tryz.isAgg219
  z51 := Tryz.sizeOf219
  v51 := Tryz.zeroValue219
  t119 := Tryz.underlying222
  a119 := Tryz.isAgg222
  z119 := Tryz.sizeOf222
  t141 := Tryz.underlying229
  a141 := Tryz.isAgg229
  z141 := Tryz.sizeOf229
  v141 := Tryz.zeroValue229
  t152 := Tryz.underlying225
  a152 := Tryz.isAgg225
  z152 := Tryz.sizeOf225
  v152 := Tryz.zeroValue225
  t154 := Tryz.underlying227
  a154 := Tryz.isAgg227
  z154 := Tryz.sizeOf227
  v154 := Tryz.zeroValue227
  t193 := Tryz.underlying230
  a193 := Tryz.isAgg230
  z193 := Tryz.sizeOf230
  v193 := Tryz.zeroValue230
  t194 := Tryz.underlying231
  a194 := Tryz.isAgg231
  z194 := Tryz.sizeOf231
  v194 := Tryz.zeroValue231
  t196 := Tryz.underlying233
  a196 := Tryz.isAgg233
  z196 := Tryz.sizeOf233
  v196 := Tryz.zeroValue233
  t198 := Tryz.underlying236
  a198 := Tryz.isAgg236
  z198 := Tryz.sizeOf236
  v198 := Tryz.zeroValue236
  t201 := Tryz.underlying239
  a201 := Tryz.isAgg239
  z201 := Tryz.sizeOf239
  v201 := Tryz.zeroValue239
  t226 := Tryz.underlying241
  a226 := Tryz.isAgg241
  z226 := Tryz.sizeOf241
  v226 := Tryz.zeroValue241
  t227 := Tryz.underlying242
  a227 := Tryz.isAgg242
  z227 := Tryz.sizeOf242
  v227 := Tryz.zeroValue242
  g0 := by kernel_rfl
  g6 := by kernel_rfl
  i0 := by kernel_rfl
  i3 := by kernel_rfl
  i4 := by kernel_rfl
  i5 := by kernel_rfl
  i9 := by kernel_rfl
  i21 := by kernel_rfl
  i31 := by kernel_rfl
  i40 := by kernel_rfl
  i46 := by kernel_rfl
  i49 := by kernel_rfl
  i51 := by kernel_rfl
  i141 := by kernel_rfl
  i152 := by kernel_rfl
  i154 := by kernel_rfl
  i193 := by kernel_rfl
  i194 := by kernel_rfl
  i196 := by kernel_rfl
  i198 := by kernel_rfl
  i201 := by kernel_rfl
  i226 := by kernel_rfl
  i227 := by kernel_rfl
  m0 := by kernel_rfl
  m6 := by kernel_rfl }
theorem Tryz.strings_Fields_laid (s : ByteArray) (w : World) (hs : s.size < 4294967281) (hascii : ∀ (j : Nat) b, s.data.toList[j]? = some b → b.toNat < 128) (htab : Lib.TabIs Tryz.prog w "strings.asciiSpace" .u8 Lib.asciiSpaceTab) :
    Calls Tryz.prog 175 #[.string s] w fun e w' =>
      e = .returned (.slice (some ⟨w.heap.size, 0, none⟩) (Lib.fields s.data.toList).length (Lib.fields s.data.toList).length) ∧ w' = w.alloc (.cells ((Lib.fields s.data.toList).map fun l => Value.string ⟨l.toArray⟩).toArray 9) := Any.strings_Fields_laid Tryz.laysM157 s w hs hascii htab
end Go.Proofs
-- the shelf's contracts, laid at this seat by the kit's own tools (lay-shelf, lay-plain), cut to what is used (cutshelf.py)
namespace Go.Proofs
open Go.Shelf
def Tryz.lays264_ren : Go.Shelf.Ren := ⟨fun | 264 => 135 | n => n, fun | 53 => 186 | 46 => 209 | n => n, fun | n => n⟩
theorem Tryz.lays264 : Go.Proofs.Lays.n264 Tryz.prog Tryz.lays264_ren := {
  mixed := by kernel_rfl
  f264 := Tryz.func135.trans (congrArg some (by kernel_rfl))
  t46 := Tryz.underlying209
  a46 := Tryz.isAgg209
  z46 := Tryz.sizeOf209
  v46 := Tryz.zeroValue209
  t53 := Tryz.underlying186
  a53 := Tryz.isAgg186
  z53 := Tryz.sizeOf186
  v53 := Tryz.zeroValue186 }
theorem Tryz.bits_Mul64 (x y : Nat) (hx : x < 18446744073709551616) (hy : y < 18446744073709551616) (w : World) :
    Calls Tryz.prog 135 #[.int .u64 x, .int .u64 y] w fun e w' => e = .returned (.tuple #[.int .u64 ((x * y / 18446744073709551616 : Nat) : Int), .int .u64 ((x * y % 18446744073709551616 : Nat) : Int)]) ∧ w' = w := Any.bits_Mul64 Tryz.lays264 x y hx hy w
end Go.Proofs
