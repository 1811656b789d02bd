-- Written by this session's own program over the kit's printer: externals and laid facts are by hand. Not trusted: Lean checks it.
import Derived.Test.YtkhagjopkghpkaaProg
import Derived.Below
import Derived.Deep.Draws
import Derived.Deep.AppendLies
import Derived.Maps.AppendAt
import Derived.OwnWalk
import Derived.Laws.BytesArg
import Derived.Laws.MakeOwn
import Derived.Laws.OwnMore
import Derived.Deep.OwnRows
import Derived.Tactics
import Derived.Lib.ConvBytes
import Derived.Laws.Slices
import Derived.WalkKit
import Derived.KernelRfl
import Derived.RowKit3
import Derived.Deep.LoopGhost
import Derived.Deep.QuietTactic
import Derived.BigQuiet
import Derived.WideLaws
import Derived.Deep.DeepCutAuto
import Derived.Deep.CutBlock
import Derived.Deep.RegionHeld3
import Derived.Laws.Rows
import Derived.Lib.AppendStr
import Derived.ArgAppend
import Derived.Laws.IdiomCopy
import Derived.OrdersHeld
import Derived.Laws.BitsLemmas
import Derived.RowKit
import Derived.WalkMore
import Derived.Lib.Strings
import Derived.Laws.NewBlocks
import Derived.RowKit
import Derived.Test.YtkhagjopkghpkaaCopy
import Derived.Test.YtkhagjopkghpkaaFault
import Derived.Test.YtkhagjopkghpkaaJoin
import Derived.Test.YtkhagjopkghpkaaMake
import Derived.Test.YtkhagjopkghpkaaRead
import Derived.Test.YtkhagjopkghpkaaSpec
import Derived.Test.YtkhagjopkghpkaaWWords
import Derived.Test.YtkhagjopkghpkaaWLast
import Derived.Test.YtkhagjopkghpkaaWTab
import Derived.Test.YtkhagjopkghpkaaWFour
import Derived.Test.YtkhagjopkghpkaaWQPut
import Derived.Test.YtkhagjopkghpkaaWApart
import Derived.Test.YtkhagjopkghpkaaWArr
import Derived.Test.YtkhagjopkghpkaaWZeros
import Derived.Test.YtkhagjopkghpkaaWFoot
import Derived.Test.YtkhagjopkghpkaaWKept
import Derived.Test.YtkhagjopkghpkaaWShare
import Derived.Test.YtkhagjopkghpkaaWN
import Derived.Test.YtkhagjopkghpkaaWFootNe
import Derived.Test.YtkhagjopkghpkaaWAt
import Derived.Test.YtkhagjopkghpkaaWEqStruct
import Derived.Test.YtkhagjopkghpkaaWRepsOne
import Derived.Test.YtkhagjopkghpkaaWInv
import Derived.Test.YtkhagjopkghpkaaWInvWords
import Derived.Test.YtkhagjopkghpkaaWGuard
import Derived.Test.YtkhagjopkghpkaaWNEv
import Derived.Test.YtkhagjopkghpkaaWMore
namespace Go.Proofs.Ytkhagjopkghpkaa.Print
open Go.Proofs.Ytkhagjopkghpkaa.Aux Go.Proofs.Ytkhagjopkghpkaa.Spec
open Go.RowKit Go.Proofs.YtkhagjopkghpkaaW.PrintWords Go.Proofs.YtkhagjopkghpkaaW.PrintLast Go.Proofs.YtkhagjopkghpkaaW.PrintMore
attribute [local go_sem] max2_int min2_int max_two min_two max_three min_three max_four min_four   -- for this text's walks alone
set_option linter.unusedVariables false
set_option linter.unusedSimpArgs false



def errW : Option Int → Value
  | none => .nilIface
  | some c => .iface 0 (.int .i64 c)
theorem errW_none : errW none = .nilIface := rfl
theorem errW_some (c : Int) : errW (some c) = .iface 0 (.int .i64 c) := rfl

-- the values' own types
/-! #### struct type 26 -/
structure S26 where
  f0 : Int
  f1 : Int
def z26 : S26 := ⟨(0 : Int), (0 : Int)⟩
def k26 : Kd S26 := Kd.iso (Kd.pair (Kd.int .i64) (Kd.int .i64)) (fun x : S26 => (x.f0, x.f1))
theorem k26_open {w : World} {x : S26} {cs : List Value} (h : k26.K w x cs) : cs = [.int .i64 x.f0, .int .i64 x.f1] := by
  obtain ⟨_, _, rfl, rfl, rfl⟩ := h
  exact rfl
theorem k26_openM {w : World} {base : Nat} {ok : Nat → Prop} {x : S26} {cs : List Value} (h : k26.M w base ok x cs) : cs = [.int .i64 x.f0, .int .i64 x.f1] := by
  obtain ⟨_, _, rfl, rfl, rfl⟩ := h
  exact rfl
theorem k26_mk (w : World) (x : S26)  : k26.K w x [.int .i64 x.f0, .int .i64 x.f1] := ⟨[.int .i64 x.f0], [.int .i64 x.f1], rfl, rfl, rfl⟩
theorem k26_mkM (w : World) (base : Nat) (ok : Nat → Prop) (x : S26)  : k26.M w base ok x [.int .i64 x.f0, .int .i64 x.f1] := ⟨[.int .i64 x.f0], [.int .i64 x.f1], rfl, rfl, rfl⟩
def rd_T26 (xs : List S26) (i : Int) : S26 := xs.getD i.toNat z26
theorem at_T26 {w : World} {A : Option Addr} {n : Nat} {xs : List S26} (h : Kd.C k26 w A n xs) (i : Int) (h0 : 0 ≤ i) (h1 : i < n) : ∃ ad , A = some ad ∧ w.cell? (ad.add (i.toNat * 2)) = some (.int .i64 (rd_T26 xs i).f0) ∧ w.cell? ⟨(ad.add (i.toNat * 2)).block, (ad.add (i.toNat * 2)).off + 1, none⟩ = some (.int .i64 (rd_T26 xs i).f1) := by
  obtain ⟨ad, c, e, _, hK, hc0⟩ := Kd.C_get h z26 i h0 h1
  have hc : ∀ j u, c[j]? = some u → w.cell? (ad.add (i.toNat * 2 + j)) = some u := hc0
  obtain rfl := k26_open hK
  exact ⟨ad, e, hc 0 _ rfl, by rw [← add_field _ _ 1 (by omega)]; exact hc 1 _ rfl⟩

def G26 (x : S26) : Prop := (Lit.int .i64 x.f0).wf = true ∧ (Lit.int .i64 x.f1).wf = true
theorem opens_k26 (N : Nat) : OpensN Try.prog 26 k26 G26 N := by
  induction N with
  | zero =>
    intro H enc w base spare held fuel cs x hf h
    exact absurd hf (Nat.not_lt_zero _)
  | succ N ih =>
    intro H enc w base spare held fuel cs x hf h
    obtain ⟨xs, n, rfl, _, hlen, hxs, hfld⟩ := DataW.trod_struct Try.underlying26 h
    have hl : cs.length = 2 := hlen.trans (by kernel_rfl)
    have e0 := hfld 0 _ rfl
    rw [List.getElem?_eq_getElem (show 0 < xs.length by rw [hxs]; decide)] at e0
    obtain ⟨x0, k0, g0⟩ := (opens_int Try.underlying24 (n + 1)) (show n < n + 1 by omega) e0
    have e1 := hfld 1 _ rfl
    rw [List.getElem?_eq_getElem (show 1 < xs.length by rw [hxs]; decide)] at e1
    obtain ⟨x1, k1, g1⟩ := (opens_int Try.underlying3 (n + 1)) (show n < n + 1 by omega) e1
    (try simp only [List.drop_zero] at k0)
    (try simp only [List.drop_zero] at k1)
    refine ⟨⟨x0, x1⟩, ?_, ⟨g0, g1⟩⟩
    exact ⟨_, _, (List.take_append_drop 1 _).symm, k0, by (try rw [List.drop_drop]); exact (by have hk : Kd.K (Kd.int .i64) w x1 ((cs.drop 1).take 1) := k1; rwa [List.take_of_length_le (by rw [List.length_drop]; omega)] at hk)⟩

end Go.Proofs.Ytkhagjopkghpkaa.Print
