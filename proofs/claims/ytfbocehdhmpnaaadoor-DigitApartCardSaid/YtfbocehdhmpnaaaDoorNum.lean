/-
  The shelf's contracts of package strconv, for the printed walks.
-/
import Derived.Test.YtfbocehdhmpnaaaDoorProg
import Derived.Test.YtfbocehdhmpnaaaDoorLaidNum
import Derived.Test.YtfbocehdhmpnaaaDoorShelf
import Derived.Lib.AppendIntMem
import Derived.Lib.SmallJoins
namespace Go.Proofs.YtfbocehdhmpnaaaDoor.Aux
set_option linter.unusedVariables false
open Go.RowKit
theorem Num.format (n : Int) (h0 : -9223372036854775808 ≤ n) (h1 : n ≤ 9223372036854775807) (w : World) (hLa : LaidW w) :
    Calls Tryd.prog 19 #[.int .i64 n, .int .i64 10] w fun e w' => e = .returned (.string ⟨(Lib.itoa n).toArray⟩) ∧ Below w.heap.size w w' := by
  refine (Tryd.strconv_FormatInt_10 n h0 h1 w hLa.tab).mono ?_
  rintro e w' ⟨rfl, k, os, rfl⟩
  exact ⟨rfl, Lib.below_grow _ _ (Nat.le_refl _) _ _⟩
theorem Num.parse (s : ByteArray) (w : World) (hLa : LaidW w) (hs : s.size ≤ 281474976710656) :
    Calls Tryd.prog 22 #[.string s, .int .i64 10, .int .i64 64] w fun e w' => (∃ v ev, e = .returned (.tuple #[.int .i64 v, ev]) ∧ ((Lib.parseIntB 64 s.data.toList = .ok v ∧ ev = .nilIface) ∨ ((∀ u, Lib.parseIntB 64 s.data.toList ≠ .ok u) ∧ ∃ t p, ev = .iface t p))) ∧ Below w.heap.size w w' := by
  obtain ⟨t1, p1, h1⟩ := hLa.syn
  obtain ⟨t2, p2, h2⟩ := hLa.rng
  cases hp : Lib.parseIntB 64 s.data.toList with
  | ok v =>
    refine (Tryd.strconv_ParseInt_10_at64_ok s (by omega) v hp w).mono ?_
    rintro e w' ⟨rfl, hw⟩
    refine ⟨⟨v, _, rfl, .inl ⟨rfl, rfl⟩⟩, ?_⟩
    rcases hw with rfl | ⟨t, rfl⟩
    · exact Below.refl _ _
    · exact Joins.below_bytesWorld _ _ _ _ (Nat.le_refl _)
  | range =>
    refine (Tryd.strconv_ParseInt_10_at64_range s hs hp _ w h2 (.inr ⟨_, _, rfl⟩)).mono ?_
    rintro e w' ⟨N, rfl, _, _, hb⟩
    exact ⟨⟨_, _, rfl, .inr ⟨fun u h => (by cases h), _, _, rfl⟩⟩, hb⟩
  | _ =>
    refine (Tryd.strconv_ParseInt_10_at64_syntax s hs hp _ w h1 (.inr ⟨_, _, rfl⟩)).mono ?_
    rintro e w' ⟨N, rfl, _, _, hb⟩
    exact ⟨⟨_, _, rfl, .inr ⟨fun u h => (by cases h), _, _, rfl⟩⟩, hb⟩
end Go.Proofs.YtfbocehdhmpnaaaDoor.Aux
