/-
  Small plain facts for the pure statements: reads of rows, texts that are equal, rounds.
-/
import Derived.Test.YtjmbdejejlcklaaDoorWWords
import Derived.Test.YtjmbdejejlcklaaDoorWMore
import Derived.Test.YtjmbdejejlcklaaDoorSpec
import Derived.Lib.Strings
namespace Go.Proofs.YtjmbdejejlcklaaDoor.Pure
set_option linter.unusedVariables false
set_option linter.unusedSimpArgs false
open Go.RowKit Go.Proofs.YtjmbdejejlcklaaDoor.Spec 
open Go.Proofs.YtjmbdejejlcklaaDoorW.PrintWords Go.Proofs.YtjmbdejejlcklaaDoorW.PrintLast Go.Proofs.YtjmbdejejlcklaaDoorW.PrintMore

theorem size_list (s : ByteArray) : s.data.toList.length = s.size := Array.length_toList
instance decBA : DecidableEq ByteArray := fun a b => decidable_of_iff (a.data = b.data) ⟨fun h => by cases a; cases b; simp_all, fun h => h ▸ rfl⟩

theorem ba_eq (x y : ByteArray) : x.toList = y.toList ↔ x = y := by
  rw [Lib.toList_data, Lib.toList_data]
  constructor
  · intro h
    have := Array.toList_inj.1 h
    cases x; cases y; simp_all
  · rintro rfl; rfl
theorem ba_beq (x y : ByteArray) : (x.toList == y.toList) = decide (x = y) := by
  rw [Bool.eq_iff_iff]; simp [ba_eq]
theorem ba_data (x y : ByteArray) : x.data.toList = y.data.toList ↔ x = y := by rw [← Lib.toList_data, ← Lib.toList_data]; exact ba_eq x y
theorem ba_lit (x : ByteArray) (l : List UInt8) : x.toList = l ↔ x = ⟨l.toArray⟩ := by
  rw [← ba_eq, Lib.toList_data ⟨l.toArray⟩]
def hasB (l : List ByteArray) (s : ByteArray) : Bool := l.any fun x => decide (x = s)
theorem hasB_cons (x : ByteArray) (l : List ByteArray) (s : ByteArray) : hasB (x :: l) s = (decide (x = s) || hasB l s) := by simp [hasB]
theorem rd_at (l : List ByteArray) (i : Nat) (h : i < l.length) : rdOf ByteArray.empty l (i : Int) = l[i] := by
  unfold rdOf
  rw [Int.toNat_natCast, List.getD, List.getElem?_eq_getElem h]; rfl
theorem wrap_in (x : Int) (h0 : -9223372036854775808 ≤ x) (h1 : x ≤ 9223372036854775807) : wrap64 x = x := by
  unfold wrap64; omega
theorem wrap_succ (i : Nat) (h : i < 9223372036854775807) : wrap64 ((i : Int) + 1) = ((i + 1 : Nat) : Int) := by
  rw [wrap_in _ (by omega) (by omega)]; rfl

theorem wrap_add (a b : Nat) (h : a + b ≤ 9223372036854775807) : wrap64 ((a : Int) + (b : Int)) = ((a + b : Nat) : Int) := by
  rw [wrap_in _ (by omega) (by omega)]; rfl

theorem Ev.pos {α : Type} {a b : Nat → Option α} {r : α} {c : Prop} [Decidable c] (h : c) (ha : Ev a r) : Ev (fun k => if c then a k else b k) r := Ev.congr (fun k => if_pos h) ha
theorem Ev.neg {α : Type} {a b : Nat → Option α} {r : α} {c : Prop} [Decidable c] (h : ¬ c) (hb : Ev b r) : Ev (fun k => if c then a k else b k) r := Ev.congr (fun k => if_neg h) hb
theorem Ev.get {α : Type} {a : Nat → Option α} {r s : α} (h : Ev a r) (e : r = s) : Ev a s := e ▸ h
theorem Ev.some_ {α : Type} {r s : α} (e : r = s) : Ev (fun _ => some r) s := e ▸ Ev.now r
/-- What holds from some round on, of several at once. -/
theorem ev2 {α β : Type} {a : Nat → Option α} {b : Nat → Option β} {r : α} {s : β} (h : Ev a r) (g : Ev b s) : ∃ K, ∀ k, K ≤ k → a k = some r ∧ b k = some s := by
  obtain ⟨K, h⟩ := h
  obtain ⟨M, g⟩ := g
  exact ⟨max K M, fun k hk => ⟨h k (by omega), g k (by omega)⟩⟩
end Go.Proofs.YtjmbdejejlcklaaDoor.Pure
