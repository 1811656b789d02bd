-- own work: an evaluator of the program's code, and what it answers
import Derived.Test.YtapjanalameofaaDoorEngC
import Derived.WideKeyElems2
/- A package's map, as its initialiser lays it: its entries lie in any order. -/
set_option linter.unusedVariables false
set_option linter.unusedSimpArgs false
namespace Go.Eng
open Go.RowKit Go.WideElems Go.ChangeShapes Go.WideShapes Go.MapKept Go.ChangeMaps
theorem perm_lift {α β : Type} (f : α → β) : ∀ (L : List β) (l : List α), (l.map f).Perm L → ∃ l', l.Perm l' ∧ l'.map f = L
  | [], l, h => by
    have : l = [] := by have := h.length_eq; simpa using this
    exact ⟨[], by rw [this], rfl⟩
  | y :: L, l, h => by
    have hy : y ∈ l.map f := h.mem_iff.2 (List.mem_cons_self ..)
    obtain ⟨x, hx, rfl⟩ := List.mem_map.1 hy
    obtain ⟨s, t, rfl⟩ := List.append_of_mem hx
    have hp : (s ++ x :: t).Perm (x :: (s ++ t)) := List.perm_middle
    have h2 : ((s ++ t).map f).Perm L := by
      have := ((hp.map f).symm.trans h)
      rw [List.map_cons] at this
      exact List.Perm.cons_inv this
    obtain ⟨l', k1, k2⟩ := perm_lift f L (s ++ t) h2
    exact ⟨x :: l', hp.trans (k1.cons x), by rw [List.map_cons, k2]⟩
section
variable {H : Type} {enc : TypeId × Value → H} {P : Program} {w : World} {base : Nat} {sp : Nat → Bool} {held : Bool} {t k e : TypeId}
theorem key_int (hk : P.underlying k = some (.int .i64)) {v : Value} {n : Int} (h : keyOf P k v = some (.int .i64 n)) : v = .int .i64 n := by
  unfold keyOf at h
  rw [hk] at h
  simp only at h
  unfold mapKey at h
  rw [hk] at h
  cases v with
  | int q n' =>
    simp only at h
    split at h
    · rename_i hc
      obtain ⟨rfl, _⟩ := hc
      cases h; rfl
    · cases h
  | _ => simp at h
theorem val_int (he : P.underlying e = some (.int .i64)) {n : Nat} {v : Value} {z : DataW H × List MemPlace} {d : Int} (h : elemAt enc P w base sp held n e v = some z) (hz : z.1 = .lit (.int .i64 d)) : v = .int .i64 d := by
  unfold elemAt at h
  split at h
  · rename_i hf
    obtain ⟨x, h1, h2, _⟩ := DataW.trod_int he h
    rw [h2] at hz
    cases hz
    cases v <;> simp_all [Value.cells, Value.formed]
  · cases h
theorem val_str (he : P.underlying e = some .string) {n : Nat} {v : Value} {z : DataW H × List MemPlace} {d : List UInt8} (h : elemAt enc P w base sp held n e v = some z) (hz : z.1 = .lit (.string d)) : v = .string ⟨d.toArray⟩ := by
  unfold elemAt at h
  split at h
  · rename_i hf
    obtain ⟨x, h1, h2, _⟩ := DataW.trod_string he h
    rw [h2] at hz
    cases hz
    cases v <;> simp_all [Value.cells, Value.formed]
  · cases h
/-- a map of numbers, whatever the order of its entries -/
theorem map_RC (ht : P.underlying t = some (.map k e)) (hk : P.underlying k = some (.int .i64)) {fuel : Nat} {cs : List Value} {L : List (Lit × DataW H)} {pl : List MemPlace} (h : DataW.trod enc P w base sp held fuel t cs = some (.map L, pl))
    {ks : List Int} {vs : List C} (hks : L.map (·.1) = ks.map (Lit.int .i64)) (hn : ks.Nodup)
    (hv : ∀ (n : Nat) (i : Nat) q y v z, L[i]? = some q → vs[i]? = some y → elemAt enc P w base sp held n e v = some z → z.1 = q.2 → RC (memF w) y v.cells.toList ∧ y.isAgg = aggV v) (hl : vs.length = L.length) :
    ∃ u, cs = [u] ∧ RC (memF w) (.mp (ks.map (Value.int .i64)) vs) [u] := by
  rcases open_map ht h with ⟨_, hx⟩ | ⟨b, es, clock, n, _, rfl, hb, _, F, hx⟩
  · cases hx
  · simp only [Prod.mk.injEq, DataW.map.injEq] at hx
    obtain ⟨hx, _⟩ := hx
    have hp : (es.toList.map (rg P k (elemAt enc P w base sp held n e))).Perm L := by rw [hx]; exact (sorted_perm _).symm
    obtain ⟨es', p1, p2⟩ := perm_lift _ _ _ hp
    refine ⟨_, rfl, ?_⟩
    simp only [RC]
    have hkey : es'.map (·.key) = ks.map (Value.int .i64) := by
      have hlen : es'.length = ks.length := by
        have a1 := congrArg List.length p2
        have a2 := congrArg List.length hks
        simp at a1 a2; omega
      apply List.ext_getElem (by simp [hlen])
      intro i h1 h2
      simp only [List.length_map] at h1 h2
      rw [List.getElem_map, List.getElem_map]
      obtain ⟨y, hy⟩ := F.reads (es'[i]) (p1.mem_iff.2 (List.getElem_mem h1))
      have hrg := rg_of hy
      have hLi : L[i]? = some y := by
        rw [← p2, List.getElem?_map, List.getElem?_eq_getElem h1, ← hrg]; rfl
      have hki : y.1 = .int .i64 ks[i] := by
        have := congrArg (fun l => l[i]?) hks
        simp only [List.getElem?_map, hLi, Option.map_some, List.getElem?_eq_getElem h2, Option.some.injEq] at this
        exact this
      have := rd_key hy
      rw [hki] at this
      exact key_int hk this
    refine ⟨b, es, es', rfl, by simp only [memF, hb], .inr ⟨p1, ?_, ?_⟩, hkey, ?_⟩
    · unfold List.Nodup at hn ⊢
      rw [List.pairwise_map]
      exact hn.imp fun hab e => hab (by cases e; rfl)
    · intro x hx
      obtain ⟨n, _, rfl⟩ := List.mem_map.1 hx
      exact ⟨n, rfl⟩
    · refine RA_of ?_ fun i y v hy hvv => ?_
      · have a1 := congrArg List.length p2
        simp at a1 ⊢; omega
      · rw [List.getElem?_map] at hvv
        obtain ⟨x, hx', rfl⟩ := Option.map_eq_some_iff.1 hvv
        obtain ⟨q, hq⟩ := F.reads x (p1.mem_iff.2 (List.mem_of_getElem? hx'))
        have hrg := rg_of hq
        have hLi : L[i]? = some q := by rw [← p2, List.getElem?_map, hx', ← hrg]; rfl
        obtain ⟨z, hz1, hz2⟩ := rd_val hq
        exact hv n i q y x.val z hLi hy hz1 hz2.symm
end
end Go.Eng
