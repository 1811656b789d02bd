/-
  make with a capacity of its own, as a step of the walk: a row of zeros in new memory with room behind it.
-/
import Derived.Test.YtkhagjopkghpkaaWWords
import Derived.Test.YtkhagjopkghpkaaWLast
namespace Go.Proofs.Ytkhagjopkghpkaa.Aux
set_option linter.unusedVariables false
set_option linter.unusedSimpArgs false
open Go.RowKit Go.Proofs.YtkhagjopkghpkaaW.PrintWords Go.Proofs.YtkhagjopkghpkaaW.PrintLast
section
variable {P : Program} {ops : Array Oper} {rest : List Oper} {o : Oper} {a : Act} {Q : Exit → Act → World → Prop} {α : Type}
theorem R_makec (d : Kd α) {w0 W : World} (base e : Nat) (hgd : o.guard = none) (t : TypeId) (x y : Operand) (ho : o.op = .makeSlice t x y) {kl kc : IntKind} (n c : Int) (hx : a.eval x = .int kl n) (hy : a.eval y = .int kc c)
    (ht : P.underlying t = some (.slice e)) (z : Value) (bytes : Nat) (hinfo : (P.info? e).map (fun i => (i.zero, i.size, i.bytes)) = some (some z, d.sz, bytes)) (hz : z.cells.size = d.sz) (hs0 : 0 < d.sz) (hb0 : 0 < bytes)
    (z0 : α) {ok okp : Nat → Prop} (hzero : d.M W base okp z0 z.cells.toList) (hok : ∀ k, okp k → ok k) (hfresh : ok W.heap.size) (h0 : 0 ≤ n) (hnc : n ≤ c) (hl : c.toNat * bytes ≤ 281474976710656) (HB : Below base w0 W) (hbase : base ≤ W.heap.size)
    (h : ∀ v1 w1, d.R e w1 base ok v1 (List.replicate n.toNat z0) → Below base w0 w1 → W.grownBy w1 none → (∃ b, v1.ownBlock = some b ∧ W.heap.size ≤ b) → wpList P ops Q rest (a.put o.dst v1) w1) : wpList P ops Q (o :: rest) a W := by
  obtain ⟨i0, hi, hzz⟩ := Option.map_eq_some_iff.1 hinfo
  simp only [Prod.mk.injEq] at hzz
  obtain ⟨hz0, hz1, hz2⟩ := hzz
  have hm : c.toNat ≤ 281474976710656 := Nat.le_trans (Nat.le_mul_of_pos_right _ hb0) hl
  have hr := run_make (P := P) W t e i0 z ht hi hz0 kl kc n c h0 hnc
    (by
      have h3 : ((i0.bytes * c.toNat : Nat) : Int) ≤ 281474976710656 := by rw [hz2, Nat.mul_comm]; omega
      rw [Int.natCast_mul, Int.toNat_of_nonneg (by omega)] at h3
      exact h3) (by omega)
  rw [hz1] at hr
  have hex : (execOp a.eval o).run P W = .ok (.value (.slice (some ⟨W.heap.size, 0, none⟩) n.toNat c.toNat)) (W.alloc (.cells (madeCells z.cells (c.toNat * d.sz)) e)) := by simp [execOp, ho, hx, hy, hr]
  refine Kd.event_run hgd hex (h _ _ ?_ (HB.alloc hbase _) (World.grownBy_alloc W _ none) ⟨W.heap.size, by simp [Value.ownBlock], Nat.le_refl _⟩)
  have hfull : d.R e (W.alloc (.cells (madeCells z.cells (c.toNat * d.sz)) e)) base ok (.slice (some ⟨W.heap.size, 0, none⟩) c.toNat c.toNat) (List.replicate c.toNat z0) := by
    refine ⟨fun k hk => ?_, (madeCells z.cells (c.toNat * d.sz)).toList, ?_, ?_⟩
    · have : W.heap.size = k := by simpa [Value.ownBlock] using hk
      subst this
      exact hfresh
    · have h2 := World.ownsRow_lit (base := base) (e := e) (size := d.sz) W (madeCells z.cells (c.toNat * d.sz)) c.toNat hbase (by unfold maxLen; omega) (size_madeCells _ _)
      simpa using h2
    · refine (Kd.reps_made hz hs0 hzero c.toNat).imp_ (fun p cs hp => d.M_mono (fun k hk => ⟨hok k hk.1, fun he => ?_⟩) (Kd.M_below (d.M_bound hp) (below_alloc (Below.refl _ _) _)))
      have h3 : k = W.heap.size := by simpa [Value.ownBlock] using he
      have := hk.2.2.1
      omega
  have hcut := Kd.R_take (m := n.toNat) hfull (by simp; omega)
  rwa [List.take_replicate, Nat.min_eq_left (by omega)] at hcut
end
end Go.Proofs.Ytkhagjopkghpkaa.Aux
