-- own work: an evaluator of the program's code, and what it answers
import Derived.Test.YtdmoipccmbimhaaGreatDoorSizes
import Derived.Test.YtdmoipccmbimhaaGreatDoorSh
/- Two small functions told by hand: the product of two machine words, and whether a value is of a name. -/
set_option linter.unusedVariables false
set_option linter.unusedSimpArgs false
namespace Go.Eng
open Go Go.RowKit Go.Proofs
section
attribute [local go_sem] Oper.semAt_some
def mulQ : List C → Option V
  | [.v (.int .u64 x), .v (.int .u64 y)] => if 0 ≤ x ∧ x < 18446744073709551616 ∧ 0 ≤ y ∧ y < 18446744073709551616 then some (.tup [.c (.v (.int .u64 (x * y / 18446744073709551616))), .c (.v (.int .u64 (x * y % 18446744073709551616)))]) else none
  | _ => none
theorem mulOK {A : Ann} : ExtOK Tryz.prog A 135 mulQ := by
  intro cs r hr w0 pend g m w vals hi ha
  unfold mulQ at hr
  split at hr
  · rename_i x y
    split at hr
    · rename_i hxy
      cases hr
      obtain ⟨x0, x1, y0, y1⟩ := hxy
      simp only [RA] at ha
      obtain ⟨u, r, hv, h1, h2, u2, r2, rfl, h3, h4, rfl⟩ := ha
      have hu : u.cells.toList = [u] := by cases u <;> simp [aggV, C.isAgg, Value.cells] at h2 ⊢
      have hu2 : u2.cells.toList = [u2] := by cases u2 <;> simp [aggV, C.isAgg, Value.cells] at h4 ⊢
      rw [hu] at h1
      rw [hu2] at h3
      simp only [RC, List.cons.injEq, and_true] at h1 h3
      obtain ⟨rfl, _⟩ := h1
      obtain ⟨rfl, _⟩ := h3
      have ev : vals = #[.int .u64 (x.toNat : Int), .int .u64 (y.toNat : Int)] := by
        have := congrArg List.toArray hv
        rw [Int.toNat_of_nonneg x0, Int.toNat_of_nonneg y0]
        simpa using this
      subst ev
      refine (Tryz.bits_Mul64 x.toNat y.toNat (by omega) (by omega) w).mono ?_
      rintro e w' ⟨rfl, rfl⟩
      have e1 : ((x.toNat * y.toNat / 18446744073709551616 : Nat) : Int) = x * y / 18446744073709551616 := by
        rw [Int.natCast_ediv, Int.natCast_mul, Int.toNat_of_nonneg x0, Int.toNat_of_nonneg y0]; rfl
      have e2 : ((x.toNat * y.toNat % 18446744073709551616 : Nat) : Int) = x * y % 18446744073709551616 := by
        rw [Int.natCast_emod, Int.natCast_mul, Int.toNat_of_nonneg x0, Int.toNat_of_nonneg y0]; rfl
      rw [e1, e2]
      refine ⟨_, g, rfl, hi, Ext.refl _ _, ?_⟩
      simp only [RV]
      refine ⟨_, rfl, ?_⟩
      simp only [RVL, RV]
      exact ⟨_, _, rfl, ⟨RC_v rfl rfl, rfl⟩, _, _, rfl, ⟨RC_v rfl rfl, rfl⟩, rfl⟩
    · cases hr
  · cases hr
/-- is a value of this name? -/
def bindQ : List C → Option V
  | [.agg [.v (.string a), .v (.int .i64 _)], .fp [.v (.string b)]] => some (.c (.v (.bool (a.toList == b.toList))))
  | _ => none
set_option maxHeartbeats 1000000 in
set_option maxRecDepth 100000 in
theorem bind_any (a b : ByteArray) (n : Int) (bk o : Nat) (w : World) (hc : w.cell? ⟨bk, o, none⟩ = some (.string b)) :
    Calls Tryz.prog 133 #[.agg #[.string a, .int .i64 n], .pointer (some ⟨bk, o, none⟩)] w fun e w' => e = .returned (.bool (a.toList == b.toList)) ∧ Below w.heap.size w w' := by
  have hlt := World.block_lt_of_cell? w _ hc
  have hca : (w.alloc (.cells #[.string a, .int .i64 n] 75)).cell? ⟨bk, o, none⟩ = some (.string b) := ((below_alloc (Below.refl w.heap.size w) _).cell hlt).trans hc
  have HB := Aside0.mk (below_alloc (Below.refl w.heap.size w) (.cells #[.string a, .int .i64 n] 75))
  obtain ⟨p0, p1, f0, f1⟩ := cells2 (blk_new w (.cells #[.string a, .int .i64 n] 75))
  go_enter Tryz.func133, Tryz.ntmps133
  cases hab : (a.toList == b.toList)
  · go_wp2
    go_ret
    exact ⟨rfl, HB.out⟩
  · go_wp2
    go_ret
    exact ⟨rfl, HB.out⟩
theorem bindOK {A : Ann} : ExtOK Tryz.prog A 133 bindQ := by
  refine ext_of fun cs r hr => ?_
  unfold bindQ at hr
  split at hr
  · rename_i a n b
    cases hr
    refine ⟨_, rfl, fun w0 w F vals hl hb hF ha => ?_⟩
    simp only [RA] at ha
    obtain ⟨u, r, hv, h1, h2, u2, r2, rfl, h3, h4, rfl⟩ := ha
    simp only [RC, RL] at h1 h3
    obtain ⟨a0, s0, e0, ⟨k0, _⟩, _, a1, s1, e1, ⟨k1, _⟩, _, e2⟩ := h1
    obtain ⟨bk, o, vs, k2, hat, a2, s2, e3, ⟨k3, _⟩, _, e4⟩ := h3
    simp only [List.cons.injEq, and_true] at k0 k1 k3
    subst k0 k1 k3
    have ev : vals = #[.agg #[.string a, .int .i64 n], .pointer (some ⟨bk, o, none⟩)] := by
      obtain ⟨cs, rfl⟩ := aggV_true (u := u) h2.symm
      have hu2 : u2.cells.toList = [u2] := by cases u2 <;> simp [aggV, C.isAgg, Value.cells] at h4 ⊢
      rw [hu2] at k2
      simp only [List.cons.injEq, and_true] at k2
      simp only [Value.cells] at e0
      have ecs : cs = #[.string a, .int .i64 n] := by
        have := congrArg List.toArray e0
        simpa [e1, e2] using this
      have := congrArg List.toArray hv
      simpa [ecs, k2] using this
    subst ev
    have hc : w.cell? ⟨bk, o, none⟩ = some (.string b) := hF.c _ _ _ (hat 0 _ (by rw [e3]; rfl))
    refine (bind_any a b n bk o w hc).mono ?_
    rintro e w' ⟨rfl, hb'⟩
    exact ⟨_, rfl, hb', RC_v rfl rfl, rfl⟩
  · cases hr
end
end Go.Eng
