-- own work: an evaluator of the program's code, and what it answers
import Derived.Test.YtapjanalameofaaDoorTab
import Derived.Test.YtapjanalameofaaDoorEngC
import Derived.Test.YtapjanalameofaaDoorShN
import Derived.Lib.AppendIntMem
import Derived.Lib.SmallJoins
/- Numbers' digits, and texts joined: two functions of the library, by their contracts. -/
set_option linter.unusedVariables false
set_option linter.unusedSimpArgs false
namespace Go.Eng
open Go Go.RowKit Go.Proofs
theorem one_cell {F : Fz} {x u : Value} (h : RC F (.v x) u.cells.toList) (h2 : (C.v x).isAgg = aggV u) : u = x := by
  have hu : u.cells.toList = [u] := by cases u <;> simp [aggV, C.isAgg, Value.cells] at h2 ⊢
  rw [hu] at h
  simp only [RC, List.cons.injEq, and_true] at h
  exact h.1
theorem pow_stays {w w' : World} (h : Lib.TabIs Tryd.prog w "internal/strconv.uint64pow10" .u64 Lib.pow10Tab) (hb : Below w.heap.size w w') : Lib.TabIs Tryd.prog w' "internal/strconv.uint64pow10" .u64 Lib.pow10Tab :=
  Joins.tab_stays (g := 3) (by kernel_rfl) h hb (Nat.le_refl _)
theorem fmtOK {A : Ann} (hA : ∀ w, A.laid w → LaidS w) : ExtOK Tryd.prog A 76 fmtQ := by
  refine ext_of fun cs r hr => ?_
  unfold fmtQ at hr
  split at hr
  · rename_i n b
    split at hr
    · rename_i hc
      obtain ⟨rfl, h0, h1⟩ := hc
      cases hr
      refine ⟨_, rfl, fun w0 w F vals hl hb hF ha => ?_⟩
      simp only [RA] at ha
      obtain ⟨u, r, hv, k1, k2, u2, r2, rfl, k3, k4, rfl⟩ := ha
      obtain rfl := one_cell k1 k2
      obtain rfl := one_cell k3 k4
      have ev : vals = #[.int .i64 n, .int .i64 10] := by
        have := congrArg List.toArray hv
        simpa using this
      subst ev
      refine (Tryd.strconv_FormatInt_10 n h0 h1 w (pow_stays (hA w0 hl).pow hb)).mono ?_
      rintro e w' ⟨rfl, k, os, rfl⟩
      rw [digB_eq n h0 h1]
      exact ⟨_, rfl, Lib.below_grow _ _ (Nat.le_refl _) _ _, RC_v rfl rfl, rfl⟩
    · cases hr
  · cases hr
theorem strsOf_some : ∀ (l : List C) (xs : List ByteArray), strsOf l = some xs → l = xs.map cS := by
  intro l
  induction l with
  | nil => intro xs h; simp only [strsOf] at h; cases h; rfl
  | cons x r ih =>
    intro xs h
    unfold strsOf at h
    split at h
    · rename_i e; cases e
    · rename_i s r' e
      cases e
      obtain ⟨l, hl, rfl⟩ := Option.map_eq_some_iff.1 h
      rw [ih l hl]; rfl
    · cases h
theorem strs_at {F : Fz} {w : World} (hF : Fz.In F w) {b s : Nat} : ∀ {xs : List ByteArray} {o : Nat}, RE F b o s (xs.map cS) → ∀ (j : Nat) x, xs[j]? = some x → w.cell? ⟨b, o + j, none⟩ = some (.string x) ∧ (xs.length ≠ 0 → s = 1)
  | [], o, _, j, x, h => by simp at h
  | y :: r, o, he, j, x, h => by
    simp only [List.map_cons, RE] at he
    obtain ⟨⟨vs, k1, k2, k3⟩, k4⟩ := he
    simp only [cS, RC] at k3
    obtain ⟨rfl, _⟩ := k3
    obtain rfl : s = 1 := by simpa using k1.symm
    refine ⟨?_, fun _ => rfl⟩
    cases j with
    | zero =>
      simp at h; subst h
      exact hF.c _ _ _ (by have := k2 0 _ rfl; simpa using this)
    | succ j =>
      simp at h
      have := (strs_at hF k4 j x h).1
      rwa [show o + 1 + j = o + (j + 1) by omega] at this
theorem joinOK {A : Ann} : ExtOK Tryd.prog A 50 joinQ := by
  refine ext_of fun cs r hr => ?_
  unfold joinQ at hr
  split at hr
  · rename_i l s
    split at hr
    · rename_i xs hxs
      split at hr
      · rename_i hc
        obtain ⟨h1, h2⟩ := hc
        cases hr
        obtain rfl := strsOf_some _ _ hxs
        refine ⟨_, rfl, fun w0 w F vals hl hb hF ha => ?_⟩
        simp only [RA] at ha
        obtain ⟨u, r, hv, k1, k2, u2, r2, rfl, k3, k4, rfl⟩ := ha
        obtain rfl := one_cell k3 k4
        have hu : u.cells.toList = [u] := by cases u <;> simp [aggV, C.isAgg, Value.cells] at k2 ⊢
        rw [hu] at k1
        simp only [RC] at k1
        obtain ⟨a, n, c, e1, e2, e3, e4⟩ := k1
        simp only [List.cons.injEq, and_true] at e1
        subst e1
        simp only [List.length_map] at e2
        subst e2
        have ev : vals = #[.slice a xs.length c, .string s] := by
          have := congrArg List.toArray hv
          simpa using this
        subst ev
        cases xs with
        | nil =>
          refine (Tryd.strings_Join_none a c s w).mono ?_
          rintro e w' ⟨rfl, rfl⟩
          exact ⟨_, rfl, Below.refl _ _, RC_v rfl rfl, rfl⟩
        | cons y ys =>
          obtain ⟨b, o, sz, rfl, he⟩ := e4 (by simp)
          have hat := strs_at hF he
          have hbk : b < w.heap.size := World.block_lt_of_cell? w _ (hat 0 y rfl).1
          refine (Tryd.strings_Join b o c (y :: ys) s w (fun j x hj => (hat j x hj).1) hbk h1 e3 h2).mono ?_
          rintro e w' ⟨rfl, hb'⟩
          exact ⟨_, rfl, hb', RC_v rfl rfl, rfl⟩
      · cases hr
    · cases hr
  · cases hr
end Go.Eng
