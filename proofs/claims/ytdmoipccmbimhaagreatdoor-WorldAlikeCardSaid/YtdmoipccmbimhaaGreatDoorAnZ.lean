-- own work: an evaluator of the program's code, and what it answers
import Derived.Test.YtdmoipccmbimhaaGreatDoorSRight
import Derived.Test.YtdmoipccmbimhaaGreatDoorUp
import Derived.Test.YtdmoipccmbimhaaGreatDoorMul
/- The machine that may call the two functions with maps of their own. -/
set_option maxRecDepth 100000
set_option linter.unusedVariables false
namespace Go.Eng
open Go Go.RowKit Go.Proofs
noncomputable def extZ (f : Nat) : Option (List C → Option V) := if f = 68 then some srightQ else if f = 42 then some sizesQ else if f = 135 then some mulQ else if f = 133 then some bindQ else An.ext f
noncomputable def AnZ : Ann := { An with fn := fun f => fnL.contains f, ext := extZ }
theorem AnZ_tk (f t : Nat) : AnZ.tk f t = tkF f t := rfl
theorem AnZ_ta (f t : Nat) : AnZ.ta f t = taF f t := rfl
theorem AnZ_lc (f t : Nat) : AnZ.lc f t = lcF f t := rfl
theorem AnZ_frz (f t : Nat) : AnZ.frz f t = frzF f t := rfl
theorem AnZ_own (f t : Nat) : AnZ.own f t = ownF f t := rfl
theorem AnZ_away (f t : Nat) : AnZ.away f t = awayF f t := rfl
theorem AnZ_glob (v : Nat) : AnZ.glob v = globF v := rfl
attribute [go_sem] AnZ_tk AnZ_ta AnZ_lc AnZ_frz AnZ_own AnZ_away AnZ_glob
theorem upZ {ro g : Nat} {vs : List V} {m : Mem} {r : V × Mem} (h : evL Tryz.prog An ro g vs m = some r) : evL Tryz.prog AnZ ro g vs m = some r := by
  refine up (A := An) (fun f hf => ?_) h
  have hf' : f ∈ fnL ∧ (![68, 42, 135, 133].contains f) = true := by
    have : fnA.contains f = true := hf
    unfold fnA at this
    simpa only [List.contains_iff_mem, List.mem_filter] using this
  obtain ⟨h1, h2⟩ := hf'
  simp only [List.contains_cons, List.contains_nil, Bool.or_false, Bool.not_eq_true', Bool.or_eq_false_iff, beq_eq_false_iff_ne] at h2
  refine ⟨by simpa only [List.contains_iff_mem] using h1, ?_⟩
  unfold extZ
  rw [if_neg h2.1, if_neg h2.2.1, if_neg h2.2.2.1, if_neg h2.2.2.2]
theorem progAnZ : ProgOK Tryz.prog AnZ := by
  refine ProgOK.of fnL (fun f => rfl) (by kernel_rfl) (fun f q hq => ?_)
  have hq' : extZ f = some q := hq
  unfold extZ at hq'
  split at hq'
  · rename_i h; subst h; cases hq'; exact srightOK fun _ h => h
  · split at hq'
    · rename_i h; subst h; cases hq'; exact sizesOK
    split at hq'
    · rename_i h; subst h; cases hq'; exact mulOK
    split at hq'
    · rename_i h; subst h; cases hq'; exact bindOK
    · have hq2 : (if f = 129 then some rightQ else if f = 157 then some sizeQ else if f = 164 then some repQ else if f = 150 then some wordQ else none) = some q := hq'
      split at hq2
      · rename_i h; subst h; cases hq2; exact rightOK fun _ h => h.1
      · split at hq2
        · rename_i h; subst h; cases hq2; exact sizeOK
        · split at hq2
          · rename_i h; subst h; cases hq2; exact repOK
          · split at hq2
            · rename_i h; subst h; cases hq2; exact wordOK fun _ h => h.2
            · cases hq2
theorem sright_ev (s : Sg) (hs : okS s) (ro : Nat) (m : Mem) : evL Tryz.prog AnZ ro 68 [.c (encS s)] m = some (.c (.v (.int .i64 (signE s))), m) :=
  evL_ext (cs := [encS s]) (q := srightQ) (by kernel_rfl) rfl (srightQ_some hs) rfl
theorem sizes_ev (s : Sg) (l : List Int) (hp : sizesP s.sorts l) (ro : Nat) (m : Mem) : evL Tryz.prog AnZ ro 42 [.c (encS s), .c (.sl (l.map cI))] m = some (.c (sizesC s.sorts l), m) :=
  evL_ext (cs := [encS s, .sl (l.map cI)]) (q := sizesQ) (by kernel_rfl) rfl (sizesQ_some hp) rfl
end Go.Eng
