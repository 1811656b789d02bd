-- own work: an evaluator of the program's code, and what it answers
import Derived.Test.YtdmoipccmbimhaaGreatDoorW9
set_option maxRecDepth 100000
set_option linter.unusedVariables false
set_option linter.unusedSimpArgs false
namespace Go.Eng
open Go Go.Proofs
set_option maxHeartbeats 4000000 in
theorem f31_ev (c : Cl) (hc : okC c) (ro : Nat) (m : Mem) (hro : ro ≤ m.length) :
    evL Tryz.prog An ro 74 [.c (encC c)] m = some (.c (.v (.int .i64 (rightC c))), m) := by
  refine evL_by (n := 11) (by kernel_rfl) rfl fn74 rfl rfl rfl rfl ?_
  have hro1 : ro ≤ m.length + 1 := by omega
  have hd := fun ro m hro => f64_ev c hc ro m hro
  have hs := fun ro m hro => f65_ev c hc ro m hro
  have hp := fun ro m hro => f66_ev c hc ro m hro
  unfold rightC
  by_cases h1 : 64 < depC c
  · have d1 : decide (((min (depC c) 65 : Nat) : Int) > 64) = true := dec_t (by omega)
    simp only [go_sem, ↓reduceIte, hd, d1, hro, hro1, if_pos h1]
  · have d1 : decide (((min (depC c) 65 : Nat) : Int) > 64) = false := dec_f (by omega)
    rw [if_neg h1]
    by_cases h2 : 4096 < sizeC c
    · have d2 : decide (((min (sizeC c) 4097 : Nat) : Int) > 4096) = true := dec_t (by omega)
      simp only [go_sem, ↓reduceIte, hd, hs, d1, d2, hro, hro1, if_pos h2]
    · have d2 : decide (((min (sizeC c) 4097 : Nat) : Int) > 4096) = false := dec_f (by omega)
      simp only [go_sem, ↓reduceIte, hd, hs, hp, d1, d2, hro, hro1, if_neg h2]
/-! ### the way to what is wrong with a claim -/
def encA2 (x : List Int × Int) : List V := [.c (.sl (x.1.map cI)), .c (.v (.int .i64 x.2))]
def bindsW (s : Sg) (bs : List ByteArray) (c : Cl) : List ByteArray := if bindB c.op then bs ++ [c.so] else bs
def lastW (s : Sg) (way : List Int) (op : Int) (nm : ByteArray) (has : List ByteArray) : List Int × Int :=
  if op = 3 then (applyW way (findF s nm).1 ((findF s nm).2 && (beqS (findF s nm).1.res sBool == true)) has).2
  else if op = 5 then askW way 0 0 has [sInt, sInt]
  else if op = 4 then askW way 0 0 has [has.getD 0 noS, has.getD 0 noS]
  else ([], 0)
mutual
def claimW (s : Sg) (vs : List Va) : List ByteArray → List Int → Cl → List Int × Int
  | bs, way, .mk op nm so ts ss =>
    if (allW s vs bs way 0 ts).2.2 ≠ 0 then (allW s vs bs way 0 ts).2
    else if bindB op && !thingS s so then (way, 11)
    else if (claimsW s vs (if bindB op then bs ++ [so] else bs) way ts.length 0 ss).2 ≠ 0 then claimsW s vs (if bindB op then bs ++ [so] else bs) way ts.length 0 ss
    else lastW s way op nm (allW s vs bs way 0 ts).1
def claimsW (s : Sg) (vs : List Va) : List ByteArray → List Int → Nat → Nat → List Cl → List Int × Int
  | _, _, _, _, [] => ([], 0)
  | bs, way, n, i, x :: r => if (claimW s vs bs (way ++ [(n : Int) + i]) x).2 ≠ 0 then claimW s vs bs (way ++ [(n : Int) + i]) x else claimsW s vs bs way n (i + 1) r
end
theorem claimW_eq (s : Sg) (vs : List Va) (bs : List ByteArray) (way : List Int) (c : Cl) : claimW s vs bs way c =
    if (allW s vs bs way 0 c.ts).2.2 ≠ 0 then (allW s vs bs way 0 c.ts).2
    else if bindB c.op && !thingS s c.so then (way, 11)
    else if (claimsW s vs (bindsW s bs c) way c.ts.length 0 c.ss).2 ≠ 0 then claimsW s vs (bindsW s bs c) way c.ts.length 0 c.ss
    else lastW s way c.op c.nm (allW s vs bs way 0 c.ts).1 := by
  cases c; rw [claimW]; rfl
theorem claimsW_cons (s : Sg) (vs : List Va) (bs : List ByteArray) (way : List Int) (n i : Nat) (x : Cl) (r : List Cl) : claimsW s vs bs way n i (x :: r) = if (claimW s vs bs (way ++ [(n : Int) + i]) x).2 ≠ 0 then claimW s vs bs (way ++ [(n : Int) + i]) x else claimsW s vs bs way n (i + 1) r := by rw [claimsW]
theorem claimsW_nil (s : Sg) (vs : List Va) (bs : List ByteArray) (way : List Int) (n i : Nat) : claimsW s vs bs way n i [] = ([], 0) := by rw [claimsW]
/-- so far down, no more than 8 terms and 2 claims at once, each as it must be -/
inductive fitC : Nat → Cl → Prop
  | mk (d : Nat) (c : Cl) (h : c.ts.length ≤ 8) (h2 : c.ss.length ≤ 2) (h4 : c.op = 4 → c.ts.length = 2) (h5 : c.op = 5 → c.ts.length = 2) (ht : ∀ x ∈ c.ts, fitT 64 x) (r : ∀ x ∈ c.ss, fitC d x) : fitC (d + 1) c
theorem fitC.ts {d : Nat} {c : Cl} (h : fitC d c) : c.ts.length ≤ 8 ∧ c.ss.length ≤ 2 ∧ (c.op = 4 → c.ts.length = 2) ∧ (c.op = 5 → c.ts.length = 2) ∧ ∀ x ∈ c.ts, fitT 64 x := by cases h with | mk _ _ a b e f g _ => exact ⟨a, b, e, f, g⟩
theorem fitC.sub {d : Nat} {c x : Cl} (h : fitC (d + 1) c) (hx : x ∈ c.ss) : fitC d x := by cases h with | mk _ _ _ _ _ _ _ r => exact r x hx
def boxRoom (s : Sg) (vs : List Va) (bs : List ByteArray) : Box := [.c (.sl (s.sorts.map cS)), .c (.sl (s.funs.map encF)), .c (.fn (.func 118) [.fp [.sl (vs.map encV)]]), .c (.sl (bs.map cS))]
theorem headOK_Sn (l : List ByteArray) (k : Nat) : headOK 1 ((l.map cS).take k) = true := by
  cases l with
  | nil => simp [headOK]
  | cons x r => cases k <;> simp [headOK, cS_cells]
end Go.Eng
