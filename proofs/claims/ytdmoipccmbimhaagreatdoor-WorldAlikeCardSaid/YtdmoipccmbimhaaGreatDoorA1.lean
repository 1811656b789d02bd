-- own work: an evaluator of the program's code, and what it answers
import Derived.Test.YtdmoipccmbimhaaGreatDoorZ16N
/- Claims that are the same but for the names of binders: plain Lean. -/
set_option maxRecDepth 100000
set_option linter.unusedVariables false
set_option linter.unusedSimpArgs false
namespace Go.Eng
open Go Go.Proofs
mutual
/-- the same but for the names of binders -/
def alike : Cl → Cl → Prop
  | .mk op nm so ts ss, .mk op' nm' so' ts' ss' => op' = op ∧ so' = so ∧ ts' = ts ∧ (bindB op = false → nm' = nm) ∧ alikes ss ss'
def alikes : List Cl → List Cl → Prop
  | [], [] => True
  | x :: r, y :: q => alike x y ∧ alikes r q
  | [], _ :: _ => False
  | _ :: _, [] => False
end
mutual
theorem depC_alike : ∀ (c d : Cl), alike c d → depC d = depC c
  | .mk op nm so ts ss, .mk op' nm' so' ts' ss', h => by
    simp only [alike] at h
    simp only [depC, depCs_alike ss ss' h.2.2.2.2]
theorem depCs_alike : ∀ (l r : List Cl), alikes l r → depCs r = depCs l
  | [], [], _ => rfl
  | x :: l, y :: r, h => by
    simp only [alikes] at h
    simp only [depCs, depC_alike x y h.1, depCs_alike l r h.2]
  | [], _ :: _, h => by simp [alikes] at h
  | _ :: _, [], h => by simp [alikes] at h
end
mutual
theorem sizeC_alike : ∀ (c d : Cl), alike c d → sizeC d = sizeC c
  | .mk op nm so ts ss, .mk op' nm' so' ts' ss', h => by
    simp only [alike] at h
    simp only [sizeC, sizeCs_alike ss ss' h.2.2.2.2, h.2.2.1]
theorem sizeCs_alike : ∀ (l r : List Cl), alikes l r → sizeCs r = sizeCs l
  | [], [], _ => rfl
  | x :: l, y :: r, h => by
    simp only [alikes] at h
    simp only [sizeCs, sizeC_alike x y h.1, sizeCs_alike l r h.2]
  | [], _ :: _, h => by simp [alikes] at h
  | _ :: _, [], h => by simp [alikes] at h
end
theorem alikes_len : ∀ {l r : List Cl}, alikes l r → r.length = l.length
  | [], [], _ => rfl
  | x :: l, y :: r, h => by
    simp only [alikes] at h
    simp [alikes_len h.2]
  | [], _ :: _, h => by simp [alikes] at h
  | _ :: _, [], h => by simp [alikes] at h
theorem cpartE_alike {op : Int} {nm nm' so : ByteArray} {ts : List Tm} {ss ss' : List Cl} (hn : bindB op = false → nm' = nm) (hl : ss'.length = ss.length) : cpartE (.mk op nm' so ts ss') = cpartE (.mk op nm so ts ss) := by
  unfold cpartE
  refine ite_congr (propext ?_) (fun _ => rfl) (fun _ => ite_congr (propext ?_) (fun _ => rfl) (fun _ => rfl))
  · simp only [Cl.op, Cl.nm, Cl.so]
    by_cases hb : bindB op = true
    · simp [hb]
    · rw [hn (by simpa using hb)]
  · simp only [Cl.op, Cl.ts, Cl.ss, hl]
mutual
theorem firstC_alike : ∀ (c d : Cl), alike c d → firstC d = firstC c
  | .mk op nm so ts ss, .mk op' nm' so' ts' ss', h => by
    simp only [alike] at h
    obtain ⟨rfl, rfl, rfl, h4, h5⟩ := h
    simp only [firstC]
    rw [cpartE_alike h4 (alikes_len h5), firstCs_alike ss ss' h5]
theorem firstCs_alike : ∀ (l r : List Cl), alikes l r → firstCs r = firstCs l
  | [], [], _ => rfl
  | x :: l, y :: r, h => by
    simp only [alikes] at h
    rw [firstCs_cons, firstCs_cons, firstC_alike x y h.1, firstCs_alike l r h.2]
  | [], _ :: _, h => by simp [alikes] at h
  | _ :: _, [], h => by simp [alikes] at h
end
theorem rightC_alike {c d : Cl} (h : alike c d) : rightC d = rightC c := by
  unfold rightC
  rw [depC_alike c d h, sizeC_alike c d h, firstC_alike c d h]
theorem lastW_bind {s : Sg} {way : List Int} {op : Int} {nm nm' : ByteArray} {has : List ByteArray} (h : bindB op = false → nm' = nm) : lastW s way op nm' has = lastW s way op nm has := by
  by_cases hb : bindB op = true
  · have h3 : op ≠ 3 := fun e => by subst e; cases hb
    unfold lastW
    rw [if_neg h3, if_neg h3]
  · rw [h (by simpa using hb)]
mutual
theorem claimW_alike (s : Sg) (vs : List Va) : ∀ (c d : Cl) (bs : List ByteArray) (way : List Int), alike c d → claimW s vs bs way d = claimW s vs bs way c
  | .mk op nm so ts ss, .mk op' nm' so' ts' ss', bs, way, h => by
    simp only [alike] at h
    obtain ⟨rfl, rfl, rfl, h4, h5⟩ := h
    simp only [claimW]
    rw [claimsW_alike s vs ss ss' _ way ts'.length 0 h5, lastW_bind h4]
theorem claimsW_alike (s : Sg) (vs : List Va) : ∀ (l r : List Cl) (bs : List ByteArray) (way : List Int) (n i : Nat), alikes l r → claimsW s vs bs way n i r = claimsW s vs bs way n i l
  | [], [], _, _, _, _, _ => rfl
  | x :: l, y :: r, bs, way, n, i, h => by
    simp only [alikes] at h
    rw [claimsW_cons, claimsW_cons, claimW_alike s vs x y bs _ h.1, claimsW_alike s vs l r bs way n (i + 1) h.2]
  | [], _ :: _, _, _, _, _, h => by simp [alikes] at h
  | _ :: _, [], _, _, _, _, h => by simp [alikes] at h
end
mutual
theorem holdsV_alike (s : Sg) (w : Wd) (vs : List Va) (env : List Bd) : ∀ (c d : Cl) (bnd : List Int), alike c d → holdsV s w vs env bnd d = holdsV s w vs env bnd c
  | .mk op nm so ts ss, .mk op' nm' so' ts' ss', bnd, h => by
    simp only [alike] at h
    obtain ⟨rfl, rfl, rfl, h4, h5⟩ := h
    simp only [holdsV]
    rw [holdsS_alike s w vs env ss ss' bnd h5]
    have hh : (fun v => holdsH s w vs env (bnd ++ [v]) ss') = (fun v => holdsH s w vs env (bnd ++ [v]) ss) := funext fun v => holdsH_alike s w vs env ss ss' (bnd ++ [v]) h5
    rw [hh]
    by_cases hb : bindB op' = true
    · simp only [hb, if_true]
    · rw [h4 (by simpa using hb)]
theorem holdsS_alike (s : Sg) (w : Wd) (vs : List Va) (env : List Bd) : ∀ (l r : List Cl) (bnd : List Int), alikes l r → holdsS s w vs env bnd r = holdsS s w vs env bnd l
  | [], [], _, _ => rfl
  | x :: l, y :: r, bnd, h => by
    simp only [alikes] at h
    simp only [holdsS]
    rw [holdsV_alike s w vs env x y bnd h.1, holdsS_alike s w vs env l r bnd h.2]
  | [], _ :: _, _, h => by simp [alikes] at h
  | _ :: _, [], _, h => by simp [alikes] at h
theorem holdsH_alike (s : Sg) (w : Wd) (vs : List Va) (env : List Bd) : ∀ (l r : List Cl) (bnd : List Int), alikes l r → holdsH s w vs env bnd r = holdsH s w vs env bnd l
  | [], [], _, _ => rfl
  | x :: l, y :: r, bnd, h => by
    simp only [alikes] at h
    simp only [holdsH]
    rw [holdsV_alike s w vs env x y bnd h.1]
  | [], _ :: _, _, h => by simp [alikes] at h
  | _ :: _, [], _, h => by simp [alikes] at h
end
theorem claimZ_alike (s : Sg) (w : Wd) (vs : List Va) (env : List Bd) {c d : Cl} (h : alike c d) : claimZ s w vs env d = claimZ s w vs env c := by
  unfold claimZ wellC
  rw [rightC_alike h, claimW_alike s vs c d [] [] h, holdsV_alike s w vs env c d [] h]
/-! ### other names -/
def nmN (op : Int) (nm : ByteArray) (ns : List ByteArray) : ByteArray := if bindB op = true then ns.headD nm else nm
def nsN (op : Int) (ns : List ByteArray) : List ByteArray := if bindB op = true then ns.drop 1 else ns
mutual
def namedC : Cl → List ByteArray → Cl × List ByteArray
  | .mk op nm so ts ss, ns => (.mk op (nmN op nm ns) so ts (namedCs ss (nsN op ns)).1, (namedCs ss (nsN op ns)).2)
def namedCs : List Cl → List ByteArray → List Cl × List ByteArray
  | [], ns => ([], ns)
  | x :: r, ns => ((namedC x ns).1 :: (namedCs r (namedC x ns).2).1, (namedCs r (namedC x ns).2).2)
end
mutual
theorem named_alike : ∀ (c : Cl) (ns : List ByteArray), alike c (namedC c ns).1
  | .mk op nm so ts ss, ns => by
    simp only [namedC, alike, true_and]
    refine ⟨fun hb => ?_, nameds_alike ss _⟩
    unfold nmN
    rw [if_neg (by simp [hb])]
theorem nameds_alike : ∀ (l : List Cl) (ns : List ByteArray), alikes l (namedCs l ns).1
  | [], ns => by simp [namedCs, alikes]
  | x :: r, ns => by
    simp only [namedCs, alikes]
    exact ⟨named_alike x ns, nameds_alike r _⟩
end
theorem namedC_eq (c : Cl) (ns : List ByteArray) : namedC c ns = (.mk c.op (nmN c.op c.nm ns) c.so c.ts (namedCs c.ss (nsN c.op ns)).1, (namedCs c.ss (nsN c.op ns)).2) := by cases c; rw [namedC]; rfl
theorem namedCs_snoc : ∀ (l : List Cl) (x : Cl) (ns : List ByteArray), namedCs (l ++ [x]) ns = ((namedCs l ns).1 ++ [(namedC x (namedCs l ns).2).1], (namedC x (namedCs l ns).2).2)
  | [], x, ns => by simp [namedCs]
  | y :: r, x, ns => by
    simp only [List.cons_append, namedCs, namedCs_snoc r x]
theorem namedCs_take {l : List Cl} {i : Nat} {x : Cl} (h : l[i]? = some x) (ns : List ByteArray) : namedCs (l.take (i + 1)) ns = ((namedCs (l.take i) ns).1 ++ [(namedC x (namedCs (l.take i) ns).2).1], (namedC x (namedCs (l.take i) ns).2).2) := by
  rw [List.take_add_one, h]; exact namedCs_snoc _ _ _
theorem namedCs_len : ∀ (l : List Cl) (ns : List ByteArray), (namedCs l ns).1.length = l.length
  | [], ns => rfl
  | x :: r, ns => by simp [namedCs, namedCs_len r]
mutual
theorem named_ok : ∀ (c : Cl) (ns : List ByteArray), okC c → (∀ x ∈ ns, x.size ≤ maxLen) → okC (namedC c ns).1 ∧ ∀ x ∈ (namedC c ns).2, x.size ≤ maxLen
  | .mk op nm so ts ss, ns, h, hn => by
    cases h with
    | mk _ h1 h2 hop hnm hso r1 r2 =>
      simp only [Cl.ts, Cl.ss, Cl.op, Cl.nm, Cl.so] at h1 h2 hop hnm hso r1 r2
      have hns : ∀ x ∈ nsN op ns, x.size ≤ maxLen := by
        intro x hx
        unfold nsN at hx
        split at hx
        · exact hn x (List.mem_of_mem_drop hx)
        · exact hn x hx
      have hnm' : (nmN op nm ns).size ≤ maxLen := by
        unfold nmN
        split
        · cases ns with
          | nil => exact hnm
          | cons y r => exact hn y (by simp)
        · exact hnm
      obtain ⟨k1, k2⟩ := nameds_ok ss (nsN op ns) r2 hns
      simp only [namedC]
      refine ⟨.mk _ h1 ?_ hop hnm' hso r1 k1, k2⟩
      simp only [Cl.ss, namedCs_len]
      exact h2
theorem nameds_ok : ∀ (l : List Cl) (ns : List ByteArray), (∀ x ∈ l, okC x) → (∀ x ∈ ns, x.size ≤ maxLen) → (∀ x ∈ (namedCs l ns).1, okC x) ∧ ∀ x ∈ (namedCs l ns).2, x.size ≤ maxLen
  | [], ns, _, hn => ⟨fun x hx => by simp [namedCs] at hx, hn⟩
  | y :: r, ns, h, hn => by
    obtain ⟨k1, k2⟩ := named_ok y ns (h y (by simp)) hn
    obtain ⟨k3, k4⟩ := nameds_ok r (namedC y ns).2 (fun x hx => h x (by simp [hx])) k2
    simp only [namedCs]
    refine ⟨fun x hx => ?_, k4⟩
    rcases List.mem_cons.1 hx with rfl | hx
    · exact k1
    · exact k3 x hx
end
end Go.Eng
