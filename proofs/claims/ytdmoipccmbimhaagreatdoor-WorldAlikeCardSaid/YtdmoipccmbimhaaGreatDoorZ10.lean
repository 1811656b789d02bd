-- own work: an evaluator of the program's code, and what it answers
import Derived.Test.YtdmoipccmbimhaaGreatDoorZC
import Derived.Test.YtdmoipccmbimhaaGreatDoorWellA
/- The law of right worlds: what it calls. -/
set_option maxRecDepth 100000
set_option linter.unusedVariables false
set_option linter.unusedSimpArgs false
namespace Go.Eng
open Go Go.Proofs
set_option maxHeartbeats 1000000 in
theorem told_ev (w : Wd) (ro : Nat) (m : Mem) (hro : ro ≤ m.length) : evL Tryz.prog AnZ ro 13 [.c (encW w)] m = some (.c (encW w), m) := by
  refine evL_by (n := 8) (by kernel_rfl) rfl fn13 rfl rfl rfl rfl ?_
  simp only [go_sem, ↓reduceIte, hro]
def fewT : Int → List Nat → Int
  | x, [] => x
  | x, a :: r => if x ≤ 20000 then fewT (IntKind.i64.wrap (x + a)) r else x
def few16 (s : Sg) (w : Wd) : Bool := decide (fewT (IntKind.i64.wrap ((w.sizes.length : Int) + w.tables.length)) (w.tables.map List.length) ≤ 20000) && few s []
set_option maxHeartbeats 2000000 in
theorem few16_ev (s : Sg) (w : Wd) (hs : okS s) (hw : okW w) (ro : Nat) (m : Mem) (hro : ro ≤ m.length) : evL Tryz.prog AnZ ro 10 [.c (encS s), .c (encW w)] m = some (.c (.v (.bool (few16 s w))), m) := by
  have hlen := hw.tables
  rw [maxLen_eq] at hlen
  have hro1 : ro ≤ m.length + 1 := by omega
  have hfew := fun ro m => upZ (few_ev s [] hs ro m)
  simp only [List.map_nil] at hfew
  refine evL_by (n := 39) (by kernel_rfl) rfl fn10 rfl rfl rfl rfl ?_
  simp only [go_sem, ↓reduceIte]
  unfold few16
  generalize hx0 : IntKind.i64.wrap ((w.sizes.length : Int) + w.tables.length) = x0
  generalize hL : loopW _ _ = L
  obtain ⟨⟨i, x⟩, ⟨h1, h2⟩, hE, rfl⟩ := loopW_at hL (fun (q : Nat × Int) => [(5, .c (.v (.int .i64 q.2))), (6, .c (.v (.int .i64 q.1)))]) (fun _ => [] :: m)
    (fun q => q.1 ≤ w.tables.length ∧ fewT q.2 ((w.tables.drop q.1).map List.length) = fewT x0 (w.tables.map List.length)) (fun q => q.1 = w.tables.length ∨ 20000 < q.2) (fun q => w.tables.length - q.1) (0, x0) rfl rfl ⟨by simp, by simp⟩ (by
    rintro ⟨i, x⟩ ⟨h1, h2⟩ hE
    simp only [not_or, Int.not_lt] at hE h1 h2
    obtain ⟨h3, h4⟩ := hE
    obtain ⟨f, hf⟩ : ∃ f, w.tables[i]? = some f := ⟨_, List.getElem?_eq_getElem (by omega)⟩
    have c1 : decide ((i : Int) < (w.tables.length : Int)) = true := dec_t (by omega)
    have c2 : decide (x ≤ 20000) = true := dec_t h4
    have c3 : IntKind.i64.wrap ((i : Int) + 1) = ((i + 1 : Nat) : Int) := wrap64 (by omega) (by omega)
    refine ⟨(i + 1, IntKind.i64.wrap (x + f.length)), ⟨by simp only; omega, ?_⟩, by simp only; omega, ?_⟩
    · rw [← h2]
      dsimp only
      rw [drop_get hf, List.map_cons, fewT, if_pos h4]
    · rw [round_go]
      simp only [go_sem, ↓reduceIte, c1, c2, c3, hf, encL_def, List.length_map])
  clear hL
  simp only at h1 h2 hE
  rw [loopW_go, ← h2]
  by_cases hi : i < w.tables.length
  · obtain ⟨f, hf⟩ : ∃ f, w.tables[i]? = some f := ⟨_, List.getElem?_eq_getElem hi⟩
    have hx : 20000 < x := by omega
    have c1 : decide ((i : Int) < (w.tables.length : Int)) = true := dec_t (by omega)
    have c2 : decide (x ≤ 20000) = false := dec_f (by omega)
    rw [drop_get hf, List.map_cons, fewT, if_neg (by omega), c2]
    simp only [go_sem, ↓reduceIte, c1, c2, Bool.false_and]
  · have c1 : decide ((i : Int) < (w.tables.length : Int)) = false := dec_f (by omega)
    rw [List.drop_eq_nil_of_le (by omega), List.map_nil, fewT]
    cases c2 : decide (x ≤ 20000) <;> simp only [go_sem, ↓reduceIte, c1, c2, hfew, hro, hro1, Bool.false_and, Bool.true_and]
/-! ### claims -/
def claimZ (s : Sg) (w : Wd) (vs : List Va) (env : List Bd) (c : Cl) : Bool × Int :=
  if wrightE s w ≠ 0 then (false, wrightE s w) else if (wellC s vs c).2 ≠ 0 then (false, (wellC s vs c).2) else holdsV s w vs env [] c
theorem wellC_first {s : Sg} {vs : List Va} {c : Cl} (h : (wellC s vs c).2 = 0) : depC c ≤ 64 ∧ firstC c = 0 ∧ (claimW s vs [] [] c).2 = 0 := by
  unfold wellC at h
  by_cases hr : rightC c ≠ 0
  · rw [if_pos hr] at h; exact absurd h hr
  rw [if_neg hr] at h
  have hr' : rightC c = 0 := by simpa using hr
  unfold rightC at hr'
  by_cases h1 : 64 < depC c
  · rw [if_pos h1] at hr'; cases hr'
  rw [if_neg h1] at hr'
  by_cases h2 : 4096 < sizeC c
  · rw [if_pos h2] at hr'; cases hr'
  rw [if_neg h2] at hr'
  exact ⟨by omega, hr', h⟩
set_option maxHeartbeats 4000000 in
theorem wclaim_ev (s : Sg) (w : Wd) (vs : List Va) (env : List Bd) (c : Cl) (hs : okS s) (hw : okW w) (hvs : vs.length ≤ maxLen) (hc : okC c) (T : Tm → Prop)
    (hT : RoomOK s w → ∀ bs bnd x a, inR s w bs bnd → bs.length ≤ 50000 → tyT s vs bs x a → T x → TermOK s w vs env bnd x)
    (hty : RoomOK s w → (wellC s vs c).2 = 0 → tyC s vs T [] c) (ro : Nat) (m : Mem) (hro : ro ≤ m.length) :
    evL Tryz.prog AnZ ro 16 [.c (encS s), .c (encW w), .c (.sl (vs.map encV)), .c (.sl (env.map encB)), .c (encC c)] m = some (.tup (encBP (claimZ s w vs env c)), m) := by
  have hro1 : ro ≤ m.length + 1 := by omega
  have hr := fun ro m hro => wright_ev s w hs hw ro m hro
  refine evL_by (n := 40) (by kernel_rfl) rfl fn16 rfl rfl rfl rfl ?_
  unfold claimZ
  by_cases h0 : wrightE s w = 0
  · have hroom : RoomOK s w := ⟨hs, hw, h0⟩
    obtain ⟨hp, hsg, _⟩ := sizedE_ok hs hroom.sized.1
    have hso : s.sorts.length ≤ 2000000 := by have := sortsE_len (signE_ok hsg).1; omega
    have hwl := fun ro m hro => upZ (f19_ev s vs c hs.funs hso hvs hc ro m hro)
    rw [h0] at hr
    rw [h0, if_neg (by simp)]
    have cz : ((0 : Int) != 0) = false := rfl
    by_cases h1 : (wellC s vs c).2 = 0
    · obtain ⟨k1, _, _⟩ := wellC_first h1
      have hcl := claim_ev s w vs env hroom T (hT hroom) 64 c [] [] k1 (hty hroom h1) trivial (by simp)
      unfold ClaimOK at hcl
      have hof := fun ro m hro => of_ev s w vs env hp ro m hro
      rw [if_neg (by simpa using h1)]
      generalize wellC s vs c = q at hwl h1
      obtain ⟨a, b⟩ := q
      simp only at h1
      subst h1
      simp only [go_sem, ↓reduceIte, hr, hwl, hof, hcl, cz, encA2, encBP, hro, hro1]
    · rw [if_pos h1]
      generalize wellC s vs c = q at hwl h1 ⊢
      obtain ⟨a, b⟩ := q
      simp only at h1
      have c1 : (b != 0) = true := bneI_t h1
      simp only [go_sem, ↓reduceIte, hr, hwl, cz, c1, encA2, encBP, hro, hro1]
  · have c1 : (wrightE s w != 0) = true := bneI_t h0
    rw [if_pos h0]
    simp only [go_sem, ↓reduceIte, hr, c1, encBP, hro, hro1]
/-! ### the page's example -/
def s16 : Sg := ⟨[⟨#[65]⟩], [⟨⟨#[112]⟩, [⟨#[65]⟩], sBool⟩]⟩
def w16 : Wd := ⟨[2], [[0, 1]]⟩
def p16 : Cl := .mk 3 ⟨#[112]⟩ ByteArray.empty [.mk 2 ByteArray.empty 0 []] []
def c16 (op : Int) : Cl := .mk op ByteArray.empty ⟨#[65]⟩ [] [p16]
theorem ok_s16 : okS s16 := ⟨by decide, by decide, by decide, fun f hf => by
  obtain rfl : f = ⟨⟨#[112]⟩, [⟨#[65]⟩], sBool⟩ := by simpa [s16] using hf
  exact ⟨by decide, by decide, by decide, by decide⟩⟩
theorem ok_w16 : okW w16 := ⟨by decide, by decide, by decide⟩
theorem ok_p16 : okC p16 := .mk _ (by decide) (by decide) (by decide) (by decide) (by decide) (by
  intro x hx
  obtain rfl : x = .mk 2 ByteArray.empty 0 [] := by simpa [p16, Cl.ts] using hx
  exact .mk _ (by decide) (by decide) (by decide) (by decide) (fun y hy => by simp [Tm.l] at hy)) (fun x hx => by simp [p16, Cl.ss] at hx)
theorem ok_c16 (op : Int) (h : (Lit.int .i64 op).wf = true) : okC (c16 op) := .mk _ (by simp [c16, Cl.ts]) (by simp only [c16, Cl.ss]; decide) h (by simp only [c16, Cl.nm]; decide) (by simp only [c16, Cl.so]; decide) (fun x hx => by simp [c16, Cl.ts] at hx) (fun x hx => by
  obtain rfl : x = p16 := by simpa [c16, Cl.ss] using hx
  exact ok_p16)
def bound0 (t : Tm) : Prop := t.op = 2
theorem right16 : wrightE s16 w16 = 0 := by kernel_rfl
theorem well16a : wellC s16 [] (c16 12) = ([], 0) := by kernel_rfl
theorem well16b : wellC s16 [] (c16 11) = ([], 0) := by kernel_rfl
theorem find16 : findF s16 ⟨#[112]⟩ = (⟨⟨#[112]⟩, [⟨#[65]⟩], sBool⟩, true) := by kernel_rfl
theorem ty16 (op : Int) (h : op = 11 ∨ op = 12) : tyC s16 [] bound0 [] (c16 op) := by
  have hb : bindB op = true := by rcases h with rfl | rfl <;> rfl
  have ha : arityS op = 1 := by rcases h with rfl | rfl <;> rfl
  rw [c16, tyC]
  refine ⟨⟨by omega, by omega, by simp [ha]⟩, ⟨[], by simp [tysT], fun e => by omega⟩, fun e => by omega, by simp, fun x hx => by simp at hx, fun _ => by kernel_rfl, ?_⟩
  rw [if_pos hb]
  simp only [tyCs, and_true]
  rw [p16, tyC]
  refine ⟨⟨by decide, by decide, by decide⟩, ⟨[⟨#[65]⟩], ?_, fun _ => ⟨_, find16, by kernel_rfl, rfl⟩⟩, fun e => by omega, by decide, fun x hx => ?_, fun e => (by cases e), ?_⟩
  · simp only [tysT, and_true]
    rw [tyT, if_neg (by decide), if_pos rfl]
    exact ⟨rfl, by decide, by decide, rfl⟩
  · obtain rfl : x = .mk 2 ByteArray.empty 0 [] := by simpa using hx
    rfl
  · simp [tyCs]
theorem hT16 : RoomOK s16 w16 → ∀ bs bnd x a, inR s16 w16 bs bnd → bs.length ≤ 50000 → tyT s16 [] bs x a → bound0 x → TermOK s16 w16 [] [] bnd x := by
  intro _ bs bnd x a hin hl hty hx
  obtain ⟨op, nm, nu, l⟩ := x
  have hx' : op = 2 := hx
  subst hx'
  rw [tyT, if_neg (by decide), if_pos rfl] at hty
  obtain ⟨rfl, h0, h1, _⟩ := hty
  have := inR_len hin
  exact bound_ok _ _ _ _ _ (by omega) _ _ h0 (by omega)
theorem claim16a : claimZ s16 w16 [] [] (c16 12) = (true, 0) := by kernel_rfl
theorem claim16b : claimZ s16 w16 [] [] (c16 11) = (false, 0) := by kernel_rfl
set_option maxHeartbeats 8000000 in
theorem goes16_ev (ro : Nat) (m : Mem) (hro : ro ≤ m.length) : evL Tryz.prog AnZ ro 14 [] m = some (.c (.v (.bool true)), m) := by
  refine evL_by (n := 51) (by kernel_rfl) rfl fn14 rfl rfl rfl rfl ?_
  have hro1 : ro ≤ m.length + 1 := by omega
  have h1 := fun ro m hro => wclaim_ev s16 w16 [] [] (c16 12) ok_s16 ok_w16 (by simp) (ok_c16 12 (by decide)) bound0 hT16 (fun _ _ => ty16 12 (.inr rfl)) ro m hro
  have h2 := fun ro m hro => wclaim_ev s16 w16 [] [] (c16 11) ok_s16 ok_w16 (by simp) (ok_c16 11 (by decide)) bound0 hT16 (fun _ _ => ty16 11 (.inl rfl)) ro m hro
  rw [claim16a] at h1
  rw [claim16b] at h2
  simp only [s16, w16, c16, p16, encS, encW, encF, encL, encC_mk, encT_mk, cS, cI, List.map_cons, List.map_nil, encBP] at h1 h2
  have cz : ((0 : Int) == 0) = true := rfl
  simp only [go_sem, ↓reduceIte, h1, h2, hro, hro1, cz]
set_option maxHeartbeats 4000000 in
theorem rights_ev (s : Sg) (w : Wd) (hs : okS s) (hw : okW w) (ro : Nat) (m : Mem) (hro : ro ≤ m.length) :
    evL Tryz.prog AnZ ro 3 [.c (encS s), .c (encW w)] m = some (.c (.v (.bool true)), m) := by
  have hro1 : ro ≤ m.length + 1 := by omega
  refine evL_by (n := 22) (by kernel_rfl) rfl fn3 rfl rfl rfl rfl ?_
  have h1 := fun ro m hro => few16_ev s w hs hw ro m hro
  have h2 := fun ro m hro => wright_ev s w hs hw ro m hro
  have h3 := fun ro m hro => told_ev w ro m hro
  have h4 := fun ro m hro => rwright_ev s w hs hw ro m hro
  have h5 := fun ro m hro => goes16_ev ro m hro
  have cz : (wrightE s w == wrightE s w) = true := beq_t rfl
  cases hb : few16 s w <;> rw [hb] at h1 <;> simp only [go_sem, ↓reduceIte, h1, h2, h3, h4, h5, cz, hro, hro1]
end Go.Eng
