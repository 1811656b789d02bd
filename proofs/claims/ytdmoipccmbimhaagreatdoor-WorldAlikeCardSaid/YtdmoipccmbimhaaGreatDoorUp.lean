-- own work: an evaluator of the program's code, and what it answers
import Derived.Test.YtdmoipccmbimhaaGreatDoorLim
/- A machine that may call more: what the smaller one answers, the greater one answers. -/
set_option linter.unusedVariables false
namespace Go.Eng
variable {P : Program} {A : Ann} {fn' : Nat → Bool} {ext' : Nat → Option (List C → Option V)}
theorem up_rtAll {g : Nat} {rd rt : Operand → Option V} : ∀ {l : List Operand} {i : Nat}, rtAll g { A with fn := fn', ext := ext' } rd rt i l = rtAll g A rd rt i l
  | [], _ => rfl
  | x :: r, i => by simp only [rtAll, up_rtAll (l := r)]
theorem up_takesArgs {g : Nat} : ∀ {l : List Operand} {i : Nat}, takesArgs { A with fn := fn', ext := ext' } g i l = takesArgs A g i l
  | [], _ => rfl
  | x :: r, i => by simp only [takesArgs, up_takesArgs (l := r)]
theorem up_core {cl : CallF} {ro f : Nat} {draw strict : Bool} {o : Oper} {rd rt : Operand → Option V} {m : Mem} : core P { A with fn := fn', ext := ext' } cl ro f draw strict o rd rt m = core P A cl ro f draw strict o rd rt m := by
  unfold core
  simp only [up_rtAll, up_takesArgs]
theorem up_takes {f : Nat} {o : Oper} : takes { A with fn := fn', ext := ext' } f o = takes A f o := by
  unfold takes
  simp only [up_takesArgs]
theorem up_step {cl : CallF} {ro f : Nat} {draw : Bool} {ops : Array Oper} {o : Oper} {st : St} : step P { A with fn := fn', ext := ext' } cl ro f draw ops o st = step P A cl ro f draw ops o st := by
  have h1 : rdOf { A with fn := fn', ext := ext' } = rdOf A := rfl
  have h2 : raw { A with fn := fn', ext := ext' } = raw A := rfl
  have h3 : chkO { A with fn := fn', ext := ext' } f o = chkO A f o := rfl
  have h4 : loud { A with fn := fn', ext := ext' } f o = loud A f o := rfl
  unfold step
  simp only [up_core, up_takes, h1, h2, h3, h4]
theorem up_steps {cl : CallF} {ro f : Nat} {draw : Bool} {ops : Array Oper} : ∀ {l : List Oper} {st : St}, steps P { A with fn := fn', ext := ext' } cl ro f draw ops l st = steps P A cl ro f draw ops l st
  | [], _ => rfl
  | o :: r, st => by
    simp only [steps, up_step]
    cases step P A cl ro f draw ops o st with
    | none => rfl
    | some st' => exact up_steps
theorem up_region {cl : CallF} {ro f : Nat} {draw : Bool} {ops : Array Oper} {st : St} : region P { A with fn := fn', ext := ext' } cl ro f draw ops st = region P A cl ro f draw ops st := by
  unfold region
  simp only [up_steps]
theorem up_evC {cl : CallF} {ro f k : Nat} : ∀ {c : Code} {st : St}, evC P { A with fn := fn', ext := ext' } cl ro f k c st = evC P A cl ro f k c st := by
  intro c
  induction c with
  | seq a b iha ihb => intro st; simp only [evC, iha]; cases evC P A cl ro f k a st with | none => rfl | some x => obtain ⟨ex, st1⟩ := x; cases ex <;> simp only [ihb]
  | cond c a b iha ihb =>
    intro st
    have h1 : rdOf { A with fn := fn', ext := ext' } = rdOf A := rfl
    simp only [evC, iha, ihb, h1]
  | block id b ih => intro st; simp only [evC, ih]
  | loop b ih =>
    intro st
    have e : evC P { A with fn := fn', ext := ext' } cl ro f k b = evC P A cl ro f k b := funext fun st => ih
    simp only [evC, e]
  | region n ops draw => intro st; simp only [evC, up_region]
  | _ => intro st; rfl
theorem up_evF (h : ∀ f, A.fn f = true → fn' f = true ∧ ext' f = A.ext f) : ∀ n, CallLe (evF P A n) (evF P { A with fn := fn', ext := ext' } n)
  | 0 => ⟨fun ro g vs m r hr => by simp [evF] at hr⟩
  | n + 1 => ⟨fun ro g vs m r hr => by
    have ih := up_evF h n
    simp only [evF] at hr ⊢
    by_cases hg : A.fn g = true
    · obtain ⟨h1, h2⟩ := h g hg
      simp only [hg, h1, h2, Bool.true_eq_false, if_false] at hr ⊢
      cases hx : A.ext g with
      | some q => simp only [hx] at hr ⊢; exact hr
      | none =>
        simp only [hx] at hr ⊢
        cases hf : P.funcs[g]? with
        | none => simp [hf] at hr
        | some fn =>
          simp only [hf] at hr ⊢
          cases hb : fn.body with
          | none => simp [hb] at hr
          | some c =>
            simp only [hb] at hr ⊢
            split at hr
            · rename_i hl
              rw [if_pos hl]
              exact finish_le (fun x hx => by rw [up_evC]; exact evC_le ih (Nat.le_refl _) hx) hr
            · cases hr
    · simp [hg] at hr⟩
theorem up (h : ∀ f, A.fn f = true → fn' f = true ∧ ext' f = A.ext f) {ro g : Nat} {vs : List V} {m : Mem} {r : V × Mem} (hr : evL P A ro g vs m = some r) : evL P { A with fn := fn', ext := ext' } ro g vs m = some r := by
  obtain ⟨n, hn⟩ := evL_some.1 hr
  exact evL_some.2 ⟨n, (up_evF h n).le _ _ _ _ _ hn⟩
end Go.Eng
