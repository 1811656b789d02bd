-- Written by this session's own program over the kit's printer: externals and laid facts are by hand. Not trusted: Lean checks it.
import Derived.Test.YtgajmlkhfjlojaaDoorPrint0
import Derived.Test.YtgajmlkhfjlojaaDoorPrint2
namespace Go.Proofs.YtgajmlkhfjlojaaDoor.Print
open Go.Proofs.YtgajmlkhfjlojaaDoor.Aux Go.Proofs.YtgajmlkhfjlojaaDoor.Spec
open Go.RowKit Go.Proofs.YtgajmlkhfjlojaaDoorW.PrintWords Go.Proofs.YtgajmlkhfjlojaaDoorW.PrintLast Go.Proofs.YtgajmlkhfjlojaaDoorW.PrintMore
attribute [local go_sem] max2_int min2_int max_two min_two max_three min_three max_four min_four   -- for this text's walks alone
set_option linter.unusedVariables false
set_option linter.unusedSimpArgs false

/-! ### token_Name: function 16 -/
-- EXT sequitur/token.Name; making=0
theorem token_letter.tell (c : Int) : token_letter.f c = some (letterI c) := by
  unfold token_letter.f letterI
  by_cases h1 : 65 ≤ c <;> by_cases h2 : c ≤ 90 <;> by_cases h3 : 97 ≤ c <;> by_cases h4 : c ≤ 122 <;> by_cases h5 : c = 95 <;> simp [h1, h2, h3, h4, h5]
theorem token_digit.tell (c : Int) : token_digit.f c = some (digitI c) := by
  unfold token_digit.f digitI
  by_cases h1 : 48 ≤ c <;> by_cases h2 : c ≤ 57 <;> simp [h1, h2]
theorem token_inner.tell (c : Int) : token_inner.f c = some (innerI c) := by
  unfold token_inner.f innerI
  rw [token_letter.tell, token_digit.tell]
  cases letterI c <;> cases digitI c <;> simp
  exact Bool.beq_eq_decide_eq c 39
theorem token_run.inner (s : ByteArray) (i : Int) (w : World) (h0 : 0 ≤ i) (h1 : i ≤ (s.size : Int)) (hs : s.size ≤ 9223372036854775807) :
    Calls Tryd.prog 28 #[.string s, .int .i64 i, .func (.func 29) #[] #[]] w fun e w' => e = .returned (.int .i64 (runFrom innerI s i)) ∧ Drawn0 w w' :=
  token_run.any _ innerI (enters_of Tryd.func29 (by kernel_rfl) rfl) (fun c w => token_inner.calls c _ w (token_inner.tell c)) s i w h0 h1 hs
def token_Name.f (a0 : ByteArray) : Option Bool := some (nameL a0.data.toList)
theorem token_Name.short (s : ByteArray) (h0 : 0 < s.size) (h1 : s.size ≤ 32) (h2 : letterI (bt s 0) = true) : (((runFrom innerI s 0 : Nat) : Int) == (s.size : Int)) = nameL s.data.toList := by
  have hz := size_list s
  have hb : bt s 0 = b2i (s.data.toList[0]'(by omega)) := by
    unfold bt b2i
    rw [dif_pos (by simpa using h0)]; rfl
  rw [hb] at h2
  have h3 := nameL_short s.data.toList (by omega) (by omega) h2
  rw [hz] at h3
  exact h3
theorem token_Name.no (s : ByteArray) (h : s.size = 0 ∨ 32 < s.size ∨ letterI (bt s 0) = false) : nameL s.data.toList = false := by
  have hz := size_list s
  refine nameL_no _ ?_
  rcases h with h | h | h
  · exact .inl (by omega)
  · exact .inr (.inl (by omega))
  · refine .inr (.inr fun h0 => ?_)
    have hb : bt s 0 = b2i (s.data.toList[0]'h0) := by
      unfold bt b2i
      rw [dif_pos (by rw [hz] at h0; simpa using h0)]; rfl
    rw [← hb]; exact h
set_option maxHeartbeats 800000 in
theorem token_Name.calls (a0 : ByteArray) (r : Bool) (w : World) (h : token_Name.f a0 = some r) :
    Calls Tryd.prog 16 #[.string a0] w fun e w' => e = .returned (.bool r) ∧ Drawn0 w w' := by
  obtain rfl := Option.some.inj h
  clear h
  have hx : ∀ h : 0 < a0.size, ((a0[0]'h).toNat : Int) = bt a0 0 := fun h => bt_at a0 0 h
  by_cases h0 : 0 < a0.size
  · have hl : a0.toList.isEmpty = false := by
      rw [Lib.toList_data, List.isEmpty_eq_false_iff]
      intro he
      have := size_list a0
      rw [he] at this
      simp at this; omega
    have hl2 : ¬ a0.toList = [] := by simpa using hl
    by_cases h1 : (a0.size : Int) ≤ 32
    · cases hc : letterI (bt a0 0)
      · have hv := Aside0.mk (token_Name.no a0 (.inr (.inr hc)))
        have HT := Aside0.mk ((token_letter.tell (bt a0 0)).trans (congrArg some hc))
        clear hc
        go_enter Tryd.func16, Tryd.ntmps16
        go_wp2_with fail
        refine (token_letter.calls _ false _ HT.out).mono ?_
        rintro e w1 ⟨rfl, ⟨m1, rfl⟩⟩
        go_wp2
        go_ret
        exact ⟨by first | rfl | (rw [hv.out]; rfl), drawn_n _ _⟩
      · have hv := Aside0.mk (token_Name.short a0 h0 (by omega) hc)
        have HT := Aside0.mk ((token_letter.tell (bt a0 0)).trans (congrArg some hc))
        clear hc
        go_enter Tryd.func16, Tryd.ntmps16
        go_wp2_with fail
        refine (token_letter.calls _ true _ HT.out).mono ?_
        rintro e w1 ⟨rfl, ⟨m1, rfl⟩⟩
        go_wp2_with fail
        refine (token_run.inner a0 0 _ (by omega) (by omega) (by omega)).mono ?_
        rintro e w2 ⟨rfl, ⟨m2, rfl⟩⟩
        go_wp2
        go_ret
        exact ⟨by first | rfl | (rw [hv.out]; rfl), drawn_n _ _⟩
    · have hv := Aside0.mk (token_Name.no a0 (.inr (.inl (by omega))))
      go_enter Tryd.func16, Tryd.ntmps16
      go_wp2
      go_ret
      exact ⟨by first | rfl | (rw [hv.out]; rfl), drawn_n _ 0⟩
  · have hv := Aside0.mk (token_Name.no a0 (.inl (by omega)))
    have hl2 : a0.toList = [] := by
      rw [Lib.toList_data]
      exact List.eq_nil_of_length_eq_zero (by have := size_list a0; omega)
    go_enter Tryd.func16, Tryd.ntmps16
    go_wp2
    go_ret
    exact ⟨by first | rfl | (rw [hv.out]; rfl), drawn_n _ 0⟩


end Go.Proofs.YtgajmlkhfjlojaaDoor.Print
