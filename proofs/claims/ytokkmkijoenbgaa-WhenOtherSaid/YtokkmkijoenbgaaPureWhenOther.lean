/- WhenOther, as a statement on integers: a window and the other one are open at all minutes, at none both. No conditions. -/
import Derived.Test.YtokkmkijoenbgaaCom
namespace Go.Proofs.Ytokkmkijoenbgaa.Pure
open Go.RowKit Go.Proofs.Ytokkmkijoenbgaa.Own Go.Proofs.Ytokkmkijoenbgaa.Pr Go.Proofs.YtokkmkijoenbgaaW.PrintWords Go.Proofs.YtokkmkijoenbgaaW.PrintLast

theorem WhenOther : dayshiftlaw15_WhenOther.Pure := by
  intro a b m _ _ _
  refine ⟨10, ?_⟩
  unfold dayshiftlaw15_WhenOther.f
  simp only [refRight, Option.bind_some]
  have hkn : ∀ k, 2 ≤ k → dayshiftlaw15_known.f k = some true := known_true
  have hend : dayshiftlaw15_WhenOther.j0 10 a b m true = some true := by unfold dayshiftlaw15_WhenOther.j0; simp [hkn]
  split
  · rename_i ha
    split
    · rename_i hb
      split
      · rename_i hm
        have ha' := inMin_iff.1 ha
        have hb' := inMin_iff.1 hb
        have hm' := inMin_iff.1 hm
        have el : when_Long.f a b = some (longZ a b) := by unfold when_Long.f; rw [ha, hb]; rfl
        rw [el]
        simp only [Option.bind_some]
        by_cases hl : longZ a b = 1440
        · rw [show (longZ a b == 1440) = true by simpa using hl]; exact hend
        · rw [show (longZ a b == 1440) = false by simpa using hl]
          simp only [dayshiftlaw15_WhenOther.j0]
          rw [wrap_id (n := b + 1) (by omega) (by omega), wrap_id (n := a + 1440) (by omega) (by omega), wrap_id (n := a + 1440 - 1) (by omega) (by omega), Int.tmod_eq_emod_of_nonneg (by omega), Int.tmod_eq_emod_of_nonneg (by omega)]
          have ha2 : 0 ≤ (b + 1) % 1440 ∧ (b + 1) % 1440 < 1440 := by omega
          have hb2 : 0 ≤ (a + 1440 - 1) % 1440 ∧ (a + 1440 - 1) % 1440 < 1440 := by omega
          have el2 : when_Long.f ((b + 1) % 1440) ((a + 1440 - 1) % 1440) = some (longZ ((b + 1) % 1440) ((a + 1440 - 1) % 1440)) := by
            unfold when_Long.f; rw [inMin_iff.2 ha2, inMin_iff.2 hb2]; rfl
          have eo : when_Open.f a b m = some (openB a b m) := rfl
          have eo2 : when_Open.f ((b + 1) % 1440) ((a + 1440 - 1) % 1440) m = some (openB ((b + 1) % 1440) ((a + 1440 - 1) % 1440) m) := rfl
          have hsum : longZ a b + longZ ((b + 1) % 1440) ((a + 1440 - 1) % 1440) = 1440 := by
            unfold longZ at *
            split at hl <;> split <;> omega
          have hne : openB a b m = !openB ((b + 1) % 1440) ((a + 1440 - 1) % 1440) m := by
            rw [openB_eq ha' hb' hm', openB_eq ha2 hb2 hm']
            have hl2 : ¬ (b - a) % 1440 + 1 = 1440 := by unfold longZ at hl; split at hl <;> omega
            split <;> split <;> (rw [Bool.eq_iff_iff]; simp only [decide_eq_true_eq, Bool.not_eq_true', decide_eq_false_iff_not]; omega)
          rw [eo, eo2, el, el2]
          simp only [Option.bind_some, Bool.false_eq_true, if_false]
          rw [wrap_id (by omega) (by omega), hsum, hne]
          cases openB ((b + 1) % 1440) ((a + 1440 - 1) % 1440) m <;> simp [hkn]
      · exact hend
    · exact hend
  · exact hend
end Go.Proofs.Ytokkmkijoenbgaa.Pure
