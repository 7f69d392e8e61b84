/- WhenFirst, as a statement on integers: at the next clock the window is open, and at none between. No conditions. -/
import Derived.Test.YtokkmkijoenbgaaCom
namespace Go.Proofs.Ytokkmkijoenbgaa.Pure
open Go.RowKit Go.Proofs.Ytokkmkijoenbgaa.Own Go.Proofs.Ytokkmkijoenbgaa.Pr Go.Proofs.YtokkmkijoenbgaaW.PrintWords Go.Proofs.YtokkmkijoenbgaaW.PrintLast

theorem wf64 {n : Int} (h : (Lit.int .i64 n).wf = true) : -9223372036854775808 ≤ n ∧ n ≤ 9223372036854775807 := by
  simpa [Lit.wf, IntKind.min, IntKind.max, IntKind.signed, IntKind.bits] using h
theorem WhenFirst : dayshiftlaw15_WhenFirst.Pure := by
  intro a b c x _ _ _ hx
  have hx := wf64 hx
  refine ⟨10, ?_⟩
  unfold dayshiftlaw15_WhenFirst.f
  rw [known_true 10 (by omega)]
  by_cases h : askE a b c = 0
  · obtain ⟨hab, hc⟩ := askE_zero.1 h
    have ⟨ha, hb⟩ : inMin a = true ∧ inMin b = true := by simpa using hab
    have ha' := inMin_iff.1 ha
    have hb' := inMin_iff.1 hb
    have hs := sinceZ_bd a (c % 1440)
    have hl := longZ_bd a b
    have hn : 0 ≤ nextZ a b c - c ∧ nextZ a b c - c < 1440 := by unfold nextZ; split <;> omega
    have ef : when_Next.f a b c = some (if nextZ a b c > 5258966399 then (0, 6) else (nextZ a b c, 0)) := by unfold when_Next.f; rw [if_pos h]
    rw [ef]
    simp only [Option.bind_some]
    by_cases hm : nextZ a b c > 5258966399
    · rw [if_pos hm]; rfl
    · rw [if_neg hm]
      have ho : ∀ m : Int, 0 ≤ m → m < 1440 → when_Open.f a b m = some (decide (sinceZ a m < longZ a b)) := fun m h0 h1 => by
        unfold when_Open.f openB; rw [ha, hb, inMin_iff.2 ⟨h0, h1⟩]; rfl
      simp only [if_true]
      rw [if_neg (by omega), Int.tmod_eq_emod_of_nonneg (by omega), ho _ (by omega) (by omega)]
      have h1 : sinceZ a (nextZ a b c % 1440) < longZ a b := by
        by_cases hlt : sinceZ a (c % 1440) < longZ a b
        · have : nextZ a b c = c := by unfold nextZ; rw [if_pos hlt]
          rw [this]; exact hlt
        · have : nextZ a b c = c + (1440 - sinceZ a (c % 1440)) := by unfold nextZ; rw [if_neg hlt]
          rw [this]
          have : sinceZ a ((c + (1440 - sinceZ a (c % 1440))) % 1440) = 0 := by unfold sinceZ; omega
          omega
      simp only [Option.bind_some, decide_eq_true h1, Bool.not_true]
      simp only [dayshiftlaw15_WhenFirst.j0, Bool.false_eq_true, if_false]
      have hkn : ∀ k, 2 ≤ k → dayshiftlaw15_known.f k = some true := known_true
      split
      · simp only [dayshiftlaw15_WhenFirst.j1]
        simp [hkn]
      · rw [wrap_id (n := nextZ a b c - c) (by omega) (by omega)]
        simp only [dayshiftlaw15_WhenFirst.j1]
        split
        · simp [hkn]
        · rename_i h0 hge
          have hge : ¬ x ≥ nextZ a b c - c := by simpa using hge
          have hlt : ¬ sinceZ a (c % 1440) < longZ a b := by
            intro hlt
            have : nextZ a b c = c := by unfold nextZ; rw [if_pos hlt]
            omega
          have hne : nextZ a b c = c + (1440 - sinceZ a (c % 1440)) := by unfold nextZ; rw [if_neg hlt]
          rw [wrap_id (n := c + x) (by omega) (by omega), Int.tmod_eq_emod_of_nonneg (by omega), ho _ (by omega) (by omega)]
          have h2 : ¬ sinceZ a ((c + x) % 1440) < longZ a b := by
            have : sinceZ a ((c + x) % 1440) = sinceZ a (c % 1440) + x := by unfold sinceZ at *; omega
            omega
          simp [hkn, decide_eq_false h2]
  · have ef : when_Next.f a b c = some (0, askE a b c) := by unfold when_Next.f; rw [if_neg h]
    rw [ef]
    simp [h]
end Go.Proofs.Ytokkmkijoenbgaa.Pure
