/- WhenLeft, as a statement on integers: a window stays open for no longer than it is open a day, and a minute later for one less. No conditions. -/
import Derived.Test.YtokkmkijoenbgaaCom
namespace Go.Proofs.Ytokkmkijoenbgaa.Pure
open Go.RowKit Go.Proofs.Ytokkmkijoenbgaa.Own Go.Proofs.Ytokkmkijoenbgaa.Pr Go.Proofs.YtokkmkijoenbgaaW.PrintWords Go.Proofs.YtokkmkijoenbgaaW.PrintLast

theorem WhenLeft : dayshiftlaw15_WhenLeft.Pure := by
  intro a b c _ _ _
  refine ⟨10, ?_⟩
  unfold dayshiftlaw15_WhenLeft.f
  rw [known_true 10 (by omega)]
  have hkn : ∀ k, 2 ≤ k → dayshiftlaw15_known.f k = some true := known_true
  by_cases h : askE a b c = 0
  · obtain ⟨hab, hc⟩ := askE_zero.1 h
    have ⟨ha, hb⟩ : inMin a = true ∧ inMin b = true := by simpa using hab
    have ha' := inMin_iff.1 ha
    have hb' := inMin_iff.1 hb
    have hs := sinceZ_bd a (c % 1440)
    have hl := longZ_bd a b
    have el : when_Long.f a b = some (longZ a b) := by unfold when_Long.f; rw [if_pos hab]
    by_cases ho : sinceZ a (c % 1440) < longZ a b
    · have ef : when_Left.f a b c = some (if longZ a b = 1440 then (1440, 0) else (longZ a b - sinceZ a (c % 1440), 0)) := by unfold when_Left.f; rw [if_pos h, if_pos ho]
      rw [ef, el]
      have key : ∀ n : Int, (if longZ a b = 1440 then ((1440 : Int), (0 : Int)) else (longZ a b - sinceZ a (c % 1440), 0)) = (n, 0) → 1 ≤ n → n ≤ longZ a b → dayshiftlaw15_WhenLeft.j0 10 a b c n false = some true := by
        intro n hn h1 h2
        unfold dayshiftlaw15_WhenLeft.j0
        simp only [Bool.false_eq_true, if_false]
        by_cases hx : c = 5258966399
        · rw [if_pos hx]; simp [hkn]
        · rw [if_neg hx, wrap_id (n := c + 1) (by omega) (by omega), el]
          have h' : askE a b (c + 1) = 0 := askE_zero.2 ⟨hab, by omega, by omega⟩
          have e2 : when_Left.f a b (c + 1) = some (if sinceZ a ((c + 1) % 1440) < longZ a b then (if longZ a b = 1440 then (1440, 0) else (longZ a b - sinceZ a ((c + 1) % 1440), 0)) else (0, 5)) := by unfold when_Left.f; rw [if_pos h']
          rw [e2]
          by_cases hd : longZ a b = 1440
          · simp only [hd, if_true, Prod.mk.injEq, and_true] at hn
            have := sinceZ_bd a ((c + 1) % 1440)
            simp [hd, ← hn, show sinceZ a ((c + 1) % 1440) < 1440 by omega, hkn]
          · rw [if_neg hd] at hn
            simp only [Prod.mk.injEq, and_true] at hn
            have hs1 : sinceZ a ((c + 1) % 1440) = sinceZ a (c % 1440) + 1 ∨ (sinceZ a (c % 1440) = 1439) := by unfold sinceZ; omega
            have hs1 : sinceZ a ((c + 1) % 1440) = sinceZ a (c % 1440) + 1 := by
              rcases hs1 with hs1 | hs1
              · exact hs1
              · omega
            rw [hs1]
            by_cases hn1 : n = 1
            · have : ¬ sinceZ a (c % 1440) + 1 < longZ a b := by omega
              simp [hd, hn1, this, hkn]
            · have : sinceZ a (c % 1440) + 1 < longZ a b := by omega
              have e3 : longZ a b - (sinceZ a (c % 1440) + 1) = n - 1 := by omega
              rw [wrap_id (n := n - 1) (by omega) (by omega)]
              simp [hd, hn1, this, e3, hkn]
      by_cases hd : longZ a b = 1440
      · have k2 := key 1440 (by rw [if_pos hd]) (by omega) (by omega)
        simp [hd, k2]
      · have k2 := key (longZ a b - sinceZ a (c % 1440)) (by rw [if_neg hd]) (by omega) (by omega)
        have h1 : ¬ longZ a b - sinceZ a (c % 1440) < 1 := by omega
        have h2 : ¬ longZ a b < longZ a b - sinceZ a (c % 1440) := by omega
        simp only [if_neg hd, Option.bind_some, if_true, if_neg h1, gt_iff_lt, decide_eq_false h2, k2]
    · have ef : when_Left.f a b c = some (0, 5) := by unfold when_Left.f; rw [if_pos h, if_neg ho]
      rw [ef]; simp
  · have ef : when_Left.f a b c = some (0, askE a b c) := by unfold when_Left.f; rw [if_neg h]
    rw [ef]
    simp [h]
end Go.Proofs.Ytokkmkijoenbgaa.Pure
