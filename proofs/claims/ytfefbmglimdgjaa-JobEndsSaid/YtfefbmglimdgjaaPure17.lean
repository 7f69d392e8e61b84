/- What the plain functions of dayshift/job say of one another: free undoes hold; what is forced. Plain Lean. No conditions beside those in each theorem. -/
import Derived.Test.YtfefbmglimdgjaaRow17
import Derived.Test.YtfefbmglimdgjaaJob4h
import Derived.Test.YtfefbmglimdgjaaJob7
namespace Go.Proofs.Ytfefbmglimdgjaa.Own
theorem mayE_hold (s : St) (b : Bool) (_xs : List Int) (h : mayE s [0] = 0) (hh : s.hold = false) (hf : s.force = false) : mayE { s with hold := b } [0] = 0 := by
  unfold mayE rightB at *
  split at h
  · split at h
    · rename_i h1 h2
      simp only [decide_eq_true_eq, List.mem_singleton] at h1 h2
      rw [if_pos (by simp only [decide_eq_true_eq]; refine ⟨h1.1, h1.2.1, h1.2.2.1, h1.2.2.2.1, h1.2.2.2.2.1, h1.2.2.2.2.2.1, ?_⟩; simp_all), if_pos (by simp [h2])]
    · cases h
  · cases h
theorem mayE_vals (s : St) (xs : List Int) : mayE s xs = 0 ∨ mayE s xs = 1 ∨ mayE s xs = 5 := by
  unfold mayE
  split
  · split
    · exact .inl rfl
    · exact .inr (.inr rfl)
  · exact .inr (.inl rfl)
theorem hold_zero {s : St} (h : jHoldE s = 0) : mayE s [0] = 0 ∧ s.hold = false ∧ s.force = false := by
  unfold jHoldE refuseE at h
  split at h
  · cases h
  · rename_i h1
    refine ⟨h, ?_⟩
    simp only [h, true_and, Bool.or_eq_true, not_or, Bool.not_eq_true] at h1
    exact h1
theorem hold_back {s : St} (h : jHoldE s = 0) : jFreeS (jHoldS s) = s ∧ jFreeE (jHoldS s) = 0 ∧ (∀ n, jSubmitE (jHoldS s) n = 32 ∨ jSubmitE (jHoldS s) n = 1) ∧ jHoldE (jHoldS s) = 32 ∧ jForceE (jHoldS s) = 32 := by
  obtain ⟨h1, h2, h3⟩ := hold_zero h
  have hy : jHoldS s = { s with hold := true } := by unfold jHoldS toS; rw [if_pos h]
  have hm := mayE_hold s true [] h1 h2 h3
  have hf : jFreeE (jHoldS s) = 0 := by rw [hy]; unfold jFreeE refuseE; rw [hm]; simp
  refine ⟨?_, hf, fun n => ?_, ?_, ?_⟩
  · unfold jFreeS toS
    rw [if_pos hf, hy]
    cases s
    simp_all
  · rw [hy]; unfold jSubmitE refuseE
    rw [hm]
    split
    · simp
    · exact .inr rfl
  · rw [hy]; unfold jHoldE refuseE
    rw [hm]; simp
  · rw [hy]; unfold jForceE refuseE
    rw [hm]; simp
end Go.Proofs.Ytfefbmglimdgjaa.Own
