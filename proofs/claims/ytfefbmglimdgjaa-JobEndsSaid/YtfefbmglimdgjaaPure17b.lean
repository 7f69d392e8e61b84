/- What the plain functions of dayshift/job say of a job that is forced. Plain Lean. No conditions beside those in each theorem. -/
import Derived.Test.YtfefbmglimdgjaaPure17
import Derived.Test.YtfefbmglimdgjaaJob8
import Derived.Test.YtfefbmglimdgjaaJob5
namespace Go.Proofs.Ytfefbmglimdgjaa.Own
theorem force_zero {s : St} (h : jForceE s = 0) : mayE s [0] = 0 ∧ s.hold = false := by
  unfold jForceE refuseE at h
  split at h
  · cases h
  · rename_i h1
    refine ⟨h, ?_⟩
    simpa [h] using h1
theorem mayE_zero {s : St} {xs : List Int} (h : mayE s xs = 0) : rightB s = true ∧ s.state ∈ xs := by
  unfold mayE at h
  split at h
  · split at h
    · exact ⟨by assumption, by assumption⟩
    · cases h
  · cases h
theorem mayE_of {s : St} {xs : List Int} (h : rightB s = true) (hx : s.state ∈ xs) : mayE s xs = 0 := by
  unfold mayE
  rw [if_pos h, if_pos hx]
theorem right_iff (s : St) : rightB s = true ↔ (1 ≤ s.id ∧ s.id ≤ 2147483647 ∧ 0 ≤ s.job ∧ s.job ≤ 47 ∧ 1 ≤ s.day ∧ s.day ≤ 3652059 ∧ 0 ≤ s.runs ∧ s.runs ≤ 99 ∧ 0 ≤ s.tries ∧ s.tries ≤ 99 ∧ 0 ≤ s.at_ ∧ s.at_ ≤ 5258966399 ∧
  0 ≤ s.state ∧ s.state ≤ 3 ∧ (s.state = 1 → 1 ≤ s.run ∧ s.run ≤ 2147483647) ∧ (s.state ≠ 1 → s.run = 0) ∧ (s.state ≠ 0 → s.hold = false ∧ s.force = false) ∧ (s.hold = true → s.force = false)) := by
  unfold rightB
  rw [decide_eq_true_eq]
theorem forced {s : St} (h : jForceE s = 0) : (jForceS s).force = true ∧ (jForceS s).hold = false ∧ jHoldE (jForceS s) = 32 ∧ jFreeE (jForceS s) = 30 ∧ jOkE (jForceS s) = 0 ∧ (jOkS (jForceS s)).force = false ∧ jOverB (jOkS (jForceS s)) = true ∧
    ∀ n, jSubmitE (jForceS s) n = 0 → (jSubmitS (jForceS s) n).force = false ∧ (jSubmitS (jForceS s) n).state = 1 := by
  obtain ⟨h1, h2⟩ := force_zero h
  obtain ⟨h3, h4⟩ := mayE_zero h1
  have h4' : s.state = 0 := by simpa using h4
  have hy : jForceS s = { s with force := true } := by unfold jForceS toS; rw [if_pos h]
  have hr : rightB { s with force := true } = true := by
    rw [right_iff] at *
    refine ⟨h3.1, h3.2.1, h3.2.2.1, h3.2.2.2.1, h3.2.2.2.2.1, h3.2.2.2.2.2.1, h3.2.2.2.2.2.2.1, h3.2.2.2.2.2.2.2.1, ?_⟩
    simp_all
  have hm : mayE { s with force := true } [0] = 0 := mayE_of hr (by simpa using h4')
  have hm2 : mayE { s with force := true } [0, 3] = 0 := mayE_of hr (by simp [h4'])
  have hk : jOkE (jForceS s) = 0 := by rw [hy]; unfold jOkE refuseE; rw [hm2]; simp [h2]
  have hz : jOkS (jForceS s) = { s with state := 2, force := false, tries := 0 } := by unfold jOkS toS; rw [if_pos hk, hy]
  refine ⟨by rw [hy], by rw [hy]; exact h2, ?_, ?_, hk, by rw [hz], ?_, fun n hn => ?_⟩
  · rw [hy]; unfold jHoldE refuseE; rw [hm]; simp
  · rw [hy]; unfold jFreeE refuseE; rw [hm]; simp [h2]
  · rw [hz]; unfold jOverB
    rw [mayE_of]
    · rfl
    · rw [right_iff] at *
      refine ⟨h3.1, h3.2.1, h3.2.2.1, h3.2.2.2.1, h3.2.2.2.2.1, h3.2.2.2.2.2.1, h3.2.2.2.2.2.2.1, h3.2.2.2.2.2.2.2.1, ?_⟩
      simp_all
    · simp
  · unfold jSubmitS toS
    rw [if_pos hn]
    exact ⟨rfl, rfl⟩
end Go.Proofs.Ytfefbmglimdgjaa.Own
