/- What the plain functions of dayshift/job say of where a job that can be goes on to. Plain Lean. No conditions beside those in each theorem. -/
import Derived.Test.YtfefbmglimdgjaaPure17b
namespace Go.Proofs.Ytfefbmglimdgjaa.Own
def stepE (kind : Int) (s : St) (c : Int) : Int := if kind = 0 then jHoldE s else if kind = 1 then jFreeE s else if kind = 2 then jRerunE s c else if kind = 3 then jForceE s else if kind = 4 then jOkE s else jKillE s
def stepS (kind : Int) (s : St) (c : Int) : St := if kind = 0 then jHoldS s else if kind = 1 then jFreeS s else if kind = 2 then jRerunS s c else if kind = 3 then jForceS s else if kind = 4 then jOkS s else jKillS s
theorem refuse_zero {why t : Int} {is : Bool} (ht : t ≠ 0) (h : refuseE why is t = 0) : why = 0 ∧ is = false := by
  unfold refuseE at h
  split at h
  · exact absurd h ht
  · rename_i h1
    refine ⟨h, ?_⟩
    cases is
    · rfl
    · exact absurd ⟨h, rfl⟩ h1
theorem step_wrong {s : St} (h : ¬ rightB s = true) (kind c : Int) : stepE kind s c = 1 := by
  have hm : ∀ xs, mayE s xs = 1 := fun xs => by unfold mayE; rw [if_neg h]
  have ht : ∀ xs, timedE s c xs = 1 := fun xs => by unfold timedE; rw [if_neg (fun k => h k.1), hm]
  have hr : ∀ is t, refuseE 1 is t = 1 := fun is t => by unfold refuseE; rw [if_neg (by simp)]
  unfold stepE
  simp only [jHoldE, jFreeE, jRerunE, jForceE, jOkE, jKillE, hm, ht, hr]
  (repeat' split) <;> rfl
theorem right_set {s : St} (h : rightB s = true) (state runs tries run at_ : Int) (hold force : Bool) (h1 : 0 ≤ state ∧ state ≤ 3) (h2 : 0 ≤ runs ∧ runs ≤ 99) (h3 : 0 ≤ tries ∧ tries ≤ 99) (h4 : 0 ≤ at_ ∧ at_ ≤ 5258966399)
    (h5 : state = 1 → 1 ≤ run ∧ run ≤ 2147483647) (h6 : state ≠ 1 → run = 0) (h7 : state ≠ 0 → hold = false ∧ force = false) (h8 : hold = true → force = false) : rightB ⟨s.id, s.job, s.day, state, hold, force, runs, tries, run, at_⟩ = true := by
  rw [right_iff] at *
  exact ⟨h.1, h.2.1, h.2.2.1, h.2.2.2.1, h.2.2.2.2.1, h.2.2.2.2.2.1, h2.1, h2.2, h3.1, h3.2, h4.1, h4.2, h1.1, h1.2, h5, h6, h7, h8⟩
/-- What a state that can be says, in parts. -/
theorem right_parts {s : St} (h : rightB s = true) : (0 ≤ s.runs ∧ s.runs ≤ 99) ∧ (0 ≤ s.tries ∧ s.tries ≤ 99) ∧ (0 ≤ s.at_ ∧ s.at_ ≤ 5258966399) ∧ (0 ≤ s.state ∧ s.state ≤ 3) ∧ (s.state = 1 → 1 ≤ s.run ∧ s.run ≤ 2147483647) ∧ (s.state ≠ 1 → s.run = 0) ∧ (s.state ≠ 0 → s.hold = false ∧ s.force = false) ∧ (s.hold = true → s.force = false) := by
  rw [right_iff] at h
  exact ⟨⟨h.2.2.2.2.2.2.1, h.2.2.2.2.2.2.2.1⟩, ⟨h.2.2.2.2.2.2.2.2.1, h.2.2.2.2.2.2.2.2.2.1⟩, ⟨h.2.2.2.2.2.2.2.2.2.2.1, h.2.2.2.2.2.2.2.2.2.2.2.1⟩, ⟨h.2.2.2.2.2.2.2.2.2.2.2.2.1, h.2.2.2.2.2.2.2.2.2.2.2.2.2.1⟩, h.2.2.2.2.2.2.2.2.2.2.2.2.2.2⟩
theorem timed_may {s : St} {c : Int} {xs : List Int} (h : timedE s c xs = 0) : mayE s xs = 0 ∧ 0 ≤ c ∧ c ≤ 5258966399 := by
  unfold timedE at h
  split at h
  · cases h
  · rename_i h1
    have hm := mayE_zero h
    refine ⟨h, ?_⟩
    have : ¬ ¬ (0 ≤ c ∧ c ≤ 5258966399) := fun k => h1 ⟨hm.1, k⟩
    exact Classical.not_not.1 this
/-- The same number, place and day. -/
abbrev Kin (s y : St) : Prop := y.id = s.id ∧ y.job = s.job ∧ y.day = s.day
theorem step_right {s : St} {kind c : Int} (h : stepE kind s c = 0) : rightB (stepS kind s c) = true ∧ Kin s (stepS kind s c) ∧ (stepS kind s c).runs = s.runs := by
  unfold stepE at h
  unfold stepS
  by_cases h0 : kind = 0
  · rw [if_pos h0] at *
    have hy : jHoldS s = { s with hold := true } := by unfold jHoldS toS; rw [if_pos h]
    obtain ⟨h1, h2, h3⟩ := hold_zero h
    obtain ⟨h4, h5⟩ := mayE_zero h1
    obtain ⟨a, b, c, d, e, f, g, i⟩ := right_parts h4
    rw [hy]
    have h5' : s.state = 0 := by simpa using h5
    exact ⟨right_set h4 _ _ _ _ _ _ _ d a b c e f (fun k => absurd h5' k) (fun _ => h3), ⟨rfl, rfl, rfl⟩, rfl⟩
  rw [if_neg h0] at *
  by_cases h0 : kind = 1
  · rw [if_pos h0] at *
    have hy : jFreeS s = { s with hold := false } := by unfold jFreeS toS; rw [if_pos h]
    unfold jFreeE at h
    obtain ⟨h1, h2⟩ := refuse_zero (by omega) h
    obtain ⟨h4, h5⟩ := mayE_zero h1
    obtain ⟨a, b, c, d, e, f, g, i⟩ := right_parts h4
    rw [hy]
    have h5' : s.state = 0 := by simpa using h5
    exact ⟨right_set h4 _ _ _ _ _ _ _ d a b c e f (fun k => absurd h5' k) (fun k => by cases k), ⟨rfl, rfl, rfl⟩, rfl⟩
  rw [if_neg h0] at *
  by_cases h0 : kind = 2
  · rw [if_pos h0] at *
    have hy : jRerunS s c = { s with state := 0, at_ := c, tries := 0 } := by unfold jRerunS toS; rw [if_pos h]
    unfold jRerunE at h
    obtain ⟨h1, h2⟩ := refuse_zero (by omega) h
    obtain ⟨h1, hc⟩ := timed_may h1
    obtain ⟨h4, h5⟩ := mayE_zero h1
    obtain ⟨a, b, c, d, e, f, g, i⟩ := right_parts h4
    rw [hy]
    have h5' : s.state ≠ 1 := by simp at h5; omega
    exact ⟨right_set h4 _ _ _ _ _ _ _ (by omega) a (by omega) hc (fun k => by cases k) (fun _ => f h5') (fun k => absurd rfl k) i, ⟨rfl, rfl, rfl⟩, rfl⟩
  rw [if_neg h0] at *
  by_cases h0 : kind = 3
  · rw [if_pos h0] at *
    have hy : jForceS s = { s with force := true } := by unfold jForceS toS; rw [if_pos h]
    unfold jForceE at h
    obtain ⟨h1, h2⟩ := refuse_zero (by omega) h
    obtain ⟨h4, h5⟩ := mayE_zero h1
    obtain ⟨a, b, c, d, e, f, g, i⟩ := right_parts h4
    rw [hy]
    have h5' : s.state = 0 := by simpa using h5
    exact ⟨right_set h4 _ _ _ _ _ _ _ d a b c e f (fun k => absurd h5' k) (fun k => by rw [h2] at k; cases k), ⟨rfl, rfl, rfl⟩, rfl⟩
  rw [if_neg h0] at *
  by_cases h0 : kind = 4
  · rw [if_pos h0] at *
    have hy : jOkS s = { s with state := 2, force := false, tries := 0 } := by unfold jOkS toS; rw [if_pos h]
    unfold jOkE at h
    obtain ⟨h1, h2⟩ := refuse_zero (by omega) h
    obtain ⟨h4, h5⟩ := mayE_zero h1
    obtain ⟨a, b, c, d, e, f, g, i⟩ := right_parts h4
    rw [hy]
    have h5' : s.state ≠ 1 := by simp at h5; omega
    exact ⟨right_set h4 _ _ _ _ _ _ _ (by omega) a (by omega) c (fun k => by cases k) (fun _ => f h5') (fun _ => ⟨h2, rfl⟩) (fun _ => rfl), ⟨rfl, rfl, rfl⟩, rfl⟩
  rw [if_neg h0] at *
  have hy : jKillS s = { s with state := 3, run := 0 } := by unfold jKillS toS; rw [if_pos h]
  unfold jKillE at h
  obtain ⟨h4, h5⟩ := mayE_zero h
  obtain ⟨a, b, c, d, e, f, g, i⟩ := right_parts h4
  rw [hy]
  have h5' : s.state = 1 := by simpa using h5
  exact ⟨right_set h4 _ _ _ _ _ _ _ (by omega) a b c (fun k => by cases k) (fun _ => rfl) (fun _ => g (by omega)) i, ⟨rfl, rfl, rfl⟩, rfl⟩
theorem submit_right {s : St} {n : Int} (h : jSubmitE s n = 0) : rightB (jSubmitS s n) = true ∧ Kin s (jSubmitS s n) ∧ (jSubmitS s n).runs = s.runs + 1 ∧ (jSubmitS s n).run = n ∧ s.runs ≤ 98 ∧ 0 ≤ s.runs ∧ (jSubmitS s n).state = 1 := by
  have hy : jSubmitS s n = { s with state := 1, force := false, runs := s.runs + 1, run := n } := by unfold jSubmitS toS; rw [if_pos h]
  unfold jSubmitE at h
  split at h
  · rename_i hn
    obtain ⟨h1, h2⟩ := refuse_zero (by omega) h
    obtain ⟨h1, h3⟩ := refuse_zero (by omega) h1
    obtain ⟨h4, h5⟩ := mayE_zero h1
    obtain ⟨a, b, c, d, e, f, g, i⟩ := right_parts h4
    rw [hy]
    have h6 : s.runs ≠ 99 := by simpa using h2
    exact ⟨right_set h4 _ _ _ _ _ _ _ (by omega) (by omega) b c (fun _ => hn) (fun k => absurd rfl k) (fun _ => ⟨h3, rfl⟩) (fun _ => rfl), ⟨rfl, rfl, rfl⟩, rfl, rfl, by omega, a.1, rfl⟩
  · cases h
theorem later_right (c m : Int) (h : 0 ≤ c ∧ c ≤ 5258966399) : 0 ≤ laterZ c m ∧ laterZ c m ≤ 5258966399 := by
  unfold laterZ
  (repeat' split) <;> omega
theorem done_right {s : St} {code every dr retry c : Int} (h : jDoneE s c = 0) : rightB (jDoneS s code every dr retry c) = true ∧ (jDoneS s code every dr retry c).runs = s.runs ∧ (jDoneS s code every dr retry c).state ≠ 1 ∧ Kin s (jDoneS s code every dr retry c) := by
  have hy : jDoneS s code every dr retry c = doneN s code every dr retry c := by unfold jDoneS toS; rw [if_pos h]
  unfold jDoneE at h
  obtain ⟨h1, hc⟩ := timed_may h
  obtain ⟨h4, h5⟩ := mayE_zero h1
  obtain ⟨a, b, c', d, e, f, g, i⟩ := right_parts h4
  have h5' : s.state = 1 := by simpa using h5
  have hf := g (by omega)
  have hl := later_right c every hc
  rw [hy]
  unfold doneN
  (repeat' split)
  · exact ⟨right_set h4 _ _ _ _ _ _ _ (by omega) a (by omega) hc (fun k => by cases k) (fun _ => rfl) (fun k => absurd rfl k) i, rfl, by show (0 : Int) ≠ 1; omega, ⟨rfl, rfl, rfl⟩⟩
  · exact ⟨right_set h4 _ _ _ _ _ _ _ (by omega) a b c' (fun k => by cases k) (fun _ => rfl) (fun _ => hf) i, rfl, by show (3 : Int) ≠ 1; omega, ⟨rfl, rfl, rfl⟩⟩
  · exact ⟨right_set h4 _ _ _ _ _ _ _ (by omega) a (by omega) hl (fun k => by cases k) (fun _ => rfl) (fun k => absurd rfl k) i, rfl, by show (0 : Int) ≠ 1; omega, ⟨rfl, rfl, rfl⟩⟩
  · exact ⟨right_set h4 _ _ _ _ _ _ _ (by omega) a (by omega) c' (fun k => by cases k) (fun _ => rfl) (fun _ => hf) i, rfl, by show (2 : Int) ≠ 1; omega, ⟨rfl, rfl, rfl⟩⟩
theorem done_of_right {s : St} {c : Int} (h : rightB s = true) (hs : s.state = 1) (hc : 0 ≤ c ∧ c ≤ 5258966399) : jDoneE s c = 0 := by
  unfold jDoneE timedE
  rw [if_neg (fun k => k.2 hc)]
  exact mayE_of h (by simp [hs])
end Go.Proofs.Ytfefbmglimdgjaa.Own
