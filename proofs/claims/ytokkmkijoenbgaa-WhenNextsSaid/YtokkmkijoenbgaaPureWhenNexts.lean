/- WhenNexts, as a statement on integers: when a window is open next, and for how long, agree with the minute by minute definition, at every integer of the kind. No conditions. -/
import Derived.Test.YtokkmkijoenbgaaCom
namespace Go.Proofs.Ytokkmkijoenbgaa.Pure
open Go.RowKit Go.Proofs.Ytokkmkijoenbgaa.Own Go.Proofs.Ytokkmkijoenbgaa.Pr Go.Proofs.YtokkmkijoenbgaaW.PrintWords Go.Proofs.YtokkmkijoenbgaaW.PrintLast

theorem since_add {a c x : Int} (h0 : 0 ≤ x) (h1 : sinceZ a (c % 1440) + x < 1440) : sinceZ a ((c + x) % 1440) = sinceZ a (c % 1440) + x := by
  unfold sinceZ at *; omega
theorem openB_of {a b m : Int} (ha : inMin a = true) (hb : inMin b = true) (hm : 0 ≤ m ∧ m < 1440) : openB a b m = decide (sinceZ a m < longZ a b) := by
  unfold openB; rw [ha, hb, inMin_iff.2 hm]; rfl

theorem refNext_loop {a b c : Int} (ha : inMin a = true) (hb : inMin b = true) (hc : 1440 ≤ c ∧ c ≤ 5258966399) : ∀ (d k : Nat) (x : Int), 0 ≤ x → x ≤ nextZ a b c - c → nextZ a b c - c - x = d → 3 * d + 3 < k →
    dayshiftref15_Next.l0 k a b c x = some (if nextZ a b c > 5258966399 then (0, 6) else (nextZ a b c, 0)) := by
  have ha' := inMin_iff.1 ha
  have hb' := inMin_iff.1 hb
  have hs := sinceZ_bd a (c % 1440)
  have hl := longZ_bd a b
  have hn : 0 ≤ nextZ a b c - c ∧ nextZ a b c - c < 1440 := by unfold nextZ; split <;> omega
  intro d
  induction d with
  | zero =>
    intro k x h0 h1 hd hk
    obtain ⟨k, rfl⟩ : ∃ j, k = j + 3 := ⟨k - 3, by omega⟩
    have hx : c + x = nextZ a b c := by omega
    unfold dayshiftref15_Next.l0
    rw [if_pos (by omega)]
    unfold dayshiftref15_Next.j1
    rw [wrap_id (n := c + x) (by omega) (by omega)]
    by_cases hm : c + x ≤ 5258966399
    · rw [if_pos (by simpa using hm), Int.tmod_eq_emod_of_nonneg (by omega), refOpen, openB_of ha hb (by omega)]
      have ho : sinceZ a ((c + x) % 1440) < longZ a b := by
        by_cases hlt : sinceZ a (c % 1440) < longZ a b
        · have : x = 0 := by have : nextZ a b c = c := by unfold nextZ; rw [if_pos hlt]
                             omega
          subst this; simpa using hlt
        · have : x = 1440 - sinceZ a (c % 1440) := by
            have : nextZ a b c = c + (1440 - sinceZ a (c % 1440)) := by unfold nextZ; rw [if_neg hlt]
            omega
          subst this
          have : sinceZ a ((c + (1440 - sinceZ a (c % 1440))) % 1440) = 0 := by unfold sinceZ; omega
          omega
      simp only [Option.bind_some, decide_eq_true ho, if_true]
      rw [hx, if_neg (by omega)]
    · rw [if_neg (by simpa using hm), if_pos (by omega)]
  | succ d ih =>
    intro k x h0 h1 hd hk
    obtain ⟨k, rfl⟩ : ∃ j, k = j + 3 := ⟨k - 3, by omega⟩
    have hlt : ¬ sinceZ a (c % 1440) < longZ a b := by
      intro hlt
      have : nextZ a b c = c := by unfold nextZ; rw [if_pos hlt]
      omega
    have hne : nextZ a b c = c + (1440 - sinceZ a (c % 1440)) := by unfold nextZ; rw [if_neg hlt]
    unfold dayshiftref15_Next.l0
    rw [if_pos (by omega)]
    unfold dayshiftref15_Next.j1
    rw [wrap_id (n := c + x) (by omega) (by omega)]
    by_cases hm : c + x ≤ 5258966399
    · rw [if_pos (by simpa using hm), Int.tmod_eq_emod_of_nonneg (by omega), refOpen, openB_of ha hb (by omega)]
      have ho : ¬ sinceZ a ((c + x) % 1440) < longZ a b := by
        rw [since_add h0 (by omega)]; omega
      simp only [Option.bind_some, decide_eq_false ho, Bool.false_eq_true, if_false]
      rw [wrap_id (n := x + 1) (by omega) (by omega)]
      exact ih (k + 1) (x + 1) (by omega) (by omega) (by omega) (by omega)
    · rw [if_neg (by simpa using hm), if_pos (by omega)]

theorem refNext (k : Nat) (hk : 5000 ≤ k) (a b c : Int) : dayshiftref15_Next.f k a b c = when_Next.f a b c := by
  unfold dayshiftref15_Next.f when_Next.f
  rw [refAsked]
  simp only [Option.bind_some]
  by_cases h : askE a b c = 0
  · obtain ⟨hab, hc⟩ := askE_zero.1 h
    have ⟨ha, hb⟩ : inMin a = true ∧ inMin b = true := by simpa using hab
    have hs := sinceZ_bd a (c % 1440)
    have hl := longZ_bd a b
    have hn : 0 ≤ nextZ a b c - c ∧ nextZ a b c - c < 1440 := by unfold nextZ; split <;> omega
    rw [if_pos h, if_pos h]
    exact refNext_loop ha hb hc (nextZ a b c - c).toNat k 0 (by omega) (by omega) (by omega) (by omega)
  · rw [if_neg h, if_neg h]

def leftZ (a b c : Int) : Int := if longZ a b = 1440 then 1440 else longZ a b - sinceZ a (c % 1440)
theorem refLeft_loop {a b c : Int} (ha : inMin a = true) (hb : inMin b = true) (hc : 1440 ≤ c ∧ c ≤ 5258966399) (ho : sinceZ a (c % 1440) < longZ a b) : ∀ (d k : Nat) (x : Int), 0 ≤ x → x ≤ leftZ a b c → leftZ a b c - x = d → d + 1 < k →
    dayshiftref15_Left.l0 k a b c x = some (leftZ a b c, 0) := by
  have ha' := inMin_iff.1 ha
  have hb' := inMin_iff.1 hb
  have hs := sinceZ_bd a (c % 1440)
  have hl := longZ_bd a b
  have hn : 1 ≤ leftZ a b c ∧ leftZ a b c ≤ 1440 := by unfold leftZ; split <;> omega
  intro d
  induction d with
  | zero =>
    intro k x h0 h1 hd hk
    obtain ⟨k, rfl⟩ : ∃ j, k = j + 2 := ⟨k - 2, by omega⟩
    have hx : x = leftZ a b c := by omega
    unfold dayshiftref15_Left.l0
    by_cases hlt : x < 1440
    · rw [if_pos hlt, wrap_id (n := c + x) (by omega) (by omega), Int.tmod_eq_emod_of_nonneg (by omega), refOpen, openB_of ha hb (by omega)]
      have hq : ¬ sinceZ a ((c + x) % 1440) < longZ a b := by
        have he : ¬ longZ a b = 1440 := by
          intro he
          have : leftZ a b c = 1440 := by unfold leftZ; rw [if_pos he]
          omega
        have : leftZ a b c = longZ a b - sinceZ a (c % 1440) := by unfold leftZ; rw [if_neg he]
        rw [since_add h0 (by omega)]; omega
      simp only [Option.bind_some, decide_eq_false hq, Bool.false_eq_true, if_false]
      rw [if_neg (by omega), hx]
    · rw [if_neg hlt, if_neg (by omega), hx]
  | succ d ih =>
    intro k x h0 h1 hd hk
    obtain ⟨k, rfl⟩ : ∃ j, k = j + 2 := ⟨k - 2, by omega⟩
    unfold dayshiftref15_Left.l0
    rw [if_pos (by omega), wrap_id (n := c + x) (by omega) (by omega), Int.tmod_eq_emod_of_nonneg (by omega), refOpen, openB_of ha hb (by omega)]
    have hq : sinceZ a ((c + x) % 1440) < longZ a b := by
      by_cases he : longZ a b = 1440
      · have := sinceZ_bd a ((c + x) % 1440); omega
      · have : leftZ a b c = longZ a b - sinceZ a (c % 1440) := by unfold leftZ; rw [if_neg he]
        rw [since_add h0 (by omega)]; omega
    simp only [Option.bind_some, decide_eq_true hq, if_true]
    rw [wrap_id (n := x + 1) (by omega) (by omega)]
    exact ih (k + 1) (x + 1) (by omega) (by omega) (by omega) (by omega)

theorem refLeft (k : Nat) (hk : 5000 ≤ k) (a b c : Int) : dayshiftref15_Left.f k a b c = when_Left.f a b c := by
  unfold dayshiftref15_Left.f when_Left.f
  rw [refAsked]
  simp only [Option.bind_some]
  by_cases h : askE a b c = 0
  · obtain ⟨hab, hc⟩ := askE_zero.1 h
    have ⟨ha, hb⟩ : inMin a = true ∧ inMin b = true := by simpa using hab
    have hs := sinceZ_bd a (c % 1440)
    have hl := longZ_bd a b
    rw [if_pos h, if_pos h]
    by_cases ho : sinceZ a (c % 1440) < longZ a b
    · have hn : 1 ≤ leftZ a b c ∧ leftZ a b c ≤ 1440 := by unfold leftZ; split <;> omega
      rw [if_pos ho, refLeft_loop ha hb hc ho (leftZ a b c).toNat k 0 (by omega) (by omega) (by omega) (by omega)]
      unfold leftZ
      split <;> rfl
    · rw [if_neg ho]
      obtain ⟨k, rfl⟩ : ∃ j, k = j + 2 := ⟨k - 2, by omega⟩
      unfold dayshiftref15_Left.l0
      rw [if_pos (by omega), wrap_id (n := c + 0) (by omega) (by omega), Int.tmod_eq_emod_of_nonneg (by omega), refOpen, openB_of ha hb (by omega)]
      simp only [Int.add_zero, Option.bind_some, decide_eq_false ho, Bool.false_eq_true, if_false, if_true]
  · rw [if_neg h, if_neg h]

theorem WhenNexts : dayshiftlaw15_WhenNexts.Pure := by
  intro a b c _ _ _
  refine ⟨5000, ?_⟩
  unfold dayshiftlaw15_WhenNexts.f
  rw [refNext 5000 (by omega), refLeft 5000 (by omega), known_true 5000 (by omega)]
  obtain ⟨x, hx⟩ : ∃ x, when_Next.f a b c = some x := ⟨_, rfl⟩
  obtain ⟨y, hy⟩ : ∃ y, when_Left.f a b c = some y := ⟨_, rfl⟩
  rw [hx, hy]
  simp
end Go.Proofs.Ytokkmkijoenbgaa.Pure
