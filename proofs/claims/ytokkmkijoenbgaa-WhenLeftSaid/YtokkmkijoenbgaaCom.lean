/- Plain laws of windows of time: the counting definitions and the closed forms agree. No conditions beside those in each theorem. -/
import Derived.Test.YtokkmkijoenbgaaPrx3
namespace Go.Proofs.Ytokkmkijoenbgaa.Pure
open Go.RowKit Go.Proofs.Ytokkmkijoenbgaa.Own Go.Proofs.Ytokkmkijoenbgaa.Pr Go.Proofs.YtokkmkijoenbgaaW.PrintWords Go.Proofs.YtokkmkijoenbgaaW.PrintLast

theorem wrap_id {n : Int} (h0 : -9223372036854775808 ≤ n) (h1 : n ≤ 9223372036854775807) : wrap64 n = n := by unfold wrap64; omega
theorem refRight (a : Int) : dayshiftref02_Right.f a = some (inMin a) := by
  unfold dayshiftref02_Right.f inMin
  split
  · congr 1; apply decide_eq_decide.2; omega
  · congr 1; symm; apply decide_eq_false; omega

theorem openB_eq {a b m : Int} (ha : 0 ≤ a ∧ a < 1440) (hb : 0 ≤ b ∧ b < 1440) (hm : 0 ≤ m ∧ m < 1440) :
    openB a b m = if a ≤ b then decide (a ≤ m ∧ m ≤ b) else decide (a ≤ m ∨ m ≤ b) := by
  have e : openB a b m = decide (sinceZ a m < longZ a b) := by
    unfold openB
    rw [inMin_iff.2 ha, inMin_iff.2 hb, inMin_iff.2 hm]; rfl
  rw [e]
  unfold sinceZ longZ
  split <;> split <;> (apply decide_eq_decide.2; omega)
theorem openB_no {a b m : Int} (h : ¬ (inMin a = true ∧ inMin b = true ∧ inMin m = true)) : openB a b m = false := by
  unfold openB
  cases h1 : inMin a <;> cases h2 : inMin b <;> cases h3 : inMin m <;> simp_all

theorem refOpen (k : Nat) (a b m : Int) : dayshiftref15_Open.f (k + 1) a b m = some (openB a b m) := by
  unfold dayshiftref15_Open.f
  simp only [refRight, Option.bind_some, dayshiftref15_Open.j0]
  by_cases h : inMin a = true ∧ inMin b = true ∧ inMin m = true
  · obtain ⟨ha, hb, hm⟩ := h
    rw [openB_eq (inMin_iff.1 ha) (inMin_iff.1 hb) (inMin_iff.1 hm)]
    simp only [ha, hb, hm, if_true, Bool.not_true, Bool.false_eq_true, if_false]
    split
    · split
      · congr 1; apply decide_eq_decide.2; omega
      · congr 1; symm; apply decide_eq_false; omega
    · split
      · congr 1; symm; apply decide_eq_true; omega
      · congr 1; apply decide_eq_decide.2; omega
  · rw [openB_no h]
    by_cases ha : inMin a = true
    · by_cases hb : inMin b = true
      · have hm : inMin m = false := by cases hm : inMin m <;> simp_all
        simp [ha, hb, hm]
      · simp [ha, hb]
    · simp [ha]

theorem refSplit (c : Int) : dayshiftref02_Split.f c = some (if 1440 ≤ c ∧ c ≤ 5258966399 then (c / 1440, c % 1440, 0) else (0, 0, 6)) := by
  unfold dayshiftref02_Split.f
  by_cases h : 1440 ≤ c ∧ c ≤ 5258966399
  · rw [if_pos h, if_neg (by omega), if_neg (by omega), Int.tdiv_eq_ediv_of_nonneg (by omega), Int.tmod_eq_emod_of_nonneg (by omega), wrap_id (by omega) (by omega)]
  · rw [if_neg h]
    split
    · rfl
    · rw [if_pos (by omega)]
theorem refAsked (a b c : Int) : dayshiftref15_asked.f a b c = some (askE a b c) := by
  unfold dayshiftref15_asked.f askE
  simp only [refRight, refSplit, Option.bind_some]
  cases ha : inMin a <;> cases hb : inMin b <;> simp
  split <;> simp_all

/-- how many minutes ahead of m it is open -/
def cnt (a b m : Int) : Int := if a ≤ b then max 0 (min (m - a) (b - a + 1)) else min m (b + 1) + max 0 (m - a)
theorem cnt_succ {a b m : Int} (ha : 0 ≤ a ∧ a < 1440) (hb : 0 ≤ b ∧ b < 1440) (hm : 0 ≤ m ∧ m < 1440) : cnt a b (m + 1) = cnt a b m + if openB a b m = true then 1 else 0 := by
  rw [openB_eq ha hb hm]
  unfold cnt
  split <;> simp only [decide_eq_true_eq] <;> split <;> omega
theorem cnt_all {a b : Int} (ha : 0 ≤ a ∧ a < 1440) (hb : 0 ≤ b ∧ b < 1440) : cnt a b 1440 = longZ a b := by
  unfold cnt longZ
  split <;> split <;> omega
theorem cnt_bd {a b m : Int} (ha : 0 ≤ a ∧ a < 1440) (hb : 0 ≤ b ∧ b < 1440) (hm : 0 ≤ m ∧ m ≤ 1440) : 0 ≤ cnt a b m ∧ cnt a b m ≤ 1440 := by
  unfold cnt
  split <;> omega

theorem refLong_loop (a b : Int) : ∀ (d : Nat) (k : Nat) (n m : Int), 0 ≤ n → n ≤ 1440 → 0 ≤ m → m ≤ 1440 → 1440 - m = d → d + 1 < k → n ≤ m →
    dayshiftref15_Long.l0 k a b n m = some (n + if inMin a = true ∧ inMin b = true then cnt a b 1440 - cnt a b m else 0) := by
  intro d
  induction d with
  | zero =>
    intro k n m hn0 hn1 h0 h1 hd hk _
    obtain ⟨k, rfl⟩ : ∃ j, k = j + 1 := ⟨k - 1, by omega⟩
    have hm : m = 1440 := by omega
    subst hm
    unfold dayshiftref15_Long.l0
    rw [if_neg (by omega)]
    split <;> simp
  | succ d ih =>
    intro k n m hn0 hn1 h0 h1 hd hk hnm
    obtain ⟨k, rfl⟩ : ∃ j, k = j + 2 := ⟨k - 2, by omega⟩
    unfold dayshiftref15_Long.l0
    rw [if_pos (by omega), refOpen]
    simp only [Option.bind_some]
    rw [wrap_id (n := m + 1) (by omega) (by omega), wrap_id (n := n + 1) (by omega) (by omega)]
    by_cases hab : inMin a = true ∧ inMin b = true
    · have hs := cnt_succ (inMin_iff.1 hab.1) (inMin_iff.1 hab.2) (m := m) ⟨h0, by omega⟩
      simp only [if_pos hab] at ih ⊢
      split
      · rename_i ho
        rw [if_pos ho] at hs
        rw [ih (k + 1) (n + 1) (m + 1) (by omega) (by omega) (by omega) (by omega) (by omega) (by omega) (by omega)]
        congr 1; omega
      · rename_i ho
        rw [if_neg ho] at hs
        rw [ih (k + 1) n (m + 1) (by omega) (by omega) (by omega) (by omega) (by omega) (by omega) (by omega)]
        congr 1; omega
    · rw [openB_no (fun h => hab ⟨h.1, h.2.1⟩)]
      simp only [if_neg hab] at ih ⊢
      exact ih (k + 1) n (m + 1) (by omega) (by omega) (by omega) (by omega) (by omega) (by omega) (by omega)
theorem refLong (k : Nat) (hk : 1500 ≤ k) (a b : Int) : dayshiftref15_Long.f k a b = when_Long.f a b := by
  unfold dayshiftref15_Long.f when_Long.f
  rw [refLong_loop a b 1440 k 0 0 (by omega) (by omega) (by omega) (by omega) (by omega) (by omega) (by omega)]
  by_cases hab : inMin a = true ∧ inMin b = true
  · rw [if_pos hab, if_pos (by simpa using hab), cnt_all (inMin_iff.1 hab.1) (inMin_iff.1 hab.2)]
    have : cnt a b 0 = 0 := by
      have ha := inMin_iff.1 hab.1
      have hb := inMin_iff.1 hab.2
      unfold cnt; split <;> omega
    rw [this]; congr 1; omega
  · rw [if_neg hab, if_neg (by simpa using hab)]; rfl

theorem known_true (k : Nat) (hk : 2 ≤ k) : dayshiftlaw15_known.f k = some true := by
  obtain ⟨k, rfl⟩ : ∃ j, k = j + 2 := ⟨k - 2, by omega⟩
  have h : dayshiftlaw15_known.f 2 = some true := by decide +kernel
  exact at_rounds dayshiftlaw15_known.mono (Nat.le_add_left 2 k) h
end Go.Proofs.Ytokkmkijoenbgaa.Pure
