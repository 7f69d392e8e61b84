/- The program's date and the reference's date of a day are the same. Plain Lean over the printed functions. No conditions beside those in each theorem. -/
import Derived.Test.YtfefbmglimdgjaaDg17
import Derived.Test.YtfefbmglimdgjaaJ17t
import Derived.Test.YtfefbmglimdgjaaPxx2
namespace Go.Proofs.Ytfefbmglimdgjaa.Own
open Go.RowKit Go.Proofs.YtfefbmglimdgjaaW.PrintWords Go.Proofs.Ytfefbmglimdgjaa.Px
def aheadZ (y : Int) : Int := (y - 1) * 365 + (y - 1) / 4 - (y - 1) / 100 + (y - 1) / 400
theorem before_eq (y : Int) (h0 : 1 ≤ y) (h1 : y ≤ 20000) : date_before.f y = some (aheadZ y) := by
  unfold date_before.f aheadZ
  have h : wrap64 (y - 1) = y - 1 := w64 _ (by omega) (by omega)
  rw [h, Int.tdiv_eq_ediv_of_nonneg (by omega), Int.tdiv_eq_ediv_of_nonneg (by omega), Int.tdiv_eq_ediv_of_nonneg (by omega)]
  congr 1
  unfold wrap64
  omega
theorem ahead_eq (y : Int) (h0 : 1 ≤ y) (h1 : y ≤ 20000) : dayshiftref01_ahead.f y = some (aheadZ y) := by
  unfold dayshiftref01_ahead.f aheadZ
  have h : wrap64 (y - 1) = y - 1 := w64 _ (by omega) (by omega)
  rw [h, Int.tdiv_eq_ediv_of_nonneg (by omega), Int.tdiv_eq_ediv_of_nonneg (by omega), Int.tdiv_eq_ediv_of_nonneg (by omega)]
  congr 1
  unfold wrap64
  omega
theorem ahead_mono {a b : Int} (h0 : 1 ≤ a) (h : a ≤ b) : aheadZ a ≤ aheadZ b := by
  rcases Int.lt_or_eq_of_le h with h | h
  · unfold aheadZ; omega
  · rw [h]; exact Int.le_refl _
theorem leap_iff (y : Int) (h : 0 ≤ y) : leapB y = true ↔ y % 4 = 0 ∧ (¬ y % 100 = 0 ∨ y % 400 = 0) := by
  unfold leapB
  rw [decide_eq_true_eq, Int.tmod_eq_emod_of_nonneg h, Int.tmod_eq_emod_of_nonneg h, Int.tmod_eq_emod_of_nonneg h]
theorem ahead_next (y : Int) (h0 : 1 ≤ y) : aheadZ (y + 1) = aheadZ y + 365 + (if leapB y = true then 1 else 0) := by
  have hl := leap_iff y (by omega)
  unfold aheadZ
  by_cases h : leapB y = true
  · rw [if_pos h]
    rw [hl] at h
    omega
  · rw [if_neg h]
    rw [hl] at h
    omega
theorem len_bounds (y m : Int) : 0 ≤ lenZ y m ∧ lenZ y m ≤ 31 := by
  unfold lenZ
  split
  · omega
  · split
    · omega
    · rename_i h _
      obtain rfl | rfl | rfl | rfl | rfl | rfl | rfl | rfl | rfl | rfl | rfl | rfl : m = 1 ∨ m = 2 ∨ m = 3 ∨ m = 4 ∨ m = 5 ∨ m = 6 ∨ m = 7 ∨ m = 8 ∨ m = 9 ∨ m = 10 ∨ m = 11 ∨ m = 12 := by omega
      all_goals decide
theorem mod_eq (y c : Int) (h : 0 ≤ y) (hc : 0 < c) : dayshiftref01_mod.f y c = some (Int.tmod y c) := by
  unfold dayshiftref01_mod.f
  have := Int.tmod_nonneg c h
  rw [if_neg (by omega), if_neg (by omega)]
theorem rleap_eq (y : Int) (h : 0 ≤ y) : dayshiftref01_Leap.f y = some (leapB y) := by
  unfold dayshiftref01_Leap.f leapB
  rw [mod_eq y 4 h (by omega), mod_eq y 100 h (by omega), mod_eq y 400 h (by omega)]
  simp only [Option.bind_some]
  by_cases h4 : Int.tmod y 4 = 0
  · rw [if_pos h4]
    by_cases h1 : Int.tmod y 100 = 0
    · rw [if_pos h1]
      by_cases h2 : Int.tmod y 400 = 0 <;> simp [h4, h1, h2]
    · rw [if_neg h1]
      simp [h4, h1]
  · rw [if_neg h4]
    simp [h4]
theorem rlen_eq (k : Nat) (y m : Int) (h : 0 ≤ y) : dayshiftref01_Len.f (k + 2) y m = some (lenZ y m) := by
  unfold dayshiftref01_Len.f
  by_cases h1 : m < 1 ∨ 12 < m
  · rw [if_neg (by omega), if_neg (by omega), if_neg (by omega), if_neg (by omega), if_neg (by omega), if_neg (by omega)]
    have e1 : (m == 12) = false := by simp; omega
    have e2 : (m == 11) = false := by simp; omega
    rw [e1, dayshiftref01_Len.j0, if_neg (by simp), if_neg (by omega), if_neg (by omega), if_neg (by omega), e2, dayshiftref01_Len.j1, if_neg (by simp), if_neg (by omega)]
    unfold lenZ
    rw [if_pos h1]
  · obtain rfl | rfl | rfl | rfl | rfl | rfl | rfl | rfl | rfl | rfl | rfl | rfl : m = 1 ∨ m = 2 ∨ m = 3 ∨ m = 4 ∨ m = 5 ∨ m = 6 ∨ m = 7 ∨ m = 8 ∨ m = 9 ∨ m = 10 ∨ m = 11 ∨ m = 12 := by omega
    all_goals simp [dayshiftref01_Len.j0, dayshiftref01_Len.j1, rleap_eq y h, lenZ]
    split <;> rfl
theorem month_same (y : Int) (h : 0 ≤ y) : ∀ (k : Nat) (d m : Int) (r : Int × Int × Int × Int), date_Date.l0 k y d m = some r → dayshiftref01_Date.l1 (k + 2) y d m = some r
  | 0, d, m, r, hr => by rw [date_Date.l0] at hr; cases hr
  | k + 1, d, m, r, hr => by
    rw [date_Date.l0] at hr
    rw [show k + 1 + 2 = (k + 2) + 1 by omega, dayshiftref01_Date.l1, rlen_eq k y m h]
    simp only [date_Len.f, Option.bind_some] at hr ⊢
    split at hr
    · rename_i hc
      rw [if_pos hc]
      exact month_same y h k _ _ r hr
    · rename_i hc
      rw [if_neg hc]
      exact hr
def remS (y : Int) : Nat → Int → Int
  | 0, _ => 0
  | j + 1, m => lenZ y m + remS y j (m + 1)
theorem rem_year (y : Int) : remS y 12 1 = 365 + (if leapB y = true then 1 else 0) := by
  simp [remS, lenZ]
  split <;> omega
theorem month_ends (y : Int) : ∀ (j : Nat) (d m : Int), 1 ≤ m → m + j ≤ 13 → 1 ≤ d → d ≤ 400 → d ≤ remS y j m → ∃ m' d', date_Date.l0 (j + 1) y d m = some (y, m', d', 0) ∧ 1 ≤ m' ∧ m' ≤ 13 ∧ 1 ≤ d' ∧ d' ≤ 31
  | 0, d, m, h1, h2, h3, h4, h5 => by simp [remS] at h5; omega
  | j + 1, d, m, h1, h2, h3, h4, h5 => by
    have hb := len_bounds y m
    rw [date_Date.l0]
    simp only [date_Len.f, Option.bind_some]
    by_cases hc : d > lenZ y m
    · rw [if_pos hc, w64 _ (by omega) (by omega), w64 _ (by omega) (by omega)]
      rw [remS] at h5
      exact month_ends y j (d - lenZ y m) (m + 1) (by omega) (by omega) (by omega) (by omega) (by omega)
    · rw [if_neg hc]
      exact ⟨m, d, rfl, h1, by omega, h3, by omega⟩
theorem month_more (y : Int) : ∀ (k j : Nat) (d m : Int) (r : Int × Int × Int × Int), date_Date.l0 k y d m = some r → date_Date.l0 (k + j) y d m = some r
  | 0, j, d, m, r, hr => by rw [date_Date.l0] at hr; cases hr
  | k + 1, j, d, m, r, hr => by
    rw [date_Date.l0] at hr
    rw [show k + 1 + j = (k + j) + 1 by omega, date_Date.l0]
    simp only [date_Len.f, Option.bind_some] at hr ⊢
    split at hr
    · rename_i hc
      rw [if_pos hc]
      exact month_more y k j _ _ r hr
    · rename_i hc
      rw [if_neg hc]
      exact hr
theorem year_loop (n Y : Int) (hY : Y ≤ 10000) (h2 : n ≤ aheadZ (Y + 1)) (h3 : aheadZ Y < n) : ∀ (j k : Nat) (y : Int), 1 ≤ y → y + j = Y → dayshiftref01_Date.l0 (k + 1 + j) n y = dayshiftref01_Date.l1 k Y (wrap64 (n - aheadZ Y)) 1
  | 0, k, y, h1, he => by
    obtain rfl : y = Y := by omega
    rw [dayshiftref01_Date.l0, w64 _ (by omega) (by omega), ahead_eq (y + 1) (by omega) (by omega), ahead_eq y h1 (by omega)]
    simp only [Option.bind_some]
    rw [if_neg (by omega)]
  | j + 1, k, y, h1, he => by
    have hm := ahead_mono (a := y + 1) (b := Y) (by omega) (by omega)
    rw [show k + 1 + (j + 1) = (k + 1 + j) + 1 by omega, dayshiftref01_Date.l0, w64 _ (by omega) (by omega), ahead_eq (y + 1) (by omega) (by omega)]
    simp only [Option.bind_some]
    rw [if_pos (by omega)]
    exact year_loop n Y hY h2 h3 j k (y + 1) (by omega) (by omega)
theorem date_prog (n : Int) (h0 : 1 ≤ n) (h1 : n ≤ 3652059) : ∃ Y : Int, 1 ≤ Y ∧ Y ≤ 9999 ∧ n ≤ aheadZ (Y + 1) ∧ aheadZ Y < n ∧ date_Date.f 40 n = date_Date.l0 38 Y (n - aheadZ Y) 1 := by
  unfold date_Date.f date_Right.f
  rw [if_pos h0]
  simp only [Option.bind_some]
  rw [if_pos (by simpa using h1)]
  have e1 : wrap64 (n - 1) = n - 1 := w64 _ (by omega) (by omega)
  have e2 : wrap64 ((n - 1) * 400) = (n - 1) * 400 := w64 _ (by omega) (by omega)
  have e3 : wrap64 ((n - 1) * 400 / 146097) = (n - 1) * 400 / 146097 := w64 _ (by omega) (by omega)
  obtain ⟨q, hq⟩ : ∃ q, q = (n - 1) * 400 / 146097 := ⟨_, rfl⟩
  have hq0 : 0 ≤ q := by omega
  have hq1 : q ≤ 9998 := by omega
  rw [e1, e2, Int.tdiv_eq_ediv_of_nonneg (by omega), e3, ← hq, w64 (q + 1) (by omega) (by omega), before_eq (q + 1) (by omega) (by omega)]
  simp only [Option.bind_some]
  have j0 : ∀ (k : Nat) (y : Int), 1 ≤ y → y ≤ 10000 → date_Date.j0 (k + 2) n y = if aheadZ (y + 1) < n then date_Date.l0 k (y + 1) (wrap64 (n - aheadZ (y + 1))) 1 else date_Date.l0 k y (wrap64 (n - aheadZ y)) 1 := by
    intro k y hy0 hy1
    rw [date_Date.j0, w64 _ (by omega) (by omega), before_eq (y + 1) (by omega) (by omega)]
    simp only [Option.bind_some]
    rw [date_Date.j1, date_Date.j1, before_eq (y + 1) (by omega) (by omega), before_eq y hy0 (by omega)]
    simp only [Option.bind_some]
  by_cases c1 : aheadZ (q + 1) ≥ n
  · rw [if_pos c1, w64 (q + 1 - 1) (by omega) (by omega)]
    have hq2 : 1 ≤ q := by
      by_cases hz : q = 0
      · subst hz; simp [aheadZ] at c1; omega
      · omega
    rw [show q + 1 - 1 = q by omega, j0 38 q hq2 (by omega), if_neg (by omega)]
    have hlow : aheadZ q < n := by unfold aheadZ; omega
    exact ⟨q, hq2, by omega, c1, hlow, by rw [w64 _ (by unfold aheadZ; omega) (by unfold aheadZ; omega)]⟩
  · rw [if_neg c1, j0 38 (q + 1) (by omega) (by omega)]
    by_cases c2 : aheadZ (q + 1 + 1) < n
    · rw [if_pos c2]
      have hhigh : n ≤ aheadZ (q + 1 + 1 + 1) := by unfold aheadZ; omega
      have hy : q + 1 + 1 ≤ 9999 := by
        by_cases hz : q + 1 + 1 ≤ 9999
        · exact hz
        · have : q = 9998 := by omega
          subst this
          simp [aheadZ] at c2
          omega
      exact ⟨q + 1 + 1, by omega, hy, hhigh, c2, by rw [w64 _ (by unfold aheadZ; omega) (by unfold aheadZ; omega)]⟩
    · rw [if_neg c2]
      exact ⟨q + 1, by omega, by omega, by omega, by omega, by rw [w64 _ (by unfold aheadZ; omega) (by unfold aheadZ; omega)]⟩
theorem date_both (n : Int) (h0 : 1 ≤ n) (h1 : n ≤ 3652059) : ∃ y m d : Int, 1 ≤ y ∧ y ≤ 9999 ∧ 1 ≤ m ∧ m ≤ 13 ∧ 1 ≤ d ∧ d ≤ 31 ∧ date_Date.f 40 n = some (y, m, d, 0) ∧ dayshiftref01_Date.f 100 n = some (y, m, d, 0) := by
  obtain ⟨Y, hY0, hY1, hb, ha, hf⟩ := date_prog n h0 h1
  have hn := ahead_next Y hY0
  have hr := rem_year Y
  have hd1 : n - aheadZ Y ≤ remS Y 12 1 := by rw [hr]; omega
  have hd2 : n - aheadZ Y ≤ 400 := by split at hn <;> omega
  obtain ⟨m, d, hl, m0, m1, d0, d1⟩ := month_ends Y 12 (n - aheadZ Y) 1 (by omega) (by omega) (by omega) hd2 hd1
  have hl2 : date_Date.l0 38 Y (n - aheadZ Y) 1 = some (Y, m, d, 0) := month_more Y 13 25 _ _ _ hl
  refine ⟨Y, m, d, hY0, hY1, m0, m1, d0, d1, by rw [hf, hl2], ?_⟩
  unfold dayshiftref01_Date.f dayshiftref01_Right.f
  rw [if_pos h0]
  simp only [Option.bind_some]
  rw [if_pos (by simpa using h1), Int.tdiv_eq_ediv_of_nonneg (by omega), w64 (n / 366) (by omega) (by omega), w64 (n / 366 + 1) (by omega) (by omega)]
  have hs : n / 366 + 1 ≤ Y := by
    by_cases hz : n / 366 + 1 ≤ Y
    · exact hz
    · have h5 := ahead_mono (a := Y + 1) (b := n / 366 + 1) (by omega) (by omega)
      have h6 : aheadZ (n / 366 + 1) < n := by unfold aheadZ; omega
      omega
  have hs2 : Y ≤ n / 366 + 1 + 60 := by
    have : aheadZ Y < n := ha
    unfold aheadZ at this
    omega
  obtain ⟨j, hj⟩ : ∃ j : Nat, n / 366 + 1 + j = Y := ⟨(Y - (n / 366 + 1)).toNat, by omega⟩
  have hj2 : j ≤ 60 := by omega
  obtain ⟨k, hk⟩ : ∃ k, 100 = k + 1 + j := ⟨99 - j, by omega⟩
  rw [hk, year_loop n Y (by omega) hb ha j k _ (by omega) hj, w64 _ (by unfold aheadZ; omega) (by unfold aheadZ; omega)]
  obtain ⟨i, hi⟩ : ∃ i, k = 13 + i + 2 := ⟨k - 15, by omega⟩
  rw [hi]
  exact month_same Y (by omega) (13 + i) _ _ _ (month_more Y 13 i _ _ _ hl)
end Go.Proofs.Ytfefbmglimdgjaa.Own
