/- The reference's Digits comes to a number's digits. Plain Lean over the printed functions. No conditions beside those in each theorem. -/
import Derived.Test.YtfefbmglimdgjaaLen17
import Derived.Test.YtfefbmglimdgjaaPxx1
namespace Go.Proofs.Ytfefbmglimdgjaa.Own
open Go.RowKit Go.Proofs.YtfefbmglimdgjaaW.PrintWords Go.Proofs.Ytfefbmglimdgjaa.Px
theorem w64 (x : Int) (h0 : -9223372036854775808 ≤ x) (h1 : x ≤ 9223372036854775807) : wrap64 x = x := by unfold wrap64; omega
theorem dg_step (k : Nat) (n least : Int) (acc : List Int) (h : 0 ≤ n) (hn : n < 1000000000000000000) (hl : acc.length < 100) (hc : 0 < n ∨ (acc.length : Int) < least) :
    dayshiftref01_Digits.l0 (k + 1) n least acc = dayshiftref01_Digits.l0 k (n / 10) least (acc ++ [48 + n % 10]) := by
  rw [dayshiftref01_Digits.l0]
  rw [Int.tdiv_eq_ediv_of_nonneg h, Int.tmod_eq_emod_of_nonneg h]
  have h1 : wrap64 (n / 10) = n / 10 := w64 _ (by omega) (by omega)
  have h2 : wrap64 (48 + n % 10) % 256 = 48 + n % 10 := by rw [w64 _ (by omega) (by omega)]; omega
  rw [h1, h2]
  have hl2 : acc.length < 140737488355328 := by omega
  by_cases hp : n > 0
  · rw [if_pos hp, if_pos hl2]
  · rw [if_neg hp]
    have hq : (acc.length : Int) < least := by
      rcases hc with hc | hc
      · exact absurd hc hp
      · exact hc
    rw [if_pos hq, if_pos hl2]
theorem dg_rev : ∀ (j k : Nat) (xs acc : List Int), j ≤ xs.length → acc.length + j < 100 → j + 1 ≤ k → dayshiftref01_Digits.l1 k xs acc ((j : Int) - 1) = some (strOfNums (acc ++ (xs.take j).reverse))
  | 0, k, xs, acc, _, _, hk => by
    obtain ⟨k', rfl⟩ : ∃ k', k = k' + 1 := ⟨k - 1, by omega⟩
    rw [dayshiftref01_Digits.l1]
    simp
  | j + 1, k, xs, acc, hj, hl, hk => by
    obtain ⟨k', rfl⟩ : ∃ k', k = k' + 1 := ⟨k - 1, by omega⟩
    rw [dayshiftref01_Digits.l1]
    have e : ((j + 1 : Nat) : Int) - 1 = (j : Int) := by omega
    rw [e, if_pos (by omega), if_pos (by omega), if_pos (by omega), if_pos (by omega), w64 _ (by omega) (by omega)]
    rw [dg_rev j k' xs _ (by omega) (by simp; omega) (by omega)]
    congr 2
    have : rd xs (j : Int) = xs[j]'(by omega) := by unfold rd; simp [List.getD_eq_getElem?_getD, List.getElem?_eq_getElem (show j < xs.length by omega)]
    have ht : xs.take (j + 1) = xs.take j ++ [xs[j]'(by omega)] := by rw [List.take_add_one, List.getElem?_eq_getElem (show j < xs.length by omega)]; rfl
    rw [this, ht, List.reverse_append, List.append_assoc]
    rfl
theorem dg_end (k : Nat) (least : Int) (acc : List Int) (hn : least ≤ acc.length) (hlen : acc.length < 50) (hk : acc.length + 2 ≤ k) : dayshiftref01_Digits.l0 k 0 least acc = some (strOfNums acc.reverse) := by
  obtain ⟨k', rfl⟩ : ∃ k', k = k' + 1 := ⟨k - 1, by omega⟩
  rw [dayshiftref01_Digits.l0, if_neg (by omega), if_neg (by omega), w64 _ (by omega) (by omega), dg_rev acc.length k' acc [] (Nat.le_refl _) (by simp; omega) (by omega)]
  simp
theorem dg_many : ∀ (m : Nat) (n least : Int) (acc : List Int) (k : Nat), 0 < n → n < 10 ^ (m + 1) → n < 1000000000000000000 → m ≤ 20 → acc.length + m ≤ 30 → least ≤ (acc.length : Int) + 1 → acc.length + 2 * m + 10 ≤ k →
    dayshiftref01_Digits.l0 k n least acc = some (strOfNums (digs m n ++ acc.reverse))
  | 0, n, least, acc, k, h0, h1, h2, hm, ha, hl, hk => by
    obtain ⟨k', rfl⟩ : ∃ k', k = k' + 1 := ⟨k - 1, by omega⟩
    have h1' : n < 10 := by simpa using h1
    rw [dg_step k' n least acc (by omega) h2 (by omega) (.inl h0), show n / 10 = 0 by omega, dg_end k' least _ (by simp; omega) (by simp; omega) (by simp; omega), digs, show n % 10 = n by omega]
    simp
  | m + 1, n, least, acc, k, h0, h1, h2, hm, ha, hl, hk => by
    obtain ⟨k', rfl⟩ : ∃ k', k = k' + 1 := ⟨k - 1, by omega⟩
    rw [dg_step k' n least acc (by omega) h2 (by omega) (.inl h0), digs]
    by_cases h : n < 10
    · rw [if_pos h, show n / 10 = 0 by omega, dg_end k' least _ (by simp; omega) (by simp; omega) (by simp; omega), show n % 10 = n by omega]
      simp
    · have hp : n / 10 < 10 ^ (m + 1) := by
        rw [Int.pow_succ] at h1
        omega
      rw [if_neg h, dg_many m (n / 10) least _ k' (by omega) hp (by omega) (by omega) (by simp; omega) (by simp; omega) (by simp; omega)]
      simp
theorem digits_1 (n : Int) (h0 : 0 ≤ n) (h1 : n < 1000000000000000000) : dayshiftref01_Digits.f 100 n 1 = some (strOfNums (digs 17 n)) := by
  unfold dayshiftref01_Digits.f
  by_cases h : n = 0
  · subst h
    rw [dg_step 99 0 1 [] (by omega) (by omega) (by simp) (.inr (by simp)), show (0 : Int) / 10 = 0 by omega, dg_end 99 1 _ (by simp) (by simp) (by simp), digs]
    simp
  · rw [dg_many 17 n 1 [] 100 (by omega) (by omega) h1 (by omega) (by simp) (by simp) (by simp)]
    simp
theorem digits_4 (n : Int) (h0 : 0 ≤ n) (h1 : n ≤ 9999) : dayshiftref01_Digits.f 100 n 4 = some (strOfNums [48 + n / 1000, 48 + n / 100 % 10, 48 + n / 10 % 10, 48 + n % 10]) := by
  unfold dayshiftref01_Digits.f
  rw [dg_step 99 n 4 [] (by omega) (by omega) (by simp) (.inr (by simp)), dg_step 98 _ 4 _ (by omega) (by omega) (by simp) (.inr (by simp)), dg_step 97 _ 4 _ (by omega) (by omega) (by simp) (.inr (by simp)), dg_step 96 _ 4 _ (by omega) (by omega) (by simp) (.inr (by simp)),
    show n / 10 / 10 / 10 / 10 = 0 by omega, dg_end 96 4 _ (by simp) (by simp) (by simp)]
  congr 2
  simp
  omega
theorem digits_2 (n : Int) (h0 : 0 ≤ n) (h1 : n ≤ 99) : dayshiftref01_Digits.f 100 n 2 = some (strOfNums [48 + n / 10, 48 + n % 10]) := by
  unfold dayshiftref01_Digits.f
  rw [dg_step 99 n 2 [] (by omega) (by omega) (by simp) (.inr (by simp)), dg_step 98 _ 2 _ (by omega) (by omega) (by simp) (.inr (by simp)), show n / 10 / 10 = 0 by omega, dg_end 98 2 _ (by simp) (by simp) (by simp)]
  congr 2
  simp
  omega
end Go.Proofs.Ytfefbmglimdgjaa.Own
