/- dayshift/date's Leap and Len, and dayshift/job's num, as plain functions: each call returns what its plain function says and leaves what was there. No conditions beside those in each theorem. -/
import Derived.Test.YtfefbmglimdgjaaJob2
namespace Go.Proofs.Ytfefbmglimdgjaa.Own
open Go.RowKit
def leapB (y : Int) : Bool := decide (Int.tmod y 4 = 0 ∧ (¬ Int.tmod y 100 = 0 ∨ Int.tmod y 400 = 0))
theorem leap_any (y : Int) (w : World) : Calls Try.prog 67 #[.int .i64 y] w fun e w' => e = .returned (.bool (leapB y)) ∧ w = w' := by
  go_enter Try.func67, Try.ntmps67
  go_wp2
  all_goals go_ret
  all_goals refine ⟨congrArg (fun b => Ending.returned (.bool b)) (?_ : _ = leapB y), rfl⟩
  all_goals (unfold leapB; by_cases h4 : Int.tmod y 400 = 0 <;> simp_all)
attribute [irreducible] leapB
def lenZ (y m : Int) : Int := if m < 1 ∨ 12 < m then 0 else if m = 2 ∧ leapB y = true then 29 else [31, 28, 31, 30, 31, 30, 31, 31, 30, 31, 30, 31].getD (m - 1).toNat 0
set_option maxHeartbeats 4000000 in
theorem len_any (y m : Int) (w : World) : Calls Try.prog 64 #[.int .i64 y, .int .i64 m] w fun e w' => e = .returned (.int .i64 (lenZ y m)) ∧ Below w.heap.size w w' := by
  by_cases hm : m < 1 ∨ 12 < m
  · have hz : Hid (lenZ y m = 0) := by show _ = _; unfold lenZ; rw [if_pos hm]
    rcases hm with h | h
    all_goals (
      go_enter Try.func64, Try.ntmps64
      go_wp2
      all_goals go_ret
      all_goals exact ⟨by rw [show lenZ y m = 0 from hz]; rfl, by repeat (with_reducible first | exact Below.refl _ _ | assumption | refine bw_step ?_ (by assumption) | refine bw_alloc ?_ _ | refine bw_drew ?_)⟩)
  · by_cases h2 : m = 2
    · subst h2
      cases hl : leapB y
      · have cL : ∀ w : World, Calls Try.prog 67 #[.int .i64 y] w fun e w' => e = .returned (.bool false) ∧ w = w' := fun w => by have := leap_any y w; rwa [hl] at this
        have hz : Hid (lenZ y 2 = 28) := by show _ = _; unfold lenZ; rw [hl]; rfl
        clear hl
        go_enter Try.func64, Try.ntmps64
        go_wp2_with (go_at_call 67; refine (cL _).mono ?_; rintro e w' ⟨rfl, rfl⟩)
        all_goals go_ret
        all_goals exact ⟨by rw [show lenZ y 2 = 28 from hz]; rfl, by repeat (with_reducible first | exact Below.refl _ _ | assumption | refine bw_step ?_ (by assumption) | refine bw_alloc ?_ _ | refine bw_drew ?_)⟩
      · have cL : ∀ w : World, Calls Try.prog 67 #[.int .i64 y] w fun e w' => e = .returned (.bool true) ∧ w = w' := fun w => by have := leap_any y w; rwa [hl] at this
        have hz : Hid (lenZ y 2 = 29) := by show _ = _; unfold lenZ; rw [hl]; rfl
        clear hl
        go_enter Try.func64, Try.ntmps64
        go_wp2_with (go_at_call 67; refine (cL _).mono ?_; rintro e w' ⟨rfl, rfl⟩)
        all_goals go_ret
        all_goals exact ⟨by rw [show lenZ y 2 = 29 from hz]; rfl, by repeat (with_reducible first | exact Below.refl _ _ | assumption | refine bw_step ?_ (by assumption) | refine bw_alloc ?_ _ | refine bw_drew ?_)⟩
    · obtain rfl | rfl | rfl | rfl | rfl | rfl | rfl | rfl | rfl | rfl | rfl : m = 1 ∨ m = 3 ∨ m = 4 ∨ m = 5 ∨ m = 6 ∨ m = 7 ∨ m = 8 ∨ m = 9 ∨ m = 10 ∨ m = 11 ∨ m = 12 := by omega
      all_goals (
        clear hm h2
        go_enter Try.func64, Try.ntmps64
        go_wp2
        all_goals go_ret
        all_goals exact ⟨rfl, by repeat (with_reducible first | exact Below.refl _ _ | assumption | refine bw_step ?_ (by assumption) | refine bw_alloc ?_ _ | refine bw_drew ?_)⟩)
attribute [irreducible] lenZ
theorem lenZ_wrap (y m : Int) (hm : ¬ (m < 1 ∨ 12 < m)) (h2 : m ≠ 2) : lenZ y m = [31, 28, 31, 30, 31, 30, 31, 31, 30, 31, 30, 31].getD (m - 1).toNat 0 := by
  unfold lenZ
  rw [if_neg hm, if_neg (fun k => h2 k.1)]
/-- The digits of a number, from the first on. -/
def digs : Nat → Int → List Int
  | 0, n => [48 + n]
  | k + 1, n => if n < 10 then [48 + n] else digs k (n / 10) ++ [48 + n % 10]
theorem utf8_digit (d : Int) (h0 : 0 ≤ d) (h1 : d < 10) : Utf8.encode (48 + d) = strOfNums [48 + d] := by
  obtain rfl | rfl | rfl | rfl | rfl | rfl | rfl | rfl | rfl | rfl : d = 0 ∨ d = 1 ∨ d = 2 ∨ d = 3 ∨ d = 4 ∨ d = 5 ∨ d = 6 ∨ d = 7 ∨ d = 8 ∨ d = 9 := by omega
  all_goals rfl
theorem strOfNums_app (a b : List Int) : strOfNums a ++ strOfNums b = strOfNums (a ++ b) := by
  apply ByteArray.ext
  rw [ByteArray.data_append]
  unfold strOfNums
  simp
theorem digs_len : ∀ (k : Nat) (n : Int), (digs k n).length ≤ k + 1
  | 0, n => by simp [digs]
  | k + 1, n => by
    unfold digs
    split
    · simp
    · have := digs_len k (n / 10)
      simp; omega
theorem num_any : ∀ (k : Nat) (n : Int) (w : World), k ≤ 30 → 0 ≤ n → n < 10 ^ (k + 1) → n < 9223372036854775808 → Calls Try.prog 52 #[.int .i64 n] w fun e w' => e = .returned (.string (strOfNums (digs k n))) ∧ w = w' := by
  intro k
  induction k with
  | zero =>
    intro n w hk h0 h1 h2
    have h1' : n < 10 := by simpa using h1
    go_enter Try.func52, Try.ntmps52
    go_wp2
    go_ret
    exact ⟨congrArg (fun s => Ending.returned (.string s)) (utf8_digit n h0 h1'), rfl⟩
  | succ k ih =>
    intro n w hk h0 h1 h2
    have hp : n / 10 < 10 ^ (k + 1) := by
      rw [Int.pow_succ] at h1
      omega
    have hz : (strOfNums (digs k (n / 10))).size + (Utf8.encode (48 + n % 10)).size ≤ 100 := by
      rw [utf8_digit (n % 10) (by omega) (by omega), strOfNums_size, strOfNums_size]
      have := digs_len k (n / 10)
      simp; omega
    have hz2 : Hid ((strOfNums (digs k (n / 10))).size + (Utf8.encode (48 + n % 10)).size ≤ 100) := hz
    by_cases hn : n < 10
    · go_enter Try.func52, Try.ntmps52
      go_wp2
      go_ret
      exact ⟨congrArg (fun s => Ending.returned (.string s)) (by rw [digs, if_pos hn]; exact utf8_digit n h0 hn), rfl⟩
    · have hgt : ¬ 9223372036854775807 < (strOfNums (digs k (n / 10))).size + (Utf8.encode (48 + n % 10)).size := by omega
      clear hz
      go_enter Try.func52, Try.ntmps52
      go_wp2_with (go_at_call 52; refine (ih _ _ (by omega) (by omega) hp (by omega)).mono ?_; rintro e w' ⟨rfl, rfl⟩)
      go_ret
      exact ⟨congrArg (fun s => Ending.returned (.string s)) (by rw [digs, if_neg (show ¬ n < 10 by omega), utf8_digit (n % 10) (by omega) (by omega), strOfNums_app]), rfl⟩
attribute [irreducible] digs
end Go.Proofs.Ytfefbmglimdgjaa.Own
