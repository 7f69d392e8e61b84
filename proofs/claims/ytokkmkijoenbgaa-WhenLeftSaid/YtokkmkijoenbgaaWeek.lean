/- What dayshift/week's right and Text do: minutes of a day as a text. No conditions. -/
import Derived.Test.YtokkmkijoenbgaaProg
import Derived.Test.YtokkmkijoenbgaaSl
namespace Go.Proofs.Ytokkmkijoenbgaa.Own
open Go.RowKit

theorem right_yes (a : Int) (w : World) (h0 : 0 ≤ a) (h1 : a < 1440) : Calls Try.prog 27 #[.int .i64 a] w fun e w' => e = .returned (.bool true) ∧ w = w' := by
  go_enter Try.func27, Try.ntmps27
  go_wp2
  all_goals go_ret
  all_goals exact ⟨by simp <;> omega, rfl⟩
theorem right_no (a : Int) (w : World) (h0 : ¬ (0 ≤ a ∧ a < 1440)) : Calls Try.prog 27 #[.int .i64 a] w fun e w' => e = .returned (.bool false) ∧ w = w' := by
  go_enter Try.func27, Try.ntmps27
  go_wp2
  all_goals go_ret
  all_goals exact ⟨by simp <;> omega, rfl⟩
theorem text_no (a : Int) (w : World) (h0 : ¬ (0 ≤ a ∧ a < 1440)) : Calls Try.prog 23 #[.int .i64 a] w fun e w' => e = .returned (.tuple #[.string ⟨#[]⟩, .int .i64 6]) ∧ Below w.heap.size w w' := by
  go_enter Try.func23, Try.ntmps23
  go_wp2_with (go_at_call 27; refine (right_no _ _ h0).mono ?_; rintro e w' ⟨rfl, rfl⟩)
  go_ret2
  exact ⟨rfl, Below.refl _ _⟩
theorem text_yes (a : Int) (w : World) (h0 : 0 ≤ a) (h1 : a < 1440) : Calls Try.prog 23 #[.int .i64 a] w fun e w' =>
    e = .returned (.tuple #[.string (strOfNums [48 + a / 60 / 10, 48 + a / 60 % 10, 58, 48 + a % 60 / 10, 48 + a % 10]), .int .i64 0]) ∧ Below w.heap.size w w' := by
  have hcv := run_convert_bytes_arg (P := Try.prog) (w.alloc (.cells #[.int .u8 (48 + a / 60 / 10), .int .u8 (48 + a / 60 % 10), .int .u8 58, .int .u8 (48 + a % 60 / 10), .int .u8 (48 + a % 10)] 41)) 42 5 Try.underlying42 Try.underlying5 w.heap.size 0 5 5
    [48 + a / 60 / 10, 48 + a / 60 % 10, 58, 48 + a % 60 / 10, 48 + a % 10] rfl (by
      intro i hi
      match i, hi with
      | 0, _ => go_simp
      | 1, _ => go_simp
      | 2, _ => go_simp
      | 3, _ => go_simp
      | 4, _ => go_simp) 9 Try.underlying9
  go_enter Try.func23, Try.ntmps23
  go_wp2_with (go_at_call 27; refine (right_yes _ _ h0 h1).mono ?_; rintro e w' ⟨rfl, rfl⟩)
  go_ret2
  exact ⟨rfl, (Below.refl _ _).alloc (Nat.le_refl _) _⟩

def inMin (a : Int) : Bool := decide (0 ≤ a ∧ a < 1440)
def textS (a : Int) : ByteArray := if inMin a = true then strOfNums [48 + a / 60 / 10, 48 + a / 60 % 10, 58, 48 + a % 60 / 10, 48 + a % 10] else ⟨#[]⟩
def textE (a : Int) : Int := if inMin a = true then 0 else 6
theorem textE_zero (a : Int) : (textE a == 0) = inMin a := by unfold textE; split <;> simp_all
theorem textE_yes {a : Int} (h : inMin a = true) : textE a = 0 := by unfold textE; rw [if_pos h]
theorem textE_no {a : Int} (h : ¬ inMin a = true) : textE a = 6 := by unfold textE; rw [if_neg h]
theorem week_text_any (a : Int) (w : World) : Calls Try.prog 23 #[.int .i64 a] w fun e w' => e = .returned (.tuple #[.string (textS a), .int .i64 (textE a)]) ∧ Below w.heap.size w w' := by
  by_cases h : 0 ≤ a ∧ a < 1440
  · have hi : inMin a = true := by simp [inMin, h]
    unfold textS textE
    rw [if_pos hi, if_pos hi]
    exact text_yes a w h.1 h.2
  · have hi : ¬ inMin a = true := by simp only [inMin, decide_eq_true_eq]; exact h
    unfold textS textE
    rw [if_neg hi, if_neg hi]
    exact text_no a w h
end Go.Proofs.Ytokkmkijoenbgaa.Own
