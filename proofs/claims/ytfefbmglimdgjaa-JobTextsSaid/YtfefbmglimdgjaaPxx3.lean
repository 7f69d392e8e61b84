/- Functions of the translation as plain Lean functions, with proofs that the calls come to just these answers; written by a program of this session over the kit's printer. No conditions beside those that stand in each theorem. -/
import Derived.Test.YtfefbmglimdgjaaPxx0
import Derived.Test.YtfefbmglimdgjaaPxx1
import Derived.Test.YtfefbmglimdgjaaPxx2
import Derived.Test.YtfefbmglimdgjaaJ17t
namespace Go.Proofs.Ytfefbmglimdgjaa.Px
open Go.Proofs.Ytfefbmglimdgjaa.Own
open Go.RowKit Go.Proofs.YtfefbmglimdgjaaW.PrintWords Go.Proofs.YtfefbmglimdgjaaW.PrintLast Go.Proofs.YtfefbmglimdgjaaW.PrintMore
attribute [local go_sem] max2_int min2_int max_two min_two max_three min_three max_four min_four   -- for this text's walks alone
set_option linter.unusedVariables false
set_option linter.unusedSimpArgs false

/-! ### dayshiftref17_Text: function 20 -/
def dayshiftref17_Text.j0 : Nat → ByteArray → Int → Int → Int → Int → Bool → Bool → Int → Int → Int → Int → Option (ByteArray)
  | 0, _, _, _, _, _, _, _, _, _, _, _ => none
  | k + 1, x5, x134000, x134001, x134002, x134003, x134004, x134005, x134006, x134007, x134008, x134009 => if x134005 = true then (if x5.size + 7 ≤ 9223372036854775807 then (if x134003 = 1 then (if (x5 ++ (⟨#[32, 102, 111, 114, 99, 101, 100]⟩ : ByteArray)).size + 2 ≤ 9223372036854775807 then ((dayshiftref01_Digits.f k x134008 1).bind fun t143 => (if ((x5 ++ (⟨#[32, 102, 111, 114, 99, 101, 100]⟩ : ByteArray)) ++ (⟨#[32, 35]⟩ : ByteArray)).size + t143.size ≤ 9223372036854775807 then (some (((x5 ++ (⟨#[32, 102, 111, 114, 99, 101, 100]⟩ : ByteArray)) ++ (⟨#[32, 35]⟩ : ByteArray)) ++ t143)) else (none))) else (none)) else (some (x5 ++ (⟨#[32, 102, 111, 114, 99, 101, 100]⟩ : ByteArray)))) else (none)) else (if x134003 = 1 then (if x5.size + 2 ≤ 9223372036854775807 then ((dayshiftref01_Digits.f k x134008 1).bind fun t144 => (if (x5 ++ (⟨#[32, 35]⟩ : ByteArray)).size + t144.size ≤ 9223372036854775807 then (some ((x5 ++ (⟨#[32, 35]⟩ : ByteArray)) ++ t144)) else (none))) else (none)) else (some x5))
def dayshiftref17_Text.f (k : Nat) (a0_0 : Int) (a0_1 : Int) (a0_2 : Int) (a0_3 : Int) (a0_4 : Bool) (a0_5 : Bool) (a0_6 : Int) (a0_7 : Int) (a0_8 : Int) (a0_9 : Int) : Option (ByteArray) := (ref17_Right.f a0_0 a0_1 a0_2 a0_3 a0_4 a0_5 a0_6 a0_7 a0_8 a0_9).bind fun t134 => (if t134 = true then ((dayshiftref01_Text.f k a0_2).bind fun bt135 => ((dayshiftref01_Digits.f k a0_0 1).bind fun t137 => (if t137.size + 1 ≤ 9223372036854775807 then ((dayshiftref01_Digits.f k a0_1 1).bind fun t138 => (if (t137 ++ (⟨#[32]⟩ : ByteArray)).size + t138.size ≤ 9223372036854775807 then (if ((t137 ++ (⟨#[32]⟩ : ByteArray)) ++ t138).size + 1 ≤ 9223372036854775807 then (if (((t137 ++ (⟨#[32]⟩ : ByteArray)) ++ t138) ++ (⟨#[32]⟩ : ByteArray)).size + bt135.1.size ≤ 9223372036854775807 then (if ((((t137 ++ (⟨#[32]⟩ : ByteArray)) ++ t138) ++ (⟨#[32]⟩ : ByteArray)) ++ bt135.1).size + 1 ≤ 9223372036854775807 then ((some (([(⟨#[119, 97, 105, 116]⟩ : ByteArray), (⟨#[114, 117, 110]⟩ : ByteArray), (⟨#[103, 111, 111, 100]⟩ : ByteArray), (⟨#[98, 97, 100]⟩ : ByteArray)] : List ByteArray) : List ByteArray)).bind fun y139 => (if 0 ≤ a0_3 then (if a0_3 < (y139.length : Int) then (if (((((t137 ++ (⟨#[32]⟩ : ByteArray)) ++ t138) ++ (⟨#[32]⟩ : ByteArray)) ++ bt135.1) ++ (⟨#[32]⟩ : ByteArray)).size + (rdOf ByteArray.empty y139 a0_3).size ≤ 9223372036854775807 then (if a0_4 = true then (if ((((((t137 ++ (⟨#[32]⟩ : ByteArray)) ++ t138) ++ (⟨#[32]⟩ : ByteArray)) ++ bt135.1) ++ (⟨#[32]⟩ : ByteArray)) ++ (rdOf ByteArray.empty y139 a0_3)).size + 5 ≤ 9223372036854775807 then (dayshiftref17_Text.j0 k (((((((t137 ++ (⟨#[32]⟩ : ByteArray)) ++ t138) ++ (⟨#[32]⟩ : ByteArray)) ++ bt135.1) ++ (⟨#[32]⟩ : ByteArray)) ++ (rdOf ByteArray.empty y139 a0_3)) ++ (⟨#[32, 104, 101, 108, 100]⟩ : ByteArray)) a0_0 a0_1 a0_2 a0_3 a0_4 a0_5 a0_6 a0_7 a0_8 a0_9) else (none)) else (dayshiftref17_Text.j0 k ((((((t137 ++ (⟨#[32]⟩ : ByteArray)) ++ t138) ++ (⟨#[32]⟩ : ByteArray)) ++ bt135.1) ++ (⟨#[32]⟩ : ByteArray)) ++ (rdOf ByteArray.empty y139 a0_3)) a0_0 a0_1 a0_2 a0_3 a0_4 a0_5 a0_6 a0_7 a0_8 a0_9)) else (none)) else (none)) else (none))) else (none)) else (none)) else (none)) else (none))) else (none)))) else (some (⟨#[]⟩ : ByteArray)))
theorem dayshiftref17_Text.mono_l : ∀ k, (∀ y0 y1 y2 y3 y4 y5 y6 y7 y8 y9 y10, LeO (dayshiftref17_Text.j0 k y0 y1 y2 y3 y4 y5 y6 y7 y8 y9 y10) (dayshiftref17_Text.j0 (k + 1) y0 y1 y2 y3 y4 y5 y6 y7 y8 y9 y10))
  | 0 => fun _ _ _ _ _ _ _ _ _ _ _ r h => by simp [dayshiftref17_Text.j0] at h
  | k + 1 => by
    have ih0 := dayshiftref17_Text.mono_l k
    · intro y0 y1 y2 y3 y4 y5 y6 y7 y8 y9 y10
      unfold dayshiftref17_Text.j0
      repeat' first
      | (with_reducible exact ih0 _ _ _ _ _ _ _ _ _ _ _)
      | (with_reducible exact dayshiftref01_Digits.mono _ _ _)
      | (with_reducible exact dayshiftref01_Text.mono _ _)
      | (with_reducible exact LeO.refl _)
      | (with_reducible exact LeO.none _)
      | (with_reducible refine LeO.ite ?_ ?_)
      | (with_reducible refine LeO.bind ?_ (fun _ => ?_))
      | exact ih0 _ _ _ _ _ _ _ _ _ _ _
      | exact dayshiftref01_Digits.mono _ _ _
      | exact dayshiftref01_Text.mono _ _
      | exact LeO.none _
      | refine LeO.ite ?_ ?_
      | refine LeO.bind ?_ (fun _ => ?_)
theorem dayshiftref17_Text.mono : ∀ a0 a1 a2 a3 a4 a5 a6 a7 a8 a9 k, LeO (dayshiftref17_Text.f k a0 a1 a2 a3 a4 a5 a6 a7 a8 a9) (dayshiftref17_Text.f (k + 1) a0 a1 a2 a3 a4 a5 a6 a7 a8 a9) := by
  intro a0 a1 a2 a3 a4 a5 a6 a7 a8 a9 k
  have ih0 := dayshiftref17_Text.mono_l k
  unfold dayshiftref17_Text.f
  repeat' first
      | (with_reducible exact ih0 _ _ _ _ _ _ _ _ _ _ _)
      | (with_reducible exact dayshiftref01_Digits.mono _ _ _)
      | (with_reducible exact dayshiftref01_Text.mono _ _)
      | (with_reducible exact LeO.refl _)
      | (with_reducible exact LeO.none _)
      | (with_reducible refine LeO.ite ?_ ?_)
      | (with_reducible refine LeO.bind ?_ (fun _ => ?_))
      | exact ih0 _ _ _ _ _ _ _ _ _ _ _
      | exact dayshiftref01_Digits.mono _ _ _
      | exact dayshiftref01_Text.mono _ _
      | exact LeO.none _
      | refine LeO.ite ?_ ?_
      | refine LeO.bind ?_ (fun _ => ?_)
def dayshiftref17_Text.T4 : Bool × List (List Nat × List Nat) := (true, [([], []), ([0], [0]), ([1], [1]), ([2], [2]), ([], []), ([4], [4]), ([5, 2], [5]), ([3, 6], [3, 6]), ([7], [7]), ([], []), ([8, 9], [8, 9]), ([10], [10]), ([], []), ([], []), ([13], [13]), ([12, 14], [12, 14]), ([15], [15]), ([11, 16], [11, 16]), ([17, 6, 0, 1, 2, 3, 4, 5, 6, 7, 8, 9, 10, 11, 12, 13, 14, 15, 16, 17], [17])])
def dayshiftref17_Text.B4 : List Nat := [0, 1, 3, 7, 0, 16, 55, 127, 255, 0, 1023, 2047, 0, 0, 8192, 28672, 61440, 131071, 262143]
theorem dayshiftref17_Text.tab4 : rtab .any (opsOf Try.f20 4) = dayshiftref17_Text.T4 := by kernel_rfl
theorem dayshiftref17_Text.bits4 : waitsOk dayshiftref17_Text.T4.2 dayshiftref17_Text.B4 = true := by kernel_rfl
set_option maxHeartbeats 8000000 in
set_option maxRecDepth 100000 in
theorem dayshiftref17_Text.calls (k : Nat) (a0_0 : Int) (a0_1 : Int) (a0_2 : Int) (a0_3 : Int) (a0_4 : Bool) (a0_5 : Bool) (a0_6 : Int) (a0_7 : Int) (a0_8 : Int) (a0_9 : Int) (r : ByteArray) (w : World) (h : dayshiftref17_Text.f k a0_0 a0_1 a0_2 a0_3 a0_4 a0_5 a0_6 a0_7 a0_8 a0_9 = some r) :
    Calls Try.prog 20 #[.agg #[.int .i64 a0_0, .int .i64 a0_1, .int .i64 a0_2, .int .i64 a0_3, .bool a0_4, .bool a0_5, .int .i64 a0_6, .int .i64 a0_7, .int .i64 a0_8, .int .i64 a0_9]] w fun e w' => e = .returned (.string r) ∧ Below w.heap.size w w' := by
  have hu23 := Try.underlying23
  have HB := Aside0.mk (Below.refl w.heap.size w)
  have H : ((ref17_Right.f a0_0 a0_1 a0_2 a0_3 a0_4 a0_5 a0_6 a0_7 a0_8 a0_9).bind fun t134 => (if t134 = true then ((dayshiftref01_Text.f k a0_2).bind fun bt135 => ((dayshiftref01_Digits.f k a0_0 1).bind fun t137 => (if t137.size + 1 ≤ 9223372036854775807 then ((dayshiftref01_Digits.f k a0_1 1).bind fun t138 => (if (t137 ++ (⟨#[32]⟩ : ByteArray)).size + t138.size ≤ 9223372036854775807 then (if ((t137 ++ (⟨#[32]⟩ : ByteArray)) ++ t138).size + 1 ≤ 9223372036854775807 then (if (((t137 ++ (⟨#[32]⟩ : ByteArray)) ++ t138) ++ (⟨#[32]⟩ : ByteArray)).size + bt135.1.size ≤ 9223372036854775807 then (if ((((t137 ++ (⟨#[32]⟩ : ByteArray)) ++ t138) ++ (⟨#[32]⟩ : ByteArray)) ++ bt135.1).size + 1 ≤ 9223372036854775807 then ((some (([(⟨#[119, 97, 105, 116]⟩ : ByteArray), (⟨#[114, 117, 110]⟩ : ByteArray), (⟨#[103, 111, 111, 100]⟩ : ByteArray), (⟨#[98, 97, 100]⟩ : ByteArray)] : List ByteArray) : List ByteArray)).bind fun y139 => (if 0 ≤ a0_3 then (if a0_3 < (y139.length : Int) then (if (((((t137 ++ (⟨#[32]⟩ : ByteArray)) ++ t138) ++ (⟨#[32]⟩ : ByteArray)) ++ bt135.1) ++ (⟨#[32]⟩ : ByteArray)).size + (rdOf ByteArray.empty y139 a0_3).size ≤ 9223372036854775807 then (if a0_4 = true then (if ((((((t137 ++ (⟨#[32]⟩ : ByteArray)) ++ t138) ++ (⟨#[32]⟩ : ByteArray)) ++ bt135.1) ++ (⟨#[32]⟩ : ByteArray)) ++ (rdOf ByteArray.empty y139 a0_3)).size + 5 ≤ 9223372036854775807 then (dayshiftref17_Text.j0 k (((((((t137 ++ (⟨#[32]⟩ : ByteArray)) ++ t138) ++ (⟨#[32]⟩ : ByteArray)) ++ bt135.1) ++ (⟨#[32]⟩ : ByteArray)) ++ (rdOf ByteArray.empty y139 a0_3)) ++ (⟨#[32, 104, 101, 108, 100]⟩ : ByteArray)) a0_0 a0_1 a0_2 a0_3 a0_4 a0_5 a0_6 a0_7 a0_8 a0_9) else (none)) else (dayshiftref17_Text.j0 k ((((((t137 ++ (⟨#[32]⟩ : ByteArray)) ++ t138) ++ (⟨#[32]⟩ : ByteArray)) ++ bt135.1) ++ (⟨#[32]⟩ : ByteArray)) ++ (rdOf ByteArray.empty y139 a0_3)) a0_0 a0_1 a0_2 a0_3 a0_4 a0_5 a0_6 a0_7 a0_8 a0_9)) else (none)) else (none)) else (none))) else (none)) else (none)) else (none)) else (none))) else (none)))) else (some (⟨#[]⟩ : ByteArray)))) = some r := h
  clear h
  replace H := Option.bind_eq_some_iff.mp H
  obtain ⟨t134, A20, H⟩ := H
  replace H : (if t134 = true then ((dayshiftref01_Text.f k a0_2).bind fun bt135 => ((dayshiftref01_Digits.f k a0_0 1).bind fun t137 => (if t137.size + 1 ≤ 9223372036854775807 then ((dayshiftref01_Digits.f k a0_1 1).bind fun t138 => (if (t137 ++ (⟨#[32]⟩ : ByteArray)).size + t138.size ≤ 9223372036854775807 then (if ((t137 ++ (⟨#[32]⟩ : ByteArray)) ++ t138).size + 1 ≤ 9223372036854775807 then (if (((t137 ++ (⟨#[32]⟩ : ByteArray)) ++ t138) ++ (⟨#[32]⟩ : ByteArray)).size + bt135.1.size ≤ 9223372036854775807 then (if ((((t137 ++ (⟨#[32]⟩ : ByteArray)) ++ t138) ++ (⟨#[32]⟩ : ByteArray)) ++ bt135.1).size + 1 ≤ 9223372036854775807 then ((some (([(⟨#[119, 97, 105, 116]⟩ : ByteArray), (⟨#[114, 117, 110]⟩ : ByteArray), (⟨#[103, 111, 111, 100]⟩ : ByteArray), (⟨#[98, 97, 100]⟩ : ByteArray)] : List ByteArray) : List ByteArray)).bind fun y139 => (if 0 ≤ a0_3 then (if a0_3 < (y139.length : Int) then (if (((((t137 ++ (⟨#[32]⟩ : ByteArray)) ++ t138) ++ (⟨#[32]⟩ : ByteArray)) ++ bt135.1) ++ (⟨#[32]⟩ : ByteArray)).size + (rdOf ByteArray.empty y139 a0_3).size ≤ 9223372036854775807 then (if a0_4 = true then (if ((((((t137 ++ (⟨#[32]⟩ : ByteArray)) ++ t138) ++ (⟨#[32]⟩ : ByteArray)) ++ bt135.1) ++ (⟨#[32]⟩ : ByteArray)) ++ (rdOf ByteArray.empty y139 a0_3)).size + 5 ≤ 9223372036854775807 then (dayshiftref17_Text.j0 k (((((((t137 ++ (⟨#[32]⟩ : ByteArray)) ++ t138) ++ (⟨#[32]⟩ : ByteArray)) ++ bt135.1) ++ (⟨#[32]⟩ : ByteArray)) ++ (rdOf ByteArray.empty y139 a0_3)) ++ (⟨#[32, 104, 101, 108, 100]⟩ : ByteArray)) a0_0 a0_1 a0_2 a0_3 a0_4 a0_5 a0_6 a0_7 a0_8 a0_9) else (none)) else (dayshiftref17_Text.j0 k ((((((t137 ++ (⟨#[32]⟩ : ByteArray)) ++ t138) ++ (⟨#[32]⟩ : ByteArray)) ++ bt135.1) ++ (⟨#[32]⟩ : ByteArray)) ++ (rdOf ByteArray.empty y139 a0_3)) a0_0 a0_1 a0_2 a0_3 a0_4 a0_5 a0_6 a0_7 a0_8 a0_9)) else (none)) else (none)) else (none))) else (none)) else (none)) else (none)) else (none))) else (none)))) else (some (⟨#[]⟩ : ByteArray))) = some r := H
  have A2 := Aside0.mk A20
  clear A20
  by_cases c3 : t134 = true
  · subst c3
    have H1 : ((dayshiftref01_Text.f k a0_2).bind fun bt135 => ((dayshiftref01_Digits.f k a0_0 1).bind fun t137 => (if t137.size + 1 ≤ 9223372036854775807 then ((dayshiftref01_Digits.f k a0_1 1).bind fun t138 => (if (t137 ++ (⟨#[32]⟩ : ByteArray)).size + t138.size ≤ 9223372036854775807 then (if ((t137 ++ (⟨#[32]⟩ : ByteArray)) ++ t138).size + 1 ≤ 9223372036854775807 then (if (((t137 ++ (⟨#[32]⟩ : ByteArray)) ++ t138) ++ (⟨#[32]⟩ : ByteArray)).size + bt135.1.size ≤ 9223372036854775807 then (if ((((t137 ++ (⟨#[32]⟩ : ByteArray)) ++ t138) ++ (⟨#[32]⟩ : ByteArray)) ++ bt135.1).size + 1 ≤ 9223372036854775807 then ((some (([(⟨#[119, 97, 105, 116]⟩ : ByteArray), (⟨#[114, 117, 110]⟩ : ByteArray), (⟨#[103, 111, 111, 100]⟩ : ByteArray), (⟨#[98, 97, 100]⟩ : ByteArray)] : List ByteArray) : List ByteArray)).bind fun y139 => (if 0 ≤ a0_3 then (if a0_3 < (y139.length : Int) then (if (((((t137 ++ (⟨#[32]⟩ : ByteArray)) ++ t138) ++ (⟨#[32]⟩ : ByteArray)) ++ bt135.1) ++ (⟨#[32]⟩ : ByteArray)).size + (rdOf ByteArray.empty y139 a0_3).size ≤ 9223372036854775807 then (if a0_4 = true then (if ((((((t137 ++ (⟨#[32]⟩ : ByteArray)) ++ t138) ++ (⟨#[32]⟩ : ByteArray)) ++ bt135.1) ++ (⟨#[32]⟩ : ByteArray)) ++ (rdOf ByteArray.empty y139 a0_3)).size + 5 ≤ 9223372036854775807 then (dayshiftref17_Text.j0 k (((((((t137 ++ (⟨#[32]⟩ : ByteArray)) ++ t138) ++ (⟨#[32]⟩ : ByteArray)) ++ bt135.1) ++ (⟨#[32]⟩ : ByteArray)) ++ (rdOf ByteArray.empty y139 a0_3)) ++ (⟨#[32, 104, 101, 108, 100]⟩ : ByteArray)) a0_0 a0_1 a0_2 a0_3 a0_4 a0_5 a0_6 a0_7 a0_8 a0_9) else (none)) else (dayshiftref17_Text.j0 k ((((((t137 ++ (⟨#[32]⟩ : ByteArray)) ++ t138) ++ (⟨#[32]⟩ : ByteArray)) ++ bt135.1) ++ (⟨#[32]⟩ : ByteArray)) ++ (rdOf ByteArray.empty y139 a0_3)) a0_0 a0_1 a0_2 a0_3 a0_4 a0_5 a0_6 a0_7 a0_8 a0_9)) else (none)) else (none)) else (none))) else (none)) else (none)) else (none)) else (none))) else (none)))) = some r := by rw [if_pos rfl] at H; exact H
    clear H
    have H := H1
    clear H1
    replace H := Option.bind_eq_some_iff.mp H
    obtain ⟨⟨t135, t136⟩, A40, H⟩ := H
    replace H : ((dayshiftref01_Digits.f k a0_0 1).bind fun t137 => (if t137.size + 1 ≤ 9223372036854775807 then ((dayshiftref01_Digits.f k a0_1 1).bind fun t138 => (if (t137 ++ (⟨#[32]⟩ : ByteArray)).size + t138.size ≤ 9223372036854775807 then (if ((t137 ++ (⟨#[32]⟩ : ByteArray)) ++ t138).size + 1 ≤ 9223372036854775807 then (if (((t137 ++ (⟨#[32]⟩ : ByteArray)) ++ t138) ++ (⟨#[32]⟩ : ByteArray)).size + t135.size ≤ 9223372036854775807 then (if ((((t137 ++ (⟨#[32]⟩ : ByteArray)) ++ t138) ++ (⟨#[32]⟩ : ByteArray)) ++ t135).size + 1 ≤ 9223372036854775807 then ((some (([(⟨#[119, 97, 105, 116]⟩ : ByteArray), (⟨#[114, 117, 110]⟩ : ByteArray), (⟨#[103, 111, 111, 100]⟩ : ByteArray), (⟨#[98, 97, 100]⟩ : ByteArray)] : List ByteArray) : List ByteArray)).bind fun y139 => (if 0 ≤ a0_3 then (if a0_3 < (y139.length : Int) then (if (((((t137 ++ (⟨#[32]⟩ : ByteArray)) ++ t138) ++ (⟨#[32]⟩ : ByteArray)) ++ t135) ++ (⟨#[32]⟩ : ByteArray)).size + (rdOf ByteArray.empty y139 a0_3).size ≤ 9223372036854775807 then (if a0_4 = true then (if ((((((t137 ++ (⟨#[32]⟩ : ByteArray)) ++ t138) ++ (⟨#[32]⟩ : ByteArray)) ++ t135) ++ (⟨#[32]⟩ : ByteArray)) ++ (rdOf ByteArray.empty y139 a0_3)).size + 5 ≤ 9223372036854775807 then (dayshiftref17_Text.j0 k (((((((t137 ++ (⟨#[32]⟩ : ByteArray)) ++ t138) ++ (⟨#[32]⟩ : ByteArray)) ++ t135) ++ (⟨#[32]⟩ : ByteArray)) ++ (rdOf ByteArray.empty y139 a0_3)) ++ (⟨#[32, 104, 101, 108, 100]⟩ : ByteArray)) a0_0 a0_1 a0_2 a0_3 a0_4 a0_5 a0_6 a0_7 a0_8 a0_9) else (none)) else (dayshiftref17_Text.j0 k ((((((t137 ++ (⟨#[32]⟩ : ByteArray)) ++ t138) ++ (⟨#[32]⟩ : ByteArray)) ++ t135) ++ (⟨#[32]⟩ : ByteArray)) ++ (rdOf ByteArray.empty y139 a0_3)) a0_0 a0_1 a0_2 a0_3 a0_4 a0_5 a0_6 a0_7 a0_8 a0_9)) else (none)) else (none)) else (none))) else (none)) else (none)) else (none)) else (none))) else (none))) = some r := H
    have A4 := Aside0.mk A40
    clear A40
    replace H := Option.bind_eq_some_iff.mp H
    obtain ⟨t137, A50, H⟩ := H
    replace H : (if t137.size + 1 ≤ 9223372036854775807 then ((dayshiftref01_Digits.f k a0_1 1).bind fun t138 => (if (t137 ++ (⟨#[32]⟩ : ByteArray)).size + t138.size ≤ 9223372036854775807 then (if ((t137 ++ (⟨#[32]⟩ : ByteArray)) ++ t138).size + 1 ≤ 9223372036854775807 then (if (((t137 ++ (⟨#[32]⟩ : ByteArray)) ++ t138) ++ (⟨#[32]⟩ : ByteArray)).size + t135.size ≤ 9223372036854775807 then (if ((((t137 ++ (⟨#[32]⟩ : ByteArray)) ++ t138) ++ (⟨#[32]⟩ : ByteArray)) ++ t135).size + 1 ≤ 9223372036854775807 then ((some (([(⟨#[119, 97, 105, 116]⟩ : ByteArray), (⟨#[114, 117, 110]⟩ : ByteArray), (⟨#[103, 111, 111, 100]⟩ : ByteArray), (⟨#[98, 97, 100]⟩ : ByteArray)] : List ByteArray) : List ByteArray)).bind fun y139 => (if 0 ≤ a0_3 then (if a0_3 < (y139.length : Int) then (if (((((t137 ++ (⟨#[32]⟩ : ByteArray)) ++ t138) ++ (⟨#[32]⟩ : ByteArray)) ++ t135) ++ (⟨#[32]⟩ : ByteArray)).size + (rdOf ByteArray.empty y139 a0_3).size ≤ 9223372036854775807 then (if a0_4 = true then (if ((((((t137 ++ (⟨#[32]⟩ : ByteArray)) ++ t138) ++ (⟨#[32]⟩ : ByteArray)) ++ t135) ++ (⟨#[32]⟩ : ByteArray)) ++ (rdOf ByteArray.empty y139 a0_3)).size + 5 ≤ 9223372036854775807 then (dayshiftref17_Text.j0 k (((((((t137 ++ (⟨#[32]⟩ : ByteArray)) ++ t138) ++ (⟨#[32]⟩ : ByteArray)) ++ t135) ++ (⟨#[32]⟩ : ByteArray)) ++ (rdOf ByteArray.empty y139 a0_3)) ++ (⟨#[32, 104, 101, 108, 100]⟩ : ByteArray)) a0_0 a0_1 a0_2 a0_3 a0_4 a0_5 a0_6 a0_7 a0_8 a0_9) else (none)) else (dayshiftref17_Text.j0 k ((((((t137 ++ (⟨#[32]⟩ : ByteArray)) ++ t138) ++ (⟨#[32]⟩ : ByteArray)) ++ t135) ++ (⟨#[32]⟩ : ByteArray)) ++ (rdOf ByteArray.empty y139 a0_3)) a0_0 a0_1 a0_2 a0_3 a0_4 a0_5 a0_6 a0_7 a0_8 a0_9)) else (none)) else (none)) else (none))) else (none)) else (none)) else (none)) else (none))) else (none)) = some r := H
    have A5 := Aside0.mk A50
    clear A50
    by_cases c6 : t137.size + 1 ≤ 9223372036854775807
    · rw [if_pos c6] at H
      have c6b0 := eq_true c6
      have c6b1 : decide (t137.size + 1 ≤ 9223372036854775807) = true := decide_eq_true c6
      try have c6b2 : (9223372036854775807 < t137.size + 1) = False := eq_false (Nat.not_lt.2 c6)
      replace H := Option.bind_eq_some_iff.mp H
      obtain ⟨t138, A70, H⟩ := H
      replace H : (if (t137 ++ (⟨#[32]⟩ : ByteArray)).size + t138.size ≤ 9223372036854775807 then (if ((t137 ++ (⟨#[32]⟩ : ByteArray)) ++ t138).size + 1 ≤ 9223372036854775807 then (if (((t137 ++ (⟨#[32]⟩ : ByteArray)) ++ t138) ++ (⟨#[32]⟩ : ByteArray)).size + t135.size ≤ 9223372036854775807 then (if ((((t137 ++ (⟨#[32]⟩ : ByteArray)) ++ t138) ++ (⟨#[32]⟩ : ByteArray)) ++ t135).size + 1 ≤ 9223372036854775807 then ((some (([(⟨#[119, 97, 105, 116]⟩ : ByteArray), (⟨#[114, 117, 110]⟩ : ByteArray), (⟨#[103, 111, 111, 100]⟩ : ByteArray), (⟨#[98, 97, 100]⟩ : ByteArray)] : List ByteArray) : List ByteArray)).bind fun y139 => (if 0 ≤ a0_3 then (if a0_3 < (y139.length : Int) then (if (((((t137 ++ (⟨#[32]⟩ : ByteArray)) ++ t138) ++ (⟨#[32]⟩ : ByteArray)) ++ t135) ++ (⟨#[32]⟩ : ByteArray)).size + (rdOf ByteArray.empty y139 a0_3).size ≤ 9223372036854775807 then (if a0_4 = true then (if ((((((t137 ++ (⟨#[32]⟩ : ByteArray)) ++ t138) ++ (⟨#[32]⟩ : ByteArray)) ++ t135) ++ (⟨#[32]⟩ : ByteArray)) ++ (rdOf ByteArray.empty y139 a0_3)).size + 5 ≤ 9223372036854775807 then (dayshiftref17_Text.j0 k (((((((t137 ++ (⟨#[32]⟩ : ByteArray)) ++ t138) ++ (⟨#[32]⟩ : ByteArray)) ++ t135) ++ (⟨#[32]⟩ : ByteArray)) ++ (rdOf ByteArray.empty y139 a0_3)) ++ (⟨#[32, 104, 101, 108, 100]⟩ : ByteArray)) a0_0 a0_1 a0_2 a0_3 a0_4 a0_5 a0_6 a0_7 a0_8 a0_9) else (none)) else (dayshiftref17_Text.j0 k ((((((t137 ++ (⟨#[32]⟩ : ByteArray)) ++ t138) ++ (⟨#[32]⟩ : ByteArray)) ++ t135) ++ (⟨#[32]⟩ : ByteArray)) ++ (rdOf ByteArray.empty y139 a0_3)) a0_0 a0_1 a0_2 a0_3 a0_4 a0_5 a0_6 a0_7 a0_8 a0_9)) else (none)) else (none)) else (none))) else (none)) else (none)) else (none)) else (none)) = some r := H
      have A7 := Aside0.mk A70
      clear A70
      by_cases c8 : (t137 ++ (⟨#[32]⟩ : ByteArray)).size + t138.size ≤ 9223372036854775807
      · rw [if_pos c8] at H
        have c8b0 := eq_true c8
        have c8b1 : decide ((t137 ++ (⟨#[32]⟩ : ByteArray)).size + t138.size ≤ 9223372036854775807) = true := decide_eq_true c8
        try have c8b2 : (9223372036854775807 < (t137 ++ (⟨#[32]⟩ : ByteArray)).size + t138.size) = False := eq_false (Nat.not_lt.2 c8)
        try (have c8b3 := c8; simp [ByteArray.size_append, show (⟨#[32]⟩ : ByteArray).size = 1 from rfl] at c8b3)
        try have c8b4 := eq_false (Nat.not_lt.2 c8b3)
        by_cases c9 : ((t137 ++ (⟨#[32]⟩ : ByteArray)) ++ t138).size + 1 ≤ 9223372036854775807
        · rw [if_pos c9] at H
          have c9b0 := eq_true c9
          have c9b1 : decide (((t137 ++ (⟨#[32]⟩ : ByteArray)) ++ t138).size + 1 ≤ 9223372036854775807) = true := decide_eq_true c9
          try have c9b2 : (9223372036854775807 < ((t137 ++ (⟨#[32]⟩ : ByteArray)) ++ t138).size + 1) = False := eq_false (Nat.not_lt.2 c9)
          try (have c9b3 := c9; simp [ByteArray.size_append, show (⟨#[32]⟩ : ByteArray).size = 1 from rfl] at c9b3)
          try have c9b4 := eq_false (Nat.not_lt.2 c9b3)
          by_cases c10 : (((t137 ++ (⟨#[32]⟩ : ByteArray)) ++ t138) ++ (⟨#[32]⟩ : ByteArray)).size + t135.size ≤ 9223372036854775807
          · rw [if_pos c10] at H
            have c10b0 := eq_true c10
            have c10b1 : decide ((((t137 ++ (⟨#[32]⟩ : ByteArray)) ++ t138) ++ (⟨#[32]⟩ : ByteArray)).size + t135.size ≤ 9223372036854775807) = true := decide_eq_true c10
            try have c10b2 : (9223372036854775807 < (((t137 ++ (⟨#[32]⟩ : ByteArray)) ++ t138) ++ (⟨#[32]⟩ : ByteArray)).size + t135.size) = False := eq_false (Nat.not_lt.2 c10)
            try (have c10b3 := c10; simp [ByteArray.size_append, show (⟨#[32]⟩ : ByteArray).size = 1 from rfl] at c10b3)
            try have c10b4 := eq_false (Nat.not_lt.2 c10b3)
            by_cases c11 : ((((t137 ++ (⟨#[32]⟩ : ByteArray)) ++ t138) ++ (⟨#[32]⟩ : ByteArray)) ++ t135).size + 1 ≤ 9223372036854775807
            · rw [if_pos c11] at H
              have c11b0 := eq_true c11
              have c11b1 : decide (((((t137 ++ (⟨#[32]⟩ : ByteArray)) ++ t138) ++ (⟨#[32]⟩ : ByteArray)) ++ t135).size + 1 ≤ 9223372036854775807) = true := decide_eq_true c11
              try have c11b2 : (9223372036854775807 < ((((t137 ++ (⟨#[32]⟩ : ByteArray)) ++ t138) ++ (⟨#[32]⟩ : ByteArray)) ++ t135).size + 1) = False := eq_false (Nat.not_lt.2 c11)
              try (have c11b3 := c11; simp [ByteArray.size_append, show (⟨#[32]⟩ : ByteArray).size = 1 from rfl] at c11b3)
              try have c11b4 := eq_false (Nat.not_lt.2 c11b3)
              obtain ⟨y139, hy139⟩ : ∃ y_ : List ByteArray, y_ = (([(⟨#[119, 97, 105, 116]⟩ : ByteArray), (⟨#[114, 117, 110]⟩ : ByteArray), (⟨#[103, 111, 111, 100]⟩ : ByteArray), (⟨#[98, 97, 100]⟩ : ByteArray)] : List ByteArray)) := ⟨_, rfl⟩
              replace H : (if 0 ≤ a0_3 then (if a0_3 < (y139.length : Int) then (if (((((t137 ++ (⟨#[32]⟩ : ByteArray)) ++ t138) ++ (⟨#[32]⟩ : ByteArray)) ++ t135) ++ (⟨#[32]⟩ : ByteArray)).size + (rdOf ByteArray.empty y139 a0_3).size ≤ 9223372036854775807 then (if a0_4 = true then (if ((((((t137 ++ (⟨#[32]⟩ : ByteArray)) ++ t138) ++ (⟨#[32]⟩ : ByteArray)) ++ t135) ++ (⟨#[32]⟩ : ByteArray)) ++ (rdOf ByteArray.empty y139 a0_3)).size + 5 ≤ 9223372036854775807 then (dayshiftref17_Text.j0 k (((((((t137 ++ (⟨#[32]⟩ : ByteArray)) ++ t138) ++ (⟨#[32]⟩ : ByteArray)) ++ t135) ++ (⟨#[32]⟩ : ByteArray)) ++ (rdOf ByteArray.empty y139 a0_3)) ++ (⟨#[32, 104, 101, 108, 100]⟩ : ByteArray)) a0_0 a0_1 a0_2 a0_3 a0_4 a0_5 a0_6 a0_7 a0_8 a0_9) else (none)) else (dayshiftref17_Text.j0 k ((((((t137 ++ (⟨#[32]⟩ : ByteArray)) ++ t138) ++ (⟨#[32]⟩ : ByteArray)) ++ t135) ++ (⟨#[32]⟩ : ByteArray)) ++ (rdOf ByteArray.empty y139 a0_3)) a0_0 a0_1 a0_2 a0_3 a0_4 a0_5 a0_6 a0_7 a0_8 a0_9)) else (none)) else (none)) else (none)) = some r := by first | (rw [hy139]; with_reducible exact H) | (have H2_ := (Option.bind_some _ _).symm.trans H; rw [hy139]; with_reducible exact H2_) | (have H2_ := (Option.bind_some _ _).symm.trans H; with_reducible exact H2_) | with_reducible exact H | (rw [hy139]; exact H) | exact H
              have Ny139 := Aside0.mk hy139
              clear hy139
              by_cases c12 : 0 ≤ a0_3
              · rw [if_pos c12] at H
                have c12b0 : decide (0 ≤ a0_3) = true := decide_eq_true c12
                clear c12
                by_cases c13 : a0_3 < (y139.length : Int)
                · rw [if_pos c13] at H
                  have c13b0 : decide (a0_3 < (y139.length : Int)) = true := decide_eq_true c13
                  clear c13
                  by_cases c14 : (((((t137 ++ (⟨#[32]⟩ : ByteArray)) ++ t138) ++ (⟨#[32]⟩ : ByteArray)) ++ t135) ++ (⟨#[32]⟩ : ByteArray)).size + (rdOf ByteArray.empty y139 a0_3).size ≤ 9223372036854775807
                  · rw [if_pos c14] at H
                    have c14b0 := eq_true c14
                    have c14b1 : decide ((((((t137 ++ (⟨#[32]⟩ : ByteArray)) ++ t138) ++ (⟨#[32]⟩ : ByteArray)) ++ t135) ++ (⟨#[32]⟩ : ByteArray)).size + (rdOf ByteArray.empty y139 a0_3).size ≤ 9223372036854775807) = true := decide_eq_true c14
                    try have c14b2 : (9223372036854775807 < (((((t137 ++ (⟨#[32]⟩ : ByteArray)) ++ t138) ++ (⟨#[32]⟩ : ByteArray)) ++ t135) ++ (⟨#[32]⟩ : ByteArray)).size + (rdOf ByteArray.empty y139 a0_3).size) = False := eq_false (Nat.not_lt.2 c14)
                    try (have c14b3 := c14; simp [ByteArray.size_append, show (⟨#[32]⟩ : ByteArray).size = 1 from rfl] at c14b3)
                    try have c14b4 := eq_false (Nat.not_lt.2 c14b3)
                    have HC15 := Aside0.mk H
                    clear H
                    go_enter Try.func20, Try.ntmps20
                    try go_wp2_with (first | ((with_reducible refine gate_dst (N := 1) rfl ?_); refine box_event ?hg (N := 1) ?hd (cs := #[.int .i64 a0_0, .int .i64 a0_1, .int .i64 a0_2, .int .i64 a0_3, .bool a0_4, .bool a0_5, .int .i64 a0_6, .int .i64 a0_7, .int .i64 a0_8, .int .i64 a0_9]) (t := 23) ?hr ?_; (case hd => rfl); (case hg => rfl); (case hr => first | (go_simp; done) | (go_simp; rfl)); intro gb133 hg w16 hbox hb; have n0_ := Aside0.mk (below_step (by repeat (first | (with_reducible first | exact HB.out | apply below_alloc | apply pw_below_drewN | apply below_drew1) | exact HB.out)) hb); have n1_ := Aside0.mk (hbox); have n2_ := Aside0.mk ((by rw [hg]; exact (below_size (by repeat (first | (with_reducible first | exact HB.out | apply below_alloc | apply pw_below_drewN | apply below_drew1) | exact HB.out))) : w.heap.size ≤ gb133)); have n3_ := Aside0.mk ((by rw [hg]; exact (below_size (by repeat (first | (with_reducible first | exact HB.out | apply below_alloc | apply pw_below_drewN | apply below_drew1) | exact HB.out))) : w.heap.size ≤ gb133)); clear HB; have HB := n0_; have BK133 := n1_; have GW133 := n2_; have GE133 := n3_; clear n0_ n1_ n2_ n3_; clear hb hbox hg; have hcz17_0 : w16.cell? ⟨gb133, 0, none⟩ = some (.int .i64 a0_0) := (blk_cell BK133.out 0).trans rfl; have hcz17_1 : w16.cell? ⟨gb133, 1, none⟩ = some (.int .i64 a0_1) := (blk_cell BK133.out 1).trans rfl; have hcz17_2 : w16.cell? ⟨gb133, 2, none⟩ = some (.int .i64 a0_2) := (blk_cell BK133.out 2).trans rfl; have hcz17_3 : w16.cell? ⟨gb133, 3, none⟩ = some (.int .i64 a0_3) := (blk_cell BK133.out 3).trans rfl; have hcz17_4 : w16.cell? ⟨gb133, 4, none⟩ = some (.bool a0_4) := (blk_cell BK133.out 4).trans rfl; have hcz17_5 : w16.cell? ⟨gb133, 5, none⟩ = some (.bool a0_5) := (blk_cell BK133.out 5).trans rfl; have hcz17_6 : w16.cell? ⟨gb133, 6, none⟩ = some (.int .i64 a0_6) := (blk_cell BK133.out 6).trans rfl; have hcz17_7 : w16.cell? ⟨gb133, 7, none⟩ = some (.int .i64 a0_7) := (blk_cell BK133.out 7).trans rfl; have hcz17_8 : w16.cell? ⟨gb133, 8, none⟩ = some (.int .i64 a0_8) := (blk_cell BK133.out 8).trans rfl; have hcz17_9 : w16.cell? ⟨gb133, 9, none⟩ = some (.int .i64 a0_9) := (blk_cell BK133.out 9).trans rfl; have hfz17_0 := blk_frozen BK133.out 0; have hfz17_1 := blk_frozen BK133.out 1; have hfz17_2 := blk_frozen BK133.out 2; have hfz17_3 := blk_frozen BK133.out 3; have hfz17_4 := blk_frozen BK133.out 4; have hfz17_5 := blk_frozen BK133.out 5; have hfz17_6 := blk_frozen BK133.out 6; have hfz17_7 := blk_frozen BK133.out 7; have hfz17_8 := blk_frozen BK133.out 8; have hfz17_9 := blk_frozen BK133.out 9) | ((with_reducible refine gate_callee (f := 17) rfl ?_); refine goesL_ (some 7) rfl rfl Try.func17 (by kernel_rfl) rfl #[.agg #[.int .i64 a0_0, .int .i64 a0_1, .int .i64 a0_2, .int .i64 a0_3, .bool a0_4, .bool a0_5, .int .i64 a0_6, .int .i64 a0_7, .int .i64 a0_8, .int .i64 a0_9]] rfl (by (try simp only [List.map_toArray, List.map_cons, List.map_nil]); first | done | rfl | (simp only [List.length_drop, List.length_take]; rfl)) ?_; (with_reducible refine (ref17_Right.calls a0_0 a0_1 a0_2 a0_3 a0_4 a0_5 a0_6 a0_7 a0_8 a0_9 true _ A2.out).mono ?_); rintro e w18 ⟨rfl, hb⟩; refine ⟨_, rfl, ?_⟩; have n0_ := Aside0.mk (blk_below (g := gb133) (o := .cells #[.int .i64 a0_0, .int .i64 a0_1, .int .i64 a0_2, .int .i64 a0_3, .bool a0_4, .bool a0_5, .int .i64 a0_6, .int .i64 a0_7, .int .i64 a0_8, .int .i64 a0_9] 23 (0, 0)) (by (with_reducible repeat (first | refine blk_drewN ?_ _ | refine blk_drew ?_ | refine blk_alloc ?_ _)); exact BK133.out) hb); have n1_ := Aside0.mk (below_step (by repeat (first | (with_reducible first | exact HB.out | apply below_alloc | apply pw_below_drewN | apply below_drew1 | refine below_set ?_ GE133.out) | exact HB.out)) hb); clear BK133; clear HB; have BK133 := n0_; have HB := n1_; clear n0_ n1_; (try clear hb); (try clear hb2); (try clear hk); (try clear hi); have hcz19_0 : w18.cell? ⟨gb133, 0, none⟩ = some (.int .i64 a0_0) := (blk_cell BK133.out 0).trans rfl; have hcz19_1 : w18.cell? ⟨gb133, 1, none⟩ = some (.int .i64 a0_1) := (blk_cell BK133.out 1).trans rfl; have hcz19_2 : w18.cell? ⟨gb133, 2, none⟩ = some (.int .i64 a0_2) := (blk_cell BK133.out 2).trans rfl; have hcz19_3 : w18.cell? ⟨gb133, 3, none⟩ = some (.int .i64 a0_3) := (blk_cell BK133.out 3).trans rfl; have hcz19_4 : w18.cell? ⟨gb133, 4, none⟩ = some (.bool a0_4) := (blk_cell BK133.out 4).trans rfl; have hcz19_5 : w18.cell? ⟨gb133, 5, none⟩ = some (.bool a0_5) := (blk_cell BK133.out 5).trans rfl; have hcz19_6 : w18.cell? ⟨gb133, 6, none⟩ = some (.int .i64 a0_6) := (blk_cell BK133.out 6).trans rfl; have hcz19_7 : w18.cell? ⟨gb133, 7, none⟩ = some (.int .i64 a0_7) := (blk_cell BK133.out 7).trans rfl; have hcz19_8 : w18.cell? ⟨gb133, 8, none⟩ = some (.int .i64 a0_8) := (blk_cell BK133.out 8).trans rfl; have hcz19_9 : w18.cell? ⟨gb133, 9, none⟩ = some (.int .i64 a0_9) := (blk_cell BK133.out 9).trans rfl; have hfz19_0 := blk_frozen BK133.out 0; have hfz19_1 := blk_frozen BK133.out 1; have hfz19_2 := blk_frozen BK133.out 2; have hfz19_3 := blk_frozen BK133.out 3; have hfz19_4 := blk_frozen BK133.out 4; have hfz19_5 := blk_frozen BK133.out 5; have hfz19_6 := blk_frozen BK133.out 6; have hfz19_7 := blk_frozen BK133.out 7; have hfz19_8 := blk_frozen BK133.out 8; have hfz19_9 := blk_frozen BK133.out 9) | ((with_reducible refine gate_callee (f := 53) rfl ?_); refine goesL_ (some 12) rfl rfl Try.func53 (by kernel_rfl) rfl #[.int .i64 a0_2] rfl (by (try simp only [List.map_toArray, List.map_cons, List.map_nil]); first | done | rfl | (simp only [List.length_drop, List.length_take]; rfl)) ?_; (with_reducible refine (dayshiftref01_Text.calls k a0_2 t135 t136 _ A4.out).mono ?_); rintro e w20 ⟨rfl, hb⟩; refine ⟨_, rfl, ?_⟩; have n0_ := Aside0.mk (blk_below (g := gb133) (o := .cells #[.int .i64 a0_0, .int .i64 a0_1, .int .i64 a0_2, .int .i64 a0_3, .bool a0_4, .bool a0_5, .int .i64 a0_6, .int .i64 a0_7, .int .i64 a0_8, .int .i64 a0_9] 23 (0, 0)) (by (with_reducible repeat (first | refine blk_drewN ?_ _ | refine blk_drew ?_ | refine blk_alloc ?_ _)); exact BK133.out) hb); have n1_ := Aside0.mk (below_step (by repeat (first | (with_reducible first | exact HB.out | apply below_alloc | apply pw_below_drewN | apply below_drew1 | refine below_set ?_ GE133.out) | exact HB.out)) hb); clear BK133; clear HB; have BK133 := n0_; have HB := n1_; clear n0_ n1_; (try clear hb); (try clear hb2); (try clear hk); (try clear hi)))
                    have pi142 : (0 ≤ (a0_3 : Int)) = True := eq_true (of_decide_eq_true (by first | (with_reducible assumption) | assumption))
                    have qi142 : (a0_3 < (y139.length : Int)) = True := eq_true (of_decide_eq_true (by first | (with_reducible assumption) | assumption))
                    have n0_ := Aside0.mk (blk_drew BK133.out)
                    have n1_ := Aside0.mk (below_drew1 HB.out)
                    clear BK133
                    clear HB
                    have BK133 := n0_
                    have HB := n1_
                    clear n0_ n1_
                    refine start_ (n := 19) (S := fun w' => True) (ds := []) #[false, false, false, false, false, false, false, false, false, false, false, false, false, false, false, false, false, false, false] (by kernel_rfl) rfl rfl trivial (fun hHeld => ?_); refine with_tabW dayshiftref17_Text.tab4 dayshiftref17_Text.bits4 (fun HT_ HW_ => ?_)
                    generalize w20.drew = w21 at BK133 HB hHeld ⊢
                    refine pure_ (i := 0) (N := some 15) (v := ?_) (a' := ?_) #[true, false, false, false, false, false, false, false, false, false, false, false, false, false, false, false, false, false, false] rfl rfl (any_of HT_.out (by kernel_rfl)) (fun _ _ _ h => h) (Or.inl ⟨by rfl, ?_⟩) ?_ ?_
                    rotate_left
                    · intro w'
                      go_simp
                      with_reducible rfl
                    rotate_left
                    · simp only [Act.put, List.setIfInBounds_toArray, List.set_cons_zero, List.set_cons_succ, i64_w, i32_w]
                      rfl
                    refine pure_ (i := 4) (N := some 19) (v := ?_) (a' := ?_) #[true, false, false, false, true, false, false, false, false, false, false, false, false, false, false, false, false, false, false] rfl rfl (any_of HT_.out (by kernel_rfl)) (fun _ _ _ h => h) (Or.inl ⟨by rfl, ?_⟩) ?_ ?_
                    rotate_left
                    · intro w'
                      go_simp
                      with_reducible rfl
                    rotate_left
                    · simp only [Act.put, List.setIfInBounds_toArray, List.set_cons_zero, List.set_cons_succ, i64_w, i32_w]
                      rfl
                    refine pure_ (i := 9) (N := some 24) (v := ?_) (a' := ?_) #[true, false, false, false, true, false, false, false, false, true, false, false, false, false, false, false, false, false, false] rfl rfl (any_of HT_.out (by kernel_rfl)) (fun _ _ _ h => h) (Or.inl ⟨by rfl, ?_⟩) ?_ ?_
                    rotate_left
                    · intro w'
                      go_simp
                      with_reducible rfl
                    rotate_left
                    · simp only [Act.put, List.setIfInBounds_toArray, List.set_cons_zero, List.set_cons_succ, i64_w, i32_w]
                      rfl
                    refine pure_ (i := 13) (N := some 28) (v := ?_) (a' := ?_) #[true, false, false, false, true, false, false, false, false, true, false, false, false, true, false, false, false, false, false] rfl rfl (any_of HT_.out (by kernel_rfl)) (fun _ _ _ h => h) (Or.inl ⟨by rfl, ?_⟩) ?_ ?_
                    rotate_left
                    · intro w'
                      go_simp
                      with_reducible rfl
                    rotate_left
                    · simp only [Act.put, List.setIfInBounds_toArray, List.set_cons_zero, List.set_cons_succ, i64_w, i32_w]
                      rfl
                    refine inv_at [1, 2, 3, 5, 6, 7, 8, 10, 11, 12, 14, 15, 16, 17, 18] (fun a0_ b a w' => ∃ (v140 : Value) (adz_v140 : Addr) (m15_ : Value), a = putSel a0_ b [(1, 16, .int .i64 a0_0), (2, 17, .string t137), (3, 18, .string (t137 ++ (⟨#[32]⟩ : ByteArray))), (5, 20, .int .i64 a0_1), (6, 21, .string t138), (7, 22, .string ((t137 ++ (⟨#[32]⟩ : ByteArray)) ++ t138)), (8, 23, .string (((t137 ++ (⟨#[32]⟩ : ByteArray)) ++ t138) ++ (⟨#[32]⟩ : ByteArray))), (10, 25, .string ((((t137 ++ (⟨#[32]⟩ : ByteArray)) ++ t138) ++ (⟨#[32]⟩ : ByteArray)) ++ t135)), (11, 26, .string (((((t137 ++ (⟨#[32]⟩ : ByteArray)) ++ t138) ++ (⟨#[32]⟩ : ByteArray)) ++ t135) ++ (⟨#[32]⟩ : ByteArray))), (12, 27, v140), (14, 29, .int .i64 a0_3), (15, 30, m15_), (16, 31, .string (rdOf ByteArray.empty y139 a0_3)), (17, 32, .string ((((((t137 ++ (⟨#[32]⟩ : ByteArray)) ++ t138) ++ (⟨#[32]⟩ : ByteArray)) ++ t135) ++ (⟨#[32]⟩ : ByteArray)) ++ (rdOf ByteArray.empty y139 a0_3))), (18, 5, .string ((((((t137 ++ (⟨#[32]⟩ : ByteArray)) ++ t138) ++ (⟨#[32]⟩ : ByteArray)) ++ t135) ++ (⟨#[32]⟩ : ByteArray)) ++ (rdOf ByteArray.empty y139 a0_3)))] ∧ (w'.heap[gb133]? = some (.cells #[.int .i64 a0_0, .int .i64 a0_1, .int .i64 a0_2, .int .i64 a0_3, .bool a0_4, .bool a0_5, .int .i64 a0_6, .int .i64 a0_7, .int .i64 a0_8, .int .i64 a0_9] 23 (0, 0))) ∧ (Below w.heap.size w w') ∧ (b 12 = true → Kd.R Kd.string 9 w' w.heap.size (fun _ => True) v140 y139) ∧ (b 12 = true → ∃ c_, (v140 : Value) = .slice (some adz_v140) y139.length c_) ∧ (b 15 = true → (m15_ : Value) = .pointer (some (adz_v140.add (a0_3).toNat)))) HT_.out HW_.out (by kernel_rfl) (by kernel_rfl) ?_ ?_ ?_
                    · exact ⟨.bool false, ⟨0, 0, none⟩, .bool false, by simp only [putSel, Bool.false_eq_true, if_false], BK133.out, HB.out, fun h_ => absurd h_ (by decide), fun h_ => absurd h_ (by decide), fun h_ => absurd h_ (by decide)⟩
                    · skip
                      clear BK133 HB
                      refine steps_cons ?_ ?_
                      · rintro b a w' ⟨v140, adz_v140, m15_, ha, Q_BK133, Q_HB, Q_HO141, Q_HA_HO141, Q_X15_⟩ hb_ hon hoff
                        refine ⟨_, rfl, fun K hK => ?_⟩
                        have e15 : a.tmps[15]? = some (.pointer (some ⟨gb133, 0, none⟩)) := by rw [ha]; exact (putSel_off rfl).trans rfl
                        replace ha := Aside0.mk ha
                        have BK133 := Aside0.mk Q_BK133
                        have HB := Aside0.mk Q_HB
                        have hc0_ : w'.cell? ⟨gb133, 0, none⟩ = some (.int .i64 a0_0) := (blk_cell BK133.out 0).trans rfl
                        have hc1_ : w'.cell? ⟨gb133, 1, none⟩ = some (.int .i64 a0_1) := (blk_cell BK133.out 1).trans rfl
                        have hc2_ : w'.cell? ⟨gb133, 2, none⟩ = some (.int .i64 a0_2) := (blk_cell BK133.out 2).trans rfl
                        have hc3_ : w'.cell? ⟨gb133, 3, none⟩ = some (.int .i64 a0_3) := (blk_cell BK133.out 3).trans rfl
                        have hc4_ : w'.cell? ⟨gb133, 4, none⟩ = some (.bool a0_4) := (blk_cell BK133.out 4).trans rfl
                        have hc5_ : w'.cell? ⟨gb133, 5, none⟩ = some (.bool a0_5) := (blk_cell BK133.out 5).trans rfl
                        have hc6_ : w'.cell? ⟨gb133, 6, none⟩ = some (.int .i64 a0_6) := (blk_cell BK133.out 6).trans rfl
                        have hc7_ : w'.cell? ⟨gb133, 7, none⟩ = some (.int .i64 a0_7) := (blk_cell BK133.out 7).trans rfl
                        have hc8_ : w'.cell? ⟨gb133, 8, none⟩ = some (.int .i64 a0_8) := (blk_cell BK133.out 8).trans rfl
                        have hc9_ : w'.cell? ⟨gb133, 9, none⟩ = some (.int .i64 a0_9) := (blk_cell BK133.out 9).trans rfl
                        refine value_ (w1 := w') (v := .int .i64 a0_0) (by rfl) rfl ?_ ?_
                        · go_simp
                          (try simp only [i64_w])
                          try rfl
                        refine hK.out _ _ ⟨v140, adz_v140, m15_, (by rw [ha.out]; exact putSel_upk 0 hb_ rfl rfl rfl), Q_BK133, Q_HB, Q_HO141, Q_HA_HO141, Q_X15_⟩
                      refine steps_cons ?_ ?_
                      · rintro b a w' ⟨v140, adz_v140, m15_, ha, Q_BK133, Q_HB, Q_HO141, Q_HA_HO141, Q_X15_⟩ hb_ hon hoff
                        refine ⟨_, rfl, fun K hK => ?_⟩
                        have e16 : a.tmps[16]? = some (.int .i64 a0_0) := by rw [ha]; exact putSel_on (e := (1, 16, .int .i64 a0_0)) 0 rfl rfl (hon 1 (by kernel_rfl)) rfl
                        replace ha := Aside0.mk ha
                        have BK133 := Aside0.mk Q_BK133
                        have HB := Aside0.mk Q_HB
                        refine goes_ Try.func54 (by kernel_rfl) rfl #[.int .i64 a0_0, .int .i64 1] (by rfl) rfl rfl (by first | (simp only [List.map_toArray, List.map_cons, List.map_nil, Act.eval, Array.getD_eq_getD_getElem?, Option.getD_some, e16]; done) | (simp only [List.map_toArray, List.map_cons, List.map_nil, Act.eval, Array.getD_eq_getD_getElem?, Option.getD_some, e16]; rfl)) ?_
                        with_reducible refine (dayshiftref01_Digits.calls k a0_0 1 t137 _ A5.out).mono ?_
                        rintro e w22 ⟨rfl, hb⟩
                        refine ⟨_, rfl, ?_⟩
                        have n0_ := Aside0.mk (blk_below (g := gb133) (o := .cells #[.int .i64 a0_0, .int .i64 a0_1, .int .i64 a0_2, .int .i64 a0_3, .bool a0_4, .bool a0_5, .int .i64 a0_6, .int .i64 a0_7, .int .i64 a0_8, .int .i64 a0_9] 23 (0, 0)) (by (with_reducible repeat (first | refine blk_drewN ?_ _ | refine blk_drew ?_ | refine blk_alloc ?_ _)); exact BK133.out) hb)
                        have n1_ := Aside0.mk (below_step (by repeat (first | (with_reducible first | exact HB.out | apply below_alloc | apply pw_below_drewN | apply below_drew1 | refine below_set ?_ GE133.out) | exact HB.out)) hb)
                        have z_HO141 := fun (h0_ : b 12 = true) => (show Kd.R Kd.string 9 w22 w.heap.size (fun _ => True) v140 y139 from by first | exact (Kd.R_below (by (with_reducible repeat (first | apply Kd.R_alloc | apply Kd.R_drewN | apply Kd.R_drew)); exact (Q_HO141 h0_)) hb) | exact Kd.R_mono (Kd.R_below (by (with_reducible repeat (first | apply Kd.R_alloc | apply Kd.R_drewN | apply Kd.R_drew)); exact (Q_HO141 h0_)) hb) (fun _ h_ => by first | trivial | exact h_ | exact h_.1))
                        clear BK133
                        clear HB
                        have BK133 := n0_
                        have HB := n1_
                        clear n0_ n1_
                        (try clear hb)
                        (try clear hb2)
                        (try clear hk)
                        (try clear hi)
                        refine hK.out _ _ ⟨v140, adz_v140, m15_, (by rw [ha.out]; exact putSel_upk 1 hb_ rfl rfl rfl), (by (with_reducible repeat (first | refine blk_drewN ?_ _ | refine blk_drew ?_ | refine blk_alloc ?_ _)); exact BK133.out), (by repeat (first | (with_reducible first | exact HB.out | apply below_alloc | apply pw_below_drewN | apply below_drew1 | refine below_set ?_ GE133.out) | exact HB.out)), z_HO141, Q_HA_HO141, Q_X15_⟩
                      refine steps_cons ?_ ?_
                      · rintro b a w' ⟨v140, adz_v140, m15_, ha, Q_BK133, Q_HB, Q_HO141, Q_HA_HO141, Q_X15_⟩ hb_ hon hoff
                        refine ⟨_, rfl, fun K hK => ?_⟩
                        have e17 : a.tmps[17]? = some (.string t137) := by rw [ha]; exact putSel_on (e := (2, 17, .string t137)) 1 rfl rfl (hon 2 (by kernel_rfl)) rfl
                        replace ha := Aside0.mk ha
                        have BK133 := Aside0.mk Q_BK133
                        have HB := Aside0.mk Q_HB
                        refine value_ (w1 := w') (v := .string (t137 ++ (⟨#[32]⟩ : ByteArray))) (by rfl) rfl ?_ ?_
                        · go_simp
                          (try simp only [i64_w])
                          try rfl
                        refine hK.out _ _ ⟨v140, adz_v140, m15_, (by rw [ha.out]; exact putSel_upk 2 hb_ rfl rfl rfl), Q_BK133, Q_HB, Q_HO141, Q_HA_HO141, Q_X15_⟩
                      refine steps_cons ?_ ?_
                      · rintro b a w' ⟨v140, adz_v140, m15_, ha, Q_BK133, Q_HB, Q_HO141, Q_HA_HO141, Q_X15_⟩ hb_ hon hoff
                        refine ⟨_, rfl, fun K hK => ?_⟩
                        have e19 : a.tmps[19]? = some (.pointer (some ⟨gb133, 1, none⟩)) := by rw [ha]; exact (putSel_off rfl).trans rfl
                        replace ha := Aside0.mk ha
                        have BK133 := Aside0.mk Q_BK133
                        have HB := Aside0.mk Q_HB
                        have hc0_ : w'.cell? ⟨gb133, 0, none⟩ = some (.int .i64 a0_0) := (blk_cell BK133.out 0).trans rfl
                        have hc1_ : w'.cell? ⟨gb133, 1, none⟩ = some (.int .i64 a0_1) := (blk_cell BK133.out 1).trans rfl
                        have hc2_ : w'.cell? ⟨gb133, 2, none⟩ = some (.int .i64 a0_2) := (blk_cell BK133.out 2).trans rfl
                        have hc3_ : w'.cell? ⟨gb133, 3, none⟩ = some (.int .i64 a0_3) := (blk_cell BK133.out 3).trans rfl
                        have hc4_ : w'.cell? ⟨gb133, 4, none⟩ = some (.bool a0_4) := (blk_cell BK133.out 4).trans rfl
                        have hc5_ : w'.cell? ⟨gb133, 5, none⟩ = some (.bool a0_5) := (blk_cell BK133.out 5).trans rfl
                        have hc6_ : w'.cell? ⟨gb133, 6, none⟩ = some (.int .i64 a0_6) := (blk_cell BK133.out 6).trans rfl
                        have hc7_ : w'.cell? ⟨gb133, 7, none⟩ = some (.int .i64 a0_7) := (blk_cell BK133.out 7).trans rfl
                        have hc8_ : w'.cell? ⟨gb133, 8, none⟩ = some (.int .i64 a0_8) := (blk_cell BK133.out 8).trans rfl
                        have hc9_ : w'.cell? ⟨gb133, 9, none⟩ = some (.int .i64 a0_9) := (blk_cell BK133.out 9).trans rfl
                        refine value_ (w1 := w') (v := .int .i64 a0_1) (by rfl) rfl ?_ ?_
                        · go_simp
                          (try simp only [i64_w])
                          try rfl
                        refine hK.out _ _ ⟨v140, adz_v140, m15_, (by rw [ha.out]; exact putSel_upk 3 hb_ rfl rfl rfl), Q_BK133, Q_HB, Q_HO141, Q_HA_HO141, Q_X15_⟩
                      refine steps_cons ?_ ?_
                      · rintro b a w' ⟨v140, adz_v140, m15_, ha, Q_BK133, Q_HB, Q_HO141, Q_HA_HO141, Q_X15_⟩ hb_ hon hoff
                        refine ⟨_, rfl, fun K hK => ?_⟩
                        have e20 : a.tmps[20]? = some (.int .i64 a0_1) := by rw [ha]; exact putSel_on (e := (5, 20, .int .i64 a0_1)) 3 rfl rfl (hon 5 (by kernel_rfl)) rfl
                        replace ha := Aside0.mk ha
                        have BK133 := Aside0.mk Q_BK133
                        have HB := Aside0.mk Q_HB
                        refine goes_ Try.func54 (by kernel_rfl) rfl #[.int .i64 a0_1, .int .i64 1] (by rfl) rfl rfl (by first | (simp only [List.map_toArray, List.map_cons, List.map_nil, Act.eval, Array.getD_eq_getD_getElem?, Option.getD_some, e20]; done) | (simp only [List.map_toArray, List.map_cons, List.map_nil, Act.eval, Array.getD_eq_getD_getElem?, Option.getD_some, e20]; rfl)) ?_
                        with_reducible refine (dayshiftref01_Digits.calls k a0_1 1 t138 _ A7.out).mono ?_
                        rintro e w24 ⟨rfl, hb⟩
                        refine ⟨_, rfl, ?_⟩
                        have n0_ := Aside0.mk (blk_below (g := gb133) (o := .cells #[.int .i64 a0_0, .int .i64 a0_1, .int .i64 a0_2, .int .i64 a0_3, .bool a0_4, .bool a0_5, .int .i64 a0_6, .int .i64 a0_7, .int .i64 a0_8, .int .i64 a0_9] 23 (0, 0)) (by (with_reducible repeat (first | refine blk_drewN ?_ _ | refine blk_drew ?_ | refine blk_alloc ?_ _)); exact BK133.out) hb)
                        have n1_ := Aside0.mk (below_step (by repeat (first | (with_reducible first | exact HB.out | apply below_alloc | apply pw_below_drewN | apply below_drew1 | refine below_set ?_ GE133.out) | exact HB.out)) hb)
                        have z_HO141 := fun (h0_ : b 12 = true) => (show Kd.R Kd.string 9 w24 w.heap.size (fun _ => True) v140 y139 from by first | exact (Kd.R_below (by (with_reducible repeat (first | apply Kd.R_alloc | apply Kd.R_drewN | apply Kd.R_drew)); exact (Q_HO141 h0_)) hb) | exact Kd.R_mono (Kd.R_below (by (with_reducible repeat (first | apply Kd.R_alloc | apply Kd.R_drewN | apply Kd.R_drew)); exact (Q_HO141 h0_)) hb) (fun _ h_ => by first | trivial | exact h_ | exact h_.1))
                        clear BK133
                        clear HB
                        have BK133 := n0_
                        have HB := n1_
                        clear n0_ n1_
                        (try clear hb)
                        (try clear hb2)
                        (try clear hk)
                        (try clear hi)
                        refine hK.out _ _ ⟨v140, adz_v140, m15_, (by rw [ha.out]; exact putSel_upk 4 hb_ rfl rfl rfl), (by (with_reducible repeat (first | refine blk_drewN ?_ _ | refine blk_drew ?_ | refine blk_alloc ?_ _)); exact BK133.out), (by repeat (first | (with_reducible first | exact HB.out | apply below_alloc | apply pw_below_drewN | apply below_drew1 | refine below_set ?_ GE133.out) | exact HB.out)), z_HO141, Q_HA_HO141, Q_X15_⟩
                      refine steps_cons ?_ ?_
                      · rintro b a w' ⟨v140, adz_v140, m15_, ha, Q_BK133, Q_HB, Q_HO141, Q_HA_HO141, Q_X15_⟩ hb_ hon hoff
                        refine ⟨_, rfl, fun K hK => ?_⟩
                        have e18 : a.tmps[18]? = some (.string (t137 ++ (⟨#[32]⟩ : ByteArray))) := by rw [ha]; exact putSel_on (e := (3, 18, .string (t137 ++ (⟨#[32]⟩ : ByteArray)))) 2 rfl rfl (hon 3 (by kernel_rfl)) rfl
                        have e21 : a.tmps[21]? = some (.string t138) := by rw [ha]; exact putSel_on (e := (6, 21, .string t138)) 4 rfl rfl (hon 6 (by kernel_rfl)) rfl
                        replace ha := Aside0.mk ha
                        have BK133 := Aside0.mk Q_BK133
                        have HB := Aside0.mk Q_HB
                        refine value_ (w1 := w') (v := .string ((t137 ++ (⟨#[32]⟩ : ByteArray)) ++ t138)) (by rfl) rfl ?_ ?_
                        · go_simp
                          (try simp only [i64_w])
                          try rfl
                        refine hK.out _ _ ⟨v140, adz_v140, m15_, (by rw [ha.out]; exact putSel_upk 5 hb_ rfl rfl rfl), Q_BK133, Q_HB, Q_HO141, Q_HA_HO141, Q_X15_⟩
                      refine steps_cons ?_ ?_
                      · rintro b a w' ⟨v140, adz_v140, m15_, ha, Q_BK133, Q_HB, Q_HO141, Q_HA_HO141, Q_X15_⟩ hb_ hon hoff
                        refine ⟨_, rfl, fun K hK => ?_⟩
                        have e22 : a.tmps[22]? = some (.string ((t137 ++ (⟨#[32]⟩ : ByteArray)) ++ t138)) := by rw [ha]; exact putSel_on (e := (7, 22, .string ((t137 ++ (⟨#[32]⟩ : ByteArray)) ++ t138))) 5 rfl rfl (hon 7 (by kernel_rfl)) rfl
                        replace ha := Aside0.mk ha
                        have BK133 := Aside0.mk Q_BK133
                        have HB := Aside0.mk Q_HB
                        refine value_ (w1 := w') (v := .string (((t137 ++ (⟨#[32]⟩ : ByteArray)) ++ t138) ++ (⟨#[32]⟩ : ByteArray))) (by rfl) rfl ?_ ?_
                        · go_simp
                          (try simp only [i64_w])
                          try rfl
                        refine hK.out _ _ ⟨v140, adz_v140, m15_, (by rw [ha.out]; exact putSel_upk 6 hb_ rfl rfl rfl), Q_BK133, Q_HB, Q_HO141, Q_HA_HO141, Q_X15_⟩
                      refine steps_cons ?_ ?_
                      · rintro b a w' ⟨v140, adz_v140, m15_, ha, Q_BK133, Q_HB, Q_HO141, Q_HA_HO141, Q_X15_⟩ hb_ hon hoff
                        refine ⟨_, rfl, fun K hK => ?_⟩
                        have e23 : a.tmps[23]? = some (.string (((t137 ++ (⟨#[32]⟩ : ByteArray)) ++ t138) ++ (⟨#[32]⟩ : ByteArray))) := by rw [ha]; exact putSel_on (e := (8, 23, .string (((t137 ++ (⟨#[32]⟩ : ByteArray)) ++ t138) ++ (⟨#[32]⟩ : ByteArray)))) 6 rfl rfl (hon 8 (by kernel_rfl)) rfl
                        have e24 : a.tmps[24]? = some (.string t135) := by rw [ha]; exact (putSel_off rfl).trans rfl
                        replace ha := Aside0.mk ha
                        have BK133 := Aside0.mk Q_BK133
                        have HB := Aside0.mk Q_HB
                        refine value_ (w1 := w') (v := .string ((((t137 ++ (⟨#[32]⟩ : ByteArray)) ++ t138) ++ (⟨#[32]⟩ : ByteArray)) ++ t135)) (by rfl) rfl ?_ ?_
                        · go_simp
                          (try simp only [i64_w])
                          try rfl
                        refine hK.out _ _ ⟨v140, adz_v140, m15_, (by rw [ha.out]; exact putSel_upk 7 hb_ rfl rfl rfl), Q_BK133, Q_HB, Q_HO141, Q_HA_HO141, Q_X15_⟩
                      refine steps_cons ?_ ?_
                      · rintro b a w' ⟨v140, adz_v140, m15_, ha, Q_BK133, Q_HB, Q_HO141, Q_HA_HO141, Q_X15_⟩ hb_ hon hoff
                        refine ⟨_, rfl, fun K hK => ?_⟩
                        have e25 : a.tmps[25]? = some (.string ((((t137 ++ (⟨#[32]⟩ : ByteArray)) ++ t138) ++ (⟨#[32]⟩ : ByteArray)) ++ t135)) := by rw [ha]; exact putSel_on (e := (10, 25, .string ((((t137 ++ (⟨#[32]⟩ : ByteArray)) ++ t138) ++ (⟨#[32]⟩ : ByteArray)) ++ t135))) 7 rfl rfl (hon 10 (by kernel_rfl)) rfl
                        replace ha := Aside0.mk ha
                        have BK133 := Aside0.mk Q_BK133
                        have HB := Aside0.mk Q_HB
                        refine value_ (w1 := w') (v := .string (((((t137 ++ (⟨#[32]⟩ : ByteArray)) ++ t138) ++ (⟨#[32]⟩ : ByteArray)) ++ t135) ++ (⟨#[32]⟩ : ByteArray))) (by rfl) rfl ?_ ?_
                        · go_simp
                          (try simp only [i64_w])
                          try rfl
                        refine hK.out _ _ ⟨v140, adz_v140, m15_, (by rw [ha.out]; exact putSel_upk 8 hb_ rfl rfl rfl), Q_BK133, Q_HB, Q_HO141, Q_HA_HO141, Q_X15_⟩
                      refine steps_cons ?_ ?_
                      · rintro b a w' ⟨v140, adz_v140, m15_, ha, Q_BK133, Q_HB, Q_HO141, Q_HA_HO141, Q_X15_⟩ hb_ hon hoff
                        refine ⟨_, rfl, fun K hK => ?_⟩
                        replace ha := Aside0.mk ha
                        have BK133 := Aside0.mk Q_BK133
                        have HB := Aside0.mk Q_HB
                        refine Kd.R_lit_step Kd.string _ 9 ?hg (N := 27) ?hd (xs := ([(⟨#[119, 97, 105, 116]⟩ : ByteArray), (⟨#[114, 117, 110]⟩ : ByteArray), (⟨#[103, 111, 111, 100]⟩ : ByteArray), (⟨#[98, 97, 100]⟩ : ByteArray)] : List ByteArray)) (inner := [.string (⟨#[119, 97, 105, 116]⟩ : ByteArray), .string (⟨#[114, 117, 110]⟩ : ByteArray), .string (⟨#[103, 111, 111, 100]⟩ : ByteArray), .string (⟨#[98, 97, 100]⟩ : ByteArray)]) (ok := fun _ => True) (okp := fun _ => True) ?hr ?hp (fun _ hk => hk) trivial (Below.refl _ _) (Nat.le_refl _) (by simp) ?_; (case hd => rfl); (case hg => rfl); (case hr => first | (go_simp; done) | (go_simp; rfl)); (case hp => exact (Reps.one (show Kd.M Kd.string _ _ _ (⟨#[119, 97, 105, 116]⟩ : ByteArray) [.string (⟨#[119, 97, 105, 116]⟩ : ByteArray)] from rfl) (Reps.one (show Kd.M Kd.string _ _ _ (⟨#[114, 117, 110]⟩ : ByteArray) [.string (⟨#[114, 117, 110]⟩ : ByteArray)] from rfl) (Reps.one (show Kd.M Kd.string _ _ _ (⟨#[103, 111, 111, 100]⟩ : ByteArray) [.string (⟨#[103, 111, 111, 100]⟩ : ByteArray)] from rfl) (Reps.one (show Kd.M Kd.string _ _ _ (⟨#[98, 97, 100]⟩ : ByteArray) [.string (⟨#[98, 97, 100]⟩ : ByteArray)] from rfl) (Reps.none _ _))))))
                        intro v140 w22 ho23 hb hg_ hnew_
                        clear hg_ hnew_
                        (first | rw [← Ny139.out] at ho23 | (simp only [Int.reduceToNat] at ho23; rw [← Ny139.out] at ho23))
                        have n0_ := Aside0.mk (Kd.R_lower ho23 (below_size (by repeat (first | (with_reducible first | exact HB.out | apply below_alloc | apply pw_below_drewN | apply below_drew1 | refine below_set ?_ GE133.out) | exact HB.out))))
                        have n1_ := Aside0.mk (blk_below (g := gb133) (o := .cells #[.int .i64 a0_0, .int .i64 a0_1, .int .i64 a0_2, .int .i64 a0_3, .bool a0_4, .bool a0_5, .int .i64 a0_6, .int .i64 a0_7, .int .i64 a0_8, .int .i64 a0_9] 23 (0, 0)) (by (with_reducible repeat (first | refine blk_drewN ?_ _ | refine blk_drew ?_ | refine blk_alloc ?_ _)); exact BK133.out) hb)
                        have n2_ := Aside0.mk (below_step (by repeat (first | (with_reducible first | exact HB.out | apply below_alloc | apply pw_below_drewN | apply below_drew1 | refine below_set ?_ GE133.out) | exact HB.out)) hb)
                        clear BK133
                        clear HB
                        have HO141 := n0_
                        have BK133 := n1_
                        have HB := n2_
                        clear n0_ n1_ n2_
                        clear hb ho23
                        obtain ⟨Ao24, co24, eo24⟩ := Kd.R_slice HO141.out
                        subst eo24
                        obtain ⟨ado24, fo24, _⟩ := Kd.at_string (Kd.R_reads' HO141.out).2.2 0 (by decide) (by rw [Ny139.out]; simp)
                        cases fo24
                        refine hK.out _ _ ⟨.slice (some ado24) y139.length co24, ado24, m15_, (by rw [ha.out]; exact putSel_upk 9 hb_ rfl rfl rfl), (by (with_reducible repeat (first | refine blk_drewN ?_ _ | refine blk_drew ?_ | refine blk_alloc ?_ _)); exact BK133.out), (by repeat (first | (with_reducible first | exact HB.out | apply below_alloc | apply pw_below_drewN | apply below_drew1 | refine below_set ?_ GE133.out) | exact HB.out)), fun _ => (by (with_reducible repeat (first | apply Kd.R_alloc | apply Kd.R_drewN | apply Kd.R_drew)); exact HO141.out), fun _ => ⟨_, rfl⟩, fun h0_ => absurd ((hoff 15 (by kernel_rfl)).symm.trans h0_) (by decide)⟩
                      refine steps_cons ?_ ?_
                      · rintro b a w' ⟨v140, adz_v140, m15_, ha, Q_BK133, Q_HB, Q_HO141, Q_HA_HO141, Q_X15_⟩ hb_ hon hoff
                        refine ⟨_, rfl, fun K hK => ?_⟩
                        have e28 : a.tmps[28]? = some (.pointer (some ⟨gb133, 3, none⟩)) := by rw [ha]; exact (putSel_off rfl).trans rfl
                        replace ha := Aside0.mk ha
                        have BK133 := Aside0.mk Q_BK133
                        have HB := Aside0.mk Q_HB
                        have hc0_ : w'.cell? ⟨gb133, 0, none⟩ = some (.int .i64 a0_0) := (blk_cell BK133.out 0).trans rfl
                        have hc1_ : w'.cell? ⟨gb133, 1, none⟩ = some (.int .i64 a0_1) := (blk_cell BK133.out 1).trans rfl
                        have hc2_ : w'.cell? ⟨gb133, 2, none⟩ = some (.int .i64 a0_2) := (blk_cell BK133.out 2).trans rfl
                        have hc3_ : w'.cell? ⟨gb133, 3, none⟩ = some (.int .i64 a0_3) := (blk_cell BK133.out 3).trans rfl
                        have hc4_ : w'.cell? ⟨gb133, 4, none⟩ = some (.bool a0_4) := (blk_cell BK133.out 4).trans rfl
                        have hc5_ : w'.cell? ⟨gb133, 5, none⟩ = some (.bool a0_5) := (blk_cell BK133.out 5).trans rfl
                        have hc6_ : w'.cell? ⟨gb133, 6, none⟩ = some (.int .i64 a0_6) := (blk_cell BK133.out 6).trans rfl
                        have hc7_ : w'.cell? ⟨gb133, 7, none⟩ = some (.int .i64 a0_7) := (blk_cell BK133.out 7).trans rfl
                        have hc8_ : w'.cell? ⟨gb133, 8, none⟩ = some (.int .i64 a0_8) := (blk_cell BK133.out 8).trans rfl
                        have hc9_ : w'.cell? ⟨gb133, 9, none⟩ = some (.int .i64 a0_9) := (blk_cell BK133.out 9).trans rfl
                        refine value_ (w1 := w') (v := .int .i64 a0_3) (by rfl) rfl ?_ ?_
                        · go_simp
                          (try simp only [i64_w])
                          try rfl
                        refine hK.out _ _ ⟨v140, adz_v140, m15_, (by rw [ha.out]; exact putSel_upk 10 hb_ rfl rfl rfl), Q_BK133, Q_HB, Q_HO141, Q_HA_HO141, fun h0_ => absurd ((hoff 15 (by kernel_rfl)).symm.trans h0_) (by decide)⟩
                      refine steps_cons ?_ ?_
                      · rintro b a w' ⟨v140, adz_v140, m15_, ha, Q_BK133, Q_HB, Q_HO141, Q_HA_HO141, Q_X15_⟩ hb_ hon hoff
                        refine ⟨_, rfl, fun K hK => ?_⟩
                        have e27 : a.tmps[27]? = some (v140) := by rw [ha]; exact putSel_on (e := (12, 27, v140)) 9 rfl rfl (hon 12 (by kernel_rfl)) rfl
                        have e29 : a.tmps[29]? = some (.int .i64 a0_3) := by rw [ha]; exact putSel_on (e := (14, 29, .int .i64 a0_3)) 10 rfl rfl (hon 14 (by kernel_rfl)) rfl
                        replace ha := Aside0.mk ha
                        have BK133 := Aside0.mk Q_BK133
                        have HB := Aside0.mk Q_HB
                        have HO141 := Aside0.mk (Q_HO141 (hon 12 (by kernel_rfl)))
                        have HA_HO141 := Aside0.mk (Q_HA_HO141 (hon 12 (by kernel_rfl)))
                        obtain ⟨c_, hv_⟩ := HA_HO141.out
                        rw [hv_] at e27
                        refine value_ (w1 := w') (v := .pointer (some (adz_v140.add (a0_3).toNat))) (by rfl) rfl ?_ ?_
                        · go_simp
                          (try simp only [i64_w])
                          try rfl
                        refine hK.out _ _ ⟨v140, adz_v140, (.pointer (some (adz_v140.add (a0_3).toNat))), (by rw [ha.out]; exact putSel_upk 11 hb_ rfl rfl rfl), Q_BK133, Q_HB, Q_HO141, Q_HA_HO141, fun _ => rfl⟩
                      refine steps_cons ?_ ?_
                      · rintro b a w' ⟨v140, adz_v140, m15_, ha, Q_BK133, Q_HB, Q_HO141, Q_HA_HO141, Q_X15_⟩ hb_ hon hoff
                        refine ⟨_, rfl, fun K hK => ?_⟩
                        have e30 : a.tmps[30]? = some (m15_) := by rw [ha]; exact putSel_on (e := (15, 30, m15_)) 11 rfl rfl (hon 15 (by kernel_rfl)) rfl
                        rw [Q_X15_ (hon 15 (by kernel_rfl))] at e30
                        replace ha := Aside0.mk ha
                        have BK133 := Aside0.mk Q_BK133
                        have HB := Aside0.mk Q_HB
                        have HO141 := Aside0.mk (Q_HO141 (hon 12 (by kernel_rfl)))
                        have HA_HO141 := Aside0.mk (Q_HA_HO141 (hon 12 (by kernel_rfl)))
                        obtain ⟨c_, hv_⟩ := HA_HO141.out
                        have hF_ := HO141.out
                        rw [hv_] at hF_
                        obtain ⟨ad_, ea_, hx_⟩ := Kd.at_string (Kd.R_reads' hF_).2.2 a0_3 (of_eq_true pi142) (of_eq_true qi142)
                        cases ea_
                        refine value_ (w1 := w') (v := .string (rdOf ByteArray.empty y139 a0_3)) (by rfl) rfl ?_ ?_
                        · go_simp
                          (try simp only [i64_w])
                          try rfl
                        refine hK.out _ _ ⟨v140, adz_v140, m15_, (by rw [ha.out]; exact putSel_upk 12 hb_ rfl rfl rfl), Q_BK133, Q_HB, Q_HO141, Q_HA_HO141, Q_X15_⟩
                      refine steps_cons ?_ ?_
                      · rintro b a w' ⟨v140, adz_v140, m15_, ha, Q_BK133, Q_HB, Q_HO141, Q_HA_HO141, Q_X15_⟩ hb_ hon hoff
                        refine ⟨_, rfl, fun K hK => ?_⟩
                        have e26 : a.tmps[26]? = some (.string (((((t137 ++ (⟨#[32]⟩ : ByteArray)) ++ t138) ++ (⟨#[32]⟩ : ByteArray)) ++ t135) ++ (⟨#[32]⟩ : ByteArray))) := by rw [ha]; exact putSel_on (e := (11, 26, .string (((((t137 ++ (⟨#[32]⟩ : ByteArray)) ++ t138) ++ (⟨#[32]⟩ : ByteArray)) ++ t135) ++ (⟨#[32]⟩ : ByteArray)))) 8 rfl rfl (hon 11 (by kernel_rfl)) rfl
                        have e31 : a.tmps[31]? = some (.string (rdOf ByteArray.empty y139 a0_3)) := by rw [ha]; exact putSel_on (e := (16, 31, .string (rdOf ByteArray.empty y139 a0_3))) 12 rfl rfl (hon 16 (by kernel_rfl)) rfl
                        replace ha := Aside0.mk ha
                        have BK133 := Aside0.mk Q_BK133
                        have HB := Aside0.mk Q_HB
                        have HO141 := Aside0.mk (Q_HO141 (hon 12 (by kernel_rfl)))
                        have HA_HO141 := Aside0.mk (Q_HA_HO141 (hon 12 (by kernel_rfl)))
                        refine value_ (w1 := w') (v := .string ((((((t137 ++ (⟨#[32]⟩ : ByteArray)) ++ t138) ++ (⟨#[32]⟩ : ByteArray)) ++ t135) ++ (⟨#[32]⟩ : ByteArray)) ++ (rdOf ByteArray.empty y139 a0_3))) (by rfl) rfl ?_ ?_
                        · go_simp
                          (try simp only [i64_w])
                          try rfl
                        refine hK.out _ _ ⟨v140, adz_v140, m15_, (by rw [ha.out]; exact putSel_upk 13 hb_ rfl rfl rfl), Q_BK133, Q_HB, Q_HO141, Q_HA_HO141, Q_X15_⟩
                      refine steps_cons ?_ ?_
                      · rintro b a w' ⟨v140, adz_v140, m15_, ha, Q_BK133, Q_HB, Q_HO141, Q_HA_HO141, Q_X15_⟩ hb_ hon hoff
                        refine ⟨_, rfl, fun K hK => ?_⟩
                        have e32 : a.tmps[32]? = some (.string ((((((t137 ++ (⟨#[32]⟩ : ByteArray)) ++ t138) ++ (⟨#[32]⟩ : ByteArray)) ++ t135) ++ (⟨#[32]⟩ : ByteArray)) ++ (rdOf ByteArray.empty y139 a0_3))) := by rw [ha]; exact putSel_on (e := (17, 32, .string ((((((t137 ++ (⟨#[32]⟩ : ByteArray)) ++ t138) ++ (⟨#[32]⟩ : ByteArray)) ++ t135) ++ (⟨#[32]⟩ : ByteArray)) ++ (rdOf ByteArray.empty y139 a0_3)))) 13 rfl rfl (hon 17 (by kernel_rfl)) rfl
                        replace ha := Aside0.mk ha
                        have BK133 := Aside0.mk Q_BK133
                        have HB := Aside0.mk Q_HB
                        have HO141 := Aside0.mk (Q_HO141 (hon 12 (by kernel_rfl)))
                        have HA_HO141 := Aside0.mk (Q_HA_HO141 (hon 12 (by kernel_rfl)))
                        refine value_ (w1 := w') (v := .string ((((((t137 ++ (⟨#[32]⟩ : ByteArray)) ++ t138) ++ (⟨#[32]⟩ : ByteArray)) ++ t135) ++ (⟨#[32]⟩ : ByteArray)) ++ (rdOf ByteArray.empty y139 a0_3))) (by rfl) rfl ?_ ?_
                        · go_simp
                          (try simp only [i64_w])
                          try rfl
                        refine hK.out _ _ ⟨v140, adz_v140, m15_, (by rw [ha.out]; exact putSel_upk 14 hb_ rfl rfl rfl), Q_BK133, Q_HB, Q_HO141, Q_HA_HO141, Q_X15_⟩
                      exact steps_nil
                    rintro b a w27 hall ⟨v140, adz_v140, m15_, ha, Q_BK133, Q_HB, Q_HO141, Q_HA_HO141, Q_X15_⟩
                    clear BK133 HB
                    have hb1_ := hall 1 (by kernel_rfl)
                    have hb2_ := hall 2 (by kernel_rfl)
                    have hb3_ := hall 3 (by kernel_rfl)
                    have hb5_ := hall 5 (by kernel_rfl)
                    have hb6_ := hall 6 (by kernel_rfl)
                    have hb7_ := hall 7 (by kernel_rfl)
                    have hb8_ := hall 8 (by kernel_rfl)
                    have hb10_ := hall 10 (by kernel_rfl)
                    have hb11_ := hall 11 (by kernel_rfl)
                    have hb12_ := hall 12 (by kernel_rfl)
                    have hb14_ := hall 14 (by kernel_rfl)
                    have hb15_ := hall 15 (by kernel_rfl)
                    have hb16_ := hall 16 (by kernel_rfl)
                    have hb17_ := hall 17 (by kernel_rfl)
                    have hb18_ := hall 18 (by kernel_rfl)
                    subst ha
                    obtain rfl := Q_X15_ hb15_
                    simp only [putSel, hb1_, hb2_, hb3_, hb5_, hb6_, hb7_, hb8_, hb10_, hb11_, hb12_, hb14_, hb15_, hb16_, hb17_, hb18_, if_true, Act.put, List.setIfInBounds_toArray, List.set_cons_zero, List.set_cons_succ]
                    have BK133 := Aside0.mk Q_BK133
                    clear Q_BK133
                    have HB := Aside0.mk Q_HB
                    clear Q_HB
                    have HO141 := Aside0.mk (Q_HO141 hb12_)
                    clear Q_HO141
                    have HA_HO141 := Aside0.mk (Q_HA_HO141 hb12_)
                    clear Q_HA_HO141
                    clear hall hb1_ hb2_ hb3_ hb5_ hb6_ hb7_ hb8_ hb10_ hb11_ hb12_ hb14_ hb15_ hb16_ hb17_ hb18_
                    obtain ⟨co28, eo28⟩ := HA_HO141.out
                    clear HA_HO141
                    subst eo28
                    have hcz29_0 : w27.cell? ⟨gb133, 0, none⟩ = some (.int .i64 a0_0) := (blk_cell BK133.out 0).trans rfl
                    have hcz29_1 : w27.cell? ⟨gb133, 1, none⟩ = some (.int .i64 a0_1) := (blk_cell BK133.out 1).trans rfl
                    have hcz29_2 : w27.cell? ⟨gb133, 2, none⟩ = some (.int .i64 a0_2) := (blk_cell BK133.out 2).trans rfl
                    have hcz29_3 : w27.cell? ⟨gb133, 3, none⟩ = some (.int .i64 a0_3) := (blk_cell BK133.out 3).trans rfl
                    have hcz29_4 : w27.cell? ⟨gb133, 4, none⟩ = some (.bool a0_4) := (blk_cell BK133.out 4).trans rfl
                    have hcz29_5 : w27.cell? ⟨gb133, 5, none⟩ = some (.bool a0_5) := (blk_cell BK133.out 5).trans rfl
                    have hcz29_6 : w27.cell? ⟨gb133, 6, none⟩ = some (.int .i64 a0_6) := (blk_cell BK133.out 6).trans rfl
                    have hcz29_7 : w27.cell? ⟨gb133, 7, none⟩ = some (.int .i64 a0_7) := (blk_cell BK133.out 7).trans rfl
                    have hcz29_8 : w27.cell? ⟨gb133, 8, none⟩ = some (.int .i64 a0_8) := (blk_cell BK133.out 8).trans rfl
                    have hcz29_9 : w27.cell? ⟨gb133, 9, none⟩ = some (.int .i64 a0_9) := (blk_cell BK133.out 9).trans rfl
                    have hfz29_0 := blk_frozen BK133.out 0
                    have hfz29_1 := blk_frozen BK133.out 1
                    have hfz29_2 := blk_frozen BK133.out 2
                    have hfz29_3 := blk_frozen BK133.out 3
                    have hfz29_4 := blk_frozen BK133.out 4
                    have hfz29_5 := blk_frozen BK133.out 5
                    have hfz29_6 := blk_frozen BK133.out 6
                    have hfz29_7 := blk_frozen BK133.out 7
                    have hfz29_8 := blk_frozen BK133.out 8
                    have hfz29_9 := blk_frozen BK133.out 9
                    go_upto_if 34 with (fail)
                    go_cut [5] (fun v5 wc => ∃ (kq : Nat) (x5_14 : ByteArray), v5 = .string x5_14 ∧ Aside0 (dayshiftref17_Text.j0 kq x5_14 a0_0 a0_1 a0_2 a0_3 a0_4 a0_5 a0_6 a0_7 a0_8 a0_9 = some r) ∧ Aside0 (kq ≤ k) ∧ Aside0 (wc.heap[gb133]? = some (.cells #[.int .i64 a0_0, .int .i64 a0_1, .int .i64 a0_2, .int .i64 a0_3, .bool a0_4, .bool a0_5, .int .i64 a0_6, .int .i64 a0_7, .int .i64 a0_8, .int .i64 a0_9] 23 (0, 0))) ∧ Aside0 (Below w.heap.size w wc))
                    case first =>
                      have H := HC15.out
                      clear HC15
                      by_cases c30 : a0_4 = true
                      · subst c30
                        have H1 : (if ((((((t137 ++ (⟨#[32]⟩ : ByteArray)) ++ t138) ++ (⟨#[32]⟩ : ByteArray)) ++ t135) ++ (⟨#[32]⟩ : ByteArray)) ++ (rdOf ByteArray.empty y139 a0_3)).size + 5 ≤ 9223372036854775807 then (dayshiftref17_Text.j0 k (((((((t137 ++ (⟨#[32]⟩ : ByteArray)) ++ t138) ++ (⟨#[32]⟩ : ByteArray)) ++ t135) ++ (⟨#[32]⟩ : ByteArray)) ++ (rdOf ByteArray.empty y139 a0_3)) ++ (⟨#[32, 104, 101, 108, 100]⟩ : ByteArray)) a0_0 a0_1 a0_2 a0_3 true a0_5 a0_6 a0_7 a0_8 a0_9) else (none)) = some r := by rw [if_pos rfl] at H; exact H
                        clear H
                        have H := H1
                        clear H1
                        by_cases c31 : ((((((t137 ++ (⟨#[32]⟩ : ByteArray)) ++ t138) ++ (⟨#[32]⟩ : ByteArray)) ++ t135) ++ (⟨#[32]⟩ : ByteArray)) ++ (rdOf ByteArray.empty y139 a0_3)).size + 5 ≤ 9223372036854775807
                        · rw [if_pos c31] at H
                          have c31b0 := eq_true c31
                          have c31b1 : decide (((((((t137 ++ (⟨#[32]⟩ : ByteArray)) ++ t138) ++ (⟨#[32]⟩ : ByteArray)) ++ t135) ++ (⟨#[32]⟩ : ByteArray)) ++ (rdOf ByteArray.empty y139 a0_3)).size + 5 ≤ 9223372036854775807) = true := decide_eq_true c31
                          try have c31b2 : (9223372036854775807 < ((((((t137 ++ (⟨#[32]⟩ : ByteArray)) ++ t138) ++ (⟨#[32]⟩ : ByteArray)) ++ t135) ++ (⟨#[32]⟩ : ByteArray)) ++ (rdOf ByteArray.empty y139 a0_3)).size + 5) = False := eq_false (Nat.not_lt.2 c31)
                          try (have c31b3 := c31; simp [ByteArray.size_append, show (⟨#[32]⟩ : ByteArray).size = 1 from rfl] at c31b3)
                          try have c31b4 := eq_false (Nat.not_lt.2 c31b3)
                          have H' := Aside0.mk H
                          clear H
                          go_wp2
                          go_meet
                          case rel => exact ⟨_, (((((((t137 ++ (⟨#[32]⟩ : ByteArray)) ++ t138) ++ (⟨#[32]⟩ : ByteArray)) ++ t135) ++ (⟨#[32]⟩ : ByteArray)) ++ (rdOf ByteArray.empty y139 a0_3)) ++ (⟨#[32, 104, 101, 108, 100]⟩ : ByteArray)), (by first | rfl | (simp; done) | (simp [*]; done)), H', ⟨by first | omega | exact Nat.le_refl _⟩, ⟨by (with_reducible repeat (first | refine blk_drewN ?_ _ | refine blk_drew ?_ | refine blk_alloc ?_ _)); exact BK133.out⟩, ⟨by repeat (first | (with_reducible first | exact HB.out | apply below_alloc | apply pw_below_drewN | apply below_drew1 | refine below_set ?_ GE133.out) | exact HB.out)⟩⟩
                        · rw [if_neg c31] at H
                          exact absurd H (by simp)
                      · replace c30 := Bool.eq_false_iff.mpr c30
                        subst c30
                        have H1 : (dayshiftref17_Text.j0 k ((((((t137 ++ (⟨#[32]⟩ : ByteArray)) ++ t138) ++ (⟨#[32]⟩ : ByteArray)) ++ t135) ++ (⟨#[32]⟩ : ByteArray)) ++ (rdOf ByteArray.empty y139 a0_3)) a0_0 a0_1 a0_2 a0_3 false a0_5 a0_6 a0_7 a0_8 a0_9) = some r := by rw [if_neg (show ¬ (false = true) by decide)] at H; exact H
                        clear H
                        have H := H1
                        clear H1
                        have H' := Aside0.mk H
                        clear H
                        go_wp2
                        go_meet
                        case rel => exact ⟨_, ((((((t137 ++ (⟨#[32]⟩ : ByteArray)) ++ t138) ++ (⟨#[32]⟩ : ByteArray)) ++ t135) ++ (⟨#[32]⟩ : ByteArray)) ++ (rdOf ByteArray.empty y139 a0_3)), (by first | rfl | (simp; done) | (simp [*]; done)), H', ⟨by first | omega | exact Nat.le_refl _⟩, ⟨by (with_reducible repeat (first | refine blk_drewN ?_ _ | refine blk_drew ?_ | refine blk_alloc ?_ _)); exact BK133.out⟩, ⟨by repeat (first | (with_reducible first | exact HB.out | apply below_alloc | apply pw_below_drewN | apply below_drew1 | refine below_set ?_ GE133.out) | exact HB.out)⟩⟩
                    case rest =>
                      clear HC15
                      try clear c1
                      try clear qi1
                      try clear c2
                      try clear p2
                      try clear c3
                      try clear c4
                      try clear c5
                      try clear c6
                      try clear c6b0
                      try clear c6b1
                      try clear c6b2
                      try clear c7
                      try clear c8
                      try clear c8b0
                      try clear c8b1
                      try clear c8b2
                      try clear c9
                      try clear c9b0
                      try clear c9b1
                      try clear c9b2
                      try clear c10
                      try clear c10b0
                      try clear c10b1
                      try clear c10b2
                      try clear c11
                      try clear c11b0
                      try clear c11b1
                      try clear c11b2
                      try clear c12
                      try clear c12b0
                      try clear c13
                      try clear c13b0
                      try clear c14
                      try clear c14b0
                      try clear c14b1
                      try clear c14b2
                      try clear qi14
                      try clear c17
                      try clear c20
                      try clear c30
                      try clear c31
                      try clear c31b0
                      try clear c31b1
                      try clear c31b2
                      try clear hcz17_0
                      try clear hcz17_1
                      try clear hcz17_2
                      try clear hcz17_3
                      try clear hcz17_4
                      try clear hcz17_5
                      try clear hcz17_6
                      try clear hcz17_7
                      try clear hcz17_8
                      try clear hcz17_9
                      try clear hcz19_0
                      try clear hcz19_1
                      try clear hcz19_2
                      try clear hcz19_3
                      try clear hcz19_4
                      try clear hcz19_5
                      try clear hcz19_6
                      try clear hcz19_7
                      try clear hcz19_8
                      try clear hcz19_9
                      try clear hcz29_0
                      try clear hcz29_1
                      try clear hcz29_2
                      try clear hcz29_3
                      try clear hcz29_4
                      try clear hcz29_5
                      try clear hcz29_6
                      try clear hcz29_7
                      try clear hcz29_8
                      try clear hcz29_9
                      try clear hfz17_0
                      try clear hfz17_1
                      try clear hfz17_2
                      try clear hfz17_3
                      try clear hfz17_4
                      try clear hfz17_5
                      try clear hfz17_6
                      try clear hfz17_7
                      try clear hfz17_8
                      try clear hfz17_9
                      try clear hfz19_0
                      try clear hfz19_1
                      try clear hfz19_2
                      try clear hfz19_3
                      try clear hfz19_4
                      try clear hfz19_5
                      try clear hfz19_6
                      try clear hfz19_7
                      try clear hfz19_8
                      try clear hfz19_9
                      try clear hfz29_0
                      try clear hfz29_1
                      try clear hfz29_2
                      try clear hfz29_3
                      try clear hfz29_4
                      try clear hfz29_5
                      try clear hfz29_6
                      try clear hfz29_7
                      try clear hfz29_8
                      try clear hfz29_9
                      obtain ⟨kq, x5_14, rfl, HA, HJ14, BK133, HB⟩ := hcut
                      cases kq with
                      | zero => exact absurd HA.out (by simp [dayshiftref17_Text.j0])
                      | succ kj14 =>
                        have H := HA.out
                        clear HA
                        simp only [dayshiftref17_Text.j0] at H
                        by_cases c32 : a0_5 = true
                        · subst c32
                          have H1 : (if x5_14.size + 7 ≤ 9223372036854775807 then (if a0_3 = 1 then (if (x5_14 ++ (⟨#[32, 102, 111, 114, 99, 101, 100]⟩ : ByteArray)).size + 2 ≤ 9223372036854775807 then ((dayshiftref01_Digits.f kj14 a0_8 1).bind fun t143 => (if ((x5_14 ++ (⟨#[32, 102, 111, 114, 99, 101, 100]⟩ : ByteArray)) ++ (⟨#[32, 35]⟩ : ByteArray)).size + t143.size ≤ 9223372036854775807 then (some (((x5_14 ++ (⟨#[32, 102, 111, 114, 99, 101, 100]⟩ : ByteArray)) ++ (⟨#[32, 35]⟩ : ByteArray)) ++ t143)) else (none))) else (none)) else (some (x5_14 ++ (⟨#[32, 102, 111, 114, 99, 101, 100]⟩ : ByteArray)))) else (none)) = some r := by rw [if_pos rfl] at H; exact H
                          clear H
                          have H := H1
                          clear H1
                          by_cases c33 : x5_14.size + 7 ≤ 9223372036854775807
                          · rw [if_pos c33] at H
                            have c33b0 := eq_true c33
                            have c33b1 : decide (x5_14.size + 7 ≤ 9223372036854775807) = true := decide_eq_true c33
                            try have c33b2 : (9223372036854775807 < x5_14.size + 7) = False := eq_false (Nat.not_lt.2 c33)
                            by_cases c34 : a0_3 = 1
                            · rw [if_pos c34] at H
                              have c34b0 : (a0_3 == 1) = true := beq_iff_eq.mpr c34
                              have c34b1 : (a0_3 != 1) = false := bne_eq_false_iff_eq.mpr c34
                              clear c34
                              by_cases c35 : (x5_14 ++ (⟨#[32, 102, 111, 114, 99, 101, 100]⟩ : ByteArray)).size + 2 ≤ 9223372036854775807
                              · rw [if_pos c35] at H
                                have c35b0 := eq_true c35
                                have c35b1 : decide ((x5_14 ++ (⟨#[32, 102, 111, 114, 99, 101, 100]⟩ : ByteArray)).size + 2 ≤ 9223372036854775807) = true := decide_eq_true c35
                                try have c35b2 : (9223372036854775807 < (x5_14 ++ (⟨#[32, 102, 111, 114, 99, 101, 100]⟩ : ByteArray)).size + 2) = False := eq_false (Nat.not_lt.2 c35)
                                try (have c35b3 := c35; simp [ByteArray.size_append, show (⟨#[32, 102, 111, 114, 99, 101, 100]⟩ : ByteArray).size = 7 from rfl] at c35b3)
                                try have c35b4 := eq_false (Nat.not_lt.2 c35b3)
                                replace H := Option.bind_eq_some_iff.mp H
                                obtain ⟨t143, A360, H⟩ := H
                                replace H : (if ((x5_14 ++ (⟨#[32, 102, 111, 114, 99, 101, 100]⟩ : ByteArray)) ++ (⟨#[32, 35]⟩ : ByteArray)).size + t143.size ≤ 9223372036854775807 then (some (((x5_14 ++ (⟨#[32, 102, 111, 114, 99, 101, 100]⟩ : ByteArray)) ++ (⟨#[32, 35]⟩ : ByteArray)) ++ t143)) else (none)) = some r := H
                                have A36 := Aside0.mk A360
                                clear A360
                                by_cases c37 : ((x5_14 ++ (⟨#[32, 102, 111, 114, 99, 101, 100]⟩ : ByteArray)) ++ (⟨#[32, 35]⟩ : ByteArray)).size + t143.size ≤ 9223372036854775807
                                · rw [if_pos c37] at H
                                  have c37b0 := eq_true c37
                                  have c37b1 : decide (((x5_14 ++ (⟨#[32, 102, 111, 114, 99, 101, 100]⟩ : ByteArray)) ++ (⟨#[32, 35]⟩ : ByteArray)).size + t143.size ≤ 9223372036854775807) = true := decide_eq_true c37
                                  try have c37b2 : (9223372036854775807 < ((x5_14 ++ (⟨#[32, 102, 111, 114, 99, 101, 100]⟩ : ByteArray)) ++ (⟨#[32, 35]⟩ : ByteArray)).size + t143.size) = False := eq_false (Nat.not_lt.2 c37)
                                  try (have c37b3 := c37; simp [ByteArray.size_append, show (⟨#[32, 102, 111, 114, 99, 101, 100]⟩ : ByteArray).size = 7 from rfl, show (⟨#[32, 35]⟩ : ByteArray).size = 2 from rfl] at c37b3)
                                  try have c37b4 := eq_false (Nat.not_lt.2 c37b3)
                                  obtain rfl := Option.some.inj H
                                  have hcz38_0 : wc.cell? ⟨gb133, 0, none⟩ = some (.int .i64 a0_0) := (blk_cell BK133.out 0).trans rfl
                                  have hcz38_1 : wc.cell? ⟨gb133, 1, none⟩ = some (.int .i64 a0_1) := (blk_cell BK133.out 1).trans rfl
                                  have hcz38_2 : wc.cell? ⟨gb133, 2, none⟩ = some (.int .i64 a0_2) := (blk_cell BK133.out 2).trans rfl
                                  have hcz38_3 : wc.cell? ⟨gb133, 3, none⟩ = some (.int .i64 a0_3) := (blk_cell BK133.out 3).trans rfl
                                  have hcz38_4 : wc.cell? ⟨gb133, 4, none⟩ = some (.bool a0_4) := (blk_cell BK133.out 4).trans rfl
                                  have hcz38_5 : wc.cell? ⟨gb133, 5, none⟩ = some (.bool true) := (blk_cell BK133.out 5).trans rfl
                                  have hcz38_6 : wc.cell? ⟨gb133, 6, none⟩ = some (.int .i64 a0_6) := (blk_cell BK133.out 6).trans rfl
                                  have hcz38_7 : wc.cell? ⟨gb133, 7, none⟩ = some (.int .i64 a0_7) := (blk_cell BK133.out 7).trans rfl
                                  have hcz38_8 : wc.cell? ⟨gb133, 8, none⟩ = some (.int .i64 a0_8) := (blk_cell BK133.out 8).trans rfl
                                  have hcz38_9 : wc.cell? ⟨gb133, 9, none⟩ = some (.int .i64 a0_9) := (blk_cell BK133.out 9).trans rfl
                                  have hfz38_0 := blk_frozen BK133.out 0
                                  have hfz38_1 := blk_frozen BK133.out 1
                                  have hfz38_2 := blk_frozen BK133.out 2
                                  have hfz38_3 := blk_frozen BK133.out 3
                                  have hfz38_4 := blk_frozen BK133.out 4
                                  have hfz38_5 := blk_frozen BK133.out 5
                                  have hfz38_6 := blk_frozen BK133.out 6
                                  have hfz38_7 := blk_frozen BK133.out 7
                                  have hfz38_8 := blk_frozen BK133.out 8
                                  have hfz38_9 := blk_frozen BK133.out 9
                                  go_wp2_with (first | ((with_reducible refine gate_callee (f := 54) rfl ?_); refine goesL_ (some 48) rfl rfl Try.func54 (by kernel_rfl) rfl #[.int .i64 a0_8, .int .i64 1] rfl (by (try simp only [List.map_toArray, List.map_cons, List.map_nil]); first | done | rfl | (simp only [List.length_drop, List.length_take]; rfl)) ?_; (with_reducible refine (dayshiftref01_Digits.calls kj14 a0_8 1 t143 _ A36.out).mono ?_); rintro e w39 ⟨rfl, hb⟩; refine ⟨_, rfl, ?_⟩; have n0_ := Aside0.mk (blk_below (g := gb133) (o := .cells #[.int .i64 a0_0, .int .i64 a0_1, .int .i64 a0_2, .int .i64 a0_3, .bool a0_4, .bool true, .int .i64 a0_6, .int .i64 a0_7, .int .i64 a0_8, .int .i64 a0_9] 23 (0, 0)) (by (with_reducible repeat (first | refine blk_drewN ?_ _ | refine blk_drew ?_ | refine blk_alloc ?_ _)); exact BK133.out) hb); have n1_ := Aside0.mk (below_step (by repeat (first | (with_reducible first | exact HB.out | apply below_alloc | apply pw_below_drewN | apply below_drew1 | refine below_set ?_ GE133.out) | exact HB.out)) hb); clear BK133; clear HB; have BK133 := n0_; have HB := n1_; clear n0_ n1_; (try clear hb); (try clear hb2); (try clear hk); (try clear hi)))
                                  go_ret
                                  exact ⟨by first | rfl | (simp [errW_none, errW_some] <;> rfl) | (simp [*, errW_none, errW_some] <;> rfl), by repeat (first | (with_reducible first | exact HB.out | apply below_alloc | apply pw_below_drewN | apply below_drew1 | refine below_set ?_ GE133.out) | exact HB.out)⟩
                                · rw [if_neg c37] at H
                                  exact absurd H (by simp)
                              · rw [if_neg c35] at H
                                exact absurd H (by simp)
                            · rw [if_neg c34] at H
                              have c34b0 : (a0_3 == 1) = false := beq_eq_false_iff_ne.mpr c34
                              have c34b1 : (a0_3 != 1) = true := bne_iff_ne.mpr c34
                              obtain rfl := Option.some.inj H
                              have hcz40_0 : wc.cell? ⟨gb133, 0, none⟩ = some (.int .i64 a0_0) := (blk_cell BK133.out 0).trans rfl
                              have hcz40_1 : wc.cell? ⟨gb133, 1, none⟩ = some (.int .i64 a0_1) := (blk_cell BK133.out 1).trans rfl
                              have hcz40_2 : wc.cell? ⟨gb133, 2, none⟩ = some (.int .i64 a0_2) := (blk_cell BK133.out 2).trans rfl
                              have hcz40_3 : wc.cell? ⟨gb133, 3, none⟩ = some (.int .i64 a0_3) := (blk_cell BK133.out 3).trans rfl
                              have hcz40_4 : wc.cell? ⟨gb133, 4, none⟩ = some (.bool a0_4) := (blk_cell BK133.out 4).trans rfl
                              have hcz40_5 : wc.cell? ⟨gb133, 5, none⟩ = some (.bool true) := (blk_cell BK133.out 5).trans rfl
                              have hcz40_6 : wc.cell? ⟨gb133, 6, none⟩ = some (.int .i64 a0_6) := (blk_cell BK133.out 6).trans rfl
                              have hcz40_7 : wc.cell? ⟨gb133, 7, none⟩ = some (.int .i64 a0_7) := (blk_cell BK133.out 7).trans rfl
                              have hcz40_8 : wc.cell? ⟨gb133, 8, none⟩ = some (.int .i64 a0_8) := (blk_cell BK133.out 8).trans rfl
                              have hcz40_9 : wc.cell? ⟨gb133, 9, none⟩ = some (.int .i64 a0_9) := (blk_cell BK133.out 9).trans rfl
                              have hfz40_0 := blk_frozen BK133.out 0
                              have hfz40_1 := blk_frozen BK133.out 1
                              have hfz40_2 := blk_frozen BK133.out 2
                              have hfz40_3 := blk_frozen BK133.out 3
                              have hfz40_4 := blk_frozen BK133.out 4
                              have hfz40_5 := blk_frozen BK133.out 5
                              have hfz40_6 := blk_frozen BK133.out 6
                              have hfz40_7 := blk_frozen BK133.out 7
                              have hfz40_8 := blk_frozen BK133.out 8
                              have hfz40_9 := blk_frozen BK133.out 9
                              go_wp2
                              go_ret
                              exact ⟨by first | rfl | (simp [errW_none, errW_some] <;> rfl) | (simp [*, errW_none, errW_some] <;> rfl), by repeat (first | (with_reducible first | exact HB.out | apply below_alloc | apply pw_below_drewN | apply below_drew1 | refine below_set ?_ GE133.out) | exact HB.out)⟩
                          · rw [if_neg c33] at H
                            exact absurd H (by simp)
                        · replace c32 := Bool.eq_false_iff.mpr c32
                          subst c32
                          have H1 : (if a0_3 = 1 then (if x5_14.size + 2 ≤ 9223372036854775807 then ((dayshiftref01_Digits.f kj14 a0_8 1).bind fun t144 => (if (x5_14 ++ (⟨#[32, 35]⟩ : ByteArray)).size + t144.size ≤ 9223372036854775807 then (some ((x5_14 ++ (⟨#[32, 35]⟩ : ByteArray)) ++ t144)) else (none))) else (none)) else (some x5_14)) = some r := by rw [if_neg (show ¬ (false = true) by decide)] at H; exact H
                          clear H
                          have H := H1
                          clear H1
                          by_cases c41 : a0_3 = 1
                          · rw [if_pos c41] at H
                            have c41b0 : (a0_3 == 1) = true := beq_iff_eq.mpr c41
                            have c41b1 : (a0_3 != 1) = false := bne_eq_false_iff_eq.mpr c41
                            clear c41
                            by_cases c42 : x5_14.size + 2 ≤ 9223372036854775807
                            · rw [if_pos c42] at H
                              have c42b0 := eq_true c42
                              have c42b1 : decide (x5_14.size + 2 ≤ 9223372036854775807) = true := decide_eq_true c42
                              try have c42b2 : (9223372036854775807 < x5_14.size + 2) = False := eq_false (Nat.not_lt.2 c42)
                              replace H := Option.bind_eq_some_iff.mp H
                              obtain ⟨t144, A430, H⟩ := H
                              replace H : (if (x5_14 ++ (⟨#[32, 35]⟩ : ByteArray)).size + t144.size ≤ 9223372036854775807 then (some ((x5_14 ++ (⟨#[32, 35]⟩ : ByteArray)) ++ t144)) else (none)) = some r := H
                              have A43 := Aside0.mk A430
                              clear A430
                              by_cases c44 : (x5_14 ++ (⟨#[32, 35]⟩ : ByteArray)).size + t144.size ≤ 9223372036854775807
                              · rw [if_pos c44] at H
                                have c44b0 := eq_true c44
                                have c44b1 : decide ((x5_14 ++ (⟨#[32, 35]⟩ : ByteArray)).size + t144.size ≤ 9223372036854775807) = true := decide_eq_true c44
                                try have c44b2 : (9223372036854775807 < (x5_14 ++ (⟨#[32, 35]⟩ : ByteArray)).size + t144.size) = False := eq_false (Nat.not_lt.2 c44)
                                try (have c44b3 := c44; simp [ByteArray.size_append, show (⟨#[32, 35]⟩ : ByteArray).size = 2 from rfl] at c44b3)
                                try have c44b4 := eq_false (Nat.not_lt.2 c44b3)
                                obtain rfl := Option.some.inj H
                                have hcz45_0 : wc.cell? ⟨gb133, 0, none⟩ = some (.int .i64 a0_0) := (blk_cell BK133.out 0).trans rfl
                                have hcz45_1 : wc.cell? ⟨gb133, 1, none⟩ = some (.int .i64 a0_1) := (blk_cell BK133.out 1).trans rfl
                                have hcz45_2 : wc.cell? ⟨gb133, 2, none⟩ = some (.int .i64 a0_2) := (blk_cell BK133.out 2).trans rfl
                                have hcz45_3 : wc.cell? ⟨gb133, 3, none⟩ = some (.int .i64 a0_3) := (blk_cell BK133.out 3).trans rfl
                                have hcz45_4 : wc.cell? ⟨gb133, 4, none⟩ = some (.bool a0_4) := (blk_cell BK133.out 4).trans rfl
                                have hcz45_5 : wc.cell? ⟨gb133, 5, none⟩ = some (.bool false) := (blk_cell BK133.out 5).trans rfl
                                have hcz45_6 : wc.cell? ⟨gb133, 6, none⟩ = some (.int .i64 a0_6) := (blk_cell BK133.out 6).trans rfl
                                have hcz45_7 : wc.cell? ⟨gb133, 7, none⟩ = some (.int .i64 a0_7) := (blk_cell BK133.out 7).trans rfl
                                have hcz45_8 : wc.cell? ⟨gb133, 8, none⟩ = some (.int .i64 a0_8) := (blk_cell BK133.out 8).trans rfl
                                have hcz45_9 : wc.cell? ⟨gb133, 9, none⟩ = some (.int .i64 a0_9) := (blk_cell BK133.out 9).trans rfl
                                have hfz45_0 := blk_frozen BK133.out 0
                                have hfz45_1 := blk_frozen BK133.out 1
                                have hfz45_2 := blk_frozen BK133.out 2
                                have hfz45_3 := blk_frozen BK133.out 3
                                have hfz45_4 := blk_frozen BK133.out 4
                                have hfz45_5 := blk_frozen BK133.out 5
                                have hfz45_6 := blk_frozen BK133.out 6
                                have hfz45_7 := blk_frozen BK133.out 7
                                have hfz45_8 := blk_frozen BK133.out 8
                                have hfz45_9 := blk_frozen BK133.out 9
                                go_wp2_with (first | ((with_reducible refine gate_callee (f := 54) rfl ?_); refine goesL_ (some 48) rfl rfl Try.func54 (by kernel_rfl) rfl #[.int .i64 a0_8, .int .i64 1] rfl (by (try simp only [List.map_toArray, List.map_cons, List.map_nil]); first | done | rfl | (simp only [List.length_drop, List.length_take]; rfl)) ?_; (with_reducible refine (dayshiftref01_Digits.calls kj14 a0_8 1 t144 _ A43.out).mono ?_); rintro e w46 ⟨rfl, hb⟩; refine ⟨_, rfl, ?_⟩; have n0_ := Aside0.mk (blk_below (g := gb133) (o := .cells #[.int .i64 a0_0, .int .i64 a0_1, .int .i64 a0_2, .int .i64 a0_3, .bool a0_4, .bool false, .int .i64 a0_6, .int .i64 a0_7, .int .i64 a0_8, .int .i64 a0_9] 23 (0, 0)) (by (with_reducible repeat (first | refine blk_drewN ?_ _ | refine blk_drew ?_ | refine blk_alloc ?_ _)); exact BK133.out) hb); have n1_ := Aside0.mk (below_step (by repeat (first | (with_reducible first | exact HB.out | apply below_alloc | apply pw_below_drewN | apply below_drew1 | refine below_set ?_ GE133.out) | exact HB.out)) hb); clear BK133; clear HB; have BK133 := n0_; have HB := n1_; clear n0_ n1_; (try clear hb); (try clear hb2); (try clear hk); (try clear hi)))
                                go_ret
                                exact ⟨by first | rfl | (simp [errW_none, errW_some] <;> rfl) | (simp [*, errW_none, errW_some] <;> rfl), by repeat (first | (with_reducible first | exact HB.out | apply below_alloc | apply pw_below_drewN | apply below_drew1 | refine below_set ?_ GE133.out) | exact HB.out)⟩
                              · rw [if_neg c44] at H
                                exact absurd H (by simp)
                            · rw [if_neg c42] at H
                              exact absurd H (by simp)
                          · rw [if_neg c41] at H
                            have c41b0 : (a0_3 == 1) = false := beq_eq_false_iff_ne.mpr c41
                            have c41b1 : (a0_3 != 1) = true := bne_iff_ne.mpr c41
                            obtain rfl := Option.some.inj H
                            have hcz47_0 : wc.cell? ⟨gb133, 0, none⟩ = some (.int .i64 a0_0) := (blk_cell BK133.out 0).trans rfl
                            have hcz47_1 : wc.cell? ⟨gb133, 1, none⟩ = some (.int .i64 a0_1) := (blk_cell BK133.out 1).trans rfl
                            have hcz47_2 : wc.cell? ⟨gb133, 2, none⟩ = some (.int .i64 a0_2) := (blk_cell BK133.out 2).trans rfl
                            have hcz47_3 : wc.cell? ⟨gb133, 3, none⟩ = some (.int .i64 a0_3) := (blk_cell BK133.out 3).trans rfl
                            have hcz47_4 : wc.cell? ⟨gb133, 4, none⟩ = some (.bool a0_4) := (blk_cell BK133.out 4).trans rfl
                            have hcz47_5 : wc.cell? ⟨gb133, 5, none⟩ = some (.bool false) := (blk_cell BK133.out 5).trans rfl
                            have hcz47_6 : wc.cell? ⟨gb133, 6, none⟩ = some (.int .i64 a0_6) := (blk_cell BK133.out 6).trans rfl
                            have hcz47_7 : wc.cell? ⟨gb133, 7, none⟩ = some (.int .i64 a0_7) := (blk_cell BK133.out 7).trans rfl
                            have hcz47_8 : wc.cell? ⟨gb133, 8, none⟩ = some (.int .i64 a0_8) := (blk_cell BK133.out 8).trans rfl
                            have hcz47_9 : wc.cell? ⟨gb133, 9, none⟩ = some (.int .i64 a0_9) := (blk_cell BK133.out 9).trans rfl
                            have hfz47_0 := blk_frozen BK133.out 0
                            have hfz47_1 := blk_frozen BK133.out 1
                            have hfz47_2 := blk_frozen BK133.out 2
                            have hfz47_3 := blk_frozen BK133.out 3
                            have hfz47_4 := blk_frozen BK133.out 4
                            have hfz47_5 := blk_frozen BK133.out 5
                            have hfz47_6 := blk_frozen BK133.out 6
                            have hfz47_7 := blk_frozen BK133.out 7
                            have hfz47_8 := blk_frozen BK133.out 8
                            have hfz47_9 := blk_frozen BK133.out 9
                            go_wp2
                            go_ret
                            exact ⟨by first | rfl | (simp [errW_none, errW_some] <;> rfl) | (simp [*, errW_none, errW_some] <;> rfl), by repeat (first | (with_reducible first | exact HB.out | apply below_alloc | apply pw_below_drewN | apply below_drew1 | refine below_set ?_ GE133.out) | exact HB.out)⟩
                  · rw [if_neg c14] at H
                    exact absurd H (by simp)
                · rw [if_neg c13] at H
                  exact absurd H (by simp)
              · rw [if_neg c12] at H
                exact absurd H (by simp)
            · rw [if_neg c11] at H
              exact absurd H (by simp)
          · rw [if_neg c10] at H
            exact absurd H (by simp)
        · rw [if_neg c9] at H
          exact absurd H (by simp)
      · rw [if_neg c8] at H
        exact absurd H (by simp)
    · rw [if_neg c6] at H
      exact absurd H (by simp)
  · replace c3 := Bool.eq_false_iff.mpr c3
    subst c3
    have H1 : (some (⟨#[]⟩ : ByteArray)) = some r := by rw [if_neg (show ¬ (false = true) by decide)] at H; exact H
    clear H
    have H := H1
    clear H1
    obtain rfl := Option.some.inj H
    go_enter Try.func20, Try.ntmps20
    go_wp2_with (first | ((with_reducible refine gate_dst (N := 1) rfl ?_); refine box_event ?hg (N := 1) ?hd (cs := #[.int .i64 a0_0, .int .i64 a0_1, .int .i64 a0_2, .int .i64 a0_3, .bool a0_4, .bool a0_5, .int .i64 a0_6, .int .i64 a0_7, .int .i64 a0_8, .int .i64 a0_9]) (t := 23) ?hr ?_; (case hd => rfl); (case hg => rfl); (case hr => first | (go_simp; done) | (go_simp; rfl)); intro gb133 hg w48 hbox hb; have n0_ := Aside0.mk (below_step (by repeat (first | (with_reducible first | exact HB.out | apply below_alloc | apply pw_below_drewN | apply below_drew1) | exact HB.out)) hb); have n1_ := Aside0.mk (hbox); have n2_ := Aside0.mk ((by rw [hg]; exact (below_size (by repeat (first | (with_reducible first | exact HB.out | apply below_alloc | apply pw_below_drewN | apply below_drew1) | exact HB.out))) : w.heap.size ≤ gb133)); have n3_ := Aside0.mk ((by rw [hg]; exact (below_size (by repeat (first | (with_reducible first | exact HB.out | apply below_alloc | apply pw_below_drewN | apply below_drew1) | exact HB.out))) : w.heap.size ≤ gb133)); clear HB; have HB := n0_; have BK133 := n1_; have GW133 := n2_; have GE133 := n3_; clear n0_ n1_ n2_ n3_; clear hb hbox hg; have hcz49_0 : w48.cell? ⟨gb133, 0, none⟩ = some (.int .i64 a0_0) := (blk_cell BK133.out 0).trans rfl; have hcz49_1 : w48.cell? ⟨gb133, 1, none⟩ = some (.int .i64 a0_1) := (blk_cell BK133.out 1).trans rfl; have hcz49_2 : w48.cell? ⟨gb133, 2, none⟩ = some (.int .i64 a0_2) := (blk_cell BK133.out 2).trans rfl; have hcz49_3 : w48.cell? ⟨gb133, 3, none⟩ = some (.int .i64 a0_3) := (blk_cell BK133.out 3).trans rfl; have hcz49_4 : w48.cell? ⟨gb133, 4, none⟩ = some (.bool a0_4) := (blk_cell BK133.out 4).trans rfl; have hcz49_5 : w48.cell? ⟨gb133, 5, none⟩ = some (.bool a0_5) := (blk_cell BK133.out 5).trans rfl; have hcz49_6 : w48.cell? ⟨gb133, 6, none⟩ = some (.int .i64 a0_6) := (blk_cell BK133.out 6).trans rfl; have hcz49_7 : w48.cell? ⟨gb133, 7, none⟩ = some (.int .i64 a0_7) := (blk_cell BK133.out 7).trans rfl; have hcz49_8 : w48.cell? ⟨gb133, 8, none⟩ = some (.int .i64 a0_8) := (blk_cell BK133.out 8).trans rfl; have hcz49_9 : w48.cell? ⟨gb133, 9, none⟩ = some (.int .i64 a0_9) := (blk_cell BK133.out 9).trans rfl; have hfz49_0 := blk_frozen BK133.out 0; have hfz49_1 := blk_frozen BK133.out 1; have hfz49_2 := blk_frozen BK133.out 2; have hfz49_3 := blk_frozen BK133.out 3; have hfz49_4 := blk_frozen BK133.out 4; have hfz49_5 := blk_frozen BK133.out 5; have hfz49_6 := blk_frozen BK133.out 6; have hfz49_7 := blk_frozen BK133.out 7; have hfz49_8 := blk_frozen BK133.out 8; have hfz49_9 := blk_frozen BK133.out 9) | ((with_reducible refine gate_callee (f := 17) rfl ?_); refine goesL_ (some 7) rfl rfl Try.func17 (by kernel_rfl) rfl #[.agg #[.int .i64 a0_0, .int .i64 a0_1, .int .i64 a0_2, .int .i64 a0_3, .bool a0_4, .bool a0_5, .int .i64 a0_6, .int .i64 a0_7, .int .i64 a0_8, .int .i64 a0_9]] rfl (by (try simp only [List.map_toArray, List.map_cons, List.map_nil]); first | done | rfl | (simp only [List.length_drop, List.length_take]; rfl)) ?_; (with_reducible refine (ref17_Right.calls a0_0 a0_1 a0_2 a0_3 a0_4 a0_5 a0_6 a0_7 a0_8 a0_9 false _ A2.out).mono ?_); rintro e w50 ⟨rfl, hb⟩; refine ⟨_, rfl, ?_⟩; have n0_ := Aside0.mk (blk_below (g := gb133) (o := .cells #[.int .i64 a0_0, .int .i64 a0_1, .int .i64 a0_2, .int .i64 a0_3, .bool a0_4, .bool a0_5, .int .i64 a0_6, .int .i64 a0_7, .int .i64 a0_8, .int .i64 a0_9] 23 (0, 0)) (by (with_reducible repeat (first | refine blk_drewN ?_ _ | refine blk_drew ?_ | refine blk_alloc ?_ _)); exact BK133.out) hb); have n1_ := Aside0.mk (below_step (by repeat (first | (with_reducible first | exact HB.out | apply below_alloc | apply pw_below_drewN | apply below_drew1 | refine below_set ?_ GE133.out) | exact HB.out)) hb); clear BK133; clear HB; have BK133 := n0_; have HB := n1_; clear n0_ n1_; (try clear hb); (try clear hb2); (try clear hk); (try clear hi)))
    go_ret
    exact ⟨by first | rfl | (simp [errW_none, errW_some] <;> rfl) | (simp [*, errW_none, errW_some] <;> rfl), by repeat (first | (with_reducible first | exact HB.out | apply below_alloc | apply pw_below_drewN | apply below_drew1 | refine below_set ?_ GE133.out) | exact HB.out)⟩

end Go.Proofs.Ytfefbmglimdgjaa.Px
