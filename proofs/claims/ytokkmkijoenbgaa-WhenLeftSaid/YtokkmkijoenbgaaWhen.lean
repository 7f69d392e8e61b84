/- What dayshift/when's functions do, as plain functions on integers: each call returns what its plain function says and leaves what was there. No conditions. -/
import Derived.Test.YtokkmkijoenbgaaWeek
namespace Go.Proofs.Ytokkmkijoenbgaa.Own
open Go.RowKit

theorem eqA_window (d : Nat) (a b c e : Int) (w : World) : (Op.equalIn (d + 2) 31 (.agg #[.int .i64 a, .int .i64 b]) (.agg #[.int .i64 c, .int .i64 e])).run Try.prog w = .ok (a == c && b == e) w := by
  have e2 : ∀ (x y : Int), (Op.equalIn (d + 1) 2 (.int .i64 x) (.int .i64 y)).run Try.prog w = .ok (x == y) w := fun x y => run_equalIn_int w d 2 .i64 .i64 x y Try.underlying2
  have s2 : (sizeOf 2).run Try.prog w = .ok 1 w := by kernel_rfl
  have p0 : ∀ x y : Int, (part 2 #[Value.int .i64 x, .int .i64 y] 0).run Try.prog w = .ok (.int .i64 x) w := fun x y => by kernel_rfl
  have p1 : ∀ x y : Int, (part 2 #[Value.int .i64 x, .int .i64 y] 1).run Try.prog w = .ok (.int .i64 y) w := fun x y => by kernel_rfl
  rw [Op.equalIn]
  simp only [Sem.run_bind, run_underlying Try.underlying31, Result.andThen_ok, s2]
  by_cases h1 : a = c <;> by_cases h2 : b = e <;> simp [Std.Legacy.Range.forIn_eq_forIn_range', e2, p0, p1, List.range', h1, h2]

def longZ (a b : Int) : Int := if a = 0 ∧ b = 1439 then 1440 else (b - a) % 1440 + 1
def sinceZ (a m : Int) : Int := (m - a) % 1440
theorem longZ_bd (a b : Int) : 1 ≤ longZ a b ∧ longZ a b ≤ 1440 := by unfold longZ; split <;> omega
theorem sinceZ_bd (a b : Int) : 0 ≤ sinceZ a b ∧ sinceZ a b < 1440 := by unfold sinceZ; omega

theorem long_any (a b : Int) (w : World) (ha : 0 ≤ a) (ha1 : a < 1440) (hb : 0 ≤ b) (hb1 : b < 1440) :
    Calls Try.prog 21 #[.agg #[.int .i64 a, .int .i64 b]] w fun e w' => e = .returned (.int .i64 (longZ a b)) ∧ Below w.heap.size w w' := by
  have he := eqA_window
  by_cases hc : a = 0 ∧ b = 1439
  · obtain ⟨rfl, rfl⟩ := hc
    go_enter Try.func21, Try.ntmps21
    go_wp2
    go_ret
    exact ⟨rfl, by repeat (first | exact Below.refl _ _ | refine bw_step ?_ (by assumption) | refine bw_alloc ?_ _ | refine bw_drew ?_)⟩
  · have hq : (a == 0 && b == 1439) = false := by simp; omega
    have hl : longZ a b = (b - a) % 1440 + 1 := by unfold longZ; rw [if_neg hc]
    have HL : Hid _ := hl
    clear hl hc
    go_enter Try.func21, Try.ntmps21
    go_wp2
    all_goals go_ret
    all_goals exact ⟨by rw [HL]; rfl, by repeat (first | exact Below.refl _ _ | refine bw_step ?_ (by assumption) | refine bw_alloc ?_ _ | refine bw_drew ?_)⟩

theorem since_any (a b m : Int) (w : World) (ha : 0 ≤ a) (ha1 : a < 1440) (hb : 0 ≤ b) (hb1 : b < 1440) (hm : 0 ≤ m) (hm1 : m < 1440) :
    Calls Try.prog 19 #[.agg #[.int .i64 a, .int .i64 b], .int .i64 m] w fun e w' => e = .returned (.tuple #[.int .i64 (sinceZ a m), .bool (decide (sinceZ a m < longZ a b))]) ∧ Below w.heap.size w w' := by
  go_enter Try.func19, Try.ntmps19
  go_wp2_with (go_at_call 21; refine (long_any _ _ _ ha ha1 hb hb1).mono ?_; rintro e w' ⟨rfl, hb⟩)
  go_ret2
  exact ⟨rfl, by repeat (first | exact Below.refl _ _ | refine bw_step ?_ (by assumption) | refine bw_alloc ?_ _ | refine bw_drew ?_)⟩

theorem wright_any (a b : Int) (w : World) :
    Calls Try.prog 24 #[.agg #[.int .i64 a, .int .i64 b]] w fun e w' => e = .returned (.bool (inMin a && inMin b)) ∧ Below w.heap.size w w' := by
  have HE : Hid ((inMin a && inMin b) = (textE a == 0 && textE b == 0)) := by show _ = _; rw [textE_zero, textE_zero]
  go_enter Try.func24, Try.ntmps24
  go_wp2_with (go_at_call 23; refine (week_text_any _ _).mono ?_; rintro e w' ⟨rfl, hb1⟩; obtain ⟨hc1, hf1, hz1⟩ := bw_cell hb1)
  all_goals go_ret
  all_goals exact ⟨by rw [HE]; simp [*], by repeat (first | exact Below.refl _ _ | refine bw_step ?_ (by assumption) | refine bw_alloc ?_ _ | refine bw_drew ?_)⟩

theorem split_any (c : Int) (w : World) :
    Calls Try.prog 25 #[.int .i64 c] w fun e w' => e = .returned (if 1440 ≤ c ∧ c ≤ 5258966399 then .tuple #[.int .i64 (c / 1440), .int .i64 (c % 1440), .int .i64 0] else .tuple #[.int .i64 0, .int .i64 0, .int .i64 6]) ∧ w = w' := by
  by_cases h : 1440 ≤ c ∧ c ≤ 5258966399
  · rw [if_pos h]
    obtain ⟨h0, h1⟩ := h
    go_enter Try.func25, Try.ntmps25
    go_wp2
    go_ret3
    exact ⟨rfl, rfl⟩
  · rw [if_neg h]
    go_enter Try.func25, Try.ntmps25
    go_wp2
    all_goals go_ret3
    all_goals exact ⟨rfl, rfl⟩

def askE (a b c : Int) : Int := if (inMin a && inMin b) = true then (if 1440 ≤ c ∧ c ≤ 5258966399 then 0 else 6) else 1
def askM (a b c : Int) : Int := if (inMin a && inMin b) = true ∧ 1440 ≤ c ∧ c ≤ 5258966399 then c % 1440 else 0
theorem askE_zero {a b c : Int} : askE a b c = 0 ↔ (inMin a && inMin b) = true ∧ 1440 ≤ c ∧ c ≤ 5258966399 := by unfold askE; split <;> (try split) <;> simp_all
theorem asked_any (a b c : Int) (w : World) :
    Calls Try.prog 18 #[.agg #[.int .i64 a, .int .i64 b], .int .i64 c] w fun e w' => e = .returned (.tuple #[.int .i64 (askM a b c), .int .i64 (askE a b c)]) ∧ Below w.heap.size w w' := by
  by_cases h : (inMin a && inMin b) = true
  · by_cases hc : 1440 ≤ c ∧ c ≤ 5258966399
    · have HE : Hid (askE a b c = 0 ∧ askM a b c = c % 1440) := ⟨by unfold askE; rw [if_pos h, if_pos hc], by unfold askM; rw [if_pos ⟨h, hc⟩]⟩
      have hs := fun w => split_any c w
      simp only [if_pos hc] at hs
      go_enter Try.func18, Try.ntmps18
      go_wp2_with (first | (go_at_call 24; refine (wright_any _ _ _).mono ?_; rintro e w' ⟨rfl, hb1⟩) | (go_at_call 25; refine (hs _).mono ?_; rintro e w' ⟨rfl, rfl⟩))
      all_goals go_ret2
      all_goals exact ⟨by rw [HE.1, HE.2]; rfl, by repeat (first | exact Below.refl _ _ | refine bw_step ?_ (by assumption) | refine bw_alloc ?_ _ | refine bw_drew ?_)⟩
    · have HE : Hid (askE a b c = 6 ∧ askM a b c = 0) := ⟨by unfold askE; rw [if_pos h, if_neg hc], by unfold askM; rw [if_neg (fun h => hc h.2)]⟩
      have hs := fun w => split_any c w
      simp only [if_neg hc] at hs
      go_enter Try.func18, Try.ntmps18
      go_wp2_with (first | (go_at_call 24; refine (wright_any _ _ _).mono ?_; rintro e w' ⟨rfl, hb1⟩) | (go_at_call 25; refine (hs _).mono ?_; rintro e w' ⟨rfl, rfl⟩))
      all_goals go_ret2
      all_goals exact ⟨by rw [HE.1, HE.2]; rfl, by repeat (first | exact Below.refl _ _ | refine bw_step ?_ (by assumption) | refine bw_alloc ?_ _ | refine bw_drew ?_)⟩
  · have HE : Hid (askE a b c = 1 ∧ askM a b c = 0) := ⟨by unfold askE; rw [if_neg h], by unfold askM; rw [if_neg (fun z => h z.1)]⟩
    have h' : (inMin a && inMin b) = false := by simpa using h
    go_enter Try.func18, Try.ntmps18
    go_wp2_with (first | (go_at_call 24; refine (wright_any _ _ _).mono ?_; rintro e w' ⟨rfl, hb1⟩))
    all_goals go_ret2
    all_goals exact ⟨by rw [HE.1, HE.2]; rfl, by repeat (first | exact Below.refl _ _ | refine bw_step ?_ (by assumption) | refine bw_alloc ?_ _ | refine bw_drew ?_)⟩
end Go.Proofs.Ytokkmkijoenbgaa.Own
