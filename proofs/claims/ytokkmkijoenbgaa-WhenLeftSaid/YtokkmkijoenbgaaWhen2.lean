/- What dayshift/when's Open, Next, Left and Long do, as plain functions on integers: each call returns what its plain function says and leaves what was there. No conditions. -/
import Derived.Test.YtokkmkijoenbgaaWhen
namespace Go.Proofs.Ytokkmkijoenbgaa.Own
open Go.RowKit

def openB (a b m : Int) : Bool := inMin a && inMin b && inMin m && decide (sinceZ a m < longZ a b)
theorem inMin_iff {a : Int} : inMin a = true ↔ 0 ≤ a ∧ a < 1440 := by simp [inMin]

def when_Open.f (a b m : Int) : Option Bool := some (openB a b m)
theorem when_Open.calls (a b m : Int) (r : Bool) (w : World) (h : when_Open.f a b m = some r) :
    Calls Try.prog 13 #[.int .i64 a, .int .i64 b, .int .i64 m] w fun e w' => e = .returned (.bool r) ∧ Below w.heap.size w w' := by
  obtain rfl := Option.some.inj h
  clear h
  by_cases hm : inMin m = true
  · have em := textE_yes hm
    by_cases hab : (inMin a && inMin b) = true
    · have ⟨ha, hb⟩ : inMin a = true ∧ inMin b = true := by simpa using hab
      obtain ⟨ha0, ha1⟩ := inMin_iff.1 ha
      obtain ⟨hb0, hb1⟩ := inMin_iff.1 hb
      obtain ⟨hm0, hm1⟩ := inMin_iff.1 hm
      have HE : Hid (openB a b m = decide (sinceZ a m < longZ a b)) := by show _ = _; simp [openB, ha, hb, hm]
      clear ha hb
      go_enter Try.func13, Try.ntmps13
      go_wp2_with (first | (go_at_call 23; refine (week_text_any _ _).mono ?_; rintro e w' ⟨rfl, hq1⟩; obtain ⟨hc1, hf1, _⟩ := bw_cell hq1; (try (refine bw_lt (w.heap.size) hq1 ?_ ?_; (first | assumption | simp); intro hz1)); (try (refine bw_lt (w.heap.size + 1) hq1 ?_ ?_; (first | assumption | simp); intro hz2)); (try (refine bw_lt (w.heap.size + 2) hq1 ?_ ?_; (first | assumption | simp); intro hz3)); (try (refine bw_lt (w.heap.size + 3) hq1 ?_ ?_; (first | assumption | simp); intro hz4))) | (go_at_call 24; refine (wright_any _ _ _).mono ?_; rintro e w' ⟨rfl, hq1⟩; obtain ⟨hc1, hf1, _⟩ := bw_cell hq1; (try (refine bw_lt (w.heap.size) hq1 ?_ ?_; (first | assumption | simp); intro hz1)); (try (refine bw_lt (w.heap.size + 1) hq1 ?_ ?_; (first | assumption | simp); intro hz2)); (try (refine bw_lt (w.heap.size + 2) hq1 ?_ ?_; (first | assumption | simp); intro hz3)); (try (refine bw_lt (w.heap.size + 3) hq1 ?_ ?_; (first | assumption | simp); intro hz4))) | (go_at_call 19; refine (since_any _ _ _ _ ha0 ha1 hb0 hb1 hm0 hm1).mono ?_; rintro e w' ⟨rfl, hq1⟩))

      all_goals go_ret
      all_goals exact ⟨by rw [HE]; rfl, by repeat (first | exact Below.refl _ _ | refine bw_step ?_ (by assumption) | refine bw_alloc ?_ _ | refine bw_drew ?_)⟩
    · have hab' : (inMin a && inMin b) = false := by simpa using hab
      have HE : Hid (openB a b m = false) := by show _ = _; simp only [openB, hab', Bool.false_and]
      clear hab
      go_enter Try.func13, Try.ntmps13
      go_wp2_with (first | (go_at_call 23; refine (week_text_any _ _).mono ?_; rintro e w' ⟨rfl, hq1⟩; obtain ⟨hc1, hf1, _⟩ := bw_cell hq1; (try (refine bw_lt (w.heap.size) hq1 ?_ ?_; (first | assumption | simp); intro hz1)); (try (refine bw_lt (w.heap.size + 1) hq1 ?_ ?_; (first | assumption | simp); intro hz2)); (try (refine bw_lt (w.heap.size + 2) hq1 ?_ ?_; (first | assumption | simp); intro hz3)); (try (refine bw_lt (w.heap.size + 3) hq1 ?_ ?_; (first | assumption | simp); intro hz4))) | (go_at_call 24; refine (wright_any _ _ _).mono ?_; rintro e w' ⟨rfl, hq1⟩; obtain ⟨hc1, hf1, _⟩ := bw_cell hq1; (try (refine bw_lt (w.heap.size) hq1 ?_ ?_; (first | assumption | simp); intro hz1)); (try (refine bw_lt (w.heap.size + 1) hq1 ?_ ?_; (first | assumption | simp); intro hz2)); (try (refine bw_lt (w.heap.size + 2) hq1 ?_ ?_; (first | assumption | simp); intro hz3)); (try (refine bw_lt (w.heap.size + 3) hq1 ?_ ?_; (first | assumption | simp); intro hz4))))
      all_goals go_ret
      all_goals exact ⟨by rw [HE]; rfl, by repeat (first | exact Below.refl _ _ | refine bw_step ?_ (by assumption) | refine bw_alloc ?_ _ | refine bw_drew ?_)⟩
  · have em := textE_no hm
    have HE : Hid (openB a b m = false) := by show _ = _; simp [openB, hm]
    clear hm
    go_enter Try.func13, Try.ntmps13
    go_wp2_with (first | (go_at_call 23; refine (week_text_any _ _).mono ?_; rintro e w' ⟨rfl, hq1⟩; obtain ⟨hc1, hf1, _⟩ := bw_cell hq1; (try (refine bw_lt (w.heap.size) hq1 ?_ ?_; (first | assumption | simp); intro hz1)); (try (refine bw_lt (w.heap.size + 1) hq1 ?_ ?_; (first | assumption | simp); intro hz2)); (try (refine bw_lt (w.heap.size + 2) hq1 ?_ ?_; (first | assumption | simp); intro hz3)); (try (refine bw_lt (w.heap.size + 3) hq1 ?_ ?_; (first | assumption | simp); intro hz4))))
    all_goals go_ret
    all_goals exact ⟨by rw [HE]; rfl, by repeat (first | exact Below.refl _ _ | refine bw_step ?_ (by assumption) | refine bw_alloc ?_ _ | refine bw_drew ?_)⟩

def nextZ (a b c : Int) : Int := if sinceZ a (c % 1440) < longZ a b then c else c + (1440 - sinceZ a (c % 1440))
def when_Next.f (a b c : Int) : Option (Int × Int) := some (if askE a b c = 0 then (if nextZ a b c > 5258966399 then (0, 6) else (nextZ a b c, 0)) else (0, askE a b c))
theorem when_Next.calls (a b c : Int) (r1 r2 : Int) (w : World) (h : when_Next.f a b c = some (r1, r2)) :
    Calls Try.prog 8 #[.int .i64 a, .int .i64 b, .int .i64 c] w fun e w' => e = .returned (.tuple #[.int .i64 r1, .int .i64 r2]) ∧ Below w.heap.size w w' := by
  by_cases h0 : askE a b c = 0
  · obtain ⟨hab, hc0, hc1⟩ := askE_zero.1 h0
    have ⟨ha, hb⟩ : inMin a = true ∧ inMin b = true := by simpa using hab
    obtain ⟨ha0, ha1⟩ := inMin_iff.1 ha
    obtain ⟨hb0, hb1⟩ := inMin_iff.1 hb
    have hM : askM a b c = c % 1440 := by unfold askM; rw [if_pos ⟨hab, hc0, hc1⟩]
    have hbd := sinceZ_bd a (c % 1440)
    have HV : Hid ((5258966399 < nextZ a b c → r1 = 0 ∧ r2 = 6) ∧ (nextZ a b c ≤ 5258966399 → r1 = nextZ a b c ∧ r2 = 0)) := by
      have h2 : (if nextZ a b c > 5258966399 then ((0 : Int), (6 : Int)) else (nextZ a b c, 0)) = (r1, r2) := by simpa only [when_Next.f, h0, if_true, Option.some.injEq] using h
      refine ⟨fun hn => ?_, fun hn => ?_⟩
      · rw [if_pos (by omega)] at h2; cases h2; exact ⟨rfl, rfl⟩
      · rw [if_neg (by omega)] at h2; cases h2; exact ⟨rfl, rfl⟩
    clear h ha hb hab
    by_cases hs : sinceZ a (c % 1440) < longZ a b
    · have hsb := decide_eq_true hs
      have HN : Hid (nextZ a b c = c) := by show _ = _; unfold nextZ; rw [if_pos hs]
      go_enter Try.func8, Try.ntmps8
      go_wp2_with (first | (go_at_call 18; refine (asked_any _ _ _ _).mono ?_; rintro e w' ⟨rfl, hq1⟩; obtain ⟨hc1, hf1, _⟩ := bw_cell hq1; (try (refine bw_lt (w.heap.size) hq1 ?_ ?_; (first | assumption | simp); intro hz1)); (try (refine bw_lt (w.heap.size + 1) hq1 ?_ ?_; (first | assumption | simp); intro hz2)); (try (refine bw_lt (w.heap.size + 2) hq1 ?_ ?_; (first | assumption | simp); intro hz3)); (try (refine bw_lt (w.heap.size + 3) hq1 ?_ ?_; (first | assumption | simp); intro hz4))) | (go_at_call 19; refine (since_any _ _ _ _ ha0 ha1 hb0 hb1 (by omega) (by omega)).mono ?_; rintro e w' ⟨rfl, hq1⟩))
      all_goals go_ret2
      all_goals refine ⟨?_, by repeat (first | exact Below.refl _ _ | refine bw_step ?_ (by assumption) | refine bw_alloc ?_ _ | refine bw_drew ?_)⟩
      all_goals first | (obtain ⟨rfl, rfl⟩ := HV.1 (by rw [HN]; omega); rfl) | (obtain ⟨rfl, rfl⟩ := HV.2 (by rw [HN]; omega); rw [HN]; rfl)
    · have hsb := decide_eq_false hs
      have HN : Hid (nextZ a b c = c + (1440 - sinceZ a (c % 1440))) := by show _ = _; unfold nextZ; rw [if_neg hs]
      go_enter Try.func8, Try.ntmps8
      go_wp2_with (first | (go_at_call 18; refine (asked_any _ _ _ _).mono ?_; rintro e w' ⟨rfl, hq1⟩; obtain ⟨hc1, hf1, _⟩ := bw_cell hq1; (try (refine bw_lt (w.heap.size) hq1 ?_ ?_; (first | assumption | simp); intro hz1)); (try (refine bw_lt (w.heap.size + 1) hq1 ?_ ?_; (first | assumption | simp); intro hz2)); (try (refine bw_lt (w.heap.size + 2) hq1 ?_ ?_; (first | assumption | simp); intro hz3)); (try (refine bw_lt (w.heap.size + 3) hq1 ?_ ?_; (first | assumption | simp); intro hz4))) | (go_at_call 19; refine (since_any _ _ _ _ ha0 ha1 hb0 hb1 (by omega) (by omega)).mono ?_; rintro e w' ⟨rfl, hq1⟩))
      all_goals go_ret2
      all_goals refine ⟨?_, by repeat (first | exact Below.refl _ _ | refine bw_step ?_ (by assumption) | refine bw_alloc ?_ _ | refine bw_drew ?_)⟩
      all_goals first | (obtain ⟨rfl, rfl⟩ := HV.1 (by rw [HN]; omega); rfl) | (obtain ⟨rfl, rfl⟩ := HV.2 (by rw [HN]; omega); rw [HN]; rfl)
  · have hne : (askE a b c != 0) = true := by simpa using h0
    have h2 : (0, askE a b c) = (r1, r2) := by simpa [when_Next.f, h0] using h
    cases h2
    clear h
    go_enter Try.func8, Try.ntmps8
    go_wp2_with (first | (go_at_call 18; refine (asked_any _ _ _ _).mono ?_; rintro e w' ⟨rfl, hq1⟩; obtain ⟨hc1, hf1, _⟩ := bw_cell hq1; (try (refine bw_lt (w.heap.size) hq1 ?_ ?_; (first | assumption | simp); intro hz1)); (try (refine bw_lt (w.heap.size + 1) hq1 ?_ ?_; (first | assumption | simp); intro hz2)); (try (refine bw_lt (w.heap.size + 2) hq1 ?_ ?_; (first | assumption | simp); intro hz3)); (try (refine bw_lt (w.heap.size + 3) hq1 ?_ ?_; (first | assumption | simp); intro hz4))))
    all_goals go_ret2
    all_goals exact ⟨rfl, by repeat (first | exact Below.refl _ _ | refine bw_step ?_ (by assumption) | refine bw_alloc ?_ _ | refine bw_drew ?_)⟩

def when_Left.f (a b c : Int) : Option (Int × Int) := some (if askE a b c = 0 then (if sinceZ a (c % 1440) < longZ a b then (if longZ a b = 1440 then (1440, 0) else (longZ a b - sinceZ a (c % 1440), 0)) else (0, 5)) else (0, askE a b c))
theorem when_Left.calls (a b c : Int) (r1 r2 : Int) (w : World) (h : when_Left.f a b c = some (r1, r2)) :
    Calls Try.prog 10 #[.int .i64 a, .int .i64 b, .int .i64 c] w fun e w' => e = .returned (.tuple #[.int .i64 r1, .int .i64 r2]) ∧ Below w.heap.size w w' := by
  by_cases h0 : askE a b c = 0
  · obtain ⟨hab, hc0, hc1⟩ := askE_zero.1 h0
    have ⟨ha, hb⟩ : inMin a = true ∧ inMin b = true := by simpa using hab
    obtain ⟨ha0, ha1⟩ := inMin_iff.1 ha
    obtain ⟨hb0, hb1⟩ := inMin_iff.1 hb
    have hM : askM a b c = c % 1440 := by unfold askM; rw [if_pos ⟨hab, hc0, hc1⟩]
    have hbd := sinceZ_bd a (c % 1440)
    have hld := longZ_bd a b
    by_cases hs : sinceZ a (c % 1440) < longZ a b
    · have hsb := decide_eq_true hs
      by_cases hl : longZ a b = 1440
      · have h2 : ((1440 : Int), (0 : Int)) = (r1, r2) := by simpa only [when_Left.f, h0, if_true, if_pos hs, if_pos hl, Option.some.injEq] using h
        have hsc : decide (sinceZ a (c % 1440) < 1440) = true := decide_eq_true hbd.2
        cases h2
        clear h ha hb hab
        go_enter Try.func10, Try.ntmps10
        go_wp2_with (first | (go_at_call 18; refine (asked_any _ _ _ _).mono ?_; rintro e w' ⟨rfl, hq1⟩; obtain ⟨hc1, hf1, _⟩ := bw_cell hq1; (try (refine bw_lt (w.heap.size) hq1 ?_ ?_; (first | assumption | simp); intro hz1)); (try (refine bw_lt (w.heap.size + 1) hq1 ?_ ?_; (first | assumption | simp); intro hz2)); (try (refine bw_lt (w.heap.size + 2) hq1 ?_ ?_; (first | assumption | simp); intro hz3)); (try (refine bw_lt (w.heap.size + 3) hq1 ?_ ?_; (first | assumption | simp); intro hz4))) | (go_at_call 19; refine (since_any _ _ _ _ ha0 ha1 hb0 hb1 (by omega) (by omega)).mono ?_; rintro e w' ⟨rfl, hq1⟩; obtain ⟨hc1, hf1, _⟩ := bw_cell hq1; (try (refine bw_lt (w.heap.size) hq1 ?_ ?_; (first | assumption | simp); intro hz1)); (try (refine bw_lt (w.heap.size + 1) hq1 ?_ ?_; (first | assumption | simp); intro hz2)); (try (refine bw_lt (w.heap.size + 2) hq1 ?_ ?_; (first | assumption | simp); intro hz3)); (try (refine bw_lt (w.heap.size + 3) hq1 ?_ ?_; (first | assumption | simp); intro hz4))) | (go_at_call 21; refine (long_any _ _ _ ha0 ha1 hb0 hb1).mono ?_; rintro e w' ⟨rfl, hq1⟩; obtain ⟨hc1, hf1, _⟩ := bw_cell hq1; (try (refine bw_lt (w.heap.size) hq1 ?_ ?_; (first | assumption | simp); intro hz1)); (try (refine bw_lt (w.heap.size + 1) hq1 ?_ ?_; (first | assumption | simp); intro hz2)); (try (refine bw_lt (w.heap.size + 2) hq1 ?_ ?_; (first | assumption | simp); intro hz3)); (try (refine bw_lt (w.heap.size + 3) hq1 ?_ ?_; (first | assumption | simp); intro hz4))))
        all_goals go_ret2
        all_goals exact ⟨rfl, by repeat (first | exact Below.refl _ _ | refine bw_step ?_ (by assumption) | refine bw_alloc ?_ _ | refine bw_drew ?_)⟩
      · have h2 : (longZ a b - sinceZ a (c % 1440), (0 : Int)) = (r1, r2) := by simpa only [when_Left.f, h0, if_true, if_pos hs, if_neg hl, Option.some.injEq] using h
        have hlb : (longZ a b == 1440) = false := by simpa using hl
        cases h2
        clear h ha hb hab
        go_enter Try.func10, Try.ntmps10
        go_wp2_with (first | (go_at_call 18; refine (asked_any _ _ _ _).mono ?_; rintro e w' ⟨rfl, hq1⟩; obtain ⟨hc1, hf1, _⟩ := bw_cell hq1; (try (refine bw_lt (w.heap.size) hq1 ?_ ?_; (first | assumption | simp); intro hz1)); (try (refine bw_lt (w.heap.size + 1) hq1 ?_ ?_; (first | assumption | simp); intro hz2)); (try (refine bw_lt (w.heap.size + 2) hq1 ?_ ?_; (first | assumption | simp); intro hz3)); (try (refine bw_lt (w.heap.size + 3) hq1 ?_ ?_; (first | assumption | simp); intro hz4))) | (go_at_call 19; refine (since_any _ _ _ _ ha0 ha1 hb0 hb1 (by omega) (by omega)).mono ?_; rintro e w' ⟨rfl, hq1⟩; obtain ⟨hc1, hf1, _⟩ := bw_cell hq1; (try (refine bw_lt (w.heap.size) hq1 ?_ ?_; (first | assumption | simp); intro hz1)); (try (refine bw_lt (w.heap.size + 1) hq1 ?_ ?_; (first | assumption | simp); intro hz2)); (try (refine bw_lt (w.heap.size + 2) hq1 ?_ ?_; (first | assumption | simp); intro hz3)); (try (refine bw_lt (w.heap.size + 3) hq1 ?_ ?_; (first | assumption | simp); intro hz4))) | (go_at_call 21; refine (long_any _ _ _ ha0 ha1 hb0 hb1).mono ?_; rintro e w' ⟨rfl, hq1⟩; obtain ⟨hc1, hf1, _⟩ := bw_cell hq1; (try (refine bw_lt (w.heap.size) hq1 ?_ ?_; (first | assumption | simp); intro hz1)); (try (refine bw_lt (w.heap.size + 1) hq1 ?_ ?_; (first | assumption | simp); intro hz2)); (try (refine bw_lt (w.heap.size + 2) hq1 ?_ ?_; (first | assumption | simp); intro hz3)); (try (refine bw_lt (w.heap.size + 3) hq1 ?_ ?_; (first | assumption | simp); intro hz4))))
        all_goals go_ret2
        all_goals exact ⟨rfl, by repeat (first | exact Below.refl _ _ | refine bw_step ?_ (by assumption) | refine bw_alloc ?_ _ | refine bw_drew ?_)⟩
    · have hsb := decide_eq_false hs
      have h2 : ((0 : Int), (5 : Int)) = (r1, r2) := by simpa only [when_Left.f, h0, if_true, if_neg hs, Option.some.injEq] using h
      cases h2
      clear h ha hb hab
      go_enter Try.func10, Try.ntmps10
      go_wp2_with (first | (go_at_call 18; refine (asked_any _ _ _ _).mono ?_; rintro e w' ⟨rfl, hq1⟩; obtain ⟨hc1, hf1, _⟩ := bw_cell hq1; (try (refine bw_lt (w.heap.size) hq1 ?_ ?_; (first | assumption | simp); intro hz1)); (try (refine bw_lt (w.heap.size + 1) hq1 ?_ ?_; (first | assumption | simp); intro hz2)); (try (refine bw_lt (w.heap.size + 2) hq1 ?_ ?_; (first | assumption | simp); intro hz3)); (try (refine bw_lt (w.heap.size + 3) hq1 ?_ ?_; (first | assumption | simp); intro hz4))) | (go_at_call 19; refine (since_any _ _ _ _ ha0 ha1 hb0 hb1 (by omega) (by omega)).mono ?_; rintro e w' ⟨rfl, hq1⟩; obtain ⟨hc1, hf1, _⟩ := bw_cell hq1; (try (refine bw_lt (w.heap.size) hq1 ?_ ?_; (first | assumption | simp); intro hz1)); (try (refine bw_lt (w.heap.size + 1) hq1 ?_ ?_; (first | assumption | simp); intro hz2)); (try (refine bw_lt (w.heap.size + 2) hq1 ?_ ?_; (first | assumption | simp); intro hz3)); (try (refine bw_lt (w.heap.size + 3) hq1 ?_ ?_; (first | assumption | simp); intro hz4))) | (go_at_call 21; refine (long_any _ _ _ ha0 ha1 hb0 hb1).mono ?_; rintro e w' ⟨rfl, hq1⟩; obtain ⟨hc1, hf1, _⟩ := bw_cell hq1; (try (refine bw_lt (w.heap.size) hq1 ?_ ?_; (first | assumption | simp); intro hz1)); (try (refine bw_lt (w.heap.size + 1) hq1 ?_ ?_; (first | assumption | simp); intro hz2)); (try (refine bw_lt (w.heap.size + 2) hq1 ?_ ?_; (first | assumption | simp); intro hz3)); (try (refine bw_lt (w.heap.size + 3) hq1 ?_ ?_; (first | assumption | simp); intro hz4))))
      all_goals go_ret2
      all_goals exact ⟨rfl, by repeat (first | exact Below.refl _ _ | refine bw_step ?_ (by assumption) | refine bw_alloc ?_ _ | refine bw_drew ?_)⟩
  · have hne : (askE a b c != 0) = true := by simpa using h0
    have h2 : (0, askE a b c) = (r1, r2) := by simpa [when_Left.f, h0] using h
    cases h2
    clear h
    go_enter Try.func10, Try.ntmps10
    go_wp2_with (first | (go_at_call 18; refine (asked_any _ _ _ _).mono ?_; rintro e w' ⟨rfl, hq1⟩; obtain ⟨hc1, hf1, _⟩ := bw_cell hq1; (try (refine bw_lt (w.heap.size) hq1 ?_ ?_; (first | assumption | simp); intro hz1)); (try (refine bw_lt (w.heap.size + 1) hq1 ?_ ?_; (first | assumption | simp); intro hz2)); (try (refine bw_lt (w.heap.size + 2) hq1 ?_ ?_; (first | assumption | simp); intro hz3)); (try (refine bw_lt (w.heap.size + 3) hq1 ?_ ?_; (first | assumption | simp); intro hz4))))
    all_goals go_ret2
    all_goals exact ⟨rfl, by repeat (first | exact Below.refl _ _ | refine bw_step ?_ (by assumption) | refine bw_alloc ?_ _ | refine bw_drew ?_)⟩

def when_Long.f (a b : Int) : Option Int := some (if (inMin a && inMin b) = true then longZ a b else 0)
theorem when_Long.calls (a b : Int) (r : Int) (w : World) (h : when_Long.f a b = some r) :
    Calls Try.prog 15 #[.int .i64 a, .int .i64 b] w fun e w' => e = .returned (.int .i64 r) ∧ Below w.heap.size w w' := by
  by_cases hab : (inMin a && inMin b) = true
  · have ⟨ha, hb⟩ : inMin a = true ∧ inMin b = true := by simpa using hab
    obtain ⟨ha0, ha1⟩ := inMin_iff.1 ha
    obtain ⟨hb0, hb1⟩ := inMin_iff.1 hb
    have h2 : longZ a b = r := by simpa only [when_Long.f, if_pos hab, Option.some.injEq] using h
    subst h2
    have hld := longZ_bd a b
    clear h ha hb
    go_enter Try.func15, Try.ntmps15
    go_wp2_with (first | (go_at_call 24; refine (wright_any _ _ _).mono ?_; rintro e w' ⟨rfl, hq1⟩; obtain ⟨hc1, hf1, _⟩ := bw_cell hq1; (try (refine bw_lt (w.heap.size) hq1 ?_ ?_; (first | assumption | simp); intro hz1)); (try (refine bw_lt (w.heap.size + 1) hq1 ?_ ?_; (first | assumption | simp); intro hz2)); (try (refine bw_lt (w.heap.size + 2) hq1 ?_ ?_; (first | assumption | simp); intro hz3)); (try (refine bw_lt (w.heap.size + 3) hq1 ?_ ?_; (first | assumption | simp); intro hz4))) | (go_at_call 21; refine (long_any _ _ _ ha0 ha1 hb0 hb1).mono ?_; rintro e w' ⟨rfl, hq2⟩))
    go_loop [6, 15] (fun n i => ∃ k : Nat, (k : Int) ≤ longZ a b ∧ i = .int .i64 k ∧ n = .int .i64 k) (fun _ i => 1440 - (intOf i).toNat)
    case atStart => exact ⟨0, by omega, rfl, rfl⟩
    case round =>
      obtain ⟨k, hk, rfl, rfl⟩ := hrel
      by_cases hlt : (k : Int) < longZ a b
      · go_wp2
        go_round
        case rel => exact ⟨k + 1, by omega, by go_num, by go_num⟩
        case measure => simp [intOf]; omega
      · have HK : Hid ((k : Int) = longZ a b) := by show _ = _; omega
        go_wp2
        go_ret
        exact ⟨by rw [← HK]; rfl, by repeat (first | exact Below.refl _ _ | refine bw_step ?_ (by assumption) | refine bw_alloc ?_ _ | refine bw_drew ?_)⟩
  · have hab' : (inMin a && inMin b) = false := by simpa using hab
    have h2 : 0 = r := by simpa only [when_Long.f, if_neg hab, Option.some.injEq] using h
    subst h2
    clear h hab
    go_enter Try.func15, Try.ntmps15
    go_wp2_with (first | (go_at_call 24; refine (wright_any _ _ _).mono ?_; rintro e w' ⟨rfl, hq1⟩; obtain ⟨hc1, hf1, _⟩ := bw_cell hq1; (try (refine bw_lt (w.heap.size) hq1 ?_ ?_; (first | assumption | simp); intro hz1)); (try (refine bw_lt (w.heap.size + 1) hq1 ?_ ?_; (first | assumption | simp); intro hz2)); (try (refine bw_lt (w.heap.size + 2) hq1 ?_ ?_; (first | assumption | simp); intro hz3)); (try (refine bw_lt (w.heap.size + 3) hq1 ?_ ?_; (first | assumption | simp); intro hz4))))
    all_goals go_ret
    all_goals exact ⟨rfl, by repeat (first | exact Below.refl _ _ | refine bw_step ?_ (by assumption) | refine bw_alloc ?_ _ | refine bw_drew ?_)⟩
end Go.Proofs.Ytokkmkijoenbgaa.Own
