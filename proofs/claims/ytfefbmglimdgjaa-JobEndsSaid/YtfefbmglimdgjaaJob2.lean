/- What dayshift/job's refuse, may and timed do, as plain functions: each call returns what its plain function says and leaves what was there. -/
import Derived.Test.YtfefbmglimdgjaaJob
namespace Go.Proofs.Ytfefbmglimdgjaa.Own
open Go.RowKit

def refuseE (why : Int) (is : Bool) (t : Int) : Int := if why = 0 ∧ is = true then t else why
theorem refuse_any (why : Int) (is : Bool) (t : Int) (w : World) : Calls Try.prog 39 #[.int .i64 why, .bool is, .int .i64 t] w fun e w' => e = .returned (.int .i64 (refuseE why is t)) ∧ w = w' := by
  by_cases h0 : why = 0
  · subst h0
    cases is
    all_goals
      go_enter Try.func39, Try.ntmps39
      go_wp2
      go_ret
      exact ⟨rfl, rfl⟩
  · have hb : (why == 0) = false := by simpa using h0
    have HE : Hid (refuseE why is t = why) := by show _ = _; unfold refuseE; rw [if_neg (fun h => h0 h.1)]
    go_enter Try.func39, Try.ntmps39
    go_wp2
    go_ret
    exact ⟨by rw [HE]; rfl, rfl⟩

theorem getD_lt {xs : List Int} {k : Nat} (h : k < xs.length) : xs.getD k 0 = xs[k] := by simp [h]
def mayE (s : St) (xs : List Int) : Int := if rightB s = true then (if s.state ∈ xs then 0 else 5) else 1
set_option maxHeartbeats 1000000 in
theorem may_any (s : St) (xs : List Int) (b : Nat) (w : World) (hx : xs.length ≤ 100) (hb : b < w.heap.size) (hc : ∀ j, j < xs.length → w.cell? ⟨b, j, none⟩ = some (.int .i64 (xs.getD j 0))) :
    Calls Try.prog 40 #[s.v, .slice (some ⟨b, 0, none⟩) xs.length xs.length] w fun e w' => e = .returned (.int .i64 (mayE s xs)) ∧ Below w.heap.size w w' := by
  have HC : Hid (∀ j, j < xs.length → w.cell? ⟨b, j, none⟩ = some (.int .i64 (xs.getD j 0))) := hc
  clear hc
  obtain ⟨id, job, day, state, hold, force, runs, tries, run, at_⟩ := s
  by_cases hr : rightB ⟨id, job, day, state, hold, force, runs, tries, run, at_⟩ = true
  · have HE : Hid (mayE ⟨id, job, day, state, hold, force, runs, tries, run, at_⟩ xs = if state ∈ xs then 0 else 5) := by show _ = _; unfold mayE; rw [if_pos hr]
    simp only [St.v]
    go_enter Try.func40, Try.ntmps40
    go_wp2_with (first | (go_at_call 16; refine (right_any ⟨id, job, day, state, hold, force, runs, tries, run, at_⟩ _).mono ?_; rintro e w' ⟨rfl, hq1⟩; obtain ⟨hc1, hf1, _⟩ := bw_cell hq1; (try (refine bw_lt (w.heap.size) hq1 ?_ ?_; (first | assumption | simp); intro hz1)); (try (refine bw_lt (w.heap.size + 1) hq1 ?_ ?_; (first | assumption | simp); intro hz2)); (try (refine bw_lt (w.heap.size + 2) hq1 ?_ ?_; (first | assumption | simp); intro hz3)); (try (refine bw_lt (w.heap.size + 3) hq1 ?_ ?_; (first | assumption | simp); intro hz4))))

    have hb2 : b < w.heap.size + 1 := by omega
    have hb3 : ¬ b = w.heap.size := by omega
    go_loop [6, 12] (fun _ i => ∃ k : Nat, k ≤ xs.length ∧ i = .int .i64 k ∧ ∀ j, j < k → xs.getD j 0 ≠ state) (fun _ i => xs.length - (intOf i).toNat)
    case atStart => exact ⟨0, Nat.zero_le _, rfl, fun j hj => absurd hj (by omega)⟩
    case round =>
      obtain ⟨k, hk, rfl, hne⟩ := hrel
      have HN : Hid (∀ j, j < k → xs.getD j 0 ≠ state) := hne
      clear hne
      by_cases hlt : k < xs.length
      · obtain ⟨x, hxk⟩ : ∃ x, x = xs.getD k 0 := ⟨_, rfl⟩
        have hck : w.cell? ⟨b, k, none⟩ = some (.int .i64 x) := by rw [hxk]; exact HC k hlt
        have HX : Hid (x = xs.getD k 0) := hxk
        clear hxk
        by_cases hst : state = x
        · have hb1 : (state == x) = true := by simpa using hst
          have HM : Hid (state ∈ xs) := by
            show _ ∈ _
            rw [hst, HX, getD_lt hlt]
            exact List.getElem_mem hlt
          clear hst
          go_wp2
          go_ret
          exact ⟨by rw [HE, if_pos (show state ∈ xs from HM)]; rfl, by repeat (with_reducible first | exact Below.refl _ _ | assumption | refine bw_step ?_ (by assumption) | refine bw_alloc ?_ _ | refine bw_drew ?_)⟩
        · have hb1 : (state == x) = false := by simpa using hst
          clear hst
          go_wp2
          go_round
          case rel => exact ⟨k + 1, by omega, by go_num, fun j hj => by
            rcases Nat.lt_or_ge j k with h | h
            · exact HN j h
            · obtain rfl : j = k := by omega
              rw [← HX]; intro h2; rw [h2] at hb1; simp at hb1⟩
          case measure => simp [intOf]; omega
      · have HM : Hid (state ∉ xs) := by
          show _ ∉ _
          intro hm
          obtain ⟨j, hj, he⟩ := List.getElem_of_mem hm
          refine HN j (by omega) ?_
          rw [getD_lt hj]; exact he
        go_wp2
        go_ret
        exact ⟨by rw [HE, if_neg (show state ∉ xs from HM)]; rfl, by repeat (with_reducible first | exact Below.refl _ _ | assumption | refine bw_step ?_ (by assumption) | refine bw_alloc ?_ _ | refine bw_drew ?_)⟩
  · have hr' : rightB ⟨id, job, day, state, hold, force, runs, tries, run, at_⟩ = false := by simpa using hr
    have HE : Hid (mayE ⟨id, job, day, state, hold, force, runs, tries, run, at_⟩ xs = 1) := by show _ = _; unfold mayE; rw [if_neg hr]
    clear hr
    simp only [St.v]
    go_enter Try.func40, Try.ntmps40
    go_wp2_with (first | (go_at_call 16; refine (right_any ⟨id, job, day, state, hold, force, runs, tries, run, at_⟩ _).mono ?_; rintro e w' ⟨rfl, hq1⟩; obtain ⟨hc1, hf1, _⟩ := bw_cell hq1; (try (refine bw_lt (w.heap.size) hq1 ?_ ?_; (first | assumption | simp); intro hz1)); (try (refine bw_lt (w.heap.size + 1) hq1 ?_ ?_; (first | assumption | simp); intro hz2)); (try (refine bw_lt (w.heap.size + 2) hq1 ?_ ?_; (first | assumption | simp); intro hz3)); (try (refine bw_lt (w.heap.size + 3) hq1 ?_ ?_; (first | assumption | simp); intro hz4))))
    go_ret
    exact ⟨by rw [HE]; rfl, by repeat (with_reducible first | exact Below.refl _ _ | assumption | refine bw_step ?_ (by assumption) | refine bw_alloc ?_ _ | refine bw_drew ?_)⟩

def timedE (s : St) (c : Int) (xs : List Int) : Int := if rightB s = true ∧ ¬ (0 ≤ c ∧ c ≤ 5258966399) then 31 else mayE s xs
set_option maxHeartbeats 1000000 in
theorem timed_any (s : St) (c : Int) (xs : List Int) (b : Nat) (w : World) (hx : xs.length ≤ 100) (hb : b < w.heap.size) (hc : ∀ j, j < xs.length → w.cell? ⟨b, j, none⟩ = some (.int .i64 (xs.getD j 0))) :
    Calls Try.prog 44 #[s.v, .int .i64 c, .slice (some ⟨b, 0, none⟩) xs.length xs.length] w fun e w' => e = .returned (.int .i64 (timedE s c xs)) ∧ Below w.heap.size w w' := by
  have HC : Hid (∀ j, j < xs.length → w.cell? ⟨b, j, none⟩ = some (.int .i64 (xs.getD j 0))) := hc
  clear hc
  obtain ⟨id, job, day, state, hold, force, runs, tries, run, at_⟩ := s
  by_cases hr : rightB ⟨id, job, day, state, hold, force, runs, tries, run, at_⟩ = true
  · by_cases hcl : 0 ≤ c ∧ c ≤ 5258966399
    · have HE : Hid (timedE ⟨id, job, day, state, hold, force, runs, tries, run, at_⟩ c xs = mayE ⟨id, job, day, state, hold, force, runs, tries, run, at_⟩ xs) := by show _ = _; unfold timedE; rw [if_neg (fun h => h.2 hcl)]
      simp only [St.v]
      go_enter Try.func44, Try.ntmps44
      go_wp2_with (first | (go_at_call 16; refine (right_any ⟨id, job, day, state, hold, force, runs, tries, run, at_⟩ _).mono ?_; rintro e w' ⟨rfl, hq1⟩; obtain ⟨hc1, hf1, _⟩ := bw_cell hq1; (try (refine bw_lt (w.heap.size) hq1 ?_ ?_; (first | assumption | simp); intro hz1)); (try (refine bw_lt (w.heap.size + 1) hq1 ?_ ?_; (first | assumption | simp); intro hz2)); (try (refine bw_lt (w.heap.size + 2) hq1 ?_ ?_; (first | assumption | simp); intro hz3)); (try (refine bw_lt (w.heap.size + 3) hq1 ?_ ?_; (first | assumption | simp); intro hz4))) | (go_at_call 38; refine (within_any _ _ _ _).mono ?_; rintro e w' ⟨rfl, rfl⟩) | (go_at_call 40; refine (may_any ⟨id, job, day, state, hold, force, runs, tries, run, at_⟩ xs b _ hx (by have := hq1.size; simp at this; omega) (fun j hj => by rw [hc1 b j (by simp; omega)]; have := HC j hj; have hb3 : ¬ b = w.heap.size := (by omega); go_simp)).mono ?_; rintro e w' ⟨rfl, hq2⟩))
      all_goals go_ret
      all_goals exact ⟨by rw [HE]; rfl, by repeat (with_reducible first | exact Below.refl _ _ | assumption | refine bw_step ?_ (by assumption) | refine bw_alloc ?_ _ | refine bw_drew ?_)⟩
    · have HE : Hid (timedE ⟨id, job, day, state, hold, force, runs, tries, run, at_⟩ c xs = 31) := by show _ = _; unfold timedE; rw [if_pos ⟨hr, hcl⟩]
      simp only [St.v]
      go_enter Try.func44, Try.ntmps44
      go_wp2_with (first | (go_at_call 16; refine (right_any ⟨id, job, day, state, hold, force, runs, tries, run, at_⟩ _).mono ?_; rintro e w' ⟨rfl, hq1⟩; obtain ⟨hc1, hf1, _⟩ := bw_cell hq1; (try (refine bw_lt (w.heap.size) hq1 ?_ ?_; (first | assumption | simp); intro hz1)); (try (refine bw_lt (w.heap.size + 1) hq1 ?_ ?_; (first | assumption | simp); intro hz2)); (try (refine bw_lt (w.heap.size + 2) hq1 ?_ ?_; (first | assumption | simp); intro hz3)); (try (refine bw_lt (w.heap.size + 3) hq1 ?_ ?_; (first | assumption | simp); intro hz4))) | (go_at_call 38; refine (within_any _ _ _ _).mono ?_; rintro e w' ⟨rfl, rfl⟩))
      all_goals go_ret
      all_goals exact ⟨by rw [HE]; rfl, by repeat (with_reducible first | exact Below.refl _ _ | assumption | refine bw_step ?_ (by assumption) | refine bw_alloc ?_ _ | refine bw_drew ?_)⟩
  · have hr' : rightB ⟨id, job, day, state, hold, force, runs, tries, run, at_⟩ = false := by simpa using hr
    have HE : Hid (timedE ⟨id, job, day, state, hold, force, runs, tries, run, at_⟩ c xs = mayE ⟨id, job, day, state, hold, force, runs, tries, run, at_⟩ xs) := by show _ = _; unfold timedE; rw [if_neg (fun h => hr h.1)]
    clear hr
    simp only [St.v]
    go_enter Try.func44, Try.ntmps44
    go_wp2_with (first | (go_at_call 16; refine (right_any ⟨id, job, day, state, hold, force, runs, tries, run, at_⟩ _).mono ?_; rintro e w' ⟨rfl, hq1⟩; obtain ⟨hc1, hf1, _⟩ := bw_cell hq1; (try (refine bw_lt (w.heap.size) hq1 ?_ ?_; (first | assumption | simp); intro hz1)); (try (refine bw_lt (w.heap.size + 1) hq1 ?_ ?_; (first | assumption | simp); intro hz2)); (try (refine bw_lt (w.heap.size + 2) hq1 ?_ ?_; (first | assumption | simp); intro hz3)); (try (refine bw_lt (w.heap.size + 3) hq1 ?_ ?_; (first | assumption | simp); intro hz4))) | (go_at_call 40; refine (may_any ⟨id, job, day, state, hold, force, runs, tries, run, at_⟩ xs b _ hx (by have := hq1.size; simp at this; omega) (fun j hj => by rw [hc1 b j (by simp; omega)]; have := HC j hj; have hb3 : ¬ b = w.heap.size := (by omega); go_simp)).mono ?_; rintro e w' ⟨rfl, hq2⟩))
    all_goals go_ret
    all_goals exact ⟨by rw [HE]; rfl, by repeat (with_reducible first | exact Below.refl _ _ | assumption | refine bw_step ?_ (by assumption) | refine bw_alloc ?_ _ | refine bw_drew ?_)⟩
attribute [irreducible] refuseE mayE timedE
end Go.Proofs.Ytfefbmglimdgjaa.Own
