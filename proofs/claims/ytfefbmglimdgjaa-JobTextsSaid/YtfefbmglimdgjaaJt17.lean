/- dayshift/job's Text, as a plain function of the texts of its parts. No conditions beside those in each theorem. -/
import Derived.Test.YtfefbmglimdgjaaJ17u
import Derived.Test.YtfefbmglimdgjaaPure17c
namespace Go.Proofs.Ytfefbmglimdgjaa.Own
open Go.RowKit
theorem cat_run (a b c : ByteArray) (hc : a ++ b = c) (h : a.size + b.size ≤ 9223372036854775807) (W : World) : (binOp .add 9 (.string a) (.string b)).run Try.prog W = .ok (.string c) W := by
  have h2 : ¬ 9223372036854775807 < a.size + b.size := by omega
  subst hc
  go_simp
/-- The words of a state's number. -/
def stW (c : Int) : ByteArray := if c = 0 then ⟨#[119, 97, 105, 116]⟩ else if c = 1 then ⟨#[114, 117, 110]⟩ else if c = 2 then ⟨#[103, 111, 111, 100]⟩ else ⟨#[98, 97, 100]⟩
def jtext (s : St) (T1 T2 D T3 : ByteArray) : ByteArray :=
  let X := T1 ++ ⟨#[32]⟩ ++ T2 ++ ⟨#[32]⟩ ++ D ++ ⟨#[32]⟩ ++ stW s.state
  if s.hold = true then X ++ ⟨#[32, 104, 101, 108, 100]⟩ else if s.force = true then X ++ ⟨#[32, 102, 111, 114, 99, 101, 100]⟩ else if s.state = 1 then X ++ ⟨#[32, 35]⟩ ++ T3 else X
set_option maxHeartbeats 4000000 in
set_option maxRecDepth 20000 in
theorem jtext_c0 (id job day : Int) (runs tries run at_ : Int) (hr : rightB ⟨id, job, day, 0, true, false, runs, tries, run, at_⟩ = true) (T1 T2 D T3 : ByteArray) (z1 : T1.size ≤ 100) (z2 : T2.size ≤ 100) (zD : D.size ≤ 100) (z3 : T3.size ≤ 100)
    (hN1 : ∀ w : World, Calls Try.prog 52 #[.int .i64 id] w fun e w' => e = .returned (.string T1) ∧ w = w') (hN2 : ∀ w : World, Calls Try.prog 52 #[.int .i64 job] w fun e w' => e = .returned (.string T2) ∧ w = w')
    (hD : ∀ w : World, Calls Try.prog 51 #[.int .i64 day] w fun e w' => e = .returned (.tuple #[.string D, .int .i64 0]) ∧ Below w.heap.size w w') (hN3 : ∀ w : World, Calls Try.prog 52 #[.int .i64 run] w fun e w' => e = .returned (.string T3) ∧ w = w') (w : World) :
    Calls Try.prog 19 #[St.v ⟨id, job, day, 0, true, false, runs, tries, run, at_⟩] w fun e w' => e = .returned (.string (jtext ⟨id, job, day, 0, true, false, runs, tries, run, at_⟩ T1 T2 D T3)) ∧ Below w.heap.size w w' := by
  have hidx : ∀ W : World, (Instr.index 81 (.agg #[.string ⟨#[119, 97, 105, 116]⟩, .string ⟨#[114, 117, 110]⟩, .string ⟨#[103, 111, 111, 100]⟩, .string ⟨#[98, 97, 100]⟩]) (.int .i64 0)).run Try.prog W = .ok (.string ⟨#[119, 97, 105, 116]⟩) W := by
    intro W
    simp [Instr.index, go_sem]
  have hR : ∀ w : World, Calls Try.prog 16 #[St.v ⟨id, job, day, 0, true, false, runs, tries, run, at_⟩] w fun e w' => e = .returned (.bool true) ∧ Below w.heap.size w w' := fun w => by have := right_any ⟨id, job, day, 0, true, false, runs, tries, run, at_⟩ w; rwa [hr] at this
  have u0 : T1.size + 1 ≤ 9223372036854775807 := by omega
  have v0 : (9223372036854775807 < T1.size + 1) = False := eq_false (by omega)
  have uu0 : T1.size ≤ 9223372036854775806 := by omega
  have vv0 : (9223372036854775806 < T1.size) = False := eq_false (by omega)
  have u1 : T1.size + 1 + T2.size ≤ 9223372036854775807 := by omega
  have v1 : (9223372036854775807 < T1.size + 1 + T2.size) = False := eq_false (by omega)
  have u2 : T1.size + 1 + T2.size + 1 ≤ 9223372036854775807 := by omega
  have v2 : (9223372036854775807 < T1.size + 1 + T2.size + 1) = False := eq_false (by omega)
  have uu2 : T1.size + 1 + T2.size ≤ 9223372036854775806 := by omega
  have vv2 : (9223372036854775806 < T1.size + 1 + T2.size) = False := eq_false (by omega)
  have u3 : T1.size + 1 + T2.size + 1 + D.size ≤ 9223372036854775807 := by omega
  have v3 : (9223372036854775807 < T1.size + 1 + T2.size + 1 + D.size) = False := eq_false (by omega)
  have u4 : T1.size + 1 + T2.size + 1 + D.size + 1 ≤ 9223372036854775807 := by omega
  have v4 : (9223372036854775807 < T1.size + 1 + T2.size + 1 + D.size + 1) = False := eq_false (by omega)
  have uu4 : T1.size + 1 + T2.size + 1 + D.size ≤ 9223372036854775806 := by omega
  have vv4 : (9223372036854775806 < T1.size + 1 + T2.size + 1 + D.size) = False := eq_false (by omega)
  have u5 : T1.size + 1 + T2.size + 1 + D.size + 1 + 4 ≤ 9223372036854775807 := by omega
  have v5 : (9223372036854775807 < T1.size + 1 + T2.size + 1 + D.size + 1 + 4) = False := eq_false (by omega)
  have uu5 : T1.size + 1 + T2.size + 1 + D.size + 1 ≤ 9223372036854775803 := by omega
  have vv5 : (9223372036854775803 < T1.size + 1 + T2.size + 1 + D.size + 1) = False := eq_false (by omega)
  have u6 : T1.size + 1 + T2.size + 1 + D.size + 1 + 4 + 5 ≤ 9223372036854775807 := by omega
  have v6 : (9223372036854775807 < T1.size + 1 + T2.size + 1 + D.size + 1 + 4 + 5) = False := eq_false (by omega)
  have uu6 : T1.size + 1 + T2.size + 1 + D.size + 1 + 4 ≤ 9223372036854775802 := by omega
  have vv6 : (9223372036854775802 < T1.size + 1 + T2.size + 1 + D.size + 1 + 4) = False := eq_false (by omega)
  clear z1 z2 zD z3
  simp only [St.v] at hR ⊢
  go_enter Try.func19, Try.ntmps19
  go_wp2_with (first | (go_at_call 16; refine (hR _).mono ?_; rintro e w1 ⟨rfl, hq1⟩; have hS1 := ks_step (ks_refl _) hq1; obtain ⟨hc1, hf1, _⟩ := bw_cell hq1) | (go_at_call 51; refine (hD _).mono ?_; rintro e w2 ⟨rfl, hq2⟩; have hS2 := ks_step hS1 hq2))
  go_region_held3 (fun W => KS (w.alloc (.cells #[.int .i64 id, .int .i64 job, .int .i64 day, .int .i64 0, .bool true, .bool false, .int .i64 runs, .int .i64 tries, .int .i64 run, .int .i64 at_] 35)) W)
    (with_reducible (first | assumption | exact ks_drew (by assumption)))
    (first | (go_at_call 52; first | ((with_reducible refine (hN1 _).mono ?_); rintro e w' ⟨rfl, rfl⟩) | ((with_reducible refine (hN2 _).mono ?_); rintro e w' ⟨rfl, rfl⟩)))
  all_goals (
    rename_i hH
    obtain ⟨hc3, hf3, _, hB⟩ := hH
    go_wp2_with (go_at_call 52; (with_reducible refine (hN3 _).mono ?_); rintro e w' ⟨rfl, rfl⟩)
    go_ret
    exact ⟨congrArg (fun s => Ending.returned (.string s)) (by first | rfl | (simp [jtext, stW]; done)), bw_step (bw_alloc (Below.refl _ _) _) hB⟩)
set_option maxHeartbeats 4000000 in
set_option maxRecDepth 20000 in
theorem jtext_c1 (id job day : Int) (runs tries run at_ : Int) (hr : rightB ⟨id, job, day, 0, false, true, runs, tries, run, at_⟩ = true) (T1 T2 D T3 : ByteArray) (z1 : T1.size ≤ 100) (z2 : T2.size ≤ 100) (zD : D.size ≤ 100) (z3 : T3.size ≤ 100)
    (hN1 : ∀ w : World, Calls Try.prog 52 #[.int .i64 id] w fun e w' => e = .returned (.string T1) ∧ w = w') (hN2 : ∀ w : World, Calls Try.prog 52 #[.int .i64 job] w fun e w' => e = .returned (.string T2) ∧ w = w')
    (hD : ∀ w : World, Calls Try.prog 51 #[.int .i64 day] w fun e w' => e = .returned (.tuple #[.string D, .int .i64 0]) ∧ Below w.heap.size w w') (hN3 : ∀ w : World, Calls Try.prog 52 #[.int .i64 run] w fun e w' => e = .returned (.string T3) ∧ w = w') (w : World) :
    Calls Try.prog 19 #[St.v ⟨id, job, day, 0, false, true, runs, tries, run, at_⟩] w fun e w' => e = .returned (.string (jtext ⟨id, job, day, 0, false, true, runs, tries, run, at_⟩ T1 T2 D T3)) ∧ Below w.heap.size w w' := by
  have hidx : ∀ W : World, (Instr.index 81 (.agg #[.string ⟨#[119, 97, 105, 116]⟩, .string ⟨#[114, 117, 110]⟩, .string ⟨#[103, 111, 111, 100]⟩, .string ⟨#[98, 97, 100]⟩]) (.int .i64 0)).run Try.prog W = .ok (.string ⟨#[119, 97, 105, 116]⟩) W := by
    intro W
    simp [Instr.index, go_sem]
  have hR : ∀ w : World, Calls Try.prog 16 #[St.v ⟨id, job, day, 0, false, true, runs, tries, run, at_⟩] w fun e w' => e = .returned (.bool true) ∧ Below w.heap.size w w' := fun w => by have := right_any ⟨id, job, day, 0, false, true, runs, tries, run, at_⟩ w; rwa [hr] at this
  have u0 : T1.size + 1 ≤ 9223372036854775807 := by omega
  have v0 : (9223372036854775807 < T1.size + 1) = False := eq_false (by omega)
  have uu0 : T1.size ≤ 9223372036854775806 := by omega
  have vv0 : (9223372036854775806 < T1.size) = False := eq_false (by omega)
  have u1 : T1.size + 1 + T2.size ≤ 9223372036854775807 := by omega
  have v1 : (9223372036854775807 < T1.size + 1 + T2.size) = False := eq_false (by omega)
  have u2 : T1.size + 1 + T2.size + 1 ≤ 9223372036854775807 := by omega
  have v2 : (9223372036854775807 < T1.size + 1 + T2.size + 1) = False := eq_false (by omega)
  have uu2 : T1.size + 1 + T2.size ≤ 9223372036854775806 := by omega
  have vv2 : (9223372036854775806 < T1.size + 1 + T2.size) = False := eq_false (by omega)
  have u3 : T1.size + 1 + T2.size + 1 + D.size ≤ 9223372036854775807 := by omega
  have v3 : (9223372036854775807 < T1.size + 1 + T2.size + 1 + D.size) = False := eq_false (by omega)
  have u4 : T1.size + 1 + T2.size + 1 + D.size + 1 ≤ 9223372036854775807 := by omega
  have v4 : (9223372036854775807 < T1.size + 1 + T2.size + 1 + D.size + 1) = False := eq_false (by omega)
  have uu4 : T1.size + 1 + T2.size + 1 + D.size ≤ 9223372036854775806 := by omega
  have vv4 : (9223372036854775806 < T1.size + 1 + T2.size + 1 + D.size) = False := eq_false (by omega)
  have u5 : T1.size + 1 + T2.size + 1 + D.size + 1 + 4 ≤ 9223372036854775807 := by omega
  have v5 : (9223372036854775807 < T1.size + 1 + T2.size + 1 + D.size + 1 + 4) = False := eq_false (by omega)
  have uu5 : T1.size + 1 + T2.size + 1 + D.size + 1 ≤ 9223372036854775803 := by omega
  have vv5 : (9223372036854775803 < T1.size + 1 + T2.size + 1 + D.size + 1) = False := eq_false (by omega)
  have u6 : T1.size + 1 + T2.size + 1 + D.size + 1 + 4 + 7 ≤ 9223372036854775807 := by omega
  have v6 : (9223372036854775807 < T1.size + 1 + T2.size + 1 + D.size + 1 + 4 + 7) = False := eq_false (by omega)
  have uu6 : T1.size + 1 + T2.size + 1 + D.size + 1 + 4 ≤ 9223372036854775800 := by omega
  have vv6 : (9223372036854775800 < T1.size + 1 + T2.size + 1 + D.size + 1 + 4) = False := eq_false (by omega)
  clear z1 z2 zD z3
  simp only [St.v] at hR ⊢
  go_enter Try.func19, Try.ntmps19
  go_wp2_with (first | (go_at_call 16; refine (hR _).mono ?_; rintro e w1 ⟨rfl, hq1⟩; have hS1 := ks_step (ks_refl _) hq1; obtain ⟨hc1, hf1, _⟩ := bw_cell hq1) | (go_at_call 51; refine (hD _).mono ?_; rintro e w2 ⟨rfl, hq2⟩; have hS2 := ks_step hS1 hq2))
  go_region_held3 (fun W => KS (w.alloc (.cells #[.int .i64 id, .int .i64 job, .int .i64 day, .int .i64 0, .bool false, .bool true, .int .i64 runs, .int .i64 tries, .int .i64 run, .int .i64 at_] 35)) W)
    (with_reducible (first | assumption | exact ks_drew (by assumption)))
    (first | (go_at_call 52; first | ((with_reducible refine (hN1 _).mono ?_); rintro e w' ⟨rfl, rfl⟩) | ((with_reducible refine (hN2 _).mono ?_); rintro e w' ⟨rfl, rfl⟩)))
  all_goals (
    rename_i hH
    obtain ⟨hc3, hf3, _, hB⟩ := hH
    go_wp2_with (go_at_call 52; (with_reducible refine (hN3 _).mono ?_); rintro e w' ⟨rfl, rfl⟩)
    go_ret
    exact ⟨congrArg (fun s => Ending.returned (.string s)) (by first | rfl | (simp [jtext, stW]; done)), bw_step (bw_alloc (Below.refl _ _) _) hB⟩)
set_option maxHeartbeats 4000000 in
set_option maxRecDepth 20000 in
theorem jtext_c2 (id job day : Int) (runs tries run at_ : Int) (hr : rightB ⟨id, job, day, 0, false, false, runs, tries, run, at_⟩ = true) (T1 T2 D T3 : ByteArray) (z1 : T1.size ≤ 100) (z2 : T2.size ≤ 100) (zD : D.size ≤ 100) (z3 : T3.size ≤ 100)
    (hN1 : ∀ w : World, Calls Try.prog 52 #[.int .i64 id] w fun e w' => e = .returned (.string T1) ∧ w = w') (hN2 : ∀ w : World, Calls Try.prog 52 #[.int .i64 job] w fun e w' => e = .returned (.string T2) ∧ w = w')
    (hD : ∀ w : World, Calls Try.prog 51 #[.int .i64 day] w fun e w' => e = .returned (.tuple #[.string D, .int .i64 0]) ∧ Below w.heap.size w w') (hN3 : ∀ w : World, Calls Try.prog 52 #[.int .i64 run] w fun e w' => e = .returned (.string T3) ∧ w = w') (w : World) :
    Calls Try.prog 19 #[St.v ⟨id, job, day, 0, false, false, runs, tries, run, at_⟩] w fun e w' => e = .returned (.string (jtext ⟨id, job, day, 0, false, false, runs, tries, run, at_⟩ T1 T2 D T3)) ∧ Below w.heap.size w w' := by
  have hidx : ∀ W : World, (Instr.index 81 (.agg #[.string ⟨#[119, 97, 105, 116]⟩, .string ⟨#[114, 117, 110]⟩, .string ⟨#[103, 111, 111, 100]⟩, .string ⟨#[98, 97, 100]⟩]) (.int .i64 0)).run Try.prog W = .ok (.string ⟨#[119, 97, 105, 116]⟩) W := by
    intro W
    simp [Instr.index, go_sem]
  have hR : ∀ w : World, Calls Try.prog 16 #[St.v ⟨id, job, day, 0, false, false, runs, tries, run, at_⟩] w fun e w' => e = .returned (.bool true) ∧ Below w.heap.size w w' := fun w => by have := right_any ⟨id, job, day, 0, false, false, runs, tries, run, at_⟩ w; rwa [hr] at this
  have u0 : T1.size + 1 ≤ 9223372036854775807 := by omega
  have v0 : (9223372036854775807 < T1.size + 1) = False := eq_false (by omega)
  have uu0 : T1.size ≤ 9223372036854775806 := by omega
  have vv0 : (9223372036854775806 < T1.size) = False := eq_false (by omega)
  have u1 : T1.size + 1 + T2.size ≤ 9223372036854775807 := by omega
  have v1 : (9223372036854775807 < T1.size + 1 + T2.size) = False := eq_false (by omega)
  have u2 : T1.size + 1 + T2.size + 1 ≤ 9223372036854775807 := by omega
  have v2 : (9223372036854775807 < T1.size + 1 + T2.size + 1) = False := eq_false (by omega)
  have uu2 : T1.size + 1 + T2.size ≤ 9223372036854775806 := by omega
  have vv2 : (9223372036854775806 < T1.size + 1 + T2.size) = False := eq_false (by omega)
  have u3 : T1.size + 1 + T2.size + 1 + D.size ≤ 9223372036854775807 := by omega
  have v3 : (9223372036854775807 < T1.size + 1 + T2.size + 1 + D.size) = False := eq_false (by omega)
  have u4 : T1.size + 1 + T2.size + 1 + D.size + 1 ≤ 9223372036854775807 := by omega
  have v4 : (9223372036854775807 < T1.size + 1 + T2.size + 1 + D.size + 1) = False := eq_false (by omega)
  have uu4 : T1.size + 1 + T2.size + 1 + D.size ≤ 9223372036854775806 := by omega
  have vv4 : (9223372036854775806 < T1.size + 1 + T2.size + 1 + D.size) = False := eq_false (by omega)
  have u5 : T1.size + 1 + T2.size + 1 + D.size + 1 + 4 ≤ 9223372036854775807 := by omega
  have v5 : (9223372036854775807 < T1.size + 1 + T2.size + 1 + D.size + 1 + 4) = False := eq_false (by omega)
  have uu5 : T1.size + 1 + T2.size + 1 + D.size + 1 ≤ 9223372036854775803 := by omega
  have vv5 : (9223372036854775803 < T1.size + 1 + T2.size + 1 + D.size + 1) = False := eq_false (by omega)
  clear z1 z2 zD z3
  simp only [St.v] at hR ⊢
  go_enter Try.func19, Try.ntmps19
  go_wp2_with (first | (go_at_call 16; refine (hR _).mono ?_; rintro e w1 ⟨rfl, hq1⟩; have hS1 := ks_step (ks_refl _) hq1; obtain ⟨hc1, hf1, _⟩ := bw_cell hq1) | (go_at_call 51; refine (hD _).mono ?_; rintro e w2 ⟨rfl, hq2⟩; have hS2 := ks_step hS1 hq2))
  go_region_held3 (fun W => KS (w.alloc (.cells #[.int .i64 id, .int .i64 job, .int .i64 day, .int .i64 0, .bool false, .bool false, .int .i64 runs, .int .i64 tries, .int .i64 run, .int .i64 at_] 35)) W)
    (with_reducible (first | assumption | exact ks_drew (by assumption)))
    (first | (go_at_call 52; first | ((with_reducible refine (hN1 _).mono ?_); rintro e w' ⟨rfl, rfl⟩) | ((with_reducible refine (hN2 _).mono ?_); rintro e w' ⟨rfl, rfl⟩)))
  all_goals (
    rename_i hH
    obtain ⟨hc3, hf3, _, hB⟩ := hH
    go_wp2_with (go_at_call 52; (with_reducible refine (hN3 _).mono ?_); rintro e w' ⟨rfl, rfl⟩)
    go_ret
    exact ⟨congrArg (fun s => Ending.returned (.string s)) (by first | rfl | (simp [jtext, stW]; done)), bw_step (bw_alloc (Below.refl _ _) _) hB⟩)
set_option maxHeartbeats 4000000 in
set_option maxRecDepth 20000 in
theorem jtext_c3 (id job day : Int) (runs tries run at_ : Int) (hr : rightB ⟨id, job, day, 1, false, false, runs, tries, run, at_⟩ = true) (T1 T2 D T3 : ByteArray) (z1 : T1.size ≤ 100) (z2 : T2.size ≤ 100) (zD : D.size ≤ 100) (z3 : T3.size ≤ 100)
    (hN1 : ∀ w : World, Calls Try.prog 52 #[.int .i64 id] w fun e w' => e = .returned (.string T1) ∧ w = w') (hN2 : ∀ w : World, Calls Try.prog 52 #[.int .i64 job] w fun e w' => e = .returned (.string T2) ∧ w = w')
    (hD : ∀ w : World, Calls Try.prog 51 #[.int .i64 day] w fun e w' => e = .returned (.tuple #[.string D, .int .i64 0]) ∧ Below w.heap.size w w') (hN3 : ∀ w : World, Calls Try.prog 52 #[.int .i64 run] w fun e w' => e = .returned (.string T3) ∧ w = w') (w : World) :
    Calls Try.prog 19 #[St.v ⟨id, job, day, 1, false, false, runs, tries, run, at_⟩] w fun e w' => e = .returned (.string (jtext ⟨id, job, day, 1, false, false, runs, tries, run, at_⟩ T1 T2 D T3)) ∧ Below w.heap.size w w' := by
  have hidx : ∀ W : World, (Instr.index 81 (.agg #[.string ⟨#[119, 97, 105, 116]⟩, .string ⟨#[114, 117, 110]⟩, .string ⟨#[103, 111, 111, 100]⟩, .string ⟨#[98, 97, 100]⟩]) (.int .i64 1)).run Try.prog W = .ok (.string ⟨#[114, 117, 110]⟩) W := by
    intro W
    simp [Instr.index, go_sem]
  have hR : ∀ w : World, Calls Try.prog 16 #[St.v ⟨id, job, day, 1, false, false, runs, tries, run, at_⟩] w fun e w' => e = .returned (.bool true) ∧ Below w.heap.size w w' := fun w => by have := right_any ⟨id, job, day, 1, false, false, runs, tries, run, at_⟩ w; rwa [hr] at this
  have u0 : T1.size + 1 ≤ 9223372036854775807 := by omega
  have v0 : (9223372036854775807 < T1.size + 1) = False := eq_false (by omega)
  have uu0 : T1.size ≤ 9223372036854775806 := by omega
  have vv0 : (9223372036854775806 < T1.size) = False := eq_false (by omega)
  have u1 : T1.size + 1 + T2.size ≤ 9223372036854775807 := by omega
  have v1 : (9223372036854775807 < T1.size + 1 + T2.size) = False := eq_false (by omega)
  have u2 : T1.size + 1 + T2.size + 1 ≤ 9223372036854775807 := by omega
  have v2 : (9223372036854775807 < T1.size + 1 + T2.size + 1) = False := eq_false (by omega)
  have uu2 : T1.size + 1 + T2.size ≤ 9223372036854775806 := by omega
  have vv2 : (9223372036854775806 < T1.size + 1 + T2.size) = False := eq_false (by omega)
  have u3 : T1.size + 1 + T2.size + 1 + D.size ≤ 9223372036854775807 := by omega
  have v3 : (9223372036854775807 < T1.size + 1 + T2.size + 1 + D.size) = False := eq_false (by omega)
  have u4 : T1.size + 1 + T2.size + 1 + D.size + 1 ≤ 9223372036854775807 := by omega
  have v4 : (9223372036854775807 < T1.size + 1 + T2.size + 1 + D.size + 1) = False := eq_false (by omega)
  have uu4 : T1.size + 1 + T2.size + 1 + D.size ≤ 9223372036854775806 := by omega
  have vv4 : (9223372036854775806 < T1.size + 1 + T2.size + 1 + D.size) = False := eq_false (by omega)
  have u5 : T1.size + 1 + T2.size + 1 + D.size + 1 + 3 ≤ 9223372036854775807 := by omega
  have v5 : (9223372036854775807 < T1.size + 1 + T2.size + 1 + D.size + 1 + 3) = False := eq_false (by omega)
  have uu5 : T1.size + 1 + T2.size + 1 + D.size + 1 ≤ 9223372036854775804 := by omega
  have vv5 : (9223372036854775804 < T1.size + 1 + T2.size + 1 + D.size + 1) = False := eq_false (by omega)
  have u6 : T1.size + 1 + T2.size + 1 + D.size + 1 + 3 + 2 ≤ 9223372036854775807 := by omega
  have v6 : (9223372036854775807 < T1.size + 1 + T2.size + 1 + D.size + 1 + 3 + 2) = False := eq_false (by omega)
  have uu6 : T1.size + 1 + T2.size + 1 + D.size + 1 + 3 ≤ 9223372036854775805 := by omega
  have vv6 : (9223372036854775805 < T1.size + 1 + T2.size + 1 + D.size + 1 + 3) = False := eq_false (by omega)
  have u7 : T1.size + 1 + T2.size + 1 + D.size + 1 + 3 + 2 + T3.size ≤ 9223372036854775807 := by omega
  have v7 : (9223372036854775807 < T1.size + 1 + T2.size + 1 + D.size + 1 + 3 + 2 + T3.size) = False := eq_false (by omega)
  clear z1 z2 zD z3
  simp only [St.v] at hR ⊢
  go_enter Try.func19, Try.ntmps19
  go_wp2_with (first | (go_at_call 16; refine (hR _).mono ?_; rintro e w1 ⟨rfl, hq1⟩; have hS1 := ks_step (ks_refl _) hq1; obtain ⟨hc1, hf1, _⟩ := bw_cell hq1) | (go_at_call 51; refine (hD _).mono ?_; rintro e w2 ⟨rfl, hq2⟩; have hS2 := ks_step hS1 hq2))
  go_region_held3 (fun W => KS (w.alloc (.cells #[.int .i64 id, .int .i64 job, .int .i64 day, .int .i64 1, .bool false, .bool false, .int .i64 runs, .int .i64 tries, .int .i64 run, .int .i64 at_] 35)) W)
    (with_reducible (first | assumption | exact ks_drew (by assumption)))
    (first | (go_at_call 52; first | ((with_reducible refine (hN1 _).mono ?_); rintro e w' ⟨rfl, rfl⟩) | ((with_reducible refine (hN2 _).mono ?_); rintro e w' ⟨rfl, rfl⟩)))
  all_goals (
    rename_i hH
    obtain ⟨hc3, hf3, _, hB⟩ := hH
    go_wp2_with (go_at_call 52; (with_reducible refine (hN3 _).mono ?_); rintro e w' ⟨rfl, rfl⟩)
    go_ret
    exact ⟨congrArg (fun s => Ending.returned (.string s)) (by first | rfl | (simp [jtext, stW]; done)), bw_step (bw_alloc (Below.refl _ _) _) hB⟩)
set_option maxHeartbeats 4000000 in
set_option maxRecDepth 20000 in
theorem jtext_c4 (id job day : Int) (runs tries run at_ : Int) (hr : rightB ⟨id, job, day, 2, false, false, runs, tries, run, at_⟩ = true) (T1 T2 D T3 : ByteArray) (z1 : T1.size ≤ 100) (z2 : T2.size ≤ 100) (zD : D.size ≤ 100) (z3 : T3.size ≤ 100)
    (hN1 : ∀ w : World, Calls Try.prog 52 #[.int .i64 id] w fun e w' => e = .returned (.string T1) ∧ w = w') (hN2 : ∀ w : World, Calls Try.prog 52 #[.int .i64 job] w fun e w' => e = .returned (.string T2) ∧ w = w')
    (hD : ∀ w : World, Calls Try.prog 51 #[.int .i64 day] w fun e w' => e = .returned (.tuple #[.string D, .int .i64 0]) ∧ Below w.heap.size w w') (hN3 : ∀ w : World, Calls Try.prog 52 #[.int .i64 run] w fun e w' => e = .returned (.string T3) ∧ w = w') (w : World) :
    Calls Try.prog 19 #[St.v ⟨id, job, day, 2, false, false, runs, tries, run, at_⟩] w fun e w' => e = .returned (.string (jtext ⟨id, job, day, 2, false, false, runs, tries, run, at_⟩ T1 T2 D T3)) ∧ Below w.heap.size w w' := by
  have hidx : ∀ W : World, (Instr.index 81 (.agg #[.string ⟨#[119, 97, 105, 116]⟩, .string ⟨#[114, 117, 110]⟩, .string ⟨#[103, 111, 111, 100]⟩, .string ⟨#[98, 97, 100]⟩]) (.int .i64 2)).run Try.prog W = .ok (.string ⟨#[103, 111, 111, 100]⟩) W := by
    intro W
    simp [Instr.index, go_sem]
  have hR : ∀ w : World, Calls Try.prog 16 #[St.v ⟨id, job, day, 2, false, false, runs, tries, run, at_⟩] w fun e w' => e = .returned (.bool true) ∧ Below w.heap.size w w' := fun w => by have := right_any ⟨id, job, day, 2, false, false, runs, tries, run, at_⟩ w; rwa [hr] at this
  have u0 : T1.size + 1 ≤ 9223372036854775807 := by omega
  have v0 : (9223372036854775807 < T1.size + 1) = False := eq_false (by omega)
  have uu0 : T1.size ≤ 9223372036854775806 := by omega
  have vv0 : (9223372036854775806 < T1.size) = False := eq_false (by omega)
  have u1 : T1.size + 1 + T2.size ≤ 9223372036854775807 := by omega
  have v1 : (9223372036854775807 < T1.size + 1 + T2.size) = False := eq_false (by omega)
  have u2 : T1.size + 1 + T2.size + 1 ≤ 9223372036854775807 := by omega
  have v2 : (9223372036854775807 < T1.size + 1 + T2.size + 1) = False := eq_false (by omega)
  have uu2 : T1.size + 1 + T2.size ≤ 9223372036854775806 := by omega
  have vv2 : (9223372036854775806 < T1.size + 1 + T2.size) = False := eq_false (by omega)
  have u3 : T1.size + 1 + T2.size + 1 + D.size ≤ 9223372036854775807 := by omega
  have v3 : (9223372036854775807 < T1.size + 1 + T2.size + 1 + D.size) = False := eq_false (by omega)
  have u4 : T1.size + 1 + T2.size + 1 + D.size + 1 ≤ 9223372036854775807 := by omega
  have v4 : (9223372036854775807 < T1.size + 1 + T2.size + 1 + D.size + 1) = False := eq_false (by omega)
  have uu4 : T1.size + 1 + T2.size + 1 + D.size ≤ 9223372036854775806 := by omega
  have vv4 : (9223372036854775806 < T1.size + 1 + T2.size + 1 + D.size) = False := eq_false (by omega)
  have u5 : T1.size + 1 + T2.size + 1 + D.size + 1 + 4 ≤ 9223372036854775807 := by omega
  have v5 : (9223372036854775807 < T1.size + 1 + T2.size + 1 + D.size + 1 + 4) = False := eq_false (by omega)
  have uu5 : T1.size + 1 + T2.size + 1 + D.size + 1 ≤ 9223372036854775803 := by omega
  have vv5 : (9223372036854775803 < T1.size + 1 + T2.size + 1 + D.size + 1) = False := eq_false (by omega)
  clear z1 z2 zD z3
  simp only [St.v] at hR ⊢
  go_enter Try.func19, Try.ntmps19
  go_wp2_with (first | (go_at_call 16; refine (hR _).mono ?_; rintro e w1 ⟨rfl, hq1⟩; have hS1 := ks_step (ks_refl _) hq1; obtain ⟨hc1, hf1, _⟩ := bw_cell hq1) | (go_at_call 51; refine (hD _).mono ?_; rintro e w2 ⟨rfl, hq2⟩; have hS2 := ks_step hS1 hq2))
  go_region_held3 (fun W => KS (w.alloc (.cells #[.int .i64 id, .int .i64 job, .int .i64 day, .int .i64 2, .bool false, .bool false, .int .i64 runs, .int .i64 tries, .int .i64 run, .int .i64 at_] 35)) W)
    (with_reducible (first | assumption | exact ks_drew (by assumption)))
    (first | (go_at_call 52; first | ((with_reducible refine (hN1 _).mono ?_); rintro e w' ⟨rfl, rfl⟩) | ((with_reducible refine (hN2 _).mono ?_); rintro e w' ⟨rfl, rfl⟩)))
  all_goals (
    rename_i hH
    obtain ⟨hc3, hf3, _, hB⟩ := hH
    go_wp2_with (go_at_call 52; (with_reducible refine (hN3 _).mono ?_); rintro e w' ⟨rfl, rfl⟩)
    go_ret
    exact ⟨congrArg (fun s => Ending.returned (.string s)) (by first | rfl | (simp [jtext, stW]; done)), bw_step (bw_alloc (Below.refl _ _) _) hB⟩)
set_option maxHeartbeats 4000000 in
set_option maxRecDepth 20000 in
theorem jtext_c5 (id job day : Int) (runs tries run at_ : Int) (hr : rightB ⟨id, job, day, 3, false, false, runs, tries, run, at_⟩ = true) (T1 T2 D T3 : ByteArray) (z1 : T1.size ≤ 100) (z2 : T2.size ≤ 100) (zD : D.size ≤ 100) (z3 : T3.size ≤ 100)
    (hN1 : ∀ w : World, Calls Try.prog 52 #[.int .i64 id] w fun e w' => e = .returned (.string T1) ∧ w = w') (hN2 : ∀ w : World, Calls Try.prog 52 #[.int .i64 job] w fun e w' => e = .returned (.string T2) ∧ w = w')
    (hD : ∀ w : World, Calls Try.prog 51 #[.int .i64 day] w fun e w' => e = .returned (.tuple #[.string D, .int .i64 0]) ∧ Below w.heap.size w w') (hN3 : ∀ w : World, Calls Try.prog 52 #[.int .i64 run] w fun e w' => e = .returned (.string T3) ∧ w = w') (w : World) :
    Calls Try.prog 19 #[St.v ⟨id, job, day, 3, false, false, runs, tries, run, at_⟩] w fun e w' => e = .returned (.string (jtext ⟨id, job, day, 3, false, false, runs, tries, run, at_⟩ T1 T2 D T3)) ∧ Below w.heap.size w w' := by
  have hidx : ∀ W : World, (Instr.index 81 (.agg #[.string ⟨#[119, 97, 105, 116]⟩, .string ⟨#[114, 117, 110]⟩, .string ⟨#[103, 111, 111, 100]⟩, .string ⟨#[98, 97, 100]⟩]) (.int .i64 3)).run Try.prog W = .ok (.string ⟨#[98, 97, 100]⟩) W := by
    intro W
    simp [Instr.index, go_sem]
  have hR : ∀ w : World, Calls Try.prog 16 #[St.v ⟨id, job, day, 3, false, false, runs, tries, run, at_⟩] w fun e w' => e = .returned (.bool true) ∧ Below w.heap.size w w' := fun w => by have := right_any ⟨id, job, day, 3, false, false, runs, tries, run, at_⟩ w; rwa [hr] at this
  have u0 : T1.size + 1 ≤ 9223372036854775807 := by omega
  have v0 : (9223372036854775807 < T1.size + 1) = False := eq_false (by omega)
  have uu0 : T1.size ≤ 9223372036854775806 := by omega
  have vv0 : (9223372036854775806 < T1.size) = False := eq_false (by omega)
  have u1 : T1.size + 1 + T2.size ≤ 9223372036854775807 := by omega
  have v1 : (9223372036854775807 < T1.size + 1 + T2.size) = False := eq_false (by omega)
  have u2 : T1.size + 1 + T2.size + 1 ≤ 9223372036854775807 := by omega
  have v2 : (9223372036854775807 < T1.size + 1 + T2.size + 1) = False := eq_false (by omega)
  have uu2 : T1.size + 1 + T2.size ≤ 9223372036854775806 := by omega
  have vv2 : (9223372036854775806 < T1.size + 1 + T2.size) = False := eq_false (by omega)
  have u3 : T1.size + 1 + T2.size + 1 + D.size ≤ 9223372036854775807 := by omega
  have v3 : (9223372036854775807 < T1.size + 1 + T2.size + 1 + D.size) = False := eq_false (by omega)
  have u4 : T1.size + 1 + T2.size + 1 + D.size + 1 ≤ 9223372036854775807 := by omega
  have v4 : (9223372036854775807 < T1.size + 1 + T2.size + 1 + D.size + 1) = False := eq_false (by omega)
  have uu4 : T1.size + 1 + T2.size + 1 + D.size ≤ 9223372036854775806 := by omega
  have vv4 : (9223372036854775806 < T1.size + 1 + T2.size + 1 + D.size) = False := eq_false (by omega)
  have u5 : T1.size + 1 + T2.size + 1 + D.size + 1 + 3 ≤ 9223372036854775807 := by omega
  have v5 : (9223372036854775807 < T1.size + 1 + T2.size + 1 + D.size + 1 + 3) = False := eq_false (by omega)
  have uu5 : T1.size + 1 + T2.size + 1 + D.size + 1 ≤ 9223372036854775804 := by omega
  have vv5 : (9223372036854775804 < T1.size + 1 + T2.size + 1 + D.size + 1) = False := eq_false (by omega)
  clear z1 z2 zD z3
  simp only [St.v] at hR ⊢
  go_enter Try.func19, Try.ntmps19
  go_wp2_with (first | (go_at_call 16; refine (hR _).mono ?_; rintro e w1 ⟨rfl, hq1⟩; have hS1 := ks_step (ks_refl _) hq1; obtain ⟨hc1, hf1, _⟩ := bw_cell hq1) | (go_at_call 51; refine (hD _).mono ?_; rintro e w2 ⟨rfl, hq2⟩; have hS2 := ks_step hS1 hq2))
  go_region_held3 (fun W => KS (w.alloc (.cells #[.int .i64 id, .int .i64 job, .int .i64 day, .int .i64 3, .bool false, .bool false, .int .i64 runs, .int .i64 tries, .int .i64 run, .int .i64 at_] 35)) W)
    (with_reducible (first | assumption | exact ks_drew (by assumption)))
    (first | (go_at_call 52; first | ((with_reducible refine (hN1 _).mono ?_); rintro e w' ⟨rfl, rfl⟩) | ((with_reducible refine (hN2 _).mono ?_); rintro e w' ⟨rfl, rfl⟩)))
  all_goals (
    rename_i hH
    obtain ⟨hc3, hf3, _, hB⟩ := hH
    go_wp2_with (go_at_call 52; (with_reducible refine (hN3 _).mono ?_); rintro e w' ⟨rfl, rfl⟩)
    go_ret
    exact ⟨congrArg (fun s => Ending.returned (.string s)) (by first | rfl | (simp [jtext, stW]; done)), bw_step (bw_alloc (Below.refl _ _) _) hB⟩)
theorem jtext_any (s : St) (hr : rightB s = true) (T1 T2 D T3 : ByteArray) (z1 : T1.size ≤ 100) (z2 : T2.size ≤ 100) (zD : D.size ≤ 100) (z3 : T3.size ≤ 100)
    (hN1 : ∀ w : World, Calls Try.prog 52 #[.int .i64 s.id] w fun e w' => e = .returned (.string T1) ∧ w = w') (hN2 : ∀ w : World, Calls Try.prog 52 #[.int .i64 s.job] w fun e w' => e = .returned (.string T2) ∧ w = w')
    (hD : ∀ w : World, Calls Try.prog 51 #[.int .i64 s.day] w fun e w' => e = .returned (.tuple #[.string D, .int .i64 0]) ∧ Below w.heap.size w w') (hN3 : ∀ w : World, Calls Try.prog 52 #[.int .i64 s.run] w fun e w' => e = .returned (.string T3) ∧ w = w') (w : World) :
    Calls Try.prog 19 #[s.v] w fun e w' => e = .returned (.string (jtext s T1 T2 D T3)) ∧ Below w.heap.size w w' := by
  obtain ⟨_, _, _, hst, _, _, h7, h8⟩ := right_parts hr
  obtain ⟨id, job, day, state, hold, force, runs, tries, run, at_⟩ := s
  dsimp only at hst h7 h8 hN1 hN2 hN3 hD
  obtain rfl | rfl | rfl | rfl : state = 0 ∨ state = 1 ∨ state = 2 ∨ state = 3 := by omega
  · cases hold
    · cases force
      · exact jtext_c2 id job day runs tries run at_ hr T1 T2 D T3 z1 z2 zD z3 hN1 hN2 hD hN3 w
      · exact jtext_c1 id job day runs tries run at_ hr T1 T2 D T3 z1 z2 zD z3 hN1 hN2 hD hN3 w
    · obtain rfl := h8 rfl
      exact jtext_c0 id job day runs tries run at_ hr T1 T2 D T3 z1 z2 zD z3 hN1 hN2 hD hN3 w
  · obtain ⟨rfl, rfl⟩ := h7 (by omega)
    exact jtext_c3 id job day runs tries run at_ hr T1 T2 D T3 z1 z2 zD z3 hN1 hN2 hD hN3 w
  · obtain ⟨rfl, rfl⟩ := h7 (by omega)
    exact jtext_c4 id job day runs tries run at_ hr T1 T2 D T3 z1 z2 zD z3 hN1 hN2 hD hN3 w
  · obtain ⟨rfl, rfl⟩ := h7 (by omega)
    exact jtext_c5 id job day runs tries run at_ hr T1 T2 D T3 z1 z2 zD z3 hN1 hN2 hD hN3 w
theorem jtext_wrong (s : St) (hr : rightB s = false) (w : World) : Calls Try.prog 19 #[s.v] w fun e w' => e = .returned (.string ⟨#[]⟩) ∧ Below w.heap.size w w' := by
  obtain ⟨id, job, day, state, hold, force, runs, tries, run, at_⟩ := s
  have hR : ∀ w : World, Calls Try.prog 16 #[St.v ⟨id, job, day, state, hold, force, runs, tries, run, at_⟩] w fun e w' => e = .returned (.bool false) ∧ Below w.heap.size w w' := fun w => by have := right_any ⟨id, job, day, state, hold, force, runs, tries, run, at_⟩ w; rwa [hr] at this
  simp only [St.v] at hR ⊢
  go_enter Try.func19, Try.ntmps19
  go_wp2_with (go_at_call 16; refine (hR _).mono ?_; rintro e w1 ⟨rfl, hq1⟩)
  all_goals go_ret
  all_goals exact ⟨rfl, by repeat (with_reducible first | exact Below.refl _ _ | assumption | refine bw_step ?_ (by assumption) | refine bw_alloc ?_ _ | refine bw_drew ?_)⟩
end Go.Proofs.Ytfefbmglimdgjaa.Own
