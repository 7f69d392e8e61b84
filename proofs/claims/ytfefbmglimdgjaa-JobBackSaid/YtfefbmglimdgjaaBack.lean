/- JobBack: what the law's function comes to: true, whatever the state and the run. No conditions. -/
import Derived.Test.YtfefbmglimdgjaaKn
import Derived.Test.YtfefbmglimdgjaaPure17
import Derived.Deep.RegionHeld3
namespace Go.Proofs.Ytfefbmglimdgjaa.Own
open Go.RowKit
abbrev KB (s : St) (W0 : World) (b : Nat) (W : World) : Prop := (∀ j, j < 10 → W.cell? ⟨b, j, none⟩ = some (s.c j)) ∧ (∀ j, j < 10 → W.cell? ⟨W0.heap.size, j, none⟩ = some (s.c j)) ∧ Hid (Below W0.heap.size W0 W)
theorem kb_drew {s : St} {W0 W : World} {b : Nat} (h : KB s W0 b W) : KB s W0 b W.drew := ⟨fun j hj => by rw [World.cell?_drew]; exact h.1 j hj, fun j hj => by rw [World.cell?_drew]; exact h.2.1 j hj, bw_drew h.2.2⟩
theorem kb_step {s : St} {W0 W w1 : World} {b : Nat} (h : KB s W0 b W) (k : Below W.heap.size W w1) : KB s W0 b w1 := ⟨fun j hj => bw_keep k (h.1 j hj), fun j hj => bw_keep k (h.2.1 j hj), bw_step h.2.2 k⟩
set_option maxHeartbeats 4000000 in
set_option maxRecDepth 20000 in
theorem jobBack_any (s : St) (run : Int) (w : World) : Calls Try.prog 6 #[.agg s.l.toArray, .int .i64 run] w fun e w' => e = .returned (.bool true) ∧ Below w.heap.size w w' := by
  by_cases h : jHoldE s = 0
  · obtain ⟨hb1, hb2, hb3, hb4, hb5⟩ := hold_back h
    have cH : ∀ w : World, Calls Try.prog 24 #[.agg (s).l.toArray] w fun e w' => e = .returned (.tuple #[.agg (jHoldS s).l.toArray, .int .i64 0]) ∧ Below w.heap.size w w' := fun w => by have := hold_r s w; rwa [h] at this
    have cF : ∀ w : World, Calls Try.prog 25 #[.agg (jHoldS s).l.toArray] w fun e w' => e = .returned (.tuple #[.agg (s).l.toArray, .int .i64 0]) ∧ Below w.heap.size w w' := fun w => by have := free_r (jHoldS s) w; rwa [hb1, hb2] at this
    have cH2 : ∀ w : World, Calls Try.prog 24 #[.agg (jHoldS s).l.toArray] w fun e w' => e = .returned (.tuple #[.agg (jHoldS (jHoldS s)).l.toArray, .int .i64 32]) ∧ Below w.heap.size w w' := fun w => by have := hold_r (jHoldS s) w; rwa [hb4] at this
    have cG : ∀ w : World, Calls Try.prog 26 #[.agg (jHoldS s).l.toArray] w fun e w' => e = .returned (.tuple #[.agg (jForceS (jHoldS s)).l.toArray, .int .i64 32]) ∧ Below w.heap.size w w' := fun w => by have := force_r (jHoldS s) w; rwa [hb5] at this
    have hK : ∀ g, (g = 32 ∨ g = 1) → jSubmitE (jHoldS s) run = g → Calls Try.prog 6 #[.agg s.l.toArray, .int .i64 run] w fun e w' => e = .returned (.bool true) ∧ Below w.heap.size w w' := by
      intro g hg hg2
      have cS : ∀ w : World, Calls Try.prog 10 #[.agg (jHoldS s).l.toArray, .int .i64 run] w fun e w' => e = .returned (.tuple #[.agg (jSubmitS (jHoldS s) run).l.toArray, .int .i64 g]) ∧ Below w.heap.size w w' := fun w => by have := submit_r (jHoldS s) run w; rwa [hg2] at this
      clear h hb1 hb2 hb3 hb4 hb5 hg2
      generalize jSubmitS (jHoldS s) run = z1 at *
      generalize jHoldS (jHoldS s) = z2 at *
      generalize jForceS (jHoldS s) = z3 at *
      generalize jHoldS s = y at *
      rcases hg with rfl | rfl
      · skip
        go_enter Try.func6, Try.ntmps6
        go_wp2_with (first | (go_at_call 11; (with_reducible refine (given_r s _).mono ?_); rintro e w1 ⟨rfl, q1⟩; have r1s : w1.rangeAt (w.heap.size) 0 s.l := range_below q1 (by first | assumption | (refine World.rangeAt_alloc ?_ _; assumption) | exact range_new' _ _ (by simp) | (refine World.rangeAt_alloc ?_ _; exact range_new' _ _ (by simp)))) | (go_at_call 24; (with_reducible refine (cH _).mono ?_); rintro e w2 ⟨rfl, q2⟩; have r2s : w2.rangeAt (w.heap.size) 0 s.l := range_below q2 (by first | assumption | (refine World.rangeAt_alloc ?_ _; assumption) | exact range_new' _ _ (by simp) | (refine World.rangeAt_alloc ?_ _; exact range_new' _ _ (by simp))); clear r1s) | (go_at_call 25; (with_reducible refine (cF _).mono ?_); rintro e w3 ⟨rfl, q3⟩; have r3s : w3.rangeAt (w.heap.size) 0 s.l := range_below q3 (by first | assumption | (refine World.rangeAt_alloc ?_ _; assumption) | exact range_new' _ _ (by simp) | (refine World.rangeAt_alloc ?_ _; exact range_new' _ _ (by simp))); have r3y : w3.rangeAt (w2.heap.size) 0 y.l := range_below q3 (by first | assumption | (refine World.rangeAt_alloc ?_ _; assumption) | exact range_new' _ _ (by simp) | (refine World.rangeAt_alloc ?_ _; exact range_new' _ _ (by simp))); clear r2s) | (go_at_call 10; (with_reducible refine (cS _).mono ?_); rintro e w4 ⟨rfl, q4⟩; have r4s : w4.rangeAt (w.heap.size) 0 s.l := range_below q4 (by first | assumption | (refine World.rangeAt_alloc ?_ _; assumption) | exact range_new' _ _ (by simp) | (refine World.rangeAt_alloc ?_ _; exact range_new' _ _ (by simp))); have r4y : w4.rangeAt (w2.heap.size) 0 y.l := range_below q4 (by first | assumption | (refine World.rangeAt_alloc ?_ _; assumption) | exact range_new' _ _ (by simp) | (refine World.rangeAt_alloc ?_ _; exact range_new' _ _ (by simp))); have r4z : w4.rangeAt (w3.heap.size) 0 s.l := range_below q4 (by first | assumption | (refine World.rangeAt_alloc ?_ _; assumption) | exact range_new' _ _ (by simp) | (refine World.rangeAt_alloc ?_ _; exact range_new' _ _ (by simp))); clear r3s r3y) | (go_at_call 24; (with_reducible refine (cH2 _).mono ?_); rintro e w5 ⟨rfl, q5⟩; have r5s : w5.rangeAt (w.heap.size) 0 s.l := range_below q5 (by first | assumption | (refine World.rangeAt_alloc ?_ _; assumption) | exact range_new' _ _ (by simp) | (refine World.rangeAt_alloc ?_ _; exact range_new' _ _ (by simp))); have r5y : w5.rangeAt (w2.heap.size) 0 y.l := range_below q5 (by first | assumption | (refine World.rangeAt_alloc ?_ _; assumption) | exact range_new' _ _ (by simp) | (refine World.rangeAt_alloc ?_ _; exact range_new' _ _ (by simp))); have r5z : w5.rangeAt (w3.heap.size) 0 s.l := range_below q5 (by first | assumption | (refine World.rangeAt_alloc ?_ _; assumption) | exact range_new' _ _ (by simp) | (refine World.rangeAt_alloc ?_ _; exact range_new' _ _ (by simp))); clear r4s r4y r4z) | (go_at_call 26; (with_reducible refine (cG _).mono ?_); rintro e w6 ⟨rfl, q6⟩; have r6s : w6.rangeAt (w.heap.size) 0 s.l := range_below q6 (by first | assumption | (refine World.rangeAt_alloc ?_ _; assumption) | exact range_new' _ _ (by simp) | (refine World.rangeAt_alloc ?_ _; exact range_new' _ _ (by simp))); have r6z : w6.rangeAt (w3.heap.size) 0 s.l := range_below q6 (by first | assumption | (refine World.rangeAt_alloc ?_ _; assumption) | exact range_new' _ _ (by simp) | (refine World.rangeAt_alloc ?_ _; exact range_new' _ _ (by simp))); clear r5s r5y r5z) | (refine wl_alloc 35 stZ 10 rfl rfl stZ_zero ?_) | (refine wl_store 35 _ _ stZ (St.l _) rfl rfl (by simp [go_sem]) rfl (st_size _) (stZ_len _) (st_one _) ?_) | (refine wl_load 35 _ rfl rfl _ 0 rfl (St.l _) _ (by first | assumption | (refine World.rangeAt_alloc ?_ _; assumption) | exact range_new' _ _ (by simp) | (refine World.rangeAt_alloc ?_ _; exact range_new' _ _ (by simp))) row_under rfl (st_size _) ?_) | (refine wl_load 23 _ rfl rfl _ 0 rfl (St.l _) _ (by first | assumption | (refine World.rangeAt_alloc ?_ _; assumption) | exact range_new' _ _ (by simp) | (refine World.rangeAt_alloc ?_ _; exact range_new' _ _ (by simp))) row_underR rfl (st_sizeR _) ?_))
        clear cH cF cH2 cG cS
        have hKB : KB s w w3.heap.size (w6.alloc (.cells z3.l.toArray 35)) := ⟨range_c (World.rangeAt_alloc r6z _), range_c (World.rangeAt_alloc r6s _), show Below _ _ _ from by repeat (with_reducible first | exact Below.refl _ _ | assumption | refine bw_step ?_ (by assumption) | refine bw_alloc ?_ _ | refine bw_drew ?_)⟩
        have heq := row_eql s
        refine wp_region_held_drew (S := (fun w' => KB s w w3.heap.size w')) (by kernel_rfl) ?_ (fun hHeld => ?_)
        · ((try dsimp only); with_reducible (first | assumption | exact kb_drew (by assumption) | exact kb_step (by assumption) hq1 | exact kb_step (kb_drew (by assumption)) hq1))
        refine wpAnyH_take (i := 0) (v := ?_) rfl (by kernel_rfl) (by kernel_rfl) (by kernel_rfl) (fun _ _ _ h => h) (Or.inl ⟨by rfl, ?_⟩) (by assumption) ?_
        rotate_left
        · (intro w hSw; (try dsimp only at hSw); go_simp); (try with_reducible rfl)
        simp only [Act.put, List.setIfInBounds_toArray, List.set_cons_zero, List.set_cons_succ, List.getElem_toArray, List.getElem_cons_zero, List.getElem_cons_succ]
        refine wpAnyH_take (i := 2) (v := ?_) rfl (by kernel_rfl) (by kernel_rfl) (by kernel_rfl) (fun _ _ _ h => h) (Or.inl ⟨by rfl, ?_⟩) (by assumption) ?_
        rotate_left
        · (intro w hSw; (try dsimp only at hSw); go_simp); (try with_reducible rfl)
        simp only [Act.put, List.setIfInBounds_toArray, List.set_cons_zero, List.set_cons_succ, List.getElem_toArray, List.getElem_cons_zero, List.getElem_cons_succ]
        refine wpAnyH_ready (rs := [1]) (by kernel_rfl) (by simp) ?_
        refine AllReadyH.cons rfl (fun K hK => ?_) AllReadyH.nil
        (try simp only [List.getElem_toArray, List.getElem_cons_zero, List.getElem_cons_succ])
        go_simp
        go_at_call 15; refine (taken_c s _).mono ?_; rintro e w' ⟨rfl, hq1⟩
        (try (go_wp2_with fail))
        refine hK.out _ _ ?_ (fun hNew => ?_)
        · ((try dsimp only); with_reducible (first | assumption | exact kb_drew (by assumption) | exact kb_step (by assumption) hq1 | exact kb_step (kb_drew (by assumption)) hq1))
        clear hK K hHeld; have hHeld := hNew; clear hNew
        (try (simp only [Act.put, List.setIfInBounds_toArray, List.set_cons_zero, List.set_cons_succ, List.getElem_toArray, List.getElem_cons_zero, List.getElem_cons_succ]))
        refine wpAnyH_take (i := 3) (v := ?_) rfl (by kernel_rfl) (by kernel_rfl) (by kernel_rfl) (fun _ _ _ h => h) (Or.inl ⟨by rfl, ?_⟩) (by assumption) ?_
        rotate_left
        · (intro w hSw; (try dsimp only at hSw); go_simp); (try with_reducible rfl)
        simp only [Act.put, List.setIfInBounds_toArray, List.set_cons_zero, List.set_cons_succ, List.getElem_toArray, List.getElem_cons_zero, List.getElem_cons_succ]
        refine wpAnyH_take (i := 4) (v := ?_) rfl (by kernel_rfl) (by kernel_rfl) (by kernel_rfl) (fun _ _ _ h => h) (Or.inl ⟨by rfl, ?_⟩) (by assumption) ?_
        rotate_left
        · (intro w hSw; (try dsimp only at hSw); go_simp); (try with_reducible rfl)
        simp only [Act.put, List.setIfInBounds_toArray, List.set_cons_zero, List.set_cons_succ, List.getElem_toArray, List.getElem_cons_zero, List.getElem_cons_succ]
        refine wpAnyH_take (i := 5) (v := ?_) rfl (by kernel_rfl) (by kernel_rfl) (by kernel_rfl) (fun _ _ _ h => h) (Or.inl ⟨by rfl, ?_⟩) (by assumption) ?_
        rotate_left
        · (intro w hSw; (try dsimp only at hSw); go_simp); (try with_reducible rfl)
        simp only [Act.put, List.setIfInBounds_toArray, List.set_cons_zero, List.set_cons_succ, List.getElem_toArray, List.getElem_cons_zero, List.getElem_cons_succ]
        refine wpAnyH_take (i := 6) (v := ?_) rfl (by kernel_rfl) (by kernel_rfl) (by kernel_rfl) (fun _ _ _ h => h) (Or.inl ⟨by rfl, ?_⟩) (by assumption) ?_
        rotate_left
        · (intro w hSw; (try dsimp only at hSw); go_simp); (try with_reducible rfl)
        simp only [Act.put, List.setIfInBounds_toArray, List.set_cons_zero, List.set_cons_succ, List.getElem_toArray, List.getElem_cons_zero, List.getElem_cons_succ]
        refine wpAnyH_take (i := 7) (v := ?_) rfl (by kernel_rfl) (by kernel_rfl) (by kernel_rfl) (fun _ _ _ h => h) (Or.inl ⟨by rfl, ?_⟩) (by assumption) ?_
        rotate_left
        · (intro w hSw; (try dsimp only at hSw); go_simp); (try with_reducible rfl)
        simp only [Act.put, List.setIfInBounds_toArray, List.set_cons_zero, List.set_cons_succ, List.getElem_toArray, List.getElem_cons_zero, List.getElem_cons_succ]
        refine wpAnyH_take (i := 8) (v := ?_) rfl (by kernel_rfl) (by kernel_rfl) (by kernel_rfl) (fun _ _ _ h => h) (Or.inl ⟨by rfl, ?_⟩) (by assumption) ?_
        rotate_left
        · (intro w hSw; (try dsimp only at hSw); go_simp); (try with_reducible rfl)
        simp only [Act.put, List.setIfInBounds_toArray, List.set_cons_zero, List.set_cons_succ, List.getElem_toArray, List.getElem_cons_zero, List.getElem_cons_succ]
        refine wpAnyH_take (i := 9) (v := ?_) rfl (by kernel_rfl) (by kernel_rfl) (by kernel_rfl) (fun _ _ _ h => h) (Or.inl ⟨by rfl, ?_⟩) (by assumption) ?_
        rotate_left
        · (intro w hSw; (try dsimp only at hSw); go_simp); (try with_reducible rfl)
        simp only [Act.put, List.setIfInBounds_toArray, List.set_cons_zero, List.set_cons_succ, List.getElem_toArray, List.getElem_cons_zero, List.getElem_cons_succ]
        refine wpAnyH_take (i := 10) (v := ?_) rfl (by kernel_rfl) (by kernel_rfl) (by kernel_rfl) (fun _ _ _ h => h) (Or.inl ⟨by rfl, ?_⟩) (by assumption) ?_
        rotate_left
        · (intro w hSw; (try dsimp only at hSw); go_simp); (try with_reducible rfl)
        simp only [Act.put, List.setIfInBounds_toArray, List.set_cons_zero, List.set_cons_succ, List.getElem_toArray, List.getElem_cons_zero, List.getElem_cons_succ]
        refine wpAnyH_take (i := 11) (v := ?_) rfl (by kernel_rfl) (by kernel_rfl) (by kernel_rfl) (fun _ _ _ h => h) (Or.inl ⟨by rfl, ?_⟩) (by assumption) ?_
        rotate_left
        · (intro w hSw; (try dsimp only at hSw); go_simp); (try with_reducible rfl)
        simp only [Act.put, List.setIfInBounds_toArray, List.set_cons_zero, List.set_cons_succ, List.getElem_toArray, List.getElem_cons_zero, List.getElem_cons_succ]
        refine wpAnyH_take (i := 12) (v := _) rfl (by kernel_rfl) (by kernel_rfl) (by kernel_rfl) (fun _ _ _ h => h) (Or.inr ⟨by rfl, rfl⟩) (by assumption) ?_
        simp only [Act.put, List.setIfInBounds_toArray, List.set_cons_zero, List.set_cons_succ, List.getElem_toArray, List.getElem_cons_zero, List.getElem_cons_succ]
        refine wpAnyH_take (i := 13) (v := _) rfl (by kernel_rfl) (by kernel_rfl) (by kernel_rfl) (fun _ _ _ h => h) (Or.inr ⟨by rfl, rfl⟩) (by assumption) ?_
        simp only [Act.put, List.setIfInBounds_toArray, List.set_cons_zero, List.set_cons_succ, List.getElem_toArray, List.getElem_cons_zero, List.getElem_cons_succ]
        refine wpAnyH_take (i := 14) (v := ?_) rfl (by kernel_rfl) (by kernel_rfl) (by kernel_rfl) (fun _ _ _ h => h) (Or.inl ⟨by rfl, ?_⟩) (by assumption) ?_
        rotate_left
        · (intro w hSw; (try dsimp only at hSw); go_simp); (try with_reducible rfl)
        simp only [Act.put, List.setIfInBounds_toArray, List.set_cons_zero, List.set_cons_succ, List.getElem_toArray, List.getElem_cons_zero, List.getElem_cons_succ]
        refine wpAnyH_take (i := 15) (v := ?_) rfl (by kernel_rfl) (by kernel_rfl) (by kernel_rfl) (fun _ _ _ h => h) (Or.inl ⟨by rfl, ?_⟩) (by assumption) ?_
        rotate_left
        · (intro w hSw; (try dsimp only at hSw); go_simp); (try with_reducible rfl)
        simp only [Act.put, List.setIfInBounds_toArray, List.set_cons_zero, List.set_cons_succ, List.getElem_toArray, List.getElem_cons_zero, List.getElem_cons_succ]
        refine wpAnyH_take (i := 16) (v := ?_) rfl (by kernel_rfl) (by kernel_rfl) (by kernel_rfl) (fun _ _ _ h => h) (Or.inl ⟨by rfl, ?_⟩) (by assumption) ?_
        rotate_left
        · (intro w hSw; (try dsimp only at hSw); go_simp); (try with_reducible rfl)
        simp only [Act.put, List.setIfInBounds_toArray, List.set_cons_zero, List.set_cons_succ, List.getElem_toArray, List.getElem_cons_zero, List.getElem_cons_succ]
        refine wpAnyH_take (i := 17) (v := ?_) rfl (by kernel_rfl) (by kernel_rfl) (by kernel_rfl) (fun _ _ _ h => h) (Or.inl ⟨by rfl, ?_⟩) (by assumption) ?_
        rotate_left
        · (intro w hSw; (try dsimp only at hSw); go_simp); (try with_reducible rfl)
        simp only [Act.put, List.setIfInBounds_toArray, List.set_cons_zero, List.set_cons_succ, List.getElem_toArray, List.getElem_cons_zero, List.getElem_cons_succ]
        refine wpAnyH_take (i := 18) (v := ?_) rfl (by kernel_rfl) (by kernel_rfl) (by kernel_rfl) (fun _ _ _ h => h) (Or.inl ⟨by rfl, ?_⟩) (by assumption) ?_
        rotate_left
        · (intro w hSw; (try dsimp only at hSw); go_simp); (try with_reducible rfl)
        simp only [Act.put, List.setIfInBounds_toArray, List.set_cons_zero, List.set_cons_succ, List.getElem_toArray, List.getElem_cons_zero, List.getElem_cons_succ]
        refine wpAnyH_take (i := 19) (v := ?_) rfl (by kernel_rfl) (by kernel_rfl) (by kernel_rfl) (fun _ _ _ h => h) (Or.inl ⟨by rfl, ?_⟩) (by assumption) ?_
        rotate_left
        · (intro w hSw; (try dsimp only at hSw); go_simp); (try with_reducible rfl)
        simp only [Act.put, List.setIfInBounds_toArray, List.set_cons_zero, List.set_cons_succ, List.getElem_toArray, List.getElem_cons_zero, List.getElem_cons_succ]
        refine wpAnyH_take (i := 20) (v := ?_) rfl (by kernel_rfl) (by kernel_rfl) (by kernel_rfl) (fun _ _ _ h => h) (Or.inl ⟨by rfl, ?_⟩) (by assumption) ?_
        rotate_left
        · (intro w hSw; (try dsimp only at hSw); go_simp); (try with_reducible rfl)
        simp only [Act.put, List.setIfInBounds_toArray, List.set_cons_zero, List.set_cons_succ, List.getElem_toArray, List.getElem_cons_zero, List.getElem_cons_succ]
        refine wpAnyH_take (i := 21) (v := ?_) rfl (by kernel_rfl) (by kernel_rfl) (by kernel_rfl) (fun _ _ _ h => h) (Or.inl ⟨by rfl, ?_⟩) (by assumption) ?_
        rotate_left
        · (intro w hSw; (try dsimp only at hSw); go_simp); (try with_reducible rfl)
        simp only [Act.put, List.setIfInBounds_toArray, List.set_cons_zero, List.set_cons_succ, List.getElem_toArray, List.getElem_cons_zero, List.getElem_cons_succ]
        refine wpAnyH_take (i := 22) (v := ?_) rfl (by kernel_rfl) (by kernel_rfl) (by kernel_rfl) (fun _ _ _ h => h) (Or.inl ⟨by rfl, ?_⟩) (by assumption) ?_
        rotate_left
        · (intro w hSw; (try dsimp only at hSw); go_simp); (try with_reducible rfl)
        simp only [Act.put, List.setIfInBounds_toArray, List.set_cons_zero, List.set_cons_succ, List.getElem_toArray, List.getElem_cons_zero, List.getElem_cons_succ]
        refine wpAnyH_take (i := 23) (v := ?_) rfl (by kernel_rfl) (by kernel_rfl) (by kernel_rfl) (fun _ _ _ h => h) (Or.inl ⟨by rfl, ?_⟩) (by assumption) ?_
        rotate_left
        · (intro w hSw; (try dsimp only at hSw); go_simp); (try with_reducible rfl)
        simp only [Act.put, List.setIfInBounds_toArray, List.set_cons_zero, List.set_cons_succ, List.getElem_toArray, List.getElem_cons_zero, List.getElem_cons_succ]
        refine wpAnyH_take (i := 24) (v := ?_) rfl (by kernel_rfl) (by kernel_rfl) (by kernel_rfl) (fun _ _ _ h => h) (Or.inl ⟨by rfl, ?_⟩) (by assumption) ?_
        rotate_left
        · (intro w hSw; (try dsimp only at hSw); go_simp); (try with_reducible rfl)
        simp only [Act.put, List.setIfInBounds_toArray, List.set_cons_zero, List.set_cons_succ, List.getElem_toArray, List.getElem_cons_zero, List.getElem_cons_succ]
        refine wpAnyH_ready (rs := [25]) (by kernel_rfl) (by simp) ?_
        refine AllReadyH.cons rfl (fun K hK => ?_) AllReadyH.nil
        (try simp only [List.getElem_toArray, List.getElem_cons_zero, List.getElem_cons_succ])
        go_simp
        go_at_call 18; refine (known_any _).mono ?_; rintro e w' ⟨rfl, hq1⟩
        (try (go_wp2_with fail))
        refine hK.out _ _ ?_ (fun hNew => ?_)
        · ((try dsimp only); with_reducible (first | assumption | exact kb_drew (by assumption) | exact kb_step (by assumption) hq1 | exact kb_step (kb_drew (by assumption)) hq1))
        clear hK K hHeld; have hHeld := hNew; clear hNew
        (try (simp only [Act.put, List.setIfInBounds_toArray, List.set_cons_zero, List.set_cons_succ, List.getElem_toArray, List.getElem_cons_zero, List.getElem_cons_succ]))
        refine wpAnyH_take (i := 26) (v := ?_) rfl (by kernel_rfl) (by kernel_rfl) (by kernel_rfl) (fun _ _ _ h => h) (Or.inl ⟨by rfl, ?_⟩) (by assumption) ?_
        rotate_left
        · (intro w hSw; (try dsimp only at hSw); go_simp); (try with_reducible rfl)
        simp only [Act.put, List.setIfInBounds_toArray, List.set_cons_zero, List.set_cons_succ, List.getElem_toArray, List.getElem_cons_zero, List.getElem_cons_succ]
        refine wpAnyH_take (i := 27) (v := ?_) rfl (by kernel_rfl) (by kernel_rfl) (by kernel_rfl) (fun _ _ _ h => h) (Or.inl ⟨by rfl, ?_⟩) (by assumption) ?_
        rotate_left
        · (intro w hSw; (try dsimp only at hSw); go_simp); (try with_reducible rfl)
        simp only [Act.put, List.setIfInBounds_toArray, List.set_cons_zero, List.set_cons_succ, List.getElem_toArray, List.getElem_cons_zero, List.getElem_cons_succ]
        refine wpAnyH_done (by kernel_rfl) ?_ _
        have hB : Hid (Below _ _ _) := hHeld.2.2
        clear hHeld hKB
        go_wp2
        all_goals go_ret
        all_goals exact ⟨rfl, hB⟩
      · skip
        go_enter Try.func6, Try.ntmps6
        go_wp2_with (first | (go_at_call 11; (with_reducible refine (given_r s _).mono ?_); rintro e w1 ⟨rfl, q1⟩; have r1s : w1.rangeAt (w.heap.size) 0 s.l := range_below q1 (by first | assumption | (refine World.rangeAt_alloc ?_ _; assumption) | exact range_new' _ _ (by simp) | (refine World.rangeAt_alloc ?_ _; exact range_new' _ _ (by simp)))) | (go_at_call 24; (with_reducible refine (cH _).mono ?_); rintro e w2 ⟨rfl, q2⟩; have r2s : w2.rangeAt (w.heap.size) 0 s.l := range_below q2 (by first | assumption | (refine World.rangeAt_alloc ?_ _; assumption) | exact range_new' _ _ (by simp) | (refine World.rangeAt_alloc ?_ _; exact range_new' _ _ (by simp))); clear r1s) | (go_at_call 25; (with_reducible refine (cF _).mono ?_); rintro e w3 ⟨rfl, q3⟩; have r3s : w3.rangeAt (w.heap.size) 0 s.l := range_below q3 (by first | assumption | (refine World.rangeAt_alloc ?_ _; assumption) | exact range_new' _ _ (by simp) | (refine World.rangeAt_alloc ?_ _; exact range_new' _ _ (by simp))); have r3y : w3.rangeAt (w2.heap.size) 0 y.l := range_below q3 (by first | assumption | (refine World.rangeAt_alloc ?_ _; assumption) | exact range_new' _ _ (by simp) | (refine World.rangeAt_alloc ?_ _; exact range_new' _ _ (by simp))); clear r2s) | (go_at_call 10; (with_reducible refine (cS _).mono ?_); rintro e w4 ⟨rfl, q4⟩; have r4s : w4.rangeAt (w.heap.size) 0 s.l := range_below q4 (by first | assumption | (refine World.rangeAt_alloc ?_ _; assumption) | exact range_new' _ _ (by simp) | (refine World.rangeAt_alloc ?_ _; exact range_new' _ _ (by simp))); have r4y : w4.rangeAt (w2.heap.size) 0 y.l := range_below q4 (by first | assumption | (refine World.rangeAt_alloc ?_ _; assumption) | exact range_new' _ _ (by simp) | (refine World.rangeAt_alloc ?_ _; exact range_new' _ _ (by simp))); have r4z : w4.rangeAt (w3.heap.size) 0 s.l := range_below q4 (by first | assumption | (refine World.rangeAt_alloc ?_ _; assumption) | exact range_new' _ _ (by simp) | (refine World.rangeAt_alloc ?_ _; exact range_new' _ _ (by simp))); clear r3s r3y) | (go_at_call 24; (with_reducible refine (cH2 _).mono ?_); rintro e w5 ⟨rfl, q5⟩; have r5s : w5.rangeAt (w.heap.size) 0 s.l := range_below q5 (by first | assumption | (refine World.rangeAt_alloc ?_ _; assumption) | exact range_new' _ _ (by simp) | (refine World.rangeAt_alloc ?_ _; exact range_new' _ _ (by simp))); have r5y : w5.rangeAt (w2.heap.size) 0 y.l := range_below q5 (by first | assumption | (refine World.rangeAt_alloc ?_ _; assumption) | exact range_new' _ _ (by simp) | (refine World.rangeAt_alloc ?_ _; exact range_new' _ _ (by simp))); have r5z : w5.rangeAt (w3.heap.size) 0 s.l := range_below q5 (by first | assumption | (refine World.rangeAt_alloc ?_ _; assumption) | exact range_new' _ _ (by simp) | (refine World.rangeAt_alloc ?_ _; exact range_new' _ _ (by simp))); clear r4s r4y r4z) | (go_at_call 26; (with_reducible refine (cG _).mono ?_); rintro e w6 ⟨rfl, q6⟩; have r6s : w6.rangeAt (w.heap.size) 0 s.l := range_below q6 (by first | assumption | (refine World.rangeAt_alloc ?_ _; assumption) | exact range_new' _ _ (by simp) | (refine World.rangeAt_alloc ?_ _; exact range_new' _ _ (by simp))); have r6z : w6.rangeAt (w3.heap.size) 0 s.l := range_below q6 (by first | assumption | (refine World.rangeAt_alloc ?_ _; assumption) | exact range_new' _ _ (by simp) | (refine World.rangeAt_alloc ?_ _; exact range_new' _ _ (by simp))); clear r5s r5y r5z) | (refine wl_alloc 35 stZ 10 rfl rfl stZ_zero ?_) | (refine wl_store 35 _ _ stZ (St.l _) rfl rfl (by simp [go_sem]) rfl (st_size _) (stZ_len _) (st_one _) ?_) | (refine wl_load 35 _ rfl rfl _ 0 rfl (St.l _) _ (by first | assumption | (refine World.rangeAt_alloc ?_ _; assumption) | exact range_new' _ _ (by simp) | (refine World.rangeAt_alloc ?_ _; exact range_new' _ _ (by simp))) row_under rfl (st_size _) ?_) | (refine wl_load 23 _ rfl rfl _ 0 rfl (St.l _) _ (by first | assumption | (refine World.rangeAt_alloc ?_ _; assumption) | exact range_new' _ _ (by simp) | (refine World.rangeAt_alloc ?_ _; exact range_new' _ _ (by simp))) row_underR rfl (st_sizeR _) ?_))
        clear cH cF cH2 cG cS
        have hKB : KB s w w3.heap.size (w6.alloc (.cells z3.l.toArray 35)) := ⟨range_c (World.rangeAt_alloc r6z _), range_c (World.rangeAt_alloc r6s _), show Below _ _ _ from by repeat (with_reducible first | exact Below.refl _ _ | assumption | refine bw_step ?_ (by assumption) | refine bw_alloc ?_ _ | refine bw_drew ?_)⟩
        have heq := row_eql s
        refine wp_region_held_drew (S := (fun w' => KB s w w3.heap.size w')) (by kernel_rfl) ?_ (fun hHeld => ?_)
        · ((try dsimp only); with_reducible (first | assumption | exact kb_drew (by assumption) | exact kb_step (by assumption) hq1 | exact kb_step (kb_drew (by assumption)) hq1))
        refine wpAnyH_take (i := 0) (v := ?_) rfl (by kernel_rfl) (by kernel_rfl) (by kernel_rfl) (fun _ _ _ h => h) (Or.inl ⟨by rfl, ?_⟩) (by assumption) ?_
        rotate_left
        · (intro w hSw; (try dsimp only at hSw); go_simp); (try with_reducible rfl)
        simp only [Act.put, List.setIfInBounds_toArray, List.set_cons_zero, List.set_cons_succ, List.getElem_toArray, List.getElem_cons_zero, List.getElem_cons_succ]
        refine wpAnyH_take (i := 2) (v := ?_) rfl (by kernel_rfl) (by kernel_rfl) (by kernel_rfl) (fun _ _ _ h => h) (Or.inl ⟨by rfl, ?_⟩) (by assumption) ?_
        rotate_left
        · (intro w hSw; (try dsimp only at hSw); go_simp); (try with_reducible rfl)
        simp only [Act.put, List.setIfInBounds_toArray, List.set_cons_zero, List.set_cons_succ, List.getElem_toArray, List.getElem_cons_zero, List.getElem_cons_succ]
        refine wpAnyH_ready (rs := [1]) (by kernel_rfl) (by simp) ?_
        refine AllReadyH.cons rfl (fun K hK => ?_) AllReadyH.nil
        (try simp only [List.getElem_toArray, List.getElem_cons_zero, List.getElem_cons_succ])
        go_simp
        go_at_call 15; refine (taken_c s _).mono ?_; rintro e w' ⟨rfl, hq1⟩
        (try (go_wp2_with fail))
        refine hK.out _ _ ?_ (fun hNew => ?_)
        · ((try dsimp only); with_reducible (first | assumption | exact kb_drew (by assumption) | exact kb_step (by assumption) hq1 | exact kb_step (kb_drew (by assumption)) hq1))
        clear hK K hHeld; have hHeld := hNew; clear hNew
        (try (simp only [Act.put, List.setIfInBounds_toArray, List.set_cons_zero, List.set_cons_succ, List.getElem_toArray, List.getElem_cons_zero, List.getElem_cons_succ]))
        refine wpAnyH_take (i := 3) (v := ?_) rfl (by kernel_rfl) (by kernel_rfl) (by kernel_rfl) (fun _ _ _ h => h) (Or.inl ⟨by rfl, ?_⟩) (by assumption) ?_
        rotate_left
        · (intro w hSw; (try dsimp only at hSw); go_simp); (try with_reducible rfl)
        simp only [Act.put, List.setIfInBounds_toArray, List.set_cons_zero, List.set_cons_succ, List.getElem_toArray, List.getElem_cons_zero, List.getElem_cons_succ]
        refine wpAnyH_take (i := 4) (v := ?_) rfl (by kernel_rfl) (by kernel_rfl) (by kernel_rfl) (fun _ _ _ h => h) (Or.inl ⟨by rfl, ?_⟩) (by assumption) ?_
        rotate_left
        · (intro w hSw; (try dsimp only at hSw); go_simp); (try with_reducible rfl)
        simp only [Act.put, List.setIfInBounds_toArray, List.set_cons_zero, List.set_cons_succ, List.getElem_toArray, List.getElem_cons_zero, List.getElem_cons_succ]
        refine wpAnyH_take (i := 5) (v := ?_) rfl (by kernel_rfl) (by kernel_rfl) (by kernel_rfl) (fun _ _ _ h => h) (Or.inl ⟨by rfl, ?_⟩) (by assumption) ?_
        rotate_left
        · (intro w hSw; (try dsimp only at hSw); go_simp); (try with_reducible rfl)
        simp only [Act.put, List.setIfInBounds_toArray, List.set_cons_zero, List.set_cons_succ, List.getElem_toArray, List.getElem_cons_zero, List.getElem_cons_succ]
        refine wpAnyH_take (i := 6) (v := ?_) rfl (by kernel_rfl) (by kernel_rfl) (by kernel_rfl) (fun _ _ _ h => h) (Or.inl ⟨by rfl, ?_⟩) (by assumption) ?_
        rotate_left
        · (intro w hSw; (try dsimp only at hSw); go_simp); (try with_reducible rfl)
        simp only [Act.put, List.setIfInBounds_toArray, List.set_cons_zero, List.set_cons_succ, List.getElem_toArray, List.getElem_cons_zero, List.getElem_cons_succ]
        refine wpAnyH_take (i := 7) (v := ?_) rfl (by kernel_rfl) (by kernel_rfl) (by kernel_rfl) (fun _ _ _ h => h) (Or.inl ⟨by rfl, ?_⟩) (by assumption) ?_
        rotate_left
        · (intro w hSw; (try dsimp only at hSw); go_simp); (try with_reducible rfl)
        simp only [Act.put, List.setIfInBounds_toArray, List.set_cons_zero, List.set_cons_succ, List.getElem_toArray, List.getElem_cons_zero, List.getElem_cons_succ]
        refine wpAnyH_take (i := 8) (v := ?_) rfl (by kernel_rfl) (by kernel_rfl) (by kernel_rfl) (fun _ _ _ h => h) (Or.inl ⟨by rfl, ?_⟩) (by assumption) ?_
        rotate_left
        · (intro w hSw; (try dsimp only at hSw); go_simp); (try with_reducible rfl)
        simp only [Act.put, List.setIfInBounds_toArray, List.set_cons_zero, List.set_cons_succ, List.getElem_toArray, List.getElem_cons_zero, List.getElem_cons_succ]
        refine wpAnyH_take (i := 9) (v := ?_) rfl (by kernel_rfl) (by kernel_rfl) (by kernel_rfl) (fun _ _ _ h => h) (Or.inl ⟨by rfl, ?_⟩) (by assumption) ?_
        rotate_left
        · (intro w hSw; (try dsimp only at hSw); go_simp); (try with_reducible rfl)
        simp only [Act.put, List.setIfInBounds_toArray, List.set_cons_zero, List.set_cons_succ, List.getElem_toArray, List.getElem_cons_zero, List.getElem_cons_succ]
        refine wpAnyH_take (i := 10) (v := ?_) rfl (by kernel_rfl) (by kernel_rfl) (by kernel_rfl) (fun _ _ _ h => h) (Or.inl ⟨by rfl, ?_⟩) (by assumption) ?_
        rotate_left
        · (intro w hSw; (try dsimp only at hSw); go_simp); (try with_reducible rfl)
        simp only [Act.put, List.setIfInBounds_toArray, List.set_cons_zero, List.set_cons_succ, List.getElem_toArray, List.getElem_cons_zero, List.getElem_cons_succ]
        refine wpAnyH_take (i := 11) (v := ?_) rfl (by kernel_rfl) (by kernel_rfl) (by kernel_rfl) (fun _ _ _ h => h) (Or.inl ⟨by rfl, ?_⟩) (by assumption) ?_
        rotate_left
        · (intro w hSw; (try dsimp only at hSw); go_simp); (try with_reducible rfl)
        simp only [Act.put, List.setIfInBounds_toArray, List.set_cons_zero, List.set_cons_succ, List.getElem_toArray, List.getElem_cons_zero, List.getElem_cons_succ]
        refine wpAnyH_take (i := 12) (v := ?_) rfl (by kernel_rfl) (by kernel_rfl) (by kernel_rfl) (fun _ _ _ h => h) (Or.inl ⟨by rfl, ?_⟩) (by assumption) ?_
        rotate_left
        · (intro w hSw; (try dsimp only at hSw); go_simp); (try with_reducible rfl)
        simp only [Act.put, List.setIfInBounds_toArray, List.set_cons_zero, List.set_cons_succ, List.getElem_toArray, List.getElem_cons_zero, List.getElem_cons_succ]
        refine wpAnyH_take (i := 13) (v := ?_) rfl (by kernel_rfl) (by kernel_rfl) (by kernel_rfl) (fun _ _ _ h => h) (Or.inl ⟨by rfl, ?_⟩) (by assumption) ?_
        rotate_left
        · (intro w hSw; (try dsimp only at hSw); go_simp); (try with_reducible rfl)
        simp only [Act.put, List.setIfInBounds_toArray, List.set_cons_zero, List.set_cons_succ, List.getElem_toArray, List.getElem_cons_zero, List.getElem_cons_succ]
        refine wpAnyH_take (i := 14) (v := ?_) rfl (by kernel_rfl) (by kernel_rfl) (by kernel_rfl) (fun _ _ _ h => h) (Or.inl ⟨by rfl, ?_⟩) (by assumption) ?_
        rotate_left
        · (intro w hSw; (try dsimp only at hSw); go_simp); (try with_reducible rfl)
        simp only [Act.put, List.setIfInBounds_toArray, List.set_cons_zero, List.set_cons_succ, List.getElem_toArray, List.getElem_cons_zero, List.getElem_cons_succ]
        refine wpAnyH_take (i := 15) (v := ?_) rfl (by kernel_rfl) (by kernel_rfl) (by kernel_rfl) (fun _ _ _ h => h) (Or.inl ⟨by rfl, ?_⟩) (by assumption) ?_
        rotate_left
        · (intro w hSw; (try dsimp only at hSw); go_simp); (try with_reducible rfl)
        simp only [Act.put, List.setIfInBounds_toArray, List.set_cons_zero, List.set_cons_succ, List.getElem_toArray, List.getElem_cons_zero, List.getElem_cons_succ]
        refine wpAnyH_take (i := 16) (v := ?_) rfl (by kernel_rfl) (by kernel_rfl) (by kernel_rfl) (fun _ _ _ h => h) (Or.inl ⟨by rfl, ?_⟩) (by assumption) ?_
        rotate_left
        · (intro w hSw; (try dsimp only at hSw); go_simp); (try with_reducible rfl)
        simp only [Act.put, List.setIfInBounds_toArray, List.set_cons_zero, List.set_cons_succ, List.getElem_toArray, List.getElem_cons_zero, List.getElem_cons_succ]
        refine wpAnyH_take (i := 17) (v := ?_) rfl (by kernel_rfl) (by kernel_rfl) (by kernel_rfl) (fun _ _ _ h => h) (Or.inl ⟨by rfl, ?_⟩) (by assumption) ?_
        rotate_left
        · (intro w hSw; (try dsimp only at hSw); go_simp); (try with_reducible rfl)
        simp only [Act.put, List.setIfInBounds_toArray, List.set_cons_zero, List.set_cons_succ, List.getElem_toArray, List.getElem_cons_zero, List.getElem_cons_succ]
        refine wpAnyH_take (i := 18) (v := ?_) rfl (by kernel_rfl) (by kernel_rfl) (by kernel_rfl) (fun _ _ _ h => h) (Or.inl ⟨by rfl, ?_⟩) (by assumption) ?_
        rotate_left
        · (intro w hSw; (try dsimp only at hSw); go_simp); (try with_reducible rfl)
        simp only [Act.put, List.setIfInBounds_toArray, List.set_cons_zero, List.set_cons_succ, List.getElem_toArray, List.getElem_cons_zero, List.getElem_cons_succ]
        refine wpAnyH_take (i := 19) (v := ?_) rfl (by kernel_rfl) (by kernel_rfl) (by kernel_rfl) (fun _ _ _ h => h) (Or.inl ⟨by rfl, ?_⟩) (by assumption) ?_
        rotate_left
        · (intro w hSw; (try dsimp only at hSw); go_simp); (try with_reducible rfl)
        simp only [Act.put, List.setIfInBounds_toArray, List.set_cons_zero, List.set_cons_succ, List.getElem_toArray, List.getElem_cons_zero, List.getElem_cons_succ]
        refine wpAnyH_take (i := 20) (v := ?_) rfl (by kernel_rfl) (by kernel_rfl) (by kernel_rfl) (fun _ _ _ h => h) (Or.inl ⟨by rfl, ?_⟩) (by assumption) ?_
        rotate_left
        · (intro w hSw; (try dsimp only at hSw); go_simp); (try with_reducible rfl)
        simp only [Act.put, List.setIfInBounds_toArray, List.set_cons_zero, List.set_cons_succ, List.getElem_toArray, List.getElem_cons_zero, List.getElem_cons_succ]
        refine wpAnyH_take (i := 21) (v := ?_) rfl (by kernel_rfl) (by kernel_rfl) (by kernel_rfl) (fun _ _ _ h => h) (Or.inl ⟨by rfl, ?_⟩) (by assumption) ?_
        rotate_left
        · (intro w hSw; (try dsimp only at hSw); go_simp); (try with_reducible rfl)
        simp only [Act.put, List.setIfInBounds_toArray, List.set_cons_zero, List.set_cons_succ, List.getElem_toArray, List.getElem_cons_zero, List.getElem_cons_succ]
        refine wpAnyH_take (i := 22) (v := ?_) rfl (by kernel_rfl) (by kernel_rfl) (by kernel_rfl) (fun _ _ _ h => h) (Or.inl ⟨by rfl, ?_⟩) (by assumption) ?_
        rotate_left
        · (intro w hSw; (try dsimp only at hSw); go_simp); (try with_reducible rfl)
        simp only [Act.put, List.setIfInBounds_toArray, List.set_cons_zero, List.set_cons_succ, List.getElem_toArray, List.getElem_cons_zero, List.getElem_cons_succ]
        refine wpAnyH_take (i := 23) (v := ?_) rfl (by kernel_rfl) (by kernel_rfl) (by kernel_rfl) (fun _ _ _ h => h) (Or.inl ⟨by rfl, ?_⟩) (by assumption) ?_
        rotate_left
        · (intro w hSw; (try dsimp only at hSw); go_simp); (try with_reducible rfl)
        simp only [Act.put, List.setIfInBounds_toArray, List.set_cons_zero, List.set_cons_succ, List.getElem_toArray, List.getElem_cons_zero, List.getElem_cons_succ]
        refine wpAnyH_take (i := 24) (v := ?_) rfl (by kernel_rfl) (by kernel_rfl) (by kernel_rfl) (fun _ _ _ h => h) (Or.inl ⟨by rfl, ?_⟩) (by assumption) ?_
        rotate_left
        · (intro w hSw; (try dsimp only at hSw); go_simp); (try with_reducible rfl)
        simp only [Act.put, List.setIfInBounds_toArray, List.set_cons_zero, List.set_cons_succ, List.getElem_toArray, List.getElem_cons_zero, List.getElem_cons_succ]
        refine wpAnyH_ready (rs := [25]) (by kernel_rfl) (by simp) ?_
        refine AllReadyH.cons rfl (fun K hK => ?_) AllReadyH.nil
        (try simp only [List.getElem_toArray, List.getElem_cons_zero, List.getElem_cons_succ])
        go_simp
        go_at_call 18; refine (known_any _).mono ?_; rintro e w' ⟨rfl, hq1⟩
        (try (go_wp2_with fail))
        refine hK.out _ _ ?_ (fun hNew => ?_)
        · ((try dsimp only); with_reducible (first | assumption | exact kb_drew (by assumption) | exact kb_step (by assumption) hq1 | exact kb_step (kb_drew (by assumption)) hq1))
        clear hK K hHeld; have hHeld := hNew; clear hNew
        (try (simp only [Act.put, List.setIfInBounds_toArray, List.set_cons_zero, List.set_cons_succ, List.getElem_toArray, List.getElem_cons_zero, List.getElem_cons_succ]))
        refine wpAnyH_take (i := 26) (v := ?_) rfl (by kernel_rfl) (by kernel_rfl) (by kernel_rfl) (fun _ _ _ h => h) (Or.inl ⟨by rfl, ?_⟩) (by assumption) ?_
        rotate_left
        · (intro w hSw; (try dsimp only at hSw); go_simp); (try with_reducible rfl)
        simp only [Act.put, List.setIfInBounds_toArray, List.set_cons_zero, List.set_cons_succ, List.getElem_toArray, List.getElem_cons_zero, List.getElem_cons_succ]
        refine wpAnyH_take (i := 27) (v := ?_) rfl (by kernel_rfl) (by kernel_rfl) (by kernel_rfl) (fun _ _ _ h => h) (Or.inl ⟨by rfl, ?_⟩) (by assumption) ?_
        rotate_left
        · (intro w hSw; (try dsimp only at hSw); go_simp); (try with_reducible rfl)
        simp only [Act.put, List.setIfInBounds_toArray, List.set_cons_zero, List.set_cons_succ, List.getElem_toArray, List.getElem_cons_zero, List.getElem_cons_succ]
        refine wpAnyH_done (by kernel_rfl) ?_ _
        have hB : Hid (Below _ _ _) := hHeld.2.2
        clear hHeld hKB
        go_wp2
        all_goals go_ret
        all_goals exact ⟨rfl, hB⟩
    exact hK _ (hb3 run) rfl
  · have cH : ∀ w : World, Calls Try.prog 24 #[.agg (s).l.toArray] w fun e w' => e = .returned (.tuple #[.agg (jHoldS s).l.toArray, .int .i64 (jHoldE s)]) ∧ Below w.heap.size w w' := hold_r s
    generalize jHoldE s = g at *
    generalize jHoldS s = y at *
    go_enter Try.func6, Try.ntmps6
    go_wp2_with (first | (go_at_call 11; (with_reducible refine (given_r s _).mono ?_); rintro e w1 ⟨rfl, q1⟩; have r1s : w1.rangeAt (w.heap.size) 0 s.l := range_below q1 (by first | assumption | (refine World.rangeAt_alloc ?_ _; assumption) | exact range_new' _ _ (by simp) | (refine World.rangeAt_alloc ?_ _; exact range_new' _ _ (by simp)))) | (go_at_call 24; (with_reducible refine (cH _).mono ?_); rintro e w2 ⟨rfl, q2⟩; clear r1s) | (go_at_call 18; refine (known_any _).mono ?_; rintro e w3 ⟨rfl, q3⟩) | (refine wl_alloc 35 stZ 10 rfl rfl stZ_zero ?_) | (refine wl_store 35 _ _ stZ (St.l _) rfl rfl (by simp [go_sem]) rfl (st_size _) (stZ_len _) (st_one _) ?_) | (refine wl_load 35 _ rfl rfl _ 0 rfl (St.l _) _ (by first | assumption | (refine World.rangeAt_alloc ?_ _; assumption) | exact range_new' _ _ (by simp) | (refine World.rangeAt_alloc ?_ _; exact range_new' _ _ (by simp))) row_under rfl (st_size _) ?_) | (refine wl_load 23 _ rfl rfl _ 0 rfl (St.l _) _ (by first | assumption | (refine World.rangeAt_alloc ?_ _; assumption) | exact range_new' _ _ (by simp) | (refine World.rangeAt_alloc ?_ _; exact range_new' _ _ (by simp))) row_underR rfl (st_sizeR _) ?_))
    all_goals go_ret
    all_goals exact ⟨rfl, by repeat (with_reducible first | exact Below.refl _ _ | assumption | refine bw_step ?_ (by assumption) | refine bw_alloc ?_ _ | refine bw_drew ?_)⟩
end Go.Proofs.Ytfefbmglimdgjaa.Own
