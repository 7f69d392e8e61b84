/- JobForced: what the law's function comes to: true, whatever the state and the run. No conditions. -/
import Derived.Test.YtfefbmglimdgjaaKn
import Derived.Test.YtfefbmglimdgjaaPure17b
import Derived.Test.YtfefbmglimdgjaaKr17
namespace Go.Proofs.Ytfefbmglimdgjaa.Own
open Go.RowKit
theorem l3 (s : St) : s.l[3]? = some (.int .i64 s.state) := by unfold St.l; rfl
theorem l4 (s : St) : s.l[4]? = some (.bool s.hold) := by unfold St.l; rfl
theorem l5 (s : St) : s.l[5]? = some (.bool s.force) := by unfold St.l; rfl
set_option maxHeartbeats 4000000 in
set_option maxRecDepth 20000 in
theorem jobForced_any (s : St) (run : Int) (w : World) : Calls Try.prog 7 #[.agg s.l.toArray, .int .i64 run] w fun e w' => e = .returned (.bool true) ∧ Below w.heap.size w w' := by
  by_cases h : jForceE s = 0
  · obtain ⟨hb1, hb2, hb3, hb4, hb5, hb6, hb7, hb8⟩ := forced h
    have hx5 := l5 (jForceS s)
    have hx4 := l4 (jForceS s)
    have hz5 := l5 (jOkS (jForceS s))
    have hy5 := l5 (jSubmitS (jForceS s) run)
    have hy3 := l3 (jSubmitS (jForceS s) run)
    rw [hb1] at hx5
    rw [hb2] at hx4
    rw [hb6] at hz5
    have cF : ∀ w : World, Calls Try.prog 26 #[.agg (s).l.toArray] w fun e w' => e = .returned (.tuple #[.agg (jForceS s).l.toArray, .int .i64 0]) ∧ Below w.heap.size w w' := fun w => by have := force_r s w; rwa [h] at this
    have cH : ∀ w : World, Calls Try.prog 24 #[.agg (jForceS s).l.toArray] w fun e w' => e = .returned (.tuple #[.agg (jHoldS (jForceS s)).l.toArray, .int .i64 32]) ∧ Below w.heap.size w w' := fun w => by have := hold_r (jForceS s) w; rwa [hb3] at this
    have cG : ∀ w : World, Calls Try.prog 25 #[.agg (jForceS s).l.toArray] w fun e w' => e = .returned (.tuple #[.agg (jFreeS (jForceS s)).l.toArray, .int .i64 30]) ∧ Below w.heap.size w w' := fun w => by have := free_r (jForceS s) w; rwa [hb4] at this
    have cK : ∀ w : World, Calls Try.prog 27 #[.agg (jForceS s).l.toArray] w fun e w' => e = .returned (.tuple #[.agg (jOkS (jForceS s)).l.toArray, .int .i64 0]) ∧ Below w.heap.size w w' := fun w => by have := ok_r (jForceS s) w; rwa [hb5] at this
    have cO : ∀ w : World, Calls Try.prog 21 #[.agg (jOkS (jForceS s)).l.toArray] w fun e w' => e = .returned (.bool true) ∧ Below w.heap.size w w' := fun w => by have := over_r (jOkS (jForceS s)) w; rwa [hb7] at this
    have cS : ∀ w : World, Calls Try.prog 10 #[.agg (jForceS s).l.toArray, .int .i64 run] w fun e w' => e = .returned (.tuple #[.agg (jSubmitS (jForceS s) run).l.toArray, .int .i64 (jSubmitE (jForceS s) run)]) ∧ Below w.heap.size w w' := submit_r (jForceS s) run
    have hS := hb8 run
    clear h hb1 hb2 hb3 hb4 hb5 hb6 hb7 hb8
    generalize jSubmitE (jForceS s) run = g at *
    generalize jSubmitS (jForceS s) run = y at *
    generalize jOkS (jForceS s) = z at *
    generalize jHoldS (jForceS s) = y1 at *
    generalize jFreeS (jForceS s) = y2 at *
    generalize jForceS s = x at *
    have HK : KR w [] w := kr_refl w
    by_cases hg : g = 0
    · subst hg
      obtain ⟨hs1, hs2⟩ := hS rfl
      rw [hs1] at hy5
      rw [hs2] at hy3
      go_enter Try.func7, Try.ntmps7
      go_wp2_with (first | (go_at_call 11; (with_reducible refine (given_r s _).mono ?_); rintro e w' ⟨rfl, hq⟩; replace HK := kr_call HK hq; clear hq) | (go_at_call 26; (with_reducible refine (cF _).mono ?_); rintro e w' ⟨rfl, hq⟩; replace HK := kr_call HK hq; clear hq) | (go_at_call 24; (with_reducible refine (cH _).mono ?_); rintro e w' ⟨rfl, hq⟩; replace HK := kr_call HK hq; clear hq) | (go_at_call 25; (with_reducible refine (cG _).mono ?_); rintro e w' ⟨rfl, hq⟩; replace HK := kr_call HK hq; clear hq) | (go_at_call 10; (with_reducible refine (cS _).mono ?_); rintro e w' ⟨rfl, hq⟩; replace HK := kr_call HK hq; clear hq) | (go_at_call 27; (with_reducible refine (cK _).mono ?_); rintro e w' ⟨rfl, hq⟩; replace HK := kr_call HK hq; clear hq; have kx5 := kr_cell HK 3 rfl 5 _ hx5; have kx4 := kr_cell HK 3 rfl 4 _ hx4; have zx := kr_lt HK 3 rfl) | (go_at_call 21; (with_reducible refine (cO _).mono ?_); rintro e w' ⟨rfl, hq⟩; replace HK := kr_call HK hq; clear hq) | (go_at_call 18; (with_reducible refine (known_any _).mono ?_); rintro e w' ⟨rfl, hq⟩; replace HK := kr_call HK hq; clear hq) | ((with_reducible show wpList _ _ _ (Oper.mk _ (Op.alloc 35) _ _ _ _ :: _) _ _); refine wl_alloc 35 stZ 10 rfl rfl stZ_zero ?_) | ((with_reducible show wpList _ _ _ (Oper.mk _ (Op.store 35 _ _) _ _ _ _ :: _) _ _); refine wl_storeK 35 _ _ stZ (St.l _) HK rfl rfl (by simp [go_sem]) rfl (st_size _) (stZ_len _) (st_one _) (fun HK2 => ?_); clear HK; have HK := HK2; clear HK2; (try simp only [World.size_alloc] at HK)) | ((with_reducible show wpList _ _ _ (Oper.mk _ (Op.alloc 23) _ _ _ _ :: _) _ _); refine wl_alloc 23 stZ 10 rfl rfl stZ_zeroR ?_) | ((with_reducible show wpList _ _ _ (Oper.mk _ (Op.store 23 _ _) _ _ _ _ :: _) _ _); refine wl_storeK 23 _ _ stZ (St.l _) HK rfl rfl (by simp [go_sem]) rfl (st_sizeR _) (stZ_len _) (st_one _) (fun HK2 => ?_); clear HK; have HK := HK2; clear HK2; (try simp only [World.size_alloc] at HK)) | ((with_reducible show wpList _ _ _ (Oper.mk _ (Op.load 35 _) _ _ _ _ :: _) _ _); refine wl_load 35 _ rfl rfl _ 0 rfl (St.l _) _ (by first | exact kr_get HK 0 rfl | exact kr_get HK 1 rfl | exact kr_get HK 2 rfl | exact kr_get HK 3 rfl | exact kr_get HK 4 rfl | exact kr_get HK 5 rfl) row_under rfl (st_size _) ?_) | ((with_reducible show wpList _ _ _ (Oper.mk _ (Op.load 23 _) _ _ _ _ :: _) _ _); refine wl_load 23 _ rfl rfl _ 0 rfl (St.l _) _ (by first | exact kr_get HK 0 rfl | exact kr_get HK 1 rfl | exact kr_get HK 2 rfl | exact kr_get HK 3 rfl | exact kr_get HK 4 rfl | exact kr_get HK 5 rfl) row_underR rfl (st_sizeR _) ?_) | ((with_reducible show wpList _ _ _ (Oper.mk _ (Op.box 23 _) _ _ _ _ :: _) _ _); refine wl_boxK 23 _ (St.l _) HK rfl rfl rfl (fun HK2 => ?_); clear HK; have HK := HK2; clear HK2; (try simp only [World.size_alloc] at HK)))
      all_goals go_ret
      all_goals exact ⟨rfl, HK.below⟩
    · clear hS hy5 hy3
      go_enter Try.func7, Try.ntmps7
      go_wp2_with (first | (go_at_call 11; (with_reducible refine (given_r s _).mono ?_); rintro e w' ⟨rfl, hq⟩; replace HK := kr_call HK hq; clear hq) | (go_at_call 26; (with_reducible refine (cF _).mono ?_); rintro e w' ⟨rfl, hq⟩; replace HK := kr_call HK hq; clear hq) | (go_at_call 24; (with_reducible refine (cH _).mono ?_); rintro e w' ⟨rfl, hq⟩; replace HK := kr_call HK hq; clear hq) | (go_at_call 25; (with_reducible refine (cG _).mono ?_); rintro e w' ⟨rfl, hq⟩; replace HK := kr_call HK hq; clear hq) | (go_at_call 10; (with_reducible refine (cS _).mono ?_); rintro e w' ⟨rfl, hq⟩; replace HK := kr_call HK hq; clear hq) | (go_at_call 27; (with_reducible refine (cK _).mono ?_); rintro e w' ⟨rfl, hq⟩; replace HK := kr_call HK hq; clear hq; have kx5 := kr_cell HK 3 rfl 5 _ hx5; have kx4 := kr_cell HK 3 rfl 4 _ hx4; have zx := kr_lt HK 3 rfl) | (go_at_call 21; (with_reducible refine (cO _).mono ?_); rintro e w' ⟨rfl, hq⟩; replace HK := kr_call HK hq; clear hq) | (go_at_call 18; (with_reducible refine (known_any _).mono ?_); rintro e w' ⟨rfl, hq⟩; replace HK := kr_call HK hq; clear hq) | ((with_reducible show wpList _ _ _ (Oper.mk _ (Op.alloc 35) _ _ _ _ :: _) _ _); refine wl_alloc 35 stZ 10 rfl rfl stZ_zero ?_) | ((with_reducible show wpList _ _ _ (Oper.mk _ (Op.store 35 _ _) _ _ _ _ :: _) _ _); refine wl_storeK 35 _ _ stZ (St.l _) HK rfl rfl (by simp [go_sem]) rfl (st_size _) (stZ_len _) (st_one _) (fun HK2 => ?_); clear HK; have HK := HK2; clear HK2; (try simp only [World.size_alloc] at HK)) | ((with_reducible show wpList _ _ _ (Oper.mk _ (Op.alloc 23) _ _ _ _ :: _) _ _); refine wl_alloc 23 stZ 10 rfl rfl stZ_zeroR ?_) | ((with_reducible show wpList _ _ _ (Oper.mk _ (Op.store 23 _ _) _ _ _ _ :: _) _ _); refine wl_storeK 23 _ _ stZ (St.l _) HK rfl rfl (by simp [go_sem]) rfl (st_sizeR _) (stZ_len _) (st_one _) (fun HK2 => ?_); clear HK; have HK := HK2; clear HK2; (try simp only [World.size_alloc] at HK)) | ((with_reducible show wpList _ _ _ (Oper.mk _ (Op.load 35 _) _ _ _ _ :: _) _ _); refine wl_load 35 _ rfl rfl _ 0 rfl (St.l _) _ (by first | exact kr_get HK 0 rfl | exact kr_get HK 1 rfl | exact kr_get HK 2 rfl | exact kr_get HK 3 rfl | exact kr_get HK 4 rfl | exact kr_get HK 5 rfl) row_under rfl (st_size _) ?_) | ((with_reducible show wpList _ _ _ (Oper.mk _ (Op.load 23 _) _ _ _ _ :: _) _ _); refine wl_load 23 _ rfl rfl _ 0 rfl (St.l _) _ (by first | exact kr_get HK 0 rfl | exact kr_get HK 1 rfl | exact kr_get HK 2 rfl | exact kr_get HK 3 rfl | exact kr_get HK 4 rfl | exact kr_get HK 5 rfl) row_underR rfl (st_sizeR _) ?_) | ((with_reducible show wpList _ _ _ (Oper.mk _ (Op.box 23 _) _ _ _ _ :: _) _ _); refine wl_boxK 23 _ (St.l _) HK rfl rfl rfl (fun HK2 => ?_); clear HK; have HK := HK2; clear HK2; (try simp only [World.size_alloc] at HK)))
      all_goals go_ret
      all_goals exact ⟨rfl, HK.below⟩
  · have cF : ∀ w : World, Calls Try.prog 26 #[.agg (s).l.toArray] w fun e w' => e = .returned (.tuple #[.agg (jForceS s).l.toArray, .int .i64 (jForceE s)]) ∧ Below w.heap.size w w' := force_r s
    generalize jForceE s = g at *
    generalize jForceS s = y at *
    have HK : KR w [] w := kr_refl w
    go_enter Try.func7, Try.ntmps7
    go_wp2_with (first | (go_at_call 11; (with_reducible refine (given_r s _).mono ?_); rintro e w' ⟨rfl, hq⟩; replace HK := kr_call HK hq; clear hq) | (go_at_call 26; (with_reducible refine (cF _).mono ?_); rintro e w' ⟨rfl, hq⟩; replace HK := kr_call HK hq; clear hq) | (go_at_call 18; (with_reducible refine (known_any _).mono ?_); rintro e w' ⟨rfl, hq⟩; replace HK := kr_call HK hq; clear hq) | ((with_reducible show wpList _ _ _ (Oper.mk _ (Op.alloc 35) _ _ _ _ :: _) _ _); refine wl_alloc 35 stZ 10 rfl rfl stZ_zero ?_) | ((with_reducible show wpList _ _ _ (Oper.mk _ (Op.store 35 _ _) _ _ _ _ :: _) _ _); refine wl_storeK 35 _ _ stZ (St.l _) HK rfl rfl (by simp [go_sem]) rfl (st_size _) (stZ_len _) (st_one _) (fun HK2 => ?_); clear HK; have HK := HK2; clear HK2; (try simp only [World.size_alloc] at HK)) | ((with_reducible show wpList _ _ _ (Oper.mk _ (Op.alloc 23) _ _ _ _ :: _) _ _); refine wl_alloc 23 stZ 10 rfl rfl stZ_zeroR ?_) | ((with_reducible show wpList _ _ _ (Oper.mk _ (Op.store 23 _ _) _ _ _ _ :: _) _ _); refine wl_storeK 23 _ _ stZ (St.l _) HK rfl rfl (by simp [go_sem]) rfl (st_sizeR _) (stZ_len _) (st_one _) (fun HK2 => ?_); clear HK; have HK := HK2; clear HK2; (try simp only [World.size_alloc] at HK)) | ((with_reducible show wpList _ _ _ (Oper.mk _ (Op.load 35 _) _ _ _ _ :: _) _ _); refine wl_load 35 _ rfl rfl _ 0 rfl (St.l _) _ (by first | exact kr_get HK 0 rfl | exact kr_get HK 1 rfl | exact kr_get HK 2 rfl | exact kr_get HK 3 rfl | exact kr_get HK 4 rfl | exact kr_get HK 5 rfl) row_under rfl (st_size _) ?_) | ((with_reducible show wpList _ _ _ (Oper.mk _ (Op.load 23 _) _ _ _ _ :: _) _ _); refine wl_load 23 _ rfl rfl _ 0 rfl (St.l _) _ (by first | exact kr_get HK 0 rfl | exact kr_get HK 1 rfl | exact kr_get HK 2 rfl | exact kr_get HK 3 rfl | exact kr_get HK 4 rfl | exact kr_get HK 5 rfl) row_underR rfl (st_sizeR _) ?_) | ((with_reducible show wpList _ _ _ (Oper.mk _ (Op.box 23 _) _ _ _ _ :: _) _ _); refine wl_boxK 23 _ (St.l _) HK rfl rfl rfl (fun HK2 => ?_); clear HK; have HK := HK2; clear HK2; (try simp only [World.size_alloc] at HK)))
    all_goals go_ret
    all_goals exact ⟨rfl, HK.below⟩
end Go.Proofs.Ytfefbmglimdgjaa.Own
