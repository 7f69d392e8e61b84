/- JobRuns: what the law's function comes to: true, whatever the codes and the definition's numbers. No conditions but that the codes lie where the slice says. -/
import Derived.Test.YtfefbmglimdgjaaDL17
import Derived.Test.YtfefbmglimdgjaaStep17
namespace Go.Proofs.Ytfefbmglimdgjaa.Own
open Go.RowKit
set_option linter.unusedSimpArgs false
theorem kr_old {w W : World} {rs : List (Nat × List Value)} (h : KR w rs W) {p : Addr} {v : Value} (hp : w.cell? p = some v) : W.cell? p = some v := by
  rw [← hp]
  exact h.below.cell (World.block_lt_of_cell? w _ hp)
theorem rerun_runs {s : St} {c : Int} (h : jRerunE s c = 0) : (jRerunS s c).runs = s.runs := by
  have hy : jRerunS s c = { s with state := 0, at_ := c, tries := 0 } := by unfold jRerunS toS; rw [if_pos h]
  rw [hy]
/-- One round: a state that is submitted and done. -/
theorem round_ok {s : St} (h : jSubmitE s 1 = 0) (code every dr retry : Int) : jDoneE (jSubmitS s 1) 5 = 0 ∧ (jDoneS (jSubmitS s 1) code every dr retry 5).runs = s.runs + 1 ∧ 0 ≤ s.runs ∧ s.runs ≤ 98 := by
  obtain ⟨h1, h2, h3, h4, h5, h6, h7⟩ := submit_right h
  have hd := done_of_right (c := 5) h1 h7 (by omega)
  obtain ⟨k1, k2, k3, k4⟩ := done_right (code := code) (every := every) (dr := dr) (retry := retry) hd
  exact ⟨hd, by rw [k2, h3], h6, h5⟩
def s0 : St := ⟨1, 0, 1, 0, false, false, 0, 0, 0, 0⟩
theorem s0_build : Try.prog.built 35 [(0, .int .i64 1), (2, .int .i64 1)] = some s0.l.toArray := by unfold s0 St.l; kernel_rfl
set_option maxHeartbeats 8000000 in
set_option maxRecDepth 20000 in
theorem jobRuns_any (co : Option Addr) (len cap : Nat) (every runs retry : Int) (w : World) (hcod : ∀ j : Nat, j < len → ∃ (A : Addr) (x : Int), co = some A ∧ w.cell? (A.add j) = some (.int .i64 x)) :
    Calls Try.prog 5 #[.slice co len cap, .int .i64 every, .int .i64 runs, .int .i64 retry] w fun e w' => e = .returned (.bool true) ∧ Below w.heap.size w w' := by
  have HK : KR w [] w := kr_refl w
  have HO : Hid (∀ j : Nat, j < len → ∃ (A : Addr) (x : Int), co = some A ∧ w.cell? (A.add j) = some (.int .i64 x)) := hcod
  clear hcod
  go_enter Try.func5, Try.ntmps5
  go_wp2_with (first | ((with_reducible show wpList _ _ _ (Oper.mk _ (Op.build 35 _) _ _ _ _ :: _) _ _); refine wl_build 35 #[(0, .const (.int .i64 1)), (2, .const (.int .i64 1))] s0.l rfl rfl (by unfold s0 St.l; kernel_rfl) ?_) | ((with_reducible show wpList _ _ _ (Oper.mk _ (Op.build 51 _) _ _ _ _ :: _) _ _); refine wl_build 51 #[(12, .tmp 20), (13, .tmp 21), (14, .tmp 22)] (dL every runs retry) rfl rfl (by unfold dL; kernel_rfl) ?_) | ((with_reducible show wpList _ _ _ (Oper.mk _ (Op.alloc 51) _ _ _ _ :: _) _ _); refine wl_alloc 51 dZ 24 rfl rfl dZ_zero ?_) | ((with_reducible show wpList _ _ _ (Oper.mk _ (Op.store 51 _ _) _ _ _ _ :: _) _ _); refine wl_storeK 51 _ _ dZ (dL every runs retry) HK rfl rfl (by simp [go_sem]) rfl (dL_size _ _ _) (dL_len _ _ _) (dL_one _ _ _) (fun HK2 => ?_); clear HK; have HK := HK2; clear HK2; (try simp only [World.size_alloc] at HK)) | ((with_reducible show wpList _ _ _ (Oper.mk _ (Op.alloc 35) _ _ _ _ :: _) _ _); refine wl_alloc 35 stZ 10 rfl rfl stZ_zero ?_) | ((with_reducible show wpList _ _ _ (Oper.mk _ (Op.store 35 _ _) _ _ _ _ :: _) _ _); refine wl_storeK 35 _ _ stZ (St.l _) HK rfl rfl (by simp [go_sem]) rfl (st_size _) (stZ_len _) (st_one _) (fun HK2 => ?_); clear HK; have HK := HK2; clear HK2; (try simp only [World.size_alloc] at HK)) | ((with_reducible show wpList _ _ _ (Oper.mk _ (Op.alloc 23) _ _ _ _ :: _) _ _); refine wl_alloc 23 stZ 10 rfl rfl stZ_zeroR ?_) | ((with_reducible show wpList _ _ _ (Oper.mk _ (Op.store 23 _ _) _ _ _ _ :: _) _ _); refine wl_storeK 23 _ _ stZ (St.l _) HK rfl rfl (by simp [go_sem]) rfl (st_sizeR _) (stZ_len _) (st_one _) (fun HK2 => ?_); clear HK; have HK := HK2; clear HK2; (try simp only [World.size_alloc] at HK)) | ((with_reducible show wpList _ _ _ (Oper.mk _ (Op.load 35 _) _ _ _ _ :: _) _ _); refine wl_load 35 _ rfl rfl _ 0 rfl (St.l _) _ (by first | exact kr_get HK 0 rfl | exact kr_get HK 1 rfl | exact kr_get HK 2 rfl | exact kr_get HK 3 rfl | exact kr_get HK 4 rfl | exact kr_get HK 5 rfl) row_under rfl (st_size _) ?_) | ((with_reducible show wpList _ _ _ (Oper.mk _ (Op.load 23 _) _ _ _ _ :: _) _ _); refine wl_load 23 _ rfl rfl _ 0 rfl (St.l _) _ (by first | exact kr_get HK 0 rfl | exact kr_get HK 1 rfl | exact kr_get HK 2 rfl | exact kr_get HK 3 rfl | exact kr_get HK 4 rfl | exact kr_get HK 5 rfl) row_underR rfl (st_sizeR _) ?_) | ((with_reducible show wpList _ _ _ (Oper.mk _ (Op.box 23 _) _ _ _ _ :: _) _ _); refine wl_boxK 23 _ (St.l _) HK rfl rfl rfl (fun HK2 => ?_); clear HK; have HK := HK2; clear HK2; (try simp only [World.size_alloc] at HK)))
  go_loopw [11, 12] (fun v11 v12 W => ∃ (s' : St) (k : Nat), v11 = .int .i64 s'.runs ∧ v12 = .int .i64 k ∧ 0 ≤ s'.runs ∧ s'.runs ≤ 99 ∧ k ≤ 300 ∧ KR w [(w.heap.size + 1, (dL every runs retry)), (w.heap.size, s'.l)] W) (fun _ v12 _ => 300 - (intOf v12).toNat)
  case atStart => exact ⟨s0, 0, rfl, rfl, by decide, by decide, by omega, by simpa using HK⟩
  case round =>
    clear HK
    obtain ⟨s', k, rfl, rfl, hr0, hr1, hk, HK⟩ := hrel
    by_cases hlt : k < len ∧ k < 300
    · obtain ⟨hl1, hl2⟩ := hlt
      obtain ⟨A, x, rfl, hx⟩ := HO k hl1
      by_cases hs : jSubmitE s' 1 = 0
      · obtain ⟨hd, hy, hp0, hp1⟩ := round_ok hs x every runs retry
        have cS : ∀ w : World, Calls Try.prog 10 #[.agg s'.l.toArray, .int .i64 1] w fun e w' => e = .returned (.tuple #[.agg (jSubmitS s' 1).l.toArray, .int .i64 0]) ∧ Below w.heap.size w w' := fun w => by have := submit_r s' 1 w; rwa [hs] at this
        have cD : ∀ w : World, Calls Try.prog 13 #[.agg (jSubmitS s' 1).l.toArray, .agg (dL every runs retry).toArray, .int .i64 x, .int .i64 5] w fun e w' => e = .returned (.tuple #[.agg (jDoneS (jSubmitS s' 1) x every runs retry 5).l.toArray, .int .i64 0]) ∧ Below w.heap.size w w' := fun w => by have := done_d (jSubmitS s' 1) every runs retry x 5 w; rwa [hd] at this
        have c6y := c6 (jDoneS (jSubmitS s' 1) x every runs retry 5)
        rw [hy] at c6y
        have hy2 : Hid ((jDoneS (jSubmitS s' 1) x every runs retry 5).runs = s'.runs + 1) := hy
        clear hs hd hy
        generalize jDoneS (jSubmitS s' 1) x every runs retry 5 = y at *
        generalize jSubmitS s' 1 = z at *
        go_wp2_with (first | (go_at_call 10; (with_reducible refine (cS _).mono ?_); rintro e w' ⟨rfl, hq⟩; replace HK := kr_call HK hq; clear hq) | ((with_reducible show wpList _ _ _ (Oper.mk _ (Op.alloc 35) _ _ _ _ :: _) _ _); refine wl_alloc 35 stZ 10 rfl rfl stZ_zero ?_) | ((with_reducible show wpList _ _ _ (Oper.mk _ (Op.store 35 _ _) _ _ _ _ :: _) _ _); refine wl_storeK 35 _ _ stZ (St.l _) HK rfl rfl (by simp [go_sem]) rfl (st_size _) (stZ_len _) (st_one _) (fun HK2 => ?_); clear HK; have HK := HK2; clear HK2; (try simp only [World.size_alloc] at HK)) | ((with_reducible show wpList _ _ _ (Oper.mk _ (Op.alloc 23) _ _ _ _ :: _) _ _); refine wl_alloc 23 stZ 10 rfl rfl stZ_zeroR ?_) | ((with_reducible show wpList _ _ _ (Oper.mk _ (Op.store 23 _ _) _ _ _ _ :: _) _ _); refine wl_storeK 23 _ _ stZ (St.l _) HK rfl rfl (by simp [go_sem]) rfl (st_sizeR _) (stZ_len _) (st_one _) (fun HK2 => ?_); clear HK; have HK := HK2; clear HK2; (try simp only [World.size_alloc] at HK)) | ((with_reducible show wpList _ _ _ (Oper.mk _ (Op.load 35 _) _ _ _ _ :: _) _ _); refine wl_load 35 _ rfl rfl _ 0 rfl (St.l _) _ (by first | exact kr_get HK 0 rfl | exact kr_get HK 1 rfl | exact kr_get HK 2 rfl | exact kr_get HK 3 rfl | exact kr_get HK 4 rfl | exact kr_get HK 5 rfl) row_under rfl (st_size _) ?_) | ((with_reducible show wpList _ _ _ (Oper.mk _ (Op.load 23 _) _ _ _ _ :: _) _ _); refine wl_load 23 _ rfl rfl _ 0 rfl (St.l _) _ (by first | exact kr_get HK 0 rfl | exact kr_get HK 1 rfl | exact kr_get HK 2 rfl | exact kr_get HK 3 rfl | exact kr_get HK 4 rfl | exact kr_get HK 5 rfl) row_underR rfl (st_sizeR _) ?_) | ((with_reducible show wpList _ _ _ (Oper.mk _ (Op.box 23 _) _ _ _ _ :: _) _ _); refine wl_boxK 23 _ (St.l _) HK rfl rfl rfl (fun HK2 => ?_); clear HK; have HK := HK2; clear HK2; (try simp only [World.size_alloc] at HK)))
        refine kr_begin HK (by kernel_rfl) (fun hHeld => ?_)
        refine wpAnyH_take (i := 0) (v := _) rfl (by kernel_rfl) (by kernel_rfl) (by kernel_rfl) (fun _ _ _ h => h) (yieldsIf_load_mid rfl 35 _ rfl _ 0 rfl (St.l _) _ (by first | exact fun W hW => kr_get hW 0 rfl | exact fun W hW => kr_get hW 1 rfl | exact fun W hW => kr_get hW 2 rfl | exact fun W hW => kr_get hW 3 rfl | exact fun W hW => kr_get hW 4 rfl | exact fun W hW => kr_get hW 5 rfl | exact fun W hW => kr_get hW 6 rfl | exact fun W hW => kr_get hW 7 rfl) row_under rfl (st_size _)) (by assumption) ?_
        simp only [Act.put, List.setIfInBounds_toArray, List.set_cons_zero, List.set_cons_succ, List.getElem_toArray, List.getElem_cons_zero, List.getElem_cons_succ]
        refine wpAnyH_take (i := 1) (v := _) rfl (by kernel_rfl) (by kernel_rfl) (by kernel_rfl) (fun _ _ _ h => h) (yieldsIf_load_mid rfl 51 _ rfl _ 0 rfl (dL every runs retry) _ (by first | exact fun W hW => kr_get hW 0 rfl | exact fun W hW => kr_get hW 1 rfl | exact fun W hW => kr_get hW 2 rfl | exact fun W hW => kr_get hW 3 rfl | exact fun W hW => kr_get hW 4 rfl | exact fun W hW => kr_get hW 5 rfl | exact fun W hW => kr_get hW 6 rfl | exact fun W hW => kr_get hW 7 rfl) dA_under rfl (dL_size _ _ _)) (by assumption) ?_
        simp only [Act.put, List.setIfInBounds_toArray, List.set_cons_zero, List.set_cons_succ, List.getElem_toArray, List.getElem_cons_zero, List.getElem_cons_succ]
        refine wpAnyH_take (i := 2) (v := ?_) rfl (by kernel_rfl) (by kernel_rfl) (by kernel_rfl) (fun _ _ _ h => h) (Or.inl ⟨by rfl, ?_⟩) (by assumption) ?_
        rotate_left
        · (intro w hSw; (try dsimp only at hSw); go_simp); (try with_reducible rfl)
        simp only [Act.put, List.setIfInBounds_toArray, List.set_cons_zero, List.set_cons_succ, List.getElem_toArray, List.getElem_cons_zero, List.getElem_cons_succ]
        refine wpAnyH_take (i := 3) (v := ?_) rfl (by kernel_rfl) (by kernel_rfl) (by kernel_rfl) (fun _ _ _ h => h) (Or.inl ⟨by rfl, ?_⟩) (by assumption) ?_
        rotate_left
        · (intro w hSw; (try dsimp only at hSw); go_simp); (try with_reducible rfl)
        simp only [Act.put, List.setIfInBounds_toArray, List.set_cons_zero, List.set_cons_succ, List.getElem_toArray, List.getElem_cons_zero, List.getElem_cons_succ]
        refine wpAnyH_take (i := 4) (v := ?_) rfl (by kernel_rfl) (by kernel_rfl) (by kernel_rfl) (fun _ _ _ h => h) (Or.inl ⟨by rfl, ?_⟩) (by assumption) ?_
        rotate_left
        · (intro w hSw; (try dsimp only at hSw); go_simp); (try with_reducible rfl)
        simp only [Act.put, List.setIfInBounds_toArray, List.set_cons_zero, List.set_cons_succ, List.getElem_toArray, List.getElem_cons_zero, List.getElem_cons_succ]
        refine wpAnyH_take (i := 5) (v := ?_) rfl (by kernel_rfl) (by kernel_rfl) (by kernel_rfl) (fun _ _ _ h => h) (Or.inl ⟨by rfl, ?_⟩) (by assumption) ?_
        rotate_left
        · (intro W hSw; (try dsimp only at hSw); have hcx := kr_old hSw hx; go_simp); (try with_reducible rfl)
        simp only [Act.put, List.setIfInBounds_toArray, List.set_cons_zero, List.set_cons_succ, List.getElem_toArray, List.getElem_cons_zero, List.getElem_cons_succ]
        refine wpAnyH_ready (rs := [6, 10]) (by kernel_rfl) (by simp) ?_
        refine AllReadyH.cons rfl (fun K hK => ?_) (AllReadyH.cons rfl (fun K hK => ?_) AllReadyH.nil)
        (try simp only [World.alloc_drew] at hHeld)
        (try simp only [List.getElem_toArray, List.getElem_cons_zero, List.getElem_cons_succ])
        go_simp
        (with_reducible refine (cD _).mono ?_)
        rintro e w' ⟨rfl, hq1⟩
        (try (focus (go_wp2_with fail)))
        refine hK.out _ _ ?_ (fun hNew => ?_)
        · ((try dsimp only); with_reducible (first | assumption | exact kr_drew (by assumption) | exact kr_call (by assumption) hq1 | exact kr_alloc (by assumption) _ | exact kr_tail HKf))
        clear hK K hHeld; have hHeld := hNew; clear hNew
        (try (simp only [Act.put, List.setIfInBounds_toArray, List.set_cons_zero, List.set_cons_succ, List.getElem_toArray, List.getElem_cons_zero, List.getElem_cons_succ]))
        refine wpAnyH_take (i := 7) (v := ?_) rfl (by kernel_rfl) (by kernel_rfl) (by kernel_rfl) (fun _ _ _ h => h) (Or.inl ⟨by rfl, ?_⟩) (by assumption) ?_
        rotate_left
        · (intro w hSw; (try dsimp only at hSw); go_simp); (try with_reducible rfl)
        simp only [Act.put, List.setIfInBounds_toArray, List.set_cons_zero, List.set_cons_succ, List.getElem_toArray, List.getElem_cons_zero, List.getElem_cons_succ]
        refine wpAnyH_take (i := 8) (v := ?_) rfl (by kernel_rfl) (by kernel_rfl) (by kernel_rfl) (fun _ _ _ h => h) (Or.inl ⟨by rfl, ?_⟩) (by assumption) ?_
        rotate_left
        · (intro w hSw; (try dsimp only at hSw); go_simp); (try with_reducible rfl)
        simp only [Act.put, List.setIfInBounds_toArray, List.set_cons_zero, List.set_cons_succ, List.getElem_toArray, List.getElem_cons_zero, List.getElem_cons_succ]
        refine wpAnyH_take (i := 9) (v := ?_) rfl (by kernel_rfl) (by kernel_rfl) (by kernel_rfl) (fun _ _ _ h => h) (Or.inl ⟨by rfl, ?_⟩) (by assumption) ?_
        rotate_left
        · (intro w hSw; (try dsimp only at hSw); go_simp); (try with_reducible rfl)
        simp only [Act.put, List.setIfInBounds_toArray, List.set_cons_zero, List.set_cons_succ, List.getElem_toArray, List.getElem_cons_zero, List.getElem_cons_succ]
        refine wpAnyH_ready (rs := [10]) (by kernel_rfl) (by simp) ?_
        refine AllReadyH.cons rfl (fun K hK => ?_) AllReadyH.nil
        (try simp only [List.getElem_toArray, List.getElem_cons_zero, List.getElem_cons_succ])
        rw [if_pos (show Region.wanted _ _ = true from rfl)]
        refine ow_alloc 35 stZ 10 rfl stZ_zero ?_
        have HKn := kr_newZ hHeld 35
        (try simp only [World.size_alloc, World.size_drew] at HKn)
        refine hK.out _ _ ?_ (fun hNew => ?_)
        · ((try dsimp only); with_reducible (first | assumption | exact kr_drew (by assumption) | exact kr_call (by assumption) hq1 | exact kr_alloc (by assumption) _ | exact kr_tail HKf))
        clear hK K hHeld; have hHeld := hNew; clear hNew
        (try (simp only [Act.put, List.setIfInBounds_toArray, List.set_cons_zero, List.set_cons_succ, List.getElem_toArray, List.getElem_cons_zero, List.getElem_cons_succ]))
        refine wpAnyH_ready (rs := [11]) (by kernel_rfl) (by simp) ?_
        refine AllReadyH.cons rfl (fun K hK => ?_) AllReadyH.nil
        (try simp only [World.alloc_drew] at hHeld)
        (try simp only [World.alloc_drew] at HKn)
        (try simp only [List.getElem_toArray, List.getElem_cons_zero, List.getElem_cons_succ])
        rw [if_pos (show Region.wanted _ _ = true from rfl)]
        refine wp_store_mid 35 _ _ rfl _ 0 (St.l _).toArray rfl rfl (kr_there HKn 0 rfl _) (by simpa using st_size _) (all_oneCell_toArray (st_one _)) ?_
        have HKf := kr_set HKn 0 rfl y
        simp only [List.set_cons_zero] at HKf
        refine hK.out _ _ ?_ (fun hNew => ?_)
        · ((try dsimp only); exact kr_tail HKf)
        clear hK K hHeld; have hHeld := hNew; clear hNew
        (try (simp only [Act.put, List.setIfInBounds_toArray, List.set_cons_zero, List.set_cons_succ, List.getElem_toArray, List.getElem_cons_zero, List.getElem_cons_succ]))
        refine wpAnyH_take (i := 12) (v := ?_) rfl (by kernel_rfl) (by kernel_rfl) (by kernel_rfl) (fun _ _ _ h => h) (Or.inl ⟨by rfl, ?_⟩) (by assumption) ?_
        rotate_left
        · (intro w hSw; (try dsimp only at hSw); go_simp); (try with_reducible rfl)
        simp only [Act.put, List.setIfInBounds_toArray, List.set_cons_zero, List.set_cons_succ, List.getElem_toArray, List.getElem_cons_zero, List.getElem_cons_succ]
        refine wpAnyH_done (by kernel_rfl) ?_ _
        clear HK hHeld HKn
        have HK := HKf
        clear HKf
        rotate_left
        (try simp only [List.getElem_toArray, List.getElem_cons_zero, List.getElem_cons_succ])
        rw [if_pos (show Region.wanted _ _ = true from rfl)]
        refine ow_alloc 35 stZ 10 rfl stZ_zero ?_
        have HKn := kr_newZ hHeld 35
        (try simp only [World.size_alloc, World.size_drew] at HKn)
        refine hK.out _ _ ?_ (fun hNew => ?_)
        · ((try dsimp only); with_reducible (first | assumption | exact kr_drew (by assumption) | exact kr_call (by assumption) hq1 | exact kr_alloc (by assumption) _ | exact kr_tail HKf))
        clear hK K hHeld; have hHeld := hNew; clear hNew
        (try (simp only [Act.put, List.setIfInBounds_toArray, List.set_cons_zero, List.set_cons_succ, List.getElem_toArray, List.getElem_cons_zero, List.getElem_cons_succ]))
        refine wpAnyH_ready (rs := [6]) (by kernel_rfl) (by simp) ?_
        refine AllReadyH.cons rfl (fun K hK => ?_) AllReadyH.nil
        (try simp only [World.alloc_drew] at hHeld)
        (try simp only [World.alloc_drew] at HKn)
        (try simp only [List.getElem_toArray, List.getElem_cons_zero, List.getElem_cons_succ])
        go_simp
        (with_reducible refine (cD _).mono ?_)
        rintro e w' ⟨rfl, hq1⟩
        replace HKn := kr_call HKn hq1
        (try (focus (go_wp2_with fail)))
        refine hK.out _ _ ?_ (fun hNew => ?_)
        · ((try dsimp only); with_reducible (first | assumption | exact kr_drew (by assumption) | exact kr_call (by assumption) hq1 | exact kr_alloc (by assumption) _ | exact kr_tail HKf))
        clear hK K hHeld; have hHeld := hNew; clear hNew
        (try (simp only [Act.put, List.setIfInBounds_toArray, List.set_cons_zero, List.set_cons_succ, List.getElem_toArray, List.getElem_cons_zero, List.getElem_cons_succ]))
        refine wpAnyH_take (i := 7) (v := ?_) rfl (by kernel_rfl) (by kernel_rfl) (by kernel_rfl) (fun _ _ _ h => h) (Or.inl ⟨by rfl, ?_⟩) (by assumption) ?_
        rotate_left
        · (intro w hSw; (try dsimp only at hSw); go_simp); (try with_reducible rfl)
        simp only [Act.put, List.setIfInBounds_toArray, List.set_cons_zero, List.set_cons_succ, List.getElem_toArray, List.getElem_cons_zero, List.getElem_cons_succ]
        refine wpAnyH_take (i := 8) (v := ?_) rfl (by kernel_rfl) (by kernel_rfl) (by kernel_rfl) (fun _ _ _ h => h) (Or.inl ⟨by rfl, ?_⟩) (by assumption) ?_
        rotate_left
        · (intro w hSw; (try dsimp only at hSw); go_simp); (try with_reducible rfl)
        simp only [Act.put, List.setIfInBounds_toArray, List.set_cons_zero, List.set_cons_succ, List.getElem_toArray, List.getElem_cons_zero, List.getElem_cons_succ]
        refine wpAnyH_take (i := 9) (v := ?_) rfl (by kernel_rfl) (by kernel_rfl) (by kernel_rfl) (fun _ _ _ h => h) (Or.inl ⟨by rfl, ?_⟩) (by assumption) ?_
        rotate_left
        · (intro w hSw; (try dsimp only at hSw); go_simp); (try with_reducible rfl)
        simp only [Act.put, List.setIfInBounds_toArray, List.set_cons_zero, List.set_cons_succ, List.getElem_toArray, List.getElem_cons_zero, List.getElem_cons_succ]
        refine wpAnyH_ready (rs := [11]) (by kernel_rfl) (by simp) ?_
        refine AllReadyH.cons rfl (fun K hK => ?_) AllReadyH.nil
        (try simp only [World.alloc_drew] at hHeld)
        (try simp only [World.alloc_drew] at HKn)
        (try simp only [List.getElem_toArray, List.getElem_cons_zero, List.getElem_cons_succ])
        rw [if_pos (show Region.wanted _ _ = true from rfl)]
        refine wp_store_mid 35 _ _ rfl _ 0 (St.l _).toArray rfl rfl (kr_there HKn 0 rfl _) (by simpa using st_size _) (all_oneCell_toArray (st_one _)) ?_
        have HKf := kr_set HKn 0 rfl y
        simp only [List.set_cons_zero] at HKf
        refine hK.out _ _ ?_ (fun hNew => ?_)
        · ((try dsimp only); exact kr_tail HKf)
        clear hK K hHeld; have hHeld := hNew; clear hNew
        (try (simp only [Act.put, List.setIfInBounds_toArray, List.set_cons_zero, List.set_cons_succ, List.getElem_toArray, List.getElem_cons_zero, List.getElem_cons_succ]))
        refine wpAnyH_take (i := 12) (v := ?_) rfl (by kernel_rfl) (by kernel_rfl) (by kernel_rfl) (fun _ _ _ h => h) (Or.inl ⟨by rfl, ?_⟩) (by assumption) ?_
        rotate_left
        · (intro w hSw; (try dsimp only at hSw); go_simp); (try with_reducible rfl)
        simp only [Act.put, List.setIfInBounds_toArray, List.set_cons_zero, List.set_cons_succ, List.getElem_toArray, List.getElem_cons_zero, List.getElem_cons_succ]
        refine wpAnyH_done (by kernel_rfl) ?_ _
        clear HK hHeld HKn
        have HK := HKf
        clear HKf
        rotate_left
        all_goals (
          have kc := kr_cell HK 0 rfl 6 _ c6y
          go_wp2_with (first | ((with_reducible show wpList _ _ _ (Oper.mk _ (Op.alloc 35) _ _ _ _ :: _) _ _); refine wl_alloc 35 stZ 10 rfl rfl stZ_zero ?_) | ((with_reducible show wpList _ _ _ (Oper.mk _ (Op.store 35 _ _) _ _ _ _ :: _) _ _); refine wl_storeK 35 _ _ stZ (St.l _) HK rfl rfl (by simp [go_sem]) rfl (st_size _) (stZ_len _) (st_one _) (fun HK2 => ?_); clear HK; have HK := HK2; clear HK2; (try simp only [World.size_alloc] at HK)) | ((with_reducible show wpList _ _ _ (Oper.mk _ (Op.alloc 23) _ _ _ _ :: _) _ _); refine wl_alloc 23 stZ 10 rfl rfl stZ_zeroR ?_) | ((with_reducible show wpList _ _ _ (Oper.mk _ (Op.store 23 _ _) _ _ _ _ :: _) _ _); refine wl_storeK 23 _ _ stZ (St.l _) HK rfl rfl (by simp [go_sem]) rfl (st_sizeR _) (stZ_len _) (st_one _) (fun HK2 => ?_); clear HK; have HK := HK2; clear HK2; (try simp only [World.size_alloc] at HK)) | ((with_reducible show wpList _ _ _ (Oper.mk _ (Op.load 35 _) _ _ _ _ :: _) _ _); refine wl_load 35 _ rfl rfl _ 0 rfl (St.l _) _ (by first | exact kr_get HK 0 rfl | exact kr_get HK 1 rfl | exact kr_get HK 2 rfl | exact kr_get HK 3 rfl | exact kr_get HK 4 rfl | exact kr_get HK 5 rfl) row_under rfl (st_size _) ?_) | ((with_reducible show wpList _ _ _ (Oper.mk _ (Op.store 35 _ _) _ _ _ _ :: _) _ _); refine wl_setK 35 _ _ _ _ _ HK 0 rfl rfl rfl rfl rfl (st_size _) (fun HK2 => ?_); clear HK; have HK := HK2; clear HK2; (try simp only [World.size_alloc] at HK); simp only [List.set_cons_zero, List.set_cons_succ] at HK) | ((with_reducible show wpList _ _ _ (Oper.mk _ (Op.store 35 _ _) _ _ _ _ :: _) _ _); refine wl_setK 35 _ _ _ _ _ HK 1 rfl rfl rfl rfl rfl (st_size _) (fun HK2 => ?_); clear HK; have HK := HK2; clear HK2; (try simp only [World.size_alloc] at HK); simp only [List.set_cons_zero, List.set_cons_succ] at HK) | ((with_reducible show wpList _ _ _ (Oper.mk _ (Op.store 35 _ _) _ _ _ _ :: _) _ _); refine wl_setK 35 _ _ _ _ _ HK 2 rfl rfl rfl rfl rfl (st_size _) (fun HK2 => ?_); clear HK; have HK := HK2; clear HK2; (try simp only [World.size_alloc] at HK); simp only [List.set_cons_zero, List.set_cons_succ] at HK) | ((with_reducible show wpList _ _ _ (Oper.mk _ (Op.store 35 _ _) _ _ _ _ :: _) _ _); refine wl_setK 35 _ _ _ _ _ HK 3 rfl rfl rfl rfl rfl (st_size _) (fun HK2 => ?_); clear HK; have HK := HK2; clear HK2; (try simp only [World.size_alloc] at HK); simp only [List.set_cons_zero, List.set_cons_succ] at HK) | ((with_reducible show wpList _ _ _ (Oper.mk _ (Op.store 35 _ _) _ _ _ _ :: _) _ _); refine wl_setK 35 _ _ _ _ _ HK 4 rfl rfl rfl rfl rfl (st_size _) (fun HK2 => ?_); clear HK; have HK := HK2; clear HK2; (try simp only [World.size_alloc] at HK); simp only [List.set_cons_zero, List.set_cons_succ] at HK) | ((with_reducible show wpList _ _ _ (Oper.mk _ (Op.load 23 _) _ _ _ _ :: _) _ _); refine wl_load 23 _ rfl rfl _ 0 rfl (St.l _) _ (by first | exact kr_get HK 0 rfl | exact kr_get HK 1 rfl | exact kr_get HK 2 rfl | exact kr_get HK 3 rfl | exact kr_get HK 4 rfl | exact kr_get HK 5 rfl) row_underR rfl (st_sizeR _) ?_) | ((with_reducible show wpList _ _ _ (Oper.mk _ (Op.store 23 _ _) _ _ _ _ :: _) _ _); refine wl_setK 23 _ _ _ _ _ HK 0 rfl rfl rfl rfl rfl (st_sizeR _) (fun HK2 => ?_); clear HK; have HK := HK2; clear HK2; (try simp only [World.size_alloc] at HK); simp only [List.set_cons_zero, List.set_cons_succ] at HK) | ((with_reducible show wpList _ _ _ (Oper.mk _ (Op.store 23 _ _) _ _ _ _ :: _) _ _); refine wl_setK 23 _ _ _ _ _ HK 1 rfl rfl rfl rfl rfl (st_sizeR _) (fun HK2 => ?_); clear HK; have HK := HK2; clear HK2; (try simp only [World.size_alloc] at HK); simp only [List.set_cons_zero, List.set_cons_succ] at HK) | ((with_reducible show wpList _ _ _ (Oper.mk _ (Op.store 23 _ _) _ _ _ _ :: _) _ _); refine wl_setK 23 _ _ _ _ _ HK 2 rfl rfl rfl rfl rfl (st_sizeR _) (fun HK2 => ?_); clear HK; have HK := HK2; clear HK2; (try simp only [World.size_alloc] at HK); simp only [List.set_cons_zero, List.set_cons_succ] at HK) | ((with_reducible show wpList _ _ _ (Oper.mk _ (Op.store 23 _ _) _ _ _ _ :: _) _ _); refine wl_setK 23 _ _ _ _ _ HK 3 rfl rfl rfl rfl rfl (st_sizeR _) (fun HK2 => ?_); clear HK; have HK := HK2; clear HK2; (try simp only [World.size_alloc] at HK); simp only [List.set_cons_zero, List.set_cons_succ] at HK) | ((with_reducible show wpList _ _ _ (Oper.mk _ (Op.store 23 _ _) _ _ _ _ :: _) _ _); refine wl_setK 23 _ _ _ _ _ HK 4 rfl rfl rfl rfl rfl (st_sizeR _) (fun HK2 => ?_); clear HK; have HK := HK2; clear HK2; (try simp only [World.size_alloc] at HK); simp only [List.set_cons_zero, List.set_cons_succ] at HK) | ((with_reducible show wpList _ _ _ (Oper.mk _ (Op.box 23 _) _ _ _ _ :: _) _ _); refine wl_boxK 23 _ (St.l _) HK rfl rfl rfl (fun HK2 => ?_); clear HK; have HK := HK2; clear HK2; (try simp only [World.size_alloc] at HK)))
          go_round
          case rel => exact ⟨y, k + 1, by rw [show y.runs = s'.runs + 1 from hy2] <;> go_num, by first | rfl | go_num, by rw [show y.runs = s'.runs + 1 from hy2]; omega, by rw [show y.runs = s'.runs + 1 from hy2]; omega, by omega, kr_tail (kr_tail HK)⟩
          case measure => (simp [intOf]; try omega))
      · have cS := submit_r s' 1
        by_cases hq : jRerunE s' 5 = 0
        · have hyr := rerun_runs hq
          have cR : ∀ w : World, Calls Try.prog 23 #[.agg s'.l.toArray, .int .i64 5] w fun e w' => e = .returned (.tuple #[.agg (jRerunS s' 5).l.toArray, .int .i64 0]) ∧ Below w.heap.size w w' := fun w => by have := rerun_r s' 5 w; rwa [hq] at this
          have hy2 : Hid ((jRerunS s' 5).runs = s'.runs) := hyr
          clear hq hyr
          generalize jRerunS s' 5 = y at *
          generalize jSubmitE s' 1 = g at *
          generalize jSubmitS s' 1 = z at *
          go_wp2_with (first | (go_at_call 10; (with_reducible refine (cS _).mono ?_); rintro e w' ⟨rfl, hq⟩; replace HK := kr_call HK hq; clear hq) | (go_at_call 23; (with_reducible refine (cR _).mono ?_); rintro e w' ⟨rfl, hq⟩; replace HK := kr_call HK hq; clear hq) | ((with_reducible show wpList _ _ _ (Oper.mk _ (Op.alloc 35) _ _ _ _ :: _) _ _); refine wl_alloc 35 stZ 10 rfl rfl stZ_zero ?_) | ((with_reducible show wpList _ _ _ (Oper.mk _ (Op.store 35 _ _) _ _ _ _ :: _) _ _); refine wl_storeK 35 _ _ stZ (St.l _) HK rfl rfl (by simp [go_sem]) rfl (st_size _) (stZ_len _) (st_one _) (fun HK2 => ?_); clear HK; have HK := HK2; clear HK2; (try simp only [World.size_alloc] at HK)) | ((with_reducible show wpList _ _ _ (Oper.mk _ (Op.alloc 23) _ _ _ _ :: _) _ _); refine wl_alloc 23 stZ 10 rfl rfl stZ_zeroR ?_) | ((with_reducible show wpList _ _ _ (Oper.mk _ (Op.store 23 _ _) _ _ _ _ :: _) _ _); refine wl_storeK 23 _ _ stZ (St.l _) HK rfl rfl (by simp [go_sem]) rfl (st_sizeR _) (stZ_len _) (st_one _) (fun HK2 => ?_); clear HK; have HK := HK2; clear HK2; (try simp only [World.size_alloc] at HK)) | ((with_reducible show wpList _ _ _ (Oper.mk _ (Op.load 35 _) _ _ _ _ :: _) _ _); refine wl_load 35 _ rfl rfl _ 0 rfl (St.l _) _ (by first | exact kr_get HK 0 rfl | exact kr_get HK 1 rfl | exact kr_get HK 2 rfl | exact kr_get HK 3 rfl | exact kr_get HK 4 rfl | exact kr_get HK 5 rfl) row_under rfl (st_size _) ?_) | ((with_reducible show wpList _ _ _ (Oper.mk _ (Op.store 35 _ _) _ _ _ _ :: _) _ _); refine wl_setK 35 _ _ _ _ _ HK 0 rfl rfl rfl rfl rfl (st_size _) (fun HK2 => ?_); clear HK; have HK := HK2; clear HK2; (try simp only [World.size_alloc] at HK); simp only [List.set_cons_zero, List.set_cons_succ] at HK) | ((with_reducible show wpList _ _ _ (Oper.mk _ (Op.store 35 _ _) _ _ _ _ :: _) _ _); refine wl_setK 35 _ _ _ _ _ HK 1 rfl rfl rfl rfl rfl (st_size _) (fun HK2 => ?_); clear HK; have HK := HK2; clear HK2; (try simp only [World.size_alloc] at HK); simp only [List.set_cons_zero, List.set_cons_succ] at HK) | ((with_reducible show wpList _ _ _ (Oper.mk _ (Op.store 35 _ _) _ _ _ _ :: _) _ _); refine wl_setK 35 _ _ _ _ _ HK 2 rfl rfl rfl rfl rfl (st_size _) (fun HK2 => ?_); clear HK; have HK := HK2; clear HK2; (try simp only [World.size_alloc] at HK); simp only [List.set_cons_zero, List.set_cons_succ] at HK) | ((with_reducible show wpList _ _ _ (Oper.mk _ (Op.store 35 _ _) _ _ _ _ :: _) _ _); refine wl_setK 35 _ _ _ _ _ HK 3 rfl rfl rfl rfl rfl (st_size _) (fun HK2 => ?_); clear HK; have HK := HK2; clear HK2; (try simp only [World.size_alloc] at HK); simp only [List.set_cons_zero, List.set_cons_succ] at HK) | ((with_reducible show wpList _ _ _ (Oper.mk _ (Op.store 35 _ _) _ _ _ _ :: _) _ _); refine wl_setK 35 _ _ _ _ _ HK 4 rfl rfl rfl rfl rfl (st_size _) (fun HK2 => ?_); clear HK; have HK := HK2; clear HK2; (try simp only [World.size_alloc] at HK); simp only [List.set_cons_zero, List.set_cons_succ] at HK) | ((with_reducible show wpList _ _ _ (Oper.mk _ (Op.load 23 _) _ _ _ _ :: _) _ _); refine wl_load 23 _ rfl rfl _ 0 rfl (St.l _) _ (by first | exact kr_get HK 0 rfl | exact kr_get HK 1 rfl | exact kr_get HK 2 rfl | exact kr_get HK 3 rfl | exact kr_get HK 4 rfl | exact kr_get HK 5 rfl) row_underR rfl (st_sizeR _) ?_) | ((with_reducible show wpList _ _ _ (Oper.mk _ (Op.store 23 _ _) _ _ _ _ :: _) _ _); refine wl_setK 23 _ _ _ _ _ HK 0 rfl rfl rfl rfl rfl (st_sizeR _) (fun HK2 => ?_); clear HK; have HK := HK2; clear HK2; (try simp only [World.size_alloc] at HK); simp only [List.set_cons_zero, List.set_cons_succ] at HK) | ((with_reducible show wpList _ _ _ (Oper.mk _ (Op.store 23 _ _) _ _ _ _ :: _) _ _); refine wl_setK 23 _ _ _ _ _ HK 1 rfl rfl rfl rfl rfl (st_sizeR _) (fun HK2 => ?_); clear HK; have HK := HK2; clear HK2; (try simp only [World.size_alloc] at HK); simp only [List.set_cons_zero, List.set_cons_succ] at HK) | ((with_reducible show wpList _ _ _ (Oper.mk _ (Op.store 23 _ _) _ _ _ _ :: _) _ _); refine wl_setK 23 _ _ _ _ _ HK 2 rfl rfl rfl rfl rfl (st_sizeR _) (fun HK2 => ?_); clear HK; have HK := HK2; clear HK2; (try simp only [World.size_alloc] at HK); simp only [List.set_cons_zero, List.set_cons_succ] at HK) | ((with_reducible show wpList _ _ _ (Oper.mk _ (Op.store 23 _ _) _ _ _ _ :: _) _ _); refine wl_setK 23 _ _ _ _ _ HK 3 rfl rfl rfl rfl rfl (st_sizeR _) (fun HK2 => ?_); clear HK; have HK := HK2; clear HK2; (try simp only [World.size_alloc] at HK); simp only [List.set_cons_zero, List.set_cons_succ] at HK) | ((with_reducible show wpList _ _ _ (Oper.mk _ (Op.store 23 _ _) _ _ _ _ :: _) _ _); refine wl_setK 23 _ _ _ _ _ HK 4 rfl rfl rfl rfl rfl (st_sizeR _) (fun HK2 => ?_); clear HK; have HK := HK2; clear HK2; (try simp only [World.size_alloc] at HK); simp only [List.set_cons_zero, List.set_cons_succ] at HK) | ((with_reducible show wpList _ _ _ (Oper.mk _ (Op.box 23 _) _ _ _ _ :: _) _ _); refine wl_boxK 23 _ (St.l _) HK rfl rfl rfl (fun HK2 => ?_); clear HK; have HK := HK2; clear HK2; (try simp only [World.size_alloc] at HK)))
          go_round
          case rel => exact ⟨y, k + 1, by rw [show y.runs = s'.runs from hy2], by first | rfl | go_num, by rw [show y.runs = s'.runs from hy2]; omega, by rw [show y.runs = s'.runs from hy2]; omega, by omega, kr_tail (kr_tail HK)⟩
          case measure => (simp [intOf]; try omega)
        · have cR := rerun_r s' 5
          generalize jRerunE s' 5 = g2 at *
          generalize jRerunS s' 5 = y at *
          generalize jSubmitE s' 1 = g at *
          generalize jSubmitS s' 1 = z at *
          have c6s := c6 s'
          go_wp2_with (first | (go_at_call 10; (with_reducible refine (cS _).mono ?_); rintro e w' ⟨rfl, hq⟩; replace HK := kr_call HK hq; clear hq) | (go_at_call 23; (with_reducible refine (cR _).mono ?_); rintro e w' ⟨rfl, hq⟩; replace HK := kr_call HK hq; clear hq; have kc := kr_cell HK 2 rfl 6 _ c6s; have kl := kr_lt HK 2 rfl) | (go_at_call 18; (with_reducible refine (known_any _).mono ?_); rintro e w' ⟨rfl, hq⟩; replace HK := kr_call HK hq; clear hq) | ((with_reducible show wpList _ _ _ (Oper.mk _ (Op.alloc 35) _ _ _ _ :: _) _ _); refine wl_alloc 35 stZ 10 rfl rfl stZ_zero ?_) | ((with_reducible show wpList _ _ _ (Oper.mk _ (Op.store 35 _ _) _ _ _ _ :: _) _ _); refine wl_storeK 35 _ _ stZ (St.l _) HK rfl rfl (by simp [go_sem]) rfl (st_size _) (stZ_len _) (st_one _) (fun HK2 => ?_); clear HK; have HK := HK2; clear HK2; (try simp only [World.size_alloc] at HK)) | ((with_reducible show wpList _ _ _ (Oper.mk _ (Op.alloc 23) _ _ _ _ :: _) _ _); refine wl_alloc 23 stZ 10 rfl rfl stZ_zeroR ?_) | ((with_reducible show wpList _ _ _ (Oper.mk _ (Op.store 23 _ _) _ _ _ _ :: _) _ _); refine wl_storeK 23 _ _ stZ (St.l _) HK rfl rfl (by simp [go_sem]) rfl (st_sizeR _) (stZ_len _) (st_one _) (fun HK2 => ?_); clear HK; have HK := HK2; clear HK2; (try simp only [World.size_alloc] at HK)) | ((with_reducible show wpList _ _ _ (Oper.mk _ (Op.load 35 _) _ _ _ _ :: _) _ _); refine wl_load 35 _ rfl rfl _ 0 rfl (St.l _) _ (by first | exact kr_get HK 0 rfl | exact kr_get HK 1 rfl | exact kr_get HK 2 rfl | exact kr_get HK 3 rfl | exact kr_get HK 4 rfl | exact kr_get HK 5 rfl) row_under rfl (st_size _) ?_) | ((with_reducible show wpList _ _ _ (Oper.mk _ (Op.store 35 _ _) _ _ _ _ :: _) _ _); refine wl_setK 35 _ _ _ _ _ HK 0 rfl rfl rfl rfl rfl (st_size _) (fun HK2 => ?_); clear HK; have HK := HK2; clear HK2; (try simp only [World.size_alloc] at HK); simp only [List.set_cons_zero, List.set_cons_succ] at HK) | ((with_reducible show wpList _ _ _ (Oper.mk _ (Op.store 35 _ _) _ _ _ _ :: _) _ _); refine wl_setK 35 _ _ _ _ _ HK 1 rfl rfl rfl rfl rfl (st_size _) (fun HK2 => ?_); clear HK; have HK := HK2; clear HK2; (try simp only [World.size_alloc] at HK); simp only [List.set_cons_zero, List.set_cons_succ] at HK) | ((with_reducible show wpList _ _ _ (Oper.mk _ (Op.store 35 _ _) _ _ _ _ :: _) _ _); refine wl_setK 35 _ _ _ _ _ HK 2 rfl rfl rfl rfl rfl (st_size _) (fun HK2 => ?_); clear HK; have HK := HK2; clear HK2; (try simp only [World.size_alloc] at HK); simp only [List.set_cons_zero, List.set_cons_succ] at HK) | ((with_reducible show wpList _ _ _ (Oper.mk _ (Op.store 35 _ _) _ _ _ _ :: _) _ _); refine wl_setK 35 _ _ _ _ _ HK 3 rfl rfl rfl rfl rfl (st_size _) (fun HK2 => ?_); clear HK; have HK := HK2; clear HK2; (try simp only [World.size_alloc] at HK); simp only [List.set_cons_zero, List.set_cons_succ] at HK) | ((with_reducible show wpList _ _ _ (Oper.mk _ (Op.store 35 _ _) _ _ _ _ :: _) _ _); refine wl_setK 35 _ _ _ _ _ HK 4 rfl rfl rfl rfl rfl (st_size _) (fun HK2 => ?_); clear HK; have HK := HK2; clear HK2; (try simp only [World.size_alloc] at HK); simp only [List.set_cons_zero, List.set_cons_succ] at HK) | ((with_reducible show wpList _ _ _ (Oper.mk _ (Op.load 23 _) _ _ _ _ :: _) _ _); refine wl_load 23 _ rfl rfl _ 0 rfl (St.l _) _ (by first | exact kr_get HK 0 rfl | exact kr_get HK 1 rfl | exact kr_get HK 2 rfl | exact kr_get HK 3 rfl | exact kr_get HK 4 rfl | exact kr_get HK 5 rfl) row_underR rfl (st_sizeR _) ?_) | ((with_reducible show wpList _ _ _ (Oper.mk _ (Op.store 23 _ _) _ _ _ _ :: _) _ _); refine wl_setK 23 _ _ _ _ _ HK 0 rfl rfl rfl rfl rfl (st_sizeR _) (fun HK2 => ?_); clear HK; have HK := HK2; clear HK2; (try simp only [World.size_alloc] at HK); simp only [List.set_cons_zero, List.set_cons_succ] at HK) | ((with_reducible show wpList _ _ _ (Oper.mk _ (Op.store 23 _ _) _ _ _ _ :: _) _ _); refine wl_setK 23 _ _ _ _ _ HK 1 rfl rfl rfl rfl rfl (st_sizeR _) (fun HK2 => ?_); clear HK; have HK := HK2; clear HK2; (try simp only [World.size_alloc] at HK); simp only [List.set_cons_zero, List.set_cons_succ] at HK) | ((with_reducible show wpList _ _ _ (Oper.mk _ (Op.store 23 _ _) _ _ _ _ :: _) _ _); refine wl_setK 23 _ _ _ _ _ HK 2 rfl rfl rfl rfl rfl (st_sizeR _) (fun HK2 => ?_); clear HK; have HK := HK2; clear HK2; (try simp only [World.size_alloc] at HK); simp only [List.set_cons_zero, List.set_cons_succ] at HK) | ((with_reducible show wpList _ _ _ (Oper.mk _ (Op.store 23 _ _) _ _ _ _ :: _) _ _); refine wl_setK 23 _ _ _ _ _ HK 3 rfl rfl rfl rfl rfl (st_sizeR _) (fun HK2 => ?_); clear HK; have HK := HK2; clear HK2; (try simp only [World.size_alloc] at HK); simp only [List.set_cons_zero, List.set_cons_succ] at HK) | ((with_reducible show wpList _ _ _ (Oper.mk _ (Op.store 23 _ _) _ _ _ _ :: _) _ _); refine wl_setK 23 _ _ _ _ _ HK 4 rfl rfl rfl rfl rfl (st_sizeR _) (fun HK2 => ?_); clear HK; have HK := HK2; clear HK2; (try simp only [World.size_alloc] at HK); simp only [List.set_cons_zero, List.set_cons_succ] at HK) | ((with_reducible show wpList _ _ _ (Oper.mk _ (Op.box 23 _) _ _ _ _ :: _) _ _); refine wl_boxK 23 _ (St.l _) HK rfl rfl rfl (fun HK2 => ?_); clear HK; have HK := HK2; clear HK2; (try simp only [World.size_alloc] at HK)))
          all_goals go_ret
          all_goals exact ⟨rfl, HK.below⟩
    · have kc := kr_cell HK 1 rfl 6 _ (c6 s')
      have hlt2 : ¬ (k < len) ∨ ¬ (k < 300) := by omega
      rcases hlt2 with hl | hl
      all_goals (
        go_wp2_with (first | (go_at_call 18; (with_reducible refine (known_any _).mono ?_); rintro e w' ⟨rfl, hq⟩; replace HK := kr_call HK hq; clear hq))
        all_goals go_ret
        all_goals exact ⟨rfl, HK.below⟩)
end Go.Proofs.Ytfefbmglimdgjaa.Own
