/- JobCommands: what the law's function comes to: true, whatever the state and the clock. No conditions. -/
import Derived.Test.YtfefbmglimdgjaaKn
import Derived.Test.YtfefbmglimdgjaaKr17
import Derived.Test.YtfefbmglimdgjaaRef17b
namespace Go.Proofs.Ytfefbmglimdgjaa.Own
open Go.RowKit
set_option linter.unusedSimpArgs false
set_option maxHeartbeats 4000000 in
set_option maxRecDepth 20000 in
theorem jobCommands_any (s : St) (clock : Int) (w : World) : Calls Try.prog 9 #[.agg s.l.toArray, .int .i64 clock] w fun e w' => e = .returned (.bool true) ∧ Below w.heap.size w w' := by
  have HK : KR w [] w := kr_refl w
  have HQ1 := row_neq
  have HQ2 := row_eq
  go_enter Try.func9, Try.ntmps9
  go_wp2_with (first | (go_at_call 11; (with_reducible refine (given_r s _).mono ?_); rintro e w' ⟨rfl, hq⟩; replace HK := kr_call HK hq; clear hq) | (go_at_call 24; (with_reducible refine (hold_r s _).mono ?_); rintro e w' ⟨rfl, hq⟩; replace HK := kr_call HK hq; clear hq) | (go_at_call 29; (with_reducible refine (rhold_r s _).mono ?_); rintro e w' ⟨rfl, hq⟩; replace HK := kr_call HK hq; clear hq) | (go_at_call 25; (with_reducible refine (free_r s _).mono ?_); rintro e w' ⟨rfl, hq⟩; replace HK := kr_call HK hq; clear hq) | (go_at_call 30; (with_reducible refine (rfree_r s _).mono ?_); rintro e w' ⟨rfl, hq⟩; replace HK := kr_call HK hq; clear hq) | (go_at_call 26; (with_reducible refine (force_r s _).mono ?_); rintro e w' ⟨rfl, hq⟩; replace HK := kr_call HK hq; clear hq) | (go_at_call 32; (with_reducible refine (rforce_r s _).mono ?_); rintro e w' ⟨rfl, hq⟩; replace HK := kr_call HK hq; clear hq) | (go_at_call 27; (with_reducible refine (ok_r s _).mono ?_); rintro e w' ⟨rfl, hq⟩; replace HK := kr_call HK hq; clear hq) | (go_at_call 33; (with_reducible refine (rok_r s _).mono ?_); rintro e w' ⟨rfl, hq⟩; replace HK := kr_call HK hq; clear hq) | (go_at_call 34; (with_reducible refine (kill_r s _).mono ?_); rintro e w' ⟨rfl, hq⟩; replace HK := kr_call HK hq; clear hq) | (go_at_call 35; (with_reducible refine (rkill_r s _).mono ?_); rintro e w' ⟨rfl, hq⟩; replace HK := kr_call HK hq; clear hq) | (go_at_call 23; (with_reducible refine (rerun_r s clock _).mono ?_); rintro e w' ⟨rfl, hq⟩; replace HK := kr_call HK hq; clear hq) | (go_at_call 31; (with_reducible refine (rrerun_r s clock _).mono ?_); rintro e w' ⟨rfl, hq⟩; replace HK := kr_call HK hq; clear hq) | (go_at_call 15; (with_reducible refine (taken_r _ _).mono ?_); rintro e w' ⟨rfl, hq⟩; replace HK := kr_call HK hq; clear hq) | (go_at_call 36; (with_reducible refine (delete_r s _).mono ?_); rintro e w' ⟨rfl, hq⟩; replace HK := kr_call HK hq; clear hq) | (go_at_call 37; (with_reducible refine (rdelete_r s _).mono ?_); rintro e w' ⟨rfl, hq⟩; replace HK := kr_call HK hq; clear hq) | (go_at_call 18; (with_reducible refine (known_any _).mono ?_); rintro e w' ⟨rfl, hq⟩; replace HK := kr_call HK hq; clear hq) | ((with_reducible show wpList _ _ _ (Oper.mk _ (Op.alloc 35) _ _ _ _ :: _) _ _); refine wl_alloc 35 stZ 10 rfl rfl stZ_zero ?_) | ((with_reducible show wpList _ _ _ (Oper.mk _ (Op.store 35 _ _) _ _ _ _ :: _) _ _); refine wl_storeK 35 _ _ stZ (St.l _) HK rfl rfl (by simp [go_sem]) rfl (st_size _) (stZ_len _) (st_one _) (fun HK2 => ?_); clear HK; have HK := HK2; clear HK2; (try simp only [World.size_alloc] at HK)) | ((with_reducible show wpList _ _ _ (Oper.mk _ (Op.alloc 23) _ _ _ _ :: _) _ _); refine wl_alloc 23 stZ 10 rfl rfl stZ_zeroR ?_) | ((with_reducible show wpList _ _ _ (Oper.mk _ (Op.store 23 _ _) _ _ _ _ :: _) _ _); refine wl_storeK 23 _ _ stZ (St.l _) HK rfl rfl (by simp [go_sem]) rfl (st_sizeR _) (stZ_len _) (st_one _) (fun HK2 => ?_); clear HK; have HK := HK2; clear HK2; (try simp only [World.size_alloc] at HK)) | ((with_reducible show wpList _ _ _ (Oper.mk _ (Op.load 35 _) _ _ _ _ :: _) _ _); refine wl_load 35 _ rfl rfl _ 0 rfl (St.l _) _ (by first | exact kr_get HK 0 rfl | exact kr_get HK 1 rfl | exact kr_get HK 2 rfl | exact kr_get HK 3 rfl | exact kr_get HK 4 rfl | exact kr_get HK 5 rfl) row_under rfl (st_size _) ?_) | ((with_reducible show wpList _ _ _ (Oper.mk _ (Op.store 35 _ _) _ _ _ _ :: _) _ _); refine wl_setK 35 _ _ _ _ _ HK 0 rfl rfl rfl rfl rfl (st_size _) (fun HK2 => ?_); clear HK; have HK := HK2; clear HK2; (try simp only [World.size_alloc] at HK); simp only [List.set_cons_zero, List.set_cons_succ] at HK) | ((with_reducible show wpList _ _ _ (Oper.mk _ (Op.store 35 _ _) _ _ _ _ :: _) _ _); refine wl_setK 35 _ _ _ _ _ HK 1 rfl rfl rfl rfl rfl (st_size _) (fun HK2 => ?_); clear HK; have HK := HK2; clear HK2; (try simp only [World.size_alloc] at HK); simp only [List.set_cons_zero, List.set_cons_succ] at HK) | ((with_reducible show wpList _ _ _ (Oper.mk _ (Op.store 35 _ _) _ _ _ _ :: _) _ _); refine wl_setK 35 _ _ _ _ _ HK 2 rfl rfl rfl rfl rfl (st_size _) (fun HK2 => ?_); clear HK; have HK := HK2; clear HK2; (try simp only [World.size_alloc] at HK); simp only [List.set_cons_zero, List.set_cons_succ] at HK) | ((with_reducible show wpList _ _ _ (Oper.mk _ (Op.store 35 _ _) _ _ _ _ :: _) _ _); refine wl_setK 35 _ _ _ _ _ HK 3 rfl rfl rfl rfl rfl (st_size _) (fun HK2 => ?_); clear HK; have HK := HK2; clear HK2; (try simp only [World.size_alloc] at HK); simp only [List.set_cons_zero, List.set_cons_succ] at HK) | ((with_reducible show wpList _ _ _ (Oper.mk _ (Op.load 23 _) _ _ _ _ :: _) _ _); refine wl_load 23 _ rfl rfl _ 0 rfl (St.l _) _ (by first | exact kr_get HK 0 rfl | exact kr_get HK 1 rfl | exact kr_get HK 2 rfl | exact kr_get HK 3 rfl | exact kr_get HK 4 rfl | exact kr_get HK 5 rfl) row_underR rfl (st_sizeR _) ?_) | ((with_reducible show wpList _ _ _ (Oper.mk _ (Op.store 23 _ _) _ _ _ _ :: _) _ _); refine wl_setK 23 _ _ _ _ _ HK 0 rfl rfl rfl rfl rfl (st_sizeR _) (fun HK2 => ?_); clear HK; have HK := HK2; clear HK2; (try simp only [World.size_alloc] at HK); simp only [List.set_cons_zero, List.set_cons_succ] at HK) | ((with_reducible show wpList _ _ _ (Oper.mk _ (Op.store 23 _ _) _ _ _ _ :: _) _ _); refine wl_setK 23 _ _ _ _ _ HK 1 rfl rfl rfl rfl rfl (st_sizeR _) (fun HK2 => ?_); clear HK; have HK := HK2; clear HK2; (try simp only [World.size_alloc] at HK); simp only [List.set_cons_zero, List.set_cons_succ] at HK) | ((with_reducible show wpList _ _ _ (Oper.mk _ (Op.store 23 _ _) _ _ _ _ :: _) _ _); refine wl_setK 23 _ _ _ _ _ HK 2 rfl rfl rfl rfl rfl (st_sizeR _) (fun HK2 => ?_); clear HK; have HK := HK2; clear HK2; (try simp only [World.size_alloc] at HK); simp only [List.set_cons_zero, List.set_cons_succ] at HK) | ((with_reducible show wpList _ _ _ (Oper.mk _ (Op.store 23 _ _) _ _ _ _ :: _) _ _); refine wl_setK 23 _ _ _ _ _ HK 3 rfl rfl rfl rfl rfl (st_sizeR _) (fun HK2 => ?_); clear HK; have HK := HK2; clear HK2; (try simp only [World.size_alloc] at HK); simp only [List.set_cons_zero, List.set_cons_succ] at HK) | ((with_reducible show wpList _ _ _ (Oper.mk _ (Op.box 23 _) _ _ _ _ :: _) _ _); refine wl_boxK 23 _ (St.l _) HK rfl rfl rfl (fun HK2 => ?_); clear HK; have HK := HK2; clear HK2; (try simp only [World.size_alloc] at HK)))
  refine kr_begin HK (by kernel_rfl) (fun hHeld => ?_)
  refine wpAnyH_take (i := 0) (v := _) rfl (by kernel_rfl) (by kernel_rfl) (by kernel_rfl) (fun _ _ _ h => h) (yieldsIf_load_mid rfl 35 _ rfl _ 0 rfl (St.l _) _ (by first | exact fun W hW => kr_get hW 0 rfl | exact fun W hW => kr_get hW 1 rfl | exact fun W hW => kr_get hW 2 rfl | exact fun W hW => kr_get hW 3 rfl | exact fun W hW => kr_get hW 4 rfl | exact fun W hW => kr_get hW 5 rfl | exact fun W hW => kr_get hW 6 rfl | exact fun W hW => kr_get hW 7 rfl) row_under rfl (st_size _)) (by assumption) ?_
  simp only [Act.put, List.setIfInBounds_toArray, List.set_cons_zero, List.set_cons_succ, List.getElem_toArray, List.getElem_cons_zero, List.getElem_cons_succ]
  refine wpAnyH_take (i := 2) (v := _) rfl (by kernel_rfl) (by kernel_rfl) (by kernel_rfl) (fun _ _ _ h => h) (yieldsIf_load_mid rfl 23 _ rfl _ 0 rfl (St.l _) _ (by first | exact fun W hW => kr_get hW 0 rfl | exact fun W hW => kr_get hW 1 rfl | exact fun W hW => kr_get hW 2 rfl | exact fun W hW => kr_get hW 3 rfl | exact fun W hW => kr_get hW 4 rfl | exact fun W hW => kr_get hW 5 rfl | exact fun W hW => kr_get hW 6 rfl | exact fun W hW => kr_get hW 7 rfl) row_underR rfl (st_sizeR _)) (by assumption) ?_
  simp only [Act.put, List.setIfInBounds_toArray, List.set_cons_zero, List.set_cons_succ, List.getElem_toArray, List.getElem_cons_zero, List.getElem_cons_succ]
  refine wpAnyH_ready (rs := [1]) (by kernel_rfl) (by simp) ?_
  refine AllReadyH.cons rfl (fun K hK => ?_) AllReadyH.nil
  (try simp only [List.getElem_toArray, List.getElem_cons_zero, List.getElem_cons_succ])
  go_simp
  (with_reducible refine (taken_r _ _).mono ?_); rintro e w' ⟨rfl, hq1⟩
  (try (go_wp2_with fail))
  refine hK.out _ _ ?_ (fun hNew => ?_)
  · ((try dsimp only); with_reducible (first | assumption | exact kr_drew (by assumption) | exact kr_call (by assumption) hq1))
  clear hK K hHeld; have hHeld := hNew; clear hNew
  (try (simp only [Act.put, List.setIfInBounds_toArray, List.set_cons_zero, List.set_cons_succ, List.getElem_toArray, List.getElem_cons_zero, List.getElem_cons_succ]))
  refine wpAnyH_take (i := 3) (v := ?_) rfl (by kernel_rfl) (by kernel_rfl) (by kernel_rfl) (fun _ _ _ h => h) (Or.inl ⟨by rfl, ?_⟩) (by assumption) ?_
  rotate_left
  · (intro w hSw; (try dsimp only at hSw); go_simp); (try with_reducible rfl)
  simp only [Act.put, List.setIfInBounds_toArray, List.set_cons_zero, List.set_cons_succ, List.getElem_toArray, List.getElem_cons_zero, List.getElem_cons_succ]
  refine wpAnyH_take (i := 4) (v := ?_) rfl (by kernel_rfl) (by kernel_rfl) (by kernel_rfl) (fun _ _ _ h => h) (Or.inl ⟨by rfl, ?_⟩) (by assumption) ?_
  rotate_left
  · (intro w hSw; (try dsimp only at hSw); go_simp); (try with_reducible rfl)
  simp only [Act.put, List.setIfInBounds_toArray, List.set_cons_zero, List.set_cons_succ, List.getElem_toArray, List.getElem_cons_zero, List.getElem_cons_succ]
  refine wpAnyH_take (i := 5) (v := ?_) rfl (by kernel_rfl) (by kernel_rfl) (by kernel_rfl) (fun _ _ _ h => h) (Or.inl ⟨by rfl, ?_⟩) (by assumption) ?_
  rotate_left
  · (intro w hSw; (try dsimp only at hSw); go_simp); (try with_reducible rfl)
  simp only [Act.put, List.setIfInBounds_toArray, List.set_cons_zero, List.set_cons_succ, List.getElem_toArray, List.getElem_cons_zero, List.getElem_cons_succ]
  refine wpAnyH_take (i := 6) (v := ?_) rfl (by kernel_rfl) (by kernel_rfl) (by kernel_rfl) (fun _ _ _ h => h) (Or.inl ⟨by rfl, ?_⟩) (by assumption) ?_
  rotate_left
  · (intro w hSw; (try dsimp only at hSw); go_simp); (try with_reducible rfl)
  simp only [Act.put, List.setIfInBounds_toArray, List.set_cons_zero, List.set_cons_succ, List.getElem_toArray, List.getElem_cons_zero, List.getElem_cons_succ]
  refine wpAnyH_take (i := 7) (v := ?_) rfl (by kernel_rfl) (by kernel_rfl) (by kernel_rfl) (fun _ _ _ h => h) (Or.inl ⟨by rfl, ?_⟩) (by assumption) ?_
  rotate_left
  · (intro w hSw; (try dsimp only at hSw); go_simp); (try with_reducible rfl)
  simp only [Act.put, List.setIfInBounds_toArray, List.set_cons_zero, List.set_cons_succ, List.getElem_toArray, List.getElem_cons_zero, List.getElem_cons_succ]
  refine wpAnyH_take (i := 8) (v := ?_) rfl (by kernel_rfl) (by kernel_rfl) (by kernel_rfl) (fun _ _ _ h => h) (Or.inl ⟨by rfl, ?_⟩) (by assumption) ?_
  rotate_left
  · (intro w hSw; (try dsimp only at hSw); go_simp); (try with_reducible rfl)
  simp only [Act.put, List.setIfInBounds_toArray, List.set_cons_zero, List.set_cons_succ, List.getElem_toArray, List.getElem_cons_zero, List.getElem_cons_succ]
  refine wpAnyH_take (i := 9) (v := ?_) rfl (by kernel_rfl) (by kernel_rfl) (by kernel_rfl) (fun _ _ _ h => h) (Or.inl ⟨by rfl, ?_⟩) (by assumption) ?_
  rotate_left
  · (intro w hSw; (try dsimp only at hSw); go_simp); (try with_reducible rfl)
  simp only [Act.put, List.setIfInBounds_toArray, List.set_cons_zero, List.set_cons_succ, List.getElem_toArray, List.getElem_cons_zero, List.getElem_cons_succ]
  refine wpAnyH_take (i := 10) (v := _) rfl (by kernel_rfl) (by kernel_rfl) (by kernel_rfl) (fun _ _ _ h => h) (yieldsIf_load_mid rfl 35 _ rfl _ 0 rfl (St.l _) _ (by first | exact fun W hW => kr_get hW 0 rfl | exact fun W hW => kr_get hW 1 rfl | exact fun W hW => kr_get hW 2 rfl | exact fun W hW => kr_get hW 3 rfl | exact fun W hW => kr_get hW 4 rfl | exact fun W hW => kr_get hW 5 rfl | exact fun W hW => kr_get hW 6 rfl | exact fun W hW => kr_get hW 7 rfl) row_under rfl (st_size _)) (by assumption) ?_
  simp only [Act.put, List.setIfInBounds_toArray, List.set_cons_zero, List.set_cons_succ, List.getElem_toArray, List.getElem_cons_zero, List.getElem_cons_succ]
  refine wpAnyH_take (i := 12) (v := _) rfl (by kernel_rfl) (by kernel_rfl) (by kernel_rfl) (fun _ _ _ h => h) (yieldsIf_load_mid rfl 23 _ rfl _ 0 rfl (St.l _) _ (by first | exact fun W hW => kr_get hW 0 rfl | exact fun W hW => kr_get hW 1 rfl | exact fun W hW => kr_get hW 2 rfl | exact fun W hW => kr_get hW 3 rfl | exact fun W hW => kr_get hW 4 rfl | exact fun W hW => kr_get hW 5 rfl | exact fun W hW => kr_get hW 6 rfl | exact fun W hW => kr_get hW 7 rfl) row_underR rfl (st_sizeR _)) (by assumption) ?_
  simp only [Act.put, List.setIfInBounds_toArray, List.set_cons_zero, List.set_cons_succ, List.getElem_toArray, List.getElem_cons_zero, List.getElem_cons_succ]
  refine wpAnyH_ready (rs := [11]) (by kernel_rfl) (by simp) ?_
  refine AllReadyH.cons rfl (fun K hK => ?_) AllReadyH.nil
  (try simp only [List.getElem_toArray, List.getElem_cons_zero, List.getElem_cons_succ])
  go_simp
  (with_reducible refine (taken_r _ _).mono ?_); rintro e w' ⟨rfl, hq1⟩
  (try (go_wp2_with fail))
  refine hK.out _ _ ?_ (fun hNew => ?_)
  · ((try dsimp only); with_reducible (first | assumption | exact kr_drew (by assumption) | exact kr_call (by assumption) hq1))
  clear hK K hHeld; have hHeld := hNew; clear hNew
  (try (simp only [Act.put, List.setIfInBounds_toArray, List.set_cons_zero, List.set_cons_succ, List.getElem_toArray, List.getElem_cons_zero, List.getElem_cons_succ]))
  refine wpAnyH_take (i := 13) (v := ?_) rfl (by kernel_rfl) (by kernel_rfl) (by kernel_rfl) (fun _ _ _ h => h) (Or.inl ⟨by rfl, ?_⟩) (by assumption) ?_
  rotate_left
  · (intro w hSw; (try dsimp only at hSw); go_simp); (try with_reducible rfl)
  simp only [Act.put, List.setIfInBounds_toArray, List.set_cons_zero, List.set_cons_succ, List.getElem_toArray, List.getElem_cons_zero, List.getElem_cons_succ]
  refine wpAnyH_take (i := 14) (v := ?_) rfl (by kernel_rfl) (by kernel_rfl) (by kernel_rfl) (fun _ _ _ h => h) (Or.inl ⟨by rfl, ?_⟩) (by assumption) ?_
  rotate_left
  · (intro w hSw; (try dsimp only at hSw); go_simp); (try with_reducible rfl)
  simp only [Act.put, List.setIfInBounds_toArray, List.set_cons_zero, List.set_cons_succ, List.getElem_toArray, List.getElem_cons_zero, List.getElem_cons_succ]
  refine wpAnyH_take (i := 15) (v := ?_) rfl (by kernel_rfl) (by kernel_rfl) (by kernel_rfl) (fun _ _ _ h => h) (Or.inl ⟨by rfl, ?_⟩) (by assumption) ?_
  rotate_left
  · (intro w hSw; (try dsimp only at hSw); go_simp); (try with_reducible rfl)
  simp only [Act.put, List.setIfInBounds_toArray, List.set_cons_zero, List.set_cons_succ, List.getElem_toArray, List.getElem_cons_zero, List.getElem_cons_succ]
  refine wpAnyH_take (i := 16) (v := ?_) rfl (by kernel_rfl) (by kernel_rfl) (by kernel_rfl) (fun _ _ _ h => h) (Or.inl ⟨by rfl, ?_⟩) (by assumption) ?_
  rotate_left
  · (intro w hSw; (try dsimp only at hSw); go_simp); (try with_reducible rfl)
  simp only [Act.put, List.setIfInBounds_toArray, List.set_cons_zero, List.set_cons_succ, List.getElem_toArray, List.getElem_cons_zero, List.getElem_cons_succ]
  refine wpAnyH_take (i := 17) (v := ?_) rfl (by kernel_rfl) (by kernel_rfl) (by kernel_rfl) (fun _ _ _ h => h) (Or.inl ⟨by rfl, ?_⟩) (by assumption) ?_
  rotate_left
  · (intro w hSw; (try dsimp only at hSw); go_simp); (try with_reducible rfl)
  simp only [Act.put, List.setIfInBounds_toArray, List.set_cons_zero, List.set_cons_succ, List.getElem_toArray, List.getElem_cons_zero, List.getElem_cons_succ]
  refine wpAnyH_take (i := 18) (v := ?_) rfl (by kernel_rfl) (by kernel_rfl) (by kernel_rfl) (fun _ _ _ h => h) (Or.inl ⟨by rfl, ?_⟩) (by assumption) ?_
  rotate_left
  · (intro w hSw; (try dsimp only at hSw); go_simp); (try with_reducible rfl)
  simp only [Act.put, List.setIfInBounds_toArray, List.set_cons_zero, List.set_cons_succ, List.getElem_toArray, List.getElem_cons_zero, List.getElem_cons_succ]
  refine wpAnyH_take (i := 19) (v := ?_) rfl (by kernel_rfl) (by kernel_rfl) (by kernel_rfl) (fun _ _ _ h => h) (Or.inl ⟨by rfl, ?_⟩) (by assumption) ?_
  rotate_left
  · (intro w hSw; (try dsimp only at hSw); go_simp); (try with_reducible rfl)
  simp only [Act.put, List.setIfInBounds_toArray, List.set_cons_zero, List.set_cons_succ, List.getElem_toArray, List.getElem_cons_zero, List.getElem_cons_succ]
  refine wpAnyH_done (by kernel_rfl) ?_ _
  replace HK : KR w _ _ := hHeld
  clear hHeld
  go_wp2_with (first | (go_at_call 11; (with_reducible refine (given_r s _).mono ?_); rintro e w' ⟨rfl, hq⟩; replace HK := kr_call HK hq; clear hq) | (go_at_call 24; (with_reducible refine (hold_r s _).mono ?_); rintro e w' ⟨rfl, hq⟩; replace HK := kr_call HK hq; clear hq) | (go_at_call 29; (with_reducible refine (rhold_r s _).mono ?_); rintro e w' ⟨rfl, hq⟩; replace HK := kr_call HK hq; clear hq) | (go_at_call 25; (with_reducible refine (free_r s _).mono ?_); rintro e w' ⟨rfl, hq⟩; replace HK := kr_call HK hq; clear hq) | (go_at_call 30; (with_reducible refine (rfree_r s _).mono ?_); rintro e w' ⟨rfl, hq⟩; replace HK := kr_call HK hq; clear hq) | (go_at_call 26; (with_reducible refine (force_r s _).mono ?_); rintro e w' ⟨rfl, hq⟩; replace HK := kr_call HK hq; clear hq) | (go_at_call 32; (with_reducible refine (rforce_r s _).mono ?_); rintro e w' ⟨rfl, hq⟩; replace HK := kr_call HK hq; clear hq) | (go_at_call 27; (with_reducible refine (ok_r s _).mono ?_); rintro e w' ⟨rfl, hq⟩; replace HK := kr_call HK hq; clear hq) | (go_at_call 33; (with_reducible refine (rok_r s _).mono ?_); rintro e w' ⟨rfl, hq⟩; replace HK := kr_call HK hq; clear hq) | (go_at_call 34; (with_reducible refine (kill_r s _).mono ?_); rintro e w' ⟨rfl, hq⟩; replace HK := kr_call HK hq; clear hq) | (go_at_call 35; (with_reducible refine (rkill_r s _).mono ?_); rintro e w' ⟨rfl, hq⟩; replace HK := kr_call HK hq; clear hq) | (go_at_call 23; (with_reducible refine (rerun_r s clock _).mono ?_); rintro e w' ⟨rfl, hq⟩; replace HK := kr_call HK hq; clear hq) | (go_at_call 31; (with_reducible refine (rrerun_r s clock _).mono ?_); rintro e w' ⟨rfl, hq⟩; replace HK := kr_call HK hq; clear hq) | (go_at_call 15; (with_reducible refine (taken_r _ _).mono ?_); rintro e w' ⟨rfl, hq⟩; replace HK := kr_call HK hq; clear hq) | (go_at_call 36; (with_reducible refine (delete_r s _).mono ?_); rintro e w' ⟨rfl, hq⟩; replace HK := kr_call HK hq; clear hq) | (go_at_call 37; (with_reducible refine (rdelete_r s _).mono ?_); rintro e w' ⟨rfl, hq⟩; replace HK := kr_call HK hq; clear hq) | (go_at_call 18; (with_reducible refine (known_any _).mono ?_); rintro e w' ⟨rfl, hq⟩; replace HK := kr_call HK hq; clear hq) | ((with_reducible show wpList _ _ _ (Oper.mk _ (Op.alloc 35) _ _ _ _ :: _) _ _); refine wl_alloc 35 stZ 10 rfl rfl stZ_zero ?_) | ((with_reducible show wpList _ _ _ (Oper.mk _ (Op.store 35 _ _) _ _ _ _ :: _) _ _); refine wl_storeK 35 _ _ stZ (St.l _) HK rfl rfl (by simp [go_sem]) rfl (st_size _) (stZ_len _) (st_one _) (fun HK2 => ?_); clear HK; have HK := HK2; clear HK2; (try simp only [World.size_alloc] at HK)) | ((with_reducible show wpList _ _ _ (Oper.mk _ (Op.alloc 23) _ _ _ _ :: _) _ _); refine wl_alloc 23 stZ 10 rfl rfl stZ_zeroR ?_) | ((with_reducible show wpList _ _ _ (Oper.mk _ (Op.store 23 _ _) _ _ _ _ :: _) _ _); refine wl_storeK 23 _ _ stZ (St.l _) HK rfl rfl (by simp [go_sem]) rfl (st_sizeR _) (stZ_len _) (st_one _) (fun HK2 => ?_); clear HK; have HK := HK2; clear HK2; (try simp only [World.size_alloc] at HK)) | ((with_reducible show wpList _ _ _ (Oper.mk _ (Op.load 35 _) _ _ _ _ :: _) _ _); refine wl_load 35 _ rfl rfl _ 0 rfl (St.l _) _ (by first | exact kr_get HK 0 rfl | exact kr_get HK 1 rfl | exact kr_get HK 2 rfl | exact kr_get HK 3 rfl | exact kr_get HK 4 rfl | exact kr_get HK 5 rfl) row_under rfl (st_size _) ?_) | ((with_reducible show wpList _ _ _ (Oper.mk _ (Op.store 35 _ _) _ _ _ _ :: _) _ _); refine wl_setK 35 _ _ _ _ _ HK 0 rfl rfl rfl rfl rfl (st_size _) (fun HK2 => ?_); clear HK; have HK := HK2; clear HK2; (try simp only [World.size_alloc] at HK); simp only [List.set_cons_zero, List.set_cons_succ] at HK) | ((with_reducible show wpList _ _ _ (Oper.mk _ (Op.store 35 _ _) _ _ _ _ :: _) _ _); refine wl_setK 35 _ _ _ _ _ HK 1 rfl rfl rfl rfl rfl (st_size _) (fun HK2 => ?_); clear HK; have HK := HK2; clear HK2; (try simp only [World.size_alloc] at HK); simp only [List.set_cons_zero, List.set_cons_succ] at HK) | ((with_reducible show wpList _ _ _ (Oper.mk _ (Op.store 35 _ _) _ _ _ _ :: _) _ _); refine wl_setK 35 _ _ _ _ _ HK 2 rfl rfl rfl rfl rfl (st_size _) (fun HK2 => ?_); clear HK; have HK := HK2; clear HK2; (try simp only [World.size_alloc] at HK); simp only [List.set_cons_zero, List.set_cons_succ] at HK) | ((with_reducible show wpList _ _ _ (Oper.mk _ (Op.store 35 _ _) _ _ _ _ :: _) _ _); refine wl_setK 35 _ _ _ _ _ HK 3 rfl rfl rfl rfl rfl (st_size _) (fun HK2 => ?_); clear HK; have HK := HK2; clear HK2; (try simp only [World.size_alloc] at HK); simp only [List.set_cons_zero, List.set_cons_succ] at HK) | ((with_reducible show wpList _ _ _ (Oper.mk _ (Op.load 23 _) _ _ _ _ :: _) _ _); refine wl_load 23 _ rfl rfl _ 0 rfl (St.l _) _ (by first | exact kr_get HK 0 rfl | exact kr_get HK 1 rfl | exact kr_get HK 2 rfl | exact kr_get HK 3 rfl | exact kr_get HK 4 rfl | exact kr_get HK 5 rfl) row_underR rfl (st_sizeR _) ?_) | ((with_reducible show wpList _ _ _ (Oper.mk _ (Op.store 23 _ _) _ _ _ _ :: _) _ _); refine wl_setK 23 _ _ _ _ _ HK 0 rfl rfl rfl rfl rfl (st_sizeR _) (fun HK2 => ?_); clear HK; have HK := HK2; clear HK2; (try simp only [World.size_alloc] at HK); simp only [List.set_cons_zero, List.set_cons_succ] at HK) | ((with_reducible show wpList _ _ _ (Oper.mk _ (Op.store 23 _ _) _ _ _ _ :: _) _ _); refine wl_setK 23 _ _ _ _ _ HK 1 rfl rfl rfl rfl rfl (st_sizeR _) (fun HK2 => ?_); clear HK; have HK := HK2; clear HK2; (try simp only [World.size_alloc] at HK); simp only [List.set_cons_zero, List.set_cons_succ] at HK) | ((with_reducible show wpList _ _ _ (Oper.mk _ (Op.store 23 _ _) _ _ _ _ :: _) _ _); refine wl_setK 23 _ _ _ _ _ HK 2 rfl rfl rfl rfl rfl (st_sizeR _) (fun HK2 => ?_); clear HK; have HK := HK2; clear HK2; (try simp only [World.size_alloc] at HK); simp only [List.set_cons_zero, List.set_cons_succ] at HK) | ((with_reducible show wpList _ _ _ (Oper.mk _ (Op.store 23 _ _) _ _ _ _ :: _) _ _); refine wl_setK 23 _ _ _ _ _ HK 3 rfl rfl rfl rfl rfl (st_sizeR _) (fun HK2 => ?_); clear HK; have HK := HK2; clear HK2; (try simp only [World.size_alloc] at HK); simp only [List.set_cons_zero, List.set_cons_succ] at HK) | ((with_reducible show wpList _ _ _ (Oper.mk _ (Op.box 23 _) _ _ _ _ :: _) _ _); refine wl_boxK 23 _ (St.l _) HK rfl rfl rfl (fun HK2 => ?_); clear HK; have HK := HK2; clear HK2; (try simp only [World.size_alloc] at HK)))
  refine kr_begin HK (by kernel_rfl) (fun hHeld => ?_)
  refine wpAnyH_take (i := 0) (v := _) rfl (by kernel_rfl) (by kernel_rfl) (by kernel_rfl) (fun _ _ _ h => h) (yieldsIf_load_mid rfl 35 _ rfl _ 0 rfl (St.l _) _ (by first | exact fun W hW => kr_get hW 0 rfl | exact fun W hW => kr_get hW 1 rfl | exact fun W hW => kr_get hW 2 rfl | exact fun W hW => kr_get hW 3 rfl | exact fun W hW => kr_get hW 4 rfl | exact fun W hW => kr_get hW 5 rfl | exact fun W hW => kr_get hW 6 rfl | exact fun W hW => kr_get hW 7 rfl) row_under rfl (st_size _)) (by assumption) ?_
  simp only [Act.put, List.setIfInBounds_toArray, List.set_cons_zero, List.set_cons_succ, List.getElem_toArray, List.getElem_cons_zero, List.getElem_cons_succ]
  refine wpAnyH_take (i := 2) (v := _) rfl (by kernel_rfl) (by kernel_rfl) (by kernel_rfl) (fun _ _ _ h => h) (yieldsIf_load_mid rfl 23 _ rfl _ 0 rfl (St.l _) _ (by first | exact fun W hW => kr_get hW 0 rfl | exact fun W hW => kr_get hW 1 rfl | exact fun W hW => kr_get hW 2 rfl | exact fun W hW => kr_get hW 3 rfl | exact fun W hW => kr_get hW 4 rfl | exact fun W hW => kr_get hW 5 rfl | exact fun W hW => kr_get hW 6 rfl | exact fun W hW => kr_get hW 7 rfl) row_underR rfl (st_sizeR _)) (by assumption) ?_
  simp only [Act.put, List.setIfInBounds_toArray, List.set_cons_zero, List.set_cons_succ, List.getElem_toArray, List.getElem_cons_zero, List.getElem_cons_succ]
  refine wpAnyH_ready (rs := [1]) (by kernel_rfl) (by simp) ?_
  refine AllReadyH.cons rfl (fun K hK => ?_) AllReadyH.nil
  (try simp only [List.getElem_toArray, List.getElem_cons_zero, List.getElem_cons_succ])
  go_simp
  (with_reducible refine (taken_r _ _).mono ?_); rintro e w' ⟨rfl, hq1⟩
  (try (go_wp2_with fail))
  refine hK.out _ _ ?_ (fun hNew => ?_)
  · ((try dsimp only); with_reducible (first | assumption | exact kr_drew (by assumption) | exact kr_call (by assumption) hq1))
  clear hK K hHeld; have hHeld := hNew; clear hNew
  (try (simp only [Act.put, List.setIfInBounds_toArray, List.set_cons_zero, List.set_cons_succ, List.getElem_toArray, List.getElem_cons_zero, List.getElem_cons_succ]))
  refine wpAnyH_take (i := 3) (v := ?_) rfl (by kernel_rfl) (by kernel_rfl) (by kernel_rfl) (fun _ _ _ h => h) (Or.inl ⟨by rfl, ?_⟩) (by assumption) ?_
  rotate_left
  · (intro w hSw; (try dsimp only at hSw); go_simp); (try with_reducible rfl)
  simp only [Act.put, List.setIfInBounds_toArray, List.set_cons_zero, List.set_cons_succ, List.getElem_toArray, List.getElem_cons_zero, List.getElem_cons_succ]
  refine wpAnyH_take (i := 4) (v := ?_) rfl (by kernel_rfl) (by kernel_rfl) (by kernel_rfl) (fun _ _ _ h => h) (Or.inl ⟨by rfl, ?_⟩) (by assumption) ?_
  rotate_left
  · (intro w hSw; (try dsimp only at hSw); go_simp); (try with_reducible rfl)
  simp only [Act.put, List.setIfInBounds_toArray, List.set_cons_zero, List.set_cons_succ, List.getElem_toArray, List.getElem_cons_zero, List.getElem_cons_succ]
  refine wpAnyH_take (i := 5) (v := ?_) rfl (by kernel_rfl) (by kernel_rfl) (by kernel_rfl) (fun _ _ _ h => h) (Or.inl ⟨by rfl, ?_⟩) (by assumption) ?_
  rotate_left
  · (intro w hSw; (try dsimp only at hSw); go_simp); (try with_reducible rfl)
  simp only [Act.put, List.setIfInBounds_toArray, List.set_cons_zero, List.set_cons_succ, List.getElem_toArray, List.getElem_cons_zero, List.getElem_cons_succ]
  refine wpAnyH_take (i := 6) (v := ?_) rfl (by kernel_rfl) (by kernel_rfl) (by kernel_rfl) (fun _ _ _ h => h) (Or.inl ⟨by rfl, ?_⟩) (by assumption) ?_
  rotate_left
  · (intro w hSw; (try dsimp only at hSw); go_simp); (try with_reducible rfl)
  simp only [Act.put, List.setIfInBounds_toArray, List.set_cons_zero, List.set_cons_succ, List.getElem_toArray, List.getElem_cons_zero, List.getElem_cons_succ]
  refine wpAnyH_take (i := 7) (v := ?_) rfl (by kernel_rfl) (by kernel_rfl) (by kernel_rfl) (fun _ _ _ h => h) (Or.inl ⟨by rfl, ?_⟩) (by assumption) ?_
  rotate_left
  · (intro w hSw; (try dsimp only at hSw); go_simp); (try with_reducible rfl)
  simp only [Act.put, List.setIfInBounds_toArray, List.set_cons_zero, List.set_cons_succ, List.getElem_toArray, List.getElem_cons_zero, List.getElem_cons_succ]
  refine wpAnyH_take (i := 8) (v := ?_) rfl (by kernel_rfl) (by kernel_rfl) (by kernel_rfl) (fun _ _ _ h => h) (Or.inl ⟨by rfl, ?_⟩) (by assumption) ?_
  rotate_left
  · (intro w hSw; (try dsimp only at hSw); go_simp); (try with_reducible rfl)
  simp only [Act.put, List.setIfInBounds_toArray, List.set_cons_zero, List.set_cons_succ, List.getElem_toArray, List.getElem_cons_zero, List.getElem_cons_succ]
  refine wpAnyH_take (i := 9) (v := ?_) rfl (by kernel_rfl) (by kernel_rfl) (by kernel_rfl) (fun _ _ _ h => h) (Or.inl ⟨by rfl, ?_⟩) (by assumption) ?_
  rotate_left
  · (intro w hSw; (try dsimp only at hSw); go_simp); (try with_reducible rfl)
  simp only [Act.put, List.setIfInBounds_toArray, List.set_cons_zero, List.set_cons_succ, List.getElem_toArray, List.getElem_cons_zero, List.getElem_cons_succ]
  refine wpAnyH_take (i := 10) (v := _) rfl (by kernel_rfl) (by kernel_rfl) (by kernel_rfl) (fun _ _ _ h => h) (yieldsIf_load_mid rfl 35 _ rfl _ 0 rfl (St.l _) _ (by first | exact fun W hW => kr_get hW 0 rfl | exact fun W hW => kr_get hW 1 rfl | exact fun W hW => kr_get hW 2 rfl | exact fun W hW => kr_get hW 3 rfl | exact fun W hW => kr_get hW 4 rfl | exact fun W hW => kr_get hW 5 rfl | exact fun W hW => kr_get hW 6 rfl | exact fun W hW => kr_get hW 7 rfl) row_under rfl (st_size _)) (by assumption) ?_
  simp only [Act.put, List.setIfInBounds_toArray, List.set_cons_zero, List.set_cons_succ, List.getElem_toArray, List.getElem_cons_zero, List.getElem_cons_succ]
  refine wpAnyH_take (i := 12) (v := _) rfl (by kernel_rfl) (by kernel_rfl) (by kernel_rfl) (fun _ _ _ h => h) (yieldsIf_load_mid rfl 23 _ rfl _ 0 rfl (St.l _) _ (by first | exact fun W hW => kr_get hW 0 rfl | exact fun W hW => kr_get hW 1 rfl | exact fun W hW => kr_get hW 2 rfl | exact fun W hW => kr_get hW 3 rfl | exact fun W hW => kr_get hW 4 rfl | exact fun W hW => kr_get hW 5 rfl | exact fun W hW => kr_get hW 6 rfl | exact fun W hW => kr_get hW 7 rfl) row_underR rfl (st_sizeR _)) (by assumption) ?_
  simp only [Act.put, List.setIfInBounds_toArray, List.set_cons_zero, List.set_cons_succ, List.getElem_toArray, List.getElem_cons_zero, List.getElem_cons_succ]
  refine wpAnyH_ready (rs := [11]) (by kernel_rfl) (by simp) ?_
  refine AllReadyH.cons rfl (fun K hK => ?_) AllReadyH.nil
  (try simp only [List.getElem_toArray, List.getElem_cons_zero, List.getElem_cons_succ])
  go_simp
  (with_reducible refine (taken_r _ _).mono ?_); rintro e w' ⟨rfl, hq1⟩
  (try (go_wp2_with fail))
  refine hK.out _ _ ?_ (fun hNew => ?_)
  · ((try dsimp only); with_reducible (first | assumption | exact kr_drew (by assumption) | exact kr_call (by assumption) hq1))
  clear hK K hHeld; have hHeld := hNew; clear hNew
  (try (simp only [Act.put, List.setIfInBounds_toArray, List.set_cons_zero, List.set_cons_succ, List.getElem_toArray, List.getElem_cons_zero, List.getElem_cons_succ]))
  refine wpAnyH_take (i := 13) (v := ?_) rfl (by kernel_rfl) (by kernel_rfl) (by kernel_rfl) (fun _ _ _ h => h) (Or.inl ⟨by rfl, ?_⟩) (by assumption) ?_
  rotate_left
  · (intro w hSw; (try dsimp only at hSw); go_simp); (try with_reducible rfl)
  simp only [Act.put, List.setIfInBounds_toArray, List.set_cons_zero, List.set_cons_succ, List.getElem_toArray, List.getElem_cons_zero, List.getElem_cons_succ]
  refine wpAnyH_take (i := 14) (v := ?_) rfl (by kernel_rfl) (by kernel_rfl) (by kernel_rfl) (fun _ _ _ h => h) (Or.inl ⟨by rfl, ?_⟩) (by assumption) ?_
  rotate_left
  · (intro w hSw; (try dsimp only at hSw); go_simp); (try with_reducible rfl)
  simp only [Act.put, List.setIfInBounds_toArray, List.set_cons_zero, List.set_cons_succ, List.getElem_toArray, List.getElem_cons_zero, List.getElem_cons_succ]
  refine wpAnyH_take (i := 15) (v := ?_) rfl (by kernel_rfl) (by kernel_rfl) (by kernel_rfl) (fun _ _ _ h => h) (Or.inl ⟨by rfl, ?_⟩) (by assumption) ?_
  rotate_left
  · (intro w hSw; (try dsimp only at hSw); go_simp); (try with_reducible rfl)
  simp only [Act.put, List.setIfInBounds_toArray, List.set_cons_zero, List.set_cons_succ, List.getElem_toArray, List.getElem_cons_zero, List.getElem_cons_succ]
  refine wpAnyH_take (i := 16) (v := ?_) rfl (by kernel_rfl) (by kernel_rfl) (by kernel_rfl) (fun _ _ _ h => h) (Or.inl ⟨by rfl, ?_⟩) (by assumption) ?_
  rotate_left
  · (intro w hSw; (try dsimp only at hSw); go_simp); (try with_reducible rfl)
  simp only [Act.put, List.setIfInBounds_toArray, List.set_cons_zero, List.set_cons_succ, List.getElem_toArray, List.getElem_cons_zero, List.getElem_cons_succ]
  refine wpAnyH_take (i := 17) (v := ?_) rfl (by kernel_rfl) (by kernel_rfl) (by kernel_rfl) (fun _ _ _ h => h) (Or.inl ⟨by rfl, ?_⟩) (by assumption) ?_
  rotate_left
  · (intro w hSw; (try dsimp only at hSw); go_simp); (try with_reducible rfl)
  simp only [Act.put, List.setIfInBounds_toArray, List.set_cons_zero, List.set_cons_succ, List.getElem_toArray, List.getElem_cons_zero, List.getElem_cons_succ]
  refine wpAnyH_take (i := 18) (v := ?_) rfl (by kernel_rfl) (by kernel_rfl) (by kernel_rfl) (fun _ _ _ h => h) (Or.inl ⟨by rfl, ?_⟩) (by assumption) ?_
  rotate_left
  · (intro w hSw; (try dsimp only at hSw); go_simp); (try with_reducible rfl)
  simp only [Act.put, List.setIfInBounds_toArray, List.set_cons_zero, List.set_cons_succ, List.getElem_toArray, List.getElem_cons_zero, List.getElem_cons_succ]
  refine wpAnyH_take (i := 19) (v := ?_) rfl (by kernel_rfl) (by kernel_rfl) (by kernel_rfl) (fun _ _ _ h => h) (Or.inl ⟨by rfl, ?_⟩) (by assumption) ?_
  rotate_left
  · (intro w hSw; (try dsimp only at hSw); go_simp); (try with_reducible rfl)
  simp only [Act.put, List.setIfInBounds_toArray, List.set_cons_zero, List.set_cons_succ, List.getElem_toArray, List.getElem_cons_zero, List.getElem_cons_succ]
  refine wpAnyH_done (by kernel_rfl) ?_ _
  replace HK : KR w _ _ := hHeld
  clear hHeld
  go_wp2_with (first | (go_at_call 11; (with_reducible refine (given_r s _).mono ?_); rintro e w' ⟨rfl, hq⟩; replace HK := kr_call HK hq; clear hq) | (go_at_call 24; (with_reducible refine (hold_r s _).mono ?_); rintro e w' ⟨rfl, hq⟩; replace HK := kr_call HK hq; clear hq) | (go_at_call 29; (with_reducible refine (rhold_r s _).mono ?_); rintro e w' ⟨rfl, hq⟩; replace HK := kr_call HK hq; clear hq) | (go_at_call 25; (with_reducible refine (free_r s _).mono ?_); rintro e w' ⟨rfl, hq⟩; replace HK := kr_call HK hq; clear hq) | (go_at_call 30; (with_reducible refine (rfree_r s _).mono ?_); rintro e w' ⟨rfl, hq⟩; replace HK := kr_call HK hq; clear hq) | (go_at_call 26; (with_reducible refine (force_r s _).mono ?_); rintro e w' ⟨rfl, hq⟩; replace HK := kr_call HK hq; clear hq) | (go_at_call 32; (with_reducible refine (rforce_r s _).mono ?_); rintro e w' ⟨rfl, hq⟩; replace HK := kr_call HK hq; clear hq) | (go_at_call 27; (with_reducible refine (ok_r s _).mono ?_); rintro e w' ⟨rfl, hq⟩; replace HK := kr_call HK hq; clear hq) | (go_at_call 33; (with_reducible refine (rok_r s _).mono ?_); rintro e w' ⟨rfl, hq⟩; replace HK := kr_call HK hq; clear hq) | (go_at_call 34; (with_reducible refine (kill_r s _).mono ?_); rintro e w' ⟨rfl, hq⟩; replace HK := kr_call HK hq; clear hq) | (go_at_call 35; (with_reducible refine (rkill_r s _).mono ?_); rintro e w' ⟨rfl, hq⟩; replace HK := kr_call HK hq; clear hq) | (go_at_call 23; (with_reducible refine (rerun_r s clock _).mono ?_); rintro e w' ⟨rfl, hq⟩; replace HK := kr_call HK hq; clear hq) | (go_at_call 31; (with_reducible refine (rrerun_r s clock _).mono ?_); rintro e w' ⟨rfl, hq⟩; replace HK := kr_call HK hq; clear hq) | (go_at_call 15; (with_reducible refine (taken_r _ _).mono ?_); rintro e w' ⟨rfl, hq⟩; replace HK := kr_call HK hq; clear hq) | (go_at_call 36; (with_reducible refine (delete_r s _).mono ?_); rintro e w' ⟨rfl, hq⟩; replace HK := kr_call HK hq; clear hq) | (go_at_call 37; (with_reducible refine (rdelete_r s _).mono ?_); rintro e w' ⟨rfl, hq⟩; replace HK := kr_call HK hq; clear hq) | (go_at_call 18; (with_reducible refine (known_any _).mono ?_); rintro e w' ⟨rfl, hq⟩; replace HK := kr_call HK hq; clear hq) | ((with_reducible show wpList _ _ _ (Oper.mk _ (Op.alloc 35) _ _ _ _ :: _) _ _); refine wl_alloc 35 stZ 10 rfl rfl stZ_zero ?_) | ((with_reducible show wpList _ _ _ (Oper.mk _ (Op.store 35 _ _) _ _ _ _ :: _) _ _); refine wl_storeK 35 _ _ stZ (St.l _) HK rfl rfl (by simp [go_sem]) rfl (st_size _) (stZ_len _) (st_one _) (fun HK2 => ?_); clear HK; have HK := HK2; clear HK2; (try simp only [World.size_alloc] at HK)) | ((with_reducible show wpList _ _ _ (Oper.mk _ (Op.alloc 23) _ _ _ _ :: _) _ _); refine wl_alloc 23 stZ 10 rfl rfl stZ_zeroR ?_) | ((with_reducible show wpList _ _ _ (Oper.mk _ (Op.store 23 _ _) _ _ _ _ :: _) _ _); refine wl_storeK 23 _ _ stZ (St.l _) HK rfl rfl (by simp [go_sem]) rfl (st_sizeR _) (stZ_len _) (st_one _) (fun HK2 => ?_); clear HK; have HK := HK2; clear HK2; (try simp only [World.size_alloc] at HK)) | ((with_reducible show wpList _ _ _ (Oper.mk _ (Op.load 35 _) _ _ _ _ :: _) _ _); refine wl_load 35 _ rfl rfl _ 0 rfl (St.l _) _ (by first | exact kr_get HK 0 rfl | exact kr_get HK 1 rfl | exact kr_get HK 2 rfl | exact kr_get HK 3 rfl | exact kr_get HK 4 rfl | exact kr_get HK 5 rfl) row_under rfl (st_size _) ?_) | ((with_reducible show wpList _ _ _ (Oper.mk _ (Op.store 35 _ _) _ _ _ _ :: _) _ _); refine wl_setK 35 _ _ _ _ _ HK 0 rfl rfl rfl rfl rfl (st_size _) (fun HK2 => ?_); clear HK; have HK := HK2; clear HK2; (try simp only [World.size_alloc] at HK); simp only [List.set_cons_zero, List.set_cons_succ] at HK) | ((with_reducible show wpList _ _ _ (Oper.mk _ (Op.store 35 _ _) _ _ _ _ :: _) _ _); refine wl_setK 35 _ _ _ _ _ HK 1 rfl rfl rfl rfl rfl (st_size _) (fun HK2 => ?_); clear HK; have HK := HK2; clear HK2; (try simp only [World.size_alloc] at HK); simp only [List.set_cons_zero, List.set_cons_succ] at HK) | ((with_reducible show wpList _ _ _ (Oper.mk _ (Op.store 35 _ _) _ _ _ _ :: _) _ _); refine wl_setK 35 _ _ _ _ _ HK 2 rfl rfl rfl rfl rfl (st_size _) (fun HK2 => ?_); clear HK; have HK := HK2; clear HK2; (try simp only [World.size_alloc] at HK); simp only [List.set_cons_zero, List.set_cons_succ] at HK) | ((with_reducible show wpList _ _ _ (Oper.mk _ (Op.store 35 _ _) _ _ _ _ :: _) _ _); refine wl_setK 35 _ _ _ _ _ HK 3 rfl rfl rfl rfl rfl (st_size _) (fun HK2 => ?_); clear HK; have HK := HK2; clear HK2; (try simp only [World.size_alloc] at HK); simp only [List.set_cons_zero, List.set_cons_succ] at HK) | ((with_reducible show wpList _ _ _ (Oper.mk _ (Op.load 23 _) _ _ _ _ :: _) _ _); refine wl_load 23 _ rfl rfl _ 0 rfl (St.l _) _ (by first | exact kr_get HK 0 rfl | exact kr_get HK 1 rfl | exact kr_get HK 2 rfl | exact kr_get HK 3 rfl | exact kr_get HK 4 rfl | exact kr_get HK 5 rfl) row_underR rfl (st_sizeR _) ?_) | ((with_reducible show wpList _ _ _ (Oper.mk _ (Op.store 23 _ _) _ _ _ _ :: _) _ _); refine wl_setK 23 _ _ _ _ _ HK 0 rfl rfl rfl rfl rfl (st_sizeR _) (fun HK2 => ?_); clear HK; have HK := HK2; clear HK2; (try simp only [World.size_alloc] at HK); simp only [List.set_cons_zero, List.set_cons_succ] at HK) | ((with_reducible show wpList _ _ _ (Oper.mk _ (Op.store 23 _ _) _ _ _ _ :: _) _ _); refine wl_setK 23 _ _ _ _ _ HK 1 rfl rfl rfl rfl rfl (st_sizeR _) (fun HK2 => ?_); clear HK; have HK := HK2; clear HK2; (try simp only [World.size_alloc] at HK); simp only [List.set_cons_zero, List.set_cons_succ] at HK) | ((with_reducible show wpList _ _ _ (Oper.mk _ (Op.store 23 _ _) _ _ _ _ :: _) _ _); refine wl_setK 23 _ _ _ _ _ HK 2 rfl rfl rfl rfl rfl (st_sizeR _) (fun HK2 => ?_); clear HK; have HK := HK2; clear HK2; (try simp only [World.size_alloc] at HK); simp only [List.set_cons_zero, List.set_cons_succ] at HK) | ((with_reducible show wpList _ _ _ (Oper.mk _ (Op.store 23 _ _) _ _ _ _ :: _) _ _); refine wl_setK 23 _ _ _ _ _ HK 3 rfl rfl rfl rfl rfl (st_sizeR _) (fun HK2 => ?_); clear HK; have HK := HK2; clear HK2; (try simp only [World.size_alloc] at HK); simp only [List.set_cons_zero, List.set_cons_succ] at HK) | ((with_reducible show wpList _ _ _ (Oper.mk _ (Op.box 23 _) _ _ _ _ :: _) _ _); refine wl_boxK 23 _ (St.l _) HK rfl rfl rfl (fun HK2 => ?_); clear HK; have HK := HK2; clear HK2; (try simp only [World.size_alloc] at HK)))
  refine kr_begin HK (by kernel_rfl) (fun hHeld => ?_)
  refine wpAnyH_take (i := 0) (v := _) rfl (by kernel_rfl) (by kernel_rfl) (by kernel_rfl) (fun _ _ _ h => h) (yieldsIf_load_mid rfl 35 _ rfl _ 0 rfl (St.l _) _ (by first | exact fun W hW => kr_get hW 0 rfl | exact fun W hW => kr_get hW 1 rfl | exact fun W hW => kr_get hW 2 rfl | exact fun W hW => kr_get hW 3 rfl | exact fun W hW => kr_get hW 4 rfl | exact fun W hW => kr_get hW 5 rfl | exact fun W hW => kr_get hW 6 rfl | exact fun W hW => kr_get hW 7 rfl) row_under rfl (st_size _)) (by assumption) ?_
  simp only [Act.put, List.setIfInBounds_toArray, List.set_cons_zero, List.set_cons_succ, List.getElem_toArray, List.getElem_cons_zero, List.getElem_cons_succ]
  refine wpAnyH_take (i := 2) (v := _) rfl (by kernel_rfl) (by kernel_rfl) (by kernel_rfl) (fun _ _ _ h => h) (yieldsIf_load_mid rfl 23 _ rfl _ 0 rfl (St.l _) _ (by first | exact fun W hW => kr_get hW 0 rfl | exact fun W hW => kr_get hW 1 rfl | exact fun W hW => kr_get hW 2 rfl | exact fun W hW => kr_get hW 3 rfl | exact fun W hW => kr_get hW 4 rfl | exact fun W hW => kr_get hW 5 rfl | exact fun W hW => kr_get hW 6 rfl | exact fun W hW => kr_get hW 7 rfl) row_underR rfl (st_sizeR _)) (by assumption) ?_
  simp only [Act.put, List.setIfInBounds_toArray, List.set_cons_zero, List.set_cons_succ, List.getElem_toArray, List.getElem_cons_zero, List.getElem_cons_succ]
  refine wpAnyH_ready (rs := [1]) (by kernel_rfl) (by simp) ?_
  refine AllReadyH.cons rfl (fun K hK => ?_) AllReadyH.nil
  (try simp only [List.getElem_toArray, List.getElem_cons_zero, List.getElem_cons_succ])
  go_simp
  (with_reducible refine (taken_r _ _).mono ?_); rintro e w' ⟨rfl, hq1⟩
  (try (go_wp2_with fail))
  refine hK.out _ _ ?_ (fun hNew => ?_)
  · ((try dsimp only); with_reducible (first | assumption | exact kr_drew (by assumption) | exact kr_call (by assumption) hq1))
  clear hK K hHeld; have hHeld := hNew; clear hNew
  (try (simp only [Act.put, List.setIfInBounds_toArray, List.set_cons_zero, List.set_cons_succ, List.getElem_toArray, List.getElem_cons_zero, List.getElem_cons_succ]))
  refine wpAnyH_take (i := 3) (v := ?_) rfl (by kernel_rfl) (by kernel_rfl) (by kernel_rfl) (fun _ _ _ h => h) (Or.inl ⟨by rfl, ?_⟩) (by assumption) ?_
  rotate_left
  · (intro w hSw; (try dsimp only at hSw); go_simp); (try with_reducible rfl)
  simp only [Act.put, List.setIfInBounds_toArray, List.set_cons_zero, List.set_cons_succ, List.getElem_toArray, List.getElem_cons_zero, List.getElem_cons_succ]
  refine wpAnyH_take (i := 4) (v := ?_) rfl (by kernel_rfl) (by kernel_rfl) (by kernel_rfl) (fun _ _ _ h => h) (Or.inl ⟨by rfl, ?_⟩) (by assumption) ?_
  rotate_left
  · (intro w hSw; (try dsimp only at hSw); go_simp); (try with_reducible rfl)
  simp only [Act.put, List.setIfInBounds_toArray, List.set_cons_zero, List.set_cons_succ, List.getElem_toArray, List.getElem_cons_zero, List.getElem_cons_succ]
  refine wpAnyH_take (i := 5) (v := ?_) rfl (by kernel_rfl) (by kernel_rfl) (by kernel_rfl) (fun _ _ _ h => h) (Or.inl ⟨by rfl, ?_⟩) (by assumption) ?_
  rotate_left
  · (intro w hSw; (try dsimp only at hSw); go_simp); (try with_reducible rfl)
  simp only [Act.put, List.setIfInBounds_toArray, List.set_cons_zero, List.set_cons_succ, List.getElem_toArray, List.getElem_cons_zero, List.getElem_cons_succ]
  refine wpAnyH_take (i := 6) (v := ?_) rfl (by kernel_rfl) (by kernel_rfl) (by kernel_rfl) (fun _ _ _ h => h) (Or.inl ⟨by rfl, ?_⟩) (by assumption) ?_
  rotate_left
  · (intro w hSw; (try dsimp only at hSw); go_simp); (try with_reducible rfl)
  simp only [Act.put, List.setIfInBounds_toArray, List.set_cons_zero, List.set_cons_succ, List.getElem_toArray, List.getElem_cons_zero, List.getElem_cons_succ]
  refine wpAnyH_take (i := 7) (v := ?_) rfl (by kernel_rfl) (by kernel_rfl) (by kernel_rfl) (fun _ _ _ h => h) (Or.inl ⟨by rfl, ?_⟩) (by assumption) ?_
  rotate_left
  · (intro w hSw; (try dsimp only at hSw); go_simp); (try with_reducible rfl)
  simp only [Act.put, List.setIfInBounds_toArray, List.set_cons_zero, List.set_cons_succ, List.getElem_toArray, List.getElem_cons_zero, List.getElem_cons_succ]
  refine wpAnyH_take (i := 8) (v := ?_) rfl (by kernel_rfl) (by kernel_rfl) (by kernel_rfl) (fun _ _ _ h => h) (Or.inl ⟨by rfl, ?_⟩) (by assumption) ?_
  rotate_left
  · (intro w hSw; (try dsimp only at hSw); go_simp); (try with_reducible rfl)
  simp only [Act.put, List.setIfInBounds_toArray, List.set_cons_zero, List.set_cons_succ, List.getElem_toArray, List.getElem_cons_zero, List.getElem_cons_succ]
  refine wpAnyH_take (i := 9) (v := ?_) rfl (by kernel_rfl) (by kernel_rfl) (by kernel_rfl) (fun _ _ _ h => h) (Or.inl ⟨by rfl, ?_⟩) (by assumption) ?_
  rotate_left
  · (intro w hSw; (try dsimp only at hSw); go_simp); (try with_reducible rfl)
  simp only [Act.put, List.setIfInBounds_toArray, List.set_cons_zero, List.set_cons_succ, List.getElem_toArray, List.getElem_cons_zero, List.getElem_cons_succ]
  refine wpAnyH_take (i := 10) (v := _) rfl (by kernel_rfl) (by kernel_rfl) (by kernel_rfl) (fun _ _ _ h => h) (yieldsIf_load_mid rfl 35 _ rfl _ 0 rfl (St.l _) _ (by first | exact fun W hW => kr_get hW 0 rfl | exact fun W hW => kr_get hW 1 rfl | exact fun W hW => kr_get hW 2 rfl | exact fun W hW => kr_get hW 3 rfl | exact fun W hW => kr_get hW 4 rfl | exact fun W hW => kr_get hW 5 rfl | exact fun W hW => kr_get hW 6 rfl | exact fun W hW => kr_get hW 7 rfl) row_under rfl (st_size _)) (by assumption) ?_
  simp only [Act.put, List.setIfInBounds_toArray, List.set_cons_zero, List.set_cons_succ, List.getElem_toArray, List.getElem_cons_zero, List.getElem_cons_succ]
  refine wpAnyH_take (i := 12) (v := _) rfl (by kernel_rfl) (by kernel_rfl) (by kernel_rfl) (fun _ _ _ h => h) (yieldsIf_load_mid rfl 23 _ rfl _ 0 rfl (St.l _) _ (by first | exact fun W hW => kr_get hW 0 rfl | exact fun W hW => kr_get hW 1 rfl | exact fun W hW => kr_get hW 2 rfl | exact fun W hW => kr_get hW 3 rfl | exact fun W hW => kr_get hW 4 rfl | exact fun W hW => kr_get hW 5 rfl | exact fun W hW => kr_get hW 6 rfl | exact fun W hW => kr_get hW 7 rfl) row_underR rfl (st_sizeR _)) (by assumption) ?_
  simp only [Act.put, List.setIfInBounds_toArray, List.set_cons_zero, List.set_cons_succ, List.getElem_toArray, List.getElem_cons_zero, List.getElem_cons_succ]
  refine wpAnyH_ready (rs := [11]) (by kernel_rfl) (by simp) ?_
  refine AllReadyH.cons rfl (fun K hK => ?_) AllReadyH.nil
  (try simp only [List.getElem_toArray, List.getElem_cons_zero, List.getElem_cons_succ])
  go_simp
  (with_reducible refine (taken_r _ _).mono ?_); rintro e w' ⟨rfl, hq1⟩
  (try (go_wp2_with fail))
  refine hK.out _ _ ?_ (fun hNew => ?_)
  · ((try dsimp only); with_reducible (first | assumption | exact kr_drew (by assumption) | exact kr_call (by assumption) hq1))
  clear hK K hHeld; have hHeld := hNew; clear hNew
  (try (simp only [Act.put, List.setIfInBounds_toArray, List.set_cons_zero, List.set_cons_succ, List.getElem_toArray, List.getElem_cons_zero, List.getElem_cons_succ]))
  refine wpAnyH_take (i := 13) (v := ?_) rfl (by kernel_rfl) (by kernel_rfl) (by kernel_rfl) (fun _ _ _ h => h) (Or.inl ⟨by rfl, ?_⟩) (by assumption) ?_
  rotate_left
  · (intro w hSw; (try dsimp only at hSw); go_simp); (try with_reducible rfl)
  simp only [Act.put, List.setIfInBounds_toArray, List.set_cons_zero, List.set_cons_succ, List.getElem_toArray, List.getElem_cons_zero, List.getElem_cons_succ]
  refine wpAnyH_take (i := 14) (v := ?_) rfl (by kernel_rfl) (by kernel_rfl) (by kernel_rfl) (fun _ _ _ h => h) (Or.inl ⟨by rfl, ?_⟩) (by assumption) ?_
  rotate_left
  · (intro w hSw; (try dsimp only at hSw); go_simp); (try with_reducible rfl)
  simp only [Act.put, List.setIfInBounds_toArray, List.set_cons_zero, List.set_cons_succ, List.getElem_toArray, List.getElem_cons_zero, List.getElem_cons_succ]
  refine wpAnyH_take (i := 15) (v := ?_) rfl (by kernel_rfl) (by kernel_rfl) (by kernel_rfl) (fun _ _ _ h => h) (Or.inl ⟨by rfl, ?_⟩) (by assumption) ?_
  rotate_left
  · (intro w hSw; (try dsimp only at hSw); go_simp); (try with_reducible rfl)
  simp only [Act.put, List.setIfInBounds_toArray, List.set_cons_zero, List.set_cons_succ, List.getElem_toArray, List.getElem_cons_zero, List.getElem_cons_succ]
  refine wpAnyH_take (i := 16) (v := ?_) rfl (by kernel_rfl) (by kernel_rfl) (by kernel_rfl) (fun _ _ _ h => h) (Or.inl ⟨by rfl, ?_⟩) (by assumption) ?_
  rotate_left
  · (intro w hSw; (try dsimp only at hSw); go_simp); (try with_reducible rfl)
  simp only [Act.put, List.setIfInBounds_toArray, List.set_cons_zero, List.set_cons_succ, List.getElem_toArray, List.getElem_cons_zero, List.getElem_cons_succ]
  refine wpAnyH_take (i := 17) (v := ?_) rfl (by kernel_rfl) (by kernel_rfl) (by kernel_rfl) (fun _ _ _ h => h) (Or.inl ⟨by rfl, ?_⟩) (by assumption) ?_
  rotate_left
  · (intro w hSw; (try dsimp only at hSw); go_simp); (try with_reducible rfl)
  simp only [Act.put, List.setIfInBounds_toArray, List.set_cons_zero, List.set_cons_succ, List.getElem_toArray, List.getElem_cons_zero, List.getElem_cons_succ]
  refine wpAnyH_take (i := 18) (v := ?_) rfl (by kernel_rfl) (by kernel_rfl) (by kernel_rfl) (fun _ _ _ h => h) (Or.inl ⟨by rfl, ?_⟩) (by assumption) ?_
  rotate_left
  · (intro w hSw; (try dsimp only at hSw); go_simp); (try with_reducible rfl)
  simp only [Act.put, List.setIfInBounds_toArray, List.set_cons_zero, List.set_cons_succ, List.getElem_toArray, List.getElem_cons_zero, List.getElem_cons_succ]
  refine wpAnyH_take (i := 19) (v := ?_) rfl (by kernel_rfl) (by kernel_rfl) (by kernel_rfl) (fun _ _ _ h => h) (Or.inl ⟨by rfl, ?_⟩) (by assumption) ?_
  rotate_left
  · (intro w hSw; (try dsimp only at hSw); go_simp); (try with_reducible rfl)
  simp only [Act.put, List.setIfInBounds_toArray, List.set_cons_zero, List.set_cons_succ, List.getElem_toArray, List.getElem_cons_zero, List.getElem_cons_succ]
  refine wpAnyH_take (i := 20) (v := ?_) rfl (by kernel_rfl) (by kernel_rfl) (by kernel_rfl) (fun _ _ _ h => h) (Or.inl ⟨by rfl, ?_⟩) (by assumption) ?_
  rotate_left
  · (intro w hSw; (try dsimp only at hSw); go_simp); (try with_reducible rfl)
  simp only [Act.put, List.setIfInBounds_toArray, List.set_cons_zero, List.set_cons_succ, List.getElem_toArray, List.getElem_cons_zero, List.getElem_cons_succ]
  refine wpAnyH_take (i := 21) (v := _) rfl (by kernel_rfl) (by kernel_rfl) (by kernel_rfl) (fun _ _ _ h => h) (yieldsIf_load_mid rfl 35 _ rfl _ 0 rfl (St.l _) _ (by first | exact fun W hW => kr_get hW 0 rfl | exact fun W hW => kr_get hW 1 rfl | exact fun W hW => kr_get hW 2 rfl | exact fun W hW => kr_get hW 3 rfl | exact fun W hW => kr_get hW 4 rfl | exact fun W hW => kr_get hW 5 rfl | exact fun W hW => kr_get hW 6 rfl | exact fun W hW => kr_get hW 7 rfl) row_under rfl (st_size _)) (by assumption) ?_
  simp only [Act.put, List.setIfInBounds_toArray, List.set_cons_zero, List.set_cons_succ, List.getElem_toArray, List.getElem_cons_zero, List.getElem_cons_succ]
  refine wpAnyH_take (i := 23) (v := _) rfl (by kernel_rfl) (by kernel_rfl) (by kernel_rfl) (fun _ _ _ h => h) (yieldsIf_load_mid rfl 23 _ rfl _ 0 rfl (St.l _) _ (by first | exact fun W hW => kr_get hW 0 rfl | exact fun W hW => kr_get hW 1 rfl | exact fun W hW => kr_get hW 2 rfl | exact fun W hW => kr_get hW 3 rfl | exact fun W hW => kr_get hW 4 rfl | exact fun W hW => kr_get hW 5 rfl | exact fun W hW => kr_get hW 6 rfl | exact fun W hW => kr_get hW 7 rfl) row_underR rfl (st_sizeR _)) (by assumption) ?_
  simp only [Act.put, List.setIfInBounds_toArray, List.set_cons_zero, List.set_cons_succ, List.getElem_toArray, List.getElem_cons_zero, List.getElem_cons_succ]
  refine wpAnyH_ready (rs := [22]) (by kernel_rfl) (by simp) ?_
  refine AllReadyH.cons rfl (fun K hK => ?_) AllReadyH.nil
  (try simp only [List.getElem_toArray, List.getElem_cons_zero, List.getElem_cons_succ])
  go_simp
  (with_reducible refine (delete_r s _).mono ?_); rintro e w' ⟨rfl, hq1⟩
  (try (go_wp2_with fail))
  refine hK.out _ _ ?_ (fun hNew => ?_)
  · ((try dsimp only); with_reducible (first | assumption | exact kr_drew (by assumption) | exact kr_call (by assumption) hq1))
  clear hK K hHeld; have hHeld := hNew; clear hNew
  (try (simp only [Act.put, List.setIfInBounds_toArray, List.set_cons_zero, List.set_cons_succ, List.getElem_toArray, List.getElem_cons_zero, List.getElem_cons_succ]))
  refine wpAnyH_ready (rs := [24]) (by kernel_rfl) (by simp) ?_
  refine AllReadyH.cons rfl (fun K hK => ?_) AllReadyH.nil
  (try simp only [List.getElem_toArray, List.getElem_cons_zero, List.getElem_cons_succ])
  go_simp
  (with_reducible refine (rdelete_r s _).mono ?_); rintro e w' ⟨rfl, hq1⟩
  (try (go_wp2_with fail))
  refine hK.out _ _ ?_ (fun hNew => ?_)
  · ((try dsimp only); with_reducible (first | assumption | exact kr_drew (by assumption) | exact kr_call (by assumption) hq1))
  clear hK K hHeld; have hHeld := hNew; clear hNew
  (try (simp only [Act.put, List.setIfInBounds_toArray, List.set_cons_zero, List.set_cons_succ, List.getElem_toArray, List.getElem_cons_zero, List.getElem_cons_succ]))
  refine wpAnyH_take (i := 25) (v := ?_) rfl (by kernel_rfl) (by kernel_rfl) (by kernel_rfl) (fun _ _ _ h => h) (Or.inl ⟨by rfl, ?_⟩) (by assumption) ?_
  rotate_left
  · (intro w hSw; (try dsimp only at hSw); go_simp); (try with_reducible rfl)
  simp only [Act.put, List.setIfInBounds_toArray, List.set_cons_zero, List.set_cons_succ, List.getElem_toArray, List.getElem_cons_zero, List.getElem_cons_succ]
  refine wpAnyH_take (i := 26) (v := ?_) rfl (by kernel_rfl) (by kernel_rfl) (by kernel_rfl) (fun _ _ _ h => h) (Or.inl ⟨by rfl, ?_⟩) (by assumption) ?_
  rotate_left
  · (intro w hSw; (try dsimp only at hSw); go_simp); (try with_reducible rfl)
  simp only [Act.put, List.setIfInBounds_toArray, List.set_cons_zero, List.set_cons_succ, List.getElem_toArray, List.getElem_cons_zero, List.getElem_cons_succ]
  refine wpAnyH_take (i := 27) (v := ?_) rfl (by kernel_rfl) (by kernel_rfl) (by kernel_rfl) (fun _ _ _ h => h) (Or.inl ⟨by rfl, ?_⟩) (by assumption) ?_
  rotate_left
  · (intro w hSw; (try dsimp only at hSw); go_simp); (try with_reducible rfl)
  simp only [Act.put, List.setIfInBounds_toArray, List.set_cons_zero, List.set_cons_succ, List.getElem_toArray, List.getElem_cons_zero, List.getElem_cons_succ]
  refine wpAnyH_ready (rs := [28]) (by kernel_rfl) (by simp) ?_
  refine AllReadyH.cons rfl (fun K hK => ?_) AllReadyH.nil
  (try simp only [List.getElem_toArray, List.getElem_cons_zero, List.getElem_cons_succ])
  go_simp
  (with_reducible refine (known_any _).mono ?_); rintro e w' ⟨rfl, hq1⟩
  (try (go_wp2_with fail))
  refine hK.out _ _ ?_ (fun hNew => ?_)
  · ((try dsimp only); with_reducible (first | assumption | exact kr_drew (by assumption) | exact kr_call (by assumption) hq1))
  clear hK K hHeld; have hHeld := hNew; clear hNew
  (try (simp only [Act.put, List.setIfInBounds_toArray, List.set_cons_zero, List.set_cons_succ, List.getElem_toArray, List.getElem_cons_zero, List.getElem_cons_succ]))
  refine wpAnyH_take (i := 29) (v := ?_) rfl (by kernel_rfl) (by kernel_rfl) (by kernel_rfl) (fun _ _ _ h => h) (Or.inl ⟨by rfl, ?_⟩) (by assumption) ?_
  rotate_left
  · (intro w hSw; (try dsimp only at hSw); go_simp); (try with_reducible rfl)
  simp only [Act.put, List.setIfInBounds_toArray, List.set_cons_zero, List.set_cons_succ, List.getElem_toArray, List.getElem_cons_zero, List.getElem_cons_succ]
  refine wpAnyH_take (i := 30) (v := ?_) rfl (by kernel_rfl) (by kernel_rfl) (by kernel_rfl) (fun _ _ _ h => h) (Or.inl ⟨by rfl, ?_⟩) (by assumption) ?_
  rotate_left
  · (intro w hSw; (try dsimp only at hSw); go_simp); (try with_reducible rfl)
  simp only [Act.put, List.setIfInBounds_toArray, List.set_cons_zero, List.set_cons_succ, List.getElem_toArray, List.getElem_cons_zero, List.getElem_cons_succ]
  refine wpAnyH_done (by kernel_rfl) ?_ _
  replace HK : KR w _ _ := hHeld
  clear hHeld
  go_wp2
  all_goals go_ret
  all_goals exact ⟨rfl, HK.below⟩
end Go.Proofs.Ytfefbmglimdgjaa.Own
