/- JobTexts: what the law's function comes to: true, whatever the state. No conditions. -/
import Derived.Test.YtfefbmglimdgjaaKn
import Derived.Test.YtfefbmglimdgjaaKr17
import Derived.Test.YtfefbmglimdgjaaRef17
import Derived.Test.YtfefbmglimdgjaaTx17
namespace Go.Proofs.Ytfefbmglimdgjaa.Own
open Go.RowKit
set_option linter.unusedSimpArgs false
set_option maxHeartbeats 4000000 in
set_option maxRecDepth 20000 in
theorem jobTexts_any (s : St) (w : World) : Calls Try.prog 4 #[.agg s.l.toArray] w fun e w' => e = .returned (.bool true) ∧ Below w.heap.size w w' := by
  have HK : KR w [] w := kr_refl w
  obtain ⟨X, cT, cR⟩ := both_texts s
  go_enter Try.func4, Try.ntmps4
  go_wp2_with (first | ((with_reducible show wpList _ _ _ (Oper.mk _ (Op.alloc 35) _ _ _ _ :: _) _ _); refine wl_alloc 35 stZ 10 rfl rfl stZ_zero ?_) | ((with_reducible show wpList _ _ _ (Oper.mk _ (Op.store 35 _ _) _ _ _ _ :: _) _ _); refine wl_storeK 35 _ _ stZ (St.l _) HK rfl rfl (by simp [go_sem]) rfl (st_size _) (stZ_len _) (st_one _) (fun HK2 => ?_); clear HK; have HK := HK2; clear HK2; (try simp only [World.size_alloc] at HK)) | ((with_reducible show wpList _ _ _ (Oper.mk _ (Op.alloc 23) _ _ _ _ :: _) _ _); refine wl_alloc 23 stZ 10 rfl rfl stZ_zeroR ?_) | ((with_reducible show wpList _ _ _ (Oper.mk _ (Op.store 23 _ _) _ _ _ _ :: _) _ _); refine wl_storeK 23 _ _ stZ (St.l _) HK rfl rfl (by simp [go_sem]) rfl (st_sizeR _) (stZ_len _) (st_one _) (fun HK2 => ?_); clear HK; have HK := HK2; clear HK2; (try simp only [World.size_alloc] at HK)) | ((with_reducible show wpList _ _ _ (Oper.mk _ (Op.load 35 _) _ _ _ _ :: _) _ _); refine wl_load 35 _ rfl rfl _ 0 rfl (St.l _) _ (by first | exact kr_get HK 0 rfl | exact kr_get HK 1 rfl | exact kr_get HK 2 rfl | exact kr_get HK 3 rfl | exact kr_get HK 4 rfl | exact kr_get HK 5 rfl) row_under rfl (st_size _) ?_) | ((with_reducible show wpList _ _ _ (Oper.mk _ (Op.load 23 _) _ _ _ _ :: _) _ _); refine wl_load 23 _ rfl rfl _ 0 rfl (St.l _) _ (by first | exact kr_get HK 0 rfl | exact kr_get HK 1 rfl | exact kr_get HK 2 rfl | exact kr_get HK 3 rfl | exact kr_get HK 4 rfl | exact kr_get HK 5 rfl) row_underR rfl (st_sizeR _) ?_) | ((with_reducible show wpList _ _ _ (Oper.mk _ (Op.box 23 _) _ _ _ _ :: _) _ _); refine wl_boxK 23 _ (St.l _) HK rfl rfl rfl (fun HK2 => ?_); clear HK; have HK := HK2; clear HK2; (try simp only [World.size_alloc] at HK)))
  refine kr_begin HK (by kernel_rfl) (fun hHeld => ?_)
  refine wpAnyH_take (i := 0) (v := _) rfl (by kernel_rfl) (by kernel_rfl) (by kernel_rfl) (fun _ _ _ h => h) (yieldsIf_load_mid rfl 23 _ rfl _ 0 rfl (St.l _) _ (by first | exact fun W hW => kr_get hW 0 rfl | exact fun W hW => kr_get hW 1 rfl | exact fun W hW => kr_get hW 2 rfl | exact fun W hW => kr_get hW 3 rfl | exact fun W hW => kr_get hW 4 rfl | exact fun W hW => kr_get hW 5 rfl | exact fun W hW => kr_get hW 6 rfl | exact fun W hW => kr_get hW 7 rfl) row_underR rfl (st_sizeR _)) (by assumption) ?_
  simp only [Act.put, List.setIfInBounds_toArray, List.set_cons_zero, List.set_cons_succ, List.getElem_toArray, List.getElem_cons_zero, List.getElem_cons_succ]
  refine wpAnyH_take (i := 3) (v := _) rfl (by kernel_rfl) (by kernel_rfl) (by kernel_rfl) (fun _ _ _ h => h) (yieldsIf_load_mid rfl 23 _ rfl _ 0 rfl (St.l _) _ (by first | exact fun W hW => kr_get hW 0 rfl | exact fun W hW => kr_get hW 1 rfl | exact fun W hW => kr_get hW 2 rfl | exact fun W hW => kr_get hW 3 rfl | exact fun W hW => kr_get hW 4 rfl | exact fun W hW => kr_get hW 5 rfl | exact fun W hW => kr_get hW 6 rfl | exact fun W hW => kr_get hW 7 rfl) row_underR rfl (st_sizeR _)) (by assumption) ?_
  simp only [Act.put, List.setIfInBounds_toArray, List.set_cons_zero, List.set_cons_succ, List.getElem_toArray, List.getElem_cons_zero, List.getElem_cons_succ]
  refine wpAnyH_ready (rs := [1]) (by kernel_rfl) (by simp) ?_
  refine AllReadyH.cons rfl (fun K hK => ?_) AllReadyH.nil
  (try simp only [List.getElem_toArray, List.getElem_cons_zero, List.getElem_cons_succ])
  go_simp
  (with_reducible refine (given_r s _).mono ?_); rintro e w' ⟨rfl, hq1⟩
  (try (go_wp2_with fail))
  refine hK.out _ _ ?_ (fun hNew => ?_)
  · ((try dsimp only); with_reducible (first | assumption | exact kr_drew (by assumption) | exact kr_call (by assumption) hq1))
  clear hK K hHeld; have hHeld := hNew; clear hNew
  (try (simp only [Act.put, List.setIfInBounds_toArray, List.set_cons_zero, List.set_cons_succ, List.getElem_toArray, List.getElem_cons_zero, List.getElem_cons_succ]))
  refine wpAnyH_ready (rs := [2]) (by kernel_rfl) (by simp) ?_
  refine AllReadyH.cons rfl (fun K hK => ?_) AllReadyH.nil
  (try simp only [List.getElem_toArray, List.getElem_cons_zero, List.getElem_cons_succ])
  go_simp
  (with_reducible refine (cT _).mono ?_); rintro e w' ⟨rfl, hq1⟩
  (try (go_wp2_with fail))
  refine hK.out _ _ ?_ (fun hNew => ?_)
  · ((try dsimp only); with_reducible (first | assumption | exact kr_drew (by assumption) | exact kr_call (by assumption) hq1))
  clear hK K hHeld; have hHeld := hNew; clear hNew
  (try (simp only [Act.put, List.setIfInBounds_toArray, List.set_cons_zero, List.set_cons_succ, List.getElem_toArray, List.getElem_cons_zero, List.getElem_cons_succ]))
  refine wpAnyH_ready (rs := [4]) (by kernel_rfl) (by simp) ?_
  refine AllReadyH.cons rfl (fun K hK => ?_) AllReadyH.nil
  (try simp only [List.getElem_toArray, List.getElem_cons_zero, List.getElem_cons_succ])
  go_simp
  (with_reducible refine (cR _).mono ?_); rintro e w' ⟨rfl, hq1⟩
  (try (go_wp2_with fail))
  refine hK.out _ _ ?_ (fun hNew => ?_)
  · ((try dsimp only); with_reducible (first | assumption | exact kr_drew (by assumption) | exact kr_call (by assumption) hq1))
  clear hK K hHeld; have hHeld := hNew; clear hNew
  (try (simp only [Act.put, List.setIfInBounds_toArray, List.set_cons_zero, List.set_cons_succ, List.getElem_toArray, List.getElem_cons_zero, List.getElem_cons_succ]))
  refine wpAnyH_take (i := 5) (v := ?_) rfl (by kernel_rfl) (by kernel_rfl) (by kernel_rfl) (fun _ _ _ h => h) (Or.inl ⟨by rfl, ?_⟩) (by assumption) ?_
  rotate_left
  · (intro w hSw; (try dsimp only at hSw); go_simp); (try with_reducible rfl)
  simp only [Act.put, List.setIfInBounds_toArray, List.set_cons_zero, List.set_cons_succ, List.getElem_toArray, List.getElem_cons_zero, List.getElem_cons_succ]
  refine wpAnyH_take (i := 6) (v := ?_) rfl (by kernel_rfl) (by kernel_rfl) (by kernel_rfl) (fun _ _ _ h => h) (Or.inl ⟨by rfl, ?_⟩) (by assumption) ?_
  rotate_left
  · (intro w hSw; (try dsimp only at hSw); go_simp); (try with_reducible rfl)
  simp only [Act.put, List.setIfInBounds_toArray, List.set_cons_zero, List.set_cons_succ, List.getElem_toArray, List.getElem_cons_zero, List.getElem_cons_succ]
  refine wpAnyH_take (i := 7) (v := _) rfl (by kernel_rfl) (by kernel_rfl) (by kernel_rfl) (fun _ _ _ h => h) (yieldsIf_load_mid rfl 23 _ rfl _ 0 rfl (St.l _) _ (by first | exact fun W hW => kr_get hW 0 rfl | exact fun W hW => kr_get hW 1 rfl | exact fun W hW => kr_get hW 2 rfl | exact fun W hW => kr_get hW 3 rfl | exact fun W hW => kr_get hW 4 rfl | exact fun W hW => kr_get hW 5 rfl | exact fun W hW => kr_get hW 6 rfl | exact fun W hW => kr_get hW 7 rfl) row_underR rfl (st_sizeR _)) (by assumption) ?_
  simp only [Act.put, List.setIfInBounds_toArray, List.set_cons_zero, List.set_cons_succ, List.getElem_toArray, List.getElem_cons_zero, List.getElem_cons_succ]
  refine wpAnyH_take (i := 10) (v := _) rfl (by kernel_rfl) (by kernel_rfl) (by kernel_rfl) (fun _ _ _ h => h) (yieldsIf_load_mid rfl 23 _ rfl _ 0 rfl (St.l _) _ (by first | exact fun W hW => kr_get hW 0 rfl | exact fun W hW => kr_get hW 1 rfl | exact fun W hW => kr_get hW 2 rfl | exact fun W hW => kr_get hW 3 rfl | exact fun W hW => kr_get hW 4 rfl | exact fun W hW => kr_get hW 5 rfl | exact fun W hW => kr_get hW 6 rfl | exact fun W hW => kr_get hW 7 rfl) row_underR rfl (st_sizeR _)) (by assumption) ?_
  simp only [Act.put, List.setIfInBounds_toArray, List.set_cons_zero, List.set_cons_succ, List.getElem_toArray, List.getElem_cons_zero, List.getElem_cons_succ]
  refine wpAnyH_ready (rs := [8]) (by kernel_rfl) (by simp) ?_
  refine AllReadyH.cons rfl (fun K hK => ?_) AllReadyH.nil
  (try simp only [List.getElem_toArray, List.getElem_cons_zero, List.getElem_cons_succ])
  go_simp
  (with_reducible refine (given_r s _).mono ?_); rintro e w' ⟨rfl, hq1⟩
  (try (go_wp2_with fail))
  refine hK.out _ _ ?_ (fun hNew => ?_)
  · ((try dsimp only); with_reducible (first | assumption | exact kr_drew (by assumption) | exact kr_call (by assumption) hq1))
  clear hK K hHeld; have hHeld := hNew; clear hNew
  (try (simp only [Act.put, List.setIfInBounds_toArray, List.set_cons_zero, List.set_cons_succ, List.getElem_toArray, List.getElem_cons_zero, List.getElem_cons_succ]))
  refine wpAnyH_ready (rs := [9]) (by kernel_rfl) (by simp) ?_
  refine AllReadyH.cons rfl (fun K hK => ?_) AllReadyH.nil
  (try simp only [List.getElem_toArray, List.getElem_cons_zero, List.getElem_cons_succ])
  go_simp
  (with_reducible refine (over_r s _).mono ?_); rintro e w' ⟨rfl, hq1⟩
  (try (go_wp2_with fail))
  refine hK.out _ _ ?_ (fun hNew => ?_)
  · ((try dsimp only); with_reducible (first | assumption | exact kr_drew (by assumption) | exact kr_call (by assumption) hq1))
  clear hK K hHeld; have hHeld := hNew; clear hNew
  (try (simp only [Act.put, List.setIfInBounds_toArray, List.set_cons_zero, List.set_cons_succ, List.getElem_toArray, List.getElem_cons_zero, List.getElem_cons_succ]))
  refine wpAnyH_ready (rs := [11]) (by kernel_rfl) (by simp) ?_
  refine AllReadyH.cons rfl (fun K hK => ?_) AllReadyH.nil
  (try simp only [List.getElem_toArray, List.getElem_cons_zero, List.getElem_cons_succ])
  go_simp
  (with_reducible refine (rover_r s _).mono ?_); rintro e w' ⟨rfl, hq1⟩
  (try (go_wp2_with fail))
  refine hK.out _ _ ?_ (fun hNew => ?_)
  · ((try dsimp only); with_reducible (first | assumption | exact kr_drew (by assumption) | exact kr_call (by assumption) hq1))
  clear hK K hHeld; have hHeld := hNew; clear hNew
  (try (simp only [Act.put, List.setIfInBounds_toArray, List.set_cons_zero, List.set_cons_succ, List.getElem_toArray, List.getElem_cons_zero, List.getElem_cons_succ]))
  refine wpAnyH_take (i := 12) (v := ?_) rfl (by kernel_rfl) (by kernel_rfl) (by kernel_rfl) (fun _ _ _ h => h) (Or.inl ⟨by rfl, ?_⟩) (by assumption) ?_
  rotate_left
  · (intro w hSw; (try dsimp only at hSw); go_simp); (try with_reducible rfl)
  simp only [Act.put, List.setIfInBounds_toArray, List.set_cons_zero, List.set_cons_succ, List.getElem_toArray, List.getElem_cons_zero, List.getElem_cons_succ]
  refine wpAnyH_take (i := 13) (v := ?_) rfl (by kernel_rfl) (by kernel_rfl) (by kernel_rfl) (fun _ _ _ h => h) (Or.inl ⟨by rfl, ?_⟩) (by assumption) ?_
  rotate_left
  · (intro w hSw; (try dsimp only at hSw); go_simp); (try with_reducible rfl)
  simp only [Act.put, List.setIfInBounds_toArray, List.set_cons_zero, List.set_cons_succ, List.getElem_toArray, List.getElem_cons_zero, List.getElem_cons_succ]
  refine wpAnyH_take (i := 14) (v := ?_) rfl (by kernel_rfl) (by kernel_rfl) (by kernel_rfl) (fun _ _ _ h => h) (Or.inl ⟨by rfl, ?_⟩) (by assumption) ?_
  rotate_left
  · (intro w hSw; (try dsimp only at hSw); go_simp); (try with_reducible rfl)
  simp only [Act.put, List.setIfInBounds_toArray, List.set_cons_zero, List.set_cons_succ, List.getElem_toArray, List.getElem_cons_zero, List.getElem_cons_succ]
  refine wpAnyH_ready (rs := [15]) (by kernel_rfl) (by simp) ?_
  refine AllReadyH.cons rfl (fun K hK => ?_) AllReadyH.nil
  (try simp only [List.getElem_toArray, List.getElem_cons_zero, List.getElem_cons_succ])
  go_simp
  (with_reducible refine (known_any _).mono ?_); rintro e w' ⟨rfl, hq1⟩
  (try (go_wp2_with fail))
  refine hK.out _ _ ?_ (fun hNew => ?_)
  · ((try dsimp only); with_reducible (first | assumption | exact kr_drew (by assumption) | exact kr_call (by assumption) hq1))
  clear hK K hHeld; have hHeld := hNew; clear hNew
  (try (simp only [Act.put, List.setIfInBounds_toArray, List.set_cons_zero, List.set_cons_succ, List.getElem_toArray, List.getElem_cons_zero, List.getElem_cons_succ]))
  refine wpAnyH_take (i := 16) (v := ?_) rfl (by kernel_rfl) (by kernel_rfl) (by kernel_rfl) (fun _ _ _ h => h) (Or.inl ⟨by rfl, ?_⟩) (by assumption) ?_
  rotate_left
  · (intro w hSw; (try dsimp only at hSw); go_simp); (try with_reducible rfl)
  simp only [Act.put, List.setIfInBounds_toArray, List.set_cons_zero, List.set_cons_succ, List.getElem_toArray, List.getElem_cons_zero, List.getElem_cons_succ]
  refine wpAnyH_take (i := 17) (v := ?_) rfl (by kernel_rfl) (by kernel_rfl) (by kernel_rfl) (fun _ _ _ h => h) (Or.inl ⟨by rfl, ?_⟩) (by assumption) ?_
  rotate_left
  · (intro w hSw; (try dsimp only at hSw); go_simp); (try with_reducible rfl)
  simp only [Act.put, List.setIfInBounds_toArray, List.set_cons_zero, List.set_cons_succ, List.getElem_toArray, List.getElem_cons_zero, List.getElem_cons_succ]
  refine wpAnyH_done (by kernel_rfl) ?_ _
  replace HK : KR w _ _ := hHeld
  clear hHeld
  go_wp2
  all_goals go_ret
  all_goals exact ⟨rfl, HK.below⟩
end Go.Proofs.Ytfefbmglimdgjaa.Own
