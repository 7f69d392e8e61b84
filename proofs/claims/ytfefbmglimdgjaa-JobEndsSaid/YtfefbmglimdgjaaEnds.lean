/- JobEnds: what the law's function comes to: true, whatever the state, the run, the definition, the code and the clock. No conditions but that the definition's numbers are its cells. -/
import Derived.Test.YtfefbmglimdgjaaDL17
import Derived.Test.YtfefbmglimdgjaaStep17
import Derived.Test.YtfefbmglimdgjaaRef17d
import Derived.Test.YtfefbmglimdgjaaRef17b
namespace Go.Proofs.Ytfefbmglimdgjaa.Own
open Go.RowKit
set_option linter.unusedSimpArgs false
theorem rd_under : Try.prog.underlying 34 = some (.struct (match Try.prog.underlying 34 with | some (.struct f) => f | _ => #[])) := by kernel_rfl
set_option maxHeartbeats 8000000 in
set_option maxRecDepth 20000 in
theorem jobEnds_any (s : St) (run : Int) (ds : List Value) (code clock every dr retry : Int) (hn : ds.length = 24) (hd1 : ds[21]? = some (.int .i64 every)) (hd2 : ds[22]? = some (.int .i64 dr)) (hd3 : ds[23]? = some (.int .i64 retry)) (w : World) :
    Calls Try.prog 3 #[.agg s.l.toArray, .int .i64 run, .agg ds.toArray, .int .i64 code, .int .i64 clock] w fun e w' => e = .returned (.bool true) ∧ Below w.heap.size w w' := by
  have HK : KR w [] w := kr_refl w
  have HQ2 := row_eq
  have hz : (Try.prog.info? 34).map (·.size) = some ds.length := by
    have h : (Try.prog.info? 34).map (·.size) = some 24 := by kernel_rfl
    rw [h, hn]
  have cD := rdone_r s ds every dr retry code clock hd1 hd2 hd3
  go_enter Try.func3, Try.ntmps3
  go_wp2_with (first | (go_at_call 11; (with_reducible refine (given_r s _).mono ?_); rintro e w' ⟨rfl, hq⟩; replace HK := kr_call HK hq; clear hq) | (go_at_call 10; (with_reducible refine (submit_r s run _).mono ?_); rintro e w' ⟨rfl, hq⟩; replace HK := kr_call HK hq; clear hq) | (go_at_call 12; (with_reducible refine (rsubmit_r s run _).mono ?_); rintro e w' ⟨rfl, hq⟩; replace HK := kr_call HK hq; clear hq; have kd21 := kr_cell HK 1 rfl 21 _ hd1; have kd22 := kr_cell HK 1 rfl 22 _ hd2; have kd23 := kr_cell HK 1 rfl 23 _ hd3; have zd := kr_lt HK 1 rfl) | (go_at_call 14; (with_reducible refine (cD _).mono ?_); rintro e w' ⟨rfl, hq⟩; replace HK := kr_call HK hq; clear hq) | ((with_reducible show wpList _ _ _ (Oper.mk _ (Op.build 51 _) _ _ _ _ :: _) _ _); refine wl_build 51 #[(12, .tmp 34), (13, .tmp 36), (14, .tmp 38)] (dL every dr retry) rfl rfl (by unfold dL; kernel_rfl) ?_) | ((with_reducible show wpList _ _ _ (Oper.mk _ (Op.alloc 51) _ _ _ _ :: _) _ _); refine wl_alloc 51 dZ 24 rfl rfl dZ_zero ?_) | ((with_reducible show wpList _ _ _ (Oper.mk _ (Op.store 51 _ _) _ _ _ _ :: _) _ _); refine wl_storeK 51 _ _ dZ (dL every dr retry) HK rfl rfl (by simp [go_sem]) rfl (dL_size _ _ _) (dL_len _ _ _) (dL_one _ _ _) (fun HK2 => ?_); clear HK; have HK := HK2; clear HK2; (try simp only [World.size_alloc] at HK); clear kd21 kd22 kd23 zd) | ((with_reducible show wpList _ _ _ (Oper.mk _ (Op.box 34 _) _ _ _ _ :: _) _ _); refine wl_boxK 34 _ ds HK rfl rfl rfl (fun HK2 => ?_); clear HK; have HK := HK2; clear HK2; (try simp only [World.size_alloc] at HK)) | ((with_reducible show wpList _ _ _ (Oper.mk _ (Op.load 34 _) _ _ _ _ :: _) _ _); refine wl_load 34 _ rfl rfl _ 0 rfl ds _ (by first | exact kr_get HK 0 rfl | exact kr_get HK 1 rfl | exact kr_get HK 2 rfl | exact kr_get HK 3 rfl | exact kr_get HK 4 rfl | exact kr_get HK 5 rfl) rd_under rfl hz ?_) | ((with_reducible show wpList _ _ _ (Oper.mk _ (Op.alloc 35) _ _ _ _ :: _) _ _); refine wl_alloc 35 stZ 10 rfl rfl stZ_zero ?_) | ((with_reducible show wpList _ _ _ (Oper.mk _ (Op.store 35 _ _) _ _ _ _ :: _) _ _); refine wl_storeK 35 _ _ stZ (St.l _) HK rfl rfl (by simp [go_sem]) rfl (st_size _) (stZ_len _) (st_one _) (fun HK2 => ?_); clear HK; have HK := HK2; clear HK2; (try simp only [World.size_alloc] at HK)) | ((with_reducible show wpList _ _ _ (Oper.mk _ (Op.alloc 23) _ _ _ _ :: _) _ _); refine wl_alloc 23 stZ 10 rfl rfl stZ_zeroR ?_) | ((with_reducible show wpList _ _ _ (Oper.mk _ (Op.store 23 _ _) _ _ _ _ :: _) _ _); refine wl_storeK 23 _ _ stZ (St.l _) HK rfl rfl (by simp [go_sem]) rfl (st_sizeR _) (stZ_len _) (st_one _) (fun HK2 => ?_); clear HK; have HK := HK2; clear HK2; (try simp only [World.size_alloc] at HK)) | ((with_reducible show wpList _ _ _ (Oper.mk _ (Op.load 35 _) _ _ _ _ :: _) _ _); refine wl_load 35 _ rfl rfl _ 0 rfl (St.l _) _ (by first | exact kr_get HK 0 rfl | exact kr_get HK 1 rfl | exact kr_get HK 2 rfl | exact kr_get HK 3 rfl | exact kr_get HK 4 rfl | exact kr_get HK 5 rfl) row_under rfl (st_size _) ?_) | ((with_reducible show wpList _ _ _ (Oper.mk _ (Op.load 23 _) _ _ _ _ :: _) _ _); refine wl_load 23 _ rfl rfl _ 0 rfl (St.l _) _ (by first | exact kr_get HK 0 rfl | exact kr_get HK 1 rfl | exact kr_get HK 2 rfl | exact kr_get HK 3 rfl | exact kr_get HK 4 rfl | exact kr_get HK 5 rfl) row_underR rfl (st_sizeR _) ?_) | ((with_reducible show wpList _ _ _ (Oper.mk _ (Op.box 23 _) _ _ _ _ :: _) _ _); refine wl_boxK 23 _ (St.l _) HK rfl rfl rfl (fun HK2 => ?_); clear HK; have HK := HK2; clear HK2; (try simp only [World.size_alloc] at HK)))
  (try simp only [World.size_alloc])
  refine kr_begin HK (by kernel_rfl) (fun hHeld => ?_)
  refine wpAnyH_take (i := 0) (v := _) rfl (by kernel_rfl) (by kernel_rfl) (by kernel_rfl) (fun _ _ _ h => h) (yieldsIf_load_mid rfl 23 _ rfl _ 0 rfl (St.l _) _ (by first | exact fun W hW => kr_get hW 0 rfl | exact fun W hW => kr_get hW 1 rfl | exact fun W hW => kr_get hW 2 rfl | exact fun W hW => kr_get hW 3 rfl | exact fun W hW => kr_get hW 4 rfl | exact fun W hW => kr_get hW 5 rfl | exact fun W hW => kr_get hW 6 rfl | exact fun W hW => kr_get hW 7 rfl) row_underR rfl (st_sizeR _)) (by assumption) ?_
  simp only [Act.put, List.setIfInBounds_toArray, List.set_cons_zero, List.set_cons_succ, List.getElem_toArray, List.getElem_cons_zero, List.getElem_cons_succ]
  refine wpAnyH_take (i := 2) (v := _) rfl (by kernel_rfl) (by kernel_rfl) (by kernel_rfl) (fun _ _ _ h => h) (yieldsIf_load_mid rfl 51 _ rfl _ 0 rfl (dL every dr retry) _ (by first | exact fun W hW => kr_get hW 0 rfl | exact fun W hW => kr_get hW 1 rfl | exact fun W hW => kr_get hW 2 rfl | exact fun W hW => kr_get hW 3 rfl | exact fun W hW => kr_get hW 4 rfl | exact fun W hW => kr_get hW 5 rfl | exact fun W hW => kr_get hW 6 rfl | exact fun W hW => kr_get hW 7 rfl) dA_under rfl (dL_size _ _ _)) (by assumption) ?_
  simp only [Act.put, List.setIfInBounds_toArray, List.set_cons_zero, List.set_cons_succ, List.getElem_toArray, List.getElem_cons_zero, List.getElem_cons_succ]
  refine wpAnyH_take (i := 3) (v := ?_) rfl (by kernel_rfl) (by kernel_rfl) (by kernel_rfl) (fun _ _ _ h => h) (Or.inl ⟨by rfl, ?_⟩) (by assumption) ?_
  rotate_left
  · (intro w hSw; (try dsimp only at hSw); go_simp); (try with_reducible rfl)
  simp only [Act.put, List.setIfInBounds_toArray, List.set_cons_zero, List.set_cons_succ, List.getElem_toArray, List.getElem_cons_zero, List.getElem_cons_succ]
  refine wpAnyH_take (i := 4) (v := ?_) rfl (by kernel_rfl) (by kernel_rfl) (by kernel_rfl) (fun _ _ _ h => h) (Or.inl ⟨by rfl, ?_⟩) (by assumption) ?_
  rotate_left
  · (intro w hSw; (try dsimp only at hSw); go_simp); (try with_reducible rfl)
  simp only [Act.put, List.setIfInBounds_toArray, List.set_cons_zero, List.set_cons_succ, List.getElem_toArray, List.getElem_cons_zero, List.getElem_cons_succ]
  refine wpAnyH_ready (rs := [1, 9]) (by kernel_rfl) (by simp) ?_
  refine AllReadyH.cons rfl (fun K hK => ?_) (AllReadyH.cons rfl (fun K hK => ?_) AllReadyH.nil)
  (try simp only [World.alloc_drew] at hHeld)
  (try simp only [List.getElem_toArray, List.getElem_cons_zero, List.getElem_cons_succ])
  go_simp
  (with_reducible refine (given_r s _).mono ?_)
  rintro e w' ⟨rfl, hq1⟩
  (try (focus (go_wp2_with fail)))
  refine hK.out _ _ ?_ (fun hNew => ?_)
  · ((try dsimp only); with_reducible (first | assumption | exact kr_drew (by assumption) | exact kr_call (by assumption) hq1 | exact kr_alloc (by assumption) _ | exact kr_tail HKf))
  clear hK K hHeld; have hHeld := hNew; clear hNew
  (try (simp only [Act.put, List.setIfInBounds_toArray, List.set_cons_zero, List.set_cons_succ, List.getElem_toArray, List.getElem_cons_zero, List.getElem_cons_succ]))
  refine wpAnyH_ready (rs := [5, 9]) (by kernel_rfl) (by simp) ?_
  refine AllReadyH.cons rfl (fun K hK => ?_) (AllReadyH.cons rfl (fun K hK => ?_) AllReadyH.nil)
  (try simp only [World.alloc_drew] at hHeld)
  (try simp only [List.getElem_toArray, List.getElem_cons_zero, List.getElem_cons_succ])
  go_simp
  (with_reducible refine (done_d s every dr retry code clock _).mono ?_)
  rintro e w' ⟨rfl, hq1⟩
  (try (focus (go_wp2_with fail)))
  refine hK.out _ _ ?_ (fun hNew => ?_)
  · ((try dsimp only); with_reducible (first | assumption | exact kr_drew (by assumption) | exact kr_call (by assumption) hq1 | exact kr_alloc (by assumption) _ | exact kr_tail HKf))
  clear hK K hHeld; have hHeld := hNew; clear hNew
  (try (simp only [Act.put, List.setIfInBounds_toArray, List.set_cons_zero, List.set_cons_succ, List.getElem_toArray, List.getElem_cons_zero, List.getElem_cons_succ]))
  refine wpAnyH_take (i := 6) (v := ?_) rfl (by kernel_rfl) (by kernel_rfl) (by kernel_rfl) (fun _ _ _ h => h) (Or.inl ⟨by rfl, ?_⟩) (by assumption) ?_
  rotate_left
  · (intro w hSw; (try dsimp only at hSw); go_simp); (try with_reducible rfl)
  simp only [Act.put, List.setIfInBounds_toArray, List.set_cons_zero, List.set_cons_succ, List.getElem_toArray, List.getElem_cons_zero, List.getElem_cons_succ]
  refine wpAnyH_take (i := 7) (v := ?_) rfl (by kernel_rfl) (by kernel_rfl) (by kernel_rfl) (fun _ _ _ h => h) (Or.inl ⟨by rfl, ?_⟩) (by assumption) ?_
  rotate_left
  · (intro w hSw; (try dsimp only at hSw); go_simp); (try with_reducible rfl)
  simp only [Act.put, List.setIfInBounds_toArray, List.set_cons_zero, List.set_cons_succ, List.getElem_toArray, List.getElem_cons_zero, List.getElem_cons_succ]
  refine wpAnyH_take (i := 8) (v := ?_) rfl (by kernel_rfl) (by kernel_rfl) (by kernel_rfl) (fun _ _ _ h => h) (Or.inl ⟨by rfl, ?_⟩) (by assumption) ?_
  rotate_left
  · (intro w hSw; (try dsimp only at hSw); go_simp); (try with_reducible rfl)
  simp only [Act.put, List.setIfInBounds_toArray, List.set_cons_zero, List.set_cons_succ, List.getElem_toArray, List.getElem_cons_zero, List.getElem_cons_succ]
  refine wpAnyH_ready (rs := [9]) (by kernel_rfl) (by simp) ?_
  refine AllReadyH.cons rfl (fun K hK => ?_) AllReadyH.nil
  (try simp only [List.getElem_toArray, List.getElem_cons_zero, List.getElem_cons_succ])
  rw [if_pos (show Region.wanted _ _ = true from rfl)]
  refine ow_alloc 35 stZ 10 rfl stZ_zero ?_
  have HKn := kr_newZ hHeld 35
  (try simp only [World.size_alloc, World.size_drew] at HKn)
  refine hK.out _ _ ?_ (fun hNew => ?_)
  · ((try dsimp only); with_reducible (first | assumption | exact kr_drew (by assumption) | exact kr_call (by assumption) hq1 | exact kr_alloc (by assumption) _ | exact kr_tail HKf))
  clear hK K hHeld; have hHeld := hNew; clear hNew
  (try (simp only [Act.put, List.setIfInBounds_toArray, List.set_cons_zero, List.set_cons_succ, List.getElem_toArray, List.getElem_cons_zero, List.getElem_cons_succ]))
  refine wpAnyH_ready (rs := [10]) (by kernel_rfl) (by simp) ?_
  refine AllReadyH.cons rfl (fun K hK => ?_) AllReadyH.nil
  (try simp only [World.alloc_drew] at hHeld)
  (try simp only [World.alloc_drew] at HKn)
  (try simp only [List.getElem_toArray, List.getElem_cons_zero, List.getElem_cons_succ])
  rw [if_pos (show Region.wanted _ _ = true from rfl)]
  refine wp_store_mid 35 _ _ rfl _ 0 (St.l _).toArray rfl rfl (kr_there HKn 0 rfl _) (by simpa using st_size _) (all_oneCell_toArray (st_one _)) ?_
  have HKf := kr_set HKn 0 rfl (jDoneS s code every dr retry clock)
  simp only [List.set_cons_zero] at HKf
  refine hK.out _ _ ?_ (fun hNew => ?_)
  · ((try dsimp only); exact kr_tail HKf)
  clear hK K hHeld; have hHeld := hNew; clear hNew
  (try (simp only [Act.put, List.setIfInBounds_toArray, List.set_cons_zero, List.set_cons_succ, List.getElem_toArray, List.getElem_cons_zero, List.getElem_cons_succ]))
  refine wpAnyH_take (i := 11) (v := ?_) rfl (by kernel_rfl) (by kernel_rfl) (by kernel_rfl) (fun _ _ _ h => h) (Or.inl ⟨by rfl, ?_⟩) (by assumption) ?_
  rotate_left
  · (intro w hSw; (try dsimp only at hSw); go_simp); (try with_reducible rfl)
  simp only [Act.put, List.setIfInBounds_toArray, List.set_cons_zero, List.set_cons_succ, List.getElem_toArray, List.getElem_cons_zero, List.getElem_cons_succ]
  refine wpAnyH_done (by kernel_rfl) ?_ _
  clear HK hHeld HKn
  have HK := HKf
  clear HKf
  rotate_left
  (try simp only [List.getElem_toArray, List.getElem_cons_zero, List.getElem_cons_succ])
  rw [if_pos (show Region.wanted _ _ = true from rfl)]
  refine ow_alloc 35 stZ 10 rfl stZ_zero ?_
  have HKn := kr_newZ hHeld 35
  (try simp only [World.size_alloc, World.size_drew] at HKn)
  refine hK.out _ _ ?_ (fun hNew => ?_)
  · ((try dsimp only); with_reducible (first | assumption | exact kr_drew (by assumption) | exact kr_call (by assumption) hq1 | exact kr_alloc (by assumption) _ | exact kr_tail HKf))
  clear hK K hHeld; have hHeld := hNew; clear hNew
  (try (simp only [Act.put, List.setIfInBounds_toArray, List.set_cons_zero, List.set_cons_succ, List.getElem_toArray, List.getElem_cons_zero, List.getElem_cons_succ]))
  refine wpAnyH_ready (rs := [5]) (by kernel_rfl) (by simp) ?_
  refine AllReadyH.cons rfl (fun K hK => ?_) AllReadyH.nil
  (try simp only [World.alloc_drew] at hHeld)
  (try simp only [World.alloc_drew] at HKn)
  (try simp only [List.getElem_toArray, List.getElem_cons_zero, List.getElem_cons_succ])
  go_simp
  (with_reducible refine (done_d s every dr retry code clock _).mono ?_)
  rintro e w' ⟨rfl, hq1⟩
  replace HKn := kr_call HKn hq1
  (try (focus (go_wp2_with fail)))
  refine hK.out _ _ ?_ (fun hNew => ?_)
  · ((try dsimp only); with_reducible (first | assumption | exact kr_drew (by assumption) | exact kr_call (by assumption) hq1 | exact kr_alloc (by assumption) _ | exact kr_tail HKf))
  clear hK K hHeld; have hHeld := hNew; clear hNew
  (try (simp only [Act.put, List.setIfInBounds_toArray, List.set_cons_zero, List.set_cons_succ, List.getElem_toArray, List.getElem_cons_zero, List.getElem_cons_succ]))
  refine wpAnyH_take (i := 6) (v := ?_) rfl (by kernel_rfl) (by kernel_rfl) (by kernel_rfl) (fun _ _ _ h => h) (Or.inl ⟨by rfl, ?_⟩) (by assumption) ?_
  rotate_left
  · (intro w hSw; (try dsimp only at hSw); go_simp); (try with_reducible rfl)
  simp only [Act.put, List.setIfInBounds_toArray, List.set_cons_zero, List.set_cons_succ, List.getElem_toArray, List.getElem_cons_zero, List.getElem_cons_succ]
  refine wpAnyH_take (i := 7) (v := ?_) rfl (by kernel_rfl) (by kernel_rfl) (by kernel_rfl) (fun _ _ _ h => h) (Or.inl ⟨by rfl, ?_⟩) (by assumption) ?_
  rotate_left
  · (intro w hSw; (try dsimp only at hSw); go_simp); (try with_reducible rfl)
  simp only [Act.put, List.setIfInBounds_toArray, List.set_cons_zero, List.set_cons_succ, List.getElem_toArray, List.getElem_cons_zero, List.getElem_cons_succ]
  refine wpAnyH_take (i := 8) (v := ?_) rfl (by kernel_rfl) (by kernel_rfl) (by kernel_rfl) (fun _ _ _ h => h) (Or.inl ⟨by rfl, ?_⟩) (by assumption) ?_
  rotate_left
  · (intro w hSw; (try dsimp only at hSw); go_simp); (try with_reducible rfl)
  simp only [Act.put, List.setIfInBounds_toArray, List.set_cons_zero, List.set_cons_succ, List.getElem_toArray, List.getElem_cons_zero, List.getElem_cons_succ]
  refine wpAnyH_ready (rs := [10]) (by kernel_rfl) (by simp) ?_
  refine AllReadyH.cons rfl (fun K hK => ?_) AllReadyH.nil
  (try simp only [World.alloc_drew] at hHeld)
  (try simp only [World.alloc_drew] at HKn)
  (try simp only [List.getElem_toArray, List.getElem_cons_zero, List.getElem_cons_succ])
  rw [if_pos (show Region.wanted _ _ = true from rfl)]
  refine wp_store_mid 35 _ _ rfl _ 0 (St.l _).toArray rfl rfl (kr_there HKn 0 rfl _) (by simpa using st_size _) (all_oneCell_toArray (st_one _)) ?_
  have HKf := kr_set HKn 0 rfl (jDoneS s code every dr retry clock)
  simp only [List.set_cons_zero] at HKf
  refine hK.out _ _ ?_ (fun hNew => ?_)
  · ((try dsimp only); exact kr_tail HKf)
  clear hK K hHeld; have hHeld := hNew; clear hNew
  (try (simp only [Act.put, List.setIfInBounds_toArray, List.set_cons_zero, List.set_cons_succ, List.getElem_toArray, List.getElem_cons_zero, List.getElem_cons_succ]))
  refine wpAnyH_take (i := 11) (v := ?_) rfl (by kernel_rfl) (by kernel_rfl) (by kernel_rfl) (fun _ _ _ h => h) (Or.inl ⟨by rfl, ?_⟩) (by assumption) ?_
  rotate_left
  · (intro w hSw; (try dsimp only at hSw); go_simp); (try with_reducible rfl)
  simp only [Act.put, List.setIfInBounds_toArray, List.set_cons_zero, List.set_cons_succ, List.getElem_toArray, List.getElem_cons_zero, List.getElem_cons_succ]
  refine wpAnyH_done (by kernel_rfl) ?_ _
  clear HK hHeld HKn
  have HK := HKf
  clear HKf
  rotate_left
  (try simp only [List.getElem_toArray, List.getElem_cons_zero, List.getElem_cons_succ])
  rw [if_pos (show Region.wanted _ _ = true from rfl)]
  refine ow_alloc 35 stZ 10 rfl stZ_zero ?_
  have HKn := kr_newZ hHeld 35
  (try simp only [World.size_alloc, World.size_drew] at HKn)
  refine hK.out _ _ ?_ (fun hNew => ?_)
  · ((try dsimp only); with_reducible (first | assumption | exact kr_drew (by assumption) | exact kr_call (by assumption) hq1 | exact kr_alloc (by assumption) _ | exact kr_tail HKf))
  clear hK K hHeld; have hHeld := hNew; clear hNew
  (try (simp only [Act.put, List.setIfInBounds_toArray, List.set_cons_zero, List.set_cons_succ, List.getElem_toArray, List.getElem_cons_zero, List.getElem_cons_succ]))
  refine wpAnyH_ready (rs := [1]) (by kernel_rfl) (by simp) ?_
  refine AllReadyH.cons rfl (fun K hK => ?_) AllReadyH.nil
  (try simp only [World.alloc_drew] at hHeld)
  (try simp only [World.alloc_drew] at HKn)
  (try simp only [List.getElem_toArray, List.getElem_cons_zero, List.getElem_cons_succ])
  go_simp
  (with_reducible refine (given_r s _).mono ?_)
  rintro e w' ⟨rfl, hq1⟩
  replace HKn := kr_call HKn hq1
  (try (focus (go_wp2_with fail)))
  refine hK.out _ _ ?_ (fun hNew => ?_)
  · ((try dsimp only); with_reducible (first | assumption | exact kr_drew (by assumption) | exact kr_call (by assumption) hq1 | exact kr_alloc (by assumption) _ | exact kr_tail HKf))
  clear hK K hHeld; have hHeld := hNew; clear hNew
  (try (simp only [Act.put, List.setIfInBounds_toArray, List.set_cons_zero, List.set_cons_succ, List.getElem_toArray, List.getElem_cons_zero, List.getElem_cons_succ]))
  refine wpAnyH_ready (rs := [5]) (by kernel_rfl) (by simp) ?_
  refine AllReadyH.cons rfl (fun K hK => ?_) AllReadyH.nil
  (try simp only [World.alloc_drew] at hHeld)
  (try simp only [World.alloc_drew] at HKn)
  (try simp only [List.getElem_toArray, List.getElem_cons_zero, List.getElem_cons_succ])
  go_simp
  (with_reducible refine (done_d s every dr retry code clock _).mono ?_)
  rintro e w' ⟨rfl, hq1⟩
  replace HKn := kr_call HKn hq1
  (try (focus (go_wp2_with fail)))
  refine hK.out _ _ ?_ (fun hNew => ?_)
  · ((try dsimp only); with_reducible (first | assumption | exact kr_drew (by assumption) | exact kr_call (by assumption) hq1 | exact kr_alloc (by assumption) _ | exact kr_tail HKf))
  clear hK K hHeld; have hHeld := hNew; clear hNew
  (try (simp only [Act.put, List.setIfInBounds_toArray, List.set_cons_zero, List.set_cons_succ, List.getElem_toArray, List.getElem_cons_zero, List.getElem_cons_succ]))
  refine wpAnyH_take (i := 6) (v := ?_) rfl (by kernel_rfl) (by kernel_rfl) (by kernel_rfl) (fun _ _ _ h => h) (Or.inl ⟨by rfl, ?_⟩) (by assumption) ?_
  rotate_left
  · (intro w hSw; (try dsimp only at hSw); go_simp); (try with_reducible rfl)
  simp only [Act.put, List.setIfInBounds_toArray, List.set_cons_zero, List.set_cons_succ, List.getElem_toArray, List.getElem_cons_zero, List.getElem_cons_succ]
  refine wpAnyH_take (i := 7) (v := ?_) rfl (by kernel_rfl) (by kernel_rfl) (by kernel_rfl) (fun _ _ _ h => h) (Or.inl ⟨by rfl, ?_⟩) (by assumption) ?_
  rotate_left
  · (intro w hSw; (try dsimp only at hSw); go_simp); (try with_reducible rfl)
  simp only [Act.put, List.setIfInBounds_toArray, List.set_cons_zero, List.set_cons_succ, List.getElem_toArray, List.getElem_cons_zero, List.getElem_cons_succ]
  refine wpAnyH_take (i := 8) (v := ?_) rfl (by kernel_rfl) (by kernel_rfl) (by kernel_rfl) (fun _ _ _ h => h) (Or.inl ⟨by rfl, ?_⟩) (by assumption) ?_
  rotate_left
  · (intro w hSw; (try dsimp only at hSw); go_simp); (try with_reducible rfl)
  simp only [Act.put, List.setIfInBounds_toArray, List.set_cons_zero, List.set_cons_succ, List.getElem_toArray, List.getElem_cons_zero, List.getElem_cons_succ]
  refine wpAnyH_ready (rs := [10]) (by kernel_rfl) (by simp) ?_
  refine AllReadyH.cons rfl (fun K hK => ?_) AllReadyH.nil
  (try simp only [World.alloc_drew] at hHeld)
  (try simp only [World.alloc_drew] at HKn)
  (try simp only [List.getElem_toArray, List.getElem_cons_zero, List.getElem_cons_succ])
  rw [if_pos (show Region.wanted _ _ = true from rfl)]
  refine wp_store_mid 35 _ _ rfl _ 0 (St.l _).toArray rfl rfl (kr_there HKn 0 rfl _) (by simpa using st_size _) (all_oneCell_toArray (st_one _)) ?_
  have HKf := kr_set HKn 0 rfl (jDoneS s code every dr retry clock)
  simp only [List.set_cons_zero] at HKf
  refine hK.out _ _ ?_ (fun hNew => ?_)
  · ((try dsimp only); exact kr_tail HKf)
  clear hK K hHeld; have hHeld := hNew; clear hNew
  (try (simp only [Act.put, List.setIfInBounds_toArray, List.set_cons_zero, List.set_cons_succ, List.getElem_toArray, List.getElem_cons_zero, List.getElem_cons_succ]))
  refine wpAnyH_take (i := 11) (v := ?_) rfl (by kernel_rfl) (by kernel_rfl) (by kernel_rfl) (fun _ _ _ h => h) (Or.inl ⟨by rfl, ?_⟩) (by assumption) ?_
  rotate_left
  · (intro w hSw; (try dsimp only at hSw); go_simp); (try with_reducible rfl)
  simp only [Act.put, List.setIfInBounds_toArray, List.set_cons_zero, List.set_cons_succ, List.getElem_toArray, List.getElem_cons_zero, List.getElem_cons_succ]
  refine wpAnyH_done (by kernel_rfl) ?_ _
  clear HK hHeld HKn
  have HK := HKf
  clear HKf
  rotate_left
  all_goals (
    go_wp2_with (first | (go_at_call 11; (with_reducible refine (given_r s _).mono ?_); rintro e w' ⟨rfl, hq⟩; replace HK := kr_call HK hq; clear hq) | (go_at_call 10; (with_reducible refine (submit_r s run _).mono ?_); rintro e w' ⟨rfl, hq⟩; replace HK := kr_call HK hq; clear hq) | (go_at_call 12; (with_reducible refine (rsubmit_r s run _).mono ?_); rintro e w' ⟨rfl, hq⟩; replace HK := kr_call HK hq; clear hq; have kd21 := kr_cell HK 1 rfl 21 _ hd1; have kd22 := kr_cell HK 1 rfl 22 _ hd2; have kd23 := kr_cell HK 1 rfl 23 _ hd3; have zd := kr_lt HK 1 rfl) | (go_at_call 14; (with_reducible refine (cD _).mono ?_); rintro e w' ⟨rfl, hq⟩; replace HK := kr_call HK hq; clear hq) | ((with_reducible show wpList _ _ _ (Oper.mk _ (Op.build 51 _) _ _ _ _ :: _) _ _); refine wl_build 51 #[(12, .tmp 34), (13, .tmp 36), (14, .tmp 38)] (dL every dr retry) rfl rfl (by unfold dL; kernel_rfl) ?_) | ((with_reducible show wpList _ _ _ (Oper.mk _ (Op.alloc 51) _ _ _ _ :: _) _ _); refine wl_alloc 51 dZ 24 rfl rfl dZ_zero ?_) | ((with_reducible show wpList _ _ _ (Oper.mk _ (Op.store 51 _ _) _ _ _ _ :: _) _ _); refine wl_storeK 51 _ _ dZ (dL every dr retry) HK rfl rfl (by simp [go_sem]) rfl (dL_size _ _ _) (dL_len _ _ _) (dL_one _ _ _) (fun HK2 => ?_); clear HK; have HK := HK2; clear HK2; (try simp only [World.size_alloc] at HK); clear kd21 kd22 kd23 zd) | ((with_reducible show wpList _ _ _ (Oper.mk _ (Op.box 34 _) _ _ _ _ :: _) _ _); refine wl_boxK 34 _ ds HK rfl rfl rfl (fun HK2 => ?_); clear HK; have HK := HK2; clear HK2; (try simp only [World.size_alloc] at HK)) | ((with_reducible show wpList _ _ _ (Oper.mk _ (Op.load 34 _) _ _ _ _ :: _) _ _); refine wl_load 34 _ rfl rfl _ 0 rfl ds _ (by first | exact kr_get HK 0 rfl | exact kr_get HK 1 rfl | exact kr_get HK 2 rfl | exact kr_get HK 3 rfl | exact kr_get HK 4 rfl | exact kr_get HK 5 rfl) rd_under rfl hz ?_) | ((with_reducible show wpList _ _ _ (Oper.mk _ (Op.alloc 35) _ _ _ _ :: _) _ _); refine wl_alloc 35 stZ 10 rfl rfl stZ_zero ?_) | ((with_reducible show wpList _ _ _ (Oper.mk _ (Op.store 35 _ _) _ _ _ _ :: _) _ _); refine wl_storeK 35 _ _ stZ (St.l _) HK rfl rfl (by simp [go_sem]) rfl (st_size _) (stZ_len _) (st_one _) (fun HK2 => ?_); clear HK; have HK := HK2; clear HK2; (try simp only [World.size_alloc] at HK)) | ((with_reducible show wpList _ _ _ (Oper.mk _ (Op.alloc 23) _ _ _ _ :: _) _ _); refine wl_alloc 23 stZ 10 rfl rfl stZ_zeroR ?_) | ((with_reducible show wpList _ _ _ (Oper.mk _ (Op.store 23 _ _) _ _ _ _ :: _) _ _); refine wl_storeK 23 _ _ stZ (St.l _) HK rfl rfl (by simp [go_sem]) rfl (st_sizeR _) (stZ_len _) (st_one _) (fun HK2 => ?_); clear HK; have HK := HK2; clear HK2; (try simp only [World.size_alloc] at HK)) | ((with_reducible show wpList _ _ _ (Oper.mk _ (Op.load 35 _) _ _ _ _ :: _) _ _); refine wl_load 35 _ rfl rfl _ 0 rfl (St.l _) _ (by first | exact kr_get HK 0 rfl | exact kr_get HK 1 rfl | exact kr_get HK 2 rfl | exact kr_get HK 3 rfl | exact kr_get HK 4 rfl | exact kr_get HK 5 rfl) row_under rfl (st_size _) ?_) | ((with_reducible show wpList _ _ _ (Oper.mk _ (Op.load 23 _) _ _ _ _ :: _) _ _); refine wl_load 23 _ rfl rfl _ 0 rfl (St.l _) _ (by first | exact kr_get HK 0 rfl | exact kr_get HK 1 rfl | exact kr_get HK 2 rfl | exact kr_get HK 3 rfl | exact kr_get HK 4 rfl | exact kr_get HK 5 rfl) row_underR rfl (st_sizeR _) ?_) | ((with_reducible show wpList _ _ _ (Oper.mk _ (Op.box 23 _) _ _ _ _ :: _) _ _); refine wl_boxK 23 _ (St.l _) HK rfl rfl rfl (fun HK2 => ?_); clear HK; have HK := HK2; clear HK2; (try simp only [World.size_alloc] at HK)))
    (try simp only [World.size_alloc])
    refine kr_begin HK (by kernel_rfl) (fun hHeld => ?_)
    refine wpAnyH_take (i := 0) (v := _) rfl (by kernel_rfl) (by kernel_rfl) (by kernel_rfl) (fun _ _ _ h => h) (yieldsIf_load_mid rfl 35 _ rfl _ 0 rfl (St.l _) _ (by first | exact fun W hW => kr_get hW 0 rfl | exact fun W hW => kr_get hW 1 rfl | exact fun W hW => kr_get hW 2 rfl | exact fun W hW => kr_get hW 3 rfl | exact fun W hW => kr_get hW 4 rfl | exact fun W hW => kr_get hW 5 rfl | exact fun W hW => kr_get hW 6 rfl | exact fun W hW => kr_get hW 7 rfl) row_under rfl (st_size _)) (by assumption) ?_
    simp only [Act.put, List.setIfInBounds_toArray, List.set_cons_zero, List.set_cons_succ, List.getElem_toArray, List.getElem_cons_zero, List.getElem_cons_succ]
    refine wpAnyH_take (i := 2) (v := _) rfl (by kernel_rfl) (by kernel_rfl) (by kernel_rfl) (fun _ _ _ h => h) (yieldsIf_load_mid rfl 23 _ rfl _ 0 rfl (St.l _) _ (by first | exact fun W hW => kr_get hW 0 rfl | exact fun W hW => kr_get hW 1 rfl | exact fun W hW => kr_get hW 2 rfl | exact fun W hW => kr_get hW 3 rfl | exact fun W hW => kr_get hW 4 rfl | exact fun W hW => kr_get hW 5 rfl | exact fun W hW => kr_get hW 6 rfl | exact fun W hW => kr_get hW 7 rfl) row_underR rfl (st_sizeR _)) (by assumption) ?_
    simp only [Act.put, List.setIfInBounds_toArray, List.set_cons_zero, List.set_cons_succ, List.getElem_toArray, List.getElem_cons_zero, List.getElem_cons_succ]
    refine wpAnyH_ready (rs := [1]) (by kernel_rfl) (by simp) ?_
    refine AllReadyH.cons rfl (fun K hK => ?_) AllReadyH.nil
    (try simp only [List.getElem_toArray, List.getElem_cons_zero, List.getElem_cons_succ])
    go_simp
    (with_reducible refine (taken_r _ _).mono ?_); rintro e w' ⟨rfl, hq1⟩
    (try (go_wp2_with fail))
    refine hK.out _ _ ?_ (fun hNew => ?_)
    · ((try dsimp only); with_reducible (first | assumption | exact kr_drew (by assumption) | exact kr_call (by assumption) hq1))
    clear hK K hHeld; have hHeld := hNew; clear hNew
    (try (simp only [Act.put, List.setIfInBounds_toArray, List.set_cons_zero, List.set_cons_succ, List.getElem_toArray, List.getElem_cons_zero, List.getElem_cons_succ]))
    refine wpAnyH_take (i := 3) (v := ?_) rfl (by kernel_rfl) (by kernel_rfl) (by kernel_rfl) (fun _ _ _ h => h) (Or.inl ⟨by rfl, ?_⟩) (by assumption) ?_
    rotate_left
    · (intro w hSw; (try dsimp only at hSw); go_simp); (try with_reducible rfl)
    simp only [Act.put, List.setIfInBounds_toArray, List.set_cons_zero, List.set_cons_succ, List.getElem_toArray, List.getElem_cons_zero, List.getElem_cons_succ]
    refine wpAnyH_take (i := 4) (v := ?_) rfl (by kernel_rfl) (by kernel_rfl) (by kernel_rfl) (fun _ _ _ h => h) (Or.inl ⟨by rfl, ?_⟩) (by assumption) ?_
    rotate_left
    · (intro w hSw; (try dsimp only at hSw); go_simp); (try with_reducible rfl)
    simp only [Act.put, List.setIfInBounds_toArray, List.set_cons_zero, List.set_cons_succ, List.getElem_toArray, List.getElem_cons_zero, List.getElem_cons_succ]
    refine wpAnyH_take (i := 5) (v := ?_) rfl (by kernel_rfl) (by kernel_rfl) (by kernel_rfl) (fun _ _ _ h => h) (Or.inl ⟨by rfl, ?_⟩) (by assumption) ?_
    rotate_left
    · (intro w hSw; (try dsimp only at hSw); go_simp); (try with_reducible rfl)
    simp only [Act.put, List.setIfInBounds_toArray, List.set_cons_zero, List.set_cons_succ, List.getElem_toArray, List.getElem_cons_zero, List.getElem_cons_succ]
    refine wpAnyH_take (i := 6) (v := ?_) rfl (by kernel_rfl) (by kernel_rfl) (by kernel_rfl) (fun _ _ _ h => h) (Or.inl ⟨by rfl, ?_⟩) (by assumption) ?_
    rotate_left
    · (intro w hSw; (try dsimp only at hSw); go_simp); (try with_reducible rfl)
    simp only [Act.put, List.setIfInBounds_toArray, List.set_cons_zero, List.set_cons_succ, List.getElem_toArray, List.getElem_cons_zero, List.getElem_cons_succ]
    refine wpAnyH_take (i := 7) (v := ?_) rfl (by kernel_rfl) (by kernel_rfl) (by kernel_rfl) (fun _ _ _ h => h) (Or.inl ⟨by rfl, ?_⟩) (by assumption) ?_
    rotate_left
    · (intro w hSw; (try dsimp only at hSw); go_simp); (try with_reducible rfl)
    simp only [Act.put, List.setIfInBounds_toArray, List.set_cons_zero, List.set_cons_succ, List.getElem_toArray, List.getElem_cons_zero, List.getElem_cons_succ]
    refine wpAnyH_take (i := 8) (v := ?_) rfl (by kernel_rfl) (by kernel_rfl) (by kernel_rfl) (fun _ _ _ h => h) (Or.inl ⟨by rfl, ?_⟩) (by assumption) ?_
    rotate_left
    · (intro w hSw; (try dsimp only at hSw); go_simp); (try with_reducible rfl)
    simp only [Act.put, List.setIfInBounds_toArray, List.set_cons_zero, List.set_cons_succ, List.getElem_toArray, List.getElem_cons_zero, List.getElem_cons_succ]
    refine wpAnyH_take (i := 9) (v := ?_) rfl (by kernel_rfl) (by kernel_rfl) (by kernel_rfl) (fun _ _ _ h => h) (Or.inl ⟨by rfl, ?_⟩) (by assumption) ?_
    rotate_left
    · (intro w hSw; (try dsimp only at hSw); go_simp); (try with_reducible rfl)
    simp only [Act.put, List.setIfInBounds_toArray, List.set_cons_zero, List.set_cons_succ, List.getElem_toArray, List.getElem_cons_zero, List.getElem_cons_succ]
    refine wpAnyH_take (i := 10) (v := _) rfl (by kernel_rfl) (by kernel_rfl) (by kernel_rfl) (fun _ _ _ h => h) (yieldsIf_load_mid rfl 35 _ rfl _ 0 rfl (St.l _) _ (by first | exact fun W hW => kr_get hW 0 rfl | exact fun W hW => kr_get hW 1 rfl | exact fun W hW => kr_get hW 2 rfl | exact fun W hW => kr_get hW 3 rfl | exact fun W hW => kr_get hW 4 rfl | exact fun W hW => kr_get hW 5 rfl | exact fun W hW => kr_get hW 6 rfl | exact fun W hW => kr_get hW 7 rfl) row_under rfl (st_size _)) (by assumption) ?_
    simp only [Act.put, List.setIfInBounds_toArray, List.set_cons_zero, List.set_cons_succ, List.getElem_toArray, List.getElem_cons_zero, List.getElem_cons_succ]
    refine wpAnyH_take (i := 12) (v := _) rfl (by kernel_rfl) (by kernel_rfl) (by kernel_rfl) (fun _ _ _ h => h) (yieldsIf_load_mid rfl 23 _ rfl _ 0 rfl (St.l _) _ (by first | exact fun W hW => kr_get hW 0 rfl | exact fun W hW => kr_get hW 1 rfl | exact fun W hW => kr_get hW 2 rfl | exact fun W hW => kr_get hW 3 rfl | exact fun W hW => kr_get hW 4 rfl | exact fun W hW => kr_get hW 5 rfl | exact fun W hW => kr_get hW 6 rfl | exact fun W hW => kr_get hW 7 rfl) row_underR rfl (st_sizeR _)) (by assumption) ?_
    simp only [Act.put, List.setIfInBounds_toArray, List.set_cons_zero, List.set_cons_succ, List.getElem_toArray, List.getElem_cons_zero, List.getElem_cons_succ]
    refine wpAnyH_ready (rs := [11]) (by kernel_rfl) (by simp) ?_
    refine AllReadyH.cons rfl (fun K hK => ?_) AllReadyH.nil
    (try simp only [List.getElem_toArray, List.getElem_cons_zero, List.getElem_cons_succ])
    go_simp
    (with_reducible refine (taken_r _ _).mono ?_); rintro e w' ⟨rfl, hq1⟩
    (try (go_wp2_with fail))
    refine hK.out _ _ ?_ (fun hNew => ?_)
    · ((try dsimp only); with_reducible (first | assumption | exact kr_drew (by assumption) | exact kr_call (by assumption) hq1))
    clear hK K hHeld; have hHeld := hNew; clear hNew
    (try (simp only [Act.put, List.setIfInBounds_toArray, List.set_cons_zero, List.set_cons_succ, List.getElem_toArray, List.getElem_cons_zero, List.getElem_cons_succ]))
    refine wpAnyH_take (i := 13) (v := ?_) rfl (by kernel_rfl) (by kernel_rfl) (by kernel_rfl) (fun _ _ _ h => h) (Or.inl ⟨by rfl, ?_⟩) (by assumption) ?_
    rotate_left
    · (intro w hSw; (try dsimp only at hSw); go_simp); (try with_reducible rfl)
    simp only [Act.put, List.setIfInBounds_toArray, List.set_cons_zero, List.set_cons_succ, List.getElem_toArray, List.getElem_cons_zero, List.getElem_cons_succ]
    refine wpAnyH_take (i := 14) (v := ?_) rfl (by kernel_rfl) (by kernel_rfl) (by kernel_rfl) (fun _ _ _ h => h) (Or.inl ⟨by rfl, ?_⟩) (by assumption) ?_
    rotate_left
    · (intro w hSw; (try dsimp only at hSw); go_simp); (try with_reducible rfl)
    simp only [Act.put, List.setIfInBounds_toArray, List.set_cons_zero, List.set_cons_succ, List.getElem_toArray, List.getElem_cons_zero, List.getElem_cons_succ]
    refine wpAnyH_take (i := 15) (v := ?_) rfl (by kernel_rfl) (by kernel_rfl) (by kernel_rfl) (fun _ _ _ h => h) (Or.inl ⟨by rfl, ?_⟩) (by assumption) ?_
    rotate_left
    · (intro w hSw; (try dsimp only at hSw); go_simp); (try with_reducible rfl)
    simp only [Act.put, List.setIfInBounds_toArray, List.set_cons_zero, List.set_cons_succ, List.getElem_toArray, List.getElem_cons_zero, List.getElem_cons_succ]
    refine wpAnyH_take (i := 16) (v := ?_) rfl (by kernel_rfl) (by kernel_rfl) (by kernel_rfl) (fun _ _ _ h => h) (Or.inl ⟨by rfl, ?_⟩) (by assumption) ?_
    rotate_left
    · (intro w hSw; (try dsimp only at hSw); go_simp); (try with_reducible rfl)
    simp only [Act.put, List.setIfInBounds_toArray, List.set_cons_zero, List.set_cons_succ, List.getElem_toArray, List.getElem_cons_zero, List.getElem_cons_succ]
    refine wpAnyH_take (i := 17) (v := ?_) rfl (by kernel_rfl) (by kernel_rfl) (by kernel_rfl) (fun _ _ _ h => h) (Or.inl ⟨by rfl, ?_⟩) (by assumption) ?_
    rotate_left
    · (intro w hSw; (try dsimp only at hSw); go_simp); (try with_reducible rfl)
    simp only [Act.put, List.setIfInBounds_toArray, List.set_cons_zero, List.set_cons_succ, List.getElem_toArray, List.getElem_cons_zero, List.getElem_cons_succ]
    refine wpAnyH_take (i := 18) (v := ?_) rfl (by kernel_rfl) (by kernel_rfl) (by kernel_rfl) (fun _ _ _ h => h) (Or.inl ⟨by rfl, ?_⟩) (by assumption) ?_
    rotate_left
    · (intro w hSw; (try dsimp only at hSw); go_simp); (try with_reducible rfl)
    simp only [Act.put, List.setIfInBounds_toArray, List.set_cons_zero, List.set_cons_succ, List.getElem_toArray, List.getElem_cons_zero, List.getElem_cons_succ]
    refine wpAnyH_take (i := 19) (v := ?_) rfl (by kernel_rfl) (by kernel_rfl) (by kernel_rfl) (fun _ _ _ h => h) (Or.inl ⟨by rfl, ?_⟩) (by assumption) ?_
    rotate_left
    · (intro w hSw; (try dsimp only at hSw); go_simp); (try with_reducible rfl)
    simp only [Act.put, List.setIfInBounds_toArray, List.set_cons_zero, List.set_cons_succ, List.getElem_toArray, List.getElem_cons_zero, List.getElem_cons_succ]
    refine wpAnyH_take (i := 20) (v := ?_) rfl (by kernel_rfl) (by kernel_rfl) (by kernel_rfl) (fun _ _ _ h => h) (Or.inl ⟨by rfl, ?_⟩) (by assumption) ?_
    rotate_left
    · (intro w hSw; (try dsimp only at hSw); go_simp); (try with_reducible rfl)
    simp only [Act.put, List.setIfInBounds_toArray, List.set_cons_zero, List.set_cons_succ, List.getElem_toArray, List.getElem_cons_zero, List.getElem_cons_succ]
    refine wpAnyH_take (i := 21) (v := _) rfl (by kernel_rfl) (by kernel_rfl) (by kernel_rfl) (fun _ _ _ h => h) (yieldsIf_load_mid rfl 23 _ rfl _ 0 rfl (St.l _) _ (by first | exact fun W hW => kr_get hW 0 rfl | exact fun W hW => kr_get hW 1 rfl | exact fun W hW => kr_get hW 2 rfl | exact fun W hW => kr_get hW 3 rfl | exact fun W hW => kr_get hW 4 rfl | exact fun W hW => kr_get hW 5 rfl | exact fun W hW => kr_get hW 6 rfl | exact fun W hW => kr_get hW 7 rfl) row_underR rfl (st_sizeR _)) (by assumption) ?_
    simp only [Act.put, List.setIfInBounds_toArray, List.set_cons_zero, List.set_cons_succ, List.getElem_toArray, List.getElem_cons_zero, List.getElem_cons_succ]
    refine wpAnyH_take (i := 24) (v := _) rfl (by kernel_rfl) (by kernel_rfl) (by kernel_rfl) (fun _ _ _ h => h) (yieldsIf_load_mid rfl 23 _ rfl _ 0 rfl (St.l _) _ (by first | exact fun W hW => kr_get hW 0 rfl | exact fun W hW => kr_get hW 1 rfl | exact fun W hW => kr_get hW 2 rfl | exact fun W hW => kr_get hW 3 rfl | exact fun W hW => kr_get hW 4 rfl | exact fun W hW => kr_get hW 5 rfl | exact fun W hW => kr_get hW 6 rfl | exact fun W hW => kr_get hW 7 rfl) row_underR rfl (st_sizeR _)) (by assumption) ?_
    simp only [Act.put, List.setIfInBounds_toArray, List.set_cons_zero, List.set_cons_succ, List.getElem_toArray, List.getElem_cons_zero, List.getElem_cons_succ]
    refine wpAnyH_ready (rs := [22]) (by kernel_rfl) (by simp) ?_
    refine AllReadyH.cons rfl (fun K hK => ?_) AllReadyH.nil
    (try simp only [List.getElem_toArray, List.getElem_cons_zero, List.getElem_cons_succ])
    go_simp
    (with_reducible refine (given_r s _).mono ?_); rintro e w' ⟨rfl, hq1⟩
    (try (go_wp2_with fail))
    refine hK.out _ _ ?_ (fun hNew => ?_)
    · ((try dsimp only); with_reducible (first | assumption | exact kr_drew (by assumption) | exact kr_call (by assumption) hq1))
    clear hK K hHeld; have hHeld := hNew; clear hNew
    (try (simp only [Act.put, List.setIfInBounds_toArray, List.set_cons_zero, List.set_cons_succ, List.getElem_toArray, List.getElem_cons_zero, List.getElem_cons_succ]))
    refine wpAnyH_ready (rs := [23]) (by kernel_rfl) (by simp) ?_
    refine AllReadyH.cons rfl (fun K hK => ?_) AllReadyH.nil
    (try simp only [List.getElem_toArray, List.getElem_cons_zero, List.getElem_cons_succ])
    go_simp
    (with_reducible refine (right_r s _).mono ?_); rintro e w' ⟨rfl, hq1⟩
    (try (go_wp2_with fail))
    refine hK.out _ _ ?_ (fun hNew => ?_)
    · ((try dsimp only); with_reducible (first | assumption | exact kr_drew (by assumption) | exact kr_call (by assumption) hq1))
    clear hK K hHeld; have hHeld := hNew; clear hNew
    (try (simp only [Act.put, List.setIfInBounds_toArray, List.set_cons_zero, List.set_cons_succ, List.getElem_toArray, List.getElem_cons_zero, List.getElem_cons_succ]))
    refine wpAnyH_ready (rs := [25]) (by kernel_rfl) (by simp) ?_
    refine AllReadyH.cons rfl (fun K hK => ?_) AllReadyH.nil
    (try simp only [List.getElem_toArray, List.getElem_cons_zero, List.getElem_cons_succ])
    go_simp
    (with_reducible refine (rright_r s _).mono ?_); rintro e w' ⟨rfl, hq1⟩
    (try (go_wp2_with fail))
    refine hK.out _ _ ?_ (fun hNew => ?_)
    · ((try dsimp only); with_reducible (first | assumption | exact kr_drew (by assumption) | exact kr_call (by assumption) hq1))
    clear hK K hHeld; have hHeld := hNew; clear hNew
    (try (simp only [Act.put, List.setIfInBounds_toArray, List.set_cons_zero, List.set_cons_succ, List.getElem_toArray, List.getElem_cons_zero, List.getElem_cons_succ]))
    refine wpAnyH_take (i := 26) (v := ?_) rfl (by kernel_rfl) (by kernel_rfl) (by kernel_rfl) (fun _ _ _ h => h) (Or.inl ⟨by rfl, ?_⟩) (by assumption) ?_
    rotate_left
    · (intro w hSw; (try dsimp only at hSw); go_simp); (try with_reducible rfl)
    simp only [Act.put, List.setIfInBounds_toArray, List.set_cons_zero, List.set_cons_succ, List.getElem_toArray, List.getElem_cons_zero, List.getElem_cons_succ]
    refine wpAnyH_take (i := 27) (v := ?_) rfl (by kernel_rfl) (by kernel_rfl) (by kernel_rfl) (fun _ _ _ h => h) (Or.inl ⟨by rfl, ?_⟩) (by assumption) ?_
    rotate_left
    · (intro w hSw; (try dsimp only at hSw); go_simp); (try with_reducible rfl)
    simp only [Act.put, List.setIfInBounds_toArray, List.set_cons_zero, List.set_cons_succ, List.getElem_toArray, List.getElem_cons_zero, List.getElem_cons_succ]
    refine wpAnyH_take (i := 28) (v := ?_) rfl (by kernel_rfl) (by kernel_rfl) (by kernel_rfl) (fun _ _ _ h => h) (Or.inl ⟨by rfl, ?_⟩) (by assumption) ?_
    rotate_left
    · (intro w hSw; (try dsimp only at hSw); go_simp); (try with_reducible rfl)
    simp only [Act.put, List.setIfInBounds_toArray, List.set_cons_zero, List.set_cons_succ, List.getElem_toArray, List.getElem_cons_zero, List.getElem_cons_succ]
    refine wpAnyH_ready (rs := [29]) (by kernel_rfl) (by simp) ?_
    refine AllReadyH.cons rfl (fun K hK => ?_) AllReadyH.nil
    (try simp only [List.getElem_toArray, List.getElem_cons_zero, List.getElem_cons_succ])
    go_simp
    (with_reducible refine (known_any _).mono ?_); rintro e w' ⟨rfl, hq1⟩
    (try (go_wp2_with fail))
    refine hK.out _ _ ?_ (fun hNew => ?_)
    · ((try dsimp only); with_reducible (first | assumption | exact kr_drew (by assumption) | exact kr_call (by assumption) hq1))
    clear hK K hHeld; have hHeld := hNew; clear hNew
    (try (simp only [Act.put, List.setIfInBounds_toArray, List.set_cons_zero, List.set_cons_succ, List.getElem_toArray, List.getElem_cons_zero, List.getElem_cons_succ]))
    refine wpAnyH_take (i := 30) (v := ?_) rfl (by kernel_rfl) (by kernel_rfl) (by kernel_rfl) (fun _ _ _ h => h) (Or.inl ⟨by rfl, ?_⟩) (by assumption) ?_
    rotate_left
    · (intro w hSw; (try dsimp only at hSw); go_simp); (try with_reducible rfl)
    simp only [Act.put, List.setIfInBounds_toArray, List.set_cons_zero, List.set_cons_succ, List.getElem_toArray, List.getElem_cons_zero, List.getElem_cons_succ]
    refine wpAnyH_take (i := 31) (v := ?_) rfl (by kernel_rfl) (by kernel_rfl) (by kernel_rfl) (fun _ _ _ h => h) (Or.inl ⟨by rfl, ?_⟩) (by assumption) ?_
    rotate_left
    · (intro w hSw; (try dsimp only at hSw); go_simp); (try with_reducible rfl)
    simp only [Act.put, List.setIfInBounds_toArray, List.set_cons_zero, List.set_cons_succ, List.getElem_toArray, List.getElem_cons_zero, List.getElem_cons_succ]
    refine wpAnyH_done (by kernel_rfl) ?_ _
    replace HK : KR w _ _ := hHeld
    clear hHeld
    go_wp2
    all_goals go_ret
    all_goals exact ⟨rfl, HK.below⟩)
end Go.Proofs.Ytfefbmglimdgjaa.Own
