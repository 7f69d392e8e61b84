/- What dayshift/disk's Rename does with a disk in memory. No conditions beside those in each theorem. -/
import Derived.Test.YtaonaifnaecpiaaDisk9
namespace Go.Proofs.Ytaonaifnaecpiaa.Own
open Go.RowKit
set_option linter.unusedSimpArgs false
set_option maxHeartbeats 4000000 in
theorem rename1_k (d : Dk) (D p1 p2 p3 : Nat) (i j : Nat) (hi : i < 8) (hj : j < 8) (sx : Option Addr) (m cx : Nat) (n : Int) (h1 : d.f i = (.slice sx m cx, n)) {w W : World} {rows : List (Nat × List Value)} (HK : KR w ((D, d.l) :: rows) W) (hp1 : (p1, [.pointer (some ⟨D, 0, none⟩)]) ∈ rows) (hp2 : (p2, [.int .i64 (i : Int)]) ∈ rows) (hp3 : (p3, [.int .i64 (j : Int)]) ∈ rows) :
    Calls Try.prog 69 #[.pointer (some ⟨p1, 0, none⟩), .pointer (some ⟨p2, 0, none⟩), .pointer (some ⟨p3, 0, none⟩)] W fun e W' => e = .returned (.tuple #[]) ∧ KR w ((D, (putF (putF d i (.slice none 0 0) 0) j (.slice sx m cx) n).l) :: rows) W' := by
  have hi2 : (i : Int) < 8 := by omega
  have hj2 : (j : Int) < 8 := by omega
  go_enter Try.func69, Try.ntmps69
  go_wp2_with fail
  refine wp_region_held_drew (S := fun W => KR w ((D, d.l) :: rows) W) (by kernel_rfl) (kr_drew HK) (fun hHeld => ?_)
  refine wpAnyH_take (i := 0) (v := ?_) rfl (by kernel_rfl) (by kernel_rfl) (by kernel_rfl) (fun _ _ _ h => h) (Or.inl ⟨by rfl, ?_⟩) (by assumption) ?_
  rotate_left
  · (intro W hSw; (try dsimp only at hSw); have hK0 := hSw; have k1 := range_cell (kr_mem hK0 (List.mem_cons_of_mem _ hp1)) 0 _ rfl; have k2 := range_cell (kr_mem hK0 (List.mem_cons_of_mem _ hp2)) 0 _ rfl; have k3 := range_cell (kr_mem hK0 (List.mem_cons_of_mem _ hp3)) 0 _ rfl; go_simp); (try with_reducible rfl)
  simp only [Act.put, List.setIfInBounds_toArray, List.set_cons_zero, List.set_cons_succ, List.getElem_toArray, List.getElem_cons_zero, List.getElem_cons_succ]
  refine wpAnyH_take (i := 1) (v := ?_) rfl (by kernel_rfl) (by kernel_rfl) (by kernel_rfl) (fun _ _ _ h => h) (Or.inl ⟨by rfl, ?_⟩) (by assumption) ?_
  rotate_left
  · (intro W hSw; (try dsimp only at hSw); have hK0 := hSw; have k1 := range_cell (kr_mem hK0 (List.mem_cons_of_mem _ hp1)) 0 _ rfl; have k2 := range_cell (kr_mem hK0 (List.mem_cons_of_mem _ hp2)) 0 _ rfl; have k3 := range_cell (kr_mem hK0 (List.mem_cons_of_mem _ hp3)) 0 _ rfl; go_simp); (try with_reducible rfl)
  simp only [Act.put, List.setIfInBounds_toArray, List.set_cons_zero, List.set_cons_succ, List.getElem_toArray, List.getElem_cons_zero, List.getElem_cons_succ]
  refine wpAnyH_take (i := 2) (v := ?_) rfl (by kernel_rfl) (by kernel_rfl) (by kernel_rfl) (fun _ _ _ h => h) (Or.inl ⟨by rfl, ?_⟩) (by assumption) ?_
  rotate_left
  · (intro W hSw; (try dsimp only at hSw);  go_simp); (try with_reducible rfl)
  simp only [Act.put, List.setIfInBounds_toArray, List.set_cons_zero, List.set_cons_succ, List.getElem_toArray, List.getElem_cons_zero, List.getElem_cons_succ]
  refine wpAnyH_take (i := 3) (v := ?_) rfl (by kernel_rfl) (by kernel_rfl) (by kernel_rfl) (fun _ _ _ h => h) (Or.inl ⟨by rfl, ?_⟩) (by assumption) ?_
  rotate_left
  · (intro W hSw; (try dsimp only at hSw);  go_simp); (try with_reducible rfl)
  simp only [Act.put, List.setIfInBounds_toArray, List.set_cons_zero, List.set_cons_succ, List.getElem_toArray, List.getElem_cons_zero, List.getElem_cons_succ]
  refine wpAnyH_take (i := 4) (v := ?_) rfl (by kernel_rfl) (by kernel_rfl) (by kernel_rfl) (fun _ _ _ h => h) (Or.inl ⟨by rfl, ?_⟩) (by assumption) ?_
  rotate_left
  · (intro W hSw; (try dsimp only at hSw);  go_simp); (try with_reducible rfl)
  simp only [Act.put, List.setIfInBounds_toArray, List.set_cons_zero, List.set_cons_succ, List.getElem_toArray, List.getElem_cons_zero, List.getElem_cons_succ]
  refine wpAnyH_take (i := 5) (v := ?_) rfl (by kernel_rfl) (by kernel_rfl) (by kernel_rfl) (fun _ _ _ h => h) (Or.inl ⟨by rfl, ?_⟩) (by assumption) ?_
  rotate_left
  · (intro W hSw; (try dsimp only at hSw); have hK0 := hSw; have k1 := range_cell (kr_mem hK0 (List.mem_cons_of_mem _ hp1)) 0 _ rfl; have k2 := range_cell (kr_mem hK0 (List.mem_cons_of_mem _ hp2)) 0 _ rfl; have k3 := range_cell (kr_mem hK0 (List.mem_cons_of_mem _ hp3)) 0 _ rfl; have ka := kr_cell hK0 0 rfl _ _ (dk_a d i hi); have kb := kr_cell hK0 0 rfl _ _ (dk_b d i hi); rw [h1] at ka kb; dsimp only at ka kb; go_simp); (try with_reducible rfl)
  simp only [Act.put, List.setIfInBounds_toArray, List.set_cons_zero, List.set_cons_succ, List.getElem_toArray, List.getElem_cons_zero, List.getElem_cons_succ]
  refine wpAnyH_ready (rs := [6]) (by kernel_rfl) (by simp) ?_
  refine AllReadyH.cons rfl (fun K hK => ?_) AllReadyH.nil
  (try simp only [List.getElem_toArray, List.getElem_cons_zero, List.getElem_cons_succ])
  clear hHeld
  go_simp
  refine hK.out _ _ (kr_drew (kr_alloc HK _)) (fun hNew => ?_)
  clear hK K
  (try (simp only [Act.put, List.setIfInBounds_toArray, List.set_cons_zero, List.set_cons_succ, List.getElem_toArray, List.getElem_cons_zero, List.getElem_cons_succ]))
  refine wpAnyH_ready (rs := [7]) (by kernel_rfl) (by simp) ?_
  refine AllReadyH.cons rfl (fun K hK => ?_) AllReadyH.nil
  (try simp only [List.getElem_toArray, List.getElem_cons_zero, List.getElem_cons_succ])
  go_simp
  refine hK.out _ _ (kr_drew (kr_alloc HK _)) (fun hNew2 => ?_)
  (try (simp only [Act.put, List.setIfInBounds_toArray, List.set_cons_zero, List.set_cons_succ, List.getElem_toArray, List.getElem_cons_zero, List.getElem_cons_succ]))
  refine wpAnyH_done (by kernel_rfl) ?_ _
  clear hNew hNew2 hK K
  have HK1 := kr_drew (kr_swap (kr_new HK [.slice sx m cx, .int .i64 n] 75))
  clear HK
  generalize W.heap.size = g at HK1 ⊢
  generalize (W.alloc _).drew = W1 at HK1 ⊢
  go_wp2_with fail
  have hS1 : ∃ v n', KR w ((D, (putF d i v n').l) :: (g, [.slice sx m cx, .int .i64 n]) :: rows) W1.drew := ⟨(d.f i).1, (d.f i).2, by rw [putF_self]; exact kr_drew HK1⟩
  clear HK1
  refine wp_region_held_drew (S := fun W => ∃ v n', KR w ((D, (putF d i v n').l) :: (g, [.slice sx m cx, .int .i64 n]) :: rows) W) (by kernel_rfl) hS1 (fun hHeld => ?_)
  refine wpAnyH_take (i := 0) (v := ?_) rfl (by kernel_rfl) (by kernel_rfl) (by kernel_rfl) (fun _ _ _ h => h) (Or.inl ⟨by rfl, ?_⟩) (by assumption) ?_
  rotate_left
  · (intro W hSw; (try dsimp only at hSw); obtain ⟨v0, n0, hK0⟩ := hSw; have k1 := range_cell (kr_mem hK0 (List.mem_cons_of_mem _ (List.mem_cons_of_mem _ hp1))) 0 _ rfl; have k2 := range_cell (kr_mem hK0 (List.mem_cons_of_mem _ (List.mem_cons_of_mem _ hp2))) 0 _ rfl; have k3 := range_cell (kr_mem hK0 (List.mem_cons_of_mem _ (List.mem_cons_of_mem _ hp3))) 0 _ rfl; go_simp); (try with_reducible rfl)
  simp only [Act.put, List.setIfInBounds_toArray, List.set_cons_zero, List.set_cons_succ, List.getElem_toArray, List.getElem_cons_zero, List.getElem_cons_succ]
  refine wpAnyH_take (i := 1) (v := ?_) rfl (by kernel_rfl) (by kernel_rfl) (by kernel_rfl) (fun _ _ _ h => h) (Or.inl ⟨by rfl, ?_⟩) (by assumption) ?_
  rotate_left
  · (intro W hSw; (try dsimp only at hSw); obtain ⟨v0, n0, hK0⟩ := hSw; have k1 := range_cell (kr_mem hK0 (List.mem_cons_of_mem _ (List.mem_cons_of_mem _ hp1))) 0 _ rfl; have k2 := range_cell (kr_mem hK0 (List.mem_cons_of_mem _ (List.mem_cons_of_mem _ hp2))) 0 _ rfl; have k3 := range_cell (kr_mem hK0 (List.mem_cons_of_mem _ (List.mem_cons_of_mem _ hp3))) 0 _ rfl; go_simp); (try with_reducible rfl)
  simp only [Act.put, List.setIfInBounds_toArray, List.set_cons_zero, List.set_cons_succ, List.getElem_toArray, List.getElem_cons_zero, List.getElem_cons_succ]
  refine wpAnyH_take (i := 2) (v := ?_) rfl (by kernel_rfl) (by kernel_rfl) (by kernel_rfl) (fun _ _ _ h => h) (Or.inl ⟨by rfl, ?_⟩) (by assumption) ?_
  rotate_left
  · (intro W hSw; (try dsimp only at hSw);  go_simp); (try with_reducible rfl)
  simp only [Act.put, List.setIfInBounds_toArray, List.set_cons_zero, List.set_cons_succ, List.getElem_toArray, List.getElem_cons_zero, List.getElem_cons_succ]
  refine wpAnyH_take (i := 3) (v := ?_) rfl (by kernel_rfl) (by kernel_rfl) (by kernel_rfl) (fun _ _ _ h => h) (Or.inl ⟨by rfl, ?_⟩) (by assumption) ?_
  rotate_left
  · (intro W hSw; (try dsimp only at hSw);  go_simp); (try with_reducible rfl)
  simp only [Act.put, List.setIfInBounds_toArray, List.set_cons_zero, List.set_cons_succ, List.getElem_toArray, List.getElem_cons_zero, List.getElem_cons_succ]
  refine wpAnyH_take (i := 4) (v := ?_) rfl (by kernel_rfl) (by kernel_rfl) (by kernel_rfl) (fun _ _ _ h => h) (Or.inl ⟨by rfl, ?_⟩) (by assumption) ?_
  rotate_left
  · (intro W hSw; (try dsimp only at hSw);  go_simp); (try with_reducible rfl)
  simp only [Act.put, List.setIfInBounds_toArray, List.set_cons_zero, List.set_cons_succ, List.getElem_toArray, List.getElem_cons_zero, List.getElem_cons_succ]
  refine wpAnyH_take (i := 5) (v := ?_) rfl (by kernel_rfl) (by kernel_rfl) (by kernel_rfl) (fun _ _ _ h => h) (Or.inl ⟨by rfl, ?_⟩) (by assumption) ?_
  rotate_left
  · (intro W hSw; (try dsimp only at hSw);  go_simp); (try with_reducible rfl)
  simp only [Act.put, List.setIfInBounds_toArray, List.set_cons_zero, List.set_cons_succ, List.getElem_toArray, List.getElem_cons_zero, List.getElem_cons_succ]
  refine wpAnyH_ready (rs := [6]) (by kernel_rfl) (by simp) ?_
  refine AllReadyH.cons rfl (fun K hK => ?_) AllReadyH.nil
  (try simp only [List.getElem_toArray, List.getElem_cons_zero, List.getElem_cons_succ])
  obtain ⟨v0, n0, hK0⟩ := hHeld
  have k3 := kr_cell hK0 0 rfl _ _ (dk_a (putF d i v0 n0) i hi)
  have f3 := kr_frozen hK0 0 rfl (i * 2) (by rw [dk_len]; omega)
  have k4 := kr_cell hK0 0 rfl _ _ (dk_b (putF d i v0 n0) i hi)
  have f4 := kr_frozen hK0 0 rfl (i * 2 + 1) (by rw [dk_len]; omega)
  have k3w := k3
  have k4w := k4
  have f3w := f3
  have f4w := f4
  rw [World.cell?_drew] at k3w k4w
  rw [World.frozen?_drew] at f3w f4w
  have HF := kr_file hi hK0 (.slice none 0 0) 0
  clear hK0
  go_simp
  refine hK.out _ _ ⟨_, _, HF⟩ (fun hNew => ?_)
  (try (simp only [Act.put, List.setIfInBounds_toArray, List.set_cons_zero, List.set_cons_succ, List.getElem_toArray, List.getElem_cons_zero, List.getElem_cons_succ]))
  refine wpAnyH_done (by kernel_rfl) ?_ _
  clear hNew hK K k3 f3 k4 f4 k3w k4w f3w f4w
  clear hS1
  have HK2 : KR w ((D, (putF d i (.slice none 0 0) 0).l) :: (g, [.slice sx m cx, .int .i64 n]) :: rows) (((W1.setCell ⟨D, i * 2, none⟩ (.slice none 0 0)).setCell ⟨D, i * 2 + 1, none⟩ (.int .i64 0))).drew := HF
  clear HF
  generalize (((W1.setCell ⟨D, i * 2, none⟩ (.slice none 0 0)).setCell ⟨D, i * 2 + 1, none⟩ (.int .i64 0))).drew = W2 at HK2 ⊢
  go_wp2_with fail
  have hS2 : ∃ v n', KR w ((D, (putF (putF d i (.slice none 0 0) 0) j v n').l) :: (g, [.slice sx m cx, .int .i64 n]) :: rows) W2.drew := ⟨((putF d i (.slice none 0 0) 0).f j).1, ((putF d i (.slice none 0 0) 0).f j).2, by rw [putF_self]; exact kr_drew HK2⟩
  clear HK2
  refine wp_region_held_drew (S := fun W => ∃ v n', KR w ((D, (putF (putF d i (.slice none 0 0) 0) j v n').l) :: (g, [.slice sx m cx, .int .i64 n]) :: rows) W) (by kernel_rfl) hS2 (fun hHeld => ?_)
  refine wpAnyH_take (i := 0) (v := ?_) rfl (by kernel_rfl) (by kernel_rfl) (by kernel_rfl) (fun _ _ _ h => h) (Or.inl ⟨by rfl, ?_⟩) (by assumption) ?_
  rotate_left
  · (intro W hSw; (try dsimp only at hSw); obtain ⟨v0, n0, hK0⟩ := hSw; have k1 := range_cell (kr_mem hK0 (List.mem_cons_of_mem _ (List.mem_cons_of_mem _ hp1))) 0 _ rfl; have k2 := range_cell (kr_mem hK0 (List.mem_cons_of_mem _ (List.mem_cons_of_mem _ hp2))) 0 _ rfl; have k3 := range_cell (kr_mem hK0 (List.mem_cons_of_mem _ (List.mem_cons_of_mem _ hp3))) 0 _ rfl; have kx := range_cell (kr_mem hK0 (List.mem_cons_of_mem _ (List.mem_cons_self))) 0 _ rfl; have ky := range_cell (kr_mem hK0 (List.mem_cons_of_mem _ (List.mem_cons_self))) 1 _ rfl; go_simp); (try with_reducible rfl)
  simp only [Act.put, List.setIfInBounds_toArray, List.set_cons_zero, List.set_cons_succ, List.getElem_toArray, List.getElem_cons_zero, List.getElem_cons_succ]
  refine wpAnyH_take (i := 1) (v := ?_) rfl (by kernel_rfl) (by kernel_rfl) (by kernel_rfl) (fun _ _ _ h => h) (Or.inl ⟨by rfl, ?_⟩) (by assumption) ?_
  rotate_left
  · (intro W hSw; (try dsimp only at hSw); obtain ⟨v0, n0, hK0⟩ := hSw; have k1 := range_cell (kr_mem hK0 (List.mem_cons_of_mem _ (List.mem_cons_of_mem _ hp1))) 0 _ rfl; have k2 := range_cell (kr_mem hK0 (List.mem_cons_of_mem _ (List.mem_cons_of_mem _ hp2))) 0 _ rfl; have k3 := range_cell (kr_mem hK0 (List.mem_cons_of_mem _ (List.mem_cons_of_mem _ hp3))) 0 _ rfl; have kx := range_cell (kr_mem hK0 (List.mem_cons_of_mem _ (List.mem_cons_self))) 0 _ rfl; have ky := range_cell (kr_mem hK0 (List.mem_cons_of_mem _ (List.mem_cons_self))) 1 _ rfl; go_simp); (try with_reducible rfl)
  simp only [Act.put, List.setIfInBounds_toArray, List.set_cons_zero, List.set_cons_succ, List.getElem_toArray, List.getElem_cons_zero, List.getElem_cons_succ]
  refine wpAnyH_take (i := 2) (v := ?_) rfl (by kernel_rfl) (by kernel_rfl) (by kernel_rfl) (fun _ _ _ h => h) (Or.inl ⟨by rfl, ?_⟩) (by assumption) ?_
  rotate_left
  · (intro W hSw; (try dsimp only at hSw); obtain ⟨v0, n0, hK0⟩ := hSw; have k1 := range_cell (kr_mem hK0 (List.mem_cons_of_mem _ (List.mem_cons_of_mem _ hp1))) 0 _ rfl; have k2 := range_cell (kr_mem hK0 (List.mem_cons_of_mem _ (List.mem_cons_of_mem _ hp2))) 0 _ rfl; have k3 := range_cell (kr_mem hK0 (List.mem_cons_of_mem _ (List.mem_cons_of_mem _ hp3))) 0 _ rfl; have kx := range_cell (kr_mem hK0 (List.mem_cons_of_mem _ (List.mem_cons_self))) 0 _ rfl; have ky := range_cell (kr_mem hK0 (List.mem_cons_of_mem _ (List.mem_cons_self))) 1 _ rfl; go_simp); (try with_reducible rfl)
  simp only [Act.put, List.setIfInBounds_toArray, List.set_cons_zero, List.set_cons_succ, List.getElem_toArray, List.getElem_cons_zero, List.getElem_cons_succ]
  refine wpAnyH_take (i := 3) (v := ?_) rfl (by kernel_rfl) (by kernel_rfl) (by kernel_rfl) (fun _ _ _ h => h) (Or.inl ⟨by rfl, ?_⟩) (by assumption) ?_
  rotate_left
  · (intro W hSw; (try dsimp only at hSw);  go_simp); (try with_reducible rfl)
  simp only [Act.put, List.setIfInBounds_toArray, List.set_cons_zero, List.set_cons_succ, List.getElem_toArray, List.getElem_cons_zero, List.getElem_cons_succ]
  refine wpAnyH_take (i := 4) (v := ?_) rfl (by kernel_rfl) (by kernel_rfl) (by kernel_rfl) (fun _ _ _ h => h) (Or.inl ⟨by rfl, ?_⟩) (by assumption) ?_
  rotate_left
  · (intro W hSw; (try dsimp only at hSw);  go_simp); (try with_reducible rfl)
  simp only [Act.put, List.setIfInBounds_toArray, List.set_cons_zero, List.set_cons_succ, List.getElem_toArray, List.getElem_cons_zero, List.getElem_cons_succ]
  refine wpAnyH_take (i := 5) (v := ?_) rfl (by kernel_rfl) (by kernel_rfl) (by kernel_rfl) (fun _ _ _ h => h) (Or.inl ⟨by rfl, ?_⟩) (by assumption) ?_
  rotate_left
  · (intro W hSw; (try dsimp only at hSw);  go_simp); (try with_reducible rfl)
  simp only [Act.put, List.setIfInBounds_toArray, List.set_cons_zero, List.set_cons_succ, List.getElem_toArray, List.getElem_cons_zero, List.getElem_cons_succ]
  refine wpAnyH_ready (rs := [6]) (by kernel_rfl) (by simp) ?_
  refine AllReadyH.cons rfl (fun K hK => ?_) AllReadyH.nil
  (try simp only [List.getElem_toArray, List.getElem_cons_zero, List.getElem_cons_succ])
  obtain ⟨v0, n0, hK0⟩ := hHeld
  have k3 := kr_cell hK0 0 rfl _ _ (dk_a (putF (putF d i (.slice none 0 0) 0) j v0 n0) j hj)
  have f3 := kr_frozen hK0 0 rfl (j * 2) (by rw [dk_len]; omega)
  have k4 := kr_cell hK0 0 rfl _ _ (dk_b (putF (putF d i (.slice none 0 0) 0) j v0 n0) j hj)
  have f4 := kr_frozen hK0 0 rfl (j * 2 + 1) (by rw [dk_len]; omega)
  have k3w := k3
  have k4w := k4
  have f3w := f3
  have f4w := f4
  rw [World.cell?_drew] at k3w k4w
  rw [World.frozen?_drew] at f3w f4w
  have HF := kr_file hj hK0 (.slice sx m cx) n
  clear hK0
  go_simp
  refine hK.out _ _ ⟨_, _, HF⟩ (fun hNew => ?_)
  (try (simp only [Act.put, List.setIfInBounds_toArray, List.set_cons_zero, List.set_cons_succ, List.getElem_toArray, List.getElem_cons_zero, List.getElem_cons_succ]))
  refine wpAnyH_done (by kernel_rfl) ?_ _
  clear hNew hK K k3 f3 k4 f4 k3w k4w f3w f4w
  go_wp2
  exact bodyPost_end (results_none rfl _ _ _) rfl ⟨rfl, kr_drop HF⟩
end Go.Proofs.Ytaonaifnaecpiaa.Own
