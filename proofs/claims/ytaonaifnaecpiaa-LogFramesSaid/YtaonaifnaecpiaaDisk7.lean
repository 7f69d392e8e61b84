/- What the closure of dayshift/disk's Sync does with a disk in memory. No conditions beside those in each theorem. -/
import Derived.Test.YtaonaifnaecpiaaDisk6
namespace Go.Proofs.Ytaonaifnaecpiaa.Own
open Go.RowKit
set_option linter.unusedSimpArgs false
/-- A file's number of safe bytes. -/
def putS (d : Dk) (k : Nat) (n : Int) : Dk := { d with f := upd d.f k ((d.f k).1, n) }
theorem putS_a (d : Dk) (k : Nat) (n : Int) : ((putS d k n).f k).1 = (d.f k).1 := by simp [putS, upd]
theorem putS_self (d : Dk) (k : Nat) : putS d k (d.f k).2 = d := by
  obtain ⟨f, left, dead⟩ := d
  simp only [putS, Dk.mk.injEq, and_true]
  funext j
  unfold upd
  split
  · rename_i h; rw [h]
  · rfl
theorem putS_two (d : Dk) (k : Nat) (n m : Int) : ({ putS d k n with f := upd (putS d k n).f k (((putS d k n).f k).1, m) } : Dk) = putS d k m := by
  obtain ⟨f, left, dead⟩ := d
  simp only [putS, Dk.mk.injEq, and_true]
  funext j
  unfold upd
  split <;> simp_all
set_option maxHeartbeats 4000000 in
theorem sync1_k (d : Dk) (D p1 p2 : Nat) (k : Nat) (hk : k < 8) (m : Nat) (sx : Option Addr) (cx : Nat) (h1 : (d.f k).1 = .slice sx m cx) {w W : World} {rows : List (Nat × List Value)} (HK : KR w ((D, d.l) :: rows) W) (hp1 : (p1, [.pointer (some ⟨D, 0, none⟩)]) ∈ rows) (hp2 : (p2, [.int .i64 (k : Int)]) ∈ rows) :
    Calls Try.prog 67 #[.pointer (some ⟨p1, 0, none⟩), .pointer (some ⟨p2, 0, none⟩)] W fun e W' => e = .returned (.tuple #[]) ∧ KR w ((D, (putS d k m).l) :: rows) W' := by
  have hS0 : ∃ n, KR w ((D, (putS d k n).l) :: rows) W.drew := ⟨(d.f k).2, by rw [putS_self]; exact kr_drew HK⟩
  have hk2 : (k : Int) < 8 := by omega
  clear HK
  go_enter Try.func67, Try.ntmps67
  go_wp2_with fail
  refine wp_region_held_drew (S := fun W => ∃ n, KR w ((D, (putS d k n).l) :: rows) W) (by kernel_rfl) hS0 (fun hHeld => ?_)
  refine wpAnyH_take (i := 0) (v := ?_) rfl (by kernel_rfl) (by kernel_rfl) (by kernel_rfl) (fun _ _ _ h => h) (Or.inl ⟨by rfl, ?_⟩) (by assumption) ?_
  rotate_left
  · (intro W hSw; (try dsimp only at hSw); obtain ⟨n0, hK0⟩ := hSw; have k1 := range_cell (kr_mem hK0 (List.mem_cons_of_mem _ hp1)) 0 _ rfl; have k2 := range_cell (kr_mem hK0 (List.mem_cons_of_mem _ hp2)) 0 _ rfl; have k3 := kr_cell hK0 0 rfl _ _ (dk_a (putS d k n0) k hk); rw [putS_a, h1] at k3; go_simp); (try with_reducible rfl)
  simp only [Act.put, List.setIfInBounds_toArray, List.set_cons_zero, List.set_cons_succ, List.getElem_toArray, List.getElem_cons_zero, List.getElem_cons_succ]
  refine wpAnyH_take (i := 1) (v := ?_) rfl (by kernel_rfl) (by kernel_rfl) (by kernel_rfl) (fun _ _ _ h => h) (Or.inl ⟨by rfl, ?_⟩) (by assumption) ?_
  rotate_left
  · (intro W hSw; (try dsimp only at hSw); obtain ⟨n0, hK0⟩ := hSw; have k1 := range_cell (kr_mem hK0 (List.mem_cons_of_mem _ hp1)) 0 _ rfl; have k2 := range_cell (kr_mem hK0 (List.mem_cons_of_mem _ hp2)) 0 _ rfl; have k3 := kr_cell hK0 0 rfl _ _ (dk_a (putS d k n0) k hk); rw [putS_a, h1] at k3; go_simp); (try with_reducible rfl)
  simp only [Act.put, List.setIfInBounds_toArray, List.set_cons_zero, List.set_cons_succ, List.getElem_toArray, List.getElem_cons_zero, List.getElem_cons_succ]
  refine wpAnyH_take (i := 2) (v := ?_) rfl (by kernel_rfl) (by kernel_rfl) (by kernel_rfl) (fun _ _ _ h => h) (Or.inl ⟨by rfl, ?_⟩) (by assumption) ?_
  rotate_left
  · (intro W hSw; (try dsimp only at hSw); obtain ⟨n0, hK0⟩ := hSw; have k1 := range_cell (kr_mem hK0 (List.mem_cons_of_mem _ hp1)) 0 _ rfl; have k2 := range_cell (kr_mem hK0 (List.mem_cons_of_mem _ hp2)) 0 _ rfl; have k3 := kr_cell hK0 0 rfl _ _ (dk_a (putS d k n0) k hk); rw [putS_a, h1] at k3; go_simp); (try with_reducible rfl)
  simp only [Act.put, List.setIfInBounds_toArray, List.set_cons_zero, List.set_cons_succ, List.getElem_toArray, List.getElem_cons_zero, List.getElem_cons_succ]
  refine wpAnyH_take (i := 3) (v := ?_) rfl (by kernel_rfl) (by kernel_rfl) (by kernel_rfl) (fun _ _ _ h => h) (Or.inl ⟨by rfl, ?_⟩) (by assumption) ?_
  rotate_left
  · (intro W hSw; (try dsimp only at hSw); obtain ⟨n0, hK0⟩ := hSw; have k1 := range_cell (kr_mem hK0 (List.mem_cons_of_mem _ hp1)) 0 _ rfl; have k2 := range_cell (kr_mem hK0 (List.mem_cons_of_mem _ hp2)) 0 _ rfl; have k3 := kr_cell hK0 0 rfl _ _ (dk_a (putS d k n0) k hk); rw [putS_a, h1] at k3; go_simp); (try with_reducible rfl)
  simp only [Act.put, List.setIfInBounds_toArray, List.set_cons_zero, List.set_cons_succ, List.getElem_toArray, List.getElem_cons_zero, List.getElem_cons_succ]
  refine wpAnyH_take (i := 4) (v := ?_) rfl (by kernel_rfl) (by kernel_rfl) (by kernel_rfl) (fun _ _ _ h => h) (Or.inl ⟨by rfl, ?_⟩) (by assumption) ?_
  rotate_left
  · (intro W hSw; (try dsimp only at hSw);  go_simp); (try with_reducible rfl)
  simp only [Act.put, List.setIfInBounds_toArray, List.set_cons_zero, List.set_cons_succ, List.getElem_toArray, List.getElem_cons_zero, List.getElem_cons_succ]
  refine wpAnyH_take (i := 5) (v := ?_) rfl (by kernel_rfl) (by kernel_rfl) (by kernel_rfl) (fun _ _ _ h => h) (Or.inl ⟨by rfl, ?_⟩) (by assumption) ?_
  rotate_left
  · (intro W hSw; (try dsimp only at hSw);  go_simp); (try with_reducible rfl)
  simp only [Act.put, List.setIfInBounds_toArray, List.set_cons_zero, List.set_cons_succ, List.getElem_toArray, List.getElem_cons_zero, List.getElem_cons_succ]
  refine wpAnyH_take (i := 6) (v := ?_) rfl (by kernel_rfl) (by kernel_rfl) (by kernel_rfl) (fun _ _ _ h => h) (Or.inl ⟨by rfl, ?_⟩) (by assumption) ?_
  rotate_left
  · (intro W hSw; (try dsimp only at hSw);  go_simp); (try with_reducible rfl)
  simp only [Act.put, List.setIfInBounds_toArray, List.set_cons_zero, List.set_cons_succ, List.getElem_toArray, List.getElem_cons_zero, List.getElem_cons_succ]
  refine wpAnyH_take (i := 7) (v := ?_) rfl (by kernel_rfl) (by kernel_rfl) (by kernel_rfl) (fun _ _ _ h => h) (Or.inl ⟨by rfl, ?_⟩) (by assumption) ?_
  rotate_left
  · (intro W hSw; (try dsimp only at hSw);  go_simp); (try with_reducible rfl)
  simp only [Act.put, List.setIfInBounds_toArray, List.set_cons_zero, List.set_cons_succ, List.getElem_toArray, List.getElem_cons_zero, List.getElem_cons_succ]
  refine wpAnyH_take (i := 8) (v := ?_) rfl (by kernel_rfl) (by kernel_rfl) (by kernel_rfl) (fun _ _ _ h => h) (Or.inl ⟨by rfl, ?_⟩) (by assumption) ?_
  rotate_left
  · (intro W hSw; (try dsimp only at hSw); obtain ⟨n0, hK0⟩ := hSw; have k1 := range_cell (kr_mem hK0 (List.mem_cons_of_mem _ hp1)) 0 _ rfl; have k2 := range_cell (kr_mem hK0 (List.mem_cons_of_mem _ hp2)) 0 _ rfl; have k3 := kr_cell hK0 0 rfl _ _ (dk_a (putS d k n0) k hk); rw [putS_a, h1] at k3; go_simp); (try with_reducible rfl)
  simp only [Act.put, List.setIfInBounds_toArray, List.set_cons_zero, List.set_cons_succ, List.getElem_toArray, List.getElem_cons_zero, List.getElem_cons_succ]
  refine wpAnyH_take (i := 9) (v := ?_) rfl (by kernel_rfl) (by kernel_rfl) (by kernel_rfl) (fun _ _ _ h => h) (Or.inl ⟨by rfl, ?_⟩) (by assumption) ?_
  rotate_left
  · (intro W hSw; (try dsimp only at hSw);  go_simp); (try with_reducible rfl)
  simp only [Act.put, List.setIfInBounds_toArray, List.set_cons_zero, List.set_cons_succ, List.getElem_toArray, List.getElem_cons_zero, List.getElem_cons_succ]
  refine wpAnyH_take (i := 10) (v := ?_) rfl (by kernel_rfl) (by kernel_rfl) (by kernel_rfl) (fun _ _ _ h => h) (Or.inl ⟨by rfl, ?_⟩) (by assumption) ?_
  rotate_left
  · (intro W hSw; (try dsimp only at hSw);  go_simp); (try with_reducible rfl)
  simp only [Act.put, List.setIfInBounds_toArray, List.set_cons_zero, List.set_cons_succ, List.getElem_toArray, List.getElem_cons_zero, List.getElem_cons_succ]
  refine wpAnyH_take (i := 11) (v := ?_) rfl (by kernel_rfl) (by kernel_rfl) (by kernel_rfl) (fun _ _ _ h => h) (Or.inl ⟨by rfl, ?_⟩) (by assumption) ?_
  rotate_left
  · (intro W hSw; (try dsimp only at hSw);  go_simp); (try with_reducible rfl)
  simp only [Act.put, List.setIfInBounds_toArray, List.set_cons_zero, List.set_cons_succ, List.getElem_toArray, List.getElem_cons_zero, List.getElem_cons_succ]
  refine wpAnyH_take (i := 12) (v := ?_) rfl (by kernel_rfl) (by kernel_rfl) (by kernel_rfl) (fun _ _ _ h => h) (Or.inl ⟨by rfl, ?_⟩) (by assumption) ?_
  rotate_left
  · (intro W hSw; (try dsimp only at hSw);  go_simp); (try with_reducible rfl)
  simp only [Act.put, List.setIfInBounds_toArray, List.set_cons_zero, List.set_cons_succ, List.getElem_toArray, List.getElem_cons_zero, List.getElem_cons_succ]
  refine wpAnyH_take (i := 13) (v := ?_) rfl (by kernel_rfl) (by kernel_rfl) (by kernel_rfl) (fun _ _ _ h => h) (Or.inl ⟨by rfl, ?_⟩) (by assumption) ?_
  rotate_left
  · (intro W hSw; (try dsimp only at hSw);  go_simp); (try with_reducible rfl)
  simp only [Act.put, List.setIfInBounds_toArray, List.set_cons_zero, List.set_cons_succ, List.getElem_toArray, List.getElem_cons_zero, List.getElem_cons_succ]
  refine wpAnyH_ready (rs := [14]) (by kernel_rfl) (by simp) ?_
  refine AllReadyH.cons rfl (fun K hK => ?_) AllReadyH.nil
  (try simp only [List.getElem_toArray, List.getElem_cons_zero, List.getElem_cons_succ])
  obtain ⟨n0, hK0⟩ := hHeld
  have k4 := kr_cell hK0 0 rfl _ _ (dk_b (putS d k n0) k hk)
  have f4 := kr_frozen hK0 0 rfl (k * 2 + 1) (by rw [dk_len]; omega)
  have HF := kr_fset hK0 0 rfl (k * 2 + 1) (by rw [dk_len]; omega) (.int .i64 (m : Int)) _ (dk_setB (putS d k n0) k hk m)
  rw [putS_two] at HF
  simp only [List.set_cons_zero] at HF
  clear hS0 hK0
  go_simp
  refine hK.out _ _ ⟨m, HF⟩ (fun hNew => ?_)
  (try (simp only [Act.put, List.setIfInBounds_toArray, List.set_cons_zero, List.set_cons_succ, List.getElem_toArray, List.getElem_cons_zero, List.getElem_cons_succ]))
  refine wpAnyH_done (by kernel_rfl) ?_ _
  clear hNew hK K
  go_wp2
  exact bodyPost_end (results_none rfl _ _ _) rfl ⟨rfl, HF⟩
end Go.Proofs.Ytaonaifnaecpiaa.Own
