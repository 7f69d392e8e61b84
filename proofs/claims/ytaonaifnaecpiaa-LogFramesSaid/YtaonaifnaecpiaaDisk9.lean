/- What dayshift/disk's Clear does with a disk in memory. No conditions beside those in each theorem. -/
import Derived.Test.YtaonaifnaecpiaaDisk8
namespace Go.Proofs.Ytaonaifnaecpiaa.Own
open Go.RowKit
set_option linter.unusedSimpArgs false
/-- A disk with another file at a place. -/
def putF (d : Dk) (k : Nat) (v : Value) (n : Int) : Dk := { d with f := upd d.f k (v, n) }
theorem putF_self (d : Dk) (k : Nat) : putF d k (d.f k).1 (d.f k).2 = d := by
  obtain ⟨f, left, dead⟩ := d
  simp only [putF, Dk.mk.injEq, and_true]
  funext j
  unfold upd
  split
  · rename_i h; rw [h]
  · rfl
theorem putF_set (d : Dk) (k : Nat) (v0 v : Value) (n0 n : Int) : ({ ({ putF d k v0 n0 with f := upd (putF d k v0 n0).f k (v, ((putF d k v0 n0).f k).2) } : Dk) with f := upd ({ putF d k v0 n0 with f := upd (putF d k v0 n0).f k (v, ((putF d k v0 n0).f k).2) } : Dk).f k ((({ putF d k v0 n0 with f := upd (putF d k v0 n0).f k (v, ((putF d k v0 n0).f k).2) } : Dk).f k).1, n) } : Dk) = putF d k v n := by
  obtain ⟨f, left, dead⟩ := d
  simp only [putF, Dk.mk.injEq, and_true]
  funext j
  unfold upd
  split <;> simp_all
theorem kr_file {w W : World} {rows : List (Nat × List Value)} {d : Dk} {D k : Nat} {v0 : Value} {n0 : Int} (hk : k < 8) (h : KR w ((D, (putF d k v0 n0).l) :: rows) W) (v : Value) (n : Int) : KR w ((D, (putF d k v n).l) :: rows) ((W.setCell ⟨D, k * 2, none⟩ v).setCell ⟨D, k * 2 + 1, none⟩ (.int .i64 n)) := by
  have H1 := kr_fset h 0 rfl (k * 2) (by rw [dk_len]; omega) v _ (dk_setA (putF d k v0 n0) k hk v)
  have H2 := kr_fset H1 0 rfl (k * 2 + 1) (by rw [dk_len]; omega) (.int .i64 n) _ (dk_setB _ k hk n)
  rw [putF_set] at H2
  simp only [List.set_cons_zero] at H2
  exact H2
set_option maxHeartbeats 4000000 in
theorem clear1_k (d : Dk) (D p1 p2 : Nat) (k : Nat) (hk : k < 8) {w W : World} {rows : List (Nat × List Value)} (HK : KR w ((D, d.l) :: rows) W) (hp1 : (p1, [.pointer (some ⟨D, 0, none⟩)]) ∈ rows) (hp2 : (p2, [.int .i64 (k : Int)]) ∈ rows) :
    Calls Try.prog 68 #[.pointer (some ⟨p1, 0, none⟩), .pointer (some ⟨p2, 0, none⟩)] W fun e W' => e = .returned (.tuple #[]) ∧ KR w ((D, (putF d k (.slice none 0 0) 0).l) :: rows) W' := by
  have hS0 : ∃ v n, KR w ((D, (putF d k v n).l) :: rows) W.drew := ⟨(d.f k).1, (d.f k).2, by rw [putF_self]; exact kr_drew HK⟩
  have hk2 : (k : Int) < 8 := by omega
  clear HK
  go_enter Try.func68, Try.ntmps68
  go_wp2_with fail
  refine wp_region_held_drew (S := fun W => ∃ v n, KR w ((D, (putF d k v n).l) :: rows) W) (by kernel_rfl) hS0 (fun hHeld => ?_)
  refine wpAnyH_take (i := 0) (v := ?_) rfl (by kernel_rfl) (by kernel_rfl) (by kernel_rfl) (fun _ _ _ h => h) (Or.inl ⟨by rfl, ?_⟩) (by assumption) ?_
  rotate_left
  · (intro W hSw; (try dsimp only at hSw); obtain ⟨v0, n0, hK0⟩ := hSw; have k1 := range_cell (kr_mem hK0 (List.mem_cons_of_mem _ hp1)) 0 _ rfl; have k2 := range_cell (kr_mem hK0 (List.mem_cons_of_mem _ hp2)) 0 _ rfl; go_simp); (try with_reducible rfl)
  simp only [Act.put, List.setIfInBounds_toArray, List.set_cons_zero, List.set_cons_succ, List.getElem_toArray, List.getElem_cons_zero, List.getElem_cons_succ]
  refine wpAnyH_take (i := 1) (v := ?_) rfl (by kernel_rfl) (by kernel_rfl) (by kernel_rfl) (fun _ _ _ h => h) (Or.inl ⟨by rfl, ?_⟩) (by assumption) ?_
  rotate_left
  · (intro W hSw; (try dsimp only at hSw); obtain ⟨v0, n0, hK0⟩ := hSw; have k1 := range_cell (kr_mem hK0 (List.mem_cons_of_mem _ hp1)) 0 _ rfl; have k2 := range_cell (kr_mem hK0 (List.mem_cons_of_mem _ hp2)) 0 _ rfl; go_simp); (try with_reducible rfl)
  simp only [Act.put, List.setIfInBounds_toArray, List.set_cons_zero, List.set_cons_succ, List.getElem_toArray, List.getElem_cons_zero, List.getElem_cons_succ]
  refine wpAnyH_take (i := 2) (v := ?_) rfl (by kernel_rfl) (by kernel_rfl) (by kernel_rfl) (fun _ _ _ h => h) (Or.inl ⟨by rfl, ?_⟩) (by assumption) ?_
  rotate_left
  · (intro W hSw; (try dsimp only at hSw);  go_simp); (try with_reducible rfl)
  simp only [Act.put, List.setIfInBounds_toArray, List.set_cons_zero, List.set_cons_succ, List.getElem_toArray, List.getElem_cons_zero, List.getElem_cons_succ]
  refine wpAnyH_take (i := 3) (v := ?_) rfl (by kernel_rfl) (by kernel_rfl) (by kernel_rfl) (fun _ _ _ h => h) (Or.inl ⟨by rfl, ?_⟩) (by assumption) ?_
  rotate_left
  · (intro W hSw; (try dsimp only at hSw);  go_simp); (try with_reducible rfl)
  simp only [Act.put, List.setIfInBounds_toArray, List.set_cons_zero, List.set_cons_succ, List.getElem_toArray, List.getElem_cons_zero, List.getElem_cons_succ]
  refine wpAnyH_take (i := 4) (v := ?_) rfl (by kernel_rfl) (by kernel_rfl) (by kernel_rfl) (fun _ _ _ h => h) (Or.inl ⟨by rfl, ?_⟩) (by assumption) ?_
  rotate_left
  · (intro W hSw; (try dsimp only at hSw);  go_simp); (try with_reducible rfl)
  simp only [Act.put, List.setIfInBounds_toArray, List.set_cons_zero, List.set_cons_succ, List.getElem_toArray, List.getElem_cons_zero, List.getElem_cons_succ]
  refine wpAnyH_take (i := 5) (v := ?_) rfl (by kernel_rfl) (by kernel_rfl) (by kernel_rfl) (fun _ _ _ h => h) (Or.inl ⟨by rfl, ?_⟩) (by assumption) ?_
  rotate_left
  · (intro W hSw; (try dsimp only at hSw);  go_simp); (try with_reducible rfl)
  simp only [Act.put, List.setIfInBounds_toArray, List.set_cons_zero, List.set_cons_succ, List.getElem_toArray, List.getElem_cons_zero, List.getElem_cons_succ]
  refine wpAnyH_ready (rs := [6]) (by kernel_rfl) (by simp) ?_
  refine AllReadyH.cons rfl (fun K hK => ?_) AllReadyH.nil
  (try simp only [List.getElem_toArray, List.getElem_cons_zero, List.getElem_cons_succ])
  obtain ⟨v0, n0, hK0⟩ := hHeld
  have k3 := kr_cell hK0 0 rfl _ _ (dk_a (putF d k v0 n0) k hk)
  have f3 := kr_frozen hK0 0 rfl (k * 2) (by rw [dk_len]; omega)
  have k4 := kr_cell hK0 0 rfl _ _ (dk_b (putF d k v0 n0) k hk)
  have f4 := kr_frozen hK0 0 rfl (k * 2 + 1) (by rw [dk_len]; omega)
  have k3w := k3
  have k4w := k4
  have f3w := f3
  have f4w := f4
  rw [World.cell?_drew] at k3w k4w
  rw [World.frozen?_drew] at f3w f4w
  have HF := kr_file hk hK0 (.slice none 0 0) 0
  clear hS0 hK0
  go_simp
  refine hK.out _ _ ⟨_, _, HF⟩ (fun hNew => ?_)
  (try (simp only [Act.put, List.setIfInBounds_toArray, List.set_cons_zero, List.set_cons_succ, List.getElem_toArray, List.getElem_cons_zero, List.getElem_cons_succ]))
  refine wpAnyH_done (by kernel_rfl) ?_ _
  clear hNew hK K
  go_wp2
  exact bodyPost_end (results_none rfl _ _ _) rfl ⟨rfl, HF⟩
/-- A disk behind a clear. -/
def clrD (d : Dk) (f : Int) : Dk := chD d [f] (putF (cnt d) f.toNat (.slice none 0 0) 0)
theorem clear_k (d : Dk) (D : Nat) (f : Int) (hl : d.left ≤ 9223372036854775807) {w W : World} {rs : List (Nat × List Value)} (HK : KR w ((D, d.l) :: rs) W) :
    Calls Try.prog 49 #[.pointer (some ⟨D, 0, none⟩), .int .i64 f] W fun e W' => e = .returned (.int .i64 (chE d [f])) ∧ KR w ((D, (clrD d f).l) :: rs) W' := by
  have hC : ∀ (p1 p2 b : Nat) (W1 : World), KR w ((b, [.int .i64 f]) :: (p2, [.int .i64 f]) :: (p1, [.pointer (some ⟨D, 0, none⟩)]) :: (D, d.l) :: rs) W1 →
      Calls Try.prog 66 #[.pointer (some ⟨D, 0, none⟩), .func (.func 68) #[] #[.pointer (some ⟨p1, 0, none⟩), .pointer (some ⟨p2, 0, none⟩)], .slice (some ⟨b, 0, none⟩) 1 1] W1 fun e W' => e = .returned (.int .i64 (chE d [f])) ∧ KR w ((D, (clrD d f).l) :: rs) W' := by
    intro p1 p2 b W1 H1
    have H2 := kr_head [(b, [.int .i64 f]), (p2, [.int .i64 f]), (p1, [.pointer (some ⟨D, 0, none⟩)])] H1
    refine (change_clear d D b [f] (by simp) p1 p2 (putF (cnt d) f.toNat (.slice none 0 0) 0) hl H2 (fun W2 H3 j hj => by
      match j, hj with
      | 0, _ => exact kr_cell H3 1 rfl 0 _ rfl) (fun hm hE W2 H3 => ?_)).mono ?_
    · by_cases hk : 0 ≤ f ∧ f < 8
      · have hft : ((f.toNat : Nat) : Int) = f := by omega
        exact clear1_k (cnt d) D p1 p2 f.toNat (by omega) H3 (by simp) (by rw [hft]; simp)
      · exact absurd (mayD_out d f (by omega)) (by rw [hm]; omega)
    · rintro e w' ⟨rfl, H3⟩
      exact ⟨rfl, kr_drop (kr_drop (kr_drop H3))⟩
  go_enter Try.func49, Try.ntmps49
  go_wp2_with (go_at_call 66; have H1 := kr_new (kr_new (kr_new HK [.pointer (some ⟨D, 0, none⟩)] 42) [.int .i64 f] 3) [.int .i64 f] 3; simp only [World.size_alloc] at H1; refine (hC _ _ _ _ H1).mono ?_; rintro e w' ⟨rfl, HK2⟩)
  go_ret
  exact ⟨rfl, HK2⟩
end Go.Proofs.Ytaonaifnaecpiaa.Own
