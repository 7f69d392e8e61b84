/- What dayshift/disk's Sync does with a disk in memory. No conditions beside those in each theorem. -/
import Derived.Test.YtaonaifnaecpiaaDisk7
namespace Go.Proofs.Ytaonaifnaecpiaa.Own
open Go.RowKit
set_option linter.unusedSimpArgs false
theorem kr_perm {w W : World} {rs rs' : List (Nat × List Value)} (h : KR w rs W) (hp : rs.Perm rs') : KR w rs' W :=
  ⟨h.below, fun p hm => h.rows p (hp.mem_iff.2 hm), (hp.pairwise_iff (fun {_ _} h e => h e.symm)).1 h.apart⟩
theorem kr_head {w W : World} {p : Nat × List Value} (l : List (Nat × List Value)) {rs : List (Nat × List Value)} (h : KR w (l ++ p :: rs) W) : KR w (p :: (l ++ rs)) W := kr_perm h List.perm_middle
theorem cnt_f (d : Dk) : (cnt d).f = d.f := by unfold cnt; split <;> rfl
theorem mayD_zero {d : Dk} {k : Nat} (h : mayD d [(k : Int)] = 0) : k < 8 := by
  unfold mayD at h
  split at h
  · cases h
  · rename_i h1
    simp at h1
    omega
/-- A file's number and what it says of the disk behind a sync. -/
def synD (d : Dk) (f : Int) : Dk := chD d [f] (putS (cnt d) f.toNat (match (d.f f.toNat).1 with | .slice _ m _ => m | _ => 0))
theorem sync_k (d : Dk) (D : Nat) (f : Int) (hf : ∀ i, i < 8 → ∃ sx m cx, (d.f i).1 = .slice sx m cx) (hl : d.left ≤ 9223372036854775807) {w W : World} {rs : List (Nat × List Value)} (HK : KR w ((D, d.l) :: rs) W) :
    Calls Try.prog 48 #[.pointer (some ⟨D, 0, none⟩), .int .i64 f] W fun e W' => e = .returned (.int .i64 (chE d [f])) ∧ KR w ((D, (synD d f).l) :: rs) W' := by
  have hC : ∀ (p1 p2 b : Nat) (W1 : World), KR w ((b, [.int .i64 f]) :: (p2, [.int .i64 f]) :: (p1, [.pointer (some ⟨D, 0, none⟩)]) :: (D, d.l) :: rs) W1 →
      Calls Try.prog 66 #[.pointer (some ⟨D, 0, none⟩), .func (.func 67) #[] #[.pointer (some ⟨p1, 0, none⟩), .pointer (some ⟨p2, 0, none⟩)], .slice (some ⟨b, 0, none⟩) 1 1] W1 fun e W' => e = .returned (.int .i64 (chE d [f])) ∧ KR w ((D, (synD d f).l) :: rs) W' := by
    intro p1 p2 b W1 H1
    have H2 := kr_head [(b, [.int .i64 f]), (p2, [.int .i64 f]), (p1, [.pointer (some ⟨D, 0, none⟩)])] H1
    refine (change_sync d D b [f] (by simp) p1 p2 (putS (cnt d) f.toNat (match (d.f f.toNat).1 with | .slice _ m _ => m | _ => 0)) hl H2 (fun W2 H3 j hj => by
      match j, hj with
      | 0, _ => exact kr_cell H3 1 rfl 0 _ rfl) (fun hm hE W2 H3 => ?_)).mono ?_
    · by_cases hk : 0 ≤ f ∧ f < 8
      · obtain ⟨sx, m, cx, h1⟩ := hf f.toNat (by omega)
        have hft : ((f.toNat : Nat) : Int) = f := by omega
        rw [h1]
        exact sync1_k (cnt d) D p1 p2 f.toNat (by omega) m sx cx (by rw [cnt_f]; exact h1) H3 (by simp) (by rw [hft]; simp)
      · exact absurd (mayD_out d f (by omega)) (by rw [hm]; omega)
    · rintro e w' ⟨rfl, H3⟩
      exact ⟨rfl, kr_drop (kr_drop (kr_drop H3))⟩
  clear hf
  go_enter Try.func48, Try.ntmps48
  go_wp2_with (go_at_call 66; have H1 := kr_new (kr_new (kr_new HK [.pointer (some ⟨D, 0, none⟩)] 42) [.int .i64 f] 3) [.int .i64 f] 3; simp only [World.size_alloc] at H1; refine (hC _ _ _ _ H1).mono ?_; rintro e w' ⟨rfl, HK2⟩)
  go_ret
  exact ⟨rfl, HK2⟩
end Go.Proofs.Ytaonaifnaecpiaa.Own
