/- What dayshift/disk's Rename does with a disk in memory. No conditions beside those in each theorem. -/
import Derived.Test.YtaonaifnaecpiaaDisk10
namespace Go.Proofs.Ytaonaifnaecpiaa.Own
open Go.RowKit
set_option linter.unusedSimpArgs false
theorem mayD_out2 (d : Dk) (f t : Int) (hf : ¬ ((0 ≤ f ∧ f < 8) ∧ (0 ≤ t ∧ t < 8))) : mayD d [f, t] = 1 := by
  unfold mayD
  rw [if_pos]
  by_cases h : 0 ≤ f ∧ f < 8
  · exact ⟨t, by simp, by omega⟩
  · exact ⟨f, by simp, by omega⟩
/-- A disk behind a rename. -/
def renD (d : Dk) (f t : Int) : Dk := chD d [f, t] (putF (putF (cnt d) f.toNat (.slice none 0 0) 0) t.toNat (d.f f.toNat).1 (d.f f.toNat).2)
theorem rename_k (d : Dk) (D : Nat) (f t : Int) (hf : ∀ i, i < 8 → ∃ sx m cx, (d.f i).1 = .slice sx m cx) (hl : d.left ≤ 9223372036854775807) {w W : World} {rs : List (Nat × List Value)} (HK : KR w ((D, d.l) :: rs) W) :
    Calls Try.prog 65 #[.pointer (some ⟨D, 0, none⟩), .int .i64 f, .int .i64 t] W fun e W' => e = .returned (.int .i64 (chE d [f, t])) ∧ KR w ((D, (renD d f t).l) :: rs) W' := by
  have hC : ∀ (p1 p2 p3 b : Nat) (W1 : World), KR w ((b, [.int .i64 f, .int .i64 t]) :: (p3, [.int .i64 t]) :: (p2, [.int .i64 f]) :: (p1, [.pointer (some ⟨D, 0, none⟩)]) :: (D, d.l) :: rs) W1 →
      Calls Try.prog 66 #[.pointer (some ⟨D, 0, none⟩), .func (.func 69) #[] #[.pointer (some ⟨p1, 0, none⟩), .pointer (some ⟨p2, 0, none⟩), .pointer (some ⟨p3, 0, none⟩)], .slice (some ⟨b, 0, none⟩) 2 2] W1 fun e W' => e = .returned (.int .i64 (chE d [f, t])) ∧ KR w ((D, (renD d f t).l) :: rs) W' := by
    intro p1 p2 p3 b W1 H1
    have H2 := kr_head [(b, [.int .i64 f, .int .i64 t]), (p3, [.int .i64 t]), (p2, [.int .i64 f]), (p1, [.pointer (some ⟨D, 0, none⟩)])] H1
    refine (change_rename d D b [f, t] (by simp) p1 p2 p3 (putF (putF (cnt d) f.toNat (.slice none 0 0) 0) t.toNat (d.f f.toNat).1 (d.f f.toNat).2) hl H2 (fun W2 H3 j hj => by
      match j, hj with
      | 0, _ => exact kr_cell H3 1 rfl 0 _ rfl
      | 1, _ => exact kr_cell H3 1 rfl 1 _ rfl) (fun hm hE W2 H3 => ?_)).mono ?_
    · by_cases hk : (0 ≤ f ∧ f < 8) ∧ (0 ≤ t ∧ t < 8)
      · obtain ⟨sx, m, cx, h1⟩ := hf f.toNat (by omega)
        have hft : ((f.toNat : Nat) : Int) = f := by omega
        have htt : ((t.toNat : Nat) : Int) = t := by omega
        rw [h1]
        exact rename1_k (cnt d) D p1 p2 p3 f.toNat t.toNat (by omega) (by omega) sx m cx (d.f f.toNat).2 (by rw [cnt_f, ← h1]) H3 (by simp) (by rw [hft]; simp) (by rw [htt]; simp)
      · exact absurd (mayD_out2 d f t hk) (by rw [hm]; omega)
    · rintro e w' ⟨rfl, H3⟩
      exact ⟨rfl, kr_drop (kr_drop (kr_drop (kr_drop H3)))⟩
  clear hf
  go_enter Try.func65, Try.ntmps65
  go_wp2_with (go_at_call 66; have H1 := kr_new (kr_new (kr_new (kr_new HK [.pointer (some ⟨D, 0, none⟩)] 42) [.int .i64 f] 3) [.int .i64 t] 3) [.int .i64 f, .int .i64 t] 3; simp only [World.size_alloc] at H1; refine (hC _ _ _ _ _ H1).mono ?_; rintro e w' ⟨rfl, HK2⟩)
  go_ret
  exact ⟨rfl, HK2⟩
theorem sync_nil (f : Int) {w W : World} {rs : List (Nat × List Value)} (HK : KR w rs W) : Calls Try.prog 48 #[.pointer none, .int .i64 f] W fun e W' => e = .returned (.int .i64 2) ∧ KR w rs W' := by
  have hC : ∀ (fn v : Value) (b n : Nat) (W1 : World), KR w rs W1 → Calls Try.prog 66 #[.pointer none, fn, .slice (some ⟨b, 0, none⟩) n n] W1 fun e W' => e = .returned (.int .i64 2) ∧ KR w rs W' := by
    intro fn v b n W1 H1
    go_enter Try.func66, Try.ntmps66
    go_wp2_with (go_at_call 55; refine (may_nil _ _ _ _).mono ?_; rintro e w' ⟨rfl, rfl⟩)
    all_goals go_ret
    all_goals exact ⟨rfl, H1⟩
  go_enter Try.func48, Try.ntmps48
  go_wp2_with (go_at_call 66; have H1 := kr_alloc (kr_alloc (kr_alloc HK (.cells #[.pointer none] 42)) (.cells #[.int .i64 f] 3)) (.cells #[.int .i64 f] 3); refine (hC _ undef _ _ _ H1).mono ?_; rintro e w' ⟨rfl, HK2⟩)
  go_ret
  exact ⟨rfl, HK2⟩
end Go.Proofs.Ytaonaifnaecpiaa.Own
