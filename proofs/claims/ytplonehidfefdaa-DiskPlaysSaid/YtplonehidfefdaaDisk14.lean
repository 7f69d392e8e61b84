/- The fixed calls of dayshiftlaw03: they come out as they must. No conditions beside those in each theorem. -/
import Derived.Test.YtplonehidfefdaaDisk13
namespace Go.Proofs.Ytplonehidfefdaa.Own
open Go.RowKit
set_option linter.unusedSimpArgs false
theorem kd_read (g : Nat) (n s : Nat) (l : List Int) (bs : List Int) (hb : bs.length = n) (hl : (bc l).take n = bc bs) (hn : n ≤ l.length) (h2 : n ≤ 2000000) (D : Nat) {w W : World} {rs : List (Nat × List Value)} (HK : KR w ((D, (kd (.slice (some ⟨g, 0, none⟩) n n) s).l) :: (g, bc l) :: rs) W) :
    Calls Try.prog 14 #[.pointer (some ⟨D, 0, none⟩), .int .i64 0] W fun e W' => ∃ g', e = .returned (.tuple #[.slice (some ⟨g', 0, none⟩) n n, .int .i64 0]) ∧ KR w ((g', bc bs) :: (D, (kd (.slice (some ⟨g, 0, none⟩) n n) s).l) :: (g, bc l) :: rs) W' := by
  subst hb
  exact read_k _ D 0 (by omega) bs h2 HK (.inr ⟨g, bs.length, bc l, rfl, List.mem_cons_self, Nat.le_refl _, by rw [bc_len]; exact hn, hl⟩)
theorem kd_safe (v : Value) (n : Int) (D : Nat) {w W : World} {rs : List (Nat × List Value)} (HK : KR w ((D, (kd v n).l) :: rs) W) :
    Calls Try.prog 15 #[.pointer (some ⟨D, 0, none⟩), .int .i64 0] W fun e W' => e = .returned (.int .i64 n) ∧ W = W' := safe_k (kd v n) D 0 (by omega) HK
set_option maxHeartbeats 1000000 in
theorem known_k {w W : World} {rs : List (Nat × List Value)} (HK : KR w rs W) : Calls Try.prog 11 #[] W fun e W' => e = .returned (.bool true) ∧ KR w rs W' := by
  have kc := fun (w : World) (C : Array Value) (n c : Nat) => Lib.run_convert_bytes_const (P := Try.prog) w 22 5 C n c Try.underlying22 Try.underlying5
  go_enter Try.func11, Try.ntmps11
  go_wp2_with (go_at_call 8; refine (new_k HK).mono ?_; rintro e w' ⟨D, rfl, HK2⟩; rw [← kd_dk0] at HK2; clear HK; have HK := HK2; clear HK2)
  go_wp2_with (go_at_call 9; refine (kd_append (.slice none 0 0) 0 D [] [97, 98] (by decide) (kr_alloc HK _) (.inl ⟨rfl, rfl⟩) _ 2 (src_const _ [97, 98] _ _)).mono ?_; rintro e w2 ⟨g, rfl, HK2⟩; clear HK; have HK : KR w ((D, (kd (.slice (some ⟨g, 0, none⟩) 2 2) 0).l) :: (g, bc [97, 98]) :: rs) w2 := HK2; clear HK2)
  go_wp2_with (go_at_call 10; refine (kd_sync _ 2 2 0 D HK).mono ?_; rintro e w3 ⟨rfl, HK2⟩; clear HK; have HK : KR w ((D, (kd (.slice (some ⟨g, 0, none⟩) 2 2) 2).l) :: (g, bc [97, 98]) :: rs) w3 := HK2; clear HK2)
  go_wp2_with (go_at_call 9; refine (kd_append (.slice (some ⟨g, 0, none⟩) 2 2) 2 D [97, 98] [99, 100] (by decide) (kr_alloc HK _) (.inr ⟨g, 2, bc [97, 98], rfl, List.mem_cons_self, by decide, by decide, rfl⟩) _ 2 (src_const _ [99, 100] _ _)).mono ?_; rintro e w4 ⟨g2, rfl, HK2⟩; clear HK; have HK : KR w ((D, (kd (.slice (some ⟨g2, 0, none⟩) 4 4) 2).l) :: (g2, bc [97, 98, 99, 100]) :: rs) w4 := kr_tail (kr_head [_, _] HK2); clear HK2)
  go_wp2_with (go_at_call 13; have H1 := kr_head [_] (kr_new HK [.int .i64 1] 3); refine (kd_crash _ 4 4 2 (by decide) (by decide) (by decide) (fun h => by cases h) D _ 1 H1).mono ?_; rintro e w5 ⟨rfl, HK2⟩; clear HK H1; have HK : KR w ((D, (kd (.slice (some ⟨g2, 0, none⟩) 3 3) 3).l) :: (g2, bc [97, 98, 99, 100]) :: rs) w5 := HK2; clear HK2)
  go_wp2_with (go_at_call 14; refine (kd_read g2 3 3 [97, 98, 99, 100] [97, 98, 99] rfl rfl (by decide) (by decide) D HK).mono ?_; rintro e w6 ⟨g3, rfl, HK2⟩; clear HK; have HK := HK2; clear HK2)
  have hcv := run_convert_bytes_arg (P := Try.prog) w6 22 5 Try.underlying22 Try.underlying5 g3 0 3 3 [97, 98, 99] rfl (by
    intro i hi
    rw [Nat.zero_add]
    match i, hi with
    | 0, _ => exact kr_cell HK 0 rfl 0 _ rfl
    | 1, _ => exact kr_cell HK 0 rfl 1 _ rfl
    | 2, _ => exact kr_cell HK 0 rfl 2 _ rfl) 9 Try.underlying9
  have hs : strOfNums [97, 98, 99] = ⟨#[97, 98, 99]⟩ := rfl
  rw [hs] at hcv
  go_wp2_with fail
  rw [hcv]
  go_wp2_with (go_at_call 15; refine (kd_safe _ _ D (kr_tail HK)).mono ?_; rintro e w7 ⟨rfl, rfl⟩)
  all_goals go_ret
  all_goals exact ⟨rfl, kr_tail (kr_tail (kr_tail HK))⟩
end Go.Proofs.Ytplonehidfefdaa.Own
