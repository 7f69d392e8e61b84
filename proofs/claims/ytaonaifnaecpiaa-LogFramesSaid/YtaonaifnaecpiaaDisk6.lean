/- What dayshift/disk's change and Sync do with a disk in memory. No conditions beside those in each theorem. -/
import Derived.Test.YtaonaifnaecpiaaDisk5
namespace Go.Proofs.Ytaonaifnaecpiaa.Own
open Go.RowKit
def chE (d : Dk) (xs : List Int) : Int := if mayD d xs = 0 then cntE d else mayD d xs
def chD (d : Dk) (xs : List Int) (d2 : Dk) : Dk := if mayD d xs = 0 then (if cntE d = 0 then d2 else cnt d) else d
theorem change_sync (d : Dk) (D b : Nat) (xs : List Int) (hlen : xs.length ≤ 100) (p1 p2 : Nat) (d2 : Dk) (hl : d.left ≤ 9223372036854775807) {w W : World} {rows : List (Nat × List Value)} (HK : KR w ((D, d.l) :: rows) W)
    (hx : ∀ W1, KR w ((D, d.l) :: rows) W1 → ∀ j, j < xs.length → W1.cell? ⟨b, j, none⟩ = some (.int .i64 (xs.getD j 0)))
    (hdo : mayD d xs = 0 → cntE d = 0 → ∀ W1, KR w ((D, (cnt d).l) :: rows) W1 → Calls Try.prog 67 #[.pointer (some ⟨p1, 0, none⟩), .pointer (some ⟨p2, 0, none⟩)] W1 fun e W' => e = .returned (.tuple #[]) ∧ KR w ((D, d2.l) :: rows) W') :
    Calls Try.prog 66 #[.pointer (some ⟨D, 0, none⟩), .func (.func 67) #[] #[.pointer (some ⟨p1, 0, none⟩), .pointer (some ⟨p2, 0, none⟩)], .slice (some ⟨b, 0, none⟩) xs.length xs.length] W fun e W' => e = .returned (.int .i64 (chE d xs)) ∧ KR w ((D, (chD d xs d2).l) :: rows) W' := by
  have hM := fun W1 H1 => may_k d D b xs (w := w) (W := W1) (rs := rows) H1 hlen (hx W1 H1)
  have hC := fun W1 H1 => count_k d D (w := w) (W := W1) (rs := rows) H1 hl
  clear hx
  by_cases hm : mayD d xs = 0
  · rw [hm] at hM
    by_cases hE : cntE d = 0
    · rw [hE] at hC
      have h1 : Hid (chE d xs = 0) := by show _ = _; unfold chE; rw [if_pos hm, hE]
      have h2 : Hid (chD d xs d2 = d2) := by show _ = _; unfold chD; rw [if_pos hm, if_pos hE]
      have hd := hdo hm hE
      clear hdo hm hE
      generalize xs.length = n at *
      go_enter Try.func66, Try.ntmps66
      go_wp2_with (first | (go_at_call 55; refine (hM _ HK).mono ?_; rintro e w' ⟨rfl, rfl⟩) | (go_at_call 56; refine (hC _ HK).mono ?_; rintro e w' ⟨rfl, HK2⟩; clear HK; have HK := HK2; clear HK2) | (go_at_call 67; refine (hd _ HK).mono ?_; rintro e w' ⟨rfl, HK2⟩; clear HK; have HK := HK2; clear HK2))
      all_goals go_ret
      all_goals exact ⟨by rw [show chE d xs = 0 from h1]; rfl, by rw [show chD d xs d2 = d2 from h2]; exact HK⟩
    · have h1 : Hid (chE d xs = cntE d) := by show _ = _; unfold chE; rw [if_pos hm]
      have h2 : Hid (chD d xs d2 = cnt d) := by show _ = _; unfold chD; rw [if_pos hm, if_neg hE]
      clear hdo hm
      generalize cntE d = q at *
      generalize xs.length = n at *
      go_enter Try.func66, Try.ntmps66
      go_wp2_with (first | (go_at_call 55; refine (hM _ HK).mono ?_; rintro e w' ⟨rfl, rfl⟩) | (go_at_call 56; refine (hC _ HK).mono ?_; rintro e w' ⟨rfl, HK2⟩; clear HK; have HK := HK2; clear HK2))
      all_goals go_ret
      all_goals exact ⟨by rw [show chE d xs = q from h1]; rfl, by rw [show chD d xs d2 = cnt d from h2]; exact HK⟩
  · have h1 : Hid (chE d xs = mayD d xs) := by show _ = _; unfold chE; rw [if_neg hm]
    have h2 : Hid (chD d xs d2 = d) := by show _ = _; unfold chD; rw [if_neg hm]
    clear hdo hC
    generalize mayD d xs = q at *
    generalize xs.length = n at *
    go_enter Try.func66, Try.ntmps66
    go_wp2_with (first | (go_at_call 55; refine (hM _ HK).mono ?_; rintro e w' ⟨rfl, rfl⟩))
    all_goals go_ret
    all_goals exact ⟨by rw [show chE d xs = q from h1]; rfl, by rw [show chD d xs d2 = d from h2]; exact HK⟩
theorem change_clear (d : Dk) (D b : Nat) (xs : List Int) (hlen : xs.length ≤ 100) (p1 p2 : Nat) (d2 : Dk) (hl : d.left ≤ 9223372036854775807) {w W : World} {rows : List (Nat × List Value)} (HK : KR w ((D, d.l) :: rows) W)
    (hx : ∀ W1, KR w ((D, d.l) :: rows) W1 → ∀ j, j < xs.length → W1.cell? ⟨b, j, none⟩ = some (.int .i64 (xs.getD j 0)))
    (hdo : mayD d xs = 0 → cntE d = 0 → ∀ W1, KR w ((D, (cnt d).l) :: rows) W1 → Calls Try.prog 68 #[.pointer (some ⟨p1, 0, none⟩), .pointer (some ⟨p2, 0, none⟩)] W1 fun e W' => e = .returned (.tuple #[]) ∧ KR w ((D, d2.l) :: rows) W') :
    Calls Try.prog 66 #[.pointer (some ⟨D, 0, none⟩), .func (.func 68) #[] #[.pointer (some ⟨p1, 0, none⟩), .pointer (some ⟨p2, 0, none⟩)], .slice (some ⟨b, 0, none⟩) xs.length xs.length] W fun e W' => e = .returned (.int .i64 (chE d xs)) ∧ KR w ((D, (chD d xs d2).l) :: rows) W' := by
  have hM := fun W1 H1 => may_k d D b xs (w := w) (W := W1) (rs := rows) H1 hlen (hx W1 H1)
  have hC := fun W1 H1 => count_k d D (w := w) (W := W1) (rs := rows) H1 hl
  clear hx
  by_cases hm : mayD d xs = 0
  · rw [hm] at hM
    by_cases hE : cntE d = 0
    · rw [hE] at hC
      have h1 : Hid (chE d xs = 0) := by show _ = _; unfold chE; rw [if_pos hm, hE]
      have h2 : Hid (chD d xs d2 = d2) := by show _ = _; unfold chD; rw [if_pos hm, if_pos hE]
      have hd := hdo hm hE
      clear hdo hm hE
      generalize xs.length = n at *
      go_enter Try.func66, Try.ntmps66
      go_wp2_with (first | (go_at_call 55; refine (hM _ HK).mono ?_; rintro e w' ⟨rfl, rfl⟩) | (go_at_call 56; refine (hC _ HK).mono ?_; rintro e w' ⟨rfl, HK2⟩; clear HK; have HK := HK2; clear HK2) | (go_at_call 68; refine (hd _ HK).mono ?_; rintro e w' ⟨rfl, HK2⟩; clear HK; have HK := HK2; clear HK2))
      all_goals go_ret
      all_goals exact ⟨by rw [show chE d xs = 0 from h1]; rfl, by rw [show chD d xs d2 = d2 from h2]; exact HK⟩
    · have h1 : Hid (chE d xs = cntE d) := by show _ = _; unfold chE; rw [if_pos hm]
      have h2 : Hid (chD d xs d2 = cnt d) := by show _ = _; unfold chD; rw [if_pos hm, if_neg hE]
      clear hdo hm
      generalize cntE d = q at *
      generalize xs.length = n at *
      go_enter Try.func66, Try.ntmps66
      go_wp2_with (first | (go_at_call 55; refine (hM _ HK).mono ?_; rintro e w' ⟨rfl, rfl⟩) | (go_at_call 56; refine (hC _ HK).mono ?_; rintro e w' ⟨rfl, HK2⟩; clear HK; have HK := HK2; clear HK2))
      all_goals go_ret
      all_goals exact ⟨by rw [show chE d xs = q from h1]; rfl, by rw [show chD d xs d2 = cnt d from h2]; exact HK⟩
  · have h1 : Hid (chE d xs = mayD d xs) := by show _ = _; unfold chE; rw [if_neg hm]
    have h2 : Hid (chD d xs d2 = d) := by show _ = _; unfold chD; rw [if_neg hm]
    clear hdo hC
    generalize mayD d xs = q at *
    generalize xs.length = n at *
    go_enter Try.func66, Try.ntmps66
    go_wp2_with (first | (go_at_call 55; refine (hM _ HK).mono ?_; rintro e w' ⟨rfl, rfl⟩))
    all_goals go_ret
    all_goals exact ⟨by rw [show chE d xs = q from h1]; rfl, by rw [show chD d xs d2 = d from h2]; exact HK⟩
theorem change_rename (d : Dk) (D b : Nat) (xs : List Int) (hlen : xs.length ≤ 100) (p1 p2 p3 : Nat) (d2 : Dk) (hl : d.left ≤ 9223372036854775807) {w W : World} {rows : List (Nat × List Value)} (HK : KR w ((D, d.l) :: rows) W)
    (hx : ∀ W1, KR w ((D, d.l) :: rows) W1 → ∀ j, j < xs.length → W1.cell? ⟨b, j, none⟩ = some (.int .i64 (xs.getD j 0)))
    (hdo : mayD d xs = 0 → cntE d = 0 → ∀ W1, KR w ((D, (cnt d).l) :: rows) W1 → Calls Try.prog 69 #[.pointer (some ⟨p1, 0, none⟩), .pointer (some ⟨p2, 0, none⟩), .pointer (some ⟨p3, 0, none⟩)] W1 fun e W' => e = .returned (.tuple #[]) ∧ KR w ((D, d2.l) :: rows) W') :
    Calls Try.prog 66 #[.pointer (some ⟨D, 0, none⟩), .func (.func 69) #[] #[.pointer (some ⟨p1, 0, none⟩), .pointer (some ⟨p2, 0, none⟩), .pointer (some ⟨p3, 0, none⟩)], .slice (some ⟨b, 0, none⟩) xs.length xs.length] W fun e W' => e = .returned (.int .i64 (chE d xs)) ∧ KR w ((D, (chD d xs d2).l) :: rows) W' := by
  have hM := fun W1 H1 => may_k d D b xs (w := w) (W := W1) (rs := rows) H1 hlen (hx W1 H1)
  have hC := fun W1 H1 => count_k d D (w := w) (W := W1) (rs := rows) H1 hl
  clear hx
  by_cases hm : mayD d xs = 0
  · rw [hm] at hM
    by_cases hE : cntE d = 0
    · rw [hE] at hC
      have h1 : Hid (chE d xs = 0) := by show _ = _; unfold chE; rw [if_pos hm, hE]
      have h2 : Hid (chD d xs d2 = d2) := by show _ = _; unfold chD; rw [if_pos hm, if_pos hE]
      have hd := hdo hm hE
      clear hdo hm hE
      generalize xs.length = n at *
      go_enter Try.func66, Try.ntmps66
      go_wp2_with (first | (go_at_call 55; refine (hM _ HK).mono ?_; rintro e w' ⟨rfl, rfl⟩) | (go_at_call 56; refine (hC _ HK).mono ?_; rintro e w' ⟨rfl, HK2⟩; clear HK; have HK := HK2; clear HK2) | (go_at_call 69; refine (hd _ HK).mono ?_; rintro e w' ⟨rfl, HK2⟩; clear HK; have HK := HK2; clear HK2))
      all_goals go_ret
      all_goals exact ⟨by rw [show chE d xs = 0 from h1]; rfl, by rw [show chD d xs d2 = d2 from h2]; exact HK⟩
    · have h1 : Hid (chE d xs = cntE d) := by show _ = _; unfold chE; rw [if_pos hm]
      have h2 : Hid (chD d xs d2 = cnt d) := by show _ = _; unfold chD; rw [if_pos hm, if_neg hE]
      clear hdo hm
      generalize cntE d = q at *
      generalize xs.length = n at *
      go_enter Try.func66, Try.ntmps66
      go_wp2_with (first | (go_at_call 55; refine (hM _ HK).mono ?_; rintro e w' ⟨rfl, rfl⟩) | (go_at_call 56; refine (hC _ HK).mono ?_; rintro e w' ⟨rfl, HK2⟩; clear HK; have HK := HK2; clear HK2))
      all_goals go_ret
      all_goals exact ⟨by rw [show chE d xs = q from h1]; rfl, by rw [show chD d xs d2 = cnt d from h2]; exact HK⟩
  · have h1 : Hid (chE d xs = mayD d xs) := by show _ = _; unfold chE; rw [if_neg hm]
    have h2 : Hid (chD d xs d2 = d) := by show _ = _; unfold chD; rw [if_neg hm]
    clear hdo hC
    generalize mayD d xs = q at *
    generalize xs.length = n at *
    go_enter Try.func66, Try.ntmps66
    go_wp2_with (first | (go_at_call 55; refine (hM _ HK).mono ?_; rintro e w' ⟨rfl, rfl⟩))
    all_goals go_ret
    all_goals exact ⟨by rw [show chE d xs = q from h1]; rfl, by rw [show chD d xs d2 = d from h2]; exact HK⟩
end Go.Proofs.Ytaonaifnaecpiaa.Own
