/- What the reference's Clear and Sync do with its disk in memory. No conditions beside those in each theorem. -/
import Derived.Test.YtaonaifnaecpiaaRd1
namespace Go.Proofs.Ytaonaifnaecpiaa.Own
open Go.RowKit
set_option linter.unusedSimpArgs false
attribute [local go_sem] mm_max2 mm_min2 mm_max_two mm_min_two
theorem mayD_outI (d : Dk) (f : Int) (hf : f < 0 ∨ 8 ≤ f) : mayD d [f] = 1 := mayD_out d f hf
theorem mayD_inI (d : Dk) (f : Int) (h0 : 0 ≤ f) (h8 : f < 8) : mayD d [f] = if d.dead = true then 13 else 0 := by
  unfold mayD
  rw [if_neg (by simp; omega)]
theorem rclear_k (d : Dk) (R B cap : Nat) (hcap : 8 ≤ cap) (tl : List Value) (f : Int) (hl : d.left ≤ 9223372036854775807) {w W : World} {rs : List (Nat × List Value)} (HK : RR w W R B cap tl d rs) :
    Calls Try.prog 51 #[.pointer (some ⟨R, 0, none⟩), .int .i64 f] W fun e W' => e = .returned (.int .i64 (chE d [f])) ∧ RR w W' R B cap tl (chD d [f] (putF (cnt d) f.toNat (.slice none 0 0) 0)) rs := by
  by_cases hf : f < 0 ∨ 8 ≤ f
  · have hm := mayD_outI d f hf
    have e1 : chE d [f] = 1 := by unfold chE; rw [hm]; rfl
    have e2 : ∀ d2, chD d [f] d2 = d := fun d2 => by unfold chD; rw [hm]; rfl
    rw [e1, e2]
    clear hm e1 e2
    have hr := fun W => right_no f W hf
    clear hf
    have HH : Hid _ := HK
    clear HK
    go_enter Try.func51, Try.ntmps51
    go_wp2_with (go_at_call 57; refine (hr _).mono ?_; rintro e w' ⟨rfl, rfl⟩)
    all_goals go_ret
    all_goals exact ⟨rfl, HH.out⟩
  · obtain ⟨k, rfl⟩ : ∃ k : Nat, f = k := ⟨f.toNat, by omega⟩
    have hk : k < 8 := by omega
    have hk2 : (k : Int) < 8 := by omega
    have hr := fun W => right_yes (k : Int) W (by omega) hk2
    have hm := mayD_inI d (k : Int) (by omega) hk2
    rw [Int.toNat_natCast]
    have hkc : k < cap := by omega
    clear hf
    cases hd : d.dead
    · rw [hd] at hm
      have e1 : chE d [(k : Int)] = cntE d := by unfold chE; rw [hm]; rfl
      have e2 : ∀ d2, chD d [(k : Int)] d2 = if cntE d = 0 then d2 else cnt d := fun d2 => by unfold chD; rw [hm]; rfl
      rw [e1, e2]
      clear e1 e2 hm
      have hc := fun W (H : RR w W R B cap tl d rs) => counts_k d R B cap tl hd hl H
      have k2 := rr_h2 HK
      rw [hd] at k2
      clear hd
      cases hcd : (cnt d).dead
      · have e3 : cntE d = 0 := by unfold cntE; rw [hcd]; rfl
        rw [e3, if_pos rfl]
        rw [hcd] at hc
        clear e3 hcd
        generalize cnt d = dc at hc ⊢
        go_enter Try.func51, Try.ntmps51
        go_wp2_with (first | (go_at_call 57; refine (hr _).mono ?_; rintro e w' ⟨rfl, rfl⟩) | (go_at_call 58; refine (hc _ HK).mono ?_; rintro e w' ⟨rfl, HK2⟩; clear HK hc; have k0 := rr_h0 HK2; have ga := rr_a HK2 k hk; have gb := rr_b HK2 k hk; have fa := rr_fa HK2 k hk; have fb := rr_fb HK2 k hk; have hRB := rr_ne HK2; have hBR := Ne.symm hRB; have HH : Hid (RR w _ R B cap tl _ rs) := rr_setF (HK2) k hk (.slice none 0 0) 0; clear HK2))
        all_goals go_ret
        all_goals exact ⟨rfl, HH.out⟩
      · have e3 : cntE d = 13 := by unfold cntE; rw [hcd]; rfl
        rw [e3, if_neg (by decide)]
        rw [hcd] at hc
        clear e3 hcd
        go_enter Try.func51, Try.ntmps51
        go_wp2_with (first | (go_at_call 57; refine (hr _).mono ?_; rintro e w' ⟨rfl, rfl⟩) | (go_at_call 58; refine (hc _ HK).mono ?_; rintro e w' ⟨rfl, HK2⟩; clear HK; have HK : Hid _ := HK2; clear HK2))
        all_goals go_ret
        all_goals exact ⟨rfl, HK.out⟩
    · rw [hd] at hm
      have e1 : chE d [(k : Int)] = 13 := by unfold chE; rw [hm]; rfl
      have e2 : ∀ d2, chD d [(k : Int)] d2 = d := fun d2 => by unfold chD; rw [hm]; rfl
      rw [e1, e2]
      have k2 := rr_h2 HK
      rw [hd] at k2
      clear e1 e2 hm hd
      have HH : Hid _ := HK
      clear HK
      go_enter Try.func51, Try.ntmps51
      go_wp2_with (go_at_call 57; refine (hr _).mono ?_; rintro e w' ⟨rfl, rfl⟩)
      all_goals go_ret
      all_goals exact ⟨rfl, HH.out⟩
def lenV (v : Value) : Int := match v with
  | .slice _ n _ => (n : Int)
  | _ => 0
theorem rsync_k (d : Dk) (R B cap : Nat) (hcap : 8 ≤ cap) (tl : List Value) (f : Int) (hl : d.left ≤ 9223372036854775807) (hv : ∀ i, i < 8 → ∃ sx m cx, (d.f i).1 = .slice sx m cx) {w W : World} {rs : List (Nat × List Value)} (HK : RR w W R B cap tl d rs) :
    Calls Try.prog 52 #[.pointer (some ⟨R, 0, none⟩), .int .i64 f] W fun e W' => e = .returned (.int .i64 (chE d [f])) ∧ RR w W' R B cap tl (chD d [f] (putF (cnt d) f.toNat ((cnt d).f f.toNat).1 (lenV ((cnt d).f f.toNat).1))) rs := by
  by_cases hf : f < 0 ∨ 8 ≤ f
  · have hm := mayD_outI d f hf
    have e1 : chE d [f] = 1 := by unfold chE; rw [hm]; rfl
    have e2 : ∀ d2, chD d [f] d2 = d := fun d2 => by unfold chD; rw [hm]; rfl
    rw [e1, e2]
    clear hm e1 e2
    have hr := fun W => right_no f W hf
    clear hf
    have HH : Hid _ := HK
    clear HK
    go_enter Try.func52, Try.ntmps52
    go_wp2_with (go_at_call 57; refine (hr _).mono ?_; rintro e w' ⟨rfl, rfl⟩)
    all_goals go_ret
    all_goals exact ⟨rfl, HH.out⟩
  · obtain ⟨k, rfl⟩ : ∃ k : Nat, f = k := ⟨f.toNat, by omega⟩
    have hk : k < 8 := by omega
    have hk2 : (k : Int) < 8 := by omega
    have hr := fun W => right_yes (k : Int) W (by omega) hk2
    have hm := mayD_inI d (k : Int) (by omega) hk2
    rw [Int.toNat_natCast]
    have hkc : k < cap := by omega
    clear hf
    cases hd : d.dead
    · rw [hd] at hm
      have e1 : chE d [(k : Int)] = cntE d := by unfold chE; rw [hm]; rfl
      have e2 : ∀ d2, chD d [(k : Int)] d2 = if cntE d = 0 then d2 else cnt d := fun d2 => by unfold chD; rw [hm]; rfl
      rw [e1, e2]
      clear e1 e2 hm
      have hc := fun W (H : RR w W R B cap tl d rs) => counts_k d R B cap tl hd hl H
      have k2 := rr_h2 HK
      rw [hd] at k2
      clear hd
      cases hcd : (cnt d).dead
      · have e3 : cntE d = 0 := by unfold cntE; rw [hcd]; rfl
        rw [e3, if_pos rfl]
        rw [hcd] at hc
        clear e3 hcd
        obtain ⟨sx, m, cx, hv1⟩ := hv k hk
        rw [← cnt_f] at hv1
        clear hv
        rw [show lenV ((cnt d).f k).1 = (m : Int) from by rw [hv1]; rfl]
        generalize cnt d = dc at hc hv1 ⊢
        go_enter Try.func52, Try.ntmps52
        go_wp2_with (first | (go_at_call 57; refine (hr _).mono ?_; rintro e w' ⟨rfl, rfl⟩) | (go_at_call 58; refine (hc _ HK).mono ?_; rintro e w' ⟨rfl, HK2⟩; clear HK hc; have k0 := rr_h0 HK2; have ga := rr_a HK2 k hk; have gb := rr_b HK2 k hk; have fa := rr_fa HK2 k hk; have fb := rr_fb HK2 k hk; have hRB := rr_ne HK2; have hBR := Ne.symm hRB; rw [hv1] at ga; clear hv1; have HH : Hid (RR w _ R B cap tl _ rs) := rr_setS (rr_drew HK2) k hk (m : Int); clear HK2))
        go_region_held3 (fun W => W.cell? ⟨R, 0, none⟩ = some (.slice (some ⟨B, 0, none⟩) 8 cap) ∧ W.cell? ⟨B, k * 2, none⟩ = some (.slice sx m cx)) (first | (refine ⟨?_, ?_⟩; exact (set_drew hBR _ _ _).trans k0; exact (set_drew2 (Nat.succ_ne_self _) _).trans ga) | go_keep) (fail)
        go_wp2
        all_goals go_ret
        all_goals exact ⟨rfl, HH.out⟩
      · have e3 : cntE d = 13 := by unfold cntE; rw [hcd]; rfl
        rw [e3, if_neg (by decide)]
        rw [hcd] at hc
        clear e3 hcd
        go_enter Try.func52, Try.ntmps52
        go_wp2_with (first | (go_at_call 57; refine (hr _).mono ?_; rintro e w' ⟨rfl, rfl⟩) | (go_at_call 58; refine (hc _ HK).mono ?_; rintro e w' ⟨rfl, HK2⟩; clear HK; have HK : Hid _ := HK2; clear HK2))
        all_goals go_ret
        all_goals exact ⟨rfl, HK.out⟩
    · rw [hd] at hm
      have e1 : chE d [(k : Int)] = 13 := by unfold chE; rw [hm]; rfl
      have e2 : ∀ d2, chD d [(k : Int)] d2 = d := fun d2 => by unfold chD; rw [hm]; rfl
      rw [e1, e2]
      have k2 := rr_h2 HK
      rw [hd] at k2
      clear e1 e2 hm hd
      have HH : Hid _ := HK
      clear HK
      go_enter Try.func52, Try.ntmps52
      go_wp2_with (go_at_call 57; refine (hr _).mono ?_; rintro e w' ⟨rfl, rfl⟩)
      all_goals go_ret
      all_goals exact ⟨rfl, HH.out⟩
end Go.Proofs.Ytaonaifnaecpiaa.Own
