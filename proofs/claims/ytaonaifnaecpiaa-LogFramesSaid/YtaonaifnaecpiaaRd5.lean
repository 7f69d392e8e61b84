/- What the reference's Rename does with its disk in memory. No conditions beside those in each theorem. -/
import Derived.Test.YtaonaifnaecpiaaRd4
namespace Go.Proofs.Ytaonaifnaecpiaa.Own
open Go.RowKit
set_option linter.unusedSimpArgs false
theorem mayD_two (d : Dk) (f t : Int) (hf : 0 ≤ f ∧ f < 8) (ht : 0 ≤ t ∧ t < 8) : mayD d [f, t] = if d.dead = true then 13 else 0 := by
  unfold mayD
  rw [if_neg (by simp; omega)]
theorem rrename_no (d : Dk) (R B cap : Nat) (tl : List Value) (f t : Int) (q : Int) (hq : mayD d [f, t] = q) (h0 : q ≠ 0) {w W : World} {rs : List (Nat × List Value)} (HK : RR w W R B cap tl d rs) :
    Calls Try.prog 53 #[.pointer (some ⟨R, 0, none⟩), .int .i64 f, .int .i64 t] W fun e W' => e = .returned (.int .i64 q) ∧ W = W' := by
  by_cases hf : f < 0 ∨ 8 ≤ f
  · obtain rfl : q = 1 := by rw [← hq]; unfold mayD; rw [if_pos ⟨f, by simp, hf⟩]
    have hr := fun W => right_no f W hf
    clear hf HK hq
    go_enter Try.func53, Try.ntmps53
    go_wp2_with (go_at_call 57; refine (hr _).mono ?_; rintro e w' ⟨rfl, rfl⟩)
    all_goals go_ret
    all_goals exact ⟨rfl, rfl⟩
  · have hr := fun W => right_yes f W (by omega) (by omega)
    by_cases ht : t < 0 ∨ 8 ≤ t
    · obtain rfl : q = 1 := by rw [← hq]; unfold mayD; rw [if_pos ⟨t, by simp, ht⟩]
      have hr2 := fun W => right_no t W ht
      clear hf HK hq ht
      go_enter Try.func53, Try.ntmps53
      go_wp2_with fail
      refine (hr _).mono ?_
      rintro e w' ⟨rfl, rfl⟩
      go_wp2_with fail
      refine (hr2 _).mono ?_
      rintro e w' ⟨rfl, rfl⟩
      go_wp2_with fail
      all_goals go_ret
      all_goals exact ⟨rfl, rfl⟩
    · have hr2 := fun W => right_yes t W (by omega) (by omega)
      have hm := mayD_two d f t (by omega) (by omega)
      have k2 := rr_h2 HK
      rw [hq] at hm
      cases hd : d.dead
      · rw [hd] at hm
        exact absurd hm h0
      · rw [hd] at hm k2
        obtain rfl : q = 13 := hm
        clear HK hq hf hd ht
        go_enter Try.func53, Try.ntmps53
        go_wp2_with fail
        refine (hr _).mono ?_
        rintro e w' ⟨rfl, rfl⟩
        go_wp2_with fail
        refine (hr2 _).mono ?_
        rintro e w' ⟨rfl, rfl⟩
        go_wp2_with fail
        all_goals go_ret
        all_goals exact ⟨rfl, rfl⟩
def rren (d : Dk) (f t : Nat) : Dk := if f = t then d else putF (putF d t (d.f f).1 (d.f f).2) f (.slice none 0 0) 0
set_option maxHeartbeats 2000000 in
theorem rrename_ok (d : Dk) (R B cap : Nat) (hcap : 8 ≤ cap) (tl : List Value) (f t : Nat) (hf : f < 8) (ht : t < 8) (hl : d.left ≤ 9223372036854775807) (hd : d.dead = false) (hv : ∃ sx m cx, (d.f f).1 = .slice sx m cx) {w W : World} {rs : List (Nat × List Value)} (HK : RR w W R B cap tl d rs) :
    Calls Try.prog 53 #[.pointer (some ⟨R, 0, none⟩), .int .i64 f, .int .i64 t] W fun e W' => e = .returned (.int .i64 (cntE d)) ∧ RR w W' R B cap tl (if cntE d = 0 then rren (cnt d) f t else cnt d) rs := by
  have hf2 : (f : Int) < 8 := by omega
  have ht2 : (t : Int) < 8 := by omega
  have hfc : f < cap := by omega
  have htc : t < cap := by omega
  have hr := fun W => right_yes (f : Int) W (by omega) hf2
  have hr2 := fun W => right_yes (t : Int) W (by omega) ht2
  have hc := fun W (H : RR w W R B cap tl d rs) => counts_k d R B cap tl hd hl H
  have k2 := rr_h2 HK
  rw [hd] at k2
  obtain ⟨sx, m, cx, hv1⟩ := hv
  rw [← cnt_f] at hv1
  cases hcd : (cnt d).dead
  · have e3 : cntE d = 0 := by unfold cntE; rw [hcd]; rfl
    rw [e3, if_pos rfl]
    rw [hcd] at hc
    clear e3 hcd hd
    generalize cnt d = dc at hc hv1 ⊢
    by_cases hft : f = t
    · subst hft
      have e4 : rren dc f f = dc := by unfold rren; rw [if_pos rfl]
      rw [e4]
      clear e4 hv1
      go_enter Try.func53, Try.ntmps53
      go_wp2_with (first | (go_at_call 57; refine (hr _).mono ?_; rintro e w' ⟨rfl, rfl⟩) | (go_at_call 58; refine (hc _ HK).mono ?_; rintro e w' ⟨rfl, HK2⟩; clear HK; have HK : Hid _ := HK2; clear HK2))
      all_goals go_ret
      all_goals exact ⟨rfl, HK.out⟩
    · have hb : ((f : Int) == (t : Int)) = false := by simp; omega
      have e4 : rren dc f t = putF (putF dc t (.slice sx m cx) (dc.f f).2) f (.slice none 0 0) 0 := by unfold rren; rw [if_neg hft, hv1]
      rw [e4]
      have HV : Hid ((dc.f f).1 = .slice sx m cx) := hv1
      have HF : Hid (¬ f = t) := hft
      clear e4 hv1 hft
      go_enter Try.func53, Try.ntmps53
      go_wp2_with fail
      refine (hr _).mono ?_
      rintro e w' ⟨rfl, rfl⟩
      go_wp2_with fail
      refine (hr2 _).mono ?_
      rintro e w' ⟨rfl, rfl⟩
      go_wp2_with (go_at_call 58; refine (hc _ HK).mono ?_; rintro e w' ⟨rfl, HK2⟩; clear HK hc; have k0 := rr_h0 HK2; have ga := rr_a HK2 f hf; have gb := rr_b HK2 f hf; rw [HV.out] at ga; have fa := rr_fa HK2 t ht; have fb := rr_fb HK2 t ht; have ta := rr_a HK2 t ht; have tb := rr_b HK2 t ht; have hRB := rr_ne HK2; have hBR := Ne.symm hRB)
      have n1 : ¬ t * 2 = f * 2 := by have := HF.out; omega
      have n2 : ¬ t * 2 + 1 = f * 2 := by omega
      have n3 : ¬ t * 2 = f * 2 + 1 := by omega
      have n4 : ¬ t * 2 + 1 = f * 2 + 1 := by have := HF.out; omega
      have H3 : RR w ((w'.setCell ⟨B, t * 2, none⟩ (.slice sx m cx)).setCell ⟨B, t * 2 + 1, none⟩ (.int .i64 (dc.f f).2)).drew R B cap tl _ rs := rr_setF (rr_drew HK2) t ht (.slice sx m cx) (dc.f f).2
      clear HK2
      go_region_held3 (fun W => W.cell? ⟨R, 0, none⟩ = some (.slice (some ⟨B, 0, none⟩) 8 cap) ∧ W.cell? ⟨B, f * 2, none⟩ = some (.slice sx m cx) ∧ W.cell? ⟨B, f * 2 + 1, none⟩ = some (.int .i64 (dc.f f).2)) (first | (refine ⟨?_, ?_, ?_⟩; exact (set_drew3 hBR _ _ _ _ _).trans k0; exact (set_drew4 n1 n2 _ _).trans ga; exact (set_drew4 n3 n4 _ _).trans gb) | go_keep) (fail)
      clear k0 ga gb fa fb ta tb n1 n2 n3 n4 k2
      generalize ((w'.setCell ⟨B, t * 2, none⟩ (.slice sx m cx)).setCell ⟨B, t * 2 + 1, none⟩ (.int .i64 (dc.f f).2)).drew = W2 at H3 ⊢
      have k0 := rr_h0 H3
      have fa := rr_fa H3 f hf
      have fb := rr_fb H3 f hf
      have ta := rr_a H3 f hf
      have tb := rr_b H3 f hf
      have H4 : Hid (RR w _ R B cap tl _ rs) := rr_setF H3 f hf (.slice none 0 0) 0
      clear H3
      go_wp2
      all_goals go_ret
      all_goals exact ⟨rfl, H4.out⟩
  · have e3 : cntE d = 13 := by unfold cntE; rw [hcd]; rfl
    rw [e3, if_neg (by decide)]
    rw [hcd] at hc
    clear e3 hcd hv1
    go_enter Try.func53, Try.ntmps53
    go_wp2_with fail
    refine (hr _).mono ?_
    rintro e w' ⟨rfl, rfl⟩
    go_wp2_with fail
    refine (hr2 _).mono ?_
    rintro e w' ⟨rfl, rfl⟩
    go_wp2_with (go_at_call 58; refine (hc _ HK).mono ?_; rintro e w' ⟨rfl, HK2⟩; clear HK; have HK : Hid _ := HK2; clear HK2)
    all_goals go_ret
    all_goals exact ⟨rfl, HK.out⟩
end Go.Proofs.Ytaonaifnaecpiaa.Own
