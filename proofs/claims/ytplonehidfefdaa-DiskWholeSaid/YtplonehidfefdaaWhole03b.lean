/- DiskWhole: the walk. No conditions beside those in each theorem. -/
import Derived.Test.YtplonehidfefdaaWhole03
namespace Go.Proofs.Ytplonehidfefdaa.Own
open Go.RowKit
set_option linter.unusedSimpArgs false
theorem kr_none {w W : World} {rs : List (Nat × List Value)} (h : KR w rs W) : KR w [] W := ⟨h.below, fun p hp => by simp at hp, List.Pairwise.nil⟩
set_option maxHeartbeats 1000000 in
theorem diskWhole_any (a0 : Option Addr) (len0 cap0 : Nat) (a1 : Option Addr) (len1 cap1 : Nat) (n : Int) (a3 : Option Addr) (len3 cap3 : Nat) (w : World) (hn : n ≤ 9223372036854775807)
    (c0 : ∃ bs : List Int, bs.length = len0 ∧ Src w a0 bs ∧ len0 ≤ 9223372036854775807) (c1 : ∃ bs : List Int, bs.length = len1 ∧ Src w a1 bs ∧ len1 ≤ 9223372036854775807)
    (c3 : ∃ xs : List Int, xs.length = len3 ∧ ∀ j : Nat, j < len3 → ∃ A : Addr, a3 = some A ∧ w.cell? (A.add j) = some (.int .i64 (xs.getD j 0))) :
    Calls Try.prog 4 #[.slice a0 len0 cap0, .slice a1 len1 cap1, .int .i64 n, .slice a3 len3 cap3] w fun e W' => e = .returned (.bool true) ∧ Below w.heap.size w W' := by
  obtain ⟨xs, hx, sx, lx⟩ := c0
  obtain ⟨ys, hy, sy, ly⟩ := c1
  obtain ⟨ks, hk, sk⟩ := c3
  have HX : Hid (xs.length = len0) := hx
  have HY : Hid (ys.length = len1) := hy
  have HZ : Hid (ks.length = len3) := hk
  have HS : Hid (∀ j : Nat, j < len3 → ∃ A : Addr, a3 = some A ∧ w.cell? (A.add j) = some (.int .i64 (ks.getD j 0))) := sk
  have SX : Hid (Src w a0 xs) := sx
  have SY : Hid (Src w a1 ys) := sy
  clear hx hy hk sk sx sy
  have hN := fun W => dv_new w W (rs := [])
  by_cases h0 : 1000 < len0
  · go_enter Try.func4, Try.ntmps4
    go_wp2_with (go_at_call 8; refine (hN _ (kr_refl w)).mono ?_; rintro e w1 ⟨D, rfl, HD⟩)
    go_wp2_with (go_at_call 11; refine (known_k (dv_kr HD)).mono ?_; rintro e w2 ⟨rfl, HK2⟩)
    all_goals go_ret
    all_goals exact ⟨rfl, HK2.below⟩
  · by_cases h1 : 1000 < len1
    · go_enter Try.func4, Try.ntmps4
      go_wp2_with (go_at_call 8; refine (hN _ (kr_refl w)).mono ?_; rintro e w1 ⟨D, rfl, HD⟩)
      go_wp2_with (go_at_call 11; refine (known_k (dv_kr HD)).mono ?_; rintro e w2 ⟨rfl, HK2⟩)
      all_goals go_ret
      all_goals exact ⟨rfl, HK2.below⟩
    · have hA := fun (W : World) (D : Nat) (fs : List (Nat × List Value)) (HD : DV w W D pnew fs) => dv_append HD 0 xs len0 HX a0 cap0 (dv_src HD SX)
      rw [(pw_new xs (by have := HX.out; omega)).1, (pw_new xs (by have := HX.out; omega)).2] at hA
      have hB := fun (W : World) (D : Nat) (fs : List (Nat × List Value)) (HD : DV w W D (wq (xs, 0) ([], 0) 0 false) fs) => dv_sync HD 0
      rw [(pw_sync xs).1, (pw_sync xs).2] at hB
      have hC := fun (W : World) (D : Nat) (fs : List (Nat × List Value)) (HD : DV w W D (wq (xs, xs.length) ([], 0) 0 false) fs) => dv_fail HD n hn
      have hE := fun (W : World) (D : Nat) (fs : List (Nat × List Value)) (HD : DV w W D (pfail (wq (xs, xs.length) ([], 0) 0 false) n) fs) => dv_append HD 1 ys len1 HY a1 cap1 (dv_src HD SY)
      have hF := fun (W : World) (D : Nat) (fs : List (Nat × List Value)) (HD : DV w W D (pappD (pfail (wq (xs, xs.length) ([], 0) 0 false) n) 1 ys) fs) => dv_sync HD 1
      have hG := fun (W : World) (D : Nat) (fs : List (Nat × List Value)) (HD : DV w W D (psyncD (pappD (pfail (wq (xs, xs.length) ([], 0) 0 false) n) 1 ys) 1) fs) => dv_rename HD 1 0
      have hR := fun (W : World) (D : Nat) (p : PD) (fs : List (Nat × List Value)) (HD : DV w W D p fs) => dv_crash HD ks len3 HZ a3 cap3 (fun d' W1 H j hj => by
        obtain ⟨A, hA, hc⟩ := HS.out j hj
        exact ⟨A, hA, kr_old H hc⟩)
      have hT := fun (W : World) (D : Nat) (p : PD) (fs : List (Nat × List Value)) (HD : DV w W D p fs) => dv_read HD 0
      have hz : ∀ W : World, KR w [] W → (convert 22 9 (.slice a0 len0 cap0)).run Try.prog W = .ok (.string (strOfNums xs)) W := fun W H => conv_src len0 cap0 HX (src_keep SX H.below)
      have hz1 : ∀ W : World, KR w [] W → (convert 22 9 (.slice a1 len1 cap1)).run Try.prog W = .ok (.string (strOfNums ys)) W := fun W H => conv_src len1 cap1 HY (src_keep SY H.below)
      have hall := pw_all xs ys n (by have := HY.out; omega) ks
      generalize pappE (pfail (wq (xs, xs.length) ([], 0) 0 false) n) 1 ys = E1 at hE hall
      generalize pchE (pappD (pfail (wq (xs, xs.length) ([], 0) 0 false) n) 1 ys) [1] = E2 at hF hall
      rw [show preadE 0 = 0 from rfl] at hT
      clear hn
      rcases hall with ⟨rfl, hp, hl1, hl2⟩ | ⟨rfl, rfl, hp, hl1, hl2⟩ | ⟨rfl, rfl, hp, hl1, hl2⟩ | ⟨rfl, rfl, hp⟩
      · clear hF hG
        have hF := hA; have hG := hA
        have HP : Hid (_ = _) := hp
        clear hp
        go_enter Try.func4, Try.ntmps4
        go_wp2_with (go_at_call 8; refine (hN _ (kr_refl w)).mono ?_; rintro e w1 ⟨D, rfl, HD⟩)
        go_wp2_with (go_at_call 9; refine (hA _ _ _ HD).mono ?_; rintro e w2 ⟨rfl, l2, HD2⟩; clear HD; have HD := HD2; clear HD2)
        go_wp2_with (go_at_call 10; refine (hB _ _ _ HD).mono ?_; rintro e w3 ⟨rfl, HD2⟩; clear HD; have HD := HD2; clear HD2)
        go_wp2_with (go_at_call 12; refine (hC _ _ _ HD).mono ?_; rintro e w4 ⟨rfl, HD2⟩; clear HD; have HD := HD2; clear HD2)
        go_wp2_with (go_at_call 9; refine (hE _ _ _ HD).mono ?_; rintro e w5 ⟨rfl, l5, HD2⟩; clear HD; have HD := HD2; clear HD2)
        go_wp2_with (go_at_call 13; refine (hR _ _ _ _ HD).mono ?_; rintro e w6 ⟨rfl, HD2⟩; clear HD; have HD := HD2; clear HD2)
        go_wp2_with (go_at_call 14; refine (hT _ _ _ _ HD).mono ?_; rintro e w7 ⟨v, l7, rfl, hv, HD2⟩; clear HD; have HD := HD2; clear HD2)
        rw [show pread _ _ = _ from HP] at hv
        have hcv := fc_conv hv (dv_kr HD)
        have hc0 := hz _ (kr_none (dv_kr HD))
        have hc1 := hz1 _ (kr_none (dv_kr HD))
        have hkn := known_k (kr_none (dv_kr HD))
        clear hA hB hC hN hE hF hG hR hT hz hz1 HP hv HD
        go_wp2_with fail
        rw [hcv]
        go_wp2_with (go_at_call 11; refine hkn.mono ?_; rintro e w2 ⟨rfl, HK2⟩)
        all_goals go_ret
        all_goals exact ⟨rfl, HK2.below⟩
      · have HP : Hid (_ = _) := hp
        clear hp
        go_enter Try.func4, Try.ntmps4
        go_wp2_with (go_at_call 8; refine (hN _ (kr_refl w)).mono ?_; rintro e w1 ⟨D, rfl, HD⟩)
        go_wp2_with (go_at_call 9; refine (hA _ _ _ HD).mono ?_; rintro e w2 ⟨rfl, l2, HD2⟩; clear HD; have HD := HD2; clear HD2)
        go_wp2_with (go_at_call 10; refine (hB _ _ _ HD).mono ?_; rintro e w3 ⟨rfl, HD2⟩; clear HD; have HD := HD2; clear HD2)
        go_wp2_with (go_at_call 12; refine (hC _ _ _ HD).mono ?_; rintro e w4 ⟨rfl, HD2⟩; clear HD; have HD := HD2; clear HD2)
        go_wp2_with (go_at_call 9; refine (hE _ _ _ HD).mono ?_; rintro e w5 ⟨rfl, l5, HD2⟩; clear HD; have HD := HD2; clear HD2)
        go_wp2_with (go_at_call 10; refine (hF _ _ _ HD).mono ?_; rintro e w8 ⟨rfl, HD2⟩; clear HD; have HD := HD2; clear HD2)
        go_wp2_with (go_at_call 13; refine (hR _ _ _ _ HD).mono ?_; rintro e w6 ⟨rfl, HD2⟩; clear HD; have HD := HD2; clear HD2)
        go_wp2_with (go_at_call 14; refine (hT _ _ _ _ HD).mono ?_; rintro e w7 ⟨v, l7, rfl, hv, HD2⟩; clear HD; have HD := HD2; clear HD2)
        rw [show pread _ _ = _ from HP] at hv
        have hcv := fc_conv hv (dv_kr HD)
        have hc0 := hz _ (kr_none (dv_kr HD))
        have hc1 := hz1 _ (kr_none (dv_kr HD))
        have hkn := known_k (kr_none (dv_kr HD))
        clear hA hB hC hN hE hF hG hR hT hz hz1 HP hv HD
        go_wp2_with fail
        rw [hcv]
        go_wp2_with (go_at_call 11; refine hkn.mono ?_; rintro e w2 ⟨rfl, HK2⟩)
        all_goals go_ret
        all_goals exact ⟨rfl, HK2.below⟩
      · have HP : Hid (_ = _) := hp
        clear hp
        go_enter Try.func4, Try.ntmps4
        go_wp2_with (go_at_call 8; refine (hN _ (kr_refl w)).mono ?_; rintro e w1 ⟨D, rfl, HD⟩)
        go_wp2_with (go_at_call 9; refine (hA _ _ _ HD).mono ?_; rintro e w2 ⟨rfl, l2, HD2⟩; clear HD; have HD := HD2; clear HD2)
        go_wp2_with (go_at_call 10; refine (hB _ _ _ HD).mono ?_; rintro e w3 ⟨rfl, HD2⟩; clear HD; have HD := HD2; clear HD2)
        go_wp2_with (go_at_call 12; refine (hC _ _ _ HD).mono ?_; rintro e w4 ⟨rfl, HD2⟩; clear HD; have HD := HD2; clear HD2)
        go_wp2_with (go_at_call 9; refine (hE _ _ _ HD).mono ?_; rintro e w5 ⟨rfl, l5, HD2⟩; clear HD; have HD := HD2; clear HD2)
        go_wp2_with (go_at_call 10; refine (hF _ _ _ HD).mono ?_; rintro e w8 ⟨rfl, HD2⟩; clear HD; have HD := HD2; clear HD2)
        go_wp2_with (go_at_call 16; refine (hG _ _ _ HD).mono ?_; rintro e w9 ⟨rfl, HD2⟩; clear HD; have HD := HD2; clear HD2)
        go_wp2_with (go_at_call 13; refine (hR _ _ _ _ HD).mono ?_; rintro e w6 ⟨rfl, HD2⟩; clear HD; have HD := HD2; clear HD2)
        go_wp2_with (go_at_call 14; refine (hT _ _ _ _ HD).mono ?_; rintro e w7 ⟨v, l7, rfl, hv, HD2⟩; clear HD; have HD := HD2; clear HD2)
        rw [show pread _ _ = _ from HP] at hv
        have hcv := fc_conv hv (dv_kr HD)
        have hc0 := hz _ (kr_none (dv_kr HD))
        have hc1 := hz1 _ (kr_none (dv_kr HD))
        have hkn := known_k (kr_none (dv_kr HD))
        clear hA hB hC hN hE hF hG hR hT hz hz1 HP hv HD
        go_wp2_with fail
        rw [hcv]
        go_wp2_with (go_at_call 11; refine hkn.mono ?_; rintro e w2 ⟨rfl, HK2⟩)
        all_goals go_ret
        all_goals exact ⟨rfl, HK2.below⟩
      · have HP : Hid (_ = _) := hp
        clear hp
        go_enter Try.func4, Try.ntmps4
        go_wp2_with (go_at_call 8; refine (hN _ (kr_refl w)).mono ?_; rintro e w1 ⟨D, rfl, HD⟩)
        go_wp2_with (go_at_call 9; refine (hA _ _ _ HD).mono ?_; rintro e w2 ⟨rfl, l2, HD2⟩; clear HD; have HD := HD2; clear HD2)
        go_wp2_with (go_at_call 10; refine (hB _ _ _ HD).mono ?_; rintro e w3 ⟨rfl, HD2⟩; clear HD; have HD := HD2; clear HD2)
        go_wp2_with (go_at_call 12; refine (hC _ _ _ HD).mono ?_; rintro e w4 ⟨rfl, HD2⟩; clear HD; have HD := HD2; clear HD2)
        go_wp2_with (go_at_call 9; refine (hE _ _ _ HD).mono ?_; rintro e w5 ⟨rfl, l5, HD2⟩; clear HD; have HD := HD2; clear HD2)
        go_wp2_with (go_at_call 10; refine (hF _ _ _ HD).mono ?_; rintro e w8 ⟨rfl, HD2⟩; clear HD; have HD := HD2; clear HD2)
        go_wp2_with (go_at_call 16; refine (hG _ _ _ HD).mono ?_; rintro e w9 ⟨rfl, HD2⟩; clear HD; have HD := HD2; clear HD2)
        go_wp2_with (go_at_call 13; refine (hR _ _ _ _ HD).mono ?_; rintro e w6 ⟨rfl, HD2⟩; clear HD; have HD := HD2; clear HD2)
        go_wp2_with (go_at_call 14; refine (hT _ _ _ _ HD).mono ?_; rintro e w7 ⟨v, l7, rfl, hv, HD2⟩; clear HD; have HD := HD2; clear HD2)
        rw [show pread _ _ = _ from HP] at hv
        have hcv := fc_conv hv (dv_kr HD)
        have hc0 := hz _ (kr_none (dv_kr HD))
        have hc1 := hz1 _ (kr_none (dv_kr HD))
        have hkn := known_k (kr_none (dv_kr HD))
        clear hA hB hC hN hE hF hG hR hT hz hz1 HP hv HD
        go_wp2_with fail
        rw [hcv]
        by_cases hxy : (strOfNums ys == strOfNums xs) = true
        all_goals (
          by_cases h5 : 1 ≤ n
          · by_cases h6 : n ≤ 3
            · go_wp2_with (go_at_call 11; refine hkn.mono ?_; rintro e w2 ⟨rfl, HK2⟩)
              all_goals go_ret
              all_goals exact ⟨rfl, HK2.below⟩
            · go_wp2_with (go_at_call 11; refine hkn.mono ?_; rintro e w2 ⟨rfl, HK2⟩)
              all_goals go_ret
              all_goals exact ⟨rfl, HK2.below⟩
          · go_wp2_with (go_at_call 11; refine hkn.mono ?_; rintro e w2 ⟨rfl, HK2⟩)
            all_goals go_ret
            all_goals exact ⟨rfl, HK2.below⟩)
end Go.Proofs.Ytplonehidfefdaa.Own
