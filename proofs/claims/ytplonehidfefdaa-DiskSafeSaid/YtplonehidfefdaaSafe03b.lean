/- DiskSafe: the walk. No conditions beside those in each theorem. -/
import Derived.Test.YtplonehidfefdaaSafe03
import Derived.Test.YtplonehidfefdaaActs03
import Derived.Deep.QuietTactic
import Derived.BigQuiet
namespace Go.Proofs.Ytplonehidfefdaa.Own
open Go.RowKit
set_option linter.unusedSimpArgs false
set_option maxRecDepth 100000 in
set_option maxHeartbeats 2000000 in
theorem diskSafe_any (a0 : Option Addr) (len0 cap0 : Nat) (a1 : Option Addr) (len1 cap1 : Nat) (w : World)
    (c0 : ∃ bs : List Int, bs.length = len0 ∧ Src w a0 bs ∧ len0 ≤ 9223372036854775807)
    (c1 : ∃ xs : List AV, xs.length = len1 ∧ len1 ≤ 9223372036854775807 ∧ ∀ (j : Nat) (x : AV), xs[j]? = some x → ∃ A : Addr, a1 = some A ∧ AvAt w A j x) :
    Calls Try.prog 3 #[.slice a0 len0 cap0, .slice a1 len1 cap1] w fun e W' => e = .returned (.bool true) ∧ Below w.heap.size w W' := by
  obtain ⟨bs, hx, sx, lx⟩ := c0
  obtain ⟨acts, hy, ly, sy⟩ := c1
  have HX : Hid (bs.length = len0) := hx
  have SX : Hid (Src w a0 bs) := sx
  have HY : Hid (acts.length = len1) := hy
  have SY : Hid (∀ (j : Nat) (x : AV), acts[j]? = some x → ∃ A : Addr, a1 = some A ∧ AvAt w A j x) := sy
  clear hx sx hy sy
  have hN := fun W => dv_new w W (rs := [])
  by_cases h0 : 1000 < len0
  · go_enter Try.func3, Try.ntmps3
    go_wp2_with (go_at_call 8; refine (hN _ (kr_refl w)).mono ?_; rintro e w1 ⟨D, rfl, HD⟩)
    go_wp2_with (go_at_call 11; refine (known_k (dv_kr HD)).mono ?_; rintro e w2 ⟨rfl, HK2⟩)
    all_goals go_ret
    all_goals exact ⟨rfl, HK2.below⟩
  · obtain ⟨n1, n2, n3⟩ := si_new bs (by have := HX.out; omega)
    have hA := fun (W : World) (D : Nat) (fs : List (Nat × List Value)) (HD : DV w W D pnew fs) => dv_append HD 3 bs len0 HX a0 cap0 (dv_src HD SX)
    rw [n1] at hA
    have hB := fun (W : World) (D : Nat) (fs : List (Nat × List Value)) (HD : DV w W D (pappD pnew 3 bs) fs) => dv_sync HD 3
    rw [n2] at hB
    have HI : Hid (SInv bs (psyncD (pappD pnew 3 bs) 3)) := n3
    clear n1 n2 n3
    generalize psyncD (pappD pnew 3 bs) 3 = p0 at hB HI
    generalize pappD pnew 3 bs = p1 at hA hB
    go_enter Try.func3, Try.ntmps3
    go_wp2_with (go_at_call 8; refine (hN _ (kr_refl w)).mono ?_; rintro e w1 ⟨D, rfl, HD⟩)
    go_wp2_with (go_at_call 9; refine (hA _ _ _ HD).mono ?_; rintro e w2 ⟨rfl, l2, HD2⟩; clear HD; have HD := HD2; clear HD2)
    go_wp2_with (go_at_call 10; refine (hB _ _ _ HD).mono ?_; rintro e w3 ⟨rfl, HD2⟩; clear HD; have HD := HD2; clear HD2)
    clear hA hB hN
    go_loopw [6] (fun v6 W => ∃ (k : Nat) (p : PD) (fs : List (Nat × List Value)), v6 = .int .i64 k ∧ k ≤ 60 ∧ DV w W D p fs ∧ SInv bs p) (fun v6 _ => 60 - (intOf v6).toNat)
    case atStart => exact ⟨0, p0, _, rfl, by omega, HD, HI.out⟩
    case round =>
      clear HD
      obtain ⟨k, p, fs, rfl, hk, HD, hI⟩ := hrel
      by_cases hlt : k < len1
      · by_cases h60 : k < 60
        · obtain ⟨x, hx⟩ : ∃ x, acts[k]? = some x := ⟨acts[k]'(by have := HY.out; omega), List.getElem?_eq_getElem _⟩
          obtain ⟨A, hA, hat0⟩ := SY.out k x hx
          subst hA
          clear hx SY
          have hat := av_keep hat0 (dv_below HD)
          have sk := hat0.sk
          clear hat0
          obtain ⟨kd, f, g, n, ys, ks, nb, nk, bp, bcap, kp, kcap⟩ := x
          obtain ⟨e0, e1, e2, e3, e4, e5, hb, sb, mb, hkl, _, lo, hi⟩ := hat
          dsimp only at e0 e1 e2 e3 e4 e5 hb sb mb hkl sk lo hi
          have HB : Hid (ys.length = nb) := hb
          have SB : Hid (Src wr bp ys) := sb
          have HL : Hid (ks.length = nk) := hkl
          have HN : Hid (n ≤ 9223372036854775807) := hi
          have SK : Hid (∀ (d' : Dk) (W1 : World), KR w ((D, d'.l) :: fs) W1 → ∀ j, j < nk → ∃ A, kp = some A ∧ W1.cell? (A.add j) = some (.int .i64 (ks.getD j 0))) := fun d' W1 H1 j hj => by
            obtain ⟨B, hB, hc⟩ := sk j hj
            exact ⟨B, hB, kr_old H1 hc⟩
          clear hb sb hkl sk hi lo
          rw [add_lit A _ _ (by omega)] at e1 e2 e3 e4 e5
          have hkd : kd = 0 ∨ kd = 1 ∨ kd = 2 ∨ kd = 3 ∨ kd = 4 ∨ kd = 7 ∨ kd = 8 ∨ ((kd == 0) = false ∧ (kd == 1) = false ∧ (kd == 2) = false ∧ (kd == 3) = false ∧ (kd == 4) = false ∧ (kd == 7) = false ∧ (kd == 8) = false) := by
            simp only [beq_eq_false_iff_ne, ne_eq]
            omega
          rcases hkd with rfl | rfl | rfl | rfl | rfl | rfl | rfl | ⟨b0, b1, b2, b3, b4, b7, b8⟩
          · go_wp2_with (go_at_call 9; refine (dv_append (dv_alloc HD _) f ys nb HB.out bp bcap (src_keep SB.out (bw_alloc (Below.refl _ _) _))).mono ?_; rintro e w4 ⟨rfl, l4, HQ⟩; have hQ := si_app hI f ys; clear HD hI)
            generalize HQp : pappD p f ys = q at HQ hQ
            clear HQp
            go_wp2_with (go_at_call 14; refine (dv_readk HQ 3 (by omega)).mono ?_; rintro e w5 ⟨g5, rfl, HR⟩; clear HQ)
            obtain ⟨m, hm⟩ : ∃ m, (q.f 3).1.length = m := ⟨_, rfl⟩
            have hle : (len0 : Int) ≤ (m : Int) := by have := hQ.1.length_le; have := HX.out; omega
            have hle2 : len0 ≤ m := by omega
            have hm2 : (m : Int) ≤ 1048576 := by have := (dv_len HR 3 (by omega)).1; omega
            have hs1 := fun nq => dv_safe (dv_drewN HR nq) 3
            have hs2 : psafe q 3 = (((q.f 3).2 : Nat) : Int) := rfl
            rw [hs2] at hs1
            have hs3 : (len0 : Int) ≤ (((q.f 3).2 : Nat) : Int) := by have := hQ.2; have := HX.out; omega
            clear hs2
            generalize (q.f 3).2 = sf at hs1 hs3
            have hc1 : ∀ nq, (convert 22 9 (.slice (some ⟨g5, 0, none⟩) len0 m)).run Try.prog (w5.drewN nq) = .ok (.string (strOfNums bs)) (w5.drewN nq) := fun nq => conv_src len0 m HX.out (src_keep (src_pre (row_src (dv_kr HR)) hQ.1) (bw_drewN (Below.refl _ _) nq))
            have hc2 : ∀ nq, (convert 22 9 (.slice a0 len0 cap0)).run Try.prog (w5.drewN nq) = .ok (.string (strOfNums bs)) (w5.drewN nq) := fun nq => conv_src len0 cap0 HX.out (src_keep SX.out (dv_below (dv_drewN HR nq)))
            rw [hm]
            have HH : Hid (DV w w5 D q _ ∧ SInv bs q) := ⟨HR, hQ⟩
            clear HR hQ hm
            go_wp2_with fail
            go_quiet ((go_at_call 15; exact quiet_flip (hs1 _)))
            clear hc1 hc2 hs1
            go_wp2_with fail
            go_round
            case rel => exact ⟨k + 1, q, _, by go_num, by omega, dv_drewN HH.1 _, HH.2⟩
            case measure => (simp [intOf]; try omega)
          · go_wp2_with (go_at_call 9; refine (dv_append (dv_alloc HD _) f ys nb HB.out bp bcap (src_keep SB.out (bw_alloc (Below.refl _ _) _))).mono ?_; rintro e w4 ⟨rfl, l4, HQ⟩; have hQ := si_app hI f ys; clear HD hI)
            generalize HQp : pappD p f ys = q at HQ hQ
            clear HQp
            go_wp2_with (go_at_call 14; refine (dv_readk HQ 3 (by omega)).mono ?_; rintro e w5 ⟨g5, rfl, HR⟩; clear HQ)
            obtain ⟨m, hm⟩ : ∃ m, (q.f 3).1.length = m := ⟨_, rfl⟩
            have hle : (len0 : Int) ≤ (m : Int) := by have := hQ.1.length_le; have := HX.out; omega
            have hle2 : len0 ≤ m := by omega
            have hm2 : (m : Int) ≤ 1048576 := by have := (dv_len HR 3 (by omega)).1; omega
            have hs1 := fun nq => dv_safe (dv_drewN HR nq) 3
            have hs2 : psafe q 3 = (((q.f 3).2 : Nat) : Int) := rfl
            rw [hs2] at hs1
            have hs3 : (len0 : Int) ≤ (((q.f 3).2 : Nat) : Int) := by have := hQ.2; have := HX.out; omega
            clear hs2
            generalize (q.f 3).2 = sf at hs1 hs3
            have hc1 : ∀ nq, (convert 22 9 (.slice (some ⟨g5, 0, none⟩) len0 m)).run Try.prog (w5.drewN nq) = .ok (.string (strOfNums bs)) (w5.drewN nq) := fun nq => conv_src len0 m HX.out (src_keep (src_pre (row_src (dv_kr HR)) hQ.1) (bw_drewN (Below.refl _ _) nq))
            have hc2 : ∀ nq, (convert 22 9 (.slice a0 len0 cap0)).run Try.prog (w5.drewN nq) = .ok (.string (strOfNums bs)) (w5.drewN nq) := fun nq => conv_src len0 cap0 HX.out (src_keep SX.out (dv_below (dv_drewN HR nq)))
            rw [hm]
            have HH : Hid (DV w w5 D q _ ∧ SInv bs q) := ⟨HR, hQ⟩
            clear HR hQ hm
            go_wp2_with fail
            go_quiet ((go_at_call 15; exact quiet_flip (hs1 _)))
            clear hc1 hc2 hs1
            go_wp2_with fail
            go_round
            case rel => exact ⟨k + 1, q, _, by go_num, by omega, dv_drewN HH.1 _, HH.2⟩
            case measure => (simp [intOf]; try omega)
          · go_wp2_with (go_at_call 9; refine (dv_append (dv_alloc HD _) f ys nb HB.out bp bcap (src_keep SB.out (bw_alloc (Below.refl _ _) _))).mono ?_; rintro e w4 ⟨rfl, l4, HQ⟩; have hQ := si_app hI f ys; clear HD hI)
            generalize HQp : pappD p f ys = q at HQ hQ
            clear HQp
            go_wp2_with (go_at_call 14; refine (dv_readk HQ 3 (by omega)).mono ?_; rintro e w5 ⟨g5, rfl, HR⟩; clear HQ)
            obtain ⟨m, hm⟩ : ∃ m, (q.f 3).1.length = m := ⟨_, rfl⟩
            have hle : (len0 : Int) ≤ (m : Int) := by have := hQ.1.length_le; have := HX.out; omega
            have hle2 : len0 ≤ m := by omega
            have hm2 : (m : Int) ≤ 1048576 := by have := (dv_len HR 3 (by omega)).1; omega
            have hs1 := fun nq => dv_safe (dv_drewN HR nq) 3
            have hs2 : psafe q 3 = (((q.f 3).2 : Nat) : Int) := rfl
            rw [hs2] at hs1
            have hs3 : (len0 : Int) ≤ (((q.f 3).2 : Nat) : Int) := by have := hQ.2; have := HX.out; omega
            clear hs2
            generalize (q.f 3).2 = sf at hs1 hs3
            have hc1 : ∀ nq, (convert 22 9 (.slice (some ⟨g5, 0, none⟩) len0 m)).run Try.prog (w5.drewN nq) = .ok (.string (strOfNums bs)) (w5.drewN nq) := fun nq => conv_src len0 m HX.out (src_keep (src_pre (row_src (dv_kr HR)) hQ.1) (bw_drewN (Below.refl _ _) nq))
            have hc2 : ∀ nq, (convert 22 9 (.slice a0 len0 cap0)).run Try.prog (w5.drewN nq) = .ok (.string (strOfNums bs)) (w5.drewN nq) := fun nq => conv_src len0 cap0 HX.out (src_keep SX.out (dv_below (dv_drewN HR nq)))
            rw [hm]
            have HH : Hid (DV w w5 D q _ ∧ SInv bs q) := ⟨HR, hQ⟩
            clear HR hQ hm
            go_wp2_with fail
            go_quiet ((go_at_call 15; exact quiet_flip (hs1 _)))
            clear hc1 hc2 hs1
            go_wp2_with fail
            go_round
            case rel => exact ⟨k + 1, q, _, by go_num, by omega, dv_drewN HH.1 _, HH.2⟩
            case measure => (simp [intOf]; try omega)
          · go_wp2_with (go_at_call 10; refine (dv_sync (dv_alloc HD _) f).mono ?_; rintro e w4 ⟨rfl, HQ⟩; have hQ := si_sync hI f; clear HD hI)
            generalize HQp : psyncD p f = q at HQ hQ
            clear HQp
            go_wp2_with (go_at_call 14; refine (dv_readk HQ 3 (by omega)).mono ?_; rintro e w5 ⟨g5, rfl, HR⟩; clear HQ)
            obtain ⟨m, hm⟩ : ∃ m, (q.f 3).1.length = m := ⟨_, rfl⟩
            have hle : (len0 : Int) ≤ (m : Int) := by have := hQ.1.length_le; have := HX.out; omega
            have hle2 : len0 ≤ m := by omega
            have hm2 : (m : Int) ≤ 1048576 := by have := (dv_len HR 3 (by omega)).1; omega
            have hs1 := fun nq => dv_safe (dv_drewN HR nq) 3
            have hs2 : psafe q 3 = (((q.f 3).2 : Nat) : Int) := rfl
            rw [hs2] at hs1
            have hs3 : (len0 : Int) ≤ (((q.f 3).2 : Nat) : Int) := by have := hQ.2; have := HX.out; omega
            clear hs2
            generalize (q.f 3).2 = sf at hs1 hs3
            have hc1 : ∀ nq, (convert 22 9 (.slice (some ⟨g5, 0, none⟩) len0 m)).run Try.prog (w5.drewN nq) = .ok (.string (strOfNums bs)) (w5.drewN nq) := fun nq => conv_src len0 m HX.out (src_keep (src_pre (row_src (dv_kr HR)) hQ.1) (bw_drewN (Below.refl _ _) nq))
            have hc2 : ∀ nq, (convert 22 9 (.slice a0 len0 cap0)).run Try.prog (w5.drewN nq) = .ok (.string (strOfNums bs)) (w5.drewN nq) := fun nq => conv_src len0 cap0 HX.out (src_keep SX.out (dv_below (dv_drewN HR nq)))
            rw [hm]
            have HH : Hid (DV w w5 D q _ ∧ SInv bs q) := ⟨HR, hQ⟩
            clear HR hQ hm
            go_wp2_with fail
            go_quiet ((go_at_call 15; exact quiet_flip (hs1 _)))
            clear hc1 hc2 hs1
            go_wp2_with fail
            go_round
            case rel => exact ⟨k + 1, q, _, by go_num, by omega, dv_drewN HH.1 _, HH.2⟩
            case measure => (simp [intOf]; try omega)
          · go_wp2_with (go_at_call 10; refine (dv_sync (dv_alloc HD _) f).mono ?_; rintro e w4 ⟨rfl, HQ⟩; have hQ := si_sync hI f; clear HD hI)
            generalize HQp : psyncD p f = q at HQ hQ
            clear HQp
            go_wp2_with (go_at_call 14; refine (dv_readk HQ 3 (by omega)).mono ?_; rintro e w5 ⟨g5, rfl, HR⟩; clear HQ)
            obtain ⟨m, hm⟩ : ∃ m, (q.f 3).1.length = m := ⟨_, rfl⟩
            have hle : (len0 : Int) ≤ (m : Int) := by have := hQ.1.length_le; have := HX.out; omega
            have hle2 : len0 ≤ m := by omega
            have hm2 : (m : Int) ≤ 1048576 := by have := (dv_len HR 3 (by omega)).1; omega
            have hs1 := fun nq => dv_safe (dv_drewN HR nq) 3
            have hs2 : psafe q 3 = (((q.f 3).2 : Nat) : Int) := rfl
            rw [hs2] at hs1
            have hs3 : (len0 : Int) ≤ (((q.f 3).2 : Nat) : Int) := by have := hQ.2; have := HX.out; omega
            clear hs2
            generalize (q.f 3).2 = sf at hs1 hs3
            have hc1 : ∀ nq, (convert 22 9 (.slice (some ⟨g5, 0, none⟩) len0 m)).run Try.prog (w5.drewN nq) = .ok (.string (strOfNums bs)) (w5.drewN nq) := fun nq => conv_src len0 m HX.out (src_keep (src_pre (row_src (dv_kr HR)) hQ.1) (bw_drewN (Below.refl _ _) nq))
            have hc2 : ∀ nq, (convert 22 9 (.slice a0 len0 cap0)).run Try.prog (w5.drewN nq) = .ok (.string (strOfNums bs)) (w5.drewN nq) := fun nq => conv_src len0 cap0 HX.out (src_keep SX.out (dv_below (dv_drewN HR nq)))
            rw [hm]
            have HH : Hid (DV w w5 D q _ ∧ SInv bs q) := ⟨HR, hQ⟩
            clear HR hQ hm
            go_wp2_with fail
            go_quiet ((go_at_call 15; exact quiet_flip (hs1 _)))
            clear hc1 hc2 hs1
            go_wp2_with fail
            go_round
            case rel => exact ⟨k + 1, q, _, by go_num, by omega, dv_drewN HH.1 _, HH.2⟩
            case measure => (simp [intOf]; try omega)
          · go_wp2_with (go_at_call 12; refine (dv_fail (dv_alloc HD _) n HN.out).mono ?_; rintro e w4 ⟨rfl, HQ⟩; have hQ := si_fail hI n; clear HD hI)
            generalize HQp : pfail p n = q at HQ hQ
            clear HQp
            go_wp2_with (go_at_call 14; refine (dv_readk HQ 3 (by omega)).mono ?_; rintro e w5 ⟨g5, rfl, HR⟩; clear HQ)
            obtain ⟨m, hm⟩ : ∃ m, (q.f 3).1.length = m := ⟨_, rfl⟩
            have hle : (len0 : Int) ≤ (m : Int) := by have := hQ.1.length_le; have := HX.out; omega
            have hle2 : len0 ≤ m := by omega
            have hm2 : (m : Int) ≤ 1048576 := by have := (dv_len HR 3 (by omega)).1; omega
            have hs1 := fun nq => dv_safe (dv_drewN HR nq) 3
            have hs2 : psafe q 3 = (((q.f 3).2 : Nat) : Int) := rfl
            rw [hs2] at hs1
            have hs3 : (len0 : Int) ≤ (((q.f 3).2 : Nat) : Int) := by have := hQ.2; have := HX.out; omega
            clear hs2
            generalize (q.f 3).2 = sf at hs1 hs3
            have hc1 : ∀ nq, (convert 22 9 (.slice (some ⟨g5, 0, none⟩) len0 m)).run Try.prog (w5.drewN nq) = .ok (.string (strOfNums bs)) (w5.drewN nq) := fun nq => conv_src len0 m HX.out (src_keep (src_pre (row_src (dv_kr HR)) hQ.1) (bw_drewN (Below.refl _ _) nq))
            have hc2 : ∀ nq, (convert 22 9 (.slice a0 len0 cap0)).run Try.prog (w5.drewN nq) = .ok (.string (strOfNums bs)) (w5.drewN nq) := fun nq => conv_src len0 cap0 HX.out (src_keep SX.out (dv_below (dv_drewN HR nq)))
            rw [hm]
            have HH : Hid (DV w w5 D q _ ∧ SInv bs q) := ⟨HR, hQ⟩
            clear HR hQ hm
            go_wp2_with fail
            go_quiet ((go_at_call 15; exact quiet_flip (hs1 _)))
            clear hc1 hc2 hs1
            go_wp2_with fail
            go_round
            case rel => exact ⟨k + 1, q, _, by go_num, by omega, dv_drewN HH.1 _, HH.2⟩
            case measure => (simp [intOf]; try omega)
          · go_wp2_with (go_at_call 13; refine (dv_crash (dv_alloc HD _) ks nk HL.out kp kcap SK.out).mono ?_; rintro e w4 ⟨rfl, HQ⟩; have hQ := si_crash hI ks; clear HD hI)
            generalize HQp : pcrash p ks = q at HQ hQ
            clear HQp
            go_wp2_with (go_at_call 14; refine (dv_readk HQ 3 (by omega)).mono ?_; rintro e w5 ⟨g5, rfl, HR⟩; clear HQ)
            obtain ⟨m, hm⟩ : ∃ m, (q.f 3).1.length = m := ⟨_, rfl⟩
            have hle : (len0 : Int) ≤ (m : Int) := by have := hQ.1.length_le; have := HX.out; omega
            have hle2 : len0 ≤ m := by omega
            have hm2 : (m : Int) ≤ 1048576 := by have := (dv_len HR 3 (by omega)).1; omega
            have hs1 := fun nq => dv_safe (dv_drewN HR nq) 3
            have hs2 : psafe q 3 = (((q.f 3).2 : Nat) : Int) := rfl
            rw [hs2] at hs1
            have hs3 : (len0 : Int) ≤ (((q.f 3).2 : Nat) : Int) := by have := hQ.2; have := HX.out; omega
            clear hs2
            generalize (q.f 3).2 = sf at hs1 hs3
            have hc1 : ∀ nq, (convert 22 9 (.slice (some ⟨g5, 0, none⟩) len0 m)).run Try.prog (w5.drewN nq) = .ok (.string (strOfNums bs)) (w5.drewN nq) := fun nq => conv_src len0 m HX.out (src_keep (src_pre (row_src (dv_kr HR)) hQ.1) (bw_drewN (Below.refl _ _) nq))
            have hc2 : ∀ nq, (convert 22 9 (.slice a0 len0 cap0)).run Try.prog (w5.drewN nq) = .ok (.string (strOfNums bs)) (w5.drewN nq) := fun nq => conv_src len0 cap0 HX.out (src_keep SX.out (dv_below (dv_drewN HR nq)))
            rw [hm]
            have HH : Hid (DV w w5 D q _ ∧ SInv bs q) := ⟨HR, hQ⟩
            clear HR hQ hm
            go_wp2_with fail
            go_quiet ((go_at_call 15; exact quiet_flip (hs1 _)))
            clear hc1 hc2 hs1
            go_wp2_with fail
            go_round
            case rel => exact ⟨k + 1, q, _, by go_num, by omega, dv_drewN HH.1 _, HH.2⟩
            case measure => (simp [intOf]; try omega)
          · go_wp2_with (go_at_call 14; refine (dv_readk (dv_alloc HD _) 3 (by omega)).mono ?_; rintro e w5 ⟨g5, rfl, HR⟩; have hQ := hI; clear HD hI)
            clear b0 b1 b2 b3 b4 b7 b8
            generalize p = q at HR hQ
            obtain ⟨m, hm⟩ : ∃ m, (q.f 3).1.length = m := ⟨_, rfl⟩
            have hle : (len0 : Int) ≤ (m : Int) := by have := hQ.1.length_le; have := HX.out; omega
            have hle2 : len0 ≤ m := by omega
            have hm2 : (m : Int) ≤ 1048576 := by have := (dv_len HR 3 (by omega)).1; omega
            have hs1 := fun nq => dv_safe (dv_drewN HR nq) 3
            have hs2 : psafe q 3 = (((q.f 3).2 : Nat) : Int) := rfl
            rw [hs2] at hs1
            have hs3 : (len0 : Int) ≤ (((q.f 3).2 : Nat) : Int) := by have := hQ.2; have := HX.out; omega
            clear hs2
            generalize (q.f 3).2 = sf at hs1 hs3
            have hc1 : ∀ nq, (convert 22 9 (.slice (some ⟨g5, 0, none⟩) len0 m)).run Try.prog (w5.drewN nq) = .ok (.string (strOfNums bs)) (w5.drewN nq) := fun nq => conv_src len0 m HX.out (src_keep (src_pre (row_src (dv_kr HR)) hQ.1) (bw_drewN (Below.refl _ _) nq))
            have hc2 : ∀ nq, (convert 22 9 (.slice a0 len0 cap0)).run Try.prog (w5.drewN nq) = .ok (.string (strOfNums bs)) (w5.drewN nq) := fun nq => conv_src len0 cap0 HX.out (src_keep SX.out (dv_below (dv_drewN HR nq)))
            rw [hm]
            have HH : Hid (DV w w5 D q _ ∧ SInv bs q) := ⟨HR, hQ⟩
            clear HR hQ hm
            go_wp2_with fail
            go_quiet ((go_at_call 15; exact quiet_flip (hs1 _)))
            clear hc1 hc2 hs1
            go_wp2_with fail
            go_round
            case rel => exact ⟨k + 1, q, _, by go_num, by omega, dv_drewN HH.1 _, HH.2⟩
            case measure => (simp [intOf]; try omega)
        · go_wp2_with (go_at_call 11; refine (known_k (dv_kr HD)).mono ?_; rintro e w2 ⟨rfl, HK2⟩)
          all_goals go_ret
          all_goals exact ⟨rfl, HK2.below⟩
      · go_wp2_with (go_at_call 11; refine (known_k (dv_kr HD)).mono ?_; rintro e w2 ⟨rfl, HK2⟩)
        all_goals go_ret
        all_goals exact ⟨rfl, HK2.below⟩
end Go.Proofs.Ytplonehidfefdaa.Own
