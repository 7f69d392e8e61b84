/- DiskCopy: the walk. No conditions beside those in each theorem. -/
import Derived.Test.YtplonehidfefdaaPv2
import Derived.Test.YtplonehidfefdaaSafe03
import Derived.Deep.QuietTactic
import Derived.BigQuiet
namespace Go.Proofs.Ytplonehidfefdaa.Own
open Go.RowKit
set_option linter.unusedSimpArgs false
set_option maxRecDepth 100000 in
set_option maxHeartbeats 4000000 in
theorem diskCopy_any (a0 : Option Addr) (len0 cap0 : Nat) (a1 : Option Addr) (len1 cap1 : Nat) (w : World)
    (c0 : ∃ xs : List AV, xs.length = len0 ∧ len0 ≤ 9223372036854775807 ∧ ∀ (j : Nat) (x : AV), xs[j]? = some x → ∃ A : Addr, a0 = some A ∧ AvAt w A j x ∧ x.nb ≤ 140737488351232)
    (c1 : ∃ xs : List AV, xs.length = len1 ∧ len1 ≤ 9223372036854775807 ∧ ∀ (j : Nat) (x : AV), xs[j]? = some x → ∃ A : Addr, a1 = some A ∧ AvAt w A j x ∧ x.nb ≤ 140737488351232) :
    Calls Try.prog 7 #[.slice a0 len0 cap0, .slice a1 len1 cap1] w fun e W' => e = .returned (.bool true) ∧ Below w.heap.size w W' := by
  obtain ⟨us, hu, lu, su⟩ := c0
  obtain ⟨vs, hv, lv, sv⟩ := c1
  have HU : Hid (us.length = len0) := hu
  have SU : Hid (∀ (j : Nat) (x : AV), us[j]? = some x → ∃ A : Addr, a0 = some A ∧ AvAt w A j x ∧ x.nb ≤ 140737488351232) := su
  have HV : Hid (vs.length = len1) := hv
  have SV : Hid (∀ (j : Nat) (x : AV), vs[j]? = some x → ∃ A : Addr, a1 = some A ∧ AvAt w A j x ∧ x.nb ≤ 140737488351232) := sv
  clear hu su hv sv
  go_enter Try.func7, Try.ntmps7
  go_wp2_with (go_at_call 8; refine (pv_one (kr_refl w)).mono ?_; rintro e w1 ⟨D, rfl, HK⟩)
  go_wp2_with (go_at_call 17; refine (pv_two HK).mono ?_; rintro e w2 ⟨R, rfl, HP⟩; clear HK)
  go_loopw [7] (fun v7 W => ∃ (k : Nat) (p : PD), v7 = .int .i64 k ∧ k ≤ 30 ∧ PV w W D R p p [] []) (fun v7 _ => 30 - (intOf v7).toNat)
  case atStart => exact ⟨0, pnew, rfl, by omega, HP⟩
  case round =>
    clear HP
    obtain ⟨k, p, rfl, hk, HP⟩ := hrel
    by_cases hgo : k < len0 ∧ k < 30
    · obtain ⟨hlt, h30⟩ := hgo
      obtain ⟨x, hx⟩ : ∃ x, us[k]? = some x := ⟨us[k]'(by have := HU.out; omega), List.getElem?_eq_getElem _⟩
      obtain ⟨A, hA, hat0, hxb⟩ := SU.out k x hx
      subst hA
      clear hx SU
      have HO : Hid (AvOk w x) := av_ok hat0 hxb
      have hat := av_keep hat0 (pv_below HP)
      have e0 := hat.c0
      have e1 := hat.c1
      have e2 := hat.c2
      have e3 := hat.c3
      have e4 := hat.c4
      have e5 := hat.c5
      rw [add_lit A _ _ (by omega)] at e1 e2 e3 e4 e5
      clear hat0 hat hxb
      go_wp2_with (go_at_call 19; refine (do_k HP x HO.out).mono ?_; rintro e w3 ⟨rfl, p3, HQ⟩; clear HP)
      go_round
      case rel => exact ⟨k + 1, p3, by go_num, by omega, HQ⟩
      case measure => (simp [intOf]; try omega)
    · have hex : (len0 : Int) ≤ (k : Int) ∨ ((k : Int) < (len0 : Int) ∧ (30 : Int) ≤ (k : Int)) := by omega
      have HE : Hid (¬(k < len0 ∧ k < 30)) := hgo
      clear hgo
      rcases hex with hex | ⟨hey, hex⟩
      · skip
        go_wp2_with (first | (go_at_call 18; refine (cs_one HP).mono ?_; rintro e w4 ⟨D2, rfl, HC1⟩; clear HP) | (go_at_call 25; refine (cs_two HC1).mono ?_; rintro e w5 ⟨R2, rfl, HC⟩; clear HC1))
        go_loopw [10] (fun v10 W => ∃ (k2 : Nat) (p2 : PD), v10 = .int .i64 k2 ∧ k2 ≤ 30 ∧ CS2 w W D R D2 R2 p p2) (fun v10 _ => 30 - (intOf v10).toNat)
        case atStart => exact ⟨0, p, rfl, by omega, HC⟩
        case round =>
          clear HC
          obtain ⟨k2, p2, rfl, hk2, HC⟩ := hrel
          by_cases hgo : k2 < len1 ∧ k2 < 30
          · obtain ⟨hlt, h30⟩ := hgo
            obtain ⟨x, hx⟩ : ∃ x, vs[k2]? = some x := ⟨vs[k2]'(by have := HV.out; omega), List.getElem?_eq_getElem _⟩
            obtain ⟨A, hA, hat0, hxb⟩ := SV.out k2 x hx
            subst hA
            clear hx SV
            have HO : Hid (AvOk w x) := av_ok hat0 hxb
            have hat := av_keep hat0 (cs_kr HC)
            have e0 := hat.c0
            have e1 := hat.c1
            have e2 := hat.c2
            have e3 := hat.c3
            have e4 := hat.c4
            have e5 := hat.c5
            rw [add_lit A _ _ (by omega)] at e1 e2 e3 e4 e5
            clear hat0 hat hxb
            go_wp2_with (go_at_call 19; refine (do_c HC x HO.out).mono ?_; rintro e w6 ⟨rfl, p6, HQ⟩; clear HC)
            go_round
            case rel => exact ⟨k2 + 1, p6, by go_num, by omega, HQ⟩
            case measure => (simp [intOf]; try omega)
          · have hex2 : (len1 : Int) ≤ (k2 : Int) ∨ ((k2 : Int) < (len1 : Int) ∧ (30 : Int) ≤ (k2 : Int)) := by omega
            have HE2 : Hid (¬(k2 < len1 ∧ k2 < 30)) := hgo
            have HB := cs_back HC
            clear hgo HC
            rcases hex2 with hex2 | ⟨hey2, hex2⟩
            · go_wp2_with fail
              clear HE2 hk2
              go_loopw [11] (fun v11 W => ∃ (m : Nat), v11 = .int .i64 m ∧ m ≤ 8 ∧ PV w W D R p p [] []) (fun v11 _ => 8 - (intOf v11).toNat)
              case atStart => exact ⟨0, rfl, by omega, HB⟩
              case round =>
                clear HB
                obtain ⟨m, rfl, hm, HP⟩ := hrel
                by_cases hm8 : m < 8
                · have hmi : (m : Int) < 8 := by omega
                  go_wp2_with (first | (go_at_call 14; refine (pv_readk HP m hm8).mono ?_; rintro e w8 ⟨g8, rfl, HQ⟩; clear HP) | (go_at_call 20; refine (pv_rreadk HQ m hm8).mono ?_; rintro e w9 ⟨v9, l9, rfl, hF, HP⟩; clear HQ; have q1 := row_conv' HP (g := g8) (bs := (p.f m).1) (List.mem_append_right _ List.mem_cons_self); have q2 := fc_conv' HP hF; generalize strOfNums (p.f m).1 = sb at q1 q2) | (go_at_call 15; refine (pv_safe HP _).mono ?_; rintro e w' ⟨rfl, rfl⟩) | (go_at_call 21; refine (pv_rsafe HP _).mono ?_; rintro e w' ⟨rfl, rfl⟩))
                  go_round
                  case rel => exact ⟨m + 1, by go_num, by omega, pv_sub HP (List.nil_sublist _)⟩
                  case measure => (simp [intOf]; try omega)
                · have hex8 : (8 : Int) ≤ (m : Int) := by omega
                  have HP := pv_drew HP
                  have qr := pv_rdead HP
                  rw [World.cell?_drew] at qr
                  go_wp2_with fail
                  go_region_held3 (fun W => W.cell? ⟨R, 2, none⟩ = some (.bool p.dead)) (first | exact qr2 | go_keep) (first | (go_at_call 23; refine (pv_dead HP).mono ?_; rintro e w' ⟨rfl, rfl⟩) | (go_at_call 11; refine (pv_known HP).mono ?_; rintro e w' ⟨rfl, HQ⟩; have qr2 := pv_rdead HQ))
                  all_goals go_wp2_with fail
                  all_goals go_ret
                  all_goals exact ⟨rfl, pv_below HQ⟩

            · go_wp2_with fail
              clear HE2 hk2
              go_loopw [11] (fun v11 W => ∃ (m : Nat), v11 = .int .i64 m ∧ m ≤ 8 ∧ PV w W D R p p [] []) (fun v11 _ => 8 - (intOf v11).toNat)
              case atStart => exact ⟨0, rfl, by omega, HB⟩
              case round =>
                clear HB
                obtain ⟨m, rfl, hm, HP⟩ := hrel
                by_cases hm8 : m < 8
                · have hmi : (m : Int) < 8 := by omega
                  go_wp2_with (first | (go_at_call 14; refine (pv_readk HP m hm8).mono ?_; rintro e w8 ⟨g8, rfl, HQ⟩; clear HP) | (go_at_call 20; refine (pv_rreadk HQ m hm8).mono ?_; rintro e w9 ⟨v9, l9, rfl, hF, HP⟩; clear HQ; have q1 := row_conv' HP (g := g8) (bs := (p.f m).1) (List.mem_append_right _ List.mem_cons_self); have q2 := fc_conv' HP hF; generalize strOfNums (p.f m).1 = sb at q1 q2) | (go_at_call 15; refine (pv_safe HP _).mono ?_; rintro e w' ⟨rfl, rfl⟩) | (go_at_call 21; refine (pv_rsafe HP _).mono ?_; rintro e w' ⟨rfl, rfl⟩))
                  go_round
                  case rel => exact ⟨m + 1, by go_num, by omega, pv_sub HP (List.nil_sublist _)⟩
                  case measure => (simp [intOf]; try omega)
                · have hex8 : (8 : Int) ≤ (m : Int) := by omega
                  have HP := pv_drew HP
                  have qr := pv_rdead HP
                  rw [World.cell?_drew] at qr
                  go_wp2_with fail
                  go_region_held3 (fun W => W.cell? ⟨R, 2, none⟩ = some (.bool p.dead)) (first | exact qr2 | go_keep) (first | (go_at_call 23; refine (pv_dead HP).mono ?_; rintro e w' ⟨rfl, rfl⟩) | (go_at_call 11; refine (pv_known HP).mono ?_; rintro e w' ⟨rfl, HQ⟩; have qr2 := pv_rdead HQ))
                  all_goals go_wp2_with fail
                  all_goals go_ret
                  all_goals exact ⟨rfl, pv_below HQ⟩

      · skip
        go_wp2_with (first | (go_at_call 18; refine (cs_one HP).mono ?_; rintro e w4 ⟨D2, rfl, HC1⟩; clear HP) | (go_at_call 25; refine (cs_two HC1).mono ?_; rintro e w5 ⟨R2, rfl, HC⟩; clear HC1))
        go_loopw [10] (fun v10 W => ∃ (k2 : Nat) (p2 : PD), v10 = .int .i64 k2 ∧ k2 ≤ 30 ∧ CS2 w W D R D2 R2 p p2) (fun v10 _ => 30 - (intOf v10).toNat)
        case atStart => exact ⟨0, p, rfl, by omega, HC⟩
        case round =>
          clear HC
          obtain ⟨k2, p2, rfl, hk2, HC⟩ := hrel
          by_cases hgo : k2 < len1 ∧ k2 < 30
          · obtain ⟨hlt, h30⟩ := hgo
            obtain ⟨x, hx⟩ : ∃ x, vs[k2]? = some x := ⟨vs[k2]'(by have := HV.out; omega), List.getElem?_eq_getElem _⟩
            obtain ⟨A, hA, hat0, hxb⟩ := SV.out k2 x hx
            subst hA
            clear hx SV
            have HO : Hid (AvOk w x) := av_ok hat0 hxb
            have hat := av_keep hat0 (cs_kr HC)
            have e0 := hat.c0
            have e1 := hat.c1
            have e2 := hat.c2
            have e3 := hat.c3
            have e4 := hat.c4
            have e5 := hat.c5
            rw [add_lit A _ _ (by omega)] at e1 e2 e3 e4 e5
            clear hat0 hat hxb
            go_wp2_with (go_at_call 19; refine (do_c HC x HO.out).mono ?_; rintro e w6 ⟨rfl, p6, HQ⟩; clear HC)
            go_round
            case rel => exact ⟨k2 + 1, p6, by go_num, by omega, HQ⟩
            case measure => (simp [intOf]; try omega)
          · have hex2 : (len1 : Int) ≤ (k2 : Int) ∨ ((k2 : Int) < (len1 : Int) ∧ (30 : Int) ≤ (k2 : Int)) := by omega
            have HE2 : Hid (¬(k2 < len1 ∧ k2 < 30)) := hgo
            have HB := cs_back HC
            clear hgo HC
            rcases hex2 with hex2 | ⟨hey2, hex2⟩
            · go_wp2_with fail
              clear HE2 hk2
              go_loopw [11] (fun v11 W => ∃ (m : Nat), v11 = .int .i64 m ∧ m ≤ 8 ∧ PV w W D R p p [] []) (fun v11 _ => 8 - (intOf v11).toNat)
              case atStart => exact ⟨0, rfl, by omega, HB⟩
              case round =>
                clear HB
                obtain ⟨m, rfl, hm, HP⟩ := hrel
                by_cases hm8 : m < 8
                · have hmi : (m : Int) < 8 := by omega
                  go_wp2_with (first | (go_at_call 14; refine (pv_readk HP m hm8).mono ?_; rintro e w8 ⟨g8, rfl, HQ⟩; clear HP) | (go_at_call 20; refine (pv_rreadk HQ m hm8).mono ?_; rintro e w9 ⟨v9, l9, rfl, hF, HP⟩; clear HQ; have q1 := row_conv' HP (g := g8) (bs := (p.f m).1) (List.mem_append_right _ List.mem_cons_self); have q2 := fc_conv' HP hF; generalize strOfNums (p.f m).1 = sb at q1 q2) | (go_at_call 15; refine (pv_safe HP _).mono ?_; rintro e w' ⟨rfl, rfl⟩) | (go_at_call 21; refine (pv_rsafe HP _).mono ?_; rintro e w' ⟨rfl, rfl⟩))
                  go_round
                  case rel => exact ⟨m + 1, by go_num, by omega, pv_sub HP (List.nil_sublist _)⟩
                  case measure => (simp [intOf]; try omega)
                · have hex8 : (8 : Int) ≤ (m : Int) := by omega
                  have HP := pv_drew HP
                  have qr := pv_rdead HP
                  rw [World.cell?_drew] at qr
                  go_wp2_with fail
                  go_region_held3 (fun W => W.cell? ⟨R, 2, none⟩ = some (.bool p.dead)) (first | exact qr2 | go_keep) (first | (go_at_call 23; refine (pv_dead HP).mono ?_; rintro e w' ⟨rfl, rfl⟩) | (go_at_call 11; refine (pv_known HP).mono ?_; rintro e w' ⟨rfl, HQ⟩; have qr2 := pv_rdead HQ))
                  all_goals go_wp2_with fail
                  all_goals go_ret
                  all_goals exact ⟨rfl, pv_below HQ⟩

            · go_wp2_with fail
              clear HE2 hk2
              go_loopw [11] (fun v11 W => ∃ (m : Nat), v11 = .int .i64 m ∧ m ≤ 8 ∧ PV w W D R p p [] []) (fun v11 _ => 8 - (intOf v11).toNat)
              case atStart => exact ⟨0, rfl, by omega, HB⟩
              case round =>
                clear HB
                obtain ⟨m, rfl, hm, HP⟩ := hrel
                by_cases hm8 : m < 8
                · have hmi : (m : Int) < 8 := by omega
                  go_wp2_with (first | (go_at_call 14; refine (pv_readk HP m hm8).mono ?_; rintro e w8 ⟨g8, rfl, HQ⟩; clear HP) | (go_at_call 20; refine (pv_rreadk HQ m hm8).mono ?_; rintro e w9 ⟨v9, l9, rfl, hF, HP⟩; clear HQ; have q1 := row_conv' HP (g := g8) (bs := (p.f m).1) (List.mem_append_right _ List.mem_cons_self); have q2 := fc_conv' HP hF; generalize strOfNums (p.f m).1 = sb at q1 q2) | (go_at_call 15; refine (pv_safe HP _).mono ?_; rintro e w' ⟨rfl, rfl⟩) | (go_at_call 21; refine (pv_rsafe HP _).mono ?_; rintro e w' ⟨rfl, rfl⟩))
                  go_round
                  case rel => exact ⟨m + 1, by go_num, by omega, pv_sub HP (List.nil_sublist _)⟩
                  case measure => (simp [intOf]; try omega)
                · have hex8 : (8 : Int) ≤ (m : Int) := by omega
                  have HP := pv_drew HP
                  have qr := pv_rdead HP
                  rw [World.cell?_drew] at qr
                  go_wp2_with fail
                  go_region_held3 (fun W => W.cell? ⟨R, 2, none⟩ = some (.bool p.dead)) (first | exact qr2 | go_keep) (first | (go_at_call 23; refine (pv_dead HP).mono ?_; rintro e w' ⟨rfl, rfl⟩) | (go_at_call 11; refine (pv_known HP).mono ?_; rintro e w' ⟨rfl, HQ⟩; have qr2 := pv_rdead HQ))
                  all_goals go_wp2_with fail
                  all_goals go_ret
                  all_goals exact ⟨rfl, pv_below HQ⟩

end Go.Proofs.Ytplonehidfefdaa.Own
