/- DiskPlays: the walk. No conditions beside those in each theorem. -/
import Derived.Test.YtplonehidfefdaaPv2
import Derived.Test.YtplonehidfefdaaSafe03
import Derived.Deep.QuietTactic
import Derived.BigQuiet
namespace Go.Proofs.Ytplonehidfefdaa.Own
open Go.RowKit
set_option linter.unusedSimpArgs false
set_option maxRecDepth 100000 in
set_option maxHeartbeats 4000000 in
theorem diskPlays_any (a0 : Option Addr) (len0 cap0 : Nat) (w : World)
    (c0 : ∃ xs : List AV, xs.length = len0 ∧ len0 ≤ 9223372036854775807 ∧ ∀ (j : Nat) (x : AV), xs[j]? = some x → ∃ A : Addr, a0 = some A ∧ AvAt w A j x ∧ x.nb ≤ 140737488351232) :
    Calls Try.prog 5 #[.slice a0 len0 cap0] w fun e W' => e = .returned (.bool true) ∧ Below w.heap.size w W' := by
  obtain ⟨us, hu, lu, su⟩ := c0
  have HU : Hid (us.length = len0) := hu
  have SU : Hid (∀ (j : Nat) (x : AV), us[j]? = some x → ∃ A : Addr, a0 = some A ∧ AvAt w A j x ∧ x.nb ≤ 140737488351232) := su
  clear hu su
  have kc := fun (w : World) (C : Array Value) (n c : Nat) => Lib.run_convert_bytes_const (P := Try.prog) w 22 5 C n c Try.underlying22 Try.underlying5
  go_enter Try.func5, Try.ntmps5
  go_wp2_with (go_at_call 8; refine (pv_one (kr_refl w)).mono ?_; rintro e w1 ⟨D, rfl, HK⟩)
  go_wp2_with (go_at_call 17; refine (pv_two HK).mono ?_; rintro e w2 ⟨R, rfl, HP⟩; clear HK)
  go_loopw [3, 5] (fun v3 v5 W => ∃ (k : Nat) (p : PD) (D : Nat), v5 = .int .i64 k ∧ k ≤ 60 ∧ v3 = .pointer (some ⟨D, 0, none⟩) ∧ PV w W D R p p [] []) (fun _ v5 _ => 60 - (intOf v5).toNat)
  case atStart => exact ⟨0, pnew, D, rfl, by omega, rfl, HP⟩
  case round =>
    clear HP
    obtain ⟨k, p, D, rfl, hk, rfl, HP⟩ := hrel
    by_cases hlt : k < len0
    · by_cases h60 : k < 60
      · obtain ⟨x, hx⟩ : ∃ x, us[k]? = some x := ⟨us[k]'(by have := HU.out; omega), List.getElem?_eq_getElem _⟩
        obtain ⟨A, hA, hat0, hxb⟩ := SU.out k x hx
        subst hA
        clear hx SU
        have HO : Hid (AvOk w x) := av_ok hat0 hxb
        have hat := av_keep hat0 (pv_below HP)
        clear hat0 hxb
        obtain ⟨kd, f, g, n, ys, ks, nb, nk, bp, bcap, kp, kcap⟩ := x
        obtain ⟨e0, e1, e2, e3, e4, e5, _, _, _, _, _, _, _⟩ := hat
        dsimp only at e0 e1 e2 e3 e4 e5
        rw [add_lit A _ _ (by omega)] at e1 e2 e3 e4 e5
        obtain ⟨X, hX⟩ : ∃ X, wr.heap.size = X := ⟨_, rfl⟩
        have HX : Hid (wr.heap.size = X) := hX
        have HN := pv_new HP [.int .i64 kd, .int .i64 f, .int .i64 g, .slice bp nb bcap, .int .i64 n, .slice kp nk kcap] 32
        rw [hX] at HN
        clear hX HP
        by_cases h9 : kd = 9
        · subst h9
          clear HO
          go_wp2_with (first | (go_at_call 18; rw [HX.out]; generalize wr.alloc _ = W1 at HN ⊢; refine (pv_copyC HN).mono ?_; rintro e w3 ⟨D2, rfl, HC⟩; clear HN) | (go_at_call 9; refine (pc_append (pc_alloc HC _) 0 [122, 122] 2 rfl _ 2 (src_const _ [122, 122] _ _)).mono ?_; rintro e w4 ⟨rfl, HC2⟩; clear HC) | (go_at_call 13; refine (pc_crash HC2).mono ?_; rintro e w5 ⟨rfl, HC3⟩; have HP := pc_drop HC3; clear HC2 HC3))
          go_loopw [8] (fun v8 W => ∃ (m : Nat), v8 = .int .i64 m ∧ m ≤ 8 ∧ PV w W D2 R p p [(X, [.int .i64 9, .int .i64 f, .int .i64 g, .slice bp nb bcap, .int .i64 n, .slice kp nk kcap])] []) (fun v8 _ => 8 - (intOf v8).toNat)
          case atStart => exact ⟨0, rfl, by omega, HP⟩
          case round =>
            clear HP
            obtain ⟨m, rfl, hm, HP⟩ := hrel
            by_cases hm8 : m < 8
            · have hmi : (m : Int) < 8 := by omega
              go_wp2_with (first | (go_at_call 14; have HLn := (pv_len HP m hm8).1; refine (pv_readk HP m hm8).mono ?_; rintro e w8 ⟨g8, rfl, HQ⟩; clear HP) | (go_at_call 20; refine (pv_rreadk HQ m hm8).mono ?_; rintro e w9 ⟨v9, l9, rfl, hF, HP⟩; clear HQ; have q1 := row_conv' HP (g := g8) (bs := (p.f m).1) (List.mem_append_right _ List.mem_cons_self); have q2 := fc_conv' HP hF; generalize strOfNums (p.f m).1 = sb at q1 q2) | (go_at_call 15; refine (pv_safe HP _).mono ?_; rintro e w' ⟨rfl, rfl⟩) | (go_at_call 21; refine (pv_rsafe HP _).mono ?_; rintro e w' ⟨rfl, rfl⟩) | (go_at_call 22; refine (pv_spoil (pv_sub HP (List.sublist_append_right _ _)) _ _ (by rw [bc_len]; omega) (by omega)).mono ?_; rintro e w10 ⟨rfl, HR⟩; clear HP q1 q2))
              go_round
              case rel => exact ⟨m + 1, by go_num, by omega, HR⟩
              case measure => (simp [intOf]; try omega)
            · have hex8 : (8 : Int) ≤ (m : Int) := by omega
              have c1 := kr_cell (pv_kr HP) 0 rfl 1 _ rfl
              go_wp2_with (first | (go_at_call 14; refine (pv_read HP f).mono ?_; rintro e w8 ⟨v8, l8, rfl, _, HQ⟩; clear HP c1; have HR := pv_sub HQ (List.sublist_append_right _ _); clear HQ; have c1 := kr_cell (pv_kr HR) 0 rfl 1 _ rfl) | (go_at_call 20; refine (pv_rread HR f).mono ?_; rintro e w9 ⟨v9, l9, rfl, _, HQ⟩; clear HR c1; have HT := pv_sub HQ (List.sublist_append_right _ _); clear HQ; have c1 := kr_cell (pv_kr HT) 0 rfl 1 _ rfl))
              have qd := fun nq => pv_dead (pv_drewN HT nq)
              have qs := fun nq => pv_safe (pv_drewN HT nq) f
              have qt := fun nq => pv_rsafe (pv_drewN HT nq) f
              have qr := pv_rdead HT
              generalize psafe p f = sf at qs qt
              go_quiet ((first | (go_at_call 15; exact quiet_flip (qs _)) | (go_at_call 21; exact quiet_flip (qt _)) | (go_at_call 23; exact quiet_flip (qd _))))
              clear qd qs qt qr c1
              go_wp2_with fail
              go_round
              case rel => exact ⟨k + 1, p, D2, by go_num, by omega, rfl, pv_drewN (pv_tail HT) _⟩
              case measure => (simp [intOf]; try omega)
        · have hb9 : (kd == 9) = false := by simpa using h9
          go_wp2_with (go_at_call 19; rw [HX.out]; generalize wr.alloc _ = W1 at HN ⊢; refine (do_k HN ⟨kd, f, g, n, ys, ks, nb, nk, bp, bcap, kp, kcap⟩ HO.out).mono ?_; rintro e w3 ⟨rfl, p3, HP⟩; clear HN HO hb9)
          generalize p3 = p at HP
          go_loopw [8] (fun v8 W => ∃ (m : Nat), v8 = .int .i64 m ∧ m ≤ 8 ∧ PV w W D R p p [(X, [.int .i64 kd, .int .i64 f, .int .i64 g, .slice bp nb bcap, .int .i64 n, .slice kp nk kcap])] []) (fun v8 _ => 8 - (intOf v8).toNat)
          case atStart => exact ⟨0, rfl, by omega, HP⟩
          case round =>
            clear HP
            obtain ⟨m, rfl, hm, HP⟩ := hrel
            by_cases hm8 : m < 8
            · have hmi : (m : Int) < 8 := by omega
              go_wp2_with (first | (go_at_call 14; have HLn := (pv_len HP m hm8).1; refine (pv_readk HP m hm8).mono ?_; rintro e w8 ⟨g8, rfl, HQ⟩; clear HP) | (go_at_call 20; refine (pv_rreadk HQ m hm8).mono ?_; rintro e w9 ⟨v9, l9, rfl, hF, HP⟩; clear HQ; have q1 := row_conv' HP (g := g8) (bs := (p.f m).1) (List.mem_append_right _ List.mem_cons_self); have q2 := fc_conv' HP hF; generalize strOfNums (p.f m).1 = sb at q1 q2) | (go_at_call 15; refine (pv_safe HP _).mono ?_; rintro e w' ⟨rfl, rfl⟩) | (go_at_call 21; refine (pv_rsafe HP _).mono ?_; rintro e w' ⟨rfl, rfl⟩) | (go_at_call 22; refine (pv_spoil (pv_sub HP (List.sublist_append_right _ _)) _ _ (by rw [bc_len]; omega) (by omega)).mono ?_; rintro e w10 ⟨rfl, HR⟩; clear HP q1 q2))
              go_round
              case rel => exact ⟨m + 1, by go_num, by omega, HR⟩
              case measure => (simp [intOf]; try omega)
            · have hex8 : (8 : Int) ≤ (m : Int) := by omega
              have c1 := kr_cell (pv_kr HP) 0 rfl 1 _ rfl
              go_wp2_with (first | (go_at_call 14; refine (pv_read HP f).mono ?_; rintro e w8 ⟨v8, l8, rfl, _, HQ⟩; clear HP c1; have HR := pv_sub HQ (List.sublist_append_right _ _); clear HQ; have c1 := kr_cell (pv_kr HR) 0 rfl 1 _ rfl) | (go_at_call 20; refine (pv_rread HR f).mono ?_; rintro e w9 ⟨v9, l9, rfl, _, HQ⟩; clear HR c1; have HT := pv_sub HQ (List.sublist_append_right _ _); clear HQ; have c1 := kr_cell (pv_kr HT) 0 rfl 1 _ rfl))
              have qd := fun nq => pv_dead (pv_drewN HT nq)
              have qs := fun nq => pv_safe (pv_drewN HT nq) f
              have qt := fun nq => pv_rsafe (pv_drewN HT nq) f
              have qr := pv_rdead HT
              generalize psafe p f = sf at qs qt
              go_quiet ((first | (go_at_call 15; exact quiet_flip (qs _)) | (go_at_call 21; exact quiet_flip (qt _)) | (go_at_call 23; exact quiet_flip (qd _))))
              clear qd qs qt qr c1
              go_wp2_with fail
              go_round
              case rel => exact ⟨k + 1, p, D, by go_num, by omega, rfl, pv_drewN (pv_tail HT) _⟩
              case measure => (simp [intOf]; try omega)
      · go_wp2_with (go_at_call 11; refine (pv_known HP).mono ?_; rintro e w' ⟨rfl, HQ⟩)
        all_goals go_ret
        all_goals exact ⟨rfl, pv_below HQ⟩
    · go_wp2_with (go_at_call 11; refine (pv_known HP).mono ?_; rintro e w' ⟨rfl, HQ⟩)
      all_goals go_ret
      all_goals exact ⟨rfl, pv_below HQ⟩
end Go.Proofs.Ytplonehidfefdaa.Own
