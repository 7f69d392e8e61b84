/- What the reference's Crash does with its disk in memory. No conditions beside those in each theorem. -/
import Derived.Test.YtaonaifnaecpiaaRd5
namespace Go.Proofs.Ytaonaifnaecpiaa.Own
open Go.RowKit
set_option linter.unusedSimpArgs false
theorem rr_crash {w W : World} {R B cap : Nat} {tl : List Value} {rs : List (Nat × List Value)} {d : Dk} {keeps : List Int} {k : Nat} (hk : k < 8) (h : RR w W R B cap tl (crD d keeps k) rs) (v : Value) (n : Int) (hv : crF (d.f k) keeps[k]? = (v, n)) : RR w ((W.setCell ⟨B, k * 2, none⟩ v).setCell ⟨B, k * 2 + 1, none⟩ (.int .i64 n)) R B cap tl (crD d keeps (k + 1)) rs := by
  have := rr_setF h k hk v n
  rwa [crD_next d keeps k v n hv] at this
set_option maxHeartbeats 2000000 in
theorem rcrash_k (d : Dk) (R B cap : Nat) (hcap : 8 ≤ cap) (tl : List Value) (keeps : List Int) (n : Nat) (hn : Hid (keeps.length = n)) (co : Option Addr) (cp : Nat) (hf : ∀ i, i < 8 → ∃ sx m cx s, d.f i = (.slice sx m cx, ((s : Nat) : Int)) ∧ s ≤ m ∧ m ≤ cx ∧ m ≤ 1048576 ∧ (sx = none → cx = 0)) {w W : World} {rs : List (Nat × List Value)} (HK : RR w W R B cap tl d rs)
    (hkeep : ∀ (W1 : World), KR w rs W1 → ∀ j, j < n → ∃ A, co = some A ∧ W1.cell? (A.add j) = some (.int .i64 (keeps.getD j 0))) :
    Calls Try.prog 39 #[.pointer (some ⟨R, 0, none⟩), .slice co n cp] W fun e W' => e = .returned (.tuple #[]) ∧ RR w W' R B cap tl ({ crD d keeps 8 with left := 0, dead := false } : Dk) rs := by
  have hRB := rr_ne HK
  have hBR := Ne.symm hRB
  go_enter Try.func39, Try.ntmps39
  go_wp2
  go_loopw [4] (fun v4 W => ∃ k : Nat, v4 = .int .i64 k ∧ k ≤ 8 ∧ RR w W R B cap tl (crD d keeps k) rs) (fun v4 _ => 8 - (intOf v4).toNat)
  case atStart => exact ⟨0, rfl, by omega, by rw [crD_zero]; exact HK⟩
  case round =>
    clear HK
    obtain ⟨k, rfl, hk, HK⟩ := hrel
    by_cases hlt : k < 8
    · obtain ⟨sx, m, cx, s, h1, hs1, hs2, hs3, hs4⟩ := hf k hlt
      have k0 := rr_h0 HK
      have ka := rr_a HK k hlt
      have kb := rr_b HK k hlt
      have hfk : (crD d keeps k).f k = (.slice sx m cx, ((s : Nat) : Int)) := by unfold crD; simp [h1]
      rw [hfk] at ka kb
      have fa := rr_fa HK k hlt
      have fb := rr_fb HK k hlt
      have hk2 : (k : Int) < 8 := by omega
      have hkc : k < cap := by omega
      by_cases hkn : k < n
      · obtain ⟨A, hA, hx⟩ := hkeep _ (kr_tail (kr_tail HK)) k hkn
        subst hA
        obtain ⟨x, hxe⟩ : ∃ x, keeps.getD k 0 = x := ⟨_, rfl⟩
        rw [hxe] at hx
        have hv : ∀ n' : Nat, n' = crN s m (some x) → crF (d.f k) keeps[k]? = (.slice sx n' n', ((n' : Nat) : Int)) := by
          intro n' h
          have hkl : k < keeps.length := by have := hn.out; omega
          rw [h1, List.getElem?_eq_getElem hkl]
          have : keeps[k] = x := by rw [← hxe, List.getD_eq_getElem?_getD, List.getElem?_eq_getElem hkl]; rfl
          rw [this, h]
          simp [crF]
        have HH : Hid (RR w wr R B cap tl (crD d keeps k) rs) := HK
        have HV : Hid (∀ n' : Nat, n' = crN s m (some x) → crF (d.f k) keeps[k]? = (.slice sx n' n', ((n' : Nat) : Int))) := hv
        clear HK hkeep hf hfk h1 hv hxe
        by_cases hx0 : 0 < x
        · by_cases hx1 : (m : Int) - (s : Int) < x
          · go_wp2_with fail
            obtain ⟨n', hn'⟩ : ∃ n' : Nat, n' = m := ⟨_, rfl⟩
            rw [show ((s : Int) + ((m : Int) - (s : Int))) = ((n' : Nat) : Int) from by omega]
            have HL : Hid (n' ≤ m ∧ crF (d.f k) keeps[k]? = (.slice sx n' n', ((n' : Nat) : Int))) := ⟨by omega, HV.out n' (by unfold crN; dsimp only; omega)⟩
            clear hn' hx0 hx1 HV
            have hle1 : n' ≤ m := HL.out.1
            have hle2 : (n' : Int) ≤ (m : Int) := by omega
            have hle3 : n' ≤ cx := by omega
            have hle4 : (n' : Int) ≤ (cx : Int) := by omega
            have hvn := HL.out.2
            clear HL
            have HX := kr_new HH.out [.slice sx m cx, .int .i64 (s : Int)] 95
            obtain ⟨X, hXX⟩ : ∃ X, wr.heap.size = X := ⟨_, rfl⟩
            rw [hXX] at HX ⊢
            generalize wr.alloc (.cells #[.slice sx m cx, .int .i64 (s : Int)] 95) = w2 at HX ⊢
            clear hXX k0 ka kb fa fb
            have hBX : B ≠ X := fun e => (List.pairwise_cons.1 HX.apart).1 (B, rF (crD d keeps k) tl) (List.mem_cons_of_mem _ List.mem_cons_self) e.symm
            have kx0 := kr_cell HX 0 rfl 0 _ rfl
            have HR : RR w w2 R B cap tl (crD d keeps k) rs := kr_tail HX
            have k0 := rr_h0 HR
            have ka := rr_a HR k hlt
            have kb := rr_b HR k hlt
            have fa := rr_fa HR k hlt
            have fb := rr_fb HR k hlt
            have HN : Hid (RR w _ R B cap tl (crD d keeps (k + 1)) rs) := rr_crash hlt (rr_drew HR) (.slice sx n' n') (n' : Int) hvn
            clear HX HR HH hvn
            go_region_held3 (fun W => W.cell? ⟨R, 0, none⟩ = some (.slice (some ⟨B, 0, none⟩) 8 cap) ∧ W.cell? ⟨X, 0, none⟩ = some (.slice sx m cx)) (go_keep) (fail)
            clear k0 ka kb fa fb kx0
            go_wp2_with fail
            go_round
            case rel => exact ⟨k + 1, by simp, by omega, HN.out⟩
            case measure => (simp [intOf]; try omega)
          · go_wp2_with fail
            obtain ⟨n', hn'⟩ : ∃ n' : Nat, (n' : Int) = (s : Int) + x := ⟨((s : Int) + x).toNat, by omega⟩
            rw [← hn']
            have HL : Hid (n' ≤ m ∧ crF (d.f k) keeps[k]? = (.slice sx n' n', ((n' : Nat) : Int))) := ⟨by omega, HV.out n' (by unfold crN; dsimp only; omega)⟩
            clear hn' hx0 hx1 HV
            have hle1 : n' ≤ m := HL.out.1
            have hle2 : (n' : Int) ≤ (m : Int) := by omega
            have hle3 : n' ≤ cx := by omega
            have hle4 : (n' : Int) ≤ (cx : Int) := by omega
            have hvn := HL.out.2
            clear HL
            have HX := kr_new HH.out [.slice sx m cx, .int .i64 (s : Int)] 95
            obtain ⟨X, hXX⟩ : ∃ X, wr.heap.size = X := ⟨_, rfl⟩
            rw [hXX] at HX ⊢
            generalize wr.alloc (.cells #[.slice sx m cx, .int .i64 (s : Int)] 95) = w2 at HX ⊢
            clear hXX k0 ka kb fa fb
            have hBX : B ≠ X := fun e => (List.pairwise_cons.1 HX.apart).1 (B, rF (crD d keeps k) tl) (List.mem_cons_of_mem _ List.mem_cons_self) e.symm
            have kx0 := kr_cell HX 0 rfl 0 _ rfl
            have HR : RR w w2 R B cap tl (crD d keeps k) rs := kr_tail HX
            have k0 := rr_h0 HR
            have ka := rr_a HR k hlt
            have kb := rr_b HR k hlt
            have fa := rr_fa HR k hlt
            have fb := rr_fb HR k hlt
            have HN : Hid (RR w _ R B cap tl (crD d keeps (k + 1)) rs) := rr_crash hlt (rr_drew HR) (.slice sx n' n') (n' : Int) hvn
            clear HX HR HH hvn
            go_region_held3 (fun W => W.cell? ⟨R, 0, none⟩ = some (.slice (some ⟨B, 0, none⟩) 8 cap) ∧ W.cell? ⟨X, 0, none⟩ = some (.slice sx m cx)) (go_keep) (fail)
            clear k0 ka kb fa fb kx0
            go_wp2_with fail
            go_round
            case rel => exact ⟨k + 1, by simp, by omega, HN.out⟩
            case measure => (simp [intOf]; try omega)
        · go_wp2_with fail
          obtain ⟨n', hn'⟩ : ∃ n' : Nat, n' = s := ⟨_, rfl⟩
          have HL : Hid (n' ≤ m ∧ crF (d.f k) keeps[k]? = (.slice sx n' n', ((n' : Nat) : Int))) := ⟨by omega, HV.out n' (by unfold crN; dsimp only; omega)⟩
          subst hn'
          clear hx0 HV
          have hle1 : n' ≤ m := HL.out.1
          have hle2 : (n' : Int) ≤ (m : Int) := by omega
          have hle3 : n' ≤ cx := by omega
          have hle4 : (n' : Int) ≤ (cx : Int) := by omega
          have hvn := HL.out.2
          clear HL
          have HX := kr_new HH.out [.slice sx m cx, .int .i64 (n' : Int)] 95
          obtain ⟨X, hXX⟩ : ∃ X, wr.heap.size = X := ⟨_, rfl⟩
          rw [hXX] at HX ⊢
          generalize wr.alloc (.cells #[.slice sx m cx, .int .i64 (n' : Int)] 95) = w2 at HX ⊢
          clear hXX k0 ka kb fa fb
          have hBX : B ≠ X := fun e => (List.pairwise_cons.1 HX.apart).1 (B, rF (crD d keeps k) tl) (List.mem_cons_of_mem _ List.mem_cons_self) e.symm
          have kx0 := kr_cell HX 0 rfl 0 _ rfl
          have HR : RR w w2 R B cap tl (crD d keeps k) rs := kr_tail HX
          have k0 := rr_h0 HR
          have ka := rr_a HR k hlt
          have kb := rr_b HR k hlt
          have fa := rr_fa HR k hlt
          have fb := rr_fb HR k hlt
          have HN : Hid (RR w _ R B cap tl (crD d keeps (k + 1)) rs) := rr_crash hlt (rr_drew HR) (.slice sx n' n') (n' : Int) hvn
          clear HX HR HH hvn
          go_region_held3 (fun W => W.cell? ⟨R, 0, none⟩ = some (.slice (some ⟨B, 0, none⟩) 8 cap) ∧ W.cell? ⟨X, 0, none⟩ = some (.slice sx m cx)) (go_keep) (fail)
          clear k0 ka kb fa fb kx0
          go_wp2_with fail
          go_round
          case rel => exact ⟨k + 1, by simp, by omega, HN.out⟩
          case measure => (simp [intOf]; try omega)
      · have hv : crF (d.f k) keeps[k]? = (.slice sx s s, ((s : Nat) : Int)) := by
          rw [h1, List.getElem?_eq_none (by have := hn.out; omega)]
          simp [crF, crN]
        have HH : Hid (RR w wr R B cap tl (crD d keeps k) rs) := HK
        have HL0 : Hid (s ≤ m ∧ crF (d.f k) keeps[k]? = (.slice sx s s, ((s : Nat) : Int))) := ⟨hs1, hv⟩
        clear HK hkeep hf hfk h1 hv
        go_wp2_with fail
        obtain ⟨n', hn'⟩ : ∃ n' : Nat, n' = s := ⟨_, rfl⟩
        subst hn'
        have HL := HL0
        clear HL0
        have hle1 : n' ≤ m := HL.out.1
        have hle2 : (n' : Int) ≤ (m : Int) := by omega
        have hle3 : n' ≤ cx := by omega
        have hle4 : (n' : Int) ≤ (cx : Int) := by omega
        have hvn := HL.out.2
        clear HL
        have HX := kr_new HH.out [.slice sx m cx, .int .i64 (n' : Int)] 95
        obtain ⟨X, hXX⟩ : ∃ X, wr.heap.size = X := ⟨_, rfl⟩
        rw [hXX] at HX ⊢
        generalize wr.alloc (.cells #[.slice sx m cx, .int .i64 (n' : Int)] 95) = w2 at HX ⊢
        clear hXX k0 ka kb fa fb
        have hBX : B ≠ X := fun e => (List.pairwise_cons.1 HX.apart).1 (B, rF (crD d keeps k) tl) (List.mem_cons_of_mem _ List.mem_cons_self) e.symm
        have kx0 := kr_cell HX 0 rfl 0 _ rfl
        have HR : RR w w2 R B cap tl (crD d keeps k) rs := kr_tail HX
        have k0 := rr_h0 HR
        have ka := rr_a HR k hlt
        have kb := rr_b HR k hlt
        have fa := rr_fa HR k hlt
        have fb := rr_fb HR k hlt
        have HN : Hid (RR w _ R B cap tl (crD d keeps (k + 1)) rs) := rr_crash hlt (rr_drew HR) (.slice sx n' n') (n' : Int) hvn
        clear HX HR HH hvn
        go_region_held3 (fun W => W.cell? ⟨R, 0, none⟩ = some (.slice (some ⟨B, 0, none⟩) 8 cap) ∧ W.cell? ⟨X, 0, none⟩ = some (.slice sx m cx)) (go_keep) (fail)
        clear k0 ka kb fa fb kx0
        go_wp2_with fail
        go_round
        case rel => exact ⟨k + 1, by simp, by omega, HN.out⟩
        case measure => (simp [intOf]; try omega)
    · obtain rfl : k = 8 := by omega
      clear hkeep hf
      have k0 := rr_h0 HK
      have kl := rr_h1 HK
      have kd := rr_h2 HK
      have fl := rr_f1 HK
      have fd := rr_f2 HK
      have H2 : Hid (RR w _ R B cap tl _ rs) := rr_setD (rr_setL HK 0) false
      clear HK
      go_wp2_with fail
      all_goals exact bodyPost_end (results_none rfl _ _ _) rfl ⟨rfl, H2.out⟩
end Go.Proofs.Ytaonaifnaecpiaa.Own
