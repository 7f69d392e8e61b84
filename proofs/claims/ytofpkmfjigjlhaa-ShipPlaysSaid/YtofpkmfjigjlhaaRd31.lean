/- The reference's Taken. No conditions beside those in each theorem. -/
import Derived.Test.YtofpkmfjigjlhaaRc
import Derived.RegionTactic
namespace Go.Proofs.Ytofpkmfjigjlhaa.Own
open Go.RowKit
set_option linter.unusedSimpArgs false
set_option linter.unusedVariables false
theorem rinE_k (n : Int) {W : World} : Calls Try.prog 59 #[.int .i64 n] W fun e W' => e = .returned (.bool (inE n)) ∧ W = W' := by
  by_cases h1 : 0 ≤ n
  · by_cases h2 : n ≤ 4611686018427387904
    · rw [show inE n = true from decide_eq_true ⟨h1, h2⟩]
      go_enter Try.func59, Try.ntmps59
      go_wp2
      go_ret
      exact ⟨rfl, rfl⟩
    · rw [show inE n = false from decide_eq_false (fun h => h2 h.2)]
      go_enter Try.func59, Try.ntmps59
      go_wp2
      go_ret
      exact ⟨rfl, rfl⟩
  · rw [show inE n = false from decide_eq_false (fun h => h1 h.1)]
    go_enter Try.func59, Try.ntmps59
    go_wp2
    go_ret
    exact ⟨rfl, rfl⟩
section
variable {w W : World} {rs im : List (Nat × List Value)} {n : SN} {lv : Value} {D : Nat}
set_option maxRecDepth 100000 in
set_option maxHeartbeats 4000000 in
theorem rtaken_k (HK : KR w ((D, ncl n lv) :: rs) W) (HE : EL rs lv n.l) (hB : NB n) (a : SA) : Calls Try.prog 50 #[.pointer (some ⟨D, 0, none⟩), .agg #[.int .i64 a.1, .bool a.2.1, .int .i64 a.2.2]] W fun e W' => e = .returned (.int .i64 (sTaken n a).2) ∧ KR w ((D, ncl (sTaken n a).1 lv) :: rs) W' := by
  obtain ⟨sp, c, rfl, hc⟩ := el_form HE
  obtain ⟨e, y, z⟩ := a
  have K1 := kr_swap (kr_new HK [.int .i64 e, .bool y, .int .i64 z] 70)
  have q1 := fun W => rinE_k e (W := W)
  have hlen := hB.len
  have hli : (n.l.length : Int) ≤ 4096 := by omega
  generalize hL : n.l.length = L at *
  have HL : Hid (n.l.length = L) := hL
  unfold sTaken
  simp only
  rw [hL]
  have H0 : Hid (∀ q, KR w ((D, ncl n (.slice sp L c)) :: rs) (World.drewN (W.alloc (.cells [.int .i64 e, .bool y, .int .i64 z].toArray 70)) q)) := fun q => kr_drewN (kr_drop K1) q
  have HK1 : Hid (KR w _ _) := K1
  have k1 := kr_cell HK 0 rfl 1 _ rfl
  have k2 := kr_cell HK 0 rfl 2 _ rfl
  have k3 := kr_cell HK 0 rfl 3 _ rfl
  have k4 := kr_cell HK 0 rfl 4 _ rfl
  have k5 := kr_cell HK 0 rfl 5 _ rfl
  have zD := kr_lt HK 0 rfl
  cases hE : inE e with
  | false =>
    rw [if_pos (.inl rfl)]
    rw [hE] at q1
    clear HK HE hc K1 hE hL HK1 k1 k2 k3 k4 k5
    go_enter Try.func50, Try.ntmps50
    go_wp2_with (go_at_call 59; refine (q1 _).mono ?_; rintro e w1 ⟨rfl, rfl⟩)
    go_ret
    exact ⟨rfl, H0.out 0⟩
  | true =>
    rw [hE] at q1
    cases hN : inN z with
    | false =>
      rw [if_pos (.inr rfl)]
      have hN2 : z < 0 ∨ (¬ z < 0 ∧ z > 4096) := by unfold inN at hN; simp at hN; omega
      clear HK HE hc K1 hE hL HK1 k1 k2 k3 k4 k5 hN
      rcases hN2 with h1 | ⟨h1, h2⟩
      all_goals
        go_enter Try.func50, Try.ntmps50
        go_wp2_with (go_at_call 59; refine (q1 _).mono ?_; rintro e w1 ⟨rfl, rfl⟩)
        go_ret
        exact ⟨rfl, H0.out 0⟩
    | true =>
      rw [if_neg (by simp)]
      have hz0 : 0 ≤ z ∧ z ≤ 4096 := by unfold inN at hN; simpa using hN
      obtain ⟨hz1, hz2⟩ := hz0
      have hz1' : ¬ z < 0 := by omega
      have hz2' : ¬ z > 4096 := by omega
      by_cases hgt : n.ep < e
      · rw [if_pos hgt]
        have HV := HK1.out
        clear HK HE hc K1 hE hL k1 k3 k4 k5 hN
        go_enter Try.func50, Try.ntmps50
        go_wp2_with (go_at_call 59; refine (q1 _).mono ?_; rintro e w1 ⟨rfl, rfl⟩)
        go_quiet (fail)
        clear k2
        have HV := kr_drewN HV nq
        generalize hV : World.drewN _ nq = V at *
        clear hV
        have k1 := kr_cell HV 0 rfl 1 _ rfl
        have k2 := kr_cell HV 0 rfl 2 _ rfl
        have f1 := kr_frozen HV 0 rfl 1 (by show 1 < 6; omega)
        have f2 := kr_frozen HV 0 rfl 2 (by show 2 < 6; omega)
        have a0 := kr_cell HV 1 rfl 0 _ rfl
        have HF : Hid (KR w ((D, ncl { n with ep := e, ld := false } (.slice sp L c)) :: rs) ((V.setCell ⟨D, 2, none⟩ (.int .i64 e)).setCell ⟨D, 1, none⟩ (.bool false))) := kr_fset (kr_fset (kr_drop HV) 0 rfl 2 (by show 2 < 6; omega) (.int .i64 e) _ rfl) 0 rfl 1 (by show 1 < 6; omega) (.bool false) _ rfl
        clear HV H0 HK1 zD
        go_wp2_with fail
        go_ret
        exact ⟨rfl, HF.out⟩
      · rw [if_neg hgt]
        have hgt' : decide (n.ep < e) = false := by simpa using hgt
        by_cases hst : n.ld = false ∨ e < n.ep
        · rw [if_pos hst]
          cases hl : n.ld with
          | true =>
            have hlt : e < n.ep := by
              rcases hst with h | h
              · rw [hl] at h; cases h
              · exact h
            rw [hl] at k1
            clear HK HE hc K1 hE hL HK1 k3 k4 k5 hst hl hN
            go_enter Try.func50, Try.ntmps50
            go_wp2_with (go_at_call 59; refine (q1 _).mono ?_; rintro e w1 ⟨rfl, rfl⟩)
            go_quiet (fail)
            go_wp2_with fail
            go_quiet (fail)
            go_wp2_with fail
            go_ret
            exact ⟨rfl, by first | exact H0.out _ | exact kr_drewN (H0.out _) _⟩
          | false =>
            rw [hl] at k1
            clear HK HE hc K1 hE hL HK1 k3 k4 k5 hst hl hN
            go_enter Try.func50, Try.ntmps50
            go_wp2_with (go_at_call 59; refine (q1 _).mono ?_; rintro e w1 ⟨rfl, rfl⟩)
            go_quiet (fail)
            go_wp2_with fail
            go_quiet (fail)
            go_wp2_with fail
            go_ret
            exact ⟨rfl, by first | exact H0.out _ | exact kr_drewN (H0.out _) _⟩
        · rw [if_neg hst]
          have hl : n.ld = true := by
            cases h : n.ld
            · exact absurd (.inl h) hst
            · rfl
          have hge : ¬ e < n.ep := fun h => hst (.inr h)
          have hge' : decide (e < n.ep) = false := by simpa using hge
          rw [hl] at k1
          by_cases hlen : (L : Int) < z
          · rw [if_pos hlen]
            clear HK HE hc K1 hE hL HK1 k4 k5 hst hl hN
            go_enter Try.func50, Try.ntmps50
            go_wp2_with (go_at_call 59; refine (q1 _).mono ?_; rintro e w1 ⟨rfl, rfl⟩)
            go_quiet (fail)
            go_wp2_with fail
            go_quiet (fail)
            go_wp2_with fail
            go_quiet (fail)
            go_wp2_with fail
            go_ret
            exact ⟨rfl, by first | exact H0.out _ | exact kr_drewN (H0.out _) _ | exact kr_drewN (kr_drewN (H0.out _) _) _⟩
          · rw [if_neg hlen]
            have HV := HK1.out
            cases y with
            | true =>
              simp only [if_pos]
              obtain ⟨zn, rfl⟩ : ∃ zn : Nat, z = (zn : Int) := ⟨z.toNat, by omega⟩
              rw [Int.toNat_natCast]
              clear HK HE hc K1 hE hL hst hl k4 k5 hN
              go_enter Try.func50, Try.ntmps50
              go_wp2_with (go_at_call 59; refine (q1 _).mono ?_; rintro e w1 ⟨rfl, rfl⟩)
              go_quiet (fail)
              go_wp2_with fail
              go_quiet (fail)
              go_wp2_with fail
              go_quiet (fail)
              clear k1 k2 k3
              generalize hV : World.drewN _ nq = V at *
              have HX : KR w ((D, ncl n (.slice sp L c)) :: (W.heap.size, [.int .i64 e, .bool true, .int .i64 (zn : Int)]) :: rs) V := by
                rw [← hV]
                first | exact kr_drewN HV _ | exact kr_drewN (kr_drewN HV _) _ | exact kr_drewN (kr_drewN (kr_drewN HV _) _) _
              clear hV HV HK1 H0
              have a1 := kr_cell HX 1 rfl 1 _ rfl
              have a2 := kr_cell HX 1 rfl 2 _ rfl
              have k4 := kr_cell HX 0 rfl 4 _ rfl
              have k5 := kr_cell HX 0 rfl 5 _ rfl
              have f4 := kr_frozen HX 0 rfl 4 (by show 4 < 6; omega)
              have f5 := kr_frozen HX 0 rfl 5 (by show 5 < 6; omega)
              have KM : KR w ((D, ncl { n with mark := zn } (.slice sp L c)) :: (W.heap.size, [.int .i64 e, .bool true, .int .i64 (zn : Int)]) :: rs) (V.setCell ⟨D, 5, none⟩ (.int .i64 (zn : Int))) := kr_fset HX 0 rfl 5 (by show 5 < 6; omega) (.int .i64 (zn : Int)) _ rfl
              have HKM : Hid (KR w _ _) := KM
              clear KM HX
              by_cases hs : n.safe < zn
              · have hsi : (n.safe : Int) < (zn : Int) := by omega
                have HM : Hid (max n.safe zn = zn) := by show _ = _; omega
                go_wp2_with fail
                go_quiet (fail)
                have KX := kr_drewN HKM.out nq
                generalize World.drewN _ nq = X at *
                have b2 := kr_cell KX 1 rfl 2 _ rfl
                have b4 := kr_cell KX 0 rfl 4 _ rfl
                have g4 := kr_frozen KX 0 rfl 4 (by show 4 < 6; omega)
                have HF : Hid (KR w ((D, ncl { n with mark := zn, safe := zn } (.slice sp L c)) :: rs) (X.setCell ⟨D, 4, none⟩ (.int .i64 (zn : Int)))) := kr_fset (kr_drop KX) 0 rfl 4 (by show 4 < 6; omega) (.int .i64 (zn : Int)) _ rfl
                clear KX a1 a2 k4 k5 f4 f5 zD hs
                go_wp2_with fail
                go_ret
                exact ⟨rfl, by rw [HM.out]; exact HF.out⟩
              · have hsi : ¬ ((n.safe : Int) < (zn : Int)) := by omega
                have HM : Hid (max n.safe zn = n.safe) := by show _ = _; omega
                go_wp2_with fail
                go_quiet (fail)
                clear hs
                go_wp2_with fail
                go_ret
                exact ⟨rfl, by rw [HM.out]; exact kr_drop (kr_drewN HKM.out _)⟩
            | false =>
              rw [if_neg (by simp)]
              obtain ⟨zn, rfl⟩ : ∃ zn : Nat, z = (zn : Int) := ⟨z.toNat, by omega⟩
              rw [Int.toNat_natCast]
              clear HK HE hc K1 hE hL hst hl k4 k5 hN
              go_enter Try.func50, Try.ntmps50
              go_wp2_with (go_at_call 59; refine (q1 _).mono ?_; rintro e w1 ⟨rfl, rfl⟩)
              go_quiet (fail)
              go_wp2_with fail
              go_quiet (fail)
              go_wp2_with fail
              go_quiet (fail)
              clear k1 k2 k3
              generalize hV : World.drewN _ nq = V at *
              have HX : KR w ((D, ncl n (.slice sp L c)) :: (W.heap.size, [.int .i64 e, .bool false, .int .i64 (zn : Int)]) :: rs) V := by
                rw [← hV]
                first | exact kr_drewN HV _ | exact kr_drewN (kr_drewN HV _) _ | exact kr_drewN (kr_drewN (kr_drewN HV _) _) _
              clear hV HV HK1 H0
              have a1 := kr_cell HX 1 rfl 1 _ rfl
              have a2 := kr_cell HX 1 rfl 2 _ rfl
              have k4 := kr_cell HX 0 rfl 4 _ rfl
              have k5 := kr_cell HX 0 rfl 5 _ rfl
              have f4 := kr_frozen HX 0 rfl 4 (by show 4 < 6; omega)
              have f5 := kr_frozen HX 0 rfl 5 (by show 5 < 6; omega)
              have HXX : Hid (KR w _ V) := HX
              clear HX
              by_cases hs : zn < n.mark
              · have hsi : (zn : Int) < (n.mark : Int) := by omega
                have HM : Hid (min n.mark zn = zn) := by show _ = _; omega
                go_wp2_with fail
                go_quiet (fail)
                have KX := kr_drewN HXX.out nq
                generalize World.drewN _ nq = X at *
                have b2 := kr_cell KX 1 rfl 2 _ rfl
                have b5 := kr_cell KX 0 rfl 5 _ rfl
                have g5 := kr_frozen KX 0 rfl 5 (by show 5 < 6; omega)
                have HF : Hid (KR w ((D, ncl { n with mark := zn } (.slice sp L c)) :: rs) (X.setCell ⟨D, 5, none⟩ (.int .i64 (zn : Int)))) := kr_fset (kr_drop KX) 0 rfl 5 (by show 5 < 6; omega) (.int .i64 (zn : Int)) _ rfl
                clear KX a1 a2 k4 k5 f4 f5 zD hs
                go_wp2_with fail
                go_ret
                exact ⟨rfl, by rw [HM.out]; exact HF.out⟩
              · have hsi : ¬ ((zn : Int) < (n.mark : Int)) := by omega
                have HM : Hid (min n.mark zn = n.mark) := by show _ = _; omega
                go_wp2_with fail
                go_quiet (fail)
                clear hs
                go_wp2_with fail
                go_ret
                exact ⟨rfl, by rw [HM.out]; exact kr_drop (kr_drewN HXX.out _)⟩
end
end Go.Proofs.Ytofpkmfjigjlhaa.Own
