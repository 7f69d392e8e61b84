/- Promote, Taken, fresh, right of dayshift/ship. No conditions beside those in each theorem. -/
import Derived.Test.YtofpkmfjigjlhaaNd
import Derived.RegionTactic
import Derived.ChangeAlike
import Derived.BigRegion
namespace Go.Proofs.Ytofpkmfjigjlhaa.Own
open Go.RowKit
set_option linter.unusedSimpArgs false
set_option linter.unusedVariables false
theorem within64_k (n a b : Int) {W : World} : Calls Try.prog 38 #[.int .i64 n, .int .i64 a, .int .i64 b] W fun e W' => e = .returned (.bool (decide (a ≤ n ∧ n ≤ b))) ∧ W = W' := by
  by_cases h1 : a ≤ n
  · by_cases h2 : n ≤ b
    · rw [decide_eq_true ⟨h1, h2⟩]
      go_enter Try.func38, Try.ntmps38
      go_wp2
      go_ret
      exact ⟨rfl, rfl⟩
    · rw [decide_eq_false (fun h => h2 h.2)]
      go_enter Try.func38, Try.ntmps38
      go_wp2
      go_ret
      exact ⟨rfl, rfl⟩
  · rw [decide_eq_false (fun h => h1 h.1)]
    go_enter Try.func38, Try.ntmps38
    go_wp2
    go_ret
    exact ⟨rfl, rfl⟩
theorem within_k (n a b : Int) {W : World} : Calls Try.prog 39 #[.int .i64 n, .int .i64 a, .int .i64 b] W fun e W' => e = .returned (.bool (decide (a ≤ n ∧ n ≤ b))) ∧ W = W' := by
  by_cases h1 : a ≤ n
  · by_cases h2 : n ≤ b
    · rw [decide_eq_true ⟨h1, h2⟩]
      go_enter Try.func39, Try.ntmps39
      go_wp2
      go_ret
      exact ⟨rfl, rfl⟩
    · rw [decide_eq_false (fun h => h2 h.2)]
      go_enter Try.func39, Try.ntmps39
      go_wp2
      go_ret
      exact ⟨rfl, rfl⟩
  · rw [decide_eq_false (fun h => h1 h.1)]
    go_enter Try.func39, Try.ntmps39
    go_wp2
    go_ret
    exact ⟨rfl, rfl⟩
theorem inE_k (n : Int) {W : World} : Calls Try.prog 38 #[.int .i64 n, .int .i64 0, .int .i64 4611686018427387904] W fun e W' => e = .returned (.bool (inE n)) ∧ W = W' := within64_k n 0 _
theorem inN_k (n : Int) {W : World} : Calls Try.prog 39 #[.int .i64 n, .int .i64 0, .int .i64 4096] W fun e W' => e = .returned (.bool (inN n)) ∧ W = W' := within_k n 0 _
theorem kr_drewN {w W : World} {rs : List (Nat × List Value)} (h : KR w rs W) (k : Nat) : KR w rs (W.drewN k) := kr_call h (bw_drewN (Below.refl _ _) k)
section
variable {w W : World} {rs : List (Nat × List Value)} {n : SN} {lv : Value} {D : Nat}
set_option maxRecDepth 100000 in
theorem prom_k (HK : KR w ((D, ncl n lv) :: rs) W) (HE : EL rs lv n.l) (hB : NB n) : Calls Try.prog 19 #[.pointer (some ⟨D, 0, none⟩)] W fun e W' => e = .returned (.tuple #[.int .i64 (sProm n).2.1, .int .i64 (sProm n).2.2]) ∧ KR w ((D, ncl (sProm n).1 lv) :: rs) W' := by
  obtain ⟨sp, c, rfl, hc⟩ := el_form HE
  have k1 := kr_cell HK 0 rfl 1 _ rfl
  unfold sProm
  cases hl : n.ld with
  | true =>
    rw [hl] at k1
    rw [if_pos rfl]
    have H2 : Hid (KR w ((D, ncl n (.slice sp n.l.length c)) :: rs) W) := HK
    clear HK HE hc hl
    go_enter Try.func19, Try.ntmps19
    go_wp2
    go_ret2
    exact ⟨rfl, H2.out⟩
  | false =>
    rw [hl] at k1
    rw [if_neg (by simp)]
    have k0 := kr_cell HK 0 rfl 0 _ rfl
    have k2 := kr_cell HK 0 rfl 2 _ rfl
    have k3 := kr_cell HK 0 rfl 3 _ rfl
    have f1 := kr_frozen HK 0 rfl 1 (by show 1 < 6; omega)
    have f2 := kr_frozen HK 0 rfl 2 (by show 2 < 6; omega)
    have f5 := kr_frozen HK 0 rfl 5 (by show 5 < 6; omega)
    have k5 := kr_cell HK 0 rfl 5 _ rfl
    have hep := hB.ep
    have hme := hB.me
    obtain ⟨st, hst⟩ : ∃ st, st = 1 + (n.ep + 1 + n.me) % 2 := ⟨_, rfl⟩
    have hst2 : 1 ≤ st ∧ st ≤ 2 := by omega
    have hnx : sNext n = n.ep + st := by unfold sNext; omega
    rw [hnx]
    have H2 : Hid (∀ q, KR w ((D, ncl { n with ep := n.ep + st, ld := true, mark := n.l.length } (.slice sp n.l.length c)) :: rs) ((((W.drewN q).setCell ⟨D, 2, none⟩ (.int .i64 (n.ep + st))).setCell ⟨D, 1, none⟩ (.bool true)).setCell ⟨D, 5, none⟩ (.int .i64 (n.l.length : Int)))) := fun q => kr_fset (kr_fset (kr_fset (kr_drewN HK q) 0 rfl 2 (by show 2 < 6; omega) (.int .i64 (n.ep + st)) _ rfl) 0 rfl 1 (by show 1 < 6; omega) (.bool true) _ rfl) 0 rfl 5 (by show 5 < 6; omega) (.int .i64 (n.l.length : Int)) _ rfl
    have H0 : Hid (∀ q, KR w ((D, ncl n (.slice sp n.l.length c)) :: rs) (W.drewN q)) := fun q => kr_drewN HK q
    have h1 : wrap64 (n.ep + 1) = n.ep + 1 := w64b _ (by omega)
    have h2 : wrap64 (n.ep + 1 + n.me) = n.ep + 1 + n.me := w64b _ (by omega)
    have h3 : (n.ep + 1 + n.me).tmod 2 = st - 1 := by rw [Int.tmod_eq_emod_of_nonneg (by omega)]; omega
    have h3' : wrap64 (st - 1) = st - 1 := w64b _ (by omega)
    have h4 : wrap64 (1 + (st - 1)) = st := by rw [w64b _ (by omega)]; omega
    have h5 : wrap64 (4611686018427387904 - st) = 4611686018427387904 - st := w64b _ (by omega)
    have h6 : wrap64 (n.ep + st) = n.ep + st := w64b _ (by omega)
    by_cases hbig : 4611686018427387904 < n.ep + st
    · rw [if_pos hbig]
      have h7 : n.ep > 4611686018427387904 - st := by omega
      clear HK HE hc hl hst hep hme hst2 hnx hbig H2 k3 k5 f1 f2 f5
      go_enter Try.func19, Try.ntmps19
      go_wp2
      go_quiet (fail)
      go_wp2
      go_ret2
      exact ⟨rfl, H0.out _⟩
    · rw [if_neg hbig]
      have h7 : ¬ n.ep > 4611686018427387904 - st := by omega
      clear HK HE hc hl hst hep hme hst2 hnx hbig H0
      go_enter Try.func19, Try.ntmps19
      go_wp2
      go_quiet (fail)
      go_wp2
      go_ret2
      exact ⟨rfl, H2.out _⟩
theorem taken_nil : Calls Try.prog 23 #[.pointer none, .agg #[.int .i64 0, .bool false, .int .i64 0]] W fun e W' => e = .returned (.int .i64 2) ∧ Below W.heap.size W W' := by
  go_enter Try.func23, Try.ntmps23
  go_wp2
  go_ret
  exact ⟨rfl, bw_alloc (Below.refl _ _) _⟩
set_option maxRecDepth 100000 in
theorem taken_k (HK : KR w ((D, ncl n lv) :: rs) W) (HE : EL rs lv n.l) (hB : NB n) (a : SA) : Calls Try.prog 23 #[.pointer (some ⟨D, 0, none⟩), .agg #[.int .i64 a.1, .bool a.2.1, .int .i64 a.2.2]] W fun e W' => e = .returned (.int .i64 (sTaken n a).2) ∧ KR w ((D, ncl (sTaken n a).1 lv) :: rs) W' := by
  obtain ⟨sp, c, rfl, hc⟩ := el_form HE
  obtain ⟨e, y, z⟩ := a
  have K1 := kr_swap (kr_new HK [.int .i64 e, .bool y, .int .i64 z] 57)
  have q1 := fun W => inE_k e (W := W)
  have q2 := fun W => inN_k z (W := W)
  have hM := fun V (hV : KR w ((D, ncl n (.slice sp n.l.length c)) :: rs) V) => yield_k hV e
  have hlen := hB.len
  have hli : (n.l.length : Int) ≤ 4096 := by omega
  generalize hL : n.l.length = L at *
  have HL : Hid (n.l.length = L) := hL
  unfold sTaken
  simp only
  rw [hL]
  have H0 : Hid (∀ q, KR w ((D, ncl n (.slice sp L c)) :: rs) (World.drewN (W.alloc (.cells [.int .i64 e, .bool y, .int .i64 z].toArray 57)) q)) := fun q => kr_drewN (kr_drop K1) q
  have HK1 : Hid (KR w _ _) := K1
  have k1 := kr_cell HK 0 rfl 1 _ rfl
  have k2 := kr_cell HK 0 rfl 2 _ rfl
  have k3 := kr_cell HK 0 rfl 3 _ rfl
  have k4 := kr_cell HK 0 rfl 4 _ rfl
  have k5 := kr_cell HK 0 rfl 5 _ rfl
  have zD := kr_lt HK 0 rfl
  cases hE : inE e with
  | false =>
    rw [if_pos (.inl rfl)]
    rw [hE] at q1
    clear HK HE hc K1 hE q2 hM hL HK1 k1 k2 k3 k4 k5
    go_enter Try.func23, Try.ntmps23
    go_wp2_with (go_at_call 38; refine (q1 _).mono ?_; rintro e w1 ⟨rfl, rfl⟩)
    go_ret
    exact ⟨rfl, H0.out 0⟩
  | true =>
    rw [hE] at q1
    cases hN : inN z with
    | false =>
      rw [if_pos (.inr rfl)]
      rw [hN] at q2
      clear HK HE hc K1 hE hM hL HK1 k1 k2 k3 k4 k5
      go_enter Try.func23, Try.ntmps23
      go_wp2_with (first | (go_at_call 38; refine (q1 _).mono ?_; rintro e w1 ⟨rfl, rfl⟩) | (go_at_call 39; refine (q2 _).mono ?_; rintro e w1 ⟨rfl, rfl⟩))
      go_ret
      exact ⟨rfl, H0.out 0⟩
    | true =>
      rw [if_neg (by simp)]
      rw [hN] at q2
      have hz0 : 0 ≤ z ∧ z ≤ 4096 := by unfold inN at hN; simpa using hN
      by_cases hgt : n.ep < e
      · rw [if_pos hgt]
        clear HK HE hc K1 hE hL HK1 k1 k3 k4 k5
        go_enter Try.func23, Try.ntmps23
        go_wp2_with (first | (go_at_call 38; refine (q1 _).mono ?_; rintro e w1 ⟨rfl, rfl⟩) | (go_at_call 39; refine (q2 _).mono ?_; rintro e w1 ⟨rfl, rfl⟩))
        go_quiet (fail)
        go_wp2_with (go_at_call 35; refine (hM _ (H0.out _)).mono ?_; rintro e w1 ⟨rfl, hK1⟩)
        go_ret
        exact ⟨rfl, hK1⟩
      · rw [if_neg hgt]
        have hgt' : decide (n.ep < e) = false := by simpa using hgt
        by_cases hst : n.ld = false ∨ e < n.ep
        · rw [if_pos hst]
          rcases Bool.eq_false_or_eq_true n.ld with hl | hl
          · have hlt : e < n.ep := by
              rcases hst with h | h
              · rw [hl] at h; cases h
              · exact h
            rw [hl] at k1
            clear HK HE hc K1 hE hL HK1 k3 k4 k5 hst hl
            go_enter Try.func23, Try.ntmps23
            go_wp2_with (first | (go_at_call 38; refine (q1 _).mono ?_; rintro e w1 ⟨rfl, rfl⟩) | (go_at_call 39; refine (q2 _).mono ?_; rintro e w1 ⟨rfl, rfl⟩))
            go_quiet (fail)
            go_wp2_with fail
            go_quiet (fail)
            go_wp2_with fail
            go_ret
            exact ⟨rfl, by first | exact H0.out _ | exact kr_drewN (H0.out _) _⟩
          · rw [hl] at k1
            clear HK HE hc K1 hE hL HK1 k3 k4 k5 hst hl
            go_enter Try.func23, Try.ntmps23
            go_wp2_with (first | (go_at_call 38; refine (q1 _).mono ?_; rintro e w1 ⟨rfl, rfl⟩) | (go_at_call 39; refine (q2 _).mono ?_; rintro e w1 ⟨rfl, rfl⟩))
            go_quiet (fail)
            go_wp2_with fail
            go_quiet (fail)
            go_wp2_with fail
            go_ret
            exact ⟨rfl, by first | exact H0.out _ | exact kr_drewN (H0.out _) _⟩
        · rw [if_neg hst]
          have hl : n.ld = true := by
            rcases Bool.eq_false_or_eq_true n.ld with hl | hl
            · exact hl
            · exact absurd (.inl hl) hst
          have hge : ¬ e < n.ep := fun h => hst (.inr h)
          rw [hl] at k1
          by_cases hlen : (L : Int) < z
          · rw [if_pos hlen]
            clear HK HE hc K1 hE hL HK1 k4 k5 hst hl
            go_enter Try.func23, Try.ntmps23
            go_wp2_with (first | (go_at_call 38; refine (q1 _).mono ?_; rintro e w1 ⟨rfl, rfl⟩) | (go_at_call 39; refine (q2 _).mono ?_; rintro e w1 ⟨rfl, rfl⟩))
            go_quiet (fail)
            go_wp2_with fail
            go_quiet (fail)
            go_wp2_with fail
            go_quiet (fail)
            go_wp2_with fail
            go_ret
            exact ⟨rfl, by first | exact H0.out _ | exact kr_drewN (H0.out _) _ | exact kr_drewN (kr_drewN (H0.out _) _) _⟩
          · rw [if_neg hlen]
            cases y with
            | true =>
              obtain ⟨mx, hmx⟩ : ∃ mx, mx = max n.safe z.toNat := ⟨_, rfl⟩
              obtain ⟨zn, hzn⟩ : ∃ zn, zn = z.toNat := ⟨_, rfl⟩
              simp only [if_pos]
              rw [← hmx, ← hzn]
              have HMX : Hid (mx = max n.safe z.toNat ∧ zn = z.toNat) := ⟨hmx, hzn⟩
              clear hmx hzn
              clear HK HE hc K1 hE hL hst hl
              go_enter Try.func23, Try.ntmps23
              go_wp2_with (first | (go_at_call 38; refine (q1 _).mono ?_; rintro e w1 ⟨rfl, rfl⟩) | (go_at_call 39; refine (q2 _).mono ?_; rintro e w1 ⟨rfl, rfl⟩))
              go_quiet (fail)
              go_wp2_with fail
              go_quiet (fail)
              go_wp2_with fail
              go_quiet (fail)
              go_wp2_with fail
              have HV := HK1.out
              generalize (W.alloc (.cells #[.int .i64 e, .bool true, .int .i64 z] 57)) = V at *
              have c2 := kr_cell HV 1 rfl 2 _ rfl
              have c4 := kr_cell HV 0 rfl 4 _ rfl
              have c5 := kr_cell HV 0 rfl 5 _ rfl
              have f4 := kr_frozen HV 0 rfl 4 (by show 4 < 6; omega)
              have f5 := kr_frozen HV 0 rfl 5 (by show 5 < 6; omega)
              clear k1 k2 k3 k4 k5 HV zD
              go_region
              have HF : Hid (∀ (q : Nat) (x : Int), x = ((max n.safe z.toNat : Nat) : Int) → KR w ((D, ncl { n with mark := zn, safe := mx } (.slice sp L c)) :: rs) (((V.drewN q).setCell ⟨D, 5, none⟩ (.int .i64 z)).setCell ⟨D, 4, none⟩ (.int .i64 x))) := fun q x hx => by
                have HF := kr_fset (kr_fset (H0.out q) 0 rfl 5 (by show 5 < 6; omega) (.int .i64 z) _ rfl) 0 rfl 4 (by show 4 < 6; omega) (.int .i64 x) _ rfl
                have e2 : z = ((z.toNat : Nat) : Int) := by omega
                simp only [ncl, List.set_cons_zero, List.set_cons_succ] at HF
                unfold ncl
                simp only
                rw [HMX.out.1, HMX.out.2, ← hx, ← e2]
                exact HF
              go_wp2_with fail
              all_goals go_ret
              all_goals exact ⟨rfl, HF.out _ _ (by omega)⟩
            | false =>
              rw [if_neg (by simp)]
              obtain ⟨mx, hmx⟩ : ∃ mx, mx = min n.mark z.toNat := ⟨_, rfl⟩
              rw [← hmx]
              have HMX : Hid (mx = min n.mark z.toNat) := hmx
              clear hmx
              clear HK HE hc K1 hE hL hst hl
              go_enter Try.func23, Try.ntmps23
              go_wp2_with (first | (go_at_call 38; refine (q1 _).mono ?_; rintro e w1 ⟨rfl, rfl⟩) | (go_at_call 39; refine (q2 _).mono ?_; rintro e w1 ⟨rfl, rfl⟩))
              go_quiet (fail)
              go_wp2_with fail
              go_quiet (fail)
              go_wp2_with fail
              go_quiet (fail)
              go_wp2_with fail
              have HV := HK1.out
              generalize (W.alloc (.cells #[.int .i64 e, .bool false, .int .i64 z] 57)) = V at *
              have c2 := kr_cell HV 1 rfl 2 _ rfl
              have c5 := kr_cell HV 0 rfl 5 _ rfl
              have f5 := kr_frozen HV 0 rfl 5 (by show 5 < 6; omega)
              clear k1 k2 k3 k4 k5 HV zD
              go_region
              have HF : Hid (∀ (q : Nat) (x : Int), x = ((min n.mark z.toNat : Nat) : Int) → KR w ((D, ncl { n with mark := mx } (.slice sp L c)) :: rs) ((V.drewN q).setCell ⟨D, 5, none⟩ (.int .i64 x))) := fun q x hx => by
                rw [hx, HMX.out]
                exact kr_fset (H0.out q) 0 rfl 5 (by show 5 < 6; omega) (.int .i64 ((min n.mark z.toNat : Nat) : Int)) _ rfl
              go_wp2_with fail
              all_goals go_ret
              all_goals exact ⟨rfl, HF.out _ _ (by omega)⟩
end
end Go.Proofs.Ytofpkmfjigjlhaa.Own
