/- The reference's Right. No conditions beside those in each theorem. -/
import Derived.Test.YtofpkmfjigjlhaaRe31
namespace Go.Proofs.Ytofpkmfjigjlhaa.Own
open Go.RowKit
set_option linter.unusedSimpArgs false
set_option linter.unusedVariables false
set_option maxRecDepth 100000 in
set_option maxHeartbeats 4000000 in
theorem rRight_k {w : World} (p : SP) (n : Nat) (hn : Hid (p.l.length = n)) (h2 : n ≤ 100000) (hz : Hid (∀ x ∈ p.l, x.2.length ≤ 140737488351232)) (sp : Option Addr) (c : Nat) (hE : Hid (ELV w sp p.l)) :
    Calls Try.prog 58 #[.agg #[.int .i64 p.ep, .int .i64 p.at_, .int .i64 p.bf, .slice sp n c, .int .i64 p.safe]] w fun e W' => e = .returned (.bool (sRight p)) ∧ Below w.heap.size w W' := by
  obtain ⟨pe, pa, pb, pl, ps⟩ := p
  simp only at hn hz hE ⊢
  have K1 := kr_new (kr_refl w) [.int .i64 pe, .int .i64 pa, .int .i64 pb, .slice sp n c, .int .i64 ps] 69
  have HB0 : Hid (Below w.heap.size w (w.alloc (.cells [.int .i64 pe, .int .i64 pa, .int .i64 pb, .slice sp n c, .int .i64 ps].toArray 69))) := K1.below
  have q1 := fun W => rinE_k pe (W := W)
  have q2 := fun W => rinE_k pb (W := W)
  have h2i : (n : Int) ≤ 100000 := by omega
  obtain ⟨R, hR⟩ : ∃ R, R = sRight ⟨pe, pa, pb, pl, ps⟩ := ⟨_, rfl⟩
  rw [← hR]
  unfold sRight at hR
  simp only [hn.out] at hR
  cases e1 : inE pe with
  | false =>
    rw [e1] at q1 hR
    simp only [Bool.false_and] at hR
    subst hR
    clear e1 q2 K1 h2
    go_enter Try.func58, Try.ntmps58
    go_wp2_with (go_at_call 59; (first | (with_reducible refine (q1 _).mono ?_) | (with_reducible refine (q2 _).mono ?_)); rintro e w1 ⟨rfl, rfl⟩)
    go_ret
    exact ⟨rfl, HB0.out⟩
  | true =>
    rw [e1] at q1 hR
    cases e2 : inE pb with
    | false =>
      rw [e2] at q2 hR
      simp only [Bool.false_and, Bool.and_false] at hR
      subst hR
      clear e1 e2 K1 h2
      go_enter Try.func58, Try.ntmps58
      go_wp2_with (go_at_call 59; (first | (with_reducible refine (q1 _).mono ?_) | (with_reducible refine (q2 _).mono ?_)); rintro e w1 ⟨rfl, rfl⟩)
      go_ret
      exact ⟨rfl, HB0.out⟩
    | true =>
      rw [e2] at q2 hR
      cases e3 : inN pa with
      | false =>
        rw [e3] at hR
        simp only [Bool.false_and, Bool.and_false] at hR
        subst hR
        have e3' : pa < 0 ∨ (¬ pa < 0 ∧ pa > 4096) := by unfold inN at e3; simp at e3; omega
        clear e1 e2 e3 K1 h2
        rcases e3' with h3 | ⟨h3, h4⟩
        all_goals
          go_enter Try.func58, Try.ntmps58
          go_wp2_with (go_at_call 59; (first | (with_reducible refine (q1 _).mono ?_) | (with_reducible refine (q2 _).mono ?_)); rintro e w1 ⟨rfl, rfl⟩)
          go_ret
          exact ⟨rfl, HB0.out⟩
      | true =>
        rw [e3] at hR
        have ha : 0 ≤ pa ∧ pa ≤ 4096 := by unfold inN at e3; simpa using e3
        obtain ⟨ha0, ha1⟩ := ha
        have ha2 : ¬ pa < 0 := by omega
        have ha3 : ¬ pa > 4096 := by omega
        have hw : wrap64 (4096 - pa) = 4096 - pa := w64b _ (by omega)
        cases e4 : inN ps with
        | false =>
          rw [e4] at hR
          simp only [Bool.false_and, Bool.and_false] at hR
          subst hR
          have e4' : ps < 0 ∨ (¬ ps < 0 ∧ ps > 4096) := by unfold inN at e4; simp at e4; omega
          clear e1 e2 e3 e4 K1 h2
          rcases e4' with h3 | ⟨h3, h4⟩
          all_goals
            go_enter Try.func58, Try.ntmps58
            go_wp2_with (go_at_call 59; (first | (with_reducible refine (q1 _).mono ?_) | (with_reducible refine (q2 _).mono ?_)); rintro e w1 ⟨rfl, rfl⟩)
            go_ret
            exact ⟨rfl, HB0.out⟩
        | true =>
          rw [e4] at hR
          have hb : 0 ≤ ps ∧ ps ≤ 4096 := by unfold inN at e4; simpa using e4
          obtain ⟨hb0, hb1⟩ := hb
          have hb2 : ¬ ps < 0 := by omega
          have hb3 : ¬ ps > 4096 := by omega
          by_cases e5 : (n : Int) ≤ 4096 - pa
          · rw [decide_eq_true e5] at hR
            have e5' : ¬ (n : Int) > 4096 - pa := by omega
            simp only [Bool.true_and, Bool.and_true] at hR
            by_cases e6 : pa = 0 ∧ pb ≠ 0
            · have h6 : (pa == 0) = true := by simp [e6.1]
              have h7 : (pb != 0) = true := by simp [e6.2]
              rw [decide_eq_true e6.1, decide_eq_false e6.2] at hR
              simp only [Bool.true_and, Bool.not_true, Bool.not_false, Bool.false_and] at hR
              subst hR
              obtain ⟨rfl, e6⟩ := e6
              clear e1 e2 e3 e4 K1 h2 e6 e5 h6
              go_enter Try.func58, Try.ntmps58
              go_wp2_with (go_at_call 59; (first | (with_reducible refine (q1 _).mono ?_) | (with_reducible refine (q2 _).mono ?_)); rintro e w1 ⟨rfl, rfl⟩)
              go_ret
              exact ⟨rfl, HB0.out⟩
            · have hR2 : R = chain pe pb pl := by
                rw [hR]
                by_cases h0 : pa = 0
                · have h1 : pb = 0 := Decidable.not_not.1 fun h => e6 ⟨h0, h⟩
                  simp [h0, h1]
                · simp [h0]
              have hd : (pa == 0) = false ∨ ((pa == 0) = true ∧ (pb != 0) = false) := by
                by_cases h0 : pa = 0
                · have h1 : pb = 0 := Decidable.not_not.1 fun h => e6 ⟨h0, h⟩
                  exact .inr ⟨by simp [h0], by simp [h1]⟩
                · exact .inl (by simp [h0])
              have HR : Hid (R = chain pe pb pl) := hR2
              have HK1 : Hid (KR w _ _) := K1
              clear hR hR2 e1 e2 e3 e4 h2 e5 K1 e6
              rcases hd with hd | ⟨hd, hd2⟩
              all_goals
                go_enter Try.func58, Try.ntmps58
                go_wp2_with (go_at_call 59; (first | (with_reducible refine (q1 _).mono ?_) | (with_reducible refine (q2 _).mono ?_)); rintro e w1 ⟨rfl, rfl⟩)
                go_loopw [3, 4] (fun v3 v4 W => ∃ (i : Nat) (last : Int), v4 = .int .i64 (i : Int) ∧ v3 = .int .i64 last ∧ i ≤ n ∧ chain pe pb pl = chain pe last (pl.drop i) ∧ KR w [(w.heap.size, [.int .i64 pe, .int .i64 pa, .int .i64 pb, .slice sp n c, .int .i64 ps])] W) (fun v3 v4 _ => n - (intOf v4).toNat)
                case atStart => exact ⟨0, pb, rfl, rfl, Nat.zero_le _, rfl, HK1.out⟩
                case round =>
                  obtain ⟨i, last, rfl, rfl, hi, hch, HK⟩ := hrel
                  have HC : Hid (R = chain pe last (pl.drop i)) := HR.out.trans hch
                  have HRR : Hid (chain pe pb pl = R) := HR.out.symm
                  clear hch HR HK1 HB0
                  have c0 := kr_cell HK 0 rfl 0 _ rfl
                  have c3 := kr_cell HK 0 rfl 3 _ rfl
                  by_cases hlt : i < n
                  · have hii : (i : Int) < (n : Int) := by omega
                    obtain ⟨A, rfl, hc⟩ := hE.out (by rw [hn.out]; omega)
                    have hg : pl[i]? = some (pl[i]'(by rw [hn.out]; exact hlt)) := List.getElem?_eq_getElem (by rw [hn.out]; exact hlt)
                    obtain ⟨sj, cj, a0, a1, -, -⟩ := hc i _ hg
                    have hxl := hz.out _ (List.mem_of_getElem? hg)
                    have hdr : pl.drop i = (pl[i]'(by rw [hn.out]; exact hlt)) :: pl.drop (i + 1) := List.drop_eq_getElem_cons _
                    have HC : Hid (R = chain pe last ((pl[i]'(by rw [hn.out]; exact hlt)) :: pl.drop (i + 1))) := by rw [← hdr]; exact HC.out
                    generalize pl[i]'(by rw [hn.out]; exact hlt) = x at a0 a1 HC hxl
                    have a0 := kr_old HK a0
                    have a1 := kr_old HK a1
                    obtain ⟨m, hm⟩ : ∃ m, m = x.2.length := ⟨_, rfl⟩
                    rw [← hm] at a1
                    have HM : Hid (m = x.2.length) := hm
                    have hmi : (m : Int) ≤ 140737488351232 := by omega
                    have HKR : Hid (KR w _ wr) := HK
                    have HI : Hid (i < n) := hlt
                    clear hc hg hm hxl hdr HK hlt q1 q2
                    by_cases hx1 : x.1 < last
                    · have hb1 : decide (x.1 < last) = true := by simp [hx1]
                      have HC2 : Hid (R = false) := by
                        have h := HC.out
                        rw [chain, decide_eq_false (by omega), Bool.false_and] at h
                        exact h
                      clear HC hx1
                      go_wp2_with fail
                      go_quiet (fail)
                      go_wp2_with fail
                      go_ret
                      exact ⟨by have := HC2.out; first | (rw [this]; done) | simp [this], (kr_drewN HKR.out _).below⟩
                    · have hb1 : decide (x.1 < last) = false := by simp; omega
                      by_cases hx2 : x.1 > pe
                      · have hb2' : decide (pe < x.1) = true := by simp; omega
                        have HC2 : Hid (R = false) := by
                          have h := HC.out
                          rw [chain, decide_eq_false (by omega), Bool.false_and] at h
                          exact h
                        clear HC hx1 hx2
                        go_wp2_with fail
                        go_quiet (fail)
                        go_wp2_with fail
                        go_ret
                        exact ⟨by have := HC2.out; first | (rw [this]; done) | simp [this], (kr_drewN HKR.out _).below⟩
                      · have hb2' : decide (pe < x.1) = false := by simp; omega
                        by_cases hw2 : m ≤ 60000
                        · have hw3 : decide ((60000 : Int) < (m : Int)) = false := by simp; omega
                          have hw4 : ¬ (60000 : Int) < (m : Int) := by omega
                          have HC2 : Hid (R = chain pe x.1 (pl.drop (i + 1))) := by
                            have h := HC.out
                            rw [chain, decide_eq_true (by have := HM.out; omega), Bool.true_and] at h
                            exact h
                          clear HC hx1 hx2 hw2
                          go_wp2_with fail
                          go_quiet (fail)
                          go_wp2_with fail
                          go_round
                          case rel => exact ⟨i + 1, x.1, by go_num, rfl, by have := HI.out; omega, HRR.out.trans HC2.out, kr_drewN HKR.out _⟩
                          case measure => have := HI.out; (simp [intOf]; try omega)
                        · have hw3 : (60000 : Int) < (m : Int) := by omega
                          have HC2 : Hid (R = false) := by
                            have h := HC.out
                            rw [chain, decide_eq_false (by have := HM.out; omega), Bool.false_and] at h
                            exact h
                          clear HC hx1 hx2 hw2
                          go_wp2_with fail
                          go_quiet (fail)
                          go_wp2_with fail
                          go_ret
                          exact ⟨by have := HC2.out; first | (rw [this]; done) | simp [this], (kr_drewN HKR.out _).below⟩
                  · obtain rfl : i = n := by omega
                    have HC2 : Hid (R = true) := by
                      have h := HC.out
                      rw [List.drop_eq_nil_of_le (by rw [hn.out]; exact Nat.le_refl _), chain] at h
                      exact h
                    have HB2 : Hid (Below w.heap.size w wr) := HK.below
                    clear HK HC q1 q2
                    go_wp2_with fail
                    go_ret
                    exact ⟨by have := HC2.out; first | (rw [this]; done) | simp [this], HB2.out⟩
          · have e5' : (n : Int) > 4096 - pa := by omega
            rw [decide_eq_false e5] at hR
            simp only [Bool.false_and, Bool.and_false] at hR
            subst hR
            clear e1 e2 e3 e4 K1 h2 e5
            go_enter Try.func58, Try.ntmps58
            go_wp2_with (go_at_call 59; (first | (with_reducible refine (q1 _).mono ?_) | (with_reducible refine (q2 _).mono ?_)); rintro e w1 ⟨rfl, rfl⟩)
            go_ret
            exact ⟨rfl, HB0.out⟩
end Go.Proofs.Ytofpkmfjigjlhaa.Own
