/- LogCut: the walk. No conditions beside those in each theorem. -/
import Derived.Test.YtaonaifnaecpiaaME
import Derived.Test.YtaonaifnaecpiaaWtn
import Derived.Test.YtaonaifnaecpiaaMD
import Derived.Test.YtaonaifnaecpiaaME
namespace Go.Proofs.Ytaonaifnaecpiaa.Own
open Go.RowKit Go.Proofs.YtaonaifnaecpiaaW.PrintWords
set_option linter.unusedSimpArgs false
set_option linter.unusedVariables false
theorem rl_llvN {w W : World} {rows : List (Nat × List Value)} {v : Value} {recs : List (List Int)} {n : Nat} (HK : KR w rows W) (hn : recs.length = n) (h : RL rows v recs) : ∃ sp cap, v = .slice sp n cap ∧ n ≤ cap ∧ LLV W sp recs := by
  subst hn; exact rl_llv HK h
theorem take_all {l : List (List Int)} {n k : Nat} (hn : l.length = n) (hk : n ≤ k) : l.take k = l := List.take_of_length_le (by omega)
theorem le_push {l : List (List Int)} {k m : Nat} (hk : k < l.length) (h : ∀ r ∈ l.take k, r.length ≤ m) (h2 : l[k].length ≤ m) : ∀ r ∈ l.take (k + 1), r.length ≤ m := fun r hr => by
  rw [cons_take hk] at hr
  rcases List.mem_append.1 hr with hr | hr
  · exact h r hr
  · rw [List.mem_singleton.1 hr]; exact h2
set_option maxRecDepth 100000 in
set_option maxHeartbeats 4000000 in
theorem logCut_k {w : World} (l : List (List Int)) (n : Nat) (hn : Hid (l.length = n)) (hL : Hid (isBL l)) (hll : ∀ r ∈ l, r.length ≤ 140737488351232) (h2 : n ≤ 9223372036854775807) (sp : Option Addr) (cp : Nat) (hcp : n ≤ cp) (hS : Hid (LLV w sp l)) (z : Int) (hz : Hid ((Lit.int .i64 z).wf = true)) :
    Calls Try.prog 4 #[.slice sp n cp, .int .i64 z] w fun e W' => e = .returned (.bool true) ∧ Below w.heap.size w W' := by
  have h2i : (n : Int) ≤ 9223372036854775807 := by omega
  have hcpi : (n : Int) ≤ (cp : Int) := by omega
  have HLL : Hid (∀ r ∈ l, r.length ≤ 140737488351232) := hll
  have HCP : Hid (n ≤ cp) := hcp
  clear hll h2 hcp
  by_cases h12 : 12 < n
  · have h12i : (12 : Int) < (n : Int) := by omega
    clear h12
    go_enter Try.func4, Try.ntmps4
    go_wp2_with (go_at_call 19; refine (known_k (kr_refl w)).mono ?_; rintro e w1 ⟨rfl, K1⟩)
    refine bodyPost_ret (v := .bool true) (by simp [results, Try.results4, go_sem]) rfl ⟨rfl, K1.below⟩
  · have h12i : (n : Int) ≤ 12 := by omega
    have h12n : n ≤ 16 := by omega
    clear h12 h2i
    go_enter Try.func4, Try.ntmps4
    go_wp2
    go_loopw [5] (fun v5 W => ∃ (k : Nat), v5 = .int .i64 (k : Int) ∧ k ≤ n ∧ W = w ∧ ∀ r ∈ l.take k, r.length ≤ 200) (fun v5 _ => n - (intOf v5).toNat)
    case atStart => exact ⟨0, rfl, Nat.zero_le _, by first | rfl | trivial, by simp⟩
    case round =>
      obtain ⟨k, rfl, hk, rfl, hA⟩ := hrel
      by_cases hlt : k < n
      · have hkl : k < l.length := by rw [hn.out]; exact hlt
        obtain ⟨A, rfl, hcA⟩ := hS.out (by omega)
        obtain ⟨sj, cj, c1, S1⟩ := hcA k _ (List.getElem?_eq_getElem hkl)
        have hki : (k : Int) < (n : Int) := by omega
        have hmi : (l[k].length : Int) ≤ 140737488351232 := by have := HLL.out _ (List.getElem_mem hkl); omega
        have HP : Hid (l[k].length ≤ 200 → ∀ r ∈ l.take (k + 1), r.length ≤ 200) := le_push hkl hA
        generalize l[k].length = m at HP c1 hmi
        clear hcA S1 hA
        by_cases hm : 200 < m
        · have hm2 : (200 : Int) < (m : Int) := by omega
          clear hm HP
          go_wp2_with (go_at_call 19; refine (known_k (kr_refl _)).mono ?_; rintro e w1 ⟨rfl, K1⟩)
          refine bodyPost_ret (v := .bool true) (by simp [results, Try.results4, go_sem]) rfl ⟨rfl, K1.below⟩
        · have hm2 : (m : Int) ≤ 200 := by omega
          have HQ : Hid (∀ r ∈ l.take (k + 1), r.length ≤ 200) := HP.out (by omega)
          clear hm HP
          go_wp2_with fail
          go_round
          case rel => exact ⟨k + 1, by go_num, by omega, by first | rfl | trivial, HQ.out⟩
          case measure => (simp [intOf]; try omega)
      · obtain rfl : k = n := by omega
        rw [take_all hn.out (Nat.le_refl _)] at hA
        have HR : Hid (∀ r ∈ l, isB r ∧ r.length ≤ 200) := fun r hr => ⟨hL.out r hr, hA r hr⟩
        have HRec : Hid (RecOK l) := fun r hr => ⟨hL.out r hr, by have := hA r hr; omega⟩
        have hfl : flen l ≤ 3456 := by
          have h1 := flen_le 200 l hA
          rw [hn.out] at h1
          omega
        have hfi : (flen l : Int) ≤ 3456 := by omega
        have hwt := written_k (w := wr) l k hn HR h12n sp cp hS
        have HB : Hid (isB (wrF 1 l)) := wrF_isB l 1 hL.out
        have HBl : Hid ((wrF 1 l).length = flen l) := wrF_len l 1
        have HSC : Hid (scan (wrF 1 l) = (if l = [] then 0 else 1, l)) := scan_wr l 1 HRec.out (by omega) (by have := hn.out; omega)
        have HCUT : Hid (∀ r, ∃ j, j ≤ k ∧ (scan ((wrF 1 l).take r)).2 = l.take j) := fun r => by
          obtain ⟨j, h1, h2⟩ := scan_cut l 1 r HRec.out (by omega) (by have := hn.out; omega)
          exact ⟨j, by rw [← hn.out]; exact h1, h2⟩
        obtain ⟨m, hm⟩ : ∃ m, m = flen l + 1 := ⟨_, rfl⟩
        have hmi : (flen l : Int) + 1 = (m : Int) := by omega
        have hcn := fun W => cnt_k (w := W) z hz.out m (by omega) (by omega)
        have HM : Hid (m = flen l + 1 ∧ flen l ≤ 3456) := ⟨hm, hfl⟩
        have hkk : (k : Int) ≤ (k : Int) := Int.le_refl _
        clear hA hm hfl hlt hk
        rcases Nat.eq_zero_or_pos k with h0 | h0
        · subst h0
          have HSC : Hid (scan (wrF 1 l) = (0, l)) := by show _ = _; rw [HSC.out, if_pos (List.eq_nil_of_length_eq_zero hn.out)]
          go_wp2_with (go_at_call 20; refine hwt.mono ?_; rintro e w1 ⟨v1, l1, rfl, K1, C1⟩; obtain ⟨s1, c1, rfl, hc1, S1⟩ := sc_src K1 C1; clear C1)
          have S1h : Hid (SrcV w1 s1 (bcl (wrF 1 l))) := S1
          have HC1 : Hid (flen l ≤ c1) := hc1
          have hc1i : (flen l : Int) ≤ (c1 : Int) := by omega
          clear S1 hc1 hwt
          have hsc := scan_k (w := w1) (wrF 1 l) (flen l) HBl HB (by have := HM.out; omega) s1 c1 HC1.out S1h
          rw [HSC.out] at hsc
          go_wp2_with (go_at_call 13; refine hsc.mono ?_; rintro e w2 ⟨v2, l2, rfl, K2', R2⟩; have K2 := kr_join K1 K2'; obtain ⟨s2, c2, rfl, hc2, V2⟩ := rl_llvN K2' hn.out R2; clear R2)
          clear hsc
          have K2h : Hid (KR w1 l2 w2) := K2'
          clear K2'
          have hsame := same_k (W := w2) l l 0 0 hn hn hL.out hL.out (by omega) (by omega) s2 sp c2 cp V2 (llv_keep hS.out K2.below)
          rw [decide_eq_true rfl] at hsame
          generalize hFL : flen l = F at *
          go_wp2_with (go_at_call 15; refine hsame.mono ?_; rintro e w3 ⟨rfl, k3, rfl⟩; have K3 := kr_call K2 (bw_drewN (Below.refl _ _) k3); clear K2 hsame V2)
          go_wp2_with (go_at_call 21; refine (hcn _).mono ?_; rintro e w4 ⟨r, rfl, hr, rfl⟩)
          clear hcn
          obtain ⟨j, hj, he⟩ := HCUT.out r
          obtain rfl : j = 0 := by omega
          have hri : (r : Int) ≤ (F : Int) := by omega
          have hrc : (r : Int) ≤ (c1 : Int) := by omega
          have HRF : Hid (r ≤ F ∧ r ≤ c1) := ⟨by omega, by have := HC1.out; omega⟩
          clear hr
          have hs5 := scan_k (w := w2.drewN k3) ((wrF 1 l).take r) r (by show _ = _; rw [List.length_take, HBl.out]; have := HRF.out; omega) (isB_take HB.out r) (by have := HRF.out; have := HM.out; omega) s1 c1 HRF.out.2 (srcV_keep (srcV_take S1h.out r) (bw_drewN K2h.out.below k3))
          have HT : Hid (flen (scan ((wrF 1 l).take r)).2 ≤ r) := by
            have := (scan_props (bs := (wrF 1 l).take r) (isB_take HB.out r)).2.1
            rw [List.length_take] at this
            show _ ≤ _
            omega
          rw [he] at HT hs5
          have hTi : (flen (l.take 0) : Int) ≤ (r : Int) := by have := HT.out; omega
          have HLJ : Hid ((l.take 0).length = 0) := by show _ = _; rw [List.length_take, hn.out]; omega
          have HJB : Hid (isBL (l.take 0)) := fun x hx => hL.out x (List.mem_of_mem_take hx)
          generalize (scan ((wrF 1 l).take r)).1 = f5 at hs5
          generalize flen (l.take 0) = T at hs5 hTi HT
          go_wp2_with (go_at_call 13; refine hs5.mono ?_; rintro e w5 ⟨v5, l5, rfl, K5', R5⟩; have K5 := kr_join K3 K5'; obtain ⟨s5, c5, rfl, hc5, V5⟩ := rl_llvN K5' HLJ.out R5; clear R5 K5')
          clear hs5 K3
          skip
          have hjc : ((0 : Nat) : Int) ≤ (cp : Int) := by have := HCP.out; omega
          have hsame := same_k (W := w5) (l.take 0) (l.take 0) 0 0 HLJ HLJ HJB.out HJB.out (by omega) (by omega) s5 sp c5 cp V5 (llv_take (llv_keep hS.out K5.below) 0)
          rw [decide_eq_true rfl] at hsame
          have HJ : Hid (0 ≤ 0) := hj
          clear hj V5 he hc5
          go_wp2_with (first | (go_at_call 15; refine hsame.mono ?_; rintro e w6 ⟨rfl, k6, rfl⟩; have K6 := kr_call K5 (bw_drewN (Below.refl _ _) k6); clear K5 hsame) | (go_at_call 19; refine (known_k K6).mono ?_; rintro e w7 ⟨rfl, K7⟩))
          refine bodyPost_ret (v := .bool true) (by simp [results, Try.results4, go_sem]) rfl ⟨rfl, K7.below⟩
        · have h0i : (0 : Int) < (k : Int) := by omega
          have HSC : Hid (scan (wrF 1 l) = (1, l)) := by show _ = _; rw [HSC.out, if_neg (by intro e; have := hn.out; rw [e] at this; simp at this; omega)]
          go_wp2_with (go_at_call 20; refine hwt.mono ?_; rintro e w1 ⟨v1, l1, rfl, K1, C1⟩; obtain ⟨s1, c1, rfl, hc1, S1⟩ := sc_src K1 C1; clear C1)
          have S1h : Hid (SrcV w1 s1 (bcl (wrF 1 l))) := S1
          have HC1 : Hid (flen l ≤ c1) := hc1
          have hc1i : (flen l : Int) ≤ (c1 : Int) := by omega
          clear S1 hc1 hwt
          have hsc := scan_k (w := w1) (wrF 1 l) (flen l) HBl HB (by have := HM.out; omega) s1 c1 HC1.out S1h
          rw [HSC.out] at hsc
          go_wp2_with (go_at_call 13; refine hsc.mono ?_; rintro e w2 ⟨v2, l2, rfl, K2', R2⟩; have K2 := kr_join K1 K2'; obtain ⟨s2, c2, rfl, hc2, V2⟩ := rl_llvN K2' hn.out R2; clear R2)
          clear hsc
          have K2h : Hid (KR w1 l2 w2) := K2'
          clear K2'
          have hsame := same_k (W := w2) l l k k hn hn hL.out hL.out (by omega) (by omega) s2 sp c2 cp V2 (llv_keep hS.out K2.below)
          rw [decide_eq_true rfl] at hsame
          generalize hFL : flen l = F at *
          go_wp2_with (go_at_call 15; refine hsame.mono ?_; rintro e w3 ⟨rfl, k3, rfl⟩; have K3 := kr_call K2 (bw_drewN (Below.refl _ _) k3); clear K2 hsame V2)
          go_wp2_with (go_at_call 21; refine (hcn _).mono ?_; rintro e w4 ⟨r, rfl, hr, rfl⟩)
          clear hcn
          obtain ⟨j, hj, he⟩ := HCUT.out r
          skip
          have hri : (r : Int) ≤ (F : Int) := by omega
          have hrc : (r : Int) ≤ (c1 : Int) := by omega
          have HRF : Hid (r ≤ F ∧ r ≤ c1) := ⟨by omega, by have := HC1.out; omega⟩
          clear hr
          have hs5 := scan_k (w := w2.drewN k3) ((wrF 1 l).take r) r (by show _ = _; rw [List.length_take, HBl.out]; have := HRF.out; omega) (isB_take HB.out r) (by have := HRF.out; have := HM.out; omega) s1 c1 HRF.out.2 (srcV_keep (srcV_take S1h.out r) (bw_drewN K2h.out.below k3))
          have HT : Hid (flen (scan ((wrF 1 l).take r)).2 ≤ r) := by
            have := (scan_props (bs := (wrF 1 l).take r) (isB_take HB.out r)).2.1
            rw [List.length_take] at this
            show _ ≤ _
            omega
          rw [he] at HT hs5
          have hTi : (flen (l.take j) : Int) ≤ (r : Int) := by have := HT.out; omega
          have HLJ : Hid ((l.take j).length = j) := by show _ = _; rw [List.length_take, hn.out]; omega
          have HJB : Hid (isBL (l.take j)) := fun x hx => hL.out x (List.mem_of_mem_take hx)
          generalize (scan ((wrF 1 l).take r)).1 = f5 at hs5
          generalize flen (l.take j) = T at hs5 hTi HT
          go_wp2_with (go_at_call 13; refine hs5.mono ?_; rintro e w5 ⟨v5, l5, rfl, K5', R5⟩; have K5 := kr_join K3 K5'; obtain ⟨s5, c5, rfl, hc5, V5⟩ := rl_llvN K5' HLJ.out R5; clear R5 K5')
          clear hs5 K3
          have hji : (j : Int) ≤ (k : Int) := by omega
          have hjc : ((j : Nat) : Int) ≤ (cp : Int) := by have := HCP.out; omega
          have hsame := same_k (W := w5) (l.take j) (l.take j) j j HLJ HLJ HJB.out HJB.out (by omega) (by omega) s5 sp c5 cp V5 (llv_take (llv_keep hS.out K5.below) j)
          rw [decide_eq_true rfl] at hsame
          have HJ : Hid (j ≤ k) := hj
          clear hj V5 he hc5
          go_wp2_with (first | (go_at_call 15; refine hsame.mono ?_; rintro e w6 ⟨rfl, k6, rfl⟩; have K6 := kr_call K5 (bw_drewN (Below.refl _ _) k6); clear K5 hsame) | (go_at_call 19; refine (known_k K6).mono ?_; rintro e w7 ⟨rfl, K7⟩))
          refine bodyPost_ret (v := .bool true) (by simp [results, Try.results4, go_sem]) rfl ⟨rfl, K7.below⟩
theorem logCut_any (sp : Option Addr) (n cp : Nat) (z : Int) (hz : (Lit.int .i64 z).wf = true) (w : World) (h : ∃ l : List (List Int), l.length = n ∧ LLV w sp l ∧ isBL l ∧ (∀ r ∈ l, r.length ≤ 140737488351232) ∧ n ≤ maxLen ∧ n ≤ cp) :
    Calls Try.prog 4 #[.slice sp n cp, .int .i64 z] w fun e W' => e = .returned (.bool true) ∧ Below w.heap.size w W' := by
  obtain ⟨l, h1, h2, h3, h4, h5, h6⟩ := h
  exact logCut_k l n h1 h3 h4 (by unfold maxLen at h5; omega) sp cp h6 h2 z hz
end Go.Proofs.Ytaonaifnaecpiaa.Own
