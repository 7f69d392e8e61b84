/- LogTwo: the walk. No conditions beside those in each theorem. -/
import Derived.Test.YtaonaifnaecpiaaCut
namespace Go.Proofs.Ytaonaifnaecpiaa.Own
open Go.RowKit Go.Proofs.YtaonaifnaecpiaaW.PrintWords
set_option linter.unusedSimpArgs false
set_option linter.unusedVariables false
/-- A slice's elements as values, of a list of byte lists that is read. -/
theorem llv_vals {W : World} {sp : Option Addr} {l : List (List Int)} (h : LLV W sp l) : ∃ vs : List Value, vs.length = l.length ∧ SrcV W sp vs ∧ (∀ v ∈ vs, v.oneCell' = true) ∧ ∀ (j : Nat) (u : Value) (r : List Int), vs[j]? = some u → l[j]? = some r → ∃ sj cj, u = .slice sj r.length cj ∧ SrcV W sj (bcl r) := by
  by_cases h0 : 0 < l.length
  · obtain ⟨A, rfl, hc⟩ := h h0
    have key : ∀ n, n ≤ l.length → ∃ vs : List Value, vs.length = n ∧ (∀ v ∈ vs, v.oneCell' = true) ∧ ∀ (j : Nat) (u : Value) (r : List Int), vs[j]? = some u → l[j]? = some r → W.cell? (A.add j) = some u ∧ ∃ sj cj, u = .slice sj r.length cj ∧ SrcV W sj (bcl r) := by
      intro n
      induction n with
      | zero => exact fun _ => ⟨[], rfl, by simp, by simp⟩
      | succ n ih =>
        intro hn
        obtain ⟨vs, h1, h2, h3⟩ := ih (by omega)
        have hr : l[n]? = some (l[n]'(by omega)) := List.getElem?_eq_getElem (by omega)
        obtain ⟨sj, cj, h4, h5⟩ := hc n _ hr
        refine ⟨vs ++ [.slice sj (l[n]'(by omega)).length cj], by simp [h1], fun v hv => ?_, fun j u r hu hr' => ?_⟩
        · rcases List.mem_append.1 hv with hv | hv
          · exact h2 v hv
          · rw [List.mem_singleton.1 hv]; rfl
        · by_cases hj : j < n
          · rw [List.getElem?_append_left (by omega)] at hu
            exact h3 j u r hu hr'
          · have hjn : j = n := by
              have := (List.getElem?_eq_some_iff.1 hu).1
              simp at this
              omega
            subst hjn
            rw [List.getElem?_append_right (by omega), h1, Nat.sub_self] at hu
            simp at hu
            rw [hr] at hr'
            injection hr' with hr'
            subst hr'
            subst hu
            exact ⟨h4, sj, cj, rfl, h5⟩
    obtain ⟨vs, h1, h2, h3⟩ := key l.length (Nat.le_refl _)
    refine ⟨vs, h1, fun _ => ⟨A, rfl, fun j v hv => ?_⟩, h2, fun j u r hu hr => (h3 j u r hu hr).2⟩
    have hj := (List.getElem?_eq_some_iff.1 hv).1
    exact (h3 j v _ hv (List.getElem?_eq_getElem (by omega : j < l.length))).1
  · have e : l = [] := List.eq_nil_of_length_eq_zero (by omega)
    subst e
    exact ⟨[], rfl, fun h => absurd h (by simp), by simp, by simp⟩
theorem vals_llv {W : World} {sp : Option Addr} {l : List (List Int)} {vs : List Value} (h1 : vs.length = l.length) (hS : SrcV W sp vs) (h : ∀ (j : Nat) (u : Value) (r : List Int), vs[j]? = some u → l[j]? = some r → ∃ sj cj, u = .slice sj r.length cj ∧ SrcV W sj (bcl r)) : LLV W sp l := fun h0 => by
  obtain ⟨A, hA, hc⟩ := hS (by omega)
  refine ⟨A, hA, fun j r hr => ?_⟩
  have hj := (List.getElem?_eq_some_iff.1 hr).1
  have hv : vs[j]? = some (vs[j]'(by omega)) := List.getElem?_eq_getElem (by omega)
  obtain ⟨sj, cj, e, hS2⟩ := h j _ r hv hr
  exact ⟨sj, cj, by rw [← e]; exact hc j _ hv, hS2⟩
theorem own_srcV {w W : World} {rs : List (Nat × List Value)} {e : TypeId} {sp : Option Addr} {n m c : Nat} {xs : List Value} (h : Own w rs e 1 (.slice sp m c) n xs W) : SrcV W sp xs := fun h0 => by
  rcases h.1.2 with ⟨hv, h1⟩ | ⟨g, cap, cur, hv, hb, hg, hn, hm, hs, ht⟩
  · have := h.1.1; rw [h1] at this; omega
  · injection hv with hv
    subst hv
    refine ⟨_, rfl, fun j v hj => ?_⟩
    rw [Addr.add_mid, Nat.zero_add, cell_of_row _ _ j _ _ _ hg]
    rw [← ht, List.getElem?_take] at hj
    split at hj
    · simpa using hj
    · cases hj
theorem app_keep {W W' : World} {a b : List (List Int)} {va vb : List Value} (hb : Below W.heap.size W W') (h1 : va.length = a.length) (h2 : vb.length = b.length) (ha : ∀ (j : Nat) (u : Value) (r : List Int), va[j]? = some u → a[j]? = some r → ∃ sj cj, u = .slice sj r.length cj ∧ SrcV W sj (bcl r))
    (hbb : ∀ (j : Nat) (u : Value) (r : List Int), vb[j]? = some u → b[j]? = some r → ∃ sj cj, u = .slice sj r.length cj ∧ SrcV W sj (bcl r)) : ∀ (j : Nat) (u : Value) (r : List Int), (va ++ vb)[j]? = some u → (a ++ b)[j]? = some r → ∃ sj cj, u = .slice sj r.length cj ∧ SrcV W' sj (bcl r) := by
  intro j u r hu hr
  by_cases hj : j < a.length
  · rw [List.getElem?_append_left (by omega)] at hu
    rw [List.getElem?_append_left hj] at hr
    obtain ⟨sj, cj, h3, h4⟩ := ha j u r hu hr
    exact ⟨sj, cj, h3, srcV_keep h4 hb⟩
  · rw [List.getElem?_append_right (by omega), h1] at hu
    rw [List.getElem?_append_right (by omega)] at hr
    obtain ⟨sj, cj, h3, h4⟩ := hbb _ u r hu hr
    exact ⟨sj, cj, h3, srcV_keep h4 hb⟩
set_option maxRecDepth 100000 in
set_option maxHeartbeats 4000000 in
theorem logTwo_k {w : World} (a b : List (List Int)) (n m : Nat) (hn : Hid (a.length = n)) (hm : Hid (b.length = m)) (hLa : Hid (isBL a)) (hLb : Hid (isBL b)) (hla : ∀ r ∈ a, r.length ≤ 140737488351232) (hlb : ∀ r ∈ b, r.length ≤ 140737488351232) (h2 : n ≤ 9223372036854775807) (h3 : m ≤ 9223372036854775807) (sp sq : Option Addr) (cp cq : Nat) (hcp : n ≤ cp) (hcq : m ≤ cq) (hS : Hid (LLV w sp a)) (hT : Hid (LLV w sq b)) :
    Calls Try.prog 6 #[.slice sp n cp, .slice sq m cq] w fun e W' => e = .returned (.bool true) ∧ Below w.heap.size w W' := by
  have h2i : (n : Int) ≤ 9223372036854775807 := by omega
  have h3i : (m : Int) ≤ 9223372036854775807 := by omega
  have HLL : Hid (∀ r ∈ a ++ b, r.length ≤ 140737488351232) := fun r hr => by
    rcases List.mem_append.1 hr with hr | hr
    · exact hla r hr
    · exact hlb r hr
  clear hla hlb h2 h3 hcp hcq
  by_cases hbig : 8 < n ∨ 8 < m
  · by_cases h8 : 8 < n
    · have h8i : (8 : Int) < (n : Int) := by omega
      clear h8 hbig
      go_enter Try.func6, Try.ntmps6
      go_wp2_with (go_at_call 19; refine (known_k (kr_refl w)).mono ?_; rintro e w1 ⟨rfl, K1⟩)
      refine bodyPost_ret (v := .bool true) (by simp [results, Try.results6, go_sem]) rfl ⟨rfl, K1.below⟩
    · have h8i : (n : Int) ≤ 8 := by omega
      have h9i : (8 : Int) < (m : Int) := by omega
      clear h8 hbig
      go_enter Try.func6, Try.ntmps6
      go_wp2_with (go_at_call 19; refine (known_k (kr_refl w)).mono ?_; rintro e w1 ⟨rfl, K1⟩)
      refine bodyPost_ret (v := .bool true) (by simp [results, Try.results6, go_sem]) rfl ⟨rfl, K1.below⟩
  · have h8i : (n : Int) ≤ 8 := by omega
    have h9i : (m : Int) ≤ 8 := by omega
    have h8n : n ≤ 16 := by omega
    have h9n : m ≤ 16 := by omega
    have hnm : n + m ≤ 16 := by omega
    clear hbig h2i h3i
    obtain ⟨va, va1, va2, va3, va4⟩ := llv_vals hS.out
    obtain ⟨vb, vb1, vb2, vb3, vb4⟩ := llv_vals hT.out
    have HVA : Hid (va.length = n * 1 ∧ SrcV w sp va ∧ ∀ u ∈ va, u.oneCell' = true) := ⟨by rw [va1, hn.out, Nat.mul_one], va2, va3⟩
    have HVB : Hid (vb.length = m * 1 ∧ SrcV w sq vb ∧ ∀ u ∈ vb, u.oneCell' = true) := ⟨by rw [vb1, hm.out, Nat.mul_one], vb2, vb3⟩
    have HAB : Hid (∀ W', Below w.heap.size w W' → ∀ (j : Nat) (u : Value) (r : List Int), (va ++ vb)[j]? = some u → (a ++ b)[j]? = some r → ∃ sj cj, u = .slice sj r.length cj ∧ SrcV W' sj (bcl r)) := fun W' hb => app_keep hb va1 vb1 va4 vb4
    have HLAB : Hid ((va ++ vb).length = (a ++ b).length) := by show _ = _; rw [List.length_append, List.length_append, va1, vb1]
    clear va1 va2 va3 va4 vb1 vb2 vb3 vb4
    go_enter Try.func6, Try.ntmps6
    have T1 : Hid True := trivial
    go_wp2_with (first | (at_builtin; clear T1; refine wl_appendK _ _ 28 23 (.slice none 0 0) 1 24 (kr_refl w) (own_nil w w [] 23 1) sp n cp va HVA.out.2.1 HVA.out.1 HVA.out.2.2 (by unfold maxLen; omega) (by omega) Try.underlying28 bb_info rfl (by omega) rfl rfl (by rfl) (by rfl) (fun v' W' O2 K2 hz => ?_); rw [Nat.zero_add, List.nil_append] at O2; obtain ⟨s4, c4, rfl⟩ := own_form O2; try clear hz) | (at_builtin; refine wl_appendK _ _ 28 23 (.slice none 0 0) 1 24 K2 O2 sq m cq vb (srcV_keep HVB.out.2.1 K2.below) HVB.out.1 HVB.out.2.2 (by unfold maxLen; omega) (by omega) Try.underlying28 bb_info rfl (by omega) rfl rfl (by rfl) (by rfl) (fun v' W3 O3 K3 hz => ?_); obtain ⟨s5, c5, rfl⟩ := own_form O3))
    try clear hz
    clear O2 K2
    obtain ⟨N, hN⟩ : ∃ N, N = n + m := ⟨_, rfl⟩
    rw [← hN] at O3 hnm ⊢
    have HN : Hid ((a ++ b).length = N) := by show _ = _; rw [List.length_append, hn.out, hm.out, hN]
    have HNN : Hid (N = n + m) := hN
    have hNi : (N : Int) ≤ 16 := by omega
    have HV : Hid (LLV W3 s5 (a ++ b)) := vals_llv HLAB.out (own_srcV O3) (HAB.out W3 K3.below)
    have HLL2 : Hid (isBL (a ++ b)) := fun r hr => by
      rcases List.mem_append.1 hr with hr | hr
      · exact hLa.out r hr
      · exact hLb.out r hr
    clear O3 hN HAB HLAB HVA HVB
    generalize hab : a ++ b = l at HN HV HLL HLL2
    go_wp2
    go_loopw [6] (fun v6 W => ∃ (k : Nat), v6 = .int .i64 (k : Int) ∧ k ≤ N ∧ W = W3 ∧ ∀ r ∈ l.take k, r.length ≤ 200) (fun v6 _ => N - (intOf v6).toNat)
    case atStart => exact ⟨0, rfl, Nat.zero_le _, by first | rfl | trivial, by simp⟩
    case round =>
      obtain ⟨k, rfl, hk, rfl, hA⟩ := hrel
      by_cases hlt : k < N
      · have hkl : k < l.length := by rw [HN.out]; exact hlt
        obtain ⟨A, rfl, hcA⟩ := HV.out (by omega)
        obtain ⟨sj, cj, c1, S1⟩ := hcA k _ (List.getElem?_eq_getElem hkl)
        have hki : (k : Int) < (N : Int) := by omega
        have hmi : (l[k].length : Int) ≤ 140737488351232 := by have := HLL.out _ (List.getElem_mem hkl); omega
        have HP : Hid (l[k].length ≤ 200 → ∀ r ∈ l.take (k + 1), r.length ≤ 200) := le_push hkl hA
        generalize l[k].length = q at HP c1 hmi
        clear hcA S1 hA
        by_cases hm : 200 < q
        · have hm2 : (200 : Int) < (q : Int) := by omega
          clear hm HP
          go_wp2_with (go_at_call 19; refine (known_k K3).mono ?_; rintro e w1 ⟨rfl, K1⟩)
          refine bodyPost_ret (v := .bool true) (by simp [results, Try.results6, go_sem]) rfl ⟨rfl, K1.below⟩
        · have hm2 : (q : Int) ≤ 200 := by omega
          have HQ : Hid (∀ r ∈ l.take (k + 1), r.length ≤ 200) := HP.out (by omega)
          clear hm HP
          go_wp2_with fail
          go_round
          case rel => exact ⟨k + 1, by go_num, by omega, by first | rfl | trivial, HQ.out⟩
          case measure => (simp [intOf]; try omega)
      · obtain rfl : k = N := by omega
        rw [take_all HN.out (Nat.le_refl _)] at hA
        clear hlt hk
        have HR : Hid (∀ r ∈ l, isB r ∧ r.length ≤ 200) := fun r hr => ⟨HLL2.out r hr, hA r hr⟩
        subst hab
        have HRa : Hid (∀ r ∈ a, isB r ∧ r.length ≤ 200) := fun r hr => HR.out r (List.mem_append_left _ hr)
        have HRb : Hid (∀ r ∈ b, isB r ∧ r.length ≤ 200) := fun r hr => HR.out r (List.mem_append_right _ hr)
        have HX : Hid (wrF 1 (a ++ b) = wrF 1 a ++ wrF (1 + n) b) := by show _ = _; rw [wrF_app, hn.out]
        have HF : Hid (flen (a ++ b) = flen a + flen b) := flen_app a b
        have hfa : flen a ≤ 3456 := by
          have h1 := flen_le 200 a (fun r hr => (HRa.out r hr).2)
          rw [hn.out] at h1
          omega
        have hfb : flen b ≤ 3456 := by
          have h1 := flen_le 200 b (fun r hr => (HRb.out r hr).2)
          rw [hm.out] at h1
          omega
        have HBa : Hid (isB (wrF 1 a)) := wrF_isB a 1 hLa.out
        have HBb : Hid (isB (wrF (1 + n) b)) := wrF_isB b _ hLb.out
        have HLa : Hid ((wrF 1 a).length = flen a) := wrF_len a 1
        have HLb : Hid ((wrF (1 + n) b).length = flen b) := wrF_len b _
        have HSC : Hid (scan (wrF (1 + n) b) = (if b = [] then 0 else 1 + n, b)) := scan_wr b (1 + n) (fun r hr => ⟨(HRb.out r hr).1, by have := (HRb.out r hr).2; omega⟩) (by omega) (by have := hm.out; omega)
        have HG : Hid (16 * b.length ≤ flen b) := flen_ge b
        rw [hm.out] at HG
        have hw1 := written_k (w := wr) (a ++ b) k HN HR hnm s5 c5 HV
        rw [HX.out] at hw1
        have hw2 := fun (W : World) (hb : Below w.heap.size w W) => written_k (w := W) a n hn HRa h8n sp cp (llv_keep hS.out hb)
        have HZ : Hid (flen a ≤ 3456 ∧ flen b ≤ 3456 ∧ n ≤ 8 ∧ m ≤ 8) := ⟨hfa, hfb, by omega, by omega⟩
        have hfai : (flen a : Int) ≤ 3456 := by omega
        have hfbi : (flen b : Int) ≤ 3456 := by omega
        have HFF : Hid (flen (a ++ b) = flen a + flen b) := HF
        clear hA hfa hfb HF HX HN HV HLL HLL2
        generalize flen (a ++ b) = F at *
        generalize wrF 1 a = XA at *
        generalize wrF (1 + n) b = XB at *
        generalize flen a = FA at *
        generalize hFB : flen b = FB at *
        have hFi : (FA : Int) ≤ (F : Int) := by have := HFF.out; omega
        have hFs : (F : Int) - (FA : Int) = (FB : Int) := by have := HFF.out; omega
        have hF6 : (F : Int) ≤ 6912 := by have := HFF.out; omega
        go_wp2_with (go_at_call 20; refine hw1.mono ?_; rintro e w4 ⟨v4, l4, rfl, K4', C4⟩; have K4 := kr_join K3 K4'; clear hw1)
        go_wp2_with (go_at_call 20; refine (hw2 _ K4.below).mono ?_; rintro e w5 ⟨v5, l5, rfl, K5', C5⟩; have K5 := kr_join K4 K5'; clear hw2)
        obtain ⟨s6, c6, rfl, hc6, S6⟩ := sc_src K5 (sc_mono C4 (fun p hp => List.mem_append_right _ (List.mem_append_left _ hp)))
        obtain ⟨s7, c7, rfl, hc7, S7⟩ := sc_src K5 (sc_mono C5 (fun p hp => List.mem_append_left _ hp))
        have q1 : ∀ nq, (convert 23 9 (.slice s6 FA c6)).run Try.prog (w5.drewN nq) = .ok (.string (strOfNums XA)) (w5.drewN nq) := fun nq => conv_cells FA c6 HLa.out (srcV_keep (by have := srcV_take S6 FA; rwa [List.take_left' HLa.out] at this) (bw_drewN (Below.refl _ _) nq))
        have q2 : ∀ nq, (convert 23 9 (.slice s7 FA c7)).run Try.prog (w5.drewN nq) = .ok (.string (strOfNums XA)) (w5.drewN nq) := fun nq => conv_cells FA c7 HLa.out (srcV_keep S7 (bw_drewN (Below.refl _ _) nq))
        have HS6 : Hid (SrcV w5 s6 (bcl (XA ++ XB))) := S6
        have HC6 : Hid (F ≤ c6) := hc6
        have hc6i : (F : Int) ≤ (c6 : Int) := by omega
        have hc6j : (FA : Int) ≤ (c6 : Int) := by omega
        clear K4 K3 K4' K5' C4 C5 S6 S7 hc6
        generalize strOfNums XA = SX at q1 q2
        rcases s6 with _ | A6
        · have h0 : (XA ++ XB).length = 0 := by
            rcases Nat.eq_zero_or_pos (XA ++ XB).length with h | h
            · exact h
            · obtain ⟨A, hA, _⟩ := HS6.out (by rw [bcl_len]; exact h)
              cases hA
          rw [List.length_append, HLa.out, HLb.out] at h0
          obtain rfl : FA = 0 := by omega
          obtain rfl : FB = 0 := by omega
          obtain rfl : F = 0 := by have := HFF.out; omega
          obtain rfl : m = 0 := by have := HG.out; omega
          clear h0
          go_wp2_with fail
          go_quiet (fail)
          clear q1 q2
          have hsc := fun (W : World) c' => scan_k (w := W) XB 0 HLb HBb (by omega) none c' (Nat.zero_le _) (fun h => absurd h (by rw [bcl_len, HLb.out]; omega))
          have HSC0 : Hid (scan XB = (0, b)) := by show _ = _; rw [HSC.out, if_pos (List.eq_nil_of_length_eq_zero hm.out)]
          rw [HSC0.out] at hsc
          go_wp2_with (go_at_call 13; refine (hsc _ _).mono ?_; rintro e w8 ⟨v8, l8, rfl, K8', R8⟩; have K8 := kr_join (kr_call K5 (bw_drewN (Below.refl _ _) _)) K8'; obtain ⟨s8, c8, rfl, hc8, V8⟩ := rl_llvN K8' hm.out R8; clear R8)
          go_wp2_with (go_at_call 19; refine (known_k K8).mono ?_; rintro e w9 ⟨rfl, K9⟩)
          refine bodyPost_ret (v := .bool true) (by simp [results, Try.results6, go_sem]) rfl ⟨rfl, K9.below⟩
        · have hFn : ¬ ((F : Int) < (FA : Int)) := by omega
          have hFd : decide ((F : Int) < (FA : Int)) = false := decide_eq_false hFn
          have hFnn : ¬ F < FA := by omega
          have hFdn : decide (F < FA) = false := decide_eq_false hFnn
          have hFle : FA ≤ F := by omega
          have hFc : FA ≤ c6 := by omega
          go_wp2_with fail
          go_quiet (fail)
          clear q1 q2
          have HLF : Hid (XB.length = F - FA) := by show _ = _; rw [HLb.out]; have := HFF.out; omega
          have hsc := fun (W : World) (hb : Below w5.heap.size w5 W) s' c' (hc' : F - FA ≤ c') (h : SrcV W s' (bcl XB)) => scan_k (w := W) XB (F - FA) HLF HBb (by have := HZ.out; have := HFF.out; omega) s' c' hc' h
          have hs0 : ∀ W s', F - FA = 0 → SrcV W s' (bcl XB) := fun W s' h h1 => absurd h1 (by rw [bcl_len, HLF.out]; omega)
          have hsr := fun (W : World) (hb : Below w5.heap.size w5 W) => srcV_keep (by have := srcV_dropM HS6.out FA; rwa [List.drop_left' HLa.out] at this) hb
          rcases Nat.eq_zero_or_pos m with h0 | h0
          · subst h0
            have HSC0 : Hid (scan XB = (0, b)) := by show _ = _; rw [HSC.out, if_pos (List.eq_nil_of_length_eq_zero hm.out)]
            rw [HSC0.out] at hsc
            go_wp2_with (go_at_call 13; refine (hsc _ (bw_drewN (Below.refl _ _) _) _ _ (by omega) (by first | exact hsr _ (bw_drewN (Below.refl _ _) _) | exact hs0 _ _ (by omega))).mono ?_; rintro e w8 ⟨v8, l8, rfl, K8', R8⟩; have K8 := kr_join (kr_call K5 (bw_drewN (Below.refl _ _) _)) K8'; obtain ⟨s8, c8, rfl, hc8, V8⟩ := rl_llvN K8' hm.out R8; clear R8)
            all_goals go_wp2_with (go_at_call 19; refine (known_k K8).mono ?_; rintro e w9 ⟨rfl, K9⟩)
            all_goals refine bodyPost_ret (v := .bool true) (by simp [results, Try.results6, go_sem]) rfl ⟨rfl, K9.below⟩
          · have h0i : (0 : Int) < (m : Int) := by omega
            have hmne : ¬ (m : Int) = 0 := by omega
            obtain ⟨q, hq0⟩ : ∃ q, q = 1 + n := ⟨_, rfl⟩
            have hqi : (n : Int) + 1 = (q : Int) := by omega
            have hwq : IntKind.u64.wrap (q : Int) = (q : Int) := by rw [wrap_u64']; have := HZ.out; omega
            have HSC0 : Hid (scan XB = (q, b)) := by show _ = _; rw [HSC.out, if_neg (by intro e; have := hm.out; rw [e] at this; simp at this; omega), hq0]
            clear hq0
            rw [HSC0.out] at hsc
            go_wp2_with (go_at_call 13; refine (hsc _ (bw_drewN (Below.refl _ _) _) _ _ (by omega) (by first | exact hsr _ (bw_drewN (Below.refl _ _) _) | exact hs0 _ _ (by omega))).mono ?_; rintro e w8 ⟨v8, l8, rfl, K8', R8⟩; have K8 := kr_join (kr_call K5 (bw_drewN (Below.refl _ _) _)) K8'; obtain ⟨s8, c8, rfl, hc8, V8⟩ := rl_llvN K8' hm.out R8; clear R8)
            all_goals have hsame := same_k (W := w8) b b m m hm hm hLb.out hLb.out (by have := HZ.out; omega) (by have := HZ.out; omega) s8 sq c8 cq V8 (llv_keep hT.out K8.below)
            all_goals rw [decide_eq_true rfl] at hsame
            all_goals go_wp2_with (first | (go_at_call 15; refine hsame.mono ?_; rintro e w6 ⟨rfl, k6, rfl⟩; have K6 := kr_call K8 (bw_drewN (Below.refl _ _) k6); clear K8 hsame) | (go_at_call 19; refine (known_k K6).mono ?_; rintro e w9 ⟨rfl, K9⟩))
            all_goals refine bodyPost_ret (v := .bool true) (by simp [results, Try.results6, go_sem]) rfl ⟨rfl, K9.below⟩
theorem logTwo_any (sp : Option Addr) (n cp : Nat) (sq : Option Addr) (m cq : Nat) (w : World) (h : ∃ l : List (List Int), l.length = n ∧ LLV w sp l ∧ isBL l ∧ (∀ r ∈ l, r.length ≤ 140737488351232) ∧ n ≤ maxLen ∧ n ≤ cp) (h2 : ∃ l : List (List Int), l.length = m ∧ LLV w sq l ∧ isBL l ∧ (∀ r ∈ l, r.length ≤ 140737488351232) ∧ m ≤ maxLen ∧ m ≤ cq) :
    Calls Try.prog 6 #[.slice sp n cp, .slice sq m cq] w fun e W' => e = .returned (.bool true) ∧ Below w.heap.size w W' := by
  obtain ⟨l, a1, a2, a3, a4, a5, a6⟩ := h
  obtain ⟨k, b1, b2, b3, b4, b5, b6⟩ := h2
  exact logTwo_k l k n m a1 b1 a3 b3 a4 b4 (by unfold maxLen at a5; omega) (by unfold maxLen at b5; omega) sp sq cp cq a6 b6 a2 b2
end Go.Proofs.Ytaonaifnaecpiaa.Own
