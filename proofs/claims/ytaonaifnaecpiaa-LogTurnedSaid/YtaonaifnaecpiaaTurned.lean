/- LogTurned: the walk. No conditions beside those in each theorem. -/
import Derived.Test.YtaonaifnaecpiaaCut
namespace Go.Proofs.Ytaonaifnaecpiaa.Own
open Go.RowKit Go.Proofs.YtaonaifnaecpiaaW.PrintWords
set_option linter.unusedSimpArgs false
set_option linter.unusedVariables false
theorem bcl_set (bs : List Int) (p : Nat) (y : Int) : bcl (bs.set p y) = (bcl bs).set p (.int .u8 y) := by unfold bcl; rw [List.map_set]
theorem wrap_u8' (n : Int) : IntKind.u8.wrap n = n % 256 := by simp [IntKind.wrap, IntKind.bits, IntKind.signed]
theorem bits_xor8 (a b : Nat) (ha : a < 256) (hb : b < 256) : bits .xor .u8 (a : Int) (b : Int) = ((a ^^^ b : Nat) : Int) := by
  have h : (a ^^^ b) < 2 ^ 8 := Nat.xor_lt_two_pow ha hb
  unfold bits
  rw [show (IntKind.u8).bits = 8 from rfl, BitVec.ofInt_natCast, BitVec.ofInt_natCast]
  simp only [BitVec.toNat_xor, BitVec.toNat_ofNat]
  rw [Nat.mod_eq_of_lt (show a < 2 ^ 8 from ha), Nat.mod_eq_of_lt (show b < 2 ^ 8 from hb), wrap_u8']
  omega
theorem turned_bit (c : Int) (s : Nat) (hc : 0 ≤ c ∧ c < 256) (hs : s < 8) : (0 ≤ bits .xor .u8 c (2 ^ s % 256) ∧ bits .xor .u8 c (2 ^ s % 256) < 256) ∧ c ≠ bits .xor .u8 c (2 ^ s % 256) := by
  obtain ⟨a, rfl⟩ : ∃ a : Nat, c = (a : Int) := ⟨c.toNat, by omega⟩
  have ha : a < 256 := by omega
  obtain ⟨b, hb, hb0, hb1⟩ : ∃ b : Nat, ((2 : Int) ^ s % 256) = (b : Int) ∧ 0 < b ∧ b < 256 := by
    match s, hs with
    | 0, _ => exact ⟨1, by decide, by omega, by omega⟩
    | 1, _ => exact ⟨2, by decide, by omega, by omega⟩
    | 2, _ => exact ⟨4, by decide, by omega, by omega⟩
    | 3, _ => exact ⟨8, by decide, by omega, by omega⟩
    | 4, _ => exact ⟨16, by decide, by omega, by omega⟩
    | 5, _ => exact ⟨32, by decide, by omega, by omega⟩
    | 6, _ => exact ⟨64, by decide, by omega, by omega⟩
    | 7, _ => exact ⟨128, by decide, by omega, by omega⟩
  have h : (a ^^^ b) < 2 ^ 8 := Nat.xor_lt_two_pow ha hb1
  rw [hb, bits_xor8 a b ha hb1]
  refine ⟨⟨by omega, by omega⟩, fun e => ?_⟩
  have e1 : a = a ^^^ b := by omega
  have e2 : b = 0 := by
    have h3 : b ^^^ a = 0 ^^^ a := by rw [Nat.zero_xor, Nat.xor_comm b a]; exact e1.symm
    exact xor_cancel h3
  omega
set_option maxRecDepth 100000 in
set_option maxHeartbeats 4000000 in
theorem logTurned_k {w : World} (l : List (List Int)) (n : Nat) (hn : Hid (l.length = n)) (hL : Hid (isBL l)) (hll : ∀ r ∈ l, r.length ≤ 140737488351232) (h2 : n ≤ 9223372036854775807) (sp : Option Addr) (cp : Nat) (hcp : n ≤ cp) (hS : Hid (LLV w sp l)) (z : Int) (hz : Hid ((Lit.int .i64 z).wf = true)) :
    Calls Try.prog 5 #[.slice sp n cp, .int .i64 z] w fun e W' => e = .returned (.bool true) ∧ Below w.heap.size w W' := by
  have h2i : (n : Int) ≤ 9223372036854775807 := by omega
  have hcpi : (n : Int) ≤ (cp : Int) := by omega
  have HLL : Hid (∀ r ∈ l, r.length ≤ 140737488351232) := hll
  have HCP : Hid (n ≤ cp) := hcp
  clear hll h2 hcp
  by_cases h12 : 12 < n ∨ n = 0
  · by_cases h0 : n = 0
    · have h0i : (n : Int) = 0 := by omega
      have h12i : ¬ (12 : Int) < (n : Int) := by omega
      clear h12 h0
      go_enter Try.func5, Try.ntmps5
      go_wp2_with (go_at_call 19; refine (known_k (kr_refl w)).mono ?_; rintro e w1 ⟨rfl, K1⟩)
      refine bodyPost_ret (v := .bool true) (by simp [results, Try.results5, go_sem]) rfl ⟨rfl, K1.below⟩
    · have h12i : (12 : Int) < (n : Int) := by omega
      clear h12 h0
      go_enter Try.func5, Try.ntmps5
      go_wp2_with (go_at_call 19; refine (known_k (kr_refl w)).mono ?_; rintro e w1 ⟨rfl, K1⟩)
      refine bodyPost_ret (v := .bool true) (by simp [results, Try.results5, go_sem]) rfl ⟨rfl, K1.below⟩
  · have h12i : (n : Int) ≤ 12 := by omega
    have h12n : n ≤ 16 := by omega
    have h1n : 0 < n := by omega
    have h1i : (1 : Int) ≤ (n : Int) := by omega
    have hne : ¬ (n : Int) = 0 := by omega
    have hne0 : ¬ n = 0 := by omega
    have h12x : ¬ (12 : Int) < (n : Int) := by omega
    have h12y : ¬ 12 < n := by omega
    clear h12 h2i
    go_enter Try.func5, Try.ntmps5
    go_wp2
    go_loopw [5] (fun v5 W => ∃ (k : Nat), v5 = .int .i64 (k : Int) ∧ k ≤ n ∧ W = w ∧ ∀ r ∈ l.take k, r.length ≤ 200) (fun v5 _ => n - (intOf v5).toNat)
    case atStart => exact ⟨0, rfl, Nat.zero_le _, by first | rfl | trivial, by simp⟩
    case round =>
      obtain ⟨k, rfl, hk, rfl, hA⟩ := hrel
      by_cases hlt : k < n
      · have hkl : k < l.length := by rw [hn.out]; exact hlt
        obtain ⟨A, rfl, hcA⟩ := hS.out (by omega)
        obtain ⟨sj, cj, c1, S1⟩ := hcA k _ (List.getElem?_eq_getElem hkl)
        have hki : (k : Int) < (n : Int) := by omega
        have hmi : (l[k].length : Int) ≤ 140737488351232 := by have := HLL.out _ (List.getElem_mem hkl); omega
        have HP : Hid (l[k].length ≤ 200 → ∀ r ∈ l.take (k + 1), r.length ≤ 200) := le_push hkl hA
        generalize l[k].length = m at HP c1 hmi
        clear hcA S1 hA
        by_cases hm : 200 < m
        · have hm2 : (200 : Int) < (m : Int) := by omega
          clear hm HP
          go_wp2_with (go_at_call 19; refine (known_k (kr_refl _)).mono ?_; rintro e w1 ⟨rfl, K1⟩)
          refine bodyPost_ret (v := .bool true) (by simp [results, Try.results5, go_sem]) rfl ⟨rfl, K1.below⟩
        · have hm2 : (m : Int) ≤ 200 := by omega
          have HQ : Hid (∀ r ∈ l.take (k + 1), r.length ≤ 200) := HP.out (by omega)
          clear hm HP
          go_wp2_with fail
          go_round
          case rel => exact ⟨k + 1, by go_num, by omega, by first | rfl | trivial, HQ.out⟩
          case measure => (simp [intOf]; try omega)
      · obtain rfl : k = n := by omega
        rw [take_all hn.out (Nat.le_refl _)] at hA
        have HR : Hid (∀ r ∈ l, isB r ∧ r.length ≤ 200) := fun r hr => ⟨hL.out r hr, hA r hr⟩
        have HRec : Hid (RecOK l) := fun r hr => ⟨hL.out r hr, by have := hA r hr; omega⟩
        have hfl : flen l ≤ 3456 := by
          have h1 := flen_le 200 l hA
          rw [hn.out] at h1
          omega
        have hfi : (flen l : Int) ≤ 3456 := by omega
        have hg16 : 16 * k ≤ flen l := by have := flen_ge l; rw [hn.out] at this; exact this
        have hg16i : (16 : Int) * (k : Int) ≤ (flen l : Int) := by omega
        have hwt := written0_k (w := wr) l k hn HR h12n sp cp hS
        have HB : Hid (isB (wrF 1 l)) := wrF_isB l 1 hL.out
        have HBl : Hid ((wrF 1 l).length = flen l) := wrF_len l 1
        have hlong := fun (W : World) (hb : Below wr.heap.size wr W) (p : Nat) (hp : p ≤ 4000) => long_k (w := W) l k hn hA h12n sp cp (llv_keep hS.out hb) p hp
        have HTU : Hid (∀ p y c, 0 ≤ y ∧ y < 256 → (wrF 1 l)[p]? = some c → c ≠ y → lngF 0 l p = false → ∃ j, j < k ∧ (scan ((wrF 1 l).set p y)).2 = l.take j) := fun p y c hy hc hne hlg => by
          obtain ⟨j, h1, h2⟩ := scan_turned l 1 p y c HRec.out (by omega) (by have := hn.out; omega) hy hc hne hlg
          exact ⟨j, by rw [← hn.out]; exact h1, h2⟩
        obtain ⟨m, hm⟩ : ∃ m, m = 8 * flen l := ⟨_, rfl⟩
        have hmi : (8 : Int) * (flen l : Int) = (m : Int) := by omega
        have hcn := fun W => cnt_k (w := W) z hz.out m (by omega) (by omega)
        have HM : Hid (m = 8 * flen l ∧ flen l ≤ 3456 ∧ 0 < flen l) := ⟨hm, hfl, by omega⟩
        clear hA hm hfl hlt hk hg16
        generalize hFL : flen l = F at *
        have hwf : ¬ ((F : Int) < (16 : Int) * (k : Int)) := by omega
        go_wp2_with (go_at_call 20; refine hwt.mono ?_; rintro e w1 ⟨v1, l1, rfl, K1, O1⟩; obtain ⟨g, cap, cur, rfl, K2, hcap, hcl, hct⟩ := own_settle1 K1 O1 (by have := HM.out; omega); clear K1 O1)
        have HCUR : Hid (F ≤ cap ∧ cap = cur.length ∧ cur.take F = bcl (wrF 1 l)) := ⟨hcap, by rw [Nat.mul_one] at hcl; exact hcl, by rw [Nat.mul_one] at hct; exact hct⟩
        have hcapi : (F : Int) ≤ (cap : Int) := by omega
        clear hcl hct hcap hwt
        go_wp2_with (go_at_call 21; refine (hcn _).mono ?_; rintro e w4 ⟨r, rfl, hr, rfl⟩)
        clear hcn
        have hrF : r < 8 * F := by have := HM.out; omega
        obtain ⟨p, hp⟩ : ∃ p, p = r / 8 := ⟨_, rfl⟩
        obtain ⟨s, hs⟩ : ∃ s, s = r % 8 := ⟨_, rfl⟩
        have hpF : p < F := by omega
        have hp0 : p ≤ 4000 := by have := HM.out; omega
        have hqi : (r : Int).tdiv 8 = (p : Int) := by rw [Int.tdiv_eq_ediv_of_nonneg (by omega)]; omega
        have hqd : (r : Int) / 8 = (p : Int) := by omega
        have hti : (r : Int).tmod 8 = (s : Int) := by rw [Int.tmod_eq_emod_of_nonneg (by omega)]; omega
        have htd : (r : Int) % 8 = (s : Int) := by omega
        have hs8 : s < 8 := by omega
        have hpi : (p : Int) < (F : Int) := by omega
        have hri : (r : Int) ≤ 27648 := by have := HM.out; omega
        have hrr : (0 : Int) ≤ (r : Int) := by omega
        clear hr hrF hp hs
        have hlg := hlong _ K2.below p hp0
        rw [← hqd] at hlg
        have hpn : p = r / 8 := by omega
        have hqd0 : (0 : Int) ≤ (r : Int) / 8 := by omega
        have hqdF : (r : Int) / 8 < (F : Int) := by omega
        have HQD : Hid ((r : Int) / 8 = (p : Int) ∧ p = r / 8) := ⟨hqd, hpn⟩
        clear hqi hti hqd
        by_cases hlv : lngF 0 l p = true
        · rw [hlv] at hlg
          go_wp2_with (first | (go_at_call 22; refine hlg.mono ?_; rintro e w5 ⟨rfl, rfl⟩) | (go_at_call 19; refine (known_k K2).mono ?_; rintro e w9 ⟨rfl, K9⟩))
          refine bodyPost_ret (v := .bool true) (by simp [results, Try.results5, go_sem]) rfl ⟨rfl, K9.below⟩
        · have hlf : lngF 0 l p = false := by simpa using hlv
          rw [hlf] at hlg
          have HLF : Hid (lngF 0 l p = false) := hlf
          clear hlv hlf hlong
          have hpl : p < (wrF 1 l).length := by rw [HBl.out]; exact hpF
          have hgc : (wrF 1 l)[p]? = some ((wrF 1 l)[p]) := List.getElem?_eq_getElem hpl
          have hpc : p < cur.length := by have := HCUR.out; omega
          have hcv : cur[p]? = some (.int .u8 (wrF 1 l)[p]) := by
            have h1 : (cur.take F)[p]? = some (.int .u8 (wrF 1 l)[p]) := by rw [HCUR.out.2.2, bcl, List.getElem?_map, hgc]; rfl
            rw [List.getElem?_take, if_pos hpF] at h1
            exact h1
          have hcr := HB.out _ (List.getElem_mem hpl)
          have HT2 := HTU.out p
          generalize (wrF 1 l)[p] = c at hgc hcv hcr
          have k0 := kr_cell K2 0 rfl p _ hcv
          have f0 := kr_frozen K2 0 rfl p hpc
          rw [hpn] at k0 f0
          clear hpn
          have hcri : 0 ≤ c ∧ c < 256 := hcr
          have HGC : Hid ((wrF 1 l)[p]? = some c) := hgc
          have HPC : Hid (p < cur.length ∧ p < F) := ⟨hpc, hpF⟩
          have HT2h : Hid (∀ y c, 0 ≤ y ∧ y < 256 → (wrF 1 l)[p]? = some c → c ≠ y → lngF 0 l p = false → ∃ j, j < k ∧ (scan ((wrF 1 l).set p y)).2 = l.take j) := HT2
          clear HTU HT2 hcr hgc hpc hpl hcv hp0 hpF
          have hsi : (s : Int) < 8 := by omega
          go_wp2_with (go_at_call 22; refine hlg.mono ?_; rintro e w5 ⟨rfl, rfl⟩)
          obtain ⟨hy1, hy2⟩ := turned_bit c s hcri hs8
          obtain ⟨Y, hY⟩ : ∃ Y, Y = bits .xor .u8 c (2 ^ s % 256) := ⟨_, rfl⟩
          rw [← hY] at hy1 hy2 ⊢
          have K3 := kr_fset K2 0 rfl p HPC.out.1 (.int .u8 Y) _ rfl
          rw [List.set_cons_zero, HQD.out.2] at K3
          obtain ⟨j, hj, he⟩ := HT2h.out Y c hy1 HGC.out hy2 HLF.out
          have hsc := fun (W : World) (h : SrcV W (some ⟨g, 0, none⟩) (bcl ((wrF 1 l).set p Y))) => scan_k (w := W) ((wrF 1 l).set p Y) F (by show _ = _; rw [List.length_set]; exact HBl.out) (isB_set HB.out p hy1) (by have := HM.out; omega) (some ⟨g, 0, none⟩) cap HCUR.out.1 h
          rw [he] at hsc
          have hsr := srcV_row (m := F) (cs := bcl ((wrF 1 l).set p Y)) K3 List.mem_cons_self (by rw [← HQD.out.2, bcl_set, ← HCUR.out.2.2, List.take_set])
          have HLJ : Hid ((l.take j).length = j) := by show _ = _; rw [List.length_take, hn.out]; omega
          have HJB : Hid (isBL (l.take j)) := fun x hx => hL.out x (List.mem_of_mem_take hx)
          have hji : (j : Int) < (k : Int) := by omega
          have hjk : j < k := hj
          have hjc : (j : Int) ≤ (cp : Int) := by have := HCP.out; omega
          generalize (scan ((wrF 1 l).set p Y)).1 = f5 at hsc
          generalize flen (l.take j) = T at hsc
          clear he hY hy1 hy2 k0 f0 hcri K2 hlg HT2h HGC HLF
          go_wp2_with (go_at_call 13; refine (hsc _ hsr).mono ?_; rintro e w5 ⟨v5, l5, rfl, K5', R5⟩; have K5 := kr_join K3 K5'; obtain ⟨s5, c5, rfl, hc5, V5⟩ := rl_llvN K5' HLJ.out R5; clear R5 K5' K3 hsr hsc)
          have hsame := same_k (W := w5) (l.take j) (l.take j) j j HLJ HLJ HJB.out HJB.out (by omega) (by omega) s5 sp c5 cp V5 (llv_take (llv_keep hS.out K5.below) j)
          rw [decide_eq_true rfl] at hsame
          clear V5 hc5
          go_wp2_with (first | (go_at_call 15; refine hsame.mono ?_; rintro e w6 ⟨rfl, k6, rfl⟩; have K6 := kr_call K5 (bw_drewN (Below.refl _ _) k6); clear K5 hsame) | (go_at_call 19; refine (known_k K6).mono ?_; rintro e w9 ⟨rfl, K9⟩))
          refine bodyPost_ret (v := .bool true) (by simp [results, Try.results5, go_sem]) rfl ⟨rfl, K9.below⟩
theorem logTurned_any (sp : Option Addr) (n cp : Nat) (z : Int) (hz : (Lit.int .i64 z).wf = true) (w : World) (h : ∃ l : List (List Int), l.length = n ∧ LLV w sp l ∧ isBL l ∧ (∀ r ∈ l, r.length ≤ 140737488351232) ∧ n ≤ maxLen ∧ n ≤ cp) :
    Calls Try.prog 5 #[.slice sp n cp, .int .i64 z] w fun e W' => e = .returned (.bool true) ∧ Below w.heap.size w W' := by
  obtain ⟨l, h1, h2, h3, h4, h5, h6⟩ := h
  exact logTurned_k l n h1 h3 h4 (by unfold maxLen at h5; omega) sp cp h6 h2 z hz
end Go.Proofs.Ytaonaifnaecpiaa.Own
