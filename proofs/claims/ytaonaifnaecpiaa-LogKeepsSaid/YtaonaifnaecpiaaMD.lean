/- What dayshiftref04's get and Sum do. No conditions beside those in each theorem. -/
import Derived.Test.YtaonaifnaecpiaaMC
import Derived.Test.YtaonaifnaecpiaaMB
namespace Go.Proofs.Ytaonaifnaecpiaa.Own
open Go.RowKit Go.Proofs.YtaonaifnaecpiaaW.PrintWords
set_option linter.unusedSimpArgs false
set_option linter.unusedVariables false
set_option maxRecDepth 100000 in
theorem rget_k {w : World} (bs : List Int) (n : Nat) (hn : Hid (bs.length = n)) (hb : isB bs) (h2 : n ≤ 8) (sp : Option Addr) (cp : Nat) (hS : SrcV w sp (bcl bs)) :
    Calls Try.prog 64 #[.slice sp n cp] w fun e W' => e = .returned (.int .u64 ((numB bs : Nat) : Int)) ∧ w = W' := by
  have HS : Hid (SrcV w sp (bcl bs)) := hS
  have HB : Hid (isB bs) := hb
  have h3 : (n : Int) ≤ 8 := by omega
  clear hS hb
  go_enter Try.func64, Try.ntmps64
  go_wp2
  go_loop [3, 4] (fun v2 v7 => ∃ j : Nat, v7 = .int .i64 j ∧ j ≤ n ∧ v2 = .int .u64 ((numB (bs.take j) : Nat) : Int)) (fun _ v7 => n - (intOf v7).toNat)
  case atStart => exact ⟨0, rfl, by omega, rfl⟩
  case round =>
    obtain ⟨j, rfl, hj, rfl⟩ := hrel
    by_cases hjn : j < n
    · have hjl : j < bs.length := by rw [hn.out]; exact hjn
      obtain ⟨A, hA, hc⟩ := HS.out (by rw [bcl_len]; omega)
      subst hA
      have hcj := hc j (.int .u8 bs[j]) (by unfold bcl; rw [List.getElem?_map, List.getElem?_eq_getElem hjl]; rfl)
      clear hc
      have hbj := HB.out bs[j] (List.getElem_mem hjl)
      have HT : Hid (numB (bs.take (j + 1)) = numB (bs.take j) * 256 + (bs[j]).toNat) := by
        show _ = _
        rw [List.take_succ_eq_append_getElem hjl, numB_snoc]
      have hlt : numB (bs.take j) < 256 ^ j := by
        have := numB_lt (bs.take j) (fun b hb => HB.out b (List.mem_of_mem_take hb))
        rwa [List.length_take, Nat.min_eq_left (by omega)] at this
      have hlt7 : numB (bs.take j) < 72057594037927936 := Nat.lt_of_lt_of_le hlt (Nat.le_trans (Nat.pow_le_pow_right (by omega) (by omega : j ≤ 7)) (by decide))
      obtain ⟨c, hcc⟩ : ∃ c : Nat, bs[j] = (c : Int) := ⟨bs[j].toNat, by omega⟩
      rw [hcc] at hcj HT hbj
      rw [Int.toNat_natCast] at HT
      have hc256 : c < 256 := by omega
      have hc256i : (c : Int) < 256 := by omega
      clear hcc hbj hjl hlt
      generalize numB (bs.take j) = s at hlt7 HT ⊢
      have x1 : bits .or .u64 ((s : Int) * 256) (c : Int) = ((s * 256 + c : Nat) : Int) := by
        have := bits_or64 (s * 256) c (by omega) (by omega)
        rw [or_low s c hc256] at this
        rw [← this]; rfl
      have s7 : (s : Int) * 256 < 18446744073709551616 := by omega
      have Hs7 : Hid (s < 72057594037927936) := hlt7
      have hwr : (s : Int) * 256 % 18446744073709551616 = (s : Int) * 256 := by omega
      clear hlt7 s7
      go_wp2_with fail
      go_round
      case rel => exact ⟨j + 1, by go_num, by omega, by rw [HT.out]; go_num⟩
      case measure => (simp [intOf]; try omega)
    · obtain rfl : j = n := by omega
      rw [List.take_of_length_le (by rw [hn.out]; omega)]
      go_wp2_with fail
      go_ret
      exact ⟨rfl, rfl⟩
theorem cstep_if (s : Nat) (hs : s < 4294967296) : ((s : Int) % 2 = 1 ∧ bits .xor .u32 ((s : Int) / 2) 3988292384 = ((cstep s : Nat) : Int)) ∨ (¬ (s : Int) % 2 = 1 ∧ ((s : Int) / 2) = ((cstep s : Nat) : Int)) := by
  unfold cstep
  by_cases h : s % 2 = 1
  · refine .inl ⟨by omega, ?_⟩
    rw [if_pos h, ← bits_xor32 (s / 2) 3988292384 (by omega) (by omega)]
    rfl
  · refine .inr ⟨by omega, ?_⟩
    rw [if_neg h]
    omega
theorem citer8 (n : Nat) : citer 8 n = cstep4 (cstep4 n) := rfl
set_option maxRecDepth 100000 in
theorem rsum_k {W : World} (bs : List Int) (n : Nat) (hn : Hid (bs.length = n)) (hb : isB bs) (h2 : n ≤ 9223372036854775807) (sp : Option Addr) (cp : Nat) (hS : SrcV W sp (bcl bs)) :
    Calls Try.prog 17 #[.slice sp n cp] W fun e W' => e = .returned (.int .u32 ((crc (nb bs) : Nat) : Int)) ∧ W = W' := by
  have HS : Hid (SrcV W sp (bcl bs)) := hS
  have HB : Hid (isB bs) := hb
  have h3 : (n : Int) ≤ 9223372036854775807 := by omega
  clear hS hb h2
  go_enter Try.func17, Try.ntmps17
  go_wp2
  go_loop [3, 4] (fun v6 v29 => ∃ j : Nat, v29 = .int .i64 j ∧ j ≤ n ∧ v6 = .int .u32 ((crcF 4294967295 (nb (bs.take j)) : Nat) : Int)) (fun _ v29 => n - (intOf v29).toNat)
  case atStart => exact ⟨0, rfl, by omega, rfl⟩
  case round =>
    obtain ⟨j, rfl, hj, rfl⟩ := hrel
    by_cases hjn : j < n
    · have hjl : j < bs.length := by rw [hn.out]; exact hjn
      obtain ⟨A, hA, hc⟩ := HS.out (by rw [bcl_len]; omega)
      subst hA
      have hcj := hc j (.int .u8 bs[j]) (by unfold bcl; rw [List.getElem?_map, List.getElem?_eq_getElem hjl]; rfl)
      clear hc
      have hbj := HB.out bs[j] (List.getElem_mem hjl)
      have HT : Hid (crcF 4294967295 (nb (bs.take (j + 1))) = cbyte (crcF 4294967295 (nb (bs.take j))) (bs[j].toNat)) := crcF_take j hjl _
      have hsl : crcF 4294967295 (nb (bs.take j)) < 4294967296 := crcF_lt _ (nb_lt (fun b hb => HB.out b (List.mem_of_mem_take hb))) _ (by omega)
      obtain ⟨c, hcc⟩ : ∃ c : Nat, bs[j] = (c : Int) := ⟨bs[j].toNat, by omega⟩
      rw [hcc] at hcj HT hbj
      rw [Int.toNat_natCast] at HT
      have hc256 : c < 256 := by omega
      have hc256i : (c : Int) < 256 := by omega
      clear hcc hbj hjl
      generalize crcF 4294967295 (nb (bs.take j)) = s at hsl HT ⊢
      have x1 := bits_xor32 s c hsl (by omega)
      have l1 : s ^^^ c < 4294967296 := Nat.xor_lt_two_pow (n := 32) (by omega) (by omega)
      have HT2 : Hid (crcF 4294967295 (nb (bs.take (j + 1))) = cstep4 (cstep4 (s ^^^ c))) := HT.out
      clear HT
      generalize s ^^^ c = s1 at x1 l1 HT2
      have L1 : Hid (s1 < 4294967296) := l1
      clear l1 hsl
      go_wp2_with fail
      go_loop [3, 5] (fun v5 v14 => ∃ m : Nat, v14 = .int .i64 m ∧ m ≤ 8 ∧ v5 = .int .u32 ((citer m s1 : Nat) : Int)) (fun _ v14 => 8 - (intOf v14).toNat)
      case atStart => exact ⟨0, rfl, by omega, rfl⟩
      case round =>
        obtain ⟨m, rfl, hm, rfl⟩ := hrel
        by_cases hm8 : m < 8
        · have hm2 : (m : Int) < 8 := by omega
          have hl := citer_lt m s1 L1.out
          have hbt := bits_and1 (citer m s1) hl
          have HC : Hid (citer (m + 1) s1 = cstep (citer m s1)) := rfl
          have hcs := cstep_if (citer m s1) hl
          generalize citer m s1 = y at hbt HC hcs
          have hbt2 : bits .and .u32 (y : Int) 1 = (y : Int) % 2 := by rw [hbt]; omega
          clear hl hbt
          rcases hcs with ⟨h1, h2⟩ | ⟨h1, h2⟩
          · go_wp2_with fail
            go_round
            case rel => exact ⟨m + 1, by go_num, by omega, by rw [HC.out]⟩
            case measure => (simp [intOf]; try omega)
          · go_wp2_with fail
            go_round
            case rel => exact ⟨m + 1, by go_num, by omega, by rw [HC.out]⟩
            case measure => (simp [intOf]; try omega)
        · obtain rfl : m = 8 := by omega
          rw [citer8]
          go_wp2_with fail
          go_round
          case rel => exact ⟨j + 1, by go_num, by omega, by rw [HT2.out]⟩
          case measure => (simp [intOf]; try omega)
    · obtain rfl : j = n := by omega
      rw [List.take_of_length_le (by rw [hn.out]; omega)]
      have hsl : crcF 4294967295 (nb bs) < 4294967296 := crcF_lt _ (nb_lt HB.out) _ (by omega)
      have HE : Hid (crc (nb bs) = crcF 4294967295 (nb bs) ^^^ 4294967295) := rfl
      generalize crcF 4294967295 (nb bs) = s at hsl HE ⊢
      have hmx : bits .xor .u32 (s : Int) 4294967295 = ((s ^^^ 4294967295 : Nat) : Int) := by
        rw [← bits_xor32 _ _ hsl (by omega)]; rfl
      go_wp2_with fail
      go_ret
      exact ⟨by rw [HE.out]; rfl, rfl⟩
end Go.Proofs.Ytaonaifnaecpiaa.Own

namespace Go.Proofs.Ytaonaifnaecpiaa.Own
open Go.RowKit Go.Proofs.YtaonaifnaecpiaaW.PrintWords
set_option linter.unusedSimpArgs false
set_option linter.unusedVariables false
set_option maxRecDepth 100000 in
theorem rput_k {w : World} (v : Nat) (hv : v < 18446744073709551616) (m : Nat) (hm : m ≤ 8) :
    Calls Try.prog 42 #[.int .u64 (v : Int), .int .i64 (m : Int)] w fun e W' => ∃ u, e = .returned u ∧ KR w [] W' ∧ Own w [] 5 1 u m (bcl (be m v)) W' := by
  have hmi : (m : Int) ≤ 8 := by omega
  have HV : Hid (v < 18446744073709551616) := hv
  clear hv
  go_enter Try.func42, Try.ntmps42
  go_wp2
  go_loopw [5, 6] (fun v5 v6 W => ∃ (k : Nat) (P : List Int), k ≤ m ∧ v6 = .int .i64 ((k : Int) - 1) ∧ P.length = m - k ∧ P ++ be k v = be m v ∧ KR w [] W ∧ Own w [] 5 1 v5 (m - k) (bcl P) W) (fun _ v6 _ => (intOf v6 + 1).toNat)
  case atStart => exact ⟨m, [], Nat.le_refl _, rfl, by simp, rfl, kr_refl _, by rw [Nat.sub_self]; exact own_nil _ _ _ _ _⟩
  case round =>
    obtain ⟨k, P, hk, rfl, hP, hPe, HK, HO⟩ := hrel
    obtain ⟨sx, cx, rfl⟩ := own_form HO
    cases k with
    | zero =>
      rw [Nat.sub_zero] at HO hP ⊢
      have e : bcl P = bcl (be m v) := by rw [← hPe]; simp [be]
      rw [e] at HO
      have HO2 : Hid (Own w [] 5 1 (Value.slice sx m cx) m (bcl (be m v)) wr) := HO
      clear HO
      go_wp2_with fail
      refine bodyPost_ret (v := .slice sx m cx) (by simp [results, Try.results42, go_sem]) rfl ⟨_, rfl, HK, HO2.out⟩
    | succ k =>
      have h0 : (0 : Int) ≤ ((k + 1 : Nat) : Int) - 1 := by omega
      go_wp2_with (at_builtin; refine wl_appendK _ _ 23 5 (.int .u8 0) 1 1 (kr_alloc HK _) (own_alloc HO _) _ 1 1 [_] (srcV_built _ _ _) rfl (by intro v hv; rw [List.mem_singleton.1 hv]; rfl) (by unfold maxLen; omega) (by omega) Try.underlying23 lu8_info rfl (by omega) rfl rfl (by rfl) (by rfl) (fun v' W' O2 H2 hz => ?_); clear HK HO; obtain ⟨s4, c4, rfl⟩ := own_form O2)
      have hb : be (k + 1) v = (((v / 2 ^ (8 * k) % 256 : Nat) : Int)) :: be k v := by
        rw [be_cons, Nat.pow_mul]
      have hx : ((v : Int) / 2 ^ (8 * k) % 256) = ((v / 2 ^ (8 * k) % 256 : Nat) : Int) := by
        simp only [Int.natCast_ediv, Int.natCast_emod, Int.natCast_pow]; rfl
      rw [hx] at O2
      refine ⟨⟨k, P ++ [(((v / 2 ^ (8 * k) % 256 : Nat) : Int))], by omega, rfl, by rw [List.length_append, hP]; simp; omega, by rw [List.append_assoc, List.singleton_append, ← hb]; exact hPe, H2, ?_⟩, ?_⟩
      · rw [show m - k = m - (k + 1) + 1 from by omega]
        have e : bcl (P ++ [(((v / 2 ^ (8 * k) % 256 : Nat) : Int))]) = bcl P ++ [.int .u8 ((v / 2 ^ (8 * k) % 256 : Nat) : Int)] := by simp [bcl]
        rw [e]
        exact O2
      · simp only [intOf]; omega
def oneN : Option (Nat × List Int) → Nat
  | none => 0
  | some (_, r) => 16 + r.length
set_option maxRecDepth 100000 in
set_option maxHeartbeats 2000000 in
theorem rone_k {w : World} (bs : List Int) (n : Nat) (hn : Hid (bs.length = n)) (hb : isB bs) (h2 : n ≤ 140737488351232) (sp : Option Addr) (c : Nat) (hc : n ≤ c) (hS : SrcV w sp (bcl bs)) :
    Calls Try.prog 44 #[.slice sp n c] w fun e W' => ∃ v l, e = .returned (.tuple #[.int .u64 (((frameR (parse1 bs)).1 : Nat) : Int), v, .int .i64 ((oneN (parse1 bs) : Nat) : Int)]) ∧ KR w l W' ∧ FC l v (frameR (parse1 bs)).2.1 := by
  by_cases h16 : n < 16
  · have e : parse1 bs = none := by unfold parse1; rw [if_pos (by rw [hn.out]; exact h16)]
    rw [e]
    have hi : (n : Int) < 16 := by omega
    clear e h2 hS
    go_enter Try.func44, Try.ntmps44
    go_wp2
    refine bodyPost_ret (v := .tuple #[.int .u64 0, .slice none 0 0, .int .i64 0]) (by simp [results, Try.results44, go_sem]) rfl ⟨_, [], rfl, kr_refl _, .inl ⟨rfl, rfl⟩⟩
  · obtain ⟨A, rfl⟩ : ∃ A, sp = some A := by
      obtain ⟨A, hA, _⟩ := hS (by rw [bcl_len, hn.out]; omega)
      exact ⟨A, hA⟩
    have g4 := rget_k (w := w) (bs.take 4) 4 (by show _ = _; rw [List.length_take, hn.out]; omega) (isB_take hb 4) (by omega) (some A) c (srcV_take hS 4)
    have hm4 : numB (bs.take 4) < 4294967296 := by
      have := numB_lt (bs.take 4) (isB_take hb 4)
      rw [List.length_take, hn.out, Nat.min_eq_left (by omega)] at this
      exact this
    have hi : (16 : Int) ≤ (n : Int) := by omega
    have hic : (16 : Int) ≤ (c : Int) := by omega
    have hc16 : 16 ≤ c := by omega
    have hni : (n : Int) ≤ 140737488351232 := by omega
    have HS : Hid (SrcV w (some A) (bcl bs)) := hS
    have HB : Hid (isB bs) := hb
    have HP : Hid (parse1 bs = if 60000 < numB (bs.take 4) ∨ bs.length - 16 < numB (bs.take 4) then none else if numB (((bs.take (16 + numB (bs.take 4))).drop 4).take 4) = crc (nb ((bs.take (16 + numB (bs.take 4))).drop 8)) then some (numB (((bs.take (16 + numB (bs.take 4))).drop 8).take 8), (bs.take (16 + numB (bs.take 4))).drop 16) else none) := by
      show _ = _
      unfold parse1
      rw [if_neg (by rw [hn.out]; exact h16)]
    rw [hn.out] at HP
    generalize numB (bs.take 4) = m at g4 hm4 HP
    clear hS hb
    by_cases hbig : 60000 < m ∨ n - 16 < m
    · have e : parse1 bs = none := by rw [HP.out, if_pos hbig]
      rw [e]
      clear HP e
      by_cases hb1 : 60000 < m
      · have hb1i : (60000 : Int) < (m : Int) := by omega
        clear hbig hm4
        go_enter Try.func44, Try.ntmps44
        go_wp2_with (go_at_call 64; refine g4.mono ?_; rintro e w' ⟨rfl, rfl⟩)
        refine bodyPost_ret (v := .tuple #[.int .u64 0, .slice none 0 0, .int .i64 0]) (by simp [results, Try.results44, go_sem]) rfl ⟨_, [], rfl, kr_refl _, .inl ⟨rfl, rfl⟩⟩
      · have hb1i : (m : Int) ≤ 60000 := by omega
        have hb2i : (n : Int) - 16 < (m : Int) := by omega
        have hwr : ((n : Int) - 16) % 18446744073709551616 = (n : Int) - 16 := by omega
        clear hbig hm4 hb1
        go_enter Try.func44, Try.ntmps44
        go_wp2_with (go_at_call 64; refine g4.mono ?_; rintro e w' ⟨rfl, rfl⟩)
        refine bodyPost_ret (v := .tuple #[.int .u64 0, .slice none 0 0, .int .i64 0]) (by simp [results, Try.results44, go_sem]) rfl ⟨_, [], rfl, kr_refl _, .inl ⟨rfl, rfl⟩⟩
    · have hb1i : (m : Int) ≤ 60000 := by omega
      have hb2i : (m : Int) ≤ (n : Int) - 16 := by omega
      have hwr : ((n : Int) - 16) % 18446744073709551616 = (n : Int) - 16 := by omega
      rw [if_neg hbig] at HP
      obtain ⟨L, hL⟩ : ∃ L, L = 16 + m := ⟨_, rfl⟩
      have HL : Hid (L = 16 + m) := hL
      rw [← hL] at HP
      have hLi : (16 : Int) + (m : Int) = (L : Int) := by omega
      have hLn : (L : Int) ≤ (n : Int) := by omega
      have hLc : (L : Int) ≤ (c : Int) := by omega
      have hL16 : (16 : Int) ≤ (L : Int) := by omega
      clear hL hm4 hbig
      have hL4 : (4 : Int) ≤ (L : Int) := by omega
      have hL8 : (8 : Int) ≤ (L : Int) := by omega
      have hL8n : 8 ≤ L := by omega
      have hL16n : 16 ≤ L := by omega
      have hc4 : (4 : Int) ≤ (c : Int) := by omega
      have hc8 : (8 : Int) ≤ (c : Int) := by omega
      have hc4n : 4 ≤ c := by omega
      have hc8n : 8 ≤ c := by omega
      have hne4 : ¬ c = 4 := by omega
      have hne8 : ¬ c = 8 := by omega
      have g2 := rget_k (w := w.drew) (((bs.take L).drop 4).take 4) 4 (by show _ = _; rw [List.length_take, List.length_drop, List.length_take, hn.out]; omega) (isB_take (isB_drop (isB_take HB.out L) 4) 4) (by omega) (some ⟨A.block, A.off + 4, none⟩) (c - 4) (srcV_keep (srcV_drop (srcV_take HS.out L) 4 4 (by omega)) (bw_drew (Below.refl _ _)))
      have hs8 : SrcV w (some ⟨A.block, A.off + 8, none⟩) (bcl ((bs.take L).drop 8)) := by
        have := srcV_drop (srcV_take HS.out L) 8 (L - 8) (by omega)
        rwa [List.take_of_length_le (by rw [List.length_drop, List.length_take, hn.out]; omega)] at this
      have hsum := rsum_k (W := w.drew) ((bs.take L).drop 8) (L - 8) (by show _ = _; rw [List.length_drop, List.length_take, hn.out]; omega) (isB_drop (isB_take HB.out L) 8) (by omega) (some ⟨A.block, A.off + 8, none⟩) (c - 8) (srcV_keep hs8 (bw_drew (Below.refl _ _)))
      have hy : crc (nb ((bs.take L).drop 8)) < 4294967296 := crc_lt _ (nb_lt (isB_drop (isB_take HB.out L) 8))
      have hwc := wrap_small _ hy
      clear hs8
      generalize crc (nb ((bs.take L).drop 8)) = y at hsum hy hwc HP
      generalize numB (((bs.take L).drop 4).take 4) = x at g2 HP
      clear hy
      by_cases hxy : x = y
      · subst hxy
        rw [if_pos rfl] at HP
        rw [HP.out]
        clear HP
        have hg9 := fun (W1 : World) (H1 : KR w [] W1) => rget_k (w := W1) (((bs.take L).drop 8).take 8) 8 (by show _ = _; rw [List.length_take, List.length_drop, List.length_take, hn.out]; omega) (isB_take (isB_drop (isB_take HB.out L) 8) 8) (by omega) (some ⟨A.block, A.off + 8, none⟩) (c - 8) (srcV_keep (srcV_drop (srcV_take HS.out L) 8 8 (by omega)) H1.below)
        have hlen : Hid (((bs.take L).drop 16).length = L - 16) := by show _ = _; rw [List.length_drop, List.length_take, hn.out]; omega
        have hsr : SrcV w (some ⟨A.block, A.off + 16, none⟩) (bcl ((bs.take L).drop 16)) := by
          have := srcV_drop (srcV_take HS.out L) 16 (L - 16) (by omega)
          rwa [List.take_of_length_le (by rw [hlen.out]; omega)] at this
        have hsr : SrcV w.drew (some ⟨A.block, A.off + 16, none⟩) (bcl ((bs.take L).drop 16)) := srcV_keep hsr (bw_drew (Below.refl _ _))
        have hs0 : ∀ sp', L = 16 → SrcV w.drew sp' (bcl ((bs.take L).drop 16)) := fun sp' h h1 => absurd h1 (by rw [bcl_len, hlen.out]; omega)
        have h6 : Hid (L ≤ 60016) := by show _ ≤ _; have := HL.out; omega
        have h32 : 16 + (L - 16) = L := by omega
        generalize numB (((bs.take L).drop 8).take 8) = q at hg9 ⊢
        generalize (bs.take L).drop 16 = rc at hlen hsr hs0 ⊢
        clear HS HB HL
        by_cases hce : c = 16
        · subst hce
          obtain rfl : L = 16 := by omega
          go_enter Try.func44, Try.ntmps44
          go_wp2_with (go_at_call 64; refine g4.mono ?_; rintro e w' ⟨rfl, rfl⟩)
          go_region_held3 (fun _ => True) (trivial) (first | (go_at_call 64; refine g2.mono ?_; rintro e w' ⟨rfl, rfl⟩) | (go_at_call 17; refine hsum.mono ?_; rintro e w1 ⟨rfl, rfl⟩))
          clear g2 hsum hwc
          have hg9 := hg9 _ (kr_drew (kr_refl w))
          have hrc : rc = [] := List.eq_nil_of_length_eq_zero (by rw [hlen.out])
          go_wp2_with (go_at_call 64; refine hg9.mono ?_; rintro e w' ⟨rfl, rfl⟩)
          refine bodyPost_ret (v := .tuple #[.int .u64 (q : Int), .slice none 0 0, .int .i64 16]) (by simp [results, Try.results44, go_sem]) rfl ⟨_, [], ?_, kr_drew (kr_refl w), .inl ⟨rfl, hrc⟩⟩
          rw [hrc]; rfl
        · skip
          go_enter Try.func44, Try.ntmps44
          go_wp2_with (go_at_call 64; refine g4.mono ?_; rintro e w' ⟨rfl, rfl⟩)
          go_region_held3 (fun _ => True) (trivial) (first | (go_at_call 64; refine g2.mono ?_; rintro e w' ⟨rfl, rfl⟩) | (go_at_call 17; refine hsum.mono ?_; rintro e w1 ⟨rfl, rfl⟩))
          clear g2 hsum hwc
          go_wp2_with (first | (at_builtin; refine wl_appendK _ _ 23 5 (.int .u8 0) 1 1 (kr_drew (kr_refl w)) (own_nil _ _ _ _ _) (some ⟨A.block, A.off + 16, none⟩) (L - 16) (c - 16) (bcl rc) hsr (by rw [bcl_len, hlen.out, Nat.mul_one]) (bcl_one _) (by have := h6.out; unfold maxLen; omega) (by have := h6.out; omega) Try.underlying23 lu8_info rfl (by omega) rfl rfl (by rfl) (by rfl) (fun v' W' O2 H2 hz => ?_)) | (go_at_call 64; refine (hg9 _ H2).mono ?_; rintro e w' ⟨rfl, rfl⟩))
          obtain ⟨l, HL2, HC2⟩ := own_settle H2 O2
          rw [List.nil_append, Nat.zero_add] at HC2
          refine bodyPost_ret (v := .tuple #[.int .u64 (q : Int), v', .int .i64 (L : Int)]) (by simp [results, Try.results44, go_sem]) rfl ⟨_, l ++ [], ?_, HL2, sc_fc hlen.out (sc_mono HC2 (fun p hp => List.mem_append_left _ hp))⟩
          show _ = _
          simp only [oneN, frameR, hlen.out]
          rw [h32]
      · rw [if_neg hxy] at HP
        rw [HP.out]
        have e1 : ((y : Int) == (x : Int)) = false := by simp; omega
        have e2 : ((y : Int) != (x : Int)) = true := by simp; omega
        clear HP hxy
        go_enter Try.func44, Try.ntmps44
        go_wp2_with (go_at_call 64; refine g4.mono ?_; rintro e w' ⟨rfl, rfl⟩)
        go_region_held3 (fun _ => True) (trivial) (first | (go_at_call 64; refine g2.mono ?_; rintro e w' ⟨rfl, rfl⟩) | (go_at_call 17; refine hsum.mono ?_; rintro e w1 ⟨rfl, rfl⟩))
        go_wp2_with fail
        refine bodyPost_ret (v := .tuple #[.int .u64 0, .slice none 0 0, .int .i64 0]) (by simp [results, Try.results44, go_sem]) rfl ⟨_, [], rfl, kr_drew (kr_refl _), .inl ⟨rfl, rfl⟩⟩
end Go.Proofs.Ytaonaifnaecpiaa.Own

namespace Go.Proofs.Ytaonaifnaecpiaa.Own
open Go.RowKit Go.Proofs.YtaonaifnaecpiaaW.PrintWords
set_option linter.unusedSimpArgs false
set_option linter.unusedVariables false
theorem sc_src {w W : World} {rs : List (Nat × List Value)} {v : Value} {n : Nat} {cs : List Value} (HK : KR w rs W) (h : SC rs 1 v n cs) : ∃ sp cap, v = .slice sp n cap ∧ n ≤ cap ∧ SrcV W sp cs := by
  rcases h with ⟨rfl, rfl, rfl⟩ | ⟨b, cap, l, rfl, h2, h3, h4, h5⟩
  · exact ⟨_, _, rfl, Nat.le_refl _, fun h => absurd h (by simp)⟩
  · exact ⟨_, _, rfl, h3, srcV_row HK h2 h5⟩
theorem sc_srcV {w W : World} {rs : List (Nat × List Value)} {sp : Option Addr} {n m cap : Nat} {cs : List Value} (HK : KR w rs W) (h : SC rs 1 (.slice sp m cap) n cs) : SrcV W sp cs := by
  obtain ⟨s, c, e, _, hS⟩ := sc_src HK h
  injection e with e1
  subst e1
  exact hS
theorem own_lift {w W W' : World} {rs : List (Nat × List Value)} {e : TypeId} {size : Nat} {v : Value} {n : Nat} {xs : List Value} (HK : KR w rs W) (h : Own W [] e size v n xs W') : Own w rs e size v n xs W' := by
  refine ⟨⟨h.1.1, ?_⟩, fun k hk p hp => ?_⟩
  · rcases h.1.2 with h0 | ⟨g, cap, cur, rfl, h1, h3⟩
    · exact .inl h0
    · exact .inr ⟨g, cap, cur, rfl, Nat.le_trans HK.below.size h1, h3⟩
  · have h4 := (h.1.lt k hk).1
    have h5 := (HK.rows p hp).2.1
    omega
set_option maxRecDepth 100000 in
set_option maxHeartbeats 2000000 in
theorem rframe_big {w : World} (q : Nat) (n : Nat) (h2 : 60000 < n) (sp : Option Addr) (cp : Nat) :
    Calls Try.prog 12 #[.int .u64 (q : Int), .slice sp n cp] w fun e W' => e = .returned (.tuple #[.slice none 0 0, .int .i64 3]) ∧ w = W' := by
  have h3 : (60000 : Int) < (n : Int) := by omega
  clear h2
  go_enter Try.func12, Try.ntmps12
  go_wp2
  go_ret2
  exact ⟨rfl, rfl⟩
theorem bcl_app (a b : List Int) : bcl (a ++ b) = bcl a ++ bcl b := by simp [bcl]
set_option maxRecDepth 100000 in
set_option maxHeartbeats 2000000 in
theorem rframe_k {w : World} (q : Nat) (hq : q < 18446744073709551616) (bs : List Int) (n : Nat) (hn : Hid (bs.length = n)) (h2 : n ≤ 60000) (hb : isB bs) (sp : Option Addr) (cp : Nat) (hS : SrcV w sp (bcl bs)) :
    Calls Try.prog 12 #[.int .u64 (q : Int), .slice sp n cp] w fun e W' => ∃ v l, e = .returned (.tuple #[v, .int .i64 0]) ∧ KR w l W' ∧ SC l 1 v (16 + n) (bcl (frameB q bs)) := by
  have h3 : (n : Int) ≤ 60000 := by omega
  have HB : Hid (isB bs) := hb
  have HQ : Hid (q < 18446744073709551616) := hq
  have H2 : Hid (n ≤ 60000) := h2
  have hcr : Hid (crc (nb (be 8 q ++ bs)) < 4294967296) := crc_lt _ (nb_lt (isB_app (be_isB 8 q) hb))
  have HC : Hid (frameB q bs = be 4 n ++ (be 4 (crc (nb (be 8 q ++ bs))) ++ (be 8 q ++ bs))) := by show _ = _; unfold frameB; rw [hn.out]
  have hsum := fun (W : World) s c h => rsum_k (W := W) (be 8 q ++ bs) (8 + n) (by show _ = _; rw [List.length_append, be_len, hn.out]) (isB_app (be_isB 8 q) hb) (by omega) s c h
  have HS : Hid (SrcV w sp (bcl bs)) := hS
  clear hS hb hq h2
  generalize crc (nb (be 8 q ++ bs)) = y at hsum hcr HC
  have hwc := wrap_small y hcr.out
  have hwn := wrap_small n (by have := H2.out; omega)
  have T1 : Hid True := trivial
  have T2 : Hid True := trivial
  have T3 : Hid True := trivial
  go_enter Try.func12, Try.ntmps12
  go_wp2_with (first
    | (clear T1; go_at_call 42; refine (rput_k q HQ.out 8 (by omega)).mono ?_; rintro e w1 ⟨u1, rfl, K1, O1⟩; obtain ⟨s1, c1, rfl⟩ := own_form O1)
    | (at_builtin; refine wl_appendK _ _ 23 5 (.int .u8 0) 1 1 K1 O1 sp n cp (bcl bs) (srcV_keep HS.out K1.below) (by rw [bcl_len, hn.out, Nat.mul_one]) (bcl_one _) (by have := H2.out; unfold maxLen; omega) (by have := H2.out; omega) Try.underlying23 lu8_info rfl (by omega) rfl rfl (by rfl) (by rfl) (fun v' W2 O2 H2 hz => ?_); clear K1 O1; rw [← bcl_app] at O2; obtain ⟨l1, K2, C1⟩ := own_settle H2 O2; clear O2 H2 hz; rw [List.append_nil] at K2; obtain ⟨s2, c2, rfl, hc2, S2⟩ := sc_src K2 C1)
    | (clear T2; go_at_call 42; refine (rput_k n (by have := H2.out; omega) 4 (by omega)).mono ?_; rintro e w3 ⟨u3, rfl, K3, O3⟩; have O3 := own_lift K2 O3; have K4 := kr_call K2 K3.below; have S2 := srcV_keep S2 K3.below; clear K2 K3; obtain ⟨s3, c3, rfl⟩ := own_form O3)
    | (go_at_call 17; refine (hsum _ _ _ S2).mono ?_; rintro e w4 ⟨rfl, rfl⟩; clear hsum)
    | (clear T3; go_at_call 42; refine (rput_k y (by have := hcr.out; omega) 4 (by omega)).mono ?_; rintro e w5 ⟨u5, rfl, K5, O5⟩; obtain ⟨l5, K6, C5⟩ := own_settle K5 O5; rw [List.append_nil] at K6; have O6 := own_later O3 K6; have K7 := kr_join K4 K6; have S2 := srcV_keep S2 K6.below; clear O3 K4 O5 K5; obtain ⟨s5, c5, rfl, hc5, S5⟩ := sc_src K6 C5; clear K6 C5)
    | (at_builtin; refine wl_appendK _ _ 23 5 (.int .u8 0) 1 1 K7 O6 s5 4 c5 (bcl (be 4 y)) S5 (by rw [bcl_len, be_len]) (bcl_one _) (by unfold maxLen; omega) (by omega) Try.underlying23 lu8_info rfl (by omega) rfl rfl (by rfl) (by rfl) (fun v8 W8 O8 H8 hz => ?_); clear K7 O6 S5; rw [← bcl_app] at O8; obtain ⟨s8, c8, rfl⟩ := own_form O8)
    | (at_builtin; refine wl_appendK _ _ 23 5 (.int .u8 0) 1 1 H8 O8 s2 (8 + n) c2 (bcl (be 8 q ++ bs)) (sc_srcV H8 (sc_mono C1 (fun p hp => List.mem_append_right _ hp))) (by rw [bcl_len, List.length_append, be_len, hn.out, Nat.mul_one]) (bcl_one _) (by have := H2.out; unfold maxLen; omega) (by have := H2.out; omega) Try.underlying23 lu8_info rfl (by omega) rfl rfl (by rfl) (by rfl) (fun v9 W9 O9 H9 hz9 => ?_); clear H8 O8; rw [← bcl_app] at O9))
  obtain ⟨l, HL, HC9⟩ := own_settle H9 O9
  refine bodyPost_ret (v := .tuple #[v9, .int .i64 0]) (by simp [results, Try.results12, go_sem]) rfl ⟨_, _, rfl, HL, ?_⟩
  rw [HC.out, ← List.append_assoc (be 4 n), show 16 + n = 4 + 4 + (8 + n) from by omega]
  exact sc_mono HC9 (fun p hp => List.mem_append_left _ hp)
end Go.Proofs.Ytaonaifnaecpiaa.Own

namespace Go.Proofs.Ytaonaifnaecpiaa.Own
open Go.RowKit Go.Proofs.YtaonaifnaecpiaaW.PrintWords
set_option linter.unusedSimpArgs false
set_option linter.unusedVariables false
set_option maxRecDepth 100000 in
set_option maxHeartbeats 2000000 in
theorem rscan_k {w : World} (bs : List Int) (n : Nat) (hn : Hid (bs.length = n)) (hb : Hid (isB bs)) (h2 : n ≤ 140737488351232) (sp : Option Addr) (c : Nat) (hc : n ≤ c) (hS : Hid (SrcV w sp (bcl bs))) :
    Calls Try.prog 14 #[.slice sp n c] w fun e W' => ∃ v l, e = .returned (.tuple #[.int .u64 (((scan bs).1 : Nat) : Int), v, .int .i64 ((flen (scan bs).2 : Nat) : Int)]) ∧ KR w l W' ∧ RL l v (scan bs).2 := by
  go_enter Try.func14, Try.ntmps14
  go_wp2
  go_loopw [5, 6, 7] (fun v5 v7 v6 W => ∃ first recs rows vals, v5 = .int .u64 ((first : Nat) : Int) ∧ v6 = .int .i64 ((flen recs : Nat) : Int) ∧ Own w rows 23 1 v7 recs.length vals W ∧ KR w rows W ∧ (∀ (j : Nat) (u : Value) (r : List Int), vals[j]? = some u → recs[j]? = some r → FC rows u r) ∧ scanE bs first recs = scan bs ∧ flen recs ≤ n ∧ first + recs.length ≤ 18446744073709551616 ∧ (recs = [] → first = 0)) (fun _ _ v6 _ => n - (intOf v6).toNat)
  case atStart => exact ⟨0, [], [], [], rfl, rfl, own_nil _ _ _ _ _, kr_refl _, by simp, by simp [scanE], Nat.zero_le _, by simp, fun _ => rfl⟩
  case round =>
    obtain ⟨first, recs, rows, vals, rfl, rfl, HO, HK, HF, HE, hl, hf, hz0⟩ := hrel
    obtain ⟨sx, cx, rfl⟩ := own_form HO
    have hfr := fun sp' c' hc' h => rone_k (w := wr) (bs.drop (flen recs)) (n - flen recs) (by show _ = _; rw [List.length_drop, hn.out]) (isB_drop hb.out _) (by omega) sp' c' hc' h
    have hsr := srcV_dropM (srcV_keep hS.out HK.below) (flen recs)
    have HHE : Hid (scanE bs first recs = scan bs) := HE
    have HHF : Hid (∀ (j : Nat) (u : Value) (r : List Int), vals[j]? = some u → recs[j]? = some r → FC rows u r) := HF
    have hl3 : 16 * recs.length ≤ flen recs := flen_ge recs
    have hl4 : recs.length ≤ n := by omega
    have HS := fun (h : ∀ q r, parse1 (bs.drop (flen recs)) = some (q, r) → q = 0 ∨ recs ≠ [] ∧ q ≠ first + recs.length) => HHE.out.symm.trans (scanE_stop bs first recs h)
    have HL : Hid (vals.length = recs.length) := by show _ = _; have := HO.1.1; omega
    have hll : Hid (n - flen recs = (bs.drop (flen recs)).length) := by show _ = _; rw [List.length_drop, hn.out]
    clear HE HF
    have HP : Hid (parse1 (bs.drop (flen recs)) = parse1 (bs.drop (flen recs))) := rfl
    generalize hpe : parse1 (bs.drop (flen recs)) = pe at hfr HS HP
    have hs0 : ∀ sp', n = flen recs → SrcV wr sp' (bcl (bs.drop (flen recs))) := fun sp' h h1 => absurd h1 (by rw [bcl_len, ← hll.out]; omega)
    clear hS HP
    rcases pe with _ | ⟨q, r⟩
    · have HS := HS (by simp)
      simp only [frameR, oneN] at hfr
      rcases recs with _ | ⟨r0, recs⟩
      · obtain rfl : first = 0 := hz0 rfl
        have HO : Hid (Own w rows 23 1 (Value.slice sx 0 cx) 0 vals wr) := HO
        rw [if_pos rfl] at HS
        have HSS : Hid (scan bs = (0, [])) := HS
        clear HS HHE hpe hll
        go_wp2_with (go_at_call 44; refine (hfr _ _ (by omega) (by first | exact hsr | exact hs0 _ (by omega))).mono ?_; rintro e w1 ⟨v0, l0, rfl, HK0, HF0⟩; obtain ⟨sv, cv, rfl, hcv⟩ := fc_form HF0; clear HF0)
        all_goals obtain ⟨l, HKl, HRl⟩ := scan_fin HO.out HK HK0 HL.out HHF.out
        all_goals refine bodyPost_ret (v := .tuple #[.int .u64 0, .slice sx 0 cx, .int .i64 ((flen [] : Nat) : Int)]) (by simp [results, Try.results14, go_sem]) rfl ⟨_, l, by rw [HSS.out] <;> rfl, HKl, by rw [HSS.out]; exact HRl⟩
      · rw [if_neg (by simp)] at HS
        have HSS : Hid (scan bs = (first, r0 :: recs)) := HS
        clear HS HHE hpe hll
        have HO : Hid (Own w rows 23 1 (Value.slice sx (r0 :: recs).length cx) (r0 :: recs).length vals wr) := HO
        have hL0 : (0 : Int) < ((r0 :: recs).length : Int) := by rw [List.length_cons]; omega
        generalize hL : (r0 :: recs).length = L at HO hl4 hL0
        go_wp2_with (go_at_call 44; refine (hfr _ _ (by omega) (by first | exact hsr | exact hs0 _ (by omega))).mono ?_; rintro e w1 ⟨v0, l0, rfl, HK0, HF0⟩; obtain ⟨sv, cv, rfl, hcv⟩ := fc_form HF0; clear HF0)
        all_goals obtain ⟨l, HKl, HRl⟩ := scan_fin (by rw [hL]; exact HO.out) HK HK0 HL.out HHF.out
        all_goals refine bodyPost_ret (v := .tuple #[.int .u64 (first : Int), .slice sx L cx, .int .i64 ((flen (r0 :: recs) : Nat) : Int)]) (by simp [results, Try.results14, go_sem]) rfl ⟨_, l, by rw [HSS.out] <;> rfl, HKl, by rw [HSS.out]; exact HRl⟩
    · have hpl := parse1_len hpe
      have hpq := parse1_q (isB_drop hb.out _) hpe
      rw [← hll.out] at hpl
      have hpqi : (q : Int) < 18446744073709551616 := by omega
      have hlr : flen recs + (16 + r.length) ≤ n := by omega
      have hr6 := hpl.2
      have hri : (r.length : Int) ≤ 60000 := by omega
      have hfi : (first : Int) + (recs.length : Int) ≤ 18446744073709551616 := by omega
      have HH2 : Hid (n ≤ 140737488351232 ∧ r.length ≤ 60000 ∧ q < 18446744073709551616 ∧ first + recs.length ≤ 18446744073709551616) := ⟨h2, hr6, hpq, hf⟩
      have hrn : 16 + r.length ≤ n - flen recs := hpl.1
      clear hpl h2 hr6 hpq hf
      simp only [frameR, oneN] at hfr
      have HPE : Hid (parse1 (bs.drop (flen recs)) = some (q, r)) := hpe
      clear hpe hll
      by_cases hnil : recs = []
      · subst hnil
        obtain rfl : first = 0 := hz0 rfl
        have HO : Hid (Own w rows 23 1 (Value.slice sx 0 cx) 0 vals wr) := HO
        by_cases hq : q = 0
        · subst hq
          have HS := HS (by intro q' r' h; simp only [Option.some.injEq, Prod.mk.injEq] at h; exact .inl h.1.symm)
          rw [if_pos rfl] at HS
          have HSS : Hid (scan bs = (0, [])) := HS
          clear HS HHE
          go_wp2_with (go_at_call 44; refine (hfr _ _ (by omega) (by first | exact hsr | exact hs0 _ (by omega))).mono ?_; rintro e w1 ⟨v0, l0, rfl, HK0, HF0⟩; obtain ⟨sv, cv, rfl, hcv⟩ := fc_form HF0; clear HF0)
          all_goals obtain ⟨l, HKl, HRl⟩ := scan_fin HO.out HK HK0 HL.out HHF.out
          all_goals refine bodyPost_ret (v := .tuple #[.int .u64 0, .slice sx 0 cx, .int .i64 ((flen [] : Nat) : Int)]) (by simp [results, Try.results14, go_sem]) rfl ⟨_, l, by rw [HSS.out] <;> rfl, HKl, by rw [HSS.out]; exact HRl⟩
        · have HGO := HHE.out.symm.trans (scanE_go bs 0 [] q r HPE.out hq (fun h => absurd rfl h))
          rw [if_pos rfl] at HGO
          have hq1 : (1 : Int) ≤ (q : Int) := by omega
          have hq0 : ((q : Int) == 0) = false := by simp; omega
          have hqq : IntKind.u64.wrap ((q : Int) - (q : Int)) = 0 := by rw [Int.sub_self]; rfl
          clear hpqi
          have HQ : Hid (¬ q = 0) := hq
          clear hq
          have HGG : Hid (scanE bs q ([] ++ [r]) = scan bs) := HGO.symm
          clear HS HHE HGO
          go_wp2_with (first | (go_at_call 44; refine (hfr _ _ (by omega) (by first | exact hsr | exact hs0 _ (by omega))).mono ?_; rintro e w1 ⟨v0, l0, rfl, HK0, HF0⟩; obtain ⟨sv, cv, rfl, hcv⟩ := fc_form HF0; have K1 := kr_join HK HK0; have O1 := own_later HO.out HK0) | (at_builtin; refine wl_appendK _ _ 28 23 (.slice none 0 0) 1 24 (kr_alloc K1 _) (own_alloc O1 _) _ 1 1 [.slice sv r.length cv] (srcV_built _ _ _) rfl (by intro v hv; rw [List.mem_singleton.1 hv]; rfl) (by have := HH2.out; unfold maxLen; omega) (by have := HH2.out; omega) Try.underlying28 bb_info rfl (by omega) rfl rfl (by rfl) (by rfl) (fun v' W' O2 H2 hz => ?_); clear K1 O1; obtain ⟨s4, c4, rfl⟩ := own_form O2))
          have hw : wrap64 (((flen [] : Nat) : Int) + (16 + (r.length : Int))) = ((flen ([] ++ [r]) : Nat) : Int) := by
            have := HH2.out
            rw [flen_app, w64i _ (by omega)]
            simp only [flen]
            omega
          rw [hw]
          refine ⟨⟨q, [] ++ [r], l0 ++ rows, vals ++ [.slice sv r.length cv], rfl, rfl, by rw [List.length_append]; exact O2, H2, scan_push HL.out HHF.out HF0, HGG.out, ?_, ?_, fun h => absurd h (by simp)⟩, ?_⟩
          · rw [flen_app]; simp only [flen]; omega
          · have := HH2.out; rw [List.length_append]; simp only [List.length_cons, List.length_nil] at this ⊢; omega
          · rw [flen_app]; simp only [flen, intOf]; omega
      · rw [if_neg hnil] at HS
        have hL0 : (0 : Int) < (recs.length : Int) := by have := List.length_pos_iff.2 hnil; omega
        have hrn0 : recs ≠ [] := hnil
        have HO : Hid (Own w rows 23 1 (Value.slice sx recs.length cx) recs.length vals wr) := HO
        by_cases hq : q = 0 ∨ q ≠ first + recs.length
        · have HS := HS (by intro q' r' h; simp only [Option.some.injEq, Prod.mk.injEq] at h; rw [← h.1]; rcases hq with hq | hq; exact .inl hq; exact .inr ⟨hrn0, hq⟩)
          have HSS : Hid (scan bs = (first, recs)) := HS
          clear HS HHE
          generalize hL : recs.length = L at HO hl4 hL0 hq hfi
          rcases Nat.eq_zero_or_pos q with h0 | h0
          · subst h0
            clear hq
            go_wp2_with (go_at_call 44; refine (hfr _ _ (by omega) (by first | exact hsr | exact hs0 _ (by omega))).mono ?_; rintro e w1 ⟨v0, l0, rfl, HK0, HF0⟩; obtain ⟨sv, cv, rfl, hcv⟩ := fc_form HF0; clear HF0)
            all_goals obtain ⟨l, HKl, HRl⟩ := scan_fin (by rw [hL]; exact HO.out) HK HK0 HL.out HHF.out
            all_goals refine bodyPost_ret (v := .tuple #[.int .u64 (first : Int), .slice sx L cx, .int .i64 ((flen recs : Nat) : Int)]) (by simp [results, Try.results14, go_sem]) rfl ⟨_, l, by rw [HSS.out] <;> rfl, HKl, by rw [HSS.out]; exact HRl⟩
          · have hq1 : (1 : Int) ≤ (q : Int) := by omega
            have hq0 : ((q : Int) == 0) = false := by simp; omega
            have hqq : ¬ (q : Int) = IntKind.u64.wrap ((first : Int) + (L : Int)) := by rw [wrap_u64']; omega
            obtain ⟨D, hD⟩ : ∃ D, IntKind.u64.wrap ((first : Int) + (L : Int)) = D := ⟨_, rfl⟩
            rw [hD] at hqq
            have hwL : IntKind.u64.wrap (L : Int) = (L : Int) := by have := HH2.out.1; rw [wrap_u64']; omega
            have hqe : ((q : Int) == D) = false := by simp; exact hqq
            have hqn : ((q : Int) != D) = true := by simp; exact hqq
            clear hq hfi h0 hpqi
            go_wp2_with (go_at_call 44; refine (hfr _ _ (by omega) (by first | exact hsr | exact hs0 _ (by omega))).mono ?_; rintro e w1 ⟨v0, l0, rfl, HK0, HF0⟩; obtain ⟨sv, cv, rfl, hcv⟩ := fc_form HF0; clear HF0)
            all_goals obtain ⟨l, HKl, HRl⟩ := scan_fin (by rw [hL]; exact HO.out) HK HK0 HL.out HHF.out
            all_goals refine bodyPost_ret (v := .tuple #[.int .u64 (first : Int), .slice sx L cx, .int .i64 ((flen recs : Nat) : Int)]) (by simp [results, Try.results14, go_sem]) rfl ⟨_, l, by rw [HSS.out] <;> rfl, HKl, by rw [HSS.out]; exact HRl⟩
        · have hqe : q = first + recs.length := by omega
          have HGO := HHE.out.symm.trans (scanE_go bs first recs q r HPE.out (by omega) (fun _ => hqe))
          rw [if_neg hrn0] at HGO
          have HGG : Hid (scanE bs first (recs ++ [r]) = scan bs) := HGO.symm
          have HZ : Hid (q < 18446744073709551616 ∧ q = first + recs.length) := ⟨HH2.out.2.2.1, hqe⟩
          have hq1 : (1 : Int) ≤ (q : Int) := by omega
          have hq0 : ((q : Int) == 0) = false := by simp; omega
          obtain ⟨L, hL⟩ : ∃ L, L = recs.length := ⟨_, rfl⟩
          have hLe : Hid (L = recs.length) := hL
          have hqq : IntKind.u64.wrap ((first : Int) + (L : Int)) = (q : Int) := by have := HZ.out; rw [wrap_u64']; omega
          rw [← hL] at HO hl4 hL0 ⊢
          have hwL : IntKind.u64.wrap (L : Int) = (L : Int) := by have := HH2.out.1; rw [wrap_u64']; omega
          clear HS HHE HGO hqe hq hpqi hL hfi hnil hrn0
          go_wp2_with (first | (go_at_call 44; refine (hfr _ _ (by omega) (by first | exact hsr | exact hs0 _ (by omega))).mono ?_; rintro e w1 ⟨v0, l0, rfl, HK0, HF0⟩; obtain ⟨sv, cv, rfl, hcv⟩ := fc_form HF0; have K1 := kr_join HK HK0; have O1 := own_later HO.out HK0) | (at_builtin; refine wl_appendW _ _ 28 23 (.slice none 0 0) 1 24 (kr_alloc K1 _) (own_alloc O1 _) _ 1 1 [.slice sv r.length cv] (srcV_built _ _ _) (by omega) rfl (by intro v hv; rw [List.mem_singleton.1 hv]; rfl) (by have := HH2.out; unfold maxLen; omega) (by have h2 := HH2.out.1; have h3 := hLe.out; omega) Try.underlying28 bb_info rfl (by omega) rfl rfl (by rfl) (by rfl) (fun v' W' O2 H2 hz => ?_); clear K1 O1; obtain ⟨s4, c4, rfl⟩ := own_form O2))

          have hw : wrap64 (((flen recs : Nat) : Int) + (16 + (r.length : Int))) = ((flen (recs ++ [r]) : Nat) : Int) := by
            have := HH2.out
            rw [flen_app, w64i _ (by omega)]
            simp only [flen]
            omega
          rw [hw]
          refine ⟨⟨first, recs ++ [r], l0 ++ rows, vals ++ [.slice sv r.length cv], rfl, rfl, by rw [List.length_append, ← hLe.out]; exact O2, H2, scan_push HL.out HHF.out HF0, HGG.out, ?_, ?_, fun h => absurd h (by simp)⟩, ?_⟩
          · rw [flen_app]; simp only [flen]; omega
          · have := HZ.out; rw [List.length_append]; simp only [List.length_cons, List.length_nil]; omega
          · rw [flen_app]; simp only [flen, intOf]; omega
end Go.Proofs.Ytaonaifnaecpiaa.Own

namespace Go.Proofs.Ytaonaifnaecpiaa.Own
open Go.RowKit Go.Proofs.YtaonaifnaecpiaaW.PrintWords
set_option linter.unusedSimpArgs false
set_option linter.unusedVariables false
theorem son_inj {a b : List Int} (ha : isB a) (hb : isB b) (h : strOfNums a = strOfNums b) : a = b := by
  have h1 : (a.map fun n => UInt8.ofNat n.toNat) = (b.map fun n => UInt8.ofNat n.toNat) := by
    rw [← strOfNums_data, ← strOfNums_data, h]
  have h2 := congrArg (List.map (fun u : UInt8 => (u.toNat : Int))) h1
  rw [List.map_map, List.map_map] at h2
  have key : ∀ l : List Int, isB l → l.map ((fun u : UInt8 => (u.toNat : Int)) ∘ fun n => UInt8.ofNat n.toNat) = l := fun l hl => by
    conv => rhs; rw [← List.map_id l]
    refine List.map_congr_left fun x hx => ?_
    have := hl x hx
    simp only [Function.comp_apply, UInt8.toNat_ofNat', id_eq]
    omega
  rwa [key a ha, key b hb] at h2
theorem bytes_ne {x y : ByteArray} (h : ¬ x = y) : (x.toList == y.toList) = false := by
  rw [beq_eq_false_iff_ne]
  intro e
  rw [ByteArray.toList_eq, ByteArray.toList_eq] at e
  exact h (ByteArray.ext (Array.toList_inj.1 e))
def isBL (l : List (List Int)) : Prop := ∀ r ∈ l, isB r
theorem cons_take {l : List (List Int)} {k : Nat} (h : k < l.length) : l.take (k + 1) = l.take k ++ [l[k]] := List.take_succ_eq_append_getElem h
theorem cell_drewN (W : World) (n : Nat) (A : Addr) : (W.drewN n).cell? A = W.cell? A := rfl
set_option maxRecDepth 100000 in
set_option maxHeartbeats 1000000 in
theorem same_k {W : World} (ra rb : List (List Int)) (na nb : Nat) (hna : Hid (ra.length = na)) (hnb : Hid (rb.length = nb)) (ha : isBL ra) (hb : isBL rb) (h2 : na ≤ 9223372036854775807) (h3 : nb ≤ 9223372036854775807) (sa sb : Option Addr) (ca cb : Nat) (hA : LLV W sa ra) (hB : LLV W sb rb) :
    Calls Try.prog 15 #[.slice sa na ca, .slice sb nb cb] W fun e W' => e = .returned (.bool (decide (ra = rb))) ∧ ∃ k, W' = W.drewN k := by
  have hai : (na : Int) ≤ 9223372036854775807 := by omega
  have hbi : (nb : Int) ≤ 9223372036854775807 := by omega
  clear h2 h3
  by_cases hne : na = nb
  · subst hne
    have HA : Hid (LLV W sa ra) := hA
    have HB : Hid (LLV W sb rb) := hB
    have IA : Hid (isBL ra) := ha
    have IB : Hid (isBL rb) := hb
    clear hA hB ha hb
    go_enter Try.func15, Try.ntmps15
    go_wp2
    go_loopw [5] (fun v5 W' => ∃ k m : Nat, v5 = .int .i64 k ∧ k ≤ na ∧ W' = W.drewN m ∧ ra.take k = rb.take k) (fun v5 _ => na - (intOf v5).toNat)
    case atStart => exact ⟨0, 0, rfl, Nat.zero_le _, (World.drewN_zero _).symm, rfl⟩
    case round =>
      obtain ⟨k, m, rfl, hk, rfl, hT⟩ := hrel
      by_cases hlt : k < na
      · have hka : k < ra.length := by rw [hna.out]; exact hlt
        have hkb : k < rb.length := by rw [hnb.out]; exact hlt
        obtain ⟨A, rfl, hcA⟩ := HA.out (by omega)
        obtain ⟨B, rfl, hcB⟩ := HB.out (by omega)
        obtain ⟨sj, cj, c1, S1⟩ := hcA k _ (List.getElem?_eq_getElem hka)
        obtain ⟨tj, dj, c2, S2⟩ := hcB k _ (List.getElem?_eq_getElem hkb)
        have HT : Hid (ra.take k = rb.take k) := hT
        have JA := IA.out _ (List.getElem_mem hka)
        have JB := IB.out _ (List.getElem_mem hkb)
        have q1 : ∀ nq, (convert 23 9 (.slice sj ra[k].length cj)).run Try.prog ((W.drewN m).drewN nq) = .ok (.string (strOfNums ra[k])) ((W.drewN m).drewN nq) := fun nq => conv_cells _ cj rfl (srcV_keep S1 (bw_drewN (bw_drewN (Below.refl _ _) m) nq))
        have q2 : ∀ nq, (convert 23 9 (.slice tj rb[k].length dj)).run Try.prog ((W.drewN m).drewN nq) = .ok (.string (strOfNums rb[k])) ((W.drewN m).drewN nq) := fun nq => conv_cells _ dj rfl (srcV_keep S2 (bw_drewN (bw_drewN (Below.refl _ _) m) nq))
        rw [← cell_drewN W m] at c1 c2
        have hki : (k : Int) < (na : Int) := by omega
        have HR : Hid (ra.take (k + 1) = rb.take (k + 1) ↔ strOfNums ra[k] = strOfNums rb[k]) := by
          constructor
          · intro h
            rw [cons_take hka, cons_take hkb] at h
            have := (List.append_inj' h rfl).2
            simp only [List.cons.injEq, and_true] at this
            rw [this]
          · intro h
            rw [cons_take hka, cons_take hkb, hT, son_inj JA JB h]
        have HE : Hid (strOfNums ra[k] ≠ strOfNums rb[k] → decide (ra = rb) = false) := by
          intro h
          refine decide_eq_false fun e => h ?_
          subst e
          rfl
        generalize strOfNums ra[k] = x1 at q1 HR HE
        generalize strOfNums rb[k] = x2 at q2 HR HE
        generalize ra[k].length = y1 at q1 c1
        generalize rb[k].length = y2 at q2 c2
        have hW : ∀ j, (W.drewN m).drewN j = W.drewN (m + j) := fun j => World.drewN_drewN _ _ _
        obtain ⟨W1, hW1⟩ : ∃ W1, W1 = W.drewN m := ⟨_, rfl⟩
        rw [← hW1] at q1 q2 c1 c2 hW ⊢
        have HW : Hid (∀ j, W1.drewN j = W.drewN (m + j)) := hW
        clear hW hW1
        clear hcA hcB HA HB S1 S2 JA JB
        by_cases hx : x1 = x2
        · subst hx
          have HT2 : Hid (ra.take (k + 1) = rb.take (k + 1)) := HR.out.2 rfl
          clear HR HE HT
          go_wp2_with fail
          go_quiet (fail)
          clear q1 q2 c1 c2
          go_wp2_with fail
          go_round
          case rel => exact ⟨k + 1, _, by go_num, by omega, HW.out _, HT2.out⟩
          case measure => (simp [intOf]; try omega)
        · have HE2 : Hid (decide (ra = rb) = false) := HE.out hx
          have hbl := bytes_ne hx
          clear HR HE HT
          go_wp2_with fail
          go_quiet (fail)
          clear q1 q2 c1 c2
          go_wp2_with fail
          go_ret
          exact ⟨by rw [HE2.out] <;> rfl, _, HW.out _⟩
      · obtain rfl : k = na := by omega
        have hr : ra = rb := by
          rw [List.take_of_length_le (by rw [hna.out]; omega), List.take_of_length_le (by rw [hnb.out]; omega)] at hT
          exact hT
        have HD : Hid (decide (ra = rb) = true) := decide_eq_true hr
        clear hT hr
        go_wp2_with fail
        go_ret
        exact ⟨by rw [HD.out] <;> rfl, m, rfl⟩
  · have hd : decide (ra = rb) = false := decide_eq_false fun e => hne (by rw [← hna.out, ← hnb.out, e])
    rw [hd]
    have hni : ¬ (na : Int) = (nb : Int) := by omega
    clear hd hA hB
    go_enter Try.func15, Try.ntmps15
    go_wp2
    go_ret
    exact ⟨rfl, 0, (World.drewN_zero _).symm⟩
end Go.Proofs.Ytaonaifnaecpiaa.Own

namespace Go.Proofs.Ytaonaifnaecpiaa.Own
open Go.RowKit
set_option linter.unusedSimpArgs false
set_option linter.unusedVariables false
/-- The rows xs, the program's disk as the plain disk p; the rows ks are kept. -/
def DX (w W : World) (D : Nat) (p : PD) (xs ks : List (Nat × List Value)) : Prop := ∃ d gs, KR w (xs ++ (D, d.l) :: gs) W ∧ VW gs d p ∧ ∀ x ∈ ks, x ∈ gs
section
variable {ks : List (Nat × List Value)} {w W : World} {D : Nat} {p : PD} {xs : List (Nat × List Value)}
theorem dx_kr (h : DX w W D p xs ks) : KR w xs W := by
  obtain ⟨d, gs, HK, _⟩ := h
  exact kr_sub HK (List.sublist_append_left _ _)
theorem dx_sub {ys : List (Nat × List Value)} (h : DX w W D p xs ks) (hs : ys.Sublist xs) : DX w W D p ys ks := by
  obtain ⟨d, gs, HK, h⟩ := h
  exact ⟨d, gs, kr_sub HK (List.Sublist.append hs (List.Sublist.refl _)), h⟩
theorem dx_perm {ys : List (Nat × List Value)} (h : DX w W D p xs ks) (hs : ys.Perm xs) : DX w W D p ys ks := by
  obtain ⟨d, gs, HK, h⟩ := h
  exact ⟨d, gs, kr_permA HK (List.Perm.append_right _ hs), h⟩
theorem dx_call {W' : World} (h : DX w W D p xs ks) (hb : Below W.heap.size W W') : DX w W' D p xs ks := by
  obtain ⟨d, gs, HK, h⟩ := h
  exact ⟨d, gs, kr_call HK hb, h⟩
theorem dx_drew (h : DX w W D p xs ks) : DX w W.drew D p xs ks := dx_call h (bw_drew (Below.refl _ _))
theorem dx_drewN (h : DX w W D p xs ks) (n : Nat) : DX w (W.drewN n) D p xs ks := dx_call h (bw_drewN (Below.refl _ _) n)
theorem dx_join {W' : World} {l : List (Nat × List Value)} (h : DX w W D p xs ks) (hl : KR W l W') : DX w W' D p (l ++ xs) ks := by
  obtain ⟨d, gs, HK, h⟩ := h
  exact ⟨d, gs, by rw [List.append_assoc]; exact kr_join HK hl, h⟩
theorem dx_new (h : DX w W D p xs ks) (cs : List Value) (t : TypeId) : DX w (W.alloc (.cells cs.toArray t)) D p ((W.heap.size, cs) :: xs) ks := by
  obtain ⟨d, gs, HK, h⟩ := h
  exact ⟨d, gs, kr_new HK cs t, h⟩
theorem dx_fset {b : Nat} {cs : List Value} (h : DX w W D p ((b, cs) :: xs) ks) (j : Nat) (hj : j < cs.length) (v : Value) (ds : List Value) (hd : cs.set j v = ds) : DX w (W.setCell ⟨b, j, none⟩ v) D p ((b, ds) :: xs) ks := by
  obtain ⟨d, gs, HK, h⟩ := h
  exact ⟨d, gs, kr_fset HK 0 rfl j hj v ds hd, h⟩
theorem dx_len (h : DX w W D p xs ks) (k : Nat) (hk : k < 8) : (p.f k).1.length ≤ 1048576 ∧ (p.f k).2 ≤ (p.f k).1.length := by
  obtain ⟨d, gs, HK, hV, _⟩ := h
  exact ⟨(hV.file k hk).2.2.2, (hV.file k hk).2.2.1⟩
theorem dx_prog {p' : PD} (h : DX w W D p xs ks) {f : FuncId} {args : Array Value} {ret : Value}
    (hc : ∀ d rs gs, (∀ W1, KR w rs W1 → KR w xs W1) → KR w ((D, d.l) :: rs) W → VW gs d p → (∀ x ∈ gs, x ∈ rs) → Calls Try.prog f args W fun e W' => e = .returned ret ∧ ∃ l d', KR w ((D, d'.l) :: (l ++ rs)) W' ∧ VW (l ++ gs) d' p') :
    Calls Try.prog f args W fun e W' => e = .returned ret ∧ DX w W' D p' xs ks := by
  obtain ⟨d, gs, HK, hV, hk⟩ := h
  refine (hc d (xs ++ gs) gs (fun W1 H => kr_sub H (List.sublist_append_left _ _)) (kr_head xs HK) hV (fun x hx => List.mem_append_right _ hx)).mono ?_
  rintro e w' ⟨rfl, l, d', H, hV'⟩
  refine ⟨rfl, d', l ++ gs, kr_permA H ?_, hV', fun x hx => List.mem_append_right _ (hk x hx)⟩
  have h1 : (xs ++ (D, d'.l) :: (l ++ gs)).Perm ((D, d'.l) :: (xs ++ (l ++ gs))) := List.perm_middle
  refine h1.trans (List.Perm.cons _ ?_)
  rw [← List.append_assoc, ← List.append_assoc]
  exact List.Perm.append_right _ List.perm_append_comm
theorem dx_append (h : DX w W D p xs ks) (f : Int) (ys : List Int) (n : Nat) (hn : ys.length = n) (sp : Option Addr) (cp : Nat) (hS : ∀ W1, KR w xs W1 → Src W1 sp ys) :
    Calls Try.prog 37 #[.pointer (some ⟨D, 0, none⟩), .int .i64 f, .slice sp n cp] W fun e W' => e = .returned (.int .i64 (pappE p f ys)) ∧ DX w W' D (pappD p f ys) xs ks :=
  dx_prog h (fun d rs gs hx HK hV hs => (dg_append HK hV hs f ys n hn sp cp (hS W (hx W (kr_tail HK)))).mono fun e W' ⟨he, H⟩ => ⟨he, H⟩)
theorem dx_appendN (h : DX w W D p xs ks) (f : Int) (ys : List Int) (n : Nat) (hn : ys.length = n) (sp : Option Addr) (cp : Nat) (hS : Src W sp ys) :
    Calls Try.prog 37 #[.pointer (some ⟨D, 0, none⟩), .int .i64 f, .slice sp n cp] W fun e W' => e = .returned (.int .i64 (pappE p f ys)) ∧ DX w W' D (pappD p f ys) xs ks :=
  dx_prog h (fun d rs gs hx HK hV hs => (dg_append HK hV hs f ys n hn sp cp hS).mono fun e W' ⟨he, H⟩ => ⟨he, H⟩)
theorem dx_sync (h : DX w W D p xs ks) (f : Int) :
    Calls Try.prog 48 #[.pointer (some ⟨D, 0, none⟩), .int .i64 f] W fun e W' => e = .returned (.int .i64 (pchE p [f])) ∧ DX w W' D (psyncD p f) xs ks :=
  dx_prog h (fun d rs gs hx HK hV hs => (dg_sync HK hV f).mono fun e W' ⟨he, H⟩ => ⟨he, by obtain ⟨d', H1, H2⟩ := H; exact ⟨[], d', H1, H2⟩⟩)
theorem dx_clear (h : DX w W D p xs ks) (f : Int) :
    Calls Try.prog 49 #[.pointer (some ⟨D, 0, none⟩), .int .i64 f] W fun e W' => e = .returned (.int .i64 (pchE p [f])) ∧ DX w W' D (pclrD p f) xs ks :=
  dx_prog h (fun d rs gs hx HK hV hs => (dg_clear HK hV f).mono fun e W' ⟨he, H⟩ => ⟨he, by obtain ⟨d', H1, H2⟩ := H; exact ⟨[], d', H1, H2⟩⟩)
theorem dx_rename (h : DX w W D p xs ks) (f t : Int) :
    Calls Try.prog 65 #[.pointer (some ⟨D, 0, none⟩), .int .i64 f, .int .i64 t] W fun e W' => e = .returned (.int .i64 (pchE p [f, t])) ∧ DX w W' D (prenD p f t) xs ks :=
  dx_prog h (fun d rs gs hx HK hV hs => (dg_rename HK hV f t).mono fun e W' ⟨he, H⟩ => ⟨he, by obtain ⟨d', H1, H2⟩ := H; exact ⟨[], d', H1, H2⟩⟩)
theorem dx_fail (h : DX w W D p xs ks) (n : Int) (hn : n ≤ 9223372036854775807) :
    Calls Try.prog 27 #[.pointer (some ⟨D, 0, none⟩), .int .i64 n] W fun e W' => e = .returned (.tuple #[]) ∧ DX w W' D (pfail p n) xs ks :=
  dx_prog h (fun d rs gs hx HK hV hs => (dg_fail HK hV n hn).mono fun e W' ⟨he, H⟩ => ⟨he, by obtain ⟨d', H1, H2⟩ := H; exact ⟨[], d', H1, H2⟩⟩)
theorem dx_crash (h : DX w W D p xs ks) (keeps : List Int) (n : Nat) (hn : keeps.length = n) (co : Option Addr) (cp : Nat) (hk : ∀ W1, KR w xs W1 → ∀ j, j < n → ∃ A, co = some A ∧ W1.cell? (A.add j) = some (.int .i64 (keeps.getD j 0))) :
    Calls Try.prog 28 #[.pointer (some ⟨D, 0, none⟩), .slice co n cp] W fun e W' => e = .returned (.tuple #[]) ∧ DX w W' D (pcrash p keeps) xs ks :=
  dx_prog h (fun d rs gs hx HK hV hs => (dg_crash HK hV keeps n hn co cp (fun d' W1 H => hk W1 (hx W1 (kr_tail H)))).mono fun e W' ⟨he, H⟩ => ⟨he, by obtain ⟨d', H1, H2⟩ := H; exact ⟨[], d', H1, H2⟩⟩)
theorem dx_readk (h : DX w W D p xs ks) (k : Nat) (hk : k < 8) :
    Calls Try.prog 45 #[.pointer (some ⟨D, 0, none⟩), .int .i64 k] W fun e W' => ∃ g, e = .returned (.tuple #[.slice (some ⟨g, 0, none⟩) (p.f k).1.length (p.f k).1.length, .int .i64 0]) ∧ DX w W' D p ((g, bc (p.f k).1) :: xs) ks := by
  obtain ⟨d, gs, HK, hV, hks⟩ := h
  obtain ⟨hF, hs1, hs2, hs3⟩ := hV.file k hk
  refine (read_k d D k hk (p.f k).1 (by omega) (kr_head xs HK) (fc_mono hF (fun x hx => List.mem_append_right _ hx))).mono ?_
  rintro e w' ⟨g, rfl, H⟩
  exact ⟨g, rfl, d, gs, kr_permA (kr_swap H) (by
    have h1 : (xs ++ (D, d.l) :: gs).Perm ((D, d.l) :: (xs ++ gs)) := List.perm_middle
    exact (List.Perm.cons _ h1).trans (List.Perm.swap _ _ _)), hV, hks⟩
end
/-- A new disk. -/
theorem dx_disk {w W : World} {rs : List (Nat × List Value)} (HK : KR w rs W) : Calls Try.prog 23 #[] W fun e W' => ∃ D, e = .returned (.pointer (some ⟨D, 0, none⟩)) ∧ DX w W' D pnew rs [] := by
  refine (new_k HK).mono ?_
  rintro e w' ⟨D, rfl, H⟩
  exact ⟨D, rfl, dk0, [], kr_permA H (by
    have h1 : (rs ++ [(D, dk0.l)]).Perm ((D, dk0.l) :: (rs ++ [])) := List.perm_middle
    rwa [List.append_nil] at h1), vw_new _, fun x hx => by simp at hx⟩
end Go.Proofs.Ytaonaifnaecpiaa.Own

namespace Go.Proofs.Ytaonaifnaecpiaa.Own
open Go.RowKit
set_option linter.unusedSimpArgs false
set_option linter.unusedVariables false
/-- A file's bytes are others, by way of another file. -/
def pwr (p : PD) (f t : Int) (ys : List Int) : PD × Int :=
  if pchE p [f] ≠ 0 then (pclrD p f, pchE p [f])
  else if pappE (pclrD p f) f ys ≠ 0 then (pappD (pclrD p f) f ys, pappE (pclrD p f) f ys)
  else if pchE (pappD (pclrD p f) f ys) [f] ≠ 0 then (psyncD (pappD (pclrD p f) f ys) f, pchE (pappD (pclrD p f) f ys) [f])
  else (prenD (psyncD (pappD (pclrD p f) f ys) f) f t, pchE (psyncD (pappD (pclrD p f) f ys) f) [f, t])
set_option maxRecDepth 100000 in
theorem write_k {ks : List (Nat × List Value)} {w W : World} {D : Nat} {p : PD} {xs : List (Nat × List Value)} (h : DX w W D p xs ks) (f t : Int) (ys : List Int) (n : Nat) (hn : ys.length = n) (sp : Option Addr) (cp : Nat) (hS : ∀ W1, KR w xs W1 → Src W1 sp ys) :
    Calls Try.prog 46 #[.pointer (some ⟨D, 0, none⟩), .int .i64 f, .int .i64 t, .slice sp n cp] W fun e W' => e = .returned (.int .i64 (pwr p f t ys).2) ∧ DX w W' D (pwr p f t ys).1 xs ks := by
  have c1 := dx_clear h f
  have c2 := fun W1 (H1 : DX w W1 D (pclrD p f) xs ks) => dx_append H1 f ys n hn sp cp hS
  have c3 := fun W1 (H1 : DX w W1 D (pappD (pclrD p f) f ys) xs ks) => dx_sync H1 f
  have c4 := fun W1 (H1 : DX w W1 D (psyncD (pappD (pclrD p f) f ys) f) xs ks) => dx_rename H1 f t
  unfold pwr
  clear h hS hn
  generalize psyncD (pappD (pclrD p f) f ys) f = p3 at *
  generalize pchE (pappD (pclrD p f) f ys) [f] = e3 at *
  generalize pappD (pclrD p f) f ys = p2 at *
  generalize pappE (pclrD p f) f ys = e2 at *
  generalize pclrD p f = p1 at *
  generalize pchE p [f] = e1 at *
  generalize pchE p3 [f, t] = e4 at *
  generalize prenD p3 f t = p4 at *
  by_cases h1 : e1 = 0
  · subst h1
    rw [if_neg (by simp)]
    by_cases h2 : e2 = 0
    · subst h2
      rw [if_neg (by simp)]
      by_cases h3 : e3 = 0
      · subst h3
        rw [if_neg (by simp)]
        go_enter Try.func46, Try.ntmps46
        go_wp2_with (first | (go_at_call 49; refine c1.mono ?_; rintro e w1 ⟨rfl, H1⟩) | (go_at_call 37; refine (c2 _ H1).mono ?_; rintro e w2 ⟨rfl, H2⟩) | (go_at_call 48; refine (c3 _ H2).mono ?_; rintro e w3 ⟨rfl, H3⟩) | (go_at_call 65; refine (c4 _ H3).mono ?_; rintro e w4 ⟨rfl, H4⟩))
        go_ret
        exact ⟨rfl, H4⟩
      · rw [if_pos h3]
        have hb : (e3 == 0) = false := by simpa using h3
        go_enter Try.func46, Try.ntmps46
        go_wp2_with (first | (go_at_call 49; refine c1.mono ?_; rintro e w1 ⟨rfl, H1⟩) | (go_at_call 37; refine (c2 _ H1).mono ?_; rintro e w2 ⟨rfl, H2⟩) | (go_at_call 48; refine (c3 _ H2).mono ?_; rintro e w3 ⟨rfl, H3⟩))
        go_ret
        exact ⟨rfl, H3⟩
    · rw [if_pos h2]
      have hb : (e2 == 0) = false := by simpa using h2
      go_enter Try.func46, Try.ntmps46
      go_wp2_with (first | (go_at_call 49; refine c1.mono ?_; rintro e w1 ⟨rfl, H1⟩) | (go_at_call 37; refine (c2 _ H1).mono ?_; rintro e w2 ⟨rfl, H2⟩))
      go_ret
      exact ⟨rfl, H2⟩
  · rw [if_pos h1]
    have hb : (e1 == 0) = false := by simpa using h1
    go_enter Try.func46, Try.ntmps46
    go_wp2_with (first | (go_at_call 49; refine c1.mono ?_; rintro e w1 ⟨rfl, H1⟩))
    go_ret
    exact ⟨rfl, H1⟩
/-- A log's cells. -/
def lgc (D : Nat) (next : Nat) (many : Nat) (bad : Bool) : List Value := [.pointer (some ⟨D, 0, none⟩), .int .u64 (next : Int), .int .i64 (many : Int), .bool bad]
theorem lmay_nil (W : World) : Calls Try.prog 47 #[.pointer none] W fun e W' => e = .returned (.int .i64 2) ∧ W = W' := by
  go_enter Try.func47, Try.ntmps47
  go_wp2
  go_ret
  exact ⟨rfl, rfl⟩
theorem lmay_k {w W : World} {rs : List (Nat × List Value)} {G D : Nat} (next many : Nat) (bad : Bool) (HK : KR w ((G, lgc D next many bad) :: rs) W) : Calls Try.prog 47 #[.pointer (some ⟨G, 0, none⟩)] W fun e W' => e = .returned (.int .i64 (if bad then 5 else 0)) ∧ W = W' := by
  have k3 := kr_cell HK 0 rfl 3 (.bool bad) rfl
  clear HK
  cases bad
  · go_enter Try.func47, Try.ntmps47
    go_wp2
    go_ret
    exact ⟨rfl, rfl⟩
  · go_enter Try.func47, Try.ntmps47
    go_wp2
    go_ret
    exact ⟨rfl, rfl⟩
theorem next_nil (W : World) : Calls Try.prog 29 #[.pointer none] W fun e W' => e = .returned (.int .u64 0) ∧ W = W' := by
  go_enter Try.func29, Try.ntmps29
  go_wp2
  go_ret
  exact ⟨rfl, rfl⟩
theorem next_k {w W : World} {rs : List (Nat × List Value)} {G D : Nat} (next many : Nat) (bad : Bool) (HK : KR w ((G, lgc D next many bad) :: rs) W) : Calls Try.prog 29 #[.pointer (some ⟨G, 0, none⟩)] W fun e W' => e = .returned (.int .u64 (next : Int)) ∧ W = W' := by
  have k3 := kr_cell HK 0 rfl 1 (.int .u64 (next : Int)) rfl
  clear HK
  go_enter Try.func29, Try.ntmps29
  go_wp2
  go_ret
  exact ⟨rfl, rfl⟩
theorem size_nil (W : World) : Calls Try.prog 30 #[.pointer none] W fun e W' => e = .returned (.int .i64 0) ∧ W = W' := by
  go_enter Try.func30, Try.ntmps30
  go_wp2
  go_ret
  exact ⟨rfl, rfl⟩
theorem size_k {w W : World} {rs : List (Nat × List Value)} {G D : Nat} (next many : Nat) (bad : Bool) (HK : KR w ((G, lgc D next many bad) :: rs) W) : Calls Try.prog 30 #[.pointer (some ⟨G, 0, none⟩)] W fun e W' => e = .returned (.int .i64 (many : Int)) ∧ W = W' := by
  have k3 := kr_cell HK 0 rfl 2 (.int .i64 (many : Int)) rfl
  clear HK
  go_enter Try.func30, Try.ntmps30
  go_wp2
  go_ret
  exact ⟨rfl, rfl⟩
end Go.Proofs.Ytaonaifnaecpiaa.Own

namespace Go.Proofs.Ytaonaifnaecpiaa.Own
open Go.RowKit
set_option linter.unusedSimpArgs false
set_option linter.unusedVariables false
def lap1 (p : PD) (b : List Int) : PD × Int := if pappE p 0 b = 0 then (psyncD (pappD p 0 b) 0, pchE (pappD p 0 b) [0]) else (pappD p 0 b, pappE p 0 b)
/-- Append: the answer, the disk, the number that comes, how many, whether it is bad. -/
def lapR (p : PD) (next many : Nat) (bad : Bool) (rec : List Int) : Int × PD × Nat × Nat × Bool :=
  if bad = true then (5, p, next, many, bad) else if 60000 < rec.length then (3, p, next, many, bad)
  else if (lap1 p (frameB next rec)).2 = 0 then (0, (lap1 p (frameB next rec)).1, (next + 1) % 18446744073709551616, many + 1, false) else ((lap1 p (frameB next rec)).2, (lap1 p (frameB next rec)).1, next, many, true)
theorem frame_big {w : World} (q : Nat) (n : Nat) (h2 : 60000 < n) (sp : Option Addr) (cp : Nat) :
    Calls Try.prog 11 #[.int .u64 (q : Int), .slice sp n cp] w fun e W' => e = .returned (.tuple #[.slice none 0 0, .int .i64 3]) ∧ w = W' := by
  have h3 : (60000 : Int) < (n : Int) := by omega
  clear h2
  go_enter Try.func11, Try.ntmps11
  go_wp2
  go_ret2
  exact ⟨rfl, rfl⟩
/-- Frame under a disk kept in sight. -/
theorem dx_frame {ks : List (Nat × List Value)} {w W : World} {D : Nat} {p : PD} {xs : List (Nat × List Value)} (h : DX w W D p xs ks) (q : Nat) (hq : q < 18446744073709551616) (bs : List Int) (n : Nat) (hn : Hid (bs.length = n)) (h2 : n ≤ 60000) (hb : isB bs) (sp : Option Addr) (cp : Nat) (hS : SrcV W sp (bcl bs)) :
    Calls Try.prog 11 #[.int .u64 (q : Int), .slice sp n cp] W fun e W' => ∃ g, e = .returned (.tuple #[.slice (some ⟨g, 0, none⟩) (16 + n) (16 + n), .int .i64 0]) ∧ DX w W' D p ((g, bcl (frameB q bs)) :: xs) ks := by
  refine (frame_k q hq bs n hn h2 hb sp cp hS).mono ?_
  rintro e w' ⟨g, rfl, h3, h4, h5⟩
  exact ⟨g, rfl, dx_join (l := [(g, bcl (frameB q bs))]) h (blk_kr (kr_call (kr_refl W) h4) h5 h3 (by simp))⟩
theorem src_row {w W : World} {rs : List (Nat × List Value)} {g : Nat} {bs : List Int} (HK : KR w ((g, bcl bs) :: rs) W) : Src W (some ⟨g, 0, none⟩) bs := fun hl => by
  have := srcV_row (cs := bcl bs) (m := (bcl bs).length) HK (List.mem_cons_self) (List.take_of_length_le (Nat.le_refl _))
  exact this (by rw [bcl_len]; exact hl)
set_option maxRecDepth 100000 in
theorem lappend_k {ks : List (Nat × List Value)} {w W : World} {D G : Nat} {p : PD} {xs : List (Nat × List Value)} (next many : Nat) (bad : Bool) (h : DX w W D p ((G, lgc D next many bad) :: xs) ks) (hnext : next < 18446744073709551616) (hmany : many ≤ 1000000000) (bs : List Int) (n : Nat) (hn : Hid (bs.length = n)) (hb : isB bs) (sp : Option Addr) (cp : Nat) (hS : SrcV W sp (bcl bs)) :
    Calls Try.prog 25 #[.pointer (some ⟨G, 0, none⟩), .slice sp n cp] W fun e W' => e = .returned (.int .i64 (lapR p next many bad bs).1) ∧ DX w W' D (lapR p next many bad bs).2.1 ((G, lgc D (lapR p next many bad bs).2.2.1 (lapR p next many bad bs).2.2.2.1 (lapR p next many bad bs).2.2.2.2) :: xs) ks := by
  have hm := lmay_k next many bad (dx_kr h)
  have k1 := kr_cell (dx_kr h) 0 rfl 1 _ rfl
  have k0 := kr_cell (dx_kr h) 0 rfl 0 _ rfl
  unfold lapR
  cases bad with
  | true =>
    rw [if_pos rfl]
    have H : Hid (DX w W D p ((G, lgc D next many true) :: xs) ks) := h
    clear h hS k0 k1
    go_enter Try.func25, Try.ntmps25
    go_wp2_with (go_at_call 47; refine hm.mono ?_; rintro e w1 ⟨rfl, rfl⟩)
    go_ret
    exact ⟨rfl, H.out⟩
  | false =>
    rw [if_neg (by simp)]
    by_cases hbig : 60000 < bs.length
    · rw [if_pos hbig]
      have H : Hid (DX w W D p ((G, lgc D next many false) :: xs) ks) := h
      have hf := fun W => frame_big (w := W) next n (by rw [← hn.out]; exact hbig) sp cp
      clear h hS k0 hnext hmany hbig
      go_enter Try.func25, Try.ntmps25
      go_wp2_with (first | (go_at_call 47; refine hm.mono ?_; rintro e w1 ⟨rfl, rfl⟩) | (go_at_call 11; refine (hf _).mono ?_; rintro e w2 ⟨rfl, rfl⟩))
      go_ret
      exact ⟨rfl, H.out⟩
    · rw [if_neg hbig]
      have hf := dx_frame h next hnext bs n hn (by rw [← hn.out]; omega) hb sp cp hS
      have hni : (next : Int) < 18446744073709551616 := by omega
      have HN : Hid (next < 18446744073709551616 ∧ many ≤ 1000000000) := ⟨hnext, hmany⟩
      have hmi : (many : Int) ≤ 1000000000 := by omega
      unfold lap1
      have c1 := fun W1 g (H1 : DX w W1 D p ((g, bcl (frameB next bs)) :: (G, lgc D next many false) :: xs) ks) => dx_append H1 0 (frameB next bs) (16 + n) (by rw [frameB_len, hn.out]) (some ⟨g, 0, none⟩) (16 + n) (fun W2 H2 => src_row H2)
      have c2 := fun W1 g (H1 : DX w W1 D (pappD p 0 (frameB next bs)) ((g, bcl (frameB next bs)) :: (G, lgc D next many false) :: xs) ks) => dx_sync H1 0
      clear h hS hnext hmany hbig
      generalize psyncD (pappD p 0 (frameB next bs)) 0 = p2 at *
      generalize pchE (pappD p 0 (frameB next bs)) [0] = e2 at *
      generalize pappD p 0 (frameB next bs) = p1 at *
      generalize pappE p 0 (frameB next bs) = e1 at *
      generalize frameB next bs = fb at *
      by_cases h1 : e1 = 0
      · subst h1
        rw [if_pos rfl]
        by_cases h2 : e2 = 0
        · subst h2
          rw [if_pos rfl]
          go_enter Try.func25, Try.ntmps25
          go_wp2_with (first | (go_at_call 47; refine hm.mono ?_; rintro e w1 ⟨rfl, rfl⟩) | (go_at_call 11; refine hf.mono ?_; rintro e w2 ⟨g, rfl, H2⟩; have k2 := kr_cell (dx_kr H2) 1 rfl 0 _ rfl) | (go_at_call 37; refine (c1 _ _ H2).mono ?_; rintro e w3 ⟨rfl, H3⟩; have k4 := kr_cell (dx_kr H3) 1 rfl 0 _ rfl) | (go_at_call 48; refine (c2 _ _ H3).mono ?_; rintro e w5 ⟨rfl, H5⟩; have H4 := dx_sub H5 (List.sublist_cons_self _ _); clear H2 H3 H5 k2 k4; have k3 := kr_cell (dx_kr H4) 0 rfl 3 _ rfl; have f3 := kr_frozen (dx_kr H4) 0 rfl 3 (by show 3 < 4; omega); have k5 := kr_cell (dx_kr H4) 0 rfl 1 _ rfl; have f5 := kr_frozen (dx_kr H4) 0 rfl 1 (by show 1 < 4; omega); have k6 := kr_cell (dx_kr H4) 0 rfl 2 _ rfl; have f6 := kr_frozen (dx_kr H4) 0 rfl 2 (by show 2 < 4; omega)))
          go_ret
          have e1 : IntKind.u64.wrap ((next : Int) + 1) = (((next + 1) % 18446744073709551616 : Nat) : Int) := by rw [wrap_u64']; omega
          have e2 : ((many : Int) + 1) = ((many + 1 : Nat) : Int) := by omega
          refine ⟨rfl, ?_⟩
          have H5 := dx_fset H4 3 (by show 3 < 4; omega) (.bool false) _ rfl
          have H6 := dx_fset H5 1 (by show 1 < 4; omega) (.int .u64 (((next + 1) % 18446744073709551616 : Nat) : Int)) _ rfl
          have H7 := dx_fset H6 2 (by show 2 < 4; omega) (.int .i64 ((many + 1 : Nat) : Int)) _ rfl
          show DX w (((w5.setCell _ _).setCell _ (.int .u64 (IntKind.u64.wrap ((next : Int) + 1)))).setCell _ (.int .i64 ((many : Int) + 1))) D p2 _ ks
          rw [e1, e2]
          exact H7
        · rw [if_neg h2]
          have hb2 : (e2 == 0) = false := by simpa using h2
          have hb3 : (e2 != 0) = true := by simpa using h2
          go_enter Try.func25, Try.ntmps25
          go_wp2_with (first | (go_at_call 47; refine hm.mono ?_; rintro e w1 ⟨rfl, rfl⟩) | (go_at_call 11; refine hf.mono ?_; rintro e w2 ⟨g, rfl, H2⟩; have k2 := kr_cell (dx_kr H2) 1 rfl 0 _ rfl) | (go_at_call 37; refine (c1 _ _ H2).mono ?_; rintro e w3 ⟨rfl, H3⟩; have k4 := kr_cell (dx_kr H3) 1 rfl 0 _ rfl) | (go_at_call 48; refine (c2 _ _ H3).mono ?_; rintro e w5 ⟨rfl, H5⟩; have H4 := dx_sub H5 (List.sublist_cons_self _ _); clear H2 H3 H5 k2 k4; have k3 := kr_cell (dx_kr H4) 0 rfl 3 _ rfl; have f3 := kr_frozen (dx_kr H4) 0 rfl 3 (by show 3 < 4; omega)))
          go_ret
          exact ⟨rfl, dx_fset H4 3 (by show 3 < 4; omega) _ _ rfl⟩
      · rw [if_neg h1, if_neg h1]
        have hb1 : (e1 == 0) = false := by simpa using h1
        have hb3 : (e1 != 0) = true := by simpa using h1
        go_enter Try.func25, Try.ntmps25
        go_wp2_with (first | (go_at_call 47; refine hm.mono ?_; rintro e w1 ⟨rfl, rfl⟩) | (go_at_call 11; refine hf.mono ?_; rintro e w2 ⟨g, rfl, H2⟩; have k2 := kr_cell (dx_kr H2) 1 rfl 0 _ rfl) | (go_at_call 37; refine (c1 _ _ H2).mono ?_; rintro e w3 ⟨rfl, H3⟩; have H4 := dx_sub H3 (List.sublist_cons_self _ _); clear H2 H3 k2; have k3 := kr_cell (dx_kr H4) 0 rfl 3 _ rfl; have f3 := kr_frozen (dx_kr H4) 0 rfl 3 (by show 3 < 4; omega)))
        go_ret
        exact ⟨rfl, dx_fset H4 3 (by show 3 < 4; omega) _ _ rfl⟩
end Go.Proofs.Ytaonaifnaecpiaa.Own

namespace Go.Proofs.Ytaonaifnaecpiaa.Own
open Go.RowKit
set_option linter.unusedSimpArgs false
set_option linter.unusedVariables false
def lin1 (p : PD) (b : List Int) : PD × Int := if (pwr p 3 1 b).2 = 0 then (pclrD (pwr p 3 1 b).1 0, pchE (pwr p 3 1 b).1 [0]) else (pwr p 3 1 b)
def prev (next : Nat) : Nat := (next + 18446744073709551615) % 18446744073709551616
theorem prev_lt (n : Nat) : prev n < 18446744073709551616 := by unfold prev; omega
theorem prev_wrap (n : Nat) (h : n < 18446744073709551616) : IntKind.u64.wrap ((n : Int) - 1) = ((prev n : Nat) : Int) := by unfold prev; rw [wrap_u64']; omega
/-- Install: the answer, the disk, the number that comes, how many, whether it is bad. -/
def linR (p : PD) (next many : Nat) (bad : Bool) (rec : List Int) : Int × PD × Nat × Nat × Bool :=
  if bad = true then (5, p, next, many, bad) else if 60000 < rec.length then (3, p, next, many, bad)
  else if (lin1 p (frameB (prev next) rec)).2 = 0 then (0, (lin1 p (frameB (prev next) rec)).1, next, 0, false) else ((lin1 p (frameB (prev next) rec)).2, (lin1 p (frameB (prev next) rec)).1, next, many, true)
set_option maxRecDepth 100000 in
theorem linstall_k {ks : List (Nat × List Value)} {w W : World} {D G : Nat} {p : PD} {xs : List (Nat × List Value)} (next many : Nat) (bad : Bool) (h : DX w W D p ((G, lgc D next many bad) :: xs) ks) (hnext : next < 18446744073709551616) (hmany : many ≤ 1000000000) (bs : List Int) (n : Nat) (hn : Hid (bs.length = n)) (hb : isB bs) (sp : Option Addr) (cp : Nat) (hS : SrcV W sp (bcl bs)) :
    Calls Try.prog 26 #[.pointer (some ⟨G, 0, none⟩), .slice sp n cp] W fun e W' => e = .returned (.int .i64 (linR p next many bad bs).1) ∧ DX w W' D (linR p next many bad bs).2.1 ((G, lgc D (linR p next many bad bs).2.2.1 (linR p next many bad bs).2.2.2.1 (linR p next many bad bs).2.2.2.2) :: xs) ks := by
  have hm := lmay_k next many bad (dx_kr h)
  have k1 := kr_cell (dx_kr h) 0 rfl 1 _ rfl
  have k0 := kr_cell (dx_kr h) 0 rfl 0 _ rfl
  unfold linR
  cases bad with
  | true =>
    rw [if_pos rfl]
    have H : Hid (DX w W D p ((G, lgc D next many true) :: xs) ks) := h
    clear h hS k0 k1
    go_enter Try.func26, Try.ntmps26
    go_wp2_with (go_at_call 47; refine hm.mono ?_; rintro e w1 ⟨rfl, rfl⟩)
    go_ret
    exact ⟨rfl, H.out⟩
  | false =>
    rw [if_neg (by simp)]
    by_cases hbig : 60000 < bs.length
    · rw [if_pos hbig]
      have H : Hid (DX w W D p ((G, lgc D next many false) :: xs) ks) := h
      have hpw := prev_wrap next hnext
      have hf := fun W => frame_big (w := W) (prev next) n (by rw [← hn.out]; exact hbig) sp cp
      generalize prev next = nx at *
      clear h hS k0 hnext hmany hbig
      go_enter Try.func26, Try.ntmps26
      go_wp2_with (first | (go_at_call 47; refine hm.mono ?_; rintro e w1 ⟨rfl, rfl⟩) | (go_at_call 11; refine (hf _).mono ?_; rintro e w2 ⟨rfl, rfl⟩))
      go_ret
      exact ⟨rfl, H.out⟩
    · rw [if_neg hbig]
      have hf := dx_frame h (prev next) (prev_lt next) bs n hn (by rw [← hn.out]; omega) hb sp cp hS
      have hpw := prev_wrap next hnext
      have hni : (next : Int) < 18446744073709551616 := by omega
      unfold lin1
      have c1 := fun W1 g (H1 : DX w W1 D p ((g, bcl (frameB (prev next) bs)) :: (G, lgc D next many false) :: xs) ks) => write_k H1 3 1 (frameB (prev next) bs) (16 + n) (by rw [frameB_len, hn.out]) (some ⟨g, 0, none⟩) (16 + n) (fun W2 H2 => src_row H2)
      have c2 := fun W1 g (H1 : DX w W1 D (pwr p 3 1 (frameB (prev next) bs)).1 ((g, bcl (frameB (prev next) bs)) :: (G, lgc D next many false) :: xs) ks) => dx_clear H1 0
      clear h hS hnext hmany hbig
      generalize prev next = nx at *
      generalize pwr p 3 1 (frameB nx bs) = pe at *
      obtain ⟨p1, e1⟩ := pe
      simp only at *
      generalize pclrD p1 0 = p2 at *
      generalize pchE p1 [0] = e2 at *
      generalize frameB nx bs = fb at *
      by_cases h1 : e1 = 0
      · subst h1
        rw [if_pos rfl]
        by_cases h2 : e2 = 0
        · subst h2
          rw [if_pos rfl]
          go_enter Try.func26, Try.ntmps26
          go_wp2_with (first | (go_at_call 47; refine hm.mono ?_; rintro e w1 ⟨rfl, rfl⟩) | (go_at_call 11; refine hf.mono ?_; rintro e w2 ⟨g, rfl, H2⟩; have k2 := kr_cell (dx_kr H2) 1 rfl 0 _ rfl) | (go_at_call 46; refine (c1 _ _ H2).mono ?_; rintro e w3 ⟨rfl, H3⟩; have k4 := kr_cell (dx_kr H3) 1 rfl 0 _ rfl) | (go_at_call 49; refine (c2 _ _ H3).mono ?_; rintro e w5 ⟨rfl, H5⟩; have H4 := dx_sub H5 (List.sublist_cons_self _ _); clear H2 H3 H5 k2 k4; have k3 := kr_cell (dx_kr H4) 0 rfl 3 _ rfl; have f3 := kr_frozen (dx_kr H4) 0 rfl 3 (by show 3 < 4; omega); have k5 := kr_cell (dx_kr H4) 0 rfl 1 _ rfl; have f5 := kr_frozen (dx_kr H4) 0 rfl 1 (by show 1 < 4; omega); have k6 := kr_cell (dx_kr H4) 0 rfl 2 _ rfl; have f6 := kr_frozen (dx_kr H4) 0 rfl 2 (by show 2 < 4; omega)))
          go_ret
          have H5 := dx_fset H4 3 (by show 3 < 4; omega) (.bool false) _ rfl
          have H6 := dx_fset H5 2 (by show 2 < 4; omega) (.int .i64 0) _ rfl
          exact ⟨rfl, H6⟩
        · rw [if_neg h2]
          have hb2 : (e2 == 0) = false := by simpa using h2
          have hb3 : (e2 != 0) = true := by simpa using h2
          go_enter Try.func26, Try.ntmps26
          go_wp2_with (first | (go_at_call 47; refine hm.mono ?_; rintro e w1 ⟨rfl, rfl⟩) | (go_at_call 11; refine hf.mono ?_; rintro e w2 ⟨g, rfl, H2⟩; have k2 := kr_cell (dx_kr H2) 1 rfl 0 _ rfl) | (go_at_call 46; refine (c1 _ _ H2).mono ?_; rintro e w3 ⟨rfl, H3⟩; have k4 := kr_cell (dx_kr H3) 1 rfl 0 _ rfl) | (go_at_call 49; refine (c2 _ _ H3).mono ?_; rintro e w5 ⟨rfl, H5⟩; have H4 := dx_sub H5 (List.sublist_cons_self _ _); clear H2 H3 H5 k2 k4; have k3 := kr_cell (dx_kr H4) 0 rfl 3 _ rfl; have f3 := kr_frozen (dx_kr H4) 0 rfl 3 (by show 3 < 4; omega)))
          go_ret
          exact ⟨rfl, dx_fset H4 3 (by show 3 < 4; omega) _ _ rfl⟩
      · rw [if_neg h1, if_neg h1]
        have hb1 : (e1 == 0) = false := by simpa using h1
        have hb3 : (e1 != 0) = true := by simpa using h1
        go_enter Try.func26, Try.ntmps26
        go_wp2_with (first | (go_at_call 47; refine hm.mono ?_; rintro e w1 ⟨rfl, rfl⟩) | (go_at_call 11; refine hf.mono ?_; rintro e w2 ⟨g, rfl, H2⟩; have k2 := kr_cell (dx_kr H2) 1 rfl 0 _ rfl) | (go_at_call 46; refine (c1 _ _ H2).mono ?_; rintro e w3 ⟨rfl, H3⟩; have H4 := dx_sub H3 (List.sublist_cons_self _ _); clear H2 H3 k2; have k3 := kr_cell (dx_kr H4) 0 rfl 3 _ rfl; have f3 := kr_frozen (dx_kr H4) 0 rfl 3 (by show 3 < 4; omega)))
        go_ret
        exact ⟨rfl, dx_fset H4 3 (by show 3 < 4; omega) _ _ rfl⟩
end Go.Proofs.Ytaonaifnaecpiaa.Own
