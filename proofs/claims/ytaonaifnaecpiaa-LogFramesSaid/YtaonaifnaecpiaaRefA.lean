/- What dayshiftref04's get and Sum do. No conditions beside those in each theorem. -/
import Derived.Test.YtaonaifnaecpiaaFr2
namespace Go.Proofs.Ytaonaifnaecpiaa.Own
open Go.RowKit Go.Proofs.YtaonaifnaecpiaaW.PrintWords
set_option linter.unusedSimpArgs false
set_option linter.unusedVariables false
set_option maxRecDepth 100000 in
theorem rget_k {w : World} (bs : List Int) (n : Nat) (hn : Hid (bs.length = n)) (hb : isB bs) (h2 : n ≤ 8) (sp : Option Addr) (cp : Nat) (hS : SrcV w sp (bcl bs)) :
    Calls Try.prog 64 #[.slice sp n cp] w fun e W' => e = .returned (.int .u64 ((numB bs : Nat) : Int)) ∧ w = W' := by
  have HS : Hid (SrcV w sp (bcl bs)) := hS
  have HB : Hid (isB bs) := hb
  have h3 : (n : Int) ≤ 8 := by omega
  clear hS hb
  go_enter Try.func64, Try.ntmps64
  go_wp2
  go_loop [3, 4] (fun v2 v7 => ∃ j : Nat, v7 = .int .i64 j ∧ j ≤ n ∧ v2 = .int .u64 ((numB (bs.take j) : Nat) : Int)) (fun _ v7 => n - (intOf v7).toNat)
  case atStart => exact ⟨0, rfl, by omega, rfl⟩
  case round =>
    obtain ⟨j, rfl, hj, rfl⟩ := hrel
    by_cases hjn : j < n
    · have hjl : j < bs.length := by rw [hn.out]; exact hjn
      obtain ⟨A, hA, hc⟩ := HS.out (by rw [bcl_len]; omega)
      subst hA
      have hcj := hc j (.int .u8 bs[j]) (by unfold bcl; rw [List.getElem?_map, List.getElem?_eq_getElem hjl]; rfl)
      clear hc
      have hbj := HB.out bs[j] (List.getElem_mem hjl)
      have HT : Hid (numB (bs.take (j + 1)) = numB (bs.take j) * 256 + (bs[j]).toNat) := by
        show _ = _
        rw [List.take_succ_eq_append_getElem hjl, numB_snoc]
      have hlt : numB (bs.take j) < 256 ^ j := by
        have := numB_lt (bs.take j) (fun b hb => HB.out b (List.mem_of_mem_take hb))
        rwa [List.length_take, Nat.min_eq_left (by omega)] at this
      have hlt7 : numB (bs.take j) < 72057594037927936 := Nat.lt_of_lt_of_le hlt (Nat.le_trans (Nat.pow_le_pow_right (by omega) (by omega : j ≤ 7)) (by decide))
      obtain ⟨c, hcc⟩ : ∃ c : Nat, bs[j] = (c : Int) := ⟨bs[j].toNat, by omega⟩
      rw [hcc] at hcj HT hbj
      rw [Int.toNat_natCast] at HT
      have hc256 : c < 256 := by omega
      have hc256i : (c : Int) < 256 := by omega
      clear hcc hbj hjl hlt
      generalize numB (bs.take j) = s at hlt7 HT ⊢
      have x1 : bits .or .u64 ((s : Int) * 256) (c : Int) = ((s * 256 + c : Nat) : Int) := by
        have := bits_or64 (s * 256) c (by omega) (by omega)
        rw [or_low s c hc256] at this
        rw [← this]; rfl
      have s7 : (s : Int) * 256 < 18446744073709551616 := by omega
      have Hs7 : Hid (s < 72057594037927936) := hlt7
      have hwr : (s : Int) * 256 % 18446744073709551616 = (s : Int) * 256 := by omega
      clear hlt7 s7
      go_wp2_with fail
      go_round
      case rel => exact ⟨j + 1, by go_num, by omega, by rw [HT.out]; go_num⟩
      case measure => (simp [intOf]; try omega)
    · obtain rfl : j = n := by omega
      rw [List.take_of_length_le (by rw [hn.out]; omega)]
      go_wp2_with fail
      go_ret
      exact ⟨rfl, rfl⟩
theorem cstep_if (s : Nat) (hs : s < 4294967296) : ((s : Int) % 2 = 1 ∧ bits .xor .u32 ((s : Int) / 2) 3988292384 = ((cstep s : Nat) : Int)) ∨ (¬ (s : Int) % 2 = 1 ∧ ((s : Int) / 2) = ((cstep s : Nat) : Int)) := by
  unfold cstep
  by_cases h : s % 2 = 1
  · refine .inl ⟨by omega, ?_⟩
    rw [if_pos h, ← bits_xor32 (s / 2) 3988292384 (by omega) (by omega)]
    rfl
  · refine .inr ⟨by omega, ?_⟩
    rw [if_neg h]
    omega
theorem citer8 (n : Nat) : citer 8 n = cstep4 (cstep4 n) := rfl
set_option maxRecDepth 100000 in
theorem rsum_k {W : World} (bs : List Int) (n : Nat) (hn : Hid (bs.length = n)) (hb : isB bs) (h2 : n ≤ 9223372036854775807) (sp : Option Addr) (cp : Nat) (hS : SrcV W sp (bcl bs)) :
    Calls Try.prog 17 #[.slice sp n cp] W fun e W' => e = .returned (.int .u32 ((crc (nb bs) : Nat) : Int)) ∧ W = W' := by
  have HS : Hid (SrcV W sp (bcl bs)) := hS
  have HB : Hid (isB bs) := hb
  have h3 : (n : Int) ≤ 9223372036854775807 := by omega
  clear hS hb h2
  go_enter Try.func17, Try.ntmps17
  go_wp2
  go_loop [3, 4] (fun v6 v29 => ∃ j : Nat, v29 = .int .i64 j ∧ j ≤ n ∧ v6 = .int .u32 ((crcF 4294967295 (nb (bs.take j)) : Nat) : Int)) (fun _ v29 => n - (intOf v29).toNat)
  case atStart => exact ⟨0, rfl, by omega, rfl⟩
  case round =>
    obtain ⟨j, rfl, hj, rfl⟩ := hrel
    by_cases hjn : j < n
    · have hjl : j < bs.length := by rw [hn.out]; exact hjn
      obtain ⟨A, hA, hc⟩ := HS.out (by rw [bcl_len]; omega)
      subst hA
      have hcj := hc j (.int .u8 bs[j]) (by unfold bcl; rw [List.getElem?_map, List.getElem?_eq_getElem hjl]; rfl)
      clear hc
      have hbj := HB.out bs[j] (List.getElem_mem hjl)
      have HT : Hid (crcF 4294967295 (nb (bs.take (j + 1))) = cbyte (crcF 4294967295 (nb (bs.take j))) (bs[j].toNat)) := crcF_take j hjl _
      have hsl : crcF 4294967295 (nb (bs.take j)) < 4294967296 := crcF_lt _ (nb_lt (fun b hb => HB.out b (List.mem_of_mem_take hb))) _ (by omega)
      obtain ⟨c, hcc⟩ : ∃ c : Nat, bs[j] = (c : Int) := ⟨bs[j].toNat, by omega⟩
      rw [hcc] at hcj HT hbj
      rw [Int.toNat_natCast] at HT
      have hc256 : c < 256 := by omega
      have hc256i : (c : Int) < 256 := by omega
      clear hcc hbj hjl
      generalize crcF 4294967295 (nb (bs.take j)) = s at hsl HT ⊢
      have x1 := bits_xor32 s c hsl (by omega)
      have l1 : s ^^^ c < 4294967296 := Nat.xor_lt_two_pow (n := 32) (by omega) (by omega)
      have HT2 : Hid (crcF 4294967295 (nb (bs.take (j + 1))) = cstep4 (cstep4 (s ^^^ c))) := HT.out
      clear HT
      generalize s ^^^ c = s1 at x1 l1 HT2
      have L1 : Hid (s1 < 4294967296) := l1
      clear l1 hsl
      go_wp2_with fail
      go_loop [3, 5] (fun v5 v14 => ∃ m : Nat, v14 = .int .i64 m ∧ m ≤ 8 ∧ v5 = .int .u32 ((citer m s1 : Nat) : Int)) (fun _ v14 => 8 - (intOf v14).toNat)
      case atStart => exact ⟨0, rfl, by omega, rfl⟩
      case round =>
        obtain ⟨m, rfl, hm, rfl⟩ := hrel
        by_cases hm8 : m < 8
        · have hm2 : (m : Int) < 8 := by omega
          have hl := citer_lt m s1 L1.out
          have hbt := bits_and1 (citer m s1) hl
          have HC : Hid (citer (m + 1) s1 = cstep (citer m s1)) := rfl
          have hcs := cstep_if (citer m s1) hl
          generalize citer m s1 = y at hbt HC hcs
          have hbt2 : bits .and .u32 (y : Int) 1 = (y : Int) % 2 := by rw [hbt]; omega
          clear hl hbt
          rcases hcs with ⟨h1, h2⟩ | ⟨h1, h2⟩
          · go_wp2_with fail
            go_round
            case rel => exact ⟨m + 1, by go_num, by omega, by rw [HC.out]⟩
            case measure => (simp [intOf]; try omega)
          · go_wp2_with fail
            go_round
            case rel => exact ⟨m + 1, by go_num, by omega, by rw [HC.out]⟩
            case measure => (simp [intOf]; try omega)
        · obtain rfl : m = 8 := by omega
          rw [citer8]
          go_wp2_with fail
          go_round
          case rel => exact ⟨j + 1, by go_num, by omega, by rw [HT2.out]⟩
          case measure => (simp [intOf]; try omega)
    · obtain rfl : j = n := by omega
      rw [List.take_of_length_le (by rw [hn.out]; omega)]
      have hsl : crcF 4294967295 (nb bs) < 4294967296 := crcF_lt _ (nb_lt HB.out) _ (by omega)
      have HE : Hid (crc (nb bs) = crcF 4294967295 (nb bs) ^^^ 4294967295) := rfl
      generalize crcF 4294967295 (nb bs) = s at hsl HE ⊢
      have hmx : bits .xor .u32 (s : Int) 4294967295 = ((s ^^^ 4294967295 : Nat) : Int) := by
        rw [← bits_xor32 _ _ hsl (by omega)]; rfl
      go_wp2_with fail
      go_ret
      exact ⟨by rw [HE.out]; rfl, rfl⟩
end Go.Proofs.Ytaonaifnaecpiaa.Own
