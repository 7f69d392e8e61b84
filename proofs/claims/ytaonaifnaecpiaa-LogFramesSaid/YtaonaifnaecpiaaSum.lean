/- What dayshift/log's Sum does: CRC-32. No conditions beside those in each theorem. -/
import Derived.Test.YtaonaifnaecpiaaProg
import Derived.Test.YtaonaifnaecpiaaCrc
import Derived.Test.YtaonaifnaecpiaaLent
namespace Go.Proofs.Ytaonaifnaecpiaa.Own
open Go.RowKit
set_option linter.unusedSimpArgs false
theorem wrap_u32 (n : Int) : IntKind.u32.wrap n = n % 4294967296 := by simp [IntKind.wrap, IntKind.bits, IntKind.signed]
theorem bits_u32 (op : BinOp) (a b : Nat) : bits op .u32 (a : Int) (b : Int) = IntKind.u32.wrap ((match op with
    | .and => BitVec.ofNat 32 a &&& BitVec.ofNat 32 b
    | .or => BitVec.ofNat 32 a ||| BitVec.ofNat 32 b
    | .xor => BitVec.ofNat 32 a ^^^ BitVec.ofNat 32 b
    | _ => BitVec.ofNat 32 a &&& ~~~ BitVec.ofNat 32 b).toNat : Int) := by
  unfold bits
  rw [show (IntKind.u32).bits = 32 from rfl, BitVec.ofInt_natCast, BitVec.ofInt_natCast]
  rfl
theorem bits_xor32 (a b : Nat) (ha : a < 4294967296) (hb : b < 4294967296) : bits .xor .u32 (a : Int) (b : Int) = ((a ^^^ b : Nat) : Int) := by
  have hx : a ^^^ b < 2 ^ 32 := Nat.xor_lt_two_pow (by omega) (by omega)
  rw [bits_u32 _ a b, wrap_u32]
  simp only [BitVec.toNat_xor, BitVec.toNat_ofNat]
  rw [Nat.mod_eq_of_lt (by omega : a < 2 ^ 32), Nat.mod_eq_of_lt (by omega : b < 2 ^ 32)]
  omega
theorem bits_and1 (a : Nat) (ha : a < 4294967296) : bits .and .u32 (a : Int) 1 = ((a % 2 : Nat) : Int) := by
  have := bits_u32 .and a 1
  rw [show ((1 : Nat) : Int) = 1 from rfl] at this
  rw [this, wrap_u32]
  simp only [BitVec.toNat_and, BitVec.toNat_ofNat]
  rw [Nat.mod_eq_of_lt (by omega : a < 2 ^ 32), show 1 % 2 ^ 32 = 2 ^ 1 - 1 from rfl, Nat.and_two_pow_sub_one_eq_mod]
  omega
theorem bits_and15 (a : Nat) (ha : a < 4294967296) : bits .and .u32 (a : Int) 15 = ((a % 16 : Nat) : Int) := by
  have := bits_u32 .and a 15
  rw [show ((15 : Nat) : Int) = 15 from rfl] at this
  rw [this, wrap_u32]
  simp only [BitVec.toNat_and, BitVec.toNat_ofNat]
  rw [Nat.mod_eq_of_lt (by omega : a < 2 ^ 32), show 15 % 2 ^ 32 = 2 ^ 4 - 1 from rfl, Nat.and_two_pow_sub_one_eq_mod]
  omega
def citer : Nat → Nat → Nat
  | 0, n => n
  | j + 1, n => cstep (citer j n)
theorem citer_lt (j n : Nat) (h : n < 4294967296) : citer j n < 4294967296 := by
  induction j with
  | zero => exact h
  | succ j ih => exact cstep_lt _ ih
theorem citer4 (n : Nat) : citer 4 n = cstep4 n := rfl
def tabL (k : Nat) : List Value := (List.range 16).map (fun j => .int .u32 ((if j < k then cstep4 j else 0 : Nat) : Int))
theorem tabL_len (k : Nat) : (tabL k).length = 16 := by simp [tabL]
theorem tabL_get (k j : Nat) (hj : j < 16) : (tabL k)[j]? = some (.int .u32 ((if j < k then cstep4 j else 0 : Nat) : Int)) := by simp [tabL, hj]
theorem tabL_set (k : Nat) (hk : k < 16) : (tabL k).set k (.int .u32 (cstep4 k : Nat)) = tabL (k + 1) := by
  apply List.ext_getElem?
  intro j
  rw [List.getElem?_set]
  by_cases hj : j < 16
  · rw [tabL_get _ _ hj, tabL_get _ _ hj]
    by_cases e : k = j
    · subst e
      rw [if_pos rfl, if_pos (by rw [tabL_len]; exact hj), if_pos (by omega)]
    · rw [if_neg e]
      by_cases h2 : j < k
      · rw [if_pos h2, if_pos (by omega)]
      · rw [if_neg h2, if_neg (by omega)]
  · rw [List.getElem?_eq_none (by rw [tabL_len]; omega), List.getElem?_eq_none (by rw [tabL_len]; omega)]
    by_cases e : k = j
    · omega
    · rw [if_neg e]
theorem tab_zero : (Try.prog.info? 73).map (fun i => (i.zero, i.size)) = some (some (.agg (tabL 0).toArray), 16) := by
  have h0 : (tabL 0).toArray = #[.int .u32 0, .int .u32 0, .int .u32 0, .int .u32 0, .int .u32 0, .int .u32 0, .int .u32 0, .int .u32 0, .int .u32 0, .int .u32 0, .int .u32 0, .int .u32 0, .int .u32 0, .int .u32 0, .int .u32 0, .int .u32 0] := rfl
  have h1 : (Try.prog.info? 73).map (fun i => (i.zero, i.size)) = some (some (.agg #[.int .u32 0, .int .u32 0, .int .u32 0, .int .u32 0, .int .u32 0, .int .u32 0, .int .u32 0, .int .u32 0, .int .u32 0, .int .u32 0, .int .u32 0, .int .u32 0, .int .u32 0, .int .u32 0, .int .u32 0, .int .u32 0]), 16) := by kernel_rfl
  rw [h1, h0]
attribute [irreducible] tabL
theorem cstep_bits (s : Nat) (hs : s < 4294967296) : bits .xor .u32 ((s : Int) / 2) (3988292384 * bits .and .u32 (s : Int) 1 % 4294967296) = ((cstep s : Nat) : Int) := by
  rw [bits_and1 s hs, show ((s : Int) / 2) = ((s / 2 : Nat) : Int) from by omega]
  unfold cstep
  rcases Nat.mod_two_eq_zero_or_one s with h | h
  · rw [h, if_neg (by omega), show (3988292384 * ((0 : Nat) : Int) % 4294967296) = ((0 : Nat) : Int) from rfl, bits_xor32 _ _ (by omega) (by omega), Nat.xor_zero]
  · rw [h, if_pos rfl, show (3988292384 * ((1 : Nat) : Int) % 4294967296) = ((3988292384 : Nat) : Int) from rfl, bits_xor32 _ _ (by omega) (by omega)]
theorem half_step (s : Nat) (hs : s < 4294967296) : ∃ m : Nat, m < 16 ∧ bits .and .u32 (s : Int) 15 = (m : Int) ∧ bits .xor .u32 ((s : Int) / 16) ((cstep4 m : Nat) : Int) = ((cstep4 s : Nat) : Int) := by
  refine ⟨s % 16, by omega, bits_and15 s hs, ?_⟩
  have h1 : s % 16 < 16 := by omega
  have h2 := cstep4_lt (s % 16) (by omega)
  rw [show ((s : Int) / 16) = ((s / 16 : Nat) : Int) from by omega, bits_xor32 _ _ (by omega) h2, ← cstep4_table]
/-- Bytes as numbers. -/
def nb (bs : List Int) : List Nat := bs.map Int.toNat
def isB (bs : List Int) : Prop := ∀ b ∈ bs, 0 ≤ b ∧ b < 256
theorem nb_lt {bs : List Int} (h : isB bs) : ∀ c ∈ nb bs, c < 256 := by
  intro c hc
  simp only [nb, List.mem_map] at hc
  obtain ⟨b, hb, rfl⟩ := hc
  have := h b hb
  omega
theorem crcF_take {bs : List Int} (k : Nat) (hk : k < bs.length) (s : Nat) : crcF s (nb (bs.take (k + 1))) = cbyte (crcF s (nb (bs.take k))) (bs[k].toNat) := by
  rw [List.take_succ_eq_append_getElem hk]
  unfold nb crcF
  rw [List.map_append, List.foldl_append]
  rfl
set_option maxRecDepth 100000 in
set_option maxHeartbeats 2000000 in
theorem sum_k {w W : World} {rs : List (Nat × List Value)} (HK : KR w rs W) (bs : List Int) (n : Nat) (hn : Hid (bs.length = n)) (hb : isB bs) (h2 : n ≤ 9223372036854775807) (sp : Option Addr) (cp : Nat) (hS : ∀ W1, KR w rs W1 → SrcV W1 sp (bs.map (.int .u8))) :
    Calls Try.prog 16 #[.slice sp n cp] W fun e W' => e = .returned (.int .u32 ((crc (nb bs) : Nat) : Int)) ∧ KR w rs W' := by
  have HS : Hid (∀ W1, KR w rs W1 → SrcV W1 sp (bs.map (.int .u8))) := hS
  have HB : Hid (isB bs) := hb
  have h3 : (n : Int) ≤ 9223372036854775807 := by omega
  clear hS hb
  go_enter Try.func16, Try.ntmps16
  go_wp2_with ((with_reducible show wpList _ _ _ (Oper.mk _ (Op.alloc 73) _ _ _ _ :: _) _ _); refine wl_alloc 73 (tabL 0) 16 rfl rfl tab_zero ?_; have H1 := kr_new HK (tabL 0) 73)
  obtain ⟨T, hT⟩ : ∃ T, W.heap.size = T := ⟨_, rfl⟩
  rw [hT] at H1 ⊢
  generalize W.alloc (.cells (tabL 0).toArray 73) = W1 at H1 ⊢
  clear hT HK
  go_loopw [9] (fun v9 W => ∃ k : Nat, v9 = .int .i64 k ∧ k ≤ 16 ∧ KR w ((T, tabL k) :: rs) W) (fun v9 _ => 16 - (intOf v9).toNat)
  case atStart => exact ⟨0, rfl, by omega, H1⟩
  case round =>
    clear H1
    obtain ⟨k, rfl, hk, H1⟩ := hrel
    by_cases hlt : k < 16
    · have hk2 : (k : Int) < 16 := by omega
      go_wp2_with fail
      go_loop [5, 14] (fun v5 v14 => ∃ j : Nat, v14 = .int .i64 j ∧ j ≤ 4 ∧ v5 = .int .u32 ((citer j k : Nat) : Int)) (fun _ v14 => 4 - (intOf v14).toNat)
      case atStart => exact ⟨0, rfl, by omega, rfl⟩
      case round =>
        obtain ⟨j, rfl, hj, rfl⟩ := hrel
        by_cases hj4 : j < 4
        · have hj2 : (j : Int) < 4 := by omega
          go_wp2_with fail
          go_round
          case rel => exact ⟨j + 1, by go_num, by omega, by rw [cstep_bits _ (citer_lt j k (by omega))]; rfl⟩
          case measure => (simp [intOf]; try omega)
        · obtain rfl : j = 4 := by omega
          rw [citer4]
          have f0 := kr_frozen H1 0 rfl k (by rw [tabL_len]; exact hlt)
          have k0 := kr_cell H1 0 rfl k _ (tabL_get k k hlt)
          have H2 := kr_fset H1 0 rfl k (by rw [tabL_len]; exact hlt) (.int .u32 (cstep4 k : Nat)) _ (tabL_set k hlt)
          simp only [List.set_cons_zero] at H2
          have HH : Hid (KR w ((T, tabL (k + 1)) :: rs) (wr.setCell ⟨T, k, none⟩ (.int .u32 (cstep4 k : Nat)))) := H2
          rw [if_neg (Nat.lt_irrefl k)] at k0
          clear H1 H2
          go_wp2_with fail
          go_round
          case rel => exact ⟨k + 1, by simp, by omega, HH.out⟩
          case measure => (simp [intOf]; try omega)
    · obtain rfl : k = 16 := by omega
      have hcell : ∀ W1, KR w ((T, tabL 16) :: rs) W1 → ∀ j, j < 16 → W1.cell? ⟨T, j, none⟩ = some (.int .u32 ((cstep4 j : Nat) : Int)) := fun W1 H j hj => by
        have := kr_cell H 0 rfl j _ (tabL_get 16 j hj)
        rwa [if_pos hj] at this
      have HC : Hid (∀ j, j < 16 → wr.cell? ⟨T, j, none⟩ = some (.int .u32 ((cstep4 j : Nat) : Int))) := hcell _ H1
      have HS2 : Hid (SrcV wr sp (bs.map (.int .u8))) := HS.out _ (kr_tail H1)
      have HK : Hid (KR w rs wr) := kr_tail H1
      clear hcell H1
      go_wp2_with fail
      go_loop [6, 29] (fun v6 v29 => ∃ j : Nat, v29 = .int .i64 j ∧ j ≤ n ∧ v6 = .int .u32 ((crcF 4294967295 (nb (bs.take j)) : Nat) : Int)) (fun _ v29 => n - (intOf v29).toNat)
      case atStart => exact ⟨0, rfl, by omega, rfl⟩
      case round =>
        obtain ⟨j, rfl, hj, rfl⟩ := hrel
        by_cases hjn : j < n
        · have hjl : j < bs.length := by rw [hn.out]; exact hjn
          obtain ⟨A, hA, hc⟩ := HS2.out (by rw [List.length_map]; omega)
          subst hA
          have hcj := hc j (.int .u8 bs[j]) (by rw [List.getElem?_map, List.getElem?_eq_getElem hjl]; rfl)
          clear hc
          have hbj := HB.out bs[j] (List.getElem_mem hjl)
          have HT : Hid (crcF 4294967295 (nb (bs.take (j + 1))) = cbyte (crcF 4294967295 (nb (bs.take j))) (bs[j].toNat)) := crcF_take j hjl _
          have hsl : crcF 4294967295 (nb (bs.take j)) < 4294967296 := crcF_lt _ (nb_lt (fun b hb => HB.out b (List.mem_of_mem_take hb))) _ (by omega)
          obtain ⟨c, hcc⟩ : ∃ c : Nat, bs[j] = (c : Int) := ⟨bs[j].toNat, by omega⟩
          rw [hcc] at hcj HT hbj
          rw [Int.toNat_natCast] at HT
          have hc256 : c < 256 := by omega
          have hc256i : (c : Int) < 256 := by omega
          clear hcc hbj hjl
          generalize crcF 4294967295 (nb (bs.take j)) = s at hsl HT ⊢
          have x1 := bits_xor32 s c hsl (by omega)
          have l1 : s ^^^ c < 4294967296 := Nat.xor_lt_two_pow (n := 32) (by omega) (by omega)
          have HT2 : Hid (crcF 4294967295 (nb (bs.take (j + 1))) = cstep4 (cstep4 (s ^^^ c))) := HT.out
          clear HT
          generalize s ^^^ c = s1 at x1 l1 HT2
          obtain ⟨m1, hm1, a1, y1⟩ := half_step s1 l1
          have c1 := HC.out m1 hm1
          have l2 := cstep4_lt s1 l1
          generalize cstep4 s1 = s2 at y1 l2 HT2
          obtain ⟨m2, hm2, a2, y2⟩ := half_step s2 l2
          have c2 := HC.out m2 hm2
          generalize cstep4 s2 = s3 at y2 HT2
          have hm1i : (m1 : Int) < 16 := by omega
          have hm2i : (m2 : Int) < 16 := by omega
          go_wp2_with fail
          go_round
          case rel => exact ⟨j + 1, by go_num, by omega, by rw [HT2.out]⟩
          case measure => (simp [intOf]; try omega)
        · obtain rfl : j = n := by omega
          rw [List.take_of_length_le (by rw [hn.out]; omega)]
          have hsl : crcF 4294967295 (nb bs) < 4294967296 := crcF_lt _ (nb_lt HB.out) _ (by omega)
          have HE : Hid (crc (nb bs) = crcF 4294967295 (nb bs) ^^^ 4294967295) := rfl
          generalize crcF 4294967295 (nb bs) = s at hsl HE ⊢
          have hsg : IntKind.u32.signed = false := rfl
          have hmx : bits .xor .u32 IntKind.u32.max (s : Int) = ((s ^^^ 4294967295 : Nat) : Int) := by
            rw [show IntKind.u32.max = ((4294967295 : Nat) : Int) from rfl, bits_xor32 _ _ (by omega) hsl, Nat.xor_comm]
          go_wp2_with fail
          go_ret
          exact ⟨by rw [HE.out]; rfl, HK.out⟩
end Go.Proofs.Ytaonaifnaecpiaa.Own
