/- What dayshift/log's frame does. No conditions beside those in each theorem. -/
import Derived.Test.YtaonaifnaecpiaaFr2
import Derived.Deep.RegionHeld3
namespace Go.Proofs.Ytaonaifnaecpiaa.Own
open Go.RowKit Go.Proofs.YtaonaifnaecpiaaW.PrintWords
set_option linter.unusedSimpArgs false
set_option linter.unusedVariables false
/-- The frame at the beginning of bytes: its number and its record. -/
def parse1 (bs : List Int) : Option (Nat × List Int) :=
  if bs.length < 16 then none
  else if 60000 < numB (bs.take 4) ∨ bs.length - 16 < numB (bs.take 4) then none
  else if numB (((bs.take (16 + numB (bs.take 4))).drop 4).take 4) = crc (nb ((bs.take (16 + numB (bs.take 4))).drop 8)) then some (numB (((bs.take (16 + numB (bs.take 4))).drop 8).take 8), (bs.take (16 + numB (bs.take 4))).drop 16)
  else none
def frameR : Option (Nat × List Int) → Nat × List Int × Bool
  | none => (0, [], false)
  | some (q, r) => (q, r, true)
theorem srcV_drop {W : World} {A : Addr} {bs : List Int} (h : SrcV W (some A) (bcl bs)) (k m : Nat) (hk : 0 < k) : SrcV W (some ⟨A.block, A.off + k, none⟩) (bcl ((bs.drop k).take m)) := fun hl => by
  rw [bcl_len, List.length_take, List.length_drop] at hl
  obtain ⟨B, hB, hc⟩ := h (by rw [bcl_len]; omega)
  injection hB with hB
  subst hB
  refine ⟨_, rfl, fun j v hv => ?_⟩
  have hj : j < m := by
    have := (List.getElem?_eq_some_iff.1 hv).1
    rw [bcl_len, List.length_take] at this
    omega
  have := hc (k + j) v (by
    unfold bcl at hv ⊢
    rw [List.getElem?_map, List.getElem?_take, if_pos hj, List.getElem?_drop] at hv
    rw [List.getElem?_map]
    exact hv)
  rw [← this]
  rw [Addr.add_mid]
  unfold Addr.add
  rw [if_neg (by omega)]
  congr 2
  omega
theorem srcV_take {W : World} {sp : Option Addr} {bs : List Int} (h : SrcV W sp (bcl bs)) (m : Nat) : SrcV W sp (bcl (bs.take m)) := fun hl => by
  rw [bcl_len, List.length_take] at hl
  obtain ⟨B, hB, hc⟩ := h (by rw [bcl_len]; omega)
  refine ⟨B, hB, fun j v hv => hc j v ?_⟩
  unfold bcl at hv ⊢
  rw [List.getElem?_map, List.getElem?_take] at hv
  rw [List.getElem?_map]
  split at hv
  · exact hv
  · cases hv
theorem isB_take {bs : List Int} (h : isB bs) (k : Nat) : isB (bs.take k) := fun b hb => h b (List.mem_of_mem_take hb)
theorem isB_drop {bs : List Int} (h : isB bs) (k : Nat) : isB (bs.drop k) := fun b hb => h b (List.mem_of_mem_drop hb)
theorem srcV_dropA {W : World} {A : Addr} {bs : List Int} (h : SrcV W (some A) (bcl bs)) (k c : Nat) (hk : 0 < k) (hc : bs.length ≤ c) : SrcV W (if c = k then some A else some ⟨A.block, A.off + k, none⟩) (bcl (bs.drop k)) := by
  split
  · intro hl
    rw [bcl_len, List.length_drop] at hl
    omega
  · have := srcV_drop h k bs.length hk
    rwa [List.take_of_length_le (by rw [List.length_drop]; omega)] at this
set_option maxRecDepth 100000 in
set_option maxHeartbeats 2000000 in
theorem fram_k {w : World} (bs : List Int) (n : Nat) (hn : Hid (bs.length = n)) (hb : isB bs) (h2 : n ≤ 140737488351232) (sp : Option Addr) (c : Nat) (hc : n ≤ c) (hS : SrcV w sp (bcl bs)) :
    Calls Try.prog 43 #[.slice sp n c] w fun e W' => ∃ v, e = .returned (.tuple #[.int .u64 (((frameR (parse1 bs)).1 : Nat) : Int), v, .bool (frameR (parse1 bs)).2.2]) ∧ Kd.R (Kd.int .u8) 5 W' w.heap.size (fun _ => True) v (frameR (parse1 bs)).2.1 ∧ Below w.heap.size w W' := by
  by_cases h16 : n < 16
  · have e : parse1 bs = none := by unfold parse1; rw [if_pos (by rw [hn.out]; exact h16)]
    rw [e]
    have hi : (n : Int) < 16 := by omega
    clear e h2 hS
    go_enter Try.func43, Try.ntmps43
    go_wp2
    refine bodyPost_ret (v := .tuple #[.int .u64 0, .slice none 0 0, .bool false]) (by simp [results, Try.results43, go_sem]) rfl ⟨_, rfl, Kd.R_nil _ _ _ _ _, Below.refl _ _⟩
  · obtain ⟨A, rfl⟩ : ∃ A, sp = some A := by
      obtain ⟨A, hA, _⟩ := hS (by rw [bcl_len, hn.out]; omega)
      exact ⟨A, hA⟩
    have g4 := get_k (w := w) (bs.take 4) 4 (by show _ = _; rw [List.length_take, hn.out]; omega) (isB_take hb 4) (by omega) (some A) c (srcV_take hS 4)
    have hm4 : numB (bs.take 4) < 4294967296 := by
      have := numB_lt (bs.take 4) (isB_take hb 4)
      rw [List.length_take, hn.out, Nat.min_eq_left (by omega)] at this
      exact this
    have hi : (16 : Int) ≤ (n : Int) := by omega
    have hic : (16 : Int) ≤ (c : Int) := by omega
    have hc16 : 16 ≤ c := by omega
    have hni : (n : Int) ≤ 140737488351232 := by omega
    have HS : Hid (SrcV w (some A) (bcl bs)) := hS
    have HB : Hid (isB bs) := hb
    have HP : Hid (parse1 bs = if 60000 < numB (bs.take 4) ∨ bs.length - 16 < numB (bs.take 4) then none else if numB (((bs.take (16 + numB (bs.take 4))).drop 4).take 4) = crc (nb ((bs.take (16 + numB (bs.take 4))).drop 8)) then some (numB (((bs.take (16 + numB (bs.take 4))).drop 8).take 8), (bs.take (16 + numB (bs.take 4))).drop 16) else none) := by
      show _ = _
      unfold parse1
      rw [if_neg (by rw [hn.out]; exact h16)]
    rw [hn.out] at HP
    generalize numB (bs.take 4) = m at g4 hm4 HP
    clear hS hb
    by_cases hbig : 60000 < m ∨ n - 16 < m
    · have e : parse1 bs = none := by rw [HP.out, if_pos hbig]
      rw [e]
      clear HP e
      by_cases hb1 : 60000 < m
      · have hb1i : (60000 : Int) < (m : Int) := by omega
        clear hbig hm4
        go_enter Try.func43, Try.ntmps43
        go_wp2_with (go_at_call 62; refine g4.mono ?_; rintro e w' ⟨rfl, rfl⟩)
        refine bodyPost_ret (v := .tuple #[.int .u64 0, .slice none 0 0, .bool false]) (by simp [results, Try.results43, go_sem]) rfl ⟨_, rfl, Kd.R_nil _ _ _ _ _, Below.refl _ _⟩
      · have hb1i : (m : Int) ≤ 60000 := by omega
        have hb2i : (n : Int) - 16 < (m : Int) := by omega
        have hwr : ((n : Int) - 16) % 18446744073709551616 = (n : Int) - 16 := by omega
        clear hbig hm4 hb1
        go_enter Try.func43, Try.ntmps43
        go_wp2_with (go_at_call 62; refine g4.mono ?_; rintro e w' ⟨rfl, rfl⟩)
        refine bodyPost_ret (v := .tuple #[.int .u64 0, .slice none 0 0, .bool false]) (by simp [results, Try.results43, go_sem]) rfl ⟨_, rfl, Kd.R_nil _ _ _ _ _, Below.refl _ _⟩
    · have hb1i : (m : Int) ≤ 60000 := by omega
      have hb2i : (m : Int) ≤ (n : Int) - 16 := by omega
      have hwr : ((n : Int) - 16) % 18446744073709551616 = (n : Int) - 16 := by omega
      rw [if_neg hbig] at HP
      obtain ⟨L, hL⟩ : ∃ L, L = 16 + m := ⟨_, rfl⟩
      have HL : Hid (L = 16 + m) := hL
      rw [← hL] at HP
      have hLi : (16 : Int) + (m : Int) = (L : Int) := by omega
      have hLn : (L : Int) ≤ (n : Int) := by omega
      have hLc : (L : Int) ≤ (c : Int) := by omega
      have hL16 : (16 : Int) ≤ (L : Int) := by omega
      clear hL hm4 hbig
      have hL4 : (4 : Int) ≤ (L : Int) := by omega
      have hL8 : (8 : Int) ≤ (L : Int) := by omega
      have hL8n : 8 ≤ L := by omega
      have hL16n : 16 ≤ L := by omega
      have hc4 : (4 : Int) ≤ (c : Int) := by omega
      have hc8 : (8 : Int) ≤ (c : Int) := by omega
      have hc4n : 4 ≤ c := by omega
      have hc8n : 8 ≤ c := by omega
      have hne4 : ¬ c = 4 := by omega
      have hne8 : ¬ c = 8 := by omega
      have g2 := get_k (w := w.drew) (((bs.take L).drop 4).take 4) 4 (by show _ = _; rw [List.length_take, List.length_drop, List.length_take, hn.out]; omega) (isB_take (isB_drop (isB_take HB.out L) 4) 4) (by omega) (some ⟨A.block, A.off + 4, none⟩) (c - 4) (srcV_keep (srcV_drop (srcV_take HS.out L) 4 4 (by omega)) (bw_drew (Below.refl _ _)))
      have hsum := sum_k (kr_refl w.drew) ((bs.take L).drop 8) (L - 8) (by show _ = _; rw [List.length_drop, List.length_take, hn.out]; omega) (isB_drop (isB_take HB.out L) 8) (by omega) (some ⟨A.block, A.off + 8, none⟩) (c - 8) (fun W1 H => srcV_keep (by
        have := srcV_drop (srcV_take HS.out L) 8 (L - 8) (by omega)
        rw [List.take_of_length_le (by rw [List.length_drop, List.length_take, hn.out]; omega)] at this
        exact srcV_keep this (bw_drew (Below.refl _ _))) H.below)
      have hy : crc (nb ((bs.take L).drop 8)) < 4294967296 := crc_lt _ (nb_lt (isB_drop (isB_take HB.out L) 8))
      have hwc := wrap_small _ hy
      generalize crc (nb ((bs.take L).drop 8)) = y at hsum hy hwc HP
      generalize numB (((bs.take L).drop 4).take 4) = x at g2 HP
      clear hy
      by_cases hxy : x = y
      · subst hxy
        rw [if_pos rfl] at HP
        rw [HP.out]
        clear HP
        by_cases hce : c = 16
        · subst hce
          obtain rfl : L = 16 := by omega
          · skip
            have hg9 := fun w1 (H1 : KR w.drew [] w1) => get_k (w := w1.drew) (((bs.take 16).drop 8).take 8) 8 (by show _ = _; rw [List.length_take, List.length_drop, List.length_take, hn.out]; omega) (isB_take (isB_drop (isB_take HB.out 16) 8) 8) (by omega) (some ⟨A.block, A.off + 8, none⟩) 8 (srcV_keep (srcV_drop (srcV_take HS.out 16) 8 8 (by omega)) (bw_drew (bw_step (bw_drew (Below.refl _ _)) H1.below)))
            have hlen : ((bs.take 16).drop 16).length = 0 := by rw [List.length_drop, List.length_take, hn.out]; omega
            have hcl := fun w1 (H1 : KR w.drew [] w1) => slices_Clone.calls (some A) 0 ((bs.take 16).drop 16) ((bs.take 16).drop 16) w1.drew (srcV_c rfl (by rw [hlen]; omega) (srcV_keep (fun hl => absurd hl (by rw [List.length_map, hlen]; omega)) (bw_drew (bw_step (bw_drew (Below.refl _ _)) H1.below)))) (by rw [hlen]; omega) (by unfold slices_Clone.f; rw [if_pos (by rw [hlen]; omega)])
            rw [hlen] at hcl
            have HB0 : Hid (Below w.heap.size w w.drew) := bw_drew (Below.refl _ _)
            generalize numB (((bs.take 16).drop 8).take 8) = q at hg9 ⊢
            generalize (bs.take 16).drop 16 = rc at hcl ⊢
            clear hlen HS HB
            go_enter Try.func43, Try.ntmps43
            go_wp2_with (go_at_call 62; refine g4.mono ?_; rintro e w' ⟨rfl, rfl⟩)
            go_region_held3 (fun _ => True) (trivial) (first | (go_at_call 62; refine g2.mono ?_; rintro e w' ⟨rfl, rfl⟩) | (go_at_call 16; refine hsum.mono ?_; rintro e w1 ⟨rfl, HK1⟩))
            clear g2 hsum hwc
            go_wp2_with fail
            go_region_held3 (fun _ => True) (trivial) (first | (go_at_call 62; refine (hg9 _ HK1).mono ?_; rintro e w' ⟨rfl, rfl⟩) | (go_at_call 63; refine (hcl _ HK1).mono ?_; rintro e w2 ⟨v0, rfl, hR, hBl⟩))
            go_wp2_with fail
            have hB1 := bw_drew (bw_step HB0.out HK1.below)
            refine bodyPost_ret (v := .tuple #[.int .u64 (q : Int), v0, .bool true]) (by simp [results, Try.results43, go_sem]) rfl ⟨_, rfl, Kd.R_lower hR hB1.size, bw_step hB1 hBl⟩
        · skip
          · skip
            have hg9 := fun w1 (H1 : KR w.drew [] w1) => get_k (w := w1.drew) (((bs.take L).drop 8).take 8) 8 (by show _ = _; rw [List.length_take, List.length_drop, List.length_take, hn.out]; omega) (isB_take (isB_drop (isB_take HB.out L) 8) 8) (by omega) (some ⟨A.block, A.off + 8, none⟩) (c - 8) (srcV_keep (srcV_drop (srcV_take HS.out L) 8 8 (by omega)) (bw_drew (bw_step (bw_drew (Below.refl _ _)) H1.below)))
            have hlen : ((bs.take L).drop 16).length = L - 16 := by rw [List.length_drop, List.length_take, hn.out]; omega
            have hcl := fun w1 (H1 : KR w.drew [] w1) => slices_Clone.calls (some ⟨A.block, A.off + 16, none⟩) (c - 16) ((bs.take L).drop 16) ((bs.take L).drop 16) w1.drew (srcV_c rfl (by rw [hlen]; omega) (srcV_keep (by have := srcV_drop (srcV_take HS.out L) 16 (L - 16) (by omega); rw [List.take_of_length_le (by rw [hlen]; omega)] at this; exact this) (bw_drew (bw_step (bw_drew (Below.refl _ _)) H1.below)))) (by rw [hlen]; omega) (by unfold slices_Clone.f; rw [if_pos (by rw [hlen]; omega)])
            rw [hlen] at hcl
            have HB0 : Hid (Below w.heap.size w w.drew) := bw_drew (Below.refl _ _)
            generalize numB (((bs.take L).drop 8).take 8) = q at hg9 ⊢
            generalize (bs.take L).drop 16 = rc at hcl ⊢
            clear hlen HS HB
            go_enter Try.func43, Try.ntmps43
            go_wp2_with (go_at_call 62; refine g4.mono ?_; rintro e w' ⟨rfl, rfl⟩)
            go_region_held3 (fun _ => True) (trivial) (first | (go_at_call 62; refine g2.mono ?_; rintro e w' ⟨rfl, rfl⟩) | (go_at_call 16; refine hsum.mono ?_; rintro e w1 ⟨rfl, HK1⟩))
            clear g2 hsum hwc
            go_wp2_with fail
            go_region_held3 (fun _ => True) (trivial) (first | (go_at_call 62; refine (hg9 _ HK1).mono ?_; rintro e w' ⟨rfl, rfl⟩) | (go_at_call 63; refine (hcl _ HK1).mono ?_; rintro e w2 ⟨v0, rfl, hR, hBl⟩))
            go_wp2_with fail
            have hB1 := bw_drew (bw_step HB0.out HK1.below)
            refine bodyPost_ret (v := .tuple #[.int .u64 (q : Int), v0, .bool true]) (by simp [results, Try.results43, go_sem]) rfl ⟨_, rfl, Kd.R_lower hR hB1.size, bw_step hB1 hBl⟩
      · rw [if_neg hxy] at HP
        rw [HP.out]
        have e1 : ((x : Int) == (y : Int)) = false := by simp; omega
        have e2 : ((x : Int) != (y : Int)) = true := by simp; omega
        clear HP hxy
        go_enter Try.func43, Try.ntmps43
        go_wp2_with (go_at_call 62; refine g4.mono ?_; rintro e w' ⟨rfl, rfl⟩)
        go_region_held3 (fun _ => True) (trivial) (first | (go_at_call 62; refine g2.mono ?_; rintro e w' ⟨rfl, rfl⟩) | (go_at_call 16; refine hsum.mono ?_; rintro e w1 ⟨rfl, HK1⟩))
        go_wp2_with fail
        refine bodyPost_ret (v := .tuple #[.int .u64 0, .slice none 0 0, .bool false]) (by simp [results, Try.results43, go_sem]) rfl ⟨_, rfl, Kd.R_nil _ _ _ _ _, bw_step (bw_drew (Below.refl _ _)) HK1.below⟩
def log_frame.f (l0 : List Int) : Option (Int × List Int × Bool) := if (∀ b ∈ l0, 0 ≤ b ∧ b < 256) ∧ l0.length ≤ 140737488351232 then some ((((frameR (parse1 l0)).1 : Nat) : Int), (frameR (parse1 l0)).2.1, (frameR (parse1 l0)).2.2) else none
theorem log_frame.calls (A0 : Option Addr) (c0 : Nat) (l0 : List Int) (r1 : Int) (r2 : List Int) (r3 : Bool) (w : World) (hr0 : Kd.C (Kd.int .u8) w A0 l0.length l0) (hc0 : l0.length ≤ c0) (h : log_frame.f l0 = some (r1, r2, r3)) :
    Calls Try.prog 43 #[.slice A0 l0.length c0] w fun e w' => ∃ v1_ : Value, e = .returned (.tuple #[.int .u64 r1, v1_, .bool r3]) ∧ Kd.R (Kd.int .u8) 5 w' w.heap.size (fun _ => True) v1_ r2 ∧ Below w.heap.size w w' := by
  unfold log_frame.f at h
  split at h
  · rename_i hb
    simp only [Option.some.injEq, Prod.mk.injEq] at h
    obtain ⟨rfl, rfl, rfl⟩ := h
    exact fram_k l0 l0.length rfl hb.1 hb.2 A0 c0 hc0 (c_srcV hr0)
  · cases h
end Go.Proofs.Ytaonaifnaecpiaa.Own
