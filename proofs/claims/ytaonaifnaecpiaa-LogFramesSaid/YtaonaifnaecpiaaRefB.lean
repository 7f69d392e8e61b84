/- What dayshiftref04's put, one and Frame do. No conditions beside those in each theorem. -/
import Derived.Test.YtaonaifnaecpiaaRefA
import Derived.Test.YtaonaifnaecpiaaScan
namespace Go.Proofs.Ytaonaifnaecpiaa.Own
open Go.RowKit Go.Proofs.YtaonaifnaecpiaaW.PrintWords
set_option linter.unusedSimpArgs false
set_option linter.unusedVariables false
set_option maxRecDepth 100000 in
theorem rput_k {w : World} (v : Nat) (hv : v < 18446744073709551616) (m : Nat) (hm : m ≤ 8) :
    Calls Try.prog 42 #[.int .u64 (v : Int), .int .i64 (m : Int)] w fun e W' => ∃ u, e = .returned u ∧ KR w [] W' ∧ Own w [] 5 1 u m (bcl (be m v)) W' := by
  have hmi : (m : Int) ≤ 8 := by omega
  have HV : Hid (v < 18446744073709551616) := hv
  clear hv
  go_enter Try.func42, Try.ntmps42
  go_wp2
  go_loopw [5, 6] (fun v5 v6 W => ∃ (k : Nat) (P : List Int), k ≤ m ∧ v6 = .int .i64 ((k : Int) - 1) ∧ P.length = m - k ∧ P ++ be k v = be m v ∧ KR w [] W ∧ Own w [] 5 1 v5 (m - k) (bcl P) W) (fun _ v6 _ => (intOf v6 + 1).toNat)
  case atStart => exact ⟨m, [], Nat.le_refl _, rfl, by simp, rfl, kr_refl _, by rw [Nat.sub_self]; exact own_nil _ _ _ _ _⟩
  case round =>
    obtain ⟨k, P, hk, rfl, hP, hPe, HK, HO⟩ := hrel
    obtain ⟨sx, cx, rfl⟩ := own_form HO
    cases k with
    | zero =>
      rw [Nat.sub_zero] at HO hP ⊢
      have e : bcl P = bcl (be m v) := by rw [← hPe]; simp [be]
      rw [e] at HO
      have HO2 : Hid (Own w [] 5 1 (Value.slice sx m cx) m (bcl (be m v)) wr) := HO
      clear HO
      go_wp2_with fail
      refine bodyPost_ret (v := .slice sx m cx) (by simp [results, Try.results42, go_sem]) rfl ⟨_, rfl, HK, HO2.out⟩
    | succ k =>
      have h0 : (0 : Int) ≤ ((k + 1 : Nat) : Int) - 1 := by omega
      go_wp2_with (at_builtin; refine wl_appendK _ _ 23 5 (.int .u8 0) 1 1 (kr_alloc HK _) (own_alloc HO _) _ 1 1 [_] (srcV_built _ _ _) rfl (by intro v hv; rw [List.mem_singleton.1 hv]; rfl) (by unfold maxLen; omega) (by omega) Try.underlying23 lu8_info rfl (by omega) rfl rfl (by rfl) (by rfl) (fun v' W' O2 H2 hz => ?_); clear HK HO; obtain ⟨s4, c4, rfl⟩ := own_form O2)
      have hb : be (k + 1) v = (((v / 2 ^ (8 * k) % 256 : Nat) : Int)) :: be k v := by
        rw [be_cons, Nat.pow_mul]
      have hx : ((v : Int) / 2 ^ (8 * k) % 256) = ((v / 2 ^ (8 * k) % 256 : Nat) : Int) := by
        simp only [Int.natCast_ediv, Int.natCast_emod, Int.natCast_pow]; rfl
      rw [hx] at O2
      refine ⟨⟨k, P ++ [(((v / 2 ^ (8 * k) % 256 : Nat) : Int))], by omega, rfl, by rw [List.length_append, hP]; simp; omega, by rw [List.append_assoc, List.singleton_append, ← hb]; exact hPe, H2, ?_⟩, ?_⟩
      · rw [show m - k = m - (k + 1) + 1 from by omega]
        have e : bcl (P ++ [(((v / 2 ^ (8 * k) % 256 : Nat) : Int))]) = bcl P ++ [.int .u8 ((v / 2 ^ (8 * k) % 256 : Nat) : Int)] := by simp [bcl]
        rw [e]
        exact O2
      · simp only [intOf]; omega
def oneN : Option (Nat × List Int) → Nat
  | none => 0
  | some (_, r) => 16 + r.length
set_option maxRecDepth 100000 in
set_option maxHeartbeats 2000000 in
theorem rone_k {w : World} (bs : List Int) (n : Nat) (hn : Hid (bs.length = n)) (hb : isB bs) (h2 : n ≤ 140737488351232) (sp : Option Addr) (c : Nat) (hc : n ≤ c) (hS : SrcV w sp (bcl bs)) :
    Calls Try.prog 44 #[.slice sp n c] w fun e W' => ∃ v l, e = .returned (.tuple #[.int .u64 (((frameR (parse1 bs)).1 : Nat) : Int), v, .int .i64 ((oneN (parse1 bs) : Nat) : Int)]) ∧ KR w l W' ∧ FC l v (frameR (parse1 bs)).2.1 := by
  by_cases h16 : n < 16
  · have e : parse1 bs = none := by unfold parse1; rw [if_pos (by rw [hn.out]; exact h16)]
    rw [e]
    have hi : (n : Int) < 16 := by omega
    clear e h2 hS
    go_enter Try.func44, Try.ntmps44
    go_wp2
    refine bodyPost_ret (v := .tuple #[.int .u64 0, .slice none 0 0, .int .i64 0]) (by simp [results, Try.results44, go_sem]) rfl ⟨_, [], rfl, kr_refl _, .inl ⟨rfl, rfl⟩⟩
  · obtain ⟨A, rfl⟩ : ∃ A, sp = some A := by
      obtain ⟨A, hA, _⟩ := hS (by rw [bcl_len, hn.out]; omega)
      exact ⟨A, hA⟩
    have g4 := rget_k (w := w) (bs.take 4) 4 (by show _ = _; rw [List.length_take, hn.out]; omega) (isB_take hb 4) (by omega) (some A) c (srcV_take hS 4)
    have hm4 : numB (bs.take 4) < 4294967296 := by
      have := numB_lt (bs.take 4) (isB_take hb 4)
      rw [List.length_take, hn.out, Nat.min_eq_left (by omega)] at this
      exact this
    have hi : (16 : Int) ≤ (n : Int) := by omega
    have hic : (16 : Int) ≤ (c : Int) := by omega
    have hc16 : 16 ≤ c := by omega
    have hni : (n : Int) ≤ 140737488351232 := by omega
    have HS : Hid (SrcV w (some A) (bcl bs)) := hS
    have HB : Hid (isB bs) := hb
    have HP : Hid (parse1 bs = if 60000 < numB (bs.take 4) ∨ bs.length - 16 < numB (bs.take 4) then none else if numB (((bs.take (16 + numB (bs.take 4))).drop 4).take 4) = crc (nb ((bs.take (16 + numB (bs.take 4))).drop 8)) then some (numB (((bs.take (16 + numB (bs.take 4))).drop 8).take 8), (bs.take (16 + numB (bs.take 4))).drop 16) else none) := by
      show _ = _
      unfold parse1
      rw [if_neg (by rw [hn.out]; exact h16)]
    rw [hn.out] at HP
    generalize numB (bs.take 4) = m at g4 hm4 HP
    clear hS hb
    by_cases hbig : 60000 < m ∨ n - 16 < m
    · have e : parse1 bs = none := by rw [HP.out, if_pos hbig]
      rw [e]
      clear HP e
      by_cases hb1 : 60000 < m
      · have hb1i : (60000 : Int) < (m : Int) := by omega
        clear hbig hm4
        go_enter Try.func44, Try.ntmps44
        go_wp2_with (go_at_call 64; refine g4.mono ?_; rintro e w' ⟨rfl, rfl⟩)
        refine bodyPost_ret (v := .tuple #[.int .u64 0, .slice none 0 0, .int .i64 0]) (by simp [results, Try.results44, go_sem]) rfl ⟨_, [], rfl, kr_refl _, .inl ⟨rfl, rfl⟩⟩
      · have hb1i : (m : Int) ≤ 60000 := by omega
        have hb2i : (n : Int) - 16 < (m : Int) := by omega
        have hwr : ((n : Int) - 16) % 18446744073709551616 = (n : Int) - 16 := by omega
        clear hbig hm4 hb1
        go_enter Try.func44, Try.ntmps44
        go_wp2_with (go_at_call 64; refine g4.mono ?_; rintro e w' ⟨rfl, rfl⟩)
        refine bodyPost_ret (v := .tuple #[.int .u64 0, .slice none 0 0, .int .i64 0]) (by simp [results, Try.results44, go_sem]) rfl ⟨_, [], rfl, kr_refl _, .inl ⟨rfl, rfl⟩⟩
    · have hb1i : (m : Int) ≤ 60000 := by omega
      have hb2i : (m : Int) ≤ (n : Int) - 16 := by omega
      have hwr : ((n : Int) - 16) % 18446744073709551616 = (n : Int) - 16 := by omega
      rw [if_neg hbig] at HP
      obtain ⟨L, hL⟩ : ∃ L, L = 16 + m := ⟨_, rfl⟩
      have HL : Hid (L = 16 + m) := hL
      rw [← hL] at HP
      have hLi : (16 : Int) + (m : Int) = (L : Int) := by omega
      have hLn : (L : Int) ≤ (n : Int) := by omega
      have hLc : (L : Int) ≤ (c : Int) := by omega
      have hL16 : (16 : Int) ≤ (L : Int) := by omega
      clear hL hm4 hbig
      have hL4 : (4 : Int) ≤ (L : Int) := by omega
      have hL8 : (8 : Int) ≤ (L : Int) := by omega
      have hL8n : 8 ≤ L := by omega
      have hL16n : 16 ≤ L := by omega
      have hc4 : (4 : Int) ≤ (c : Int) := by omega
      have hc8 : (8 : Int) ≤ (c : Int) := by omega
      have hc4n : 4 ≤ c := by omega
      have hc8n : 8 ≤ c := by omega
      have hne4 : ¬ c = 4 := by omega
      have hne8 : ¬ c = 8 := by omega
      have g2 := rget_k (w := w.drew) (((bs.take L).drop 4).take 4) 4 (by show _ = _; rw [List.length_take, List.length_drop, List.length_take, hn.out]; omega) (isB_take (isB_drop (isB_take HB.out L) 4) 4) (by omega) (some ⟨A.block, A.off + 4, none⟩) (c - 4) (srcV_keep (srcV_drop (srcV_take HS.out L) 4 4 (by omega)) (bw_drew (Below.refl _ _)))
      have hs8 : SrcV w (some ⟨A.block, A.off + 8, none⟩) (bcl ((bs.take L).drop 8)) := by
        have := srcV_drop (srcV_take HS.out L) 8 (L - 8) (by omega)
        rwa [List.take_of_length_le (by rw [List.length_drop, List.length_take, hn.out]; omega)] at this
      have hsum := rsum_k (W := w.drew) ((bs.take L).drop 8) (L - 8) (by show _ = _; rw [List.length_drop, List.length_take, hn.out]; omega) (isB_drop (isB_take HB.out L) 8) (by omega) (some ⟨A.block, A.off + 8, none⟩) (c - 8) (srcV_keep hs8 (bw_drew (Below.refl _ _)))
      have hy : crc (nb ((bs.take L).drop 8)) < 4294967296 := crc_lt _ (nb_lt (isB_drop (isB_take HB.out L) 8))
      have hwc := wrap_small _ hy
      clear hs8
      generalize crc (nb ((bs.take L).drop 8)) = y at hsum hy hwc HP
      generalize numB (((bs.take L).drop 4).take 4) = x at g2 HP
      clear hy
      by_cases hxy : x = y
      · subst hxy
        rw [if_pos rfl] at HP
        rw [HP.out]
        clear HP
        have hg9 := fun (W1 : World) (H1 : KR w [] W1) => rget_k (w := W1) (((bs.take L).drop 8).take 8) 8 (by show _ = _; rw [List.length_take, List.length_drop, List.length_take, hn.out]; omega) (isB_take (isB_drop (isB_take HB.out L) 8) 8) (by omega) (some ⟨A.block, A.off + 8, none⟩) (c - 8) (srcV_keep (srcV_drop (srcV_take HS.out L) 8 8 (by omega)) H1.below)
        have hlen : Hid (((bs.take L).drop 16).length = L - 16) := by show _ = _; rw [List.length_drop, List.length_take, hn.out]; omega
        have hsr : SrcV w (some ⟨A.block, A.off + 16, none⟩) (bcl ((bs.take L).drop 16)) := by
          have := srcV_drop (srcV_take HS.out L) 16 (L - 16) (by omega)
          rwa [List.take_of_length_le (by rw [hlen.out]; omega)] at this
        have hsr : SrcV w.drew (some ⟨A.block, A.off + 16, none⟩) (bcl ((bs.take L).drop 16)) := srcV_keep hsr (bw_drew (Below.refl _ _))
        have hs0 : ∀ sp', L = 16 → SrcV w.drew sp' (bcl ((bs.take L).drop 16)) := fun sp' h h1 => absurd h1 (by rw [bcl_len, hlen.out]; omega)
        have h6 : Hid (L ≤ 60016) := by show _ ≤ _; have := HL.out; omega
        have h32 : 16 + (L - 16) = L := by omega
        generalize numB (((bs.take L).drop 8).take 8) = q at hg9 ⊢
        generalize (bs.take L).drop 16 = rc at hlen hsr hs0 ⊢
        clear HS HB HL
        by_cases hce : c = 16
        · subst hce
          obtain rfl : L = 16 := by omega
          go_enter Try.func44, Try.ntmps44
          go_wp2_with (go_at_call 64; refine g4.mono ?_; rintro e w' ⟨rfl, rfl⟩)
          go_region_held3 (fun _ => True) (trivial) (first | (go_at_call 64; refine g2.mono ?_; rintro e w' ⟨rfl, rfl⟩) | (go_at_call 17; refine hsum.mono ?_; rintro e w1 ⟨rfl, rfl⟩))
          clear g2 hsum hwc
          have hg9 := hg9 _ (kr_drew (kr_refl w))
          have hrc : rc = [] := List.eq_nil_of_length_eq_zero (by rw [hlen.out])
          go_wp2_with (go_at_call 64; refine hg9.mono ?_; rintro e w' ⟨rfl, rfl⟩)
          refine bodyPost_ret (v := .tuple #[.int .u64 (q : Int), .slice none 0 0, .int .i64 16]) (by simp [results, Try.results44, go_sem]) rfl ⟨_, [], ?_, kr_drew (kr_refl w), .inl ⟨rfl, hrc⟩⟩
          rw [hrc]; rfl
        · skip
          go_enter Try.func44, Try.ntmps44
          go_wp2_with (go_at_call 64; refine g4.mono ?_; rintro e w' ⟨rfl, rfl⟩)
          go_region_held3 (fun _ => True) (trivial) (first | (go_at_call 64; refine g2.mono ?_; rintro e w' ⟨rfl, rfl⟩) | (go_at_call 17; refine hsum.mono ?_; rintro e w1 ⟨rfl, rfl⟩))
          clear g2 hsum hwc
          go_wp2_with (first | (at_builtin; refine wl_appendK _ _ 23 5 (.int .u8 0) 1 1 (kr_drew (kr_refl w)) (own_nil _ _ _ _ _) (some ⟨A.block, A.off + 16, none⟩) (L - 16) (c - 16) (bcl rc) hsr (by rw [bcl_len, hlen.out, Nat.mul_one]) (bcl_one _) (by have := h6.out; unfold maxLen; omega) (by have := h6.out; omega) Try.underlying23 lu8_info rfl (by omega) rfl rfl (by rfl) (by rfl) (fun v' W' O2 H2 hz => ?_)) | (go_at_call 64; refine (hg9 _ H2).mono ?_; rintro e w' ⟨rfl, rfl⟩))
          obtain ⟨l, HL2, HC2⟩ := own_settle H2 O2
          rw [List.nil_append, Nat.zero_add] at HC2
          refine bodyPost_ret (v := .tuple #[.int .u64 (q : Int), v', .int .i64 (L : Int)]) (by simp [results, Try.results44, go_sem]) rfl ⟨_, l ++ [], ?_, HL2, sc_fc hlen.out (sc_mono HC2 (fun p hp => List.mem_append_left _ hp))⟩
          show _ = _
          simp only [oneN, frameR, hlen.out]
          rw [h32]
      · rw [if_neg hxy] at HP
        rw [HP.out]
        have e1 : ((y : Int) == (x : Int)) = false := by simp; omega
        have e2 : ((y : Int) != (x : Int)) = true := by simp; omega
        clear HP hxy
        go_enter Try.func44, Try.ntmps44
        go_wp2_with (go_at_call 64; refine g4.mono ?_; rintro e w' ⟨rfl, rfl⟩)
        go_region_held3 (fun _ => True) (trivial) (first | (go_at_call 64; refine g2.mono ?_; rintro e w' ⟨rfl, rfl⟩) | (go_at_call 17; refine hsum.mono ?_; rintro e w1 ⟨rfl, rfl⟩))
        go_wp2_with fail
        refine bodyPost_ret (v := .tuple #[.int .u64 0, .slice none 0 0, .int .i64 0]) (by simp [results, Try.results44, go_sem]) rfl ⟨_, [], rfl, kr_drew (kr_refl _), .inl ⟨rfl, rfl⟩⟩
end Go.Proofs.Ytaonaifnaecpiaa.Own
