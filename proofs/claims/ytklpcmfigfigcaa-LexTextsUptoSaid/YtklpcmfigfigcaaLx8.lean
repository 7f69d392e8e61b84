/- dayshift/lex's number. No conditions beside those in each theorem. -/
import Derived.Test.YtklpcmfigfigcaaLx7
import Derived.Deep.DeepCutAuto
namespace Go.Proofs.Ytklpcmfigfigcaa.Own
open Go.RowKit Go.Proofs.YtklpcmfigfigcaaW.PrintWords Go.Proofs.Ytklpcmfigfigcaa.Pk
set_option linter.unusedSimpArgs false
set_option linter.unusedVariables false
set_option maxHeartbeats 4000000 in
set_option maxRecDepth 100000 in
theorem number_kB1 (s : ByteArray) (hs : s.size ≤ 100000) (hN : runN isDg (bytesOf s) ≠ 2) (hA : ¬ (runN isDg (bytesOf s) = 2 ∧ (bytesOf s)[2]? = some 58)) (w : World) : Calls Try.prog 29 #[.string s] w fun e W' => e = .returned (.tuple #[.agg #[.int .i64 (numR (bytesOf s)).1, .string (strOfNums (numR (bytesOf s)).2.1), .int .i64 (numR (bytesOf s)).2.2.1, .int .i64 0], .bool (numR (bytesOf s)).2.2.2]) ∧ Below w.heap.size w W' := by
  have hr := fun W => run_num s W (by omega)
  have hl := runN_le isDg (bytesOf s)
  rw [bytesOf_length] at hl
  have HN0 := numR_eq (bytesOf s)
  rw [bytesOf_length] at HN0
  generalize hn : runN isDg (bytesOf s) = n at hr hl HN0 hA hN
  have hni : (n : Int) ≤ (s.size : Int) := by omega
  have hsi : (s.size : Int) ≤ 100000 := by omega
  have HS : Hid (s.size ≤ 100000) := hs
  have HRN : Hid (runN isDg (bytesOf s) = n) := hn
  have K0 := kr_new (kr_refl w) [.int .i64 0, .string ⟨#[]⟩, .int .i64 0, .int .i64 0] 28
  clear hn hs
  go_enter Try.func29, Try.ntmps29
  go_upto_region 3 with (go_at_call 24; refine (hr _).mono ?_; rintro e w1 ⟨rfl, HB1⟩; have K1 := kr_call K0 HB1)
  have K2 := kr_new K1 [.int .i64 2, .string ⟨#[]⟩, .int .i64 0, .int .i64 0] 28
  clear hr K0 HB1 K1
  generalize w1.alloc (.cells [.int .i64 2, .string ⟨#[]⟩, .int .i64 0, .int .i64 0].toArray 28) = W2 at K2
  generalize w1.heap.size = b at K2
  · rw [if_neg hA] at HN0
    have hA2 : ∀ hlt : 2 < s.size, n = 2 → ¬ ((s[2]'hlt).toNat : Int) = 58 := fun hlt h2 h => hA ⟨h2, by rw [bytes_get s 2 hlt, h]⟩
    clear hA
    by_cases h9b : 9 < n
    · rw [if_pos h9b] at HN0
      have HR : Hid (numR (bytesOf s) = (2, [], 0, false)) := HN0
      have hn2i : ¬ (n : Int) = 2 := by omega
      have hn2b : ((n : Int) == 2) = false := by rw [beq_eq_false_iff_ne]; exact hn2i
      have h9i : (9 : Int) < (n : Int) := by omega
      have HB : Hid (Below w.heap.size w W2) := K2.below
      have c0 := kr_cell K2 0 rfl 0 _ rfl
      have g0 := kr_frozen K2 0 rfl 0 (by simp)
      have c1 := kr_cell K2 0 rfl 1 _ rfl
      have g1 := kr_frozen K2 0 rfl 1 (by simp)
      have c2 := kr_cell K2 0 rfl 2 _ rfl
      have g2 := kr_frozen K2 0 rfl 2 (by simp)
      have c3 := kr_cell K2 0 rfl 3 _ rfl
      have g3 := kr_frozen K2 0 rfl 3 (by simp)
      have d0 := kr_cell K2 1 rfl 0 _ rfl
      have h0 := kr_frozen K2 1 rfl 0 (by simp)
      have d1 := kr_cell K2 1 rfl 1 _ rfl
      have h1 := kr_frozen K2 1 rfl 1 (by simp)
      have d2 := kr_cell K2 1 rfl 2 _ rfl
      have h2 := kr_frozen K2 1 rfl 2 (by simp)
      have d3 := kr_cell K2 1 rfl 3 _ rfl
      have h3 := kr_frozen K2 1 rfl 3 (by simp)
      clear K2 HN0 hl hA2
      go_wp2_with fail
      refine bodyPost_ret (v := .tuple #[.agg #[.int .i64 2, .string ⟨#[]⟩, .int .i64 0, .int .i64 0], .bool false]) (by simp [results, Try.results29, go_sem, d0, d1, d2, d3]) rfl ⟨by rw [HR.out] <;> rfl, (((HB.out.setCell (Nat.le_refl _) _).setCell (Nat.le_refl _) _).setCell (Nat.le_refl _) _).setCell (Nat.le_refl _) _⟩
    · rw [if_neg h9b] at HN0
      have h9 : n ≤ 9 := by omega
      have h9i : ¬ (9 : Int) < (n : Int) := by omega
      have HR : Hid (numR (bytesOf s) = (2, (bytesOf s).take n, numV ((bytesOf s).take n), okAt (bytesOf s) n)) := HN0
      have HTX : Hid (strOfNums ((bytesOf s).take n) = s.extract 0 n) := by
        show _ = _
        have hx : bytesOf (s.extract 0 n) = (bytesOf s).take n := by rw [bytesOf_extract, List.drop_zero]
        rw [← hx, son_bytes]
      have hn2 : ¬ n = 2 := hN
      have hn2i : ¬ (n : Int) = 2 := by omega
      have hn2b : ((n : Int) == 2) = false := by rw [beq_eq_false_iff_ne]; exact hn2i
      clear HN0 hl hA2
      have c0 := kr_cell K2 0 rfl 0 _ rfl
      have g0 := kr_frozen K2 0 rfl 0 (by simp)
      have c1 := kr_cell K2 0 rfl 1 _ rfl
      have g1 := kr_frozen K2 0 rfl 1 (by simp)
      have c2 := kr_cell K2 0 rfl 2 _ rfl
      have g2 := kr_frozen K2 0 rfl 2 (by simp)
      have c3 := kr_cell K2 0 rfl 3 _ rfl
      have g3 := kr_frozen K2 0 rfl 3 (by simp)
      have d0 := kr_cell K2 1 rfl 0 _ rfl
      have h0 := kr_frozen K2 1 rfl 0 (by simp)
      have d1 := kr_cell K2 1 rfl 1 _ rfl
      have h1 := kr_frozen K2 1 rfl 1 (by simp)
      have d2 := kr_cell K2 1 rfl 2 _ rfl
      have h2 := kr_frozen K2 1 rfl 2 (by simp)
      have d3 := kr_cell K2 1 rfl 3 _ rfl
      have h3 := kr_frozen K2 1 rfl 3 (by simp)
      go_upto_region 14 with fail
      have K4 := kr_fset K2 0 rfl 1 (by simp) (.string (s.extract 0 n)) _ rfl
      generalize (W2.setCell ⟨b, 1, none⟩ (.string (s.extract 0 n))) = W4 at K4
      simp only [List.set_cons_zero, List.set_cons_succ] at K4
      clear c0 c1 c2 c3 g0 g1 g2 g3 d0 d1 d2 d3 h0 h1 h2 h3
      clear K2
      go_wp2
      go_loopw [8] (fun v8 W => ∃ i : Nat, v8 = .int .i64 (i : Int) ∧ i ≤ n ∧ KR w [(b, [.int .i64 2, .string (s.extract 0 n), .int .i64 (numV ((bytesOf s).take i)), .int .i64 0]), (w.heap.size, [.int .i64 0, .string ⟨#[]⟩, .int .i64 0, .int .i64 0])] W) (fun v8 _ => n - (intOf v8).toNat)
      case atStart => exact ⟨0, rfl, Nat.zero_le _, K4⟩
      case round =>
        obtain ⟨i, rfl, hi, K5⟩ := hrel
        by_cases hlt : i < n
        · have hil : i < s.size := by omega
          have hii : (i : Int) < (n : Int) := by omega
          have hisz : (i : Int) < (s.size : Int) := by omega
          have hgi := bytes_get s i hil
          have hdg := isDg_yes (runN_all (by rw [HRN.out]; exact hlt) hgi)
          have hnv := numV_small (bytesOf s) i n h9 (by omega) HRN.out
          have HNX : Hid (numV ((bytesOf s).take (i + 1)) = numV ((bytesOf s).take i) * 10 + (((s[i]'hil).toNat : Int) - 48)) := by
            show _ = _
            rw [numV_take (bytesOf s) i (by rw [bytesOf_length]; exact hil)]
            have : (bytesOf s)[i]'(by rw [bytesOf_length]; exact hil) = ((s[i]'hil).toNat : Int) := by rw [List.getElem?_eq_getElem (by rw [bytesOf_length]; exact hil)] at hgi; injection hgi
            rw [this]
          obtain ⟨hd1, hd2⟩ := hdg
          obtain ⟨hv1, hv2⟩ := hnv
          clear hgi
          generalize numV ((bytesOf s).take i) = v at K5 HNX hv1 hv2
          have c0 := kr_cell K5 0 rfl 0 _ rfl
          have c2 := kr_cell K5 0 rfl 2 _ rfl
          have g2 := kr_frozen K5 0 rfl 2 (by simp)
          have K6 : Hid (KR w [(b, [.int .i64 2, .string (s.extract 0 n), .int .i64 (v * 10 + (((s[i]'hil).toNat : Int) - 48)), .int .i64 0]), (w.heap.size, [.int .i64 0, .string ⟨#[]⟩, .int .i64 0, .int .i64 0])] (wr.setCell ⟨b, 2, none⟩ (.int .i64 (v * 10 + (((s[i]'hil).toNat : Int) - 48)))).drew) := kr_drew (kr_fset K5 0 rfl 2 (by simp) _ _ rfl)
          clear K5
          go_wp2_with fail
          go_region
          all_goals go_wp2_with fail
          all_goals exact ⟨⟨i + 1, by go_num, by omega, by rw [HNX.out]; exact K6.out⟩, by simp [intOf]; omega⟩
        · have hin : n = i := by omega
          subst hin
          have HB : Hid (Below w.heap.size w wr) := K5.below
          generalize numV ((bytesOf s).take n) = v at K5 HR
          by_cases hend : s.size ≤ n
          · have hei : (s.size : Int) = (n : Int) := by omega
            have HO : Hid (numR (bytesOf s) = ((2 : Int), (bytesOf s).take n, v, true)) := by show _ = _; rw [HR.out, okAt_end (by rw [bytesOf_length]; exact hend)]
            have c0 := kr_cell K5 0 rfl 0 _ rfl
            have g0 := kr_frozen K5 0 rfl 0 (by simp)
            have c1 := kr_cell K5 0 rfl 1 _ rfl
            have g1 := kr_frozen K5 0 rfl 1 (by simp)
            have c2 := kr_cell K5 0 rfl 2 _ rfl
            have g2 := kr_frozen K5 0 rfl 2 (by simp)
            have c3 := kr_cell K5 0 rfl 3 _ rfl
            have g3 := kr_frozen K5 0 rfl 3 (by simp)
            have d0 := kr_cell K5 1 rfl 0 _ rfl
            have h0 := kr_frozen K5 1 rfl 0 (by simp)
            have d1 := kr_cell K5 1 rfl 1 _ rfl
            have h1 := kr_frozen K5 1 rfl 1 (by simp)
            have d2 := kr_cell K5 1 rfl 2 _ rfl
            have h2 := kr_frozen K5 1 rfl 2 (by simp)
            have d3 := kr_cell K5 1 rfl 3 _ rfl
            have h3 := kr_frozen K5 1 rfl 3 (by simp)
            clear K5
            go_wp2_with fail
            go_region
            all_goals go_wp2_with fail
            all_goals refine bodyPost_ret (v := .tuple #[.agg #[.int .i64 2, .string (s.extract 0 n), .int .i64 v, .int .i64 0], .bool true]) (by simp [results, Try.results29, go_sem, d0, d1, d2, d3]) rfl ⟨by rw [HO.out]; simp only; rw [HTX.out], bw_drew ((((HB.out.setCell (Nat.le_refl _) _).setCell (Nat.le_refl _) _).setCell (Nat.le_refl _) _).setCell (Nat.le_refl _) _)⟩
          · have hlt2 : n < s.size := by omega
            have hli2 : (n : Int) < (s.size : Int) := by omega
            have hq1 : ¬ (s.size : Int) = (n : Int) := by omega
            have hq2 : ¬ s.size = n := by omega
            have hq3 : ((s.size : Int) == (n : Int)) = false := by rw [beq_eq_false_iff_ne]; exact hq1
            have hq4 : (s.size == n) = false := by rw [beq_eq_false_iff_ne]; exact hq2
            have hpk := fun W => part_k W (((s[n]'hlt2).toNat : Nat) : Int) (byte_range _)
            have HO : Hid (numR (bytesOf s) = ((2 : Int), (bytesOf s).take n, v, !isPt (((s[n]'hlt2).toNat : Nat) : Int))) := by show _ = _; rw [HR.out, okAt_in (bytes_get s n hlt2)]
            generalize isPt (((s[n]'hlt2).toNat : Nat) : Int) = bo at hpk HO
            have c0 := kr_cell K5 0 rfl 0 _ rfl
            have g0 := kr_frozen K5 0 rfl 0 (by simp)
            have c1 := kr_cell K5 0 rfl 1 _ rfl
            have g1 := kr_frozen K5 0 rfl 1 (by simp)
            have c2 := kr_cell K5 0 rfl 2 _ rfl
            have g2 := kr_frozen K5 0 rfl 2 (by simp)
            have c3 := kr_cell K5 0 rfl 3 _ rfl
            have g3 := kr_frozen K5 0 rfl 3 (by simp)
            have d0 := kr_cell K5 1 rfl 0 _ rfl
            have h0 := kr_frozen K5 1 rfl 0 (by simp)
            have d1 := kr_cell K5 1 rfl 1 _ rfl
            have h1 := kr_frozen K5 1 rfl 1 (by simp)
            have d2 := kr_cell K5 1 rfl 2 _ rfl
            have h2 := kr_frozen K5 1 rfl 2 (by simp)
            have d3 := kr_cell K5 1 rfl 3 _ rfl
            have h3 := kr_frozen K5 1 rfl 3 (by simp)
            have K5D := kr_drew K5
            clear K5 HB
            go_wp2_with fail
            have hbp : ¬ w.heap.size = b := by have h := (List.pairwise_cons.1 K5D.apart).1 _ List.mem_cons_self; exact fun e => h e.symm
            go_region_held3 (fun W => W.cell? ⟨b, 0, none⟩ = some (.int .i64 2) ∧ W.cell? ⟨b, 1, none⟩ = some (.string (s.extract 0 n)) ∧ W.cell? ⟨b, 2, none⟩ = some (.int .i64 v) ∧ W.cell? ⟨b, 3, none⟩ = some (.int .i64 0)) (first | exact ⟨c0, c1, c2, c3⟩ | exact ⟨by go_simp, by go_simp, by go_simp, by go_simp⟩) (first | (go_at_call 28; refine (hpk _).mono ?_; rintro e w6 ⟨rfl, HB6⟩; have K6 := kr_call K5D HB6; have HB : Hid (Below w.heap.size w w6) := K6.below; have c0 := kr_cell K6 0 rfl 0 _ rfl; have g0 := kr_frozen K6 0 rfl 0 (by simp); have c1 := kr_cell K6 0 rfl 1 _ rfl; have g1 := kr_frozen K6 0 rfl 1 (by simp); have c2 := kr_cell K6 0 rfl 2 _ rfl; have g2 := kr_frozen K6 0 rfl 2 (by simp); have c3 := kr_cell K6 0 rfl 3 _ rfl; have g3 := kr_frozen K6 0 rfl 3 (by simp); have d0 := kr_cell K6 1 rfl 0 _ rfl; have h0 := kr_frozen K6 1 rfl 0 (by simp); have d1 := kr_cell K6 1 rfl 1 _ rfl; have h1 := kr_frozen K6 1 rfl 1 (by simp); have d2 := kr_cell K6 1 rfl 2 _ rfl; have h2 := kr_frozen K6 1 rfl 2 (by simp); have d3 := kr_cell K6 1 rfl 3 _ rfl; have h3 := kr_frozen K6 1 rfl 3 (by simp); clear K6 HB6))
            all_goals go_wp2_with fail
            all_goals refine bodyPost_ret (v := .tuple #[.agg #[.int .i64 2, .string (s.extract 0 n), .int .i64 v, .int .i64 0], .bool !bo]) (by simp [results, Try.results29, go_sem, d0, d1, d2, d3]) rfl ⟨by rw [HO.out]; simp only; rw [HTX.out], (((HB.out.setCell (Nat.le_refl _) _).setCell (Nat.le_refl _) _).setCell (Nat.le_refl _) _).setCell (Nat.le_refl _) _⟩
end Go.Proofs.Ytklpcmfigfigcaa.Own
