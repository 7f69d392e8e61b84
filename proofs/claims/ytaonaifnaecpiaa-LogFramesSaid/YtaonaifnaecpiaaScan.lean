/- What dayshift/log's Scan does. No conditions beside those in each theorem. -/
import Derived.Test.YtaonaifnaecpiaaLL
import Derived.Test.YtaonaifnaecpiaaApW
import Derived.Deep.Slices
namespace Go.Proofs.Ytaonaifnaecpiaa.Own
open Go.RowKit Go.Proofs.YtaonaifnaecpiaaW.PrintWords
set_option linter.unusedSimpArgs false
set_option linter.unusedVariables false
theorem srcV_dropM {W : World} {sp : Option Addr} {bs : List Int} (h : SrcV W sp (bcl bs)) (k : Nat) : SrcV W (sp.map (fun x => x.add k)) (bcl (bs.drop k)) := fun hl => by
  rw [bcl_len, List.length_drop] at hl
  obtain ⟨A, rfl, hc⟩ := h (by rw [bcl_len]; omega)
  refine ⟨_, rfl, fun j v hv => ?_⟩
  show W.cell? ((A.add k).add j) = some v
  rw [Go.Deep.add_add]
  refine hc (k + j) v ?_
  unfold bcl at hv ⊢
  rw [List.getElem?_map, List.getElem?_drop] at hv
  rw [List.getElem?_map]
  exact hv
theorem scan_fin {w W W' : World} {rows l0 : List (Nat × List Value)} {v : Value} {vals : List Value} {recs : List (List Int)} (HO : Own w rows 23 1 v recs.length vals W) (HK : KR w rows W) (HK0 : KR W l0 W')
    (HL : vals.length = recs.length) (HF : ∀ (j : Nat) (u : Value) (r : List Int), vals[j]? = some u → recs[j]? = some r → FC rows u r) : ∃ l, KR w l W' ∧ RL l v recs := by
  obtain ⟨l2, HL2, HC2⟩ := own_settle (kr_join HK HK0) (own_later HO HK0)
  exact ⟨_, HL2, vals, HL, sc_mono HC2 (fun p hp => List.mem_append_left _ hp), fun j u r hu hr => fc_monoL (HF j u r hu hr) (fun p hp => List.mem_append_right _ (List.mem_append_right _ hp))⟩
theorem scan_push {rows l0 : List (Nat × List Value)} {vals : List Value} {recs : List (List Int)} {u0 : Value} {r0 : List Int} (HL : vals.length = recs.length) (HF : ∀ (j : Nat) (u : Value) (r : List Int), vals[j]? = some u → recs[j]? = some r → FC rows u r) (H0 : FC l0 u0 r0) :
    ∀ (j : Nat) (u : Value) (r : List Int), (vals ++ [u0])[j]? = some u → (recs ++ [r0])[j]? = some r → FC (l0 ++ rows) u r := by
  intro j u r hu hr
  by_cases hj : j < recs.length
  · rw [List.getElem?_append_left (by omega)] at hu
    rw [List.getElem?_append_left hj] at hr
    exact fc_monoL (HF j u r hu hr) (fun p hp => List.mem_append_right _ hp)
  · rw [List.getElem?_append_right (by omega)] at hu hr
    have e : j - vals.length = 0 := by
      have := (List.getElem?_eq_some_iff.1 hu).1
      simp at this
      omega
    rw [e] at hu
    rw [← HL, e] at hr
    simp at hu hr
    rw [← hu, ← hr]
    exact fc_monoL H0 (fun p hp => List.mem_append_left _ hp)
theorem srcV_built {W : World} (u : Value) (t : TypeId) (m : Nat × Nat) : SrcV (W.alloc (.cells #[u] t m)) (some ⟨W.heap.size, 0, none⟩) [u] := fun _ => ⟨_, rfl, fun j v hv => by
  rw [Addr.add_mid, World.cell?_alloc_mark]; simpa using hv⟩
theorem w64i (n : Int) (h : -9223372036854775808 ≤ n ∧ n ≤ 9223372036854775807) : wrap64 n = n := by unfold wrap64; omega
theorem bb_info : (Try.prog.info? 23).map (fun i => (i.zero, i.size, i.bytes)) = some (some (.slice none 0 0), 1, 24) := by kernel_rfl
set_option maxRecDepth 100000 in
set_option maxHeartbeats 2000000 in
theorem scan_k {w : World} (bs : List Int) (n : Nat) (hn : Hid (bs.length = n)) (hb : Hid (isB bs)) (h2 : n ≤ 140737488351232) (sp : Option Addr) (c : Nat) (hc : n ≤ c) (hS : Hid (SrcV w sp (bcl bs))) :
    Calls Try.prog 13 #[.slice sp n c] w fun e W' => ∃ v l, e = .returned (.tuple #[.int .u64 (((scan bs).1 : Nat) : Int), v, .int .i64 ((flen (scan bs).2 : Nat) : Int)]) ∧ KR w l W' ∧ RL l v (scan bs).2 := by
  go_enter Try.func13, Try.ntmps13
  go_wp2
  go_loopw [5, 6, 7] (fun v5 v6 v7 W => ∃ first recs rows vals, v5 = .int .u64 ((first : Nat) : Int) ∧ v6 = .int .i64 ((flen recs : Nat) : Int) ∧ Own w rows 23 1 v7 recs.length vals W ∧ KR w rows W ∧ (∀ (j : Nat) (u : Value) (r : List Int), vals[j]? = some u → recs[j]? = some r → FC rows u r) ∧ scanE bs first recs = scan bs ∧ flen recs ≤ n ∧ first + recs.length ≤ 18446744073709551616) (fun _ v6 _ _ => n - (intOf v6).toNat)
  case atStart => exact ⟨0, [], [], [], rfl, rfl, own_nil _ _ _ _ _, kr_refl _, by simp, by simp [scanE], Nat.zero_le _, by simp⟩
  case round =>
    obtain ⟨first, recs, rows, vals, rfl, rfl, HO, HK, HF, HE, hl, hf⟩ := hrel
    obtain ⟨sx, cx, rfl⟩ := own_form HO
    have hfr := fun sp' c' hc' h => fram_k (w := wr) (bs.drop (flen recs)) (n - flen recs) (by show _ = _; rw [List.length_drop, hn.out]) (isB_drop hb.out _) (by omega) sp' c' hc' h
    have hsr := srcV_dropM (srcV_keep hS.out HK.below) (flen recs)
    have HHE : Hid (scanE bs first recs = scan bs) := HE
    have HHF : Hid (∀ (j : Nat) (u : Value) (r : List Int), vals[j]? = some u → recs[j]? = some r → FC rows u r) := HF
    have hl3 : 16 * recs.length ≤ flen recs := flen_ge recs
    have hl4 : recs.length ≤ n := by omega
    have HS := fun (h : ∀ q r, parse1 (bs.drop (flen recs)) = some (q, r) → q = 0 ∨ recs ≠ [] ∧ q ≠ first + recs.length) => HHE.out.symm.trans (scanE_stop bs first recs h)
    have HL : Hid (vals.length = recs.length) := by show _ = _; have := HO.1.1; omega
    have hll : Hid (n - flen recs = (bs.drop (flen recs)).length) := by show _ = _; rw [List.length_drop, hn.out]
    clear HE HF
    have HP : Hid (parse1 (bs.drop (flen recs)) = parse1 (bs.drop (flen recs))) := rfl
    generalize hpe : parse1 (bs.drop (flen recs)) = pe at hfr HS HP
    have hs0 : ∀ sp', n = flen recs → SrcV wr sp' (bcl (bs.drop (flen recs))) := fun sp' h h1 => absurd h1 (by rw [bcl_len, ← hll.out]; omega)
    clear hS HP
    rcases pe with _ | ⟨q, r⟩
    · have HS := HS (by simp)
      simp only [frameR] at hfr
      rcases recs with _ | ⟨r0, recs⟩
      · have HO : Hid (Own w rows 23 1 (Value.slice sx 0 cx) 0 vals wr) := HO
        rw [if_pos rfl] at HS
        have HSS : Hid (scan bs = (0, [])) := HS
        clear HS HHE hpe hll
        go_wp2_with (go_at_call 43; refine (hfr _ _ (by omega) (by first | exact hsr | exact hs0 _ (by omega))).mono ?_; rintro e w1 ⟨v0, rfl, hR, hB⟩; obtain ⟨l0, HK0, HC0⟩ := r_kr hB hR; clear hB hR)
        all_goals obtain ⟨l, HKl, HRl⟩ := scan_fin HO.out HK HK0 HL.out HHF.out
        all_goals refine bodyPost_ret (v := .tuple #[.int .u64 0, .slice sx 0 cx, .int .i64 ((flen [] : Nat) : Int)]) (by simp [results, Try.results13, go_sem]) rfl ⟨_, l, by rw [HSS.out] <;> rfl, HKl, by rw [HSS.out]; exact HRl⟩
      · rw [if_neg (by simp)] at HS
        have HSS : Hid (scan bs = (first, r0 :: recs)) := HS
        clear HS HHE hpe hll
        have HO : Hid (Own w rows 23 1 (Value.slice sx (r0 :: recs).length cx) (r0 :: recs).length vals wr) := HO
        have hL0 : (0 : Int) < ((r0 :: recs).length : Int) := by rw [List.length_cons]; omega
        generalize hL : (r0 :: recs).length = L at HO hl4 hL0
        go_wp2_with (go_at_call 43; refine (hfr _ _ (by omega) (by first | exact hsr | exact hs0 _ (by omega))).mono ?_; rintro e w1 ⟨v0, rfl, hR, hB⟩; obtain ⟨l0, HK0, HC0⟩ := r_kr hB hR; clear hB hR)
        all_goals obtain ⟨l, HKl, HRl⟩ := scan_fin (by rw [hL]; exact HO.out) HK HK0 HL.out HHF.out
        all_goals refine bodyPost_ret (v := .tuple #[.int .u64 (first : Int), .slice sx L cx, .int .i64 ((flen (r0 :: recs) : Nat) : Int)]) (by simp [results, Try.results13, go_sem]) rfl ⟨_, l, by rw [HSS.out] <;> rfl, HKl, by rw [HSS.out]; exact HRl⟩
    · have hpl := parse1_len hpe
      have hpq := parse1_q (isB_drop hb.out _) hpe
      rw [← hll.out] at hpl
      have hpqi : (q : Int) < 18446744073709551616 := by omega
      have hlr : flen recs + (16 + r.length) ≤ n := by omega
      have hr6 := hpl.2
      have hri : (r.length : Int) ≤ 60000 := by omega
      have hfi : (first : Int) + (recs.length : Int) ≤ 18446744073709551616 := by omega
      have HH2 : Hid (n ≤ 140737488351232 ∧ r.length ≤ 60000 ∧ q < 18446744073709551616 ∧ first + recs.length ≤ 18446744073709551616) := ⟨h2, hr6, hpq, hf⟩
      have hrn : 16 + r.length ≤ n - flen recs := hpl.1
      clear hpl h2 hr6 hpq hf
      simp only [frameR] at hfr
      have HPE : Hid (parse1 (bs.drop (flen recs)) = some (q, r)) := hpe
      clear hpe hll
      by_cases hnil : recs = []
      · subst hnil
        have HO : Hid (Own w rows 23 1 (Value.slice sx 0 cx) 0 vals wr) := HO
        by_cases hq : q = 0
        · subst hq
          have HS := HS (by intro q' r' h; simp only [Option.some.injEq, Prod.mk.injEq] at h; exact .inl h.1.symm)
          rw [if_pos rfl] at HS
          have HSS : Hid (scan bs = (0, [])) := HS
          clear HS HHE
          go_wp2_with (go_at_call 43; refine (hfr _ _ (by omega) (by first | exact hsr | exact hs0 _ (by omega))).mono ?_; rintro e w1 ⟨v0, rfl, hR, hB⟩; obtain ⟨l0, HK0, HC0⟩ := r_kr hB hR; clear hB hR)
          all_goals obtain ⟨l, HKl, HRl⟩ := scan_fin HO.out HK HK0 HL.out HHF.out
          all_goals refine bodyPost_ret (v := .tuple #[.int .u64 0, .slice sx 0 cx, .int .i64 ((flen [] : Nat) : Int)]) (by simp [results, Try.results13, go_sem]) rfl ⟨_, l, by rw [HSS.out] <;> rfl, HKl, by rw [HSS.out]; exact HRl⟩
        · have HGO := HHE.out.symm.trans (scanE_go bs first [] q r HPE.out hq (fun h => absurd rfl h))
          rw [if_pos rfl] at HGO
          have hq1 : (1 : Int) ≤ (q : Int) := by omega
          have hq0 : ((q : Int) == 0) = false := by simp; omega
          have hqq : IntKind.u64.wrap ((q : Int) - (q : Int)) = 0 := by rw [Int.sub_self]; rfl
          clear hpqi
          have HQ : Hid (¬ q = 0) := hq
          clear hq
          have HGG : Hid (scanE bs q ([] ++ [r]) = scan bs) := HGO.symm
          clear HS HHE HGO
          go_wp2_with (first | (go_at_call 43; refine (hfr _ _ (by omega) (by first | exact hsr | exact hs0 _ (by omega))).mono ?_; rintro e w1 ⟨v0, rfl, hR, hB⟩; obtain ⟨l0, HK0, HC0⟩ := r_kr hB hR; clear hB hR; have HF0 := sc_fc rfl HC0; clear HC0; obtain ⟨sv, cv, rfl, hcv⟩ := fc_form HF0; have K1 := kr_join HK HK0; have O1 := own_later HO.out HK0) | (at_builtin; refine wl_appendK _ _ 28 23 (.slice none 0 0) 1 24 (kr_alloc K1 _) (own_alloc O1 _) _ 1 1 [.slice sv r.length cv] (srcV_built _ _ _) rfl (by intro v hv; rw [List.mem_singleton.1 hv]; rfl) (by have := HH2.out; unfold maxLen; omega) (by have := HH2.out; omega) Try.underlying28 bb_info rfl (by omega) rfl rfl (by rfl) (by rfl) (fun v' W' O2 H2 hz => ?_); clear K1 O1; obtain ⟨s4, c4, rfl⟩ := own_form O2))
          have hw : wrap64 (((flen [] : Nat) : Int) + (16 + (r.length : Int))) = ((flen ([] ++ [r]) : Nat) : Int) := by
            have := HH2.out
            rw [flen_app, w64i _ (by omega)]
            simp only [flen]
            omega
          rw [hw]
          refine ⟨⟨q, [] ++ [r], l0 ++ rows, vals ++ [.slice sv r.length cv], rfl, rfl, by rw [List.length_append]; exact O2, H2, scan_push HL.out HHF.out HF0, HGG.out, ?_, ?_⟩, ?_⟩
          · rw [flen_app]; simp only [flen]; omega
          · have := HH2.out; rw [List.length_append]; simp only [List.length_cons, List.length_nil] at this ⊢; omega
          · rw [flen_app]; simp only [flen, intOf]; omega
      · rw [if_neg hnil] at HS
        have hL0 : (0 : Int) < (recs.length : Int) := by have := List.length_pos_iff.2 hnil; omega
        have hrn0 : recs ≠ [] := hnil
        have HO : Hid (Own w rows 23 1 (Value.slice sx recs.length cx) recs.length vals wr) := HO
        by_cases hq : q = 0 ∨ q ≠ first + recs.length
        · have HS := HS (by intro q' r' h; simp only [Option.some.injEq, Prod.mk.injEq] at h; rw [← h.1]; rcases hq with hq | hq; exact .inl hq; exact .inr ⟨hrn0, hq⟩)
          have HSS : Hid (scan bs = (first, recs)) := HS
          clear HS HHE
          generalize hL : recs.length = L at HO hl4 hL0 hq hfi
          rcases Nat.eq_zero_or_pos q with h0 | h0
          · subst h0
            clear hq
            go_wp2_with (go_at_call 43; refine (hfr _ _ (by omega) (by first | exact hsr | exact hs0 _ (by omega))).mono ?_; rintro e w1 ⟨v0, rfl, hR, hB⟩; obtain ⟨l0, HK0, HC0⟩ := r_kr hB hR; clear hB hR)
            all_goals obtain ⟨l, HKl, HRl⟩ := scan_fin (by rw [hL]; exact HO.out) HK HK0 HL.out HHF.out
            all_goals refine bodyPost_ret (v := .tuple #[.int .u64 (first : Int), .slice sx L cx, .int .i64 ((flen recs : Nat) : Int)]) (by simp [results, Try.results13, go_sem]) rfl ⟨_, l, by rw [HSS.out] <;> rfl, HKl, by rw [HSS.out]; exact HRl⟩
          · have hq1 : (1 : Int) ≤ (q : Int) := by omega
            have hq0 : ((q : Int) == 0) = false := by simp; omega
            have hqq : ¬ IntKind.u64.wrap ((q : Int) - (first : Int)) = (L : Int) := by rw [wrap_u64']; omega
            obtain ⟨D, hD⟩ : ∃ D, IntKind.u64.wrap ((q : Int) - (first : Int)) = D := ⟨_, rfl⟩
            rw [hD] at hqq
            have hwL : IntKind.u64.wrap (L : Int) = (L : Int) := by have := HH2.out.1; rw [wrap_u64']; omega
            have hqe : (D == (L : Int)) = false := by simp; exact hqq
            have hqn : (D != (L : Int)) = true := by simp; exact hqq
            clear hq hfi h0 hpqi
            go_wp2_with (go_at_call 43; refine (hfr _ _ (by omega) (by first | exact hsr | exact hs0 _ (by omega))).mono ?_; rintro e w1 ⟨v0, rfl, hR, hB⟩; obtain ⟨l0, HK0, HC0⟩ := r_kr hB hR; clear hB hR)
            all_goals obtain ⟨l, HKl, HRl⟩ := scan_fin (by rw [hL]; exact HO.out) HK HK0 HL.out HHF.out
            all_goals refine bodyPost_ret (v := .tuple #[.int .u64 (first : Int), .slice sx L cx, .int .i64 ((flen recs : Nat) : Int)]) (by simp [results, Try.results13, go_sem]) rfl ⟨_, l, by rw [HSS.out] <;> rfl, HKl, by rw [HSS.out]; exact HRl⟩
        · have hqe : q = first + recs.length := by omega
          have HGO := HHE.out.symm.trans (scanE_go bs first recs q r HPE.out (by omega) (fun _ => hqe))
          rw [if_neg hrn0] at HGO
          have HGG : Hid (scanE bs first (recs ++ [r]) = scan bs) := HGO.symm
          have HZ : Hid (q < 18446744073709551616 ∧ q = first + recs.length) := ⟨HH2.out.2.2.1, hqe⟩
          have hq1 : (1 : Int) ≤ (q : Int) := by omega
          have hq0 : ((q : Int) == 0) = false := by simp; omega
          obtain ⟨L, hL⟩ : ∃ L, L = recs.length := ⟨_, rfl⟩
          have hLe : Hid (L = recs.length) := hL
          have hqq : IntKind.u64.wrap ((q : Int) - (first : Int)) = (L : Int) := by rw [wrap_u64']; omega
          rw [← hL] at HO hl4 hL0 ⊢
          have hwL : IntKind.u64.wrap (L : Int) = (L : Int) := by have := HH2.out.1; rw [wrap_u64']; omega
          clear HS HHE HGO hqe hq hpqi hL hfi hnil hrn0
          go_wp2_with (first | (go_at_call 43; refine (hfr _ _ (by omega) (by first | exact hsr | exact hs0 _ (by omega))).mono ?_; rintro e w1 ⟨v0, rfl, hR, hB⟩; obtain ⟨l0, HK0, HC0⟩ := r_kr hB hR; clear hB hR; have HF0 := sc_fc rfl HC0; clear HC0; obtain ⟨sv, cv, rfl, hcv⟩ := fc_form HF0; have K1 := kr_join HK HK0; have O1 := own_later HO.out HK0) | (at_builtin; refine wl_appendW _ _ 28 23 (.slice none 0 0) 1 24 (kr_alloc K1 _) (own_alloc O1 _) _ 1 1 [.slice sv r.length cv] (srcV_built _ _ _) (by omega) rfl (by intro v hv; rw [List.mem_singleton.1 hv]; rfl) (by have := HH2.out; unfold maxLen; omega) (by have h2 := HH2.out.1; have h3 := hLe.out; omega) Try.underlying28 bb_info rfl (by omega) rfl rfl (by rfl) (by rfl) (fun v' W' O2 H2 hz => ?_); clear K1 O1; obtain ⟨s4, c4, rfl⟩ := own_form O2))

          have hw : wrap64 (((flen recs : Nat) : Int) + (16 + (r.length : Int))) = ((flen (recs ++ [r]) : Nat) : Int) := by
            have := HH2.out
            rw [flen_app, w64i _ (by omega)]
            simp only [flen]
            omega
          rw [hw]
          refine ⟨⟨first, recs ++ [r], l0 ++ rows, vals ++ [.slice sv r.length cv], rfl, rfl, by rw [List.length_append, ← hLe.out]; exact O2, H2, scan_push HL.out HHF.out HF0, HGG.out, ?_, ?_⟩, ?_⟩
          · rw [flen_app]; simp only [flen]; omega
          · have := HZ.out; rw [List.length_append]; simp only [List.length_cons, List.length_nil]; omega
          · rw [flen_app]; simp only [flen, intOf]; omega
end Go.Proofs.Ytaonaifnaecpiaa.Own
