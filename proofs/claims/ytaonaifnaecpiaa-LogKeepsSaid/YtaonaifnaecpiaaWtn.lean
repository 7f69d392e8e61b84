/- What dayshiftlaw04's written and long, and dayshiftref01's Count, do. No conditions beside those in each theorem. -/
import Derived.Test.YtaonaifnaecpiaaWrP
import Derived.Test.YtaonaifnaecpiaaMC
import Derived.Test.YtaonaifnaecpiaaMD
namespace Go.Proofs.Ytaonaifnaecpiaa.Own
open Go.RowKit Go.Proofs.YtaonaifnaecpiaaW.PrintWords
set_option linter.unusedSimpArgs false
set_option linter.unusedVariables false
theorem flen_le (k : Nat) : ∀ l : List (List Int), (∀ r ∈ l, r.length ≤ k) → flen l ≤ (16 + k) * l.length := by
  intro l
  induction l with
  | nil => intro _; simp [flen]
  | cons r l ih =>
    intro h
    have h1 := h r List.mem_cons_self
    have h2 := ih (fun x hx => h x (List.mem_cons_of_mem _ hx))
    rw [flen, List.length_cons, Nat.mul_succ]
    omega
theorem flen_take (l : List (List Int)) (k : Nat) (h : k < l.length) : flen (l.take (k + 1)) = flen (l.take k) + (16 + l[k].length) := by
  rw [List.take_succ_eq_append_getElem h, flen_app]; simp [flen]
theorem wrF_take (l : List (List Int)) (k : Nat) (h : k < l.length) : bcl (wrF 1 (l.take (k + 1))) = bcl (wrF 1 (l.take k)) ++ bcl (frameB (k + 1) l[k]) := by
  rw [List.take_succ_eq_append_getElem h, wrF_app, List.length_take, Nat.min_eq_left (by omega), show 1 + k = k + 1 from by omega]
  simp [wrF, bcl]
set_option maxRecDepth 100000 in
set_option maxHeartbeats 2000000 in
theorem written0_k {w : World} (l : List (List Int)) (n : Nat) (hn : Hid (l.length = n)) (hl : Hid (∀ r ∈ l, isB r ∧ r.length ≤ 200)) (h16 : n ≤ 16) (sp : Option Addr) (cp : Nat) (hS : Hid (LLV w sp l)) :
    Calls Try.prog 20 #[.slice sp n cp] w fun e W' => ∃ v rows, e = .returned v ∧ KR w rows W' ∧ Own w rows 5 1 v (flen l) (bcl (wrF 1 l)) W' := by
  have h16i : (n : Int) ≤ 16 := by omega
  go_enter Try.func20, Try.ntmps20
  go_wp2
  go_loopw [3, 4] (fun v3 v4 W => ∃ (k : Nat) (rows : List (Nat × List Value)), v4 = .int .i64 (k : Int) ∧ k ≤ n ∧ Own w rows 5 1 v3 (flen (l.take k)) (bcl (wrF 1 (l.take k))) W ∧ KR w rows W) (fun _ v4 _ => n - (intOf v4).toNat)
  case atStart => exact ⟨0, [], rfl, Nat.zero_le _, own_nil _ _ _ _ _, kr_refl _⟩
  case round =>
    obtain ⟨k, rows, rfl, hk, HO, HK⟩ := hrel
    obtain ⟨sx, cx, rfl⟩ := own_form HO
    have HO : Hid (Own w rows 5 1 (.slice sx (flen (l.take k)) cx) (flen (l.take k)) (bcl (wrF 1 (l.take k))) wr) := HO
    have hfl : flen (l.take k) ≤ 3456 := by
      have h1 := flen_le 200 (l.take k) (fun x hx => (hl.out x (List.mem_of_mem_take hx)).2)
      have h2 : (l.take k).length ≤ 16 := by rw [List.length_take]; omega
      omega
    by_cases hlt : k < n
    · have hkl : k < l.length := by rw [hn.out]; exact hlt
      obtain ⟨A, rfl, hcA⟩ := hS.out (by omega)
      obtain ⟨sj, cj, c1, S1⟩ := hcA k _ (List.getElem?_eq_getElem hkl)
      have c1 := kr_old HK c1
      obtain ⟨hrb, hr2⟩ := hl.out _ (List.getElem_mem hkl)
      have hfr := frame_k (w := wr) (k + 1) (by omega) l[k] l[k].length rfl (by omega) hrb sj cj (srcV_keep S1 HK.below)
      have HT : Hid (flen (l.take (k + 1)) = flen (l.take k) + (16 + l[k].length)) := flen_take l k hkl
      have HU : Hid (bcl (wrF 1 (l.take (k + 1))) = bcl (wrF 1 (l.take k)) ++ bcl (frameB (k + 1) l[k])) := wrF_take l k hkl
      have HLN : Hid ((bcl (frameB (k + 1) l[k])).length = 16 + l[k].length ∧ ∀ v ∈ bcl (frameB (k + 1) l[k]), v.oneCell' = true) := ⟨by rw [bcl_len, frameB_len], bcl_one _⟩
      obtain ⟨q, hq0⟩ : ∃ q, q = k + 1 := ⟨_, rfl⟩
      rw [← hq0] at hfr
      have hq : (k : Int) + 1 = (q : Int) := by omega
      have hwq : IntKind.u64.wrap (q : Int) = (q : Int) := by rw [wrap_u64']; omega
      have hki : (k : Int) < (n : Int) := by omega
      have HZ : Hid (l[k].length ≤ 200 ∧ flen (l.take k) ≤ 3456) := ⟨hr2, hfl⟩
      clear hcA S1 hrb hr2 hfl
      rw [← hq0] at HU HLN
      have HQ0 : Hid (q = k + 1) := hq0
      clear hq0
      generalize hB : bcl (frameB q l[k]) = B at hfr HU HLN
      generalize l[k].length = m at hfr HT HLN HZ c1
      clear hB
      generalize flen (l.take k) = F at HO HT HZ ⊢
      generalize bcl (wrF 1 (l.take k)) = X at HO HU
      clear hS
      go_wp2_with (first | (go_at_call 11; refine hfr.mono ?_; rintro e w2 ⟨g2, rfl, hge, hBl, hBk⟩; have K0 := blk_kr (kr_call (kr_refl wr) hBl) hBk hge (by simp); have K2 := kr_join HK K0; have O2 := own_later HO.out K0; clear K0 hge hBl hBk) | (at_builtin; refine wl_appendK _ _ 23 5 (.int .u8 0) 1 1 K2 O2 _ (16 + m) (16 + m) B (srcV_row K2 (List.mem_append_left _ List.mem_cons_self) (m := B.length) (List.take_of_length_le (Nat.le_refl _))) (by have := HLN.out.1; omega) HLN.out.2 (by have := HZ.out; unfold maxLen; omega) (by have := HZ.out; omega) Try.underlying23 lu8_info rfl (by omega) rfl rfl (by rfl) (by rfl) (fun v' W' O3 K3 hz => ?_); clear K2 O2; obtain ⟨s4, c4, rfl⟩ := own_form O3))
      go_round
      case rel => exact ⟨k + 1, _, by go_num, by omega, by rw [HT.out, ← HQ0.out, HU.out]; exact O3, K3⟩
      case measure => (simp [intOf]; try omega)
    · obtain rfl : k = n := by omega
      have e : l.take k = l := List.take_of_length_le (by rw [hn.out]; omega)
      rw [e] at HO hfl ⊢
      clear hS
      go_wp2_with fail
      refine bodyPost_ret (v := .slice sx (flen l) cx) (by simp [results, Try.results20, go_sem]) rfl ⟨_, _, rfl, HK, HO.out⟩
theorem written_k {w : World} (l : List (List Int)) (n : Nat) (hn : Hid (l.length = n)) (hl : Hid (∀ r ∈ l, isB r ∧ r.length ≤ 200)) (h16 : n ≤ 16) (sp : Option Addr) (cp : Nat) (hS : Hid (LLV w sp l)) :
    Calls Try.prog 20 #[.slice sp n cp] w fun e W' => ∃ v rows, e = .returned v ∧ KR w rows W' ∧ SC rows 1 v (flen l) (bcl (wrF 1 l)) := by
  refine (written0_k l n hn hl h16 sp cp hS).mono ?_
  rintro e w1 ⟨v, rows, rfl, K, O⟩
  obtain ⟨l2, HL2, HC2⟩ := own_settle K O
  exact ⟨_, _, rfl, HL2, sc_mono HC2 (fun p hp => List.mem_append_left _ hp)⟩
set_option maxHeartbeats 1000000 in
theorem long_k {w : World} (l : List (List Int)) (n : Nat) (hn : Hid (l.length = n)) (hl : Hid (∀ r ∈ l, r.length ≤ 200)) (h16 : n ≤ 16) (sp : Option Addr) (cp : Nat) (hS : Hid (LLV w sp l)) (at_ : Nat) (ha : at_ ≤ 4000) :
    Calls Try.prog 22 #[.slice sp n cp, .int .i64 (at_ : Int)] w fun e W' => e = .returned (.bool (lngF 0 l at_)) ∧ W' = w := by
  have h16i : (n : Int) ≤ 16 := by omega
  have hai : (at_ : Int) ≤ 4000 := by omega
  go_enter Try.func22, Try.ntmps22
  go_wp2
  go_loopw [5, 6] (fun v5 v6 W => ∃ (k : Nat), v6 = .int .i64 (k : Int) ∧ k ≤ n ∧ v5 = .int .i64 ((flen (l.take k) : Nat) : Int) ∧ W = w ∧ lngF 0 l at_ = lngF (flen (l.take k)) (l.drop k) at_) (fun _ v6 _ => n - (intOf v6).toNat)
  case atStart => exact ⟨0, rfl, Nat.zero_le _, rfl, rfl, by simp [flen]⟩
  case round =>
    obtain ⟨k, rfl, hk, rfl, rfl, HE⟩ := hrel
    have hfl : flen (l.take k) ≤ 3456 := by
      have h1 := flen_le 200 (l.take k) (fun x hx => hl.out x (List.mem_of_mem_take hx))
      have h2 : (l.take k).length ≤ 16 := by rw [List.length_take]; omega
      omega
    have hfi : ((flen (l.take k) : Nat) : Int) ≤ 3456 := by omega
    by_cases hlt : k < n
    · have hkl : k < l.length := by rw [hn.out]; exact hlt
      obtain ⟨A, rfl, hcA⟩ := hS.out (by omega)
      obtain ⟨sj, cj, c1, S1⟩ := hcA k _ (List.getElem?_eq_getElem hkl)
      have hr2 := hl.out _ (List.getElem_mem hkl)
      have hki : (k : Int) < (n : Int) := by omega
      have HT : Hid (flen (l.take (k + 1)) = flen (l.take k) + 16 + l[k].length) := by show _ = _; rw [flen_take l k hkl]; omega
      have HQ : Hid (lngF (flen (l.take k)) (l.drop k) at_ = ((decide (flen (l.take k) ≤ at_) && decide (at_ < flen (l.take k) + 4)) || lngF (flen (l.take k) + 16 + l[k].length) (l.drop (k + 1)) at_)) := by
        show _ = _
        rw [List.drop_eq_getElem_cons hkl, lngF]
      have HEE : Hid (lngF 0 l at_ = lngF (flen (l.take k)) (l.drop k) at_) := HE
      clear hcA S1 HE hfl
      have hmi : (l[k].length : Int) ≤ 200 := by omega
      clear hr2
      generalize l[k].length = m at HT HQ c1 hmi
      generalize flen (l.take k) = F at HT HQ HEE hfi ⊢
      by_cases h1 : F ≤ at_
      · by_cases h2 : at_ < F + 4
        · have HR : Hid (lngF 0 l at_ = true) := by show _ = _; rw [HEE.out, HQ.out, decide_eq_true h1, decide_eq_true h2]; rfl
          have h1i : (F : Int) ≤ (at_ : Int) := by omega
          have h2i : (at_ : Int) < (F : Int) + 4 := by omega
          clear HQ HEE HT
          go_wp2_with fail
          go_ret
          exact ⟨by rw [HR.out] <;> rfl, rfl⟩
        · have HR : Hid (lngF 0 l at_ = lngF (F + 16 + m) (l.drop (k + 1)) at_) := by show _ = _; rw [HEE.out, HQ.out, decide_eq_false h2, Bool.and_false, Bool.false_or]
          have h1i : (F : Int) ≤ (at_ : Int) := by omega
          have h2i : (F : Int) + 4 ≤ (at_ : Int) := by omega
          clear HQ HEE
          go_wp2_with fail
          go_round
          case rel => exact ⟨k + 1, by go_num, by omega, by rw [HT.out]; go_num, by first | rfl | trivial, by rw [HT.out]; exact HR.out⟩
          case measure => (simp [intOf]; try omega)
      · have HR : Hid (lngF 0 l at_ = lngF (F + 16 + m) (l.drop (k + 1)) at_) := by show _ = _; rw [HEE.out, HQ.out, decide_eq_false h1, Bool.false_and, Bool.false_or]
        have h1i : (at_ : Int) < (F : Int) := by omega
        clear HQ HEE
        go_wp2_with fail
        go_round
        case rel => exact ⟨k + 1, by go_num, by omega, by rw [HT.out]; go_num, by first | rfl | trivial, by rw [HT.out]; exact HR.out⟩
        case measure => (simp [intOf]; try omega)
    · obtain rfl : k = n := by omega
      have e : l.drop k = [] := List.drop_eq_nil_of_le (by rw [hn.out]; omega)
      rw [e] at HE
      have HR : Hid (lngF 0 l at_ = false) := HE
      clear hS HE
      go_wp2_with fail
      go_ret
      exact ⟨by rw [HR.out] <;> rfl, rfl⟩
theorem cnt_k {w : World} (z : Int) (hz : (Lit.int .i64 z).wf = true) (n : Nat) (h0 : 0 < n) (h1 : n ≤ 100000) :
    Calls Try.prog 21 #[.int .i64 z, .int .i64 (n : Int)] w fun e W' => ∃ r : Nat, e = .returned (.int .i64 (r : Int)) ∧ r < n ∧ W' = w := by
  have h0i : (1 : Int) ≤ (n : Int) := by omega
  have h1i : (n : Int) ≤ 100000 := by omega
  have hne : ¬ (n : Int) = 0 := by omega
  obtain ⟨m, hm⟩ : ∃ m : Int, m = z.tmod (n : Int) := ⟨_, rfl⟩
  have hm1 : m < (n : Int) := by rw [hm]; exact Int.tmod_lt_of_pos _ (by omega)
  have hm2 : -(n : Int) < m := by rw [hm]; exact Int.lt_tmod_of_pos _ (by omega)
  clear h1
  by_cases hneg : m < 0
  · go_enter Try.func21, Try.ntmps21
    go_wp2
    go_ret
    exact ⟨(m + n).toNat, by show Ending.returned (.int .i64 (z.tmod n + n)) = _; rw [← hm, show (((m + n).toNat : Nat) : Int) = m + n from by omega], by omega, rfl⟩
  · go_enter Try.func21, Try.ntmps21
    go_wp2
    go_ret
    exact ⟨m.toNat, by show Ending.returned (.int .i64 (z.tmod n)) = _; rw [← hm, show ((m.toNat : Nat) : Int) = m from by omega], by omega, rfl⟩
end Go.Proofs.Ytaonaifnaecpiaa.Own
