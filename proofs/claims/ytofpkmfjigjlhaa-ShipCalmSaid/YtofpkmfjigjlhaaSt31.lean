/- One step of a play. No conditions beside those in each theorem. -/
import Derived.Test.YtofpkmfjigjlhaaLo31
namespace Go.Proofs.Ytofpkmfjigjlhaa.Own
open Go.RowKit
set_option linter.unusedSimpArgs false
set_option linter.unusedVariables false
theorem scount_lt (z : Int) (n : Int) (h : 0 < n) : 0 ≤ scount z n ∧ scount z n < n := ⟨Int.emod_nonneg _ (by omega), Int.emod_lt_of_pos _ h⟩
theorem scount_tmod (z n : Int) (h : 0 < n) : (z.tmod n < 0 → scount z n = z.tmod n + n) ∧ (¬ z.tmod n < 0 → scount z n = z.tmod n) := by
  have h1 := Int.emod_nonneg z (show n ≠ 0 by omega)
  have h2 := Int.emod_lt_of_pos z h
  have h3 := Int.tmod_eq_emod (a := z) (b := n)
  unfold scount
  split at h3
  · exact ⟨fun h => by omega, fun h => by omega⟩
  · exact ⟨fun h => by omega, fun h => by omega⟩
theorem cntx_k {w : World} (z : Int) (hz : (Lit.int .i64 z).wf = true) (n : Int) (h0 : 0 < n) (h1 : n ≤ 100000) :
    Calls Try.prog 17 #[.int .i64 z, .int .i64 n] w fun e W' => e = .returned (.int .i64 (scount z n)) ∧ W' = w := by
  have hne : ¬ n = 0 := by omega
  have h0i : 1 ≤ n := by omega
  obtain ⟨hs1, hs2⟩ := scount_tmod z n h0
  obtain ⟨m, hm⟩ : ∃ m : Int, m = z.tmod n := ⟨_, rfl⟩
  have hm1 : m < n := by rw [hm]; exact Int.tmod_lt_of_pos _ (by omega)
  have hm2 : -n < m := by rw [hm]; exact Int.lt_tmod_of_pos _ (by omega)
  generalize scount z n = q at *
  have HS : Hid ((m < 0 → q = m + n) ∧ (¬ m < 0 → q = m)) := by rw [hm]; exact ⟨hs1, hs2⟩
  clear hs1 hs2
  by_cases hneg : m < 0
  · go_enter Try.func17, Try.ntmps17
    go_wp2
    go_ret
    exact ⟨by show Ending.returned (.int .i64 (z.tmod n + n)) = _; rw [← hm, HS.out.1 hneg], rfl⟩
  · go_enter Try.func17, Try.ntmps17
    go_wp2
    go_ret
    exact ⟨by show Ending.returned (.int .i64 (z.tmod n)) = _; rw [← hm, HS.out.2 hneg], rfl⟩
def two (z : Int) : Bool := decide (scount z 2 = 1)
theorem two_bi (z : Int) : scount z 2 = bi (two z) := by
  have := scount_lt z 2 (by omega)
  unfold two
  by_cases h : scount z 2 = 1
  · rw [h]; rfl
  · have : scount z 2 = 0 := by omega
    rw [this]; rfl
/-- Where the letter is. -/
def pat (p : PY) (num : Int) : Int := if p.way.length = 0 then 0 else scount num p.way.length
section
variable {w W : World} {P A : Nat} {D : Bool → Nat} {p : PY} {im : List (Nat × List Value)} {lv : Bool → Value} {wv : Value} {wx : List (Nat × List Value)} {us : List Value}
theorem px_imm {n : Bool → SN} {B : Nat} {cs : List Value} {xs : List (Nat × List Value)} (h : PX w W D n ((B, cs) :: xs) im lv) : PX w W D n xs ((B, cs) :: im) lv :=
  ⟨kr_permA h.kr ((List.perm_middle.cons _).cons _), fun b => el_mono (h.el b) (fun q hq => List.mem_cons_of_mem _ hq), h.nb⟩
theorem ple_mono {im' : List (Nat × List Value)} (h : PLE w W P A D p im') (hm : ∀ q ∈ im, q ∈ im') : PLE w W P A D p im := by
  obtain ⟨i2, a, b, c, d, h1, h2⟩ := h
  exact ⟨i2, a, b, c, d, fun q hq => h1 q (hm q hq), h2⟩
theorem pl_imm {n : Bool → SN} {W' : World} {B : Nat} {cs : List Value} (H : PL w W P A D p [] im lv wv wx us)
    (P5 : PX w W' D p.n ((B, cs) :: ([] ++ (P, [.slice (some ⟨A, 0, none⟩) 2 2, wv, .int .i64 p.k]) :: (A, [.pointer (some ⟨D false, 0, none⟩), .pointer (some ⟨D true, 0, none⟩)]) :: wx)) im lv) :
    PL w W' P A D p [] ((B, cs) :: im) lv wv wx us :=
  ⟨px_imm P5, H.ws, H.ul, fun j u x hu hx => ⟨el_mono (H.ue j u x hu hx).1 (fun q hq => List.mem_cons_of_mem _ hq), (H.ue j u x hu hx).2⟩, H.wl⟩
set_option maxRecDepth 100000 in
set_option maxHeartbeats 4000000 in
theorem step_other (h : PL w W P A D p [] im lv wv wx us) (who num : Int) (hwho : (Lit.int .i64 who).wf = true) (hnum : (Lit.int .i64 num).wf = true) (kind : Int) (hk : ¬ (kind = 0 ∨ kind = 1 ∨ kind = 2 ∨ kind = 3 ∨ kind = 4 ∨ kind = 5 ∨ kind = 6 ∨ kind = 7 ∨ kind = 8 ∨ kind = 9 ∨ kind = 10 ∨ kind = 11)) (hk0 : 0 ≤ p.k) (hk1 : p.k ≤ 100000) :
    Calls Try.prog 9 #[.pointer (some ⟨P, 0, none⟩), .agg #[.int .i64 kind, .int .i64 who, .int .i64 num]] W fun e W' => e = .returned (.tuple #[]) ∧ PLE w W' P A D (pyStep p kind (two who) num) im := by
  obtain ⟨sx, c, rfl, hc, hform⟩ := ws_form h.ws
  have hwl := h.wl
  have hc2 : ∀ V, Calls Try.prog 17 #[.int .i64 who, .int .i64 2] V fun e W' => e = .returned (.int .i64 (bi (two who))) ∧ W' = V := fun V => by
    rw [← two_bi]; exact cntx_k who hwho 2 (by omega) (by omega)
  have hc5 : ∀ V, Calls Try.prog 17 #[.int .i64 num, .int .i64 5] V fun e W' => e = .returned (.int .i64 (scount num 5)) ∧ W' = V := fun V => cntx_k num hnum 5 (by omega) (by omega)
  have hcl : 0 < p.way.length → ∀ V, Calls Try.prog 17 #[.int .i64 num, .int .i64 (p.way.length : Int)] V fun e W' => e = .returned (.int .i64 (pat p num)) ∧ W' = V := fun h0 V => by
    rw [show pat p num = scount num p.way.length from if_neg (by omega)]; exact cntx_k num hnum _ (by omega) (by omega)
  have hpat : Hid (0 < p.way.length → 0 ≤ pat p num ∧ pat p num < p.way.length) := fun h0 => by
    rw [show pat p num = scount num p.way.length from if_neg (by omega)]; exact scount_lt _ _ (by omega)
  have hp0 : ¬ 0 < p.way.length → pat p num = 0 := fun h0 => if_pos (by omega)
  have H : Hid (PL w W P A D p [] im lv _ wx us) := h
  have PB : Hid (PX w (W.alloc (.cells #[.int .i64 kind, .int .i64 who, .int .i64 num] 28)) D p.n ((W.heap.size, [.int .i64 kind, .int .i64 who, .int .i64 num]) :: ([] ++ (P, [.slice (some ⟨A, 0, none⟩) 2 2, .slice sx p.way.length c, .int .i64 p.k]) :: (A, [.pointer (some ⟨D false, 0, none⟩), .pointer (some ⟨D true, 0, none⟩)]) :: wx)) im lv) := px_new h.px [.int .i64 kind, .int .i64 who, .int .i64 num] 28
  have p1 := kr_cell PB.out.kr 3 rfl 1 _ rfl
  obtain ⟨q', hq'⟩ : ∃ q', q' = pyStep p kind (two who) num := ⟨_, rfl⟩
  rw [← hq']
  have HQ : Hid (q' = _) := hq'
  generalize htw : two who = tw at *
  generalize hat : pat p num = at_ at *
  generalize hLn : p.way.length = n at *
  have HLn : Hid (p.way.length = n) := hLn
  have HK : Hid (¬ (kind = 0 ∨ kind = 1 ∨ kind = 2 ∨ kind = 3 ∨ kind = 4 ∨ kind = 5 ∨ kind = 6 ∨ kind = 7 ∨ kind = 8 ∨ kind = 9 ∨ kind = 10 ∨ kind = 11)) := hk
  have HAT : Hid (pat p num = at_) := hat
  clear h hLn htw hat hform hq' hk
  go_enter Try.func9, Try.ntmps9
  go_upto_if 16 with (go_at_call 17; refine (hc2 _).mono ?_; rintro e w4 ⟨rfl, rfl⟩)
  have PV := PB.out
  generalize (W.alloc (.cells #[.int .i64 kind, .int .i64 who, .int .i64 num] 28)) = V at *
  have b0 : V.cell? ⟨W.heap.size, 0, none⟩ = some (.int .i64 kind) := kr_cell PV.kr 2 rfl 0 _ rfl
  have b2 : V.cell? ⟨W.heap.size, 2, none⟩ = some (.int .i64 num) := kr_cell PV.kr 2 rfl 2 _ rfl
  replace p1 := kr_cell PV.kr 3 rfl 1 _ rfl
  clear PV hc2
  go_cut [5] (fun v5 wx' => v5 = .int .i64 at_ ∧ PX w wx' D p.n ((W.heap.size, [.int .i64 kind, .int .i64 who, .int .i64 num]) :: ([] ++ (P, [.slice (some ⟨A, 0, none⟩) 2 2, .slice sx n c, .int .i64 p.k]) :: (A, [.pointer (some ⟨D false, 0, none⟩), .pointer (some ⟨D true, 0, none⟩)]) :: wx)) im lv)
  case first =>
    by_cases hpos : 0 < n
    · have hposi : (0 : Int) < (n : Int) := by omega
      have hcn := hcl hpos
      go_wp2
      go_still_tail 7, (by kernel_rfl)
      go_wp2_with (go_at_call 17; refine (hcn _).mono ?_; rintro e w4 ⟨rfl, rfl⟩)
      go_meet
      case rel => exact ⟨rfl, px_call PB.out (bw_drew (Below.refl _ _))⟩
    · have h0 := hp0 hpos
      have hn0 : n = 0 := by omega
      subst hn0
      subst h0
      go_wp2
      go_meet
      case rel => exact ⟨rfl, PB.out⟩
  case rest =>
    obtain ⟨rfl, P5⟩ := hcut
    clear PB hcl hp0 b0 b2 p1
    have b0 : wc.cell? ⟨W.heap.size, 0, none⟩ = some (.int .i64 kind) := kr_cell P5.kr 2 rfl 0 _ rfl
    have b2 : wc.cell? ⟨W.heap.size, 2, none⟩ = some (.int .i64 num) := kr_cell P5.kr 2 rfl 2 _ rfl
    have q0 := kr_cell P5.kr 3 rfl 0 _ rfl
    have q1 := kr_cell P5.kr 3 rfl 1 _ rfl
    have q2 := kr_cell P5.kr 3 rfl 2 _ rfl
    have qa : wc.cell? ⟨A, (bi tw).toNat, none⟩ = some (.pointer (some ⟨D tw, 0, none⟩)) := by cases tw <;> exact kr_cell P5.kr 4 rfl _ _ rfl
    have P5 : Hid (PX w wc D p.n _ im lv) := P5
    have HQ' : Hid (q' = p) := by
      have hk := HK.out
      have hQ := HQ.out
      unfold pyStep at hQ
      rw [if_neg (by omega), if_neg (by omega), if_neg (by omega), if_neg (by omega), if_neg (by omega), if_neg (by omega)] at hQ
      exact hQ
    have hk := HK.out
    have k0 : (kind == 0) = false := by simp; omega
    have k1 : (kind == 1) = false := by simp; omega
    have k2 : (kind == 2) = false := by simp; omega
    have k3 : (kind == 3) = false := by simp; omega
    have k4 : (kind == 4) = false := by simp; omega
    have k5 : (kind == 5) = false := by simp; omega
    have k6 : (kind == 6) = false := by simp; omega
    have k7 : (kind == 7) = false := by simp; omega
    have k8 : (kind == 8) = false := by simp; omega
    have k9 : (kind == 9) = false := by simp; omega
    have k10 : (kind == 10) = false := by simp; omega
    have k11 : (kind == 11) = false := by simp; omega
    clear hk HQ HK
    go_wp2
    refine bodyPost_end (results_none rfl _ _ _) rfl ⟨rfl, ?_⟩
    rw [HQ'.out]
    have hL := HLn.out
    subst hL
    exact pl_keep (ys := [_]) H.out (fun q hq => hq) P5.out

set_option maxRecDepth 100000 in
set_option maxHeartbeats 4000000 in
theorem step_prom (h : PL w W P A D p [] im lv wv wx us) (who num : Int) (hwho : (Lit.int .i64 who).wf = true) (hnum : (Lit.int .i64 num).wf = true) (kind : Int) (hk : kind = 10) (hk0 : 0 ≤ p.k) (hk1 : p.k ≤ 100000) :
    Calls Try.prog 9 #[.pointer (some ⟨P, 0, none⟩), .agg #[.int .i64 kind, .int .i64 who, .int .i64 num]] W fun e W' => e = .returned (.tuple #[]) ∧ PLE w W' P A D (pyStep p kind (two who) num) im := by
  obtain ⟨sx, c, rfl, hc, hform⟩ := ws_form h.ws
  have hwl := h.wl
  have hc2 : ∀ V, Calls Try.prog 17 #[.int .i64 who, .int .i64 2] V fun e W' => e = .returned (.int .i64 (bi (two who))) ∧ W' = V := fun V => by
    rw [← two_bi]; exact cntx_k who hwho 2 (by omega) (by omega)
  have hc5 : ∀ V, Calls Try.prog 17 #[.int .i64 num, .int .i64 5] V fun e W' => e = .returned (.int .i64 (scount num 5)) ∧ W' = V := fun V => cntx_k num hnum 5 (by omega) (by omega)
  have hcl : 0 < p.way.length → ∀ V, Calls Try.prog 17 #[.int .i64 num, .int .i64 (p.way.length : Int)] V fun e W' => e = .returned (.int .i64 (pat p num)) ∧ W' = V := fun h0 V => by
    rw [show pat p num = scount num p.way.length from if_neg (by omega)]; exact cntx_k num hnum _ (by omega) (by omega)
  have hpat : Hid (0 < p.way.length → 0 ≤ pat p num ∧ pat p num < p.way.length) := fun h0 => by
    rw [show pat p num = scount num p.way.length from if_neg (by omega)]; exact scount_lt _ _ (by omega)
  have hp0 : ¬ 0 < p.way.length → pat p num = 0 := fun h0 => if_pos (by omega)
  have H : Hid (PL w W P A D p [] im lv _ wx us) := h
  have PB : Hid (PX w (W.alloc (.cells #[.int .i64 kind, .int .i64 who, .int .i64 num] 28)) D p.n ((W.heap.size, [.int .i64 kind, .int .i64 who, .int .i64 num]) :: ([] ++ (P, [.slice (some ⟨A, 0, none⟩) 2 2, .slice sx p.way.length c, .int .i64 p.k]) :: (A, [.pointer (some ⟨D false, 0, none⟩), .pointer (some ⟨D true, 0, none⟩)]) :: wx)) im lv) := px_new h.px [.int .i64 kind, .int .i64 who, .int .i64 num] 28
  have p1 := kr_cell PB.out.kr 3 rfl 1 _ rfl
  obtain ⟨q', hq'⟩ : ∃ q', q' = pyStep p kind (two who) num := ⟨_, rfl⟩
  rw [← hq']
  have HQ : Hid (q' = _) := hq'
  generalize htw : two who = tw at *
  generalize hat : pat p num = at_ at *
  generalize hLn : p.way.length = n at *
  have HLn : Hid (p.way.length = n) := hLn
  have HK : Hid (kind = 10) := hk
  have HAT : Hid (pat p num = at_) := hat
  clear h hLn htw hat hform hq' hk
  go_enter Try.func9, Try.ntmps9
  go_upto_if 16 with (go_at_call 17; refine (hc2 _).mono ?_; rintro e w4 ⟨rfl, rfl⟩)
  have PV := PB.out
  generalize (W.alloc (.cells #[.int .i64 kind, .int .i64 who, .int .i64 num] 28)) = V at *
  have b0 : V.cell? ⟨W.heap.size, 0, none⟩ = some (.int .i64 kind) := kr_cell PV.kr 2 rfl 0 _ rfl
  have b2 : V.cell? ⟨W.heap.size, 2, none⟩ = some (.int .i64 num) := kr_cell PV.kr 2 rfl 2 _ rfl
  replace p1 := kr_cell PV.kr 3 rfl 1 _ rfl
  clear PV hc2
  go_cut [5] (fun v5 wx' => v5 = .int .i64 at_ ∧ PX w wx' D p.n ((W.heap.size, [.int .i64 kind, .int .i64 who, .int .i64 num]) :: ([] ++ (P, [.slice (some ⟨A, 0, none⟩) 2 2, .slice sx n c, .int .i64 p.k]) :: (A, [.pointer (some ⟨D false, 0, none⟩), .pointer (some ⟨D true, 0, none⟩)]) :: wx)) im lv)
  case first =>
    by_cases hpos : 0 < n
    · have hposi : (0 : Int) < (n : Int) := by omega
      have hcn := hcl hpos
      go_wp2
      go_still_tail 7, (by kernel_rfl)
      go_wp2_with (go_at_call 17; refine (hcn _).mono ?_; rintro e w4 ⟨rfl, rfl⟩)
      go_meet
      case rel => exact ⟨rfl, px_call PB.out (bw_drew (Below.refl _ _))⟩
    · have h0 := hp0 hpos
      have hn0 : n = 0 := by omega
      subst hn0
      subst h0
      go_wp2
      go_meet
      case rel => exact ⟨rfl, PB.out⟩
  case rest =>
    obtain ⟨rfl, P5⟩ := hcut
    clear PB hcl hp0 b0 b2 p1
    have b0 : wc.cell? ⟨W.heap.size, 0, none⟩ = some (.int .i64 kind) := kr_cell P5.kr 2 rfl 0 _ rfl
    have b2 : wc.cell? ⟨W.heap.size, 2, none⟩ = some (.int .i64 num) := kr_cell P5.kr 2 rfl 2 _ rfl
    have q0 := kr_cell P5.kr 3 rfl 0 _ rfl
    have q1 := kr_cell P5.kr 3 rfl 1 _ rfl
    have q2 := kr_cell P5.kr 3 rfl 2 _ rfl
    have qa : wc.cell? ⟨A, (bi tw).toNat, none⟩ = some (.pointer (some ⟨D tw, 0, none⟩)) := by cases tw <;> exact kr_cell P5.kr 4 rfl _ _ rfl
    have P5 : Hid (PX w wc D p.n _ im lv) := P5
    have hk := HK.out
    subst hk
    have hQ2 : q' = { p with n := upd p.n tw (sProm (p.n tw)).1 } := by
      have hQ := HQ.out
      unfold pyStep at hQ
      simpa using hQ
    have HQ' : Hid (q' = _) := hQ2
    clear hQ2
    clear HQ HK
    have e3 := px_prom P5.out tw
    cases tw
    all_goals
      simp only [bi, if_pos, if_neg (show ¬ (false = true) by decide), if_neg (show ¬ (true = false) by decide), Int.toNat_zero, Int.toNat_one] at qa ⊢
      go_wp2_with (go_at_call 19; refine e3.mono ?_; rintro e w5 ⟨rfl, P6⟩)
      refine bodyPost_end (results_none rfl _ _ _) rfl ⟨rfl, ?_⟩
      rw [HQ'.out]
      have hL := HLn.out
      subst hL
      exact pl_keep (ys := [_]) H.out (fun q hq => hq) P6

set_option maxRecDepth 100000 in
set_option maxHeartbeats 4000000 in
theorem step_dem (h : PL w W P A D p [] im lv wv wx us) (who num : Int) (hwho : (Lit.int .i64 who).wf = true) (hnum : (Lit.int .i64 num).wf = true) (kind : Int) (hk : kind = 11) (hk0 : 0 ≤ p.k) (hk1 : p.k ≤ 100000) :
    Calls Try.prog 9 #[.pointer (some ⟨P, 0, none⟩), .agg #[.int .i64 kind, .int .i64 who, .int .i64 num]] W fun e W' => e = .returned (.tuple #[]) ∧ PLE w W' P A D (pyStep p kind (two who) num) im := by
  obtain ⟨sx, c, rfl, hc, hform⟩ := ws_form h.ws
  have hwl := h.wl
  have hc2 : ∀ V, Calls Try.prog 17 #[.int .i64 who, .int .i64 2] V fun e W' => e = .returned (.int .i64 (bi (two who))) ∧ W' = V := fun V => by
    rw [← two_bi]; exact cntx_k who hwho 2 (by omega) (by omega)
  have hc5 : ∀ V, Calls Try.prog 17 #[.int .i64 num, .int .i64 5] V fun e W' => e = .returned (.int .i64 (scount num 5)) ∧ W' = V := fun V => cntx_k num hnum 5 (by omega) (by omega)
  have hcl : 0 < p.way.length → ∀ V, Calls Try.prog 17 #[.int .i64 num, .int .i64 (p.way.length : Int)] V fun e W' => e = .returned (.int .i64 (pat p num)) ∧ W' = V := fun h0 V => by
    rw [show pat p num = scount num p.way.length from if_neg (by omega)]; exact cntx_k num hnum _ (by omega) (by omega)
  have hpat : Hid (0 < p.way.length → 0 ≤ pat p num ∧ pat p num < p.way.length) := fun h0 => by
    rw [show pat p num = scount num p.way.length from if_neg (by omega)]; exact scount_lt _ _ (by omega)
  have hp0 : ¬ 0 < p.way.length → pat p num = 0 := fun h0 => if_pos (by omega)
  have H : Hid (PL w W P A D p [] im lv _ wx us) := h
  have PB : Hid (PX w (W.alloc (.cells #[.int .i64 kind, .int .i64 who, .int .i64 num] 28)) D p.n ((W.heap.size, [.int .i64 kind, .int .i64 who, .int .i64 num]) :: ([] ++ (P, [.slice (some ⟨A, 0, none⟩) 2 2, .slice sx p.way.length c, .int .i64 p.k]) :: (A, [.pointer (some ⟨D false, 0, none⟩), .pointer (some ⟨D true, 0, none⟩)]) :: wx)) im lv) := px_new h.px [.int .i64 kind, .int .i64 who, .int .i64 num] 28
  have p1 := kr_cell PB.out.kr 3 rfl 1 _ rfl
  obtain ⟨q', hq'⟩ : ∃ q', q' = pyStep p kind (two who) num := ⟨_, rfl⟩
  rw [← hq']
  have HQ : Hid (q' = _) := hq'
  generalize htw : two who = tw at *
  generalize hat : pat p num = at_ at *
  generalize hLn : p.way.length = n at *
  have HLn : Hid (p.way.length = n) := hLn
  have HK : Hid (kind = 11) := hk
  have HAT : Hid (pat p num = at_) := hat
  clear h hLn htw hat hform hq' hk
  go_enter Try.func9, Try.ntmps9
  go_upto_if 16 with (go_at_call 17; refine (hc2 _).mono ?_; rintro e w4 ⟨rfl, rfl⟩)
  have PV := PB.out
  generalize (W.alloc (.cells #[.int .i64 kind, .int .i64 who, .int .i64 num] 28)) = V at *
  have b0 : V.cell? ⟨W.heap.size, 0, none⟩ = some (.int .i64 kind) := kr_cell PV.kr 2 rfl 0 _ rfl
  have b2 : V.cell? ⟨W.heap.size, 2, none⟩ = some (.int .i64 num) := kr_cell PV.kr 2 rfl 2 _ rfl
  replace p1 := kr_cell PV.kr 3 rfl 1 _ rfl
  clear PV hc2
  go_cut [5] (fun v5 wx' => v5 = .int .i64 at_ ∧ PX w wx' D p.n ((W.heap.size, [.int .i64 kind, .int .i64 who, .int .i64 num]) :: ([] ++ (P, [.slice (some ⟨A, 0, none⟩) 2 2, .slice sx n c, .int .i64 p.k]) :: (A, [.pointer (some ⟨D false, 0, none⟩), .pointer (some ⟨D true, 0, none⟩)]) :: wx)) im lv)
  case first =>
    by_cases hpos : 0 < n
    · have hposi : (0 : Int) < (n : Int) := by omega
      have hcn := hcl hpos
      go_wp2
      go_still_tail 7, (by kernel_rfl)
      go_wp2_with (go_at_call 17; refine (hcn _).mono ?_; rintro e w4 ⟨rfl, rfl⟩)
      go_meet
      case rel => exact ⟨rfl, px_call PB.out (bw_drew (Below.refl _ _))⟩
    · have h0 := hp0 hpos
      have hn0 : n = 0 := by omega
      subst hn0
      subst h0
      go_wp2
      go_meet
      case rel => exact ⟨rfl, PB.out⟩
  case rest =>
    obtain ⟨rfl, P5⟩ := hcut
    clear PB hcl hp0 b0 b2 p1
    have b0 : wc.cell? ⟨W.heap.size, 0, none⟩ = some (.int .i64 kind) := kr_cell P5.kr 2 rfl 0 _ rfl
    have b2 : wc.cell? ⟨W.heap.size, 2, none⟩ = some (.int .i64 num) := kr_cell P5.kr 2 rfl 2 _ rfl
    have q0 := kr_cell P5.kr 3 rfl 0 _ rfl
    have q1 := kr_cell P5.kr 3 rfl 1 _ rfl
    have q2 := kr_cell P5.kr 3 rfl 2 _ rfl
    have qa : wc.cell? ⟨A, (bi tw).toNat, none⟩ = some (.pointer (some ⟨D tw, 0, none⟩)) := by cases tw <;> exact kr_cell P5.kr 4 rfl _ _ rfl
    have P5 : Hid (PX w wc D p.n _ im lv) := P5
    have hk := HK.out
    subst hk
    have hQ2 : q' = { p with n := upd p.n tw (sDem (p.n tw)).1 } := by
      have hQ := HQ.out
      unfold pyStep at hQ
      simpa using hQ
    have HQ' : Hid (q' = _) := hQ2
    clear hQ2
    clear HQ HK
    have e3 := px_dem P5.out tw
    cases tw
    all_goals
      simp only [bi, if_pos, if_neg (show ¬ (false = true) by decide), if_neg (show ¬ (true = false) by decide), Int.toNat_zero, Int.toNat_one] at qa ⊢
      go_wp2_with (go_at_call 18; refine e3.mono ?_; rintro e w5 ⟨rfl, P6⟩)
      refine bodyPost_end (results_none rfl _ _ _) rfl ⟨rfl, ?_⟩
      rw [HQ'.out]
      have hL := HLn.out
      subst hL
      exact pl_keep (ys := [_]) H.out (fun q hq => hq) P6

set_option maxRecDepth 100000 in
set_option maxHeartbeats 4000000 in
theorem step_lose (h : PL w W P A D p [] im lv wv wx us) (who num : Int) (hwho : (Lit.int .i64 who).wf = true) (hnum : (Lit.int .i64 num).wf = true) (kind : Int) (hk : kind = 8) (hk0 : 0 ≤ p.k) (hk1 : p.k ≤ 100000) :
    Calls Try.prog 9 #[.pointer (some ⟨P, 0, none⟩), .agg #[.int .i64 kind, .int .i64 who, .int .i64 num]] W fun e W' => e = .returned (.tuple #[]) ∧ PLE w W' P A D (pyStep p kind (two who) num) im := by
  obtain ⟨sx, c, rfl, hc, hform⟩ := ws_form h.ws
  have hwl := h.wl
  have hc2 : ∀ V, Calls Try.prog 17 #[.int .i64 who, .int .i64 2] V fun e W' => e = .returned (.int .i64 (bi (two who))) ∧ W' = V := fun V => by
    rw [← two_bi]; exact cntx_k who hwho 2 (by omega) (by omega)
  have hc5 : ∀ V, Calls Try.prog 17 #[.int .i64 num, .int .i64 5] V fun e W' => e = .returned (.int .i64 (scount num 5)) ∧ W' = V := fun V => cntx_k num hnum 5 (by omega) (by omega)
  have hcl : 0 < p.way.length → ∀ V, Calls Try.prog 17 #[.int .i64 num, .int .i64 (p.way.length : Int)] V fun e W' => e = .returned (.int .i64 (pat p num)) ∧ W' = V := fun h0 V => by
    rw [show pat p num = scount num p.way.length from if_neg (by omega)]; exact cntx_k num hnum _ (by omega) (by omega)
  have hpat : Hid (0 < p.way.length → 0 ≤ pat p num ∧ pat p num < p.way.length) := fun h0 => by
    rw [show pat p num = scount num p.way.length from if_neg (by omega)]; exact scount_lt _ _ (by omega)
  have hp0 : ¬ 0 < p.way.length → pat p num = 0 := fun h0 => if_pos (by omega)
  have H : Hid (PL w W P A D p [] im lv _ wx us) := h
  have PB : Hid (PX w (W.alloc (.cells #[.int .i64 kind, .int .i64 who, .int .i64 num] 28)) D p.n ((W.heap.size, [.int .i64 kind, .int .i64 who, .int .i64 num]) :: ([] ++ (P, [.slice (some ⟨A, 0, none⟩) 2 2, .slice sx p.way.length c, .int .i64 p.k]) :: (A, [.pointer (some ⟨D false, 0, none⟩), .pointer (some ⟨D true, 0, none⟩)]) :: wx)) im lv) := px_new h.px [.int .i64 kind, .int .i64 who, .int .i64 num] 28
  have p1 := kr_cell PB.out.kr 3 rfl 1 _ rfl
  obtain ⟨q', hq'⟩ : ∃ q', q' = pyStep p kind (two who) num := ⟨_, rfl⟩
  rw [← hq']
  have HQ : Hid (q' = _) := hq'
  generalize htw : two who = tw at *
  generalize hat : pat p num = at_ at *
  generalize hLn : p.way.length = n at *
  have HLn : Hid (p.way.length = n) := hLn
  have HK : Hid (kind = 8) := hk
  have HAT : Hid (pat p num = at_) := hat
  clear h hLn htw hat hform hq' hk
  go_enter Try.func9, Try.ntmps9
  go_upto_if 16 with (go_at_call 17; refine (hc2 _).mono ?_; rintro e w4 ⟨rfl, rfl⟩)
  have PV := PB.out
  generalize (W.alloc (.cells #[.int .i64 kind, .int .i64 who, .int .i64 num] 28)) = V at *
  have b0 : V.cell? ⟨W.heap.size, 0, none⟩ = some (.int .i64 kind) := kr_cell PV.kr 2 rfl 0 _ rfl
  have b2 : V.cell? ⟨W.heap.size, 2, none⟩ = some (.int .i64 num) := kr_cell PV.kr 2 rfl 2 _ rfl
  replace p1 := kr_cell PV.kr 3 rfl 1 _ rfl
  clear PV hc2
  go_cut [5] (fun v5 wx' => v5 = .int .i64 at_ ∧ PX w wx' D p.n ((W.heap.size, [.int .i64 kind, .int .i64 who, .int .i64 num]) :: ([] ++ (P, [.slice (some ⟨A, 0, none⟩) 2 2, .slice sx n c, .int .i64 p.k]) :: (A, [.pointer (some ⟨D false, 0, none⟩), .pointer (some ⟨D true, 0, none⟩)]) :: wx)) im lv)
  case first =>
    by_cases hpos : 0 < n
    · have hposi : (0 : Int) < (n : Int) := by omega
      have hcn := hcl hpos
      go_wp2
      go_still_tail 7, (by kernel_rfl)
      go_wp2_with (go_at_call 17; refine (hcn _).mono ?_; rintro e w4 ⟨rfl, rfl⟩)
      go_meet
      case rel => exact ⟨rfl, px_call PB.out (bw_drew (Below.refl _ _))⟩
    · have h0 := hp0 hpos
      have hn0 : n = 0 := by omega
      subst hn0
      subst h0
      go_wp2
      go_meet
      case rel => exact ⟨rfl, PB.out⟩
  case rest =>
    obtain ⟨rfl, P5⟩ := hcut
    clear PB hcl hp0 b0 b2 p1
    have b0 : wc.cell? ⟨W.heap.size, 0, none⟩ = some (.int .i64 kind) := kr_cell P5.kr 2 rfl 0 _ rfl
    have b2 : wc.cell? ⟨W.heap.size, 2, none⟩ = some (.int .i64 num) := kr_cell P5.kr 2 rfl 2 _ rfl
    have q0 := kr_cell P5.kr 3 rfl 0 _ rfl
    have q1 := kr_cell P5.kr 3 rfl 1 _ rfl
    have q2 := kr_cell P5.kr 3 rfl 2 _ rfl
    have qa : wc.cell? ⟨A, (bi tw).toNat, none⟩ = some (.pointer (some ⟨D tw, 0, none⟩)) := by cases tw <;> exact kr_cell P5.kr 4 rfl _ _ rfl
    have P5 : Hid (PX w wc D p.n _ im lv) := P5
    have hk := HK.out
    subst hk
    by_cases hpos : 0 < n
    · have hposi : (0 : Int) < (n : Int) := by omega
      obtain ⟨h1, h2⟩ := hpat.out hpos
      obtain ⟨ia, rfl⟩ : ∃ ia : Nat, at_ = (ia : Int) := ⟨at_.toNat, by omega⟩
      have hia : ia < n := by omega
      have HQ' : Hid (q' = pyLose p ia) := by
        have hQ := HQ.out
        have hA := HAT.out
        have hL := HLn.out
        unfold pyStep at hQ
        rw [show scount num p.way.length = (ia : Int) from by rw [← hA]; exact (if_neg (by omega)).symm] at hQ
        rw [if_neg (by decide), if_neg (by decide), if_neg (by decide), if_pos rfl, if_neg (fun e => by rw [e] at hL; simp at hL; omega)] at hQ
        exact hQ
      have hL := HLn.out
      subst hL
      have H2 := pl_imm (n := p.n) H.out P5.out
      have e3 := lose_k H2 ia hia
      clear H2
      generalize p.way.length = n at *
      clear HQ HK hpat
      go_wp2_with (go_at_call 30; refine e3.mono ?_; rintro e w5 ⟨rfl, P6⟩)
      refine bodyPost_end (results_none rfl _ _ _) rfl ⟨rfl, ?_⟩
      rw [HQ'.out]
      exact ple_mono P6 (fun q hq => List.mem_cons_of_mem _ hq)
    · have hn0 : n = 0 := by omega
      subst hn0
      have HQ' : Hid (q' = p) := by
        have hQ := HQ.out
        have hL := HLn.out
        unfold pyStep at hQ
        rw [if_neg (by decide), if_neg (by decide), if_neg (by decide), if_pos rfl, if_pos (List.eq_nil_of_length_eq_zero hL)] at hQ
        exact hQ
      clear HQ HK hpat
      go_wp2
      refine bodyPost_end (results_none rfl _ _ _) rfl ⟨rfl, ?_⟩
      rw [HQ'.out]
      exact pl_keep (ys := [_]) H.out (fun q hq => hq) P5.out

set_option maxRecDepth 100000 in
set_option maxHeartbeats 16000000 in
theorem step_come (h : PL w W P A D p [] im lv wv wx us) (who num : Int) (hwho : (Lit.int .i64 who).wf = true) (hnum : (Lit.int .i64 num).wf = true) (kind : Int) (hk : kind = 5 ∨ kind = 6 ∨ kind = 7 ∨ kind = 9) (hk0 : 0 ≤ p.k) (hk1 : p.k ≤ 100000) :
    Calls Try.prog 9 #[.pointer (some ⟨P, 0, none⟩), .agg #[.int .i64 kind, .int .i64 who, .int .i64 num]] W fun e W' => e = .returned (.tuple #[]) ∧ PLE w W' P A D (pyStep p kind (two who) num) im := by
  obtain ⟨sx, c, rfl, hc, hform⟩ := ws_form h.ws
  have hwl := h.wl
  have hc2 : ∀ V, Calls Try.prog 17 #[.int .i64 who, .int .i64 2] V fun e W' => e = .returned (.int .i64 (bi (two who))) ∧ W' = V := fun V => by
    rw [← two_bi]; exact cntx_k who hwho 2 (by omega) (by omega)
  have hc5 : ∀ V, Calls Try.prog 17 #[.int .i64 num, .int .i64 5] V fun e W' => e = .returned (.int .i64 (scount num 5)) ∧ W' = V := fun V => cntx_k num hnum 5 (by omega) (by omega)
  have hcl : 0 < p.way.length → ∀ V, Calls Try.prog 17 #[.int .i64 num, .int .i64 (p.way.length : Int)] V fun e W' => e = .returned (.int .i64 (pat p num)) ∧ W' = V := fun h0 V => by
    rw [show pat p num = scount num p.way.length from if_neg (by omega)]; exact cntx_k num hnum _ (by omega) (by omega)
  have hpat : Hid (0 < p.way.length → 0 ≤ pat p num ∧ pat p num < p.way.length) := fun h0 => by
    rw [show pat p num = scount num p.way.length from if_neg (by omega)]; exact scount_lt _ _ (by omega)
  have hp0 : ¬ 0 < p.way.length → pat p num = 0 := fun h0 => if_pos (by omega)
  have H : Hid (PL w W P A D p [] im lv _ wx us) := h
  have PB : Hid (PX w (W.alloc (.cells #[.int .i64 kind, .int .i64 who, .int .i64 num] 28)) D p.n ((W.heap.size, [.int .i64 kind, .int .i64 who, .int .i64 num]) :: ([] ++ (P, [.slice (some ⟨A, 0, none⟩) 2 2, .slice sx p.way.length c, .int .i64 p.k]) :: (A, [.pointer (some ⟨D false, 0, none⟩), .pointer (some ⟨D true, 0, none⟩)]) :: wx)) im lv) := px_new h.px [.int .i64 kind, .int .i64 who, .int .i64 num] 28
  have p1 := kr_cell PB.out.kr 3 rfl 1 _ rfl
  obtain ⟨q', hq'⟩ : ∃ q', q' = pyStep p kind (two who) num := ⟨_, rfl⟩
  rw [← hq']
  have HQ : Hid (q' = _) := hq'
  generalize htw : two who = tw at *
  generalize hat : pat p num = at_ at *
  generalize hLn : p.way.length = n at *
  have HLn : Hid (p.way.length = n) := hLn
  have HK : Hid (kind = 5 ∨ kind = 6 ∨ kind = 7 ∨ kind = 9) := hk
  have HAT : Hid (pat p num = at_) := hat
  clear h hLn htw hat hform hq' hk
  go_enter Try.func9, Try.ntmps9
  go_upto_if 16 with (go_at_call 17; refine (hc2 _).mono ?_; rintro e w4 ⟨rfl, rfl⟩)
  have PV := PB.out
  generalize (W.alloc (.cells #[.int .i64 kind, .int .i64 who, .int .i64 num] 28)) = V at *
  have b0 : V.cell? ⟨W.heap.size, 0, none⟩ = some (.int .i64 kind) := kr_cell PV.kr 2 rfl 0 _ rfl
  have b2 : V.cell? ⟨W.heap.size, 2, none⟩ = some (.int .i64 num) := kr_cell PV.kr 2 rfl 2 _ rfl
  replace p1 := kr_cell PV.kr 3 rfl 1 _ rfl
  clear PV hc2
  go_cut [5] (fun v5 wx' => v5 = .int .i64 at_ ∧ PX w wx' D p.n ((W.heap.size, [.int .i64 kind, .int .i64 who, .int .i64 num]) :: ([] ++ (P, [.slice (some ⟨A, 0, none⟩) 2 2, .slice sx n c, .int .i64 p.k]) :: (A, [.pointer (some ⟨D false, 0, none⟩), .pointer (some ⟨D true, 0, none⟩)]) :: wx)) im lv)
  case first =>
    by_cases hpos : 0 < n
    · have hposi : (0 : Int) < (n : Int) := by omega
      have hcn := hcl hpos
      go_wp2
      go_still_tail 7, (by kernel_rfl)
      go_wp2_with (go_at_call 17; refine (hcn _).mono ?_; rintro e w4 ⟨rfl, rfl⟩)
      go_meet
      case rel => exact ⟨rfl, px_call PB.out (bw_drew (Below.refl _ _))⟩
    · have h0 := hp0 hpos
      have hn0 : n = 0 := by omega
      subst hn0
      subst h0
      go_wp2
      go_meet
      case rel => exact ⟨rfl, PB.out⟩
  case rest =>
    obtain ⟨rfl, P5⟩ := hcut
    clear PB hcl hp0 b0 b2 p1
    have b0 : wc.cell? ⟨W.heap.size, 0, none⟩ = some (.int .i64 kind) := kr_cell P5.kr 2 rfl 0 _ rfl
    have b2 : wc.cell? ⟨W.heap.size, 2, none⟩ = some (.int .i64 num) := kr_cell P5.kr 2 rfl 2 _ rfl
    have q0 := kr_cell P5.kr 3 rfl 0 _ rfl
    have q1 := kr_cell P5.kr 3 rfl 1 _ rfl
    have q2 := kr_cell P5.kr 3 rfl 2 _ rfl
    have qa : wc.cell? ⟨A, (bi tw).toNat, none⟩ = some (.pointer (some ⟨D tw, 0, none⟩)) := by cases tw <;> exact kr_cell P5.kr 4 rfl _ _ rfl
    have P5 : Hid (PX w wc D p.n _ im lv) := P5
    by_cases hpos : 0 < n
    · have hposi : (0 : Int) < (n : Int) := by omega
      obtain ⟨h1, h2⟩ := hpat.out hpos
      obtain ⟨ia, rfl⟩ : ∃ ia : Nat, at_ = (ia : Int) := ⟨at_.toNat, by omega⟩
      have hia : ia < n := by omega
      have hL := HLn.out
      obtain ⟨x, hx⟩ : ∃ x, p.way[ia]? = some x := ⟨_, List.getElem?_eq_getElem (by omega)⟩
      have hQ2 : q' = if kind = 9 then pyCome p x else pyLose (pyCome p x) ia := by
        have hQ := HQ.out
        have hA := HAT.out
        have hk := HK.out
        unfold pyStep at hQ
        rw [show scount num p.way.length = (ia : Int) from by rw [← hA]; exact (if_neg (by omega)).symm] at hQ
        rw [if_neg (by omega), if_neg (by omega), if_pos (by omega), Int.toNat_natCast, hx] at hQ
        exact hQ
      have HQ' : Hid (q' = _) := hQ2
      clear hQ2
      subst hL
      have H2 := pl_imm (n := p.n) H.out P5.out
      have e3 := come_k H2 ia x hx
      have hlen : p.way.length ≤ (pyCome p x).way.length := by
        unfold pyCome
        split
        · exact Nat.le_refl _
        · show _ ≤ (if _ then _ else _ : List SL).length
          split
          · rw [List.length_append]; omega
          · exact Nat.le_refl _
      have HLE : Hid (ia < (pyCome p x).way.length) := show _ from Nat.lt_of_lt_of_le hia hlen
      clear hlen H2 hx
      generalize p.way.length = n at *
      clear HQ hpat
      rcases HK.out with rfl | rfl | rfl | rfl
      all_goals
        clear HK
        go_wp2_with (first | (go_at_call 29; refine e3.mono ?_; rintro e w5 ⟨rfl, im5, lv5, wv5, wx5, us5, hm5, P6⟩; have r0 : w5.cell? ⟨W.heap.size, 0, none⟩ = some (.int .i64 _) := kr_mem P6.px.kr (List.mem_cons_of_mem _ (List.mem_cons_of_mem _ (List.mem_append_right _ (hm5 _ List.mem_cons_self)))) 0 _ rfl; have e4 := lose_k P6 ia HLE.out; have P6 : Hid (PL _ _ _ _ _ _ _ _ _ _ _ _) := P6; have HM5 : Hid (∀ q ∈ _, q ∈ im5) := hm5; clear hm5) | (go_at_call 30; refine e4.mono ?_; rintro e w6 ⟨rfl, P7⟩))
        refine bodyPost_end (results_none rfl _ _ _) rfl ⟨rfl, ?_⟩
        have hQ := HQ'.out
        first
          | (rw [if_neg (by decide)] at hQ; rw [hQ]; exact ple_mono P7 (fun q hq => HM5.out q (List.mem_cons_of_mem _ hq)))
          | ((first | rw [if_pos rfl] at hQ | rw [if_pos trivial] at hQ); rw [hQ]; exact ⟨im5, lv5, wv5, wx5, us5, fun q hq => HM5.out q (List.mem_cons_of_mem _ hq), P6.out⟩)
    · have hn0 : n = 0 := by omega
      subst hn0
      have hQ2 : q' = p := by
        have hQ := HQ.out
        have hL := HLn.out
        have hk := HK.out
        unfold pyStep at hQ
        rw [if_neg (by omega), if_neg (by omega), if_pos (by omega), List.eq_nil_of_length_eq_zero hL] at hQ
        exact hQ
      have HQ' : Hid (q' = _) := hQ2
      clear HQ hpat hQ2
      rcases HK.out with rfl | rfl | rfl | rfl
      all_goals
        clear HK
        go_wp2
        refine bodyPost_end (results_none rfl _ _ _) rfl ⟨rfl, ?_⟩
        rw [HQ'.out]
        exact pl_keep (ys := [_]) H.out (fun q hq => hq) P5.out

end
end Go.Proofs.Ytofpkmfjigjlhaa.Own
