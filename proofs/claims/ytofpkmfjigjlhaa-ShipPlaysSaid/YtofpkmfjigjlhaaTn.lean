/- dayshiftlaw31's taken, dayshiftref31's Same. No conditions beside those in each theorem. -/
import Derived.Test.YtofpkmfjigjlhaaAn
import Derived.Deep.RegionHeld3
import Derived.BigQuiet
namespace Go.Proofs.Ytofpkmfjigjlhaa.Own
open Go.RowKit
set_option linter.unusedSimpArgs false
set_option linter.unusedVariables false
theorem hidN {p : Prop} (h : p) : Hid p := h
theorem rent_info : (Try.prog.info? 43).map (fun i => (i.zero, i.size, i.bytes)) = some (some (.agg #[.int .i64 0, .slice none 0 0]), 2, 32) := by kernel_rfl
theorem srcV_build {W : World} (cs : List Value) (t : TypeId) : SrcV (W.alloc (.cells cs.toArray t)) (some ⟨W.heap.size, 0, none⟩) cs := fun _ => ⟨_, rfl, fun j v hv => by
  rw [Addr.add_mid, World.cell?_alloc_new]; simpa using hv⟩
/-- One entry out of a list in rows. -/
theorem el_at {w : World} {rows im : List (Nat × List Value)} {sp : Option Addr} {es : List SE} {vals : List Value} (hl : vals.length = es.length) (hform : sp = none ∨ ∃ b, sp = some ⟨b, 0, none⟩) (hS : ∀ W1, KR w rows W1 → SrcV W1 sp (ecl es vals)) (hf : ∀ (j : Nat) (u : Value) (x : SE), vals[j]? = some u → es[j]? = some x → FC im u x.2) {W : World} (HK : KR w rows W) {i : Nat} {x : SE} (hx : es[i]? = some x) :
    ∃ b sj cj, sp = some ⟨b, 0, none⟩ ∧ vals[i]? = some (.slice sj x.2.length cj) ∧ x.2.length ≤ cj ∧ ∀ W1, KR w rows W1 → W1.cell? ⟨b, i * 2, none⟩ = some (.int .i64 x.1) ∧ W1.cell? ⟨b, i * 2 + 1, none⟩ = some (.slice sj x.2.length cj) := by
  have hi := (List.getElem?_eq_some_iff.1 hx).1
  have hv : vals[i]? = some (vals[i]'(by omega)) := List.getElem?_eq_getElem (by omega)
  obtain ⟨sj, cj, he, hc⟩ := fc_form (hf i _ x hv hx)
  rw [he] at hv
  obtain ⟨g1, g2⟩ := ecl_get es vals i x _ hx hv
  rcases hform with rfl | ⟨b, rfl⟩
  · obtain ⟨A, hA, _⟩ := hS W HK (by rw [ecl_len _ _ hl]; omega)
    cases hA
  · refine ⟨b, sj, cj, rfl, hv, hc, fun W1 H1 => ?_⟩
    obtain ⟨A, hA, hcc⟩ := hS W1 H1 (by rw [ecl_len _ _ hl]; omega)
    injection hA with hA
    subst hA
    have a1 := hcc _ _ g1
    have a2 := hcc _ _ g2
    rw [Addr.add_mid, Nat.zero_add] at a1 a2
    exact ⟨a1, a2⟩
set_option maxRecDepth 100000 in
set_option maxHeartbeats 2000000 in
theorem taken31_k {w W : World} {rs im : List (Nat × List Value)} (HK : KR w rs W) (hs : ∀ p ∈ im, p ∈ rs) (es : List SE) (n : Nat) (hn : Hid (es.length = n)) (h2 : n ≤ 100000) (sp : Option Addr) (c : Nat) (HE : EL im (.slice sp n c) es) :
    Calls Try.prog 10 #[.slice sp n c] W fun e W' => ∃ v l, e = .returned v ∧ KR w (l ++ rs) W' ∧ EL (l ++ im) v es := by
  have h2i : (n : Int) ≤ 100000 := by omega
  obtain ⟨sp', c', vals, he, hlc, hvl, -, hfc, hone, hform, hsrc⟩ := el_srcM HK hs HE
  injection he with he1 he2 he3
  subst he1
  have HN2 : Hid (n ≤ 100000) := h2
  have H0 : Hid (KR w rs W) := HK
  have HF : Hid (∀ (j : Nat) (u : Value) (x : SE), vals[j]? = some u → es[j]? = some x → FC im u x.2) := hfc
  have HX : Hid ((∀ W1, KR w rs W1 → SrcV W1 sp (ecl es vals)) ∧ vals.length = es.length ∧ (sp = none ∨ ∃ b, sp = some ⟨b, 0, none⟩)) := ⟨hsrc, hvl, hform⟩
  clear he2 he3 hlc hvl hfc hone hform hsrc HE h2 HK
  go_enter Try.func10, Try.ntmps10
  go_wp2
  go_loopw [3, 4] (fun v3 v4 W => ∃ i : Nat, v4 = .int .i64 (i : Int) ∧ i ≤ n ∧ Own w rs 43 2 v3 i (ecl (es.take i) (vals.take i)) W ∧ KR w rs W) (fun v3 v4 _ => n - (intOf v4).toNat)
  case atStart => exact ⟨0, rfl, Nat.zero_le _, own_nilF _ _ _ _ _, H0.out⟩
  case round =>
    clear H0
    obtain ⟨i, rfl, hi, OI, HI⟩ := hrel
    obtain ⟨s3, c3, rfl⟩ := own_form OI
    by_cases hlt : i < n
    · have hii : (i : Int) < (n : Int) := by omega
      have hg : es[i]? = some (es[i]'(by rw [hn.out]; exact hlt)) := List.getElem?_eq_getElem (by rw [hn.out]; exact hlt)
      obtain ⟨b, sj, cj, rfl, hv, hcj, hcell⟩ := el_at HX.out.2.1 HX.out.2.2 HX.out.1 HF.out HI hg
      have hnew : ecl (es.take (i + 1)) (vals.take (i + 1)) = ecl (es.take i) (vals.take i) ++ [.int .i64 (es[i]'(by rw [hn.out]; exact hlt)).1, .slice sj (es[i]'(by rw [hn.out]; exact hlt)).2.length cj] := by
        rw [List.take_add_one, List.take_add_one, hg, hv]
        exact ecl_app _ _ _ _ (by rw [List.length_take, List.length_take, HX.out.2.1])
      have HNW : Hid _ := hidN hnew
      generalize es[i]'(by rw [hn.out]; exact hlt) = x at hcell hcj HNW
      obtain ⟨k0, k1⟩ := hcell _ HI
      obtain ⟨m, hm⟩ : ∃ m, m = x.2.length := ⟨_, rfl⟩
      rw [← hm] at k1 HNW hcell
      have HC : Hid (∀ W1, KR w rs W1 → W1.cell? ⟨b, i * 2, none⟩ = some (.int .i64 x.1) ∧ W1.cell? ⟨b, i * 2 + 1, none⟩ = some (.slice sj m cj)) := hcell
      have OH : Hid (Own w rs _ _ _ _ _ wr) := OI
      have KH : Hid (KR w rs wr) := HI
      have HLT : Hid (i < n) := hlt
      clear hg hv hnew hcell hcj hm OI HI hlt
      go_wp2_with fail
      go_region_held3 (fun V => V.cell? ⟨b, i * 2, none⟩ = some (.int .i64 x.1) ∧ V.cell? ⟨b, i * 2 + 1, none⟩ = some (.slice sj m cj)) (first | (with_reducible exact hS3) | go_keep) ((refine step_appendK _ _ 25 43 (.agg #[.int .i64 0, .slice none 0 0]) 2 32 (kr_alloc (kr_drew KH.out) _) (own_alloc (own_drew OH.out) _) _ 1 1 [.int .i64 x.1, .slice sj m cj] (srcV_build _ _) rfl (by intro v hv; rcases List.mem_cons.1 hv with rfl | hv; rfl; rw [List.mem_singleton.1 hv]; rfl) (by have := HN2.out; have := HLT.out; unfold maxLen; omega) (by have := HN2.out; have := HLT.out; omega) Try.underlying25 rent_info rfl (by omega) rfl rfl (by rfl) (by rfl) ?_; intro v' W' O2 H2 hz; obtain ⟨s4, c4, rfl⟩ := own_form O2; have hS3 := HC.out _ H2; have O3 : Hid (Own w rs _ _ _ _ _ W') := O2; have H3 : Hid (KR w rs W') := H2; clear O2 H2))
      go_wp2_with fail
      go_round
      case rel => exact ⟨i + 1, by go_num, HLT.out, by rw [HNW.out]; exact O3.out, H3.out⟩
      case measure => have := HLT.out; (simp [intOf]; try omega)
    · obtain rfl : i = n := by omega
      have OH : Hid (Own w rs _ _ _ _ _ wr) := OI
      have KH : Hid (KR w rs wr) := HI
      clear OI HI
      go_wp2_with fail
      go_ret
      have hO := OH.out
      have hE := hn.out
      rw [List.take_of_length_le (by omega), List.take_of_length_le (by rw [HX.out.2.1]; omega)] at hO
      obtain ⟨l, HL, HC⟩ := own_settle KH.out hO
      exact ⟨_, l, rfl, HL, vals, HX.out.2.1, by rw [hE]; exact sc_mono HC (fun p hp => List.mem_append_left _ hp), fun j u x hu hx => fc_monoL (HF.out j u x hu hx) (fun p hp => List.mem_append_right _ hp)⟩
set_option maxRecDepth 100000 in
set_option maxHeartbeats 2000000 in
theorem same31_k {w : World} (es : List SE) (n : Nat) (hn : Hid (es.length = n)) (h2 : n ≤ 100000) (hz : Hid (∀ x ∈ es, x.2.length ≤ 140737488351232)) (sp sq : Option Addr) (c d : Nat) (hE : Hid (ELV w sp es)) (hM : Hid (ELV w sq es)) :
    Calls Try.prog 13 #[.slice sp n c, .slice sq n d] w fun e W' => e = .returned (.bool true) ∧ ∃ q, W' = w.drewN q := by
  have h2i : (n : Int) ≤ 100000 := by omega
  clear h2
  go_enter Try.func13, Try.ntmps13
  go_wp2
  go_loopw [5] (fun v5 W => ∃ (k : Nat) (q : Nat), v5 = .int .i64 (k : Int) ∧ k ≤ n ∧ W = w.drewN q) (fun v5 _ => n - (intOf v5).toNat)
  case atStart => exact ⟨0, 0, rfl, Nat.zero_le _, rfl⟩
  case round =>
    obtain ⟨k, q, rfl, hk, rfl⟩ := hrel
    by_cases h1 : k < n
    · have h1i : (k : Int) < (n : Int) := by omega
      obtain ⟨A, rfl, hc⟩ := hE.out (by rw [hn.out]; omega)
      obtain ⟨B, rfl, hd⟩ := hM.out (by rw [hn.out]; omega)
      have hg : es[k]? = some (es[k]'(by rw [hn.out]; exact h1)) := List.getElem?_eq_getElem (by rw [hn.out]; exact h1)
      have hxl := hz.out _ (List.mem_of_getElem? hg)
      obtain ⟨sj, cj, a0, a1, -, hS1⟩ := hc _ _ hg
      obtain ⟨sk, ck, b0, b1, -, hS2⟩ := hd _ _ hg
      generalize es[k]'(by rw [hn.out]; exact h1) = x at a0 a1 b0 b1 hS1 hS2 hxl
      have q1 : ∀ nq, (convert 41 9 (.slice sj x.2.length cj)).run Try.prog (w.drewN nq) = .ok (.string (strOfNums x.2)) (w.drewN nq) := fun nq => conv_cells _ _ rfl (srcV_keep hS1 (bw_drewN (Below.refl _ _) nq))
      have q2 : ∀ nq, (convert 41 9 (.slice sk x.2.length ck)).run Try.prog (w.drewN nq) = .ok (.string (strOfNums x.2)) (w.drewN nq) := fun nq => conv_cells _ _ rfl (srcV_keep hS2 (bw_drewN (Below.refl _ _) nq))
      have hsz : (strOfNums x.2).size ≤ 140737488351232 := by rw [strOfNums_size]; omega
      have HLT : Hid (k < n) := h1
      generalize strOfNums x.2 = sb at q1 q2 hsz
      generalize x.2.length = m at a1 b1 q1 q2
      generalize x.1 = z at a0 b0
      clear hS1 hS2 hc hd hg hxl h1 hk
      go_wp2_with fail
      go_quiet (fail)
      clear q1 q2
      go_wp2_with fail
      go_round
      case rel => exact ⟨k + 1, _, by go_num, HLT.out, rfl⟩
      case measure => have := HLT.out; (simp [intOf]; try omega)
    · have h1' : ¬ (k : Int) < (n : Int) := by omega
      clear h1 hk
      go_wp2_with fail
      go_ret
      exact ⟨rfl, q, rfl⟩
end Go.Proofs.Ytofpkmfjigjlhaa.Own
