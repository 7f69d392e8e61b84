/- dayshiftlaw31's spoil: entries of the call's own are written over. No conditions beside those in each theorem. -/
import Derived.Test.YtofpkmfjigjlhaaRg31
import Derived.Test.YtofpkmfjigjlhaaKn31
namespace Go.Proofs.Ytofpkmfjigjlhaa.Own
open Go.RowKit
set_option linter.unusedSimpArgs false
set_option linter.unusedVariables false
theorem spoil_zero (sp : Option Addr) (cap : Nat) (W : World) : Calls Try.prog 43 #[.slice sp 0 cap] W fun e W' => e = .returned (.tuple #[]) ∧ W = W' := by
  go_enter Try.func43, Try.ntmps43
  go_wp2
  go_loop [2] (fun v2 => v2 = .int .i64 0) (fun _ => 0)
  case atStart => rfl
  case round =>
    subst hrel
    go_wp2_with fail
    exact bodyPost_end (results_none rfl _ _ _) rfl ⟨rfl, rfl⟩
/-- The same rows, whatever they hold. -/
def KL (l l' : List (Nat × List Value)) : Prop := ∀ b lc, (b, lc) ∈ l → ∃ lc', (b, lc') ∈ l' ∧ lc'.length = lc.length
theorem kl_refl (l : List (Nat × List Value)) : KL l l := fun b lc h => ⟨lc, h, rfl⟩
theorem kr_one {w W : World} {rs : List (Nat × List Value)} (h : KR w rs W) {b : Nat} {x y : List Value} (hx : (b, x) ∈ rs) (hy : (b, y) ∈ rs) : x = y := by
  obtain ⟨i, hi, ei⟩ := List.mem_iff_getElem.1 hx
  obtain ⟨j, hj, ej⟩ := List.mem_iff_getElem.1 hy
  have hp := List.pairwise_iff_getElem.1 h.apart
  rcases Nat.lt_trichotomy i j with hij | hij | hij
  · exact absurd (by rw [ei, ej]) (hp i j hi hj hij)
  · subst hij
    rw [ei] at ej
    injection ej
  · exact absurd (by rw [ei, ej]) (hp j i hj hi hij)
/-- One row, ahead of the others. -/
theorem kr_out {w W : World} {l rs : List (Nat × List Value)} {p q : Nat × List Value} (h : KR w (p :: (l ++ rs)) W) (hq : q ∈ l) : ∃ l2, l.Perm (q :: l2) ∧ KR w (q :: p :: (l2 ++ rs)) W := by
  obtain ⟨a, b, rfl⟩ := List.append_of_mem hq
  refine ⟨a ++ b, List.perm_middle, kr_permA h ?_⟩
  refine (List.Perm.swap _ _ _).trans (List.Perm.cons _ ?_)
  rw [List.append_assoc, List.append_assoc, List.cons_append]
  exact List.perm_middle.symm
theorem kl_step {l l1 l2 : List (Nat × List Value)} {b : Nat} {x y : List Value} (h : KL l l1) (hp : l1.Perm ((b, x) :: l2)) (hl : y.length = x.length) : KL l ((b, y) :: l2) := fun c lc hc => by
  obtain ⟨lc', h1, h2⟩ := h c lc hc
  rcases List.mem_cons.1 ((hp.mem_iff).1 h1) with h3 | h3
  · injection h3 with h4 h5
    subst h4
    subst h5
    exact ⟨y, List.mem_cons_self, by rw [hl, h2]⟩
  · exact ⟨lc', List.mem_cons_of_mem _ h3, h2⟩
set_option maxRecDepth 100000 in
set_option maxHeartbeats 2000000 in
theorem spoilE_k {w W : World} {l rs : List (Nat × List Value)} (HK : KR w (l ++ rs) W) (es : List SE) (n : Nat) (hn : Hid (es.length = n)) (h2 : n ≤ 100000) (hz : Hid (∀ x ∈ es, x.2.length ≤ 140737488351232)) (sp : Option Addr) (c : Nat) (HE : EL l (.slice sp n c) es) :
    Calls Try.prog 47 #[.slice sp n c] W fun e W' => e = .returned (.tuple #[]) ∧ KR w rs W' := by
  have h2i : (n : Int) ≤ 100000 := by omega
  obtain ⟨vals, hvl, hsc, hfc⟩ := HE
  rw [hn.out] at hvl hsc
  rcases hsc with ⟨h0, h1, -⟩ | ⟨g, cap, cur, h0, hg, hnc, hcap, htk⟩
  · subst h1
    have HH : Hid (KR w rs W) := kr_sub HK (List.sublist_append_right _ _)
    clear HK hfc hvl
    go_enter Try.func47, Try.ntmps47
    go_wp2
    go_loop [2] (fun v2 => v2 = .int .i64 0) (fun _ => 0)
    case atStart => rfl
    case round =>
      subst hrel
      go_wp2_with fail
      exact bodyPost_end (results_none rfl _ _ _) rfl ⟨rfl, HH.out⟩
  · injection h0 with h3 h4 h5
    subst h3
    subst h5
    have hlen := ecl_len es vals (by rw [hvl, hn.out])
    rw [hn.out] at hlen
    obtain ⟨a, b, rfl⟩ := List.append_of_mem hg
    have HF : Hid (∀ (j : Nat) (u : Value) (x : SE), vals[j]? = some u → es[j]? = some x → FC (a ++ (g, cur) :: b) u x.2) := hfc
    have KG : KR w ((g, cur) :: ((a ++ b) ++ rs)) W := kr_permA HK (by rw [List.append_assoc, List.append_assoc, List.cons_append]; exact List.perm_middle.symm)
    have HL0 : Hid (KL (a ++ (g, cur) :: b) ((g, cur) :: (a ++ b))) := kl_step (kl_refl _) List.perm_middle rfl
    have HOD : Hid (∀ (j : Nat) (x : SE) (u : Value), es[j]? = some x → vals[j]? = some u → cur[j * 2 + 1]? = some u) := fun j x u hx hu => by
      have hj : j < n := by have := (List.getElem?_eq_some_iff.1 hx).1; rw [hn.out] at this; exact this
      have h1 := (ecl_get es vals j x u hx hu).2
      rw [← htk, List.getElem?_take, if_pos (by omega)] at h1
      exact h1
    have HCL : Hid (n * 2 ≤ cur.length ∧ vals.length = n) := ⟨by omega, hvl⟩
    have HK0 : Hid (KR w (a ++ (g, cur) :: b ++ rs) W) := HK
    have HFR : Hid (cur.take (n * 2) = ecl es vals) := htk
    clear HK hfc hvl hlen htk hg hnc hcap h4
    go_enter Try.func47, Try.ntmps47
    go_wp2
    go_loopw [2] (fun v2 W' => ∃ (k : Nat) (l1 : List (Nat × List Value)) (cr : List Value), v2 = .int .i64 (k : Int) ∧ k ≤ n ∧ KR w ((g, cr) :: (l1 ++ rs)) W' ∧ KL (a ++ b) l1 ∧ cr.length = cur.length ∧ ∀ j, k ≤ j → j < n → cr[j * 2 + 1]? = cur[j * 2 + 1]?) (fun v2 _ => n - (intOf v2).toNat)
    case atStart => exact ⟨0, a ++ b, cur, rfl, Nat.zero_le _, KG, kl_refl _, rfl, fun j _ _ => rfl⟩
    case round =>
      clear KG
      obtain ⟨k, l1, cr, rfl, hk, K1, L1, hcr, hod⟩ := hrel
      by_cases hlt : k < n
      · have hki : (k : Int) < (n : Int) := by omega
        have hgx : es[k]? = some (es[k]'(by rw [hn.out]; exact hlt)) := List.getElem?_eq_getElem (by rw [hn.out]; exact hlt)
        have hgv : vals[k]? = some (vals[k]'(by rw [HCL.out.2]; exact hlt)) := List.getElem?_eq_getElem (by rw [HCL.out.2]; exact hlt)
        have hF := HF.out k _ _ hgv hgx
        have hcu := HOD.out k _ _ hgx hgv
        rw [← hod k (Nat.le_refl _) hlt] at hcu
        have hxz := hz.out _ (List.mem_of_getElem? hgx)
        have HGX : Hid (es[k]? = some (es[k]'(by rw [hn.out]; exact hlt)) ∧ vals[k]? = some (vals[k]'(by rw [HCL.out.2]; exact hlt))) := ⟨hgx, hgv⟩
        generalize es[k]'(by rw [hn.out]; exact hlt) = x at hF hcu HGX hxz
        generalize vals[k]'(by rw [HCL.out.2]; exact hlt) = u at hF hcu HGX
        have hkl : k * 2 < cr.length := by have := HCL.out.1; omega
        have hkl1 : k * 2 + 1 < cr.length := by have := HCL.out.1; omega
        have HLT : Hid (k < n) := hlt
        have HOD1 : Hid (∀ j, k ≤ j → j < n → cr[j * 2 + 1]? = cur[j * 2 + 1]?) := hod
        have HCR : Hid (cr.length = cur.length) := hcr
        have c1 := kr_cell K1 0 rfl (k * 2 + 1) _ hcu
        -- what is written behind the entry
        have HFIN : Hid (∀ (l2 : List (Nat × List Value)) (W2 : World), KR w ((g, cr) :: (l2 ++ rs)) W2 → KL (a ++ b) l2 → ∃ (k' : Nat) (l1 : List (Nat × List Value)) (cr' : List Value), Value.int .i64 ((k : Int) + 1) = .int .i64 (k' : Int) ∧ k' ≤ n ∧ KR w ((g, cr') :: (l1 ++ rs)) (W2.setCell ⟨g, k * 2, none⟩ (.int .i64 77)) ∧ KL (a ++ b) l1 ∧ cr'.length = cur.length ∧ ∀ j, k' ≤ j → j < n → cr'[j * 2 + 1]? = cur[j * 2 + 1]?) := fun l2 W2 K2 L2 =>
          ⟨k + 1, l2, cr.set (k * 2) (.int .i64 77), by go_num, HLT.out, kr_fset K2 0 rfl (k * 2) hkl (.int .i64 77) _ rfl, L2, by rw [List.length_set]; exact HCR.out, fun j hj hjn => by rw [List.getElem?_set_ne (by omega)]; exact HOD1.out j (by omega) hjn⟩
        by_cases hx0 : x.2.length = 0
        · obtain ⟨sj, cj, rfl, -⟩ := fc_form hF
          rw [hx0] at c1
          have c0 := kr_cell K1 0 rfl (k * 2) _ (List.getElem?_eq_getElem hkl)
          have f0 := kr_frozen K1 0 rfl (k * 2) hkl
          have HK1 : Hid (KR w _ wr) := K1
          have HL1 : Hid (KL (a ++ b) l1) := L1
          clear hgx hgv hF hcu hod K1 L1 hcr hlt hkl1 hxz hx0
          generalize cr[k * 2]'hkl = u0 at c0
          go_wp2_with (go_at_call 43; refine (spoil_zero _ _ _).mono ?_; rintro e w1 ⟨rfl, rfl⟩)
          go_round
          case rel => exact HFIN.out l1 _ HK1.out HL1.out
          case measure => have := HLT.out; (simp [intOf]; try omega)
        · rcases hF with ⟨-, h1⟩ | ⟨bb, cp, lc, rfl, hm, hle, hcl, htk⟩
          · exact absurd (by rw [h1]; rfl) hx0
          · have hbg : bb ≠ g := by
              intro e
              subst e
              have h1 := kr_one HK0.out (List.mem_append_left _ hm) (List.mem_append_left _ (List.mem_append_right _ List.mem_cons_self))
              subst h1
              have h2 := congrArg (fun z => z[0]?) htk
              have h3 := congrArg (fun z => z[0]?) HFR.out
              have hx1 : x.2[0]? = some (x.2[0]'(by omega)) := List.getElem?_eq_getElem (by omega)
              simp only [bc, List.getElem?_take, List.getElem?_map, hx1] at h2
              rw [if_pos (by omega)] at h2
              have h4 := HFR.out
              have he0 : es[0]? = some (es[0]'(by have := (List.getElem?_eq_some_iff.1 hgx).1; omega)) := List.getElem?_eq_getElem _
              have hv0 : vals[0]? = some (vals[0]'(by have := (List.getElem?_eq_some_iff.1 hgv).1; omega)) := List.getElem?_eq_getElem _
              have h5 := (ecl_get es vals 0 _ _ he0 hv0).1
              rw [← HFR.out, List.getElem?_take, if_pos (by omega), Nat.zero_mul, h2] at h5
              simp at h5
            have hm2 : (bb, lc) ∈ a ++ b := by
              rcases List.mem_append.1 hm with h | h
              · exact List.mem_append_left _ h
              · rcases List.mem_cons.1 h with h | h
                · injection h with h _
                  exact absurd h hbg
                · exact List.mem_append_right _ h
            obtain ⟨lc', hm3, hl3⟩ := L1 bb lc hm2
            obtain ⟨l2, hp2, K2⟩ := kr_out K1 hm3
            have hs := spoil_k bb x.2.length cp lc' (by omega) (by omega) K2
            have HS : Hid _ := hidI hs
            have HL1 : Hid (KL (a ++ b) l1 ∧ l1.Perm ((bb, lc') :: l2)) := ⟨L1, hp2⟩
            clear hgx hgv hcu hod K1 L1 hcr hlt hxz hx0 hm hm2 hle hcl htk hm3 hl3 K2 hp2 hs hbg
            obtain ⟨m, hmm⟩ : ∃ m, m = x.2.length := ⟨_, rfl⟩
            rw [← hmm] at c1 HS
            clear hmm
            go_wp2_with (go_at_call 43; refine HS.out.mono ?_; rintro e w1 ⟨rfl, c3, hc3, K3⟩; have K4 := kr_swap K3; have c0 := kr_cell K4 0 rfl (k * 2) _ (List.getElem?_eq_getElem hkl); have f0 := kr_frozen K4 0 rfl (k * 2) hkl; have HK4 : Hid (KR w _ w1 ∧ c3.length = lc'.length) := ⟨K4, hc3⟩; clear K3 K4 hc3; generalize cr[k * 2] = u0 at c0)
            go_round
            case rel => exact HFIN.out ((bb, c3) :: l2) _ HK4.out.1 (kl_step HL1.out.1 HL1.out.2 HK4.out.2)
            case measure => have := HLT.out; (simp [intOf]; try omega)
      · have HH : Hid (KR w rs wr) := kr_sub (kr_tail K1) (List.sublist_append_right _ _)
        clear K1 hod L1
        go_wp2_with fail
        exact bodyPost_end (results_none rfl _ _ _) rfl ⟨rfl, HH.out⟩
end Go.Proofs.Ytofpkmfjigjlhaa.Own
