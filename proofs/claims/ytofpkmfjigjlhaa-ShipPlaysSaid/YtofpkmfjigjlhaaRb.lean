/- The reference's Append. No conditions beside those in each theorem. -/
import Derived.Test.YtofpkmfjigjlhaaRa
import Derived.Test.YtofpkmfjigjlhaaPx31
import Derived.Test.YtofpkmfjigjlhaaStq
import Derived.RegionTactic
import Derived.Deep.DrawnRows
namespace Go.Proofs.Ytofpkmfjigjlhaa.Own
open Go.RowKit
set_option linter.unusedSimpArgs false
set_option linter.unusedVariables false
attribute [local go_sem ↓] Go.wp_at_zero Go.wp_at_succ
section
variable {w W : World} {rs im : List (Nat × List Value)} {n : SN} {lv : Value} {D : Nat}
/-- What was made behind a call, said from the beginning. -/
theorem own_up {w V W : World} {rows rs : List (Nat × List Value)} {e : TypeId} {size : Nat} {v : Value} {n : Nat} {xs : List Value} (h : Own V rows e size v n xs W) (HK : KR w rs V) : Own w (rows ++ rs) e size v n xs W := by
  refine ⟨⟨h.1.1, ?_⟩, fun k hk p hp => ?_⟩
  · rcases h.1.2 with h0 | ⟨g, cap, cur, rfl, h1, hg, h3⟩
    · exact .inl h0
    · exact .inr ⟨g, cap, cur, rfl, Nat.le_trans HK.below.size h1, hg, h3⟩
  · rcases List.mem_append.1 hp with hp | hp
    · exact h.2 k hk p hp
    · have h4 := (HK.rows p hp).2.1
      have h5 := (h.1.lt k hk).1
      omega
theorem ro_up {w V W : World} {rows rs : List (Nat × List Value)} {v : Value} {es : List SE} {vals : List Value} (h : RO V W rows v es vals) (HK : KR w rs V) : RO w W (rows ++ rs) v es vals :=
  ⟨own_up h.own HK, kr_join HK h.kr, h.len, fun j u x hu hx => fc_monoL (h.fc j u x hu hx) (fun p hp => List.mem_append_left _ hp)⟩
theorem rLent_at {V : World} (HK : KR w rs V) (es : List SE) (L : Nat) (hL : es.length = L) (hz : Sized L es) (sl : Option Addr) (cl : Nat) (hE : ELV V sl es) :
    Calls Try.prog 54 #[.slice sl L cl] V fun e W' => ∃ s c' rows vals, e = .returned (.slice s L c') ∧ RO w W' (rows ++ rs) (.slice s L c') es vals ∧ Below V.heap.size V W' ∧ ∀ (j : Nat) (u : Value) (y : SE), vals[j]? = some u → es[j]? = some y → FC rows u y.2 :=
  (rLent_k (w := V) es L hL hz sl cl hE).mono fun e W' ⟨s, c', rows, vals, he, h⟩ => ⟨s, c', rows, vals, he, ro_up h HK, h.kr.below, h.fc⟩
theorem perm_mid3 (l r rs : List (Nat × List Value)) (a : Nat × List Value) : (a :: ((l ++ r) ++ rs)).Perm (l ++ (r ++ a :: rs)) := by
  rw [← List.append_assoc l r (a :: rs)]
  exact List.perm_middle.symm
/-- The new list stands in the node. -/
theorem rapp_fin {W' : World} {ll : List (Nat × List Value)} {lv0 v' : Value} {es : List SE} {vals : List Value} (H2 : KR w ((D, ncl n lv0) :: (ll ++ rs)) W') (O : Own w ((D, ncl n lv0) :: (ll ++ rs)) 43 2 v' es.length (ecl es vals) W') (hvl : vals.length = es.length)
    (hf : ∀ (j : Nat) (u : Value) (y : SE), vals[j]? = some u → es[j]? = some y → FC (ll ++ im) u y.2) :
    ∃ l, KR w ((D, ncl { n with l := es } v') :: (l ++ rs)) (W'.setCell ⟨D, 3, none⟩ v') ∧ EL (l ++ im) v' es := by
  have q2 : KR w ((D, ncl { n with l := es } v') :: (ll ++ rs)) (W'.setCell ⟨D, 3, none⟩ v') := kr_fset H2 0 rfl 3 (by show 3 < 6; omega) v' _ rfl
  have q3 := own_rows (rs' := (D, ncl { n with l := es } v') :: (ll ++ rs)) (own_set O List.mem_cons_self 3 v') (fun p hp => by rcases List.mem_cons.1 hp with rfl | hp; exact ⟨_, List.mem_cons_self, rfl⟩; exact ⟨p, List.mem_cons_of_mem _ hp, rfl⟩)
  obtain ⟨l, HL, HC⟩ := own_settle q2 q3
  refine ⟨l ++ ll, kr_permA HL ?_, vals, hvl, sc_mono HC (fun p hp => List.mem_append_left _ (List.mem_append_left _ hp)), fun j u y hu hy => fc_monoL (hf j u y hu hy) (fun p hp => ?_)⟩
  · rw [List.append_assoc]
    exact List.perm_middle.symm
  · rcases List.mem_append.1 hp with hp | hp
    · exact List.mem_append_left _ (List.mem_append_right _ hp)
    · exact List.mem_append_right _ hp
theorem rapp_mid {w3 w4 : World} {rows1 l1 : List (Nat × List Value)} {s1 sv : Option Addr} {c1 cv L k : Nat} {a : List Value} {es : List SE} {vals1 : List Value} {d : List Int} (R1 : RO w w3 (rows1 ++ (D, a) :: rs) (.slice s1 L c1) es vals1) (K1 : KR w3 l1 w4) (F1 : FC l1 (.slice sv k cv) d) (hL : es.length = L) :
    KR w ((D, a) :: ((l1 ++ rows1) ++ rs)) w4 ∧ Own w ((D, a) :: ((l1 ++ rows1) ++ rs)) 43 2 (.slice s1 L c1) L (ecl es vals1) w4 ∧ vals1.length = L ∧ FC l1 (.slice sv k cv) d := by
  have R2 := ro_call R1 K1
  refine ⟨kr_permA R2.kr (perm_mid3 _ _ _ _), own_rows (by have := R2.own; rwa [hL] at this) (fun p hp => ⟨p, (perm_mid3 _ _ _ _).mem_iff.1 hp, rfl⟩), by rw [R1.len, hL], F1⟩
theorem rapp_end {W' : World} {rows1 l1 : List (Nat × List Value)} {v' u1 lv0 : Value} {L : Nat} {vals1 : List Value} {x : SE} (H2 : KR w ((D, ncl n lv0) :: ((l1 ++ rows1) ++ rs)) W') (O2 : Own w ((D, ncl n lv0) :: ((l1 ++ rows1) ++ rs)) 43 2 v' (L + 1) (ecl n.l vals1 ++ [.int .i64 x.1, u1]) W') (hL : n.l.length = L) (hv : vals1.length = L)
    (hf : ∀ (j : Nat) (u : Value) (y : SE), vals1[j]? = some u → n.l[j]? = some y → FC rows1 u y.2) (h1 : FC l1 u1 x.2) : ∃ l lv', KR w ((D, ncl { n with l := n.l ++ [x] } lv') :: (l ++ rs)) (W'.setCell ⟨D, 3, none⟩ v') ∧ EL (l ++ im) lv' (n.l ++ [x]) := by
  have hp := ent_push (by rw [hv, hL]) hf h1
  have he : ecl (n.l ++ [x]) (vals1 ++ [u1]) = ecl n.l vals1 ++ [.int .i64 x.1, u1] := ecl_app _ _ _ _ (by rw [hv, hL])
  obtain ⟨l, a, b⟩ := rapp_fin (im := im) H2 (es := n.l ++ [x]) (vals := vals1 ++ [u1]) (by rw [he, List.length_append, hL]; exact O2) (by rw [List.length_append, List.length_append, hv, hL]; rfl) (fun j u y hu hy => fc_monoL (hp j u y hu hy) (fun p hp => List.mem_append_left _ hp))
  exact ⟨l, v', a, b⟩
set_option maxRecDepth 100000 in
set_option maxHeartbeats 16000000 in
theorem rapp_k (HK : KR w ((D, ncl n lv) :: rs) W) (hs : ∀ p ∈ im, p ∈ rs) (HE : EL im lv n.l) (hB : NB n) (d : List Int) (k : Nat) (hk : Hid (d.length = k)) (hk2 : k ≤ 140737488351232) (sp : Option Addr) (c : Nat) (hS : Hid (SrcV W sp (bc d))) :
    Calls Try.prog 41 #[.pointer (some ⟨D, 0, none⟩), .slice sp k c] W fun e W' => e = .returned (.tuple #[.int .i64 (sApp n d).2.1, .int .i64 (sApp n d).2.2]) ∧ ∃ l lv', KR w ((D, ncl (sApp n d).1 lv') :: (l ++ rs)) W' ∧ EL (l ++ im) lv' (sApp n d).1.l := by
  obtain ⟨sl, cl, rfl, hlc⟩ := el_form HE
  have H0 : Hid (KR w ((D, ncl n (.slice sl n.l.length cl)) :: rs) W ∧ EL im (.slice sl n.l.length cl) n.l) := ⟨HK, HE⟩
  have k1 := kr_cell HK 0 rfl 1 _ rfl
  have k2 := kr_cell HK 0 rfl 2 _ rfl
  have k3 := kr_cell HK 0 rfl 3 _ rfl
  have hki : (k : Int) ≤ 140737488351232 := by omega
  have hlen := hB.len
  have HNB : Hid (NB n) := hB
  generalize hL : n.l.length = L at *
  have HL : Hid (n.l.length = L) := hL
  unfold sApp
  rw [hL, hk.out]
  have hLi : (L : Int) ≤ 4096 := by omega
  cases hd : n.ld with
  | false =>
    rw [hd] at k1
    rw [if_pos rfl]
    clear HK HE hlen hd hL k2 k3 hS hB
    go_enter Try.func41, Try.ntmps41
    go_wp2_with fail
    go_ret2
    exact ⟨rfl, [], _, H0.out.1, H0.out.2⟩
  | true =>
    rw [hd] at k1
    rw [if_neg (by simp)]
    by_cases hbig : 60000 < k
    · rw [if_pos hbig]
      have hb1 : (k : Int) > 60000 := by omega
      clear HK HE hlen hd hL k2 k3 hk2 hbig hS hB
      go_enter Try.func41, Try.ntmps41
      go_wp2_with fail
      go_ret2
      exact ⟨rfl, [], _, H0.out.1, H0.out.2⟩
    · rw [if_neg hbig]
      have hb1 : ¬ (k : Int) > 60000 := by omega
      by_cases hfull : 4096 ≤ L
      · rw [if_pos hfull]
        have hb2 : (L : Int) ≥ 4096 := by omega
        clear HK HE hlen hd hL k2 hk2 hbig hfull hS hB
        go_enter Try.func41, Try.ntmps41
        go_wp2_with fail
        go_ret2
        exact ⟨rfl, [], _, H0.out.1, H0.out.2⟩
      · rw [if_neg hfull]
        have hb2 : ¬ (L : Int) ≥ 4096 := by omega
        have HX : Hid (L < 4096 ∧ k ≤ 60000) := ⟨by omega, by omega⟩
        have KD := kr_drew HK
        have hELV : ELV W.drew sl n.l := by
          obtain ⟨sp', cap', he, _, h1, _⟩ := el_elv KD (el_mono HE (fun q hq => List.mem_cons_of_mem _ (hs q hq)))
          injection he with h3 _ _; rw [h3]; exact h1
        have cL := rLent_at KD n.l L hL (by rw [← hL]; exact nb_sized hB) sl cl hELV
        have HSD : Hid (SrcV W.drew sp (bc d)) := srcV_keep hS.out (bw_drew (Below.refl _ _))
        have HD : Hid (n.ld = true) := hd
        have c2 : ∀ V, SrcV V sp (bc d) → _ := fun V hV => rlent_k (w := V) n.ep d k hk (by omega) sp c hV
        have HC2 : Hid (∀ V, SrcV V sp (bc d) → _) := c2
        clear c2
        clear HK HE hlen hd hL hk2 hbig hfull hS hB hELV KD
        go_enter Try.func41, Try.ntmps41
        go_upto_region 7 with fail
        have HK0 : Hid (KR w _ W) := H0.out.1
        go_cut [] (fun wx => ∃ l lv', KR w ((D, ncl { n with l := n.l ++ [(n.ep, d)] } lv') :: (l ++ rs)) wx ∧ EL (l ++ im) lv' (n.l ++ [(n.ep, d)]))
        case first =>
          go_region_law (first
            | (refine step_appendK _ _ 25 43 (.agg #[.int .i64 0, .slice none 0 0]) 2 32 (kr_alloc R2.out.1 _) (own_alloc R2.out.2.1 _) _ 1 1 [.int .i64 n.ep, .slice sv k cv] (srcV_build _ _) rfl (by intro v hv; rcases List.mem_cons.1 hv with rfl | hv; rfl; rw [List.mem_singleton.1 hv]; rfl) (by have := HX.out; unfold maxLen; omega) (by have := HX.out; omega) Try.underlying25 rent_info rfl (by omega) rfl rfl (by rfl) (by rfl) ?_; intro v' W' O2 H2 hz; obtain ⟨s4, c4, rfl⟩ := own_form O2; have q0 := kr_cell H2 0 rfl 3 _ rfl; have q1 := kr_frozen H2 0 rfl 3 (by show 3 < 6; omega); have H2 : Hid (KR w _ W') := H2; have O2 : Hid (Own w _ _ _ _ _ _ W') := O2)
            | (go_simp; go_at_call 54; refine cL.mono ?_; rintro e w3 ⟨s1, c1, rows1, vals1, rfl, R1, hb3, hfc1⟩; have k2b := kr_cell (kr_permA R1.kr List.perm_middle.symm) 0 rfl 2 _ rfl; have HB3 : Hid (Below W.drew.heap.size W.drew w3) := hb3; have HFC1 : Hid (∀ (j : Nat) (u : Value) (y : SE), vals1[j]? = some u → n.l[j]? = some y → FC rows1 u y.2) := hfc1; clear hb3 hfc1; have R1 : Hid (RO w w3 _ _ n.l vals1) := R1)
            | (go_simp; go_at_call 55; go_loud ( refine (HC2.out _ (srcV_keep HSD.out HB3.out)).mono ?_; rintro e w4 ⟨v1, l1, rfl, K1, F1⟩; obtain ⟨sv, cv, he1, hcv⟩ := fc_form F1; rw [hk.out] at he1; subst he1; have R2 := rapp_mid R1.out K1 F1 HL.out; have R2 : Hid (_ ∧ _) := R2; clear K1 F1 hcv)))
          all_goals (go_wp2_with fail; go_meet; (have HFIN := rapp_end (im := im) (x := (n.ep, d)) H2.out O2.out HL.out R2.out.2.2.1 HFC1.out R2.out.2.2.2); exact HFIN)
        case rest =>
          obtain ⟨l, lv', HKc, HEc⟩ := hcut
          obtain ⟨s5, c5, rfl, hc5⟩ := el_form HEc
          have k3 := kr_cell HKc 0 rfl 3 _ rfl
          rw [List.length_append, HL.out] at k3 HKc HEc hc5
          have HF : Hid (KR w ((D, ncl { n with l := n.l ++ [(n.ep, d)] } (.slice s5 (L + 1) c5)) :: (l ++ rs)) wc ∧ EL (l ++ im) (.slice s5 (L + 1) c5) (n.l ++ [(n.ep, d)])) := ⟨HKc, HEc⟩
          clear HKc HEc
          go_wp2_with fail
          go_ret2
          have h := HF.out
          rw [HD.out] at h
          exact ⟨by simp, l, _, h.1, h.2⟩
end
end Go.Proofs.Ytofpkmfjigjlhaa.Own
