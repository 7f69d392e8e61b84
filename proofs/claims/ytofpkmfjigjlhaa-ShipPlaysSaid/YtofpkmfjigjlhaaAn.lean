/- Append of dayshift/ship. No conditions beside those in each theorem. -/
import Derived.Test.YtofpkmfjigjlhaaCc
import Derived.Test.YtofpkmfjigjlhaaApF
import Derived.Deep.RegionLaw
namespace Go.Proofs.Ytofpkmfjigjlhaa.Own
open Go.RowKit
set_option linter.unusedSimpArgs false
set_option linter.unusedVariables false
theorem el_src {w W : World} {rows : List (Nat × List Value)} {v : Value} {es : List SE} (HK : KR w rows W) (h : EL rows v es) : ∃ sp cap vals, v = .slice sp es.length cap ∧ es.length ≤ cap ∧ vals.length = es.length ∧ SrcV W sp (ecl es vals) ∧ (∀ (j : Nat) (u : Value) (x : SE), vals[j]? = some u → es[j]? = some x → FC rows u x.2) ∧ (∀ u ∈ ecl es vals, u.oneCell' = true) ∧ (sp = none ∨ ∃ b, sp = some ⟨b, 0, none⟩) ∧ (∀ W1, KR w rows W1 → SrcV W1 sp (ecl es vals)) := by
  obtain ⟨vals, hl, hs, hf⟩ := h
  have hone : ∀ u ∈ ecl es vals, u.oneCell' = true := ecl_one es vals fun u hu => by
    obtain ⟨j, hj, rfl⟩ := List.mem_iff_getElem.1 hu
    have hx : es[j]? = some (es[j]'(by omega)) := List.getElem?_eq_getElem (by omega)
    obtain ⟨sp, cap, he, _⟩ := fc_form (hf j _ _ (List.getElem?_eq_getElem hj) hx)
    rw [he]; rfl
  rcases hs with ⟨rfl, h1, h2⟩ | ⟨b, cap, l, rfl, h2, h3, h4, h5⟩
  · refine ⟨none, 0, vals, by rw [h1], by omega, hl, fun h0 => ?_, hf, hone, .inl rfl, fun W1 _ h0 => ?_⟩
    · rw [h2] at h0; simp at h0
    · rw [h2] at h0; simp at h0
  · exact ⟨_, cap, vals, rfl, h3, hl, srcV_row HK h2 h5, hf, hone, .inr ⟨b, rfl⟩, fun W1 H1 => srcV_row H1 h2 h5⟩
theorem el_srcM {w W : World} {rows im : List (Nat × List Value)} {v : Value} {es : List SE} (HK : KR w rows W) (hs : ∀ p ∈ im, p ∈ rows) (h : EL im v es) : ∃ sp cap vals, v = .slice sp es.length cap ∧ es.length ≤ cap ∧ vals.length = es.length ∧ SrcV W sp (ecl es vals) ∧ (∀ (j : Nat) (u : Value) (x : SE), vals[j]? = some u → es[j]? = some x → FC im u x.2) ∧ (∀ u ∈ ecl es vals, u.oneCell' = true) ∧ (sp = none ∨ ∃ b, sp = some ⟨b, 0, none⟩) ∧ (∀ W1, KR w rows W1 → SrcV W1 sp (ecl es vals)) := by
  obtain ⟨vals, hl, hs', hf⟩ := h
  have hone : ∀ u ∈ ecl es vals, u.oneCell' = true := ecl_one es vals fun u hu => by
    obtain ⟨j, hj, rfl⟩ := List.mem_iff_getElem.1 hu
    have hx : es[j]? = some (es[j]'(by omega)) := List.getElem?_eq_getElem (by omega)
    obtain ⟨sp, cap, he, _⟩ := fc_form (hf j _ _ (List.getElem?_eq_getElem hj) hx)
    rw [he]; rfl
  rcases hs' with ⟨rfl, h1, h2⟩ | ⟨b, cap, l, rfl, h2, h3, h4, h5⟩
  · refine ⟨none, 0, vals, by rw [h1], by omega, hl, fun h0 => ?_, hf, hone, .inl rfl, fun W1 _ h0 => ?_⟩
    · rw [h2] at h0; simp at h0
    · rw [h2] at h0; simp at h0
  · exact ⟨_, cap, vals, rfl, h3, hl, srcV_row HK (hs _ h2) h5, hf, hone, .inr ⟨b, rfl⟩, fun W1 H1 => srcV_row H1 (hs _ h2) h5⟩
theorem el_of_own {w W : World} {rs : List (Nat × List Value)} {v : Value} {es : List SE} {n : Nat} {vals : List Value} (HK : KR w rs W) (hn : es.length = n) (h : Own w rs 82 2 v n (ecl es vals) W) (hl : vals.length = es.length) (hf : ∀ (j : Nat) (u : Value) (x : SE), vals[j]? = some u → es[j]? = some x → FC rs u x.2) : ∃ l, KR w (l ++ rs) W ∧ EL (l ++ rs) v es := by
  obtain ⟨l, HL, HC⟩ := own_settle HK h
  rw [← hn] at HC
  exact ⟨l, HL, vals, hl, sc_mono HC (fun p hp => List.mem_append_left _ hp), fun j u x hu hx => fc_monoL (hf j u x hu hx) (fun p hp => List.mem_append_right _ hp)⟩
theorem el_of_own_x {w W : World} {rs rs' : List (Nat × List Value)} {v : Value} {es : List SE} {n : Nat} {vals : List Value} (HK : KR w rs W) (hn : es.length = n) (h : Own w rs 82 2 v n (ecl es vals) W) (hl : vals.length = es.length) (hs : ∀ p ∈ rs', p ∈ rs) (hf : ∀ (j : Nat) (u : Value) (x : SE), vals[j]? = some u → es[j]? = some x → FC rs' u x.2) : ∃ l, KR w (l ++ rs) W ∧ EL (l ++ rs') v es := by
  obtain ⟨l, HL, HC⟩ := own_settle HK h
  rw [← hn] at HC
  exact ⟨l, HL, vals, hl, sc_mono HC (fun p hp => List.mem_append_left _ hp), fun j u x hu hx => fc_monoL (hf j u x hu hx) (fun p hp => List.mem_append_right _ hp)⟩
theorem fc_app {rs : List (Nat × List Value)} {va vb : List Value} {ea eb : List SE} (hl : va.length = ea.length) (ha : ∀ (j : Nat) (u : Value) (x : SE), va[j]? = some u → ea[j]? = some x → FC rs u x.2) (hb : ∀ (j : Nat) (u : Value) (x : SE), vb[j]? = some u → eb[j]? = some x → FC rs u x.2) :
    ∀ (j : Nat) (u : Value) (x : SE), (va ++ vb)[j]? = some u → (ea ++ eb)[j]? = some x → FC rs u x.2 := by
  intro j u x hu hx
  by_cases hj : j < ea.length
  · rw [List.getElem?_append_left (by omega)] at hu
    rw [List.getElem?_append_left hj] at hx
    exact ha j u x hu hx
  · rw [List.getElem?_append_right (by omega)] at hu
    rw [List.getElem?_append_right (by omega)] at hx
    rw [hl] at hu
    exact hb _ u x hu hx
theorem app_nil (sp : Option Addr) (k c : Nat) {W : World} : Calls Try.prog 20 #[.pointer none, .slice sp k c] W fun e W' => e = .returned (.tuple #[.int .i64 0, .int .i64 2]) ∧ W = W' := by
  have hl := leader_nil (w := W)
  go_enter Try.func20, Try.ntmps20
  go_wp2_with (go_at_call 32; refine hl.mono ?_; rintro e w1 ⟨rfl, rfl⟩)
  go_ret2
  exact ⟨rfl, rfl⟩
section
variable {w W : World} {rs im : List (Nat × List Value)} {n : SN} {lv : Value} {D : Nat}
theorem app_fin {W' : World} {l1 : List (Nat × List Value)} {g : Nat} {gc : List Value} {lv0 v' : Value} {x : SE} {vals us : List Value} {L : Nat} (H2 : KR w ((D, ncl n lv0) :: (l1 ++ (g, gc) :: rs)) W') (hL : n.l.length = L) (O : Own w ((D, ncl n lv0) :: (l1 ++ (g, gc) :: rs)) 82 2 v' (L + 1) (ecl n.l vals ++ ecl [x] us) W') (hvl : vals.length = L) (hul : us.length = 1)
    (hf : ∀ (j : Nat) (u : Value) (y : SE), vals[j]? = some u → n.l[j]? = some y → FC im u y.2) (hf1 : ∀ (j : Nat) (u : Value) (y : SE), us[j]? = some u → [x][j]? = some y → FC l1 u y.2) :
    ∃ l, KR w ((D, ncl { n with l := n.l ++ [x] } v') :: (l ++ rs)) (W'.setCell ⟨D, 3, none⟩ v') ∧ EL (l ++ im) v' (n.l ++ [x]) := by
  have q2 : KR w ((D, ncl { n with l := n.l ++ [x] } v') :: (l1 ++ (g, gc) :: rs)) (W'.setCell ⟨D, 3, none⟩ v') := kr_fset H2 0 rfl 3 (by show 3 < 6; omega) v' _ rfl
  have q3 := own_rows (rs' := (D, ncl { n with l := n.l ++ [x] } v') :: (l1 ++ (g, gc) :: rs)) (own_set O List.mem_cons_self 3 v') (fun p hp => by rcases List.mem_cons.1 hp with rfl | hp; exact ⟨_, List.mem_cons_self, rfl⟩; exact ⟨p, List.mem_cons_of_mem _ hp, rfl⟩)
  rw [← ecl_app _ _ _ _ (by rw [hvl, hL])] at q3
  obtain ⟨l, HL, HC⟩ := own_settle q2 q3
  refine ⟨l ++ (l1 ++ [(g, gc)]), kr_permA HL ?_, vals ++ us, by rw [List.length_append, List.length_append, hvl, hul, hL]; rfl, ?_, fun j u y hu hy => ?_⟩
  · rw [List.append_assoc, List.append_assoc]
    exact List.perm_middle.symm
  · rw [List.length_append, hL]
    exact sc_mono HC (fun p hp => List.mem_append_left _ (List.mem_append_left _ hp))
  · exact fc_monoL (fc_app (rs := l1 ++ im) (by rw [hvl, hL]) (fun j u y hu hy => fc_monoL (hf j u y hu hy) (fun p hp => List.mem_append_right _ hp)) (fun j u y hu hy => fc_monoL (hf1 j u y hu hy) (fun p hp => List.mem_append_left _ hp)) j u y hu hy) (fun p hp => by
      rcases List.mem_append.1 hp with hp | hp
      · exact List.mem_append_left _ (List.mem_append_right _ (List.mem_append_left _ hp))
      · exact List.mem_append_right _ hp)
set_option maxRecDepth 100000 in
set_option maxHeartbeats 16000000 in
theorem app_k (HK : KR w ((D, ncl n lv) :: rs) W) (hs : ∀ p ∈ im, p ∈ rs) (HE : EL im lv n.l) (hB : NB n) (d : List Int) (k : Nat) (hk : Hid (d.length = k)) (hk2 : k ≤ 140737488351232) (sp : Option Addr) (c : Nat) (hkc : k ≤ c) (hS : Hid (∀ W1, KR w ((D, ncl n lv) :: rs) W1 → SrcV W1 sp (bc d))) :
    Calls Try.prog 20 #[.pointer (some ⟨D, 0, none⟩), .slice sp k c] W fun e W' => e = .returned (.tuple #[.int .i64 (sApp n d).2.1, .int .i64 (sApp n d).2.2]) ∧ ∃ l lv', KR w ((D, ncl (sApp n d).1 lv') :: (l ++ rs)) W' ∧ EL (l ++ im) lv' (sApp n d).1.l := by
  have hl := leader_k HK
  obtain ⟨vals0, hvl0, hSC0, hfc0⟩ := id HE
  have HE2 : EL rs lv n.l := ⟨vals0, hvl0, sc_mono hSC0 hs, fun j u x hu hx => fc_monoL (hfc0 j u x hu hx) hs⟩
  obtain ⟨sl, cl, vals, rfl, hlc, hvl, hsrc0, hfc, hone, hform, hsrc⟩ := el_srcM (kr_sub HK (List.sublist_cons_self _ _)) hs HE
  clear hSC0 hfc0 hvl0 HE2 vals0
  have H0 : Hid (KR w ((D, ncl n (.slice sl n.l.length cl)) :: rs) W ∧ EL im (.slice sl n.l.length cl) n.l) := ⟨HK, HE⟩
  have k2 := kr_cell HK 0 rfl 2 _ rfl
  have k3 := kr_cell HK 0 rfl 3 _ rfl
  have hki : (k : Int) ≤ 140737488351232 := by omega
  have hlen := hB.len
  have hHL := hlen
  generalize hL : n.l.length = L at *
  have HL : Hid (n.l.length = L) := hL
  unfold sApp
  rw [hL, hk.out]
  have hLi : (L : Int) ≤ 4096 := by omega
  rcases bool_false_or n.ld with hd | hd
  · rw [hd, if_neg (by simp)] at hl
    rw [if_pos hd]
    clear HK HE hsrc0 hfc hone hform hsrc hlen hHL hd hL k2 k3
    go_enter Try.func20, Try.ntmps20
    go_wp2_with (go_at_call 32; refine hl.mono ?_; rintro e w1 ⟨rfl, rfl⟩)
    go_ret2
    exact ⟨rfl, [], _, H0.out.1, H0.out.2⟩
  · rw [hd, if_pos rfl] at hl
    rw [if_neg (by rw [hd]; simp)]
    by_cases hbig : 60000 < k
    · rw [if_pos hbig]
      have hb1 : (k : Int) > 60000 := by omega
      clear HK HE hsrc0 hfc hone hform hsrc hlen hHL hd hL k2 k3 hk2 hbig
      go_enter Try.func20, Try.ntmps20
      go_wp2_with (go_at_call 32; refine hl.mono ?_; rintro e w1 ⟨rfl, rfl⟩)
      go_ret2
      exact ⟨rfl, [], _, H0.out.1, H0.out.2⟩
    · rw [if_neg hbig]
      have hb1 : ¬ (k : Int) > 60000 := by omega
      by_cases hfull : 4096 ≤ L
      · rw [if_pos hfull]
        have hb2 : (L : Int) ≥ 4096 := by omega
        clear HK HE hsrc0 hfc hone hform hsrc hlen hHL hd hL k2 hk2 hbig hfull
        go_enter Try.func20, Try.ntmps20
        go_wp2_with (go_at_call 32; refine hl.mono ?_; rintro e w1 ⟨rfl, rfl⟩)
        go_ret2
        exact ⟨rfl, [], _, H0.out.1, H0.out.2⟩
      · rw [if_neg hfull]
        have hb2 : ¬ (L : Int) ≥ 4096 := by omega
        have K1 := kr_swap (kr_new HK [.int .i64 n.ep, .slice sp k c] 82)
        obtain ⟨g, hg⟩ : ∃ g, W.heap.size = g := ⟨_, rfl⟩
        rw [hg] at K1
        have HX : Hid ((∀ W1, KR w rs W1 → SrcV W1 sl (ecl n.l vals)) ∧ vals.length = L ∧ (∀ u ∈ ecl n.l vals, u.oneCell' = true) ∧ L < 4096 ∧ k ≤ 60000) := ⟨hsrc, hvl, hone, by omega, by omega⟩
        have hown : ∀ V, KR w ((D, ncl n (.slice sl L cl)) :: (g, [.int .i64 n.ep, .slice sp k c]) :: rs) V → Calls Try.prog 31 #[.slice (some ⟨g, 0, none⟩) 1 1] V fun e W' => ∃ v l, e = .returned v ∧ KR V l W' ∧ EL l v [(n.ep, d)] := fun V hV =>
          own_k [(n.ep, d)] 1 rfl ⟨by omega, fun x hx => by rw [List.mem_singleton.1 hx]; show d.length ≤ _; rw [hk.out]; omega⟩ _ 1 (fun _ => ⟨_, rfl, fun j x hx => by
            have hj : j = 0 := by have := (List.getElem?_eq_some_iff.1 hx).1; simp at this; omega
            subst hj
            simp at hx
            subst hx
            refine ⟨sp, c, ?_, ?_, by rw [hk.out]; exact hkc, hS.out V (kr_drop hV)⟩
            · rw [Addr.add_mid]; exact kr_cell hV 1 rfl 0 _ rfl
            · rw [Addr.add_mid]; have := kr_cell hV 1 rfl 1 _ rfl; rw [hk.out]; exact this⟩)
        have HO : Hid (∀ V, KR w ((D, ncl n (.slice sl L cl)) :: (g, [.int .i64 n.ep, .slice sp k c]) :: rs) V → Calls Try.prog 31 #[.slice (some ⟨g, 0, none⟩) 1 1] V fun e W' => ∃ v l, e = .returned v ∧ KR V l W' ∧ EL l v [(n.ep, d)]) := hown
        have HFC : Hid (∀ (j : Nat) (u : Value) (x : SE), vals[j]? = some u → n.l[j]? = some x → FC im u x.2) := hfc
        have HK1 : Hid (KR w _ _) := K1
        clear HK HE hsrc0 hfc hone hform hsrc hlen hHL hd hL hk2 hbig hfull K1 hown
        go_enter Try.func20, Try.ntmps20
        go_wp2_with (go_at_call 32; refine hl.mono ?_; rintro e w1 ⟨rfl, rfl⟩)
        have hz0 := HK1.out
        generalize (W.alloc (.cells #[.int .i64 n.ep, .slice sp k c] 82)) = V at *
        have k3 := kr_cell hz0 0 rfl 3 _ rfl
        have HKV : Hid (KR w ((D, ncl n (.slice sl L cl)) :: (g, [.int .i64 n.ep, .slice sp k c]) :: rs) V) := hz0
        clear hz0 k2 hl
        go_cut [] (fun wx => ∃ l lv', KR w ((D, ncl { n with l := n.l ++ [(n.ep, d)] } lv') :: (l ++ rs)) wx ∧ EL (l ++ im) lv' (n.l ++ [(n.ep, d)]))
        case first =>
          go_region_law (first | (refine step_appendF _ _ 83 82 (.agg #[.int .i64 0, .slice none 0 0]) 2 32 HK4 sl L (ecl n.l vals) HX2.out (by rw [ecl_len _ _ (by rw [HX.out.2.1, HL.out]), HL.out]) s1 1 _ (ecl [(n.ep, d)] us) (by omega) HS1.out.1 (by rw [ecl_len _ _ HS1.out.2.1]; rfl) (by intro u hu; rcases List.mem_append.1 (List.mem_append_right [] hu) with h | h; exact absurd h (by simp); exact HS1.out.2.2 u h) (by unfold maxLen; omega) (by omega) Try.underlying83 ent_info rfl (by omega) rfl rfl (by rfl) (by rfl) ?_; intro v' W' O H2 hz; obtain ⟨s4, c4, rfl⟩ := own_form O; have q0 := kr_cell H2 0 rfl 3 _ rfl; have q1 := kr_frozen H2 0 rfl 3 (by show 3 < 6; omega)) | (go_simp; go_at_call 31; refine (HO.out _ (kr_drew HKV.out)).mono ?_; rintro e w3 ⟨v1, l1, rfl, HK3, HE3⟩; obtain ⟨s1, c1, us, rfl, hc1, hul, -, hf1, ho1, -, hsrc1⟩ := el_src HK3 HE3; have HS1 : Hid (SrcV w3 s1 (ecl [(n.ep, d)] us) ∧ us.length = 1 ∧ (∀ u ∈ ecl [(n.ep, d)] us, u.oneCell' = true)) := ⟨hsrc1 _ HK3, hul, ho1⟩; have HF1 : Hid (∀ (j : Nat) (u : Value) (x : SE), us[j]? = some u → [(n.ep, d)][j]? = some x → FC l1 u x.2) := hf1; have HK4 := kr_permA (kr_join (kr_drew HKV.out) HK3) (List.perm_middle.symm); have k3b := kr_cell HK4 0 rfl 3 _ rfl; have HX2 : Hid (SrcV w3 sl (ecl n.l vals)) := HX.out.1 w3 (kr_sub HK4 (((List.sublist_cons_self _ _).trans (List.sublist_append_right _ _)).trans (List.sublist_cons_self _ _))); clear hsrc1 hul hf1 ho1 HK3 HE3; (try dsimp only)))
          all_goals (go_wp2_with fail; go_meet; (have HFIN := app_fin H2 HL.out O HX.out.2.1 HS1.out.2.1 HFC.out HF1.out); obtain ⟨l, hl1, hl2⟩ := HFIN; exact ⟨l, _, hl1, hl2⟩)
        case rest =>
          obtain ⟨l, lv', HKc, HEc⟩ := hcut
          obtain ⟨s5, c5, rfl, hc5⟩ := el_form HEc
          have k3 := kr_cell HKc 0 rfl 3 _ rfl
          rw [List.length_append, HL.out] at k3 HKc HEc hc5
          have HF : Hid (KR w ((D, ncl { n with l := n.l ++ [(n.ep, d)] } (.slice s5 (L + 1) c5)) :: (l ++ rs)) wc ∧ EL (l ++ im) (.slice s5 (L + 1) c5) (n.l ++ [(n.ep, d)])) := ⟨HKc, HEc⟩
          clear HKc HEc
          go_wp2_with fail
          go_ret2
          exact ⟨by simp, l, _, HF.out.1, HF.out.2⟩
end
end Go.Proofs.Ytofpkmfjigjlhaa.Own
