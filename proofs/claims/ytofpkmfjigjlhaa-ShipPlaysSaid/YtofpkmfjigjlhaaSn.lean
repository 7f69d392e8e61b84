/- Ship of dayshift/ship. No conditions beside those in each theorem. -/
import Derived.Test.YtofpkmfjigjlhaaNg
import Derived.Deep.RegionHeld3
import Derived.Deep.Slices
namespace Go.Proofs.Ytofpkmfjigjlhaa.Own
open Go.RowKit
set_option linter.unusedSimpArgs false
set_option linter.unusedVariables false
theorem el_read {w W : World} {rows : List (Nat × List Value)} {sp : Option Addr} {n c : Nat} {es : List SE} (HK : KR w rows W) (h : EL rows (.slice sp n c) es) : ELV W sp es := by
  obtain ⟨s0, c0, he, _, hE, _⟩ := el_elv HK h
  injection he with he
  rw [he]; exact hE
theorem hidI {p : Prop} (h : p) : Hid p := h
theorem ship_nil (most : Int) {W : World} : Calls Try.prog 21 #[.pointer none, .int .i64 most] W fun e W' => e = .returned (.tuple #[.agg #[.int .i64 0, .int .i64 0, .int .i64 0, .slice none 0 0, .int .i64 0], .int .i64 2]) ∧ Below W.heap.size W W' := by
  have hl := fun V => leader_nil (w := V)
  have K1 := kr_new (kr_refl W) [.int .i64 0, .int .i64 0, .int .i64 0, .slice none 0 0, .int .i64 0] 53
  have HB : Hid (Below W.heap.size W (W.alloc (.cells [.int .i64 0, .int .i64 0, .int .i64 0, .slice none 0 0, .int .i64 0].toArray 53))) := K1.below
  clear K1
  go_enter Try.func21, Try.ntmps21
  go_wp2_with (go_at_call 32; refine (hl _).mono ?_; rintro e w1 ⟨rfl, rfl⟩)
  exact bodyPost_ret (v := .tuple #[.agg #[.int .i64 0, .int .i64 0, .int .i64 0, .slice none 0 0, .int .i64 0], .int .i64 2]) (by simp [results, Try.results21, go_sem]) rfl ⟨rfl, HB.out⟩
theorem elv_drop {W : World} {sp : Option Addr} {es : List SE} (h : ELV W sp es) (k : Nat) : ELV W (sp.map (fun x => x.add (k * 2))) (es.drop k) := fun h0 => by
  obtain ⟨A, rfl, hc⟩ := h (by rw [List.length_drop] at h0; omega)
  refine ⟨_, rfl, fun j x hx => ?_⟩
  rw [List.getElem?_drop] at hx
  obtain ⟨sj, cj, h1, h2, h3, h4⟩ := hc _ _ hx
  have e : (A.add (k * 2)).add (j * 2) = A.add ((k + j) * 2) := by rw [Go.Deep.add_add, ← Nat.add_mul]
  exact ⟨sj, cj, by rw [e]; exact h1, by rw [e]; exact h2, h3, h4⟩
section
variable {w W : World} {rs im : List (Nat × List Value)} {n : SN} {lv : Value} {D : Nat}
set_option maxRecDepth 100000 in
set_option maxHeartbeats 1000000 in
theorem ship_k (HK : KR w ((D, ncl n lv) :: rs) W) (hs : ∀ p ∈ im, p ∈ rs) (HE : EL im lv n.l) (hB : NB n) (most : Int) :
    Calls Try.prog 21 #[.pointer (some ⟨D, 0, none⟩), .int .i64 most] W fun e W' => ∃ v l, e = .returned (.tuple #[.agg #[.int .i64 (sShip n most).1.ep, .int .i64 (sShip n most).1.at_, .int .i64 (sShip n most).1.bf, v, .int .i64 (sShip n most).1.safe], .int .i64 (sShip n most).2]) ∧ KR w (l ++ (D, ncl n lv) :: rs) W' ∧ EL l v (sShip n most).1.l := by
  have K1 := kr_new HK [.int .i64 0, .int .i64 0, .int .i64 0, .slice none 0 0, .int .i64 0] 53
  have hl := leader_k (kr_tail K1)
  obtain ⟨sl, cl, rfl, hlc, hE, hform⟩ := el_elv (kr_sub HK (List.sublist_cons_self _ _)) (el_mono HE hs)
  have hlen := hB.len
  generalize hL : n.l.length = L at *
  have HL : Hid (n.l.length = L) := hL
  have H1 : Hid (KR w ([(W.heap.size, [.int .i64 0, .int .i64 0, .int .i64 0, .slice none 0 0, .int .i64 0])] ++ (D, ncl n (.slice sl L cl)) :: rs) (W.alloc (.cells [.int .i64 0, .int .i64 0, .int .i64 0, .slice none 0 0, .int .i64 0].toArray 53))) := K1
  have zw : D < W.heap.size := kr_lt HK 0 rfl
  unfold sShip
  cases hd : n.ld with
  | false =>
    rw [hd, if_neg (by simp)] at hl
    rw [if_pos rfl]
    clear HK HE hE hform hlen hL K1 hd
    go_enter Try.func21, Try.ntmps21
    go_wp2_with (go_at_call 32; refine hl.mono ?_; rintro e w1 ⟨rfl, rfl⟩)
    exact bodyPost_ret (v := .tuple #[.agg #[.int .i64 0, .int .i64 0, .int .i64 0, .slice none 0 0, .int .i64 0], .int .i64 5]) (by simp [results, Try.results21, go_sem]) rfl ⟨_, _, rfl, H1.out, el_nil _⟩
  | true =>
    rw [hd, if_pos rfl] at hl
    rw [if_neg (by simp)]
    cases hm : inN most with
    | false =>
      rw [if_pos rfl]
      have hm2 : most < 0 ∨ (¬ most < 0 ∧ most > 4096) := by unfold inN at hm; simp at hm; omega
      clear HK HE hE hform hlen hL K1 hd hm
      rcases hm2 with hm | ⟨hm0, hm⟩
      · have hm1 : decide (most < 0) = true := by simpa using hm
        go_enter Try.func21, Try.ntmps21
        go_wp2_with (go_at_call 32; refine hl.mono ?_; rintro e w1 ⟨rfl, rfl⟩)
        exact bodyPost_ret (v := .tuple #[.agg #[.int .i64 0, .int .i64 0, .int .i64 0, .slice none 0 0, .int .i64 0], .int .i64 1]) (by simp [results, Try.results21, go_sem]) rfl ⟨_, _, rfl, H1.out, el_nil _⟩
      · go_enter Try.func21, Try.ntmps21
        go_wp2_with (go_at_call 32; refine hl.mono ?_; rintro e w1 ⟨rfl, rfl⟩)
        exact bodyPost_ret (v := .tuple #[.agg #[.int .i64 0, .int .i64 0, .int .i64 0, .slice none 0 0, .int .i64 0], .int .i64 1]) (by simp [results, Try.results21, go_sem]) rfl ⟨_, _, rfl, H1.out, el_nil _⟩
    | true =>
      rw [if_neg (by simp)]
      have hm2 : 0 ≤ most ∧ most ≤ 4096 := by unfold inN at hm; simpa using hm
      obtain ⟨hm0, hm1⟩ := hm2
      have hmk := hB.ld hd
      rw [hL] at hmk
      have hw1 : wrap64 ((n.mark : Int) + most) = (n.mark : Int) + most := w64b _ (by omega)
      have hmki : (n.mark : Int) ≤ (L : Int) := by omega
      have hLi : (L : Int) ≤ 4096 := by omega
      have hlci : (L : Int) ≤ (cl : Int) := by omega
      have HE2 : Hid (EL rs (.slice sl L cl) n.l) := el_mono HE hs
      clear HK HE hE hform hlen hL hd hm H1 hs
      have HK1 : Hid (KR w _ _) := K1
      clear K1
      go_enter Try.func21, Try.ntmps21
      go_wp2_with (go_at_call 32; refine hl.mono ?_; rintro e w1 ⟨rfl, rfl⟩)
      have HV := HK1.out
      generalize (W.alloc (.cells #[.int .i64 0, .int .i64 0, .int .i64 0, .slice none 0 0, .int .i64 0] 53)) = V at *
      have k3 := kr_cell HV 1 rfl 3 _ rfl
      have k5 := kr_cell HV 1 rfl 5 _ rfl
      clear HV
      obtain ⟨pl, hpl⟩ : ∃ pl, pl = (n.l.drop n.mark).take most.toNat := ⟨_, rfl⟩
      have HP : Hid (pl = (n.l.drop n.mark).take most.toNat) := hpl
      obtain ⟨K, hK⟩ : ∃ K, K = pl.length := ⟨_, rfl⟩
      have HK : Hid (K = pl.length ∧ K = min most.toNat (L - n.mark)) := ⟨hK, by rw [hK, hpl, List.length_take, List.length_drop, HL.out]⟩
      have HKe : K = min most.toNat (L - n.mark) := HK.out.2
      have HEV : Hid (ELV V sl n.l) := by
        exact el_read (kr_tail (kr_tail HK1.out)) HE2.out
      have HKB : Hid (K ≤ 4096 ∧ n.mark + K ≤ L) := by show _ ∧ _; omega
      clear hpl hK
      go_cut [7] (fun v7 wx => ∃ s7 c7 q, v7 = .slice s7 K c7 ∧ wx = V.drewN q ∧ (s7 = sl.map (fun x => x.add (n.mark * 2)) ∨ K = 0))
      case first =>
        rcases Nat.lt_or_ge (L - n.mark) most.toNat with hmin | hmin
        · have hmi : ¬ ((n.mark : Int) + most < (L : Int)) := by omega
          have HH : Hid (L - n.mark = K ∧ L ≤ cl) := by show _ ∧ _; omega
          clear HKe hmin
          go_quiet (fail)
          go_wp2_with fail
          all_goals go_meet
          · refine ⟨_, _, _, by rw [HH.out.1], rfl, .inr ?_⟩
            have := HH.out; omega
          · exact ⟨_, _, _, by rw [HH.out.1], rfl, .inl rfl⟩
        · obtain ⟨mo, rfl⟩ : ∃ mo : Nat, most = (mo : Int) := ⟨most.toNat, by omega⟩
          rw [Int.toNat_natCast] at hmin HKe
          have hmi : ((n.mark : Int) + (mo : Int) < (L : Int)) ∨ n.mark + mo = L := by omega
          have HH : Hid (mo = K ∧ L ≤ cl) := by show _ ∧ _; omega
          have hsub : ((n.mark : Int) + (mo : Int)).toNat = n.mark + mo := by omega
          clear HKe
          rcases hmi with hmi | hmi
          · go_quiet (fail)
            go_wp2_with fail
            all_goals go_meet
            all_goals exact ⟨_, _, _, by rw [HH.out.1], rfl, .inl rfl⟩
          · have hmi2 : ¬ ((n.mark : Int) + (mo : Int) < (L : Int)) := by omega
            go_quiet (fail)
            have HH2 : Hid (L - n.mark = K) := by have := HH.out.1; show _ = _; omega
            go_wp2_with fail
            all_goals go_meet
            · refine ⟨_, _, _, by rw [HH2.out], rfl, .inr ?_⟩
              have := HH2.out; have := HH.out; omega
            · exact ⟨_, _, _, by rw [HH2.out], rfl, .inl rfl⟩
      case rest =>
        obtain ⟨s7, c7, q, rfl, rfl, hs7⟩ := hcut
        clear HKe
        have HKV := kr_drewN HK1.out q
        generalize V.drewN q = V2 at *
        have hne1 : ¬ (D = W.heap.size) := by omega
        have hne2 : ¬ (W.heap.size = D) := by omega
        generalize W.heap.size = t at *
        have HE7 : ∀ W1, KR w ((t, [.int .i64 0, .int .i64 0, .int .i64 0, .slice none 0 0, .int .i64 0]) :: (D, ncl n (.slice sl L cl)) :: rs) W1 → ELV W1 s7 pl := fun W1 h1 => by
          have hE := el_read (kr_tail (kr_tail h1)) HE2.out
          rcases hs7 with rfl | h0
          · rw [HP.out]; exact elv_take (elv_drop hE n.mark) _
          · have : pl = [] := List.eq_nil_of_length_eq_zero (by rw [← HK.out.1]; exact h0)
            rw [this]; exact elv_nil
        have hown := fun W1 (h1 : KR w ((t, [.int .i64 0, .int .i64 0, .int .i64 0, .slice none 0 0, .int .i64 0]) :: (D, ncl n (.slice sl L cl)) :: rs) W1) => own_k pl K HK.out.1.symm ⟨by have := HKB.out; omega, fun x hx => by have := hB.data x (by rw [HP.out] at hx; exact (List.drop_sublist _ _).subset ((List.take_sublist _ _).subset hx)); omega⟩ s7 c7 (HE7 W1 h1)
        have hep := fun W1 (h1 : KR w ((D, ncl n (.slice sl L cl)) :: rs) W1) => epAt_k n.l L n.mark HL.out (by have := HKB.out; omega) (by have := HKB.out; omega) sl cl (el_read (kr_tail h1) HE2.out)
        have k2 := kr_cell HKV 1 rfl 2 _ rfl
        have k3 := kr_cell HKV 1 rfl 3 _ rfl
        have k4 := kr_cell HKV 1 rfl 4 _ rfl
        have k5 := kr_cell HKV 1 rfl 5 _ rfl
        have HVD := kr_drew HKV
        have HOWN : Hid _ := hidI hown
        have HEP : Hid _ := hidI hep
        have HVD2 : Hid (KR w _ V2.drew) := HVD
        clear HE7 hown hep hs7 HKV HVD HEV HK1
        go_wp2_with fail
        go_region_held3 (fun W' => W'.cell? ⟨D, 2, none⟩ = some (.int .i64 n.ep) ∧ W'.cell? ⟨D, 5, none⟩ = some (.int .i64 (n.mark : Int)) ∧ W'.cell? ⟨D, 3, none⟩ = some (.slice sl L cl) ∧ W'.cell? ⟨D, 4, none⟩ = some (.int .i64 (n.safe : Int))) (first | (with_reducible exact hS3) | go_keep) (first | (go_at_call 31; refine (HOWN.out _ HVD2.out).mono ?_; rintro e w3 ⟨v1, l1, rfl, HK3, HE3⟩; obtain ⟨s1, c1, rfl, hc1⟩ := el_form HE3; have HK4 := kr_permA (kr_join HVD2.out HK3) (by exact (List.perm_middle.trans (List.Perm.cons _ List.perm_middle)).symm); have hS3 := And.intro (kr_cell HK4 1 rfl 2 _ rfl) (And.intro (kr_cell HK4 1 rfl 5 _ rfl) (And.intro (kr_cell HK4 1 rfl 3 _ rfl) (kr_cell HK4 1 rfl 4 _ rfl))); have b0 := kr_cell HK4 0 rfl 0 _ rfl; have b1 := kr_cell HK4 0 rfl 1 _ rfl; have b2 := kr_cell HK4 0 rfl 2 _ rfl; have b3 := kr_cell HK4 0 rfl 3 _ rfl; have b4 := kr_cell HK4 0 rfl 4 _ rfl; have d0 := kr_frozen HK4 0 rfl 0 (by show 0 < 5; omega); have d1 := kr_frozen HK4 0 rfl 1 (by show 1 < 5; omega); have d2 := kr_frozen HK4 0 rfl 2 (by show 2 < 5; omega); have d3 := kr_frozen HK4 0 rfl 3 (by show 3 < 5; omega); have d4 := kr_frozen HK4 0 rfl 4 (by show 4 < 5; omega)) | (go_at_call 33; (first | (with_reducible refine (HEP.out _ (kr_tail HVD2.out)).mono ?_) | (with_reducible refine (HEP.out _ (kr_sub HK4 (List.Sublist.cons _ (List.Sublist.cons_cons _ (List.sublist_append_right _ _))))).mono ?_)); rintro e w5 ⟨rfl, rfl⟩))
        have K5 := kr_fset (kr_fset (kr_fset (kr_fset (kr_fset HK4 0 rfl 0 (by show 0 < 5; omega) (.int .i64 n.ep) _ rfl) 0 rfl 1 (by show 1 < 5; omega) (.int .i64 (n.mark : Int)) _ rfl) 0 rfl 2 (by show 2 < 5; omega) (.int .i64 (epAt n.l n.mark)) _ rfl) 0 rfl 3 (by show 3 < 5; omega) (.slice s1 pl.length c1) _ rfl) 0 rfl 4 (by show 4 < 5; omega) (.int .i64 (n.safe : Int)) _ rfl
        simp only [List.set_cons_zero, List.set_cons_succ] at K5
        have HE9 : Hid (EL l1 (.slice s1 pl.length c1) ((n.l.drop n.mark).take most.toNat)) := by have := HE3; rw [← HP.out]; exact this
        clear b0 b1 b2 b3 b4 d0 d1 d2 d3 d4 HK4 hS3 HK3 HE3
        generalize (((((w3.setCell ⟨t, 0, none⟩ (.int .i64 n.ep)).setCell ⟨t, 1, none⟩ (.int .i64 (n.mark : Int))).setCell ⟨t, 2, none⟩ (.int .i64 (epAt n.l n.mark))).setCell ⟨t, 3, none⟩ (.slice s1 pl.length c1)).setCell ⟨t, 4, none⟩ (.int .i64 (n.safe : Int))) = W5 at K5 ⊢
        have r0 := kr_cell K5 0 rfl 0 _ rfl
        have r1 := kr_cell K5 0 rfl 1 _ rfl
        have r2 := kr_cell K5 0 rfl 2 _ rfl
        have r3 := kr_cell K5 0 rfl 3 _ rfl
        have r4 := kr_cell K5 0 rfl 4 _ rfl
        have HK6 : Hid (KR w ((t, [.int .i64 n.ep, .int .i64 (n.mark : Int), .int .i64 (epAt n.l n.mark), .slice s1 pl.length c1, .int .i64 (n.safe : Int)]) :: (l1 ++ (D, ncl n (.slice sl L cl)) :: rs)) W5) := kr_permA K5 (List.Perm.cons _ List.perm_middle)
        clear K5
        go_wp2_with fail
        exact bodyPost_ret (v := .tuple #[.agg #[.int .i64 n.ep, .int .i64 (n.mark : Int), .int .i64 (epAt n.l n.mark), .slice s1 pl.length c1, .int .i64 (n.safe : Int)], .int .i64 0]) (by simp [results, Try.results21, go_sem, r0, r1, r2, r3, r4]) rfl ⟨_, (t, _) :: l1, rfl, HK6.out, el_mono HE9.out (fun p hp => List.mem_cons_of_mem _ hp)⟩
end
end Go.Proofs.Ytofpkmfjigjlhaa.Own
