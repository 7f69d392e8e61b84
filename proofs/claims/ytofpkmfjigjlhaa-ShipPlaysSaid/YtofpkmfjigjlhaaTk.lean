/- Take of dayshift/ship: the answers that change no log. No conditions beside those in each theorem. -/
import Derived.Test.YtofpkmfjigjlhaaAn
import Derived.Test.YtofpkmfjigjlhaaSn
namespace Go.Proofs.Ytofpkmfjigjlhaa.Own
open Go.RowKit
set_option linter.unusedSimpArgs false
set_option linter.unusedVariables false
theorem take_nil {W : World} : Calls Try.prog 22 #[.pointer none, .agg #[.int .i64 0, .int .i64 0, .int .i64 0, .slice none 0 0, .int .i64 0]] W fun e W' => e = .returned (.tuple #[.agg #[.int .i64 0, .bool false, .int .i64 0], .int .i64 2]) ∧ Below W.heap.size W W' := by
  have K1 := kr_new (kr_new (kr_refl W) [.int .i64 0, .int .i64 0, .int .i64 0, .slice none 0 0, .int .i64 0] 53) [.int .i64 0, .bool false, .int .i64 0] 57
  have HB : Hid (Below W.heap.size W ((W.alloc (.cells [.int .i64 0, .int .i64 0, .int .i64 0, .slice none 0 0, .int .i64 0].toArray 53)).alloc (.cells [.int .i64 0, .bool false, .int .i64 0].toArray 57))) := K1.below
  clear K1
  go_enter Try.func22, Try.ntmps22
  go_wp2
  exact bodyPost_ret (v := .tuple #[.agg #[.int .i64 0, .bool false, .int .i64 0], .int .i64 2]) (by simp [results, Try.results22, go_sem]) rfl ⟨rfl, HB.out⟩
def TkPost (w : World) (rs im : List (Nat × List Value)) (D : Nat) (r : SN × SA × Int) (e : Ending) (W' : World) : Prop := ∃ l lv', e = .returned (.tuple #[.agg #[.int .i64 r.2.1.1, .bool r.2.1.2.1, .int .i64 r.2.1.2.2], .int .i64 r.2.2]) ∧ KR w ((D, ncl r.1 lv') :: (l ++ rs)) W' ∧ EL (l ++ im) lv' r.1.l
section
variable {w W : World} {rs im : List (Nat × List Value)} {n : SN} {lv : Value} {D : Nat}
set_option maxRecDepth 100000 in
set_option maxHeartbeats 1000000 in
theorem take_no (HK : KR w ((D, ncl n lv) :: rs) W) (hs : ∀ p ∈ im, p ∈ rs) (HE : EL im lv n.l) (hB : NB n) (p : SP) (m : Nat) (hm : Hid (p.l.length = m)) (hm2 : m ≤ 100000) (hz : Hid (∀ x ∈ p.l, x.2.length ≤ 140737488351232)) (sp : Option Addr) (c : Nat) (hP : Hid (∀ W1, KR w ((D, ncl n lv) :: rs) W1 → ELV W1 sp p.l))
    (hno : sRight p = false ∨ (p.ep < n.ep ∨ (p.ep = n.ep ∧ n.ld = true)) ∨ (n.l.length : Int) < p.at_ ∨ epAt n.l p.at_.toNat ≠ p.bf) :
    Calls Try.prog 22 #[.pointer (some ⟨D, 0, none⟩), .agg #[.int .i64 p.ep, .int .i64 p.at_, .int .i64 p.bf, .slice sp m c, .int .i64 p.safe]] W (TkPost w rs im D (sTake n p)) := by
  obtain ⟨pe, pa, pb, pl, ps⟩ := p
  simp only at hm hz hP hno ⊢
  obtain ⟨sl, cl, rfl, hlc⟩ := el_form HE
  have hEL : ∀ W1, KR w ((D, ncl n (.slice sl n.l.length cl)) :: rs) W1 → ELV W1 sl n.l := fun W1 h1 => el_read (kr_tail h1) (el_mono HE hs)
  have K1 := kr_new (kr_new HK [.int .i64 pe, .int .i64 pa, .int .i64 pb, .slice sp m c, .int .i64 ps] 53) [.int .i64 0, .bool false, .int .i64 0] 57
  rw [World.size_alloc] at K1
  have hri := right_k ⟨pe, pa, pb, pl, ps⟩ m hm hm2 hz sp c (hP.out _ (kr_tail (kr_tail K1)))
  have hlen := hB.len
  generalize hL : n.l.length = L at *
  have HL : Hid (n.l.length = L) := hL
  have hLi : (L : Int) ≤ 4096 := by omega
  obtain ⟨pc, hpc⟩ : ∃ pc : List Value, pc = [.int .i64 pe, .int .i64 pa, .int .i64 pb, .slice sp m c, .int .i64 ps] := ⟨_, rfl⟩
  have HE0 : Hid (EL im (.slice sl L cl) n.l) := HE
  simp only at hri
  have hz1 : W.heap.size + 1 < ((W.alloc (.cells #[.int .i64 pe, .int .i64 pa, .int .i64 pb, .slice sp m c, .int .i64 ps] 53)).alloc (.cells #[.int .i64 0, .bool false, .int .i64 0] 57)).heap.size := by simp
  have HK1 : Hid (KR w _ _) := K1
  unfold sTake
  rcases bool_false_or (sRight ⟨pe, pa, pb, pl, ps⟩) with hr | hr
  · rw [if_pos hr]
    rw [hr] at hri
    clear HK HE K1 hno hlen hL hr hpc hEL
    go_enter Try.func22, Try.ntmps22
    go_wp2_with (go_at_call 34; refine hri.mono ?_; rintro e w1 ⟨rfl, hB1⟩; have HK2 := kr_call HK1.out hB1; have xa0 := kr_cell HK2 0 rfl 0 _ rfl; have xa1 := kr_cell HK2 0 rfl 1 _ rfl; have xa2 := kr_cell HK2 0 rfl 2 _ rfl; have xf0 := kr_frozen HK2 0 rfl 0 (by show 0 < 3; omega); have xf1 := kr_frozen HK2 0 rfl 1 (by show 1 < 3; omega); have xf2 := kr_frozen HK2 0 rfl 2 (by show 2 < 3; omega))
    have K5 := kr_fset (kr_fset (kr_fset HK2 0 rfl 0 (by show 0 < 3; omega) (.int .i64 0) _ rfl) 0 rfl 1 (by show 1 < 3; omega) (.bool false) _ rfl) 0 rfl 2 (by show 2 < 3; omega) (.int .i64 0) _ rfl
    simp only [List.set_cons_zero, List.set_cons_succ] at K5
    generalize (((w1.setCell ⟨W.heap.size + 1, 0, none⟩ (.int .i64 0)).setCell ⟨W.heap.size + 1, 1, none⟩ (.bool false)).setCell ⟨W.heap.size + 1, 2, none⟩ (.int .i64 0)) = W5 at K5 ⊢
    have r0 := kr_cell K5 0 rfl 0 _ rfl
    have r1 := kr_cell K5 0 rfl 1 _ rfl
    have r2 := kr_cell K5 0 rfl 2 _ rfl
    have HK5 : Hid (KR w _ W5) := K5
    clear K5
    (try go_wp2_with fail)
    exact bodyPost_ret (v := .tuple #[.agg #[.int .i64 0, .bool false, .int .i64 0], .int .i64 1]) (by simp [results, Try.results22, go_sem, r0, r1, r2]) rfl ⟨_, _, rfl, kr_permA HK5.out (List.perm_middle (l₁ := [_, _])).symm, el_mono HE0.out (fun p hp => List.mem_append_right _ hp)⟩
  · rw [if_neg (by rw [hr]; simp)]
    rw [hr] at hri
    have hpe : 0 ≤ pe ∧ pe ≤ 4611686018427387904 ∧ 0 ≤ pa ∧ pa ≤ 4096 := by unfold sRight inE inN at hr; simp at hr; omega
    obtain ⟨hpe0, hpe1, hpa0, hpa1⟩ := hpe
    by_cases hst : pe < n.ep ∨ (pe = n.ep ∧ n.ld = true)
    · rw [if_pos hst]
      clear HK HE K1 hno hlen hL hr hpc hpe0 hpe1 hpa0 hpa1 hEL
      by_cases h1 : pe < n.ep
      · have h1' : decide (pe < n.ep) = true := by simpa using h1
        clear hst
        go_enter Try.func22, Try.ntmps22
        go_wp2_with (go_at_call 34; refine hri.mono ?_; rintro e w1 ⟨rfl, hB1⟩; have HK2 := kr_call HK1.out hB1; have xp0 := kr_cell HK2 1 rfl 0 _ rfl; have xd2 := kr_cell HK2 2 rfl 2 _ rfl; have xa0 := kr_cell HK2 0 rfl 0 _ rfl; have xa1 := kr_cell HK2 0 rfl 1 _ rfl; have xa2 := kr_cell HK2 0 rfl 2 _ rfl; have xf0 := kr_frozen HK2 0 rfl 0 (by show 0 < 3; omega); have xf1 := kr_frozen HK2 0 rfl 1 (by show 1 < 3; omega); have xf2 := kr_frozen HK2 0 rfl 2 (by show 2 < 3; omega))
        go_quiet (fail)
        have HK3 := kr_drewN HK2 nq
        go_wp2_with fail
        clear HK2 xp0 xd2 xa0 xa1 xa2 xf0 xf1 xf2
        have K5 := kr_fset (kr_fset (kr_fset HK3 0 rfl 0 (by show 0 < 3; omega) (.int .i64 n.ep) _ rfl) 0 rfl 1 (by show 1 < 3; omega) (.bool false) _ rfl) 0 rfl 2 (by show 2 < 3; omega) (.int .i64 0) _ rfl
        simp only [List.set_cons_zero, List.set_cons_succ] at K5
        generalize ((((w1.drewN nq).setCell ⟨W.heap.size + 1, 0, none⟩ (.int .i64 n.ep)).setCell ⟨W.heap.size + 1, 1, none⟩ (.bool false)).setCell ⟨W.heap.size + 1, 2, none⟩ (.int .i64 0)) = W5 at K5 ⊢
        have r0 := kr_cell K5 0 rfl 0 _ rfl
        have r1 := kr_cell K5 0 rfl 1 _ rfl
        have r2 := kr_cell K5 0 rfl 2 _ rfl
        have HK5 : Hid (KR w _ W5) := K5
        clear K5
        (try go_wp2_with fail)
        exact bodyPost_ret (v := .tuple #[.agg #[.int .i64 n.ep, .bool false, .int .i64 0], .int .i64 0]) (by simp [results, Try.results22, go_sem, r0, r1, r2]) rfl ⟨_, _, rfl, kr_permA HK5.out (List.perm_middle (l₁ := [_, _])).symm, el_mono HE0.out (fun p hp => List.mem_append_right _ hp)⟩
      · obtain ⟨rfl, hld⟩ := hst.resolve_left h1
        have h1' : decide (n.ep < n.ep) = false := by simp
        have h2' : (n.ep == n.ep) = true := by simp
        clear hst h1
        have HLD : Hid (n.ld = true) := hld
        go_enter Try.func22, Try.ntmps22
        go_wp2_with (go_at_call 34; refine hri.mono ?_; rintro e w1 ⟨rfl, hB1⟩; have HK2 := kr_call HK1.out hB1; have xp0 := kr_cell HK2 1 rfl 0 _ rfl; have xd2 := kr_cell HK2 2 rfl 2 _ rfl; have xd1 := kr_cell HK2 2 rfl 1 _ rfl; rw [hld] at xd1; clear hld; have xa0 := kr_cell HK2 0 rfl 0 _ rfl; have xa1 := kr_cell HK2 0 rfl 1 _ rfl; have xa2 := kr_cell HK2 0 rfl 2 _ rfl; have xf0 := kr_frozen HK2 0 rfl 0 (by show 0 < 3; omega); have xf1 := kr_frozen HK2 0 rfl 1 (by show 1 < 3; omega); have xf2 := kr_frozen HK2 0 rfl 2 (by show 2 < 3; omega))
        go_quiet (fail)
        have HK3 := kr_drewN HK2 nq
        go_wp2_with fail
        clear HK2 xp0 xd2 xd1 xa0 xa1 xa2 xf0 xf1 xf2
        have K5 := kr_fset (kr_fset (kr_fset HK3 0 rfl 0 (by show 0 < 3; omega) (.int .i64 n.ep) _ rfl) 0 rfl 1 (by show 1 < 3; omega) (.bool false) _ rfl) 0 rfl 2 (by show 2 < 3; omega) (.int .i64 0) _ rfl
        simp only [List.set_cons_zero, List.set_cons_succ] at K5
        generalize ((((w1.drewN nq).setCell ⟨W.heap.size + 1, 0, none⟩ (.int .i64 n.ep)).setCell ⟨W.heap.size + 1, 1, none⟩ (.bool false)).setCell ⟨W.heap.size + 1, 2, none⟩ (.int .i64 0)) = W5 at K5 ⊢
        have r0 := kr_cell K5 0 rfl 0 _ rfl
        have r1 := kr_cell K5 0 rfl 1 _ rfl
        have r2 := kr_cell K5 0 rfl 2 _ rfl
        have HK5 : Hid (KR w _ W5) := K5
        clear K5
        (try go_wp2_with fail)
        exact bodyPost_ret (v := .tuple #[.agg #[.int .i64 n.ep, .bool false, .int .i64 0], .int .i64 0]) (by simp [results, Try.results22, go_sem, r0, r1, r2]) rfl ⟨_, _, rfl, kr_permA HK5.out (List.perm_middle (l₁ := [_, _])).symm, el_mono HE0.out (fun p hp => List.mem_append_right _ hp)⟩
    · rw [if_neg hst]
      have h1 : ¬ pe < n.ep := fun h => hst (.inl h)
      have h1' : decide (pe < n.ep) = false := by simpa using h1
      have hg : (pe == n.ep) = false ∨ ((pe == n.ep) = true ∧ n.ld = false) := by
        rcases bool_false_or (pe == n.ep) with h | h
        · exact .inl h
        · rcases bool_false_or n.ld with h2 | h2
          · exact .inr ⟨h, h2⟩
          · exact absurd (.inr ⟨by simpa using h, h2⟩) hst
      have hy := fun V (hV : KR w ((D, ncl n (.slice sl L cl)) :: ((W.heap.size + 1, [.int .i64 0, .bool false, .int .i64 0]) :: (W.heap.size, [.int .i64 pe, .int .i64 pa, .int .i64 pb, .slice sp m c, .int .i64 ps]) :: rs)) V) => yield_k hV pe
      have HY : Hid (∀ V, KR w ((D, ncl n (.slice sl L cl)) :: ((W.heap.size + 1, [.int .i64 0, .bool false, .int .i64 0]) :: (W.heap.size, [.int .i64 pe, .int .i64 pa, .int .i64 pb, .slice sp m c, .int .i64 ps]) :: rs)) V → Calls Try.prog 35 #[.pointer (some ⟨D, 0, none⟩), .int .i64 pe] V fun e' W' => e' = .returned (.tuple #[]) ∧ KR w ((D, ncl { n with ep := pe, ld := false } (.slice sl L cl)) :: ((W.heap.size + 1, [.int .i64 0, .bool false, .int .i64 0]) :: (W.heap.size, [.int .i64 pe, .int .i64 pa, .int .i64 pb, .slice sp m c, .int .i64 ps]) :: rs)) W') := hy
      have hno := (hno.resolve_left (by rw [hr]; simp)).resolve_left hst
      rw [hL]
      clear hst h1 hy
      by_cases hc1 : (L : Int) < pa
      · rw [if_pos hc1]
        clear HK HE K1 hno hlen hL hr hpc hpe0 hpe1 hEL
        rcases hg with hg | ⟨hg, hld⟩
        all_goals
          go_enter Try.func22, Try.ntmps22
          go_wp2_with (go_at_call 34; refine hri.mono ?_; rintro e w1 ⟨rfl, hB1⟩; have HK2 := kr_call HK1.out hB1; have xp0 := kr_cell HK2 1 rfl 0 _ rfl; have xd2 := kr_cell HK2 2 rfl 2 _ rfl; have xd1 := kr_cell HK2 2 rfl 1 _ rfl; (try rw [hld] at xd1); (try clear hld))
          go_quiet (fail)
          go_wp2_with (go_at_call 35; refine (HY.out _ (kr_permA (kr_drewN HK2 nq) (List.perm_middle (l₁ := [_, _])).symm)).mono ?_; rintro e w3 ⟨rfl, HK3⟩; have HK3 := kr_permA HK3 (List.perm_middle (l₁ := [_, _])); clear HK2 xp0 xd2 xd1; have zd3 := kr_cell HK3 2 rfl 3 _ rfl; have zp1 := kr_cell HK3 1 rfl 1 _ rfl)
          have zd2 := kr_cell HK3 2 rfl 2 _ rfl
          have za0 := kr_cell HK3 0 rfl 0 _ rfl
          have za1 := kr_cell HK3 0 rfl 1 _ rfl
          have za2 := kr_cell HK3 0 rfl 2 _ rfl
          have zf0 := kr_frozen HK3 0 rfl 0 (by show 0 < 3; omega)
          have zf1 := kr_frozen HK3 0 rfl 1 (by show 1 < 3; omega)
          have zf2 := kr_frozen HK3 0 rfl 2 (by show 2 < 3; omega)
          go_quiet (fail)
          go_wp2_with fail
          go_region
          go_wp2_with fail
          have K5 := fun q => kr_fset (kr_fset (kr_fset (kr_drewN HK3 q) 0 rfl 0 (by show 0 < 3; omega) (.int .i64 pe) _ rfl) 0 rfl 1 (by show 1 < 3; omega) (.bool false) _ rfl) 0 rfl 2 (by show 2 < 3; omega) (.int .i64 (L : Int)) _ rfl
          simp only [List.set_cons_zero, List.set_cons_succ] at K5
          have HK5 : Hid (∀ q, KR w _ ((((w3.drewN q).setCell ⟨W.heap.size + 1, 0, none⟩ (.int .i64 pe)).setCell ⟨W.heap.size + 1, 1, none⟩ (.bool false)).setCell ⟨W.heap.size + 1, 2, none⟩ (.int .i64 (L : Int)))) := K5
          clear K5
          exact bodyPost_ret (v := .tuple #[.agg #[.int .i64 pe, .bool false, .int .i64 (L : Int)], .int .i64 0]) (by simp [results, Try.results22, go_sem, *]) rfl ⟨_, _, rfl, kr_permA (HK5.out _) (List.perm_middle (l₁ := [_, _])).symm, el_mono HE0.out (fun p hp => List.mem_append_right _ hp)⟩
      · rw [if_neg hc1]
        have hne := hno.resolve_left hc1
        rw [if_pos hne]
        obtain ⟨pn, rfl⟩ : ∃ pn : Nat, pa = (pn : Int) := ⟨pa.toNat, by omega⟩
        rw [Int.toNat_natCast] at hne
        have hpnL : pn ≤ L := by omega
        have hep := fun V (hV : KR w ((W.heap.size + 1, [.int .i64 0, .bool false, .int .i64 0]) :: (W.heap.size, [.int .i64 pe, .int .i64 (pn : Int), .int .i64 pb, .slice sp m c, .int .i64 ps]) :: (D, ncl { n with ep := pe, ld := false } (.slice sl L cl)) :: rs) V) => epAt_k n.l L pn HL.out hpnL (by omega) sl cl (el_read (kr_tail (kr_tail (kr_tail hV))) (el_mono HE0.out hs))
        have HEP : Hid _ := hidI hep
        generalize hz : epAt n.l pn = z at *
        have hne1 : (z != pb) = true := by simpa using hne
        have hne2 : (z == pb) = false := by simpa using hne
        have hw : wrap64 ((pn : Int) - 1) = (pn : Int) - 1 := w64b _ (by omega)
        clear HK HE K1 hno hlen hL hr hpc hpe0 hpe1 hEL hep hz hne
        rcases hg with hg | ⟨hg, hld⟩
        all_goals
          go_enter Try.func22, Try.ntmps22
          go_wp2_with (go_at_call 34; refine hri.mono ?_; rintro e w1 ⟨rfl, hB1⟩; have HK2 := kr_call HK1.out hB1; have xp0 := kr_cell HK2 1 rfl 0 _ rfl; have xd2 := kr_cell HK2 2 rfl 2 _ rfl; have xd1 := kr_cell HK2 2 rfl 1 _ rfl; (try rw [hld] at xd1); (try clear hld))
          go_quiet (fail)
          go_wp2_with (go_at_call 35; refine (HY.out _ (kr_permA (kr_drewN HK2 nq) (List.perm_middle (l₁ := [_, _])).symm)).mono ?_; rintro e w3 ⟨rfl, HK3⟩; have HK3 := kr_permA HK3 (List.perm_middle (l₁ := [_, _])); clear HK2 xp0 xd2 xd1; have zd3 := kr_cell HK3 2 rfl 3 _ rfl; have zp1 := kr_cell HK3 1 rfl 1 _ rfl; have zp2 := kr_cell HK3 1 rfl 2 _ rfl)
          have zd2 := kr_cell HK3 2 rfl 2 _ rfl
          have za0 := kr_cell HK3 0 rfl 0 _ rfl
          have za1 := kr_cell HK3 0 rfl 1 _ rfl
          have za2 := kr_cell HK3 0 rfl 2 _ rfl
          have zf0 := kr_frozen HK3 0 rfl 0 (by show 0 < 3; omega)
          have zf1 := kr_frozen HK3 0 rfl 1 (by show 1 < 3; omega)
          have zf2 := kr_frozen HK3 0 rfl 2 (by show 2 < 3; omega)
          go_quiet (fail)
          go_wp2_with fail
          go_region_held3 (fun V => V.cell? ⟨D, 3, none⟩ = some (.slice sl L cl) ∧ V.cell? ⟨W.heap.size, 1, none⟩ = some (.int .i64 (pn : Int)) ∧ V.cell? ⟨W.heap.size, 2, none⟩ = some (.int .i64 pb)) (go_keep) ((go_at_call 33; refine (HEP.out _ (kr_drewN HK3 _)).mono ?_; rintro e w5 ⟨rfl, rfl⟩))
          go_wp2_with fail
          go_region
          go_wp2_with fail
          have K5 := fun q => kr_fset (kr_fset (kr_fset (kr_drewN HK3 q) 0 rfl 0 (by show 0 < 3; omega) (.int .i64 pe) _ rfl) 0 rfl 1 (by show 1 < 3; omega) (.bool false) _ rfl) 0 rfl 2 (by show 2 < 3; omega) (.int .i64 ((pn : Int) - 1)) _ rfl
          simp only [List.set_cons_zero, List.set_cons_succ] at K5
          have HK5 : Hid (∀ q, KR w _ ((((w3.drewN q).setCell ⟨W.heap.size + 1, 0, none⟩ (.int .i64 pe)).setCell ⟨W.heap.size + 1, 1, none⟩ (.bool false)).setCell ⟨W.heap.size + 1, 2, none⟩ (.int .i64 ((pn : Int) - 1)))) := K5
          clear K5
          exact bodyPost_ret (v := .tuple #[.agg #[.int .i64 pe, .bool false, .int .i64 ((pn : Int) - 1)], .int .i64 0]) (by simp [results, Try.results22, go_sem, *]) rfl ⟨_, _, rfl, kr_permA (HK5.out _) (List.perm_middle (l₁ := [_, _])).symm, el_mono HE0.out (fun p hp => List.mem_append_right _ hp)⟩
end
end Go.Proofs.Ytofpkmfjigjlhaa.Own
