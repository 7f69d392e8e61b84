/- The reference's Take. No conditions beside those in each theorem. -/
import Derived.Test.YtofpkmfjigjlhaaRf31
import Derived.Deep.CutBlock
namespace Go.Proofs.Ytofpkmfjigjlhaa.Own
open Go.RowKit
set_option linter.unusedSimpArgs false
set_option linter.unusedVariables false
theorem quiet_flipR {f : FuncId} {args : Array Value} {w : World} {n : Nat} {v : Value} (h : Calls Try.prog f args (w.drewN n) fun e w' => e = .returned v ∧ w.drewN n = w') : Calls Try.prog f args (w.drewN n) fun e w'' => e = .returned v ∧ ∃ m, w'' = w.drewN m :=
  h.mono fun _ _ ⟨he, hm⟩ => ⟨he, n, hm.symm⟩
theorem fresh_goR {l d : List SE} {k : Nat} (h : k ≤ fresh l d) {x y : SE} (hx : l[k]? = some x) (hy : d[k]? = some y) (he : x.1 = y.1) : k + 1 ≤ fresh l d := by
  rcases Nat.lt_or_eq_of_le h with h | h
  · exact h
  · exact absurd he (fresh_ne l d x y (by rw [← h]; exact hx) (by rw [← h]; exact hy))
theorem fresh_stopR {l d : List SE} {k : Nat} (h : k ≤ fresh l d) (hn : ∀ x y, l[k]? = some x → d[k]? = some y → x.1 ≠ y.1) : fresh l d = k := by
  rcases Nat.lt_or_eq_of_le h with h | h
  · obtain ⟨h1, h2⟩ := fresh_le l d
    have hx : l[k]? = some (l[k]'(by omega)) := List.getElem?_eq_getElem (by omega)
    have hy : d[k]? = some (d[k]'(by omega)) := List.getElem?_eq_getElem (by omega)
    exact absurd (fresh_eq l d k _ _ h hx hy) (hn _ _ hx hy)
  · exact h.symm
theorem perm_tb (T B D' : Nat × List Value) (l rs : List (Nat × List Value)) : (T :: B :: D' :: (l ++ rs)).Perm (D' :: (l ++ T :: B :: rs)) := by
  refine (List.perm_middle (l₁ := [T, B]) (a := D') (l₂ := l ++ rs)).trans (List.Perm.cons D' ?_)
  show ([T, B] ++ (l ++ rs)).Perm (l ++ ([T, B] ++ rs))
  rw [← List.append_assoc, ← List.append_assoc]
  exact List.perm_append_comm.append_right rs
theorem rtk_mid {w w3 w4 : World} {rows1 l2 rs' : List (Nat × List Value)} {D : Nat} {a : List Value} {v : Value} {es : List SE} {vals : List Value} (R1 : RO w w3 (rows1 ++ (D, a) :: rs') v es vals) (K2 : KR w3 l2 w4) :
    KR w ((D, a) :: ((l2 ++ rows1) ++ rs')) w4 ∧ Own w ((D, a) :: ((l2 ++ rows1) ++ rs')) 43 2 v es.length (ecl es vals) w4 ∧ vals.length = es.length :=
  ⟨kr_permA (ro_call R1 K2).kr (perm_mid3 _ _ _ _), own_rows (ro_call R1 K2).own (fun p hp => ⟨p, (perm_mid3 _ _ _ _).mem_iff.1 hp, rfl⟩), R1.len⟩
theorem rtk_fin {w W' : World} {D : Nat} {n : SN} {rs im l2 rows1 : List (Nat × List Value)} {T B : Nat × List Value} {lv0 v' : Value} {es1 es2 : List SE} {vals1 us : List Value} {k : Nat} (H2 : KR w ((D, ncl n lv0) :: ((l2 ++ rows1) ++ T :: B :: rs)) W') (O : Own w ((D, ncl n lv0) :: ((l2 ++ rows1) ++ T :: B :: rs)) 43 2 v' k (ecl es1 vals1 ++ ecl es2 us) W') (hk : k = es1.length + es2.length) (h1 : vals1.length = es1.length) (h2 : us.length = es2.length)
    (hf1 : ∀ (j : Nat) (u : Value) (x : SE), vals1[j]? = some u → es1[j]? = some x → FC rows1 u x.2) (hf2 : ∀ (j : Nat) (u : Value) (x : SE), us[j]? = some u → es2[j]? = some x → FC l2 u x.2) {M : List SE} (hM : M = es1 ++ es2) :
    ∃ l lv', KR w (T :: B :: (D, ncl { n with l := M } lv') :: (l ++ rs)) (W'.setCell ⟨D, 3, none⟩ v') ∧ EL (l ++ im) lv' M := by
  subst hM
  obtain ⟨l, a, b⟩ := rapp_fin (im := im) H2 (es := es1 ++ es2) (vals := vals1 ++ us) (by rw [ecl_app _ _ _ _ h1, List.length_append, ← hk]; exact O) (by rw [List.length_append, List.length_append, h1, h2])
    (fc_app h1 (fun j u x hu hx => fc_monoL (hf1 j u x hu hx) (fun p hp => List.mem_append_left _ (List.mem_append_right _ hp))) (fun j u x hu hx => fc_monoL (hf2 j u x hu hx) (fun p hp => List.mem_append_left _ (List.mem_append_left _ hp))))
  exact ⟨l, v', kr_permA a (perm_tb _ _ _ _ _), b⟩
section
variable {w W : World} {rs im : List (Nat × List Value)} {n : SN} {lv : Value} {D : Nat}
set_option maxRecDepth 100000 in
set_option maxHeartbeats 8000000 in
theorem rtake_k (HK : KR w ((D, ncl n lv) :: rs) W) (hs : ∀ p ∈ im, p ∈ rs) (HE : EL im lv n.l) (hB : NB n) (p : SP) (m : Nat) (hm : Hid (p.l.length = m)) (hm2 : m ≤ 100000) (hz : Hid (∀ x ∈ p.l, x.2.length ≤ 140737488351232)) (sp : Option Addr) (c : Nat) (hmc : m ≤ c) (hP : Hid (ELV w sp p.l)) :
    Calls Try.prog 49 #[.pointer (some ⟨D, 0, none⟩), .agg #[.int .i64 p.ep, .int .i64 p.at_, .int .i64 p.bf, .slice sp m c, .int .i64 p.safe]] W (TkPost w rs im D (sTake n p)) := by
  obtain ⟨pe, pa, pb, pl, ps⟩ := p
  simp only at hm hz hP ⊢
  obtain ⟨sl, cl, rfl, hlc, hE, hform⟩ := el_elv (kr_sub HK (List.sublist_cons_self _ _)) (el_mono HE hs)
  have K1 := kr_new (kr_new HK [.int .i64 pe, .int .i64 pa, .int .i64 pb, .slice sp m c, .int .i64 ps] 69) [.int .i64 0, .bool false, .int .i64 0] 70
  rw [World.size_alloc] at K1
  have hzD : D < W.heap.size := kr_lt HK 0 rfl
  have hPV : Hid (ELV ((W.alloc (.cells #[.int .i64 pe, .int .i64 pa, .int .i64 pb, .slice sp m c, .int .i64 ps] 69)).alloc (.cells #[.int .i64 0, .bool false, .int .i64 0] 70)) sp pl) := elv_keep hP.out K1.below
  have hri := rRight_k ⟨pe, pa, pb, pl, ps⟩ m hm hm2 hz sp c hPV
  have hlen := hB.len
  generalize hL : n.l.length = L at *
  have HL : Hid (n.l.length = L) := hL
  have hLi : (L : Int) ≤ 4096 := by omega
  have HE0 : Hid (EL im (.slice sl L cl) n.l) := HE
  simp only at hri
  have HK1 : Hid (KR w _ _) := K1
  have HNB : Hid (NB n) := hB
  obtain ⟨R, hR⟩ : ∃ R, R = sTake n ⟨pe, pa, pb, pl, ps⟩ := ⟨_, rfl⟩
  rw [← hR]
  unfold sTake at hR
  rw [hL] at hR
  simp only at hR
  clear K1 HK hE HE hB
  cases hr : sRight ⟨pe, pa, pb, pl, ps⟩ with
  | false =>
    rw [if_pos hr] at hR
    subst hR
    rw [hr] at hri
    clear hr hL hform
    go_enter Try.func49, Try.ntmps49
    go_wp2_with fail
    refine hri.mono ?_
    rintro e w1 ⟨rfl, hb1⟩
    have K1 := kr_call HK1.out hb1
    clear hb1 hri HK1
    have t0 := kr_cell K1 0 rfl 0 _ rfl
    have t1 := kr_cell K1 0 rfl 1 _ rfl
    have t2 := kr_cell K1 0 rfl 2 _ rfl
    have g0 := kr_frozen K1 0 rfl 0 (by show 0 < 3; omega)
    have g1 := kr_frozen K1 0 rfl 1 (by show 1 < 3; omega)
    have g2 := kr_frozen K1 0 rfl 2 (by show 2 < 3; omega)
    have b0 := kr_cell K1 1 rfl 0 _ rfl
    have b1 := kr_cell K1 1 rfl 1 _ rfl
    have b2 := kr_cell K1 1 rfl 2 _ rfl
    have b3 := kr_cell K1 1 rfl 3 _ rfl
    have b4 := kr_cell K1 1 rfl 4 _ rfl
    have n1 := kr_cell K1 2 rfl 1 _ rfl
    have n2 := kr_cell K1 2 rfl 2 _ rfl
    have n3 := kr_cell K1 2 rfl 3 _ rfl
    have n4 := kr_cell K1 2 rfl 4 _ rfl
    have f1 := kr_frozen K1 2 rfl 1 (by show 1 < 6; omega)
    have f2 := kr_frozen K1 2 rfl 2 (by show 2 < 6; omega)
    have zBT : ¬ (W.heap.size = W.heap.size + 1) := by omega
    have zTB : ¬ (W.heap.size + 1 = W.heap.size) := by omega
    have zDT : ¬ (D = W.heap.size + 1) := by have := hzD; omega
    have zTD : ¬ (W.heap.size + 1 = D) := by have := hzD; omega
    have zDB : ¬ (D = W.heap.size) := by have := hzD; omega
    have zBD : ¬ (W.heap.size = D) := by have := hzD; omega
    have KF : KR w ((W.heap.size + 1, [.int .i64 0, .bool false, .int .i64 0]) :: (W.heap.size, [.int .i64 pe, .int .i64 pa, .int .i64 pb, .slice sp m c, .int .i64 ps]) :: (D, ncl n (.slice sl L cl)) :: rs) (((w1.setCell ⟨W.heap.size + 1, 0, none⟩ (.int .i64 0)).setCell ⟨W.heap.size + 1, 1, none⟩ (.bool false)).setCell ⟨W.heap.size + 1, 2, none⟩ (.int .i64 0)) := kr_fset (kr_fset (kr_fset K1 0 rfl 0 (by show 0 < 3; omega) (.int .i64 0) _ rfl) 0 rfl 1 (by show 1 < 3; omega) (.bool false) _ rfl) 0 rfl 2 (by show 2 < 3; omega) (.int .i64 0) _ rfl
    have HKF : Hid (KR w _ _) := KF
    clear K1 KF
    go_wp2_with fail
    have KF := HKF.out
    clear HKF t0 t1 t2 g0 g1 g2 b0 b1 b2 b3 b4 n1 n2 n3 n4 f1 f2
    generalize (((w1.setCell ⟨W.heap.size + 1, 0, none⟩ (.int .i64 0)).setCell ⟨W.heap.size + 1, 1, none⟩ (.bool false)).setCell ⟨W.heap.size + 1, 2, none⟩ (.int .i64 0)) = V9 at KF ⊢
    have r0 := kr_cell KF 0 rfl 0 _ rfl
    have r1 := kr_cell KF 0 rfl 1 _ rfl
    have r2 := kr_cell KF 0 rfl 2 _ rfl
    exact bodyPost_ret (v := .tuple #[.agg #[.int .i64 0, .bool false, .int .i64 0], .int .i64 1]) (by simp [results, Try.results49, go_sem, r0, r1, r2]) rfl ⟨[], _, rfl, kr_tail (kr_tail KF), HE0.out⟩
  | true =>
    rw [if_neg (by rw [hr]; simp)] at hR
    rw [hr] at hri
    have hpe : 0 ≤ pe ∧ pe ≤ 4611686018427387904 ∧ 0 ≤ pa ∧ pa ≤ 4096 ∧ 0 ≤ ps ∧ ps ≤ 4096 ∧ (m : Int) ≤ 4096 - pa := by
      have hr' := hr
      unfold sRight inE inN at hr'
      simp only [hm.out, Bool.and_eq_true, decide_eq_true_eq] at hr'
      omega
    obtain ⟨he0, he1, ha0, ha1, hs0, hs1, hml⟩ := hpe
    obtain ⟨pn, rfl⟩ : ∃ pn : Nat, pa = (pn : Int) := ⟨pa.toNat, by omega⟩
    rw [Int.toNat_natCast] at hR
    by_cases hst : pe < n.ep ∨ (pe = n.ep ∧ n.ld = true)
    · rw [if_pos hst] at hR
      subst hR
      have hst2 : pe < n.ep ∨ (¬ pe < n.ep ∧ pe = n.ep ∧ n.ld = true) := by
        by_cases h : pe < n.ep
        · exact .inl h
        · exact .inr ⟨h, hst.resolve_left h⟩
      clear hst hr hL hform
      rcases hst2 with h1 | ⟨h1, h2, h3⟩
      · have hd1 : decide (pe < n.ep) = true := by simp [h1]
        clear h1
        go_enter Try.func49, Try.ntmps49
        go_wp2_with fail
        refine hri.mono ?_
        rintro e w1 ⟨rfl, hb1⟩
        have K1 := kr_call HK1.out hb1
        clear hb1 hri HK1
        have t0 := kr_cell K1 0 rfl 0 _ rfl
        have t1 := kr_cell K1 0 rfl 1 _ rfl
        have t2 := kr_cell K1 0 rfl 2 _ rfl
        have g0 := kr_frozen K1 0 rfl 0 (by show 0 < 3; omega)
        have g1 := kr_frozen K1 0 rfl 1 (by show 1 < 3; omega)
        have g2 := kr_frozen K1 0 rfl 2 (by show 2 < 3; omega)
        have b0 := kr_cell K1 1 rfl 0 _ rfl
        have b1 := kr_cell K1 1 rfl 1 _ rfl
        have b2 := kr_cell K1 1 rfl 2 _ rfl
        have b3 := kr_cell K1 1 rfl 3 _ rfl
        have b4 := kr_cell K1 1 rfl 4 _ rfl
        have n1 := kr_cell K1 2 rfl 1 _ rfl
        have n2 := kr_cell K1 2 rfl 2 _ rfl
        have n3 := kr_cell K1 2 rfl 3 _ rfl
        have n4 := kr_cell K1 2 rfl 4 _ rfl
        have f1 := kr_frozen K1 2 rfl 1 (by show 1 < 6; omega)
        have f2 := kr_frozen K1 2 rfl 2 (by show 2 < 6; omega)
        have zBT : ¬ (W.heap.size = W.heap.size + 1) := by omega
        have zTB : ¬ (W.heap.size + 1 = W.heap.size) := by omega
        have zDT : ¬ (D = W.heap.size + 1) := by have := hzD; omega
        have zTD : ¬ (W.heap.size + 1 = D) := by have := hzD; omega
        have zDB : ¬ (D = W.heap.size) := by have := hzD; omega
        have zBD : ¬ (W.heap.size = D) := by have := hzD; omega
        go_upto_region 3 with fail
        go_quiet (fail)
        have K1 := kr_drewN K1 nq
        clear t0 t1 t2 g0 g1 g2 b0 b1 b2 b3 b4 n1 n2 n3 n4 f1 f2 zBT zTB zDT zTD zDB zBD
        generalize w1.drewN nq = X1 at *
        have t0 := kr_cell K1 0 rfl 0 _ rfl
        have t1 := kr_cell K1 0 rfl 1 _ rfl
        have t2 := kr_cell K1 0 rfl 2 _ rfl
        have g0 := kr_frozen K1 0 rfl 0 (by show 0 < 3; omega)
        have g1 := kr_frozen K1 0 rfl 1 (by show 1 < 3; omega)
        have g2 := kr_frozen K1 0 rfl 2 (by show 2 < 3; omega)
        have b0 := kr_cell K1 1 rfl 0 _ rfl
        have b1 := kr_cell K1 1 rfl 1 _ rfl
        have b2 := kr_cell K1 1 rfl 2 _ rfl
        have b3 := kr_cell K1 1 rfl 3 _ rfl
        have b4 := kr_cell K1 1 rfl 4 _ rfl
        have n1 := kr_cell K1 2 rfl 1 _ rfl
        have n2 := kr_cell K1 2 rfl 2 _ rfl
        have n3 := kr_cell K1 2 rfl 3 _ rfl
        have n4 := kr_cell K1 2 rfl 4 _ rfl
        have f1 := kr_frozen K1 2 rfl 1 (by show 1 < 6; omega)
        have f2 := kr_frozen K1 2 rfl 2 (by show 2 < 6; omega)
        have zBT : ¬ (W.heap.size = W.heap.size + 1) := by omega
        have zTB : ¬ (W.heap.size + 1 = W.heap.size) := by omega
        have zDT : ¬ (D = W.heap.size + 1) := by have := hzD; omega
        have zTD : ¬ (W.heap.size + 1 = D) := by have := hzD; omega
        have zDB : ¬ (D = W.heap.size) := by have := hzD; omega
        have zBD : ¬ (W.heap.size = D) := by have := hzD; omega
        have KF : KR w ((W.heap.size + 1, [.int .i64 n.ep, .bool false, .int .i64 0]) :: (W.heap.size, [.int .i64 pe, .int .i64 (pn : Int), .int .i64 pb, .slice sp m c, .int .i64 ps]) :: (D, ncl n (.slice sl L cl)) :: rs) (((X1.setCell ⟨W.heap.size + 1, 0, none⟩ (.int .i64 n.ep)).setCell ⟨W.heap.size + 1, 1, none⟩ (.bool false)).setCell ⟨W.heap.size + 1, 2, none⟩ (.int .i64 0)) := kr_fset (kr_fset (kr_fset K1 0 rfl 0 (by show 0 < 3; omega) (.int .i64 n.ep) _ rfl) 0 rfl 1 (by show 1 < 3; omega) (.bool false) _ rfl) 0 rfl 2 (by show 2 < 3; omega) (.int .i64 0) _ rfl
        have HKF : Hid (KR w _ _) := KF
        clear K1 KF
        go_wp2_with fail
        have KF := HKF.out
        clear HKF t0 t1 t2 g0 g1 g2 b0 b1 b2 b3 b4 n1 n2 n3 n4 f1 f2
        generalize (((X1.setCell ⟨W.heap.size + 1, 0, none⟩ (.int .i64 n.ep)).setCell ⟨W.heap.size + 1, 1, none⟩ (.bool false)).setCell ⟨W.heap.size + 1, 2, none⟩ (.int .i64 0)) = V9 at KF ⊢
        have r0 := kr_cell KF 0 rfl 0 _ rfl
        have r1 := kr_cell KF 0 rfl 1 _ rfl
        have r2 := kr_cell KF 0 rfl 2 _ rfl
        exact bodyPost_ret (v := .tuple #[.agg #[.int .i64 n.ep, .bool false, .int .i64 0], .int .i64 0]) (by simp [results, Try.results49, go_sem, r0, r1, r2]) rfl ⟨[], _, rfl, kr_tail (kr_tail KF), HE0.out⟩
      · have hd1 : decide (pe < n.ep) = false := by simp; omega
        have hd2 : (pe == n.ep) = true := by simp [h2]
        clear h1 h2
        go_enter Try.func49, Try.ntmps49
        go_wp2_with fail
        refine hri.mono ?_
        rintro e w1 ⟨rfl, hb1⟩
        have K1 := kr_call HK1.out hb1
        clear hb1 hri HK1
        have t0 := kr_cell K1 0 rfl 0 _ rfl
        have t1 := kr_cell K1 0 rfl 1 _ rfl
        have t2 := kr_cell K1 0 rfl 2 _ rfl
        have g0 := kr_frozen K1 0 rfl 0 (by show 0 < 3; omega)
        have g1 := kr_frozen K1 0 rfl 1 (by show 1 < 3; omega)
        have g2 := kr_frozen K1 0 rfl 2 (by show 2 < 3; omega)
        have b0 := kr_cell K1 1 rfl 0 _ rfl
        have b1 := kr_cell K1 1 rfl 1 _ rfl
        have b2 := kr_cell K1 1 rfl 2 _ rfl
        have b3 := kr_cell K1 1 rfl 3 _ rfl
        have b4 := kr_cell K1 1 rfl 4 _ rfl
        have n1 := kr_cell K1 2 rfl 1 _ rfl
        have n2 := kr_cell K1 2 rfl 2 _ rfl
        have n3 := kr_cell K1 2 rfl 3 _ rfl
        have n4 := kr_cell K1 2 rfl 4 _ rfl
        have f1 := kr_frozen K1 2 rfl 1 (by show 1 < 6; omega)
        have f2 := kr_frozen K1 2 rfl 2 (by show 2 < 6; omega)
        have zBT : ¬ (W.heap.size = W.heap.size + 1) := by omega
        have zTB : ¬ (W.heap.size + 1 = W.heap.size) := by omega
        have zDT : ¬ (D = W.heap.size + 1) := by have := hzD; omega
        have zTD : ¬ (W.heap.size + 1 = D) := by have := hzD; omega
        have zDB : ¬ (D = W.heap.size) := by have := hzD; omega
        have zBD : ¬ (W.heap.size = D) := by have := hzD; omega
        rw [h3] at n1
        go_upto_region 3 with fail
        go_quiet (fail)
        have K1 := kr_drewN K1 nq
        clear t0 t1 t2 g0 g1 g2 b0 b1 b2 b3 b4 n1 n2 n3 n4 f1 f2 zBT zTB zDT zTD zDB zBD
        generalize w1.drewN nq = X1 at *
        have t0 := kr_cell K1 0 rfl 0 _ rfl
        have t1 := kr_cell K1 0 rfl 1 _ rfl
        have t2 := kr_cell K1 0 rfl 2 _ rfl
        have g0 := kr_frozen K1 0 rfl 0 (by show 0 < 3; omega)
        have g1 := kr_frozen K1 0 rfl 1 (by show 1 < 3; omega)
        have g2 := kr_frozen K1 0 rfl 2 (by show 2 < 3; omega)
        have b0 := kr_cell K1 1 rfl 0 _ rfl
        have b1 := kr_cell K1 1 rfl 1 _ rfl
        have b2 := kr_cell K1 1 rfl 2 _ rfl
        have b3 := kr_cell K1 1 rfl 3 _ rfl
        have b4 := kr_cell K1 1 rfl 4 _ rfl
        have n1 := kr_cell K1 2 rfl 1 _ rfl
        have n2 := kr_cell K1 2 rfl 2 _ rfl
        have n3 := kr_cell K1 2 rfl 3 _ rfl
        have n4 := kr_cell K1 2 rfl 4 _ rfl
        have f1 := kr_frozen K1 2 rfl 1 (by show 1 < 6; omega)
        have f2 := kr_frozen K1 2 rfl 2 (by show 2 < 6; omega)
        have zBT : ¬ (W.heap.size = W.heap.size + 1) := by omega
        have zTB : ¬ (W.heap.size + 1 = W.heap.size) := by omega
        have zDT : ¬ (D = W.heap.size + 1) := by have := hzD; omega
        have zTD : ¬ (W.heap.size + 1 = D) := by have := hzD; omega
        have zDB : ¬ (D = W.heap.size) := by have := hzD; omega
        have zBD : ¬ (W.heap.size = D) := by have := hzD; omega
        clear h3
        have KF : KR w ((W.heap.size + 1, [.int .i64 n.ep, .bool false, .int .i64 0]) :: (W.heap.size, [.int .i64 pe, .int .i64 (pn : Int), .int .i64 pb, .slice sp m c, .int .i64 ps]) :: (D, ncl n (.slice sl L cl)) :: rs) (((X1.setCell ⟨W.heap.size + 1, 0, none⟩ (.int .i64 n.ep)).setCell ⟨W.heap.size + 1, 1, none⟩ (.bool false)).setCell ⟨W.heap.size + 1, 2, none⟩ (.int .i64 0)) := kr_fset (kr_fset (kr_fset K1 0 rfl 0 (by show 0 < 3; omega) (.int .i64 n.ep) _ rfl) 0 rfl 1 (by show 1 < 3; omega) (.bool false) _ rfl) 0 rfl 2 (by show 2 < 3; omega) (.int .i64 0) _ rfl
        have HKF : Hid (KR w _ _) := KF
        clear K1 KF
        go_wp2_with fail
        have KF := HKF.out
        clear HKF t0 t1 t2 g0 g1 g2 b0 b1 b2 b3 b4 n1 n2 n3 n4 f1 f2
        generalize (((X1.setCell ⟨W.heap.size + 1, 0, none⟩ (.int .i64 n.ep)).setCell ⟨W.heap.size + 1, 1, none⟩ (.bool false)).setCell ⟨W.heap.size + 1, 2, none⟩ (.int .i64 0)) = V9 at KF ⊢
        have r0 := kr_cell KF 0 rfl 0 _ rfl
        have r1 := kr_cell KF 0 rfl 1 _ rfl
        have r2 := kr_cell KF 0 rfl 2 _ rfl
        exact bodyPost_ret (v := .tuple #[.agg #[.int .i64 n.ep, .bool false, .int .i64 0], .int .i64 0]) (by simp [results, Try.results49, go_sem, r0, r1, r2]) rfl ⟨[], _, rfl, kr_tail (kr_tail KF), HE0.out⟩
    · rw [if_neg hst] at hR
      have HR : Hid (R = _) := hR
      clear hR
      have hd1 : decide (pe < n.ep) = false := by simp; omega
      have hd2 : (pe == n.ep) = false ∨ ((pe == n.ep) = true ∧ n.ld = false) := by
        by_cases h : pe = n.ep
        · exact .inr ⟨by simp [h], by cases hl : n.ld; rfl; exact absurd (.inr ⟨h, hl⟩) hst⟩
        · exact .inl (by simp [h])
      have HD2 : Hid ((pe == n.ep) = false ∨ ((pe == n.ep) = true ∧ n.ld = false)) := hd2
      clear hst hr hd2 hL hform
      go_enter Try.func49, Try.ntmps49
      go_wp2_with fail
      refine hri.mono ?_
      rintro e w1 ⟨rfl, hb1⟩
      have K1 := kr_call HK1.out hb1
      clear hb1 hri HK1
      go_upto_region 3 with fail
      go_cut [36] (fun v36 wx => v36 = .bool false ∧ KR w ((W.heap.size + 1, [.int .i64 0, .bool false, .int .i64 0]) :: (W.heap.size, [.int .i64 pe, .int .i64 (pn : Int), .int .i64 pb, .slice sp m c, .int .i64 ps]) :: (D, ncl n (.slice sl L cl)) :: rs) wx)
      case first =>
        have t0 := kr_cell K1 0 rfl 0 _ rfl
        have t1 := kr_cell K1 0 rfl 1 _ rfl
        have t2 := kr_cell K1 0 rfl 2 _ rfl
        have g0 := kr_frozen K1 0 rfl 0 (by show 0 < 3; omega)
        have g1 := kr_frozen K1 0 rfl 1 (by show 1 < 3; omega)
        have g2 := kr_frozen K1 0 rfl 2 (by show 2 < 3; omega)
        have b0 := kr_cell K1 1 rfl 0 _ rfl
        have b1 := kr_cell K1 1 rfl 1 _ rfl
        have b2 := kr_cell K1 1 rfl 2 _ rfl
        have b3 := kr_cell K1 1 rfl 3 _ rfl
        have b4 := kr_cell K1 1 rfl 4 _ rfl
        have n1 := kr_cell K1 2 rfl 1 _ rfl
        have n2 := kr_cell K1 2 rfl 2 _ rfl
        have n3 := kr_cell K1 2 rfl 3 _ rfl
        have n4 := kr_cell K1 2 rfl 4 _ rfl
        have f1 := kr_frozen K1 2 rfl 1 (by show 1 < 6; omega)
        have f2 := kr_frozen K1 2 rfl 2 (by show 2 < 6; omega)
        have zBT : ¬ (W.heap.size = W.heap.size + 1) := by omega
        have zTB : ¬ (W.heap.size + 1 = W.heap.size) := by omega
        have zDT : ¬ (D = W.heap.size + 1) := by have := hzD; omega
        have zTD : ¬ (W.heap.size + 1 = D) := by have := hzD; omega
        have zDB : ¬ (D = W.heap.size) := by have := hzD; omega
        have zBD : ¬ (W.heap.size = D) := by have := hzD; omega
        rcases HD2.out with hd2 | ⟨hd2, hd3⟩
        · have HK1 : Hid (KR w _ w1) := K1
          clear K1
          go_quiet (fail)
          go_wp2_with fail
          go_meet
          case rel => exact ⟨rfl, kr_drewN HK1.out _⟩
        · rw [hd3] at n1
          have HK1 : Hid (KR w _ w1) := K1
          clear K1 hd3
          go_quiet (fail)
          go_wp2_with fail
          go_meet
          case rel => exact ⟨rfl, kr_drewN HK1.out _⟩
      case rest =>
        clear K1
        obtain ⟨rfl, K1⟩ := hcut
        have t0 := kr_cell K1 0 rfl 0 _ rfl
        have t1 := kr_cell K1 0 rfl 1 _ rfl
        have t2 := kr_cell K1 0 rfl 2 _ rfl
        have g0 := kr_frozen K1 0 rfl 0 (by show 0 < 3; omega)
        have g1 := kr_frozen K1 0 rfl 1 (by show 1 < 3; omega)
        have g2 := kr_frozen K1 0 rfl 2 (by show 2 < 3; omega)
        have b0 := kr_cell K1 1 rfl 0 _ rfl
        have b1 := kr_cell K1 1 rfl 1 _ rfl
        have b2 := kr_cell K1 1 rfl 2 _ rfl
        have b3 := kr_cell K1 1 rfl 3 _ rfl
        have b4 := kr_cell K1 1 rfl 4 _ rfl
        have n1 := kr_cell K1 2 rfl 1 _ rfl
        have n2 := kr_cell K1 2 rfl 2 _ rfl
        have n3 := kr_cell K1 2 rfl 3 _ rfl
        have n4 := kr_cell K1 2 rfl 4 _ rfl
        have f1 := kr_frozen K1 2 rfl 1 (by show 1 < 6; omega)
        have f2 := kr_frozen K1 2 rfl 2 (by show 2 < 6; omega)
        have zBT : ¬ (W.heap.size = W.heap.size + 1) := by omega
        have zTB : ¬ (W.heap.size + 1 = W.heap.size) := by omega
        have zDT : ¬ (D = W.heap.size + 1) := by have := hzD; omega
        have zTD : ¬ (W.heap.size + 1 = D) := by have := hzD; omega
        have zDB : ¬ (D = W.heap.size) := by have := hzD; omega
        have zBD : ¬ (W.heap.size = D) := by have := hzD; omega
        have KN : KR w ((W.heap.size + 1, [.int .i64 0, .bool false, .int .i64 0]) :: (W.heap.size, [.int .i64 pe, .int .i64 (pn : Int), .int .i64 pb, .slice sp m c, .int .i64 ps]) :: (D, ncl { n with ep := pe, ld := false } (.slice sl L cl)) :: rs) ((wc.setCell ⟨D, 2, none⟩ (.int .i64 pe)).setCell ⟨D, 1, none⟩ (.bool false)) := kr_fset (kr_fset K1 2 rfl 2 (by show 2 < 6; omega) (.int .i64 pe) _ rfl) 2 rfl 1 (by show 1 < 6; omega) (.bool false) _ rfl
        have HKN : Hid (KR w _ _) := KN
        clear K1 KN HD2
        go_upto_region 7 with fail
        clear t0 t1 t2 g0 g1 g2 b0 b1 b2 b3 b4 n1 n2 n3 n4 f1 f2 zBT zTB zDT zTD zDB zBD
        have K1 := HKN.out
        clear HKN
        generalize ((wc.setCell ⟨D, 2, none⟩ (.int .i64 pe)).setCell ⟨D, 1, none⟩ (.bool false)) = X2 at *
        have t0 := kr_cell K1 0 rfl 0 _ rfl
        have t1 := kr_cell K1 0 rfl 1 _ rfl
        have t2 := kr_cell K1 0 rfl 2 _ rfl
        have g0 := kr_frozen K1 0 rfl 0 (by show 0 < 3; omega)
        have g1 := kr_frozen K1 0 rfl 1 (by show 1 < 3; omega)
        have g2 := kr_frozen K1 0 rfl 2 (by show 2 < 3; omega)
        have b0 := kr_cell K1 1 rfl 0 _ rfl
        have b1 := kr_cell K1 1 rfl 1 _ rfl
        have b2 := kr_cell K1 1 rfl 2 _ rfl
        have b3 := kr_cell K1 1 rfl 3 _ rfl
        have b4 := kr_cell K1 1 rfl 4 _ rfl
        have n1 := kr_cell K1 2 rfl 1 _ rfl
        have n2 := kr_cell K1 2 rfl 2 _ rfl
        have n3 := kr_cell K1 2 rfl 3 _ rfl
        have n4 := kr_cell K1 2 rfl 4 _ rfl
        have f1 := kr_frozen K1 2 rfl 1 (by show 1 < 6; omega)
        have f2 := kr_frozen K1 2 rfl 2 (by show 2 < 6; omega)
        have zBT : ¬ (W.heap.size = W.heap.size + 1) := by omega
        have zTB : ¬ (W.heap.size + 1 = W.heap.size) := by omega
        have zDT : ¬ (D = W.heap.size + 1) := by have := hzD; omega
        have zTD : ¬ (W.heap.size + 1 = D) := by have := hzD; omega
        have zDB : ¬ (D = W.heap.size) := by have := hzD; omega
        have zBD : ¬ (W.heap.size = D) := by have := hzD; omega
        by_cases hc1 : (L : Int) < (pn : Int)
        · have hR := HR.out
          rw [if_pos hc1] at hR
          subst hR
          clear HR
          have hc2 : decide (L < pn) = true := by simp; omega
          go_quiet (fail)
          have K1 := kr_drewN K1 nq
          clear t0 t1 t2 g0 g1 g2 b0 b1 b2 b3 b4 n1 n2 n3 n4 f1 f2 zBT zTB zDT zTD zDB zBD
          generalize X2.drewN nq = X1 at *
          have t0 := kr_cell K1 0 rfl 0 _ rfl
          have t1 := kr_cell K1 0 rfl 1 _ rfl
          have t2 := kr_cell K1 0 rfl 2 _ rfl
          have g0 := kr_frozen K1 0 rfl 0 (by show 0 < 3; omega)
          have g1 := kr_frozen K1 0 rfl 1 (by show 1 < 3; omega)
          have g2 := kr_frozen K1 0 rfl 2 (by show 2 < 3; omega)
          have b0 := kr_cell K1 1 rfl 0 _ rfl
          have b1 := kr_cell K1 1 rfl 1 _ rfl
          have b2 := kr_cell K1 1 rfl 2 _ rfl
          have b3 := kr_cell K1 1 rfl 3 _ rfl
          have b4 := kr_cell K1 1 rfl 4 _ rfl
          have n1 := kr_cell K1 2 rfl 1 _ rfl
          have n2 := kr_cell K1 2 rfl 2 _ rfl
          have n3 := kr_cell K1 2 rfl 3 _ rfl
          have n4 := kr_cell K1 2 rfl 4 _ rfl
          have f1 := kr_frozen K1 2 rfl 1 (by show 1 < 6; omega)
          have f2 := kr_frozen K1 2 rfl 2 (by show 2 < 6; omega)
          have zBT : ¬ (W.heap.size = W.heap.size + 1) := by omega
          have zTB : ¬ (W.heap.size + 1 = W.heap.size) := by omega
          have zDT : ¬ (D = W.heap.size + 1) := by have := hzD; omega
          have zTD : ¬ (W.heap.size + 1 = D) := by have := hzD; omega
          have zDB : ¬ (D = W.heap.size) := by have := hzD; omega
          have zBD : ¬ (W.heap.size = D) := by have := hzD; omega
          go_upto_region 8 with fail
          go_still_tail 10, (by kernel_rfl)
          change wpList _ _ _ _ _ X1.drew
          have K1 := kr_drew K1
          clear t0 t1 t2 g0 g1 g2 b0 b1 b2 b3 b4 n1 n2 n3 n4 f1 f2 zBT zTB zDT zTD zDB zBD
          generalize X1.drew = X3 at *
          have t0 := kr_cell K1 0 rfl 0 _ rfl
          have t1 := kr_cell K1 0 rfl 1 _ rfl
          have t2 := kr_cell K1 0 rfl 2 _ rfl
          have g0 := kr_frozen K1 0 rfl 0 (by show 0 < 3; omega)
          have g1 := kr_frozen K1 0 rfl 1 (by show 1 < 3; omega)
          have g2 := kr_frozen K1 0 rfl 2 (by show 2 < 3; omega)
          have b0 := kr_cell K1 1 rfl 0 _ rfl
          have b1 := kr_cell K1 1 rfl 1 _ rfl
          have b2 := kr_cell K1 1 rfl 2 _ rfl
          have b3 := kr_cell K1 1 rfl 3 _ rfl
          have b4 := kr_cell K1 1 rfl 4 _ rfl
          have n1 := kr_cell K1 2 rfl 1 _ rfl
          have n2 := kr_cell K1 2 rfl 2 _ rfl
          have n3 := kr_cell K1 2 rfl 3 _ rfl
          have n4 := kr_cell K1 2 rfl 4 _ rfl
          have f1 := kr_frozen K1 2 rfl 1 (by show 1 < 6; omega)
          have f2 := kr_frozen K1 2 rfl 2 (by show 2 < 6; omega)
          have zBT : ¬ (W.heap.size = W.heap.size + 1) := by omega
          have zTB : ¬ (W.heap.size + 1 = W.heap.size) := by omega
          have zDT : ¬ (D = W.heap.size + 1) := by have := hzD; omega
          have zTD : ¬ (W.heap.size + 1 = D) := by have := hzD; omega
          have zDB : ¬ (D = W.heap.size) := by have := hzD; omega
          have zBD : ¬ (W.heap.size = D) := by have := hzD; omega
          have KF : KR w ((W.heap.size + 1, [.int .i64 pe, .bool false, .int .i64 (L : Int)]) :: (W.heap.size, [.int .i64 pe, .int .i64 (pn : Int), .int .i64 pb, .slice sp m c, .int .i64 ps]) :: (D, ncl { n with ep := pe, ld := false } (.slice sl L cl)) :: rs) (((X3.setCell ⟨W.heap.size + 1, 0, none⟩ (.int .i64 pe)).setCell ⟨W.heap.size + 1, 1, none⟩ (.bool false)).setCell ⟨W.heap.size + 1, 2, none⟩ (.int .i64 (L : Int))) := kr_fset (kr_fset (kr_fset K1 0 rfl 0 (by show 0 < 3; omega) (.int .i64 pe) _ rfl) 0 rfl 1 (by show 1 < 3; omega) (.bool false) _ rfl) 0 rfl 2 (by show 2 < 3; omega) (.int .i64 (L : Int)) _ rfl
          have HKF : Hid (KR w _ _) := KF
          clear K1 KF
          go_wp2_with fail
          have KF := HKF.out
          clear HKF t0 t1 t2 g0 g1 g2 b0 b1 b2 b3 b4 n1 n2 n3 n4 f1 f2
          generalize (((X3.setCell ⟨W.heap.size + 1, 0, none⟩ (.int .i64 pe)).setCell ⟨W.heap.size + 1, 1, none⟩ (.bool false)).setCell ⟨W.heap.size + 1, 2, none⟩ (.int .i64 (L : Int))) = V9 at KF ⊢
          have r0 := kr_cell KF 0 rfl 0 _ rfl
          have r1 := kr_cell KF 0 rfl 1 _ rfl
          have r2 := kr_cell KF 0 rfl 2 _ rfl
          exact bodyPost_ret (v := .tuple #[.agg #[.int .i64 pe, .bool false, .int .i64 (L : Int)], .int .i64 0]) (by simp [results, Try.results49, go_sem, r0, r1, r2]) rfl ⟨[], _, rfl, kr_tail (kr_tail KF), HE0.out⟩
        · have hR := HR.out
          rw [if_neg hc1] at hR
          have HR : Hid (R = _) := hR
          clear hR
          have hc2 : decide (L < pn) = false := by simp; omega
          go_quiet (fail)
          have K1 := kr_drewN K1 nq
          clear t0 t1 t2 g0 g1 g2 b0 b1 b2 b3 b4 n1 n2 n3 n4 f1 f2 zBT zTB zDT zTD zDB zBD
          generalize X2.drewN nq = X1 at *
          have hnb : NB { n with ep := pe, ld := false } := ⟨HNB.out.me, ⟨he0, he1⟩, HNB.out.len, HNB.out.data, HNB.out.safe, HNB.out.mark, fun h => by cases h⟩
          have E9 : ∀ nq, Calls Try.prog 56 #[.pointer (some ⟨D, 0, none⟩), .int .i64 (pn : Int)] (X1.drewN nq) fun e W' => e = .returned (.int .i64 (epAt n.l pn)) ∧ X1.drewN nq = W' := fun nq => repoch_k (n := { n with ep := pe, ld := false }) (kr_drewN (kr_tail (kr_tail K1)) nq) (el_mono HE0.out hs) hnb pn (by have := HL.out; show pn ≤ n.l.length; omega)
          have HE9 : Hid (∀ nq, Calls Try.prog 56 #[.pointer (some ⟨D, 0, none⟩), .int .i64 (pn : Int)] (X1.drewN nq) fun e W' => e = .returned (.int .i64 (epAt n.l pn)) ∧ X1.drewN nq = W') := E9
          have HN2 : Hid (NB { n with ep := pe, ld := false }) := hnb
          clear E9 hnb
          have t0 := kr_cell K1 0 rfl 0 _ rfl
          have t1 := kr_cell K1 0 rfl 1 _ rfl
          have t2 := kr_cell K1 0 rfl 2 _ rfl
          have g0 := kr_frozen K1 0 rfl 0 (by show 0 < 3; omega)
          have g1 := kr_frozen K1 0 rfl 1 (by show 1 < 3; omega)
          have g2 := kr_frozen K1 0 rfl 2 (by show 2 < 3; omega)
          have b0 := kr_cell K1 1 rfl 0 _ rfl
          have b1 := kr_cell K1 1 rfl 1 _ rfl
          have b2 := kr_cell K1 1 rfl 2 _ rfl
          have b3 := kr_cell K1 1 rfl 3 _ rfl
          have b4 := kr_cell K1 1 rfl 4 _ rfl
          have n1 := kr_cell K1 2 rfl 1 _ rfl
          have n2 := kr_cell K1 2 rfl 2 _ rfl
          have n3 := kr_cell K1 2 rfl 3 _ rfl
          have n4 := kr_cell K1 2 rfl 4 _ rfl
          have f1 := kr_frozen K1 2 rfl 1 (by show 1 < 6; omega)
          have f2 := kr_frozen K1 2 rfl 2 (by show 2 < 6; omega)
          have zBT : ¬ (W.heap.size = W.heap.size + 1) := by omega
          have zTB : ¬ (W.heap.size + 1 = W.heap.size) := by omega
          have zDT : ¬ (D = W.heap.size + 1) := by have := hzD; omega
          have zTD : ¬ (W.heap.size + 1 = D) := by have := hzD; omega
          have zDB : ¬ (D = W.heap.size) := by have := hzD; omega
          have zBD : ¬ (W.heap.size = D) := by have := hzD; omega
          go_upto_region 9 with fail
          by_cases hne : epAt n.l pn ≠ pb
          · have hR := HR.out
            rw [if_pos hne] at hR
            subst hR
            clear HR
            have hne2 : (epAt n.l pn != pb) = true := by simp; exact hne
            clear hne
            generalize epAt n.l pn = ea at *
            go_quiet ((go_at_call 56; with_reducible exact quiet_flipR (HE9.out _)))
            have K1 := kr_drewN K1 nq
            clear HE9
            clear t0 t1 t2 g0 g1 g2 b0 b1 b2 b3 b4 n1 n2 n3 n4 f1 f2 zBT zTB zDT zTD zDB zBD
            generalize X1.drewN nq = X4 at *
            have t0 := kr_cell K1 0 rfl 0 _ rfl
            have t1 := kr_cell K1 0 rfl 1 _ rfl
            have t2 := kr_cell K1 0 rfl 2 _ rfl
            have g0 := kr_frozen K1 0 rfl 0 (by show 0 < 3; omega)
            have g1 := kr_frozen K1 0 rfl 1 (by show 1 < 3; omega)
            have g2 := kr_frozen K1 0 rfl 2 (by show 2 < 3; omega)
            have b0 := kr_cell K1 1 rfl 0 _ rfl
            have b1 := kr_cell K1 1 rfl 1 _ rfl
            have b2 := kr_cell K1 1 rfl 2 _ rfl
            have b3 := kr_cell K1 1 rfl 3 _ rfl
            have b4 := kr_cell K1 1 rfl 4 _ rfl
            have n1 := kr_cell K1 2 rfl 1 _ rfl
            have n2 := kr_cell K1 2 rfl 2 _ rfl
            have n3 := kr_cell K1 2 rfl 3 _ rfl
            have n4 := kr_cell K1 2 rfl 4 _ rfl
            have f1 := kr_frozen K1 2 rfl 1 (by show 1 < 6; omega)
            have f2 := kr_frozen K1 2 rfl 2 (by show 2 < 6; omega)
            have zBT : ¬ (W.heap.size = W.heap.size + 1) := by omega
            have zTB : ¬ (W.heap.size + 1 = W.heap.size) := by omega
            have zDT : ¬ (D = W.heap.size + 1) := by have := hzD; omega
            have zTD : ¬ (W.heap.size + 1 = D) := by have := hzD; omega
            have zDB : ¬ (D = W.heap.size) := by have := hzD; omega
            have zBD : ¬ (W.heap.size = D) := by have := hzD; omega
            have hw9 : IntKind.i64.wrap ((pn : Int) - 1) = (pn : Int) - 1 := by rw [Go.IntWalk.i64_in _ (by omega)]
            go_upto_region 10 with fail
            go_still_tail 8, (by kernel_rfl)
            change wpList _ _ _ _ _ X4.drew
            have K1 := kr_drew K1
            clear t0 t1 t2 g0 g1 g2 b0 b1 b2 b3 b4 n1 n2 n3 n4 f1 f2 zBT zTB zDT zTD zDB zBD
            generalize X4.drew = X3 at *
            have t0 := kr_cell K1 0 rfl 0 _ rfl
            have t1 := kr_cell K1 0 rfl 1 _ rfl
            have t2 := kr_cell K1 0 rfl 2 _ rfl
            have g0 := kr_frozen K1 0 rfl 0 (by show 0 < 3; omega)
            have g1 := kr_frozen K1 0 rfl 1 (by show 1 < 3; omega)
            have g2 := kr_frozen K1 0 rfl 2 (by show 2 < 3; omega)
            have b0 := kr_cell K1 1 rfl 0 _ rfl
            have b1 := kr_cell K1 1 rfl 1 _ rfl
            have b2 := kr_cell K1 1 rfl 2 _ rfl
            have b3 := kr_cell K1 1 rfl 3 _ rfl
            have b4 := kr_cell K1 1 rfl 4 _ rfl
            have n1 := kr_cell K1 2 rfl 1 _ rfl
            have n2 := kr_cell K1 2 rfl 2 _ rfl
            have n3 := kr_cell K1 2 rfl 3 _ rfl
            have n4 := kr_cell K1 2 rfl 4 _ rfl
            have f1 := kr_frozen K1 2 rfl 1 (by show 1 < 6; omega)
            have f2 := kr_frozen K1 2 rfl 2 (by show 2 < 6; omega)
            have zBT : ¬ (W.heap.size = W.heap.size + 1) := by omega
            have zTB : ¬ (W.heap.size + 1 = W.heap.size) := by omega
            have zDT : ¬ (D = W.heap.size + 1) := by have := hzD; omega
            have zTD : ¬ (W.heap.size + 1 = D) := by have := hzD; omega
            have zDB : ¬ (D = W.heap.size) := by have := hzD; omega
            have zBD : ¬ (W.heap.size = D) := by have := hzD; omega
            clear hw9
            have KF : KR w ((W.heap.size + 1, [.int .i64 pe, .bool false, .int .i64 ((pn : Int) - 1)]) :: (W.heap.size, [.int .i64 pe, .int .i64 (pn : Int), .int .i64 pb, .slice sp m c, .int .i64 ps]) :: (D, ncl { n with ep := pe, ld := false } (.slice sl L cl)) :: rs) (((X3.setCell ⟨W.heap.size + 1, 0, none⟩ (.int .i64 pe)).setCell ⟨W.heap.size + 1, 1, none⟩ (.bool false)).setCell ⟨W.heap.size + 1, 2, none⟩ (.int .i64 ((pn : Int) - 1))) := kr_fset (kr_fset (kr_fset K1 0 rfl 0 (by show 0 < 3; omega) (.int .i64 pe) _ rfl) 0 rfl 1 (by show 1 < 3; omega) (.bool false) _ rfl) 0 rfl 2 (by show 2 < 3; omega) (.int .i64 ((pn : Int) - 1)) _ rfl
            have HKF : Hid (KR w _ _) := KF
            clear K1 KF
            go_wp2_with fail
            have KF := HKF.out
            clear HKF t0 t1 t2 g0 g1 g2 b0 b1 b2 b3 b4 n1 n2 n3 n4 f1 f2
            generalize (((X3.setCell ⟨W.heap.size + 1, 0, none⟩ (.int .i64 pe)).setCell ⟨W.heap.size + 1, 1, none⟩ (.bool false)).setCell ⟨W.heap.size + 1, 2, none⟩ (.int .i64 ((pn : Int) - 1))) = V9 at KF ⊢
            have r0 := kr_cell KF 0 rfl 0 _ rfl
            have r1 := kr_cell KF 0 rfl 1 _ rfl
            have r2 := kr_cell KF 0 rfl 2 _ rfl
            exact bodyPost_ret (v := .tuple #[.agg #[.int .i64 pe, .bool false, .int .i64 ((pn : Int) - 1)], .int .i64 0]) (by simp [results, Try.results49, go_sem, r0, r1, r2]) rfl ⟨[], _, rfl, kr_tail (kr_tail KF), HE0.out⟩
          · have hR := HR.out
            rw [if_neg hne] at hR
            have HRZ : Hid (R = _) := hR
            clear hR
            have hne2 : (epAt n.l pn != pb) = false := by simp at hne ⊢; exact hne
            clear hne
            generalize epAt n.l pn = ea at *
            go_quiet ((go_at_call 56; with_reducible exact quiet_flipR (HE9.out _)))
            have K1 := kr_drewN K1 nq
            clear HE9
            clear t0 t1 t2 g0 g1 g2 b0 b1 b2 b3 b4 n1 n2 n3 n4 f1 f2 zBT zTB zDT zTD zDB zBD
            generalize X1.drewN nq = X4 at *
            have t0 := kr_cell K1 0 rfl 0 _ rfl
            have t1 := kr_cell K1 0 rfl 1 _ rfl
            have t2 := kr_cell K1 0 rfl 2 _ rfl
            have g0 := kr_frozen K1 0 rfl 0 (by show 0 < 3; omega)
            have g1 := kr_frozen K1 0 rfl 1 (by show 1 < 3; omega)
            have g2 := kr_frozen K1 0 rfl 2 (by show 2 < 3; omega)
            have b0 := kr_cell K1 1 rfl 0 _ rfl
            have b1 := kr_cell K1 1 rfl 1 _ rfl
            have b2 := kr_cell K1 1 rfl 2 _ rfl
            have b3 := kr_cell K1 1 rfl 3 _ rfl
            have b4 := kr_cell K1 1 rfl 4 _ rfl
            have n1 := kr_cell K1 2 rfl 1 _ rfl
            have n2 := kr_cell K1 2 rfl 2 _ rfl
            have n3 := kr_cell K1 2 rfl 3 _ rfl
            have n4 := kr_cell K1 2 rfl 4 _ rfl
            have f1 := kr_frozen K1 2 rfl 1 (by show 1 < 6; omega)
            have f2 := kr_frozen K1 2 rfl 2 (by show 2 < 6; omega)
            have zBT : ¬ (W.heap.size = W.heap.size + 1) := by omega
            have zTB : ¬ (W.heap.size + 1 = W.heap.size) := by omega
            have zDT : ¬ (D = W.heap.size + 1) := by have := hzD; omega
            have zTD : ¬ (W.heap.size + 1 = D) := by have := hzD; omega
            have zDB : ¬ (D = W.heap.size) := by have := hzD; omega
            have zBD : ¬ (W.heap.size = D) := by have := hzD; omega
            have hwe : wrap64 ((pn : Int) + (m : Int)) = (pn : Int) + (m : Int) := w64b _ (by omega)
            have HLP : Hid (pn ≤ L ∧ L ≤ 4096 ∧ L ≤ cl ∧ n.l.length = L) := ⟨by omega, hlen, hlc, HL.out⟩
            obtain ⟨M, hM⟩ : ∃ M, M = sMerge n.l pn pl := ⟨_, rfl⟩
            have HM : Hid (M = sMerge n.l pn pl) := hM
            clear hM
            go_upto_block 0 with fail
            clear hwe
            have HK4 : Hid (KR w ((W.heap.size + 1, [.int .i64 0, .bool false, .int .i64 0]) :: (W.heap.size, [.int .i64 pe, .int .i64 (pn : Int), .int .i64 pb, .slice sp m c, .int .i64 ps]) :: (D, ncl { n with ep := pe, ld := false } (.slice sl L cl)) :: rs) X4) := K1
            clear K1
            clear t0 t1 t2 g0 g1 g2 b0 b1 b2 b3 b4 n1 n2 n3 n4 f1 f2 zBT zTB zDT zTD zDB zBD
            go_cut [] (fun wx => ∃ l lv', KR w ((W.heap.size + 1, [.int .i64 0, .bool false, .int .i64 0]) :: (W.heap.size, [.int .i64 pe, .int .i64 (pn : Int), .int .i64 pb, .slice sp m c, .int .i64 ps]) :: (D, ncl { n with ep := pe, ld := false, l := M } lv') :: (l ++ rs)) wx ∧ EL (l ++ im) lv' M)
            case first =>
              go_wp2
              go_loopw [7] (fun v7 W' => ∃ k : Nat, v7 = .int .i64 (k : Int) ∧ k ≤ m ∧ k ≤ fresh (n.l.drop pn) pl ∧ KR w ((W.heap.size + 1, [.int .i64 0, .bool false, .int .i64 0]) :: (W.heap.size, [.int .i64 pe, .int .i64 (pn : Int), .int .i64 pb, .slice sp m c, .int .i64 ps]) :: (D, ncl { n with ep := pe, ld := false } (.slice sl L cl)) :: rs) W') (fun v7 _ => m - (intOf v7).toNat)
              case atStart => exact ⟨0, rfl, Nat.zero_le _, Nat.zero_le _, HK4.out⟩
              case round =>
                clear HK4
                obtain ⟨k, rfl, hk, hkf, K1⟩ := hrel
                have t0 := kr_cell K1 0 rfl 0 _ rfl
                have t1 := kr_cell K1 0 rfl 1 _ rfl
                have t2 := kr_cell K1 0 rfl 2 _ rfl
                have g0 := kr_frozen K1 0 rfl 0 (by show 0 < 3; omega)
                have g1 := kr_frozen K1 0 rfl 1 (by show 1 < 3; omega)
                have g2 := kr_frozen K1 0 rfl 2 (by show 2 < 3; omega)
                have b0 := kr_cell K1 1 rfl 0 _ rfl
                have b1 := kr_cell K1 1 rfl 1 _ rfl
                have b2 := kr_cell K1 1 rfl 2 _ rfl
                have b3 := kr_cell K1 1 rfl 3 _ rfl
                have b4 := kr_cell K1 1 rfl 4 _ rfl
                have n1 := kr_cell K1 2 rfl 1 _ rfl
                have n2 := kr_cell K1 2 rfl 2 _ rfl
                have n3 := kr_cell K1 2 rfl 3 _ rfl
                have n4 := kr_cell K1 2 rfl 4 _ rfl
                have f1 := kr_frozen K1 2 rfl 1 (by show 1 < 6; omega)
                have f2 := kr_frozen K1 2 rfl 2 (by show 2 < 6; omega)
                have zBT : ¬ (W.heap.size = W.heap.size + 1) := by omega
                have zTB : ¬ (W.heap.size + 1 = W.heap.size) := by omega
                have zDT : ¬ (D = W.heap.size + 1) := by have := hzD; omega
                have zTD : ¬ (W.heap.size + 1 = D) := by have := hzD; omega
                have zDB : ¬ (D = W.heap.size) := by have := hzD; omega
                have zBD : ¬ (W.heap.size = D) := by have := hzD; omega
                have HKF : Hid (k ≤ fresh (n.l.drop pn) pl) := hkf
                clear hkf
                by_cases hlt : k < m
                · have hki : (k : Int) < (m : Int) := by omega
                  have hgx : pl[k]? = some (pl[k]'(by rw [hm.out]; exact hlt)) := List.getElem?_eq_getElem (by rw [hm.out]; exact hlt)
                  obtain ⟨A, rfl, hc⟩ := elv_keep hP.out K1.below (by rw [hm.out]; omega)
                  obtain ⟨_, _, a0, -⟩ := hc k _ hgx
                  have HGX : Hid (pl[k]? = some (pl[k]'(by rw [hm.out]; exact hlt))) := hgx
                  generalize pl[k]'(by rw [hm.out]; exact hlt) = x at a0 HGX
                  obtain ⟨G, hG⟩ : ∃ G, G = pn + k := ⟨_, rfl⟩
                  have HE8 : Hid ((pn : Int) + (k : Int) = (G : Int)) := by show _ = _; rw [hG]; push_cast; rfl
                  have HG : Hid (G = pn + k) := hG
                  have HLT : Hid (k < m) := hlt
                  have HK1 : Hid (KR w _ wr) := K1
                  clear hc hgx hlt hk
                  by_cases hsame : ∃ y, n.l[G]? = some y ∧ y.1 = x.1
                  · obtain ⟨y, hgy, he⟩ := hsame
                    have hin : G < L := by have := (List.getElem?_eq_some_iff.1 hgy).1; rw [HL.out] at this; exact this
                    have hEL := el_read (kr_tail (kr_tail (kr_tail K1))) (el_mono HE0.out hs)
                    obtain ⟨A2, hA2, hc2⟩ := hEL (by rw [HL.out]; omega)
                    subst hA2
                    obtain ⟨_, _, y0, -⟩ := hc2 G _ hgy
                    rw [he] at y0
                    have hini : (G : Int) < (L : Int) := by omega
                    have hind : decide (G < L) = true := by simp [hin]
                    have HFG : Hid (k + 1 ≤ fresh (n.l.drop pn) pl) := fresh_goR HKF.out (by rw [List.getElem?_drop, ← hG]; exact hgy) HGX.out he
                    clear K1 he hin hgy hEL hc2 hG
                    go_upto_region 16 with fail
                    rw [HE8.out]
                    go_quiet (fail)
                    clear a0 y0 t0 t1 t2 g0 g1 g2 b0 b1 b2 b3 b4 n1 n2 n3 n4 f1 f2 zBT zTB zDT zTD zDB zBD hini
                    have HKD : Hid (KR w _ (wr.drewN nq)) := kr_drewN HK1.out nq
                    generalize wr.drewN nq = wd at *
                    go_wp2_with fail
                    go_round
                    case rel => exact ⟨k + 1, by go_num, HLT.out, HFG.out, HKD.out⟩
                    case measure => have := HLT.out; (simp [intOf]; try omega)
                  · have HFK : Hid (fresh (n.l.drop pn) pl = k) := fresh_stopR HKF.out (fun x' y' h1 h2 e => hsame ⟨x', by rw [hG, ← List.getElem?_drop]; exact h1, by rw [HGX.out] at h2; injection h2 with h2; rw [h2]; exact e⟩)
                    go_upto_region 16 with fail
                    rw [HE8.out]
                    go_cut [123] (fun v123 wx => v123 = .bool false ∧ KR w ((W.heap.size + 1, [.int .i64 0, .bool false, .int .i64 0]) :: (W.heap.size, [.int .i64 pe, .int .i64 (pn : Int), .int .i64 pb, .slice (some A) m c, .int .i64 ps]) :: (D, ncl { n with ep := pe, ld := false } (.slice sl L cl)) :: rs) wx)
                    case first =>
                      by_cases hin : G < L
                      · have hgy : n.l[G]? = some (n.l[G]'(by rw [HL.out]; exact hin)) := List.getElem?_eq_getElem (by rw [HL.out]; exact hin)
                        have hEL := el_read (kr_tail (kr_tail (kr_tail K1))) (el_mono HE0.out hs)
                        obtain ⟨A2, hA2, hc2⟩ := hEL (by rw [HL.out]; omega)
                        subst hA2
                        obtain ⟨_, _, y0, -⟩ := hc2 G _ hgy
                        have hne : ¬ (n.l[G]'(by rw [HL.out]; exact hin)).1 = x.1 := fun e => hsame ⟨_, hgy, e⟩
                        generalize (n.l[G]'(by rw [HL.out]; exact hin)) = y at y0 hne
                        have hee : (y.1 == x.1) = false := by simp [hne]
                        have hini : (G : Int) < (L : Int) := by omega
                        have hind : decide (G < L) = true := by simp [hin]
                        clear K1 hne hgy hEL hc2 hG hsame
                        clear hin
                        go_quiet (fail)
                        go_wp2_with fail
                        go_meet
                        case rel => exact ⟨rfl, kr_drewN HK1.out _⟩
                      · have hini : ¬ (G : Int) < (L : Int) := by omega
                        have hind : decide (G < L) = false := by simp; omega
                        clear K1 hin hG hsame
                        go_quiet (fail)
                        go_wp2_with fail
                        go_meet
                        case rel => exact ⟨rfl, kr_drewN HK1.out _⟩
                    case rest =>
                      clear K1 HK1 t0 t1 t2 g0 g1 g2 b0 b1 b2 b3 b4 n1 n2 n3 n4 f1 f2 a0 zBT zTB zDT zTD zDB zBD
                      obtain ⟨rfl, K1⟩ := hcut
                      clear hsame hG
                      have t0 := kr_cell K1 0 rfl 0 _ rfl
                      have t1 := kr_cell K1 0 rfl 1 _ rfl
                      have t2 := kr_cell K1 0 rfl 2 _ rfl
                      have g0 := kr_frozen K1 0 rfl 0 (by show 0 < 3; omega)
                      have g1 := kr_frozen K1 0 rfl 1 (by show 1 < 3; omega)
                      have g2 := kr_frozen K1 0 rfl 2 (by show 2 < 3; omega)
                      have b0 := kr_cell K1 1 rfl 0 _ rfl
                      have b1 := kr_cell K1 1 rfl 1 _ rfl
                      have b2 := kr_cell K1 1 rfl 2 _ rfl
                      have b3 := kr_cell K1 1 rfl 3 _ rfl
                      have b4 := kr_cell K1 1 rfl 4 _ rfl
                      have n1 := kr_cell K1 2 rfl 1 _ rfl
                      have n2 := kr_cell K1 2 rfl 2 _ rfl
                      have n3 := kr_cell K1 2 rfl 3 _ rfl
                      have n4 := kr_cell K1 2 rfl 4 _ rfl
                      have f1 := kr_frozen K1 2 rfl 1 (by show 1 < 6; omega)
                      have f2 := kr_frozen K1 2 rfl 2 (by show 2 < 6; omega)
                      have zBT : ¬ (W.heap.size = W.heap.size + 1) := by omega
                      have zTB : ¬ (W.heap.size + 1 = W.heap.size) := by omega
                      have zDT : ¬ (D = W.heap.size + 1) := by have := hzD; omega
                      have zTD : ¬ (W.heap.size + 1 = D) := by have := hzD; omega
                      have zDB : ¬ (D = W.heap.size) := by have := hzD; omega
                      have zBD : ¬ (W.heap.size = D) := by have := hzD; omega
                      have HM2 : Hid (M = n.l.take G ++ pl.drop k) := by
                        have h1 := HM.out
                        unfold sMerge at h1
                        rw [HFK.out, if_pos (by rw [hm.out]; exact HLT.out), ← HG.out] at h1
                        exact h1
                      have hGL : G ≤ L := by have h1 := (fresh_le (n.l.drop pn) pl).2; rw [HFK.out, List.length_drop, HL.out] at h1; have := HG.out; have := HLP.out; omega
                      have KP := kr_permA K1 (List.perm_middle (l₁ := [_, _])).symm
                      have hEA := elv_take (el_read KP (el_mono HE0.out (fun p hp => List.mem_cons_of_mem _ (List.mem_append_right _ (hs p hp))))) G
                      have cA := rLent_at KP (n.l.take G) G (by rw [List.length_take, HL.out]; omega) ⟨by have := HLP.out; omega, fun x hx => by have := HNB.out.data x (List.mem_of_mem_take hx); omega⟩ sl cl hEA
                      have HCA : Hid _ := hidI cA
                      have hs1 : (G : Int) ≤ (L : Int) := by omega
                      have hs2 : (G : Int) ≤ (cl : Int) := by have := HLP.out; omega
                      have HGL : Hid (G ≤ L) := hGL
                      clear hGL KP hEA cA K1
                      go_upto_region 18 with ((go_at_call 54; refine HCA.out.mono ?_; rintro e w3 ⟨s1, c1, rows1, vals1, rfl, R1, hb3, hfc1⟩))
                      clear HCA hs1 hs2 t0 t1 t2 g0 g1 g2 b0 b1 b2 b3 b4 n1 n2 n3 n4 f1 f2
                      have K3 := R1.kr
                      have d3 := range_cell (kr_mem K3 (List.mem_append_right _ List.mem_cons_self)) 3 _ rfl
                      have p3 := range_cell (kr_mem K3 (List.mem_append_right _ (List.mem_cons_of_mem _ (List.mem_cons_of_mem _ List.mem_cons_self)))) 3 _ rfl
                      have cB := rLent_el (V := w3) (pl.drop k) (m - k) (by rw [List.length_drop, hm.out]) ⟨by have := HLP.out; omega, fun x hx => hz.out x ((List.drop_sublist _ _).subset hx)⟩ (some (A.add (k * 2))) (c - k) (elv_drop (elv_keep hP.out K3.below) k)
                      have HR1 : Hid (RO w w3 _ _ _ vals1) := R1
                      have HF1 : Hid (∀ (j : Nat) (u : Value) (y : SE), vals1[j]? = some u → (n.l.take G)[j]? = some y → FC rows1 u y.2) := hfc1
                      have HCB : Hid _ := hidI cB
                      have hs3 : ¬ c = k := by have := HLT.out; omega
                      have hs4 : ¬ (c : Int) - (k : Int) = 0 := by have := HLT.out; omega
                      have hs5 : (k : Int) ≤ (m : Int) := by omega
                      have hs6 : (m : Int) ≤ (c : Int) := by omega
                      clear R1 hfc1 cB K3 hb3
                      go_wp2_with (first | (go_at_call 54; refine HCB.out.mono ?_; rintro e w4 ⟨s2, c2, l2, rfl, K2, E2⟩; clear HCB; obtain ⟨us, hul, hf2, ho2, hsrc2⟩ := tk_src K2 E2 hm.out; have HU : Hid (us.length = m - k ∧ (∀ (j : Nat) (u : Value) (x : SE), us[j]? = some u → (pl.drop k)[j]? = some x → FC l2 u x.2) ∧ (∀ u ∈ ecl (pl.drop k) us, u.oneCell' = true) ∧ SrcV w4 s2 (ecl (pl.drop k) us)) := ⟨hul, hf2, ho2, hsrc2 _ K2⟩; have HM4 : Hid _ := hidI (rtk_mid HR1.out K2); clear hul hf2 ho2 hsrc2 K2 E2 d3 p3) | (at_builtin; refine wl_appendK _ _ 25 43 (.agg #[.int .i64 0, .slice none 0 0]) 2 32 HM4.out.1 (by have h := HM4.out.2.1; rw [List.length_take, HL.out, Nat.min_eq_left HGL.out] at h; exact h) s2 (m - k) c2 (ecl (pl.drop k) us) HU.out.2.2.2 (by rw [ecl_len _ _ (by rw [HU.out.1, List.length_drop, hm.out]), List.length_drop, hm.out]) HU.out.2.2.1 (by have := HLP.out; have := HGL.out; unfold maxLen; omega) (by have := HLP.out; have := HGL.out; omega) Try.underlying25 rent_info rfl (by omega) rfl rfl (by rfl) (by rfl) (fun v' W' O2 H2 hz2 => ?_); obtain ⟨s4, c4, rfl⟩ := own_form O2; have q0 := kr_cell H2 0 rfl 3 _ rfl; have q1 := kr_frozen H2 0 rfl 3 (by show 3 < 6; omega); have H2 : Hid (KR w _ W') := H2; have O2 : Hid (Own w _ _ _ _ _ _ W') := O2; clear hz2))
                      go_meet
                      case rel =>
                        exact rtk_fin H2.out O2.out (by rw [List.length_take, HL.out, Nat.min_eq_left HGL.out, List.length_drop, hm.out]) HM4.out.2.2 (by rw [HU.out.1, List.length_drop, hm.out]) HF1.out HU.out.2.1 HM2.out
                · obtain rfl : k = m := by omega
                  have hki : ¬ (k : Int) < (k : Int) := by omega
                  have HMN : Hid (M = n.l) := by
                    have h1 := HM.out
                    unfold sMerge at h1
                    rw [if_neg (by have := HKF.out; rw [hm.out]; omega)] at h1
                    exact h1
                  have HK1 : Hid (KR w _ wr) := K1
                  clear K1 hlt
                  go_wp2
                  go_meet
                  case rel => exact ⟨[], _, by rw [HMN.out]; exact HK1.out, by rw [HMN.out]; exact HE0.out⟩
            case rest =>
              obtain ⟨l, lv', HK5, HE5⟩ := hcut
              obtain ⟨SF, hSF⟩ : ∃ SF, SF = max n.safe (min ps ((pn : Int) + (m : Int))).toNat := ⟨_, rfl⟩
              have HRR := HRZ.out
              rw [hm.out, ← HM.out, ← hSF] at HRR
              subst HRR
              have HK5H : Hid (KR w _ wc) := HK5
              have HE5H : Hid (EL (l ++ im) _ M) := HE5
              have p1 := kr_cell HK5 1 rfl 1 _ rfl
              have p4 := kr_cell HK5 1 rfl 4 _ rfl
              have d2 := kr_cell HK5 2 rfl 2 _ rfl
              have d4 := kr_cell HK5 2 rfl 4 _ rfl
              have g4 := kr_frozen HK5 2 rfl 4 (by show 4 < 6; omega)
              have a0 := kr_cell HK5 0 rfl 0 _ rfl
              have a1 := kr_cell HK5 0 rfl 1 _ rfl
              have a2 := kr_cell HK5 0 rfl 2 _ rfl
              have f0 := kr_frozen HK5 0 rfl 0 (by show 0 < 3; omega)
              have f1 := kr_frozen HK5 0 rfl 1 (by show 1 < 3; omega)
              have f2 := kr_frozen HK5 0 rfl 2 (by show 2 < 3; omega)
              have zDT : ¬ (D = W.heap.size + 1) := by have := hzD; omega
              have zTD : ¬ (W.heap.size + 1 = D) := by have := hzD; omega
              have hS4 : ((pn : Int) + (m : Int) < ps ∧ (n.safe : Int) < (pn : Int) + (m : Int) ∧ (SF : Int) = (pn : Int) + (m : Int)) ∨ ((pn : Int) + (m : Int) < ps ∧ ¬ (n.safe : Int) < (pn : Int) + (m : Int) ∧ (SF : Int) = (n.safe : Int)) ∨ (¬ (pn : Int) + (m : Int) < ps ∧ (n.safe : Int) < ps ∧ (SF : Int) = ps) ∨ (¬ (pn : Int) + (m : Int) < ps ∧ ¬ (n.safe : Int) < ps ∧ (SF : Int) = (n.safe : Int)) := sf_cases hSF hs0 (Int.natCast_nonneg pn)
              clear HK5 HE5 hSF
              rcases hS4 with ⟨c1, c2, c3⟩ | ⟨c1, c2, c3⟩ | ⟨c1, c2, c3⟩ | ⟨c1, c2, c3⟩
              · skip
                have C3 : Hid ((SF : Int) = ((pn : Int) + (m : Int))) := c3
                clear c3

                go_wp2_with fail
                have HZ : KR w ((W.heap.size + 1, [.int .i64 pe, .bool true, .int .i64 ((pn : Int) + (m : Int))]) :: (W.heap.size, [.int .i64 pe, .int .i64 (pn : Int), .int .i64 pb, .slice sp m c, .int .i64 ps]) :: (D, ncl { n with ep := pe, ld := false, l := M, safe := SF } lv') :: (l ++ rs)) (((((wc.setCell ⟨D, 4, none⟩ (.int .i64 ((pn : Int) + (m : Int))))).setCell ⟨W.heap.size + 1, 0, none⟩ (.int .i64 pe)).setCell ⟨W.heap.size + 1, 1, none⟩ (.bool true)).setCell ⟨W.heap.size + 1, 2, none⟩ (.int .i64 ((pn : Int) + (m : Int)))) := by
                  have HZ0 := kr_fset (kr_fset (kr_fset (kr_fset HK5H.out 2 rfl 4 (by show 4 < 6; omega) (.int .i64 (SF : Int)) (ncl { n with ep := pe, ld := false, l := M, safe := SF } lv') rfl) 0 rfl 0 (by show 0 < 3; omega) (.int .i64 pe) _ rfl) 0 rfl 1 (by show 1 < 3; omega) (.bool true) _ rfl) 0 rfl 2 (by show 2 < 3; omega) (.int .i64 ((pn : Int) + (m : Int))) _ rfl
                  simp only [List.set_cons_zero, List.set_cons_succ] at HZ0
                  rw [C3.out] at HZ0
                  exact HZ0
                generalize (((((wc.setCell ⟨D, 4, none⟩ (.int .i64 ((pn : Int) + (m : Int))))).setCell ⟨W.heap.size + 1, 0, none⟩ (.int .i64 pe)).setCell ⟨W.heap.size + 1, 1, none⟩ (.bool true)).setCell ⟨W.heap.size + 1, 2, none⟩ (.int .i64 ((pn : Int) + (m : Int)))) = W9 at HZ ⊢
                have r0 := kr_cell HZ 0 rfl 0 _ rfl
                have r1 := kr_cell HZ 0 rfl 1 _ rfl
                have r2 := kr_cell HZ 0 rfl 2 _ rfl
                exact bodyPost_ret (v := .tuple #[.agg #[.int .i64 pe, .bool true, .int .i64 ((pn : Int) + (m : Int))], .int .i64 0]) (by simp [results, Try.results49, go_sem, r0, r1, r2]) rfl ⟨(W.heap.size + 1, _) :: (W.heap.size, _) :: l, _, rfl, kr_permA HZ (List.perm_middle (l₁ := [_, _])).symm, el_mono HE5H.out (fun x hx => List.mem_cons_of_mem _ (List.mem_cons_of_mem _ hx))⟩
              · skip
                have C3 : Hid ((SF : Int) = (n.safe : Int)) := c3
                clear c3
                have HK6 : Hid (KR w ((W.heap.size + 1, [.int .i64 0, .bool false, .int .i64 0]) :: (W.heap.size, [.int .i64 pe, .int .i64 (pn : Int), .int .i64 pb, .slice sp m c, .int .i64 ps]) :: (D, ncl { n with ep := pe, ld := false, l := M, safe := SF } lv') :: (l ++ rs)) wc) := by
                  have h := HK5H.out
                  have e : SF = n.safe := by have := C3.out; omega
                  show KR _ _ _
                  rw [e]
                  exact h
                go_wp2_with fail
                have HZ : KR w ((W.heap.size + 1, [.int .i64 pe, .bool true, .int .i64 ((pn : Int) + (m : Int))]) :: (W.heap.size, [.int .i64 pe, .int .i64 (pn : Int), .int .i64 pb, .slice sp m c, .int .i64 ps]) :: (D, ncl { n with ep := pe, ld := false, l := M, safe := SF } lv') :: (l ++ rs)) ((((wc).setCell ⟨W.heap.size + 1, 0, none⟩ (.int .i64 pe)).setCell ⟨W.heap.size + 1, 1, none⟩ (.bool true)).setCell ⟨W.heap.size + 1, 2, none⟩ (.int .i64 ((pn : Int) + (m : Int)))) := by
                  have HZ0 := kr_fset (kr_fset (kr_fset HK6.out 0 rfl 0 (by show 0 < 3; omega) (.int .i64 pe) _ rfl) 0 rfl 1 (by show 1 < 3; omega) (.bool true) _ rfl) 0 rfl 2 (by show 2 < 3; omega) (.int .i64 ((pn : Int) + (m : Int))) _ rfl
                  simp only [List.set_cons_zero, List.set_cons_succ] at HZ0
                  skip
                  exact HZ0
                generalize ((((wc).setCell ⟨W.heap.size + 1, 0, none⟩ (.int .i64 pe)).setCell ⟨W.heap.size + 1, 1, none⟩ (.bool true)).setCell ⟨W.heap.size + 1, 2, none⟩ (.int .i64 ((pn : Int) + (m : Int)))) = W9 at HZ ⊢
                have r0 := kr_cell HZ 0 rfl 0 _ rfl
                have r1 := kr_cell HZ 0 rfl 1 _ rfl
                have r2 := kr_cell HZ 0 rfl 2 _ rfl
                exact bodyPost_ret (v := .tuple #[.agg #[.int .i64 pe, .bool true, .int .i64 ((pn : Int) + (m : Int))], .int .i64 0]) (by simp [results, Try.results49, go_sem, r0, r1, r2]) rfl ⟨(W.heap.size + 1, _) :: (W.heap.size, _) :: l, _, rfl, kr_permA HZ (List.perm_middle (l₁ := [_, _])).symm, el_mono HE5H.out (fun x hx => List.mem_cons_of_mem _ (List.mem_cons_of_mem _ hx))⟩
              · skip
                have C3 : Hid ((SF : Int) = ps) := c3
                clear c3

                go_wp2_with fail
                have HZ : KR w ((W.heap.size + 1, [.int .i64 pe, .bool true, .int .i64 ((pn : Int) + (m : Int))]) :: (W.heap.size, [.int .i64 pe, .int .i64 (pn : Int), .int .i64 pb, .slice sp m c, .int .i64 ps]) :: (D, ncl { n with ep := pe, ld := false, l := M, safe := SF } lv') :: (l ++ rs)) (((((wc.setCell ⟨D, 4, none⟩ (.int .i64 ps))).setCell ⟨W.heap.size + 1, 0, none⟩ (.int .i64 pe)).setCell ⟨W.heap.size + 1, 1, none⟩ (.bool true)).setCell ⟨W.heap.size + 1, 2, none⟩ (.int .i64 ((pn : Int) + (m : Int)))) := by
                  have HZ0 := kr_fset (kr_fset (kr_fset (kr_fset HK5H.out 2 rfl 4 (by show 4 < 6; omega) (.int .i64 (SF : Int)) (ncl { n with ep := pe, ld := false, l := M, safe := SF } lv') rfl) 0 rfl 0 (by show 0 < 3; omega) (.int .i64 pe) _ rfl) 0 rfl 1 (by show 1 < 3; omega) (.bool true) _ rfl) 0 rfl 2 (by show 2 < 3; omega) (.int .i64 ((pn : Int) + (m : Int))) _ rfl
                  simp only [List.set_cons_zero, List.set_cons_succ] at HZ0
                  rw [C3.out] at HZ0
                  exact HZ0
                generalize (((((wc.setCell ⟨D, 4, none⟩ (.int .i64 ps))).setCell ⟨W.heap.size + 1, 0, none⟩ (.int .i64 pe)).setCell ⟨W.heap.size + 1, 1, none⟩ (.bool true)).setCell ⟨W.heap.size + 1, 2, none⟩ (.int .i64 ((pn : Int) + (m : Int)))) = W9 at HZ ⊢
                have r0 := kr_cell HZ 0 rfl 0 _ rfl
                have r1 := kr_cell HZ 0 rfl 1 _ rfl
                have r2 := kr_cell HZ 0 rfl 2 _ rfl
                exact bodyPost_ret (v := .tuple #[.agg #[.int .i64 pe, .bool true, .int .i64 ((pn : Int) + (m : Int))], .int .i64 0]) (by simp [results, Try.results49, go_sem, r0, r1, r2]) rfl ⟨(W.heap.size + 1, _) :: (W.heap.size, _) :: l, _, rfl, kr_permA HZ (List.perm_middle (l₁ := [_, _])).symm, el_mono HE5H.out (fun x hx => List.mem_cons_of_mem _ (List.mem_cons_of_mem _ hx))⟩
              · skip
                have C3 : Hid ((SF : Int) = (n.safe : Int)) := c3
                clear c3
                have HK6 : Hid (KR w ((W.heap.size + 1, [.int .i64 0, .bool false, .int .i64 0]) :: (W.heap.size, [.int .i64 pe, .int .i64 (pn : Int), .int .i64 pb, .slice sp m c, .int .i64 ps]) :: (D, ncl { n with ep := pe, ld := false, l := M, safe := SF } lv') :: (l ++ rs)) wc) := by
                  have h := HK5H.out
                  have e : SF = n.safe := by have := C3.out; omega
                  show KR _ _ _
                  rw [e]
                  exact h
                go_wp2_with fail
                have HZ : KR w ((W.heap.size + 1, [.int .i64 pe, .bool true, .int .i64 ((pn : Int) + (m : Int))]) :: (W.heap.size, [.int .i64 pe, .int .i64 (pn : Int), .int .i64 pb, .slice sp m c, .int .i64 ps]) :: (D, ncl { n with ep := pe, ld := false, l := M, safe := SF } lv') :: (l ++ rs)) ((((wc).setCell ⟨W.heap.size + 1, 0, none⟩ (.int .i64 pe)).setCell ⟨W.heap.size + 1, 1, none⟩ (.bool true)).setCell ⟨W.heap.size + 1, 2, none⟩ (.int .i64 ((pn : Int) + (m : Int)))) := by
                  have HZ0 := kr_fset (kr_fset (kr_fset HK6.out 0 rfl 0 (by show 0 < 3; omega) (.int .i64 pe) _ rfl) 0 rfl 1 (by show 1 < 3; omega) (.bool true) _ rfl) 0 rfl 2 (by show 2 < 3; omega) (.int .i64 ((pn : Int) + (m : Int))) _ rfl
                  simp only [List.set_cons_zero, List.set_cons_succ] at HZ0
                  skip
                  exact HZ0
                generalize ((((wc).setCell ⟨W.heap.size + 1, 0, none⟩ (.int .i64 pe)).setCell ⟨W.heap.size + 1, 1, none⟩ (.bool true)).setCell ⟨W.heap.size + 1, 2, none⟩ (.int .i64 ((pn : Int) + (m : Int)))) = W9 at HZ ⊢
                have r0 := kr_cell HZ 0 rfl 0 _ rfl
                have r1 := kr_cell HZ 0 rfl 1 _ rfl
                have r2 := kr_cell HZ 0 rfl 2 _ rfl
                exact bodyPost_ret (v := .tuple #[.agg #[.int .i64 pe, .bool true, .int .i64 ((pn : Int) + (m : Int))], .int .i64 0]) (by simp [results, Try.results49, go_sem, r0, r1, r2]) rfl ⟨(W.heap.size + 1, _) :: (W.heap.size, _) :: l, _, rfl, kr_permA HZ (List.perm_middle (l₁ := [_, _])).symm, el_mono HE5H.out (fun x hx => List.mem_cons_of_mem _ (List.mem_cons_of_mem _ hx))⟩
end
end Go.Proofs.Ytofpkmfjigjlhaa.Own
