/- Take of dayshift/ship: the answer that takes the entries. No conditions beside those in each theorem. -/
import Derived.Test.YtofpkmfjigjlhaaTk
import Derived.IntWalk
namespace Go.Proofs.Ytofpkmfjigjlhaa.Own
open Go.RowKit
set_option linter.unusedSimpArgs false
set_option linter.unusedVariables false
theorem el_srcT {w : World} {rows : List (Nat × List Value)} {es : List SE} {vals : List Value} {sp : Option Addr} (hl : vals.length = es.length) (hS : ∀ W1, KR w rows W1 → SrcV W1 sp (ecl es vals)) (k : Nat) : ∀ W1, KR w rows W1 → SrcV W1 sp (ecl (es.take k) (vals.take k)) := fun W1 h1 h0 => by
  rw [← ecl_take es vals hl k] at h0 ⊢
  obtain ⟨A, hA, hc⟩ := hS W1 h1 (by rw [List.length_take] at h0; omega)
  refine ⟨A, hA, fun j v hv => hc j v ?_⟩
  rw [List.getElem?_take] at hv
  split at hv
  · exact hv
  · cases hv
theorem perm3 (b a t D : Nat × List Value) (l1 rs : List (Nat × List Value)) : (D :: (b :: (l1 ++ a :: t :: rs))).Perm (b :: (l1 ++ a :: t :: D :: rs)) := by
  have h := List.perm_middle (a := D) (l₁ := b :: (l1 ++ [a, t])) (l₂ := rs)
  have e1 : b :: (l1 ++ [a, t]) ++ D :: rs = b :: (l1 ++ a :: t :: D :: rs) := by simp
  have e2 : b :: (l1 ++ [a, t]) ++ rs = b :: (l1 ++ a :: t :: rs) := by simp
  rw [e1, e2] at h
  exact h.symm
theorem fc_take {rs : List (Nat × List Value)} {vals : List Value} {es : List SE} (h : ∀ (j : Nat) (u : Value) (x : SE), vals[j]? = some u → es[j]? = some x → FC rs u x.2) (k : Nat) : ∀ (j : Nat) (u : Value) (x : SE), (vals.take k)[j]? = some u → (es.take k)[j]? = some x → FC rs u x.2 := by
  intro j u x hu hx
  rw [List.getElem?_take] at hu hx
  split at hu
  · rename_i hj
    rw [if_pos hj] at hx
    exact h j u x hu hx
  · cases hu
section
variable {w W : World} {rs im : List (Nat × List Value)} {n : SN} {lv : Value} {D : Nat}
theorem conc_fin {W' : World} {l1 : List (Nat × List Value)} {q0 q1 q2 : Nat × List Value} {lv0 v' : Value} {es : List SE} {us : List Value} {K : Nat} (H2 : KR w ((D, ncl n lv0) :: (q0 :: (l1 ++ q1 :: q2 :: rs))) W') (hK : es.length = K) (O : Own w ((D, ncl n lv0) :: (q0 :: (l1 ++ q1 :: q2 :: rs))) 82 2 v' K (ecl es us) W') (hul : us.length = es.length)
    (hf : ∀ (j : Nat) (u : Value) (y : SE), us[j]? = some u → es[j]? = some y → FC (l1 ++ im) u y.2) :
    ∃ l, KR w (q1 :: q2 :: (D, ncl { n with l := es } v') :: (l ++ rs)) (W'.setCell ⟨D, 3, none⟩ v') ∧ EL (l ++ im) v' es := by
  have q2' : KR w ((D, ncl { n with l := es } v') :: (q0 :: (l1 ++ q1 :: q2 :: rs))) (W'.setCell ⟨D, 3, none⟩ v') := kr_fset H2 0 rfl 3 (by show 3 < 6; omega) v' _ rfl
  have q3 := own_rows (rs' := (D, ncl { n with l := es } v') :: (q0 :: (l1 ++ q1 :: q2 :: rs))) (own_set O List.mem_cons_self 3 v') (fun p hp => by rcases List.mem_cons.1 hp with rfl | hp; exact ⟨_, List.mem_cons_self, rfl⟩; exact ⟨p, List.mem_cons_of_mem _ hp, rfl⟩)
  obtain ⟨l, HL, HC⟩ := own_settle q2' q3
  refine ⟨l ++ (q0 :: l1), kr_permA HL ?_, us, hul, ?_, fun j u y hu hy => ?_⟩
  · have h1 : (l ++ (D, ncl { n with l := es } v') :: q0 :: (l1 ++ q1 :: q2 :: rs)).Perm ((D, ncl { n with l := es } v') :: (l ++ q0 :: (l1 ++ q1 :: q2 :: rs))) := List.perm_middle
    have h2 : (l ++ q0 :: (l1 ++ q1 :: q2 :: rs)).Perm (q1 :: q2 :: ((l ++ q0 :: l1) ++ rs)) := by
      rw [show l ++ q0 :: (l1 ++ q1 :: q2 :: rs) = (l ++ q0 :: l1) ++ q1 :: q2 :: rs from by simp]
      exact List.perm_middle.trans (List.Perm.cons _ List.perm_middle)
    exact ((h1.trans (List.Perm.cons _ h2)).trans ((List.Perm.swap _ _ _).trans (List.Perm.cons _ (List.Perm.swap _ _ _)))).symm
  · rw [hK]; exact sc_mono HC (fun p hp => List.mem_append_left _ (List.mem_append_left _ hp))
  · exact fc_monoL (hf j u y hu hy) (fun p hp => by
      rcases List.mem_append.1 hp with hp | hp
      · exact List.mem_append_left _ (List.mem_append_right _ (List.mem_cons_of_mem _ hp))
      · exact List.mem_append_right _ hp)
theorem tk_src {rows : List (Nat × List Value)} {pl : List SE} {m F c1 : Nat} {s1 : Option Addr} (HK : KR w rows W) (h : EL rows (.slice s1 (m - F) c1) (pl.drop F)) (hm : pl.length = m) : ∃ us : List Value, us.length = m - F ∧ (∀ (j : Nat) (u : Value) (x : SE), us[j]? = some u → (pl.drop F)[j]? = some x → FC rows u x.2) ∧ (∀ u ∈ ecl (pl.drop F) us, u.oneCell' = true) ∧ (∀ W1, KR w rows W1 → SrcV W1 s1 (ecl (pl.drop F) us)) := by
  obtain ⟨s, c, us, he, -, hul, -, hf1, ho1, -, hsrc1⟩ := el_src HK h
  injection he with he
  subst he
  exact ⟨us, by rw [hul, List.length_drop, hm], hf1, ho1, hsrc1⟩
theorem tk_cc {b D a t : Nat} {dc ac tc : List Value} {l1 : List (Nat × List Value)} {pl : List SE} {vals us : List Value} {sl s1 : Option Addr} {L m F G pn c1 : Nat} (HG : G = pn + F) (HN : pn + F ≤ L ∧ L ≤ 4096 ∧ F < m ∧ m ≤ 4096) (HL : n.l.length = L) (hm : pl.length = m) (HX : (∀ W1, KR w rs W1 → SrcV W1 sl (ecl n.l vals)) ∧ vals.length = L ∧ (∀ u ∈ ecl n.l vals, u.oneCell' = true))
    (hul : us.length = m - F) (ho1 : ∀ u ∈ ecl (pl.drop F) us, u.oneCell' = true) (hsrc1 : ∀ W1, KR w l1 W1 → SrcV W1 s1 (ecl (pl.drop F) us)) :
    ∀ V, KR w ((D, dc) :: ((b, [.slice sl G G, .slice s1 (m - F) c1]) :: (l1 ++ (a, ac) :: (t, tc) :: rs))) V → Calls Try.prog 37 #[.slice (some ⟨b, 0, none⟩) 2 2] V fun e W' => ∃ v, e = .returned v ∧ Own w ((D, dc) :: ((b, [.slice sl G G, .slice s1 (m - F) c1]) :: (l1 ++ (a, ac) :: (t, tc) :: rs))) 82 2 v (G + (m - F)) (ecl (n.l.take G) (vals.take G) ++ ecl (pl.drop F) us) W' ∧ KR w ((D, dc) :: ((b, [.slice sl G G, .slice s1 (m - F) c1]) :: (l1 ++ (a, ac) :: (t, tc) :: rs))) W' := fun V hV =>
  conc_k hV b G (m - F) sl s1 G c1 (List.mem_cons_of_mem _ List.mem_cons_self) (ecl (n.l.take G) (vals.take G)) (ecl (pl.drop F) us) (by rw [ecl_len _ _ (by simp [HL, HX.2.1]), List.length_take, HL]; omega) (by rw [ecl_len _ _ (by rw [hul, List.length_drop, hm]), List.length_drop, hm]) (by omega) (by omega)
    (fun W1 h1 => el_srcT (by rw [HX.2.1, HL]) HX.1 G W1 (kr_sub h1 ((((List.sublist_cons_self _ _).trans (List.sublist_cons_self _ _)).trans (List.sublist_append_right _ _)).trans ((List.sublist_cons_self _ _).trans (List.sublist_cons_self _ _)))))
    (fun W1 h1 => hsrc1 W1 (kr_sub h1 ((List.sublist_append_left _ _).trans ((List.sublist_cons_self _ _).trans (List.sublist_cons_self _ _)))))
    (fun u hu => HX.2.2 u (by rw [← ecl_take _ _ (by rw [HX.2.1, HL])] at hu; exact (List.take_sublist _ _).subset hu)) ho1
theorem sf_cases {a b SF : Nat} {q p : Int} (h : SF = max a (min p (q + b)).toNat) (h0 : 0 ≤ p) (hq : 0 ≤ q) : (q + (b : Int) < p ∧ (a : Int) < q + (b : Int) ∧ (SF : Int) = q + (b : Int)) ∨ (q + (b : Int) < p ∧ ¬ (a : Int) < q + (b : Int) ∧ (SF : Int) = (a : Int)) ∨ (¬ q + (b : Int) < p ∧ (a : Int) < p ∧ (SF : Int) = p) ∨ (¬ q + (b : Int) < p ∧ ¬ (a : Int) < p ∧ (SF : Int) = (a : Int)) := by omega
theorem tk_fin {b a t : Nat} {bc0 ac tc : List Value} {W' : World} {l1 : List (Nat × List Value)} {lv0 v' : Value} {pl : List SE} {vals us : List Value} {L m F G pn : Nat} (HG : G = pn + F) (HN : pn + F ≤ L ∧ L ≤ 4096 ∧ F < m ∧ m ≤ 4096) (HL : n.l.length = L) (hm : pl.length = m) (hvl : vals.length = L)
    (HU : us.length = m - F ∧ (∀ (j : Nat) (u : Value) (x : SE), us[j]? = some u → (pl.drop F)[j]? = some x → FC l1 u x.2)) (HFC : ∀ (j : Nat) (u : Value) (x : SE), vals[j]? = some u → n.l[j]? = some x → FC im u x.2) {n' : SN}
    (H7 : KR w ((D, ncl n' lv0) :: ((b, bc0) :: (l1 ++ (a, ac) :: (t, tc) :: rs))) W') (O7 : Own w ((D, ncl n' lv0) :: ((b, bc0) :: (l1 ++ (a, ac) :: (t, tc) :: rs))) 82 2 v' (G + (m - F)) (ecl (n.l.take G) (vals.take G) ++ ecl (pl.drop F) us) W') :
    ∃ l, KR w ((a, ac) :: (t, tc) :: (D, ncl { n' with l := n.l.take G ++ pl.drop F } v') :: (l ++ rs)) (W'.setCell ⟨D, 3, none⟩ v') ∧ EL (l ++ im) v' (n.l.take G ++ pl.drop F) := by
  rw [← ecl_app _ _ _ _ (by simp [HL, hvl])] at O7
  exact conc_fin H7 (by rw [List.length_append, List.length_take, HL, List.length_drop, hm]; omega) O7 (by rw [List.length_append, List.length_append, HU.1, List.length_take, List.length_take, HL, hvl, List.length_drop, hm])
    (fc_app (by rw [List.length_take, List.length_take, HL, hvl]) (fun j u x hu hx => fc_monoL (fc_take HFC G j u x hu hx) (fun p hp => List.mem_append_right _ hp)) (fun j u x hu hx => fc_monoL (HU.2 j u x hu hx) (fun p hp => List.mem_append_left _ hp)))
set_option maxRecDepth 100000 in
set_option maxHeartbeats 64000000 in
theorem take_yes (HK : KR w ((D, ncl n lv) :: rs) W) (hs : ∀ p ∈ im, p ∈ rs) (HE : EL im lv n.l) (hB : NB n) (p : SP) (m : Nat) (hm : Hid (p.l.length = m)) (hm2 : m ≤ 100000) (hz : Hid (∀ x ∈ p.l, x.2.length ≤ 140737488351232)) (sp : Option Addr) (c : Nat) (hmc : m ≤ c) (hP : Hid (∀ W1, KR w ((D, ncl n lv) :: rs) W1 → ELV W1 sp p.l))
    (hQ : ∀ D1 a t ac tc V, KR w ((a, ac) :: (t, tc) :: (D, D1) :: rs) V → ELV V sp p.l) (hr : sRight p = true) (hst : ¬ (p.ep < n.ep ∨ (p.ep = n.ep ∧ n.ld = true))) (hc1 : ¬ (n.l.length : Int) < p.at_) (hne : ¬ epAt n.l p.at_.toNat ≠ p.bf) :
    Calls Try.prog 22 #[.pointer (some ⟨D, 0, none⟩), .agg #[.int .i64 p.ep, .int .i64 p.at_, .int .i64 p.bf, .slice sp m c, .int .i64 p.safe]] W (TkPost w rs im D (sTake n p)) := by
  obtain ⟨pe, pa, pb, pl, ps⟩ := p
  simp only at hm hz hP hQ hst hc1 hne ⊢
  obtain ⟨sl, cl, vals, rfl, hlc, hvl, -, hfc, hone, -, hsrc⟩ := el_srcM (kr_sub HK (List.sublist_cons_self _ _)) hs HE
  have K1 := kr_new (kr_new HK [.int .i64 pe, .int .i64 pa, .int .i64 pb, .slice sp m c, .int .i64 ps] 53) [.int .i64 0, .bool false, .int .i64 0] 57
  rw [World.size_alloc] at K1
  have hri := right_k ⟨pe, pa, pb, pl, ps⟩ m hm hm2 hz sp c (hP.out _ (kr_tail (kr_tail K1)))
  have hlen := hB.len
  have hsf := hB.safe
  generalize hL : n.l.length = L at *
  have HL : Hid (n.l.length = L) := hL
  have hLi : (L : Int) ≤ 4096 := by omega
  have HE0 : Hid (EL im (.slice sl L cl) n.l) := HE
  simp only at hri
  have hz1 : W.heap.size + 1 < ((W.alloc (.cells #[.int .i64 pe, .int .i64 pa, .int .i64 pb, .slice sp m c, .int .i64 ps] 53)).alloc (.cells #[.int .i64 0, .bool false, .int .i64 0] 57)).heap.size := by simp
  have HK1 : Hid (KR w _ _) := K1
  unfold sTake
  rw [if_neg (by rw [hr]; simp), if_neg hst, if_neg (by rw [hL]; exact hc1), if_neg hne]
  have hpe : 0 ≤ pe ∧ pe ≤ 4611686018427387904 ∧ 0 ≤ pa ∧ pa ≤ 4096 ∧ 0 ≤ ps ∧ ps ≤ 4096 ∧ (m : Int) ≤ 4096 - pa := by
    have hr' := hr
    unfold sRight inE inN at hr'
    simp only [hm.out, Bool.and_eq_true, decide_eq_true_eq] at hr'
    omega
  obtain ⟨hpe0, hpe1, hpa0, hpa1, hps0, hps1, hm3⟩ := hpe
  rw [hr] at hri
  have h1 : ¬ pe < n.ep := fun h => hst (.inl h)
  have h1' : decide (pe < n.ep) = false := by simpa using h1
  have hg : (pe == n.ep) = false ∨ ((pe == n.ep) = true ∧ n.ld = false) := by
    rcases bool_false_or (pe == n.ep) with h | h
    · exact .inl h
    · rcases bool_false_or n.ld with h2 | h2
      · exact .inr ⟨h, h2⟩
      · exact absurd (.inr ⟨by simpa using h, h2⟩) hst
  have HY : Hid (∀ V, KR w ((D, ncl n (.slice sl L cl)) :: ((W.heap.size + 1, [.int .i64 0, .bool false, .int .i64 0]) :: (W.heap.size, [.int .i64 pe, .int .i64 pa, .int .i64 pb, .slice sp m c, .int .i64 ps]) :: rs)) V → Calls Try.prog 35 #[.pointer (some ⟨D, 0, none⟩), .int .i64 pe] V fun e' W' => e' = .returned (.tuple #[]) ∧ KR w ((D, ncl { n with ep := pe, ld := false } (.slice sl L cl)) :: ((W.heap.size + 1, [.int .i64 0, .bool false, .int .i64 0]) :: (W.heap.size, [.int .i64 pe, .int .i64 pa, .int .i64 pb, .slice sp m c, .int .i64 ps]) :: rs)) W') := fun V hV => yield_k hV pe
  obtain ⟨pn, rfl⟩ : ∃ pn : Nat, pa = (pn : Int) := ⟨pa.toNat, by omega⟩
  rw [Int.toNat_natCast] at hne ⊢
  have hpnL : pn ≤ L := by omega
  have hep := fun V (hV : KR w ((W.heap.size + 1, [.int .i64 0, .bool false, .int .i64 0]) :: (W.heap.size, [.int .i64 pe, .int .i64 (pn : Int), .int .i64 pb, .slice sp m c, .int .i64 ps]) :: (D, ncl { n with ep := pe, ld := false } (.slice sl L cl)) :: rs) V) => epAt_k n.l L pn HL.out hpnL (by omega) sl cl (el_read (kr_tail (kr_tail (kr_tail hV))) (el_mono HE0.out hs))
  have HEP : Hid _ := hidI hep
  have hp2 : ∀ V, KR w ((W.heap.size + 1, [.int .i64 0, .bool false, .int .i64 0]) :: (W.heap.size, [.int .i64 pe, .int .i64 (pn : Int), .int .i64 pb, .slice sp m c, .int .i64 ps]) :: (D, ncl { n with ep := pe, ld := false } (.slice sl L cl)) :: rs) V → ELV V sp pl := fun V hV => hQ _ _ _ _ _ V hV
  have hfr := fun V (hV : KR w ((W.heap.size + 1, [.int .i64 0, .bool false, .int .i64 0]) :: (W.heap.size, [.int .i64 pe, .int .i64 (pn : Int), .int .i64 pb, .slice sp m c, .int .i64 ps]) :: (D, ncl { n with ep := pe, ld := false } (.slice sl L cl)) :: rs) V) => fresh_k n.l pl L m pn HL.out hm.out (by omega) hm2 (by omega) sl sp cl c (el_read (kr_tail (kr_tail (kr_tail hV))) (el_mono HE0.out hs)) (hp2 V hV)
  have HFR : Hid _ := hidI hfr
  have hpb : epAt n.l pn = pb := Decidable.not_not.1 hne
  have hne1 : (pb == pb) = true := by simp
  have hne2 : (pb != pb) = false := by simp
  rw [hpb] at HEP
  have HFL : Hid (fresh (n.l.drop pn) pl ≤ m ∧ pn + fresh (n.l.drop pn) pl ≤ L) := by
    have := fresh_le (n.l.drop pn) pl
    rw [List.length_drop, HL.out, hm.out] at this
    exact ⟨this.1, by omega⟩
  have hmm : sMerge n.l pn pl = if fresh (n.l.drop pn) pl < m then n.l.take (pn + fresh (n.l.drop pn) pl) ++ pl.drop (fresh (n.l.drop pn) pl) else n.l := by unfold sMerge; rw [hm.out]
  have HMM : Hid (sMerge n.l pn pl = if fresh (n.l.drop pn) pl < m then n.l.take (pn + fresh (n.l.drop pn) pl) ++ pl.drop (fresh (n.l.drop pn) pl) else n.l) := hmm
  clear hmm
  rw [hm.out]
  generalize sMerge n.l pn pl = M at HMM ⊢
  generalize hF : fresh (n.l.drop pn) pl = F at *
  obtain ⟨SF, hSF⟩ : ∃ SF, SF = max n.safe (min ps ((pn : Int) + (m : Int))).toNat := ⟨_, rfl⟩
  rw [← hSF]
  have HSF : Hid (SF = max n.safe (min ps ((pn : Int) + (m : Int))).toNat) := hSF
  clear hSF
  obtain ⟨hF1, hF2⟩ := HFL.out
  have HFC : Hid (∀ (j : Nat) (u : Value) (x : SE), vals[j]? = some u → n.l[j]? = some x → FC im u x.2) := hfc
  have HX : Hid ((∀ W1, KR w rs W1 → SrcV W1 sl (ecl n.l vals)) ∧ vals.length = L ∧ (∀ u ∈ ecl n.l vals, u.oneCell' = true)) := ⟨hsrc, hvl, hone⟩
  have HP2 : Hid _ := hidI hp2
  have hmi : (m : Int) ≤ 4096 := by omega
  have hci : (m : Int) ≤ (c : Int) := by omega
  have hcl : (L : Int) ≤ (cl : Int) := by omega
  clear HK HE K1 hlen hL hr hpe0 hpe1 hep hne hfr hp2 hfc hone hsrc hvl hst hF hpb h1
  go_enter Try.func22, Try.ntmps22
  go_upto_region 5 with (go_at_call 34; refine hri.mono ?_; rintro e w1 ⟨rfl, hB1⟩; have HK2 := kr_call HK1.out hB1)
  have HK2H : Hid (KR w _ w1) := HK2
  go_cut [18] (fun v18 wx => v18 = .bool false ∧ ∃ q, wx = w1.drewN q)
  case first =>
    have xp0 := kr_cell HK2 1 rfl 0 _ rfl
    have xd2 := kr_cell HK2 2 rfl 2 _ rfl
    have xd1 := kr_cell HK2 2 rfl 1 _ rfl
    clear HK2
    rcases hg with hg | ⟨hg, hld⟩
    · go_quiet (fail)
      go_wp2_with fail
      go_meet
      case rel => exact ⟨rfl, nq, rfl⟩
    · rw [hld] at xd1
      clear hld
      go_quiet (fail)
      go_wp2_with fail
      go_meet
      case rel => exact ⟨rfl, nq, rfl⟩
  case rest =>
    obtain ⟨rfl, q, rfl⟩ := hcut
    clear HK2 hg
    have xp0 := kr_cell HK2H.out 1 rfl 0 _ rfl
    go_wp2_with (go_at_call 35; refine (HY.out _ (kr_permA (kr_drewN HK2H.out q) (List.perm_middle (l₁ := [_, _])).symm)).mono ?_; rintro e w3 ⟨rfl, HK3⟩; have HK3 := kr_permA HK3 (List.perm_middle (l₁ := [_, _])); clear xp0; have zd3 := kr_cell HK3 2 rfl 3 _ rfl; have zp1 := kr_cell HK3 1 rfl 1 _ rfl; have zp2 := kr_cell HK3 1 rfl 2 _ rfl; have zp3 := kr_cell HK3 1 rfl 3 _ rfl)
    go_quiet (fail)
    go_wp2_with fail
    go_region_held3 (fun V => V.cell? ⟨D, 3, none⟩ = some (.slice sl L cl) ∧ V.cell? ⟨W.heap.size, 1, none⟩ = some (.int .i64 (pn : Int)) ∧ V.cell? ⟨W.heap.size, 2, none⟩ = some (.int .i64 pb)) (go_keep) ((go_at_call 33; refine (HEP.out _ (kr_drewN HK3 _)).mono ?_; rintro e w5 ⟨rfl, rfl⟩))
    go_wp2_with fail
    go_region_held3 (fun V => V.cell? ⟨D, 3, none⟩ = some (.slice sl L cl) ∧ V.cell? ⟨W.heap.size, 1, none⟩ = some (.int .i64 (pn : Int))) (go_keep) ((go_at_call 36; refine (HFR.out _ (kr_drewN HK3 _)).mono ?_; rintro e w5 ⟨rfl, qf, rfl⟩))
    go_upto_if 101 with fail
    have HK4 := kr_drewN HK3 (nq + 1 + 1 + qf)
    clear HK3 zd3 zp1 zp2 zp3 HFR HEP HY hri HK2H HK1
    generalize w3.drewN (nq + 1 + 1 + qf) = w4 at *
    have HK4H : Hid (KR w _ w4) := HK4
    go_cut [] (fun wx => ∃ l lv', KR w ((W.heap.size + 1, [.int .i64 0, .bool false, .int .i64 0]) :: (W.heap.size, [.int .i64 pe, .int .i64 (pn : Int), .int .i64 pb, .slice sp m c, .int .i64 ps]) :: (D, ncl { n with ep := pe, ld := false, l := M } lv') :: (l ++ rs)) wx ∧ EL (l ++ im) lv' M)
    case first =>
      by_cases hFm : F < m
      · have hFmi : (F : Int) < (m : Int) := by omega
        have HM2 : Hid (M = n.l.take (pn + F) ++ pl.drop F) := by have := HMM.out; rw [if_pos hFm] at this; exact this
        have hown : ∀ V, KR w ((W.heap.size + 1, [.int .i64 0, .bool false, .int .i64 0]) :: (W.heap.size, [.int .i64 pe, .int .i64 (pn : Int), .int .i64 pb, .slice sp m c, .int .i64 ps]) :: (D, ncl { n with ep := pe, ld := false } (.slice sl L cl)) :: rs) V → Calls Try.prog 31 #[.slice (sp.map (fun x => x.add (F * 2))) (m - F) (c - F)] V fun e W' => ∃ s1 c1 l, e = .returned (.slice s1 (m - F) c1) ∧ KR V l W' ∧ EL l (.slice s1 (m - F) c1) (pl.drop F) := fun V hV => (
          own_k (pl.drop F) (m - F) (by show _ = _; rw [List.length_drop, hm.out]) ⟨by omega, fun x hx => hz.out x ((List.drop_sublist _ _).subset hx)⟩ _ _ (elv_drop (HP2.out V hV) F)).mono (by
            rintro e W' ⟨v, l, rfl, h1, h2⟩
            obtain ⟨s1, c1, rfl, h3⟩ := el_form h2
            rw [List.length_drop, hm.out] at h2
            exact ⟨s1, c1, l, by rw [List.length_drop, hm.out], h1, h2⟩)
        have HOWN : Hid _ := hidI hown
        have HN : Hid (pn + F ≤ L ∧ L ≤ 4096 ∧ F < m ∧ m ≤ 4096) := by show _ ∧ _; omega
        have zd3 := kr_cell HK4 2 rfl 3 _ rfl
        have zp1 := kr_cell HK4 1 rfl 1 _ rfl
        have hs1 : ((pn + F : Nat) : Int) ≤ (L : Int) := by omega
        have hs2 : ((pn + F : Nat) : Int) ≤ (cl : Int) := by omega
        have hs3 : ¬ c = F := by omega
        have hs4 : ¬ (c : Int) - (F : Int) = 0 := by omega
        have hw1 : IntKind.i64.wrap ((pn : Int) + (F : Int)) = ((pn + F : Nat) : Int) := by rw [Go.IntWalk.i64_in _ (by omega)]; omega
        obtain ⟨G, hG⟩ : ∃ G, G = pn + F := ⟨_, rfl⟩
        rw [← hG] at hw1 hs1 hs2
        have HG : Hid (G = pn + F) := hG
        clear HK4 hown hG hFm
        go_wp2_with fail
        go_region_law (first | (go_simp; go_at_call 37; refine (HCC.out _ (kr_permA (kr_new HK5.out _ _) (perm3 _ _ _ _ _ _))).mono ?_; rintro e w7 ⟨v7, rfl, O7, H7⟩; obtain ⟨s7, c7, rfl⟩ := own_form O7; have q0 := kr_cell H7 0 rfl 3 _ rfl; have q1 := kr_frozen H7 0 rfl 3 (by show 3 < 6; omega)) | (go_simp; go_at_call 31; refine (HOWN.out _ (kr_drew HK4H.out)).mono ?_; rintro e w5 ⟨s1, c1, l1, rfl, HKo, HEo⟩; have HK5 : Hid (KR w _ w5) := kr_join (kr_drew HK4H.out) HKo; have zd5 := range_cell (kr_mem HK5.out (List.mem_append_right _ (List.mem_cons_of_mem _ (List.mem_cons_of_mem _ List.mem_cons_self)))) 3 _ rfl; have zp5 := range_cell (kr_mem HK5.out (List.mem_append_right _ (List.mem_cons_of_mem _ List.mem_cons_self))) 1 _ rfl; obtain ⟨us, hul, hf1, ho1, hsrc1⟩ := tk_src (kr_sub HK5.out (List.sublist_append_left _ _)) HEo hm.out; have HU : Hid (us.length = m - F ∧ (∀ (j : Nat) (u : Value) (x : SE), us[j]? = some u → (pl.drop F)[j]? = some x → FC l1 u x.2)) := ⟨hul, hf1⟩; have HCC : Hid _ := hidI (tk_cc (D := D) (dc := ncl { n with ep := pe, ld := false } (.slice sl L cl)) (b := w5.heap.size) (a := W.heap.size + 1) (t := W.heap.size) (ac := [.int .i64 0, .bool false, .int .i64 0]) (tc := [.int .i64 pe, .int .i64 (pn : Int), .int .i64 pb, .slice sp m c, .int .i64 ps]) (c1 := c1) HG.out HN.out HL.out hm.out HX.out hul ho1 hsrc1); clear hul hf1 ho1 hsrc1 HEo HKo))
        all_goals (go_wp2_with fail; go_meet; (have hTF := tk_fin HG.out HN.out HL.out hm.out HX.out.2.1 HU.out HFC.out H7 O7); rw [HM2.out, ← HG.out]; obtain ⟨l, h1, h2⟩ := hTF; exact ⟨l, _, h1, h2⟩)
      · have hFmi : ¬ (F : Int) < (m : Int) := by omega
        have hFm2 : decide (F < m) = false := by simpa using hFm
        have HM2 : Hid (M = n.l) := by have := HMM.out; rw [if_neg hFm] at this; exact this
        clear HK4
        go_wp2_with fail
        go_meet
        case rel => rw [HM2.out]; exact ⟨[], _, HK4H.out, HE0.out⟩
    case rest =>
      obtain ⟨l, lv', HK5, HE5⟩ := hcut
      clear HK4 HK4H
      obtain ⟨s5, c5, rfl, -⟩ := el_form HE5
      have HK5H : Hid (KR w _ wc) := HK5
      have HE5H : Hid (EL (l ++ im) _ M) := HE5
      have p1 := kr_cell HK5 1 rfl 1 _ rfl
      have p3 := kr_cell HK5 1 rfl 3 _ rfl
      have p4 := kr_cell HK5 1 rfl 4 _ rfl
      have d2 := kr_cell HK5 2 rfl 2 _ rfl
      have d4 := kr_cell HK5 2 rfl 4 _ rfl
      have g4 := kr_frozen HK5 2 rfl 4 (by show 4 < 6; omega)
      have a0 := kr_cell HK5 0 rfl 0 _ rfl
      have a1 := kr_cell HK5 0 rfl 1 _ rfl
      have a2 := kr_cell HK5 0 rfl 2 _ rfl
      have f0 := kr_frozen HK5 0 rfl 0 (by show 0 < 3; omega)
      have f1 := kr_frozen HK5 0 rfl 1 (by show 1 < 3; omega)
      have f2 := kr_frozen HK5 0 rfl 2 (by show 2 < 3; omega)
      have hD1 : ¬ D = W.heap.size + 1 := fun e => by have := (List.pairwise_cons.1 HK5.apart).1 (D, ncl { n with ep := pe, ld := false, l := M } (.slice s5 M.length c5)) (List.mem_cons_of_mem _ List.mem_cons_self); exact this e.symm
      have hD2 : ¬ W.heap.size + 1 = D := fun e => hD1 e.symm
      have hS4 : ((pn : Int) + (m : Int) < ps ∧ (n.safe : Int) < (pn : Int) + (m : Int) ∧ (SF : Int) = (pn : Int) + (m : Int)) ∨ ((pn : Int) + (m : Int) < ps ∧ ¬ (n.safe : Int) < (pn : Int) + (m : Int) ∧ (SF : Int) = (n.safe : Int)) ∨ (¬ (pn : Int) + (m : Int) < ps ∧ (n.safe : Int) < ps ∧ (SF : Int) = ps) ∨ (¬ (pn : Int) + (m : Int) < ps ∧ ¬ (n.safe : Int) < ps ∧ (SF : Int) = (n.safe : Int)) := sf_cases HSF.out hps0 (Int.natCast_nonneg pn)
      clear HK5 HE5
      rcases hS4 with ⟨c1, c2, c3⟩ | ⟨c1, c2, c3⟩ | ⟨c1, c2, c3⟩ | ⟨c1, c2, c3⟩
      · have C3 : Hid ((SF : Int) = ((pn : Int) + (m : Int))) := c3
        clear c3
        go_wp2_with fail
        go_region
        go_wp2_with fail
        have HZ : KR w ((W.heap.size + 1, [.int .i64 pe, .bool true, .int .i64 ((pn : Int) + (m : Int))]) :: (W.heap.size, [.int .i64 pe, .int .i64 (pn : Int), .int .i64 pb, .slice sp m c, .int .i64 ps]) :: (D, ncl { n with ep := pe, ld := false, l := M, safe := SF } (.slice s5 M.length c5)) :: (l ++ rs)) (((((wc.setCell ⟨D, 4, none⟩ (.int .i64 ((pn : Int) + (m : Int)))).setCell ⟨W.heap.size + 1, 0, none⟩ (.int .i64 pe)).setCell ⟨W.heap.size + 1, 1, none⟩ (.bool true)).setCell ⟨W.heap.size + 1, 2, none⟩ (.int .i64 ((pn : Int) + (m : Int)))).drew) := by
          have HZ0 := kr_drew (kr_fset (kr_fset (kr_fset (kr_fset HK5H.out 2 rfl 4 (by show 4 < 6; omega) (.int .i64 (SF : Int)) (ncl { n with ep := pe, ld := false, l := M, safe := SF } (.slice s5 M.length c5)) rfl) 0 rfl 0 (by show 0 < 3; omega) (.int .i64 pe) _ rfl) 0 rfl 1 (by show 1 < 3; omega) (.bool true) _ rfl) 0 rfl 2 (by show 2 < 3; omega) (.int .i64 ((pn : Int) + (m : Int))) _ rfl)
          simp only [List.set_cons_zero, List.set_cons_succ] at HZ0
          rw [C3.out] at HZ0
          exact HZ0
        generalize (((((wc.setCell ⟨D, 4, none⟩ (.int .i64 ((pn : Int) + (m : Int)))).setCell ⟨W.heap.size + 1, 0, none⟩ (.int .i64 pe)).setCell ⟨W.heap.size + 1, 1, none⟩ (.bool true)).setCell ⟨W.heap.size + 1, 2, none⟩ (.int .i64 ((pn : Int) + (m : Int)))).drew) = W9 at HZ ⊢
        have r0 := kr_cell HZ 0 rfl 0 _ rfl
        have r1 := kr_cell HZ 0 rfl 1 _ rfl
        have r2 := kr_cell HZ 0 rfl 2 _ rfl
        exact bodyPost_ret (v := .tuple #[.agg #[.int .i64 pe, .bool true, .int .i64 ((pn : Int) + (m : Int))], .int .i64 0]) (by simp [results, Try.results22, go_sem, r0, r1, r2]) rfl ⟨(W.heap.size + 1, _) :: (W.heap.size, _) :: l, _, rfl, kr_permA HZ (List.perm_middle (l₁ := [_, _])).symm, el_mono HE5H.out (fun x hx => List.mem_cons_of_mem _ (List.mem_cons_of_mem _ hx))⟩
      · have C3 : Hid ((SF : Int) = (n.safe : Int)) := c3
        clear c3
        go_wp2_with fail
        go_region
        go_wp2_with fail
        have HZ : KR w ((W.heap.size + 1, [.int .i64 pe, .bool true, .int .i64 ((pn : Int) + (m : Int))]) :: (W.heap.size, [.int .i64 pe, .int .i64 (pn : Int), .int .i64 pb, .slice sp m c, .int .i64 ps]) :: (D, ncl { n with ep := pe, ld := false, l := M, safe := SF } (.slice s5 M.length c5)) :: (l ++ rs)) (((((wc.setCell ⟨D, 4, none⟩ (.int .i64 (n.safe : Int))).setCell ⟨W.heap.size + 1, 0, none⟩ (.int .i64 pe)).setCell ⟨W.heap.size + 1, 1, none⟩ (.bool true)).setCell ⟨W.heap.size + 1, 2, none⟩ (.int .i64 ((pn : Int) + (m : Int)))).drew) := by
          have HZ0 := kr_drew (kr_fset (kr_fset (kr_fset (kr_fset HK5H.out 2 rfl 4 (by show 4 < 6; omega) (.int .i64 (SF : Int)) (ncl { n with ep := pe, ld := false, l := M, safe := SF } (.slice s5 M.length c5)) rfl) 0 rfl 0 (by show 0 < 3; omega) (.int .i64 pe) _ rfl) 0 rfl 1 (by show 1 < 3; omega) (.bool true) _ rfl) 0 rfl 2 (by show 2 < 3; omega) (.int .i64 ((pn : Int) + (m : Int))) _ rfl)
          simp only [List.set_cons_zero, List.set_cons_succ] at HZ0
          rw [C3.out] at HZ0
          exact HZ0
        generalize (((((wc.setCell ⟨D, 4, none⟩ (.int .i64 (n.safe : Int))).setCell ⟨W.heap.size + 1, 0, none⟩ (.int .i64 pe)).setCell ⟨W.heap.size + 1, 1, none⟩ (.bool true)).setCell ⟨W.heap.size + 1, 2, none⟩ (.int .i64 ((pn : Int) + (m : Int)))).drew) = W9 at HZ ⊢
        have r0 := kr_cell HZ 0 rfl 0 _ rfl
        have r1 := kr_cell HZ 0 rfl 1 _ rfl
        have r2 := kr_cell HZ 0 rfl 2 _ rfl
        exact bodyPost_ret (v := .tuple #[.agg #[.int .i64 pe, .bool true, .int .i64 ((pn : Int) + (m : Int))], .int .i64 0]) (by simp [results, Try.results22, go_sem, r0, r1, r2]) rfl ⟨(W.heap.size + 1, _) :: (W.heap.size, _) :: l, _, rfl, kr_permA HZ (List.perm_middle (l₁ := [_, _])).symm, el_mono HE5H.out (fun x hx => List.mem_cons_of_mem _ (List.mem_cons_of_mem _ hx))⟩
      · have C3 : Hid ((SF : Int) = ps) := c3
        clear c3
        go_wp2_with fail
        go_region
        go_wp2_with fail
        have HZ : KR w ((W.heap.size + 1, [.int .i64 pe, .bool true, .int .i64 ((pn : Int) + (m : Int))]) :: (W.heap.size, [.int .i64 pe, .int .i64 (pn : Int), .int .i64 pb, .slice sp m c, .int .i64 ps]) :: (D, ncl { n with ep := pe, ld := false, l := M, safe := SF } (.slice s5 M.length c5)) :: (l ++ rs)) (((((wc.setCell ⟨D, 4, none⟩ (.int .i64 ps)).setCell ⟨W.heap.size + 1, 0, none⟩ (.int .i64 pe)).setCell ⟨W.heap.size + 1, 1, none⟩ (.bool true)).setCell ⟨W.heap.size + 1, 2, none⟩ (.int .i64 ((pn : Int) + (m : Int)))).drew) := by
          have HZ0 := kr_drew (kr_fset (kr_fset (kr_fset (kr_fset HK5H.out 2 rfl 4 (by show 4 < 6; omega) (.int .i64 (SF : Int)) (ncl { n with ep := pe, ld := false, l := M, safe := SF } (.slice s5 M.length c5)) rfl) 0 rfl 0 (by show 0 < 3; omega) (.int .i64 pe) _ rfl) 0 rfl 1 (by show 1 < 3; omega) (.bool true) _ rfl) 0 rfl 2 (by show 2 < 3; omega) (.int .i64 ((pn : Int) + (m : Int))) _ rfl)
          simp only [List.set_cons_zero, List.set_cons_succ] at HZ0
          rw [C3.out] at HZ0
          exact HZ0
        generalize (((((wc.setCell ⟨D, 4, none⟩ (.int .i64 ps)).setCell ⟨W.heap.size + 1, 0, none⟩ (.int .i64 pe)).setCell ⟨W.heap.size + 1, 1, none⟩ (.bool true)).setCell ⟨W.heap.size + 1, 2, none⟩ (.int .i64 ((pn : Int) + (m : Int)))).drew) = W9 at HZ ⊢
        have r0 := kr_cell HZ 0 rfl 0 _ rfl
        have r1 := kr_cell HZ 0 rfl 1 _ rfl
        have r2 := kr_cell HZ 0 rfl 2 _ rfl
        exact bodyPost_ret (v := .tuple #[.agg #[.int .i64 pe, .bool true, .int .i64 ((pn : Int) + (m : Int))], .int .i64 0]) (by simp [results, Try.results22, go_sem, r0, r1, r2]) rfl ⟨(W.heap.size + 1, _) :: (W.heap.size, _) :: l, _, rfl, kr_permA HZ (List.perm_middle (l₁ := [_, _])).symm, el_mono HE5H.out (fun x hx => List.mem_cons_of_mem _ (List.mem_cons_of_mem _ hx))⟩
      · have C3 : Hid ((SF : Int) = (n.safe : Int)) := c3
        clear c3
        go_wp2_with fail
        go_region
        go_wp2_with fail
        have HZ : KR w ((W.heap.size + 1, [.int .i64 pe, .bool true, .int .i64 ((pn : Int) + (m : Int))]) :: (W.heap.size, [.int .i64 pe, .int .i64 (pn : Int), .int .i64 pb, .slice sp m c, .int .i64 ps]) :: (D, ncl { n with ep := pe, ld := false, l := M, safe := SF } (.slice s5 M.length c5)) :: (l ++ rs)) (((((wc.setCell ⟨D, 4, none⟩ (.int .i64 (n.safe : Int))).setCell ⟨W.heap.size + 1, 0, none⟩ (.int .i64 pe)).setCell ⟨W.heap.size + 1, 1, none⟩ (.bool true)).setCell ⟨W.heap.size + 1, 2, none⟩ (.int .i64 ((pn : Int) + (m : Int)))).drew) := by
          have HZ0 := kr_drew (kr_fset (kr_fset (kr_fset (kr_fset HK5H.out 2 rfl 4 (by show 4 < 6; omega) (.int .i64 (SF : Int)) (ncl { n with ep := pe, ld := false, l := M, safe := SF } (.slice s5 M.length c5)) rfl) 0 rfl 0 (by show 0 < 3; omega) (.int .i64 pe) _ rfl) 0 rfl 1 (by show 1 < 3; omega) (.bool true) _ rfl) 0 rfl 2 (by show 2 < 3; omega) (.int .i64 ((pn : Int) + (m : Int))) _ rfl)
          simp only [List.set_cons_zero, List.set_cons_succ] at HZ0
          rw [C3.out] at HZ0
          exact HZ0
        generalize (((((wc.setCell ⟨D, 4, none⟩ (.int .i64 (n.safe : Int))).setCell ⟨W.heap.size + 1, 0, none⟩ (.int .i64 pe)).setCell ⟨W.heap.size + 1, 1, none⟩ (.bool true)).setCell ⟨W.heap.size + 1, 2, none⟩ (.int .i64 ((pn : Int) + (m : Int)))).drew) = W9 at HZ ⊢
        have r0 := kr_cell HZ 0 rfl 0 _ rfl
        have r1 := kr_cell HZ 0 rfl 1 _ rfl
        have r2 := kr_cell HZ 0 rfl 2 _ rfl
        exact bodyPost_ret (v := .tuple #[.agg #[.int .i64 pe, .bool true, .int .i64 ((pn : Int) + (m : Int))], .int .i64 0]) (by simp [results, Try.results22, go_sem, r0, r1, r2]) rfl ⟨(W.heap.size + 1, _) :: (W.heap.size, _) :: l, _, rfl, kr_permA HZ (List.perm_middle (l₁ := [_, _])).symm, el_mono HE5H.out (fun x hx => List.mem_cons_of_mem _ (List.mem_cons_of_mem _ hx))⟩
end
end Go.Proofs.Ytofpkmfjigjlhaa.Own
