/- A letter is lost, in memory. No conditions beside those in each theorem. -/
import Derived.Test.YtofpkmfjigjlhaaPl31
namespace Go.Proofs.Ytofpkmfjigjlhaa.Own
open Go.RowKit
set_option linter.unusedSimpArgs false
set_option linter.unusedVariables false
theorem own_ws {w W : World} {rs : List (Nat × List Value)} (HK : KR w rs W) {e : TypeId} {size : Nat} {v : Value} {n : Nat} {xs : List Value} (h : Own w rs e size v n xs W) : ∃ wx, KR w (wx ++ rs) W ∧ WS wx size v n xs := by
  rcases h.1.2 with ⟨rfl, rfl⟩ | ⟨g, cap, cur, rfl, hb, hg, hn, hm, hs, ht⟩
  · exact ⟨[], HK, .inl ⟨rfl, rfl, List.eq_nil_of_length_eq_zero (by simpa using h.1.1), rfl⟩⟩
  · have hlt : g < W.heap.size := (Array.getElem?_eq_some_iff.1 hg).1
    refine ⟨[(g, cur.toList)], ⟨HK.below, fun p hp => ?_, ?_⟩, .inr ⟨g, cap, cur.toList, rfl, rfl, hn, hm, by rw [Array.length_toList, hs], ht⟩⟩
    · rcases List.mem_cons.1 hp with rfl | hp
      · refine ⟨hb, hlt, fun j v hv => ?_, fun j hj => ⟨?_, ?_⟩⟩
        · rw [Nat.zero_add, cell_of_row _ _ j _ _ _ hg]; simpa using hv
        · rw [Nat.zero_add, cell_of_row _ _ j _ _ _ hg]
          have : j < cur.size := by simpa using hj
          simp [this]
        · unfold World.frozen?
          simp [hg]
      · exact HK.rows p hp
    · exact List.Pairwise.cons (fun q hq e => h.2 g rfl q hq e.symm) HK.apart
theorem srcV_take {W : World} {sp : Option Addr} {cs : List Value} (h : SrcV W sp cs) (m : Nat) : SrcV W sp (cs.take m) := fun h0 => by
  obtain ⟨A, hA, hc⟩ := h (by rw [List.length_take] at h0; omega)
  refine ⟨A, hA, fun j v hv => hc j v ?_⟩
  rw [List.getElem?_take] at hv
  split at hv
  · exact hv
  · cases hv
theorem srcV_drop {W : World} {b : Nat} {cs : List Value} (h : SrcV W (some ⟨b, 0, none⟩) cs) (m : Nat) : SrcV W (some ⟨b, m, none⟩) (cs.drop m) := fun h0 => by
  obtain ⟨A, hA, hc⟩ := h (by rw [List.length_drop] at h0; omega)
  injection hA with hA
  subst hA
  refine ⟨_, rfl, fun j v hv => ?_⟩
  rw [Addr.add_mid]
  rw [List.getElem?_drop] at hv
  have := hc _ v hv
  rw [Addr.add_mid, Nat.zero_add] at this
  exact this
theorem wcl_one (way : List SL) (us : List Value) (h : ∀ u ∈ us, u.oneCell' = true) : ∀ v ∈ (wcl way us).flatten, v.oneCell' = true := by
  intro v hv
  obtain ⟨l, hl, hvl⟩ := List.mem_flatten.1 hv
  unfold wcl at hl
  obtain ⟨i, hi, rfl⟩ := List.mem_iff_getElem.1 hl
  simp only [List.getElem_zipWith] at hvl
  exact lc1_one _ (h _ (List.getElem_mem _)) v hvl
theorem lose_get {α : Type} (l : List α) (i j : Nat) (x : α) (h : (l.take i ++ l.drop (i + 1))[j]? = some x) (hi : i < l.length) : l[if j < i then j else j + 1]? = some x := by
  rw [List.getElem?_append, List.length_take, Nat.min_eq_left (Nat.le_of_lt hi)] at h
  by_cases hj : j < i
  · rw [if_pos hj] at h ⊢
    rw [List.getElem?_take, if_pos hj] at h
    exact h
  · rw [if_neg hj] at h ⊢
    rw [List.getElem?_drop] at h
    rw [← h]; congr 1; omega
section
variable {w W : World} {P A : Nat} {D : Bool → Nat} {p : PY} {im : List (Nat × List Value)} {lv : Bool → Value} {wv : Value} {wx : List (Nat × List Value)} {us : List Value}
theorem pl_lose {i : Nat} {v' : Value} {W' : World} (H : PL w W P A D p [] im lv wv wx us) (hi : i < p.way.length)
    (HK : KR w ((D false, ncl (p.n false) (lv false)) :: (D true, ncl (p.n true) (lv true)) :: (([] ++ (P, [.slice (some ⟨A, 0, none⟩) 2 2, wv, .int .i64 p.k]) :: (A, [.pointer (some ⟨D false, 0, none⟩), .pointer (some ⟨D true, 0, none⟩)]) :: wx) ++ im)) W')
    (O : Own w ((D false, ncl (p.n false) (lv false)) :: (D true, ncl (p.n true) (lv true)) :: (([] ++ (P, [.slice (some ⟨A, 0, none⟩) 2 2, wv, .int .i64 p.k]) :: (A, [.pointer (some ⟨D false, 0, none⟩), .pointer (some ⟨D true, 0, none⟩)]) :: wx) ++ im)) 80 10 v' (i + (p.way.length - (i + 1))) ((wcl p.way us).flatten.take (i * 10) ++ (wcl p.way us).flatten.drop ((i + 1) * 10)) W') :
    PLE w (W'.setCell ⟨P, 1, none⟩ v') P A D (pyLose p i) im := by
  obtain ⟨wx', HK2, hw⟩ := own_ws HK O
  have HK3 : KR w (wx' ++ ((D false, ncl (p.n false) (lv false)) :: (D true, ncl (p.n true) (lv true)) :: ([(P, [.slice (some ⟨A, 0, none⟩) 2 2, wv, .int .i64 p.k]), (A, [.pointer (some ⟨D false, 0, none⟩), .pointer (some ⟨D true, 0, none⟩)])] ++ im))) W' := by
    refine kr_sub HK2 (List.Sublist.append (List.Sublist.refl _) ?_)
    refine List.Sublist.cons_cons _ (List.Sublist.cons_cons _ (List.Sublist.cons_cons _ (List.Sublist.cons_cons _ ?_)))
    exact List.sublist_append_right _ _
  have P6 : PX w W' D p.n ([(P, [.slice (some ⟨A, 0, none⟩) 2 2, wv, .int .i64 p.k]), (A, [.pointer (some ⟨D false, 0, none⟩), .pointer (some ⟨D true, 0, none⟩)])] ++ wx') im lv := ⟨kr_permA HK3 (perm_wx _ _ _ _ _).symm, H.px.el, H.px.nb⟩
  refine ⟨im, lv, v', wx', us.take i ++ us.drop (i + 1), fun q hq => hq, ⟨kr_fset P6.kr 2 rfl 1 (by simp) v' _ rfl, P6.el, P6.nb⟩, ?_, ?_, ?_, ?_⟩
  · have h1 : wcl (p.way.take i ++ p.way.drop (i + 1)) (us.take i ++ us.drop (i + 1)) = (wcl p.way us).take i ++ (wcl p.way us).drop (i + 1) := by
      unfold wcl
      rw [List.zipWith_append (by rw [List.length_take, List.length_take, H.ul]), List.take_zipWith, List.drop_zipWith]
    show WS wx' 10 v' (p.way.take i ++ p.way.drop (i + 1)).length (wcl (p.way.take i ++ p.way.drop (i + 1)) (us.take i ++ us.drop (i + 1))).flatten
    rw [h1, List.flatten_append, ← fl_take (wcl_same _ _), ← fl_drop (wcl_same _ _), List.length_append, List.length_take, List.length_drop, Nat.min_eq_left (Nat.le_of_lt hi)]
    exact hw
  · show (us.take i ++ us.drop (i + 1)).length = (p.way.take i ++ p.way.drop (i + 1)).length
    simp [H.ul]
  · intro j u x hu hx
    have hx : (p.way.take i ++ p.way.drop (i + 1))[j]? = some x := hx
    exact H.ue _ u x (lose_get us i j u hu (by rw [H.ul]; exact hi)) (lose_get p.way i j x hx hi)
  · show (p.way.take i ++ p.way.drop (i + 1)).length ≤ 60
    have := H.wl
    simp only [List.length_append, List.length_take, List.length_drop]
    omega
set_option maxRecDepth 100000 in
set_option maxHeartbeats 4000000 in
/-- The letter at a place is lost. -/
theorem lose_k (h : PL w W P A D p [] im lv wv wx us) (i : Nat) (hi : i < p.way.length) :
    Calls Try.prog 30 #[.pointer (some ⟨P, 0, none⟩), .int .i64 (i : Int)] W fun e W' => e = .returned (.tuple #[]) ∧ PLE w W' P A D (pyLose p i) im := by
  obtain ⟨x, hx⟩ : ∃ x, p.way[i]? = some x := ⟨_, List.getElem?_eq_getElem hi⟩
  obtain ⟨b, c, s, k, rfl, hc, hu, hcell⟩ := pl_at h hx
  have hwl := h.wl
  have hii : (i : Int) < (p.way.length : Int) := by omega
  have hi6 : (i : Int) ≤ 60 := by omega
  have hus : ∀ u ∈ us, u.oneCell' = true := by
    intro u hu
    obtain ⟨j, hj, rfl⟩ := List.mem_iff_getElem.1 hu
    obtain ⟨y, hy⟩ : ∃ y, p.way[j]? = some y := ⟨_, List.getElem?_eq_getElem (by rw [← h.ul]; exact hj)⟩
    obtain ⟨s', k', he, _⟩ := el_form (h.ue j _ y (List.getElem?_eq_getElem hj) hy).1
    rw [he]; rfl
  have hone : ∀ m, (∀ v ∈ (wcl p.way us).flatten.take m, v.oneCell' = true) ∧ (∀ v ∈ (wcl p.way us).flatten.drop m, v.oneCell' = true) := fun m => ⟨fun v hv => wcl_one _ _ hus v (List.mem_of_mem_take hv), fun v hv => wcl_one _ _ hus v (List.mem_of_mem_drop hv)⟩
  have HS : Hid (∀ V, KR w ((D false, ncl (p.n false) (lv false)) :: (D true, ncl (p.n true) (lv true)) :: (([] ++ (P, [.slice (some ⟨A, 0, none⟩) 2 2, .slice (some ⟨b, 0, none⟩) p.way.length c, .int .i64 p.k]) :: (A, [.pointer (some ⟨D false, 0, none⟩), .pointer (some ⟨D true, 0, none⟩)]) :: wx) ++ im)) V → SrcV V (some ⟨b, 0, none⟩) (wcl p.way us).flatten) := fun V hV => ws_src h.ws (kr_tail (kr_tail hV)) (fun q hq => List.mem_append_left _ (List.mem_cons_of_mem _ (List.mem_cons_of_mem _ hq)))
  have HLW : Hid ((wcl p.way us).flatten.length = p.way.length * 10) := ws_len h.ws
  have HO : Hid _ := hone
  have p1 := kr_cell h.px.kr 2 rfl 1 _ rfl
  have K0 : Hid (KR w _ W) := h.px.kr
  have H : Hid (PL w W P A D p [] im lv _ wx us) := h
  have S1 : SrcV W (some ⟨b, 0, none⟩) ((wcl p.way us).flatten.take (i * 10)) := srcV_take (HS.out W K0.out) _
  have S1 : Hid (SrcV _ _ _) := S1
  have L1 : Hid (((wcl p.way us).flatten.take (i * 10)).length = i * 10) := by
    show List.length _ = _
    rw [List.length_take, HLW.out]; omega
  have L2 : Hid (((wcl p.way us).flatten.drop ((i + 1) * 10)).length = (p.way.length - (i + 1)) * 10) := by
    show List.length _ = _
    rw [List.length_drop, HLW.out, Nat.sub_mul]
  have HI : Hid (i < p.way.length) := hi
  have HN : Hid (p.way.length ≤ 60) := hwl
  generalize hLn : p.way.length = n at *
  have HLn : Hid (p.way.length = n) := hLn
  have T1 : Hid True := trivial
  clear h hcell hx hu hus hone HLW hLn
  rcases Nat.lt_or_ge (i + 1) c with hlt | hge
  · have hlt' : ((i : Int) + 1) < (c : Int) := by omega
    go_enter Try.func30, Try.ntmps30
    go_wp2_with (first | (at_builtin; clear T1; refine wl_appendK _ _ 33 80 (.agg #[.int .i64 0, .bool false, .int .i64 0, .int .i64 0, .int .i64 0, .slice none 0 0, .int .i64 0, .int .i64 0, .bool false, .int .i64 0]) 10 96 K0.out (own_nil w W _ 80 10) (some ⟨b, 0, none⟩) i c _ S1.out L1.out (HO.out _).1 (by have := HI.out; have := HN.out; unfold maxLen; omega) (by have := HI.out; have := HN.out; omega) Try.underlying33 ltr_info rfl (by omega) rfl rfl (by rfl) (by rfl) (fun v' W' O3 H3 hz => ?_); rw [Nat.zero_add, List.nil_append] at O3; obtain ⟨s3, c3, rfl⟩ := own_form O3; have q1 := kr_cell H3 2 rfl 1 _ rfl; have O3 : Hid (Own w _ _ _ _ _ _ W') := O3; have H3 : Hid (KR w _ W') := H3) | (at_builtin; refine wl_appendK _ _ 33 80 (.agg #[.int .i64 0, .bool false, .int .i64 0, .int .i64 0, .int .i64 0, .slice none 0 0, .int .i64 0, .int .i64 0, .bool false, .int .i64 0]) 10 96 H3.out O3.out (some ⟨b, (i + 1) * 10, none⟩) (n - (i + 1)) (c - (i + 1)) _ (srcV_drop (HS.out _ H3.out) _) L2.out (HO.out _).2 (by have := HI.out; have := HN.out; unfold maxLen; omega) (by have := HI.out; have := HN.out; omega) Try.underlying33 ltr_info rfl (by omega) rfl rfl (by rfl) (by rfl) (fun v' W' O4 H4 hz4 => ?_); obtain ⟨s4, c4, rfl⟩ := own_form O4; have r1 := kr_cell H4 2 rfl 1 _ rfl; have r2 := kr_frozen H4 2 rfl 1 (by show 1 < 3; omega); have O4 : Hid (Own w _ _ _ _ _ _ W') := O4; have H4 : Hid (KR w _ W') := H4))
    refine bodyPost_end (results_none rfl _ _ _) rfl ⟨rfl, ?_⟩
    have hL := HLn.out
    subst hL
    exact pl_lose H.out hi H4.out O4.out
  · have hn1 : n = i + 1 := by omega
    subst hn1
    have hc1 : c = i + 1 := by omega
    subst hc1
    have S2 : ∀ V, SrcV V (some ⟨b, 0, none⟩) ((wcl p.way us).flatten.drop ((i + 1) * 10)) := fun V h0 => by
      have := L2.out
      rw [Nat.sub_self, Nat.zero_mul] at this
      omega
    have S2 : Hid (∀ V, SrcV V (some ⟨b, 0, none⟩) ((wcl p.way us).flatten.drop ((i + 1) * 10))) := S2
    have L3 : Hid (((wcl p.way us).flatten.drop ((i + 1) * 10)).length = 0 * 10) := by have := L2.out; rwa [Nat.sub_self] at this
    go_enter Try.func30, Try.ntmps30
    go_wp2_with (first | (at_builtin; clear T1; refine wl_appendK _ _ 33 80 (.agg #[.int .i64 0, .bool false, .int .i64 0, .int .i64 0, .int .i64 0, .slice none 0 0, .int .i64 0, .int .i64 0, .bool false, .int .i64 0]) 10 96 K0.out (own_nil w W _ 80 10) (some ⟨b, 0, none⟩) i (i + 1) _ S1.out L1.out (HO.out _).1 (by have := HI.out; have := HN.out; unfold maxLen; omega) (by have := HI.out; have := HN.out; omega) Try.underlying33 ltr_info rfl (by omega) rfl rfl (by rfl) (by rfl) (fun v' W' O3 H3 hz => ?_); rw [Nat.zero_add, List.nil_append] at O3; obtain ⟨s3, c3, rfl⟩ := own_form O3; have q1 := kr_cell H3 2 rfl 1 _ rfl; have O3 : Hid (Own w _ _ _ _ _ _ W') := O3; have H3 : Hid (KR w _ W') := H3) | (at_builtin; refine wl_appendK _ _ 33 80 (.agg #[.int .i64 0, .bool false, .int .i64 0, .int .i64 0, .int .i64 0, .slice none 0 0, .int .i64 0, .int .i64 0, .bool false, .int .i64 0]) 10 96 H3.out O3.out (some ⟨b, 0, none⟩) 0 0 _ (S2.out _) L3.out (HO.out _).2 (by have := HI.out; have := HN.out; unfold maxLen; omega) (by have := HI.out; have := HN.out; omega) Try.underlying33 ltr_info rfl (by omega) rfl rfl (by rfl) (by rfl) (fun v' W' O4 H4 hz4 => ?_); obtain ⟨s4, c4, rfl⟩ := own_form O4; have r1 := kr_cell H4 2 rfl 1 _ rfl; have r2 := kr_frozen H4 2 rfl 1 (by show 1 < 3; omega); have O4 : Hid (Own w _ _ _ _ _ _ W') := O4; have H4 : Hid (KR w _ W') := H4))
    refine bodyPost_end (results_none rfl _ _ _) rfl ⟨rfl, ?_⟩
    have hL := HLn.out
    refine pl_lose H.out (by omega) H4.out ?_
    rw [show i + (p.way.length - (i + 1)) = i by omega]
    exact O4.out
end
end Go.Proofs.Ytofpkmfjigjlhaa.Own
