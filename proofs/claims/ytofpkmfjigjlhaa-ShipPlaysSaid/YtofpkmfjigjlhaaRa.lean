/- The reference's entries in new memory. No conditions beside those in each theorem. -/
import Derived.Test.YtofpkmfjigjlhaaTn
import Derived.Deep.RegionHeld3
import Derived.BigQuiet
namespace Go.Proofs.Ytofpkmfjigjlhaa.Own
open Go.RowKit
set_option linter.unusedSimpArgs false
set_option linter.unusedVariables false
theorem kr_joinS {w W W' : World} {rs l : List (Nat × List Value)} (h : KR w rs W) (h2 : KR W l W') : KR w (l ++ rs) W' := kr_join h h2
theorem own_later31 {w W W' : World} {rs l : List (Nat × List Value)} {e : TypeId} {size : Nat} {v : Value} {n : Nat} {xs : List Value} (h : Own w rs e size v n xs W) (h2 : KR W l W') : Own w (l ++ rs) e size v n xs W' := by
  have hlt : ∀ k, v.ownBlock = some k → k < W.heap.size := fun k hk => (h.1.lt k hk).2
  refine ⟨⟨h.1.1, ?_⟩, fun k hk p hp => ?_⟩
  · rcases h.1.2 with h0 | ⟨g, cap, cur, rfl, h1, hg, h3⟩
    · exact .inl h0
    · exact .inr ⟨g, cap, cur, rfl, h1, by rw [h2.below.block g (Array.getElem?_eq_some_iff.1 hg).1]; exact hg, h3⟩
  · rcases List.mem_append.1 hp with hp | hp
    · have h4 := (h2.rows p hp).1
      have h5 := hlt k hk
      omega
    · exact h.2 k hk p hp
set_option maxRecDepth 100000 in
set_option maxHeartbeats 2000000 in
theorem rlent_k {w : World} (ep : Int) (bs : List Int) (m : Nat) (hm : Hid (bs.length = m)) (h2 : m ≤ 140737488351232) (sj : Option Addr) (cj : Nat) (hS : Hid (SrcV w sj (bc bs))) :
    Calls Try.prog 55 #[.agg #[.int .i64 ep, .slice sj m cj]] w fun e W' => ∃ v l, e = .returned (.agg #[.int .i64 ep, v]) ∧ KR w l W' ∧ FC l v bs := by
  have K1 := kr_new (kr_refl w) [.int .i64 ep, .slice sj m cj] 43
  have K2 := kr_new K1 [.int .i64 0, .slice none 0 0] 43
  rw [World.size_alloc] at K2
  have H2 : Hid (m ≤ 140737488351232) := h2
  go_enter Try.func55, Try.ntmps55
  go_upto_region 2 with fail
  have K2 : KR w _ ((w.alloc (.cells #[.int .i64 ep, .slice sj m cj] 43)).alloc (.cells #[.int .i64 0, .slice none 0 0] 43)) := K2
  generalize ((w.alloc (.cells #[.int .i64 ep, .slice sj m cj] 43)).alloc (.cells #[.int .i64 0, .slice none 0 0] 43)) = V at *
  have c0 := kr_cell K2 1 rfl 0 _ rfl
  have c1 := kr_cell K2 1 rfl 1 _ rfl
  have r0 := kr_cell K2 0 rfl 0 _ rfl
  have r1 := kr_cell K2 0 rfl 1 _ rfl
  have f0 := kr_frozen K2 0 rfl 0 (by show 0 < 2; omega)
  have f1 := kr_frozen K2 0 rfl 1 (by show 1 < 2; omega)
  have HK2 : Hid (KR w _ V) := K2
  have HS2 : Hid (SrcV V sj (bc bs)) := srcV_keep hS.out K2.below
  clear K1 K2 h2
  clear r0 r1 f0 f1
  go_region_held3 (fun V => V.cell? ⟨w.heap.size, 0, none⟩ = some (.int .i64 ep) ∧ V.cell? ⟨w.heap.size, 1, none⟩ = some (.slice sj m cj)) (first | (with_reducible exact hS3) | (with_reducible exact hT3) | go_keep) ((refine step_appendK _ _ 41 5 (.int .u8 0) 1 1 (kr_drew HK2.out) (own_nilF _ _ _ _ _) sj m cj (bc bs) (srcV_keep HS2.out (bw_drew (Below.refl _ _))) (by rw [bc_len, hm.out, Nat.mul_one]) (bc_one _) (by have := H2.out; unfold maxLen; omega) (by have := H2.out; omega) Try.underlying41 u8_info rfl (by omega) rfl rfl (by rfl) (by rfl) ?_; intro v' W' O2 K3 hz; rw [Nat.zero_add] at O2; obtain ⟨s4, c4, rfl⟩ := own_form O2; have hS3 : W'.cell? ⟨w.heap.size, 0, none⟩ = some (.int .i64 ep) ∧ W'.cell? ⟨w.heap.size, 1, none⟩ = some (.slice sj m cj) := ⟨kr_cell K3 1 rfl 0 _ rfl, kr_cell K3 1 rfl 1 _ rfl⟩; have g0 := kr_cell K3 0 rfl 0 _ rfl; have g1 := kr_cell K3 0 rfl 1 _ rfl; have f0 := kr_frozen K3 0 rfl 0 (by show 0 < 2; omega); have f1 := kr_frozen K3 0 rfl 1 (by show 1 < 2; omega); have KF := kr_fset (kr_fset K3 0 rfl 0 (by show 0 < 2; omega) (.int .i64 ep) _ rfl) 0 rfl 1 (by show 1 < 2; omega) (.slice s4 m c4) _ rfl; have O3 := own_set (own_set O2 (List.mem_cons_self) 0 (.int .i64 ep)) (List.mem_cons_self) 1 (.slice s4 m c4); have hT3 : ((W'.setCell ⟨w.heap.size + 1, 0, none⟩ (.int .i64 ep)).setCell ⟨w.heap.size + 1, 1, none⟩ (.slice s4 m c4)).cell? ⟨w.heap.size, 0, none⟩ = some (.int .i64 ep) ∧ ((W'.setCell ⟨w.heap.size + 1, 0, none⟩ (.int .i64 ep)).setCell ⟨w.heap.size + 1, 1, none⟩ (.slice s4 m c4)).cell? ⟨w.heap.size, 1, none⟩ = some (.slice sj m cj) := ⟨kr_cell KF 1 rfl 0 _ rfl, kr_cell KF 1 rfl 1 _ rfl⟩; have z0 := kr_cell (kr_fset K3 0 rfl 0 (by show 0 < 2; omega) (.int .i64 ep) _ rfl) 0 rfl 0 _ rfl; have z1 := kr_cell KF 0 rfl 1 _ rfl; have OH : Hid (Own w _ _ _ _ _ _ _) := O3; have HH : Hid (KR w _ _) := KF; clear O2 K3 O3 KF hz))
  go_wp2_with fail
  refine bodyPost_ret (v := .agg #[.int .i64 ep, .slice s4 m c4]) (res_row (P := Try.prog) Try.results55 _ _ (w.heap.size + 1) [.int .i64 ep, .slice s4 m c4] _ rfl (kr_get HH.out 0 rfl) Try.underlying43 rfl (by kernel_rfl)) rfl ?_
  have hO := own_rows (rs' := [(w.heap.size + 1, [.int .i64 ep, .slice s4 m c4]), (w.heap.size, [.int .i64 ep, .slice sj m cj])]) OH.out (by simp)
  obtain ⟨l, HL, HC⟩ := own_settle HH.out hO
  refine ⟨_, l, rfl, kr_sub HL (List.sublist_append_left _ _), ?_⟩
  exact sc_fc hm.out HC
theorem ent_push {rows l0 : List (Nat × List Value)} {vals : List Value} {es : List SE} {u0 : Value} {x0 : SE} (HL : vals.length = es.length) (HF : ∀ (j : Nat) (u : Value) (x : SE), vals[j]? = some u → es[j]? = some x → FC rows u x.2) (H0 : FC l0 u0 x0.2) :
    ∀ (j : Nat) (u : Value) (x : SE), (vals ++ [u0])[j]? = some u → (es ++ [x0])[j]? = some x → FC (l0 ++ rows) u x.2 := by
  intro j u x hu hx
  by_cases hj : j < es.length
  · rw [List.getElem?_append_left (by omega)] at hu
    rw [List.getElem?_append_left hj] at hx
    exact fc_monoL (HF j u x hu hx) (fun p hp => List.mem_append_right _ hp)
  · rw [List.getElem?_append_right (by omega)] at hu hx
    have e : j - vals.length = 0 := by
      have := (List.getElem?_eq_some_iff.1 hu).1
      simp at this
      omega
    rw [e] at hu
    rw [← HL, e] at hx
    simp at hu hx
    rw [← hu, ← hx]
    exact fc_monoL H0 (fun p hp => List.mem_append_left _ hp)
/-- A list of entries in new memory, and what was appended to it. -/
structure RO (w W : World) (rows : List (Nat × List Value)) (v : Value) (es : List SE) (vals : List Value) : Prop where
  own : Own w rows 43 2 v es.length (ecl es vals) W
  kr : KR w rows W
  len : vals.length = es.length
  fc : ∀ (j : Nat) (u : Value) (x : SE), vals[j]? = some u → es[j]? = some x → FC rows u x.2
theorem ro_nil (w W : World) (rs : List (Nat × List Value)) (h : KR w rs W) : RO w W rs (.slice none 0 0) [] [] := ⟨own_nilF _ _ _ _ _, h, rfl, fun j u x h => by simp at h⟩
theorem ro_call {w W W' : World} {rows l : List (Nat × List Value)} {v : Value} {es : List SE} {vals : List Value} (h : RO w W rows v es vals) (hk : KR W l W') : RO w W' (l ++ rows) v es vals :=
  ⟨own_later31 h.own hk, kr_join h.kr hk, h.len, fun j u x hu hx => fc_monoL (h.fc j u x hu hx) (fun p hp => List.mem_append_right _ hp)⟩
theorem ro_end {w W : World} {rows : List (Nat × List Value)} {v : Value} {es : List SE} {vals : List Value} (h : RO w W rows v es vals) : ∃ l, KR w (l ++ rows) W ∧ EL (l ++ rows) v es := by
  obtain ⟨l, HL, HC⟩ := own_settle h.kr h.own
  exact ⟨l, HL, vals, h.len, sc_mono HC (fun p hp => List.mem_append_left _ hp), fun j u x hu hx => fc_monoL (h.fc j u x hu hx) (fun p hp => List.mem_append_right _ hp)⟩
theorem ro_form {w W : World} {rows : List (Nat × List Value)} {v : Value} {es : List SE} {vals : List Value} (h : RO w W rows v es vals) : ∃ s c, v = .slice s es.length c := own_form h.own
set_option maxRecDepth 100000 in
set_option maxHeartbeats 2000000 in
theorem rLent_k {w : World} (es : List SE) (n : Nat) (hn : Hid (es.length = n)) (hz : Hid (Sized n es)) (sp : Option Addr) (c : Nat) (hE : Hid (ELV w sp es)) :
    Calls Try.prog 54 #[.slice sp n c] w fun e W' => ∃ s c' rows vals, e = .returned (.slice s n c') ∧ RO w W' rows (.slice s n c') es vals := by
  have h2i : (n : Int) ≤ 100000 := by have := hz.out.1; omega
  go_enter Try.func54, Try.ntmps54
  go_wp2
  go_loopw [3, 4] (fun v3 v4 W => ∃ (i : Nat) (rows : List (Nat × List Value)) (vals : List Value), v4 = .int .i64 (i : Int) ∧ i ≤ n ∧ RO w W rows v3 (es.take i) vals) (fun v3 v4 _ => n - (intOf v4).toNat)
  case atStart => exact ⟨0, [], [], rfl, Nat.zero_le _, by rw [List.take_zero]; exact ro_nil _ _ _ (kr_refl _)⟩
  case round =>
    obtain ⟨i, rows, vals, rfl, hi, HR⟩ := hrel
    obtain ⟨s3, c3, rfl⟩ := ro_form HR
    have HR : Hid (RO w wr rows _ (es.take i) vals) := HR
    have hti : (es.take i).length = i := by rw [List.length_take, hn.out]; omega
    rw [hti] at HR ⊢
    by_cases hlt : i < n
    · have hii : (i : Int) < (n : Int) := by omega
      obtain ⟨A, rfl, hc⟩ := hE.out (by rw [hn.out]; omega)
      have hg : es[i]? = some (es[i]'(by rw [hn.out]; exact hlt)) := List.getElem?_eq_getElem (by rw [hn.out]; exact hlt)
      obtain ⟨sj, cj, a0, a1, a2, a3⟩ := hc i _ hg
      have hxl := hz.out.2 _ (List.mem_of_getElem? hg)
      have HTK : Hid (es.take (i + 1) = es.take i ++ [es[i]'(by rw [hn.out]; exact hlt)]) := by show _ = _; rw [List.take_add_one, hg]; rfl
      generalize es[i]'(by rw [hn.out]; exact hlt) = x at a0 a1 a2 a3 HTK hxl
      have a0 := kr_old HR.out.kr a0
      have a1 := kr_old HR.out.kr a1
      obtain ⟨m, hm⟩ : ∃ m, x.2.length = m := ⟨_, rfl⟩
      rw [hm] at a1 hxl
      have hl := rlent_k (w := wr) x.1 x.2 m hm hxl sj cj (srcV_keep a3 HR.out.kr.below)
      have HLT : Hid (i < n) := hlt
      have HTI : Hid ((es.take i).length = i) := hti
      clear hc hg a2 a3 hxl hm hlt hti
      go_wp2_with (first | (go_at_call 55; refine hl.mono ?_; rintro e w1 ⟨v1, l1, rfl, K1, F1⟩; obtain ⟨sv, cv, rfl, hcv⟩ := fc_form F1; have R1 := ro_call HR.out K1; have F1 : Hid (FC l1 _ x.2) := F1; have R1 : Hid (RO w w1 _ _ _ _) := R1; clear K1 hcv) | (at_builtin; refine wl_appendK _ _ 25 43 (.agg #[.int .i64 0, .slice none 0 0]) 2 32 (kr_alloc R1.out.kr _) (own_alloc R1.out.own _) _ 1 1 [.int .i64 x.1, .slice sv x.2.length cv] (srcV_build _ _) rfl (by intro v hv; rcases List.mem_cons.1 hv with rfl | hv; rfl; rw [List.mem_singleton.1 hv]; rfl) (by rw [HTI.out]; have := HLT.out; unfold maxLen; omega) (by rw [HTI.out]; have := HLT.out; omega) Try.underlying25 rent_info rfl (by omega) rfl rfl (by rfl) (by rfl) (fun v' W' O2 H2 hz => ?_)))
      refine ⟨⟨i + 1, l1 ++ rows, vals ++ [.slice sv x.2.length cv], by go_num, HLT.out, ?_⟩, ?_⟩
      · rw [HTK.out]
        exact ⟨by rw [List.length_append, ecl_app _ _ _ _ R1.out.len]; exact O2, H2, by rw [List.length_append, List.length_append, R1.out.len]; rfl, ent_push HR.out.len HR.out.fc F1.out⟩
      · have := HLT.out; (simp [intOf]; try omega)
    · obtain rfl : i = n := by omega
      clear hi hti
      go_wp2_with fail
      go_ret
      exact ⟨_, _, rows, vals, rfl, by have := HR.out; rwa [List.take_of_length_le (by rw [hn.out]; exact Nat.le_refl _)] at this⟩
end Go.Proofs.Ytofpkmfjigjlhaa.Own
