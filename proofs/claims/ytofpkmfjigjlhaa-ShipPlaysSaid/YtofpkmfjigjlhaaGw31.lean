/- dayshiftlaw31's part, sent, same. No conditions beside those in each theorem. -/
import Derived.Test.YtofpkmfjigjlhaaGv31
namespace Go.Proofs.Ytofpkmfjigjlhaa.Own
open Go.RowKit
set_option linter.unusedSimpArgs false
set_option linter.unusedVariables false
/-- A part's five cells. -/
abbrev pc (p : SP) (v : Value) : List Value := [.int .i64 p.ep, .int .i64 p.at_, .int .i64 p.bf, v, .int .i64 p.safe]
abbrev C5 (b : Nat) (p : SP) (v : Value) (V : World) : Prop := V.cell? ⟨b, 0, none⟩ = some (.int .i64 p.ep) ∧ V.cell? ⟨b, 1, none⟩ = some (.int .i64 p.at_) ∧ V.cell? ⟨b, 2, none⟩ = some (.int .i64 p.bf) ∧ V.cell? ⟨b, 3, none⟩ = some v ∧ V.cell? ⟨b, 4, none⟩ = some (.int .i64 p.safe)
theorem c5_of {w V : World} {rs : List (Nat × List Value)} (h : KR w rs V) {b : Nat} {p : SP} {v : Value} (hm : (b, pc p v) ∈ rs) : C5 b p v V :=
  ⟨range_cell (kr_mem h hm) 0 _ rfl, range_cell (kr_mem h hm) 1 _ rfl, range_cell (kr_mem h hm) 2 _ rfl, range_cell (kr_mem h hm) 3 _ rfl, range_cell (kr_mem h hm) 4 _ rfl⟩
theorem t5_set {w V : World} {rs : List (Nat × List Value)} {t : Nat} {z : List Value} (h : KR w ((t, z) :: rs) V) (hz : z.length = 5) (p : SP) (v : Value) : KR w ((t, pc p v) :: rs) (((((V.setCell ⟨t, 0, none⟩ (.int .i64 p.ep)).setCell ⟨t, 1, none⟩ (.int .i64 p.at_)).setCell ⟨t, 2, none⟩ (.int .i64 p.bf)).setCell ⟨t, 3, none⟩ v).setCell ⟨t, 4, none⟩ (.int .i64 p.safe)) := by
  match z, hz with
  | [a, b, c, d, e], _ => exact kr_fset (kr_fset (kr_fset (kr_fset (kr_fset h 0 rfl 0 (by show 0 < 5; omega) _ _ rfl) 0 rfl 1 (by show 1 < 5; omega) _ _ rfl) 0 rfl 2 (by show 2 < 5; omega) _ _ rfl) 0 rfl 3 (by show 3 < 5; omega) _ _ rfl) 0 rfl 4 (by show 4 < 5; omega) _ _ rfl
set_option maxRecDepth 100000 in
set_option maxHeartbeats 4000000 in
theorem part_k {w : World} (p : SP) (m : Nat) (hm : Hid (p.l.length = m)) (h2 : m ≤ 100000) (hz : Hid (∀ x ∈ p.l, x.2.length ≤ 140737488351232)) (sp : Option Addr) (c : Nat) (hE : Hid (ELV w sp p.l)) :
    Calls Try.prog 48 #[.agg #[.int .i64 p.ep, .int .i64 p.at_, .int .i64 p.bf, .slice sp m c, .int .i64 p.safe]] w fun e W' => ∃ s c' l, e = .returned (.agg #[.int .i64 p.ep, .int .i64 p.at_, .int .i64 p.bf, .slice s m c', .int .i64 p.safe]) ∧ KR w l W' ∧ EL l (.slice s m c') p.l := by
  have K2 := kr_new (kr_new (kr_refl w) (pc p (.slice sp m c)) 69) [.int .i64 0, .int .i64 0, .int .i64 0, .slice none 0 0, .int .i64 0] 53
  rw [World.size_alloc] at K2
  have hcall : ∀ V, KR w [(w.heap.size + 1, [.int .i64 0, .int .i64 0, .int .i64 0, .slice none 0 0, .int .i64 0]), (w.heap.size, pc p (.slice sp m c))] V → Calls Try.prog 57 #[.slice sp m c] V fun e W' => ∃ s c' l, e = .returned (.slice s m c') ∧ KR V l W' ∧ EL l (.slice s m c') p.l := fun V hV => given_k (w := V) p.l m hm h2 hz sp c (elv_keep hE.out hV.below)
  have HCALL : Hid _ := hidI hcall
  clear hcall
  go_enter Try.func48, Try.ntmps48
  go_upto_region 1 with fail
  have K2 : KR w _ ((w.alloc (.cells #[.int .i64 p.ep, .int .i64 p.at_, .int .i64 p.bf, .slice sp m c, .int .i64 p.safe] 69)).alloc (.cells #[.int .i64 0, .int .i64 0, .int .i64 0, .slice none 0 0, .int .i64 0] 53)) := K2
  generalize ((w.alloc (.cells #[.int .i64 p.ep, .int .i64 p.at_, .int .i64 p.bf, .slice sp m c, .int .i64 p.safe] 69)).alloc (.cells #[.int .i64 0, .int .i64 0, .int .i64 0, .slice none 0 0, .int .i64 0] 53)) = V at *
  have hS0 := c5_of (p := p) (v := .slice sp m c) K2 (List.mem_cons_of_mem _ List.mem_cons_self)
  obtain ⟨c0, c1, c2, c3, c4⟩ := hS0
  have HK2 : Hid (KR w _ V) := K2
  clear K2 h2
  go_region_held3 (fun V => V.cell? ⟨w.heap.size, 0, none⟩ = some (.int .i64 p.ep) ∧ V.cell? ⟨w.heap.size, 1, none⟩ = some (.int .i64 p.at_) ∧ V.cell? ⟨w.heap.size, 2, none⟩ = some (.int .i64 p.bf) ∧ V.cell? ⟨w.heap.size, 3, none⟩ = some (.slice sp m c) ∧ V.cell? ⟨w.heap.size, 4, none⟩ = some (.int .i64 p.safe)) (first | (with_reducible exact hS3) | (with_reducible exact hS4) | go_keep) ((go_at_call 57; refine (HCALL.out _ (kr_drew HK2.out)).mono ?_; rintro e w3 ⟨s3, x3, l3, rfl, K3, E3⟩; have K4 := kr_permA (kr_join (kr_drew HK2.out) K3) (List.perm_middle (l₁ := l3)).symm; have hS3 := c5_of (p := p) (v := .slice sp m c) K4 (List.mem_cons_of_mem _ (List.mem_append_right _ List.mem_cons_self)); have t0 := kr_cell K4 0 rfl 0 _ rfl; have t1 := kr_cell K4 0 rfl 1 _ rfl; have t2 := kr_cell K4 0 rfl 2 _ rfl; have t3 := kr_cell K4 0 rfl 3 _ rfl; have t4 := kr_cell K4 0 rfl 4 _ rfl; have f0 := kr_frozen K4 0 rfl 0 (by show 0 < 5; omega); have f1 := kr_frozen K4 0 rfl 1 (by show 1 < 5; omega); have f2 := kr_frozen K4 0 rfl 2 (by show 2 < 5; omega); have f3 := kr_frozen K4 0 rfl 3 (by show 3 < 5; omega); have f4 := kr_frozen K4 0 rfl 4 (by show 4 < 5; omega); have KF := t5_set K4 rfl p (.slice s3 m x3); have hS4 := c5_of (p := p) (v := .slice sp m c) KF (List.mem_cons_of_mem _ (List.mem_append_right _ List.mem_cons_self)); have HF : Hid (KR w _ _ ∧ EL l3 (.slice s3 m x3) p.l) := ⟨KF, E3⟩; clear K3 K4 KF E3))
  all_goals
    go_wp2_with fail
    refine bodyPost_ret (v := .agg #[.int .i64 p.ep, .int .i64 p.at_, .int .i64 p.bf, .slice s3 m x3, .int .i64 p.safe]) (res_row (P := Try.prog) Try.results48 _ _ (w.heap.size + 1) (pc p (.slice s3 m x3)) _ rfl (kr_get HF.out.1 0 rfl) Try.underlying53 rfl (by kernel_rfl)) rfl ?_
    exact ⟨s3, x3, l3, rfl, kr_sub (kr_tail HF.out.1) (List.sublist_append_left _ _), HF.out.2⟩
set_option maxRecDepth 100000 in
set_option maxHeartbeats 4000000 in
theorem sent_k {w W : World} {rs im : List (Nat × List Value)} (HK : KR w rs W) (hs : ∀ q ∈ im, q ∈ rs) (p : SP) (m : Nat) (hm : Hid (p.l.length = m)) (h2 : m ≤ 100000) (sp : Option Addr) (c : Nat) (hE : Hid (EL im (.slice sp m c) p.l)) :
    Calls Try.prog 46 #[.agg #[.int .i64 p.ep, .int .i64 p.at_, .int .i64 p.bf, .slice sp m c, .int .i64 p.safe]] W fun e W' => ∃ s c' l, e = .returned (.agg #[.int .i64 p.ep, .int .i64 p.at_, .int .i64 p.bf, .slice s m c', .int .i64 p.safe]) ∧ KR w (l ++ rs) W' ∧ EL (l ++ im) (.slice s m c') p.l := by
  have K2 := kr_new (kr_new HK (pc p (.slice sp m c)) 53) [.int .i64 0, .int .i64 0, .int .i64 0, .slice none 0 0, .int .i64 0] 69
  rw [World.size_alloc] at K2
  have hcall : ∀ V, KR w ((W.heap.size + 1, [.int .i64 0, .int .i64 0, .int .i64 0, .slice none 0 0, .int .i64 0]) :: (W.heap.size, pc p (.slice sp m c)) :: rs) V → Calls Try.prog 10 #[.slice sp m c] V fun e W' => ∃ s c' l, e = .returned (.slice s m c') ∧ KR w (l ++ (W.heap.size + 1, [.int .i64 0, .int .i64 0, .int .i64 0, .slice none 0 0, .int .i64 0]) :: (W.heap.size, pc p (.slice sp m c)) :: rs) W' ∧ EL (l ++ im) (.slice s m c') p.l := fun V hV => (taken31_k hV (fun q hq => List.mem_cons_of_mem _ (List.mem_cons_of_mem _ (hs q hq))) p.l m hm h2 sp c hE.out).mono (by
    rintro e W' ⟨v, l, rfl, h1, h3⟩
    obtain ⟨s, c', rfl, -⟩ := el_form h3
    rw [hm.out] at h3 ⊢
    exact ⟨s, c', l, rfl, h1, h3⟩)
  have HCALL : Hid _ := hidI hcall
  have zz : W.heap.size = W.heap.size := rfl
  clear hcall HK hE
  go_enter Try.func46, Try.ntmps46
  go_upto_region 1 with fail
  have K2 : KR w _ ((W.alloc (.cells #[.int .i64 p.ep, .int .i64 p.at_, .int .i64 p.bf, .slice sp m c, .int .i64 p.safe] 53)).alloc (.cells #[.int .i64 0, .int .i64 0, .int .i64 0, .slice none 0 0, .int .i64 0] 69)) := K2
  generalize ((W.alloc (.cells #[.int .i64 p.ep, .int .i64 p.at_, .int .i64 p.bf, .slice sp m c, .int .i64 p.safe] 53)).alloc (.cells #[.int .i64 0, .int .i64 0, .int .i64 0, .slice none 0 0, .int .i64 0] 69)) = V at *
  generalize W.heap.size = b at *
  have hS0 := c5_of (p := p) (v := .slice sp m c) K2 (List.mem_cons_of_mem _ List.mem_cons_self)
  obtain ⟨c0, c1, c2, c3, c4⟩ := hS0
  have HK2 : Hid (KR w _ V) := K2
  clear K2 h2 zz
  go_region_held3 (fun V => V.cell? ⟨b, 0, none⟩ = some (.int .i64 p.ep) ∧ V.cell? ⟨b, 1, none⟩ = some (.int .i64 p.at_) ∧ V.cell? ⟨b, 2, none⟩ = some (.int .i64 p.bf) ∧ V.cell? ⟨b, 3, none⟩ = some (.slice sp m c) ∧ V.cell? ⟨b, 4, none⟩ = some (.int .i64 p.safe)) (first | (with_reducible exact hS3) | (with_reducible exact hS4) | go_keep) ((go_at_call 10; refine (HCALL.out _ (kr_drew HK2.out)).mono ?_; rintro e w3 ⟨s3, x3, l3, rfl, K3, E3⟩; have K4 := kr_permA K3 (List.perm_middle (l₁ := l3)).symm; have hS3 := c5_of (p := p) (v := .slice sp m c) K4 (List.mem_cons_of_mem _ (List.mem_append_right _ List.mem_cons_self)); have t0 := kr_cell K4 0 rfl 0 _ rfl; have t1 := kr_cell K4 0 rfl 1 _ rfl; have t2 := kr_cell K4 0 rfl 2 _ rfl; have t3 := kr_cell K4 0 rfl 3 _ rfl; have t4 := kr_cell K4 0 rfl 4 _ rfl; have f0 := kr_frozen K4 0 rfl 0 (by show 0 < 5; omega); have f1 := kr_frozen K4 0 rfl 1 (by show 1 < 5; omega); have f2 := kr_frozen K4 0 rfl 2 (by show 2 < 5; omega); have f3 := kr_frozen K4 0 rfl 3 (by show 3 < 5; omega); have f4 := kr_frozen K4 0 rfl 4 (by show 4 < 5; omega); have KF := t5_set K4 rfl p (.slice s3 m x3); have hS4 := c5_of (p := p) (v := .slice sp m c) KF (List.mem_cons_of_mem _ (List.mem_append_right _ List.mem_cons_self)); have HF : Hid (KR w _ _ ∧ EL (l3 ++ im) (.slice s3 m x3) p.l) := ⟨KF, E3⟩; clear K3 K4 KF E3))
  all_goals
    go_wp2_with fail
    refine bodyPost_ret (v := .agg #[.int .i64 p.ep, .int .i64 p.at_, .int .i64 p.bf, .slice s3 m x3, .int .i64 p.safe]) (res_row (P := Try.prog) Try.results46 _ _ (b + 1) (pc p (.slice s3 m x3)) _ rfl (kr_get HF.out.1 0 rfl) Try.underlying69 rfl (by kernel_rfl)) rfl ?_
    exact ⟨s3, x3, l3, rfl, kr_sub (kr_tail HF.out.1) ((List.Sublist.refl l3).append (List.sublist_cons_self _ _)), HF.out.2⟩
set_option maxRecDepth 100000 in
set_option maxHeartbeats 4000000 in
theorem psame_k {w : World} (p : SP) (m : Nat) (hm : Hid (p.l.length = m)) (h2 : m ≤ 100000) (hz : Hid (∀ x ∈ p.l, x.2.length ≤ 140737488351232)) (sp sq : Option Addr) (c d : Nat) (hE : Hid (ELV w sp p.l)) (hM : Hid (ELV w sq p.l)) :
    Calls Try.prog 45 #[.agg #[.int .i64 p.ep, .int .i64 p.at_, .int .i64 p.bf, .slice sp m c, .int .i64 p.safe], .agg #[.int .i64 p.ep, .int .i64 p.at_, .int .i64 p.bf, .slice sq m d, .int .i64 p.safe]] w fun e W' => e = .returned (.bool true) ∧ Below w.heap.size w W' := by
  have K2 := kr_new (kr_new (kr_refl w) (pc p (.slice sp m c)) 69) (pc p (.slice sq m d)) 69
  have HB : Hid (Below w.heap.size w _) := K2.below
  have hcall := same31_k (w := ((w.alloc (.cells (pc p (.slice sp m c)).toArray 69)).alloc (.cells (pc p (.slice sq m d)).toArray 69))) p.l m hm h2 hz sp sq c d (elv_keep hE.out K2.below) (elv_keep hM.out K2.below)
  have HCALL : Hid _ := hidI hcall
  clear K2 hcall h2
  go_enter Try.func45, Try.ntmps45
  go_wp2_with (go_at_call 13; refine HCALL.out.mono ?_; rintro e w3 ⟨rfl, q, rfl⟩)
  go_ret
  exact ⟨rfl, bw_drewN HB.out q⟩
end Go.Proofs.Ytofpkmfjigjlhaa.Own
