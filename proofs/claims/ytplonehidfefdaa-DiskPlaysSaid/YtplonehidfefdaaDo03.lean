/- One call to both disks: their answers are the same, and they are the same plain disk behind it. No conditions beside those in each theorem. -/
import Derived.Test.YtplonehidfefdaaPv
import Derived.Test.YtplonehidfefdaaActs3w
import Derived.Deep.RegionHeld3
namespace Go.Proofs.Ytplonehidfefdaa.Own
open Go.RowKit
set_option linter.unusedSimpArgs false
set_option linter.unusedVariables false
theorem pv_lent {KS : List (Nat × List Value)} {w W : World} {D R : Nat} {p q : PD} {xs : List (Nat × List Value)} (h : PV w W D R p q xs KS) (bs : List Int) (n : Nat) (hn : Hid (bs.length = n)) (h2 : n ≤ 140737488351232) (sp : Option Addr) (cp : Nat) (hS : ∀ W1, KR w xs W1 → Src W1 sp bs) :
    Calls Try.prog 31 #[.slice sp n cp] W fun e W' => ∃ g cap cur, e = .returned (.slice (some ⟨g, 0, none⟩) n cap) ∧ n + 8 ≤ cap ∧ cap = cur.length ∧ cur.take (n + 8) = bs.map (.int .u8) ++ a5s ∧ PV w W' D R p q ((g, cur) :: xs) KS := by
  obtain ⟨d, r, B, cap, tl, gs, HK, h⟩ := h
  refine (lent_k HK bs n hn h2 sp cp (fun W1 H => src_srcV (hS W1 (kr_sub H (List.sublist_append_left _ _))))).mono ?_
  rintro e w' ⟨g, c2, cur, rfl, h1, h2, h3, H⟩
  exact ⟨g, c2, cur, rfl, h1, h2, h3, d, r, B, cap, tl, gs, H, h⟩
theorem pv_spoil {KS : List (Nat × List Value)} {w W : World} {D R : Nat} {p q : PD} {g : Nat} {cur : List Value} {xs : List (Nat × List Value)} (h : PV w W D R p q ((g, cur) :: xs) KS) (n cap : Nat) (hn : n ≤ cur.length) (h2 : n ≤ 9223372036854775807) :
    Calls Try.prog 22 #[.slice (some ⟨g, 0, none⟩) n cap] W fun e W' => e = .returned (.tuple #[]) ∧ PV w W' D R p q xs KS := by
  obtain ⟨d, r, B, c2, tl, gs, HK, h⟩ := h
  refine (spoil_k g n cap cur hn h2 HK).mono ?_
  rintro e w' ⟨rfl, cur', _, H⟩
  exact ⟨rfl, d, r, B, c2, tl, gs, kr_tail H, h⟩
theorem lent_take {cur : List Value} {bs : List Int} {n : Nat} (hn : bs.length = n) (ht : cur.take (n + 8) = bs.map (.int .u8) ++ a5s) : cur.take n = bs.map (.int .u8) := by
  have := congrArg (List.take n) ht
  rw [List.take_take, Nat.min_eq_left (by omega), List.take_append_of_le_length (by rw [List.length_map, hn]; omega), List.take_of_length_le (l := bs.map (Value.int .u8)) (by rw [List.length_map, hn]; omega)] at this
  exact this
/-- What a call says of its slices, to whoever keeps what lay there. -/
structure AvOk (w : World) (x : AV) : Prop where
  hb : x.bs.length = x.nb
  sb : Src w x.bp x.bs
  mb : x.nb ≤ 140737488351232
  hk : x.ks.length = x.nk
  sk : ∀ j : Nat, j < x.nk → ∃ B : Addr, x.kp = some B ∧ w.cell? (B.add j) = some (.int .i64 (x.ks.getD j 0))
  hi : x.n ≤ 9223372036854775807
def AV.v (x : AV) : Value := .agg #[.int .i64 x.kind, .int .i64 x.f, .int .i64 x.g, .slice x.bp x.nb x.bcap, .int .i64 x.n, .slice x.kp x.nk x.kcap]
def AV.l (x : AV) : List Value := [.int .i64 x.kind, .int .i64 x.f, .int .i64 x.g, .slice x.bp x.nb x.bcap, .int .i64 x.n, .slice x.kp x.nk x.kcap]
set_option maxRecDepth 100000 in
set_option maxHeartbeats 4000000 in
theorem do_k {KS : List (Nat × List Value)} {w W : World} {D R : Nat} {p : PD} {xs : List (Nat × List Value)} (H : PV w W D R p p xs KS) (x : AV) (hx : AvOk w x) :
    Calls Try.prog 19 #[.pointer (some ⟨D, 0, none⟩), .pointer (some ⟨R, 0, none⟩), x.v] W fun e W' => e = .returned (.bool true) ∧ ∃ p', PV w W' D R p' p' xs KS := by
  obtain ⟨kd, f, g, n, ys, ks, nb, nk, bp, bcap, kp, kcap⟩ := x
  obtain ⟨hb, sb, mb, hk, sk, hi⟩ := hx
  dsimp only at hb sb mb hk sk hi
  have HB : Hid (ys.length = nb) := hb
  have SB : Hid (∀ xs' W1, KR w xs' W1 → Src W1 bp ys) := fun xs' W1 H => src_keep sb H.below
  have HL : Hid (ks.length = nk) := hk
  have HN : Hid (n ≤ 9223372036854775807) := hi
  have SK : Hid (∀ xs' W1, KR w xs' W1 → ∀ j, j < nk → ∃ A, kp = some A ∧ W1.cell? (A.add j) = some (.int .i64 (ks.getD j 0))) := fun xs' W1 H j hj => by
    obtain ⟨B, hB, hc⟩ := sk j hj
    exact ⟨B, hB, kr_old H hc⟩
  clear hb sb hk sk hi
  have H := pv_new H [.int .i64 kd, .int .i64 f, .int .i64 g, .slice bp nb bcap, .int .i64 n, .slice kp nk kcap] 32
  obtain ⟨X, hX⟩ : ∃ X, W.heap.size = X := ⟨_, rfl⟩
  have HX : Hid (W.heap.size = X) := hX
  rw [hX] at H
  clear hX
  show Calls Try.prog _ #[_, _, .agg #[.int .i64 kd, .int .i64 f, .int .i64 g, .slice bp nb bcap, .int .i64 n, .slice kp nk kcap]] W _
  have hkd : kd = 0 ∨ kd = 1 ∨ kd = 2 ∨ kd = 3 ∨ kd = 4 ∨ kd = 5 ∨ kd = 6 ∨ kd = 7 ∨ kd = 8 ∨ ((kd == 0) = false ∧ (kd == 1) = false ∧ (kd == 2) = false ∧ (kd == 3) = false ∧ (kd == 4) = false ∧ (kd == 5) = false ∧ (kd == 6) = false ∧ (kd == 7) = false ∧ (kd == 8) = false) := by
    simp only [beq_eq_false_iff_ne, ne_eq]
    omega
  rcases hkd with rfl | rfl | rfl | rfl | rfl | rfl | rfl | rfl | rfl | ⟨b0, b1, b2, b3, b4, b5, b6, b7, b8⟩
  · skip
    go_enter Try.func19, Try.ntmps19
    go_wp2_with (go_at_call 31; rw [HX.out]; generalize W.alloc _ = W1 at H ⊢; refine (pv_lent H ys nb HB mb bp bcap (SB.out _)).mono ?_; rintro e w' ⟨L, lc, cur, rfl, hl1, hl2, hl3, H2⟩; clear H; have H := H2; clear H2; have HL2 : Hid (nb ≤ cur.length) := (by show _ ≤ _; omega); have HT : Hid (cur.take (nb + 8) = ys.map (.int .u8) ++ a5s) := hl3; clear hl2 hl3)
    have hlen := HL2.out
    have HS1 : Hid (∀ W1, KR w ((L, cur) :: (X, [.int .i64 0, .int .i64 f, .int .i64 g, .slice bp nb bcap, .int .i64 n, .slice kp nk kcap]) :: xs) W1 → Src W1 (some ⟨L, 0, none⟩) ys) := fun W1 H1 h => srcV_row H1 List.mem_cons_self (lent_take HB.out HT.out) (by rw [bc_len]; exact h)
    have H := pv_drew H
    have c1 := kr_cell (pv_kr H) 1 rfl 1 _ rfl
    have c3 := kr_cell (pv_kr H) 1 rfl 3 _ rfl
    rw [World.cell?_drew] at c1 c3
    go_region_held3 (fun W => W.cell? ⟨X, 1, none⟩ = some (.int .i64 f) ∧ W.cell? ⟨X, 3, none⟩ = some (.slice bp nb bcap)) (first | exact hC3 | exact hC2 | exact hC | go_keep) (first | (go_at_call 9; refine (pv_append H f ys nb HB.out (some ⟨L, 0, none⟩) lc HS1.out).mono ?_; rintro e w1 ⟨rfl, H2⟩; clear H; have H := H2; clear H2; have hC : w1.cell? ⟨X, 1, none⟩ = some (.int .i64 f) ∧ w1.cell? ⟨X, 3, none⟩ = some (.slice bp nb bcap) := ⟨kr_cell (pv_kr H) 1 rfl 1 _ rfl, kr_cell (pv_kr H) 1 rfl 3 _ rfl⟩) | (go_at_call 32; refine (pv_rappend H f ys nb HB.out bp bcap (SB.out _)).mono ?_; rintro e w2 ⟨rfl, H2⟩; clear H; have H := H2; clear H2; have hC2 : w2.cell? ⟨X, 1, none⟩ = some (.int .i64 f) ∧ w2.cell? ⟨X, 3, none⟩ = some (.slice bp nb bcap) := ⟨kr_cell (pv_kr H) 1 rfl 1 _ rfl, kr_cell (pv_kr H) 1 rfl 3 _ rfl⟩) | (go_at_call 33; refine (kept_k (pv_kr H) ys nb HB mb bp bcap (src_srcV (SB.out _ _ (pv_kr H))) L lc cur List.mem_cons_self hl1 HT.out).mono ?_; rintro e w3 ⟨rfl, k3, hk3⟩; have H2 := pv_drewN H k3; rw [← hk3] at H2; clear H hk3; have H := H2; clear H2; have hC3 : w3.cell? ⟨X, 1, none⟩ = some (.int .i64 f) ∧ w3.cell? ⟨X, 3, none⟩ = some (.slice bp nb bcap) := ⟨kr_cell (pv_kr H) 1 rfl 1 _ rfl, kr_cell (pv_kr H) 1 rfl 3 _ rfl⟩))
    go_wp2_with (go_at_call 22; refine (pv_spoil H nb lc hlen (by omega)).mono ?_; rintro e w4 ⟨rfl, H2⟩; clear H; have H := H2; clear H2)
    go_ret
    exact ⟨rfl, _, pv_tail H⟩
  · skip
    go_enter Try.func19, Try.ntmps19
    go_wp2_with (go_at_call 31; rw [HX.out]; generalize W.alloc _ = W1 at H ⊢; refine (pv_lent H ys nb HB mb bp bcap (SB.out _)).mono ?_; rintro e w' ⟨L, lc, cur, rfl, hl1, hl2, hl3, H2⟩; clear H; have H := H2; clear H2; have HL2 : Hid (nb ≤ cur.length) := (by show _ ≤ _; omega); have HT : Hid (cur.take (nb + 8) = ys.map (.int .u8) ++ a5s) := hl3; clear hl2 hl3)
    have hlen := HL2.out
    have HS1 : Hid (∀ W1, KR w ((L, cur) :: (X, [.int .i64 1, .int .i64 f, .int .i64 g, .slice bp nb bcap, .int .i64 n, .slice kp nk kcap]) :: xs) W1 → Src W1 (some ⟨L, 0, none⟩) ys) := fun W1 H1 h => srcV_row H1 List.mem_cons_self (lent_take HB.out HT.out) (by rw [bc_len]; exact h)
    have H := pv_drew H
    have c1 := kr_cell (pv_kr H) 1 rfl 1 _ rfl
    have c3 := kr_cell (pv_kr H) 1 rfl 3 _ rfl
    rw [World.cell?_drew] at c1 c3
    go_region_held3 (fun W => W.cell? ⟨X, 1, none⟩ = some (.int .i64 f) ∧ W.cell? ⟨X, 3, none⟩ = some (.slice bp nb bcap)) (first | exact hC3 | exact hC2 | exact hC | go_keep) (first | (go_at_call 9; refine (pv_append H f ys nb HB.out (some ⟨L, 0, none⟩) lc HS1.out).mono ?_; rintro e w1 ⟨rfl, H2⟩; clear H; have H := H2; clear H2; have hC : w1.cell? ⟨X, 1, none⟩ = some (.int .i64 f) ∧ w1.cell? ⟨X, 3, none⟩ = some (.slice bp nb bcap) := ⟨kr_cell (pv_kr H) 1 rfl 1 _ rfl, kr_cell (pv_kr H) 1 rfl 3 _ rfl⟩) | (go_at_call 32; refine (pv_rappend H f ys nb HB.out bp bcap (SB.out _)).mono ?_; rintro e w2 ⟨rfl, H2⟩; clear H; have H := H2; clear H2; have hC2 : w2.cell? ⟨X, 1, none⟩ = some (.int .i64 f) ∧ w2.cell? ⟨X, 3, none⟩ = some (.slice bp nb bcap) := ⟨kr_cell (pv_kr H) 1 rfl 1 _ rfl, kr_cell (pv_kr H) 1 rfl 3 _ rfl⟩) | (go_at_call 33; refine (kept_k (pv_kr H) ys nb HB mb bp bcap (src_srcV (SB.out _ _ (pv_kr H))) L lc cur List.mem_cons_self hl1 HT.out).mono ?_; rintro e w3 ⟨rfl, k3, hk3⟩; have H2 := pv_drewN H k3; rw [← hk3] at H2; clear H hk3; have H := H2; clear H2; have hC3 : w3.cell? ⟨X, 1, none⟩ = some (.int .i64 f) ∧ w3.cell? ⟨X, 3, none⟩ = some (.slice bp nb bcap) := ⟨kr_cell (pv_kr H) 1 rfl 1 _ rfl, kr_cell (pv_kr H) 1 rfl 3 _ rfl⟩))
    go_wp2_with (go_at_call 22; refine (pv_spoil H nb lc hlen (by omega)).mono ?_; rintro e w4 ⟨rfl, H2⟩; clear H; have H := H2; clear H2)
    go_ret
    exact ⟨rfl, _, pv_tail H⟩
  · skip
    go_enter Try.func19, Try.ntmps19
    go_wp2_with (go_at_call 31; rw [HX.out]; generalize W.alloc _ = W1 at H ⊢; refine (pv_lent H ys nb HB mb bp bcap (SB.out _)).mono ?_; rintro e w' ⟨L, lc, cur, rfl, hl1, hl2, hl3, H2⟩; clear H; have H := H2; clear H2; have HL2 : Hid (nb ≤ cur.length) := (by show _ ≤ _; omega); have HT : Hid (cur.take (nb + 8) = ys.map (.int .u8) ++ a5s) := hl3; clear hl2 hl3)
    have hlen := HL2.out
    have HS1 : Hid (∀ W1, KR w ((L, cur) :: (X, [.int .i64 2, .int .i64 f, .int .i64 g, .slice bp nb bcap, .int .i64 n, .slice kp nk kcap]) :: xs) W1 → Src W1 (some ⟨L, 0, none⟩) ys) := fun W1 H1 h => srcV_row H1 List.mem_cons_self (lent_take HB.out HT.out) (by rw [bc_len]; exact h)
    have H := pv_drew H
    have c1 := kr_cell (pv_kr H) 1 rfl 1 _ rfl
    have c3 := kr_cell (pv_kr H) 1 rfl 3 _ rfl
    rw [World.cell?_drew] at c1 c3
    go_region_held3 (fun W => W.cell? ⟨X, 1, none⟩ = some (.int .i64 f) ∧ W.cell? ⟨X, 3, none⟩ = some (.slice bp nb bcap)) (first | exact hC3 | exact hC2 | exact hC | go_keep) (first | (go_at_call 9; refine (pv_append H f ys nb HB.out (some ⟨L, 0, none⟩) lc HS1.out).mono ?_; rintro e w1 ⟨rfl, H2⟩; clear H; have H := H2; clear H2; have hC : w1.cell? ⟨X, 1, none⟩ = some (.int .i64 f) ∧ w1.cell? ⟨X, 3, none⟩ = some (.slice bp nb bcap) := ⟨kr_cell (pv_kr H) 1 rfl 1 _ rfl, kr_cell (pv_kr H) 1 rfl 3 _ rfl⟩) | (go_at_call 32; refine (pv_rappend H f ys nb HB.out bp bcap (SB.out _)).mono ?_; rintro e w2 ⟨rfl, H2⟩; clear H; have H := H2; clear H2; have hC2 : w2.cell? ⟨X, 1, none⟩ = some (.int .i64 f) ∧ w2.cell? ⟨X, 3, none⟩ = some (.slice bp nb bcap) := ⟨kr_cell (pv_kr H) 1 rfl 1 _ rfl, kr_cell (pv_kr H) 1 rfl 3 _ rfl⟩) | (go_at_call 33; refine (kept_k (pv_kr H) ys nb HB mb bp bcap (src_srcV (SB.out _ _ (pv_kr H))) L lc cur List.mem_cons_self hl1 HT.out).mono ?_; rintro e w3 ⟨rfl, k3, hk3⟩; have H2 := pv_drewN H k3; rw [← hk3] at H2; clear H hk3; have H := H2; clear H2; have hC3 : w3.cell? ⟨X, 1, none⟩ = some (.int .i64 f) ∧ w3.cell? ⟨X, 3, none⟩ = some (.slice bp nb bcap) := ⟨kr_cell (pv_kr H) 1 rfl 1 _ rfl, kr_cell (pv_kr H) 1 rfl 3 _ rfl⟩))
    go_wp2_with (go_at_call 22; refine (pv_spoil H nb lc hlen (by omega)).mono ?_; rintro e w4 ⟨rfl, H2⟩; clear H; have H := H2; clear H2)
    go_ret
    exact ⟨rfl, _, pv_tail H⟩
  · skip
    go_enter Try.func19, Try.ntmps19
    go_wp2_with fail
    rw [HX.out]
    generalize W.alloc _ = W1 at H ⊢
    have H := pv_drew H
    have c1 := kr_cell (pv_kr H) 0 rfl 1 _ rfl
    rw [World.cell?_drew] at c1
    go_region_held3 (fun W => W.cell? ⟨X, 1, none⟩ = some (.int .i64 f)) (first | exact hC2 | exact hC | go_keep) (first | (go_at_call 10; refine (pv_sync H f).mono ?_; rintro e w' ⟨rfl, H2⟩; clear H; have H := H2; clear H2; have hC : w'.cell? ⟨X, 1, none⟩ = some (.int .i64 f) := kr_cell (pv_kr H) 0 rfl 1 _ rfl) | (go_at_call 34; refine (pv_rsync H f).mono ?_; rintro e w2 ⟨rfl, H2⟩; clear H; have H := H2; clear H2; have hC2 : w2.cell? ⟨X, 1, none⟩ = some (.int .i64 f) := kr_cell (pv_kr H) 0 rfl 1 _ rfl))
    go_wp2_with fail
    go_ret
    exact ⟨rfl, _, pv_tail H⟩
  · skip
    go_enter Try.func19, Try.ntmps19
    go_wp2_with fail
    rw [HX.out]
    generalize W.alloc _ = W1 at H ⊢
    have H := pv_drew H
    have c1 := kr_cell (pv_kr H) 0 rfl 1 _ rfl
    rw [World.cell?_drew] at c1
    go_region_held3 (fun W => W.cell? ⟨X, 1, none⟩ = some (.int .i64 f)) (first | exact hC2 | exact hC | go_keep) (first | (go_at_call 10; refine (pv_sync H f).mono ?_; rintro e w' ⟨rfl, H2⟩; clear H; have H := H2; clear H2; have hC : w'.cell? ⟨X, 1, none⟩ = some (.int .i64 f) := kr_cell (pv_kr H) 0 rfl 1 _ rfl) | (go_at_call 34; refine (pv_rsync H f).mono ?_; rintro e w2 ⟨rfl, H2⟩; clear H; have H := H2; clear H2; have hC2 : w2.cell? ⟨X, 1, none⟩ = some (.int .i64 f) := kr_cell (pv_kr H) 0 rfl 1 _ rfl))
    go_wp2_with fail
    go_ret
    exact ⟨rfl, _, pv_tail H⟩
  · skip
    go_enter Try.func19, Try.ntmps19
    go_wp2_with fail
    rw [HX.out]
    generalize W.alloc _ = W1 at H ⊢
    have H := pv_drew H
    have c1 := kr_cell (pv_kr H) 0 rfl 1 _ rfl
    have c2 := kr_cell (pv_kr H) 0 rfl 2 _ rfl
    rw [World.cell?_drew] at c1 c2
    go_region_held3 (fun W => W.cell? ⟨X, 1, none⟩ = some (.int .i64 f) ∧ W.cell? ⟨X, 2, none⟩ = some (.int .i64 g)) (first | exact hC2 | exact hC | go_keep) (first | (go_at_call 16; refine (pv_rename H f g).mono ?_; rintro e w' ⟨rfl, H2⟩; clear H; have H := H2; clear H2; have hC : w'.cell? ⟨X, 1, none⟩ = some (.int .i64 f) ∧ w'.cell? ⟨X, 2, none⟩ = some (.int .i64 g) := ⟨kr_cell (pv_kr H) 0 rfl 1 _ rfl, kr_cell (pv_kr H) 0 rfl 2 _ rfl⟩) | (go_at_call 35; refine (pv_rrename H f g).mono ?_; rintro e w2 ⟨rfl, H2⟩; clear H; have H := H2; clear H2; have hC2 : w2.cell? ⟨X, 1, none⟩ = some (.int .i64 f) ∧ w2.cell? ⟨X, 2, none⟩ = some (.int .i64 g) := ⟨kr_cell (pv_kr H) 0 rfl 1 _ rfl, kr_cell (pv_kr H) 0 rfl 2 _ rfl⟩))
    go_wp2_with fail
    go_ret
    exact ⟨rfl, _, pv_tail H⟩
  · skip
    go_enter Try.func19, Try.ntmps19
    go_wp2_with fail
    rw [HX.out]
    generalize W.alloc _ = W1 at H ⊢
    have H := pv_drew H
    have c1 := kr_cell (pv_kr H) 0 rfl 1 _ rfl
    rw [World.cell?_drew] at c1
    go_region_held3 (fun W => W.cell? ⟨X, 1, none⟩ = some (.int .i64 f)) (first | exact hC2 | exact hC | go_keep) (first | (go_at_call 24; refine (pv_clear H f).mono ?_; rintro e w' ⟨rfl, H2⟩; clear H; have H := H2; clear H2; have hC : w'.cell? ⟨X, 1, none⟩ = some (.int .i64 f) := kr_cell (pv_kr H) 0 rfl 1 _ rfl) | (go_at_call 36; refine (pv_rclear H f).mono ?_; rintro e w2 ⟨rfl, H2⟩; clear H; have H := H2; clear H2; have hC2 : w2.cell? ⟨X, 1, none⟩ = some (.int .i64 f) := kr_cell (pv_kr H) 0 rfl 1 _ rfl))
    go_wp2_with fail
    go_ret
    exact ⟨rfl, _, pv_tail H⟩
  · skip
    go_enter Try.func19, Try.ntmps19
    go_wp2_with (first | (go_at_call 12; rw [HX.out]; generalize W.alloc _ = W1 at H ⊢; refine (pv_fail H n HN.out).mono ?_; rintro e w' ⟨rfl, H2⟩; clear H; have H := H2; clear H2; have hC := kr_cell (pv_kr H) 0 rfl 4 _ rfl; have hC5 := kr_cell (pv_kr H) 0 rfl 5 _ rfl) | (go_at_call 37; refine (pv_rfail H n HN.out).mono ?_; rintro e w2 ⟨rfl, H2⟩; clear H; have H := H2; clear H2))
    go_ret
    exact ⟨rfl, _, pv_tail H⟩
  · skip
    go_enter Try.func19, Try.ntmps19
    go_wp2_with (first | (go_at_call 13; rw [HX.out]; generalize W.alloc _ = W1 at H ⊢; refine (pv_crash H ks nk HL.out kp kcap (SK.out _)).mono ?_; rintro e w' ⟨rfl, H2⟩; clear H; have H := H2; clear H2; have hC := kr_cell (pv_kr H) 0 rfl 4 _ rfl; have hC5 := kr_cell (pv_kr H) 0 rfl 5 _ rfl) | (go_at_call 38; refine (pv_rcrash H ks nk HL.out kp kcap (SK.out _)).mono ?_; rintro e w2 ⟨rfl, H2⟩; clear H; have H := H2; clear H2))
    go_ret
    exact ⟨rfl, _, pv_tail H⟩
  · skip
    go_enter Try.func19, Try.ntmps19
    go_wp2_with (first | (go_at_call 12; rw [HX.out]; generalize W.alloc _ = W1 at H ⊢; refine (pv_fail H 0 (by decide)).mono ?_; rintro e w' ⟨rfl, H2⟩; clear H; have H := H2; clear H2; have hC := kr_cell (pv_kr H) 0 rfl 4 _ rfl; have hC5 := kr_cell (pv_kr H) 0 rfl 5 _ rfl) | (go_at_call 37; refine (pv_rfail H 0 (by decide)).mono ?_; rintro e w2 ⟨rfl, H2⟩; clear H; have H := H2; clear H2))
    go_ret
    exact ⟨rfl, _, pv_tail H⟩
end Go.Proofs.Ytplonehidfefdaa.Own
