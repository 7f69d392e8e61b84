/- slices.Grow of nothing, slices.Concat of two lists of entries. No conditions beside those in each theorem. -/
import Derived.Test.YtofpkmfjigjlhaaNg
import Derived.Lib.AppendZeros
import Derived.Lib.AppendZerosOnto
namespace Go.Proofs.Ytofpkmfjigjlhaa.Own
open Go.RowKit
set_option linter.unusedSimpArgs false
set_option linter.unusedVariables false
theorem zeroCells_size (cells : Array Value) (n : Nat) : (Builtin.zeroCells cells n).size = n * cells.size := by simp [Builtin.zeroCells, Nat.mul_comm]
theorem own_new {w W : World} {rs : List (Nat × List Value)} (HK : KR w rs W) (cur : Array Value) (cap : Nat) (e : TypeId) (size : Nat) (hm : cap ≤ maxLen) (hs : cur.size = cap * size) : Own w rs e size (.slice (some ⟨W.heap.size, 0, none⟩) 0 cap) 0 [] (W.alloc (.cells cur e)) :=
  ⟨World.ownsRow_made W cur cap HK.below.size hm hs, fun k hk p hp => by
    simp only [Value.ownBlock, Option.some.injEq] at hk
    have := (HK.rows p hp).2.1
    omega⟩
set_option maxRecDepth 100000 in
theorem grow_k {w W : World} {rs : List (Nat × List Value)} (HK : KR w rs W) (n : Nat) (h0 : 0 < n) (h2 : n ≤ 100000) : Calls Try.prog 53 #[.slice none 0 0, .int .i64 (n : Int)] W fun e W' => ∃ v, e = .returned v ∧ Own w rs 82 2 v 0 [] W' ∧ KR w rs W' := by
  obtain ⟨i, hi0, hi1⟩ := Option.map_eq_some_iff.1 ent_info
  simp only [Prod.mk.injEq] at hi1
  obtain ⟨hz, hs, hb⟩ := hi1
  have hr := fun ty => Go.Lib.run_append_grow_zeros (P := Try.prog) W 83 3 ty 82 i (.agg #[.int .i64 0, .slice none 0 0]) .i64 .i64 Try.underlying83 Try.underlying3 hi0 hz none 0 0 [] (by rw [hs]; exact run_firstCells_none W.drew 2 0 0 0) n h0 (by omega) (by omega) (by omega) (by rw [hb]; omega) (by rw [hb]; exact growslice_fits (by omega) (by omega))
  rw [Nat.zero_add] at hr
  have hG := grownCap_ge W n 0 82
  have hG2 := grownCap_le_maxLen W n 0 82 (by unfold maxLen; omega)
  generalize grownCap W n 0 82 = G at hr hG hG2
  have H1 : Hid (∀ ty : Nat, KR w rs (W.drew.alloc (.cells ((([] : List Value).toArray ++ Builtin.zeroCells (Value.agg #[.int .i64 0, .slice none 0 0]).cells n ++ Builtin.zeroCells (Value.agg #[.int .i64 0, .slice none 0 0]).cells (G - n))) 82))) := fun _ => kr_alloc (kr_drew HK) _
  have H2 : Hid (Own w rs 82 2 (.slice (some ⟨W.drew.heap.size, 0, none⟩) 0 G) 0 [] (W.drew.alloc (.cells ((([] : List Value).toArray ++ Builtin.zeroCells (Value.agg #[.int .i64 0, .slice none 0 0]).cells n ++ Builtin.zeroCells (Value.agg #[.int .i64 0, .slice none 0 0]).cells (G - n))) 82))) := own_new (kr_drew HK) _ G _ 2 hG2 (by simp [zeroCells_size, Value.cells]; omega)
  have hni : (0 : Int) < (n : Int) := by omega
  have hni2 : (n : Int) ≤ 100000 := by omega
  have hGi : (n : Int) ≤ (G : Int) := by omega
  generalize (([] : List Value).toArray ++ Builtin.zeroCells (Value.agg #[.int .i64 0, .slice none 0 0]).cells n ++ Builtin.zeroCells (Value.agg #[.int .i64 0, .slice none 0 0]).cells (G - n)) = Z at *
  clear HK hi0 hz hs hb h0 h2 hG hG2
  go_enter Try.func53, Try.ntmps53
  go_wp2_with (at_builtin; refine Lib.wpList_append_run _ rfl _ _ _ _ rfl _ _ rfl rfl _ _ (hr _) ?_)
  all_goals (go_ret; exact ⟨_, rfl, H2.out, H1.out 0⟩)
theorem sf_info : (Try.prog.info? 83).map (fun i => (i.zero, i.size, i.bytes)) = some (some (.slice none 0 0), 1, 24) := by kernel_rfl
def ccS (n1 n2 : Nat) (c1 c2 : List Value) : Nat → Nat × List Value
  | 0 => (0, [])
  | 1 => (n1, c1)
  | _ => (n1 + n2, c1 ++ c2)
set_option maxRecDepth 100000 in
set_option maxHeartbeats 1000000 in
theorem conc_k {w W : World} {rs : List (Nat × List Value)} (HK : KR w rs W) (b n1 n2 : Nat) (sp1 sp2 : Option Addr) (k1 k2 : Nat) (hb : (b, [.slice sp1 n1 k1, .slice sp2 n2 k2]) ∈ rs) (c1 c2 : List Value) (hl1 : c1.length = n1 * 2) (hl2 : c2.length = n2 * 2) (h0 : 0 < n1 + n2) (h2 : n1 + n2 ≤ 100000)
    (hS1 : ∀ W1, KR w rs W1 → SrcV W1 sp1 c1) (hS2 : ∀ W1, KR w rs W1 → SrcV W1 sp2 c2) (ho1 : ∀ u ∈ c1, u.oneCell' = true) (ho2 : ∀ u ∈ c2, u.oneCell' = true) :
    Calls Try.prog 37 #[.slice (some ⟨b, 0, none⟩) 2 2] W fun e W' => ∃ v, e = .returned v ∧ Own w rs 82 2 v (n1 + n2) (c1 ++ c2) W' ∧ KR w rs W' := by
  have HH : Hid (KR w rs W ∧ (∀ W1, KR w rs W1 → SrcV W1 sp1 c1) ∧ (∀ W1, KR w rs W1 → SrcV W1 sp2 c2)) := ⟨HK, hS1, hS2⟩
  have HL : Hid (c1.length = n1 * 2 ∧ c2.length = n2 * 2 ∧ (∀ u ∈ c1, u.oneCell' = true) ∧ (∀ u ∈ c2, u.oneCell' = true)) := ⟨hl1, hl2, ho1, ho2⟩
  have g0 := range_cell (kr_mem HK hb) 0 _ rfl
  have g1 := range_cell (kr_mem HK hb) 1 _ rfl
  have HB : Hid ((b, [.slice sp1 n1 k1, .slice sp2 n2 k2]) ∈ rs) := hb
  have hgr := grow_k HK (n1 + n2) h0 h2
  have w0 : wrap64 (0 + (n1 : Int)) = (n1 : Int) := by rw [Int.zero_add]; exact w64b _ (by omega)
  have w1 : wrap64 ((n1 : Int) + (n2 : Int)) = ((n1 + n2 : Nat) : Int) := by rw [w64b _ (by omega)]; omega
  have hsumi : (n1 : Int) + (n2 : Int) ≤ 100000 := by omega
  have HN : Hid (0 < n1 + n2 ∧ n1 + n2 ≤ 100000) := ⟨h0, h2⟩
  clear HK hS1 hS2 hl1 hl2 ho1 ho2 hb h0 h2
  go_enter Try.func37, Try.ntmps37
  go_wp2
  go_loop [3, 11] (fun v3 v11 => ∃ i : Nat, i ≤ 2 ∧ v11 = .int .i64 (i : Int) ∧ v3 = .int .i64 (((ccS n1 n2 c1 c2 i).1 : Nat) : Int)) (fun v3 v11 => 2 - (intOf v11).toNat)
  case atStart => exact ⟨0, by omega, rfl, rfl⟩
  case round =>
    obtain ⟨i, hi, rfl, rfl⟩ := hrel
    match i, hi with
    | 0, _ =>
      simp only [ccS]
      go_wp2_with fail
      go_round
      case rel => exact ⟨1, by omega, by go_num, by simp [ccS]⟩
      case measure => simp [intOf]
    | 1, _ =>
      simp only [ccS]
      go_wp2_with fail
      go_round
      case rel => exact ⟨2, by omega, by go_num, by simp [ccS]⟩
      case measure => simp [intOf]
    | 2, _ =>
      simp only [ccS]
      clear g0 g1
      go_wp2_with (go_at_call 53; refine hgr.mono ?_; rintro e w2 ⟨v6, rfl, O2, H2⟩)
      have O2 : Hid (Own w rs 82 2 v6 0 [] w2) := O2
      have H2 : Hid (KR w rs w2) := H2
      clear hgr w0 w1
      go_loopw [6, 27] (fun v6 v27 W => ∃ i : Nat, i ≤ 2 ∧ v27 = .int .i64 (i : Int) ∧ Own w rs 82 2 v6 (ccS n1 n2 c1 c2 i).1 (ccS n1 n2 c1 c2 i).2 W ∧ KR w rs W) (fun v6 v27 _ => 2 - (intOf v27).toNat)
      case atStart => exact ⟨0, by omega, rfl, O2.out, H2.out⟩
      case round =>
        clear O2 H2
        obtain ⟨i, hi, rfl, OI, HI⟩ := hrel
        obtain ⟨s6, c6, rfl⟩ := own_form OI
        match i, hi with
        | 0, _ =>
          simp only [ccS] at OI ⊢
          have g0 := range_cell (kr_mem HI HB.out) 0 _ rfl
          have OH : Hid (Own w rs _ _ _ _ _ wr) := OI
          have KH : Hid (KR w rs wr) := HI
          clear OI HI
          go_wp2_with (at_builtin; refine wl_appendK _ _ 83 82 (.agg #[.int .i64 0, .slice none 0 0]) 2 32 KH.out OH.out _ n1 _ c1 (HH.out.2.1 _ KH.out) HL.out.1 HL.out.2.2.1 (by have := HN.out; unfold maxLen; omega) (by have := HN.out; omega) Try.underlying83 ent_info rfl (by omega) rfl rfl (by rfl) (by rfl) (fun v' W' O3 H3 hz => ?_); have O3 : Hid (Own w rs _ _ _ _ _ W') := O3; have H3 : Hid (KR w rs W') := H3)
          go_round
          case rel => exact ⟨1, by omega, by go_num, by have := O3.out; simpa [ccS] using this, H3.out⟩
          case measure => simp [intOf]
        | 1, _ =>
          simp only [ccS] at OI ⊢
          have g1 := range_cell (kr_mem HI HB.out) 1 _ rfl
          have OH : Hid (Own w rs _ _ _ _ _ wr) := OI
          have KH : Hid (KR w rs wr) := HI
          clear OI HI
          go_wp2_with (at_builtin; refine wl_appendK _ _ 83 82 (.agg #[.int .i64 0, .slice none 0 0]) 2 32 KH.out OH.out _ n2 _ c2 (HH.out.2.2 _ KH.out) HL.out.2.1 HL.out.2.2.2 (by have := HN.out; unfold maxLen; omega) (by have := HN.out; omega) Try.underlying83 ent_info rfl (by omega) rfl rfl (by rfl) (by rfl) (fun v' W' O3 H3 hz => ?_); have O3 : Hid (Own w rs _ _ _ _ _ W') := O3; have H3 : Hid (KR w rs W') := H3)
          go_round
          case rel => exact ⟨2, by omega, by go_num, O3.out, H3.out⟩
          case measure => simp [intOf]
        | 2, _ =>
          simp only [ccS] at OI ⊢
          have OH : Hid (Own w rs _ _ _ _ _ wr) := OI
          have KH : Hid (KR w rs wr) := HI
          clear OI HI
          go_wp2_with fail
          go_ret
          exact ⟨_, rfl, OH.out, KH.out⟩
end Go.Proofs.Ytofpkmfjigjlhaa.Own
