/- Bytes that are lent, kept and spoilt (dayshiftref01). No conditions beside those in each theorem. -/
import Derived.Test.YtofpkmfjigjlhaaProg
import Derived.Test.YtofpkmfjigjlhaaAp
import Derived.Laws.MakeOwn
import Derived.Laws.BytesArg
import Derived.Deep.QuietTactic
import Derived.BigQuiet
namespace Go.Proofs.Ytofpkmfjigjlhaa.Own
set_option linter.unusedVariables false
open Go.RowKit
set_option linter.unusedSimpArgs false
theorem own_alloc {w W : World} {rs : List (Nat × List Value)} {e : TypeId} {size : Nat} {v : Value} {n : Nat} {xs : List Value} (h : Own w rs e size v n xs W) (o : Obj) : Own w rs e size v n xs (W.alloc o) := ⟨h.1.alloc o, h.2⟩
theorem lu8_info : (Try.prog.info? 5).map (fun i => (i.zero, i.size, i.bytes)) = some (some (.int .u8 0), 1, 1) := by kernel_rfl
theorem make_u8 (n : Nat) (hn : n ≤ 140737488351232) (W : World) : (Instr.makeSlice 41 (.int .i64 0) (.int .i64 ((n : Int) + 8))).run Try.prog W = .ok (.slice (some ⟨W.heap.size, 0, none⟩) 0 (n + 8)) (W.alloc (.cells (madeCells #[.int .u8 0] (n + 8)) 5)) := by
  obtain ⟨i, hi0, hi1⟩ := Option.map_eq_some_iff.1 lu8_info
  simp only [Prod.mk.injEq] at hi1
  obtain ⟨hz, hs, hb⟩ := hi1
  have hr := run_make (P := Try.prog) W 41 5 i (.int .u8 0) Try.underlying41 hi0 hz .i64 .i64 0 ((n : Int) + 8) (by omega) (by omega) (by rw [hb]; omega) (by omega)
  rw [hs, show ((n : Int) + 8).toNat = n + 8 from by omega, Nat.mul_one] at hr
  exact hr
def a5s : List Value := [.int .u8 165, .int .u8 165, .int .u8 165, .int .u8 165, .int .u8 165, .int .u8 165, .int .u8 165, .int .u8 165]
theorem a5s_src (W : World) (m : Nat × Nat) : SrcV (W.alloc (.cells a5s.toArray 5 m)) (some ⟨W.heap.size, 0, none⟩) a5s := fun _ => ⟨_, rfl, fun j v hv => by
  have hadd : (⟨W.heap.size, 0, none⟩ : Addr).add j = ⟨W.heap.size, j, none⟩ := by unfold Addr.add; split <;> simp_all
  rw [hadd, World.cell?_alloc_mark]; simpa using hv⟩
set_option maxHeartbeats 1000000 in
theorem lent_k {w W : World} {rs : List (Nat × List Value)} (HK : KR w rs W) (bs : List Int) (n : Nat) (hn : Hid (bs.length = n)) (h2 : n ≤ 140737488351232) (sp : Option Addr) (cp : Nat) (hS : ∀ W1, KR w rs W1 → SrcV W1 sp (bs.map (.int .u8))) :
    Calls Try.prog 40 #[.slice sp n cp] W fun e W' => ∃ g cap cur, e = .returned (.slice (some ⟨g, 0, none⟩) n cap) ∧ n + 8 ≤ cap ∧ cap = cur.length ∧ cur.take (n + 8) = bs.map (.int .u8) ++ a5s ∧ KR w ((g, cur) :: rs) W' := by
  have hmk := make_u8 n h2
  have h3 : (n : Int) ≤ 140737488351232 := by omega
  have HS : Hid (∀ W1, KR w rs W1 → SrcV W1 sp (bs.map (.int .u8))) := hS
  have H1 := kr_alloc HK (.cells (madeCells #[.int .u8 0] (n + 8)) 5)
  have O1 : Own w rs 5 1 (.slice (some ⟨W.heap.size, 0, none⟩) 0 (n + 8)) 0 [] (W.alloc (.cells (madeCells #[.int .u8 0] (n + 8)) 5)) :=
    ⟨World.ownsRow_made W (madeCells #[.int .u8 0] (n + 8)) (n + 8) HK.below.size (by unfold maxLen; omega) (by simp [madeCells]), fun k hk p hp => by
      simp only [Value.ownBlock, Option.some.injEq] at hk
      have := (HK.rows p hp).2.1
      omega⟩
  clear hS HK
  go_enter Try.func40, Try.ntmps40
  go_wp2_with (first | (at_builtin; refine wl_appendK _ _ 41 5 (.int .u8 0) 1 1 H1 O1 sp n cp (bs.map (.int .u8)) (HS.out _ H1) (by rw [List.length_map, hn.out]; omega) (by intro v hv; simp only [List.mem_map] at hv; obtain ⟨x, _, rfl⟩ := hv; rfl) (by unfold maxLen; omega) (by omega) Try.underlying41 lu8_info rfl (by omega) rfl rfl (by rfl) (by rfl) (fun v' W' O2 H2 hz => ?_); clear H1 O1 HS; rw [Nat.zero_add, List.nil_append] at O2; obtain ⟨s4, c4, rfl⟩ := own_form O2) | (at_builtin; refine wl_appendK _ _ 41 5 (.int .u8 0) 1 1 (kr_alloc H2 _) (own_alloc O2 _) _ 8 8 a5s (a5s_src _ _) rfl (by decide) (by unfold maxLen; omega) (by omega) Try.underlying41 lu8_info rfl (by omega) rfl rfl (by rfl) (by rfl) (fun v3 W3 O3 H3 hz3 => ?_); clear H2 O2; obtain ⟨g, cap, cur, rfl, HL, hc1, hc2, hc3⟩ := own_settle1 H3 O3 (by omega); have hc4 : n ≤ cap := (by omega)))
  go_ret
  refine ⟨g, cap, cur, rfl, by omega, by omega, ?_, HL⟩
  rw [Nat.mul_one] at hc3
  exact hc3
theorem strOfNums_append (a b : List Int) : strOfNums (a ++ b) = strOfNums a ++ strOfNums b := by
  apply ByteArray.ext
  simp [strOfNums]
/-- Bytes as a string, out of cells. -/
theorem conv_cells {W : World} {co : Option Addr} {bs : List Int} (len cap : Nat) (hl : bs.length = len) (h : SrcV W co (bs.map (.int .u8))) : (convert 41 9 (.slice co len cap)).run Try.prog W = .ok (.string (strOfNums bs)) W := by
  subst hl
  rcases co with _ | A
  · have h0 : bs = [] := by
      rcases bs with _ | ⟨b, bs⟩
      · rfl
      · obtain ⟨A, hA, _⟩ := h (by simp)
        cases hA
    subst h0
    exact run_convert_bytes_nil W 41 5 Try.underlying41 Try.underlying5 _ _ _ Try.underlying9
  · have hl : (loadCells A bs.length).run Try.prog W = .ok (bs.map (Value.int .u8)).toArray W := by
      have := run_loadCells_list (P := Try.prog) W A (bs.map (Value.int .u8)) (fun j v hj => by
        obtain ⟨B, hB, hc⟩ := h (by
          have := (List.getElem?_eq_some_iff.1 hj).1
          omega)
        injection hB with hB
        subst hB
        exact hc j v hj)
      simpa using this
    rw [run_convert_bytes_string W 41 9 5 (some A) bs.length cap Try.underlying41 Try.underlying5 Try.underlying9, run_bytesToString W A bs.length cap bs hl, foldl_push_bytes]
    simp [strOfNums, ByteArray.empty, ByteArray.emptyWithCapacity]
    rfl
theorem srcV_row {w W : World} {rs : List (Nat × List Value)} {g : Nat} {cur cs : List Value} {m : Nat} (HK : KR w rs W) (hm : (g, cur) ∈ rs) (ht : cur.take m = cs) : SrcV W (some ⟨g, 0, none⟩) cs := fun _ => ⟨_, rfl, fun j v hv => by
  rw [Addr.add_mid]
  refine kr_mem HK hm j v ?_
  rw [← ht, List.getElem?_take] at hv
  split at hv
  · exact hv
  · cases hv⟩
theorem srcV_keep {W W' : World} {sp : Option Addr} {cs : List Value} (h : SrcV W sp cs) (hb : Below W.heap.size W W') : SrcV W' sp cs := fun hl => by
  obtain ⟨A, hA, hc⟩ := h hl
  refine ⟨A, hA, fun j v hv => ?_⟩
  rw [← hc j v hv]
  exact hb.cell (World.block_lt_of_cell? W _ (hc j v hv))
set_option maxRecDepth 100000 in
set_option maxHeartbeats 1000000 in
theorem kept_k {w W : World} {rs : List (Nat × List Value)} (HK : KR w rs W) (bs : List Int) (n : Nat) (hn : Hid (bs.length = n)) (h2 : n ≤ 140737488351232) (sp : Option Addr) (cp : Nat) (hS : SrcV W sp (bs.map (.int .u8))) (g cap : Nat) (cur : List Value) (hg : (g, cur) ∈ rs) (hc : n + 8 ≤ cap) (ht : cur.take (n + 8) = bs.map (.int .u8) ++ a5s) :
    Calls Try.prog 42 #[.slice (some ⟨g, 0, none⟩) n cap, .slice sp n cp] W fun e W' => e = .returned (.bool true) ∧ ∃ k, W' = W.drewN k := by
  have h3 : (n : Int) ≤ 140737488351232 := by omega
  have hc2 : (n : Int) + 8 ≤ (cap : Int) := by omega
  have ht2 : cur.take n = bs.map (.int .u8) := by
    have := congrArg (List.take n) ht
    rw [List.take_take, Nat.min_eq_left (by omega), List.take_append_of_le_length (by rw [List.length_map, hn.out]; omega), List.take_of_length_le (l := bs.map (Value.int .u8)) (by rw [List.length_map, hn.out]; omega)] at this
    exact this
  have s1 : SrcV W (some ⟨g, 0, none⟩) (bs.map (.int .u8)) := srcV_row HK hg ht2
  have s2 : SrcV W (some ⟨g, 0, none⟩) ((bs ++ [165, 165, 165, 165, 165, 165, 165, 165]).map (.int .u8)) := by
    rw [List.map_append]
    exact srcV_row HK hg ht
  have q1 : ∀ nq, (convert 41 9 (.slice (some ⟨g, 0, none⟩) n cap)).run Try.prog (W.drewN nq) = .ok (.string (strOfNums bs)) (W.drewN nq) := fun nq => conv_cells n cap hn.out (srcV_keep s1 (bw_drewN (Below.refl _ _) nq))
  have q2 : ∀ nq, (convert 41 9 (.slice sp n cp)).run Try.prog (W.drewN nq) = .ok (.string (strOfNums bs)) (W.drewN nq) := fun nq => conv_cells n cp hn.out (srcV_keep hS (bw_drewN (Below.refl _ _) nq))
  have q3 : ∀ nq, (convert 41 9 (.slice (some ⟨g, 0, none⟩) (n + 8) cap)).run Try.prog (W.drewN nq) = .ok (.string (strOfNums bs ++ ⟨#[165, 165, 165, 165, 165, 165, 165, 165]⟩)) (W.drewN nq) := fun nq => by
    have := conv_cells (n + 8) cap (by rw [List.length_append, hn.out]; rfl) (srcV_keep s2 (bw_drewN (Below.refl _ _) nq))
    rw [strOfNums_append] at this
    exact this
  have q10 := q1 0
  have q20 := q2 0
  simp only [World.drewN_zero] at q10 q20
  have hsz : (strOfNums bs).size ≤ 140737488351232 := by rw [strOfNums_size, hn.out]; omega
  generalize strOfNums bs = sb at q1 q2 q3 q10 q20 hsz
  clear s1 s2 hS ht ht2 hg HK
  go_enter Try.func42, Try.ntmps42
  go_wp2_with fail
  go_quiet (fail)
  clear q1 q2 q3 q10 q20
  go_wp2_with fail
  go_ret
  exact ⟨rfl, _, rfl⟩
theorem spoil_k {w W : World} {rs : List (Nat × List Value)} (g n cap : Nat) (cur : List Value) (hn : n ≤ cur.length) (h2 : n ≤ 9223372036854775807) (HK : KR w ((g, cur) :: rs) W) :
    Calls Try.prog 43 #[.slice (some ⟨g, 0, none⟩) n cap] W fun e W' => e = .returned (.tuple #[]) ∧ ∃ cur', cur'.length = cur.length ∧ KR w ((g, cur') :: rs) W' := by
  have h3 : (n : Int) ≤ 9223372036854775807 := by omega
  go_enter Try.func43, Try.ntmps43
  go_wp2
  go_loopw [2] (fun v2 W => ∃ k : Nat, v2 = .int .i64 k ∧ k ≤ n ∧ ∃ c : List Value, c.length = cur.length ∧ KR w ((g, c) :: rs) W) (fun v2 _ => n - (intOf v2).toNat)
  case atStart => exact ⟨0, rfl, Nat.zero_le _, cur, rfl, HK⟩
  case round =>
    clear HK
    obtain ⟨k, rfl, hk, c, hc, HK⟩ := hrel
    by_cases hlt : k < n
    · have hkc : k < c.length := by omega
      have k0 := kr_cell HK 0 rfl k _ (List.getElem?_eq_getElem hkc)
      have f0 := kr_frozen HK 0 rfl k hkc
      have HN : KR w _ _ := kr_fset HK 0 rfl k hkc (.int .u8 90) _ rfl
      simp only [List.set_cons_zero] at HN
      have HH : Hid ((c.set k (.int .u8 90)).length = cur.length ∧ KR w ((g, c.set k (.int .u8 90)) :: rs) (wr.setCell ⟨g, k, none⟩ (.int .u8 90))) := ⟨by rw [List.length_set, hc], HN⟩
      generalize c[k]'hkc = u at k0
      clear HK HN hc
      go_wp2_with fail
      go_round
      case rel => exact ⟨k + 1, by simp, by omega, _, HH.out⟩
      case measure => (simp [intOf]; try omega)
    · have HH : Hid (c.length = cur.length ∧ KR w ((g, c) :: rs) wr) := ⟨hc, HK⟩
      clear HK hc
      go_wp2_with fail
      exact bodyPost_end (results_none rfl _ _ _) rfl ⟨rfl, c, HH.out⟩
theorem spoil_none (cap : Nat) (W : World) : Calls Try.prog 43 #[.slice none 0 cap] W fun e W' => e = .returned (.tuple #[]) ∧ W = W' := by
  go_enter Try.func43, Try.ntmps43
  go_wp2
  go_loop [2] (fun v2 => v2 = .int .i64 0) (fun _ => 0)
  case atStart => rfl
  case round =>
    subst hrel
    go_wp2_with fail
    exact bodyPost_end (results_none rfl _ _ _) rfl ⟨rfl, rfl⟩
end Go.Proofs.Ytofpkmfjigjlhaa.Own
