/- dayshift/lex's Fold. No conditions beside those in each theorem. -/
import Derived.Test.YtklpcmfigfigcaaLx4
import Derived.Test.YtklpcmfigfigcaaAp
import Derived.Laws.MakeOwn
import Derived.Laws.BytesArg
namespace Go.Proofs.Ytklpcmfigfigcaa.Own
open Go.RowKit Go.Proofs.YtklpcmfigfigcaaW.PrintWords Go.Proofs.Ytklpcmfigfigcaa.Pk
set_option linter.unusedSimpArgs false
set_option linter.unusedVariables false
/-- Bytes as a string, out of cells. -/
theorem conv_cells {W : World} {co : Option Addr} {bs : List Int} (len cap : Nat) (hl : bs.length = len) (h : SrcV W co (bs.map (.int .u8))) : (convert 44 9 (.slice co len cap)).run Try.prog W = .ok (.string (strOfNums bs)) W := by
  subst hl
  rcases co with _ | A
  · have h0 : bs = [] := by
      rcases bs with _ | ⟨b, bs⟩
      · rfl
      · obtain ⟨A, hA, _⟩ := h (by simp)
        cases hA
    subst h0
    exact run_convert_bytes_nil W 44 5 Try.underlying44 Try.underlying5 _ _ _ Try.underlying9
  · have hl : (loadCells A bs.length).run Try.prog W = .ok (bs.map (Value.int .u8)).toArray W := by
      have := run_loadCells_list (P := Try.prog) W A (bs.map (Value.int .u8)) (fun j v hj => by
        obtain ⟨B, hB, hc⟩ := h (by
          have := (List.getElem?_eq_some_iff.1 hj).1
          omega)
        injection hB with hB
        subst hB
        exact hc j v hj)
      simpa using this
    rw [run_convert_bytes_string W 44 9 5 (some A) bs.length cap Try.underlying44 Try.underlying5 Try.underlying9, run_bytesToString W A bs.length cap bs hl, foldl_push_bytes]
    simp [strOfNums, ByteArray.empty, ByteArray.emptyWithCapacity]
    rfl
/-- A letter as a small one. -/
def foldC (c : Int) : Int := if 65 ≤ c ∧ c ≤ 90 then c + 32 else c
theorem or_all : ∀ n : Fin 26, bits .or .u8 ((n.val : Int) + 65) 32 = (n.val : Int) + 65 + 32 := by decide +kernel
theorem or_small (c : Int) (h : 65 ≤ c ∧ c ≤ 90) : bits .or .u8 c 32 = c + 32 := by
  have := or_all ⟨(c - 65).toNat, by omega⟩
  rw [show ((((⟨(c - 65).toNat, by omega⟩ : Fin 26).val : Nat) : Int) + 65) = c from by show (((c - 65).toNat : Nat) : Int) + 65 = c; omega] at this
  exact this
def FW (w : World) (g : Nat) (bs : List Int) (k : Nat) (W : World) : Prop := Below w.heap.size w W ∧ ∀ j x, bs[j]? = some x → W.cell? ⟨g, j, none⟩ = some (.int .u8 (if j < k then foldC x else x)) ∧ W.frozen? ⟨g, j, none⟩ = false
theorem fw_start (w : World) (s : ByteArray) : FW w w.heap.size (bytesOf s) 0 (Lib.bytesWorld w 5 s) := by
  refine ⟨bytes_below (Below.refl _ _) (Nat.le_refl _) _ _, fun j x hx => ?_⟩
  have hj : j < s.size := by have := (List.getElem?_eq_some_iff.1 hx).1; rwa [bytesOf_length] at this
  refine ⟨?_, ?_⟩
  · rw [Lib.bytesWorld_cell w _ s j hj, if_neg (by omega)]
    unfold bytesOf at hx
    rw [List.getElem?_map] at hx
    have h' : j < s.data.toList.length := by rw [data_length]; exact hj
    rw [List.getElem?_eq_getElem h'] at hx
    simp only [Option.map_some, Option.some.injEq] at hx
    rw [← hx, List.getD_eq_getElem?_getD, List.getElem?_eq_getElem h']
    rfl
  · unfold World.frozen?
    rw [Lib.bytesWorld_at_new]
    have : j < (Lib.bytesCells w 5 s).size := by unfold Lib.bytesCells; simp; omega
    simp
    omega
theorem fw_keep {w W : World} {g : Nat} {bs : List Int} {k : Nat} (h : FW w g bs k W) (hk : ∀ x, bs[k]? = some x → foldC x = x) : FW w g bs (k + 1) W := by
  refine ⟨h.1, fun j x hx => ?_⟩
  obtain ⟨h1, h2⟩ := h.2 j x hx
  refine ⟨?_, h2⟩
  rw [h1]
  by_cases hj : j = k
  · subst hj
    rw [if_neg (by omega), if_pos (by omega), hk x hx]
  · by_cases hl : j < k
    · rw [if_pos hl, if_pos (by omega)]
    · rw [if_neg hl, if_neg (by omega)]
theorem fw_set {w W : World} {g : Nat} {bs : List Int} {k : Nat} (hg : w.heap.size ≤ g) (h : FW w g bs k W) (y : Int) (hk : ∀ x, bs[k]? = some x → foldC x = y) : FW w g bs (k + 1) (W.setCell ⟨g, k, none⟩ (.int .u8 y)) := by
  refine ⟨h.1.setCell hg _, fun j x hx => ?_⟩
  obtain ⟨h1, h2⟩ := h.2 j x hx
  refine ⟨?_, by rw [frozen_setCell]; exact h2⟩
  by_cases hj : j = k
  · subst hj
    rw [World.cell?_setCell_same _ _ _ h1, if_pos (by omega), hk x hx]
  · rw [World.cell?_setCell_other (h := by intro e; injection e with _ e _; omega), h1]
    by_cases hl : j < k
    · rw [if_pos hl, if_pos (by omega)]
    · rw [if_neg hl, if_neg (by omega)]
theorem fw_src {w W : World} {g : Nat} {bs : List Int} {k : Nat} (h : FW w g bs k W) (hk : bs.length ≤ k) : SrcV W (some ⟨g, 0, none⟩) ((bs.map foldC).map (.int .u8)) := fun _ => ⟨_, rfl, fun j v hv => by
  rw [Addr.add_mid, Nat.zero_add]
  rw [List.getElem?_map, List.getElem?_map] at hv
  cases hx : bs[j]? with
  | none => rw [hx] at hv; cases hv
  | some x =>
    rw [hx] at hv
    simp only [Option.map_some, Option.some.injEq] at hv
    have := (List.getElem?_eq_some_iff.1 hx).1
    rw [(h.2 j x hx).1, if_pos (by omega), hv]⟩
set_option maxHeartbeats 1000000 in
theorem fold_k (s : ByteArray) (hs : s.size ≤ 9223372036854775807) (w : World) : Calls Try.prog 10 #[.string s] w fun e W' => e = .returned (.string (strOfNums ((bytesOf s).map foldC))) ∧ Below w.heap.size w W' := by
  have hsi : (s.size : Int) ≤ 9223372036854775807 := by omega
  have kb := fun W => print_bytes (P := Try.prog) 9 44 5 Try.underlying9 Try.underlying44 Try.underlying5 s W
  have HF0 : Hid (FW w w.heap.size (bytesOf s) 0 (Lib.bytesWorld w 5 s)) := fw_start w s
  clear hs
  go_enter Try.func10, Try.ntmps10
  go_wp2
  clear kb
  go_loopw [10] (fun v10 W => ∃ k : Nat, v10 = .int .i64 (k : Int) ∧ k ≤ s.size ∧ FW w w.heap.size (bytesOf s) k W) (fun v10 _ => s.size - (intOf v10).toNat)
  case atStart => exact ⟨0, rfl, Nat.zero_le _, HF0.out⟩
  case round =>
    obtain ⟨k, rfl, hk, HB0⟩ := hrel
    have HF : Hid (FW w w.heap.size (bytesOf s) k wr) := HB0
    by_cases hlt : k < s.size
    · have hki : (k : Int) < (s.size : Int) := by omega
      have hkl : k < (bytesOf s).length := by rw [bytesOf_length]; exact hlt
      have hx := List.getElem?_eq_getElem hkl
      obtain ⟨c0, f0⟩ := HB0.2 k _ hx
      rw [if_neg (by omega)] at c0
      generalize (bytesOf s)[k] = c at hx c0
      have HX : Hid ((bytesOf s)[k]? = some c) := hx
      clear HB0 hx HF0
      by_cases hc : 65 ≤ c ∧ c ≤ 90
      · have ho := or_small c hc
        have HN : Hid (FW w w.heap.size (bytesOf s) (k + 1) (wr.setCell ⟨w.heap.size, k, none⟩ (.int .u8 (c + 32)))) := fw_set (Nat.le_refl _) HF.out _ (fun x h => by rw [HX.out] at h; injection h with h; subst h; unfold foldC; rw [if_pos hc])
        obtain ⟨h1, h2⟩ := hc
        go_wp2_with fail
        go_round
        case rel => exact ⟨k + 1, by go_num, by omega, HN.out⟩
        case measure => (simp [intOf]; try omega)
      · have HN : Hid (FW w w.heap.size (bytesOf s) (k + 1) wr) := fw_keep HF.out (fun x h => by rw [HX.out] at h; injection h with h; subst h; unfold foldC; rw [if_neg hc])
        have h1 : c < 65 ∨ 90 < c := by omega
        rcases h1 with h1 | h1
        · have h3 : ¬ 65 ≤ c := by omega
          clear hc
          go_wp2_with fail
          go_round
          case rel => exact ⟨k + 1, by go_num, by omega, HN.out⟩
          case measure => (simp [intOf]; try omega)
        · have h3 : 65 ≤ c := by omega
          have h4 : ¬ c ≤ 90 := by omega
          clear hc
          go_wp2_with fail
          go_round
          case rel => exact ⟨k + 1, by go_num, by omega, HN.out⟩
          case measure => (simp [intOf]; try omega)
    · obtain rfl : k = s.size := by omega
      have q1 := conv_cells (W := wr) (co := some ⟨w.heap.size, 0, none⟩) (bs := (bytesOf s).map foldC) s.size (grownCap w s.size 0 5) (by rw [List.length_map, bytesOf_length]) (fw_src HF.out (by rw [bytesOf_length]; exact Nat.le_refl _))
      have HB : Hid (Below w.heap.size w wr) := HF.out.1
      clear HB0 HF HF0
      go_wp2_with fail
      refine bodyPost_ret (v := .string (strOfNums ((bytesOf s).map foldC))) (by simp [results, Try.results10, go_sem]) rfl ⟨rfl, HB.out⟩
end Go.Proofs.Ytklpcmfigfigcaa.Own
