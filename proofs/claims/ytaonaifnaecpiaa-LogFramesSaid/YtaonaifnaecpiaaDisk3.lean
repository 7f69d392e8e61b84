/- What dayshift/disk's Read does with a disk in memory. No conditions beside those in each theorem. -/
import Derived.Test.YtaonaifnaecpiaaDisk2
import Derived.Laws.CopyOwn
import Derived.Deep.OwnRows
namespace Go.Proofs.Ytaonaifnaecpiaa.Own
open Go.RowKit
/-- Bytes as cells. -/
def bc (bs : List Int) : List Value := bs.map (.int .u8)
/-- A file's slice holds bytes, in one of the rows. -/
def FC (rs : List (Nat × List Value)) (v : Value) (bs : List Int) : Prop :=
  (v = .slice none 0 0 ∧ bs = []) ∨ ∃ b cap l, v = .slice (some ⟨b, 0, none⟩) bs.length cap ∧ (b, l) ∈ rs ∧ bs.length ≤ cap ∧ cap ≤ l.length ∧ l.take bs.length = bc bs
theorem bc_len (bs : List Int) : (bc bs).length = bs.length := by simp [bc]
theorem bc_one (bs : List Int) : ∀ v ∈ bc bs, v.oneCell' = true := by
  intro v hv
  simp only [bc, List.mem_map] at hv
  obtain ⟨n, _, rfl⟩ := hv
  rfl
theorem src_cells {W : World} {b n : Nat} {l cs : List Value} (h : W.rangeAt b 0 l) (ht : l.take n = cs) (j : Nat) (v : Value) (hv : cs[j]? = some v) : W.cell? ((⟨b, 0, none⟩ : Addr).add j) = some v := by
  rw [Addr.add_mid]
  refine h j v ?_
  rw [← ht, List.getElem?_take] at hv
  split at hv
  · exact hv
  · cases hv
theorem kr_made {w W1 w2 : World} {rs : List (Nat × List Value)} {cs : List Value} {t : TypeId} (HK : KR w rs W1) (hb : Below W1.heap.size W1 w2) (hr : w2.heap[W1.heap.size]? = some (.cells cs.toArray t (0, 0))) : KR w ((W1.heap.size, cs) :: rs) w2 := by
  have h2 := kr_call HK hb
  have hlt : W1.heap.size < w2.heap.size := (Array.getElem?_eq_some_iff.1 hr).1
  refine ⟨h2.below, fun p hp => ?_, ?_⟩
  · rcases List.mem_cons.1 hp with rfl | hp
    · refine ⟨HK.below.size, hlt, fun j v hv => ?_, fun j hj => ⟨?_, ?_⟩⟩
      · rw [Nat.zero_add, cell_of_row _ _ j _ _ _ hr]
        simpa using hv
      · rw [Nat.zero_add, cell_of_row _ _ j _ _ _ hr]
        have : j < cs.length := hj
        simp [this]
      · unfold World.frozen?
        simp [hr]
    · exact h2.rows p hp
  · refine List.Pairwise.cons (fun q hq e => ?_) HK.apart
    have := (HK.rows q hq).2.1
    exact absurd e (Nat.ne_of_gt this)
theorem splice_all {α : Type} (L cs : List α) (h : cs.length = L.length) : splice L 0 cs = cs := by
  unfold splice
  simp [h]
theorem u8_info : (Try.prog.info? 5).map (fun i => (i.zero, i.size, i.bytes)) = some (some (.int .u8 0), 1, 1) := by kernel_rfl
theorem u8_size : (Try.prog.info? 5).map (·.size) = some 1 := by kernel_rfl
theorem made_len (n : Nat) : (madeCells #[Value.int .u8 0] n).toList.length = n := by simp [madeCells]
theorem may_one (d : Dk) (D : Nat) (k : Nat) {w : World} {rs : List (Nat × List Value)} (W1 : World) (b1 : Nat) (H1 : KR w ((b1, [.int .i64 k]) :: (D, d.l) :: rs) W1) : Calls Try.prog 55 #[.pointer (some ⟨D, 0, none⟩), .slice (some ⟨b1, 0, none⟩) 1 1] W1 fun e W' => e = .returned (.int .i64 (mayD d [(k : Int)])) ∧ W1 = W' :=
  may_k d D b1 [(k : Int)] (kr_tail H1) (by simp) (by intro j hj; match j, hj with | 0, _ => exact kr_cell H1 0 rfl 0 _ rfl)
theorem mayD_in (d : Dk) (k : Nat) (hk : k < 8) : mayD d [(k : Int)] = if d.dead = true then 13 else 0 := by
  unfold mayD
  rw [if_neg (by simp; omega)]
theorem read_k (d : Dk) (D : Nat) (k : Nat) (hk : k < 8) (bs : List Int) (hb : bs.length ≤ 2000000) {w W : World} {rs : List (Nat × List Value)} (HK : KR w ((D, d.l) :: rs) W) (hf : FC rs (d.f k).1 bs) :
    Calls Try.prog 45 #[.pointer (some ⟨D, 0, none⟩), .int .i64 k] W fun e W' => ∃ g, e = .returned (.tuple #[.slice (some ⟨g, 0, none⟩) bs.length bs.length, .int .i64 0]) ∧ KR w ((g, bc bs) :: (D, d.l) :: rs) W' := by
  have kb := kr_cell HK 0 rfl _ _ (dk_a d k hk)
  have hk2 : (k : Int) < 8 := by omega
  have hM := fun W1 b1 H1 => may_one d D k (w := w) (rs := rs) W1 b1 H1
  have hm0 : mayD d [(k : Int)] = 0 ∨ mayD d [(k : Int)] = 13 := by
    rw [mayD_in d k hk]
    split
    · exact .inr rfl
    · exact .inl rfl
  have hms : ∀ W : World, (Instr.makeSlice 23 (.int .i64 (bs.length : Int)) (.int .i64 (bs.length : Int))).run Try.prog W = .ok (.slice (some ⟨W.heap.size, 0, none⟩) bs.length bs.length) (W.alloc (.cells (madeCells #[.int .u8 0] bs.length) 5)) := fun W => run_make_row' _ _ _ _ Try.underlying23 u8_info rfl .i64 .i64 bs.length (by omega) (by omega) W
  rcases hf with ⟨h1, hn⟩ | ⟨b, cap, l, h1, hm, hc1, hc2, ht⟩
  · have hl0 : bs.length = 0 := by rw [hn]; rfl
    rw [h1, ← hl0] at kb
    rw [← hl0] at h1
    have HL : Hid (bs.length = 0) := hl0
    clear hl0 hn
    rcases hm0 with h0 | h0
    · skip
      rw [h0] at hM
      go_enter Try.func45, Try.ntmps45
      go_wp2_with (first | (go_at_call 55; have HK2 := kr_new HK [.int .i64 (k : Int)] 3; clear HK; have HK := HK2; clear HK2; refine (hM _ _ HK).mono ?_; rintro e w' ⟨rfl, rfl⟩; have kb2 := kr_cell HK 1 rfl _ _ (dk_a d k hk); rw [h1] at kb2; have zD := kr_lt HK 1 rfl; clear kb; generalize W.alloc _ = W1 at HK kb2 zD ⊢) | ((with_reducible show wpList _ _ _ (Oper.mk _ (Op.call _) _ _ _ _ :: _) _ _); refine wpList_copy_splice rfl _ _ 23 23 rfl 5 Try.underlying23 u8_size _ _ _ _ _ _ rfl rfl W1.heap.size 0 (madeCells #[.int .u8 0] bs.length).toList 5 (heap_alloc_last _ _) (bc bs) (by rw [bc_len]; simp) (fun h => absurd h (by rw [bc_len, show bs.length = 0 from HL]; omega)) (by rw [bc_len, made_len]; omega) (bc_one bs) W1.heap.size W1 (bw_alloc (Below.refl _ _) _) (Nat.le_refl _) (fun w2 HG HB => ?_)))
      go_ret2
      exact ⟨_, rfl, kr_drop (kr_made HK HB (by rw [HG.out, splice_all _ _ (by rw [bc_len, made_len])]))⟩
    · skip
      rw [h0] at hM
      go_enter Try.func45, Try.ntmps45
      go_wp2_with (first | (go_at_call 55; have HK2 := kr_new HK [.int .i64 (k : Int)] 3; clear HK; have HK := HK2; clear HK2; refine (hM _ _ HK).mono ?_; rintro e w' ⟨rfl, rfl⟩; have kb2 := kr_cell HK 1 rfl _ _ (dk_a d k hk); rw [h1] at kb2; have zD := kr_lt HK 1 rfl; clear kb; generalize W.alloc _ = W1 at HK kb2 zD ⊢) | ((with_reducible show wpList _ _ _ (Oper.mk _ (Op.call _) _ _ _ _ :: _) _ _); refine wpList_copy_splice rfl _ _ 23 23 rfl 5 Try.underlying23 u8_size _ _ _ _ _ _ rfl rfl W1.heap.size 0 (madeCells #[.int .u8 0] bs.length).toList 5 (heap_alloc_last _ _) (bc bs) (by rw [bc_len]; simp) (fun h => absurd h (by rw [bc_len, show bs.length = 0 from HL]; omega)) (by rw [bc_len, made_len]; omega) (bc_one bs) W1.heap.size W1 (bw_alloc (Below.refl _ _) _) (Nat.le_refl _) (fun w2 HG HB => ?_)))
      go_ret2
      exact ⟨_, rfl, kr_drop (kr_made HK HB (by rw [HG.out, splice_all _ _ (by rw [bc_len, made_len])]))⟩
  · rw [h1] at kb
    rcases hm0 with h0 | h0
    · skip
      rw [h0] at hM
      go_enter Try.func45, Try.ntmps45
      go_wp2_with (first | (go_at_call 55; have HK2 := kr_new HK [.int .i64 (k : Int)] 3; clear HK; have HK := HK2; clear HK2; refine (hM _ _ HK).mono ?_; rintro e w' ⟨rfl, rfl⟩; have kb2 := kr_cell HK 1 rfl _ _ (dk_a d k hk); rw [h1] at kb2; have zD := kr_lt HK 1 rfl; clear kb; generalize W.alloc _ = W1 at HK kb2 zD ⊢) | ((with_reducible show wpList _ _ _ (Oper.mk _ (Op.call _) _ _ _ _ :: _) _ _); refine wpList_copy_splice rfl _ _ 23 23 rfl 5 Try.underlying23 u8_size _ _ _ _ _ _ rfl rfl W1.heap.size 0 (madeCells #[.int .u8 0] bs.length).toList 5 (heap_alloc_last _ _) (bc bs) (by rw [bc_len]; simp) (fun _ => ⟨rfl, _, rfl, src_cells (World.rangeAt_alloc (kr_mem HK (List.mem_cons_of_mem _ (List.mem_cons_of_mem _ hm))) _) ht⟩) (by rw [bc_len, made_len]; omega) (bc_one bs) W1.heap.size W1 (bw_alloc (Below.refl _ _) _) (Nat.le_refl _) (fun w2 HG HB => ?_)))
      go_ret2
      exact ⟨_, rfl, kr_drop (kr_made HK HB (by rw [HG.out, splice_all _ _ (by rw [bc_len, made_len])]))⟩
    · skip
      rw [h0] at hM
      go_enter Try.func45, Try.ntmps45
      go_wp2_with (first | (go_at_call 55; have HK2 := kr_new HK [.int .i64 (k : Int)] 3; clear HK; have HK := HK2; clear HK2; refine (hM _ _ HK).mono ?_; rintro e w' ⟨rfl, rfl⟩; have kb2 := kr_cell HK 1 rfl _ _ (dk_a d k hk); rw [h1] at kb2; have zD := kr_lt HK 1 rfl; clear kb; generalize W.alloc _ = W1 at HK kb2 zD ⊢) | ((with_reducible show wpList _ _ _ (Oper.mk _ (Op.call _) _ _ _ _ :: _) _ _); refine wpList_copy_splice rfl _ _ 23 23 rfl 5 Try.underlying23 u8_size _ _ _ _ _ _ rfl rfl W1.heap.size 0 (madeCells #[.int .u8 0] bs.length).toList 5 (heap_alloc_last _ _) (bc bs) (by rw [bc_len]; simp) (fun _ => ⟨rfl, _, rfl, src_cells (World.rangeAt_alloc (kr_mem HK (List.mem_cons_of_mem _ (List.mem_cons_of_mem _ hm))) _) ht⟩) (by rw [bc_len, made_len]; omega) (bc_one bs) W1.heap.size W1 (bw_alloc (Below.refl _ _) _) (Nat.le_refl _) (fun w2 HG HB => ?_)))
      go_ret2
      exact ⟨_, rfl, kr_drop (kr_made HK HB (by rw [HG.out, splice_all _ _ (by rw [bc_len, made_len])]))⟩
end Go.Proofs.Ytaonaifnaecpiaa.Own
