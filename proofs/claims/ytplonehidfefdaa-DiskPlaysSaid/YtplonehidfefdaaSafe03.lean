/- DiskSafe: what is synced stays, whatever is called. Plain disks. No conditions beside those in each theorem. -/
import Derived.Test.YtplonehidfefdaaDisk15
namespace Go.Proofs.Ytplonehidfefdaa.Own
open Go.RowKit
set_option linter.unusedSimpArgs false
/-- The file 3 begins with these bytes, and they are safe. -/
def SInv (bs : List Int) (p : PD) : Prop := bs <+: (p.f 3).1 ∧ bs.length ≤ (p.f 3).2
theorem si_put {bs : List Int} {p : PD} (h : SInv bs p) (k : Nat) (x : List Int × Nat) (hx : k = 3 → bs <+: x.1 ∧ bs.length ≤ x.2) : SInv bs (p.put k x) := by
  unfold SInv PD.put
  dsimp only
  by_cases e : 3 = k
  · rw [if_pos e]; exact hx e.symm
  · rw [if_neg e]; exact h
theorem si_cnt {bs : List Int} {p : PD} (h : SInv bs p) : SInv bs (pcnt p) := by
  unfold pcnt
  split
  · exact h
  · exact h
theorem si_app {bs : List Int} {p : PD} (h : SInv bs p) (f : Int) (ys : List Int) : SInv bs (pappD p f ys) := by
  unfold pappD
  split
  · split
    · exact h
    · refine si_cnt (si_put h _ _ (fun e => ?_))
      rw [e]
      exact ⟨List.IsPrefix.trans h.1 (List.prefix_append _ _), h.2⟩
  · exact h
theorem si_sync {bs : List Int} {p : PD} (h : SInv bs p) (f : Int) : SInv bs (psyncD p f) := by
  unfold psyncD pchD
  split
  · split
    · refine si_put (si_cnt h) _ _ (fun e => ?_)
      rw [e]
      exact ⟨h.1, h.1.length_le⟩
    · exact si_cnt h
  · exact h
theorem si_fail {bs : List Int} {p : PD} (h : SInv bs p) (n : Int) : SInv bs (pfail p n) := h
theorem crN_ge (s m : Nat) (x : Option Int) : s ≤ crN s m x := by
  unfold crN
  split
  · omega
  · exact Nat.le_refl _
theorem si_crash {bs : List Int} {p : PD} (h : SInv bs p) (ks : List Int) : SInv bs (pcrash p ks) := by
  unfold SInv pcrash pcrF
  dsimp only
  have h1 := crN_ge (p.f 3).2 (p.f 3).1.length ks[3]?
  exact ⟨List.prefix_take_iff.2 ⟨h.1, Nat.le_trans h.2 h1⟩, Nat.le_trans h.2 h1⟩
theorem si_new (bs : List Int) (h : bs.length ≤ 1000) : pappE pnew 3 bs = 0 ∧ pchE (pappD pnew 3 bs) [3] = 0 ∧ SInv bs (psyncD (pappD pnew 3 bs) 3) := by
  have h1 : pmay pnew [3] = 0 := by unfold pmay; simp [pnew]
  have h2 : ¬ 1048576 < bs.length + (pnew.f (3 : Int).toNat).1.length := by show ¬ _ < _ + 0; omega
  have h3 : pappD pnew 3 bs = pnew.put 3 (bs, 0) := by unfold pappD; rw [if_pos h1, if_neg h2]; rfl
  have h4 : pmay (pnew.put 3 (bs, 0)) [3] = 0 := by unfold pmay; simp [pnew, PD.put]
  have h5 : pcntE (pnew.put 3 (bs, 0)) = 0 := rfl
  refine ⟨?_, ?_, ?_⟩
  · unfold pappE; rw [if_pos h1, if_neg h2]; rfl
  · rw [h3]; unfold pchE; rw [if_pos h4]; rfl
  · rw [h3]
    unfold psyncD pchD
    rw [if_pos h4, if_pos h5]
    exact ⟨List.prefix_refl _, Nat.le_refl _⟩
theorem src_pre {W : World} {sp : Option Addr} {xs bs : List Int} (h : Src W sp xs) (hp : bs <+: xs) : Src W sp bs := by
  intro hl
  obtain ⟨A, hA, hc⟩ := h (Nat.lt_of_lt_of_le hl hp.length_le)
  refine ⟨A, hA, fun j v hv => hc j v ?_⟩
  obtain ⟨t, rfl⟩ := hp
  rw [show bc (bs ++ t) = bc bs ++ bc t from by simp [bc], List.getElem?_append_left (List.getElem?_eq_some_iff.1 hv).1]
  exact hv
theorem dv_alloc {w W : World} {D : Nat} {p : PD} {fs : List (Nat × List Value)} (h : DV w W D p fs) (o : Obj) : DV w (W.alloc o) D p fs := by
  obtain ⟨d, HK, hV⟩ := h
  exact ⟨d, kr_alloc HK o, hV⟩
theorem dv_drewN {w W : World} {D : Nat} {p : PD} {fs : List (Nat × List Value)} (h : DV w W D p fs) (n : Nat) : DV w (W.drewN n) D p fs := by
  obtain ⟨d, HK, hV⟩ := h
  exact ⟨d, kr_call HK (bw_drewN (Below.refl _ _) n), hV⟩
theorem dv_below {w W : World} {D : Nat} {p : PD} {fs : List (Nat × List Value)} (h : DV w W D p fs) : Below w.heap.size w W := (dv_kr h).below
/-- A file that is read: the slice has memory of its own. -/
theorem dv_readk {w W : World} {D : Nat} {p : PD} {fs : List (Nat × List Value)} (h : DV w W D p fs) (k : Nat) (hk : k < 8) :
    Calls Try.prog 14 #[.pointer (some ⟨D, 0, none⟩), .int .i64 k] W fun e W' => ∃ g, e = .returned (.tuple #[.slice (some ⟨g, 0, none⟩) (p.f k).1.length (p.f k).1.length, .int .i64 0]) ∧ DV w W' D p ((g, bc (p.f k).1) :: fs) := by
  obtain ⟨d, HK, hV⟩ := h
  obtain ⟨hF, hs1, hs2, hs3⟩ := hV.file k hk
  refine (read_k d D k hk (p.f k).1 (by omega) HK hF).mono ?_
  rintro e w' ⟨g, rfl, H⟩
  exact ⟨g, rfl, d, kr_swap H, vw_mono hV (fun x hx => List.mem_cons_of_mem _ hx)⟩
theorem fc_row {fs : List (Nat × List Value)} (g : Nat) (bs : List Int) : FC ((g, bc bs) :: fs) (.slice (some ⟨g, 0, none⟩) bs.length bs.length) bs :=
  .inr ⟨g, _, _, rfl, List.mem_cons_self, Nat.le_refl _, by rw [bc_len]; omega, by rw [← bc_len, List.take_length]⟩
theorem row_src {w W : World} {fs : List (Nat × List Value)} {g : Nat} {bs : List Int} (HK : KR w ((g, bc bs) :: fs) W) : Src W (some ⟨g, 0, none⟩) bs := fun _ => ⟨_, rfl, fun j v hv => by
  rw [Addr.add_mid, Nat.zero_add]
  exact kr_cell HK 0 rfl j v hv⟩
theorem dv_len {w W : World} {D : Nat} {p : PD} {fs : List (Nat × List Value)} (h : DV w W D p fs) (k : Nat) (hk : k < 8) : (p.f k).1.length ≤ 1048576 ∧ (p.f k).2 ≤ (p.f k).1.length := by
  obtain ⟨d, HK, hV⟩ := h
  exact ⟨(hV.file k hk).2.2.2, (hV.file k hk).2.2.1⟩
theorem quiet_flip {f : FuncId} {args : Array Value} {w : World} {n : Nat} {v : Value} (h : Calls Try.prog f args (w.drewN n) fun e w' => e = .returned v ∧ w.drewN n = w') : Calls Try.prog f args (w.drewN n) fun e w'' => e = .returned v ∧ ∃ m, w'' = w.drewN m :=
  h.mono fun _ _ ⟨he, hm⟩ => ⟨he, n, hm.symm⟩
theorem add_lit (A : Addr) (m j : Nat) (hj : 0 < j) : A.add (m + j) = ⟨(A.add m).block, (A.add m).off + j, none⟩ := by
  unfold Addr.add
  rw [if_neg (by omega)]
  split
  · rename_i h
    subst h
    simp
  · simp [Nat.add_assoc]
end Go.Proofs.Ytplonehidfefdaa.Own
