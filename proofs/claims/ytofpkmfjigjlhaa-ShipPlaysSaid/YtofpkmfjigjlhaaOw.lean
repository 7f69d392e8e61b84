/- What dayshift/ship's own, epoch, fresh do. No conditions beside those in each theorem. -/
import Derived.Test.YtofpkmfjigjlhaaEs
namespace Go.Proofs.Ytofpkmfjigjlhaa.Own
open Go.RowKit
set_option linter.unusedSimpArgs false
set_option linter.unusedVariables false
/-- Sizes of entries. -/
def Sized (n : Nat) (es : List SE) : Prop := n ≤ 100000 ∧ ∀ x ∈ es, x.2.length ≤ 140737488351232
set_option maxRecDepth 100000 in
set_option maxHeartbeats 2000000 in
theorem own_k {w : World} (es : List SE) (n : Nat) (hn : Hid (es.length = n)) (hz : Hid (Sized n es)) (sp : Option Addr) (c : Nat) (hE : Hid (ELV w sp es)) :
    Calls Try.prog 31 #[.slice sp n c] w fun e W' => ∃ v l, e = .returned v ∧ KR w l W' ∧ EL l v es := by
  have h2i : (n : Int) ≤ 100000 := by have := hz.out.1; omega
  have hmk := make_ents n (by omega)
  have K0 := kr_new (kr_refl w) (eRow.zRow n) 82
  go_enter Try.func31, Try.ntmps31
  go_wp2
  clear hmk
  go_loopw [12] (fun v12 W => ∃ (i : Nat) (us : List Value) (rows : List (Nat × List Value)), v12 = .int .i64 (i : Int) ∧ i ≤ n ∧ us.length = i ∧ KR w ((w.heap.size, eRow es us n i) :: rows) W ∧ ∀ (j : Nat) (u : Value) (x : SE), us[j]? = some u → es[j]? = some x → FC rows u x.2) (fun v12 _ => n - (intOf v12).toNat)
  case atStart => exact ⟨0, [], [], rfl, Nat.zero_le _, rfl, by unfold eRow; simpa [ecl] using K0, fun j u x h => by simp at h⟩
  case round =>
    clear K0
    obtain ⟨i, us, rows, rfl, hi, hu, HK, HF⟩ := hrel
    have HF : Hid (∀ (j : Nat) (u : Value) (x : SE), us[j]? = some u → es[j]? = some x → FC rows u x.2) := HF
    by_cases hlt : i < n
    · have hii : (i : Int) < (n : Int) := by omega
      obtain ⟨A, rfl, hc⟩ := hE.out (by rw [hn.out]; omega)
      have hg : es[i]? = some (es[i]'(by rw [hn.out]; exact hlt)) := List.getElem?_eq_getElem (by rw [hn.out]; exact hlt)
      obtain ⟨sj, cj, a0, a1, a2, a3⟩ := hc i _ hg
      have hxl := hz.out.2 _ (List.mem_of_getElem? hg)
      have HG : Hid (es[i]? = some (es[i]'(by rw [hn.out]; exact hlt))) := hg
      generalize es[i]'(by rw [hn.out]; exact hlt) = x at a0 a1 a2 a3 HG hxl
      have HA3 : Hid (SrcV w sj (bc x.2)) := a3
      have a0 := kr_old HK a0
      have a1 := kr_old HK a1
      have HU : Hid (us.length = i) := hu
      have HX : Hid (x.2.length ≤ 140737488351232) := hxl
      obtain ⟨m, hm⟩ : ∃ m, m = x.2.length := ⟨_, rfl⟩
      rw [← hm] at a1
      have HM : Hid (m = x.2.length) := hm
      have hmi : (m : Int) ≤ 140737488351232 := by omega
      have hmk := make_row8 m (by omega)
      clear hc hg a3 hu hm hxl a2
      go_upto_region 5 with fail
      clear a0 a1
      have K2 := kr_new HK [.int .i64 x.1, .slice sj m cj] 82
      have HA4 : Hid (SrcV (wr.alloc (.cells [.int .i64 x.1, .slice sj m cj].toArray 82)) sj (bc x.2)) := srcV_keep HA3.out K2.below
      clear HK HA3
      generalize (wr.alloc (.cells [.int .i64 x.1, .slice sj m cj].toArray 82)) = W2 at K2 HA4
      generalize wr.heap.size = b at K2
      have c0 := kr_cell K2 0 rfl 0 _ rfl
      have c1 := kr_cell K2 0 rfl 1 _ rfl
      have zb := kr_lt K2 0 rfl
      go_upto_region 7 with (first | ((with_reducible show wpList _ _ _ (Oper.mk _ (Op.call _) _ _ _ _ :: _) _ _); refine wpList_copy_splice rfl _ _ 41 41 rfl 5 Try.underlying41 u8_size _ _ _ _ _ _ rfl rfl W2.heap.size 0 (madeCells #[.int .u8 0] m).toList 5 (heap_alloc_last _ _) (bc x.2) (by rw [bc_len, ← HM.out]; exact (Nat.min_self m).symm) (fun h => ⟨rfl, srcV_keep HA4.out (bw_alloc (Below.refl _ _) _) h⟩) (by rw [bc_len, ← HM.out, made_len]; omega) (bc_one _) W2.heap.size W2 (bw_alloc (Below.refl _ _) _) (Nat.le_refl _) (fun w2 HG2 HB => ?_)))
      have K3 := kr_made K2 HB (by rw [HG2.out, splice_all _ _ (by rw [bc_len, made_len, ← HM.out])])
      clear c0 c1 zb K2 HB HG2 hmk HA4
      generalize W2.heap.size = bb at K3
      have c0 := kr_cell K3 1 rfl 0 _ rfl
      have hrl := eRow_len es us n i hn.out hi HU.out
      have ci0 := kr_cell K3 2 rfl (i * 2) _ (List.getElem?_eq_getElem (by omega))
      have ci1 := kr_cell K3 2 rfl (i * 2 + 1) _ (List.getElem?_eq_getElem (by omega))
      have fi0 := kr_frozen K3 2 rfl (i * 2) (by omega)
      have fi1 := kr_frozen K3 2 rfl (i * 2 + 1) (by omega)
      have hs1 := eRow_set es us n i hn.out hlt HU.out x HG.out (.slice (some ⟨bb, 0, none⟩) m m)
      have K4 := kr_fset (kr_fset K3 2 rfl (i * 2) (by omega) (.int .i64 x.1) _ rfl) 2 rfl (i * 2 + 1) (by rw [List.length_set]; omega) (.slice (some ⟨bb, 0, none⟩) m m) _ rfl
      simp only [List.set_cons_zero, List.set_cons_succ, List.getElem?_cons_zero] at K4
      rw [hs1] at K4
      have HK4 : Hid (KR w ((bb, bc x.2) :: (b, [Value.int IntKind.i64 x.fst, Value.slice sj m cj]) :: (w.heap.size, eRow es (us ++ [.slice (some ⟨bb, 0, none⟩) m m]) n (i + 1)) :: rows) _) := K4
      clear K4 K3 hs1
      go_wp2_with fail
      go_round
      case rel =>
        refine ⟨i + 1, us ++ [.slice (some ⟨bb, 0, none⟩) m m], (bb, bc x.2) :: rows, by go_num, by omega, by rw [List.length_append, HU.out]; rfl, ?_, fun j u y hu hy => ?_⟩
        · exact kr_permA (kr_drop HK4.out) (List.Perm.swap _ _ _)
        · by_cases hj : j < us.length
          · rw [List.getElem?_append_left hj] at hu
            exact fc_monoL (HF.out j u y hu hy) (fun p hp => List.mem_cons_of_mem _ hp)
          · rw [List.getElem?_append_right (by omega)] at hu
            have e0 : j - us.length = 0 := by
              have := (List.getElem?_eq_some_iff.1 hu).1
              simp at this
              omega
            rw [e0] at hu
            simp at hu
            have e1 : j = i := by have := HU.out; omega
            rw [e1, HG.out] at hy
            injection hy with hy
            subst hu hy
            exact .inr ⟨bb, m, bc x.2, by rw [← HM.out], List.mem_cons_self, by rw [← HM.out]; exact Nat.le_refl _, by rw [bc_len, ← HM.out]; exact Nat.le_refl _, by rw [List.take_of_length_le (by rw [bc_len]; exact Nat.le_refl _)]⟩
      case measure => (simp [intOf]; try omega)
    · obtain rfl : i = n := by omega
      have HKH : Hid (KR w ((w.heap.size, eRow es us i i) :: rows) wr ∧ EL ((w.heap.size, eRow es us i i) :: rows) (.slice (some ⟨w.heap.size, 0, none⟩) i i) es) := by
        refine ⟨HK, us, by rw [hu, hn.out], .inr ⟨w.heap.size, i, _, by rw [hn.out], List.mem_cons_self, by rw [hn.out]; exact Nat.le_refl _, (eRow_len es us i i hn.out hi hu).symm, ?_⟩, fun j u x h1 h2 => fc_monoL (HF.out j u x h1 h2) (fun p hp => List.mem_cons_of_mem _ hp)⟩
        unfold eRow
        have hk := hn.out
        rw [Nat.sub_self, eRow.zRow, List.append_nil, List.take_of_length_le (by rw [ecl_len _ _ (by rw [List.length_take]; omega), List.length_take]; omega), List.take_of_length_le (by omega)]
      clear HK hu
      go_wp2_with fail
      go_ret
      exact ⟨_, _, rfl, HKH.out.1, HKH.out.2⟩
end Go.Proofs.Ytofpkmfjigjlhaa.Own
