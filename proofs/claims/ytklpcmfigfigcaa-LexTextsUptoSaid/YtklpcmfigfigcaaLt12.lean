/- dayshift/lex's Join. No conditions beside those in each theorem. -/
import Derived.Test.YtklpcmfigfigcaaLx11
import Derived.Test.YtklpcmfigfigcaaShf
import Derived.Test.YtklpcmfigfigcaaPtx0
import Derived.Test.YtklpcmfigfigcaaKr
import Derived.Deep.DeepCutAuto
import Derived.Laws.MakeOwn
namespace Go.Proofs.Ytklpcmfigfigcaa.Own
open Go.RowKit Go.Proofs.YtklpcmfigfigcaaW.PrintWords Go.Proofs.Ytklpcmfigfigcaa.Pt
set_option linter.unusedSimpArgs false
set_option linter.unusedVariables false
theorem str_info : (Try.prog.info? 9).map (fun i => (i.zero, i.size, i.bytes)) = some (some (.string ⟨#[]⟩), 1, 16) := by kernel_rfl
theorem make_strs (n : Nat) (hn : n ≤ 1100000) (W : World) : (Instr.makeSlice 46 (.int .i64 (n : Int)) (.int .i64 (n : Int))).run Try.prog W = .ok (.slice (some ⟨W.heap.size, 0, none⟩) n n) (W.alloc (.cells (List.replicate n (.string ⟨#[]⟩)).toArray 9)) := by
  obtain ⟨i, hi0, hi1⟩ := Option.map_eq_some_iff.1 str_info
  simp only [Prod.mk.injEq] at hi1
  obtain ⟨hz, hs, hb⟩ := hi1
  have hr := run_make (P := Try.prog) W 46 9 i (.string ⟨#[]⟩) Try.underlying46 hi0 hz .i64 .i64 (n : Int) (n : Int) (by omega) (by omega) (by rw [hb]; omega) (by omega)
  rw [hs, show ((n : Int)).toNat = n from by omega, Nat.mul_one] at hr
  have e : madeCells (Value.string ⟨#[]⟩).cells n = (List.replicate n (.string ⟨#[]⟩)).toArray := Array.ext (by simp [madeCells, Value.cells]) (fun i h1 h2 => by simp [madeCells, Value.cells, Nat.mod_one])
  rw [e] at hr
  exact hr
def strCells (l : List S28) (n i : Nat) : List Value := (l.take i).map (fun t => .string t.f1) ++ List.replicate (n - i) (.string ⟨#[]⟩)
theorem strCells_len (l : List S28) (n i : Nat) (hn : l.length = n) (hi : i ≤ n) : (strCells l n i).length = n := by
  unfold strCells; simp; omega
theorem strCells_set (l : List S28) (n i : Nat) (hn : l.length = n) (hi : i < n) (t : S28) (ht : l[i]? = some t) : (strCells l n i).set i (.string t.f1) = strCells l n (i + 1) := by
  unfold strCells
  have hl : ((l.take i).map (fun t : S28 => Value.string t.f1)).length = i := by simp; omega
  rw [List.set_append_right _ _ (by omega), hl, Nat.sub_self, show n - i = (n - (i + 1)) + 1 from by omega, List.replicate_succ, List.set_cons_zero, List.take_add_one, ht]
  simp
set_option maxHeartbeats 2000000 in
theorem ljoin_k {w : World} (l : List S28) (n : Nat) (hn : Hid (l.length = n)) (h2 : n ≤ 1100000) (A : Option Addr) (c : Nat) (hC : Hid (Kd.C k28 w A n l)) (hlen : Hid ((Lib.join (l.map (·.f1.data.toList)) [32]).length ≤ 140737488355328)) :
    Calls Try.prog 13 #[.slice A n c] w fun e W' => e = .returned (.string ⟨(Lib.join (l.map (·.f1.data.toList)) [32]).toArray⟩) ∧ Below w.heap.size w W' := by
  have hmk := make_strs n h2
  have h2i : (n : Int) ≤ 1100000 := by omega
  have K0 := kr_new (kr_refl w) (List.replicate n (.string ⟨#[]⟩)) 9
  have HN2 : Hid (n ≤ 1100000) := h2
  clear h2
  go_enter Try.func13, Try.ntmps13
  go_wp2
  clear hmk
  go_loopw [11] (fun v11 W => ∃ i : Nat, v11 = .int .i64 (i : Int) ∧ i ≤ n ∧ KR w [(w.heap.size, strCells l n i)] W) (fun v11 _ => n - (intOf v11).toNat)
  case atStart => exact ⟨0, rfl, Nat.zero_le _, K0⟩
  case round =>
    clear K0
    obtain ⟨i, rfl, hi, HK⟩ := hrel
    by_cases hlt : i < n
    · have hii : (i : Int) < (n : Int) := by omega
      obtain ⟨ad, rfl, a0, a1, a2, a3⟩ := at_T28 hC.out (i : Int) (by omega) (by omega)
      have hg : l[i]? = some (l[i]'(by rw [hn.out]; exact hlt)) := List.getElem?_eq_getElem (by rw [hn.out]; exact hlt)
      have hrd : rd_T28 l (i : Int) = l[i]'(by rw [hn.out]; exact hlt) := by
        unfold rd_T28; rw [Int.toNat_natCast, List.getD_eq_getElem?_getD, hg]; rfl
      rw [hrd] at a0 a1 a2 a3
      have HS : Hid ((strCells l n i).set i (.string (l[i]'(by rw [hn.out]; exact hlt)).f1) = strCells l n (i + 1)) := strCells_set l n i hn.out hlt _ hg
      generalize l[i]'(by rw [hn.out]; exact hlt) = t at a0 a1 a2 a3 HS
      rw [Int.toNat_natCast] at a0 a1 a2 a3
      have a0 := kr_old HK a0
      have a1 := kr_old HK a1
      have a2 := kr_old HK a2
      have a3 := kr_old HK a3
      have hsl := strCells_len l n i hn.out hi
      clear hrd hg
      go_upto_region 5 with fail
      clear a0 a1 a2 a3
      have K2 := kr_new HK [.int .i64 t.f0, .string t.f1, .int .i64 t.f2, .int .i64 t.f3] 28
      clear HK
      generalize (wr.alloc (.cells [.int .i64 t.f0, .string t.f1, .int .i64 t.f2, .int .i64 t.f3].toArray 28)) = W2 at K2
      generalize wr.heap.size = b at K2
      have c1 := kr_cell K2 0 rfl 1 _ rfl
      have hil : i < (strCells l n i).length := by omega
      have ci := kr_cell K2 1 rfl i _ (List.getElem?_eq_getElem hil)
      have fi := kr_frozen K2 1 rfl i hil
      have K3 := kr_tail (kr_fset K2 1 rfl i hil (.string t.f1) _ HS.out)
      have HK3 : Hid (KR w [(w.heap.size, strCells l n (i + 1))] (W2.setCell ⟨w.heap.size, i, none⟩ (.string t.f1))) := K3
      generalize (strCells l n i)[i] = u0 at ci
      clear K3 K2 hil hsl HS
      go_wp2_with fail
      go_round
      case rel => exact ⟨i + 1, by go_num, by omega, HK3.out⟩
      case measure => (simp [intOf]; try omega)
    · obtain rfl : i = n := by omega
      have hlt2 := kr_lt HK 0 rfl
      have hj := Try.strings_Join w.heap.size 0 i (l.map (·.f1)) ⟨#[32]⟩ wr (fun j x hx => by
        rw [List.getElem?_map] at hx
        cases hy : l[j]? with
        | none => rw [hy] at hx; cases hx
        | some t =>
          rw [hy] at hx
          simp only [Option.map_some, Option.some.injEq] at hx
          subst hx
          rw [Nat.zero_add]
          refine kr_cell HK 0 rfl j _ ?_
          have hjl := (List.getElem?_eq_some_iff.1 hy).1
          unfold strCells
          rw [List.take_of_length_le (by rw [hn.out]; omega), List.getElem?_append_left (by rw [List.length_map]; exact hjl), List.getElem?_map, hy]
          rfl) hlt2 (by rw [List.length_map, hn.out]; have := HN2.out; omega) (by rw [List.length_map, hn.out]; exact Nat.le_refl _) (by rw [List.map_map]; exact hlen.out)
      rw [List.length_map, hn.out, List.map_map] at hj
      have HB : Hid (Below w.heap.size w wr) := HK.below
      have HJL : Hid ((Lib.join (List.map ((fun x => x.data.toList) ∘ fun x => x.f1) l) [32]).toArray = (Lib.join (l.map (·.f1.data.toList)) [32]).toArray) := rfl
      clear hlt2 HK
      go_wp2_with (go_at_call 21; refine hj.mono ?_; rintro e w5 ⟨rfl, HB5⟩)
      refine bodyPost_ret (v := .string ⟨(Lib.join (l.map (·.f1.data.toList)) [32]).toArray⟩) (by simp [results, Try.results13, go_sem]; rfl) rfl ⟨rfl, bw_step HB.out HB5⟩
end Go.Proofs.Ytklpcmfigfigcaa.Own
