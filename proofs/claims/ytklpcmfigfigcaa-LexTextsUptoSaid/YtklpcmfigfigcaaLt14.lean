/- dayshiftref07's Same over lists that are alike. No conditions beside those in each theorem. -/
import Derived.Test.YtklpcmfigfigcaaLt13
import Derived.Deep.DeepCutAuto
namespace Go.Proofs.Ytklpcmfigfigcaa.Own
open Go.RowKit Go.Proofs.YtklpcmfigfigcaaW.PrintWords Go.Proofs.YtklpcmfigfigcaaW.PrintLast Go.Proofs.YtklpcmfigfigcaaW.PrintMore Go.Proofs.Ytklpcmfigfigcaa.Pt
set_option linter.unusedSimpArgs false
set_option linter.unusedVariables false
theorem eqT45 (d : Nat) (w : World) (x0 y0 : Int) (x1 y1 : ByteArray) (x2 y2 : Int) (x3 y3 : Int) :
    (Op.equalIn (d + 2) 45 (.agg #[.int .i64 x0, .string x1, .int .i64 x2, .int .i64 x3]) (.agg #[.int .i64 y0, .string y1, .int .i64 y2, .int .i64 y3])).run Try.prog w = .ok (x0 == y0 && (x1.toList == y1.toList && (x2 == y2 && (x3 == y3)))) w := by
  refine eqA_of Try.underlying45 (by kernel_rfl) ?_
  refine eqf_cons (by rfl) (by go_simp; rfl) (by go_simp; rfl) (by go_simp) ?_
  refine eqf_cons (by rfl) (by go_simp; rfl) (by go_simp; rfl) (by go_simp) ?_
  refine eqf_cons (by rfl) (by go_simp; rfl) (by go_simp; rfl) (by go_simp) ?_
  exact eqf_last (by rfl) (by go_simp; rfl) (by go_simp; rfl) (by go_simp)
attribute [local go_sem high] eqT45
def Alike (pl : Bool) (la lb : List S45) : Prop := la.length = lb.length ∧ ∀ (i : Nat) (x y : S45), la[i]? = some x → lb[i]? = some y → x.f0 = y.f0 ∧ x.f1 = y.f1 ∧ x.f2 = y.f2 ∧ (pl = true → x.f3 = y.f3)
theorem rd45_get {l : List S45} {i : Nat} {t : S45} (h : l[i]? = some t) : rd_T45 l (i : Int) = t := by
  unfold rd_T45; rw [Int.toNat_natCast, List.getD_eq_getElem?_getD, h]; rfl
set_option maxHeartbeats 2000000 in
theorem same45_k {w : World} (la lb : List S45) (n : Nat) (hna : Hid (la.length = n)) (hnb : Hid (lb.length = n)) (h2 : n ≤ 1100000) (A B : Option Addr) (ca cb : Nat) (hA : Hid (Kd.C k45 w A n la)) (hB : Hid (Kd.C k45 w B n lb)) (pl : Bool) (hE : Hid (Alike pl la lb)) :
    Calls Try.prog 11 #[.slice A n ca, .slice B n cb, .bool pl] w fun e W' => e = .returned (.bool true) ∧ Below w.heap.size w W' := by
  have h2i : (n : Int) ≤ 1100000 := by omega
  clear h2
  go_enter Try.func11, Try.ntmps11
  go_wp2
  go_loopw [7] (fun v7 W => ∃ i : Nat, v7 = .int .i64 (i : Int) ∧ i ≤ n ∧ KR w [] W) (fun v7 _ => n - (intOf v7).toNat)
  case atStart => exact ⟨0, rfl, Nat.zero_le _, kr_refl _⟩
  case round =>
    obtain ⟨i, rfl, hi, HK⟩ := hrel
    by_cases hlt : i < n
    · have hii : (i : Int) < (n : Int) := by omega
      obtain ⟨aa, rfl, a0, a1, a2, a3⟩ := at_T45 hA.out (i : Int) (by omega) (by omega)
      obtain ⟨ba, rfl, b0, b1, b2, b3⟩ := at_T45 hB.out (i : Int) (by omega) (by omega)
      have hga : la[i]? = some (la[i]'(by rw [hna.out]; exact hlt)) := List.getElem?_eq_getElem (by rw [hna.out]; exact hlt)
      have hgb : lb[i]? = some (lb[i]'(by rw [hnb.out]; exact hlt)) := List.getElem?_eq_getElem (by rw [hnb.out]; exact hlt)
      obtain ⟨e0, e1, e2, e3⟩ := hE.out.2 i _ _ hga hgb
      rw [rd45_get hga] at a0 a1 a2 a3
      rw [rd45_get hgb, ← e0] at b0
      rw [rd45_get hgb, ← e1] at b1
      rw [rd45_get hgb, ← e2] at b2
      rw [rd45_get hgb] at b3
      have HE3 : Hid (pl = true → (la[i]'(by rw [hna.out]; exact hlt)).f3 = (lb[i]'(by rw [hnb.out]; exact hlt)).f3) := e3
      clear e0 e1 e2 e3 hga hgb
      generalize (lb[i]'(by rw [hnb.out]; exact hlt)).f3 = y3 at b3 HE3
      generalize la[i]'(by rw [hna.out]; exact hlt) = t at a0 a1 a2 a3 b0 b1 b2 HE3
      obtain ⟨f0, f1, f2, x3⟩ := t
      simp only at a0 a1 a2 a3 b0 b1 b2 HE3
      rw [Int.toNat_natCast] at a0 a1 a2 a3 b0 b1 b2 b3
      have a0 := kr_old HK a0
      have a1 := kr_old HK a1
      have a2 := kr_old HK a2
      have a3 := kr_old HK a3
      have WB : Hid (w.cell? (ba.add (i * 4)) = some (.int .i64 f0) ∧ w.cell? ⟨(ba.add (i * 4)).block, (ba.add (i * 4)).off + 1, none⟩ = some (.string f1) ∧ w.cell? ⟨(ba.add (i * 4)).block, (ba.add (i * 4)).off + 2, none⟩ = some (.int .i64 f2) ∧ w.cell? ⟨(ba.add (i * 4)).block, (ba.add (i * 4)).off + 3, none⟩ = some (.int .i64 y3)) := ⟨b0, b1, b2, b3⟩
      clear b0 b1 b2 b3
      go_upto_region 7 with fail
      clear a0 a1 a2 a3
      have K1 := kr_new HK [.int .i64 f0, .string f1, .int .i64 f2, .int .i64 x3] 45
      clear HK
      generalize (wr.alloc (.cells [.int .i64 f0, .string f1, .int .i64 f2, .int .i64 x3].toArray 45)) = W1 at K1
      generalize wr.heap.size = p1 at K1
      have b0 := kr_old K1 WB.out.1
      have b1 := kr_old K1 WB.out.2.1
      have b2 := kr_old K1 WB.out.2.2.1
      have b3 := kr_old K1 WB.out.2.2.2
      go_upto_region 8 with fail
      clear b0 b1 b2 b3
      have K2 := kr_new K1 [.int .i64 f0, .string f1, .int .i64 f2, .int .i64 y3] 45
      clear K1
      generalize (W1.alloc (.cells [.int .i64 f0, .string f1, .int .i64 f2, .int .i64 y3].toArray 45)) = W2 at K2
      generalize W1.heap.size = p2 at K2
      have u3 := kr_cell K2 0 rfl 3 _ rfl
      have g3 := kr_frozen K2 0 rfl 3 (by simp)
      have t3 := kr_cell K2 1 rfl 3 _ rfl
      have h3 := kr_frozen K2 1 rfl 3 (by simp)
      cases pl with
      | true =>
        have hxy := HE3.out rfl
        subst hxy
        have u0 := kr_cell K2 0 rfl 0 _ rfl
        have u1 := kr_cell K2 0 rfl 1 _ rfl
        have u2 := kr_cell K2 0 rfl 2 _ rfl
        have t0 := kr_cell K2 1 rfl 0 _ rfl
        have t1 := kr_cell K2 1 rfl 1 _ rfl
        have t2 := kr_cell K2 1 rfl 2 _ rfl
        have HK2 : Hid (KR w [] W2) := kr_tail (kr_tail K2)
        clear K2 HE3
        go_wp2_with fail
        go_round
        case rel => exact ⟨i + 1, by go_num, by omega, HK2.out⟩
        case measure => (simp [intOf]; try omega)
      | false =>
        have hpp : ¬ p1 = p2 := by have h := (List.pairwise_cons.1 K2.apart).1 _ List.mem_cons_self; exact fun e => h e.symm
        have hpq : ¬ p2 = p1 := fun e => hpp e.symm
        go_upto_region 11 with fail
        have K3 := kr_fset (kr_fset K2 1 rfl 3 (by simp) (.int .i64 0) _ rfl) 0 rfl 3 (by simp) (.int .i64 0) _ rfl
        clear u3 g3 t3 h3 K2
        generalize ((W2.setCell ⟨p1, 3, none⟩ (.int .i64 0)).setCell ⟨p2, 3, none⟩ (.int .i64 0)) = W3 at K3
        simp only [List.set_cons_zero, List.set_cons_succ] at K3
        have u0 := kr_cell K3 0 rfl 0 _ rfl
        have u1 := kr_cell K3 0 rfl 1 _ rfl
        have u2 := kr_cell K3 0 rfl 2 _ rfl
        have u3 := kr_cell K3 0 rfl 3 _ rfl
        have t0 := kr_cell K3 1 rfl 0 _ rfl
        have t1 := kr_cell K3 1 rfl 1 _ rfl
        have t2 := kr_cell K3 1 rfl 2 _ rfl
        have t3 := kr_cell K3 1 rfl 3 _ rfl
        have HK2 : Hid (KR w [] W3) := kr_tail (kr_tail K3)
        clear K3 HE3
        go_wp2_with fail
        go_round
        case rel => exact ⟨i + 1, by go_num, by omega, HK2.out⟩
        case measure => (simp [intOf]; try omega)
    · obtain rfl : i = n := by omega
      have HB : Hid (Below w.heap.size w wr) := HK.below
      clear HK
      go_wp2_with fail
      refine bodyPost_ret (v := .bool true) (by simp [results, Try.results11, go_sem]) rfl ⟨rfl, HB.out⟩
end Go.Proofs.Ytklpcmfigfigcaa.Own
