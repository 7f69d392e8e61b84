/- The reference's Ship, Promote, Demote, Taken, New. No conditions beside those in each theorem. -/
import Derived.Test.YtofpkmfjigjlhaaRb
namespace Go.Proofs.Ytofpkmfjigjlhaa.Own
open Go.RowKit
set_option linter.unusedSimpArgs false
set_option linter.unusedVariables false
theorem rLent_el {V : World} (es : List SE) (L : Nat) (hL : es.length = L) (hz : Sized L es) (sl : Option Addr) (cl : Nat) (hE : ELV V sl es) :
    Calls Try.prog 54 #[.slice sl L cl] V fun e W' => ∃ s c' l, e = .returned (.slice s L c') ∧ KR V l W' ∧ EL l (.slice s L c') es :=
  (rLent_k (w := V) es L hL hz sl cl hE).mono fun e W' ⟨s, c', rows, vals, he, h⟩ => by
    obtain ⟨l, a, b⟩ := ro_end h
    exact ⟨s, c', _, he, a, b⟩
section
variable {w W : World} {rs im : List (Nat × List Value)} {n : SN} {lv : Value} {D : Nat}
set_option maxRecDepth 100000 in
theorem repoch_k (HK : KR w ((D, ncl n lv) :: rs) W) (HE : EL rs lv n.l) (hB : NB n) (at_ : Nat) (ha : at_ ≤ n.l.length) : Calls Try.prog 56 #[.pointer (some ⟨D, 0, none⟩), .int .i64 (at_ : Int)] W fun e W' => e = .returned (.int .i64 (epAt n.l at_)) ∧ W = W' := by
  obtain ⟨sl, cl, rfl, hlc, hE, _⟩ := el_elv (kr_tail HK) HE
  have k3 := kr_cell HK 0 rfl 3 _ rfl
  have hlen := hB.len
  generalize hL : n.l.length = L at *
  have hLi : (L : Int) ≤ 4096 := by omega
  clear HK HE hlen
  cases at_ with
  | zero =>
    clear hE hL
    go_enter Try.func56, Try.ntmps56
    go_wp2
    go_ret
    exact ⟨rfl, rfl⟩
  | succ i =>
    obtain ⟨A, rfl, hc⟩ := hE (by omega)
    have hg : n.l[i]? = some (n.l[i]'(by omega)) := List.getElem?_eq_getElem (by omega)
    obtain ⟨sj, cj, a0, -⟩ := hc i _ hg
    have hep : epAt n.l (i + 1) = (n.l[i]'(by omega)).1 := epAt_some (by omega)
    rw [hep]
    generalize (n.l[i]'(by omega)).1 = z at a0
    have hii : (i : Int) < (L : Int) := by omega
    have h1 : ¬ (((i + 1 : Nat) : Int) < 1) := by omega
    have h2 : ¬ ((L : Int) < ((i + 1 : Nat) : Int)) := by omega
    have h3 : decide (L < i + 1) = false := by simp; omega
    have hi2 : (i : Int) ≤ 100000 := by omega
    have hsub : (((i + 1 : Nat) : Int)) - 1 = (i : Int) := by omega
    clear hc hg hep ha hL hE
    go_enter Try.func56, Try.ntmps56
    go_wp2
    go_ret
    exact ⟨rfl, rfl⟩
set_option maxRecDepth 100000 in
theorem rdem_k (HK : KR w ((D, ncl n lv) :: rs) W) : Calls Try.prog 52 #[.pointer (some ⟨D, 0, none⟩)] W fun e W' => e = .returned (.int .i64 (sDem n).2) ∧ KR w ((D, ncl (sDem n).1 lv) :: rs) W' := by
  have k1 := kr_cell HK 0 rfl 1 _ rfl
  have f1 := kr_frozen HK 0 rfl 1 (by show 1 < 6; omega)
  unfold sDem
  cases hl : n.ld with
  | false =>
    rw [hl] at k1
    rw [if_pos rfl]
    have H2 : Hid (KR w ((D, ncl n lv) :: rs) W) := HK
    clear HK hl
    go_enter Try.func52, Try.ntmps52
    go_wp2
    go_ret
    exact ⟨rfl, H2.out⟩
  | true =>
    rw [hl] at k1
    rw [if_neg (by simp)]
    have K2 : KR w ((D, ncl { n with ld := false } lv) :: rs) (W.setCell ⟨D, 1, none⟩ (.bool false)) := kr_fset HK 0 rfl 1 (by show 1 < 6; omega) (.bool false) _ rfl
    have H2 : Hid (KR w ((D, ncl { n with ld := false } lv) :: rs) (W.setCell ⟨D, 1, none⟩ (.bool false))) := K2
    clear HK hl K2
    go_enter Try.func52, Try.ntmps52
    go_wp2
    go_ret
    exact ⟨rfl, H2.out⟩
set_option maxRecDepth 100000 in
theorem rprom_k (HK : KR w ((D, ncl n lv) :: rs) W) (HE : EL rs lv n.l) (hB : NB n) : Calls Try.prog 51 #[.pointer (some ⟨D, 0, none⟩)] W fun e W' => e = .returned (.tuple #[.int .i64 (sProm n).2.1, .int .i64 (sProm n).2.2]) ∧ KR w ((D, ncl (sProm n).1 lv) :: rs) W' := by
  obtain ⟨sp, c, rfl, hc⟩ := el_form HE
  have k1 := kr_cell HK 0 rfl 1 _ rfl
  unfold sProm
  cases hl : n.ld with
  | true =>
    rw [hl] at k1
    rw [if_pos rfl]
    have H2 : Hid (KR w ((D, ncl n (.slice sp n.l.length c)) :: rs) W) := HK
    clear HK HE hc hl
    go_enter Try.func51, Try.ntmps51
    go_wp2
    go_ret2
    exact ⟨rfl, H2.out⟩
  | false =>
    rw [hl] at k1
    rw [if_neg (by simp)]
    have k0 := kr_cell HK 0 rfl 0 _ rfl
    have k2 := kr_cell HK 0 rfl 2 _ rfl
    have k3 := kr_cell HK 0 rfl 3 _ rfl
    have f1 := kr_frozen HK 0 rfl 1 (by show 1 < 6; omega)
    have f2 := kr_frozen HK 0 rfl 2 (by show 2 < 6; omega)
    have f5 := kr_frozen HK 0 rfl 5 (by show 5 < 6; omega)
    have k5 := kr_cell HK 0 rfl 5 _ rfl
    have hep := hB.ep
    have hme := hB.me
    obtain ⟨nx, hnx⟩ : ∃ nx, nx = sNext n := ⟨_, rfl⟩
    rw [← hnx]
    have H0 : Hid (KR w ((D, ncl n (.slice sp n.l.length c)) :: rs) W) := HK
    have H2 : Hid (KR w ((D, ncl { n with ep := nx, ld := true, mark := n.l.length } (.slice sp n.l.length c)) :: rs) (((W.setCell ⟨D, 2, none⟩ (.int .i64 nx)).setCell ⟨D, 1, none⟩ (.bool true)).setCell ⟨D, 5, none⟩ (.int .i64 (n.l.length : Int)))) := kr_fset (kr_fset (kr_fset HK 0 rfl 2 (by show 2 < 6; omega) (.int .i64 nx) _ rfl) 0 rfl 1 (by show 1 < 6; omega) (.bool true) _ rfl) 0 rfl 5 (by show 5 < 6; omega) (.int .i64 (n.l.length : Int)) _ rfl
    unfold sNext at hnx
    by_cases hb0 : 4611686018427387904 ≤ n.ep
    · rw [if_pos (by omega)]
      have h0 : n.ep ≥ 4611686018427387904 := by omega
      clear HK HE hc hl hnx hb0 H2 k3 k5 f1 f2 f5 hep hme
      go_enter Try.func51, Try.ntmps51
      go_wp2
      go_ret2
      exact ⟨rfl, H0.out⟩
    · have h0 : ¬ n.ep ≥ 4611686018427387904 := by omega
      have h1 : wrap64 (n.ep + 1) = n.ep + 1 := w64b _ (by omega)
      by_cases hp : (n.ep + 1) % 2 = n.me
      · have hx1 : nx = n.ep + 1 := by omega
        have hr : (n.ep + 1).tmod 2 = n.me := by rw [Int.tmod_eq_emod_of_nonneg (by omega)]; exact hp
        rw [if_neg (by omega)]
        rw [hx1] at H2 ⊢
        have h7 : ¬ n.ep + 1 > 4611686018427387904 := by omega
        clear HK HE hc hl hnx hb0 H0 hp hep hme hx1
        go_enter Try.func51, Try.ntmps51
        go_wp2
        go_ret2
        exact ⟨rfl, H2.out⟩
      · have hx1 : nx = n.ep + 2 := by omega
        have hr : (n.ep + 1).tmod 2 = 1 - n.me := by rw [Int.tmod_eq_emod_of_nonneg (by omega)]; omega
        have hne : ((1 - n.me) == n.me) = false := by simp; omega
        have hne2 : ((1 - n.me) != n.me) = true := by simp; omega
        have h2 : wrap64 (n.ep + 1 + 1) = n.ep + 2 := by rw [w64b _ (by omega)]; omega
        have h2' : wrap64 (n.ep + 2) = n.ep + 2 := w64b _ (by omega)
        have h3 : wrap64 (1 - n.me) = 1 - n.me := w64b _ (by omega)
        rw [hx1] at H2 ⊢
        by_cases hbig : 4611686018427387904 < n.ep + 2
        · rw [if_pos hbig]
          have h7 : n.ep + 2 > 4611686018427387904 := by omega
          clear HK HE hc hl hnx hb0 H2 hp hep hme hx1 hbig k3 k5 f1 f2 f5
          go_enter Try.func51, Try.ntmps51
          go_wp2
          go_ret2
          exact ⟨rfl, H0.out⟩
        · rw [if_neg hbig]
          have h7 : ¬ n.ep + 2 > 4611686018427387904 := by omega
          clear HK HE hc hl hnx hb0 H0 hp hep hme hx1 hbig
          go_enter Try.func51, Try.ntmps51
          go_wp2
          go_ret2
          exact ⟨rfl, H2.out⟩
end
end Go.Proofs.Ytofpkmfjigjlhaa.Own
