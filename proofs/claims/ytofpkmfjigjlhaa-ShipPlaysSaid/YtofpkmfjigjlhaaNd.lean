/- What the small calls of dayshift/ship do with a place in memory. No conditions beside those in each theorem. -/
import Derived.Test.YtofpkmfjigjlhaaOw
import Derived.BigQuiet
namespace Go.Proofs.Ytofpkmfjigjlhaa.Own
open Go.RowKit
set_option linter.unusedSimpArgs false
set_option linter.unusedVariables false
/-- A place's cells. -/
def ncl (n : SN) (lv : Value) : List Value := [.int .i64 n.me, .bool n.ld, .int .i64 n.ep, lv, .int .i64 (n.safe : Int), .int .i64 (n.mark : Int)]
/-- What a place's numbers can be. -/
structure NB (n : SN) : Prop where
  me : n.me = 0 ∨ n.me = 1
  ep : 0 ≤ n.ep ∧ n.ep ≤ 4611686018427387904
  len : n.l.length ≤ 4096
  data : ∀ x ∈ n.l, x.2.length ≤ 60000
  safe : n.safe ≤ 4096
  mark : n.mark ≤ 4096
  ld : n.ld = true → n.mark ≤ n.l.length
theorem nb_sized {n : SN} (h : NB n) : Sized n.l.length n.l := ⟨by have := h.len; omega, fun x hx => by have := h.data x hx; omega⟩
theorem w64b (n : Int) (h : -9223372036854775808 ≤ n ∧ n ≤ 9223372036854775807) : wrap64 n = n := by unfold wrap64; omega
theorem epAt_k {w : World} (es : List SE) (n at_ : Nat) (hn : Hid (es.length = n)) (ha : at_ ≤ n) (h2 : n ≤ 100000) (sp : Option Addr) (c : Nat) (hE : ELV w sp es) :
    Calls Try.prog 33 #[.slice sp n c, .int .i64 (at_ : Int)] w fun e W' => e = .returned (.int .i64 (epAt es at_)) ∧ w = W' := by
  cases at_ with
  | zero =>
    clear hE
    go_enter Try.func33, Try.ntmps33
    go_wp2
    go_ret
    exact ⟨rfl, rfl⟩
  | succ i =>
    obtain ⟨A, rfl, hc⟩ := hE (by rw [hn.out]; omega)
    have hg : es[i]? = some (es[i]'(by rw [hn.out]; omega)) := List.getElem?_eq_getElem (by rw [hn.out]; omega)
    obtain ⟨sj, cj, a0, -⟩ := hc i _ hg
    have hep : epAt es (i + 1) = (es[i]'(by rw [hn.out]; omega)).1 := epAt_some (by rw [hn.out]; omega)
    rw [hep]
    generalize (es[i]'(by rw [hn.out]; omega)).1 = z at a0
    have hii : (i : Int) < (n : Int) := by omega
    have hne : (((i + 1 : Nat) : Int) == 0) = false := by simp; omega
    have hi2 : (i : Int) ≤ 100000 := by omega
    have hsub : (((i + 1 : Nat) : Int)) - 1 = (i : Int) := by omega
    clear hc hg hE hep ha h2
    go_enter Try.func33, Try.ntmps33
    go_wp2
    go_ret
    exact ⟨rfl, rfl⟩
theorem leader_nil {w : World} : Calls Try.prog 32 #[.pointer none] w fun e W' => e = .returned (.int .i64 2) ∧ w = W' := by
  go_enter Try.func32, Try.ntmps32
  go_wp2
  go_ret
  exact ⟨rfl, rfl⟩
section
variable {w W : World} {rs : List (Nat × List Value)} {n : SN} {lv : Value} {D : Nat}
theorem leader_k (HK : KR w ((D, ncl n lv) :: rs) W) : Calls Try.prog 32 #[.pointer (some ⟨D, 0, none⟩)] W fun e W' => e = .returned (.int .i64 (if n.ld = true then 0 else 5)) ∧ W = W' := by
  have k1 := kr_cell HK 0 rfl 1 _ rfl
  clear HK
  cases hl : n.ld with
  | true =>
    rw [hl] at k1
    clear hl
    go_enter Try.func32, Try.ntmps32
    go_wp2
    go_ret
    exact ⟨rfl, rfl⟩
  | false =>
    rw [hl] at k1
    clear hl
    go_enter Try.func32, Try.ntmps32
    go_wp2
    go_ret
    exact ⟨rfl, rfl⟩
theorem new_bad (me : Int) (h : me < 0 ∨ 2 ≤ me) : Calls Try.prog 24 #[.int .i64 me] W fun e W' => e = .returned (.tuple #[.pointer none, .int .i64 1]) ∧ W = W' := by
  rcases h with h | h
  · go_enter Try.func24, Try.ntmps24
    go_wp2
    go_ret2
    exact ⟨rfl, rfl⟩
  · have h0 : ¬ me < 0 := by omega
    go_enter Try.func24, Try.ntmps24
    go_wp2
    go_ret2
    exact ⟨rfl, rfl⟩
theorem new_k (HK : KR w rs W) (me : Int) (h : me = 0 ∨ me = 1) : Calls Try.prog 24 #[.int .i64 me] W fun e W' => ∃ D, e = .returned (.tuple #[.pointer (some ⟨D, 0, none⟩), .int .i64 0]) ∧ KR w ((D, ncl (sNew me) (.slice none 0 0)) :: rs) W' := by
  have K1 := kr_new HK (ncl (sNew me) (.slice none 0 0)) 85
  have HH : Hid (KR w ((W.heap.size, ncl (sNew me) (.slice none 0 0)) :: rs) (W.alloc (.cells (ncl (sNew me) (.slice none 0 0)).toArray 85))) := K1
  clear K1 HK
  rcases h with rfl | rfl
  · go_enter Try.func24, Try.ntmps24
    go_wp2
    go_ret2
    exact ⟨_, rfl, HH.out⟩
  · go_enter Try.func24, Try.ntmps24
    go_wp2
    go_ret2
    exact ⟨_, rfl, HH.out⟩
theorem yield_k (HK : KR w ((D, ncl n lv) :: rs) W) (e : Int) : Calls Try.prog 35 #[.pointer (some ⟨D, 0, none⟩), .int .i64 e] W fun e' W' => e' = .returned (.tuple #[]) ∧ KR w ((D, ncl { n with ep := e, ld := false } lv) :: rs) W' := by
  have k1 := kr_cell HK 0 rfl 1 _ rfl
  have k2 := kr_cell HK 0 rfl 2 _ rfl
  have f1 := kr_frozen HK 0 rfl 1 (by show 1 < 6; omega)
  have f2 := kr_frozen HK 0 rfl 2 (by show 2 < 6; omega)
  have H2 : Hid (KR w ((D, ncl { n with ep := e, ld := false } lv) :: rs) ((W.setCell ⟨D, 2, none⟩ (.int .i64 e)).setCell ⟨D, 1, none⟩ (.bool false))) := kr_fset (kr_fset HK 0 rfl 2 (by show 2 < 6; omega) (.int .i64 e) _ rfl) 0 rfl 1 (by show 1 < 6; omega) (.bool false) _ rfl
  clear HK
  go_enter Try.func35, Try.ntmps35
  go_wp2
  exact bodyPost_end (results_none rfl _ _ _) rfl ⟨rfl, H2.out⟩
theorem dem_k (HK : KR w ((D, ncl n lv) :: rs) W) : Calls Try.prog 18 #[.pointer (some ⟨D, 0, none⟩)] W fun e' W' => e' = .returned (.int .i64 (sDem n).2) ∧ KR w ((D, ncl (sDem n).1 lv) :: rs) W' := by
  have hl := leader_k HK
  have k1 := kr_cell HK 0 rfl 1 _ rfl
  have f1 := kr_frozen HK 0 rfl 1 (by show 1 < 6; omega)
  have H2 : Hid (KR w ((D, ncl { n with ld := false } lv) :: rs) (W.setCell ⟨D, 1, none⟩ (.bool false))) := kr_fset HK 0 rfl 1 (by show 1 < 6; omega) (.bool false) _ rfl
  unfold sDem
  cases hd : n.ld with
  | true =>
    rw [hd, if_pos rfl] at hl
    rw [if_neg (by simp)]
    clear HK hd
    go_enter Try.func18, Try.ntmps18
    go_wp2_with (go_at_call 32; refine hl.mono ?_; rintro e w1 ⟨rfl, rfl⟩)
    go_ret
    exact ⟨rfl, H2.out⟩
  | false =>
    rw [hd, if_neg (by simp)] at hl
    rw [if_pos rfl]
    have H3 : Hid (KR w ((D, ncl n lv) :: rs) W) := HK
    clear HK hd H2
    go_enter Try.func18, Try.ntmps18
    go_wp2_with (go_at_call 32; refine hl.mono ?_; rintro e w1 ⟨rfl, rfl⟩)
    go_ret
    exact ⟨rfl, H3.out⟩
theorem leads_k (HK : KR w ((D, ncl n lv) :: rs) W) : Calls Try.prog 15 #[.pointer (some ⟨D, 0, none⟩)] W fun e W' => e = .returned (.bool n.ld) ∧ ∃ k, W' = W.drewN k := by
  have k1 := kr_cell HK 0 rfl 1 _ rfl
  clear HK
  go_enter Try.func15, Try.ntmps15
  go_wp2
  go_ret
  exact ⟨rfl, 0, rfl⟩
theorem epoch_k (HK : KR w ((D, ncl n lv) :: rs) W) : Calls Try.prog 16 #[.pointer (some ⟨D, 0, none⟩)] W fun e W' => e = .returned (.int .i64 n.ep) ∧ W = W' := by
  have k1 := kr_cell HK 0 rfl 2 _ rfl
  clear HK
  go_enter Try.func16, Try.ntmps16
  go_wp2
  go_ret
  exact ⟨rfl, rfl⟩
theorem safe_k (HK : KR w ((D, ncl n lv) :: rs) W) : Calls Try.prog 12 #[.pointer (some ⟨D, 0, none⟩)] W fun e W' => e = .returned (.int .i64 (n.safe : Int)) ∧ W = W' := by
  have k1 := kr_cell HK 0 rfl 4 _ rfl
  clear HK
  go_enter Try.func12, Try.ntmps12
  go_wp2
  go_ret
  exact ⟨rfl, rfl⟩
theorem log_k (HK : KR w ((D, ncl n lv) :: rs) W) (HE : EL rs lv n.l) (hB : NB n) : Calls Try.prog 11 #[.pointer (some ⟨D, 0, none⟩)] W fun e W' => ∃ v l, e = .returned v ∧ KR w (l ++ (D, ncl n lv) :: rs) W' ∧ EL l v n.l := by
  have k1 := kr_cell HK 0 rfl 3 _ rfl
  obtain ⟨sp, c, rfl, hc, hE, _⟩ := el_elv (kr_tail HK) HE
  have hown := own_k n.l n.l.length rfl (nb_sized hB) sp c hE
  have HH : Hid (KR w ((D, ncl n (.slice sp n.l.length c)) :: rs) W) := HK
  clear HK HE hB hE
  go_enter Try.func11, Try.ntmps11
  go_wp2_with (go_at_call 31; refine hown.mono ?_; rintro e w1 ⟨v, l, rfl, HKl, HEl⟩)
  go_ret
  exact ⟨_, l, rfl, kr_join HH.out HKl, HEl⟩
theorem copy_k (HK : KR w ((D, ncl n lv) :: rs) W) (HE : EL rs lv n.l) : Calls Try.prog 26 #[.pointer (some ⟨D, 0, none⟩)] W fun e W' => ∃ D', e = .returned (.pointer (some ⟨D', 0, none⟩)) ∧ KR w ((D', ncl n lv) :: (D, ncl n lv) :: rs) W' := by
  obtain ⟨sp, c, rfl, hc⟩ := el_form HE
  clear HE hc
  have k0 := kr_cell HK 0 rfl 0 _ rfl
  have k1 := kr_cell HK 0 rfl 1 _ rfl
  have k2 := kr_cell HK 0 rfl 2 _ rfl
  have k3 := kr_cell HK 0 rfl 3 _ rfl
  have k4 := kr_cell HK 0 rfl 4 _ rfl
  have k5 := kr_cell HK 0 rfl 5 _ rfl
  have H2 : Hid (KR w ((W.heap.size, ncl n (.slice sp n.l.length c)) :: (D, ncl n (.slice sp n.l.length c)) :: rs) (W.alloc (.cells (ncl n (.slice sp n.l.length c)).toArray 85))) := kr_new HK _ _
  clear HK
  go_enter Try.func26, Try.ntmps26
  go_wp2
  go_ret
  exact ⟨_, rfl, H2.out⟩
end
end Go.Proofs.Ytofpkmfjigjlhaa.Own
