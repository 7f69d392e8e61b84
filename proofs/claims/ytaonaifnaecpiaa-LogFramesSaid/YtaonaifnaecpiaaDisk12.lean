/- What dayshift/disk's Crash does with a disk in memory. No conditions beside those in each theorem. -/
import Derived.Test.YtaonaifnaecpiaaDisk11
namespace Go.Proofs.Ytaonaifnaecpiaa.Own
open Go.RowKit
set_option linter.unusedSimpArgs false
attribute [local go_sem] mm_max2 mm_min2 mm_max_two mm_min_two
/-- A file behind a crash: so many bytes are kept. -/
def crN (s m : Nat) (x : Option Int) : Nat := match x with
  | some x => s + (min (max x 0) ((m : Int) - (s : Int))).toNat
  | none => s
theorem crash_nil (v : Value) (W : World) : Calls Try.prog 28 #[.pointer none, v] W fun e W' => e = .returned (.tuple #[]) ∧ W = W' := by
  go_enter Try.func28, Try.ntmps28
  go_wp2
  all_goals exact bodyPost_ret (results_none rfl _ _ _) rfl ⟨rfl, rfl⟩
def crF (p : Value × Int) (x : Option Int) : Value × Int := match p.1 with
  | .slice sx m _ => (.slice sx (crN p.2.toNat m x) (crN p.2.toNat m x), (crN p.2.toNat m x : Nat))
  | _ => p
def crD (d : Dk) (keeps : List Int) (k : Nat) : Dk := { d with f := fun j => if j < k then crF (d.f j) keeps[j]? else d.f j }
theorem crD_zero (d : Dk) (keeps : List Int) : crD d keeps 0 = d := by unfold crD; simp
theorem wrap_id (x : Int) (h0 : -9223372036854775808 ≤ x) (h1 : x ≤ 9223372036854775807) : IntKind.i64.wrap x = x := by
  rw [IntKind.wrap_i64]; omega
theorem crN_le (s m : Nat) (x : Option Int) (h : s ≤ m) : crN s m x ≤ m := by
  unfold crN
  split
  · omega
  · exact h
theorem crN_val (s m : Nat) (x y : Int) (h : s ≤ m) (h3 : m ≤ 1048576) (hy : y = max x 0) : IntKind.i64.wrap ((s : Int) + if IntKind.i64.wrap ((m : Int) - (s : Int)) < y then IntKind.i64.wrap ((m : Int) - (s : Int)) else y) = ((crN s m (some x) : Nat) : Int) := by
  rw [wrap_id ((m : Int) - (s : Int)) (by omega) (by omega)]
  unfold crN
  dsimp only
  split
  · rw [wrap_id _ (by omega) (by omega)]; omega
  · rw [wrap_id _ (by omega) (by omega)]; omega
theorem crD_next (d : Dk) (keeps : List Int) (k : Nat) (v : Value) (n : Int) (h : crF (d.f k) keeps[k]? = (v, n)) : putF (crD d keeps k) k v n = crD d keeps (k + 1) := by
  obtain ⟨f, left, dead⟩ := d
  simp only [putF, crD, Dk.mk.injEq, and_true]
  funext j
  unfold upd
  dsimp only
  by_cases hj : j = k
  · subst hj
    rw [if_pos rfl, if_pos (by omega)]
    exact h.symm
  · rw [if_neg hj]
    by_cases h2 : j < k
    · rw [if_pos h2, if_pos (by omega)]
    · rw [if_neg h2, if_neg (by omega)]
theorem kr_crash {w W : World} {rows : List (Nat × List Value)} {d : Dk} {keeps : List Int} {D k : Nat} (hk : k < 8) (h : KR w ((D, (crD d keeps k).l) :: rows) W) (v : Value) (n : Int) (hv : crF (d.f k) keeps[k]? = (v, n)) : KR w ((D, (crD d keeps (k + 1)).l) :: rows) ((W.setCell ⟨D, k * 2, none⟩ v).setCell ⟨D, k * 2 + 1, none⟩ (.int .i64 n)) := by
  rw [← putF_self (crD d keeps k) k] at h
  have := kr_file hk h v n
  rwa [crD_next d keeps k v n hv] at this
theorem crash_k (d : Dk) (D : Nat) (keeps : List Int) (n : Nat) (hn : Hid (keeps.length = n)) (co : Option Addr) (cap : Nat) (hf : ∀ i, i < 8 → ∃ sx m cx s, d.f i = (.slice sx m cx, ((s : Nat) : Int)) ∧ s ≤ m ∧ m ≤ cx ∧ m ≤ 1048576 ∧ (sx = none → cx = 0)) {w W : World} {rs : List (Nat × List Value)} (HK : KR w ((D, d.l) :: rs) W)
    (hkeep : ∀ (d' : Dk) (W1 : World), KR w ((D, d'.l) :: rs) W1 → ∀ j, j < n → ∃ A, co = some A ∧ W1.cell? (A.add j) = some (.int .i64 (keeps.getD j 0))) :
    Calls Try.prog 28 #[.pointer (some ⟨D, 0, none⟩), .slice co n cap] W fun e W' => e = .returned (.tuple #[]) ∧ KR w ((D, ({ crD d keeps 8 with left := 0, dead := false } : Dk).l) :: rs) W' := by
  go_enter Try.func28, Try.ntmps28
  go_wp2
  go_loopw [9] (fun v9 W => ∃ k : Nat, v9 = .int .i64 k ∧ k ≤ 8 ∧ KR w ((D, (crD d keeps k).l) :: rs) W) (fun v9 _ => 8 - (intOf v9).toNat)
  case atStart => exact ⟨0, rfl, by omega, by rw [crD_zero]; exact HK⟩
  case round =>
    clear HK
    obtain ⟨k, rfl, hk, HK⟩ := hrel
    by_cases hlt : k < 8
    · obtain ⟨sx, m, cx, s, h1, hs1, hs2, hs3, hs4⟩ := hf k hlt
      have ka := kr_cell HK 0 rfl _ _ (dk_a (crD d keeps k) k hlt)
      have kb := kr_cell HK 0 rfl _ _ (dk_b (crD d keeps k) k hlt)
      have hfk : (crD d keeps k).f k = (.slice sx m cx, ((s : Nat) : Int)) := by unfold crD; simp [h1]
      rw [hfk] at ka kb
      have fa := kr_frozen HK 0 rfl (k * 2) (by rw [dk_len]; omega)
      have fb := kr_frozen HK 0 rfl (k * 2 + 1) (by rw [dk_len]; omega)
      have hk2 : (k : Int) < 8 := by omega
      by_cases hkn : k < n
      · obtain ⟨A, hA, hx⟩ := hkeep (crD d keeps k) _ HK k hkn
        subst hA
        obtain ⟨x, hxe⟩ : ∃ x, keeps.getD k 0 = x := ⟨_, rfl⟩
        rw [hxe] at hx
        have hv : ∀ n' : Nat, n' = crN s m (some x) → crF (d.f k) keeps[k]? = (.slice sx n' n', ((n' : Nat) : Int)) := by
          intro n' h
          have hkl : k < keeps.length := by have := hn.out; omega
          rw [h1, List.getElem?_eq_getElem hkl]
          have : keeps[k] = x := by rw [← hxe, List.getD_eq_getElem?_getD, List.getElem?_eq_getElem hkl]; rfl
          rw [this, h]
          simp [crF]
        have HN : Hid (∀ n' : Nat, n' = crN s m (some x) → KR w ((D, (crD d keeps (k + 1)).l) :: rs) ((wr.drew.setCell ⟨D, k * 2, none⟩ (.slice sx n' n')).setCell ⟨D, k * 2 + 1, none⟩ (.int .i64 (n' : Int)))) := fun n' h => kr_crash hlt (kr_drew HK) _ _ (hv n' h)
        clear HK hkeep hf hfk h1 hv hxe
        by_cases hx0 : x < 0
        · skip
          go_wp2_with fail
          go_region_held3 (fun W => W.cell? ⟨D, k * 2, none⟩ = some (.slice sx m cx) ∧ W.cell? ⟨D, k * 2 + 1, none⟩ = some (.int .i64 (s : Int)) ∧ W.cell? (A.add k) = some (.int .i64 x)) (go_keep) (fail)
          rw [crN_val s m x 0 hs1 hs3 (by omega)]
          have hle := crN_le s m (some x) hs1
          have HN2 := HN.out _ rfl
          clear HN
          generalize crN s m (some x) = n' at hle HN2 ⊢
          have HH : Hid (KR w _ _) := HN2
          clear HN2
          go_wp2_with fail
          go_round
          case rel => exact ⟨k + 1, by simp, by omega, HH⟩
          case measure => (simp [intOf]; try omega)
        · have hx1 : 0 ≤ x := by omega
          go_wp2_with fail
          go_region_held3 (fun W => W.cell? ⟨D, k * 2, none⟩ = some (.slice sx m cx) ∧ W.cell? ⟨D, k * 2 + 1, none⟩ = some (.int .i64 (s : Int)) ∧ W.cell? (A.add k) = some (.int .i64 x)) (go_keep) (fail)
          rw [crN_val s m x (if x < 0 then 0 else x) hs1 hs3 (by rw [if_neg (by omega)]; omega)]
          have hle := crN_le s m (some x) hs1
          have HN2 := HN.out _ rfl
          clear HN
          generalize crN s m (some x) = n' at hle HN2 ⊢
          have HH : Hid (KR w _ _) := HN2
          clear HN2
          go_wp2_with fail
          go_round
          case rel => exact ⟨k + 1, by simp, by omega, HH⟩
          case measure => (simp [intOf]; try omega)
      · have hv : crF (d.f k) keeps[k]? = (.slice sx s s, ((s : Nat) : Int)) := by
          rw [h1, List.getElem?_eq_none (by have := hn.out; omega)]
          simp [crF, crN]
        have HN : Hid (KR w _ _) := kr_crash hlt HK _ _ hv
        clear HK hkeep hf hfk h1 hv
        go_wp2_with fail
        go_round
        case rel => exact ⟨k + 1, by simp, by omega, HN⟩
        case measure => (simp [intOf]; try omega)
    · obtain rfl : k = 8 := by omega
      clear hkeep hf
      have kl := kr_cell HK 0 rfl _ _ (dk_left (crD d keeps 8))
      have kd := kr_cell HK 0 rfl _ _ (dk_dead (crD d keeps 8))
      have fl := kr_frozen HK 0 rfl 16 (by rw [dk_len]; omega)
      have fd := kr_frozen HK 0 rfl 17 (by rw [dk_len]; omega)
      have H1 := kr_fset HK 0 rfl 16 (by rw [dk_len]; omega) (.int .i64 0) _ (dk_setL (crD d keeps 8) 0)
      have H2 := kr_fset H1 0 rfl 17 (by rw [dk_len]; omega) (.bool false) _ (dk_setD _ false)
      simp only [List.set_cons_zero] at H2
      clear H1 HK
      go_wp2_with fail
      all_goals exact bodyPost_end (results_none rfl _ _ _) rfl ⟨rfl, H2⟩
end Go.Proofs.Ytaonaifnaecpiaa.Own
