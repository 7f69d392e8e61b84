/- A disk in memory as one row, and what dayshift/disk's smallest functions do with it. No conditions beside those in each theorem. -/
import Derived.Test.YtaonaifnaecpiaaProg
import Derived.Test.YtaonaifnaecpiaaKr
namespace Go.Proofs.Ytaonaifnaecpiaa.Own
open Go.RowKit
/-- A disk's cells: eight files (a slice and a number), a count, a mark. -/
structure Dk where
  f : Nat → Value × Int
  left : Int
  dead : Bool
def Dk.l (d : Dk) : List Value := [(d.f 0).1, .int .i64 (d.f 0).2, (d.f 1).1, .int .i64 (d.f 1).2, (d.f 2).1, .int .i64 (d.f 2).2, (d.f 3).1, .int .i64 (d.f 3).2, (d.f 4).1, .int .i64 (d.f 4).2, (d.f 5).1, .int .i64 (d.f 5).2, (d.f 6).1, .int .i64 (d.f 6).2, (d.f 7).1, .int .i64 (d.f 7).2, .int .i64 d.left, .bool d.dead]
def upd (f : Nat → Value × Int) (k : Nat) (x : Value × Int) : Nat → Value × Int := fun j => if j = k then x else f j
theorem dk_len (d : Dk) : d.l.length = 18 := rfl
theorem dk_a (d : Dk) (k : Nat) (hk : k < 8) : d.l[k * 2]? = some (d.f k).1 := by
  match k, hk with
  | 0, _ => rfl
  | 1, _ => rfl
  | 2, _ => rfl
  | 3, _ => rfl
  | 4, _ => rfl
  | 5, _ => rfl
  | 6, _ => rfl
  | 7, _ => rfl
theorem dk_b (d : Dk) (k : Nat) (hk : k < 8) : d.l[k * 2 + 1]? = some (.int .i64 (d.f k).2) := by
  match k, hk with
  | 0, _ => rfl
  | 1, _ => rfl
  | 2, _ => rfl
  | 3, _ => rfl
  | 4, _ => rfl
  | 5, _ => rfl
  | 6, _ => rfl
  | 7, _ => rfl
theorem dk_left (d : Dk) : d.l[16]? = some (.int .i64 d.left) := rfl
theorem dk_dead (d : Dk) : d.l[17]? = some (.bool d.dead) := rfl
theorem dk_setA (d : Dk) (k : Nat) (hk : k < 8) (v : Value) : d.l.set (k * 2) v = ({ d with f := upd d.f k (v, (d.f k).2) } : Dk).l := by
  match k, hk with
  | 0, _ => rfl
  | 1, _ => rfl
  | 2, _ => rfl
  | 3, _ => rfl
  | 4, _ => rfl
  | 5, _ => rfl
  | 6, _ => rfl
  | 7, _ => rfl
theorem dk_setB (d : Dk) (k : Nat) (hk : k < 8) (n : Int) : d.l.set (k * 2 + 1) (.int .i64 n) = ({ d with f := upd d.f k ((d.f k).1, n) } : Dk).l := by
  match k, hk with
  | 0, _ => rfl
  | 1, _ => rfl
  | 2, _ => rfl
  | 3, _ => rfl
  | 4, _ => rfl
  | 5, _ => rfl
  | 6, _ => rfl
  | 7, _ => rfl
theorem dk_setL (d : Dk) (n : Int) : d.l.set 16 (.int .i64 n) = ({ d with left := n } : Dk).l := rfl
theorem dk_setD (d : Dk) (b : Bool) : d.l.set 17 (.bool b) = ({ d with dead := b } : Dk).l := rfl
attribute [irreducible] Dk.l
attribute [local go_sem] mm_max2 mm_min2 mm_max_two mm_min_two
theorem safe_k (d : Dk) (D : Nat) (k : Nat) (hk : k < 8) {w W : World} {rs : List (Nat × List Value)} (HK : KR w ((D, d.l) :: rs) W) : Calls Try.prog 59 #[.pointer (some ⟨D, 0, none⟩), .int .i64 k] W fun e W' => e = .returned (.int .i64 (d.f k).2) ∧ W = W' := by
  have kb := kr_cell HK 0 rfl _ _ (dk_b d k hk)
  have hk2 : (k : Int) < 8 := by omega
  clear HK
  go_enter Try.func59, Try.ntmps59
  go_wp2
  all_goals go_ret
  all_goals exact ⟨rfl, rfl⟩
theorem safe_out (D : Nat) (f : Int) (hf : f < 0 ∨ 8 ≤ f) (W : World) : Calls Try.prog 59 #[.pointer (some ⟨D, 0, none⟩), .int .i64 f] W fun e W' => e = .returned (.int .i64 0) ∧ W = W' := by
  rcases hf with hf | hf
  all_goals (
    go_enter Try.func59, Try.ntmps59
    go_wp2
    all_goals go_ret
    all_goals exact ⟨rfl, rfl⟩)
theorem safe_nil (f : Int) (W : World) : Calls Try.prog 59 #[.pointer none, .int .i64 f] W fun e W' => e = .returned (.int .i64 0) ∧ W = W' := by
  go_enter Try.func59, Try.ntmps59
  go_wp2
  all_goals go_ret
  all_goals exact ⟨rfl, rfl⟩
theorem dead_k (d : Dk) (D : Nat) {w W : World} {rs : List (Nat × List Value)} (HK : KR w ((D, d.l) :: rs) W) : Calls Try.prog 61 #[.pointer (some ⟨D, 0, none⟩)] W fun e W' => e = .returned (.bool d.dead) ∧ W = W' := by
  have kb := kr_cell HK 0 rfl _ _ (dk_dead d)
  clear HK
  go_enter Try.func61, Try.ntmps61
  go_wp2
  all_goals go_ret
  all_goals exact ⟨rfl, rfl⟩
theorem dead_nil (W : World) : Calls Try.prog 61 #[.pointer none] W fun e W' => e = .returned (.bool false) ∧ W = W' := by
  go_enter Try.func61, Try.ntmps61
  go_wp2
  all_goals go_ret
  all_goals exact ⟨rfl, rfl⟩
/-- What a call's numbers and the mark say. -/
def mayD (d : Dk) (xs : List Int) : Int := if ∃ x ∈ xs, x < 0 ∨ 8 ≤ x then 1 else if d.dead = true then 13 else 0
set_option maxHeartbeats 1000000 in
theorem may_k (d : Dk) (D b : Nat) (xs : List Int) {w W : World} {rs : List (Nat × List Value)} (HK : KR w ((D, d.l) :: rs) W) (hlen : xs.length ≤ 100) (hx : ∀ j, j < xs.length → W.cell? ⟨b, j, none⟩ = some (.int .i64 (xs.getD j 0))) :
    Calls Try.prog 55 #[.pointer (some ⟨D, 0, none⟩), .slice (some ⟨b, 0, none⟩) xs.length xs.length] W fun e W' => e = .returned (.int .i64 (mayD d xs)) ∧ W = W' := by
  have kb := kr_cell HK 0 rfl _ _ (dk_dead d)
  have HC : Hid (∀ j, j < xs.length → W.cell? ⟨b, j, none⟩ = some (.int .i64 (xs.getD j 0))) := hx
  clear HK hx
  go_enter Try.func55, Try.ntmps55
  go_wp2
  go_loop [6, 11] (fun _ i => ∃ k : Nat, k ≤ xs.length ∧ i = .int .i64 k ∧ ∀ j, j < k → 0 ≤ xs.getD j 0 ∧ xs.getD j 0 < 8) (fun _ i => xs.length - (intOf i).toNat)
  case atStart => exact ⟨0, Nat.zero_le _, rfl, fun j hj => absurd hj (by omega)⟩
  case round =>
    obtain ⟨k, hk, rfl, hne⟩ := hrel
    have HN : Hid (∀ j, j < k → 0 ≤ xs.getD j 0 ∧ xs.getD j 0 < 8) := hne
    clear hne
    by_cases hlt : k < xs.length
    · obtain ⟨x, hxk⟩ : ∃ x, x = xs.getD k 0 := ⟨_, rfl⟩
      have hck : W.cell? ⟨b, k, none⟩ = some (.int .i64 x) := by rw [hxk]; exact HC k hlt
      have HX : Hid (x = xs.getD k 0) := hxk
      clear hxk
      have HM : Hid (x ∈ xs) := by
        show _ ∈ _
        rw [show x = xs.getD k 0 from HX, List.getD_eq_getElem?_getD, List.getElem?_eq_getElem hlt]
        exact List.getElem_mem hlt
      by_cases h0 : x < 0
      · have hE : Hid (mayD d xs = 1) := by show _ = _; unfold mayD; rw [if_pos ⟨x, HM, .inl h0⟩]
        go_wp2
        go_ret
        exact ⟨by rw [show mayD d xs = 1 from hE]; rfl, rfl⟩
      · by_cases h8 : 8 ≤ x
        · have hE : Hid (mayD d xs = 1) := by show _ = _; unfold mayD; rw [if_pos ⟨x, HM, .inr h8⟩]
          go_wp2
          all_goals go_ret
          all_goals exact ⟨by rw [show mayD d xs = 1 from hE]; rfl, rfl⟩
        · have hb : 0 ≤ x ∧ x < 8 := by omega
          have Hb : Hid (0 ≤ x ∧ x < 8) := hb
          go_wp2
          go_round
          case rel => exact ⟨k + 1, by omega, by go_num, fun j hj => by
            rcases Nat.lt_or_ge j k with h | h
            · exact HN j h
            · obtain rfl : j = k := by omega
              rw [← HX]; exact Hb⟩
          case measure => (simp [intOf]; try omega)
    · have HA : Hid (¬ ∃ x ∈ xs, x < 0 ∨ 8 ≤ x) := by
        show ¬ _
        rintro ⟨x, hx, hb⟩
        obtain ⟨j, hj, he⟩ := List.getElem_of_mem hx
        have := HN j (by omega)
        rw [List.getD_eq_getElem?_getD, List.getElem?_eq_getElem hj] at this
        simp only [Option.getD_some, he] at this
        omega
      cases hd : d.dead
      · have hE : Hid (mayD d xs = 0) := by show _ = _; unfold mayD; rw [if_neg HA, hd]; rfl
        rw [hd] at kb
        clear hd
        go_wp2
        go_ret
        exact ⟨by rw [show mayD d xs = 0 from hE]; rfl, rfl⟩
      · have hE : Hid (mayD d xs = 13) := by show _ = _; unfold mayD; rw [if_neg HA, hd]; rfl
        rw [hd] at kb
        clear hd
        go_wp2
        go_ret
        exact ⟨by rw [show mayD d xs = 13 from hE]; rfl, rfl⟩
theorem may_nil (b n c : Nat) (W : World) : Calls Try.prog 55 #[.pointer none, .slice (some ⟨b, 0, none⟩) n c] W fun e W' => e = .returned (.int .i64 2) ∧ W = W' := by
  go_enter Try.func55, Try.ntmps55
  go_wp2
  all_goals go_ret
  all_goals exact ⟨rfl, rfl⟩
/-- A disk behind a call that may fail. -/
def cnt (d : Dk) : Dk := if 0 < d.left then { d with left := d.left - 1, dead := decide (d.left - 1 = 0) } else d
def cntE (d : Dk) : Int := if (cnt d).dead = true then 13 else 0
theorem fs_3 {W : World} {p : Addr} {u : Value} {n : Int} (h : W.cell? p = some u) (hf : W.frozen? p = false) : (Instr.storeAt 3 (.pointer (some p)) (.int .i64 n)).run Try.prog W = .ok () (W.setCell p (.int .i64 n)) := by go_simp
set_option maxHeartbeats 1000000 in
theorem count_k (d : Dk) (D : Nat) {w W : World} {rs : List (Nat × List Value)} (HK : KR w ((D, d.l) :: rs) W) (hl : d.left ≤ 9223372036854775807) : Calls Try.prog 56 #[.pointer (some ⟨D, 0, none⟩)] W fun e W' => e = .returned (.int .i64 (cntE d)) ∧ KR w ((D, (cnt d).l) :: rs) W' := by
  have kl := kr_cell HK 0 rfl _ _ (dk_left d)
  have kd := kr_cell HK 0 rfl _ _ (dk_dead d)
  have fl := kr_frozen HK 0 rfl 16 (by rw [dk_len]; omega)
  have fd := kr_frozen HK 0 rfl 17 (by rw [dk_len]; omega)
  by_cases h0 : 0 < d.left
  · by_cases h1 : d.left - 1 = 0
    · have Hc : cnt d = { d with left := 0, dead := true } := by unfold cnt; rw [if_pos h0, h1]; rfl
      have H1 := kr_fset HK 0 rfl 16 (by rw [dk_len]; omega) (.int .i64 (0)) _ (dk_setL d (0))
      have H2 := kr_fset H1 0 rfl 17 (by rw [dk_len]; omega) (.bool true) _ (dk_setD _ true)
      simp only [List.set_cons_zero] at H2
      have HH : Hid (KR w ((D, (cnt d).l) :: rs) ((W.setCell ⟨D, 16, none⟩ (.int .i64 (0))).setCell ⟨D, 17, none⟩ (.bool true))) := by rw [Hc]; exact H2
      have hE : Hid (cntE d = 13) := by show _ = _; unfold cntE; rw [Hc]; rfl
      clear H1 H2 HK Hc
      go_enter Try.func56, Try.ntmps56
      go_wp2
      all_goals go_ret
      all_goals exact ⟨by rw [show cntE d = 13 from hE]; rfl, HH⟩
    · have hb : (d.left - 1 == 0) = false := by simpa using h1
      have Hc : cnt d = { d with left := d.left - 1, dead := false } := by unfold cnt; rw [if_pos h0, decide_eq_false h1]
      have H1 := kr_fset HK 0 rfl 16 (by rw [dk_len]; omega) (.int .i64 (d.left - 1)) _ (dk_setL d (d.left - 1))
      have H2 := kr_fset H1 0 rfl 17 (by rw [dk_len]; omega) (.bool false) _ (dk_setD _ false)
      simp only [List.set_cons_zero] at H2
      have HH : Hid (KR w ((D, (cnt d).l) :: rs) ((W.setCell ⟨D, 16, none⟩ (.int .i64 (d.left - 1))).setCell ⟨D, 17, none⟩ (.bool false))) := by rw [Hc]; exact H2
      have hE : Hid (cntE d = 0) := by show _ = _; unfold cntE; rw [Hc]; rfl
      clear H1 H2 HK Hc
      go_enter Try.func56, Try.ntmps56
      go_wp2
      all_goals go_ret
      all_goals exact ⟨by rw [show cntE d = 0 from hE]; rfl, HH⟩
  · have Hc : Hid (cnt d = d) := by show _ = _; unfold cnt; rw [if_neg h0]
    have HH : Hid (KR w _ _) := HK
    clear HK
    cases hd : d.dead
    · have hE : Hid (cntE d = 0) := by show _ = _; unfold cntE; rw [show cnt d = d from Hc, hd]; rfl
      rw [hd] at kd
      clear hd
      go_enter Try.func56, Try.ntmps56
      go_wp2
      all_goals go_ret
      all_goals exact ⟨by rw [show cntE d = 0 from hE]; rfl, by rw [show cnt d = d from Hc]; exact HH⟩
    · have hE : Hid (cntE d = 13) := by show _ = _; unfold cntE; rw [show cnt d = d from Hc, hd]; rfl
      rw [hd] at kd
      clear hd
      go_enter Try.func56, Try.ntmps56
      go_wp2
      all_goals go_ret
      all_goals exact ⟨by rw [show cntE d = 13 from hE]; rfl, by rw [show cnt d = d from Hc]; exact HH⟩
end Go.Proofs.Ytaonaifnaecpiaa.Own
