/- The reference's disk in memory as two rows, and what its smallest functions do with it. No conditions beside those in each theorem. -/
import Derived.Test.YtaonaifnaecpiaaDisk15
import Derived.Test.YtaonaifnaecpiaaAp
namespace Go.Proofs.Ytaonaifnaecpiaa.Own
open Go.RowKit
set_option linter.unusedSimpArgs false
def rH (d : Dk) (B cap : Nat) : List Value := [.slice (some ⟨B, 0, none⟩) 8 cap, .int .i64 d.left, .bool d.dead]
def rF (d : Dk) (tl : List Value) : List Value := (d.f 0).1 :: .int .i64 (d.f 0).2 :: (d.f 1).1 :: .int .i64 (d.f 1).2 :: (d.f 2).1 :: .int .i64 (d.f 2).2 :: (d.f 3).1 :: .int .i64 (d.f 3).2 :: (d.f 4).1 :: .int .i64 (d.f 4).2 :: (d.f 5).1 :: .int .i64 (d.f 5).2 :: (d.f 6).1 :: .int .i64 (d.f 6).2 :: (d.f 7).1 :: .int .i64 (d.f 7).2 :: tl
theorem rF_len (d : Dk) (tl : List Value) : (rF d tl).length = 16 + tl.length := by simp [rF]; omega
theorem rF_a (d : Dk) (tl : List Value) (k : Nat) (hk : k < 8) : (rF d tl)[k * 2]? = some (d.f k).1 := by
  match k, hk with
  | 0, _ => rfl
  | 1, _ => rfl
  | 2, _ => rfl
  | 3, _ => rfl
  | 4, _ => rfl
  | 5, _ => rfl
  | 6, _ => rfl
  | 7, _ => rfl
theorem rF_b (d : Dk) (tl : List Value) (k : Nat) (hk : k < 8) : (rF d tl)[k * 2 + 1]? = some (.int .i64 (d.f k).2) := by
  match k, hk with
  | 0, _ => rfl
  | 1, _ => rfl
  | 2, _ => rfl
  | 3, _ => rfl
  | 4, _ => rfl
  | 5, _ => rfl
  | 6, _ => rfl
  | 7, _ => rfl
theorem rF_setA (d : Dk) (tl : List Value) (k : Nat) (hk : k < 8) (v : Value) : (rF d tl).set (k * 2) v = rF { d with f := upd d.f k (v, (d.f k).2) } tl := by
  match k, hk with
  | 0, _ => rfl
  | 1, _ => rfl
  | 2, _ => rfl
  | 3, _ => rfl
  | 4, _ => rfl
  | 5, _ => rfl
  | 6, _ => rfl
  | 7, _ => rfl
theorem rF_setB (d : Dk) (tl : List Value) (k : Nat) (hk : k < 8) (n : Int) : (rF d tl).set (k * 2 + 1) (.int .i64 n) = rF { d with f := upd d.f k ((d.f k).1, n) } tl := by
  match k, hk with
  | 0, _ => rfl
  | 1, _ => rfl
  | 2, _ => rfl
  | 3, _ => rfl
  | 4, _ => rfl
  | 5, _ => rfl
  | 6, _ => rfl
  | 7, _ => rfl
theorem rF_left (d : Dk) (tl : List Value) (n : Int) : rF { d with left := n } tl = rF d tl := rfl
theorem rF_dead (d : Dk) (tl : List Value) (b : Bool) : rF { d with dead := b } tl = rF d tl := rfl
theorem rF_app (d : Dk) (tl : List Value) : rF d tl = rF d [] ++ tl := rfl
theorem rF_one (d : Dk) (h : ∀ i, i < 8 → (d.f i).1.oneCell' = true) : ∀ v ∈ rF d [], v.oneCell' = true := by
  intro v hv
  simp only [rF, List.mem_cons, List.not_mem_nil, or_false] at hv
  rcases hv with rfl | rfl | rfl | rfl | rfl | rfl | rfl | rfl | rfl | rfl | rfl | rfl | rfl | rfl | rfl | rfl
  all_goals first | rfl | (exact h _ (by omega))
attribute [irreducible] rF
attribute [local go_sem] mm_max2 mm_min2 mm_max_two mm_min_two
/-- The two rows of the reference's disk. -/
def RR (w W : World) (R B cap : Nat) (tl : List Value) (d : Dk) (rs : List (Nat × List Value)) : Prop := KR w ((R, rH d B cap) :: (B, rF d tl) :: rs) W
theorem rr_h0 {w W : World} {R B cap : Nat} {tl : List Value} {d : Dk} {rs : List (Nat × List Value)} (h : RR w W R B cap tl d rs) : W.cell? ⟨R, 0, none⟩ = some (.slice (some ⟨B, 0, none⟩) 8 cap) := kr_cell h 0 rfl 0 _ rfl
theorem rr_h1 {w W : World} {R B cap : Nat} {tl : List Value} {d : Dk} {rs : List (Nat × List Value)} (h : RR w W R B cap tl d rs) : W.cell? ⟨R, 1, none⟩ = some (.int .i64 d.left) := kr_cell h 0 rfl 1 _ rfl
theorem rr_h2 {w W : World} {R B cap : Nat} {tl : List Value} {d : Dk} {rs : List (Nat × List Value)} (h : RR w W R B cap tl d rs) : W.cell? ⟨R, 2, none⟩ = some (.bool d.dead) := kr_cell h 0 rfl 2 _ rfl
theorem rr_f1 {w W : World} {R B cap : Nat} {tl : List Value} {d : Dk} {rs : List (Nat × List Value)} (h : RR w W R B cap tl d rs) : W.frozen? ⟨R, 1, none⟩ = false := kr_frozen h 0 rfl 1 (by simp [rH])
theorem rr_f2 {w W : World} {R B cap : Nat} {tl : List Value} {d : Dk} {rs : List (Nat × List Value)} (h : RR w W R B cap tl d rs) : W.frozen? ⟨R, 2, none⟩ = false := kr_frozen h 0 rfl 2 (by simp [rH])
theorem rr_a {w W : World} {R B cap : Nat} {tl : List Value} {d : Dk} {rs : List (Nat × List Value)} (h : RR w W R B cap tl d rs) (k : Nat) (hk : k < 8) : W.cell? ⟨B, k * 2, none⟩ = some (d.f k).1 := kr_cell h 1 rfl _ _ (rF_a d tl k hk)
theorem rr_b {w W : World} {R B cap : Nat} {tl : List Value} {d : Dk} {rs : List (Nat × List Value)} (h : RR w W R B cap tl d rs) (k : Nat) (hk : k < 8) : W.cell? ⟨B, k * 2 + 1, none⟩ = some (.int .i64 (d.f k).2) := kr_cell h 1 rfl _ _ (rF_b d tl k hk)
theorem rr_fa {w W : World} {R B cap : Nat} {tl : List Value} {d : Dk} {rs : List (Nat × List Value)} (h : RR w W R B cap tl d rs) (k : Nat) (hk : k < 8) : W.frozen? ⟨B, k * 2, none⟩ = false := kr_frozen h 1 rfl _ (by rw [rF_len]; omega)
theorem rr_fb {w W : World} {R B cap : Nat} {tl : List Value} {d : Dk} {rs : List (Nat × List Value)} (h : RR w W R B cap tl d rs) (k : Nat) (hk : k < 8) : W.frozen? ⟨B, k * 2 + 1, none⟩ = false := kr_frozen h 1 rfl _ (by rw [rF_len]; omega)
theorem rr_setL {w W : World} {R B cap : Nat} {tl : List Value} {d : Dk} {rs : List (Nat × List Value)} (h : RR w W R B cap tl d rs) (n : Int) : RR w (W.setCell ⟨R, 1, none⟩ (.int .i64 n)) R B cap tl { d with left := n } rs := by
  have := kr_fset h 0 rfl 1 (by simp [rH]) (.int .i64 n) _ rfl
  simp only [List.set_cons_zero] at this
  unfold RR
  rw [rF_left]
  exact this
theorem rr_setD {w W : World} {R B cap : Nat} {tl : List Value} {d : Dk} {rs : List (Nat × List Value)} (h : RR w W R B cap tl d rs) (b : Bool) : RR w (W.setCell ⟨R, 2, none⟩ (.bool b)) R B cap tl { d with dead := b } rs := by
  have := kr_fset h 0 rfl 2 (by simp [rH]) (.bool b) _ rfl
  simp only [List.set_cons_zero] at this
  unfold RR
  rw [rF_dead]
  exact this
theorem rr_setS {w W : World} {R B cap : Nat} {tl : List Value} {d : Dk} {rs : List (Nat × List Value)} (h : RR w W R B cap tl d rs) (k : Nat) (hk : k < 8) (n : Int) : RR w (W.setCell ⟨B, k * 2 + 1, none⟩ (.int .i64 n)) R B cap tl (putF d k (d.f k).1 n) rs := by
  have := kr_fset h 1 rfl (k * 2 + 1) (by rw [rF_len]; omega) (.int .i64 n) _ (rF_setB d tl k hk n)
  simp only [List.set_cons_succ, List.set_cons_zero] at this
  exact this
theorem rr_setF {w W : World} {R B cap : Nat} {tl : List Value} {d : Dk} {rs : List (Nat × List Value)} (h : RR w W R B cap tl d rs) (k : Nat) (hk : k < 8) (v : Value) (n : Int) : RR w ((W.setCell ⟨B, k * 2, none⟩ v).setCell ⟨B, k * 2 + 1, none⟩ (.int .i64 n)) R B cap tl (putF d k v n) rs := by
  have H1 := kr_fset h 1 rfl (k * 2) (by rw [rF_len]; omega) v _ (rF_setA d tl k hk v)
  simp only [List.set_cons_succ, List.set_cons_zero] at H1
  have H2 := rr_setS (tl := tl) (d := { d with f := upd d.f k (v, (d.f k).2) }) (cap := cap) H1 k hk n
  have e : putF { d with f := upd d.f k (v, (d.f k).2) } k (({ d with f := upd d.f k (v, (d.f k).2) } : Dk).f k).1 n = putF d k v n := by
    simp only [putF, Dk.mk.injEq, and_true]
    funext j
    unfold upd
    split <;> simp_all
  rw [e] at H2
  exact H2
theorem rr_ne {w W : World} {R B cap : Nat} {tl : List Value} {d : Dk} {rs : List (Nat × List Value)} (h : RR w W R B cap tl d rs) : R ≠ B := (List.pairwise_cons.1 h.apart).1 _ List.mem_cons_self
theorem set_drew {W : World} {b c : Nat} (h : b ≠ c) (i j : Nat) (v : Value) : (W.setCell ⟨b, i, none⟩ v).drew.cell? ⟨c, j, none⟩ = W.cell? ⟨c, j, none⟩ := by
  rw [World.cell?_drew, World.cell?_setCell_other (h := by intro e; injection e with e; exact h e)]
theorem set_drew2 {W : World} {b i j : Nat} (h : i ≠ j) (v : Value) : (W.setCell ⟨b, i, none⟩ v).drew.cell? ⟨b, j, none⟩ = W.cell? ⟨b, j, none⟩ := by
  rw [World.cell?_drew, World.cell?_setCell_other (h := by intro e; injection e with _ e; exact h e)]
theorem set_drew3 {W : World} {b c : Nat} (h : b ≠ c) (i j q : Nat) (u v : Value) : ((W.setCell ⟨b, i, none⟩ u).setCell ⟨b, j, none⟩ v).drew.cell? ⟨c, q, none⟩ = W.cell? ⟨c, q, none⟩ := by
  rw [set_drew h, World.cell?_setCell_other (h := by intro e; injection e with e; exact h e)]
theorem set_drew4 {W : World} {b i j q : Nat} (h : ¬ i = q) (h' : ¬ j = q) (u v : Value) : ((W.setCell ⟨b, i, none⟩ u).setCell ⟨b, j, none⟩ v).drew.cell? ⟨b, q, none⟩ = W.cell? ⟨b, q, none⟩ := by
  rw [set_drew2 h', World.cell?_setCell_other (h := by intro e; injection e with _ e; exact h e)]
theorem rr_drew {w W : World} {R B cap : Nat} {tl : List Value} {d : Dk} {rs : List (Nat × List Value)} (h : RR w W R B cap tl d rs) : RR w W.drew R B cap tl d rs := kr_drew h
theorem file_info : (Try.prog.info? 95).map (fun i => (i.zero, i.size, i.bytes)) = some (some (.agg #[.slice none 0 0, .int .i64 0]), 2, 32) := by kernel_rfl
theorem rnew_k {w W : World} {rs : List (Nat × List Value)} (HK : KR w rs W) : Calls Try.prog 31 #[] W fun e W' => ∃ R B, e = .returned (.pointer (some ⟨R, 0, none⟩)) ∧ RR w W' R B 8 [] dk0 rs := by
  have hmk : ∀ w : World, (Instr.makeSlice 87 (.int .i64 8) (.int .i64 8)).run Try.prog w = .ok (.slice (some ⟨w.heap.size, 0, none⟩) 8 8) (w.alloc (.cells (rF dk0 []).toArray 95)) := fun _ => by unfold rF; kernel_rfl
  have H1 := kr_new HK (rF dk0 []) 95
  have H2 := kr_new H1 (rH dk0 W.heap.size 8) 89
  have HH : Hid (KR w _ _) := H2
  clear HK H1 H2
  go_enter Try.func31, Try.ntmps31
  go_wp2
  go_ret
  refine ⟨W.heap.size + 1, W.heap.size, rfl, ?_⟩
  have := HH.out
  simp only [World.size_alloc] at this
  exact this
theorem right_yes (f : Int) (W : World) (h0 : 0 ≤ f) (h8 : f < 8) : Calls Try.prog 57 #[.int .i64 f] W fun e W' => e = .returned (.bool true) ∧ W = W' := by
  go_enter Try.func57, Try.ntmps57
  go_wp2
  go_ret
  exact ⟨rfl, rfl⟩
theorem right_no (f : Int) (W : World) (h : f < 0 ∨ 8 ≤ f) : Calls Try.prog 57 #[.int .i64 f] W fun e W' => e = .returned (.bool false) ∧ W = W' := by
  rcases h with h | h
  · go_enter Try.func57, Try.ntmps57
    go_wp2
    all_goals go_ret
    all_goals exact ⟨rfl, rfl⟩
  · have hd : decide (f < 8) = false := by simpa using h
    have h0 : 0 ≤ f := by omega
    go_enter Try.func57, Try.ntmps57
    go_wp2
    all_goals go_ret
    all_goals exact ⟨rfl, rfl⟩
theorem rsafe_k (d : Dk) (R B cap : Nat) (tl : List Value) (k : Nat) (hk : k < 8) {w W : World} {rs : List (Nat × List Value)} (HK : RR w W R B cap tl d rs) : Calls Try.prog 60 #[.pointer (some ⟨R, 0, none⟩), .int .i64 k] W fun e W' => e = .returned (.int .i64 (d.f k).2) ∧ W = W' := by
  have k0 := rr_h0 HK
  have kb := rr_b HK k hk
  have hk2 : (k : Int) < 8 := by omega
  clear HK
  go_enter Try.func60, Try.ntmps60
  go_wp2_with (go_at_call 57; refine (right_yes _ _ (by omega) (by omega)).mono ?_; rintro e w' ⟨rfl, rfl⟩)
  all_goals go_ret
  all_goals exact ⟨rfl, rfl⟩
theorem rsafe_out (R : Nat) (f : Int) (hf : f < 0 ∨ 8 ≤ f) (W : World) : Calls Try.prog 60 #[.pointer (some ⟨R, 0, none⟩), .int .i64 f] W fun e W' => e = .returned (.int .i64 0) ∧ W = W' := by
  have hr := fun W => right_no f W hf
  clear hf
  go_enter Try.func60, Try.ntmps60
  go_wp2_with (go_at_call 57; refine (hr _).mono ?_; rintro e w' ⟨rfl, rfl⟩)
  all_goals go_ret
  all_goals exact ⟨rfl, rfl⟩
theorem fs_b {W : World} {p : Addr} {u : Value} {n : Bool} (h : W.cell? p = some u) (hf : W.frozen? p = false) : (Instr.storeAt 4 (.pointer (some p)) (.bool n)).run Try.prog W = .ok () (W.setCell p (.bool n)) := by go_simp
theorem rfail_k (d : Dk) (R B cap : Nat) (tl : List Value) (n : Int) {w W : World} {rs : List (Nat × List Value)} (HK : RR w W R B cap tl d rs) : Calls Try.prog 36 #[.pointer (some ⟨R, 0, none⟩), .int .i64 n] W fun e W' => e = .returned (.tuple #[]) ∧ RR w W' R B cap tl { d with left := maxZ n } rs := by
  have k1 := rr_h1 HK
  have f1 := rr_f1 HK
  have H1 := rr_setL HK n
  by_cases hn : n < 1
  · have e : maxZ n = 0 := by
      by_cases h : n < 0
      · exact maxZ_neg h
      · rw [maxZ_pos h]; omega
    have HH : Hid (RR w ((W.setCell ⟨R, 1, none⟩ (.int .i64 n)).setCell ⟨R, 1, none⟩ (.int .i64 0)) R B cap tl { d with left := 0 } rs) := rr_setL H1 0
    have H2 : Hid (maxZ n = 0) := e
    clear HK H1 e
    go_enter Try.func36, Try.ntmps36
    go_wp2
    all_goals refine bodyPost_end (results_none rfl _ _ _) rfl ⟨rfl, ?_⟩
    all_goals rw [H2.out]
    all_goals exact HH.out
  · have H2 : Hid (maxZ n = n) := maxZ_pos (by omega)
    have HH : Hid (RR w _ R B cap tl _ rs) := H1
    clear HK H1
    go_enter Try.func36, Try.ntmps36
    go_wp2
    all_goals refine bodyPost_end (results_none rfl _ _ _) rfl ⟨rfl, ?_⟩
    all_goals rw [H2.out]
    all_goals exact HH.out
set_option maxHeartbeats 1000000 in
theorem counts_k (d : Dk) (R B cap : Nat) (tl : List Value) (hdead : d.dead = false) (hl : d.left ≤ 9223372036854775807) {w W : World} {rs : List (Nat × List Value)} (HK : RR w W R B cap tl d rs) : Calls Try.prog 58 #[.pointer (some ⟨R, 0, none⟩)] W fun e W' => e = .returned (.bool (cnt d).dead) ∧ RR w W' R B cap tl (cnt d) rs := by
  have k1 := rr_h1 HK
  have k2 := rr_h2 HK
  have f1 := rr_f1 HK
  have f2 := rr_f2 HK
  by_cases h0 : 0 < d.left
  · have hn1 : 1 ≤ d.left := by omega
    by_cases h1 : d.left - 1 = 0
    · have Hc : cnt d = { d with left := 0, dead := true } := by unfold cnt; rw [if_pos h0, h1]; rfl
      rw [Hc]
      have HH : Hid (RR w _ R B cap tl _ rs) := rr_setD (rr_setL HK 0) true
      have e1 : d.left = 1 := by omega
      rw [e1] at k1
      clear HK Hc hdead hl h0 h1 hn1 e1
      go_enter Try.func58, Try.ntmps58
      go_wp2
      all_goals go_ret
      all_goals exact ⟨rfl, HH.out⟩
    · have hb : (d.left - 1 == 0) = false := by simpa using h1
      have Hc : cnt d = { d with left := d.left - 1, dead := false } := by unfold cnt; rw [if_pos h0, decide_eq_false h1]
      rw [Hc]
      have HH : Hid (RR w _ R B cap tl _ rs) := rr_setD (rr_setL HK (d.left - 1)) false
      clear HK Hc hdead h1
      go_enter Try.func58, Try.ntmps58
      go_wp2
      all_goals go_ret
      all_goals exact ⟨rfl, HH.out⟩
  · have Hc : cnt d = d := by unfold cnt; rw [if_neg h0]
    rw [Hc, hdead]
    have HH : Hid (RR w _ R B cap tl _ rs) := HK
    clear HK Hc hdead
    go_enter Try.func58, Try.ntmps58
    go_wp2
    all_goals go_ret
    all_goals exact ⟨rfl, HH.out⟩
end Go.Proofs.Ytaonaifnaecpiaa.Own
