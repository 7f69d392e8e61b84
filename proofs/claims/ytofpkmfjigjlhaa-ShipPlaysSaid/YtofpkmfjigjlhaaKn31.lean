/- known of dayshiftlaw31. No conditions beside those in each theorem. -/
import Derived.Test.YtofpkmfjigjlhaaPx31
import Derived.Lib.SlBytesConst
import Derived.Laws.IdiomStrings
namespace Go.Proofs.Ytofpkmfjigjlhaa.Own
open Go.RowKit
set_option linter.unusedSimpArgs false
set_option linter.unusedVariables false
def kA1 : SN := (sApp (sNew 0) [97]).1
def kA2 : SN := (sApp kA1 [98]).1
def kP : SP := (sShip kA2 9).1
def kB1 : SN := (sTake (sNew 1) kP).1
def kX : SA := (sTake (sNew 1) kP).2.1
def kA3 : SN := (sTaken kA2 kX).1
def kB2 : SN := (sProm kB1).1
theorem kA1_r : (sApp (sNew 0) [97]).2 = (1, 0) := by decide
theorem kA2_r : (sApp kA1 [98]).2 = (2, 0) := by decide
theorem kP_r : (sShip kA2 9).2 = 0 ∧ kP.l.length = 2 ∧ kP.at_ = 0 ∧ kP.ep = 0 ∧ kP.bf = 0 ∧ kP.safe = 0 := by decide
theorem kP_d : ∀ x ∈ kP.l, x.2.length ≤ 140737488351232 := by
  have h : kP.l = [(0, [97]), (0, [98])] := by decide
  intro x hx
  rw [h] at hx
  rcases List.mem_cons.1 hx with rfl | hx
  · simp
  · rw [List.mem_singleton.1 hx]; simp
theorem kX_r : (sTake (sNew 1) kP).2.2 = 0 ∧ kX = (0, true, 2) := by decide
theorem kA3_r : (sTaken kA2 kX).2 = 0 ∧ kA3.safe = 2 := by decide
theorem kB2_r : (sProm kB1).2 = (1, 0) ∧ kB2.ld = true ∧ kB2.l.length = 2 := by decide
theorem px_new {w W : World} {D : Bool → Nat} {n : Bool → SN} {xs im : List (Nat × List Value)} {lv : Bool → Value} (h : PX w W D n xs im lv) (cs : List Value) (t : TypeId) : PX w (W.alloc (.cells cs.toArray t)) D n ((W.heap.size, cs) :: xs) im lv :=
  ⟨kr_permA (kr_new h.kr cs t) ((List.Perm.cons _ (List.Perm.swap _ _ _)).trans (List.Perm.swap _ _ _)), h.el, h.nb⟩
theorem px_sub {w W : World} {D : Bool → Nat} {n : Bool → SN} {xs ys im : List (Nat × List Value)} {lv : Bool → Value} (h : PX w W D n xs im lv) (hs : ys.Sublist xs) : PX w W D n ys im lv :=
  ⟨kr_sub h.kr (List.Sublist.cons_cons _ (List.Sublist.cons_cons _ (List.Sublist.append hs (List.Sublist.refl _)))), h.el, h.nb⟩
theorem px_two {w W : World} {D0 D1 : Nat} {rs : List (Nat × List Value)} (HK : KR w ((D1, ncl (sNew 1) (.slice none 0 0)) :: (D0, ncl (sNew 0) (.slice none 0 0)) :: rs) W) : PX w W (fun b => if b then D1 else D0) (fun b => sNew (bi b)) [] rs (fun _ => .slice none 0 0) :=
  ⟨kr_swap HK, fun b => el_nil _, fun b => nb_new _ (by cases b <;> simp [bi])⟩
theorem kr_newM {w W : World} {rs : List (Nat × List Value)} (h : KR w rs W) (cs : List Value) (t : TypeId) (hi : Nat) : KR w ((W.heap.size, cs) :: rs) (W.alloc (.cells cs.toArray t (cs.length, hi))) := by
  have h' := kr_alloc h (.cells cs.toArray t (cs.length, hi))
  refine ⟨h'.below, fun p hp => ?_, ?_⟩
  · rcases List.mem_cons.1 hp with rfl | hp
    · refine ⟨h.below.size, by simp, fun j v hv => ?_, fun j hj => ⟨?_, ?_⟩⟩
      · rw [Nat.zero_add, World.cell?_alloc_mark]; simpa using hv
      · rw [Nat.zero_add, World.cell?_alloc_mark]
        have : j < cs.length := hj
        simp [this]
      · rw [Nat.zero_add, World.frozen?_alloc_mark]
        have : j < cs.length := hj
        simp; omega
    · exact h'.rows p hp
  · refine List.Pairwise.cons (fun q hq e => ?_) h.apart
    have := (h.rows q hq).2.1
    exact absurd e (Nat.ne_of_gt this)
theorem px_newM {w W : World} {D : Bool → Nat} {n : Bool → SN} {xs im : List (Nat × List Value)} {lv : Bool → Value} (h : PX w W D n xs im lv) (cs : List Value) (t : TypeId) (hi : Nat) : PX w (W.alloc (.cells cs.toArray t (cs.length, hi))) D n ((W.heap.size, cs) :: xs) im lv :=
  ⟨kr_permA (kr_newM h.kr cs t hi) ((List.Perm.cons _ (List.Perm.swap _ _ _)).trans (List.Perm.swap _ _ _)), h.el, h.nb⟩
/-- An Append of one byte that stands in the text. -/
theorem kn_app {w W : World} {D : Bool → Nat} {n : Bool → SN} {im : List (Nat × List Value)} {lv : Bool → Value} (h : PX w W D n [] im lv) (b : Bool) (c : Int) :
    Calls Try.prog 20 #[.pointer (some ⟨D b, 0, none⟩), .slice (some ⟨W.heap.size, 0, none⟩) 1 1] (W.alloc (.cells #[.int .u8 c] 5 (1, 2))) fun e W' => e = .returned (.tuple #[.int .i64 (sApp (n b) [c]).2.1, .int .i64 (sApp (n b) [c]).2.2]) ∧ ∃ im' lv', PX w W' D (upd n b (sApp (n b) [c]).1) [] im' lv' := by
  have h1 : PX w (W.alloc (.cells #[.int .u8 c] 5 (1, 2))) D n [(W.heap.size, bc [c])] im lv := px_newM h (bc [c]) 5 2
  refine (px_app h1 b [c] 1 rfl (by omega) (some ⟨W.heap.size, 0, none⟩) 1 (Nat.le_refl _) (fun W1 H => srcV_row (m := 1) H List.mem_cons_self rfl)).mono ?_
  rintro e W' ⟨rfl, l, lv', h2⟩
  exact ⟨rfl, _, _, px_sub h2 (List.nil_sublist _)⟩
theorem kn_e3 : sShip (sApp (sApp (sNew (bi false)) [97]).1 [98]).1 9 = (⟨0, 0, 0, [(0, [97]), (0, [98])], 0⟩, 0) := rfl
theorem kn_e4 : sTake (sNew 1) ⟨0, 0, 0, [(0, [97]), (0, [98])], 0⟩ = (⟨1, false, 0, [(0, [97]), (0, [98])], 0, 0⟩, (0, true, 2), 0) := rfl
theorem kn_e5 : sTaken ⟨0, true, 0, [(0, [97]), (0, [98])], 0, 0⟩ (0, true, 2) = (⟨0, true, 0, [(0, [97]), (0, [98])], 2, 2⟩, 0) := rfl
theorem kn_e6 : sProm ⟨1, false, 0, [(0, [97]), (0, [98])], 0, 0⟩ = (⟨1, true, 1, [(0, [97]), (0, [98])], 0, 2⟩, 1, 0) := rfl
set_option maxRecDepth 100000 in
set_option maxHeartbeats 4000000 in
theorem known31_k {w : World} : Calls Try.prog 14 #[] w fun e W' => e = .returned (.bool true) ∧ Below w.heap.size w W' := by
  have n0 := new_k (kr_refl w) 0 (.inl rfl)
  have kc := fun (w : World) (C : Array Value) (n c : Nat) => Lib.run_convert_bytes_const (P := Try.prog) w 41 5 C n c Try.underlying41 Try.underlying5
  go_enter Try.func14, Try.ntmps14
  go_wp2_with fail
  refine n0.mono ?_
  rintro e w1 ⟨D0, rfl, K1⟩
  have n1 := new_k K1 1 (.inr rfl)
  clear n0
  go_wp2_with fail
  refine n1.mono ?_
  rintro e w2 ⟨D1, rfl, K2⟩
  clear n1 K1
  have P0 := px_two K2
  have c1 := kn_app P0 false 97
  simp only [if_neg (show ¬ (false = true) by decide)] at c1
  clear K2 P0
  go_wp2_with fail
  refine c1.mono ?_
  rintro e w3 ⟨rfl, im3, lv3, P3⟩
  have c2 := kn_app P3 false 98
  rw [upd_same] at c2
  simp only [if_neg (show ¬ (false = true) by decide)] at c2
  clear c1 P3
  go_wp2_with fail
  refine c2.mono ?_
  rintro e w4 ⟨rfl, im4, lv4, P4⟩
  clear c2
  rw [show (sApp (sApp (sNew (bi false)) [97]).1 [98]).2.1 = 2 from by decide, show (sApp (sApp (sNew (bi false)) [97]).1 [98]).2.2 = 0 from by decide]
  have c3 := px_ship P4 false 9
  rw [upd_same] at c3
  simp only [if_neg (show ¬ (false = true) by decide)] at c3
  rw [kn_e3] at c3
  simp only [List.length_cons, List.length_nil, Nat.zero_add, Nat.reduceAdd] at c3
  clear P4
  go_wp2_with fail
  refine c3.mono ?_
  rintro e w5 ⟨s5, q5, l5, rfl, P5, E5⟩
  clear c3
  have P6 := px_new P5 [.int .i64 0, .int .i64 0, .int .i64 0, .slice s5 2 q5, .int .i64 0] 53
  have c4 := px_take P6 true ⟨0, 0, 0, [(0, [97]), (0, [98])], 0⟩ 2 rfl (by omega) (by intro x hx; rcases List.mem_cons.1 hx with rfl | hx; simp; rw [List.mem_singleton.1 hx]; simp) s5 q5 (el_mono E5 (fun p hp => List.mem_append_left _ hp))
  have H6 : Hid (PX w _ _ _ _ _ _) := P6
  have zt : w5.heap.size < w5.heap.size + 1 := Nat.lt_succ_self _
  rw [show upd (upd (fun b => sNew (bi b)) false (sApp (sNew (bi false)) [97]).1) false (sApp (sApp (sNew (bi false)) [97]).1 [98]).1 true = sNew 1 from rfl] at c4
  rw [kn_e4] at c4
  simp only [if_pos] at c4
  clear P5 P6 E5
  go_wp2_with fail
  refine c4.mono ?_
  rintro e w6 ⟨rfl, l6, lv6, P7⟩
  clear c4 H6 zt
  have P8 := px_new P7 [.int .i64 0, .bool true, .int .i64 2] 57
  have c5 := px_taken P8 false (0, true, 2)
  rw [show upd (upd (upd (fun b => sNew (bi b)) false (sApp (sNew (bi false)) [97]).1) false (sApp (sApp (sNew (bi false)) [97]).1 [98]).1) true ⟨1, false, 0, [(0, [97]), (0, [98])], 0, 0⟩ false = ⟨0, true, 0, [(0, [97]), (0, [98])], 0, 0⟩ from rfl, kn_e5] at c5
  simp only [if_neg (show ¬ (false = true) by decide)] at c5
  clear P7 P8
  go_wp2_with fail
  refine c5.mono ?_
  rintro e w7 ⟨rfl, P9⟩
  clear c5
  have c6 := px_prom P9 true
  rw [show upd (upd (upd (upd (fun b => sNew (bi b)) false (sApp (sNew (bi false)) [97]).1) false (sApp (sApp (sNew (bi false)) [97]).1 [98]).1) true ⟨1, false, 0, [(0, [97]), (0, [98])], 0, 0⟩) false ⟨0, true, 0, [(0, [97]), (0, [98])], 2, 2⟩ true = ⟨1, false, 0, [(0, [97]), (0, [98])], 0, 0⟩ from rfl, kn_e6] at c6
  simp only [if_pos] at c6
  clear P9
  go_wp2_with fail
  refine c6.mono ?_
  rintro e w8 ⟨rfl, P10⟩
  clear c6
  have t3 := kr_cell P10.kr 3 rfl 3 _ rfl
  have t1 := kr_cell P10.kr 3 rfl 1 _ rfl
  have a1 := kr_cell P10.kr 2 rfl 1 _ rfl
  have a2 := kr_cell P10.kr 2 rfl 2 _ rfl
  have s0 := px_safe P10 false
  have s1 := px_leads P10 true
  have s2 := px_log P10 true
  rw [upd_same] at s1 s2
  rw [show upd (upd (upd (upd (upd (fun b => sNew (bi b)) false (sApp (sNew (bi false)) [97]).1) false (sApp (sApp (sNew (bi false)) [97]).1 [98]).1) true ⟨1, false, 0, [(0, [97]), (0, [98])], 0, 0⟩) false ⟨0, true, 0, [(0, [97]), (0, [98])], 2, 2⟩) true ⟨1, true, 1, [(0, [97]), (0, [98])], 0, 2⟩ false = ⟨0, true, 0, [(0, [97]), (0, [98])], 2, 2⟩ from rfl] at s0
  simp only [List.length_cons, List.length_nil, Nat.zero_add, Nat.reduceAdd, if_pos, if_neg (show ¬ (false = true) by decide)] at s0 s1 s2
  clear P10
  go_wp2_with (first | (go_at_call 12; refine s0.mono ?_; rintro e w9 ⟨rfl, rfl⟩) | (go_at_call 15; refine s1.mono ?_; rintro e w9 ⟨rfl, rfl⟩) | (go_at_call 11; refine s2.mono ?_; rintro e w10 ⟨s9, q9, l9, rfl, P11, E11⟩))
  refine bodyPost_ret (v := .bool true) (by simp [results, Try.results14, go_sem]) rfl ⟨rfl, P11.kr.below⟩
end Go.Proofs.Ytofpkmfjigjlhaa.Own
