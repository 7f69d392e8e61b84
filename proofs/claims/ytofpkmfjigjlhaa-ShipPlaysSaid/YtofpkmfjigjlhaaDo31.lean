/- dayshiftlaw31's do: a call to a place and to its reference. No conditions beside those in each theorem. -/
import Derived.Test.YtofpkmfjigjlhaaPq31
namespace Go.Proofs.Ytofpkmfjigjlhaa.Own
open Go.RowKit
set_option linter.unusedSimpArgs false
set_option linter.unusedVariables false
/-- A call's cells. -/
abbrev kcl (k : Int) (dv : Value) (N : Int) (p : SP) (pv : Value) (a : SA) : List Value := [.int .i64 k, dv, .int .i64 N, .int .i64 p.ep, .int .i64 p.at_, .int .i64 p.bf, pv, .int .i64 p.safe, .int .i64 a.1, .bool a.2.1, .int .i64 a.2.2]
/-- What do leaves: both are in the same state again. -/
def DoP (w : World) (A B : Nat) (xs : List (Nat × List Value)) (e : Ending) (W' : World) : Prop := e = .returned (.bool true) ∧ ∃ s' im' la' lb', P2 w W' A B s' s' xs im' la' lb'
theorem sShip_bd {s : SN} (h : NB s) (N : Int) : (sShip s N).1.l.length ≤ 4096 ∧ ∀ x ∈ (sShip s N).1.l, x.2.length ≤ 60000 := by
  unfold sShip
  repeat' split
  · exact ⟨Nat.zero_le _, fun x hx => by simp at hx⟩
  · exact ⟨Nat.zero_le _, fun x hx => by simp at hx⟩
  · refine ⟨?_, fun x hx => h.data x (List.mem_of_mem_drop (List.mem_of_mem_take hx))⟩
    have := h.len
    simp only [List.length_take, List.length_drop]
    omega
theorem in_a {l3 l2 l1 r : List (Nat × List Value)} {t2 t1 : Nat × List Value} : ∀ p ∈ l3 ++ l1, p ∈ l3 ++ (t2 :: (l2 ++ t1 :: (l1 ++ r))) := fun p hp => by
  rcases List.mem_append.1 hp with h | h
  · exact List.mem_append_left _ h
  · exact List.mem_append_right _ (List.mem_cons_of_mem _ (List.mem_append_right _ (List.mem_cons_of_mem _ (List.mem_append_left _ h))))
theorem in_b {l3 l2 l1 r : List (Nat × List Value)} {t2 t1 : Nat × List Value} : ∀ p ∈ l2, p ∈ l3 ++ (t2 :: (l2 ++ t1 :: (l1 ++ r))) := fun p hp => List.mem_append_right _ (List.mem_cons_of_mem _ (List.mem_append_left _ hp))
theorem in_sub {l3 l2 l1 r : List (Nat × List Value)} {t2 t1 : Nat × List Value} : (l1 ++ r).Sublist (l3 ++ (t2 :: (l2 ++ t1 :: (l1 ++ r)))) :=
  (((List.sublist_cons_self _ _).trans (List.sublist_append_right l2 _)).trans (List.sublist_cons_self _ _)).trans (List.sublist_append_right l3 _)
theorem p2_elv {w W : World} {A B : Nat} {s r : SN} {xs im l : List (Nat × List Value)} {la lb : Value} {sp : Option Addr} {n c : Nat} {es : List SE} (h : P2 w W A B s r xs im la lb) (he : EL l (.slice sp n c) es) (hs : ∀ p ∈ l, p ∈ xs) : ELV W sp es :=
  el_read h.kr (el_mono he (fun p hp => List.mem_cons_of_mem _ (List.mem_cons_of_mem _ (List.mem_append_left _ (hs p hp)))))
theorem p2_back {w W W' : World} {A B : Nat} {s r : SN} {xs im : List (Nat × List Value)} {la lb : Value} {ys : List (Nat × List Value)} (h : P2 w W A B s r ys im la lb) (k : KR w ((A, ncl s la) :: (B, ncl r lb) :: (xs ++ im)) W') : P2 w W' A B s r xs im la lb := ⟨k, h.ea, h.eb, h.na, h.nb⟩
theorem p2_perm {w W : World} {A B : Nat} {s r : SN} {xs xs' im : List (Nat × List Value)} {la lb : Value} (h : P2 w W A B s r xs im la lb) (hp : xs'.Perm xs) : P2 w W A B s r xs' im la lb :=
  ⟨kr_permA h.kr (List.Perm.cons _ (List.Perm.cons _ (hp.append_right im))), h.ea, h.eb, h.na, h.nb⟩
theorem in_t {l3 l1 r : List (Nat × List Value)} {t3 t2 t1 : Nat × List Value} : ∀ p ∈ l3 ++ l1, p ∈ l3 ++ (t3 :: t2 :: t1 :: (l1 ++ r)) := fun p hp => by
  rcases List.mem_append.1 hp with h | h
  · exact List.mem_append_left _ h
  · exact List.mem_append_right _ (List.mem_cons_of_mem _ (List.mem_cons_of_mem _ (List.mem_cons_of_mem _ (List.mem_append_left _ h))))
theorem sub_t {l3 l1 r : List (Nat × List Value)} {t3 t2 t1 : Nat × List Value} : (t3 :: t2 :: (l1 ++ r)).Sublist (l3 ++ (t3 :: t2 :: t1 :: (l1 ++ r))) :=
  (List.Sublist.cons_cons _ (List.Sublist.cons_cons _ (List.sublist_cons_self _ _))).trans (List.sublist_append_right l3 _)
section
variable {w W : World} {A B : Nat} {s : SN} {xs im : List (Nat × List Value)} {la lb : Value}
set_option maxRecDepth 100000 in
set_option maxHeartbeats 4000000 in
theorem do_app0 (h : P2 w W A B s s xs im la lb) (d : List Int) (m : Nat) (hm : Hid (d.length = m)) (hm2 : m ≤ 140737488351232) (sd : Option Addr) (cd : Nat) (hS : Hid (SrcV w sd (bc d))) (N : Int) (p : SP) (mp : Nat) (hmp : Hid (p.l.length = mp)) (hmp2 : mp ≤ 60) (hz : Hid (∀ x ∈ p.l, x.2.length ≤ 140737488351232)) (sp : Option Addr) (cp : Nat) (hcp : Hid (mp ≤ cp)) (hE : Hid (ELV w sp p.l)) (a : SA) :
    Calls Try.prog 27 #[.pointer (some ⟨A, 0, none⟩), .pointer (some ⟨B, 0, none⟩), .agg #[.int .i64 0, .slice sd m cd, .int .i64 N, .int .i64 p.ep, .int .i64 p.at_, .int .i64 p.bf, .slice sp mp cp, .int .i64 p.safe, .int .i64 a.1, .bool a.2.1, .int .i64 a.2.2]] W (DoP w A B xs) := by
  have h1 := p2_new h (kcl 0 (.slice sd m cd) N p (.slice sp mp cp) a) 72
  have HP : Hid (P2 w _ A B s s ((W.heap.size, _) :: xs) im la lb) := h1
  have HM2 : Hid (m ≤ 140737488351232) := hm2
  have HMP2 : Hid (mp ≤ 60) := hmp2
  have t0 := p2_cell h1 List.mem_cons_self 0 _ rfl
  clear h1 h hm2 hmp2
  go_enter Try.func27, Try.ntmps27
  go_upto_region 4 with fail
  have HP : Hid (P2 w (W.alloc (.cells #[.int .i64 0, .slice sd m cd, .int .i64 N, .int .i64 p.ep, .int .i64 p.at_, .int .i64 p.bf, .slice sp mp cp, .int .i64 p.safe, .int .i64 a.1, .bool a.2.1, .int .i64 a.2.2] 72)) A B s s ((W.heap.size, kcl 0 (.slice sd m cd) N p (.slice sp mp cp) a) :: xs) im la lb) := HP
  generalize (W.alloc (.cells #[.int .i64 0, .slice sd m cd, .int .i64 N, .int .i64 p.ep, .int .i64 p.at_, .int .i64 p.bf, .slice sp mp cp, .int .i64 p.safe, .int .i64 a.1, .bool a.2.1, .int .i64 a.2.2] 72)) = V at *
  generalize W.heap.size = T at *
  clear t0
  have t1 := p2_cell HP.out List.mem_cons_self 1 _ rfl
  go_upto_region 5 with ((go_at_call 40; refine (lent_k HP.out.kr d m hm HM2.out sd cd (fun W1 h1 => srcV_keep hS.out h1.below)).mono ?_; rintro e w1 ⟨g, cap, cur, rfl, hc1, hc2, hc3, K1⟩; have HC : Hid (m + 8 ≤ cap ∧ cap = cur.length ∧ cur.take (m + 8) = bc d ++ a5s) := ⟨hc1, hc2, hc3⟩; have HK1 : Hid (KR w _ w1) := K1; clear hc1 hc2 hc3 K1))
  have HP1 : Hid (P2 w w1 A B s s ((g, cur) :: (T, _) :: xs) im la lb) := p2_row HP.out HK1.out
  have HC2 : Hid (cur.take m = bc d) := by
    have h1 := congrArg (List.take m) HC.out.2.2
    rw [List.take_take, Nat.min_eq_left (by omega), List.take_append_of_le_length (by rw [bc_len, hm.out]; exact Nat.le_refl _), List.take_of_length_le (l := bc d) (by rw [bc_len, hm.out]; exact Nat.le_refl _)] at h1
    exact h1
  clear HK1 HP t1
  go_upto_region 6 with ((go_at_call 20; refine (p2_app HP1.out d m hm.out HM2.out _ cap (by have := HC.out.1; omega) (fun W1 h1 => srcV_row h1 List.mem_cons_self HC2.out)).mono ?_; rintro e w2 ⟨rfl, im2, la2, h2⟩; have HP2 : Hid (P2 w w2 A B _ s _ im2 la2 lb) := h2; clear h2))
  have t1 := p2_cell HP2.out (List.mem_cons_of_mem _ List.mem_cons_self) 1 _ rfl
  clear HP1
  go_upto_region 7 with ((go_at_call 41; refine (p2_rapp HP2.out d m hm.out HM2.out sd cd (srcV_keep hS.out HP2.out.kr.below)).mono ?_; rintro e w3 ⟨rfl, im3, lb3, h3⟩; have HP3 : Hid (P2 w w3 A B _ _ _ im3 la2 lb3) := h3; clear h3))
  clear t1
  have t1 := p2_cell HP3.out (List.mem_cons_of_mem _ List.mem_cons_self) 1 _ rfl
  clear HP2
  go_upto_region 8 with ((go_at_call 42; refine (kept_k (p2_kr HP3.out) d m hm HM2.out sd cd (srcV_keep hS.out HP3.out.kr.below) g cap cur List.mem_cons_self HC.out.1 HC.out.2.2).mono ?_; rintro e w4 ⟨rfl, q4, rfl⟩))
  have HP4 : Hid (P2 w (w3.drewN q4) A B _ _ ((g, cur) :: (T, _) :: xs) im3 la2 lb3) := p2_call HP3.out (bw_drewN (Below.refl _ _) q4)
  clear HP3 t1
  go_upto_region 9 with ((go_at_call 43; refine (spoil_k g m cap cur (by have := HC.out; omega) (by have := HM2.out; omega) (p2_head HP4.out)).mono ?_; rintro e w5 ⟨rfl, cur5, hc5, K5⟩; have HK5 : Hid (KR w _ w5) := K5; clear K5 hc5))
  generalize w3.drewN q4 = w4 at *
  go_wp2_with fail
  go_ret
  exact ⟨rfl, _, _, _, _, p2_sub (xs := (T, kcl 0 (.slice sd m cd) N p (.slice sp mp cp) a) :: xs) ⟨kr_tail HK5.out, HP4.out.ea, HP4.out.eb, HP4.out.na, HP4.out.nb⟩ (List.sublist_cons_self _ _)⟩
set_option maxRecDepth 100000 in
set_option maxHeartbeats 4000000 in
theorem do_app1 (h : P2 w W A B s s xs im la lb) (d : List Int) (m : Nat) (hm : Hid (d.length = m)) (hm2 : m ≤ 140737488351232) (sd : Option Addr) (cd : Nat) (hS : Hid (SrcV w sd (bc d))) (N : Int) (p : SP) (mp : Nat) (hmp : Hid (p.l.length = mp)) (hmp2 : mp ≤ 60) (hz : Hid (∀ x ∈ p.l, x.2.length ≤ 140737488351232)) (sp : Option Addr) (cp : Nat) (hcp : Hid (mp ≤ cp)) (hE : Hid (ELV w sp p.l)) (a : SA) :
    Calls Try.prog 27 #[.pointer (some ⟨A, 0, none⟩), .pointer (some ⟨B, 0, none⟩), .agg #[.int .i64 1, .slice sd m cd, .int .i64 N, .int .i64 p.ep, .int .i64 p.at_, .int .i64 p.bf, .slice sp mp cp, .int .i64 p.safe, .int .i64 a.1, .bool a.2.1, .int .i64 a.2.2]] W (DoP w A B xs) := by
  have h1 := p2_new h (kcl 1 (.slice sd m cd) N p (.slice sp mp cp) a) 72
  have HP : Hid (P2 w _ A B s s ((W.heap.size, _) :: xs) im la lb) := h1
  have HM2 : Hid (m ≤ 140737488351232) := hm2
  have HMP2 : Hid (mp ≤ 60) := hmp2
  have t0 := p2_cell h1 List.mem_cons_self 0 _ rfl
  clear h1 h hm2 hmp2
  go_enter Try.func27, Try.ntmps27
  go_upto_region 4 with fail
  have HP : Hid (P2 w (W.alloc (.cells #[.int .i64 1, .slice sd m cd, .int .i64 N, .int .i64 p.ep, .int .i64 p.at_, .int .i64 p.bf, .slice sp mp cp, .int .i64 p.safe, .int .i64 a.1, .bool a.2.1, .int .i64 a.2.2] 72)) A B s s ((W.heap.size, kcl 1 (.slice sd m cd) N p (.slice sp mp cp) a) :: xs) im la lb) := HP
  generalize (W.alloc (.cells #[.int .i64 1, .slice sd m cd, .int .i64 N, .int .i64 p.ep, .int .i64 p.at_, .int .i64 p.bf, .slice sp mp cp, .int .i64 p.safe, .int .i64 a.1, .bool a.2.1, .int .i64 a.2.2] 72)) = V at *
  generalize W.heap.size = T at *
  clear t0
  have t1 := p2_cell HP.out List.mem_cons_self 1 _ rfl
  go_upto_region 5 with ((go_at_call 40; refine (lent_k HP.out.kr d m hm HM2.out sd cd (fun W1 h1 => srcV_keep hS.out h1.below)).mono ?_; rintro e w1 ⟨g, cap, cur, rfl, hc1, hc2, hc3, K1⟩; have HC : Hid (m + 8 ≤ cap ∧ cap = cur.length ∧ cur.take (m + 8) = bc d ++ a5s) := ⟨hc1, hc2, hc3⟩; have HK1 : Hid (KR w _ w1) := K1; clear hc1 hc2 hc3 K1))
  have HP1 : Hid (P2 w w1 A B s s ((g, cur) :: (T, _) :: xs) im la lb) := p2_row HP.out HK1.out
  have HC2 : Hid (cur.take m = bc d) := by
    have h1 := congrArg (List.take m) HC.out.2.2
    rw [List.take_take, Nat.min_eq_left (by omega), List.take_append_of_le_length (by rw [bc_len, hm.out]; exact Nat.le_refl _), List.take_of_length_le (l := bc d) (by rw [bc_len, hm.out]; exact Nat.le_refl _)] at h1
    exact h1
  clear HK1 HP t1
  go_upto_region 6 with ((go_at_call 20; refine (p2_app HP1.out d m hm.out HM2.out _ cap (by have := HC.out.1; omega) (fun W1 h1 => srcV_row h1 List.mem_cons_self HC2.out)).mono ?_; rintro e w2 ⟨rfl, im2, la2, h2⟩; have HP2 : Hid (P2 w w2 A B _ s _ im2 la2 lb) := h2; clear h2))
  have t1 := p2_cell HP2.out (List.mem_cons_of_mem _ List.mem_cons_self) 1 _ rfl
  clear HP1
  go_upto_region 7 with ((go_at_call 41; refine (p2_rapp HP2.out d m hm.out HM2.out sd cd (srcV_keep hS.out HP2.out.kr.below)).mono ?_; rintro e w3 ⟨rfl, im3, lb3, h3⟩; have HP3 : Hid (P2 w w3 A B _ _ _ im3 la2 lb3) := h3; clear h3))
  clear t1
  have t1 := p2_cell HP3.out (List.mem_cons_of_mem _ List.mem_cons_self) 1 _ rfl
  clear HP2
  go_upto_region 8 with ((go_at_call 42; refine (kept_k (p2_kr HP3.out) d m hm HM2.out sd cd (srcV_keep hS.out HP3.out.kr.below) g cap cur List.mem_cons_self HC.out.1 HC.out.2.2).mono ?_; rintro e w4 ⟨rfl, q4, rfl⟩))
  have HP4 : Hid (P2 w (w3.drewN q4) A B _ _ ((g, cur) :: (T, _) :: xs) im3 la2 lb3) := p2_call HP3.out (bw_drewN (Below.refl _ _) q4)
  clear HP3 t1
  go_upto_region 9 with ((go_at_call 43; refine (spoil_k g m cap cur (by have := HC.out; omega) (by have := HM2.out; omega) (p2_head HP4.out)).mono ?_; rintro e w5 ⟨rfl, cur5, hc5, K5⟩; have HK5 : Hid (KR w _ w5) := K5; clear K5 hc5))
  generalize w3.drewN q4 = w4 at *
  go_wp2_with fail
  go_ret
  exact ⟨rfl, _, _, _, _, p2_sub (xs := (T, kcl 1 (.slice sd m cd) N p (.slice sp mp cp) a) :: xs) ⟨kr_tail HK5.out, HP4.out.ea, HP4.out.eb, HP4.out.na, HP4.out.nb⟩ (List.sublist_cons_self _ _)⟩
set_option maxRecDepth 100000 in
set_option maxHeartbeats 4000000 in
theorem do_prom (h : P2 w W A B s s xs im la lb) (d : List Int) (m : Nat) (hm : Hid (d.length = m)) (hm2 : m ≤ 140737488351232) (sd : Option Addr) (cd : Nat) (hS : Hid (SrcV w sd (bc d))) (N : Int) (p : SP) (mp : Nat) (hmp : Hid (p.l.length = mp)) (hmp2 : mp ≤ 60) (hz : Hid (∀ x ∈ p.l, x.2.length ≤ 140737488351232)) (sp : Option Addr) (cp : Nat) (hcp : Hid (mp ≤ cp)) (hE : Hid (ELV w sp p.l)) (a : SA) :
    Calls Try.prog 27 #[.pointer (some ⟨A, 0, none⟩), .pointer (some ⟨B, 0, none⟩), .agg #[.int .i64 5, .slice sd m cd, .int .i64 N, .int .i64 p.ep, .int .i64 p.at_, .int .i64 p.bf, .slice sp mp cp, .int .i64 p.safe, .int .i64 a.1, .bool a.2.1, .int .i64 a.2.2]] W (DoP w A B xs) := by
  have h1 := p2_new h (kcl 5 (.slice sd m cd) N p (.slice sp mp cp) a) 72
  have HP : Hid (P2 w _ A B s s ((W.heap.size, _) :: xs) im la lb) := h1
  have HM2 : Hid (m ≤ 140737488351232) := hm2
  have HMP2 : Hid (mp ≤ 60) := hmp2
  have t0 := p2_cell h1 List.mem_cons_self 0 _ rfl
  clear h1 h hm2 hmp2
  go_enter Try.func27, Try.ntmps27
  go_upto_region 26 with fail
  have HP : Hid (P2 w (W.alloc (.cells #[.int .i64 5, .slice sd m cd, .int .i64 N, .int .i64 p.ep, .int .i64 p.at_, .int .i64 p.bf, .slice sp mp cp, .int .i64 p.safe, .int .i64 a.1, .bool a.2.1, .int .i64 a.2.2] 72)) A B s s ((W.heap.size, kcl 5 (.slice sd m cd) N p (.slice sp mp cp) a) :: xs) im la lb) := HP
  generalize (W.alloc (.cells #[.int .i64 5, .slice sd m cd, .int .i64 N, .int .i64 p.ep, .int .i64 p.at_, .int .i64 p.bf, .slice sp mp cp, .int .i64 p.safe, .int .i64 a.1, .bool a.2.1, .int .i64 a.2.2] 72)) = V at *
  generalize W.heap.size = T at *
  clear t0
  go_upto_region 27 with ((go_at_call 19; refine (p2_prom HP.out).mono ?_; rintro e w1 ⟨rfl, h1⟩; have HP1 : Hid (P2 w w1 A B _ s _ im la lb) := h1; clear h1))
  clear HP
  go_wp2_with (go_at_call 51; refine (p2_rprom HP1.out).mono ?_; rintro e w2 ⟨rfl, h2⟩; have HP2 : Hid (P2 w w2 A B _ _ _ im la lb) := h2; clear h2)
  go_ret
  exact ⟨rfl, _, _, _, _, p2_sub HP2.out (List.sublist_cons_self _ _)⟩
set_option maxRecDepth 100000 in
set_option maxHeartbeats 4000000 in
theorem do_dem (h : P2 w W A B s s xs im la lb) (d : List Int) (m : Nat) (hm : Hid (d.length = m)) (hm2 : m ≤ 140737488351232) (sd : Option Addr) (cd : Nat) (hS : Hid (SrcV w sd (bc d))) (N : Int) (p : SP) (mp : Nat) (hmp : Hid (p.l.length = mp)) (hmp2 : mp ≤ 60) (hz : Hid (∀ x ∈ p.l, x.2.length ≤ 140737488351232)) (sp : Option Addr) (cp : Nat) (hcp : Hid (mp ≤ cp)) (hE : Hid (ELV w sp p.l)) (a : SA) :
    Calls Try.prog 27 #[.pointer (some ⟨A, 0, none⟩), .pointer (some ⟨B, 0, none⟩), .agg #[.int .i64 6, .slice sd m cd, .int .i64 N, .int .i64 p.ep, .int .i64 p.at_, .int .i64 p.bf, .slice sp mp cp, .int .i64 p.safe, .int .i64 a.1, .bool a.2.1, .int .i64 a.2.2]] W (DoP w A B xs) := by
  have h1 := p2_new h (kcl 6 (.slice sd m cd) N p (.slice sp mp cp) a) 72
  have HP : Hid (P2 w _ A B s s ((W.heap.size, _) :: xs) im la lb) := h1
  have HM2 : Hid (m ≤ 140737488351232) := hm2
  have HMP2 : Hid (mp ≤ 60) := hmp2
  have t0 := p2_cell h1 List.mem_cons_self 0 _ rfl
  clear h1 h hm2 hmp2
  go_enter Try.func27, Try.ntmps27
  go_upto_region 30 with fail
  have HP : Hid (P2 w (W.alloc (.cells #[.int .i64 6, .slice sd m cd, .int .i64 N, .int .i64 p.ep, .int .i64 p.at_, .int .i64 p.bf, .slice sp mp cp, .int .i64 p.safe, .int .i64 a.1, .bool a.2.1, .int .i64 a.2.2] 72)) A B s s ((W.heap.size, kcl 6 (.slice sd m cd) N p (.slice sp mp cp) a) :: xs) im la lb) := HP
  generalize (W.alloc (.cells #[.int .i64 6, .slice sd m cd, .int .i64 N, .int .i64 p.ep, .int .i64 p.at_, .int .i64 p.bf, .slice sp mp cp, .int .i64 p.safe, .int .i64 a.1, .bool a.2.1, .int .i64 a.2.2] 72)) = V at *
  generalize W.heap.size = T at *
  clear t0
  go_wp2_with (first | (go_at_call 18; refine (p2_dem HP.out).mono ?_; rintro e w1 ⟨rfl, h1⟩; have HP1 : Hid (P2 w w1 A B _ s _ im la lb) := h1; clear h1 HP) | (go_at_call 52; refine (p2_rdem HP1.out).mono ?_; rintro e w2 ⟨rfl, h2⟩; have HP2 : Hid (P2 w w2 A B _ _ _ im la lb) := h2; clear h2))
  go_ret
  exact ⟨rfl, _, _, _, _, p2_sub HP2.out (List.sublist_cons_self _ _)⟩
set_option maxRecDepth 100000 in
set_option maxHeartbeats 4000000 in
theorem do_none (h : P2 w W A B s s xs im la lb) (d : List Int) (m : Nat) (hm : Hid (d.length = m)) (hm2 : m ≤ 140737488351232) (sd : Option Addr) (cd : Nat) (hS : Hid (SrcV w sd (bc d))) (N : Int) (p : SP) (mp : Nat) (hmp : Hid (p.l.length = mp)) (hmp2 : mp ≤ 60) (hz : Hid (∀ x ∈ p.l, x.2.length ≤ 140737488351232)) (sp : Option Addr) (cp : Nat) (hcp : Hid (mp ≤ cp)) (hE : Hid (ELV w sp p.l)) (a : SA) (k : Int) (hk : k < 0 ∨ 6 < k) :
    Calls Try.prog 27 #[.pointer (some ⟨A, 0, none⟩), .pointer (some ⟨B, 0, none⟩), .agg #[.int .i64 k, .slice sd m cd, .int .i64 N, .int .i64 p.ep, .int .i64 p.at_, .int .i64 p.bf, .slice sp mp cp, .int .i64 p.safe, .int .i64 a.1, .bool a.2.1, .int .i64 a.2.2]] W (DoP w A B xs) := by
  have h1 := p2_new h (kcl k (.slice sd m cd) N p (.slice sp mp cp) a) 72
  have HP : Hid (P2 w _ A B s s ((W.heap.size, _) :: xs) im la lb) := h1
  have HM2 : Hid (m ≤ 140737488351232) := hm2
  have HMP2 : Hid (mp ≤ 60) := hmp2
  have t0 := p2_cell h1 List.mem_cons_self 0 _ rfl
  clear h1 h hm2 hmp2
  have q0 : (k == 0) = false := by simp; omega
  have q1 : (k == 1) = false := by simp; omega
  have q2 : (k == 2) = false := by simp; omega
  have q3 : (k == 3) = false := by simp; omega
  have q4 : (k == 4) = false := by simp; omega
  have q5 : (k == 5) = false := by simp; omega
  have q6 : (k == 6) = false := by simp; omega
  clear hk
  go_enter Try.func27, Try.ntmps27
  go_wp2
  go_ret
  exact ⟨rfl, _, _, _, _, p2_sub HP.out (List.sublist_cons_self _ _)⟩
set_option maxRecDepth 100000 in
set_option maxHeartbeats 4000000 in
theorem do_taken (h : P2 w W A B s s xs im la lb) (d : List Int) (m : Nat) (hm : Hid (d.length = m)) (hm2 : m ≤ 140737488351232) (sd : Option Addr) (cd : Nat) (hS : Hid (SrcV w sd (bc d))) (N : Int) (p : SP) (mp : Nat) (hmp : Hid (p.l.length = mp)) (hmp2 : mp ≤ 60) (hz : Hid (∀ x ∈ p.l, x.2.length ≤ 140737488351232)) (sp : Option Addr) (cp : Nat) (hcp : Hid (mp ≤ cp)) (hE : Hid (ELV w sp p.l)) (a : SA) :
    Calls Try.prog 27 #[.pointer (some ⟨A, 0, none⟩), .pointer (some ⟨B, 0, none⟩), .agg #[.int .i64 4, .slice sd m cd, .int .i64 N, .int .i64 p.ep, .int .i64 p.at_, .int .i64 p.bf, .slice sp mp cp, .int .i64 p.safe, .int .i64 a.1, .bool a.2.1, .int .i64 a.2.2]] W (DoP w A B xs) := by
  have h1 := p2_new h (kcl 4 (.slice sd m cd) N p (.slice sp mp cp) a) 72
  have HP : Hid (P2 w _ A B s s ((W.heap.size, _) :: xs) im la lb) := h1
  have HM2 : Hid (m ≤ 140737488351232) := hm2
  have HMP2 : Hid (mp ≤ 60) := hmp2
  have t0 := p2_cell h1 List.mem_cons_self 0 _ rfl
  clear h1 h hm2 hmp2
  go_enter Try.func27, Try.ntmps27
  go_upto_region 24 with fail
  have HP : Hid (P2 w (W.alloc (.cells #[.int .i64 4, .slice sd m cd, .int .i64 N, .int .i64 p.ep, .int .i64 p.at_, .int .i64 p.bf, .slice sp mp cp, .int .i64 p.safe, .int .i64 a.1, .bool a.2.1, .int .i64 a.2.2] 72)) A B s s ((W.heap.size, kcl 4 (.slice sd m cd) N p (.slice sp mp cp) a) :: xs) im la lb) := HP
  generalize (W.alloc (.cells #[.int .i64 4, .slice sd m cd, .int .i64 N, .int .i64 p.ep, .int .i64 p.at_, .int .i64 p.bf, .slice sp mp cp, .int .i64 p.safe, .int .i64 a.1, .bool a.2.1, .int .i64 a.2.2] 72)) = V at *
  generalize W.heap.size = T at *
  clear t0
  have t8 := p2_cell HP.out List.mem_cons_self 8 _ rfl
  have t9 := p2_cell HP.out List.mem_cons_self 9 _ rfl
  have t10 := p2_cell HP.out List.mem_cons_self 10 _ rfl
  go_region_held3 (fun V => V.cell? ⟨T, 8, none⟩ = some (.int .i64 a.1) ∧ V.cell? ⟨T, 9, none⟩ = some (.bool a.2.1) ∧ V.cell? ⟨T, 10, none⟩ = some (.int .i64 a.2.2)) (first | (with_reducible exact hS3) | (with_reducible exact hS4) | go_keep) ((first | (go_at_call 23; refine (p2_taken (p2_call HP.out (bw_drew (Below.refl _ _))) a).mono ?_; rintro e w1 ⟨rfl, h1⟩; have hS3 : w1.cell? ⟨T, 8, none⟩ = some (.int .i64 a.1) ∧ w1.cell? ⟨T, 9, none⟩ = some (.bool a.2.1) ∧ w1.cell? ⟨T, 10, none⟩ = some (.int .i64 a.2.2) := ⟨p2_cell h1 List.mem_cons_self 8 _ rfl, p2_cell h1 List.mem_cons_self 9 _ rfl, p2_cell h1 List.mem_cons_self 10 _ rfl⟩; have HP1 : Hid (P2 w w1 A B _ s _ im la lb) := h1; clear h1) | (go_at_call 50; refine (p2_rtaken HP1.out a).mono ?_; rintro e w2 ⟨rfl, h2⟩; have hS4 : w2.cell? ⟨T, 8, none⟩ = some (.int .i64 a.1) ∧ w2.cell? ⟨T, 9, none⟩ = some (.bool a.2.1) ∧ w2.cell? ⟨T, 10, none⟩ = some (.int .i64 a.2.2) := ⟨p2_cell h2 List.mem_cons_self 8 _ rfl, p2_cell h2 List.mem_cons_self 9 _ rfl, p2_cell h2 List.mem_cons_self 10 _ rfl⟩; have HP2 : Hid (P2 w w2 A B _ _ _ im la lb) := h2; clear h2)))
  all_goals
    go_wp2_with fail
    go_ret
    exact ⟨rfl, _, _, _, _, p2_sub HP2.out (List.sublist_cons_self _ _)⟩
set_option maxRecDepth 100000 in
set_option maxHeartbeats 4000000 in
theorem do_ship (h : P2 w W A B s s xs im la lb) (d : List Int) (m : Nat) (hm : Hid (d.length = m)) (hm2 : m ≤ 140737488351232) (sd : Option Addr) (cd : Nat) (hS : Hid (SrcV w sd (bc d))) (N : Int) (p : SP) (mp : Nat) (hmp : Hid (p.l.length = mp)) (hmp2 : mp ≤ 60) (hz : Hid (∀ x ∈ p.l, x.2.length ≤ 140737488351232)) (sp : Option Addr) (cp : Nat) (hcp : Hid (mp ≤ cp)) (hE : Hid (ELV w sp p.l)) (a : SA) :
    Calls Try.prog 27 #[.pointer (some ⟨A, 0, none⟩), .pointer (some ⟨B, 0, none⟩), .agg #[.int .i64 2, .slice sd m cd, .int .i64 N, .int .i64 p.ep, .int .i64 p.at_, .int .i64 p.bf, .slice sp mp cp, .int .i64 p.safe, .int .i64 a.1, .bool a.2.1, .int .i64 a.2.2]] W (DoP w A B xs) := by
  have h1 := p2_new h (kcl 2 (.slice sd m cd) N p (.slice sp mp cp) a) 72
  have HP : Hid (P2 w _ A B s s ((W.heap.size, _) :: xs) im la lb) := h1
  have HM2 : Hid (m ≤ 140737488351232) := hm2
  have HMP2 : Hid (mp ≤ 60) := hmp2
  have t0 := p2_cell h1 List.mem_cons_self 0 _ rfl
  clear h1 h hm2 hmp2
  go_enter Try.func27, Try.ntmps27
  go_upto_region 11 with fail
  have HP : Hid (P2 w (W.alloc (.cells #[.int .i64 2, .slice sd m cd, .int .i64 N, .int .i64 p.ep, .int .i64 p.at_, .int .i64 p.bf, .slice sp mp cp, .int .i64 p.safe, .int .i64 a.1, .bool a.2.1, .int .i64 a.2.2] 72)) A B s s ((W.heap.size, kcl 2 (.slice sd m cd) N p (.slice sp mp cp) a) :: xs) im la lb) := HP
  generalize (W.alloc (.cells #[.int .i64 2, .slice sd m cd, .int .i64 N, .int .i64 p.ep, .int .i64 p.at_, .int .i64 p.bf, .slice sp mp cp, .int .i64 p.safe, .int .i64 a.1, .bool a.2.1, .int .i64 a.2.2] 72)) = V at *
  generalize W.heap.size = T at *
  clear t0
  have t2 := p2_cell HP.out List.mem_cons_self 2 _ rfl
  have hbd := sShip_bd HP.out.na N
  have hsA := p2_ship HP.out N
  have hsB : ∀ V xs', P2 w V A B s s xs' im la lb → _ := fun V xs' h => p2_rship h N
  generalize sShip s N = R at hbd hsA hsB
  obtain ⟨q, er⟩ := R
  simp only at hbd hsA hsB
  obtain ⟨n, hn⟩ : ∃ n, q.l.length = n := ⟨_, rfl⟩
  rw [hn] at hbd hsA hsB
  have HN : Hid (q.l.length = n) := hn
  have HBD : Hid (n ≤ 4096 ∧ ∀ x ∈ q.l, x.2.length ≤ 60000) := hbd
  have HSB : Hid _ := hidI hsB
  have HSA : Hid _ := hidI hsA
  clear hbd hsA hsB hn
  go_upto_region 12 with ((go_at_call 21; refine HSA.out.mono ?_; rintro e w1 ⟨s1, c1, l1, rfl, h1, e1⟩; have HP1 : Hid (P2 w w1 A B s s (l1 ++ (T, _) :: xs) im la lb ∧ EL l1 (.slice s1 n c1) q.l) := ⟨h1, e1⟩; clear h1 e1))
  have P1 := p2_new HP1.out.1 (pc q (.slice s1 n c1)) 53
  have E1 : Hid (EL l1 (.slice s1 n c1) q.l) := HP1.out.2
  clear HP1 HSA HP t2
  have P1 : P2 w (w1.alloc (.cells #[.int .i64 q.ep, .int .i64 q.at_, .int .i64 q.bf, .slice s1 n c1, .int .i64 q.safe] 53)) A B s s _ im la lb := P1
  generalize (w1.alloc (.cells #[.int .i64 q.ep, .int .i64 q.at_, .int .i64 q.bf, .slice s1 n c1, .int .i64 q.safe] 53)) = w2 at *
  generalize w1.heap.size = T1 at *
  have t2 := p2_cell P1 (List.mem_cons_of_mem _ (List.mem_append_right _ List.mem_cons_self)) 2 _ rfl
  have HP1 : Hid (P2 w w2 A B s s _ im la lb) := P1
  clear P1
  go_upto_region 13 with ((go_at_call 44; refine (HSB.out _ _ HP1.out).mono ?_; rintro e w3 ⟨s2, c2, l2, rfl, h1, e1⟩; have HP2 : Hid (P2 w w3 A B s s (l2 ++ (T1, _) :: (l1 ++ (T, _) :: xs)) im la lb ∧ EL l2 (.slice s2 n c2) q.l) := ⟨h1, e1⟩; clear h1 e1))
  have P2' := p2_new HP2.out.1 (pc q (.slice s2 n c2)) 69
  have E2 : Hid (EL l2 (.slice s2 n c2) q.l) := HP2.out.2
  clear HP2 HSB HP1 t2
  have P2' : P2 w (w3.alloc (.cells #[.int .i64 q.ep, .int .i64 q.at_, .int .i64 q.bf, .slice s2 n c2, .int .i64 q.safe] 69)) A B s s _ im la lb := P2'
  generalize (w3.alloc (.cells #[.int .i64 q.ep, .int .i64 q.at_, .int .i64 q.bf, .slice s2 n c2, .int .i64 q.safe] 69)) = w4 at *
  generalize w3.heap.size = T2 at *
  have hS0 : (w4.cell? ⟨T1, 0, none⟩ = some (.int .i64 q.ep) ∧ w4.cell? ⟨T1, 1, none⟩ = some (.int .i64 q.at_) ∧ w4.cell? ⟨T1, 2, none⟩ = some (.int .i64 q.bf) ∧ w4.cell? ⟨T1, 3, none⟩ = some (.slice s1 n c1) ∧ w4.cell? ⟨T1, 4, none⟩ = some (.int .i64 q.safe) ∧ w4.cell? ⟨T2, 0, none⟩ = some (.int .i64 q.ep) ∧ w4.cell? ⟨T2, 1, none⟩ = some (.int .i64 q.at_) ∧ w4.cell? ⟨T2, 2, none⟩ = some (.int .i64 q.bf) ∧ w4.cell? ⟨T2, 3, none⟩ = some (.slice s2 n c2) ∧ w4.cell? ⟨T2, 4, none⟩ = some (.int .i64 q.safe)) := ⟨p2_cell P2' (List.mem_cons_of_mem _ (List.mem_append_right _ List.mem_cons_self)) 0 _ rfl, p2_cell P2' (List.mem_cons_of_mem _ (List.mem_append_right _ List.mem_cons_self)) 1 _ rfl, p2_cell P2' (List.mem_cons_of_mem _ (List.mem_append_right _ List.mem_cons_self)) 2 _ rfl, p2_cell P2' (List.mem_cons_of_mem _ (List.mem_append_right _ List.mem_cons_self)) 3 _ rfl, p2_cell P2' (List.mem_cons_of_mem _ (List.mem_append_right _ List.mem_cons_self)) 4 _ rfl, p2_cell P2' List.mem_cons_self 0 _ rfl, p2_cell P2' List.mem_cons_self 1 _ rfl, p2_cell P2' List.mem_cons_self 2 _ rfl, p2_cell P2' List.mem_cons_self 3 _ rfl, p2_cell P2' List.mem_cons_self 4 _ rfl⟩
  obtain ⟨a0, a1, a2, a3, a4, b0, b1, b2, b3, b4⟩ := hS0
  have HP2 : Hid (P2 w w4 A B s s ((T2, _) :: (l2 ++ (T1, _) :: (l1 ++ (T, _) :: xs))) im la lb) := P2'
  clear P2'
  go_region_held3 (fun V => (V.cell? ⟨T1, 0, none⟩ = some (.int .i64 q.ep) ∧ V.cell? ⟨T1, 1, none⟩ = some (.int .i64 q.at_) ∧ V.cell? ⟨T1, 2, none⟩ = some (.int .i64 q.bf) ∧ V.cell? ⟨T1, 3, none⟩ = some (.slice s1 n c1) ∧ V.cell? ⟨T1, 4, none⟩ = some (.int .i64 q.safe) ∧ V.cell? ⟨T2, 0, none⟩ = some (.int .i64 q.ep) ∧ V.cell? ⟨T2, 1, none⟩ = some (.int .i64 q.at_) ∧ V.cell? ⟨T2, 2, none⟩ = some (.int .i64 q.bf) ∧ V.cell? ⟨T2, 3, none⟩ = some (.slice s2 n c2) ∧ V.cell? ⟨T2, 4, none⟩ = some (.int .i64 q.safe))) (first | (with_reducible exact hS3) | (with_reducible exact hS4) | go_keep) ((first | (go_at_call 46; refine (sent_k (im := l1) (p2_call HP2.out (bw_drew (Below.refl _ _))).kr (fun x hx => List.mem_cons_of_mem _ (List.mem_cons_of_mem _ (List.mem_append_left _ (List.mem_cons_of_mem _ (List.mem_append_right _ (List.mem_cons_of_mem _ (List.mem_append_left _ hx))))))) q n HN.out (by have := HBD.out.1; omega) s1 c1 E1.out).mono ?_; rintro e w5 ⟨s3, c3, l3, rfl, k5, e5⟩; have P5 := p2_push HP2.out k5; have hS3 : (w5.cell? ⟨T1, 0, none⟩ = some (.int .i64 q.ep) ∧ w5.cell? ⟨T1, 1, none⟩ = some (.int .i64 q.at_) ∧ w5.cell? ⟨T1, 2, none⟩ = some (.int .i64 q.bf) ∧ w5.cell? ⟨T1, 3, none⟩ = some (.slice s1 n c1) ∧ w5.cell? ⟨T1, 4, none⟩ = some (.int .i64 q.safe) ∧ w5.cell? ⟨T2, 0, none⟩ = some (.int .i64 q.ep) ∧ w5.cell? ⟨T2, 1, none⟩ = some (.int .i64 q.at_) ∧ w5.cell? ⟨T2, 2, none⟩ = some (.int .i64 q.bf) ∧ w5.cell? ⟨T2, 3, none⟩ = some (.slice s2 n c2) ∧ w5.cell? ⟨T2, 4, none⟩ = some (.int .i64 q.safe)) := ⟨p2_cell P5 (List.mem_append_right _ (List.mem_cons_of_mem _ (List.mem_append_right _ List.mem_cons_self))) 0 _ rfl, p2_cell P5 (List.mem_append_right _ (List.mem_cons_of_mem _ (List.mem_append_right _ List.mem_cons_self))) 1 _ rfl, p2_cell P5 (List.mem_append_right _ (List.mem_cons_of_mem _ (List.mem_append_right _ List.mem_cons_self))) 2 _ rfl, p2_cell P5 (List.mem_append_right _ (List.mem_cons_of_mem _ (List.mem_append_right _ List.mem_cons_self))) 3 _ rfl, p2_cell P5 (List.mem_append_right _ (List.mem_cons_of_mem _ (List.mem_append_right _ List.mem_cons_self))) 4 _ rfl, p2_cell P5 (List.mem_append_right _ List.mem_cons_self) 0 _ rfl, p2_cell P5 (List.mem_append_right _ List.mem_cons_self) 1 _ rfl, p2_cell P5 (List.mem_append_right _ List.mem_cons_self) 2 _ rfl, p2_cell P5 (List.mem_append_right _ List.mem_cons_self) 3 _ rfl, p2_cell P5 (List.mem_append_right _ List.mem_cons_self) 4 _ rfl⟩; have HP5 : Hid (P2 w w5 A B s s _ im la lb ∧ EL (l3 ++ l1) (.slice s3 n c3) q.l) := ⟨P5, e5⟩; clear P5 e5 k5) | (go_at_call 45; refine (psame_k q n HN.out (by have := HBD.out.1; omega) (fun x hx => by have := HBD.out.2 x hx; omega) s3 s2 c3 c2 (p2_elv HP5.out.1 HP5.out.2 in_a) (p2_elv HP5.out.1 E2.out in_b)).mono ?_; rintro e w6 ⟨rfl, hb6⟩; have P6 := p2_call HP5.out.1 hb6; have hS4 : (w6.cell? ⟨T1, 0, none⟩ = some (.int .i64 q.ep) ∧ w6.cell? ⟨T1, 1, none⟩ = some (.int .i64 q.at_) ∧ w6.cell? ⟨T1, 2, none⟩ = some (.int .i64 q.bf) ∧ w6.cell? ⟨T1, 3, none⟩ = some (.slice s1 n c1) ∧ w6.cell? ⟨T1, 4, none⟩ = some (.int .i64 q.safe) ∧ w6.cell? ⟨T2, 0, none⟩ = some (.int .i64 q.ep) ∧ w6.cell? ⟨T2, 1, none⟩ = some (.int .i64 q.at_) ∧ w6.cell? ⟨T2, 2, none⟩ = some (.int .i64 q.bf) ∧ w6.cell? ⟨T2, 3, none⟩ = some (.slice s2 n c2) ∧ w6.cell? ⟨T2, 4, none⟩ = some (.int .i64 q.safe)) := ⟨p2_cell P6 (List.mem_append_right _ (List.mem_cons_of_mem _ (List.mem_append_right _ List.mem_cons_self))) 0 _ rfl, p2_cell P6 (List.mem_append_right _ (List.mem_cons_of_mem _ (List.mem_append_right _ List.mem_cons_self))) 1 _ rfl, p2_cell P6 (List.mem_append_right _ (List.mem_cons_of_mem _ (List.mem_append_right _ List.mem_cons_self))) 2 _ rfl, p2_cell P6 (List.mem_append_right _ (List.mem_cons_of_mem _ (List.mem_append_right _ List.mem_cons_self))) 3 _ rfl, p2_cell P6 (List.mem_append_right _ (List.mem_cons_of_mem _ (List.mem_append_right _ List.mem_cons_self))) 4 _ rfl, p2_cell P6 (List.mem_append_right _ List.mem_cons_self) 0 _ rfl, p2_cell P6 (List.mem_append_right _ List.mem_cons_self) 1 _ rfl, p2_cell P6 (List.mem_append_right _ List.mem_cons_self) 2 _ rfl, p2_cell P6 (List.mem_append_right _ List.mem_cons_self) 3 _ rfl, p2_cell P6 (List.mem_append_right _ List.mem_cons_self) 4 _ rfl⟩; have HP6 : Hid (P2 w w6 A B s s _ im la lb) := P6; clear P6 hb6)))
  all_goals
    have t3 := p2_cell HP6.out (List.mem_append_right _ (List.mem_cons_of_mem _ (List.mem_append_right _ List.mem_cons_self))) 3 _ rfl
    have hsp := spoilE_k (p2_headL (xs := (T, _) :: xs) (p2_sub HP6.out in_sub)) q.l n HN.out (by have := HBD.out.1; omega) (fun x hx => by have := HBD.out.2 x hx; omega) s1 c1 E1.out
    have HSP : Hid _ := hidI hsp
    clear hsp
    go_wp2_with (go_at_call 47; refine HSP.out.mono ?_; rintro e w7 ⟨rfl, k7⟩; have HK7 : Hid (KR w _ w7) := k7; clear k7)
    go_ret
    exact ⟨rfl, _, _, _, _, p2_sub (p2_back HP6.out HK7.out) (List.sublist_cons_self _ _)⟩
set_option maxRecDepth 100000 in
set_option maxHeartbeats 4000000 in
theorem do_take (h : P2 w W A B s s xs im la lb) (d : List Int) (m : Nat) (hm : Hid (d.length = m)) (hm2 : m ≤ 140737488351232) (sd : Option Addr) (cd : Nat) (hS : Hid (SrcV w sd (bc d))) (N : Int) (p : SP) (mp : Nat) (hmp : Hid (p.l.length = mp)) (hmp2 : mp ≤ 60) (hz : Hid (∀ x ∈ p.l, x.2.length ≤ 140737488351232)) (sp : Option Addr) (cp : Nat) (hcp : Hid (mp ≤ cp)) (hE : Hid (ELV w sp p.l)) (a : SA) :
    Calls Try.prog 27 #[.pointer (some ⟨A, 0, none⟩), .pointer (some ⟨B, 0, none⟩), .agg #[.int .i64 3, .slice sd m cd, .int .i64 N, .int .i64 p.ep, .int .i64 p.at_, .int .i64 p.bf, .slice sp mp cp, .int .i64 p.safe, .int .i64 a.1, .bool a.2.1, .int .i64 a.2.2]] W (DoP w A B xs) := by
  have h1 := p2_new h (kcl 3 (.slice sd m cd) N p (.slice sp mp cp) a) 72
  have HP : Hid (P2 w _ A B s s ((W.heap.size, _) :: xs) im la lb) := h1
  have HM2 : Hid (m ≤ 140737488351232) := hm2
  have HMP2 : Hid (mp ≤ 60) := hmp2
  have t0 := p2_cell h1 List.mem_cons_self 0 _ rfl
  clear h1 h hm2 hmp2
  go_enter Try.func27, Try.ntmps27
  go_upto_region 17 with fail
  have HP : Hid (P2 w (W.alloc (.cells #[.int .i64 3, .slice sd m cd, .int .i64 N, .int .i64 p.ep, .int .i64 p.at_, .int .i64 p.bf, .slice sp mp cp, .int .i64 p.safe, .int .i64 a.1, .bool a.2.1, .int .i64 a.2.2] 72)) A B s s ((W.heap.size, kcl 3 (.slice sd m cd) N p (.slice sp mp cp) a) :: xs) im la lb) := HP
  generalize (W.alloc (.cells #[.int .i64 3, .slice sd m cd, .int .i64 N, .int .i64 p.ep, .int .i64 p.at_, .int .i64 p.bf, .slice sp mp cp, .int .i64 p.safe, .int .i64 a.1, .bool a.2.1, .int .i64 a.2.2] 72)) = V at *
  generalize W.heap.size = T at *
  clear t0
  have hpA := fun V (h : P2 w V A B s s ((T, kcl 3 (.slice sd m cd) N p (.slice sp mp cp) a) :: xs) im la lb) => part_k (w := V) p mp hmp (by have := HMP2.out; omega) hz sp cp (elv_keep hE.out h.kr.below)
  have htA := fun V xs' (h : P2 w V A B s s xs' im la lb) (s1 : Option Addr) (c1 : Nat) (he : EL xs' (.slice s1 mp c1) p.l) => p2_take h p mp hmp.out (by have := HMP2.out; omega) hz.out s1 c1 he
  have htB := fun V xs' x im' la' (h : P2 w V A B x s xs' im' la' lb) => p2_rtake h p mp hmp.out (by have := HMP2.out; omega) hz.out sp cp hcp.out hE.out
  generalize sTake s p = R at htA htB
  obtain ⟨x, ⟨ae, ay, az⟩, er⟩ := R
  simp only at htA htB
  have HPA : Hid _ := hidI hpA
  have HTA : Hid _ := hidI htA
  have HTB : Hid _ := hidI htB
  clear hpA htA htB
  have t3 := p2_cell HP.out List.mem_cons_self 3 _ rfl
  have t4 := p2_cell HP.out List.mem_cons_self 4 _ rfl
  have t5 := p2_cell HP.out List.mem_cons_self 5 _ rfl
  have t6 := p2_cell HP.out List.mem_cons_self 6 _ rfl
  have t7 := p2_cell HP.out List.mem_cons_self 7 _ rfl
  go_upto_region 18 with ((go_at_call 48; refine (HPA.out _ HP.out).mono ?_; rintro e w1 ⟨s1, c1, l1, rfl, k1, e1⟩; have HP1 : Hid (P2 w w1 A B s s (l1 ++ (T, _) :: xs) im la lb ∧ EL l1 (.slice s1 mp c1) p.l) := ⟨p2_join HP.out k1, e1⟩; clear k1 e1))
  have P1 := p2_new HP1.out.1 (pc p (.slice s1 mp c1)) 53
  have E1 : Hid (EL l1 (.slice s1 mp c1) p.l) := HP1.out.2
  clear HP1 HPA HP t3 t4 t5 t6 t7
  have P1 : P2 w (w1.alloc (.cells #[.int .i64 p.ep, .int .i64 p.at_, .int .i64 p.bf, .slice s1 mp c1, .int .i64 p.safe] 53)) A B s s _ im la lb := P1
  generalize (w1.alloc (.cells #[.int .i64 p.ep, .int .i64 p.at_, .int .i64 p.bf, .slice s1 mp c1, .int .i64 p.safe] 53)) = w2 at *
  generalize w1.heap.size = T1 at *
  have HP1 : Hid (P2 w w2 A B s s ((T1, _) :: (l1 ++ (T, _) :: xs)) im la lb) := P1
  have a0 := p2_cell P1 List.mem_cons_self 0 _ rfl
  have a1 := p2_cell P1 List.mem_cons_self 1 _ rfl
  have a2 := p2_cell P1 List.mem_cons_self 2 _ rfl
  have a3 := p2_cell P1 List.mem_cons_self 3 _ rfl
  have a4 := p2_cell P1 List.mem_cons_self 4 _ rfl
  clear P1
  go_upto_region 19 with ((go_at_call 22; refine (HTA.out _ _ HP1.out s1 c1 (el_mono E1.out (fun z hz => List.mem_cons_of_mem _ (List.mem_append_left _ hz)))).mono ?_; rintro e w3 ⟨rfl, im3, la3, h3⟩; have HP3 : Hid (P2 w w3 A B x s _ im3 la3 lb) := h3; clear h3))
  have P3 := p2_new HP3.out [.int .i64 ae, .bool ay, .int .i64 az] 57
  clear HP1 HP3 HTA a0 a1 a2 a3 a4
  have P3 : P2 w (w3.alloc (.cells #[.int .i64 ae, .bool ay, .int .i64 az] 57)) A B x s _ im3 la3 lb := P3
  generalize (w3.alloc (.cells #[.int .i64 ae, .bool ay, .int .i64 az] 57)) = w4 at *
  generalize w3.heap.size = T2 at *
  have HP3 : Hid (P2 w w4 A B x s ((T2, _) :: (T1, _) :: (l1 ++ (T, _) :: xs)) im3 la3 lb) := P3
  have t3 := p2_cell P3 (List.mem_cons_of_mem _ (List.mem_cons_of_mem _ (List.mem_append_right _ List.mem_cons_self))) 3 _ rfl
  have t4 := p2_cell P3 (List.mem_cons_of_mem _ (List.mem_cons_of_mem _ (List.mem_append_right _ List.mem_cons_self))) 4 _ rfl
  have t5 := p2_cell P3 (List.mem_cons_of_mem _ (List.mem_cons_of_mem _ (List.mem_append_right _ List.mem_cons_self))) 5 _ rfl
  have t6 := p2_cell P3 (List.mem_cons_of_mem _ (List.mem_cons_of_mem _ (List.mem_append_right _ List.mem_cons_self))) 6 _ rfl
  have t7 := p2_cell P3 (List.mem_cons_of_mem _ (List.mem_cons_of_mem _ (List.mem_append_right _ List.mem_cons_self))) 7 _ rfl
  clear P3
  go_upto_region 20 with ((go_at_call 49; refine (HTB.out _ _ _ _ _ HP3.out).mono ?_; rintro e w5 ⟨rfl, im5, lb5, h5⟩; have HP5 : Hid (P2 w w5 A B x x _ im5 la3 lb5) := h5; clear h5))
  have P5 := p2_new HP5.out [.int .i64 ae, .bool ay, .int .i64 az] 70
  clear HP3 HP5 HTB t3 t4 t5 t6 t7
  have P5 : P2 w (w5.alloc (.cells #[.int .i64 ae, .bool ay, .int .i64 az] 70)) A B x x _ im5 la3 lb5 := P5
  generalize (w5.alloc (.cells #[.int .i64 ae, .bool ay, .int .i64 az] 70)) = w6 at *
  generalize w5.heap.size = T3 at *
  have hS0 : (w6.cell? ⟨T1, 0, none⟩ = some (.int .i64 p.ep) ∧ w6.cell? ⟨T1, 1, none⟩ = some (.int .i64 p.at_) ∧ w6.cell? ⟨T1, 2, none⟩ = some (.int .i64 p.bf) ∧ w6.cell? ⟨T1, 3, none⟩ = some (.slice s1 mp c1) ∧ w6.cell? ⟨T1, 4, none⟩ = some (.int .i64 p.safe) ∧ w6.cell? ⟨T, 3, none⟩ = some (.int .i64 p.ep) ∧ w6.cell? ⟨T, 4, none⟩ = some (.int .i64 p.at_) ∧ w6.cell? ⟨T, 5, none⟩ = some (.int .i64 p.bf) ∧ w6.cell? ⟨T, 6, none⟩ = some (.slice sp mp cp) ∧ w6.cell? ⟨T, 7, none⟩ = some (.int .i64 p.safe)) := ⟨p2_cell P5 (List.mem_cons_of_mem _ (List.mem_cons_of_mem _ List.mem_cons_self)) 0 _ rfl, p2_cell P5 (List.mem_cons_of_mem _ (List.mem_cons_of_mem _ List.mem_cons_self)) 1 _ rfl, p2_cell P5 (List.mem_cons_of_mem _ (List.mem_cons_of_mem _ List.mem_cons_self)) 2 _ rfl, p2_cell P5 (List.mem_cons_of_mem _ (List.mem_cons_of_mem _ List.mem_cons_self)) 3 _ rfl, p2_cell P5 (List.mem_cons_of_mem _ (List.mem_cons_of_mem _ List.mem_cons_self)) 4 _ rfl, p2_cell P5 (List.mem_cons_of_mem _ (List.mem_cons_of_mem _ (List.mem_cons_of_mem _ (List.mem_append_right _ List.mem_cons_self)))) 3 _ rfl, p2_cell P5 (List.mem_cons_of_mem _ (List.mem_cons_of_mem _ (List.mem_cons_of_mem _ (List.mem_append_right _ List.mem_cons_self)))) 4 _ rfl, p2_cell P5 (List.mem_cons_of_mem _ (List.mem_cons_of_mem _ (List.mem_cons_of_mem _ (List.mem_append_right _ List.mem_cons_self)))) 5 _ rfl, p2_cell P5 (List.mem_cons_of_mem _ (List.mem_cons_of_mem _ (List.mem_cons_of_mem _ (List.mem_append_right _ List.mem_cons_self)))) 6 _ rfl, p2_cell P5 (List.mem_cons_of_mem _ (List.mem_cons_of_mem _ (List.mem_cons_of_mem _ (List.mem_append_right _ List.mem_cons_self)))) 7 _ rfl⟩
  obtain ⟨a0, a1, a2, a3, a4, b0, b1, b2, b3, b4⟩ := hS0
  have HP5 : Hid (P2 w w6 A B x x ((T3, _) :: (T2, _) :: (T1, _) :: (l1 ++ (T, _) :: xs)) im5 la3 lb5) := P5
  clear P5
  go_region_held3 (fun V => (V.cell? ⟨T1, 0, none⟩ = some (.int .i64 p.ep) ∧ V.cell? ⟨T1, 1, none⟩ = some (.int .i64 p.at_) ∧ V.cell? ⟨T1, 2, none⟩ = some (.int .i64 p.bf) ∧ V.cell? ⟨T1, 3, none⟩ = some (.slice s1 mp c1) ∧ V.cell? ⟨T1, 4, none⟩ = some (.int .i64 p.safe) ∧ V.cell? ⟨T, 3, none⟩ = some (.int .i64 p.ep) ∧ V.cell? ⟨T, 4, none⟩ = some (.int .i64 p.at_) ∧ V.cell? ⟨T, 5, none⟩ = some (.int .i64 p.bf) ∧ V.cell? ⟨T, 6, none⟩ = some (.slice sp mp cp) ∧ V.cell? ⟨T, 7, none⟩ = some (.int .i64 p.safe))) (first | (with_reducible exact hS3) | (with_reducible exact hS4) | go_keep) ((first | (go_at_call 46; refine (sent_k (im := l1) (p2_call HP5.out (bw_drew (Below.refl _ _))).kr (fun z hz => List.mem_cons_of_mem _ (List.mem_cons_of_mem _ (List.mem_append_left _ (List.mem_cons_of_mem _ (List.mem_cons_of_mem _ (List.mem_cons_of_mem _ (List.mem_append_left _ hz))))))) p mp hmp (by have := HMP2.out; omega) s1 c1 E1.out).mono ?_; rintro e w7 ⟨s3, c3, l3, rfl, k7, e7⟩; have P7 := p2_push HP5.out k7; have hS3 : (w7.cell? ⟨T1, 0, none⟩ = some (.int .i64 p.ep) ∧ w7.cell? ⟨T1, 1, none⟩ = some (.int .i64 p.at_) ∧ w7.cell? ⟨T1, 2, none⟩ = some (.int .i64 p.bf) ∧ w7.cell? ⟨T1, 3, none⟩ = some (.slice s1 mp c1) ∧ w7.cell? ⟨T1, 4, none⟩ = some (.int .i64 p.safe) ∧ w7.cell? ⟨T, 3, none⟩ = some (.int .i64 p.ep) ∧ w7.cell? ⟨T, 4, none⟩ = some (.int .i64 p.at_) ∧ w7.cell? ⟨T, 5, none⟩ = some (.int .i64 p.bf) ∧ w7.cell? ⟨T, 6, none⟩ = some (.slice sp mp cp) ∧ w7.cell? ⟨T, 7, none⟩ = some (.int .i64 p.safe)) := ⟨p2_cell P7 (List.mem_append_right _ (List.mem_cons_of_mem _ (List.mem_cons_of_mem _ List.mem_cons_self))) 0 _ rfl, p2_cell P7 (List.mem_append_right _ (List.mem_cons_of_mem _ (List.mem_cons_of_mem _ List.mem_cons_self))) 1 _ rfl, p2_cell P7 (List.mem_append_right _ (List.mem_cons_of_mem _ (List.mem_cons_of_mem _ List.mem_cons_self))) 2 _ rfl, p2_cell P7 (List.mem_append_right _ (List.mem_cons_of_mem _ (List.mem_cons_of_mem _ List.mem_cons_self))) 3 _ rfl, p2_cell P7 (List.mem_append_right _ (List.mem_cons_of_mem _ (List.mem_cons_of_mem _ List.mem_cons_self))) 4 _ rfl, p2_cell P7 (List.mem_append_right _ (List.mem_cons_of_mem _ (List.mem_cons_of_mem _ (List.mem_cons_of_mem _ (List.mem_append_right _ List.mem_cons_self))))) 3 _ rfl, p2_cell P7 (List.mem_append_right _ (List.mem_cons_of_mem _ (List.mem_cons_of_mem _ (List.mem_cons_of_mem _ (List.mem_append_right _ List.mem_cons_self))))) 4 _ rfl, p2_cell P7 (List.mem_append_right _ (List.mem_cons_of_mem _ (List.mem_cons_of_mem _ (List.mem_cons_of_mem _ (List.mem_append_right _ List.mem_cons_self))))) 5 _ rfl, p2_cell P7 (List.mem_append_right _ (List.mem_cons_of_mem _ (List.mem_cons_of_mem _ (List.mem_cons_of_mem _ (List.mem_append_right _ List.mem_cons_self))))) 6 _ rfl, p2_cell P7 (List.mem_append_right _ (List.mem_cons_of_mem _ (List.mem_cons_of_mem _ (List.mem_cons_of_mem _ (List.mem_append_right _ List.mem_cons_self))))) 7 _ rfl⟩; have HP7 : Hid (P2 w w7 A B x x _ im5 la3 lb5 ∧ EL (l3 ++ l1) (.slice s3 mp c3) p.l) := ⟨P7, e7⟩; clear P7 e7 k7) | (go_at_call 45; refine (psame_k p mp hmp (by have := HMP2.out; omega) hz s3 sp c3 cp (p2_elv HP7.out.1 HP7.out.2 in_t) (elv_keep hE.out HP7.out.1.kr.below)).mono ?_; rintro e w8 ⟨rfl, hb8⟩; have P8 := p2_call HP7.out.1 hb8; have hS4 : (w8.cell? ⟨T1, 0, none⟩ = some (.int .i64 p.ep) ∧ w8.cell? ⟨T1, 1, none⟩ = some (.int .i64 p.at_) ∧ w8.cell? ⟨T1, 2, none⟩ = some (.int .i64 p.bf) ∧ w8.cell? ⟨T1, 3, none⟩ = some (.slice s1 mp c1) ∧ w8.cell? ⟨T1, 4, none⟩ = some (.int .i64 p.safe) ∧ w8.cell? ⟨T, 3, none⟩ = some (.int .i64 p.ep) ∧ w8.cell? ⟨T, 4, none⟩ = some (.int .i64 p.at_) ∧ w8.cell? ⟨T, 5, none⟩ = some (.int .i64 p.bf) ∧ w8.cell? ⟨T, 6, none⟩ = some (.slice sp mp cp) ∧ w8.cell? ⟨T, 7, none⟩ = some (.int .i64 p.safe)) := ⟨p2_cell P8 (List.mem_append_right _ (List.mem_cons_of_mem _ (List.mem_cons_of_mem _ List.mem_cons_self))) 0 _ rfl, p2_cell P8 (List.mem_append_right _ (List.mem_cons_of_mem _ (List.mem_cons_of_mem _ List.mem_cons_self))) 1 _ rfl, p2_cell P8 (List.mem_append_right _ (List.mem_cons_of_mem _ (List.mem_cons_of_mem _ List.mem_cons_self))) 2 _ rfl, p2_cell P8 (List.mem_append_right _ (List.mem_cons_of_mem _ (List.mem_cons_of_mem _ List.mem_cons_self))) 3 _ rfl, p2_cell P8 (List.mem_append_right _ (List.mem_cons_of_mem _ (List.mem_cons_of_mem _ List.mem_cons_self))) 4 _ rfl, p2_cell P8 (List.mem_append_right _ (List.mem_cons_of_mem _ (List.mem_cons_of_mem _ (List.mem_cons_of_mem _ (List.mem_append_right _ List.mem_cons_self))))) 3 _ rfl, p2_cell P8 (List.mem_append_right _ (List.mem_cons_of_mem _ (List.mem_cons_of_mem _ (List.mem_cons_of_mem _ (List.mem_append_right _ List.mem_cons_self))))) 4 _ rfl, p2_cell P8 (List.mem_append_right _ (List.mem_cons_of_mem _ (List.mem_cons_of_mem _ (List.mem_cons_of_mem _ (List.mem_append_right _ List.mem_cons_self))))) 5 _ rfl, p2_cell P8 (List.mem_append_right _ (List.mem_cons_of_mem _ (List.mem_cons_of_mem _ (List.mem_cons_of_mem _ (List.mem_append_right _ List.mem_cons_self))))) 6 _ rfl, p2_cell P8 (List.mem_append_right _ (List.mem_cons_of_mem _ (List.mem_cons_of_mem _ (List.mem_cons_of_mem _ (List.mem_append_right _ List.mem_cons_self))))) 7 _ rfl⟩; have HP8 : Hid (P2 w w8 A B x x _ im5 la3 lb5) := P8; clear P8 hb8)))
  all_goals
    have t3 := p2_cell HP8.out (List.mem_append_right _ (List.mem_cons_of_mem _ (List.mem_cons_of_mem _ List.mem_cons_self))) 3 _ rfl
    have hsp := spoilE_k (p2_headL (xs := (T3, _) :: (T2, _) :: (T, _) :: xs) (p2_perm (p2_sub HP8.out sub_t) (perm_in2 _ _ _ _).symm)) p.l mp hmp (by have := HMP2.out; omega) hz s1 c1 E1.out
    have HSP : Hid _ := hidI hsp
    clear hsp
    go_upto_region 22 with ((go_at_call 47; refine HSP.out.mono ?_; rintro e w9 ⟨rfl, k9⟩; have HP9 : Hid (P2 w w9 A B x x ((T3, _) :: (T2, _) :: (T, _) :: xs) im5 la3 lb5) := p2_back HP8.out k9; clear k9))
    have d0 := p2_cell HP9.out List.mem_cons_self 0 _ rfl
    have d1 := p2_cell HP9.out List.mem_cons_self 1 _ rfl
    have d2 := p2_cell HP9.out List.mem_cons_self 2 _ rfl
    have g0 := p2_cell HP9.out (List.mem_cons_of_mem _ List.mem_cons_self) 0 _ rfl
    have g1 := p2_cell HP9.out (List.mem_cons_of_mem _ List.mem_cons_self) 1 _ rfl
    have g2 := p2_cell HP9.out (List.mem_cons_of_mem _ List.mem_cons_self) 2 _ rfl
    go_wp2_with fail
    go_ret
    exact ⟨rfl, _, _, _, _, p2_sub HP9.out (((List.sublist_cons_self _ _).trans (List.sublist_cons_self _ _)).trans (List.sublist_cons_self _ _))⟩
end
end Go.Proofs.Ytofpkmfjigjlhaa.Own
