/- A place and its reference in memory, other rows apart. No conditions beside those in each theorem. -/
import Derived.Test.YtofpkmfjigjlhaaGw31
namespace Go.Proofs.Ytofpkmfjigjlhaa.Own
open Go.RowKit
set_option linter.unusedSimpArgs false
set_option linter.unusedVariables false
/-- The program's node at A, the reference's at B; the rows xs are known, the rows im are never written again. -/
structure P2 (w W : World) (A B : Nat) (s r : SN) (xs im : List (Nat × List Value)) (la lb : Value) : Prop where
  kr : KR w ((A, ncl s la) :: (B, ncl r lb) :: (xs ++ im)) W
  ea : EL im la s.l
  eb : EL im lb r.l
  na : NB s
  nb : NB r
section
variable {w W : World} {A B : Nat} {s r : SN} {xs im : List (Nat × List Value)} {la lb : Value}
theorem p2_kr (h : P2 w W A B s r xs im la lb) : KR w (xs ++ im) W := kr_tail (kr_tail h.kr)
theorem p2_cell (h : P2 w W A B s r xs im la lb) {b : Nat} {cs : List Value} (hm : (b, cs) ∈ xs) (j : Nat) (v : Value) (hv : cs[j]? = some v) : W.cell? ⟨b, j, none⟩ = some v := range_cell (kr_mem (p2_kr h) (List.mem_append_left _ hm)) j v hv
theorem p2_old (h : P2 w W A B s r xs im la lb) {p : Addr} {v : Value} (hp : w.cell? p = some v) : W.cell? p = some v := kr_old h.kr hp
theorem p2_call (h : P2 w W A B s r xs im la lb) {W' : World} (hb : Below W.heap.size W W') : P2 w W' A B s r xs im la lb := ⟨kr_call h.kr hb, h.ea, h.eb, h.na, h.nb⟩
theorem p2_sub (h : P2 w W A B s r xs im la lb) {xs' : List (Nat × List Value)} (hs : xs'.Sublist xs) : P2 w W A B s r xs' im la lb :=
  ⟨kr_sub h.kr (List.Sublist.cons_cons _ (List.Sublist.cons_cons _ (hs.append (List.Sublist.refl im)))), h.ea, h.eb, h.na, h.nb⟩
theorem p2_new (h : P2 w W A B s r xs im la lb) (cs : List Value) (t : TypeId) : P2 w (W.alloc (.cells cs.toArray t)) A B s r ((W.heap.size, cs) :: xs) im la lb :=
  ⟨kr_permA (kr_new h.kr cs t) (List.perm_middle (l₁ := [_, _])), h.ea, h.eb, h.na, h.nb⟩
theorem perm_in2 (a b : Nat × List Value) (l ys : List (Nat × List Value)) : (a :: b :: (l ++ ys)).Perm (l ++ a :: b :: ys) := by
  refine (List.perm_append_comm (l₁ := [a, b]) (l₂ := l)).append_right ys |>.trans ?_
  rw [List.append_assoc]
  rfl
theorem p2_join (h : P2 w W A B s r xs im la lb) {l : List (Nat × List Value)} {W' : World} (k : KR W l W') : P2 w W' A B s r (l ++ xs) im la lb :=
  ⟨kr_permA (kr_join h.kr k) (by rw [List.append_assoc]; exact perm_in2 _ _ _ _), h.ea, h.eb, h.na, h.nb⟩
/-- New rows that lie ahead of all. -/
theorem p2_push {l : List (Nat × List Value)} {W' : World} (h : P2 w W A B s r xs im la lb) (k : KR w (l ++ (A, ncl s la) :: (B, ncl r lb) :: (xs ++ im)) W') : P2 w W' A B s r (l ++ xs) im la lb :=
  ⟨kr_permA k (by rw [List.append_assoc]; exact perm_in2 _ _ _ _), h.ea, h.eb, h.na, h.nb⟩
theorem p2_row (h : P2 w W A B s r xs im la lb) {g : Nat} {cur : List Value} {W' : World} (k : KR w ((g, cur) :: (A, ncl s la) :: (B, ncl r lb) :: (xs ++ im)) W') : P2 w W' A B s r ((g, cur) :: xs) im la lb :=
  p2_push (l := [(g, cur)]) h k
theorem p2_head {g : Nat} {cur : List Value} (h : P2 w W A B s r ((g, cur) :: xs) im la lb) : KR w ((g, cur) :: (A, ncl s la) :: (B, ncl r lb) :: (xs ++ im)) W := kr_permA h.kr (List.perm_middle (l₁ := [_, _])).symm
theorem p2_headL {l : List (Nat × List Value)} (h : P2 w W A B s r (l ++ xs) im la lb) : KR w (l ++ (A, ncl s la) :: (B, ncl r lb) :: (xs ++ im)) W := kr_permA h.kr (by rw [List.append_assoc]; exact (perm_in2 _ _ _ _).symm)
theorem p2_setA {x : SN} {v : Value} {l : List (Nat × List Value)} {W' : World} (h : P2 w W A B s r xs im la lb) (k : KR w ((A, ncl x v) :: (l ++ (B, ncl r lb) :: (xs ++ im))) W') (he : EL (l ++ im) v x.l) (hb : NB x) : P2 w W' A B x r xs (l ++ im) v lb :=
  ⟨kr_permA k (List.Perm.cons _ (perm_in _ l xs im)), he, el_mono h.eb (fun p hp => List.mem_append_right _ hp), hb, h.nb⟩
theorem p2_setB {x : SN} {v : Value} {l : List (Nat × List Value)} {W' : World} (h : P2 w W A B s r xs im la lb) (k : KR w ((B, ncl x v) :: (l ++ (A, ncl s la) :: (xs ++ im))) W') (he : EL (l ++ im) v x.l) (hb : NB x) : P2 w W' A B s x xs (l ++ im) la v :=
  ⟨kr_permA (kr_permA k (List.Perm.cons _ (perm_in _ l xs im))) (List.Perm.swap _ _ _), el_mono h.ea (fun p hp => List.mem_append_right _ hp), he, h.na, hb⟩
theorem p2_B (h : P2 w W A B s r xs im la lb) : KR w ((B, ncl r lb) :: (A, ncl s la) :: (xs ++ im)) W := kr_swap h.kr
theorem p2_im (q : Nat × List Value) : ∀ p ∈ im, p ∈ q :: (xs ++ im) := fun p hp => List.mem_cons_of_mem _ (List.mem_append_right _ hp)
theorem p2_app (h : P2 w W A B s r xs im la lb) (d : List Int) (k : Nat) (hk : d.length = k) (hk2 : k ≤ 140737488351232) (sp : Option Addr) (c : Nat) (hkc : k ≤ c) (hS : ∀ W1, KR w (xs ++ im) W1 → SrcV W1 sp (bc d)) :
    Calls Try.prog 20 #[.pointer (some ⟨A, 0, none⟩), .slice sp k c] W fun e W' => e = .returned (.tuple #[.int .i64 (sApp s d).2.1, .int .i64 (sApp s d).2.2]) ∧ ∃ im' la', P2 w W' A B (sApp s d).1 r xs im' la' lb :=
  (app_k h.kr (p2_im _) h.ea h.na d k hk hk2 sp c hkc (fun W1 H => hS W1 (kr_tail (kr_tail H)))).mono (by
    rintro e W' ⟨rfl, l, v, h1, h2⟩
    exact ⟨rfl, _, _, p2_setA h h1 h2 (nb_app h.na d)⟩)
theorem p2_rapp (h : P2 w W A B s r xs im la lb) (d : List Int) (k : Nat) (hk : d.length = k) (hk2 : k ≤ 140737488351232) (sp : Option Addr) (c : Nat) (hS : SrcV W sp (bc d)) :
    Calls Try.prog 41 #[.pointer (some ⟨B, 0, none⟩), .slice sp k c] W fun e W' => e = .returned (.tuple #[.int .i64 (sApp r d).2.1, .int .i64 (sApp r d).2.2]) ∧ ∃ im' lb', P2 w W' A B s (sApp r d).1 xs im' la lb' :=
  (rapp_k (p2_B h) (p2_im _) h.eb h.nb d k hk hk2 sp c hS).mono (by
    rintro e W' ⟨rfl, l, v, h1, h2⟩
    exact ⟨rfl, _, _, p2_setB h h1 h2 (nb_app h.nb d)⟩)
theorem p2_ship (h : P2 w W A B s r xs im la lb) (most : Int) :
    Calls Try.prog 21 #[.pointer (some ⟨A, 0, none⟩), .int .i64 most] W fun e W' => ∃ sv c l, e = .returned (.tuple #[.agg #[.int .i64 (sShip s most).1.ep, .int .i64 (sShip s most).1.at_, .int .i64 (sShip s most).1.bf, .slice sv (sShip s most).1.l.length c, .int .i64 (sShip s most).1.safe], .int .i64 (sShip s most).2]) ∧ P2 w W' A B s r (l ++ xs) im la lb ∧ EL l (.slice sv (sShip s most).1.l.length c) (sShip s most).1.l :=
  (ship_k h.kr (p2_im _) h.ea h.na most).mono (by
    rintro e W' ⟨v, l, rfl, h1, h2⟩
    obtain ⟨sv, c, rfl, _⟩ := el_form h2
    exact ⟨sv, c, l, rfl, p2_push h h1, h2⟩)
theorem p2_rship (h : P2 w W A B s r xs im la lb) (most : Int) :
    Calls Try.prog 44 #[.pointer (some ⟨B, 0, none⟩), .int .i64 most] W fun e W' => ∃ sv c l, e = .returned (.tuple #[.agg #[.int .i64 (sShip r most).1.ep, .int .i64 (sShip r most).1.at_, .int .i64 (sShip r most).1.bf, .slice sv (sShip r most).1.l.length c, .int .i64 (sShip r most).1.safe], .int .i64 (sShip r most).2]) ∧ P2 w W' A B s r (l ++ xs) im la lb ∧ EL l (.slice sv (sShip r most).1.l.length c) (sShip r most).1.l :=
  (rship_k (p2_B h) (p2_im _) h.eb h.nb most).mono (by
    rintro e W' ⟨v, l, rfl, h1, h2⟩
    obtain ⟨sv, c, rfl, _⟩ := el_form h2
    exact ⟨sv, c, l, rfl, p2_push h (kr_permA h1 (List.Perm.append_left l (List.Perm.swap _ _ _))), h2⟩)
theorem p2_take (h : P2 w W A B s r xs im la lb) (p : SP) (m : Nat) (hm : p.l.length = m) (hm2 : m ≤ 100000) (hz : ∀ x ∈ p.l, x.2.length ≤ 140737488351232) (sp : Option Addr) (c : Nat) (hP : EL xs (.slice sp m c) p.l) :
    Calls Try.prog 22 #[.pointer (some ⟨A, 0, none⟩), .agg #[.int .i64 p.ep, .int .i64 p.at_, .int .i64 p.bf, .slice sp m c, .int .i64 p.safe]] W fun e W' => e = .returned (.tuple #[.agg #[.int .i64 (sTake s p).2.1.1, .bool (sTake s p).2.1.2.1, .int .i64 (sTake s p).2.1.2.2], .int .i64 (sTake s p).2.2]) ∧ ∃ im' la', P2 w W' A B (sTake s p).1 r xs im' la' lb :=
  (take_k h.kr (p2_im _) h.ea h.na p m hm hm2 hz sp c (el_mono hP (fun p hp => List.mem_cons_of_mem _ (List.mem_append_left _ hp)))).mono (by
    rintro e W' ⟨l, v, rfl, h1, h2⟩
    exact ⟨rfl, _, _, p2_setA h h1 h2 (nb_take h.na p)⟩)
theorem p2_rtake (h : P2 w W A B s r xs im la lb) (p : SP) (m : Nat) (hm : p.l.length = m) (hm2 : m ≤ 100000) (hz : ∀ x ∈ p.l, x.2.length ≤ 140737488351232) (sp : Option Addr) (c : Nat) (hmc : m ≤ c) (hP : ELV w sp p.l) :
    Calls Try.prog 49 #[.pointer (some ⟨B, 0, none⟩), .agg #[.int .i64 p.ep, .int .i64 p.at_, .int .i64 p.bf, .slice sp m c, .int .i64 p.safe]] W fun e W' => e = .returned (.tuple #[.agg #[.int .i64 (sTake r p).2.1.1, .bool (sTake r p).2.1.2.1, .int .i64 (sTake r p).2.1.2.2], .int .i64 (sTake r p).2.2]) ∧ ∃ im' lb', P2 w W' A B s (sTake r p).1 xs im' la lb' :=
  (rtake_k (p2_B h) (p2_im _) h.eb h.nb p m hm hm2 hz sp c hmc hP).mono (by
    rintro e W' ⟨l, v, rfl, h1, h2⟩
    exact ⟨rfl, _, _, p2_setB h h1 h2 (nb_take h.nb p)⟩)
theorem p2_taken (h : P2 w W A B s r xs im la lb) (a : SA) :
    Calls Try.prog 23 #[.pointer (some ⟨A, 0, none⟩), .agg #[.int .i64 a.1, .bool a.2.1, .int .i64 a.2.2]] W fun e W' => e = .returned (.int .i64 (sTaken s a).2) ∧ P2 w W' A B (sTaken s a).1 r xs im la lb :=
  (taken_k h.kr (el_mono h.ea (p2_im _)) h.na a).mono (by
    rintro e W' ⟨rfl, h1⟩
    exact ⟨rfl, p2_setA (l := []) h h1 (by have := h.ea; rwa [show (sTaken s a).1.l = s.l from by unfold sTaken; (repeat' split) <;> rfl]) (nb_taken h.na a)⟩)
theorem p2_rtaken (h : P2 w W A B s r xs im la lb) (a : SA) :
    Calls Try.prog 50 #[.pointer (some ⟨B, 0, none⟩), .agg #[.int .i64 a.1, .bool a.2.1, .int .i64 a.2.2]] W fun e W' => e = .returned (.int .i64 (sTaken r a).2) ∧ P2 w W' A B s (sTaken r a).1 xs im la lb :=
  (rtaken_k (p2_B h) (el_mono h.eb (p2_im _)) h.nb a).mono (by
    rintro e W' ⟨rfl, h1⟩
    exact ⟨rfl, p2_setB (l := []) h h1 (by have := h.eb; rwa [show (sTaken r a).1.l = r.l from by unfold sTaken; (repeat' split) <;> rfl]) (nb_taken h.nb a)⟩)
theorem p2_prom (h : P2 w W A B s r xs im la lb) :
    Calls Try.prog 19 #[.pointer (some ⟨A, 0, none⟩)] W fun e W' => e = .returned (.tuple #[.int .i64 (sProm s).2.1, .int .i64 (sProm s).2.2]) ∧ P2 w W' A B (sProm s).1 r xs im la lb :=
  (prom_k h.kr (el_mono h.ea (p2_im _)) h.na).mono (by
    rintro e W' ⟨rfl, h1⟩
    exact ⟨rfl, p2_setA (l := []) h h1 (by have := h.ea; rwa [show (sProm s).1.l = s.l from by unfold sProm; (repeat' split) <;> rfl]) (nb_prom h.na)⟩)
theorem p2_rprom (h : P2 w W A B s r xs im la lb) :
    Calls Try.prog 51 #[.pointer (some ⟨B, 0, none⟩)] W fun e W' => e = .returned (.tuple #[.int .i64 (sProm r).2.1, .int .i64 (sProm r).2.2]) ∧ P2 w W' A B s (sProm r).1 xs im la lb :=
  (rprom_k (p2_B h) (el_mono h.eb (p2_im _)) h.nb).mono (by
    rintro e W' ⟨rfl, h1⟩
    exact ⟨rfl, p2_setB (l := []) h h1 (by have := h.eb; rwa [show (sProm r).1.l = r.l from by unfold sProm; (repeat' split) <;> rfl]) (nb_prom h.nb)⟩)
theorem p2_dem (h : P2 w W A B s r xs im la lb) :
    Calls Try.prog 18 #[.pointer (some ⟨A, 0, none⟩)] W fun e W' => e = .returned (.int .i64 (sDem s).2) ∧ P2 w W' A B (sDem s).1 r xs im la lb :=
  (dem_k h.kr).mono (by
    rintro e W' ⟨rfl, h1⟩
    exact ⟨rfl, p2_setA (l := []) h h1 (by have := h.ea; rwa [show (sDem s).1.l = s.l from by unfold sDem; split <;> rfl]) (nb_dem h.na)⟩)
theorem p2_rdem (h : P2 w W A B s r xs im la lb) :
    Calls Try.prog 52 #[.pointer (some ⟨B, 0, none⟩)] W fun e W' => e = .returned (.int .i64 (sDem r).2) ∧ P2 w W' A B s (sDem r).1 xs im la lb :=
  (rdem_k (p2_B h)).mono (by
    rintro e W' ⟨rfl, h1⟩
    exact ⟨rfl, p2_setB (l := []) h h1 (by have := h.eb; rwa [show (sDem r).1.l = r.l from by unfold sDem; split <;> rfl]) (nb_dem h.nb)⟩)
theorem p2_log (h : P2 w W A B s r xs im la lb) : Calls Try.prog 11 #[.pointer (some ⟨A, 0, none⟩)] W fun e W' => ∃ sv c l, e = .returned (.slice sv s.l.length c) ∧ P2 w W' A B s r (l ++ xs) im la lb ∧ EL l (.slice sv s.l.length c) s.l :=
  (log_k h.kr (el_mono h.ea (p2_im _)) h.na).mono (by
    rintro e W' ⟨v, l, rfl, h1, h2⟩
    obtain ⟨sv, c, rfl, _⟩ := el_form h2
    exact ⟨sv, c, l, rfl, p2_push h h1, h2⟩)
theorem p2_leads (h : P2 w W A B s r xs im la lb) : Calls Try.prog 15 #[.pointer (some ⟨A, 0, none⟩)] W fun e W' => e = .returned (.bool s.ld) ∧ W = W' := leads_k2 h.kr
theorem p2_epoch (h : P2 w W A B s r xs im la lb) : Calls Try.prog 16 #[.pointer (some ⟨A, 0, none⟩)] W fun e W' => e = .returned (.int .i64 s.ep) ∧ W = W' := epoch_k h.kr
theorem p2_safe (h : P2 w W A B s r xs im la lb) : Calls Try.prog 12 #[.pointer (some ⟨A, 0, none⟩)] W fun e W' => e = .returned (.int .i64 (s.safe : Int)) ∧ W = W' := safe_k h.kr
end
end Go.Proofs.Ytofpkmfjigjlhaa.Own
