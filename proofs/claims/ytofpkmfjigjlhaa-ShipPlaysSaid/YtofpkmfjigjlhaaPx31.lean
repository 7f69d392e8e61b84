/- Two places in memory, other rows apart. No conditions beside those in each theorem. -/
import Derived.Test.YtofpkmfjigjlhaaTz
import Derived.Test.YtofpkmfjigjlhaaShI
import Derived.Test.YtofpkmfjigjlhaaTn
namespace Go.Proofs.Ytofpkmfjigjlhaa.Own
open Go.RowKit
set_option linter.unusedSimpArgs false
set_option linter.unusedVariables false
/-- Two places; the rows xs are known, the rows im are never written again. -/
structure PX (w W : World) (D : Bool → Nat) (n : Bool → SN) (xs im : List (Nat × List Value)) (lv : Bool → Value) : Prop where
  kr : KR w ((D false, ncl (n false) (lv false)) :: (D true, ncl (n true) (lv true)) :: (xs ++ im)) W
  el : ∀ b, EL im (lv b) (n b).l
  nb : ∀ b, NB (n b)
section
variable {w W : World} {D : Bool → Nat} {n : Bool → SN} {xs im : List (Nat × List Value)} {lv : Bool → Value}
theorem leads_k2 {rs : List (Nat × List Value)} {n : SN} {lv : Value} {D : Nat} (HK : KR w ((D, ncl n lv) :: rs) W) : Calls Try.prog 15 #[.pointer (some ⟨D, 0, none⟩)] W fun e W' => e = .returned (.bool n.ld) ∧ W = W' := by
  have k1 := kr_cell HK 0 rfl 1 _ rfl
  clear HK
  go_enter Try.func15, Try.ntmps15
  go_wp2
  go_ret
  exact ⟨rfl, rfl⟩
theorem px_get (h : PX w W D n xs im lv) (b : Bool) : KR w ((D b, ncl (n b) (lv b)) :: (D (!b), ncl (n (!b)) (lv (!b))) :: (xs ++ im)) W := by
  cases b with
  | false => exact h.kr
  | true => exact kr_swap h.kr
theorem px_kr (h : PX w W D n xs im lv) : KR w (xs ++ im) W := kr_tail (kr_tail h.kr)
theorem px_of {b : Bool} {x : SN} {v : Value} {im' : List (Nat × List Value)} (h : PX w W D n xs im lv) {W' : World} (hk : KR w ((D b, ncl x v) :: (D (!b), ncl (n (!b)) (lv (!b))) :: (xs ++ im')) W') (hm : ∀ p ∈ im, p ∈ im') (he : EL im' v x.l) (hb : NB x) : PX w W' D (upd n b x) xs im' (fun c => if c = b then v else lv c) := by
  refine ⟨?_, fun c => ?_, fun c => upd_cases n b x c (fun c x => NB x) hb (h.nb _)⟩
  · cases b with
    | false => simpa [upd] using hk
    | true => simpa [upd] using kr_swap hk
  · by_cases hc : c = b
    · subst hc; rw [upd_same, if_pos rfl]; exact he
    · have : c = !b := by cases c <;> cases b <;> simp_all
      subst this
      rw [upd_other, if_neg (by cases b <;> simp)]
      exact el_mono (h.el _) hm
theorem perm_in (a : Nat × List Value) (l xs im : List (Nat × List Value)) : (a :: (xs ++ (l ++ im))).Perm (l ++ a :: (xs ++ im)) := by
  have h1 : (l ++ a :: (xs ++ im)).Perm (a :: (l ++ (xs ++ im))) := List.perm_middle
  refine (List.Perm.trans h1 (List.Perm.cons _ ?_)).symm
  rw [← List.append_assoc, ← List.append_assoc]
  exact List.Perm.append_right _ List.perm_append_comm
theorem px_app (h : PX w W D n xs im lv) (b : Bool) (d : List Int) (k : Nat) (hk : d.length = k) (hk2 : k ≤ 140737488351232) (sp : Option Addr) (c : Nat) (hkc : k ≤ c) (hS : ∀ W1, KR w (xs ++ im) W1 → SrcV W1 sp (bc d)) :
    Calls Try.prog 20 #[.pointer (some ⟨D b, 0, none⟩), .slice sp k c] W fun e W' => e = .returned (.tuple #[.int .i64 (sApp (n b) d).2.1, .int .i64 (sApp (n b) d).2.2]) ∧ ∃ l lv', PX w W' D (upd n b (sApp (n b) d).1) xs (l ++ im) lv' :=
  (app_k (px_get h b) (fun p hp => List.mem_cons_of_mem _ (List.mem_append_right _ hp)) (h.el b) (h.nb b) d k hk hk2 sp c hkc (fun W1 H => hS W1 (kr_tail (kr_tail H)))).mono (by
    rintro e W' ⟨rfl, l, v, h1, h2⟩
    exact ⟨rfl, l, _, px_of h (kr_permA h1 (List.Perm.cons _ (perm_in _ l xs im))) (fun p hp => List.mem_append_right _ hp) h2 (nb_app (h.nb b) d)⟩)
theorem px_ship (h : PX w W D n xs im lv) (b : Bool) (most : Int) :
    Calls Try.prog 21 #[.pointer (some ⟨D b, 0, none⟩), .int .i64 most] W fun e W' => ∃ s c l, e = .returned (.tuple #[.agg #[.int .i64 (sShip (n b) most).1.ep, .int .i64 (sShip (n b) most).1.at_, .int .i64 (sShip (n b) most).1.bf, .slice s (sShip (n b) most).1.l.length c, .int .i64 (sShip (n b) most).1.safe], .int .i64 (sShip (n b) most).2]) ∧ PX w W' D n xs (l ++ im) lv ∧ EL l (.slice s (sShip (n b) most).1.l.length c) (sShip (n b) most).1.l :=
  (ship_k (px_get h b) (fun p hp => List.mem_cons_of_mem _ (List.mem_append_right _ hp)) (h.el b) (h.nb b) most).mono (by
    rintro e W' ⟨v, l, rfl, h1, h2⟩
    obtain ⟨s, c, rfl, _⟩ := el_form h2
    have h3 := px_of (x := n b) (v := lv b) h (kr_permA h1 (((List.Perm.cons _ (perm_in _ l xs im)).trans List.perm_middle.symm))) (fun p hp => List.mem_append_right _ hp) (el_mono (h.el b) (fun p hp => List.mem_append_right _ hp)) (h.nb b)
    rw [upd_id] at h3
    have e1 : (fun c => if c = b then lv b else lv c) = lv := by
      funext c; split
      · rename_i hc; rw [hc]
      · rfl
    rw [e1] at h3
    exact ⟨s, c, l, rfl, h3, h2⟩)
theorem px_take (h : PX w W D n xs im lv) (b : Bool) (p : SP) (m : Nat) (hm : p.l.length = m) (hm2 : m ≤ 100000) (hz : ∀ x ∈ p.l, x.2.length ≤ 140737488351232) (sp : Option Addr) (c : Nat) (hP : EL im (.slice sp m c) p.l) :
    Calls Try.prog 22 #[.pointer (some ⟨D b, 0, none⟩), .agg #[.int .i64 p.ep, .int .i64 p.at_, .int .i64 p.bf, .slice sp m c, .int .i64 p.safe]] W fun e W' => e = .returned (.tuple #[.agg #[.int .i64 (sTake (n b) p).2.1.1, .bool (sTake (n b) p).2.1.2.1, .int .i64 (sTake (n b) p).2.1.2.2], .int .i64 (sTake (n b) p).2.2]) ∧ ∃ l lv', PX w W' D (upd n b (sTake (n b) p).1) xs (l ++ im) lv' :=
  (take_k (px_get h b) (fun p hp => List.mem_cons_of_mem _ (List.mem_append_right _ hp)) (h.el b) (h.nb b) p m hm hm2 hz sp c (el_mono hP (fun p hp => List.mem_cons_of_mem _ (List.mem_append_right _ hp)))).mono (by
    rintro e W' ⟨l, v, rfl, h1, h2⟩
    exact ⟨rfl, l, _, px_of h (kr_permA h1 (List.Perm.cons _ (perm_in _ l xs im))) (fun p hp => List.mem_append_right _ hp) h2 (nb_take (h.nb b) p)⟩)
theorem px_taken (h : PX w W D n xs im lv) (b : Bool) (a : SA) :
    Calls Try.prog 23 #[.pointer (some ⟨D b, 0, none⟩), .agg #[.int .i64 a.1, .bool a.2.1, .int .i64 a.2.2]] W fun e W' => e = .returned (.int .i64 (sTaken (n b) a).2) ∧ PX w W' D (upd n b (sTaken (n b) a).1) xs im (fun c => if c = b then lv b else lv c) :=
  (taken_k (px_get h b) (el_mono (h.el b) (fun p hp => List.mem_cons_of_mem _ (List.mem_append_right _ hp))) (h.nb b) a).mono (by
    rintro e W' ⟨rfl, h1⟩
    exact ⟨rfl, px_of h h1 (fun p hp => hp) (by have := h.el b; rwa [show (sTaken (n b) a).1.l = (n b).l from by unfold sTaken; (repeat' split) <;> rfl]) (nb_taken (h.nb b) a)⟩)
theorem px_prom (h : PX w W D n xs im lv) (b : Bool) :
    Calls Try.prog 19 #[.pointer (some ⟨D b, 0, none⟩)] W fun e W' => e = .returned (.tuple #[.int .i64 (sProm (n b)).2.1, .int .i64 (sProm (n b)).2.2]) ∧ PX w W' D (upd n b (sProm (n b)).1) xs im (fun c => if c = b then lv b else lv c) :=
  (prom_k (px_get h b) (el_mono (h.el b) (fun p hp => List.mem_cons_of_mem _ (List.mem_append_right _ hp))) (h.nb b)).mono (by
    rintro e W' ⟨rfl, h1⟩
    exact ⟨rfl, px_of h h1 (fun p hp => hp) (by have := h.el b; rwa [show (sProm (n b)).1.l = (n b).l from by unfold sProm; (repeat' split) <;> rfl]) (nb_prom (h.nb b))⟩)
theorem px_dem (h : PX w W D n xs im lv) (b : Bool) :
    Calls Try.prog 18 #[.pointer (some ⟨D b, 0, none⟩)] W fun e W' => e = .returned (.int .i64 (sDem (n b)).2) ∧ PX w W' D (upd n b (sDem (n b)).1) xs im (fun c => if c = b then lv b else lv c) :=
  (dem_k (px_get h b)).mono (by
    rintro e W' ⟨rfl, h1⟩
    exact ⟨rfl, px_of h h1 (fun p hp => hp) (by have := h.el b; rwa [show (sDem (n b)).1.l = (n b).l from by unfold sDem; split <;> rfl]) (nb_dem (h.nb b))⟩)
theorem px_call (h : PX w W D n xs im lv) {W' : World} (hb : Below W.heap.size W W') : PX w W' D n xs im lv := ⟨kr_call h.kr hb, h.el, h.nb⟩
theorem px_log (h : PX w W D n xs im lv) (b : Bool) : Calls Try.prog 11 #[.pointer (some ⟨D b, 0, none⟩)] W fun e W' => ∃ s c l, e = .returned (.slice s (n b).l.length c) ∧ PX w W' D n xs (l ++ im) lv ∧ EL l (.slice s (n b).l.length c) (n b).l :=
  (log_k (px_get h b) (el_mono (h.el b) (fun p hp => List.mem_cons_of_mem _ (List.mem_append_right _ hp))) (h.nb b)).mono (by
    rintro e W' ⟨v, l, rfl, h1, h2⟩
    obtain ⟨s, c, rfl, _⟩ := el_form h2
    have h3 := px_of (x := n b) (v := lv b) h (kr_permA h1 (((List.Perm.cons _ (perm_in _ l xs im)).trans List.perm_middle.symm))) (fun p hp => List.mem_append_right _ hp) (el_mono (h.el b) (fun p hp => List.mem_append_right _ hp)) (h.nb b)
    rw [upd_id] at h3
    have e1 : (fun c => if c = b then lv b else lv c) = lv := by
      funext c; split
      · rename_i hc; rw [hc]
      · rfl
    rw [e1] at h3
    exact ⟨s, c, l, rfl, h3, h2⟩)
theorem px_leads (h : PX w W D n xs im lv) (b : Bool) : Calls Try.prog 15 #[.pointer (some ⟨D b, 0, none⟩)] W fun e W' => e = .returned (.bool (n b).ld) ∧ W = W' := (leads_k2 (px_get h b))
theorem px_epoch (h : PX w W D n xs im lv) (b : Bool) : Calls Try.prog 16 #[.pointer (some ⟨D b, 0, none⟩)] W fun e W' => e = .returned (.int .i64 (n b).ep) ∧ W = W' := epoch_k (px_get h b)
theorem px_safe (h : PX w W D n xs im lv) (b : Bool) : Calls Try.prog 12 #[.pointer (some ⟨D b, 0, none⟩)] W fun e W' => e = .returned (.int .i64 ((n b).safe : Int)) ∧ W = W' := safe_k (px_get h b)
end
end Go.Proofs.Ytofpkmfjigjlhaa.Own
