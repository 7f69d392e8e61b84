/- Copies of disks. No conditions beside those in each theorem. -/
import Derived.Test.YtplonehidfefdaaDo03
namespace Go.Proofs.Ytplonehidfefdaa.Own
open Go.RowKit
set_option linter.unusedSimpArgs false
set_option linter.unusedVariables false
/-- A disk D that was copied as D2, beside the reference's. -/
def PC (w W : World) (D D2 R : Nat) (p1 p2 q : PD) (xs : List (Nat × List Value)) : Prop :=
  ∃ d d2 r B cap tl gs, KR w (xs ++ (D2, d2.l) :: (R, rH r B cap) :: (B, rF r tl) :: (D, d.l) :: gs) W ∧ VW gs d p1 ∧ VW gs d2 p2 ∧ VW gs r q ∧ 8 ≤ cap
theorem perm_c0 (x a b z : Nat × List Value) (xs gs : List (Nat × List Value)) : (xs ++ z :: a :: b :: x :: gs).Perm (z :: x :: (xs ++ a :: b :: gs)) := by
  have h0 : (z :: a :: b :: x :: gs).Perm (z :: x :: a :: b :: gs) := List.Perm.cons _ ((List.Perm.cons _ (List.Perm.swap x b _)).trans (List.Perm.swap x a _))
  exact (List.Perm.append_left xs h0).trans (List.perm_middle.trans (List.Perm.cons _ List.perm_middle))
theorem pv_copyC {ks : List (Nat × List Value)} {w W : World} {D R : Nat} {p q : PD} {xs : List (Nat × List Value)} (h : PV w W D R p q xs ks) :
    Calls Try.prog 18 #[.pointer (some ⟨D, 0, none⟩)] W fun e W' => ∃ D2, e = .returned (.pointer (some ⟨D2, 0, none⟩)) ∧ PC w W' D D2 R p p q xs := by
  obtain ⟨d, r, B, cap, tl, gs, HK, hV, hU, hcap⟩ := h
  refine (dg_copy (kr_head xs HK) hV).mono ?_
  rintro e w' ⟨D2, rfl, H⟩
  exact ⟨D2, rfl, d, d, r, B, cap, tl, gs, kr_permA H (perm_c0 _ _ _ _ _ _), hV, hV, hU, hcap.1⟩
theorem pc_drop {w W : World} {D D2 R : Nat} {p1 p2 q : PD} {xs : List (Nat × List Value)} (h : PC w W D D2 R p1 p2 q xs) : PV w W D2 R p2 q xs [] := by
  obtain ⟨d, d2, r, B, cap, tl, gs, HK, hV, hV2, hU, hcap⟩ := h
  refine ⟨d2, r, B, cap, tl, gs, kr_sub HK (List.Sublist.append (List.Sublist.refl _) ?_), hV2, hU, hcap, fun x hx => by simp at hx⟩
  exact ((((List.sublist_cons_self _ _).cons_cons _).cons_cons _).cons_cons _)
theorem perm_c1 (x a b z : Nat × List Value) (l xs gs : List (Nat × List Value)) : (xs ++ z :: a :: b :: x :: (l ++ gs)).Perm (x :: (l ++ (xs ++ z :: a :: b :: gs))) := by
  have h1 : (xs ++ z :: a :: b :: x :: (l ++ gs)).Perm (x :: (xs ++ z :: a :: b :: (l ++ gs))) := by
    have : (z :: a :: b :: x :: (l ++ gs)).Perm (x :: z :: a :: b :: (l ++ gs)) := List.perm_middle (l₁ := [z, a, b])
    exact (List.Perm.append_left xs this).trans List.perm_middle
  have h2 : (xs ++ z :: a :: b :: (l ++ gs)).Perm (l ++ (xs ++ z :: a :: b :: gs)) := by
    have h3 : (z :: a :: b :: (l ++ gs)).Perm (l ++ z :: a :: b :: gs) := by
      have : ([z, a, b] ++ (l ++ gs)).Perm (l ++ ([z, a, b] ++ gs)) := by
        rw [← List.append_assoc, ← List.append_assoc]
        exact List.Perm.append_right _ List.perm_append_comm
      exact this
    refine (List.Perm.append_left xs h3).trans ?_
    rw [← List.append_assoc, ← List.append_assoc]
    exact List.Perm.append_right _ List.perm_append_comm
  exact h1.trans (List.Perm.cons _ h2)
theorem pc_prog {w W : World} {D D2 R : Nat} {p1 p1' p2 q : PD} {xs : List (Nat × List Value)} (h : PC w W D D2 R p1 p2 q xs) {f : FuncId} {args : Array Value} {ret : Value}
    (hc : ∀ d rs gs, KR w ((D, d.l) :: rs) W → VW gs d p1 → (∀ x ∈ gs, x ∈ rs) → Calls Try.prog f args W fun e W' => e = .returned ret ∧ ∃ l d', KR w ((D, d'.l) :: (l ++ rs)) W' ∧ VW (l ++ gs) d' p1') :
    Calls Try.prog f args W fun e W' => e = .returned ret ∧ PC w W' D D2 R p1' p2 q xs := by
  obtain ⟨d, d2, r, B, cap, tl, gs, HK, hV, hV2, hU, hcap⟩ := h
  refine (hc d (xs ++ (D2, d2.l) :: (R, rH r B cap) :: (B, rF r tl) :: gs) gs (kr_permA HK (perm_c1 (D, d.l) (R, rH r B cap) (B, rF r tl) (D2, d2.l) [] xs gs).symm) hV (fun x hx => List.mem_append_right _ (List.mem_cons_of_mem _ (List.mem_cons_of_mem _ (List.mem_cons_of_mem _ hx))))).mono ?_
  rintro e w' ⟨rfl, l, d', H, hV'⟩
  exact ⟨rfl, d', d2, r, B, cap, tl, l ++ gs, kr_permA H (perm_c1 _ _ _ _ _ _ _), hV', vw_mono hV2 (fun x hx => List.mem_append_right _ hx), vw_mono hU (fun x hx => List.mem_append_right _ hx), hcap⟩
theorem pc_append {w W : World} {D D2 R : Nat} {p1 p2 q : PD} {xs : List (Nat × List Value)} (h : PC w W D D2 R p1 p2 q xs) (f : Int) (ys : List Int) (n : Nat) (hn : ys.length = n) (sp : Option Addr) (cp : Nat) (hS : Src W sp ys) :
    Calls Try.prog 9 #[.pointer (some ⟨D, 0, none⟩), .int .i64 f, .slice sp n cp] W fun e W' => e = .returned (.int .i64 (pappE p1 f ys)) ∧ PC w W' D D2 R (pappD p1 f ys) p2 q xs :=
  pc_prog h (fun d rs gs HK hV hs => dg_append HK hV hs f ys n hn sp cp hS)
theorem pc_crash {w W : World} {D D2 R : Nat} {p1 p2 q : PD} {xs : List (Nat × List Value)} (h : PC w W D D2 R p1 p2 q xs) :
    Calls Try.prog 13 #[.pointer (some ⟨D, 0, none⟩), .slice none 0 0] W fun e W' => e = .returned (.tuple #[]) ∧ PC w W' D D2 R (pcrash p1 []) p2 q xs :=
  pc_prog h (fun d rs gs HK hV hs => (dg_crash HK hV [] 0 rfl none 0 (fun d' W1 H j hj => absurd hj (by omega))).mono fun e W' ⟨he, H⟩ => ⟨he, by obtain ⟨d', H1, H2⟩ := H; exact ⟨[], d', H1, H2⟩⟩)
theorem pc_alloc {w W : World} {D D2 R : Nat} {p1 p2 q : PD} {xs : List (Nat × List Value)} (h : PC w W D D2 R p1 p2 q xs) (o : Obj) : PC w (W.alloc o) D D2 R p1 p2 q xs := by
  obtain ⟨d, d2, r, B, cap, tl, gs, HK, h⟩ := h
  exact ⟨d, d2, r, B, cap, tl, gs, kr_alloc HK o, h⟩
/-- Both disks copied: the old ones' rows, and the new ones. -/
def CS1 (w W : World) (D D2 R : Nat) (p : PD) : Prop := ∃ d r B cap tl gs, KR w ((D2, d.l) :: (D, d.l) :: (R, rH r B cap) :: (B, rF r tl) :: gs) W ∧ VW gs d p ∧ VW gs r p ∧ 8 ≤ cap
def CS2 (w W : World) (D R D2 R2 : Nat) (p p2 : PD) : Prop := ∃ d r B cap tl gs, PV w W D2 R2 p2 p2 [(D, d.l), (R, rH r B cap), (B, rF r tl)] gs ∧ VW gs d p ∧ VW gs r p ∧ 8 ≤ cap
theorem cs_one {w W : World} {D R : Nat} {p : PD} (h : PV w W D R p p [] []) :
    Calls Try.prog 18 #[.pointer (some ⟨D, 0, none⟩)] W fun e W' => ∃ D2, e = .returned (.pointer (some ⟨D2, 0, none⟩)) ∧ CS1 w W' D D2 R p := by
  obtain ⟨d, r, B, cap, tl, gs, HK, hV, hU, hcap⟩ := h
  refine (dg_copy HK hV).mono ?_
  rintro e w' ⟨D2, rfl, H⟩
  exact ⟨D2, rfl, d, r, B, cap, tl, gs, H, hV, hU, hcap.1⟩
theorem cs_two {w W : World} {D D2 R : Nat} {p : PD} (h : CS1 w W D D2 R p) :
    Calls Try.prog 25 #[.pointer (some ⟨R, 0, none⟩)] W fun e W' => ∃ R2, e = .returned (.pointer (some ⟨R2, 0, none⟩)) ∧ CS2 w W' D R D2 R2 p p := by
  obtain ⟨d, r, B, cap, tl, gs, HK, hV, hU, hcap⟩ := h
  have H1 : RR w W R B cap tl r ((D2, d.l) :: (D, d.l) :: gs) := kr_permA HK (by
    have : ((R, rH r B cap) :: (B, rF r tl) :: (D2, d.l) :: (D, d.l) :: gs).Perm ((D2, d.l) :: (R, rH r B cap) :: (B, rF r tl) :: (D, d.l) :: gs) := List.perm_middle (l₁ := [(R, rH r B cap), (B, rF r tl)])
    exact this.trans (List.Perm.cons _ (List.perm_middle (l₁ := [(R, rH r B cap), (B, rF r tl)]))))
  refine (rcopy_k r (vw_one hU) R B cap tl H1).mono ?_
  rintro e w' ⟨R2, rfl, B2, cap2, hc2, tl2, H⟩
  refine ⟨R2, rfl, d, r, B, cap, tl, gs, ⟨d, r, B2, cap2, tl2, gs, kr_permA H ?_, hV, hU, hc2, fun x hx => hx⟩, hV, hU, hcap⟩
  show ((D, d.l) :: (R, rH r B cap) :: (B, rF r tl) :: (D2, d.l) :: (R2, rH r B2 cap2) :: (B2, rF r tl2) :: gs).Perm ((R2, rH r B2 cap2) :: (B2, rF r tl2) :: (R, rH r B cap) :: (B, rF r tl) :: (D2, d.l) :: (D, d.l) :: gs)
  have a1 := List.perm_middle (l₁ := [(D, d.l), (R, rH r B cap), (B, rF r tl), (D2, d.l)]) (l₂ := (B2, rF r tl2) :: gs) (a := (R2, rH r B2 cap2))
  have a2 := List.perm_middle (l₁ := [(D, d.l), (R, rH r B cap), (B, rF r tl), (D2, d.l)]) (l₂ := gs) (a := (B2, rF r tl2))
  have a3 : ((D, d.l) :: (R, rH r B cap) :: (B, rF r tl) :: (D2, d.l) :: gs).Perm ((R, rH r B cap) :: (B, rF r tl) :: (D2, d.l) :: (D, d.l) :: gs) := (List.perm_middle (l₁ := [(R, rH r B cap), (B, rF r tl), (D2, d.l)]) (l₂ := gs) (a := (D, d.l))).symm
  exact a1.trans (List.Perm.cons _ (a2.trans (List.Perm.cons _ a3)))
theorem cs_back {w W : World} {D R D2 R2 : Nat} {p p2 : PD} (h : CS2 w W D R D2 R2 p p2) : PV w W D R p p [] [] := by
  obtain ⟨d, r, B, cap, tl, gs, ⟨d2, r2, B2, cap2, tl2, gs2, HK, _, _, _, hk⟩, hV, hU, hcap⟩ := h
  refine ⟨d, r, B, cap, tl, gs2, kr_sub HK ?_, vw_mono hV hk, vw_mono hU hk, hcap, fun x hx => by simp at hx⟩
  have := List.Sublist.append (List.Sublist.refl [(D, d.l), (R, rH r B cap), (B, rF r tl)]) ((((List.Sublist.refl gs2).cons (B2, rF r2 tl2)).cons (R2, rH r2 B2 cap2)).cons (D2, d2.l))
  exact this
theorem do_c {w W : World} {D R D2 R2 : Nat} {p p2 : PD} (h : CS2 w W D R D2 R2 p p2) (x : AV) (hx : AvOk w x) :
    Calls Try.prog 19 #[.pointer (some ⟨D2, 0, none⟩), .pointer (some ⟨R2, 0, none⟩), x.v] W fun e W' => e = .returned (.bool true) ∧ ∃ p', CS2 w W' D R D2 R2 p p' := by
  obtain ⟨d, r, B, cap, tl, gs, h, hV, hU, hcap⟩ := h
  refine (do_k h x hx).mono ?_
  rintro e w' ⟨rfl, p', H⟩
  exact ⟨rfl, p', d, r, B, cap, tl, gs, H, hV, hU, hcap⟩
theorem cs_kr {w W : World} {D R D2 R2 : Nat} {p p2 : PD} (h : CS2 w W D R D2 R2 p p2) : Below w.heap.size w W := by
  obtain ⟨d, r, B, cap, tl, gs, h, hV, hU, hcap⟩ := h
  exact pv_below h
theorem av_ok {w : World} {A : Addr} {i : Nat} {x : AV} (h : AvAt w A i x) (hb : x.nb ≤ 140737488351232) : AvOk w x := ⟨h.hb, h.sb, hb, h.hk, h.sk, h.hi⟩
theorem pv_known {ks : List (Nat × List Value)} {w W : World} {D R : Nat} {p q : PD} {xs : List (Nat × List Value)} (h : PV w W D R p q xs ks) : Calls Try.prog 11 #[] W fun e W' => e = .returned (.bool true) ∧ PV w W' D R p q xs ks := by
  obtain ⟨d, r, B, cap, tl, gs, HK, h⟩ := h
  refine (known_k HK).mono ?_
  rintro e w' ⟨rfl, H⟩
  exact ⟨rfl, d, r, B, cap, tl, gs, H, h⟩
/-- Beginning: two new disks. -/
theorem pv_one {w W : World} (HK : KR w [] W) : Calls Try.prog 8 #[] W fun e W' => ∃ D, e = .returned (.pointer (some ⟨D, 0, none⟩)) ∧ KR w [(D, dk0.l)] W' := new_k HK
theorem pv_two {w W : World} {D : Nat} (HK : KR w [(D, dk0.l)] W) : Calls Try.prog 17 #[] W fun e W' => ∃ R, e = .returned (.pointer (some ⟨R, 0, none⟩)) ∧ PV w W' D R pnew pnew [] [] := by
  refine (rg_new HK).mono ?_
  rintro e w' ⟨R, B, rfl, H⟩
  exact ⟨R, rfl, pv_begin H⟩
theorem pv_rreadk {ks : List (Nat × List Value)} {w W : World} {D R : Nat} {p q : PD} {xs : List (Nat × List Value)} (h : PV w W D R p q xs ks) (k : Nat) (hk : k < 8) :
    Calls Try.prog 20 #[.pointer (some ⟨R, 0, none⟩), .int .i64 k] W fun e W' => ∃ v l, e = .returned (.tuple #[v, .int .i64 0]) ∧ FC l v (q.f k).1 ∧ PV w W' D R p q (l ++ xs) ks := by
  have e1 : preadE (k : Int) = 0 := by unfold preadE; rw [if_neg (by omega)]
  have e2 : pread q (k : Int) = (q.f k).1 := by unfold pread; rw [if_neg (by omega), Int.toNat_natCast]
  have := pv_rread h (k : Int)
  rw [e1, e2] at this
  exact this
theorem fc_conv' {ks : List (Nat × List Value)} {w W : World} {D R : Nat} {p q : PD} {l xs : List (Nat × List Value)} (h : PV w W D R p q (l ++ xs) ks) {v : Value} {bs : List Int} (hF : FC l v bs) : (convert 22 9 v).run Try.prog W = .ok (.string (strOfNums bs)) W := fc_conv (fc_mono hF (fun x hx => List.mem_append_left xs hx)) (pv_kr h)
theorem row_conv' {ks : List (Nat × List Value)} {w W : World} {D R : Nat} {p q : PD} {xs : List (Nat × List Value)} (h : PV w W D R p q xs ks) {g : Nat} {bs : List Int} (hm : (g, bc bs) ∈ xs) : (convert 22 9 (.slice (some ⟨g, 0, none⟩) bs.length bs.length)).run Try.prog W = .ok (.string (strOfNums bs)) W :=
  fc_conv (fs := xs) (.inr ⟨g, _, _, rfl, hm, Nat.le_refl _, by rw [bc_len]; omega, by rw [← bc_len, List.take_length]⟩) (pv_kr h)
end Go.Proofs.Ytplonehidfefdaa.Own
