/- Two disks in memory, the program's and the reference's, side by side. No conditions beside those in each theorem. -/
import Derived.Test.YtaonaifnaecpiaaRd8
import Derived.Test.YtaonaifnaecpiaaLent
namespace Go.Proofs.Ytaonaifnaecpiaa.Own
open Go.RowKit
set_option linter.unusedSimpArgs false
set_option linter.unusedVariables false
/-- The rows xs, the program's disk as the plain disk p, the reference's as the plain disk q. -/
def PV (w W : World) (D R : Nat) (p q : PD) (xs ks : List (Nat × List Value)) : Prop :=
  ∃ d r B cap tl gs, KR w (xs ++ (D, d.l) :: (R, rH r B cap) :: (B, rF r tl) :: gs) W ∧ VW gs d p ∧ VW gs r q ∧ 8 ≤ cap ∧ ∀ x ∈ ks, x ∈ gs
theorem perm_prog (x y z : Nat × List Value) (l xs gs : List (Nat × List Value)) : (xs ++ x :: y :: z :: (l ++ gs)).Perm (x :: (l ++ (xs ++ y :: z :: gs))) := by
  have h1 : (xs ++ x :: y :: z :: (l ++ gs)).Perm (x :: (xs ++ y :: z :: (l ++ gs))) := List.perm_middle
  have h2 : (y :: z :: (l ++ gs)).Perm (l ++ y :: z :: gs) := ((List.perm_middle (l₁ := l) (l₂ := z :: gs) (a := y)).trans (List.Perm.cons _ List.perm_middle)).symm
  have h3 : (xs ++ y :: z :: (l ++ gs)).Perm (xs ++ (l ++ y :: z :: gs)) := List.Perm.append_left xs h2
  have h4 : (xs ++ (l ++ y :: z :: gs)).Perm (l ++ (xs ++ y :: z :: gs)) := by
    rw [← List.append_assoc, ← List.append_assoc]
    exact List.Perm.append_right _ List.perm_append_comm
  exact h1.trans (List.Perm.cons _ (h3.trans h4))
theorem perm_ref (x y z : Nat × List Value) (l xs gs : List (Nat × List Value)) : (xs ++ x :: y :: z :: (l ++ gs)).Perm (y :: z :: (l ++ (xs ++ x :: gs))) := by
  have h1 : (xs ++ x :: y :: z :: (l ++ gs)).Perm (xs ++ y :: z :: x :: (l ++ gs)) := List.Perm.append_left xs ((List.Perm.swap y x _).trans (List.Perm.cons _ (List.Perm.swap z x _)))
  have h2 : (xs ++ y :: z :: x :: (l ++ gs)).Perm (y :: z :: (xs ++ x :: (l ++ gs))) := List.perm_middle.trans (List.Perm.cons _ List.perm_middle)
  have h3 : (xs ++ x :: (l ++ gs)).Perm (l ++ (xs ++ x :: gs)) := by
    have : (x :: (l ++ gs)).Perm (l ++ x :: gs) := List.perm_middle.symm
    refine (List.Perm.append_left xs this).trans ?_
    rw [← List.append_assoc, ← List.append_assoc]
    exact List.Perm.append_right _ List.perm_append_comm
  exact h2 |> h1.trans |>.trans (List.Perm.cons _ (List.Perm.cons _ h3))
theorem pv_kr {ks : List (Nat × List Value)} {w W : World} {D R : Nat} {p q : PD} {xs : List (Nat × List Value)} (h : PV w W D R p q xs ks) : KR w xs W := by
  obtain ⟨d, r, B, cap, tl, gs, HK, _⟩ := h
  exact kr_sub HK (List.sublist_append_left _ _)
theorem pv_below {ks : List (Nat × List Value)} {w W : World} {D R : Nat} {p q : PD} {xs : List (Nat × List Value)} (h : PV w W D R p q xs ks) : Below w.heap.size w W := (pv_kr h).below
theorem pv_tail {ks : List (Nat × List Value)} {w W : World} {D R : Nat} {p q : PD} {x : Nat × List Value} {xs : List (Nat × List Value)} (h : PV w W D R p q (x :: xs) ks) : PV w W D R p q xs ks := by
  obtain ⟨d, r, B, cap, tl, gs, HK, h⟩ := h
  exact ⟨d, r, B, cap, tl, gs, kr_tail HK, h⟩
theorem pv_sub {ks : List (Nat × List Value)} {w W : World} {D R : Nat} {p q : PD} {xs ys : List (Nat × List Value)} (h : PV w W D R p q xs ks) (hs : ys.Sublist xs) : PV w W D R p q ys ks := by
  obtain ⟨d, r, B, cap, tl, gs, HK, h⟩ := h
  exact ⟨d, r, B, cap, tl, gs, kr_sub HK (List.Sublist.append hs (List.Sublist.refl _)), h⟩
theorem pv_alloc {ks : List (Nat × List Value)} {w W : World} {D R : Nat} {p q : PD} {xs : List (Nat × List Value)} (h : PV w W D R p q xs ks) (o : Obj) : PV w (W.alloc o) D R p q xs ks := by
  obtain ⟨d, r, B, cap, tl, gs, HK, h⟩ := h
  exact ⟨d, r, B, cap, tl, gs, kr_alloc HK o, h⟩
theorem pv_new {ks : List (Nat × List Value)} {w W : World} {D R : Nat} {p q : PD} {xs : List (Nat × List Value)} (h : PV w W D R p q xs ks) (cs : List Value) (t : TypeId) : PV w (W.alloc (.cells cs.toArray t)) D R p q ((W.heap.size, cs) :: xs) ks := by
  obtain ⟨d, r, B, cap, tl, gs, HK, h⟩ := h
  exact ⟨d, r, B, cap, tl, gs, kr_new HK cs t, h⟩
theorem pv_call {ks : List (Nat × List Value)} {w W W' : World} {D R : Nat} {p q : PD} {xs : List (Nat × List Value)} (h : PV w W D R p q xs ks) (hb : Below W.heap.size W W') : PV w W' D R p q xs ks := by
  obtain ⟨d, r, B, cap, tl, gs, HK, h⟩ := h
  exact ⟨d, r, B, cap, tl, gs, kr_call HK hb, h⟩
theorem pv_drew {ks : List (Nat × List Value)} {w W : World} {D R : Nat} {p q : PD} {xs : List (Nat × List Value)} (h : PV w W D R p q xs ks) : PV w W.drew D R p q xs ks := pv_call h (bw_drew (Below.refl _ _))
theorem pv_drewN {ks : List (Nat × List Value)} {w W : World} {D R : Nat} {p q : PD} {xs : List (Nat × List Value)} (h : PV w W D R p q xs ks) (n : Nat) : PV w (W.drewN n) D R p q xs ks := pv_call h (bw_drewN (Below.refl _ _) n)
theorem pv_prog {ks : List (Nat × List Value)} {w W : World} {D R : Nat} {p p' q : PD} {xs : List (Nat × List Value)} (h : PV w W D R p q xs ks) {f : FuncId} {args : Array Value} {ret : Value}
    (hc : ∀ d rs gs, (∀ W1, KR w rs W1 → KR w xs W1) → KR w ((D, d.l) :: rs) W → VW gs d p → (∀ x ∈ gs, x ∈ rs) → Calls Try.prog f args W fun e W' => e = .returned ret ∧ ∃ l d', KR w ((D, d'.l) :: (l ++ rs)) W' ∧ VW (l ++ gs) d' p') :
    Calls Try.prog f args W fun e W' => e = .returned ret ∧ PV w W' D R p' q xs ks := by
  obtain ⟨d, r, B, cap, tl, gs, HK, hV, hU, hcap⟩ := h
  refine (hc d (xs ++ (R, rH r B cap) :: (B, rF r tl) :: gs) gs (fun W1 H => kr_sub H (List.sublist_append_left _ _)) (kr_head xs HK) hV (fun x hx => List.mem_append_right _ (List.mem_cons_of_mem _ (List.mem_cons_of_mem _ hx)))).mono ?_
  rintro e w' ⟨rfl, l, d', H, hV'⟩
  exact ⟨rfl, d', r, B, cap, tl, l ++ gs, kr_permA H (perm_prog _ _ _ _ _ _), hV', vw_mono hU (fun x hx => List.mem_append_right _ hx), hcap.1, fun x hx => List.mem_append_right _ (hcap.2 x hx)⟩
theorem pv_ref {ks : List (Nat × List Value)} {w W : World} {D R : Nat} {p q q' : PD} {xs : List (Nat × List Value)} (h : PV w W D R p q xs ks) {f : FuncId} {args : Array Value} {ret : Value}
    (hc : ∀ r B cap tl rs gs, 8 ≤ cap → (∀ W1, KR w rs W1 → KR w xs W1) → RR w W R B cap tl r rs → VW gs r q → (∀ x ∈ gs, x ∈ rs) → Calls Try.prog f args W fun e W' => e = .returned ret ∧ ∃ l r', RR w W' R B cap tl r' (l ++ rs) ∧ VW (l ++ gs) r' q') :
    Calls Try.prog f args W fun e W' => e = .returned ret ∧ PV w W' D R p q' xs ks := by
  obtain ⟨d, r, B, cap, tl, gs, HK, hV, hU, hcap⟩ := h
  refine (hc r B cap tl (xs ++ (D, d.l) :: gs) gs hcap.1 (fun W1 H => kr_sub H (List.sublist_append_left _ _)) (kr_permA HK (perm_ref (D, d.l) (R, rH r B cap) (B, rF r tl) [] xs gs).symm) hU (fun x hx => List.mem_append_right _ (List.mem_cons_of_mem _ hx))).mono ?_
  rintro e w' ⟨rfl, l, r', H, hU'⟩
  exact ⟨rfl, d, r', B, cap, tl, l ++ gs, kr_permA H (perm_ref _ _ _ _ _ _), vw_mono hV (fun x hx => List.mem_append_right _ hx), hU', hcap.1, fun x hx => List.mem_append_right _ (hcap.2 x hx)⟩
theorem pv_append {ks : List (Nat × List Value)} {w W : World} {D R : Nat} {p q : PD} {xs : List (Nat × List Value)} (h : PV w W D R p q xs ks) (f : Int) (ys : List Int) (n : Nat) (hn : ys.length = n) (sp : Option Addr) (cp : Nat) (hS : ∀ W1, KR w xs W1 → Src W1 sp ys) :
    Calls Try.prog 37 #[.pointer (some ⟨D, 0, none⟩), .int .i64 f, .slice sp n cp] W fun e W' => e = .returned (.int .i64 (pappE p f ys)) ∧ PV w W' D R (pappD p f ys) q xs ks :=
  pv_prog h (fun d rs gs hx HK hV hs => (dg_append HK hV hs f ys n hn sp cp (hS W (hx W (kr_tail HK)))).mono fun e W' ⟨he, H⟩ => ⟨he, H⟩)
theorem pv_rappend {ks : List (Nat × List Value)} {w W : World} {D R : Nat} {p q : PD} {xs : List (Nat × List Value)} (h : PV w W D R p q xs ks) (f : Int) (ys : List Int) (n : Nat) (hn : ys.length = n) (sp : Option Addr) (cp : Nat) (hS : ∀ W1, KR w xs W1 → Src W1 sp ys) :
    Calls Try.prog 38 #[.pointer (some ⟨R, 0, none⟩), .int .i64 f, .slice sp n cp] W fun e W' => e = .returned (.int .i64 (pappE q f ys)) ∧ PV w W' D R p (pappD q f ys) xs ks :=
  pv_ref h (fun r B cap tl rs gs hcap hx HK hV hs => (rg_append hcap HK hV hs f ys n hn sp cp (fun W1 H => hS W1 (hx W1 H))).mono fun e W' ⟨he, H⟩ => ⟨he, H⟩)
theorem pv_sync {ks : List (Nat × List Value)} {w W : World} {D R : Nat} {p q : PD} {xs : List (Nat × List Value)} (h : PV w W D R p q xs ks) (f : Int) :
    Calls Try.prog 48 #[.pointer (some ⟨D, 0, none⟩), .int .i64 f] W fun e W' => e = .returned (.int .i64 (pchE p [f])) ∧ PV w W' D R (psyncD p f) q xs ks :=
  pv_prog h (fun d rs gs hx HK hV hs => (dg_sync HK hV f).mono fun e W' ⟨he, H⟩ => ⟨he, by obtain ⟨d', H1, H2⟩ := H; exact ⟨[], d', H1, H2⟩⟩)
theorem pv_rsync {ks : List (Nat × List Value)} {w W : World} {D R : Nat} {p q : PD} {xs : List (Nat × List Value)} (h : PV w W D R p q xs ks) (f : Int) :
    Calls Try.prog 52 #[.pointer (some ⟨R, 0, none⟩), .int .i64 f] W fun e W' => e = .returned (.int .i64 (pchE q [f])) ∧ PV w W' D R p (psyncD q f) xs ks :=
  pv_ref h (fun r B cap tl rs gs hcap hx HK hV hs => (rg_sync hcap HK hV f).mono fun e W' ⟨he, H⟩ => ⟨he, by obtain ⟨d', H1, H2⟩ := H; exact ⟨[], d', H1, H2⟩⟩)
theorem pv_clear {ks : List (Nat × List Value)} {w W : World} {D R : Nat} {p q : PD} {xs : List (Nat × List Value)} (h : PV w W D R p q xs ks) (f : Int) :
    Calls Try.prog 49 #[.pointer (some ⟨D, 0, none⟩), .int .i64 f] W fun e W' => e = .returned (.int .i64 (pchE p [f])) ∧ PV w W' D R (pclrD p f) q xs ks :=
  pv_prog h (fun d rs gs hx HK hV hs => (dg_clear HK hV f).mono fun e W' ⟨he, H⟩ => ⟨he, by obtain ⟨d', H1, H2⟩ := H; exact ⟨[], d', H1, H2⟩⟩)
theorem pv_rclear {ks : List (Nat × List Value)} {w W : World} {D R : Nat} {p q : PD} {xs : List (Nat × List Value)} (h : PV w W D R p q xs ks) (f : Int) :
    Calls Try.prog 51 #[.pointer (some ⟨R, 0, none⟩), .int .i64 f] W fun e W' => e = .returned (.int .i64 (pchE q [f])) ∧ PV w W' D R p (pclrD q f) xs ks :=
  pv_ref h (fun r B cap tl rs gs hcap hx HK hV hs => (rg_clear hcap HK hV f).mono fun e W' ⟨he, H⟩ => ⟨he, by obtain ⟨d', H1, H2⟩ := H; exact ⟨[], d', H1, H2⟩⟩)
theorem pv_rename {ks : List (Nat × List Value)} {w W : World} {D R : Nat} {p q : PD} {xs : List (Nat × List Value)} (h : PV w W D R p q xs ks) (f t : Int) :
    Calls Try.prog 65 #[.pointer (some ⟨D, 0, none⟩), .int .i64 f, .int .i64 t] W fun e W' => e = .returned (.int .i64 (pchE p [f, t])) ∧ PV w W' D R (prenD p f t) q xs ks :=
  pv_prog h (fun d rs gs hx HK hV hs => (dg_rename HK hV f t).mono fun e W' ⟨he, H⟩ => ⟨he, by obtain ⟨d', H1, H2⟩ := H; exact ⟨[], d', H1, H2⟩⟩)
theorem pv_rrename {ks : List (Nat × List Value)} {w W : World} {D R : Nat} {p q : PD} {xs : List (Nat × List Value)} (h : PV w W D R p q xs ks) (f t : Int) :
    Calls Try.prog 53 #[.pointer (some ⟨R, 0, none⟩), .int .i64 f, .int .i64 t] W fun e W' => e = .returned (.int .i64 (pchE q [f, t])) ∧ PV w W' D R p (prenD q f t) xs ks :=
  pv_ref h (fun r B cap tl rs gs hcap hx HK hV hs => (rg_rename hcap HK hV f t).mono fun e W' ⟨he, H⟩ => ⟨he, by obtain ⟨d', H1, H2⟩ := H; exact ⟨[], d', H1, H2⟩⟩)
theorem pv_fail {ks : List (Nat × List Value)} {w W : World} {D R : Nat} {p q : PD} {xs : List (Nat × List Value)} (h : PV w W D R p q xs ks) (n : Int) (hn : n ≤ 9223372036854775807) :
    Calls Try.prog 27 #[.pointer (some ⟨D, 0, none⟩), .int .i64 n] W fun e W' => e = .returned (.tuple #[]) ∧ PV w W' D R (pfail p n) q xs ks :=
  pv_prog h (fun d rs gs hx HK hV hs => (dg_fail HK hV n hn).mono fun e W' ⟨he, H⟩ => ⟨he, by obtain ⟨d', H1, H2⟩ := H; exact ⟨[], d', H1, H2⟩⟩)
theorem pv_rfail {ks : List (Nat × List Value)} {w W : World} {D R : Nat} {p q : PD} {xs : List (Nat × List Value)} (h : PV w W D R p q xs ks) (n : Int) (hn : n ≤ 9223372036854775807) :
    Calls Try.prog 36 #[.pointer (some ⟨R, 0, none⟩), .int .i64 n] W fun e W' => e = .returned (.tuple #[]) ∧ PV w W' D R p (pfail q n) xs ks :=
  pv_ref h (fun r B cap tl rs gs hcap hx HK hV hs => (rg_fail HK hV n hn).mono fun e W' ⟨he, H⟩ => ⟨he, by obtain ⟨d', H1, H2⟩ := H; exact ⟨[], d', H1, H2⟩⟩)
theorem pv_crash {ks : List (Nat × List Value)} {w W : World} {D R : Nat} {p q : PD} {xs : List (Nat × List Value)} (h : PV w W D R p q xs ks) (keeps : List Int) (n : Nat) (hn : keeps.length = n) (co : Option Addr) (cp : Nat) (hk : ∀ W1, KR w xs W1 → ∀ j, j < n → ∃ A, co = some A ∧ W1.cell? (A.add j) = some (.int .i64 (keeps.getD j 0))) :
    Calls Try.prog 28 #[.pointer (some ⟨D, 0, none⟩), .slice co n cp] W fun e W' => e = .returned (.tuple #[]) ∧ PV w W' D R (pcrash p keeps) q xs ks :=
  pv_prog h (fun d rs gs hx HK hV hs => (dg_crash HK hV keeps n hn co cp (fun d' W1 H => hk W1 (hx W1 (kr_tail H)))).mono fun e W' ⟨he, H⟩ => ⟨he, by obtain ⟨d', H1, H2⟩ := H; exact ⟨[], d', H1, H2⟩⟩)
theorem pv_rcrash {ks : List (Nat × List Value)} {w W : World} {D R : Nat} {p q : PD} {xs : List (Nat × List Value)} (h : PV w W D R p q xs ks) (keeps : List Int) (n : Nat) (hn : keeps.length = n) (co : Option Addr) (cp : Nat) (hk : ∀ W1, KR w xs W1 → ∀ j, j < n → ∃ A, co = some A ∧ W1.cell? (A.add j) = some (.int .i64 (keeps.getD j 0))) :
    Calls Try.prog 39 #[.pointer (some ⟨R, 0, none⟩), .slice co n cp] W fun e W' => e = .returned (.tuple #[]) ∧ PV w W' D R p (pcrash q keeps) xs ks :=
  pv_ref h (fun r B cap tl rs gs hcap hx HK hV hs => (rg_crash hcap HK hV keeps n hn co cp (fun W1 H => hk W1 (hx W1 H))).mono fun e W' ⟨he, H⟩ => ⟨he, by obtain ⟨d', H1, H2⟩ := H; exact ⟨[], d', H1, H2⟩⟩)
theorem pv_safe {ks : List (Nat × List Value)} {w W : World} {D R : Nat} {p q : PD} {xs : List (Nat × List Value)} (h : PV w W D R p q xs ks) (f : Int) : Calls Try.prog 59 #[.pointer (some ⟨D, 0, none⟩), .int .i64 f] W fun e W' => e = .returned (.int .i64 (psafe p f)) ∧ W = W' := by
  obtain ⟨d, r, B, cap, tl, gs, HK, hV, hU, hcap⟩ := h
  exact dg_safe (kr_head xs HK) hV f
theorem pv_rsafe {ks : List (Nat × List Value)} {w W : World} {D R : Nat} {p q : PD} {xs : List (Nat × List Value)} (h : PV w W D R p q xs ks) (f : Int) : Calls Try.prog 60 #[.pointer (some ⟨R, 0, none⟩), .int .i64 f] W fun e W' => e = .returned (.int .i64 (psafe q f)) ∧ W = W' := by
  obtain ⟨d, r, B, cap, tl, gs, HK, hV, hU, hcap⟩ := h
  exact rg_safe (kr_permA HK (perm_ref (D, d.l) (R, rH r B cap) (B, rF r tl) [] xs gs).symm) hU f
theorem pv_dead {ks : List (Nat × List Value)} {w W : World} {D R : Nat} {p q : PD} {xs : List (Nat × List Value)} (h : PV w W D R p q xs ks) : Calls Try.prog 61 #[.pointer (some ⟨D, 0, none⟩)] W fun e W' => e = .returned (.bool p.dead) ∧ W = W' := by
  obtain ⟨d, r, B, cap, tl, gs, HK, hV, hU, hcap⟩ := h
  exact dg_dead (kr_head xs HK) hV
theorem pv_rdead {ks : List (Nat × List Value)} {w W : World} {D R : Nat} {p q : PD} {xs : List (Nat × List Value)} (h : PV w W D R p q xs ks) : W.cell? ⟨R, 2, none⟩ = some (.bool q.dead) := by
  obtain ⟨d, r, B, cap, tl, gs, HK, hV, hU, hcap⟩ := h
  rw [← hU.dead]
  exact rr_h2 (kr_permA HK (perm_ref (D, d.l) (R, rH r B cap) (B, rF r tl) [] xs gs).symm)
theorem perm_in (x y z : Nat × List Value) (l xs gs : List (Nat × List Value)) : ((l ++ xs) ++ x :: y :: z :: gs).Perm (x :: (l ++ (xs ++ y :: z :: gs))) := by
  rw [List.append_assoc]
  have h1 : (xs ++ x :: y :: z :: gs).Perm (x :: (xs ++ y :: z :: gs)) := List.perm_middle
  exact (List.Perm.append_left l h1).trans List.perm_middle
theorem perm_inR (x y z : Nat × List Value) (l xs gs : List (Nat × List Value)) : ((l ++ xs) ++ x :: y :: z :: gs).Perm (y :: z :: (l ++ (xs ++ x :: gs))) := by
  rw [List.append_assoc]
  have h1 : (xs ++ x :: y :: z :: gs).Perm (y :: z :: (xs ++ x :: gs)) := perm_ref x y z [] xs gs
  exact (List.Perm.append_left l h1).trans (List.perm_middle.trans (List.Perm.cons _ List.perm_middle))
theorem pv_read {ks : List (Nat × List Value)} {w W : World} {D R : Nat} {p q : PD} {xs : List (Nat × List Value)} (h : PV w W D R p q xs ks) (f : Int) :
    Calls Try.prog 45 #[.pointer (some ⟨D, 0, none⟩), .int .i64 f] W fun e W' => ∃ v l, e = .returned (.tuple #[v, .int .i64 (preadE f)]) ∧ FC l v (pread p f) ∧ PV w W' D R p q (l ++ xs) ks := by
  obtain ⟨d, r, B, cap, tl, gs, HK, hV, hU, hcap⟩ := h
  refine (dg_read (kr_head xs HK) hV (fun x hx => List.mem_append_right _ (List.mem_cons_of_mem _ (List.mem_cons_of_mem _ hx))) f).mono ?_
  rintro e w' ⟨v, l, rfl, hF, H⟩
  exact ⟨v, l, rfl, hF, d, r, B, cap, tl, gs, kr_permA H (perm_in _ _ _ _ _ _), hV, hU, hcap⟩
theorem pv_readk {ks : List (Nat × List Value)} {w W : World} {D R : Nat} {p q : PD} {xs : List (Nat × List Value)} (h : PV w W D R p q xs ks) (k : Nat) (hk : k < 8) :
    Calls Try.prog 45 #[.pointer (some ⟨D, 0, none⟩), .int .i64 k] W fun e W' => ∃ g, e = .returned (.tuple #[.slice (some ⟨g, 0, none⟩) (p.f k).1.length (p.f k).1.length, .int .i64 0]) ∧ PV w W' D R p q ((g, bc (p.f k).1) :: xs) ks := by
  obtain ⟨d, r, B, cap, tl, gs, HK, hV, hU, hcap⟩ := h
  obtain ⟨hF, hs1, hs2, hs3⟩ := hV.file k hk
  refine (read_k d D k hk (p.f k).1 (by omega) (kr_head xs HK) (fc_mono hF (fun x hx => List.mem_append_right _ (List.mem_cons_of_mem _ (List.mem_cons_of_mem _ hx))))).mono ?_
  rintro e w' ⟨g, rfl, H⟩
  exact ⟨g, rfl, d, r, B, cap, tl, gs, kr_permA (kr_swap H) (perm_in _ _ _ [_] _ _), hV, hU, hcap⟩
theorem pv_rread {ks : List (Nat × List Value)} {w W : World} {D R : Nat} {p q : PD} {xs : List (Nat × List Value)} (h : PV w W D R p q xs ks) (f : Int) :
    Calls Try.prog 50 #[.pointer (some ⟨R, 0, none⟩), .int .i64 f] W fun e W' => ∃ v l, e = .returned (.tuple #[v, .int .i64 (preadE f)]) ∧ FC l v (pread q f) ∧ PV w W' D R p q (l ++ xs) ks := by
  obtain ⟨d, r, B, cap, tl, gs, HK, hV, hU, hcap⟩ := h
  refine (rg_read hcap.1 (kr_permA HK (perm_ref (D, d.l) (R, rH r B cap) (B, rF r tl) [] xs gs).symm) hU (fun x hx => List.mem_append_right _ (List.mem_append_right _ (List.mem_cons_of_mem _ hx))) f).mono ?_
  rintro e w' ⟨v, l, rfl, hF, H⟩
  exact ⟨v, l, rfl, hF, d, r, B, cap, tl, gs, kr_permA H (perm_inR _ _ _ _ _ _), hV, hU, hcap⟩
theorem pv_len {ks : List (Nat × List Value)} {w W : World} {D R : Nat} {p q : PD} {xs : List (Nat × List Value)} (h : PV w W D R p q xs ks) (k : Nat) (hk : k < 8) : (p.f k).1.length ≤ 1048576 ∧ (p.f k).2 ≤ (p.f k).1.length := by
  obtain ⟨d, r, B, cap, tl, gs, HK, hV, hU, hcap⟩ := h
  exact ⟨(hV.file k hk).2.2.2, (hV.file k hk).2.2.1⟩
theorem pv_begin {w W : World} {D R B : Nat} {rs : List (Nat × List Value)} (h : RR w W R B 8 [] dk0 ((D, dk0.l) :: rs)) : PV w W D R pnew pnew rs [] :=
  ⟨dk0, dk0, B, 8, [], [], kr_permA h (by
    have := perm_ref (D, dk0.l) (R, rH dk0 B 8) (B, rF dk0 []) [] rs []
    refine this.trans ?_
    simp only [List.nil_append]
    exact List.Perm.cons _ (List.Perm.cons _ (List.perm_append_comm))), vw_new _, vw_new _, by omega, fun x hx => by simp at hx⟩
end Go.Proofs.Ytaonaifnaecpiaa.Own
