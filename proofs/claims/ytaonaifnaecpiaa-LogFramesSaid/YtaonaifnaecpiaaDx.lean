/- One disk in memory (the program's, or the reference's), other rows apart. No conditions beside those in each theorem. -/
import Derived.Test.YtaonaifnaecpiaaPv
import Derived.Test.YtaonaifnaecpiaaLL
namespace Go.Proofs.Ytaonaifnaecpiaa.Own
open Go.RowKit
set_option linter.unusedSimpArgs false
set_option linter.unusedVariables false
/-- The rows xs, the program's disk as the plain disk p; the rows ks are kept. -/
def DX (w W : World) (D : Nat) (p : PD) (xs ks : List (Nat × List Value)) : Prop := ∃ d gs, KR w (xs ++ (D, d.l) :: gs) W ∧ VW gs d p ∧ ∀ x ∈ ks, x ∈ gs
section
variable {ks : List (Nat × List Value)} {w W : World} {D : Nat} {p : PD} {xs : List (Nat × List Value)}
theorem dx_kr (h : DX w W D p xs ks) : KR w xs W := by
  obtain ⟨d, gs, HK, _⟩ := h
  exact kr_sub HK (List.sublist_append_left _ _)
theorem dx_sub {ys : List (Nat × List Value)} (h : DX w W D p xs ks) (hs : ys.Sublist xs) : DX w W D p ys ks := by
  obtain ⟨d, gs, HK, h⟩ := h
  exact ⟨d, gs, kr_sub HK (List.Sublist.append hs (List.Sublist.refl _)), h⟩
theorem dx_perm {ys : List (Nat × List Value)} (h : DX w W D p xs ks) (hs : ys.Perm xs) : DX w W D p ys ks := by
  obtain ⟨d, gs, HK, h⟩ := h
  exact ⟨d, gs, kr_permA HK (List.Perm.append_right _ hs), h⟩
theorem dx_call {W' : World} (h : DX w W D p xs ks) (hb : Below W.heap.size W W') : DX w W' D p xs ks := by
  obtain ⟨d, gs, HK, h⟩ := h
  exact ⟨d, gs, kr_call HK hb, h⟩
theorem dx_drew (h : DX w W D p xs ks) : DX w W.drew D p xs ks := dx_call h (bw_drew (Below.refl _ _))
theorem dx_drewN (h : DX w W D p xs ks) (n : Nat) : DX w (W.drewN n) D p xs ks := dx_call h (bw_drewN (Below.refl _ _) n)
theorem dx_join {W' : World} {l : List (Nat × List Value)} (h : DX w W D p xs ks) (hl : KR W l W') : DX w W' D p (l ++ xs) ks := by
  obtain ⟨d, gs, HK, h⟩ := h
  exact ⟨d, gs, by rw [List.append_assoc]; exact kr_join HK hl, h⟩
theorem dx_new (h : DX w W D p xs ks) (cs : List Value) (t : TypeId) : DX w (W.alloc (.cells cs.toArray t)) D p ((W.heap.size, cs) :: xs) ks := by
  obtain ⟨d, gs, HK, h⟩ := h
  exact ⟨d, gs, kr_new HK cs t, h⟩
theorem dx_fset {b : Nat} {cs : List Value} (h : DX w W D p ((b, cs) :: xs) ks) (j : Nat) (hj : j < cs.length) (v : Value) (ds : List Value) (hd : cs.set j v = ds) : DX w (W.setCell ⟨b, j, none⟩ v) D p ((b, ds) :: xs) ks := by
  obtain ⟨d, gs, HK, h⟩ := h
  exact ⟨d, gs, kr_fset HK 0 rfl j hj v ds hd, h⟩
theorem dx_len (h : DX w W D p xs ks) (k : Nat) (hk : k < 8) : (p.f k).1.length ≤ 1048576 ∧ (p.f k).2 ≤ (p.f k).1.length := by
  obtain ⟨d, gs, HK, hV, _⟩ := h
  exact ⟨(hV.file k hk).2.2.2, (hV.file k hk).2.2.1⟩
theorem dx_prog {p' : PD} (h : DX w W D p xs ks) {f : FuncId} {args : Array Value} {ret : Value}
    (hc : ∀ d rs gs, (∀ W1, KR w rs W1 → KR w xs W1) → KR w ((D, d.l) :: rs) W → VW gs d p → (∀ x ∈ gs, x ∈ rs) → Calls Try.prog f args W fun e W' => e = .returned ret ∧ ∃ l d', KR w ((D, d'.l) :: (l ++ rs)) W' ∧ VW (l ++ gs) d' p') :
    Calls Try.prog f args W fun e W' => e = .returned ret ∧ DX w W' D p' xs ks := by
  obtain ⟨d, gs, HK, hV, hk⟩ := h
  refine (hc d (xs ++ gs) gs (fun W1 H => kr_sub H (List.sublist_append_left _ _)) (kr_head xs HK) hV (fun x hx => List.mem_append_right _ hx)).mono ?_
  rintro e w' ⟨rfl, l, d', H, hV'⟩
  refine ⟨rfl, d', l ++ gs, kr_permA H ?_, hV', fun x hx => List.mem_append_right _ (hk x hx)⟩
  have h1 : (xs ++ (D, d'.l) :: (l ++ gs)).Perm ((D, d'.l) :: (xs ++ (l ++ gs))) := List.perm_middle
  refine h1.trans (List.Perm.cons _ ?_)
  rw [← List.append_assoc, ← List.append_assoc]
  exact List.Perm.append_right _ List.perm_append_comm
theorem dx_append (h : DX w W D p xs ks) (f : Int) (ys : List Int) (n : Nat) (hn : ys.length = n) (sp : Option Addr) (cp : Nat) (hS : ∀ W1, KR w xs W1 → Src W1 sp ys) :
    Calls Try.prog 37 #[.pointer (some ⟨D, 0, none⟩), .int .i64 f, .slice sp n cp] W fun e W' => e = .returned (.int .i64 (pappE p f ys)) ∧ DX w W' D (pappD p f ys) xs ks :=
  dx_prog h (fun d rs gs hx HK hV hs => (dg_append HK hV hs f ys n hn sp cp (hS W (hx W (kr_tail HK)))).mono fun e W' ⟨he, H⟩ => ⟨he, H⟩)
theorem dx_appendN (h : DX w W D p xs ks) (f : Int) (ys : List Int) (n : Nat) (hn : ys.length = n) (sp : Option Addr) (cp : Nat) (hS : Src W sp ys) :
    Calls Try.prog 37 #[.pointer (some ⟨D, 0, none⟩), .int .i64 f, .slice sp n cp] W fun e W' => e = .returned (.int .i64 (pappE p f ys)) ∧ DX w W' D (pappD p f ys) xs ks :=
  dx_prog h (fun d rs gs hx HK hV hs => (dg_append HK hV hs f ys n hn sp cp hS).mono fun e W' ⟨he, H⟩ => ⟨he, H⟩)
theorem dx_sync (h : DX w W D p xs ks) (f : Int) :
    Calls Try.prog 48 #[.pointer (some ⟨D, 0, none⟩), .int .i64 f] W fun e W' => e = .returned (.int .i64 (pchE p [f])) ∧ DX w W' D (psyncD p f) xs ks :=
  dx_prog h (fun d rs gs hx HK hV hs => (dg_sync HK hV f).mono fun e W' ⟨he, H⟩ => ⟨he, by obtain ⟨d', H1, H2⟩ := H; exact ⟨[], d', H1, H2⟩⟩)
theorem dx_clear (h : DX w W D p xs ks) (f : Int) :
    Calls Try.prog 49 #[.pointer (some ⟨D, 0, none⟩), .int .i64 f] W fun e W' => e = .returned (.int .i64 (pchE p [f])) ∧ DX w W' D (pclrD p f) xs ks :=
  dx_prog h (fun d rs gs hx HK hV hs => (dg_clear HK hV f).mono fun e W' ⟨he, H⟩ => ⟨he, by obtain ⟨d', H1, H2⟩ := H; exact ⟨[], d', H1, H2⟩⟩)
theorem dx_rename (h : DX w W D p xs ks) (f t : Int) :
    Calls Try.prog 65 #[.pointer (some ⟨D, 0, none⟩), .int .i64 f, .int .i64 t] W fun e W' => e = .returned (.int .i64 (pchE p [f, t])) ∧ DX w W' D (prenD p f t) xs ks :=
  dx_prog h (fun d rs gs hx HK hV hs => (dg_rename HK hV f t).mono fun e W' ⟨he, H⟩ => ⟨he, by obtain ⟨d', H1, H2⟩ := H; exact ⟨[], d', H1, H2⟩⟩)
theorem dx_fail (h : DX w W D p xs ks) (n : Int) (hn : n ≤ 9223372036854775807) :
    Calls Try.prog 27 #[.pointer (some ⟨D, 0, none⟩), .int .i64 n] W fun e W' => e = .returned (.tuple #[]) ∧ DX w W' D (pfail p n) xs ks :=
  dx_prog h (fun d rs gs hx HK hV hs => (dg_fail HK hV n hn).mono fun e W' ⟨he, H⟩ => ⟨he, by obtain ⟨d', H1, H2⟩ := H; exact ⟨[], d', H1, H2⟩⟩)
theorem dx_crash (h : DX w W D p xs ks) (keeps : List Int) (n : Nat) (hn : keeps.length = n) (co : Option Addr) (cp : Nat) (hk : ∀ W1, KR w xs W1 → ∀ j, j < n → ∃ A, co = some A ∧ W1.cell? (A.add j) = some (.int .i64 (keeps.getD j 0))) :
    Calls Try.prog 28 #[.pointer (some ⟨D, 0, none⟩), .slice co n cp] W fun e W' => e = .returned (.tuple #[]) ∧ DX w W' D (pcrash p keeps) xs ks :=
  dx_prog h (fun d rs gs hx HK hV hs => (dg_crash HK hV keeps n hn co cp (fun d' W1 H => hk W1 (hx W1 (kr_tail H)))).mono fun e W' ⟨he, H⟩ => ⟨he, by obtain ⟨d', H1, H2⟩ := H; exact ⟨[], d', H1, H2⟩⟩)
theorem dx_readk (h : DX w W D p xs ks) (k : Nat) (hk : k < 8) :
    Calls Try.prog 45 #[.pointer (some ⟨D, 0, none⟩), .int .i64 k] W fun e W' => ∃ g, e = .returned (.tuple #[.slice (some ⟨g, 0, none⟩) (p.f k).1.length (p.f k).1.length, .int .i64 0]) ∧ DX w W' D p ((g, bc (p.f k).1) :: xs) ks := by
  obtain ⟨d, gs, HK, hV, hks⟩ := h
  obtain ⟨hF, hs1, hs2, hs3⟩ := hV.file k hk
  refine (read_k d D k hk (p.f k).1 (by omega) (kr_head xs HK) (fc_mono hF (fun x hx => List.mem_append_right _ hx))).mono ?_
  rintro e w' ⟨g, rfl, H⟩
  exact ⟨g, rfl, d, gs, kr_permA (kr_swap H) (by
    have h1 : (xs ++ (D, d.l) :: gs).Perm ((D, d.l) :: (xs ++ gs)) := List.perm_middle
    exact (List.Perm.cons _ h1).trans (List.Perm.swap _ _ _)), hV, hks⟩
end
/-- A new disk. -/
theorem dx_disk {w W : World} {rs : List (Nat × List Value)} (HK : KR w rs W) : Calls Try.prog 23 #[] W fun e W' => ∃ D, e = .returned (.pointer (some ⟨D, 0, none⟩)) ∧ DX w W' D pnew rs [] := by
  refine (new_k HK).mono ?_
  rintro e w' ⟨D, rfl, H⟩
  exact ⟨D, rfl, dk0, [], kr_permA H (by
    have h1 : (rs ++ [(D, dk0.l)]).Perm ((D, dk0.l) :: (rs ++ [])) := List.perm_middle
    rwa [List.append_nil] at h1), vw_new _, fun x hx => by simp at hx⟩
end Go.Proofs.Ytaonaifnaecpiaa.Own
