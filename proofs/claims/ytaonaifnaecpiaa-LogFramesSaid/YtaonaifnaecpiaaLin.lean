/- What dayshift/log's Install does with a log in memory (written by gen_lin.py). No conditions beside those in each theorem. -/
import Derived.Test.YtaonaifnaecpiaaLap
namespace Go.Proofs.Ytaonaifnaecpiaa.Own
open Go.RowKit
set_option linter.unusedSimpArgs false
set_option linter.unusedVariables false
def lin1 (p : PD) (b : List Int) : PD × Int := if (pwr p 3 1 b).2 = 0 then (pclrD (pwr p 3 1 b).1 0, pchE (pwr p 3 1 b).1 [0]) else (pwr p 3 1 b)
def prev (next : Nat) : Nat := (next + 18446744073709551615) % 18446744073709551616
theorem prev_lt (n : Nat) : prev n < 18446744073709551616 := by unfold prev; omega
theorem prev_wrap (n : Nat) (h : n < 18446744073709551616) : IntKind.u64.wrap ((n : Int) - 1) = ((prev n : Nat) : Int) := by unfold prev; rw [wrap_u64']; omega
/-- Install: the answer, the disk, the number that comes, how many, whether it is bad. -/
def linR (p : PD) (next many : Nat) (bad : Bool) (rec : List Int) : Int × PD × Nat × Nat × Bool :=
  if bad = true then (5, p, next, many, bad) else if 60000 < rec.length then (3, p, next, many, bad)
  else if (lin1 p (frameB (prev next) rec)).2 = 0 then (0, (lin1 p (frameB (prev next) rec)).1, next, 0, false) else ((lin1 p (frameB (prev next) rec)).2, (lin1 p (frameB (prev next) rec)).1, next, many, true)
set_option maxRecDepth 100000 in
theorem linstall_k {ks : List (Nat × List Value)} {w W : World} {D G : Nat} {p : PD} {xs : List (Nat × List Value)} (next many : Nat) (bad : Bool) (h : DX w W D p ((G, lgc D next many bad) :: xs) ks) (hnext : next < 18446744073709551616) (hmany : many ≤ 1000000000) (bs : List Int) (n : Nat) (hn : Hid (bs.length = n)) (hb : isB bs) (sp : Option Addr) (cp : Nat) (hS : SrcV W sp (bcl bs)) :
    Calls Try.prog 26 #[.pointer (some ⟨G, 0, none⟩), .slice sp n cp] W fun e W' => e = .returned (.int .i64 (linR p next many bad bs).1) ∧ DX w W' D (linR p next many bad bs).2.1 ((G, lgc D (linR p next many bad bs).2.2.1 (linR p next many bad bs).2.2.2.1 (linR p next many bad bs).2.2.2.2) :: xs) ks := by
  have hm := lmay_k next many bad (dx_kr h)
  have k1 := kr_cell (dx_kr h) 0 rfl 1 _ rfl
  have k0 := kr_cell (dx_kr h) 0 rfl 0 _ rfl
  unfold linR
  cases bad with
  | true =>
    rw [if_pos rfl]
    have H : Hid (DX w W D p ((G, lgc D next many true) :: xs) ks) := h
    clear h hS k0 k1
    go_enter Try.func26, Try.ntmps26
    go_wp2_with (go_at_call 47; refine hm.mono ?_; rintro e w1 ⟨rfl, rfl⟩)
    go_ret
    exact ⟨rfl, H.out⟩
  | false =>
    rw [if_neg (by simp)]
    by_cases hbig : 60000 < bs.length
    · rw [if_pos hbig]
      have H : Hid (DX w W D p ((G, lgc D next many false) :: xs) ks) := h
      have hpw := prev_wrap next hnext
      have hf := fun W => frame_big (w := W) (prev next) n (by rw [← hn.out]; exact hbig) sp cp
      generalize prev next = nx at *
      clear h hS k0 hnext hmany hbig
      go_enter Try.func26, Try.ntmps26
      go_wp2_with (first | (go_at_call 47; refine hm.mono ?_; rintro e w1 ⟨rfl, rfl⟩) | (go_at_call 11; refine (hf _).mono ?_; rintro e w2 ⟨rfl, rfl⟩))
      go_ret
      exact ⟨rfl, H.out⟩
    · rw [if_neg hbig]
      have hf := dx_frame h (prev next) (prev_lt next) bs n hn (by rw [← hn.out]; omega) hb sp cp hS
      have hpw := prev_wrap next hnext
      have hni : (next : Int) < 18446744073709551616 := by omega
      unfold lin1
      have c1 := fun W1 g (H1 : DX w W1 D p ((g, bcl (frameB (prev next) bs)) :: (G, lgc D next many false) :: xs) ks) => write_k H1 3 1 (frameB (prev next) bs) (16 + n) (by rw [frameB_len, hn.out]) (some ⟨g, 0, none⟩) (16 + n) (fun W2 H2 => src_row H2)
      have c2 := fun W1 g (H1 : DX w W1 D (pwr p 3 1 (frameB (prev next) bs)).1 ((g, bcl (frameB (prev next) bs)) :: (G, lgc D next many false) :: xs) ks) => dx_clear H1 0
      clear h hS hnext hmany hbig
      generalize prev next = nx at *
      generalize pwr p 3 1 (frameB nx bs) = pe at *
      obtain ⟨p1, e1⟩ := pe
      simp only at *
      generalize pclrD p1 0 = p2 at *
      generalize pchE p1 [0] = e2 at *
      generalize frameB nx bs = fb at *
      by_cases h1 : e1 = 0
      · subst h1
        rw [if_pos rfl]
        by_cases h2 : e2 = 0
        · subst h2
          rw [if_pos rfl]
          go_enter Try.func26, Try.ntmps26
          go_wp2_with (first | (go_at_call 47; refine hm.mono ?_; rintro e w1 ⟨rfl, rfl⟩) | (go_at_call 11; refine hf.mono ?_; rintro e w2 ⟨g, rfl, H2⟩; have k2 := kr_cell (dx_kr H2) 1 rfl 0 _ rfl) | (go_at_call 46; refine (c1 _ _ H2).mono ?_; rintro e w3 ⟨rfl, H3⟩; have k4 := kr_cell (dx_kr H3) 1 rfl 0 _ rfl) | (go_at_call 49; refine (c2 _ _ H3).mono ?_; rintro e w5 ⟨rfl, H5⟩; have H4 := dx_sub H5 (List.sublist_cons_self _ _); clear H2 H3 H5 k2 k4; have k3 := kr_cell (dx_kr H4) 0 rfl 3 _ rfl; have f3 := kr_frozen (dx_kr H4) 0 rfl 3 (by show 3 < 4; omega); have k5 := kr_cell (dx_kr H4) 0 rfl 1 _ rfl; have f5 := kr_frozen (dx_kr H4) 0 rfl 1 (by show 1 < 4; omega); have k6 := kr_cell (dx_kr H4) 0 rfl 2 _ rfl; have f6 := kr_frozen (dx_kr H4) 0 rfl 2 (by show 2 < 4; omega)))
          go_ret
          have H5 := dx_fset H4 3 (by show 3 < 4; omega) (.bool false) _ rfl
          have H6 := dx_fset H5 2 (by show 2 < 4; omega) (.int .i64 0) _ rfl
          exact ⟨rfl, H6⟩
        · rw [if_neg h2]
          have hb2 : (e2 == 0) = false := by simpa using h2
          have hb3 : (e2 != 0) = true := by simpa using h2
          go_enter Try.func26, Try.ntmps26
          go_wp2_with (first | (go_at_call 47; refine hm.mono ?_; rintro e w1 ⟨rfl, rfl⟩) | (go_at_call 11; refine hf.mono ?_; rintro e w2 ⟨g, rfl, H2⟩; have k2 := kr_cell (dx_kr H2) 1 rfl 0 _ rfl) | (go_at_call 46; refine (c1 _ _ H2).mono ?_; rintro e w3 ⟨rfl, H3⟩; have k4 := kr_cell (dx_kr H3) 1 rfl 0 _ rfl) | (go_at_call 49; refine (c2 _ _ H3).mono ?_; rintro e w5 ⟨rfl, H5⟩; have H4 := dx_sub H5 (List.sublist_cons_self _ _); clear H2 H3 H5 k2 k4; have k3 := kr_cell (dx_kr H4) 0 rfl 3 _ rfl; have f3 := kr_frozen (dx_kr H4) 0 rfl 3 (by show 3 < 4; omega)))
          go_ret
          exact ⟨rfl, dx_fset H4 3 (by show 3 < 4; omega) _ _ rfl⟩
      · rw [if_neg h1, if_neg h1]
        have hb1 : (e1 == 0) = false := by simpa using h1
        have hb3 : (e1 != 0) = true := by simpa using h1
        go_enter Try.func26, Try.ntmps26
        go_wp2_with (first | (go_at_call 47; refine hm.mono ?_; rintro e w1 ⟨rfl, rfl⟩) | (go_at_call 11; refine hf.mono ?_; rintro e w2 ⟨g, rfl, H2⟩; have k2 := kr_cell (dx_kr H2) 1 rfl 0 _ rfl) | (go_at_call 46; refine (c1 _ _ H2).mono ?_; rintro e w3 ⟨rfl, H3⟩; have H4 := dx_sub H3 (List.sublist_cons_self _ _); clear H2 H3 k2; have k3 := kr_cell (dx_kr H4) 0 rfl 3 _ rfl; have f3 := kr_frozen (dx_kr H4) 0 rfl 3 (by show 3 < 4; omega)))
        go_ret
        exact ⟨rfl, dx_fset H4 3 (by show 3 < 4; omega) _ _ rfl⟩
end Go.Proofs.Ytaonaifnaecpiaa.Own
