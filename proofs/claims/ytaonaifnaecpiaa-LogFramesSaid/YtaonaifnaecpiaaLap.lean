/- What dayshift/log's Append does with a log in memory. No conditions beside those in each theorem. -/
import Derived.Test.YtaonaifnaecpiaaWr
namespace Go.Proofs.Ytaonaifnaecpiaa.Own
open Go.RowKit
set_option linter.unusedSimpArgs false
set_option linter.unusedVariables false
def lap1 (p : PD) (b : List Int) : PD × Int := if pappE p 0 b = 0 then (psyncD (pappD p 0 b) 0, pchE (pappD p 0 b) [0]) else (pappD p 0 b, pappE p 0 b)
/-- Append: the answer, the disk, the number that comes, how many, whether it is bad. -/
def lapR (p : PD) (next many : Nat) (bad : Bool) (rec : List Int) : Int × PD × Nat × Nat × Bool :=
  if bad = true then (5, p, next, many, bad) else if 60000 < rec.length then (3, p, next, many, bad)
  else if (lap1 p (frameB next rec)).2 = 0 then (0, (lap1 p (frameB next rec)).1, (next + 1) % 18446744073709551616, many + 1, false) else ((lap1 p (frameB next rec)).2, (lap1 p (frameB next rec)).1, next, many, true)
theorem frame_big {w : World} (q : Nat) (n : Nat) (h2 : 60000 < n) (sp : Option Addr) (cp : Nat) :
    Calls Try.prog 11 #[.int .u64 (q : Int), .slice sp n cp] w fun e W' => e = .returned (.tuple #[.slice none 0 0, .int .i64 3]) ∧ w = W' := by
  have h3 : (60000 : Int) < (n : Int) := by omega
  clear h2
  go_enter Try.func11, Try.ntmps11
  go_wp2
  go_ret2
  exact ⟨rfl, rfl⟩
/-- Frame under a disk kept in sight. -/
theorem dx_frame {ks : List (Nat × List Value)} {w W : World} {D : Nat} {p : PD} {xs : List (Nat × List Value)} (h : DX w W D p xs ks) (q : Nat) (hq : q < 18446744073709551616) (bs : List Int) (n : Nat) (hn : Hid (bs.length = n)) (h2 : n ≤ 60000) (hb : isB bs) (sp : Option Addr) (cp : Nat) (hS : SrcV W sp (bcl bs)) :
    Calls Try.prog 11 #[.int .u64 (q : Int), .slice sp n cp] W fun e W' => ∃ g, e = .returned (.tuple #[.slice (some ⟨g, 0, none⟩) (16 + n) (16 + n), .int .i64 0]) ∧ DX w W' D p ((g, bcl (frameB q bs)) :: xs) ks := by
  refine (frame_k q hq bs n hn h2 hb sp cp hS).mono ?_
  rintro e w' ⟨g, rfl, h3, h4, h5⟩
  exact ⟨g, rfl, dx_join (l := [(g, bcl (frameB q bs))]) h (blk_kr (kr_call (kr_refl W) h4) h5 h3 (by simp))⟩
theorem src_row {w W : World} {rs : List (Nat × List Value)} {g : Nat} {bs : List Int} (HK : KR w ((g, bcl bs) :: rs) W) : Src W (some ⟨g, 0, none⟩) bs := fun hl => by
  have := srcV_row (cs := bcl bs) (m := (bcl bs).length) HK (List.mem_cons_self) (List.take_of_length_le (Nat.le_refl _))
  exact this (by rw [bcl_len]; exact hl)
set_option maxRecDepth 100000 in
theorem lappend_k {ks : List (Nat × List Value)} {w W : World} {D G : Nat} {p : PD} {xs : List (Nat × List Value)} (next many : Nat) (bad : Bool) (h : DX w W D p ((G, lgc D next many bad) :: xs) ks) (hnext : next < 18446744073709551616) (hmany : many ≤ 1000000000) (bs : List Int) (n : Nat) (hn : Hid (bs.length = n)) (hb : isB bs) (sp : Option Addr) (cp : Nat) (hS : SrcV W sp (bcl bs)) :
    Calls Try.prog 25 #[.pointer (some ⟨G, 0, none⟩), .slice sp n cp] W fun e W' => e = .returned (.int .i64 (lapR p next many bad bs).1) ∧ DX w W' D (lapR p next many bad bs).2.1 ((G, lgc D (lapR p next many bad bs).2.2.1 (lapR p next many bad bs).2.2.2.1 (lapR p next many bad bs).2.2.2.2) :: xs) ks := by
  have hm := lmay_k next many bad (dx_kr h)
  have k1 := kr_cell (dx_kr h) 0 rfl 1 _ rfl
  have k0 := kr_cell (dx_kr h) 0 rfl 0 _ rfl
  unfold lapR
  cases bad with
  | true =>
    rw [if_pos rfl]
    have H : Hid (DX w W D p ((G, lgc D next many true) :: xs) ks) := h
    clear h hS k0 k1
    go_enter Try.func25, Try.ntmps25
    go_wp2_with (go_at_call 47; refine hm.mono ?_; rintro e w1 ⟨rfl, rfl⟩)
    go_ret
    exact ⟨rfl, H.out⟩
  | false =>
    rw [if_neg (by simp)]
    by_cases hbig : 60000 < bs.length
    · rw [if_pos hbig]
      have H : Hid (DX w W D p ((G, lgc D next many false) :: xs) ks) := h
      have hf := fun W => frame_big (w := W) next n (by rw [← hn.out]; exact hbig) sp cp
      clear h hS k0 hnext hmany hbig
      go_enter Try.func25, Try.ntmps25
      go_wp2_with (first | (go_at_call 47; refine hm.mono ?_; rintro e w1 ⟨rfl, rfl⟩) | (go_at_call 11; refine (hf _).mono ?_; rintro e w2 ⟨rfl, rfl⟩))
      go_ret
      exact ⟨rfl, H.out⟩
    · rw [if_neg hbig]
      have hf := dx_frame h next hnext bs n hn (by rw [← hn.out]; omega) hb sp cp hS
      have hni : (next : Int) < 18446744073709551616 := by omega
      have HN : Hid (next < 18446744073709551616 ∧ many ≤ 1000000000) := ⟨hnext, hmany⟩
      have hmi : (many : Int) ≤ 1000000000 := by omega
      unfold lap1
      have c1 := fun W1 g (H1 : DX w W1 D p ((g, bcl (frameB next bs)) :: (G, lgc D next many false) :: xs) ks) => dx_append H1 0 (frameB next bs) (16 + n) (by rw [frameB_len, hn.out]) (some ⟨g, 0, none⟩) (16 + n) (fun W2 H2 => src_row H2)
      have c2 := fun W1 g (H1 : DX w W1 D (pappD p 0 (frameB next bs)) ((g, bcl (frameB next bs)) :: (G, lgc D next many false) :: xs) ks) => dx_sync H1 0
      clear h hS hnext hmany hbig
      generalize psyncD (pappD p 0 (frameB next bs)) 0 = p2 at *
      generalize pchE (pappD p 0 (frameB next bs)) [0] = e2 at *
      generalize pappD p 0 (frameB next bs) = p1 at *
      generalize pappE p 0 (frameB next bs) = e1 at *
      generalize frameB next bs = fb at *
      by_cases h1 : e1 = 0
      · subst h1
        rw [if_pos rfl]
        by_cases h2 : e2 = 0
        · subst h2
          rw [if_pos rfl]
          go_enter Try.func25, Try.ntmps25
          go_wp2_with (first | (go_at_call 47; refine hm.mono ?_; rintro e w1 ⟨rfl, rfl⟩) | (go_at_call 11; refine hf.mono ?_; rintro e w2 ⟨g, rfl, H2⟩; have k2 := kr_cell (dx_kr H2) 1 rfl 0 _ rfl) | (go_at_call 37; refine (c1 _ _ H2).mono ?_; rintro e w3 ⟨rfl, H3⟩; have k4 := kr_cell (dx_kr H3) 1 rfl 0 _ rfl) | (go_at_call 48; refine (c2 _ _ H3).mono ?_; rintro e w5 ⟨rfl, H5⟩; have H4 := dx_sub H5 (List.sublist_cons_self _ _); clear H2 H3 H5 k2 k4; have k3 := kr_cell (dx_kr H4) 0 rfl 3 _ rfl; have f3 := kr_frozen (dx_kr H4) 0 rfl 3 (by show 3 < 4; omega); have k5 := kr_cell (dx_kr H4) 0 rfl 1 _ rfl; have f5 := kr_frozen (dx_kr H4) 0 rfl 1 (by show 1 < 4; omega); have k6 := kr_cell (dx_kr H4) 0 rfl 2 _ rfl; have f6 := kr_frozen (dx_kr H4) 0 rfl 2 (by show 2 < 4; omega)))
          go_ret
          have e1 : IntKind.u64.wrap ((next : Int) + 1) = (((next + 1) % 18446744073709551616 : Nat) : Int) := by rw [wrap_u64']; omega
          have e2 : ((many : Int) + 1) = ((many + 1 : Nat) : Int) := by omega
          refine ⟨rfl, ?_⟩
          have H5 := dx_fset H4 3 (by show 3 < 4; omega) (.bool false) _ rfl
          have H6 := dx_fset H5 1 (by show 1 < 4; omega) (.int .u64 (((next + 1) % 18446744073709551616 : Nat) : Int)) _ rfl
          have H7 := dx_fset H6 2 (by show 2 < 4; omega) (.int .i64 ((many + 1 : Nat) : Int)) _ rfl
          show DX w (((w5.setCell _ _).setCell _ (.int .u64 (IntKind.u64.wrap ((next : Int) + 1)))).setCell _ (.int .i64 ((many : Int) + 1))) D p2 _ ks
          rw [e1, e2]
          exact H7
        · rw [if_neg h2]
          have hb2 : (e2 == 0) = false := by simpa using h2
          have hb3 : (e2 != 0) = true := by simpa using h2
          go_enter Try.func25, Try.ntmps25
          go_wp2_with (first | (go_at_call 47; refine hm.mono ?_; rintro e w1 ⟨rfl, rfl⟩) | (go_at_call 11; refine hf.mono ?_; rintro e w2 ⟨g, rfl, H2⟩; have k2 := kr_cell (dx_kr H2) 1 rfl 0 _ rfl) | (go_at_call 37; refine (c1 _ _ H2).mono ?_; rintro e w3 ⟨rfl, H3⟩; have k4 := kr_cell (dx_kr H3) 1 rfl 0 _ rfl) | (go_at_call 48; refine (c2 _ _ H3).mono ?_; rintro e w5 ⟨rfl, H5⟩; have H4 := dx_sub H5 (List.sublist_cons_self _ _); clear H2 H3 H5 k2 k4; have k3 := kr_cell (dx_kr H4) 0 rfl 3 _ rfl; have f3 := kr_frozen (dx_kr H4) 0 rfl 3 (by show 3 < 4; omega)))
          go_ret
          exact ⟨rfl, dx_fset H4 3 (by show 3 < 4; omega) _ _ rfl⟩
      · rw [if_neg h1, if_neg h1]
        have hb1 : (e1 == 0) = false := by simpa using h1
        have hb3 : (e1 != 0) = true := by simpa using h1
        go_enter Try.func25, Try.ntmps25
        go_wp2_with (first | (go_at_call 47; refine hm.mono ?_; rintro e w1 ⟨rfl, rfl⟩) | (go_at_call 11; refine hf.mono ?_; rintro e w2 ⟨g, rfl, H2⟩; have k2 := kr_cell (dx_kr H2) 1 rfl 0 _ rfl) | (go_at_call 37; refine (c1 _ _ H2).mono ?_; rintro e w3 ⟨rfl, H3⟩; have H4 := dx_sub H3 (List.sublist_cons_self _ _); clear H2 H3 k2; have k3 := kr_cell (dx_kr H4) 0 rfl 3 _ rfl; have f3 := kr_frozen (dx_kr H4) 0 rfl 3 (by show 3 < 4; omega)))
        go_ret
        exact ⟨rfl, dx_fset H4 3 (by show 3 < 4; omega) _ _ rfl⟩
end Go.Proofs.Ytaonaifnaecpiaa.Own
