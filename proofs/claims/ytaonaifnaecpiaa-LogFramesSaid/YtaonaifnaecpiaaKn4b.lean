/- The fixed calls of dayshiftlaw04: they come out as they must. No conditions beside those in each theorem. -/
import Derived.Test.YtaonaifnaecpiaaKn4
namespace Go.Proofs.Ytaonaifnaecpiaa.Own
open Go.RowKit Go.Proofs.YtaonaifnaecpiaaW.PrintWords
set_option linter.unusedSimpArgs false
set_option linter.unusedVariables false
theorem dx_rot {ks : List (Nat × List Value)} {w W : World} {D : Nat} {p : PD} {l xs : List (Nat × List Value)} {x : Nat × List Value} (h : DX w W D p (l ++ x :: xs) ks) : DX w W D p (x :: (l ++ xs)) ks := dx_perm h List.perm_middle.symm
theorem kb_crash {ks : List (Nat × List Value)} {w W : World} {D : Nat} {p : PD} {xs : List (Nat × List Value)} (h : DX w W D p xs ks) :
    Calls Try.prog 28 #[.pointer (some ⟨D, 0, none⟩), .slice none 0 0] W fun e W' => e = .returned (.tuple #[]) ∧ DX w W' D (pcrash p []) xs ks :=
  dx_crash h [] 0 rfl none 0 (fun W1 _ j hj => by omega)
theorem kb_sum {w : World} (t : TypeId) (mk : Nat × Nat) (cp : Nat) :
    Calls Try.prog 16 #[.slice (some ⟨w.heap.size, 0, none⟩) 9 cp] (w.alloc (.cells #[.int .u8 49, .int .u8 50, .int .u8 51, .int .u8 52, .int .u8 53, .int .u8 54, .int .u8 55, .int .u8 56, .int .u8 57] t mk)) fun e W' => e = .returned (.int .u32 3421780262) ∧ Below w.heap.size w W' := by
  have hk : KR w [] (w.alloc (.cells #[.int .u8 49, .int .u8 50, .int .u8 51, .int .u8 52, .int .u8 53, .int .u8 54, .int .u8 55, .int .u8 56, .int .u8 57] t mk)) := kr_alloc (kr_refl w) _
  have := sum_k (kr_refl (w.alloc (.cells #[.int .u8 49, .int .u8 50, .int .u8 51, .int .u8 52, .int .u8 53, .int .u8 54, .int .u8 55, .int .u8 56, .int .u8 57] t mk))) [49, 50, 51, 52, 53, 54, 55, 56, 57] 9 rfl (isB_dec (by kernel_rfl)) (by omega) (some ⟨w.heap.size, 0, none⟩) cp (fun W1 H => srcV_keep (fun _ => ⟨_, rfl, fun j v hv => by rw [Addr.add_mid, World.cell?_alloc_mark]; simpa using hv⟩) H.below)
  rw [kn_crc] at this
  refine this.mono ?_
  rintro e w' ⟨rfl, H⟩
  exact ⟨rfl, bw_step hk.below H.below⟩
theorem rv_cell {w W : World} {rows : List (Nat × List Value)} {v : Value} {recs : List (List Int)} (HK : KR w rows W) (h : RV rows v recs) (j : Nat) (r : List Int) (hr : recs[j]? = some r) : ∃ b off cap s c, v = .slice (some ⟨b, off, none⟩) recs.length cap ∧ recs.length ≤ cap ∧ W.cell? ⟨b, off + j, none⟩ = some (.slice s r.length c) ∧ SrcV W s (bcl r) := by
  obtain ⟨sp, cap, h1, h2, h3⟩ := h
  have hj := (List.getElem?_eq_some_iff.1 hr).1
  obtain ⟨b, off, l, rfl, h5, h6⟩ := h3 (by omega)
  obtain ⟨u, h7, h8⟩ := h6 j r hr
  obtain ⟨sj, cj, he, hS⟩ := fc_srcL HK h8
  have := kr_mem HK h5 (off + j) _ h7
  rw [Nat.zero_add, he] at this
  exact ⟨b, off, cap, sj, cj, h1, h2, this, hS⟩
theorem rv_cell2 {w W : World} {rows : List (Nat × List Value)} {b off n cap : Nat} {recs : List (List Int)} (HK : KR w rows W) (h : RV rows (.slice (some ⟨b, off, none⟩) n cap) recs) (j : Nat) (r : List Int) (hr : recs[j]? = some r) : ∃ s c, W.cell? ⟨b, off + j, none⟩ = some (.slice s r.length c) ∧ SrcV W s (bcl r) := by
  obtain ⟨b', off', cap', s, c, h1, _, h2, h3⟩ := rv_cell HK h j r hr
  injection h1 with e1 _ _
  injection e1 with e1
  injection e1 with e1 e2 _
  subst e1 e2
  exact ⟨s, c, h2, h3⟩
theorem fc_srcV2 {w W : World} {rs : List (Nat × List Value)} {s : Option Addr} {n c : Nat} {bs : List Int} (HK : KR w rs W) (h : FC rs (.slice s n c) bs) : SrcV W s (bcl bs) := by
  obtain ⟨s', c', h1, h2⟩ := fc_srcL HK h
  injection h1 with e1 _ _
  subst e1
  exact h2
set_option maxRecDepth 100000 in
set_option maxHeartbeats 2000000 in
theorem known_k {w W : World} {rs : List (Nat × List Value)} (HK : KR w rs W) : Calls Try.prog 19 #[] W fun e W' => e = .returned (.bool true) ∧ KR w rs W' := by
  have kc := fun (w : World) (C : Array Value) (n c : Nat) => Lib.run_convert_bytes_const (P := Try.prog) w 23 5 C n c Try.underlying23 Try.underlying5
  go_enter Try.func19, Try.ntmps19
  go_wp2_with (go_at_call 23; refine (dx_disk HK).mono ?_; rintro e w1 ⟨D, rfl, H1⟩; clear HK)
  go_wp2_with (go_at_call 24; refine (open_k0 H1).mono ?_; rintro e w2 ⟨G, vs, vr, l, rfl, H2⟩; clear H1)
  go_wp2_with (go_at_call 25; refine (kb_app H2 (by decide) (by decide) (by decide) _ _ _ c_app1 _ _ _).mono ?_; rintro e w3 ⟨rfl, H3⟩; clear H2)
  go_wp2_with (go_at_call 25; refine (kb_app H3 (by decide) (by decide) (by decide) _ _ _ c_app2 _ _ _).mono ?_; rintro e w4 ⟨rfl, H4⟩; clear H3)
  go_wp2_with (go_at_call 28; refine (kb_crash H4).mono ?_; rintro e w5 ⟨rfl, H5⟩; clear H4; have H5 : DX w w5 D kp3 _ _ := H5)
  go_wp2_with (go_at_call 24; refine (open_k1 H5).mono ?_; rintro e w6 ⟨G2, vs2, vr2, l2, rfl, H6, R6⟩; clear H5)
  go_wp2_with (go_at_call 26; refine (kb_ins H6 (by decide) (by decide) (by decide) _ _ _ c_ins _ _ _).mono ?_; rintro e w7 ⟨rfl, H7⟩; clear H6)
  go_wp2_with (go_at_call 24; refine (open_k2 H7).mono ?_; rintro e w8 ⟨G3, vs3, vr3, l3, p3, rfl, H8, F8, R8⟩; clear H7)
  obtain ⟨s3, c3, rfl, _, _⟩ := R8
  obtain ⟨s4, c4, rfl, _⟩ := fc_form F8
  obtain ⟨b2, off2, cap2, _, _, rfl, hcap, _, _⟩ := rv_cell (dx_kr H8) (rv_mono (rs' := (G3, lgc D 3 0 false) :: (l3 ++ (G2, lgc D 3 0 false) :: (l2 ++ (G, lgc D 3 2 false) :: (l ++ rs)))) R6 (fun x hx => by simp [hx])) 1 [98] rfl
  have hc2 : 2 ≤ cap2 := hcap
  go_wp2_with (first | (go_at_call 16; refine (kb_sum (w := w8) _ _ _).mono ?_; rintro e w9 ⟨rfl, hB9⟩; have H9 := dx_call H8 hB9; clear H8 hB9; have R9 := rv_mono (rs' := (G3, lgc D 3 0 false) :: (l3 ++ (G2, lgc D 3 0 false) :: (l2 ++ (G, lgc D 3 2 false) :: (l ++ rs)))) R6 (fun x hx => by simp [hx]); have F9 := fc_monoL (rs' := (G3, lgc D 3 0 false) :: (l3 ++ (G2, lgc D 3 0 false) :: (l2 ++ (G, lgc D 3 2 false) :: (l ++ rs)))) F8 (fun x hx => by simp [hx]); obtain ⟨s5, c5, k5, S5⟩ := rv_cell2 (dx_kr H9) R9 1 [98] rfl; have q5 := conv_cells 1 c5 rfl S5; have q6 := conv_cells 1 c4 rfl (fc_srcV2 (dx_kr H9) F9); rw [show strOfNums [98] = ⟨#[98]⟩ from rfl] at q5; rw [show strOfNums [115] = ⟨#[115]⟩ from rfl] at q6; have k5 : w9.cell? ⟨b2, off2 + 1, none⟩ = some (.slice s5 1 c5) := k5; clear R9 F9 S5) | (go_at_call 29; refine (next_k 3 0 false (dx_kr H9)).mono ?_; rintro e w10 ⟨rfl, rfl⟩))
  refine bodyPost_ret (v := .bool true) (by simp [results, Try.results19, go_sem]) rfl ⟨rfl, kr_sub (dx_kr H9) ?_⟩
  exact (((((List.sublist_append_right l rs).trans (List.sublist_cons_self _ _)).trans (List.sublist_append_right l2 _)).trans (List.sublist_cons_self _ _)).trans (List.sublist_append_right l3 _)).trans (List.sublist_cons_self _ _)
end Go.Proofs.Ytaonaifnaecpiaa.Own
