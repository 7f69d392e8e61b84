/- A disk in memory and the plain disk that it is, the files' rows apart from other rows. No conditions beside those in each theorem. -/
import Derived.Test.YtaonaifnaecpiaaRd6
namespace Go.Proofs.Ytaonaifnaecpiaa.Own
open Go.RowKit
set_option linter.unusedSimpArgs false
theorem dg_sync {w W : World} {D : Nat} {p : PD} {d : Dk} {rs gs : List (Nat × List Value)} (HK : KR w ((D, d.l) :: rs) W) (hV : VW gs d p) (f : Int) :
    Calls Try.prog 48 #[.pointer (some ⟨D, 0, none⟩), .int .i64 f] W fun e W' => e = .returned (.int .i64 (pchE p [f])) ∧ ∃ d', KR w ((D, d'.l) :: rs) W' ∧ VW gs d' (psyncD p f) := by
  refine (sync_k d D f (vw_files hV) (vw_hl hV) HK).mono ?_
  rintro e w' ⟨rfl, H⟩
  refine ⟨by rw [vw_chE hV], _, H, vw_chD hV _ (fun hm => ?_)⟩
  obtain ⟨hk, hft, hd⟩ := pmay_in hm
  obtain ⟨hF, hs1, hs2, hs3⟩ := hV.file f.toNat hk
  obtain ⟨sx, cx, h1, _⟩ := fc_slice hF
  rw [h1]
  rw [h1] at hF
  have := vw_put (vw_cnt hV) f.toNat (d.f f.toNat).1 ((p.f f.toNat).1.length : Nat) ((p.f f.toNat).1, (p.f f.toNat).1.length) (by rw [h1]; exact hF) rfl (Nat.le_refl _) hs3
  have e2 : putF (cnt d) f.toNat (d.f f.toNat).1 ((p.f f.toNat).1.length : Nat) = putS (cnt d) f.toNat ((p.f f.toNat).1.length : Nat) := by unfold putF putS; rw [cnt_f]
  rw [e2] at this
  exact this
theorem dg_clear {w W : World} {D : Nat} {p : PD} {d : Dk} {rs gs : List (Nat × List Value)} (HK : KR w ((D, d.l) :: rs) W) (hV : VW gs d p) (f : Int) :
    Calls Try.prog 49 #[.pointer (some ⟨D, 0, none⟩), .int .i64 f] W fun e W' => e = .returned (.int .i64 (pchE p [f])) ∧ ∃ d', KR w ((D, d'.l) :: rs) W' ∧ VW gs d' (pclrD p f) := by
  refine (clear_k d D f (vw_hl hV) HK).mono ?_
  rintro e w' ⟨rfl, H⟩
  exact ⟨by rw [vw_chE hV], _, H, vw_chD hV _ (fun hm => vw_put (vw_cnt hV) _ _ _ ([], 0) (.inl ⟨rfl, rfl⟩) rfl (by simp) (by simp))⟩
theorem dg_rename {w W : World} {D : Nat} {p : PD} {d : Dk} {rs gs : List (Nat × List Value)} (HK : KR w ((D, d.l) :: rs) W) (hV : VW gs d p) (f t : Int) :
    Calls Try.prog 65 #[.pointer (some ⟨D, 0, none⟩), .int .i64 f, .int .i64 t] W fun e W' => e = .returned (.int .i64 (pchE p [f, t])) ∧ ∃ d', KR w ((D, d'.l) :: rs) W' ∧ VW gs d' (prenD p f t) := by
  refine (rename_k d D f t (vw_files hV) (vw_hl hV) HK).mono ?_
  rintro e w' ⟨rfl, H⟩
  refine ⟨by rw [vw_chE hV], _, H, vw_chD hV _ (fun hm => ?_)⟩
  obtain ⟨hF, hs1, hs2, hs3⟩ := hV.file f.toNat (pmay_in2 hm).1
  exact vw_put (vw_put (vw_cnt hV) _ _ _ ([], 0) (.inl ⟨rfl, rfl⟩) rfl (by simp) (by simp)) _ _ _ _ hF hs1 hs2 hs3
theorem dg_fail {w W : World} {D : Nat} {p : PD} {d : Dk} {rs gs : List (Nat × List Value)} (HK : KR w ((D, d.l) :: rs) W) (hV : VW gs d p) (n : Int) (hn : n ≤ 9223372036854775807) :
    Calls Try.prog 27 #[.pointer (some ⟨D, 0, none⟩), .int .i64 n] W fun e W' => e = .returned (.tuple #[]) ∧ ∃ d', KR w ((D, d'.l) :: rs) W' ∧ VW gs d' (pfail p n) := by
  refine (fail_k d D n HK).mono ?_
  rintro e w' ⟨rfl, H⟩
  refine ⟨rfl, _, H, rfl, hV.dead, ?_, ?_, hV.file⟩
  · show 0 ≤ maxZ n
    by_cases h0 : n < 0
    · rw [maxZ_neg h0]; omega
    · rw [maxZ_pos h0]; omega
  · show maxZ n ≤ _
    by_cases h0 : n < 0
    · rw [maxZ_neg h0]; omega
    · rw [maxZ_pos h0]; omega
theorem dg_crash {w W : World} {D : Nat} {p : PD} {d : Dk} {rs gs : List (Nat × List Value)} (HK : KR w ((D, d.l) :: rs) W) (hV : VW gs d p) (keeps : List Int) (n : Nat) (hn : keeps.length = n) (co : Option Addr) (cap : Nat)
    (hkeep : ∀ (d' : Dk) (W1 : World), KR w ((D, d'.l) :: rs) W1 → ∀ j, j < n → ∃ A, co = some A ∧ W1.cell? (A.add j) = some (.int .i64 (keeps.getD j 0))) :
    Calls Try.prog 28 #[.pointer (some ⟨D, 0, none⟩), .slice co n cap] W fun e W' => e = .returned (.tuple #[]) ∧ ∃ d', KR w ((D, d'.l) :: rs) W' ∧ VW gs d' (pcrash p keeps) := by
  have hfile : ∀ i, i < 8 → ∃ sx cx, d.f i = (.slice sx (p.f i).1.length cx, (((p.f i).2 : Nat) : Int)) ∧ (p.f i).2 ≤ (p.f i).1.length ∧ (p.f i).1.length ≤ cx ∧ (p.f i).1.length ≤ 1048576 ∧ (sx = none → cx = 0) ∧ FC gs (.slice sx (p.f i).1.length cx) (p.f i).1 := fun i hi => by
    obtain ⟨hF, hs1, hs2, hs3⟩ := hV.file i hi
    obtain ⟨sx, cx, h1, h2, h3⟩ := fc_slice hF
    rw [h1] at hF
    exact ⟨sx, cx, Prod.ext h1 hs1, hs2, h2, hs3, h3, hF⟩
  refine (crash_k d D keeps n hn co cap (fun i hi => by
    obtain ⟨sx, cx, h1, h2, h3, h4, h5, _⟩ := hfile i hi
    exact ⟨sx, _, cx, _, h1, h2, h3, h4, h5⟩) HK hkeep).mono ?_
  rintro e w' ⟨rfl, H⟩
  refine ⟨rfl, _, H, rfl, rfl, by show (0 : Int) ≤ 0; omega, by show (0 : Int) ≤ _; omega, fun i hi => ?_⟩
  obtain ⟨sx, cx, h1, h2, h3, h4, h5, hF⟩ := hfile i hi
  have hle := crN_le (p.f i).2 (p.f i).1.length keeps[i]? h2
  have hf : (crD d keeps 8).f i = (.slice sx (crN (p.f i).2 (p.f i).1.length keeps[i]?) (crN (p.f i).2 (p.f i).1.length keeps[i]?), ((crN (p.f i).2 (p.f i).1.length keeps[i]? : Nat) : Int)) := by
    unfold crD
    dsimp only
    rw [if_pos hi, h1]
    simp [crF]
  show FC gs ((crD d keeps 8).f i).1 (pcrF (p.f i) keeps[i]?).1 ∧ ((crD d keeps 8).f i).2 = ((pcrF (p.f i) keeps[i]?).2 : Nat) ∧ (pcrF (p.f i) keeps[i]?).2 ≤ (pcrF (p.f i) keeps[i]?).1.length ∧ (pcrF (p.f i) keeps[i]?).1.length ≤ 1048576
  rw [hf]
  unfold pcrF
  refine ⟨fc_cut hF _ hle, rfl, ?_, ?_⟩
  · show _ ≤ (List.take _ _).length
    rw [List.length_take]; omega
  · show (List.take _ _).length ≤ _
    rw [List.length_take]; omega
theorem dg_append {w W : World} {D : Nat} {p : PD} {d : Dk} {rs gs : List (Nat × List Value)} (HK : KR w ((D, d.l) :: rs) W) (hV : VW gs d p) (hs : ∀ x ∈ gs, x ∈ rs) (f : Int) (ys : List Int) (n : Nat) (hn : ys.length = n) (sp : Option Addr) (cap : Nat) (hS : Src W sp ys) :
    Calls Try.prog 37 #[.pointer (some ⟨D, 0, none⟩), .int .i64 f, .slice sp n cap] W fun e W' => e = .returned (.int .i64 (pappE p f ys)) ∧ ∃ l d', KR w ((D, d'.l) :: (l ++ rs)) W' ∧ VW (l ++ gs) d' (pappD p f ys) := by
  subst hn
  unfold pappE pappD
  by_cases hm : pmay p [f] = 0
  · rw [if_pos hm, if_pos hm]
    obtain ⟨hk, hft, hd⟩ := pmay_in hm
    generalize hfk : f.toNat = k at hk hft ⊢
    subst hft
    obtain ⟨hF, hs1, hs2, hs3⟩ := hV.file k hk
    by_cases hfull : 1048576 < ys.length + (p.f k).1.length
    · rw [if_pos hfull, if_pos hfull]
      obtain ⟨sx, cx, h1, _⟩ := fc_slice hF
      refine (append_full d D k hk (p.f k).1.length ys.length hfull hs3 (by rw [hV.dead]; exact hd) HK sp cap sx cx h1).mono ?_
      rintro e w' ⟨rfl, H⟩
      exact ⟨rfl, [], d, H, hV⟩
    · rw [if_neg hfull, if_neg hfull]
      refine (append_ok d D k hk (p.f k).1 ys (by omega) (vw_hl hV) (by rw [hV.dead]; exact hd) HK (fc_mono hF hs) sp cap hS).mono ?_
      rintro e w' ⟨g, rfl, H⟩
      have hg : VW ((g, bc ((p.f k).1 ++ ys)) :: gs) (putA d k (.slice (some ⟨g, 0, none⟩) ((p.f k).1.length + ys.length) ((p.f k).1.length + ys.length))) (pgrow p k ys) := by
        have := vw_put (vw_mono hV (fun x hx => List.mem_cons_of_mem (g, bc ((p.f k).1 ++ ys)) hx)) k (.slice (some ⟨g, 0, none⟩) ((p.f k).1.length + ys.length) ((p.f k).1.length + ys.length)) (d.f k).2 ((p.f k).1 ++ ys, (p.f k).2)
          (.inr ⟨g, _, _, by rw [List.length_append], List.mem_cons_self, by rw [List.length_append]; omega, by rw [bc_len, List.length_append]; omega, by rw [← bc_len, List.take_length]⟩) hs1 (by rw [List.length_append]; omega) (by rw [List.length_append]; omega)
        exact this
      refine ⟨?_, [(g, bc ((p.f k).1 ++ ys))], _, H, vw_cnt hg⟩
      rw [vw_cntE hg, pcntE_grow]
  · rw [if_neg hm, if_neg hm]
    refine (append_no d D f (pmay p [f]) (vw_may hV _) hm HK _).mono ?_
    rintro e w' ⟨rfl, H⟩
    exact ⟨rfl, [], d, H, hV⟩
theorem dg_read {w W : World} {D : Nat} {p : PD} {d : Dk} {rs gs : List (Nat × List Value)} (HK : KR w ((D, d.l) :: rs) W) (hV : VW gs d p) (hs : ∀ x ∈ gs, x ∈ rs) (f : Int) :
    Calls Try.prog 45 #[.pointer (some ⟨D, 0, none⟩), .int .i64 f] W fun e W' => ∃ v l, e = .returned (.tuple #[v, .int .i64 (preadE f)]) ∧ FC l v (pread p f) ∧ KR w ((D, d.l) :: (l ++ rs)) W' := by
  unfold preadE pread
  by_cases ho : f < 0 ∨ 8 ≤ f
  · rw [if_pos ho, if_pos ho]
    refine (read_out d D f ho HK).mono ?_
    rintro e w' ⟨rfl, H⟩
    exact ⟨_, [], rfl, .inl ⟨rfl, rfl⟩, H⟩
  · rw [if_neg ho, if_neg ho]
    obtain ⟨k, rfl⟩ : ∃ k : Nat, f = k := ⟨f.toNat, by omega⟩
    have hk : k < 8 := by omega
    rw [Int.toNat_natCast]
    obtain ⟨hF, hs1, hs2, hs3⟩ := hV.file k hk
    refine (read_k d D k hk (p.f k).1 (by omega) HK (fc_mono hF hs)).mono ?_
    rintro e w' ⟨g, rfl, H⟩
    exact ⟨_, [(g, bc (p.f k).1)], rfl, .inr ⟨g, _, _, rfl, List.mem_cons_self, Nat.le_refl _, by rw [bc_len]; omega, by rw [← bc_len, List.take_length]⟩, kr_swap H⟩
theorem dg_safe {w W : World} {D : Nat} {p : PD} {d : Dk} {rs gs : List (Nat × List Value)} (HK : KR w ((D, d.l) :: rs) W) (hV : VW gs d p) (f : Int) :
    Calls Try.prog 59 #[.pointer (some ⟨D, 0, none⟩), .int .i64 f] W fun e W' => e = .returned (.int .i64 (psafe p f)) ∧ W = W' := by
  unfold psafe
  by_cases ho : f < 0 ∨ 8 ≤ f
  · rw [if_pos ho]
    exact safe_out D f ho W
  · rw [if_neg ho]
    obtain ⟨k, rfl⟩ : ∃ k : Nat, f = k := ⟨f.toNat, by omega⟩
    have hk : k < 8 := by omega
    rw [Int.toNat_natCast, ← (hV.file k hk).2.1]
    exact safe_k d D k hk HK
theorem dg_dead {w W : World} {D : Nat} {p : PD} {d : Dk} {rs gs : List (Nat × List Value)} (HK : KR w ((D, d.l) :: rs) W) (hV : VW gs d p) :
    Calls Try.prog 61 #[.pointer (some ⟨D, 0, none⟩)] W fun e W' => e = .returned (.bool p.dead) ∧ W = W' := by
  rw [← hV.dead]
  exact dead_k d D HK
end Go.Proofs.Ytaonaifnaecpiaa.Own
