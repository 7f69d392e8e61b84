/- The reference's disk in memory and the plain disk that it is. No conditions beside those in each theorem. -/
import Derived.Test.YtaonaifnaecpiaaDisk16
namespace Go.Proofs.Ytaonaifnaecpiaa.Own
open Go.RowKit
set_option linter.unusedSimpArgs false
theorem vw_ext {gs : List (Nat × List Value)} {d : Dk} {p q : PD} (h : VW gs d p) (h1 : ∀ j, p.f j = q.f j) (h2 : p.left = q.left) (h3 : p.dead = q.dead) : VW gs d q :=
  ⟨h2 ▸ h.left, h3 ▸ h.dead, h2 ▸ h.lo, h2 ▸ h.hi, fun i hi => by rw [← h1]; exact h.file i hi⟩
theorem pcnt_f (p : PD) : (pcnt p).f = p.f := by unfold pcnt; split <;> rfl
theorem pcnt_put (p : PD) (k : Nat) (x : List Int × Nat) : pcnt (p.put k x) = (pcnt p).put k x := by
  unfold pcnt PD.put
  dsimp only
  split <;> rfl
theorem rg_new {w W : World} {rs : List (Nat × List Value)} (HK : KR w rs W) : Calls Try.prog 31 #[] W fun e W' => ∃ R B, e = .returned (.pointer (some ⟨R, 0, none⟩)) ∧ RR w W' R B 8 [] dk0 rs := rnew_k HK
theorem vw_new (gs : List (Nat × List Value)) : VW gs dk0 pnew := ⟨rfl, rfl, by decide, by decide, fun i _ => ⟨.inl ⟨rfl, rfl⟩, rfl, Nat.le_refl 0, Nat.zero_le _⟩⟩
theorem rg_append {w W : World} {R B cap : Nat} (hcap : 8 ≤ cap) {tl : List Value} {p : PD} {d : Dk} {rs gs : List (Nat × List Value)} (HK : RR w W R B cap tl d rs) (hV : VW gs d p) (hs : ∀ x ∈ gs, x ∈ rs) (f : Int) (ys : List Int) (n : Nat) (hn : ys.length = n) (sp : Option Addr) (cp : Nat) (hS : ∀ W1, KR w rs W1 → Src W1 sp ys) :
    Calls Try.prog 38 #[.pointer (some ⟨R, 0, none⟩), .int .i64 f, .slice sp n cp] W fun e W' => e = .returned (.int .i64 (pappE p f ys)) ∧ ∃ l d', RR w W' R B cap tl d' (l ++ rs) ∧ VW (l ++ gs) d' (pappD p f ys) := by
  subst hn
  unfold pappE pappD
  by_cases hm : pmay p [f] = 0
  · rw [if_pos hm, if_pos hm]
    obtain ⟨hk, hft, hd⟩ := pmay_in hm
    generalize hfk : f.toNat = k at hk hft ⊢
    subst hft
    obtain ⟨hF, hs1, hs2, hs3⟩ := hV.file k hk
    obtain ⟨sx, cx, h1, h2⟩ := fc_src (fc_mono hF hs)
    by_cases hfull : 1048576 < ys.length + (p.f k).1.length
    · rw [if_pos hfull, if_pos hfull]
      refine (rappend_full d R B cap hcap tl k hk (p.f k).1.length ys.length hfull hs3 (by rw [hV.dead]; exact hd) HK sp cp sx cx h1).mono ?_
      rintro e w' ⟨rfl, rfl⟩
      exact ⟨rfl, [], d, HK, hV⟩
    · rw [if_neg hfull, if_neg hfull]
      refine (rappend_ok d R B cap hcap tl k hk (p.f k).1 ys _ _ rfl rfl (by omega) (vw_hl hV) (by rw [hV.dead]; exact hd) HK sp cp sx cx h1 hS (fun W1 H => h2 w W1 H)).mono ?_
      rintro e w' ⟨rfl, l, v, hl, H⟩
      refine ⟨by rw [vw_cntE hV], l, _, H, ?_⟩
      have := vw_put (vw_cnt (vw_mono hV (fs' := l ++ gs) (fun x hx => List.mem_append_right _ hx))) k v (d.f k).2 ((p.f k).1 ++ ys, (p.f k).2) (fc_mono hl (fun x hx => List.mem_append_left _ hx)) hs1 (by rw [List.length_append]; omega) (by rw [List.length_append]; omega)
      unfold pgrow
      rw [pcnt_put]
      exact this
  · rw [if_neg hm, if_neg hm]
    refine (rappend_no d R B cap tl f (pmay p [f]) (vw_may hV _) hm _ HK).mono ?_
    rintro e w' ⟨rfl, rfl⟩
    exact ⟨rfl, [], d, HK, hV⟩
theorem rg_sync {w W : World} {R B cap : Nat} (hcap : 8 ≤ cap) {tl : List Value} {p : PD} {d : Dk} {rs gs : List (Nat × List Value)} (HK : RR w W R B cap tl d rs) (hV : VW gs d p) (f : Int) :
    Calls Try.prog 52 #[.pointer (some ⟨R, 0, none⟩), .int .i64 f] W fun e W' => e = .returned (.int .i64 (pchE p [f])) ∧ ∃ d', RR w W' R B cap tl d' rs ∧ VW gs d' (psyncD p f) := by
  refine (rsync_k d R B cap hcap tl f (vw_hl hV) (vw_files hV) HK).mono ?_
  rintro e w' ⟨rfl, H⟩
  refine ⟨by rw [vw_chE hV], _, H, vw_chD hV _ (fun hm => ?_)⟩
  obtain ⟨hk, hft, hd⟩ := pmay_in hm
  obtain ⟨hF, hs1, hs2, hs3⟩ := hV.file f.toNat hk
  obtain ⟨sx, cx, h1, _⟩ := fc_slice hF
  rw [cnt_f, h1]
  rw [h1] at hF
  exact vw_put (vw_cnt hV) f.toNat _ ((p.f f.toNat).1.length : Nat) ((p.f f.toNat).1, (p.f f.toNat).1.length) hF rfl (Nat.le_refl _) hs3
theorem rg_clear {w W : World} {R B cap : Nat} (hcap : 8 ≤ cap) {tl : List Value} {p : PD} {d : Dk} {rs gs : List (Nat × List Value)} (HK : RR w W R B cap tl d rs) (hV : VW gs d p) (f : Int) :
    Calls Try.prog 51 #[.pointer (some ⟨R, 0, none⟩), .int .i64 f] W fun e W' => e = .returned (.int .i64 (pchE p [f])) ∧ ∃ d', RR w W' R B cap tl d' rs ∧ VW gs d' (pclrD p f) := by
  refine (rclear_k d R B cap hcap tl f (vw_hl hV) HK).mono ?_
  rintro e w' ⟨rfl, H⟩
  exact ⟨by rw [vw_chE hV], _, H, vw_chD hV _ (fun hm => vw_put (vw_cnt hV) _ _ _ ([], 0) (.inl ⟨rfl, rfl⟩) rfl (by simp) (by simp))⟩
theorem pmay_in3 {p : PD} {f t : Int} (h : pmay p [f, t] = 0) : f.toNat < 8 ∧ t.toNat < 8 ∧ ((f.toNat : Nat) : Int) = f ∧ ((t.toNat : Nat) : Int) = t ∧ p.dead = false := by
  unfold pmay at h
  split at h
  · cases h
  · rename_i h1
    simp at h1
    split at h
    · cases h
    · rename_i h2
      exact ⟨by omega, by omega, by omega, by omega, by simpa using h2⟩
theorem rg_rename {w W : World} {R B cap : Nat} (hcap : 8 ≤ cap) {tl : List Value} {p : PD} {d : Dk} {rs gs : List (Nat × List Value)} (HK : RR w W R B cap tl d rs) (hV : VW gs d p) (f t : Int) :
    Calls Try.prog 53 #[.pointer (some ⟨R, 0, none⟩), .int .i64 f, .int .i64 t] W fun e W' => e = .returned (.int .i64 (pchE p [f, t])) ∧ ∃ d', RR w W' R B cap tl d' rs ∧ VW gs d' (prenD p f t) := by
  by_cases hm : pmay p [f, t] = 0
  · have e1 : pchE p [f, t] = pcntE p := by unfold pchE; rw [if_pos hm]
    have e2 : ∀ q, pchD p [f, t] q = if pcntE p = 0 then q else pcnt p := fun q => by unfold pchD; rw [if_pos hm]
    unfold prenD
    rw [e1, e2]
    obtain ⟨hf, ht, hff, htt, hd⟩ := pmay_in3 hm
    clear e1 e2 hm
    generalize f.toNat = a at *
    generalize t.toNat = b at *
    subst hff htt
    obtain ⟨hF, hs1, hs2, hs3⟩ := hV.file a hf
    obtain ⟨sx, cx, h1, _⟩ := fc_slice hF
    refine (rrename_ok d R B cap hcap tl a b hf ht (vw_hl hV) (by rw [hV.dead]; exact hd) ⟨_, _, _, h1⟩ HK).mono ?_
    rintro e w' ⟨rfl, H⟩
    refine ⟨by rw [vw_cntE hV], _, H, ?_⟩
    rw [vw_cntE hV]
    split
    · unfold rren
      split
      · rename_i hab
        subst hab
        refine vw_ext (vw_cnt hV) (fun j => ?_) rfl rfl
        rw [pcnt_f]
        unfold PD.put
        dsimp only
        rw [pcnt_f]
        by_cases e : j = a
        · rw [if_pos e, e]
        · rw [if_neg e, if_neg e]
      · rename_i hab
        rw [cnt_f]
        have := vw_put (vw_put (vw_cnt hV) b _ _ (p.f a) hF hs1 hs2 hs3) a (.slice none 0 0) 0 ([], 0) (.inl ⟨rfl, rfl⟩) rfl (by simp) (by simp)
        refine vw_ext this (fun j => ?_) rfl rfl
        unfold PD.put
        dsimp only
        by_cases e : j = a
        · rw [if_pos e, e, if_neg hab, if_pos rfl]
        · rw [if_neg e, if_neg e]
    · exact vw_cnt hV
  · have e1 : pchE p [f, t] = pmay p [f, t] := by unfold pchE; rw [if_neg hm]
    have e2 : ∀ q, pchD p [f, t] q = p := fun q => by unfold pchD; rw [if_neg hm]
    unfold prenD
    rw [e1, e2]
    refine (rrename_no d R B cap tl f t (pmay p [f, t]) (vw_may hV _) hm HK).mono ?_
    rintro e w' ⟨rfl, rfl⟩
    exact ⟨rfl, d, HK, hV⟩
theorem rg_fail {w W : World} {R B cap : Nat} {tl : List Value} {p : PD} {d : Dk} {rs gs : List (Nat × List Value)} (HK : RR w W R B cap tl d rs) (hV : VW gs d p) (n : Int) (hn : n ≤ 9223372036854775807) :
    Calls Try.prog 36 #[.pointer (some ⟨R, 0, none⟩), .int .i64 n] W fun e W' => e = .returned (.tuple #[]) ∧ ∃ d', RR w W' R B cap tl d' rs ∧ VW gs d' (pfail p n) := by
  refine (rfail_k d R B cap tl n HK).mono ?_
  rintro e w' ⟨rfl, H⟩
  refine ⟨rfl, _, H, rfl, hV.dead, ?_, ?_, hV.file⟩
  · show 0 ≤ maxZ n
    by_cases h0 : n < 0
    · rw [maxZ_neg h0]; omega
    · rw [maxZ_pos h0]; omega
  · show maxZ n ≤ _
    by_cases h0 : n < 0
    · rw [maxZ_neg h0]; omega
    · rw [maxZ_pos h0]; omega
theorem rg_crash {w W : World} {R B cap : Nat} (hcap : 8 ≤ cap) {tl : List Value} {p : PD} {d : Dk} {rs gs : List (Nat × List Value)} (HK : RR w W R B cap tl d rs) (hV : VW gs d p) (keeps : List Int) (n : Nat) (hn : keeps.length = n) (co : Option Addr) (cp : Nat)
    (hkeep : ∀ (W1 : World), KR w rs W1 → ∀ j, j < n → ∃ A, co = some A ∧ W1.cell? (A.add j) = some (.int .i64 (keeps.getD j 0))) :
    Calls Try.prog 39 #[.pointer (some ⟨R, 0, none⟩), .slice co n cp] W fun e W' => e = .returned (.tuple #[]) ∧ ∃ d', RR w W' R B cap tl d' rs ∧ VW gs d' (pcrash p keeps) := by
  have hfile : ∀ i, i < 8 → ∃ sx cx, d.f i = (.slice sx (p.f i).1.length cx, (((p.f i).2 : Nat) : Int)) ∧ (p.f i).2 ≤ (p.f i).1.length ∧ (p.f i).1.length ≤ cx ∧ (p.f i).1.length ≤ 1048576 ∧ (sx = none → cx = 0) ∧ FC gs (.slice sx (p.f i).1.length cx) (p.f i).1 := fun i hi => by
    obtain ⟨hF, hs1, hs2, hs3⟩ := hV.file i hi
    obtain ⟨sx, cx, h1, h2, h3⟩ := fc_slice hF
    rw [h1] at hF
    exact ⟨sx, cx, Prod.ext h1 hs1, hs2, h2, hs3, h3, hF⟩
  refine (rcrash_k d R B cap hcap tl keeps n hn co cp (fun i hi => by
    obtain ⟨sx, cx, h1, h2, h3, h4, h5, _⟩ := hfile i hi
    exact ⟨sx, _, cx, _, h1, h2, h3, h4, h5⟩) HK hkeep).mono ?_
  rintro e w' ⟨rfl, H⟩
  refine ⟨rfl, _, H, rfl, rfl, by show (0 : Int) ≤ 0; omega, by show (0 : Int) ≤ _; omega, fun i hi => ?_⟩
  obtain ⟨sx, cx, h1, h2, h3, h4, h5, hF⟩ := hfile i hi
  have hle := crN_le (p.f i).2 (p.f i).1.length keeps[i]? h2
  have hf : (crD d keeps 8).f i = (.slice sx (crN (p.f i).2 (p.f i).1.length keeps[i]?) (crN (p.f i).2 (p.f i).1.length keeps[i]?), ((crN (p.f i).2 (p.f i).1.length keeps[i]? : Nat) : Int)) := by
    unfold crD
    dsimp only
    rw [if_pos hi, h1]
    simp [crF]
  show FC gs ((crD d keeps 8).f i).1 (pcrF (p.f i) keeps[i]?).1 ∧ ((crD d keeps 8).f i).2 = ((pcrF (p.f i) keeps[i]?).2 : Nat) ∧ (pcrF (p.f i) keeps[i]?).2 ≤ (pcrF (p.f i) keeps[i]?).1.length ∧ (pcrF (p.f i) keeps[i]?).1.length ≤ 1048576
  rw [hf]
  unfold pcrF
  refine ⟨fc_cut hF _ hle, rfl, ?_, ?_⟩
  · show _ ≤ (List.take _ _).length
    rw [List.length_take]; omega
  · show (List.take _ _).length ≤ _
    rw [List.length_take]; omega
theorem rg_read {w W : World} {R B cap : Nat} (hcap : 8 ≤ cap) {tl : List Value} {p : PD} {d : Dk} {rs gs : List (Nat × List Value)} (HK : RR w W R B cap tl d rs) (hV : VW gs d p) (hs : ∀ x ∈ gs, x ∈ rs) (f : Int) :
    Calls Try.prog 50 #[.pointer (some ⟨R, 0, none⟩), .int .i64 f] W fun e W' => ∃ v l, e = .returned (.tuple #[v, .int .i64 (preadE f)]) ∧ FC l v (pread p f) ∧ RR w W' R B cap tl d (l ++ rs) := by
  unfold preadE pread
  by_cases ho : f < 0 ∨ 8 ≤ f
  · rw [if_pos ho, if_pos ho]
    refine (rread_out R f ho W).mono ?_
    rintro e w' ⟨rfl, rfl⟩
    exact ⟨_, [], rfl, .inl ⟨rfl, rfl⟩, HK⟩
  · rw [if_neg ho, if_neg ho]
    obtain ⟨k, rfl⟩ : ∃ k : Nat, f = k := ⟨f.toNat, by omega⟩
    have hk : k < 8 := by omega
    rw [Int.toNat_natCast]
    obtain ⟨hF, hs1, hs2, hs3⟩ := hV.file k hk
    obtain ⟨sx, cx, h1, h2⟩ := fc_src (fc_mono hF hs)
    refine (rread_k d R B cap hcap tl k hk (p.f k).1 _ rfl (by omega) HK sx cx h1 (h2 w W (kr_tail (kr_tail HK)))).mono ?_
    rintro e w' ⟨v, l, rfl, hl, H⟩
    exact ⟨v, l, rfl, hl, H⟩
theorem rg_safe {w W : World} {R B cap : Nat} {tl : List Value} {p : PD} {d : Dk} {rs gs : List (Nat × List Value)} (HK : RR w W R B cap tl d rs) (hV : VW gs d p) (f : Int) :
    Calls Try.prog 60 #[.pointer (some ⟨R, 0, none⟩), .int .i64 f] W fun e W' => e = .returned (.int .i64 (psafe p f)) ∧ W = W' := by
  unfold psafe
  by_cases ho : f < 0 ∨ 8 ≤ f
  · rw [if_pos ho]
    exact rsafe_out R f ho W
  · rw [if_neg ho]
    obtain ⟨k, rfl⟩ : ∃ k : Nat, f = k := ⟨f.toNat, by omega⟩
    have hk : k < 8 := by omega
    rw [Int.toNat_natCast, ← (hV.file k hk).2.1]
    exact rsafe_k d R B cap tl k hk HK
theorem vw_one {gs : List (Nat × List Value)} {d : Dk} {p : PD} (hV : VW gs d p) : ∀ i, i < 8 → (d.f i).1.oneCell' = true := fun i hi => by
  obtain ⟨sx, m, cx, h⟩ := vw_files hV i hi
  rw [h]; rfl
end Go.Proofs.Ytaonaifnaecpiaa.Own
