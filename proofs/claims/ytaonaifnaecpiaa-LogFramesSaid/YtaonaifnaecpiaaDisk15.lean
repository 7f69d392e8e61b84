/- A disk in memory and the plain disk that it is. No conditions beside those in each theorem. -/
import Derived.Test.YtaonaifnaecpiaaDisk13
namespace Go.Proofs.Ytaonaifnaecpiaa.Own
open Go.RowKit
set_option linter.unusedSimpArgs false
/-- A plain disk: eight files, each with its bytes and how many of them are safe; a count; a mark. -/
structure PD where
  f : Nat → List Int × Nat
  left : Int
  dead : Bool
def PD.put (p : PD) (k : Nat) (x : List Int × Nat) : PD := { p with f := fun j => if j = k then x else p.f j }
def pmay (p : PD) (xs : List Int) : Int := if ∃ x ∈ xs, x < 0 ∨ 8 ≤ x then 1 else if p.dead = true then 13 else 0
def pcnt (p : PD) : PD := if 0 < p.left then { p with left := p.left - 1, dead := decide (p.left - 1 = 0) } else p
def pcntE (p : PD) : Int := if (pcnt p).dead = true then 13 else 0
def pchE (p : PD) (xs : List Int) : Int := if pmay p xs = 0 then pcntE p else pmay p xs
def pchD (p : PD) (xs : List Int) (q : PD) : PD := if pmay p xs = 0 then (if pcntE p = 0 then q else pcnt p) else p
def pgrow (p : PD) (k : Nat) (ys : List Int) : PD := p.put k ((p.f k).1 ++ ys, (p.f k).2)
def pappE (p : PD) (f : Int) (ys : List Int) : Int := if pmay p [f] = 0 then (if 1048576 < ys.length + (p.f f.toNat).1.length then 4 else pcntE p) else pmay p [f]
def pappD (p : PD) (f : Int) (ys : List Int) : PD := if pmay p [f] = 0 then (if 1048576 < ys.length + (p.f f.toNat).1.length then p else pcnt (pgrow p f.toNat ys)) else p
def psyncD (p : PD) (f : Int) : PD := pchD p [f] ((pcnt p).put f.toNat ((p.f f.toNat).1, (p.f f.toNat).1.length))
def pclrD (p : PD) (f : Int) : PD := pchD p [f] ((pcnt p).put f.toNat ([], 0))
def prenD (p : PD) (f t : Int) : PD := pchD p [f, t] (((pcnt p).put f.toNat ([], 0)).put t.toNat (p.f f.toNat))
def pfail (p : PD) (n : Int) : PD := { p with left := maxZ n }
def pcrF (x : List Int × Nat) (o : Option Int) : List Int × Nat := (x.1.take (crN x.2 x.1.length o), crN x.2 x.1.length o)
def pcrash (p : PD) (keeps : List Int) : PD := { f := fun j => pcrF (p.f j) keeps[j]?, left := 0, dead := false }
def pnew : PD := ⟨fun _ => ([], 0), 0, false⟩
def pread (p : PD) (f : Int) : List Int := if f < 0 ∨ 8 ≤ f then [] else (p.f f.toNat).1
def preadE (f : Int) : Int := if f < 0 ∨ 8 ≤ f then 1 else 0
def psafe (p : PD) (f : Int) : Int := if f < 0 ∨ 8 ≤ f then 0 else ((p.f f.toNat).2 : Nat)
/-- The disk in memory is the plain disk. -/
structure VW (fs : List (Nat × List Value)) (d : Dk) (p : PD) : Prop where
  left : d.left = p.left
  dead : d.dead = p.dead
  lo : 0 ≤ p.left
  hi : p.left ≤ 9223372036854775807
  file : ∀ i, i < 8 → FC fs (d.f i).1 (p.f i).1 ∧ (d.f i).2 = ((p.f i).2 : Nat) ∧ (p.f i).2 ≤ (p.f i).1.length ∧ (p.f i).1.length ≤ 1048576
def DV (w W : World) (D : Nat) (p : PD) (fs : List (Nat × List Value)) : Prop := ∃ d, KR w ((D, d.l) :: fs) W ∧ VW fs d p
theorem fc_mono {fs fs' : List (Nat × List Value)} {v : Value} {bs : List Int} (h : FC fs v bs) (hs : ∀ x ∈ fs, x ∈ fs') : FC fs' v bs := by
  rcases h with h | ⟨b, cap, l, h1, h2, h3⟩
  · exact .inl h
  · exact .inr ⟨b, cap, l, h1, hs _ h2, h3⟩
theorem vw_mono {fs fs' : List (Nat × List Value)} {d : Dk} {p : PD} (h : VW fs d p) (hs : ∀ x ∈ fs, x ∈ fs') : VW fs' d p :=
  ⟨h.left, h.dead, h.lo, h.hi, fun i hi => ⟨fc_mono (h.file i hi).1 hs, (h.file i hi).2⟩⟩
theorem vw_may {fs : List (Nat × List Value)} {d : Dk} {p : PD} (h : VW fs d p) (xs : List Int) : mayD d xs = pmay p xs := by unfold mayD pmay; rw [h.dead]
theorem vw_cnt {fs : List (Nat × List Value)} {d : Dk} {p : PD} (h : VW fs d p) : VW fs (cnt d) (pcnt p) := by
  have h1 := h.lo
  have h2 := h.hi
  unfold cnt pcnt
  rw [h.left]
  by_cases hz : 0 < p.left
  · rw [if_pos hz, if_pos hz]
    exact ⟨rfl, rfl, by show 0 ≤ p.left - 1; omega, by show p.left - 1 ≤ _; omega, h.file⟩
  · rw [if_neg hz, if_neg hz]
    exact h
theorem vw_cntE {fs : List (Nat × List Value)} {d : Dk} {p : PD} (h : VW fs d p) : cntE d = pcntE p := by unfold cntE pcntE; rw [(vw_cnt h).dead]
theorem vw_chE {fs : List (Nat × List Value)} {d : Dk} {p : PD} (h : VW fs d p) (xs : List Int) : chE d xs = pchE p xs := by unfold chE pchE; rw [vw_may h, vw_cntE h]
theorem vw_chD {fs : List (Nat × List Value)} {d d2 : Dk} {p p2 : PD} (h : VW fs d p) (xs : List Int) (h2 : pmay p xs = 0 → VW fs d2 p2) : VW fs (chD d xs d2) (pchD p xs p2) := by
  unfold chD pchD
  rw [vw_may h, vw_cntE h]
  split
  · rename_i hm
    split
    · exact h2 hm
    · exact vw_cnt h
  · exact h
theorem vw_put {fs : List (Nat × List Value)} {d : Dk} {p : PD} (h : VW fs d p) (k : Nat) (v : Value) (n : Int) (x : List Int × Nat) (hf : FC fs v x.1) (hn : n = (x.2 : Nat)) (h1 : x.2 ≤ x.1.length) (h2 : x.1.length ≤ 1048576) : VW fs (putF d k v n) (p.put k x) := by
  refine ⟨h.left, h.dead, h.lo, h.hi, fun i hi => ?_⟩
  show FC fs (upd d.f k (v, n) i).1 (if i = k then x else p.f i).1 ∧ (upd d.f k (v, n) i).2 = ((if i = k then x else p.f i).2 : Nat) ∧ (if i = k then x else p.f i).2 ≤ (if i = k then x else p.f i).1.length ∧ (if i = k then x else p.f i).1.length ≤ 1048576
  unfold upd
  by_cases e : i = k
  · rw [if_pos e, if_pos e]; exact ⟨hf, hn, h1, h2⟩
  · rw [if_neg e, if_neg e]; exact h.file i hi
theorem pmay_in {p : PD} {f : Int} (h : pmay p [f] = 0) : f.toNat < 8 ∧ ((f.toNat : Nat) : Int) = f ∧ p.dead = false := by
  unfold pmay at h
  split at h
  · cases h
  · rename_i h1
    simp at h1
    split at h
    · cases h
    · rename_i h2
      exact ⟨by omega, by omega, by simpa using h2⟩
theorem fc_slice {fs : List (Nat × List Value)} {v : Value} {bs : List Int} (h : FC fs v bs) : ∃ sx cx, v = .slice sx bs.length cx ∧ bs.length ≤ cx ∧ (sx = none → cx = 0) := by
  rcases h with ⟨rfl, rfl⟩ | ⟨b, cap, l, rfl, hm, h1, _, _⟩
  · exact ⟨none, 0, rfl, by simp, fun _ => rfl⟩
  · exact ⟨_, cap, rfl, h1, fun h => by cases h⟩
theorem fc_cut {fs : List (Nat × List Value)} {sx : Option Addr} {m cx : Nat} {bs : List Int} (h : FC fs (.slice sx m cx) bs) (n : Nat) (hn : n ≤ bs.length) : FC fs (.slice sx n n) (bs.take n) := by
  rcases h with ⟨h1, rfl⟩ | ⟨b, cap, l, h1, hm, h2, h3, h4⟩
  · injection h1 with h1 _ _
    subst h1
    obtain rfl : n = 0 := by simpa using hn
    exact .inl ⟨rfl, by simp⟩
  · injection h1 with h1 _ _
    subst h1
    have e : (bs.take n).length = n := by rw [List.length_take]; omega
    refine .inr ⟨b, n, l, by rw [e], hm, by omega, by omega, ?_⟩
    rw [e]
    have := congrArg (List.take n) h4
    rw [List.take_take, Nat.min_eq_left hn] at this
    rw [this]
    simp [bc, List.map_take]
theorem vw_files {fs : List (Nat × List Value)} {d : Dk} {p : PD} (h : VW fs d p) : ∀ i, i < 8 → ∃ sx m cx, (d.f i).1 = .slice sx m cx := fun i hi => by
  obtain ⟨sx, cx, h1, _⟩ := fc_slice (h.file i hi).1
  exact ⟨sx, _, cx, h1⟩
theorem vw_hl {fs : List (Nat × List Value)} {d : Dk} {p : PD} (h : VW fs d p) : d.left ≤ 9223372036854775807 := by rw [h.left]; exact h.hi
theorem dv_new (w W : World) {rs : List (Nat × List Value)} (HK : KR w rs W) : Calls Try.prog 23 #[] W fun e W' => ∃ D, e = .returned (.pointer (some ⟨D, 0, none⟩)) ∧ DV w W' D pnew rs := by
  refine (new_k HK).mono ?_
  rintro e w' ⟨D, rfl, H⟩
  exact ⟨D, rfl, dk0, H, rfl, rfl, by decide, by decide, fun i _ => ⟨.inl ⟨rfl, rfl⟩, rfl, Nat.le_refl 0, Nat.zero_le _⟩⟩
theorem pcntE_grow (p : PD) (k : Nat) (ys : List Int) : pcntE (pgrow p k ys) = pcntE p := by
  unfold pcntE pcnt pgrow PD.put
  dsimp only
  split <;> rfl
theorem dv_append {w W : World} {D : Nat} {p : PD} {fs : List (Nat × List Value)} (h : DV w W D p fs) (f : Int) (ys : List Int) (n : Nat) (hn : ys.length = n) (sp : Option Addr) (cap : Nat) (hS : Src W sp ys) :
    Calls Try.prog 37 #[.pointer (some ⟨D, 0, none⟩), .int .i64 f, .slice sp n cap] W fun e W' => e = .returned (.int .i64 (pappE p f ys)) ∧ ∃ l, DV w W' D (pappD p f ys) (l ++ fs) := by
  subst hn
  obtain ⟨d, HK, hV⟩ := h
  unfold pappE pappD
  by_cases hm : pmay p [f] = 0
  · rw [if_pos hm, if_pos hm]
    obtain ⟨hk, hft, hd⟩ := pmay_in hm
    generalize hfk : f.toNat = k at hk hft ⊢
    subst hft
    obtain ⟨hF, hs1, hs2, hs3⟩ := hV.file k hk
    by_cases hfull : 1048576 < ys.length + (p.f k).1.length
    · rw [if_pos hfull, if_pos hfull]
      obtain ⟨sx, cx, h1, _⟩ := fc_slice hF
      refine (append_full d D k hk (p.f k).1.length ys.length hfull hs3 (by rw [hV.dead]; exact hd) HK sp cap sx cx h1).mono ?_
      rintro e w' ⟨rfl, H⟩
      exact ⟨rfl, [], d, H, hV⟩
    · rw [if_neg hfull, if_neg hfull]
      refine (append_ok d D k hk (p.f k).1 ys (by omega) (vw_hl hV) (by rw [hV.dead]; exact hd) HK hF sp cap hS).mono ?_
      rintro e w' ⟨g, rfl, H⟩
      have hg : VW ((g, bc ((p.f k).1 ++ ys)) :: fs) (putA d k (.slice (some ⟨g, 0, none⟩) ((p.f k).1.length + ys.length) ((p.f k).1.length + ys.length))) (pgrow p k ys) := by
        have := vw_put (vw_mono hV (fun x hx => List.mem_cons_of_mem (g, bc ((p.f k).1 ++ ys)) hx)) k (.slice (some ⟨g, 0, none⟩) ((p.f k).1.length + ys.length) ((p.f k).1.length + ys.length)) (d.f k).2 ((p.f k).1 ++ ys, (p.f k).2)
          (.inr ⟨g, _, _, by rw [List.length_append], List.mem_cons_self, by rw [List.length_append]; omega, by rw [bc_len, List.length_append]; omega, by rw [← bc_len, List.take_length]⟩) hs1 (by rw [List.length_append]; omega) (by rw [List.length_append]; omega)
        exact this
      refine ⟨?_, [(g, bc ((p.f k).1 ++ ys))], _, H, vw_cnt hg⟩
      rw [vw_cntE hg, pcntE_grow]
  · rw [if_neg hm, if_neg hm]
    refine (append_no d D f (pmay p [f]) (vw_may hV _) hm HK _).mono ?_
    rintro e w' ⟨rfl, H⟩
    exact ⟨rfl, [], d, H, hV⟩
theorem dv_sync {w W : World} {D : Nat} {p : PD} {fs : List (Nat × List Value)} (h : DV w W D p fs) (f : Int) :
    Calls Try.prog 48 #[.pointer (some ⟨D, 0, none⟩), .int .i64 f] W fun e W' => e = .returned (.int .i64 (pchE p [f])) ∧ DV w W' D (psyncD p f) fs := by
  obtain ⟨d, HK, hV⟩ := h
  refine (sync_k d D f (vw_files hV) (vw_hl hV) HK).mono ?_
  rintro e w' ⟨rfl, H⟩
  refine ⟨by rw [vw_chE hV], _, H, vw_chD hV _ (fun hm => ?_)⟩
  obtain ⟨hk, hft, hd⟩ := pmay_in hm
  obtain ⟨hF, hs1, hs2, hs3⟩ := hV.file f.toNat hk
  obtain ⟨sx, cx, h1, _⟩ := fc_slice hF
  rw [h1]
  rw [h1] at hF
  have := vw_put (vw_cnt hV) f.toNat (d.f f.toNat).1 ((p.f f.toNat).1.length : Nat) ((p.f f.toNat).1, (p.f f.toNat).1.length) (by rw [h1]; exact hF) rfl (Nat.le_refl _) hs3
  have e2 : putF (cnt d) f.toNat (d.f f.toNat).1 ((p.f f.toNat).1.length : Nat) = putS (cnt d) f.toNat ((p.f f.toNat).1.length : Nat) := by unfold putF putS; rw [cnt_f]
  rw [e2] at this
  exact this
theorem dv_clear {w W : World} {D : Nat} {p : PD} {fs : List (Nat × List Value)} (h : DV w W D p fs) (f : Int) :
    Calls Try.prog 49 #[.pointer (some ⟨D, 0, none⟩), .int .i64 f] W fun e W' => e = .returned (.int .i64 (pchE p [f])) ∧ DV w W' D (pclrD p f) fs := by
  obtain ⟨d, HK, hV⟩ := h
  refine (clear_k d D f (vw_hl hV) HK).mono ?_
  rintro e w' ⟨rfl, H⟩
  exact ⟨by rw [vw_chE hV], _, H, vw_chD hV _ (fun hm => vw_put (vw_cnt hV) _ _ _ ([], 0) (.inl ⟨rfl, rfl⟩) rfl (by simp) (by simp))⟩
theorem pmay_in2 {p : PD} {f t : Int} (h : pmay p [f, t] = 0) : f.toNat < 8 ∧ t.toNat < 8 := by
  unfold pmay at h
  split at h
  · cases h
  · rename_i h1
    simp at h1
    omega
theorem dv_rename {w W : World} {D : Nat} {p : PD} {fs : List (Nat × List Value)} (h : DV w W D p fs) (f t : Int) :
    Calls Try.prog 65 #[.pointer (some ⟨D, 0, none⟩), .int .i64 f, .int .i64 t] W fun e W' => e = .returned (.int .i64 (pchE p [f, t])) ∧ DV w W' D (prenD p f t) fs := by
  obtain ⟨d, HK, hV⟩ := h
  refine (rename_k d D f t (vw_files hV) (vw_hl hV) HK).mono ?_
  rintro e w' ⟨rfl, H⟩
  refine ⟨by rw [vw_chE hV], _, H, vw_chD hV _ (fun hm => ?_)⟩
  obtain ⟨hF, hs1, hs2, hs3⟩ := hV.file f.toNat (pmay_in2 hm).1
  exact vw_put (vw_put (vw_cnt hV) _ _ _ ([], 0) (.inl ⟨rfl, rfl⟩) rfl (by simp) (by simp)) _ _ _ _ hF hs1 hs2 hs3
theorem dv_fail {w W : World} {D : Nat} {p : PD} {fs : List (Nat × List Value)} (h : DV w W D p fs) (n : Int) (hn : n ≤ 9223372036854775807) :
    Calls Try.prog 27 #[.pointer (some ⟨D, 0, none⟩), .int .i64 n] W fun e W' => e = .returned (.tuple #[]) ∧ DV w W' D (pfail p n) fs := by
  obtain ⟨d, HK, hV⟩ := h
  refine (fail_k d D n HK).mono ?_
  rintro e w' ⟨rfl, H⟩
  refine ⟨rfl, _, H, rfl, hV.dead, ?_, ?_, hV.file⟩
  · show 0 ≤ maxZ n
    by_cases h0 : n < 0
    · rw [maxZ_neg h0]; omega
    · rw [maxZ_pos h0]; omega
  · show maxZ n ≤ _
    by_cases h0 : n < 0
    · rw [maxZ_neg h0]; omega
    · rw [maxZ_pos h0]; omega
theorem dv_crash {w W : World} {D : Nat} {p : PD} {fs : List (Nat × List Value)} (h : DV w W D p fs) (keeps : List Int) (n : Nat) (hn : keeps.length = n) (co : Option Addr) (cap : Nat)
    (hkeep : ∀ (d' : Dk) (W1 : World), KR w ((D, d'.l) :: fs) W1 → ∀ j, j < n → ∃ A, co = some A ∧ W1.cell? (A.add j) = some (.int .i64 (keeps.getD j 0))) :
    Calls Try.prog 28 #[.pointer (some ⟨D, 0, none⟩), .slice co n cap] W fun e W' => e = .returned (.tuple #[]) ∧ DV w W' D (pcrash p keeps) fs := by
  obtain ⟨d, HK, hV⟩ := h
  have hfile : ∀ i, i < 8 → ∃ sx cx, d.f i = (.slice sx (p.f i).1.length cx, (((p.f i).2 : Nat) : Int)) ∧ (p.f i).2 ≤ (p.f i).1.length ∧ (p.f i).1.length ≤ cx ∧ (p.f i).1.length ≤ 1048576 ∧ (sx = none → cx = 0) ∧ FC fs (.slice sx (p.f i).1.length cx) (p.f i).1 := fun i hi => by
    obtain ⟨hF, hs1, hs2, hs3⟩ := hV.file i hi
    obtain ⟨sx, cx, h1, h2, h3⟩ := fc_slice hF
    rw [h1] at hF
    exact ⟨sx, cx, Prod.ext h1 hs1, hs2, h2, hs3, h3, hF⟩
  refine (crash_k d D keeps n hn co cap (fun i hi => by
    obtain ⟨sx, cx, h1, h2, h3, h4, h5, _⟩ := hfile i hi
    exact ⟨sx, _, cx, _, h1, h2, h3, h4, h5⟩) HK hkeep).mono ?_
  rintro e w' ⟨rfl, H⟩
  refine ⟨rfl, _, H, rfl, rfl, by show (0 : Int) ≤ 0; omega, by show (0 : Int) ≤ _; omega, fun i hi => ?_⟩
  obtain ⟨sx, cx, h1, h2, h3, h4, h5, hF⟩ := hfile i hi
  have hle := crN_le (p.f i).2 (p.f i).1.length keeps[i]? h2
  have hf : (crD d keeps 8).f i = (.slice sx (crN (p.f i).2 (p.f i).1.length keeps[i]?) (crN (p.f i).2 (p.f i).1.length keeps[i]?), ((crN (p.f i).2 (p.f i).1.length keeps[i]? : Nat) : Int)) := by
    unfold crD
    dsimp only
    rw [if_pos hi, h1]
    simp [crF]
  show FC fs ((crD d keeps 8).f i).1 (pcrF (p.f i) keeps[i]?).1 ∧ ((crD d keeps 8).f i).2 = ((pcrF (p.f i) keeps[i]?).2 : Nat) ∧ (pcrF (p.f i) keeps[i]?).2 ≤ (pcrF (p.f i) keeps[i]?).1.length ∧ (pcrF (p.f i) keeps[i]?).1.length ≤ 1048576
  rw [hf]
  unfold pcrF
  refine ⟨fc_cut hF _ hle, rfl, ?_, ?_⟩
  · show _ ≤ (List.take _ _).length
    rw [List.length_take]; omega
  · show (List.take _ _).length ≤ _
    rw [List.length_take]; omega
theorem dv_read {w W : World} {D : Nat} {p : PD} {fs : List (Nat × List Value)} (h : DV w W D p fs) (f : Int) :
    Calls Try.prog 45 #[.pointer (some ⟨D, 0, none⟩), .int .i64 f] W fun e W' => ∃ v l, e = .returned (.tuple #[v, .int .i64 (preadE f)]) ∧ FC (l ++ fs) v (pread p f) ∧ DV w W' D p (l ++ fs) := by
  obtain ⟨d, HK, hV⟩ := h
  unfold preadE pread
  by_cases ho : f < 0 ∨ 8 ≤ f
  · rw [if_pos ho, if_pos ho]
    refine (read_out d D f ho HK).mono ?_
    rintro e w' ⟨rfl, H⟩
    exact ⟨_, [], rfl, .inl ⟨rfl, rfl⟩, d, H, hV⟩
  · rw [if_neg ho, if_neg ho]
    obtain ⟨k, rfl⟩ : ∃ k : Nat, f = k := ⟨f.toNat, by omega⟩
    have hk : k < 8 := by omega
    rw [Int.toNat_natCast]
    obtain ⟨hF, hs1, hs2, hs3⟩ := hV.file k hk
    refine (read_k d D k hk (p.f k).1 (by omega) HK hF).mono ?_
    rintro e w' ⟨g, rfl, H⟩
    exact ⟨_, [(g, bc (p.f k).1)], rfl, .inr ⟨g, _, _, rfl, List.mem_cons_self, Nat.le_refl _, by rw [bc_len]; omega, by rw [← bc_len, List.take_length]⟩, d, kr_swap H, vw_mono hV (fun x hx => List.mem_cons_of_mem _ hx)⟩
theorem dv_safe {w W : World} {D : Nat} {p : PD} {fs : List (Nat × List Value)} (h : DV w W D p fs) (f : Int) :
    Calls Try.prog 59 #[.pointer (some ⟨D, 0, none⟩), .int .i64 f] W fun e W' => e = .returned (.int .i64 (psafe p f)) ∧ W = W' := by
  obtain ⟨d, HK, hV⟩ := h
  unfold psafe
  by_cases ho : f < 0 ∨ 8 ≤ f
  · rw [if_pos ho]
    exact safe_out D f ho W
  · rw [if_neg ho]
    obtain ⟨k, rfl⟩ : ∃ k : Nat, f = k := ⟨f.toNat, by omega⟩
    have hk : k < 8 := by omega
    rw [Int.toNat_natCast, ← (hV.file k hk).2.1]
    exact safe_k d D k hk HK
theorem dv_dead {w W : World} {D : Nat} {p : PD} {fs : List (Nat × List Value)} (h : DV w W D p fs) :
    Calls Try.prog 61 #[.pointer (some ⟨D, 0, none⟩)] W fun e W' => e = .returned (.bool p.dead) ∧ W = W' := by
  obtain ⟨d, HK, hV⟩ := h
  rw [← hV.dead]
  exact dead_k d D HK
/-- Bytes as a string. -/
theorem conv_src {W : World} {co : Option Addr} {bs : List Int} (len cap : Nat) (hl : bs.length = len) (h : Src W co bs) : (convert 23 9 (.slice co len cap)).run Try.prog W = .ok (.string (strOfNums bs)) W := by
  subst hl
  rcases co with _ | A
  · have h0 : bs = [] := by
      rcases bs with _ | ⟨b, bs⟩
      · rfl
      · obtain ⟨A, hA, _⟩ := h (by simp)
        cases hA
    subst h0
    exact run_convert_bytes_nil W 23 5 Try.underlying23 Try.underlying5 _ _ _ Try.underlying9
  · have hl : (loadCells A bs.length).run Try.prog W = .ok (bs.map (Value.int .u8)).toArray W := by
      have := run_loadCells_list (P := Try.prog) W A (bs.map (Value.int .u8)) (fun j v hj => by
        have hp : 0 < bs.length := by
          have := (List.getElem?_eq_some_iff.1 hj).1
          rw [List.length_map] at this
          omega
        obtain ⟨B, hB, hc⟩ := h hp
        injection hB with hB
        subst hB
        exact hc j v hj)
      simpa using this
    rw [run_convert_bytes_string W 23 9 5 (some A) bs.length cap Try.underlying23 Try.underlying5 Try.underlying9, run_bytesToString W A bs.length cap bs hl, foldl_push_bytes]
    simp [strOfNums, ByteArray.empty, ByteArray.emptyWithCapacity]
    rfl
theorem fc_conv {w W : World} {fs : List (Nat × List Value)} {v : Value} {bs : List Int} (h : FC fs v bs) (HK : KR w fs W) : (convert 23 9 v).run Try.prog W = .ok (.string (strOfNums bs)) W := by
  obtain ⟨sx, cx, rfl, hS⟩ := fc_src h
  exact conv_src _ _ rfl (hS w W HK)
theorem dv_kr {w W : World} {D : Nat} {p : PD} {fs : List (Nat × List Value)} (h : DV w W D p fs) : KR w fs W := by
  obtain ⟨d, HK, _⟩ := h
  exact kr_tail HK
theorem dv_src {w W : World} {D : Nat} {p : PD} {fs : List (Nat × List Value)} (h : DV w W D p fs) {co : Option Addr} {bs : List Int} (hs : Src w co bs) : Src W co bs := src_keep hs (dv_kr h).below
end Go.Proofs.Ytaonaifnaecpiaa.Own
