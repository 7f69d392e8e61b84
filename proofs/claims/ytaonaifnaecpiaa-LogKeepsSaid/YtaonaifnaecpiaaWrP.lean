/- A log's bytes as its records, and what of them is read when bytes are cut or turned; plain. No conditions beside those in each theorem. -/
import Derived.Test.YtaonaifnaecpiaaMC
namespace Go.Proofs.Ytaonaifnaecpiaa.Own
open Go.RowKit
set_option linter.unusedSimpArgs false
set_option linter.unusedVariables false
theorem xor_cancel {a b c : Nat} (h : a ^^^ c = b ^^^ c) : a = b := by
  have := congrArg (· ^^^ c) h
  simpa [Nat.xor_assoc] using this
theorem cstep_top (n : Nat) (h : n < 4294967296) : (cstep n).testBit 31 = decide (n % 2 = 1) := by
  unfold cstep
  have h1 : (n / 2).testBit 31 = false := Nat.testBit_lt_two_pow (by omega)
  split
  · rename_i h2
    rw [Nat.testBit_xor, h1, h2]
    decide
  · rename_i h2
    rw [h1]
    simp [h2]
theorem cstep_inj {a b : Nat} (ha : a < 4294967296) (hb : b < 4294967296) (h : cstep a = cstep b) : a = b := by
  have h1 := cstep_top a ha
  have h2 := cstep_top b hb
  rw [h, h2] at h1
  unfold cstep at h
  by_cases hp : a % 2 = 1
  · have hq : b % 2 = 1 := by simpa [hp] using h1
    rw [if_pos hp, if_pos hq] at h
    have := xor_cancel h
    omega
  · have hq : ¬ b % 2 = 1 := by simpa [hp] using h1
    rw [if_neg hp, if_neg hq] at h
    omega
theorem cstep4_inj {a b : Nat} (ha : a < 4294967296) (hb : b < 4294967296) (h : cstep4 a = cstep4 b) : a = b :=
  cstep_inj ha hb (cstep_inj (cstep_lt _ ha) (cstep_lt _ hb) (cstep_inj (cstep_lt _ (cstep_lt _ ha)) (cstep_lt _ (cstep_lt _ hb)) (cstep_inj (cstep_lt _ (cstep_lt _ (cstep_lt _ ha))) (cstep_lt _ (cstep_lt _ (cstep_lt _ hb))) h)))
theorem cbyte_inj {s t c d : Nat} (hs : s < 4294967296) (ht : t < 4294967296) (hc : c < 256) (hd : d < 256) (h : cbyte s c = cbyte t d) : s ^^^ c = t ^^^ d := by
  have h1 : s ^^^ c < 4294967296 := Nat.xor_lt_two_pow (n := 32) hs (by omega)
  have h2 : t ^^^ d < 4294967296 := Nat.xor_lt_two_pow (n := 32) ht (by omega)
  exact cstep4_inj h1 h2 (cstep4_inj (cstep4_lt _ h1) (cstep4_lt _ h2) h)
theorem crcF_inj : ∀ (cs : List Nat), (∀ c ∈ cs, c < 256) → ∀ s t, s < 4294967296 → t < 4294967296 → crcF s cs = crcF t cs → s = t := by
  intro cs
  induction cs with
  | nil => exact fun _ s t _ _ h => h
  | cons c cs ih =>
    intro hc s t hs ht h
    have hc0 := hc c List.mem_cons_self
    have := ih (fun x hx => hc x (List.mem_cons_of_mem _ hx)) _ _ (cbyte_lt s c hs hc0) (cbyte_lt t c ht hc0) h
    exact xor_cancel (cbyte_inj hs ht hc0 hc0 this)
theorem crcF_set : ∀ (cs : List Nat), (∀ c ∈ cs, c < 256) → ∀ (s i y : Nat), s < 4294967296 → y < 256 → ∀ c, cs[i]? = some c → c ≠ y → crcF s (cs.set i y) ≠ crcF s cs := by
  intro cs
  induction cs with
  | nil => intro _ s i y _ _ c h; simp at h
  | cons c0 cs ih =>
    intro hc s i y hs hy c h hne
    have hc0 := hc c0 List.mem_cons_self
    have hcs : ∀ c ∈ cs, c < 256 := fun x hx => hc x (List.mem_cons_of_mem _ hx)
    cases i with
    | zero =>
      simp only [List.getElem?_cons_zero, Option.some.injEq] at h
      subst h
      intro e
      simp only [List.set_cons_zero] at e
      have := crcF_inj cs hcs _ _ (cbyte_lt s y hs hy) (cbyte_lt s c0 hs hc0) e
      have h2 := cbyte_inj hs hs hy hc0 this
      rw [Nat.xor_comm s y, Nat.xor_comm s c0] at h2
      exact hne (xor_cancel h2).symm
    | succ i =>
      rw [List.getElem?_cons_succ] at h
      simp only [List.set_cons_succ]
      exact ih hcs _ i y (cbyte_lt s c0 hs hc0) hy c h hne
theorem crc_set {bs : List Int} (hb : isB bs) (i : Nat) (y : Int) (hy : 0 ≤ y ∧ y < 256) (c : Int) (h : bs[i]? = some c) (hne : c ≠ y) : crc (nb (bs.set i y)) ≠ crc (nb bs) := by
  intro e
  have e1 := xor_cancel e
  have e2 : nb (bs.set i y) = (nb bs).set i y.toNat := by unfold nb; rw [List.map_set]
  rw [e2] at e1
  have hc := hb c (List.mem_of_getElem? h)
  exact crcF_set (nb bs) (nb_lt hb) 4294967295 i y.toNat (by omega) (by omega) c.toNat (by unfold nb; rw [List.getElem?_map, h]; rfl) (by omega) e1
theorem numB_be : ∀ (m v : Nat), numB (be m v) = v % 256 ^ m := by
  intro m
  induction m with
  | zero => intro v; simp [be, numB, nb, Nat.mod_one]
  | succ m ih =>
    intro v
    rw [be, numB_snoc, ih]
    have h1 : ((v % 256 : Nat) : Int).toNat = v % 256 := by omega
    rw [h1, Nat.pow_succ, Nat.mul_comm (256 ^ m) 256, Nat.mod_mul]
    omega
theorem be_numB : ∀ (n : Nat) (bs : List Int), bs.length = n → isB bs → be n (numB bs) = bs := by
  intro n
  induction n with
  | zero => intro bs h _; rw [List.eq_nil_of_length_eq_zero h]; rfl
  | succ n ih =>
    intro bs h hb
    have hne : bs ≠ [] := by intro e; subst e; simp at h
    have e : bs = bs.dropLast ++ [bs.getLast hne] := (List.dropLast_concat_getLast hne).symm
    have h1 := hb _ (List.getLast_mem hne)
    have h2 : be n (numB bs.dropLast) = bs.dropLast := ih _ (by rw [List.length_dropLast, h]; omega) (fun x hx => hb x ((List.dropLast_sublist bs).subset hx))
    rw [e, numB_snoc, be]
    have h3 : (numB bs.dropLast * 256 + (bs.getLast hne).toNat) / 256 = numB bs.dropLast := by omega
    have h4 : (numB bs.dropLast * 256 + (bs.getLast hne).toNat) % 256 = (bs.getLast hne).toNat := by omega
    rw [h3, h4, h2]
    congr 2
    omega
theorem numB_inj {a b : List Int} (ha : isB a) (hb : isB b) (hl : a.length = b.length) (h : numB a = numB b) : a = b := by
  rw [← be_numB a.length a rfl ha, ← be_numB b.length b rfl hb, h, hl]
/-- A frame's parts, read. -/
theorem parse1_parts (h s g r rest : List Int) (hh : h.length = 4) (hs : s.length = 4) (hg : g.length = 8) (hn : numB h = r.length) (hr : r.length ≤ 60000) :
    parse1 (h ++ (s ++ (g ++ (r ++ rest)))) = if numB s = crc (nb (g ++ r)) then some (numB g, r) else none := by
  have e4 : (h ++ (s ++ (g ++ (r ++ rest)))).take 4 = h := by rw [← hh, List.take_left]
  have eA : (h ++ (s ++ (g ++ (r ++ rest)))).take (16 + r.length) = h ++ (s ++ (g ++ r)) := by
    have : h ++ (s ++ (g ++ (r ++ rest))) = (h ++ (s ++ (g ++ r))) ++ rest := by simp only [List.append_assoc]
    rw [this]
    exact List.take_left' (by simp only [List.length_append]; omega)
  have d4 : (h ++ (s ++ (g ++ r))).drop 4 = s ++ (g ++ r) := by rw [← hh, List.drop_left]
  have d8 : (h ++ (s ++ (g ++ r))).drop 8 = g ++ r := by
    rw [show 8 = 4 + 4 from rfl, ← List.drop_drop, d4, ← hs, List.drop_left]
  have d16 : (h ++ (s ++ (g ++ r))).drop 16 = r := by
    rw [show 16 = 8 + 8 from rfl, ← List.drop_drop, d8, ← hg, List.drop_left]
  have t4 : (s ++ (g ++ r)).take 4 = s := by rw [← hs, List.take_left]
  have t8 : (g ++ r).take 8 = g := by rw [← hg, List.take_left]
  unfold parse1
  rw [if_neg (by simp only [List.length_append]; omega), e4, hn, if_neg (by simp only [List.length_append]; omega), eA, d4, d8, d16, t4, t8]
theorem frame_parts (q : Nat) (r rest : List Int) : frameB q r ++ rest = be 4 r.length ++ (be 4 (crc (nb (be 8 q ++ r))) ++ (be 8 q ++ (r ++ rest))) := by
  unfold frameB; simp only [List.append_assoc]
theorem numB_len (r : List Int) (hr : r.length ≤ 60000) : numB (be 4 r.length) = r.length := by rw [numB_be]; exact Nat.mod_eq_of_lt (by omega)
theorem numB_crc (q : Nat) (r : List Int) (hb : isB r) : numB (be 4 (crc (nb (be 8 q ++ r)))) = crc (nb (be 8 q ++ r)) := by
  rw [numB_be]; exact Nat.mod_eq_of_lt (crc_lt _ (nb_lt (isB_app (be_isB 8 q) hb)))
theorem parse1_frame (q : Nat) (hq : q < 18446744073709551616) (r rest : List Int) (hb : isB r) (hr : r.length ≤ 60000) : parse1 (frameB q r ++ rest) = some (q, r) := by
  rw [frame_parts, parse1_parts _ _ _ _ _ (be_len _ _) (be_len _ _) (be_len _ _) (numB_len r hr) hr, if_pos (numB_crc q r hb), numB_be]
  congr 2
  exact Nat.mod_eq_of_lt hq
theorem parse1_cut (r X : List Int) (k : Nat) (hr : r.length ≤ 60000) (hk : k < 16 + r.length) : parse1 ((be 4 r.length ++ X).take k) = none := by
  unfold parse1
  by_cases h16 : ((be 4 r.length ++ X).take k).length < 16
  · rw [if_pos h16]
  · rw [if_neg h16]
    have hl : ((be 4 r.length ++ X).take k).length ≤ k := by rw [List.length_take]; exact Nat.min_le_left _ _
    have e4 : ((be 4 r.length ++ X).take k).take 4 = be 4 r.length := by
      rw [List.take_take, Nat.min_eq_left (by omega)]
      exact List.take_left' (be_len _ _)
    rw [e4, numB_len r hr, if_pos (by omega)]
/-- Records as a log's bytes. -/
def wrF : Nat → List (List Int) → List Int
  | _, [] => []
  | q, r :: l => frameB q r ++ wrF (q + 1) l
theorem wrF_len : ∀ (l : List (List Int)) (q : Nat), (wrF q l).length = flen l := by
  intro l
  induction l with
  | nil => intro q; rfl
  | cons r l ih => intro q; rw [wrF, flen, List.length_append, frameB_len, ih]
theorem wrF_app : ∀ (a b : List (List Int)) (q : Nat), wrF q (a ++ b) = wrF q a ++ wrF (q + a.length) b := by
  intro a
  induction a with
  | nil => intro b q; rfl
  | cons r a ih =>
    intro b q
    rw [List.cons_append, wrF, wrF, ih, List.append_assoc, List.length_cons, show q + 1 + a.length = q + (a.length + 1) from by omega]
theorem frameB_isB (q : Nat) {r : List Int} (hb : isB r) : isB (frameB q r) := isB_app (be_isB _ _) (isB_app (be_isB _ _) (isB_app (be_isB _ _) hb))
theorem wrF_isB : ∀ (l : List (List Int)) (q : Nat), (∀ r ∈ l, isB r) → isB (wrF q l) := by
  intro l
  induction l with
  | nil => intro q _ x hx; simp [wrF] at hx
  | cons r l ih => exact fun q h => isB_app (frameB_isB q (h r List.mem_cons_self)) (ih _ (fun x hx => h x (List.mem_cons_of_mem _ hx)))
/-- Records that can be. -/
def RecOK (l : List (List Int)) : Prop := ∀ r ∈ l, isB r ∧ r.length ≤ 60000
theorem scnW_none {bs : List Int} (h : parse1 bs = none) (q : Nat) : scnW bs q = [] := by rw [scnW_eq, h]
theorem scnW_wr : ∀ (l : List (List Int)) (q : Nat) (X : List Int), RecOK l → 0 < q → q + l.length ≤ 18446744073709551616 → parse1 X = none → scnW (wrF q l ++ X) q = l := by
  intro l
  induction l with
  | nil => intro q X _ _ _ hX; exact scnW_none hX q
  | cons r l ih =>
    intro q X hl hq h hX
    rw [List.length_cons] at h
    obtain ⟨h1, h2⟩ := hl r List.mem_cons_self
    rw [wrF, List.append_assoc, scnW_eq, parse1_frame q (by omega) r _ h1 h2]
    simp only
    rw [if_pos ⟨trivial, by omega⟩, show 16 + r.length = (frameB q r).length from (frameB_len q r).symm, List.drop_left, ih (q + 1) X (fun x hx => hl x (List.mem_cons_of_mem _ hx)) (by omega) (by omega) hX]
theorem scan_none {bs : List Int} (h : parse1 bs = none) : scan bs = (0, []) := by rw [scan_def, h]
theorem scan_some {bs r : List Int} {q : Nat} (h : parse1 bs = some (q, r)) (hq : 0 < q) : scan bs = (q, scnW bs q) := by
  rw [scan_def, scnW_eq, h]
  simp only
  rw [if_neg (by omega), if_pos ⟨trivial, by omega⟩]
theorem scan_pre (l : List (List Int)) (q : Nat) (X : List Int) (hl : RecOK l) (hq : 0 < q) (h : q + l.length ≤ 18446744073709551616) (hX : parse1 X = none) : scan (wrF q l ++ X) = (if l = [] then 0 else q, l) := by
  cases l with
  | nil => exact scan_none hX
  | cons r l =>
    obtain ⟨h1, h2⟩ := hl r List.mem_cons_self
    have hp : parse1 (wrF q (r :: l) ++ X) = some (q, r) := by
      rw [List.length_cons] at h
      rw [wrF, List.append_assoc]
      exact parse1_frame q (by omega) r _ h1 h2
    rw [scan_some hp hq, scnW_wr _ _ _ hl hq h hX, if_neg (by simp)]
theorem parse1_nil : parse1 [] = none := parse1_short (by simp)
theorem scan_wr (l : List (List Int)) (q : Nat) (hl : RecOK l) (hq : 0 < q) (h : q + l.length ≤ 18446744073709551616) : scan (wrF q l) = (if l = [] then 0 else q, l) := by
  have := scan_pre l q [] hl hq h parse1_nil
  rwa [List.append_nil] at this
theorem wr_cut : ∀ (l : List (List Int)) (q k : Nat), RecOK l → ∃ j X, j ≤ l.length ∧ (wrF q l).take k = wrF q (l.take j) ++ X ∧ parse1 X = none := by
  intro l
  induction l with
  | nil => exact fun q k _ => ⟨0, [], Nat.le_refl _, by simp [wrF], parse1_nil⟩
  | cons r l ih =>
    intro q k hl
    obtain ⟨h1, h2⟩ := hl r List.mem_cons_self
    by_cases hk : k < 16 + r.length
    · refine ⟨0, (wrF q (r :: l)).take k, Nat.zero_le _, by simp [wrF], ?_⟩
      rw [wrF, frame_parts]
      exact parse1_cut r _ k h2 hk
    · obtain ⟨j, X, hj, he, hX⟩ := ih (q + 1) (k - (16 + r.length)) (fun x hx => hl x (List.mem_cons_of_mem _ hx))
      refine ⟨j + 1, X, by rw [List.length_cons]; omega, ?_, hX⟩
      rw [wrF, List.take_succ_cons, wrF, List.take_append, List.take_of_length_le (by rw [frameB_len]; omega), frameB_len, he, List.append_assoc]
theorem scan_cut (l : List (List Int)) (q k : Nat) (hl : RecOK l) (hq : 0 < q) (h : q + l.length ≤ 18446744073709551616) : ∃ j, j ≤ l.length ∧ (scan ((wrF q l).take k)).2 = l.take j := by
  obtain ⟨j, X, hj, he, hX⟩ := wr_cut l q k hl
  refine ⟨j, hj, ?_⟩
  rw [he, scan_pre (l.take j) q X (fun x hx => hl x (List.mem_of_mem_take hx)) hq (by rw [List.length_take]; omega) hX]
/-- Whether a byte stands in the length of a record. -/
def lngF : Nat → List (List Int) → Nat → Bool
  | _, [], _ => false
  | b, r :: l, p => (decide (b ≤ p) && decide (p < b + 4)) || lngF (b + 16 + r.length) l p
theorem set_mid (a b : List Int) (p : Nat) (y : Int) (h : a.length ≤ p) : (a ++ b).set p y = a ++ b.set (p - a.length) y := by
  rw [List.set_append_right _ _ h]
theorem isB_set {bs : List Int} (h : isB bs) (i : Nat) {y : Int} (hy : 0 ≤ y ∧ y < 256) : isB (bs.set i y) := fun x hx => by
  rcases List.mem_or_eq_of_mem_set hx with h1 | rfl
  · exact h x h1
  · exact hy
theorem parse1_turned (q : Nat) (r rest : List Int) (hb : isB r) (hr : r.length ≤ 60000) (p : Nat) (h4 : 4 ≤ p) (hp : p < 16 + r.length) (y c : Int) (hy : 0 ≤ y ∧ y < 256) (hc : (frameB q r ++ rest)[p]? = some c) (hne : c ≠ y) : parse1 ((frameB q r ++ rest).set p y) = none := by
  rw [frame_parts] at hc ⊢
  rw [set_mid _ _ _ _ (by rw [be_len]; exact h4), be_len]
  rw [List.getElem?_append_right (by rw [be_len]; exact h4), be_len] at hc
  by_cases h8 : p < 8
  · rw [List.set_append_left _ _ (by rw [be_len]; omega)]
    rw [List.getElem?_append_left (by rw [be_len]; omega)] at hc
    rw [parse1_parts _ _ _ _ _ (be_len _ _) (by rw [List.length_set, be_len]) (be_len _ _) (numB_len r hr) hr, if_neg]
    intro e
    have e2 := numB_inj (isB_set (be_isB _ _) _ hy) (be_isB _ _) (by rw [List.length_set]) (e.trans (numB_crc q r hb).symm)
    rw [← e2, List.getElem?_set] at hc
    simp only [if_true, List.length_set, be_len] at hc
    rw [if_pos (by omega)] at hc
    injection hc with hc
    exact hne hc.symm
  · rw [set_mid _ _ _ _ (by rw [be_len]; omega), be_len]
    rw [List.getElem?_append_right (by rw [be_len]; omega), be_len] at hc
    have eb : (be 8 q ++ (r ++ rest)).set (p - 4 - 4) y = ((be 8 q ++ r).set (p - 4 - 4) y) ++ rest := by
      rw [← List.append_assoc, List.set_append_left _ _ (by rw [List.length_append, be_len]; omega)]
    have hc2 : (be 8 q ++ r)[p - 4 - 4]? = some c := by
      rw [← List.append_assoc, List.getElem?_append_left (by rw [List.length_append, be_len]; omega)] at hc
      exact hc
    have hbb : isB (be 8 q ++ r) := isB_app (be_isB _ _) hb
    have hcs := crc_set hbb _ y hy c hc2 hne
    rw [eb]
    have hl : ((be 8 q ++ r).set (p - 4 - 4) y).length = 8 + r.length := by rw [List.length_set, List.length_append, be_len]
    generalize (be 8 q ++ r).set (p - 4 - 4) y = Z at hl hcs
    have eZ : Z ++ rest = Z.take 8 ++ (Z.drop 8 ++ rest) := by rw [← List.append_assoc, List.take_append_drop]
    have hd : (Z.drop 8).length = r.length := by rw [List.length_drop]; omega
    rw [eZ, parse1_parts _ _ _ _ _ (be_len _ _) (be_len _ _) (by rw [List.length_take]; omega) (by rw [hd]; exact numB_len r hr) (by omega), if_neg]
    rw [List.take_append_drop, numB_crc q r hb]
    exact fun e => hcs e.symm
theorem wr_turned : ∀ (l : List (List Int)) (q b p : Nat) (y c : Int), RecOK l → 0 ≤ y ∧ y < 256 → (wrF q l)[p]? = some c → c ≠ y → lngF b l (b + p) = false → ∃ j X, j < l.length ∧ (wrF q l).set p y = wrF q (l.take j) ++ X ∧ parse1 X = none := by
  intro l
  induction l with
  | nil => intro q b p y c _ _ h; simp [wrF] at h
  | cons r l ih =>
    intro q b p y c hl hy hc hne hlg
    obtain ⟨h1, h2⟩ := hl r List.mem_cons_self
    rw [lngF, Bool.or_eq_false_iff] at hlg
    have h4 : 4 ≤ p := by
      have := hlg.1
      rw [Bool.and_eq_false_iff] at this
      simp at this
      omega
    by_cases hp : p < 16 + r.length
    · refine ⟨0, (wrF q (r :: l)).set p y, by simp, by simp [wrF], ?_⟩
      rw [wrF] at hc ⊢
      exact parse1_turned q r _ h1 h2 p h4 hp y c hy hc hne
    · rw [wrF, List.getElem?_append_right (by rw [frameB_len]; omega), frameB_len] at hc
      obtain ⟨j, X, hj, he, hX⟩ := ih (q + 1) (b + 16 + r.length) (p - (16 + r.length)) y c (fun x hx => hl x (List.mem_cons_of_mem _ hx)) hy hc hne (by rw [← hlg.2]; congr 1; omega)
      refine ⟨j + 1, X, by rw [List.length_cons]; omega, ?_, hX⟩
      rw [wrF, List.take_succ_cons, wrF, set_mid _ _ _ _ (by rw [frameB_len]; omega), frameB_len, he, List.append_assoc]
theorem scan_turned (l : List (List Int)) (q p : Nat) (y c : Int) (hl : RecOK l) (hq : 0 < q) (h : q + l.length ≤ 18446744073709551616) (hy : 0 ≤ y ∧ y < 256) (hc : (wrF q l)[p]? = some c) (hne : c ≠ y) (hlg : lngF 0 l p = false) :
    ∃ j, j < l.length ∧ (scan ((wrF q l).set p y)).2 = l.take j := by
  obtain ⟨j, X, hj, he, hX⟩ := wr_turned l q 0 p y c hl hy hc hne (by rw [Nat.zero_add]; exact hlg)
  refine ⟨j, hj, ?_⟩
  rw [he, scan_pre (l.take j) q X (fun x hx => hl x (List.mem_of_mem_take hx)) hq (by rw [List.length_take]; omega) hX]
end Go.Proofs.Ytaonaifnaecpiaa.Own
