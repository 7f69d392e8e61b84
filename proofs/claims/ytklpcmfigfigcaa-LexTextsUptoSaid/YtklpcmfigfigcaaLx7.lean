/- dayshift/lex's number. No conditions beside those in each theorem. -/
import Derived.Test.YtklpcmfigfigcaaLx6
import Derived.Deep.DeepCutAuto
namespace Go.Proofs.Ytklpcmfigfigcaa.Own
open Go.RowKit Go.Proofs.YtklpcmfigfigcaaW.PrintWords Go.Proofs.Ytklpcmfigfigcaa.Pk
set_option linter.unusedSimpArgs false
set_option linter.unusedVariables false
/-- Digits as a number. -/
def numV (bs : List Int) : Int := bs.foldl (fun n c => n * 10 + (c - 48)) 0
theorem numV_take (bs : List Int) (i : Nat) (h : i < bs.length) : numV (bs.take (i + 1)) = numV (bs.take i) * 10 + (bs[i] - 48) := by
  rw [List.take_succ_eq_append_getElem h]; unfold numV; rw [List.foldl_append]; rfl
def okAt (bs : List Int) (n : Nat) : Bool := match bs[n]? with | none => true | some c => !isPt c
theorem okAt_end {bs : List Int} {n : Nat} (h : bs.length ≤ n) : okAt bs n = true := by unfold okAt; rw [List.getElem?_eq_none h]
theorem okAt_in {bs : List Int} {n : Nat} {c : Int} (h : bs[n]? = some c) : okAt bs n = !isPt c := by unfold okAt; rw [h]
/-- A number or a time at the beginning: its kind, its text, its number; whether it can be. -/
def numR (bs : List Int) : Int × List Int × Int × Bool :=
  if runN isDg bs = 2 ∧ bs[2]? = some 58 then
    if bs.length < 5 then (2, [], 0, false)
    else if (wreadF (bs.take 5)).2 ≠ 0 then (2, [], 0, false)
    else (3, bs.take 5, (wreadF (bs.take 5)).1, okAt bs 5)
  else if 9 < runN isDg bs then (2, [], 0, false)
  else (2, bs.take (runN isDg bs), numV (bs.take (runN isDg bs)), okAt bs (runN isDg bs))
theorem numR_eq (bs : List Int) : numR bs = if runN isDg bs = 2 ∧ bs[2]? = some 58 then (if bs.length < 5 then (2, [], 0, false) else if (wreadF (bs.take 5)).2 ≠ 0 then (2, [], 0, false) else (3, bs.take 5, (wreadF (bs.take 5)).1, okAt bs 5)) else if 9 < runN isDg bs then (2, [], 0, false) else (2, bs.take (runN isDg bs), numV (bs.take (runN isDg bs)), okAt bs (runN isDg bs)) := rfl
theorem bytes_get (s : ByteArray) (k : Nat) (h : k < s.size) : (bytesOf s)[k]? = some ((s[k]'h).toNat : Int) := by
  have h2 : (bytesOf s)[k]? = ((bytesOf s).drop k)[0]? := by rw [List.getElem?_drop]; rfl
  rw [h2, bytes_drop s k h]; rfl
theorem son_nil : strOfNums [] = ⟨#[]⟩ := rfl
theorem son_bytes (s : ByteArray) : strOfNums (bytesOf s) = s := by
  apply ByteArray.ext
  apply Array.ext'
  show ((strOfNums (bytesOf s)).data).toList = s.data.toList
  unfold strOfNums bytesOf
  simp
  rw [List.map_congr_left (g := id) (fun x _ => by simp)]
  simp
theorem take5 {bs : List Int} (h : 5 ≤ bs.length) : ∃ a b x c d, bs.take 5 = [a, b, x, c, d] := by
  match bs, h with
  | a :: b :: x :: c :: d :: _, _ => exact ⟨a, b, x, c, d, rfl⟩
theorem runN_all {p : Int → Bool} : ∀ {l : List Int} {i : Nat} {c : Int}, i < runN p l → l[i]? = some c → p c = true := by
  intro l
  induction l with
  | nil => intro i c h; simp [runN] at h
  | cons a l ih =>
    intro i c h hc
    cases hp : p a with
    | false => rw [runN_no hp] at h; omega
    | true =>
      rw [runN_yes hp] at h
      cases i with
      | zero => simp at hc; rw [← hc]; exact hp
      | succ i => rw [List.getElem?_cons_succ] at hc; exact ih (by omega) hc
theorem numV_bound (bs : List Int) : ∀ i, i ≤ bs.length → (∀ c ∈ bs.take i, 48 ≤ c ∧ c ≤ 57) → 0 ≤ numV (bs.take i) ∧ numV (bs.take i) < 10 ^ i := by
  intro i
  induction i with
  | zero => intro _ _; simp [numV]
  | succ i ih =>
    intro hi hc
    have h1 := ih (by omega) (fun c h => hc c (by rw [List.take_succ_eq_append_getElem (by omega : i < bs.length)]; exact List.mem_append_left _ h))
    have h2 := hc bs[i] (by rw [List.take_succ_eq_append_getElem (by omega : i < bs.length)]; exact List.mem_append_right _ List.mem_cons_self)
    rw [numV_take bs i (by omega), Int.pow_succ]
    omega
theorem numV_small (bs : List Int) (i n : Nat) (hn : n ≤ 9) (hi : i ≤ n) (h : runN isDg bs = n) : 0 ≤ numV (bs.take i) ∧ numV (bs.take i) < 1000000000 := by
  have hl := runN_le isDg bs
  have := numV_bound bs i (by omega) (fun c hc => by
    obtain ⟨j, hj⟩ := List.mem_iff_getElem?.1 hc
    rw [List.getElem?_take] at hj
    split at hj
    · exact isDg_yes (runN_all (by omega) hj)
    · cases hj)
  refine ⟨this.1, Int.lt_of_lt_of_le this.2 ?_⟩
  have h2 : (10 : Int) ^ i ≤ 10 ^ 9 := by exact_mod_cast Nat.pow_le_pow_right (show 0 < 10 by omega) (show i ≤ 9 by omega)
  exact Int.le_trans h2 (by decide)
set_option maxHeartbeats 4000000 in
set_option maxRecDepth 100000 in
theorem number_kA (s : ByteArray) (hs : s.size ≤ 100000) (hA : runN isDg (bytesOf s) = 2 ∧ (bytesOf s)[2]? = some 58) (w : World) : Calls Try.prog 29 #[.string s] w fun e W' => e = .returned (.tuple #[.agg #[.int .i64 (numR (bytesOf s)).1, .string (strOfNums (numR (bytesOf s)).2.1), .int .i64 (numR (bytesOf s)).2.2.1, .int .i64 0], .bool (numR (bytesOf s)).2.2.2]) ∧ Below w.heap.size w W' := by
  have hr := fun W => run_num s W (by omega)
  have hl := runN_le isDg (bytesOf s)
  rw [bytesOf_length] at hl
  have HN0 := numR_eq (bytesOf s)
  rw [bytesOf_length] at HN0
  generalize hn : runN isDg (bytesOf s) = n at hr hl HN0 hA
  have hni : (n : Int) ≤ (s.size : Int) := by omega
  have hsi : (s.size : Int) ≤ 100000 := by omega
  have HS : Hid (s.size ≤ 100000) := hs
  have HRN : Hid (runN isDg (bytesOf s) = n) := hn
  have K0 := kr_new (kr_refl w) [.int .i64 0, .string ⟨#[]⟩, .int .i64 0, .int .i64 0] 28
  clear hn hs
  go_enter Try.func29, Try.ntmps29
  go_upto_region 3 with (go_at_call 24; refine (hr _).mono ?_; rintro e w1 ⟨rfl, HB1⟩; have K1 := kr_call K0 HB1)
  have K2 := kr_new K1 [.int .i64 2, .string ⟨#[]⟩, .int .i64 0, .int .i64 0] 28
  clear hr K0 HB1 K1
  generalize w1.alloc (.cells [.int .i64 2, .string ⟨#[]⟩, .int .i64 0, .int .i64 0].toArray 28) = W2 at K2
  generalize w1.heap.size = b at K2
  · obtain ⟨rfl, h58⟩ := hA
    have hlen : 2 < s.size := by have := (List.getElem?_eq_some_iff.1 h58).1; rwa [bytesOf_length] at this
    have e2 : ((s[2]'hlen).toNat : Int) = 58 := by rw [bytes_get s 2 hlen] at h58; injection h58
    rw [if_pos ⟨rfl, h58⟩] at HN0
    have hli : (2 : Int) < (s.size : Int) := by omega
    clear h58
    by_cases h5 : s.size < 5
    · rw [if_pos h5] at HN0
      have HR : Hid (numR (bytesOf s) = (2, [], 0, false)) := HN0
      have h5i : (s.size : Int) < 5 := by omega
      have HB : Hid (Below w.heap.size w W2) := K2.below
      have c0 := kr_cell K2 0 rfl 0 _ rfl
      have g0 := kr_frozen K2 0 rfl 0 (by simp)
      have c1 := kr_cell K2 0 rfl 1 _ rfl
      have g1 := kr_frozen K2 0 rfl 1 (by simp)
      have c2 := kr_cell K2 0 rfl 2 _ rfl
      have g2 := kr_frozen K2 0 rfl 2 (by simp)
      have c3 := kr_cell K2 0 rfl 3 _ rfl
      have g3 := kr_frozen K2 0 rfl 3 (by simp)
      have d0 := kr_cell K2 1 rfl 0 _ rfl
      have h0 := kr_frozen K2 1 rfl 0 (by simp)
      have d1 := kr_cell K2 1 rfl 1 _ rfl
      have h1 := kr_frozen K2 1 rfl 1 (by simp)
      have d2 := kr_cell K2 1 rfl 2 _ rfl
      have h2 := kr_frozen K2 1 rfl 2 (by simp)
      have d3 := kr_cell K2 1 rfl 3 _ rfl
      have h3 := kr_frozen K2 1 rfl 3 (by simp)
      clear K2 HN0 hl
      go_wp2_with fail
      refine bodyPost_ret (v := .tuple #[.agg #[.int .i64 2, .string ⟨#[]⟩, .int .i64 0, .int .i64 0], .bool false]) (by simp [results, Try.results29, go_sem, d0, d1, d2, d3]) rfl ⟨by rw [HR.out] <;> rfl, (((HB.out.setCell (Nat.le_refl _) _).setCell (Nat.le_refl _) _).setCell (Nat.le_refl _) _).setCell (Nat.le_refl _) _⟩
    · rw [if_neg h5] at HN0
      have h5i : ¬ (s.size : Int) < 5 := by omega
      have h5j : (5 : Int) ≤ (s.size : Int) := by omega
      obtain ⟨x0, x1, x2, x3, x4, ht5⟩ := take5 (bs := bytesOf s) (by rw [bytesOf_length]; omega)
      obtain rfl : x2 = 58 := by
        have h1 : ((bytesOf s).take 5)[2]? = some 58 := by rw [List.getElem?_take, if_pos (by omega), bytes_get s 2 hlen, e2]
        rw [ht5] at h1; simpa using h1
      have hx : bytesOf (s.extract 0 5) = [x0, x1, 58, x3, x4] := by rw [bytesOf_extract, List.drop_zero]; exact ht5
      have hxs : (s.extract 0 5).size = 5 := by rw [ByteArray.size_extract]; omega
      have hrd := fun W => wread_k (s.extract 0 5) hxs x0 x1 x3 x4 hx W
      have HT5 : Hid (strOfNums ((bytesOf s).take 5) = s.extract 0 5) := by show _ = _; rw [ht5, ← hx, son_bytes]
      rw [show wreadF ((bytesOf s).take 5) = wreadF [x0, x1, 58, x3, x4] from by rw [ht5]] at HN0
      generalize wreadF [x0, x1, 58, x3, x4] = wv at hrd HN0
      obtain ⟨mv, ev⟩ := wv
      simp only at hrd HN0
      clear hx hxs ht5 hl
      by_cases hev : ev = 0
      · subst hev
        rw [if_neg (by simp)] at HN0
        have HR : Hid (numR (bytesOf s) = (3, (bytesOf s).take 5, mv, okAt (bytesOf s) 5)) := HN0
        clear HN0
        go_upto_region 14 with (go_at_call 39; refine (hrd _).mono ?_; rintro e w3 ⟨rfl, HB3⟩; have K3 := kr_call K2 HB3; have c0 := kr_cell K3 0 rfl 0 _ rfl; have g0 := kr_frozen K3 0 rfl 0 (by simp); have c1 := kr_cell K3 0 rfl 1 _ rfl; have g1 := kr_frozen K3 0 rfl 1 (by simp); have c2 := kr_cell K3 0 rfl 2 _ rfl; have g2 := kr_frozen K3 0 rfl 2 (by simp); have c3 := kr_cell K3 0 rfl 3 _ rfl; have g3 := kr_frozen K3 0 rfl 3 (by simp); have d0 := kr_cell K3 1 rfl 0 _ rfl; have h0 := kr_frozen K3 1 rfl 0 (by simp); have d1 := kr_cell K3 1 rfl 1 _ rfl; have h1 := kr_frozen K3 1 rfl 1 (by simp); have d2 := kr_cell K3 1 rfl 2 _ rfl; have h2 := kr_frozen K3 1 rfl 2 (by simp); have d3 := kr_cell K3 1 rfl 3 _ rfl; have h3 := kr_frozen K3 1 rfl 3 (by simp))
        have K4 := kr_fset (kr_fset (kr_fset K3 0 rfl 0 (by simp) (.int .i64 3) _ rfl) 0 rfl 2 (by simp) (.int .i64 mv) _ rfl) 0 rfl 1 (by simp) (.string (s.extract 0 5)) _ rfl
        generalize (((w3.setCell ⟨b, 0, none⟩ (.int .i64 3)).setCell ⟨b, 2, none⟩ (.int .i64 mv)).setCell ⟨b, 1, none⟩ (.string (s.extract 0 5))) = W4 at K4
        simp only [List.set_cons_zero, List.set_cons_succ] at K4
        clear c0 c1 c2 c3 g0 g1 g2 g3 d0 d1 d2 d3 h0 h1 h2 h3
        clear K3 HB3 hrd K2
        go_wp2
        go_loopw [8] (fun v8 W => v8 = .int .i64 0 ∧ KR w [(b, [.int .i64 3, .string (s.extract 0 5), .int .i64 mv, .int .i64 0]), (w.heap.size, [.int .i64 0, .string ⟨#[]⟩, .int .i64 0, .int .i64 0])] W) (fun _ _ => 0)
        case atStart => exact ⟨rfl, K4⟩
        case round =>
          obtain ⟨rfl, K5⟩ := hrel
          have HB : Hid (Below w.heap.size w wr) := K5.below
          by_cases hend : s.size ≤ 5
          · have hei : (s.size : Int) = 5 := by omega
            have HO : Hid (numR (bytesOf s) = ((3 : Int), (bytesOf s).take 5, mv, true)) := by show _ = _; rw [HR.out, okAt_end (by rw [bytesOf_length]; exact hend)]
            have c0 := kr_cell K5 0 rfl 0 _ rfl
            have g0 := kr_frozen K5 0 rfl 0 (by simp)
            have c1 := kr_cell K5 0 rfl 1 _ rfl
            have g1 := kr_frozen K5 0 rfl 1 (by simp)
            have c2 := kr_cell K5 0 rfl 2 _ rfl
            have g2 := kr_frozen K5 0 rfl 2 (by simp)
            have c3 := kr_cell K5 0 rfl 3 _ rfl
            have g3 := kr_frozen K5 0 rfl 3 (by simp)
            have d0 := kr_cell K5 1 rfl 0 _ rfl
            have h0 := kr_frozen K5 1 rfl 0 (by simp)
            have d1 := kr_cell K5 1 rfl 1 _ rfl
            have h1 := kr_frozen K5 1 rfl 1 (by simp)
            have d2 := kr_cell K5 1 rfl 2 _ rfl
            have h2 := kr_frozen K5 1 rfl 2 (by simp)
            have d3 := kr_cell K5 1 rfl 3 _ rfl
            have h3 := kr_frozen K5 1 rfl 3 (by simp)
            clear K5
            go_wp2_with fail
            go_region
            all_goals go_wp2_with fail
            all_goals refine bodyPost_ret (v := .tuple #[.agg #[.int .i64 3, .string (s.extract 0 5), .int .i64 mv, .int .i64 0], .bool true]) (by simp [results, Try.results29, go_sem, d0, d1, d2, d3]) rfl ⟨by rw [HO.out]; simp only; rw [HT5.out], bw_drew ((((HB.out.setCell (Nat.le_refl _) _).setCell (Nat.le_refl _) _).setCell (Nat.le_refl _) _).setCell (Nat.le_refl _) _)⟩
          · have hlt2 : 5 < s.size := by omega
            have hli2 : 5 < (s.size : Int) := by omega
            have hq1 : ¬ (s.size : Int) = 5 := by omega
            have hq2 : ¬ s.size = 5 := by omega
            have hq3 : ((s.size : Int) == 5) = false := by rw [beq_eq_false_iff_ne]; exact hq1
            have hq4 : (s.size == 5) = false := by rw [beq_eq_false_iff_ne]; exact hq2
            have hpk := fun W => part_k W (((s[5]'hlt2).toNat : Nat) : Int) (byte_range _)
            have HO : Hid (numR (bytesOf s) = ((3 : Int), (bytesOf s).take 5, mv, !isPt (((s[5]'hlt2).toNat : Nat) : Int))) := by show _ = _; rw [HR.out, okAt_in (bytes_get s 5 hlt2)]
            generalize isPt (((s[5]'hlt2).toNat : Nat) : Int) = bo at hpk HO
            have c0 := kr_cell K5 0 rfl 0 _ rfl
            have g0 := kr_frozen K5 0 rfl 0 (by simp)
            have c1 := kr_cell K5 0 rfl 1 _ rfl
            have g1 := kr_frozen K5 0 rfl 1 (by simp)
            have c2 := kr_cell K5 0 rfl 2 _ rfl
            have g2 := kr_frozen K5 0 rfl 2 (by simp)
            have c3 := kr_cell K5 0 rfl 3 _ rfl
            have g3 := kr_frozen K5 0 rfl 3 (by simp)
            have d0 := kr_cell K5 1 rfl 0 _ rfl
            have h0 := kr_frozen K5 1 rfl 0 (by simp)
            have d1 := kr_cell K5 1 rfl 1 _ rfl
            have h1 := kr_frozen K5 1 rfl 1 (by simp)
            have d2 := kr_cell K5 1 rfl 2 _ rfl
            have h2 := kr_frozen K5 1 rfl 2 (by simp)
            have d3 := kr_cell K5 1 rfl 3 _ rfl
            have h3 := kr_frozen K5 1 rfl 3 (by simp)
            have K5D := kr_drew K5
            clear K5 HB
            go_wp2_with fail
            have hbp : ¬ w.heap.size = b := by have h := (List.pairwise_cons.1 K5D.apart).1 _ List.mem_cons_self; exact fun e => h e.symm
            go_region_held3 (fun W => W.cell? ⟨b, 0, none⟩ = some (.int .i64 3) ∧ W.cell? ⟨b, 1, none⟩ = some (.string (s.extract 0 5)) ∧ W.cell? ⟨b, 2, none⟩ = some (.int .i64 mv) ∧ W.cell? ⟨b, 3, none⟩ = some (.int .i64 0)) (first | exact ⟨c0, c1, c2, c3⟩ | exact ⟨by go_simp, by go_simp, by go_simp, by go_simp⟩) (first | (go_at_call 28; refine (hpk _).mono ?_; rintro e w6 ⟨rfl, HB6⟩; have K6 := kr_call K5D HB6; have HB : Hid (Below w.heap.size w w6) := K6.below; have c0 := kr_cell K6 0 rfl 0 _ rfl; have g0 := kr_frozen K6 0 rfl 0 (by simp); have c1 := kr_cell K6 0 rfl 1 _ rfl; have g1 := kr_frozen K6 0 rfl 1 (by simp); have c2 := kr_cell K6 0 rfl 2 _ rfl; have g2 := kr_frozen K6 0 rfl 2 (by simp); have c3 := kr_cell K6 0 rfl 3 _ rfl; have g3 := kr_frozen K6 0 rfl 3 (by simp); have d0 := kr_cell K6 1 rfl 0 _ rfl; have h0 := kr_frozen K6 1 rfl 0 (by simp); have d1 := kr_cell K6 1 rfl 1 _ rfl; have h1 := kr_frozen K6 1 rfl 1 (by simp); have d2 := kr_cell K6 1 rfl 2 _ rfl; have h2 := kr_frozen K6 1 rfl 2 (by simp); have d3 := kr_cell K6 1 rfl 3 _ rfl; have h3 := kr_frozen K6 1 rfl 3 (by simp); clear K6 HB6))
            all_goals go_wp2_with fail
            all_goals refine bodyPost_ret (v := .tuple #[.agg #[.int .i64 3, .string (s.extract 0 5), .int .i64 mv, .int .i64 0], .bool !bo]) (by simp [results, Try.results29, go_sem, d0, d1, d2, d3]) rfl ⟨by rw [HO.out]; simp only; rw [HT5.out], (((HB.out.setCell (Nat.le_refl _) _).setCell (Nat.le_refl _) _).setCell (Nat.le_refl _) _).setCell (Nat.le_refl _) _⟩
      · rw [if_pos (by simpa using hev)] at HN0
        have HR : Hid (numR (bytesOf s) = (2, [], 0, false)) := HN0
        have hev2 : ¬ ev = 0 := hev
        clear HN0 hev
        go_wp2_with (go_at_call 39; refine (hrd _).mono ?_; rintro e w3 ⟨rfl, HB3⟩; have K3 := kr_call K2 HB3; have HB : Hid (Below w.heap.size w w3) := K3.below; have c0 := kr_cell K3 0 rfl 0 _ rfl; have g0 := kr_frozen K3 0 rfl 0 (by simp); have c1 := kr_cell K3 0 rfl 1 _ rfl; have g1 := kr_frozen K3 0 rfl 1 (by simp); have c2 := kr_cell K3 0 rfl 2 _ rfl; have g2 := kr_frozen K3 0 rfl 2 (by simp); have c3 := kr_cell K3 0 rfl 3 _ rfl; have g3 := kr_frozen K3 0 rfl 3 (by simp); have d0 := kr_cell K3 1 rfl 0 _ rfl; have h0 := kr_frozen K3 1 rfl 0 (by simp); have d1 := kr_cell K3 1 rfl 1 _ rfl; have h1 := kr_frozen K3 1 rfl 1 (by simp); have d2 := kr_cell K3 1 rfl 2 _ rfl; have h2 := kr_frozen K3 1 rfl 2 (by simp); have d3 := kr_cell K3 1 rfl 3 _ rfl; have h3 := kr_frozen K3 1 rfl 3 (by simp); clear K3 HB3)
        refine bodyPost_ret (v := .tuple #[.agg #[.int .i64 2, .string ⟨#[]⟩, .int .i64 0, .int .i64 0], .bool false]) (by simp [results, Try.results29, go_sem, d0, d1, d2, d3]) rfl ⟨by rw [HR.out] <;> rfl, (((HB.out.setCell (Nat.le_refl _) _).setCell (Nat.le_refl _) _).setCell (Nat.le_refl _) _).setCell (Nat.le_refl _) _⟩
end Go.Proofs.Ytklpcmfigfigcaa.Own
