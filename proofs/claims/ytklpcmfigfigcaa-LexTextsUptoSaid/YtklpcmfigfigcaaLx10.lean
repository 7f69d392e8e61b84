/- dayshift/lex's token. No conditions beside those in each theorem. -/
import Derived.Test.YtklpcmfigfigcaaLx9
namespace Go.Proofs.Ytklpcmfigfigcaa.Own
open Go.RowKit Go.Proofs.YtklpcmfigfigcaaW.PrintWords Go.Proofs.Ytklpcmfigfigcaa.Pk
set_option linter.unusedSimpArgs false
set_option linter.unusedVariables false
def sgS : ByteArray := ⟨#[123, 125, 40, 41, 59, 44, 61, 43, 45, 46]⟩
def isSg (c : Int) : Bool := decide (0 ≤ Lib.indexByte sgS.data.toList c.toNat.toUInt8)
/-- The token at the beginning of bytes: its kind, its text, its number; whether it can be. -/
def tokR : List Int → Int × List Int × Int × Bool
  | [] => (0, [], 0, false)
  | c :: l => if isLt c then (1, ((c :: l).take (runN isPt (c :: l))).map foldC, 0, decide (runN isPt (c :: l) ≤ 20)) else if isDg c then numR (c :: l) else (4, [c], 0, isSg c)
theorem kmap_keep {W W' : World} {g : Nat} (h : KMap W g) (hg : g < W.heap.size) (hb : Below W.heap.size W W') : KMap W' g := by
  obtain ⟨c, n, m, h | h⟩ := h
  · exact ⟨c, n, m, .inl (by rw [hb.block g hg]; exact h)⟩
  · exact ⟨c, n, m, .inr (by rw [hb.block g hg]; exact h)⟩
theorem lt_not_dg {c : Int} (h : isLt c = true) : isDg c = false := by
  unfold isLt at h; unfold isDg
  rw [Bool.and_eq_false_iff]
  simp at h ⊢
  omega
set_option maxHeartbeats 4000000 in
set_option maxRecDepth 100000 in
theorem token_lt (s : ByteArray) (hs : s.size ≤ 100000) (h0 : 0 < s.size) (hl : isLt ((s[0]'h0).toNat : Int) = true) (w : World) : Calls Try.prog 20 #[.string s] w fun e W' => e = .returned (.tuple #[.agg #[.int .i64 (tokR (bytesOf s)).1, .string (strOfNums (tokR (bytesOf s)).2.1), .int .i64 (tokR (bytesOf s)).2.2.1, .int .i64 0], .bool (tokR (bytesOf s)).2.2.2]) ∧ Below w.heap.size w W' := by
  have hb : bytesOf s = ((s[0]'h0).toNat : Int) :: (bytesOf s).drop 1 := by
    have := bytes_drop s 0 h0
    rwa [List.drop_zero] at this
  have hc := byte_range (s[0]'h0)
  have HTK : Hid (tokR (bytesOf s) = (1, ((bytesOf s).take (runN isPt (bytesOf s))).map foldC, 0, decide (runN isPt (bytesOf s) ≤ 20))) := by
    show _ = _
    rw [hb, tokR, if_pos hl, ← hb]
  have hsi : (s.size : Int) ≤ 100000 := by omega
  have h0i : (0 : Int) < (s.size : Int) := by omega
  have h1i : (1 : Int) ≤ (s.size : Int) := by omega
  have hst := fun W => starts_k W
  have hkd := fun W => kindOf_k ((s[0]'h0).toNat : Int) hc W
  rw [hl, lt_not_dg hl] at hkd
  have KK := kr_drew (kr_new (kr_refl w) [.int .i64 0, .string ⟨#[]⟩, .int .i64 0, .int .i64 0] 28)
  have hrn := runN_le isPt (bytesOf s)
  rw [bytesOf_length] at hrn
  have hrun := fun W => run_part s W (by omega)
  have hfl := fun W => fold_k (s.extract 0 (runN isPt (bytesOf s))) (by rw [ByteArray.size_extract]; omega) W
  rw [bytesOf_extract, List.drop_zero] at hfl
  generalize runN isPt (bytesOf s) = n at hrn hrun hfl HTK
  have hrni : (n : Int) ≤ (s.size : Int) := by omega
  generalize ((bytesOf s).take n).map foldC = tx at hfl HTK
  clear hrn
  clear hs hb hc hl
  go_enter Try.func20, Try.ntmps20
  go_upto_region 1 with fail
  go_region_with (first | (go_at_call 26; refine (hst _).mono ?_; rintro e wa ⟨g, rfl, HM, hg1, hg2, HBa⟩; have HL := look_k wa g HM true false; rw [show kindN true false = 1 from rfl] at HL; have KN := kr_call KK HBa; clear KK; have KK := KN; clear KN HBa) | (go_at_call 27; refine (hkd _).mono ?_; rintro e wb ⟨rfl, HBb⟩; (try (have HM2 := kmap_keep HM hg2 HBb; have HL2 := look_k wb g HM2 true false; rw [show kindN true false = 1 from rfl] at HL2; clear HL HM)); have KN := kr_call KK HBb; clear KK; have KK := KN; clear KN HBb))
  all_goals (
    go_wp2_with (first | (go_at_call 24; refine (hrun _).mono ?_; rintro e w3 ⟨rfl, HB3⟩; have KN := kr_call KK HB3; clear KK; have KK := KN; clear KN HB3 hrun) | (go_at_call 10; refine (hfl _).mono ?_; rintro e w4 ⟨rfl, HB4⟩; have KN := kr_call KK HB4; clear KK; have KK := KN; clear KN HB4; have HBl : Hid (Below w.heap.size w _) := KK.below; have d0 := kr_cell KK 0 rfl 0 _ rfl; have h0 := kr_frozen KK 0 rfl 0 (by simp); have d1 := kr_cell KK 0 rfl 1 _ rfl; have h1 := kr_frozen KK 0 rfl 1 (by simp); have d2 := kr_cell KK 0 rfl 2 _ rfl; have h2 := kr_frozen KK 0 rfl 2 (by simp); have d3 := kr_cell KK 0 rfl 3 _ rfl; have h3 := kr_frozen KK 0 rfl 3 (by simp); clear KK))
    refine bodyPost_ret (v := .tuple #[.agg #[.int .i64 1, .string (strOfNums tx), .int .i64 0, .int .i64 0], .bool (decide ((n : Int) ≤ 20))]) (by simp [results, Try.results20, go_sem, d0, d1, d2, d3]) rfl ⟨by rw [HTK.out]; simp only; rw [show decide ((n : Int) ≤ 20) = decide (n ≤ 20) from by congr 1; simp; omega], (((HBl.out.setCell (Nat.le_refl _) _).setCell (Nat.le_refl _) _).setCell (Nat.le_refl _) _).setCell (Nat.le_refl _) _⟩)
set_option maxHeartbeats 4000000 in
set_option maxRecDepth 100000 in
theorem token_dg (s : ByteArray) (hs : s.size ≤ 100000) (h0 : 0 < s.size) (hl : isLt ((s[0]'h0).toNat : Int) = false) (hd : isDg ((s[0]'h0).toNat : Int) = true) (w : World) : Calls Try.prog 20 #[.string s] w fun e W' => e = .returned (.tuple #[.agg #[.int .i64 (tokR (bytesOf s)).1, .string (strOfNums (tokR (bytesOf s)).2.1), .int .i64 (tokR (bytesOf s)).2.2.1, .int .i64 0], .bool (tokR (bytesOf s)).2.2.2]) ∧ Below w.heap.size w W' := by
  have hb : bytesOf s = ((s[0]'h0).toNat : Int) :: (bytesOf s).drop 1 := by
    have := bytes_drop s 0 h0
    rwa [List.drop_zero] at this
  have hc := byte_range (s[0]'h0)
  have HTK : Hid (tokR (bytesOf s) = numR (bytesOf s)) := by
    show _ = _
    rw [hb, tokR, if_neg (by simp [hl]), if_pos hd, ← hb]
  have hsi : (s.size : Int) ≤ 100000 := by omega
  have h0i : (0 : Int) < (s.size : Int) := by omega
  have h1i : (1 : Int) ≤ (s.size : Int) := by omega
  have hst := fun W => starts_k W
  have hkd := fun W => kindOf_k ((s[0]'h0).toNat : Int) hc W
  rw [hl, hd] at hkd
  have KK := kr_drew (kr_new (kr_refl w) [.int .i64 0, .string ⟨#[]⟩, .int .i64 0, .int .i64 0] 28)
  have hnm := fun W => number_k s hs W
  rw [← HTK.out] at hnm
  generalize tokR (bytesOf s) = tr at hnm ⊢
  obtain ⟨tk, tt, tn, tb⟩ := tr
  simp only at hnm ⊢
  generalize strOfNums tt = ts at hnm ⊢
  clear HTK
  clear hs hb hc hl hd
  go_enter Try.func20, Try.ntmps20
  go_upto_region 1 with fail
  go_region_with (first | (go_at_call 26; refine (hst _).mono ?_; rintro e wa ⟨g, rfl, HM, hg1, hg2, HBa⟩; have HL := look_k wa g HM false true; rw [show kindN false true = 2 from rfl] at HL; have KN := kr_call KK HBa; clear KK; have KK := KN; clear KN HBa) | (go_at_call 27; refine (hkd _).mono ?_; rintro e wb ⟨rfl, HBb⟩; (try (have HM2 := kmap_keep HM hg2 HBb; have HL2 := look_k wb g HM2 false true; rw [show kindN false true = 2 from rfl] at HL2; clear HL HM)); have KN := kr_call KK HBb; clear KK; have KK := KN; clear KN HBb))
  all_goals (
    go_wp2_with (go_at_call 29; refine (hnm _).mono ?_; rintro e w4 ⟨rfl, HB4⟩; have KN := kr_call KK HB4; clear KK; have KK := KN; clear KN HB4; have HBl : Hid (Below w.heap.size w _) := KK.below; have d0 := kr_cell KK 0 rfl 0 _ rfl; have h0 := kr_frozen KK 0 rfl 0 (by simp); have d1 := kr_cell KK 0 rfl 1 _ rfl; have h1 := kr_frozen KK 0 rfl 1 (by simp); have d2 := kr_cell KK 0 rfl 2 _ rfl; have h2 := kr_frozen KK 0 rfl 2 (by simp); have d3 := kr_cell KK 0 rfl 3 _ rfl; have h3 := kr_frozen KK 0 rfl 3 (by simp); clear KK)
    refine bodyPost_ret (v := .tuple #[.agg #[.int .i64 tk, .string ts, .int .i64 tn, .int .i64 0], .bool tb]) (by simp [results, Try.results20, go_sem, d0, d1, d2, d3]) rfl ⟨by rfl, (((HBl.out.setCell (Nat.le_refl _) _).setCell (Nat.le_refl _) _).setCell (Nat.le_refl _) _).setCell (Nat.le_refl _) _⟩)
set_option maxHeartbeats 4000000 in
set_option maxRecDepth 100000 in
theorem token_sg (s : ByteArray) (hs : s.size ≤ 100000) (h0 : 0 < s.size) (hl : isLt ((s[0]'h0).toNat : Int) = false) (hd : isDg ((s[0]'h0).toNat : Int) = false) (w : World) : Calls Try.prog 20 #[.string s] w fun e W' => e = .returned (.tuple #[.agg #[.int .i64 (tokR (bytesOf s)).1, .string (strOfNums (tokR (bytesOf s)).2.1), .int .i64 (tokR (bytesOf s)).2.2.1, .int .i64 0], .bool (tokR (bytesOf s)).2.2.2]) ∧ Below w.heap.size w W' := by
  have hb : bytesOf s = ((s[0]'h0).toNat : Int) :: (bytesOf s).drop 1 := by
    have := bytes_drop s 0 h0
    rwa [List.drop_zero] at this
  have hc := byte_range (s[0]'h0)
  have HTK : Hid (tokR (bytesOf s) = ((4 : Int), [((s[0]'h0).toNat : Int)], (0 : Int), isSg ((s[0]'h0).toNat : Int))) := by
    show _ = _
    rw [hb, tokR, if_neg (by simp [hl]), if_neg (by simp [hd])]
  have hsi : (s.size : Int) ≤ 100000 := by omega
  have h0i : (0 : Int) < (s.size : Int) := by omega
  have h1i : (1 : Int) ≤ (s.size : Int) := by omega
  have hst := fun W => starts_k W
  have hkd := fun W => kindOf_k ((s[0]'h0).toNat : Int) hc W
  rw [hl, hd] at hkd
  have KK := kr_drew (kr_new (kr_refl w) [.int .i64 0, .string ⟨#[]⟩, .int .i64 0, .int .i64 0] 28)
  have HX : Hid (strOfNums [((s[0]'h0).toNat : Int)] = s.extract 0 1) := by
    show _ = _
    have hx : bytesOf (s.extract 0 1) = [((s[0]'h0).toNat : Int)] := by rw [bytesOf_extract, List.drop_zero, hb]; rfl
    rw [← hx, son_bytes]
  have hix := fun W => index_k sgS ((s[0]'h0).toNat : Int) W
  have HSG : Hid (isSg ((s[0]'h0).toNat : Int) = decide (0 ≤ Lib.indexByte sgS.data.toList (((s[0]'h0).toNat : Int)).toNat.toUInt8)) := rfl
  generalize Lib.indexByte sgS.data.toList (((s[0]'h0).toNat : Int)).toNat.toUInt8 = ix at hix HSG
  unfold sgS at hix
  clear hs hb hc hl hd
  go_enter Try.func20, Try.ntmps20
  go_upto_region 1 with fail
  go_region_with (first | (go_at_call 26; refine (hst _).mono ?_; rintro e wa ⟨g, rfl, HM, hg1, hg2, HBa⟩; have HL := look_k wa g HM false false; rw [show kindN false false = 0 from rfl] at HL; have KN := kr_call KK HBa; clear KK; have KK := KN; clear KN HBa) | (go_at_call 27; refine (hkd _).mono ?_; rintro e wb ⟨rfl, HBb⟩; (try (have HM2 := kmap_keep HM hg2 HBb; have HL2 := look_k wb g HM2 false false; rw [show kindN false false = 0 from rfl] at HL2; clear HL HM)); have KN := kr_call KK HBb; clear KK; have KK := KN; clear KN HBb))
  all_goals (
    have HBl : Hid (Below w.heap.size w _) := KK.below
    have d0 := kr_cell KK 0 rfl 0 _ rfl
    have h0 := kr_frozen KK 0 rfl 0 (by simp)
    have d1 := kr_cell KK 0 rfl 1 _ rfl
    have h1 := kr_frozen KK 0 rfl 1 (by simp)
    have d2 := kr_cell KK 0 rfl 2 _ rfl
    have h2 := kr_frozen KK 0 rfl 2 (by simp)
    have d3 := kr_cell KK 0 rfl 3 _ rfl
    have h3 := kr_frozen KK 0 rfl 3 (by simp)
    clear KK
    go_wp2_with fail
    go_region_with (first | (go_at_call 30; refine (hix _).mono ?_; rintro e w5 ⟨rfl, rfl⟩))
    all_goals go_wp2_with fail
    all_goals refine bodyPost_ret (v := .tuple #[.agg #[.int .i64 4, .string (s.extract 0 1), .int .i64 0, .int .i64 0], .bool (decide (0 ≤ ix))]) (by simp [results, Try.results20, go_sem, d0, d1, d2, d3]) rfl ⟨by rw [HTK.out]; simp only; rw [HX.out, HSG.out]; (try simp), bw_drew ((((HBl.out.setCell (Nat.le_refl _) _).setCell (Nat.le_refl _) _).setCell (Nat.le_refl _) _).setCell (Nat.le_refl _) _)⟩)
theorem token_k (s : ByteArray) (hs : s.size ≤ 100000) (h0 : 0 < s.size) (w : World) : Calls Try.prog 20 #[.string s] w fun e W' => e = .returned (.tuple #[.agg #[.int .i64 (tokR (bytesOf s)).1, .string (strOfNums (tokR (bytesOf s)).2.1), .int .i64 (tokR (bytesOf s)).2.2.1, .int .i64 0], .bool (tokR (bytesOf s)).2.2.2]) ∧ Below w.heap.size w W' := by
  cases hl : isLt ((s[0]'h0).toNat : Int) with
  | true => exact token_lt s hs h0 hl w
  | false =>
    cases hd : isDg ((s[0]'h0).toNat : Int) with
    | true => exact token_dg s hs h0 hl hd w
    | false => exact token_sg s hs h0 hl hd w
end Go.Proofs.Ytklpcmfigfigcaa.Own
