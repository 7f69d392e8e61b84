/- Words as a source, any text in small letters, the line and column of any place: the plain functions agree. No conditions beside those in each theorem. -/
import Derived.Test.YtklpcmfigfigcaaLtQ
import Derived.Test.YtklpcmfigfigcaaLt15
import Derived.Test.YtklpcmfigfigcaaPtx3
import Derived.Test.YtklpcmfigfigcaaPtx4
import Derived.Lib.Join
namespace Go.Proofs.Ytklpcmfigfigcaa.Own
open Go.RowKit Go.Proofs.YtklpcmfigfigcaaW.PrintWords Go.Proofs.Ytklpcmfigfigcaa.Pt
set_option linter.unusedSimpArgs false
set_option linter.unusedVariables false
theorem rd_at {ts : List S28} {i : Nat} {t : S28} (h : ts[i]? = some t) : rd_T28 ts (i : Int) = t := by
  unfold rd_T28
  rw [Int.toNat_natCast, List.getD_eq_getElem?_getD, h]
  rfl
theorem rd45_at {ts : List S45} {i : Nat} {t : S45} (h : ts[i]? = some t) : rd_T45 ts (i : Int) = t := by
  unfold rd_T45
  rw [Int.toNat_natCast, List.getD_eq_getElem?_getD, h]
  rfl
def cv (t : S28) : S45 := ⟨t.f0, t.f1, t.f2, t.f3⟩
def vc (t : S45) : S28 := ⟨t.f0, t.f1, t.f2, t.f3⟩
theorem taken_l0 (x0 : List S28) (h : x0.length ≤ 1100000) : ∀ (n i : Nat), x0.length - i ≤ n → i ≤ x0.length → ∀ k, n < k → dayshiftlaw07_taken.l0 k x0 ((x0.take i).map cv) (i : Int) = some (x0.map cv) := by
  intro n
  induction n with
  | zero =>
    intro i hn hi k hk
    obtain ⟨k, rfl⟩ : ∃ k', k = k' + 1 := ⟨k - 1, by omega⟩
    rw [dayshiftlaw07_taken.l0, if_neg (by omega), List.take_of_length_le (by omega)]
  | succ n ih =>
    intro i hn hi k hk
    obtain ⟨k, rfl⟩ : ∃ k', k = k' + 1 := ⟨k - 1, by omega⟩
    by_cases hlt : i < x0.length
    · have hg : x0[i]? = some x0[i] := List.getElem?_eq_getElem hlt
      rw [dayshiftlaw07_taken.l0, if_pos (by omega), if_pos (by omega), if_pos (by rw [List.length_map, List.length_take]; omega), rd_at hg, w64 _ (by omega), show (i : Int) + 1 = ((i + 1 : Nat) : Int) from by omega]
      have := ih (i + 1) (by omega) (by omega) k (by omega)
      rw [List.take_succ_eq_append_getElem hlt, List.map_append] at this
      exact this
    · rw [dayshiftlaw07_taken.l0, if_neg (by omega), List.take_of_length_le (by omega)]
theorem taken_f (x0 : List S28) (h : x0.length ≤ 1100000) (k : Nat) (hk : x0.length < k) : dayshiftlaw07_taken.f k x0 = some (x0.map cv) := by
  have := taken_l0 x0 h x0.length 0 (by omega) (Nat.zero_le _) k hk
  exact this
theorem given_l0 (x0 : List S45) (h : x0.length ≤ 1100000) : ∀ (n i : Nat), x0.length - i ≤ n → i ≤ x0.length → ∀ k, n < k → dayshiftlaw07_given.l0 k x0 ((x0.take i).map vc) (i : Int) = some (x0.map vc) := by
  intro n
  induction n with
  | zero =>
    intro i hn hi k hk
    obtain ⟨k, rfl⟩ : ∃ k', k = k' + 1 := ⟨k - 1, by omega⟩
    rw [dayshiftlaw07_given.l0, if_neg (by omega), List.take_of_length_le (by omega)]
  | succ n ih =>
    intro i hn hi k hk
    obtain ⟨k, rfl⟩ : ∃ k', k = k' + 1 := ⟨k - 1, by omega⟩
    by_cases hlt : i < x0.length
    · have hg : x0[i]? = some x0[i] := List.getElem?_eq_getElem hlt
      rw [dayshiftlaw07_given.l0, if_pos (by omega), if_pos (by omega), if_pos (by rw [List.length_map, List.length_take]; omega), rd45_at hg, w64 _ (by omega), show (i : Int) + 1 = ((i + 1 : Nat) : Int) from by omega]
      have := ih (i + 1) (by omega) (by omega) k (by omega)
      rw [List.take_succ_eq_append_getElem hlt, List.map_append] at this
      exact this
    · rw [dayshiftlaw07_given.l0, if_neg (by omega), List.take_of_length_le (by omega)]
theorem given_f (x0 : List S45) (h : x0.length ≤ 1100000) (k : Nat) (hk : x0.length < k) : dayshiftlaw07_given.f k x0 = some (x0.map vc) := by
  have := given_l0 x0 h x0.length 0 (by omega) (Nat.zero_le _) k hk
  exact this
theorem cv_vc (x0 : List S45) : (x0.map vc).map cv = x0 := by
  rw [List.map_map]
  conv => rhs; rw [← List.map_id x0]
  exact List.map_congr_left fun t _ => rfl
theorem alike_self (x0 : List S45) : alikeB true x0 x0 = true := alike_to true _ _ ⟨rfl, fun i x y hx hy => by
  rw [hx] at hy
  injection hy with hy
  subst hy
  exact ⟨rfl, rfl, rfl, fun _ => rfl⟩⟩
/-! Fold -/
theorem bts_len (a : ByteArray) : (bytesOf a).length = a.size := by unfold bytesOf; simp
theorem bts_get (a : ByteArray) (i : Nat) (h : i < a.size) : (bytesOf a)[i]? = some (bt a (i : Int)) := by
  rw [← rd_bytesOf]
  unfold rd
  rw [Int.toNat_natCast, List.getD_eq_getElem?_getD, List.getElem?_eq_getElem (by rw [bts_len]; exact h)]
  rfl
theorem fold_l0 (a : ByteArray) (h : a.size ≤ 2000000) : ∀ (n i : Nat), a.size - i ≤ n → i ≤ a.size → ∀ k, n < k → dayshiftref07_Fold.l0 k a (((bytesOf a).take i).map foldC) (i : Int) = some (strOfNums ((bytesOf a).map foldC)) := by
  intro n
  induction n with
  | zero =>
    intro i hn hi k hk
    obtain ⟨k, rfl⟩ : ∃ k', k = k' + 1 := ⟨k - 1, by omega⟩
    rw [dayshiftref07_Fold.l0, if_neg (by omega), List.take_of_length_le (by rw [bts_len]; omega)]
  | succ n ih =>
    intro i hn hi k hk
    obtain ⟨k, rfl⟩ : ∃ k', k = k' + 1 := ⟨k - 1, by omega⟩
    by_cases hlt : i < a.size
    · have hg := bts_get a i hlt
      have hr := bt_range a (i : Int)
      have := ih (i + 1) (by omega) (by omega) k (by omega)
      rw [List.take_add_one, hg, List.map_append, show (some (bt a (i : Int))).toList.map foldC = [foldC (bt a (i : Int))] from rfl] at this
      have hl : (((bytesOf a).take i).map foldC).length < 140737488355328 := by rw [List.length_map, List.length_take, bts_len]; omega
      rw [dayshiftref07_Fold.l0, if_pos (by omega), if_pos (by omega)]
      by_cases h1 : bt a (i : Int) ≥ 65
      · rw [if_pos h1]
        by_cases h2 : bt a (i : Int) ≤ 90
        · rw [if_pos h2, if_pos hl, w64 _ (by omega), show (i : Int) + 1 = ((i + 1 : Nat) : Int) from by omega, show (bt a (i : Int) + 32) % 256 = foldC (bt a (i : Int)) from by unfold foldC; rw [if_pos ⟨h1, h2⟩]; omega]
          exact this
        · rw [if_neg h2, if_pos hl, w64 _ (by omega), show (i : Int) + 1 = ((i + 1 : Nat) : Int) from by omega]
          rw [show foldC (bt a (i : Int)) = bt a (i : Int) from by unfold foldC; rw [if_neg (by omega)]] at this
          exact this
      · rw [if_neg h1, if_pos hl, w64 _ (by omega), show (i : Int) + 1 = ((i + 1 : Nat) : Int) from by omega]
        rw [show foldC (bt a (i : Int)) = bt a (i : Int) from by unfold foldC; rw [if_neg (by omega)]] at this
        exact this
    · rw [dayshiftref07_Fold.l0, if_neg (by omega), List.take_of_length_le (by rw [bts_len]; omega)]
theorem fold_f (a : ByteArray) (h : a.size ≤ 2000000) (k : Nat) (hk : a.size < k) : dayshiftref07_Fold.f k a = some (strOfNums ((bytesOf a).map foldC)) := by
  have := fold_l0 a h a.size 0 (by omega) (Nat.zero_le _) k hk
  exact this
/-! Place -/
def lastN (a : ByteArray) : Nat → Int
  | 0 => -1
  | i + 1 => if bt a (i : Int) = 10 then (i : Int) else lastN a i
def cntN (a : ByteArray) : Nat → Nat
  | 0 => 0
  | i + 1 => cntN a i + if bt a (i : Int) = 10 then 1 else 0
theorem lastN_lt (a : ByteArray) : ∀ n : Nat, -1 ≤ lastN a n ∧ lastN a n < n
  | 0 => by simp [lastN]
  | n + 1 => by
    have := lastN_lt a n
    unfold lastN
    split <;> omega
theorem cntN_le (a : ByteArray) : ∀ n : Nat, cntN a n ≤ n
  | 0 => Nat.le_refl _
  | n + 1 => by
    have := cntN_le a n
    unfold cntN
    split <;> omega
theorem bt_cut (a : ByteArray) (n i : Nat) (hn : n ≤ a.size) (hi : i < n) : bt (a.extract 0 n) (i : Int) = bt a (i : Int) := by
  unfold bt
  have h1 : (i : Int).toNat < (a.extract 0 n).size := by rw [ByteArray.size_extract]; omega
  have h2 : (i : Int).toNat < a.size := by omega
  rw [dif_pos h1, dif_pos h2, ByteArray.getElem_extract]
  simp
theorem last_l0 (a : ByteArray) (n : Nat) (hn : n ≤ a.size) (hz : a.size ≤ 2000000) : ∀ (i : Nat), i ≤ n → ∀ k, i < k → bytealg_LastIndexByteString.l0 k (a.extract 0 n) 10 ((i : Int) - 1) = some (lastN a i) := by
  intro i
  induction i with
  | zero =>
    intro _ k hk
    obtain ⟨k, rfl⟩ : ∃ k', k = k' + 1 := ⟨k - 1, by omega⟩
    rw [bytealg_LastIndexByteString.l0, if_neg (by omega)]
    rfl
  | succ i ih =>
    intro hi k hk
    obtain ⟨k, rfl⟩ : ∃ k', k = k' + 1 := ⟨k - 1, by omega⟩
    have hs : (a.extract 0 n).size = n := by rw [ByteArray.size_extract]; omega
    rw [bytealg_LastIndexByteString.l0, show ((i + 1 : Nat) : Int) - 1 = (i : Int) from by omega, if_pos (by omega), if_pos (by omega), if_pos (by rw [hs]; omega), bt_cut a n i hn (by omega)]
    unfold lastN
    by_cases h : bt a (i : Int) = 10
    · rw [if_pos h, if_pos h]
    · rw [if_neg h, if_neg h, w64 _ (by omega)]
      exact ih (by omega) k (by omega)
theorem toN10 {x : UInt8} : ((x.toNat : Int) = 10) = (x = 10) := by
  apply propext
  constructor
  · intro h
    exact UInt8.toNat_inj.1 (by simpa using Int.ofNat_inj.1 h)
  · rintro rfl; rfl
theorem cnt_take (a : ByteArray) : ∀ n, n ≤ a.size → Lib.countByte (a.data.toList.take n) 10 = cntN a n := by
  intro n
  induction n with
  | zero => intro _; simp [Lib.countByte, cntN]
  | succ n ih =>
    intro hn
    have hl : n < a.data.toList.length := by rw [Array.length_toList]; exact hn
    have h := ih (by omega)
    unfold Lib.countByte at h ⊢
    rw [List.take_succ_eq_append_getElem hl, List.count_append, h, cntN]
    congr 1
    have hb : bt a (n : Int) = ((a.data.toList[n]'hl).toNat : Int) := by
      unfold bt
      rw [dif_pos (show (n : Int).toNat < a.size by omega)]
      rfl
    rw [hb, List.count_singleton]
    by_cases h10 : a.data.toList[n]'hl = 10
    · rw [if_pos (by simp [h10]), if_pos (by rw [h10]; rfl)]
    · rw [if_neg (by simpa using h10), if_neg (by rw [toN10]; exact h10)]
theorem cnt_cut (a : ByteArray) (n : Nat) (hn : n ≤ a.size) : Lib.countByte (a.extract 0 n).data.toList 10 = cntN a n := by
  rw [← cnt_take a n hn]
  congr 1
  rw [ByteArray.data_extract]
  simp [List.extract_eq_take_drop]
theorem place_l0 (a : ByteArray) (n : Nat) (hn : n ≤ a.size) (hz : a.size ≤ 2000000) : ∀ (m i : Nat), n - i ≤ m → i ≤ n → ∀ k, m < k → dayshiftref07_Place.l0 k a (n : Int) (1 + (cntN a i : Int)) ((i : Int) - lastN a i) (i : Int) = some (1 + (cntN a n : Int), (n : Int) - lastN a n) := by
  intro m
  induction m with
  | zero =>
    intro i hm hi k hk
    obtain ⟨k, rfl⟩ : ∃ k', k = k' + 1 := ⟨k - 1, by omega⟩
    obtain rfl : i = n := by omega
    rw [dayshiftref07_Place.l0, if_neg (by omega)]
  | succ m ih =>
    intro i hm hi k hk
    obtain ⟨k, rfl⟩ : ∃ k', k = k' + 1 := ⟨k - 1, by omega⟩
    by_cases hlt : i < n
    · have h := ih (i + 1) (by omega) (by omega) k (by omega)
      have h1 := lastN_lt a i
      have h2 := cntN_le a i
      rw [dayshiftref07_Place.l0, if_pos (by omega), if_pos (by omega), if_pos (by omega)]
      rw [show lastN a (i + 1) = if bt a (i : Int) = 10 then (i : Int) else lastN a i from rfl, show cntN a (i + 1) = cntN a i + if bt a (i : Int) = 10 then 1 else 0 from rfl] at h
      by_cases h10 : bt a (i : Int) = 10
      · rw [if_pos h10]
        rw [if_pos h10, if_pos h10] at h
        rw [w64 _ (by omega), w64 _ (by omega), ← h]
        congr 1 <;> omega
      · rw [if_neg h10]
        rw [if_neg h10, if_neg h10] at h
        rw [w64 _ (by omega), w64 _ (by omega), ← h]
        congr 1 <;> omega
    · obtain rfl : i = n := by omega
      rw [dayshiftref07_Place.l0, if_neg (by omega)]
def clampP (a : ByteArray) (at_ : Int) : Nat := if at_ < 0 then 0 else if at_ > a.size then a.size else at_.toNat
theorem clampP_le (a : ByteArray) (at_ : Int) : clampP a at_ ≤ a.size := by unfold clampP; split <;> (try split) <;> omega
theorem rplace_f (a : ByteArray) (at_ : Int) (hz : a.size ≤ 2000000) (k : Nat) (hk : a.size + 3 < k) : dayshiftref07_Place.f k a at_ = some (1 + (cntN a (clampP a at_) : Int), (clampP a at_ : Int) - lastN a (clampP a at_)) := by
  obtain ⟨k, rfl⟩ : ∃ k', k = k' + 2 := ⟨k - 2, by omega⟩
  have hl := fun n hn => place_l0 a n hn hz n 0 (by omega) (Nat.zero_le _) k (by omega)
  simp only [cntN, lastN] at hl
  unfold dayshiftref07_Place.f clampP
  by_cases h1 : at_ < 0
  · rw [if_pos h1, if_pos h1, dayshiftref07_Place.j0, if_neg (by omega), dayshiftref07_Place.j1]
    exact hl 0 (Nat.zero_le _)
  · rw [if_neg h1, if_neg h1, dayshiftref07_Place.j0]
    by_cases h2 : at_ > a.size
    · rw [if_pos h2, if_pos h2, dayshiftref07_Place.j1]
      exact hl a.size (Nat.le_refl _)
    · rw [if_neg h2, if_neg h2, dayshiftref07_Place.j1]
      have := hl at_.toNat (by omega)
      rw [show ((at_.toNat : Nat) : Int) = at_ from by omega] at this ⊢
      exact this
theorem mnmx (a : ByteArray) (at_ : Int) : mn (mx at_ 0) (a.size : Int) = (clampP a at_ : Int) := by
  unfold mn mx clampP
  repeat' split
  all_goals omega
theorem pplace_f (a : ByteArray) (at_ : Int) (hz : a.size ≤ 2000000) (k : Nat) (hk : a.size + 3 < k) : lex_Place.f k a at_ = some (1 + (cntN a (clampP a at_) : Int), (clampP a at_ : Int) - lastN a (clampP a at_)) := by
  have hc := clampP_le a at_
  unfold lex_Place.f
  rw [mnmx]
  generalize clampP a at_ = n at hc ⊢
  have hs : (a.extract 0 n).size = n := by rw [ByteArray.size_extract]; omega
  have h1 := lastN_lt a n
  have h2 := cntN_le a n
  rw [if_pos (by omega), if_pos (by omega), Int.toNat_natCast]
  unfold strings_Count.f strings_LastIndexByte.f bytealg_LastIndexByteString.f
  rw [if_pos rfl, hs, w64 ((n : Int) - 1) (by omega), last_l0 a n hc hz n (Nat.le_refl _) k (by omega), cnt_cut a n hc]
  simp only [Option.bind_some]
  rw [w64 _ (by omega), w64 _ (by omega), Int.add_comm]
/-! Join -/
def jn (l : List S45) (i : Nat) : ByteArray := ⟨(Lib.join ((l.take i).map (·.f1.data.toList)) [32]).toArray⟩
theorem jn_size (l : List S45) (i : Nat) : (jn l i).size = (Lib.join ((l.take i).map (·.f1.data.toList)) [32]).length := by
  unfold jn
  simp [ByteArray.size]
theorem jn_le (l : List S45) (i : Nat) : (jn l i).size ≤ (jn l l.length).size := by
  rw [jn_size, jn_size, List.take_length]
  cases l with
  | nil => simp
  | cons x r =>
    cases i with
    | zero => simp [Lib.join_nil]
    | succ i =>
      rw [List.take_succ_cons, List.map_cons, List.map_cons, Lib.join_cons, Lib.join_cons, List.length_append, List.length_append]
      have := Lib.joinTail_take_le [32] (r.map (·.f1.data.toList)) i
      rw [← List.map_take] at this
      omega
theorem jn_one (l : List S45) (t : S45) (h : l[0]? = some t) : jn l 1 = t.f1 := by
  cases l with
  | nil => simp at h
  | cons x r =>
    simp only [List.getElem?_cons_zero, Option.some.injEq] at h
    subst h
    unfold jn
    apply ByteArray.ext
    simp [Lib.join_one]
theorem jn_succ (l : List S45) (i : Nat) (t : S45) (h0 : 0 < i) (h : l[i]? = some t) : jn l (i + 1) = (jn l i ++ (⟨#[32]⟩ : ByteArray)) ++ t.f1 := by
  cases l with
  | nil => simp at h
  | cons x r =>
    obtain ⟨i, rfl⟩ : ∃ j, i = j + 1 := ⟨i - 1, by omega⟩
    rw [List.getElem?_cons_succ] at h
    unfold jn
    apply ByteArray.ext
    have hr : (r.map (·.f1.data.toList))[i]? = some t.f1.data.toList := by rw [List.getElem?_map, h]; rfl
    rw [List.take_succ_cons, List.take_succ_cons, List.map_cons, List.map_cons, Lib.join_cons, Lib.join_cons, List.map_take, List.map_take, Lib.joinTail_take_succ _ _ _ _ hr]
    apply Array.ext'
    simp [List.append_assoc]
theorem join_l0 (l : List S45) (h : l.length ≤ 1100000) (hz : (jn l l.length).size ≤ 3000000) : ∀ (n i : Nat), l.length - i ≤ n → i ≤ l.length → ∀ k, n < k → dayshiftref07_Join.l0 k l (jn l i) (i : Int) = some (jn l l.length) := by
  intro n
  induction n with
  | zero =>
    intro i hn hi k hk
    obtain ⟨k, rfl⟩ : ∃ k', k = k' + 1 := ⟨k - 1, by omega⟩
    obtain rfl : i = l.length := by omega
    rw [dayshiftref07_Join.l0, if_neg (by omega)]
  | succ n ih =>
    intro i hn hi k hk
    obtain ⟨k, rfl⟩ : ∃ k', k = k' + 1 := ⟨k - 1, by omega⟩
    by_cases hlt : i < l.length
    · have hg : l[i]? = some l[i] := List.getElem?_eq_getElem hlt
      have h1 := ih (i + 1) (by omega) (by omega) k (by omega)
      have h2 := jn_le l i
      have h3 := jn_le l (i + 1)
      rw [dayshiftref07_Join.l0, if_pos (by omega), rd45_at hg]
      by_cases h0 : 0 < i
      · have hs := jn_succ l i _ h0 hg
        rw [hs] at h1 h3
        have h4 : (jn l i ++ (⟨#[32]⟩ : ByteArray)).size = (jn l i).size + 1 := by rw [ByteArray.size_append]; rfl
        rw [ByteArray.size_append] at h3
        rw [if_pos (by omega), if_pos (by omega), if_pos (by omega), if_pos (by omega), w64 _ (by omega), show (i : Int) + 1 = ((i + 1 : Nat) : Int) from by omega]
        exact h1
      · obtain rfl : i = 0 := by omega
        have hs := jn_one l _ hg
        rw [hs] at h1 h3
        have e0 : jn l 0 = ⟨#[]⟩ := by unfold jn; simp [Lib.join_nil]
        have e1 : (⟨#[]⟩ : ByteArray) ++ (l[0]).f1 = (l[0]).f1 := by apply ByteArray.ext; simp
        have e2 : (⟨#[]⟩ : ByteArray).size = 0 := rfl
        rw [if_neg (by omega), if_pos (by omega), e0, e1, e2, if_pos (by omega), w64 _ (by omega)]
        exact h1
    · obtain rfl : i = l.length := by omega
      rw [dayshiftref07_Join.l0, if_neg (by omega)]
theorem join_f (l : List S45) (h : l.length ≤ 1100000) (hz : (jn l l.length).size ≤ 3000000) (k : Nat) (hk : l.length < k) : dayshiftref07_Join.f k l = some (jn l l.length) := by
  have e0 : jn l 0 = ⟨#[]⟩ := by unfold jn; simp [Lib.join_nil]
  have := join_l0 l h hz l.length 0 (by omega) (Nat.zero_le _) k hk
  rw [e0] at this
  exact this
theorem texts_f (l : List S45) (a : ByteArray) (at_ : Int) (h : l.length ≤ 1100000) (hz : (jn l l.length).size ≤ 3000000) (ha : a.size ≤ 2000000) : dayshiftlaw07_LexTexts.f 4000000 l a at_ = some true := by
  unfold dayshiftlaw07_LexTexts.f
  have hj : lex_Join.f (l.map vc) = some (jn l l.length) := by
    unfold lex_Join.f
    have hz2 := hz
    rw [jn_size, List.take_length] at hz2
    have e : (l.map vc).map (·.f1.data.toList) = l.map (·.f1.data.toList) := by rw [List.map_map]; rfl
    rw [e, if_pos ⟨by rw [List.length_map]; exact h, by omega⟩]
    unfold jn
    rw [List.take_length]
  rw [given_f l h _ (by omega), pplace_f a at_ ha _ (by omega), rplace_f a at_ ha _ (by omega)]
  simp only [Option.bind_some]
  rw [hj, join_f l h hz _ (by omega)]
  simp only [Option.bind_some]
  rw [if_pos trivial, taken_f _ (by rw [List.length_map]; exact h) _ (by rw [List.length_map]; omega), cv_vc]
  simp only [Option.bind_some]
  unfold ref07_Same.f lex_Fold.f
  rw [if_pos ⟨h, alike_self l⟩]
  simp only [Option.bind_some]
  rw [if_pos trivial, if_pos (by omega), fold_f a ha _ (by omega)]
  simp only [Option.bind_some]
  rw [if_pos trivial, if_pos trivial, if_pos trivial, known_f _ (by omega)]
  rfl
end Go.Proofs.Ytklpcmfigfigcaa.Own
