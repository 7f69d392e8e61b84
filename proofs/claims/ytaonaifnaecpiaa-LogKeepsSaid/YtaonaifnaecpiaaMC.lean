/- Blocks that are known whole; what the printed texts say of rows, and what this session's rows say of them. No conditions beside those in each theorem. -/
import Derived.Test.YtaonaifnaecpiaaMB
import Derived.Test.YtaonaifnaecpiaaWWords
import Derived.Laws.Rows
import Derived.Laws.Entries
import Derived.Test.YtaonaifnaecpiaaProg
import Derived.Laws.CopyOwn
import Derived.WalkSpells
import Derived.Deep.RegionHeld3
import Derived.Deep.DeepAppendWide
import Derived.Deep.Slices
namespace Go.Proofs.Ytaonaifnaecpiaa.Own
open Go.RowKit Go.Proofs.YtaonaifnaecpiaaW.PrintWords
/-- A block is these cells. -/
def Blk (W : World) (g : Nat) (l : List Value) (t : TypeId) : Prop := W.heap[g]? = some (.cells l.toArray t (0, 0))
theorem blk_cell {W : World} {g : Nat} {l : List Value} {t : TypeId} (h : Blk W g l t) (j : Nat) : W.cell? ⟨g, j, none⟩ = l[j]? := by
  rw [cell_of_row _ _ j _ _ _ h]; simp
theorem blk_free {W : World} {g : Nat} {l : List Value} {t : TypeId} (h : Blk W g l t) (j : Nat) : W.frozen? ⟨g, j, none⟩ = false := by
  unfold World.frozen?
  simp only [Blk] at h
  simp [h]
theorem blk_lt {W : World} {g : Nat} {l : List Value} {t : TypeId} (h : Blk W g l t) : g < W.heap.size := (Array.getElem?_eq_some_iff.1 h).1
theorem blk_set {W : World} {g : Nat} {l : List Value} {t : TypeId} (h : Blk W g l t) (j : Nat) (v : Value) : Blk (W.setCell ⟨g, j, none⟩ v) g (l.set j v) t := by
  unfold Blk at h ⊢
  simp only [World.setCell, Array.getElem?_modify, h]
  simp
theorem blk_below {W W' : World} {g : Nat} {l : List Value} {t : TypeId} (h : Blk W g l t) (hb : Below W.heap.size W W') : Blk W' g l t := by
  unfold Blk
  rw [hb.block g (blk_lt h)]
  exact h
theorem blk_drew {W : World} {g : Nat} {l : List Value} {t : TypeId} (h : Blk W g l t) : Blk W.drew g l t := h
theorem blk_drewN {W : World} {g : Nat} {l : List Value} {t : TypeId} (h : Blk W g l t) (n : Nat) : Blk (W.drewN n) g l t := h
theorem blk_new (W : World) (l : List Value) (t : TypeId) : Blk (W.alloc (.cells l.toArray t)) W.heap.size l t := heap_alloc_new W _
theorem blk_srcV {W : World} {g : Nat} {l : List Value} {t : TypeId} (h : Blk W g l t) (off : Nat) (cs : List Value) (hc : ∀ j v, cs[j]? = some v → l[off + j]? = some v) : SrcV W (some ⟨g, off, none⟩) cs := fun _ => ⟨_, rfl, fun j v hv => by
  rw [Addr.add_mid, blk_cell h]; exact hc j v hv⟩
theorem blk_kr {w W : World} {rs : List (Nat × List Value)} (HK : KR w rs W) {g : Nat} {l : List Value} {t : TypeId} (h : Blk W g l t) (h0 : w.heap.size ≤ g) (hne : ∀ p ∈ rs, p.1 ≠ g) : KR w ((g, l) :: rs) W := by
  refine ⟨HK.below, fun p hp => ?_, List.Pairwise.cons (fun q hq e => hne q hq e.symm) HK.apart⟩
  rcases List.mem_cons.1 hp with rfl | hp
  · refine ⟨h0, blk_lt h, fun j v hv => ?_, fun j hj => ⟨?_, ?_⟩⟩
    · rw [Nat.zero_add, blk_cell h]; exact hv
    · rw [Nat.zero_add, blk_cell h, List.getElem?_eq_getElem hj]; rfl
    · rw [Nat.zero_add]; exact blk_free h j
  · exact HK.rows p hp
/-- What a printed text reads, as this session's sources. -/
theorem c_srcV {W : World} {k : IntKind} {A : Option Addr} {n : Nat} {xs : List Int} (h : Kd.C (Kd.int k) W A n xs) : SrcV W A (xs.map (.int k)) := fun hl => by
  have hp : 0 < n := by rw [← h.1]; simpa using hl
  obtain ⟨ad, hA, hc⟩ := h.2.2 hp
  refine ⟨ad, hA, fun j v hv => ?_⟩
  rw [List.getElem?_map] at hv
  obtain ⟨x, hx, rfl⟩ := Option.map_eq_some_iff.1 hv
  obtain ⟨c, hc1, hc2, hc3⟩ := hc j x hx
  have hc2' : c = [Value.int k x] := hc2
  subst hc2'
  have hz : (Kd.int k).sz = 1 := rfl
  have := hc3 0 _ rfl
  rwa [hz, Nat.mul_one, Nat.add_zero] at this
theorem srcV_c {W : World} {k : IntKind} {A : Option Addr} {n : Nat} {xs : List Int} (hn : xs.length = n) (h2 : n ≤ 9223372036854775807) (h : SrcV W A (xs.map (.int k))) : Kd.C (Kd.int k) W A n xs := by
  refine ⟨hn, h2, fun hp => ?_⟩
  obtain ⟨ad, hA, hc⟩ := h (by rw [List.length_map, hn]; exact hp)
  refine ⟨ad, hA, fun j p hj => ⟨[.int k p], rfl, rfl, fun i u hu => ?_⟩⟩
  have hi : i = 0 := by
    have := (List.getElem?_eq_some_iff.1 hu).1
    simp at this
    exact this
  subst hi
  simp only [List.getElem?_cons_zero, Option.some.injEq] at hu
  subst hu
  have hz : (Kd.int k).sz = 1 := rfl
  rw [hz, Nat.mul_one, Nat.add_zero]
  exact hc j _ (by rw [List.getElem?_map, hj]; rfl)
theorem reps_int (k : IntKind) (xs : List Int) (P : Int → List Value → Prop) (hP : ∀ x, P x [Value.int k x]) : Reps P 1 xs (xs.map (.int k)) := by
  refine ⟨by simp, fun j p hj => ?_⟩
  have hlt := (List.getElem?_eq_some_iff.1 hj).1
  have e : ((xs.map (Value.int k)).drop (j * 1)).take 1 = [Value.int k p] := by
    rw [Nat.mul_one, List.drop_eq_getElem_cons (by simpa using hlt)]
    simp [(List.getElem?_eq_some_iff.1 hj).2]
  rw [e]
  exact hP p
/-- A block of the call's own, as the printed texts have it. -/
theorem own_R {w W : World} {rs : List (Nat × List Value)} {k : IntKind} {e : TypeId} {v : Value} {xs : List Int} (h : Own w rs e 1 v xs.length (xs.map (.int k)) W) : Kd.R (Kd.int k) e W w.heap.size (fun _ => True) v xs :=
  ⟨fun _ _ => trivial, xs.map (.int k), h.1, reps_int k xs _ (fun _ => rfl)⟩
theorem blk_R {w W : World} {k : IntKind} {e : TypeId} {g cap : Nat} {l : List Value} {xs : List Int} (h : Blk W g l e) (h0 : w.heap.size ≤ g) (hc : l.length = cap) (hm : cap ≤ maxLen) (hn : xs.length ≤ cap) (ht : l.take xs.length = xs.map (.int k)) : Kd.R (Kd.int k) e W w.heap.size (fun _ => True) (.slice (some ⟨g, 0, none⟩) xs.length cap) xs :=
  own_R (rs := []) ⟨⟨by simp, .inr ⟨g, cap, l.toArray, rfl, h0, h, hn, hm, by simp [hc], by simpa using ht⟩⟩, fun k hk p hp => by simp at hp⟩
/-- And back: what was made by a printed function is a row. -/
theorem r_rows {w W W' : World} {rs : List (Nat × List Value)} (HK : KR w rs W) (hb : Below W.heap.size W W') {k : IntKind} {e : TypeId} {ok : Nat → Prop} {v : Value} {xs : List Int} (h : Kd.R (Kd.int k) e W' W.heap.size ok v xs) : ∃ l, KR w (l ++ rs) W' ∧ SC l 1 v xs.length (xs.map (.int k)) := by
  obtain ⟨_, inner, ho, hr⟩ := h
  have hz : (Kd.int k).sz = 1 := rfl
  rw [hz] at ho hr
  have hin : inner = xs.map (.int k) := by
    apply List.ext_getElem?
    intro j
    rw [List.getElem?_map]
    by_cases hj : j < xs.length
    · have h1 := hr.2 j _ (List.getElem?_eq_getElem hj)
      have h2 : ((inner.drop (j * 1)).take 1) = [Value.int k xs[j]] := h1
      have hl : j < inner.length := by have := hr.1; omega
      rw [Nat.mul_one, List.drop_eq_getElem_cons hl, List.take_succ_cons, List.take_zero] at h2
      injection h2 with h2
      rw [List.getElem?_eq_getElem hl, List.getElem?_eq_getElem hj, h2]
      rfl
    · rw [List.getElem?_eq_none (by have := hr.1; omega), List.getElem?_eq_none (by omega)]
      rfl
  rw [hin] at ho
  have HK' := kr_call HK hb
  have hown : Own w rs e 1 v xs.length (xs.map (.int k)) W' := by
    refine ⟨⟨ho.1, ?_⟩, fun q hq p hp => ?_⟩
    · rcases ho.2 with h0 | ⟨g, cap, cur, h1, h2, h3⟩
      · exact .inl h0
      · exact .inr ⟨g, cap, cur, h1, Nat.le_trans HK.below.size h2, h3⟩
    · have h1 := (ho.lt q hq).1
      have h2 := (HK.rows p hp).2.1
      omega
  exact own_settle HK' hown
end Go.Proofs.Ytaonaifnaecpiaa.Own

namespace Go.Proofs.Ytaonaifnaecpiaa.Own
/-- One bit's step. -/
def cstep (n : Nat) : Nat := if n % 2 = 1 then (n / 2) ^^^ 3988292384 else n / 2
def cstep4 (n : Nat) : Nat := cstep (cstep (cstep (cstep n)))
theorem cstep_xor (a b : Nat) : cstep (a ^^^ b) = cstep a ^^^ cstep b := by
  unfold cstep
  rw [Nat.xor_div_two]
  have h := Nat.xor_mod_two_eq_one (a := a) (b := b)
  by_cases ha : a % 2 = 1 <;> by_cases hb : b % 2 = 1
  · rw [if_neg (by rw [h]; simp [ha, hb]), if_pos ha, if_pos hb]
    rw [Nat.xor_assoc, Nat.xor_comm 3988292384 (b / 2 ^^^ 3988292384), Nat.xor_assoc (b / 2), Nat.xor_self, Nat.xor_zero]
  · rw [if_pos (by rw [h]; simp [ha, hb]), if_pos ha, if_neg hb]
    rw [Nat.xor_assoc, Nat.xor_comm (b / 2), ← Nat.xor_assoc]
  · rw [if_pos (by rw [h]; simp [ha, hb]), if_neg ha, if_pos hb]
    rw [Nat.xor_assoc]
  · rw [if_neg (by rw [h]; simp [ha, hb]), if_neg ha, if_neg hb]
theorem cstep4_xor (a b : Nat) : cstep4 (a ^^^ b) = cstep4 a ^^^ cstep4 b := by
  unfold cstep4
  simp only [cstep_xor]
theorem cstep_even (h : Nat) : cstep (2 * h) = h := by unfold cstep; rw [if_neg (by omega)]; omega
theorem cstep4_high (h : Nat) : cstep4 (16 * h) = h := by
  unfold cstep4
  rw [show 16 * h = 2 * (2 * (2 * (2 * h))) from by omega, cstep_even, cstep_even, cstep_even, cstep_even]
theorem split16 (s : Nat) : s = (16 * (s / 16)) ^^^ (s % 16) := by
  apply Nat.eq_of_testBit_eq
  intro i
  rw [Nat.testBit_xor]
  have h1 := Nat.testBit_two_pow_mul_add (i := 4) (s / 16) (b := s % 16) (by have := Nat.mod_lt s (by omega : 16 > 0); simpa using this) i
  have h2 := Nat.testBit_two_pow_mul_add (i := 4) (s / 16) (b := 0) (by simp) i
  rw [show 2 ^ 4 * (s / 16) + s % 16 = s from by have := Nat.div_add_mod s 16; omega] at h1
  rw [show 2 ^ 4 * (s / 16) + 0 = 16 * (s / 16) from by omega] at h2
  rw [h1, h2]
  by_cases hi : i < 4
  · simp [hi]
  · simp only [hi, if_false]
    have h3 : (s % 16).testBit i = false := by
      apply Nat.testBit_lt_two_pow
      have := Nat.mod_lt s (by omega : 16 > 0)
      have h4 : 2 ^ 4 ≤ 2 ^ i := Nat.pow_le_pow_right (by omega) (by omega)
      omega
    rw [h3]
    simp
theorem cstep4_table (s : Nat) : cstep4 s = (s / 16) ^^^ cstep4 (s % 16) := by
  conv => lhs; rw [split16 s]
  rw [cstep4_xor, cstep4_high]
theorem cstep_lt (n : Nat) (h : n < 4294967296) : cstep n < 4294967296 := by
  unfold cstep
  split
  · exact Nat.xor_lt_two_pow (n := 32) (by omega) (by omega)
  · omega
theorem cstep4_lt (n : Nat) (h : n < 4294967296) : cstep4 n < 4294967296 := cstep_lt _ (cstep_lt _ (cstep_lt _ (cstep_lt _ h)))
/-- A byte's step, of numbers below 256. -/
def cbyte (s c : Nat) : Nat := cstep4 (cstep4 (s ^^^ c))
def crcF (s : Nat) (cs : List Nat) : Nat := cs.foldl cbyte s
def crc (cs : List Nat) : Nat := crcF 4294967295 cs ^^^ 4294967295
theorem cbyte_lt (s c : Nat) (h : s < 4294967296) (hc : c < 256) : cbyte s c < 4294967296 := cstep4_lt _ (cstep4_lt _ (Nat.xor_lt_two_pow (n := 32) h (by omega)))
theorem crcF_lt (cs : List Nat) (hc : ∀ c ∈ cs, c < 256) : ∀ s, s < 4294967296 → crcF s cs < 4294967296 := by
  induction cs with
  | nil => exact fun s h => h
  | cons c cs ih => exact fun s h => ih (fun x hx => hc x (List.mem_cons_of_mem _ hx)) _ (cbyte_lt s c h (hc c List.mem_cons_self))
theorem crc_lt (cs : List Nat) (hc : ∀ c ∈ cs, c < 256) : crc cs < 4294967296 := Nat.xor_lt_two_pow (n := 32) (crcF_lt cs hc _ (by omega)) (by omega)
end Go.Proofs.Ytaonaifnaecpiaa.Own

namespace Go.Proofs.Ytaonaifnaecpiaa.Own
open Go.RowKit
set_option linter.unusedSimpArgs false
theorem wrap_u32 (n : Int) : IntKind.u32.wrap n = n % 4294967296 := by simp [IntKind.wrap, IntKind.bits, IntKind.signed]
theorem bits_u32 (op : BinOp) (a b : Nat) : bits op .u32 (a : Int) (b : Int) = IntKind.u32.wrap ((match op with
    | .and => BitVec.ofNat 32 a &&& BitVec.ofNat 32 b
    | .or => BitVec.ofNat 32 a ||| BitVec.ofNat 32 b
    | .xor => BitVec.ofNat 32 a ^^^ BitVec.ofNat 32 b
    | _ => BitVec.ofNat 32 a &&& ~~~ BitVec.ofNat 32 b).toNat : Int) := by
  unfold bits
  rw [show (IntKind.u32).bits = 32 from rfl, BitVec.ofInt_natCast, BitVec.ofInt_natCast]
  rfl
theorem bits_xor32 (a b : Nat) (ha : a < 4294967296) (hb : b < 4294967296) : bits .xor .u32 (a : Int) (b : Int) = ((a ^^^ b : Nat) : Int) := by
  have hx : a ^^^ b < 2 ^ 32 := Nat.xor_lt_two_pow (by omega) (by omega)
  rw [bits_u32 _ a b, wrap_u32]
  simp only [BitVec.toNat_xor, BitVec.toNat_ofNat]
  rw [Nat.mod_eq_of_lt (by omega : a < 2 ^ 32), Nat.mod_eq_of_lt (by omega : b < 2 ^ 32)]
  omega
theorem bits_and1 (a : Nat) (ha : a < 4294967296) : bits .and .u32 (a : Int) 1 = ((a % 2 : Nat) : Int) := by
  have := bits_u32 .and a 1
  rw [show ((1 : Nat) : Int) = 1 from rfl] at this
  rw [this, wrap_u32]
  simp only [BitVec.toNat_and, BitVec.toNat_ofNat]
  rw [Nat.mod_eq_of_lt (by omega : a < 2 ^ 32), show 1 % 2 ^ 32 = 2 ^ 1 - 1 from rfl, Nat.and_two_pow_sub_one_eq_mod]
  omega
theorem bits_and15 (a : Nat) (ha : a < 4294967296) : bits .and .u32 (a : Int) 15 = ((a % 16 : Nat) : Int) := by
  have := bits_u32 .and a 15
  rw [show ((15 : Nat) : Int) = 15 from rfl] at this
  rw [this, wrap_u32]
  simp only [BitVec.toNat_and, BitVec.toNat_ofNat]
  rw [Nat.mod_eq_of_lt (by omega : a < 2 ^ 32), show 15 % 2 ^ 32 = 2 ^ 4 - 1 from rfl, Nat.and_two_pow_sub_one_eq_mod]
  omega
def citer : Nat → Nat → Nat
  | 0, n => n
  | j + 1, n => cstep (citer j n)
theorem citer_lt (j n : Nat) (h : n < 4294967296) : citer j n < 4294967296 := by
  induction j with
  | zero => exact h
  | succ j ih => exact cstep_lt _ ih
theorem citer4 (n : Nat) : citer 4 n = cstep4 n := rfl
def tabL (k : Nat) : List Value := (List.range 16).map (fun j => .int .u32 ((if j < k then cstep4 j else 0 : Nat) : Int))
theorem tabL_len (k : Nat) : (tabL k).length = 16 := by simp [tabL]
theorem tabL_get (k j : Nat) (hj : j < 16) : (tabL k)[j]? = some (.int .u32 ((if j < k then cstep4 j else 0 : Nat) : Int)) := by simp [tabL, hj]
theorem tabL_set (k : Nat) (hk : k < 16) : (tabL k).set k (.int .u32 (cstep4 k : Nat)) = tabL (k + 1) := by
  apply List.ext_getElem?
  intro j
  rw [List.getElem?_set]
  by_cases hj : j < 16
  · rw [tabL_get _ _ hj, tabL_get _ _ hj]
    by_cases e : k = j
    · subst e
      rw [if_pos rfl, if_pos (by rw [tabL_len]; exact hj), if_pos (by omega)]
    · rw [if_neg e]
      by_cases h2 : j < k
      · rw [if_pos h2, if_pos (by omega)]
      · rw [if_neg h2, if_neg (by omega)]
  · rw [List.getElem?_eq_none (by rw [tabL_len]; omega), List.getElem?_eq_none (by rw [tabL_len]; omega)]
    by_cases e : k = j
    · omega
    · rw [if_neg e]
theorem tab_zero : (Try.prog.info? 73).map (fun i => (i.zero, i.size)) = some (some (.agg (tabL 0).toArray), 16) := by
  have h0 : (tabL 0).toArray = #[.int .u32 0, .int .u32 0, .int .u32 0, .int .u32 0, .int .u32 0, .int .u32 0, .int .u32 0, .int .u32 0, .int .u32 0, .int .u32 0, .int .u32 0, .int .u32 0, .int .u32 0, .int .u32 0, .int .u32 0, .int .u32 0] := rfl
  have h1 : (Try.prog.info? 73).map (fun i => (i.zero, i.size)) = some (some (.agg #[.int .u32 0, .int .u32 0, .int .u32 0, .int .u32 0, .int .u32 0, .int .u32 0, .int .u32 0, .int .u32 0, .int .u32 0, .int .u32 0, .int .u32 0, .int .u32 0, .int .u32 0, .int .u32 0, .int .u32 0, .int .u32 0]), 16) := by kernel_rfl
  rw [h1, h0]
attribute [irreducible] tabL
theorem cstep_bits (s : Nat) (hs : s < 4294967296) : bits .xor .u32 ((s : Int) / 2) (3988292384 * bits .and .u32 (s : Int) 1 % 4294967296) = ((cstep s : Nat) : Int) := by
  rw [bits_and1 s hs, show ((s : Int) / 2) = ((s / 2 : Nat) : Int) from by omega]
  unfold cstep
  rcases Nat.mod_two_eq_zero_or_one s with h | h
  · rw [h, if_neg (by omega), show (3988292384 * ((0 : Nat) : Int) % 4294967296) = ((0 : Nat) : Int) from rfl, bits_xor32 _ _ (by omega) (by omega), Nat.xor_zero]
  · rw [h, if_pos rfl, show (3988292384 * ((1 : Nat) : Int) % 4294967296) = ((3988292384 : Nat) : Int) from rfl, bits_xor32 _ _ (by omega) (by omega)]
theorem half_step (s : Nat) (hs : s < 4294967296) : ∃ m : Nat, m < 16 ∧ bits .and .u32 (s : Int) 15 = (m : Int) ∧ bits .xor .u32 ((s : Int) / 16) ((cstep4 m : Nat) : Int) = ((cstep4 s : Nat) : Int) := by
  refine ⟨s % 16, by omega, bits_and15 s hs, ?_⟩
  have h1 : s % 16 < 16 := by omega
  have h2 := cstep4_lt (s % 16) (by omega)
  rw [show ((s : Int) / 16) = ((s / 16 : Nat) : Int) from by omega, bits_xor32 _ _ (by omega) h2, ← cstep4_table]
/-- Bytes as numbers. -/
def nb (bs : List Int) : List Nat := bs.map Int.toNat
def isB (bs : List Int) : Prop := ∀ b ∈ bs, 0 ≤ b ∧ b < 256
theorem nb_lt {bs : List Int} (h : isB bs) : ∀ c ∈ nb bs, c < 256 := by
  intro c hc
  simp only [nb, List.mem_map] at hc
  obtain ⟨b, hb, rfl⟩ := hc
  have := h b hb
  omega
theorem crcF_take {bs : List Int} (k : Nat) (hk : k < bs.length) (s : Nat) : crcF s (nb (bs.take (k + 1))) = cbyte (crcF s (nb (bs.take k))) (bs[k].toNat) := by
  rw [List.take_succ_eq_append_getElem hk]
  unfold nb crcF
  rw [List.map_append, List.foldl_append]
  rfl
set_option maxRecDepth 100000 in
set_option maxHeartbeats 2000000 in
theorem sum_k {w W : World} {rs : List (Nat × List Value)} (HK : KR w rs W) (bs : List Int) (n : Nat) (hn : Hid (bs.length = n)) (hb : isB bs) (h2 : n ≤ 9223372036854775807) (sp : Option Addr) (cp : Nat) (hS : ∀ W1, KR w rs W1 → SrcV W1 sp (bs.map (.int .u8))) :
    Calls Try.prog 16 #[.slice sp n cp] W fun e W' => e = .returned (.int .u32 ((crc (nb bs) : Nat) : Int)) ∧ KR w rs W' := by
  have HS : Hid (∀ W1, KR w rs W1 → SrcV W1 sp (bs.map (.int .u8))) := hS
  have HB : Hid (isB bs) := hb
  have h3 : (n : Int) ≤ 9223372036854775807 := by omega
  clear hS hb
  go_enter Try.func16, Try.ntmps16
  go_wp2_with ((with_reducible show wpList _ _ _ (Oper.mk _ (Op.alloc 73) _ _ _ _ :: _) _ _); refine wl_alloc 73 (tabL 0) 16 rfl rfl tab_zero ?_; have H1 := kr_new HK (tabL 0) 73)
  obtain ⟨T, hT⟩ : ∃ T, W.heap.size = T := ⟨_, rfl⟩
  rw [hT] at H1 ⊢
  generalize W.alloc (.cells (tabL 0).toArray 73) = W1 at H1 ⊢
  clear hT HK
  go_loopw [9] (fun v9 W => ∃ k : Nat, v9 = .int .i64 k ∧ k ≤ 16 ∧ KR w ((T, tabL k) :: rs) W) (fun v9 _ => 16 - (intOf v9).toNat)
  case atStart => exact ⟨0, rfl, by omega, H1⟩
  case round =>
    clear H1
    obtain ⟨k, rfl, hk, H1⟩ := hrel
    by_cases hlt : k < 16
    · have hk2 : (k : Int) < 16 := by omega
      go_wp2_with fail
      go_loop [5, 14] (fun v5 v14 => ∃ j : Nat, v14 = .int .i64 j ∧ j ≤ 4 ∧ v5 = .int .u32 ((citer j k : Nat) : Int)) (fun _ v14 => 4 - (intOf v14).toNat)
      case atStart => exact ⟨0, rfl, by omega, rfl⟩
      case round =>
        obtain ⟨j, rfl, hj, rfl⟩ := hrel
        by_cases hj4 : j < 4
        · have hj2 : (j : Int) < 4 := by omega
          go_wp2_with fail
          go_round
          case rel => exact ⟨j + 1, by go_num, by omega, by rw [cstep_bits _ (citer_lt j k (by omega))]; rfl⟩
          case measure => (simp [intOf]; try omega)
        · obtain rfl : j = 4 := by omega
          rw [citer4]
          have f0 := kr_frozen H1 0 rfl k (by rw [tabL_len]; exact hlt)
          have k0 := kr_cell H1 0 rfl k _ (tabL_get k k hlt)
          have H2 := kr_fset H1 0 rfl k (by rw [tabL_len]; exact hlt) (.int .u32 (cstep4 k : Nat)) _ (tabL_set k hlt)
          simp only [List.set_cons_zero] at H2
          have HH : Hid (KR w ((T, tabL (k + 1)) :: rs) (wr.setCell ⟨T, k, none⟩ (.int .u32 (cstep4 k : Nat)))) := H2
          rw [if_neg (Nat.lt_irrefl k)] at k0
          clear H1 H2
          go_wp2_with fail
          go_round
          case rel => exact ⟨k + 1, by simp, by omega, HH.out⟩
          case measure => (simp [intOf]; try omega)
    · obtain rfl : k = 16 := by omega
      have hcell : ∀ W1, KR w ((T, tabL 16) :: rs) W1 → ∀ j, j < 16 → W1.cell? ⟨T, j, none⟩ = some (.int .u32 ((cstep4 j : Nat) : Int)) := fun W1 H j hj => by
        have := kr_cell H 0 rfl j _ (tabL_get 16 j hj)
        rwa [if_pos hj] at this
      have HC : Hid (∀ j, j < 16 → wr.cell? ⟨T, j, none⟩ = some (.int .u32 ((cstep4 j : Nat) : Int))) := hcell _ H1
      have HS2 : Hid (SrcV wr sp (bs.map (.int .u8))) := HS.out _ (kr_tail H1)
      have HK : Hid (KR w rs wr) := kr_tail H1
      clear hcell H1
      go_wp2_with fail
      go_loop [6, 29] (fun v6 v29 => ∃ j : Nat, v29 = .int .i64 j ∧ j ≤ n ∧ v6 = .int .u32 ((crcF 4294967295 (nb (bs.take j)) : Nat) : Int)) (fun _ v29 => n - (intOf v29).toNat)
      case atStart => exact ⟨0, rfl, by omega, rfl⟩
      case round =>
        obtain ⟨j, rfl, hj, rfl⟩ := hrel
        by_cases hjn : j < n
        · have hjl : j < bs.length := by rw [hn.out]; exact hjn
          obtain ⟨A, hA, hc⟩ := HS2.out (by rw [List.length_map]; omega)
          subst hA
          have hcj := hc j (.int .u8 bs[j]) (by rw [List.getElem?_map, List.getElem?_eq_getElem hjl]; rfl)
          clear hc
          have hbj := HB.out bs[j] (List.getElem_mem hjl)
          have HT : Hid (crcF 4294967295 (nb (bs.take (j + 1))) = cbyte (crcF 4294967295 (nb (bs.take j))) (bs[j].toNat)) := crcF_take j hjl _
          have hsl : crcF 4294967295 (nb (bs.take j)) < 4294967296 := crcF_lt _ (nb_lt (fun b hb => HB.out b (List.mem_of_mem_take hb))) _ (by omega)
          obtain ⟨c, hcc⟩ : ∃ c : Nat, bs[j] = (c : Int) := ⟨bs[j].toNat, by omega⟩
          rw [hcc] at hcj HT hbj
          rw [Int.toNat_natCast] at HT
          have hc256 : c < 256 := by omega
          have hc256i : (c : Int) < 256 := by omega
          clear hcc hbj hjl
          generalize crcF 4294967295 (nb (bs.take j)) = s at hsl HT ⊢
          have x1 := bits_xor32 s c hsl (by omega)
          have l1 : s ^^^ c < 4294967296 := Nat.xor_lt_two_pow (n := 32) (by omega) (by omega)
          have HT2 : Hid (crcF 4294967295 (nb (bs.take (j + 1))) = cstep4 (cstep4 (s ^^^ c))) := HT.out
          clear HT
          generalize s ^^^ c = s1 at x1 l1 HT2
          obtain ⟨m1, hm1, a1, y1⟩ := half_step s1 l1
          have c1 := HC.out m1 hm1
          have l2 := cstep4_lt s1 l1
          generalize cstep4 s1 = s2 at y1 l2 HT2
          obtain ⟨m2, hm2, a2, y2⟩ := half_step s2 l2
          have c2 := HC.out m2 hm2
          generalize cstep4 s2 = s3 at y2 HT2
          have hm1i : (m1 : Int) < 16 := by omega
          have hm2i : (m2 : Int) < 16 := by omega
          go_wp2_with fail
          go_round
          case rel => exact ⟨j + 1, by go_num, by omega, by rw [HT2.out]⟩
          case measure => (simp [intOf]; try omega)
        · obtain rfl : j = n := by omega
          rw [List.take_of_length_le (by rw [hn.out]; omega)]
          have hsl : crcF 4294967295 (nb bs) < 4294967296 := crcF_lt _ (nb_lt HB.out) _ (by omega)
          have HE : Hid (crc (nb bs) = crcF 4294967295 (nb bs) ^^^ 4294967295) := rfl
          generalize crcF 4294967295 (nb bs) = s at hsl HE ⊢
          have hsg : IntKind.u32.signed = false := rfl
          have hmx : bits .xor .u32 IntKind.u32.max (s : Int) = ((s ^^^ 4294967295 : Nat) : Int) := by
            rw [show IntKind.u32.max = ((4294967295 : Nat) : Int) from rfl, bits_xor32 _ _ (by omega) hsl, Nat.xor_comm]
          go_wp2_with fail
          go_ret
          exact ⟨by rw [HE.out]; rfl, HK.out⟩
end Go.Proofs.Ytaonaifnaecpiaa.Own

namespace Go.Proofs.Ytaonaifnaecpiaa.Own
open Go.RowKit Go.Proofs.YtaonaifnaecpiaaW.PrintWords
set_option linter.unusedSimpArgs false
/-- A number's lowest bytes, the highest first. -/
def be : Nat → Nat → List Int
  | 0, _ => []
  | m + 1, v => be m (v / 256) ++ [((v % 256 : Nat) : Int)]
theorem be_len (m v : Nat) : (be m v).length = m := by
  induction m generalizing v with
  | zero => rfl
  | succ m ih => simp [be, ih]
theorem be_cons (m v : Nat) : be (m + 1) v = ((v / 256 ^ m % 256 : Nat) : Int) :: be m v := by
  induction m generalizing v with
  | zero => simp [be]
  | succ m ih =>
    rw [be, ih (v / 256)]
    rw [be, List.cons_append, Nat.div_div_eq_div_mul, show 256 * 256 ^ m = 256 ^ (m + 1) from by rw [Nat.pow_succ, Nat.mul_comm]]
theorem be_isB (m v : Nat) : isB (be m v) := by
  induction m generalizing v with
  | zero => intro b hb; simp [be] at hb
  | succ m ih =>
    intro b hb
    rw [be] at hb
    rcases List.mem_append.1 hb with hb | hb
    · exact ih _ b hb
    · rw [List.mem_singleton.1 hb]; omega
def bcl (xs : List Int) : List Value := xs.map (.int .u8)
theorem bcl_len (xs : List Int) : (bcl xs).length = xs.length := by simp [bcl]
theorem bcl_one (xs : List Int) : ∀ v ∈ bcl xs, v.oneCell' = true := by
  intro v hv
  simp only [bcl, List.mem_map] at hv
  obtain ⟨x, _, rfl⟩ := hv
  rfl
theorem mid_set (pre a b : List Value) (u v : Value) (n : Nat) (hn : n = pre.length + a.length) : (pre ++ (a ++ u :: b)).set n v = pre ++ (a ++ v :: b) := by
  subst hn
  rw [List.set_append_right _ _ (by omega), List.set_append_right _ _ (by omega)]
  rw [show pre.length + a.length - pre.length - a.length = 0 from by omega]
  rfl
set_option maxHeartbeats 1000000 in
theorem put_k {w W : World} (hB : Below w.heap.size w W) (g : Nat) (hg : w.heap.size ≤ g) (t : TypeId) (pre mid post : List Value) (o m : Nat) (ho : pre.length = o) (hm : mid.length = m) (hm2 : m ≤ 1000) (h : Blk W g (pre ++ (mid ++ post)) t) (v : Nat) (hv : v < 18446744073709551616) (cap : Nat) :
    Calls Try.prog 41 #[.slice (some ⟨g, o, none⟩) m cap, .int .u64 (v : Int)] W fun e W' => e = .returned (.tuple #[]) ∧ Below w.heap.size w W' ∧ Blk W' g (pre ++ (bcl (be m v) ++ post)) t := by
  have HB : Hid (Below w.heap.size w W) := hB
  have HO : Hid (pre.length = o) := ho
  have HM : Hid (mid.length = m) := hm
  have HH : Hid (Blk W g (pre ++ (mid ++ post)) t) := h
  have h3 : (m : Int) ≤ 1000 := by omega
  clear hB ho hm h
  go_enter Try.func41, Try.ntmps41
  go_wp2
  go_loopw [1, 4] (fun v1 v4 W => ∃ k : Nat, k ≤ m ∧ v4 = .int .i64 ((k : Int) - 1) ∧ v1 = .int .u64 ((v / 256 ^ (m - k) : Nat) : Int) ∧ Below w.heap.size w W ∧ Blk W g (pre ++ (mid.take k ++ (bcl (be (m - k) v) ++ post))) t) (fun _ v4 _ => (intOf v4 + 1).toNat)
  case atStart => exact ⟨m, Nat.le_refl _, rfl, by simp, HB.out, by
    have := HH.out
    rw [List.take_of_length_le (by rw [HM.out]; omega), Nat.sub_self]
    exact this⟩
  case round =>
    clear HB HH
    obtain ⟨k, hk, rfl, rfl, HB, HH⟩ := hrel
    cases k with
    | zero =>
      have H1 : Hid (Below w.heap.size w wr) := HB
      have H2 : Hid (Blk wr g (pre ++ (bcl (be m v) ++ post)) t) := by
        have := HH
        simp only [List.take_zero, List.nil_append, Nat.sub_zero] at this
        exact this
      clear HB HH
      go_wp2_with fail
      exact bodyPost_end (results_none rfl _ _ _) rfl ⟨rfl, H1.out, H2.out⟩
    | succ k =>
      have hkm : k < mid.length := by rw [HM.out]; omega
      have e1 : pre ++ (mid.take (k + 1) ++ (bcl (be (m - (k + 1)) v) ++ post)) = pre ++ (mid.take k ++ mid[k] :: (bcl (be (m - (k + 1)) v) ++ post)) := by
        rw [List.take_succ_eq_append_getElem hkm, List.append_assoc, List.singleton_append]
      rw [e1] at HH
      have hlen : o + k = pre.length + (mid.take k).length := by rw [HO.out, List.length_take]; omega
      have hcell : wr.cell? ⟨g, o + k, none⟩ = some mid[k] := by
        rw [blk_cell HH, hlen, List.getElem?_append_right (by omega), List.getElem?_append_right (by omega), show pre.length + (mid.take k).length - pre.length - (mid.take k).length = 0 from by omega]
        rfl
      have hfro := blk_free HH (o + k)
      have hx : v / 256 ^ (m - (k + 1)) < 18446744073709551616 := Nat.lt_of_le_of_lt (Nat.div_le_self _ _) hv
      have hnext : v / 256 ^ (m - (k + 1)) / 256 = v / 256 ^ (m - k) := by
        rw [Nat.div_div_eq_div_mul, ← Nat.pow_succ]
        congr 2; omega
      have hbe : be (m - k) v = ((v / 256 ^ (m - (k + 1)) % 256 : Nat) : Int) :: be (m - (k + 1)) v := by
        rw [show m - k = (m - (k + 1)) + 1 from by omega, be_cons]
      have HS : Hid (Blk (wr.setCell ⟨g, o + k, none⟩ (.int .u8 ((v / 256 ^ (m - (k + 1)) % 256 : Nat) : Int))) g (pre ++ (mid.take k ++ (bcl (be (m - k) v) ++ post))) t) := by
        have := blk_set HH (o + k) (.int .u8 ((v / 256 ^ (m - (k + 1)) % 256 : Nat) : Int))
        rw [mid_set _ _ _ _ _ _ hlen] at this
        rw [hbe]
        exact this
      have HB2 : Hid (Below w.heap.size w (wr.setCell ⟨g, o + k, none⟩ (.int .u8 ((v / 256 ^ (m - (k + 1)) % 256 : Nat) : Int)))) := HB.setCell hg _
      have HN : Hid (v / 256 ^ (m - (k + 1)) / 256 = v / 256 ^ (m - k)) := hnext
      generalize mid[k] = u0 at hcell
      clear HH HB hbe e1 hnext hlen hkm
      generalize v / 256 ^ (m - (k + 1)) = x at hx HS HB2 HN ⊢
      have hk2 : (k : Int) < (m : Int) := by omega
      go_wp2_with fail
      have ex : ((x : Int) % 256) = ((x % 256 : Nat) : Int) := by omega
      have ed : ((x : Int) / 256) = ((x / 256 : Nat) : Int) := by omega
      go_round
      case rel => exact ⟨k, by omega, rfl, by rw [ed, HN.out], by rw [ex]; exact HB2.out, by rw [ex]; exact HS.out⟩
      case measure => (simp [intOf]; try omega)
/-- A frame's bytes. -/
def frameB (q : Nat) (bs : List Int) : List Int := be 4 bs.length ++ (be 4 (crc (nb (be 8 q ++ bs))) ++ (be 8 q ++ bs))
theorem frameB_len (q : Nat) (bs : List Int) : (frameB q bs).length = 16 + bs.length := by
  unfold frameB
  simp only [List.length_append, be_len]
  omega
theorem isB_app {a b : List Int} (ha : isB a) (hb : isB b) : isB (a ++ b) := fun x hx => by
  rcases List.mem_append.1 hx with h | h
  · exact ha x h
  · exact hb x h
def zs (n : Nat) : List Value := List.replicate n (.int .u8 0)
theorem zs_len (n : Nat) : (zs n).length = n := by simp [zs]
theorem make_zs (n : Nat) (hn : n ≤ 140737488351232) (W : World) : (Instr.makeSlice 23 (.int .i64 (16 + (n : Int))) (.int .i64 (16 + (n : Int)))).run Try.prog W = .ok (.slice (some ⟨W.heap.size, 0, none⟩) (16 + n) (16 + n)) (W.alloc (.cells (zs 4 ++ (zs 4 ++ (zs 8 ++ zs n))).toArray 5)) := by
  obtain ⟨i, hi0, hi1⟩ := Option.map_eq_some_iff.1 lu8_info
  simp only [Prod.mk.injEq] at hi1
  obtain ⟨hz, hs, hb⟩ := hi1
  have hr := run_make (P := Try.prog) W 23 5 i (.int .u8 0) Try.underlying23 hi0 hz .i64 .i64 (16 + (n : Int)) (16 + (n : Int)) (by omega) (by omega) (by rw [hb]; omega) (by omega)
  rw [hs, show (16 + (n : Int)).toNat = 16 + n from by omega, Nat.mul_one] at hr
  have e : madeCells (Value.int .u8 0).cells (16 + n) = (zs 4 ++ (zs 4 ++ (zs 8 ++ zs n))).toArray := by
    have h1 : zs 4 ++ (zs 4 ++ (zs 8 ++ zs n)) = List.replicate (16 + n) (.int .u8 0) := by
      unfold zs
      rw [List.replicate_append_replicate, List.replicate_append_replicate, List.replicate_append_replicate]
      rw [show 4 + (4 + (8 + n)) = 16 + n from by omega]
    rw [h1]
    exact Array.ext (by simp [madeCells, Value.cells]) (fun i h1 h2 => by simp [madeCells, Value.cells, Nat.mod_one])
  rw [e] at hr
  exact hr
def log_Frame.f (q : Int) (bs : List Int) : Option (List Int × Int) := if (bs.length : Int) > 60000 then some ([], 3) else if (∀ b ∈ bs, 0 ≤ b ∧ b < 256) ∧ 0 ≤ q ∧ q < 18446744073709551616 then some (frameB q.toNat bs, 0) else none
theorem wrap_u64' (n : Int) : IntKind.u64.wrap n = n % 18446744073709551616 := by simp [IntKind.wrap, IntKind.bits, IntKind.signed]
theorem wrap_small (c : Nat) (h : c < 4294967296) : IntKind.u64.wrap (c : Int) = (c : Int) := by rw [wrap_u64']; omega
theorem lu8_size : (Try.prog.info? 5).map (·.size) = some 1 := by kernel_rfl
theorem cpy (w2 : World) (t : TypeId) {g : Nat} (bs : List Int) (n : Nat) (hn : bs.length = n) (h : Hid (w2.heap[g]? = some (.cells (splice (zs 4 ++ (zs 4 ++ (zs 8 ++ zs n))) 16 (bcl bs)).toArray t (0, 0)))) : Hid (Blk w2 g ([] ++ (zs 4 ++ (zs 4 ++ (zs 8 ++ bcl bs)))) t) := by
  have e : splice (zs 4 ++ (zs 4 ++ (zs 8 ++ zs n))) 16 (bcl bs) = zs 4 ++ (zs 4 ++ (zs 8 ++ bcl bs)) := by
    have e1 : zs 4 ++ (zs 4 ++ (zs 8 ++ zs n)) = zs 16 ++ zs n := by
      unfold zs
      simp only [List.replicate_append_replicate]
      rw [show 4 + (4 + (8 + n)) = 16 + n from by omega]
    have e2 : zs 4 ++ (zs 4 ++ (zs 8 ++ bcl bs)) = zs 16 ++ bcl bs := by
      unfold zs
      rw [← List.append_assoc, ← List.append_assoc, List.replicate_append_replicate, List.replicate_append_replicate]
    rw [e1, e2]
    unfold splice
    rw [List.take_append_of_le_length (by rw [zs_len]; omega), List.take_of_length_le (by rw [zs_len]; omega), List.drop_eq_nil_of_le (by rw [List.length_append, zs_len, zs_len, bcl_len]; omega), List.append_nil]
  have := h.out
  rw [e] at this
  exact this
theorem fr_get (n q : Nat) (bs : List Int) : ∀ j v, ((be 8 q ++ bs).map (Value.int .u8))[j]? = some v → (bcl (be 4 n) ++ (zs 4 ++ (bcl (be 8 q) ++ bcl bs)))[8 + j]? = some v := by
  intro j v h
  rw [List.getElem?_append_right (by rw [bcl_len, be_len]; omega), List.getElem?_append_right (by rw [bcl_len, be_len, zs_len]; omega), bcl_len, be_len, zs_len, show 8 + j - 4 - 4 = j from by omega]
  rw [← h]
  simp [bcl]
theorem fr_fin {W : World} {g : Nat} {t : TypeId} (bs : List Int) (n q : Nat) (hn : bs.length = n) (h : Blk W g (bcl (be 4 n) ++ (bcl (be 4 (crc (nb (be 8 q ++ bs)))) ++ (bcl (be 8 q) ++ bcl bs))) t) : Blk W g (bcl (frameB q bs)) t := by
  subst hn
  unfold frameB
  simp only [bcl, List.map_append] at h ⊢
  exact h
set_option maxRecDepth 100000 in
set_option maxHeartbeats 2000000 in
theorem frame_k {w : World} (q : Nat) (hq : q < 18446744073709551616) (bs : List Int) (n : Nat) (hn : Hid (bs.length = n)) (h2 : n ≤ 60000) (hb : isB bs) (sp : Option Addr) (cp : Nat) (hS : SrcV w sp (bcl bs)) :
    Calls Try.prog 11 #[.int .u64 (q : Int), .slice sp n cp] w fun e W' => ∃ g, e = .returned (.tuple #[.slice (some ⟨g, 0, none⟩) (16 + n) (16 + n), .int .i64 0]) ∧ w.heap.size ≤ g ∧ Below w.heap.size w W' ∧ Blk W' g (bcl (frameB q bs)) 5 := by
  have h3 : (n : Int) ≤ 60000 := by omega
  have hmk := make_zs n (by omega)
  have HB : Hid (isB bs) := hb
  have H1 : Hid (Below w.heap.size w (w.alloc (.cells (zs 4 ++ (zs 4 ++ (zs 8 ++ zs n))).toArray 5))) := bw_alloc (Below.refl _ _) _
  have B1 : Hid (Blk (w.alloc (.cells (zs 4 ++ (zs 4 ++ (zs 8 ++ zs n))).toArray 5)) w.heap.size (zs 4 ++ (zs 4 ++ (zs 8 ++ zs n))) 5) := blk_new w _ _
  have S1 : Hid (SrcV (w.alloc (.cells (zs 4 ++ (zs 4 ++ (zs 8 ++ zs n))).toArray 5)) sp (bcl bs)) := srcV_keep hS (bw_alloc (Below.refl _ _) _)
  have hcr : crc (nb (be 8 q ++ bs)) < 4294967296 := crc_lt _ (nb_lt (isB_app (be_isB 8 q) hb))
  have hcr2 : ((crc (nb (be 8 q ++ bs)) : Nat) : Int) < 4294967296 := by omega
  have HQ : Hid (q < 18446744073709551616) := hq
  have HC : Hid (_ ∧ _) := ⟨hcr, hcr2⟩
  have H2 : Hid (n ≤ 60000) := h2
  clear hS hb hq hcr hcr2 h2
  rcases Nat.eq_zero_or_pos n with h0 | h0
  · subst h0
    have hmk : ∀ W : World, (Instr.makeSlice 23 (.int .i64 16) (.int .i64 16)).run Try.prog W = .ok (.slice (some ⟨W.heap.size, 0, none⟩) 16 16) (W.alloc (.cells (zs 4 ++ (zs 4 ++ (zs 8 ++ zs 0))).toArray 5)) := hmk
    go_enter Try.func11, Try.ntmps11
    go_wp2_with (first | ((with_reducible show wpList _ _ _ (Oper.mk _ (Op.call { callee := Callee.builtin Builtin.copy, args := _, argTypes := _ }) _ _ _ _ :: _) _ _); refine wpList_copy_splice rfl _ _ 23 23 rfl 5 Try.underlying23 lu8_size _ _ _ _ _ _ rfl rfl w.heap.size 16 (zs 4 ++ (zs 4 ++ (zs 8 ++ zs 0))) 5 B1.out (bcl bs) (by rw [bcl_len, hn.out]; simp) (fun h => absurd h (by rw [bcl_len, hn.out]; omega)) (by rw [bcl_len, hn.out]; simp [zs_len]; try omega) (bcl_one bs) w.heap.size w H1.out (Nat.le_refl _) (fun w2 HG2 HB2 => ?_); have B2 := cpy w2 5 bs 0 hn.out HG2; clear B1 H1 HG2) | (go_at_call 41; refine (put_k HB2 w.heap.size (Nat.le_refl _) 5 [] (zs 4) (zs 4 ++ (zs 8 ++ bcl bs)) 0 4 rfl rfl (by omega) B2.out 0 (by omega) _).mono ?_; rintro e w3 ⟨rfl, HB3, B3⟩; clear HB2 B2; have B3 : Hid (Blk w3 w.heap.size ((bcl (be 4 0) ++ zs 4) ++ (zs 8 ++ bcl bs)) 5) := (by rw [List.append_assoc]; exact B3)) | (go_at_call 41; refine (put_k HB3 w.heap.size (Nat.le_refl _) 5 (bcl (be 4 0) ++ zs 4) (zs 8) (bcl bs) 8 8 (by rw [List.length_append, bcl_len, be_len, zs_len]) (zs_len 8) (by omega) B3.out q HQ.out _).mono ?_; rintro e w4 ⟨rfl, HB4, B4⟩; clear HB3 B3; have B4 : Hid (Blk w4 w.heap.size (bcl (be 4 0) ++ (zs 4 ++ (bcl (be 8 q) ++ bcl bs))) 5) := (by rw [← List.append_assoc]; exact B4)))
    have hb4 : Hid (Blk w4.drew w.heap.size (bcl (be 4 0) ++ (zs 4 ++ (bcl (be 8 q) ++ bcl bs))) 5) := blk_drew B4.out
    have hB4 : Hid (Below w.heap.size w w4.drew) := bw_drew HB4
    have hsum := sum_k (kr_refl w4.drew) (be 8 q ++ bs) 8 (by show _ = _; rw [List.length_append, be_len, hn.out]) (isB_app (be_isB 8 q) HB.out) (by have := H2.out; omega) (some ⟨w.heap.size, 8, none⟩) 8 (fun W1 H => srcV_keep (blk_srcV hb4.out 8 _ (fr_get 0 q bs)) H.below)
    have hput := fun w5 (H5 : KR w4.drew [] w5) => put_k (bw_step hB4.out H5.below) w.heap.size (Nat.le_refl _) 5 (bcl (be 4 0)) (zs 4) (bcl (be 8 q) ++ bcl bs) 4 4 (by rw [bcl_len, be_len]) (zs_len 4) (by omega) (blk_below hb4.out H5.below) (crc (nb (be 8 q ++ bs))) (by have := HC.out.1; omega) 12
    clear HB4 B4
    have hcr2 := HC.out.2
    generalize hcc : crc (nb (be 8 q ++ bs)) = c at hsum hput hcr2
    have HCC : Hid (crc (nb (be 8 q ++ bs)) = c) := hcc
    have hwc := wrap_small c (by omega)
    clear hcc
    go_region_held3 (fun _ => True) (trivial) (first | (go_at_call 16; refine hsum.mono ?_; rintro e w5 ⟨rfl, HB5⟩) | (go_at_call 41; refine (hput _ HB5).mono ?_; rintro e w6 ⟨rfl, HB6, B6⟩))
    all_goals go_wp2_with fail
    all_goals go_ret2
    all_goals exact ⟨_, rfl, Nat.le_refl _, HB6, fr_fin bs 0 q hn.out (by rw [HCC.out]; exact B6)⟩
  · have h0i : (0 : Int) < (n : Int) := by omega
    obtain ⟨N, hN⟩ : ∃ N, N = 16 + n := ⟨_, rfl⟩
    have HN : Hid (N = 16 + n) := hN
    have hmk2 : ∀ W : World, (Instr.makeSlice 23 (.int .i64 (16 + (n : Int))) (.int .i64 (16 + (n : Int)))).run Try.prog W = .ok (.slice (some ⟨W.heap.size, 0, none⟩) N N) (W.alloc (.cells (zs 4 ++ (zs 4 ++ (zs 8 ++ zs n))).toArray 5)) := by rw [hN]; exact hmk
    have n4 : (4 : Int) ≤ (N : Int) := by omega
    have n8 : (8 : Int) ≤ (N : Int) := by omega
    have n16 : (16 : Int) ≤ (N : Int) := by omega
    have m4 : 4 ≤ N := by omega
    have m8 : 8 ≤ N := by omega
    have m16 : 16 ≤ N := by omega
    have hNn : N - 16 = n := by omega
    have hN16 : ¬ N = 16 := by omega
    have hN8 : ¬ N = 8 := by omega
    have hN4 : ¬ N = 4 := by omega
    clear hmk hN
    go_enter Try.func11, Try.ntmps11
    go_wp2_with (first | ((with_reducible show wpList _ _ _ (Oper.mk _ (Op.call { callee := Callee.builtin Builtin.copy, args := _, argTypes := _ }) _ _ _ _ :: _) _ _); refine wpList_copy_splice rfl _ _ 23 23 rfl 5 Try.underlying23 lu8_size _ _ _ _ _ _ rfl rfl w.heap.size 16 (zs 4 ++ (zs 4 ++ (zs 8 ++ zs n))) 5 B1.out (bcl bs) (by rw [bcl_len, hn.out]; simp) (fun h => by obtain ⟨A, hA, hc⟩ := S1.out h; exact ⟨rfl, A, hA, hc⟩) (by rw [bcl_len, hn.out]; simp [zs_len]; try omega) (bcl_one bs) w.heap.size w H1.out (Nat.le_refl _) (fun w2 HG2 HB2 => ?_); have B2 := cpy w2 5 bs n hn.out HG2; clear B1 H1 HG2) | (go_at_call 41; refine (put_k HB2 w.heap.size (Nat.le_refl _) 5 [] (zs 4) (zs 4 ++ (zs 8 ++ bcl bs)) 0 4 rfl rfl (by omega) B2.out n (by have := H2.out; omega) _).mono ?_; rintro e w3 ⟨rfl, HB3, B3⟩; clear HB2 B2; have B3 : Hid (Blk w3 w.heap.size ((bcl (be 4 n) ++ zs 4) ++ (zs 8 ++ bcl bs)) 5) := (by rw [List.append_assoc]; exact B3)) | (go_at_call 41; refine (put_k HB3 w.heap.size (Nat.le_refl _) 5 (bcl (be 4 n) ++ zs 4) (zs 8) (bcl bs) 8 8 (by rw [List.length_append, bcl_len, be_len, zs_len]) (zs_len 8) (by omega) B3.out q HQ.out _).mono ?_; rintro e w4 ⟨rfl, HB4, B4⟩; clear HB3 B3; have B4 : Hid (Blk w4 w.heap.size (bcl (be 4 n) ++ (zs 4 ++ (bcl (be 8 q) ++ bcl bs))) 5) := (by rw [← List.append_assoc]; exact B4)))
    have hb4 : Hid (Blk w4.drew w.heap.size (bcl (be 4 n) ++ (zs 4 ++ (bcl (be 8 q) ++ bcl bs))) 5) := blk_drew B4.out
    have hB4 : Hid (Below w.heap.size w w4.drew) := bw_drew HB4
    have hsum := sum_k (kr_refl w4.drew) (be 8 q ++ bs) (N - 8) (by show _ = _; rw [List.length_append, be_len, hn.out]; have := HN.out; omega) (isB_app (be_isB 8 q) HB.out) (by have := H2.out; have := HN.out; omega) (some ⟨w.heap.size, 8, none⟩) (N - 8) (fun W1 H => srcV_keep (blk_srcV hb4.out 8 _ (fr_get n q bs)) H.below)
    have hput := fun w5 (H5 : KR w4.drew [] w5) => put_k (bw_step hB4.out H5.below) w.heap.size (Nat.le_refl _) 5 (bcl (be 4 n)) (zs 4) (bcl (be 8 q) ++ bcl bs) 4 4 (by rw [bcl_len, be_len]) (zs_len 4) (by omega) (blk_below hb4.out H5.below) (crc (nb (be 8 q ++ bs))) (by have := HC.out.1; omega) (N - 4)
    clear HB4 B4
    have hcr2 := HC.out.2
    generalize hcc : crc (nb (be 8 q ++ bs)) = c at hsum hput hcr2
    have HCC : Hid (crc (nb (be 8 q ++ bs)) = c) := hcc
    have hwc := wrap_small c (by omega)
    clear hcc
    go_region_held3 (fun _ => True) (trivial) (first | (go_at_call 16; refine hsum.mono ?_; rintro e w5 ⟨rfl, HB5⟩) | (go_at_call 41; refine (hput _ HB5).mono ?_; rintro e w6 ⟨rfl, HB6, B6⟩))
    all_goals go_wp2_with fail
    all_goals go_ret2
    all_goals exact ⟨_, by rw [HN.out]; rfl, Nat.le_refl _, HB6, fr_fin bs n q hn.out (by rw [HCC.out]; exact B6)⟩
end Go.Proofs.Ytaonaifnaecpiaa.Own

namespace Go.Proofs.Ytaonaifnaecpiaa.Own
open Go.RowKit Go.Proofs.YtaonaifnaecpiaaW.PrintWords
set_option linter.unusedSimpArgs false
set_option linter.unusedVariables false
def log_Sum.f (l0 : List Int) : Option Int := if (∀ b ∈ l0, 0 ≤ b ∧ b < 256) then some ((crc (nb l0) : Nat) : Int) else none
theorem log_Sum.calls (A0 : Option Addr) (c0 : Nat) (l0 : List Int) (r : Int) (w : World) (hr0 : Kd.C (Kd.int .u8) w A0 l0.length l0) (hc0 : l0.length ≤ c0) (h : log_Sum.f l0 = some r) :
    Calls Try.prog 16 #[.slice A0 l0.length c0] w fun e w' => e = .returned (.int .u32 r) ∧ Below w.heap.size w w' := by
  unfold log_Sum.f at h
  split at h
  · rename_i hb
    injection h with h
    subst h
    refine (sum_k (kr_refl w) l0 l0.length rfl hb hr0.2.1 A0 c0 (fun W1 H => srcV_keep (c_srcV hr0) H.below)).mono ?_
    rintro e w' ⟨rfl, H⟩
    exact ⟨rfl, H.below⟩
  · cases h
theorem log_Frame.calls (a0 : Int) (A1 : Option Addr) (c1 : Nat) (l1 : List Int) (r1 : List Int) (r2 : Int) (w : World) (hr1 : Kd.C (Kd.int .u8) w A1 l1.length l1) (hc1 : l1.length ≤ c1) (h : log_Frame.f a0 l1 = some (r1, r2)) :
    Calls Try.prog 11 #[.int .u64 a0, .slice A1 l1.length c1] w fun e w' => ∃ v0_ : Value, e = .returned (.tuple #[v0_, .int .i64 r2]) ∧ Kd.R (Kd.int .u8) 5 w' w.heap.size (fun _ => True) v0_ r1 ∧ Below w.heap.size w w' := by
  unfold log_Frame.f at h
  split at h
  · rename_i hl
    simp only [Option.some.injEq, Prod.mk.injEq] at h
    obtain ⟨rfl, rfl⟩ := h
    have hl2 : (60000 : Int) < (l1.length : Int) := hl
    clear hr1 hl
    generalize l1.length = n at hl2 hc1 ⊢
    have hd : decide ((60000 : Int) < (n : Int)) = true := decide_eq_true hl2
    go_enter Try.func11, Try.ntmps11
    go_wp2
    go_ret2
    exact ⟨_, rfl, Kd.R_nil _ _ _ _ _, Below.refl _ _⟩
  · split at h
    · rename_i hl hb
      simp only [Option.some.injEq, Prod.mk.injEq] at h
      obtain ⟨rfl, rfl⟩ := h
      obtain ⟨hb, h0, h1⟩ := hb
      obtain ⟨q, rfl⟩ : ∃ q : Nat, a0 = q := ⟨a0.toNat, by omega⟩
      rw [Int.toNat_natCast]
      refine (frame_k q (by omega) l1 l1.length rfl (by omega) hb A1 c1 (c_srcV hr1)).mono ?_
      rintro e w' ⟨g, rfl, h2, h3, h4⟩
      refine ⟨_, rfl, ?_, h3⟩
      have := blk_R (w := w) (k := .u8) (cap := 16 + l1.length) (xs := frameB q l1) h4 h2 (by rw [bcl_len, frameB_len]) (by unfold maxLen; omega) (by rw [frameB_len]; omega) (by rw [List.take_of_length_le (by rw [bcl_len]; omega)]; rfl)
      rwa [frameB_len] at this
    · cases h
def slices_Clone.f (l0 : List Int) : Option (List Int) := if l0.length < 140737488355328 then some l0 else none
theorem slices_Clone.calls (A0 : Option Addr) (c0 : Nat) (l0 : List Int) (r : List Int) (w : World) (hr0 : Kd.C (Kd.int .u8) w A0 l0.length l0) (hc0 : l0.length ≤ c0) (h : slices_Clone.f l0 = some r) :
    Calls Try.prog 63 #[.slice A0 l0.length c0] w fun e w' => ∃ v0_ : Value, e = .returned (v0_) ∧ Kd.R (Kd.int .u8) 5 w' w.heap.size (fun _ => True) v0_ r ∧ Below w.heap.size w w' := by
  unfold slices_Clone.f at h
  split at h
  · rename_i hl
    injection h with h
    subst h
    have HS : Hid (SrcV w A0 (l0.map (.int .u8))) := c_srcV hr0
    have HL : Hid (l0.length < 140737488355328) := hl
    have hnil : ∀ n c, (binOp .eql 23 (.slice A0 n c) (.slice none 0 0)).run Try.prog w = .ok (.bool A0.isNone) w := fun n c => Lib.run_eql_slice_nil w 23 5 A0 n c 0 0 Try.underlying23
    rcases A0 with _ | A
    · have h0 : l0 = [] := by
        rcases l0 with _ | ⟨x, l0⟩
        · rfl
        · obtain ⟨ad, hA, _⟩ := hr0.2.2 (by simp)
          cases hA
      subst h0
      clear hr0 hl
      go_enter Try.func63, Try.ntmps63
      go_wp2
      go_ret
      exact ⟨_, rfl, Kd.R_nil _ _ _ _ _, Below.refl _ _⟩
    · have H1 : KR w [] (w.alloc (.cells #[] 5)) := kr_alloc (kr_refl w) _
      have O1 : Own w [] 5 1 (.slice (some ⟨w.heap.size, 0, none⟩) 0 0) 0 [] (w.alloc (.cells #[] 5)) := ⟨World.ownsRow_made w #[] 0 (Nat.le_refl _) (by unfold maxLen; omega) (by simp), fun k hk p hp => by simp at hp⟩
      obtain ⟨n, hn⟩ : ∃ n, l0.length = n := ⟨_, rfl⟩
      have HN : Hid (l0.length = n) := hn
      rw [hn]
      clear hr0 hl hc0 hn
      go_enter Try.func63, Try.ntmps63
      go_wp2_with (at_builtin; refine wl_appendK _ _ 23 5 (.int .u8 0) 1 1 H1 O1 (some A) n c0 (l0.map (.int .u8)) (srcV_keep HS.out (bw_alloc (Below.refl _ _) _)) (by rw [List.length_map, HN.out]; omega) (by intro v hv; simp only [List.mem_map] at hv; obtain ⟨x, _, rfl⟩ := hv; rfl) (by have := HL.out; have := HN.out; unfold maxLen; omega) (by have := HL.out; have := HN.out; omega) Try.underlying23 lu8_info rfl (by omega) rfl rfl (by rfl) (by rfl) (fun v' W' O2 H2 hz => ?_))
      go_ret
      rw [Nat.zero_add, List.nil_append, ← HN.out] at O2
      exact ⟨_, rfl, own_R O2, H2.below⟩
  · cases h
end Go.Proofs.Ytaonaifnaecpiaa.Own

namespace Go.Proofs.Ytaonaifnaecpiaa.Own
open Go.RowKit Go.Proofs.YtaonaifnaecpiaaW.PrintWords
set_option linter.unusedSimpArgs false
set_option linter.unusedVariables false
/-- Bytes as a number, the highest first. -/
def numB (bs : List Int) : Nat := (nb bs).foldl (fun a b => a * 256 + b) 0
theorem numB_snoc (bs : List Int) (c : Int) : numB (bs ++ [c]) = numB bs * 256 + c.toNat := by simp [numB, nb]
theorem numF_lt (l : List Nat) (h : ∀ c ∈ l, c < 256) : ∀ a : Nat, l.foldl (fun a b => a * 256 + b) a < (a + 1) * 256 ^ l.length := by
  induction l with
  | nil => intro a; simp
  | cons c l ih =>
    intro a
    have h1 := ih (fun x hx => h x (List.mem_cons_of_mem _ hx)) (a * 256 + c)
    have h2 := h c List.mem_cons_self
    rw [List.foldl_cons, List.length_cons, Nat.pow_succ]
    refine Nat.lt_of_lt_of_le h1 ?_
    rw [Nat.mul_comm (256 ^ l.length) 256, ← Nat.mul_assoc]
    exact Nat.mul_le_mul_right _ (by omega)
theorem numB_lt (bs : List Int) (h : isB bs) : numB bs < 256 ^ bs.length := by
  have := numF_lt (nb bs) (nb_lt h) 0
  simpa [numB, nb] using this
theorem or_low (a b : Nat) (hb : b < 256) : a * 256 ||| b = a * 256 + b := by
  have := Nat.two_pow_add_eq_or_of_lt (i := 8) (b := b) (by simpa using hb) a
  rw [show 2 ^ 8 * a = a * 256 from by omega] at this
  exact this.symm
theorem bits_or64 (a b : Nat) (ha : a < 18446744073709551616) (hb : b < 18446744073709551616) : bits .or .u64 (a : Int) (b : Int) = ((a ||| b : Nat) : Int) := by
  have hx : a ||| b < 2 ^ 64 := Nat.or_lt_two_pow (by omega) (by omega)
  unfold bits
  rw [show (IntKind.u64).bits = 64 from rfl, BitVec.ofInt_natCast, BitVec.ofInt_natCast]
  show IntKind.u64.wrap ((BitVec.ofNat 64 a ||| BitVec.ofNat 64 b).toNat : Int) = _
  rw [wrap_u64']
  simp only [BitVec.toNat_or, BitVec.toNat_ofNat]
  rw [Nat.mod_eq_of_lt (by omega : a < 2 ^ 64), Nat.mod_eq_of_lt (by omega : b < 2 ^ 64)]
  omega
set_option maxRecDepth 100000 in
theorem get_k {w : World} (bs : List Int) (n : Nat) (hn : Hid (bs.length = n)) (hb : isB bs) (h2 : n ≤ 8) (sp : Option Addr) (cp : Nat) (hS : SrcV w sp (bcl bs)) :
    Calls Try.prog 62 #[.slice sp n cp] w fun e W' => e = .returned (.int .u64 ((numB bs : Nat) : Int)) ∧ w = W' := by
  have HS : Hid (SrcV w sp (bcl bs)) := hS
  have HB : Hid (isB bs) := hb
  have h3 : (n : Int) ≤ 8 := by omega
  clear hS hb
  go_enter Try.func62, Try.ntmps62
  go_wp2
  go_loop [2, 7] (fun v2 v7 => ∃ j : Nat, v7 = .int .i64 j ∧ j ≤ n ∧ v2 = .int .u64 ((numB (bs.take j) : Nat) : Int)) (fun _ v7 => n - (intOf v7).toNat)
  case atStart => exact ⟨0, rfl, by omega, rfl⟩
  case round =>
    obtain ⟨j, rfl, hj, rfl⟩ := hrel
    by_cases hjn : j < n
    · have hjl : j < bs.length := by rw [hn.out]; exact hjn
      obtain ⟨A, hA, hc⟩ := HS.out (by rw [bcl_len]; omega)
      subst hA
      have hcj := hc j (.int .u8 bs[j]) (by unfold bcl; rw [List.getElem?_map, List.getElem?_eq_getElem hjl]; rfl)
      clear hc
      have hbj := HB.out bs[j] (List.getElem_mem hjl)
      have HT : Hid (numB (bs.take (j + 1)) = numB (bs.take j) * 256 + (bs[j]).toNat) := by
        show _ = _
        rw [List.take_succ_eq_append_getElem hjl, numB_snoc]
      have hlt : numB (bs.take j) < 256 ^ j := by
        have := numB_lt (bs.take j) (fun b hb => HB.out b (List.mem_of_mem_take hb))
        rwa [List.length_take, Nat.min_eq_left (by omega)] at this
      have hlt7 : numB (bs.take j) < 72057594037927936 := Nat.lt_of_lt_of_le hlt (Nat.le_trans (Nat.pow_le_pow_right (by omega) (by omega : j ≤ 7)) (by decide))
      obtain ⟨c, hcc⟩ : ∃ c : Nat, bs[j] = (c : Int) := ⟨bs[j].toNat, by omega⟩
      rw [hcc] at hcj HT hbj
      rw [Int.toNat_natCast] at HT
      have hc256 : c < 256 := by omega
      have hc256i : (c : Int) < 256 := by omega
      clear hcc hbj hjl hlt
      generalize numB (bs.take j) = s at hlt7 HT ⊢
      have x1 : bits .or .u64 ((s : Int) * 256) (c : Int) = ((s * 256 + c : Nat) : Int) := by
        have := bits_or64 (s * 256) c (by omega) (by omega)
        rw [or_low s c hc256] at this
        rw [← this]; rfl
      have s7 : (s : Int) * 256 < 18446744073709551616 := by omega
      have Hs7 : Hid (s < 72057594037927936) := hlt7
      have hwr : (s : Int) * 256 % 18446744073709551616 = (s : Int) * 256 := by omega
      clear hlt7 s7
      go_wp2_with fail
      go_round
      case rel => exact ⟨j + 1, by go_num, by omega, by rw [HT.out]; go_num⟩
      case measure => (simp [intOf]; try omega)
    · obtain rfl : j = n := by omega
      rw [List.take_of_length_le (by rw [hn.out]; omega)]
      go_wp2_with fail
      go_ret
      exact ⟨rfl, rfl⟩
end Go.Proofs.Ytaonaifnaecpiaa.Own

namespace Go.Proofs.Ytaonaifnaecpiaa.Own
open Go.RowKit Go.Proofs.YtaonaifnaecpiaaW.PrintWords
set_option linter.unusedSimpArgs false
set_option linter.unusedVariables false
/-- The frame at the beginning of bytes: its number and its record. -/
def parse1 (bs : List Int) : Option (Nat × List Int) :=
  if bs.length < 16 then none
  else if 60000 < numB (bs.take 4) ∨ bs.length - 16 < numB (bs.take 4) then none
  else if numB (((bs.take (16 + numB (bs.take 4))).drop 4).take 4) = crc (nb ((bs.take (16 + numB (bs.take 4))).drop 8)) then some (numB (((bs.take (16 + numB (bs.take 4))).drop 8).take 8), (bs.take (16 + numB (bs.take 4))).drop 16)
  else none
def frameR : Option (Nat × List Int) → Nat × List Int × Bool
  | none => (0, [], false)
  | some (q, r) => (q, r, true)
theorem srcV_drop {W : World} {A : Addr} {bs : List Int} (h : SrcV W (some A) (bcl bs)) (k m : Nat) (hk : 0 < k) : SrcV W (some ⟨A.block, A.off + k, none⟩) (bcl ((bs.drop k).take m)) := fun hl => by
  rw [bcl_len, List.length_take, List.length_drop] at hl
  obtain ⟨B, hB, hc⟩ := h (by rw [bcl_len]; omega)
  injection hB with hB
  subst hB
  refine ⟨_, rfl, fun j v hv => ?_⟩
  have hj : j < m := by
    have := (List.getElem?_eq_some_iff.1 hv).1
    rw [bcl_len, List.length_take] at this
    omega
  have := hc (k + j) v (by
    unfold bcl at hv ⊢
    rw [List.getElem?_map, List.getElem?_take, if_pos hj, List.getElem?_drop] at hv
    rw [List.getElem?_map]
    exact hv)
  rw [← this]
  rw [Addr.add_mid]
  unfold Addr.add
  rw [if_neg (by omega)]
  congr 2
  omega
theorem srcV_take {W : World} {sp : Option Addr} {bs : List Int} (h : SrcV W sp (bcl bs)) (m : Nat) : SrcV W sp (bcl (bs.take m)) := fun hl => by
  rw [bcl_len, List.length_take] at hl
  obtain ⟨B, hB, hc⟩ := h (by rw [bcl_len]; omega)
  refine ⟨B, hB, fun j v hv => hc j v ?_⟩
  unfold bcl at hv ⊢
  rw [List.getElem?_map, List.getElem?_take] at hv
  rw [List.getElem?_map]
  split at hv
  · exact hv
  · cases hv
theorem isB_take {bs : List Int} (h : isB bs) (k : Nat) : isB (bs.take k) := fun b hb => h b (List.mem_of_mem_take hb)
theorem isB_drop {bs : List Int} (h : isB bs) (k : Nat) : isB (bs.drop k) := fun b hb => h b (List.mem_of_mem_drop hb)
theorem srcV_dropA {W : World} {A : Addr} {bs : List Int} (h : SrcV W (some A) (bcl bs)) (k c : Nat) (hk : 0 < k) (hc : bs.length ≤ c) : SrcV W (if c = k then some A else some ⟨A.block, A.off + k, none⟩) (bcl (bs.drop k)) := by
  split
  · intro hl
    rw [bcl_len, List.length_drop] at hl
    omega
  · have := srcV_drop h k bs.length hk
    rwa [List.take_of_length_le (by rw [List.length_drop]; omega)] at this
set_option maxRecDepth 100000 in
set_option maxHeartbeats 2000000 in
theorem fram_k {w : World} (bs : List Int) (n : Nat) (hn : Hid (bs.length = n)) (hb : isB bs) (h2 : n ≤ 140737488351232) (sp : Option Addr) (c : Nat) (hc : n ≤ c) (hS : SrcV w sp (bcl bs)) :
    Calls Try.prog 43 #[.slice sp n c] w fun e W' => ∃ v, e = .returned (.tuple #[.int .u64 (((frameR (parse1 bs)).1 : Nat) : Int), v, .bool (frameR (parse1 bs)).2.2]) ∧ Kd.R (Kd.int .u8) 5 W' w.heap.size (fun _ => True) v (frameR (parse1 bs)).2.1 ∧ Below w.heap.size w W' := by
  by_cases h16 : n < 16
  · have e : parse1 bs = none := by unfold parse1; rw [if_pos (by rw [hn.out]; exact h16)]
    rw [e]
    have hi : (n : Int) < 16 := by omega
    clear e h2 hS
    go_enter Try.func43, Try.ntmps43
    go_wp2
    refine bodyPost_ret (v := .tuple #[.int .u64 0, .slice none 0 0, .bool false]) (by simp [results, Try.results43, go_sem]) rfl ⟨_, rfl, Kd.R_nil _ _ _ _ _, Below.refl _ _⟩
  · obtain ⟨A, rfl⟩ : ∃ A, sp = some A := by
      obtain ⟨A, hA, _⟩ := hS (by rw [bcl_len, hn.out]; omega)
      exact ⟨A, hA⟩
    have g4 := get_k (w := w) (bs.take 4) 4 (by show _ = _; rw [List.length_take, hn.out]; omega) (isB_take hb 4) (by omega) (some A) c (srcV_take hS 4)
    have hm4 : numB (bs.take 4) < 4294967296 := by
      have := numB_lt (bs.take 4) (isB_take hb 4)
      rw [List.length_take, hn.out, Nat.min_eq_left (by omega)] at this
      exact this
    have hi : (16 : Int) ≤ (n : Int) := by omega
    have hic : (16 : Int) ≤ (c : Int) := by omega
    have hc16 : 16 ≤ c := by omega
    have hni : (n : Int) ≤ 140737488351232 := by omega
    have HS : Hid (SrcV w (some A) (bcl bs)) := hS
    have HB : Hid (isB bs) := hb
    have HP : Hid (parse1 bs = if 60000 < numB (bs.take 4) ∨ bs.length - 16 < numB (bs.take 4) then none else if numB (((bs.take (16 + numB (bs.take 4))).drop 4).take 4) = crc (nb ((bs.take (16 + numB (bs.take 4))).drop 8)) then some (numB (((bs.take (16 + numB (bs.take 4))).drop 8).take 8), (bs.take (16 + numB (bs.take 4))).drop 16) else none) := by
      show _ = _
      unfold parse1
      rw [if_neg (by rw [hn.out]; exact h16)]
    rw [hn.out] at HP
    generalize numB (bs.take 4) = m at g4 hm4 HP
    clear hS hb
    by_cases hbig : 60000 < m ∨ n - 16 < m
    · have e : parse1 bs = none := by rw [HP.out, if_pos hbig]
      rw [e]
      clear HP e
      by_cases hb1 : 60000 < m
      · have hb1i : (60000 : Int) < (m : Int) := by omega
        clear hbig hm4
        go_enter Try.func43, Try.ntmps43
        go_wp2_with (go_at_call 62; refine g4.mono ?_; rintro e w' ⟨rfl, rfl⟩)
        refine bodyPost_ret (v := .tuple #[.int .u64 0, .slice none 0 0, .bool false]) (by simp [results, Try.results43, go_sem]) rfl ⟨_, rfl, Kd.R_nil _ _ _ _ _, Below.refl _ _⟩
      · have hb1i : (m : Int) ≤ 60000 := by omega
        have hb2i : (n : Int) - 16 < (m : Int) := by omega
        have hwr : ((n : Int) - 16) % 18446744073709551616 = (n : Int) - 16 := by omega
        clear hbig hm4 hb1
        go_enter Try.func43, Try.ntmps43
        go_wp2_with (go_at_call 62; refine g4.mono ?_; rintro e w' ⟨rfl, rfl⟩)
        refine bodyPost_ret (v := .tuple #[.int .u64 0, .slice none 0 0, .bool false]) (by simp [results, Try.results43, go_sem]) rfl ⟨_, rfl, Kd.R_nil _ _ _ _ _, Below.refl _ _⟩
    · have hb1i : (m : Int) ≤ 60000 := by omega
      have hb2i : (m : Int) ≤ (n : Int) - 16 := by omega
      have hwr : ((n : Int) - 16) % 18446744073709551616 = (n : Int) - 16 := by omega
      rw [if_neg hbig] at HP
      obtain ⟨L, hL⟩ : ∃ L, L = 16 + m := ⟨_, rfl⟩
      have HL : Hid (L = 16 + m) := hL
      rw [← hL] at HP
      have hLi : (16 : Int) + (m : Int) = (L : Int) := by omega
      have hLn : (L : Int) ≤ (n : Int) := by omega
      have hLc : (L : Int) ≤ (c : Int) := by omega
      have hL16 : (16 : Int) ≤ (L : Int) := by omega
      clear hL hm4 hbig
      have hL4 : (4 : Int) ≤ (L : Int) := by omega
      have hL8 : (8 : Int) ≤ (L : Int) := by omega
      have hL8n : 8 ≤ L := by omega
      have hL16n : 16 ≤ L := by omega
      have hc4 : (4 : Int) ≤ (c : Int) := by omega
      have hc8 : (8 : Int) ≤ (c : Int) := by omega
      have hc4n : 4 ≤ c := by omega
      have hc8n : 8 ≤ c := by omega
      have hne4 : ¬ c = 4 := by omega
      have hne8 : ¬ c = 8 := by omega
      have g2 := get_k (w := w.drew) (((bs.take L).drop 4).take 4) 4 (by show _ = _; rw [List.length_take, List.length_drop, List.length_take, hn.out]; omega) (isB_take (isB_drop (isB_take HB.out L) 4) 4) (by omega) (some ⟨A.block, A.off + 4, none⟩) (c - 4) (srcV_keep (srcV_drop (srcV_take HS.out L) 4 4 (by omega)) (bw_drew (Below.refl _ _)))
      have hsum := sum_k (kr_refl w.drew) ((bs.take L).drop 8) (L - 8) (by show _ = _; rw [List.length_drop, List.length_take, hn.out]; omega) (isB_drop (isB_take HB.out L) 8) (by omega) (some ⟨A.block, A.off + 8, none⟩) (c - 8) (fun W1 H => srcV_keep (by
        have := srcV_drop (srcV_take HS.out L) 8 (L - 8) (by omega)
        rw [List.take_of_length_le (by rw [List.length_drop, List.length_take, hn.out]; omega)] at this
        exact srcV_keep this (bw_drew (Below.refl _ _))) H.below)
      have hy : crc (nb ((bs.take L).drop 8)) < 4294967296 := crc_lt _ (nb_lt (isB_drop (isB_take HB.out L) 8))
      have hwc := wrap_small _ hy
      generalize crc (nb ((bs.take L).drop 8)) = y at hsum hy hwc HP
      generalize numB (((bs.take L).drop 4).take 4) = x at g2 HP
      clear hy
      by_cases hxy : x = y
      · subst hxy
        rw [if_pos rfl] at HP
        rw [HP.out]
        clear HP
        by_cases hce : c = 16
        · subst hce
          obtain rfl : L = 16 := by omega
          · skip
            have hg9 := fun w1 (H1 : KR w.drew [] w1) => get_k (w := w1.drew) (((bs.take 16).drop 8).take 8) 8 (by show _ = _; rw [List.length_take, List.length_drop, List.length_take, hn.out]; omega) (isB_take (isB_drop (isB_take HB.out 16) 8) 8) (by omega) (some ⟨A.block, A.off + 8, none⟩) 8 (srcV_keep (srcV_drop (srcV_take HS.out 16) 8 8 (by omega)) (bw_drew (bw_step (bw_drew (Below.refl _ _)) H1.below)))
            have hlen : ((bs.take 16).drop 16).length = 0 := by rw [List.length_drop, List.length_take, hn.out]; omega
            have hcl := fun w1 (H1 : KR w.drew [] w1) => slices_Clone.calls (some A) 0 ((bs.take 16).drop 16) ((bs.take 16).drop 16) w1.drew (srcV_c rfl (by rw [hlen]; omega) (srcV_keep (fun hl => absurd hl (by rw [List.length_map, hlen]; omega)) (bw_drew (bw_step (bw_drew (Below.refl _ _)) H1.below)))) (by rw [hlen]; omega) (by unfold slices_Clone.f; rw [if_pos (by rw [hlen]; omega)])
            rw [hlen] at hcl
            have HB0 : Hid (Below w.heap.size w w.drew) := bw_drew (Below.refl _ _)
            generalize numB (((bs.take 16).drop 8).take 8) = q at hg9 ⊢
            generalize (bs.take 16).drop 16 = rc at hcl ⊢
            clear hlen HS HB
            go_enter Try.func43, Try.ntmps43
            go_wp2_with (go_at_call 62; refine g4.mono ?_; rintro e w' ⟨rfl, rfl⟩)
            go_region_held3 (fun _ => True) (trivial) (first | (go_at_call 62; refine g2.mono ?_; rintro e w' ⟨rfl, rfl⟩) | (go_at_call 16; refine hsum.mono ?_; rintro e w1 ⟨rfl, HK1⟩))
            clear g2 hsum hwc
            go_wp2_with fail
            go_region_held3 (fun _ => True) (trivial) (first | (go_at_call 62; refine (hg9 _ HK1).mono ?_; rintro e w' ⟨rfl, rfl⟩) | (go_at_call 63; refine (hcl _ HK1).mono ?_; rintro e w2 ⟨v0, rfl, hR, hBl⟩))
            go_wp2_with fail
            have hB1 := bw_drew (bw_step HB0.out HK1.below)
            refine bodyPost_ret (v := .tuple #[.int .u64 (q : Int), v0, .bool true]) (by simp [results, Try.results43, go_sem]) rfl ⟨_, rfl, Kd.R_lower hR hB1.size, bw_step hB1 hBl⟩
        · skip
          · skip
            have hg9 := fun w1 (H1 : KR w.drew [] w1) => get_k (w := w1.drew) (((bs.take L).drop 8).take 8) 8 (by show _ = _; rw [List.length_take, List.length_drop, List.length_take, hn.out]; omega) (isB_take (isB_drop (isB_take HB.out L) 8) 8) (by omega) (some ⟨A.block, A.off + 8, none⟩) (c - 8) (srcV_keep (srcV_drop (srcV_take HS.out L) 8 8 (by omega)) (bw_drew (bw_step (bw_drew (Below.refl _ _)) H1.below)))
            have hlen : ((bs.take L).drop 16).length = L - 16 := by rw [List.length_drop, List.length_take, hn.out]; omega
            have hcl := fun w1 (H1 : KR w.drew [] w1) => slices_Clone.calls (some ⟨A.block, A.off + 16, none⟩) (c - 16) ((bs.take L).drop 16) ((bs.take L).drop 16) w1.drew (srcV_c rfl (by rw [hlen]; omega) (srcV_keep (by have := srcV_drop (srcV_take HS.out L) 16 (L - 16) (by omega); rw [List.take_of_length_le (by rw [hlen]; omega)] at this; exact this) (bw_drew (bw_step (bw_drew (Below.refl _ _)) H1.below)))) (by rw [hlen]; omega) (by unfold slices_Clone.f; rw [if_pos (by rw [hlen]; omega)])
            rw [hlen] at hcl
            have HB0 : Hid (Below w.heap.size w w.drew) := bw_drew (Below.refl _ _)
            generalize numB (((bs.take L).drop 8).take 8) = q at hg9 ⊢
            generalize (bs.take L).drop 16 = rc at hcl ⊢
            clear hlen HS HB
            go_enter Try.func43, Try.ntmps43
            go_wp2_with (go_at_call 62; refine g4.mono ?_; rintro e w' ⟨rfl, rfl⟩)
            go_region_held3 (fun _ => True) (trivial) (first | (go_at_call 62; refine g2.mono ?_; rintro e w' ⟨rfl, rfl⟩) | (go_at_call 16; refine hsum.mono ?_; rintro e w1 ⟨rfl, HK1⟩))
            clear g2 hsum hwc
            go_wp2_with fail
            go_region_held3 (fun _ => True) (trivial) (first | (go_at_call 62; refine (hg9 _ HK1).mono ?_; rintro e w' ⟨rfl, rfl⟩) | (go_at_call 63; refine (hcl _ HK1).mono ?_; rintro e w2 ⟨v0, rfl, hR, hBl⟩))
            go_wp2_with fail
            have hB1 := bw_drew (bw_step HB0.out HK1.below)
            refine bodyPost_ret (v := .tuple #[.int .u64 (q : Int), v0, .bool true]) (by simp [results, Try.results43, go_sem]) rfl ⟨_, rfl, Kd.R_lower hR hB1.size, bw_step hB1 hBl⟩
      · rw [if_neg hxy] at HP
        rw [HP.out]
        have e1 : ((x : Int) == (y : Int)) = false := by simp; omega
        have e2 : ((x : Int) != (y : Int)) = true := by simp; omega
        clear HP hxy
        go_enter Try.func43, Try.ntmps43
        go_wp2_with (go_at_call 62; refine g4.mono ?_; rintro e w' ⟨rfl, rfl⟩)
        go_region_held3 (fun _ => True) (trivial) (first | (go_at_call 62; refine g2.mono ?_; rintro e w' ⟨rfl, rfl⟩) | (go_at_call 16; refine hsum.mono ?_; rintro e w1 ⟨rfl, HK1⟩))
        go_wp2_with fail
        refine bodyPost_ret (v := .tuple #[.int .u64 0, .slice none 0 0, .bool false]) (by simp [results, Try.results43, go_sem]) rfl ⟨_, rfl, Kd.R_nil _ _ _ _ _, bw_step (bw_drew (Below.refl _ _)) HK1.below⟩
def log_frame.f (l0 : List Int) : Option (Int × List Int × Bool) := if (∀ b ∈ l0, 0 ≤ b ∧ b < 256) ∧ l0.length ≤ 140737488351232 then some ((((frameR (parse1 l0)).1 : Nat) : Int), (frameR (parse1 l0)).2.1, (frameR (parse1 l0)).2.2) else none
theorem log_frame.calls (A0 : Option Addr) (c0 : Nat) (l0 : List Int) (r1 : Int) (r2 : List Int) (r3 : Bool) (w : World) (hr0 : Kd.C (Kd.int .u8) w A0 l0.length l0) (hc0 : l0.length ≤ c0) (h : log_frame.f l0 = some (r1, r2, r3)) :
    Calls Try.prog 43 #[.slice A0 l0.length c0] w fun e w' => ∃ v1_ : Value, e = .returned (.tuple #[.int .u64 r1, v1_, .bool r3]) ∧ Kd.R (Kd.int .u8) 5 w' w.heap.size (fun _ => True) v1_ r2 ∧ Below w.heap.size w w' := by
  unfold log_frame.f at h
  split at h
  · rename_i hb
    simp only [Option.some.injEq, Prod.mk.injEq] at h
    obtain ⟨rfl, rfl, rfl⟩ := h
    exact fram_k l0 l0.length rfl hb.1 hb.2 A0 c0 hc0 (c_srcV hr0)
  · cases h
end Go.Proofs.Ytaonaifnaecpiaa.Own

namespace Go.Proofs.Ytaonaifnaecpiaa.Own
open Go.RowKit Go.Proofs.YtaonaifnaecpiaaW.PrintWords
set_option linter.unusedSimpArgs false
set_option linter.unusedVariables false
theorem kr_join {w W W' : World} {rs l : List (Nat × List Value)} (h : KR w rs W) (h2 : KR W l W') : KR w (l ++ rs) W' := by
  have h3 := kr_call h h2.below
  refine ⟨h3.below, fun p hp => ?_, List.pairwise_append.2 ⟨h2.apart, h.apart, fun p hp q hq e => ?_⟩⟩
  · rcases List.mem_append.1 hp with hp | hp
    · obtain ⟨a, b⟩ := h2.rows p hp
      exact ⟨Nat.le_trans h.below.size a, b⟩
    · exact h3.rows p hp
  · have h4 := (h2.rows p hp).1
    have h5 := (h.rows q hq).2.1
    omega
theorem own_later {w W W' : World} {rs l : List (Nat × List Value)} {e : TypeId} {size : Nat} {v : Value} {n : Nat} {xs : List Value} (h : Own w rs e size v n xs W) (h2 : KR W l W') : Own w (l ++ rs) e size v n xs W' := by
  have hlt : ∀ k, v.ownBlock = some k → k < W.heap.size := fun k hk => (h.1.lt k hk).2
  refine ⟨⟨h.1.1, ?_⟩, fun k hk p hp => ?_⟩
  · rcases h.1.2 with h0 | ⟨g, cap, cur, rfl, h1, hg, h3⟩
    · exact .inl h0
    · exact .inr ⟨g, cap, cur, rfl, h1, by rw [h2.below.block g (Array.getElem?_eq_some_iff.1 hg).1]; exact hg, h3⟩
  · rcases List.mem_append.1 hp with hp | hp
    · have h4 := (h2.rows p hp).1
      have h5 := hlt k hk
      omega
    · exact h.2 k hk p hp
/-- What a printed function made, as rows. -/
theorem r_kr {w W : World} (hb : Below w.heap.size w W) {k : IntKind} {e : TypeId} {ok : Nat → Prop} {v : Value} {xs : List Int} (h : Kd.R (Kd.int k) e W w.heap.size ok v xs) : ∃ l, KR w l W ∧ SC l 1 v xs.length (xs.map (.int k)) := by
  obtain ⟨l, h1, h2⟩ := r_rows (kr_refl w) hb h
  rw [List.append_nil] at h1
  exact ⟨l, h1, h2⟩
theorem sc_mono {rs rs' : List (Nat × List Value)} {size : Nat} {v : Value} {n : Nat} {cs : List Value} (h : SC rs size v n cs) (hs : ∀ p ∈ rs, p ∈ rs') : SC rs' size v n cs := by
  rcases h with h | ⟨b, cap, l, h1, h2, h3⟩
  · exact .inl h
  · exact .inr ⟨b, cap, l, h1, hs _ h2, h3⟩
theorem fc_monoL {rs rs' : List (Nat × List Value)} {v : Value} {bs : List Int} (h : FC rs v bs) (hs : ∀ p ∈ rs, p ∈ rs') : FC rs' v bs := by
  rcases h with h | ⟨b, cap, l, h1, h2, h3⟩
  · exact .inl h
  · exact .inr ⟨b, cap, l, h1, hs _ h2, h3⟩
theorem fc_form {rs : List (Nat × List Value)} {v : Value} {bs : List Int} (h : FC rs v bs) : ∃ sp cap, v = .slice sp bs.length cap ∧ bs.length ≤ cap := by
  rcases h with ⟨rfl, rfl⟩ | ⟨b, cap, l, rfl, h2, h3, _⟩
  · exact ⟨_, _, rfl, Nat.le_refl _⟩
  · exact ⟨_, _, rfl, h3⟩
/-- A list of byte lists that is read. -/
def LLV (W : World) (sp : Option Addr) (rs : List (List Int)) : Prop := 0 < rs.length → ∃ A, sp = some A ∧ ∀ (j : Nat) (r : List Int), rs[j]? = some r → ∃ sj cj, W.cell? (A.add j) = some (.slice sj r.length cj) ∧ SrcV W sj (bcl r)
theorem llv_keep {W W' : World} {sp : Option Addr} {rs : List (List Int)} (h : LLV W sp rs) (hb : Below W.heap.size W W') : LLV W' sp rs := fun h0 => by
  obtain ⟨A, hA, hc⟩ := h h0
  refine ⟨A, hA, fun j r hr => ?_⟩
  obtain ⟨sj, cj, h1, h2⟩ := hc j r hr
  exact ⟨sj, cj, by rw [← h1]; exact hb.cell (World.block_lt_of_cell? W _ h1), srcV_keep h2 hb⟩
theorem llv_take {W : World} {sp : Option Addr} {rs : List (List Int)} (h : LLV W sp rs) (k : Nat) : LLV W sp (rs.take k) := fun h0 => by
  obtain ⟨A, hA, hc⟩ := h (by rw [List.length_take] at h0; omega)
  refine ⟨A, hA, fun j r hr => hc j r ?_⟩
  rw [List.getElem?_take] at hr
  split at hr
  · exact hr
  · cases hr
/-- A list of byte lists of the call's own, in rows. -/
def RL (rows : List (Nat × List Value)) (v : Value) (recs : List (List Int)) : Prop := ∃ vals : List Value, vals.length = recs.length ∧ SC rows 1 v recs.length vals ∧ ∀ (j : Nat) (u : Value) (r : List Int), vals[j]? = some u → recs[j]? = some r → FC rows u r
theorem fc_srcL {w W : World} {rs : List (Nat × List Value)} {v : Value} {bs : List Int} (HK : KR w rs W) (h : FC rs v bs) : ∃ sp cap, v = .slice sp bs.length cap ∧ SrcV W sp (bcl bs) := by
  rcases h with ⟨rfl, rfl⟩ | ⟨b, cap, l, rfl, h2, h3, h4, h5⟩
  · exact ⟨_, _, rfl, fun h => absurd h (by simp [bcl])⟩
  · exact ⟨_, _, rfl, srcV_row HK h2 h5⟩
theorem rl_llv {w W : World} {rows : List (Nat × List Value)} {v : Value} {recs : List (List Int)} (HK : KR w rows W) (h : RL rows v recs) : ∃ sp cap, v = .slice sp recs.length cap ∧ recs.length ≤ cap ∧ LLV W sp recs := by
  obtain ⟨vals, hl, hs, hf⟩ := h
  rcases hs with ⟨rfl, h1, h2⟩ | ⟨b, cap, l, rfl, h2, h3, h4, h5⟩
  · exact ⟨none, 0, by rw [h1], by omega, fun h0 => by omega⟩
  · refine ⟨_, cap, rfl, h3, fun h0 => ⟨_, rfl, fun j r hr => ?_⟩⟩
    have hj := (List.getElem?_eq_some_iff.1 hr).1
    have hv : vals[j]? = some (vals[j]'(by omega)) := List.getElem?_eq_getElem (by omega)
    have hF := hf j _ r hv hr
    obtain ⟨sj, cj, he, hS⟩ := fc_srcL HK hF
    refine ⟨sj, cj, ?_, hS⟩
    rw [Addr.add_mid, ← he]
    refine kr_mem HK h2 j _ ?_
    have h6 : (l.take (recs.length * 1))[j]? = some (vals[j]'(by omega)) := by rw [h5]; exact hv
    rw [Nat.mul_one, List.getElem?_take, if_pos (by omega)] at h6
    exact h6
theorem rl_mono {rs rs' : List (Nat × List Value)} {v : Value} {recs : List (List Int)} (h : RL rs v recs) (hs : ∀ p ∈ rs, p ∈ rs') : RL rs' v recs := by
  obtain ⟨vals, h1, h2, h3⟩ := h
  exact ⟨vals, h1, sc_mono h2 hs, fun j u r hu hr => fc_monoL (h3 j u r hu hr) hs⟩
/-- The records from a number on. -/
def scn : Nat → List Int → Nat → List (List Int)
  | 0, _, _ => []
  | n + 1, bs, q => match parse1 bs with
    | some (p, r) => if p = q ∧ q ≠ 0 then r :: scn n (bs.drop (16 + r.length)) (q + 1) else []
    | none => []
/-- The records of bytes, and the first one's number. -/
def scan (bs : List Int) : Nat × List (List Int) := match parse1 bs with
  | some (0, _) => (0, [])
  | some (q + 1, _) => (q + 1, scn bs.length bs (q + 1))
  | none => (0, [])
def flen : List (List Int) → Nat
  | [] => 0
  | r :: l => 16 + r.length + flen l
theorem flen_app (a b : List (List Int)) : flen (a ++ b) = flen a + flen b := by
  induction a with
  | nil => simp [flen]
  | cons r a ih => rw [List.cons_append, flen, flen, ih]; omega
theorem parse1_len {bs : List Int} {q : Nat} {r : List Int} (h : parse1 bs = some (q, r)) : 16 + r.length ≤ bs.length ∧ r.length ≤ 60000 := by
  unfold parse1 at h
  split at h
  · cases h
  · split at h
    · cases h
    · split at h
      · simp only [Option.some.injEq, Prod.mk.injEq] at h
        rw [← h.2, List.length_drop, List.length_take]
        omega
      · cases h
theorem parse1_q {bs : List Int} {q : Nat} {r : List Int} (hb : isB bs) (h : parse1 bs = some (q, r)) : q < 18446744073709551616 := by
  unfold parse1 at h
  split at h
  · cases h
  · split at h
    · cases h
    · split at h
      · simp only [Option.some.injEq, Prod.mk.injEq] at h
        rw [← h.1]
        have := numB_lt _ (isB_take (isB_drop (isB_take hb (16 + numB (bs.take 4))) 8) 8)
        rw [List.length_take] at this
        refine Nat.lt_of_lt_of_le this ?_
        exact Nat.le_trans (Nat.pow_le_pow_right (by omega) (Nat.min_le_left _ _)) (by decide)
      · cases h
theorem parse1_isB {bs : List Int} {q : Nat} {r : List Int} (hb : isB bs) (h : parse1 bs = some (q, r)) : isB r := by
  unfold parse1 at h
  split at h
  · cases h
  · split at h
    · cases h
    · split at h
      · simp only [Option.some.injEq, Prod.mk.injEq] at h
        rw [← h.2]
        exact isB_drop (isB_take hb _) _
      · cases h
theorem parse1_short {bs : List Int} (h : bs.length < 16) : parse1 bs = none := by unfold parse1; rw [if_pos h]
theorem scn_fuel : ∀ (n m : Nat) (bs : List Int) (q : Nat), bs.length ≤ n → bs.length ≤ m → scn n bs q = scn m bs q := by
  intro n
  induction n with
  | zero =>
    intro m bs q h1 h2
    rw [scn]
    cases m with
    | zero => rfl
    | succ m => rw [scn, parse1_short (by omega)]
  | succ n ih =>
    intro m bs q h1 h2
    cases m with
    | zero => rw [scn, scn, parse1_short (by omega)]
    | succ m =>
      rw [scn, scn]
      rcases hp : parse1 bs with _ | ⟨p, r⟩
      · rfl
      · have := parse1_len hp
        simp only
        rw [ih m _ _ (by rw [List.length_drop]; omega) (by rw [List.length_drop]; omega)]
def scnW (bs : List Int) (q : Nat) : List (List Int) := scn bs.length bs q
theorem scnW_eq (bs : List Int) (q : Nat) : scnW bs q = match parse1 bs with
    | some (p, r) => if p = q ∧ q ≠ 0 then r :: scnW (bs.drop (16 + r.length)) (q + 1) else []
    | none => [] := by
  unfold scnW
  rw [scn_fuel bs.length (bs.length + 1) bs q (by omega) (by omega), scn]
  rcases hp : parse1 bs with _ | ⟨p, r⟩
  · rfl
  · simp only
    rw [scn_fuel bs.length _ (bs.drop (16 + r.length)) (q + 1) (by rw [List.length_drop]; omega) (Nat.le_refl _)]
theorem scn_len : ∀ (n : Nat) (bs : List Int) (q : Nat), flen (scn n bs q) ≤ bs.length := by
  intro n
  induction n with
  | zero => intro bs q; simp [scn, flen]
  | succ n ih =>
    intro bs q
    rw [scn]
    rcases hp : parse1 bs with _ | ⟨p, r⟩
    · simp [flen]
    · have := parse1_len hp
      simp only
      split
      · rw [flen]
        have := ih (bs.drop (16 + r.length)) (q + 1)
        rw [List.length_drop] at this
        omega
      · simp [flen]
/-- What comes out in the end, with so much read. -/
def scanE (bs : List Int) (first : Nat) (recs : List (List Int)) : Nat × List (List Int) := if recs = [] then scan bs else (first, recs ++ scnW (bs.drop (flen recs)) (first + recs.length))
theorem flen_ge (l : List (List Int)) : 16 * l.length ≤ flen l := by
  induction l with
  | nil => simp [flen]
  | cons r l ih => rw [flen, List.length_cons]; omega
theorem scan_def (bs : List Int) : scan bs = match parse1 bs with
  | some (q, r) => if q = 0 then (0, []) else (q, r :: scnW (bs.drop (16 + r.length)) (q + 1))
  | none => (0, []) := by
  unfold scan
  have h := fun q => scnW_eq bs q
  rcases hp : parse1 bs with _ | ⟨q, r⟩
  · rfl
  · rcases q with _ | q
    · rfl
    · have := h (q + 1)
      rw [hp] at this
      simp only [if_pos (And.intro rfl (Nat.succ_ne_zero q))] at this
      simp only
      rw [if_neg (Nat.succ_ne_zero q)]
      unfold scnW at this ⊢
      rw [this, if_pos ⟨trivial, Nat.succ_ne_zero q⟩]
theorem scanE_stop (bs : List Int) (first : Nat) (recs : List (List Int)) (h : ∀ q r, parse1 (bs.drop (flen recs)) = some (q, r) → q = 0 ∨ recs ≠ [] ∧ q ≠ first + recs.length) : scanE bs first recs = (if recs = [] then 0 else first, recs) := by
  unfold scanE
  split
  · rename_i h0
    subst h0
    rw [scan_def]
    simp only [flen, List.drop_zero] at h
    rcases hp : parse1 bs with _ | ⟨q, r⟩
    · rfl
    · rcases h q r hp with h | h
      · simp [h]
      · exact absurd rfl h.1
  · rename_i h0
    rw [scnW_eq]
    rcases hp : parse1 (bs.drop (flen recs)) with _ | ⟨q, r⟩
    · simp
    · simp only
      rw [if_neg (by rintro ⟨h1, h2⟩; rcases h q r hp with h | h; omega; exact h.2 h1)]
      simp
theorem scanE_go (bs : List Int) (first : Nat) (recs : List (List Int)) (q : Nat) (r : List Int) (hp : parse1 (bs.drop (flen recs)) = some (q, r)) (hq : q ≠ 0) (h : recs ≠ [] → q = first + recs.length) : scanE bs first recs = scanE bs (if recs = [] then q else first) (recs ++ [r]) := by
  unfold scanE
  rw [if_neg (c := recs ++ [r] = []) (by simp)]
  by_cases h0 : recs = []
  · subst h0
    simp only [flen, List.drop_zero] at hp
    rw [scan_def, hp, if_pos rfl, if_pos rfl]
    simp only
    rw [if_neg hq]
    simp [flen]
  · rw [if_neg h0, if_neg h0, scnW_eq, hp]
    simp only
    have := h h0
    rw [if_pos ⟨this, by omega⟩, flen_app, List.drop_drop]
    simp [flen, this, Nat.add_assoc]
end Go.Proofs.Ytaonaifnaecpiaa.Own

namespace Go.Proofs.Ytaonaifnaecpiaa.Own
open Go.RowKit
variable {P : Program}
theorem kr_appendW {w W : World} {rs : List (Nat × List Value)} (HK : KR w rs W) (t ty e : TypeId) (z : Value) (size bytes : Nat) (ht : P.underlying t = some (.slice e))
    (hi : (P.info? e).map (fun i => (i.zero, i.size, i.bytes)) = some (some z, size, bytes)) (hzs : z.cells.size = size) (hsz : 0 < size) {v : Value} {n : Nat} {xs : List Value} (hown : Own w rs e size v n xs W)
    (A : Addr) (m c : Nat) (news : List Value) (hl : news.length = m * size) (hcells : ∀ j u, news[j]? = some u → W.cell? (A.add j) = some u) (h1 : ∀ u ∈ news, u.oneCell' = true) (h63 : n + m ≤ maxLen) (hbytes : ((n + m) + (n + m) / 4 + 192) * bytes ≤ 281474976710656) :
    ∃ v' W', (Builtin.append_ #[t, t] ty #[v, .slice (some A) m c]).run P W = .ok v' W' ∧ Own w rs e size v' (n + m) (xs ++ news) W' ∧ KR w rs W' ∧ W.heap.size ≤ W'.heap.size := by
  obtain ⟨i, hi0, hi1⟩ := Option.map_eq_some_iff.1 hi
  simp only [Prod.mk.injEq] at hi1
  obtain ⟨hz, hs, hb⟩ := hi1
  obtain ⟨v', W', hr, h2, h3, h4⟩ := run_append_own_wide (P := P) W w.heap.size t ty e i z size bytes ht hi0 hz hs hb hzs hsz v n xs hown.1 A m c news hl hcells h1 h63 hbytes HK.below.size
  have h5 : ∀ k, v'.ownBlock = some k → v.ownBlock = some k ∨ W.heap.size ≤ k := by
    rcases hown.1.2 with ⟨rfl, rfl⟩ | ⟨g, cap, cur, rfl, hbg, hg, hnc, hcm, hcs, htake⟩
    · have hx : xs = [] := List.eq_nil_of_length_eq_zero (by simpa using hown.1.1)
      subst hx
      obtain ⟨v2, W2, hr2, h22, _⟩ := run_append_own_wide (P := P) W W.heap.size t ty e i z size bytes ht hi0 hz hs hb hzs hsz (.slice none 0 0) 0 [] (World.ownsRow_nil _ _ _ _) A m c news hl hcells h1 h63 hbytes (Nat.le_refl _)
      rw [hr] at hr2
      injection hr2 with e1 e2
      subst e1
      exact fun k hk => .inr (h22.lt k hk).1
    · subst hs
      by_cases hroom : n + m ≤ cap
      · have hfit : n * i.size + news.length ≤ cur.size := by rw [hl, hcs, ← Nat.add_mul]; exact Nat.mul_le_mul_right _ hroom
        have hr2 := run_append_room (P := P) W t ty e i ht hi0 g n cap cur hg A m c news hl hcells h1 hroom hfit
        rw [hr] at hr2
        injection hr2 with e1 e2
        subst e1
        exact fun k hk => .inl hk
      · have holds : ∀ j u, xs[j]? = some u → W.cell? ((⟨g, 0, none⟩ : Addr).add j) = some u := hown.1.cells (g := g) rfl
        have hr2 := run_append_grow (P := P) W t ty e i z ht hi0 hz ⟨g, 0, none⟩ n cap xs hown.1.1 holds A m c news hl hcells (by omega) (by unfold maxLen at h63; omega) (growslice_fits_wide (by omega) (by rw [hb]; exact hbytes))
        rw [hr] at hr2
        injection hr2 with e1 e2
        subst e1
        intro k hk
        simp only [Value.ownBlock, Option.some.injEq] at hk
        exact .inr (by omega)
  refine ⟨v', W', hr, ⟨h2, fun k hk p hp => ?_⟩, kr_grown HK h3 (fun k hk => ⟨(hown.1.lt k hk).1, hown.2 k hk⟩), h3.size⟩
  rcases h5 k hk with h5 | h5
  · exact hown.2 k h5 p hp
  · have := (HK.rows p hp).2.1
    omega
theorem wl_appendW {ops : Array Oper} {rest : List Oper} {o : Oper} {a : Act} {Q : Exit → Act → World → Prop} (s x : Operand) (t e : TypeId) (z : Value) (size bytes : Nat) {w W : World} {rs : List (Nat × List Value)} (HK : KR w rs W) {v : Value} {n : Nat} {xs : List Value} (hown : Own w rs e size v n xs W)
    (A : Addr) (m c : Nat) (news : List Value) (hS : SrcV W (some A) news) (hp : 0 < m) (hl : news.length = m * size) (h1 : ∀ u ∈ news, u.oneCell' = true) (h63 : n + m ≤ maxLen) (hbytes : ((n + m) + (n + m) / 4 + 192) * bytes ≤ 281474976710656)
    (ht : P.underlying t = some (.slice e)) (hi : (P.info? e).map (fun i => (i.zero, i.size, i.bytes)) = some (some z, size, bytes)) (hzs : z.cells.size = size) (hsz : 0 < size)
    (hgd : o.guard = none) (ho : o.op = .call { callee := .builtin .append, args := #[s, x], argTypes := #[t, t] }) (hs : a.eval s = v) (hx : a.eval x = .slice (some A) m c)
    (h : ∀ v' W', Own w rs e size v' (n + m) (xs ++ news) W' → KR w rs W' → W.heap.size ≤ W'.heap.size → wpList P ops Q rest (a.put o.dst v') W') : wpList P ops Q (o :: rest) a W :=
  wpList_plain hgd fun _ hK => by
    obtain ⟨v', W', hr, h2, h3, h4⟩ := kr_appendW (P := P) HK t o.type e z size bytes ht hi hzs hsz hown A m c news hl (fun j u hu => by
      obtain ⟨B, hB, hc⟩ := hS (by rw [hl]; exact Nat.mul_pos hp hsz)
      injection hB with hB
      subst hB
      exact hc j u hu) h1 h63 hbytes
    unfold Oper.wp execOp
    simp only [ho, resolve, invoke, builtin, Sem.run_bind, Sem.run_pure, Result.andThen_ok, List.map_toArray, List.map_cons, List.map_nil, hs, hx, hr]
    exact hK _ _ (h v' W' h2 h3 h4)
end Go.Proofs.Ytaonaifnaecpiaa.Own

namespace Go.Proofs.Ytaonaifnaecpiaa.Own
open Go.RowKit Go.Proofs.YtaonaifnaecpiaaW.PrintWords
set_option linter.unusedSimpArgs false
set_option linter.unusedVariables false
theorem srcV_dropM {W : World} {sp : Option Addr} {bs : List Int} (h : SrcV W sp (bcl bs)) (k : Nat) : SrcV W (sp.map (fun x => x.add k)) (bcl (bs.drop k)) := fun hl => by
  rw [bcl_len, List.length_drop] at hl
  obtain ⟨A, rfl, hc⟩ := h (by rw [bcl_len]; omega)
  refine ⟨_, rfl, fun j v hv => ?_⟩
  show W.cell? ((A.add k).add j) = some v
  rw [Go.Deep.add_add]
  refine hc (k + j) v ?_
  unfold bcl at hv ⊢
  rw [List.getElem?_map, List.getElem?_drop] at hv
  rw [List.getElem?_map]
  exact hv
theorem scan_fin {w W W' : World} {rows l0 : List (Nat × List Value)} {v : Value} {vals : List Value} {recs : List (List Int)} (HO : Own w rows 23 1 v recs.length vals W) (HK : KR w rows W) (HK0 : KR W l0 W')
    (HL : vals.length = recs.length) (HF : ∀ (j : Nat) (u : Value) (r : List Int), vals[j]? = some u → recs[j]? = some r → FC rows u r) : ∃ l, KR w l W' ∧ RL l v recs := by
  obtain ⟨l2, HL2, HC2⟩ := own_settle (kr_join HK HK0) (own_later HO HK0)
  exact ⟨_, HL2, vals, HL, sc_mono HC2 (fun p hp => List.mem_append_left _ hp), fun j u r hu hr => fc_monoL (HF j u r hu hr) (fun p hp => List.mem_append_right _ (List.mem_append_right _ hp))⟩
theorem scan_push {rows l0 : List (Nat × List Value)} {vals : List Value} {recs : List (List Int)} {u0 : Value} {r0 : List Int} (HL : vals.length = recs.length) (HF : ∀ (j : Nat) (u : Value) (r : List Int), vals[j]? = some u → recs[j]? = some r → FC rows u r) (H0 : FC l0 u0 r0) :
    ∀ (j : Nat) (u : Value) (r : List Int), (vals ++ [u0])[j]? = some u → (recs ++ [r0])[j]? = some r → FC (l0 ++ rows) u r := by
  intro j u r hu hr
  by_cases hj : j < recs.length
  · rw [List.getElem?_append_left (by omega)] at hu
    rw [List.getElem?_append_left hj] at hr
    exact fc_monoL (HF j u r hu hr) (fun p hp => List.mem_append_right _ hp)
  · rw [List.getElem?_append_right (by omega)] at hu hr
    have e : j - vals.length = 0 := by
      have := (List.getElem?_eq_some_iff.1 hu).1
      simp at this
      omega
    rw [e] at hu
    rw [← HL, e] at hr
    simp at hu hr
    rw [← hu, ← hr]
    exact fc_monoL H0 (fun p hp => List.mem_append_left _ hp)
theorem srcV_built {W : World} (u : Value) (t : TypeId) (m : Nat × Nat) : SrcV (W.alloc (.cells #[u] t m)) (some ⟨W.heap.size, 0, none⟩) [u] := fun _ => ⟨_, rfl, fun j v hv => by
  rw [Addr.add_mid, World.cell?_alloc_mark]; simpa using hv⟩
theorem w64i (n : Int) (h : -9223372036854775808 ≤ n ∧ n ≤ 9223372036854775807) : wrap64 n = n := by unfold wrap64; omega
theorem bb_info : (Try.prog.info? 23).map (fun i => (i.zero, i.size, i.bytes)) = some (some (.slice none 0 0), 1, 24) := by kernel_rfl
set_option maxRecDepth 100000 in
set_option maxHeartbeats 2000000 in
theorem scan_k {w : World} (bs : List Int) (n : Nat) (hn : Hid (bs.length = n)) (hb : Hid (isB bs)) (h2 : n ≤ 140737488351232) (sp : Option Addr) (c : Nat) (hc : n ≤ c) (hS : Hid (SrcV w sp (bcl bs))) :
    Calls Try.prog 13 #[.slice sp n c] w fun e W' => ∃ v l, e = .returned (.tuple #[.int .u64 (((scan bs).1 : Nat) : Int), v, .int .i64 ((flen (scan bs).2 : Nat) : Int)]) ∧ KR w l W' ∧ RL l v (scan bs).2 := by
  go_enter Try.func13, Try.ntmps13
  go_wp2
  go_loopw [5, 6, 7] (fun v5 v6 v7 W => ∃ first recs rows vals, v5 = .int .u64 ((first : Nat) : Int) ∧ v6 = .int .i64 ((flen recs : Nat) : Int) ∧ Own w rows 23 1 v7 recs.length vals W ∧ KR w rows W ∧ (∀ (j : Nat) (u : Value) (r : List Int), vals[j]? = some u → recs[j]? = some r → FC rows u r) ∧ scanE bs first recs = scan bs ∧ flen recs ≤ n ∧ first + recs.length ≤ 18446744073709551616) (fun _ v6 _ _ => n - (intOf v6).toNat)
  case atStart => exact ⟨0, [], [], [], rfl, rfl, own_nil _ _ _ _ _, kr_refl _, by simp, by simp [scanE], Nat.zero_le _, by simp⟩
  case round =>
    obtain ⟨first, recs, rows, vals, rfl, rfl, HO, HK, HF, HE, hl, hf⟩ := hrel
    obtain ⟨sx, cx, rfl⟩ := own_form HO
    have hfr := fun sp' c' hc' h => fram_k (w := wr) (bs.drop (flen recs)) (n - flen recs) (by show _ = _; rw [List.length_drop, hn.out]) (isB_drop hb.out _) (by omega) sp' c' hc' h
    have hsr := srcV_dropM (srcV_keep hS.out HK.below) (flen recs)
    have HHE : Hid (scanE bs first recs = scan bs) := HE
    have HHF : Hid (∀ (j : Nat) (u : Value) (r : List Int), vals[j]? = some u → recs[j]? = some r → FC rows u r) := HF
    have hl3 : 16 * recs.length ≤ flen recs := flen_ge recs
    have hl4 : recs.length ≤ n := by omega
    have HS := fun (h : ∀ q r, parse1 (bs.drop (flen recs)) = some (q, r) → q = 0 ∨ recs ≠ [] ∧ q ≠ first + recs.length) => HHE.out.symm.trans (scanE_stop bs first recs h)
    have HL : Hid (vals.length = recs.length) := by show _ = _; have := HO.1.1; omega
    have hll : Hid (n - flen recs = (bs.drop (flen recs)).length) := by show _ = _; rw [List.length_drop, hn.out]
    clear HE HF
    have HP : Hid (parse1 (bs.drop (flen recs)) = parse1 (bs.drop (flen recs))) := rfl
    generalize hpe : parse1 (bs.drop (flen recs)) = pe at hfr HS HP
    have hs0 : ∀ sp', n = flen recs → SrcV wr sp' (bcl (bs.drop (flen recs))) := fun sp' h h1 => absurd h1 (by rw [bcl_len, ← hll.out]; omega)
    clear hS HP
    rcases pe with _ | ⟨q, r⟩
    · have HS := HS (by simp)
      simp only [frameR] at hfr
      rcases recs with _ | ⟨r0, recs⟩
      · have HO : Hid (Own w rows 23 1 (Value.slice sx 0 cx) 0 vals wr) := HO
        rw [if_pos rfl] at HS
        have HSS : Hid (scan bs = (0, [])) := HS
        clear HS HHE hpe hll
        go_wp2_with (go_at_call 43; refine (hfr _ _ (by omega) (by first | exact hsr | exact hs0 _ (by omega))).mono ?_; rintro e w1 ⟨v0, rfl, hR, hB⟩; obtain ⟨l0, HK0, HC0⟩ := r_kr hB hR; clear hB hR)
        all_goals obtain ⟨l, HKl, HRl⟩ := scan_fin HO.out HK HK0 HL.out HHF.out
        all_goals refine bodyPost_ret (v := .tuple #[.int .u64 0, .slice sx 0 cx, .int .i64 ((flen [] : Nat) : Int)]) (by simp [results, Try.results13, go_sem]) rfl ⟨_, l, by rw [HSS.out] <;> rfl, HKl, by rw [HSS.out]; exact HRl⟩
      · rw [if_neg (by simp)] at HS
        have HSS : Hid (scan bs = (first, r0 :: recs)) := HS
        clear HS HHE hpe hll
        have HO : Hid (Own w rows 23 1 (Value.slice sx (r0 :: recs).length cx) (r0 :: recs).length vals wr) := HO
        have hL0 : (0 : Int) < ((r0 :: recs).length : Int) := by rw [List.length_cons]; omega
        generalize hL : (r0 :: recs).length = L at HO hl4 hL0
        go_wp2_with (go_at_call 43; refine (hfr _ _ (by omega) (by first | exact hsr | exact hs0 _ (by omega))).mono ?_; rintro e w1 ⟨v0, rfl, hR, hB⟩; obtain ⟨l0, HK0, HC0⟩ := r_kr hB hR; clear hB hR)
        all_goals obtain ⟨l, HKl, HRl⟩ := scan_fin (by rw [hL]; exact HO.out) HK HK0 HL.out HHF.out
        all_goals refine bodyPost_ret (v := .tuple #[.int .u64 (first : Int), .slice sx L cx, .int .i64 ((flen (r0 :: recs) : Nat) : Int)]) (by simp [results, Try.results13, go_sem]) rfl ⟨_, l, by rw [HSS.out] <;> rfl, HKl, by rw [HSS.out]; exact HRl⟩
    · have hpl := parse1_len hpe
      have hpq := parse1_q (isB_drop hb.out _) hpe
      rw [← hll.out] at hpl
      have hpqi : (q : Int) < 18446744073709551616 := by omega
      have hlr : flen recs + (16 + r.length) ≤ n := by omega
      have hr6 := hpl.2
      have hri : (r.length : Int) ≤ 60000 := by omega
      have hfi : (first : Int) + (recs.length : Int) ≤ 18446744073709551616 := by omega
      have HH2 : Hid (n ≤ 140737488351232 ∧ r.length ≤ 60000 ∧ q < 18446744073709551616 ∧ first + recs.length ≤ 18446744073709551616) := ⟨h2, hr6, hpq, hf⟩
      have hrn : 16 + r.length ≤ n - flen recs := hpl.1
      clear hpl h2 hr6 hpq hf
      simp only [frameR] at hfr
      have HPE : Hid (parse1 (bs.drop (flen recs)) = some (q, r)) := hpe
      clear hpe hll
      by_cases hnil : recs = []
      · subst hnil
        have HO : Hid (Own w rows 23 1 (Value.slice sx 0 cx) 0 vals wr) := HO
        by_cases hq : q = 0
        · subst hq
          have HS := HS (by intro q' r' h; simp only [Option.some.injEq, Prod.mk.injEq] at h; exact .inl h.1.symm)
          rw [if_pos rfl] at HS
          have HSS : Hid (scan bs = (0, [])) := HS
          clear HS HHE
          go_wp2_with (go_at_call 43; refine (hfr _ _ (by omega) (by first | exact hsr | exact hs0 _ (by omega))).mono ?_; rintro e w1 ⟨v0, rfl, hR, hB⟩; obtain ⟨l0, HK0, HC0⟩ := r_kr hB hR; clear hB hR)
          all_goals obtain ⟨l, HKl, HRl⟩ := scan_fin HO.out HK HK0 HL.out HHF.out
          all_goals refine bodyPost_ret (v := .tuple #[.int .u64 0, .slice sx 0 cx, .int .i64 ((flen [] : Nat) : Int)]) (by simp [results, Try.results13, go_sem]) rfl ⟨_, l, by rw [HSS.out] <;> rfl, HKl, by rw [HSS.out]; exact HRl⟩
        · have HGO := HHE.out.symm.trans (scanE_go bs first [] q r HPE.out hq (fun h => absurd rfl h))
          rw [if_pos rfl] at HGO
          have hq1 : (1 : Int) ≤ (q : Int) := by omega
          have hq0 : ((q : Int) == 0) = false := by simp; omega
          have hqq : IntKind.u64.wrap ((q : Int) - (q : Int)) = 0 := by rw [Int.sub_self]; rfl
          clear hpqi
          have HQ : Hid (¬ q = 0) := hq
          clear hq
          have HGG : Hid (scanE bs q ([] ++ [r]) = scan bs) := HGO.symm
          clear HS HHE HGO
          go_wp2_with (first | (go_at_call 43; refine (hfr _ _ (by omega) (by first | exact hsr | exact hs0 _ (by omega))).mono ?_; rintro e w1 ⟨v0, rfl, hR, hB⟩; obtain ⟨l0, HK0, HC0⟩ := r_kr hB hR; clear hB hR; have HF0 := sc_fc rfl HC0; clear HC0; obtain ⟨sv, cv, rfl, hcv⟩ := fc_form HF0; have K1 := kr_join HK HK0; have O1 := own_later HO.out HK0) | (at_builtin; refine wl_appendK _ _ 28 23 (.slice none 0 0) 1 24 (kr_alloc K1 _) (own_alloc O1 _) _ 1 1 [.slice sv r.length cv] (srcV_built _ _ _) rfl (by intro v hv; rw [List.mem_singleton.1 hv]; rfl) (by have := HH2.out; unfold maxLen; omega) (by have := HH2.out; omega) Try.underlying28 bb_info rfl (by omega) rfl rfl (by rfl) (by rfl) (fun v' W' O2 H2 hz => ?_); clear K1 O1; obtain ⟨s4, c4, rfl⟩ := own_form O2))
          have hw : wrap64 (((flen [] : Nat) : Int) + (16 + (r.length : Int))) = ((flen ([] ++ [r]) : Nat) : Int) := by
            have := HH2.out
            rw [flen_app, w64i _ (by omega)]
            simp only [flen]
            omega
          rw [hw]
          refine ⟨⟨q, [] ++ [r], l0 ++ rows, vals ++ [.slice sv r.length cv], rfl, rfl, by rw [List.length_append]; exact O2, H2, scan_push HL.out HHF.out HF0, HGG.out, ?_, ?_⟩, ?_⟩
          · rw [flen_app]; simp only [flen]; omega
          · have := HH2.out; rw [List.length_append]; simp only [List.length_cons, List.length_nil] at this ⊢; omega
          · rw [flen_app]; simp only [flen, intOf]; omega
      · rw [if_neg hnil] at HS
        have hL0 : (0 : Int) < (recs.length : Int) := by have := List.length_pos_iff.2 hnil; omega
        have hrn0 : recs ≠ [] := hnil
        have HO : Hid (Own w rows 23 1 (Value.slice sx recs.length cx) recs.length vals wr) := HO
        by_cases hq : q = 0 ∨ q ≠ first + recs.length
        · have HS := HS (by intro q' r' h; simp only [Option.some.injEq, Prod.mk.injEq] at h; rw [← h.1]; rcases hq with hq | hq; exact .inl hq; exact .inr ⟨hrn0, hq⟩)
          have HSS : Hid (scan bs = (first, recs)) := HS
          clear HS HHE
          generalize hL : recs.length = L at HO hl4 hL0 hq hfi
          rcases Nat.eq_zero_or_pos q with h0 | h0
          · subst h0
            clear hq
            go_wp2_with (go_at_call 43; refine (hfr _ _ (by omega) (by first | exact hsr | exact hs0 _ (by omega))).mono ?_; rintro e w1 ⟨v0, rfl, hR, hB⟩; obtain ⟨l0, HK0, HC0⟩ := r_kr hB hR; clear hB hR)
            all_goals obtain ⟨l, HKl, HRl⟩ := scan_fin (by rw [hL]; exact HO.out) HK HK0 HL.out HHF.out
            all_goals refine bodyPost_ret (v := .tuple #[.int .u64 (first : Int), .slice sx L cx, .int .i64 ((flen recs : Nat) : Int)]) (by simp [results, Try.results13, go_sem]) rfl ⟨_, l, by rw [HSS.out] <;> rfl, HKl, by rw [HSS.out]; exact HRl⟩
          · have hq1 : (1 : Int) ≤ (q : Int) := by omega
            have hq0 : ((q : Int) == 0) = false := by simp; omega
            have hqq : ¬ IntKind.u64.wrap ((q : Int) - (first : Int)) = (L : Int) := by rw [wrap_u64']; omega
            obtain ⟨D, hD⟩ : ∃ D, IntKind.u64.wrap ((q : Int) - (first : Int)) = D := ⟨_, rfl⟩
            rw [hD] at hqq
            have hwL : IntKind.u64.wrap (L : Int) = (L : Int) := by have := HH2.out.1; rw [wrap_u64']; omega
            have hqe : (D == (L : Int)) = false := by simp; exact hqq
            have hqn : (D != (L : Int)) = true := by simp; exact hqq
            clear hq hfi h0 hpqi
            go_wp2_with (go_at_call 43; refine (hfr _ _ (by omega) (by first | exact hsr | exact hs0 _ (by omega))).mono ?_; rintro e w1 ⟨v0, rfl, hR, hB⟩; obtain ⟨l0, HK0, HC0⟩ := r_kr hB hR; clear hB hR)
            all_goals obtain ⟨l, HKl, HRl⟩ := scan_fin (by rw [hL]; exact HO.out) HK HK0 HL.out HHF.out
            all_goals refine bodyPost_ret (v := .tuple #[.int .u64 (first : Int), .slice sx L cx, .int .i64 ((flen recs : Nat) : Int)]) (by simp [results, Try.results13, go_sem]) rfl ⟨_, l, by rw [HSS.out] <;> rfl, HKl, by rw [HSS.out]; exact HRl⟩
        · have hqe : q = first + recs.length := by omega
          have HGO := HHE.out.symm.trans (scanE_go bs first recs q r HPE.out (by omega) (fun _ => hqe))
          rw [if_neg hrn0] at HGO
          have HGG : Hid (scanE bs first (recs ++ [r]) = scan bs) := HGO.symm
          have HZ : Hid (q < 18446744073709551616 ∧ q = first + recs.length) := ⟨HH2.out.2.2.1, hqe⟩
          have hq1 : (1 : Int) ≤ (q : Int) := by omega
          have hq0 : ((q : Int) == 0) = false := by simp; omega
          obtain ⟨L, hL⟩ : ∃ L, L = recs.length := ⟨_, rfl⟩
          have hLe : Hid (L = recs.length) := hL
          have hqq : IntKind.u64.wrap ((q : Int) - (first : Int)) = (L : Int) := by rw [wrap_u64']; omega
          rw [← hL] at HO hl4 hL0 ⊢
          have hwL : IntKind.u64.wrap (L : Int) = (L : Int) := by have := HH2.out.1; rw [wrap_u64']; omega
          clear HS HHE HGO hqe hq hpqi hL hfi hnil hrn0
          go_wp2_with (first | (go_at_call 43; refine (hfr _ _ (by omega) (by first | exact hsr | exact hs0 _ (by omega))).mono ?_; rintro e w1 ⟨v0, rfl, hR, hB⟩; obtain ⟨l0, HK0, HC0⟩ := r_kr hB hR; clear hB hR; have HF0 := sc_fc rfl HC0; clear HC0; obtain ⟨sv, cv, rfl, hcv⟩ := fc_form HF0; have K1 := kr_join HK HK0; have O1 := own_later HO.out HK0) | (at_builtin; refine wl_appendW _ _ 28 23 (.slice none 0 0) 1 24 (kr_alloc K1 _) (own_alloc O1 _) _ 1 1 [.slice sv r.length cv] (srcV_built _ _ _) (by omega) rfl (by intro v hv; rw [List.mem_singleton.1 hv]; rfl) (by have := HH2.out; unfold maxLen; omega) (by have h2 := HH2.out.1; have h3 := hLe.out; omega) Try.underlying28 bb_info rfl (by omega) rfl rfl (by rfl) (by rfl) (fun v' W' O2 H2 hz => ?_); clear K1 O1; obtain ⟨s4, c4, rfl⟩ := own_form O2))

          have hw : wrap64 (((flen recs : Nat) : Int) + (16 + (r.length : Int))) = ((flen (recs ++ [r]) : Nat) : Int) := by
            have := HH2.out
            rw [flen_app, w64i _ (by omega)]
            simp only [flen]
            omega
          rw [hw]
          refine ⟨⟨first, recs ++ [r], l0 ++ rows, vals ++ [.slice sv r.length cv], rfl, rfl, by rw [List.length_append, ← hLe.out]; exact O2, H2, scan_push HL.out HHF.out HF0, HGG.out, ?_, ?_⟩, ?_⟩
          · rw [flen_app]; simp only [flen]; omega
          · have := HZ.out; rw [List.length_append]; simp only [List.length_cons, List.length_nil]; omega
          · rw [flen_app]; simp only [flen, intOf]; omega
end Go.Proofs.Ytaonaifnaecpiaa.Own
