/- dayshift/week's Read, of five bytes. No conditions beside those in each theorem. -/
import Derived.Test.YtklpcmfigfigcaaLx2
import Derived.Test.YtklpcmfigfigcaaKr
import Derived.Laws.RangeAny
namespace Go.Proofs.Ytklpcmfigfigcaa.Own
open Go.RowKit Go.Proofs.YtklpcmfigfigcaaW.PrintWords Go.Proofs.Ytklpcmfigfigcaa.Pk
set_option linter.unusedSimpArgs false
set_option linter.unusedVariables false
theorem next_gen (W : World) (g : Nat) (s : ByteArray) (pos : Nat) (ty : TypeId) (hW : W.heap[g]? = some (.stringIter s pos)) (h : pos < s.size) :
    ∃ (r : Int) (n : Nat), ((s[pos]'h).toNat < 128 → n = pos + 1) ∧ (Instr.next (.pointer (some ⟨g, 0, none⟩)) true ty).run Try.prog W = .ok (.tuple #[.bool true, .int .i64 pos, .int .i32 r]) (wput W g (.stringIter s n)) := by
  refine ⟨((Utf8.decode s pos).1 : Int), pos + (Utf8.decode s pos).2, fun ha => by rw [decode_ascii s pos h ha], ?_⟩
  simp only [Instr.next, getObj, setObj, Sem.run_bind, Sem.run, hW, Result.andThen, h, if_true]
  simp [goInt]
  rfl
theorem next_fin (W : World) (g : Nat) (s : ByteArray) (pos : Nat) (ty : TypeId) (hW : W.heap[g]? = some (.stringIter s pos)) (h : ¬ pos < s.size) :
    (Instr.next (.pointer (some ⟨g, 0, none⟩)) true ty).run Try.prog W = .ok (.tuple #[.bool false]) W := by
  simp [Instr.next, getObj, Sem.run, hW, h]
theorem kr_wput {w W : World} {rs : List (Nat × List Value)} {g : Nat} {s : ByteArray} {pos : Nat} {o : Obj} (h : KR w rs W) (hW : W.heap[g]? = some (.stringIter s pos)) (hg : w.heap.size ≤ g) (hne : ∀ p ∈ rs, p.1 ≠ g) : KR w rs (wput W g o) := by
  have hc : ∀ b j, b ≠ g → (wput W g o).cell? ⟨b, j, none⟩ = W.cell? ⟨b, j, none⟩ ∧ (wput W g o).frozen? ⟨b, j, none⟩ = W.frozen? ⟨b, j, none⟩ := fun b j hb => by
    unfold wput World.cell? World.frozen?
    simp [Array.getElem?_setIfInBounds, hb.symm, Ne.symm hb]
  refine ⟨wput_below h.below hg, fun p hp => ?_, h.apart⟩
  obtain ⟨h0, h1, h2, h3⟩ := h.rows p hp
  refine ⟨h0, by rw [wput_size]; exact h1, fun j v hv => ?_, fun j hj => ?_⟩
  · rw [(hc _ _ (hne p hp)).1]; exact h2 j v hv
  · rw [(hc _ _ (hne p hp)).1, (hc _ _ (hne p hp)).2]; exact h3 j hj
def wreadF : List Int → Int × Int
  | [a, b, _, c, d] => if (isDg a && isDg b && isDg c && isDg d) = true then (if (a - 48) * 10 + (b - 48) > 23 ∨ (c - 48) * 10 + (d - 48) > 59 then (0, 6) else (((a - 48) * 10 + (b - 48)) * 60 + ((c - 48) * 10 + (d - 48)), 0)) else (0, 20)
  | _ => (0, 20)
theorem wreadF_eq (a b x c d : Int) : wreadF [a, b, x, c, d] = if (isDg a && isDg b && isDg c && isDg d) = true then (if (a - 48) * 10 + (b - 48) > 23 ∨ (c - 48) * 10 + (d - 48) > 59 then (0, 6) else (((a - 48) * 10 + (b - 48)) * 60 + ((c - 48) * 10 + (d - 48)), 0)) else (0, 20) := rfl
theorem set_heap (W : World) (b j g : Nat) (v : Value) (h : b ≠ g) : (W.setCell ⟨b, j, none⟩ v).drew.heap[g]? = W.heap[g]? := Go.Deep.blk_setCell_other _ _ _ _ h.symm
def wP0 (a b : Int) : Nat → Int
  | 0 => 0
  | 1 => a - 48
  | _ => (a - 48) * 10 + (b - 48)
def wP1 (c d : Int) : Nat → Int
  | 0 => 0
  | 1 => 0
  | 2 => 0
  | 3 => 0
  | 4 => c - 48
  | _ => (c - 48) * 10 + (d - 48)
def wOK (a b c d : Int) : Nat → Bool
  | 0 => true
  | 1 => isDg a
  | 2 => isDg a && isDg b
  | 3 => isDg a && isDg b
  | 4 => isDg a && isDg b && isDg c
  | _ => isDg a && isDg b && isDg c && isDg d
theorem isDg_yes {c : Int} (h : isDg c = true) : 48 ≤ c ∧ c ≤ 57 := by unfold isDg at h; simp at h; exact h
theorem isDg_no {c : Int} (h : isDg c = false) : c < 48 ∨ 57 < c := by unfold isDg at h; rw [Bool.and_eq_false_iff] at h; simp at h; omega
set_option maxHeartbeats 2000000 in
theorem wread_k (s : ByteArray) (hs : s.size = 5) (a b c d : Int) (hb : bytesOf s = [a, b, 58, c, d]) (w : World) :
    Calls Try.prog 39 #[.string s] w fun e W' => e = .returned (.tuple #[.int .i64 (wreadF [a, b, 58, c, d]).1, .int .i64 (wreadF [a, b, 58, c, d]).2]) ∧ Below w.heap.size w W' := by
  have hby : ∀ (j : Nat) (hj : j < s.size) (x : Int), [a, b, 58, c, d][j]? = some x → ((s[j]'hj).toNat : Int) = x := fun j hj x hx => by
    rw [← hb] at hx
    have := bytes_drop s j hj
    have h2 : (bytesOf s)[j]? = ((bytesOf s).drop j)[0]? := by rw [List.getElem?_drop]; rfl
    rw [h2, this] at hx
    simpa using hx
  have e0 := hby 0 (by omega) a rfl
  have e1 := hby 1 (by omega) b rfl
  have e2 := hby 2 (by omega) 58 rfl
  have e3 := hby 3 (by omega) c rfl
  have e4 := hby 4 (by omega) d rfl
  have hsi : (s.size : Int) = 5 := by omega
  have HBY : Hid (∀ (j : Nat) (hj : j < s.size) (x : Int), [a, b, 58, c, d][j]? = some x → ((s[j]'hj).toNat : Int) = x) := hby
  clear hby hb
  go_enter Try.func39, Try.ntmps39
  go_wp2_with fail
  go_loopw [5] (fun v5 W => ∃ k : Nat, k ≤ 5 ∧ W.heap[w.heap.size + 1]? = some (.stringIter s k) ∧ KR w [(w.heap.size, [.int .i64 (wP0 a b k), .int .i64 (wP1 c d k)])] W ∧ wOK a b c d k = true) (fun _ W => 5 - W.iterPos (w.heap.size + 1))
  case atStart =>
    have hz : (w.alloc (.cells #[.int .i64 0, .int .i64 0] 69)).heap.size = w.heap.size + 1 := by simp
    refine ⟨0, by omega, ?_, kr_alloc (kr_new (kr_refl w) [.int .i64 0, .int .i64 0] 69) _, rfl⟩
    rw [← hz]
    exact World.iter_heap _ s 0
  case round =>
    obtain ⟨k, hk, hI, HK, hok⟩ := hrel
    obtain rfl | rfl | rfl | rfl | rfl | rfl : k = 0 ∨ k = 1 ∨ k = 2 ∨ k = 3 ∨ k = 4 ∨ k = 5 := by omega
    · obtain ⟨r, n, hn, hx⟩ := next_gen wr (w.heap.size + 1) s 0 0 hI (by omega)
      cases hd : isDg a with
      | true =>
        have dx := isDg_yes hd
        obtain rfl : n = 1 := hn (by omega)
        have K1 : KR w _ (wput wr (w.heap.size + 1) (.stringIter s 1)) := kr_wput HK hI (by omega) (by intro p hp; rw [List.mem_singleton.1 hp]; simp)
        have I1 : (wput wr (w.heap.size + 1) (.stringIter s 1)).heap[w.heap.size + 1]? = some (.stringIter s 1) := wput_get (Array.getElem?_eq_some_iff.1 hI).1
        generalize wput wr (w.heap.size + 1) (.stringIter s 1) = W1 at hx K1 I1
        have HI : Hid (W1.heap[w.heap.size + 1]? = some (.stringIter s 1)) := I1
        have hip : wr.iterPos (w.heap.size + 1) = 0 := by simp [World.iterPos, hI]
        have HOK : Hid (wOK a b c d 1 = true) := hd
        have c0 := kr_cell K1 0 rfl 0 _ rfl
        have f0 := kr_frozen K1 0 rfl 0 (by simp)
        skip
        simp only [wP0, wP1] at c0
        have HK2 : Hid (KR w [(w.heap.size, [.int .i64 (wP0 a b 1), .int .i64 (wP1 c d 1)])] (W1.setCell ⟨w.heap.size, 0, none⟩ (.int .i64 (a - 48))).drew) := kr_drew (kr_fset K1 0 rfl 0 (by simp) _ _ rfl)
        have HI2 : Hid ((W1.setCell ⟨w.heap.size, 0, none⟩ (.int .i64 (a - 48))).drew.heap[w.heap.size + 1]? = some (.stringIter s 1)) := (set_heap W1 w.heap.size 0 (w.heap.size + 1) _ (by omega)).trans I1
        clear I1 hI HK hok hd K1 HI
        go_wp2_with fail
        go_region
        all_goals go_wp2_with fail
        all_goals exact ⟨⟨1, by omega, HI2.out, HK2.out, HOK.out⟩, by rw [hip]; simp [World.iterPos, HI2.out]⟩
      | false =>
        have dx := isDg_no hd
        have HB : Hid (Below w.heap.size w (wput wr (w.heap.size + 1) (.stringIter s n))) := wput_below HK.below (by omega)
        have HR : Hid (wreadF [a, b, 58, c, d] = (0, 20)) := by show _ = _; rw [wreadF_eq, if_neg]; simp [hd]
        generalize wput wr (w.heap.size + 1) (.stringIter s n) = W1 at hx HB
        clear hI HK hok hd hn
        rcases dx with dx | dx
        · go_wp2_with fail
          refine bodyPost_ret (v := .tuple #[.int .i64 0, .int .i64 20]) (by simp [results, Try.results39, go_sem]) rfl ⟨by rw [HR.out], HB.out⟩
        · have dy : ¬ a < 48 := by omega
          go_wp2_with fail
          refine bodyPost_ret (v := .tuple #[.int .i64 0, .int .i64 20]) (by simp [results, Try.results39, go_sem]) rfl ⟨by rw [HR.out], HB.out⟩
    · obtain ⟨r, n, hn, hx⟩ := next_gen wr (w.heap.size + 1) s 1 0 hI (by omega)
      cases hd : isDg b with
      | true =>
        have dx := isDg_yes hd
        obtain rfl : n = 2 := hn (by omega)
        have K1 : KR w _ (wput wr (w.heap.size + 1) (.stringIter s 2)) := kr_wput HK hI (by omega) (by intro p hp; rw [List.mem_singleton.1 hp]; simp)
        have I1 : (wput wr (w.heap.size + 1) (.stringIter s 2)).heap[w.heap.size + 1]? = some (.stringIter s 2) := wput_get (Array.getElem?_eq_some_iff.1 hI).1
        generalize wput wr (w.heap.size + 1) (.stringIter s 2) = W1 at hx K1 I1
        have HI : Hid (W1.heap[w.heap.size + 1]? = some (.stringIter s 2)) := I1
        have hip : wr.iterPos (w.heap.size + 1) = 1 := by simp [World.iterPos, hI]
        have HOK : Hid (wOK a b c d 2 = true) := by show (isDg a && isDg b) = true; rw [show isDg a = true from hok, hd]; rfl
        have c0 := kr_cell K1 0 rfl 0 _ rfl
        have f0 := kr_frozen K1 0 rfl 0 (by simp)
        have da := isDg_yes (show isDg a = true from hok)
        simp only [wP0, wP1] at c0
        have HK2 : Hid (KR w [(w.heap.size, [.int .i64 (wP0 a b 2), .int .i64 (wP1 c d 2)])] (W1.setCell ⟨w.heap.size, 0, none⟩ (.int .i64 ((a - 48) * 10 + (b - 48)))).drew) := kr_drew (kr_fset K1 0 rfl 0 (by simp) _ _ rfl)
        have HI2 : Hid ((W1.setCell ⟨w.heap.size, 0, none⟩ (.int .i64 ((a - 48) * 10 + (b - 48)))).drew.heap[w.heap.size + 1]? = some (.stringIter s 2)) := (set_heap W1 w.heap.size 0 (w.heap.size + 1) _ (by omega)).trans I1
        clear I1 hI HK hok hd K1 HI
        go_wp2_with fail
        go_region
        all_goals go_wp2_with fail
        all_goals exact ⟨⟨2, by omega, HI2.out, HK2.out, HOK.out⟩, by rw [hip]; simp [World.iterPos, HI2.out]⟩
      | false =>
        have dx := isDg_no hd
        have HB : Hid (Below w.heap.size w (wput wr (w.heap.size + 1) (.stringIter s n))) := wput_below HK.below (by omega)
        have HR : Hid (wreadF [a, b, 58, c, d] = (0, 20)) := by show _ = _; rw [wreadF_eq, if_neg]; simp [hd]
        generalize wput wr (w.heap.size + 1) (.stringIter s n) = W1 at hx HB
        clear hI HK hok hd hn
        rcases dx with dx | dx
        · go_wp2_with fail
          refine bodyPost_ret (v := .tuple #[.int .i64 0, .int .i64 20]) (by simp [results, Try.results39, go_sem]) rfl ⟨by rw [HR.out], HB.out⟩
        · have dy : ¬ b < 48 := by omega
          go_wp2_with fail
          refine bodyPost_ret (v := .tuple #[.int .i64 0, .int .i64 20]) (by simp [results, Try.results39, go_sem]) rfl ⟨by rw [HR.out], HB.out⟩
    · obtain ⟨r, n, hn, hx⟩ := next_gen wr (w.heap.size + 1) s 2 0 hI (by omega)
      obtain rfl : n = 3 := hn (by omega)
      have K1 : KR w _ (wput wr (w.heap.size + 1) (.stringIter s 3)) := kr_wput HK hI (by omega) (by intro p hp; rw [List.mem_singleton.1 hp]; simp)
      have I1 : (wput wr (w.heap.size + 1) (.stringIter s 3)).heap[w.heap.size + 1]? = some (.stringIter s 3) := wput_get (Array.getElem?_eq_some_iff.1 hI).1
      generalize wput wr (w.heap.size + 1) (.stringIter s 3) = W1 at hx K1 I1
      have HI : Hid (W1.heap[w.heap.size + 1]? = some (.stringIter s 3)) := I1
      have hip : wr.iterPos (w.heap.size + 1) = 2 := by simp [World.iterPos, hI]
      clear I1 hI HK
      go_wp2_with fail
      go_round
      case rel => exact ⟨3, by omega, HI.out, K1, hok⟩
      case measure => (rw [hip]; simp [World.iterPos, HI.out])
    · obtain ⟨r, n, hn, hx⟩ := next_gen wr (w.heap.size + 1) s 3 0 hI (by omega)
      cases hd : isDg c with
      | true =>
        have dx := isDg_yes hd
        obtain rfl : n = 4 := hn (by omega)
        have K1 : KR w _ (wput wr (w.heap.size + 1) (.stringIter s 4)) := kr_wput HK hI (by omega) (by intro p hp; rw [List.mem_singleton.1 hp]; simp)
        have I1 : (wput wr (w.heap.size + 1) (.stringIter s 4)).heap[w.heap.size + 1]? = some (.stringIter s 4) := wput_get (Array.getElem?_eq_some_iff.1 hI).1
        generalize wput wr (w.heap.size + 1) (.stringIter s 4) = W1 at hx K1 I1
        have HI : Hid (W1.heap[w.heap.size + 1]? = some (.stringIter s 4)) := I1
        have hip : wr.iterPos (w.heap.size + 1) = 3 := by simp [World.iterPos, hI]
        have HOK : Hid (wOK a b c d 4 = true) := by show (isDg a && isDg b && isDg c) = true; rw [show (isDg a && isDg b) = true from hok, hd]; rfl
        have c0 := kr_cell K1 0 rfl 1 _ rfl
        have f0 := kr_frozen K1 0 rfl 1 (by simp)
        skip
        simp only [wP0, wP1] at c0
        have HK2 : Hid (KR w [(w.heap.size, [.int .i64 (wP0 a b 4), .int .i64 (wP1 c d 4)])] (W1.setCell ⟨w.heap.size, 1, none⟩ (.int .i64 (c - 48))).drew) := kr_drew (kr_fset K1 0 rfl 1 (by simp) _ _ rfl)
        have HI2 : Hid ((W1.setCell ⟨w.heap.size, 1, none⟩ (.int .i64 (c - 48))).drew.heap[w.heap.size + 1]? = some (.stringIter s 4)) := (set_heap W1 w.heap.size 1 (w.heap.size + 1) _ (by omega)).trans I1
        clear I1 hI HK hok hd K1 HI
        go_wp2_with fail
        go_region
        all_goals go_wp2_with fail
        all_goals exact ⟨⟨4, by omega, HI2.out, HK2.out, HOK.out⟩, by rw [hip]; simp [World.iterPos, HI2.out]⟩
      | false =>
        have dx := isDg_no hd
        have HB : Hid (Below w.heap.size w (wput wr (w.heap.size + 1) (.stringIter s n))) := wput_below HK.below (by omega)
        have HR : Hid (wreadF [a, b, 58, c, d] = (0, 20)) := by show _ = _; rw [wreadF_eq, if_neg]; simp [hd]
        generalize wput wr (w.heap.size + 1) (.stringIter s n) = W1 at hx HB
        clear hI HK hok hd hn
        rcases dx with dx | dx
        · go_wp2_with fail
          refine bodyPost_ret (v := .tuple #[.int .i64 0, .int .i64 20]) (by simp [results, Try.results39, go_sem]) rfl ⟨by rw [HR.out], HB.out⟩
        · have dy : ¬ c < 48 := by omega
          go_wp2_with fail
          refine bodyPost_ret (v := .tuple #[.int .i64 0, .int .i64 20]) (by simp [results, Try.results39, go_sem]) rfl ⟨by rw [HR.out], HB.out⟩
    · obtain ⟨r, n, hn, hx⟩ := next_gen wr (w.heap.size + 1) s 4 0 hI (by omega)
      cases hd : isDg d with
      | true =>
        have dx := isDg_yes hd
        obtain rfl : n = 5 := hn (by omega)
        have K1 : KR w _ (wput wr (w.heap.size + 1) (.stringIter s 5)) := kr_wput HK hI (by omega) (by intro p hp; rw [List.mem_singleton.1 hp]; simp)
        have I1 : (wput wr (w.heap.size + 1) (.stringIter s 5)).heap[w.heap.size + 1]? = some (.stringIter s 5) := wput_get (Array.getElem?_eq_some_iff.1 hI).1
        generalize wput wr (w.heap.size + 1) (.stringIter s 5) = W1 at hx K1 I1
        have HI : Hid (W1.heap[w.heap.size + 1]? = some (.stringIter s 5)) := I1
        have hip : wr.iterPos (w.heap.size + 1) = 4 := by simp [World.iterPos, hI]
        have HOK : Hid (wOK a b c d 5 = true) := by show (isDg a && isDg b && isDg c && isDg d) = true; rw [show (isDg a && isDg b && isDg c) = true from hok, hd]; rfl
        have c0 := kr_cell K1 0 rfl 1 _ rfl
        have f0 := kr_frozen K1 0 rfl 1 (by simp)
        have dc := isDg_yes (show isDg c = true from by have h : (isDg a && isDg b && isDg c) = true := hok; rw [Bool.and_eq_true] at h; exact h.2)
        simp only [wP0, wP1] at c0
        have HK2 : Hid (KR w [(w.heap.size, [.int .i64 (wP0 a b 5), .int .i64 (wP1 c d 5)])] (W1.setCell ⟨w.heap.size, 1, none⟩ (.int .i64 ((c - 48) * 10 + (d - 48)))).drew) := kr_drew (kr_fset K1 0 rfl 1 (by simp) _ _ rfl)
        have HI2 : Hid ((W1.setCell ⟨w.heap.size, 1, none⟩ (.int .i64 ((c - 48) * 10 + (d - 48)))).drew.heap[w.heap.size + 1]? = some (.stringIter s 5)) := (set_heap W1 w.heap.size 1 (w.heap.size + 1) _ (by omega)).trans I1
        clear I1 hI HK hok hd K1 HI
        go_wp2_with fail
        go_region
        all_goals go_wp2_with fail
        all_goals exact ⟨⟨5, by omega, HI2.out, HK2.out, HOK.out⟩, by rw [hip]; simp [World.iterPos, HI2.out]⟩
      | false =>
        have dx := isDg_no hd
        have HB : Hid (Below w.heap.size w (wput wr (w.heap.size + 1) (.stringIter s n))) := wput_below HK.below (by omega)
        have HR : Hid (wreadF [a, b, 58, c, d] = (0, 20)) := by show _ = _; rw [wreadF_eq, if_neg]; simp [hd]
        generalize wput wr (w.heap.size + 1) (.stringIter s n) = W1 at hx HB
        clear hI HK hok hd hn
        rcases dx with dx | dx
        · go_wp2_with fail
          refine bodyPost_ret (v := .tuple #[.int .i64 0, .int .i64 20]) (by simp [results, Try.results39, go_sem]) rfl ⟨by rw [HR.out], HB.out⟩
        · have dy : ¬ d < 48 := by omega
          go_wp2_with fail
          refine bodyPost_ret (v := .tuple #[.int .i64 0, .int .i64 20]) (by simp [results, Try.results39, go_sem]) rfl ⟨by rw [HR.out], HB.out⟩
    · have hx := next_fin wr (w.heap.size + 1) s 5 0 hI (by omega)
      have c0 := kr_cell HK 0 rfl 0 _ rfl
      have c1 := kr_cell HK 0 rfl 1 _ rfl
      have hd : (isDg a && isDg b && isDg c && isDg d) = true := hok
      have hdd : ((isDg a = true ∧ isDg b = true) ∧ isDg c = true) ∧ isDg d = true := by simpa using hd
      have da := isDg_yes hdd.1.1.1
      have db := isDg_yes hdd.1.1.2
      have dc := isDg_yes hdd.1.2
      have dd := isDg_yes hdd.2
      have HR : Hid (wreadF [a, b, 58, c, d] = if (a - 48) * 10 + (b - 48) > 23 ∨ (c - 48) * 10 + (d - 48) > 59 then (0, 6) else (((a - 48) * 10 + (b - 48)) * 60 + ((c - 48) * 10 + (d - 48)), 0)) := by show _ = _; rw [wreadF_eq, if_pos hd]
      have HB : Hid (Below w.heap.size w wr) := HK.below
      obtain ⟨h, hh⟩ : ∃ h, h = (a - 48) * 10 + (b - 48) := ⟨_, rfl⟩
      obtain ⟨m, hm⟩ : ∃ m, m = (c - 48) * 10 + (d - 48) := ⟨_, rfl⟩
      have hh1 : 0 ≤ h ∧ h ≤ 99 := by omega
      have hm1 : 0 ≤ m ∧ m ≤ 99 := by omega
      simp only [wP0, wP1] at c0 c1
      rw [← hh] at c0 HR
      rw [← hm] at c1 HR
      clear HK hok hd hdd da db dc dd hh hm hI
      by_cases h1 : 23 < h
      · have HR2 : Hid (wreadF [a, b, 58, c, d] = (0, 6)) := by show _ = _; rw [HR.out, if_pos (.inl h1)]
        go_wp2_with fail
        refine bodyPost_ret (v := .tuple #[.int .i64 0, .int .i64 6]) (by simp [results, Try.results39, go_sem]) rfl ⟨by rw [HR2.out], HB.out⟩
      · by_cases h2 : 59 < m
        · have HR2 : Hid (wreadF [a, b, 58, c, d] = (0, 6)) := by show _ = _; rw [HR.out, if_pos (.inr h2)]
          go_wp2_with fail
          refine bodyPost_ret (v := .tuple #[.int .i64 0, .int .i64 6]) (by simp [results, Try.results39, go_sem]) rfl ⟨by rw [HR2.out], HB.out⟩
        · have HR2 : Hid (wreadF [a, b, 58, c, d] = (h * 60 + m, 0)) := by show _ = _; rw [HR.out, if_neg (by omega)]
          have h1' : h ≤ 23 := by omega
          have h2' : m ≤ 59 := by omega
          go_wp2_with fail
          refine bodyPost_ret (v := .tuple #[.int .i64 (h * 60 + m), .int .i64 0]) (by simp [results, Try.results39, go_sem]) rfl ⟨by rw [HR2.out], HB.out⟩
end Go.Proofs.Ytklpcmfigfigcaa.Own
