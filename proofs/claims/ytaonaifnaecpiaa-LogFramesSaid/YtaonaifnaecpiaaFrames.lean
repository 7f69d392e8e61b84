/- LogFrames: the walk. No conditions beside those in each theorem. -/
import Derived.Test.YtaonaifnaecpiaaKn4b
import Derived.Test.YtaonaifnaecpiaaRefD
import Derived.Test.YtaonaifnaecpiaaSame
namespace Go.Proofs.Ytaonaifnaecpiaa.Own
open Go.RowKit Go.Proofs.YtaonaifnaecpiaaW.PrintWords
set_option linter.unusedSimpArgs false
set_option linter.unusedVariables false
theorem scn_isBL : ∀ (n : Nat) (bs : List Int) (q : Nat), isB bs → isBL (scn n bs q) := by
  intro n
  induction n with
  | zero => intro bs q _ r hr; simp [scn] at hr
  | succ n ih =>
    intro bs q hb r hr
    rw [scn] at hr
    rcases hp : parse1 bs with _ | ⟨p, r0⟩
    · rw [hp] at hr; simp at hr
    · rw [hp] at hr
      simp only at hr
      split at hr
      · rcases List.mem_cons.1 hr with rfl | hr
        · exact parse1_isB hb hp
        · exact ih _ _ (isB_drop hb _) r hr
      · simp at hr
theorem scan_isBL {bs : List Int} (hb : isB bs) : isBL (scan bs).2 := by
  unfold scan
  rcases hp : parse1 bs with _ | ⟨q, r⟩
  · intro r hr; simp at hr
  · rcases q with _ | q
    · intro r hr; simp at hr
    · exact scn_isBL bs.length bs (q + 1) hb
set_option maxRecDepth 100000 in
set_option maxHeartbeats 4000000 in
theorem frames_k {w : World} (q : Nat) (hq : q < 18446744073709551616) (rc bs : List Int) (n m : Nat) (hn : Hid (rc.length = n)) (hm : Hid (bs.length = m)) (hrb : isB rc) (hbb : isB bs) (h1 : n ≤ 140737488351232) (h2 : m ≤ 140737488351232) (sp sq : Option Addr) (cp cq : Nat) (hcq : m ≤ cq) (hS : SrcV w sp (bcl rc)) (hT : SrcV w sq (bcl bs)) :
    Calls Try.prog 3 #[.int .u64 (q : Int), .slice sp n cp, .slice sq m cq] w fun e W' => e = .returned (.bool true) ∧ Below w.heap.size w W' := by
  have hl := lent_k (kr_refl w) bs m hm h2 sq cq (fun W1 H => srcV_keep hT H.below)
  have HS : Hid (SrcV w sp (bcl rc)) := hS
  have HT : Hid (SrcV w sq (bcl bs)) := hT
  have HB : Hid (isB rc ∧ isB bs ∧ m ≤ 140737488351232 ∧ m ≤ cq ∧ q < 18446744073709551616) := ⟨hrb, hbb, h2, hcq, hq⟩
  have HBL : Hid (isBL (scan bs).2) := scan_isBL hbb
  have HLN : Hid (16 * (scan bs).2.length ≤ m) := Nat.le_trans (flen_ge _) (by have := (scan_props hbb).2.1; rw [hm.out] at this; exact this)
  have T1 : Hid True := trivial
  clear hS hT hrb hbb hq h2 hcq
  by_cases hbig : 60000 < n
  · have HN : Hid (60000 < n) := hbig
    clear hbig h1
    go_enter Try.func3, Try.ntmps3
    go_wp2_with (go_at_call 10; refine hl.mono ?_; rintro e w1 ⟨g, cap, cur, rfl, hc8, hcl, hct, K1⟩)
    clear hl
    go_wp2_with (first | (go_at_call 11; refine (frame_big q n HN.out sp cp).mono ?_; rintro e w2 ⟨rfl, rfl⟩) | (go_at_call 12; refine (rframe_big q n HN.out sp cp).mono ?_; rintro e w2 ⟨rfl, rfl⟩))
    have K3 : KR w [(g, cur)] w1 := K1
    have hcur : cur.take m = bcl bs := by
      have := congrArg (List.take m) hct
      rw [List.take_take, Nat.min_eq_left (by omega), List.take_append_of_le_length (by rw [List.length_map, hm.out]; omega), List.take_of_length_le (l := bs.map (Value.int .u8)) (by rw [List.length_map, hm.out]; omega)] at this
      exact this
    have HCU : Hid (cur.take m = bcl bs) := hcur
    have HC8 : Hid (m + 8 ≤ cap ∧ cap = cur.length ∧ cur.take (m + 8) = bs.map (.int .u8) ++ a5s) := ⟨hc8, hcl, hct⟩
    clear hcur hc8 hct
    go_wp2_with (go_at_call 13; refine (scan_k bs m hm HB.out.2.1 HB.out.2.2.1 _ _ (by have := HC8.out; omega) (srcV_row K3 List.mem_cons_self HCU.out)).mono ?_; rintro e w4 ⟨v4, l4, rfl, K4', R4⟩; have K4 := kr_join K3 K4'; clear K4')
    go_wp2_with (go_at_call 14; refine (rscan_k bs m hm HB.out.2.1 HB.out.2.2.1 sq cq HB.out.2.2.2.1 (srcV_keep HT.out K4.below)).mono ?_; rintro e w5 ⟨v5, l5, rfl, K5', R5⟩; have K5 := kr_join K4 K5'; clear K5')
    obtain ⟨s4, c4, rfl, hc4, V4⟩ := rl_llv K5 (rl_mono R4 (fun x hx => List.mem_append_right _ (List.mem_append_left _ hx)))
    obtain ⟨s5, c5, rfl, hc5, V5⟩ := rl_llv K5 (rl_mono R5 (fun x hx => List.mem_append_left _ hx))
    have q1 := conv_cells (W := w5) (co := none) (bs := []) 0 0 rfl (fun h => absurd h (by simp))
    have hmem : (g, cur) ∈ l5 ++ (l4 ++ [(g, cur)]) := by simp
    have hsame := same_k (W := w5) (scan bs).2 (scan bs).2 _ _ rfl rfl HBL.out HBL.out (by have := HLN.out; have := HB.out.2.2.1; omega) (by have := HLN.out; have := HB.out.2.2.1; omega) s4 s5 c4 c5 V4 V5
    generalize l5 ++ (l4 ++ [(g, cur)]) = ys at K5 hmem
    clear K4 K3 K1 R4 R5 V4 V5 HLN HBL
    generalize strOfNums [] = S at q1
    generalize (scan bs).2.length = L at hsame hc4 hc5 ⊢
    generalize flen (scan bs).2 = A1 at *
    generalize (scan bs).1 = A2 at *
    have hcl : cap = cur.length := HC8.out.2.1
    have hsum := fun (W1 : World) (K : KR w ys W1) => sum_k K bs m hm HB.out.2.1 (by have := HB.out.2.2.1; omega) (some ⟨g, 0, none⟩) cur.length (fun W2 H => srcV_row H hmem HCU.out)
    have hrsum := fun (W1 : World) (K : KR w ys W1) => rsum_k (W := W1) bs m hm HB.out.2.1 (by have := HB.out.2.2.1; omega) sq cq (srcV_keep HT.out K.below)
    have hkept := fun (W1 : World) (K : KR w ys W1) => kept_k K bs m hm HB.out.2.2.1 sq cq (srcV_keep HT.out K.below) g cur.length cur hmem (by have := HC8.out.1; omega) HC8.out.2.2
    have HCL : Hid (cap = cur.length) := hcl
    clear hcl hmem
    generalize cur.length = CL at *
    generalize crc (nb bs) = CR at *
    go_wp2_with (first | (go_at_call 15; refine hsame.mono ?_; rintro e w6 ⟨rfl, k6, rfl⟩; have K6 := kr_call K5 (bw_drewN (Below.refl _ _) k6); clear K5 hsame q1) | (go_at_call 16; refine (hsum _ K6).mono ?_; rintro e w7 ⟨rfl, K7⟩; clear K6) | (go_at_call 17; refine (hrsum _ K7).mono ?_; rintro e w8 ⟨rfl, rfl⟩) | (go_at_call 18; refine (hkept _ K7).mono ?_; rintro e w9 ⟨rfl, k9, rfl⟩; have K9 := kr_call K7 (bw_drewN (Below.refl _ _) k9)) | (go_at_call 19; refine (known_k K9).mono ?_; rintro e w10 ⟨rfl, K10⟩))
    refine bodyPost_ret (v := .bool true) (by simp [results, Try.results3, go_sem]) rfl ⟨rfl, K10.below⟩
  · have HN : Hid (n ≤ 60000) := by show _ ≤ _; omega
    clear hbig h1
    go_enter Try.func3, Try.ntmps3
    go_wp2_with (go_at_call 10; refine hl.mono ?_; rintro e w1 ⟨g, cap, cur, rfl, hc8, hcl, hct, K1⟩)
    clear hl
    go_wp2_with (go_at_call 11; refine (frame_k q HB.out.2.2.2.2 rc n hn HN.out HB.out.1 sp cp (srcV_keep HS.out K1.below)).mono ?_; rintro e w2 ⟨g2, rfl, hge, hBl, hBk⟩; have K2 := kr_join K1 (blk_kr (kr_call (kr_refl w1) hBl) hBk hge (by simp)); clear hge hBl hBk)
    go_wp2_with (go_at_call 12; refine (rframe_k q HB.out.2.2.2.2 rc n hn HN.out HB.out.1 sp cp (srcV_keep HS.out K2.below)).mono ?_; rintro e w3 ⟨v3, l3, rfl, K3', C3⟩; have K3 := kr_join K2 K3')
    obtain ⟨s3, c3, rfl, hc3, _⟩ := sc_src K3' C3
    clear K3'
    have hcur : cur.take m = bcl bs := by
      have := congrArg (List.take m) hct
      rw [List.take_take, Nat.min_eq_left (by omega), List.take_append_of_le_length (by rw [List.length_map, hm.out]; omega), List.take_of_length_le (l := bs.map (Value.int .u8)) (by rw [List.length_map, hm.out]; omega)] at this
      exact this
    have HCU : Hid (cur.take m = bcl bs) := hcur
    have HC8 : Hid (m + 8 ≤ cap ∧ cap = cur.length ∧ cur.take (m + 8) = bs.map (.int .u8) ++ a5s) := ⟨hc8, hcl, hct⟩
    clear hcur hc8 hct
    go_wp2_with (go_at_call 13; refine (scan_k bs m hm HB.out.2.1 HB.out.2.2.1 _ _ (by have := HC8.out; omega) (srcV_row K3 (List.mem_append_right _ (List.mem_cons_of_mem _ List.mem_cons_self)) HCU.out)).mono ?_; rintro e w4 ⟨v4, l4, rfl, K4', R4⟩; have K4 := kr_join K3 K4'; clear K4')
    go_wp2_with (go_at_call 14; refine (rscan_k bs m hm HB.out.2.1 HB.out.2.2.1 sq cq HB.out.2.2.2.1 (srcV_keep HT.out K4.below)).mono ?_; rintro e w5 ⟨v5, l5, rfl, K5', R5⟩; have K5 := kr_join K4 K5'; clear K5')
    obtain ⟨s4, c4, rfl, hc4, V4⟩ := rl_llv K5 (rl_mono R4 (fun x hx => List.mem_append_right _ (List.mem_append_left _ hx)))
    obtain ⟨s5, c5, rfl, hc5, V5⟩ := rl_llv K5 (rl_mono R5 (fun x hx => List.mem_append_left _ hx))
    have q1 := conv_cells (16 + n) (16 + n) (by rw [frameB_len, hn.out]) (srcV_row (cs := bcl (frameB q rc)) (m := (bcl (frameB q rc)).length) K5 (List.mem_append_right _ (List.mem_append_right _ (List.mem_append_right _ List.mem_cons_self))) (List.take_of_length_le (Nat.le_refl _)))
    have q2 := conv_cells (16 + n) c3 (by rw [frameB_len, hn.out]) (sc_srcV K5 (sc_mono C3 (fun x hx => List.mem_append_right _ (List.mem_append_right _ (List.mem_append_left _ hx)))))
    have hmem : (g, cur) ∈ l5 ++ (l4 ++ (l3 ++ ([(g2, bcl (frameB q rc))] ++ [(g, cur)]))) := by simp
    have hsame := same_k (W := w5) (scan bs).2 (scan bs).2 _ _ rfl rfl HBL.out HBL.out (by have := HLN.out; have := HB.out.2.2.1; omega) (by have := HLN.out; have := HB.out.2.2.1; omega) s4 s5 c4 c5 V4 V5
    generalize l5 ++ (l4 ++ (l3 ++ ([(g2, bcl (frameB q rc))] ++ [(g, cur)]))) = ys at K5 hmem
    clear K4 K3 K2 K1 R4 R5 C3 V4 V5 HLN HBL
    generalize strOfNums (frameB q rc) = S at q1 q2
    generalize (scan bs).2.length = L at hsame hc4 hc5 ⊢
    generalize flen (scan bs).2 = A1 at *
    generalize (scan bs).1 = A2 at *
    have hcl : cap = cur.length := HC8.out.2.1
    have hsum := fun (W1 : World) (K : KR w ys W1) => sum_k K bs m hm HB.out.2.1 (by have := HB.out.2.2.1; omega) (some ⟨g, 0, none⟩) cur.length (fun W2 H => srcV_row H hmem HCU.out)
    have hrsum := fun (W1 : World) (K : KR w ys W1) => rsum_k (W := W1) bs m hm HB.out.2.1 (by have := HB.out.2.2.1; omega) sq cq (srcV_keep HT.out K.below)
    have hkept := fun (W1 : World) (K : KR w ys W1) => kept_k K bs m hm HB.out.2.2.1 sq cq (srcV_keep HT.out K.below) g cur.length cur hmem (by have := HC8.out.1; omega) HC8.out.2.2
    have HCL : Hid (cap = cur.length) := hcl
    clear hcl hmem
    generalize cur.length = CL at *
    generalize crc (nb bs) = CR at *
    go_wp2_with (first | (go_at_call 15; refine hsame.mono ?_; rintro e w6 ⟨rfl, k6, rfl⟩; have K6 := kr_call K5 (bw_drewN (Below.refl _ _) k6); clear K5 hsame q1 q2) | (go_at_call 16; refine (hsum _ K6).mono ?_; rintro e w7 ⟨rfl, K7⟩; clear K6) | (go_at_call 17; refine (hrsum _ K7).mono ?_; rintro e w8 ⟨rfl, rfl⟩) | (go_at_call 18; refine (hkept _ K7).mono ?_; rintro e w9 ⟨rfl, k9, rfl⟩; have K9 := kr_call K7 (bw_drewN (Below.refl _ _) k9)) | (go_at_call 19; refine (known_k K9).mono ?_; rintro e w10 ⟨rfl, K10⟩))
    refine bodyPost_ret (v := .bool true) (by simp [results, Try.results3, go_sem]) rfl ⟨rfl, K10.below⟩
theorem logFrames_any (q : Int) (hq : (Lit.int .u64 q).wf = true) (sp : Option Addr) (n cp : Nat) (sq : Option Addr) (m cq : Nat) (w : World)
    (h1 : ∃ zs : List Int, zs.length = n ∧ SrcV w sp (bcl zs) ∧ isB zs ∧ n ≤ 140737488351232 ∧ n ≤ cp) (h2 : ∃ zs : List Int, zs.length = m ∧ SrcV w sq (bcl zs) ∧ isB zs ∧ m ≤ 140737488351232 ∧ m ≤ cq) :
    Calls Try.prog 3 #[.int .u64 q, .slice sp n cp, .slice sq m cq] w fun e W' => e = .returned (.bool true) ∧ Below w.heap.size w W' := by
  obtain ⟨rc, a1, a2, a3, a4, a5⟩ := h1
  obtain ⟨bs, b1, b2, b3, b4, b5⟩ := h2
  simp [Lit.wf, IntKind.min, IntKind.max, IntKind.signed, IntKind.bits] at hq
  obtain ⟨k, rfl⟩ : ∃ k : Nat, q = (k : Int) := ⟨q.toNat, by omega⟩
  exact frames_k k (by omega) rc bs n m a1 b1 a3 b3 a4 b4 sp sq cp cq b5 a2 b2
end Go.Proofs.Ytaonaifnaecpiaa.Own
