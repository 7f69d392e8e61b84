/- dayshiftlaw31's given: entries that came in, as the program has them, in new memory. No conditions beside those in each theorem. -/
import Derived.Test.YtofpkmfjigjlhaaSp31
import Derived.Test.YtofpkmfjigjlhaaApR
namespace Go.Proofs.Ytofpkmfjigjlhaa.Own
open Go.RowKit
set_option linter.unusedSimpArgs false
set_option linter.unusedVariables false
theorem pent_info : (Try.prog.info? 82).map (fun i => (i.zero, i.size, i.bytes)) = some (some (.agg #[.int .i64 0, .slice none 0 0]), 2, 32) := by kernel_rfl
/-- A list that is being made: its row, the rows of its bytes. -/
structure GL (w W : World) (wx rows : List (Nat × List Value)) (v : Value) (es : List SE) (vals : List Value) : Prop where
  ws : WS wx 2 v es.length (ecl es vals)
  kr : KR w (wx ++ rows) W
  len : vals.length = es.length
  fc : ∀ (j : Nat) (u : Value) (x : SE), vals[j]? = some u → es[j]? = some x → FC rows u x.2
theorem gl_nil (w : World) : GL w w [] [] (.slice none 0 0) [] [] := ⟨ws_nil 2, kr_refl w, rfl, fun j u x h => by simp at h⟩
theorem gl_end {w W : World} {wx rows : List (Nat × List Value)} {v : Value} {es : List SE} {vals : List Value} (h : GL w W wx rows v es vals) : ∃ l, KR w l W ∧ EL l v es := by
  refine ⟨wx ++ rows, h.kr, vals, h.len, ?_, fun j u x hu hx => fc_monoL (h.fc j u x hu hx) (fun p hp => List.mem_append_right _ hp)⟩
  rcases h.ws with ⟨h1, h2, h3, -⟩ | ⟨g, cap, cur, h1, h2, h3, h4, h5, h6⟩
  · exact .inl ⟨h1, h2, h3⟩
  · exact .inr ⟨g, cap, cur, h2, by rw [h1]; exact List.mem_append_left _ List.mem_cons_self, h3, h5, h6⟩
theorem gl_bytes {w W' : World} {wx rows : List (Nat × List Value)} {v' : Value} {bs : List Int} {m : Nat} (hm : bs.length = m) (O : Own w (wx ++ rows) 5 1 v' (0 + m) ([] ++ bc bs) W') (K : KR w (wx ++ rows) W') : ∃ s c l, v' = .slice s m c ∧ KR w (wx ++ (l ++ rows)) W' ∧ FC l (.slice s m c) bs := by
  rw [Nat.zero_add, List.nil_append] at O
  obtain ⟨s, c, rfl⟩ := own_form O
  obtain ⟨l, HL, HC⟩ := own_settle K O
  refine ⟨s, c, l, rfl, kr_permA HL ?_, sc_fc hm HC⟩
  rw [← List.append_assoc, ← List.append_assoc]
  exact List.Perm.append_right _ List.perm_append_comm
theorem gl_push {w W' : World} {wx' l rows : List (Nat × List Value)} {v' u : Value} {es : List SE} {vals : List Value} {x : SE} {n : Nat} (hn : es.length = n) (hl : vals.length = es.length) (hf : ∀ (j : Nat) (u : Value) (x : SE), vals[j]? = some u → es[j]? = some x → FC rows u x.2) (hF : FC l u x.2)
    (hw : WS wx' 2 v' (n + 1) (ecl es vals ++ [.int .i64 x.1, u])) (K : KR w (wx' ++ (l ++ rows)) W') : GL w W' wx' (l ++ rows) v' (es ++ [x]) (vals ++ [u]) := by
  refine ⟨?_, K, by rw [List.length_append, List.length_append, hl]; rfl, ent_push hl hf hF⟩
  rw [List.length_append, hn, ecl_app _ _ _ _ hl]
  exact hw
set_option maxRecDepth 100000 in
set_option maxHeartbeats 4000000 in
theorem given_k {w : World} (es : List SE) (n : Nat) (hn : Hid (es.length = n)) (h2 : n ≤ 100000) (hz : Hid (∀ x ∈ es, x.2.length ≤ 140737488351232)) (sp : Option Addr) (c : Nat) (hE : Hid (ELV w sp es)) :
    Calls Try.prog 57 #[.slice sp n c] w fun e W' => ∃ s c' l, e = .returned (.slice s n c') ∧ KR w l W' ∧ EL l (.slice s n c') es := by
  have h2i : (n : Int) ≤ 100000 := by omega
  have HN2 : Hid (n ≤ 100000) := h2
  clear h2
  go_enter Try.func57, Try.ntmps57
  go_wp2
  go_loopw [3, 4] (fun v3 v4 W => ∃ (i : Nat) (wx rows : List (Nat × List Value)) (vals : List Value), v4 = .int .i64 (i : Int) ∧ i ≤ n ∧ GL w W wx rows v3 (es.take i) vals) (fun v3 v4 _ => n - (intOf v4).toNat)
  case atStart => exact ⟨0, [], [], [], rfl, Nat.zero_le _, by rw [List.take_zero]; exact gl_nil _⟩
  case round =>
    obtain ⟨i, wx, rows, vals, rfl, hi, HG⟩ := hrel
    have hti : (es.take i).length = i := by rw [List.length_take, hn.out]; omega
    obtain ⟨s3, c3, rfl, -, -⟩ := ws_form HG.ws
    rw [hti] at HG ⊢
    by_cases hlt : i < n
    · have hii : (i : Int) < (n : Int) := by omega
      obtain ⟨A, rfl, hc⟩ := hE.out (by rw [hn.out]; omega)
      have hg : es[i]? = some (es[i]'(by rw [hn.out]; exact hlt)) := List.getElem?_eq_getElem (by rw [hn.out]; exact hlt)
      obtain ⟨sj, cj, a0, a1, a2, a3⟩ := hc i _ hg
      have hxl := hz.out _ (List.mem_of_getElem? hg)
      have HTK : Hid (es.take (i + 1) = es.take i ++ [es[i]'(by rw [hn.out]; exact hlt)]) := by show _ = _; rw [List.take_add_one, hg]; rfl
      generalize es[i]'(by rw [hn.out]; exact hlt) = x at a0 a1 a2 a3 HTK hxl
      obtain ⟨m, hm⟩ : ∃ m, x.2.length = m := ⟨_, rfl⟩
      rw [hm] at a1 hxl
      have HA : Hid (w.cell? (A.add (i * 2)) = some (.int .i64 x.1) ∧ w.cell? ⟨(A.add (i * 2)).block, (A.add (i * 2)).off + 1, none⟩ = some (.slice sj m cj) ∧ SrcV w sj (bc x.2)) := ⟨a0, a1, a3⟩
      have a0 := kr_old HG.kr a0
      have a1 := kr_old HG.kr a1
      have HG0 : Hid (GL w wr wx rows (.slice s3 i c3) (es.take i) vals) := HG
      have HLT : Hid (i < n ∧ m ≤ 140737488351232 ∧ x.2.length = m ∧ (es.take i).length = i) := ⟨hlt, hxl, hm, hti⟩
      clear hc hg a2 a3 hxl hm hlt hti HG hi
      go_wp2_with fail
      go_region_held3 (fun V => V.cell? (A.add (i * 2)) = some (.int .i64 x.1) ∧ V.cell? ⟨(A.add (i * 2)).block, (A.add (i * 2)).off + 1, none⟩ = some (.slice sj m cj)) (first | (with_reducible exact hS3) | (with_reducible exact hS4) | go_keep) ((first | (refine step_appendK _ _ 41 5 (.int .u8 0) 1 1 (kr_drew HG0.out.kr) (own_nilF _ _ _ _ _) sj m cj (bc x.2) (srcV_keep HA.out.2.2 (kr_drew HG0.out.kr).below) (by rw [bc_len, HLT.out.2.2.1, Nat.mul_one]) (bc_one _) (by have := HLT.out.2.1; unfold maxLen; omega) (by have := HLT.out.2.1; omega) Try.underlying41 u8_info rfl (by omega) rfl rfl (by rfl) (by rfl) ?_; intro v' W' O2 K3 hz3; obtain ⟨s4, c4, l4, rfl, K4, F4⟩ := gl_bytes HLT.out.2.2.1 O2 K3; have hS3 : W'.cell? (A.add (i * 2)) = some (.int .i64 x.1) ∧ W'.cell? ⟨(A.add (i * 2)).block, (A.add (i * 2)).off + 1, none⟩ = some (.slice sj m cj) := ⟨kr_old K4 HA.out.1, kr_old K4 HA.out.2.1⟩; have H4 : Hid (KR w (wx ++ (l4 ++ rows)) W' ∧ FC l4 (.slice s4 m c4) x.2) := ⟨K4, F4⟩; clear O2 K3 K4 F4 hz3) | (refine step_appendR _ _ 30 82 (.agg #[.int .i64 0, .slice none 0 0]) 2 32 (kr_alloc H4.out.1 _) (by have h := HG0.out.ws; rw [HLT.out.2.2.2] at h; exact h) _ 1 1 [.int .i64 x.1, .slice s4 m c4] (by omega) (srcV_build _ _) rfl (by intro v hv; rcases List.mem_cons.1 hv with rfl | hv; rfl; rw [List.mem_singleton.1 hv]; rfl) (by have := HN2.out; have := HLT.out.1; unfold maxLen; omega) (by have := HN2.out; have := HLT.out.1; omega) Try.underlying30 pent_info rfl (by omega) rfl rfl (by rfl) (by rfl) ?_; intro v5 W5 wx5 hw5 K5 hz5; obtain ⟨s5, c5, rfl, -, -⟩ := ws_form hw5; have hS4 : W5.cell? (A.add (i * 2)) = some (.int .i64 x.1) ∧ W5.cell? ⟨(A.add (i * 2)).block, (A.add (i * 2)).off + 1, none⟩ = some (.slice sj m cj) := ⟨kr_old K5 HA.out.1, kr_old K5 HA.out.2.1⟩; have HP : Hid _ := hidI (gl_push HLT.out.2.2.2 HG0.out.len HG0.out.fc H4.out.2 hw5 K5); clear hw5 K5 hz5)))
      all_goals
        go_wp2_with fail
        go_round
        case rel => exact ⟨i + 1, _, _, _, by go_num, HLT.out.1, by rw [HTK.out]; exact HP.out⟩
        case measure => have := HLT.out.1; (simp [intOf]; try omega)
    · obtain rfl : i = n := by omega
      have HG0 : Hid (GL w wr wx rows (.slice s3 i c3) (es.take i) vals) := HG
      clear HG hi hti
      go_wp2_with fail
      go_ret
      have h := HG0.out
      rw [List.take_of_length_le (by rw [hn.out]; exact Nat.le_refl _)] at h
      obtain ⟨l, h1, h3⟩ := gl_end h
      exact ⟨_, _, l, rfl, h1, h3⟩
end Go.Proofs.Ytofpkmfjigjlhaa.Own
