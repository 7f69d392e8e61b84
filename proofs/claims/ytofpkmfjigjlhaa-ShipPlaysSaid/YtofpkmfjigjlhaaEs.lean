/- Lists of entries in memory: read, and made. No conditions beside those in each theorem. -/
import Derived.Test.YtofpkmfjigjlhaaShP
import Derived.Test.YtofpkmfjigjlhaaFc
namespace Go.Proofs.Ytofpkmfjigjlhaa.Own
open Go.RowKit
set_option linter.unusedSimpArgs false
set_option linter.unusedVariables false
/-- Entries as cells, with the values of their bytes. -/
def ecl : List SE → List Value → List Value
  | x :: es, u :: us => .int .i64 x.1 :: u :: ecl es us
  | _, _ => []
theorem ecl_len : ∀ (es : List SE) (us : List Value), us.length = es.length → (ecl es us).length = es.length * 2 := by
  intro es
  induction es with
  | nil => intro us h; cases us <;> simp_all [ecl]
  | cons x es ih =>
    intro us h
    cases us with
    | nil => simp at h
    | cons u us => rw [ecl, List.length_cons, List.length_cons, ih us (by simpa using h), List.length_cons]; omega
theorem ecl_get : ∀ (es : List SE) (us : List Value) (j : Nat) (x : SE) (u : Value), es[j]? = some x → us[j]? = some u → (ecl es us)[j * 2]? = some (.int .i64 x.1) ∧ (ecl es us)[j * 2 + 1]? = some u := by
  intro es
  induction es with
  | nil => intro us j x u h; simp at h
  | cons y es ih =>
    intro us j x u h1 h2
    cases us with
    | nil => simp at h2
    | cons v us =>
      cases j with
      | zero => simp at h1 h2; subst h1; subst h2; exact ⟨rfl, rfl⟩
      | succ j =>
        have := ih us j x u (by simpa using h1) (by simpa using h2)
        rw [ecl, show (j + 1) * 2 = j * 2 + 1 + 1 from by omega]
        simpa using this
theorem ecl_app : ∀ (es fs : List SE) (us vs : List Value), us.length = es.length → ecl (es ++ fs) (us ++ vs) = ecl es us ++ ecl fs vs := by
  intro es
  induction es with
  | nil => intro fs us vs h; cases us <;> simp_all [ecl]
  | cons x es ih =>
    intro fs us vs h
    cases us with
    | nil => simp at h
    | cons u us => simp [ecl, ih fs us vs (by simpa using h)]
theorem ecl_one : ∀ (es : List SE) (us : List Value), (∀ u ∈ us, u.oneCell' = true) → ∀ v ∈ ecl es us, v.oneCell' = true := by
  intro es
  induction es with
  | nil => intro us _ v hv; simp [ecl] at hv
  | cons x es ih =>
    intro us h v hv
    cases us with
    | nil => simp [ecl] at hv
    | cons u us =>
      rw [ecl] at hv
      rcases List.mem_cons.1 hv with rfl | hv
      · rfl
      · rcases List.mem_cons.1 hv with rfl | hv
        · exact h _ List.mem_cons_self
        · exact ih us (fun z hz => h z (List.mem_cons_of_mem _ hz)) v hv
theorem ecl_take (es : List SE) (us : List Value) (h : us.length = es.length) (k : Nat) : (ecl es us).take (k * 2) = ecl (es.take k) (us.take k) := by
  have h1 := ecl_app (es.take k) (es.drop k) (us.take k) (us.drop k) (by simp [h])
  rw [List.take_append_drop, List.take_append_drop] at h1
  rw [h1]
  by_cases hk : k ≤ es.length
  · rw [List.take_append_of_le_length (by rw [ecl_len _ _ (by simp [h]), List.length_take]; omega), List.take_of_length_le (by rw [ecl_len _ _ (by simp [h]), List.length_take]; omega)]
  · rw [List.drop_eq_nil_of_le (by omega), List.drop_eq_nil_of_le (by omega)]
    simp only [ecl, List.append_nil]
    exact List.take_of_length_le (by rw [ecl_len _ _ (by simp [h]), List.length_take]; omega)
/-- A list of entries that is read. -/
def ELV (W : World) (sp : Option Addr) (es : List SE) : Prop := 0 < es.length → ∃ A, sp = some A ∧ ∀ (j : Nat) (x : SE), es[j]? = some x → ∃ sj cj, W.cell? (A.add (j * 2)) = some (.int .i64 x.1) ∧ W.cell? ⟨(A.add (j * 2)).block, (A.add (j * 2)).off + 1, none⟩ = some (.slice sj x.2.length cj) ∧ x.2.length ≤ cj ∧ SrcV W sj (bc x.2)
theorem elv_keep {W W' : World} {sp : Option Addr} {es : List SE} (h : ELV W sp es) (hb : Below W.heap.size W W') : ELV W' sp es := fun h0 => by
  obtain ⟨A, hA, hc⟩ := h h0
  refine ⟨A, hA, fun j x hx => ?_⟩
  obtain ⟨sj, cj, h1, h2, h3, h4⟩ := hc j x hx
  exact ⟨sj, cj, by rw [← h1]; exact hb.cell (World.block_lt_of_cell? W _ h1), by rw [← h2]; exact hb.cell (World.block_lt_of_cell? W _ h2), h3, srcV_keep h4 hb⟩
theorem elv_take {W : World} {sp : Option Addr} {es : List SE} (h : ELV W sp es) (k : Nat) : ELV W sp (es.take k) := fun h0 => by
  obtain ⟨A, hA, hc⟩ := h (by rw [List.length_take] at h0; omega)
  refine ⟨A, hA, fun j r hr => hc j r ?_⟩
  rw [List.getElem?_take] at hr
  split at hr
  · exact hr
  · cases hr
theorem elv_nil {W : World} {sp : Option Addr} : ELV W sp [] := fun h => absurd h (Nat.lt_irrefl _)
/-- A list of entries in rows, from the row's begin on. -/
def EL (rows : List (Nat × List Value)) (v : Value) (es : List SE) : Prop := ∃ vals : List Value, vals.length = es.length ∧ SC rows 2 v es.length (ecl es vals) ∧ ∀ (j : Nat) (u : Value) (x : SE), vals[j]? = some u → es[j]? = some x → FC rows u x.2
theorem el_nil (rows : List (Nat × List Value)) : EL rows (.slice none 0 0) [] := ⟨[], rfl, .inl ⟨rfl, rfl, rfl⟩, fun j u x h => by simp at h⟩
theorem el_mono {rs rs' : List (Nat × List Value)} {v : Value} {es : List SE} (h : EL rs v es) (hs : ∀ p ∈ rs, p ∈ rs') : EL rs' v es := by
  obtain ⟨vals, h1, h2, h3⟩ := h
  exact ⟨vals, h1, sc_mono h2 hs, fun j u r hu hr => fc_monoL (h3 j u r hu hr) hs⟩
theorem el_elv {w W : World} {rows : List (Nat × List Value)} {v : Value} {es : List SE} (HK : KR w rows W) (h : EL rows v es) : ∃ sp cap, v = .slice sp es.length cap ∧ es.length ≤ cap ∧ ELV W sp es ∧ (sp = none ∨ ∃ b, sp = some ⟨b, 0, none⟩) := by
  obtain ⟨vals, hl, hs, hf⟩ := h
  rcases hs with ⟨rfl, h1, h2⟩ | ⟨b, cap, l, rfl, h2, h3, h4, h5⟩
  · exact ⟨none, 0, by rw [h1], by omega, fun h0 => by omega, .inl rfl⟩
  · refine ⟨_, cap, rfl, h3, fun h0 => ⟨_, rfl, fun j x hx => ?_⟩, .inr ⟨b, rfl⟩⟩
    have hj := (List.getElem?_eq_some_iff.1 hx).1
    have hv : vals[j]? = some (vals[j]'(by omega)) := List.getElem?_eq_getElem (by omega)
    have hF := hf j _ x hv hx
    obtain ⟨sj, cj, he, hcj, hS⟩ := fc_srcL HK hF
    obtain ⟨g1, g2⟩ := ecl_get es vals j x _ hx hv
    rw [← h5, List.getElem?_take, if_pos (by omega)] at g1 g2
    refine ⟨sj, cj, ?_, ?_, hcj, hS⟩
    · rw [Addr.add_mid, Nat.zero_add]; exact range_cell (kr_mem HK h2) _ _ g1
    · rw [Addr.add_mid, Nat.zero_add, ← he]; exact range_cell (kr_mem HK h2) _ _ g2
theorem el_form {rows : List (Nat × List Value)} {v : Value} {es : List SE} (h : EL rows v es) : ∃ sp cap, v = .slice sp es.length cap ∧ es.length ≤ cap := by
  obtain ⟨vals, hl, hs, hf⟩ := h
  rcases hs with ⟨rfl, h1, h2⟩ | ⟨b, cap, l, rfl, h2, h3, h4, h5⟩
  · exact ⟨none, 0, by rw [h1], by omega⟩
  · exact ⟨_, cap, rfl, h3⟩
/-- A row that is filled: so many entries, and zeros. -/
def eRow (es : List SE) (us : List Value) (n i : Nat) : List Value := ecl (es.take i) us ++ zRow (n - i)
where zRow : Nat → List Value
  | 0 => []
  | k + 1 => .int .i64 0 :: .slice none 0 0 :: zRow k
theorem zRow_len : ∀ n, (eRow.zRow n).length = n * 2
  | 0 => rfl
  | n + 1 => by rw [eRow.zRow, List.length_cons, List.length_cons, zRow_len n]; omega
theorem eRow_len (es : List SE) (us : List Value) (n i : Nat) (hn : es.length = n) (hi : i ≤ n) (hu : us.length = i) : (eRow es us n i).length = n * 2 := by
  unfold eRow
  rw [List.length_append, ecl_len _ _ (by rw [List.length_take]; omega), zRow_len, List.length_take]
  omega
theorem eRow_set (es : List SE) (us : List Value) (n i : Nat) (hn : es.length = n) (hi : i < n) (hu : us.length = i) (x : SE) (hx : es[i]? = some x) (u : Value) : ((eRow es us n i).set (i * 2) (.int .i64 x.1)).set (i * 2 + 1) u = eRow es (us ++ [u]) n (i + 1) := by
  unfold eRow
  have hl : (ecl (es.take i) us).length = i * 2 := by rw [ecl_len _ _ (by rw [List.length_take]; omega), List.length_take]; omega
  rw [List.set_append_right _ _ (by omega), hl, Nat.sub_self, List.set_append_right _ _ (by omega), hl, show i * 2 + 1 - i * 2 = 1 from by omega, show n - i = (n - (i + 1)) + 1 from by omega, eRow.zRow]
  simp only [List.set_cons_zero, List.set_cons_succ]
  rw [List.take_add_one, hx, show (some x).toList = [x] from rfl, ecl_app _ _ _ _ (by rw [List.length_take]; omega), show ecl [x] [u] = [.int .i64 x.1, u] from rfl, List.append_assoc]
  rfl
theorem ent_info : (Try.prog.info? 82).map (fun i => (i.zero, i.size, i.bytes)) = some (some (.agg #[.int .i64 0, .slice none 0 0]), 2, 32) := by kernel_rfl
theorem zRow_made : ∀ n, (madeCells #[Value.int .i64 0, .slice none 0 0] (n * 2)).toList = eRow.zRow n := by
  intro n
  apply List.ext_getElem
  · rw [zRow_len]; simp [madeCells]
  · intro j h1 h2
    have hz : ∀ (n j : Nat) (h : j < (eRow.zRow n).length), (eRow.zRow n)[j] = if j % 2 = 0 then .int .i64 0 else .slice none 0 0 := by
      intro n
      induction n with
      | zero => intro j h; simp [eRow.zRow] at h
      | succ n ih =>
        intro j h
        match j with
        | 0 => rfl
        | 1 => rfl
        | j + 2 =>
          simp only [eRow.zRow, List.getElem_cons_succ]
          rw [ih j (by simpa [eRow.zRow] using h)]
          rw [Nat.add_mod_right]
    rw [hz n j h2]
    have hm : j % 2 = 0 ∨ j % 2 = 1 := by omega
    rcases hm with hm | hm <;> simp [madeCells, hm]
theorem make_ents (n : Nat) (hn : n ≤ 100000) (W : World) : (Instr.makeSlice 83 (.int .i64 (n : Int)) (.int .i64 (n : Int))).run Try.prog W = .ok (.slice (some ⟨W.heap.size, 0, none⟩) n n) (W.alloc (.cells (eRow.zRow n).toArray 82)) := by
  obtain ⟨i, hi0, hi1⟩ := Option.map_eq_some_iff.1 ent_info
  simp only [Prod.mk.injEq] at hi1
  obtain ⟨hz, hs, hb⟩ := hi1
  have hr := run_make (P := Try.prog) W 83 82 i (.agg #[.int .i64 0, .slice none 0 0]) Try.underlying83 hi0 hz .i64 .i64 (n : Int) (n : Int) (by omega) (by omega) (by rw [hb]; omega) (by omega)
  rw [hs, show ((n : Int)).toNat = n from by omega] at hr
  have e : madeCells (Value.agg #[.int .i64 0, .slice none 0 0]).cells (n * 2) = (eRow.zRow n).toArray := by
    rw [← zRow_made]
    rfl
  rw [e] at hr
  exact hr
end Go.Proofs.Ytofpkmfjigjlhaa.Own
