/- The reference's Done: the same plain function as the program's. No conditions beside those in each theorem. -/
import Derived.Test.YtfefbmglimdgjaaStep17
import Derived.Test.YtfefbmglimdgjaaRef17
namespace Go.Proofs.Ytfefbmglimdgjaa.Own
open Go.RowKit
set_option linter.unusedSimpArgs false
theorem fl_2 {W : World} {p : Addr} {v : Value} (h : W.cell? p = some v) : (Instr.loadAt 2 (.pointer (some p))).run Try.prog W = .ok v W := by go_simp
theorem fl_3 {W : World} {p : Addr} {v : Value} (h : W.cell? p = some v) : (Instr.loadAt 3 (.pointer (some p))).run Try.prog W = .ok v W := by go_simp
theorem fs_2 {W : World} {p : Addr} {u : Value} {n : Int} (h : W.cell? p = some u) (hf : W.frozen? p = false) : (Instr.storeAt 2 (.pointer (some p)) (.int .i64 n)).run Try.prog W = .ok () (W.setCell p (.int .i64 n)) := by go_simp
theorem fs_3 {W : World} {p : Addr} {u : Value} {n : Int} (h : W.cell? p = some u) (hf : W.frozen? p = false) : (Instr.storeAt 3 (.pointer (some p)) (.int .i64 n)).run Try.prog W = .ok () (W.setCell p (.int .i64 n)) := by go_simp
variable {P : Program}
theorem wl_fload {ops : Array Oper} {rest : List Oper} {op : Oper} {a : Act} {w : World} {Q : Exit → Act → World → Prop} (t : TypeId) (x : Operand) (ho : op.op = .load t x) (hw : Region.wanted op (yielded ops a.tmps) = true) (p : Addr) (hx : a.eval x = .pointer (some p)) (v : Value)
    (hr : (Instr.loadAt t (.pointer (some p))).run P w = .ok v w) (h : wpList P ops Q rest (a.put op.dst v) w) : wpList P ops Q (op :: rest) a w :=
  BigFrame.wpList_want hw fun _ hK => by
    unfold Oper.wp execOp
    simp only [ho, hx, Sem.run_bind, Sem.run_pure, Result.andThen_ok, hr]
    exact hK _ _ h
theorem wl_fstore {ops : Array Oper} {rest : List Oper} {op : Oper} {a : Act} {w : World} {Q : Exit → Act → World → Prop} (t : TypeId) (x y : Operand) (ho : op.op = .store t x y) (hgd : op.guard = none) (p : Addr) (hx : a.eval x = .pointer (some p)) (v : Value) (hy : a.eval y = v)
    (hr : (Instr.storeAt t (.pointer (some p)) v).run P w = .ok () (w.setCell p v)) (h : wpList P ops Q rest (a.put op.dst undef) (w.setCell p v)) : wpList P ops Q (op :: rest) a w :=
  wpList_plain hgd fun _ hK => by
    unfold Oper.wp execOp
    simp only [ho, hx, hy, Sem.run_bind, Sem.run_pure, Result.andThen_ok, hr]
    exact hK _ _ h
theorem kr_fset {w W : World} {rs : List (Nat × List Value)} {b : Nat} {cs : List Value} (h : KR w rs W) (i : Nat) (hi : rs[i]? = some (b, cs)) (j : Nat) (hj : j < cs.length) (v : Value) (ds : List Value) (hd : cs.set j v = ds) : KR w (rs.set i (b, ds)) (W.setCell ⟨b, j, none⟩ v) := by
  subst hd
  have hb := h.rows (b, cs) (List.mem_of_getElem? hi)
  have hlt : i < rs.length := (List.getElem?_eq_some_iff.1 hi).1
  have hset : (W.setCell ⟨b, j, none⟩ v) = W.setCells b j [v] := by rw [World.setCells, World.setCells]
  refine ⟨h.below.setCell hb.1 v, fun p hp => ?_, ?_⟩
  · rw [World.size_setCell]
    obtain ⟨k, hk, hpk⟩ := List.mem_iff_getElem.1 hp
    rw [List.getElem_set] at hpk
    rw [List.length_set] at hk
    by_cases e : i = k
    · rw [if_pos e] at hpk
      subst hpk
      refine ⟨hb.1, hb.2.1, fun m u hm => ?_, ?_⟩
      · rw [List.getElem?_set] at hm
        by_cases em : j = m
        · subst em
          rw [if_pos rfl, if_pos hj] at hm
          injection hm with hm
          subst hm
          rw [Nat.zero_add]
          have := (hb.2.2.2 j hj).1
          rw [Nat.zero_add] at this
          obtain ⟨u0, hu0⟩ := Option.isSome_iff_exists.1 this
          rw [World.cell?_setCell_same _ _ _ hu0]
        · rw [if_neg em] at hm
          rw [World.cell?_setCell_other (h := by intro e2; injection e2 with _ e3 _; omega)]
          exact hb.2.2.1 m u hm
      · rw [List.length_set, hset]
        exact World.there_setCells hb.2.2.2 _ _ _
    · rw [if_neg e] at hpk
      have hm : p ∈ rs := by rw [← hpk]; exact List.getElem_mem _
      obtain ⟨h0, h1, h2, h3⟩ := h.rows p hm
      have hp2 := List.pairwise_iff_getElem.1 h.apart
      have hib : rs[i]'hlt = (b, cs) := (List.getElem?_eq_some_iff.1 hi).2
      have hne : p.1 ≠ b := by
        rcases Nat.lt_or_gt_of_ne e with hlt' | hgt
        · have := hp2 i k hlt hk hlt'
          rw [hib, hpk] at this
          exact fun e => this e.symm
        · have := hp2 k i hk hlt hgt
          rw [hib, hpk] at this
          exact this
      rw [hset]
      exact ⟨h0, h1, World.rangeAt_setCells_apart h2 _ _ _ (.inl hne), World.there_setCells h3 _ _ _⟩
  · have : (rs.set i (b, cs.set j v)).map Prod.fst = rs.map Prod.fst := by
      apply List.ext_getElem?
      intro k
      simp only [List.getElem?_map, List.getElem?_set]
      by_cases e : i = k
      · subst e
        simp [hlt, (List.getElem?_eq_some_iff.1 hi).2]
      · simp [e]
    have h1 := (List.pairwise_map (f := Prod.fst) (R := fun (x y : Nat) => x ≠ y) (l := rs)).2 h.apart
    rw [← this] at h1
    exact (List.pairwise_map (f := Prod.fst) (R := fun (x y : Nat) => x ≠ y)).1 h1
theorem wl_fstoreK {ops : Array Oper} {rest : List Oper} {op : Oper} {a : Act} {w0 w : World} {rs : List (Nat × List Value)} {Q : Exit → Act → World → Prop} (t : TypeId) (x y : Operand) (HK : KR w0 rs w) (i : Nat) {b : Nat} {s s' : St} (hi : rs[i]? = some (b, s.l)) (j : Nat) (hj : j < 10) (n : Int) (hs : s.l.set j (.int .i64 n) = s'.l) (u : Value) (hu : s.l[j]? = some u)
    (ho : op.op = .store t x y) (hgd : op.guard = none) (hx : a.eval x = .pointer (some ⟨b, j, none⟩)) (hy : a.eval y = .int .i64 n)
    (hr : ∀ (W : World) (p : Addr) (u : Value) (n : Int), W.cell? p = some u → W.frozen? p = false → (Instr.storeAt t (.pointer (some p)) (.int .i64 n)).run P W = .ok () (W.setCell p (.int .i64 n)))
    (h : KR w0 (rs.set i (b, s'.l)) (w.setCell ⟨b, j, none⟩ (.int .i64 n)) → wpList P ops Q rest (a.put op.dst undef) (w.setCell ⟨b, j, none⟩ (.int .i64 n))) : wpList P ops Q (op :: rest) a w :=
  wl_fstore t x y ho hgd _ hx _ hy (hr w _ u n (kr_cell HK i hi j u hu) (by
    have := ((HK.rows (b, s.l) (List.mem_of_getElem? hi)).2.2.2 j (by rw [st_len]; exact hj)).2
    rwa [Nat.zero_add] at this)) (h (kr_fset HK i hi j (by rw [st_len]; exact hj) _ _ hs))
theorem set_3 (s : St) (n : Int) : s.l.set 3 (.int .i64 n) = ({ s with state := n } : St).l := by unfold St.l; rfl
theorem set_7 (s : St) (n : Int) : s.l.set 7 (.int .i64 n) = ({ s with tries := n } : St).l := by unfold St.l; rfl
theorem set_8 (s : St) (n : Int) : s.l.set 8 (.int .i64 n) = ({ s with run := n } : St).l := by unfold St.l; rfl
theorem set_9 (s : St) (n : Int) : s.l.set 9 (.int .i64 n) = ({ s with at_ := n } : St).l := by unfold St.l; rfl
theorem g3 (s : St) : s.l[3]? = some (.int .i64 s.state) := by unfold St.l; rfl
theorem g6 (s : St) : s.l[6]? = some (.int .i64 s.runs) := by unfold St.l; rfl
theorem g7 (s : St) : s.l[7]? = some (.int .i64 s.tries) := by unfold St.l; rfl
theorem g8 (s : St) : s.l[8]? = some (.int .i64 s.run) := by unfold St.l; rfl
theorem g9 (s : St) : s.l[9]? = some (.int .i64 s.at_) := by unfold St.l; rfl
theorem kr_frozen {w W : World} {rs : List (Nat × List Value)} {b : Nat} {cs : List Value} (h : KR w rs W) (i : Nat) (hi : rs[i]? = some (b, cs)) (j : Nat) (hj : j < cs.length) : W.frozen? ⟨b, j, none⟩ = false := by
  have := ((h.rows (b, cs) (List.mem_of_getElem? hi)).2.2.2 j hj).2
  rwa [Nat.zero_add] at this
set_option maxHeartbeats 8000000 in
set_option maxRecDepth 20000 in
theorem rdone_r (s : St) (ds : List Value) (every dr retry code c : Int) (hd1 : ds[21]? = some (.int .i64 every)) (hd2 : ds[22]? = some (.int .i64 dr)) (hd3 : ds[23]? = some (.int .i64 retry)) (w : World) :
    Calls Try.prog 14 #[.agg s.l.toArray, .agg ds.toArray, .int .i64 code, .int .i64 c] w fun e w' => e = .returned (.tuple #[.agg (jDoneS s code every dr retry c).l.toArray, .int .i64 (jDoneE s c)]) ∧ Below w.heap.size w w' := by
  have HK : KR w [] w := kr_refl w
  have L10 : ∀ s : St, s.l.length = 10 := st_len
  by_cases hr : rightB s = true
  · obtain ⟨⟨hp1, hp2⟩, ⟨hp3, hp4⟩, _⟩ := right_parts hr
    have cR : ∀ w : World, Calls Try.prog 17 #[.agg s.l.toArray] w fun e w' => e = .returned (.bool true) ∧ Below w.heap.size w w' := fun w => by have := rright_r s w; rwa [hr] at this
    by_cases hk : 0 ≤ c ∧ c ≤ 5258966399
    · have cC : ∀ w : World, Calls Try.prog 47 #[.int .i64 c] w fun e w' => e = .returned (.bool true) ∧ w = w' := fun w => by have := rclocked_any c w; rwa [decide_eq_true hk] at this
      have cL : ∀ w : World, Calls Try.prog 48 #[.int .i64 c, .int .i64 every] w fun e w' => e = .returned (.int .i64 (laterZ c every)) ∧ w = w' := fun w => rlater_any c every w hk.1 hk.2
      go_enter Try.func14, Try.ntmps14
      go_wp2_with (first | (go_at_call 17; (with_reducible refine (cR _).mono ?_); rintro e w' ⟨rfl, hq⟩; replace HK := kr_call HK hq; clear hq) | (go_at_call 47; (with_reducible refine (cC _).mono ?_); rintro e w' ⟨rfl, rfl⟩) | (go_at_call 48; (with_reducible refine (cL _).mono ?_); rintro e w' ⟨rfl, rfl⟩) | ((with_reducible show wpList _ _ _ (Oper.mk _ (Op.box 23 _) _ _ _ _ :: _) _ _); refine wl_boxK 23 _ (St.l _) HK rfl rfl rfl (fun HK2 => ?_); clear HK; have HK := HK2; clear HK2; (try simp only [World.size_alloc] at HK)) | ((with_reducible show wpList _ _ _ (Oper.mk _ (Op.box 34 _) _ _ _ _ :: _) _ _); refine wl_boxK 34 _ ds HK rfl rfl rfl (fun HK2 => ?_); clear HK; have HK := HK2; clear HK2; (try simp only [World.size_alloc] at HK)) | ((with_reducible show wpList _ _ _ (Oper.mk _ (Op.alloc 23) _ _ _ _ :: _) _ _); refine wl_alloc 23 stZ 10 rfl rfl stZ_zeroR ?_; replace HK := kr_newZ HK 23; (try simp only [World.size_alloc] at HK)) | ((with_reducible show wpList _ _ _ (Oper.mk _ (Op.build 23 _) _ _ _ _ :: _) _ _); refine wl_build 23 #[] St.zero.l rfl rfl (by unfold St.l; kernel_rfl) ?_) | ((with_reducible show wpList _ _ _ (Oper.mk _ (Op.load 23 _) _ _ _ _ :: _) _ _); refine wl_load 23 _ rfl rfl _ 0 rfl (St.l _) _ (by first | exact kr_get HK 0 rfl | exact kr_get HK 1 rfl | exact kr_get HK 2 rfl | exact kr_get HK 3 rfl | exact kr_get HK 4 rfl | exact kr_get HK 5 rfl) row_underR rfl (st_sizeR _) ?_) | ((with_reducible show wpList _ _ _ (Oper.mk _ (Op.store 23 _ _) _ _ _ _ :: _) _ _); refine wl_setK 23 _ _ _ _ _ HK 0 rfl rfl rfl rfl rfl (st_sizeR _) (fun HK2 => ?_); clear HK; have HK := HK2; clear HK2; (try simp only [World.size_alloc] at HK); simp only [List.set_cons_zero, List.set_cons_succ] at HK) | ((with_reducible show wpList _ _ _ (Oper.mk _ (Op.load 3 _) _ _ _ _ :: _) _ _); refine wl_fload 3 _ rfl rfl ⟨_, 3, none⟩ rfl _ (fl_3 (kr_cell HK 2 rfl 3 _ (g3 _))) ?_) | ((with_reducible show wpList _ _ _ (Oper.mk _ (Op.load 2 _) _ _ _ _ :: _) _ _); refine wl_fload 2 _ rfl rfl ⟨_, 6, none⟩ rfl _ (fl_2 (kr_cell HK 2 rfl 6 _ (g6 _))) ?_) | ((with_reducible show wpList _ _ _ (Oper.mk _ (Op.load 2 _) _ _ _ _ :: _) _ _); refine wl_fload 2 _ rfl rfl ⟨_, 7, none⟩ rfl _ (fl_2 (kr_cell HK 2 rfl 7 _ (g7 _))) ?_) | ((with_reducible show wpList _ _ _ (Oper.mk _ (Op.load 2 _) _ _ _ _ :: _) _ _); refine wl_fload 2 _ rfl rfl ⟨_, 21, none⟩ rfl _ (fl_2 (kr_cell HK 1 rfl 21 _ hd1)) ?_) | ((with_reducible show wpList _ _ _ (Oper.mk _ (Op.load 2 _) _ _ _ _ :: _) _ _); refine wl_fload 2 _ rfl rfl ⟨_, 22, none⟩ rfl _ (fl_2 (kr_cell HK 1 rfl 22 _ hd2)) ?_) | ((with_reducible show wpList _ _ _ (Oper.mk _ (Op.load 2 _) _ _ _ _ :: _) _ _); refine wl_fload 2 _ rfl rfl ⟨_, 23, none⟩ rfl _ (fl_2 (kr_cell HK 1 rfl 23 _ hd3)) ?_) | ((with_reducible show wpList _ _ _ (Oper.mk _ (Op.store 3 _ _) _ _ _ _ :: _) _ _); refine wl_fstoreK 3 _ _ HK 2 rfl 3 (by omega) _ (set_3 _ _) _ (g3 _) rfl rfl rfl rfl (fun _ _ _ _ h hf => fs_3 h hf) (fun HK2 => ?_); clear HK; have HK := HK2; clear HK2; (try simp only [World.size_alloc] at HK); simp only [List.set_cons_zero, List.set_cons_succ] at HK) | ((with_reducible show wpList _ _ _ (Oper.mk _ (Op.store 2 _ _) _ _ _ _ :: _) _ _); refine wl_fstoreK 2 _ _ HK 2 rfl 7 (by omega) _ (set_7 _ _) _ (g7 _) rfl rfl rfl rfl (fun _ _ _ _ h hf => fs_2 h hf) (fun HK2 => ?_); clear HK; have HK := HK2; clear HK2; (try simp only [World.size_alloc] at HK); simp only [List.set_cons_zero, List.set_cons_succ] at HK) | ((with_reducible show wpList _ _ _ (Oper.mk _ (Op.store 2 _ _) _ _ _ _ :: _) _ _); refine wl_fstoreK 2 _ _ HK 2 rfl 8 (by omega) _ (set_8 _ _) _ (g8 _) rfl rfl rfl rfl (fun _ _ _ _ h hf => fs_2 h hf) (fun HK2 => ?_); clear HK; have HK := HK2; clear HK2; (try simp only [World.size_alloc] at HK); simp only [List.set_cons_zero, List.set_cons_succ] at HK) | ((with_reducible show wpList _ _ _ (Oper.mk _ (Op.store 2 _ _) _ _ _ _ :: _) _ _); refine wl_fstoreK 2 _ _ HK 2 rfl 9 (by omega) _ (set_9 _ _) _ (g9 _) rfl rfl rfl rfl (fun _ _ _ _ h hf => fs_2 h hf) (fun HK2 => ?_); clear HK; have HK := HK2; clear HK2; (try simp only [World.size_alloc] at HK); simp only [List.set_cons_zero, List.set_cons_succ] at HK))
      all_goals (
        refine bodyPost_ret (res_row2 (p := 8) (q := 9) rfl _ _ _ _ _ rfl (kr_get HK 0 rfl) row_underR rfl (st_sizeR _)) rfl ⟨?_, HK.below⟩
        have HE : ∀ (x y : St) (i j : Int), x = y → i = j → Ending.returned (.tuple #[.agg x.l.toArray, .int .i64 i]) = Ending.returned (.tuple #[.agg y.l.toArray, .int .i64 j]) := by intro x y i j h1 h2; rw [h1, h2]
        refine HE _ _ _ _ ?_ ?_
        all_goals (clear HE HK; simp_all [jDoneS, jDoneE, toS, mayE, timedE, doneN, St.zero] <;> omega)
      )
    · have cC : ∀ w : World, Calls Try.prog 47 #[.int .i64 c] w fun e w' => e = .returned (.bool false) ∧ w = w' := fun w => by have := rclocked_any c w; rwa [decide_eq_false hk] at this
      go_enter Try.func14, Try.ntmps14
      go_wp2_with (first | (go_at_call 17; (with_reducible refine (cR _).mono ?_); rintro e w' ⟨rfl, hq⟩; replace HK := kr_call HK hq; clear hq) | (go_at_call 47; (with_reducible refine (cC _).mono ?_); rintro e w' ⟨rfl, rfl⟩) | ((with_reducible show wpList _ _ _ (Oper.mk _ (Op.box 23 _) _ _ _ _ :: _) _ _); refine wl_boxK 23 _ (St.l _) HK rfl rfl rfl (fun HK2 => ?_); clear HK; have HK := HK2; clear HK2; (try simp only [World.size_alloc] at HK)) | ((with_reducible show wpList _ _ _ (Oper.mk _ (Op.box 34 _) _ _ _ _ :: _) _ _); refine wl_boxK 34 _ ds HK rfl rfl rfl (fun HK2 => ?_); clear HK; have HK := HK2; clear HK2; (try simp only [World.size_alloc] at HK)) | ((with_reducible show wpList _ _ _ (Oper.mk _ (Op.alloc 23) _ _ _ _ :: _) _ _); refine wl_alloc 23 stZ 10 rfl rfl stZ_zeroR ?_; replace HK := kr_newZ HK 23; (try simp only [World.size_alloc] at HK)) | ((with_reducible show wpList _ _ _ (Oper.mk _ (Op.build 23 _) _ _ _ _ :: _) _ _); refine wl_build 23 #[] St.zero.l rfl rfl (by unfold St.l; kernel_rfl) ?_) | ((with_reducible show wpList _ _ _ (Oper.mk _ (Op.load 23 _) _ _ _ _ :: _) _ _); refine wl_load 23 _ rfl rfl _ 0 rfl (St.l _) _ (by first | exact kr_get HK 0 rfl | exact kr_get HK 1 rfl | exact kr_get HK 2 rfl | exact kr_get HK 3 rfl | exact kr_get HK 4 rfl | exact kr_get HK 5 rfl) row_underR rfl (st_sizeR _) ?_) | ((with_reducible show wpList _ _ _ (Oper.mk _ (Op.store 23 _ _) _ _ _ _ :: _) _ _); refine wl_setK 23 _ _ _ _ _ HK 0 rfl rfl rfl rfl rfl (st_sizeR _) (fun HK2 => ?_); clear HK; have HK := HK2; clear HK2; (try simp only [World.size_alloc] at HK); simp only [List.set_cons_zero, List.set_cons_succ] at HK) | ((with_reducible show wpList _ _ _ (Oper.mk _ (Op.load 3 _) _ _ _ _ :: _) _ _); refine wl_fload 3 _ rfl rfl ⟨_, 3, none⟩ rfl _ (fl_3 (kr_cell HK 2 rfl 3 _ (g3 _))) ?_) | ((with_reducible show wpList _ _ _ (Oper.mk _ (Op.load 2 _) _ _ _ _ :: _) _ _); refine wl_fload 2 _ rfl rfl ⟨_, 6, none⟩ rfl _ (fl_2 (kr_cell HK 2 rfl 6 _ (g6 _))) ?_) | ((with_reducible show wpList _ _ _ (Oper.mk _ (Op.load 2 _) _ _ _ _ :: _) _ _); refine wl_fload 2 _ rfl rfl ⟨_, 7, none⟩ rfl _ (fl_2 (kr_cell HK 2 rfl 7 _ (g7 _))) ?_) | ((with_reducible show wpList _ _ _ (Oper.mk _ (Op.load 2 _) _ _ _ _ :: _) _ _); refine wl_fload 2 _ rfl rfl ⟨_, 21, none⟩ rfl _ (fl_2 (kr_cell HK 1 rfl 21 _ hd1)) ?_) | ((with_reducible show wpList _ _ _ (Oper.mk _ (Op.load 2 _) _ _ _ _ :: _) _ _); refine wl_fload 2 _ rfl rfl ⟨_, 22, none⟩ rfl _ (fl_2 (kr_cell HK 1 rfl 22 _ hd2)) ?_) | ((with_reducible show wpList _ _ _ (Oper.mk _ (Op.load 2 _) _ _ _ _ :: _) _ _); refine wl_fload 2 _ rfl rfl ⟨_, 23, none⟩ rfl _ (fl_2 (kr_cell HK 1 rfl 23 _ hd3)) ?_) | ((with_reducible show wpList _ _ _ (Oper.mk _ (Op.store 3 _ _) _ _ _ _ :: _) _ _); refine wl_fstoreK 3 _ _ HK 2 rfl 3 (by omega) _ (set_3 _ _) _ (g3 _) rfl rfl rfl rfl (fun _ _ _ _ h hf => fs_3 h hf) (fun HK2 => ?_); clear HK; have HK := HK2; clear HK2; (try simp only [World.size_alloc] at HK); simp only [List.set_cons_zero, List.set_cons_succ] at HK) | ((with_reducible show wpList _ _ _ (Oper.mk _ (Op.store 2 _ _) _ _ _ _ :: _) _ _); refine wl_fstoreK 2 _ _ HK 2 rfl 7 (by omega) _ (set_7 _ _) _ (g7 _) rfl rfl rfl rfl (fun _ _ _ _ h hf => fs_2 h hf) (fun HK2 => ?_); clear HK; have HK := HK2; clear HK2; (try simp only [World.size_alloc] at HK); simp only [List.set_cons_zero, List.set_cons_succ] at HK) | ((with_reducible show wpList _ _ _ (Oper.mk _ (Op.store 2 _ _) _ _ _ _ :: _) _ _); refine wl_fstoreK 2 _ _ HK 2 rfl 8 (by omega) _ (set_8 _ _) _ (g8 _) rfl rfl rfl rfl (fun _ _ _ _ h hf => fs_2 h hf) (fun HK2 => ?_); clear HK; have HK := HK2; clear HK2; (try simp only [World.size_alloc] at HK); simp only [List.set_cons_zero, List.set_cons_succ] at HK) | ((with_reducible show wpList _ _ _ (Oper.mk _ (Op.store 2 _ _) _ _ _ _ :: _) _ _); refine wl_fstoreK 2 _ _ HK 2 rfl 9 (by omega) _ (set_9 _ _) _ (g9 _) rfl rfl rfl rfl (fun _ _ _ _ h hf => fs_2 h hf) (fun HK2 => ?_); clear HK; have HK := HK2; clear HK2; (try simp only [World.size_alloc] at HK); simp only [List.set_cons_zero, List.set_cons_succ] at HK))
      all_goals (
        refine bodyPost_ret (res_row2 (p := 8) (q := 9) rfl _ _ _ _ _ rfl (kr_get HK 0 rfl) row_underR rfl (st_sizeR _)) rfl ⟨?_, HK.below⟩
        have HE : ∀ (x y : St) (i j : Int), x = y → i = j → Ending.returned (.tuple #[.agg x.l.toArray, .int .i64 i]) = Ending.returned (.tuple #[.agg y.l.toArray, .int .i64 j]) := by intro x y i j h1 h2; rw [h1, h2]
        refine HE _ _ _ _ ?_ ?_
        all_goals (clear HE HK; simp_all [jDoneS, jDoneE, toS, mayE, timedE, doneN, St.zero] <;> omega)
      )
  · have hr' : rightB s = false := by simpa using hr
    have cR : ∀ w : World, Calls Try.prog 17 #[.agg s.l.toArray] w fun e w' => e = .returned (.bool false) ∧ Below w.heap.size w w' := fun w => by have := rright_r s w; rwa [hr'] at this
    go_enter Try.func14, Try.ntmps14
    go_wp2_with (first | (go_at_call 17; (with_reducible refine (cR _).mono ?_); rintro e w' ⟨rfl, hq⟩; replace HK := kr_call HK hq; clear hq) | ((with_reducible show wpList _ _ _ (Oper.mk _ (Op.box 23 _) _ _ _ _ :: _) _ _); refine wl_boxK 23 _ (St.l _) HK rfl rfl rfl (fun HK2 => ?_); clear HK; have HK := HK2; clear HK2; (try simp only [World.size_alloc] at HK)) | ((with_reducible show wpList _ _ _ (Oper.mk _ (Op.box 34 _) _ _ _ _ :: _) _ _); refine wl_boxK 34 _ ds HK rfl rfl rfl (fun HK2 => ?_); clear HK; have HK := HK2; clear HK2; (try simp only [World.size_alloc] at HK)) | ((with_reducible show wpList _ _ _ (Oper.mk _ (Op.alloc 23) _ _ _ _ :: _) _ _); refine wl_alloc 23 stZ 10 rfl rfl stZ_zeroR ?_; replace HK := kr_newZ HK 23; (try simp only [World.size_alloc] at HK)) | ((with_reducible show wpList _ _ _ (Oper.mk _ (Op.build 23 _) _ _ _ _ :: _) _ _); refine wl_build 23 #[] St.zero.l rfl rfl (by unfold St.l; kernel_rfl) ?_) | ((with_reducible show wpList _ _ _ (Oper.mk _ (Op.load 23 _) _ _ _ _ :: _) _ _); refine wl_load 23 _ rfl rfl _ 0 rfl (St.l _) _ (by first | exact kr_get HK 0 rfl | exact kr_get HK 1 rfl | exact kr_get HK 2 rfl | exact kr_get HK 3 rfl | exact kr_get HK 4 rfl | exact kr_get HK 5 rfl) row_underR rfl (st_sizeR _) ?_) | ((with_reducible show wpList _ _ _ (Oper.mk _ (Op.store 23 _ _) _ _ _ _ :: _) _ _); refine wl_setK 23 _ _ _ _ _ HK 0 rfl rfl rfl rfl rfl (st_sizeR _) (fun HK2 => ?_); clear HK; have HK := HK2; clear HK2; (try simp only [World.size_alloc] at HK); simp only [List.set_cons_zero, List.set_cons_succ] at HK) | ((with_reducible show wpList _ _ _ (Oper.mk _ (Op.load 3 _) _ _ _ _ :: _) _ _); refine wl_fload 3 _ rfl rfl ⟨_, 3, none⟩ rfl _ (fl_3 (kr_cell HK 2 rfl 3 _ (g3 _))) ?_) | ((with_reducible show wpList _ _ _ (Oper.mk _ (Op.load 2 _) _ _ _ _ :: _) _ _); refine wl_fload 2 _ rfl rfl ⟨_, 6, none⟩ rfl _ (fl_2 (kr_cell HK 2 rfl 6 _ (g6 _))) ?_) | ((with_reducible show wpList _ _ _ (Oper.mk _ (Op.load 2 _) _ _ _ _ :: _) _ _); refine wl_fload 2 _ rfl rfl ⟨_, 7, none⟩ rfl _ (fl_2 (kr_cell HK 2 rfl 7 _ (g7 _))) ?_) | ((with_reducible show wpList _ _ _ (Oper.mk _ (Op.load 2 _) _ _ _ _ :: _) _ _); refine wl_fload 2 _ rfl rfl ⟨_, 21, none⟩ rfl _ (fl_2 (kr_cell HK 1 rfl 21 _ hd1)) ?_) | ((with_reducible show wpList _ _ _ (Oper.mk _ (Op.load 2 _) _ _ _ _ :: _) _ _); refine wl_fload 2 _ rfl rfl ⟨_, 22, none⟩ rfl _ (fl_2 (kr_cell HK 1 rfl 22 _ hd2)) ?_) | ((with_reducible show wpList _ _ _ (Oper.mk _ (Op.load 2 _) _ _ _ _ :: _) _ _); refine wl_fload 2 _ rfl rfl ⟨_, 23, none⟩ rfl _ (fl_2 (kr_cell HK 1 rfl 23 _ hd3)) ?_) | ((with_reducible show wpList _ _ _ (Oper.mk _ (Op.store 3 _ _) _ _ _ _ :: _) _ _); refine wl_fstoreK 3 _ _ HK 2 rfl 3 (by omega) _ (set_3 _ _) _ (g3 _) rfl rfl rfl rfl (fun _ _ _ _ h hf => fs_3 h hf) (fun HK2 => ?_); clear HK; have HK := HK2; clear HK2; (try simp only [World.size_alloc] at HK); simp only [List.set_cons_zero, List.set_cons_succ] at HK) | ((with_reducible show wpList _ _ _ (Oper.mk _ (Op.store 2 _ _) _ _ _ _ :: _) _ _); refine wl_fstoreK 2 _ _ HK 2 rfl 7 (by omega) _ (set_7 _ _) _ (g7 _) rfl rfl rfl rfl (fun _ _ _ _ h hf => fs_2 h hf) (fun HK2 => ?_); clear HK; have HK := HK2; clear HK2; (try simp only [World.size_alloc] at HK); simp only [List.set_cons_zero, List.set_cons_succ] at HK) | ((with_reducible show wpList _ _ _ (Oper.mk _ (Op.store 2 _ _) _ _ _ _ :: _) _ _); refine wl_fstoreK 2 _ _ HK 2 rfl 8 (by omega) _ (set_8 _ _) _ (g8 _) rfl rfl rfl rfl (fun _ _ _ _ h hf => fs_2 h hf) (fun HK2 => ?_); clear HK; have HK := HK2; clear HK2; (try simp only [World.size_alloc] at HK); simp only [List.set_cons_zero, List.set_cons_succ] at HK) | ((with_reducible show wpList _ _ _ (Oper.mk _ (Op.store 2 _ _) _ _ _ _ :: _) _ _); refine wl_fstoreK 2 _ _ HK 2 rfl 9 (by omega) _ (set_9 _ _) _ (g9 _) rfl rfl rfl rfl (fun _ _ _ _ h hf => fs_2 h hf) (fun HK2 => ?_); clear HK; have HK := HK2; clear HK2; (try simp only [World.size_alloc] at HK); simp only [List.set_cons_zero, List.set_cons_succ] at HK))
    all_goals (
      refine bodyPost_ret (res_row2 (p := 8) (q := 9) rfl _ _ _ _ _ rfl (kr_get HK 0 rfl) row_underR rfl (st_sizeR _)) rfl ⟨?_, HK.below⟩
      have HE : ∀ (x y : St) (i j : Int), x = y → i = j → Ending.returned (.tuple #[.agg x.l.toArray, .int .i64 i]) = Ending.returned (.tuple #[.agg y.l.toArray, .int .i64 j]) := by intro x y i j h1 h2; rw [h1, h2]
      refine HE _ _ _ _ ?_ ?_
      all_goals (clear HE HK; simp_all [jDoneS, jDoneE, toS, mayE, timedE, doneN, St.zero] <;> omega)
    )
end Go.Proofs.Ytfefbmglimdgjaa.Own
