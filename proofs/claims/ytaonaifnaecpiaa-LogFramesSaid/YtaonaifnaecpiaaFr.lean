/- What dayshift/log's put and Frame, and slices.Clone, do. No conditions beside those in each theorem. -/
import Derived.Test.YtaonaifnaecpiaaSum
import Derived.Test.YtaonaifnaecpiaaBlk
import Derived.Laws.CopyOwn
import Derived.WalkSpells
import Derived.Deep.RegionHeld3
namespace Go.Proofs.Ytaonaifnaecpiaa.Own
open Go.RowKit Go.Proofs.YtaonaifnaecpiaaW.PrintWords
set_option linter.unusedSimpArgs false
/-- A number's lowest bytes, the highest first. -/
def be : Nat → Nat → List Int
  | 0, _ => []
  | m + 1, v => be m (v / 256) ++ [((v % 256 : Nat) : Int)]
theorem be_len (m v : Nat) : (be m v).length = m := by
  induction m generalizing v with
  | zero => rfl
  | succ m ih => simp [be, ih]
theorem be_cons (m v : Nat) : be (m + 1) v = ((v / 256 ^ m % 256 : Nat) : Int) :: be m v := by
  induction m generalizing v with
  | zero => simp [be]
  | succ m ih =>
    rw [be, ih (v / 256)]
    rw [be, List.cons_append, Nat.div_div_eq_div_mul, show 256 * 256 ^ m = 256 ^ (m + 1) from by rw [Nat.pow_succ, Nat.mul_comm]]
theorem be_isB (m v : Nat) : isB (be m v) := by
  induction m generalizing v with
  | zero => intro b hb; simp [be] at hb
  | succ m ih =>
    intro b hb
    rw [be] at hb
    rcases List.mem_append.1 hb with hb | hb
    · exact ih _ b hb
    · rw [List.mem_singleton.1 hb]; omega
def bcl (xs : List Int) : List Value := xs.map (.int .u8)
theorem bcl_len (xs : List Int) : (bcl xs).length = xs.length := by simp [bcl]
theorem bcl_one (xs : List Int) : ∀ v ∈ bcl xs, v.oneCell' = true := by
  intro v hv
  simp only [bcl, List.mem_map] at hv
  obtain ⟨x, _, rfl⟩ := hv
  rfl
theorem mid_set (pre a b : List Value) (u v : Value) (n : Nat) (hn : n = pre.length + a.length) : (pre ++ (a ++ u :: b)).set n v = pre ++ (a ++ v :: b) := by
  subst hn
  rw [List.set_append_right _ _ (by omega), List.set_append_right _ _ (by omega)]
  rw [show pre.length + a.length - pre.length - a.length = 0 from by omega]
  rfl
set_option maxHeartbeats 1000000 in
theorem put_k {w W : World} (hB : Below w.heap.size w W) (g : Nat) (hg : w.heap.size ≤ g) (t : TypeId) (pre mid post : List Value) (o m : Nat) (ho : pre.length = o) (hm : mid.length = m) (hm2 : m ≤ 1000) (h : Blk W g (pre ++ (mid ++ post)) t) (v : Nat) (hv : v < 18446744073709551616) (cap : Nat) :
    Calls Try.prog 41 #[.slice (some ⟨g, o, none⟩) m cap, .int .u64 (v : Int)] W fun e W' => e = .returned (.tuple #[]) ∧ Below w.heap.size w W' ∧ Blk W' g (pre ++ (bcl (be m v) ++ post)) t := by
  have HB : Hid (Below w.heap.size w W) := hB
  have HO : Hid (pre.length = o) := ho
  have HM : Hid (mid.length = m) := hm
  have HH : Hid (Blk W g (pre ++ (mid ++ post)) t) := h
  have h3 : (m : Int) ≤ 1000 := by omega
  clear hB ho hm h
  go_enter Try.func41, Try.ntmps41
  go_wp2
  go_loopw [1, 4] (fun v1 v4 W => ∃ k : Nat, k ≤ m ∧ v4 = .int .i64 ((k : Int) - 1) ∧ v1 = .int .u64 ((v / 256 ^ (m - k) : Nat) : Int) ∧ Below w.heap.size w W ∧ Blk W g (pre ++ (mid.take k ++ (bcl (be (m - k) v) ++ post))) t) (fun _ v4 _ => (intOf v4 + 1).toNat)
  case atStart => exact ⟨m, Nat.le_refl _, rfl, by simp, HB.out, by
    have := HH.out
    rw [List.take_of_length_le (by rw [HM.out]; omega), Nat.sub_self]
    exact this⟩
  case round =>
    clear HB HH
    obtain ⟨k, hk, rfl, rfl, HB, HH⟩ := hrel
    cases k with
    | zero =>
      have H1 : Hid (Below w.heap.size w wr) := HB
      have H2 : Hid (Blk wr g (pre ++ (bcl (be m v) ++ post)) t) := by
        have := HH
        simp only [List.take_zero, List.nil_append, Nat.sub_zero] at this
        exact this
      clear HB HH
      go_wp2_with fail
      exact bodyPost_end (results_none rfl _ _ _) rfl ⟨rfl, H1.out, H2.out⟩
    | succ k =>
      have hkm : k < mid.length := by rw [HM.out]; omega
      have e1 : pre ++ (mid.take (k + 1) ++ (bcl (be (m - (k + 1)) v) ++ post)) = pre ++ (mid.take k ++ mid[k] :: (bcl (be (m - (k + 1)) v) ++ post)) := by
        rw [List.take_succ_eq_append_getElem hkm, List.append_assoc, List.singleton_append]
      rw [e1] at HH
      have hlen : o + k = pre.length + (mid.take k).length := by rw [HO.out, List.length_take]; omega
      have hcell : wr.cell? ⟨g, o + k, none⟩ = some mid[k] := by
        rw [blk_cell HH, hlen, List.getElem?_append_right (by omega), List.getElem?_append_right (by omega), show pre.length + (mid.take k).length - pre.length - (mid.take k).length = 0 from by omega]
        rfl
      have hfro := blk_free HH (o + k)
      have hx : v / 256 ^ (m - (k + 1)) < 18446744073709551616 := Nat.lt_of_le_of_lt (Nat.div_le_self _ _) hv
      have hnext : v / 256 ^ (m - (k + 1)) / 256 = v / 256 ^ (m - k) := by
        rw [Nat.div_div_eq_div_mul, ← Nat.pow_succ]
        congr 2; omega
      have hbe : be (m - k) v = ((v / 256 ^ (m - (k + 1)) % 256 : Nat) : Int) :: be (m - (k + 1)) v := by
        rw [show m - k = (m - (k + 1)) + 1 from by omega, be_cons]
      have HS : Hid (Blk (wr.setCell ⟨g, o + k, none⟩ (.int .u8 ((v / 256 ^ (m - (k + 1)) % 256 : Nat) : Int))) g (pre ++ (mid.take k ++ (bcl (be (m - k) v) ++ post))) t) := by
        have := blk_set HH (o + k) (.int .u8 ((v / 256 ^ (m - (k + 1)) % 256 : Nat) : Int))
        rw [mid_set _ _ _ _ _ _ hlen] at this
        rw [hbe]
        exact this
      have HB2 : Hid (Below w.heap.size w (wr.setCell ⟨g, o + k, none⟩ (.int .u8 ((v / 256 ^ (m - (k + 1)) % 256 : Nat) : Int)))) := HB.setCell hg _
      have HN : Hid (v / 256 ^ (m - (k + 1)) / 256 = v / 256 ^ (m - k)) := hnext
      generalize mid[k] = u0 at hcell
      clear HH HB hbe e1 hnext hlen hkm
      generalize v / 256 ^ (m - (k + 1)) = x at hx HS HB2 HN ⊢
      have hk2 : (k : Int) < (m : Int) := by omega
      go_wp2_with fail
      have ex : ((x : Int) % 256) = ((x % 256 : Nat) : Int) := by omega
      have ed : ((x : Int) / 256) = ((x / 256 : Nat) : Int) := by omega
      go_round
      case rel => exact ⟨k, by omega, rfl, by rw [ed, HN.out], by rw [ex]; exact HB2.out, by rw [ex]; exact HS.out⟩
      case measure => (simp [intOf]; try omega)
/-- A frame's bytes. -/
def frameB (q : Nat) (bs : List Int) : List Int := be 4 bs.length ++ (be 4 (crc (nb (be 8 q ++ bs))) ++ (be 8 q ++ bs))
theorem frameB_len (q : Nat) (bs : List Int) : (frameB q bs).length = 16 + bs.length := by
  unfold frameB
  simp only [List.length_append, be_len]
  omega
theorem isB_app {a b : List Int} (ha : isB a) (hb : isB b) : isB (a ++ b) := fun x hx => by
  rcases List.mem_append.1 hx with h | h
  · exact ha x h
  · exact hb x h
def zs (n : Nat) : List Value := List.replicate n (.int .u8 0)
theorem zs_len (n : Nat) : (zs n).length = n := by simp [zs]
theorem make_zs (n : Nat) (hn : n ≤ 140737488351232) (W : World) : (Instr.makeSlice 23 (.int .i64 (16 + (n : Int))) (.int .i64 (16 + (n : Int)))).run Try.prog W = .ok (.slice (some ⟨W.heap.size, 0, none⟩) (16 + n) (16 + n)) (W.alloc (.cells (zs 4 ++ (zs 4 ++ (zs 8 ++ zs n))).toArray 5)) := by
  obtain ⟨i, hi0, hi1⟩ := Option.map_eq_some_iff.1 lu8_info
  simp only [Prod.mk.injEq] at hi1
  obtain ⟨hz, hs, hb⟩ := hi1
  have hr := run_make (P := Try.prog) W 23 5 i (.int .u8 0) Try.underlying23 hi0 hz .i64 .i64 (16 + (n : Int)) (16 + (n : Int)) (by omega) (by omega) (by rw [hb]; omega) (by omega)
  rw [hs, show (16 + (n : Int)).toNat = 16 + n from by omega, Nat.mul_one] at hr
  have e : madeCells (Value.int .u8 0).cells (16 + n) = (zs 4 ++ (zs 4 ++ (zs 8 ++ zs n))).toArray := by
    have h1 : zs 4 ++ (zs 4 ++ (zs 8 ++ zs n)) = List.replicate (16 + n) (.int .u8 0) := by
      unfold zs
      rw [List.replicate_append_replicate, List.replicate_append_replicate, List.replicate_append_replicate]
      rw [show 4 + (4 + (8 + n)) = 16 + n from by omega]
    rw [h1]
    exact Array.ext (by simp [madeCells, Value.cells]) (fun i h1 h2 => by simp [madeCells, Value.cells, Nat.mod_one])
  rw [e] at hr
  exact hr
def log_Frame.f (q : Int) (bs : List Int) : Option (List Int × Int) := if (bs.length : Int) > 60000 then some ([], 3) else if (∀ b ∈ bs, 0 ≤ b ∧ b < 256) ∧ 0 ≤ q ∧ q < 18446744073709551616 then some (frameB q.toNat bs, 0) else none
theorem wrap_u64' (n : Int) : IntKind.u64.wrap n = n % 18446744073709551616 := by simp [IntKind.wrap, IntKind.bits, IntKind.signed]
theorem wrap_small (c : Nat) (h : c < 4294967296) : IntKind.u64.wrap (c : Int) = (c : Int) := by rw [wrap_u64']; omega
theorem lu8_size : (Try.prog.info? 5).map (·.size) = some 1 := by kernel_rfl
theorem cpy (w2 : World) (t : TypeId) {g : Nat} (bs : List Int) (n : Nat) (hn : bs.length = n) (h : Hid (w2.heap[g]? = some (.cells (splice (zs 4 ++ (zs 4 ++ (zs 8 ++ zs n))) 16 (bcl bs)).toArray t (0, 0)))) : Hid (Blk w2 g ([] ++ (zs 4 ++ (zs 4 ++ (zs 8 ++ bcl bs)))) t) := by
  have e : splice (zs 4 ++ (zs 4 ++ (zs 8 ++ zs n))) 16 (bcl bs) = zs 4 ++ (zs 4 ++ (zs 8 ++ bcl bs)) := by
    have e1 : zs 4 ++ (zs 4 ++ (zs 8 ++ zs n)) = zs 16 ++ zs n := by
      unfold zs
      simp only [List.replicate_append_replicate]
      rw [show 4 + (4 + (8 + n)) = 16 + n from by omega]
    have e2 : zs 4 ++ (zs 4 ++ (zs 8 ++ bcl bs)) = zs 16 ++ bcl bs := by
      unfold zs
      rw [← List.append_assoc, ← List.append_assoc, List.replicate_append_replicate, List.replicate_append_replicate]
    rw [e1, e2]
    unfold splice
    rw [List.take_append_of_le_length (by rw [zs_len]; omega), List.take_of_length_le (by rw [zs_len]; omega), List.drop_eq_nil_of_le (by rw [List.length_append, zs_len, zs_len, bcl_len]; omega), List.append_nil]
  have := h.out
  rw [e] at this
  exact this
theorem fr_get (n q : Nat) (bs : List Int) : ∀ j v, ((be 8 q ++ bs).map (Value.int .u8))[j]? = some v → (bcl (be 4 n) ++ (zs 4 ++ (bcl (be 8 q) ++ bcl bs)))[8 + j]? = some v := by
  intro j v h
  rw [List.getElem?_append_right (by rw [bcl_len, be_len]; omega), List.getElem?_append_right (by rw [bcl_len, be_len, zs_len]; omega), bcl_len, be_len, zs_len, show 8 + j - 4 - 4 = j from by omega]
  rw [← h]
  simp [bcl]
theorem fr_fin {W : World} {g : Nat} {t : TypeId} (bs : List Int) (n q : Nat) (hn : bs.length = n) (h : Blk W g (bcl (be 4 n) ++ (bcl (be 4 (crc (nb (be 8 q ++ bs)))) ++ (bcl (be 8 q) ++ bcl bs))) t) : Blk W g (bcl (frameB q bs)) t := by
  subst hn
  unfold frameB
  simp only [bcl, List.map_append] at h ⊢
  exact h
set_option maxRecDepth 100000 in
set_option maxHeartbeats 2000000 in
theorem frame_k {w : World} (q : Nat) (hq : q < 18446744073709551616) (bs : List Int) (n : Nat) (hn : Hid (bs.length = n)) (h2 : n ≤ 60000) (hb : isB bs) (sp : Option Addr) (cp : Nat) (hS : SrcV w sp (bcl bs)) :
    Calls Try.prog 11 #[.int .u64 (q : Int), .slice sp n cp] w fun e W' => ∃ g, e = .returned (.tuple #[.slice (some ⟨g, 0, none⟩) (16 + n) (16 + n), .int .i64 0]) ∧ w.heap.size ≤ g ∧ Below w.heap.size w W' ∧ Blk W' g (bcl (frameB q bs)) 5 := by
  have h3 : (n : Int) ≤ 60000 := by omega
  have hmk := make_zs n (by omega)
  have HB : Hid (isB bs) := hb
  have H1 : Hid (Below w.heap.size w (w.alloc (.cells (zs 4 ++ (zs 4 ++ (zs 8 ++ zs n))).toArray 5))) := bw_alloc (Below.refl _ _) _
  have B1 : Hid (Blk (w.alloc (.cells (zs 4 ++ (zs 4 ++ (zs 8 ++ zs n))).toArray 5)) w.heap.size (zs 4 ++ (zs 4 ++ (zs 8 ++ zs n))) 5) := blk_new w _ _
  have S1 : Hid (SrcV (w.alloc (.cells (zs 4 ++ (zs 4 ++ (zs 8 ++ zs n))).toArray 5)) sp (bcl bs)) := srcV_keep hS (bw_alloc (Below.refl _ _) _)
  have hcr : crc (nb (be 8 q ++ bs)) < 4294967296 := crc_lt _ (nb_lt (isB_app (be_isB 8 q) hb))
  have hcr2 : ((crc (nb (be 8 q ++ bs)) : Nat) : Int) < 4294967296 := by omega
  have HQ : Hid (q < 18446744073709551616) := hq
  have HC : Hid (_ ∧ _) := ⟨hcr, hcr2⟩
  have H2 : Hid (n ≤ 60000) := h2
  clear hS hb hq hcr hcr2 h2
  rcases Nat.eq_zero_or_pos n with h0 | h0
  · subst h0
    have hmk : ∀ W : World, (Instr.makeSlice 23 (.int .i64 16) (.int .i64 16)).run Try.prog W = .ok (.slice (some ⟨W.heap.size, 0, none⟩) 16 16) (W.alloc (.cells (zs 4 ++ (zs 4 ++ (zs 8 ++ zs 0))).toArray 5)) := hmk
    go_enter Try.func11, Try.ntmps11
    go_wp2_with (first | ((with_reducible show wpList _ _ _ (Oper.mk _ (Op.call { callee := Callee.builtin Builtin.copy, args := _, argTypes := _ }) _ _ _ _ :: _) _ _); refine wpList_copy_splice rfl _ _ 23 23 rfl 5 Try.underlying23 lu8_size _ _ _ _ _ _ rfl rfl w.heap.size 16 (zs 4 ++ (zs 4 ++ (zs 8 ++ zs 0))) 5 B1.out (bcl bs) (by rw [bcl_len, hn.out]; simp) (fun h => absurd h (by rw [bcl_len, hn.out]; omega)) (by rw [bcl_len, hn.out]; simp [zs_len]; try omega) (bcl_one bs) w.heap.size w H1.out (Nat.le_refl _) (fun w2 HG2 HB2 => ?_); have B2 := cpy w2 5 bs 0 hn.out HG2; clear B1 H1 HG2) | (go_at_call 41; refine (put_k HB2 w.heap.size (Nat.le_refl _) 5 [] (zs 4) (zs 4 ++ (zs 8 ++ bcl bs)) 0 4 rfl rfl (by omega) B2.out 0 (by omega) _).mono ?_; rintro e w3 ⟨rfl, HB3, B3⟩; clear HB2 B2; have B3 : Hid (Blk w3 w.heap.size ((bcl (be 4 0) ++ zs 4) ++ (zs 8 ++ bcl bs)) 5) := (by rw [List.append_assoc]; exact B3)) | (go_at_call 41; refine (put_k HB3 w.heap.size (Nat.le_refl _) 5 (bcl (be 4 0) ++ zs 4) (zs 8) (bcl bs) 8 8 (by rw [List.length_append, bcl_len, be_len, zs_len]) (zs_len 8) (by omega) B3.out q HQ.out _).mono ?_; rintro e w4 ⟨rfl, HB4, B4⟩; clear HB3 B3; have B4 : Hid (Blk w4 w.heap.size (bcl (be 4 0) ++ (zs 4 ++ (bcl (be 8 q) ++ bcl bs))) 5) := (by rw [← List.append_assoc]; exact B4)))
    have hb4 : Hid (Blk w4.drew w.heap.size (bcl (be 4 0) ++ (zs 4 ++ (bcl (be 8 q) ++ bcl bs))) 5) := blk_drew B4.out
    have hB4 : Hid (Below w.heap.size w w4.drew) := bw_drew HB4
    have hsum := sum_k (kr_refl w4.drew) (be 8 q ++ bs) 8 (by show _ = _; rw [List.length_append, be_len, hn.out]) (isB_app (be_isB 8 q) HB.out) (by have := H2.out; omega) (some ⟨w.heap.size, 8, none⟩) 8 (fun W1 H => srcV_keep (blk_srcV hb4.out 8 _ (fr_get 0 q bs)) H.below)
    have hput := fun w5 (H5 : KR w4.drew [] w5) => put_k (bw_step hB4.out H5.below) w.heap.size (Nat.le_refl _) 5 (bcl (be 4 0)) (zs 4) (bcl (be 8 q) ++ bcl bs) 4 4 (by rw [bcl_len, be_len]) (zs_len 4) (by omega) (blk_below hb4.out H5.below) (crc (nb (be 8 q ++ bs))) (by have := HC.out.1; omega) 12
    clear HB4 B4
    have hcr2 := HC.out.2
    generalize hcc : crc (nb (be 8 q ++ bs)) = c at hsum hput hcr2
    have HCC : Hid (crc (nb (be 8 q ++ bs)) = c) := hcc
    have hwc := wrap_small c (by omega)
    clear hcc
    go_region_held3 (fun _ => True) (trivial) (first | (go_at_call 16; refine hsum.mono ?_; rintro e w5 ⟨rfl, HB5⟩) | (go_at_call 41; refine (hput _ HB5).mono ?_; rintro e w6 ⟨rfl, HB6, B6⟩))
    all_goals go_wp2_with fail
    all_goals go_ret2
    all_goals exact ⟨_, rfl, Nat.le_refl _, HB6, fr_fin bs 0 q hn.out (by rw [HCC.out]; exact B6)⟩
  · have h0i : (0 : Int) < (n : Int) := by omega
    obtain ⟨N, hN⟩ : ∃ N, N = 16 + n := ⟨_, rfl⟩
    have HN : Hid (N = 16 + n) := hN
    have hmk2 : ∀ W : World, (Instr.makeSlice 23 (.int .i64 (16 + (n : Int))) (.int .i64 (16 + (n : Int)))).run Try.prog W = .ok (.slice (some ⟨W.heap.size, 0, none⟩) N N) (W.alloc (.cells (zs 4 ++ (zs 4 ++ (zs 8 ++ zs n))).toArray 5)) := by rw [hN]; exact hmk
    have n4 : (4 : Int) ≤ (N : Int) := by omega
    have n8 : (8 : Int) ≤ (N : Int) := by omega
    have n16 : (16 : Int) ≤ (N : Int) := by omega
    have m4 : 4 ≤ N := by omega
    have m8 : 8 ≤ N := by omega
    have m16 : 16 ≤ N := by omega
    have hNn : N - 16 = n := by omega
    have hN16 : ¬ N = 16 := by omega
    have hN8 : ¬ N = 8 := by omega
    have hN4 : ¬ N = 4 := by omega
    clear hmk hN
    go_enter Try.func11, Try.ntmps11
    go_wp2_with (first | ((with_reducible show wpList _ _ _ (Oper.mk _ (Op.call { callee := Callee.builtin Builtin.copy, args := _, argTypes := _ }) _ _ _ _ :: _) _ _); refine wpList_copy_splice rfl _ _ 23 23 rfl 5 Try.underlying23 lu8_size _ _ _ _ _ _ rfl rfl w.heap.size 16 (zs 4 ++ (zs 4 ++ (zs 8 ++ zs n))) 5 B1.out (bcl bs) (by rw [bcl_len, hn.out]; simp) (fun h => by obtain ⟨A, hA, hc⟩ := S1.out h; exact ⟨rfl, A, hA, hc⟩) (by rw [bcl_len, hn.out]; simp [zs_len]; try omega) (bcl_one bs) w.heap.size w H1.out (Nat.le_refl _) (fun w2 HG2 HB2 => ?_); have B2 := cpy w2 5 bs n hn.out HG2; clear B1 H1 HG2) | (go_at_call 41; refine (put_k HB2 w.heap.size (Nat.le_refl _) 5 [] (zs 4) (zs 4 ++ (zs 8 ++ bcl bs)) 0 4 rfl rfl (by omega) B2.out n (by have := H2.out; omega) _).mono ?_; rintro e w3 ⟨rfl, HB3, B3⟩; clear HB2 B2; have B3 : Hid (Blk w3 w.heap.size ((bcl (be 4 n) ++ zs 4) ++ (zs 8 ++ bcl bs)) 5) := (by rw [List.append_assoc]; exact B3)) | (go_at_call 41; refine (put_k HB3 w.heap.size (Nat.le_refl _) 5 (bcl (be 4 n) ++ zs 4) (zs 8) (bcl bs) 8 8 (by rw [List.length_append, bcl_len, be_len, zs_len]) (zs_len 8) (by omega) B3.out q HQ.out _).mono ?_; rintro e w4 ⟨rfl, HB4, B4⟩; clear HB3 B3; have B4 : Hid (Blk w4 w.heap.size (bcl (be 4 n) ++ (zs 4 ++ (bcl (be 8 q) ++ bcl bs))) 5) := (by rw [← List.append_assoc]; exact B4)))
    have hb4 : Hid (Blk w4.drew w.heap.size (bcl (be 4 n) ++ (zs 4 ++ (bcl (be 8 q) ++ bcl bs))) 5) := blk_drew B4.out
    have hB4 : Hid (Below w.heap.size w w4.drew) := bw_drew HB4
    have hsum := sum_k (kr_refl w4.drew) (be 8 q ++ bs) (N - 8) (by show _ = _; rw [List.length_append, be_len, hn.out]; have := HN.out; omega) (isB_app (be_isB 8 q) HB.out) (by have := H2.out; have := HN.out; omega) (some ⟨w.heap.size, 8, none⟩) (N - 8) (fun W1 H => srcV_keep (blk_srcV hb4.out 8 _ (fr_get n q bs)) H.below)
    have hput := fun w5 (H5 : KR w4.drew [] w5) => put_k (bw_step hB4.out H5.below) w.heap.size (Nat.le_refl _) 5 (bcl (be 4 n)) (zs 4) (bcl (be 8 q) ++ bcl bs) 4 4 (by rw [bcl_len, be_len]) (zs_len 4) (by omega) (blk_below hb4.out H5.below) (crc (nb (be 8 q ++ bs))) (by have := HC.out.1; omega) (N - 4)
    clear HB4 B4
    have hcr2 := HC.out.2
    generalize hcc : crc (nb (be 8 q ++ bs)) = c at hsum hput hcr2
    have HCC : Hid (crc (nb (be 8 q ++ bs)) = c) := hcc
    have hwc := wrap_small c (by omega)
    clear hcc
    go_region_held3 (fun _ => True) (trivial) (first | (go_at_call 16; refine hsum.mono ?_; rintro e w5 ⟨rfl, HB5⟩) | (go_at_call 41; refine (hput _ HB5).mono ?_; rintro e w6 ⟨rfl, HB6, B6⟩))
    all_goals go_wp2_with fail
    all_goals go_ret2
    all_goals exact ⟨_, by rw [HN.out]; rfl, Nat.le_refl _, HB6, fr_fin bs n q hn.out (by rw [HCC.out]; exact B6)⟩
end Go.Proofs.Ytaonaifnaecpiaa.Own
