/- The contract of digest.schedule. Condition: a block of 64 bytes. -/
import Derived.Test.YtjekdeikoebmgaaShaA
namespace Go.Proofs.Ytjekdeikoebmgaa
open Go.RowKit Go.Shelf

/-- From cell o on block g holds these bytes. -/
def BytesAt (w : World) (g o : Nat) (m : List UInt8) : Prop := ∀ (i : Nat) (x : UInt8), m[i]? = some x → w.cell? ⟨g, o + i, none⟩ = some (Y x)
theorem BytesAt.below {w w' : World} {g o : Nat} {m : List UInt8} {B : Nat} (h : BytesAt w g o m) (hb : Below B w w') (hg : g < B) : BytesAt w' g o m :=
  fun i x hx => (hb.cell (p := ⟨g, o + i, none⟩) hg).trans (h i x hx)
theorem BytesAt.at_ {w : World} {g o : Nat} {m : List UInt8} (h : BytesAt w g o m) {i : Nat} (hi : i < m.length) : w.cell? ⟨g, o + i, none⟩ = some (.int .u8 ((Sha.byteAt m i : Nat) : Int)) := by
  have := h i _ (List.getElem?_eq_getElem hi)
  rw [this]
  simp [Sha.byteAt, List.getD_eq_getElem?_getD, List.getElem?_eq_getElem hi]

theorem wrow_size (l : List Nat) (h : l.length ≤ 64) : (wrow l).size = 64 := by simp [wrow]; omega
theorem wrow_get (l : List Nat) (i : Nat) (h : i < 64) : (wrow l)[i]? = some (U (l.getD i 0)) := by
  unfold wrow
  simp only [List.getElem?_toArray, List.getElem?_map]
  by_cases hi : i < l.length
  · rw [List.getElem?_append_left hi, List.getD_eq_getElem?_getD, List.getElem?_eq_getElem hi]; rfl
  · rw [List.getElem?_append_right (by omega), List.getElem?_replicate, if_pos (by omega), List.getD_eq_getElem?_getD, List.getElem?_eq_none (by omega)]; rfl
theorem wrow_one (l : List Nat) : (wrow l).all (·.oneCell') = true := by
  unfold wrow
  rw [Array.all_eq_true_iff_forall_mem]
  intro v hv
  simp only [List.mem_toArray, List.mem_map] at hv
  obtain ⟨x, _, rfl⟩ := hv
  rfl
theorem wrow_set (l : List Nat) (x : Nat) (h : l.length < 64) : (wrow l).setIfInBounds l.length (U x) = wrow (l ++ [x]) := by
  apply Array.ext_getElem?
  intro i
  by_cases hi : i < 64
  · rw [wrow_get _ i hi, Array.getElem?_setIfInBounds]
    by_cases he : l.length = i
    · subst he
      rw [if_pos rfl, if_pos (by rw [wrow_size l (by omega)]; exact h)]
      simp
    · rw [if_neg he, wrow_get _ i hi]
      congr 2
      by_cases hl : i < l.length
      · simp [List.getD_eq_getElem?_getD, List.getElem?_append_left hl]
      · simp [List.getD_eq_getElem?_getD]
        rw [List.getElem?_eq_none (by omega), List.getElem?_eq_none (by simp; omega)]
  · rw [Array.getElem?_eq_none (by simp [wrow_size l (by omega)]; omega), Array.getElem?_eq_none (by rw [wrow_size _ (by simp; omega)]; omega)]

theorem sched_info (m : List UInt8) : (Try.prog.info? 96).map (·.size) = some (wrow (Sha.sched m 64)).size := by rw [wrow_size _ (by rw [Sha.sched_length]; omega)]; exact info64
theorem sched_old (m : List UInt8) : (wrow []).size = (wrow (Sha.sched m 64)).size := by rw [wrow_size [] (by simp), wrow_size (Sha.sched m 64) (by rw [Sha.sched_length]; omega)]
theorem s0_bits (x : Nat) (h : x < 4294967296) : bits .xor .u32 (bits .xor .u32 (Sha.rotr x 7 : Nat) (Sha.rotr x 18 : Nat)) ((x : Int) / 8) = ((Sha.s0 x : Nat) : Int) := by
  rw [show (x : Int) / 8 = ((x / 8 : Nat) : Int) by omega, u32_xor_nat _ _ (Sha.rotr_lt h) (Sha.rotr_lt h), u32_xor_nat _ _ (Sha.xor_lt (Sha.rotr_lt h) (Sha.rotr_lt h)) (Sha.div_lt h)]; rfl
theorem s1_bits (x : Nat) (h : x < 4294967296) : bits .xor .u32 (bits .xor .u32 (Sha.rotr x 17 : Nat) (Sha.rotr x 19 : Nat)) ((x : Int) / 1024) = ((Sha.s1 x : Nat) : Int) := by
  rw [show (x : Int) / 1024 = ((x / 1024 : Nat) : Int) by omega, u32_xor_nat _ _ (Sha.rotr_lt h) (Sha.rotr_lt h), u32_xor_nat _ _ (Sha.xor_lt (Sha.rotr_lt h) (Sha.rotr_lt h)) (Sha.div_lt h)]; rfl

theorem rotl7 (x : Nat) (hx : x < 4294967296) (w : World) : Calls Try.prog 66 #[U x, .int .i64 (-7)] w fun e w' => e = .returned (U (Sha.rotr x 7)) ∧ w = w' := rotl_any x 7 hx (by omega) (by omega) w
theorem rotl18 (x : Nat) (hx : x < 4294967296) (w : World) : Calls Try.prog 66 #[U x, .int .i64 (-18)] w fun e w' => e = .returned (U (Sha.rotr x 18)) ∧ w = w' := rotl_any x 18 hx (by omega) (by omega) w
theorem rotl17 (x : Nat) (hx : x < 4294967296) (w : World) : Calls Try.prog 66 #[U x, .int .i64 (-17)] w fun e w' => e = .returned (U (Sha.rotr x 17)) ∧ w = w' := rotl_any x 17 hx (by omega) (by omega) w
theorem rotl19 (x : Nat) (hx : x < 4294967296) (w : World) : Calls Try.prog 66 #[U x, .int .i64 (-19)] w fun e w' => e = .returned (U (Sha.rotr x 19)) ∧ w = w' := rotl_any x 19 hx (by omega) (by omega) w

set_option maxRecDepth 100000 in
set_option maxHeartbeats 1000000 in
theorem schedule_any (g o c : Nat) (m : List UInt8) (hm : m.length = 64) (hc : 64 ≤ c) (w : World) (hB : BytesAt w g o m) (hg : g < w.heap.size) :
    Calls Try.prog 60 #[.slice (some ⟨g, o, none⟩) 64 c] w fun e w' => e = .returned (.agg (wrow (Sha.sched m 64))) ∧ Below w.heap.size w w' := by
  go_enter Try.func60, Try.ntmps60
  go_wp2_with (refine wpList_alloc_row rfl 96 rfl (wrow []) (by kernel_rfl) ?_)
  go_loopw [9] (fun i wr => ∃ k : Nat, k ≤ 64 ∧ i = .int .i64 k ∧ Blk wr w.heap.size (wrow []) 96 ∧ Blk wr (w.heap.size + 1) (wrow (Sha.sched m k)) 96 ∧ Below w.heap.size w wr) (fun i _ => 64 - (intOf i).toNat)
  case atStart =>
    have h2 := Blk.new (w.alloc (.cells (wrow []) 96)) (wrow []) 96
    simp only [World.size_alloc] at h2
    exact ⟨0, by omega, rfl, (Blk.new _ _ _).alloc _, h2, ((Below.refl _ w).alloc (Nat.le_refl _) _).alloc (by simp) _⟩
  case round =>
    obtain ⟨k, hk, rfl, j1, j2, hBl⟩ := hrel
    by_cases hlt : k < 64
    · by_cases h16 : k < 16
      · have hBy := hB.below hBl hg
        have c0 := hBy.at_ (i := 4 * k) (by omega)
        have c1 := hBy.at_ (i := 4 * k + 1) (by omega)
        have c2 := hBy.at_ (i := 4 * k + 2) (by omega)
        have c3 := hBy.at_ (i := 4 * k + 3) (by omega)
        have hx := j2.cell k _ (wrow_get _ k hlt)
        have hf := j2.frozen k
        clear hx hf
        rw [show o + (4 * k + 1) = o + 4 * k + 1 by omega] at c1
        rw [show o + (4 * k + 2) = o + 4 * k + 2 by omega] at c2
        rw [show o + (4 * k + 3) = o + 4 * k + 3 by omega] at c3
        have HW := Lib.hid (word_any _ _ _ _ g (o + 4 * k) (64 - 4 * k) (c - 4 * k) (Sha.byteAt_lt m (4 * k)) (Sha.byteAt_lt m (4 * k + 1)) (Sha.byteAt_lt m (4 * k + 2)) (Sha.byteAt_lt m (4 * k + 3)) (by omega) wr c0 c1 c2 c3)
        clear c0 c1 c2 c3
        have HN : Hid (Sha.sched m (k + 1) = Sha.sched m k ++ [Sha.wordAt m k]) := by
          show _ = _
          rw [Sha.sched_succ, Sha.nextW, if_pos h16]
        go_wp2_with fail
        refine HW.out.mono ?_; rintro e w1 ⟨rfl, hb1⟩
        have j1' := j1.below hb1 j1.lt
        have j2' := j2.below hb1 j2.lt
        have hx := j2'.cell k _ (wrow_get _ k hlt)
        have hf := j2'.frozen k
        go_wp2_with fail
        go_roundw
        case rel =>
          refine ⟨k + 1, by omega, by go_num, j1'.other (by simp) _, ?_, (hBl.trans (hb1.mono hBl.size)).setCell (by simp) _⟩
          have h3 := j2'.set k (U (Sha.wordAt m k))
          rw [HN.out, ← wrow_set (Sha.sched m k) _ (by rw [Sha.sched_length]; exact hlt), Sha.sched_length]
          exact h3
        case measure => simp [intOf]; omega
      · have l16 := (Sha.sched_lt m k).getD (k - 16)
        have l15 := (Sha.sched_lt m k).getD (k - 15)
        have l7 := (Sha.sched_lt m k).getD (k - 7)
        have l2 := (Sha.sched_lt m k).getD (k - 2)
        have c16 := j2.cell (k - 16) _ (wrow_get _ _ (by omega))
        have c15 := j2.cell (k - 15) _ (wrow_get _ _ (by omega))
        have c7 := j2.cell (k - 7) _ (wrow_get _ _ (by omega))
        have c2 := j2.cell (k - 2) _ (wrow_get _ _ (by omega))
        have HN : Hid (Sha.sched m (k + 1) = Sha.sched m k ++ [((Sha.sched m k).getD (k - 16) 0 + Sha.s0 ((Sha.sched m k).getD (k - 15) 0) + (Sha.sched m k).getD (k - 7) 0 + Sha.s1 ((Sha.sched m k).getD (k - 2) 0)) % 4294967296]) := by
          show _ = _
          rw [Sha.sched_succ, Sha.nextW, if_neg h16]
        generalize (Sha.sched m k).getD (k - 16) 0 = x16 at *
        generalize (Sha.sched m k).getD (k - 15) 0 = x15 at *
        generalize (Sha.sched m k).getD (k - 7) 0 = x7 at *
        generalize (Sha.sched m k).getD (k - 2) 0 = x2 at *
        have H0 := Lib.hid (s0_bits x15 l15)
        have H1 := Lib.hid (s1_bits x2 l2)
        have ls0 := Sha.s0_lt l15
        have ls1 := Sha.s1_lt l2
        have b16 : (0 : Int) ≤ (k : Int) - 16 := by omega
        have b15 : (0 : Int) ≤ (k : Int) - 15 := by omega
        have b7 : (0 : Int) ≤ (k : Int) - 7 := by omega
        have b2 : (0 : Int) ≤ (k : Int) - 2 := by omega
        go_wp2_with fail
        go_quiet (fail)
        go_wp2_with fail
        refine (rotl7 x15 l15 _).mono ?_; rintro e w1 ⟨rfl, rfl⟩
        go_wp2_with fail
        refine (rotl18 x15 l15 _).mono ?_; rintro e w1 ⟨rfl, rfl⟩
        go_wp2_with fail
        rw [H0.out]
        refine (rotl17 x2 l2 _).mono ?_; rintro e w1 ⟨rfl, rfl⟩
        go_wp2_with fail
        refine (rotl19 x2 l2 _).mono ?_; rintro e w1 ⟨rfl, rfl⟩
        go_wp2_with fail
        rw [H1.out]
        have f16 := After.cell (w := wr.drewN nq) c16
        have f7 := After.cell (w := wr.drewN nq) c7
        refine wp_region_after_tail 15 (by kernel_rfl) (by kernel_rfl) (by kernel_rfl) (by kernel_rfl) ?_
        simp only [List.take_succ_cons, List.take_zero, List.drop_succ_cons, List.drop_zero]
        repeat (go_big_quiet_step (fail))
        refine wpQuiet_nil ?_
        rintro w5 ⟨x5, rfl⟩
        have hb5 := Below.ofDrewN x5.hb
        clear c16 c15 c7 c2 f16 f7
        generalize x5.W = w5 at *
        have hb6 : Below wr.heap.size wr w5 := hb5
        clear hb5
        have j1' := j1.below hb6 j1.lt
        have j2' := j2.below hb6 j2.lt
        have hx := j2'.cell k _ (wrow_get _ k hlt)
        have hf := j2'.frozen k
        go_wp2_with fail
        go_roundw
        case rel =>
          refine ⟨k + 1, by omega, by go_num, j1'.other (by simp) _, ?_, (hBl.trans (hb6.mono hBl.size)).setCell (by simp) _⟩
          have h3 := j2'.set k (U ((x16 + Sha.s0 x15 + x7 + Sha.s1 x2) % 4294967296))
          rw [HN.out, ← wrow_set (Sha.sched m k) _ (by rw [Sha.sched_length]; exact hlt), Sha.sched_length]
          rw [show ∀ v : Int, v = (((x16 + Sha.s0 x15 + x7 + Sha.s1 x2) % 4294967296 : Nat) : Int) → Value.int IntKind.u32 v = U ((x16 + Sha.s0 x15 + x7 + Sha.s1 x2) % 4294967296) from fun v hv => by rw [hv]]
          · exact h3
          · omega
        case measure => simp [intOf]; omega
    · obtain rfl : k = 64 := by omega
      go_wp2_with (first
        | (refine wpList_load_row rfl 96 (.tmp 3) rfl _ rfl _ _ _ _ j2 Try.underlying96 rfl (sched_info m) ?_)
        | (refine wpList_store_row rfl 96 (.tmp 2) (.tmp 61) rfl w.heap.size (wrow (Sha.sched m 64)) rfl rfl 96 _ j1 (sched_info m) (sched_old m) (wrow_one _) ?_))
      refine bodyPost_ret (v := .agg (wrow (Sha.sched m 64))) ?_ rfl ⟨rfl, ?_⟩
      · exact results_cell_row rfl _ _ _ _ _ _ _ rfl (j1.row _) Try.underlying96 rfl (sched_info m)
      exact Below.setRow hBl (Nat.le_refl _) _

end Go.Proofs.Ytjekdeikoebmgaa
