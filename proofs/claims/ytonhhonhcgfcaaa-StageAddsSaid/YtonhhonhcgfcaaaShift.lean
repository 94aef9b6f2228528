/- The contract of Shift, for any times and numbers. -/
import Derived.Test.YtonhhonhcgfcaaaStage
namespace Go.Proofs.Ytonhhonhcgfcaaa
open Go.RowKit Go.Shelf

def upd (from_ by_ k x : Int) : Int := if from_ ≤ k then (if 1000000000 < x + by_ then 1000000000 else x + by_) else x
def okN (x : Int) : Prop := 0 ≤ x ∧ x ≤ 1000000000
instance (x : Int) : Decidable (okN x) := by unfold okN; exact inferInstance
/-- Shifted times. -/
def shiftR (a b c d s f y : Int) : Value :=
  if okN y ∧ okN a ∧ okN b ∧ okN c ∧ okN d then T5 (upd f y 1 a) (upd f y 2 b) (upd f y 3 c) (upd f y 4 d) s else T5 a b c d s
def outCells (a b c d s f y : Int) (k : Nat) : Array Value :=
  #[.int .i64 (if 0 < k then upd f y 1 a else a), .int .i64 (if 1 < k then upd f y 2 b else b), .int .i64 (if 2 < k then upd f y 3 c else c), .int .i64 (if 3 < k then upd f y 4 d else d), .int .i64 s]

theorem info25 : (Try.prog.info? 25).map (·.size) = some 5 := by kernel_rfl

/-- At the head of a round of Shift, k times being done. -/
def ShiftI (a b c d s f y : Int) (w : World) (k : Nat) (wr : World) : Prop :=
  ((0 < k → okN a) ∧ (1 < k → okN b) ∧ (2 < k → okN c) ∧ (3 < k → okN d)) ∧
    Blk wr w.heap.size #[.int .i64 a, .int .i64 b, .int .i64 c, .int .i64 d, .int .i64 s] 25 ∧ Blk wr (w.heap.size + 1) #[.int .i64 0, .int .i64 0, .int .i64 0, .int .i64 0, .int .i64 0] 25 ∧ Blk wr (w.heap.size + 1 + 1) (outCells a b c d s f y k) 25 ∧
    Blk wr (w.heap.size + 1 + 1 + 1) #[.pointer none, .pointer (some ⟨w.heap.size + 1 + 1, 0, none⟩), .pointer (some ⟨w.heap.size + 1 + 1, 1, none⟩), .pointer (some ⟨w.heap.size + 1 + 1, 2, none⟩), .pointer (some ⟨w.heap.size + 1 + 1, 3, none⟩)] 50 ∧ Below w.heap.size w wr

theorem blk_four (w : World) (A B C D : Array Value) (t1 t2 t3 t4 : TypeId) :
    Blk ((((w.alloc (.cells A t1)).alloc (.cells B t2)).alloc (.cells C t3)).alloc (.cells D t4)) w.heap.size A t1 ∧
    Blk ((((w.alloc (.cells A t1)).alloc (.cells B t2)).alloc (.cells C t3)).alloc (.cells D t4)) (w.heap.size + 1) B t2 ∧
    Blk ((((w.alloc (.cells A t1)).alloc (.cells B t2)).alloc (.cells C t3)).alloc (.cells D t4)) (w.heap.size + 1 + 1) C t3 ∧
    Blk ((((w.alloc (.cells A t1)).alloc (.cells B t2)).alloc (.cells C t3)).alloc (.cells D t4)) (w.heap.size + 1 + 1 + 1) D t4 ∧
    Below w.heap.size w ((((w.alloc (.cells A t1)).alloc (.cells B t2)).alloc (.cells C t3)).alloc (.cells D t4)) := by
  have h2 := ((Blk.new (w.alloc (.cells A t1)) B t2).alloc (.cells C t3)).alloc (.cells D t4)
  have h3 := (Blk.new ((w.alloc (.cells A t1)).alloc (.cells B t2)) C t3).alloc (.cells D t4)
  have h4 := Blk.new (((w.alloc (.cells A t1)).alloc (.cells B t2)).alloc (.cells C t3)) D t4
  simp only [World.size_alloc] at h2 h3 h4
  exact ⟨(((Blk.new w A t1).alloc _).alloc _).alloc _, h2, h3, h4, ((((Below.refl _ w).alloc (Nat.le_refl _) _).alloc (by simp) _).alloc (by simp; omega) _).alloc (by simp; omega) _⟩

theorem shiftR_no {a b c d s f y : Int} (h : ¬ okN y ∨ ¬ okN a ∨ ¬ okN b ∨ ¬ okN c ∨ ¬ okN d) : shiftR a b c d s f y = T5 a b c d s := by
  unfold shiftR; rw [if_neg]; rintro ⟨h1, h2, h3, h4, h5⟩; rcases h with h | h | h | h | h <;> exact h (by assumption)
theorem shiftR_yes {a b c d s f y : Int} (h1 : okN y) (h2 : okN a) (h3 : okN b) (h4 : okN c) (h5 : okN d) : shiftR a b c d s f y = T5 (upd f y 1 a) (upd f y 2 b) (upd f y 3 c) (upd f y 4 d) s := by
  unfold shiftR; rw [if_pos ⟨h1, h2, h3, h4, h5⟩]


theorem upd_yes {f y k x : Int} (h : f ≤ k) : upd f y k x = if 1000000000 < x + y then 1000000000 else x + y := by unfold upd; rw [if_pos h]
theorem upd_no {f y k x : Int} (h : ¬ f ≤ k) : upd f y k x = x := by unfold upd; rw [if_neg h]

/-- A round that has stored. -/
theorem shift_store {a b c d s f y : Int} {w wr : World} {k : Nat} {j : Nat} {v : Int} (h : ShiftI a b c d s f y w k wr) (hok : (0 < k + 1 → okN a) ∧ (1 < k + 1 → okN b) ∧ (2 < k + 1 → okN c) ∧ (3 < k + 1 → okN d))
    (hc : (outCells a b c d s f y k).setIfInBounds j (.int .i64 v) = outCells a b c d s f y (k + 1)) : ShiftI a b c d s f y w (k + 1) (wr.setCell ⟨w.heap.size + 1 + 1, j, none⟩ (.int .i64 v)).drew := by
  obtain ⟨_, i1, i2, i3, i4, hB⟩ := h
  refine ⟨hok, (i1.other (by simp; omega) _).drew, (i2.other (by simp) _).drew, ?_, (i4.other (by simp) _).drew, (hB.setCell (by simp; omega) _).drew⟩
  have := (i3.set j (.int .i64 v)).drew
  rw [hc] at this
  exact this
theorem shift_skip {a b c d s f y : Int} {w wr : World} {k : Nat} (h : ShiftI a b c d s f y w k wr) (hok : (0 < k + 1 → okN a) ∧ (1 < k + 1 → okN b) ∧ (2 < k + 1 → okN c) ∧ (3 < k + 1 → okN d))
    (hc : outCells a b c d s f y k = outCells a b c d s f y (k + 1)) : ShiftI a b c d s f y w (k + 1) wr := by
  obtain ⟨_, i1, i2, i3, i4, hB⟩ := h
  rw [hc] at i3
  exact ⟨hok, i1, i2, i3, i4, hB⟩

set_option maxHeartbeats 2000000 in
theorem Shift_yes (a b c d s f y : Int) (w : World) (hy : okN y) :
    Calls Try.prog 19 #[T5 a b c d s, .int .i64 f, .int .i64 y] w fun e w' => e = .returned (shiftR a b c d s f y) ∧ Below w.heap.size w w' := by
  have HY := Lib.hid hy
  obtain ⟨hy0, hy1⟩ := hy
  go_enter Try.func19, Try.ntmps19
  go_wp2_with fail
  go_loopw [9] (fun i wr => ∃ k : Nat, k ≤ 4 ∧ i = .int .i64 ((k : Int) + 1) ∧ ShiftI a b c d s f y w k wr) (fun i _ => 5 - (intOf i).toNat)
  case atStart =>
    obtain ⟨h1, h2, h3, h4, h5⟩ := blk_four w #[.int .i64 a, .int .i64 b, .int .i64 c, .int .i64 d, .int .i64 s] #[.int .i64 0, .int .i64 0, .int .i64 0, .int .i64 0, .int .i64 0] #[.int .i64 a, .int .i64 b, .int .i64 c, .int .i64 d, .int .i64 s] #[.pointer none, .pointer (some ⟨w.heap.size + 1 + 1, 0, none⟩), .pointer (some ⟨w.heap.size + 1 + 1, 1, none⟩), .pointer (some ⟨w.heap.size + 1 + 1, 2, none⟩), .pointer (some ⟨w.heap.size + 1 + 1, 3, none⟩)] 25 25 25 50
    exact ⟨0, by omega, rfl, ⟨(fun h => by omega), (fun h => by omega), (fun h => by omega), (fun h => by omega)⟩, h1, h2, h3, h4, h5⟩
  case round =>
    obtain ⟨k, hk, rfl, hI⟩ := hrel
    have HI := Lib.hid hI
    obtain ⟨hpre, i1, i2, i3, i4, hB⟩ := hI
    have HP := Lib.hid hpre
    clear hpre
    have c0 := i1.cell 0 (.int .i64 a) rfl
    have c1 := i1.cell 1 (.int .i64 b) rfl
    have c2 := i1.cell 2 (.int .i64 c) rfl
    have c3 := i1.cell 3 (.int .i64 d) rfl
    have c4 := i1.cell 4 (.int .i64 s) rfl
    rcases (show k = 0 ∨ k = 1 ∨ k = 2 ∨ k = 3 ∨ k = 4 by omega) with rfl | rfl | rfl | rfl | rfl
    · have p1 := i4.cell 1 (.pointer (some ⟨w.heap.size + 1 + 1, 0, none⟩)) rfl
      have o1 := i3.cell 0 (.int .i64 a) rfl
      have f1 := i3.frozen 0
      by_cases h1 : a < 0
      · go_wp2_with (refine wpList_store_row rfl 25 (.tmp 6) (.tmp 41) rfl (w.heap.size + 1) _ rfl rfl 25 _ i2 info25 ?_ ?_ ?_; (exact rfl); (simp [Value.oneCell']))
        rw [shiftR_no (by simp only [okN]; omega)]
        exact bodyPost_ret (v := T5 a b c d s) (results_cell_row rfl _ _ _ _ _ _ _ rfl (i2.row _) Try.underlying25 rfl info25) rfl ⟨rfl, Below.setRow hB (by omega) _⟩
      · by_cases h2 : 1000000000 < a
        · go_wp2_with (refine wpList_store_row rfl 25 (.tmp 6) (.tmp 41) rfl (w.heap.size + 1) _ rfl rfl 25 _ i2 info25 ?_ ?_ ?_; (exact rfl); (simp [Value.oneCell']))
          rw [shiftR_no (by simp only [okN]; omega)]
          exact bodyPost_ret (v := T5 a b c d s) (results_cell_row rfl _ _ _ _ _ _ _ rfl (i2.row _) Try.underlying25 rfl info25) rfl ⟨rfl, Below.setRow hB (by omega) _⟩
        · have h1' : 0 ≤ a := by omega
          have h2' : a ≤ 1000000000 := by omega
          by_cases h3 : f ≤ 1
          · have HU := Lib.hid (upd_yes (y := y) (x := a) h3)
            go_wp2_with fail
            go_region
            all_goals go_wp2
            go_roundw
            case rel => exact ⟨1, by omega, rfl, shift_store HI.out ⟨(fun _ => ⟨h1', h2'⟩), (fun h => by omega), (fun h => by omega), (fun h => by omega)⟩ (by simp [outCells, HU.out])⟩
            case measure => simp [intOf]
          · have HU := Lib.hid (upd_no (y := y) (x := a) h3)
            go_wp2_with fail
            go_roundw
            case rel => exact ⟨1, by omega, rfl, shift_skip HI.out ⟨(fun _ => ⟨h1', h2'⟩), (fun h => by omega), (fun h => by omega), (fun h => by omega)⟩ (by simp [outCells, HU.out])⟩
            case measure => simp [intOf]
    · have p1 := i4.cell 2 (.pointer (some ⟨w.heap.size + 1 + 1, 1, none⟩)) rfl
      have o1 := i3.cell 1 (.int .i64 b) rfl
      have f1 := i3.frozen 1
      by_cases h1 : b < 0
      · go_wp2_with (refine wpList_store_row rfl 25 (.tmp 6) (.tmp 41) rfl (w.heap.size + 1) _ rfl rfl 25 _ i2 info25 ?_ ?_ ?_; (exact rfl); (simp [Value.oneCell']))
        rw [shiftR_no (by simp only [okN]; omega)]
        exact bodyPost_ret (v := T5 a b c d s) (results_cell_row rfl _ _ _ _ _ _ _ rfl (i2.row _) Try.underlying25 rfl info25) rfl ⟨rfl, Below.setRow hB (by omega) _⟩
      · by_cases h2 : 1000000000 < b
        · go_wp2_with (refine wpList_store_row rfl 25 (.tmp 6) (.tmp 41) rfl (w.heap.size + 1) _ rfl rfl 25 _ i2 info25 ?_ ?_ ?_; (exact rfl); (simp [Value.oneCell']))
          rw [shiftR_no (by simp only [okN]; omega)]
          exact bodyPost_ret (v := T5 a b c d s) (results_cell_row rfl _ _ _ _ _ _ _ rfl (i2.row _) Try.underlying25 rfl info25) rfl ⟨rfl, Below.setRow hB (by omega) _⟩
        · have h1' : 0 ≤ b := by omega
          have h2' : b ≤ 1000000000 := by omega
          by_cases h3 : f ≤ 2
          · have HU := Lib.hid (upd_yes (y := y) (x := b) h3)
            go_wp2_with fail
            go_region
            all_goals go_wp2
            go_roundw
            case rel => exact ⟨2, by omega, rfl, shift_store HI.out ⟨(fun _ => HP.out.1 (by omega)), (fun _ => ⟨h1', h2'⟩), (fun h => by omega), (fun h => by omega)⟩ (by simp [outCells, HU.out])⟩
            case measure => simp [intOf]
          · have HU := Lib.hid (upd_no (y := y) (x := b) h3)
            go_wp2_with fail
            go_roundw
            case rel => exact ⟨2, by omega, rfl, shift_skip HI.out ⟨(fun _ => HP.out.1 (by omega)), (fun _ => ⟨h1', h2'⟩), (fun h => by omega), (fun h => by omega)⟩ (by simp [outCells, HU.out])⟩
            case measure => simp [intOf]
    · have p1 := i4.cell 3 (.pointer (some ⟨w.heap.size + 1 + 1, 2, none⟩)) rfl
      have o1 := i3.cell 2 (.int .i64 c) rfl
      have f1 := i3.frozen 2
      by_cases h1 : c < 0
      · go_wp2_with (refine wpList_store_row rfl 25 (.tmp 6) (.tmp 41) rfl (w.heap.size + 1) _ rfl rfl 25 _ i2 info25 ?_ ?_ ?_; (exact rfl); (simp [Value.oneCell']))
        rw [shiftR_no (by simp only [okN]; omega)]
        exact bodyPost_ret (v := T5 a b c d s) (results_cell_row rfl _ _ _ _ _ _ _ rfl (i2.row _) Try.underlying25 rfl info25) rfl ⟨rfl, Below.setRow hB (by omega) _⟩
      · by_cases h2 : 1000000000 < c
        · go_wp2_with (refine wpList_store_row rfl 25 (.tmp 6) (.tmp 41) rfl (w.heap.size + 1) _ rfl rfl 25 _ i2 info25 ?_ ?_ ?_; (exact rfl); (simp [Value.oneCell']))
          rw [shiftR_no (by simp only [okN]; omega)]
          exact bodyPost_ret (v := T5 a b c d s) (results_cell_row rfl _ _ _ _ _ _ _ rfl (i2.row _) Try.underlying25 rfl info25) rfl ⟨rfl, Below.setRow hB (by omega) _⟩
        · have h1' : 0 ≤ c := by omega
          have h2' : c ≤ 1000000000 := by omega
          by_cases h3 : f ≤ 3
          · have HU := Lib.hid (upd_yes (y := y) (x := c) h3)
            go_wp2_with fail
            go_region
            all_goals go_wp2
            go_roundw
            case rel => exact ⟨3, by omega, rfl, shift_store HI.out ⟨(fun _ => HP.out.1 (by omega)), (fun _ => HP.out.2.1 (by omega)), (fun _ => ⟨h1', h2'⟩), (fun h => by omega)⟩ (by simp [outCells, HU.out])⟩
            case measure => simp [intOf]
          · have HU := Lib.hid (upd_no (y := y) (x := c) h3)
            go_wp2_with fail
            go_roundw
            case rel => exact ⟨3, by omega, rfl, shift_skip HI.out ⟨(fun _ => HP.out.1 (by omega)), (fun _ => HP.out.2.1 (by omega)), (fun _ => ⟨h1', h2'⟩), (fun h => by omega)⟩ (by simp [outCells, HU.out])⟩
            case measure => simp [intOf]
    · have p1 := i4.cell 4 (.pointer (some ⟨w.heap.size + 1 + 1, 3, none⟩)) rfl
      have o1 := i3.cell 3 (.int .i64 d) rfl
      have f1 := i3.frozen 3
      by_cases h1 : d < 0
      · go_wp2_with (refine wpList_store_row rfl 25 (.tmp 6) (.tmp 41) rfl (w.heap.size + 1) _ rfl rfl 25 _ i2 info25 ?_ ?_ ?_; (exact rfl); (simp [Value.oneCell']))
        rw [shiftR_no (by simp only [okN]; omega)]
        exact bodyPost_ret (v := T5 a b c d s) (results_cell_row rfl _ _ _ _ _ _ _ rfl (i2.row _) Try.underlying25 rfl info25) rfl ⟨rfl, Below.setRow hB (by omega) _⟩
      · by_cases h2 : 1000000000 < d
        · go_wp2_with (refine wpList_store_row rfl 25 (.tmp 6) (.tmp 41) rfl (w.heap.size + 1) _ rfl rfl 25 _ i2 info25 ?_ ?_ ?_; (exact rfl); (simp [Value.oneCell']))
          rw [shiftR_no (by simp only [okN]; omega)]
          exact bodyPost_ret (v := T5 a b c d s) (results_cell_row rfl _ _ _ _ _ _ _ rfl (i2.row _) Try.underlying25 rfl info25) rfl ⟨rfl, Below.setRow hB (by omega) _⟩
        · have h1' : 0 ≤ d := by omega
          have h2' : d ≤ 1000000000 := by omega
          by_cases h3 : f ≤ 4
          · have HU := Lib.hid (upd_yes (y := y) (x := d) h3)
            go_wp2_with fail
            go_region
            all_goals go_wp2
            go_roundw
            case rel => exact ⟨4, by omega, rfl, shift_store HI.out ⟨(fun _ => HP.out.1 (by omega)), (fun _ => HP.out.2.1 (by omega)), (fun _ => HP.out.2.2.1 (by omega)), (fun _ => ⟨h1', h2'⟩)⟩ (by simp [outCells, HU.out])⟩
            case measure => simp [intOf]
          · have HU := Lib.hid (upd_no (y := y) (x := d) h3)
            go_wp2_with fail
            go_roundw
            case rel => exact ⟨4, by omega, rfl, shift_skip HI.out ⟨(fun _ => HP.out.1 (by omega)), (fun _ => HP.out.2.1 (by omega)), (fun _ => HP.out.2.2.1 (by omega)), (fun _ => ⟨h1', h2'⟩)⟩ (by simp [outCells, HU.out])⟩
            case measure => simp [intOf]
    · have o0 := i3.cell 0 (.int .i64 (upd f y 1 a)) rfl
      have o1 := i3.cell 1 (.int .i64 (upd f y 2 b)) rfl
      have o2 := i3.cell 2 (.int .i64 (upd f y 3 c)) rfl
      have o3 := i3.cell 3 (.int .i64 (upd f y 4 d)) rfl
      have o4 := i3.cell 4 (.int .i64 s) rfl
      go_wp2_with (refine wpList_store_row rfl 25 (.tmp 6) (.tmp 57) rfl (w.heap.size + 1) _ rfl rfl 25 _ i2 info25 ?_ ?_ ?_; (exact rfl); (simp [Value.oneCell']))
      rw [shiftR_yes HY.out (HP.out.1 (by omega)) (HP.out.2.1 (by omega)) (HP.out.2.2.1 (by omega)) (HP.out.2.2.2 (by omega))]
      exact bodyPost_ret (v := T5 (upd f y 1 a) (upd f y 2 b) (upd f y 3 c) (upd f y 4 d) s) (results_cell_row rfl _ _ _ _ _ _ _ rfl (i2.row _) Try.underlying25 rfl info25) rfl ⟨rfl, Below.setRow hB (by omega) _⟩

set_option maxHeartbeats 1000000 in
theorem Shift_any (a b c d s f y : Int) (w : World) :
    Calls Try.prog 19 #[T5 a b c d s, .int .i64 f, .int .i64 y] w fun e w' => e = .returned (shiftR a b c d s f y) ∧ Below w.heap.size w w' := by
  by_cases hy : okN y
  · exact Shift_yes a b c d s f y w hy
  · have HN := Lib.hid (shiftR_no (a := a) (b := b) (c := c) (d := d) (s := s) (f := f) (Or.inl hy))
    have hy' : y < 0 ∨ 1000000000 < y := by unfold okN at hy; omega
    have hB : Below w.heap.size w ((((w.alloc (.cells #[.int .i64 a, .int .i64 b, .int .i64 c, .int .i64 d, .int .i64 s] 25)).alloc (.cells #[.int .i64 a, .int .i64 b, .int .i64 c, .int .i64 d, .int .i64 s] 25)).alloc (.cells #[.int .i64 a, .int .i64 b, .int .i64 c, .int .i64 d, .int .i64 s] 25)).alloc (.cells #[.pointer none, .pointer (some ⟨w.heap.size + 1 + 1, 0, none⟩), .pointer (some ⟨w.heap.size + 1 + 1, 1, none⟩), .pointer (some ⟨w.heap.size + 1 + 1, 2, none⟩), .pointer (some ⟨w.heap.size + 1 + 1, 3, none⟩)] 50)) := (blk_four w _ _ _ _ _ _ _ _).2.2.2.2
    clear hy
    rcases hy' with h1 | h1
    · go_enter Try.func19, Try.ntmps19
      go_wp2_with fail
      rw [HN.out]
      exact bodyPost_ret (v := T5 a b c d s) (by simp [results, Try.results19, go_sem]) rfl ⟨rfl, hB⟩
    · have h2 : ¬ y < 0 := by omega
      go_enter Try.func19, Try.ntmps19
      go_wp2_with fail
      rw [HN.out]
      exact bodyPost_ret (v := T5 a b c d s) (by simp [results, Try.results19, go_sem]) rfl ⟨rfl, hB⟩
end Go.Proofs.Ytonhhonhcgfcaaa
