/- StageAdds: shifting twice is shifting by the sum, a stage does not end earlier, the stage is not later than without shifting, times that do not decrease do not decrease afterwards; no condition. -/
import Derived.Test.YtonhhonhcgfcaaaLate0
namespace Go.Proofs.Ytonhhonhcgfcaaa.LAdds
open Go.ChangeShapes Go.WideShapes Go.ChangeAt Go.RowKit Go.Shelf
open Go.Proofs.Ytonhhonhcgfcaaa.LLate (stage_at)

theorem upd_small {f y k x z : Int} (h : x + y ≤ 1000000000) (hz : z = if f ≤ k then x + y else x) : upd f y k x = z := by
  unfold upd; rw [hz]
  split
  · rw [if_neg (by omega)]
  · rfl
/-- Shift where nothing is cut off. -/
theorem Shift_small (a b c d s f y a' b' c' d' : Int) (hy : okN y) (ha : okN a) (hb : okN b) (hc : okN c) (hd : okN d) (h1 : a + y ≤ 1000000000) (h2 : b + y ≤ 1000000000) (h3 : c + y ≤ 1000000000) (h4 : d + y ≤ 1000000000)
    (e1 : a' = if f ≤ 1 then a + y else a) (e2 : b' = if f ≤ 2 then b + y else b) (e3 : c' = if f ≤ 3 then c + y else c) (e4 : d' = if f ≤ 4 then d + y else d) (w : World) :
    Calls Try.prog 19 #[T5 a b c d s, .int .i64 f, .int .i64 y] w fun e w' => e = .returned (T5 a' b' c' d' s) ∧ Below w.heap.size w w' := by
  have := Shift_any a b c d s f y w
  rw [shiftR_yes hy ha hb hc hd, upd_small h1 e1, upd_small h2 e2, upd_small h3 e3, upd_small h4 e4] at this
  exact this

/-- The stage of times that end no earlier is no later. -/
theorem stage_le {a b c d s a' b' c' d' n : Int} (h1 : a ≤ a') (h2 : b ≤ b') (h3 : c ≤ c') (h4 : d ≤ d') (hd : -1000000000 ≤ d) (hd' : d' ≤ 1000000000) (hs : 0 ≤ s) (hs' : s ≤ 1000000000) :
    (findR a' b' c' d' s n).1 ≤ (findR a b c d s n).1 := by
  rw [stage_at (by omega) (by omega), stage_at (by omega) (by omega)]
  repeat' split
  all_goals omega

set_option maxRecDepth 100000 in
set_option maxHeartbeats 2000000 in
theorem walk1 (l0 l1 l2 l3 l4 s x y z f : Int) (b0 : 0 ≤ l0 ∧ l0 ≤ 65535) (b1 : 0 ≤ l1 ∧ l1 ≤ 65535) (b2 : 0 ≤ l2 ∧ l2 ≤ 65535) (b3 : 0 ≤ l3 ∧ l3 ≤ 65535) (b4 : 0 ≤ l4 ∧ l4 ≤ 65535) (b5 : 0 ≤ x ∧ x ≤ 65535) (b6 : 0 ≤ y ∧ y ≤ 65535) (b7 : 0 ≤ z ∧ z ≤ 65535) (b8 : 0 ≤ f ∧ f ≤ 255) (hs : f % 7 = s) (h2 : s ≤ 1) (w : World) :
    Calls Try.prog 9 #[.agg #[.int .u16 l0, .int .u16 l1, .int .u16 l2, .int .u16 l3, .int .u16 l4], .int .u8 f, .agg #[.int .u16 x, .int .u16 y, .int .u16 z]] w fun e w' => e = .returned (.bool true) ∧ Below w.heap.size w w' := by
  have ok : ∀ n : Int, 0 ≤ n ∧ n ≤ 1000000000 → okN n := fun n h => h
  have HU : Hid (∀ w : World, Calls Try.prog 19 #[T5 l0 (l0 + l1) (l0 + l1 + l2) (l0 + l1 + l2 + l3) l4, .int .i64 s, .int .i64 x] w fun e w' => e = .returned (T5 (l0 + x) (l0 + l1 + x) (l0 + l1 + l2 + x) (l0 + l1 + l2 + l3 + x) l4) ∧ Below w.heap.size w w') := fun w =>
    Shift_small _ _ _ _ _ _ _ _ _ _ _ (ok _ (by omega)) (ok _ (by omega)) (ok _ (by omega)) (ok _ (by omega)) (ok _ (by omega)) (by omega) (by omega) (by omega) (by omega) (by split <;> omega) (by split <;> omega) (by split <;> omega) (by split <;> omega) w
  have HV : Hid (∀ w : World, Calls Try.prog 19 #[T5 (l0 + x) (l0 + l1 + x) (l0 + l1 + l2 + x) (l0 + l1 + l2 + l3 + x) l4, .int .i64 s, .int .i64 y] w fun e w' => e = .returned (T5 (l0 + x + y) (l0 + l1 + x + y) (l0 + l1 + l2 + x + y) (l0 + l1 + l2 + l3 + x + y) l4) ∧ Below w.heap.size w w') := fun w =>
    Shift_small _ _ _ _ _ _ _ _ _ _ _ (ok _ (by omega)) (ok _ (by omega)) (ok _ (by omega)) (ok _ (by omega)) (ok _ (by omega)) (by omega) (by omega) (by omega) (by omega) (by split <;> omega) (by split <;> omega) (by split <;> omega) (by split <;> omega) w
  have HZ : Hid (∀ w : World, Calls Try.prog 19 #[T5 l0 (l0 + l1) (l0 + l1 + l2) (l0 + l1 + l2 + l3) l4, .int .i64 s, .int .i64 (x + y)] w fun e w' => e = .returned (T5 (l0 + x + y) (l0 + l1 + x + y) (l0 + l1 + l2 + x + y) (l0 + l1 + l2 + l3 + x + y) l4) ∧ Below w.heap.size w w') := fun w =>
    Shift_small _ _ _ _ _ _ _ _ _ _ _ (ok _ (by omega)) (ok _ (by omega)) (ok _ (by omega)) (ok _ (by omega)) (ok _ (by omega)) (by omega) (by omega) (by omega) (by omega) (by split <;> omega) (by split <;> omega) (by split <;> omega) (by split <;> omega) w
  have HA : Hid (∀ w : World, Calls Try.prog 15 #[T5 (l0 + x) (l0 + l1 + x) (l0 + l1 + l2 + x) (l0 + l1 + l2 + l3 + x) l4, .int .i64 (z * 4)] w fun e w' => e = .returned (.int .i64 (findR (l0 + x) (l0 + l1 + x) (l0 + l1 + l2 + x) (l0 + l1 + l2 + l3 + x) l4 (z * 4)).1) ∧ Below w.heap.size w w') := fun w => Stage_any _ _ _ _ _ _ (by constructor <;> omega) (by constructor <;> omega) w
  have HB : Hid (∀ w : World, Calls Try.prog 15 #[T5 l0 (l0 + l1) (l0 + l1 + l2) (l0 + l1 + l2 + l3) l4, .int .i64 (z * 4)] w fun e w' => e = .returned (.int .i64 (findR l0 (l0 + l1) (l0 + l1 + l2) (l0 + l1 + l2 + l3) l4 (z * 4)).1) ∧ Below w.heap.size w w') := fun w => Stage_any _ _ _ _ _ _ (by constructor <;> omega) (by constructor <;> omega) w
  have hle : (findR (l0 + x) (l0 + l1 + x) (l0 + l1 + l2 + x) (l0 + l1 + l2 + l3 + x) l4 (z * 4)).1 ≤ (findR l0 (l0 + l1) (l0 + l1 + l2) (l0 + l1 + l2 + l3) l4 (z * 4)).1 := stage_le (by omega) (by omega) (by omega) (by omega) (by omega) (by omega) (by omega) (by omega)
  generalize (findR (l0 + x) (l0 + l1 + x) (l0 + l1 + l2 + x) (l0 + l1 + l2 + l3 + x) l4 (z * 4)).1 = pA at *
  generalize (findR l0 (l0 + l1) (l0 + l1 + l2) (l0 + l1 + l2 + l3) l4 (z * 4)).1 = pB at *
  have hle' : decide (pA ≤ pB) = true := decide_eq_true hle
  clear hle ok
  have g0 : decide (1 < s) = false := by simp; omega
  have g1 : decide (2 < s) = false := by simp; omega
  have g2 : decide (3 < s) = false := by simp; omega
  have g3 : decide (4 < s) = false := by simp; omega
  have o0 : decide ((l0 + x + y) ≤ (l0 + l1 + x + y)) = true := by simp; omega
  have o1 : decide ((l0 + l1 + x + y) ≤ (l0 + l1 + l2 + x + y)) = true := by simp; omega
  have o2 : decide ((l0 + l1 + l2 + x + y) ≤ (l0 + l1 + l2 + l3 + x + y)) = true := by simp; omega
  have p0 : decide (l0 ≤ (l0 + l1)) = true := by simp; omega
  have p1 : decide ((l0 + l1) ≤ (l0 + l1 + l2)) = true := by simp; omega
  have p2 : decide ((l0 + l1 + l2) ≤ (l0 + l1 + l2 + l3)) = true := by simp; omega
  have HSs := Lib.hid hs
  clear hs
  obtain ⟨a0, a0'⟩ := b0
  obtain ⟨a1, a1'⟩ := b1
  obtain ⟨a2, a2'⟩ := b2
  obtain ⟨a3, a3'⟩ := b3
  obtain ⟨a4, a4'⟩ := b4
  obtain ⟨a5, a5'⟩ := b5
  obtain ⟨a6, a6'⟩ := b6
  obtain ⟨a7, a7'⟩ := b7
  obtain ⟨a8, a8'⟩ := b8
  clear h2
  go_enter Try.func9, Try.ntmps9
  go_wp2_with fail
  refine (sanity_any _).mono ?_; rintro e w1 ⟨rfl, hb1⟩
  have j1 := ((Blk.new w #[.int .u16 l0, .int .u16 l1, .int .u16 l2, .int .u16 l3, .int .u16 l4] 37).alloc (.cells #[.int .u16 x, .int .u16 y, .int .u16 z] 38)).below hb1 (by simp; omega)
  have q1 := (Blk.new (w.alloc (.cells #[.int .u16 l0, .int .u16 l1, .int .u16 l2, .int .u16 l3, .int .u16 l4] 37)) #[.int .u16 x, .int .u16 y, .int .u16 z] 38).below hb1 (by simp)
  simp only [World.size_alloc] at q1
  obtain ⟨c0, c1, c2, c3, c4⟩ := blk5 j1
  have t1 := (((Below.refl w.heap.size w).alloc (Nat.le_refl _) (.cells #[.int .u16 l0, .int .u16 l1, .int .u16 l2, .int .u16 l3, .int .u16 l4] 37)).alloc (by simp) (.cells #[.int .u16 x, .int .u16 y, .int .u16 z] 38)).trans (hb1.mono (by simp; omega))
  go_wp2_with fail
  refine (times_any _ _ _ _ _ _).mono ?_; rintro e w2 ⟨rfl, hb2⟩
  have i2 := Blk.new w2 #[.int .i64 l0, .int .i64 (l0 + l1), .int .i64 (l0 + l1 + l2), .int .i64 (l0 + l1 + l2 + l3), .int .i64 l4] 25
  have q2 := (q1.below hb2 q1.lt).alloc (.cells #[.int .i64 l0, .int .i64 (l0 + l1), .int .i64 (l0 + l1 + l2), .int .i64 (l0 + l1 + l2 + l3), .int .i64 l4] 25)
  obtain ⟨d0, d1, d2, d3, d4⟩ := blk5 i2
  have m0 := q2.cell 0 _ rfl
  have m1 := q2.cell 1 _ rfl
  have m2 := q2.cell 2 _ rfl
  have t2 := t1.trans (hb2.mono t1.size)
  have t3 := t2.alloc t2.size (.cells #[.int .i64 l0, .int .i64 (l0 + l1), .int .i64 (l0 + l1 + l2), .int .i64 (l0 + l1 + l2 + l3), .int .i64 l4] 25)
  clear c0 c1 c2 c3 c4
  go_wp2_with fail
  rw [HSs.out]
  go_quiet (fail)
  go_wp2_with fail
  refine (HU.out _).mono ?_; rintro e w3 ⟨rfl, hb3⟩
  have hb3' : Below (w2.alloc (.cells #[.int .i64 l0, .int .i64 (l0 + l1), .int .i64 (l0 + l1 + l2), .int .i64 (l0 + l1 + l2 + l3), .int .i64 l4] 25)).heap.size (w2.alloc (.cells #[.int .i64 l0, .int .i64 (l0 + l1), .int .i64 (l0 + l1 + l2), .int .i64 (l0 + l1 + l2 + l3), .int .i64 l4] 25)) w3 := ⟨hb3.os, hb3.tape, hb3.output, hb3.size, hb3.block⟩
  clear hb3 d0 d1 d2 d3 d4 m0 m1 m2
  have i3 := (i2.below hb3' i2.lt).alloc (.cells #[.int .i64 (l0 + x), .int .i64 (l0 + l1 + x), .int .i64 (l0 + l1 + l2 + x), .int .i64 (l0 + l1 + l2 + l3 + x), .int .i64 l4] 25)
  have u3 := Blk.new w3 #[.int .i64 (l0 + x), .int .i64 (l0 + l1 + x), .int .i64 (l0 + l1 + l2 + x), .int .i64 (l0 + l1 + l2 + l3 + x), .int .i64 l4] 25
  have t4 := t3.trans (hb3'.mono t3.size)
  have t5 := t4.alloc t4.size (.cells #[.int .i64 (l0 + x), .int .i64 (l0 + l1 + x), .int .i64 (l0 + l1 + l2 + x), .int .i64 (l0 + l1 + l2 + l3 + x), .int .i64 l4] 25)
  obtain ⟨d0, d1, d2, d3, d4⟩ := blk5 u3
  go_wp2_with fail
  refine (HV.out _).mono ?_; rintro e w4 ⟨rfl, hb4⟩
  clear d0 d1 d2 d3 d4
  have i4 := (i3.below hb4 i3.lt).alloc (.cells #[.int .i64 (l0 + x + y), .int .i64 (l0 + l1 + x + y), .int .i64 (l0 + l1 + l2 + x + y), .int .i64 (l0 + l1 + l2 + l3 + x + y), .int .i64 l4] 25)
  have u4 := (u3.below hb4 u3.lt).alloc (.cells #[.int .i64 (l0 + x + y), .int .i64 (l0 + l1 + x + y), .int .i64 (l0 + l1 + l2 + x + y), .int .i64 (l0 + l1 + l2 + l3 + x + y), .int .i64 l4] 25)
  have v4 := Blk.new w4 #[.int .i64 (l0 + x + y), .int .i64 (l0 + l1 + x + y), .int .i64 (l0 + l1 + l2 + x + y), .int .i64 (l0 + l1 + l2 + l3 + x + y), .int .i64 l4] 25
  have t6 := t5.trans (hb4.mono t5.size)
  have t7 := t6.alloc t6.size (.cells #[.int .i64 (l0 + x + y), .int .i64 (l0 + l1 + x + y), .int .i64 (l0 + l1 + l2 + x + y), .int .i64 (l0 + l1 + l2 + l3 + x + y), .int .i64 l4] 25)
  obtain ⟨d0, d1, d2, d3, d4⟩ := blk5 v4
  obtain ⟨e0, e1, e2, e3, e4⟩ := blk5 i4
  obtain ⟨k0, k1, k2, k3, k4⟩ := blk5 u4
  go_wp2_with fail
  generalize (w4.alloc (.cells #[.int .i64 (l0 + x + y), .int .i64 (l0 + l1 + x + y), .int .i64 (l0 + l1 + l2 + x + y), .int .i64 (l0 + l1 + l2 + l3 + x + y), .int .i64 l4] 25)) = w5 at *
  have f0 := After.cell d0
  have f1 := After.cell d1
  have f2 := After.cell d2
  have f3 := After.cell d3
  have f4 := After.cell d4
  have h0 := After.cell e0
  have h1 := After.cell e1
  have h2 := After.cell e2
  have h3 := After.cell e3
  have h4 := After.cell e4
  have n0 := After.cell k0
  have n1 := After.cell k1
  have n2 := After.cell k2
  have n3 := After.cell k3
  have n4 := After.cell k4
  clear d0 d1 d2 d3 d4 e0 e1 e2 e3 e4 k0 k1 k2 k3 k4
  refine wp_region_after (by kernel_rfl) (by kernel_rfl) ?_
  repeat (go_big_quiet_step (first | (with_reducible exact After.call (HZ.out _)) | (with_reducible exact After.call (HA.out _)) | (with_reducible exact After.call (HB.out _))))
  refine wpQuiet_nil ?_
  rintro w6 ⟨x6, rfl⟩
  go_wp2_with fail
  go_ret
  exact ⟨rfl, t7.trans (x6.hb.mono t7.size)⟩
set_option maxRecDepth 100000 in
set_option maxHeartbeats 2000000 in
theorem walk2 (l0 l1 l2 l3 l4 s x y z f : Int) (b0 : 0 ≤ l0 ∧ l0 ≤ 65535) (b1 : 0 ≤ l1 ∧ l1 ≤ 65535) (b2 : 0 ≤ l2 ∧ l2 ≤ 65535) (b3 : 0 ≤ l3 ∧ l3 ≤ 65535) (b4 : 0 ≤ l4 ∧ l4 ≤ 65535) (b5 : 0 ≤ x ∧ x ≤ 65535) (b6 : 0 ≤ y ∧ y ≤ 65535) (b7 : 0 ≤ z ∧ z ≤ 65535) (b8 : 0 ≤ f ∧ f ≤ 255) (hs : f % 7 = s) (h2 : s = 2) (w : World) :
    Calls Try.prog 9 #[.agg #[.int .u16 l0, .int .u16 l1, .int .u16 l2, .int .u16 l3, .int .u16 l4], .int .u8 f, .agg #[.int .u16 x, .int .u16 y, .int .u16 z]] w fun e w' => e = .returned (.bool true) ∧ Below w.heap.size w w' := by
  have ok : ∀ n : Int, 0 ≤ n ∧ n ≤ 1000000000 → okN n := fun n h => h
  have HU : Hid (∀ w : World, Calls Try.prog 19 #[T5 l0 (l0 + l1) (l0 + l1 + l2) (l0 + l1 + l2 + l3) l4, .int .i64 s, .int .i64 x] w fun e w' => e = .returned (T5 l0 (l0 + l1 + x) (l0 + l1 + l2 + x) (l0 + l1 + l2 + l3 + x) l4) ∧ Below w.heap.size w w') := fun w =>
    Shift_small _ _ _ _ _ _ _ _ _ _ _ (ok _ (by omega)) (ok _ (by omega)) (ok _ (by omega)) (ok _ (by omega)) (ok _ (by omega)) (by omega) (by omega) (by omega) (by omega) (by split <;> omega) (by split <;> omega) (by split <;> omega) (by split <;> omega) w
  have HV : Hid (∀ w : World, Calls Try.prog 19 #[T5 l0 (l0 + l1 + x) (l0 + l1 + l2 + x) (l0 + l1 + l2 + l3 + x) l4, .int .i64 s, .int .i64 y] w fun e w' => e = .returned (T5 l0 (l0 + l1 + x + y) (l0 + l1 + l2 + x + y) (l0 + l1 + l2 + l3 + x + y) l4) ∧ Below w.heap.size w w') := fun w =>
    Shift_small _ _ _ _ _ _ _ _ _ _ _ (ok _ (by omega)) (ok _ (by omega)) (ok _ (by omega)) (ok _ (by omega)) (ok _ (by omega)) (by omega) (by omega) (by omega) (by omega) (by split <;> omega) (by split <;> omega) (by split <;> omega) (by split <;> omega) w
  have HZ : Hid (∀ w : World, Calls Try.prog 19 #[T5 l0 (l0 + l1) (l0 + l1 + l2) (l0 + l1 + l2 + l3) l4, .int .i64 s, .int .i64 (x + y)] w fun e w' => e = .returned (T5 l0 (l0 + l1 + x + y) (l0 + l1 + l2 + x + y) (l0 + l1 + l2 + l3 + x + y) l4) ∧ Below w.heap.size w w') := fun w =>
    Shift_small _ _ _ _ _ _ _ _ _ _ _ (ok _ (by omega)) (ok _ (by omega)) (ok _ (by omega)) (ok _ (by omega)) (ok _ (by omega)) (by omega) (by omega) (by omega) (by omega) (by split <;> omega) (by split <;> omega) (by split <;> omega) (by split <;> omega) w
  have HA : Hid (∀ w : World, Calls Try.prog 15 #[T5 l0 (l0 + l1 + x) (l0 + l1 + l2 + x) (l0 + l1 + l2 + l3 + x) l4, .int .i64 (z * 4)] w fun e w' => e = .returned (.int .i64 (findR l0 (l0 + l1 + x) (l0 + l1 + l2 + x) (l0 + l1 + l2 + l3 + x) l4 (z * 4)).1) ∧ Below w.heap.size w w') := fun w => Stage_any _ _ _ _ _ _ (by constructor <;> omega) (by constructor <;> omega) w
  have HB : Hid (∀ w : World, Calls Try.prog 15 #[T5 l0 (l0 + l1) (l0 + l1 + l2) (l0 + l1 + l2 + l3) l4, .int .i64 (z * 4)] w fun e w' => e = .returned (.int .i64 (findR l0 (l0 + l1) (l0 + l1 + l2) (l0 + l1 + l2 + l3) l4 (z * 4)).1) ∧ Below w.heap.size w w') := fun w => Stage_any _ _ _ _ _ _ (by constructor <;> omega) (by constructor <;> omega) w
  have hle : (findR l0 (l0 + l1 + x) (l0 + l1 + l2 + x) (l0 + l1 + l2 + l3 + x) l4 (z * 4)).1 ≤ (findR l0 (l0 + l1) (l0 + l1 + l2) (l0 + l1 + l2 + l3) l4 (z * 4)).1 := stage_le (by omega) (by omega) (by omega) (by omega) (by omega) (by omega) (by omega) (by omega)
  generalize (findR l0 (l0 + l1 + x) (l0 + l1 + l2 + x) (l0 + l1 + l2 + l3 + x) l4 (z * 4)).1 = pA at *
  generalize (findR l0 (l0 + l1) (l0 + l1 + l2) (l0 + l1 + l2 + l3) l4 (z * 4)).1 = pB at *
  have hle' : decide (pA ≤ pB) = true := decide_eq_true hle
  clear hle ok
  have g0 : decide (1 < s) = true := by simp; omega
  have g1 : decide (2 < s) = false := by simp; omega
  have g2 : decide (3 < s) = false := by simp; omega
  have g3 : decide (4 < s) = false := by simp; omega
  have o0 : decide (l0 ≤ (l0 + l1 + x + y)) = true := by simp; omega
  have o1 : decide ((l0 + l1 + x + y) ≤ (l0 + l1 + l2 + x + y)) = true := by simp; omega
  have o2 : decide ((l0 + l1 + l2 + x + y) ≤ (l0 + l1 + l2 + l3 + x + y)) = true := by simp; omega
  have p1 : decide ((l0 + l1) ≤ (l0 + l1 + l2)) = true := by simp; omega
  have p2 : decide ((l0 + l1 + l2) ≤ (l0 + l1 + l2 + l3)) = true := by simp; omega
  have HSs := Lib.hid hs
  clear hs
  obtain ⟨a0, a0'⟩ := b0
  obtain ⟨a1, a1'⟩ := b1
  obtain ⟨a2, a2'⟩ := b2
  obtain ⟨a3, a3'⟩ := b3
  obtain ⟨a4, a4'⟩ := b4
  obtain ⟨a5, a5'⟩ := b5
  obtain ⟨a6, a6'⟩ := b6
  obtain ⟨a7, a7'⟩ := b7
  obtain ⟨a8, a8'⟩ := b8
  clear h2
  go_enter Try.func9, Try.ntmps9
  go_wp2_with fail
  refine (sanity_any _).mono ?_; rintro e w1 ⟨rfl, hb1⟩
  have j1 := ((Blk.new w #[.int .u16 l0, .int .u16 l1, .int .u16 l2, .int .u16 l3, .int .u16 l4] 37).alloc (.cells #[.int .u16 x, .int .u16 y, .int .u16 z] 38)).below hb1 (by simp; omega)
  have q1 := (Blk.new (w.alloc (.cells #[.int .u16 l0, .int .u16 l1, .int .u16 l2, .int .u16 l3, .int .u16 l4] 37)) #[.int .u16 x, .int .u16 y, .int .u16 z] 38).below hb1 (by simp)
  simp only [World.size_alloc] at q1
  obtain ⟨c0, c1, c2, c3, c4⟩ := blk5 j1
  have t1 := (((Below.refl w.heap.size w).alloc (Nat.le_refl _) (.cells #[.int .u16 l0, .int .u16 l1, .int .u16 l2, .int .u16 l3, .int .u16 l4] 37)).alloc (by simp) (.cells #[.int .u16 x, .int .u16 y, .int .u16 z] 38)).trans (hb1.mono (by simp; omega))
  go_wp2_with fail
  refine (times_any _ _ _ _ _ _).mono ?_; rintro e w2 ⟨rfl, hb2⟩
  have i2 := Blk.new w2 #[.int .i64 l0, .int .i64 (l0 + l1), .int .i64 (l0 + l1 + l2), .int .i64 (l0 + l1 + l2 + l3), .int .i64 l4] 25
  have q2 := (q1.below hb2 q1.lt).alloc (.cells #[.int .i64 l0, .int .i64 (l0 + l1), .int .i64 (l0 + l1 + l2), .int .i64 (l0 + l1 + l2 + l3), .int .i64 l4] 25)
  obtain ⟨d0, d1, d2, d3, d4⟩ := blk5 i2
  have m0 := q2.cell 0 _ rfl
  have m1 := q2.cell 1 _ rfl
  have m2 := q2.cell 2 _ rfl
  have t2 := t1.trans (hb2.mono t1.size)
  have t3 := t2.alloc t2.size (.cells #[.int .i64 l0, .int .i64 (l0 + l1), .int .i64 (l0 + l1 + l2), .int .i64 (l0 + l1 + l2 + l3), .int .i64 l4] 25)
  clear c0 c1 c2 c3 c4
  go_wp2_with fail
  rw [HSs.out]
  go_quiet (fail)
  go_wp2_with fail
  refine (HU.out _).mono ?_; rintro e w3 ⟨rfl, hb3⟩
  have hb3' : Below (w2.alloc (.cells #[.int .i64 l0, .int .i64 (l0 + l1), .int .i64 (l0 + l1 + l2), .int .i64 (l0 + l1 + l2 + l3), .int .i64 l4] 25)).heap.size (w2.alloc (.cells #[.int .i64 l0, .int .i64 (l0 + l1), .int .i64 (l0 + l1 + l2), .int .i64 (l0 + l1 + l2 + l3), .int .i64 l4] 25)) w3 := ⟨hb3.os, hb3.tape, hb3.output, hb3.size, hb3.block⟩
  clear hb3 d0 d1 d2 d3 d4 m0 m1 m2
  have i3 := (i2.below hb3' i2.lt).alloc (.cells #[.int .i64 l0, .int .i64 (l0 + l1 + x), .int .i64 (l0 + l1 + l2 + x), .int .i64 (l0 + l1 + l2 + l3 + x), .int .i64 l4] 25)
  have u3 := Blk.new w3 #[.int .i64 l0, .int .i64 (l0 + l1 + x), .int .i64 (l0 + l1 + l2 + x), .int .i64 (l0 + l1 + l2 + l3 + x), .int .i64 l4] 25
  have t4 := t3.trans (hb3'.mono t3.size)
  have t5 := t4.alloc t4.size (.cells #[.int .i64 l0, .int .i64 (l0 + l1 + x), .int .i64 (l0 + l1 + l2 + x), .int .i64 (l0 + l1 + l2 + l3 + x), .int .i64 l4] 25)
  obtain ⟨d0, d1, d2, d3, d4⟩ := blk5 u3
  go_wp2_with fail
  refine (HV.out _).mono ?_; rintro e w4 ⟨rfl, hb4⟩
  clear d0 d1 d2 d3 d4
  have i4 := (i3.below hb4 i3.lt).alloc (.cells #[.int .i64 l0, .int .i64 (l0 + l1 + x + y), .int .i64 (l0 + l1 + l2 + x + y), .int .i64 (l0 + l1 + l2 + l3 + x + y), .int .i64 l4] 25)
  have u4 := (u3.below hb4 u3.lt).alloc (.cells #[.int .i64 l0, .int .i64 (l0 + l1 + x + y), .int .i64 (l0 + l1 + l2 + x + y), .int .i64 (l0 + l1 + l2 + l3 + x + y), .int .i64 l4] 25)
  have v4 := Blk.new w4 #[.int .i64 l0, .int .i64 (l0 + l1 + x + y), .int .i64 (l0 + l1 + l2 + x + y), .int .i64 (l0 + l1 + l2 + l3 + x + y), .int .i64 l4] 25
  have t6 := t5.trans (hb4.mono t5.size)
  have t7 := t6.alloc t6.size (.cells #[.int .i64 l0, .int .i64 (l0 + l1 + x + y), .int .i64 (l0 + l1 + l2 + x + y), .int .i64 (l0 + l1 + l2 + l3 + x + y), .int .i64 l4] 25)
  obtain ⟨d0, d1, d2, d3, d4⟩ := blk5 v4
  obtain ⟨e0, e1, e2, e3, e4⟩ := blk5 i4
  obtain ⟨k0, k1, k2, k3, k4⟩ := blk5 u4
  go_wp2_with fail
  generalize (w4.alloc (.cells #[.int .i64 l0, .int .i64 (l0 + l1 + x + y), .int .i64 (l0 + l1 + l2 + x + y), .int .i64 (l0 + l1 + l2 + l3 + x + y), .int .i64 l4] 25)) = w5 at *
  have f0 := After.cell d0
  have f1 := After.cell d1
  have f2 := After.cell d2
  have f3 := After.cell d3
  have f4 := After.cell d4
  have h0 := After.cell e0
  have h1 := After.cell e1
  have h2 := After.cell e2
  have h3 := After.cell e3
  have h4 := After.cell e4
  have n0 := After.cell k0
  have n1 := After.cell k1
  have n2 := After.cell k2
  have n3 := After.cell k3
  have n4 := After.cell k4
  clear d0 d1 d2 d3 d4 e0 e1 e2 e3 e4 k0 k1 k2 k3 k4
  refine wp_region_after (by kernel_rfl) (by kernel_rfl) ?_
  repeat (go_big_quiet_step (first | (with_reducible exact After.call (HZ.out _)) | (with_reducible exact After.call (HA.out _)) | (with_reducible exact After.call (HB.out _))))
  refine wpQuiet_nil ?_
  rintro w6 ⟨x6, rfl⟩
  go_wp2_with fail
  go_ret
  exact ⟨rfl, t7.trans (x6.hb.mono t7.size)⟩
set_option maxRecDepth 100000 in
set_option maxHeartbeats 2000000 in
theorem walk3 (l0 l1 l2 l3 l4 s x y z f : Int) (b0 : 0 ≤ l0 ∧ l0 ≤ 65535) (b1 : 0 ≤ l1 ∧ l1 ≤ 65535) (b2 : 0 ≤ l2 ∧ l2 ≤ 65535) (b3 : 0 ≤ l3 ∧ l3 ≤ 65535) (b4 : 0 ≤ l4 ∧ l4 ≤ 65535) (b5 : 0 ≤ x ∧ x ≤ 65535) (b6 : 0 ≤ y ∧ y ≤ 65535) (b7 : 0 ≤ z ∧ z ≤ 65535) (b8 : 0 ≤ f ∧ f ≤ 255) (hs : f % 7 = s) (h2 : s = 3) (w : World) :
    Calls Try.prog 9 #[.agg #[.int .u16 l0, .int .u16 l1, .int .u16 l2, .int .u16 l3, .int .u16 l4], .int .u8 f, .agg #[.int .u16 x, .int .u16 y, .int .u16 z]] w fun e w' => e = .returned (.bool true) ∧ Below w.heap.size w w' := by
  have ok : ∀ n : Int, 0 ≤ n ∧ n ≤ 1000000000 → okN n := fun n h => h
  have HU : Hid (∀ w : World, Calls Try.prog 19 #[T5 l0 (l0 + l1) (l0 + l1 + l2) (l0 + l1 + l2 + l3) l4, .int .i64 s, .int .i64 x] w fun e w' => e = .returned (T5 l0 (l0 + l1) (l0 + l1 + l2 + x) (l0 + l1 + l2 + l3 + x) l4) ∧ Below w.heap.size w w') := fun w =>
    Shift_small _ _ _ _ _ _ _ _ _ _ _ (ok _ (by omega)) (ok _ (by omega)) (ok _ (by omega)) (ok _ (by omega)) (ok _ (by omega)) (by omega) (by omega) (by omega) (by omega) (by split <;> omega) (by split <;> omega) (by split <;> omega) (by split <;> omega) w
  have HV : Hid (∀ w : World, Calls Try.prog 19 #[T5 l0 (l0 + l1) (l0 + l1 + l2 + x) (l0 + l1 + l2 + l3 + x) l4, .int .i64 s, .int .i64 y] w fun e w' => e = .returned (T5 l0 (l0 + l1) (l0 + l1 + l2 + x + y) (l0 + l1 + l2 + l3 + x + y) l4) ∧ Below w.heap.size w w') := fun w =>
    Shift_small _ _ _ _ _ _ _ _ _ _ _ (ok _ (by omega)) (ok _ (by omega)) (ok _ (by omega)) (ok _ (by omega)) (ok _ (by omega)) (by omega) (by omega) (by omega) (by omega) (by split <;> omega) (by split <;> omega) (by split <;> omega) (by split <;> omega) w
  have HZ : Hid (∀ w : World, Calls Try.prog 19 #[T5 l0 (l0 + l1) (l0 + l1 + l2) (l0 + l1 + l2 + l3) l4, .int .i64 s, .int .i64 (x + y)] w fun e w' => e = .returned (T5 l0 (l0 + l1) (l0 + l1 + l2 + x + y) (l0 + l1 + l2 + l3 + x + y) l4) ∧ Below w.heap.size w w') := fun w =>
    Shift_small _ _ _ _ _ _ _ _ _ _ _ (ok _ (by omega)) (ok _ (by omega)) (ok _ (by omega)) (ok _ (by omega)) (ok _ (by omega)) (by omega) (by omega) (by omega) (by omega) (by split <;> omega) (by split <;> omega) (by split <;> omega) (by split <;> omega) w
  have HA : Hid (∀ w : World, Calls Try.prog 15 #[T5 l0 (l0 + l1) (l0 + l1 + l2 + x) (l0 + l1 + l2 + l3 + x) l4, .int .i64 (z * 4)] w fun e w' => e = .returned (.int .i64 (findR l0 (l0 + l1) (l0 + l1 + l2 + x) (l0 + l1 + l2 + l3 + x) l4 (z * 4)).1) ∧ Below w.heap.size w w') := fun w => Stage_any _ _ _ _ _ _ (by constructor <;> omega) (by constructor <;> omega) w
  have HB : Hid (∀ w : World, Calls Try.prog 15 #[T5 l0 (l0 + l1) (l0 + l1 + l2) (l0 + l1 + l2 + l3) l4, .int .i64 (z * 4)] w fun e w' => e = .returned (.int .i64 (findR l0 (l0 + l1) (l0 + l1 + l2) (l0 + l1 + l2 + l3) l4 (z * 4)).1) ∧ Below w.heap.size w w') := fun w => Stage_any _ _ _ _ _ _ (by constructor <;> omega) (by constructor <;> omega) w
  have hle : (findR l0 (l0 + l1) (l0 + l1 + l2 + x) (l0 + l1 + l2 + l3 + x) l4 (z * 4)).1 ≤ (findR l0 (l0 + l1) (l0 + l1 + l2) (l0 + l1 + l2 + l3) l4 (z * 4)).1 := stage_le (by omega) (by omega) (by omega) (by omega) (by omega) (by omega) (by omega) (by omega)
  generalize (findR l0 (l0 + l1) (l0 + l1 + l2 + x) (l0 + l1 + l2 + l3 + x) l4 (z * 4)).1 = pA at *
  generalize (findR l0 (l0 + l1) (l0 + l1 + l2) (l0 + l1 + l2 + l3) l4 (z * 4)).1 = pB at *
  have hle' : decide (pA ≤ pB) = true := decide_eq_true hle
  clear hle ok
  have g0 : decide (1 < s) = true := by simp; omega
  have g1 : decide (2 < s) = true := by simp; omega
  have g2 : decide (3 < s) = false := by simp; omega
  have g3 : decide (4 < s) = false := by simp; omega
  have o0 : decide (l0 ≤ (l0 + l1)) = true := by simp; omega
  have o1 : decide ((l0 + l1) ≤ (l0 + l1 + l2 + x + y)) = true := by simp; omega
  have o2 : decide ((l0 + l1 + l2 + x + y) ≤ (l0 + l1 + l2 + l3 + x + y)) = true := by simp; omega
  have p2 : decide ((l0 + l1 + l2) ≤ (l0 + l1 + l2 + l3)) = true := by simp; omega
  have HSs := Lib.hid hs
  clear hs
  obtain ⟨a0, a0'⟩ := b0
  obtain ⟨a1, a1'⟩ := b1
  obtain ⟨a2, a2'⟩ := b2
  obtain ⟨a3, a3'⟩ := b3
  obtain ⟨a4, a4'⟩ := b4
  obtain ⟨a5, a5'⟩ := b5
  obtain ⟨a6, a6'⟩ := b6
  obtain ⟨a7, a7'⟩ := b7
  obtain ⟨a8, a8'⟩ := b8
  clear h2
  go_enter Try.func9, Try.ntmps9
  go_wp2_with fail
  refine (sanity_any _).mono ?_; rintro e w1 ⟨rfl, hb1⟩
  have j1 := ((Blk.new w #[.int .u16 l0, .int .u16 l1, .int .u16 l2, .int .u16 l3, .int .u16 l4] 37).alloc (.cells #[.int .u16 x, .int .u16 y, .int .u16 z] 38)).below hb1 (by simp; omega)
  have q1 := (Blk.new (w.alloc (.cells #[.int .u16 l0, .int .u16 l1, .int .u16 l2, .int .u16 l3, .int .u16 l4] 37)) #[.int .u16 x, .int .u16 y, .int .u16 z] 38).below hb1 (by simp)
  simp only [World.size_alloc] at q1
  obtain ⟨c0, c1, c2, c3, c4⟩ := blk5 j1
  have t1 := (((Below.refl w.heap.size w).alloc (Nat.le_refl _) (.cells #[.int .u16 l0, .int .u16 l1, .int .u16 l2, .int .u16 l3, .int .u16 l4] 37)).alloc (by simp) (.cells #[.int .u16 x, .int .u16 y, .int .u16 z] 38)).trans (hb1.mono (by simp; omega))
  go_wp2_with fail
  refine (times_any _ _ _ _ _ _).mono ?_; rintro e w2 ⟨rfl, hb2⟩
  have i2 := Blk.new w2 #[.int .i64 l0, .int .i64 (l0 + l1), .int .i64 (l0 + l1 + l2), .int .i64 (l0 + l1 + l2 + l3), .int .i64 l4] 25
  have q2 := (q1.below hb2 q1.lt).alloc (.cells #[.int .i64 l0, .int .i64 (l0 + l1), .int .i64 (l0 + l1 + l2), .int .i64 (l0 + l1 + l2 + l3), .int .i64 l4] 25)
  obtain ⟨d0, d1, d2, d3, d4⟩ := blk5 i2
  have m0 := q2.cell 0 _ rfl
  have m1 := q2.cell 1 _ rfl
  have m2 := q2.cell 2 _ rfl
  have t2 := t1.trans (hb2.mono t1.size)
  have t3 := t2.alloc t2.size (.cells #[.int .i64 l0, .int .i64 (l0 + l1), .int .i64 (l0 + l1 + l2), .int .i64 (l0 + l1 + l2 + l3), .int .i64 l4] 25)
  clear c0 c1 c2 c3 c4
  go_wp2_with fail
  rw [HSs.out]
  go_quiet (fail)
  go_wp2_with fail
  refine (HU.out _).mono ?_; rintro e w3 ⟨rfl, hb3⟩
  have hb3' : Below (w2.alloc (.cells #[.int .i64 l0, .int .i64 (l0 + l1), .int .i64 (l0 + l1 + l2), .int .i64 (l0 + l1 + l2 + l3), .int .i64 l4] 25)).heap.size (w2.alloc (.cells #[.int .i64 l0, .int .i64 (l0 + l1), .int .i64 (l0 + l1 + l2), .int .i64 (l0 + l1 + l2 + l3), .int .i64 l4] 25)) w3 := ⟨hb3.os, hb3.tape, hb3.output, hb3.size, hb3.block⟩
  clear hb3 d0 d1 d2 d3 d4 m0 m1 m2
  have i3 := (i2.below hb3' i2.lt).alloc (.cells #[.int .i64 l0, .int .i64 (l0 + l1), .int .i64 (l0 + l1 + l2 + x), .int .i64 (l0 + l1 + l2 + l3 + x), .int .i64 l4] 25)
  have u3 := Blk.new w3 #[.int .i64 l0, .int .i64 (l0 + l1), .int .i64 (l0 + l1 + l2 + x), .int .i64 (l0 + l1 + l2 + l3 + x), .int .i64 l4] 25
  have t4 := t3.trans (hb3'.mono t3.size)
  have t5 := t4.alloc t4.size (.cells #[.int .i64 l0, .int .i64 (l0 + l1), .int .i64 (l0 + l1 + l2 + x), .int .i64 (l0 + l1 + l2 + l3 + x), .int .i64 l4] 25)
  obtain ⟨d0, d1, d2, d3, d4⟩ := blk5 u3
  go_wp2_with fail
  refine (HV.out _).mono ?_; rintro e w4 ⟨rfl, hb4⟩
  clear d0 d1 d2 d3 d4
  have i4 := (i3.below hb4 i3.lt).alloc (.cells #[.int .i64 l0, .int .i64 (l0 + l1), .int .i64 (l0 + l1 + l2 + x + y), .int .i64 (l0 + l1 + l2 + l3 + x + y), .int .i64 l4] 25)
  have u4 := (u3.below hb4 u3.lt).alloc (.cells #[.int .i64 l0, .int .i64 (l0 + l1), .int .i64 (l0 + l1 + l2 + x + y), .int .i64 (l0 + l1 + l2 + l3 + x + y), .int .i64 l4] 25)
  have v4 := Blk.new w4 #[.int .i64 l0, .int .i64 (l0 + l1), .int .i64 (l0 + l1 + l2 + x + y), .int .i64 (l0 + l1 + l2 + l3 + x + y), .int .i64 l4] 25
  have t6 := t5.trans (hb4.mono t5.size)
  have t7 := t6.alloc t6.size (.cells #[.int .i64 l0, .int .i64 (l0 + l1), .int .i64 (l0 + l1 + l2 + x + y), .int .i64 (l0 + l1 + l2 + l3 + x + y), .int .i64 l4] 25)
  obtain ⟨d0, d1, d2, d3, d4⟩ := blk5 v4
  obtain ⟨e0, e1, e2, e3, e4⟩ := blk5 i4
  obtain ⟨k0, k1, k2, k3, k4⟩ := blk5 u4
  go_wp2_with fail
  generalize (w4.alloc (.cells #[.int .i64 l0, .int .i64 (l0 + l1), .int .i64 (l0 + l1 + l2 + x + y), .int .i64 (l0 + l1 + l2 + l3 + x + y), .int .i64 l4] 25)) = w5 at *
  have f0 := After.cell d0
  have f1 := After.cell d1
  have f2 := After.cell d2
  have f3 := After.cell d3
  have f4 := After.cell d4
  have h0 := After.cell e0
  have h1 := After.cell e1
  have h2 := After.cell e2
  have h3 := After.cell e3
  have h4 := After.cell e4
  have n0 := After.cell k0
  have n1 := After.cell k1
  have n2 := After.cell k2
  have n3 := After.cell k3
  have n4 := After.cell k4
  clear d0 d1 d2 d3 d4 e0 e1 e2 e3 e4 k0 k1 k2 k3 k4
  refine wp_region_after (by kernel_rfl) (by kernel_rfl) ?_
  repeat (go_big_quiet_step (first | (with_reducible exact After.call (HZ.out _)) | (with_reducible exact After.call (HA.out _)) | (with_reducible exact After.call (HB.out _))))
  refine wpQuiet_nil ?_
  rintro w6 ⟨x6, rfl⟩
  go_wp2_with fail
  go_ret
  exact ⟨rfl, t7.trans (x6.hb.mono t7.size)⟩
set_option maxRecDepth 100000 in
set_option maxHeartbeats 2000000 in
theorem walk4 (l0 l1 l2 l3 l4 s x y z f : Int) (b0 : 0 ≤ l0 ∧ l0 ≤ 65535) (b1 : 0 ≤ l1 ∧ l1 ≤ 65535) (b2 : 0 ≤ l2 ∧ l2 ≤ 65535) (b3 : 0 ≤ l3 ∧ l3 ≤ 65535) (b4 : 0 ≤ l4 ∧ l4 ≤ 65535) (b5 : 0 ≤ x ∧ x ≤ 65535) (b6 : 0 ≤ y ∧ y ≤ 65535) (b7 : 0 ≤ z ∧ z ≤ 65535) (b8 : 0 ≤ f ∧ f ≤ 255) (hs : f % 7 = s) (h2 : s = 4) (w : World) :
    Calls Try.prog 9 #[.agg #[.int .u16 l0, .int .u16 l1, .int .u16 l2, .int .u16 l3, .int .u16 l4], .int .u8 f, .agg #[.int .u16 x, .int .u16 y, .int .u16 z]] w fun e w' => e = .returned (.bool true) ∧ Below w.heap.size w w' := by
  have ok : ∀ n : Int, 0 ≤ n ∧ n ≤ 1000000000 → okN n := fun n h => h
  have HU : Hid (∀ w : World, Calls Try.prog 19 #[T5 l0 (l0 + l1) (l0 + l1 + l2) (l0 + l1 + l2 + l3) l4, .int .i64 s, .int .i64 x] w fun e w' => e = .returned (T5 l0 (l0 + l1) (l0 + l1 + l2) (l0 + l1 + l2 + l3 + x) l4) ∧ Below w.heap.size w w') := fun w =>
    Shift_small _ _ _ _ _ _ _ _ _ _ _ (ok _ (by omega)) (ok _ (by omega)) (ok _ (by omega)) (ok _ (by omega)) (ok _ (by omega)) (by omega) (by omega) (by omega) (by omega) (by split <;> omega) (by split <;> omega) (by split <;> omega) (by split <;> omega) w
  have HV : Hid (∀ w : World, Calls Try.prog 19 #[T5 l0 (l0 + l1) (l0 + l1 + l2) (l0 + l1 + l2 + l3 + x) l4, .int .i64 s, .int .i64 y] w fun e w' => e = .returned (T5 l0 (l0 + l1) (l0 + l1 + l2) (l0 + l1 + l2 + l3 + x + y) l4) ∧ Below w.heap.size w w') := fun w =>
    Shift_small _ _ _ _ _ _ _ _ _ _ _ (ok _ (by omega)) (ok _ (by omega)) (ok _ (by omega)) (ok _ (by omega)) (ok _ (by omega)) (by omega) (by omega) (by omega) (by omega) (by split <;> omega) (by split <;> omega) (by split <;> omega) (by split <;> omega) w
  have HZ : Hid (∀ w : World, Calls Try.prog 19 #[T5 l0 (l0 + l1) (l0 + l1 + l2) (l0 + l1 + l2 + l3) l4, .int .i64 s, .int .i64 (x + y)] w fun e w' => e = .returned (T5 l0 (l0 + l1) (l0 + l1 + l2) (l0 + l1 + l2 + l3 + x + y) l4) ∧ Below w.heap.size w w') := fun w =>
    Shift_small _ _ _ _ _ _ _ _ _ _ _ (ok _ (by omega)) (ok _ (by omega)) (ok _ (by omega)) (ok _ (by omega)) (ok _ (by omega)) (by omega) (by omega) (by omega) (by omega) (by split <;> omega) (by split <;> omega) (by split <;> omega) (by split <;> omega) w
  have HA : Hid (∀ w : World, Calls Try.prog 15 #[T5 l0 (l0 + l1) (l0 + l1 + l2) (l0 + l1 + l2 + l3 + x) l4, .int .i64 (z * 4)] w fun e w' => e = .returned (.int .i64 (findR l0 (l0 + l1) (l0 + l1 + l2) (l0 + l1 + l2 + l3 + x) l4 (z * 4)).1) ∧ Below w.heap.size w w') := fun w => Stage_any _ _ _ _ _ _ (by constructor <;> omega) (by constructor <;> omega) w
  have HB : Hid (∀ w : World, Calls Try.prog 15 #[T5 l0 (l0 + l1) (l0 + l1 + l2) (l0 + l1 + l2 + l3) l4, .int .i64 (z * 4)] w fun e w' => e = .returned (.int .i64 (findR l0 (l0 + l1) (l0 + l1 + l2) (l0 + l1 + l2 + l3) l4 (z * 4)).1) ∧ Below w.heap.size w w') := fun w => Stage_any _ _ _ _ _ _ (by constructor <;> omega) (by constructor <;> omega) w
  have hle : (findR l0 (l0 + l1) (l0 + l1 + l2) (l0 + l1 + l2 + l3 + x) l4 (z * 4)).1 ≤ (findR l0 (l0 + l1) (l0 + l1 + l2) (l0 + l1 + l2 + l3) l4 (z * 4)).1 := stage_le (by omega) (by omega) (by omega) (by omega) (by omega) (by omega) (by omega) (by omega)
  generalize (findR l0 (l0 + l1) (l0 + l1 + l2) (l0 + l1 + l2 + l3 + x) l4 (z * 4)).1 = pA at *
  generalize (findR l0 (l0 + l1) (l0 + l1 + l2) (l0 + l1 + l2 + l3) l4 (z * 4)).1 = pB at *
  have hle' : decide (pA ≤ pB) = true := decide_eq_true hle
  clear hle ok
  have g0 : decide (1 < s) = true := by simp; omega
  have g1 : decide (2 < s) = true := by simp; omega
  have g2 : decide (3 < s) = true := by simp; omega
  have g3 : decide (4 < s) = false := by simp; omega
  have o0 : decide (l0 ≤ (l0 + l1)) = true := by simp; omega
  have o1 : decide ((l0 + l1) ≤ (l0 + l1 + l2)) = true := by simp; omega
  have o2 : decide ((l0 + l1 + l2) ≤ (l0 + l1 + l2 + l3 + x + y)) = true := by simp; omega
  have HSs := Lib.hid hs
  clear hs
  obtain ⟨a0, a0'⟩ := b0
  obtain ⟨a1, a1'⟩ := b1
  obtain ⟨a2, a2'⟩ := b2
  obtain ⟨a3, a3'⟩ := b3
  obtain ⟨a4, a4'⟩ := b4
  obtain ⟨a5, a5'⟩ := b5
  obtain ⟨a6, a6'⟩ := b6
  obtain ⟨a7, a7'⟩ := b7
  obtain ⟨a8, a8'⟩ := b8
  clear h2
  go_enter Try.func9, Try.ntmps9
  go_wp2_with fail
  refine (sanity_any _).mono ?_; rintro e w1 ⟨rfl, hb1⟩
  have j1 := ((Blk.new w #[.int .u16 l0, .int .u16 l1, .int .u16 l2, .int .u16 l3, .int .u16 l4] 37).alloc (.cells #[.int .u16 x, .int .u16 y, .int .u16 z] 38)).below hb1 (by simp; omega)
  have q1 := (Blk.new (w.alloc (.cells #[.int .u16 l0, .int .u16 l1, .int .u16 l2, .int .u16 l3, .int .u16 l4] 37)) #[.int .u16 x, .int .u16 y, .int .u16 z] 38).below hb1 (by simp)
  simp only [World.size_alloc] at q1
  obtain ⟨c0, c1, c2, c3, c4⟩ := blk5 j1
  have t1 := (((Below.refl w.heap.size w).alloc (Nat.le_refl _) (.cells #[.int .u16 l0, .int .u16 l1, .int .u16 l2, .int .u16 l3, .int .u16 l4] 37)).alloc (by simp) (.cells #[.int .u16 x, .int .u16 y, .int .u16 z] 38)).trans (hb1.mono (by simp; omega))
  go_wp2_with fail
  refine (times_any _ _ _ _ _ _).mono ?_; rintro e w2 ⟨rfl, hb2⟩
  have i2 := Blk.new w2 #[.int .i64 l0, .int .i64 (l0 + l1), .int .i64 (l0 + l1 + l2), .int .i64 (l0 + l1 + l2 + l3), .int .i64 l4] 25
  have q2 := (q1.below hb2 q1.lt).alloc (.cells #[.int .i64 l0, .int .i64 (l0 + l1), .int .i64 (l0 + l1 + l2), .int .i64 (l0 + l1 + l2 + l3), .int .i64 l4] 25)
  obtain ⟨d0, d1, d2, d3, d4⟩ := blk5 i2
  have m0 := q2.cell 0 _ rfl
  have m1 := q2.cell 1 _ rfl
  have m2 := q2.cell 2 _ rfl
  have t2 := t1.trans (hb2.mono t1.size)
  have t3 := t2.alloc t2.size (.cells #[.int .i64 l0, .int .i64 (l0 + l1), .int .i64 (l0 + l1 + l2), .int .i64 (l0 + l1 + l2 + l3), .int .i64 l4] 25)
  clear c0 c1 c2 c3 c4
  go_wp2_with fail
  rw [HSs.out]
  go_quiet (fail)
  go_wp2_with fail
  refine (HU.out _).mono ?_; rintro e w3 ⟨rfl, hb3⟩
  have hb3' : Below (w2.alloc (.cells #[.int .i64 l0, .int .i64 (l0 + l1), .int .i64 (l0 + l1 + l2), .int .i64 (l0 + l1 + l2 + l3), .int .i64 l4] 25)).heap.size (w2.alloc (.cells #[.int .i64 l0, .int .i64 (l0 + l1), .int .i64 (l0 + l1 + l2), .int .i64 (l0 + l1 + l2 + l3), .int .i64 l4] 25)) w3 := ⟨hb3.os, hb3.tape, hb3.output, hb3.size, hb3.block⟩
  clear hb3 d0 d1 d2 d3 d4 m0 m1 m2
  have i3 := (i2.below hb3' i2.lt).alloc (.cells #[.int .i64 l0, .int .i64 (l0 + l1), .int .i64 (l0 + l1 + l2), .int .i64 (l0 + l1 + l2 + l3 + x), .int .i64 l4] 25)
  have u3 := Blk.new w3 #[.int .i64 l0, .int .i64 (l0 + l1), .int .i64 (l0 + l1 + l2), .int .i64 (l0 + l1 + l2 + l3 + x), .int .i64 l4] 25
  have t4 := t3.trans (hb3'.mono t3.size)
  have t5 := t4.alloc t4.size (.cells #[.int .i64 l0, .int .i64 (l0 + l1), .int .i64 (l0 + l1 + l2), .int .i64 (l0 + l1 + l2 + l3 + x), .int .i64 l4] 25)
  obtain ⟨d0, d1, d2, d3, d4⟩ := blk5 u3
  go_wp2_with fail
  refine (HV.out _).mono ?_; rintro e w4 ⟨rfl, hb4⟩
  clear d0 d1 d2 d3 d4
  have i4 := (i3.below hb4 i3.lt).alloc (.cells #[.int .i64 l0, .int .i64 (l0 + l1), .int .i64 (l0 + l1 + l2), .int .i64 (l0 + l1 + l2 + l3 + x + y), .int .i64 l4] 25)
  have u4 := (u3.below hb4 u3.lt).alloc (.cells #[.int .i64 l0, .int .i64 (l0 + l1), .int .i64 (l0 + l1 + l2), .int .i64 (l0 + l1 + l2 + l3 + x + y), .int .i64 l4] 25)
  have v4 := Blk.new w4 #[.int .i64 l0, .int .i64 (l0 + l1), .int .i64 (l0 + l1 + l2), .int .i64 (l0 + l1 + l2 + l3 + x + y), .int .i64 l4] 25
  have t6 := t5.trans (hb4.mono t5.size)
  have t7 := t6.alloc t6.size (.cells #[.int .i64 l0, .int .i64 (l0 + l1), .int .i64 (l0 + l1 + l2), .int .i64 (l0 + l1 + l2 + l3 + x + y), .int .i64 l4] 25)
  obtain ⟨d0, d1, d2, d3, d4⟩ := blk5 v4
  obtain ⟨e0, e1, e2, e3, e4⟩ := blk5 i4
  obtain ⟨k0, k1, k2, k3, k4⟩ := blk5 u4
  go_wp2_with fail
  generalize (w4.alloc (.cells #[.int .i64 l0, .int .i64 (l0 + l1), .int .i64 (l0 + l1 + l2), .int .i64 (l0 + l1 + l2 + l3 + x + y), .int .i64 l4] 25)) = w5 at *
  have f0 := After.cell d0
  have f1 := After.cell d1
  have f2 := After.cell d2
  have f3 := After.cell d3
  have f4 := After.cell d4
  have h0 := After.cell e0
  have h1 := After.cell e1
  have h2 := After.cell e2
  have h3 := After.cell e3
  have h4 := After.cell e4
  have n0 := After.cell k0
  have n1 := After.cell k1
  have n2 := After.cell k2
  have n3 := After.cell k3
  have n4 := After.cell k4
  clear d0 d1 d2 d3 d4 e0 e1 e2 e3 e4 k0 k1 k2 k3 k4
  refine wp_region_after (by kernel_rfl) (by kernel_rfl) ?_
  repeat (go_big_quiet_step (first | (with_reducible exact After.call (HZ.out _)) | (with_reducible exact After.call (HA.out _)) | (with_reducible exact After.call (HB.out _))))
  refine wpQuiet_nil ?_
  rintro w6 ⟨x6, rfl⟩
  go_wp2_with fail
  go_ret
  exact ⟨rfl, t7.trans (x6.hb.mono t7.size)⟩
set_option maxRecDepth 100000 in
set_option maxHeartbeats 2000000 in
theorem walk5 (l0 l1 l2 l3 l4 s x y z f : Int) (b0 : 0 ≤ l0 ∧ l0 ≤ 65535) (b1 : 0 ≤ l1 ∧ l1 ≤ 65535) (b2 : 0 ≤ l2 ∧ l2 ≤ 65535) (b3 : 0 ≤ l3 ∧ l3 ≤ 65535) (b4 : 0 ≤ l4 ∧ l4 ≤ 65535) (b5 : 0 ≤ x ∧ x ≤ 65535) (b6 : 0 ≤ y ∧ y ≤ 65535) (b7 : 0 ≤ z ∧ z ≤ 65535) (b8 : 0 ≤ f ∧ f ≤ 255) (hs : f % 7 = s) (h2 : 5 ≤ s) (w : World) :
    Calls Try.prog 9 #[.agg #[.int .u16 l0, .int .u16 l1, .int .u16 l2, .int .u16 l3, .int .u16 l4], .int .u8 f, .agg #[.int .u16 x, .int .u16 y, .int .u16 z]] w fun e w' => e = .returned (.bool true) ∧ Below w.heap.size w w' := by
  have ok : ∀ n : Int, 0 ≤ n ∧ n ≤ 1000000000 → okN n := fun n h => h
  have HU : Hid (∀ w : World, Calls Try.prog 19 #[T5 l0 (l0 + l1) (l0 + l1 + l2) (l0 + l1 + l2 + l3) l4, .int .i64 s, .int .i64 x] w fun e w' => e = .returned (T5 l0 (l0 + l1) (l0 + l1 + l2) (l0 + l1 + l2 + l3) l4) ∧ Below w.heap.size w w') := fun w =>
    Shift_small _ _ _ _ _ _ _ _ _ _ _ (ok _ (by omega)) (ok _ (by omega)) (ok _ (by omega)) (ok _ (by omega)) (ok _ (by omega)) (by omega) (by omega) (by omega) (by omega) (by split <;> omega) (by split <;> omega) (by split <;> omega) (by split <;> omega) w
  have HV : Hid (∀ w : World, Calls Try.prog 19 #[T5 l0 (l0 + l1) (l0 + l1 + l2) (l0 + l1 + l2 + l3) l4, .int .i64 s, .int .i64 y] w fun e w' => e = .returned (T5 l0 (l0 + l1) (l0 + l1 + l2) (l0 + l1 + l2 + l3) l4) ∧ Below w.heap.size w w') := fun w =>
    Shift_small _ _ _ _ _ _ _ _ _ _ _ (ok _ (by omega)) (ok _ (by omega)) (ok _ (by omega)) (ok _ (by omega)) (ok _ (by omega)) (by omega) (by omega) (by omega) (by omega) (by split <;> omega) (by split <;> omega) (by split <;> omega) (by split <;> omega) w
  have HZ : Hid (∀ w : World, Calls Try.prog 19 #[T5 l0 (l0 + l1) (l0 + l1 + l2) (l0 + l1 + l2 + l3) l4, .int .i64 s, .int .i64 (x + y)] w fun e w' => e = .returned (T5 l0 (l0 + l1) (l0 + l1 + l2) (l0 + l1 + l2 + l3) l4) ∧ Below w.heap.size w w') := fun w =>
    Shift_small _ _ _ _ _ _ _ _ _ _ _ (ok _ (by omega)) (ok _ (by omega)) (ok _ (by omega)) (ok _ (by omega)) (ok _ (by omega)) (by omega) (by omega) (by omega) (by omega) (by split <;> omega) (by split <;> omega) (by split <;> omega) (by split <;> omega) w
  have HA : Hid (∀ w : World, Calls Try.prog 15 #[T5 l0 (l0 + l1) (l0 + l1 + l2) (l0 + l1 + l2 + l3) l4, .int .i64 (z * 4)] w fun e w' => e = .returned (.int .i64 (findR l0 (l0 + l1) (l0 + l1 + l2) (l0 + l1 + l2 + l3) l4 (z * 4)).1) ∧ Below w.heap.size w w') := fun w => Stage_any _ _ _ _ _ _ (by constructor <;> omega) (by constructor <;> omega) w
  have HB : Hid (∀ w : World, Calls Try.prog 15 #[T5 l0 (l0 + l1) (l0 + l1 + l2) (l0 + l1 + l2 + l3) l4, .int .i64 (z * 4)] w fun e w' => e = .returned (.int .i64 (findR l0 (l0 + l1) (l0 + l1 + l2) (l0 + l1 + l2 + l3) l4 (z * 4)).1) ∧ Below w.heap.size w w') := fun w => Stage_any _ _ _ _ _ _ (by constructor <;> omega) (by constructor <;> omega) w
  have hle : (findR l0 (l0 + l1) (l0 + l1 + l2) (l0 + l1 + l2 + l3) l4 (z * 4)).1 ≤ (findR l0 (l0 + l1) (l0 + l1 + l2) (l0 + l1 + l2 + l3) l4 (z * 4)).1 := stage_le (by omega) (by omega) (by omega) (by omega) (by omega) (by omega) (by omega) (by omega)
  generalize (findR l0 (l0 + l1) (l0 + l1 + l2) (l0 + l1 + l2 + l3) l4 (z * 4)).1 = pA at *
  have hle' : decide (pA ≤ pA) = true := decide_eq_true hle
  clear hle ok
  have g0 : decide (1 < s) = true := by simp; omega
  have g1 : decide (2 < s) = true := by simp; omega
  have g2 : decide (3 < s) = true := by simp; omega
  have g3 : decide (4 < s) = true := by simp; omega
  have o0 : decide (l0 ≤ (l0 + l1)) = true := by simp; omega
  have o1 : decide ((l0 + l1) ≤ (l0 + l1 + l2)) = true := by simp; omega
  have o2 : decide ((l0 + l1 + l2) ≤ (l0 + l1 + l2 + l3)) = true := by simp; omega
  have HSs := Lib.hid hs
  clear hs
  obtain ⟨a0, a0'⟩ := b0
  obtain ⟨a1, a1'⟩ := b1
  obtain ⟨a2, a2'⟩ := b2
  obtain ⟨a3, a3'⟩ := b3
  obtain ⟨a4, a4'⟩ := b4
  obtain ⟨a5, a5'⟩ := b5
  obtain ⟨a6, a6'⟩ := b6
  obtain ⟨a7, a7'⟩ := b7
  obtain ⟨a8, a8'⟩ := b8
  clear h2
  go_enter Try.func9, Try.ntmps9
  go_wp2_with fail
  refine (sanity_any _).mono ?_; rintro e w1 ⟨rfl, hb1⟩
  have j1 := ((Blk.new w #[.int .u16 l0, .int .u16 l1, .int .u16 l2, .int .u16 l3, .int .u16 l4] 37).alloc (.cells #[.int .u16 x, .int .u16 y, .int .u16 z] 38)).below hb1 (by simp; omega)
  have q1 := (Blk.new (w.alloc (.cells #[.int .u16 l0, .int .u16 l1, .int .u16 l2, .int .u16 l3, .int .u16 l4] 37)) #[.int .u16 x, .int .u16 y, .int .u16 z] 38).below hb1 (by simp)
  simp only [World.size_alloc] at q1
  obtain ⟨c0, c1, c2, c3, c4⟩ := blk5 j1
  have t1 := (((Below.refl w.heap.size w).alloc (Nat.le_refl _) (.cells #[.int .u16 l0, .int .u16 l1, .int .u16 l2, .int .u16 l3, .int .u16 l4] 37)).alloc (by simp) (.cells #[.int .u16 x, .int .u16 y, .int .u16 z] 38)).trans (hb1.mono (by simp; omega))
  go_wp2_with fail
  refine (times_any _ _ _ _ _ _).mono ?_; rintro e w2 ⟨rfl, hb2⟩
  have i2 := Blk.new w2 #[.int .i64 l0, .int .i64 (l0 + l1), .int .i64 (l0 + l1 + l2), .int .i64 (l0 + l1 + l2 + l3), .int .i64 l4] 25
  have q2 := (q1.below hb2 q1.lt).alloc (.cells #[.int .i64 l0, .int .i64 (l0 + l1), .int .i64 (l0 + l1 + l2), .int .i64 (l0 + l1 + l2 + l3), .int .i64 l4] 25)
  obtain ⟨d0, d1, d2, d3, d4⟩ := blk5 i2
  have m0 := q2.cell 0 _ rfl
  have m1 := q2.cell 1 _ rfl
  have m2 := q2.cell 2 _ rfl
  have t2 := t1.trans (hb2.mono t1.size)
  have t3 := t2.alloc t2.size (.cells #[.int .i64 l0, .int .i64 (l0 + l1), .int .i64 (l0 + l1 + l2), .int .i64 (l0 + l1 + l2 + l3), .int .i64 l4] 25)
  clear c0 c1 c2 c3 c4
  go_wp2_with fail
  rw [HSs.out]
  go_quiet (fail)
  go_wp2_with fail
  refine (HU.out _).mono ?_; rintro e w3 ⟨rfl, hb3⟩
  have hb3' : Below (w2.alloc (.cells #[.int .i64 l0, .int .i64 (l0 + l1), .int .i64 (l0 + l1 + l2), .int .i64 (l0 + l1 + l2 + l3), .int .i64 l4] 25)).heap.size (w2.alloc (.cells #[.int .i64 l0, .int .i64 (l0 + l1), .int .i64 (l0 + l1 + l2), .int .i64 (l0 + l1 + l2 + l3), .int .i64 l4] 25)) w3 := ⟨hb3.os, hb3.tape, hb3.output, hb3.size, hb3.block⟩
  clear hb3 d0 d1 d2 d3 d4 m0 m1 m2
  have i3 := (i2.below hb3' i2.lt).alloc (.cells #[.int .i64 l0, .int .i64 (l0 + l1), .int .i64 (l0 + l1 + l2), .int .i64 (l0 + l1 + l2 + l3), .int .i64 l4] 25)
  have u3 := Blk.new w3 #[.int .i64 l0, .int .i64 (l0 + l1), .int .i64 (l0 + l1 + l2), .int .i64 (l0 + l1 + l2 + l3), .int .i64 l4] 25
  have t4 := t3.trans (hb3'.mono t3.size)
  have t5 := t4.alloc t4.size (.cells #[.int .i64 l0, .int .i64 (l0 + l1), .int .i64 (l0 + l1 + l2), .int .i64 (l0 + l1 + l2 + l3), .int .i64 l4] 25)
  obtain ⟨d0, d1, d2, d3, d4⟩ := blk5 u3
  go_wp2_with fail
  refine (HV.out _).mono ?_; rintro e w4 ⟨rfl, hb4⟩
  clear d0 d1 d2 d3 d4
  have i4 := (i3.below hb4 i3.lt).alloc (.cells #[.int .i64 l0, .int .i64 (l0 + l1), .int .i64 (l0 + l1 + l2), .int .i64 (l0 + l1 + l2 + l3), .int .i64 l4] 25)
  have u4 := (u3.below hb4 u3.lt).alloc (.cells #[.int .i64 l0, .int .i64 (l0 + l1), .int .i64 (l0 + l1 + l2), .int .i64 (l0 + l1 + l2 + l3), .int .i64 l4] 25)
  have v4 := Blk.new w4 #[.int .i64 l0, .int .i64 (l0 + l1), .int .i64 (l0 + l1 + l2), .int .i64 (l0 + l1 + l2 + l3), .int .i64 l4] 25
  have t6 := t5.trans (hb4.mono t5.size)
  have t7 := t6.alloc t6.size (.cells #[.int .i64 l0, .int .i64 (l0 + l1), .int .i64 (l0 + l1 + l2), .int .i64 (l0 + l1 + l2 + l3), .int .i64 l4] 25)
  obtain ⟨d0, d1, d2, d3, d4⟩ := blk5 v4
  obtain ⟨e0, e1, e2, e3, e4⟩ := blk5 i4
  obtain ⟨k0, k1, k2, k3, k4⟩ := blk5 u4
  go_wp2_with fail
  generalize (w4.alloc (.cells #[.int .i64 l0, .int .i64 (l0 + l1), .int .i64 (l0 + l1 + l2), .int .i64 (l0 + l1 + l2 + l3), .int .i64 l4] 25)) = w5 at *
  have f0 := After.cell d0
  have f1 := After.cell d1
  have f2 := After.cell d2
  have f3 := After.cell d3
  have f4 := After.cell d4
  have h0 := After.cell e0
  have h1 := After.cell e1
  have h2 := After.cell e2
  have h3 := After.cell e3
  have h4 := After.cell e4
  have n0 := After.cell k0
  have n1 := After.cell k1
  have n2 := After.cell k2
  have n3 := After.cell k3
  have n4 := After.cell k4
  clear d0 d1 d2 d3 d4 e0 e1 e2 e3 e4 k0 k1 k2 k3 k4
  refine wp_region_after (by kernel_rfl) (by kernel_rfl) ?_
  repeat (go_big_quiet_step (first | (with_reducible exact After.call (HZ.out _)) | (with_reducible exact After.call (HA.out _)) | (with_reducible exact After.call (HB.out _))))
  refine wpQuiet_nil ?_
  rintro w6 ⟨x6, rfl⟩
  go_wp2_with fail
  go_ret
  exact ⟨rfl, t7.trans (x6.hb.mono t7.size)⟩

theorem walk (l0 l1 l2 l3 l4 x y z f : Int) (b0 : 0 ≤ l0 ∧ l0 ≤ 65535) (b1 : 0 ≤ l1 ∧ l1 ≤ 65535) (b2 : 0 ≤ l2 ∧ l2 ≤ 65535) (b3 : 0 ≤ l3 ∧ l3 ≤ 65535) (b4 : 0 ≤ l4 ∧ l4 ≤ 65535) (b5 : 0 ≤ x ∧ x ≤ 65535) (b6 : 0 ≤ y ∧ y ≤ 65535) (b7 : 0 ≤ z ∧ z ≤ 65535) (b8 : 0 ≤ f ∧ f ≤ 255) (w : World) :
    Calls Try.prog 9 #[.agg #[.int .u16 l0, .int .u16 l1, .int .u16 l2, .int .u16 l3, .int .u16 l4], .int .u8 f, .agg #[.int .u16 x, .int .u16 y, .int .u16 z]] w fun e w' => e = .returned (.bool true) ∧ Below w.heap.size w w' := by
  rcases (show f % 7 ≤ 1 ∨ f % 7 = 2 ∨ f % 7 = 3 ∨ f % 7 = 4 ∨ 5 ≤ f % 7 by omega) with h | h | h | h | h
  · exact walk1 l0 l1 l2 l3 l4 _ x y z f b0 b1 b2 b3 b4 b5 b6 b7 b8 rfl h w
  · exact walk2 l0 l1 l2 l3 l4 _ x y z f b0 b1 b2 b3 b4 b5 b6 b7 b8 rfl h w
  · exact walk3 l0 l1 l2 l3 l4 _ x y z f b0 b1 b2 b3 b4 b5 b6 b7 b8 rfl h w
  · exact walk4 l0 l1 l2 l3 l4 _ x y z f b0 b1 b2 b3 b4 b5 b6 b7 b8 rfl h w
  · exact walk5 l0 l1 l2 l3 l4 _ x y z f b0 b1 b2 b3 b4 b5 b6 b7 b8 rfl h w

theorem wf_u8 {n : Int} (h : (Lit.int .u8 n).wf = true) : 0 ≤ n ∧ n ≤ 255 := by
  simpa [Lit.wf, IntKind.min, IntKind.max, IntKind.signed, IntKind.bits] using h
theorem wf_u16 {n : Int} (h : (Lit.int .u16 n).wf = true) : 0 ≤ n ∧ n ≤ 65535 := by
  simpa [Lit.wf, IntKind.min, IntKind.max, IntKind.signed, IntKind.bits] using h

set_option maxRecDepth 100000 in
theorem lifted (os : Os) (started : os.Started) (H : Type) (enc : TypeId × Value → H) :
    ReturnsInHanded {} Try.checked os 9 .any (Rows.stageAddsSpec.pre6 enc Try.prog Try.f9 Rows.stageAddsRow.domain false) (Rows.stageAddsSpec.post enc Try.prog Try.f9 false true false false) := by
  refine returnsInHanded_of_change (C := Try.checked) law_own started (by kernel_rfl) Try.func9
    (ChangeSpec.witness6 (enc := enc) (C := Try.checked) false ⟨#[], #[.agg #[.int .u16 0, .int .u16 0, .int .u16 0, .int .u16 0, .int .u16 0], .int .u8 0, .agg #[.int .u16 0, .int .u16 0, .int .u16 0]], []⟩ 8 (by kernel_rfl) (by kernel_rfl) (by kernel_rfl) (by kernel_rfl)) ?_
  intro W base args ds gs before hval0 hW _ _
  have hval : ∀ (j : Nat) t v, Try.f9.params[j]? = some t → args[j]? = some v → Value.okWide Try.prog W .any base t v := hval0
  have hWk : DataW.Whole enc Try.prog Try.f9.params.toList Rows.stageAddsSpec.vars false W args.toList ds gs before := hW
  obtain ⟨p, q, hA0, hV, rfl, _, _⟩ := hW
  have hA : DataW.TrodAll enc Try.prog W 0 (fun _ => true) true Try.f9.params.toList args.toList ds p := hA0
  rw [Try.params9] at hA hval
  obtain ⟨v0, vs0, d0, ds0, p0, q0, hargs, rfl, rfl, h0, r0⟩ := trodAll_cons hA
  obtain ⟨v1, vs1, d1, ds1, p1, q1, rfl, rfl, rfl, h1, r1⟩ := trodAll_cons r0
  obtain ⟨v2, vs2, d2, ds2, p2, q2, rfl, rfl, rfl, h2, r2⟩ := trodAll_cons r1
  obtain ⟨rfl, rfl, rfl⟩ := trodAll_nil r2
  obtain rfl : args = #[v0, v1, v2] := by cases args; simp_all
  obtain ⟨rfl, rfl⟩ := trodVars_none hV
  obtain ⟨zs0, l0, rfl, w0⟩ := open_int_array Try.underlying37 Try.underlying36 (by kernel_rfl) (by kernel_rfl) (hval 0 37 v0 rfl rfl) h0
  obtain ⟨x0_0, x0_1, x0_2, x0_3, x0_4, rfl⟩ := list5 l0
  obtain ⟨a1, rfl, _, _, w1⟩ := open_int Try.underlying5 (hval 1 5 v1 rfl rfl) h1
  obtain ⟨zs2, l2, rfl, w2⟩ := open_int_array Try.underlying38 Try.underlying36 (by kernel_rfl) (by kernel_rfl) (hval 2 38 v2 rfl rfl) h2
  obtain ⟨x2_0, x2_1, x2_2, rfl⟩ := list3 l2
  clear hA0 hval0
  refine (walk x0_0 x0_1 x0_2 x0_3 x0_4 x2_0 x2_1 x2_2 a1 (wf_u16 (w0 x0_0 (by simp))) (wf_u16 (w0 x0_1 (by simp))) (wf_u16 (w0 x0_2 (by simp))) (wf_u16 (w0 x0_3 (by simp))) (wf_u16 (w0 x0_4 (by simp))) (wf_u16 (w2 x2_0 (by simp))) (wf_u16 (w2 x2_1 (by simp))) (wf_u16 (w2 x2_2 (by simp))) (wf_u8 w1) W).mono fun e W' ⟨he, hb⟩ => ?_
  exact ⟨_, he, law_post law_laid rfl (by rw [Try.params9]; decide +kernel) (by kernel_rfl) Try.underlying4 rfl hWk hb⟩

theorem holds : Rows.StageAddsSaid :=
  OpenClaim.holds_of_wide 9 Try.f9 rfl rfl rfl rfl rfl rfl rfl ⟨rfl, rfl, rfl, rfl, rfl⟩ rfl rfl rfl rfl rfl (by kernel_rfl) Try.func9 (by kernel_rfl)
    (of_decide_eq_true (by kernel_rfl)) (by unfold Func.isWrapper; first | (rw [if_pos (by decide +kernel)]; kernel_rfl) | (rw [if_neg (by decide +kernel)]; exact ⟨rfl, rfl⟩))
    (fun os started H enc _ => lifted os started H enc)

end Go.Proofs.Ytonhhonhcgfcaaa.LAdds

namespace Go.Proofs.Ytonhhonhcgfcaaa
/-- The statement. -/
theorem stageAdds_holds : Rows.StageAddsSaid := LAdds.holds
end Go.Proofs.Ytonhhonhcgfcaaa
