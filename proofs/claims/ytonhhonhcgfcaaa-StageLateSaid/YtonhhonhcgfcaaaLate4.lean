/- StageLate's walk where the time lies in stage 4. -/
import Derived.Test.YtonhhonhcgfcaaaLate0
namespace Go.Proofs.Ytonhhonhcgfcaaa.LLate
open Go.ChangeShapes Go.WideShapes Go.ChangeAt Go.RowKit Go.Shelf

set_option maxRecDepth 100000 in
set_option maxHeartbeats 1000000 in
theorem walk4 (l0 l1 l2 l3 l4 t : Int) (b0 : 0 ≤ l0 ∧ l0 ≤ 65535) (b1 : 0 ≤ l1 ∧ l1 ≤ 65535) (b2 : 0 ≤ l2 ∧ l2 ≤ 65535) (b3 : 0 ≤ l3 ∧ l3 ≤ 65535) (b4 : 0 ≤ l4 ∧ l4 ≤ 65535) (b5 : 0 ≤ t ∧ t ≤ 65535) (h1 : (l0 + l1 + l2) ≤ t * 3) (h2 : t * 3 < (l0 + l1 + l2 + l3)) (w : World) :
    Calls Try.prog 10 #[.agg #[.int .u16 l0, .int .u16 l1, .int .u16 l2, .int .u16 l3, .int .u16 l4], .int .u16 t] w fun e w' => e = .returned (.bool true) ∧ Below w.heap.size w w' := by
  have HS : Hid (∀ w : World, Calls Try.prog 15 #[T5 l0 (l0 + l1) (l0 + l1 + l2) (l0 + l1 + l2 + l3) l4, .int .i64 (t * 3)] w fun e w' => e = .returned (.int .i64 4) ∧ Below w.heap.size w w') := by
    show ∀ w : World, _
    intro w
    have := Stage_any l0 (l0 + l1) (l0 + l1 + l2) (l0 + l1 + l2 + l3) l4 (t * 3) (by constructor <;> omega) (by constructor <;> omega) w
    rw [stage_at (by omega) (by omega)] at this
    rw [show (if t * 3 < l0 then (1 : Int) else if t * 3 < (l0 + l1) then 2 else if t * 3 < (l0 + l1 + l2) then 3 else if t * 3 < (l0 + l1 + l2 + l3) then 4 else if t * 3 < (l0 + l1 + l2 + l3) + l4 then 5 else 6) = 4 by rw [if_neg (by omega), if_neg (by omega), if_neg (by omega), if_pos (by omega)]] at this
    exact this
  have g1 : decide (t * 3 < (l0 + l1)) = false := by simp; omega
  have g2 : decide ((l0 + l1) ≤ t * 3) = true := by simp; omega
  have g3 : decide (t * 3 < (l0 + l1 + l2)) = false := by simp; omega
  have g4 : decide ((l0 + l1 + l2) ≤ t * 3) = true := by simp; omega
  have g5 : decide (t * 3 < (l0 + l1 + l2 + l3)) = true := by simp; omega
  have g6 : decide ((l0 + l1 + l2 + l3) ≤ t * 3) = false := by simp; omega
  have g7 : decide (t * 3 < (l0 + l1 + l2 + l3 + l4)) = true := by simp; omega
  have g8 : decide ((l0 + l1 + l2 + l3 + l4) ≤ t * 3) = false := by simp; omega
  obtain ⟨a0, a0'⟩ := b0
  obtain ⟨a1, a1'⟩ := b1
  obtain ⟨a2, a2'⟩ := b2
  obtain ⟨a3, a3'⟩ := b3
  obtain ⟨a4, a4'⟩ := b4
  obtain ⟨a5, a5'⟩ := b5
  go_enter Try.func10, Try.ntmps10
  go_wp2_with fail
  refine (sanity_any _).mono ?_; rintro e w1 ⟨rfl, hb1⟩
  have j1 := (Blk.new w #[.int .u16 l0, .int .u16 l1, .int .u16 l2, .int .u16 l3, .int .u16 l4] 37).below hb1 (by simp)
  obtain ⟨c0, c1, c2, c3, c4⟩ := blk5 j1
  have t1 := ((Below.refl w.heap.size w).alloc (Nat.le_refl _) (.cells #[.int .u16 l0, .int .u16 l1, .int .u16 l2, .int .u16 l3, .int .u16 l4] 37)).trans (hb1.mono (by simp))
  go_wp2_with fail
  refine (times_any _ _ _ _ _ _).mono ?_; rintro e w2 ⟨rfl, hb2⟩
  have j2 := Blk.new w2 #[.int .i64 l0, .int .i64 (l0 + l1), .int .i64 (l0 + l1 + l2), .int .i64 (l0 + l1 + l2 + l3), .int .i64 l4] 25
  obtain ⟨d0, d1, d2, d3, d4⟩ := blk5 j2
  have t2 := t1.trans (hb2.mono t1.size)
  have t3 := t2.alloc t2.size (.cells #[.int .i64 l0, .int .i64 (l0 + l1), .int .i64 (l0 + l1 + l2), .int .i64 (l0 + l1 + l2 + l3), .int .i64 l4] 25)
  go_wp2_with fail
  refine (HS.out _).mono ?_; rintro e w3 ⟨rfl, hb3⟩
  have j3 := j2.below hb3 j2.lt
  obtain ⟨e30, e31, e32, e33, e34⟩ := blk5 j3
  have t4 := t3.trans (hb3.mono t3.size)
  have HP4 : Hid (∀ w : World, Calls Try.prog 17 #[.int .i64 4, .int .i64 4] w fun e w' => e = .returned (.bool false) ∧ Below w.heap.size w w') := fun w => Permits_any 4 4 w
  have HP7 : Hid (∀ w : World, Calls Try.prog 17 #[.int .i64 4, .int .i64 7] w fun e w' => e = .returned (.bool false) ∧ Below w.heap.size w w') := fun w => Permits_any 4 7 w
  have HP9 : Hid (∀ w : World, Calls Try.prog 17 #[.int .i64 4, .int .i64 9] w fun e w' => e = .returned (.bool true) ∧ Below w.heap.size w w') := fun w => Permits_any 4 9 w
  have HP15 : Hid (∀ w : World, Calls Try.prog 17 #[.int .i64 4, .int .i64 15] w fun e w' => e = .returned (.bool false) ∧ Below w.heap.size w w') := fun w => Permits_any 4 15 w
  have HP17 : Hid (∀ w : World, Calls Try.prog 17 #[.int .i64 4, .int .i64 17] w fun e w' => e = .returned (.bool false) ∧ Below w.heap.size w w') := fun w => Permits_any 4 17 w
  go_wp2_with fail
  have f0 := After.cell (e30)
  have f1 := After.cell (e31)
  have f2 := After.cell (e32)
  have f3 := After.cell (e33)
  have f4 := After.cell (e34)
  dsimp only [List.append]
  refine wp_region_after (by kernel_rfl) (by kernel_rfl) ?_
  repeat (go_big_quiet_step (first | (with_reducible exact After.call (HP4.out _)) | (with_reducible exact After.call (HP7.out _)) | (with_reducible exact After.call (HP9.out _)) | (with_reducible exact After.call (HP15.out _)) | (with_reducible exact After.call (HP17.out _))))
  refine wpQuiet_nil ?_
  rintro w4 ⟨x, rfl⟩
  go_wp2_with fail
  go_ret
  exact ⟨rfl, t4.trans (x.hb.mono t4.size)⟩

end Go.Proofs.Ytonhhonhcgfcaaa.LLate
