/- The examples that every statement of the chapter begins with are met. -/
import Derived.Test.YtonhhonhcgfcaaaRShift
import Derived.Test.YtonhhonhcgfcaaaPermits
namespace Go.Proofs.Ytonhhonhcgfcaaa
open Go.RowKit Go.Shelf

theorem keepCells {W w1 : World} (hb : Below W.heap.size W w1) : ∀ p v, W.cell? p = some v → w1.cell? p = some v := fun p _ h => (hb.cell (p := p) (World.block_lt_of_cell? W _ h)).trans h

theorem Below.ofDrew {B : Nat} {w w' : World} (h : Below B w.drew w') : Below B w w' := ⟨h.os, h.tape, h.output, h.size, h.block⟩

theorem blk5 {W : World} {b : Nat} {x0 x1 x2 x3 x4 : Value} {t : TypeId} (h : Blk W b #[x0, x1, x2, x3, x4] t) : W.cell? ⟨b, 0, none⟩ = some x0 ∧ W.cell? ⟨b, 1, none⟩ = some x1 ∧ W.cell? ⟨b, 2, none⟩ = some x2 ∧ W.cell? ⟨b, 3, none⟩ = some x3 ∧ W.cell? ⟨b, 4, none⟩ = some x4 :=
  ⟨h.cell 0 _ rfl, h.cell 1 _ rfl, h.cell 2 _ rfl, h.cell 3 _ rfl, h.cell 4 _ rfl⟩

def nowA : Array Value := #[.int .i64 0, .int .i64 9, .int .i64 10, .int .i64 39, .int .i64 40, .int .i64 44, .int .i64 45]
def wantA : Array Value := #[.int .i64 1, .int .i64 1, .int .i64 2, .int .i64 4, .int .i64 5, .int .i64 5, .int .i64 6]

theorem now_want (k : Nat) (hk : k < 7) : ∃ x v : Int, nowA[k]? = some (.int .i64 x) ∧ wantA[k]? = some (.int .i64 v) ∧ (findR 10 20 30 40 5 x).1 = v := by
  rcases (show k = 0 ∨ k = 1 ∨ k = 2 ∨ k = 3 ∨ k = 4 ∨ k = 5 ∨ k = 6 by omega) with rfl | rfl | rfl | rfl | rfl | rfl | rfl
  all_goals exact ⟨_, _, rfl, rfl, rfl⟩

theorem sNext1 (w : World) : Calls Try.prog 13 #[T5 10 20 30 40 5, .int .i64 9] w fun e w' => e = .returned (.tuple #[.int .i64 10, .bool true]) ∧ Below w.heap.size w w' := Next_any 10 20 30 40 5 9 (by constructor <;> omega) (by constructor <;> omega) w
theorem sNext2 (w : World) : Calls Try.prog 13 #[T5 10 20 30 40 5, .int .i64 40] w fun e w' => e = .returned (.tuple #[.int .i64 45, .bool true]) ∧ Below w.heap.size w w' := Next_any 10 20 30 40 5 40 (by constructor <;> omega) (by constructor <;> omega) w
theorem sNext3 (w : World) : Calls Try.prog 13 #[T5 10 20 30 40 5, .int .i64 45] w fun e w' => e = .returned (.tuple #[.int .i64 0, .bool false]) ∧ Below w.heap.size w w' := Next_any 10 20 30 40 5 45 (by constructor <;> omega) (by constructor <;> omega) w
theorem sPer1 (w : World) : Calls Try.prog 17 #[.int .i64 2, .int .i64 4] w fun e w' => e = .returned (.bool true) ∧ Below w.heap.size w w' := Permits_any 2 4 w
theorem sPer2 (w : World) : Calls Try.prog 17 #[.int .i64 3, .int .i64 4] w fun e w' => e = .returned (.bool false) ∧ Below w.heap.size w w' := Permits_any 3 4 w
theorem sPer3 (w : World) : Calls Try.prog 17 #[.int .i64 3, .int .i64 9] w fun e w' => e = .returned (.bool false) ∧ Below w.heap.size w w' := Permits_any 3 9 w
theorem sShift (w : World) : Calls Try.prog 19 #[T5 10 20 30 40 5, .int .i64 2, .int .i64 7] w fun e w' => e = .returned (T5 10 27 37 47 5) ∧ Below w.heap.size w w' := by
  have := Shift_any 10 20 30 40 5 2 7 w
  rw [show shiftR 10 20 30 40 5 2 7 = T5 10 27 37 47 5 from by rw [shiftR_yes] <;> first | rfl | exact ⟨by omega, by omega⟩] at this
  exact this

set_option maxRecDepth 100000 in
set_option maxHeartbeats 1000000 in
theorem sanity_any (w : World) : Calls Try.prog 11 #[] w fun e w' => e = .returned (.bool true) ∧ Below w.heap.size w w' := by
  go_enter Try.func11, Try.ntmps11
  go_wp2_with (go_at_call 12; refine (times_any _ _ _ _ _ _).mono ?_; rintro e w1 ⟨rfl, hb1⟩)
  go_loopw [4] (fun i wr => ∃ k : Nat, k ≤ 7 ∧ i = .int .i64 k ∧ Blk wr w1.heap.size #[.int .i64 10, .int .i64 20, .int .i64 30, .int .i64 40, .int .i64 5] 25 ∧ Blk wr (w1.heap.size + 1) nowA 3 ∧ Blk wr (w1.heap.size + 1 + 1) wantA 3 ∧ Below w.heap.size w wr) (fun i _ => 7 - (intOf i).toNat)
  case atStart =>
    have h2 := (Blk.new (w1.alloc (.cells #[.int .i64 10, .int .i64 20, .int .i64 30, .int .i64 40, .int .i64 5] 25)) nowA 3).alloc (.cells wantA 3)
    have h3 := Blk.new ((w1.alloc (.cells #[.int .i64 10, .int .i64 20, .int .i64 30, .int .i64 40, .int .i64 5] 25)).alloc (.cells nowA 3)) wantA 3
    simp only [World.size_alloc] at h2 h3
    have hz := hb1.size
    exact ⟨0, by omega, rfl, ((Blk.new w1 _ _).alloc _).alloc _, h2, h3, ((hb1.alloc hb1.size _).alloc (by simp; omega) _).alloc (by simp; omega) _⟩
  case round =>
    obtain ⟨k, hk, rfl, i1, i2, i3, hB⟩ := hrel
    have c0 := i1.cell 0 (.int .i64 10) rfl
    have c1 := i1.cell 1 (.int .i64 20) rfl
    have c2 := i1.cell 2 (.int .i64 30) rfl
    have c3 := i1.cell 3 (.int .i64 40) rfl
    have c4 := i1.cell 4 (.int .i64 5) rfl
    by_cases hlt : k < 7
    · obtain ⟨x, v, h1, h2, h3⟩ := now_want k hlt
      have d1 := i2.cell k _ h1
      have d2 := i3.cell k _ h2
      have H3 := Lib.hid (Stage_any 10 20 30 40 5 x (by constructor <;> omega) (by constructor <;> omega))
      rw [h3] at H3
      have hk0 : (0 : Int) ≤ (k : Int) := by omega
      have hk1 : (k : Int) < ((7 : Nat) : Int) := by omega
      have hk2 : (k : Int) < 7 := by omega
      clear h1 h2 h3
      go_wp2_with fail
      go_region_held3 (fun w' => w'.cell? ⟨w1.heap.size, 0, none⟩ = some (.int .i64 10) ∧ w'.cell? ⟨w1.heap.size, 1, none⟩ = some (.int .i64 20) ∧ w'.cell? ⟨w1.heap.size, 2, none⟩ = some (.int .i64 30) ∧ w'.cell? ⟨w1.heap.size, 3, none⟩ = some (.int .i64 40) ∧ w'.cell? ⟨w1.heap.size, 4, none⟩ = some (.int .i64 5) ∧
          w'.cell? ⟨w1.heap.size + 1, k, none⟩ = some (.int .i64 x) ∧ w'.cell? ⟨w1.heap.size + 1 + 1, k, none⟩ = some (.int .i64 v))
        (first | go_keep | (go_split_ands; have hk := keepCells hb; refine ⟨?_, ?_, ?_, ?_, ?_, ?_, ?_⟩ <;> (apply hk; assumption)))
        (first | (go_at_call 15; refine (H3.out _).mono ?_; rintro e w2 ⟨rfl, hb⟩))
      go_wp2_with fail
      have hb' : Below wr.heap.size wr w2 := Below.ofDrew hb
      go_roundw
      case rel => exact ⟨k + 1, by omega, by go_num, i1.below hb' i1.lt, i2.below hb' i2.lt, i3.below hb' i3.lt, hB.trans (hb'.mono hB.size)⟩
      case measure => simp [intOf]; omega
    · obtain rfl : k = 7 := by omega
      go_wp2_with fail
      refine (sNext1 _).mono ?_; rintro e w2 ⟨rfl, hb2⟩
      have j2 := i1.below hb2 i1.lt
      obtain ⟨d0, d1, d2, d3, d4⟩ := blk5 j2
      go_wp2_with fail
      refine (sNext2 _).mono ?_; rintro e w3 ⟨rfl, hb3⟩
      have j3 := j2.below hb3 j2.lt
      obtain ⟨e0, e1, e2, e3, e4⟩ := blk5 j3
      go_wp2_with fail
      refine (sNext3 _).mono ?_; rintro e w4 ⟨rfl, hb4⟩
      have j4 := j3.below hb4 j3.lt
      go_wp2_with fail
      refine (sPer1 _).mono ?_; rintro e w5 ⟨rfl, hb5⟩
      have j5 := j4.below hb5 j4.lt
      go_wp2_with fail
      refine (sPer2 _).mono ?_; rintro e w6 ⟨rfl, hb6⟩
      have j6 := j5.below hb6 j5.lt
      go_wp2_with fail
      refine (sPer3 _).mono ?_; rintro e w7 ⟨rfl, hb7⟩
      have j7 := j6.below hb7 j6.lt
      obtain ⟨f0, f1, f2, f3, f4⟩ := blk5 j7
      go_wp2_with fail
      refine (sShift _).mono ?_; rintro e w8 ⟨rfl, hb8⟩
      go_wp2_with fail
      refine (times_any _ _ _ _ _ _).mono ?_; rintro e w9 ⟨rfl, hb9⟩
      go_wp2_with fail
      go_ret
      have t2 := hB.trans (hb2.mono hB.size)
      have t3 := t2.trans (hb3.mono t2.size)
      have t4 := t3.trans (hb4.mono t3.size)
      have t5 := t4.trans (hb5.mono t4.size)
      have t6 := t5.trans (hb6.mono t5.size)
      have t7 := t6.trans (hb7.mono t6.size)
      have t8 := t7.trans (hb8.mono t7.size)
      exact ⟨rfl, t8.trans (hb9.mono t8.size)⟩
end Go.Proofs.Ytonhhonhcgfcaaa
