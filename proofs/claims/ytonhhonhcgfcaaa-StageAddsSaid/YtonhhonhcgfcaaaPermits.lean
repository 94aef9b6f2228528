/- The contracts of Permits and of its reference, for any numbers. -/
import Derived.Test.YtonhhonhcgfcaaaStage
namespace Go.Proofs.Ytonhhonhcgfcaaa
open Go.RowKit Go.Shelf

def setB (f : Nat) : Nat → Nat
  | 0 => 0
  | n + 1 => setB f n ||| 2 ^ (f + n)

theorem setB_lt (f n : Nat) (h : f + n ≤ 64) : setB f n < 2 ^ 64 := by
  induction n with
  | zero => simp [setB]
  | succ n ih =>
    simp only [setB]
    exact Nat.or_lt_two_pow (ih (by omega)) (Nat.pow_lt_pow_right (by omega) (by omega))

theorem set_step (f k : Nat) (h : f + k < 20) : bits BinOp.or IntKind.u64 ((setB f k : Nat) : Int) (IntKind.u64.wrap (2 ^ (f + k))) = ((setB f (k + 1) : Nat) : Int) := by
  have h1 : setB f k < 18446744073709551616 := setB_lt f k (by omega)
  have h2 : 2 ^ (f + k) < 18446744073709551616 := Nat.pow_lt_pow_right (n := 64) (by omega) (by omega)
  have h3 : IntKind.u64.wrap (2 ^ (f + k)) = ((2 ^ (f + k) : Nat) : Int) := by
    rw [show ((2 : Int) ^ (f + k)) = ((2 ^ (f + k) : Nat) : Int) by simp]
    generalize 2 ^ (f + k) = m at h2 ⊢
    unfold IntKind.wrap
    simp only [IntKind.signed, IntKind.bits, Bool.false_and, Bool.false_eq_true, if_false]
    omega
  rw [h3, u64_or_nat _ _ h1 h2]; rfl

def setI (f l : Int) : Int := (setB f.toNat (l + 1 - f).toNat : Nat)

set_option maxHeartbeats 400000 in
theorem set_nat (f n : Nat) (w : World) (h : f + n ≤ 20) :
    Calls Try.prog 27 #[.int .i64 f, .int .i64 ((f + n : Nat) - 1 : Int)] w fun e w' => e = .returned (.int .u64 (setB f n : Nat)) ∧ w = w' := by
  go_enter Try.func27, Try.ntmps27
  go_wp2
  go_loop [5, 6] (fun t i => ∃ k : Nat, k ≤ n ∧ i = .int .i64 ((f + k : Nat) : Int) ∧ t = .int .u64 ((setB f k : Nat) : Int)) (fun _ i => f + n - (intOf i).toNat)
  case atStart => exact ⟨0, Nat.zero_le _, by simp, rfl⟩
  case round =>
    obtain ⟨k, hk, rfl, rfl⟩ := hrel
    by_cases hlt : k < n
    · have H := Lib.hid (set_step f k (by omega))
      go_wp2
      go_round
      case rel => exact ⟨k + 1, by omega, by go_num, by rw [H.out]⟩
      case measure => simp [intOf]; omega
    · obtain rfl : k = n := by omega
      go_wp2
      go_ret
      exact ⟨rfl, rfl⟩

theorem set_any (f l : Int) (w : World) (h0 : 0 ≤ f) (h1 : f ≤ l) (h2 : l < 20) :
    Calls Try.prog 27 #[.int .i64 f, .int .i64 l] w fun e w' => e = .returned (.int .u64 (setI f l)) ∧ w = w' := by
  have := set_nat f.toNat (l + 1 - f).toNat w (by omega)
  rw [show ((f.toNat : Nat) : Int) = f by omega, show ((((f.toNat + (l + 1 - f).toNat : Nat)) : Int) - 1) = l by omega] at this
  exact this

def stageSets : Array Value := #[.int .u64 0, .int .u64 1, .int .u64 2, .int .u64 2, .int .u64 6, .int .u64 6, .int .u64 8, .int .u64 8, .int .u64 8, .int .u64 16, .int .u64 16, .int .u64 16, .int .u64 16, .int .u64 60, .int .u64 32, .int .u64 32, .int .u64 96, .int .u64 64, .int .u64 120]

theorem info47 : (Try.prog.info? 47).map (·.size) = some 19 := by kernel_rfl
set_option maxRecDepth 100000 in
set_option maxHeartbeats 1000000 in
theorem stages_any (w : World) :
    Calls Try.prog 24 #[] w fun e w' => e = .returned (.agg stageSets) ∧ Below w.heap.size w w' := by
  go_enter Try.func24, Try.ntmps24
  go_wp2_with (first | (go_at_call 27; refine (set_any _ _ _ (by omega) (by omega) (by omega)).mono ?_; rintro e w' ⟨rfl, rfl⟩) | ((refine wpList_store_row rfl 47 (.tmp 0) (.tmp 19) rfl w.heap.size _ rfl rfl 47 _ (heap_alloc_new w _) info47 ?h3 ?h4 ?_; (exact rfl); (simp [Value.oneCell']); rw [World.setRow_alloc_new])))
  refine bodyPost_ret (v := .agg stageSets) ?_ rfl ⟨rfl, ?_⟩
  · exact results_cell_row rfl _ _ _ _ _ _ _ rfl (heap_alloc_new w _) Try.underlying47 rfl info47
  exact (Below.refl _ _).alloc (Nat.le_refl _) _


def kindSet : Nat → Nat
  | 1 => 1 | 2 => 2 | 3 => 2 | 4 => 6 | 5 => 6 | 6 => 8 | 7 => 8 | 8 => 8 | 9 => 16 | 10 => 16 | 11 => 16 | 12 => 16 | 13 => 60 | 14 => 32 | 15 => 32 | 16 => 96 | 17 => 64 | 18 => 120 | _ => 0
def lastOf : Nat → Nat
  | 1 => 0 | 2 => 1 | 3 => 1 | 4 => 2 | 5 => 2 | 6 => 3 | 7 => 3 | 8 => 3 | 9 => 4 | 10 => 4 | 11 => 4 | 12 => 4 | 13 => 5 | 14 => 5 | 15 => 5 | 16 => 6 | 17 => 6 | 18 => 6 | _ => 0
def firstOf : Nat → Nat
  | 1 => 0 | 2 => 1 | 3 => 1 | 4 => 1 | 5 => 1 | 6 => 3 | 7 => 3 | 8 => 3 | 9 => 4 | 10 => 4 | 11 => 4 | 12 => 4 | 13 => 2 | 14 => 5 | 15 => 5 | 16 => 5 | 17 => 6 | 18 => 3 | _ => 1
/-- Whether an event is possible at a stage. -/
def permR (s k : Int) : Bool := decide (1 ≤ k) && decide (k ≤ 18) && decide ((firstOf k.toNat : Int) ≤ s) && decide (s ≤ (lastOf k.toNat : Int))

theorem nat_19 {P : Nat → Prop} (h1 : P 1) (h2 : P 2) (h3 : P 3) (h4 : P 4) (h5 : P 5) (h6 : P 6) (h7 : P 7) (h8 : P 8) (h9 : P 9) (h10 : P 10) (h11 : P 11) (h12 : P 12) (h13 : P 13) (h14 : P 14) (h15 : P 15) (h16 : P 16) (h17 : P 17) (h18 : P 18) : ∀ k, 1 ≤ k → k ≤ 18 → P k := by
  intro k hk hk'
  rcases (show k = 1 ∨ k = 2 ∨ k = 3 ∨ k = 4 ∨ k = 5 ∨ k = 6 ∨ k = 7 ∨ k = 8 ∨ k = 9 ∨ k = 10 ∨ k = 11 ∨ k = 12 ∨ k = 13 ∨ k = 14 ∨ k = 15 ∨ k = 16 ∨ k = 17 ∨ k = 18 by omega) with rfl | rfl | rfl | rfl | rfl | rfl | rfl | rfl | rfl | rfl | rfl | rfl | rfl | rfl | rfl | rfl | rfl | rfl
  all_goals assumption

theorem index_sets (k : Nat) (h1 : 1 ≤ k) (h2 : k ≤ 18) : ∀ w, (Instr.index 47 (.agg stageSets) (.int .i64 (k : Int))).run Try.prog w = .ok (.int .u64 ((kindSet k : Nat) : Int)) w := by
  revert h1 h2
  refine nat_19 (P := fun k : Nat => ∀ w, (Instr.index 47 (.agg stageSets) (.int .i64 (k : Int))).run Try.prog w = .ok (.int .u64 ((kindSet k : Nat) : Int)) w) ?_ ?_ ?_ ?_ ?_ ?_ ?_ ?_ ?_ ?_ ?_ ?_ ?_ ?_ ?_ ?_ ?_ ?_ k
  all_goals (intro w; kernel_rfl)

theorem perm_bits (s k : Nat) (h2 : s ≤ 6) (h3 : 1 ≤ k) (h4 : k ≤ 18) : (bits BinOp.and IntKind.u64 ((kindSet k : Int) / 2 ^ s) 1 == 1) = permR s k := by
  have := (show ∀ (s : Fin 7) (k : Fin 19), 1 ≤ k.val → (bits BinOp.and IntKind.u64 ((kindSet k.val : Int) / 2 ^ s.val) 1 == 1) = permR s.val k.val by decide +kernel) ⟨s, by omega⟩ ⟨k, by omega⟩ h3
  exact this

theorem permR_out {s k : Int} (h : s < 0 ∨ 6 < s ∨ k < 1 ∨ 18 < k) : permR s k = false := by
  by_cases hk : 1 ≤ k ∧ k ≤ 18
  · obtain ⟨n, rfl⟩ := Int.eq_ofNat_of_zero_le (show 0 ≤ k by omega)
    have hl : lastOf n ≤ 6 := by
      refine nat_19 (P := fun k : Nat => lastOf k ≤ 6) ?_ ?_ ?_ ?_ ?_ ?_ ?_ ?_ ?_ ?_ ?_ ?_ ?_ ?_ ?_ ?_ ?_ ?_ n (by omega) (by omega)
      all_goals decide
    unfold permR
    simp only [Int.toNat_natCast]
    simp only [Bool.and_eq_false_iff, decide_eq_false_iff_not]
    omega
  · unfold permR
    simp only [Bool.and_eq_false_iff, decide_eq_false_iff_not]
    omega

set_option maxHeartbeats 400000 in
theorem Permits_any (s k : Int) (w : World) :
    Calls Try.prog 17 #[.int .i64 s, .int .i64 k] w fun e w' => e = .returned (.bool (permR s k)) ∧ Below w.heap.size w w' := by
  by_cases hin : 0 ≤ s ∧ s ≤ 6 ∧ 1 ≤ k ∧ k ≤ 18
  · obtain ⟨s, rfl⟩ := Int.eq_ofNat_of_zero_le hin.1
    obtain ⟨k, rfl⟩ := Int.eq_ofNat_of_zero_le (show 0 ≤ k by omega)
    have h2 : s ≤ 6 := by omega
    have h3 : 1 ≤ k := by omega
    have h4 : k ≤ 18 := by omega
    have h5 : kindSet k < 128 := by
      refine nat_19 (P := fun k : Nat => kindSet k < 128) ?_ ?_ ?_ ?_ ?_ ?_ ?_ ?_ ?_ ?_ ?_ ?_ ?_ ?_ ?_ ?_ ?_ ?_ k h3 h4
      all_goals decide
    have hix := index_sets k h3 h4
    have H := Lib.hid (perm_bits s k h2 h3 h4)
    clear hin
    go_enter Try.func17, Try.ntmps17
    go_wp2_with (go_at_call 24; refine (stages_any _).mono ?_; rintro e w1 ⟨rfl, hb⟩)
    go_ret
    rw [← H.out]
    exact ⟨rfl, hb⟩
  · have H := Lib.hid (permR_out (s := s) (k := k) (by omega))
    by_cases h1 : s < 0
    · clear hin
      go_enter Try.func17, Try.ntmps17
      go_wp2_with fail
      go_ret
      rw [H.out]
      exact ⟨rfl, Below.refl _ _⟩
    · by_cases h2 : 6 < s
      · clear hin
        go_enter Try.func17, Try.ntmps17
        go_wp2_with fail
        go_ret
        rw [H.out]
        exact ⟨rfl, Below.refl _ _⟩
      · by_cases h3 : k < 1
        · clear hin
          go_enter Try.func17, Try.ntmps17
          go_wp2_with fail
          go_ret
          rw [H.out]
          exact ⟨rfl, Below.refl _ _⟩
        · have h4 : 18 < k := by omega
          clear hin
          go_enter Try.func17, Try.ntmps17
          go_wp2_with fail
          go_ret
          rw [H.out]
          exact ⟨rfl, Below.refl _ _⟩

theorem ret_bool {a b : Bool} (h : a = b) : Ending.returned (.bool a) = .returned (.bool b) := by rw [h]

theorem permR_at (s : Int) (k : Nat) (h1 : 1 ≤ k) (h2 : k ≤ 18) : permR s k = (decide ((firstOf k : Int) ≤ s) && decide (s ≤ (lastOf k : Int))) := by
  unfold permR
  have e1 : decide (1 ≤ (k : Int)) = true := by simp; omega
  have e2 : decide ((k : Int) ≤ 18) = true := by simp; omega
  simp only [e1, e2, Bool.true_and, Int.toNat_natCast]

set_option maxHeartbeats 1000000 in
theorem RPermits_in (s : Int) (k : Nat) (h1 : 1 ≤ k) (h2 : k ≤ 18) : ∀ w : World,
    Calls Try.prog 18 #[.int .i64 s, .int .i64 k] w fun e w' => e = .returned (.bool (permR s k)) ∧ Below w.heap.size w w' := by
  rw [permR_at s k h1 h2]
  revert h1 h2
  refine nat_19 (P := fun k : Nat => ∀ w : World, Calls Try.prog 18 #[.int .i64 s, .int .i64 (k : Int)] w fun e w' => e = .returned (.bool (decide ((firstOf k : Int) ≤ s) && decide (s ≤ (lastOf k : Int)))) ∧ Below w.heap.size w w') ?_ ?_ ?_ ?_ ?_ ?_ ?_ ?_ ?_ ?_ ?_ ?_ ?_ ?_ ?_ ?_ ?_ ?_ k
  all_goals
    intro w
    go_enter Try.func18, Try.ntmps18
    go_wp2_with fail
    all_goals
      go_ret
      refine ⟨ret_bool ?_, Below.refl _ _⟩
      rw [Bool.eq_iff_iff]
      simp [firstOf, lastOf]
      try omega

set_option maxHeartbeats 1000000 in
theorem RPermits_out (s k : Int) (h : k < 1 ∨ 18 < k) (w : World) :
    Calls Try.prog 18 #[.int .i64 s, .int .i64 k] w fun e w' => e = .returned (.bool (permR s k)) ∧ Below w.heap.size w w' := by
  have H := Lib.hid (permR_out (s := s) (k := k) (by omega))
  have n1 : (k == 1) = false := by simp; omega
  have n2 : (k == 2) = false := by simp; omega
  have n3 : (k == 3) = false := by simp; omega
  have n4 : (k == 4) = false := by simp; omega
  have n5 : (k == 5) = false := by simp; omega
  have n6 : (k == 6) = false := by simp; omega
  have n7 : (k == 7) = false := by simp; omega
  have n8 : (k == 8) = false := by simp; omega
  have n9 : (k == 9) = false := by simp; omega
  have n10 : (k == 10) = false := by simp; omega
  have n11 : (k == 11) = false := by simp; omega
  have n12 : (k == 12) = false := by simp; omega
  have n13 : (k == 13) = false := by simp; omega
  have n14 : (k == 14) = false := by simp; omega
  have n15 : (k == 15) = false := by simp; omega
  have n16 : (k == 16) = false := by simp; omega
  have n17 : (k == 17) = false := by simp; omega
  have n18 : (k == 18) = false := by simp; omega
  clear h
  by_cases h1 : 1 ≤ s
  · have h2 : ¬ s ≤ 0 := by omega
    go_enter Try.func18, Try.ntmps18
    go_wp2_with fail
    go_ret
    rw [H.out]
    exact ⟨rfl, Below.refl _ _⟩
  · go_enter Try.func18, Try.ntmps18
    go_wp2_with fail
    go_ret
    rw [H.out]
    exact ⟨rfl, Below.refl _ _⟩

theorem RPermits_any (s k : Int) (w : World) :
    Calls Try.prog 18 #[.int .i64 s, .int .i64 k] w fun e w' => e = .returned (.bool (permR s k)) ∧ Below w.heap.size w w' := by
  by_cases h : 1 ≤ k ∧ k ≤ 18
  · obtain ⟨k, rfl⟩ := Int.eq_ofNat_of_zero_le (show 0 ≤ k by omega)
    exact RPermits_in s k (by omega) (by omega) w
  · exact RPermits_out s k (by omega) w

end Go.Proofs.Ytonhhonhcgfcaaa
