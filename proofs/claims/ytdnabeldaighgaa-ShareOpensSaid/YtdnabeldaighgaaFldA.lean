/- The contracts of the field's small functions: residues, products of two words, sums. Conditions: numbers in range. -/
import Derived.Test.YtdnabeldaighgaaKit
import Derived.Test.YtdnabeldaighgaaFld
import Derived.Test.YtdnabeldaighgaaShelf
import Derived.Deep.CutBlock
import Derived.Deep.LoopGhost
namespace Go.Proofs.Ytdnabeldaighgaa
open Go.RowKit Go.Shelf

abbrev I (x : Int) : Value := .int .i64 x
abbrev W64 (x : Nat) : Value := .int .u64 (x : Int)
theorem ret_i64 {a b : Int} (h : a = b) : Ending.returned (.int .i64 a) = .returned (.int .i64 b) := by rw [h]
theorem ret_u64 {a b : Int} (h : a = b) : Ending.returned (.int .u64 a) = .returned (.int .u64 b) := by rw [h]
/-- In range. -/
def In64 (x : Int) : Prop := -9223372036854775808 ≤ x ∧ x ≤ 9223372036854775807

/-- A residue as a number. -/
def rs (a m : Int) : Nat := (a % m).toNat
theorem rs_cast {a m : Int} (hm : 1 ≤ m) : ((rs a m : Nat) : Int) = a % m := by
  unfold rs; have := Int.emod_nonneg a (by omega : m ≠ 0); omega
theorem rs_lt {a m : Int} (hm : 1 ≤ m) : ((rs a m : Nat) : Int) < m := by
  rw [rs_cast hm]; exact Int.emod_lt_of_pos a (by omega)
theorem residue_neg {a m : Int} (hm : 1 ≤ m) (h : a.tmod m < 0) : a.tmod m + m = ((rs a m : Nat) : Int) := by
  rw [rs_cast hm, ← Fld.residue_eq a m (by omega), if_pos h]
theorem residue_pos {a m : Int} (hm : 1 ≤ m) (h : ¬ a.tmod m < 0) : a.tmod m = ((rs a m : Nat) : Int) := by
  rw [rs_cast hm, ← Fld.residue_eq a m (by omega), if_neg h]

set_option maxHeartbeats 400000 in
theorem residue_any (a m : Int) (ha : In64 a) (hm : 1 ≤ m) (hm2 : m ≤ 9223372036854775807) (w : World) :
    Calls Try.prog 32 #[I a, I m] w fun e w' => e = .returned (W64 (rs a m)) ∧ w = w' := by
  obtain ⟨ha1, ha2⟩ := ha
  have b1 : -m < a.tmod m := Int.lt_tmod_of_pos a (by omega)
  have b2 : a.tmod m < m := Int.tmod_lt_of_pos a (by omega)
  have hn := Lib.hid (residue_neg (a := a) hm)
  have hp := Lib.hid (residue_pos (a := a) hm)
  go_enter Try.func32, Try.ntmps32
  go_wp2_with fail
  · have h : a.tmod m < 0 := by assumption
    go_ret
    exact ⟨ret_u64 (hn.out h), rfl⟩
  · have h : 0 ≤ a.tmod m := by assumption
    go_ret
    exact ⟨ret_u64 (hp.out (by omega)), rfl⟩

set_option maxHeartbeats 400000 in
theorem RResidue_any (a m : Int) (ha : In64 a) (hm : 1 ≤ m) (hm2 : m ≤ 9223372036854775807) (w : World) :
    Calls Try.prog 59 #[I a, I m] w fun e w' => e = .returned (I (a % m)) ∧ w = w' := by
  obtain ⟨ha1, ha2⟩ := ha
  have b1 : -m < a.tmod m := Int.lt_tmod_of_pos a (by omega)
  have b2 : a.tmod m < m := Int.tmod_lt_of_pos a (by omega)
  have hn := Lib.hid ((rs_cast (a := a) hm) ▸ residue_neg (a := a) hm)
  have hp := Lib.hid ((rs_cast (a := a) hm) ▸ residue_pos (a := a) hm)
  go_enter Try.func59, Try.ntmps59
  go_wp2_with fail
  · have h : a.tmod m < 0 := by assumption
    go_ret
    exact ⟨ret_i64 (hn.out h), rfl⟩
  · have h : 0 ≤ a.tmod m := by assumption
    go_ret
    exact ⟨ret_i64 (hp.out (by omega)), rfl⟩

set_option maxHeartbeats 400000 in
theorem addu_any (a b m : Nat) (hm : 1 ≤ m) (ha : a ≤ 9223372036854775807) (hb : b ≤ 9223372036854775807) (hm2 : m ≤ 9223372036854775807) (w : World) :
    Calls Try.prog 31 #[W64 a, W64 b, W64 m] w fun e w' => e = .returned (W64 ((a + b) % m)) ∧ w = w' := by
  have h0 : ((m : Int) == 0) = false := by simp; omega
  go_enter Try.func31, Try.ntmps31
  go_wp2_with fail
  go_ret
  exact ⟨ret_u64 (by rw [Int.natCast_emod, Int.natCast_add]), rfl⟩

set_option maxHeartbeats 400000 in
theorem rsum_any (a b m : Int) (hm : 1 ≤ m) (hm2 : m ≤ 9223372036854775807) (ha : 0 ≤ a) (ha2 : a < m) (hb : 0 ≤ b) (hb2 : b < m) (w : World) :
    Calls Try.prog 61 #[I a, I b, I m] w fun e w' => e = .returned (I ((a + b) % m)) ∧ w = w' := by
  go_enter Try.func61, Try.ntmps61
  go_wp2_with fail
  · have h : m - b ≤ a := by assumption
    go_ret
    refine ⟨ret_i64 ?_, rfl⟩
    rw [← Int.sub_emod_right, Int.emod_eq_of_lt (by omega) (by omega)]; omega
  · have h : a < m - b := by assumption
    go_ret
    refine ⟨ret_i64 ?_, rfl⟩
    rw [Int.emod_eq_of_lt (by omega) (by omega)]

/-- A quotient, and the remainder. -/
def DivPost (r : Nat) (w : World) (e : Ending) (w' : World) : Prop := ∃ q : Int, e = .returned (.tuple #[.int .u64 q, W64 r]) ∧ Below w.heap.size w w'

theorem bl_bounds : ∀ (f x : Nat), x < 2 ^ f → x ≠ 0 → ∃ n, Lib.bitLenAux f x = n + 1 ∧ n + 1 ≤ f ∧ 2 ^ n ≤ x ∧ x < 2 ^ (n + 1)
  | 0, x, h, h0 => by simp at h; omega
  | f + 1, x, h, h0 => by
    rw [Lib.bitLenAux, if_neg h0]
    by_cases h2 : x / 2 = 0
    · refine ⟨0, ?_, by omega, by rw [Nat.pow_zero]; omega, by rw [Nat.zero_add, Nat.pow_one]; omega⟩
      rw [h2]
      cases f <;> simp [Lib.bitLenAux]
    · obtain ⟨n, h3, h4, h5, h6⟩ := bl_bounds f (x / 2) (by rw [Nat.pow_succ] at h; omega) h2
      exact ⟨n + 1, by rw [h3]; omega, by omega, by rw [Nat.pow_succ]; omega, by rw [Nat.pow_succ]; omega⟩
theorem wrap_shl (x s : Nat) : IntKind.u64.wrap ((x : Int) * 2 ^ s) = ((x * 2 ^ s % 18446744073709551616 : Nat) : Int) := by
  rw [IntKind.wrap_u64, Int.natCast_emod, Int.natCast_mul, Int.natCast_pow]; rfl
theorem and_mask (x : Nat) (h : x < 18446744073709551616) : bits .and .u64 (x : Int) 4294967295 = ((x % 4294967296 : Nat) : Int) := by
  rw [show (4294967295 : Int) = ((4294967295 : Nat) : Int) from rfl, u64_and_nat _ _ h (by omega)]
  congr 1
  exact Nat.and_two_pow_sub_one_eq_mod x 32
theorem norm_shift (y : Nat) (hy : 1 ≤ y) (hy2 : y < 18446744073709551616) : ∃ s : Nat, s ≤ 63 ∧ 64 - (Lib.bitLen y : Int) = (s : Int) ∧ 9223372036854775808 ≤ y * 2 ^ s ∧ y * 2 ^ s < 18446744073709551616 := by
  obtain ⟨n, h1, h2, h3, h4⟩ := bl_bounds 64 y (by omega) (by omega)
  unfold Lib.bitLen
  rw [h1]
  refine ⟨63 - n, by omega, by omega, ?_, ?_⟩
  · have := Nat.mul_le_mul_right (2 ^ (63 - n)) h3
    rw [← Nat.pow_add, show n + (63 - n) = 63 by omega] at this
    exact this
  · have := Nat.mul_lt_mul_of_pos_right h4 (Nat.two_pow_pos (63 - n))
    rw [← Nat.pow_add, show n + 1 + (63 - n) = 64 by omega] at this
    exact this

set_option maxHeartbeats 400000 in
theorem Div64_zero (lo y : Nat) (hy : 1 ≤ y) (hy2 : y < 18446744073709551616) (hl : lo < 18446744073709551616) (w : World) :
    Calls Try.prog 62 #[W64 0, W64 lo, W64 y] w (DivPost (lo % y) w) := by
  have h0 : ((y : Int) == 0) = false := by simp; omega
  go_enter Try.func62, Try.ntmps62
  go_wp2_with fail
  go_quiet (fail)
  go_wp2_with fail
  go_ret2
  refine ⟨IntKind.u64.wrap ((lo : Int) / (y : Int)), ?_, Below.drewN (Below.refl _ w) _⟩
  show Ending.returned (.tuple #[.int .u64 _, .int .u64 ((lo : Int) % (y : Int))]) = .returned (.tuple #[_, .int .u64 ((lo % y : Nat) : Int)])
  rw [Int.natCast_emod]

end Go.Proofs.Ytdnabeldaighgaa
