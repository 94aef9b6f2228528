/- The contracts of the field's sums and products, and of the reference's. Conditions: none but the range of int. -/
import Derived.Test.YtdnabeldaighgaaDiv
namespace Go.Proofs.Ytdnabeldaighgaa
open Go.RowKit Go.Shelf

set_option maxHeartbeats 400000 in
theorem Rem64_any (hi lo y : Nat) (hy : 1 ≤ y) (hy2 : y < 18446744073709551616) (hl : lo < 18446744073709551616) (w : World) :
    Calls Try.prog 54 #[W64 hi, W64 lo, W64 y] w fun e w' => e = .returned (W64 ((hi * 18446744073709551616 + lo) % y)) ∧ Below w.heap.size w w' := by
  have h0 : ((y : Int) == 0) = false := by simp; omega
  have HE : Hid ((hi % y * 18446744073709551616 + lo) % y = (hi * 18446744073709551616 + lo) % y) := by
    show _ = _
    rw [Nat.add_mod, Nat.mod_mul_mod, ← Nat.add_mod]
  have HC := Lib.hid (fun w => Div64_any (hi % y) lo y hy hy2 (Nat.mod_lt _ hy) hl w)
  obtain ⟨z, hz⟩ : ∃ z, hi % y = z := ⟨_, rfl⟩
  rw [hz] at HE HC
  have e : (hi : Int) % (y : Int) = (z : Int) := by rw [← hz]; exact (Int.natCast_emod hi y).symm
  clear hl hy2 hz
  go_enter Try.func54, Try.ntmps54
  go_wp2_with fail
  refine (HC.out _).mono ?_; rintro e w1 ⟨q, rfl, hb⟩
  go_wp2_with fail
  go_ret
  exact ⟨by rw [← HE.out]; rfl, hb⟩

set_option maxHeartbeats 400000 in
theorem mulu_any (a b m : Nat) (hm : 1 ≤ m) (hm2 : m < 18446744073709551616) (ha : a < 18446744073709551616) (hb : b < 18446744073709551616) (w : World) :
    Calls Try.prog 33 #[W64 a, W64 b, W64 m] w fun e w' => e = .returned (W64 (a * b % m)) ∧ Below w.heap.size w w' := by
  have HC := Lib.hid (fun w => bits_Mul64 a b ha hb w)
  have HD := Lib.hid (fun w => Rem64_any (a * b / 18446744073709551616) (a * b % 18446744073709551616) m hm hm2 (Nat.mod_lt _ (by omega)) w)
  have HE : Hid (a * b / 18446744073709551616 * 18446744073709551616 + a * b % 18446744073709551616 = a * b) := by
    show _ = _
    rw [Nat.mul_comm]; exact Nat.div_add_mod _ _
  generalize a * b / 18446744073709551616 = x at *
  generalize a * b % 18446744073709551616 = y at *
  clear hm2 ha hb
  go_enter Try.func33, Try.ntmps33
  go_wp2_with fail
  refine (HC.out _).mono ?_; rintro e w1 ⟨rfl, rfl⟩
  go_wp2_with fail
  refine (HD.out _).mono ?_; rintro e w2 ⟨rfl, hb⟩
  go_wp2_with fail
  go_ret
  exact ⟨by rw [← HE.out]; rfl, hb⟩

theorem rs_nat {a m : Int} (hm : 1 ≤ m) (hm2 : m ≤ 9223372036854775807) : rs a m < 9223372036854775808 := by have := rs_lt (a := a) hm; omega
theorem toNat_cast {m : Int} (hm : 1 ≤ m) : ((m.toNat : Nat) : Int) = m := by omega
theorem mulS_rs (a b m : Int) (hm : 1 ≤ m) : ((rs a m * rs b m % m.toNat : Nat) : Int) = Fld.mulS a b m := by
  rw [Fld.mulS, if_neg (by omega), Int.natCast_emod, Int.natCast_mul, rs_cast hm, rs_cast hm, toNat_cast hm, ← Int.mul_emod]
theorem addS_rs (a b m : Int) (hm : 1 ≤ m) : (((rs a m + rs b m) % m.toNat : Nat) : Int) = Fld.addS a b m := by
  rw [Fld.addS, if_neg (by omega), Int.natCast_emod, Int.natCast_add, rs_cast hm, rs_cast hm, toNat_cast hm, ← Int.add_emod]
theorem subS_rs (a b m : Int) (hm : 1 ≤ m) : (((rs a m + (m.toNat - rs b m)) % m.toNat : Nat) : Int) = Fld.subS a b m := by
  have h := rs_lt (a := b) hm
  rw [Fld.subS, if_neg (by omega), Int.natCast_emod, Int.natCast_add, Int.ofNat_sub (by omega), rs_cast hm, rs_cast hm, toNat_cast hm,
    show a % m + (m - b % m) = a % m - b % m + m by omega, Int.add_emod_right, ← Int.sub_emod]
theorem S_range {m z : Int} (h : m < 1 → z = 0) (h1 : 1 ≤ m → ∃ x, z = x % m) (hm : m ≤ 9223372036854775807) : 0 ≤ z ∧ z ≤ 9223372036854775807 := by
  by_cases hm1 : m < 1
  · rw [h hm1]; omega
  · obtain ⟨x, rfl⟩ := h1 (by omega)
    have := Int.emod_nonneg x (by omega : m ≠ 0)
    have := Int.emod_lt_of_pos x (by omega : 0 < m)
    omega

/-- The three functions differ in one call. -/
theorem Mul_zero (a b m : Int) (hm : m < 1) (w : World) : Calls Try.prog 19 #[I a, I b, I m] w fun e w' => e = .returned (I (Fld.mulS a b m)) ∧ Below w.heap.size w w' := by
  rw [Fld.mulS, if_pos hm]
  go_enter Try.func19, Try.ntmps19
  go_wp2_with fail
  go_ret
  exact ⟨rfl, Below.refl _ w⟩

set_option maxHeartbeats 400000 in
theorem Mul_any (a b m : Int) (ha : In64 a) (hb : In64 b) (hm2 : m ≤ 9223372036854775807) (w : World) :
    Calls Try.prog 19 #[I a, I b, I m] w fun e w' => e = .returned (I (Fld.mulS a b m)) ∧ Below w.heap.size w w' := by
  by_cases hm : m < 1
  · exact Mul_zero a b m hm w
  · have hm1 : 1 ≤ m := by omega
    have HR := Lib.hid (fun a ha w => residue_any a m ha hm1 hm2 w)
    have HM := Lib.hid (fun w => mulu_any (rs a m) (rs b m) m.toNat (by omega) (by omega) (by have := rs_nat (a := a) hm1 hm2; omega) (by have := rs_nat (a := b) hm1 hm2; omega) w)
    simp only [W64, toNat_cast hm1] at HM
    have HS := Lib.hid (mulS_rs a b m hm1)
    have hn : rs a m * rs b m % m.toNat ≤ 9223372036854775807 := by have := Nat.mod_lt (rs a m * rs b m) (show m.toNat > 0 by omega); omega
    generalize rs a m * rs b m % m.toNat = z at *
    go_enter Try.func19, Try.ntmps19
    go_wp2_with fail
    refine (HR.out _ ha _).mono ?_; rintro e w1 ⟨rfl, rfl⟩
    go_wp2_with fail
    refine (HR.out _ hb _).mono ?_; rintro e w1 ⟨rfl, rfl⟩
    go_wp2_with fail
    refine (HM.out _).mono ?_; rintro e w2 ⟨rfl, hb2⟩
    go_wp2_with fail
    go_ret
    exact ⟨ret_i64 HS.out, hb2⟩

end Go.Proofs.Ytdnabeldaighgaa
