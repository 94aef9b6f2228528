/- The contracts of the field's sums, and of the reference's sums, products and powers. Conditions: none but the range of int. -/
import Derived.Test.YtdnabeldaighgaaFldB
namespace Go.Proofs.Ytdnabeldaighgaa
open Go.RowKit Go.Shelf

theorem Add_zero (a b m : Int) (hm : m < 1) (w : World) : Calls Try.prog 20 #[I a, I b, I m] w fun e w' => e = .returned (I (Fld.addS a b m)) ∧ Below w.heap.size w w' := by
  rw [Fld.addS, if_pos hm]
  go_enter Try.func20, Try.ntmps20
  go_wp2_with fail
  go_ret
  exact ⟨rfl, Below.refl _ w⟩

set_option maxHeartbeats 400000 in
theorem Add_any (a b m : Int) (ha : In64 a) (hb : In64 b) (hm2 : m ≤ 9223372036854775807) (w : World) :
    Calls Try.prog 20 #[I a, I b, I m] w fun e w' => e = .returned (I (Fld.addS a b m)) ∧ Below w.heap.size w w' := by
  by_cases hm : m < 1
  · exact Add_zero a b m hm w
  · have hm1 : 1 ≤ m := by omega
    have HR := Lib.hid (fun a ha w => residue_any a m ha hm1 hm2 w)
    have HM := Lib.hid (fun w => addu_any (rs a m) (rs b m) m.toNat (by omega) (by have := rs_nat (a := a) hm1 hm2; omega) (by have := rs_nat (a := b) hm1 hm2; omega) (by omega) w)
    simp only [W64, toNat_cast hm1] at HM
    have HS := Lib.hid (addS_rs a b m hm1)
    have hn : (rs a m + rs b m) % m.toNat ≤ 9223372036854775807 := by have := Nat.mod_lt (rs a m + rs b m) (show m.toNat > 0 by omega); omega
    generalize (rs a m + rs b m) % m.toNat = z at *
    go_enter Try.func20, Try.ntmps20
    go_wp2_with fail
    refine (HR.out _ ha _).mono ?_; rintro e w1 ⟨rfl, rfl⟩
    go_wp2_with fail
    refine (HR.out _ hb _).mono ?_; rintro e w1 ⟨rfl, rfl⟩
    go_wp2_with fail
    refine (HM.out _).mono ?_; rintro e w2 ⟨rfl, rfl⟩
    go_wp2_with fail
    go_ret
    exact ⟨ret_i64 HS.out, Below.refl _ _⟩

theorem Sub_zero (a b m : Int) (hm : m < 1) (w : World) : Calls Try.prog 17 #[I a, I b, I m] w fun e w' => e = .returned (I (Fld.subS a b m)) ∧ Below w.heap.size w w' := by
  rw [Fld.subS, if_pos hm]
  go_enter Try.func17, Try.ntmps17
  go_wp2_with fail
  go_ret
  exact ⟨rfl, Below.refl _ w⟩

set_option maxHeartbeats 400000 in
theorem Sub_any (a b m : Int) (ha : In64 a) (hb : In64 b) (hm2 : m ≤ 9223372036854775807) (w : World) :
    Calls Try.prog 17 #[I a, I b, I m] w fun e w' => e = .returned (I (Fld.subS a b m)) ∧ Below w.heap.size w w' := by
  by_cases hm : m < 1
  · exact Sub_zero a b m hm w
  · have hm1 : 1 ≤ m := by omega
    have HR := Lib.hid (fun a ha w => residue_any a m ha hm1 hm2 w)
    have hbl := rs_lt (a := b) hm1
    have HM := Lib.hid (fun w => addu_any (rs a m) (m.toNat - rs b m) m.toNat (by omega) (by have := rs_nat (a := a) hm1 hm2; omega) (by omega) (by omega) w)
    have hsb : IntKind.u64.wrap (m - ((rs b m : Nat) : Int)) = ((m.toNat - rs b m : Nat) : Int) := by rw [IntKind.wrap_u64]; omega
    have hsb' : m - ((rs b m : Nat) : Int) = ((m.toNat - rs b m : Nat) : Int) := by omega
    simp only [W64, toNat_cast hm1] at HM
    have HS := Lib.hid (subS_rs a b m hm1)
    have hn : (rs a m + (m.toNat - rs b m)) % m.toNat ≤ 9223372036854775807 := by have := Nat.mod_lt (rs a m + (m.toNat - rs b m)) (show m.toNat > 0 by omega); omega
    generalize (rs a m + (m.toNat - rs b m)) % m.toNat = z at *
    generalize m.toNat - rs b m = y at *
    go_enter Try.func17, Try.ntmps17
    go_wp2_with fail
    refine (HR.out _ ha _).mono ?_; rintro e w1 ⟨rfl, rfl⟩
    go_wp2_with fail
    refine (HR.out _ hb _).mono ?_; rintro e w1 ⟨rfl, rfl⟩
    go_wp2_with fail
    refine (HM.out _).mono ?_; rintro e w2 ⟨rfl, rfl⟩
    go_wp2_with fail
    go_ret
    exact ⟨ret_i64 HS.out, Below.refl _ _⟩

theorem emod_bd (a : Int) {m : Int} (hm : 1 ≤ m) : 0 ≤ a % m ∧ a % m < m := ⟨Int.emod_nonneg a (by omega), Int.emod_lt_of_pos a (by omega)⟩

set_option maxHeartbeats 400000 in
theorem RAdd_any (a b m : Int) (ha : In64 a) (hb : In64 b) (hm2 : m ≤ 9223372036854775807) (w : World) :
    Calls Try.prog 52 #[I a, I b, I m] w fun e w' => e = .returned (I (Fld.addS a b m)) ∧ w = w' := by
  by_cases hm : m < 1
  · rw [Fld.addS, if_pos hm]
    go_enter Try.func52, Try.ntmps52
    go_wp2_with fail
    go_ret
    exact ⟨rfl, rfl⟩
  · have hm1 : 1 ≤ m := by omega
    have HRa := Lib.hid (fun w => RResidue_any a m ha hm1 hm2 w)
    have HRb := Lib.hid (fun w => RResidue_any b m hb hm1 hm2 w)
    obtain ⟨a1, a2⟩ := emod_bd a hm1
    obtain ⟨b1, b2⟩ := emod_bd b hm1
    have HM := Lib.hid (fun w => rsum_any (a % m) (b % m) m hm1 hm2 a1 a2 b1 b2 w)
    have HS : Hid ((a % m + b % m) % m = Fld.addS a b m) := by show _ = _; rw [Fld.addS, if_neg hm, ← Int.add_emod]
    generalize a % m = x at *
    generalize b % m = y at *
    go_enter Try.func52, Try.ntmps52
    go_wp2_with fail
    refine (HRa.out _).mono ?_; rintro e w1 ⟨rfl, rfl⟩
    go_wp2_with fail
    refine (HRb.out _).mono ?_; rintro e w1 ⟨rfl, rfl⟩
    go_wp2_with fail
    refine (HM.out _).mono ?_; rintro e w2 ⟨rfl, rfl⟩
    go_wp2_with fail
    go_ret
    exact ⟨ret_i64 HS.out, rfl⟩

set_option maxHeartbeats 400000 in
theorem RSub_any (a b m : Int) (ha : In64 a) (hb : In64 b) (hm2 : m ≤ 9223372036854775807) (w : World) :
    Calls Try.prog 50 #[I a, I b, I m] w fun e w' => e = .returned (I (Fld.subS a b m)) ∧ w = w' := by
  by_cases hm : m < 1
  · rw [Fld.subS, if_pos hm]
    go_enter Try.func50, Try.ntmps50
    go_wp2_with fail
    go_ret
    exact ⟨rfl, rfl⟩
  · have hm1 : 1 ≤ m := by omega
    have HRa := Lib.hid (fun w => RResidue_any a m ha hm1 hm2 w)
    have HRb := Lib.hid (fun w => RResidue_any b m hb hm1 hm2 w)
    obtain ⟨a1, a2⟩ := emod_bd a hm1
    obtain ⟨b1, b2⟩ := emod_bd b hm1
    have HS : Hid ((a % m - b % m) % m = Fld.subS a b m) := by show _ = _; rw [Fld.subS, if_neg hm, ← Int.sub_emod]
    generalize a % m = x at *
    generalize b % m = y at *
    go_enter Try.func50, Try.ntmps50
    go_wp2_with fail
    refine (HRa.out _).mono ?_; rintro e w1 ⟨rfl, rfl⟩
    go_wp2_with fail
    refine (HRb.out _).mono ?_; rintro e w1 ⟨rfl, rfl⟩
    go_wp2_with fail
    · have h : y ≤ x := by assumption
      go_ret
      refine ⟨ret_i64 ?_, rfl⟩
      rw [← HS.out, Int.emod_eq_of_lt (by omega) (by omega)]
    · have h : x < y := by assumption
      go_ret
      refine ⟨ret_i64 ?_, rfl⟩
      rw [← HS.out, ← Int.add_emod_right, Int.emod_eq_of_lt (by omega) (by omega)]; omega

/-- While a product is summed. -/
structure MulI (ab m x y o : Int) : Prop where
  x0 : 0 ≤ x
  x1 : x < m
  y0 : 0 ≤ y
  y1 : y ≤ 9223372036854775807
  o0 : 0 ≤ o
  o1 : o < m
  eq : (o + x * y) % m = ab % m
theorem MulI.even {ab m x y o : Int} (h : MulI ab m x y o) (hm : 1 ≤ m) (hy : y % 2 = 0) : MulI ab m ((x + x) % m) (y / 2) o := by
  obtain ⟨h0, h1⟩ := emod_bd (x + x) hm
  have h2 := h.y0
  have h3 := h.y1
  refine ⟨h0, h1, by omega, by omega, h.o0, h.o1, ?_⟩
  rw [← h.eq, Int.add_emod, Int.mul_emod, Int.emod_emod_of_dvd _ (Int.dvd_refl m), ← Int.mul_emod, ← Int.add_emod]
  congr 2
  rw [show x + x = x * 2 by omega, Int.mul_assoc, show 2 * (y / 2) = y by omega]
theorem MulI.odd {ab m x y o : Int} (h : MulI ab m x y o) (hm : 1 ≤ m) (hy : y % 2 = 1) : MulI ab m ((x + x) % m) (y / 2) ((o + x) % m) := by
  obtain ⟨h0, h1⟩ := emod_bd (x + x) hm
  obtain ⟨k0, k1⟩ := emod_bd (o + x) hm
  have h2 := h.y0
  have h3 := h.y1
  refine ⟨h0, h1, by omega, by omega, k0, k1, ?_⟩
  rw [← h.eq, Int.add_emod, Int.mul_emod, Int.emod_emod_of_dvd _ (Int.dvd_refl m), Int.emod_emod_of_dvd _ (Int.dvd_refl m), ← Int.mul_emod, ← Int.add_emod]
  congr 1
  have e : x * y = x * (2 * (y / 2)) + x := by
    conv => lhs; rw [show y = 2 * (y / 2) + 1 by omega, Int.mul_add, Int.mul_one]
  rw [show x + x = x * 2 by omega, Int.mul_assoc, e]; omega

set_option maxHeartbeats 1000000 in
theorem RMul_any (a b m : Int) (ha : In64 a) (hb : In64 b) (hm2 : m ≤ 9223372036854775807) (w : World) :
    Calls Try.prog 49 #[I a, I b, I m] w fun e w' => e = .returned (I (Fld.mulS a b m)) ∧ w = w' := by
  by_cases hm : m < 1
  · rw [Fld.mulS, if_pos hm]
    go_enter Try.func49, Try.ntmps49
    go_wp2_with fail
    go_ret
    exact ⟨rfl, rfl⟩
  · have hm1 : 1 ≤ m := by omega
    have HRa := Lib.hid (fun w => RResidue_any a m ha hm1 hm2 w)
    have HRb := Lib.hid (fun w => RResidue_any b m hb hm1 hm2 w)
    have HM := Lib.hid (fun a b a1 a2 b1 b2 w => rsum_any a b m hm1 hm2 a1 a2 b1 b2 w)
    obtain ⟨a1, a2⟩ := emod_bd a hm1
    obtain ⟨b1, b2⟩ := emod_bd b hm1
    have H0 : MulI (a * b) m (a % m) (b % m) 0 := ⟨a1, a2, b1, by omega, by omega, by omega, by rw [Int.zero_add, ← Int.mul_emod]⟩
    have HS : Hid (a * b % m = Fld.mulS a b m) := by show _ = _; rw [Fld.mulS, if_neg hm]
    generalize a % m = x at *
    generalize b % m = y at *
    generalize a * b = ab at *
    clear a1 a2 b1 b2
    go_enter Try.func49, Try.ntmps49
    go_wp2_with fail
    refine (HRa.out _).mono ?_; rintro e w1 ⟨rfl, rfl⟩
    go_wp2_with fail
    refine (HRb.out _).mono ?_; rintro e w1 ⟨rfl, rfl⟩
    go_wp2_with fail
    go_loop [7, 8, 9] (fun x y o => ∃ X Y O : Int, x = I X ∧ y = I Y ∧ o = I O ∧ MulI ab m X Y O) (fun _ y _ => (intOf y).toNat)
    case atStart => exact ⟨x, y, 0, rfl, rfl, rfl, H0⟩
    case round =>
      obtain ⟨X, Y, O, rfl, rfl, rfl, HI⟩ := hrel
      clear H0
      have HIh := Lib.hid HI
      obtain ⟨x0, x1, y0, y1, o0, o1, _⟩ := HI
      by_cases hlt : 0 < Y
      · by_cases hodd : Y % 2 = 1
        · have ht : (Y % 2 == 1) = true := by simp [hodd]
          have HN := Lib.hid (HIh.out.odd hm1 hodd)
          clear hodd
          go_wp2_with fail
          refine (HM.out O X o0 o1 x0 x1 _).mono ?_; rintro e w2 ⟨rfl, rfl⟩
          go_wp2_with fail
          refine (HM.out X X x0 x1 x0 x1 _).mono ?_; rintro e w2 ⟨rfl, rfl⟩
          go_wp2_with fail
          go_round
          case rel => exact ⟨_, _, _, rfl, rfl, rfl, HN.out⟩
          case measure => simp [intOf]; omega
        · have ht : (Y % 2 == 1) = false := by simp [hodd]
          have HN := Lib.hid (HIh.out.even hm1 (by omega))
          clear hodd
          go_wp2_with fail
          refine (HM.out X X x0 x1 x0 x1 _).mono ?_; rintro e w2 ⟨rfl, rfl⟩
          go_wp2_with fail
          go_round
          case rel => exact ⟨_, _, _, rfl, rfl, rfl, HN.out⟩
          case measure => simp [intOf]; omega
      · have hY : Hid (Y = 0) := by show _ = _; omega
        go_wp2_with fail
        go_ret
        refine ⟨ret_i64 ?_, rfl⟩
        have := HIh.out.eq
        rw [← HS.out, ← this, hY.out, Int.mul_zero, Int.add_zero, Int.emod_eq_of_lt o0 o1]

/-- While a power is multiplied. -/
structure PowI (p m n x o : Int) : Prop where
  n0 : 0 ≤ n
  n1 : n ≤ 9223372036854775807
  x0 : 0 ≤ x
  x1 : x < m
  o0 : 0 ≤ o
  o1 : o < m
  eq : (o * x ^ n.toNat) % m = p
theorem pow_step (m b acc : Int) (e : Nat) : (if e % 2 = 1 then acc * b % m else acc) * (b * b % m) ^ (e / 2) % m = acc * b ^ e % m := by
  have h := Fld.pw_spec m (e + 1) b e acc (Nat.lt_of_lt_of_le (Nat.lt_two_pow_self) (Nat.pow_le_pow_right (by omega) (by omega)))
  rw [Fld.pw, Fld.pw_spec m e _ _ _ (by have := @Nat.lt_two_pow_self (e / 2); have := Nat.pow_le_pow_right (n := 2) (by omega) (Nat.div_le_self e 2); omega)] at h
  exact h
theorem PowI.even {p m n x o : Int} (h : PowI p m n x o) (hm : 1 ≤ m) (hy : n % 2 = 0) : PowI p m (n / 2) (x * x % m) o := by
  obtain ⟨h0, h1⟩ := emod_bd (x * x) hm
  have h2 := h.n0
  have h3 := h.n1
  refine ⟨by omega, by omega, h0, h1, h.o0, h.o1, ?_⟩
  rw [← h.eq, ← pow_step m x o n.toNat, if_neg (by omega), show (n / 2).toNat = n.toNat / 2 by omega]
theorem PowI.odd {p m n x o : Int} (h : PowI p m n x o) (hm : 1 ≤ m) (hy : n % 2 = 1) : PowI p m (n / 2) (x * x % m) (o * x % m) := by
  obtain ⟨h0, h1⟩ := emod_bd (x * x) hm
  obtain ⟨k0, k1⟩ := emod_bd (o * x) hm
  have h2 := h.n0
  have h3 := h.n1
  refine ⟨by omega, by omega, h0, h1, k0, k1, ?_⟩
  rw [← h.eq, ← pow_step m x o n.toNat, if_pos (by omega), show (n / 2).toNat = n.toNat / 2 by omega]
theorem mulS_pos {a b m : Int} (hm : 1 ≤ m) : Fld.mulS a b m = a * b % m := by rw [Fld.mulS, if_neg (by omega)]
theorem in64 {x m : Int} (h0 : 0 ≤ x) (h1 : x < m) (hm : m ≤ 9223372036854775807) : In64 x := ⟨by omega, by omega⟩

set_option maxHeartbeats 1000000 in
theorem RPow_any (a n m : Int) (ha : In64 a) (hn : In64 n) (hm2 : m ≤ 9223372036854775807) (w : World) :
    Calls Try.prog 44 #[I a, I n, I m] w fun e w' => e = .returned (I (Fld.powS a n m)) ∧ w = w' := by
  by_cases hm : m < 1
  · rw [Fld.powS, if_pos (.inl hm)]
    go_enter Try.func44, Try.ntmps44
    go_wp2_with fail
    go_ret
    exact ⟨rfl, rfl⟩
  by_cases hn0 : n < 0
  · rw [Fld.powS, if_pos (.inr hn0)]
    go_enter Try.func44, Try.ntmps44
    go_wp2_with fail
    go_ret
    exact ⟨rfl, rfl⟩
  · have hm1 : 1 ≤ m := by omega
    have HRa := Lib.hid (fun w => RResidue_any a m ha hm1 hm2 w)
    have HRb := Lib.hid (fun w => RResidue_any 1 m ⟨by omega, by omega⟩ hm1 hm2 w)
    have HM := Lib.hid (fun a b (a1 : 0 ≤ a) (a2 : a < m) (b1 : 0 ≤ b) (b2 : b < m) w => mulS_pos (a := a) (b := b) hm1 ▸ RMul_any a b m (in64 a1 a2 hm2) (in64 b1 b2 hm2) hm2 w)
    obtain ⟨a1, a2⟩ := emod_bd a hm1
    obtain ⟨b1, b2⟩ := emod_bd 1 hm1
    obtain ⟨n1, n2⟩ := hn
    have H0 : PowI (Fld.powS a n m) m n (a % m) (1 % m) := ⟨by omega, n2, a1, a2, b1, b2, by
      rw [Fld.powS_eq a n m hm1 (by omega) (by omega), Int.mul_emod, Fld.emod_pow, Int.emod_emod_of_dvd _ (Int.dvd_refl m), ← Int.mul_emod, Int.one_mul]⟩
    generalize Fld.powS a n m = p at *
    generalize a % m = x at *
    generalize 1 % m = o at *
    clear a1 a2 b1 b2
    go_enter Try.func44, Try.ntmps44
    go_wp2_with fail
    refine (HRa.out _).mono ?_; rintro e w1 ⟨rfl, rfl⟩
    go_wp2_with fail
    refine (HRb.out _).mono ?_; rintro e w1 ⟨rfl, rfl⟩
    go_wp2_with fail
    go_loop [1, 7, 8] (fun n x o => ∃ N X O : Int, n = I N ∧ x = I X ∧ o = I O ∧ PowI p m N X O) (fun n _ _ => (intOf n).toNat)
    case atStart => exact ⟨n, x, o, rfl, rfl, rfl, H0⟩
    case round =>
      obtain ⟨N, X, O, rfl, rfl, rfl, HI⟩ := hrel
      clear H0
      have HIh := Lib.hid HI
      obtain ⟨y0, y1, x0, x1, o0, o1, _⟩ := HI
      by_cases hlt : 0 < N
      · by_cases hodd : N % 2 = 1
        · have ht : (N % 2 == 1) = true := by simp [hodd]
          have HN := Lib.hid (HIh.out.odd hm1 hodd)
          clear hodd
          go_wp2_with fail
          refine (HM.out O X o0 o1 x0 x1 _).mono ?_; rintro e w2 ⟨rfl, rfl⟩
          go_wp2_with fail
          refine (HM.out X X x0 x1 x0 x1 _).mono ?_; rintro e w2 ⟨rfl, rfl⟩
          go_wp2_with fail
          go_round
          case rel => exact ⟨_, _, _, rfl, rfl, rfl, HN.out⟩
          case measure => simp [intOf]; omega
        · have ht : (N % 2 == 1) = false := by simp [hodd]
          have HN := Lib.hid (HIh.out.even hm1 (by omega))
          clear hodd
          go_wp2_with fail
          refine (HM.out X X x0 x1 x0 x1 _).mono ?_; rintro e w2 ⟨rfl, rfl⟩
          go_wp2_with fail
          go_round
          case rel => exact ⟨_, _, _, rfl, rfl, rfl, HN.out⟩
          case measure => simp [intOf]; omega
      · have hY : Hid (N = 0) := by show _ = _; omega
        go_wp2_with fail
        go_ret
        refine ⟨ret_i64 ?_, rfl⟩
        have := HIh.out.eq
        rw [hY.out, Int.toNat_zero, Int.pow_zero, Int.mul_one, Int.emod_eq_of_lt o0 o1] at this
        exact this

end Go.Proofs.Ytdnabeldaighgaa
