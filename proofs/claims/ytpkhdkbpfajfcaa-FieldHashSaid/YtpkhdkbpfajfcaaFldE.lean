/- The contracts of Member, Element and modulus; the chapter's examples. Conditions: none but the range of int. -/
import Derived.Test.YtpkhdkbpfajfcaaPowB
namespace Go.Proofs.Ytpkhdkbpfajfcaa
open Go.RowKit Go.Shelf

theorem PP_le : FldP.PP ≤ 9223372036854775807 := by decide
theorem QQ_in : In64 FldP.QQ := ⟨by decide, by decide⟩
/-- A call behind which all that lay in w lies as it lay. -/
theorem Calls.chain {P : Program} {f : FuncId} {args : Array Value} {w w1 : World} {v : Value} (hB : Below w.heap.size w w1)
    (h : Calls P f args w1 fun e w' => e = .returned v ∧ Below w1.heap.size w1 w') : Calls P f args w1 fun e w' => e = .returned v ∧ Below w.heap.size w w' :=
  h.mono fun _ _ ⟨he, hb⟩ => ⟨he, hB.trans (hb.mono hB.size)⟩
theorem Calls.still {P : Program} {f : FuncId} {args : Array Value} {w w1 : World} {v : Value} (hB : Below w.heap.size w w1)
    (h : Calls P f args w1 fun e w' => e = .returned v ∧ w1 = w') : Calls P f args w1 fun e w' => e = .returned v ∧ Below w.heap.size w w' :=
  h.mono fun _ _ ⟨he, hb⟩ => ⟨he, hb ▸ hB⟩

theorem memS_no {a : Int} (h : ¬ (0 < a ∧ a < FldP.PP)) : FldP.memS a = false := by
  rw [← Bool.not_eq_true, FldP.memS_iff]; exact fun k => h ⟨k.1, k.2.1⟩
theorem memS_yes {a : Int} (h1 : 0 < a) (h2 : a < FldP.PP) : FldP.memS a = (Fld.powS a FldP.QQ FldP.PP == 1) := by
  unfold FldP.memS
  rw [decide_eq_true h1, decide_eq_true h2]; rfl

set_option maxHeartbeats 400000 in
theorem Member_any (a : Int) (ha : In64 a) (w : World) :
    Calls Try.prog 25 #[I a] w fun e w' => e = .returned (.bool (FldP.memS a)) ∧ Below w.heap.size w w' := by
  by_cases h1 : 0 < a
  · by_cases h2 : a < 2305843009213691579
    · rw [memS_yes h1 h2]
      have HP := Lib.hid (fun w => Pow_any a FldP.QQ FldP.PP ha QQ_in PP_le w)
      generalize Fld.powS a FldP.QQ FldP.PP = p at *
      go_enter Try.func25, Try.ntmps25
      go_wp2_with fail
      refine (HP.out _).mono ?_; rintro e w1 ⟨rfl, hb⟩
      go_wp2_with fail
      go_ret
      exact ⟨rfl, hb⟩
    · rw [memS_no (fun h => h2 h.2)]
      have h3 : decide (a < 2305843009213691579) = false := by simpa using h2
      go_enter Try.func25, Try.ntmps25
      go_wp2_with fail
      go_ret
      exact ⟨rfl, Below.refl _ w⟩
  · rw [memS_no (fun h => h1 h.1)]
    have h3 : decide (0 < a) = false := by simpa using h1
    go_enter Try.func25, Try.ntmps25
    go_wp2_with fail
    go_ret
    exact ⟨rfl, Below.refl _ w⟩

set_option maxHeartbeats 400000 in
theorem RMember_any (a : Int) (ha : In64 a) (w : World) :
    Calls Try.prog 26 #[I a] w fun e w' => e = .returned (.bool (FldP.memS a)) ∧ w = w' := by
  by_cases h1 : 1 ≤ a
  · by_cases h2 : a < 2305843009213691579
    · rw [memS_yes (by omega) h2]
      have HP := Lib.hid (fun w => RPow_any a FldP.QQ FldP.PP ha QQ_in PP_le w)
      generalize Fld.powS a FldP.QQ FldP.PP = p at *
      go_enter Try.func26, Try.ntmps26
      go_wp2_with fail
      refine (HP.out _).mono ?_; rintro e w1 ⟨rfl, rfl⟩
      go_wp2_with fail
      go_ret
      exact ⟨rfl, rfl⟩
    · rw [memS_no (fun h => h2 h.2)]
      have h3 : decide (a < 2305843009213691579) = false := by simpa using h2
      go_enter Try.func26, Try.ntmps26
      go_wp2_with fail
      go_ret
      exact ⟨rfl, rfl⟩
  · rw [memS_no (fun h => h1 h.1)]
    have h3 : decide (1 ≤ a) = false := by simpa using h1
    go_enter Try.func26, Try.ntmps26
    go_wp2_with fail
    go_ret
    exact ⟨rfl, rfl⟩

set_option maxHeartbeats 400000 in
theorem Element_any (n : Int) (hn : In64 n) (w : World) :
    Calls Try.prog 24 #[I n] w fun e w' => e = .returned (I (FldP.elemS n)) ∧ w = w' := by
  unfold FldP.elemS
  have HR := Lib.hid (fun w => RResidue_any n (FldP.PP - 1) hn (by decide) (by decide) w)
  have h0 := Int.emod_nonneg n (by decide : FldP.PP - 1 ≠ 0)
  have h1 := Int.emod_lt_of_pos n (by decide : 0 < FldP.PP - 1)
  have h2 : FldP.PP - 1 = 2305843009213691578 := by decide
  obtain ⟨x, hx⟩ : ∃ x, n % (FldP.PP - 1) = x := ⟨_, rfl⟩
  rw [hx] at h0 h1 HR
  rw [hx]
  rw [h2] at h1 HR
  have HM := Lib.hid (fun w => RMul_any (x + 1) (x + 1) FldP.PP ⟨by omega, by omega⟩ ⟨by omega, by omega⟩ PP_le w)
  clear h2 hx
  go_enter Try.func24, Try.ntmps24
  go_wp2_with fail
  refine (HR.out _).mono ?_; rintro e w1 ⟨rfl, rfl⟩
  go_wp2_with fail
  refine (HM.out _).mono ?_; rintro e w1 ⟨rfl, rfl⟩
  go_wp2_with fail
  go_ret
  exact ⟨rfl, rfl⟩

/-- The modulus that two numbers determine. -/
def modS (n raw : Int) : Int := if n % 4 = 0 then FldP.PP else if n % 4 = 1 then FldP.QQ else if n % 4 = 2 then 1 + raw % 64 else raw
theorem modS_le {n raw : Int} (h : In64 raw) : modS n raw ≤ 9223372036854775807 := by
  unfold modS
  split
  · decide
  split
  · decide
  split
  · omega
  · exact h.2
set_option maxHeartbeats 400000 in
theorem modulus_any (n raw : Int) (w : World) :
    Calls Try.prog 13 #[I n, I raw] w fun e w' => e = .returned (I (modS n raw)) ∧ w = w' := by
  have e3 := i64_andm3 n
  have e63 := i64_andm63 raw
  have b0 : 0 ≤ raw % 64 := Int.emod_nonneg raw (by decide)
  have b1 : raw % 64 < 64 := Int.emod_lt_of_pos raw (by decide)
  unfold modS
  by_cases h0 : n % 4 = 0
  · have t : (n % 4 == 0) = true := by simpa using h0
    rw [if_pos h0]
    clear h0
    go_enter Try.func13, Try.ntmps13
    go_wp2_with fail
    go_ret
    exact ⟨rfl, rfl⟩
  rw [if_neg h0]
  by_cases h1 : n % 4 = 1
  · have t0 : (n % 4 == 0) = false := by simpa using h0
    have t : (n % 4 == 1) = true := by simpa using h1
    rw [if_pos h1]
    clear h0 h1
    go_enter Try.func13, Try.ntmps13
    go_wp2_with fail
    go_ret
    exact ⟨rfl, rfl⟩
  rw [if_neg h1]
  by_cases h2 : n % 4 = 2
  · have t0 : (n % 4 == 0) = false := by simpa using h0
    have t1 : (n % 4 == 1) = false := by simpa using h1
    have t : (n % 4 == 2) = true := by simpa using h2
    rw [if_pos h2]
    clear h0 h1 h2
    go_enter Try.func13, Try.ntmps13
    go_wp2_with fail
    go_ret
    exact ⟨rfl, rfl⟩
  rw [if_neg h2]
  have t0 : (n % 4 == 0) = false := by simpa using h0
  have t1 : (n % 4 == 1) = false := by simpa using h1
  have t : (n % 4 == 2) = false := by simpa using h2
  clear h0 h1 h2
  go_enter Try.func13, Try.ntmps13
  go_wp2_with fail
  go_ret
  exact ⟨rfl, rfl⟩

theorem in_lit {x : Int} (h : (decide (-9223372036854775808 ≤ x) && decide (x ≤ 9223372036854775807)) = true) : In64 x := by simpa [In64] using h
theorem mem1 : FldP.memS 1 = true := (FldP.memS_iff 1).2 ⟨by decide, by decide, by rw [Int.one_pow]; rfl⟩
theorem mem4 : FldP.memS 4 = true := by
  have h := FldP.fermat_PP 2 (by decide)
  refine (FldP.memS_iff 4).2 ⟨by decide, by decide, ?_⟩
  rw [show 2305843009213691578 = 2 * 1152921504606845789 from rfl, Int.pow_mul] at h
  exact h
theorem mem0 : FldP.memS 0 = false := memS_no (by decide)
theorem memL : FldP.memS 2305843009213691578 = false := by
  have h := FldP.memS_neg mem1
  rw [show FldP.PP - 1 = 2305843009213691578 by decide] at h
  exact h

set_option maxRecDepth 100000 in
set_option maxHeartbeats 1000000 in
theorem sanity_any (w : World) :
    Calls Try.prog 12 #[] w fun e w' => e = .returned (.bool true) ∧ Below w.heap.size w w' := by
  have hB := Below.refl w.heap.size w
  have E1 := Lib.hid (fun w => (show Fld.invS 3 7 = (5, true) by decide +kernel) ▸ Inv_any 3 7 (in_lit rfl) (by decide) w)
  have E2 := Lib.hid (fun w => (show Fld.invS 2 4 = (0, false) by decide +kernel) ▸ Inv_any 2 4 (in_lit rfl) (by decide) w)
  have E3 := Lib.hid (fun w => (show Fld.invS 5 1 = (0, true) by decide +kernel) ▸ Inv_any 5 1 (in_lit rfl) (by decide) w)
  have E4 := Lib.hid (fun w => (show Fld.mulS 4611686018427387904 4611686018427387904 4611686018427387905 = 1 by decide +kernel) ▸ Mul_any 4611686018427387904 4611686018427387904 4611686018427387905 (in_lit rfl) (in_lit rfl) (by decide) w)
  have E5 := Lib.hid (fun w => (show Fld.addS 9223372036854775807 9223372036854775807 10 = 4 by decide +kernel) ▸ Add_any 9223372036854775807 9223372036854775807 10 (in_lit rfl) (in_lit rfl) (by decide) w)
  have E6 := Lib.hid (fun w => (show Fld.subS (-9223372036854775808) 9223372036854775807 10 = 5 by decide +kernel) ▸ Sub_any (-9223372036854775808) 9223372036854775807 10 (in_lit rfl) (in_lit rfl) (by decide) w)
  have E7 := Lib.hid (fun w => (show Fld.powS 3 5 7 = 5 by decide +kernel) ▸ Pow_any 3 5 7 (in_lit rfl) (in_lit rfl) (by decide) w)
  have E8 := Lib.hid (fun w => (show Fld.powS 0 0 5 = 1 by decide +kernel) ▸ Pow_any 0 0 5 (in_lit rfl) (in_lit rfl) (by decide) w)
  have E9 := Lib.hid (fun w => (show Fld.powS 2 (-1) 5 = 0 by decide +kernel) ▸ Pow_any 2 (-1) 5 (in_lit rfl) (in_lit rfl) (by decide) w)
  have M1 := Lib.hid (fun w => mem1 ▸ Member_any 1 (in_lit rfl) w)
  have M2 := Lib.hid (fun w => mem4 ▸ Member_any 4 (in_lit rfl) w)
  have M3 := Lib.hid (fun w => mem0 ▸ Member_any 0 (in_lit rfl) w)
  have M4 := Lib.hid (fun w => memL ▸ Member_any 2305843009213691578 (in_lit rfl) w)
  go_enter Try.func12, Try.ntmps12
  go_wp2_with fail
  refine (Calls.chain hB (E1.out _)).mono ?_; clear hB; rintro e w1 ⟨rfl, hB⟩
  go_wp2_with fail
  refine (Calls.chain hB (E2.out _)).mono ?_; clear hB; rintro e w2 ⟨rfl, hB⟩
  go_wp2_with fail
  refine (Calls.chain hB (E3.out _)).mono ?_; clear hB; rintro e w3 ⟨rfl, hB⟩
  go_wp2_with fail
  refine (Calls.chain hB (E4.out _)).mono ?_; clear hB; rintro e w4 ⟨rfl, hB⟩
  go_wp2_with fail
  refine (Calls.chain hB (E5.out _)).mono ?_; clear hB; rintro e w5 ⟨rfl, hB⟩
  go_wp2_with fail
  refine (Calls.chain hB (E6.out _)).mono ?_; clear hB; rintro e w6 ⟨rfl, hB⟩
  go_wp2_with fail
  refine (Calls.chain hB (E7.out _)).mono ?_; clear hB; rintro e w7 ⟨rfl, hB⟩
  go_wp2_with fail
  refine (Calls.chain hB (E8.out _)).mono ?_; clear hB; rintro e w8 ⟨rfl, hB⟩
  go_wp2_with fail
  refine (Calls.chain hB (E9.out _)).mono ?_; clear hB; rintro e w9 ⟨rfl, hB⟩
  go_wp2_with fail
  refine (Calls.chain hB (M1.out _)).mono ?_; clear hB; rintro e w10 ⟨rfl, hB⟩
  go_wp2_with fail
  refine (Calls.chain hB (M2.out _)).mono ?_; clear hB; rintro e w11 ⟨rfl, hB⟩
  go_wp2_with fail
  refine (Calls.chain hB (M3.out _)).mono ?_; clear hB; rintro e w12 ⟨rfl, hB⟩
  go_wp2_with fail
  refine (Calls.chain hB (M4.out _)).mono ?_; clear hB; rintro e w13 ⟨rfl, hB⟩
  go_wp2_with fail
  go_ret
  exact ⟨rfl, hB⟩

theorem addS_in {a b m : Int} (hm : m ≤ 9223372036854775807) : In64 (Fld.addS a b m) := by
  unfold Fld.addS; split
  · exact ⟨by omega, by omega⟩
  · have := emod_bd (a + b) (show 1 ≤ m by omega); exact ⟨by omega, by omega⟩
theorem subS_in {a b m : Int} (hm : m ≤ 9223372036854775807) : In64 (Fld.subS a b m) := by
  unfold Fld.subS; split
  · exact ⟨by omega, by omega⟩
  · have := emod_bd (a - b) (show 1 ≤ m by omega); exact ⟨by omega, by omega⟩
theorem mulS_in {a b m : Int} (hm : m ≤ 9223372036854775807) : In64 (Fld.mulS a b m) := by
  unfold Fld.mulS; split
  · exact ⟨by omega, by omega⟩
  · have := emod_bd (a * b) (show 1 ≤ m by omega); exact ⟨by omega, by omega⟩
theorem powS_in {a n m : Int} (hm : m ≤ 9223372036854775807) : In64 (Fld.powS a n m) := by
  unfold Fld.powS; split
  · exact ⟨by omega, by omega⟩
  · have := emod_bd (Fld.pw m 64 (a % m) n.toNat (1 % m)) (show 1 ≤ m by omega); exact ⟨by omega, by omega⟩
theorem pow_add_any (a i j m : Int) (hi : 0 ≤ i) (hj : 0 ≤ j) (h : i + j < 4611686018427387904) : Fld.mulS (Fld.powS a i m) (Fld.powS a j m) m = Fld.powS a (i + j) m := by
  by_cases hm : 1 ≤ m
  · exact (FldP.powS_add a i j m hm hi hj h).symm
  · rw [Fld.mulS, if_pos (by omega), Fld.powS, if_pos (.inl (by omega))]

end Go.Proofs.Ytpkhdkbpfajfcaa
