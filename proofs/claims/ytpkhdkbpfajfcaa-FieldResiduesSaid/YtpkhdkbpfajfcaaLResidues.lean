/- FieldResidues: results are residues, and for small numbers those of the operators of Go; no condition. -/
import Derived.Test.YtpkhdkbpfajfcaaFldE
import Derived.Test.YtpkhdkbpfajfcaaLaw
namespace Go.Proofs.Ytpkhdkbpfajfcaa.LResidues
open Go.ChangeShapes Go.WideShapes Go.ChangeAt Go.RowKit Go.Shelf

theorem tm (z m : Int) (h : 1 ≤ m) : (z.tmod m < 0 ∧ z.tmod m + m = z % m) ∨ (0 ≤ z.tmod m ∧ z.tmod m = z % m) := by
  have h1 := Fld.residue_eq z m (by omega)
  by_cases h2 : z.tmod m < 0
  · rw [if_pos h2] at h1; exact .inl ⟨h2, h1⟩
  · rw [if_neg h2] at h1; exact .inr ⟨by omega, h1⟩
theorem tmb (z m : Int) (h : 1 ≤ m) : -m < z.tmod m ∧ z.tmod m < m := ⟨Int.lt_tmod_of_pos z (by omega), Int.tmod_lt_of_pos z (by omega)⟩
def In32 (x : Int) : Prop := -2147483648 ≤ x ∧ x ≤ 2147483647
theorem In32.in64 {x : Int} (h : In32 x) : In64 x := ⟨by have := h.1; omega, by have := h.2; omega⟩
theorem mul32 {x y : Int} (hx : In32 x) (hy : In32 y) : -4611686018427387904 ≤ x * y ∧ x * y ≤ 4611686018427387904 := by
  obtain ⟨a, b⟩ := hx
  obtain ⟨c, d⟩ := hy
  have h : (x * y).natAbs ≤ 2147483648 * 2147483648 := by
    rw [Int.natAbs_mul]; exact Nat.mul_le_mul (by omega) (by omega)
  omega
theorem wf_i32 {n : Int} (h : (Lit.int .i32 n).wf = true) : In32 n := by
  simpa [Lit.wf, IntKind.min, IntKind.max, IntKind.signed, IntKind.bits, In32] using h

set_option maxRecDepth 100000 in
set_option maxHeartbeats 2000000 in
theorem walk_no (a b n0 n1 : Int) (ha : In32 a) (hb : In32 b) (hn : In64 n1) (hlt : modS n0 n1 < 1) (w : World) :
    Calls Try.prog 4 #[.int .i32 a, .int .i32 b, .agg #[I n0, I n1]] w fun e w' => e = .returned (.bool true) ∧ Below w.heap.size w w' := by
  have hm := modS_le (n := n0) hn
  have HMod := Lib.hid (fun w => modulus_any n0 n1 w)
  generalize modS n0 n1 = m at *
  have HA := Lib.hid (fun w => (show Fld.addS a b m = 0 by rw [Fld.addS, if_pos hlt]) ▸ Add_any a b m ha.in64 hb.in64 hm w)
  have HS := Lib.hid (fun w => (show Fld.subS a b m = 0 by rw [Fld.subS, if_pos hlt]) ▸ Sub_any a b m ha.in64 hb.in64 hm w)
  have HM := Lib.hid (fun w => (show Fld.mulS a b m = 0 by rw [Fld.mulS, if_pos hlt]) ▸ Mul_any a b m ha.in64 hb.in64 hm w)
  obtain ⟨a1, a2⟩ := ha
  obtain ⟨b1, b2⟩ := hb
  go_enter Try.func4, Try.ntmps4
  go_wp2_with fail
  have k0 := Blk.new w #[I n0, I n1] 22
  have hB0 := (Below.refl w.heap.size w).alloc (Nat.le_refl _) (.cells #[I n0, I n1] 22)
  refine (sanity_any _).mono ?_; rintro e w1 ⟨rfl, hb1⟩
  have hB := hB0.trans (hb1.mono (by simp))
  have k1 := k0.below hb1 k0.lt
  have c0 := k1.cell 0 _ rfl
  have c1 := k1.cell 1 _ rfl
  go_wp2_with fail
  refine (Calls.still hB (HMod.out _)).mono ?_; clear hB; rintro e w9 ⟨rfl, hB⟩
  clear c0 c1
  go_wp2_with fail
  refine (Calls.chain hB (HA.out _)).mono ?_; clear hB; rintro e w9 ⟨rfl, hB⟩
  go_wp2_with fail
  refine (Calls.chain hB (HM.out _)).mono ?_; clear hB; rintro e w9 ⟨rfl, hB⟩
  go_wp2_with fail
  refine (Calls.chain hB (HS.out _)).mono ?_; clear hB; rintro e w9 ⟨rfl, hB⟩
  go_wp2_with fail
  go_ret
  exact ⟨rfl, hB⟩

set_option maxRecDepth 100000 in
set_option maxHeartbeats 2000000 in
theorem walk_yes (a b n0 n1 : Int) (ha : In32 a) (hb : In32 b) (hn : In64 n1) (hlt : 1 ≤ modS n0 n1) (w : World) :
    Calls Try.prog 4 #[.int .i32 a, .int .i32 b, .agg #[I n0, I n1]] w fun e w' => e = .returned (.bool true) ∧ Below w.heap.size w w' := by
  have hm := modS_le (n := n0) hn
  have HMod := Lib.hid (fun w => modulus_any n0 n1 w)
  generalize modS n0 n1 = m at *
  have hm0 : ¬ m < 1 := by omega
  have HA := Lib.hid (fun w => (show Fld.addS a b m = (a + b) % m by rw [Fld.addS, if_neg hm0]) ▸ Add_any a b m ha.in64 hb.in64 hm w)
  have HS := Lib.hid (fun w => (show Fld.subS a b m = (a - b) % m by rw [Fld.subS, if_neg hm0]) ▸ Sub_any a b m ha.in64 hb.in64 hm w)
  have HM := Lib.hid (fun w => (show Fld.mulS a b m = a * b % m by rw [Fld.mulS, if_neg hm0]) ▸ Mul_any a b m ha.in64 hb.in64 hm w)
  obtain ⟨s0, s1⟩ := emod_bd (a + b) hlt
  have HZ := Lib.hid (fun w => (show Fld.addS ((a + b) % m) 0 m = (a + b) % m by rw [Fld.addS, if_neg hm0, Int.add_zero, Int.emod_emod_of_dvd _ (Int.dvd_refl m)]) ▸ Add_any ((a + b) % m) 0 m (in64 s0 s1 hm) ⟨by omega, by omega⟩ hm w)
  obtain ⟨p1, p2⟩ := mul32 ha hb
  have T1 := tm (a + b) m hlt
  have T2 := tm (a * b) m hlt
  have T3 := tm (a - b) m hlt
  obtain ⟨u1, u2⟩ := tmb (a + b) m hlt
  obtain ⟨u3, u4⟩ := tmb (a * b) m hlt
  obtain ⟨u5, u6⟩ := tmb (a - b) m hlt
  obtain ⟨a1, a2⟩ := ha
  obtain ⟨b1, b2⟩ := hb
  have z0 : (m == 0) = false := by simp; omega
  obtain ⟨S, hS⟩ : ∃ S, (a + b) % m = S := ⟨_, rfl⟩
  obtain ⟨P, hP⟩ : ∃ S, a * b % m = S := ⟨_, rfl⟩
  obtain ⟨D, hD⟩ : ∃ S, (a - b) % m = S := ⟨_, rfl⟩
  rw [hS] at T1 HA HZ s0 s1
  rw [hP] at T2 HM
  rw [hD] at T3 HS
  clear hS hP hD
  rcases T1 with ⟨T1, E1⟩ | ⟨T1, E1⟩ <;> rcases T2 with ⟨T2, E2⟩ | ⟨T2, E2⟩ <;> rcases T3 with ⟨T3, E3⟩ | ⟨T3, E3⟩
  all_goals
    have X1 := Lib.hid E1
    have X2 := Lib.hid E2
    have X3 := Lib.hid E3
    clear E1 E2 E3
    go_enter Try.func4, Try.ntmps4
    go_wp2_with fail
    have k0 := Blk.new w #[I n0, I n1] 22
    have hB0 := (Below.refl w.heap.size w).alloc (Nat.le_refl _) (.cells #[I n0, I n1] 22)
    refine (sanity_any _).mono ?_; rintro e w1 ⟨rfl, hb1⟩
    have hB := hB0.trans (hb1.mono (by simp))
    have k1 := k0.below hb1 k0.lt
    have c0 := k1.cell 0 _ rfl
    have c1 := k1.cell 1 _ rfl
    go_wp2_with fail
    refine (Calls.still hB (HMod.out _)).mono ?_; clear hB; rintro e w9 ⟨rfl, hB⟩
    clear c0 c1
    go_wp2_with fail
    go_quiet (fail)
    have hB := Below.drewN hB nq
    generalize w9.drewN nq = w10 at *
    go_wp2_with fail
    simp only [X1.out, X2.out, X3.out]
    refine (Calls.chain hB (HA.out _)).mono ?_; clear hB; rintro e w11 ⟨rfl, hB⟩
    go_wp2_with fail
    refine (Calls.chain hB (HM.out _)).mono ?_; clear hB; rintro e w12 ⟨rfl, hB⟩
    go_wp2_with fail
    refine (Calls.chain hB (HS.out _)).mono ?_; clear hB; rintro e w13 ⟨rfl, hB⟩
    go_wp2_with fail
    refine (Calls.chain hB (HZ.out _)).mono ?_; clear hB; rintro e w14 ⟨rfl, hB⟩
    go_wp2_with fail
    go_ret
    exact ⟨rfl, hB⟩

theorem walk (a b n0 n1 : Int) (ha : In32 a) (hb : In32 b) (hn : In64 n1) (w : World) :
    Calls Try.prog 4 #[.int .i32 a, .int .i32 b, .agg #[I n0, I n1]] w fun e w' => e = .returned (.bool true) ∧ Below w.heap.size w w' := by
  by_cases h : modS n0 n1 < 1
  · exact walk_no a b n0 n1 ha hb hn h w
  · exact walk_yes a b n0 n1 ha hb hn (by omega) w

set_option maxRecDepth 100000 in
theorem lifted (os : Os) (started : os.Started) (H : Type) (enc : TypeId × Value → H) :
    ReturnsInHanded {} Try.checked os 4 .any (Rows.fieldResiduesSpec.pre6 enc Try.prog Try.f4 Rows.fieldResiduesRow.domain false) (Rows.fieldResiduesSpec.post enc Try.prog Try.f4 false true false false) := by
  refine returnsInHanded_of_change (C := Try.checked) law_own started (by kernel_rfl) Try.func4
    (ChangeSpec.witness6 (enc := enc) (C := Try.checked) false ⟨#[], #[.int .i32 0, .int .i32 0, .agg #[.int .i64 0, .int .i64 0]], []⟩ 8 (by kernel_rfl) (by kernel_rfl) (by kernel_rfl) (by kernel_rfl)) ?_
  intro W base args ds gs before hval0 hW _ _
  have hval : ∀ (j : Nat) t v, Try.f4.params[j]? = some t → args[j]? = some v → Value.okWide Try.prog W .any base t v := hval0
  have hWk : DataW.Whole enc Try.prog Try.f4.params.toList Rows.fieldResiduesSpec.vars false W args.toList ds gs before := hW
  obtain ⟨p, q, hA0, hV, rfl, _, _⟩ := hW
  have hA : DataW.TrodAll enc Try.prog W 0 (fun _ => true) true Try.f4.params.toList args.toList ds p := hA0
  rw [Try.params4] at hA hval
  obtain ⟨v0, vs0, d0, ds0, p0, q0, hargs, rfl, rfl, h0, r0⟩ := trodAll_cons hA
  obtain ⟨v1, vs1, d1, ds1, p1, q1, rfl, rfl, rfl, h1, r1⟩ := trodAll_cons r0
  obtain ⟨v2, vs2, d2, ds2, p2, q2, rfl, rfl, rfl, h2, r2⟩ := trodAll_cons r1
  obtain ⟨rfl, rfl, rfl⟩ := trodAll_nil r2
  obtain rfl : args = #[v0, v1, v2] := by cases args; simp_all
  obtain ⟨rfl, rfl⟩ := trodVars_none hV
  obtain ⟨a0, rfl, _, _, w0⟩ := open_int Try.underlying21 (hval 0 21 v0 rfl rfl) h0
  obtain ⟨a1, rfl, _, _, w1⟩ := open_int Try.underlying21 (hval 1 21 v1 rfl rfl) h1
  obtain ⟨zs2, l2, rfl, w2⟩ := open_int_array Try.underlying22 Try.underlying3 (by kernel_rfl) (by kernel_rfl) (hval 2 22 v2 rfl rfl) h2
  obtain ⟨x2_0, x2_1, rfl⟩ := list2 l2
  clear hA0 hval0
  refine (walk a0 a1 x2_0 x2_1 (wf_i32 w0) (wf_i32 w1) (wf_i64 (w2 x2_1 (by simp))) W).mono fun e W' ⟨he, hb⟩ => ?_
  exact ⟨_, he, law_post law_laid rfl (by rw [Try.params4]; decide +kernel) (by kernel_rfl) Try.underlying4 rfl hWk hb⟩

theorem holds : Rows.FieldResiduesSaid :=
  OpenClaim.holds_of_wide 4 Try.f4 rfl rfl rfl rfl rfl rfl rfl ⟨rfl, rfl, rfl, rfl, rfl⟩ rfl rfl rfl rfl rfl (by kernel_rfl) Try.func4 (by kernel_rfl)
    (of_decide_eq_true (by kernel_rfl)) (by unfold Func.isWrapper; first | (rw [if_pos (by decide +kernel)]; kernel_rfl) | (rw [if_neg (by decide +kernel)]; exact ⟨rfl, rfl⟩))
    (fun os started H enc _ => lifted os started H enc)

end Go.Proofs.Ytpkhdkbpfajfcaa.LResidues

namespace Go.Proofs.Ytpkhdkbpfajfcaa
/-- The statement. -/
theorem fieldResidues_holds : Rows.FieldResiduesSaid := LResidues.holds
end Go.Proofs.Ytpkhdkbpfajfcaa
