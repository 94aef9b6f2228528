/- FieldInverse: Inv has the results of the reference; the product with an inverse is 1; modulo P there is one exactly for numbers that P does not divide; no condition. -/
import Derived.Test.YtpkhdkbpfajfcaaFldE
import Derived.Test.YtpkhdkbpfajfcaaLaw
namespace Go.Proofs.Ytpkhdkbpfajfcaa.LInverse
open Go.ChangeShapes Go.WideShapes Go.ChangeAt Go.RowKit Go.Shelf

theorem prime_lit : FldP.PP = 2305843009213691579 := rfl
theorem add0 (a : Int) : Fld.addS a 0 FldP.PP = a % FldP.PP := by rw [Fld.addS, if_neg (by decide), Int.add_zero]
theorem inv_facts (a m x : Int) (h : Fld.invS a m = (x, true)) : 0 ≤ x ∧ x < m ∧ Fld.mulS a x m = Fld.addS 1 0 m := by
  by_cases hm : m < 1
  · rw [Fld.invS, if_pos hm] at h; cases h
  · obtain ⟨_, h1, h2, h3⟩ := Fld.invS_spec a m (by omega)
    rw [h] at h1 h2 h3
    refine ⟨h1, h2, ?_⟩
    rw [Fld.mulS, if_neg hm, Fld.addS, if_neg hm, h3 rfl, Int.add_zero]
set_option maxRecDepth 100000 in
set_option maxHeartbeats 2000000 in
theorem walk (a n0 n1 : Int) (ha : In64 a) (hn : In64 n1) (w : World) :
    Calls Try.prog 7 #[I a, .agg #[I n0, I n1]] w fun e w' => e = .returned (.bool true) ∧ Below w.heap.size w w' := by
  have hm := modS_le (n := n0) hn
  have HMod := Lib.hid (fun w => modulus_any n0 n1 w)
  generalize modS n0 n1 = m at *
  have A1 := Lib.hid (fun w => Inv_any a m ha hm w)
  have A2 := Lib.hid (fun w => RInv_any a m ha hm w)
  have A3 := Lib.hid (fun w => Inv_any a FldP.PP ha PP_le w)
  have A4 := Lib.hid (fun w => Add_any a 0 FldP.PP ha ⟨by omega, by omega⟩ PP_le w)
  have A5 := Lib.hid (fun w => Add_any 1 0 m ⟨by omega, by omega⟩ ⟨by omega, by omega⟩ hm w)
  have hq : (Fld.addS a 0 FldP.PP != 0) = (Fld.invS a FldP.PP).2 := by
    rw [add0, Bool.eq_iff_iff, FldP.inv_PP]; simp
  have HF := Lib.hid (fun x h => inv_facts a m x h)
  generalize Fld.addS a 0 FldP.PP = r at *
  obtain ⟨⟨x, u⟩, hxu⟩ : ∃ p, Fld.invS a m = p := ⟨_, rfl⟩
  obtain ⟨⟨z, v⟩, hzv⟩ : ∃ p, Fld.invS a FldP.PP = p := ⟨_, rfl⟩
  rw [hxu] at A1 A2
  rw [hzv] at A3 hq
  simp only [P2] at A1 A2 A3
  dsimp only at hq
  have HX := Lib.hid hxu
  clear hxu hzv
  cases u
  · go_enter Try.func7, Try.ntmps7
    go_wp2_with fail
    have k0 := Blk.new w #[I n0, I n1] 22
    have hB0 := (Below.refl w.heap.size w).alloc (Nat.le_refl _) (.cells #[I n0, I n1] 22)
    refine (sanity_any _).mono ?_; rintro e w1 ⟨rfl, hb1⟩
    have hB := hB0.trans (hb1.mono (by simp))
    have k1 := k0.below hb1 k0.lt
    have c0 := k1.cell 0 _ rfl
    have c1 := k1.cell 1 _ rfl
    go_wp2_with fail
    refine (Calls.still hB (HMod.out _)).mono ?_; clear hB; rintro e w9 ⟨rfl, hB⟩
    clear c0 c1
    go_wp2_with fail
    refine (Calls.chain hB (A1.out _)).mono ?_; clear hB; rintro e w9 ⟨rfl, hB⟩
    go_wp2_with fail
    refine (Calls.still hB (A2.out _)).mono ?_; clear hB; rintro e w9 ⟨rfl, hB⟩
    go_wp2_with fail
    refine (Calls.chain hB (A3.out _)).mono ?_; clear hB; rintro e w9 ⟨rfl, hB⟩
    go_wp2_with fail
    refine (Calls.chain hB (A4.out _)).mono ?_; clear hB; rintro e w9 ⟨rfl, hB⟩
    go_wp2_with fail
    go_ret
    exact ⟨rfl, hB⟩
  · obtain ⟨x0, x1, x2⟩ := HF.out x HX.out
    have A6 := Lib.hid (fun w => Mul_any a x m ha ⟨by omega, by omega⟩ hm w)
    rw [x2] at A6
    clear x2
    go_enter Try.func7, Try.ntmps7
    go_wp2_with fail
    have k0 := Blk.new w #[I n0, I n1] 22
    have hB0 := (Below.refl w.heap.size w).alloc (Nat.le_refl _) (.cells #[I n0, I n1] 22)
    refine (sanity_any _).mono ?_; rintro e w1 ⟨rfl, hb1⟩
    have hB := hB0.trans (hb1.mono (by simp))
    have k1 := k0.below hb1 k0.lt
    have c0 := k1.cell 0 _ rfl
    have c1 := k1.cell 1 _ rfl
    go_wp2_with fail
    refine (Calls.still hB (HMod.out _)).mono ?_; clear hB; rintro e w9 ⟨rfl, hB⟩
    clear c0 c1
    go_wp2_with fail
    refine (Calls.chain hB (A1.out _)).mono ?_; clear hB; rintro e w9 ⟨rfl, hB⟩
    go_wp2_with fail
    refine (Calls.still hB (A2.out _)).mono ?_; clear hB; rintro e w9 ⟨rfl, hB⟩
    go_wp2_with fail
    refine (Calls.chain hB (A3.out _)).mono ?_; clear hB; rintro e w9 ⟨rfl, hB⟩
    go_wp2_with fail
    refine (Calls.chain hB (A6.out _)).mono ?_; clear hB; rintro e w9 ⟨rfl, hB⟩
    go_wp2_with fail
    refine (Calls.chain hB (A5.out _)).mono ?_; clear hB; rintro e w9 ⟨rfl, hB⟩
    go_wp2_with fail
    refine (Calls.chain hB (A4.out _)).mono ?_; clear hB; rintro e w9 ⟨rfl, hB⟩
    go_wp2_with fail
    go_ret
    exact ⟨rfl, hB⟩

set_option maxRecDepth 100000 in
theorem lifted (os : Os) (started : os.Started) (H : Type) (enc : TypeId × Value → H) :
    ReturnsInHanded {} Try.checked os 7 .any (Rows.fieldInverseSpec.pre6 enc Try.prog Try.f7 Rows.fieldInverseRow.domain false) (Rows.fieldInverseSpec.post enc Try.prog Try.f7 false true false false) := by
  refine returnsInHanded_of_change (C := Try.checked) law_own started (by kernel_rfl) Try.func7
    (ChangeSpec.witness6 (enc := enc) (C := Try.checked) false ⟨#[], #[.int .i64 0, .agg #[.int .i64 0, .int .i64 0]], []⟩ 8 (by kernel_rfl) (by kernel_rfl) (by kernel_rfl) (by kernel_rfl)) ?_
  intro W base args ds gs before hval0 hW _ _
  have hval : ∀ (j : Nat) t v, Try.f7.params[j]? = some t → args[j]? = some v → Value.okWide Try.prog W .any base t v := hval0
  have hWk : DataW.Whole enc Try.prog Try.f7.params.toList Rows.fieldInverseSpec.vars false W args.toList ds gs before := hW
  obtain ⟨p, q, hA0, hV, rfl, _, _⟩ := hW
  have hA : DataW.TrodAll enc Try.prog W 0 (fun _ => true) true Try.f7.params.toList args.toList ds p := hA0
  rw [Try.params7] at hA hval
  obtain ⟨v0, vs0, d0, ds0, p0, q0, hargs, rfl, rfl, h0, r0⟩ := trodAll_cons hA
  obtain ⟨v1, vs1, d1, ds1, p1, q1, rfl, rfl, rfl, h1, r1⟩ := trodAll_cons r0
  obtain ⟨rfl, rfl, rfl⟩ := trodAll_nil r1
  obtain rfl : args = #[v0, v1] := by cases args; simp_all
  obtain ⟨rfl, rfl⟩ := trodVars_none hV
  obtain ⟨a0, rfl, _, _, w0⟩ := open_int Try.underlying3 (hval 0 3 v0 rfl rfl) h0
  obtain ⟨zs1, l1, rfl, w1⟩ := open_int_array Try.underlying22 Try.underlying3 (by kernel_rfl) (by kernel_rfl) (hval 1 22 v1 rfl rfl) h1
  obtain ⟨x1_0, x1_1, rfl⟩ := list2 l1
  clear hA0 hval0
  refine (walk a0 x1_0 x1_1 (wf_i64 w0) (wf_i64 (w1 x1_1 (by simp))) W).mono fun e W' ⟨he, hb⟩ => ?_
  exact ⟨_, he, law_post law_laid rfl (by rw [Try.params7]; decide +kernel) (by kernel_rfl) Try.underlying4 rfl hWk hb⟩

theorem holds : Rows.FieldInverseSaid :=
  OpenClaim.holds_of_wide 7 Try.f7 rfl rfl rfl rfl rfl rfl rfl ⟨rfl, rfl, rfl, rfl, rfl⟩ rfl rfl rfl rfl rfl (by kernel_rfl) Try.func7 (by kernel_rfl)
    (of_decide_eq_true (by kernel_rfl)) (by unfold Func.isWrapper; first | (rw [if_pos (by decide +kernel)]; kernel_rfl) | (rw [if_neg (by decide +kernel)]; exact ⟨rfl, rfl⟩))
    (fun os started H enc _ => lifted os started H enc)

end Go.Proofs.Ytpkhdkbpfajfcaa.LInverse

namespace Go.Proofs.Ytpkhdkbpfajfcaa
/-- The statement. -/
theorem fieldInverse_holds : Rows.FieldInverseSaid := LInverse.holds
end Go.Proofs.Ytpkhdkbpfajfcaa
