/- FieldFermat: the power of a number that P does not divide with the exponent P - 1 is 1; that with Q is 1 or -1; and that with P - 2 the inverse; no condition. -/
import Derived.Test.YtpkhdkbpfajfcaaFldE
import Derived.Test.YtpkhdkbpfajfcaaLaw
namespace Go.Proofs.Ytpkhdkbpfajfcaa.LFermat
open Go.ChangeShapes Go.WideShapes Go.ChangeAt Go.RowKit Go.Shelf

theorem prime_lit : FldP.PP = 2305843009213691579 := rfl
theorem add0 (a : Int) : Fld.addS a 0 FldP.PP = a % FldP.PP := by rw [Fld.addS, if_neg (by decide), Int.add_zero]
set_option maxRecDepth 100000 in
set_option maxHeartbeats 2000000 in
theorem walk (a : Int) (ha : In64 a) (w : World) :
    Calls Try.prog 10 #[I a] w fun e w' => e = .returned (.bool true) ∧ Below w.heap.size w w' := by
  have A1 := Lib.hid (fun w => Add_any a 0 FldP.PP ha ⟨by omega, by omega⟩ PP_le w)
  rw [add0] at A1
  have A2 := Lib.hid (fun w => Inv_any a FldP.PP ha PP_le w)
  have A3 := Lib.hid (fun w => Pow_any a FldP.QQ FldP.PP ha QQ_in PP_le w)
  have A4 := Lib.hid (fun w => Pow_any a (FldP.PP - 1) FldP.PP ha ⟨by decide, by decide⟩ PP_le w)
  have A5 := Lib.hid (fun w => Pow_any a (FldP.PP - 2) FldP.PP ha ⟨by decide, by decide⟩ PP_le w)
  have hi := FldP.inv_PP a
  by_cases hz : a % FldP.PP = 0
  · rw [hz] at A1
    rw [FldP.zero_powS a FldP.QQ hz (by decide) (by decide)] at A3
    rw [FldP.zero_powS a (FldP.PP - 1) hz (by decide) (by decide)] at A4
    have hu : (Fld.invS a FldP.PP).2 = false := by rw [← Bool.not_eq_true, hi]; exact fun h => h hz
    obtain ⟨⟨x, u⟩, hxu⟩ : ∃ p, Fld.invS a FldP.PP = p := ⟨_, rfl⟩
    rw [hxu] at A2 hu
    dsimp only at hu
    subst hu
    simp only [P2] at A2
    rw [show FldP.PP - 1 = 2305843009213691578 by decide] at A4
    clear hi hz hxu A5
    have hB := Below.refl w.heap.size w
    go_enter Try.func10, Try.ntmps10
    go_wp2_with fail
    refine (Calls.chain hB (sanity_any _)).mono ?_; clear hB; rintro e w9 ⟨rfl, hB⟩
    go_wp2_with fail
    refine (Calls.chain hB (A1.out _)).mono ?_; clear hB; rintro e w9 ⟨rfl, hB⟩
    go_wp2_with fail
    refine (Calls.chain hB (A2.out _)).mono ?_; clear hB; rintro e w9 ⟨rfl, hB⟩
    go_wp2_with fail
    refine (Calls.chain hB (A3.out _)).mono ?_; clear hB; rintro e w9 ⟨rfl, hB⟩
    go_wp2_with fail
    refine (Calls.chain hB (A4.out _)).mono ?_; clear hB; rintro e w9 ⟨rfl, hB⟩
    go_wp2_with fail
    go_ret
    exact ⟨rfl, hB⟩
  · have hu := hi.2 hz
    rw [FldP.fermat_powS a hz] at A4
    rw [FldP.fermat_inv a hz] at A5
    have hh := FldP.half_powS a hz
    obtain ⟨⟨x, u⟩, hxu⟩ : ∃ p, Fld.invS a FldP.PP = p := ⟨_, rfl⟩
    rw [hxu] at A2 A5 hu
    dsimp only at hu A5
    subst hu
    simp only [P2] at A2
    have hz' : (a % FldP.PP == 0) = false := by simpa using hz
    generalize a % FldP.PP = r at *
    generalize Fld.powS a FldP.QQ FldP.PP = h at *
    rw [show FldP.PP - 1 = 2305843009213691578 by decide] at A4 hh
    rw [show FldP.PP - 2 = 2305843009213691577 by decide] at A5
    clear hi hz hxu
    rcases hh with rfl | rfl
    all_goals
      have hB := Below.refl w.heap.size w
      go_enter Try.func10, Try.ntmps10
      go_wp2_with fail
      refine (Calls.chain hB (sanity_any _)).mono ?_; clear hB; rintro e w9 ⟨rfl, hB⟩
      go_wp2_with fail
      refine (Calls.chain hB (A1.out _)).mono ?_; clear hB; rintro e w9 ⟨rfl, hB⟩
      go_wp2_with fail
      refine (Calls.chain hB (A2.out _)).mono ?_; clear hB; rintro e w9 ⟨rfl, hB⟩
      go_wp2_with fail
      refine (Calls.chain hB (A3.out _)).mono ?_; clear hB; rintro e w9 ⟨rfl, hB⟩
      go_wp2_with fail
      refine (Calls.chain hB (A4.out _)).mono ?_; clear hB; rintro e w9 ⟨rfl, hB⟩
      go_wp2_with fail
      refine (Calls.chain hB (A5.out _)).mono ?_; clear hB; rintro e w9 ⟨rfl, hB⟩
      go_wp2_with fail
      go_ret
      exact ⟨rfl, hB⟩

set_option maxRecDepth 100000 in
theorem lifted (os : Os) (started : os.Started) (H : Type) (enc : TypeId × Value → H) :
    ReturnsInHanded {} Try.checked os 10 .any (Rows.fieldFermatSpec.pre6 enc Try.prog Try.f10 Rows.fieldFermatRow.domain false) (Rows.fieldFermatSpec.post enc Try.prog Try.f10 false true false false) := by
  refine returnsInHanded_of_change (C := Try.checked) law_own started (by kernel_rfl) Try.func10
    (ChangeSpec.witness6 (enc := enc) (C := Try.checked) false ⟨#[], #[.int .i64 0], []⟩ 8 (by kernel_rfl) (by kernel_rfl) (by kernel_rfl) (by kernel_rfl)) ?_
  intro W base args ds gs before hval0 hW _ _
  have hval : ∀ (j : Nat) t v, Try.f10.params[j]? = some t → args[j]? = some v → Value.okWide Try.prog W .any base t v := hval0
  have hWk : DataW.Whole enc Try.prog Try.f10.params.toList Rows.fieldFermatSpec.vars false W args.toList ds gs before := hW
  obtain ⟨p, q, hA0, hV, rfl, _, _⟩ := hW
  have hA : DataW.TrodAll enc Try.prog W 0 (fun _ => true) true Try.f10.params.toList args.toList ds p := hA0
  rw [Try.params10] at hA hval
  obtain ⟨v0, vs0, d0, ds0, p0, q0, hargs, rfl, rfl, h0, r0⟩ := trodAll_cons hA
  obtain ⟨rfl, rfl, rfl⟩ := trodAll_nil r0
  obtain rfl : args = #[v0] := by cases args; simp_all
  obtain ⟨rfl, rfl⟩ := trodVars_none hV
  obtain ⟨a0, rfl, _, _, w0⟩ := open_int Try.underlying3 (hval 0 3 v0 rfl rfl) h0
  clear hA0 hval0
  refine (walk a0 (wf_i64 w0) W).mono fun e W' ⟨he, hb⟩ => ?_
  exact ⟨_, he, law_post law_laid rfl (by rw [Try.params10]; decide +kernel) (by kernel_rfl) Try.underlying4 rfl hWk hb⟩

theorem holds : Rows.FieldFermatSaid :=
  OpenClaim.holds_of_wide 10 Try.f10 rfl rfl rfl rfl rfl rfl rfl ⟨rfl, rfl, rfl, rfl, rfl⟩ rfl rfl rfl rfl rfl (by kernel_rfl) Try.func10 (by kernel_rfl)
    (of_decide_eq_true (by kernel_rfl)) (by unfold Func.isWrapper; first | (rw [if_pos (by decide +kernel)]; kernel_rfl) | (rw [if_neg (by decide +kernel)]; exact ⟨rfl, rfl⟩))
    (fun os started H enc _ => lifted os started H enc)

end Go.Proofs.Ytpkhdkbpfajfcaa.LFermat

namespace Go.Proofs.Ytpkhdkbpfajfcaa
/-- The statement. -/
theorem fieldFermat_holds : Rows.FieldFermatSaid := LFermat.holds
end Go.Proofs.Ytpkhdkbpfajfcaa
