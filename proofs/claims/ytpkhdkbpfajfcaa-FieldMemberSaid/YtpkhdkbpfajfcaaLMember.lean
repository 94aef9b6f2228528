/- FieldMember: Member has the result of the reference, for any number; no condition. -/
import Derived.Test.YtpkhdkbpfajfcaaFldE
import Derived.Test.YtpkhdkbpfajfcaaLaw
namespace Go.Proofs.Ytpkhdkbpfajfcaa.LMember
open Go.ChangeShapes Go.WideShapes Go.ChangeAt Go.RowKit Go.Shelf

theorem prime_lit : FldP.PP = 2305843009213691579 := rfl
theorem add0 (a : Int) : Fld.addS a 0 FldP.PP = a % FldP.PP := by rw [Fld.addS, if_neg (by decide), Int.add_zero]
set_option maxRecDepth 100000 in
set_option maxHeartbeats 2000000 in
theorem walk (a b : Int) (ha : In64 a) (hb : In64 b) (w : World) :
    Calls Try.prog 8 #[I a, I b] w fun e w' => e = .returned (.bool true) ∧ Below w.heap.size w w' := by
  have hx := FldP.elemS_mem b
  obtain ⟨x0, x1⟩ := FldP.memS_range hx
  have x2 : FldP.elemS b < 2305843009213691579 := x1
  have A1 := Lib.hid (fun w => Element_any b hb w)
  have A2 := Lib.hid (fun w => Add_any a 0 FldP.PP ha ⟨by omega, by omega⟩ PP_le w)
  have hr : In64 (Fld.addS a 0 FldP.PP) := addS_in PP_le
  have hxn := FldP.memS_neg hx
  generalize FldP.elemS b = x at *
  generalize Fld.addS a 0 FldP.PP = r at *
  have A3 := Lib.hid (fun w => Member_any a ha w)
  have A4 := Lib.hid (fun w => RMember_any a ha w)
  have A5 := Lib.hid (fun w => Member_any r hr w)
  have A6 := Lib.hid (fun w => RMember_any r hr w)
  have A7 := Lib.hid (fun w => Member_any x ⟨by omega, by omega⟩ w)
  rw [hx] at A7
  have A8 := Lib.hid (fun w => Member_any (FldP.PP - x) ⟨by rw [prime_lit]; omega, by rw [prime_lit]; omega⟩ w)
  rw [hxn] at A8
  rw [prime_lit] at A8 x1
  clear hx hxn x2
  have hB := Below.refl w.heap.size w
  go_enter Try.func8, Try.ntmps8
  go_wp2_with fail
  refine (Calls.chain hB (sanity_any _)).mono ?_; clear hB; rintro e w9 ⟨rfl, hB⟩
  go_wp2_with fail
  refine (Calls.still hB (A1.out _)).mono ?_; clear hB; rintro e w9 ⟨rfl, hB⟩
  go_wp2_with fail
  refine (Calls.chain hB (A2.out _)).mono ?_; clear hB; rintro e w9 ⟨rfl, hB⟩
  go_wp2_with fail
  refine (Calls.chain hB (A3.out _)).mono ?_; clear hB; rintro e w9 ⟨rfl, hB⟩
  go_wp2_with fail
  refine (Calls.still hB (A4.out _)).mono ?_; clear hB; rintro e w9 ⟨rfl, hB⟩
  go_wp2_with fail
  refine (Calls.chain hB (A5.out _)).mono ?_; clear hB; rintro e w9 ⟨rfl, hB⟩
  go_wp2_with fail
  refine (Calls.still hB (A6.out _)).mono ?_; clear hB; rintro e w9 ⟨rfl, hB⟩
  go_wp2_with fail
  refine (Calls.chain hB (A7.out _)).mono ?_; clear hB; rintro e w9 ⟨rfl, hB⟩
  go_wp2_with fail
  refine (Calls.chain hB (A8.out _)).mono ?_; clear hB; rintro e w9 ⟨rfl, hB⟩
  go_wp2_with fail
  go_ret
  exact ⟨rfl, hB⟩

set_option maxRecDepth 100000 in
theorem lifted (os : Os) (started : os.Started) (H : Type) (enc : TypeId × Value → H) :
    ReturnsInHanded {} Try.checked os 8 .any (Rows.fieldMemberSpec.pre6 enc Try.prog Try.f8 Rows.fieldMemberRow.domain false) (Rows.fieldMemberSpec.post enc Try.prog Try.f8 false true false false) := by
  refine returnsInHanded_of_change (C := Try.checked) law_own started (by kernel_rfl) Try.func8
    (ChangeSpec.witness6 (enc := enc) (C := Try.checked) false ⟨#[], #[.int .i64 0, .int .i64 0], []⟩ 8 (by kernel_rfl) (by kernel_rfl) (by kernel_rfl) (by kernel_rfl)) ?_
  intro W base args ds gs before hval0 hW _ _
  have hval : ∀ (j : Nat) t v, Try.f8.params[j]? = some t → args[j]? = some v → Value.okWide Try.prog W .any base t v := hval0
  have hWk : DataW.Whole enc Try.prog Try.f8.params.toList Rows.fieldMemberSpec.vars false W args.toList ds gs before := hW
  obtain ⟨p, q, hA0, hV, rfl, _, _⟩ := hW
  have hA : DataW.TrodAll enc Try.prog W 0 (fun _ => true) true Try.f8.params.toList args.toList ds p := hA0
  rw [Try.params8] at hA hval
  obtain ⟨v0, vs0, d0, ds0, p0, q0, hargs, rfl, rfl, h0, r0⟩ := trodAll_cons hA
  obtain ⟨v1, vs1, d1, ds1, p1, q1, rfl, rfl, rfl, h1, r1⟩ := trodAll_cons r0
  obtain ⟨rfl, rfl, rfl⟩ := trodAll_nil r1
  obtain rfl : args = #[v0, v1] := by cases args; simp_all
  obtain ⟨rfl, rfl⟩ := trodVars_none hV
  obtain ⟨a0, rfl, _, _, w0⟩ := open_int Try.underlying3 (hval 0 3 v0 rfl rfl) h0
  obtain ⟨a1, rfl, _, _, w1⟩ := open_int Try.underlying3 (hval 1 3 v1 rfl rfl) h1
  clear hA0 hval0
  refine (walk a0 a1 (wf_i64 w0) (wf_i64 w1) W).mono fun e W' ⟨he, hb⟩ => ?_
  exact ⟨_, he, law_post law_laid rfl (by rw [Try.params8]; decide +kernel) (by kernel_rfl) Try.underlying4 rfl hWk hb⟩

theorem holds : Rows.FieldMemberSaid :=
  OpenClaim.holds_of_wide 8 Try.f8 rfl rfl rfl rfl rfl rfl rfl ⟨rfl, rfl, rfl, rfl, rfl⟩ rfl rfl rfl rfl rfl (by kernel_rfl) Try.func8 (by kernel_rfl)
    (of_decide_eq_true (by kernel_rfl)) (by unfold Func.isWrapper; first | (rw [if_pos (by decide +kernel)]; kernel_rfl) | (rw [if_neg (by decide +kernel)]; exact ⟨rfl, rfl⟩))
    (fun os started H enc _ => lifted os started H enc)

end Go.Proofs.Ytpkhdkbpfajfcaa.LMember

namespace Go.Proofs.Ytpkhdkbpfajfcaa
/-- The statement. -/
theorem fieldMember_holds : Rows.FieldMemberSaid := LMember.holds
end Go.Proofs.Ytpkhdkbpfajfcaa
