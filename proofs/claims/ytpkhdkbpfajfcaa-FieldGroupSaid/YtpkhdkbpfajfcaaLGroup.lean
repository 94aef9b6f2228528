/- FieldGroup: products, powers and inverses of elements of the group are elements; for each number that P does not divide either it or its negative is one; exponents count modulo Q; no condition. -/
import Derived.Test.YtpkhdkbpfajfcaaFldE
import Derived.Test.YtpkhdkbpfajfcaaLaw
namespace Go.Proofs.Ytpkhdkbpfajfcaa.LGroup
open Go.ChangeShapes Go.WideShapes Go.ChangeAt Go.RowKit Go.Shelf

theorem prime_lit : FldP.PP = 2305843009213691579 := rfl
theorem add0 (a : Int) : Fld.addS a 0 FldP.PP = a % FldP.PP := by rw [Fld.addS, if_neg (by decide), Int.add_zero]
set_option maxRecDepth 100000 in
set_option maxHeartbeats 2000000 in
theorem walk (a b n : Int) (ha : In64 a) (hb : In64 b) (w : World) :
    Calls Try.prog 9 #[I a, I b, I n] w fun e w' => e = .returned (.bool true) ∧ Below w.heap.size w w' := by
  have hx := FldP.elemS_mem a
  have hy := FldP.elemS_mem b
  obtain ⟨x0, x1⟩ := FldP.memS_range hx
  obtain ⟨y0, y1⟩ := FldP.memS_range hy
  have A1 := Lib.hid (fun w => Element_any a ha w)
  have A2 := Lib.hid (fun w => Element_any b hb w)
  generalize FldP.elemS a = x at *
  generalize FldP.elemS b = y at *
  have hxi : In64 x := ⟨by omega, by rw [prime_lit] at x1; omega⟩
  have hyi : In64 y := ⟨by omega, by rw [prime_lit] at y1; omega⟩
  have A3 := Lib.hid (fun w => Inv_any x FldP.PP hxi PP_le w)
  obtain ⟨u1, u2⟩ := FldP.inv_mem hx
  obtain ⟨⟨i, u⟩, hiu⟩ : ∃ p, Fld.invS x FldP.PP = p := ⟨_, rfl⟩
  rw [hiu] at A3 u1 u2
  dsimp only at u1 u2
  subst u1
  simp only [P2] at A3
  obtain ⟨i0, i1⟩ := FldP.memS_range u2
  have A4 := Lib.hid (fun w => Member_any i ⟨by omega, by rw [prime_lit] at i1; omega⟩ w)
  rw [u2] at A4
  have A5 := Lib.hid (fun w => Mul_any x y FldP.PP hxi hyi PP_le w)
  have A6 := Lib.hid (fun w => Member_any (Fld.mulS x y FldP.PP) (mulS_in PP_le) w)
  rw [FldP.memS_mul hx hy] at A6
  have q := i64_andm62 n
  have b0 : 0 ≤ n % 4611686018427387904 := Int.emod_nonneg _ (by decide)
  have b1 : n % 4611686018427387904 < 4611686018427387904 := Int.emod_lt_of_pos _ (by decide)
  obtain ⟨e, he⟩ : ∃ e, n % 4611686018427387904 = e := ⟨_, rfl⟩
  rw [he] at q b0 b1
  clear he
  have hei : In64 e := ⟨by omega, by omega⟩
  have A7 := Lib.hid (fun w => Pow_any x e FldP.PP hxi hei PP_le w)
  have A8 := Lib.hid (fun w => Member_any (Fld.powS x e FldP.PP) (powS_in PP_le) w)
  rw [FldP.memS_powS hx e b0 (by omega)] at A8
  have A9 := Lib.hid (fun w => Add_any e 0 FldP.QQ hei ⟨by omega, by omega⟩ (by decide) w)
  have A10 := Lib.hid (fun w => Pow_any x (Fld.addS e 0 FldP.QQ) FldP.PP hxi (addS_in (by decide)) PP_le w)
  rw [← FldP.pow_QQ hx e b0 (by omega)] at A10
  have A11 := Lib.hid (fun w => Add_any a 0 FldP.PP ha ⟨by omega, by omega⟩ PP_le w)
  have hr : In64 (Fld.addS a 0 FldP.PP) := addS_in PP_le
  have r0 : 0 ≤ Fld.addS a 0 FldP.PP ∧ Fld.addS a 0 FldP.PP < FldP.PP := by rw [add0]; exact emod_bd a (by decide)
  generalize Fld.addS a 0 FldP.PP = r at *
  obtain ⟨r1, r2⟩ := r0
  rw [prime_lit] at r2
  generalize Fld.powS x e FldP.PP = p at *
  generalize Fld.addS e 0 FldP.QQ = e2 at *
  generalize Fld.mulS x y FldP.PP = xy at *
  clear hx hy x0 x1 y0 y1 hiu u2 i0 i1
  by_cases hz : r = 0
  · subst hz
    have hB := Below.refl w.heap.size w
    go_enter Try.func9, Try.ntmps9
    go_wp2_with fail
    refine (Calls.chain hB (sanity_any _)).mono ?_; clear hB; rintro e w9 ⟨rfl, hB⟩
    go_wp2_with fail
    refine (Calls.still hB (A1.out _)).mono ?_; clear hB; rintro e w9 ⟨rfl, hB⟩
    go_wp2_with fail
    refine (Calls.still hB (A2.out _)).mono ?_; clear hB; rintro e w9 ⟨rfl, hB⟩
    go_wp2_with fail
    refine (Calls.chain hB (A3.out _)).mono ?_; clear hB; rintro e w9 ⟨rfl, hB⟩
    go_wp2_with fail
    refine (Calls.chain hB (A11.out _)).mono ?_; clear hB; rintro e w9 ⟨rfl, hB⟩
    go_wp2_with fail
    refine (Calls.chain hB (A4.out _)).mono ?_; clear hB; rintro e w9 ⟨rfl, hB⟩
    go_wp2_with fail
    refine (Calls.chain hB (A5.out _)).mono ?_; clear hB; rintro e w9 ⟨rfl, hB⟩
    go_wp2_with fail
    refine (Calls.chain hB (A6.out _)).mono ?_; clear hB; rintro e w9 ⟨rfl, hB⟩
    go_wp2_with fail
    refine (Calls.chain hB (A7.out _)).mono ?_; clear hB; rintro e w9 ⟨rfl, hB⟩
    go_wp2_with fail
    refine (Calls.chain hB (A8.out _)).mono ?_; clear hB; rintro e w9 ⟨rfl, hB⟩
    go_wp2_with fail
    refine (Calls.chain hB (A7.out _)).mono ?_; clear hB; rintro e w9 ⟨rfl, hB⟩
    go_wp2_with fail
    refine (Calls.chain hB (A9.out _)).mono ?_; clear hB; rintro e w9 ⟨rfl, hB⟩
    go_wp2_with fail
    refine (Calls.chain hB (A10.out _)).mono ?_; clear hB; rintro e w9 ⟨rfl, hB⟩
    go_wp2_with fail
    go_ret
    exact ⟨rfl, hB⟩
  · have hz' : (r == 0) = false := by simpa using hz
    have A12 := Lib.hid (fun w => Member_any r hr w)
    have A13 := Lib.hid (fun w => Member_any (FldP.PP - r) ⟨by rw [prime_lit]; omega, by rw [prime_lit]; omega⟩ w)
    rw [FldP.memS_either r (by omega) (by rw [prime_lit]; omega)] at A12
    generalize FldP.memS (FldP.PP - r) = bb at *
    rw [prime_lit] at A13
    clear hz
    cases bb
    all_goals
      have hB := Below.refl w.heap.size w
      go_enter Try.func9, Try.ntmps9
      go_wp2_with fail
      refine (Calls.chain hB (sanity_any _)).mono ?_; clear hB; rintro e w9 ⟨rfl, hB⟩
      go_wp2_with fail
      refine (Calls.still hB (A1.out _)).mono ?_; clear hB; rintro e w9 ⟨rfl, hB⟩
      go_wp2_with fail
      refine (Calls.still hB (A2.out _)).mono ?_; clear hB; rintro e w9 ⟨rfl, hB⟩
      go_wp2_with fail
      refine (Calls.chain hB (A3.out _)).mono ?_; clear hB; rintro e w9 ⟨rfl, hB⟩
      go_wp2_with fail
      refine (Calls.chain hB (A11.out _)).mono ?_; clear hB; rintro e w9 ⟨rfl, hB⟩
      go_wp2_with fail
      refine (Calls.chain hB (A12.out _)).mono ?_; clear hB; rintro e w9 ⟨rfl, hB⟩
      go_wp2_with fail
      refine (Calls.chain hB (A13.out _)).mono ?_; clear hB; rintro e w9 ⟨rfl, hB⟩
      go_wp2_with fail
      refine (Calls.chain hB (A4.out _)).mono ?_; clear hB; rintro e w9 ⟨rfl, hB⟩
      go_wp2_with fail
      refine (Calls.chain hB (A5.out _)).mono ?_; clear hB; rintro e w9 ⟨rfl, hB⟩
      go_wp2_with fail
      refine (Calls.chain hB (A6.out _)).mono ?_; clear hB; rintro e w9 ⟨rfl, hB⟩
      go_wp2_with fail
      refine (Calls.chain hB (A7.out _)).mono ?_; clear hB; rintro e w9 ⟨rfl, hB⟩
      go_wp2_with fail
      refine (Calls.chain hB (A8.out _)).mono ?_; clear hB; rintro e w9 ⟨rfl, hB⟩
      go_wp2_with fail
      refine (Calls.chain hB (A7.out _)).mono ?_; clear hB; rintro e w9 ⟨rfl, hB⟩
      go_wp2_with fail
      refine (Calls.chain hB (A9.out _)).mono ?_; clear hB; rintro e w9 ⟨rfl, hB⟩
      go_wp2_with fail
      refine (Calls.chain hB (A10.out _)).mono ?_; clear hB; rintro e w9 ⟨rfl, hB⟩
      go_wp2_with fail
      go_ret
      exact ⟨rfl, hB⟩

set_option maxRecDepth 100000 in
theorem lifted (os : Os) (started : os.Started) (H : Type) (enc : TypeId × Value → H) :
    ReturnsInHanded {} Try.checked os 9 .any (Rows.fieldGroupSpec.pre6 enc Try.prog Try.f9 Rows.fieldGroupRow.domain false) (Rows.fieldGroupSpec.post enc Try.prog Try.f9 false true false false) := by
  refine returnsInHanded_of_change (C := Try.checked) law_own started (by kernel_rfl) Try.func9
    (ChangeSpec.witness6 (enc := enc) (C := Try.checked) false ⟨#[], #[.int .i64 0, .int .i64 0, .int .i64 0], []⟩ 8 (by kernel_rfl) (by kernel_rfl) (by kernel_rfl) (by kernel_rfl)) ?_
  intro W base args ds gs before hval0 hW _ _
  have hval : ∀ (j : Nat) t v, Try.f9.params[j]? = some t → args[j]? = some v → Value.okWide Try.prog W .any base t v := hval0
  have hWk : DataW.Whole enc Try.prog Try.f9.params.toList Rows.fieldGroupSpec.vars false W args.toList ds gs before := hW
  obtain ⟨p, q, hA0, hV, rfl, _, _⟩ := hW
  have hA : DataW.TrodAll enc Try.prog W 0 (fun _ => true) true Try.f9.params.toList args.toList ds p := hA0
  rw [Try.params9] at hA hval
  obtain ⟨v0, vs0, d0, ds0, p0, q0, hargs, rfl, rfl, h0, r0⟩ := trodAll_cons hA
  obtain ⟨v1, vs1, d1, ds1, p1, q1, rfl, rfl, rfl, h1, r1⟩ := trodAll_cons r0
  obtain ⟨v2, vs2, d2, ds2, p2, q2, rfl, rfl, rfl, h2, r2⟩ := trodAll_cons r1
  obtain ⟨rfl, rfl, rfl⟩ := trodAll_nil r2
  obtain rfl : args = #[v0, v1, v2] := by cases args; simp_all
  obtain ⟨rfl, rfl⟩ := trodVars_none hV
  obtain ⟨a0, rfl, _, _, w0⟩ := open_int Try.underlying3 (hval 0 3 v0 rfl rfl) h0
  obtain ⟨a1, rfl, _, _, w1⟩ := open_int Try.underlying3 (hval 1 3 v1 rfl rfl) h1
  obtain ⟨a2, rfl, _, _, w2⟩ := open_int Try.underlying3 (hval 2 3 v2 rfl rfl) h2
  clear hA0 hval0
  refine (walk a0 a1 a2 (wf_i64 w0) (wf_i64 w1) W).mono fun e W' ⟨he, hb⟩ => ?_
  exact ⟨_, he, law_post law_laid rfl (by rw [Try.params9]; decide +kernel) (by kernel_rfl) Try.underlying4 rfl hWk hb⟩

theorem holds : Rows.FieldGroupSaid :=
  OpenClaim.holds_of_wide 9 Try.f9 rfl rfl rfl rfl rfl rfl rfl ⟨rfl, rfl, rfl, rfl, rfl⟩ rfl rfl rfl rfl rfl (by kernel_rfl) Try.func9 (by kernel_rfl)
    (of_decide_eq_true (by kernel_rfl)) (by unfold Func.isWrapper; first | (rw [if_pos (by decide +kernel)]; kernel_rfl) | (rw [if_neg (by decide +kernel)]; exact ⟨rfl, rfl⟩))
    (fun os started H enc _ => lifted os started H enc)

end Go.Proofs.Ytpkhdkbpfajfcaa.LGroup

namespace Go.Proofs.Ytpkhdkbpfajfcaa
/-- The statement. -/
theorem fieldGroup_holds : Rows.FieldGroupSaid := LGroup.holds
end Go.Proofs.Ytpkhdkbpfajfcaa
