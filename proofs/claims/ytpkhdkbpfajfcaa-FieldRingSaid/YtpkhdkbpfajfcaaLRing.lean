/- FieldRing: the rules of a commutative ring hold; no condition. -/
import Derived.Test.YtpkhdkbpfajfcaaFldE
import Derived.Test.YtpkhdkbpfajfcaaLaw
namespace Go.Proofs.Ytpkhdkbpfajfcaa.LRing
open Go.ChangeShapes Go.WideShapes Go.ChangeAt Go.RowKit Go.Shelf

set_option maxRecDepth 100000 in
set_option maxHeartbeats 2000000 in
theorem walk (a b n0 n1 c : Int) (ha : In64 a) (hb : In64 b) (hn : In64 n1) (hc : In64 c) (w : World) :
    Calls Try.prog 5 #[I a, I b, .agg #[I n0, I n1, I c]] w fun e w' => e = .returned (.bool true) ∧ Below w.heap.size w w' := by
  have hm := modS_le (n := n0) hn
  have HMod := Lib.hid (fun w => modulus_any n0 n1 w)
  generalize modS n0 n1 = m at *
  have i0 : In64 0 := ⟨by omega, by omega⟩
  have i1 : In64 1 := ⟨by omega, by omega⟩
  have A1 := Lib.hid (fun w => Add_any a b m ha hb hm w)
  have A2 := Lib.hid (fun w => FldP.ring_add_comm b a m ▸ Add_any b a m hb ha hm w)
  have A3 := Lib.hid (fun w => Mul_any a b m ha hb hm w)
  have A4 := Lib.hid (fun w => FldP.ring_mul_comm b a m ▸ Mul_any b a m hb ha hm w)
  have A5 := Lib.hid (fun w => Add_any (Fld.addS a b m) c m (addS_in hm) hc hm w)
  have A6 := Lib.hid (fun w => Add_any b c m hb hc hm w)
  have A7 := Lib.hid (fun w => (FldP.ring_add_assoc a b c m).symm ▸ Add_any a (Fld.addS b c m) m ha (addS_in hm) hm w)
  have A8 := Lib.hid (fun w => Mul_any (Fld.mulS a b m) c m (mulS_in hm) hc hm w)
  have A9 := Lib.hid (fun w => Mul_any b c m hb hc hm w)
  have A10 := Lib.hid (fun w => (FldP.ring_mul_assoc a b c m).symm ▸ Mul_any a (Fld.mulS b c m) m ha (mulS_in hm) hm w)
  have A11 := Lib.hid (fun w => Mul_any a (Fld.addS b c m) m ha (addS_in hm) hm w)
  have A12 := Lib.hid (fun w => Mul_any a c m ha hc hm w)
  have A13 := Lib.hid (fun w => (FldP.ring_dist a b c m).symm ▸ Add_any (Fld.mulS a b m) (Fld.mulS a c m) m (mulS_in hm) (mulS_in hm) hm w)
  have A14 := Lib.hid (fun w => Sub_any a b m ha hb hm w)
  have A15 := Lib.hid (fun w => FldP.ring_sub_add a b m ▸ Add_any (Fld.subS a b m) b m (subS_in hm) hb hm w)
  have A16 := Lib.hid (fun w => Add_any a 0 m ha i0 hm w)
  have A17 := Lib.hid (fun w => FldP.ring_mul_one a m ▸ Mul_any a 1 m ha i1 hm w)
  go_enter Try.func5, Try.ntmps5
  go_wp2_with fail
  have k0 := Blk.new w #[I n0, I n1, I c] 28
  have hB0 := (Below.refl w.heap.size w).alloc (Nat.le_refl _) (.cells #[I n0, I n1, I c] 28)
  refine (sanity_any _).mono ?_; rintro e w1 ⟨rfl, hb1⟩
  have hB := hB0.trans (hb1.mono (by simp))
  have k1 := k0.below hb1 k0.lt
  have c0 := k1.cell 0 _ rfl
  have c1 := k1.cell 1 _ rfl
  have c2 := k1.cell 2 _ rfl
  go_wp2_with fail
  refine (Calls.still hB (HMod.out _)).mono ?_; clear hB; rintro e w9 ⟨rfl, hB⟩
  clear c0 c1 c2
  go_wp2_with fail
  refine (Calls.chain hB (A1.out _)).mono ?_; clear hB; rintro e w9 ⟨rfl, hB⟩
  go_wp2_with fail
  refine (Calls.chain hB (A2.out _)).mono ?_; clear hB; rintro e w9 ⟨rfl, hB⟩
  go_wp2_with fail
  refine (Calls.chain hB (A3.out _)).mono ?_; clear hB; rintro e w9 ⟨rfl, hB⟩
  go_wp2_with fail
  refine (Calls.chain hB (A4.out _)).mono ?_; clear hB; rintro e w9 ⟨rfl, hB⟩
  go_wp2_with fail
  refine (Calls.chain hB (A1.out _)).mono ?_; clear hB; rintro e w9 ⟨rfl, hB⟩
  go_wp2_with fail
  refine (Calls.chain hB (A5.out _)).mono ?_; clear hB; rintro e w9 ⟨rfl, hB⟩
  go_wp2_with fail
  refine (Calls.chain hB (A6.out _)).mono ?_; clear hB; rintro e w9 ⟨rfl, hB⟩
  go_wp2_with fail
  refine (Calls.chain hB (A7.out _)).mono ?_; clear hB; rintro e w9 ⟨rfl, hB⟩
  go_wp2_with fail
  refine (Calls.chain hB (A3.out _)).mono ?_; clear hB; rintro e w9 ⟨rfl, hB⟩
  go_wp2_with fail
  refine (Calls.chain hB (A8.out _)).mono ?_; clear hB; rintro e w9 ⟨rfl, hB⟩
  go_wp2_with fail
  refine (Calls.chain hB (A9.out _)).mono ?_; clear hB; rintro e w9 ⟨rfl, hB⟩
  go_wp2_with fail
  refine (Calls.chain hB (A10.out _)).mono ?_; clear hB; rintro e w9 ⟨rfl, hB⟩
  go_wp2_with fail
  refine (Calls.chain hB (A6.out _)).mono ?_; clear hB; rintro e w9 ⟨rfl, hB⟩
  go_wp2_with fail
  refine (Calls.chain hB (A11.out _)).mono ?_; clear hB; rintro e w9 ⟨rfl, hB⟩
  go_wp2_with fail
  refine (Calls.chain hB (A3.out _)).mono ?_; clear hB; rintro e w9 ⟨rfl, hB⟩
  go_wp2_with fail
  refine (Calls.chain hB (A12.out _)).mono ?_; clear hB; rintro e w9 ⟨rfl, hB⟩
  go_wp2_with fail
  refine (Calls.chain hB (A13.out _)).mono ?_; clear hB; rintro e w9 ⟨rfl, hB⟩
  go_wp2_with fail
  refine (Calls.chain hB (A14.out _)).mono ?_; clear hB; rintro e w9 ⟨rfl, hB⟩
  go_wp2_with fail
  refine (Calls.chain hB (A15.out _)).mono ?_; clear hB; rintro e w9 ⟨rfl, hB⟩
  go_wp2_with fail
  refine (Calls.chain hB (A16.out _)).mono ?_; clear hB; rintro e w9 ⟨rfl, hB⟩
  go_wp2_with fail
  refine (Calls.chain hB (A17.out _)).mono ?_; clear hB; rintro e w9 ⟨rfl, hB⟩
  go_wp2_with fail
  refine (Calls.chain hB (A16.out _)).mono ?_; clear hB; rintro e w9 ⟨rfl, hB⟩
  go_wp2_with fail
  go_ret
  exact ⟨rfl, hB⟩

set_option maxRecDepth 100000 in
theorem lifted (os : Os) (started : os.Started) (H : Type) (enc : TypeId × Value → H) :
    ReturnsInHanded {} Try.checked os 5 .any (Rows.fieldRingSpec.pre6 enc Try.prog Try.f5 Rows.fieldRingRow.domain false) (Rows.fieldRingSpec.post enc Try.prog Try.f5 false true false false) := by
  refine returnsInHanded_of_change (C := Try.checked) law_own started (by kernel_rfl) Try.func5
    (ChangeSpec.witness6 (enc := enc) (C := Try.checked) false ⟨#[], #[.int .i64 0, .int .i64 0, .agg #[.int .i64 0, .int .i64 0, .int .i64 0]], []⟩ 8 (by kernel_rfl) (by kernel_rfl) (by kernel_rfl) (by kernel_rfl)) ?_
  intro W base args ds gs before hval0 hW _ _
  have hval : ∀ (j : Nat) t v, Try.f5.params[j]? = some t → args[j]? = some v → Value.okWide Try.prog W .any base t v := hval0
  have hWk : DataW.Whole enc Try.prog Try.f5.params.toList Rows.fieldRingSpec.vars false W args.toList ds gs before := hW
  obtain ⟨p, q, hA0, hV, rfl, _, _⟩ := hW
  have hA : DataW.TrodAll enc Try.prog W 0 (fun _ => true) true Try.f5.params.toList args.toList ds p := hA0
  rw [Try.params5] at hA hval
  obtain ⟨v0, vs0, d0, ds0, p0, q0, hargs, rfl, rfl, h0, r0⟩ := trodAll_cons hA
  obtain ⟨v1, vs1, d1, ds1, p1, q1, rfl, rfl, rfl, h1, r1⟩ := trodAll_cons r0
  obtain ⟨v2, vs2, d2, ds2, p2, q2, rfl, rfl, rfl, h2, r2⟩ := trodAll_cons r1
  obtain ⟨rfl, rfl, rfl⟩ := trodAll_nil r2
  obtain rfl : args = #[v0, v1, v2] := by cases args; simp_all
  obtain ⟨rfl, rfl⟩ := trodVars_none hV
  obtain ⟨a0, rfl, _, _, w0⟩ := open_int Try.underlying3 (hval 0 3 v0 rfl rfl) h0
  obtain ⟨a1, rfl, _, _, w1⟩ := open_int Try.underlying3 (hval 1 3 v1 rfl rfl) h1
  obtain ⟨zs2, l2, rfl, w2⟩ := open_int_array Try.underlying28 Try.underlying3 (by kernel_rfl) (by kernel_rfl) (hval 2 28 v2 rfl rfl) h2
  obtain ⟨x2_0, x2_1, x2_2, rfl⟩ := list3 l2
  clear hA0 hval0
  refine (walk a0 a1 x2_0 x2_1 x2_2 (wf_i64 w0) (wf_i64 w1) (wf_i64 (w2 x2_1 (by simp))) (wf_i64 (w2 x2_2 (by simp))) W).mono fun e W' ⟨he, hb⟩ => ?_
  exact ⟨_, he, law_post law_laid rfl (by rw [Try.params5]; decide +kernel) (by kernel_rfl) Try.underlying4 rfl hWk hb⟩

theorem holds : Rows.FieldRingSaid :=
  OpenClaim.holds_of_wide 5 Try.f5 rfl rfl rfl rfl rfl rfl rfl ⟨rfl, rfl, rfl, rfl, rfl⟩ rfl rfl rfl rfl rfl (by kernel_rfl) Try.func5 (by kernel_rfl)
    (of_decide_eq_true (by kernel_rfl)) (by unfold Func.isWrapper; first | (rw [if_pos (by decide +kernel)]; kernel_rfl) | (rw [if_neg (by decide +kernel)]; exact ⟨rfl, rfl⟩))
    (fun os started H enc _ => lifted os started H enc)

end Go.Proofs.Ytpkhdkbpfajfcaa.LRing

namespace Go.Proofs.Ytpkhdkbpfajfcaa
/-- The statement. -/
theorem fieldRing_holds : Rows.FieldRingSaid := LRing.holds
end Go.Proofs.Ytpkhdkbpfajfcaa
