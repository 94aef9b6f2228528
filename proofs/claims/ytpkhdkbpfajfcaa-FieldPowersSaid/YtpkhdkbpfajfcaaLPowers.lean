/- FieldPowers: Pow has the results of the reference; powers are multiplied by adding exponents; no condition. -/
import Derived.Test.YtpkhdkbpfajfcaaFldE
import Derived.Test.YtpkhdkbpfajfcaaLaw
namespace Go.Proofs.Ytpkhdkbpfajfcaa.LPowers
open Go.ChangeShapes Go.WideShapes Go.ChangeAt Go.RowKit Go.Shelf

set_option maxRecDepth 100000 in
set_option maxHeartbeats 2000000 in
theorem walk (a e0 e1 n0 n1 : Int) (ha : In64 a) (he : In64 e0) (hn : In64 n1) (w : World) :
    Calls Try.prog 6 #[I a, .agg #[I e0, I e1], .agg #[I n0, I n1]] w fun e w' => e = .returned (.bool true) ∧ Below w.heap.size w w' := by
  have hm := modS_le (n := n0) hn
  have HMod := Lib.hid (fun w => modulus_any n0 n1 w)
  generalize modS n0 n1 = m at *
  have q0 := i64_andm61 e0
  have q1 := i64_andm61 e1
  have b0 : 0 ≤ e0 % 2305843009213693952 := Int.emod_nonneg _ (by decide)
  have b1 : e0 % 2305843009213693952 < 2305843009213693952 := Int.emod_lt_of_pos _ (by decide)
  have b2 : 0 ≤ e1 % 2305843009213693952 := Int.emod_nonneg _ (by decide)
  have b3 : e1 % 2305843009213693952 < 2305843009213693952 := Int.emod_lt_of_pos _ (by decide)
  obtain ⟨i, hi⟩ : ∃ i, e0 % 2305843009213693952 = i := ⟨_, rfl⟩
  obtain ⟨j, hj⟩ : ∃ i, e1 % 2305843009213693952 = i := ⟨_, rfl⟩
  rw [hi] at q0 b0 b1
  rw [hj] at q1 b2 b3
  clear hi hj
  have A1 := Lib.hid (fun w => Pow_any a e0 m ha he hm w)
  have A2 := Lib.hid (fun w => Calls.still (Below.refl _ w) (RPow_any a e0 m ha he hm w))
  have A3 := Lib.hid (fun w => Pow_any a (i + j) m ha ⟨by omega, by omega⟩ hm w)
  have A4 := Lib.hid (fun w => Pow_any a i m ha ⟨by omega, by omega⟩ hm w)
  have A5 := Lib.hid (fun w => Pow_any a j m ha ⟨by omega, by omega⟩ hm w)
  have A6 := Lib.hid (fun w => Mul_any (Fld.powS a i m) (Fld.powS a j m) m (powS_in hm) (powS_in hm) hm w)
  rw [pow_add_any a i j m b0 b2 (by omega)] at A6
  generalize Fld.powS a e0 m = p1 at *
  generalize Fld.powS a (i + j) m = p2 at *
  generalize Fld.powS a i m = p3 at *
  generalize Fld.powS a j m = p4 at *
  have hs : IntKind.i64.wrap (i + j) = i + j := IntWalk.i64_in _ (by omega)
  obtain ⟨s, hse⟩ : ∃ s, i + j = s := ⟨_, rfl⟩
  rw [hse] at A3
  have ij : IntKind.i64.wrap (i + j) = s := hs.trans hse
  clear hs hse
  go_enter Try.func6, Try.ntmps6
  go_wp2_with fail
  have hB0 := ((Below.refl w.heap.size w).alloc (Nat.le_refl _) (.cells #[I e0, I e1] 22)).alloc (by simp) (.cells #[I n0, I n1] 22)
  have k0 : Blk ((w.alloc (.cells #[I e0, I e1] 22)).alloc (.cells #[I n0, I n1] 22)) (w.heap.size + 1) #[I n0, I n1] 22 := by
    have := Blk.new (w.alloc (.cells #[I e0, I e1] 22)) #[I n0, I n1] 22
    simpa only [World.size_alloc] using this
  have l0 : Blk ((w.alloc (.cells #[I e0, I e1] 22)).alloc (.cells #[I n0, I n1] 22)) w.heap.size #[I e0, I e1] 22 := (Blk.new w #[I e0, I e1] 22).alloc _
  refine (sanity_any _).mono ?_; rintro e w1 ⟨rfl, hb1⟩
  have hB := hB0.trans (hb1.mono (by simp; omega))
  have k1 := k0.below hb1 k0.lt
  have l1 := l0.below hb1 l0.lt
  have c0 := k1.cell 0 _ rfl
  have c1 := k1.cell 1 _ rfl
  have d0 := l1.cell 0 _ rfl
  have d1 := l1.cell 1 _ rfl
  go_wp2_with fail
  refine (HMod.out _).mono ?_; rintro e w9 ⟨rfl, rfl⟩
  go_wp2_with fail
  go_quiet (fail)
  have hB := Below.drewN hB nq
  have l2 := l1.drewN nq
  clear c0 c1 d0 d1 k1 l1
  generalize w1.drewN nq = w10 at *
  have d0 := l2.cell 0 _ rfl
  have f0 := After.cell d0
  go_wp2_with fail
  refine wp_region_after (by kernel_rfl) (by kernel_rfl) ?_
  repeat (go_big_quiet_step (first | (with_reducible exact After.call (A1.out _)) | (with_reducible exact After.call (A2.out _)) | (with_reducible exact After.call (A3.out _)) | (with_reducible exact After.call (A4.out _)) | (with_reducible exact After.call (A5.out _)) | (with_reducible exact After.call (A6.out _))))
  refine wpQuiet_nil ?_
  rintro w11 ⟨x11, rfl⟩
  have hB := hB.trans (x11.hb.mono hB.size)
  go_wp2_with fail
  go_ret
  exact ⟨rfl, hB⟩

set_option maxRecDepth 100000 in
theorem lifted (os : Os) (started : os.Started) (H : Type) (enc : TypeId × Value → H) :
    ReturnsInHanded {} Try.checked os 6 .any (Rows.fieldPowersSpec.pre6 enc Try.prog Try.f6 Rows.fieldPowersRow.domain false) (Rows.fieldPowersSpec.post enc Try.prog Try.f6 false true false false) := by
  refine returnsInHanded_of_change (C := Try.checked) law_own started (by kernel_rfl) Try.func6
    (ChangeSpec.witness6 (enc := enc) (C := Try.checked) false ⟨#[], #[.int .i64 0, .agg #[.int .i64 0, .int .i64 0], .agg #[.int .i64 0, .int .i64 0]], []⟩ 8 (by kernel_rfl) (by kernel_rfl) (by kernel_rfl) (by kernel_rfl)) ?_
  intro W base args ds gs before hval0 hW _ _
  have hval : ∀ (j : Nat) t v, Try.f6.params[j]? = some t → args[j]? = some v → Value.okWide Try.prog W .any base t v := hval0
  have hWk : DataW.Whole enc Try.prog Try.f6.params.toList Rows.fieldPowersSpec.vars false W args.toList ds gs before := hW
  obtain ⟨p, q, hA0, hV, rfl, _, _⟩ := hW
  have hA : DataW.TrodAll enc Try.prog W 0 (fun _ => true) true Try.f6.params.toList args.toList ds p := hA0
  rw [Try.params6] at hA hval
  obtain ⟨v0, vs0, d0, ds0, p0, q0, hargs, rfl, rfl, h0, r0⟩ := trodAll_cons hA
  obtain ⟨v1, vs1, d1, ds1, p1, q1, rfl, rfl, rfl, h1, r1⟩ := trodAll_cons r0
  obtain ⟨v2, vs2, d2, ds2, p2, q2, rfl, rfl, rfl, h2, r2⟩ := trodAll_cons r1
  obtain ⟨rfl, rfl, rfl⟩ := trodAll_nil r2
  obtain rfl : args = #[v0, v1, v2] := by cases args; simp_all
  obtain ⟨rfl, rfl⟩ := trodVars_none hV
  obtain ⟨a0, rfl, _, _, w0⟩ := open_int Try.underlying3 (hval 0 3 v0 rfl rfl) h0
  obtain ⟨zs1, l1, rfl, w1⟩ := open_int_array Try.underlying22 Try.underlying3 (by kernel_rfl) (by kernel_rfl) (hval 1 22 v1 rfl rfl) h1
  obtain ⟨x1_0, x1_1, rfl⟩ := list2 l1
  obtain ⟨zs2, l2, rfl, w2⟩ := open_int_array Try.underlying22 Try.underlying3 (by kernel_rfl) (by kernel_rfl) (hval 2 22 v2 rfl rfl) h2
  obtain ⟨x2_0, x2_1, rfl⟩ := list2 l2
  clear hA0 hval0
  refine (walk a0 x1_0 x1_1 x2_0 x2_1 (wf_i64 w0) (wf_i64 (w1 x1_0 (by simp))) (wf_i64 (w2 x2_1 (by simp))) W).mono fun e W' ⟨he, hb⟩ => ?_
  exact ⟨_, he, law_post law_laid rfl (by rw [Try.params6]; decide +kernel) (by kernel_rfl) Try.underlying4 rfl hWk hb⟩

theorem holds : Rows.FieldPowersSaid :=
  OpenClaim.holds_of_wide 6 Try.f6 rfl rfl rfl rfl rfl rfl rfl ⟨rfl, rfl, rfl, rfl, rfl⟩ rfl rfl rfl rfl rfl (by kernel_rfl) Try.func6 (by kernel_rfl)
    (of_decide_eq_true (by kernel_rfl)) (by unfold Func.isWrapper; first | (rw [if_pos (by decide +kernel)]; kernel_rfl) | (rw [if_neg (by decide +kernel)]; exact ⟨rfl, rfl⟩))
    (fun os started H enc _ => lifted os started H enc)

end Go.Proofs.Ytpkhdkbpfajfcaa.LPowers

namespace Go.Proofs.Ytpkhdkbpfajfcaa
/-- The statement. -/
theorem fieldPowers_holds : Rows.FieldPowersSaid := LPowers.holds
end Go.Proofs.Ytpkhdkbpfajfcaa
