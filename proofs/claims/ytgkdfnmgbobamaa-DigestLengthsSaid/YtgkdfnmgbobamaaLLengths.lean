/- DigestLengths: for all lengths up to 300, also those at which a further block begins, Sum returns what the reference model returns; no condition. -/
import Derived.Test.YtgkdfnmgbobamaaRep
import Derived.Test.YtgkdfnmgbobamaaLaw
import Derived.ChangeMaps5
namespace Go.Proofs.Ytgkdfnmgbobamaa.LLengths
open Go.ChangeShapes Go.WideShapes Go.ChangeAt Go.RowKit Go.Shelf Go.ChangeMaps

set_option maxRecDepth 100000 in
set_option maxHeartbeats 2000000 in
theorem walk (c n far : Int) (w : World) :
    Calls Try.prog 4 #[.int .u8 c, .int .i64 n, .int .i64 far] w fun e w' => e = .returned (.bool true) ∧ Below w.heap.size w w' := by
  obtain ⟨k, hk, hk2⟩ : ∃ k : Nat, n % 300 = (k : Int) ∧ k ≤ 1000 := ⟨(n % 300).toNat, by have := Int.emod_nonneg n (by omega : (300 : Int) ≠ 0); omega, by have := Int.emod_lt_of_pos n (by omega : (0 : Int) < 300); omega⟩
  obtain ⟨q, hq, hq2⟩ : ∃ k : Nat, n % 4 = (k : Int) ∧ k < 4 := ⟨(n % 4).toNat, by have := Int.emod_nonneg n (by omega : (4 : Int) ≠ 0); omega, by have := Int.emod_lt_of_pos n (by omega : (0 : Int) < 4); omega⟩
  obtain ⟨r, hr, hr2⟩ : ∃ k : Nat, far % 20 = (k : Int) ∧ k < 20 := ⟨(far % 20).toNat, by have := Int.emod_nonneg far (by omega : (20 : Int) ≠ 0); omega, by have := Int.emod_lt_of_pos far (by omega : (0 : Int) < 20); omega⟩
  have A1 := Lib.hid (fun w => Mod_any n 300 (by omega) (by omega) w)
  have A2 := Lib.hid (fun w => Mod_any n 4 (by omega) (by omega) w)
  have A3 := Lib.hid (fun w => Mod_any far 20 (by omega) (by omega) w)
  rw [hk] at A1
  rw [hq] at A2
  rw [hr] at A3
  clear hk hq hr
  have A4 := Lib.hid (fun w => repeated_any c k hk2 w)
  have A5 := Lib.hid (fun w => repeated_any c (64 * q + 50 + r) (by omega) w)
  have e5 : (64 : Int) * (q : Int) + 50 + (r : Int) = ((64 * q + 50 + r : Nat) : Int) := by omega
  rw [← e5] at A5
  have hq3 : (q : Int) < 4 := by omega
  have hr3 : (r : Int) < 20 := by omega
  clear e5
  have hB := Below.refl w.heap.size w
  go_enter Try.func4, Try.ntmps4
  go_wp2_with fail
  refine (Calls.chain hB (sanity_any _)).mono ?_; clear hB; rintro e w9 ⟨rfl, hB⟩
  go_wp2_with fail
  refine (Calls.still hB (A1.out _)).mono ?_; clear hB; rintro e w9 ⟨rfl, hB⟩
  go_wp2_with fail
  refine (A4.out _).mono ?_; rintro e w9 ⟨m1, HM1, rfl, hb9⟩
  have hB := hB.trans (hb9.mono hB.size)
  have L1 := Lib.hid HM1
  clear HM1
  go_wp2_with fail
  refine (Calls.still hB (A2.out _)).mono ?_; clear hB; rintro e w9 ⟨rfl, hB⟩
  go_wp2_with fail
  refine (Calls.still hB (A3.out _)).mono ?_; clear hB; rintro e w9 ⟨rfl, hB⟩
  go_wp2_with fail
  refine (A5.out _).mono ?_; rintro e w9 ⟨m2, HM2, rfl, hb9⟩
  have hB := hB.trans (hb9.mono hB.size)
  have L2 := Lib.hid HM2
  clear HM2
  have E1 := Lib.hid (fun w => SumS_any m1 (by rw [L1.out]; omega) w)
  have E2 := Lib.hid (fun w => RSum_any m1 (by rw [L1.out]; omega) w)
  have E3 := Lib.hid (fun w => SumS_any m2 (by rw [L2.out]; omega) w)
  have E4 := Lib.hid (fun w => RSum_any m2 (by rw [L2.out]; omega) w)
  have q1 := fun w => run_eq_hash (Sha.sum m1) (Sha.sum m1) (Sha.sum_length _) (Sha.sum_length _) w
  have q2 := fun w => run_eq_hash (Sha.sum m2) (Sha.sum m2) (Sha.sum_length _) (Sha.sum_length _) w
  simp only [beq_self_eq_true] at q1 q2
  generalize hrow (Sha.sum m1) = R1 at *
  generalize hrow (Sha.sum m2) = R2 at *
  go_wp2_with fail
  refine (Calls.chain hB (E1.out _)).mono ?_; clear hB; rintro e w9 ⟨rfl, hB⟩
  go_wp2_with fail
  refine (Calls.chain hB (E2.out _)).mono ?_; clear hB; rintro e w9 ⟨rfl, hB⟩
  go_wp2_with fail
  refine (Calls.chain hB (E3.out _)).mono ?_; clear hB; rintro e w9 ⟨rfl, hB⟩
  go_wp2_with fail
  refine (Calls.chain hB (E4.out _)).mono ?_; clear hB; rintro e w9 ⟨rfl, hB⟩
  go_wp2_with fail
  go_ret
  exact ⟨rfl, hB⟩

set_option maxRecDepth 100000 in
theorem lifted (os : Os) (started : os.Started) (H : Type) (enc : TypeId × Value → H) :
    ReturnsInHanded {} Try.checked os 4 .any (Rows.digestLengthsSpec.pre6 enc Try.prog Try.f4 Rows.digestLengthsRow.domain false) (Rows.digestLengthsSpec.post enc Try.prog Try.f4 false true false false) := by
  refine returnsInHanded_of_change (C := Try.checked) law_own started (by kernel_rfl) Try.func4
    (ChangeSpec.witness6 (enc := enc) (C := Try.checked) false ⟨#[], #[.int .u8 0, .int .i64 0, .int .i64 0], []⟩ 8 (by kernel_rfl) (by kernel_rfl) (by kernel_rfl) (by kernel_rfl)) ?_
  intro W base args ds gs before hval0 hW _ _
  have hval : ∀ (j : Nat) t v, Try.f4.params[j]? = some t → args[j]? = some v → Value.okWide Try.prog W .any base t v := hval0
  have hWk : DataW.Whole enc Try.prog Try.f4.params.toList Rows.digestLengthsSpec.vars false W args.toList ds gs before := hW
  obtain ⟨p, q, hA0, hV, rfl, _, _⟩ := hW
  have hA : DataW.TrodAll enc Try.prog W 0 (fun _ => true) true Try.f4.params.toList args.toList ds p := hA0
  rw [Try.params4] at hA hval
  obtain ⟨v0, vs0, d0, ds0, p0, q0, hargs, rfl, rfl, h0, r0⟩ := trodAll_cons hA
  obtain ⟨v1, vs1, d1, ds1, p1, q1, rfl, rfl, rfl, h1, r1⟩ := trodAll_cons r0
  obtain ⟨v2, vs2, d2, ds2, p2, q2, rfl, rfl, rfl, h2, r2⟩ := trodAll_cons r1
  obtain ⟨rfl, rfl, rfl⟩ := trodAll_nil r2
  obtain rfl : args = #[v0, v1, v2] := by cases args; simp_all
  obtain ⟨rfl, rfl⟩ := trodVars_none hV
  obtain ⟨a0, rfl, _, _, w0⟩ := open_int Try.underlying5 (hval 0 5 v0 rfl rfl) h0
  obtain ⟨a1, rfl, _, _, w1⟩ := open_int Try.underlying3 (hval 1 3 v1 rfl rfl) h1
  obtain ⟨a2, rfl, _, _, w2⟩ := open_int Try.underlying3 (hval 2 3 v2 rfl rfl) h2
  clear hA0 hval0
  refine (walk a0 a1 a2 W).mono fun e W' ⟨he, hb⟩ => ?_
  exact ⟨_, he, law_post law_laid rfl (by rw [Try.params4]; decide +kernel) (by kernel_rfl) Try.underlying4 rfl hWk hb⟩

theorem holds : Rows.DigestLengthsSaid :=
  OpenClaim.holds_of_wide 4 Try.f4 rfl rfl rfl rfl rfl rfl rfl ⟨rfl, rfl, rfl, rfl, rfl⟩ rfl rfl rfl rfl rfl (by kernel_rfl) Try.func4 (by kernel_rfl)
    (of_decide_eq_true (by kernel_rfl)) (by unfold Func.isWrapper; first | (rw [if_pos (by decide +kernel)]; kernel_rfl) | (rw [if_neg (by decide +kernel)]; exact ⟨rfl, rfl⟩))
    (fun os started H enc _ => lifted os started H enc)

end Go.Proofs.Ytgkdfnmgbobamaa.LLengths

namespace Go.Proofs.Ytgkdfnmgbobamaa
/-- The statement. -/
theorem digestLengths_holds : Rows.DigestLengthsSaid := LLengths.holds
end Go.Proofs.Ytgkdfnmgbobamaa
