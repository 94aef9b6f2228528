/- DigestSums: for all strings, Sum returns what the reference model returns; no condition. -/
import Derived.Test.YtgkdfnmgbobamaaSan
import Derived.Test.YtgkdfnmgbobamaaLaw
import Derived.ChangeMaps5
namespace Go.Proofs.Ytgkdfnmgbobamaa.LSums
open Go.ChangeShapes Go.WideShapes Go.ChangeAt Go.RowKit Go.Shelf Go.ChangeMaps

set_option maxRecDepth 100000 in
set_option maxHeartbeats 2000000 in
theorem walk (s : ByteArray) (w : World) :
    Calls Try.prog 3 #[.string s] w fun e w' => e = .returned (.bool true) ∧ Below w.heap.size w w' := by
  obtain ⟨n, hn1, hn2, hmin⟩ := min_cut s 500 500 rfl
  have HS := Lib.hid (extract_size s n hn1)
  have E1 := Lib.hid (fun w => Sum_any (s.extract 0 n) (by rw [HS.out]; omega) w)
  have E2 := Lib.hid (fun w => RSumB_any (s.extract 0 n) (by rw [HS.out]; omega) w)
  have hq := fun w => run_eq_hash (Sha.sum (s.extract 0 n).data.toList) (Sha.sum (s.extract 0 n).data.toList) (Sha.sum_length _) (Sha.sum_length _) w
  simp only [beq_self_eq_true] at hq
  generalize hrow (Sha.sum (s.extract 0 n).data.toList) = R at *
  generalize hb : s.extract 0 n = b at *
  clear HS
  have HBB := Lib.hid hb
  have hB := Below.refl w.heap.size w
  go_enter Try.func3, Try.ntmps3
  go_wp2_with fail
  refine (Calls.chain hB (sanity_any _)).mono ?_; clear hB; rintro e w9 ⟨rfl, hB⟩
  clear hb
  go_wp2_with fail
  rw [show s.extract 0 n = b from HBB.out]
  refine (Calls.chain hB (E1.out _)).mono ?_; clear hB; rintro e w9 ⟨rfl, hB⟩
  go_wp2_with fail
  refine (Calls.chain hB (E2.out _)).mono ?_; clear hB; rintro e w9 ⟨rfl, hB⟩
  go_wp2_with fail
  go_ret
  exact ⟨rfl, hB⟩

set_option maxRecDepth 100000 in
theorem lifted (os : Os) (started : os.Started) (H : Type) (enc : TypeId × Value → H) :
    ReturnsInHanded {} Try.checked os 3 .any (Rows.digestSumsSpec.pre6 enc Try.prog Try.f3 Rows.digestSumsRow.domain false) (Rows.digestSumsSpec.post enc Try.prog Try.f3 false true false false) := by
  refine returnsInHanded_of_change (C := Try.checked) law_own started (by kernel_rfl) Try.func3
    (ChangeSpec.witness6 (enc := enc) (C := Try.checked) false ⟨#[], #[.string ⟨#[]⟩], []⟩ 8 (by kernel_rfl) (by kernel_rfl) (by kernel_rfl) (by kernel_rfl)) ?_
  intro W base args ds gs before hval0 hW _ _
  have hval : ∀ (j : Nat) t v, Try.f3.params[j]? = some t → args[j]? = some v → Value.okWide Try.prog W .any base t v := hval0
  have hWk : DataW.Whole enc Try.prog Try.f3.params.toList Rows.digestSumsSpec.vars false W args.toList ds gs before := hW
  obtain ⟨p, q, hA0, hV, rfl, _, _⟩ := hW
  have hA : DataW.TrodAll enc Try.prog W 0 (fun _ => true) true Try.f3.params.toList args.toList ds p := hA0
  rw [Try.params3] at hA hval
  obtain ⟨v0, vs0, d0, ds0, p0, q0, hargs, rfl, rfl, h0, r0⟩ := trodAll_cons hA
  obtain ⟨rfl, rfl, rfl⟩ := trodAll_nil r0
  obtain rfl : args = #[v0] := by cases args; simp_all
  obtain ⟨rfl, rfl⟩ := trodVars_none hV
  obtain ⟨s0, rfl, _, _, w0⟩ := open_string Try.underlying9 (hval 0 9 v0 rfl rfl) h0
  clear hA0 hval0
  refine (walk s0 W).mono fun e W' ⟨he, hb⟩ => ?_
  exact ⟨_, he, law_post law_laid rfl (by rw [Try.params3]; decide +kernel) (by kernel_rfl) Try.underlying4 rfl hWk hb⟩

theorem holds : Rows.DigestSumsSaid :=
  OpenClaim.holds_of_wide 3 Try.f3 rfl rfl rfl rfl rfl rfl rfl ⟨rfl, rfl, rfl, rfl, rfl⟩ rfl rfl rfl rfl rfl (by kernel_rfl) Try.func3 (by kernel_rfl)
    (of_decide_eq_true (by kernel_rfl)) (by unfold Func.isWrapper; first | (rw [if_pos (by decide +kernel)]; kernel_rfl) | (rw [if_neg (by decide +kernel)]; exact ⟨rfl, rfl⟩))
    (fun os started H enc _ => lifted os started H enc)

end Go.Proofs.Ytgkdfnmgbobamaa.LSums

namespace Go.Proofs.Ytgkdfnmgbobamaa
/-- The statement. -/
theorem digestSums_holds : Rows.DigestSumsSaid := LSums.holds
end Go.Proofs.Ytgkdfnmgbobamaa
