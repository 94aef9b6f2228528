/- StageLate: a bid is possible exactly before the deadline of bids, a grade, a price, an appeal and a call exactly at their stages, for times that do not decrease; no condition. -/
import Derived.Test.YtonhhonhcgfcaaaLate1
import Derived.Test.YtonhhonhcgfcaaaLate2
import Derived.Test.YtonhhonhcgfcaaaLate3
import Derived.Test.YtonhhonhcgfcaaaLate4
import Derived.Test.YtonhhonhcgfcaaaLate5
import Derived.Test.YtonhhonhcgfcaaaLate6
namespace Go.Proofs.Ytonhhonhcgfcaaa.LLate
open Go.ChangeShapes Go.WideShapes Go.ChangeAt Go.RowKit Go.Shelf

theorem walk (l0 l1 l2 l3 l4 t : Int) (b0 : 0 ≤ l0 ∧ l0 ≤ 65535) (b1 : 0 ≤ l1 ∧ l1 ≤ 65535) (b2 : 0 ≤ l2 ∧ l2 ≤ 65535) (b3 : 0 ≤ l3 ∧ l3 ≤ 65535) (b4 : 0 ≤ l4 ∧ l4 ≤ 65535) (b5 : 0 ≤ t ∧ t ≤ 65535) (w : World) :
    Calls Try.prog 10 #[.agg #[.int .u16 l0, .int .u16 l1, .int .u16 l2, .int .u16 l3, .int .u16 l4], .int .u16 t] w fun e w' => e = .returned (.bool true) ∧ Below w.heap.size w w' := by
  by_cases h1 : t * 3 < l0
  · exact walk1 l0 l1 l2 l3 l4 t b0 b1 b2 b3 b4 b5 h1 w
  · by_cases h2 : t * 3 < l0 + l1
    · exact walk2 l0 l1 l2 l3 l4 t b0 b1 b2 b3 b4 b5 (by omega) h2 w
    · by_cases h3 : t * 3 < l0 + l1 + l2
      · exact walk3 l0 l1 l2 l3 l4 t b0 b1 b2 b3 b4 b5 (by omega) h3 w
      · by_cases h4 : t * 3 < l0 + l1 + l2 + l3
        · exact walk4 l0 l1 l2 l3 l4 t b0 b1 b2 b3 b4 b5 (by omega) h4 w
        · by_cases h5 : t * 3 < l0 + l1 + l2 + l3 + l4
          · exact walk5 l0 l1 l2 l3 l4 t b0 b1 b2 b3 b4 b5 (by omega) h5 w
          · exact walk6 l0 l1 l2 l3 l4 t b0 b1 b2 b3 b4 b5 (by omega) w

set_option maxRecDepth 100000 in
theorem lifted (os : Os) (started : os.Started) (H : Type) (enc : TypeId × Value → H) :
    ReturnsInHanded {} Try.checked os 10 .any (Rows.stageLateSpec.pre6 enc Try.prog Try.f10 Rows.stageLateRow.domain false) (Rows.stageLateSpec.post enc Try.prog Try.f10 false true false false) := by
  refine returnsInHanded_of_change (C := Try.checked) law_own started (by kernel_rfl) Try.func10
    (ChangeSpec.witness6 (enc := enc) (C := Try.checked) false ⟨#[], #[.agg #[.int .u16 0, .int .u16 0, .int .u16 0, .int .u16 0, .int .u16 0], .int .u16 0], []⟩ 8 (by kernel_rfl) (by kernel_rfl) (by kernel_rfl) (by kernel_rfl)) ?_
  intro W base args ds gs before hval0 hW _ _
  have hval : ∀ (j : Nat) t v, Try.f10.params[j]? = some t → args[j]? = some v → Value.okWide Try.prog W .any base t v := hval0
  have hWk : DataW.Whole enc Try.prog Try.f10.params.toList Rows.stageLateSpec.vars false W args.toList ds gs before := hW
  obtain ⟨p, q, hA0, hV, rfl, _, _⟩ := hW
  have hA : DataW.TrodAll enc Try.prog W 0 (fun _ => true) true Try.f10.params.toList args.toList ds p := hA0
  rw [Try.params10] at hA hval
  obtain ⟨v0, vs0, d0, ds0, p0, q0, hargs, rfl, rfl, h0, r0⟩ := trodAll_cons hA
  obtain ⟨v1, vs1, d1, ds1, p1, q1, rfl, rfl, rfl, h1, r1⟩ := trodAll_cons r0
  obtain ⟨rfl, rfl, rfl⟩ := trodAll_nil r1
  obtain rfl : args = #[v0, v1] := by cases args; simp_all
  obtain ⟨rfl, rfl⟩ := trodVars_none hV
  obtain ⟨zs0, l0, rfl, w0⟩ := open_int_array Try.underlying37 Try.underlying36 (by kernel_rfl) (by kernel_rfl) (hval 0 37 v0 rfl rfl) h0
  obtain ⟨x0_0, x0_1, x0_2, x0_3, x0_4, rfl⟩ := list5 l0
  obtain ⟨a1, rfl, _, _, w1⟩ := open_int Try.underlying36 (hval 1 36 v1 rfl rfl) h1
  clear hA0 hval0
  refine (walk x0_0 x0_1 x0_2 x0_3 x0_4 a1 (bounds_u16 (w0 x0_0 (by simp))) (bounds_u16 (w0 x0_1 (by simp))) (bounds_u16 (w0 x0_2 (by simp))) (bounds_u16 (w0 x0_3 (by simp))) (bounds_u16 (w0 x0_4 (by simp))) (bounds_u16 w1) W).mono fun e W' ⟨he, hb⟩ => ?_
  exact ⟨_, he, law_post law_laid rfl (by rw [Try.params10]; decide +kernel) (by kernel_rfl) Try.underlying4 rfl hWk hb⟩

theorem holds : Rows.StageLateSaid :=
  OpenClaim.holds_of_wide 10 Try.f10 rfl rfl rfl rfl rfl rfl rfl ⟨rfl, rfl, rfl, rfl, rfl⟩ rfl rfl rfl rfl rfl (by kernel_rfl) Try.func10 (by kernel_rfl)
    (of_decide_eq_true (by kernel_rfl)) (by unfold Func.isWrapper; first | (rw [if_pos (by decide +kernel)]; kernel_rfl) | (rw [if_neg (by decide +kernel)]; exact ⟨rfl, rfl⟩))
    (fun os started H enc _ => lifted os started H enc)

end Go.Proofs.Ytonhhonhcgfcaaa.LLate

namespace Go.Proofs.Ytonhhonhcgfcaaa
/-- The statement. -/
theorem stageLate_holds : Rows.StageLateSaid := LLate.holds
end Go.Proofs.Ytonhhonhcgfcaaa
