/- Plain facts on the stage of times that do not decrease. -/
import Derived.Test.YtonhhonhcgfcaaaSanity
import Derived.Test.YtonhhonhcgfcaaaPure
import Derived.Test.YtonhhonhcgfcaaaLaw
import Derived.Test.YtonhhonhcgfcaaaAfter
namespace Go.Proofs.Ytonhhonhcgfcaaa.LLate
open Go.ChangeShapes Go.WideShapes Go.ChangeAt Go.RowKit Go.Shelf

theorem hit_plain (n x : Int) : hit n ⟨x, false, false⟩ = decide (n < x) := by simp [hit]
theorem sum_plain {d s : Int} (h : d + s ≤ 9223372036854775807) (h' : -9223372036854775808 ≤ d + s) : sumE d s = ⟨d + s, false, false⟩ := sumE_mid (by omega) (by omega)

/-- The stage at a time, times that do not decrease. -/
theorem stage_at {a b c d s n : Int} (hsum : d + s ≤ 9223372036854775807) (hsum' : -9223372036854775808 ≤ d + s) :
    (findR a b c d s n).1 = if n < a then 1 else if n < b then 2 else if n < c then 3 else if n < d then 4 else if n < d + s then 5 else 6 := by
  unfold findR allEnds
  rw [sum_plain hsum hsum']
  simp only [List.find?_cons, hit_plain, List.find?_nil]
  by_cases h1 : n < a
  · simp [h1]
  · by_cases h2 : n < b
    · simp [h1, h2]
    · by_cases h3 : n < c
      · simp [h1, h2, h3]
      · by_cases h4 : n < d
        · simp [h1, h2, h3, h4]
        · by_cases h5 : n < d + s
          · simp [h1, h2, h3, h4, h5]
          · simp [h1, h2, h3, h4, h5]

end Go.Proofs.Ytonhhonhcgfcaaa.LLate
