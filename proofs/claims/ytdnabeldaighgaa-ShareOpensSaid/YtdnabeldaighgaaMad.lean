/- made: the shares and commitments of coefficients. Conditions: the range of int. -/
import Derived.Test.YtdnabeldaighgaaRjn
namespace Go.Proofs.Ytdnabeldaighgaa
open Go.RowKit Go.Shelf Shr

set_option maxRecDepth 100000 in
theorem made_any (l : List Int) (z : Int) (v : Value) (w : World) (hl : All64 l) (hl9 : l.length ≤ 1000) (hz : 0 ≤ z ∧ z ≤ 255) (hA : IArg w v l) :
    Calls Try.prog 13 #[v, .int .u8 z] w fun e w' => ∃ v1 v2, e = .returned (.tuple #[v1, v2]) ∧ OwnSh w' w.heap.size v1 (spS l ((l.length : Int) + z % 6)) ∧ OwnI w' w.heap.size v2 (cmS l ((l.length : Int) + z % 6)) ∧ Below w.heap.size w w' ∧ Apart v1 v2 := by
  obtain ⟨z1, z2⟩ := hz
  have S1 := Lib.hid (Split_any l ((l.length : Int) + z % 6) v w hl (by omega) hA)
  obtain ⟨a, cap, rfl, hc, _⟩ := hA
  have e1 : z.tmod 6 = z % 6 := Int.tmod_eq_emod_of_nonneg z1
  have r1 := Int.emod_nonneg z (show (6 : Int) ≠ 0 by decide)
  have r2 := Int.emod_lt_of_pos z (show (0 : Int) < 6 by decide)
  obtain ⟨q, hq⟩ : ∃ q, z % 6 = q := ⟨_, rfl⟩
  rw [hq] at S1 e1 r1 r2
  rw [hq]
  have HQ := Lib.hid hq
  clear hq
  have e2 : IntKind.i64.wrap q = q := wrap_in _ (by omega) (by omega)
  have e3 : IntKind.i64.wrap ((l.length : Int) + q) = (l.length : Int) + q := wrap_in _ (by omega) (by omega)
  go_enter Try.func13, Try.ntmps13
  go_wp2_with fail
  refine S1.out.mono ?_
  rintro e w1 ⟨v1, v2, rfl, o1, o2, hb, hap⟩
  have HO := Lib.hid (And.intro o1 (And.intro o2 hap))
  clear o1 o2 hap
  go_wp2_with fail
  refine bodyPost_ret (results_tmp2 rfl _ _ _) rfl ?_
  exact ⟨v1, v2, rfl, HO.out.1, HO.out.2.1, hb, HO.out.2.2⟩
end Go.Proofs.Ytdnabeldaighgaa
