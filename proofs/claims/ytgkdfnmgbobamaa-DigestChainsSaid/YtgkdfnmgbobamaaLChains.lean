/- DigestChains: the hash of a text of a hash, again and again, is that of the reference model; no condition. -/
import Derived.Test.YtgkdfnmgbobamaaSan
import Derived.Test.YtgkdfnmgbobamaaLaw
import Derived.ChangeMaps5
namespace Go.Proofs.Ytgkdfnmgbobamaa.LChains
open Go.ChangeShapes Go.WideShapes Go.ChangeAt Go.RowKit Go.Shelf Go.ChangeMaps

/-- One round on a string. -/
def chainS (x : List UInt8) : Nat → List UInt8
  | 0 => x
  | k + 1 => hex (Sha.sum (chainS x k))
theorem chainS_len (x : List UInt8) (k : Nat) (h : x.length ≤ 100) : (chainS x k).length ≤ 100 := by
  cases k with
  | zero => exact h
  | succ k => rw [chainS, hex_length, Sha.sum_length]; omega
set_option maxRecDepth 100000 in
set_option maxHeartbeats 2000000 in
theorem walk (s : ByteArray) (many : Int) (w : World) :
    Calls Try.prog 5 #[.string s, .int .i64 many] w fun e w' => e = .returned (.bool true) ∧ Below w.heap.size w w' := by
  obtain ⟨n, hn1, hn2, hmin⟩ := min_cut s 100 100 rfl
  have HS := Lib.hid (extract_size s n hn1)
  have HM := Lib.hid (fun w => Mod_any many 20 (by omega) (by omega) w)
  have m0 : 0 ≤ many % 20 := Int.emod_nonneg _ (by omega)
  have m1 : many % 20 < 20 := Int.emod_lt_of_pos _ (by omega)
  have HL : Hid ((s.extract 0 n).data.toList.length ≤ 100) := by
    show _ ≤ _
    rw [Array.length_toList]; show (s.extract 0 n).size ≤ 100
    rw [HS.out]; exact hn2
  have HE : Hid (Value.string (s.extract 0 n) = S (s.extract 0 n).data.toList) := rfl
  generalize many % 20 = M at *
  generalize hx : (s.extract 0 n).data.toList = x at *
  have hB := Below.refl w.heap.size w
  clear hx
  go_enter Try.func5, Try.ntmps5
  go_wp2_with fail
  refine (Calls.chain hB (sanity_any _)).mono ?_; clear hB; rintro e w9 ⟨rfl, hB⟩
  go_wp2_with fail
  rw [HE.out]
  go_loopw [6, 7, 8] (fun a b i wr => ∃ k : Nat, (k : Int) ≤ M ∧ i = .int .i64 k ∧ a = S (chainS x k) ∧ b = S (chainS x k) ∧ Below w.heap.size w wr) (fun _ _ i _ => (20 - intOf i).toNat)
  case atStart => exact ⟨0, by omega, rfl, rfl, rfl, hB⟩
  case round =>
    clear hB
    obtain ⟨k, hk, rfl, rfl, rfl, hB⟩ := hrel
    have hl := chainS_len x k HL.out
    have E1 := Lib.hid (fun w => SumS_any (chainS x k) (by omega) w)
    have E2 := Lib.hid (fun w => RSum_any (chainS x k) (by omega) w)
    have E3 := Lib.hid (fun w => Text_any (Sha.sum (chainS x k)) (Sha.sum_length _) w)
    have E4 := Lib.hid (fun w => RText_any (Sha.sum (chainS x k)) (Sha.sum_length _) w)
    have HC : Hid (chainS x (k + 1) = hex (Sha.sum (chainS x k))) := rfl
    generalize hrow (Sha.sum (chainS x k)) = R at *
    generalize hex (Sha.sum (chainS x k)) = T at *
    generalize chainS x k = c at *
    by_cases hlt : (k : Int) < M
    · go_wp2_with fail
      refine (Calls.still hB (HM.out _)).mono ?_; clear hB; rintro e w9 ⟨rfl, hB⟩
      go_wp2_with fail
      refine (Calls.chain hB (E1.out _)).mono ?_; clear hB; rintro e w9 ⟨rfl, hB⟩
      go_wp2_with fail
      refine (Calls.chain hB (E3.out _)).mono ?_; clear hB; rintro e w9 ⟨rfl, hB⟩
      go_wp2_with fail
      refine (Calls.chain hB (E2.out _)).mono ?_; clear hB; rintro e w9 ⟨rfl, hB⟩
      go_wp2_with fail
      refine (Calls.chain hB (E4.out _)).mono ?_; clear hB; rintro e w9 ⟨rfl, hB⟩
      go_wp2_with fail
      go_roundw
      case rel => exact ⟨k + 1, by omega, by go_num, by rw [HC.out], by rw [HC.out], hB⟩
      case measure => simp [intOf]; omega
    · go_wp2_with fail
      refine (Calls.still hB (HM.out _)).mono ?_; clear hB; rintro e w9 ⟨rfl, hB⟩
      go_wp2_with fail
      go_ret
      exact ⟨rfl, hB⟩

set_option maxRecDepth 100000 in
theorem lifted (os : Os) (started : os.Started) (H : Type) (enc : TypeId × Value → H) :
    ReturnsInHanded {} Try.checked os 5 .any (Rows.digestChainsSpec.pre6 enc Try.prog Try.f5 Rows.digestChainsRow.domain false) (Rows.digestChainsSpec.post enc Try.prog Try.f5 false true false false) := by
  refine returnsInHanded_of_change (C := Try.checked) law_own started (by kernel_rfl) Try.func5
    (ChangeSpec.witness6 (enc := enc) (C := Try.checked) false ⟨#[], #[.string ⟨#[]⟩, .int .i64 0], []⟩ 8 (by kernel_rfl) (by kernel_rfl) (by kernel_rfl) (by kernel_rfl)) ?_
  intro W base args ds gs before hval0 hW _ _
  have hval : ∀ (j : Nat) t v, Try.f5.params[j]? = some t → args[j]? = some v → Value.okWide Try.prog W .any base t v := hval0
  have hWk : DataW.Whole enc Try.prog Try.f5.params.toList Rows.digestChainsSpec.vars false W args.toList ds gs before := hW
  obtain ⟨p, q, hA0, hV, rfl, _, _⟩ := hW
  have hA : DataW.TrodAll enc Try.prog W 0 (fun _ => true) true Try.f5.params.toList args.toList ds p := hA0
  rw [Try.params5] at hA hval
  obtain ⟨v0, vs0, d0, ds0, p0, q0, hargs, rfl, rfl, h0, r0⟩ := trodAll_cons hA
  obtain ⟨v1, vs1, d1, ds1, p1, q1, rfl, rfl, rfl, h1, r1⟩ := trodAll_cons r0
  obtain ⟨rfl, rfl, rfl⟩ := trodAll_nil r1
  obtain rfl : args = #[v0, v1] := by cases args; simp_all
  obtain ⟨rfl, rfl⟩ := trodVars_none hV
  obtain ⟨s0, rfl, _, _, w0⟩ := open_string Try.underlying9 (hval 0 9 v0 rfl rfl) h0
  obtain ⟨a1, rfl, _, _, w1⟩ := open_int Try.underlying3 (hval 1 3 v1 rfl rfl) h1
  clear hA0 hval0
  refine (walk s0 a1 W).mono fun e W' ⟨he, hb⟩ => ?_
  exact ⟨_, he, law_post law_laid rfl (by rw [Try.params5]; decide +kernel) (by kernel_rfl) Try.underlying4 rfl hWk hb⟩

theorem holds : Rows.DigestChainsSaid :=
  OpenClaim.holds_of_wide 5 Try.f5 rfl rfl rfl rfl rfl rfl rfl ⟨rfl, rfl, rfl, rfl, rfl⟩ rfl rfl rfl rfl rfl (by kernel_rfl) Try.func5 (by kernel_rfl)
    (of_decide_eq_true (by kernel_rfl)) (by unfold Func.isWrapper; first | (rw [if_pos (by decide +kernel)]; kernel_rfl) | (rw [if_neg (by decide +kernel)]; exact ⟨rfl, rfl⟩))
    (fun os started H enc _ => lifted os started H enc)

end Go.Proofs.Ytgkdfnmgbobamaa.LChains

namespace Go.Proofs.Ytgkdfnmgbobamaa
/-- The statement. -/
theorem digestChains_holds : Rows.DigestChainsSaid := LChains.holds
end Go.Proofs.Ytgkdfnmgbobamaa
