/- TreeTwice: a list that grows twice has grown altogether, and a string keeps its place; no condition. -/
import Derived.Test.YtjekdeikoebmgaaLTwB
namespace Go.Proofs.Ytjekdeikoebmgaa.LTwice
open Go.ChangeShapes Go.WideShapes Go.ChangeAt Go.RowKit Go.Shelf Go.ChangeMaps Tr

set_option maxRecDepth 100000 in
set_option maxHeartbeats 2000000 in
theorem walk (w : World) (l : List UInt8) (a : Option Addr) (cap : Nat) (hc : l.length ≤ cap) (hm : l.length ≤ maxLen) (hA : l ≠ [] → ∃ g o, a = some ⟨g, o, none⟩ ∧ ∀ (i : Nat) (x : UInt8), l[i]? = some x → w.cell? ⟨g, o + i, none⟩ = some (Y x)) (za zb : Int) (ha : 0 ≤ za ∧ za ≤ 255) (hb : 0 ≤ zb ∧ zb ≤ 255) :
    Calls Try.prog 11 #[.slice a l.length cap, .int .u8 za, .int .u8 zb] w fun e w' => e = .returned (.bool true) ∧ Below w.heap.size w w' := by
  obtain ⟨ha1, ha2⟩ := ha
  obtain ⟨hb1, hb2⟩ := hb
  have hB := Below.refl w.heap.size w
  have ST := Lib.hid (fun w' (hb : Below w.heap.size w w') => Strings_any l a cap w' hc hm (fun h => by
    obtain ⟨g, o, h1, h2⟩ := hA h
    exact ⟨g, o, h1, fun i x hx => keepCells hb _ _ (h2 i x hx)⟩))
  have hS := strsOf_small l
  have hsl := strsOf_len l
  generalize strsOf l = ss at *
  clear hA
  obtain ⟨m, hm1, hm2⟩ : ∃ m : Nat, za % ((ss.length : Int) + 1) = (m : Int) ∧ m ≤ ss.length := ⟨(za % ((ss.length : Int) + 1)).toNat, by have := Int.emod_nonneg za (by omega : (ss.length : Int) + 1 ≠ 0); omega, by have := Int.emod_lt_of_pos za (by omega : (0 : Int) < (ss.length : Int) + 1); omega⟩
  obtain ⟨n, hn1, hn2⟩ : ∃ n : Nat, zb % ((m : Int) + 1) = (n : Int) ∧ n ≤ m := ⟨(zb % ((m : Int) + 1)).toNat, by have := Int.emod_nonneg zb (by omega : (m : Int) + 1 ≠ 0); omega, by have := Int.emod_lt_of_pos zb (by omega : (0 : Int) < (m : Int) + 1); omega⟩
  go_enter Try.func11, Try.ntmps11
  go_wp2_with fail
  refine (Calls.chain hB hB.size (sanity_any _)).mono ?_; clear hB; rintro e w2 ⟨rfl, hB, _⟩
  go_wp2_with fail
  refine (ST.out _ hB).mono ?_; rintro e w3 ⟨v, rfl, hO, hb3⟩
  have hB := hB.trans (hb3.mono hB.size)
  have hAS := hO.sarg
  clear hO hb3 ST
  obtain ⟨a1, cap1, rfl, hc1, hA1⟩ := hAS
  go_upto_region 5 with (fail)
  rw [hm1, hn1]
  clear hm1 hn1
  have hK9 := ‹∀ (a : Act) (w : World), Code.wp Try.prog _ _ a w → _›
  exact tw_t5 _ _ _ _ _ _ _ _ _ _ _ _ _ _ _ _ _ _ _ _ _ _ _ _ _ _ _ _ _ _ _ _ _ _ _ _ _ _ _ _ _ _ _ _ _ _ _ _ _ _ _ _ _ _ _ _ _ _ _ _ _ _ _ _ _ _ _ _ _ _ _ _ _ _ _ _ _ _ _ _ _ _ _ _ _ _ _ _ _ _ _ _ _ _ _ _ _ _ _ _ _ _ _ _ _ _ _ _ _ _ _ _ _ _ _ _ _ _ _ _ _ _ _ _ _ _ _ _ _ _ _ _ _ _ _ _ _ _ _ _ _ _ _ _ _ _ _ _ _ _ _ _ _ _ _ _ _ _ _ _ _ _ _ _ a1 cap1 m n ss w w3 hS hsl hm2 hn2 ⟨hc1, hA1⟩ hB _ hK9

set_option maxRecDepth 100000 in
theorem lifted (os : Os) (started : os.Started) (H : Type) (enc : TypeId × Value → H) :
    ReturnsInHanded {} Try.checked os 11 .any (Rows.treeTwiceSpec.pre6 enc Try.prog Try.f11 Rows.treeTwiceRow.domain false) (Rows.treeTwiceSpec.post enc Try.prog Try.f11 false true false false) := by
  refine returnsInHanded_of_change (C := Try.checked) law_own started (by kernel_rfl) Try.func11
    (ChangeSpec.witness6 (enc := enc) (C := Try.checked) false ⟨#[], #[.slice none 0 0, .int .u8 0, .int .u8 0], []⟩ 8 (by kernel_rfl) (by kernel_rfl) (by kernel_rfl) (by kernel_rfl)) ?_
  intro W base args ds gs before hval0 hW _ _
  have hval : ∀ (j : Nat) t v, Try.f11.params[j]? = some t → args[j]? = some v → Value.okWide Try.prog W .any base t v := hval0
  have hWk : DataW.Whole enc Try.prog Try.f11.params.toList Rows.treeTwiceSpec.vars false W args.toList ds gs before := hW
  obtain ⟨p, q, hA0, hV, rfl, _, _⟩ := hW
  have hA : DataW.TrodAll enc Try.prog W 0 (fun _ => true) true Try.f11.params.toList args.toList ds p := hA0
  rw [Try.params11] at hA hval
  obtain ⟨v0, vs0, d0, ds0, p0, q0, hargs, rfl, rfl, h0, r0⟩ := trodAll_cons hA
  obtain ⟨v1, vs1, d1, ds1, p1, q1, rfl, rfl, rfl, h1, r1⟩ := trodAll_cons r0
  obtain ⟨v2, vs2, d2, ds2, p2, q2, rfl, rfl, rfl, h2, r2⟩ := trodAll_cons r1
  obtain ⟨rfl, rfl, rfl⟩ := trodAll_nil r2
  obtain rfl : args = #[v0, v1, v2] := by cases args; simp_all
  obtain ⟨rfl, rfl⟩ := trodVars_none hV
  obtain ⟨l0, a0, c0, rfl, hc0, hm0, hr0⟩ := open_u8sA (hval 0 30 v0 rfl rfl) h0
  obtain ⟨a1, rfl, _, _, w1⟩ := open_int Try.underlying5 (hval 1 5 v1 rfl rfl) h1
  obtain ⟨a2, rfl, _, _, w2⟩ := open_int Try.underlying5 (hval 2 5 v2 rfl rfl) h2
  clear hA0 hval0
  refine (walk W l0 a0 c0 hc0 hm0 hr0 a1 a2 (by simpa [Lit.wf, IntKind.min, IntKind.max, IntKind.signed, IntKind.bits] using w1) (by simpa [Lit.wf, IntKind.min, IntKind.max, IntKind.signed, IntKind.bits] using w2)).mono fun e W' ⟨he, hb⟩ => ?_
  exact ⟨_, he, law_post law_laid rfl (by rw [Try.params11]; decide +kernel) (by kernel_rfl) Try.underlying4 rfl hWk hb⟩

theorem holds : Rows.TreeTwiceSaid :=
  OpenClaim.holds_of_wide 11 Try.f11 rfl rfl rfl rfl rfl rfl rfl ⟨rfl, rfl, rfl, rfl, rfl⟩ rfl rfl rfl rfl rfl (by kernel_rfl) Try.func11 (by kernel_rfl)
    (of_decide_eq_true (by kernel_rfl)) (by unfold Func.isWrapper; first | (rw [if_pos (by decide +kernel)]; kernel_rfl) | (rw [if_neg (by decide +kernel)]; exact ⟨rfl, rfl⟩))
    (fun os started H enc _ => lifted os started H enc)

end Go.Proofs.Ytjekdeikoebmgaa.LTwice

namespace Go.Proofs.Ytjekdeikoebmgaa
/-- The statement. -/
theorem treeTwice_holds : Rows.TreeTwiceSaid := LTwice.holds
end Go.Proofs.Ytjekdeikoebmgaa
