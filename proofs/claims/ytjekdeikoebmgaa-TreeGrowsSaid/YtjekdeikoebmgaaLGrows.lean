/- TreeGrows: growths are those of the reference implementation, and CheckGrowth accepts them; no condition. -/
import Derived.Test.YtjekdeikoebmgaaArgsG
namespace Go.Proofs.Ytjekdeikoebmgaa.LGrows
open Go.ChangeShapes Go.WideShapes Go.ChangeAt Go.RowKit Go.Shelf Go.ChangeMaps Tr

set_option maxRecDepth 100000 in
set_option maxHeartbeats 2000000 in
theorem walk (w : World) (l : List UInt8) (a : Option Addr) (cap : Nat) (hc : l.length ≤ cap) (hm : l.length ≤ maxLen) (hA : l ≠ [] → ∃ g o, a = some ⟨g, o, none⟩ ∧ ∀ (i : Nat) (x : UInt8), l[i]? = some x → w.cell? ⟨g, o + i, none⟩ = some (Y x)) (n : Int) :
    Calls Try.prog 7 #[.slice a l.length cap, .int .i64 n] w fun e w' => e = .returned (.bool true) ∧ Below w.heap.size w w' := by
  have hB := Below.refl w.heap.size w
  have ST := Lib.hid (fun w' (hb : Below w.heap.size w w') => Strings_any l a cap w' hc hm (fun h => by
    obtain ⟨g, o, h1, h2⟩ := hA h
    exact ⟨g, o, h1, fun i x hx => keepCells hb _ _ (h2 i x hx)⟩))
  have hS := strsOf_small l
  have hsl := strsOf_len l
  generalize strsOf l = ss at *
  have P1 := Lib.hid (fun v w hA => Growth_q ss n v w hS hA)
  have P2 := Lib.hid (fun v w hA => RGrowth_q ss n v w hS hA)
  have hpa := growth_all ss n
  have hpl := growth_len ss n
  obtain ⟨hs, hhs⟩ : ∃ hs, (growth ss n).1 = hs := ⟨_, rfl⟩
  obtain ⟨b, hb⟩ : ∃ b, (growth ss n).2 = b := ⟨_, rfl⟩
  rw [hhs, hb] at P1 P2
  rw [hhs] at hpa hpl
  have SM := Lib.hid (fun va vb w hA hB => Same_self hs hpa va vb w hA hB (by omega))
  have q0 : (b != b) = false := by simp
  clear hA hhs hb hpa
  go_enter Try.func7, Try.ntmps7
  go_wp2_with fail
  refine (Calls.chain hB hB.size (sanity_any _)).mono ?_; clear hB; rintro e w2 ⟨rfl, hB, _⟩
  go_wp2_with fail
  refine (ST.out _ hB).mono ?_; rintro e w3 ⟨v, rfl, hO, hb3⟩
  have hB := hB.trans (hb3.mono hB.size)
  have hAS := hO.sarg
  clear hO hb3 ST
  go_wp2_with fail
  refine (P1.out _ _ hAS).mono ?_; rintro e w4 ⟨p, rfl, hO, hb4⟩
  have hB := hB.trans (hb4.mono hB.size)
  have hAS := hAS.below hb4
  have hP := hO.arg
  clear hO hb4
  go_wp2_with fail
  refine (P2.out _ _ hAS).mono ?_; rintro e w5 ⟨q, rfl, hO, hb5⟩
  have hB := hB.trans (hb5.mono hB.size)
  have hAS := hAS.below hb5
  have hP := hP.below hb5
  have hQ := hO.arg
  clear hO hb5
  go_wp2_with fail
  refine (SM.out _ _ _ hP hQ).mono ?_; rintro e w6 ⟨rfl, hb6⟩
  have hB := hB.trans (hb6.mono hB.size)
  have hAS := hAS.below hb6
  clear hb6 hP hQ P1 P2 SM
  obtain ⟨a1, cap1, rfl, hc1, hA1⟩ := hAS
  have HA1 := Lib.hid hA1
  clear hA1
  go_wp2_with fail
  go_loopw [11] (fun i wr => ∃ k : Nat, k ≤ ss.length + 1 ∧ i = .int .i64 k ∧ Below w6.heap.size w6 wr ∧ Below w.heap.size w wr) (fun i _ => ss.length + 1 - (intOf i).toNat)
  case atStart => exact ⟨0, by omega, rfl, Below.refl _ _, hB⟩
  case round =>
    clear hB
    obtain ⟨k, hk, rfl, hb, hB⟩ := hrel
    by_cases hlt : k ≤ ss.length
    · have hAS : SArg wr (.slice a1 ss.length cap1) ss := ⟨a1, cap1, rfl, hc1, fun h => by obtain ⟨g, o, h1, h2⟩ := HA1.out h; exact ⟨g, o, h1, h2.below hb⟩⟩
      have hlk : (ss.take k).length = k := by rw [List.length_take]; omega
      have hKS : ∀ w', Below wr.heap.size wr w' → SArg w' (.slice a1 k cap1) (ss.take k) := fun w' hbb => ⟨a1, cap1, by rw [hlk], by omega, fun h => by
        obtain ⟨g, o, h1, h2⟩ := HA1.out (by rintro rfl; simp at h)
        exact ⟨g, o, h1, ((h2.below hb).below hbb).take k⟩⟩
      have hsl : ∀ w, (Instr.sliceAt 22 (.slice a1 ss.length cap1) none (some (.int .i64 k)) none).run Try.prog w = .ok (.slice a1 k cap1) w := fun w => by
        have e0 : (k : Int) ≤ (cap1 : Int) := by omega
        cases a1 with
        | none => go_simp
        | some p => go_simp
      obtain ⟨gk1, gk2⟩ := growth_ok ss k hlt
      have P3 := Lib.hid (gk1 ▸ Growth_q ss k (.slice a1 ss.length cap1) wr hS hAS)
      have H1 := Lib.hid (fun w' hA => hlk ▸ HeadOf_any (ss.take k) (.slice a1 k cap1) w' (hS.take k) hA)
      have H2 := Lib.hid (fun w' hA => HeadOf_any ss (.slice a1 ss.length cap1) w' hS hA)
      have hpl2 := growth_len ss k
      have C1 := Lib.hid (fun v w hP => gk2 ▸ CheckGrowth_q k ss.length (root (ss.take k)) (root ss) (growth ss k).1 v w (root_length _) (root_length _) (by omega) (by omega) (growth_all _ _) hP)
      have k1 : (k : Int) ≤ (ss.length : Int) := by omega
      have HKS := Lib.hid hKS
      have HAS := Lib.hid hAS
      clear hpl2 HA1 hKS hAS gk1 gk2 hlk
      go_wp2_with fail
      refine P3.out.mono ?_; rintro e w7 ⟨p3, rfl, hO, hb7⟩
      have hb := hb.trans (hb7.mono hb.size)
      have hB := hB.trans (hb7.mono hB.size)
      have hP3 := hO.arg
      clear hO P3
      go_wp2_with fail
      refine (H1.out _ (HKS.out _ hb7)).mono ?_; rintro e w8 ⟨rfl, hb8⟩
      have hb := hb.trans (hb8.mono hb.size)
      have hB := hB.trans (hb8.mono hB.size)
      have hP3 := hP3.below hb8
      have hAS8 := (HAS.out.below hb7).below hb8
      generalize hdrow (k : Int) (root (ss.take k)) = R1 at *
      clear hb7 hb8 H1 HKS HAS
      go_wp2_with fail
      refine (H2.out _ hAS8).mono ?_; rintro e w9 ⟨rfl, hb9⟩
      have hb := hb.trans (hb9.mono hb.size)
      have hB := hB.trans (hb9.mono hB.size)
      have hP3 := hP3.below hb9
      generalize hdrow (ss.length : Int) (root ss) = R2 at *
      clear hAS8 hb9 H2 hsl
      go_wp2_with fail
      refine (C1.out _ _ hP3).mono ?_; rintro e w10 ⟨rfl, hb10⟩
      have hb := hb.trans (hb10.mono hb.size)
      have hB := hB.trans (hb10.mono hB.size)
      clear hP3 C1 hb10
      go_wp2_with fail
      go_roundw
      case rel => exact ⟨k + 1, by omega, by go_num, hb, hB⟩
      case measure => simp [intOf]; omega
    · have k1 : ¬ ((k : Int) ≤ (ss.length : Int)) := by omega
      go_wp2_with fail
      go_ret
      exact ⟨rfl, hB⟩

set_option maxRecDepth 100000 in
theorem lifted (os : Os) (started : os.Started) (H : Type) (enc : TypeId × Value → H) :
    ReturnsInHanded {} Try.checked os 7 .any (Rows.treeGrowsSpec.pre6 enc Try.prog Try.f7 Rows.treeGrowsRow.domain false) (Rows.treeGrowsSpec.post enc Try.prog Try.f7 false true false false) := by
  refine returnsInHanded_of_change (C := Try.checked) law_own started (by kernel_rfl) Try.func7
    (ChangeSpec.witness6 (enc := enc) (C := Try.checked) false ⟨#[], #[.slice none 0 0, .int .i64 0], []⟩ 8 (by kernel_rfl) (by kernel_rfl) (by kernel_rfl) (by kernel_rfl)) ?_
  intro W base args ds gs before hval0 hW _ _
  have hval : ∀ (j : Nat) t v, Try.f7.params[j]? = some t → args[j]? = some v → Value.okWide Try.prog W .any base t v := hval0
  have hWk : DataW.Whole enc Try.prog Try.f7.params.toList Rows.treeGrowsSpec.vars false W args.toList ds gs before := hW
  obtain ⟨p, q, hA0, hV, rfl, _, _⟩ := hW
  have hA : DataW.TrodAll enc Try.prog W 0 (fun _ => true) true Try.f7.params.toList args.toList ds p := hA0
  rw [Try.params7] at hA hval
  obtain ⟨v0, vs0, d0, ds0, p0, q0, hargs, rfl, rfl, h0, r0⟩ := trodAll_cons hA
  obtain ⟨v1, vs1, d1, ds1, p1, q1, rfl, rfl, rfl, h1, r1⟩ := trodAll_cons r0
  obtain ⟨rfl, rfl, rfl⟩ := trodAll_nil r1
  obtain rfl : args = #[v0, v1] := by cases args; simp_all
  obtain ⟨rfl, rfl⟩ := trodVars_none hV
  obtain ⟨l0, a0, c0, rfl, hc0, hm0, hr0⟩ := open_u8sA (hval 0 30 v0 rfl rfl) h0
  obtain ⟨a1, rfl, _, _, w1⟩ := open_int Try.underlying3 (hval 1 3 v1 rfl rfl) h1
  clear hA0 hval0
  refine (walk W l0 a0 c0 hc0 hm0 hr0 a1).mono fun e W' ⟨he, hb⟩ => ?_
  exact ⟨_, he, law_post law_laid rfl (by rw [Try.params7]; decide +kernel) (by kernel_rfl) Try.underlying4 rfl hWk hb⟩

theorem holds : Rows.TreeGrowsSaid :=
  OpenClaim.holds_of_wide 7 Try.f7 rfl rfl rfl rfl rfl rfl rfl ⟨rfl, rfl, rfl, rfl, rfl⟩ rfl rfl rfl rfl rfl (by kernel_rfl) Try.func7 (by kernel_rfl)
    (of_decide_eq_true (by kernel_rfl)) (by unfold Func.isWrapper; first | (rw [if_pos (by decide +kernel)]; kernel_rfl) | (rw [if_neg (by decide +kernel)]; exact ⟨rfl, rfl⟩))
    (fun os started H enc _ => lifted os started H enc)

end Go.Proofs.Ytjekdeikoebmgaa.LGrows

namespace Go.Proofs.Ytjekdeikoebmgaa
/-- The statement. -/
theorem treeGrows_holds : Rows.TreeGrowsSaid := LGrows.holds
end Go.Proofs.Ytjekdeikoebmgaa
