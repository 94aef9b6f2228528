/- TreePaths: paths are those of the reference implementation, and CheckPath accepts them; no condition. -/
import Derived.Test.YtjekdeikoebmgaaArgs
namespace Go.Proofs.Ytjekdeikoebmgaa.LPaths
open Go.ChangeShapes Go.WideShapes Go.ChangeAt Go.RowKit Go.Shelf Go.ChangeMaps Tr

set_option maxRecDepth 100000 in
set_option maxHeartbeats 2000000 in
theorem walk (w : World) (l : List UInt8) (a : Option Addr) (cap : Nat) (hc : l.length ≤ cap) (hm : l.length ≤ maxLen) (hA : l ≠ [] → ∃ g o, a = some ⟨g, o, none⟩ ∧ ∀ (i : Nat) (x : UInt8), l[i]? = some x → w.cell? ⟨g, o + i, none⟩ = some (Y x)) (n : Int) :
    Calls Try.prog 4 #[.slice a l.length cap, .int .i64 n] w fun e w' => e = .returned (.bool true) ∧ Below w.heap.size w w' := by
  have hB := Below.refl w.heap.size w
  have ST := Lib.hid (fun w' (hb : Below w.heap.size w w') => Strings_any l a cap w' hc hm (fun h => by
    obtain ⟨g, o, h1, h2⟩ := hA h
    exact ⟨g, o, h1, fun i x hx => keepCells hb _ _ (h2 i x hx)⟩))
  have hS := strsOf_small l
  have hsl := strsOf_len l
  generalize strsOf l = ss at *
  have P1 := Lib.hid (fun v w hA => Path_q ss n v w hS hA)
  have P2 := Lib.hid (fun v w hA => RPath_q ss n v w hS hA)
  have hpa := pathQ_all ss n
  have hpl := pathQ_len ss n
  obtain ⟨hs, hhs⟩ : ∃ hs, (pathQ ss n).1 = hs := ⟨_, rfl⟩
  obtain ⟨b, hb⟩ : ∃ b, (pathQ ss n).2 = b := ⟨_, rfl⟩
  rw [hhs, hb] at P1 P2
  rw [hhs] at hpa hpl
  have SM := Lib.hid (fun va vb w hA hB => Same_self hs hpa va vb w hA hB (by omega))
  have q0 : (b != b) = false := by simp
  clear hA hhs hb hpa
  go_enter Try.func4, Try.ntmps4
  go_wp2_with fail
  refine (Calls.chain hB hB.size (sanity_any _)).mono ?_; clear hB; rintro e w2 ⟨rfl, hB, _⟩
  go_wp2_with fail
  refine (ST.out _ hB).mono ?_; rintro e w3 ⟨v, rfl, hO, hb3⟩
  have hB := hB.trans (hb3.mono hB.size)
  have hAS := hO.sarg
  clear hO hb3 ST
  go_wp2_with fail
  refine (P1.out _ _ hAS).mono ?_; rintro e w4 ⟨p, rfl, hO, hb4⟩
  have hB := hB.trans (hb4.mono hB.size)
  have hAS := hAS.below hb4
  have hP := hO.arg
  clear hO hb4
  go_wp2_with fail
  refine (P2.out _ _ hAS).mono ?_; rintro e w5 ⟨q, rfl, hO, hb5⟩
  have hB := hB.trans (hb5.mono hB.size)
  have hAS := hAS.below hb5
  have hP := hP.below hb5
  have hQ := hO.arg
  clear hO hb5
  go_wp2_with fail
  refine (SM.out _ _ _ hP hQ).mono ?_; rintro e w6 ⟨rfl, hb6⟩
  have hB := hB.trans (hb6.mono hB.size)
  have hAS := hAS.below hb6
  clear hb6 hP hQ P1 P2 SM
  obtain ⟨a1, cap1, rfl, hc1, hA1⟩ := hAS
  have HA1 := Lib.hid hA1
  clear hA1
  have hB6 := Lib.hid hB
  go_wp2_with fail
  go_loopw [40] (fun i wr => ∃ k : Nat, k ≤ ss.length ∧ i = .int .i64 k ∧ Below w6.heap.size w6 wr ∧ Below w.heap.size w wr) (fun i _ => ss.length - (intOf i).toNat)
  case atStart => exact ⟨0, by omega, rfl, Below.refl _ _, hB⟩
  case round =>
    clear hB
    obtain ⟨k, hk, rfl, hb, hB⟩ := hrel
    by_cases hlt : k < ss.length
    · obtain ⟨g, o, rfl, hA2⟩ := HA1.out (by rintro rfl; simp at hlt)
      obtain ⟨s, hs1⟩ : ∃ s, ss[k]? = some s := ⟨ss[k]'hlt, List.getElem?_eq_getElem _⟩
      have P3 := Lib.hid (Path_yes ss k (.slice (some ⟨g, o, none⟩) ss.length cap1) wr hS (SArg.of rfl hc1 (hA2.below hb)) hlt)
      have H1 := Lib.hid (fun w' hA => HeadOf_any ss (.slice (some ⟨g, o, none⟩) ss.length cap1) w' hS hA)
      have hss := hS.each s (List.mem_of_getElem? hs1)
      have hpl2 := path_len ss k
      have C1 := Lib.hid (fun v w hP => checkP_own ss k s hs1 ▸ CheckPath_q ss.length k (root ss) s (path ss k) v w (root_length _) hss (path_all _ _) (by omega) (by omega) hP)
      have cs := hA2 k s hs1
      have k1 : (k : Int) < (ss.length : Int) := by omega
      have HA2 := Lib.hid hA2
      clear hs1 hpl2 hss HA1 hA2
      go_wp2_with fail
      refine P3.out.mono ?_; rintro e w7 ⟨p3, rfl, hO, hb7⟩
      have hb := hb.trans (hb7.mono hb.size)
      have hB := hB.trans (hb7.mono hB.size)
      have F1 := Lib.hid (fun x : After w7 => H1.out x.W (SArg.of rfl hc1 (HA2.out.below (hb.trans (x.hb.mono hb.size)))))
      have F2 := Lib.hid (fun x : After w7 => C1.out p3 x.W (hO.arg.below x.hb))
      have fc := After.cell (keepCells hb _ _ cs)
      generalize hdrow (ss.length : Int) (root ss) = R at *
      clear hO hb7 cs P3 C1 H1
      go_wp2_with fail
      refine wp_region_after (by kernel_rfl) (by kernel_rfl) ?_
      repeat (go_big_quiet_step (first | (with_reducible exact After.call (F1.out _)) | (with_reducible exact After.call (F2.out _))))
      refine wpQuiet_nil ?_
      rintro w8 ⟨x8, rfl⟩
      have hb := hb.trans (x8.hb.mono hb.size)
      have hB := hB.trans (x8.hb.mono hB.size)
      clear fc F1 F2
      go_wp2_with fail
      go_roundw
      case rel => exact ⟨k + 1, by omega, by go_num, hb, hB⟩
      case measure => simp [intOf]; omega
    · have k1 : ¬ ((k : Int) < (ss.length : Int)) := by omega
      go_wp2_with fail
      go_ret
      exact ⟨rfl, hB⟩

set_option maxRecDepth 100000 in
theorem lifted (os : Os) (started : os.Started) (H : Type) (enc : TypeId × Value → H) :
    ReturnsInHanded {} Try.checked os 4 .any (Rows.treePathsSpec.pre6 enc Try.prog Try.f4 Rows.treePathsRow.domain false) (Rows.treePathsSpec.post enc Try.prog Try.f4 false true false false) := by
  refine returnsInHanded_of_change (C := Try.checked) law_own started (by kernel_rfl) Try.func4
    (ChangeSpec.witness6 (enc := enc) (C := Try.checked) false ⟨#[], #[.slice none 0 0, .int .i64 0], []⟩ 8 (by kernel_rfl) (by kernel_rfl) (by kernel_rfl) (by kernel_rfl)) ?_
  intro W base args ds gs before hval0 hW _ _
  have hval : ∀ (j : Nat) t v, Try.f4.params[j]? = some t → args[j]? = some v → Value.okWide Try.prog W .any base t v := hval0
  have hWk : DataW.Whole enc Try.prog Try.f4.params.toList Rows.treePathsSpec.vars false W args.toList ds gs before := hW
  obtain ⟨p, q, hA0, hV, rfl, _, _⟩ := hW
  have hA : DataW.TrodAll enc Try.prog W 0 (fun _ => true) true Try.f4.params.toList args.toList ds p := hA0
  rw [Try.params4] at hA hval
  obtain ⟨v0, vs0, d0, ds0, p0, q0, hargs, rfl, rfl, h0, r0⟩ := trodAll_cons hA
  obtain ⟨v1, vs1, d1, ds1, p1, q1, rfl, rfl, rfl, h1, r1⟩ := trodAll_cons r0
  obtain ⟨rfl, rfl, rfl⟩ := trodAll_nil r1
  obtain rfl : args = #[v0, v1] := by cases args; simp_all
  obtain ⟨rfl, rfl⟩ := trodVars_none hV
  obtain ⟨l0, a0, c0, rfl, hc0, hm0, hr0⟩ := open_u8sA (hval 0 30 v0 rfl rfl) h0
  obtain ⟨a1, rfl, _, _, w1⟩ := open_int Try.underlying3 (hval 1 3 v1 rfl rfl) h1
  clear hA0 hval0
  refine (walk W l0 a0 c0 hc0 hm0 hr0 a1).mono fun e W' ⟨he, hb⟩ => ?_
  exact ⟨_, he, law_post law_laid rfl (by rw [Try.params4]; decide +kernel) (by kernel_rfl) Try.underlying4 rfl hWk hb⟩

theorem holds : Rows.TreePathsSaid :=
  OpenClaim.holds_of_wide 4 Try.f4 rfl rfl rfl rfl rfl rfl rfl ⟨rfl, rfl, rfl, rfl, rfl⟩ rfl rfl rfl rfl rfl (by kernel_rfl) Try.func4 (by kernel_rfl)
    (of_decide_eq_true (by kernel_rfl)) (by unfold Func.isWrapper; first | (rw [if_pos (by decide +kernel)]; kernel_rfl) | (rw [if_neg (by decide +kernel)]; exact ⟨rfl, rfl⟩))
    (fun os started H enc _ => lifted os started H enc)

end Go.Proofs.Ytjekdeikoebmgaa.LPaths

namespace Go.Proofs.Ytjekdeikoebmgaa
/-- The statement. -/
theorem treePaths_holds : Rows.TreePathsSaid := LPaths.holds
end Go.Proofs.Ytjekdeikoebmgaa
