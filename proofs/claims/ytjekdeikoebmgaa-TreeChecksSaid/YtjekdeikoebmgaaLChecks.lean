/- TreeChecks: CheckPath agrees with the reference about paths, numbers, sizes and strings in which something was changed; no condition. -/
import Derived.Test.YtjekdeikoebmgaaLCkA
namespace Go.Proofs.Ytjekdeikoebmgaa.LChecks
open Go.ChangeShapes Go.WideShapes Go.ChangeAt Go.RowKit Go.Shelf Go.ChangeMaps Tr

set_option maxRecDepth 100000 in
set_option maxHeartbeats 3000000 in
theorem walk (w : World) (l : List UInt8) (a : Option Addr) (cap : Nat) (hc : l.length ≤ cap) (hm : l.length ≤ maxLen) (hA : l ≠ [] → ∃ g o, a = some ⟨g, o, none⟩ ∧ ∀ (i : Nat) (x : UInt8), l[i]? = some x → w.cell? ⟨g, o + i, none⟩ = some (Y x)) (n q0 q1 q2 q3 : Int) :
    Calls Try.prog 5 #[.slice a l.length cap, .int .i64 n, .agg #[.int .i64 q0, .int .i64 q1, .int .i64 q2, .int .i64 q3]] w fun e w' => e = .returned (.bool true) ∧ Below w.heap.size w w' := by
  have NQ := Blk.new w #[.int .i64 q0, .int .i64 q1, .int .i64 q2, .int .i64 q3] 41
  have hB := (Below.refl w.heap.size w).alloc (Nat.le_refl _) (.cells #[.int .i64 q0, .int .i64 q1, .int .i64 q2, .int .i64 q3] 41)
  have ST := Lib.hid (fun w' (hb : Below w.heap.size w w') => Strings_any l a cap w' hc hm (fun h => by
    obtain ⟨g, o, h1, h2⟩ := hA h
    exact ⟨g, o, h1, fun i x hx => keepCells hb _ _ (h2 i x hx)⟩))
  have hS := strsOf_small l
  have hsl := strsOf_len l
  have hs2 : ∀ s ∈ strsOf l, s.length ≤ 1000 := by
    intro s hs
    unfold strsOf at hs
    obtain ⟨p, _, rfl⟩ := List.mem_map.1 hs
    simp
  generalize strsOf l = ss at *
  clear hA
  go_enter Try.func5, Try.ntmps5
  go_wp2_with fail
  refine (Calls.chain hB hB.size (sanity_any _)).mono ?_; clear hB; rintro e w2 ⟨rfl, hB, hb2⟩
  have NQ := NQ.below hb2 NQ.lt
  clear hb2
  go_wp2_with fail
  refine (ST.out _ hB).mono ?_; rintro e w3 ⟨v, rfl, hO, hb3⟩
  have hB := hB.trans (hb3.mono hB.size)
  have NQ := NQ.below hb3 NQ.lt
  have hAS := hO.sarg
  clear hO hb3 ST
  go_wp2_with fail
  refine (HeadOf_any ss v w3 hS hAS).mono ?_; rintro e w4 ⟨rfl, hb4⟩
  have hB := hB.trans (hb4.mono hB.size)
  have NQ := NQ.below hb4 NQ.lt
  have hAS := hAS.below hb4
  clear hb4
  have r32 := root_length ss
  have HZ0 := Lib.hid zeroHead
  have HI := Lib.hid (hinfoD (ss.length : Int) (root ss) r32)
  have HO := Lib.hid (hdrow_one (ss.length : Int) (root ss))
  have HZ := Lib.hid (show (hdrow 0 (List.replicate 32 0)).size = (hdrow (ss.length : Int) (root ss)).size by rw [hdrow_size _ r32, hdrow_size _ hz_len2])
  have NZ := Lib.hid (Blk.new w4 (hdrow 0 (List.replicate 32 0)) 38)
  have N9 := Blk.new w4 (hdrow (ss.length : Int) (root ss)) 38
  have b5 := (Below.refl w4.heap.size w4).alloc (Nat.le_refl _) (.cells (hdrow (ss.length : Int) (root ss)) 38)
  have NQ := NQ.below b5 NQ.lt
  have hAS := hAS.below b5
  have hB := hB.trans (b5.mono hB.size)
  obtain ⟨R, hR⟩ : ∃ R, hdrow (ss.length : Int) (root ss) = R := ⟨_, rfl⟩
  rw [hR] at HI HO HZ N9 b5 NQ hAS hB
  rw [hR]
  have HR := Lib.hid hR
  obtain ⟨a1, cap1, rfl, hc1, hA1⟩ := id hAS
  have HAS := Lib.hid hAS
  have HA1 := Lib.hid hA1
  clear hR hAS hA1
  generalize hdrow 0 (List.replicate 32 0) = Z at *
  go_upto_region 4 with (first
    | (refine wpList_alloc_row rfl 38 rfl Z HZ0.out ?_; go_frame; try simp only [World.size_alloc])
    | (refine wpList_store_row rfl 38 (.tmp 9) (.tmp 22) rfl w4.heap.size R rfl rfl 38 _ NZ.out HI.out HZ.out HO.out ?_; go_frame; rw [World.setRow_alloc_new]))
  clear HZ0 HI HO HZ NZ b5
  generalize w4.alloc (.cells R 38) = w5 at *
  generalize w4.heap.size = b9 at *
  rw [← HR.out] at N9
  clear HR
  by_cases h0 : ss.length = 0
  · have t0 : ¬ ((0 : Int) < (ss.length : Int)) := by omega
    have HPQ := Lib.hid (RPath_q ss n (.slice a1 ss.length cap1) w5 hS HAS.out)
    have hpa := pathQ_all ss n
    have hpl := pathQ_len ss n
    generalize (pathQ ss n).1 = p at *
    generalize (pathQ ss n).2 = pb at *
    have hL : (ss.length : Int) = 0 := by omega
    have HL := Lib.hid h0
    clear h0 hL HAS HA1
    by_cases hn : 0 ≤ n
    · have t2 : ¬ (n < (ss.length : Int)) := by have := HL.out; omega
      go_wp2_with fail
      refine HPQ.out.mono ?_; rintro e w6 ⟨v10, rfl, hO, hb6⟩
      have hB := hB.trans (hb6.mono hB.size)
      have NQ := NQ.below hb6 NQ.lt
      have N9 := N9.below hb6 N9.lt
      have HP := hO.arg
      clear hO hb6 HPQ
      go_upto_region 10 with (fail)
      have hK9 := ‹∀ (a : Act) (w : World), Code.wp Try.prog _ _ a w → _›
      exact ck_t10 _ _ _ _ _ _ _ _ _ _ _ _ _ _ _ _ _ _ _ _ _ _ _ _ _ _ _ _ _ _ _ _ _ _ _ _ _ _ _ _ _ _ _ _ _ _ _ _ _ _ _ _ _ _ _ _ _ _ _ _ _ _ _ _ _ _ _ _ _ _ _ _ _ _ _ _ _ _ _ _ _ _ _ _ _ _ _ _ _ _ _ _ _ _ _ _ _ _ _ _ _ _ _ _ _ _ _ _ _ _ _ _ _ _ _ _ _ _ _ _ _ _ _ _ _ n q0 q1 q2 q3 (ss.length : Int) _ _ (root ss) [] _ w w6 (root_length _) (by simp) hpa (by omega) (by omega) (by omega) NQ N9 HP hB _ hK9
    · go_wp2_with fail
      refine HPQ.out.mono ?_; rintro e w6 ⟨v10, rfl, hO, hb6⟩
      have hB := hB.trans (hb6.mono hB.size)
      have NQ := NQ.below hb6 NQ.lt
      have N9 := N9.below hb6 N9.lt
      have HP := hO.arg
      clear hO hb6 HPQ
      go_upto_region 10 with (fail)
      have hK9 := ‹∀ (a : Act) (w : World), Code.wp Try.prog _ _ a w → _›
      exact ck_t10 _ _ _ _ _ _ _ _ _ _ _ _ _ _ _ _ _ _ _ _ _ _ _ _ _ _ _ _ _ _ _ _ _ _ _ _ _ _ _ _ _ _ _ _ _ _ _ _ _ _ _ _ _ _ _ _ _ _ _ _ _ _ _ _ _ _ _ _ _ _ _ _ _ _ _ _ _ _ _ _ _ _ _ _ _ _ _ _ _ _ _ _ _ _ _ _ _ _ _ _ _ _ _ _ _ _ _ _ _ _ _ _ _ _ _ _ _ _ _ _ _ _ _ _ _ n q0 q1 q2 q3 (ss.length : Int) _ _ (root ss) [] _ w w6 (root_length _) (by simp) hpa (by omega) (by omega) (by omega) NQ N9 HP hB _ hK9
  · obtain ⟨Rr, k, hR1, hR2, hR3, hK1, hK2, hkn⟩ := rem_two n ss.length (by omega)
    have t0 : (0 : Int) < (ss.length : Int) := by omega
    have t1 : ¬ ((ss.length : Int) = 0) := by omega
    have t2 : (0 : Int) ≤ Rr + (ss.length : Int) := by omega
    have t3 : Rr + (ss.length : Int) ≤ 2000 := by omega
    have t4 : (k : Int) < (ss.length : Int) := by omega
    obtain ⟨sk, hsk⟩ : ∃ sk, ss[k]? = some sk := ⟨ss[k], List.getElem?_eq_getElem hkn⟩
    have hs1 := hs2 sk (List.mem_of_getElem? hsk)
    obtain ⟨g, o, rfl, hA2⟩ := HA1.out (by rintro rfl; simp at hsk)
    have HPQ := Lib.hid (RPath_q ss (k : Int) (.slice (some ⟨g, o, none⟩) ss.length cap1) w5 hS HAS.out)
    have hpa := pathQ_all ss (k : Int)
    have hpl := pathQ_len ss (k : Int)
    generalize (pathQ ss (k : Int)).1 = p at *
    generalize (pathQ ss (k : Int)).2 = pb at *
    have hcell := hA2 k sk hsk
    have t5 : k < ss.length := hkn
    have t6 : ¬ (ss.length = 0) := h0
    have HC := Lib.hid hcell
    clear h0 hsk HAS HA1 hA2 hcell
    go_wp2_with fail
    refine HPQ.out.mono ?_; rintro e w6 ⟨v10, rfl, hO, hb6⟩
    have hB := hB.trans (hb6.mono hB.size)
    have NQ := NQ.below hb6 NQ.lt
    have N9 := N9.below hb6 N9.lt
    have HP := hO.arg
    have hcell := keepCells hb6 _ _ HC.out
    clear hO hb6 HPQ HC
    go_upto_region 10 with (fail)
    have hK9 := ‹∀ (a : Act) (w : World), Code.wp Try.prog _ _ a w → _›
    exact ck_t10 _ _ _ _ _ _ _ _ _ _ _ _ _ _ _ _ _ _ _ _ _ _ _ _ _ _ _ _ _ _ _ _ _ _ _ _ _ _ _ _ _ _ _ _ _ _ _ _ _ _ _ _ _ _ _ _ _ _ _ _ _ _ _ _ _ _ _ _ _ _ _ _ _ _ _ _ _ _ _ _ _ _ _ _ _ _ _ _ _ _ _ _ _ _ _ _ _ _ _ _ _ _ _ _ _ _ _ _ _ _ _ _ _ _ _ _ _ _ _ _ _ _ _ _ _ (k : Int) q0 q1 q2 q3 (ss.length : Int) _ _ (root ss) sk _ w w6 (root_length _) hs1 hpa (by omega) (by omega) (by omega) NQ N9 HP hB _ hK9
theorem four {l : List Int} (h : l.length = 4) : ∃ a b c d, l = [a, b, c, d] := by
  match l, h with
  | [a, b, c, d], _ => exact ⟨a, b, c, d, rfl⟩
set_option maxRecDepth 100000 in
theorem lifted (os : Os) (started : os.Started) (H : Type) (enc : TypeId × Value → H) :
    ReturnsInHanded {} Try.checked os 5 .any (Rows.treeChecksSpec.pre6 enc Try.prog Try.f5 Rows.treeChecksRow.domain false) (Rows.treeChecksSpec.post enc Try.prog Try.f5 false true false false) := by
  refine returnsInHanded_of_change (C := Try.checked) law_own started (by kernel_rfl) Try.func5
    (ChangeSpec.witness6 (enc := enc) (C := Try.checked) false ⟨#[], #[.slice none 0 0, .int .i64 0, .agg #[.int .i64 0, .int .i64 0, .int .i64 0, .int .i64 0]], []⟩ 8 (by kernel_rfl) (by kernel_rfl) (by kernel_rfl) (by kernel_rfl)) ?_
  intro W base args ds gs before hval0 hW _ _
  have hval : ∀ (j : Nat) t v, Try.f5.params[j]? = some t → args[j]? = some v → Value.okWide Try.prog W .any base t v := hval0
  have hWk : DataW.Whole enc Try.prog Try.f5.params.toList Rows.treeChecksSpec.vars false W args.toList ds gs before := hW
  obtain ⟨p, q, hA0, hV, rfl, _, _⟩ := hW
  have hA : DataW.TrodAll enc Try.prog W 0 (fun _ => true) true Try.f5.params.toList args.toList ds p := hA0
  rw [Try.params5] at hA hval
  obtain ⟨v0, vs0, d0, ds0, p0, q0, hargs, rfl, rfl, h0, r0⟩ := trodAll_cons hA
  obtain ⟨v1, vs1, d1, ds1, p1, q1, rfl, rfl, rfl, h1, r1⟩ := trodAll_cons r0
  obtain ⟨v2, vs2, d2, ds2, p2, q2, rfl, rfl, rfl, h2, r2⟩ := trodAll_cons r1
  obtain ⟨rfl, rfl, rfl⟩ := trodAll_nil r2
  obtain rfl : args = #[v0, v1, v2] := by cases args; simp_all
  obtain ⟨rfl, rfl⟩ := trodVars_none hV
  obtain ⟨l0, a0, c0, rfl, hc0, hm0, hr0⟩ := open_u8sA (hval 0 30 v0 rfl rfl) h0
  obtain ⟨a1, rfl, _, _, w1⟩ := open_int Try.underlying3 (hval 1 3 v1 rfl rfl) h1
  obtain ⟨zs2, l2, rfl, w2⟩ := open_int_array Try.underlying41 Try.underlying3 (by kernel_rfl) (by kernel_rfl) (hval 2 41 v2 rfl rfl) h2
  obtain ⟨x2_0, x2_1, x2_2, x2_3, rfl⟩ := four l2
  clear hA0 hval0
  refine (walk W l0 a0 c0 hc0 hm0 hr0 a1 x2_0 x2_1 x2_2 x2_3).mono fun e W' ⟨he, hb⟩ => ?_
  exact ⟨_, he, law_post law_laid rfl (by rw [Try.params5]; decide +kernel) (by kernel_rfl) Try.underlying4 rfl hWk hb⟩

theorem holds : Rows.TreeChecksSaid :=
  OpenClaim.holds_of_wide 5 Try.f5 rfl rfl rfl rfl rfl rfl rfl ⟨rfl, rfl, rfl, rfl, rfl⟩ rfl rfl rfl rfl rfl (by kernel_rfl) Try.func5 (by kernel_rfl)
    (of_decide_eq_true (by kernel_rfl)) (by unfold Func.isWrapper; first | (rw [if_pos (by decide +kernel)]; kernel_rfl) | (rw [if_neg (by decide +kernel)]; exact ⟨rfl, rfl⟩))
    (fun os started H enc _ => lifted os started H enc)

end Go.Proofs.Ytjekdeikoebmgaa.LChecks

namespace Go.Proofs.Ytjekdeikoebmgaa
/-- The statement. -/
theorem treeChecks_holds : Rows.TreeChecksSaid := LChecks.holds
end Go.Proofs.Ytjekdeikoebmgaa
