/- TreeBent: CheckGrowth agrees with the reference about proofs, sizes and roots in which something was changed; no condition. -/
import Derived.Test.YtjekdeikoebmgaaLBnB
namespace Go.Proofs.Ytjekdeikoebmgaa.LBent
open Go.ChangeShapes Go.WideShapes Go.ChangeAt Go.RowKit Go.Shelf Go.ChangeMaps Tr

set_option maxRecDepth 100000 in
set_option maxHeartbeats 3000000 in
theorem walk (w : World) (l : List UInt8) (a : Option Addr) (cap : Nat) (hc : l.length ≤ cap) (hm : l.length ≤ maxLen) (hA : l ≠ [] → ∃ g o, a = some ⟨g, o, none⟩ ∧ ∀ (i : Nat) (x : UInt8), l[i]? = some x → w.cell? ⟨g, o + i, none⟩ = some (Y x)) (za q0 q1 q2 q3 q4 : Int) (ha : 0 ≤ za ∧ za ≤ 255) :
    Calls Try.prog 8 #[.slice a l.length cap, .int .u8 za, .agg #[.int .i64 q0, .int .i64 q1, .int .i64 q2, .int .i64 q3, .int .i64 q4]] w fun e w' => e = .returned (.bool true) ∧ Below w.heap.size w w' := by
  obtain ⟨ha1, ha2⟩ := ha
  have NQ := Blk.new w #[.int .i64 q0, .int .i64 q1, .int .i64 q2, .int .i64 q3, .int .i64 q4] 54
  have hB := (Below.refl w.heap.size w).alloc (Nat.le_refl _) (.cells #[.int .i64 q0, .int .i64 q1, .int .i64 q2, .int .i64 q3, .int .i64 q4] 54)
  have ST := Lib.hid (fun w' (hb : Below w.heap.size w w') => Strings_any l a cap w' hc hm (fun h => by
    obtain ⟨g, o, h1, h2⟩ := hA h
    exact ⟨g, o, h1, fun i x hx => keepCells hb _ _ (h2 i x hx)⟩))
  have hS := strsOf_small l
  have hsl := strsOf_len l
  generalize strsOf l = ss at *
  clear hA
  obtain ⟨k, hk1, hk2⟩ : ∃ k : Nat, za % ((ss.length : Int) + 1) = (k : Int) ∧ k ≤ ss.length := ⟨(za % ((ss.length : Int) + 1)).toNat, by have := Int.emod_nonneg za (by omega : (ss.length : Int) + 1 ≠ 0); omega, by have := Int.emod_lt_of_pos za (by omega : (0 : Int) < (ss.length : Int) + 1); omega⟩
  go_enter Try.func8, Try.ntmps8
  go_wp2_with fail
  refine (Calls.chain hB hB.size (sanity_any _)).mono ?_; clear hB; rintro e w2 ⟨rfl, hB, hb2⟩
  have NQ := NQ.below hb2 NQ.lt
  clear hb2
  go_wp2_with fail
  refine (ST.out _ hB).mono ?_; rintro e w3 ⟨v, rfl, hO, hb3⟩
  have hB := hB.trans (hb3.mono hB.size)
  have NQ := NQ.below hb3 NQ.lt
  have hAS := hO.sarg
  clear hO hb3 ST
  obtain ⟨a1, cap1, rfl, hc1, hA1⟩ := id hAS
  have HG := Lib.hid (RGrowth_q ss k (.slice a1 ss.length cap1) w3 hS hAS)
  have hpa := growth_all ss k
  have hpl := growth_len ss k
  generalize (growth ss (k : Nat)).1 = p at *
  generalize (growth ss (k : Nat)).2 = pb at *
  have HAS := Lib.hid hAS
  clear hA1 hAS
  go_wp2_with fail
  refine HG.out.mono ?_; rintro e w4 ⟨v10, rfl, hO, hb4⟩
  have hB := hB.trans (hb4.mono hB.size)
  have NQ := NQ.below hb4 NQ.lt
  have HP := hO.arg
  have hAS := HAS.out.below hb4
  have hlk : (ss.take k).length = k := by rw [List.length_take]; omega
  have hKS : ∀ w', Below w4.heap.size w4 w' → SArg w' (.slice a1 k cap1) (ss.take k) := fun w' hbb => by
    obtain ⟨a2, c2, e2, h1, h2⟩ := hAS
    cases e2
    exact ⟨a1, cap1, by rw [hlk], by omega, fun h => by
      obtain ⟨g, o, h3, h4⟩ := h2 (by rintro rfl; simp at h)
      exact ⟨g, o, h3, (h4.below hbb).take k⟩⟩
  have hsl2 : ∀ w, (Instr.sliceAt 22 (.slice a1 ss.length cap1) none (some (.int .i64 k)) none).run Try.prog w = .ok (.slice a1 k cap1) w := fun w => by
    have e0 : (k : Int) ≤ (cap1 : Int) := by omega
    cases a1 with
    | none => go_simp
    | some p => go_simp
  have H1 := Lib.hid (hlk ▸ HeadOf_any (ss.take k) (.slice a1 k cap1) w4 (hS.take k) (hKS _ (Below.refl _ _)))
  have k1 : (k : Int) ≤ (ss.length : Int) := by omega
  have OK1 : HdOk (k : Int) (root (ss.take k)) := ⟨by omega, root_length _⟩
  have OK2 : HdOk (ss.length : Int) (root ss) := ⟨by omega, root_length _⟩
  have HAS4 := Lib.hid hAS
  clear hO hb4 HG HAS hKS hAS hlk
  go_wp2_with fail
  refine H1.out.mono ?_; rintro e w5 ⟨rfl, hb5⟩
  have hB := hB.trans (hb5.mono hB.size)
  have NQ := NQ.below hb5 NQ.lt
  have HP := HP.below hb5
  have H2 := Lib.hid (HeadOf_any ss (.slice a1 ss.length cap1) w5 hS (HAS4.out.below hb5))
  clear hb5 H1 HAS4 hsl2
  generalize root (ss.take k) = r1 at *
  generalize root ss = r2 at *
  obtain ⟨R1, e1⟩ : ∃ R, hdrow (k : Int) r1 = R := ⟨_, rfl⟩
  rw [e1]
  go_wp2_with fail
  refine H2.out.mono ?_; rintro e w6 ⟨rfl, hb6⟩
  have hB := hB.trans (hb6.mono hB.size)
  have NQ := NQ.below hb6 NQ.lt
  have HP := HP.below hb6
  clear hb6 H2
  obtain ⟨R2, e2⟩ : ∃ R, hdrow (ss.length : Int) r2 = R := ⟨_, rfl⟩
  rw [e2]
  have HZ0 := Lib.hid zeroHead
  have hz33 : (hdrow 0 (List.replicate 32 0)).size = 33 := hdrow_size _ hz_len2
  have I1 := Lib.hid (e1 ▸ hinfoD (k : Int) r1 OK1.len)
  have I2 := Lib.hid (e2 ▸ hinfoD (ss.length : Int) r2 OK2.len)
  have O1 := Lib.hid (e1 ▸ hdrow_one (k : Int) r1)
  have O2 := Lib.hid (e2 ▸ hdrow_one (ss.length : Int) r2)
  generalize hdrow 0 (List.replicate 32 0) = Z at *
  have Z1 := Lib.hid (show Z.size = R1.size by rw [hz33, ← e1, OK1.size])
  have Z2 := Lib.hid (show Z.size = R2.size by rw [hz33, ← e2, OK2.size])
  have A12 := (Blk.new w6 Z 38).alloc (.cells Z 38)
  have A13 := Blk.new (w6.alloc (.cells Z 38)) Z 38
  rw [World.size_alloc] at A13
  have N12 := Lib.hid (fun w' (h : w' = (w6.alloc (.cells Z 38)).alloc (.cells Z 38)) => (h ▸ A12 : Blk w' w6.heap.size Z 38))
  have N13 := Lib.hid (fun w' (h : w' = ((w6.alloc (.cells Z 38)).alloc (.cells Z 38)).setRow w6.heap.size R1) => (h ▸ A13.rowOther R1 (by omega) : Blk w' (w6.heap.size + 1) Z 38))
  have b7 := Below.setRow (Below.setRow (((Below.refl w6.heap.size w6).alloc (Nat.le_refl _) (.cells Z 38)).alloc (by simp) (.cells Z 38)) (Nat.le_refl _) R1) (show w6.heap.size ≤ w6.heap.size + 1 by omega) R2
  have M12 := Lib.hid ((A12.row R1).rowOther R2 (show w6.heap.size ≠ w6.heap.size + 1 by omega))
  have M13 := Lib.hid ((A13.rowOther R1 (show w6.heap.size + 1 ≠ w6.heap.size by omega)).row R2)
  have HB7 := Lib.hid b7
  have E1 := Lib.hid e1
  have E2 := Lib.hid e2
  clear A12 A13 b7 e1 e2 hz33
  go_upto_region 6 with (first
    | (refine wpList_alloc_row rfl 38 rfl Z HZ0.out ?_; go_frame; try simp only [World.size_alloc])
    | (refine wpList_store_row rfl 38 (.tmp 12) (.tmp 39) rfl w6.heap.size R1 rfl rfl 38 _ (N12.out _ rfl) I1.out Z1.out O1.out ?_; go_frame)
    | (refine wpList_store_row rfl 38 (.tmp 13) (.tmp 41) rfl (w6.heap.size + 1) R2 rfl rfl 38 _ (N13.out _ rfl) I2.out Z2.out O2.out ?_; go_frame))
  have N12 := M12.out
  have N13 := M13.out
  have b7 := HB7.out
  clear HZ0 I1 I2 O1 O2 Z1 Z2 M12 M13 HB7
  generalize (((w6.alloc (.cells Z 38)).alloc (.cells Z 38)).setRow w6.heap.size R1).setRow (w6.heap.size + 1) R2 = w7 at *
  rw [← E1.out] at N12
  rw [← E2.out] at N13
  clear E1 E2
  have hB := hB.trans (b7.mono hB.size)
  have NQ := NQ.below b7 NQ.lt
  have HP := HP.below b7
  clear b7
  generalize w6.heap.size = b12 at *
  refine bn_r6 _ _ _ _ _ _ _ _ _ _ _ _ _ _ _ _ _ _ _ _ _ _ _ _ _ _ _ _ _ _ _ _ _ _ _ _ _ _ _ _ _ _ _ _ _ _ _ _ _ _ _ _ _ _ _ _ _ _ _ _ _ _ _ _ _ _ _ _ _ _ _ _ _ _ _ _ _ _ _ _ _ _ _ _ _ _ _ _ _ _ _ _ _ _ _ _ _ _ _ _ _ _ _ _ _ _ _ _ _ _ _ _ _ _ _ _ _ _ _ _ _ _ (k : Int) (ss.length : Int) r1 r2 b12 (b12 + 1) w7 OK1.len OK2.len N12 N13 _ ?_
  intro y42 y43 y44 b14 b15 b16 w8 e45 e46 e56 g14 g15 g16 N14 N15 N16 hb8
  go_upto_region 7 with (fail)
  have hK9 := ‹∀ (a : Act) (w : World), Code.wp Try.prog _ _ a w → _›
  exact bn_t7 _ _ _ _ _ _ _ _ _ _ _ _ _ _ _ _ _ _ _ _ _ _ _ _ _ _ _ _ _ _ _ _ _ _ _ _ _ _ _ _ _ _ _ _ _ _ _ _ _ _ _ _ _ _ _ _ _ _ _ _ _ _ _ _ _ _ _ _ _ _ _ _ _ _ _ _ _ _ _ _ _ _ _ _ _ _ _ _ _ _ _ _ _ _ _ _ _ _ _ _ _ _ _ _ _ _ _ _ _ _ _ _ _ _ _ _ _ (k : Int) (ss.length : Int) q0 q1 q2 q3 q4 _ b12 (b12 + 1) b14 b15 b16 v10 r1 r2 p w w7 w8 OK1 OK2 hpa (by omega) NQ N12 N13 HP hB hb8 N14 N15 N16 e45 e46 e56 g14 g15 g16 _ hK9

theorem five {l : List Int} (h : l.length = 5) : ∃ a b c d e, l = [a, b, c, d, e] := by
  match l, h with
  | [a, b, c, d, e], _ => exact ⟨a, b, c, d, e, rfl⟩
set_option maxRecDepth 100000 in
theorem lifted (os : Os) (started : os.Started) (H : Type) (enc : TypeId × Value → H) :
    ReturnsInHanded {} Try.checked os 8 .any (Rows.treeBentSpec.pre6 enc Try.prog Try.f8 Rows.treeBentRow.domain false) (Rows.treeBentSpec.post enc Try.prog Try.f8 false true false false) := by
  refine returnsInHanded_of_change (C := Try.checked) law_own started (by kernel_rfl) Try.func8
    (ChangeSpec.witness6 (enc := enc) (C := Try.checked) false ⟨#[], #[.slice none 0 0, .int .u8 0, .agg #[.int .i64 0, .int .i64 0, .int .i64 0, .int .i64 0, .int .i64 0]], []⟩ 8 (by kernel_rfl) (by kernel_rfl) (by kernel_rfl) (by kernel_rfl)) ?_
  intro W base args ds gs before hval0 hW _ _
  have hval : ∀ (j : Nat) t v, Try.f8.params[j]? = some t → args[j]? = some v → Value.okWide Try.prog W .any base t v := hval0
  have hWk : DataW.Whole enc Try.prog Try.f8.params.toList Rows.treeBentSpec.vars false W args.toList ds gs before := hW
  obtain ⟨p, q, hA0, hV, rfl, _, _⟩ := hW
  have hA : DataW.TrodAll enc Try.prog W 0 (fun _ => true) true Try.f8.params.toList args.toList ds p := hA0
  rw [Try.params8] at hA hval
  obtain ⟨v0, vs0, d0, ds0, p0, q0, hargs, rfl, rfl, h0, r0⟩ := trodAll_cons hA
  obtain ⟨v1, vs1, d1, ds1, p1, q1, rfl, rfl, rfl, h1, r1⟩ := trodAll_cons r0
  obtain ⟨v2, vs2, d2, ds2, p2, q2, rfl, rfl, rfl, h2, r2⟩ := trodAll_cons r1
  obtain ⟨rfl, rfl, rfl⟩ := trodAll_nil r2
  obtain rfl : args = #[v0, v1, v2] := by cases args; simp_all
  obtain ⟨rfl, rfl⟩ := trodVars_none hV
  obtain ⟨l0, a0, c0, rfl, hc0, hm0, hr0⟩ := open_u8sA (hval 0 30 v0 rfl rfl) h0
  obtain ⟨a1, rfl, _, _, w1⟩ := open_int Try.underlying5 (hval 1 5 v1 rfl rfl) h1
  obtain ⟨zs2, l2, rfl, w2⟩ := open_int_array Try.underlying54 Try.underlying3 (by kernel_rfl) (by kernel_rfl) (hval 2 54 v2 rfl rfl) h2
  obtain ⟨x2_0, x2_1, x2_2, x2_3, x2_4, rfl⟩ := five l2
  clear hA0 hval0
  refine (walk W l0 a0 c0 hc0 hm0 hr0 a1 x2_0 x2_1 x2_2 x2_3 x2_4 (by simpa [Lit.wf, IntKind.min, IntKind.max, IntKind.signed, IntKind.bits] using w1)).mono fun e W' ⟨he, hb⟩ => ?_
  exact ⟨_, he, law_post law_laid rfl (by rw [Try.params8]; decide +kernel) (by kernel_rfl) Try.underlying4 rfl hWk hb⟩

theorem holds : Rows.TreeBentSaid :=
  OpenClaim.holds_of_wide 8 Try.f8 rfl rfl rfl rfl rfl rfl rfl ⟨rfl, rfl, rfl, rfl, rfl⟩ rfl rfl rfl rfl rfl (by kernel_rfl) Try.func8 (by kernel_rfl)
    (of_decide_eq_true (by kernel_rfl)) (by unfold Func.isWrapper; first | (rw [if_pos (by decide +kernel)]; kernel_rfl) | (rw [if_neg (by decide +kernel)]; exact ⟨rfl, rfl⟩))
    (fun os started H enc _ => lifted os started H enc)

end Go.Proofs.Ytjekdeikoebmgaa.LBent

namespace Go.Proofs.Ytjekdeikoebmgaa
/-- The statement. -/
theorem treeBent_holds : Rows.TreeBentSaid := LBent.holds
end Go.Proofs.Ytjekdeikoebmgaa
