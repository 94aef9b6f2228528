/- ShareOnly: no other Y in range fits for the same X; no condition. -/
import Derived.Test.YtdnabeldaighgaaAgm
namespace Go.Proofs.Ytdnabeldaighgaa.LOnly
open Go.ChangeShapes Go.WideShapes Go.ChangeAt Go.RowKit Go.Shelf Go.ChangeMaps Shr Pol

theorem vfy_coms {cs : List Int} (h : cs.all blw = true) (h1 : 1 ≤ cs.length) (h2 : cs.length ≤ 100) (x y : Int) : vfy (coms cs) (x, y) = (insd (x, y) && (y == val cs x)) := by
  unfold vfy; rw [comm_coms cs h h1 h2, Bool.true_and, fts_coms cs h]
set_option maxRecDepth 100000 in
set_option maxHeartbeats 2000000 in
theorem walk (w : World) (v : Value) (l : List Int) (k by_ : Int) (hl : All64 l) (hl9 : l.length ≤ 9223372036854775807) (hA : IArg w v l) (hk : 0 ≤ k ∧ k ≤ 255) (hby : In64 by_) :
    Calls Try.prog 7 #[v, .int .u8 k, I by_] w fun e w' => e = .returned (.bool true) ∧ Below w.heap.size w w' := by
  obtain ⟨k1, k2⟩ := hk
  have C1 := Lib.hid (fun (w' : World) (hb : Below w.heap.size w w') => Coefs_any l v w' hl hl9 (hA.below hb))
  obtain ⟨a, cap, rfl, hc, _⟩ := hA
  have hcs := cofs_blw l
  obtain ⟨hn1, hn2⟩ := cofs_len l
  generalize cofs l = cs at *
  have M1 := Lib.hid (fun (v : Value) (w : World) (h : IArg w v cs) => made_good cs 3 (by decide) v w hcs hn1 (by omega) h)
  have HVF := Lib.hid (fun x y => vfy_coms hcs hn1 (by omega) x y)
  obtain ⟨n, hn⟩ : ∃ n, cs.length = n := ⟨_, rfl⟩
  have HN := Lib.hid hn
  have hB := Below.refl w.heap.size w
  rw [hn] at hn1 hn2
  clear hn
  go_enter Try.func7, Try.ntmps7
  go_wp2_with fail
  refine (Calls.chain hB (sanity_any _)).mono ?_; clear hB; rintro e w2 ⟨rfl, hB⟩
  go_wp2_with fail
  refine (C1.out _ hB).mono ?_; rintro e w3 ⟨v3, rfl, o3, hb3⟩
  have hB := hB.trans (hb3.mono hB.size)
  have HI3 := Lib.hid o3.iarg
  clear hb3 C1 o3
  go_wp2_with fail
  refine (M1.out _ _ HI3.out).mono ?_; rintro e w4 ⟨v1, v2, rfl, o1, o2, hb4, _⟩
  have hB := hB.trans (hb4.mono hB.size)
  rw [HN.out] at o1
  simp only [Nat.reduceMod] at o1
  obtain ⟨g, c1, rfl, hc1, VR⟩ := OwnV.row o1 (by rw [shl_length]; omega)
  rw [shl_length] at hc1
  rw [shl_length]
  obtain ⟨N, hN⟩ : ∃ N, n + 3 = N := ⟨_, rfl⟩
  rw [hN] at VR hc1
  rw [hN]
  have hN11 : N ≤ 9 := by omega
  have hN1 : 1 ≤ N := by omega
  have HI2 := Lib.hid o2.iarg
  -- the share that is chosen
  obtain ⟨i, hi⟩ := Int.eq_ofNat_of_zero_le (Int.emod_nonneg k (show (N : Int) ≠ 0 by omega))
  have hiN : i < N := by have := Int.emod_lt_of_pos k (show 0 < (N : Int) by omega); omega
  have hti : k.tmod (N : Int) = (i : Int) := by rw [Int.tmod_eq_emod_of_nonneg k1]; exact hi
  have hv := val_range cs ((i : Int) + 1)
  have hq : QZ = 1152921504606845789 := rfl
  obtain ⟨c0, c1'⟩ := (OwnV.shat (cap := c1) VR).cells (shl_get cs N i hiN)
  rw [Nat.zero_add] at c0 c1'
  have HX1 : Hid (vfy (coms cs) ((i : Int) + 1, val cs ((i : Int) + 1)) = true) := by
    show _ = true
    rw [HVF.out, insd_of (by omega) (by omega) hv.1 hv.2, beq_self_eq_true]; rfl
  have hyr : ∀ z, 0 ≤ Fld.addS (val cs ((i : Int) + 1)) z QZ ∧ Fld.addS (val cs ((i : Int) + 1)) z QZ < QZ := fun z => by
    rw [addS_q]; exact ⟨Int.emod_nonneg _ (by decide), Int.emod_lt_of_pos _ (by decide)⟩
  have HX2 : Hid (∀ z, vfy (coms cs) ((i : Int) + 1, Fld.addS (val cs ((i : Int) + 1)) z QZ) = (Fld.addS (val cs ((i : Int) + 1)) z QZ == val cs ((i : Int) + 1))) := by
    show ∀ z, _
    intro z
    rw [HVF.out, insd_of (by omega) (by omega) (hyr z).1 (hyr z).2]; rfl
  have mb := Int.emod_nonneg by_ (show QZ ≠ 0 by decide)
  have mb2 := Int.emod_lt_of_pos by_ (show 0 < QZ by decide)
  have D1 := Lib.hid (fun w => quiet_eq (Mod_any by_ 1152921504606845789 hby (by decide) (by decide) w))
  have D2 := Lib.hid (fun w => Add_any (val cs ((i : Int) + 1)) (by_ % 1152921504606845789) 1152921504606845789 ⟨by omega, by omega⟩ ⟨by omega, by omega⟩ (by decide) w)
  obtain ⟨y, hy⟩ : ∃ y, val cs ((i : Int) + 1) = y := ⟨_, rfl⟩
  obtain ⟨z, hz⟩ : ∃ z, by_ % 1152921504606845789 = z := ⟨_, rfl⟩
  obtain ⟨yv, hyv⟩ : ∃ yv, Fld.addS y z 1152921504606845789 = yv := ⟨_, rfl⟩
  have HX2 : Hid (vfy (coms cs) ((i : Int) + 1, yv) = (yv == y)) := by
    show _ = _
    have := HX2.out z
    rw [hy] at this
    rw [← hyv]; exact this
  have hyv64 : In64 yv := by rw [← hyv]; exact addS_in (by decide)
  rw [hy] at D2 c1' HX1
  rw [hz] at D1 D2
  rw [hyv] at D2
  have hy64 : In64 y := by rw [← hy]; constructor <;> omega
  have hx64 : In64 ((i : Int) + 1) := by constructor <;> omega
  have V1 := Lib.hid (fun (w' : World) (hb : Below w4.heap.size w4 w') => HX1.out ▸ Verify_any (coms cs) ((i : Int) + 1) y v2 w' (coms_all64 cs) hx64 hy64 (by rw [coms_len, HN.out]; omega) (HI2.out.below hb))
  have V2 := Lib.hid (fun (w' : World) (hb : Below w4.heap.size w4 w') => HX2.out ▸ Verify_any (coms cs) ((i : Int) + 1) yv v2 w' (coms_all64 cs) hx64 hyv64 (by rw [coms_len, HN.out]; omega) (HI2.out.below hb))
  obtain ⟨x, hx⟩ : ∃ x, (i : Int) + 1 = x := ⟨_, rfl⟩
  rw [hx] at c0 V1 V2
  have t1 : ((N : Int) == 0) = false := by rw [beq_eq_false_iff_ne]; omega
  have t2 : ¬ ((N : Int) = 0) := by omega
  have t3 : k % (N : Int) = (i : Int) := hi
  have t4 : (i : Int) < (N : Int) := by omega
  have t5 : (0 : Int) < (N : Int) := by omega
  have hb4s := hb4.size
  -- what the boxes hold
  have N10 := Blk.new w4 #[I x, I y] 33
  have hb5 := (Below.refl w4.heap.size w4).alloc (Nat.le_refl _) (.cells #[I x, I y] 33)
  have N11 := Blk.new (w4.alloc (.cells #[I x, I y] 33)) #[I x, I y] 33
  rw [World.size_alloc] at N11
  have N10' := N10.alloc (.cells #[I x, I y] 33)
  have hb6 := hb5.alloc hb5.size (.cells #[I x, I y] 33)
  have d0 := N10.cell 0 _ rfl
  have d1 := N10.cell 1 _ rfl
  have H10 := Lib.hid N10'
  have H11 := Lib.hid N11
  clear N10 N11 N10' o1 o2 VR hb4 M1 hN hi hv hq mb mb2 hy hz hyv hyr hy64 hyv64 hx64 hx HVF HX1 HX2 hti HI2 HI3
  go_upto_region 7 with (fail)
  generalize (w4.alloc (.cells #[I x, I y] 33)).alloc (.cells #[I x, I y] 33) = w6 at *
  have f1 := After.cell (H10.out.cell 1 _ rfl)
  clear d0 d1 c0 c1'
  refine wp_region_after_tail 5 (by kernel_rfl) (by kernel_rfl) (by kernel_rfl) (by kernel_rfl) ?_
  simp only [List.take_succ_cons, List.take_zero, List.drop_succ_cons, List.drop_zero]
  repeat (go_big_quiet_step (first | (with_reducible exact After.call (D1.out _)) | (with_reducible exact After.call (D2.out _))))
  refine wpQuiet_nil ?_
  rintro w7 ⟨x7, rfl⟩
  have h7 := x7.hb
  have hb7 := hb6.trans (h7.mono hb6.size)
  have N10 := H10.out.below h7 H10.out.lt
  have N11 := H11.out.below h7 H11.out.lt
  generalize x7.W = w7 at *
  have z11 := N11.cell 1 _ rfl
  have y11 := N11.frozen 1
  have M10 := Lib.hid (N10.other (a := ⟨w4.heap.size + 1, 1, none⟩) (show w4.heap.size ≠ w4.heap.size + 1 by omega) (I yv))
  have M11 := Lib.hid (N11.set 1 (I yv))
  have hb8 := hb7.setCell (show w4.heap.size ≤ (⟨w4.heap.size + 1, 1, none⟩ : Addr).block by show w4.heap.size ≤ w4.heap.size + 1; omega) (I yv)
  clear f1 x7 h7 N10 N11 H10 H11 D1 D2 hb6 hb7 hb5
  go_upto_region 8 with (fail)
  clear z11 y11
  generalize w7.setCell ⟨w4.heap.size + 1, 1, none⟩ (I yv) = w8 at *
  have g10 := After.share (M10.out.cell 0 _ rfl) (M10.out.cell 1 _ rfl)
  have g11 := After.share (M11.out.cell 0 _ rfl) (M11.out.cell 1 _ rfl)
  have e10 := After.cell (M10.out.cell 1 _ rfl)
  have e11 := After.cell (M11.out.cell 1 _ rfl)
  have hB8 := hB.trans (hb8.mono hB.size)
  have W1 := Lib.hid (fun x : After w8 => V1.out x.W (hb8.trans (x.hb.mono hb8.size)))
  have W2 := Lib.hid (fun x : After w8 => V2.out x.W (hb8.trans (x.hb.mono hb8.size)))
  obtain ⟨q, hq⟩ : ∃ q, (yv == y) = q := ⟨_, rfl⟩
  rw [hq] at W2
  have hqq : (q == q) = true := beq_self_eq_true q
  clear M10 M11 V1 V2 HX2
  refine wp_region_after (by kernel_rfl) (by kernel_rfl) ?_
  repeat (first
    | (refine quiet_load_at 33 (.tmp 10) (by rfl) ⟨w4.heap.size, 0, none⟩ (by rfl) #[I x, I y] g10 (by kernel_rfl) ?_; go_frame)
    | (refine quiet_load_at 33 (.tmp 11) (by rfl) ⟨w4.heap.size + 1, 0, none⟩ (by rfl) #[I x, I yv] g11 (by kernel_rfl) ?_; go_frame)
    | (go_big_quiet_step (first | (with_reducible exact After.call (W1.out _)) | (with_reducible exact After.call (W2.out _)))))
  refine wpQuiet_nil ?_
  rintro w9 ⟨x9, rfl⟩
  have hB9 := hB8.trans (x9.hb.mono hB8.size)
  generalize x9.W = w9 at *
  clear g10 g11 e10 e11 x9 W1 W2 hB8 hb8
  go_wp2_with fail
  go_ret
  exact ⟨rfl, hB9⟩

set_option maxRecDepth 100000 in
theorem lifted (os : Os) (started : os.Started) (H : Type) (enc : TypeId × Value → H) :
    ReturnsInHanded {} Try.checked os 7 .any (Rows.shareOnlySpec.pre6 enc Try.prog Try.f7 Rows.shareOnlyRow.domain false) (Rows.shareOnlySpec.post enc Try.prog Try.f7 false true false false) := by
  refine returnsInHanded_of_change (C := Try.checked) law_own started (by kernel_rfl) Try.func7
    (ChangeSpec.witness6 (enc := enc) (C := Try.checked) false ⟨#[], #[.slice none 0 0, .int .u8 0, .int .i64 0], []⟩ 8 (by kernel_rfl) (by kernel_rfl) (by kernel_rfl) (by kernel_rfl)) ?_
  intro W base args ds gs before hval0 hW _ _
  have hval : ∀ (j : Nat) t v, Try.f7.params[j]? = some t → args[j]? = some v → Value.okWide Try.prog W .any base t v := hval0
  have hWk : DataW.Whole enc Try.prog Try.f7.params.toList Rows.shareOnlySpec.vars false W args.toList ds gs before := hW
  obtain ⟨p, q, hA0, hV, rfl, _, _⟩ := hW
  have hA : DataW.TrodAll enc Try.prog W 0 (fun _ => true) true Try.f7.params.toList args.toList ds p := hA0
  rw [Try.params7] at hA hval
  obtain ⟨v0, vs0, d0, ds0, p0, q0, hargs, rfl, rfl, h0, r0⟩ := trodAll_cons hA
  obtain ⟨v1, vs1, d1, ds1, p1, q1, rfl, rfl, rfl, h1, r1⟩ := trodAll_cons r0
  obtain ⟨v2, vs2, d2, ds2, p2, q2, rfl, rfl, rfl, h2, r2⟩ := trodAll_cons r1
  obtain ⟨rfl, rfl, rfl⟩ := trodAll_nil r2
  obtain rfl : args = #[v0, v1, v2] := by cases args; simp_all
  obtain ⟨rfl, rfl⟩ := trodVars_none hV
  obtain ⟨l0, hA0_, hl0, hn0⟩ := open_intsA (hval 0 22 v0 rfl rfl) h0
  obtain ⟨a1, rfl, _, _, w1⟩ := open_int Try.underlying5 (hval 1 5 v1 rfl rfl) h1
  obtain ⟨a2, rfl, _, _, w2⟩ := open_int Try.underlying3 (hval 2 3 v2 rfl rfl) h2
  clear hA0 hval0
  refine (walk W v0 l0 a1 a2 hl0 hn0 hA0_ (by simpa [Lit.wf, IntKind.min, IntKind.max, IntKind.signed, IntKind.bits] using w1) (in64_wf w2)).mono fun e W' ⟨he, hb⟩ => ?_
  exact ⟨_, he, law_post law_laid rfl (by rw [Try.params7]; decide +kernel) (by kernel_rfl) Try.underlying4 rfl hWk hb⟩

theorem holds : Rows.ShareOnlySaid :=
  OpenClaim.holds_of_wide 7 Try.f7 rfl rfl rfl rfl rfl rfl rfl ⟨rfl, rfl, rfl, rfl, rfl⟩ rfl rfl rfl rfl rfl (by kernel_rfl) Try.func7 (by kernel_rfl)
    (of_decide_eq_true (by kernel_rfl)) (by unfold Func.isWrapper; first | (rw [if_pos (by decide +kernel)]; kernel_rfl) | (rw [if_neg (by decide +kernel)]; exact ⟨rfl, rfl⟩))
    (fun os started H enc _ => lifted os started H enc)

end Go.Proofs.Ytdnabeldaighgaa.LOnly

namespace Go.Proofs.Ytdnabeldaighgaa
/-- The statement. -/
theorem shareOnly_holds : Rows.ShareOnlySaid := LOnly.holds
end Go.Proofs.Ytdnabeldaighgaa
