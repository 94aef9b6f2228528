/- DigestTexts: for all hashes, Text returns what the reference model returns; different hashes have different texts; no condition. -/
import Derived.Test.YtgkdfnmgbobamaaSan
import Derived.Test.YtgkdfnmgbobamaaLaw
import Derived.ChangeMaps5
namespace Go.Proofs.Ytgkdfnmgbobamaa.LTexts
open Go.ChangeShapes Go.WideShapes Go.ChangeAt Go.RowKit Go.Shelf Go.ChangeMaps

theorem text_beq (a b : List UInt8) : ((⟨a.toArray⟩ : ByteArray).toList == (⟨b.toArray⟩ : ByteArray).toList) = (a == b) := by
  have e : ∀ a : List UInt8, (⟨a.toArray⟩ : ByteArray).toList = a := fun a => by rw [ByteArray.toList_eq]
  rw [e, e]
theorem hexd_inj : ∀ a b : Fin 16, hexd a.val = hexd b.val → a = b := by decide
theorem hex_inj : ∀ a b : List UInt8, a.length = b.length → hex a = hex b → a = b
  | [], [], _, _ => rfl
  | x :: a, y :: b, hl, h => by
    have h1 : hex2 x ++ hex a = hex2 y ++ hex b := h
    simp only [hex2, List.cons_append, List.nil_append, List.cons.injEq] at h1
    obtain ⟨h2, h3, h4⟩ := h1
    have xl := x.toNat_lt
    have yl := y.toNat_lt
    have e1 := hexd_inj ⟨x.toNat / 16, by omega⟩ ⟨y.toNat / 16, by omega⟩ h2
    have e2 := hexd_inj ⟨x.toNat % 16, by omega⟩ ⟨y.toNat % 16, by omega⟩ h3
    have e3 : x = y := by
      apply UInt8.toNat_inj.1
      have := congrArg Fin.val e1
      have := congrArg Fin.val e2
      simp only at *
      omega
    rw [e3, hex_inj a b (by simpa using hl) h4]
theorem hex_eq (a b : List UInt8) (ha : a.length = 32) (hb : b.length = 32) : (hex a == hex b) = (a == b) := by
  rw [Bool.eq_iff_iff, beq_iff_eq, beq_iff_eq]
  exact ⟨hex_inj a b (by omega), fun h => by rw [h]⟩
set_option maxRecDepth 100000 in
set_option maxHeartbeats 2000000 in
theorem walk (a b : List UInt8) (ha : a.length = 32) (hb : b.length = 32) (w : World) :
    Calls Try.prog 6 #[.agg (hrow a), .agg (hrow b)] w fun e w' => e = .returned (.bool true) ∧ Below w.heap.size w w' := by
  have A1 := Lib.hid (fun w => Text_any a ha w)
  have A2 := Lib.hid (fun w => RText_any a ha w)
  have A3 := Lib.hid (fun w => Text_any b hb w)
  have hq := fun w => run_eq_hash a b ha hb w
  have hx := hex_eq a b ha hb
  have hla : (hex a).length = 64 := by rw [hex_length, ha]
  have IA := Lib.hid (hinfo' a ha)
  have IB := Lib.hid (hinfo' b hb)
  have NA := Lib.hid (Blk.new w (hrow a) 24)
  have NB := Lib.hid (Blk.new (w.alloc (.cells (hrow a) 24)) (hrow b) 24)
  generalize hex a = ta at *
  generalize hex b = tb at *
  generalize (a == b) = q at *
  obtain ⟨RA, hRA⟩ : ∃ R, hrow a = R := ⟨_, rfl⟩
  obtain ⟨RB, hRB⟩ : ∃ R, hrow b = R := ⟨_, rfl⟩
  rw [hRA] at A1 A2 hq IA NA NB
  rw [hRB] at A3 hq IB NB
  rw [hRA, hRB]
  have HQ := Lib.hid hx
  have hl64 : ((ta.length : Int) == 64) = true := by rw [hla]; rfl
  clear hRA hRB hx hla
  go_enter Try.func6, Try.ntmps6
  go_wp2_with (first
    | (refine wpList_box_row rfl 24 (.tmp 0) rfl RA rfl ?_)
    | (refine wpList_box_row rfl 24 (.tmp 1) rfl RB rfl ?_))
  have t0 := ((Below.refl _ w).alloc (Nat.le_refl _) (.cells RA 24)).alloc (by simp) (.cells RB 24)
  have a0 := NA.out.alloc (.cells RB 24)
  have b0 := NB.out
  rw [World.size_alloc] at b0
  refine (sanity_any _).mono ?_; rintro e w1 ⟨rfl, hb1⟩
  have hB := t0.trans (hb1.mono (by simp; omega))
  have a1 := a0.below hb1 a0.lt
  have b1 := b0.below hb1 b0.lt
  have fa := After.row a1 IA.out
  have fb := After.row b1 IB.out
  have ht2 := HQ.out
  go_wp2_with fail
  refine wp_region_after (by kernel_rfl) (by kernel_rfl) ?_
  repeat (first
    | (refine quiet_load_row 24 (.tmp 2) (by rfl) w.heap.size (by rfl) RA fa (by rfl) ?_; go_frame)
    | (refine quiet_load_row 24 (.tmp 3) (by rfl) (w.heap.size + 1) (by rfl) RB fb (by rfl) ?_; go_frame)
    | (go_big_quiet_step (first | (with_reducible exact After.call (A1.out _)) | (with_reducible exact After.call (A2.out _)) | (with_reducible exact After.call (A3.out _)))))
  refine wpQuiet_nil ?_
  rintro w5 ⟨x5, rfl⟩
  have hB := hB.trans (x5.hb.mono hB.size)
  go_wp2_with fail
  go_ret
  exact ⟨rfl, hB⟩

set_option maxRecDepth 100000 in
theorem lifted (os : Os) (started : os.Started) (H : Type) (enc : TypeId × Value → H) :
    ReturnsInHanded {} Try.checked os 6 .any (Rows.digestTextsSpec.pre6 enc Try.prog Try.f6 Rows.digestTextsRow.domain false) (Rows.digestTextsSpec.post enc Try.prog Try.f6 false true false false) := by
  refine returnsInHanded_of_change (C := Try.checked) law_own started (by kernel_rfl) Try.func6
    (ChangeSpec.witness6 (enc := enc) (C := Try.checked) false ⟨#[], #[.agg #[.int .u8 0, .int .u8 0, .int .u8 0, .int .u8 0, .int .u8 0, .int .u8 0, .int .u8 0, .int .u8 0, .int .u8 0, .int .u8 0, .int .u8 0, .int .u8 0, .int .u8 0, .int .u8 0, .int .u8 0, .int .u8 0, .int .u8 0, .int .u8 0, .int .u8 0, .int .u8 0, .int .u8 0, .int .u8 0, .int .u8 0, .int .u8 0, .int .u8 0, .int .u8 0, .int .u8 0, .int .u8 0, .int .u8 0, .int .u8 0, .int .u8 0, .int .u8 0], .agg #[.int .u8 0, .int .u8 0, .int .u8 0, .int .u8 0, .int .u8 0, .int .u8 0, .int .u8 0, .int .u8 0, .int .u8 0, .int .u8 0, .int .u8 0, .int .u8 0, .int .u8 0, .int .u8 0, .int .u8 0, .int .u8 0, .int .u8 0, .int .u8 0, .int .u8 0, .int .u8 0, .int .u8 0, .int .u8 0, .int .u8 0, .int .u8 0, .int .u8 0, .int .u8 0, .int .u8 0, .int .u8 0, .int .u8 0, .int .u8 0, .int .u8 0, .int .u8 0]], []⟩ 8 (by kernel_rfl) (by kernel_rfl) (by kernel_rfl) (by kernel_rfl)) ?_
  intro W base args ds gs before hval0 hW _ _
  have hval : ∀ (j : Nat) t v, Try.f6.params[j]? = some t → args[j]? = some v → Value.okWide Try.prog W .any base t v := hval0
  have hWk : DataW.Whole enc Try.prog Try.f6.params.toList Rows.digestTextsSpec.vars false W args.toList ds gs before := hW
  obtain ⟨p, q, hA0, hV, rfl, _, _⟩ := hW
  have hA : DataW.TrodAll enc Try.prog W 0 (fun _ => true) true Try.f6.params.toList args.toList ds p := hA0
  rw [Try.params6] at hA hval
  obtain ⟨v0, vs0, d0, ds0, p0, q0, hargs, rfl, rfl, h0, r0⟩ := trodAll_cons hA
  obtain ⟨v1, vs1, d1, ds1, p1, q1, rfl, rfl, rfl, h1, r1⟩ := trodAll_cons r0
  obtain ⟨rfl, rfl, rfl⟩ := trodAll_nil r1
  obtain rfl : args = #[v0, v1] := by cases args; simp_all
  obtain ⟨rfl, rfl⟩ := trodVars_none hV
  obtain ⟨l0, e0, rfl⟩ := open_hash (hval 0 24 v0 rfl rfl) h0
  obtain ⟨l1, e1, rfl⟩ := open_hash (hval 1 24 v1 rfl rfl) h1
  clear hA0 hval0
  refine (walk l0 l1 e0 e1 W).mono fun e W' ⟨he, hb⟩ => ?_
  exact ⟨_, he, law_post law_laid rfl (by rw [Try.params6]; decide +kernel) (by kernel_rfl) Try.underlying4 rfl hWk hb⟩

theorem holds : Rows.DigestTextsSaid :=
  OpenClaim.holds_of_wide 6 Try.f6 rfl rfl rfl rfl rfl rfl rfl ⟨rfl, rfl, rfl, rfl, rfl⟩ rfl rfl rfl rfl rfl (by kernel_rfl) Try.func6 (by kernel_rfl)
    (of_decide_eq_true (by kernel_rfl)) (by unfold Func.isWrapper; first | (rw [if_pos (by decide +kernel)]; kernel_rfl) | (rw [if_neg (by decide +kernel)]; exact ⟨rfl, rfl⟩))
    (fun os started H enc _ => lifted os started H enc)

end Go.Proofs.Ytgkdfnmgbobamaa.LTexts

namespace Go.Proofs.Ytgkdfnmgbobamaa
/-- The statement. -/
theorem digestTexts_holds : Rows.DigestTextsSaid := LTexts.holds
end Go.Proofs.Ytgkdfnmgbobamaa
