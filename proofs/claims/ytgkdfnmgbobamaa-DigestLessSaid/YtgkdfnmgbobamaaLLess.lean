/- DigestLess: for all hashes, Less returns what the reference model returns, which is the order of the texts; no condition. -/
import Derived.Test.YtgkdfnmgbobamaaLess
import Derived.Test.YtgkdfnmgbobamaaRep
import Derived.Test.YtgkdfnmgbobamaaLaw
import Derived.ChangeMaps5
namespace Go.Proofs.Ytgkdfnmgbobamaa.LLess
open Go.ChangeShapes Go.WideShapes Go.ChangeAt Go.RowKit Go.Shelf Go.ChangeMaps

theorem hexd_lt : ∀ p q : Fin 16, (hexd p.val < hexd q.val) = (p.val < q.val) := by decide
theorem hexd_eq : ∀ p q : Fin 16, (hexd p.val == hexd q.val) = (p.val == q.val) := by decide
theorem bytesLess_hex : ∀ a b : List UInt8, a.length = b.length → Op.bytesLess (hex a) (hex b) = lessB a b
  | [], [], _ => rfl
  | x :: a, y :: b, h => by
    have ih := bytesLess_hex a b (by simpa using h)
    have xl := x.toNat_lt
    have yl := y.toNat_lt
    have h1 : hex (x :: a) = hexd (x.toNat / 16) :: hexd (x.toNat % 16) :: hex a := rfl
    have h2 : hex (y :: b) = hexd (y.toNat / 16) :: hexd (y.toNat % 16) :: hex b := rfl
    have l1 := hexd_lt ⟨x.toNat / 16, by omega⟩ ⟨y.toNat / 16, by omega⟩
    have l2 := hexd_lt ⟨x.toNat % 16, by omega⟩ ⟨y.toNat % 16, by omega⟩
    have e1 := hexd_eq ⟨x.toNat / 16, by omega⟩ ⟨y.toNat / 16, by omega⟩
    have e2 := hexd_eq ⟨x.toNat % 16, by omega⟩ ⟨y.toNat % 16, by omega⟩
    simp only at l1 l2 e1 e2
    rw [h1, h2, Op.bytesLess, Op.bytesLess, ih, e1, e2]
    simp only [l1, l2]
    unfold lessB
    rw [cmpB]
    by_cases hxy : x = y
    · subst hxy
      simp
    · have hn : x.toNat ≠ y.toNat := fun e => hxy (UInt8.toNat_inj.1 e)
      rw [if_neg hxy]
      unfold cmp1
      by_cases hlt : x.toNat < y.toNat
      · rw [if_pos hlt]
        by_cases hd : x.toNat / 16 < y.toNat / 16
        · simp [hd]
        · have hd2 : x.toNat / 16 = y.toNat / 16 := by omega
          have hm : x.toNat % 16 < y.toNat % 16 := by omega
          simp [hd2, hm]
      · rw [if_neg hlt]
        have hd : ¬ x.toNat / 16 < y.toNat / 16 := by omega
        by_cases hd2 : x.toNat / 16 = y.toNat / 16
        · have hm : ¬ x.toNat % 16 < y.toNat % 16 := by omega
          have hm2 : ¬ x.toNat % 16 = y.toNat % 16 := by omega
          simp [hd2, hm]
          split <;> (simp; intro hh; exfalso; omega)
        · simp [hd]
          split <;> (simp; intro hh; exfalso; omega)
theorem cmp1_neg (x y : UInt8) : cmp1 y x = - cmp1 x y := by
  unfold cmp1
  by_cases h1 : x.toNat < y.toNat
  · rw [if_pos h1, if_neg (by omega), if_pos h1]; rfl
  · rw [if_neg h1]
    by_cases h2 : y.toNat < x.toNat
    · rw [if_pos h2, if_pos h2, if_neg h1]
    · rw [if_neg h2, if_neg h2, if_neg h1]; rfl
theorem cmpB_neg : ∀ a b : List UInt8, a.length = b.length → cmpB b a = - cmpB a b
  | [], [], _ => rfl
  | x :: a, y :: b, h => by
    rw [cmpB, cmpB]
    by_cases hxy : x = y
    · rw [if_pos hxy, if_pos hxy.symm]; exact cmpB_neg a b (by simpa using h)
    · rw [if_neg hxy, if_neg (fun e => hxy e.symm)]; exact cmp1_neg x y
theorem cmpB_zero : ∀ a b : List UInt8, a.length = b.length → (cmpB a b = 0 ↔ a = b)
  | [], [], _ => ⟨fun _ => rfl, fun _ => rfl⟩
  | x :: a, y :: b, h => by
    have ih := cmpB_zero a b (by simpa using h)
    rw [cmpB]
    by_cases hxy : x = y
    · rw [if_pos hxy, hxy, ih]; simp
    · rw [if_neg hxy]
      simp only [List.cons.injEq, hxy, false_and, iff_false]
      exact fun e => hxy ((cmp1_zero x y).1 e)
/-- The three ways. -/
theorem three (a b : List UInt8) (h : a.length = b.length) : (lessB a b = true ∧ lessB b a = false ∧ (a == b) = false) ∨ (lessB a b = false ∧ lessB b a = true ∧ (a == b) = false) ∨ (lessB a b = false ∧ lessB b a = false ∧ (a == b) = true) := by
  have h1 := cmpB_neg a b h
  have h2 := cmpB_zero a b h
  unfold lessB
  rw [h1]
  generalize cmpB a b = c at *
  by_cases hab : a = b
  · have h3 := h2.2 hab
    subst hab h3
    exact .inr (.inr ⟨rfl, rfl, by simp⟩)
  · have h3 : c ≠ 0 := fun e => hab (h2.1 e)
    by_cases h4 : c < 0
    · exact .inl ⟨decide_eq_true h4, decide_eq_false (by omega), by simpa using hab⟩
    · exact .inr (.inl ⟨decide_eq_false h4, decide_eq_true (by omega), by simpa using hab⟩)

set_option maxRecDepth 100000 in
set_option maxHeartbeats 2000000 in
theorem walk (a b : List UInt8) (ha : a.length = 32) (hb : b.length = 32) (same : Int) (w : World) :
    Calls Try.prog 10 #[.agg (hrow a), .agg (hrow b), .int .i64 same] w fun e w' => e = .returned (.bool true) ∧ Below w.heap.size w w' := by
  obtain ⟨M, hM, hM2⟩ : ∃ k : Nat, same % 33 = (k : Int) ∧ k ≤ 32 := ⟨(same % 33).toNat, by have := Int.emod_nonneg same (by omega : (33 : Int) ≠ 0); omega, by have := Int.emod_lt_of_pos same (by omega : (0 : Int) < 33); omega⟩
  have A1 := Lib.hid (fun w => Mod_any same 33 (by omega) (by omega) w)
  rw [hM] at A1
  clear hM
  have IA := Lib.hid (hinfo' a ha)
  have NA := Lib.hid ((Blk.new w (hrow a) 24).alloc (.cells (hrow b) 24))
  have NB := Blk.new (w.alloc (.cells (hrow a) 24)) (hrow b) 24
  rw [World.size_alloc] at NB
  have NBH := Lib.hid NB
  have GA := Lib.hid (fun k x h => hrow_get a k x h)
  have hB := ((Below.refl w.heap.size w).alloc (Nat.le_refl _) (.cells (hrow a) 24)).alloc (by simp) (.cells (hrow b) 24)
  clear NB
  have ERA : ∃ R, hrow a = R := ⟨_, rfl⟩
  obtain ⟨RA, hRA⟩ := ERA
  rw [hRA] at IA NA NBH GA hB
  have HRA := Lib.hid hRA
  rw [hRA]
  clear hRA
  have ERB : ∃ R, hrow b = R := ⟨_, rfl⟩
  obtain ⟨RB, hRB⟩ := ERB
  have HRB := Lib.hid hRB
  rw [hRB] at NA NBH hB
  rw [hRB]
  clear hRB
  go_enter Try.func10, Try.ntmps10
  go_wp2_with (first
    | (refine wpList_box_row rfl 24 (.tmp 0) rfl RA rfl ?_)
    | (refine wpList_box_row rfl 24 (.tmp 1) rfl RB rfl ?_))
  have NA := NA.out
  have NB := NBH.out
  clear NBH
  generalize (w.alloc (.cells RA 24)).alloc (.cells RB 24) = w0 at *
  refine (sanity_any _).mono ?_; rintro e w1 ⟨rfl, hb1⟩
  have hB := hB.trans (hb1.mono hB.size)
  have NA := NA.below hb1 NA.lt
  have NB := NB.below hb1 NB.lt
  rw [← HRB.out] at NB
  clear hb1
  go_wp2_with fail
  go_loopw [8] (fun i wr => ∃ (k : Nat) (m : List UInt8), k ≤ M ∧ i = .int .i64 k ∧ Hid (m.length = 32) ∧ Blk wr w.heap.size RA 24 ∧ Blk wr (w.heap.size + 1) (hrow m) 24 ∧ Below w.heap.size w wr) (fun i _ => M - (intOf i).toNat)
  case atStart => exact ⟨0, b, by omega, rfl, hb, NA, NB, hB⟩
  case round =>
    clear NA NB hB
    obtain ⟨k, m, hk, rfl, HM, NA, NB, hB⟩ := hrel
    by_cases hlt : k < M
    · obtain ⟨x, hx⟩ : ∃ x, a[k]? = some x := ⟨a[k]'(by omega), List.getElem?_eq_getElem (by omega)⟩
      obtain ⟨y, hy⟩ : ∃ y, m[k]? = some y := ⟨m[k]'(by rw [HM.out]; omega), List.getElem?_eq_getElem _⟩
      have c1 := NA.cell k _ (GA.out k x hx)
      have c2 := NB.cell k _ (hrow_get m k y hy)
      have f2 := NB.frozen k
      have k1 : (k : Int) < 32 := by omega
      clear hx hy
      go_wp2_with fail
      refine (A1.out _).mono ?_; rintro e w9 ⟨rfl, rfl⟩
      go_wp2_with fail
      go_roundw
      case rel => exact ⟨k + 1, m.set k x, by omega, by go_num, by show _ = _; rw [List.length_set]; exact HM.out, NA.other (a := ⟨w.heap.size + 1, k, none⟩) (by simp) _, by rw [← hrow_set]; exact NB.set k _, hB.setCell (by simp) _⟩
      case measure => simp [intOf]; omega
    · obtain rfl : k = M := by omega
      have IB := Lib.hid (hinfo' m HM.out)
      have E1 := Lib.hid (fun w => HRA.out ▸ Less_any a m ha HM.out w)
      have E2 := Lib.hid (fun w => HRA.out ▸ Less_any m a HM.out ha w)
      have E3 := Lib.hid (fun w => HRA.out ▸ RLess_any a m ha HM.out w)
      have E4 := Lib.hid (fun w => HRA.out ▸ RLess_any m a HM.out ha w)
      have E5 := Lib.hid (fun w => HRA.out ▸ Text_any a ha w)
      have E6 := Lib.hid (fun w => Text_any m HM.out w)
      have hq := fun w => HRA.out ▸ run_eq_hash a m ha HM.out w
      have hs := bytesLess_hex a m (by rw [ha, HM.out])
      have h3 := three a m (by rw [ha, HM.out])
      generalize hrow m = RM at *
      generalize hex a = ta at *
      generalize hex m = tm at *
      have hs2 := Lib.hid hs
      clear hs
      generalize lessB a m = xx at *
      generalize lessB m a = yy at *
      generalize (a == m) = qq at *
      clear hlt hk HRB
      go_wp2_with fail
      refine (A1.out _).mono ?_; rintro e w9 ⟨rfl, rfl⟩
      go_wp2_with (first
        | (refine wpList_load_row rfl 24 (.tmp 3) rfl w.heap.size rfl _ _ _ _ NA Try.underlying24 rfl IA.out ?_)
        | (refine wpList_load_row rfl 24 (.tmp 4) rfl (w.heap.size + 1) rfl _ _ _ _ NB Try.underlying24 rfl IB.out ?_))
      refine (E1.out _).mono ?_; rintro e w9 ⟨rfl, hb9⟩
      have hB := hB.trans (hb9.mono hB.size)
      have NA := NA.below hb9 NA.lt
      have NB := NB.below hb9 NB.lt
      clear hb9
      go_wp2_with (first
        | (refine wpList_load_row rfl 24 (.tmp 3) rfl w.heap.size rfl _ _ _ _ NA Try.underlying24 rfl IA.out ?_)
        | (refine wpList_load_row rfl 24 (.tmp 4) rfl (w.heap.size + 1) rfl _ _ _ _ NB Try.underlying24 rfl IB.out ?_))
      refine (E2.out _).mono ?_; rintro e w10 ⟨rfl, hb9⟩
      have hB := hB.trans (hb9.mono hB.size)
      have NA := NA.below hb9 NA.lt
      have NB := NB.below hb9 NB.lt
      clear hb9
      have fa := After.row NA IA.out
      have fb := After.row NB IB.out
      have hs := hs2.out
      go_wp2_with fail
      rcases h3 with ⟨rfl, rfl, rfl⟩ | ⟨rfl, rfl, rfl⟩ | ⟨rfl, rfl, rfl⟩
      all_goals
        refine wp_region_after (by kernel_rfl) (by kernel_rfl) ?_
        repeat (first
          | (refine quiet_load_row 24 (.tmp 3) (by rfl) w.heap.size (by rfl) RA fa (by rfl) ?_; go_frame)
          | (refine quiet_load_row 24 (.tmp 4) (by rfl) (w.heap.size + 1) (by rfl) RM fb (by rfl) ?_; go_frame)
          | (go_big_quiet_step (first | (with_reducible exact After.call (E3.out _)) | (with_reducible exact After.call (E4.out _)) | (with_reducible exact After.call (E5.out _)) | (with_reducible exact After.call (E6.out _)))))
        refine wpQuiet_nil ?_
        rintro w12 ⟨x12, rfl⟩
        have hB12 := hB.trans (x12.hb.mono hB.size)
        go_wp2_with fail
        go_ret
        exact ⟨rfl, hB12⟩

set_option maxRecDepth 100000 in
theorem lifted (os : Os) (started : os.Started) (H : Type) (enc : TypeId × Value → H) :
    ReturnsInHanded {} Try.checked os 10 .any (Rows.digestLessSpec.pre6 enc Try.prog Try.f10 Rows.digestLessRow.domain false) (Rows.digestLessSpec.post enc Try.prog Try.f10 false true false false) := by
  refine returnsInHanded_of_change (C := Try.checked) law_own started (by kernel_rfl) Try.func10
    (ChangeSpec.witness6 (enc := enc) (C := Try.checked) false ⟨#[], #[.agg #[.int .u8 0, .int .u8 0, .int .u8 0, .int .u8 0, .int .u8 0, .int .u8 0, .int .u8 0, .int .u8 0, .int .u8 0, .int .u8 0, .int .u8 0, .int .u8 0, .int .u8 0, .int .u8 0, .int .u8 0, .int .u8 0, .int .u8 0, .int .u8 0, .int .u8 0, .int .u8 0, .int .u8 0, .int .u8 0, .int .u8 0, .int .u8 0, .int .u8 0, .int .u8 0, .int .u8 0, .int .u8 0, .int .u8 0, .int .u8 0, .int .u8 0, .int .u8 0], .agg #[.int .u8 0, .int .u8 0, .int .u8 0, .int .u8 0, .int .u8 0, .int .u8 0, .int .u8 0, .int .u8 0, .int .u8 0, .int .u8 0, .int .u8 0, .int .u8 0, .int .u8 0, .int .u8 0, .int .u8 0, .int .u8 0, .int .u8 0, .int .u8 0, .int .u8 0, .int .u8 0, .int .u8 0, .int .u8 0, .int .u8 0, .int .u8 0, .int .u8 0, .int .u8 0, .int .u8 0, .int .u8 0, .int .u8 0, .int .u8 0, .int .u8 0, .int .u8 0], .int .i64 0], []⟩ 8 (by kernel_rfl) (by kernel_rfl) (by kernel_rfl) (by kernel_rfl)) ?_
  intro W base args ds gs before hval0 hW _ _
  have hval : ∀ (j : Nat) t v, Try.f10.params[j]? = some t → args[j]? = some v → Value.okWide Try.prog W .any base t v := hval0
  have hWk : DataW.Whole enc Try.prog Try.f10.params.toList Rows.digestLessSpec.vars false W args.toList ds gs before := hW
  obtain ⟨p, q, hA0, hV, rfl, _, _⟩ := hW
  have hA : DataW.TrodAll enc Try.prog W 0 (fun _ => true) true Try.f10.params.toList args.toList ds p := hA0
  rw [Try.params10] at hA hval
  obtain ⟨v0, vs0, d0, ds0, p0, q0, hargs, rfl, rfl, h0, r0⟩ := trodAll_cons hA
  obtain ⟨v1, vs1, d1, ds1, p1, q1, rfl, rfl, rfl, h1, r1⟩ := trodAll_cons r0
  obtain ⟨v2, vs2, d2, ds2, p2, q2, rfl, rfl, rfl, h2, r2⟩ := trodAll_cons r1
  obtain ⟨rfl, rfl, rfl⟩ := trodAll_nil r2
  obtain rfl : args = #[v0, v1, v2] := by cases args; simp_all
  obtain ⟨rfl, rfl⟩ := trodVars_none hV
  obtain ⟨l0, e0, rfl⟩ := open_hash (hval 0 24 v0 rfl rfl) h0
  obtain ⟨l1, e1, rfl⟩ := open_hash (hval 1 24 v1 rfl rfl) h1
  obtain ⟨a2, rfl, _, _, w2⟩ := open_int Try.underlying3 (hval 2 3 v2 rfl rfl) h2
  clear hA0 hval0
  refine (walk l0 l1 e0 e1 a2 W).mono fun e W' ⟨he, hb⟩ => ?_
  exact ⟨_, he, law_post law_laid rfl (by rw [Try.params10]; decide +kernel) (by kernel_rfl) Try.underlying4 rfl hWk hb⟩

theorem holds : Rows.DigestLessSaid :=
  OpenClaim.holds_of_wide 10 Try.f10 rfl rfl rfl rfl rfl rfl rfl ⟨rfl, rfl, rfl, rfl, rfl⟩ rfl rfl rfl rfl rfl (by kernel_rfl) Try.func10 (by kernel_rfl)
    (of_decide_eq_true (by kernel_rfl)) (by unfold Func.isWrapper; first | (rw [if_pos (by decide +kernel)]; kernel_rfl) | (rw [if_neg (by decide +kernel)]; exact ⟨rfl, rfl⟩))
    (fun os started H enc _ => lifted os started H enc)

end Go.Proofs.Ytgkdfnmgbobamaa.LLess

namespace Go.Proofs.Ytgkdfnmgbobamaa
/-- The statement. -/
theorem digestLess_holds : Rows.DigestLessSaid := LLess.holds
end Go.Proofs.Ytgkdfnmgbobamaa
