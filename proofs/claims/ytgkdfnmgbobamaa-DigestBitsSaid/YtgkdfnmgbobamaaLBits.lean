/- DigestBits: if one bit of a string is changed, its hash is still that of the reference model; no condition. -/
import Derived.Test.YtgkdfnmgbobamaaRep
import Derived.Test.YtgkdfnmgbobamaaLaw
import Derived.ChangeMaps5
namespace Go.Proofs.Ytgkdfnmgbobamaa.LBits
open Go.ChangeShapes Go.WideShapes Go.ChangeAt Go.RowKit Go.Shelf Go.ChangeMaps

theorem BRow.set {w : World} {base g cap : Nat} {bs : List UInt8} (h : BRow w base g cap bs) (i : Nat) (x : UInt8) (hi : i < bs.length) : BRow (w.setCell ⟨g, i, none⟩ (Y x)) base g cap (bs.set i x) := by
  have h1 := BRow.stored (bs := bs.take i) (news := [x]) ⟨h.base, h.lt, by have := h.len; simp; omega, h.some_, h.free, fun j y hy => h.cells j y (by
    rw [List.getElem?_take] at hy
    split at hy
    · exact hy
    · cases hy)⟩ (by have := h.len; simp; omega)
  have e : (bs.take i).length = i := by simp; omega
  rw [e] at h1
  refine ⟨h.base, h1.lt, by rw [List.length_set]; exact h.len, h1.some_, h1.free, fun j y hy => ?_⟩
  by_cases hj : j = i
  · subst hj
    refine h1.cells j y ?_
    rw [List.getElem?_set_self hi] at hy
    rw [List.getElem?_append_right (by omega), e, Nat.sub_self]
    simpa using hy
  · rw [List.getElem?_set_ne (by omega)] at hy
    refine (World.cell?_setCell_other _ _ _ _ ?_).trans (h.cells j y hy)
    intro e
    injection e with _ e
    omega
theorem xor_byte (y : UInt8) (j : Nat) (_ : j < 8) : ∃ z, Value.int .u8 (bits .xor .u8 ((y.toNat : Nat) : Int) (2 ^ j % 256)) = Y z := by
  have yl := y.toNat_lt
  have h1 : (0 : Int) ≤ 2 ^ j % 256 := Int.emod_nonneg _ (by omega)
  have h2 : (2 : Int) ^ j % 256 < 256 := Int.emod_lt_of_pos _ (by omega)
  rw [u8_xor _ _ (by omega) (by omega) h1 h2]
  have h3 := Nat.xor_lt_two_pow (n := 8) (x := (y.toNat : Int).toNat) (y := ((2 : Int) ^ j % 256).toNat) (by omega) (by omega)
  exact isByte _ (by omega) (by omega)
set_option maxRecDepth 100000 in
set_option maxHeartbeats 2000000 in
theorem r4 (u0 u1 u2 u3 u4 u5 u8 u9 u10 u11 u12 u13 u14 u15 u16 u17 u18 u19 u20 u21 u22 u23 u24 u25 u26 u27 u28 u29 u30 u31 u32 u33 u34 u35 u36 u37 u38 u39 u40 u41 u42 u43 u44 u45 : Value) (g m cap k : Nat) (y : UInt8) (hm : m ≤ 300) (hk : k < 8 * m) (w : World) (c0 : w.cell? ⟨g, k / 8, none⟩ = some (Y y)) (z0 : w.frozen? ⟨g, k / 8, none⟩ = false) (Q : Exit → Act → World → Prop)
    (h : ∀ (y22 y23 y24 y25 y26 y27 y28 y29 y30 y31 y32 y33 y34 : Value) (z : UInt8) (w5 : World), Below w.heap.size w w5 → Q .normal ⟨(u0 :: u1 :: u2 :: u3 :: u4 :: u5 :: (.slice (some ⟨g, 0, none⟩) m cap) :: (.int .i64 (k : Int)) :: u8 :: u9 :: u10 :: u11 :: u12 :: u13 :: u14 :: u15 :: u16 :: u17 :: u18 :: u19 :: u20 :: u21 :: y22 :: y23 :: y24 :: y25 :: y26 :: y27 :: y28 :: y29 :: y30 :: y31 :: y32 :: y33 :: y34 :: u35 :: u36 :: u37 :: u38 :: u39 :: u40 :: u41 :: u42 :: u43 :: u44 :: u45 :: []).toArray, []⟩ (w5.setCell ⟨g, k / 8, none⟩ (Y z))) : Code.wp Try.prog (regionIn Try.f7 4) Q ⟨(u0 :: u1 :: u2 :: u3 :: u4 :: u5 :: (.slice (some ⟨g, 0, none⟩) m cap) :: (.int .i64 (k : Int)) :: u8 :: u9 :: u10 :: u11 :: u12 :: u13 :: u14 :: u15 :: u16 :: u17 :: u18 :: u19 :: u20 :: u21 :: u22 :: u23 :: u24 :: u25 :: u26 :: u27 :: u28 :: u29 :: u30 :: u31 :: u32 :: u33 :: u34 :: u35 :: u36 :: u37 :: u38 :: u39 :: u40 :: u41 :: u42 :: u43 :: u44 :: u45 :: []).toArray, []⟩ w := by
  have f0 := After.cell c0
  have q0 : 0 ≤ (k : Int) / 8 := by omega
  have q1 : (k : Int) / 8 < (m : Int) := by omega
  have r0 : 0 ≤ (k : Int) % 8 := by omega
  have r1 : (k : Int) % 8 < 8 := by omega
  have HX := Lib.hid h
  clear h
  conv => arg 2; whnf
  refine wp_region_after_tail 13 (by kernel_rfl) (by kernel_rfl) (by kernel_rfl) (by kernel_rfl) ?_
  simp only [List.take_succ_cons, List.take_zero, List.drop_succ_cons, List.drop_zero]
  repeat (go_big_quiet_step (fail))
  refine wpQuiet_nil ?_
  rintro w5 ⟨x5, rfl⟩
  have hb5 := x5.hb
  have f5 := (hb5.frozen (p := ⟨g, k / 8, none⟩) (World.block_lt_of_cell? w _ c0)).trans z0
  have c5 := f0 x5
  clear f0 c0
  generalize x5.W = w5 at *
  obtain ⟨z, hz⟩ := xor_byte y (k % 8) (by omega)
  go_wp2_with fail
  rw [hz]
  exact HX.out _ _ _ _ _ _ _ _ _ _ _ _ _ z w5 hb5

set_option maxRecDepth 100000 in
set_option maxHeartbeats 2000000 in
theorem walk (s : ByteArray) (bit : Int) (w : World) :
    Calls Try.prog 7 #[.string s, .int .i64 bit] w fun e w' => e = .returned (.bool true) ∧ Below w.heap.size w w' := by
  obtain ⟨n, hn1, hn2, hmin⟩ := min_cut s 200 200 rfl
  have HS := Lib.hid (extract_size s n hn1)
  obtain ⟨x, hx⟩ : ∃ x, s.extract 0 n = x := ⟨_, rfl⟩
  have HX := Lib.hid hx
  rw [hx] at HS
  have hS : x.size = n := HS.out
  obtain ⟨t, ht⟩ : ∃ t, x ++ (⟨#[101, 110, 100]⟩ : ByteArray) = t := ⟨_, rfl⟩
  have ht3 : t.size = n + 3 := by rw [← ht, ByteArray.size_append, hS]; rfl
  have HT := Lib.hid ht
  clear hx ht
  obtain ⟨m, hm⟩ : ∃ m, t.size = m := ⟨_, rfl⟩
  have hm3 : m ≤ 203 := by omega
  have hm1 : 3 ≤ m := by omega
  have hS2 : x.size ≤ 200 := by omega
  obtain ⟨k, hk, hk2⟩ : ∃ k : Nat, bit % (8 * (m : Int)) = (k : Int) ∧ k < 8 * m := ⟨(bit % (8 * (m : Int))).toNat, by have := Int.emod_nonneg bit (by omega : 8 * (m : Int) ≠ 0); omega, by have := Int.emod_lt_of_pos bit (by omega : (0 : Int) < 8 * (m : Int)); omega⟩
  have A1 := Lib.hid (fun w => Mod_any bit (8 * (m : Int)) (by omega) (by omega) w)
  rw [hk] at A1
  have HM := Lib.hid hm
  clear hk ht3 hm HS
  have hB := Below.refl w.heap.size w
  go_enter Try.func7, Try.ntmps7
  go_wp2_with fail
  refine (Calls.chain hB (sanity_any _)).mono ?_; clear hB; rintro e w9 ⟨rfl, hB⟩
  have hge := hB.size
  obtain ⟨cap, w2, hr2, row2, hb2⟩ := run_bytes_of w9 t
  rw [show t.size = m from HM.out] at hr2
  rw [← HT.out, ← HX.out] at hr2
  have row3 := Lib.hid row2
  have hB := hB.trans (hb2.mono hB.size)
  have hw9 := hB.size
  clear row2 hb2
  go_wp2_with fail
  refine (A1.out _).mono ?_; rintro e w9' ⟨rfl, rfl⟩
  clear hr2 hmin
  have hlen : t.data.toList.length = m := by rw [Array.length_toList]; exact HM.out
  have HL := Lib.hid hlen
  obtain ⟨y, hy⟩ : ∃ y, t.data.toList[k / 8]? = some y := ⟨t.data.toList[k / 8]'(by omega), List.getElem?_eq_getElem _⟩
  have c0 := Lib.hid (row3.out.cells _ _ hy)
  have z0 := Lib.hid (row3.out.free (k / 8) (by have := row3.out.len; omega))
  clear hy hlen
  generalize w9.heap.size = g at *
  go_wp2_with fail
  refine r4 _ _ _ _ _ _ _ _ _ _ _ _ _ _ _ _ _ _ _ _ _ _ _ _ _ _ _ _ _ _ _ _ _ _ _ _ _ _ _ _ _ _ _ _ g m cap k y (by omega) hk2 _ c0.out z0.out _ ?_
  intro y22 y23 y24 y25 y26 y27 y28 y29 y30 y31 y32 y33 y34 z w5 hb5
  have row6 := BRow.set (row3.out.below hb5) (k / 8) z (by rw [HL.out]; omega)
  have hl : (t.data.toList.set (k / 8) z).length = m := by rw [List.length_set]; exact HL.out
  have hB6 := (hB.trans (hb5.mono hw9)).setCell (p := ⟨g, k / 8, none⟩) hge (Y z)
  generalize t.data.toList.set (k / 8) z = l at *
  generalize w5.setCell ⟨g, k / 8, none⟩ (Y z) = w6 at *
  have hcv : ∀ w' : World, BRow w' g g cap l → (convert 33 9 (.slice (some ⟨g, 0, none⟩) m cap)).run Try.prog w' = .ok (S l) w' := fun w' row => by
    have h := run_convert_bytes_back w' 33 9 5 ⟨g, 0, none⟩ cap l Try.underlying33 Try.underlying5 Try.underlying9 (fun i hi => by
      rw [Addr.add_lit, Nat.zero_add]
      exact row.cells i _ (List.getElem?_eq_getElem hi))
    rw [hl] at h
    exact h
  have hc6 := hcv _ row6
  have E1 := Lib.hid (fun w => SumS_any l (by omega) w)
  have E2 := Lib.hid (fun w => RSum_any l (by omega) w)
  have HCV := Lib.hid hcv
  have R6 := Lib.hid row6
  have q1 := fun w => run_eq_hash (Sha.sum l) (Sha.sum l) (Sha.sum_length _) (Sha.sum_length _) w
  simp only [beq_self_eq_true] at q1
  have IA := Lib.hid (hinfo' (Sha.sum l) (Sha.sum_length _))
  have IZ := Lib.hid (hz_size (Sha.sum l) (Sha.sum_length _))
  have IH := Lib.hid (bytes_all (Sha.sum l))
  generalize hrow (Sha.sum l) = R at *
  clear row3 c0 z0 hcv row6 hb5 hw9 hB
  go_wp2_with fail
  refine (E1.out _).mono ?_; rintro e w7 ⟨rfl, hb7⟩
  have hB7 := hB6.trans (hb7.mono hB6.size)
  have R7 := Lib.hid (R6.out.below hb7)
  clear hc6 R6 hB6 hb7
  have NB := Lib.hid (Blk.new w7 hz 24)
  have NR := Lib.hid (Blk.new w7 R 24)
  have ZH : Hid ((Try.prog.info? 24).bind (·.zero) = some (.agg hz)) := by show _ = _; kernel_rfl
  go_wp2_with (first
    | (refine wpList_alloc_row rfl 24 rfl hz ZH.out ?_)
    | (refine wpList_store_row rfl 24 (.tmp 8) (.tmp 37) rfl w7.heap.size R rfl rfl 24 _ NB.out IA.out IZ.out IH.out ?_; rw [World.setRow_alloc_new]))
  go_frame
  have fa := After.row NR.out IA.out
  have R8 := R7.out.alloc (.cells R 24)
  have fcv : ∀ x : After (w7.alloc (.cells R 24)), (convert 33 9 (.slice (some ⟨g, 0, none⟩) m cap)).run Try.prog x.W = .ok (S l) x.W := fun x => HCV.out _ (R8.below x.hb)
  have hB8 := hB7.alloc hB7.size (.cells R 24)
  generalize w7.alloc (.cells R 24) = w8 at *
  refine wp_region_after (by kernel_rfl) (by kernel_rfl) ?_
  repeat (first
    | (refine quiet_load_row 24 (.tmp 8) (by rfl) w7.heap.size (by rfl) R fa (by rfl) ?_; go_frame)
    | (go_big_quiet_step (first | (with_reducible exact After.call (E2.out _)))))
  refine wpQuiet_nil ?_
  rintro w9 ⟨x9, rfl⟩
  have hB9 := hB8.trans (x9.hb.mono hB8.size)
  go_wp2_with fail
  go_ret
  exact ⟨rfl, hB9⟩

set_option maxRecDepth 100000 in
theorem lifted (os : Os) (started : os.Started) (H : Type) (enc : TypeId × Value → H) :
    ReturnsInHanded {} Try.checked os 7 .any (Rows.digestBitsSpec.pre6 enc Try.prog Try.f7 Rows.digestBitsRow.domain false) (Rows.digestBitsSpec.post enc Try.prog Try.f7 false true false false) := by
  refine returnsInHanded_of_change (C := Try.checked) law_own started (by kernel_rfl) Try.func7
    (ChangeSpec.witness6 (enc := enc) (C := Try.checked) false ⟨#[], #[.string ⟨#[]⟩, .int .i64 0], []⟩ 8 (by kernel_rfl) (by kernel_rfl) (by kernel_rfl) (by kernel_rfl)) ?_
  intro W base args ds gs before hval0 hW _ _
  have hval : ∀ (j : Nat) t v, Try.f7.params[j]? = some t → args[j]? = some v → Value.okWide Try.prog W .any base t v := hval0
  have hWk : DataW.Whole enc Try.prog Try.f7.params.toList Rows.digestBitsSpec.vars false W args.toList ds gs before := hW
  obtain ⟨p, q, hA0, hV, rfl, _, _⟩ := hW
  have hA : DataW.TrodAll enc Try.prog W 0 (fun _ => true) true Try.f7.params.toList args.toList ds p := hA0
  rw [Try.params7] at hA hval
  obtain ⟨v0, vs0, d0, ds0, p0, q0, hargs, rfl, rfl, h0, r0⟩ := trodAll_cons hA
  obtain ⟨v1, vs1, d1, ds1, p1, q1, rfl, rfl, rfl, h1, r1⟩ := trodAll_cons r0
  obtain ⟨rfl, rfl, rfl⟩ := trodAll_nil r1
  obtain rfl : args = #[v0, v1] := by cases args; simp_all
  obtain ⟨rfl, rfl⟩ := trodVars_none hV
  obtain ⟨s0, rfl, _, _, w0⟩ := open_string Try.underlying9 (hval 0 9 v0 rfl rfl) h0
  obtain ⟨a1, rfl, _, _, w1⟩ := open_int Try.underlying3 (hval 1 3 v1 rfl rfl) h1
  clear hA0 hval0
  refine (walk s0 a1 W).mono fun e W' ⟨he, hb⟩ => ?_
  exact ⟨_, he, law_post law_laid rfl (by rw [Try.params7]; decide +kernel) (by kernel_rfl) Try.underlying4 rfl hWk hb⟩

theorem holds : Rows.DigestBitsSaid :=
  OpenClaim.holds_of_wide 7 Try.f7 rfl rfl rfl rfl rfl rfl rfl ⟨rfl, rfl, rfl, rfl, rfl⟩ rfl rfl rfl rfl rfl (by kernel_rfl) Try.func7 (by kernel_rfl)
    (of_decide_eq_true (by kernel_rfl)) (by unfold Func.isWrapper; first | (rw [if_pos (by decide +kernel)]; kernel_rfl) | (rw [if_neg (by decide +kernel)]; exact ⟨rfl, rfl⟩))
    (fun os started H enc _ => lifted os started H enc)

end Go.Proofs.Ytgkdfnmgbobamaa.LBits

namespace Go.Proofs.Ytgkdfnmgbobamaa
/-- The statement. -/
theorem digestBits_holds : Rows.DigestBitsSaid := LBits.holds
end Go.Proofs.Ytgkdfnmgbobamaa
