/- Chosen. Conditions: sizes. -/
import Derived.Test.YtdnabeldaighgaaApp
namespace Go.Proofs.Ytdnabeldaighgaa
open Go.RowKit Go.Shelf Shr

namespace Shr
/-- One share more is chosen. -/
def chst (st : List (Int × Int) × List (Int × Int)) (p : Int) : List (Int × Int) × List (Int × Int) := if st.1.length = 0 then st else (st.1.take (p % st.1.length).toNat ++ st.1.drop ((p % st.1.length).toNat + 1), st.2 ++ [st.1.getD (p % st.1.length).toNat (0, 0)])
def choS (l : List (Int × Int)) (pk : List Int) : List (Int × Int) := (pk.foldl chst (l, [])).2
end Shr
theorem chst_len (st : List (Int × Int) × List (Int × Int)) (p : Int) : (chst st p).1.length ≤ st.1.length ∧ (chst st p).1.length + (chst st p).2.length ≤ st.1.length + st.2.length := by
  unfold chst
  split
  · exact ⟨Nat.le_refl _, Nat.le_refl _⟩
  · rename_i h
    have h1 := Int.emod_lt_of_pos p (show 0 < (st.1.length : Int) by omega)
    have h2 := Int.emod_nonneg p (show (st.1.length : Int) ≠ 0 by omega)
    simp only [List.length_append, List.length_take, List.length_drop, List.length_cons, List.length_nil]
    omega
theorem fold_chst_len : ∀ (pk : List Int) (st : List (Int × Int) × List (Int × Int)), (pk.foldl chst st).1.length + (pk.foldl chst st).2.length ≤ st.1.length + st.2.length
  | [], _ => Nat.le_refl _
  | p :: pk, st => Nat.le_trans (fold_chst_len pk (chst st p)) (chst_len st p).2
theorem fold_chst_done : ∀ (pk : List Int) (st : List (Int × Int) × List (Int × Int)), st.1.length = 0 → pk.foldl chst st = st
  | [], _, _ => rfl
  | p :: pk, st, h => by
    rw [List.foldl_cons, show chst st p = st by unfold chst; rw [if_pos h]]
    exact fold_chst_done pk st h
theorem take_fold {l : List (Int × Int)} {pk : List Int} {k : Nat} {p : Int} (h : pk[k]? = some p) : (pk.take (k + 1)).foldl chst (l, []) = chst ((pk.take k).foldl chst (l, [])) p := by
  rw [List.take_add_one, h, List.foldl_append]; rfl

set_option maxRecDepth 100000 in
set_option maxHeartbeats 2000000 in
theorem Chosen_any (l : List (Int × Int)) (pk : List Int) (v u : Value) (w : World) (hpk : All64 pk) (hp9 : pk.length ≤ 9223372036854775807) (hl9 : l.length ≤ 1000000) (hA : ShArg w v l) (hP : IArg w u pk) :
    Calls Try.prog 15 #[v, u] w fun e w' => ∃ v', e = .returned v' ∧ OwnSh w' w.heap.size v' (choS l pk) ∧ Below w.heap.size w w' := by
  have hb0 := (Below.refl w.heap.size w).alloc (Nat.le_refl _) (.cells #[] 33)
  obtain ⟨v1, w1, r1, o1, g1, _⟩ := run_append_shares (w.alloc (.cells #[] 33)) w.heap.size _ v [] l (OwnSh.empty w w.heap.size (Nat.le_refl _)) hb0.size (hA.below hb0) (by simp; omega)
  rw [List.nil_append] at o1
  have hb1 := below_of_grown hb0 g1 hb0.size (fun g hg => by cases hg; exact Nat.le_refl _)
  have HB0 := Lib.hid (run_build0_sh w)
  have HAP0 := Lib.hid r1
  have HO1 := Lib.hid o1
  obtain ⟨va, vcap, rfl, hvc, _⟩ := hA
  obtain ⟨ua, ucap, rfl, huc, hU⟩ := hP
  have HU : Hid (∀ W, Below w.heap.size w W → ∀ (k : Nat) (p : Int), pk[k]? = some p → ∃ g o, ua = some ⟨g, o, none⟩ ∧ W.cell? ⟨g, o + k, none⟩ = some (I p)) := by
    show ∀ W, _
    intro W hW k p hk
    obtain ⟨g, o, e1, e2⟩ := hU (by rintro rfl; simp at hk)
    exact ⟨g, o, e1, e2.below hW k p hk⟩
  obtain ⟨np, hnp⟩ : ∃ np, pk.length = np := ⟨_, rfl⟩
  have HEX : Hid (∀ (k : Nat), k < np → ∃ p, pk[k]? = some p ∧ In64 p) := fun k hk => ⟨pk[k]'(by omega), List.getElem?_eq_getElem _, hpk _ (List.getElem_mem _)⟩
  obtain ⟨ST, hST⟩ : ∃ ST : Nat → List (Int × Int) × List (Int × Int), ∀ k, (pk.take k).foldl chst (l, []) = ST k := ⟨_, fun _ => rfl⟩
  have HS0 : Hid (ST 0 = (l, [])) := by show ST 0 = _; rw [← hST]; rfl
  have HSS : Hid (∀ (k : Nat) (p : Int), pk[k]? = some p → ST (k + 1) = chst (ST k) p) := by
    show ∀ (k : Nat) (p : Int), _
    intro k p hk
    rw [← hST, ← hST]; exact take_fold hk
  have HSE : Hid (∀ k, k ≤ np → (k = np ∨ (ST k).1.length = 0) → choS l pk = (ST k).2) := by
    show ∀ k, _
    intro k hk h
    unfold choS
    rcases h with h | h
    · rw [← hST, List.take_of_length_le (by omega)]
    · have : pk.foldl chst (l, []) = (pk.drop k).foldl chst ((pk.take k).foldl chst (l, [])) := by rw [← List.foldl_append, List.take_append_drop]
      rw [this, hST, fold_chst_done _ _ h]
  have HSL : Hid (∀ k, (ST k).1.length + (ST k).2.length ≤ l.length) := fun k => by
    rw [← hST]
    have := fold_chst_len (pk.take k) (l, [])
    simpa using this
  rw [hnp] at hp9 huc
  rw [hnp]
  clear hnp hST hpk hU r1 o1 g1 hb0
  generalize hch : choS l pk = ch at *
  clear hch
  go_enter Try.func15, Try.ntmps15
  go_wp2_with (first
    | (refine wpList_build_run rfl 25 0 #[] rfl #[] rfl _ _ HB0.out ?_)
    | (at_builtin; refine Lib.wpList_append_run _ rfl (.tmp 9) (.tmp 10) 25 25 rfl _ _ rfl rfl _ _ HAP0.out ?_))
  go_loopw [5, 6, 7] (fun x5 x6 i wr => ∃ k : Nat, k ≤ np ∧ i = .int .i64 (k : Int) ∧ Hid (OwnSh wr w.heap.size x5 (ST k).1) ∧ Hid (OwnSh wr w.heap.size x6 (ST k).2) ∧ Hid (Apart x5 x6) ∧ Below w.heap.size w wr) (fun _ _ i _ => np - (intOf i).toNat)
  case atStart => exact ⟨0, by omega, rfl, by rw [HS0.out]; exact HO1.out, by rw [HS0.out]; exact OwnV.nil _ _ _, (show Apart v1 (.slice none 0 0) from fun g _ e => (by cases e)), hb1⟩
  case round =>
    clear hb1 HO1
    obtain ⟨k, hk, rfl, H5, H6, HAP, hb⟩ := hrel
    obtain ⟨L, hL⟩ : ∃ L, (ST k).1 = L := ⟨_, rfl⟩
    obtain ⟨O, hO⟩ : ∃ O, (ST k).2 = O := ⟨_, rfl⟩
    rw [hL] at H5
    rw [hO] at H6
    have hSL := HSL.out k
    rw [hL, hO] at hSL
    have HSK : Hid (ST k = (L, O)) := by
      show ST k = _
      rw [← hL, ← hO]
    by_cases hkt : k < np
    · have q1 : (k : Int) < (np : Int) := by omega
      by_cases hm : L.length = 0
      · have HR := Lib.hid (HSE.out k hk (.inr (by rw [hL]; exact hm)))
        rw [hO] at HR
        obtain ⟨a5, c5, rfl, hc5⟩ := H5.out.form
        clear H5 HAP hL hO
        have HO' : Hid (OwnSh wr w.heap.size u6 ch) := by
          show OwnSh wr w.heap.size u6 ch
          rw [HR.out]; exact H6.out
        clear H6 HR HSK
        have q2 : ¬ (0 : Int) < (L.length : Int) := by omega
        have q3 : decide ((L.length : Int) > 0) = false := decide_eq_false q2
        generalize L.length = m at *
        go_wp2_with fail
        go_ret
        exact ⟨_, rfl, HO'.out, hb⟩
      · obtain ⟨p, hp, p64⟩ := HEX.out k hkt
        obtain ⟨gu, ou, rfl, cu⟩ := HU.out wr hb k p hp
        have HST := Lib.hid (HSS.out k p hp)
        rcases H5.out with ⟨_, h0, _⟩ | ⟨g, cap, hv, hcl, hnc, VR⟩
        · exact absurd h0 hm
        obtain ⟨m, hmm⟩ : ∃ m, L.length = m := ⟨_, rfl⟩
        have hm1 : 1 ≤ m := by omega
        have hm9 : m ≤ 1000000 := by omega
        obtain ⟨kk, hkk⟩ := Int.eq_ofNat_of_zero_le (Int.emod_nonneg p (show (m : Int) ≠ 0 by omega))
        have hkm : kk < m := by have := Int.emod_lt_of_pos p (show 0 < (m : Int) by omega); omega
        have D1 := Lib.hid (fun w => Mod_any p (m : Int) p64 (by omega) (by omega) w)
        rw [hkk] at D1
        obtain ⟨⟨x, y⟩, hxy⟩ : ∃ e, L[kk]? = some e := ⟨L[kk]'(by omega), List.getElem?_eq_getElem _⟩
        have HN : Hid (ST (k + 1) = (L.take kk ++ L.drop (kk + 1), O ++ [(x, y)])) := by
          show ST (k + 1) = _
          rw [HST.out, HSK.out]
          unfold chst
          simp only
          rw [if_neg hm, hmm, hkk, Int.toNat_natCast, List.getD_eq_getElem?_getD, hxy]
          rfl
        have hAt := OwnV.shat (cap := cap) VR
        obtain ⟨cx, cy⟩ := hAt.cells hxy
        rw [Nat.zero_add] at cx cy
        have HLM := Lib.hid hmm
        rw [hmm] at hv hnc hcl
        subst hv
        have q2 : (0 : Int) < (m : Int) := by omega
        have q4 : (kk : Int) < (m : Int) := by omega
        have q3 : decide ((m : Int) > 0) = true := decide_eq_true q2
        obtain ⟨v', w4, r1, r2, r3, r4⟩ := run_append_share wr w.heap.size u6 O H6.out hb.size x y (by omega)
        have HB1 := Lib.hid (one_share wr x y)
        have HAPP := Lib.hid r1
        have hb4 := below_of_grown hb r3 hb.size (fun g hg => H6.out.blk g hg)
        have VR4 : VRow w4 w.heap.size g cap 2 (shc L) := VR.keep r3.size (r3.block g VR.lt (fun e => HAP.out g rfl e.symm))
        have HVR4 := Lib.hid VR4
        have HO4 := Lib.hid r2
        clear r1 r2 r3 r4 H5 H6 HAP VR VR4 hp hAt HST hL hO hmm hxy hkk HSK hcl
        go_wp2_with (first
          | (refine wpList_build_run rfl 25 1 #[(0, .tmp 34)] rfl #[(0, .agg #[I x, I y])] rfl _ _ HB1.out ?_)
          | (at_builtin; refine Lib.wpList_append_run _ rfl (.tmp 30) (.tmp 35) 25 25 rfl _ _ rfl rfl _ _ HAPP.out ?_)
          | (refine (D1.out _).mono ?_; rintro e w3 ⟨rfl, rfl⟩))
        clear cx cy cu D1
        obtain ⟨w3, hD⟩ : ∃ w3 : World, ({ w4 with drawn := w4.drawn + 1 } : World) = w3 := ⟨_, rfl⟩
        have hbD : Below w4.heap.size w4 w3 := hD ▸ (Below.refl _ w4).drew
        have hB3 := hb4.trans (hbD.mono hb4.size)
        have hAt3 : ShAt w3 g 0 L := OwnV.shat (HVR4.out.below hbD)
        have HO3 : OwnSh w3 w.heap.size v' (O ++ [(x, y)]) := HO4.out.below hbD
        obtain ⟨sv, hsv, hsA⟩ := slice_rest_sh g m cap (kk + 1) (by omega) hnc
        have hk1 : ShArg w3 (.slice (some ⟨g, 0, none⟩) kk cap) (L.take kk) := ShArg.of (by rw [List.length_take, HLM.out]; omega) (by omega) (hAt3.take kk)
        have hk2 := hsA w3 L HLM.out hAt3
        have b5 : Below w3.heap.size w3 (w3.alloc (.cells #[] 33)) := (Below.refl _ _).alloc (Nat.le_refl _) _
        obtain ⟨v6, w6, r6, O6, g6, k6⟩ := run_append_shares (w3.alloc (.cells #[] 33)) w3.heap.size _ _ [] (L.take kk) (OwnSh.empty w3 _ (Nat.le_refl _)) b5.size (hk1.below b5) (by simp; omega)
        have b6 : Below w3.heap.size w3 w6 := below_of_grown b5 g6 b5.size (fun g hg => by cases hg; exact Nat.le_refl _)
        obtain ⟨v7, w7, r7, O7, g7, _⟩ := run_append_shares w6 w3.heap.size v6 sv _ (L.drop (kk + 1)) O6 b6.size (hk2.below b6) (by have := HLM.out; simp; omega)
        have b7 := below_of_grown b6 g7 b6.size (fun g hg => O6.blk g hg)
        rw [List.nil_append] at O7
        have hB7 := hB3.trans (b7.mono hB3.size)
        have P6 : Hid (OwnSh w7 w.heap.size v' (ST (k + 1)).2) := by
          show OwnSh w7 w.heap.size v' _
          rw [HN.out]; exact HO3.below b7
        have P5 : Hid (OwnSh w7 w.heap.size v7 (ST (k + 1)).1) := by
          show OwnSh w7 w.heap.size v7 _
          rw [HN.out]; exact O7.mono hB3.size
        have PA : Hid (Apart v7 v') := by
          show Apart v7 v'
          intro g1 hg1 hg2
          have h1 := O7.blk g1 hg1
          have h2 := HO3.blk_lt g1 hg2
          omega
        have HB2 := Lib.hid (run_build0_sh w3)
        have HA1 := Lib.hid r6
        have HA2 := Lib.hid r7
        have e1 : IntKind.i64.wrap ((kk : Int) + 1) = (kk : Int) + 1 := IntWalk.i64_in _ (by omega)
        have e2 : ∀ w, (Instr.sliceAt 25 (.slice (some ⟨g, 0, none⟩) m cap) (some (.int .i64 ((kk : Int) + 1))) none none).run Try.prog w = .ok sv w := hsv
        have e3 : (kk : Int) ≤ (cap : Int) := by omega
        have e4 : (m : Int) ≤ (cap : Int) := by omega
        clear r6 r7 hsv hsA hAt3 g6 g7 k6 O6 O7 hk1 hk2 HO3 HO4 HVR4 b5 b6 b7 hB3 hbD hb4
        refine wp_region_noPanic ?_
        refine wp_region_any (by kernel_rfl) ?_
        rw [hD]
        clear hD
        refine takeL 10 1 (.slice (some ⟨g, 0, none⟩) m cap) rfl (by kernel_rfl) (by kernel_rfl) (by kernel_rfl) (fun _ _ _ h => h) (yields_move rfl rfl rfl) ?_
        simp only [Act.put, List.setIfInBounds_toArray, List.set_cons_zero, List.set_cons_succ]
        refine takeL 9 2 (.int .i64 (kk : Int)) rfl (by kernel_rfl) (by kernel_rfl) (by kernel_rfl) (fun _ _ _ h => h) (yields_move rfl rfl rfl) ?_
        simp only [Act.put, List.setIfInBounds_toArray, List.set_cons_zero, List.set_cons_succ]
        refine takeL 8 3 (.slice (some ⟨g, 0, none⟩) kk cap) rfl (by kernel_rfl) (by kernel_rfl) (by kernel_rfl) (fun _ _ _ h => h) (yields_field rfl (fun w => by unfold execOp; go_simp)) ?_
        simp only [Act.put, List.setIfInBounds_toArray, List.set_cons_zero, List.set_cons_succ]
        refine takeL 7 5 (.slice (some ⟨g, 0, none⟩) m cap) rfl (by kernel_rfl) (by kernel_rfl) (by kernel_rfl) (fun _ _ _ h => h) (yields_move rfl rfl rfl) ?_
        simp only [Act.put, List.setIfInBounds_toArray, List.set_cons_zero, List.set_cons_succ]
        refine takeL 6 6 (.int .i64 (kk : Int)) rfl (by kernel_rfl) (by kernel_rfl) (by kernel_rfl) (fun _ _ _ h => h) (yields_move rfl rfl rfl) ?_
        simp only [Act.put, List.setIfInBounds_toArray, List.set_cons_zero, List.set_cons_succ]
        refine takeL 5 7 (.int .i64 ((kk : Int) + 1)) rfl (by kernel_rfl) (by kernel_rfl) (by kernel_rfl) (fun _ _ _ h => h) (yields_field rfl (fun w => by unfold execOp; go_simp)) ?_
        simp only [Act.put, List.setIfInBounds_toArray, List.set_cons_zero, List.set_cons_succ]
        refine takeL 4 8 sv rfl (by kernel_rfl) (by kernel_rfl) (by kernel_rfl) (fun _ _ _ h => h) (yields_field rfl (fun w => by unfold execOp; go_simp)) ?_
        simp only [Act.put, List.setIfInBounds_toArray, List.set_cons_zero, List.set_cons_succ]
        refine wpAny_all (fuel := 3) (rs := [0]) (by kernel_rfl) (by simp) ?_
        intro i hi
        obtain rfl := List.mem_singleton.1 hi
        refine buildL rfl rfl 25 0 #[] rfl #[] rfl _ HB2.out ?_
        simp only [Act.put, List.setIfInBounds_toArray, List.set_cons_zero, List.set_cons_succ]
        refine wpAny_all (fuel := 2) (rs := [4]) (by kernel_rfl) (by simp) ?_
        intro i hi
        obtain rfl := List.mem_singleton.1 hi
        refine appendL rfl rfl (.tmp 37) (.tmp 40) 25 25 rfl _ _ rfl rfl _ HA1.out ?_
        simp only [Act.put, List.setIfInBounds_toArray, List.set_cons_zero, List.set_cons_succ]
        refine wpAny_all (fuel := 1) (rs := [9]) (by kernel_rfl) (by simp) ?_
        intro i hi
        obtain rfl := List.mem_singleton.1 hi
        refine appendL rfl rfl (.tmp 41) (.tmp 45) 25 25 rfl _ _ rfl rfl _ HA2.out ?_
        simp only [Act.put, List.setIfInBounds_toArray, List.set_cons_zero, List.set_cons_succ]
        refine takeL 0 10 v7 rfl (by kernel_rfl) (by kernel_rfl) (by kernel_rfl) (fun _ _ _ h => h) (yields_field rfl (fun w => by unfold execOp; go_simp)) ?_
        simp only [Act.put, List.setIfInBounds_toArray, List.set_cons_zero, List.set_cons_succ]
        refine wpAny_done (by kernel_rfl) ?_ 0
        refine NoPanic.normal ?_
        go_wp2_with (fail)
        go_roundw
        case rel => exact ⟨k + 1, by omega, by go_num, P5, P6, PA, hB7⟩
        case measure => simp [intOf]; omega
    · have q1 : ¬ ((k : Int) < (np : Int)) := by omega
      obtain rfl : k = np := by omega
      have HR := Lib.hid (HSE.out k hk (.inl rfl))
      rw [hO] at HR
      obtain ⟨a5, c5, rfl, hc5⟩ := H5.out.form
      have HO' : Hid (OwnSh wr w.heap.size u6 ch) := by
        show OwnSh wr w.heap.size u6 ch
        rw [HR.out]; exact H6.out
      clear H6 HR HSK H5 HAP hL hO
      go_wp2_with fail
      go_ret
      exact ⟨_, rfl, HO'.out, hb⟩

end Go.Proofs.Ytdnabeldaighgaa
