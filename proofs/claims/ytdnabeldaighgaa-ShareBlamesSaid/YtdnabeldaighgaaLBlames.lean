/- ShareBlames: exactly those shares are named that were changed, and the secret is found from the others, if there are enough; no condition. -/
import Derived.Test.YtdnabeldaighgaaAgm
namespace Go.Proofs.Ytdnabeldaighgaa.LBlames
open Go.ChangeShapes Go.WideShapes Go.ChangeAt Go.RowKit Go.Shelf Go.ChangeMaps Shr Pol

theorem len_filter {α : Type} (p : α → Bool) : ∀ l : List α, (l.filter p).length + (l.filter (fun x => !p x)).length = l.length
  | [] => rfl
  | x :: l => by
    have := len_filter p l
    cases h : p x
    · rw [List.filter_cons_of_neg (by rw [h]; simp), List.filter_cons_of_pos (by rw [h]; simp), List.length_cons, List.length_cons]; omega
    · rw [List.filter_cons_of_pos (by rw [h]), List.filter_cons_of_neg (by rw [h]; simp), List.length_cons, List.length_cons]; omega
/-- The share of number j, changed or not. -/
def one (cs : List Int) (b : Bool) (j : Nat) : Int × Int := ((j : Int) + 1, if b then Fld.addS (val cs ((j : Int) + 1)) (1 + (j : Int)) QZ else val cs ((j : Int) + 1))
/-- The shares, of which some of the first i were changed. -/
def blm (cs : List Int) (B : Nat → Bool) (N i : Nat) : List (Int × Int) := (List.range N).map fun j => one cs (decide (j < i) && B j) j
def wnt (B : Nat → Bool) (i : Nat) : List Int := ((List.range i).filter B).map fun (j : Nat) => ((j : Int) + 1)
theorem blm_zero (cs : List Int) (B : Nat → Bool) (N : Nat) : blm cs B N 0 = shl cs N := by
  unfold blm shl
  refine List.map_congr_left fun j _ => ?_
  rw [show (decide (j < 0) && B j) = false by simp]; rfl
theorem blm_get (cs : List Int) (B : Nat → Bool) (N i j : Nat) (hj : j < N) : (blm cs B N i)[j]? = some (one cs (decide (j < i) && B j) j) := by
  unfold blm
  rw [List.getElem?_map, List.getElem?_range hj]; rfl
theorem blm_len (cs : List Int) (B : Nat → Bool) (N i : Nat) : (blm cs B N i).length = N := by unfold blm; simp
theorem blm_at (cs : List Int) (B : Nat → Bool) (N i : Nat) (hi : i < N) : (blm cs B N i)[i]? = some ((i : Int) + 1, val cs ((i : Int) + 1)) := by
  rw [blm_get cs B N i i hi, show (decide (i < i) && B i) = false by simp]; rfl
theorem blm_no (cs : List Int) (B : Nat → Bool) (N i : Nat) (h : B i = false) : blm cs B N (i + 1) = blm cs B N i := by
  unfold blm
  refine List.map_congr_left fun j _ => ?_
  by_cases e : j = i
  · rw [e, h, Bool.and_false, Bool.and_false]
  · rw [show decide (j < i + 1) = decide (j < i) from decide_eq_decide.2 (by omega)]
theorem blm_yes (cs : List Int) (B : Nat → Bool) (N i : Nat) (h : B i = true) : blm cs B N (i + 1) = (blm cs B N i).set i ((i : Int) + 1, Fld.addS (val cs ((i : Int) + 1)) (1 + (i : Int)) QZ) := by
  refine List.ext_getElem? fun j => ?_
  by_cases hj : j < N
  · rw [blm_get _ _ _ _ _ hj]
    by_cases e : j = i
    · subst e
      rw [List.getElem?_set_self (by rw [blm_len]; exact hj), h, show decide (j < j + 1) = true from decide_eq_true (by omega)]; rfl
    · rw [List.getElem?_set_ne (by omega), blm_get _ _ _ _ _ hj, show decide (j < i + 1) = decide (j < i) from decide_eq_decide.2 (by omega)]
  · rw [List.getElem?_eq_none (by rw [blm_len]; omega), List.getElem?_eq_none (by rw [List.length_set, blm_len]; omega)]
theorem wnt_no (B : Nat → Bool) (i : Nat) (h : B i = false) : wnt B (i + 1) = wnt B i := by unfold wnt; rw [List.range_succ]; simp [h]
theorem wnt_yes (B : Nat → Bool) (i : Nat) (h : B i = true) : wnt B (i + 1) = wnt B i ++ [(i : Int) + 1] := by unfold wnt; rw [List.range_succ]; simp [h]
theorem wnt_len (B : Nat → Bool) (i : Nat) : (wnt B i).length ≤ i := by
  unfold wnt
  rw [List.length_map]
  exact Nat.le_trans (List.length_filter_le _ _) (by simp)
theorem one_fts {cs : List Int} (hcs : cs.all blw = true) (b : Bool) (j : Nat) (hj : j < 1000) : fts (coms cs) (one cs b j) = !b := by
  have hq : QZ = 1152921504606845789 := rfl
  have hv := val_range cs ((j : Int) + 1)
  unfold one
  rw [fts_coms cs hcs]
  cases b with
  | false =>
    simp only [Bool.false_eq_true, if_false, beq_self_eq_true, Bool.and_true, Bool.not_false]
    exact insd_of (by omega) (by omega) hv.1 hv.2
  | true =>
    simp only [if_true, Bool.not_true, Bool.and_eq_false_iff]
    refine .inr (beq_eq_false_iff_ne.2 fun e => ?_)
    rw [addS_q] at e
    have h1 := Int.emod_emod_of_dvd (val cs ((j : Int) + 1) + (1 + (j : Int))) (Int.dvd_refl QZ)
    rcases Int.lt_or_le (val cs ((j : Int) + 1) + (1 + (j : Int))) QZ with h | h
    · rw [Int.emod_eq_of_lt (by omega) h] at e; omega
    · have h2 : (val cs ((j : Int) + 1) + (1 + (j : Int))) % QZ = val cs ((j : Int) + 1) + (1 + (j : Int)) - QZ := by
        rw [← Int.sub_emod_right, Int.emod_eq_of_lt (by omega) (by omega)]
      rw [h2] at e
      omega
theorem blm_bad {cs : List Int} (hcs : cs.all blw = true) (B : Nat → Bool) (N : Nat) (hN : N ≤ 1000) : badS (coms cs) (blm cs B N N) = wnt B N := by
  unfold badS blm wnt
  rw [List.filter_map, List.map_map]
  have : (List.range N).filter ((fun p => !fts (coms cs) p) ∘ fun j => one cs (decide (j < N) && B j) j) = (List.range N).filter B := by
    refine List.filter_congr fun j hj => ?_
    have hj := List.mem_range.1 hj
    show (!fts (coms cs) (one cs (decide (j < N) && B j) j)) = B j
    rw [one_fts hcs _ j (by omega), Bool.not_not, decide_eq_true hj, Bool.true_and]
  rw [this]; rfl
theorem blm_good {cs : List Int} (B : Nat → Bool) (N : Nat) (h : badS (coms cs) (blm cs B N N) = wnt B N) : ((blm cs B N N).filter (fts (coms cs))).length + (wnt B N).length = N := by
  rw [← h]
  unfold badS
  rw [List.length_map]
  have := len_filter (fts (coms cs)) (blm cs B N N)
  rw [blm_len] at this
  exact this
theorem blm_fst (cs : List Int) (B : Nat → Bool) (N i : Nat) : ((blm cs B N i).map Prod.fst).Nodup := by
  have : (blm cs B N i).map Prod.fst = (shl cs N).map Prod.fst := by
    unfold blm shl
    rw [List.map_map, List.map_map]; rfl
  rw [this]
  exact shl_nodup cs N
theorem blm_all64 (cs : List Int) (B : Nat → Bool) (N i : Nat) (hN : N ≤ 1000) : AllS64 (blm cs B N i) := fun p hp => by
  obtain ⟨j, hj, rfl⟩ := List.mem_map.1 hp
  have hj := List.mem_range.1 hj
  have hv := val_range cs ((j : Int) + 1)
  have hq : QZ = 1152921504606845789 := rfl
  refine ⟨⟨by show -9223372036854775808 ≤ (j : Int) + 1; omega, by show (j : Int) + 1 ≤ 9223372036854775807; omega⟩, ?_⟩
  show In64 (if (decide (j < i) && B j) = true then _ else _)
  split
  · exact addS_in (by decide)
  · constructor <;> omega

set_option maxRecDepth 100000 in
set_option maxHeartbeats 2000000 in
theorem walk (w : World) (v : Value) (l : List Int) (k : Int) (hl : All64 l) (hl9 : l.length ≤ 9223372036854775807) (hA : IArg w v l) (hk : 0 ≤ k ∧ k ≤ 65535) :
    Calls Try.prog 10 #[v, .int .u16 k] w fun e w' => e = .returned (.bool true) ∧ Below w.heap.size w w' := by
  obtain ⟨k1, k2⟩ := hk
  obtain ⟨B, hBB⟩ : ∃ B : Nat → Bool, ∀ j, (bits .and .u16 (k / 2 ^ j) 1 == 1) = B j := ⟨_, fun _ => rfl⟩
  have HBD := Lib.hid hBB
  clear hBB
  have C1 := Lib.hid (fun (w' : World) (hb : Below w.heap.size w w') => Coefs_any l v w' hl hl9 (hA.below hb))
  obtain ⟨a, cap, rfl, hc, _⟩ := hA
  have hcs := cofs_blw l
  obtain ⟨hn1, hn2⟩ := cofs_len l
  generalize cofs l = cs at *
  have M1 := Lib.hid (fun (v : Value) (w : World) (h : IArg w v cs) => made_good cs 5 (by decide) v w hcs hn1 (by omega) h)
  obtain ⟨n, hn⟩ : ∃ n, cs.length = n := ⟨_, rfl⟩
  have HN := Lib.hid hn
  have hB := Below.refl w.heap.size w
  rw [hn] at hn1 hn2
  clear hn
  go_enter Try.func10, Try.ntmps10
  go_wp2_with fail
  refine (Calls.chain hB (sanity_any _)).mono ?_; clear hB; rintro e w2 ⟨rfl, hB⟩
  go_wp2_with fail
  refine (C1.out _ hB).mono ?_; rintro e w3 ⟨v3, rfl, o3, hb3⟩
  have hB := hB.trans (hb3.mono hB.size)
  clear hb3 C1
  go_wp2_with fail
  refine (M1.out _ _ o3.iarg).mono ?_; rintro e w4 ⟨v1, v2, rfl, o1, o2, hb4, hap⟩
  have HI3 := Lib.hid o3.iarg
  have HB3 := Lib.hid hB
  rw [HN.out] at o1
  simp only [Nat.reduceMod] at o1
  obtain ⟨g, c1, rfl, hc1, VR⟩ := OwnV.row o1 (by rw [shl_length]; omega)
  rw [shl_length] at hc1 hap
  rw [shl_length]
  obtain ⟨N, hN⟩ : ∃ N, n + 5 = N := ⟨_, rfl⟩
  rw [hN] at VR hc1 hap
  rw [hN]
  have hN11 : N ≤ 11 := by omega
  have hnN : n ≤ N := by omega
  have HVR := Lib.hid VR
  have HV2 := Lib.hid o2.blk_lt
  have HO2 := Lib.hid o2
  have HG2 : Hid (blkOf v2 ≠ some g) := hap g rfl
  have hg4 := VR.lt
  have hb4' := hb4.size
  clear VR o1 o2 o3 M1 hB hN hap
  go_wp2_with fail
  go_loopw [9, 10] (fun u i wr => ∃ j : Nat, j ≤ N ∧ i = .int .i64 (j : Int) ∧ Hid (OwnI wr w4.heap.size u (wnt B j)) ∧ Hid (VRow wr w3.heap.size g c1 2 (shc (blm cs B N j))) ∧ Hid (OwnI wr w3.heap.size v2 (coms cs)) ∧ w4.heap.size ≤ wr.heap.size ∧ Below w3.heap.size w3 wr) (fun _ i _ => N - (intOf i).toNat)
  case atStart => exact ⟨0, by omega, rfl, OwnV.nil _ _ _, by rw [blm_zero]; exact HVR.out, HO2.out, Nat.le_refl _, hb4⟩
  case round =>
    clear HVR HO2 hb4
    obtain ⟨j, hj, rfl, HW, HVR, HO2, hs4, hb4⟩ := hrel
    by_cases hjt : j < N
    · have q1 : (j : Int) < (N : Int) := by omega
      have hbj := HBD.out j
      obtain ⟨b, hb⟩ : ∃ b, B j = b := ⟨_, rfl⟩
      rw [hb] at hbj
      have HBJ := Lib.hid hb
      clear hb
      cases b
      · have e1 := blm_no cs B N j HBJ.out
        have e2 := wnt_no B j HBJ.out
        go_wp2_with fail
        go_roundw
        case rel => exact ⟨j + 1, by omega, by go_num, by rw [wnt_no B j HBJ.out]; exact HW.out, by rw [blm_no cs B N j HBJ.out]; exact HVR.out, HO2.out, hs4, hb4⟩
        case measure => simp [intOf]; omega
      · have hat := blm_at cs B N j hjt
        have hv := val_range cs ((j : Int) + 1)
        have hq : QZ = 1152921504606845789 := rfl
        have D1 := Lib.hid (fun w => Add_any (val cs ((j : Int) + 1)) (1 + (j : Int)) 1152921504606845789 ⟨by omega, by omega⟩ ⟨by omega, by omega⟩ (by decide) w)
        have HY := Lib.hid (blm_yes cs B N j HBJ.out)
        have HWY := Lib.hid (wnt_yes B j HBJ.out)
        have HWL := Lib.hid (wnt_len B j)
        have HAT := Lib.hid hat
        have c1' := ((OwnV.shat (cap := c1) HVR.out).cells hat).2
        rw [Nat.zero_add] at c1'
        have HQ := Lib.hid hq
        clear hat hq hv
        obtain ⟨y, hy⟩ : ∃ y, Fld.addS (val cs ((j : Int) + 1)) (1 + (j : Int)) 1152921504606845789 = y := ⟨_, rfl⟩
        have HYY : Hid (blm cs B N (j + 1) = (blm cs B N j).set j ((j : Int) + 1, y)) := by
          show blm cs B N (j + 1) = _
          rw [HY.out, ← hy]
        rw [hy] at D1
        clear hy HY
        obtain ⟨z, hz⟩ : ∃ z, val cs ((j : Int) + 1) = z := ⟨_, rfl⟩
        rw [hz] at D1 HAT c1'
        clear hz
        have hj10 : (j : Int) ≤ 10 := by omega
        go_wp2_with fail
        refine (D1.out _).mono ?_; rintro e w5 ⟨rfl, hb5⟩
        have VR5 := HVR.out.below hb5
        have hb5' := hb4.trans (hb5.mono hb4.size)
        have c5 : w5.cell? ⟨g, j * 2 + 1, none⟩ = some (I z) := keepCells hb5 _ _ c1'
        have f5 : w5.frozen? ⟨g, j * 2 + 1, none⟩ = false := VR5.free _ (by omega)
        have VR6 := VR5.putY HAT.out y
        have hb6 := hb5'.setCell (show w3.heap.size ≤ (⟨g, j * 2 + 1, none⟩ : Addr).block from VR5.base) (I y)
        have g6 : w5.grownBy (w5.setCell ⟨g, j * 2 + 1, none⟩ (I y)) (some g) := grown_set (World.grownBy.refl w5 _) _ _
        have HW6 := (HW.out.below hb5).grown g6 (fun g' hg' e => by injection e with e; have := HW.out.blk g' hg'; omega)
        have HO26 := (HO2.out.below hb5).grown g6 (fun g' hg' e => by injection e with e; exact HG2.out (by rw [hg', e]))
        have hs6 : w4.heap.size ≤ (w5.setCell ⟨g, j * 2 + 1, none⟩ (I y)).heap.size := Nat.le_trans (Nat.le_trans hs4 hb5.size) g6.size
        rw [← HYY.out] at VR6
        have cX := ((OwnV.shat (cap := c1) VR6).cells (k := j) (p := ((j : Int) + 1, y)) (by rw [HYY.out, List.getElem?_set_self (by rw [blm_len]; exact hjt)])).1
        rw [Nat.zero_add] at cX
        have HVR6 := Lib.hid VR6
        have HWW6 := Lib.hid HW6
        have HOO6 := Lib.hid HO26
        have HB6 := Lib.hid hb6
        have HS6 := Lib.hid hs6
        have HCX := Lib.hid (fun W (h : W = w5.setCell ⟨g, j * 2 + 1, none⟩ (I y)) => (by rw [h]; exact cX : W.cell? ⟨g, j * 2, none⟩ = some (I ((j : Int) + 1))))
        clear c1' D1 hb5 hb5' VR5 VR6 hb6 g6 HW6 HO26 hs6 cX HVR HW HO2 hb4 hs4 HAT
        go_upto_region 10 with (fail)
        have cX := HCX.out _ rfl
        clear HCX c5 f5
        generalize w5.setCell ⟨g, j * 2 + 1, none⟩ (I y) = w6 at *
        obtain ⟨v', w7, r1, r2, r3, r4⟩ := run_append_int w6 w4.heap.size u9 _ HWW6.out HS6.out ((j : Int) + 1) (by have := HWL.out; omega)
        have HB1 := Lib.hid (one_int w6 ((j : Int) + 1))
        have HAPP := Lib.hid r1
        have P1 : Hid (OwnI w7 w4.heap.size v' (wnt B (j + 1))) := by
          show OwnI w7 w4.heap.size v' _
          rw [HWY.out]
          exact r2
        have P2 := Lib.hid (HVR6.out.keep r3.size (r3.block g HVR6.out.lt (fun e => by have := HWW6.out.blk g e.symm; omega)))
        have P3 := Lib.hid (HOO6.out.grown r3 (fun g' hg' e => by have := HWW6.out.blk g' e; have := HV2.out g' hg'; omega))
        have hb7 := below_of_grown HB6.out r3 HB6.out.size (fun g' hg' => by have := HWW6.out.blk g' hg'; omega)
        have hs7 := Nat.le_trans HS6.out r3.size
        clear r1 r2 r3 r4 HVR6 HWW6 HOO6 HB6 HS6
        go_wp2_with (first
          | (refine wpList_build_run rfl 22 1 #[(0, .tmp 50)] rfl #[(0, I ((j : Int) + 1))] rfl _ _ HB1.out ?_)
          | (at_builtin; refine Lib.wpList_append_run _ rfl (.tmp 45) (.tmp 51) 22 22 rfl _ _ rfl rfl _ _ HAPP.out ?_))
        go_roundw
        case rel => exact ⟨j + 1, by omega, by go_num, P1, P2, P3, hs7, hb7⟩
        case measure => simp [intOf]; omega
    · have q1 : ¬ ((j : Int) < (N : Int)) := by omega
      obtain rfl : j = N := by omega
      have hbad := blm_bad hcs B j (by omega)
      have hgood := blm_good (cs := cs) B j hbad
      have hop := opS_shares cs (blm cs B j j) hcs (by rw [HN.out]; exact hn1) (by rw [HN.out]; omega) (blm_fst cs B j j)
      rw [hbad, HN.out] at hop
      have O1 := Lib.hid (Open_any (coms cs) (blm cs B j j) v2 _ wr (coms_all64 cs) (by rw [coms_len, HN.out]; omega) HO2.out.iarg (blm_all64 cs B j j (by omega)) (by rw [blm_len]; omega) (OwnV.sharg (HVR.out.own (blm_len cs B j j) hc1)))
      have HWL := Lib.hid (wnt_len B j)
      obtain ⟨m, hm⟩ : ∃ m, (wnt B j).length = m := ⟨_, rfl⟩
      have hmj : m ≤ j := by have := HWL.out; omega
      have HM := Lib.hid hm
      obtain ⟨wb, hwb⟩ : ∃ wb, wnt B j = wb := ⟨_, rfl⟩
      rw [hwb] at hm hop hgood HW
      have hlt : ((blm cs B j j).filter (fts (coms cs))).length = j - m := by omega
      rw [hlt] at hop
      have HOP := Lib.hid hop
      obtain ⟨aw, cw, hu9, hcw⟩ := HW.out.form
      rw [hm] at hu9 hcw
      subst hu9
      have HW' := Lib.hid HW.out.iarg
      have HML := Lib.hid hm
      obtain ⟨ac, cc, rfl, hcc, hac⟩ := HI3.out
      rw [HN.out] at hcc
      rw [HN.out]
      obtain ⟨gc, oc, rfl, hat⟩ := hac (by rintro rfl; have := HN.out; simp at this; omega)
      have hc0 : cs[0]? = some (cs.headD 0) := by
        cases cs with
        | nil => have := HN.out; simp at this; omega
        | cons c r => rfl
      have cc0 := keepCells hb4 _ _ (hat 0 _ hc0)
      rw [Nat.add_zero] at cc0
      have HC0 := Lib.hid cc0
      clear hop hgood hlt hm HW hat hc0 cc0 hbad HVR HO2 hwb hac
      go_wp2_with fail
      refine O1.out.mono ?_; rintro e w5 ⟨u, rfl, ou, hb5⟩
      rw [HOP.out] at ou ⊢
      have hbW := HB3.out.trans ((hb4.trans (hb5.mono hb4.size)).mono HB3.out.size)
      have HW5 := Lib.hid (HW'.out.below hb5)
      have cc0 := keepCells hb5 _ _ HC0.out
      have I1 := Lib.hid (fun u (h : IArg w5 u wb) => Ints_any wb wb u _ w5 (by have := HML.out; omega) (by have := HML.out; omega) h HW5.out)
      have hE : (wb == wb) = true := beq_self_eq_true wb
      rw [hE] at I1
      clear hE
      by_cases hf : j - m < n
      · rw [if_pos hf] at ou ⊢
        have IU := Lib.hid (I1.out u ou.iarg)
        have q2 : (j : Int) - (m : Int) < (n : Int) := by omega
        have q3 : decide ((j : Int) - (m : Int) < (n : Int)) = true := decide_eq_true q2
        obtain ⟨au, cu, rfl, hcu⟩ := ou.form
        clear ou I1 HOP O1 HW5 HC0 cc0 hf
        go_wp2_with fail
        refine IU.out.mono ?_; rintro e w6 ⟨rfl, hb6⟩
        have hbW := hbW.trans (hb6.mono hbW.size)
        clear IU hb6
        go_wp2_with fail
        go_ret
        exact ⟨rfl, hbW⟩
      · rw [if_neg hf] at ou ⊢
        have IU := Lib.hid (I1.out u ou.iarg)
        have q2 : ¬ (j : Int) - (m : Int) < (n : Int) := by omega
        have q3 : decide ((j : Int) - (m : Int) < (n : Int)) = false := decide_eq_false q2
        obtain ⟨au, cu, rfl, hcu⟩ := ou.form
        clear ou I1 HOP O1 HW5 HC0 hf
        obtain ⟨h0, hh0⟩ : ∃ h0, cs.headD 0 = h0 := ⟨_, rfl⟩
        rw [hh0] at cc0
        rw [hh0]
        clear hh0
        go_wp2_with fail
        refine IU.out.mono ?_; rintro e w6 ⟨rfl, hb6⟩
        have hbW := hbW.trans (hb6.mono hbW.size)
        have cc1 := keepCells hb6 _ _ cc0
        clear IU hb6 cc0
        go_wp2_with fail
        go_ret
        exact ⟨rfl, hbW⟩

set_option maxRecDepth 100000 in
theorem lifted (os : Os) (started : os.Started) (H : Type) (enc : TypeId × Value → H) :
    ReturnsInHanded {} Try.checked os 10 .any (Rows.shareBlamesSpec.pre6 enc Try.prog Try.f10 Rows.shareBlamesRow.domain false) (Rows.shareBlamesSpec.post enc Try.prog Try.f10 false true false false) := by
  refine returnsInHanded_of_change (C := Try.checked) law_own started (by kernel_rfl) Try.func10
    (ChangeSpec.witness6 (enc := enc) (C := Try.checked) false ⟨#[], #[.slice none 0 0, .int .u16 0], []⟩ 8 (by kernel_rfl) (by kernel_rfl) (by kernel_rfl) (by kernel_rfl)) ?_
  intro W base args ds gs before hval0 hW _ _
  have hval : ∀ (j : Nat) t v, Try.f10.params[j]? = some t → args[j]? = some v → Value.okWide Try.prog W .any base t v := hval0
  have hWk : DataW.Whole enc Try.prog Try.f10.params.toList Rows.shareBlamesSpec.vars false W args.toList ds gs before := hW
  obtain ⟨p, q, hA0, hV, rfl, _, _⟩ := hW
  have hA : DataW.TrodAll enc Try.prog W 0 (fun _ => true) true Try.f10.params.toList args.toList ds p := hA0
  rw [Try.params10] at hA hval
  obtain ⟨v0, vs0, d0, ds0, p0, q0, hargs, rfl, rfl, h0, r0⟩ := trodAll_cons hA
  obtain ⟨v1, vs1, d1, ds1, p1, q1, rfl, rfl, rfl, h1, r1⟩ := trodAll_cons r0
  obtain ⟨rfl, rfl, rfl⟩ := trodAll_nil r1
  obtain rfl : args = #[v0, v1] := by cases args; simp_all
  obtain ⟨rfl, rfl⟩ := trodVars_none hV
  obtain ⟨l0, hA0_, hl0, hn0⟩ := open_intsA (hval 0 22 v0 rfl rfl) h0
  obtain ⟨a1, rfl, _, _, w1⟩ := open_int Try.underlying53 (hval 1 53 v1 rfl rfl) h1
  clear hA0 hval0
  refine (walk W v0 l0 a1 hl0 hn0 hA0_ (by simpa [Lit.wf, IntKind.min, IntKind.max, IntKind.signed, IntKind.bits] using w1)).mono fun e W' ⟨he, hb⟩ => ?_
  exact ⟨_, he, law_post law_laid rfl (by rw [Try.params10]; decide +kernel) (by kernel_rfl) Try.underlying4 rfl hWk hb⟩

theorem holds : Rows.ShareBlamesSaid :=
  OpenClaim.holds_of_wide 10 Try.f10 rfl rfl rfl rfl rfl rfl rfl ⟨rfl, rfl, rfl, rfl, rfl⟩ rfl rfl rfl rfl rfl (by kernel_rfl) Try.func10 (by kernel_rfl)
    (of_decide_eq_true (by kernel_rfl)) (by unfold Func.isWrapper; first | (rw [if_pos (by decide +kernel)]; kernel_rfl) | (rw [if_neg (by decide +kernel)]; exact ⟨rfl, rfl⟩))
    (fun os started H enc _ => lifted os started H enc)

end Go.Proofs.Ytdnabeldaighgaa.LBlames

namespace Go.Proofs.Ytdnabeldaighgaa
/-- The statement. -/
theorem shareBlames_holds : Rows.ShareBlamesSaid := LBlames.holds
end Go.Proofs.Ytdnabeldaighgaa
