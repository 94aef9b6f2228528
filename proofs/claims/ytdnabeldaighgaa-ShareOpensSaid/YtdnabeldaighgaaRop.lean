/- Open of the reference. Conditions: the range of int. -/
import Derived.Test.YtdnabeldaighgaaOpn
namespace Go.Proofs.Ytdnabeldaighgaa
open Go.RowKit Go.Shelf Shr

theorem bad_yes {cs : List Int} {l : List (Int × Int)} {k : Nat} {x y : Int} (h : l[k]? = some (x, y)) (hp : fts cs (x, y) = true) : badS cs (l.take (k + 1)) = badS cs (l.take k) := by
  unfold badS; rw [filt_no (fun p => !fts cs p) h (by rw [hp]; rfl)]
theorem bad_no {cs : List Int} {l : List (Int × Int)} {k : Nat} {x y : Int} (h : l[k]? = some (x, y)) (hp : fts cs (x, y) = false) : badS cs (l.take (k + 1)) = badS cs (l.take k) ++ [x] := by
  unfold badS; rw [filt_yes (fun p => !fts cs p) h (by rw [hp]; rfl)]; simp
theorem good_no {cs : List Int} {l : List (Int × Int)} {k : Nat} {x y : Int} (h : l[k]? = some (x, y)) (hp : fts cs (x, y) = false) : ownS ((l.take (k + 1)).filter (fts cs)) = ownS ((l.take k).filter (fts cs)) := by
  rw [filt_no (fts cs) h hp]
theorem good_old {cs : List Int} {l : List (Int × Int)} {k : Nat} {x y : Int} (h : l[k]? = some (x, y)) (hp : fts cs (x, y) = true) (ht : (ownS ((l.take k).filter (fts cs))).any (fun p => p.1 == x) = true) : ownS ((l.take (k + 1)).filter (fts cs)) = ownS ((l.take k).filter (fts cs)) := by
  rw [filt_yes (fts cs) h hp, ownS_snoc]; unfold stp; rw [if_pos ht]
theorem good_new {cs : List Int} {l : List (Int × Int)} {k : Nat} {x y : Int} (h : l[k]? = some (x, y)) (hp : fts cs (x, y) = true) (ht : (ownS ((l.take k).filter (fts cs))).any (fun p => p.1 == x) = false) : ownS ((l.take (k + 1)).filter (fts cs)) = ownS ((l.take k).filter (fts cs)) ++ [(x, y)] := by
  rw [filt_yes (fts cs) h hp, ownS_snoc]; unfold stp; rw [if_neg (by rw [ht]; simp)]
theorem any_take {l : List (Int × Int)} {k : Nat} {p : Int × Int} (h : l[k]? = some p) (z : Int) : (l.take (k + 1)).any (fun p => p.1 == z) = ((l.take k).any (fun p => p.1 == z) || (p.1 == z)) := by
  rw [List.take_add_one, h]; simp

set_option maxRecDepth 100000 in
set_option maxHeartbeats 2000000 in
theorem ROpen_any (cs : List Int) (l : List (Int × Int)) (cv v : Value) (w : World) (hcs : All64 cs) (hcs9 : cs.length ≤ 90000) (hCA : IArg w cv cs) (hl : AllS64 l) (hl9 : l.length ≤ 1000000) (hA : ShArg w v l) :
    Calls Try.prog 29 #[cv, v] w (OpQ w cs l) := by
  have HNO := Lib.hid (fun (h : comm cs = false) (w' : World) (hb : Below w.heap.size w w') => OpQ.no (l := l) h hb)
  have HFEW := Lib.hid (fun (h : comm cs = true) (h2 : (ownS (l.filter (fts cs))).length < cs.length) (v : Value) (w' : World) (ho : OwnI w' w.heap.size v (badS cs l)) (hb : Below w.heap.size w w') => OpQ.few h h2 v ho hb)
  have HOK := Lib.hid (fun (h : comm cs = true) (h2 : ¬ (ownS (l.filter (fts cs))).length < cs.length) (v : Value) (w' : World) (ho : OwnI w' w.heap.size v (badS cs l)) (hb : Below w.heap.size w w') => OpQ.ok h h2 v ho hb)
  generalize OpQ w cs l = Q at *
  have D1 := Lib.hid (Commits_any cs cv w hcs (by omega) hCA)
  have D2 := Lib.hid (fun (x y : Int) (hx : In64 x) (hy : In64 y) (w' : World) (hb : Below w.heap.size w w') => RFits_any cs x y cv w' hcs hx hy (by omega) (hCA.below hb))
  have HJM : Hid (AllS64 (ownS (l.filter (fts cs)))) := fun p hp => hl p (List.mem_filter.1 (ownS_mem hp)).1
  have HL := Lib.hid hl
  obtain ⟨ca, ccap, rfl, hcc, _⟩ := hCA
  obtain ⟨va, vcap, rfl, hvc, hA'⟩ := hA
  have HA : Hid (∀ W, Below w.heap.size w W → ∀ (k : Nat) (x y : Int), l[k]? = some (x, y) → ∃ g o, va = some ⟨g, o, none⟩ ∧ W.cell? ⟨g, o + k * 2, none⟩ = some (I x) ∧ W.cell? ⟨g, o + k * 2 + 1, none⟩ = some (I y)) := by
    show ∀ W, _
    intro W hW k x y hk
    obtain ⟨g, o, e1, e2⟩ := hA' (by rintro rfl; simp at hk)
    exact ⟨g, o, e1, (e2.below hW).cells hk⟩
  obtain ⟨b, hb⟩ : ∃ b, comm cs = b := ⟨_, rfl⟩
  rw [hb] at HNO HFEW HOK D1
  have HGN := Lib.hid (fun (k : Nat) (x y : Int) (h : l[k]? = some (x, y)) (hp : fts cs (x, y) = false) => And.intro (bad_no h hp) (good_no h hp))
  have HGO := Lib.hid (fun (k : Nat) (x y : Int) (h : l[k]? = some (x, y)) (hp : fts cs (x, y) = true) => And.intro (bad_yes h hp) (And.intro (good_old h hp) (good_new h hp)))
  have HLB : Hid (∀ k, (badS cs (l.take k)).length ≤ k) := fun k => by
    unfold badS
    rw [List.length_map]
    exact Nat.le_trans (List.length_filter_le _ _) (List.length_take_le k l)
  have HLG : Hid (∀ k, (ownS ((l.take k).filter (fts cs))).length ≤ k) := fun k => Nat.le_trans (ownS_len _) (Nat.le_trans (List.length_filter_le _ _) (List.length_take_le k l))
  have HTE : Hid (l.take l.length = l) := List.take_length
  have HEX : Hid (∀ k, k < l.length → ∃ x y, l[k]? = some (x, y)) := fun k hk => ⟨_, _, List.getElem?_eq_getElem hk⟩
  have HB0 : Hid (badS cs (l.take 0) = []) := rfl
  have HG0 : Hid (ownS ((l.take 0).filter (fts cs)) = []) := rfl
  clear hb hl hA' hcs
  obtain ⟨n, hn⟩ : ∃ n, l.length = n := ⟨_, rfl⟩
  rw [hn] at hl9 hvc HTE HEX
  rw [hn]
  clear hn
  obtain ⟨BD, hBD⟩ : ∃ BD : Nat → List Int, ∀ k, badS cs (l.take k) = BD k := ⟨_, fun _ => rfl⟩
  obtain ⟨GD, hGD⟩ : ∃ GD : Nat → List (Int × Int), ∀ k, ownS ((l.take k).filter (fts cs)) = GD k := ⟨_, fun _ => rfl⟩
  have hBE : badS cs l = BD n := by rw [← hBD, HTE.out]
  have hGE : ownS (l.filter (fts cs)) = GD n := by rw [← hGD, HTE.out]
  rw [hBE] at HFEW HOK
  rw [hGE] at HFEW HOK HJM
  have HGN : Hid (∀ (k : Nat) (x y : Int), l[k]? = some (x, y) → fts cs (x, y) = false → BD (k + 1) = BD k ++ [x] ∧ GD (k + 1) = GD k) := by
    show ∀ (k : Nat) (x y : Int), _
    intro k x y h hp
    rw [← hBD, ← hBD, ← hGD, ← hGD]; exact HGN.out k x y h hp
  have HGO : Hid (∀ (k : Nat) (x y : Int), l[k]? = some (x, y) → fts cs (x, y) = true → BD (k + 1) = BD k ∧ ((GD k).any (fun p => p.1 == x) = true → GD (k + 1) = GD k) ∧ ((GD k).any (fun p => p.1 == x) = false → GD (k + 1) = GD k ++ [(x, y)])) := by
    show ∀ (k : Nat) (x y : Int), _
    intro k x y h hp
    rw [← hBD, ← hBD, ← hGD, ← hGD]; exact HGO.out k x y h hp
  have HLB : Hid (∀ k, (BD k).length ≤ k) := fun k => by rw [← hBD]; exact HLB.out k
  have HLG : Hid (∀ k, (GD k).length ≤ k) := fun k => by rw [← hGD]; exact HLG.out k
  have HB0 : Hid (BD 0 = []) := by show BD 0 = []; rw [← hBD]; rfl
  have HG0 : Hid (GD 0 = []) := by show GD 0 = []; rw [← hGD]; rfl
  clear hBE hGE hBD hGD HTE
  rename_i HB1 HG1 HLB1 HLG1 HGO1 HGN1
  clear HB1 HG1 HLB1 HLG1 HGO1 HGN1
  obtain ⟨nc, hnc⟩ : ∃ nc, cs.length = nc := ⟨_, rfl⟩
  rw [hnc] at hcc hcs9 HFEW HOK D1
  rw [hnc]
  have D2 : Hid (∀ (x y : Int) (hx : In64 x) (hy : In64 y) (w' : World) (hb : Below w.heap.size w w'), Calls Try.prog 47 #[.slice ca nc ccap, .agg #[I x, I y]] w' fun e w'' => e = .returned (.bool (fts cs (x, y))) ∧ Below w'.heap.size w' w'') := by
    rw [← hnc]; exact D2.out
  clear hnc
  go_enter Try.func29, Try.ntmps29
  go_wp2_with fail
  refine D1.out.mono ?_; rintro e w3 ⟨rfl, rfl⟩
  cases b
  · have HR := Lib.hid (HNO.out rfl w (Below.refl _ _))
    clear D1
    go_wp2_with fail
    refine bodyPost_ret (results_tmp3 rfl _ _ _) rfl ?_
    exact HR.out
  · clear HNO D1
    go_wp2_with fail
    go_loopw [8, 9, 10] (fun u1 u2 i wr => ∃ k : Nat, k ≤ n ∧ i = .int .i64 (k : Int) ∧ Hid (OwnI wr w.heap.size u1 (BD k)) ∧ Hid (OwnSh wr w.heap.size u2 (GD k)) ∧ Hid (Apart u1 u2) ∧ Below w.heap.size w wr) (fun _ _ i _ => n - (intOf i).toNat)
    case atStart => exact ⟨0, by omega, rfl, by rw [HB0.out]; exact OwnV.nil _ _ _, by rw [HG0.out]; exact OwnV.nil _ _ _, Apart.nil, Below.refl _ _⟩
    case round =>
      obtain ⟨k, hk, rfl, H1, H2, HAP, hb⟩ := hrel
      by_cases hkt : k < n
      · obtain ⟨x, y, hxy⟩ := HEX.out k hkt
        obtain ⟨g, o, rfl, c0, c1⟩ := HA.out wr hb k x y hxy
        obtain ⟨x64, y64⟩ := HL.out _ (List.mem_of_getElem? hxy)
        have q1 : (k : Int) < (n : Int) := by omega
        have D3 := Lib.hid (D2.out x y x64 y64 wr hb)
        obtain ⟨b, hbb⟩ : ∃ b, fts cs (x, y) = b := ⟨_, rfl⟩
        rw [hbb] at D3
        have HBB := Lib.hid hbb
        have HXY := Lib.hid hxy
        clear hbb hxy
        go_wp2_with fail
        refine D3.out.mono ?_; rintro e w3 ⟨rfl, hb3⟩
        have hb4 := hb.trans (hb3.mono hb.size)
        have O1 := Lib.hid (H1.out.below hb3)
        have O2 := Lib.hid (H2.out.below hb3)
        have d0 := keepCells hb3 _ _ c0
        have d1 := keepCells hb3 _ _ c1
        clear D3 c0 c1 H1 H2 hb hb3
        cases b
        · obtain ⟨e1, e2⟩ := HGN.out k x y HXY.out HBB.out
          obtain ⟨v', w4, r1, r2, r3, r4⟩ := run_append_int w3 w.heap.size u8 _ O1.out hb4.size x (by have := HLB.out k; omega)
          have HB1 := Lib.hid (one_int w3 x)
          have HAPP := Lib.hid r1
          have P1 : Hid (OwnI w4 w.heap.size v' (BD (k + 1))) := by
            show OwnI w4 w.heap.size v' _
            rw [e1]; exact r2
          have P2 : Hid (OwnSh w4 w.heap.size u9 (GD (k + 1))) := by
            show OwnSh w4 w.heap.size u9 _
            rw [e2]
            exact O2.out.grown r3 (fun g hg e => HAP.out g e hg)
          have P3 : Hid (Apart v' u9) := HAP.out.left O2.out r4
          have h7 := below_of_grown hb4 r3 hb4.size (fun g hg => O1.out.blk g hg)
          clear e1 e2 r1 r2 r3 r4 O1 O2 HAP hb4
          go_wp2_with (first
            | (refine wpList_build_run rfl 22 1 #[(0, .tmp 39)] rfl #[(0, I x)] rfl _ _ HB1.out ?_)
            | (at_builtin; refine Lib.wpList_append_run _ rfl (.tmp 34) (.tmp 40) 22 22 rfl _ _ rfl rfl _ _ HAPP.out ?_))
          go_roundw
          case rel => exact ⟨k + 1, by omega, by go_num, P1, P2, P3, h7⟩
          case measure => simp [intOf]; omega
        · obtain ⟨e1, e2, e3⟩ := HGO.out k x y HXY.out HBB.out
          have HE1 := Lib.hid e1
          have HE2 := Lib.hid e2
          have HE3 := Lib.hid e3
          have hGL := HLG.out k
          have HAG : Hid (∀ W, Below w3.heap.size w3 W → ∀ (t : Nat) (x y : Int), (GD k)[t]? = some (x, y) → ∃ g o, (match u9 with | .slice a _ _ => a | _ => none) = some ⟨g, o, none⟩ ∧ W.cell? ⟨g, o + t * 2, none⟩ = some (I x) ∧ W.cell? ⟨g, o + t * 2 + 1, none⟩ = some (I y)) := by
            show ∀ W, _
            intro W hW t x y ht
            obtain ⟨a, cp, rfl, _, h⟩ := O2.out.sharg
            obtain ⟨g, o, e1, e2⟩ := h (by intro e; rw [e] at ht; simp at ht)
            exact ⟨g, o, e1, (e2.below hW).cells ht⟩
          have HO2 := O2
          obtain ⟨a9, cap9, rfl, hc9⟩ := O2.out.form
          have HXG : Hid (∀ t, t < (GD k).length → ∃ x y, (GD k)[t]? = some (x, y)) := fun t ht => ⟨_, _, List.getElem?_eq_getElem ht⟩
          have HAT := Lib.hid (fun (t : Nat) (p : Int × Int) (h : (GD k)[t]? = some p) => any_take h x)
          have HTF : Hid ((GD k).take (GD k).length = GD k) := List.take_length
          have HA0 : Hid (((GD k).take 0).any (fun p => p.1 == x) = false) := rfl
          obtain ⟨m, hm⟩ : ∃ m, (GD k).length = m := ⟨_, rfl⟩
          have HM := Lib.hid hm
          rw [hm] at hc9 hGL HXG HTF
          have O2a := O2
          have HAPa := HAP
          clear O2 HAP
          have O2 : Hid (OwnV w3 w.heap.size 2 (.slice a9 m cap9) m (shc (GD k))) := by
            show OwnV _ _ _ _ _ _
            rw [← hm]; exact HO2.out
          have HAP : Hid (Apart u8 (.slice a9 m cap9)) := by
            show Apart _ _
            rw [← hm]; exact HAPa.out
          rw [hm]
          clear e1 e2 e3 hm HO2 O2a HAPa
          have hd0 := After.cell d0
          go_wp2_with fail
          clear hd0
          go_loopw [12, 13] (fun t i W => ∃ j : Nat, j ≤ m ∧ i = .int .i64 (j : Int) ∧ t = .bool (((GD k).take j).any (fun p => p.1 == x)) ∧ Below w3.heap.size w3 W) (fun _ i _ => m - (intOf i).toNat)
          case atStart => exact ⟨0, by omega, rfl, by rw [HA0.out], Below.refl _ _⟩
          case round =>
            obtain ⟨j, hj, rfl, rfl, h3⟩ := hrel
            by_cases hjt : j < m
            · obtain ⟨qx, qy, hq⟩ := HXG.out j hjt
              obtain ⟨g2, o2, rfl, e0, _⟩ := HAG.out wr h3 j qx qy hq
              have q2 : (j : Int) < (m : Int) := by omega
              have q3 : (k : Int) < (n : Int) := by omega
              have HT := Lib.hid (HAT.out j _ hq)
              have f0 := After.cell e0
              have f1 := After.cell (keepCells h3 _ _ d0)
              clear hq
              obtain ⟨t, ht⟩ : ∃ t, ((GD k).take j).any (fun p => p.1 == x) = t := ⟨_, rfl⟩
              rw [ht] at HT
              rw [ht]
              clear ht d0 d1 e0
              cases t
              · obtain ⟨q, hqq⟩ : ∃ q, (qx == x) = q := ⟨_, rfl⟩
                have HT2 : Hid (((GD k).take (j + 1)).any (fun p => p.1 == x) = q) := by
                  show _ = q
                  rw [HT.out, ← hqq]; rfl
                clear HT
                go_upto_region 16 with (fail)
                refine wp_region_after (by kernel_rfl) (by kernel_rfl) ?_
                repeat (go_big_quiet_step (fail))
                refine wpQuiet_nil ?_
                rintro w5 ⟨x5, rfl⟩
                have h5 := h3.trans (x5.hb.mono h3.size)
                generalize x5.W = w5 at *
                clear f0 f1 x5 h3
                go_wp2_with fail
                go_roundw
                case rel => exact ⟨j + 1, by omega, by go_num, by rw [HT2.out], h5⟩
                case measure => simp [intOf]; omega
              · have HT2 : Hid (((GD k).take (j + 1)).any (fun p => p.1 == x) = true) := by
                  show _ = true
                  rw [HT.out]; rfl
                clear HT
                go_upto_region 16 with (fail)
                refine wp_region_after (by kernel_rfl) (by kernel_rfl) ?_
                repeat (go_big_quiet_step (fail))
                refine wpQuiet_nil ?_
                rintro w5 ⟨x5, rfl⟩
                have h5 := h3.trans (x5.hb.mono h3.size)
                generalize x5.W = w5 at *
                clear f0 f1 x5 h3
                go_wp2_with fail
                go_roundw
                case rel => exact ⟨j + 1, by omega, by go_num, by rw [HT2.out], h5⟩
                case measure => simp [intOf]; omega
            · have q2 : ¬ ((j : Int) < (m : Int)) := by omega
              obtain rfl : j = m := by omega
              have d0 := keepCells h3 _ _ d0
              have d1 := keepCells h3 _ _ d1
              have hb5 := hb4.trans (h3.mono hb4.size)
              have P1 : Hid (OwnI wr w.heap.size u8 (BD (k + 1))) := by
                show OwnI wr w.heap.size u8 _
                rw [HE1.out]; exact O1.out.below h3
              have O3 := Lib.hid (O2.out.below h3)
              have hfull : ((GD k).take j).any (fun p => p.1 == x) = (GD k).any (fun p => p.1 == x) := by rw [HTF.out]
              rw [hfull]
              obtain ⟨t, ht⟩ : ∃ t, (GD k).any (fun p => p.1 == x) = t := ⟨_, rfl⟩
              rw [ht] at HE2 HE3
              rw [ht]
              clear hfull ht O1 O2 h3 HAG HXG HAT HA0 HTF HE1
              cases t
              · have O4 : OwnSh wr w.heap.size (.slice a9 j cap9) (GD k) := by
                  show OwnV _ _ _ _ _ _
                  rw [HM.out]; exact O3.out
                obtain ⟨v', w7, r1, r2, r3, r4⟩ := run_append_share wr w.heap.size (.slice a9 j cap9) _ O4 hb5.size x y (by rw [HM.out]; omega)
                have HB1 := Lib.hid (one_share wr x y)
                have HAPP := Lib.hid r1
                have P2 : Hid (OwnSh w7 w.heap.size v' (GD (k + 1))) := by
                  show OwnSh w7 w.heap.size v' _
                  rw [HE3.out rfl]
                  exact r2
                have P1' : Hid (OwnI w7 w.heap.size u8 (BD (k + 1))) := P1.out.grown r3 (fun g hg e => HAP.out g hg e)
                have P3 : Hid (Apart u8 v') := (HAP.out.symm.left P1.out r4).symm
                have h7 := below_of_grown hb5 r3 hb5.size (fun g hg => O4.blk g hg)
                clear r1 r2 r3 r4 O3 O4 hb5 P1 HE2 HE3
                go_wp2_with (first
                  | (refine wpList_build_run rfl 25 1 #[(0, .tmp 68)] rfl #[(0, .agg #[I x, I y])] rfl _ _ HB1.out ?_)
                  | (at_builtin; refine Lib.wpList_append_run _ rfl (.tmp 64) (.tmp 69) 25 25 rfl _ _ rfl rfl _ _ HAPP.out ?_))
                go_roundw
                case rel => exact ⟨k + 1, by omega, by go_num, P1', P2, P3, h7⟩
                case measure => simp [intOf]; omega
              · have P2 : Hid (OwnSh wr w.heap.size (.slice a9 j cap9) (GD (k + 1))) := by
                  show OwnV _ _ _ _ _ _
                  rw [HE2.out rfl, HM.out]; exact O3.out
                clear HE2 HE3 O3
                go_wp2_with fail
                go_roundw
                case rel => exact ⟨k + 1, by omega, by go_num, P1, P2, HAP, hb5⟩
                case measure => simp [intOf]; omega
      · have q1 : ¬ ((k : Int) < (n : Int)) := by omega
        obtain rfl : k = n := by omega
        have hol : (GD k).length ≤ 1000000 := by have := HLG.out k; omega
        have D1 := Lib.hid (RJoin_any (nc : Int) (GD k) u9 wr HJM.out hol H2.out.sharg)
        obtain ⟨a3, cap3, rfl, hc3⟩ := H2.out.form
        by_cases hfew : (GD k).length < nc
        · have q2 : decide (((GD k).length : Int) < (nc : Int)) = true := decide_eq_true (by omega)
          have q3 : ((GD k).length : Int) < (nc : Int) := by omega
          have HR := Lib.hid (HFEW.out trivial hfew u8 wr H1.out hb)
          clear HFEW HOK D1 H1 H2 HAP
          generalize (GD k).length = no at *
          go_wp2_with fail
          refine bodyPost_ret (results_tmp3 rfl _ _ _) rfl ?_
          exact HR.out
        · have q2 : decide (((GD k).length : Int) < (nc : Int)) = false := decide_eq_false (by omega)
          have q3 : ¬ ((GD k).length : Int) < (nc : Int) := by omega
          have HR := Lib.hid (fun w' (hb' : Below wr.heap.size wr w') => HOK.out trivial hfew u8 w' (H1.out.below hb') (hb.trans (hb'.mono hb.size)))
          clear HFEW HOK H1 H2 HAP
          generalize joinS (nc : Int) (GD k) = jr at *
          generalize (GD k).length = no at *
          go_wp2_with fail
          refine D1.out.mono ?_; rintro e w6 ⟨rfl, hb6⟩
          have HR6 := Lib.hid (HR.out w6 hb6)
          clear HR hb6 D1
          go_wp2_with fail
          refine bodyPost_ret (results_tmp3 rfl _ _ _) rfl ?_
          exact HR6.out

end Go.Proofs.Ytdnabeldaighgaa
