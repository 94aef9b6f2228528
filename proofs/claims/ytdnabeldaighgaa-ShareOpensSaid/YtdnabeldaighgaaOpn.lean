/- Open of the implementation. Conditions: the range of int. -/
import Derived.Test.YtdnabeldaighgaaSse
namespace Go.Proofs.Ytdnabeldaighgaa
open Go.RowKit Go.Shelf Shr

/-- Two lists of shares as results. -/
def SelR (w : World) (gl bl : List (Int × Int)) (e : Ending) (w' : World) : Prop := ∃ v1 v2, e = .returned (.tuple #[v1, v2]) ∧ OwnSh w' w.heap.size v1 gl ∧ OwnSh w' w.heap.size v2 bl ∧ Below w.heap.size w w'
/-- What Open returns. -/
def OpQ (w : World) (cs : List Int) (l : List (Int × Int)) (e : Ending) (w' : World) : Prop := ∃ v, e = .returned (.tuple #[I (opS cs l).1, v, I (opS cs l).2.2]) ∧ OwnI w' w.heap.size v (opS cs l).2.1 ∧ Below w.heap.size w w'
theorem OpQ.no {w w' : World} {cs : List Int} {l : List (Int × Int)} (h : comm cs = false) (hb : Below w.heap.size w w') : OpQ w cs l (.returned (.tuple #[I 0, .slice none 0 0, I 1])) w' := by
  unfold OpQ opS
  rw [if_pos h]
  exact ⟨_, rfl, OwnV.nil _ _ _, hb⟩
theorem OpQ.few {w w' : World} {cs : List Int} {l : List (Int × Int)} (h : comm cs = true) (h2 : (ownS (l.filter (fts cs))).length < cs.length) (v : Value) (ho : OwnI w' w.heap.size v (badS cs l)) (hb : Below w.heap.size w w') : OpQ w cs l (.returned (.tuple #[I 0, v, I 24])) w' := by
  unfold OpQ opS
  rw [if_neg (by rw [h]; simp), if_pos h2]
  exact ⟨_, rfl, ho, hb⟩
theorem OpQ.ok {w w' : World} {cs : List Int} {l : List (Int × Int)} (h : comm cs = true) (h2 : ¬ (ownS (l.filter (fts cs))).length < cs.length) (v : Value) (ho : OwnI w' w.heap.size v (badS cs l)) (hb : Below w.heap.size w w') : OpQ w cs l (.returned (.tuple #[I (joinS cs.length (ownS (l.filter (fts cs)))).1, v, I 0])) w' := by
  unfold OpQ opS
  rw [if_neg (by rw [h]; simp), if_neg h2]
  exact ⟨_, rfl, ho, hb⟩
theorem take_own_yes {l : List (Int × Int)} {k : Nat} {x y : Int} (h : l[k]? = some (x, y)) (hp : (ownS (l.take k)).any (fun p => p.1 == x) = true) : ownS (l.take (k + 1)) = ownS (l.take k) := by
  rw [List.take_add_one, h]
  show ownS (l.take k ++ [(x, y)]) = _
  rw [ownS_snoc]; unfold stp; rw [if_pos hp]
theorem take_own_no {l : List (Int × Int)} {k : Nat} {x y : Int} (h : l[k]? = some (x, y)) (hp : (ownS (l.take k)).any (fun p => p.1 == x) = false) : ownS (l.take (k + 1)) = ownS (l.take k) ++ [(x, y)] := by
  rw [List.take_add_one, h]
  show ownS (l.take k ++ [(x, y)]) = _
  rw [ownS_snoc]; unfold stp; rw [if_neg (by rw [hp]; simp)]
theorem take_map_fst {l : List (Int × Int)} {k : Nat} {x y : Int} (h : l[k]? = some (x, y)) : (l.take (k + 1)).map Prod.fst = (l.take k).map Prod.fst ++ [x] := by
  rw [List.take_add_one, h]; simp

set_option maxRecDepth 100000 in
set_option maxHeartbeats 2000000 in
theorem Open_any (cs : List Int) (l : List (Int × Int)) (cv v : Value) (w : World) (hcs : All64 cs) (hcs9 : cs.length ≤ 90000) (hCA : IArg w cv cs) (hl : AllS64 l) (hl9 : l.length ≤ 1000000) (hA : ShArg w v l) :
    Calls Try.prog 22 #[cv, v] w (OpQ w cs l) := by
  have HNO := Lib.hid (fun (h : comm cs = false) (w' : World) (hb : Below w.heap.size w w') => OpQ.no (l := l) h hb)
  have HFEW := Lib.hid (fun (h : comm cs = true) (h2 : (ownS (l.filter (fts cs))).length < cs.length) (v : Value) (w' : World) (ho : OwnI w' w.heap.size v (badS cs l)) (hb : Below w.heap.size w w') => OpQ.few h h2 v ho hb)
  have HOK := Lib.hid (fun (h : comm cs = true) (h2 : ¬ (ownS (l.filter (fts cs))).length < cs.length) (v : Value) (w' : World) (ho : OwnI w' w.heap.size v (badS cs l)) (hb : Below w.heap.size w w') => OpQ.ok h h2 v ho hb)
  generalize OpQ w cs l = Q at *
  have hba := (Below.refl w.heap.size w).alloc (Nat.le_refl _) (.cells #[cv] 22)
  have N2 := Blk.new w #[cv] 22
  have D1 := Lib.hid (right_any cs cv _ hcs (by omega) (hCA.below hba))
  have D2 : Hid (∀ (w' : World) (hb : Below w.heap.size w w') (hB : Blk w' w.heap.size #[cv] 22), Calls Try.prog 36 #[v, .func (.func 37) #[] #[.pointer (some ⟨w.heap.size, 0, none⟩)]] w' (SelR w' (l.filter (fts cs)) (l.filter (fun p => !fts cs p)))) := fun (w' : World) (hb : Below w.heap.size w w') (hB : Blk w' w.heap.size #[cv] 22) => sels_any l cs v cv w.heap.size w' hB hcs hcs9 (hCA.below hb) hl hl9 (hA.below hb)
  have HJM : Hid (AllS64 (ownS (l.filter (fts cs)))) := fun p hp => hl p (List.mem_filter.1 (ownS_mem hp)).1
  have hgl9 : (l.filter (fts cs)).length ≤ 1000000 := Nat.le_trans (List.length_filter_le _ _) hl9
  have hbl9 : (l.filter (fun p => !fts cs p)).length ≤ 1000000 := Nat.le_trans (List.length_filter_le _ _) hl9
  have HBD : Hid (badS cs l = (l.filter (fun p => !fts cs p)).map Prod.fst) := rfl
  obtain ⟨ca, ccap, rfl, hcc, _⟩ := hCA
  obtain ⟨va, vcap, rfl, hvc, _⟩ := hA
  obtain ⟨b, hb⟩ : ∃ b, comm cs = b := ⟨_, rfl⟩
  rw [hb] at HNO HFEW HOK D1
  clear hb hl hcs
  generalize badS cs l = bd at *
  generalize l.filter (fts cs) = gl at *
  generalize l.filter (fun p => !fts cs p) = bl at *
  have N2w := Lib.hid N2
  have c2 := N2.cell 0 _ rfl
  clear N2
  cases b
  · have HR := Lib.hid (HNO.out rfl)
    go_enter Try.func22, Try.ntmps22
    go_wp2_with fail
    refine D1.out.mono ?_; rintro e w3 ⟨rfl, hb3⟩
    have HR2 := Lib.hid (HR.out w3 (hba.trans (hb3.mono hba.size)))
    go_wp2_with fail
    refine bodyPost_ret (results_tmp3 rfl _ _ _) rfl ?_
    exact HR2.out
  · clear HNO
    go_enter Try.func22, Try.ntmps22
    go_wp2_with fail
    refine D1.out.mono ?_; rintro e w3 ⟨rfl, hb3⟩
    have hb := hba.trans (hb3.mono hba.size)
    have N3 := N2w.out.below hb3 N2w.out.lt
    have D3 := Lib.hid (D2.out w3 hb N3)
    have HN3 := Lib.hid N3
    clear D1 D2 N2w N3 hb3 hba c2
    go_wp2_with fail
    refine D3.out.mono ?_
    rintro e w4 ⟨v1, v2, rfl, o1, o2, hb4⟩
    have hb := hb.trans (hb4.mono hb.size)
    have HN4 := Lib.hid (HN3.out.below hb4 HN3.out.lt)
    have HO1 := Lib.hid o1
    obtain ⟨a2, cap2, rfl, hc2⟩ := o2.form
    obtain ⟨a1, cap1, rfl, hc1⟩ := o1.form
    have HA2 : Hid (∀ W, Below w4.heap.size w4 W → ∀ (k : Nat) (x y : Int), bl[k]? = some (x, y) → ∃ g o, a2 = some ⟨g, o, none⟩ ∧ W.cell? ⟨g, o + k * 2, none⟩ = some (I x) ∧ W.cell? ⟨g, o + k * 2 + 1, none⟩ = some (I y)) := by
      show ∀ W, _
      intro W hW k x y hk
      obtain ⟨a, cp, e, _, h⟩ := OwnV.sharg o2
      cases e
      obtain ⟨g, o, e1, e2⟩ := h (by rintro rfl; simp at hk)
      exact ⟨g, o, e1, (e2.below hW).cells hk⟩
    have HA1 : Hid (∀ W, Below w4.heap.size w4 W → ∀ (k : Nat) (x y : Int), gl[k]? = some (x, y) → ∃ g o, a1 = some ⟨g, o, none⟩ ∧ W.cell? ⟨g, o + k * 2, none⟩ = some (I x) ∧ W.cell? ⟨g, o + k * 2 + 1, none⟩ = some (I y)) := by
      show ∀ W, _
      intro W hW k x y hk
      obtain ⟨a, cp, e, _, h⟩ := o1.sharg
      cases e
      obtain ⟨g, o, e1, e2⟩ := h (by rintro rfl; simp at hk)
      exact ⟨g, o, e1, (e2.below hW).cells hk⟩
    clear o1 o2 HO1 HN3 D3 hb4
    obtain ⟨nb, hnb⟩ : ∃ nb, bl.length = nb := ⟨_, rfl⟩
    obtain ⟨ng, hng⟩ : ∃ ng, gl.length = ng := ⟨_, rfl⟩
    have HXB : Hid (∀ k, k < nb → ∃ x y, bl[k]? = some (x, y)) := fun k hk => ⟨_, _, List.getElem?_eq_getElem (by omega)⟩
    have HXG : Hid (∀ k, k < ng → ∃ x y, gl[k]? = some (x, y)) := fun k hk => ⟨_, _, List.getElem?_eq_getElem (by omega)⟩
    have HTB : Hid ((bl.take nb).map Prod.fst = bd) := by
      show (bl.take nb).map Prod.fst = bd
      rw [← hnb, List.take_length]; exact HBD.out.symm
    have HTG : Hid (gl.take ng = gl) := by
      show gl.take ng = gl
      rw [← hng, List.take_length]
    have HLB : Hid (∀ k, ((bl.take k).map Prod.fst).length ≤ k) := fun k => by rw [List.length_map]; exact List.length_take_le k bl
    have HLG : Hid (∀ k, (ownS (gl.take k)).length ≤ k) := fun k => Nat.le_trans (ownS_len _) (List.length_take_le k gl)
    rw [hnb] at hc2 hbl9
    rw [hng] at hc1 hgl9
    rw [hnb, hng]
    clear hnb hng HBD
    obtain ⟨nc, hnc⟩ : ∃ nc, cs.length = nc := ⟨_, rfl⟩
    rw [hnc] at hcc hcs9 HFEW HOK HN4
    rw [hnc]
    clear hnc
    have hsz4 := hb.size
    go_wp2_with fail
    go_loopw [9, 28] (fun u i wr => ∃ k : Nat, k ≤ nb ∧ i = .int .i64 (k : Int) ∧ Hid (OwnI wr w4.heap.size u ((bl.take k).map Prod.fst)) ∧ Below w4.heap.size w4 wr) (fun _ i _ => nb - (intOf i).toNat)
    case atStart => exact ⟨0, by omega, rfl, OwnV.nil _ _ _, Below.refl _ _⟩
    case round =>
      obtain ⟨k, hk, rfl, H1, h4⟩ := hrel
      by_cases hkt : k < nb
      · obtain ⟨x, y, hxy⟩ := HXB.out k hkt
        obtain ⟨g, o, rfl, c0, c1⟩ := HA2.out wr h4 k x y hxy
        have q1 : (k : Int) < (nb : Int) := by omega
        have HM := Lib.hid (take_map_fst hxy)
        clear hxy
        have N := Blk.new wr #[I x, I y] 33
        have hba := (Below.refl wr.heap.size wr).alloc (Nat.le_refl _) (.cells #[I x, I y] 33)
        have h5 := h4.trans (hba.mono h4.size)
        have O1 := H1.out.below hba
        have d0 := N.cell 0 _ rfl
        clear N hba
        obtain ⟨v', w6, r1, r2, r3, r4⟩ := run_append_int (wr.alloc (.cells #[I x, I y] 33)) w4.heap.size u9 _ O1 h5.size x (by have := HLB.out k; omega)
        have HB1 := Lib.hid (one_int (wr.alloc (.cells #[I x, I y] 33)) x)
        have HAPP := Lib.hid r1
        have P1 : Hid (OwnI w6 w4.heap.size v' ((bl.take (k + 1)).map Prod.fst)) := by
          show OwnI w6 w4.heap.size v' _
          rw [HM.out]
          exact r2
        have h6 := below_of_grown h5 r3 h5.size (fun g hg => O1.blk g hg)
        clear r1 r2 r3 r4 O1 h5 H1
        go_wp2_with (first
          | (refine wpList_build_run rfl 22 1 #[(0, .tmp 34)] rfl #[(0, I x)] rfl _ _ HB1.out ?_)
          | (at_builtin; refine Lib.wpList_append_run _ rfl (.tmp 32) (.tmp 35) 22 22 rfl _ _ rfl rfl _ _ HAPP.out ?_))
        go_roundw
        case rel => exact ⟨k + 1, by omega, by go_num, P1, h6⟩
        case measure => simp [intOf]; omega
      · have q1 : ¬ ((k : Int) < (nb : Int)) := by omega
        obtain rfl : k = nb := by omega
        have HBO : Hid (OwnI wr w4.heap.size u9 bd) := by
          show OwnI wr w4.heap.size u9 bd
          rw [← HTB.out]; exact H1.out
        have hbr := hb.trans (h4.mono hsz4)
        have HNr := Lib.hid (HN4.out.below h4 HN4.out.lt)
        clear HTB HLB HXB HA2 H1 HN4
        have hszr := hbr.size
        have h4s := h4.size
        have HA1' : Hid (∀ W, Below wr.heap.size wr W → ∀ (k : Nat) (x y : Int), gl[k]? = some (x, y) → ∃ g o, a1 = some ⟨g, o, none⟩ ∧ W.cell? ⟨g, o + k * 2, none⟩ = some (I x) ∧ W.cell? ⟨g, o + k * 2 + 1, none⟩ = some (I y)) := fun W hW k x y hk => HA1.out W (h4.trans (hW.mono h4s)) k x y hk
        clear HA1 h4
        generalize wr = w5 at *
        go_wp2_with fail
        go_loopw [12, 40] (fun u i wr => ∃ j : Nat, j ≤ ng ∧ i = .int .i64 (j : Int) ∧ Hid (OwnSh wr w5.heap.size u (ownS (gl.take j))) ∧ Below w5.heap.size w5 wr) (fun _ i _ => ng - (intOf i).toNat)
        case atStart => exact ⟨0, by omega, rfl, OwnV.nil _ _ _, Below.refl _ _⟩
        case round =>
          obtain ⟨j, hj, rfl, H1, h4⟩ := hrel
          by_cases hjt : j < ng
          · obtain ⟨x, y, hxy⟩ := HXG.out j hjt
            obtain ⟨g, o, rfl, c0, c1⟩ := HA1'.out wr h4 j x y hxy
            have q1 : (j : Int) < (ng : Int) := by omega
            have HXY := Lib.hid hxy
            clear hxy
            have N := Blk.new wr #[I x, I y] 33
            have hba := (Below.refl wr.heap.size wr).alloc (Nat.le_refl _) (.cells #[I x, I y] 33)
            have h5 := h4.trans (hba.mono h4.size)
            have O1 := Lib.hid (H1.out.below hba)
            have hol : (ownS (gl.take j)).length ≤ 1000000 := by have := HLG.out j; omega
            have D1 := Lib.hid (contains_any (ownS (gl.take j)) x y u12 wr.heap.size (wr.alloc (.cells #[I x, I y] 33)) N hol O1.out.sharg)
            obtain ⟨b, hbb⟩ : ∃ b, (ownS (gl.take j)).any (fun p => p.1 == x) = b := ⟨_, rfl⟩
            rw [hbb] at D1
            have HBB := Lib.hid hbb
            have HN := Lib.hid N
            clear hbb hba h4 N H1
            go_wp2_with fail
            refine D1.out.mono ?_; rintro e w6 ⟨rfl, hb6⟩
            have h6 := h5.trans (hb6.mono h5.size)
            have O2 := Lib.hid (O1.out.below hb6)
            have N6 := HN.out.below hb6 HN.out.lt
            clear D1 HN O1 c0 c1 hb6 h5
            cases b
            · have d0 := N6.cell 0 _ rfl
              have d1 := N6.cell 1 _ rfl
              have HE := Lib.hid (take_own_no HXY.out HBB.out)
              obtain ⟨v', w7, r1, r2, r3, r4⟩ := run_append_share w6 w5.heap.size u12 _ O2.out h6.size x y (by omega)
              have HB1 := Lib.hid (one_share w6 x y)
              have HAPP := Lib.hid r1
              have P1 : Hid (OwnSh w7 w5.heap.size v' (ownS (gl.take (j + 1)))) := by
                show OwnSh w7 w5.heap.size v' _
                rw [HE.out]
                exact r2
              have h7 := below_of_grown h6 r3 h6.size (fun g hg => O2.out.blk g hg)
              clear r1 r2 r3 r4 O2 h6 N6
              go_wp2_with (first
                | (refine wpList_build_run rfl 25 1 #[(0, .tmp 49)] rfl #[(0, .agg #[I x, I y])] rfl _ _ HB1.out ?_)
                | (at_builtin; refine Lib.wpList_append_run _ rfl (.tmp 48) (.tmp 50) 25 25 rfl _ _ rfl rfl _ _ HAPP.out ?_))
              go_roundw
              case rel => exact ⟨j + 1, by omega, by go_num, P1, h7⟩
              case measure => simp [intOf]; omega
            · have HE := Lib.hid (take_own_yes HXY.out HBB.out)
              have P1 : Hid (OwnSh w6 w5.heap.size u12 (ownS (gl.take (j + 1)))) := by
                show OwnSh w6 w5.heap.size u12 _
                rw [HE.out]
                exact O2.out
              clear O2 N6
              go_wp2_with fail
              go_roundw
              case rel => exact ⟨j + 1, by omega, by go_num, P1, h6⟩
              case measure => simp [intOf]; omega
          · have q1 : ¬ ((j : Int) < (ng : Int)) := by omega
            obtain rfl : j = ng := by omega
            have O1 : Hid (OwnSh wr w5.heap.size u12 (ownS gl)) := by
              show OwnSh wr w5.heap.size u12 (ownS gl)
              rw [← HTG.out]; exact H1.out
            have hb5 := hbr.trans (h4.mono hszr)
            have HNr' := HNr.out.below h4 HNr.out.lt
            have HBO' := Lib.hid ((HBO.out.below h4).mono hsz4)
            have hol : (ownS gl).length ≤ 1000000 := by have := ownS_len gl; have := HLG.out j; rw [HTG.out] at this; omega
            have D1 := Lib.hid (Join_any (nc : Int) (ownS gl) u12 wr HJM.out hol O1.out.sharg)
            obtain ⟨a3, cap3, rfl, hc3⟩ := O1.out.form
            have c2 := HNr'.cell 0 _ rfl
            clear HNr HBO O1 H1 HLG HXG HTG HA1' h4 HNr'
            by_cases hfew : (ownS gl).length < nc
            · have q2 : decide (((ownS gl).length : Int) < (nc : Int)) = true := decide_eq_true (by omega)
              have q3 : ((ownS gl).length : Int) < (nc : Int) := by omega
              have HR := Lib.hid (HFEW.out trivial hfew u9 wr HBO'.out hb5)
              clear HFEW HOK HBO' D1
              generalize (ownS gl).length = no at *
              go_wp2_with fail
              refine bodyPost_ret (results_tmp3 rfl _ _ _) rfl ?_
              exact HR.out
            · have q2 : decide (((ownS gl).length : Int) < (nc : Int)) = false := decide_eq_false (by omega)
              have q3 : ¬ ((ownS gl).length : Int) < (nc : Int) := by omega
              have HR := Lib.hid (fun w' (hb : Below wr.heap.size wr w') => HOK.out trivial hfew u9 w' (HBO'.out.below hb) (hb5.trans (hb.mono hb5.size)))
              clear HFEW HOK HBO'
              generalize joinS (nc : Int) (ownS gl) = jr at *
              generalize (ownS gl).length = no at *
              go_wp2_with fail
              refine D1.out.mono ?_; rintro e w6 ⟨rfl, hb6⟩
              have HR6 := Lib.hid (HR.out w6 hb6)
              clear HR hb6 D1
              go_wp2_with fail
              refine bodyPost_ret (results_tmp3 rfl _ _ _) rfl ?_
              exact HR6.out

end Go.Proofs.Ytdnabeldaighgaa
