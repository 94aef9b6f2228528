/- The contract of CheckPath. Conditions: sizes. -/
import Derived.Test.YtjekdeikoebmgaaHead
import Derived.Test.YtjekdeikoebmgaaTrW
namespace Go.Proofs.Ytjekdeikoebmgaa
open Go.RowKit Go.Shelf Tr

theorem hdrow_at (n : Int) (x : List UInt8) (j : Nat) (v : Value) (h : (x.map Y)[j]? = some v) : (hdrow n x)[1 + j]? = some v := by
  unfold hdrow
  rw [Nat.add_comm]
  simpa using h
/-- The root of a head that lies in a block. -/
theorem Blk.root {w : World} {b : Nat} {n : Int} {x : List UInt8} (h : Blk w b (hdrow n x) 38) : w.rangeAt b 1 (x.map Y) := fun j v hv => h.cell (1 + j) v (hdrow_at n x j v hv)
theorem Blk.size_ {w : World} {b : Nat} {n : Int} {x : List UInt8} (h : Blk w b (hdrow n x) 38) : w.cell? ⟨b, 0, none⟩ = some (.int .i64 n) := h.cell 0 _ rfl
theorem wpList_load_hashAt {ops : Array Oper} {rest : List Oper} {o : Oper} {a : Act} {w : World} {Q : Exit → Act → World → Prop} (hw : Region.wanted o (yielded ops a.tmps) = true) (x : Operand) (ho : o.op = .load 24 x)
    (g off : Nat) (hx : a.eval x = .pointer (some ⟨g, off, none⟩)) (y : List UInt8) (hy : y.length = 32) (N : w.rangeAt g off (y.map Y)) (h : wpList Try.prog ops Q rest (a.put o.dst (.agg (hrow y))) w) : wpList Try.prog ops Q (o :: rest) a w := by
  refine wpList_wanted hw fun K hK => ?_
  unfold Oper.wp execOp
  simp only [ho, hx, Instr.loadAt, Instr.sureAddr, Sem.run_bind, Sem.run_pure, Result.andThen_ok, load_hash w g off y hy N]
  exact hK _ _ h
/-- The steps of a row. -/
def BAt (w : World) (g : Nat) (bs : List Bool) : Prop := ∀ (j : Nat) (b : Bool), bs[j]? = some b → w.cell? ⟨g, j, none⟩ = some (.bool b)
theorem up_take (x : List UInt8) (bs : List Bool) (p : List (List UInt8)) (k : Nat) (b : Bool) (h : List UInt8) (hb : bs[k]? = some b) (hp : p[k]? = some h) : up x (bs.take (k + 1)) (p.take (k + 1)) = Tr.step (up x (bs.take k) (p.take k)) b h := by
  have h1 := (List.getElem?_eq_some_iff.1 hb).1
  have h2 := (List.getElem?_eq_some_iff.1 hp).1
  rw [List.take_add_one, List.take_add_one, hb, hp]
  exact up_snoc (bs.take k) (p.take k) x b h (by simp; omega)

set_option maxRecDepth 100000 in
set_option maxHeartbeats 1000000 in
theorem CheckPath_no (size n : Int) (rt s : List UInt8) (v : Value) (w : World) (h : n < 0 ∨ size ≤ n) :
    Calls Try.prog 24 #[.agg (hdrow size rt), .int .i64 n, S s, v] w fun e w' => e = .returned (.bool false) ∧ Below w.heap.size w w' := by
  have hB := (Below.refl w.heap.size w).alloc (Nat.le_refl _) (.cells (hdrow size rt) 38)
  have c0 := (Blk.new w (hdrow size rt) 38).size_
  generalize hdrow size rt = R at *
  by_cases h0 : n < 0
  · have t : decide (n < 0) = true := decide_eq_true h0
    go_enter Try.func24, Try.ntmps24
    go_wp2_with (refine wpList_box_row rfl 38 (.tmp 0) rfl R rfl ?_; go_frame)
    go_ret
    exact ⟨rfl, hB⟩
  · have t : decide (n < 0) = false := decide_eq_false h0
    have h1 : size ≤ n := by omega
    have t2 : decide (n ≥ size) = true := decide_eq_true h1
    go_enter Try.func24, Try.ntmps24
    go_wp2_with (refine wpList_box_row rfl 38 (.tmp 0) rfl R rfl ?_; go_frame)
    go_ret
    exact ⟨rfl, hB⟩

set_option maxRecDepth 100000 in
set_option maxHeartbeats 1000000 in
theorem CheckPath_yes (size n : Nat) (rt s : List UInt8) (p : List (List UInt8)) (v : Value) (w : World) (hr : rt.length = 32) (hs : s.length ≤ 140737488354000) (ha : All32 p) (hpl : p.length ≤ 4398046511104) (hn : n < size) (hsz : size ≤ 9223372036854775807) (hP : HArg w v p) :
    Calls Try.prog 24 #[.agg (hdrow size rt), .int .i64 n, S s, v] w fun e w' => e = .returned (.bool (checkP size rt n s p)) ∧ Below w.heap.size w w' := by
  obtain ⟨pa, cap, rfl, hc, hP⟩ := hP
  have hB := (Below.refl w.heap.size w).alloc (Nat.le_refl _) (.cells (hdrow size rt) 38)
  have HD := Lib.hid (Blk.new w (hdrow size rt) 38)
  have c0 := (Blk.new w (hdrow size rt) 38).size_
  have hck : checkP size rt n s p = if (way n size).length = p.length then up (leaf s) (way n size) p == rt else false := by
    unfold checkP
    rw [if_neg (by omega)]; rfl
  obtain ⟨r, hrr⟩ : ∃ r, checkP size rt n s p = r := ⟨_, rfl⟩
  rw [hrr]
  rw [hck] at hrr
  have HRes := Lib.hid hrr
  have hw63 := way_le 63 n size (by omega)
  have W1 := Lib.hid (fun w => way_any n size hn hsz w)
  have L1 := Lib.hid (fun w => Leaf_any s hs w)
  have hx0 := leaf_length s
  have HR := Lib.hid hr
  have HA := Lib.hid ha
  have HP := Lib.hid hP
  clear hck ha hP hr hrr
  have t1 : decide ((n : Int) < 0) = false := decide_eq_false (by omega)
  have t2 : decide ((n : Int) ≥ (size : Int)) = false := decide_eq_false (by omega)
  have t3 : ¬ ((size : Int) ≤ (n : Int)) := by omega
  generalize way n size = bs at *
  generalize leaf s = x0 at *
  obtain ⟨R, hRR⟩ : ∃ R, hdrow (size : Int) rt = R := ⟨_, rfl⟩
  have HRR := Lib.hid hRR
  rw [hRR] at hB HD c0 ⊢
  clear hRR
  go_enter Try.func24, Try.ntmps24
  go_wp2_with (refine wpList_box_row rfl 38 (.tmp 0) rfl R rfl ?_; go_frame)
  refine (W1.out _).mono ?_; rintro e w1 ⟨v1, rfl, hO, hb1⟩
  have hB := hB.trans (hb1.mono hB.size)
  have HD := Lib.hid (HD.out.below hb1 (by simp))
  have hvl : ∃ a1 c1, v1 = .slice a1 bs.length c1 ∧ (bs ≠ [] → ∃ g, a1 = some ⟨g, 0, none⟩ ∧ g < w1.heap.size ∧ BAt w1 g bs) := by
    rcases hO with ⟨rfl, hz, _⟩ | ⟨gg, cc, rfl, z1, z2, z3⟩
    · exact ⟨none, 0, by rw [hz], fun h => absurd (List.length_eq_zero_iff.1 hz) h⟩
    · exact ⟨_, cc, rfl, fun _ => ⟨gg, rfl, z3.lt, fun j b hj => by
        have := z3.cells j _ (bcells_get hj)
        rwa [Nat.zero_add] at this⟩⟩
  obtain ⟨a1, c1, rfl, hV⟩ := hvl
  clear hO hb1 W1 c0
  by_cases hl : bs.length = p.length
  · have q1 : ((bs.length : Int) != (p.length : Int)) = false := by rw [bne_eq_false_iff_eq]; omega
    have HL := Lib.hid hl
    have HRes : Hid (r = (up x0 bs p == rt)) := by
      have := HRes.out
      rw [if_pos hl] at this
      exact this.symm
    have hlp : bs.length ≤ p.length := by omega
    clear hl
    go_wp2_with fail
    refine (L1.out _).mono ?_; rintro e w2 ⟨rfl, hb2⟩
    have hB := hB.trans (hb2.mono hB.size)
    have HD := Lib.hid (HD.out.below hb2 HD.out.lt)
    have hV2 : bs ≠ [] → ∃ g, a1 = some ⟨g, 0, none⟩ ∧ g < w2.heap.size ∧ BAt w2 g bs := fun h => by
      obtain ⟨g, h1, h2, h3⟩ := hV h
      exact ⟨g, h1, Nat.lt_of_lt_of_le h2 hb2.size, fun j b hj => keepCells hb2 _ _ (h3 j b hj)⟩
    have HV := Lib.hid hV2
    have hwX := HD.out.lt
    have HZ := Lib.hid (fun w' (h : w' = w2.alloc (.cells hz 24)) => (h ▸ Blk.new w2 hz 24 : Blk w' w2.heap.size hz 24))
    have HL0 := Lib.hid hz_len
    have hX0 := Blk.new w2 (hrow x0) 24
    have hBa := hB.alloc hB.size (.cells (hrow x0) 24)
    have HDa := HD.out.alloc (.cells (hrow x0) 24)
    clear hV hV2 hb2 L1
    go_upto_region 7 with (first
      | (refine wpList_alloc_hash rfl rfl ?_; go_frame; try simp only [World.size_alloc])
      | (refine wpList_store_hash rfl (.tmp 10) (.tmp 31) rfl w2.heap.size x0 hx0 rfl rfl hz (HZ.out _ rfl) HL0.out ?_; go_frame; rw [Blk.fresh]))
    obtain ⟨X, hXX⟩ : ∃ X, w2.heap.size = X := ⟨_, rfl⟩
    have HV : Hid (bs ≠ [] → ∃ g, a1 = some ⟨g, 0, none⟩ ∧ g < X ∧ BAt (w2.alloc (.cells (hrow x0) 24)) g bs) := fun h => by
      obtain ⟨g, h1, h2, h3⟩ := HV.out h
      exact ⟨g, h1, by omega, fun j b hj => keepCells ((Below.refl _ _).alloc (Nat.le_refl _) _) _ _ (h3 j b hj)⟩
    rw [hXX] at hX0 hwX ⊢
    clear hXX HZ HD
    generalize w2.alloc (.cells (hrow x0) 24) = w3 at *
    go_wp2_with fail
    go_loopw [34] (fun i wr => ∃ (k : Nat) (x : List UInt8), k ≤ bs.length ∧ i = .int .i64 k ∧ x.length = 32 ∧ Hid (up x0 (bs.take k) (p.take k) = x) ∧ Blk wr X (hrow x) 24 ∧ Blk wr w.heap.size R 38 ∧ Below w.heap.size w wr ∧ Hid (bs ≠ [] → ∃ g, a1 = some ⟨g, 0, none⟩ ∧ g < X ∧ BAt wr g bs)) (fun i _ => bs.length - (intOf i).toNat)
    case atStart => exact ⟨0, x0, by omega, rfl, hx0, rfl, hX0, HDa, hBa, HV⟩
    case round =>
      clear hX0 HDa hBa HV
      obtain ⟨k, x, hk, rfl, hx, HU, hX, hD, hB, HV⟩ := hrel
      by_cases hlt : k < bs.length
      · obtain ⟨b, hb⟩ : ∃ b, bs[k]? = some b := ⟨bs[k]'hlt, List.getElem?_eq_getElem _⟩
        obtain ⟨h, hh⟩ : ∃ h, p[k]? = some h := ⟨p[k]'(by omega), List.getElem?_eq_getElem _⟩
        obtain ⟨g, rfl, hgX, hBA⟩ := HV.out (by rintro rfl; simp at hlt)
        obtain ⟨ga, oa, rfl, hAt⟩ := HP.out (by rintro rfl; simp at hh)
        have cst := hBA k b hb
        have hld := load_step wr g k b cst
        have h32 := HA.out h (List.mem_of_getElem? hh)
        have HS := Lib.hid (up_take x0 bs p k b h hb hh)
        rw [HU.out] at HS
        have hAw := hAt.below hB
        have HE := Lib.hid (hAw.elem HA.out k h hh)
        have HBA := Lib.hid hBA
        have k1 : (k : Int) < (bs.length : Int) := by omega
        clear hb hh hBA hAt hAw HU
        have hX4 := hX.alloc (.cells #[.bool b] 68)
        have hD4 := hD.alloc (.cells #[.bool b] 68)
        have hB4 := hB.alloc hB.size (.cells #[.bool b] 68)
        have HB4 : Hid (BAt (wr.alloc (.cells #[.bool b] 68)) g bs) := fun j b' hj => keepCells ((Below.refl _ _).alloc (Nat.le_refl _) _) _ _ (HBA.out j b' hj)
        have fx := After.hash hX4 hx
        have fh : ∀ y : After (wr.alloc (.cells #[.bool b] 68)), (loadVar 24 ⟨ga, oa + k * 32, none⟩).run Try.prog y.W = .ok (.agg (hrow h)) y.W := fun y => by
          rw [show oa + k * 32 = oa + 32 * k by omega]
          exact load_hash _ _ _ h h32 (fun j v hv => keepCells y.hb _ _ (keepCells ((Below.refl _ _).alloc (Nat.le_refl _) _) _ _ (HE.out j v hv)))
        have k2 : (k : Int) < (p.length : Int) := by omega
        clear HE HBA hX hD hB
        cases b with
        | true =>
          have E1 := Lib.hid (fun w => Node_any _ _ h32 hx w)
          rw [show Tr.step x true h = node h x from rfl] at HS
          have hxn := node_length h x
          generalize node h x = x' at *
          go_wp2_with fail
          generalize wr.alloc (.cells #[.bool true] 68) = w4 at *
          refine wp_region_after_tail 6 (by kernel_rfl) (by kernel_rfl) (by kernel_rfl) (by kernel_rfl) ?_
          simp only [List.take_succ_cons, List.take_zero, List.drop_succ_cons, List.drop_zero]
          repeat (first
            | (refine quiet_load_at 24 (.tmp 10) (by rfl) ⟨X, 0, none⟩ (by rfl) (hrow x) fx (by kernel_rfl) ?_; go_frame)
            | (refine quiet_load_at 24 (.tmp 43) (by rfl) ⟨ga, oa + k * 32, none⟩ (by rfl) (hrow h) fh (by kernel_rfl) ?_; go_frame)
            | (go_big_quiet_step (with_reducible exact After.call (E1.out _))))
          refine wpQuiet_nil ?_
          rintro w5 ⟨x5, rfl⟩
          have hb5 := x5.hb
          have N5 := hX4.below hb5 hX4.lt
          have D5 := hD4.below hb5 hD4.lt
          have hB5 := hB4.trans (hb5.mono hB4.size)
          have V5 : Hid (bs ≠ [] → ∃ g', some (⟨g, 0, none⟩ : Addr) = some ⟨g', 0, none⟩ ∧ g' < X ∧ BAt (x5.W.setRow X (hrow x')) g' bs) := fun _ => ⟨g, rfl, hgX, fun j b hj => by
            have := keepCells hb5 _ _ (HB4.out j b hj)
            rw [World.cell?_of_block (w := x5.W) (a := ⟨g, j, none⟩) (setRow_other _ _ _ _ (by show g ≠ X; omega))]
            exact this⟩
          have N5' := Lib.hid N5
          have R5 := N5.row (hrow x')
          have D5' := D5.rowOther (hrow x') (show w.heap.size ≠ X by omega)
          have hB5' := Below.setRow hB5 (Nat.le_of_lt hwX) (hrow x')
          have hxs := hrow_size hx
          have Hxs := Lib.hid hxs
          clear fx fh hX4 hD4 hB4 HB4 N5 D5 hB5 hxs
          generalize x5.W = w5 at *
          go_wp2_with (refine wpList_store_hash rfl (.tmp 10) (.tmp 46) rfl X x' hxn (by rfl) (by rfl) (hrow x) N5'.out Hxs.out ?_; go_frame)
          go_roundw
          case rel => exact ⟨k + 1, x', by omega, by go_num, hxn, HS.out, R5, D5', hB5', V5⟩
          case measure => simp [intOf]; omega
        | false =>
          have E1 := Lib.hid (fun w => Node_any _ _ hx h32 w)
          rw [show Tr.step x false h = node x h from rfl] at HS
          have hxn := node_length x h
          generalize node x h = x' at *
          go_wp2_with fail
          generalize wr.alloc (.cells #[.bool false] 68) = w4 at *
          refine wp_region_after_tail 6 (by kernel_rfl) (by kernel_rfl) (by kernel_rfl) (by kernel_rfl) ?_
          simp only [List.take_succ_cons, List.take_zero, List.drop_succ_cons, List.drop_zero]
          repeat (first
            | (refine quiet_load_at 24 (.tmp 10) (by rfl) ⟨X, 0, none⟩ (by rfl) (hrow x) fx (by kernel_rfl) ?_; go_frame)
            | (refine quiet_load_at 24 (.tmp 50) (by rfl) ⟨ga, oa + k * 32, none⟩ (by rfl) (hrow h) fh (by kernel_rfl) ?_; go_frame)
            | (go_big_quiet_step (with_reducible exact After.call (E1.out _))))
          refine wpQuiet_nil ?_
          rintro w5 ⟨x5, rfl⟩
          have hb5 := x5.hb
          have N5 := hX4.below hb5 hX4.lt
          have D5 := hD4.below hb5 hD4.lt
          have hB5 := hB4.trans (hb5.mono hB4.size)
          have V5 : Hid (bs ≠ [] → ∃ g', some (⟨g, 0, none⟩ : Addr) = some ⟨g', 0, none⟩ ∧ g' < X ∧ BAt (x5.W.setRow X (hrow x')) g' bs) := fun _ => ⟨g, rfl, hgX, fun j b hj => by
            have := keepCells hb5 _ _ (HB4.out j b hj)
            rw [World.cell?_of_block (w := x5.W) (a := ⟨g, j, none⟩) (setRow_other _ _ _ _ (by show g ≠ X; omega))]
            exact this⟩
          have N5' := Lib.hid N5
          have R5 := N5.row (hrow x')
          have D5' := D5.rowOther (hrow x') (show w.heap.size ≠ X by omega)
          have hB5' := Below.setRow hB5 (Nat.le_of_lt hwX) (hrow x')
          have hxs := hrow_size hx
          have Hxs := Lib.hid hxs
          clear fx fh hX4 hD4 hB4 HB4 N5 D5 hB5 hxs
          generalize x5.W = w5 at *
          go_wp2_with (refine wpList_store_hash rfl (.tmp 10) (.tmp 52) rfl X x' hxn (by rfl) (by rfl) (hrow x) N5'.out Hxs.out ?_; go_frame)
          go_roundw
          case rel => exact ⟨k + 1, x', by omega, by go_num, hxn, HS.out, R5, D5', hB5', V5⟩
          case measure => simp [intOf]; omega
      · have HE : Hid (r = (x == rt)) := by
          show _ = _
          rw [HRes.out, ← HU.out, List.take_of_length_le (by omega), List.take_of_length_le (by have := HL.out; omega)]
        have k1 : ¬ ((k : Int) < (bs.length : Int)) := by omega
        have hrt := HR.out
        have hq := fun w => run_eq_hash x rt hx hrt w
        have hRt : Hid (wr.rangeAt w.heap.size 1 (rt.map Y)) := fun j v hv => by
          have := HRR.out
          rw [← this] at hD
          exact Blk.root hD j v hv
        have HX := Lib.hid hX
        clear HU HRes hX hD
        go_wp2_with (first
          | (refine wpList_load_hash (by kernel_rfl) (.tmp 10) rfl X rfl x hx HX.out ?_; go_frame)
          | (refine wpList_load_hashAt (by kernel_rfl) (.tmp 55) rfl w.heap.size 1 rfl rt hrt hRt.out ?_; go_frame))
        go_ret
        exact ⟨by rw [HE.out]; rfl, hB⟩
  · have q1 : ((bs.length : Int) != (p.length : Int)) = true := by rw [bne_iff_ne]; omega
    have HRes : Hid (r = false) := by
      have := HRes.out
      rw [if_neg hl] at this
      exact this.symm
    clear hl
    go_wp2_with fail
    go_ret
    exact ⟨by rw [HRes.out]; rfl, hB⟩
end Go.Proofs.Ytjekdeikoebmgaa
