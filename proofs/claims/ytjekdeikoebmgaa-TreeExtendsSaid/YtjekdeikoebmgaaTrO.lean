/- The contract of CheckGrowth. Conditions: sizes. -/
import Derived.Test.YtjekdeikoebmgaaTrN
namespace Go.Proofs.Ytjekdeikoebmgaa
open Go.RowKit Go.Shelf Tr

/-- Both heads and the proof, in memory. -/
theorem three_new (w : World) (so sn : Int) (ro rn : List UInt8) (v : Value) :
    ∀ w3, w3 = ((w.alloc (.cells (hdrow so ro) 38)).alloc (.cells (hdrow sn rn) 38)).alloc (.cells #[v] 32) →
      Blk w3 w.heap.size (hdrow so ro) 38 ∧ Blk w3 (w.heap.size + 1) (hdrow sn rn) 38 ∧ Blk w3 (w.heap.size + 1 + 1) #[v] 32 ∧ Below w.heap.size w w3 ∧ w3.heap.size = w.heap.size + 3 := by
  rintro w3 rfl
  have a1 := ((Blk.new w (hdrow so ro) 38).alloc (.cells (hdrow sn rn) 38)).alloc (.cells #[v] 32)
  have a2 := (Blk.new (w.alloc (.cells (hdrow so ro) 38)) (hdrow sn rn) 38).alloc (.cells #[v] 32)
  have a3 := Blk.new ((w.alloc (.cells (hdrow so ro) 38)).alloc (.cells (hdrow sn rn) 38)) #[v] 32
  simp only [World.size_alloc] at a2 a3
  exact ⟨a1, a2, a3, (((Below.refl _ _).alloc (Nat.le_refl _) _).alloc (by simp) _).alloc (by simp; omega) _, by simp⟩

set_option maxRecDepth 100000 in
set_option maxHeartbeats 1000000 in
theorem cg_no (so sn : Int) (ro rn : List UInt8) (pa : Option Addr) (n cap : Nat) (w : World) (h : so < 0 ∨ sn < so) :
    Calls Try.prog 33 #[.agg (hdrow so ro), .agg (hdrow sn rn), .slice pa n cap] w fun e w' => e = .returned (.bool false) ∧ Below w.heap.size w w' := by
  obtain ⟨N0, N1, N2, hb, hsz⟩ := three_new w so sn ro rn (.slice pa n cap) _ rfl
  obtain ⟨b, hbe⟩ : ∃ b, w.heap.size = b := ⟨_, rfl⟩
  have hbw : w.heap.size ≤ b := by omega
  rw [hbe] at N0 N1 N2 hsz
  have c0 := N0.size_
  have c1 := N1.size_
  have c2 := N2.cell 0 (.slice pa n cap) rfl
  obtain ⟨RO, hRO⟩ : ∃ R, hdrow so ro = R := ⟨_, rfl⟩
  obtain ⟨RN, hRN⟩ : ∃ R, hdrow sn rn = R := ⟨_, rfl⟩
  have HRO := Lib.hid hRO
  have HRN := Lib.hid hRN
  rw [hRO] at N0 N1 N2 hb hsz c0 c1 c2 ⊢
  rw [hRN] at N0 N1 N2 hb hsz c0 c1 c2 ⊢
  clear hRO hRN
  go_enter Try.func33, Try.ntmps33
  go_upto_region 1 with (first
    | (refine wpList_box_row rfl 38 (.tmp 0) rfl RO rfl ?_; go_frame)
    | (refine wpList_box_row rfl 38 (.tmp 1) rfl RN rfl ?_; go_frame; try simp only [World.size_alloc]))
  rw [hbe]
  generalize ((w.alloc (.cells RO 38)).alloc (.cells RN 38)).alloc (.cells #[.slice pa n cap] 32) = w3 at *
  clear hbe
  clear N0 N1 N2 c2
  by_cases h0 : so < 0
  · have t : decide (so < 0) = true := decide_eq_true h0
    go_wp2_with fail
    go_ret
    exact ⟨rfl, hb⟩
  · have t : decide (so < 0) = false := decide_eq_false h0
    have t2 : decide (so > sn) = true := decide_eq_true (by omega)
    go_wp2_with fail
    go_ret
    exact ⟨rfl, hb⟩

set_option maxRecDepth 100000 in
set_option maxHeartbeats 1000000 in
theorem cg_eq (so sn : Int) (ro rn : List UInt8) (pa : Option Addr) (n cap : Nat) (w : World) (hr : ro.length = 32) (hr2 : rn.length = 32) (h0 : 0 ≤ so) (h : so = sn) :
    Calls Try.prog 33 #[.agg (hdrow so ro), .agg (hdrow sn rn), .slice pa n cap] w fun e w' => e = .returned (.bool (decide (n = 0) && ro == rn)) ∧ Below w.heap.size w w' := by
  subst h
  obtain ⟨N0, N1, N2, hb, hsz⟩ := three_new w so so ro rn (.slice pa n cap) _ rfl
  obtain ⟨b, hbe⟩ : ∃ b, w.heap.size = b := ⟨_, rfl⟩
  have hbw : w.heap.size ≤ b := by omega
  rw [hbe] at N0 N1 N2 hsz
  have c0 := N0.size_
  have c1 := N1.size_
  have c2 := N2.cell 0 (.slice pa n cap) rfl
  obtain ⟨RO, hRO⟩ : ∃ R, hdrow so ro = R := ⟨_, rfl⟩
  obtain ⟨RN, hRN⟩ : ∃ R, hdrow so rn = R := ⟨_, rfl⟩
  have HRO := Lib.hid hRO
  have HRN := Lib.hid hRN
  rw [hRO] at N0 N1 N2 hb hsz c0 c1 c2 ⊢
  rw [hRN] at N0 N1 N2 hb hsz c0 c1 c2 ⊢
  clear hRO hRN
  go_enter Try.func33, Try.ntmps33
  go_upto_region 1 with (first
    | (refine wpList_box_row rfl 38 (.tmp 0) rfl RO rfl ?_; go_frame)
    | (refine wpList_box_row rfl 38 (.tmp 1) rfl RN rfl ?_; go_frame; try simp only [World.size_alloc]))
  rw [hbe]
  generalize ((w.alloc (.cells RO 38)).alloc (.cells RN 38)).alloc (.cells #[.slice pa n cap] 32) = w3 at *
  clear hbe
  have t : decide (so < 0) = false := decide_eq_false (by omega)
  have t1 : ¬ so < 0 := by omega
  have t2 : decide (so > so) = false := decide_eq_false (by omega)
  have t3 : (so == so) = true := by simp
  have H0 := Lib.hid (Blk.root (HRO.out.symm ▸ N0))
  have H1 := Lib.hid (Blk.root (HRN.out.symm ▸ N1))
  have hq := fun w => run_eq_hash ro rn hr hr2 w
  clear N0 N1 N2
  by_cases hz0 : n = 0
  · have t4 : ((n : Int) == 0) = true := by rw [beq_iff_eq]; omega
    have HX := Lib.hid (show (decide (n = 0) && ro == rn) = (ro == rn) by rw [decide_eq_true hz0]; rfl)
    clear hz0
    go_wp2_with (first
      | (refine wpList_load_hashAt (by kernel_rfl) (.tmp 34) rfl b 1 rfl ro hr H0.out ?_; go_frame)
      | (refine wpList_load_hashAt (by kernel_rfl) (.tmp 36) rfl (b + 1) 1 rfl rn hr2 H1.out ?_; go_frame))
    go_ret
    exact ⟨by rw [HX.out]; rfl, hb⟩
  · have t4 : ((n : Int) == 0) = false := by rw [beq_eq_false_iff_ne]; omega
    have HX := Lib.hid (show (decide (n = 0) && ro == rn) = false by rw [decide_eq_false hz0]; rfl)
    clear hz0
    go_wp2_with fail
    go_ret
    exact ⟨by rw [HX.out]; rfl, hb⟩

set_option maxRecDepth 100000 in
set_option maxHeartbeats 1000000 in
theorem cg_zero (so sn : Int) (ro rn : List UInt8) (pa : Option Addr) (n cap : Nat) (w : World) (hr : ro.length = 32) (h0 : so = 0) (h : 0 < sn) :
    Calls Try.prog 33 #[.agg (hdrow so ro), .agg (hdrow sn rn), .slice pa n cap] w fun e w' => e = .returned (.bool (decide (n = 0) && ro == Sha.sum [])) ∧ Below w.heap.size w w' := by
  subst h0
  have hs32 := Sha.sum_length []
  have E1 := Lib.hid (fun w => Sum_any ⟨#[]⟩ (by decide) w)
  have e1 : (⟨#[]⟩ : ByteArray).data.toList = [] := rfl
  rw [e1] at E1
  clear e1
  generalize Sha.sum [] = z at *
  obtain ⟨N0, N1, N2, hb, hsz⟩ := three_new w 0 sn ro rn (.slice pa n cap) _ rfl
  obtain ⟨b, hbe⟩ : ∃ b, w.heap.size = b := ⟨_, rfl⟩
  have hbw : w.heap.size ≤ b := by omega
  rw [hbe] at N0 N1 N2 hsz
  have c0 := N0.size_
  have c1 := N1.size_
  have c2 := N2.cell 0 (.slice pa n cap) rfl
  obtain ⟨RO, hRO⟩ : ∃ R, hdrow 0 ro = R := ⟨_, rfl⟩
  obtain ⟨RN, hRN⟩ : ∃ R, hdrow sn rn = R := ⟨_, rfl⟩
  have HRO := Lib.hid hRO
  have HRN := Lib.hid hRN
  rw [hRO] at N0 N1 N2 hb hsz c0 c1 c2 ⊢
  rw [hRN] at N0 N1 N2 hb hsz c0 c1 c2 ⊢
  clear hRO hRN
  go_enter Try.func33, Try.ntmps33
  go_upto_region 1 with (first
    | (refine wpList_box_row rfl 38 (.tmp 0) rfl RO rfl ?_; go_frame)
    | (refine wpList_box_row rfl 38 (.tmp 1) rfl RN rfl ?_; go_frame; try simp only [World.size_alloc]))
  rw [hbe]
  generalize ((w.alloc (.cells RO 38)).alloc (.cells RN 38)).alloc (.cells #[.slice pa n cap] 32) = w3 at *
  clear hbe
  have t2 : decide ((0 : Int) > sn) = false := decide_eq_false (by omega)
  have t2' : ¬ sn < 0 := by omega
  have t3 : ((0 : Int) == sn) = false := by rw [beq_eq_false_iff_ne]; omega
  have H0 := Blk.root (HRO.out.symm ▸ N0)
  have hq := fun w => run_eq_hash ro z hr hs32 w
  have f0 : ∀ y : After w3, (loadVar 24 ⟨b, 1, none⟩).run Try.prog y.W = .ok (.agg (hrow ro)) y.W := fun y => load_hash _ _ _ ro hr (fun j v hv => keepCells y.hb _ _ (H0 j v hv))
  have f2 := After.cell c2
  clear N0 N1 N2 H0
  by_cases hz0 : n = 0
  · have t4 : ((n : Int) == 0) = true := by rw [beq_iff_eq]; omega
    have HX := Lib.hid (show (decide (n = 0) && ro == z) = (ro == z) by rw [decide_eq_true hz0]; rfl)
    clear hz0
    go_upto_region 6 with (fail)
    refine wp_region_after (by kernel_rfl) (by kernel_rfl) ?_
    repeat (first
      | (refine quiet_load_at 24 (.tmp 48) (by rfl) ⟨b, 1, none⟩ (by rfl) (hrow ro) f0 (by kernel_rfl) ?_; go_frame)
      | (go_big_quiet_step (with_reducible exact After.call (E1.out _))))
    refine wpQuiet_nil ?_
    rintro w5 ⟨x5, rfl⟩
    have hb := hb.trans (x5.hb.mono hb.size)
    go_wp2_with fail
    go_ret
    exact ⟨by rw [HX.out]; rfl, hb⟩
  · have t4 : ((n : Int) == 0) = false := by rw [beq_eq_false_iff_ne]; omega
    have HX := Lib.hid (show (decide (n = 0) && ro == z) = false by rw [decide_eq_false hz0]; rfl)
    clear hz0
    go_upto_region 6 with (fail)
    refine wp_region_after (by kernel_rfl) (by kernel_rfl) ?_
    repeat (go_big_quiet_step (fail))
    refine wpQuiet_nil ?_
    rintro w5 ⟨x5, rfl⟩
    have hb := hb.trans (x5.hb.mono hb.size)
    go_wp2_with fail
    go_ret
    exact ⟨by rw [HX.out]; rfl, hb⟩

set_option maxRecDepth 100000 in
set_option maxHeartbeats 1000000 in
theorem cg_mid (m z : Nat) (ro rn : List UInt8) (p : List (List UInt8)) (v : Value) (w : World) (hr : ro.length = 32) (hr2 : rn.length = 32) (h0 : 1 ≤ m) (h : m < z) (hz63 : z ≤ 9223372036854775807) (hn : p.length ≤ 4398046511104) (ha : All32 p) (hA : HArg w v p) :
    Calls Try.prog 33 #[.agg (hdrow (m : Int) ro), .agg (hdrow (z : Int) rn), v] w fun e w' => e = .returned (.bool (checkG m ro z rn p)) ∧ Below w.heap.size w w' := by
  have HCK := Lib.hid (walkP_check p ro rn m z h0 h)
  have HOK := Lib.hid (walkP_ok (p := p) (ro := ro) ha hr z m true 0 true (by omega))
  have WK := Lib.hid (fun b w1 (hb : w.heap.size ≤ b) (hG : CG w1 b (m : Int) ro v 0 true) (hB : Below w.heap.size w w1) => walk_any w b (m : Int) ro v p hA hb ha hn hr z z m true 0 true w1 (Nat.le_refl _) h0 (by omega) hz63 (by omega) hG hB)
  obtain ⟨pa, cap, rfl, hc, _⟩ := hA
  generalize walkP p ro m z true 0 true = r at *
  obtain ⟨n, hnn⟩ : ∃ n, p.length = n := ⟨_, rfl⟩
  rw [hnn] at WK HCK HOK hn hc
  rw [hnn]
  generalize checkG (m : Int) ro (z : Int) rn p = res at *
  clear hnn ha
  obtain ⟨N0, N1, N2, hb, hsz⟩ := three_new w (m : Int) (z : Int) ro rn (.slice pa n cap) _ rfl
  obtain ⟨b, hbe⟩ : ∃ b, w.heap.size = b := ⟨_, rfl⟩
  have hbw : w.heap.size ≤ b := by omega
  rw [hbe] at N0 N1 N2 hsz
  have c0 := N0.size_
  have c1 := N1.size_
  have c2 := N2.cell 0 (.slice pa n cap) rfl
  obtain ⟨RO, hRO⟩ : ∃ R, hdrow (m : Int) ro = R := ⟨_, rfl⟩
  obtain ⟨RN, hRN⟩ : ∃ R, hdrow (z : Int) rn = R := ⟨_, rfl⟩
  have HRO := Lib.hid hRO
  have HRN := Lib.hid hRN
  rw [hRO] at N0 N1 N2 hb hsz c0 c1 c2 ⊢
  rw [hRN] at N0 N1 N2 hb hsz c0 c1 c2 ⊢
  clear hRO hRN
  go_enter Try.func33, Try.ntmps33
  go_upto_region 1 with (first
    | (refine wpList_box_row rfl 38 (.tmp 0) rfl RO rfl ?_; go_frame)
    | (refine wpList_box_row rfl 38 (.tmp 1) rfl RN rfl ?_; go_frame; try simp only [World.size_alloc]))
  rw [hbe]
  generalize ((w.alloc (.cells RO 38)).alloc (.cells RN 38)).alloc (.cells #[.slice pa n cap] 32) = w3 at *
  clear hbe
  have t : decide ((m : Int) < 0) = false := decide_eq_false (by omega)
  have t2 : decide ((m : Int) > (z : Int)) = false := decide_eq_false (by omega)
  have t2' : ¬ ((z : Int) < (m : Int)) := by omega
  have t3 : ((m : Int) == (z : Int)) = false := by rw [beq_eq_false_iff_ne]; omega
  have t4 : ((m : Int) == 0) = false := by rw [beq_eq_false_iff_ne]; omega
  have A3 := (((Blk.new w3 #[.int .i64 ((0 : Nat) : Int)] 3).alloc (.cells #[.bool true] 4)).alloc (.cells #[takeF b] 76)).alloc (.cells #[walkF b] 77)
  have A4 := ((Blk.new (w3.alloc (.cells #[.int .i64 ((0 : Nat) : Int)] 3)) #[.bool true] 4).alloc (.cells #[takeF b] 76)).alloc (.cells #[walkF b] 77)
  have A5 := (Blk.new ((w3.alloc (.cells #[.int .i64 ((0 : Nat) : Int)] 3)).alloc (.cells #[.bool true] 4)) #[takeF b] 76).alloc (.cells #[walkF b] 77)
  have A6 := Blk.new (((w3.alloc (.cells #[.int .i64 ((0 : Nat) : Int)] 3)).alloc (.cells #[.bool true] 4)).alloc (.cells #[takeF b] 76)) #[walkF b] 77
  have A0 := (((N0.alloc (.cells #[.int .i64 ((0 : Nat) : Int)] 3)).alloc (.cells #[.bool true] 4)).alloc (.cells #[takeF b] 76)).alloc (.cells #[walkF b] 77)
  have A1 := (((N1.alloc (.cells #[.int .i64 ((0 : Nat) : Int)] 3)).alloc (.cells #[.bool true] 4)).alloc (.cells #[takeF b] 76)).alloc (.cells #[walkF b] 77)
  have A2 := (((N2.alloc (.cells #[.int .i64 ((0 : Nat) : Int)] 3)).alloc (.cells #[.bool true] 4)).alloc (.cells #[takeF b] 76)).alloc (.cells #[walkF b] 77)
  have hB7 := (((hb.alloc hb.size (.cells #[.int .i64 ((0 : Nat) : Int)] 3)).alloc (by simp; have := hb.size; omega) (.cells #[.bool true] 4)).alloc (by simp; have := hb.size; omega) (.cells #[takeF b] 76)).alloc (by simp; have := hb.size; omega) (.cells #[walkF b] 77)
  simp only [World.size_alloc, hsz] at A3 A4 A5 A6
  rw [← HRO.out] at A0
  have HG7 := Lib.hid (CG.mk A0 A2 A3 A4 A5 A6 : CG _ b (m : Int) ro (.slice pa n cap) 0 true)
  have HA1 := Lib.hid A1
  have HB7 := Lib.hid hB7
  clear A0 A1 A2 A3 A4 A5 A6 hB7 N0 N1 N2
  go_upto_region 12 with (fail)
  obtain ⟨w7, hw7⟩ : ∃ w7, (((w3.alloc (.cells #[.int .i64 ((0 : Nat) : Int)] 3)).alloc (.cells #[.bool true] 4)).alloc (.cells #[takeF b] 76)).alloc (.cells #[walkF b] 77) = w7 := ⟨_, rfl⟩
  rw [hw7] at HG7 HA1 HB7
  have hw8 : (((w3.alloc (.cells #[.int .i64 0] 3)).alloc (.cells #[.bool true] 4)).alloc (.cells #[.func (.func 48) #[] #[.pointer (some ⟨b + 3 + 1, 0, none⟩), .pointer (some ⟨b + 3, 0, none⟩), .pointer (some ⟨b + 1 + 1, 0, none⟩)]] 76)).alloc (.cells #[.func (.func 49) #[] #[.pointer (some ⟨b, 0, none⟩), .pointer (some ⟨b + 3 + 1 + 1, 0, none⟩), .pointer (some ⟨b + 3 + 1 + 1 + 1, 0, none⟩)]] 77) = w7 := hw7
  rw [hw8]
  clear hw7 hw8 c0 c1 c2 hsz hb
  have c0 := (HRO.out ▸ HG7.out.old : Blk w7 b RO 38).cell 0 (.int .i64 (m : Int)) (by rw [← HRO.out]; rfl)
  have c1 := HA1.out.cell 0 (.int .i64 (z : Int)) (by rw [← HRN.out]; rfl)
  have cw : w7.cell? ⟨b + 3 + 1 + 1 + 1, 0, none⟩ = some (walkF b) := HG7.out.wk.cell 0 _ rfl
  have WR := Lib.hid (WK.out b w7 hbw HG7.out HB7.out)
  clear WK
  obtain ⟨⟨x, y⟩, k', ok'⟩ := r
  go_wp2_with fail
  refine (WR.out).mono ?_
  rintro e w8 ⟨rfl, HG, hk2⟩
  obtain ⟨hx, hy, hk'⟩ := HOK.out
  have HG8 : CG w8 b (m : Int) ro (.slice pa n cap) k' ok' := HG
  have hB8 := HB7.out.trans (hk2.below hbw (by have := HG7.out.old.lt; omega))
  have N1 := HA1.out.g2 hk2 (by omega) (by omega)
  obtain ⟨M9, M10, hb2⟩ := two_new w8
  have hlt := HG8.wk.lt
  have HGa := HG8.of hb2
  have N1a := N1.below hb2 N1.lt
  have hBa := hB8.trans (hb2.mono hB8.size)
  have hws := hB8.size
  obtain ⟨s, hs⟩ : ∃ s, w8.heap.size = s := ⟨_, rfl⟩
  rw [hs] at M9 M10 hlt hws
  have M10a := M10.rowOther (hrow x) (show s + 1 ≠ s by omega)
  have R9 := Lib.hid ((M9.row (hrow x)).rowOther (hrow y) (show s ≠ s + 1 by omega))
  have R10 := Lib.hid (M10a.row (hrow y))
  have HG9 := Lib.hid ((HGa.setRow s hlt (hrow x)).setRow (s + 1) (by omega) (hrow y))
  have HN1 := Lib.hid ((N1a.rowOther (hrow x) (show b + 1 ≠ s by omega)).rowOther (hrow y) (show b + 1 ≠ s + 1 by omega))
  have HB9 := Lib.hid (Below.setRow (Below.setRow hBa (show w.heap.size ≤ s by omega) (hrow x)) (show w.heap.size ≤ s + 1 by omega) (hrow y))
  have H9 := Lib.hid M9
  have H10 := Lib.hid M10a
  have HL0 := Lib.hid hz_len
  have HC : Hid ((ok' && decide (k' = n) && x == ro && y == rn) = res) := HCK
  clear HG HG8 hB8 N1 M9 M10 hb2 HGa N1a hBa M10a HB7 HG7 HA1 hk2 WR HOK HCK c0 c1 cw
  go_upto_region 13 with (first
    | (refine wpList_alloc_hash rfl rfl ?_; go_frame; try simp only [World.size_alloc])
    | (refine wpList_store_hash rfl (.tmp 11) (.tmp 62) rfl w8.heap.size x hx rfl rfl hz (hs.symm ▸ H9.out) HL0.out ?_; go_frame)
    | (refine wpList_store_hash rfl (.tmp 12) (.tmp 63) rfl (w8.heap.size + 1) y hy rfl rfl hz (hs.symm ▸ H10.out) HL0.out ?_; go_frame))
  rw [hs]
  clear hs H9 H10 HL0
  generalize (((w8.alloc (.cells hz 24)).alloc (.cells hz 24)).setRow s (hrow x)).setRow (s + 1) (hrow y) = w9 at *
  have hB9 := HB9.out
  have ck : w9.cell? ⟨b + 3 + 1, 0, none⟩ = some (.bool ok') := HG9.out.okc.cell 0 _ rfl
  have ca : w9.cell? ⟨b + 3, 0, none⟩ = some (.int .i64 (k' : Int)) := HG9.out.at_.cell 0 _ rfl
  have cp : w9.cell? ⟨b + 1 + 1, 0, none⟩ = some (.slice pa n cap) := HG9.out.prf.cell 0 _ rfl
  have HR0 := Lib.hid (Blk.root HG9.out.old)
  have HR1 : Hid (w9.rangeAt (b + 1) 1 (rn.map Y)) := Blk.root (HRN.out.symm ▸ HN1.out)
  clear HG9 HN1 HB9
  cases ok' with
  | false =>
    have HE : Hid (res = false) := HC.out.symm
    clear HC
    go_wp2_with fail
    go_ret
    exact ⟨by rw [HE.out]; rfl, hB9⟩
  | true =>
    by_cases hkn : k' = n
    · have q1 : ((k' : Int) == (n : Int)) = true := by rw [beq_iff_eq]; omega
      have hq1 := fun w => run_eq_hash x ro hx hr w
      by_cases hxr : x = ro
      · have e1 : (x == ro) = true := by simpa using hxr
        have HE : Hid (res = (y == rn)) := by
          have := HC.out
          rw [decide_eq_true hkn, e1] at this
          exact this.symm
        rw [e1] at hq1
        have hq2 := fun w => run_eq_hash y rn hy hr2 w
        clear HC hkn hxr e1
        go_wp2_with (first | (refine wpList_load_hash (by kernel_rfl) (.tmp 11) rfl s rfl x hx R9.out ?_; go_frame) | (refine wpList_load_hashAt (by kernel_rfl) (.tmp 73) rfl b 1 rfl ro hr HR0.out ?_; go_frame) | (refine wpList_load_hash (by kernel_rfl) (.tmp 12) rfl (s + 1) rfl y hy R10.out ?_; go_frame) | (refine wpList_load_hashAt (by kernel_rfl) (.tmp 79) rfl (b + 1) 1 rfl rn hr2 HR1.out ?_; go_frame))
        go_ret
        exact ⟨by rw [HE.out]; rfl, hB9⟩
      · have e1 : (x == ro) = false := by simpa using hxr
        have HE : Hid (res = false) := by
          have := HC.out
          rw [e1, Bool.and_false] at this
          exact this.symm
        rw [e1] at hq1
        clear HC hkn hxr e1
        go_wp2_with (first | (refine wpList_load_hash (by kernel_rfl) (.tmp 11) rfl s rfl x hx R9.out ?_; go_frame) | (refine wpList_load_hashAt (by kernel_rfl) (.tmp 73) rfl b 1 rfl ro hr HR0.out ?_; go_frame))
        go_ret
        exact ⟨by rw [HE.out]; rfl, hB9⟩
    · have q1 : ((k' : Int) == (n : Int)) = false := by rw [beq_eq_false_iff_ne]; omega
      have HE : Hid (res = false) := by
        have := HC.out
        rw [decide_eq_false hkn] at this
        exact this.symm
      clear HC hkn
      go_wp2_with fail
      go_ret
      exact ⟨by rw [HE.out]; rfl, hB9⟩
theorem CheckGrowth_q (so sn : Int) (ro rn : List UInt8) (p : List (List UInt8)) (v : Value) (w : World) (hr : ro.length = 32) (hr2 : rn.length = 32) (hz63 : sn ≤ 9223372036854775807) (hn : p.length ≤ 4398046511104) (ha : All32 p) (hA : HArg w v p) :
    Calls Try.prog 33 #[.agg (hdrow so ro), .agg (hdrow sn rn), v] w fun e w' => e = .returned (.bool (checkG so ro sn rn p)) ∧ Below w.heap.size w w' := by
  have hA0 := hA
  obtain ⟨pa, cap, rfl, hc, _⟩ := hA
  have hp : p.isEmpty = decide (p.length = 0) := by cases p <;> simp
  by_cases h1 : so < 0 ∨ sn < so
  · rw [show checkG so ro sn rn p = false by unfold checkG; rw [if_pos h1]]
    exact cg_no so sn ro rn pa _ cap w h1
  by_cases h2 : so = sn
  · rw [show checkG so ro sn rn p = (decide (p.length = 0) && ro == rn) by unfold checkG; rw [if_neg h1, if_pos h2, hp]]
    exact cg_eq so sn ro rn pa _ cap w hr hr2 (by omega) h2
  by_cases h3 : so = 0
  · rw [show checkG so ro sn rn p = (decide (p.length = 0) && ro == Sha.sum []) by unfold checkG; rw [if_neg h1, if_neg h2, if_pos h3, hp]]
    exact cg_zero so sn ro rn pa _ cap w hr h3 (by omega)
  obtain ⟨m, rfl⟩ := Int.eq_ofNat_of_zero_le (show 0 ≤ so by omega)
  obtain ⟨z, rfl⟩ := Int.eq_ofNat_of_zero_le (show 0 ≤ sn by omega)
  exact cg_mid m z ro rn p _ w hr hr2 (by omega) (by omega) (by omega) hn ha hA0
end Go.Proofs.Ytjekdeikoebmgaa
