/- The contracts of the reference's both and CheckGrowth. Conditions: sizes. -/
import Derived.Test.YtjekdeikoebmgaaRefJ
namespace Go.Proofs.Ytjekdeikoebmgaa
open Go.RowKit Go.Shelf Tr

theorem three_h (w : World) (x : List UInt8) : Blk (((w.alloc (.cells (hrow x) 24)).alloc (.cells hz 24)).alloc (.cells hz 24)) w.heap.size (hrow x) 24 ∧ Blk (((w.alloc (.cells (hrow x) 24)).alloc (.cells hz 24)).alloc (.cells hz 24)) (w.heap.size + 1) hz 24 ∧
    Blk (((w.alloc (.cells (hrow x) 24)).alloc (.cells hz 24)).alloc (.cells hz 24)) (w.heap.size + 2) hz 24 ∧ Below w.heap.size w (((w.alloc (.cells (hrow x) 24)).alloc (.cells hz 24)).alloc (.cells hz 24)) ∧ (((w.alloc (.cells (hrow x) 24)).alloc (.cells hz 24)).alloc (.cells hz 24)).heap.size = w.heap.size + 3 := by
  have a1 := ((Blk.new w (hrow x) 24).alloc (.cells hz 24)).alloc (.cells hz 24)
  have a2 := (Blk.new (w.alloc (.cells (hrow x) 24)) hz 24).alloc (.cells hz 24)
  have a3 := Blk.new ((w.alloc (.cells (hrow x) 24)).alloc (.cells hz 24)) hz 24
  simp only [World.size_alloc] at a2 a3
  exact ⟨a1, a2, a3, (((Below.refl _ _).alloc (Nat.le_refl _) _).alloc (by simp) _).alloc (by simp; omega) _, by simp⟩

set_option maxRecDepth 100000 in
set_option maxHeartbeats 1000000 in
theorem both_one (n m : Nat) (old : List UInt8) (v : Value) (w : World) (hmn : m = n) (hold : old.length = 32) :
    Calls Try.prog 51 #[.int .i64 m, .int .i64 n, .bool true, .agg (hrow old), v] w fun e w' => e = .returned (.tuple #[.agg (hrow old), .agg (hrow old)]) ∧ Below w.heap.size w w' := by
  have e0 : ((m : Int) == (n : Int)) = true := by rw [beq_iff_eq]; omega
  clear hmn
  obtain ⟨N8, N9, N10, hb0, hsz0⟩ := three_h w old
  obtain ⟨s, hs⟩ : ∃ s, w.heap.size = s := ⟨_, rfl⟩
  have hsw : w.heap.size ≤ s := by omega
  rw [hs] at N8 N9 N10 hsz0
  go_enter Try.func51, Try.ntmps51
  go_upto_region 1 with (first
    | (refine wpList_box_row rfl 24 (.tmp 3) rfl (hrow old) rfl ?_; go_frame)
    | (refine wpList_alloc_hash rfl rfl ?_; go_frame; try simp only [World.size_alloc]))
  rw [hs]
  generalize ((w.alloc (.cells (hrow old) 24)).alloc (.cells hz 24)).alloc (.cells hz 24) = w1 at *
  clear hs
  go_upto_region 3 with (fail)
  refine bo_r3 _ _ _ _ _ _ _ _ _ _ _ _ _ _ _ _ _ _ _ _ _ _ _ _ _ _ _ _ _ _ _ _ _ _ _ _ _ _ _ _ _ _ _ _ _ _ _ _ _ _ _ _ _ _ _ _ _ _ _ _ _ _ _ _ _ _ _ _ _ _ _ _ _ _ _ w.heap.size s old w w1 hsw hb0 hold N8 N9 N10 _ ?_
  intro y23 y24 w2 M9 M10 hB
  go_wp2_with fail
  refine bodyPost_ret (v := .tuple #[.agg (hrow old), .agg (hrow old)]) (results_two rfl _ _ (s + 1) (s + 2) _ _ hold hold rfl rfl M9 M10) rfl ?_
  exact ⟨rfl, hB⟩

set_option maxRecDepth 100000 in
set_option maxHeartbeats 1000000 in
theorem both_tip (n m : Nat) (old h : List UInt8) (g o cap : Nat) (w : World) (hmn : m = n) (hh : h.length = 32) (hA : w.rangeAt g o (h.map Y)) :
    Calls Try.prog 51 #[.int .i64 m, .int .i64 n, .bool false, .agg (hrow old), .slice (some ⟨g, o, none⟩) 1 cap] w fun e w' => e = .returned (.tuple #[.agg (hrow h), .agg (hrow h)]) ∧ Below w.heap.size w w' := by
  have e0 : ((m : Int) == (n : Int)) = true := by rw [beq_iff_eq]; omega
  have HA := Lib.hid (fun w' (hb : Below w.heap.size w w') => (fun j u hu => keepCells hb _ _ (hA j u hu) : w'.rangeAt g o (h.map Y)))
  clear hmn hA
  obtain ⟨N8, N9, N10, hb0, hsz0⟩ := three_h w old
  obtain ⟨s, hs⟩ : ∃ s, w.heap.size = s := ⟨_, rfl⟩
  have hsw : w.heap.size ≤ s := by omega
  rw [hs] at N8 N9 N10 hsz0
  go_enter Try.func51, Try.ntmps51
  go_upto_region 1 with (first
    | (refine wpList_box_row rfl 24 (.tmp 3) rfl (hrow old) rfl ?_; go_frame)
    | (refine wpList_alloc_hash rfl rfl ?_; go_frame; try simp only [World.size_alloc]))
  rw [hs]
  generalize ((w.alloc (.cells (hrow old) 24)).alloc (.cells hz 24)).alloc (.cells hz 24) = w1 at *
  clear hs
  go_upto_region 4 with (fail)
  refine bo_r4 _ _ _ _ _ _ _ _ _ _ _ _ _ _ _ _ _ _ _ _ _ _ _ _ _ _ _ _ _ _ _ _ _ _ _ _ _ _ _ _ _ _ _ _ _ _ _ _ _ _ _ _ _ _ _ _ _ _ _ _ _ _ _ _ _ _ _ _ _ _ _ _ _ _ _ w.heap.size s h g o 1 cap w w1 hsw hb0 hh HA.out (by omega) N9 N10 _ ?_
  intro y25 y26 y27 y28 y29 y30 w2 M9 M10 hB
  go_wp2_with fail
  refine bodyPost_ret (v := .tuple #[.agg (hrow h), .agg (hrow h)]) (results_two rfl _ _ (s + 1) (s + 2) _ _ hh hh rfl rfl M9 M10) rfl ?_
  exact ⟨rfl, hB⟩
set_option maxRecDepth 100000 in
set_option maxHeartbeats 1000000 in
theorem both_left_w (n m : Nat) (whole : Bool) (old h x y : List UInt8) (g o q L cap : Nat) (w : World) (hmn : m < n) (h0 : 1 ≤ m) (hn : n ≤ 9223372036854775807) (hc0 : m ≤ half n) (hold : old.length = 32) (hh : h.length = 32) (hx : x.length = 32) (hy : y.length = 32) (hL : L = q + 1) (hcap : L ≤ cap) (hq : q ≤ 64) (hA : w.rangeAt g (o + q * 32) (h.map Y))
    (ih : ∀ w', Below w.heap.size w w' → Calls Try.prog 51 #[.int .i64 m, .int .i64 (half n), .bool whole, .agg (hrow old), .slice (some ⟨g, o, none⟩) q cap] w' fun e w'' => e = .returned (.tuple #[.agg (hrow x), .agg (hrow y)]) ∧ Below w'.heap.size w' w'') :
    Calls Try.prog 51 #[.int .i64 m, .int .i64 n, .bool whole, .agg (hrow old), .slice (some ⟨g, o, none⟩) L cap] w fun e w' => e = .returned (.tuple #[.agg (hrow (x)), .agg (hrow (node y h))]) ∧ Below w.heap.size w w' := by
  have e0 : ((m : Int) == (n : Int)) = false := by rw [beq_eq_false_iff_ne]; omega
  have A1 := Lib.hid (fun w => RHalf_any n (by omega) hn w)
  have HA := Lib.hid (fun w' (hb : Below w.heap.size w w') => (fun j u hu => keepCells hb _ _ (hA j u hu) : w'.rangeAt g (o + q * 32) (h.map Y)))
  have IH := Lib.hid ih
  have el : (L : Int) - 1 = (q : Int) := by omega
  have b0 : (0 : Int) ≤ (q : Int) := by omega
  have b1 : (q : Int) < (L : Int) := by omega
  have hsl := slice_firstH g o L cap q (by omega) hcap
  have hn1 := node_length y h
  have hn2 := node_length h x
  have hn3 := node_length h y
  clear ih hA hL
  generalize half n = k at *
  have qk : (m : Int) ≤ (k : Int) := by omega
  clear hc0 hmn h0
  obtain ⟨N8, N9, N10, hb0, hsz0⟩ := three_h w old
  obtain ⟨s, hs⟩ : ∃ s, w.heap.size = s := ⟨_, rfl⟩
  have hsw : w.heap.size ≤ s := by omega
  rw [hs] at N8 N9 N10 hsz0
  go_enter Try.func51, Try.ntmps51
  go_upto_region 1 with (first
    | (refine wpList_box_row rfl 24 (.tmp 3) rfl (hrow old) rfl ?_; go_frame)
    | (refine wpList_alloc_hash rfl rfl ?_; go_frame; try simp only [World.size_alloc]))
  rw [hs]
  generalize ((w.alloc (.cells (hrow old) 24)).alloc (.cells hz 24)).alloc (.cells hz 24) = w1 at *
  clear hs
  have HEw := Lib.hid (HA.out _ hb0)
  have HHZ := Lib.hid (fun w' (h : w' = w1.alloc (.cells hz 24)) => (h ▸ Blk.new w1 hz 24 : Blk w' w1.heap.size hz 24))
  have HL0 := Lib.hid hz_len
  have hh0 := Blk.new w1 (hrow h) 24
  have N8 := N8.alloc (.cells (hrow h) 24)
  have N9 := N9.alloc (.cells (hrow h) 24)
  have N10 := N10.alloc (.cells (hrow h) 24)
  have hB2 := hb0.alloc hb0.size (.cells (hrow h) 24)
  have G8 := Lib.hid N8
  have G9 := Lib.hid N9
  have G10 := Lib.hid N10
  have GH := Lib.hid hh0
  have GB := Lib.hid hB2
  clear N8 N9 N10 hh0 hB2 HA
  go_wp2_with fail
  refine (A1.out _).mono ?_; rintro e w1' ⟨rfl, rfl⟩
  go_upto_region 8 with (first
    | (refine wpList_load_hashAt (by kernel_rfl) (.tmp 37) rfl g (o + q * 32) rfl h hh HEw.out ?_; go_frame)
    | (refine wpList_alloc_hash rfl rfl ?_; go_frame; try simp only [World.size_alloc])
    | (refine wpList_store_hash rfl (.tmp 13) (.tmp 38) rfl w1.heap.size h hh rfl rfl hz (HHZ.out _ rfl) HL0.out ?_; go_frame; rw [Blk.fresh]))
  obtain ⟨c, hc2⟩ : ∃ c, w1.heap.size = c := ⟨_, rfl⟩
  rw [hc2] at GH
  rw [hc2]
  clear hc2 HEw HHZ hsz0 hsl A1 hb0
  generalize w1.alloc (.cells (hrow h) 24) = w2 at *
  have IHw := Lib.hid (IH.out _ GB.out)
  clear IH
  go_wp2_with (refine wpList_load_hash (by kernel_rfl) (.tmp 8) rfl s rfl old hold G8.out ?_; go_frame)
  refine IHw.out.mono ?_; rintro e w3 ⟨rfl, hb3⟩
  have P9 := G9.out.below hb3 G9.out.lt
  have P10 := G10.out.below hb3 G10.out.lt
  have PC := GH.out.below hb3 GH.out.lt
  have hB3 := GB.out.trans (hb3.mono GB.out.size)
  clear G8 G9 G10 GH GB IHw hb3
  have l9 := P9.lt
  have l10 := P10.lt
  have lc := PC.lt
  obtain ⟨D1, D2, hb4⟩ := two_new w3
  have P9 := P9.below hb4 P9.lt
  have P10 := P10.below hb4 P10.lt
  have PC := PC.below hb4 PC.lt
  have hB4 := hB3.trans (hb4.mono hB3.size)
  have hle := hB3.size
  obtain ⟨d, hd⟩ : ∃ d, w3.heap.size = d := ⟨_, rfl⟩
  rw [hd] at D1 D2 l9 l10 lc hle
  have D2a := D2.rowOther (hrow x) (show d + 1 ≠ d by omega)
  have F9 := Lib.hid ((P9.rowOther (hrow x) (show s + 1 ≠ d by omega)).rowOther (hrow y) (show s + 1 ≠ d + 1 by omega))
  have F10 := Lib.hid ((P10.rowOther (hrow x) (show s + 2 ≠ d by omega)).rowOther (hrow y) (show s + 2 ≠ d + 1 by omega))
  have FC := Lib.hid ((PC.rowOther (hrow x) (show c ≠ d by omega)).rowOther (hrow y) (show c ≠ d + 1 by omega))
  have FD := Lib.hid ((D1.row (hrow x)).rowOther (hrow y) (show d ≠ d + 1 by omega))
  have FE := Lib.hid (D2a.row (hrow y))
  have FB := Lib.hid (Below.setRow (Below.setRow hB4 (show w.heap.size ≤ d by omega) (hrow x)) (show w.heap.size ≤ d + 1 by omega) (hrow y))
  have HD1 := Lib.hid D1
  have HD2 := Lib.hid D2a
  clear P9 P10 PC D1 D2 D2a hB3 hB4 hb4
  go_upto_region 10 with (first
    | (refine wpList_alloc_hash rfl rfl ?_; go_frame; try simp only [World.size_alloc])
    | (refine wpList_store_hash rfl (.tmp 15) (.tmp 54) rfl w3.heap.size x hx rfl rfl hz (hd.symm ▸ HD1.out) HL0.out ?_; go_frame)
    | (refine wpList_store_hash rfl (.tmp 16) (.tmp 55) rfl (w3.heap.size + 1) y hy rfl rfl hz (hd.symm ▸ HD2.out) HL0.out ?_; go_frame))
  rw [hd]
  clear hd HD1 HD2
  generalize (((w3.alloc (.cells hz 24)).alloc (.cells hz 24)).setRow d (hrow x)).setRow (d + 1) (hrow y) = w5 at *
  refine bo_r10 _ _ _ _ _ _ _ _ _ _ _ _ _ _ _ _ _ _ _ _ _ _ _ _ _ _ _ _ _ _ _ _ _ _ _ _ _ _ _ _ _ _ _ _ _ _ _ _ _ _ _ _ _ _ _ _ _ _ _ _ _ _ _ _ _ _ _ _ _ _ _ _ _ w.heap.size s c d h x y w w5 hsw FB.out hh hx hy FC.out FD.out FE.out F9.out F10.out _ ?_
  intro y56 y57 y58 y59 w6 M9 M10 hB
  go_wp2_with fail
  refine bodyPost_ret (v := .tuple #[.agg (hrow (x)), .agg (hrow (node y h))]) (results_two rfl _ _ (s + 1) (s + 2) _ _ hx hn1 rfl rfl M9 M10) rfl ?_
  exact ⟨rfl, hB⟩

set_option maxRecDepth 100000 in
set_option maxHeartbeats 1000000 in
theorem both_right_w (n m : Nat) (whole : Bool) (old h x y : List UInt8) (g o q L cap : Nat) (w : World) (hmn : m < n) (h0 : 1 ≤ m) (hn : n ≤ 9223372036854775807) (hc0 : half n < m) (hold : old.length = 32) (hh : h.length = 32) (hx : x.length = 32) (hy : y.length = 32) (hL : L = q + 1) (hcap : L ≤ cap) (hq : q ≤ 64) (hA : w.rangeAt g (o + q * 32) (h.map Y))
    (ih : ∀ w', Below w.heap.size w w' → Calls Try.prog 51 #[.int .i64 ((m - half n : Nat) : Int), .int .i64 ((n - half n : Nat) : Int), .bool false, .agg (hrow old), .slice (some ⟨g, o, none⟩) q cap] w' fun e w'' => e = .returned (.tuple #[.agg (hrow x), .agg (hrow y)]) ∧ Below w'.heap.size w' w'') :
    Calls Try.prog 51 #[.int .i64 m, .int .i64 n, .bool whole, .agg (hrow old), .slice (some ⟨g, o, none⟩) L cap] w fun e w' => e = .returned (.tuple #[.agg (hrow (node h x)), .agg (hrow (node h y))]) ∧ Below w.heap.size w w' := by
  have e1 : ((m - half n : Nat) : Int) = (m : Int) - (half n : Int) := by omega
  have e2 : ((n - half n : Nat) : Int) = (n : Int) - (half n : Int) := by omega
  rw [e1, e2] at ih
  clear e1 e2
  have e0 : ((m : Int) == (n : Int)) = false := by rw [beq_eq_false_iff_ne]; omega
  have A1 := Lib.hid (fun w => RHalf_any n (by omega) hn w)
  have HA := Lib.hid (fun w' (hb : Below w.heap.size w w') => (fun j u hu => keepCells hb _ _ (hA j u hu) : w'.rangeAt g (o + q * 32) (h.map Y)))
  have IH := Lib.hid ih
  have el : (L : Int) - 1 = (q : Int) := by omega
  have b0 : (0 : Int) ≤ (q : Int) := by omega
  have b1 : (q : Int) < (L : Int) := by omega
  have hsl := slice_firstH g o L cap q (by omega) hcap
  have hn1 := node_length y h
  have hn2 := node_length h x
  have hn3 := node_length h y
  clear ih hA hL
  generalize half n = k at *
  have qk : ¬ ((m : Int) ≤ (k : Int)) := by omega
  have d1 : (0 : Int) ≤ (k : Int) := by omega
  have d2 : (k : Int) < (n : Int) := by omega
  have d3 : (m : Int) < (n : Int) := by omega
  have d4 : (n : Int) ≤ 9223372036854775807 := by omega
  clear hc0 hmn h0
  obtain ⟨N8, N9, N10, hb0, hsz0⟩ := three_h w old
  obtain ⟨s, hs⟩ : ∃ s, w.heap.size = s := ⟨_, rfl⟩
  have hsw : w.heap.size ≤ s := by omega
  rw [hs] at N8 N9 N10 hsz0
  go_enter Try.func51, Try.ntmps51
  go_upto_region 1 with (first
    | (refine wpList_box_row rfl 24 (.tmp 3) rfl (hrow old) rfl ?_; go_frame)
    | (refine wpList_alloc_hash rfl rfl ?_; go_frame; try simp only [World.size_alloc]))
  rw [hs]
  generalize ((w.alloc (.cells (hrow old) 24)).alloc (.cells hz 24)).alloc (.cells hz 24) = w1 at *
  clear hs
  have HEw := Lib.hid (HA.out _ hb0)
  have HHZ := Lib.hid (fun w' (h : w' = w1.alloc (.cells hz 24)) => (h ▸ Blk.new w1 hz 24 : Blk w' w1.heap.size hz 24))
  have HL0 := Lib.hid hz_len
  have hh0 := Blk.new w1 (hrow h) 24
  have N8 := N8.alloc (.cells (hrow h) 24)
  have N9 := N9.alloc (.cells (hrow h) 24)
  have N10 := N10.alloc (.cells (hrow h) 24)
  have hB2 := hb0.alloc hb0.size (.cells (hrow h) 24)
  have G8 := Lib.hid N8
  have G9 := Lib.hid N9
  have G10 := Lib.hid N10
  have GH := Lib.hid hh0
  have GB := Lib.hid hB2
  clear N8 N9 N10 hh0 hB2 HA
  go_wp2_with fail
  refine (A1.out _).mono ?_; rintro e w1' ⟨rfl, rfl⟩
  go_upto_region 8 with (first
    | (refine wpList_load_hashAt (by kernel_rfl) (.tmp 37) rfl g (o + q * 32) rfl h hh HEw.out ?_; go_frame)
    | (refine wpList_alloc_hash rfl rfl ?_; go_frame; try simp only [World.size_alloc])
    | (refine wpList_store_hash rfl (.tmp 13) (.tmp 38) rfl w1.heap.size h hh rfl rfl hz (HHZ.out _ rfl) HL0.out ?_; go_frame; rw [Blk.fresh]))
  obtain ⟨c, hc2⟩ : ∃ c, w1.heap.size = c := ⟨_, rfl⟩
  rw [hc2] at GH
  rw [hc2]
  clear hc2 HEw HHZ hsz0 hsl A1 hb0
  generalize w1.alloc (.cells (hrow h) 24) = w2 at *
  have IHw := Lib.hid (IH.out _ GB.out)
  clear IH
  go_wp2_with (refine wpList_load_hash (by kernel_rfl) (.tmp 8) rfl s rfl old hold G8.out ?_; go_frame)
  refine IHw.out.mono ?_; rintro e w3 ⟨rfl, hb3⟩
  have P9 := G9.out.below hb3 G9.out.lt
  have P10 := G10.out.below hb3 G10.out.lt
  have PC := GH.out.below hb3 GH.out.lt
  have hB3 := GB.out.trans (hb3.mono GB.out.size)
  clear G8 G9 G10 GH GB IHw hb3
  have l9 := P9.lt
  have l10 := P10.lt
  have lc := PC.lt
  obtain ⟨D1, D2, hb4⟩ := two_new w3
  have P9 := P9.below hb4 P9.lt
  have P10 := P10.below hb4 P10.lt
  have PC := PC.below hb4 PC.lt
  have hB4 := hB3.trans (hb4.mono hB3.size)
  have hle := hB3.size
  obtain ⟨d, hd⟩ : ∃ d, w3.heap.size = d := ⟨_, rfl⟩
  rw [hd] at D1 D2 l9 l10 lc hle
  have D2a := D2.rowOther (hrow x) (show d + 1 ≠ d by omega)
  have F9 := Lib.hid ((P9.rowOther (hrow x) (show s + 1 ≠ d by omega)).rowOther (hrow y) (show s + 1 ≠ d + 1 by omega))
  have F10 := Lib.hid ((P10.rowOther (hrow x) (show s + 2 ≠ d by omega)).rowOther (hrow y) (show s + 2 ≠ d + 1 by omega))
  have FC := Lib.hid ((PC.rowOther (hrow x) (show c ≠ d by omega)).rowOther (hrow y) (show c ≠ d + 1 by omega))
  have FD := Lib.hid ((D1.row (hrow x)).rowOther (hrow y) (show d ≠ d + 1 by omega))
  have FE := Lib.hid (D2a.row (hrow y))
  have FB := Lib.hid (Below.setRow (Below.setRow hB4 (show w.heap.size ≤ d by omega) (hrow x)) (show w.heap.size ≤ d + 1 by omega) (hrow y))
  have HD1 := Lib.hid D1
  have HD2 := Lib.hid D2a
  clear P9 P10 PC D1 D2 D2a hB3 hB4 hb4
  go_upto_region 12 with (first
    | (refine wpList_alloc_hash rfl rfl ?_; go_frame; try simp only [World.size_alloc])
    | (refine wpList_store_hash rfl (.tmp 17) (.tmp 70) rfl w3.heap.size x hx rfl rfl hz (hd.symm ▸ HD1.out) HL0.out ?_; go_frame)
    | (refine wpList_store_hash rfl (.tmp 18) (.tmp 71) rfl (w3.heap.size + 1) y hy rfl rfl hz (hd.symm ▸ HD2.out) HL0.out ?_; go_frame))
  rw [hd]
  clear hd HD1 HD2
  generalize (((w3.alloc (.cells hz 24)).alloc (.cells hz 24)).setRow d (hrow x)).setRow (d + 1) (hrow y) = w5 at *
  refine bo_r12 _ _ _ _ _ _ _ _ _ _ _ _ _ _ _ _ _ _ _ _ _ _ _ _ _ _ _ _ _ _ _ _ _ _ _ _ _ _ _ _ _ _ _ _ _ _ _ _ _ _ _ _ _ _ _ _ _ _ _ _ _ _ _ _ _ _ _ _ _ _ _ _ _ w.heap.size s c d h x y w w5 hsw FB.out hh hx hy FC.out FD.out FE.out F9.out F10.out _ ?_
  intro y72 y73 y74 y75 y76 y77 w6 M9 M10 hB
  go_wp2_with fail
  refine bodyPost_ret (v := .tuple #[.agg (hrow (node h x)), .agg (hrow (node h y))]) (results_two rfl _ _ (s + 1) (s + 2) _ _ hn2 hn3 rfl rfl M9 M10) rfl ?_
  exact ⟨rfl, hB⟩

theorem both_any (n : Nat) : ∀ (m : Nat) (whole : Bool) (old : List UInt8) (p : List (List UInt8)) (v : Value) (w : World), 1 ≤ m → m ≤ n → n ≤ 9223372036854775807 → old.length = 32 → All32 p → p.length = many m n whole → HArg w v p →
    Calls Try.prog 51 #[.int .i64 m, .int .i64 n, .bool whole, .agg (hrow old), v] w fun e w' => e = .returned (.tuple #[.agg (hrow (both m n whole old p).1), .agg (hrow (both m n whole old p).2)]) ∧ Below w.heap.size w w' := by
  induction n using Nat.strongRecOn with
  | _ n ih =>
    intro m whole old p v w hm hmn hn hold hal hlen hP
    by_cases he : m = n
    · rw [both_end he]
      cases whole with
      | true => exact both_one n m old v w he hold
      | false =>
        rw [many_end he] at hlen
        obtain ⟨h, rfl⟩ := List.length_eq_one_iff.1 (by simpa using hlen)
        obtain ⟨pa, cap, rfl, hc, hA⟩ := hP
        obtain ⟨g, o, rfl, hAt⟩ := hA (by simp)
        have hE := hAt.elem hal 0 h rfl
        exact both_tip n m old h g o cap w he (hal h (by simp)) (by simpa using hE)
    · have hk0 := half_pos (n := n) (by omega)
      have hk1 := half_lt (n := n) (by omega)
      have hml := many_le 63 m n whole hm hmn (by omega)
      obtain ⟨q, hq⟩ : ∃ q, p.length = q + 1 := by
        by_cases hk : m ≤ half n
        · exact ⟨_, by rw [hlen, many_left hm (by omega) hk, Nat.add_comm]⟩
        · exact ⟨_, by rw [hlen, many_right hm (by omega) hk, Nat.add_comm]⟩
      obtain ⟨p1, h, rfl, hp1⟩ := snoc_of_length hq
      obtain ⟨pa, cap, rfl, hc, hA⟩ := hP
      obtain ⟨g, o, rfl, hAt⟩ := hA (by simp)
      have h32 : h.length = 32 := hal.last
      have ha1 : All32 p1 := hal.left
      have hE : w.rangeAt g (o + q * 32) (h.map Y) := by
        have := hAt.elem hal q h (by rw [List.getElem?_append_right (by omega), hp1]; simp)
        rwa [Nat.mul_comm] at this
      have hA1 : HAt w g o p1 := by
        have := hAt.take q
        rwa [show (p1 ++ [h]).take q = p1 by rw [List.take_append_of_le_length (by omega), List.take_of_length_le (by omega)]] at this
      by_cases hk : m ≤ half n
      · have hl1 : p1.length = many m (half n) whole := by rw [hq, many_left hm (by omega) hk] at hlen; omega
        obtain ⟨l1, l2⟩ := both_length m (half n) whole old p1 hm hk hold ha1 hl1
        rw [both_left hm (by omega) hk]
        exact both_left_w n m whole old h _ _ g o q _ cap w (by omega) hm hn hk hold h32 l1 l2 hq hc (by omega) hE (fun w' hb => hp1 ▸ ih (half n) hk1 m whole old p1 (.slice (some ⟨g, o, none⟩) p1.length cap) w' hm hk (by omega) hold ha1 hl1 (HArg.of rfl (by simp at hc; omega) (hA1.below hb)))
      · have hl1 : p1.length = many (m - half n) (n - half n) false := by rw [hq, many_right hm (by omega) hk] at hlen; omega
        obtain ⟨l1, l2⟩ := both_length (m - half n) (n - half n) false old p1 (by omega) (by omega) hold ha1 hl1
        rw [both_right hm (by omega) hk]
        exact both_right_w n m whole old h _ _ g o q _ cap w (by omega) hm hn (by omega) hold h32 l1 l2 hq hc (by omega) hE (fun w' hb => hp1 ▸ ih (n - half n) (by omega) (m - half n) false old p1 (.slice (some ⟨g, o, none⟩) p1.length cap) w' (by omega) (by omega) (by omega) hold ha1 hl1 (HArg.of rfl (by simp at hc; omega) (hA1.below hb)))

theorem two_heads (w : World) (so sn : Int) (ro rn : List UInt8) :
    ∀ w3, w3 = (w.alloc (.cells (hdrow so ro) 38)).alloc (.cells (hdrow sn rn) 38) → Blk w3 w.heap.size (hdrow so ro) 38 ∧ Blk w3 (w.heap.size + 1) (hdrow sn rn) 38 ∧ Below w.heap.size w w3 ∧ w3.heap.size = w.heap.size + 2 := by
  rintro w3 rfl
  have a1 := (Blk.new w (hdrow so ro) 38).alloc (.cells (hdrow sn rn) 38)
  have a2 := Blk.new (w.alloc (.cells (hdrow so ro) 38)) (hdrow sn rn) 38
  simp only [World.size_alloc] at a2
  exact ⟨a1, a2, ((Below.refl _ _).alloc (Nat.le_refl _) _).alloc (by simp) _, by simp⟩

set_option maxRecDepth 100000 in
set_option maxHeartbeats 1000000 in
theorem rcg_no (so sn : Int) (ro rn : List UInt8) (pa : Option Addr) (n cap : Nat) (w : World) (h : so < 0 ∨ sn < so) :
    Calls Try.prog 34 #[.agg (hdrow so ro), .agg (hdrow sn rn), .slice pa n cap] w fun e w' => e = .returned (.bool false) ∧ Below w.heap.size w w' := by
  obtain ⟨N0, N1, hb, hsz⟩ := two_heads w so sn ro rn _ rfl
  obtain ⟨b, hbe⟩ : ∃ b, w.heap.size = b := ⟨_, rfl⟩
  have hbw : w.heap.size ≤ b := by omega
  rw [hbe] at N0 N1 hsz
  have c0 := N0.size_
  have c1 := N1.size_
  have H0 := Lib.hid (Blk.root N0)
  have H1 := Lib.hid (Blk.root N1)
  generalize hdrow so ro = RO at *
  generalize hdrow sn rn = RN at *
  go_enter Try.func34, Try.ntmps34
  go_upto_region 1 with (first
    | (refine wpList_box_row rfl 38 (.tmp 0) rfl RO rfl ?_; go_frame)
    | (refine wpList_box_row rfl 38 (.tmp 1) rfl RN rfl ?_; go_frame; try simp only [World.size_alloc]))
  rw [hbe]
  generalize (w.alloc (.cells RO 38)).alloc (.cells RN 38) = w3 at *
  clear hbe
  clear N0 N1 H0 H1
  by_cases h0 : so < 0
  · have t : decide (so < 0) = true := decide_eq_true h0
    go_wp2_with fail
    go_ret
    exact ⟨rfl, hb⟩
  · have t : decide (so < 0) = false := decide_eq_false h0
    have t2 : decide (so > sn) = true := decide_eq_true (by omega)
    go_wp2_with fail
    go_ret
    exact ⟨rfl, hb⟩

set_option maxRecDepth 100000 in
set_option maxHeartbeats 1000000 in
theorem rcg_eq (so sn : Int) (ro rn : List UInt8) (pa : Option Addr) (n cap : Nat) (w : World) (hr : ro.length = 32) (hr2 : rn.length = 32) (h0 : 0 ≤ so) (h : so = sn) :
    Calls Try.prog 34 #[.agg (hdrow so ro), .agg (hdrow sn rn), .slice pa n cap] w fun e w' => e = .returned (.bool (decide (n = 0) && ro == rn)) ∧ Below w.heap.size w w' := by
  subst h
  obtain ⟨N0, N1, hb, hsz⟩ := two_heads w so so ro rn _ rfl
  obtain ⟨b, hbe⟩ : ∃ b, w.heap.size = b := ⟨_, rfl⟩
  have hbw : w.heap.size ≤ b := by omega
  rw [hbe] at N0 N1 hsz
  have c0 := N0.size_
  have c1 := N1.size_
  have H0 := Lib.hid (Blk.root N0)
  have H1 := Lib.hid (Blk.root N1)
  generalize hdrow so ro = RO at *
  generalize hdrow so rn = RN at *
  go_enter Try.func34, Try.ntmps34
  go_upto_region 1 with (first
    | (refine wpList_box_row rfl 38 (.tmp 0) rfl RO rfl ?_; go_frame)
    | (refine wpList_box_row rfl 38 (.tmp 1) rfl RN rfl ?_; go_frame; try simp only [World.size_alloc]))
  rw [hbe]
  generalize (w.alloc (.cells RO 38)).alloc (.cells RN 38) = w3 at *
  clear hbe
  have t : decide (so < 0) = false := decide_eq_false (by omega)
  have t1 : ¬ so < 0 := by omega
  have t2 : decide (so > so) = false := decide_eq_false (by omega)
  have t3 : (so == so) = true := by simp
  have hq := fun w => run_eq_hash ro rn hr hr2 w
  clear N0 N1
  by_cases hz0 : n = 0
  · have t4 : ((n : Int) == 0) = true := by rw [beq_iff_eq]; omega
    have HX := Lib.hid (show (decide (n = 0) && ro == rn) = (ro == rn) by rw [decide_eq_true hz0]; rfl)
    clear hz0
    go_wp2_with (first
      | (refine wpList_load_hashAt (by kernel_rfl) (.tmp 28) rfl b 1 rfl ro hr H0.out ?_; go_frame)
      | (refine wpList_load_hashAt (by kernel_rfl) (.tmp 30) rfl (b + 1) 1 rfl rn hr2 H1.out ?_; go_frame))
    go_ret
    exact ⟨by rw [HX.out]; rfl, hb⟩
  · have t4 : ((n : Int) == 0) = false := by rw [beq_eq_false_iff_ne]; omega
    have HX := Lib.hid (show (decide (n = 0) && ro == rn) = false by rw [decide_eq_false hz0]; rfl)
    clear hz0
    go_wp2_with fail
    go_ret
    exact ⟨by rw [HX.out]; rfl, hb⟩

set_option maxRecDepth 100000 in
set_option maxHeartbeats 1000000 in
theorem rcg_zero (so sn : Int) (ro rn : List UInt8) (pa : Option Addr) (n cap : Nat) (w : World) (hr : ro.length = 32) (h0 : so = 0) (h : 0 < sn) :
    Calls Try.prog 34 #[.agg (hdrow so ro), .agg (hdrow sn rn), .slice pa n cap] w fun e w' => e = .returned (.bool (decide (n = 0) && ro == Sha.sum [])) ∧ Below w.heap.size w w' := by
  subst h0
  have hs32 := Sha.sum_length []
  have E1 := Lib.hid (fun w => RSumB_any ⟨#[]⟩ (by decide) w)
  have e1 : (⟨#[]⟩ : ByteArray).data.toList = [] := rfl
  rw [e1] at E1
  clear e1
  generalize Sha.sum [] = z at *
  obtain ⟨N0, N1, hb, hsz⟩ := two_heads w 0 sn ro rn _ rfl
  obtain ⟨b, hbe⟩ : ∃ b, w.heap.size = b := ⟨_, rfl⟩
  have hbw : w.heap.size ≤ b := by omega
  rw [hbe] at N0 N1 hsz
  have c0 := N0.size_
  have c1 := N1.size_
  have H0 := Lib.hid (Blk.root N0)
  have H1 := Lib.hid (Blk.root N1)
  generalize hdrow 0 ro = RO at *
  generalize hdrow sn rn = RN at *
  go_enter Try.func34, Try.ntmps34
  go_upto_region 1 with (first
    | (refine wpList_box_row rfl 38 (.tmp 0) rfl RO rfl ?_; go_frame)
    | (refine wpList_box_row rfl 38 (.tmp 1) rfl RN rfl ?_; go_frame; try simp only [World.size_alloc]))
  rw [hbe]
  generalize (w.alloc (.cells RO 38)).alloc (.cells RN 38) = w3 at *
  clear hbe
  have t2 : decide ((0 : Int) > sn) = false := decide_eq_false (by omega)
  have t2' : ¬ sn < 0 := by omega
  have t3 : ((0 : Int) == sn) = false := by rw [beq_eq_false_iff_ne]; omega
  have hq := fun w => run_eq_hash ro z hr hs32 w
  have f0 : ∀ y : After w3, (loadVar 24 ⟨b, 1, none⟩).run Try.prog y.W = .ok (.agg (hrow ro)) y.W := fun y => load_hash _ _ _ ro hr (fun j v hv => keepCells y.hb _ _ (H0.out j v hv))
  clear N0 N1
  by_cases hz0 : n = 0
  · have t4 : ((n : Int) == 0) = true := by rw [beq_iff_eq]; omega
    have HX := Lib.hid (show (decide (n = 0) && ro == z) = (ro == z) by rw [decide_eq_true hz0]; rfl)
    clear hz0
    go_upto_region 6 with (fail)
    refine wp_region_after (by kernel_rfl) (by kernel_rfl) ?_
    repeat (first
      | (refine quiet_load_at 24 (.tmp 41) (by rfl) ⟨b, 1, none⟩ (by rfl) (hrow ro) f0 (by kernel_rfl) ?_; go_frame)
      | (go_big_quiet_step (with_reducible exact After.call (E1.out _))))
    refine wpQuiet_nil ?_
    rintro w5 ⟨x5, rfl⟩
    have hb := hb.trans (x5.hb.mono hb.size)
    go_wp2_with fail
    go_ret
    exact ⟨by rw [HX.out]; rfl, hb⟩
  · have t4 : ((n : Int) == 0) = false := by rw [beq_eq_false_iff_ne]; omega
    have HX := Lib.hid (show (decide (n = 0) && ro == z) = false by rw [decide_eq_false hz0]; rfl)
    clear hz0
    go_upto_region 6 with (fail)
    refine wp_region_after (by kernel_rfl) (by kernel_rfl) ?_
    repeat (go_big_quiet_step (fail))
    refine wpQuiet_nil ?_
    rintro w5 ⟨x5, rfl⟩
    have hb := hb.trans (x5.hb.mono hb.size)
    go_wp2_with fail
    go_ret
    exact ⟨by rw [HX.out]; rfl, hb⟩

set_option maxRecDepth 100000 in
set_option maxHeartbeats 1000000 in
theorem rcg_mid (m z : Nat) (ro rn : List UInt8) (p : List (List UInt8)) (v : Value) (w : World) (hr : ro.length = 32) (hr2 : rn.length = 32) (h0 : 1 ≤ m) (h : m < z) (hz63 : z ≤ 9223372036854775807) (ha : All32 p) (hA : HArg w v p) :
    Calls Try.prog 34 #[.agg (hdrow (m : Int) ro), .agg (hdrow (z : Int) rn), v] w fun e w' => e = .returned (.bool (checkG m ro z rn p)) ∧ Below w.heap.size w w' := by
  have hck : checkG m ro z rn p = if p.length = many m z true then (both m z true ro p).1 == ro && (both m z true ro p).2 == rn else false := by
    unfold checkG
    rw [if_neg (by omega), if_neg (by omega), if_neg (by omega)]
    simp only [Int.toNat_natCast]
  have M1 := Lib.hid (fun w => many_any z m true w h0 (by omega) hz63)
  have hml := many_le 63 m z true h0 (by omega) (by omega)
  have B1 := Lib.hid (fun (hl : p.length = many m z true) w1 (hb : Below w.heap.size w w1) => both_any z m true ro p v w1 h0 (by omega) hz63 hr ha hl (hA.below hb))
  have BL := Lib.hid (fun (hl : p.length = many m z true) => both_length m z true ro p h0 (by omega) hr ha hl)
  obtain ⟨res, hres⟩ : ∃ res, checkG m ro z rn p = res := ⟨_, rfl⟩
  rw [hres]
  rw [hres] at hck
  have HC := Lib.hid hck
  obtain ⟨pa, cap, rfl, hc, _⟩ := hA
  clear hck hres ha
  generalize both m z true ro p = r at *
  generalize many m z true = q at *
  obtain ⟨n, hnn⟩ : ∃ n, p.length = n := ⟨_, rfl⟩
  rw [hnn] at B1 BL HC hc
  rw [hnn]
  clear hnn
  obtain ⟨N0, N1, hb, hsz⟩ := two_heads w (m : Int) (z : Int) ro rn _ rfl
  obtain ⟨b, hbe⟩ : ∃ b, w.heap.size = b := ⟨_, rfl⟩
  have hbw : w.heap.size ≤ b := by omega
  rw [hbe] at N0 N1 hsz
  have c0 := N0.size_
  have c1 := N1.size_
  have H0 := Lib.hid (Blk.root N0)
  have H1 := Lib.hid (Blk.root N1)
  generalize hdrow (m : Int) ro = RO at *
  generalize hdrow (z : Int) rn = RN at *
  go_enter Try.func34, Try.ntmps34
  go_upto_region 1 with (first
    | (refine wpList_box_row rfl 38 (.tmp 0) rfl RO rfl ?_; go_frame)
    | (refine wpList_box_row rfl 38 (.tmp 1) rfl RN rfl ?_; go_frame; try simp only [World.size_alloc]))
  rw [hbe]
  generalize (w.alloc (.cells RO 38)).alloc (.cells RN 38) = w3 at *
  clear hbe
  have t : decide ((m : Int) < 0) = false := decide_eq_false (by omega)
  have t2 : decide ((m : Int) > (z : Int)) = false := decide_eq_false (by omega)
  have t2' : ¬ ((z : Int) < (m : Int)) := by omega
  have t3 : ((m : Int) == (z : Int)) = false := by rw [beq_eq_false_iff_ne]; omega
  have t4 : ((m : Int) == 0) = false := by rw [beq_eq_false_iff_ne]; omega
  by_cases hl : n = q
  · have t5 : ((n : Int) != (q : Int)) = false := by rw [bne_eq_false_iff_eq]; omega
    have HE : Hid (res = (r.1 == ro && r.2 == rn)) := by
      have := HC.out
      rwa [if_pos hl] at this
    have BB := Lib.hid (B1.out hl)
    obtain ⟨l1, l2⟩ := BL.out hl
    obtain ⟨x, y⟩ := r
    have hx : x.length = 32 := l1
    have hy : y.length = 32 := l2
    have HB3 := Lib.hid (BB.out w3 hb)
    have HN0 := Lib.hid N0
    have HN1 := Lib.hid N1
    clear hl HC B1 BL BB l1 l2 N0 N1
    go_wp2_with fail
    refine (M1.out _).mono ?_; rintro e w4 ⟨rfl, rfl⟩
    go_wp2_with (refine wpList_load_hashAt (by kernel_rfl) (.tmp 59) rfl b 1 rfl ro hr H0.out ?_; go_frame)
    refine HB3.out.mono ?_; rintro e w4 ⟨rfl, hb4⟩
    have hB4 := hb.trans (hb4.mono hb.size)
    have l0 := HN0.out.lt
    have l1 := HN1.out.lt
    have hle := hb4.size
    obtain ⟨D1, D2, hb5⟩ := two_new w4
    have P0 := Lib.hid (fun j v hv => keepCells hb5 _ _ (keepCells hb4 _ _ (H0.out j v hv)))
    have P1 := Lib.hid (fun j v hv => keepCells hb5 _ _ (keepCells hb4 _ _ (H1.out j v hv)))
    have hB5 := hB4.trans (hb5.mono hB4.size)
    have hsb := hB4.size
    obtain ⟨d, hd⟩ : ∃ d, w4.heap.size = d := ⟨_, rfl⟩
    rw [hd] at D1 D2 hle hsb
    have D2a := D2.rowOther (hrow x) (show d + 1 ≠ d by omega)
    have FD := Lib.hid ((D1.row (hrow x)).rowOther (hrow y) (show d ≠ d + 1 by omega))
    have FE := Lib.hid (D2a.row (hrow y))
    have FB := Lib.hid (Below.setRow (Below.setRow hB5 (show w.heap.size ≤ d by omega) (hrow x)) (show w.heap.size ≤ d + 1 by omega) (hrow y))
    have HD1 := Lib.hid D1
    have HD2 := Lib.hid D2a
    have HL0 := Lib.hid hz_len
    have K0 : Hid ((((w4.alloc (.cells hz 24)).alloc (.cells hz 24)).setRow d (hrow x)).setRow (d + 1) (hrow y) |>.rangeAt b 1 (ro.map Y)) := fun j v hv => by
      rw [World.cell?_of_block (a := ⟨b, 1 + j, none⟩) (setRow_other _ _ _ _ (show b ≠ d + 1 by omega)), World.cell?_of_block (a := ⟨b, 1 + j, none⟩) (setRow_other _ _ _ _ (show b ≠ d by omega))]
      exact P0.out j v hv
    have K1 : Hid ((((w4.alloc (.cells hz 24)).alloc (.cells hz 24)).setRow d (hrow x)).setRow (d + 1) (hrow y) |>.rangeAt (b + 1) 1 (rn.map Y)) := fun j v hv => by
      rw [World.cell?_of_block (a := ⟨b + 1, 1 + j, none⟩) (setRow_other _ _ _ _ (show b + 1 ≠ d + 1 by omega)), World.cell?_of_block (a := ⟨b + 1, 1 + j, none⟩) (setRow_other _ _ _ _ (show b + 1 ≠ d by omega))]
      exact P1.out j v hv
    clear D1 D2 D2a hB4 hB5 hb4 hb5 P0 P1 H0 H1 HN0 HN1 HB3 l0 l1 hb c0 c1
    go_upto_region 10 with (first
      | (refine wpList_alloc_hash rfl rfl ?_; go_frame; try simp only [World.size_alloc])
      | (refine wpList_store_hash rfl (.tmp 7) (.tmp 63) rfl w4.heap.size x hx rfl rfl hz (hd.symm ▸ HD1.out) HL0.out ?_; go_frame)
      | (refine wpList_store_hash rfl (.tmp 8) (.tmp 64) rfl (w4.heap.size + 1) y hy rfl rfl hz (hd.symm ▸ HD2.out) HL0.out ?_; go_frame))
    rw [hd]
    clear hd HD1 HD2
    generalize (((w4.alloc (.cells hz 24)).alloc (.cells hz 24)).setRow d (hrow x)).setRow (d + 1) (hrow y) = w5 at *
    have hB := FB.out
    have hq1 := fun w => run_eq_hash x ro hx hr w
    have hq2 := fun w => run_eq_hash y rn hy hr2 w
    by_cases hxr : x = ro
    · have e1 : (x == ro) = true := by simpa using hxr
      have HF : Hid (res = (y == rn)) := by
        have := HE.out
        rw [e1, Bool.true_and] at this
        exact this
      rw [e1] at hq1
      clear HE hxr e1 FB
      go_wp2_with (first
        | (refine wpList_load_hash (by kernel_rfl) (.tmp 7) rfl d rfl x hx FD.out ?_; go_frame)
        | (refine wpList_load_hashAt (by kernel_rfl) (.tmp 66) rfl b 1 rfl ro hr K0.out ?_; go_frame)
        | (refine wpList_load_hash (by kernel_rfl) (.tmp 8) rfl (d + 1) rfl y hy FE.out ?_; go_frame)
        | (refine wpList_load_hashAt (by kernel_rfl) (.tmp 71) rfl (b + 1) 1 rfl rn hr2 K1.out ?_; go_frame))
      go_ret
      exact ⟨by rw [HF.out]; rfl, hB⟩
    · have e1 : (x == ro) = false := by simpa using hxr
      have HF : Hid (res = false) := by
        have := HE.out
        rw [e1, Bool.false_and] at this
        exact this
      rw [e1] at hq1
      clear HE hxr e1 FB
      go_wp2_with (first
        | (refine wpList_load_hash (by kernel_rfl) (.tmp 7) rfl d rfl x hx FD.out ?_; go_frame)
        | (refine wpList_load_hashAt (by kernel_rfl) (.tmp 66) rfl b 1 rfl ro hr K0.out ?_; go_frame))
      go_ret
      exact ⟨by rw [HF.out]; rfl, hB⟩
  · have t5 : ((n : Int) != (q : Int)) = true := by rw [bne_iff_ne]; omega
    have HE : Hid (res = false) := by
      have := HC.out
      rwa [if_neg hl] at this
    clear hl HC B1 BL N0 N1 H0 H1
    go_wp2_with fail
    refine (M1.out _).mono ?_; rintro e w4 ⟨rfl, rfl⟩
    go_wp2_with fail
    go_ret
    exact ⟨by rw [HE.out]; rfl, hb⟩

theorem RCheckGrowth_q (so sn : Int) (ro rn : List UInt8) (p : List (List UInt8)) (v : Value) (w : World) (hr : ro.length = 32) (hr2 : rn.length = 32) (hz63 : sn ≤ 9223372036854775807) (ha : All32 p) (hA : HArg w v p) :
    Calls Try.prog 34 #[.agg (hdrow so ro), .agg (hdrow sn rn), v] w fun e w' => e = .returned (.bool (checkG so ro sn rn p)) ∧ Below w.heap.size w w' := by
  have hA0 := hA
  obtain ⟨pa, cap, rfl, hc, _⟩ := hA
  have hp : p.isEmpty = decide (p.length = 0) := by cases p <;> simp
  by_cases h1 : so < 0 ∨ sn < so
  · rw [show checkG so ro sn rn p = false by unfold checkG; rw [if_pos h1]]
    exact rcg_no so sn ro rn pa _ cap w h1
  by_cases h2 : so = sn
  · rw [show checkG so ro sn rn p = (decide (p.length = 0) && ro == rn) by unfold checkG; rw [if_neg h1, if_pos h2, hp]]
    exact rcg_eq so sn ro rn pa _ cap w hr hr2 (by omega) h2
  by_cases h3 : so = 0
  · rw [show checkG so ro sn rn p = (decide (p.length = 0) && ro == Sha.sum []) by unfold checkG; rw [if_neg h1, if_neg h2, if_pos h3, hp]]
    exact rcg_zero so sn ro rn pa _ cap w hr h3 (by omega)
  obtain ⟨m, rfl⟩ := Int.eq_ofNat_of_zero_le (show 0 ≤ so by omega)
  obtain ⟨z, rfl⟩ := Int.eq_ofNat_of_zero_le (show 0 ≤ sn by omega)
  exact rcg_mid m z ro rn p _ w hr hr2 (by omega) (by omega) (by omega) ha hA0
end Go.Proofs.Ytjekdeikoebmgaa
