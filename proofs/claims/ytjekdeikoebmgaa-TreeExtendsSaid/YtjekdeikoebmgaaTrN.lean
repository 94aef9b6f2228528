/- The contract of the closure walk of CheckGrowth. Conditions: sizes. -/
import Derived.Test.YtjekdeikoebmgaaTrM
namespace Go.Proofs.Ytjekdeikoebmgaa
open Go.RowKit Go.Shelf Tr

set_option maxRecDepth 100000 in
set_option maxHeartbeats 1000000 in
theorem wk_r12 (u0 u1 u2 u3 u4 u5 u6 u7 u8 u11 u12 u14 u15 u16 u17 u18 u19 u20 u21 u22 u23 u24 u25 u26 u27 u28 u29 u30 u31 u32 u33 u34 u35 u36 u37 u38 u39 u40 u41 u42 u43 u44 u45 u46 u47 u48 u49 u50 u51 u52 u53 u54 u55 u56 u57 u58 u59 u60 u61 u62 : Value) (b s : Nat) (so : Int) (ro : List UInt8) (v : Value) (k : Nat) (ok : Bool) (c : Nat) (t x y : List UInt8) (w : World) (hG : CG w b so ro v k ok) (hbs : b + 6 < s) (ht : t.length = 32) (hx : x.length = 32) (hy : y.length = 32)
    (hNC : Blk w c (hrow t) 24) (hN9 : Blk w s (hrow x) 24) (hN10 : Blk w (s + 1) (hrow y) 24) (Q : Exit → Act → World → Prop)
    (h : ∀ (y57 y58 y59 y60 y61 y62 : Value) (w' : World), CG w' b so ro v k ok → Blk w' s (hrow (node t x)) 24 → Blk w' (s + 1) (hrow (node t y)) 24 → X4 b s w w' → Q .normal ⟨(u0 :: u1 :: u2 :: u3 :: u4 :: u5 :: u6 :: u7 :: u8 :: (.pointer (some ⟨s, 0, none⟩)) :: (.pointer (some ⟨s + 1, 0, none⟩)) :: u11 :: u12 :: (.pointer (some ⟨c, 0, none⟩)) :: u14 :: u15 :: u16 :: u17 :: u18 :: u19 :: u20 :: u21 :: u22 :: u23 :: u24 :: u25 :: u26 :: u27 :: u28 :: u29 :: u30 :: u31 :: u32 :: u33 :: u34 :: u35 :: u36 :: u37 :: u38 :: u39 :: u40 :: u41 :: u42 :: u43 :: u44 :: u45 :: u46 :: u47 :: u48 :: u49 :: u50 :: u51 :: u52 :: u53 :: u54 :: u55 :: u56 :: y57 :: y58 :: y59 :: y60 :: y61 :: y62 :: []).toArray, []⟩ w') : Code.wp Try.prog (regionIn Try.f49 12) Q ⟨(u0 :: u1 :: u2 :: u3 :: u4 :: u5 :: u6 :: u7 :: u8 :: (.pointer (some ⟨s, 0, none⟩)) :: (.pointer (some ⟨s + 1, 0, none⟩)) :: u11 :: u12 :: (.pointer (some ⟨c, 0, none⟩)) :: u14 :: u15 :: u16 :: u17 :: u18 :: u19 :: u20 :: u21 :: u22 :: u23 :: u24 :: u25 :: u26 :: u27 :: u28 :: u29 :: u30 :: u31 :: u32 :: u33 :: u34 :: u35 :: u36 :: u37 :: u38 :: u39 :: u40 :: u41 :: u42 :: u43 :: u44 :: u45 :: u46 :: u47 :: u48 :: u49 :: u50 :: u51 :: u52 :: u53 :: u54 :: u55 :: u56 :: u57 :: u58 :: u59 :: u60 :: u61 :: u62 :: []).toArray, []⟩ w := by
  have HX := Lib.hid h
  have E1 := Lib.hid (fun w => Node_any t x ht hx w)
  have E2 := Lib.hid (fun w => Node_any t y ht hy w)
  have hn1 := node_length t x
  have hn2 := node_length t y
  have fc := After.hash hNC ht
  have f9 := After.hash hN9 hx
  have f10 := After.hash hN10 hy
  clear h
  generalize node t x = n1 at *
  generalize node t y = n2 at *
  conv => arg 2; whnf
  refine wp_region_after_tail2 6 (by kernel_rfl) (by kernel_rfl) (by kernel_rfl) (by kernel_rfl) ?_
  simp only [List.take_succ_cons, List.take_zero, List.drop_succ_cons, List.drop_zero]
  repeat (first
    | (refine quiet_load_at 24 (.tmp 13) (by rfl) ⟨c, 0, none⟩ (by rfl) (hrow t) fc (by kernel_rfl) ?_; go_frame)
    | (refine quiet_load_at 24 (.tmp 9) (by rfl) ⟨s, 0, none⟩ (by rfl) (hrow x) f9 (by kernel_rfl) ?_; go_frame)
    | (refine quiet_load_at 24 (.tmp 10) (by rfl) ⟨s + 1, 0, none⟩ (by rfl) (hrow y) f10 (by kernel_rfl) ?_; go_frame)
    | (go_big_quiet_step (first | (with_reducible exact After.call (E1.out _)) | (with_reducible exact After.call (E2.out _)))))
  refine wpQuiet_nil ?_
  rintro w5 ⟨x5, rfl⟩
  have hb5 := x5.hb
  have HG := Lib.hid (((hG.of hb5).setRow s (by omega) (hrow n1)).setRow (s + 1) (by omega) (hrow n2))
  have HK := Lib.hid (((X4.of (b := b) (s := s) hb5).row (.inl rfl) (hrow n1)).row (.inr rfl) (hrow n2))
  have M9 := hN9.below hb5 hN9.lt
  have M10 := (hN10.below hb5 hN10.lt).rowOther (hrow n1) (show s + 1 ≠ s by omega)
  have R9 := Lib.hid ((M9.row (hrow n1)).rowOther (hrow n2) (show s ≠ s + 1 by omega))
  have R10 := Lib.hid (M10.row (hrow n2))
  have H9 := Lib.hid M9
  have H10 := Lib.hid M10
  have Z1 := Lib.hid (hrow_size hx)
  have Z2 := Lib.hid (hrow_size hy)
  clear fc f9 f10 E1 E2 M9 M10 hNC hN9 hN10 hG
  generalize x5.W = w5 at *
  go_wp2_with (first
    | (refine wpList_store_hash rfl (.tmp 9) (.tmp 59) rfl s n1 hn1 (by rfl) (by rfl) (hrow x) H9.out Z1.out ?_; go_frame)
    | (refine wpList_store_hash rfl (.tmp 10) (.tmp 62) rfl (s + 1) n2 hn2 (by rfl) (by rfl) (hrow y) H10.out Z2.out ?_; go_frame))
  exact HX.out _ _ _ _ _ _ _ HG.out R9.out R10.out HK.out

set_option maxRecDepth 100000 in
set_option maxHeartbeats 1000000 in
theorem walk_one (W0 w : World) (b : Nat) (so : Int) (ro : List UInt8) (v : Value) (k : Nat) (ok : Bool) (n m : Nat) (hG : CG w b so ro v k ok) (h0 : Below W0.heap.size W0 w) (hr : ro.length = 32) (hmn : m = n) :
    Calls Try.prog 49 #[.int .i64 n, .int .i64 m, .bool true, .pointer (some ⟨b, 0, none⟩), .pointer (some ⟨b + 5, 0, none⟩), .pointer (some ⟨b + 6, 0, none⟩)] w (WalkQ w b so ro v ((ro, ro), k, ok)) := by
  have e0 : ((m : Int) == (n : Int)) = true := by rw [beq_iff_eq]; omega
  clear hmn
  obtain ⟨N9, N10, hb⟩ := two_new w
  have hG1 := hG.of hb
  have hK := G2.of (b := b) hb
  have h1 := h0.trans (hb.mono h0.size)
  have hlt := hG.wk.lt
  obtain ⟨s, hs⟩ : ∃ s, w.heap.size = s := ⟨_, rfl⟩
  have hsw : w.heap.size ≤ s := by omega
  rw [hs] at N9 N10 hlt
  clear hG hb h0
  go_enter Try.func49, Try.ntmps49
  go_upto_region 1 with (refine wpList_alloc_hash rfl rfl ?_; go_frame; try simp only [World.size_alloc])
  rw [hs]
  generalize (w.alloc (.cells hz 24)).alloc (.cells hz 24) = w1 at *
  clear hs
  go_upto_region 3 with (fail)
  refine wk_r3 _ _ _ _ _ _ _ _ _ _ _ _ _ _ _ _ _ _ _ _ _ _ _ _ _ _ _ _ _ _ _ _ _ _ _ _ _ _ _ _ _ _ _ _ _ _ _ _ _ _ _ _ _ _ _ _ _ _ _ _ b s so ro v k ok w1 hG1 hlt hr N9 N10 _ ?_
  intro y18 y19 y20 y21 w2 HG M9 M10 HK
  go_wp2_with fail
  refine bodyPost_ret (v := .tuple #[.agg (hrow ro), .agg (hrow ro)]) (results_two rfl _ _ s (s + 1) _ _ hr hr rfl rfl M9 M10) rfl ?_
  exact ⟨rfl, HG, HK.g2 hK hsw⟩

set_option maxRecDepth 100000 in
set_option maxHeartbeats 1000000 in
theorem walk_tip (W0 w : World) (b : Nat) (so : Int) (ro : List UInt8) (v : Value) (k : Nat) (ok : Bool) (p : List (List UInt8)) (n m : Nat) (hG : CG w b so ro v k ok) (hA : HArg W0 v p) (hW : W0.heap.size ≤ b) (h0 : Below W0.heap.size W0 w) (ha : All32 p) (hp : p.length ≤ 4398046511104) (hk : k ≤ p.length) (hmn : m = n) :
    Calls Try.prog 49 #[.int .i64 n, .int .i64 m, .bool false, .pointer (some ⟨b, 0, none⟩), .pointer (some ⟨b + 5, 0, none⟩), .pointer (some ⟨b + 6, 0, none⟩)] w (WalkQ w b so ro v (((takeP p k ok).1, (takeP p k ok).1), (takeP p k ok).2)) := by
  have e0 : ((m : Int) == (n : Int)) = true := by rw [beq_iff_eq]; omega
  clear hmn
  obtain ⟨N9, N10, hb⟩ := two_new w
  have hG1 := hG.of hb
  have hK := G2.of (b := b) hb
  have h1 := h0.trans (hb.mono h0.size)
  have hlt := hG.wk.lt
  obtain ⟨s, hs⟩ : ∃ s, w.heap.size = s := ⟨_, rfl⟩
  have hsw : w.heap.size ≤ s := by omega
  rw [hs] at N9 N10 hlt
  clear hG hb h0
  go_enter Try.func49, Try.ntmps49
  go_upto_region 1 with (refine wpList_alloc_hash rfl rfl ?_; go_frame; try simp only [World.size_alloc])
  rw [hs]
  generalize (w.alloc (.cells hz 24)).alloc (.cells hz 24) = w1 at *
  clear hs
  have T1 := Lib.hid (take_any W0 w1 b so ro v k ok p hG1 hA hW h1 ha hp (by omega))
  have ht := takeP_len ha k ok
  generalize takeP p k ok = tr at *
  have ct := hG1.tk.cell 0 _ rfl
  go_wp2_with fail
  refine T1.out.mono ?_
  rintro e w2 ⟨rfl, HG, hk2⟩
  have P9 := N9.g2 hk2 (by omega) (by omega)
  have P10 := N10.g2 hk2 (by omega) (by omega)
  have hK := hK.trans hk2
  have hlt2 := P10.lt
  clear N9 N10 hG1 h1 T1 hk2 ct
  have hcb := (Below.refl w2.heap.size w2).alloc (Nat.le_refl _) (.cells (hrow tr.1) 24)
  have NC := Blk.new w2 (hrow tr.1) 24
  have hG3 := HG.of hcb
  have P9 := P9.alloc (.cells (hrow tr.1) 24)
  have P10 := P10.alloc (.cells (hrow tr.1) 24)
  have hK := hK.alloc (.cells (hrow tr.1) 24)
  have HZ := Lib.hid (fun w' (h : w' = w2.alloc (.cells hz 24)) => (h ▸ Blk.new w2 hz 24 : Blk w' w2.heap.size hz 24))
  have HL0 := Lib.hid hz_len
  have HP9 := Lib.hid P9
  have HP10 := Lib.hid P10
  have HNC := Lib.hid NC
  clear P9 P10 NC hcb
  go_upto_region 5 with (first
    | (refine wpList_alloc_hash rfl rfl ?_; go_frame; try simp only [World.size_alloc])
    | (refine wpList_store_hash rfl (.tmp 11) (.tmp 23) rfl w2.heap.size tr.1 ht rfl rfl hz (HZ.out _ rfl) HL0.out ?_; go_frame; rw [Blk.fresh]))
  refine wk_r5 _ _ _ _ _ _ _ _ _ _ _ _ _ _ _ _ _ _ _ _ _ _ _ _ _ _ _ _ _ _ _ _ _ _ _ _ _ _ _ _ _ _ _ _ _ _ _ _ _ _ _ _ _ _ _ _ _ _ _ _ b s so ro v tr.2.1 tr.2.2 tr.1 w2.heap.size _ hG3 hlt ht (by omega) (by omega) HNC.out HP9.out HP10.out _ ?_
  intro y24 y25 w3 HG M9 M10 HK
  go_wp2_with fail
  refine bodyPost_ret (v := .tuple #[.agg (hrow tr.1), .agg (hrow tr.1)]) (results_two rfl _ _ s (s + 1) _ _ ht ht rfl rfl M9 M10) rfl ?_
  exact ⟨rfl, HG, HK.g2 hK hsw⟩

set_option maxRecDepth 100000 in
set_option maxHeartbeats 1000000 in
theorem walk_left (W0 w : World) (b : Nat) (so : Int) (ro : List UInt8) (v : Value) (k : Nat) (ok : Bool) (p : List (List UInt8)) (n m : Nat) (hG : CG w b so ro v k ok) (hA : HArg W0 v p) (hW : W0.heap.size ≤ b) (h0 : Below W0.heap.size W0 w) (ha : All32 p) (hp : p.length ≤ 4398046511104) (hn : n ≤ 9223372036854775807) (whole : Bool) (r : (List UInt8 × List UInt8) × Nat × Bool) (hm : 1 ≤ m) (hmn : m < n) (hmk : m ≤ half n) (hr1 : r.1.1.length = 32) (hr2 : r.1.2.length = 32) (hr3 : r.2.1 ≤ p.length)
    (ih : ∀ w1, CG w1 b so ro v k ok → Below W0.heap.size W0 w1 → Calls Try.prog 49 #[.int .i64 (half n), .int .i64 m, .bool whole, .pointer (some ⟨b, 0, none⟩), .pointer (some ⟨b + 5, 0, none⟩), .pointer (some ⟨b + 6, 0, none⟩)] w1 (WalkQ w1 b so ro v r)) :
    Calls Try.prog 49 #[.int .i64 n, .int .i64 m, .bool whole, .pointer (some ⟨b, 0, none⟩), .pointer (some ⟨b + 5, 0, none⟩), .pointer (some ⟨b + 6, 0, none⟩)] w (WalkQ w b so ro v ((r.1.1, node r.1.2 (takeP p r.2.1 r.2.2).1), (takeP p r.2.1 r.2.2).2)) := by
  have e0 : ((m : Int) == (n : Int)) = false := by rw [beq_eq_false_iff_ne]; omega
  have A1 := Lib.hid (fun w => half_any n (by omega) hn w)
  have IH := Lib.hid ih
  have hn1 := node_length r.1.2 (takeP p r.2.1 r.2.2).1
  clear ih
  generalize half n = h at *
  have d1 : ((m : Int) ≤ (h : Int)) := by omega
  clear hm hmn hmk
  obtain ⟨N9, N10, hb⟩ := two_new w
  have hG1 := hG.of hb
  have hK := G2.of (b := b) hb
  have h1 := h0.trans (hb.mono h0.size)
  have hlt := hG.wk.lt
  obtain ⟨s, hs⟩ : ∃ s, w.heap.size = s := ⟨_, rfl⟩
  have hsw : w.heap.size ≤ s := by omega
  rw [hs] at N9 N10 hlt
  clear hG hb h0
  go_enter Try.func49, Try.ntmps49
  go_upto_region 1 with (refine wpList_alloc_hash rfl rfl ?_; go_frame; try simp only [World.size_alloc])
  rw [hs]
  generalize (w.alloc (.cells hz 24)).alloc (.cells hz 24) = w1 at *
  clear hs
  go_wp2_with fail
  refine (A1.out _).mono ?_; rintro e w1' ⟨rfl, rfl⟩
  have cw := hG1.wk.cell 0 _ rfl
  have H1 := Lib.hid (IH.out _ hG1 h1)
  clear IH A1
  go_wp2_with fail
  refine H1.out.mono ?_
  rintro e w2 ⟨rfl, HG, hk2⟩
  have P9 := N9.g2 hk2 (by omega) (by omega)
  have P10 := (N10.g2 hk2 (by omega) (by omega)).rowOther (hrow r.1.1) (show s + 1 ≠ s by omega)
  have h2 := h1.trans (hk2.below hW (by have := hG1.old.lt; omega))
  have R9 := (P9.row (hrow r.1.1)).rowOther (hrow r.1.2) (show s ≠ s + 1 by omega)
  have R10 := P10.row (hrow r.1.2)
  have hG3 := (HG.setRow s (by omega) (hrow r.1.1)).setRow (s + 1) (by omega) (hrow r.1.2)
  have h3 := Below.setRow (Below.setRow h2 (show W0.heap.size ≤ s by omega) (hrow r.1.1)) (show W0.heap.size ≤ s + 1 by omega) (hrow r.1.2)
  have hK := ((hK.trans hk2).setRow hsw (hrow r.1.1)).setRow (show w.heap.size ≤ s + 1 by omega) (hrow r.1.2)
  have HP9 := Lib.hid P9
  have HP10 := Lib.hid P10
  have HL0 := Lib.hid hz_len
  clear N9 N10 hG1 h1 h2 H1 hk2 P9 P10 HG cw
  go_upto_region 9 with (first
    | (refine wpList_store_hash rfl (.tmp 9) (.tmp 37) rfl s r.1.1 hr1 rfl rfl hz HP9.out HL0.out ?_; go_frame)
    | (refine wpList_store_hash rfl (.tmp 10) (.tmp 38) rfl (s + 1) r.1.2 hr2 rfl rfl hz HP10.out HL0.out ?_; go_frame))
  refine wk_r9 _ _ _ _ _ _ _ _ _ _ _ _ _ _ _ _ _ _ _ _ _ _ _ _ _ _ _ _ _ _ _ _ _ _ _ _ _ _ _ _ _ _ _ _ _ _ _ _ _ _ _ _ _ _ _ _ _ _ _ _ b s so ro v r.2.1 r.2.2 p r.1.1 r.1.2 W0 _ hG3 hlt hA hW h3 ha hp (by omega) hr1 hr2 R9 R10 _ ?_
  intro y39 y40 y41 y42 y43 w3 HG M9 M10 HK
  go_wp2_with fail
  refine bodyPost_ret (v := .tuple #[.agg (hrow r.1.1), .agg (hrow (node r.1.2 (takeP p r.2.1 r.2.2).1))]) (results_two rfl _ _ s (s + 1) _ _ hr1 hn1 rfl rfl M9 M10) rfl ?_
  exact ⟨rfl, HG, HK.g2 hK hsw⟩

set_option maxRecDepth 100000 in
set_option maxHeartbeats 1000000 in
theorem walk_right (W0 w : World) (b : Nat) (so : Int) (ro : List UInt8) (v : Value) (k : Nat) (ok : Bool) (p : List (List UInt8)) (n m : Nat) (hG : CG w b so ro v k ok) (hA : HArg W0 v p) (hW : W0.heap.size ≤ b) (h0 : Below W0.heap.size W0 w) (ha : All32 p) (hp : p.length ≤ 4398046511104) (hn : n ≤ 9223372036854775807) (whole : Bool) (r : (List UInt8 × List UInt8) × Nat × Bool) (hm : half n < m) (hmn : m < n) (hr1 : r.1.1.length = 32) (hr2 : r.1.2.length = 32) (hr3 : r.2.1 ≤ p.length)
    (ih : ∀ w1, CG w1 b so ro v k ok → Below W0.heap.size W0 w1 → Calls Try.prog 49 #[.int .i64 ((n - half n : Nat) : Int), .int .i64 ((m - half n : Nat) : Int), .bool false, .pointer (some ⟨b, 0, none⟩), .pointer (some ⟨b + 5, 0, none⟩), .pointer (some ⟨b + 6, 0, none⟩)] w1 (WalkQ w1 b so ro v r)) :
    Calls Try.prog 49 #[.int .i64 n, .int .i64 m, .bool whole, .pointer (some ⟨b, 0, none⟩), .pointer (some ⟨b + 5, 0, none⟩), .pointer (some ⟨b + 6, 0, none⟩)] w (WalkQ w b so ro v ((node (takeP p r.2.1 r.2.2).1 r.1.1, node (takeP p r.2.1 r.2.2).1 r.1.2), (takeP p r.2.1 r.2.2).2)) := by
  have e0 : ((m : Int) == (n : Int)) = false := by rw [beq_eq_false_iff_ne]; omega
  have A1 := Lib.hid (fun w => half_any n (by omega) hn w)
  have e1 : ((n - half n : Nat) : Int) = (n : Int) - (half n : Int) := by omega
  have e2 : ((m - half n : Nat) : Int) = (m : Int) - (half n : Int) := by omega
  rw [e1, e2] at ih
  have IH := Lib.hid ih
  clear ih e1 e2
  generalize half n = h at *
  have d1 : ¬ ((m : Int) ≤ (h : Int)) := by omega
  have d2 : (0 : Int) ≤ (h : Int) := by omega
  have d3 : (h : Int) < (n : Int) := by omega
  have d4 : (m : Int) < (n : Int) := by omega
  have d5 : (n : Int) ≤ 9223372036854775807 := by omega
  clear hm hmn
  obtain ⟨N9, N10, hb⟩ := two_new w
  have hG1 := hG.of hb
  have hK := G2.of (b := b) hb
  have h1 := h0.trans (hb.mono h0.size)
  have hlt := hG.wk.lt
  obtain ⟨s, hs⟩ : ∃ s, w.heap.size = s := ⟨_, rfl⟩
  have hsw : w.heap.size ≤ s := by omega
  rw [hs] at N9 N10 hlt
  clear hG hb h0
  go_enter Try.func49, Try.ntmps49
  go_upto_region 1 with (refine wpList_alloc_hash rfl rfl ?_; go_frame; try simp only [World.size_alloc])
  rw [hs]
  generalize (w.alloc (.cells hz 24)).alloc (.cells hz 24) = w1 at *
  clear hs
  go_wp2_with fail
  refine (A1.out _).mono ?_; rintro e w1' ⟨rfl, rfl⟩
  have cw := hG1.wk.cell 0 _ rfl
  have H1 := Lib.hid (IH.out _ hG1 h1)
  clear IH A1
  go_wp2_with fail
  refine H1.out.mono ?_
  rintro e w2 ⟨rfl, HG, hk2⟩
  have P9 := N9.g2 hk2 (by omega) (by omega)
  have P10 := (N10.g2 hk2 (by omega) (by omega)).rowOther (hrow r.1.1) (show s + 1 ≠ s by omega)
  have h2 := h1.trans (hk2.below hW (by have := hG1.old.lt; omega))
  have R9 := (P9.row (hrow r.1.1)).rowOther (hrow r.1.2) (show s ≠ s + 1 by omega)
  have R10 := P10.row (hrow r.1.2)
  have hG3 := (HG.setRow s (by omega) (hrow r.1.1)).setRow (s + 1) (by omega) (hrow r.1.2)
  have h3 := Below.setRow (Below.setRow h2 (show W0.heap.size ≤ s by omega) (hrow r.1.1)) (show W0.heap.size ≤ s + 1 by omega) (hrow r.1.2)
  have hK := ((hK.trans hk2).setRow hsw (hrow r.1.1)).setRow (show w.heap.size ≤ s + 1 by omega) (hrow r.1.2)
  have HP9 := Lib.hid P9
  have HP10 := Lib.hid P10
  have HL0 := Lib.hid hz_len
  clear N9 N10 hG1 h1 h2 H1 hk2 P9 P10 HG cw
  go_upto_region 11 with (first
    | (refine wpList_store_hash rfl (.tmp 9) (.tmp 53) rfl s r.1.1 hr1 rfl rfl hz HP9.out HL0.out ?_; go_frame)
    | (refine wpList_store_hash rfl (.tmp 10) (.tmp 54) rfl (s + 1) r.1.2 hr2 rfl rfl hz HP10.out HL0.out ?_; go_frame))
  clear HP9 HP10 HL0
  generalize (w2.setRow s (hrow r.1.1)).setRow (s + 1) (hrow r.1.2) = w3 at *
  have T1 := Lib.hid (take_any W0 w3 b so ro v r.2.1 r.2.2 p hG3 hA hW h3 ha hp (by omega))
  have ct := hG3.tk.cell 0 _ rfl
  have ht := takeP_len ha r.2.1 r.2.2
  generalize takeP p r.2.1 r.2.2 = tr at *
  go_wp2_with fail
  refine T1.out.mono ?_
  rintro e w4 ⟨rfl, HG, hk2⟩
  have P9 := R9.g2 hk2 (by omega) (by omega)
  have P10 := R10.g2 hk2 (by omega) (by omega)
  have hK := hK.trans hk2
  have hn1 := node_length tr.1 r.1.1
  have hn2 := node_length tr.1 r.1.2
  clear R9 R10 hG3 h3 T1 hk2 ct
  have hcb := (Below.refl w4.heap.size w4).alloc (Nat.le_refl _) (.cells (hrow tr.1) 24)
  have NC := Blk.new w4 (hrow tr.1) 24
  have hG3 := HG.of hcb
  have P9 := P9.alloc (.cells (hrow tr.1) 24)
  have P10 := P10.alloc (.cells (hrow tr.1) 24)
  have hK := hK.alloc (.cells (hrow tr.1) 24)
  have HZ := Lib.hid (fun w' (h : w' = w4.alloc (.cells hz 24)) => (h ▸ Blk.new w4 hz 24 : Blk w' w4.heap.size hz 24))
  have HL0 := Lib.hid hz_len
  have HP9 := Lib.hid P9
  have HP10 := Lib.hid P10
  have HNC := Lib.hid NC
  clear P9 P10 NC hcb
  go_upto_region 12 with (first
    | (refine wpList_alloc_hash rfl rfl ?_; go_frame; try simp only [World.size_alloc])
    | (refine wpList_store_hash rfl (.tmp 13) (.tmp 56) rfl w4.heap.size tr.1 ht rfl rfl hz (HZ.out _ rfl) HL0.out ?_; go_frame; rw [Blk.fresh]))
  refine wk_r12 _ _ _ _ _ _ _ _ _ _ _ _ _ _ _ _ _ _ _ _ _ _ _ _ _ _ _ _ _ _ _ _ _ _ _ _ _ _ _ _ _ _ _ _ _ _ _ _ _ _ _ _ _ _ _ _ _ _ _ _ b s so ro v tr.2.1 tr.2.2 w4.heap.size tr.1 r.1.1 r.1.2 _ hG3 hlt ht hr1 hr2 HNC.out HP9.out HP10.out _ ?_
  intro y57 y58 y59 y60 y61 y62 w5 HG M9 M10 HK
  go_wp2_with fail
  refine bodyPost_ret (v := .tuple #[.agg (hrow (node tr.1 r.1.1)), .agg (hrow (node tr.1 r.1.2))]) (results_two rfl _ _ s (s + 1) _ _ hn1 hn2 rfl rfl M9 M10) rfl ?_
  exact ⟨rfl, HG, HK.g2 hK hsw⟩

theorem walk_any (W0 : World) (b : Nat) (so : Int) (ro : List UInt8) (v : Value) (p : List (List UInt8)) (hA : HArg W0 v p) (hW : W0.heap.size ≤ b) (ha : All32 p) (hp : p.length ≤ 4398046511104) (hr : ro.length = 32) (N : Nat) :
    ∀ (n m : Nat) (whole : Bool) (k : Nat) (ok : Bool) (w : World), n ≤ N → 1 ≤ m → m ≤ n → n ≤ 9223372036854775807 → k ≤ p.length → CG w b so ro v k ok → Below W0.heap.size W0 w →
      Calls Try.prog 49 #[.int .i64 n, .int .i64 m, .bool whole, .pointer (some ⟨b, 0, none⟩), .pointer (some ⟨b + 5, 0, none⟩), .pointer (some ⟨b + 6, 0, none⟩)] w (WalkQ w b so ro v (walkP p ro m n whole k ok)) := by
  induction N with
  | zero => intro n m whole k ok w h0 h1 h2; omega
  | succ N ih =>
    intro n m whole k ok w hN hm hmn hn hk hG h0
    by_cases he : m = n
    · rw [walkP, dif_pos (.inl (by omega))]
      cases whole with
      | true => exact walk_one W0 w b so ro v k ok n m hG h0 hr he
      | false => exact walk_tip W0 w b so ro v k ok p n m hG hA hW h0 ha hp hk he
    · have h1 := half_lt (n := n) (by omega)
      have h2 := half_pos (n := n) (by omega)
      by_cases hh : m ≤ half n
      · rw [walkP, dif_neg (by omega), if_pos hh]
        obtain ⟨r1, r2, r3⟩ := walkP_ok (ro := ro) ha hr (half n) m whole k ok hk
        exact walk_left W0 w b so ro v k ok p n m hG hA hW h0 ha hp hn whole _ hm (by omega) hh r1 r2 r3 (fun w1 g1 g0 => ih (half n) m whole k ok w1 (by omega) hm hh (by omega) hk g1 g0)
      · rw [walkP, dif_neg (by omega), if_neg hh]
        obtain ⟨r1, r2, r3⟩ := walkP_ok (ro := ro) ha hr (n - half n) (m - half n) false k ok hk
        exact walk_right W0 w b so ro v k ok p n m hG hA hW h0 ha hp hn whole _ (by omega) (by omega) r1 r2 r3 (fun w1 g1 g0 => ih (n - half n) (m - half n) false k ok w1 (by omega) (by omega) (by omega) (by omega) hk g1 g0)
/-- What walk comes to. -/
theorem walkP_both (p : List (List UInt8)) (ro : List UInt8) (n : Nat) : ∀ (m : Nat) (whole : Bool) (k : Nat), 1 ≤ m → m ≤ n → k ≤ p.length →
    (k + many m n whole ≤ p.length → walkP p ro m n whole k true = (both m n whole ro ((p.drop k).take (many m n whole)), k + many m n whole, true)) ∧
    (p.length < k + many m n whole → (walkP p ro m n whole k true).2.2 = false) := by
  have tt : ∀ k, k < p.length → ∃ h, p[k]? = some h ∧ takeP p k true = (h, k + 1, true) := fun k hk => ⟨p[k], List.getElem?_eq_getElem hk, by unfold takeP; rw [dif_pos ⟨rfl, hk⟩]⟩
  have tf : ∀ k, ¬ k < p.length → (takeP p k true).2.2 = false := fun k hk => by unfold takeP; rw [dif_neg (by simp; omega)]
  have tff : ∀ k, (takeP p k false).2.2 = false := fun k => by unfold takeP; rw [dif_neg (by simp)]
  have sn : ∀ k c h, p[k + c]? = some h → (p.drop k).take (c + 1) = (p.drop k).take c ++ [h] := fun k c h hh => by
    rw [List.take_add_one, List.getElem?_drop, hh]; rfl
  induction n using Nat.strongRecOn with
  | _ n ih =>
    intro m whole k hm hmn hk
    by_cases he : m = n
    · rw [many_end he, both_end he, walkP, dif_pos (.inl (by omega))]
      cases whole with
      | true => exact ⟨fun _ => rfl, fun h => by simp at h; omega⟩
      | false =>
        refine ⟨fun h => ?_, fun h => tf k (by simp at h; omega)⟩
        obtain ⟨x, hx, ht⟩ := tt k (by simp at h; omega)
        have h1 := sn k 0 x (by simpa using hx)
        simp only [Bool.false_eq_true, if_false, ht]
        rw [show (p.drop k).take 1 = [x] by simpa using h1]
        rfl
    · have h1 := half_lt (n := n) (by omega)
      have h2 := half_pos (n := n) (by omega)
      by_cases hh : m ≤ half n
      · rw [many_left hm (by omega) hh]
        obtain ⟨i1, i2⟩ := ih (half n) h1 m whole k hm hh hk
        rw [walkP, dif_neg (by omega), if_pos hh]
        generalize many m (half n) whole = c at *
        refine ⟨fun h => ?_, fun h => ?_⟩
        · rw [i1 (by omega)]
          obtain ⟨x, hx, ht⟩ := tt (k + c) (by omega)
          rw [show 1 + c = c + 1 by omega, sn k c x hx, both_left hm (by omega) hh]
          simp only [ht]
          rfl
        · by_cases hc : k + c ≤ p.length
          · rw [i1 hc]
            exact tf (k + c) (by omega)
          · have := i2 (by omega)
            simp only [this]
            exact tff _
      · rw [many_right hm (by omega) hh]
        obtain ⟨i1, i2⟩ := ih (n - half n) (by omega) (m - half n) false k (by omega) (by omega) hk
        rw [walkP, dif_neg (by omega), if_neg hh]
        generalize many (m - half n) (n - half n) false = c at *
        refine ⟨fun h => ?_, fun h => ?_⟩
        · rw [i1 (by omega)]
          obtain ⟨x, hx, ht⟩ := tt (k + c) (by omega)
          rw [show 1 + c = c + 1 by omega, sn k c x hx, both_right hm (by omega) hh]
          simp only [ht]
          rfl
        · by_cases hc : k + c ≤ p.length
          · rw [i1 hc]
            exact tf (k + c) (by omega)
          · have := i2 (by omega)
            simp only [this]
            exact tff _
/-- CheckGrowth's last test is the reference's. -/
theorem walkP_check (p : List (List UInt8)) (ro rn : List UInt8) (m n : Nat) (hm : 1 ≤ m) (hmn : m < n) :
    ((walkP p ro m n true 0 true).2.2 && decide ((walkP p ro m n true 0 true).2.1 = p.length) && (walkP p ro m n true 0 true).1.1 == ro && (walkP p ro m n true 0 true).1.2 == rn) = checkG m ro n rn p := by
  obtain ⟨i1, i2⟩ := walkP_both p ro n m true 0 hm (by omega) (by omega)
  unfold checkG
  rw [if_neg (by omega), if_neg (by omega), if_neg (by omega)]
  simp only [Int.toNat_natCast]
  by_cases hc : p.length = many m n true
  · rw [if_pos hc, i1 (by omega), List.drop_zero, ← hc, List.take_of_length_le (Nat.le_refl _)]
    simp
  · rw [if_neg hc]
    by_cases hlt : many m n true ≤ p.length
    · rw [i1 (by omega)]
      have : decide (0 + many m n true = p.length) = false := decide_eq_false (by omega)
      simp only [this]
      simp
    · rw [i2 (by omega)]
      simp
end Go.Proofs.Ytjekdeikoebmgaa
