/- The comparison and the loops of TreeChecks. Conditions: sizes. -/
import Derived.Test.YtjekdeikoebmgaaBent
import Derived.Test.YtjekdeikoebmgaaArgsG
import Derived.Test.YtjekdeikoebmgaaRefI
import Derived.SliceStrings
namespace Go.Proofs.Ytjekdeikoebmgaa
open Go.RowKit Go.Shelf Tr

theorem After.headC {w : World} {g : Nat} {n : Int} {y : List UInt8} (h : Blk w g (hdrow n y) 38) (hy : y.length = 32) : ∀ x : After w, (loadVar 38 ⟨g, 0, none⟩).run Try.prog x.W = .ok (.agg (hdrow n y)) x.W := fun x =>
  run_loadVar_row x.W g _ _ (hdrow n y) (0, 0) _ (h.below x.hb h.lt) Try.underlying38 rfl (hinfoD n y hy)
theorem hd_set (n m : Int) (x : List UInt8) : (hdrow n x).setIfInBounds 0 (.int .i64 m) = hdrow m x := by unfold hdrow; simp
theorem cat_x (s : List UInt8) (hs : s.length ≤ 1000) : Op.stringOp .add ⟨s.toArray⟩ ⟨#[120]⟩ = pure (S (s ++ [120])) := by
  rw [cat ⟨s.toArray⟩ ⟨#[120]⟩ (by show s.length + 1 ≤ _; omega)]
  congr 1

set_option maxRecDepth 100000 in
set_option maxHeartbeats 2000000 in
theorem ck_r18 (u0 u2 u3 u4 u6 u8 u10 u11 u12 u14 u16 u18 u19 u20 u21 u22 u23 u24 u25 u26 u27 u28 u29 u30 u31 u32 u33 u34 u35 u36 u37 u38 u39 u40 u41 u42 u43 u44 u45 u46 u47 u48 u49 u50 u51 u52 u53 u54 u55 u56 u57 u58 u59 u60 u61 u62 u63 u64 u65 u66 u67 u68 u69 u70 u71 u72 u73 u74 u75 u76 u77 u78 u79 u80 u81 u82 u83 u84 u85 u86 u87 u88 u89 u90 u91 u92 u93 u94 u95 u96 u97 u98 u99 u100 u101 u102 u103 u104 u105 u106 u107 u108 u109 u110 u111 u112 u113 u114 u115 u116 u117 u118 u119 u120 u121 u122 u123 u124 u125 u126 u127 u128 u129 vj : Value) (N M z1 z2 q0 q1 q2 q3 : Int) (bq b9 b13 : Nat) (rt x : List UInt8) (c d ee : Bool) (w : World) (hr : rt.length = 32) (N9 : Blk w b9 (hdrow z1 rt) 38) (N13 : Blk w b13 (hdrow z2 rt) 38) (NQ : Blk w bq #[.int .i64 q0, .int .i64 q1, .int .i64 q2, .int .i64 q3] 41) (hM : IntKind.i64.wrap (N + q3) = M)
    (C1 : ∀ x' : After w, Calls Try.prog 24 #[.agg (hdrow z1 rt), .int .i64 N, S x, vj] x'.W fun e w' => e = .returned (.bool c) ∧ Below x'.W.heap.size x'.W w')
    (C2 : ∀ x' : After w, Calls Try.prog 27 #[.agg (hdrow z1 rt), .int .i64 N, S x, vj] x'.W fun e w' => e = .returned (.bool c) ∧ Below x'.W.heap.size x'.W w')
    (C3 : ∀ x' : After w, Calls Try.prog 24 #[.agg (hdrow z2 rt), .int .i64 N, S x, vj] x'.W fun e w' => e = .returned (.bool d) ∧ Below x'.W.heap.size x'.W w')
    (C4 : ∀ x' : After w, Calls Try.prog 27 #[.agg (hdrow z2 rt), .int .i64 N, S x, vj] x'.W fun e w' => e = .returned (.bool d) ∧ Below x'.W.heap.size x'.W w')
    (C5 : ∀ x' : After w, Calls Try.prog 24 #[.agg (hdrow z1 rt), .int .i64 M, S x, vj] x'.W fun e w' => e = .returned (.bool ee) ∧ Below x'.W.heap.size x'.W w')
    (C6 : ∀ x' : After w, Calls Try.prog 27 #[.agg (hdrow z1 rt), .int .i64 M, S x, vj] x'.W fun e w' => e = .returned (.bool ee) ∧ Below x'.W.heap.size x'.W w')
    (Q : Exit → Act → World → Prop) (h : ∀ (y84 y85 y86 y87 y88 y89 y90 y91 y92 y93 y94 y95 y96 y97 y98 y99 y100 y101 y102 y103 y104 y105 y106 y107 y108 y109 y110 y111 y112 y113 y114 y115 y116 y117 y118 y119 y120 y121 y122 y123 y124 y125 : Value) (w' : World), Below w.heap.size w w' → Q .normal ⟨(u0 :: (.int .i64 N) :: u2 :: u3 :: u4 :: (.pointer (some ⟨bq, 0, none⟩)) :: u6 :: (.bool true) :: u8 :: (.pointer (some ⟨b9, 0, none⟩)) :: u10 :: u11 :: u12 :: (.pointer (some ⟨b13, 0, none⟩)) :: u14 :: (S x) :: u16 :: vj :: u18 :: u19 :: u20 :: u21 :: u22 :: u23 :: u24 :: u25 :: u26 :: u27 :: u28 :: u29 :: u30 :: u31 :: u32 :: u33 :: u34 :: u35 :: u36 :: u37 :: u38 :: u39 :: u40 :: u41 :: u42 :: u43 :: u44 :: u45 :: u46 :: u47 :: u48 :: u49 :: u50 :: u51 :: u52 :: u53 :: u54 :: u55 :: u56 :: u57 :: u58 :: u59 :: u60 :: u61 :: u62 :: u63 :: u64 :: u65 :: u66 :: u67 :: u68 :: u69 :: u70 :: u71 :: u72 :: u73 :: u74 :: u75 :: u76 :: u77 :: u78 :: u79 :: u80 :: u81 :: u82 :: u83 :: y84 :: y85 :: y86 :: y87 :: y88 :: y89 :: y90 :: y91 :: y92 :: y93 :: y94 :: y95 :: y96 :: y97 :: y98 :: y99 :: y100 :: y101 :: y102 :: y103 :: y104 :: y105 :: y106 :: y107 :: y108 :: y109 :: y110 :: y111 :: y112 :: y113 :: y114 :: y115 :: y116 :: y117 :: y118 :: y119 :: y120 :: y121 :: y122 :: y123 :: y124 :: y125 :: (.bool false) :: u127 :: u128 :: u129 :: []).toArray, []⟩ w') : Code.wp Try.prog (regionIn Try.f5 18) Q ⟨(u0 :: (.int .i64 N) :: u2 :: u3 :: u4 :: (.pointer (some ⟨bq, 0, none⟩)) :: u6 :: (.bool true) :: u8 :: (.pointer (some ⟨b9, 0, none⟩)) :: u10 :: u11 :: u12 :: (.pointer (some ⟨b13, 0, none⟩)) :: u14 :: (S x) :: u16 :: vj :: u18 :: u19 :: u20 :: u21 :: u22 :: u23 :: u24 :: u25 :: u26 :: u27 :: u28 :: u29 :: u30 :: u31 :: u32 :: u33 :: u34 :: u35 :: u36 :: u37 :: u38 :: u39 :: u40 :: u41 :: u42 :: u43 :: u44 :: u45 :: u46 :: u47 :: u48 :: u49 :: u50 :: u51 :: u52 :: u53 :: u54 :: u55 :: u56 :: u57 :: u58 :: u59 :: u60 :: u61 :: u62 :: u63 :: u64 :: u65 :: u66 :: u67 :: u68 :: u69 :: u70 :: u71 :: u72 :: u73 :: u74 :: u75 :: u76 :: u77 :: u78 :: u79 :: u80 :: u81 :: u82 :: u83 :: u84 :: u85 :: u86 :: u87 :: u88 :: u89 :: u90 :: u91 :: u92 :: u93 :: u94 :: u95 :: u96 :: u97 :: u98 :: u99 :: u100 :: u101 :: u102 :: u103 :: u104 :: u105 :: u106 :: u107 :: u108 :: u109 :: u110 :: u111 :: u112 :: u113 :: u114 :: u115 :: u116 :: u117 :: u118 :: u119 :: u120 :: u121 :: u122 :: u123 :: u124 :: u125 :: u126 :: u127 :: u128 :: u129 :: []).toArray, []⟩ w := by
  have HX := Lib.hid h
  have f9 := After.headC N9 hr
  have f13 := After.headC N13 hr
  have fq := After.cell (NQ.cell 3 _ rfl)
  have qc : (c != c) = false := by simp
  have qd : (d != d) = false := by simp
  have qe : (ee != ee) = false := by simp
  have D1 := Lib.hid C1
  have D2 := Lib.hid C2
  have D3 := Lib.hid C3
  have D4 := Lib.hid C4
  have D5 := Lib.hid C5
  have D6 := Lib.hid C6
  clear h N9 N13 NQ C1 C2 C3 C4 C5 C6
  generalize hdrow z1 rt = R9 at *
  generalize hdrow z2 rt = R13 at *
  conv => arg 2; whnf
  refine wp_region_after (by kernel_rfl) (by kernel_rfl) ?_
  repeat (first
    | (refine quiet_load_at 38 (.tmp 9) (by rfl) ⟨b9, 0, none⟩ (by rfl) R9 f9 (by kernel_rfl) ?_; go_frame)
    | (refine quiet_load_at 38 (.tmp 13) (by rfl) ⟨b13, 0, none⟩ (by rfl) R13 f13 (by kernel_rfl) ?_; go_frame)
    | (go_big_quiet_step (first | (with_reducible exact After.call (D1.out _)) | (with_reducible exact After.call (D2.out _)) | (with_reducible exact After.call (D3.out _)) | (with_reducible exact After.call (D4.out _)) | (with_reducible exact After.call (D5.out _)) | (with_reducible exact After.call (D6.out _)))))
  refine wpQuiet_nil ?_
  rintro w5 ⟨x5, rfl⟩
  exact HX.out _ _ _ _ _ _ _ _ _ _ _ _ _ _ _ _ _ _ _ _ _ _ _ _ _ _ _ _ _ _ _ _ _ _ _ _ _ _ _ _ _ _ _ x5.hb

theorem two_strs (w : World) (a b : List UInt8) : (Instr.buildSlice 22 2 #[(0, S a), (1, S b)]).run Try.prog w = .ok (.slice (some ⟨w.heap.size, 0, none⟩) 2 2) (w.alloc (.cells #[S a, S b] 9)) := by
  obtain ⟨i0, hi, hz0, hz1, _⟩ := info_parts infoStr
  exact run_buildSlice w 22 9 2 _ _ i0 _ Try.underlying22 hi hz0 (by rw [hz1]; decide) (by rw [hz1]; decide) (by rw [hz1]; kernel_rfl)
theorem infoSH : (Try.prog.info? 32).map (fun i => (i.zero, i.size, i.bytes)) = some (some (.slice none 0 0), 1, 24) := by kernel_rfl
theorem two_lists (w : World) (a b : Value) (ha : ∃ x n c, a = .slice x n c) (hb : ∃ x n c, b = .slice x n c) : (Instr.buildSlice 44 2 #[(0, a), (1, b)]).run Try.prog w = .ok (.slice (some ⟨w.heap.size, 0, none⟩) 2 2) (w.alloc (.cells #[a, b] 32)) := by
  obtain ⟨x, n, c, rfl⟩ := ha
  obtain ⟨x', n', c', rfl⟩ := hb
  obtain ⟨i0, hi, hz0, hz1, _⟩ := info_parts infoSH
  exact run_buildSlice w 44 32 2 _ _ i0 _ Try.underlying44 hi hz0 (by rw [hz1]; decide) (by rw [hz1]; decide) (by rw [hz1]; kernel_rfl)
set_option maxRecDepth 100000 in
set_option maxHeartbeats 2000000 in
theorem ck_t10 (u0 u2 u3 u4 u6 u8 u11 u13 u14 u15 u16 u17 u18 u19 u20 u21 u22 u23 u24 u25 u26 u27 u28 u29 u30 u31 u32 u33 u34 u35 u36 u37 u38 u39 u40 u41 u42 u43 u44 u45 u46 u47 u48 u49 u50 u51 u52 u53 u54 u55 u56 u57 u58 u59 u60 u61 u62 u63 u64 u65 u66 u67 u68 u69 u70 u71 u72 u73 u74 u75 u76 u77 u78 u79 u80 u81 u82 u83 u84 u85 u86 u87 u88 u89 u90 u91 u92 u93 u94 u95 u96 u97 u98 u99 u100 u101 u102 u103 u104 u105 u106 u107 u108 u109 u110 u111 u112 u113 u114 u115 u116 u117 u118 u119 u120 u121 u122 u123 u124 u125 u126 u127 u128 u129 v10 : Value) (N q0 q1 q2 q3 z1 : Int) (bq b9 : Nat) (rt s : List UInt8) (p : List (List UInt8)) (W0 w : World) (hr : rt.length = 32) (hs : s.length ≤ 1000) (hp : All32 p) (hpl : p.length ≤ 100) (hz0 : 0 ≤ z1) (hz1 : z1 ≤ 100)
    (NQ : Blk w bq #[.int .i64 q0, .int .i64 q1, .int .i64 q2, .int .i64 q3] 41) (N9 : Blk w b9 (hdrow z1 rt) 38) (HP : HArg w v10 p) (hB : Below W0.heap.size W0 w) (K : Act → World → Prop)
    (hK : ∀ a w, Code.wp Try.prog (tailIn Try.f5 9) (bodyPost Try.prog Try.f5 (fun e w' => e = .returned (.bool true) ∧ Below W0.heap.size W0 w')) a w → K a w) :
    Code.wp Try.prog (regionIn Try.f5 10) (Exit.then K (bodyPost Try.prog Try.f5 (fun e w' => e = .returned (.bool true) ∧ Below W0.heap.size W0 w'))) ⟨(u0 :: (.int .i64 N) :: u2 :: u3 :: u4 :: (.pointer (some ⟨bq, 0, none⟩)) :: u6 :: (.bool true) :: u8 :: (.pointer (some ⟨b9, 0, none⟩)) :: v10 :: u11 :: (S s) :: u13 :: u14 :: u15 :: u16 :: u17 :: u18 :: u19 :: u20 :: u21 :: u22 :: u23 :: u24 :: u25 :: u26 :: u27 :: u28 :: u29 :: u30 :: u31 :: u32 :: u33 :: u34 :: u35 :: u36 :: u37 :: u38 :: u39 :: u40 :: u41 :: u42 :: u43 :: u44 :: u45 :: u46 :: u47 :: u48 :: u49 :: u50 :: u51 :: u52 :: u53 :: u54 :: u55 :: u56 :: u57 :: u58 :: u59 :: u60 :: u61 :: u62 :: u63 :: u64 :: u65 :: u66 :: u67 :: u68 :: u69 :: u70 :: u71 :: u72 :: u73 :: u74 :: u75 :: u76 :: u77 :: u78 :: u79 :: u80 :: u81 :: u82 :: u83 :: u84 :: u85 :: u86 :: u87 :: u88 :: u89 :: u90 :: u91 :: u92 :: u93 :: u94 :: u95 :: u96 :: u97 :: u98 :: u99 :: u100 :: u101 :: u102 :: u103 :: u104 :: u105 :: u106 :: u107 :: u108 :: u109 :: u110 :: u111 :: u112 :: u113 :: u114 :: u115 :: u116 :: u117 :: u118 :: u119 :: u120 :: u121 :: u122 :: u123 :: u124 :: u125 :: u126 :: u127 :: u128 :: u129 :: []).toArray, []⟩ w := by
  have HKK := Lib.hid hK
  have I9 := Lib.hid (hinfoD z1 rt hr)
  have O9 := Lib.hid (hdrow_one z1 rt)
  have HZ0 := Lib.hid zeroHead
  have HZ := Lib.hid (show (hdrow 0 (List.replicate 32 0)).size = (hdrow z1 rt).size by rw [hdrow_size _ hr, hdrow_size _ hz_len2])
  have hS1 : s.length ≤ 140737488354000 := by omega
  have hS2 : (s ++ [120]).length ≤ 140737488354000 := by rw [List.length_append]; simp; omega
  have NH := Lib.hid N9
  have NZ := Lib.hid (Blk.new w (hdrow 0 (List.replicate 32 0)) 38)
  have hB1 := hB.alloc hB.size (.cells (hdrow z1 rt) 38)
  have b1 := (Below.refl w.heap.size w).alloc (Nat.le_refl _) (.cells (hdrow z1 rt) 38)
  have N13 := Blk.new w (hdrow z1 rt) 38
  have hB0 := hB.size
  clear hK hB
  conv => arg 2; whnf
  obtain ⟨RZ, hRZ⟩ : ∃ RZ, hdrow 0 (List.replicate 32 0) = RZ := ⟨_, rfl⟩
  rw [hRZ] at NZ HZ HZ0
  clear hRZ
  obtain ⟨R9, hR9⟩ : ∃ R9, hdrow z1 rt = R9 := ⟨_, rfl⟩
  rw [hR9] at I9 O9 HZ NH hB1 b1 N13
  have HR9 := Lib.hid hR9
  clear hR9
  go_wp2_with (first
    | (refine wpList_load_row_g (by kernel_rfl) 38 (.tmp 9) rfl b9 rfl _ _ _ _ NH.out Try.underlying38 rfl I9.out ?_; go_frame)
    | (refine wpList_alloc_row rfl 38 rfl RZ HZ0.out ?_; go_frame; try simp only [World.size_alloc])
    | (refine wpList_store_row rfl 38 (.tmp 13) (.tmp 54) rfl w.heap.size R9 rfl rfl 38 _ NZ.out I9.out HZ.out O9.out ?_; go_frame; rw [World.setRow_alloc_new]))
  refine HKK.out _ _ ?_
  clear NH NZ HZ HZ0 I9 O9 HKK
  have NQ1 := NQ.below b1 NQ.lt
  generalize w.alloc (.cells R9 38) = w1 at *
  conv => arg 2; whnf
  have c13 := N13.cell 0 (.int .i64 z1) (by rw [← HR9.out]; rfl)
  have f13 := N13.frozen 0
  have cq2 := NQ1.cell 2 _ rfl
  obtain ⟨z2, hz2⟩ : ∃ z2, wrap64 (z1 + q2) = z2 := ⟨_, rfl⟩
  have hz3 : IntKind.i64.wrap (z1 + q2) = z2 := by rw [IntWalk.i64_left]; exact hz2
  have hz4 : z2 ≤ 9223372036854775807 := by unfold wrap64 at hz2; omega
  have hw2 := b1.setCell (p := ⟨w.heap.size, 0, none⟩) (Nat.le_refl _) (.int .i64 z2)
  have hB2 := hB1.setCell (p := ⟨w.heap.size, 0, none⟩) hB0 (.int .i64 z2)
  have N13b := N13.set 0 (.int .i64 z2)
  rw [← HR9.out, hd_set] at N13b
  have HN13 := Lib.hid N13b
  clear N13b
  go_upto_region 12 with (fail)
  have N13 := HN13.out
  clear HN13 c13 f13 cq2 hz2 hz3 hB1 NQ1 b1 HR9
  generalize w1.setCell ⟨w.heap.size, 0, none⟩ (.int .i64 z2) = w2 at *
  have NQ := NQ.below hw2 NQ.lt
  have N9 := N9.below hw2 N9.lt
  have HP := HP.below hw2
  generalize w.heap.size = b13 at *
  have hcat := cat_x s hs
  have HBS := Lib.hid (two_strs w2 s (s ++ [120]))
  have bw3 := (Below.refl w2.heap.size w2).alloc (Nat.le_refl _) (.cells #[S s, S (s ++ [120])] 9)
  have hB3 := hB2.alloc hB2.size (.cells #[S s, S (s ++ [120])] 9)
  have NS := Blk.new w2 #[S s, S (s ++ [120])] 9
  generalize s ++ [120] = s' at *
  clear hB2 hw2
  go_wp2_with (refine wpList_build_run rfl 22 2 #[(0, .tmp 61), (1, .tmp 63)] rfl #[(0, S s), (1, S s')] rfl _ _ HBS.out ?_)
  have NQ := NQ.below bw3 NQ.lt
  have N9 := N9.below bw3 N9.lt
  have N13 := N13.below bw3 N13.lt
  have HP := HP.below bw3
  clear HBS hcat bw3
  generalize w2.alloc (.cells #[S s, S s'] 9) = w3 at *
  generalize w2.heap.size = bS at *
  go_loopw [66] (fun i wr => ∃ k : Nat, k ≤ 2 ∧ i = .int .i64 k ∧ Below w3.heap.size w3 wr ∧ Below W0.heap.size W0 wr) (fun i _ => 2 - (intOf i).toNat)
  case atStart => exact ⟨0, by omega, rfl, Below.refl _ _, hB3⟩
  case round =>
    clear hB3
    obtain ⟨k, hk, rfl, hb, hB⟩ := hrel
    by_cases hlt : k < 2
    · obtain ⟨x, hxl, hx⟩ : ∃ x : List UInt8, x.length ≤ 140737488354000 ∧ (#[S s, S s'] : Array Value)[k]? = some (S x) := by
        have h01 : k = 0 ∨ k = 1 := by omega
        rcases h01 with rfl | rfl
        · exact ⟨s, hS1, rfl⟩
        · exact ⟨s', hS2, rfl⟩
      have cS := (NS.below hb NS.lt).cell k _ hx
      have NQr := NQ.below hb NQ.lt
      have cq0 := NQr.cell 0 _ rfl
      have cq1 := NQr.cell 1 _ rfl
      have t1 : (k : Int) < 2 := by omega
      have HPr := HP.below hb
      have HBT := Lib.hid (Bent_any p q0 q1 v10 wr HPr hp (by omega))
      have HPR := Lib.hid HPr
      clear hx HPr
      go_wp2_with fail
      refine HBT.out.mono ?_; rintro e w4 ⟨v77, p7, rfl, HP7, ha7, hl7, hb4⟩
      clear HBT cS cq0 cq1
      have hb := hb.trans (hb4.mono hb.size)
      have hB := hB.trans (hb4.mono hB.size)
      have HP4 := HPR.out.below hb4
      have sA : ∃ x n c, v10 = .slice x n c := by obtain ⟨a, c, h, _⟩ := HP4; exact ⟨_, _, _, h⟩
      have sB : ∃ x n c, v77 = .slice x n c := by obtain ⟨a, c, h, _⟩ := HP7; exact ⟨_, _, _, h⟩
      have HBL := Lib.hid (two_lists w4 v10 v77 sA sB)
      have b5 := (Below.refl w4.heap.size w4).alloc (Nat.le_refl _) (.cells #[v10, v77] 32)
      have hb := hb.trans (b5.mono hb.size)
      have hB := hB.trans (b5.mono hB.size)
      have NP := Blk.new w4 #[v10, v77] 32
      have HP5 := Lib.hid (HP4.below b5)
      have HP75 := Lib.hid (HP7.below b5)
      clear HPR HP4 HP7 sA sB hb4 b5 NQr
      go_wp2_with (refine wpList_build_run rfl 44 2 #[(0, .tmp 70), (1, .tmp 77)] rfl #[(0, v10), (1, v77)] rfl _ _ HBL.out ?_)
      clear HBL
      generalize w4.alloc (.cells #[v10, v77] 32) = w5 at *
      generalize w4.heap.size = bP at *
      have N95 := N9.below hb N9.lt
      have N135 := N13.below hb N13.lt
      have NQ5 := NQ.below hb NQ.lt
      go_loopw [80] (fun i wr => ∃ j : Nat, j ≤ 2 ∧ i = .int .i64 j ∧ Below w5.heap.size w5 wr ∧ Below w3.heap.size w3 wr ∧ Below W0.heap.size W0 wr) (fun i _ => 2 - (intOf i).toNat)
      case atStart => exact ⟨0, by omega, rfl, Below.refl _ _, hb, hB⟩
      case round =>
        clear hb hB
        obtain ⟨j, hj, rfl, hb5, hb, hB⟩ := hrel
        by_cases hjt : j < 2
        · obtain ⟨vj, pj, hvj, HPj, haj, hlj⟩ : ∃ (vj : Value) (pj : List (List UInt8)), (#[v10, v77] : Array Value)[j]? = some vj ∧ HArg wr vj pj ∧ All32 pj ∧ pj.length ≤ 101 := by
            have h01 : j = 0 ∨ j = 1 := by omega
            rcases h01 with rfl | rfl
            · exact ⟨v10, p, rfl, HP5.out.below hb5, hp, by omega⟩
            · exact ⟨v77, p7, rfl, HP75.out.below hb5, ha7, by omega⟩
          have cP := (NP.below hb5 NP.lt).cell j _ hvj
          have t2 : (j : Int) < 2 := by omega
          obtain ⟨M, hM⟩ : ∃ M, IntKind.i64.wrap (N + q3) = M := ⟨_, rfl⟩
          have HM := Lib.hid hM
          have N96 := N95.below hb5 N95.lt
          have N136 := N135.below hb5 N135.lt
          have NQ6 := NQ5.below hb5 NQ5.lt
          have C1 := Lib.hid (fun x' : After wr => CheckPath_q z1 N rt x pj vj x'.W hr hxl haj (by omega) (by omega) (HPj.below x'.hb))
          have C2 := Lib.hid (fun x' : After wr => RCheckPath_q z1 N rt x pj vj x'.W hr hxl haj (by omega) (HPj.below x'.hb))
          have C3 := Lib.hid (fun x' : After wr => CheckPath_q z2 N rt x pj vj x'.W hr hxl haj (by omega) hz4 (HPj.below x'.hb))
          have C4 := Lib.hid (fun x' : After wr => RCheckPath_q z2 N rt x pj vj x'.W hr hxl haj hz4 (HPj.below x'.hb))
          have C5 := Lib.hid (fun x' : After wr => CheckPath_q z1 M rt x pj vj x'.W hr hxl haj (by omega) (by omega) (HPj.below x'.hb))
          have C6 := Lib.hid (fun x' : After wr => RCheckPath_q z1 M rt x pj vj x'.W hr hxl haj (by omega) (HPj.below x'.hb))
          obtain ⟨c, hcq⟩ : ∃ c, checkP z1 rt N x pj = c := ⟨_, rfl⟩
          obtain ⟨d, hdq⟩ : ∃ d, checkP z2 rt N x pj = d := ⟨_, rfl⟩
          obtain ⟨ee, heq⟩ : ∃ ee, checkP z1 rt M x pj = ee := ⟨_, rfl⟩
          rw [hcq] at C1 C2
          rw [hdq] at C3 C4
          rw [heq] at C5 C6
          clear hcq hdq heq hM hvj HPj haj hlj
          go_upto_region 18 with (fail)
          refine ck_r18 _ _ _ _ _ _ _ _ _ _ _ _ _ _ _ _ _ _ _ _ _ _ _ _ _ _ _ _ _ _ _ _ _ _ _ _ _ _ _ _ _ _ _ _ _ _ _ _ _ _ _ _ _ _ _ _ _ _ _ _ _ _ _ _ _ _ _ _ _ _ _ _ _ _ _ _ _ _ _ _ _ _ _ _ _ _ _ _ _ _ _ _ _ _ _ _ _ _ _ _ _ _ _ _ _ _ _ _ _ _ _ _ _ _ _ _ _ _ _ _ _ _ _ vj N M z1 z2 q0 q1 q2 q3 bq b9 b13 rt x c d ee wr hr N96 N136 NQ6 HM.out C1.out C2.out C3.out C4.out C5.out C6.out _ ?_
          intro y84 y85 y86 y87 y88 y89 y90 y91 y92 y93 y94 y95 y96 y97 y98 y99 y100 y101 y102 y103 y104 y105 y106 y107 y108 y109 y110 y111 y112 y113 y114 y115 y116 y117 y118 y119 y120 y121 y122 y123 y124 y125 w6 hb6
          have hb5 := hb5.trans (hb6.mono hb5.size)
          have hb := hb.trans (hb6.mono hb.size)
          have hB := hB.trans (hb6.mono hB.size)
          clear C1 C2 C3 C4 C5 C6 N96 N136 NQ6 hb6 cP
          go_wp2_with fail
          go_roundw
          case rel => exact ⟨j + 1, by omega, by go_num, hb5, hb, hB⟩
          case measure => simp [intOf]; omega
        · have t2 : ¬ ((j : Int) < 2) := by omega
          clear HP5 HP75 N95 N135 NQ5 NP
          go_wp2_with fail
          go_roundw
          case rel => exact ⟨k + 1, by omega, by go_num, hb, hB⟩
          case measure => simp [intOf]; omega
    · have t1 : ¬ ((k : Int) < 2) := by omega
      go_wp2_with fail
      go_ret
      exact ⟨rfl, hB⟩
end Go.Proofs.Ytjekdeikoebmgaa
