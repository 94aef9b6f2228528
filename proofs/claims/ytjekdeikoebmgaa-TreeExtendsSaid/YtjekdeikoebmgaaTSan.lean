/- The chapter's examples. Conditions: none. -/
import Derived.Test.YtjekdeikoebmgaaTrI
namespace Go.Proofs.Ytjekdeikoebmgaa
open Go.RowKit Go.Shelf Tr

/-- What lies in memory when the examples are compared. -/
structure San (w : World) (n1 n2 n3 n4 n6 : Nat) (A B C D AB : List UInt8) (v7 v9 v11 v13 v15 : Value) : Prop where
  a : Blk w n1 (hrow A) 24
  b : Blk w n2 (hrow B) 24
  c : Blk w n3 (hrow C) 24
  d : Blk w n4 (hrow D) 24
  ab : Blk w n6 (hrow AB) 24
  p7 : HArg w v7 [AB]
  p9 : HArg w v9 [B, C]
  p11 : HArg w v11 [C]
  p13 : HArg w v13 [C, D, AB]
  p15 : HArg w v15 [B, C]
theorem San.below {w w' : World} {n1 n2 n3 n4 n6 : Nat} {A B C D AB : List UInt8} {v7 v9 v11 v13 v15 : Value} (h : San w n1 n2 n3 n4 n6 A B C D AB v7 v9 v11 v13 v15) (hb : Below w.heap.size w w') : San w' n1 n2 n3 n4 n6 A B C D AB v7 v9 v11 v13 v15 :=
  ⟨h.a.below hb h.a.lt, h.b.below hb h.b.lt, h.c.below hb h.c.lt, h.d.below hb h.d.lt, h.ab.below hb h.ab.lt, h.p7.below hb, h.p9.below hb, h.p11.below hb, h.p13.below hb, h.p15.below hb⟩
theorem all1 {a : List UInt8} (ha : a.length = 32) : All32 [a] := All32.nil.snoc ha
theorem all2 {a b : List UInt8} (ha : a.length = 32) (hb : b.length = 32) : All32 [a, b] := (all1 ha).snoc hb
theorem all3 {a b c : List UInt8} (ha : a.length = 32) (hb : b.length = 32) (hc : c.length = 32) : All32 [a, b, c] := (all2 ha hb).snoc hc

set_option maxRecDepth 100000 in
set_option maxHeartbeats 1000000 in
theorem san_t12 (u0 u5 u8 u10 u12 u14 u16 u17 u18 u19 u20 u21 u22 u23 u24 u25 u26 u27 u28 u29 u30 u31 u32 u33 u34 u35 u36 u37 u38 u39 u40 u41 u42 u43 u44 u45 u46 u47 u48 u49 u50 u51 u52 u53 u54 u55 u56 u57 u58 u59 u60 u61 u62 u63 u64 u65 u66 u67 u68 u69 u70 u71 u72 u73 u74 u75 u76 u77 u78 u79 u80 u81 u82 u83 u84 u85 u86 u87 u88 u89 u90 u91 u92 u93 u94 u95 u96 u97 u98 u99 u100 u101 u102 u103 u104 u105 u106 u107 u108 u109 u110 u111 u112 u113 u114 u115 u116 u117 u118 u119 : Value) (n1 n2 n3 n4 n6 : Nat) (A B C D AB : List UInt8) (v7 v9 v11 v13 v15 : Value) (hB : B.length = 32) (hC : C.length = 32) (hD : D.length = 32) (hAB : AB.length = 32) (W0 w : World) (hS : San w n1 n2 n3 n4 n6 A B C D AB v7 v9 v11 v13 v15) (hBel : Below W0.heap.size W0 w) (Q : Exit → Act → World → Prop)
    (h : ∀ (y88 y89 y90 y91 y92 y93 y94 y95 y96 y97 y98 y99 y100 y101 y102 y103 y104 y105 y106 y107 y108 y109 y110 y111 y112 y113 y114 y115 y116 y117 y118 y119 : Value) (w' : World), Below W0.heap.size W0 w' → Q .normal ⟨((.bool true) :: (.pointer (some ⟨n1, 0, none⟩)) :: (.pointer (some ⟨n2, 0, none⟩)) :: (.pointer (some ⟨n3, 0, none⟩)) :: (.pointer (some ⟨n4, 0, none⟩)) :: u5 :: (.pointer (some ⟨n6, 0, none⟩)) :: v7 :: u8 :: v9 :: u10 :: v11 :: u12 :: v13 :: u14 :: v15 :: u16 :: u17 :: u18 :: u19 :: u20 :: u21 :: u22 :: u23 :: u24 :: u25 :: u26 :: u27 :: u28 :: u29 :: u30 :: u31 :: u32 :: u33 :: u34 :: u35 :: u36 :: u37 :: u38 :: u39 :: u40 :: u41 :: u42 :: u43 :: u44 :: u45 :: u46 :: u47 :: u48 :: u49 :: u50 :: u51 :: u52 :: u53 :: u54 :: u55 :: u56 :: u57 :: u58 :: u59 :: u60 :: u61 :: u62 :: u63 :: u64 :: u65 :: u66 :: u67 :: u68 :: u69 :: u70 :: u71 :: u72 :: u73 :: u74 :: u75 :: u76 :: u77 :: u78 :: u79 :: u80 :: u81 :: u82 :: u83 :: u84 :: u85 :: u86 :: u87 :: y88 :: y89 :: y90 :: y91 :: y92 :: y93 :: y94 :: y95 :: y96 :: y97 :: y98 :: y99 :: y100 :: y101 :: y102 :: y103 :: y104 :: y105 :: y106 :: y107 :: y108 :: y109 :: y110 :: y111 :: y112 :: y113 :: y114 :: y115 :: y116 :: y117 :: y118 :: y119 :: []).toArray, []⟩ w') :
    Code.wp Try.prog (regionIn Try.f13 12) Q ⟨(u0 :: (.pointer (some ⟨n1, 0, none⟩)) :: (.pointer (some ⟨n2, 0, none⟩)) :: (.pointer (some ⟨n3, 0, none⟩)) :: (.pointer (some ⟨n4, 0, none⟩)) :: u5 :: (.pointer (some ⟨n6, 0, none⟩)) :: v7 :: u8 :: v9 :: u10 :: v11 :: u12 :: v13 :: u14 :: v15 :: u16 :: u17 :: u18 :: u19 :: u20 :: u21 :: u22 :: u23 :: u24 :: u25 :: u26 :: u27 :: u28 :: u29 :: u30 :: u31 :: u32 :: u33 :: u34 :: u35 :: u36 :: u37 :: u38 :: u39 :: u40 :: u41 :: u42 :: u43 :: u44 :: u45 :: u46 :: u47 :: u48 :: u49 :: u50 :: u51 :: u52 :: u53 :: u54 :: u55 :: u56 :: u57 :: u58 :: u59 :: u60 :: u61 :: u62 :: u63 :: u64 :: u65 :: u66 :: u67 :: u68 :: u69 :: u70 :: u71 :: u72 :: u73 :: u74 :: u75 :: u76 :: u77 :: u78 :: u79 :: u80 :: u81 :: u82 :: u83 :: u84 :: u85 :: u86 :: u87 :: u88 :: u89 :: u90 :: u91 :: u92 :: u93 :: u94 :: u95 :: u96 :: u97 :: u98 :: u99 :: u100 :: u101 :: u102 :: u103 :: u104 :: u105 :: u106 :: u107 :: u108 :: u109 :: u110 :: u111 :: u112 :: u113 :: u114 :: u115 :: u116 :: u117 :: u118 :: u119 :: []).toArray, []⟩ w := by
  have HX := Lib.hid h
  have HS := Lib.hid hS
  clear h
  have hBs : W0.heap.size ≤ W0.heap.size := Nat.le_refl _
  clear hS
  conv => arg 2; whnf
  go_wp2_with (first
    | (refine wpList_load_hash (by kernel_rfl) (.tmp 6) rfl n6 rfl AB hAB HS.out.ab ?_; go_frame)
    | (refine wpList_load_hash (by kernel_rfl) (.tmp 2) rfl n2 rfl B hB HS.out.b ?_; go_frame)
    | (refine wpList_load_hash (by kernel_rfl) (.tmp 3) rfl n3 rfl C hC HS.out.c ?_; go_frame)
    | (refine wpList_load_hash (by kernel_rfl) (.tmp 4) rfl n4 rfl D hD HS.out.d ?_; go_frame)
    | (refine wpList_build_runG (by kernel_rfl) 32 1 #[(0, .tmp 89)] rfl #[(0, .agg (hrow AB))] rfl _ _ (run_buildH [AB] 1 rfl (by decide) (by decide) (all1 hAB) _ rfl _) ?_; go_frame))
  refine (Same_built [AB] 1 rfl (by decide) (all1 hAB) _ _ HS.out.p7).mono ?_; rintro e w7 ⟨rfl, hb⟩
  have HS' := Lib.hid (HS.out.below hb)
  have hBel := hBel.trans (hb.mono (Nat.le_trans hBs hBel.size))
  clear HS hb
  have HS := HS'
  clear HS'
  go_wp2_with (first
    | (refine wpList_load_hash (by kernel_rfl) (.tmp 6) rfl n6 rfl AB hAB HS.out.ab ?_; go_frame)
    | (refine wpList_load_hash (by kernel_rfl) (.tmp 2) rfl n2 rfl B hB HS.out.b ?_; go_frame)
    | (refine wpList_load_hash (by kernel_rfl) (.tmp 3) rfl n3 rfl C hC HS.out.c ?_; go_frame)
    | (refine wpList_load_hash (by kernel_rfl) (.tmp 4) rfl n4 rfl D hD HS.out.d ?_; go_frame)
    | (refine wpList_build_runG (by kernel_rfl) 32 2 #[(0, .tmp 94), (1, .tmp 95)] rfl #[(0, .agg (hrow B)), (1, .agg (hrow C))] rfl _ _ (run_buildH [B, C] 2 rfl (by decide) (by decide) (all2 hB hC) _ rfl _) ?_; go_frame))
  refine (Same_built [B, C] 2 rfl (by decide) (all2 hB hC) _ _ HS.out.p9).mono ?_; rintro e w9 ⟨rfl, hb⟩
  have HS' := Lib.hid (HS.out.below hb)
  have hBel := hBel.trans (hb.mono (Nat.le_trans hBs hBel.size))
  clear HS hb
  have HS := HS'
  clear HS'
  go_wp2_with (first
    | (refine wpList_load_hash (by kernel_rfl) (.tmp 6) rfl n6 rfl AB hAB HS.out.ab ?_; go_frame)
    | (refine wpList_load_hash (by kernel_rfl) (.tmp 2) rfl n2 rfl B hB HS.out.b ?_; go_frame)
    | (refine wpList_load_hash (by kernel_rfl) (.tmp 3) rfl n3 rfl C hC HS.out.c ?_; go_frame)
    | (refine wpList_load_hash (by kernel_rfl) (.tmp 4) rfl n4 rfl D hD HS.out.d ?_; go_frame)
    | (refine wpList_build_runG (by kernel_rfl) 32 1 #[(0, .tmp 101)] rfl #[(0, .agg (hrow C))] rfl _ _ (run_buildH [C] 1 rfl (by decide) (by decide) (all1 hC) _ rfl _) ?_; go_frame))
  refine (Same_built [C] 1 rfl (by decide) (all1 hC) _ _ HS.out.p11).mono ?_; rintro e w11 ⟨rfl, hb⟩
  have HS' := Lib.hid (HS.out.below hb)
  have hBel := hBel.trans (hb.mono (Nat.le_trans hBs hBel.size))
  clear HS hb
  have HS := HS'
  clear HS'
  go_wp2_with (first
    | (refine wpList_load_hash (by kernel_rfl) (.tmp 6) rfl n6 rfl AB hAB HS.out.ab ?_; go_frame)
    | (refine wpList_load_hash (by kernel_rfl) (.tmp 2) rfl n2 rfl B hB HS.out.b ?_; go_frame)
    | (refine wpList_load_hash (by kernel_rfl) (.tmp 3) rfl n3 rfl C hC HS.out.c ?_; go_frame)
    | (refine wpList_load_hash (by kernel_rfl) (.tmp 4) rfl n4 rfl D hD HS.out.d ?_; go_frame)
    | (refine wpList_build_runG (by kernel_rfl) 32 3 #[(0, .tmp 107), (1, .tmp 108), (2, .tmp 109)] rfl #[(0, .agg (hrow C)), (1, .agg (hrow D)), (2, .agg (hrow AB))] rfl _ _ (run_buildH [C, D, AB] 3 rfl (by decide) (by decide) (all3 hC hD hAB) _ rfl _) ?_; go_frame))
  refine (Same_built [C, D, AB] 3 rfl (by decide) (all3 hC hD hAB) _ _ HS.out.p13).mono ?_; rintro e w13 ⟨rfl, hb⟩
  have HS' := Lib.hid (HS.out.below hb)
  have hBel := hBel.trans (hb.mono (Nat.le_trans hBs hBel.size))
  clear HS hb
  have HS := HS'
  clear HS'
  go_wp2_with (first
    | (refine wpList_load_hash (by kernel_rfl) (.tmp 6) rfl n6 rfl AB hAB HS.out.ab ?_; go_frame)
    | (refine wpList_load_hash (by kernel_rfl) (.tmp 2) rfl n2 rfl B hB HS.out.b ?_; go_frame)
    | (refine wpList_load_hash (by kernel_rfl) (.tmp 3) rfl n3 rfl C hC HS.out.c ?_; go_frame)
    | (refine wpList_load_hash (by kernel_rfl) (.tmp 4) rfl n4 rfl D hD HS.out.d ?_; go_frame)
    | (refine wpList_build_runG (by kernel_rfl) 32 2 #[(0, .tmp 115), (1, .tmp 116)] rfl #[(0, .agg (hrow B)), (1, .agg (hrow C))] rfl _ _ (run_buildH [B, C] 2 rfl (by decide) (by decide) (all2 hB hC) _ rfl _) ?_; go_frame))
  refine (Same_built [B, C] 2 rfl (by decide) (all2 hB hC) _ _ HS.out.p15).mono ?_; rintro e w15 ⟨rfl, hb⟩
  have HS' := Lib.hid (HS.out.below hb)
  have hBel := hBel.trans (hb.mono (Nat.le_trans hBs hBel.size))
  clear HS hb
  have HS := HS'
  clear HS'
  go_wp2_with fail
  exact HX.out _ _ _ _ _ _ _ _ _ _ _ _ _ _ _ _ _ _ _ _ _ _ _ _ _ _ _ _ _ _ _ _ _ hBel
set_option maxRecDepth 100000 in
set_option maxHeartbeats 1000000 in
theorem san_t10 (u0 u18 u19 u20 u21 u22 u23 u24 u25 u26 u27 u28 u29 u30 u31 u32 u33 u34 u35 u36 u37 u38 u39 u40 u41 u42 u43 u44 u45 u46 u47 u48 u49 u50 u51 u52 u53 u54 u55 u56 u57 u58 u59 u60 u61 u62 u63 u64 u65 u66 u67 u68 u69 u70 u71 u72 u73 u74 u75 u76 u77 u78 u79 u80 u81 u82 u83 u84 u85 u86 u87 u88 u89 u90 u91 u92 u93 u94 u95 u96 u97 u98 u99 u100 u101 u102 u103 u104 u105 u106 u107 u108 u109 u110 u111 u112 u113 u114 u115 u116 u117 u118 u119 : Value) (n1 n2 n3 n4 n6 n17 sb : Nat) (A B C D AB R : List UInt8) (l : List (List UInt8)) (v7 v9 v11 v13 v15 : Value) (hA : A.length = 32) (hC : C.length = 32) (hAB : AB.length = 32) (hR : R.length = 32) (W0 w : World) (hS : San w n1 n2 n3 n4 n6 A B C D AB v7 v9 v11 v13 v15) (hBel : Below W0.heap.size W0 w)
    (hz17 : Blk w n17 (hrow (List.replicate 32 0)) 24) (hSt : SAt w sb 0 l) (hne : (A == List.replicate 32 0) = false)
    (E1 : ∀ w', SAt w' sb 0 l → Calls Try.prog 16 #[.slice (some ⟨sb, 0, none⟩) 3 4] w' fun e w'' => e = .returned (.agg (hrow R)) ∧ Below w'.heap.size w' w'')
    (E2 : ∀ w', Calls Try.prog 18 #[.agg (hrow AB), .agg (hrow C)] w' fun e w'' => e = .returned (.agg (hrow R)) ∧ Below w'.heap.size w' w'')
    (Q : Exit → Act → World → Prop) (h : ∀ (y56 y57 y58 y59 y60 y61 y62 y63 y64 y65 y66 y67 y68 y69 y70 y71 y72 y73 y74 y75 y76 y77 y78 y79 y80 y81 y82 y83 y84 y85 y86 : Value) (w' : World), San w' n1 n2 n3 n4 n6 A B C D AB v7 v9 v11 v13 v15 → Below W0.heap.size W0 w' → Q .normal ⟨(u0 :: (.pointer (some ⟨n1, 0, none⟩)) :: (.pointer (some ⟨n2, 0, none⟩)) :: (.pointer (some ⟨n3, 0, none⟩)) :: (.pointer (some ⟨n4, 0, none⟩)) :: (.slice (some ⟨sb, 0, none⟩) 4 4) :: (.pointer (some ⟨n6, 0, none⟩)) :: v7 :: (.bool true) :: v9 :: (.bool true) :: v11 :: (.bool true) :: v13 :: (.bool true) :: v15 :: (.bool true) :: (.pointer (some ⟨n17, 0, none⟩)) :: u18 :: u19 :: u20 :: u21 :: u22 :: u23 :: u24 :: u25 :: u26 :: u27 :: u28 :: u29 :: u30 :: u31 :: u32 :: u33 :: u34 :: u35 :: u36 :: u37 :: u38 :: u39 :: u40 :: u41 :: u42 :: u43 :: u44 :: u45 :: u46 :: u47 :: u48 :: u49 :: u50 :: u51 :: u52 :: u53 :: u54 :: u55 :: y56 :: y57 :: y58 :: y59 :: y60 :: y61 :: y62 :: y63 :: y64 :: y65 :: y66 :: y67 :: y68 :: y69 :: y70 :: y71 :: y72 :: y73 :: y74 :: y75 :: y76 :: y77 :: y78 :: y79 :: y80 :: y81 :: y82 :: y83 :: y84 :: y85 :: y86 :: (.bool false) :: u88 :: u89 :: u90 :: u91 :: u92 :: u93 :: u94 :: u95 :: u96 :: u97 :: u98 :: u99 :: u100 :: u101 :: u102 :: u103 :: u104 :: u105 :: u106 :: u107 :: u108 :: u109 :: u110 :: u111 :: u112 :: u113 :: u114 :: u115 :: u116 :: u117 :: u118 :: u119 :: []).toArray, []⟩ w') :
    Code.wp Try.prog (regionIn Try.f13 10) Q ⟨(u0 :: (.pointer (some ⟨n1, 0, none⟩)) :: (.pointer (some ⟨n2, 0, none⟩)) :: (.pointer (some ⟨n3, 0, none⟩)) :: (.pointer (some ⟨n4, 0, none⟩)) :: (.slice (some ⟨sb, 0, none⟩) 4 4) :: (.pointer (some ⟨n6, 0, none⟩)) :: v7 :: (.bool true) :: v9 :: (.bool true) :: v11 :: (.bool true) :: v13 :: (.bool true) :: v15 :: (.bool true) :: (.pointer (some ⟨n17, 0, none⟩)) :: u18 :: u19 :: u20 :: u21 :: u22 :: u23 :: u24 :: u25 :: u26 :: u27 :: u28 :: u29 :: u30 :: u31 :: u32 :: u33 :: u34 :: u35 :: u36 :: u37 :: u38 :: u39 :: u40 :: u41 :: u42 :: u43 :: u44 :: u45 :: u46 :: u47 :: u48 :: u49 :: u50 :: u51 :: u52 :: u53 :: u54 :: u55 :: u56 :: u57 :: u58 :: u59 :: u60 :: u61 :: u62 :: u63 :: u64 :: u65 :: u66 :: u67 :: u68 :: u69 :: u70 :: u71 :: u72 :: u73 :: u74 :: u75 :: u76 :: u77 :: u78 :: u79 :: u80 :: u81 :: u82 :: u83 :: u84 :: u85 :: u86 :: u87 :: u88 :: u89 :: u90 :: u91 :: u92 :: u93 :: u94 :: u95 :: u96 :: u97 :: u98 :: u99 :: u100 :: u101 :: u102 :: u103 :: u104 :: u105 :: u106 :: u107 :: u108 :: u109 :: u110 :: u111 :: u112 :: u113 :: u114 :: u115 :: u116 :: u117 :: u118 :: u119 :: []).toArray, []⟩ w := by
  have HX := Lib.hid h
  clear h
  have HS := Lib.hid hS
  have F1 := Lib.hid (fun x : After w => E1 x.W (hSt.below x.hb))
  have F2 := Lib.hid (fun x : After w => E2 x.W)
  have q1 := fun w => run_eq_hash A (List.replicate 32 0) hA hz_len2 w
  rw [hne] at q1
  have q2 := fun w => run_eq_hash R R hR hR w
  simp only [beq_self_eq_true] at q2
  have fa := After.hash hS.a hA
  have fz := After.hash hz17 hz_len2
  have fc := After.hash hS.c hC
  have fab := After.hash hS.ab hAB
  generalize List.replicate 32 (0 : UInt8) = Z at *
  clear hS E1 E2 hSt hne
  conv => arg 2; whnf
  go_wp2_with fail
  refine wp_region_after (by kernel_rfl) (by kernel_rfl) ?_
  repeat (first
    | (refine quiet_load_at 24 (.tmp 1) (by rfl) ⟨n1, 0, none⟩ (by rfl) (hrow A) fa (by kernel_rfl) ?_; go_frame)
    | (refine quiet_load_at 24 (.tmp 17) (by rfl) ⟨n17, 0, none⟩ (by rfl) (hrow Z) fz (by kernel_rfl) ?_; go_frame)
    | (refine quiet_load_at 24 (.tmp 3) (by rfl) ⟨n3, 0, none⟩ (by rfl) (hrow C) fc (by kernel_rfl) ?_; go_frame)
    | (refine quiet_load_at 24 (.tmp 6) (by rfl) ⟨n6, 0, none⟩ (by rfl) (hrow AB) fab (by kernel_rfl) ?_; go_frame)
    | (go_big_quiet_step (first | (with_reducible exact After.call (F1.out _)) | (with_reducible exact After.call (F2.out _)))))
  refine wpQuiet_nil ?_
  rintro w5 ⟨x5, rfl⟩
  have hb5 := x5.hb
  have HS' := Lib.hid (HS.out.below hb5)
  have hBel := hBel.trans (hb5.mono hBel.size)
  clear HS F1 F2 fa fz fc fab q1 q2
  generalize x5.W = w5 at *
  go_wp2_with fail
  exact HX.out _ _ _ _ _ _ _ _ _ _ _ _ _ _ _ _ _ _ _ _ _ _ _ _ _ _ _ _ _ _ _ _ HS'.out hBel
theorem half2 : half 2 = 1 := by decide
theorem half3 : half 3 = 2 := by decide
theorem half4 : half 4 = 2 := by decide
theorem rt1 (a : List UInt8) : root [a] = leaf a := root_one rfl
theorem rt2 (a b : List UInt8) : root [a, b] = node (leaf a) (leaf b) := by
  rw [root_two (by simp), show ([a, b] : List (List UInt8)).length = 2 from rfl, half2]; simp [rt1]
theorem rt3 (a b c : List UInt8) : root [a, b, c] = node (node (leaf a) (leaf b)) (leaf c) := by
  rw [root_two (by simp), show ([a, b, c] : List (List UInt8)).length = 3 from rfl, half3]; simp [rt1, rt2]
theorem pt1 (a b c : List UInt8) : path [a, b, c] 2 = [node (leaf a) (leaf b)] := by
  rw [path_right (by simp) (by simp [half3]), show ([a, b, c] : List (List UInt8)).length = 3 from rfl, half3]; simp [path_one, rt2]
theorem pt2 (a b : List UInt8) : path [a, b] 0 = [leaf b] := by
  rw [path_left (by simp) (by simp [half2]), show ([a, b] : List (List UInt8)).length = 2 from rfl, half2]; simp [path_one, rt1]
theorem pt3 (a b c : List UInt8) : path [a, b, c] 0 = [leaf b, leaf c] := by
  rw [path_left (by simp) (by simp [half3]), show ([a, b, c] : List (List UInt8)).length = 3 from rfl, half3]; simp [pt2, rt1]
theorem gt1 (a b c : List UInt8) : (growth [a, b, c] (2 : Nat)).1 = [leaf c] := by
  unfold growth
  rw [if_neg (by simp), if_neg (by simp)]
  show grow _ 2 true = _
  rw [grow_left (by omega) (by simp) (by simp [half3]), show ([a, b, c] : List (List UInt8)).length = 3 from rfl, half3, grow_end (by simp)]; simp [rt1]
theorem gt2 (a b : List UInt8) (w : Bool) : grow [a, b] 1 w = (if w then [] else [leaf a]) ++ [leaf b] := by
  rw [grow_left (by omega) (by simp) (by simp [half2]), show ([a, b] : List (List UInt8)).length = 2 from rfl, half2, grow_end (by simp)]; simp [rt1]
theorem gt3 (a b c d : List UInt8) : (growth [a, b, c, d] (3 : Nat)).1 = [leaf c, leaf d, node (leaf a) (leaf b)] := by
  unfold growth
  rw [if_neg (by simp), if_neg (by simp)]
  show grow _ 3 true = _
  rw [grow_right (by omega) (by simp) (by simp [half4]), show ([a, b, c, d] : List (List UInt8)).length = 4 from rfl, half4]; simp [gt2, rt2]
theorem gt4 (a b c : List UInt8) : (growth [a, b, c] (1 : Nat)).1 = [leaf b, leaf c] := by
  unfold growth
  rw [if_neg (by simp), if_neg (by simp)]
  show grow _ 1 true = _
  rw [grow_left (by omega) (by simp) (by simp [half3]), show ([a, b, c] : List (List UInt8)).length = 3 from rfl, half3]; simp [gt2, rt1]
theorem leaf_a : (leaf [97] == List.replicate 32 0) = false := by decide +kernel

/-- What lies in memory from the strings on. -/
structure San0 (w : World) (n1 n2 n3 n4 sb n6 : Nat) (A B C D AB : List UInt8) (l : List (List UInt8)) : Prop where
  a : Blk w n1 (hrow A) 24
  b : Blk w n2 (hrow B) 24
  c : Blk w n3 (hrow C) 24
  d : Blk w n4 (hrow D) 24
  ab : Blk w n6 (hrow AB) 24
  s : SAt w sb 0 l
theorem San0.below {w w' : World} {n1 n2 n3 n4 sb n6 : Nat} {A B C D AB : List UInt8} {l : List (List UInt8)} (h : San0 w n1 n2 n3 n4 sb n6 A B C D AB l) (hb : Below w.heap.size w w') : San0 w' n1 n2 n3 n4 sb n6 A B C D AB l :=
  ⟨h.a.below hb h.a.lt, h.b.below hb h.b.lt, h.c.below hb h.c.lt, h.d.below hb h.d.lt, h.ab.below hb h.ab.lt, h.s.below hb⟩

/-- Four variables of hashes, made and stored. -/
theorem four_hash (w : World) (A B C D : List UInt8) :
    (∀ w8, w8 = (((w.alloc (.cells hz 24)).alloc (.cells hz 24)).alloc (.cells hz 24)).alloc (.cells hz 24) → Blk w8 w.heap.size hz 24) ∧
    (∀ w8, w8 = ((((w.alloc (.cells hz 24)).alloc (.cells hz 24)).alloc (.cells hz 24)).alloc (.cells hz 24)).setRow w.heap.size (hrow A) → Blk w8 (w.heap.size + 1) hz 24) ∧
    (∀ w8, w8 = (((((w.alloc (.cells hz 24)).alloc (.cells hz 24)).alloc (.cells hz 24)).alloc (.cells hz 24)).setRow w.heap.size (hrow A)).setRow (w.heap.size + 1) (hrow B) → Blk w8 (w.heap.size + 1 + 1) hz 24) ∧
    (∀ w8, w8 = ((((((w.alloc (.cells hz 24)).alloc (.cells hz 24)).alloc (.cells hz 24)).alloc (.cells hz 24)).setRow w.heap.size (hrow A)).setRow (w.heap.size + 1) (hrow B)).setRow (w.heap.size + 1 + 1) (hrow C) → Blk w8 (w.heap.size + 1 + 1 + 1) hz 24) ∧
    (∀ w8, w8 = (((((((w.alloc (.cells hz 24)).alloc (.cells hz 24)).alloc (.cells hz 24)).alloc (.cells hz 24)).setRow w.heap.size (hrow A)).setRow (w.heap.size + 1) (hrow B)).setRow (w.heap.size + 1 + 1) (hrow C)).setRow (w.heap.size + 1 + 1 + 1) (hrow D) →
      Blk w8 w.heap.size (hrow A) 24 ∧ Blk w8 (w.heap.size + 1) (hrow B) 24 ∧ Blk w8 (w.heap.size + 1 + 1) (hrow C) 24 ∧ Blk w8 (w.heap.size + 1 + 1 + 1) (hrow D) 24 ∧ Below w.heap.size w w8) := by
  have a1 := (((Blk.new w hz 24).alloc (.cells hz 24)).alloc (.cells hz 24)).alloc (.cells hz 24)
  have a2 := ((Blk.new (w.alloc (.cells hz 24)) hz 24).alloc (.cells hz 24)).alloc (.cells hz 24)
  have a3 := (Blk.new ((w.alloc (.cells hz 24)).alloc (.cells hz 24)) hz 24).alloc (.cells hz 24)
  have a4 := Blk.new (((w.alloc (.cells hz 24)).alloc (.cells hz 24)).alloc (.cells hz 24)) hz 24
  simp only [World.size_alloc] at a2 a3 a4
  have b : Below w.heap.size w ((((w.alloc (.cells hz 24)).alloc (.cells hz 24)).alloc (.cells hz 24)).alloc (.cells hz 24)) := ((((Below.refl _ _).alloc (Nat.le_refl _) _).alloc (by simp) _).alloc (by simp; omega) _).alloc (by simp; omega) _
  refine ⟨fun _ h => h ▸ a1, fun _ h => h ▸ a2.rowOther _ (by omega), fun _ h => h ▸ (a3.rowOther _ (by omega)).rowOther _ (by omega), fun _ h => h ▸ ((a4.rowOther _ (by omega)).rowOther _ (by omega)).rowOther _ (by omega), ?_⟩
  rintro w8 rfl
  exact ⟨(((a1.row _).rowOther _ (by omega)).rowOther _ (by omega)).rowOther _ (by omega), (((a2.rowOther _ (by omega)).row _).rowOther _ (by omega)).rowOther _ (by omega), (((a3.rowOther _ (by omega)).rowOther _ (by omega)).row _).rowOther _ (by omega), (((a4.rowOther _ (by omega)).rowOther _ (by omega)).rowOther _ (by omega)).row _, Below.setRow (Below.setRow (Below.setRow (Below.setRow b (Nat.le_refl _) _) (by omega) _) (by omega) _) (by omega) _⟩
set_option maxRecDepth 100000 in
set_option maxHeartbeats 1000000 in
theorem san_r4 (u0 u1 u2 u3 u4 u6 u7 u8 u9 u10 u11 u12 u13 u14 u15 u16 u17 u18 u19 u20 u21 u22 u23 u24 u25 u26 u27 u28 u29 u30 u31 u32 u33 u34 u35 u36 u37 u38 u39 u40 u41 u42 u43 u44 u45 u46 u47 u48 u49 u50 u51 u52 u53 u54 u55 u56 u57 u58 u59 u60 u61 u62 u63 u64 u65 u66 u67 u68 u69 u70 u71 u72 u73 u74 u75 u76 u77 u78 u79 u80 u81 u82 u83 u84 u85 u86 u87 u88 u89 u90 u91 u92 u93 u94 u95 u96 u97 u98 u99 u100 u101 u102 u103 u104 u105 u106 u107 u108 u109 u110 u111 u112 u113 u114 u115 u116 u117 u118 u119 : Value) (sb : Nat) (hs : List (List UInt8)) (w : World)
    (P : Hid (∀ v w, SArg w v [[97], [98], [99]] → Calls Try.prog 21 #[v, .int .i64 2] w (PathPost w hs))) (hS : SAt w sb 0 [[97], [98], [99], [100]]) (Q : Exit → Act → World → Prop)
    (h : ∀ (y26 y27 y28 y29 y30 y31 v : Value) (w' : World), HArg w' v hs → Below w.heap.size w w' → Q .normal ⟨(u0 :: u1 :: u2 :: u3 :: u4 :: (.slice (some ⟨sb, 0, none⟩) 4 4) :: u6 :: v :: (.bool true) :: u9 :: u10 :: u11 :: u12 :: u13 :: u14 :: u15 :: u16 :: u17 :: u18 :: u19 :: u20 :: u21 :: u22 :: u23 :: u24 :: u25 :: y26 :: y27 :: y28 :: y29 :: y30 :: y31 :: u32 :: u33 :: u34 :: u35 :: u36 :: u37 :: u38 :: u39 :: u40 :: u41 :: u42 :: u43 :: u44 :: u45 :: u46 :: u47 :: u48 :: u49 :: u50 :: u51 :: u52 :: u53 :: u54 :: u55 :: u56 :: u57 :: u58 :: u59 :: u60 :: u61 :: u62 :: u63 :: u64 :: u65 :: u66 :: u67 :: u68 :: u69 :: u70 :: u71 :: u72 :: u73 :: u74 :: u75 :: u76 :: u77 :: u78 :: u79 :: u80 :: u81 :: u82 :: u83 :: u84 :: u85 :: u86 :: u87 :: u88 :: u89 :: u90 :: u91 :: u92 :: u93 :: u94 :: u95 :: u96 :: u97 :: u98 :: u99 :: u100 :: u101 :: u102 :: u103 :: u104 :: u105 :: u106 :: u107 :: u108 :: u109 :: u110 :: u111 :: u112 :: u113 :: u114 :: u115 :: u116 :: u117 :: u118 :: u119 :: []).toArray, []⟩ w') : Code.wp Try.prog (regionIn Try.f13 4) Q ⟨(u0 :: u1 :: u2 :: u3 :: u4 :: (.slice (some ⟨sb, 0, none⟩) 4 4) :: u6 :: u7 :: u8 :: u9 :: u10 :: u11 :: u12 :: u13 :: u14 :: u15 :: u16 :: u17 :: u18 :: u19 :: u20 :: u21 :: u22 :: u23 :: u24 :: u25 :: u26 :: u27 :: u28 :: u29 :: u30 :: u31 :: u32 :: u33 :: u34 :: u35 :: u36 :: u37 :: u38 :: u39 :: u40 :: u41 :: u42 :: u43 :: u44 :: u45 :: u46 :: u47 :: u48 :: u49 :: u50 :: u51 :: u52 :: u53 :: u54 :: u55 :: u56 :: u57 :: u58 :: u59 :: u60 :: u61 :: u62 :: u63 :: u64 :: u65 :: u66 :: u67 :: u68 :: u69 :: u70 :: u71 :: u72 :: u73 :: u74 :: u75 :: u76 :: u77 :: u78 :: u79 :: u80 :: u81 :: u82 :: u83 :: u84 :: u85 :: u86 :: u87 :: u88 :: u89 :: u90 :: u91 :: u92 :: u93 :: u94 :: u95 :: u96 :: u97 :: u98 :: u99 :: u100 :: u101 :: u102 :: u103 :: u104 :: u105 :: u106 :: u107 :: u108 :: u109 :: u110 :: u111 :: u112 :: u113 :: u114 :: u115 :: u116 :: u117 :: u118 :: u119 :: []).toArray, []⟩ w := by
  have HX := Lib.hid h
  have HS := Lib.hid (SArg.of (n := 3) (cap := 4) rfl (by decide) (hS.take 3))
  clear h hS
  conv => arg 2; whnf
  go_wp2_with fail
  refine (P.out _ _ HS.out).mono ?_; rintro e w5 ⟨v, rfl, hO, hb⟩
  have hA := Lib.hid hO.arg
  clear hO
  go_wp2_with fail
  exact HX.out _ _ _ _ _ _ v _ hA.out hb

set_option maxRecDepth 100000 in
set_option maxHeartbeats 1000000 in
theorem san_r5 (u0 u1 u2 u3 u4 u6 u7 u8 u9 u10 u11 u12 u13 u14 u15 u16 u17 u18 u19 u20 u21 u22 u23 u24 u25 u26 u27 u28 u29 u30 u31 u32 u33 u34 u35 u36 u37 u38 u39 u40 u41 u42 u43 u44 u45 u46 u47 u48 u49 u50 u51 u52 u53 u54 u55 u56 u57 u58 u59 u60 u61 u62 u63 u64 u65 u66 u67 u68 u69 u70 u71 u72 u73 u74 u75 u76 u77 u78 u79 u80 u81 u82 u83 u84 u85 u86 u87 u88 u89 u90 u91 u92 u93 u94 u95 u96 u97 u98 u99 u100 u101 u102 u103 u104 u105 u106 u107 u108 u109 u110 u111 u112 u113 u114 u115 u116 u117 u118 u119 : Value) (sb : Nat) (hs : List (List UInt8)) (w : World)
    (P : Hid (∀ v w, SArg w v [[97], [98], [99]] → Calls Try.prog 21 #[v, .int .i64 0] w (PathPost w hs))) (hS : SAt w sb 0 [[97], [98], [99], [100]]) (Q : Exit → Act → World → Prop)
    (h : ∀ (y32 y33 y34 y35 y36 y37 v : Value) (w' : World), HArg w' v hs → Below w.heap.size w w' → Q .normal ⟨(u0 :: u1 :: u2 :: u3 :: u4 :: (.slice (some ⟨sb, 0, none⟩) 4 4) :: u6 :: u7 :: u8 :: v :: (.bool true) :: u11 :: u12 :: u13 :: u14 :: u15 :: u16 :: u17 :: u18 :: u19 :: u20 :: u21 :: u22 :: u23 :: u24 :: u25 :: u26 :: u27 :: u28 :: u29 :: u30 :: u31 :: y32 :: y33 :: y34 :: y35 :: y36 :: y37 :: u38 :: u39 :: u40 :: u41 :: u42 :: u43 :: u44 :: u45 :: u46 :: u47 :: u48 :: u49 :: u50 :: u51 :: u52 :: u53 :: u54 :: u55 :: u56 :: u57 :: u58 :: u59 :: u60 :: u61 :: u62 :: u63 :: u64 :: u65 :: u66 :: u67 :: u68 :: u69 :: u70 :: u71 :: u72 :: u73 :: u74 :: u75 :: u76 :: u77 :: u78 :: u79 :: u80 :: u81 :: u82 :: u83 :: u84 :: u85 :: u86 :: u87 :: u88 :: u89 :: u90 :: u91 :: u92 :: u93 :: u94 :: u95 :: u96 :: u97 :: u98 :: u99 :: u100 :: u101 :: u102 :: u103 :: u104 :: u105 :: u106 :: u107 :: u108 :: u109 :: u110 :: u111 :: u112 :: u113 :: u114 :: u115 :: u116 :: u117 :: u118 :: u119 :: []).toArray, []⟩ w') : Code.wp Try.prog (regionIn Try.f13 5) Q ⟨(u0 :: u1 :: u2 :: u3 :: u4 :: (.slice (some ⟨sb, 0, none⟩) 4 4) :: u6 :: u7 :: u8 :: u9 :: u10 :: u11 :: u12 :: u13 :: u14 :: u15 :: u16 :: u17 :: u18 :: u19 :: u20 :: u21 :: u22 :: u23 :: u24 :: u25 :: u26 :: u27 :: u28 :: u29 :: u30 :: u31 :: u32 :: u33 :: u34 :: u35 :: u36 :: u37 :: u38 :: u39 :: u40 :: u41 :: u42 :: u43 :: u44 :: u45 :: u46 :: u47 :: u48 :: u49 :: u50 :: u51 :: u52 :: u53 :: u54 :: u55 :: u56 :: u57 :: u58 :: u59 :: u60 :: u61 :: u62 :: u63 :: u64 :: u65 :: u66 :: u67 :: u68 :: u69 :: u70 :: u71 :: u72 :: u73 :: u74 :: u75 :: u76 :: u77 :: u78 :: u79 :: u80 :: u81 :: u82 :: u83 :: u84 :: u85 :: u86 :: u87 :: u88 :: u89 :: u90 :: u91 :: u92 :: u93 :: u94 :: u95 :: u96 :: u97 :: u98 :: u99 :: u100 :: u101 :: u102 :: u103 :: u104 :: u105 :: u106 :: u107 :: u108 :: u109 :: u110 :: u111 :: u112 :: u113 :: u114 :: u115 :: u116 :: u117 :: u118 :: u119 :: []).toArray, []⟩ w := by
  have HX := Lib.hid h
  have HS := Lib.hid (SArg.of (n := 3) (cap := 4) rfl (by decide) (hS.take 3))
  clear h hS
  conv => arg 2; whnf
  go_wp2_with fail
  refine (P.out _ _ HS.out).mono ?_; rintro e w5 ⟨v, rfl, hO, hb⟩
  have hA := Lib.hid hO.arg
  clear hO
  go_wp2_with fail
  exact HX.out _ _ _ _ _ _ v _ hA.out hb

set_option maxRecDepth 100000 in
set_option maxHeartbeats 1000000 in
theorem san_r6 (u0 u1 u2 u3 u4 u6 u7 u8 u9 u10 u11 u12 u13 u14 u15 u16 u17 u18 u19 u20 u21 u22 u23 u24 u25 u26 u27 u28 u29 u30 u31 u32 u33 u34 u35 u36 u37 u38 u39 u40 u41 u42 u43 u44 u45 u46 u47 u48 u49 u50 u51 u52 u53 u54 u55 u56 u57 u58 u59 u60 u61 u62 u63 u64 u65 u66 u67 u68 u69 u70 u71 u72 u73 u74 u75 u76 u77 u78 u79 u80 u81 u82 u83 u84 u85 u86 u87 u88 u89 u90 u91 u92 u93 u94 u95 u96 u97 u98 u99 u100 u101 u102 u103 u104 u105 u106 u107 u108 u109 u110 u111 u112 u113 u114 u115 u116 u117 u118 u119 : Value) (sb : Nat) (hs : List (List UInt8)) (w : World)
    (P : Hid (∀ v w, SArg w v [[97], [98], [99]] → Calls Try.prog 31 #[v, .int .i64 2] w (PathPost w hs))) (hS : SAt w sb 0 [[97], [98], [99], [100]]) (Q : Exit → Act → World → Prop)
    (h : ∀ (y38 y39 y40 y41 y42 y43 v : Value) (w' : World), HArg w' v hs → Below w.heap.size w w' → Q .normal ⟨(u0 :: u1 :: u2 :: u3 :: u4 :: (.slice (some ⟨sb, 0, none⟩) 4 4) :: u6 :: u7 :: u8 :: u9 :: u10 :: v :: (.bool true) :: u13 :: u14 :: u15 :: u16 :: u17 :: u18 :: u19 :: u20 :: u21 :: u22 :: u23 :: u24 :: u25 :: u26 :: u27 :: u28 :: u29 :: u30 :: u31 :: u32 :: u33 :: u34 :: u35 :: u36 :: u37 :: y38 :: y39 :: y40 :: y41 :: y42 :: y43 :: u44 :: u45 :: u46 :: u47 :: u48 :: u49 :: u50 :: u51 :: u52 :: u53 :: u54 :: u55 :: u56 :: u57 :: u58 :: u59 :: u60 :: u61 :: u62 :: u63 :: u64 :: u65 :: u66 :: u67 :: u68 :: u69 :: u70 :: u71 :: u72 :: u73 :: u74 :: u75 :: u76 :: u77 :: u78 :: u79 :: u80 :: u81 :: u82 :: u83 :: u84 :: u85 :: u86 :: u87 :: u88 :: u89 :: u90 :: u91 :: u92 :: u93 :: u94 :: u95 :: u96 :: u97 :: u98 :: u99 :: u100 :: u101 :: u102 :: u103 :: u104 :: u105 :: u106 :: u107 :: u108 :: u109 :: u110 :: u111 :: u112 :: u113 :: u114 :: u115 :: u116 :: u117 :: u118 :: u119 :: []).toArray, []⟩ w') : Code.wp Try.prog (regionIn Try.f13 6) Q ⟨(u0 :: u1 :: u2 :: u3 :: u4 :: (.slice (some ⟨sb, 0, none⟩) 4 4) :: u6 :: u7 :: u8 :: u9 :: u10 :: u11 :: u12 :: u13 :: u14 :: u15 :: u16 :: u17 :: u18 :: u19 :: u20 :: u21 :: u22 :: u23 :: u24 :: u25 :: u26 :: u27 :: u28 :: u29 :: u30 :: u31 :: u32 :: u33 :: u34 :: u35 :: u36 :: u37 :: u38 :: u39 :: u40 :: u41 :: u42 :: u43 :: u44 :: u45 :: u46 :: u47 :: u48 :: u49 :: u50 :: u51 :: u52 :: u53 :: u54 :: u55 :: u56 :: u57 :: u58 :: u59 :: u60 :: u61 :: u62 :: u63 :: u64 :: u65 :: u66 :: u67 :: u68 :: u69 :: u70 :: u71 :: u72 :: u73 :: u74 :: u75 :: u76 :: u77 :: u78 :: u79 :: u80 :: u81 :: u82 :: u83 :: u84 :: u85 :: u86 :: u87 :: u88 :: u89 :: u90 :: u91 :: u92 :: u93 :: u94 :: u95 :: u96 :: u97 :: u98 :: u99 :: u100 :: u101 :: u102 :: u103 :: u104 :: u105 :: u106 :: u107 :: u108 :: u109 :: u110 :: u111 :: u112 :: u113 :: u114 :: u115 :: u116 :: u117 :: u118 :: u119 :: []).toArray, []⟩ w := by
  have HX := Lib.hid h
  have HS := Lib.hid (SArg.of (n := 3) (cap := 4) rfl (by decide) (hS.take 3))
  clear h hS
  conv => arg 2; whnf
  go_wp2_with fail
  refine (P.out _ _ HS.out).mono ?_; rintro e w5 ⟨v, rfl, hO, hb⟩
  have hA := Lib.hid hO.arg
  clear hO
  go_wp2_with fail
  exact HX.out _ _ _ _ _ _ v _ hA.out hb

set_option maxRecDepth 100000 in
set_option maxHeartbeats 1000000 in
theorem san_r7 (u0 u1 u2 u3 u4 u6 u7 u8 u9 u10 u11 u12 u13 u14 u15 u16 u17 u18 u19 u20 u21 u22 u23 u24 u25 u26 u27 u28 u29 u30 u31 u32 u33 u34 u35 u36 u37 u38 u39 u40 u41 u42 u43 u44 u45 u46 u47 u48 u49 u50 u51 u52 u53 u54 u55 u56 u57 u58 u59 u60 u61 u62 u63 u64 u65 u66 u67 u68 u69 u70 u71 u72 u73 u74 u75 u76 u77 u78 u79 u80 u81 u82 u83 u84 u85 u86 u87 u88 u89 u90 u91 u92 u93 u94 u95 u96 u97 u98 u99 u100 u101 u102 u103 u104 u105 u106 u107 u108 u109 u110 u111 u112 u113 u114 u115 u116 u117 u118 u119 : Value) (sb : Nat) (hs : List (List UInt8)) (w : World)
    (P : Hid (∀ v w, SArg w v [[97], [98], [99], [100]] → Calls Try.prog 31 #[v, .int .i64 3] w (PathPost w hs))) (hS : SAt w sb 0 [[97], [98], [99], [100]]) (Q : Exit → Act → World → Prop)
    (h : ∀ (y44 y45 y46 y47 y48 v : Value) (w' : World), HArg w' v hs → Below w.heap.size w w' → Q .normal ⟨(u0 :: u1 :: u2 :: u3 :: u4 :: (.slice (some ⟨sb, 0, none⟩) 4 4) :: u6 :: u7 :: u8 :: u9 :: u10 :: u11 :: u12 :: v :: (.bool true) :: u15 :: u16 :: u17 :: u18 :: u19 :: u20 :: u21 :: u22 :: u23 :: u24 :: u25 :: u26 :: u27 :: u28 :: u29 :: u30 :: u31 :: u32 :: u33 :: u34 :: u35 :: u36 :: u37 :: u38 :: u39 :: u40 :: u41 :: u42 :: u43 :: y44 :: y45 :: y46 :: y47 :: y48 :: u49 :: u50 :: u51 :: u52 :: u53 :: u54 :: u55 :: u56 :: u57 :: u58 :: u59 :: u60 :: u61 :: u62 :: u63 :: u64 :: u65 :: u66 :: u67 :: u68 :: u69 :: u70 :: u71 :: u72 :: u73 :: u74 :: u75 :: u76 :: u77 :: u78 :: u79 :: u80 :: u81 :: u82 :: u83 :: u84 :: u85 :: u86 :: u87 :: u88 :: u89 :: u90 :: u91 :: u92 :: u93 :: u94 :: u95 :: u96 :: u97 :: u98 :: u99 :: u100 :: u101 :: u102 :: u103 :: u104 :: u105 :: u106 :: u107 :: u108 :: u109 :: u110 :: u111 :: u112 :: u113 :: u114 :: u115 :: u116 :: u117 :: u118 :: u119 :: []).toArray, []⟩ w') : Code.wp Try.prog (regionIn Try.f13 7) Q ⟨(u0 :: u1 :: u2 :: u3 :: u4 :: (.slice (some ⟨sb, 0, none⟩) 4 4) :: u6 :: u7 :: u8 :: u9 :: u10 :: u11 :: u12 :: u13 :: u14 :: u15 :: u16 :: u17 :: u18 :: u19 :: u20 :: u21 :: u22 :: u23 :: u24 :: u25 :: u26 :: u27 :: u28 :: u29 :: u30 :: u31 :: u32 :: u33 :: u34 :: u35 :: u36 :: u37 :: u38 :: u39 :: u40 :: u41 :: u42 :: u43 :: u44 :: u45 :: u46 :: u47 :: u48 :: u49 :: u50 :: u51 :: u52 :: u53 :: u54 :: u55 :: u56 :: u57 :: u58 :: u59 :: u60 :: u61 :: u62 :: u63 :: u64 :: u65 :: u66 :: u67 :: u68 :: u69 :: u70 :: u71 :: u72 :: u73 :: u74 :: u75 :: u76 :: u77 :: u78 :: u79 :: u80 :: u81 :: u82 :: u83 :: u84 :: u85 :: u86 :: u87 :: u88 :: u89 :: u90 :: u91 :: u92 :: u93 :: u94 :: u95 :: u96 :: u97 :: u98 :: u99 :: u100 :: u101 :: u102 :: u103 :: u104 :: u105 :: u106 :: u107 :: u108 :: u109 :: u110 :: u111 :: u112 :: u113 :: u114 :: u115 :: u116 :: u117 :: u118 :: u119 :: []).toArray, []⟩ w := by
  have HX := Lib.hid h
  have HS := Lib.hid (SArg.of (n := 4) (cap := 4) rfl (by decide) hS)
  clear h hS
  conv => arg 2; whnf
  go_wp2_with fail
  refine (P.out _ _ HS.out).mono ?_; rintro e w5 ⟨v, rfl, hO, hb⟩
  have hA := Lib.hid hO.arg
  clear hO
  go_wp2_with fail
  exact HX.out _ _ _ _ _ v _ hA.out hb

set_option maxRecDepth 100000 in
set_option maxHeartbeats 1000000 in
theorem san_r8 (u0 u1 u2 u3 u4 u6 u7 u8 u9 u10 u11 u12 u13 u14 u15 u16 u17 u18 u19 u20 u21 u22 u23 u24 u25 u26 u27 u28 u29 u30 u31 u32 u33 u34 u35 u36 u37 u38 u39 u40 u41 u42 u43 u44 u45 u46 u47 u48 u49 u50 u51 u52 u53 u54 u55 u56 u57 u58 u59 u60 u61 u62 u63 u64 u65 u66 u67 u68 u69 u70 u71 u72 u73 u74 u75 u76 u77 u78 u79 u80 u81 u82 u83 u84 u85 u86 u87 u88 u89 u90 u91 u92 u93 u94 u95 u96 u97 u98 u99 u100 u101 u102 u103 u104 u105 u106 u107 u108 u109 u110 u111 u112 u113 u114 u115 u116 u117 u118 u119 : Value) (sb : Nat) (hs : List (List UInt8)) (w : World)
    (P : Hid (∀ v w, SArg w v [[97], [98], [99]] → Calls Try.prog 31 #[v, .int .i64 1] w (PathPost w hs))) (hS : SAt w sb 0 [[97], [98], [99], [100]]) (Q : Exit → Act → World → Prop)
    (h : ∀ (y49 y50 y51 y52 y53 y54 v : Value) (w' : World), HArg w' v hs → Below w.heap.size w w' → Q .normal ⟨(u0 :: u1 :: u2 :: u3 :: u4 :: (.slice (some ⟨sb, 0, none⟩) 4 4) :: u6 :: u7 :: u8 :: u9 :: u10 :: u11 :: u12 :: u13 :: u14 :: v :: (.bool true) :: u17 :: u18 :: u19 :: u20 :: u21 :: u22 :: u23 :: u24 :: u25 :: u26 :: u27 :: u28 :: u29 :: u30 :: u31 :: u32 :: u33 :: u34 :: u35 :: u36 :: u37 :: u38 :: u39 :: u40 :: u41 :: u42 :: u43 :: u44 :: u45 :: u46 :: u47 :: u48 :: y49 :: y50 :: y51 :: y52 :: y53 :: y54 :: u55 :: u56 :: u57 :: u58 :: u59 :: u60 :: u61 :: u62 :: u63 :: u64 :: u65 :: u66 :: u67 :: u68 :: u69 :: u70 :: u71 :: u72 :: u73 :: u74 :: u75 :: u76 :: u77 :: u78 :: u79 :: u80 :: u81 :: u82 :: u83 :: u84 :: u85 :: u86 :: u87 :: u88 :: u89 :: u90 :: u91 :: u92 :: u93 :: u94 :: u95 :: u96 :: u97 :: u98 :: u99 :: u100 :: u101 :: u102 :: u103 :: u104 :: u105 :: u106 :: u107 :: u108 :: u109 :: u110 :: u111 :: u112 :: u113 :: u114 :: u115 :: u116 :: u117 :: u118 :: u119 :: []).toArray, []⟩ w') : Code.wp Try.prog (regionIn Try.f13 8) Q ⟨(u0 :: u1 :: u2 :: u3 :: u4 :: (.slice (some ⟨sb, 0, none⟩) 4 4) :: u6 :: u7 :: u8 :: u9 :: u10 :: u11 :: u12 :: u13 :: u14 :: u15 :: u16 :: u17 :: u18 :: u19 :: u20 :: u21 :: u22 :: u23 :: u24 :: u25 :: u26 :: u27 :: u28 :: u29 :: u30 :: u31 :: u32 :: u33 :: u34 :: u35 :: u36 :: u37 :: u38 :: u39 :: u40 :: u41 :: u42 :: u43 :: u44 :: u45 :: u46 :: u47 :: u48 :: u49 :: u50 :: u51 :: u52 :: u53 :: u54 :: u55 :: u56 :: u57 :: u58 :: u59 :: u60 :: u61 :: u62 :: u63 :: u64 :: u65 :: u66 :: u67 :: u68 :: u69 :: u70 :: u71 :: u72 :: u73 :: u74 :: u75 :: u76 :: u77 :: u78 :: u79 :: u80 :: u81 :: u82 :: u83 :: u84 :: u85 :: u86 :: u87 :: u88 :: u89 :: u90 :: u91 :: u92 :: u93 :: u94 :: u95 :: u96 :: u97 :: u98 :: u99 :: u100 :: u101 :: u102 :: u103 :: u104 :: u105 :: u106 :: u107 :: u108 :: u109 :: u110 :: u111 :: u112 :: u113 :: u114 :: u115 :: u116 :: u117 :: u118 :: u119 :: []).toArray, []⟩ w := by
  have HX := Lib.hid h
  have HS := Lib.hid (SArg.of (n := 3) (cap := 4) rfl (by decide) (hS.take 3))
  clear h hS
  conv => arg 2; whnf
  go_wp2_with fail
  refine (P.out _ _ HS.out).mono ?_; rintro e w5 ⟨v, rfl, hO, hb⟩
  have hA := Lib.hid hO.arg
  clear hO
  go_wp2_with fail
  exact HX.out _ _ _ _ _ _ v _ hA.out hb

set_option maxRecDepth 100000 in
set_option maxHeartbeats 1000000 in
theorem san_r9 (u0 u1 u2 u3 u4 u5 u6 u7 u8 u9 u10 u11 u12 u13 u14 u15 u16 u17 u18 u19 u20 u21 u22 u23 u24 u25 u26 u27 u28 u29 u30 u31 u32 u33 u34 u35 u36 u37 u38 u39 u40 u41 u42 u43 u44 u45 u46 u47 u48 u49 u50 u51 u52 u53 u54 u55 u56 u57 u58 u59 u60 u61 u62 u63 u64 u65 u66 u67 u68 u69 u70 u71 u72 u73 u74 u75 u76 u77 u78 u79 u80 u81 u82 u83 u84 u85 u86 u87 u88 u89 u90 u91 u92 u93 u94 u95 u96 u97 u98 u99 u100 u101 u102 u103 u104 u105 u106 u107 u108 u109 u110 u111 u112 u113 u114 u115 u116 u117 u118 u119 : Value) (w : World) (Q : Exit → Act → World → Prop)
    (h : ∀ (y55 : Value) (n17 : Nat) (w' : World), Blk w' n17 (hrow (List.replicate 32 0)) 24 → Below w.heap.size w w' → Q .normal ⟨(u0 :: u1 :: u2 :: u3 :: u4 :: u5 :: u6 :: u7 :: u8 :: u9 :: u10 :: u11 :: u12 :: u13 :: u14 :: u15 :: u16 :: (.pointer (some ⟨n17, 0, none⟩)) :: u18 :: u19 :: u20 :: u21 :: u22 :: u23 :: u24 :: u25 :: u26 :: u27 :: u28 :: u29 :: u30 :: u31 :: u32 :: u33 :: u34 :: u35 :: u36 :: u37 :: u38 :: u39 :: u40 :: u41 :: u42 :: u43 :: u44 :: u45 :: u46 :: u47 :: u48 :: u49 :: u50 :: u51 :: u52 :: u53 :: u54 :: y55 :: u56 :: u57 :: u58 :: u59 :: u60 :: u61 :: u62 :: u63 :: u64 :: u65 :: u66 :: u67 :: u68 :: u69 :: u70 :: u71 :: u72 :: u73 :: u74 :: u75 :: u76 :: u77 :: u78 :: u79 :: u80 :: u81 :: u82 :: u83 :: u84 :: u85 :: u86 :: u87 :: u88 :: u89 :: u90 :: u91 :: u92 :: u93 :: u94 :: u95 :: u96 :: u97 :: u98 :: u99 :: u100 :: u101 :: u102 :: u103 :: u104 :: u105 :: u106 :: u107 :: u108 :: u109 :: u110 :: u111 :: u112 :: u113 :: u114 :: u115 :: u116 :: u117 :: u118 :: u119 :: []).toArray, []⟩ w') : Code.wp Try.prog (regionIn Try.f13 9) Q ⟨(u0 :: u1 :: u2 :: u3 :: u4 :: u5 :: u6 :: u7 :: u8 :: u9 :: u10 :: u11 :: u12 :: u13 :: u14 :: u15 :: u16 :: u17 :: u18 :: u19 :: u20 :: u21 :: u22 :: u23 :: u24 :: u25 :: u26 :: u27 :: u28 :: u29 :: u30 :: u31 :: u32 :: u33 :: u34 :: u35 :: u36 :: u37 :: u38 :: u39 :: u40 :: u41 :: u42 :: u43 :: u44 :: u45 :: u46 :: u47 :: u48 :: u49 :: u50 :: u51 :: u52 :: u53 :: u54 :: u55 :: u56 :: u57 :: u58 :: u59 :: u60 :: u61 :: u62 :: u63 :: u64 :: u65 :: u66 :: u67 :: u68 :: u69 :: u70 :: u71 :: u72 :: u73 :: u74 :: u75 :: u76 :: u77 :: u78 :: u79 :: u80 :: u81 :: u82 :: u83 :: u84 :: u85 :: u86 :: u87 :: u88 :: u89 :: u90 :: u91 :: u92 :: u93 :: u94 :: u95 :: u96 :: u97 :: u98 :: u99 :: u100 :: u101 :: u102 :: u103 :: u104 :: u105 :: u106 :: u107 :: u108 :: u109 :: u110 :: u111 :: u112 :: u113 :: u114 :: u115 :: u116 :: u117 :: u118 :: u119 :: []).toArray, []⟩ w := by
  have HX := Lib.hid h
  clear h
  have NZ : Blk (w.alloc (.cells hz 24)) w.heap.size (hrow (List.replicate 32 0)) 24 := hz_row ▸ Blk.new w hz 24
  have hb := (Below.refl w.heap.size w).alloc (Nat.le_refl _) (.cells hz 24)
  have HZ := Lib.hid (fun w' (h : w' = w.alloc (.cells hz 24)) => (h ▸ Blk.new w hz 24 : Blk w' w.heap.size hz 24))
  have HN := Lib.hid NZ
  have HE := Lib.hid hz_row
  have HL := Lib.hid hz_len
  clear NZ
  conv => arg 2; whnf
  go_wp2_with (first
    | (refine wpList_zero_hash rfl rfl ?_; go_frame)
    | (refine wpList_alloc_hash rfl rfl ?_; go_frame; try simp only [World.size_alloc])
    | (refine wpList_store_row rfl 24 (.tmp 17) (.tmp 55) rfl w.heap.size hz rfl rfl 24 hz (HZ.out _ rfl) (by kernel_rfl) rfl (by kernel_rfl) ?_; go_frame; rw [Blk.fresh]))
  exact HX.out _ _ _ HN.out hb

set_option maxRecDepth 100000 in
set_option maxHeartbeats 1000000 in
theorem san_t9 (u17 u18 u19 u20 u21 u22 u23 u24 u25 u26 u27 u28 u29 u30 u31 u32 u33 u34 u35 u36 u37 u38 u39 u40 u41 u42 u43 u44 u45 u46 u47 u48 u49 u50 u51 u52 u53 u54 u55 u56 u57 u58 u59 u60 u61 u62 u63 u64 u65 u66 u67 u68 u69 u70 u71 u72 u73 u74 u75 u76 u77 u78 u79 u80 u81 u82 u83 u84 u85 u86 u87 u88 u89 u90 u91 u92 u93 u94 u95 u96 u97 u98 u99 u100 u101 u102 u103 u104 u105 u106 u107 u108 u109 u110 u111 u112 u113 u114 u115 u116 u117 u118 u119 : Value) (n1 n2 n3 n4 sb n6 : Nat) (A B C D AB R : List UInt8) (v7 v9 v11 v13 v15 : Value) (hA : A.length = 32) (hB : B.length = 32) (hC : C.length = 32) (hD : D.length = 32) (hAB : AB.length = 32) (hR : R.length = 32) (hne : (A == List.replicate 32 0) = false) (W0 w5 : World)
    (R1 : Hid (∀ v w, SArg w v [[97], [98], [99]] → Calls Try.prog 16 #[v] w fun e w' => e = .returned (.agg (hrow R)) ∧ Below w.heap.size w w'))
    (E6 : Hid (∀ w', Calls Try.prog 18 #[.agg (hrow AB), .agg (hrow C)] w' fun e w'' => e = .returned (.agg (hrow R)) ∧ Below w'.heap.size w' w''))
    (HS : Hid (San0 w5 n1 n2 n3 n4 sb n6 A B C D AB [[97], [98], [99], [100]])) (hA7 : Hid (HArg w5 v7 [AB])) (hA9 : Hid (HArg w5 v9 [B, C])) (hA11 : Hid (HArg w5 v11 [C])) (hA13 : Hid (HArg w5 v13 [C, D, AB])) (hA15 : Hid (HArg w5 v15 [B, C])) (hBel : Below W0.heap.size W0 w5) :
    Code.wp Try.prog (tailIn Try.f13 9) (bodyPost Try.prog Try.f13 (fun e w' => e = .returned (.bool true) ∧ Below W0.heap.size W0 w')) ⟨((.bool false) :: (.pointer (some ⟨n1, 0, none⟩)) :: (.pointer (some ⟨n2, 0, none⟩)) :: (.pointer (some ⟨n3, 0, none⟩)) :: (.pointer (some ⟨n4, 0, none⟩)) :: (.slice (some ⟨sb, 0, none⟩) 4 4) :: (.pointer (some ⟨n6, 0, none⟩)) :: v7 :: (.bool true) :: v9 :: (.bool true) :: v11 :: (.bool true) :: v13 :: (.bool true) :: v15 :: (.bool true) :: u17 :: u18 :: u19 :: u20 :: u21 :: u22 :: u23 :: u24 :: u25 :: u26 :: u27 :: u28 :: u29 :: u30 :: u31 :: u32 :: u33 :: u34 :: u35 :: u36 :: u37 :: u38 :: u39 :: u40 :: u41 :: u42 :: u43 :: u44 :: u45 :: u46 :: u47 :: u48 :: u49 :: u50 :: u51 :: u52 :: u53 :: u54 :: u55 :: u56 :: u57 :: u58 :: u59 :: u60 :: u61 :: u62 :: u63 :: u64 :: u65 :: u66 :: u67 :: u68 :: u69 :: u70 :: u71 :: u72 :: u73 :: u74 :: u75 :: u76 :: u77 :: u78 :: u79 :: u80 :: u81 :: u82 :: u83 :: u84 :: u85 :: u86 :: u87 :: u88 :: u89 :: u90 :: u91 :: u92 :: u93 :: u94 :: u95 :: u96 :: u97 :: u98 :: u99 :: u100 :: u101 :: u102 :: u103 :: u104 :: u105 :: u106 :: u107 :: u108 :: u109 :: u110 :: u111 :: u112 :: u113 :: u114 :: u115 :: u116 :: u117 :: u118 :: u119 :: []).toArray, []⟩ w5 := by
  conv => arg 2; whnf
  go_upto_region 9 with (fail)
  refine san_r9 _ _ _ _ _ _ _ _ _ _ _ _ _ _ _ _ _ _ _ _ _ _ _ _ _ _ _ _ _ _ _ _ _ _ _ _ _ _ _ _ _ _ _ _ _ _ _ _ _ _ _ _ _ _ _ _ _ _ _ _ _ _ _ _ _ _ _ _ _ _ _ _ _ _ _ _ _ _ _ _ _ _ _ _ _ _ _ _ _ _ _ _ _ _ _ _ _ _ _ _ _ _ _ _ _ _ _ _ _ _ _ _ _ _ _ _ _ _ _ _ w5 _ ?_
  intro y55 n17 w6 NZ hb
  have HS7 : San w6 n1 n2 n3 n4 n6 A B C D AB v7 v9 v11 v13 v15 := ⟨HS.out.a.below hb HS.out.a.lt, HS.out.b.below hb HS.out.b.lt, HS.out.c.below hb HS.out.c.lt, HS.out.d.below hb HS.out.d.lt, HS.out.ab.below hb HS.out.ab.lt, hA7.out.below hb, hA9.out.below hb, hA11.out.below hb, hA13.out.below hb, hA15.out.below hb⟩
  have HST := HS.out.s.below hb
  have hBel := hBel.trans (hb.mono hBel.size)
  clear hb HS hA7 hA9 hA11 hA13 hA15
  go_upto_region 10 with (fail)
  refine san_t10 _ _ _ _ _ _ _ _ _ _ _ _ _ _ _ _ _ _ _ _ _ _ _ _ _ _ _ _ _ _ _ _ _ _ _ _ _ _ _ _ _ _ _ _ _ _ _ _ _ _ _ _ _ _ _ _ _ _ _ _ _ _ _ _ _ _ _ _ _ _ _ _ _ _ _ _ _ _ _ _ _ _ _ _ _ _ _ _ _ _ _ _ _ _ _ _ _ _ _ _ _ _ _ n1 n2 n3 n4 n6 n17 sb A B C D AB R [[97], [98], [99], [100]] v7 v9 v11 v13 v15 hA hC hAB hR W0 w6 HS7 hBel NZ HST hne (fun w' h => R1.out _ _ (SArg.of rfl (by decide) (h.take 3))) (fun w' => E6.out w') _ ?_
  intro y56 y57 y58 y59 y60 y61 y62 y63 y64 y65 y66 y67 y68 y69 y70 y71 y72 y73 y74 y75 y76 y77 y78 y79 y80 y81 y82 y83 y84 y85 y86 w7 HS7 hBel
  go_upto_region 12 with (fail)
  refine san_t12 _ _ _ _ _ _ _ _ _ _ _ _ _ _ _ _ _ _ _ _ _ _ _ _ _ _ _ _ _ _ _ _ _ _ _ _ _ _ _ _ _ _ _ _ _ _ _ _ _ _ _ _ _ _ _ _ _ _ _ _ _ _ _ _ _ _ _ _ _ _ _ _ _ _ _ _ _ _ _ _ _ _ _ _ _ _ _ _ _ _ _ _ _ _ _ _ _ _ _ _ _ _ _ _ _ _ _ _ _ _ n1 n2 n3 n4 n6 A B C D AB v7 v9 v11 v13 v15 hB hC hD hAB W0 w7 HS7 hBel _ ?_
  intro y88 y89 y90 y91 y92 y93 y94 y95 y96 y97 y98 y99 y100 y101 y102 y103 y104 y105 y106 y107 y108 y109 y110 y111 y112 y113 y114 y115 y116 y117 y118 y119 w8 hBel
  go_wp2_with fail
  go_ret
  exact ⟨rfl, hBel⟩
set_option maxRecDepth 100000 in
set_option maxHeartbeats 1000000 in
theorem san_t4 (u7 u8 u9 u10 u11 u12 u13 u14 u15 u16 u17 u18 u19 u20 u21 u22 u23 u24 u25 u26 u27 u28 u29 u30 u31 u32 u33 u34 u35 u36 u37 u38 u39 u40 u41 u42 u43 u44 u45 u46 u47 u48 u49 u50 u51 u52 u53 u54 u55 u56 u57 u58 u59 u60 u61 u62 u63 u64 u65 u66 u67 u68 u69 u70 u71 u72 u73 u74 u75 u76 u77 u78 u79 u80 u81 u82 u83 u84 u85 u86 u87 u88 u89 u90 u91 u92 u93 u94 u95 u96 u97 u98 u99 u100 u101 u102 u103 u104 u105 u106 u107 u108 u109 u110 u111 u112 u113 u114 u115 u116 u117 u118 u119 : Value) (n1 n2 n3 n4 sb n6 : Nat) (A B C D AB R : List UInt8) (hA : A.length = 32) (hB : B.length = 32) (hC : C.length = 32) (hD : D.length = 32) (hAB : AB.length = 32) (hR : R.length = 32) (hne : (A == List.replicate 32 0) = false) (W0 w : World)
    (P1 : Hid (∀ v w, SArg w v [[97], [98], [99]] → Calls Try.prog 21 #[v, .int .i64 2] w (PathPost w [AB])))
    (P2 : Hid (∀ v w, SArg w v [[97], [98], [99]] → Calls Try.prog 21 #[v, .int .i64 0] w (PathPost w [B, C])))
    (G1 : Hid (∀ v w, SArg w v [[97], [98], [99]] → Calls Try.prog 31 #[v, .int .i64 2] w (PathPost w [C])))
    (G2 : Hid (∀ v w, SArg w v [[97], [98], [99], [100]] → Calls Try.prog 31 #[v, .int .i64 3] w (PathPost w [C, D, AB])))
    (G3 : Hid (∀ v w, SArg w v [[97], [98], [99]] → Calls Try.prog 31 #[v, .int .i64 1] w (PathPost w [B, C])))
    (R1 : Hid (∀ v w, SArg w v [[97], [98], [99]] → Calls Try.prog 16 #[v] w fun e w' => e = .returned (.agg (hrow R)) ∧ Below w.heap.size w w'))
    (E6 : Hid (∀ w', Calls Try.prog 18 #[.agg (hrow AB), .agg (hrow C)] w' fun e w'' => e = .returned (.agg (hrow R)) ∧ Below w'.heap.size w' w''))
    (hS : San0 w n1 n2 n3 n4 sb n6 A B C D AB [[97], [98], [99], [100]]) (hBel : Below W0.heap.size W0 w) (K : Act → World → Prop)
    (hK : ∀ a w, Code.wp Try.prog (tailIn Try.f13 5) (bodyPost Try.prog Try.f13 (fun e w' => e = .returned (.bool true) ∧ Below W0.heap.size W0 w')) a w → K a w) :
    Code.wp Try.prog (regionIn Try.f13 4) (Exit.then K (bodyPost Try.prog Try.f13 (fun e w' => e = .returned (.bool true) ∧ Below W0.heap.size W0 w'))) ⟨((.bool false) :: (.pointer (some ⟨n1, 0, none⟩)) :: (.pointer (some ⟨n2, 0, none⟩)) :: (.pointer (some ⟨n3, 0, none⟩)) :: (.pointer (some ⟨n4, 0, none⟩)) :: (.slice (some ⟨sb, 0, none⟩) 4 4) :: (.pointer (some ⟨n6, 0, none⟩)) :: u7 :: u8 :: u9 :: u10 :: u11 :: u12 :: u13 :: u14 :: u15 :: u16 :: u17 :: u18 :: u19 :: u20 :: u21 :: u22 :: u23 :: u24 :: u25 :: u26 :: u27 :: u28 :: u29 :: u30 :: u31 :: u32 :: u33 :: u34 :: u35 :: u36 :: u37 :: u38 :: u39 :: u40 :: u41 :: u42 :: u43 :: u44 :: u45 :: u46 :: u47 :: u48 :: u49 :: u50 :: u51 :: u52 :: u53 :: u54 :: u55 :: u56 :: u57 :: u58 :: u59 :: u60 :: u61 :: u62 :: u63 :: u64 :: u65 :: u66 :: u67 :: u68 :: u69 :: u70 :: u71 :: u72 :: u73 :: u74 :: u75 :: u76 :: u77 :: u78 :: u79 :: u80 :: u81 :: u82 :: u83 :: u84 :: u85 :: u86 :: u87 :: u88 :: u89 :: u90 :: u91 :: u92 :: u93 :: u94 :: u95 :: u96 :: u97 :: u98 :: u99 :: u100 :: u101 :: u102 :: u103 :: u104 :: u105 :: u106 :: u107 :: u108 :: u109 :: u110 :: u111 :: u112 :: u113 :: u114 :: u115 :: u116 :: u117 :: u118 :: u119 :: []).toArray, []⟩ w := by
  have HS := Lib.hid hS
  clear hS
  refine san_r4 _ _ _ _ _ _ _ _ _ _ _ _ _ _ _ _ _ _ _ _ _ _ _ _ _ _ _ _ _ _ _ _ _ _ _ _ _ _ _ _ _ _ _ _ _ _ _ _ _ _ _ _ _ _ _ _ _ _ _ _ _ _ _ _ _ _ _ _ _ _ _ _ _ _ _ _ _ _ _ _ _ _ _ _ _ _ _ _ _ _ _ _ _ _ _ _ _ _ _ _ _ _ _ _ _ _ _ _ _ _ _ _ _ _ _ _ _ _ _ sb _ w P1 HS.out.s _ ?_
  intro y26 y27 y28 y29 y30 y31 v7 w5 hA7 hb
  have HS := Lib.hid (HS.out.below hb)
  have hBel := hBel.trans (hb.mono hBel.size)
  have hA7 := Lib.hid hA7
  refine hK _ _ ?_
  clear hb
  conv => arg 2; whnf
  go_upto_region 5 with (fail)
  refine san_r5 _ _ _ _ _ _ _ _ _ _ _ _ _ _ _ _ _ _ _ _ _ _ _ _ _ _ _ _ _ _ _ _ _ _ _ _ _ _ _ _ _ _ _ _ _ _ _ _ _ _ _ _ _ _ _ _ _ _ _ _ _ _ _ _ _ _ _ _ _ _ _ _ _ _ _ _ _ _ _ _ _ _ _ _ _ _ _ _ _ _ _ _ _ _ _ _ _ _ _ _ _ _ _ _ _ _ _ _ _ _ _ _ _ _ _ _ _ _ _ sb _ w5 P2 HS.out.s _ ?_
  intro y32 y33 y34 y35 y36 y37 v9 w6 hA9 hb
  have HS := Lib.hid (HS.out.below hb)
  have hBel := hBel.trans (hb.mono hBel.size)
  have hA9 := Lib.hid hA9
  have hA7 := Lib.hid (hA7.out.below hb)
  clear hb
  go_upto_region 6 with (fail)
  refine san_r6 _ _ _ _ _ _ _ _ _ _ _ _ _ _ _ _ _ _ _ _ _ _ _ _ _ _ _ _ _ _ _ _ _ _ _ _ _ _ _ _ _ _ _ _ _ _ _ _ _ _ _ _ _ _ _ _ _ _ _ _ _ _ _ _ _ _ _ _ _ _ _ _ _ _ _ _ _ _ _ _ _ _ _ _ _ _ _ _ _ _ _ _ _ _ _ _ _ _ _ _ _ _ _ _ _ _ _ _ _ _ _ _ _ _ _ _ _ _ _ sb _ w6 G1 HS.out.s _ ?_
  intro y38 y39 y40 y41 y42 y43 v11 w7 hA11 hb
  have HS := Lib.hid (HS.out.below hb)
  have hBel := hBel.trans (hb.mono hBel.size)
  have hA11 := Lib.hid hA11
  have hA7 := Lib.hid (hA7.out.below hb)
  have hA9 := Lib.hid (hA9.out.below hb)
  clear hb
  go_upto_region 7 with (fail)
  refine san_r7 _ _ _ _ _ _ _ _ _ _ _ _ _ _ _ _ _ _ _ _ _ _ _ _ _ _ _ _ _ _ _ _ _ _ _ _ _ _ _ _ _ _ _ _ _ _ _ _ _ _ _ _ _ _ _ _ _ _ _ _ _ _ _ _ _ _ _ _ _ _ _ _ _ _ _ _ _ _ _ _ _ _ _ _ _ _ _ _ _ _ _ _ _ _ _ _ _ _ _ _ _ _ _ _ _ _ _ _ _ _ _ _ _ _ _ _ _ _ _ sb _ w7 G2 HS.out.s _ ?_
  intro y44 y45 y46 y47 y48 v13 w8 hA13 hb
  have HS := Lib.hid (HS.out.below hb)
  have hBel := hBel.trans (hb.mono hBel.size)
  have hA13 := Lib.hid hA13
  have hA7 := Lib.hid (hA7.out.below hb)
  have hA9 := Lib.hid (hA9.out.below hb)
  have hA11 := Lib.hid (hA11.out.below hb)
  clear hb
  go_upto_region 8 with (fail)
  refine san_r8 _ _ _ _ _ _ _ _ _ _ _ _ _ _ _ _ _ _ _ _ _ _ _ _ _ _ _ _ _ _ _ _ _ _ _ _ _ _ _ _ _ _ _ _ _ _ _ _ _ _ _ _ _ _ _ _ _ _ _ _ _ _ _ _ _ _ _ _ _ _ _ _ _ _ _ _ _ _ _ _ _ _ _ _ _ _ _ _ _ _ _ _ _ _ _ _ _ _ _ _ _ _ _ _ _ _ _ _ _ _ _ _ _ _ _ _ _ _ _ sb _ w8 G3 HS.out.s _ ?_
  intro y49 y50 y51 y52 y53 y54 v15 w9 hA15 hb
  have HS := Lib.hid (HS.out.below hb)
  have hBel := hBel.trans (hb.mono hBel.size)
  have hA15 := Lib.hid hA15
  have hA7 := Lib.hid (hA7.out.below hb)
  have hA9 := Lib.hid (hA9.out.below hb)
  have hA11 := Lib.hid (hA11.out.below hb)
  have hA13 := Lib.hid (hA13.out.below hb)
  clear hb
  have hK9 := ‹∀ (a : Act) (w : World), Code.wp Try.prog _ _ a w → _›
  refine hK9 _ _ ?_
  exact san_t9 _ _ _ _ _ _ _ _ _ _ _ _ _ _ _ _ _ _ _ _ _ _ _ _ _ _ _ _ _ _ _ _ _ _ _ _ _ _ _ _ _ _ _ _ _ _ _ _ _ _ _ _ _ _ _ _ _ _ _ _ _ _ _ _ _ _ _ _ _ _ _ _ _ _ _ _ _ _ _ _ _ _ _ _ _ _ _ _ _ _ _ _ _ _ _ _ _ _ _ _ _ _ _ n1 n2 n3 n4 sb n6 A B C D AB R v7 v9 v11 v13 v15 hA hB hC hD hAB hR hne W0 w9 R1 E6 HS hA7 hA9 hA11 hA13 hA15 hBel
set_option maxRecDepth 100000 in
set_option maxHeartbeats 1000000 in
theorem sanity_any (w : World) : Calls Try.prog 13 #[] w fun e w' => e = .returned (.bool true) ∧ Below w.heap.size w w' := by
  have hB := Below.refl w.heap.size w
  have E1 := Lib.hid (fun w => Leaf_any [97] (by decide) w)
  have E2 := Lib.hid (fun w => Leaf_any [98] (by decide) w)
  have E3 := Lib.hid (fun w => Leaf_any [99] (by decide) w)
  have E4 := Lib.hid (fun w => Leaf_any [100] (by decide) w)
  have hne := leaf_a
  have hAB := node_length (leaf [97]) (leaf [98])
  have hR := node_length (node (leaf [97]) (leaf [98])) (leaf [99])
  have hA := leaf_length [97]
  have hb := leaf_length [98]
  have hC := leaf_length [99]
  have hD := leaf_length [100]
  have E5 := Lib.hid (fun w => Node_any _ _ hA hb w)
  have E6 := Lib.hid (fun w => Node_any _ _ hAB hC w)
  have K4 : Small [[97], [98], [99], [100]] := ⟨by intro s hs; simp at hs; rcases hs with rfl | rfl | rfl | rfl <;> decide, by decide⟩
  have K3 : Small [[97], [98], [99]] := K4.take 3
  have P1 := Lib.hid (fun v w hA => pt1 [97] [98] [99] ▸ Path_yes [[97], [98], [99]] 2 v w K3 hA (by decide))
  have P2 := Lib.hid (fun v w hA => pt3 [97] [98] [99] ▸ Path_yes [[97], [98], [99]] 0 v w K3 hA (by decide))
  have G1 := Lib.hid (fun v w hA => gt1 [97] [98] [99] ▸ Growth_yes [[97], [98], [99]] 2 v w K3 hA (by decide))
  have G2 := Lib.hid (fun v w hA => gt3 [97] [98] [99] [100] ▸ Growth_yes [[97], [98], [99], [100]] 3 v w K4 hA (by decide))
  have G3 := Lib.hid (fun v w hA => gt4 [97] [98] [99] ▸ Growth_yes [[97], [98], [99]] 1 v w K3 hA (by decide))
  have R1 := Lib.hid (fun v w hA => rt3 [97] [98] [99] ▸ Root_any 3 [[97], [98], [99]] v w (by decide) K3 hA)
  generalize node (node (leaf [97]) (leaf [98])) (leaf [99]) = R at *
  generalize node (leaf [97]) (leaf [98]) = AB at *
  generalize leaf [97] = A at *
  generalize leaf [98] = B at *
  generalize leaf [99] = C at *
  generalize leaf [100] = D at *
  go_enter Try.func13, Try.ntmps13
  go_wp2_with fail
  refine (Calls.chain hB hB.size (E1.out _)).mono ?_; clear hB; rintro e w1 ⟨rfl, hB, _⟩
  go_wp2_with fail
  refine (Calls.chain hB hB.size (E2.out _)).mono ?_; clear hB; rintro e w2 ⟨rfl, hB, _⟩
  go_wp2_with fail
  refine (Calls.chain hB hB.size (E3.out _)).mono ?_; clear hB; rintro e w3 ⟨rfl, hB, _⟩
  go_wp2_with fail
  refine (Calls.chain hB hB.size (E4.out _)).mono ?_; clear hB; rintro e w4 ⟨rfl, hB, _⟩
  obtain ⟨N1, N2, N3, N4, HF⟩ := four_hash w4 A B C D
  have HF := Lib.hid HF
  have hzs := hz_len
  have HZ := Lib.hid hzs
  have M1 := Lib.hid N1
  have M2 := Lib.hid N2
  have M3 := Lib.hid N3
  have M4 := Lib.hid N4
  clear N1 N2 N3 N4 hzs
  go_upto_region 2 with (first
    | (refine wpList_alloc_hash rfl rfl ?_; go_frame; try simp only [World.size_alloc])
    | (refine wpList_store_hash rfl (.tmp 1) (.tmp 18) rfl w4.heap.size A hA rfl rfl hz (M1.out _ rfl) HZ.out ?_; go_frame)
    | (refine wpList_store_hash rfl (.tmp 2) (.tmp 19) rfl (w4.heap.size + 1) B hb rfl rfl hz (M2.out _ rfl) HZ.out ?_; go_frame)
    | (refine wpList_store_hash rfl (.tmp 3) (.tmp 20) rfl (w4.heap.size + 1 + 1) C hC rfl rfl hz (M3.out _ rfl) HZ.out ?_; go_frame)
    | (refine wpList_store_hash rfl (.tmp 4) (.tmp 21) rfl (w4.heap.size + 1 + 1 + 1) D hD rfl rfl hz (M4.out _ rfl) HZ.out ?_; go_frame))
  obtain ⟨Na, Nb, Nc, Nd, hb8⟩ := HF.out _ rfl
  have hB := hB.trans (hb8.mono hB.size)
  clear M1 M2 M3 M4 HF HZ
  obtain ⟨n, hn⟩ : ∃ n, w4.heap.size = n := ⟨_, rfl⟩
  rw [hn] at Na Nb Nc Nd hB ⊢
  generalize ((((((((w4.alloc (.cells hz 24)).alloc (.cells hz 24)).alloc (.cells hz 24)).alloc (.cells hz 24)).setRow n (hrow A)).setRow (n + 1) (hrow B)).setRow (n + 1 + 1) (hrow C)).setRow (n + 1 + 1 + 1) (hrow D)) = w8 at *
  clear hn hb8
  have hcl : SAt (w8.alloc (.cells #[S [97], S [98], S [99], S [100]] 9)) w8.heap.size 0 [[97], [98], [99], [100]] := by
    intro i s hs
    rw [Nat.zero_add]
    refine (Blk.new w8 #[S [97], S [98], S [99], S [100]] 9).cell i (S s) ?_
    match i, hs with
    | 0, hs => simp at hs; subst hs; rfl
    | 1, hs => simp at hs; subst hs; rfl
    | 2, hs => simp at hs; subst hs; rfl
    | 3, hs => simp at hs; subst hs; rfl
    | n + 4, hs => simp at hs
  have hB := hB.alloc hB.size (.cells #[S [97], S [98], S [99], S [100]] 9)
  have Na := Na.alloc (.cells #[S [97], S [98], S [99], S [100]] 9)
  have Nb := Nb.alloc (.cells #[S [97], S [98], S [99], S [100]] 9)
  have Nc := Nc.alloc (.cells #[S [97], S [98], S [99], S [100]] 9)
  have Nd := Nd.alloc (.cells #[S [97], S [98], S [99], S [100]] 9)
  go_upto_region 3 with (fail)
  obtain ⟨sb, hsb⟩ : ∃ sb, w8.heap.size = sb := ⟨_, rfl⟩
  rw [hsb] at hcl ⊢
  clear hsb E1 E2 E3 E4
  obtain ⟨w9, hw9⟩ : ∃ w9, w8.alloc (.cells #[S [97], S [98], S [99], S [100]] 9) = w9 := ⟨_, rfl⟩
  have hw9' : w8.alloc (.cells #[.string ⟨#[97]⟩, .string ⟨#[98]⟩, .string ⟨#[99]⟩, .string ⟨#[100]⟩] 9) = w9 := hw9
  rw [hw9] at hB Na Nb Nc Nd hcl
  rw [hw9']
  clear hw9 hw9'
  go_upto_region 4 with (first
    | (refine wpList_load_hash (by rfl) (.tmp 1) rfl n rfl A hA Na ?_; go_frame)
    | (refine wpList_load_hash (by rfl) (.tmp 2) rfl (n + 1) rfl B hb Nb ?_; go_frame))
  refine (Calls.chain hB hB.size (E5.out _)).mono ?_; clear hB; rintro e w10 ⟨rfl, hB, hb10⟩
  have hb11 := hb10.alloc (Nat.le_trans hb10.size (Nat.le_refl _)) (.cells (hrow AB) 24)
  have hB := hB.alloc hB.size (.cells (hrow AB) 24)
  have HS0 : San0 (w10.alloc (.cells (hrow AB) 24)) n (n + 1) (n + 1 + 1) (n + 1 + 1 + 1) sb w10.heap.size A B C D AB [[97], [98], [99], [100]] := ⟨Na.below hb11 Na.lt, Nb.below hb11 Nb.lt, Nc.below hb11 Nc.lt, Nd.below hb11 Nd.lt, Blk.new _ _ _, hcl.below hb11⟩
  have HZ := Lib.hid (fun w' (h : w' = w10.alloc (.cells hz 24)) => (h ▸ Blk.new w10 hz 24 : Blk w' w10.heap.size hz 24))
  have HL := Lib.hid hz_len
  clear Na Nb Nc Nd hcl hb10 hb11
  have HS := Lib.hid HS0
  clear HS0
  go_upto_region 4 with (first
    | (refine wpList_alloc_hash rfl rfl ?_; go_frame; try simp only [World.size_alloc])
    | (refine wpList_store_hash rfl (.tmp 6) (.tmp 25) rfl w10.heap.size AB hAB rfl rfl hz (HZ.out _ rfl) HL.out ?_; go_frame; rw [Blk.fresh]))
  have hK := ‹∀ (a : Act) (w : World), Code.wp Try.prog _ _ a w → _›
  exact san_t4 _ _ _ _ _ _ _ _ _ _ _ _ _ _ _ _ _ _ _ _ _ _ _ _ _ _ _ _ _ _ _ _ _ _ _ _ _ _ _ _ _ _ _ _ _ _ _ _ _ _ _ _ _ _ _ _ _ _ _ _ _ _ _ _ _ _ _ _ _ _ _ _ _ _ _ _ _ _ _ _ _ _ _ _ _ _ _ _ _ _ _ _ _ _ _ _ _ _ _ _ _ _ _ _ _ _ _ _ _ _ _ _ _ n (n + 1) (n + 1 + 1) (n + 1 + 1 + 1) sb w10.heap.size A B C D AB R hA hb hC hD hAB hR hne w _ P1 P2 G1 G2 G3 R1 E6 HS.out hB _ hK
end Go.Proofs.Ytjekdeikoebmgaa
