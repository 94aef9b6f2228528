/- ShareSums: sums of shares are shares of the sum, whose commitments are the products; no condition. -/
import Derived.Test.YtdnabeldaighgaaPls
namespace Go.Proofs.Ytdnabeldaighgaa.LSums
open Go.ChangeShapes Go.WideShapes Go.ChangeAt Go.RowKit Go.Shelf Go.ChangeMaps Shr Pol

set_option maxRecDepth 100000 in
set_option maxHeartbeats 2000000 in
theorem sums_r16 (u0 u1 u2 u3 u4 u5 u6 u7 u8 u10 u14 u15 u16 u17 u18 u19 u20 u21 u22 u23 u24 u25 u26 u27 u28 u29 u30 u31 u32 u33 u34 u35 u36 u37 u38 u39 u40 u41 u42 u43 u44 u45 u46 u47 u48 u49 u50 u51 u52 u53 u54 u55 u56 u57 u58 u59 u60 u61 u62 u63 u64 u65 u66 u67 u68 u69 u70 u71 u72 u73 u74 u75 u76 u77 u78 u79 u80 u81 u82 u83 u84 u85 u86 u87 u88 u89 u90 u91 u92 u93 u94 u95 u96 u97 u98 u99 u100 u101 u102 u103 u104 u105 u106 u107 u108 u109 u110 u111 u112 u113 u114 u115 u116 u117 u118 u119 u120 u121 u122 u123 u124 u125 u126 u127 u128 u129 u130 u131 u132 u133 u134 u135 u136 u137 u138 u139 u140 u141 u142 u143 u144 v12 : Value) (gc cc gd cd n i : Nat) (x y z : Int) (base : Nat) (l : List Int) (W0 w : World) (c8 : w.cell? ⟨gc, i, none⟩ = some (I x)) (c9 : w.cell? ⟨gd, i, none⟩ = some (I y)) (hin : i < n) (hgc : gc < base) (hgd : gd < base) (hl : l.length ≤ 4398046511100) (hbase : base ≤ w.heap.size) (O1 : Hid (OwnI w base v12 l)) (hB : Below base W0 w)
    (C : Hid (∀ w, Calls Try.prog 19 #[I x, I y, I 2305843009213691579] w fun e w' => e = .returned (I z) ∧ Below w.heap.size w w')) (Q : Exit → Act → World → Prop)
    (h : ∀ (y74 y75 y76 y77 y78 y79 y80 y81 y82 y83 y84 y85 v' : Value) (w' : World), OwnI w' base v' (l ++ [z]) → Below base W0 w' → Q .normal ⟨(u0 :: u1 :: u2 :: u3 :: u4 :: u5 :: u6 :: u7 :: u8 :: (.slice (some ⟨gc, 0, none⟩) n cc) :: u10 :: (.slice (some ⟨gd, 0, none⟩) n cd) :: v' :: (.int .i64 (i : Int)) :: u14 :: u15 :: u16 :: u17 :: u18 :: u19 :: u20 :: u21 :: u22 :: u23 :: u24 :: u25 :: u26 :: u27 :: u28 :: u29 :: u30 :: u31 :: u32 :: u33 :: u34 :: u35 :: u36 :: u37 :: u38 :: u39 :: u40 :: u41 :: u42 :: u43 :: u44 :: u45 :: u46 :: u47 :: u48 :: u49 :: u50 :: u51 :: u52 :: u53 :: u54 :: u55 :: u56 :: u57 :: u58 :: u59 :: u60 :: u61 :: u62 :: u63 :: u64 :: u65 :: u66 :: u67 :: u68 :: u69 :: u70 :: u71 :: u72 :: u73 :: y74 :: y75 :: y76 :: y77 :: y78 :: y79 :: y80 :: y81 :: y82 :: y83 :: y84 :: y85 :: u86 :: u87 :: u88 :: u89 :: u90 :: u91 :: u92 :: u93 :: u94 :: u95 :: u96 :: u97 :: u98 :: u99 :: u100 :: u101 :: u102 :: u103 :: u104 :: u105 :: u106 :: u107 :: u108 :: u109 :: u110 :: u111 :: u112 :: u113 :: u114 :: u115 :: u116 :: u117 :: u118 :: u119 :: u120 :: u121 :: u122 :: u123 :: u124 :: u125 :: u126 :: u127 :: u128 :: u129 :: u130 :: u131 :: u132 :: u133 :: u134 :: u135 :: u136 :: u137 :: u138 :: u139 :: u140 :: u141 :: u142 :: u143 :: u144 :: []).toArray, []⟩ w') : Code.wp Try.prog (regionIn Try.f4 16) Q ⟨(u0 :: u1 :: u2 :: u3 :: u4 :: u5 :: u6 :: u7 :: u8 :: (.slice (some ⟨gc, 0, none⟩) n cc) :: u10 :: (.slice (some ⟨gd, 0, none⟩) n cd) :: v12 :: (.int .i64 (i : Int)) :: u14 :: u15 :: u16 :: u17 :: u18 :: u19 :: u20 :: u21 :: u22 :: u23 :: u24 :: u25 :: u26 :: u27 :: u28 :: u29 :: u30 :: u31 :: u32 :: u33 :: u34 :: u35 :: u36 :: u37 :: u38 :: u39 :: u40 :: u41 :: u42 :: u43 :: u44 :: u45 :: u46 :: u47 :: u48 :: u49 :: u50 :: u51 :: u52 :: u53 :: u54 :: u55 :: u56 :: u57 :: u58 :: u59 :: u60 :: u61 :: u62 :: u63 :: u64 :: u65 :: u66 :: u67 :: u68 :: u69 :: u70 :: u71 :: u72 :: u73 :: u74 :: u75 :: u76 :: u77 :: u78 :: u79 :: u80 :: u81 :: u82 :: u83 :: u84 :: u85 :: u86 :: u87 :: u88 :: u89 :: u90 :: u91 :: u92 :: u93 :: u94 :: u95 :: u96 :: u97 :: u98 :: u99 :: u100 :: u101 :: u102 :: u103 :: u104 :: u105 :: u106 :: u107 :: u108 :: u109 :: u110 :: u111 :: u112 :: u113 :: u114 :: u115 :: u116 :: u117 :: u118 :: u119 :: u120 :: u121 :: u122 :: u123 :: u124 :: u125 :: u126 :: u127 :: u128 :: u129 :: u130 :: u131 :: u132 :: u133 :: u134 :: u135 :: u136 :: u137 :: u138 :: u139 :: u140 :: u141 :: u142 :: u143 :: u144 :: []).toArray, []⟩ w := by
  have HX := Lib.hid h
  have q1 : (i : Int) < (n : Int) := by omega
  have HB := Lib.hid hB
  clear h hB
  conv => arg 2; whnf
  refine wp_region_noPanic ?_
  refine wp_region_held (S := fun W => W.cell? ⟨gc, i, none⟩ = some (I x) ∧ W.cell? ⟨gd, i, none⟩ = some (I y)) (by kernel_rfl) ?_
  have hb0 : Below w.heap.size w { w with drawn := w.drawn + 1 } := (Below.refl _ w).drew
  have HS : ({ w with drawn := w.drawn + 1 } : World).cell? ⟨gc, i, none⟩ = some (I x) ∧ ({ w with drawn := w.drawn + 1 } : World).cell? ⟨gd, i, none⟩ = some (I y) := ⟨keepCells hb0 _ _ c8, keepCells hb0 _ _ c9⟩
  clear c8 c9
  generalize ({ w with drawn := w.drawn + 1 } : World) = w0 at *
  refine takeHd 12 0 v12 rfl (by kernel_rfl) (by kernel_rfl) (by kernel_rfl) (fun _ _ _ h => h) (Yields.yieldsIf (yields_move rfl rfl rfl)) HS ?_
  simp only [Act.put, List.setIfInBounds_toArray, List.set_cons_zero, List.set_cons_succ]
  refine takeHd 11 1 (.slice (some ⟨gc, 0, none⟩) n cc) rfl (by kernel_rfl) (by kernel_rfl) (by kernel_rfl) (fun _ _ _ h => h) (Yields.yieldsIf (yields_move rfl rfl rfl)) HS ?_
  simp only [Act.put, List.setIfInBounds_toArray, List.set_cons_zero, List.set_cons_succ]
  refine takeHd 10 2 (.int .i64 (i : Int)) rfl (by kernel_rfl) (by kernel_rfl) (by kernel_rfl) (fun _ _ _ h => h) (Yields.yieldsIf (yields_move rfl rfl rfl)) HS ?_
  simp only [Act.put, List.setIfInBounds_toArray, List.set_cons_zero, List.set_cons_succ]
  refine takeHd 9 3 (.pointer (some ⟨gc, i, none⟩)) rfl (by kernel_rfl) (by kernel_rfl) (by kernel_rfl) (fun _ _ _ h => h) (Yields.yieldsIf (yields_field rfl (fun w => by unfold execOp; go_simp))) HS ?_
  simp only [Act.put, List.setIfInBounds_toArray, List.set_cons_zero, List.set_cons_succ]
  refine takeHd 8 4 (I x) rfl (by kernel_rfl) (by kernel_rfl) (by kernel_rfl) (fun _ _ _ h => h) (yieldsIf_load rfl 3 (.tmp 77) ⟨gc, i, none⟩ rfl rfl (fun W hW => load_int W gc i (I x) hW.1)) HS ?_
  simp only [Act.put, List.setIfInBounds_toArray, List.set_cons_zero, List.set_cons_succ]
  refine takeHd 7 5 (.slice (some ⟨gd, 0, none⟩) n cd) rfl (by kernel_rfl) (by kernel_rfl) (by kernel_rfl) (fun _ _ _ h => h) (Yields.yieldsIf (yields_move rfl rfl rfl)) HS ?_
  simp only [Act.put, List.setIfInBounds_toArray, List.set_cons_zero, List.set_cons_succ]
  refine takeHd 6 6 (.int .i64 (i : Int)) rfl (by kernel_rfl) (by kernel_rfl) (by kernel_rfl) (fun _ _ _ h => h) (Yields.yieldsIf (yields_move rfl rfl rfl)) HS ?_
  simp only [Act.put, List.setIfInBounds_toArray, List.set_cons_zero, List.set_cons_succ]
  refine takeHd 5 7 (.pointer (some ⟨gd, i, none⟩)) rfl (by kernel_rfl) (by kernel_rfl) (by kernel_rfl) (fun _ _ _ h => h) (Yields.yieldsIf (yields_field rfl (fun w => by unfold execOp; go_simp))) HS ?_
  simp only [Act.put, List.setIfInBounds_toArray, List.set_cons_zero, List.set_cons_succ]
  refine takeHd 4 8 (I y) rfl (by kernel_rfl) (by kernel_rfl) (by kernel_rfl) (fun _ _ _ h => h) (yieldsIf_load rfl 3 (.tmp 81) ⟨gd, i, none⟩ rfl rfl (fun W hW => load_int W gd i (I y) hW.2)) HS ?_
  simp only [Act.put, List.setIfInBounds_toArray, List.set_cons_zero, List.set_cons_succ]
  refine wpAnyH_all (fuel := 3) (rs := [9]) (by kernel_rfl) (by simp) ?_
  intro i hi
  obtain rfl := List.mem_singleton.1 hi
  clear hi
  refine callL rfl rfl ?_
  go_simp
  refine (C.out w0).mono ?_
  rintro e w2 ⟨rfl, hb⟩
  have HS1 := And.intro (keepCells hb _ _ HS.1) (keepCells hb _ _ HS.2)
  have hb02 := hb0.trans (hb.mono hb0.size)
  have hbs := Nat.le_trans hbase hb02.size
  obtain ⟨v', w4, r1, r2, r3, r4⟩ := run_append_int w2 base v12 l (O1.out.below hb02) hbs z hl
  have HR := Lib.hid r2
  have HB1 := Lib.hid (one_int w2 z)
  have HAP := Lib.hid r1
  have HS3 := below_of_grown (HB.out.trans (hb02.mono hbase)) r3 hbs (fun g hg => O1.out.blk g hg)
  have HS4 : w4.cell? ⟨gc, i, none⟩ = some (I x) ∧ w4.cell? ⟨gd, i, none⟩ = some (I y) := ⟨(World.cell?_of_block (w := w2) (a := ⟨gc, i, none⟩) (r3.block gc (by show gc < w2.heap.size; omega) (fun e => by have := O1.out.blk gc e.symm; omega))).trans HS1.1, (World.cell?_of_block (w := w2) (a := ⟨gd, i, none⟩) (r3.block gd (by show gd < w2.heap.size; omega) (fun e => by have := O1.out.blk gd e.symm; omega))).trans HS1.2⟩
  have hba := (Below.refl w2.heap.size w2).alloc (Nat.le_refl _) (.cells #[I z] 3)
  have HS2 := And.intro (keepCells hba _ _ HS1.1) (keepCells hba _ _ HS1.2)
  clear r1 r2 r3 r4 hba hb hb02 hb0
  refine ⟨HS1, ?_⟩
  try simp only [Act.put, List.setIfInBounds_toArray, List.set_cons_zero, List.set_cons_succ]
  refine wpAnyH_all (fuel := 2) (rs := [10]) (by kernel_rfl) (by simp) ?_
  intro i hi
  obtain rfl := List.mem_singleton.1 hi
  clear hi
  refine buildL rfl rfl 22 1 #[(0, .tmp 83)] rfl #[(0, I z)] rfl _ HB1.out ?_
  simp only [Act.put, List.setIfInBounds_toArray, List.set_cons_zero, List.set_cons_succ]
  refine ⟨HS2, ?_⟩
  refine wpAnyH_all (fuel := 1) (rs := [11]) (by kernel_rfl) (by simp) ?_
  intro i hi
  obtain rfl := List.mem_singleton.1 hi
  clear hi
  refine appendL rfl rfl (.tmp 74) (.tmp 84) 22 22 rfl _ _ rfl rfl _ HAP.out ?_
  simp only [Act.put, List.setIfInBounds_toArray, List.set_cons_zero, List.set_cons_succ]
  refine ⟨HS4, ?_⟩
  refine takeHd 0 12 v' rfl (by kernel_rfl) (by kernel_rfl) (by kernel_rfl) (fun _ _ _ h => h) (Yields.yieldsIf (yields_field rfl (fun w => by unfold execOp; go_simp))) HS4 ?_
  simp only [Act.put, List.setIfInBounds_toArray, List.set_cons_zero, List.set_cons_succ]
  refine wpAnyH_done (by kernel_rfl) ?_ 0
  refine NoPanic.normal ?_
  exact HX.out _ _ _ _ _ _ _ _ _ _ _ _ v' _ HR.out HS3

theorem zeroSh : (Try.prog.info? 33).bind (·.zero) = some (.agg #[I 0, I 0]) := by kernel_rfl
set_option maxRecDepth 100000 in
set_option maxHeartbeats 2000000 in
theorem sums_r21 (u0 u1 u2 u3 u4 u5 u6 u7 u9 u11 u12 u13 u14 u16 u17 u18 u19 u20 u21 u22 u23 u24 u25 u26 u27 u28 u29 u30 u31 u32 u33 u34 u35 u36 u37 u38 u39 u40 u41 u42 u43 u44 u45 u46 u47 u48 u49 u50 u51 u52 u53 u54 u55 u56 u57 u58 u59 u60 u61 u62 u63 u64 u65 u66 u67 u68 u69 u70 u71 u72 u73 u74 u75 u76 u77 u78 u79 u80 u81 u82 u83 u84 u85 u86 u87 u88 u89 u90 u91 u92 u93 u94 u95 u96 u97 u98 u99 u100 u101 u102 u103 u104 u105 u106 u107 u108 u109 u110 u111 u112 u113 u114 u115 u116 u117 u118 u119 u120 u121 u122 u123 u124 u125 u126 u127 u128 u129 u130 u131 u132 u133 u134 u135 u136 u137 u138 u139 u140 u141 u142 u143 u144 : Value) (ga ca gb cb N i : Nat) (x y y2 z : Int) (w : World) (cx : w.cell? ⟨ga, i * 2, none⟩ = some (I x)) (cy : w.cell? ⟨ga, i * 2 + 1, none⟩ = some (I y)) (cz : w.cell? ⟨gb, i * 2 + 1, none⟩ = some (I y2)) (hin : i < N)
    (C : Hid (∀ w, Calls Try.prog 20 #[I y, I y2, I 1152921504606845789] w fun e w' => e = .returned (I z) ∧ Below w.heap.size w w')) (Q : Exit → Act → World → Prop)
    (h : ∀ (y92 y93 y94 y95 y96 y97 y98 y99 y100 y101 y102 y103 y104 y105 y106 y107 y108 : Value) (b16 : Nat) (w' : World), Blk w' b16 #[I x, I z] 33 → Below w.heap.size w w' → Q .normal ⟨(u0 :: u1 :: u2 :: u3 :: u4 :: u5 :: u6 :: u7 :: (.slice (some ⟨ga, 0, none⟩) N ca) :: u9 :: (.slice (some ⟨gb, 0, none⟩) N cb) :: u11 :: u12 :: u13 :: u14 :: (.int .i64 (i : Int)) :: (.pointer (some ⟨b16, 0, none⟩)) :: u17 :: u18 :: u19 :: u20 :: u21 :: u22 :: u23 :: u24 :: u25 :: u26 :: u27 :: u28 :: u29 :: u30 :: u31 :: u32 :: u33 :: u34 :: u35 :: u36 :: u37 :: u38 :: u39 :: u40 :: u41 :: u42 :: u43 :: u44 :: u45 :: u46 :: u47 :: u48 :: u49 :: u50 :: u51 :: u52 :: u53 :: u54 :: u55 :: u56 :: u57 :: u58 :: u59 :: u60 :: u61 :: u62 :: u63 :: u64 :: u65 :: u66 :: u67 :: u68 :: u69 :: u70 :: u71 :: u72 :: u73 :: u74 :: u75 :: u76 :: u77 :: u78 :: u79 :: u80 :: u81 :: u82 :: u83 :: u84 :: u85 :: u86 :: u87 :: u88 :: u89 :: u90 :: u91 :: y92 :: y93 :: y94 :: y95 :: y96 :: y97 :: y98 :: y99 :: y100 :: y101 :: y102 :: y103 :: y104 :: y105 :: y106 :: y107 :: y108 :: u109 :: u110 :: u111 :: u112 :: u113 :: u114 :: u115 :: u116 :: u117 :: u118 :: u119 :: u120 :: u121 :: u122 :: u123 :: u124 :: u125 :: u126 :: u127 :: u128 :: u129 :: u130 :: u131 :: u132 :: u133 :: u134 :: u135 :: u136 :: u137 :: u138 :: u139 :: u140 :: u141 :: u142 :: u143 :: u144 :: []).toArray, []⟩ w') : Code.wp Try.prog (regionIn Try.f4 21) Q ⟨(u0 :: u1 :: u2 :: u3 :: u4 :: u5 :: u6 :: u7 :: (.slice (some ⟨ga, 0, none⟩) N ca) :: u9 :: (.slice (some ⟨gb, 0, none⟩) N cb) :: u11 :: u12 :: u13 :: u14 :: (.int .i64 (i : Int)) :: u16 :: u17 :: u18 :: u19 :: u20 :: u21 :: u22 :: u23 :: u24 :: u25 :: u26 :: u27 :: u28 :: u29 :: u30 :: u31 :: u32 :: u33 :: u34 :: u35 :: u36 :: u37 :: u38 :: u39 :: u40 :: u41 :: u42 :: u43 :: u44 :: u45 :: u46 :: u47 :: u48 :: u49 :: u50 :: u51 :: u52 :: u53 :: u54 :: u55 :: u56 :: u57 :: u58 :: u59 :: u60 :: u61 :: u62 :: u63 :: u64 :: u65 :: u66 :: u67 :: u68 :: u69 :: u70 :: u71 :: u72 :: u73 :: u74 :: u75 :: u76 :: u77 :: u78 :: u79 :: u80 :: u81 :: u82 :: u83 :: u84 :: u85 :: u86 :: u87 :: u88 :: u89 :: u90 :: u91 :: u92 :: u93 :: u94 :: u95 :: u96 :: u97 :: u98 :: u99 :: u100 :: u101 :: u102 :: u103 :: u104 :: u105 :: u106 :: u107 :: u108 :: u109 :: u110 :: u111 :: u112 :: u113 :: u114 :: u115 :: u116 :: u117 :: u118 :: u119 :: u120 :: u121 :: u122 :: u123 :: u124 :: u125 :: u126 :: u127 :: u128 :: u129 :: u130 :: u131 :: u132 :: u133 :: u134 :: u135 :: u136 :: u137 :: u138 :: u139 :: u140 :: u141 :: u142 :: u143 :: u144 :: []).toArray, []⟩ w := by
  have HX := Lib.hid h
  have q1 : (i : Int) < (N : Int) := by omega
  have fx := After.cell cx
  have fy := After.cell cy
  have fz := After.cell cz
  clear h cx cy cz
  conv => arg 2; whnf
  refine wp_region_noPanic ?_
  refine wp_region_held (S := fun W => Below w.heap.size w W) (by kernel_rfl) ?_
  have HS : Below w.heap.size w { w with drawn := w.drawn + 1 } := (Below.refl _ w).drew
  generalize ({ w with drawn := w.drawn + 1 } : World) = w0 at *
  refine takeHd 18 0 (.slice (some ⟨ga, 0, none⟩) N ca) rfl (by kernel_rfl) (by kernel_rfl) (by kernel_rfl) (fun _ _ _ h => h) (Yields.yieldsIf (yields_move rfl rfl rfl)) HS ?_
  simp only [Act.put, List.setIfInBounds_toArray, List.set_cons_zero, List.set_cons_succ]
  refine takeHd 17 1 (.int .i64 (i : Int)) rfl (by kernel_rfl) (by kernel_rfl) (by kernel_rfl) (fun _ _ _ h => h) (Yields.yieldsIf (yields_move rfl rfl rfl)) HS ?_
  simp only [Act.put, List.setIfInBounds_toArray, List.set_cons_zero, List.set_cons_succ]
  refine takeHd 16 2 (.pointer (some ⟨ga, i * 2, none⟩)) rfl (by kernel_rfl) (by kernel_rfl) (by kernel_rfl) (fun _ _ _ h => h) (Yields.yieldsIf (yields_field rfl (fun w => by unfold execOp; go_simp))) HS ?_
  simp only [Act.put, List.setIfInBounds_toArray, List.set_cons_zero, List.set_cons_succ]
  refine takeHd 15 3 (.pointer (some ⟨ga, i * 2, none⟩)) rfl (by kernel_rfl) (by kernel_rfl) (by kernel_rfl) (fun _ _ _ h => h) (Yields.yieldsIf (yields_field rfl (fun w => by unfold execOp; go_simp))) HS ?_
  simp only [Act.put, List.setIfInBounds_toArray, List.set_cons_zero, List.set_cons_succ]
  refine takeHd 14 4 (I x) rfl (by kernel_rfl) (by kernel_rfl) (by kernel_rfl) (fun _ _ _ h => h) (yieldsIf_load rfl 3 (.tmp 95) ⟨ga, i * 2, none⟩ rfl rfl (fun W hW => load_int W ga (i * 2) (I x) (fx ⟨W, hW⟩))) HS ?_
  simp only [Act.put, List.setIfInBounds_toArray, List.set_cons_zero, List.set_cons_succ]
  refine takeHd 13 5 (.slice (some ⟨ga, 0, none⟩) N ca) rfl (by kernel_rfl) (by kernel_rfl) (by kernel_rfl) (fun _ _ _ h => h) (Yields.yieldsIf (yields_move rfl rfl rfl)) HS ?_
  simp only [Act.put, List.setIfInBounds_toArray, List.set_cons_zero, List.set_cons_succ]
  refine takeHd 12 6 (.int .i64 (i : Int)) rfl (by kernel_rfl) (by kernel_rfl) (by kernel_rfl) (fun _ _ _ h => h) (Yields.yieldsIf (yields_move rfl rfl rfl)) HS ?_
  simp only [Act.put, List.setIfInBounds_toArray, List.set_cons_zero, List.set_cons_succ]
  refine takeHd 11 7 (.pointer (some ⟨ga, i * 2, none⟩)) rfl (by kernel_rfl) (by kernel_rfl) (by kernel_rfl) (fun _ _ _ h => h) (Yields.yieldsIf (yields_field rfl (fun w => by unfold execOp; go_simp))) HS ?_
  simp only [Act.put, List.setIfInBounds_toArray, List.set_cons_zero, List.set_cons_succ]
  refine takeHd 10 8 (.pointer (some ⟨ga, i * 2 + 1, none⟩)) rfl (by kernel_rfl) (by kernel_rfl) (by kernel_rfl) (fun _ _ _ h => h) (Yields.yieldsIf (yields_field rfl (fun w => by unfold execOp; go_simp))) HS ?_
  simp only [Act.put, List.setIfInBounds_toArray, List.set_cons_zero, List.set_cons_succ]
  refine takeHd 9 9 (I y) rfl (by kernel_rfl) (by kernel_rfl) (by kernel_rfl) (fun _ _ _ h => h) (yieldsIf_load rfl 3 (.tmp 100) ⟨ga, i * 2 + 1, none⟩ rfl rfl (fun W hW => load_int W ga (i * 2 + 1) (I y) (fy ⟨W, hW⟩))) HS ?_
  simp only [Act.put, List.setIfInBounds_toArray, List.set_cons_zero, List.set_cons_succ]
  refine takeHd 8 10 (.slice (some ⟨gb, 0, none⟩) N cb) rfl (by kernel_rfl) (by kernel_rfl) (by kernel_rfl) (fun _ _ _ h => h) (Yields.yieldsIf (yields_move rfl rfl rfl)) HS ?_
  simp only [Act.put, List.setIfInBounds_toArray, List.set_cons_zero, List.set_cons_succ]
  refine takeHd 7 11 (.int .i64 (i : Int)) rfl (by kernel_rfl) (by kernel_rfl) (by kernel_rfl) (fun _ _ _ h => h) (Yields.yieldsIf (yields_move rfl rfl rfl)) HS ?_
  simp only [Act.put, List.setIfInBounds_toArray, List.set_cons_zero, List.set_cons_succ]
  refine takeHd 6 12 (.pointer (some ⟨gb, i * 2, none⟩)) rfl (by kernel_rfl) (by kernel_rfl) (by kernel_rfl) (fun _ _ _ h => h) (Yields.yieldsIf (yields_field rfl (fun w => by unfold execOp; go_simp))) HS ?_
  simp only [Act.put, List.setIfInBounds_toArray, List.set_cons_zero, List.set_cons_succ]
  refine takeHd 5 13 (.pointer (some ⟨gb, i * 2 + 1, none⟩)) rfl (by kernel_rfl) (by kernel_rfl) (by kernel_rfl) (fun _ _ _ h => h) (Yields.yieldsIf (yields_field rfl (fun w => by unfold execOp; go_simp))) HS ?_
  simp only [Act.put, List.setIfInBounds_toArray, List.set_cons_zero, List.set_cons_succ]
  refine takeHd 4 14 (I y2) rfl (by kernel_rfl) (by kernel_rfl) (by kernel_rfl) (fun _ _ _ h => h) (yieldsIf_load rfl 3 (.tmp 105) ⟨gb, i * 2 + 1, none⟩ rfl rfl (fun W hW => load_int W gb (i * 2 + 1) (I y2) (fz ⟨W, hW⟩))) HS ?_
  simp only [Act.put, List.setIfInBounds_toArray, List.set_cons_zero, List.set_cons_succ]
  refine wpAnyH_all (fuel := 3) (rs := [15, 17]) (by kernel_rfl) (by simp) ?_
  intro i hi
  rcases List.mem_cons.1 hi with rfl | hi
  · clear hi
    refine callL rfl rfl ?_
    go_simp
    refine (C.out w0).mono ?_
    rintro e w2 ⟨rfl, hb⟩
    have HS1 := HS.trans (hb.mono HS.size)
    refine ⟨HS1, ?_⟩
    try simp only [Act.put, List.setIfInBounds_toArray, List.set_cons_zero, List.set_cons_succ]
    refine takeHd 2 16 (.agg #[I x, I z]) rfl (by kernel_rfl) (by kernel_rfl) (by kernel_rfl) (fun _ _ _ h => h) (Yields.yieldsIf (yields_field rfl (fun w => by unfold execOp; go_simp))) HS1 ?_
    simp only [Act.put, List.setIfInBounds_toArray, List.set_cons_zero, List.set_cons_succ]
    refine wpAnyH_all (fuel := 1) (rs := [17]) (by kernel_rfl) (by simp) ?_
    intro i hi
    obtain rfl := List.mem_singleton.1 hi
    refine allocL rfl rfl 33 rfl _ zeroSh ?_
    simp only [Act.put, List.setIfInBounds_toArray, List.set_cons_zero, List.set_cons_succ]
    have HS2 := HS1.alloc HS1.size (.cells #[I 0, I 0] 33)
    refine ⟨HS2, ?_⟩
    refine wpAnyH_all (fuel := 0) (rs := [18]) (by kernel_rfl) (by simp) ?_
    intro i hi
    obtain rfl := List.mem_singleton.1 hi
    have B8 := Blk.new w2 #[I 0, I 0] 33
    refine storeRowL rfl rfl 33 (.tmp 16) (.tmp 108) rfl w2.heap.size #[I x, I z] rfl rfl 33 _ B8 sizeShare rfl (by simp [Value.oneCell']) ?_
    simp only [Act.put]
    have HS3 := Below.setRow HS2 HS1.size #[I x, I z]
    refine ⟨HS3, ?_⟩
    refine wpAnyH_done (by kernel_rfl) ?_ 0
    refine NoPanic.normal ?_
    exact HX.out _ _ _ _ _ _ _ _ _ _ _ _ _ _ _ _ _ w2.heap.size _ (B8.row _) HS3
  · obtain rfl := List.mem_singleton.1 hi
    clear hi
    refine allocL rfl rfl 33 rfl _ zeroSh ?_
    simp only [Act.put, List.setIfInBounds_toArray, List.set_cons_zero, List.set_cons_succ]
    have HS1 := HS.alloc HS.size (.cells #[I 0, I 0] 33)
    have B8 := Blk.new w0 #[I 0, I 0] 33
    have hs0 := HS.size
    refine ⟨HS1, ?_⟩
    refine wpAnyH_all (fuel := 2) (rs := [15]) (by kernel_rfl) (by simp) ?_
    intro i hi
    obtain rfl := List.mem_singleton.1 hi
    refine callL rfl rfl ?_
    go_simp
    refine (C.out _).mono ?_
    rintro e w2 ⟨rfl, hb⟩
    have HS2 := HS1.trans (hb.mono HS1.size)
    have B82 := B8.below hb B8.lt
    refine ⟨HS2, ?_⟩
    try simp only [Act.put, List.setIfInBounds_toArray, List.set_cons_zero, List.set_cons_succ]
    refine takeHd 1 16 (.agg #[I x, I z]) rfl (by kernel_rfl) (by kernel_rfl) (by kernel_rfl) (fun _ _ _ h => h) (Yields.yieldsIf (yields_field rfl (fun w => by unfold execOp; go_simp))) HS2 ?_
    simp only [Act.put, List.setIfInBounds_toArray, List.set_cons_zero, List.set_cons_succ]
    refine wpAnyH_all (fuel := 0) (rs := [18]) (by kernel_rfl) (by simp) ?_
    intro i hi
    obtain rfl := List.mem_singleton.1 hi
    refine storeRowL rfl rfl 33 (.tmp 16) (.tmp 108) rfl w0.heap.size #[I x, I z] rfl rfl 33 _ B82 sizeShare rfl (by simp [Value.oneCell']) ?_
    simp only [Act.put]
    have HS3 := Below.setRow HS2 hs0 #[I x, I z]
    refine ⟨HS3, ?_⟩
    refine wpAnyH_done (by kernel_rfl) ?_ 0
    refine NoPanic.normal ?_
    exact HX.out _ _ _ _ _ _ _ _ _ _ _ _ _ _ _ _ _ w0.heap.size _ (B82.row _) HS3

set_option maxRecDepth 100000 in
set_option maxHeartbeats 2000000 in
theorem tail12 (u0 u1 u2 u3 u4 u12 u13 u14 u15 u16 u17 u18 u19 u20 u21 u22 u23 u24 u25 u26 u27 u28 u29 u30 u31 u32 u33 u34 u35 u36 u37 u38 u39 u40 u41 u42 u43 u44 u45 u46 u47 u48 u49 u50 u51 u52 u53 u54 u55 u56 u57 u58 u59 u60 u61 u62 u63 u64 u65 u66 u67 u68 u69 u70 u71 u72 u73 u74 u75 u76 u77 u78 u79 u80 u81 u82 u83 u84 u85 u86 u87 u88 u89 u90 u91 u92 u93 u94 u95 u96 u97 u98 u99 u100 u101 u102 u103 u104 u105 u106 u107 u108 u109 u110 u111 u112 u113 u114 u115 u116 u117 u118 u119 u120 u121 u122 u123 u124 u125 u126 u127 u128 u129 u130 u131 u132 u133 u134 u135 u136 u137 u138 u139 u140 u141 u142 u143 u144 : Value) (gA cA gB cB ga ca gb cb gc cc gd cd n N : Nat) (A B : List Int) (W0 w : World) (hA : A.all blw = true) (hB : B.all blw = true) (hAn : A.length = n) (hBn : B.length = n) (hn1 : 1 ≤ n) (hn6 : n ≤ 6) (hN : N = n + 2)
    (cA0 : w.cell? ⟨gA, 0, none⟩ = some (I (A.headD 0))) (cB0 : w.cell? ⟨gB, 0, none⟩ = some (I (B.headD 0))) (hs : ShAt w ga 0 (shl A N)) (ht : ShAt w gb 0 (shl B N)) (hc : IAt w gc 0 (coms A)) (hd : IAt w gd 0 (coms B)) (hBW : Below W0.heap.size W0 w)
    (K : Act → World → Prop) (hK : ∀ a w, Code.wp Try.prog (tailIn Try.f4 10) (bodyPost Try.prog Try.f4 (fun e w' => e = .returned (.bool true) ∧ Below W0.heap.size W0 w')) a w → K a w) :
    Code.wp Try.prog (regionIn Try.f4 12) (Exit.then K (bodyPost Try.prog Try.f4 (fun e w' => e = .returned (.bool true) ∧ Below W0.heap.size W0 w'))) ⟨(u0 :: u1 :: u2 :: u3 :: u4 :: (.bool true) :: (.slice (some ⟨gA, 0, none⟩) n cA) :: (.slice (some ⟨gB, 0, none⟩) n cB) :: (.slice (some ⟨ga, 0, none⟩) N ca) :: (.slice (some ⟨gc, 0, none⟩) n cc) :: (.slice (some ⟨gb, 0, none⟩) N cb) :: (.slice (some ⟨gd, 0, none⟩) n cd) :: u12 :: u13 :: u14 :: u15 :: u16 :: u17 :: u18 :: u19 :: u20 :: u21 :: u22 :: u23 :: u24 :: u25 :: u26 :: u27 :: u28 :: u29 :: u30 :: u31 :: u32 :: u33 :: u34 :: u35 :: u36 :: u37 :: u38 :: u39 :: u40 :: u41 :: u42 :: u43 :: u44 :: u45 :: u46 :: u47 :: u48 :: u49 :: u50 :: u51 :: u52 :: u53 :: u54 :: u55 :: u56 :: u57 :: u58 :: u59 :: u60 :: u61 :: u62 :: u63 :: u64 :: u65 :: u66 :: u67 :: u68 :: u69 :: u70 :: u71 :: u72 :: u73 :: u74 :: u75 :: u76 :: u77 :: u78 :: u79 :: u80 :: u81 :: u82 :: u83 :: u84 :: u85 :: u86 :: u87 :: u88 :: u89 :: u90 :: u91 :: u92 :: u93 :: u94 :: u95 :: u96 :: u97 :: u98 :: u99 :: u100 :: u101 :: u102 :: u103 :: u104 :: u105 :: u106 :: u107 :: u108 :: u109 :: u110 :: u111 :: u112 :: u113 :: u114 :: u115 :: u116 :: u117 :: u118 :: u119 :: u120 :: u121 :: u122 :: u123 :: u124 :: u125 :: u126 :: u127 :: u128 :: u129 :: u130 :: u131 :: u132 :: u133 :: u134 :: u135 :: u136 :: u137 :: u138 :: u139 :: u140 :: u141 :: u142 :: u143 :: u144 :: []).toArray, []⟩ w := by
  have HKK := Lib.hid hK
  clear hK
  have hl : A.length = B.length := by rw [hAn, hBn]
  have hS := addl_blw A B
  have hSn : (addl A B).length = n := by rw [addl_len hl, hAn]
  have hSh := addl_head (a := A) (b := B) (by omega) (by omega)
  have hval := fun x => val_add hl x
  have hcom : ∀ k x y, A[k]? = some x → B[k]? = some y → (coms (addl A B))[k]? = some (Fld.mulS (Fld.powS 4 x PZ) (Fld.powS 4 y PZ) PZ) := fun k x y h1 h2 => coms_add hA hB h1 h2
  obtain ⟨S, hSS⟩ : ∃ S, addl A B = S := ⟨_, rfl⟩
  rw [hSS] at hS hSn hSh
  simp only [hSS] at hval hcom
  have HCOM := Lib.hid hcom
  have HVAL := Lib.hid hval
  have hN8 : N ≤ 8 := by omega
  have HSN := Lib.hid hSn
  have HSB := Lib.hid hS
  have HAN := Lib.hid hAn
  have HBN := Lib.hid hBn
  have HHD := Lib.hid hSh
  have HOPS := Lib.hid (opS_all (l := S) (N := N) hS (by omega) (by omega) (by omega) (by omega))
  have HV := Lib.hid (fun (p : Int × Int) (hp : isS S p) => vfy_share' hS (by omega) (by omega) hp)
  have HAT := Lib.hid (And.intro hs (And.intro ht (And.intro hc hd)))
  have HC0 := Lib.hid (And.intro cA0 cB0)
  have h64A := Lib.hid (And.intro hA hB)
  clear hs ht hc hd cA0 cB0 hcom hval hSS hS hSn hAn hBn hSh hl hA hB hN
  conv => arg 2; whnf
  go_wp2_with fail
  refine HKK.out _ _ ?_
  clear HKK
  conv => arg 2; whnf
  go_wp2_with fail
  go_loopw [12, 13] (fun u i wr => ∃ k : Nat, k ≤ n ∧ i = .int .i64 (k : Int) ∧ Hid (OwnI wr w.heap.size u ((coms S).take k)) ∧ Below w.heap.size w wr) (fun _ i _ => n - (intOf i).toNat)
  case atStart => exact ⟨0, by omega, rfl, OwnV.nil _ _ _, Below.refl _ _⟩
  case round =>
    obtain ⟨k, hk, rfl, H1, hb⟩ := hrel
    by_cases hkt : k < n
    · have q1 : (k : Int) < (n : Int) := by omega
      obtain ⟨x, hx⟩ : ∃ x, A[k]? = some x := ⟨A[k]'(by rw [HAN.out]; exact hkt), List.getElem?_eq_getElem _⟩
      obtain ⟨y, hy⟩ : ∃ y, B[k]? = some y := ⟨B[k]'(by rw [HBN.out]; exact hkt), List.getElem?_eq_getElem _⟩
      have hz := HCOM.out k x y hx hy
      have hc0 := HAT.out.2.2.1 k _ (coms_get hx)
      have hd0 := HAT.out.2.2.2 k _ (coms_get hy)
      rw [Nat.zero_add] at hc0 hd0
      have x64 : In64 (Fld.powS 4 x PZ) := powS_in (by decide)
      have y64 : In64 (Fld.powS 4 y PZ) := powS_in (by decide)
      have C1 := Lib.hid (fun w => Mul_any (Fld.powS 4 x PZ) (Fld.powS 4 y PZ) 2305843009213691579 x64 y64 (by decide) w)
      have HZ : Hid ((coms S).take (k + 1) = (coms S).take k ++ [Fld.mulS (Fld.powS 4 x PZ) (Fld.powS 4 y PZ) 2305843009213691579]) := take_next hz
      obtain ⟨px, hpx⟩ : ∃ px, Fld.powS 4 x PZ = px := ⟨_, rfl⟩
      obtain ⟨py, hpy⟩ : ∃ py, Fld.powS 4 y PZ = py := ⟨_, rfl⟩
      rw [hpx, hpy] at C1 HZ
      rw [hpx] at hc0
      rw [hpy] at hd0
      obtain ⟨z, hzz⟩ : ∃ z, Fld.mulS px py 2305843009213691579 = z := ⟨_, rfl⟩
      rw [hzz] at C1 HZ
      have hgc := World.block_lt_of_cell? w _ hc0
      have hgd := World.block_lt_of_cell? w _ hd0
      have c8 := keepCells hb _ _ hc0
      have c9 := keepCells hb _ _ hd0
      have hlen : ((coms S).take k).length ≤ 4398046511100 := Nat.le_trans (List.length_take_le _ _) (by omega)
      clear hzz hpx hpy hx hy hz x64 y64 hc0 hd0
      go_upto_region 16 with (fail)
      refine sums_r16 _ _ _ _ _ _ _ _ _ _ _ _ _ _ _ _ _ _ _ _ _ _ _ _ _ _ _ _ _ _ _ _ _ _ _ _ _ _ _ _ _ _ _ _ _ _ _ _ _ _ _ _ _ _ _ _ _ _ _ _ _ _ _ _ _ _ _ _ _ _ _ _ _ _ _ _ _ _ _ _ _ _ _ _ _ _ _ _ _ _ _ _ _ _ _ _ _ _ _ _ _ _ _ _ _ _ _ _ _ _ _ _ _ _ _ _ _ _ _ _ _ _ _ _ _ _ _ _ _ _ _ _ _ _ _ _ _ _ _ _ _ _ gc cc gd cd n k px py z w.heap.size ((coms S).take k) w wr c8 c9 hkt hgc hgd hlen hb.size H1 hb C1 _ ?_
      intro y74 y75 y76 y77 y78 y79 y80 y81 y82 y83 y84 y85 v' w5 o5 hb5
      rw [← HZ.out] at o5
      have O5 := Lib.hid o5
      clear o5 c8 c9 hb H1
      go_wp2_with fail
      go_roundw
      case rel => exact ⟨k + 1, by omega, by go_num, O5, hb5⟩
      case measure => simp [intOf]; omega
    · have q1 : ¬ ((k : Int) < (n : Int)) := by omega
      obtain rfl : k = n := by omega
      have HE : Hid (IArg wr u12 (coms S)) := by
        have := H1.out.iarg
        rwa [List.take_of_length_le (by rw [coms_len, HSN.out]; exact Nat.le_refl _)] at this
      have hs5 := hb.size
      clear H1 HCOM
      go_wp2_with fail
      generalize wr = w5 at *
      go_loopw [14, 15] (fun u i wr => ∃ j : Nat, j ≤ N ∧ i = .int .i64 (j : Int) ∧ Hid (OwnSh wr w5.heap.size u ((shl S N).take j)) ∧ Below w5.heap.size w5 wr) (fun _ i _ => N - (intOf i).toNat)
      case atStart => exact ⟨0, by omega, rfl, OwnV.nil _ _ _, Below.refl _ _⟩
      case round =>
        obtain ⟨j, hj, rfl, H1, h5⟩ := hrel
        have hbr := hb.trans (h5.mono hs5)
        by_cases hjt : j < N
        · have q2 : (j : Int) < (N : Int) := by omega
          obtain ⟨c0, c1⟩ := (HAT.out.1.below hbr).cells (shl_get A N j hjt)
          obtain ⟨_, c3⟩ := (HAT.out.2.1.below hbr).cells (shl_get B N j hjt)
          rw [Nat.zero_add] at c0 c1 c3
          have hxS := shl_get S N j hjt
          have hiS := shl_isS S N (by omega) _ (List.mem_of_getElem? hxS)
          have h64S := shl_all64 S N (by omega) _ (List.mem_of_getElem? hxS)
          have h64a := shl_all64 A N (by omega) _ (List.mem_of_getElem? (shl_get A N j hjt))
          have h64b := shl_all64 B N (by omega) _ (List.mem_of_getElem? (shl_get B N j hjt))
          have hzv := HVAL.out ((j : Int) + 1)
          have a64 : In64 (val A ((j : Int) + 1)) := h64a.2
          have b64 : In64 (val B ((j : Int) + 1)) := h64b.2
          have x64 : In64 ((j : Int) + 1) := h64S.1
          have z64 : In64 (val S ((j : Int) + 1)) := h64S.2
          have C1 := Lib.hid (hzv ▸ fun w => Add_any (val A ((j : Int) + 1)) (val B ((j : Int) + 1)) 1152921504606845789 a64 b64 (by decide) w)
          have HT := Lib.hid (take_next hxS)
          have V1 := Lib.hid (fun w' (hb : Below w5.heap.size w5 w') => HV.out _ hiS ▸ Verify_any (coms S) ((j : Int) + 1) (val S ((j : Int) + 1)) u12 w' (coms_all64 S) x64 z64 (by rw [coms_len, HSN.out]; omega) (HE.out.below hb))
          obtain ⟨x, hx⟩ : ∃ x, (j : Int) + 1 = x := ⟨_, rfl⟩
          obtain ⟨y, hy⟩ : ∃ y, val A ((j : Int) + 1) = y := ⟨_, rfl⟩
          obtain ⟨y2, hy2⟩ : ∃ y2, val B ((j : Int) + 1) = y2 := ⟨_, rfl⟩
          obtain ⟨z, hz⟩ : ∃ z, val S ((j : Int) + 1) = z := ⟨_, rfl⟩
          rw [hy] at C1 c1
          rw [hy2] at C1 c3
          rw [hz] at C1 HT V1
          rw [hx] at HT V1 c0
          have hlen : ((shl S N).take j).length ≤ 4398046511100 := Nat.le_trans (List.length_take_le _ _) (by omega)
          clear hx hy hy2 hz hzv hxS hiS h64S h64a h64b a64 b64 x64 z64
          go_upto_region 21 with (fail)
          refine sums_r21 _ _ _ _ _ _ _ _ _ _ _ _ _ _ _ _ _ _ _ _ _ _ _ _ _ _ _ _ _ _ _ _ _ _ _ _ _ _ _ _ _ _ _ _ _ _ _ _ _ _ _ _ _ _ _ _ _ _ _ _ _ _ _ _ _ _ _ _ _ _ _ _ _ _ _ _ _ _ _ _ _ _ _ _ _ _ _ _ _ _ _ _ _ _ _ _ _ _ _ _ _ _ _ _ _ _ _ _ _ _ _ _ _ _ _ _ _ _ _ _ _ _ _ _ _ _ _ _ _ _ _ _ _ _ _ _ _ _ _ _ _ _ ga ca gb cb N j x y y2 z wr c0 c1 c3 hjt C1 _ ?_
          intro y92 y93 y94 y95 y96 y97 y98 y99 y100 y101 y102 y103 y104 y105 y106 y107 y108 b16 w6 N16 hb6
          have h6 := h5.trans (hb6.mono h5.size)
          have O6 := Lib.hid (H1.out.below hb6)
          have d0 := N16.cell 0 _ rfl
          have d1 := N16.cell 1 _ rfl
          have V6 := Lib.hid (V1.out w6 h6)
          clear c0 c1 c3 C1 V1 H1 hb6 h5 hbr
          go_wp2_with fail
          refine V6.out.mono ?_; rintro e w7 ⟨rfl, hb7⟩
          have h7 := h6.trans (hb7.mono h6.size)
          have O7 := Lib.hid (O6.out.below hb7)
          have N17 := N16.below hb7 N16.lt
          clear d0 d1 N16 O6 V6 hb7 h6
          have d0 := N17.cell 0 _ rfl
          have d1 := N17.cell 1 _ rfl
          obtain ⟨v', w8, r1, r2, r3, r4⟩ := run_append_share w7 w5.heap.size u14 _ O7.out h7.size x z hlen
          have HB1 := Lib.hid (one_share w7 x z)
          have HAPP := Lib.hid r1
          have P1 : Hid (OwnSh w8 w5.heap.size v' ((shl S N).take (j + 1))) := by
            show OwnSh w8 w5.heap.size v' _
            rw [HT.out]; exact r2
          have h8 := below_of_grown h7 r3 h7.size (fun g hg => O7.out.blk g hg)
          clear r1 r2 r3 r4 O7 h7 N17
          go_wp2_with (first
            | (refine wpList_build_run rfl 25 1 #[(0, .tmp 114)] rfl #[(0, .agg #[I x, I z])] rfl _ _ HB1.out ?_)
            | (at_builtin; refine Lib.wpList_append_run _ rfl (.tmp 113) (.tmp 115) 25 25 rfl _ _ rfl rfl _ _ HAPP.out ?_))
          go_roundw
          case rel => exact ⟨j + 1, by omega, by go_num, P1, h8⟩
          case measure => simp [intOf]; omega
        · have q2 : ¬ ((j : Int) < (N : Int)) := by omega
          obtain rfl : j = N := by omega
          have hbW := hBW.trans (hbr.mono hBW.size)
          have hu : ShArg wr u14 (shl S j) := by
            have := OwnV.sharg H1.out
            rwa [List.take_of_length_le (by rw [shl_length]; exact Nat.le_refl _)] at this
          have O1 := Lib.hid (Open_any (coms S) (shl S j) u12 u14 wr (coms_all64 S) (by rw [coms_len, HSN.out]; omega) (HE.out.below h5) (shl_all64 S j (by omega)) (by rw [shl_length]; omega) hu)
          have k0 := keepCells hbr _ _ HC0.out.1
          have k1 := keepCells hbr _ _ HC0.out.2
          have HA0 := all_get h64A.out.1 0
          have HB0 := all_get h64A.out.2 0
          have ea : A.getD 0 0 = A.headD 0 := by cases A <;> rfl
          have eb : B.getD 0 0 = B.headD 0 := by cases B <;> rfl
          rw [ea] at HA0
          rw [eb] at HB0
          have hq : QZ = 1152921504606845789 := rfl
          have D1 := Lib.hid (fun w => Add_any (A.headD 0) (B.headD 0) 1152921504606845789 ⟨by omega, by omega⟩ ⟨by omega, by omega⟩ (by decide) w)
          have HHD' : Hid (S.headD 0 = Fld.addS (A.headD 0) (B.headD 0) 1152921504606845789) := HHD.out
          obtain ⟨a0, ha0⟩ : ∃ a0, A.headD 0 = a0 := ⟨_, rfl⟩
          obtain ⟨b0, hb0⟩ : ∃ b0, B.headD 0 = b0 := ⟨_, rfl⟩
          rw [ha0] at D1 HHD' k0
          rw [hb0] at D1 HHD' k1
          have HK0 := Lib.hid (And.intro k0 k1)
          clear hu H1 ea eb HA0 HB0 hq ha0 hb0 k0 k1 hbr h5 hb
          go_wp2_with fail
          refine O1.out.mono ?_; rintro e w6 ⟨u, rfl, ou, hb6⟩
          rw [HOPS.out, HHD'.out] at ou ⊢
          obtain ⟨s0, hs0⟩ : ∃ s0, Fld.addS a0 b0 1152921504606845789 = s0 := ⟨_, rfl⟩
          rw [hs0] at D1 ⊢
          obtain ⟨au, cu, rfl, _⟩ := ou.form
          have f0 := After.cell (keepCells hb6 _ _ HK0.out.1)
          have f1 := After.cell (keepCells hb6 _ _ HK0.out.2)
          have hbW := hbW.trans (hb6.mono hbW.size)
          have hse : (s0 == s0) = true := beq_self_eq_true s0
          have hn0 : (0 : Int) < (k : Int) := by omega
          clear ou hs0 O1 hb6 HK0
          go_upto_region 26 with (fail)
          refine wp_region_after (by kernel_rfl) (by kernel_rfl) ?_
          repeat (go_big_quiet_step (first | (with_reducible exact After.call (D1.out _))))
          refine wpQuiet_nil ?_
          rintro w7 ⟨x7, rfl⟩
          have hbW := hbW.trans (x7.hb.mono hbW.size)
          generalize x7.W = w7 at *
          clear f0 f1 x7 D1
          go_wp2_with fail
          go_ret
          exact ⟨rfl, hbW⟩

set_option maxRecDepth 100000 in
set_option maxHeartbeats 2000000 in
theorem walk (w : World) (v u : Value) (l m : List Int) (hl : All64 l) (hl9 : l.length ≤ 9223372036854775807) (hA : IArg w v l) (hm : All64 m) (hm9 : m.length ≤ 9223372036854775807) (hM : IArg w u m) :
    Calls Try.prog 4 #[v, u] w fun e w' => e = .returned (.bool true) ∧ Below w.heap.size w w' := by
  have C1 := Lib.hid (fun (w' : World) (hb : Below w.heap.size w w') => Coefs_any l v w' hl hl9 (hA.below hb))
  have C2 := Lib.hid (fun (w' : World) (hb : Below w.heap.size w w') => Coefs_any m u w' hm hm9 (hM.below hb))
  obtain ⟨ac, acap, rfl, hac, _⟩ := hA
  obtain ⟨am, amc, rfl, ham, _⟩ := hM
  have ha := cofs_blw l
  obtain ⟨hna1, hna2⟩ := cofs_len l
  have hb := cofs_blw m
  obtain ⟨hnb1, hnb2⟩ := cofs_len m
  generalize cofs l = a at *
  generalize cofs m = b at *
  obtain ⟨na, hna⟩ : ∃ na, a.length = na := ⟨_, rfl⟩
  obtain ⟨nb, hnb⟩ : ∃ nb, b.length = nb := ⟨_, rfl⟩
  have HNA := Lib.hid hna
  have HNB := Lib.hid hnb
  rw [hna] at hna1 hna2
  rw [hnb] at hnb1 hnb2
  obtain ⟨n, h1n, h2n, h3n, hn6⟩ : ∃ n, na ≤ n ∧ nb ≤ n ∧ (n = na ∨ n = nb) ∧ n ≤ 6 := ⟨max na nb, by omega, by omega, by omega, by omega⟩
  have HAB := Lib.hid (And.intro ha hb)
  have hB := Below.refl w.heap.size w
  clear hna hnb hl hm ha hb
  go_enter Try.func4, Try.ntmps4
  go_wp2_with fail
  refine (Calls.chain hB (sanity_any _)).mono ?_; clear hB; rintro e w2 ⟨rfl, hB⟩
  go_wp2_with fail
  refine (C1.out _ hB).mono ?_; rintro e w3 ⟨va, rfl, oa, hb3⟩
  have hB3 := hB.trans (hb3.mono hB.size)
  have HW2 := Lib.hid hB
  clear C1 hB
  go_wp2_with fail
  refine (C2.out _ hB3).mono ?_; rintro e w4 ⟨vb, rfl, ob, hb4⟩
  have HAP : Hid (Apart va vb) := by
    show Apart va vb
    intro g hg e
    have h1 := ob.blk g e
    have h2 := oa.blk_lt g hg
    omega
  have OA := Lib.hid (oa.below hb4)
  have OB := Lib.hid (ob.mono hb3.size)
  have h24 := hb3.trans (hb4.mono hb3.size)
  clear C2 hb4 hb3 oa ob hB3
  go_wp2_with fail
  generalize w4 = wx at *
  obtain ⟨a7, c7, hvb, hc7⟩ := OB.out.form
  rw [HNB.out] at hvb hc7
  subst hvb
  go_loopw [6] (fun x wr => ∃ k j : Nat, Hid (k = na + j) ∧ k ≤ n ∧ na ≤ k ∧ Hid (OwnI wr w2.heap.size x (pad a j)) ∧ Hid (OwnI wr w2.heap.size (.slice a7 nb c7) b) ∧ Hid (Apart x (.slice a7 nb c7)) ∧ Below w2.heap.size w2 wr) (fun x _ => n - lenOf x)
  case atStart => exact ⟨na, 0, rfl, by omega, by omega, by rw [show pad a 0 = a by unfold pad; simp]; exact OA.out, OB.out, HAP.out, h24⟩
  case round =>
    clear OA OB HAP h24
    obtain ⟨k, j, HKJ, hkn, hnak, OA, OB, HAP, h24⟩ := hrel
    have hpl : (pad a j).length = k := by rw [pad_len, HNA.out, HKJ.out]
    obtain ⟨a6, c6, hu6, hc6⟩ := OA.out.form
    rw [hpl] at hu6 hc6
    subst hu6
    have HPL := Lib.hid hpl
    clear hpl
    by_cases hkb : k < nb
    · have q1 : (k : Int) < (nb : Int) := by omega
      have q2 : decide (k < nb) = true := decide_eq_true hkb
      obtain ⟨v', w8, r1, r2, r3, r4⟩ := run_append_int wr w2.heap.size _ (pad a j) OA.out h24.size 0 (by rw [HPL.out]; omega)
      have HB1 := Lib.hid (one_int wr 0)
      have HAPP := Lib.hid r1
      have P1 : Hid (OwnI w8 w2.heap.size v' (pad a (j + 1))) := by
        show OwnI w8 w2.heap.size v' _
        rw [pad_succ]; exact r2
      have P2 := Lib.hid (OB.out.grown r3 (fun g hg e => HAP.out g e hg))
      have P3 := Lib.hid (HAP.out.left OB.out r4)
      have h8 := below_of_grown h24 r3 h24.size (fun g hg => OA.out.blk g hg)
      have P4 : Hid (lenOf v' = k + 1) := by
        obtain ⟨a9, c9, e9, _⟩ := r2.form
        show lenOf v' = k + 1
        rw [e9, List.length_append, HPL.out]; rfl
      clear r1 r2 r3 r4 OA OB HAP h24
      go_wp2_with (first
        | (refine wpList_build_run rfl 22 1 #[(0, .const (.int .i64 0))] rfl #[(0, I 0)] rfl _ _ HB1.out ?_)
        | (at_builtin; refine Lib.wpList_append_run _ rfl (.tmp 30) (.tmp 31) 22 22 rfl _ _ rfl rfl _ _ HAPP.out ?_))
      go_roundw
      case rel => exact ⟨k + 1, j + 1, by have := HKJ.out; show k + 1 = na + (j + 1); omega, by omega, by omega, P1, P2, P3, h8⟩
      case measure => rw [P4.out]; show n - (k + 1) < n - k; omega
    · have q1 : ¬ (k : Int) < (nb : Int) := by omega
      have q2 : decide (k < nb) = false := decide_eq_false hkb
      obtain rfl : k = n := by omega
      have hA1 := pad_blw HAB.out.1 j
      have hA2 := pad_head (l := a) (by rw [HNA.out]; exact hna1) j
      obtain ⟨A, hAA⟩ : ∃ A, pad a j = A := ⟨_, rfl⟩
      rw [hAA] at OA HPL hA1 hA2
      have HA := Lib.hid (And.intro hA1 hA2)
      clear hAA hA1 hA2 HKJ hnak
      go_wp2_with fail
      generalize wr = wy at *
      go_loopw [7] (fun x wr => ∃ k2 j : Nat, Hid (k2 = nb + j) ∧ k2 ≤ k ∧ nb ≤ k2 ∧ Hid (OwnI wr w2.heap.size (.slice a6 k c6) A) ∧ Hid (OwnI wr w2.heap.size x (pad b j)) ∧ Hid (Apart (.slice a6 k c6) x) ∧ Below w2.heap.size w2 wr) (fun x _ => k - lenOf x)
      case atStart => exact ⟨nb, 0, rfl, by omega, by omega, OA.out, by rw [show pad b 0 = b by unfold pad; simp]; exact OB.out, HAP.out, h24⟩
      case round =>
        clear OA OB HAP h24
        obtain ⟨k2, j2, HKJ, hkn2, hnbk, OA, OB, HAP, h24⟩ := hrel
        have hpl : (pad b j2).length = k2 := by rw [pad_len, HNB.out, HKJ.out]
        obtain ⟨a9, c9, hu9, hc9⟩ := OB.out.form
        rw [hpl] at hu9 hc9
        subst hu9
        have HPL2 := Lib.hid hpl
        clear hpl
        by_cases hkb2 : k2 < k
        · have q3 : (k2 : Int) < (k : Int) := by omega
          have q4 : decide (k2 < k) = true := decide_eq_true hkb2
          obtain ⟨v', w8, r1, r2, r3, r4⟩ := run_append_int wr w2.heap.size _ (pad b j2) OB.out h24.size 0 (by rw [HPL2.out]; omega)
          have HB1 := Lib.hid (one_int wr 0)
          have HAPP := Lib.hid r1
          have P1 : Hid (OwnI w8 w2.heap.size v' (pad b (j2 + 1))) := by
            show OwnI w8 w2.heap.size v' _
            rw [pad_succ]; exact r2
          have P2 := Lib.hid (OA.out.grown r3 (fun g hg e => HAP.out g hg e))
          have P3 := Lib.hid (HAP.out.symm.left OA.out r4).symm
          have h8 := below_of_grown h24 r3 h24.size (fun g hg => OB.out.blk g hg)
          have P4 : Hid (lenOf v' = k2 + 1) := by
            obtain ⟨a9, c9, e9, _⟩ := r2.form
            show lenOf v' = k2 + 1
            rw [e9, List.length_append, HPL2.out]; rfl
          clear r1 r2 r3 r4 OA OB HAP h24
          go_wp2_with (first
            | (refine wpList_build_run rfl 22 1 #[(0, .const (.int .i64 0))] rfl #[(0, I 0)] rfl _ _ HB1.out ?_)
            | (at_builtin; refine Lib.wpList_append_run _ rfl (.tmp 38) (.tmp 39) 22 22 rfl _ _ rfl rfl _ _ HAPP.out ?_))
          go_roundw
          case rel => exact ⟨k2 + 1, j2 + 1, by have := HKJ.out; show k2 + 1 = nb + (j2 + 1); omega, by omega, by omega, P2, P1, P3, h8⟩
          case measure => rw [P4.out]; show k - (k2 + 1) < k - k2; omega
        · have q3 : ¬ (k2 : Int) < (k : Int) := by omega
          have q4 : decide (k2 < k) = false := decide_eq_false hkb2
          obtain rfl : k2 = k := by omega
          have hB1 := pad_blw HAB.out.2 j2
          have hB2 := pad_head (l := b) (by rw [HNB.out]; exact hnb1) j2
          obtain ⟨B, hBB⟩ : ∃ B, pad b j2 = B := ⟨_, rfl⟩
          rw [hBB] at OB HPL2 hB1 hB2
          have HBf := Lib.hid hB1
          have MA := Lib.hid (made_good A 2 (by decide) _ wr HA.out.1 (by rw [HPL.out]; omega) (by rw [HPL.out]; omega) OA.out.iarg)
          have MB := Lib.hid (fun w' (hb : Below wr.heap.size wr w') => made_good B 2 (by decide) _ w' HBf.out (by rw [HPL2.out]; omega) (by rw [HPL2.out]; omega) (OB.out.iarg.below hb))
          have hbW := HW2.out.trans (h24.mono HW2.out.size)
          have ia := OA.out.iarg
          have ib := OB.out.iarg
          have cell0 : ∀ (L : List Int) (aX : Option Addr) (cX : Nat), L.length = k2 → IArg wr (.slice aX k2 cX) L → ∃ g o, aX = some ⟨g, o, none⟩ ∧ wr.cell? ⟨g, o, none⟩ = some (I (L.headD 0)) := fun L aX cX hL hI => by
            obtain ⟨a, c, e, _, h⟩ := hI
            cases e
            obtain ⟨g, o, h1, h2⟩ := h (fun hL0 => by
              have : L.length = 0 := by rw [hL0]; rfl
              omega)
            exact ⟨g, o, h1, by have := h2 0 _ (headD_get (by omega)); rwa [Nat.add_zero] at this⟩
          obtain ⟨gA', cA', eA, hcA, VA⟩ := OwnV.row OA.out (by rw [HPL.out]; omega)
          obtain ⟨gB', cB', eB, hcB, VB⟩ := OwnV.row OB.out (by rw [HPL2.out]; omega)
          rw [HPL.out] at eA
          rw [HPL2.out] at eB
          cases eA
          cases eB
          obtain ⟨_, _, eA, cA0⟩ := cell0 A _ _ HPL.out ia
          cases eA
          obtain ⟨_, _, eB, cB0⟩ := cell0 B _ _ HPL2.out ib
          cases eB
          have HC0 := Lib.hid (And.intro cA0 cB0)
          clear cell0 ia ib hBB hB1 hB2 HKJ hnbk OA OB HAP h24 VA VB cA0 cB0
          go_wp2_with fail
          refine MA.out.mono ?_; rintro e w8 ⟨v8, v9, rfl, o8, o9, hb8, _⟩
          have hbW := hbW.trans (hb8.mono hbW.size)
          have MB8 := Lib.hid (MB.out w8 hb8)
          rw [HPL.out] at o8
          simp only [Nat.reduceMod] at o8
          obtain ⟨N, hN⟩ : ∃ N, k2 + 2 = N := ⟨_, rfl⟩
          rw [hN] at o8
          have HO8 := Lib.hid (And.intro o8 o9)
          obtain ⟨ga, ca, rfl, hca, V8⟩ := OwnV.row o8 (by rw [shl_length]; omega)
          obtain ⟨gc, cc, rfl, hcc, V9⟩ := OwnV.row o9 (by rw [coms_len, HPL.out]; omega)
          rw [shl_length] at hca HO8
          rw [coms_len, HPL.out] at hcc HO8
          rw [shl_length, coms_len, HPL.out]
          have hV8 := Lib.hid (And.intro (OwnV.shat (cap := ca) V8) (fun (i : Nat) (x : Int) (hx : (coms A)[i]? = some x) => V9.cells i (I x) (by rw [List.getElem?_map, hx]; rfl)))
          clear MA MB o8 o9 V8 V9
          go_wp2_with fail
          refine MB8.out.mono ?_; rintro e w9 ⟨v10, v11, rfl, o10, o11, hb9, _⟩
          have hbW := hbW.trans (hb9.mono hbW.size)
          rw [HPL2.out] at o10
          simp only [Nat.reduceMod] at o10
          rw [hN] at o10
          obtain ⟨gb, cb, rfl, hcb, V10⟩ := OwnV.row o10 (by rw [shl_length]; omega)
          obtain ⟨gd, cd, rfl, hcd, V11⟩ := OwnV.row o11 (by rw [coms_len, HPL2.out]; omega)
          rw [shl_length] at hcb
          rw [coms_len, HPL2.out] at hcd
          rw [shl_length, coms_len, HPL2.out]
          have hV10 := Lib.hid (And.intro (OwnV.shat (cap := cb) V10) (fun (i : Nat) (x : Int) (hx : (coms B)[i]? = some x) => V11.cells i (I x) (by rw [List.getElem?_map, hx]; rfl)))
          have HB9 := Lib.hid (And.intro hb8 hb9)
          have t0 : ((N : Int) != (N : Int)) = false := by simp
          have t1 : ((k2 : Int) != (k2 : Int)) = false := by simp
          have t2 : ((k2 : Int) == 0) = false := by rw [beq_eq_false_iff_ne]; omega
          have HNN := Lib.hid hN
          clear MB8 o10 o11 V10 V11 hb8 hb9 hN HO8
          go_upto_region 12 with (fail)
          have hK := ‹∀ (a : Act) (w : World), Code.wp Try.prog _ _ a w → _›
          exact tail12 _ _ _ _ _ _ _ _ _ _ _ _ _ _ _ _ _ _ _ _ _ _ _ _ _ _ _ _ _ _ _ _ _ _ _ _ _ _ _ _ _ _ _ _ _ _ _ _ _ _ _ _ _ _ _ _ _ _ _ _ _ _ _ _ _ _ _ _ _ _ _ _ _ _ _ _ _ _ _ _ _ _ _ _ _ _ _ _ _ _ _ _ _ _ _ _ _ _ _ _ _ _ _ _ _ _ _ _ _ _ _ _ _ _ _ _ _ _ _ _ _ _ _ _ _ _ _ _ _ _ _ _ _ _ _ _ _ _ _ _ _ _ ga ca gb cb gc cc gd cd k2 N A B w w9 HA.out.1 HBf.out HPL.out HPL2.out (by omega) (by omega) HNN.out.symm
            (keepCells HB9.out.2 _ _ (keepCells HB9.out.1 _ _ HC0.out.1)) (keepCells HB9.out.2 _ _ (keepCells HB9.out.1 _ _ HC0.out.2))
            (hV8.out.1.below HB9.out.2) hV10.out.1 (IAt.below (g := gc) (o := 0) (fun i x hx => hV8.out.2 i x hx) HB9.out.2) (fun i x hx => hV10.out.2 i x hx) hbW _ hK

set_option maxRecDepth 100000 in
theorem lifted (os : Os) (started : os.Started) (H : Type) (enc : TypeId × Value → H) :
    ReturnsInHanded {} Try.checked os 4 .any (Rows.shareSumsSpec.pre6 enc Try.prog Try.f4 Rows.shareSumsRow.domain false) (Rows.shareSumsSpec.post enc Try.prog Try.f4 false true false false) := by
  refine returnsInHanded_of_change (C := Try.checked) law_own started (by kernel_rfl) Try.func4
    (ChangeSpec.witness6 (enc := enc) (C := Try.checked) false ⟨#[], #[.slice none 0 0, .slice none 0 0], []⟩ 8 (by kernel_rfl) (by kernel_rfl) (by kernel_rfl) (by kernel_rfl)) ?_
  intro W base args ds gs before hval0 hW _ _
  have hval : ∀ (j : Nat) t v, Try.f4.params[j]? = some t → args[j]? = some v → Value.okWide Try.prog W .any base t v := hval0
  have hWk : DataW.Whole enc Try.prog Try.f4.params.toList Rows.shareSumsSpec.vars false W args.toList ds gs before := hW
  obtain ⟨p, q, hA0, hV, rfl, _, _⟩ := hW
  have hA : DataW.TrodAll enc Try.prog W 0 (fun _ => true) true Try.f4.params.toList args.toList ds p := hA0
  rw [Try.params4] at hA hval
  obtain ⟨v0, vs0, d0, ds0, p0, q0, hargs, rfl, rfl, h0, r0⟩ := trodAll_cons hA
  obtain ⟨v1, vs1, d1, ds1, p1, q1, rfl, rfl, rfl, h1, r1⟩ := trodAll_cons r0
  obtain ⟨rfl, rfl, rfl⟩ := trodAll_nil r1
  obtain rfl : args = #[v0, v1] := by cases args; simp_all
  obtain ⟨rfl, rfl⟩ := trodVars_none hV
  obtain ⟨l0, hA0_, hl0, hn0⟩ := open_intsA (hval 0 22 v0 rfl rfl) h0
  obtain ⟨l1, hA1_, hl1, hn1⟩ := open_intsA (hval 1 22 v1 rfl rfl) h1
  clear hA0 hval0
  refine (walk W v0 v1 l0 l1 hl0 hn0 hA0_ hl1 hn1 hA1_).mono fun e W' ⟨he, hb⟩ => ?_
  exact ⟨_, he, law_post law_laid rfl (by rw [Try.params4]; decide +kernel) (by kernel_rfl) Try.underlying4 rfl hWk hb⟩

theorem holds : Rows.ShareSumsSaid :=
  OpenClaim.holds_of_wide 4 Try.f4 rfl rfl rfl rfl rfl rfl rfl ⟨rfl, rfl, rfl, rfl, rfl⟩ rfl rfl rfl rfl rfl (by kernel_rfl) Try.func4 (by kernel_rfl)
    (of_decide_eq_true (by kernel_rfl)) (by unfold Func.isWrapper; first | (rw [if_pos (by decide +kernel)]; kernel_rfl) | (rw [if_neg (by decide +kernel)]; exact ⟨rfl, rfl⟩))
    (fun os started H enc _ => lifted os started H enc)

end Go.Proofs.Ytdnabeldaighgaa.LSums

namespace Go.Proofs.Ytdnabeldaighgaa
/-- The statement. -/
theorem shareSums_holds : Rows.ShareSumsSaid := LSums.holds
end Go.Proofs.Ytdnabeldaighgaa
