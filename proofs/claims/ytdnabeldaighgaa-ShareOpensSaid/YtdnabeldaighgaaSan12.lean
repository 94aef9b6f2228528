/- The chapter's examples. Conditions: none. -/
import Derived.Test.YtdnabeldaighgaaHd
namespace Go.Proofs.Ytdnabeldaighgaa
open Go.RowKit Go.Shelf Shr

def SanL : List (Int × Int) := [(1, 8), (2, 11), (3, 14)]
set_option maxRecDepth 100000 in
set_option maxHeartbeats 2000000 in
theorem san_r4 (u0 u3 u4 u5 u6 u7 u8 u9 u10 u11 u12 u13 u14 u15 u16 u17 u18 u19 u20 u21 u22 u23 u24 u25 u26 u27 u28 u29 u30 u31 u32 u33 u34 u35 u36 u37 u38 u39 u40 u41 u42 u43 u44 u45 u46 u47 u48 u49 u50 u51 u52 u53 u54 u55 u56 u57 u58 u59 u60 u61 u62 u63 u64 u65 u66 u67 u68 u69 u70 u71 u72 u73 u74 u75 u76 u77 u78 u79 u80 u81 u82 u83 u84 u85 u86 u87 u88 u89 u90 u91 u92 u93 u94 u95 u96 u97 u98 u99 u100 u101 u102 u103 u104 u105 u106 u107 u108 u109 u110 u111 u112 u113 u114 u115 u116 u117 u118 u119 u120 u121 u122 u123 u124 u125 u126 u127 u128 u129 u130 u131 u132 u133 v2 : Value) (g c1 : Nat) (w : World) (hAt : ShAt w g 0 [(1, 8), (2, 11), (3, 14)]) (C : Hid (∀ v w, ShArg w v [(3, 14), (1, 8)] → Calls Try.prog 16 #[I 2, v] w fun e w' => e = .returned (.tuple #[I 5, .bool true]) ∧ Below w.heap.size w w')) (Q : Exit → Act → World → Prop)
    (h : ∀ (y52 y53 y54 y55 y56 y57 y58 y59 y60 y61 y62 : Value) (w' : World), Below w.heap.size w w' → Q .normal ⟨(u0 :: (.slice (some ⟨g, 0, none⟩) 3 c1) :: v2 :: u3 :: (I 5) :: (.bool true) :: u6 :: u7 :: u8 :: u9 :: u10 :: u11 :: u12 :: u13 :: u14 :: u15 :: u16 :: u17 :: u18 :: u19 :: u20 :: u21 :: u22 :: u23 :: u24 :: u25 :: u26 :: u27 :: u28 :: u29 :: u30 :: u31 :: u32 :: u33 :: u34 :: u35 :: u36 :: u37 :: u38 :: u39 :: u40 :: u41 :: u42 :: u43 :: u44 :: u45 :: u46 :: u47 :: u48 :: u49 :: u50 :: u51 :: y52 :: y53 :: y54 :: y55 :: y56 :: y57 :: y58 :: y59 :: y60 :: y61 :: y62 :: u63 :: u64 :: u65 :: u66 :: u67 :: u68 :: u69 :: u70 :: u71 :: u72 :: u73 :: u74 :: u75 :: u76 :: u77 :: u78 :: u79 :: u80 :: u81 :: u82 :: u83 :: u84 :: u85 :: u86 :: u87 :: u88 :: u89 :: u90 :: u91 :: u92 :: u93 :: u94 :: u95 :: u96 :: u97 :: u98 :: u99 :: u100 :: u101 :: u102 :: u103 :: u104 :: u105 :: u106 :: u107 :: u108 :: u109 :: u110 :: u111 :: u112 :: u113 :: u114 :: u115 :: u116 :: u117 :: u118 :: u119 :: u120 :: u121 :: u122 :: u123 :: u124 :: u125 :: u126 :: u127 :: u128 :: u129 :: u130 :: u131 :: u132 :: u133 :: []).toArray, []⟩ w') : Code.wp Try.prog (regionIn Try.f11 4) Q ⟨(u0 :: (.slice (some ⟨g, 0, none⟩) 3 c1) :: v2 :: u3 :: u4 :: u5 :: u6 :: u7 :: u8 :: u9 :: u10 :: u11 :: u12 :: u13 :: u14 :: u15 :: u16 :: u17 :: u18 :: u19 :: u20 :: u21 :: u22 :: u23 :: u24 :: u25 :: u26 :: u27 :: u28 :: u29 :: u30 :: u31 :: u32 :: u33 :: u34 :: u35 :: u36 :: u37 :: u38 :: u39 :: u40 :: u41 :: u42 :: u43 :: u44 :: u45 :: u46 :: u47 :: u48 :: u49 :: u50 :: u51 :: u52 :: u53 :: u54 :: u55 :: u56 :: u57 :: u58 :: u59 :: u60 :: u61 :: u62 :: u63 :: u64 :: u65 :: u66 :: u67 :: u68 :: u69 :: u70 :: u71 :: u72 :: u73 :: u74 :: u75 :: u76 :: u77 :: u78 :: u79 :: u80 :: u81 :: u82 :: u83 :: u84 :: u85 :: u86 :: u87 :: u88 :: u89 :: u90 :: u91 :: u92 :: u93 :: u94 :: u95 :: u96 :: u97 :: u98 :: u99 :: u100 :: u101 :: u102 :: u103 :: u104 :: u105 :: u106 :: u107 :: u108 :: u109 :: u110 :: u111 :: u112 :: u113 :: u114 :: u115 :: u116 :: u117 :: u118 :: u119 :: u120 :: u121 :: u122 :: u123 :: u124 :: u125 :: u126 :: u127 :: u128 :: u129 :: u130 :: u131 :: u132 :: u133 :: []).toArray, []⟩ w := by
  have HX := Lib.hid h
  have f0 := After.share (hAt.cells (k := 0) rfl).1 (hAt.cells (k := 0) rfl).2
  have f2 := After.share (hAt.cells (k := 2) rfl).1 (hAt.cells (k := 2) rfl).2
  simp only [Nat.zero_mul, Nat.add_zero, Nat.zero_add, Nat.reduceMul] at f0 f2
  clear h hAt
  conv => arg 2; whnf
  refine wp_region_noPanic ?_
  refine wp_region_held (S := fun W => Below w.heap.size w W) (by kernel_rfl) ?_
  have HS : Below w.heap.size w { w with drawn := w.drawn + 1 } := (Below.refl _ w).drew
  generalize ({ w with drawn := w.drawn + 1 } : World) = w0 at *
  refine takeHd 12 0 (.slice (some ⟨g, 0, none⟩) 3 c1) rfl (by kernel_rfl) (by kernel_rfl) (by kernel_rfl) (fun _ _ _ h => h) (Yields.yieldsIf (yields_move rfl rfl rfl)) HS ?_
  simp only [Act.put, List.setIfInBounds_toArray, List.set_cons_zero, List.set_cons_succ]
  refine takeHd 11 1 (.pointer (some ⟨g, 4, none⟩)) rfl (by kernel_rfl) (by kernel_rfl) (by kernel_rfl) (fun _ _ _ h => h) (Yields.yieldsIf (yields_field rfl (fun w => by unfold execOp; go_simp))) HS ?_
  simp only [Act.put, List.setIfInBounds_toArray, List.set_cons_zero, List.set_cons_succ]
  refine takeHd 10 2 (.agg #[I 3, I 14]) rfl (by kernel_rfl) (by kernel_rfl) (by kernel_rfl) (fun _ _ _ h => h) (yieldsIf_load rfl 33 (.tmp 54) ⟨g, 4, none⟩ rfl rfl (fun W hW => f2 ⟨W, hW⟩)) HS ?_
  simp only [Act.put, List.setIfInBounds_toArray, List.set_cons_zero, List.set_cons_succ]
  refine takeHd 9 3 (.slice (some ⟨g, 0, none⟩) 3 c1) rfl (by kernel_rfl) (by kernel_rfl) (by kernel_rfl) (fun _ _ _ h => h) (Yields.yieldsIf (yields_move rfl rfl rfl)) HS ?_
  simp only [Act.put, List.setIfInBounds_toArray, List.set_cons_zero, List.set_cons_succ]
  refine takeHd 8 4 (.pointer (some ⟨g, 0, none⟩)) rfl (by kernel_rfl) (by kernel_rfl) (by kernel_rfl) (fun _ _ _ h => h) (Yields.yieldsIf (yields_field rfl (fun w => by unfold execOp; go_simp))) HS ?_
  simp only [Act.put, List.setIfInBounds_toArray, List.set_cons_zero, List.set_cons_succ]
  refine takeHd 7 5 (.agg #[I 1, I 8]) rfl (by kernel_rfl) (by kernel_rfl) (by kernel_rfl) (fun _ _ _ h => h) (yieldsIf_load rfl 33 (.tmp 57) ⟨g, 0, none⟩ rfl rfl (fun W hW => f0 ⟨W, hW⟩)) HS ?_
  simp only [Act.put, List.setIfInBounds_toArray, List.set_cons_zero, List.set_cons_succ]
  refine wpAnyH_all (fuel := 6) (rs := [6]) (by kernel_rfl) (by simp) ?_
  intro i hi
  obtain rfl := List.mem_singleton.1 hi
  clear hi
  refine buildL rfl rfl 25 2 #[(0, .tmp 55), (1, .tmp 58)] rfl #[(0, .agg #[I 3, I 14]), (1, .agg #[I 1, I 8])] rfl _ (built_shares w0 [(3, 14), (1, 8)] 2 rfl (by decide) (by decide) _ rfl) ?_
  simp only [Act.put, List.setIfInBounds_toArray, List.set_cons_zero, List.set_cons_succ]
  have HS1 := HS.alloc HS.size (.cells (shc [(3, 14), (1, 8)]).toArray 33)
  refine ⟨HS1, ?_⟩
  refine wpAnyH_all (fuel := 5) (rs := [7]) (by kernel_rfl) (by simp) ?_
  intro i hi
  obtain rfl := List.mem_singleton.1 hi
  clear hi
  refine callL rfl rfl ?_
  go_simp
  refine (C.out _ _ (ShArg.built w0 [(3, 14), (1, 8)] 2 rfl)).mono ?_
  rintro e w2 ⟨rfl, hb⟩
  have HS2 := HS1.trans (hb.mono HS1.size)
  refine ⟨HS2, ?_⟩
  try simp only [Act.put, List.setIfInBounds_toArray, List.set_cons_zero, List.set_cons_succ]
  refine takeHd 4 8 (.tuple #[I 5, .bool true]) rfl (by kernel_rfl) (by kernel_rfl) (by kernel_rfl) (fun _ _ _ h => h) (Yields.yieldsIf (yields_move rfl rfl rfl)) HS2 ?_
  simp only [Act.put, List.setIfInBounds_toArray, List.set_cons_zero, List.set_cons_succ]
  refine takeHd 3 9 (I 5) rfl (by kernel_rfl) (by kernel_rfl) (by kernel_rfl) (fun _ _ _ h => h) (Yields.yieldsIf (yields_field rfl (fun w => by unfold execOp; go_simp))) HS2 ?_
  simp only [Act.put, List.setIfInBounds_toArray, List.set_cons_zero, List.set_cons_succ]
  refine takeHd 2 10 (.bool true) rfl (by kernel_rfl) (by kernel_rfl) (by kernel_rfl) (fun _ _ _ h => h) (Yields.yieldsIf (yields_field rfl (fun w => by unfold execOp; go_simp))) HS2 ?_
  simp only [Act.put, List.setIfInBounds_toArray, List.set_cons_zero, List.set_cons_succ]
  refine takeHd 1 11 (I 5) rfl (by kernel_rfl) (by kernel_rfl) (by kernel_rfl) (fun _ _ _ h => h) (Yields.yieldsIf (yields_field rfl (fun w => by unfold execOp; go_simp))) HS2 ?_
  simp only [Act.put, List.setIfInBounds_toArray, List.set_cons_zero, List.set_cons_succ]
  refine takeHd 0 12 (.bool true) rfl (by kernel_rfl) (by kernel_rfl) (by kernel_rfl) (fun _ _ _ h => h) (Yields.yieldsIf (yields_field rfl (fun w => by unfold execOp; go_simp))) HS2 ?_
  simp only [Act.put, List.setIfInBounds_toArray, List.set_cons_zero, List.set_cons_succ]
  refine wpAnyH_done (by kernel_rfl) ?_ 0
  refine NoPanic.normal ?_
  exact HX.out _ _ _ _ _ _ _ _ _ _ _ _ HS2

set_option maxRecDepth 100000 in
set_option maxHeartbeats 2000000 in
theorem san_r5 (u0 u3 u4 u5 u6 u7 u8 u9 u10 u11 u12 u13 u14 u15 u16 u17 u18 u19 u20 u21 u22 u23 u24 u25 u26 u27 u28 u29 u30 u31 u32 u33 u34 u35 u36 u37 u38 u39 u40 u41 u42 u43 u44 u45 u46 u47 u48 u49 u50 u51 u52 u53 u54 u55 u56 u57 u58 u59 u60 u61 u62 u63 u64 u65 u66 u67 u68 u69 u70 u71 u72 u73 u74 u75 u76 u77 u78 u79 u80 u81 u82 u83 u84 u85 u86 u87 u88 u89 u90 u91 u92 u93 u94 u95 u96 u97 u98 u99 u100 u101 u102 u103 u104 u105 u106 u107 u108 u109 u110 u111 u112 u113 u114 u115 u116 u117 u118 u119 u120 u121 u122 u123 u124 u125 u126 u127 u128 u129 u130 u131 u132 u133 v2 : Value) (g c1 : Nat) (w : World) (hAt : ShAt w g 0 [(1, 8), (2, 11), (3, 14)]) (hC : IArg w v2 [1024, 64]) (C : Hid (∀ v2 v w, IArg w v2 [1024, 64] → ShArg w v [(1, 8), (2, 12), (3, 14)] → Calls Try.prog 22 #[v2, v] w fun e w' => ∃ u, e = .returned (.tuple #[I 5, u, I 0]) ∧ OwnI w' w.heap.size u [2] ∧ Below w.heap.size w w')) (Q : Exit → Act → World → Prop)
    (h : ∀ (y63 y64 y65 y66 y67 y68 y69 y70 y71 y72 y73 y74 y75 y76 u : Value) (w' : World), IArg w' u [2] → Below w.heap.size w w' → Q .normal ⟨(u0 :: (.slice (some ⟨g, 0, none⟩) 3 c1) :: v2 :: u3 :: u4 :: u5 :: (I 5) :: u :: (I 0) :: u9 :: u10 :: u11 :: u12 :: u13 :: u14 :: u15 :: u16 :: u17 :: u18 :: u19 :: u20 :: u21 :: u22 :: u23 :: u24 :: u25 :: u26 :: u27 :: u28 :: u29 :: u30 :: u31 :: u32 :: u33 :: u34 :: u35 :: u36 :: u37 :: u38 :: u39 :: u40 :: u41 :: u42 :: u43 :: u44 :: u45 :: u46 :: u47 :: u48 :: u49 :: u50 :: u51 :: u52 :: u53 :: u54 :: u55 :: u56 :: u57 :: u58 :: u59 :: u60 :: u61 :: u62 :: y63 :: y64 :: y65 :: y66 :: y67 :: y68 :: y69 :: y70 :: y71 :: y72 :: y73 :: y74 :: y75 :: y76 :: u77 :: u78 :: u79 :: u80 :: u81 :: u82 :: u83 :: u84 :: u85 :: u86 :: u87 :: u88 :: u89 :: u90 :: u91 :: u92 :: u93 :: u94 :: u95 :: u96 :: u97 :: u98 :: u99 :: u100 :: u101 :: u102 :: u103 :: u104 :: u105 :: u106 :: u107 :: u108 :: u109 :: u110 :: u111 :: u112 :: u113 :: u114 :: u115 :: u116 :: u117 :: u118 :: u119 :: u120 :: u121 :: u122 :: u123 :: u124 :: u125 :: u126 :: u127 :: u128 :: u129 :: u130 :: u131 :: u132 :: u133 :: []).toArray, []⟩ w') : Code.wp Try.prog (regionIn Try.f11 5) Q ⟨(u0 :: (.slice (some ⟨g, 0, none⟩) 3 c1) :: v2 :: u3 :: u4 :: u5 :: u6 :: u7 :: u8 :: u9 :: u10 :: u11 :: u12 :: u13 :: u14 :: u15 :: u16 :: u17 :: u18 :: u19 :: u20 :: u21 :: u22 :: u23 :: u24 :: u25 :: u26 :: u27 :: u28 :: u29 :: u30 :: u31 :: u32 :: u33 :: u34 :: u35 :: u36 :: u37 :: u38 :: u39 :: u40 :: u41 :: u42 :: u43 :: u44 :: u45 :: u46 :: u47 :: u48 :: u49 :: u50 :: u51 :: u52 :: u53 :: u54 :: u55 :: u56 :: u57 :: u58 :: u59 :: u60 :: u61 :: u62 :: u63 :: u64 :: u65 :: u66 :: u67 :: u68 :: u69 :: u70 :: u71 :: u72 :: u73 :: u74 :: u75 :: u76 :: u77 :: u78 :: u79 :: u80 :: u81 :: u82 :: u83 :: u84 :: u85 :: u86 :: u87 :: u88 :: u89 :: u90 :: u91 :: u92 :: u93 :: u94 :: u95 :: u96 :: u97 :: u98 :: u99 :: u100 :: u101 :: u102 :: u103 :: u104 :: u105 :: u106 :: u107 :: u108 :: u109 :: u110 :: u111 :: u112 :: u113 :: u114 :: u115 :: u116 :: u117 :: u118 :: u119 :: u120 :: u121 :: u122 :: u123 :: u124 :: u125 :: u126 :: u127 :: u128 :: u129 :: u130 :: u131 :: u132 :: u133 :: []).toArray, []⟩ w := by
  have HX := Lib.hid h
  have HC := Lib.hid hC
  have f0 := After.share (hAt.cells (k := 0) rfl).1 (hAt.cells (k := 0) rfl).2
  have f2 := After.share (hAt.cells (k := 2) rfl).1 (hAt.cells (k := 2) rfl).2
  simp only [Nat.zero_mul, Nat.add_zero, Nat.zero_add, Nat.reduceMul] at f0 f2
  clear h hAt hC
  conv => arg 2; whnf
  refine wp_region_noPanic ?_
  refine wp_region_held (S := fun W => Below w.heap.size w W) (by kernel_rfl) ?_
  have HS : Below w.heap.size w { w with drawn := w.drawn + 1 } := (Below.refl _ w).drew
  generalize ({ w with drawn := w.drawn + 1 } : World) = w0 at *
  refine takeHd 16 0 v2 rfl (by kernel_rfl) (by kernel_rfl) (by kernel_rfl) (fun _ _ _ h => h) (Yields.yieldsIf (yields_move rfl rfl rfl)) HS ?_
  simp only [Act.put, List.setIfInBounds_toArray, List.set_cons_zero, List.set_cons_succ]
  refine takeHd 15 1 (.slice (some ⟨g, 0, none⟩) 3 c1) rfl (by kernel_rfl) (by kernel_rfl) (by kernel_rfl) (fun _ _ _ h => h) (Yields.yieldsIf (yields_move rfl rfl rfl)) HS ?_
  simp only [Act.put, List.setIfInBounds_toArray, List.set_cons_zero, List.set_cons_succ]
  refine takeHd 14 2 (.pointer (some ⟨g, 0, none⟩)) rfl (by kernel_rfl) (by kernel_rfl) (by kernel_rfl) (fun _ _ _ h => h) (Yields.yieldsIf (yields_field rfl (fun w => by unfold execOp; go_simp))) HS ?_
  simp only [Act.put, List.setIfInBounds_toArray, List.set_cons_zero, List.set_cons_succ]
  refine takeHd 13 3 (.agg #[I 1, I 8]) rfl (by kernel_rfl) (by kernel_rfl) (by kernel_rfl) (fun _ _ _ h => h) (yieldsIf_load rfl 33 (.tmp 66) ⟨g, 0, none⟩ rfl rfl (fun W hW => f0 ⟨W, hW⟩)) HS ?_
  simp only [Act.put, List.setIfInBounds_toArray, List.set_cons_zero, List.set_cons_succ]
  refine takeHd 12 4 (.agg #[I 2, I 12]) rfl (by kernel_rfl) (by kernel_rfl) (by kernel_rfl) (fun _ _ _ h => h) (Yields.yieldsIf (yields_field rfl (fun w => by unfold execOp; go_simp))) HS ?_
  simp only [Act.put, List.setIfInBounds_toArray, List.set_cons_zero, List.set_cons_succ]
  refine takeHd 11 5 (.slice (some ⟨g, 0, none⟩) 3 c1) rfl (by kernel_rfl) (by kernel_rfl) (by kernel_rfl) (fun _ _ _ h => h) (Yields.yieldsIf (yields_move rfl rfl rfl)) HS ?_
  simp only [Act.put, List.setIfInBounds_toArray, List.set_cons_zero, List.set_cons_succ]
  refine takeHd 10 6 (.pointer (some ⟨g, 4, none⟩)) rfl (by kernel_rfl) (by kernel_rfl) (by kernel_rfl) (fun _ _ _ h => h) (Yields.yieldsIf (yields_field rfl (fun w => by unfold execOp; go_simp))) HS ?_
  simp only [Act.put, List.setIfInBounds_toArray, List.set_cons_zero, List.set_cons_succ]
  refine takeHd 9 7 (.agg #[I 3, I 14]) rfl (by kernel_rfl) (by kernel_rfl) (by kernel_rfl) (fun _ _ _ h => h) (yieldsIf_load rfl 33 (.tmp 70) ⟨g, 4, none⟩ rfl rfl (fun W hW => f2 ⟨W, hW⟩)) HS ?_
  simp only [Act.put, List.setIfInBounds_toArray, List.set_cons_zero, List.set_cons_succ]
  refine wpAnyH_all (fuel := 8) (rs := [8]) (by kernel_rfl) (by simp) ?_
  intro i hi
  obtain rfl := List.mem_singleton.1 hi
  clear hi
  refine buildL rfl rfl 25 3 #[(0, .tmp 67), (1, .tmp 68), (2, .tmp 71)] rfl #[(0, .agg #[I 1, I 8]), (1, .agg #[I 2, I 12]), (2, .agg #[I 3, I 14])] rfl _ (built_shares w0 [(1, 8), (2, 12), (3, 14)] 3 rfl (by decide) (by decide) _ rfl) ?_
  simp only [Act.put, List.setIfInBounds_toArray, List.set_cons_zero, List.set_cons_succ]
  have HS1 := HS.alloc HS.size (.cells (shc [(1, 8), (2, 12), (3, 14)]).toArray 33)
  refine ⟨HS1, ?_⟩
  refine wpAnyH_all (fuel := 7) (rs := [9]) (by kernel_rfl) (by simp) ?_
  intro i hi
  obtain rfl := List.mem_singleton.1 hi
  clear hi
  refine callL rfl rfl ?_
  go_simp
  refine (C.out _ _ _ (HC.out.below HS1) (ShArg.built w0 [(1, 8), (2, 12), (3, 14)] 3 rfl)).mono ?_
  rintro e w2 ⟨u, rfl, ho, hb⟩
  have HS2 := HS1.trans (hb.mono HS1.size)
  have HU := Lib.hid (OwnV.iarg ho)
  clear ho
  refine ⟨HS2, ?_⟩
  try simp only [Act.put, List.setIfInBounds_toArray, List.set_cons_zero, List.set_cons_succ]
  refine takeHd 6 10 (.tuple #[I 5, u, I 0]) rfl (by kernel_rfl) (by kernel_rfl) (by kernel_rfl) (fun _ _ _ h => h) (Yields.yieldsIf (yields_move rfl rfl rfl)) HS2 ?_
  simp only [Act.put, List.setIfInBounds_toArray, List.set_cons_zero, List.set_cons_succ]
  refine takeHd 5 11 (I 5) rfl (by kernel_rfl) (by kernel_rfl) (by kernel_rfl) (fun _ _ _ h => h) (Yields.yieldsIf (yields_field rfl (fun w => by unfold execOp; go_simp))) HS2 ?_
  simp only [Act.put, List.setIfInBounds_toArray, List.set_cons_zero, List.set_cons_succ]
  refine takeHd 4 12 u rfl (by kernel_rfl) (by kernel_rfl) (by kernel_rfl) (fun _ _ _ h => h) (Yields.yieldsIf (yields_field rfl (fun w => by unfold execOp; go_simp))) HS2 ?_
  simp only [Act.put, List.setIfInBounds_toArray, List.set_cons_zero, List.set_cons_succ]
  refine takeHd 3 13 (I 0) rfl (by kernel_rfl) (by kernel_rfl) (by kernel_rfl) (fun _ _ _ h => h) (Yields.yieldsIf (yields_field rfl (fun w => by unfold execOp; go_simp))) HS2 ?_
  simp only [Act.put, List.setIfInBounds_toArray, List.set_cons_zero, List.set_cons_succ]
  refine takeHd 2 14 (I 5) rfl (by kernel_rfl) (by kernel_rfl) (by kernel_rfl) (fun _ _ _ h => h) (Yields.yieldsIf (yields_field rfl (fun w => by unfold execOp; go_simp))) HS2 ?_
  simp only [Act.put, List.setIfInBounds_toArray, List.set_cons_zero, List.set_cons_succ]
  refine takeHd 1 15 u rfl (by kernel_rfl) (by kernel_rfl) (by kernel_rfl) (fun _ _ _ h => h) (Yields.yieldsIf (yields_field rfl (fun w => by unfold execOp; go_simp))) HS2 ?_
  simp only [Act.put, List.setIfInBounds_toArray, List.set_cons_zero, List.set_cons_succ]
  refine takeHd 0 16 (I 0) rfl (by kernel_rfl) (by kernel_rfl) (by kernel_rfl) (fun _ _ _ h => h) (Yields.yieldsIf (yields_field rfl (fun w => by unfold execOp; go_simp))) HS2 ?_
  simp only [Act.put, List.setIfInBounds_toArray, List.set_cons_zero, List.set_cons_succ]
  refine wpAnyH_done (by kernel_rfl) ?_ 0
  refine NoPanic.normal ?_
  exact HX.out _ _ _ _ _ _ _ _ _ _ _ _ _ _ u _ HU.out HS2

set_option maxRecDepth 100000 in
set_option maxHeartbeats 2000000 in
theorem san_r6 (u0 u3 u4 u5 u6 u7 u8 u9 u10 u11 u12 u13 u14 u15 u16 u17 u18 u19 u20 u21 u22 u23 u24 u25 u26 u27 u28 u29 u30 u31 u32 u33 u34 u35 u36 u37 u38 u39 u40 u41 u42 u43 u44 u45 u46 u47 u48 u49 u50 u51 u52 u53 u54 u55 u56 u57 u58 u59 u60 u61 u62 u63 u64 u65 u66 u67 u68 u69 u70 u71 u72 u73 u74 u75 u76 u77 u78 u79 u80 u81 u82 u83 u84 u85 u86 u87 u88 u89 u90 u91 u92 u93 u94 u95 u96 u97 u98 u99 u100 u101 u102 u103 u104 u105 u106 u107 u108 u109 u110 u111 u112 u113 u114 u115 u116 u117 u118 u119 u120 u121 u122 u123 u124 u125 u126 u127 u128 u129 u130 u131 u132 u133 v2 : Value) (g c1 : Nat) (w : World) (hAt : ShAt w g 0 [(1, 8), (2, 11), (3, 14)]) (hC : IArg w v2 [1024, 64]) (C : Hid (∀ v2 v w, IArg w v2 [1024, 64] → ShArg w v [(1, 8), (1, 8)] → Calls Try.prog 22 #[v2, v] w fun e w' => ∃ u, e = .returned (.tuple #[I 0, u, I 24]) ∧ OwnI w' w.heap.size u [] ∧ Below w.heap.size w w')) (Q : Exit → Act → World → Prop)
    (h : ∀ (y77 y78 y79 y80 y81 y82 y83 y84 y85 y86 y87 y88 y89 u : Value) (w' : World), IArg w' u [] → Below w.heap.size w w' → Q .normal ⟨(u0 :: (.slice (some ⟨g, 0, none⟩) 3 c1) :: v2 :: u3 :: u4 :: u5 :: u6 :: u7 :: u8 :: (I 0) :: u :: (I 24) :: u12 :: u13 :: u14 :: u15 :: u16 :: u17 :: u18 :: u19 :: u20 :: u21 :: u22 :: u23 :: u24 :: u25 :: u26 :: u27 :: u28 :: u29 :: u30 :: u31 :: u32 :: u33 :: u34 :: u35 :: u36 :: u37 :: u38 :: u39 :: u40 :: u41 :: u42 :: u43 :: u44 :: u45 :: u46 :: u47 :: u48 :: u49 :: u50 :: u51 :: u52 :: u53 :: u54 :: u55 :: u56 :: u57 :: u58 :: u59 :: u60 :: u61 :: u62 :: u63 :: u64 :: u65 :: u66 :: u67 :: u68 :: u69 :: u70 :: u71 :: u72 :: u73 :: u74 :: u75 :: u76 :: y77 :: y78 :: y79 :: y80 :: y81 :: y82 :: y83 :: y84 :: y85 :: y86 :: y87 :: y88 :: y89 :: u90 :: u91 :: u92 :: u93 :: u94 :: u95 :: u96 :: u97 :: u98 :: u99 :: u100 :: u101 :: u102 :: u103 :: u104 :: u105 :: u106 :: u107 :: u108 :: u109 :: u110 :: u111 :: u112 :: u113 :: u114 :: u115 :: u116 :: u117 :: u118 :: u119 :: u120 :: u121 :: u122 :: u123 :: u124 :: u125 :: u126 :: u127 :: u128 :: u129 :: u130 :: u131 :: u132 :: u133 :: []).toArray, []⟩ w') : Code.wp Try.prog (regionIn Try.f11 6) Q ⟨(u0 :: (.slice (some ⟨g, 0, none⟩) 3 c1) :: v2 :: u3 :: u4 :: u5 :: u6 :: u7 :: u8 :: u9 :: u10 :: u11 :: u12 :: u13 :: u14 :: u15 :: u16 :: u17 :: u18 :: u19 :: u20 :: u21 :: u22 :: u23 :: u24 :: u25 :: u26 :: u27 :: u28 :: u29 :: u30 :: u31 :: u32 :: u33 :: u34 :: u35 :: u36 :: u37 :: u38 :: u39 :: u40 :: u41 :: u42 :: u43 :: u44 :: u45 :: u46 :: u47 :: u48 :: u49 :: u50 :: u51 :: u52 :: u53 :: u54 :: u55 :: u56 :: u57 :: u58 :: u59 :: u60 :: u61 :: u62 :: u63 :: u64 :: u65 :: u66 :: u67 :: u68 :: u69 :: u70 :: u71 :: u72 :: u73 :: u74 :: u75 :: u76 :: u77 :: u78 :: u79 :: u80 :: u81 :: u82 :: u83 :: u84 :: u85 :: u86 :: u87 :: u88 :: u89 :: u90 :: u91 :: u92 :: u93 :: u94 :: u95 :: u96 :: u97 :: u98 :: u99 :: u100 :: u101 :: u102 :: u103 :: u104 :: u105 :: u106 :: u107 :: u108 :: u109 :: u110 :: u111 :: u112 :: u113 :: u114 :: u115 :: u116 :: u117 :: u118 :: u119 :: u120 :: u121 :: u122 :: u123 :: u124 :: u125 :: u126 :: u127 :: u128 :: u129 :: u130 :: u131 :: u132 :: u133 :: []).toArray, []⟩ w := by
  have HX := Lib.hid h
  have HC := Lib.hid hC
  have f0 := After.share (hAt.cells (k := 0) rfl).1 (hAt.cells (k := 0) rfl).2
  simp only [Nat.zero_mul, Nat.add_zero] at f0
  clear h hAt hC
  conv => arg 2; whnf
  refine wp_region_noPanic ?_
  refine wp_region_held (S := fun W => Below w.heap.size w W) (by kernel_rfl) ?_
  have HS : Below w.heap.size w { w with drawn := w.drawn + 1 } := (Below.refl _ w).drew
  generalize ({ w with drawn := w.drawn + 1 } : World) = w0 at *
  refine takeHd 15 0 v2 rfl (by kernel_rfl) (by kernel_rfl) (by kernel_rfl) (fun _ _ _ h => h) (Yields.yieldsIf (yields_move rfl rfl rfl)) HS ?_
  simp only [Act.put, List.setIfInBounds_toArray, List.set_cons_zero, List.set_cons_succ]
  refine takeHd 14 1 (.slice (some ⟨g, 0, none⟩) 3 c1) rfl (by kernel_rfl) (by kernel_rfl) (by kernel_rfl) (fun _ _ _ h => h) (Yields.yieldsIf (yields_move rfl rfl rfl)) HS ?_
  simp only [Act.put, List.setIfInBounds_toArray, List.set_cons_zero, List.set_cons_succ]
  refine takeHd 13 2 (.pointer (some ⟨g, 0, none⟩)) rfl (by kernel_rfl) (by kernel_rfl) (by kernel_rfl) (fun _ _ _ h => h) (Yields.yieldsIf (yields_field rfl (fun w => by unfold execOp; go_simp))) HS ?_
  simp only [Act.put, List.setIfInBounds_toArray, List.set_cons_zero, List.set_cons_succ]
  refine takeHd 12 3 (.agg #[I 1, I 8]) rfl (by kernel_rfl) (by kernel_rfl) (by kernel_rfl) (fun _ _ _ h => h) (yieldsIf_load rfl 33 (.tmp 80) ⟨g, 0, none⟩ rfl rfl (fun W hW => f0 ⟨W, hW⟩)) HS ?_
  simp only [Act.put, List.setIfInBounds_toArray, List.set_cons_zero, List.set_cons_succ]
  refine takeHd 11 4 (.slice (some ⟨g, 0, none⟩) 3 c1) rfl (by kernel_rfl) (by kernel_rfl) (by kernel_rfl) (fun _ _ _ h => h) (Yields.yieldsIf (yields_move rfl rfl rfl)) HS ?_
  simp only [Act.put, List.setIfInBounds_toArray, List.set_cons_zero, List.set_cons_succ]
  refine takeHd 10 5 (.pointer (some ⟨g, 0, none⟩)) rfl (by kernel_rfl) (by kernel_rfl) (by kernel_rfl) (fun _ _ _ h => h) (Yields.yieldsIf (yields_field rfl (fun w => by unfold execOp; go_simp))) HS ?_
  simp only [Act.put, List.setIfInBounds_toArray, List.set_cons_zero, List.set_cons_succ]
  refine takeHd 9 6 (.agg #[I 1, I 8]) rfl (by kernel_rfl) (by kernel_rfl) (by kernel_rfl) (fun _ _ _ h => h) (yieldsIf_load rfl 33 (.tmp 83) ⟨g, 0, none⟩ rfl rfl (fun W hW => f0 ⟨W, hW⟩)) HS ?_
  simp only [Act.put, List.setIfInBounds_toArray, List.set_cons_zero, List.set_cons_succ]
  refine wpAnyH_all (fuel := 8) (rs := [7]) (by kernel_rfl) (by simp) ?_
  intro i hi
  obtain rfl := List.mem_singleton.1 hi
  clear hi
  refine buildL rfl rfl 25 2 #[(0, .tmp 81), (1, .tmp 84)] rfl #[(0, .agg #[I 1, I 8]), (1, .agg #[I 1, I 8])] rfl _ (built_shares w0 [(1, 8), (1, 8)] 2 rfl (by decide) (by decide) _ rfl) ?_
  simp only [Act.put, List.setIfInBounds_toArray, List.set_cons_zero, List.set_cons_succ]
  have HS1 := HS.alloc HS.size (.cells (shc [(1, 8), (1, 8)]).toArray 33)
  refine ⟨HS1, ?_⟩
  refine wpAnyH_all (fuel := 7) (rs := [8]) (by kernel_rfl) (by simp) ?_
  intro i hi
  obtain rfl := List.mem_singleton.1 hi
  clear hi
  refine callL rfl rfl ?_
  go_simp
  refine (C.out _ _ _ (HC.out.below HS1) (ShArg.built w0 [(1, 8), (1, 8)] 2 rfl)).mono ?_
  rintro e w2 ⟨u, rfl, ho, hb⟩
  have HS2 := HS1.trans (hb.mono HS1.size)
  have HU := Lib.hid (OwnV.iarg ho)
  clear ho
  refine ⟨HS2, ?_⟩
  try simp only [Act.put, List.setIfInBounds_toArray, List.set_cons_zero, List.set_cons_succ]
  refine takeHd 6 9 (.tuple #[I 0, u, I 24]) rfl (by kernel_rfl) (by kernel_rfl) (by kernel_rfl) (fun _ _ _ h => h) (Yields.yieldsIf (yields_move rfl rfl rfl)) HS2 ?_
  simp only [Act.put, List.setIfInBounds_toArray, List.set_cons_zero, List.set_cons_succ]
  refine takeHd 5 10 (I 0) rfl (by kernel_rfl) (by kernel_rfl) (by kernel_rfl) (fun _ _ _ h => h) (Yields.yieldsIf (yields_field rfl (fun w => by unfold execOp; go_simp))) HS2 ?_
  simp only [Act.put, List.setIfInBounds_toArray, List.set_cons_zero, List.set_cons_succ]
  refine takeHd 4 11 u rfl (by kernel_rfl) (by kernel_rfl) (by kernel_rfl) (fun _ _ _ h => h) (Yields.yieldsIf (yields_field rfl (fun w => by unfold execOp; go_simp))) HS2 ?_
  simp only [Act.put, List.setIfInBounds_toArray, List.set_cons_zero, List.set_cons_succ]
  refine takeHd 3 12 (I 24) rfl (by kernel_rfl) (by kernel_rfl) (by kernel_rfl) (fun _ _ _ h => h) (Yields.yieldsIf (yields_field rfl (fun w => by unfold execOp; go_simp))) HS2 ?_
  simp only [Act.put, List.setIfInBounds_toArray, List.set_cons_zero, List.set_cons_succ]
  refine takeHd 2 13 (I 0) rfl (by kernel_rfl) (by kernel_rfl) (by kernel_rfl) (fun _ _ _ h => h) (Yields.yieldsIf (yields_field rfl (fun w => by unfold execOp; go_simp))) HS2 ?_
  simp only [Act.put, List.setIfInBounds_toArray, List.set_cons_zero, List.set_cons_succ]
  refine takeHd 1 14 u rfl (by kernel_rfl) (by kernel_rfl) (by kernel_rfl) (fun _ _ _ h => h) (Yields.yieldsIf (yields_field rfl (fun w => by unfold execOp; go_simp))) HS2 ?_
  simp only [Act.put, List.setIfInBounds_toArray, List.set_cons_zero, List.set_cons_succ]
  refine takeHd 0 15 (I 24) rfl (by kernel_rfl) (by kernel_rfl) (by kernel_rfl) (fun _ _ _ h => h) (Yields.yieldsIf (yields_field rfl (fun w => by unfold execOp; go_simp))) HS2 ?_
  simp only [Act.put, List.setIfInBounds_toArray, List.set_cons_zero, List.set_cons_succ]
  refine wpAnyH_done (by kernel_rfl) ?_ 0
  refine NoPanic.normal ?_
  exact HX.out _ _ _ _ _ _ _ _ _ _ _ _ _ u _ HU.out HS2

set_option maxRecDepth 100000 in
set_option maxHeartbeats 2000000 in
theorem san_t7 (u0 u3 u12 u13 u14 u15 u16 u17 u18 u19 u20 u21 u22 u23 u24 u25 u26 u27 u28 u29 u30 u31 u32 u33 u34 u35 u36 u37 u38 u39 u40 u41 u42 u43 u44 u45 u46 u47 u48 u49 u50 u51 u52 u53 u54 u55 u56 u57 u58 u59 u60 u61 u62 u63 u64 u65 u66 u67 u68 u69 u70 u71 u72 u73 u74 u75 u76 u77 u78 u79 u80 u81 u82 u83 u84 u85 u86 u87 u88 u89 u90 u91 u92 u93 u94 u95 u96 u97 u98 u99 u100 u101 u102 u103 u104 u105 u106 u107 u108 u109 u110 u111 u112 u113 u114 u115 u116 u117 u118 u119 u120 u121 u122 u123 u124 u125 u126 u127 u128 u129 u130 u131 u132 u133 v2 v7 : Value) (a10 : Option Addr) (g c1 c10 : Nat) (W0 w : World) (hAt : ShAt w g 0 [(1, 8), (2, 11), (3, 14)]) (hC : IArg w v2 [1024, 64]) (h7 : IArg w v7 [2]) (hB : Below W0.heap.size W0 w)
    (VY : Hid (∀ v2 w, IArg w v2 [1024, 64] → Calls Try.prog 21 #[v2, .agg #[I 2, I 11]] w fun e w' => e = .returned (.bool true) ∧ Below w.heap.size w w'))
    (VN : Hid (∀ v2 w, IArg w v2 [1024, 64] → Calls Try.prog 21 #[v2, .agg #[I 2, I 12]] w fun e w' => e = .returned (.bool false) ∧ Below w.heap.size w w'))
    (VI : Hid (∀ v u w, IArg w v [2] → IArg w u [2] → Calls Try.prog 26 #[v, u] w fun e w' => e = .returned (.bool true) ∧ Below w.heap.size w w')) :
    Code.wp Try.prog (tailIn Try.f11 6) (bodyPost Try.prog Try.f11 (fun e w' => e = .returned (.bool true) ∧ Below W0.heap.size W0 w')) ⟨(u0 :: (.slice (some ⟨g, 0, none⟩) 3 c1) :: v2 :: u3 :: (I 5) :: (.bool true) :: (I 5) :: v7 :: (I 0) :: (I 0) :: (.slice a10 0 c10) :: (I 24) :: u12 :: u13 :: u14 :: u15 :: u16 :: u17 :: u18 :: u19 :: u20 :: u21 :: u22 :: u23 :: u24 :: u25 :: u26 :: u27 :: u28 :: u29 :: u30 :: u31 :: u32 :: u33 :: u34 :: u35 :: u36 :: u37 :: u38 :: u39 :: u40 :: u41 :: u42 :: u43 :: u44 :: u45 :: u46 :: u47 :: u48 :: u49 :: u50 :: u51 :: u52 :: u53 :: u54 :: u55 :: u56 :: u57 :: u58 :: u59 :: u60 :: u61 :: u62 :: u63 :: u64 :: u65 :: u66 :: u67 :: u68 :: u69 :: u70 :: u71 :: u72 :: u73 :: u74 :: u75 :: u76 :: u77 :: u78 :: u79 :: u80 :: u81 :: u82 :: u83 :: u84 :: u85 :: u86 :: u87 :: u88 :: u89 :: u90 :: u91 :: u92 :: u93 :: u94 :: u95 :: u96 :: u97 :: u98 :: u99 :: u100 :: u101 :: u102 :: u103 :: u104 :: u105 :: u106 :: u107 :: u108 :: u109 :: u110 :: u111 :: u112 :: u113 :: u114 :: u115 :: u116 :: u117 :: u118 :: u119 :: u120 :: u121 :: u122 :: u123 :: u124 :: u125 :: u126 :: u127 :: u128 :: u129 :: u130 :: u131 :: u132 :: u133 :: []).toArray, []⟩ w := by
  have c2 := (hAt.cells (k := 1) rfl).1
  have c3 := (hAt.cells (k := 1) rfl).2
  simp only [Nat.one_mul, Nat.zero_add] at c2 c3
  have HC := Lib.hid hC
  have H7 := Lib.hid h7
  clear hAt hC h7
  conv => arg 2; whnf
  go_wp2_with fail
  refine (VY.out _ _ HC.out).mono ?_; rintro e w2 ⟨rfl, hb⟩
  have HC := Lib.hid (HC.out.below hb)
  have H7 := Lib.hid (H7.out.below hb)
  have hB := hB.trans (hb.mono hB.size)
  clear c2 c3 hb
  go_wp2_with fail
  refine (VN.out _ _ HC.out).mono ?_; rintro e w3 ⟨rfl, hb⟩
  have H7 := Lib.hid (H7.out.below hb)
  have hB := hB.trans (hb.mono hB.size)
  clear hb
  have H8 := Lib.hid (IArg.built1 w3 2)
  have hb3 := (Below.refl w3.heap.size w3).alloc (Nat.le_refl _) (.cells #[I 2] 3)
  have H9 := Lib.hid (H7.out.below hb3)
  have hB := hB.trans (hb3.mono hB.size)
  clear hb3
  go_wp2_with (first
    | (refine wpList_build_runG (by kernel_rfl) 22 1 #[(0, .const (.int .i64 2))] rfl #[(0, I 2)] rfl _ _ (one_int _ 2) ?_; go_frame))
  refine (VI.out _ _ _ H9.out H8.out).mono ?_; rintro e w4 ⟨rfl, hb⟩
  have hB := hB.trans (hb.mono hB.size)
  clear hb
  go_wp2_with fail
  go_ret
  exact ⟨rfl, hB⟩

theorem ev_ok : okS [5, 3] 3 = true := by kernel_rfl
theorem ev_sp : spS [5, 3] 3 = [(1, 8), (2, 11), (3, 14)] := by kernel_rfl
theorem ev_cm : cmS [5, 3] 3 = [1024, 64] := by kernel_rfl
theorem ev_j : joinS 2 [(3, 14), (1, 8)] = (5, true) := by kernel_rfl
theorem ev_o1 : opS [1024, 64] [(1, 8), (2, 12), (3, 14)] = (5, [2], 0) := by kernel_rfl
theorem ev_o2 : opS [1024, 64] [(1, 8), (1, 8)] = (0, [], 24) := by kernel_rfl
theorem ev_v1 : vfy [1024, 64] (2, 11) = true := by kernel_rfl
theorem ev_v2 : vfy [1024, 64] (2, 12) = false := by kernel_rfl
theorem all64_lit {l : List Int} (h : l.all (fun x => decide (-9223372036854775808 ≤ x) && decide (x ≤ 9223372036854775807)) = true) : All64 l := fun x hx => by
  have := List.all_eq_true.1 h x hx
  simp only [Bool.and_eq_true, decide_eq_true_eq] at this
  exact this
theorem allS64_lit {l : List (Int × Int)} (h : l.all (fun p => decide (-9223372036854775808 ≤ p.1) && decide (p.1 ≤ 9223372036854775807) && (decide (-9223372036854775808 ≤ p.2) && decide (p.2 ≤ 9223372036854775807))) = true) : AllS64 l := fun x hx => by
  have := List.all_eq_true.1 h x hx
  simp only [Bool.and_eq_true, decide_eq_true_eq] at this
  exact this
theorem split53 (v : Value) (w : World) (hA : IArg w v [5, 3]) : Calls Try.prog 23 #[v, I 3] w fun e w' => ∃ v1 v2, e = .returned (.tuple #[v1, v2, .bool true]) ∧ OwnSh w' w.heap.size v1 [(1, 8), (2, 11), (3, 14)] ∧ OwnI w' w.heap.size v2 [1024, 64] ∧ Below w.heap.size w w' :=
  (Split_any [5, 3] 3 v w (all64_lit rfl) (by decide) hA).mono (by
    rintro e w' ⟨v1, v2, h1, h2, h3, h4, _⟩
    rw [ev_ok] at h1
    rw [ev_sp] at h2
    rw [ev_cm] at h3
    exact ⟨v1, v2, h1, h2, h3, h4⟩)
theorem join2 (v : Value) (w : World) (hA : ShArg w v [(3, 14), (1, 8)]) : Calls Try.prog 16 #[I 2, v] w fun e w' => e = .returned (.tuple #[I 5, .bool true]) ∧ Below w.heap.size w w' :=
  (Join_any 2 [(3, 14), (1, 8)] v w (allS64_lit rfl) (by decide) hA).mono (by rintro e w' ⟨h1, h2⟩; rw [ev_j] at h1; exact ⟨h1, h2⟩)
theorem open_one (v2 v : Value) (w : World) (hC : IArg w v2 [1024, 64]) (hA : ShArg w v [(1, 8), (2, 12), (3, 14)]) : Calls Try.prog 22 #[v2, v] w fun e w' => ∃ u, e = .returned (.tuple #[I 5, u, I 0]) ∧ OwnI w' w.heap.size u [2] ∧ Below w.heap.size w w' :=
  (Open_any [1024, 64] [(1, 8), (2, 12), (3, 14)] v2 v w (all64_lit rfl) (by decide) hC (allS64_lit rfl) (by decide) hA).mono (by
    rintro e w' ⟨u, h1, h2, h3⟩
    rw [ev_o1] at h1 h2
    exact ⟨u, h1, h2, h3⟩)
theorem open_two (v2 v : Value) (w : World) (hC : IArg w v2 [1024, 64]) (hA : ShArg w v [(1, 8), (1, 8)]) : Calls Try.prog 22 #[v2, v] w fun e w' => ∃ u, e = .returned (.tuple #[I 0, u, I 24]) ∧ OwnI w' w.heap.size u [] ∧ Below w.heap.size w w' :=
  (Open_any [1024, 64] [(1, 8), (1, 8)] v2 v w (all64_lit rfl) (by decide) hC (allS64_lit rfl) (by decide) hA).mono (by
    rintro e w' ⟨u, h1, h2, h3⟩
    rw [ev_o2] at h1 h2
    exact ⟨u, h1, h2, h3⟩)

set_option maxRecDepth 100000 in
set_option maxHeartbeats 2000000 in
theorem san_top (w : World) : Calls Try.prog 11 #[] w fun e w' => e = .returned (.bool true) ∧ Below w.heap.size w w' := by
  have hb0 := (Below.refl w.heap.size w).alloc (Nat.le_refl _) (.cells #[I 5, I 3] 3)
  have S1 := Lib.hid (split53 _ _ (IArg.built2 w 5 3))
  have J := Lib.hid join2
  have O1 := Lib.hid open_one
  have O2 := Lib.hid open_two
  have VY : Hid (∀ v2 w, IArg w v2 [1024, 64] → Calls Try.prog 21 #[v2, .agg #[I 2, I 11]] w fun e w' => e = .returned (.bool true) ∧ Below w.heap.size w w') := fun v2 w h => ev_v1 ▸ Verify_any [1024, 64] 2 11 v2 w (all64_lit rfl) ⟨by decide, by decide⟩ ⟨by decide, by decide⟩ (by decide) h
  have VN : Hid (∀ v2 w, IArg w v2 [1024, 64] → Calls Try.prog 21 #[v2, .agg #[I 2, I 12]] w fun e w' => e = .returned (.bool false) ∧ Below w.heap.size w w') := fun v2 w h => ev_v2 ▸ Verify_any [1024, 64] 2 12 v2 w (all64_lit rfl) ⟨by decide, by decide⟩ ⟨by decide, by decide⟩ (by decide) h
  have VI : Hid (∀ v u w, IArg w v [2] → IArg w u [2] → Calls Try.prog 26 #[v, u] w fun e w' => e = .returned (.bool true) ∧ Below w.heap.size w w') := fun v u w h1 h2 => Ints_any [2] [2] v u w (by decide) (by decide) h1 h2
  have VC : Hid (∀ v u w, IArg w v [1024, 64] → IArg w u [1024, 64] → Calls Try.prog 26 #[v, u] w fun e w' => e = .returned (.bool true) ∧ Below w.heap.size w w') := fun v u w h1 h2 => Ints_any [1024, 64] [1024, 64] v u w (by decide) (by decide) h1 h2
  go_enter Try.func11, Try.ntmps11
  go_wp2_with (first
    | (refine wpList_build_run rfl 22 2 #[(0, .const (.int .i64 5)), (1, .const (.int .i64 3))] rfl #[(0, I 5), (1, I 3)] rfl _ _ (two_ints _ 5 3) ?_))
  refine S1.out.mono ?_; rintro e w2 ⟨v1, v2, rfl, o1, o2, hb⟩
  have hB := hb0.trans (hb.mono hb0.size)
  rcases o1 with ⟨_, h0, _⟩ | ⟨g, c1, rfl, _, hc1, VR⟩
  · exact absurd h0 (by decide)
  have HAt := Lib.hid (OwnV.shat VR)
  have HC := Lib.hid o2.iarg
  clear o2 VR hb hb0 S1
  simp only [List.length_cons, List.length_nil, Nat.reduceAdd] at hc1
  have H8 := Lib.hid (IArg.built2 w2 1024 64)
  have hb2 := (Below.refl w2.heap.size w2).alloc (Nat.le_refl _) (.cells #[I 1024, I 64] 3)
  have HC3 := Lib.hid (HC.out.below hb2)
  have hB3 := hB.trans (hb2.mono hB.size)
  have HAt3 := Lib.hid (HAt.out.below hb2)
  clear hb2 hB
  go_wp2_with (first
    | (refine wpList_build_runG (by kernel_rfl) 22 2 #[(0, .const (.int .i64 1024)), (1, .const (.int .i64 64))] rfl #[(0, I 1024), (1, I 64)] rfl _ _ (two_ints _ 1024 64) ?_; go_frame))
  refine (VC.out _ _ _ HC3.out H8.out).mono ?_; rintro e w4 ⟨rfl, hb⟩
  have HC4 := Lib.hid (HC3.out.below hb)
  have HAt4 := Lib.hid (HAt3.out.below hb)
  have hB4 := hB3.trans (hb.mono hB3.size)
  clear hb hB3 HC3 HAt3 H8 HC HAt
  have c0 := (HAt4.out.cells (k := 0) rfl).1
  have c1 := (HAt4.out.cells (k := 0) rfl).2
  have c2 := (HAt4.out.cells (k := 1) rfl).1
  have c3 := (HAt4.out.cells (k := 1) rfl).2
  have c4 := (HAt4.out.cells (k := 2) rfl).1
  have c5 := (HAt4.out.cells (k := 2) rfl).2
  simp only [Nat.zero_mul, Nat.one_mul, Nat.add_zero, Nat.zero_add, Nat.reduceMul, Nat.reduceAdd] at c0 c1 c2 c3 c4 c5
  go_upto_region 4 with (fail)
  clear c0 c1 c2 c3 c4 c5
  refine san_r4 _ _ _ _ _ _ _ _ _ _ _ _ _ _ _ _ _ _ _ _ _ _ _ _ _ _ _ _ _ _ _ _ _ _ _ _ _ _ _ _ _ _ _ _ _ _ _ _ _ _ _ _ _ _ _ _ _ _ _ _ _ _ _ _ _ _ _ _ _ _ _ _ _ _ _ _ _ _ _ _ _ _ _ _ _ _ _ _ _ _ _ _ _ _ _ _ _ _ _ _ _ _ _ _ _ _ _ _ _ _ _ _ _ _ _ _ _ _ _ _ _ _ _ _ _ _ _ _ _ _ _ _ _ g _ w4 HAt4.out J _ ?_
  intro y52 y53 y54 y55 y56 y57 y58 y59 y60 y61 y62 w5 hb
  have HC5 := Lib.hid (HC4.out.below hb)
  have HAt5 := Lib.hid (HAt4.out.below hb)
  have hB5 := hB4.trans (hb.mono hB4.size)
  clear hb hB4 HC4 HAt4
  go_upto_region 5 with (fail)
  refine san_r5 _ _ _ _ _ _ _ _ _ _ _ _ _ _ _ _ _ _ _ _ _ _ _ _ _ _ _ _ _ _ _ _ _ _ _ _ _ _ _ _ _ _ _ _ _ _ _ _ _ _ _ _ _ _ _ _ _ _ _ _ _ _ _ _ _ _ _ _ _ _ _ _ _ _ _ _ _ _ _ _ _ _ _ _ _ _ _ _ _ _ _ _ _ _ _ _ _ _ _ _ _ _ _ _ _ _ _ _ _ _ _ _ _ _ _ _ _ _ _ _ _ _ _ _ _ _ _ _ _ _ _ _ _ g _ w5 HAt5.out HC5.out O1 _ ?_
  intro y63 y64 y65 y66 y67 y68 y69 y70 y71 y72 y73 y74 y75 y76 v7 w6 h7 hb
  have HC6 := Lib.hid (HC5.out.below hb)
  have HAt6 := Lib.hid (HAt5.out.below hb)
  have H7 := Lib.hid h7
  have hB6 := hB5.trans (hb.mono hB5.size)
  clear hb hB5 HC5 HAt5 h7
  go_upto_region 6 with (fail)
  refine san_r6 _ _ _ _ _ _ _ _ _ _ _ _ _ _ _ _ _ _ _ _ _ _ _ _ _ _ _ _ _ _ _ _ _ _ _ _ _ _ _ _ _ _ _ _ _ _ _ _ _ _ _ _ _ _ _ _ _ _ _ _ _ _ _ _ _ _ _ _ _ _ _ _ _ _ _ _ _ _ _ _ _ _ _ _ _ _ _ _ _ _ _ _ _ _ _ _ _ _ _ _ _ _ _ _ _ _ _ _ _ _ _ _ _ _ _ _ _ _ _ _ _ _ _ _ _ _ _ _ _ _ _ _ _ g _ w6 HAt6.out HC6.out O2 _ ?_
  intro y77 y78 y79 y80 y81 y82 y83 y84 y85 y86 y87 y88 y89 v10 w7 h10 hb
  have HC7 := Lib.hid (HC6.out.below hb)
  have HAt7 := Lib.hid (HAt6.out.below hb)
  have H77 := Lib.hid (H7.out.below hb)
  have hB7 := hB6.trans (hb.mono hB6.size)
  obtain ⟨a10, c10, rfl, _, _⟩ := h10
  clear hb hB6 HC6 HAt6 H7
  have hK := ‹∀ (a : Act) (w : World), Code.wp Try.prog _ _ a w → _›
  refine hK _ _ ?_
  exact san_t7 _ _ _ _ _ _ _ _ _ _ _ _ _ _ _ _ _ _ _ _ _ _ _ _ _ _ _ _ _ _ _ _ _ _ _ _ _ _ _ _ _ _ _ _ _ _ _ _ _ _ _ _ _ _ _ _ _ _ _ _ _ _ _ _ _ _ _ _ _ _ _ _ _ _ _ _ _ _ _ _ _ _ _ _ _ _ _ _ _ _ _ _ _ _ _ _ _ _ _ _ _ _ _ _ _ _ _ _ _ _ _ _ _ _ _ _ _ _ _ _ _ _ _ _ _ v7 a10 g _ c10 w w7 HAt7.out HC7.out H77.out hB7 VY VN VI

theorem sanity_any (w : World) : Calls Try.prog 11 #[] w fun e w' => e = .returned (.bool true) ∧ Below w.heap.size w w' := san_top w
end Go.Proofs.Ytdnabeldaighgaa
