/- Pairs of heads; three copies made in whatever order; the loops of TreeBent. Conditions: sizes. The comparison and the loops of TreeBent. Conditions: sizes. -/
import Derived.Test.YtjekdeikoebmgaaLCkA
import Derived.Test.YtjekdeikoebmgaaRefK
import Derived.Test.YtjekdeikoebmgaaLLgA
import Derived.OrdersHeld
namespace Go.Proofs.Ytjekdeikoebmgaa
open Go.RowKit Go.Shelf Tr

theorem infoPair : (Try.prog.info? 55).map (fun i => (i.size, i.bytes)) = some (66, 80) := by kernel_rfl
def zpair : Array Value := (hdrow 0 (List.replicate 32 0)) ++ (hdrow 0 (List.replicate 32 0))
theorem zeroPair : (Try.prog.info? 55).bind (·.zero) = some (.agg zpair) := by kernel_rfl
theorem sizePair : (Try.prog.info? 55).map (·.size) = some 66 := by kernel_rfl
theorem sizeHead : (Try.prog.info? 38).map (·.size) = some 33 := by kernel_rfl
/-- A pair of heads. -/
theorem built_pair (R1 R2 : Array Value) (h1 : R1.size = 33) (h2 : R2.size = 33) : Try.prog.built 55 [(0, .agg R1), (1, .agg R2)] = some (R1 ++ R2) := by
  obtain ⟨ip, hip, hz⟩ : ∃ i, Try.prog.info? 55 = some i ∧ i.zero = some (.agg zpair) := by
    have := zeroPair
    cases h : Try.prog.info? 55 with
    | none => rw [h] at this; cases this
    | some i => exact ⟨i, rfl, by rw [h] at this; simpa using this⟩
  obtain ⟨ih, hih, hsz⟩ : ∃ i, Try.prog.info? 38 = some i ∧ i.size = 33 := by
    have := sizeHead
    cases h : Try.prog.info? 38 with
    | none => rw [h] at this; cases this
    | some i => exact ⟨i, rfl, by rw [h] at this; simpa using this⟩
  have hzs : zpair.size = 66 := by kernel_rfl
  obtain ⟨out, o1, o2, o3⟩ := fill_rows 33 [R1, R2] 0 zpair (by intro R hR; simp at hR; rcases hR with rfl | rfl <;> assumption) (by rw [hzs]; simp)
  unfold Program.built
  rw [hip, Try.underlying55]
  simp only [hz, hih, Value.cells, hsz]
  have e : ([R1, R2].zipIdx 0).map (fun p => (p.2, Value.agg p.1)) = [(0, .agg R1), (1, .agg R2)] := rfl
  rw [e] at o1
  rw [o1]
  congr 1
  apply Array.ext_getElem?
  intro k
  rw [o3 k]
  by_cases hk : k < 66
  · rw [if_pos (by simp; omega)]
    simp
    rw [← Array.toList_append, Array.getElem?_toList]
  · rw [if_neg (by simp; omega), Array.getElem?_eq_none (by rw [hzs]; omega), Array.getElem?_eq_none (by simp; omega)]
/-- Heads that the checks take. -/
structure HdOk (z : Int) (r : List UInt8) : Prop where
  le : z ≤ 9223372036854775807
  len : r.length = 32
theorem HdOk.size {z : Int} {r : List UInt8} (h : HdOk z r) : (hdrow z r).size = 33 := hdrow_size z h.len
def prow (z : Int) (r : List UInt8) (z' : Int) (r' : List UInt8) : Array Value := hdrow z r ++ hdrow z' r'
theorem prow_size {z : Int} {r : List UInt8} {z' : Int} {r' : List UInt8} (h : HdOk z r) (h' : HdOk z' r') : (prow z r z' r').size = 66 := by unfold prow; simp [h.size, h'.size]
theorem prow_one (z : Int) (r : List UInt8) (z' : Int) (r' : List UInt8) : (prow z r z' r').all (·.oneCell') = true := by
  unfold prow
  rw [Array.all_append, hdrow_one, hdrow_one]; rfl
theorem wpList_build_pair {ops : Array Oper} {rest : List Oper} {o : Oper} {a : Act} {w : World} {Q : Exit → Act → World → Prop} (hw : Region.wanted o (yielded ops a.tmps) = true) (p0 p1 : Operand) (ho : o.op = .build 55 #[(0, p0), (1, p1)])
    (R1 R2 : Array Value) (s1 : R1.size = 33) (s2 : R2.size = 33) (h0 : a.eval p0 = .agg R1) (h1 : a.eval p1 = .agg R2) (h : wpList Try.prog ops Q rest (a.put o.dst (.agg (R1 ++ R2))) w) : wpList Try.prog ops Q (o :: rest) a w := by
  refine wpList_wanted hw fun K hK => ?_
  have hr := run_build w 55 #[(0, .agg R1), (1, .agg R2)] _ (built_pair R1 R2 s1 s2)
  have hp2 : ((#[(0, p0), (1, p1)] : Array (Nat × Operand)).map fun (i, x) => (i, a.eval x)) = #[(0, .agg R1), (1, .agg R2)] := by simp [h0, h1]
  unfold Oper.wp execOp
  simp only [ho, hp2, hr, Sem.run_bind, Result.andThen_ok]
  exact hK _ _ h
theorem infoPr : (Try.prog.info? 55).map (fun i => (i.zero, i.size, i.bytes)) = some (some (.agg zpair), 66, 80) := by kernel_rfl
/-- Seven pairs. -/
theorem seven_pairs (w : World) (R0 R1 R2 R3 R4 R5 R6 : Array Value) (h : ∀ R ∈ [R0, R1, R2, R3, R4, R5, R6], R.size = 66) : (Instr.buildSlice 56 7 #[(0, .agg R0), (1, .agg R1), (2, .agg R2), (3, .agg R3), (4, .agg R4), (5, .agg R5), (6, .agg R6)]).run Try.prog w = .ok (.slice (some ⟨w.heap.size, 0, none⟩) 7 7) (w.alloc (.cells ([R0, R1, R2, R3, R4, R5, R6].flatMap (·.toList)).toArray 55)) := by
  obtain ⟨i0, hi, hz0, hz1, _⟩ := info_parts infoPr
  exact run_buildRows w 56 55 7 66 [R0, R1, R2, R3, R4, R5, R6] i0 _ Try.underlying56 hi hz0 hz1 rfl h (by decide) (by decide) _ rfl
theorem flat_get (sz : Nat) : ∀ (Rs : List (Array Value)) (j : Nat) (R : Array Value), (∀ R ∈ Rs, R.size = sz) → Rs[j]? = some R → ∀ (i : Nat) (v : Value), R.toList[i]? = some v → (Rs.flatMap (·.toList))[j * sz + i]? = some v
  | [], j, R, _, h, _, _, _ => by simp at h
  | R0 :: Rs, 0, R, hs, h, i, v, hv => by
    simp at h
    subst h
    rw [List.flatMap_cons, List.getElem?_append_left (by have := (List.getElem?_eq_some_iff.1 hv).1; omega)]
    rw [Nat.zero_mul, Nat.zero_add]; exact hv
  | R0 :: Rs, j + 1, R, hs, h, i, v, hv => by
    have h0 := hs R0 (by simp)
    rw [List.flatMap_cons, List.getElem?_append_right (by rw [Array.length_toList, h0, Nat.add_mul]; omega), Array.length_toList, h0]
    rw [show (j + 1) * sz + i - sz = j * sz + i by rw [Nat.add_mul]; omega]
    exact flat_get sz Rs j R (fun R hR => hs R (by simp [hR])) (by simpa using h) i v hv
theorem After.part {w : World} {g o : Nat} {n : Int} {y : List UInt8} (h : w.rangeAt g o (hdrow n y).toList) (hy : y.length = 32) : ∀ x : After w, (loadVar 38 ⟨g, o, none⟩).run Try.prog x.W = .ok (.agg (hdrow n y)) x.W := fun x =>
  run_loadVar_mid x.W g o 38 (hdrow n y).toList _ (fun j v hv => keepCells x.hb _ _ (h j v hv)) Try.underlying38 rfl (by rw [Array.length_toList]; exact hinfoD n y hy)
theorem hd_byte (n : Int) (x : List UInt8) (j : Nat) (b : UInt8) : (hdrow n x).setIfInBounds (1 + j) (Y b) = hdrow n (x.set j b) := by
  unfold hdrow
  rw [List.setIfInBounds_toArray, Nat.add_comm, List.set_cons_succ, List.map_set]
set_option maxRecDepth 100000 in
set_option maxHeartbeats 4000000 in
theorem bn_r6 (u0 u1 u2 u3 u4 u5 u6 u8 u9 u10 u11 u14 u15 u16 u17 u18 u19 u20 u21 u22 u23 u24 u25 u26 u27 u28 u29 u30 u31 u32 u33 u34 u35 u36 u37 u38 u39 u40 u41 u42 u43 u44 u45 u46 u47 u48 u49 u50 u51 u52 u53 u54 u55 u56 u57 u58 u59 u60 u61 u62 u63 u64 u65 u66 u67 u68 u69 u70 u71 u72 u73 u74 u75 u76 u77 u78 u79 u80 u81 u82 u83 u84 u85 u86 u87 u88 u89 u90 u91 u92 u93 u94 u95 u96 u97 u98 u99 u100 u101 u102 u103 u104 u105 u106 u107 u108 u109 u110 u111 u112 u113 u114 u115 u116 u117 u118 u119 u120 u121 u122 u123 u124 : Value) (z1 z2 : Int) (r1 r2 : List UInt8) (b12 b13 : Nat) (w : World) (o1 : r1.length = 32) (o2 : r2.length = 32) (N12 : Blk w b12 (hdrow z1 r1) 38) (N13 : Blk w b13 (hdrow z2 r2) 38) (Q : Exit → Act → World → Prop)
    (h : ∀ (y42 y43 y44 : Value) (b14 b15 b16 : Nat) (w' : World), b14 ≠ b15 → b14 ≠ b16 → b15 ≠ b16 → w.heap.size ≤ b14 → w.heap.size ≤ b15 → w.heap.size ≤ b16 → Blk w' b14 (hdrow z1 r1) 38 → Blk w' b15 (hdrow z2 r2) 38 → Blk w' b16 (hdrow z1 r1) 38 → Below w.heap.size w w' → Q .normal ⟨(u0 :: u1 :: u2 :: u3 :: u4 :: u5 :: u6 :: (.bool true) :: u8 :: u9 :: u10 :: u11 :: (.pointer (some ⟨b12, 0, none⟩)) :: (.pointer (some ⟨b13, 0, none⟩)) :: (.pointer (some ⟨b14, 0, none⟩)) :: (.pointer (some ⟨b15, 0, none⟩)) :: (.pointer (some ⟨b16, 0, none⟩)) :: u17 :: u18 :: u19 :: u20 :: u21 :: u22 :: u23 :: u24 :: u25 :: u26 :: u27 :: u28 :: u29 :: u30 :: u31 :: u32 :: u33 :: u34 :: u35 :: u36 :: u37 :: u38 :: u39 :: u40 :: u41 :: y42 :: y43 :: y44 :: u45 :: u46 :: u47 :: u48 :: u49 :: u50 :: u51 :: u52 :: u53 :: u54 :: u55 :: u56 :: u57 :: u58 :: u59 :: u60 :: u61 :: u62 :: u63 :: u64 :: u65 :: u66 :: u67 :: u68 :: u69 :: u70 :: u71 :: u72 :: u73 :: u74 :: u75 :: u76 :: u77 :: u78 :: u79 :: u80 :: u81 :: u82 :: u83 :: u84 :: u85 :: u86 :: u87 :: u88 :: u89 :: u90 :: u91 :: u92 :: u93 :: u94 :: u95 :: u96 :: u97 :: u98 :: u99 :: u100 :: u101 :: u102 :: u103 :: u104 :: u105 :: u106 :: u107 :: u108 :: u109 :: u110 :: u111 :: u112 :: u113 :: u114 :: u115 :: u116 :: u117 :: u118 :: u119 :: u120 :: u121 :: u122 :: u123 :: u124 :: []).toArray, []⟩ w') : Code.wp Try.prog (regionIn Try.f8 6) Q ⟨(u0 :: u1 :: u2 :: u3 :: u4 :: u5 :: u6 :: (.bool true) :: u8 :: u9 :: u10 :: u11 :: (.pointer (some ⟨b12, 0, none⟩)) :: (.pointer (some ⟨b13, 0, none⟩)) :: u14 :: u15 :: u16 :: u17 :: u18 :: u19 :: u20 :: u21 :: u22 :: u23 :: u24 :: u25 :: u26 :: u27 :: u28 :: u29 :: u30 :: u31 :: u32 :: u33 :: u34 :: u35 :: u36 :: u37 :: u38 :: u39 :: u40 :: u41 :: u42 :: u43 :: u44 :: u45 :: u46 :: u47 :: u48 :: u49 :: u50 :: u51 :: u52 :: u53 :: u54 :: u55 :: u56 :: u57 :: u58 :: u59 :: u60 :: u61 :: u62 :: u63 :: u64 :: u65 :: u66 :: u67 :: u68 :: u69 :: u70 :: u71 :: u72 :: u73 :: u74 :: u75 :: u76 :: u77 :: u78 :: u79 :: u80 :: u81 :: u82 :: u83 :: u84 :: u85 :: u86 :: u87 :: u88 :: u89 :: u90 :: u91 :: u92 :: u93 :: u94 :: u95 :: u96 :: u97 :: u98 :: u99 :: u100 :: u101 :: u102 :: u103 :: u104 :: u105 :: u106 :: u107 :: u108 :: u109 :: u110 :: u111 :: u112 :: u113 :: u114 :: u115 :: u116 :: u117 :: u118 :: u119 :: u120 :: u121 :: u122 :: u123 :: u124 :: []).toArray, []⟩ w := by
  have HX := Lib.hid h
  have l12 := N12.lt
  have l13 := N13.lt
  have HS : Blk { w with drawn := w.drawn + 1 } b12 (hdrow z1 r1) 38 ∧ Blk { w with drawn := w.drawn + 1 } b13 (hdrow z2 r2) 38 := ⟨N12, N13⟩
  have hb0 : Below w.heap.size w { w with drawn := w.drawn + 1 } := (Below.refl _ _).drew
  have hsz : ({ w with drawn := w.drawn + 1 } : World).heap.size = w.heap.size := rfl
  clear h N12 N13
  conv => arg 2; whnf
  refine wp_region_noPanic ?_
  refine wp_region_held (S := fun w => Blk w b12 (hdrow z1 r1) 38 ∧ Blk w b13 (hdrow z2 r2) 38) (by kernel_rfl) ?_
  generalize ({ w with drawn := w.drawn + 1 } : World) = w0 at *
  refine takeHd 8 0 (.agg (hdrow z1 r1)) rfl (by kernel_rfl) (by kernel_rfl) (by kernel_rfl) (fun _ _ _ h => h) (yieldsIf_load rfl 38 (.tmp 12) ⟨b12, 0, none⟩ rfl rfl (fun w h => run_loadVar_row w b12 _ _ (hdrow _ _) (0, 0) _ h.1 Try.underlying38 rfl (hinfoD _ _ (by assumption)))) HS ?_
  simp only [Act.put, List.setIfInBounds_toArray, List.set_cons_zero, List.set_cons_succ]
  refine takeHd 7 1 (.agg (hdrow z2 r2)) rfl (by kernel_rfl) (by kernel_rfl) (by kernel_rfl) (fun _ _ _ h => h) (yieldsIf_load rfl 38 (.tmp 13) ⟨b13, 0, none⟩ rfl rfl (fun w h => run_loadVar_row w b13 _ _ (hdrow _ _) (0, 0) _ h.2 Try.underlying38 rfl (hinfoD _ _ (by assumption)))) HS ?_
  simp only [Act.put, List.setIfInBounds_toArray, List.set_cons_zero, List.set_cons_succ]
  refine takeHd 6 2 (.agg (hdrow z1 r1)) rfl (by kernel_rfl) (by kernel_rfl) (by kernel_rfl) (fun _ _ _ h => h) (yieldsIf_load rfl 38 (.tmp 12) ⟨b12, 0, none⟩ rfl rfl (fun w h => run_loadVar_row w b12 _ _ (hdrow _ _) (0, 0) _ h.1 Try.underlying38 rfl (hinfoD _ _ (by assumption)))) HS ?_
  simp only [Act.put, List.setIfInBounds_toArray, List.set_cons_zero, List.set_cons_succ]
  refine wpAnyH_all (rs := [3, 4, 5]) (by kernel_rfl) (by simp) ?_
  intro i hi
  rcases List.mem_cons.1 hi with rfl | hi
  · skip
    refine allocL rfl rfl 38 rfl _ zeroHead ?_
    simp only [Act.put, List.setIfInBounds_toArray, List.set_cons_zero, List.set_cons_succ]
    refine ⟨And.intro (HS.1.alloc _) (HS.2.alloc _), ?_⟩
    refine wpAnyH_all (rs := [4, 5]) (by kernel_rfl) (by simp) ?_
    intro i hi
    rcases List.mem_cons.1 hi with rfl | hi
    · skip
      refine allocL rfl rfl 38 rfl _ zeroHead ?_
      simp only [Act.put, List.setIfInBounds_toArray, List.set_cons_zero, List.set_cons_succ]
      refine ⟨And.intro ((HS.1.alloc _).alloc _) ((HS.2.alloc _).alloc _), ?_⟩
      refine wpAnyH_all (rs := [5]) (by kernel_rfl) (by simp) ?_
      intro i hi
      obtain rfl := List.mem_singleton.1 hi
      refine allocL rfl rfl 38 rfl _ zeroHead ?_
      simp only [Act.put, List.setIfInBounds_toArray, List.set_cons_zero, List.set_cons_succ]
      have A0 := ((Blk.new w0 (hdrow 0 (List.replicate 32 0)) 38).alloc (.cells (hdrow 0 (List.replicate 32 0)) 38)).alloc (.cells (hdrow 0 (List.replicate 32 0)) 38)
      have A1 := (Blk.new (w0.alloc (.cells (hdrow 0 (List.replicate 32 0)) 38)) (hdrow 0 (List.replicate 32 0)) 38).alloc (.cells (hdrow 0 (List.replicate 32 0)) 38)
      have A2 := Blk.new ((w0.alloc (.cells (hdrow 0 (List.replicate 32 0)) 38)).alloc (.cells (hdrow 0 (List.replicate 32 0)) 38)) (hdrow 0 (List.replicate 32 0)) 38
      simp only [World.size_alloc, Nat.add_assoc, Nat.reduceAdd] at A0 A1 A2
      simp only [World.size_alloc, Nat.add_assoc, Nat.reduceAdd]
      have hb := ((hb0.alloc hb0.size (.cells (hdrow 0 (List.replicate 32 0)) 38)).alloc (by rw [World.size_alloc]; have := hb0.size; omega) (.cells (hdrow 0 (List.replicate 32 0)) 38)).alloc (by rw [World.size_alloc, World.size_alloc]; have := hb0.size; omega) (.cells (hdrow 0 (List.replicate 32 0)) 38)
      have HS2 := And.intro (((HS.1.alloc (.cells (hdrow 0 (List.replicate 32 0)) 38)).alloc (.cells (hdrow 0 (List.replicate 32 0)) 38)).alloc (.cells (hdrow 0 (List.replicate 32 0)) 38)) (((HS.2.alloc (.cells (hdrow 0 (List.replicate 32 0)) 38)).alloc (.cells (hdrow 0 (List.replicate 32 0)) 38)).alloc (.cells (hdrow 0 (List.replicate 32 0)) 38))
      generalize ((w0.alloc (.cells (hdrow 0 (List.replicate 32 0)) 38)).alloc (.cells (hdrow 0 (List.replicate 32 0)) 38)).alloc (.cells (hdrow 0 (List.replicate 32 0)) 38) = w1 at *
      refine ⟨HS2, ?_⟩
      refine wpAnyH_all (rs := [6]) (by kernel_rfl) (by simp) ?_
      intro i hi
      obtain rfl := List.mem_singleton.1 hi
      refine storeHdL rfl rfl (.tmp 14) (.tmp 42) rfl w0.heap.size z1 r1 o1 rfl rfl _ A0 (hdrow_size _ rfl) ?_
      simp only [Act.put]
      have B0_14 := A0.row (hdrow z1 r1)
      have B0_15 := A1.rowOther (hdrow z1 r1) (show (w0.heap.size + 1) ≠ w0.heap.size by omega)
      have B0_16 := A2.rowOther (hdrow z1 r1) (show (w0.heap.size + 2) ≠ w0.heap.size by omega)
      have H0 := And.intro (HS2.1.rowOther (hdrow z1 r1) (show b12 ≠ w0.heap.size by omega)) (HS2.2.rowOther (hdrow z1 r1) (show b13 ≠ w0.heap.size by omega))
      have hb := Below.setRow hb (show w.heap.size ≤ w0.heap.size by omega) (hdrow z1 r1)
      refine ⟨H0, ?_⟩
      refine wpAnyH_all (rs := [7]) (by kernel_rfl) (by simp) ?_
      intro i hi
      obtain rfl := List.mem_singleton.1 hi
      refine storeHdL rfl rfl (.tmp 15) (.tmp 43) rfl (w0.heap.size + 1) z2 r2 o2 rfl rfl _ B0_15 (hdrow_size _ rfl) ?_
      simp only [Act.put]
      have B1_14 := B0_14.rowOther (hdrow z2 r2) (show w0.heap.size ≠ (w0.heap.size + 1) by omega)
      have B1_15 := B0_15.row (hdrow z2 r2)
      have B1_16 := B0_16.rowOther (hdrow z2 r2) (show (w0.heap.size + 2) ≠ (w0.heap.size + 1) by omega)
      have H1 := And.intro (H0.1.rowOther (hdrow z2 r2) (show b12 ≠ (w0.heap.size + 1) by omega)) (H0.2.rowOther (hdrow z2 r2) (show b13 ≠ (w0.heap.size + 1) by omega))
      have hb := Below.setRow hb (show w.heap.size ≤ (w0.heap.size + 1) by omega) (hdrow z2 r2)
      refine ⟨H1, ?_⟩
      refine wpAnyH_all (rs := [8]) (by kernel_rfl) (by simp) ?_
      intro i hi
      obtain rfl := List.mem_singleton.1 hi
      refine storeHdL rfl rfl (.tmp 16) (.tmp 44) rfl (w0.heap.size + 2) z1 r1 o1 rfl rfl _ B1_16 (hdrow_size _ rfl) ?_
      simp only [Act.put]
      have B2_14 := B1_14.rowOther (hdrow z1 r1) (show w0.heap.size ≠ (w0.heap.size + 2) by omega)
      have B2_15 := B1_15.rowOther (hdrow z1 r1) (show (w0.heap.size + 1) ≠ (w0.heap.size + 2) by omega)
      have B2_16 := B1_16.row (hdrow z1 r1)
      have H2 := And.intro (H1.1.rowOther (hdrow z1 r1) (show b12 ≠ (w0.heap.size + 2) by omega)) (H1.2.rowOther (hdrow z1 r1) (show b13 ≠ (w0.heap.size + 2) by omega))
      have hb := Below.setRow hb (show w.heap.size ≤ (w0.heap.size + 2) by omega) (hdrow z1 r1)
      refine ⟨H2, ?_⟩
      refine wpAnyH_done (by kernel_rfl) ?_ 0
      exact HX.out _ _ _ w0.heap.size (w0.heap.size + 1) (w0.heap.size + 2) _ (by omega) (by omega) (by omega) (by omega) (by omega) (by omega) B2_14 B2_15 B2_16 hb
    · skip
      obtain rfl := List.mem_singleton.1 hi
      refine allocL rfl rfl 38 rfl _ zeroHead ?_
      simp only [Act.put, List.setIfInBounds_toArray, List.set_cons_zero, List.set_cons_succ]
      refine ⟨And.intro ((HS.1.alloc _).alloc _) ((HS.2.alloc _).alloc _), ?_⟩
      refine wpAnyH_all (rs := [4]) (by kernel_rfl) (by simp) ?_
      intro i hi
      obtain rfl := List.mem_singleton.1 hi
      refine allocL rfl rfl 38 rfl _ zeroHead ?_
      simp only [Act.put, List.setIfInBounds_toArray, List.set_cons_zero, List.set_cons_succ]
      have A0 := ((Blk.new w0 (hdrow 0 (List.replicate 32 0)) 38).alloc (.cells (hdrow 0 (List.replicate 32 0)) 38)).alloc (.cells (hdrow 0 (List.replicate 32 0)) 38)
      have A1 := (Blk.new (w0.alloc (.cells (hdrow 0 (List.replicate 32 0)) 38)) (hdrow 0 (List.replicate 32 0)) 38).alloc (.cells (hdrow 0 (List.replicate 32 0)) 38)
      have A2 := Blk.new ((w0.alloc (.cells (hdrow 0 (List.replicate 32 0)) 38)).alloc (.cells (hdrow 0 (List.replicate 32 0)) 38)) (hdrow 0 (List.replicate 32 0)) 38
      simp only [World.size_alloc, Nat.add_assoc, Nat.reduceAdd] at A0 A1 A2
      simp only [World.size_alloc, Nat.add_assoc, Nat.reduceAdd]
      have hb := ((hb0.alloc hb0.size (.cells (hdrow 0 (List.replicate 32 0)) 38)).alloc (by rw [World.size_alloc]; have := hb0.size; omega) (.cells (hdrow 0 (List.replicate 32 0)) 38)).alloc (by rw [World.size_alloc, World.size_alloc]; have := hb0.size; omega) (.cells (hdrow 0 (List.replicate 32 0)) 38)
      have HS2 := And.intro (((HS.1.alloc (.cells (hdrow 0 (List.replicate 32 0)) 38)).alloc (.cells (hdrow 0 (List.replicate 32 0)) 38)).alloc (.cells (hdrow 0 (List.replicate 32 0)) 38)) (((HS.2.alloc (.cells (hdrow 0 (List.replicate 32 0)) 38)).alloc (.cells (hdrow 0 (List.replicate 32 0)) 38)).alloc (.cells (hdrow 0 (List.replicate 32 0)) 38))
      generalize ((w0.alloc (.cells (hdrow 0 (List.replicate 32 0)) 38)).alloc (.cells (hdrow 0 (List.replicate 32 0)) 38)).alloc (.cells (hdrow 0 (List.replicate 32 0)) 38) = w1 at *
      refine ⟨HS2, ?_⟩
      refine wpAnyH_all (rs := [6]) (by kernel_rfl) (by simp) ?_
      intro i hi
      obtain rfl := List.mem_singleton.1 hi
      refine storeHdL rfl rfl (.tmp 14) (.tmp 42) rfl w0.heap.size z1 r1 o1 rfl rfl _ A0 (hdrow_size _ rfl) ?_
      simp only [Act.put]
      have B0_14 := A0.row (hdrow z1 r1)
      have B0_15 := A2.rowOther (hdrow z1 r1) (show (w0.heap.size + 2) ≠ w0.heap.size by omega)
      have B0_16 := A1.rowOther (hdrow z1 r1) (show (w0.heap.size + 1) ≠ w0.heap.size by omega)
      have H0 := And.intro (HS2.1.rowOther (hdrow z1 r1) (show b12 ≠ w0.heap.size by omega)) (HS2.2.rowOther (hdrow z1 r1) (show b13 ≠ w0.heap.size by omega))
      have hb := Below.setRow hb (show w.heap.size ≤ w0.heap.size by omega) (hdrow z1 r1)
      refine ⟨H0, ?_⟩
      refine wpAnyH_all (rs := [7]) (by kernel_rfl) (by simp) ?_
      intro i hi
      obtain rfl := List.mem_singleton.1 hi
      refine storeHdL rfl rfl (.tmp 15) (.tmp 43) rfl (w0.heap.size + 2) z2 r2 o2 rfl rfl _ B0_15 (hdrow_size _ rfl) ?_
      simp only [Act.put]
      have B1_14 := B0_14.rowOther (hdrow z2 r2) (show w0.heap.size ≠ (w0.heap.size + 2) by omega)
      have B1_15 := B0_15.row (hdrow z2 r2)
      have B1_16 := B0_16.rowOther (hdrow z2 r2) (show (w0.heap.size + 1) ≠ (w0.heap.size + 2) by omega)
      have H1 := And.intro (H0.1.rowOther (hdrow z2 r2) (show b12 ≠ (w0.heap.size + 2) by omega)) (H0.2.rowOther (hdrow z2 r2) (show b13 ≠ (w0.heap.size + 2) by omega))
      have hb := Below.setRow hb (show w.heap.size ≤ (w0.heap.size + 2) by omega) (hdrow z2 r2)
      refine ⟨H1, ?_⟩
      refine wpAnyH_all (rs := [8]) (by kernel_rfl) (by simp) ?_
      intro i hi
      obtain rfl := List.mem_singleton.1 hi
      refine storeHdL rfl rfl (.tmp 16) (.tmp 44) rfl (w0.heap.size + 1) z1 r1 o1 rfl rfl _ B1_16 (hdrow_size _ rfl) ?_
      simp only [Act.put]
      have B2_14 := B1_14.rowOther (hdrow z1 r1) (show w0.heap.size ≠ (w0.heap.size + 1) by omega)
      have B2_15 := B1_15.rowOther (hdrow z1 r1) (show (w0.heap.size + 2) ≠ (w0.heap.size + 1) by omega)
      have B2_16 := B1_16.row (hdrow z1 r1)
      have H2 := And.intro (H1.1.rowOther (hdrow z1 r1) (show b12 ≠ (w0.heap.size + 1) by omega)) (H1.2.rowOther (hdrow z1 r1) (show b13 ≠ (w0.heap.size + 1) by omega))
      have hb := Below.setRow hb (show w.heap.size ≤ (w0.heap.size + 1) by omega) (hdrow z1 r1)
      refine ⟨H2, ?_⟩
      refine wpAnyH_done (by kernel_rfl) ?_ 0
      exact HX.out _ _ _ w0.heap.size (w0.heap.size + 2) (w0.heap.size + 1) _ (by omega) (by omega) (by omega) (by omega) (by omega) (by omega) B2_14 B2_15 B2_16 hb
  · skip
    rcases List.mem_cons.1 hi with rfl | hi
    · skip
      refine allocL rfl rfl 38 rfl _ zeroHead ?_
      simp only [Act.put, List.setIfInBounds_toArray, List.set_cons_zero, List.set_cons_succ]
      refine ⟨And.intro (HS.1.alloc _) (HS.2.alloc _), ?_⟩
      refine wpAnyH_all (rs := [3, 5]) (by kernel_rfl) (by simp) ?_
      intro i hi
      rcases List.mem_cons.1 hi with rfl | hi
      · skip
        refine allocL rfl rfl 38 rfl _ zeroHead ?_
        simp only [Act.put, List.setIfInBounds_toArray, List.set_cons_zero, List.set_cons_succ]
        refine ⟨And.intro ((HS.1.alloc _).alloc _) ((HS.2.alloc _).alloc _), ?_⟩
        refine wpAnyH_all (rs := [5]) (by kernel_rfl) (by simp) ?_
        intro i hi
        obtain rfl := List.mem_singleton.1 hi
        refine allocL rfl rfl 38 rfl _ zeroHead ?_
        simp only [Act.put, List.setIfInBounds_toArray, List.set_cons_zero, List.set_cons_succ]
        have A0 := ((Blk.new w0 (hdrow 0 (List.replicate 32 0)) 38).alloc (.cells (hdrow 0 (List.replicate 32 0)) 38)).alloc (.cells (hdrow 0 (List.replicate 32 0)) 38)
        have A1 := (Blk.new (w0.alloc (.cells (hdrow 0 (List.replicate 32 0)) 38)) (hdrow 0 (List.replicate 32 0)) 38).alloc (.cells (hdrow 0 (List.replicate 32 0)) 38)
        have A2 := Blk.new ((w0.alloc (.cells (hdrow 0 (List.replicate 32 0)) 38)).alloc (.cells (hdrow 0 (List.replicate 32 0)) 38)) (hdrow 0 (List.replicate 32 0)) 38
        simp only [World.size_alloc, Nat.add_assoc, Nat.reduceAdd] at A0 A1 A2
        simp only [World.size_alloc, Nat.add_assoc, Nat.reduceAdd]
        have hb := ((hb0.alloc hb0.size (.cells (hdrow 0 (List.replicate 32 0)) 38)).alloc (by rw [World.size_alloc]; have := hb0.size; omega) (.cells (hdrow 0 (List.replicate 32 0)) 38)).alloc (by rw [World.size_alloc, World.size_alloc]; have := hb0.size; omega) (.cells (hdrow 0 (List.replicate 32 0)) 38)
        have HS2 := And.intro (((HS.1.alloc (.cells (hdrow 0 (List.replicate 32 0)) 38)).alloc (.cells (hdrow 0 (List.replicate 32 0)) 38)).alloc (.cells (hdrow 0 (List.replicate 32 0)) 38)) (((HS.2.alloc (.cells (hdrow 0 (List.replicate 32 0)) 38)).alloc (.cells (hdrow 0 (List.replicate 32 0)) 38)).alloc (.cells (hdrow 0 (List.replicate 32 0)) 38))
        generalize ((w0.alloc (.cells (hdrow 0 (List.replicate 32 0)) 38)).alloc (.cells (hdrow 0 (List.replicate 32 0)) 38)).alloc (.cells (hdrow 0 (List.replicate 32 0)) 38) = w1 at *
        refine ⟨HS2, ?_⟩
        refine wpAnyH_all (rs := [6]) (by kernel_rfl) (by simp) ?_
        intro i hi
        obtain rfl := List.mem_singleton.1 hi
        refine storeHdL rfl rfl (.tmp 14) (.tmp 42) rfl (w0.heap.size + 1) z1 r1 o1 rfl rfl _ A1 (hdrow_size _ rfl) ?_
        simp only [Act.put]
        have B0_14 := A1.row (hdrow z1 r1)
        have B0_15 := A0.rowOther (hdrow z1 r1) (show w0.heap.size ≠ (w0.heap.size + 1) by omega)
        have B0_16 := A2.rowOther (hdrow z1 r1) (show (w0.heap.size + 2) ≠ (w0.heap.size + 1) by omega)
        have H0 := And.intro (HS2.1.rowOther (hdrow z1 r1) (show b12 ≠ (w0.heap.size + 1) by omega)) (HS2.2.rowOther (hdrow z1 r1) (show b13 ≠ (w0.heap.size + 1) by omega))
        have hb := Below.setRow hb (show w.heap.size ≤ (w0.heap.size + 1) by omega) (hdrow z1 r1)
        refine ⟨H0, ?_⟩
        refine wpAnyH_all (rs := [7]) (by kernel_rfl) (by simp) ?_
        intro i hi
        obtain rfl := List.mem_singleton.1 hi
        refine storeHdL rfl rfl (.tmp 15) (.tmp 43) rfl w0.heap.size z2 r2 o2 rfl rfl _ B0_15 (hdrow_size _ rfl) ?_
        simp only [Act.put]
        have B1_14 := B0_14.rowOther (hdrow z2 r2) (show (w0.heap.size + 1) ≠ w0.heap.size by omega)
        have B1_15 := B0_15.row (hdrow z2 r2)
        have B1_16 := B0_16.rowOther (hdrow z2 r2) (show (w0.heap.size + 2) ≠ w0.heap.size by omega)
        have H1 := And.intro (H0.1.rowOther (hdrow z2 r2) (show b12 ≠ w0.heap.size by omega)) (H0.2.rowOther (hdrow z2 r2) (show b13 ≠ w0.heap.size by omega))
        have hb := Below.setRow hb (show w.heap.size ≤ w0.heap.size by omega) (hdrow z2 r2)
        refine ⟨H1, ?_⟩
        refine wpAnyH_all (rs := [8]) (by kernel_rfl) (by simp) ?_
        intro i hi
        obtain rfl := List.mem_singleton.1 hi
        refine storeHdL rfl rfl (.tmp 16) (.tmp 44) rfl (w0.heap.size + 2) z1 r1 o1 rfl rfl _ B1_16 (hdrow_size _ rfl) ?_
        simp only [Act.put]
        have B2_14 := B1_14.rowOther (hdrow z1 r1) (show (w0.heap.size + 1) ≠ (w0.heap.size + 2) by omega)
        have B2_15 := B1_15.rowOther (hdrow z1 r1) (show w0.heap.size ≠ (w0.heap.size + 2) by omega)
        have B2_16 := B1_16.row (hdrow z1 r1)
        have H2 := And.intro (H1.1.rowOther (hdrow z1 r1) (show b12 ≠ (w0.heap.size + 2) by omega)) (H1.2.rowOther (hdrow z1 r1) (show b13 ≠ (w0.heap.size + 2) by omega))
        have hb := Below.setRow hb (show w.heap.size ≤ (w0.heap.size + 2) by omega) (hdrow z1 r1)
        refine ⟨H2, ?_⟩
        refine wpAnyH_done (by kernel_rfl) ?_ 0
        exact HX.out _ _ _ (w0.heap.size + 1) w0.heap.size (w0.heap.size + 2) _ (by omega) (by omega) (by omega) (by omega) (by omega) (by omega) B2_14 B2_15 B2_16 hb
      · skip
        obtain rfl := List.mem_singleton.1 hi
        refine allocL rfl rfl 38 rfl _ zeroHead ?_
        simp only [Act.put, List.setIfInBounds_toArray, List.set_cons_zero, List.set_cons_succ]
        refine ⟨And.intro ((HS.1.alloc _).alloc _) ((HS.2.alloc _).alloc _), ?_⟩
        refine wpAnyH_all (rs := [3]) (by kernel_rfl) (by simp) ?_
        intro i hi
        obtain rfl := List.mem_singleton.1 hi
        refine allocL rfl rfl 38 rfl _ zeroHead ?_
        simp only [Act.put, List.setIfInBounds_toArray, List.set_cons_zero, List.set_cons_succ]
        have A0 := ((Blk.new w0 (hdrow 0 (List.replicate 32 0)) 38).alloc (.cells (hdrow 0 (List.replicate 32 0)) 38)).alloc (.cells (hdrow 0 (List.replicate 32 0)) 38)
        have A1 := (Blk.new (w0.alloc (.cells (hdrow 0 (List.replicate 32 0)) 38)) (hdrow 0 (List.replicate 32 0)) 38).alloc (.cells (hdrow 0 (List.replicate 32 0)) 38)
        have A2 := Blk.new ((w0.alloc (.cells (hdrow 0 (List.replicate 32 0)) 38)).alloc (.cells (hdrow 0 (List.replicate 32 0)) 38)) (hdrow 0 (List.replicate 32 0)) 38
        simp only [World.size_alloc, Nat.add_assoc, Nat.reduceAdd] at A0 A1 A2
        simp only [World.size_alloc, Nat.add_assoc, Nat.reduceAdd]
        have hb := ((hb0.alloc hb0.size (.cells (hdrow 0 (List.replicate 32 0)) 38)).alloc (by rw [World.size_alloc]; have := hb0.size; omega) (.cells (hdrow 0 (List.replicate 32 0)) 38)).alloc (by rw [World.size_alloc, World.size_alloc]; have := hb0.size; omega) (.cells (hdrow 0 (List.replicate 32 0)) 38)
        have HS2 := And.intro (((HS.1.alloc (.cells (hdrow 0 (List.replicate 32 0)) 38)).alloc (.cells (hdrow 0 (List.replicate 32 0)) 38)).alloc (.cells (hdrow 0 (List.replicate 32 0)) 38)) (((HS.2.alloc (.cells (hdrow 0 (List.replicate 32 0)) 38)).alloc (.cells (hdrow 0 (List.replicate 32 0)) 38)).alloc (.cells (hdrow 0 (List.replicate 32 0)) 38))
        generalize ((w0.alloc (.cells (hdrow 0 (List.replicate 32 0)) 38)).alloc (.cells (hdrow 0 (List.replicate 32 0)) 38)).alloc (.cells (hdrow 0 (List.replicate 32 0)) 38) = w1 at *
        refine ⟨HS2, ?_⟩
        refine wpAnyH_all (rs := [6]) (by kernel_rfl) (by simp) ?_
        intro i hi
        obtain rfl := List.mem_singleton.1 hi
        refine storeHdL rfl rfl (.tmp 14) (.tmp 42) rfl (w0.heap.size + 2) z1 r1 o1 rfl rfl _ A2 (hdrow_size _ rfl) ?_
        simp only [Act.put]
        have B0_14 := A2.row (hdrow z1 r1)
        have B0_15 := A0.rowOther (hdrow z1 r1) (show w0.heap.size ≠ (w0.heap.size + 2) by omega)
        have B0_16 := A1.rowOther (hdrow z1 r1) (show (w0.heap.size + 1) ≠ (w0.heap.size + 2) by omega)
        have H0 := And.intro (HS2.1.rowOther (hdrow z1 r1) (show b12 ≠ (w0.heap.size + 2) by omega)) (HS2.2.rowOther (hdrow z1 r1) (show b13 ≠ (w0.heap.size + 2) by omega))
        have hb := Below.setRow hb (show w.heap.size ≤ (w0.heap.size + 2) by omega) (hdrow z1 r1)
        refine ⟨H0, ?_⟩
        refine wpAnyH_all (rs := [7]) (by kernel_rfl) (by simp) ?_
        intro i hi
        obtain rfl := List.mem_singleton.1 hi
        refine storeHdL rfl rfl (.tmp 15) (.tmp 43) rfl w0.heap.size z2 r2 o2 rfl rfl _ B0_15 (hdrow_size _ rfl) ?_
        simp only [Act.put]
        have B1_14 := B0_14.rowOther (hdrow z2 r2) (show (w0.heap.size + 2) ≠ w0.heap.size by omega)
        have B1_15 := B0_15.row (hdrow z2 r2)
        have B1_16 := B0_16.rowOther (hdrow z2 r2) (show (w0.heap.size + 1) ≠ w0.heap.size by omega)
        have H1 := And.intro (H0.1.rowOther (hdrow z2 r2) (show b12 ≠ w0.heap.size by omega)) (H0.2.rowOther (hdrow z2 r2) (show b13 ≠ w0.heap.size by omega))
        have hb := Below.setRow hb (show w.heap.size ≤ w0.heap.size by omega) (hdrow z2 r2)
        refine ⟨H1, ?_⟩
        refine wpAnyH_all (rs := [8]) (by kernel_rfl) (by simp) ?_
        intro i hi
        obtain rfl := List.mem_singleton.1 hi
        refine storeHdL rfl rfl (.tmp 16) (.tmp 44) rfl (w0.heap.size + 1) z1 r1 o1 rfl rfl _ B1_16 (hdrow_size _ rfl) ?_
        simp only [Act.put]
        have B2_14 := B1_14.rowOther (hdrow z1 r1) (show (w0.heap.size + 2) ≠ (w0.heap.size + 1) by omega)
        have B2_15 := B1_15.rowOther (hdrow z1 r1) (show w0.heap.size ≠ (w0.heap.size + 1) by omega)
        have B2_16 := B1_16.row (hdrow z1 r1)
        have H2 := And.intro (H1.1.rowOther (hdrow z1 r1) (show b12 ≠ (w0.heap.size + 1) by omega)) (H1.2.rowOther (hdrow z1 r1) (show b13 ≠ (w0.heap.size + 1) by omega))
        have hb := Below.setRow hb (show w.heap.size ≤ (w0.heap.size + 1) by omega) (hdrow z1 r1)
        refine ⟨H2, ?_⟩
        refine wpAnyH_done (by kernel_rfl) ?_ 0
        exact HX.out _ _ _ (w0.heap.size + 2) w0.heap.size (w0.heap.size + 1) _ (by omega) (by omega) (by omega) (by omega) (by omega) (by omega) B2_14 B2_15 B2_16 hb
    · skip
      obtain rfl := List.mem_singleton.1 hi
      refine allocL rfl rfl 38 rfl _ zeroHead ?_
      simp only [Act.put, List.setIfInBounds_toArray, List.set_cons_zero, List.set_cons_succ]
      refine ⟨And.intro (HS.1.alloc _) (HS.2.alloc _), ?_⟩
      refine wpAnyH_all (rs := [3, 4]) (by kernel_rfl) (by simp) ?_
      intro i hi
      rcases List.mem_cons.1 hi with rfl | hi
      · skip
        refine allocL rfl rfl 38 rfl _ zeroHead ?_
        simp only [Act.put, List.setIfInBounds_toArray, List.set_cons_zero, List.set_cons_succ]
        refine ⟨And.intro ((HS.1.alloc _).alloc _) ((HS.2.alloc _).alloc _), ?_⟩
        refine wpAnyH_all (rs := [4]) (by kernel_rfl) (by simp) ?_
        intro i hi
        obtain rfl := List.mem_singleton.1 hi
        refine allocL rfl rfl 38 rfl _ zeroHead ?_
        simp only [Act.put, List.setIfInBounds_toArray, List.set_cons_zero, List.set_cons_succ]
        have A0 := ((Blk.new w0 (hdrow 0 (List.replicate 32 0)) 38).alloc (.cells (hdrow 0 (List.replicate 32 0)) 38)).alloc (.cells (hdrow 0 (List.replicate 32 0)) 38)
        have A1 := (Blk.new (w0.alloc (.cells (hdrow 0 (List.replicate 32 0)) 38)) (hdrow 0 (List.replicate 32 0)) 38).alloc (.cells (hdrow 0 (List.replicate 32 0)) 38)
        have A2 := Blk.new ((w0.alloc (.cells (hdrow 0 (List.replicate 32 0)) 38)).alloc (.cells (hdrow 0 (List.replicate 32 0)) 38)) (hdrow 0 (List.replicate 32 0)) 38
        simp only [World.size_alloc, Nat.add_assoc, Nat.reduceAdd] at A0 A1 A2
        simp only [World.size_alloc, Nat.add_assoc, Nat.reduceAdd]
        have hb := ((hb0.alloc hb0.size (.cells (hdrow 0 (List.replicate 32 0)) 38)).alloc (by rw [World.size_alloc]; have := hb0.size; omega) (.cells (hdrow 0 (List.replicate 32 0)) 38)).alloc (by rw [World.size_alloc, World.size_alloc]; have := hb0.size; omega) (.cells (hdrow 0 (List.replicate 32 0)) 38)
        have HS2 := And.intro (((HS.1.alloc (.cells (hdrow 0 (List.replicate 32 0)) 38)).alloc (.cells (hdrow 0 (List.replicate 32 0)) 38)).alloc (.cells (hdrow 0 (List.replicate 32 0)) 38)) (((HS.2.alloc (.cells (hdrow 0 (List.replicate 32 0)) 38)).alloc (.cells (hdrow 0 (List.replicate 32 0)) 38)).alloc (.cells (hdrow 0 (List.replicate 32 0)) 38))
        generalize ((w0.alloc (.cells (hdrow 0 (List.replicate 32 0)) 38)).alloc (.cells (hdrow 0 (List.replicate 32 0)) 38)).alloc (.cells (hdrow 0 (List.replicate 32 0)) 38) = w1 at *
        refine ⟨HS2, ?_⟩
        refine wpAnyH_all (rs := [6]) (by kernel_rfl) (by simp) ?_
        intro i hi
        obtain rfl := List.mem_singleton.1 hi
        refine storeHdL rfl rfl (.tmp 14) (.tmp 42) rfl (w0.heap.size + 1) z1 r1 o1 rfl rfl _ A1 (hdrow_size _ rfl) ?_
        simp only [Act.put]
        have B0_14 := A1.row (hdrow z1 r1)
        have B0_15 := A2.rowOther (hdrow z1 r1) (show (w0.heap.size + 2) ≠ (w0.heap.size + 1) by omega)
        have B0_16 := A0.rowOther (hdrow z1 r1) (show w0.heap.size ≠ (w0.heap.size + 1) by omega)
        have H0 := And.intro (HS2.1.rowOther (hdrow z1 r1) (show b12 ≠ (w0.heap.size + 1) by omega)) (HS2.2.rowOther (hdrow z1 r1) (show b13 ≠ (w0.heap.size + 1) by omega))
        have hb := Below.setRow hb (show w.heap.size ≤ (w0.heap.size + 1) by omega) (hdrow z1 r1)
        refine ⟨H0, ?_⟩
        refine wpAnyH_all (rs := [7]) (by kernel_rfl) (by simp) ?_
        intro i hi
        obtain rfl := List.mem_singleton.1 hi
        refine storeHdL rfl rfl (.tmp 15) (.tmp 43) rfl (w0.heap.size + 2) z2 r2 o2 rfl rfl _ B0_15 (hdrow_size _ rfl) ?_
        simp only [Act.put]
        have B1_14 := B0_14.rowOther (hdrow z2 r2) (show (w0.heap.size + 1) ≠ (w0.heap.size + 2) by omega)
        have B1_15 := B0_15.row (hdrow z2 r2)
        have B1_16 := B0_16.rowOther (hdrow z2 r2) (show w0.heap.size ≠ (w0.heap.size + 2) by omega)
        have H1 := And.intro (H0.1.rowOther (hdrow z2 r2) (show b12 ≠ (w0.heap.size + 2) by omega)) (H0.2.rowOther (hdrow z2 r2) (show b13 ≠ (w0.heap.size + 2) by omega))
        have hb := Below.setRow hb (show w.heap.size ≤ (w0.heap.size + 2) by omega) (hdrow z2 r2)
        refine ⟨H1, ?_⟩
        refine wpAnyH_all (rs := [8]) (by kernel_rfl) (by simp) ?_
        intro i hi
        obtain rfl := List.mem_singleton.1 hi
        refine storeHdL rfl rfl (.tmp 16) (.tmp 44) rfl w0.heap.size z1 r1 o1 rfl rfl _ B1_16 (hdrow_size _ rfl) ?_
        simp only [Act.put]
        have B2_14 := B1_14.rowOther (hdrow z1 r1) (show (w0.heap.size + 1) ≠ w0.heap.size by omega)
        have B2_15 := B1_15.rowOther (hdrow z1 r1) (show (w0.heap.size + 2) ≠ w0.heap.size by omega)
        have B2_16 := B1_16.row (hdrow z1 r1)
        have H2 := And.intro (H1.1.rowOther (hdrow z1 r1) (show b12 ≠ w0.heap.size by omega)) (H1.2.rowOther (hdrow z1 r1) (show b13 ≠ w0.heap.size by omega))
        have hb := Below.setRow hb (show w.heap.size ≤ w0.heap.size by omega) (hdrow z1 r1)
        refine ⟨H2, ?_⟩
        refine wpAnyH_done (by kernel_rfl) ?_ 0
        exact HX.out _ _ _ (w0.heap.size + 1) (w0.heap.size + 2) w0.heap.size _ (by omega) (by omega) (by omega) (by omega) (by omega) (by omega) B2_14 B2_15 B2_16 hb
      · skip
        obtain rfl := List.mem_singleton.1 hi
        refine allocL rfl rfl 38 rfl _ zeroHead ?_
        simp only [Act.put, List.setIfInBounds_toArray, List.set_cons_zero, List.set_cons_succ]
        refine ⟨And.intro ((HS.1.alloc _).alloc _) ((HS.2.alloc _).alloc _), ?_⟩
        refine wpAnyH_all (rs := [3]) (by kernel_rfl) (by simp) ?_
        intro i hi
        obtain rfl := List.mem_singleton.1 hi
        refine allocL rfl rfl 38 rfl _ zeroHead ?_
        simp only [Act.put, List.setIfInBounds_toArray, List.set_cons_zero, List.set_cons_succ]
        have A0 := ((Blk.new w0 (hdrow 0 (List.replicate 32 0)) 38).alloc (.cells (hdrow 0 (List.replicate 32 0)) 38)).alloc (.cells (hdrow 0 (List.replicate 32 0)) 38)
        have A1 := (Blk.new (w0.alloc (.cells (hdrow 0 (List.replicate 32 0)) 38)) (hdrow 0 (List.replicate 32 0)) 38).alloc (.cells (hdrow 0 (List.replicate 32 0)) 38)
        have A2 := Blk.new ((w0.alloc (.cells (hdrow 0 (List.replicate 32 0)) 38)).alloc (.cells (hdrow 0 (List.replicate 32 0)) 38)) (hdrow 0 (List.replicate 32 0)) 38
        simp only [World.size_alloc, Nat.add_assoc, Nat.reduceAdd] at A0 A1 A2
        simp only [World.size_alloc, Nat.add_assoc, Nat.reduceAdd]
        have hb := ((hb0.alloc hb0.size (.cells (hdrow 0 (List.replicate 32 0)) 38)).alloc (by rw [World.size_alloc]; have := hb0.size; omega) (.cells (hdrow 0 (List.replicate 32 0)) 38)).alloc (by rw [World.size_alloc, World.size_alloc]; have := hb0.size; omega) (.cells (hdrow 0 (List.replicate 32 0)) 38)
        have HS2 := And.intro (((HS.1.alloc (.cells (hdrow 0 (List.replicate 32 0)) 38)).alloc (.cells (hdrow 0 (List.replicate 32 0)) 38)).alloc (.cells (hdrow 0 (List.replicate 32 0)) 38)) (((HS.2.alloc (.cells (hdrow 0 (List.replicate 32 0)) 38)).alloc (.cells (hdrow 0 (List.replicate 32 0)) 38)).alloc (.cells (hdrow 0 (List.replicate 32 0)) 38))
        generalize ((w0.alloc (.cells (hdrow 0 (List.replicate 32 0)) 38)).alloc (.cells (hdrow 0 (List.replicate 32 0)) 38)).alloc (.cells (hdrow 0 (List.replicate 32 0)) 38) = w1 at *
        refine ⟨HS2, ?_⟩
        refine wpAnyH_all (rs := [6]) (by kernel_rfl) (by simp) ?_
        intro i hi
        obtain rfl := List.mem_singleton.1 hi
        refine storeHdL rfl rfl (.tmp 14) (.tmp 42) rfl (w0.heap.size + 2) z1 r1 o1 rfl rfl _ A2 (hdrow_size _ rfl) ?_
        simp only [Act.put]
        have B0_14 := A2.row (hdrow z1 r1)
        have B0_15 := A1.rowOther (hdrow z1 r1) (show (w0.heap.size + 1) ≠ (w0.heap.size + 2) by omega)
        have B0_16 := A0.rowOther (hdrow z1 r1) (show w0.heap.size ≠ (w0.heap.size + 2) by omega)
        have H0 := And.intro (HS2.1.rowOther (hdrow z1 r1) (show b12 ≠ (w0.heap.size + 2) by omega)) (HS2.2.rowOther (hdrow z1 r1) (show b13 ≠ (w0.heap.size + 2) by omega))
        have hb := Below.setRow hb (show w.heap.size ≤ (w0.heap.size + 2) by omega) (hdrow z1 r1)
        refine ⟨H0, ?_⟩
        refine wpAnyH_all (rs := [7]) (by kernel_rfl) (by simp) ?_
        intro i hi
        obtain rfl := List.mem_singleton.1 hi
        refine storeHdL rfl rfl (.tmp 15) (.tmp 43) rfl (w0.heap.size + 1) z2 r2 o2 rfl rfl _ B0_15 (hdrow_size _ rfl) ?_
        simp only [Act.put]
        have B1_14 := B0_14.rowOther (hdrow z2 r2) (show (w0.heap.size + 2) ≠ (w0.heap.size + 1) by omega)
        have B1_15 := B0_15.row (hdrow z2 r2)
        have B1_16 := B0_16.rowOther (hdrow z2 r2) (show w0.heap.size ≠ (w0.heap.size + 1) by omega)
        have H1 := And.intro (H0.1.rowOther (hdrow z2 r2) (show b12 ≠ (w0.heap.size + 1) by omega)) (H0.2.rowOther (hdrow z2 r2) (show b13 ≠ (w0.heap.size + 1) by omega))
        have hb := Below.setRow hb (show w.heap.size ≤ (w0.heap.size + 1) by omega) (hdrow z2 r2)
        refine ⟨H1, ?_⟩
        refine wpAnyH_all (rs := [8]) (by kernel_rfl) (by simp) ?_
        intro i hi
        obtain rfl := List.mem_singleton.1 hi
        refine storeHdL rfl rfl (.tmp 16) (.tmp 44) rfl w0.heap.size z1 r1 o1 rfl rfl _ B1_16 (hdrow_size _ rfl) ?_
        simp only [Act.put]
        have B2_14 := B1_14.rowOther (hdrow z1 r1) (show (w0.heap.size + 2) ≠ w0.heap.size by omega)
        have B2_15 := B1_15.rowOther (hdrow z1 r1) (show (w0.heap.size + 1) ≠ w0.heap.size by omega)
        have B2_16 := B1_16.row (hdrow z1 r1)
        have H2 := And.intro (H1.1.rowOther (hdrow z1 r1) (show b12 ≠ w0.heap.size by omega)) (H1.2.rowOther (hdrow z1 r1) (show b13 ≠ w0.heap.size by omega))
        have hb := Below.setRow hb (show w.heap.size ≤ w0.heap.size by omega) (hdrow z1 r1)
        refine ⟨H2, ?_⟩
        refine wpAnyH_done (by kernel_rfl) ?_ 0
        exact HX.out _ _ _ (w0.heap.size + 2) (w0.heap.size + 1) w0.heap.size _ (by omega) (by omega) (by omega) (by omega) (by omega) (by omega) B2_14 B2_15 B2_16 hb

end Go.Proofs.Ytjekdeikoebmgaa

namespace Go.Proofs.Ytjekdeikoebmgaa
open Go.RowKit Go.Shelf Tr

theorem wpList_load_pairAt {ops : Array Oper} {rest : List Oper} {o : Oper} {a : Act} {w : World} {Q : Exit → Act → World → Prop} (hgd : o.guard = none) (x : Operand) (ho : o.op = .load 55 x)
    (g off : Nat) (hx : a.eval x = .pointer (some ⟨g, off, none⟩)) (R : Array Value) (hs : R.size = 66) (N : w.rangeAt g off R.toList) (h : wpList Try.prog ops Q rest (a.put o.dst (.agg R)) w) : wpList Try.prog ops Q (o :: rest) a w :=
  wpList_load_mid hgd 55 x ho g off hx R.toList _ N Try.underlying55 rfl (by rw [Array.length_toList, hs]; exact sizePair) h
theorem infoP (R : Array Value) (hs : R.size = 66) : (Try.prog.info? 55).map (·.size) = some R.size := by rw [hs]; exact sizePair
set_option maxRecDepth 100000 in
set_option maxHeartbeats 2000000 in
theorem bn_r16 (u0 u1 u2 u3 u4 u5 u6 u8 u9 u10 u11 u12 u13 u14 u15 u16 u17 u19 u21 u22 u23 u24 u25 u26 u27 u28 u29 u30 u31 u32 u33 u34 u35 u36 u37 u38 u39 u40 u41 u42 u43 u44 u45 u46 u47 u48 u49 u50 u51 u52 u53 u54 u55 u56 u57 u58 u59 u60 u61 u62 u63 u64 u65 u66 u67 u68 u69 u70 u71 u72 u73 u74 u75 u76 u77 u78 u79 u80 u81 u82 u83 u84 u85 u86 u87 u88 u89 u90 u91 u92 u93 u94 u95 u96 u97 u98 u99 u100 u101 u102 u103 u104 u105 u106 u107 u108 u109 u110 u111 u112 u113 u114 u115 u116 u117 u118 u119 u120 u121 u122 u123 u124 vj : Value) (za zb : Int) (b20 : Nat) (ra rb : List UInt8) (c : Bool) (w : World) (ha : HdOk za ra) (hb : HdOk zb rb) (N : Blk w b20 (prow za ra zb rb) 55)
    (C1 : ∀ x' : After w, Calls Try.prog 33 #[.agg (hdrow za ra), .agg (hdrow zb rb), vj] x'.W fun e w' => e = .returned (.bool c) ∧ Below x'.W.heap.size x'.W w')
    (C2 : ∀ x' : After w, Calls Try.prog 34 #[.agg (hdrow za ra), .agg (hdrow zb rb), vj] x'.W fun e w' => e = .returned (.bool c) ∧ Below x'.W.heap.size x'.W w')
    (Q : Exit → Act → World → Prop) (h : ∀ (y109 y110 y111 y112 y113 y114 y115 y116 y117 y118 y119 y120 : Value) (w' : World), Below w.heap.size w w' → Q .normal ⟨(u0 :: u1 :: u2 :: u3 :: u4 :: u5 :: u6 :: (.bool true) :: u8 :: u9 :: u10 :: u11 :: u12 :: u13 :: u14 :: u15 :: u16 :: u17 :: vj :: u19 :: (.pointer (some ⟨b20, 0, none⟩)) :: u21 :: u22 :: u23 :: u24 :: u25 :: u26 :: u27 :: u28 :: u29 :: u30 :: u31 :: u32 :: u33 :: u34 :: u35 :: u36 :: u37 :: u38 :: u39 :: u40 :: u41 :: u42 :: u43 :: u44 :: u45 :: u46 :: u47 :: u48 :: u49 :: u50 :: u51 :: u52 :: u53 :: u54 :: u55 :: u56 :: u57 :: u58 :: u59 :: u60 :: u61 :: u62 :: u63 :: u64 :: u65 :: u66 :: u67 :: u68 :: u69 :: u70 :: u71 :: u72 :: u73 :: u74 :: u75 :: u76 :: u77 :: u78 :: u79 :: u80 :: u81 :: u82 :: u83 :: u84 :: u85 :: u86 :: u87 :: u88 :: u89 :: u90 :: u91 :: u92 :: u93 :: u94 :: u95 :: u96 :: u97 :: u98 :: u99 :: u100 :: u101 :: u102 :: u103 :: u104 :: u105 :: u106 :: u107 :: u108 :: y109 :: y110 :: y111 :: y112 :: y113 :: y114 :: y115 :: y116 :: y117 :: y118 :: y119 :: y120 :: (.bool false) :: u122 :: u123 :: u124 :: []).toArray, []⟩ w') : Code.wp Try.prog (regionIn Try.f8 16) Q ⟨(u0 :: u1 :: u2 :: u3 :: u4 :: u5 :: u6 :: (.bool true) :: u8 :: u9 :: u10 :: u11 :: u12 :: u13 :: u14 :: u15 :: u16 :: u17 :: vj :: u19 :: (.pointer (some ⟨b20, 0, none⟩)) :: u21 :: u22 :: u23 :: u24 :: u25 :: u26 :: u27 :: u28 :: u29 :: u30 :: u31 :: u32 :: u33 :: u34 :: u35 :: u36 :: u37 :: u38 :: u39 :: u40 :: u41 :: u42 :: u43 :: u44 :: u45 :: u46 :: u47 :: u48 :: u49 :: u50 :: u51 :: u52 :: u53 :: u54 :: u55 :: u56 :: u57 :: u58 :: u59 :: u60 :: u61 :: u62 :: u63 :: u64 :: u65 :: u66 :: u67 :: u68 :: u69 :: u70 :: u71 :: u72 :: u73 :: u74 :: u75 :: u76 :: u77 :: u78 :: u79 :: u80 :: u81 :: u82 :: u83 :: u84 :: u85 :: u86 :: u87 :: u88 :: u89 :: u90 :: u91 :: u92 :: u93 :: u94 :: u95 :: u96 :: u97 :: u98 :: u99 :: u100 :: u101 :: u102 :: u103 :: u104 :: u105 :: u106 :: u107 :: u108 :: u109 :: u110 :: u111 :: u112 :: u113 :: u114 :: u115 :: u116 :: u117 :: u118 :: u119 :: u120 :: u121 :: u122 :: u123 :: u124 :: []).toArray, []⟩ w := by
  have HX := Lib.hid h
  have fa : ∀ x : After w, (loadVar 38 ⟨b20, 0, none⟩).run Try.prog x.W = .ok (.agg (hdrow za ra)) x.W := After.part (fun j v hv => by
    rw [Nat.zero_add]
    refine N.cell j v ?_
    unfold prow
    rw [Array.getElem?_append_left (by have := (List.getElem?_eq_some_iff.1 hv).1; simpa using this)]
    simpa using hv) ha.len
  have fb : ∀ x : After w, (loadVar 38 ⟨b20, 33, none⟩).run Try.prog x.W = .ok (.agg (hdrow zb rb)) x.W := After.part (fun j v hv => by
    refine N.cell (33 + j) v ?_
    unfold prow
    rw [Array.getElem?_append_right (by rw [ha.size]; omega), ha.size, Nat.add_sub_cancel_left]
    simpa using hv) hb.len
  have qc : (c != c) = false := by simp
  have D1 := Lib.hid C1
  have D2 := Lib.hid C2
  clear h N C1 C2 ha hb
  generalize hdrow za ra = RA at *
  generalize hdrow zb rb = RB at *
  conv => arg 2; whnf
  refine wp_region_after (by kernel_rfl) (by kernel_rfl) ?_
  repeat (first
    | (refine quiet_load_at 38 (.tmp 109) (by rfl) ⟨b20, 0, none⟩ (by rfl) RA fa (by kernel_rfl) ?_; go_frame)
    | (refine quiet_load_at 38 (.tmp 111) (by rfl) ⟨b20, 33, none⟩ (by rfl) RB fb (by kernel_rfl) ?_; go_frame)
    | (refine quiet_load_at 38 (.tmp 115) (by rfl) ⟨b20, 0, none⟩ (by rfl) RA fa (by kernel_rfl) ?_; go_frame)
    | (refine quiet_load_at 38 (.tmp 117) (by rfl) ⟨b20, 33, none⟩ (by rfl) RB fb (by kernel_rfl) ?_; go_frame)
    | (go_big_quiet_step (first | (with_reducible exact After.call (D1.out _)) | (with_reducible exact After.call (D2.out _)))))
  refine wpQuiet_nil ?_
  rintro w5 ⟨x5, rfl⟩
  exact HX.out _ _ _ _ _ _ _ _ _ _ _ _ _ x5.hb

set_option maxRecDepth 100000 in
set_option maxHeartbeats 4000000 in
theorem bn_t7 (u0 u1 u2 u3 u4 u6 u8 u9 u11 u17 u18 u19 u20 u21 u22 u23 u24 u25 u26 u27 u28 u29 u30 u31 u32 u33 u34 u35 u36 u37 u38 u39 u40 u41 u42 u43 u44 u45 u46 u47 u48 u49 u50 u51 u52 u53 u54 u55 u56 u57 u58 u59 u60 u61 u62 u63 u64 u65 u66 u67 u68 u69 u70 u71 u72 u73 u74 u75 u76 u77 u78 u79 u80 u81 u82 u83 u84 u85 u86 u87 u88 u89 u90 u91 u92 u93 u94 u95 u96 u97 u98 u99 u100 u101 u102 u103 u104 u105 u106 u107 u108 u109 u110 u111 u112 u113 u114 u115 u116 u117 u118 u119 u120 u121 u122 u123 u124 : Value) (k L q0 q1 q2 q3 q4 : Int) (bq b12 b13 b14 b15 b16 : Nat) (v10 : Value) (r1 r2 : List UInt8) (p : List (List UInt8)) (W0 W1 w : World) (hk : HdOk k r1) (hL : HdOk L r2) (hp : All32 p) (hpl : p.length ≤ 100)
    (NQ : Blk W1 bq #[.int .i64 q0, .int .i64 q1, .int .i64 q2, .int .i64 q3, .int .i64 q4] 54) (N12 : Blk W1 b12 (hdrow k r1) 38) (N13 : Blk W1 b13 (hdrow L r2) 38) (HP : HArg W1 v10 p) (hB : Below W0.heap.size W0 W1) (hw : Below W1.heap.size W1 w)
    (N14 : Blk w b14 (hdrow k r1) 38) (N15 : Blk w b15 (hdrow L r2) 38) (N16 : Blk w b16 (hdrow k r1) 38) (e45 : b14 ≠ b15) (e46 : b14 ≠ b16) (e56 : b15 ≠ b16) (g14 : W1.heap.size ≤ b14) (g15 : W1.heap.size ≤ b15) (g16 : W1.heap.size ≤ b16) (K : Act → World → Prop)
    (hK : ∀ a w, Code.wp Try.prog (tailIn Try.f8 8) (bodyPost Try.prog Try.f8 (fun e w' => e = .returned (.bool true) ∧ Below W0.heap.size W0 w')) a w → K a w) :
    Code.wp Try.prog (regionIn Try.f8 7) (Exit.then K (bodyPost Try.prog Try.f8 (fun e w' => e = .returned (.bool true) ∧ Below W0.heap.size W0 w'))) ⟨(u0 :: u1 :: u2 :: u3 :: u4 :: (.pointer (some ⟨bq, 0, none⟩)) :: u6 :: (.bool true) :: u8 :: u9 :: v10 :: u11 :: (.pointer (some ⟨b12, 0, none⟩)) :: (.pointer (some ⟨b13, 0, none⟩)) :: (.pointer (some ⟨b14, 0, none⟩)) :: (.pointer (some ⟨b15, 0, none⟩)) :: (.pointer (some ⟨b16, 0, none⟩)) :: u17 :: u18 :: u19 :: u20 :: u21 :: u22 :: u23 :: u24 :: u25 :: u26 :: u27 :: u28 :: u29 :: u30 :: u31 :: u32 :: u33 :: u34 :: u35 :: u36 :: u37 :: u38 :: u39 :: u40 :: u41 :: u42 :: u43 :: u44 :: u45 :: u46 :: u47 :: u48 :: u49 :: u50 :: u51 :: u52 :: u53 :: u54 :: u55 :: u56 :: u57 :: u58 :: u59 :: u60 :: u61 :: u62 :: u63 :: u64 :: u65 :: u66 :: u67 :: u68 :: u69 :: u70 :: u71 :: u72 :: u73 :: u74 :: u75 :: u76 :: u77 :: u78 :: u79 :: u80 :: u81 :: u82 :: u83 :: u84 :: u85 :: u86 :: u87 :: u88 :: u89 :: u90 :: u91 :: u92 :: u93 :: u94 :: u95 :: u96 :: u97 :: u98 :: u99 :: u100 :: u101 :: u102 :: u103 :: u104 :: u105 :: u106 :: u107 :: u108 :: u109 :: u110 :: u111 :: u112 :: u113 :: u114 :: u115 :: u116 :: u117 :: u118 :: u119 :: u120 :: u121 :: u122 :: u123 :: u124 :: []).toArray, []⟩ w := by
  have HKK := Lib.hid hK
  clear hK
  have NQw := NQ.below hw NQ.lt
  have cq2 := NQw.cell 2 _ rfl
  have c14 := N14.cell 0 (.int .i64 k) rfl
  have f14 := N14.frozen 0
  obtain ⟨za, hza⟩ : ∃ za, wrap64 (k + q2) = za := ⟨_, rfl⟩
  have hza3 : IntKind.i64.wrap (k + q2) = za := by rw [IntWalk.i64_left]; exact hza
  have hza4 : HdOk za r1 := ⟨by unfold wrap64 at hza; omega, hk.len⟩
  have hw1 := hw.setCell (p := ⟨b14, 0, none⟩) g14 (.int .i64 za)
  have M14 := N14.set 0 (.int .i64 za)
  rw [hd_set] at M14
  have M15 := N15.other (a := ⟨b14, 0, none⟩) (Ne.symm e45) (.int .i64 za)
  have M16 := N16.other (a := ⟨b14, 0, none⟩) (Ne.symm e46) (.int .i64 za)
  have HM14 := Lib.hid M14
  have HM15 := Lib.hid M15
  have HM16 := Lib.hid M16
  have HW1 := Lib.hid hw1
  clear M14 M15 M16 hw1
  conv => arg 2; whnf
  go_wp2_with fail
  refine HKK.out _ _ ?_
  have N14 := HM14.out
  have N15 := HM15.out
  have N16 := HM16.out
  have hw := HW1.out
  clear HM14 HM15 HM16 HW1 cq2 c14 f14 hza hza3 HKK NQw
  generalize w.setCell ⟨b14, 0, none⟩ (.int .i64 za) = w1 at *
  conv => arg 2; whnf
  have NQw := NQ.below hw NQ.lt
  have cq3 := NQw.cell 3 _ rfl
  have c15 := N15.cell 0 (.int .i64 L) rfl
  have f15 := N15.frozen 0
  obtain ⟨zb, hzb⟩ : ∃ zb, wrap64 (L + q3) = zb := ⟨_, rfl⟩
  have hzb3 : IntKind.i64.wrap (L + q3) = zb := by rw [IntWalk.i64_left]; exact hzb
  have hzb4 : HdOk zb r2 := ⟨by unfold wrap64 at hzb; omega, hL.len⟩
  have hw1 := hw.setCell (p := ⟨b15, 0, none⟩) g15 (.int .i64 zb)
  have M15 := N15.set 0 (.int .i64 zb)
  rw [hd_set] at M15
  have M14 := N14.other (a := ⟨b15, 0, none⟩) e45 (.int .i64 zb)
  have M16 := N16.other (a := ⟨b15, 0, none⟩) (Ne.symm e56) (.int .i64 zb)
  have HM14 := Lib.hid M14
  have HM15 := Lib.hid M15
  have HM16 := Lib.hid M16
  have HW1 := Lib.hid hw1
  clear M14 M15 M16 hw1
  go_upto_region 9 with (fail)
  have N14 := HM14.out
  have N15 := HM15.out
  have N16 := HM16.out
  have hw := HW1.out
  clear HM14 HM15 HM16 HW1 cq3 c15 f15 hzb hzb3 NQw
  generalize w1.setCell ⟨b15, 0, none⟩ (.int .i64 zb) = w2 at *
  have NQw := NQ.below hw NQ.lt
  have cq4 := NQw.cell 4 _ rfl
  obtain ⟨Rj, j, hJ, hJ1, hJ2, hj3, hj4, hj⟩ := rem_32 q4
  have jj1 : (j : Int) < 32 := by omega
  have jj2 : -32 < Rj := by omega
  obtain ⟨b, hb⟩ : ∃ b, r1[j]? = some b := ⟨r1[j]'(by rw [hk.len]; exact hj), List.getElem?_eq_getElem _⟩
  have cb := N16.cell (1 + j) (Y b) (by unfold hdrow; rw [List.getElem?_toArray, Nat.add_comm, List.getElem?_cons_succ, List.getElem?_map, hb]; rfl)
  have fb := N16.frozen (1 + j)
  obtain ⟨zz, hzz⟩ := xor_one b
  have HZZ := Lib.hid hzz
  have hw1 := hw.setCell (p := ⟨b16, 1 + j, none⟩) g16 (Y zz)
  have M16 := N16.set (1 + j) (Y zz)
  rw [hd_byte] at M16
  have M14 := N14.other (a := ⟨b16, 1 + j, none⟩) e46 (Y zz)
  have M15 := N15.other (a := ⟨b16, 1 + j, none⟩) e56 (Y zz)
  have hk3 : HdOk k (r1.set j zz) := ⟨hk.le, by rw [List.length_set]; exact hk.len⟩
  have HM14 := Lib.hid M14
  have HM15 := Lib.hid M15
  have HM16 := Lib.hid M16
  have HW1 := Lib.hid hw1
  clear M14 M15 M16 hw1 hb hzz
  go_upto_region 10 with (fail)
  rw [HZZ.out]
  have N14 := HM14.out
  have N15 := HM15.out
  have N16 := HM16.out
  have hw := HW1.out
  clear HM14 HM15 HM16 HW1 cq4 cb fb HZZ NQw hJ hJ1 hJ2 hj3 hj4
  generalize r1.set j zz = r3 at *
  generalize w2.setCell ⟨b16, 1 + j, none⟩ (Y zz) = w3 at *
  have NQ3 := NQ.below hw NQ.lt
  have cq0 := NQ3.cell 0 _ rfl
  have cq1 := NQ3.cell 1 _ rfl
  have N123 := N12.below hw N12.lt
  have N133 := N13.below hw N13.lt
  have HP3 := HP.below hw
  have hB3 := hB.trans (hw.mono hB.size)
  have HBT := Lib.hid (Bent_any p q0 q1 v10 w3 HP3 hp (by omega))
  have HPR := Lib.hid HP3
  clear HP3 N12 N13 HP hB hw NQ NQ3
  go_wp2_with fail
  refine HBT.out.mono ?_; rintro e w4 ⟨v75, p7, rfl, HP7, ha7, hl7, hb4⟩
  clear HBT cq0 cq1
  have hB4 := hB3.trans (hb4.mono hB3.size)
  have HP4 := HPR.out.below hb4
  have sA : ∃ x n c, v10 = .slice x n c := by obtain ⟨a, c, h, _⟩ := HP4; exact ⟨_, _, _, h⟩
  have sB : ∃ x n c, v75 = .slice x n c := by obtain ⟨a, c, h, _⟩ := HP7; exact ⟨_, _, _, h⟩
  have HBL := Lib.hid (two_lists w4 v10 v75 sA sB)
  have b5 := (Below.refl w4.heap.size w4).alloc (Nat.le_refl _) (.cells #[v10, v75] 32)
  have b35 := hb4.trans (b5.mono hb4.size)
  have hB5 := hB4.trans (b5.mono hB4.size)
  have NP := Blk.new w4 #[v10, v75] 32
  have HP5 := Lib.hid (HP4.below b5)
  have HP75 := Lib.hid (HP7.below b5)
  have N12 := N123.below b35 N123.lt
  have N13 := N133.below b35 N133.lt
  have N14 := N14.below b35 N14.lt
  have N15 := N15.below b35 N15.lt
  have N16 := N16.below b35 N16.lt
  clear HPR HP4 HP7 sA sB hb4 b5 b35 hB3 hB4 N123 N133
  go_wp2_with (refine wpList_build_run rfl 44 2 #[(0, .tmp 68), (1, .tmp 75)] rfl #[(0, v10), (1, v75)] rfl _ _ HBL.out ?_)
  clear HBL
  generalize w4.alloc (.cells #[v10, v75] 32) = w5 at *
  generalize w4.heap.size = bP at *
  go_loopw [78] (fun i wr => ∃ m : Nat, m ≤ 2 ∧ i = .int .i64 m ∧ Below w5.heap.size w5 wr ∧ Below W0.heap.size W0 wr) (fun i _ => 2 - (intOf i).toNat)
  case atStart => exact ⟨0, by omega, rfl, Below.refl _ _, hB5⟩
  case round =>
    clear hB5
    obtain ⟨m, hm, rfl, hb, hB⟩ := hrel
    by_cases hlt : m < 2
    · obtain ⟨vj, pj, hvj, HPj, haj, hlj⟩ : ∃ (vj : Value) (pj : List (List UInt8)), (#[v10, v75] : Array Value)[m]? = some vj ∧ HArg wr vj pj ∧ All32 pj ∧ pj.length ≤ 101 := by
        have h01 : m = 0 ∨ m = 1 := by omega
        rcases h01 with rfl | rfl
        · exact ⟨v10, p, rfl, HP5.out.below hb, hp, by omega⟩
        · exact ⟨v75, p7, rfl, HP75.out.below hb, ha7, by omega⟩
      have cP := (NP.below hb NP.lt).cell m _ hvj
      have t2 : (m : Int) < 2 := by omega
      have HPJ := Lib.hid HPj
      have L12 := Lib.hid (N12.below hb N12.lt)
      have L13 := Lib.hid (N13.below hb N13.lt)
      have L14 := Lib.hid (N14.below hb N14.lt)
      have L15 := Lib.hid (N15.below hb N15.lt)
      have L16 := Lib.hid (N16.below hb N16.lt)
      have I12 := Lib.hid (hinfoD k r1 hk.len)
      have I13 := Lib.hid (hinfoD L r2 hL.len)
      have I14 := Lib.hid (hinfoD za r1 hza4.len)
      have I15 := Lib.hid (hinfoD zb r2 hzb4.len)
      have I16 := Lib.hid (hinfoD k r3 hk3.len)
      have S12 := Lib.hid hk.size
      have S13 := Lib.hid hL.size
      have S14 := Lib.hid hza4.size
      have S15 := Lib.hid hzb4.size
      have S16 := Lib.hid hk3.size
      obtain ⟨R12, e12⟩ : ∃ R, hdrow k r1 = R := ⟨_, rfl⟩
      obtain ⟨R13, e13⟩ : ∃ R, hdrow L r2 = R := ⟨_, rfl⟩
      obtain ⟨R14, e14⟩ : ∃ R, hdrow za r1 = R := ⟨_, rfl⟩
      obtain ⟨R15, e15⟩ : ∃ R, hdrow zb r2 = R := ⟨_, rfl⟩
      obtain ⟨R16, e16⟩ : ∃ R, hdrow k r3 = R := ⟨_, rfl⟩
      rw [e12] at L12 I12 S12
      rw [e13] at L13 I13 S13
      rw [e14] at L14 I14 S14
      rw [e15] at L15 I15 S15
      rw [e16] at L16 I16 S16
      have hsz : ∀ R ∈ [R12 ++ R13, R14 ++ R13, R12 ++ R15, R16 ++ R13, R13 ++ R12, R13 ++ R13, R14 ++ R15], R.size = 66 := by
        intro R hR
        simp only [List.mem_cons, List.not_mem_nil, or_false] at hR
        rcases hR with rfl | rfl | rfl | rfl | rfl | rfl | rfl <;> simp [S12.out, S13.out, S14.out, S15.out, S16.out]
      have HSP := Lib.hid (seven_pairs wr _ _ _ _ _ _ _ hsz)
      have hget := flat_get 66 [R12 ++ R13, R14 ++ R13, R12 ++ R15, R16 ++ R13, R13 ++ R12, R13 ++ R13, R14 ++ R15]
      have HSZ := Lib.hid hsz
      have NR := Blk.new wr ([R12 ++ R13, R14 ++ R13, R12 ++ R15, R16 ++ R13, R13 ++ R12, R13 ++ R13, R14 ++ R15].flatMap (·.toList)).toArray 55
      have b6 := (Below.refl wr.heap.size wr).alloc (Nat.le_refl _) (.cells ([R12 ++ R13, R14 ++ R13, R12 ++ R15, R16 ++ R13, R13 ++ R12, R13 ++ R13, R14 ++ R15].flatMap (·.toList)).toArray 55)
      have hb := hb.trans (b6.mono hb.size)
      have hB := hB.trans (b6.mono hB.size)
      have HP6 := Lib.hid (HPJ.out.below b6)
      have HROWS : Hid (∀ (j : Nat) (R : Array Value), [R12 ++ R13, R14 ++ R13, R12 ++ R15, R16 ++ R13, R13 ++ R12, R13 ++ R13, R14 ++ R15][j]? = some R → ∃ (zx : Int) (rx : List UInt8) (zy : Int) (ry : List UInt8), HdOk zx rx ∧ HdOk zy ry ∧ R = prow zx rx zy ry) := by
        show ∀ (j : Nat) (R : Array Value), _
        intro j R hR
        have hR2 := List.mem_of_getElem? hR
        simp only [List.mem_cons, List.not_mem_nil, or_false] at hR2
        rcases hR2 with rfl | rfl | rfl | rfl | rfl | rfl | rfl
        · exact ⟨k, r1, L, r2, hk, hL, by rw [← e12, ← e13]; rfl⟩
        · exact ⟨za, r1, L, r2, hza4, hL, by rw [← e14, ← e13]; rfl⟩
        · exact ⟨k, r1, zb, r2, hk, hzb4, by rw [← e12, ← e15]; rfl⟩
        · exact ⟨k, r3, L, r2, hk3, hL, by rw [← e16, ← e13]; rfl⟩
        · exact ⟨L, r2, k, r1, hL, hk, by rw [← e13, ← e12]; rfl⟩
        · exact ⟨L, r2, L, r2, hL, hL, by rw [← e13]; rfl⟩
        · exact ⟨za, r1, zb, r2, hza4, hzb4, by rw [← e14, ← e15]; rfl⟩
      have HG : Hid (∀ (j : Nat) (R : Array Value), [R12 ++ R13, R14 ++ R13, R12 ++ R15, R16 ++ R13, R13 ++ R12, R13 ++ R13, R14 ++ R15][j]? = some R → R.size = 66 ∧ (wr.alloc (.cells ([R12 ++ R13, R14 ++ R13, R12 ++ R15, R16 ++ R13, R13 ++ R12, R13 ++ R13, R14 ++ R15].flatMap (·.toList)).toArray 55)).rangeAt wr.heap.size (j * 66) R.toList) := by
        show ∀ (j : Nat) (R : Array Value), _
        intro j R hR
        refine ⟨HSZ.out R (List.mem_of_getElem? hR), fun i v hv => NR.cell _ v ?_⟩
        rw [List.getElem?_toArray]
        exact hget j R HSZ.out hR i v hv
      have HL : Hid ([R12 ++ R13, R14 ++ R13, R12 ++ R15, R16 ++ R13, R13 ++ R12, R13 ++ R13, R14 ++ R15].length = 7) := by show _ = _; rfl
      clear hvj HPj hsz hget HSZ NR b6 e12 e13 e14 e15 e16 HPJ
      obtain ⟨RS, hRS⟩ : ∃ RS, [R12 ++ R13, R14 ++ R13, R12 ++ R15, R16 ++ R13, R13 ++ R12, R13 ++ R13, R14 ++ R15] = RS := ⟨_, rfl⟩
      rw [hRS] at HSP HROWS HG hb hB HP6 HL
      go_wp2_with (first
        | (refine wpList_load_row_g (by kernel_rfl) 38 (.tmp 12) rfl b12 rfl _ _ _ _ L12.out Try.underlying38 rfl I12.out ?_; go_frame)
        | (refine wpList_load_row_g (by kernel_rfl) 38 (.tmp 13) rfl b13 rfl _ _ _ _ L13.out Try.underlying38 rfl I13.out ?_; go_frame)
        | (refine wpList_load_row_g (by kernel_rfl) 38 (.tmp 14) rfl b14 rfl _ _ _ _ L14.out Try.underlying38 rfl I14.out ?_; go_frame)
        | (refine wpList_load_row_g (by kernel_rfl) 38 (.tmp 15) rfl b15 rfl _ _ _ _ L15.out Try.underlying38 rfl I15.out ?_; go_frame)
        | (refine wpList_load_row_g (by kernel_rfl) 38 (.tmp 16) rfl b16 rfl _ _ _ _ L16.out Try.underlying38 rfl I16.out ?_; go_frame)
        | (refine wpList_build_pair (by kernel_rfl) (.tmp 82) (.tmp 83) rfl R12 R13 S12.out S13.out (by rfl) (by rfl) ?_; go_frame)
        | (refine wpList_build_pair (by kernel_rfl) (.tmp 85) (.tmp 86) rfl R14 R13 S14.out S13.out (by rfl) (by rfl) ?_; go_frame)
        | (refine wpList_build_pair (by kernel_rfl) (.tmp 88) (.tmp 89) rfl R12 R15 S12.out S15.out (by rfl) (by rfl) ?_; go_frame)
        | (refine wpList_build_pair (by kernel_rfl) (.tmp 91) (.tmp 92) rfl R16 R13 S16.out S13.out (by rfl) (by rfl) ?_; go_frame)
        | (refine wpList_build_pair (by kernel_rfl) (.tmp 94) (.tmp 95) rfl R13 R12 S13.out S12.out (by rfl) (by rfl) ?_; go_frame)
        | (refine wpList_build_pair (by kernel_rfl) (.tmp 97) (.tmp 98) rfl R13 R13 S13.out S13.out (by rfl) (by rfl) ?_; go_frame)
        | (refine wpList_build_pair (by kernel_rfl) (.tmp 100) (.tmp 101) rfl R14 R15 S14.out S15.out (by rfl) (by rfl) ?_; go_frame)
        | (refine wpList_build_run rfl 56 7 #[(0, .tmp 84), (1, .tmp 87), (2, .tmp 90), (3, .tmp 93), (4, .tmp 96), (5, .tmp 99), (6, .tmp 102)] rfl #[(0, .agg (R12 ++ R13)), (1, .agg (R14 ++ R13)), (2, .agg (R12 ++ R15)), (3, .agg (R16 ++ R13)), (4, .agg (R13 ++ R12)), (5, .agg (R13 ++ R13)), (6, .agg (R14 ++ R15))] rfl _ _ HSP.out ?_))
      clear HSP L12 L13 L14 L15 L16 I12 I13 I14 I15 I16 S12 S13 S14 S15 S16 cP
      have B6 := Below.refl (wr.alloc (.cells (RS.flatMap (·.toList)).toArray 55)).heap.size (wr.alloc (.cells (RS.flatMap (·.toList)).toArray 55))
      generalize wr.alloc (.cells (RS.flatMap (·.toList)).toArray 55) = w6 at *
      generalize wr.heap.size = bX at *
      go_loopw [105] (fun i wr => ∃ j : Nat, j ≤ 7 ∧ i = .int .i64 j ∧ Below w6.heap.size w6 wr ∧ Below w5.heap.size w5 wr ∧ Below W0.heap.size W0 wr) (fun i _ => 7 - (intOf i).toNat)
      case atStart => exact ⟨0, by omega, rfl, B6, hb, hB⟩
      case round =>
        clear hb hB B6
        obtain ⟨j, hj, rfl, hb6, hb, hB⟩ := hrel
        by_cases hjt : j < 7
        · have t3 : (j : Int) < 7 := by omega
          obtain ⟨R, hR⟩ : ∃ R, RS[j]? = some R := ⟨RS[j]'(by rw [HL.out]; exact hjt), List.getElem?_eq_getElem _⟩
          obtain ⟨s66, hrg⟩ := HG.out j R hR
          obtain ⟨zx, rx, zy, ry, ox, oy, eR⟩ := HROWS.out j R hR
          have hrg2 : wr.rangeAt bX (j * 66) R.toList := fun i v hv => keepCells hb6 _ _ (hrg i v hv)
          have HRG := Lib.hid hrg2
          have HER := Lib.hid eR
          have HO := Lib.hid (show R.all (·.oneCell') = true by rw [eR]; exact prow_one _ _ _ _)
          have HI := Lib.hid (infoP R s66)
          have HZS := Lib.hid (show zpair.size = R.size by rw [s66]; kernel_rfl)
          have HZP := Lib.hid zeroPair
          have NZ := Lib.hid (Blk.new wr zpair 55)
          have N20 := Blk.new wr R 55
          have b7 := (Below.refl wr.heap.size wr).alloc (Nat.le_refl _) (.cells R 55)
          have hb6 := hb6.trans (b7.mono hb6.size)
          have hb := hb.trans (b7.mono hb.size)
          have hB := hB.trans (b7.mono hB.size)
          clear hR hrg hrg2 eR b7
          generalize zpair = ZP at *
          go_upto_region 16 with (first
            | (refine wpList_load_pairAt rfl (.tmp 107) rfl bX (j * 66) rfl R s66 HRG.out ?_; go_frame)
            | (refine wpList_alloc_row rfl 55 rfl ZP HZP.out ?_; go_frame; try simp only [World.size_alloc])
            | (refine wpList_store_row rfl 55 (.tmp 20) (.tmp 108) rfl wr.heap.size R rfl rfl 55 _ NZ.out HI.out HZS.out HO.out ?_; go_frame; rw [World.setRow_alloc_new]))
          clear HRG HO HI HZS HZP NZ
          rw [HER.out] at N20
          rw [HER.out]
          have hbR := HER.out
          generalize hw7 : wr.alloc (.cells R 55) = w7 at *
          rw [hbR] at hw7
          rw [hw7] at N20 ⊢
          clear hw7 hbR HER
          generalize wr.heap.size = b20 at *
          have HPJ := HP6.out.below hb6
          have C1 := Lib.hid (fun x' : After w7 => CheckGrowth_q zx zy rx ry pj vj x'.W ox.len oy.len oy.le (by omega) haj (HPJ.below x'.hb))
          have C2 := Lib.hid (fun x' : After w7 => RCheckGrowth_q zx zy rx ry pj vj x'.W ox.len oy.len oy.le haj (HPJ.below x'.hb))
          obtain ⟨c, hcq⟩ : ∃ c, checkG zx rx zy ry pj = c := ⟨_, rfl⟩
          rw [hcq] at C1 C2
          refine bn_r16 _ _ _ _ _ _ _ _ _ _ _ _ _ _ _ _ _ _ _ _ _ _ _ _ _ _ _ _ _ _ _ _ _ _ _ _ _ _ _ _ _ _ _ _ _ _ _ _ _ _ _ _ _ _ _ _ _ _ _ _ _ _ _ _ _ _ _ _ _ _ _ _ _ _ _ _ _ _ _ _ _ _ _ _ _ _ _ _ _ _ _ _ _ _ _ _ _ _ _ _ _ _ _ _ _ _ _ _ _ _ _ _ _ _ _ _ _ _ _ _ _ _ vj zx zy b20 rx ry c w7 ox oy N20 C1.out C2.out _ ?_
          intro y109 y110 y111 y112 y113 y114 y115 y116 y117 y118 y119 y120 w8 hb8
          have hb6 := hb6.trans (hb8.mono hb6.size)
          have hb := hb.trans (hb8.mono hb.size)
          have hB := hB.trans (hb8.mono hB.size)
          clear C1 C2 hcq N20 HPJ hb8
          go_wp2_with fail
          go_roundw
          case rel => exact ⟨j + 1, by omega, by go_num, hb6, hb, hB⟩
          case measure => simp [intOf]; omega
        · have t3 : ¬ ((j : Int) < 7) := by omega
          clear HG HROWS HP6
          go_wp2_with fail
          go_roundw
          case rel => exact ⟨m + 1, by omega, by go_num, hb, hB⟩
          case measure => simp [intOf]; omega
    · have t1 : ¬ ((m : Int) < 2) := by omega
      go_wp2_with fail
      go_ret
      exact ⟨rfl, hB⟩

end Go.Proofs.Ytjekdeikoebmgaa
