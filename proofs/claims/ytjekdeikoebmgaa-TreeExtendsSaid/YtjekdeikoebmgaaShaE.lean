/- The contract of digest.Sum: SHA-256 of a string. Condition: below 2^45 bytes. -/
import Derived.Test.YtjekdeikoebmgaaShaR
namespace Go.Proofs.Ytjekdeikoebmgaa
open Go.RowKit Go.Shelf
attribute [local go_sem] Oper.semAt_some

theorem wpList_convert_run {P : Program} {ops : Array Oper} {rest : List Oper} {o : Oper} {a : Act} {w : World} {Q : Exit → Act → World → Prop} (hgd : o.guard = none) (src dst : TypeId) (x : Operand) (ho : o.op = .convert src dst x)
    (v v' : Value) (w' : World) (hx : a.eval x = v) (hr : (convert src dst v).run P w = .ok v' w')
    (h : wpList P ops Q rest (a.put o.dst v') w') : wpList P ops Q (o :: rest) a w := by
  refine wpList_plain hgd fun K hK => ?_
  unfold Oper.wp execOp
  simp [ho, hx, hr]
  exact hK _ _ h

theorem hinfo (v : Sha.V) : (Try.prog.info? 24).map (·.size) = some (hrow (orow v 8)).size := by
  rw [show (hrow (orow v 8)).size = 32 by unfold hrow; simp [orow_length v 8 (by omega)]]; exact info24
theorem hold (v : Sha.V) : (hrow (List.replicate 32 0)).size = (hrow (orow v 8)).size := by
  unfold hrow; simp [orow_length v 8 (by omega)]
theorem bytes_all (l : List UInt8) : (hrow l).all (·.oneCell') = true := by
  rw [Array.all_eq_true_iff_forall_mem]
  intro u hu
  exact bytes_one l u (by simpa [hrow] using hu)

set_option maxRecDepth 100000 in
set_option maxHeartbeats 1000000 in
theorem Sum_any (s : ByteArray) (hs : s.size ≤ 140737488355000) (w : World) :
    Calls Try.prog 36 #[.string s] w fun e w' => e = .returned (.agg (hrow (Sha.sum s.data.toList))) ∧ Below w.heap.size w w' := by
  refine (callsIn_wide (n := 10)).1 ?_
  refine callsIn_of_wp_marks Try.func36 rfl trivial ?_ rfl
  simp only [Try.ntmps36, List.size_toArray, List.length_cons, List.length_nil, Nat.reduceAdd, Nat.reduceSub, Array.replicate_succ, Array.replicate_zero, List.push_toArray, List.append_toArray, List.nil_append, List.cons_append]
  obtain ⟨cap0, w1, hr1, row1, hb1⟩ := run_bytes_of (w.alloc (.cells (hrow (List.replicate 32 0)) 24)) s
  rw [World.size_alloc] at row1
  have lenS : s.data.toList.length = s.size := by rw [Array.length_toList]; rfl
  have hb1s := hb1.size
  rw [World.size_alloc] at hb1s
  obtain ⟨g2, cap2, w2, hr2, row2, gr2⟩ := run_append_bytes (w1.alloc (.cells #[.int .u8 128] 5)) 30 (w.heap.size + 1) (w.heap.size + 1) cap0 s.data.toList (row1.alloc _) (by simp; omega) ⟨w1.heap.size, 0, none⟩ 1 [128]
    (fun j x hx => by
      rcases j with _ | j
      · have : x = 128 := by simpa using hx.symm
        subst this
        exact (Blk.new w1 #[.int .u8 128] 5).cell 0 _ rfl
      · simp at hx) s.size 1 (s.size + 1) lenS rfl rfl (by omega)
  have base2 : w.heap.size + 1 ≤ w2.heap.size := by have := gr2.size; simp at this; omega
  have hZ : ((120 - ((s.size : Int) + 1) % 64) % 64) = ((Sha.zeros s.size : Nat) : Int) := by unfold Sha.zeros; omega
  have hZ64 : Sha.zeros s.size < 64 := by unfold Sha.zeros; omega
  obtain ⟨Z, eZ⟩ : ∃ Z, Z = Sha.zeros s.size := ⟨_, rfl⟩
  rw [← eZ] at hZ hZ64
  obtain ⟨g3, cap3, w3, hr3, row3, gr3⟩ := run_append_zeros w2 30 (w.heap.size + 1) g2 cap2 _ row2 base2 Z (s.size + 1) (s.size + 1 + Z) (by simp) rfl (by omega)
  rw [← hZ] at hr3
  have HR3 := Lib.hid hr3
  have EZ := Lib.hid eZ
  have base3 : w.heap.size + 1 ≤ w3.heap.size := by have := gr3.size; omega
  clear hr3 hZ eZ
  have HR1 := Lib.hid hr1
  have HR2 := Lib.hid hr2
  have LS := Lib.hid lenS
  clear hr1 lenS hr2
  refine wpIn_wide.2 ?_
  go_upto_region 2 with (first
    | (refine wpList_alloc_row rfl 24 rfl (hrow (List.replicate 32 0)) (by kernel_rfl) ?_)
    | (refine wpList_convert_run rfl 9 30 (.tmp 10) rfl (.string s) _ _ rfl HR1.out ?_)
    | (at_builtin; refine Lib.wpList_append_run _ rfl (.tmp 11) (.tmp 12) 30 30 rfl _ _ rfl rfl _ _ HR2.out ?_))
  go_upto_region 4 with (first
    | (at_builtin; refine Lib.wpList_append_run _ rfl (.tmp 14) (.tmp 19) 30 3 rfl _ _ rfl rfl _ _ HR3.out ?_))
  go_wp2_with fail
  rw [show ((s.size : Int) * 8 / 4294967296) = ((8 * s.size / 4294967296 : Nat) : Int) by omega]
  refine (bytes_any (8 * s.size / 4294967296) (by omega) _).mono ?_; rintro e w4 ⟨rfl, rfl⟩
  obtain ⟨g4, cap4, w4, hr4, row4, gr4⟩ := run_append_bytes (w3.alloc (.cells ((Sha.bytes4 (8 * s.size / 4294967296)).map Y).toArray 5)) 30 (w.heap.size + 1) g3 cap3 _ (row3.alloc _) (by simp; omega) ⟨w3.heap.size, 0, none⟩ 4 (Sha.bytes4 (8 * s.size / 4294967296))
    (bytes4_at w3 _) (s.size + 1 + Z) 4 (s.size + 1 + Z + 4) (by simp; omega) rfl rfl (by omega)
  have base4 : w.heap.size + 1 ≤ w4.heap.size := by have := gr4.size; simp at this; omega
  have HR4 := Lib.hid hr4
  clear hr4
  go_wp2_with (first
    | (at_builtin; refine Lib.wpList_append_run _ rfl (.tmp 25) (.tmp 29) 30 30 rfl _ _ rfl rfl _ _ HR4.out ?_))
  rw [show ((s.size : Int) * 8 % 4294967296) = ((8 * s.size % 4294967296 : Nat) : Int) by omega]
  refine (bytes_any (8 * s.size % 4294967296) (by omega) _).mono ?_; rintro e w5 ⟨rfl, rfl⟩
  obtain ⟨g5, cap5, w5, hr5, row5, gr5⟩ := run_append_bytes (w4.alloc (.cells ((Sha.bytes4 (8 * s.size % 4294967296)).map Y).toArray 5)) 30 (w.heap.size + 1) g4 cap4 _ (row4.alloc _) (by simp; omega) ⟨w4.heap.size, 0, none⟩ 4 (Sha.bytes4 (8 * s.size % 4294967296))
    (bytes4_at w4 _) (s.size + 1 + Z + 4) 4 (s.size + 1 + Z + 4 + 4) (by simp [Sha.bytes4_length]; omega) rfl rfl (by omega)
  have HR5 := Lib.hid hr5
  have rb : Blk w5 w.heap.size (hrow (List.replicate 32 0)) 24 :=
    ((((((((Blk.new w (hrow (List.replicate 32 0)) 24).below hb1 (by simp)).alloc _).grown gr2 (by omega)).grown gr3 (by have := row2.base; omega)).alloc _).grown gr4 (by have := row3.base; omega)).alloc _).grown gr5 (by have := row4.base; omega)
  have tb : Below w.heap.size w w5 := by
    have t1 := ((Below.refl w.heap.size w).alloc (Nat.le_refl _) (.cells (hrow (List.replicate 32 0)) 24)).trans (hb1.mono (by simp))
    have t2 := below_grown (t1.alloc t1.size _) gr2 (by simp; have := t1.size; omega) (by omega)
    have t3 := below_grown t2 gr3 t2.size (by have := row2.base; omega)
    have t4 := below_grown (t3.alloc t3.size _) gr4 (by simp; have := t3.size; omega) (by have := row3.base; omega)
    exact below_grown (t4.alloc t4.size _) gr5 (by simp; have := t4.size; omega) (by have := row4.base; omega)
  have rp : BRow w5 (w.heap.size + 1) g5 cap5 (Sha.pad s.data.toList) := by
    have e1 : Sha.pad s.data.toList = s.data.toList ++ [128] ++ List.replicate Z 0 ++ Sha.bytes4 (8 * s.size / 4294967296) ++ Sha.bytes4 (8 * s.size % 4294967296) := by
      unfold Sha.pad; rw [LS.out, ← EZ.out]
    rw [e1]; exact row5
  have hlenP : (Sha.pad s.data.toList).length = s.size + 1 + Z + 4 + 4 := by rw [Sha.pad_length, LS.out, ← EZ.out]
  have hmodP := Sha.pad_mod s.data.toList
  have HSUM : Hid (Sha.sum s.data.toList = Sha.out (Sha.blocks ((Sha.pad s.data.toList).length / 64) Sha.start (Sha.pad s.data.toList))) := rfl
  generalize Sha.pad s.data.toList = P at *
  obtain ⟨N, hN⟩ : ∃ N, s.size + 1 + Z + 4 + 4 = 64 * N := ⟨P.length / 64, by omega⟩
  have HN := Lib.hid hN
  clear hr5 row1 row2 row3 row4 row5 gr2 gr3 gr4 gr5 base2 base3 base4 hb1 hb1s hmodP
  clear hN
  go_upto_region 5 with (first
    | (at_builtin; refine Lib.wpList_append_run _ rfl (.tmp 30) (.tmp 33) 30 30 rfl _ _ rfl rfl _ _ HR5.out ?_))
  rw [HN.out]
  have hlenN : P.length = 64 * N := hlenP.trans HN.out
  have hposN : 1 ≤ N := by have := HN.out; omega
  have hN47 : 64 * N ≤ 140737488355328 := by have := HN.out; omega
  have hcapN : 64 * N ≤ cap5 := by have := rp.len; omega
  clear hlenP HR5 HN hZ64
  go_wp2_with fail
  refine (start_any _).mono ?_; rintro e w6 ⟨rfl, hb6⟩
  have rp6 := rp.below hb6
  have rb6 := rb.below hb6 rb.lt
  have tb6 := tb.trans (hb6.mono tb.size)
  have nb := Blk.new w6 (Sha.V.row ⟨0, 0, 0, 0, 0, 0, 0, 0⟩) 85
  have NB := Lib.hid nb
  clear nb rp rb tb hb6
  go_wp2_with (first
    | (refine wpList_alloc_row rfl 85 rfl (Sha.V.row ⟨0, 0, 0, 0, 0, 0, 0, 0⟩) (by kernel_rfl) ?_)
    | (refine wpList_store_row rfl 85 (.tmp 5) (.tmp 35) rfl w6.heap.size Sha.start.row rfl rfl 85 _ NB.out info45 rfl (by kernel_rfl) ?_; rw [World.setRow_alloc_new]))
  have c1 : Blk (((w6.alloc (.cells Sha.start.row 85)).alloc (.cells #[.slice (some ⟨g5, 0, none⟩) (64 * N) cap5] 30)).alloc (.cells #[.int .i64 64] 3)) w6.heap.size Sha.start.row 85 := ((Blk.new _ _ _).alloc _).alloc _
  have c2 : Blk (((w6.alloc (.cells Sha.start.row 85)).alloc (.cells #[.slice (some ⟨g5, 0, none⟩) (64 * N) cap5] 30)).alloc (.cells #[.int .i64 64] 3)) (w6.heap.size + 1) #[.slice (some ⟨g5, 0, none⟩) (64 * N) cap5] 30 := by
    have := (Blk.new (w6.alloc (.cells Sha.start.row 85)) #[.slice (some ⟨g5, 0, none⟩) (64 * N) cap5] 30).alloc (.cells #[.int .i64 64] 3)
    simpa only [World.size_alloc] using this
  have c3 : Blk (((w6.alloc (.cells Sha.start.row 85)).alloc (.cells #[.slice (some ⟨g5, 0, none⟩) (64 * N) cap5] 30)).alloc (.cells #[.int .i64 64] 3)) (w6.heap.size + 1 + 1) #[.int .i64 64] 3 := by
    have := Blk.new ((w6.alloc (.cells Sha.start.row 85)).alloc (.cells #[.slice (some ⟨g5, 0, none⟩) (64 * N) cap5] 30)) #[.int .i64 64] 3
    simpa only [World.size_alloc] using this
  have rp7 := ((rp6.alloc (.cells Sha.start.row 85)).alloc (.cells #[.slice (some ⟨g5, 0, none⟩) (64 * N) cap5] 30)).alloc (.cells #[.int .i64 64] 3)
  have rb7 := ((rb6.alloc (.cells Sha.start.row 85)).alloc (.cells #[.slice (some ⟨g5, 0, none⟩) (64 * N) cap5] 30)).alloc (.cells #[.int .i64 64] 3)
  have tb7 : Below w.heap.size w (((w6.alloc (.cells Sha.start.row 85)).alloc (.cells #[.slice (some ⟨g5, 0, none⟩) (64 * N) cap5] 30)).alloc (.cells #[.int .i64 64] 3)) :=
    ((tb6.alloc tb6.size _).alloc (by simp; have := tb6.size; omega) _).alloc (by simp; have := tb6.size; omega) _
  have hg6 := rp6.lt
  have hbs := tb6.size
  have hbase := rp6.base
  refine (Chunk_any _ _ _ _).mono ?_; rintro e w7 ⟨rfl, rfl⟩
  simp only [World.size_alloc]
  generalize (((w6.alloc (.cells Sha.start.row 85)).alloc (.cells #[.slice (some ⟨g5, 0, none⟩) (64 * N) cap5] 30)).alloc (.cells #[.int .i64 64] 3)) = w7 at *
  have hrl := rb7.lt
  generalize w6.heap.size = n6 at *
  clear rp6 rb6 tb6 NB
  go_wp2_with fail
  refine (wpIn_wide (n := 10)).1 ?_
  refine sum_range _ _ _ _ _ _ _ _ _ _ _ _ _ _ _ _ _ _ _ _ _ _ _ _ _ _ _ _ _ _ _ _ _ _ _ _ _ _ _ _ _ _ _ _ _ _ _ _ _ _ _ _ n6 g5 (n6 + 1) (n6 + 1 + 1) cap5 N P hlenN hposN hcapN hN47 w7 c1 rp7.bytes rp7.lt (by omega) c2 c3 (by omega) (by omega) _ ?_
  intro D W hD hK hG hS
  have rbW := rb7.grown hG (by omega)
  have tbW := below_grown tb7 hG tb7.size (by omega)
  have hv := Sha.blocks_ok N Sha.start P Sha.start_ok
  have HSUM2 : Hid (Sha.sum s.data.toList = Sha.out (Sha.blocks N Sha.start P)) := by
    show _ = _
    rw [HSUM.out, show P.length / 64 = N by omega]
  generalize Sha.blocks N Sha.start P = v at *
  have hS2 := hS.alloc (.cells (hrow (orow v 0)) 24)
  have HS2 := Lib.hid hS2
  have ob := Blk.new W (hrow (orow v 0)) 24
  have rb8 := rbW.alloc (.cells (hrow (orow v 0)) 24)
  have tb8 := tbW.alloc tbW.size (.cells (hrow (orow v 0)) 24)
  have hKD := (Below.heap_alloc W (.cells (hrow (orow v 0)) 24) D (Array.getElem?_eq_some_iff.1 hK).1).trans hK
  have hDlt := (Array.getElem?_eq_some_iff.1 hK).1
  have hrW := rbW.lt
  have hWs := tbW.size
  clear hS2 HSUM
  go_wp2_with (first
    | (refine wpList_alloc_row rfl 24 rfl (hrow (orow v 0)) (by kernel_rfl) ?_)
    | (refine wpList_load_row rfl 85 (.tmp 5) rfl n6 rfl _ _ _ _ HS2.out Try.underlying85 rfl info45 ?_))
  generalize W.alloc (.cells (hrow (orow v 0)) 24) = w8 at *
  generalize W.heap.size = n8 at *
  refine sum_loop _ _ _ _ _ _ _ _ _ _ _ _ _ _ _ _ _ _ _ _ _ _ _ _ _ _ _ _ _ _ _ _ _ _ _ _ _ _ _ _ _ _ _ _ _ _ _ _ _ _ _ _ n8 v hv w8 ob _ ?_
  intro y8 y9 y44 y45 y46 y47 y48 y49 y50 y51 y52 w9 hG9 ob9
  have rb9 := rb8.grown hG9 (by omega)
  have tb9 := below_grown tb8 hG9 tb8.size (by omega)
  have hK9 := (hG9.block D (Array.getElem?_eq_some_iff.1 hKD).1 (by intro e; injection e with e; omega)).trans hKD
  go_wp2_with (first
    | (refine wpList_load_row rfl 24 (.tmp 7) rfl n8 rfl _ _ _ _ ob9 Try.underlying24 rfl ?_ ?_; (exact hinfo v))
    | (refine wpList_store_row rfl 24 (.tmp 2) (.tmp 53) rfl w.heap.size (hrow (orow v 8)) rfl rfl 24 _ rb9 (hinfo v) (hold v) (bytes_all _) ?_))
  have hK10 : (w9.setRow w.heap.size (hrow (orow v 8))).heap[D]? = some (.deferred (some [])) := (setRow_other _ _ _ _ (by omega)).trans hK9
  refine ⟨by simp, .inl ⟨_, _, rfl, run_takeDeferred hK10, ?_⟩⟩
  have kk := (rb9.row (hrow (orow v 8))).kept (grownBy_putObj' _ D (.deferred none)) (fun r e => by cases e; exact ⟨_, hK10, rfl⟩)
  have e8 : orow v 8 = Sha.out v := rfl
  refine ⟨.agg (hrow (orow v 8)), ?_, by rw [HSUM2.out, e8], (Below.setRow tb9 (Nat.le_refl _) _).trans (belowK_b (w := w) (Nat.le_refl _) _ D _ _ (by omega) hK10 rfl rfl)⟩
  exact results_cell_row rfl _ _ _ _ _ _ _ rfl kk Try.underlying24 rfl (hinfo v)

end Go.Proofs.Ytjekdeikoebmgaa
