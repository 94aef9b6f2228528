/- The closure of Growth: its drawn regions. Conditions: sizes. -/
import Derived.Test.YtjekdeikoebmgaaTrC
import Derived.Test.YtjekdeikoebmgaaKit
import Derived.Laws.EntriesVeiled
namespace Go.Proofs.Ytjekdeikoebmgaa
open Go.RowKit Go.Shelf Tr

theorem load_slice_cell (w : World) (O : Nat) (x : Value) (t : TypeId) (h : Blk w O #[x] t) : (loadVar 32 ⟨O, 0, none⟩).run Try.prog w = .ok x w := by
  have c := h.cell 0 x rfl
  go_simp
/-- The variable out holds x, which are these hashes; rows lie behind both variables. -/
structure OutI (w : World) (O : Nat) (x : Value) (hs : List (List UInt8)) : Prop where
  blk : Blk w O #[x] 32
  own : OwnH w (O + 2) x hs
  all : All32 hs
theorem storeV {P : Program} {l : List Oper} {Q : Exit → Act → World → Prop} {K : Act → World → Prop} {i : Nat} {o : Oper} {a : Act} {w w' : World} (ho : l[i]? = some o) (hg : o.guard = none) (ty : TypeId) (x y : Operand) (hop : o.op = .store ty x y)
    (p u : Value) (hx : a.eval x = p) (hy : a.eval y = u) (hs : (Instr.storeAt ty p u).run P w = .ok () w') (h : K (a.put o.dst undef) w') : wpOp P l.toArray Q i K a w := by
  refine callL ho hg ?_
  unfold Oper.wp execOp
  simp only [hop, hx, hy, Sem.run_bind, Sem.run_pure, Result.andThen_ok, hs]
  exact h
theorem store_slice_cell (w : World) (O : Nat) (x : Value) (t : TypeId) (h : Blk w O #[x] t) (a : Option Addr) (n c : Nat) : (Instr.storeAt 32 (.pointer (some ⟨O, 0, none⟩)) (.slice a n c)).run Try.prog w = .ok () (w.setCell ⟨O, 0, none⟩ (.slice a n c)) := by
  have h1 := h.cell 0 x rfl
  have h2 := h.frozen 0
  go_simp
theorem OwnV.form {w : World} {base sz n : Nat} {v : Value} {cs : List Value} (h : OwnV w base sz v n cs) : ∃ a m c, v = .slice a m c := by
  rcases h with ⟨h, _⟩ | ⟨g, cap, h, _⟩
  · exact ⟨_, _, _, h⟩
  · exact ⟨_, _, _, h⟩
/-- Blocks before O and block O + 1 lie as they lay. -/
structure GB (O : Nat) (w w' : World) : Prop where
  b : Below O w w'
  f : w'.heap[O + 1]? = w.heap[O + 1]?
theorem GB.trans {O : Nat} {a b c : World} (h : GB O a b) (k : GB O b c) : GB O a c := ⟨h.b.trans k.b, k.f.trans h.f⟩
theorem GB.of {O : Nat} {a b : World} (h : Below a.heap.size a b) (hO : O + 2 ≤ a.heap.size) : GB O a b := ⟨h.mono (by omega), h.block _ (by omega)⟩
/-- The list grown by one, stored back into its variable. -/
theorem OutI.push {w1 w2 : World} {O : Nat} {x x' : Value} {hs : List (List UInt8)} {y : List UInt8} (hB : Blk w1 O #[x] 32) (hx : OwnH w1 (O + 2) x hs) (hl : O + 2 ≤ w1.heap.size) (ha : All32 hs) (hy : y.length = 32) (hO : OwnH w2 (O + 2) x' (hs ++ [y])) (hg : w1.grownBy w2 (blkOf x)) :
    (Instr.storeAt 32 (.pointer (some ⟨O, 0, none⟩)) x').run Try.prog w2 = .ok () (w2.setCell ⟨O, 0, none⟩ x') ∧ OutI (w2.setCell ⟨O, 0, none⟩ x') O x' (hs ++ [y]) ∧ (∀ w, Below (O + 2) w w1 → GB O w (w2.setCell ⟨O, 0, none⟩ x')) := by
  have hB2 : Blk w2 O #[x] 32 := (hg.block O hB.lt (fun e => by have := hx.blk O e.symm; omega)).trans hB
  obtain ⟨a, m, c, rfl⟩ := hO.form
  refine ⟨store_slice_cell w2 O x _ hB2 a m c, ⟨hB2.set 0 _, hO.keep (by simp) (fun g e hlt => Below.heap_setCell _ _ _ _ (by have := hO.blk g e; show g ≠ O; omega)), ?_⟩, fun w hb => ?_⟩
  · intro z hz
    rcases List.mem_append.1 hz with h | h
    · exact ha z h
    · rw [List.mem_singleton.1 h]; exact hy
  · refine ⟨(below_of_grown (B := O) (hb.mono (by omega)) hg (by omega) (fun g e => by have := hx.blk g e; omega)).setCell (Nat.le_refl _) _, ?_⟩
    rw [Below.heap_setCell w2 ⟨O, 0, none⟩ (.slice a m c) (O + 1) (by show O + 1 ≠ O; omega), hg.block (O + 1) (by omega) (fun e => by have := hx.blk _ e.symm; omega), hb.block (O + 1) (by omega)]
set_option maxRecDepth 100000 in
set_option maxHeartbeats 1000000 in
theorem gr2 (u1 u2 u4 u5 u6 u7 u8 u9 u10 u11 u12 u13 u14 u15 u16 u17 u18 u19 u20 u21 u22 u23 u24 u25 u26 u27 u28 u29 u30 u31 u32 u33 u34 u35 u36 u37 u38 u39 u40 u41 u42 u43 u44 u45 u46 u47 u48 u49 u50 u51 u52 u53 u54 : Value) (O : Nat) (v x : Value) (l hs : List (List UInt8)) (w : World) (hS : Small l) (hA : SArg w v l) (hI : OutI w O x hs) (hsz : O + 2 ≤ w.heap.size) (hn : hs.length ≤ 4398046511000) (Q : Exit → Act → World → Prop)
    (h : ∀ (y15 y16 y17 y18 y19 x' : Value) (w' : World), OutI w' O x' (hs ++ [root l]) → GB O w w' → Q .normal ⟨(v :: u1 :: u2 :: (.pointer (some ⟨O, 0, none⟩)) :: u4 :: u5 :: u6 :: u7 :: u8 :: u9 :: u10 :: u11 :: u12 :: u13 :: u14 :: y15 :: y16 :: y17 :: y18 :: y19 :: u20 :: u21 :: u22 :: u23 :: u24 :: u25 :: u26 :: u27 :: u28 :: u29 :: u30 :: u31 :: u32 :: u33 :: u34 :: u35 :: u36 :: u37 :: u38 :: u39 :: u40 :: u41 :: u42 :: u43 :: u44 :: u45 :: u46 :: u47 :: u48 :: u49 :: u50 :: u51 :: u52 :: u53 :: u54 :: []).toArray, []⟩ w') : Code.wp Try.prog (regionIn Try.f46 2) Q ⟨(v :: u1 :: u2 :: (.pointer (some ⟨O, 0, none⟩)) :: u4 :: u5 :: u6 :: u7 :: u8 :: u9 :: u10 :: u11 :: u12 :: u13 :: u14 :: u15 :: u16 :: u17 :: u18 :: u19 :: u20 :: u21 :: u22 :: u23 :: u24 :: u25 :: u26 :: u27 :: u28 :: u29 :: u30 :: u31 :: u32 :: u33 :: u34 :: u35 :: u36 :: u37 :: u38 :: u39 :: u40 :: u41 :: u42 :: u43 :: u44 :: u45 :: u46 :: u47 :: u48 :: u49 :: u50 :: u51 :: u52 :: u53 :: u54 :: []).toArray, []⟩ w := by
  have HX := Lib.hid h
  clear h
  have hO : O < w.heap.size := by omega
  conv => arg 2; whnf
  refine wp_region_noPanic ?_
  refine wp_region_any (by kernel_rfl) ?_
  refine takeL 5 1 v rfl (by kernel_rfl) (by kernel_rfl) (by kernel_rfl) (fun _ _ _ h => h) (yields_move rfl rfl rfl) ?_
  simp only [Act.put, List.setIfInBounds_toArray, List.set_cons_zero, List.set_cons_succ]
  refine wpAny_all (fuel := 4) (rs := [0, 2]) (by kernel_rfl) (by simp) ?_
  intro i hi
  rcases List.mem_cons.1 hi with rfl | hi
  · skip
    have LX := load_slice_cell { w with drawn := w.drawn + 1 } O x _ (hI.blk)
    refine loadL rfl rfl 32 (.tmp 3) rfl ⟨O, 0, none⟩ x rfl LX ?_
    simp only [Act.put, List.setIfInBounds_toArray, List.set_cons_zero, List.set_cons_succ]
    refine wpAny_all (fuel := 3) (rs := [2]) (by kernel_rfl) (by simp) ?_
    intro i hi
    obtain rfl := List.mem_singleton.1 hi
    refine callL rfl rfl ?_
    go_simp
    refine (Root_any l.length l v w.drew (Nat.le_refl _) hS (hA.below ((Below.refl _ _).drew))).mono ?_
    rintro e w1 ⟨rfl, hb1⟩
    have hb0 : Below w.heap.size w w1 := Below.ofDrew hb1
    have hB1 : Blk w1 O #[x] 32 := hI.blk.below hb0 hO
    have hX1 : OwnH w1 (O + 2) x hs := hI.own.below hb0
    have hl1 : O + 2 ≤ w1.heap.size := Nat.le_trans hsz hb0.size
    obtain ⟨x', w2, hap, hO2, hgr, hblk⟩ := run_append_hash w1 (O + 2) x hs hX1 hl1 (root l) (root_length l) (by omega)
    have hbs := run_build1 (root l) (root_length l) w1
    obtain ⟨hst, hI2, hbe⟩ := OutI.push hB1 hX1 hl1 hI.all (root_length l) hO2 hgr
    refine wpAny_all (fuel := 2) (rs := [3]) (by kernel_rfl) (by simp) ?_
    intro i hi
    obtain rfl := List.mem_singleton.1 hi
    refine buildL rfl rfl 32 1 #[(0, .tmp 17)] rfl #[(0, .agg (hrow (root l)))] rfl _ hbs ?_
    simp only [Act.put, List.setIfInBounds_toArray, List.set_cons_zero, List.set_cons_succ]
    refine wpAny_all (fuel := 1) (rs := [4]) (by kernel_rfl) (by simp) ?_
    intro i hi
    obtain rfl := List.mem_singleton.1 hi
    refine appendL rfl rfl (.tmp 15) (.tmp 18) 32 32 rfl x _ rfl rfl x' hap ?_
    simp only [Act.put, List.setIfInBounds_toArray, List.set_cons_zero, List.set_cons_succ]
    refine wpAny_all (fuel := 0) (rs := [5]) (by kernel_rfl) (by simp) ?_
    intro i hi
    obtain rfl := List.mem_singleton.1 hi
    refine storeV rfl rfl 32 (.tmp 3) (.tmp 19) rfl (.pointer (some ⟨O, 0, none⟩)) x' rfl rfl hst ?_
    refine wpAny_done (by kernel_rfl) ?_ 0
    exact HX.out _ _ _ _ _ x' _ hI2 (hbe w (hb0.mono hsz))
  · obtain rfl := List.mem_singleton.1 hi
    refine callL rfl rfl ?_
    go_simp
    refine (Root_any l.length l v w.drew (Nat.le_refl _) hS (hA.below ((Below.refl _ _).drew))).mono ?_
    rintro e w1 ⟨rfl, hb1⟩
    have hb0 : Below w.heap.size w w1 := Below.ofDrew hb1
    have hB1 : Blk w1 O #[x] 32 := hI.blk.below hb0 hO
    have hX1 : OwnH w1 (O + 2) x hs := hI.own.below hb0
    have hl1 : O + 2 ≤ w1.heap.size := Nat.le_trans hsz hb0.size
    obtain ⟨x', w2, hap, hO2, hgr, hblk⟩ := run_append_hash w1 (O + 2) x hs hX1 hl1 (root l) (root_length l) (by omega)
    have hbs := run_build1 (root l) (root_length l) w1
    obtain ⟨hst, hI2, hbe⟩ := OutI.push hB1 hX1 hl1 hI.all (root_length l) hO2 hgr
    refine wpAny_all (fuel := 3) (rs := [0, 3]) (by kernel_rfl) (by simp) ?_
    intro i hi
    rcases List.mem_cons.1 hi with rfl | hi
    · skip
      have LX := load_slice_cell w1 O x _ (hB1)
      refine loadL rfl rfl 32 (.tmp 3) rfl ⟨O, 0, none⟩ x rfl LX ?_
      simp only [Act.put, List.setIfInBounds_toArray, List.set_cons_zero, List.set_cons_succ]
      refine wpAny_all (fuel := 2) (rs := [3]) (by kernel_rfl) (by simp) ?_
      intro i hi
      obtain rfl := List.mem_singleton.1 hi
      refine buildL rfl rfl 32 1 #[(0, .tmp 17)] rfl #[(0, .agg (hrow (root l)))] rfl _ hbs ?_
      simp only [Act.put, List.setIfInBounds_toArray, List.set_cons_zero, List.set_cons_succ]
      refine wpAny_all (fuel := 1) (rs := [4]) (by kernel_rfl) (by simp) ?_
      intro i hi
      obtain rfl := List.mem_singleton.1 hi
      refine appendL rfl rfl (.tmp 15) (.tmp 18) 32 32 rfl x _ rfl rfl x' hap ?_
      simp only [Act.put, List.setIfInBounds_toArray, List.set_cons_zero, List.set_cons_succ]
      refine wpAny_all (fuel := 0) (rs := [5]) (by kernel_rfl) (by simp) ?_
      intro i hi
      obtain rfl := List.mem_singleton.1 hi
      refine storeV rfl rfl 32 (.tmp 3) (.tmp 19) rfl (.pointer (some ⟨O, 0, none⟩)) x' rfl rfl hst ?_
      refine wpAny_done (by kernel_rfl) ?_ 0
      exact HX.out _ _ _ _ _ x' _ hI2 (hbe w (hb0.mono hsz))
    · obtain rfl := List.mem_singleton.1 hi
      refine buildL rfl rfl 32 1 #[(0, .tmp 17)] rfl #[(0, .agg (hrow (root l)))] rfl _ hbs ?_
      simp only [Act.put, List.setIfInBounds_toArray, List.set_cons_zero, List.set_cons_succ]
      refine wpAny_all (fuel := 2) (rs := [0]) (by kernel_rfl) (by simp) ?_
      intro i hi
      obtain rfl := List.mem_singleton.1 hi
      have LX := load_slice_cell (w1.alloc (.cells (hrow (root l)) 24)) O x _ (hB1.alloc _)
      refine loadL rfl rfl 32 (.tmp 3) rfl ⟨O, 0, none⟩ x rfl LX ?_
      simp only [Act.put, List.setIfInBounds_toArray, List.set_cons_zero, List.set_cons_succ]
      refine wpAny_all (fuel := 1) (rs := [4]) (by kernel_rfl) (by simp) ?_
      intro i hi
      obtain rfl := List.mem_singleton.1 hi
      refine appendL rfl rfl (.tmp 15) (.tmp 18) 32 32 rfl x _ rfl rfl x' hap ?_
      simp only [Act.put, List.setIfInBounds_toArray, List.set_cons_zero, List.set_cons_succ]
      refine wpAny_all (fuel := 0) (rs := [5]) (by kernel_rfl) (by simp) ?_
      intro i hi
      obtain rfl := List.mem_singleton.1 hi
      refine storeV rfl rfl 32 (.tmp 3) (.tmp 19) rfl (.pointer (some ⟨O, 0, none⟩)) x' rfl rfl hst ?_
      refine wpAny_done (by kernel_rfl) ?_ 0
      exact HX.out _ _ _ _ _ x' _ hI2 (hbe w (hb0.mono hsz))
theorem slice_lo (g o n cap k : Nat) (h1 : k < n) (h2 : n ≤ cap) (w : World) : (Instr.sliceAt 22 (.slice (some ⟨g, o, none⟩) n cap) (some (.int .i64 k)) none none).run Try.prog w = .ok (.slice (some ⟨g, o + k, none⟩) (n - k) (cap - k)) w := by
  have e0 : (k : Int) ≤ (n : Int) := by omega
  have e1 : k < cap := by omega
  go_simp
  omega
theorem slice_hi (g o n cap k : Nat) (h0 : 0 < k) (h1 : k < n) (h2 : n ≤ cap) (w : World) : (Instr.sliceAt 22 (.slice (some ⟨g, o, none⟩) n cap) none (some (.int .i64 k)) none).run Try.prog w = .ok (.slice (some ⟨g, o, none⟩) k cap) w := by
  have e0 : (k : Int) ≤ (cap : Int) := by omega
  have e1 : 0 < cap := by omega
  go_simp
theorem yields_slice {P : Program} {ops : Array Oper} {o : Oper} {a : Act} {t : TypeId} {x : Operand} {lo hi mx : Option Operand} {v : Value} (hop : o.op = .slice t x lo hi mx) (hg : o.guard = none) (hr : ∀ w, (Instr.sliceAt t (a.eval x) (lo.map a.eval) (hi.map a.eval) (mx.map a.eval)).run P w = .ok v w) : Yields P ops o v a :=
  .inl ⟨by simp [Region.wanted, hg], fun w => by unfold execOp; simp [hop, hr w]⟩
set_option maxRecDepth 100000 in
set_option maxHeartbeats 1000000 in
theorem gr6 (u1 u2 u4 u5 u6 u7 u9 u10 u11 u12 u13 u14 u15 u16 u17 u18 u19 u20 u21 u22 u23 u24 u25 u26 u27 u28 u29 u30 u31 u32 u33 u34 u35 u36 u37 u38 u39 u40 u41 u42 u43 u44 u45 u46 u47 u48 u49 u50 u51 u52 u53 u54 : Value) (O g o cap k : Nat) (x : Value) (l hs : List (List UInt8)) (w : World) (hS : Small l) (hA : SAt w g o l) (hI : OutI w O x hs) (hsz : O + 2 ≤ w.heap.size) (hn : hs.length ≤ 4398046511000)
    (hk : k < l.length) (hcap : l.length ≤ cap) (Q : Exit → Act → World → Prop)
    (h : ∀ (y33 y34 y35 y36 y37 y38 y39 x' : Value) (w' : World), OutI w' O x' (hs ++ [root (l.drop k)]) → GB O w w' → Q .normal ⟨((.slice (some ⟨g, o, none⟩) l.length cap) :: u1 :: u2 :: (.pointer (some ⟨O, 0, none⟩)) :: u4 :: u5 :: u6 :: u7 :: (.int .i64 k) :: u9 :: u10 :: u11 :: u12 :: u13 :: u14 :: u15 :: u16 :: u17 :: u18 :: u19 :: u20 :: u21 :: u22 :: u23 :: u24 :: u25 :: u26 :: u27 :: u28 :: u29 :: u30 :: u31 :: u32 :: y33 :: y34 :: y35 :: y36 :: y37 :: y38 :: y39 :: u40 :: u41 :: u42 :: u43 :: u44 :: u45 :: u46 :: u47 :: u48 :: u49 :: u50 :: u51 :: u52 :: u53 :: u54 :: []).toArray, []⟩ w') : Code.wp Try.prog (regionIn Try.f46 6) Q ⟨((.slice (some ⟨g, o, none⟩) l.length cap) :: u1 :: u2 :: (.pointer (some ⟨O, 0, none⟩)) :: u4 :: u5 :: u6 :: u7 :: (.int .i64 k) :: u9 :: u10 :: u11 :: u12 :: u13 :: u14 :: u15 :: u16 :: u17 :: u18 :: u19 :: u20 :: u21 :: u22 :: u23 :: u24 :: u25 :: u26 :: u27 :: u28 :: u29 :: u30 :: u31 :: u32 :: u33 :: u34 :: u35 :: u36 :: u37 :: u38 :: u39 :: u40 :: u41 :: u42 :: u43 :: u44 :: u45 :: u46 :: u47 :: u48 :: u49 :: u50 :: u51 :: u52 :: u53 :: u54 :: []).toArray, []⟩ w := by
  have HX := Lib.hid h
  clear h
  have hO : O < w.heap.size := by omega
  conv => arg 2; whnf
  refine wp_region_noPanic ?_
  refine wp_region_any (by kernel_rfl) ?_
  refine takeL 7 1 (.slice (some ⟨g, o, none⟩) l.length cap) rfl (by kernel_rfl) (by kernel_rfl) (by kernel_rfl) (fun _ _ _ h => h) (yields_move rfl rfl rfl) ?_
  simp only [Act.put, List.setIfInBounds_toArray, List.set_cons_zero, List.set_cons_succ]
  refine takeL 6 2 (.int .i64 k) rfl (by kernel_rfl) (by kernel_rfl) (by kernel_rfl) (fun _ _ _ h => h) (yields_move rfl rfl rfl) ?_
  simp only [Act.put, List.setIfInBounds_toArray, List.set_cons_zero, List.set_cons_succ]
  refine takeL 5 3 (.slice (some ⟨g, o + k, none⟩) (l.length - k) (cap - k)) rfl (by kernel_rfl) (by kernel_rfl) (by kernel_rfl) (fun _ _ _ h => h) (yields_slice rfl rfl (slice_lo g o l.length cap k hk hcap)) ?_
  simp only [Act.put, List.setIfInBounds_toArray, List.set_cons_zero, List.set_cons_succ]
  refine wpAny_all (fuel := 4) (rs := [0, 4]) (by kernel_rfl) (by simp) ?_
  intro i hi
  rcases List.mem_cons.1 hi with rfl | hi
  · skip
    have LX := load_slice_cell { w with drawn := w.drawn + 1 } O x _ (hI.blk)
    refine loadL rfl rfl 32 (.tmp 3) rfl ⟨O, 0, none⟩ x rfl LX ?_
    simp only [Act.put, List.setIfInBounds_toArray, List.set_cons_zero, List.set_cons_succ]
    refine wpAny_all (fuel := 3) (rs := [4]) (by kernel_rfl) (by simp) ?_
    intro i hi
    obtain rfl := List.mem_singleton.1 hi
    refine callL rfl rfl ?_
    go_simp
    refine (Root_any (l.drop k).length (l.drop k) (.slice (some ⟨g, o + k, none⟩) (l.length - k) (cap - k)) w.drew (Nat.le_refl _) (hS.drop k) (SArg.of (by simp) (by omega) ((hA.drop k).below ((Below.refl _ _).drew)))).mono ?_
    rintro e w1 ⟨rfl, hb1⟩
    have hb0 : Below w.heap.size w w1 := Below.ofDrew hb1
    have hB1 : Blk w1 O #[x] 32 := hI.blk.below hb0 hO
    have hX1 : OwnH w1 (O + 2) x hs := hI.own.below hb0
    have hl1 : O + 2 ≤ w1.heap.size := Nat.le_trans hsz hb0.size
    obtain ⟨x', w2, hap, hO2, hgr, hblk⟩ := run_append_hash w1 (O + 2) x hs hX1 hl1 (root (l.drop k)) (root_length (l.drop k)) (by omega)
    have hbs := run_build1 (root (l.drop k)) (root_length (l.drop k)) w1
    obtain ⟨hst, hI2, hbe⟩ := OutI.push hB1 hX1 hl1 hI.all (root_length (l.drop k)) hO2 hgr
    refine wpAny_all (fuel := 2) (rs := [5]) (by kernel_rfl) (by simp) ?_
    intro i hi
    obtain rfl := List.mem_singleton.1 hi
    refine buildL rfl rfl 32 1 #[(0, .tmp 37)] rfl #[(0, .agg (hrow (root (l.drop k))))] rfl _ hbs ?_
    simp only [Act.put, List.setIfInBounds_toArray, List.set_cons_zero, List.set_cons_succ]
    refine wpAny_all (fuel := 1) (rs := [6]) (by kernel_rfl) (by simp) ?_
    intro i hi
    obtain rfl := List.mem_singleton.1 hi
    refine appendL rfl rfl (.tmp 33) (.tmp 38) 32 32 rfl x _ rfl rfl x' hap ?_
    simp only [Act.put, List.setIfInBounds_toArray, List.set_cons_zero, List.set_cons_succ]
    refine wpAny_all (fuel := 0) (rs := [7]) (by kernel_rfl) (by simp) ?_
    intro i hi
    obtain rfl := List.mem_singleton.1 hi
    refine storeV rfl rfl 32 (.tmp 3) (.tmp 39) rfl (.pointer (some ⟨O, 0, none⟩)) x' rfl rfl hst ?_
    refine wpAny_done (by kernel_rfl) ?_ 0
    exact HX.out _ _ _ _ _ _ _ x' _ hI2 (hbe w (hb0.mono hsz))
  · obtain rfl := List.mem_singleton.1 hi
    refine callL rfl rfl ?_
    go_simp
    refine (Root_any (l.drop k).length (l.drop k) (.slice (some ⟨g, o + k, none⟩) (l.length - k) (cap - k)) w.drew (Nat.le_refl _) (hS.drop k) (SArg.of (by simp) (by omega) ((hA.drop k).below ((Below.refl _ _).drew)))).mono ?_
    rintro e w1 ⟨rfl, hb1⟩
    have hb0 : Below w.heap.size w w1 := Below.ofDrew hb1
    have hB1 : Blk w1 O #[x] 32 := hI.blk.below hb0 hO
    have hX1 : OwnH w1 (O + 2) x hs := hI.own.below hb0
    have hl1 : O + 2 ≤ w1.heap.size := Nat.le_trans hsz hb0.size
    obtain ⟨x', w2, hap, hO2, hgr, hblk⟩ := run_append_hash w1 (O + 2) x hs hX1 hl1 (root (l.drop k)) (root_length (l.drop k)) (by omega)
    have hbs := run_build1 (root (l.drop k)) (root_length (l.drop k)) w1
    obtain ⟨hst, hI2, hbe⟩ := OutI.push hB1 hX1 hl1 hI.all (root_length (l.drop k)) hO2 hgr
    refine wpAny_all (fuel := 3) (rs := [0, 5]) (by kernel_rfl) (by simp) ?_
    intro i hi
    rcases List.mem_cons.1 hi with rfl | hi
    · skip
      have LX := load_slice_cell w1 O x _ (hB1)
      refine loadL rfl rfl 32 (.tmp 3) rfl ⟨O, 0, none⟩ x rfl LX ?_
      simp only [Act.put, List.setIfInBounds_toArray, List.set_cons_zero, List.set_cons_succ]
      refine wpAny_all (fuel := 2) (rs := [5]) (by kernel_rfl) (by simp) ?_
      intro i hi
      obtain rfl := List.mem_singleton.1 hi
      refine buildL rfl rfl 32 1 #[(0, .tmp 37)] rfl #[(0, .agg (hrow (root (l.drop k))))] rfl _ hbs ?_
      simp only [Act.put, List.setIfInBounds_toArray, List.set_cons_zero, List.set_cons_succ]
      refine wpAny_all (fuel := 1) (rs := [6]) (by kernel_rfl) (by simp) ?_
      intro i hi
      obtain rfl := List.mem_singleton.1 hi
      refine appendL rfl rfl (.tmp 33) (.tmp 38) 32 32 rfl x _ rfl rfl x' hap ?_
      simp only [Act.put, List.setIfInBounds_toArray, List.set_cons_zero, List.set_cons_succ]
      refine wpAny_all (fuel := 0) (rs := [7]) (by kernel_rfl) (by simp) ?_
      intro i hi
      obtain rfl := List.mem_singleton.1 hi
      refine storeV rfl rfl 32 (.tmp 3) (.tmp 39) rfl (.pointer (some ⟨O, 0, none⟩)) x' rfl rfl hst ?_
      refine wpAny_done (by kernel_rfl) ?_ 0
      exact HX.out _ _ _ _ _ _ _ x' _ hI2 (hbe w (hb0.mono hsz))
    · obtain rfl := List.mem_singleton.1 hi
      refine buildL rfl rfl 32 1 #[(0, .tmp 37)] rfl #[(0, .agg (hrow (root (l.drop k))))] rfl _ hbs ?_
      simp only [Act.put, List.setIfInBounds_toArray, List.set_cons_zero, List.set_cons_succ]
      refine wpAny_all (fuel := 2) (rs := [0]) (by kernel_rfl) (by simp) ?_
      intro i hi
      obtain rfl := List.mem_singleton.1 hi
      have LX := load_slice_cell (w1.alloc (.cells (hrow (root (l.drop k))) 24)) O x _ (hB1.alloc _)
      refine loadL rfl rfl 32 (.tmp 3) rfl ⟨O, 0, none⟩ x rfl LX ?_
      simp only [Act.put, List.setIfInBounds_toArray, List.set_cons_zero, List.set_cons_succ]
      refine wpAny_all (fuel := 1) (rs := [6]) (by kernel_rfl) (by simp) ?_
      intro i hi
      obtain rfl := List.mem_singleton.1 hi
      refine appendL rfl rfl (.tmp 33) (.tmp 38) 32 32 rfl x _ rfl rfl x' hap ?_
      simp only [Act.put, List.setIfInBounds_toArray, List.set_cons_zero, List.set_cons_succ]
      refine wpAny_all (fuel := 0) (rs := [7]) (by kernel_rfl) (by simp) ?_
      intro i hi
      obtain rfl := List.mem_singleton.1 hi
      refine storeV rfl rfl 32 (.tmp 3) (.tmp 39) rfl (.pointer (some ⟨O, 0, none⟩)) x' rfl rfl hst ?_
      refine wpAny_done (by kernel_rfl) ?_ 0
      exact HX.out _ _ _ _ _ _ _ x' _ hI2 (hbe w (hb0.mono hsz))
set_option maxRecDepth 100000 in
set_option maxHeartbeats 1000000 in
theorem gr8 (u1 u2 u4 u5 u6 u7 u9 u10 u11 u12 u13 u14 u15 u16 u17 u18 u19 u20 u21 u22 u23 u24 u25 u26 u27 u28 u29 u30 u31 u32 u33 u34 u35 u36 u37 u38 u39 u40 u41 u42 u43 u44 u45 u46 u47 u48 u49 u50 u51 u52 u53 u54 : Value) (O g o cap k : Nat) (x : Value) (l hs : List (List UInt8)) (w : World) (hS : Small l) (hA : SAt w g o l) (hI : OutI w O x hs) (hsz : O + 2 ≤ w.heap.size) (hn : hs.length ≤ 4398046511000)
    (hk0 : 0 < k) (hk : k < l.length) (hcap : l.length ≤ cap) (Q : Exit → Act → World → Prop)
    (h : ∀ (y48 y49 y50 y51 y52 y53 y54 x' : Value) (w' : World), OutI w' O x' (hs ++ [root (l.take k)]) → GB O w w' → Q .normal ⟨((.slice (some ⟨g, o, none⟩) l.length cap) :: u1 :: u2 :: (.pointer (some ⟨O, 0, none⟩)) :: u4 :: u5 :: u6 :: u7 :: (.int .i64 k) :: u9 :: u10 :: u11 :: u12 :: u13 :: u14 :: u15 :: u16 :: u17 :: u18 :: u19 :: u20 :: u21 :: u22 :: u23 :: u24 :: u25 :: u26 :: u27 :: u28 :: u29 :: u30 :: u31 :: u32 :: u33 :: u34 :: u35 :: u36 :: u37 :: u38 :: u39 :: u40 :: u41 :: u42 :: u43 :: u44 :: u45 :: u46 :: u47 :: y48 :: y49 :: y50 :: y51 :: y52 :: y53 :: y54 :: []).toArray, []⟩ w') : Code.wp Try.prog (regionIn Try.f46 8) Q ⟨((.slice (some ⟨g, o, none⟩) l.length cap) :: u1 :: u2 :: (.pointer (some ⟨O, 0, none⟩)) :: u4 :: u5 :: u6 :: u7 :: (.int .i64 k) :: u9 :: u10 :: u11 :: u12 :: u13 :: u14 :: u15 :: u16 :: u17 :: u18 :: u19 :: u20 :: u21 :: u22 :: u23 :: u24 :: u25 :: u26 :: u27 :: u28 :: u29 :: u30 :: u31 :: u32 :: u33 :: u34 :: u35 :: u36 :: u37 :: u38 :: u39 :: u40 :: u41 :: u42 :: u43 :: u44 :: u45 :: u46 :: u47 :: u48 :: u49 :: u50 :: u51 :: u52 :: u53 :: u54 :: []).toArray, []⟩ w := by
  have HX := Lib.hid h
  clear h
  have hO : O < w.heap.size := by omega
  conv => arg 2; whnf
  refine wp_region_noPanic ?_
  refine wp_region_any (by kernel_rfl) ?_
  refine takeL 7 1 (.slice (some ⟨g, o, none⟩) l.length cap) rfl (by kernel_rfl) (by kernel_rfl) (by kernel_rfl) (fun _ _ _ h => h) (yields_move rfl rfl rfl) ?_
  simp only [Act.put, List.setIfInBounds_toArray, List.set_cons_zero, List.set_cons_succ]
  refine takeL 6 2 (.int .i64 k) rfl (by kernel_rfl) (by kernel_rfl) (by kernel_rfl) (fun _ _ _ h => h) (yields_move rfl rfl rfl) ?_
  simp only [Act.put, List.setIfInBounds_toArray, List.set_cons_zero, List.set_cons_succ]
  refine takeL 5 3 (.slice (some ⟨g, o, none⟩) k cap) rfl (by kernel_rfl) (by kernel_rfl) (by kernel_rfl) (fun _ _ _ h => h) (yields_slice rfl rfl (slice_hi g o l.length cap k hk0 hk hcap)) ?_
  simp only [Act.put, List.setIfInBounds_toArray, List.set_cons_zero, List.set_cons_succ]
  refine wpAny_all (fuel := 4) (rs := [0, 4]) (by kernel_rfl) (by simp) ?_
  intro i hi
  rcases List.mem_cons.1 hi with rfl | hi
  · skip
    have LX := load_slice_cell { w with drawn := w.drawn + 1 } O x _ (hI.blk)
    refine loadL rfl rfl 32 (.tmp 3) rfl ⟨O, 0, none⟩ x rfl LX ?_
    simp only [Act.put, List.setIfInBounds_toArray, List.set_cons_zero, List.set_cons_succ]
    refine wpAny_all (fuel := 3) (rs := [4]) (by kernel_rfl) (by simp) ?_
    intro i hi
    obtain rfl := List.mem_singleton.1 hi
    refine callL rfl rfl ?_
    go_simp
    refine (Root_any (l.take k).length (l.take k) (.slice (some ⟨g, o, none⟩) k cap) w.drew (Nat.le_refl _) (hS.take k) (SArg.of (by simp; omega) (by omega) ((hA.take k).below ((Below.refl _ _).drew)))).mono ?_
    rintro e w1 ⟨rfl, hb1⟩
    have hb0 : Below w.heap.size w w1 := Below.ofDrew hb1
    have hB1 : Blk w1 O #[x] 32 := hI.blk.below hb0 hO
    have hX1 : OwnH w1 (O + 2) x hs := hI.own.below hb0
    have hl1 : O + 2 ≤ w1.heap.size := Nat.le_trans hsz hb0.size
    obtain ⟨x', w2, hap, hO2, hgr, hblk⟩ := run_append_hash w1 (O + 2) x hs hX1 hl1 (root (l.take k)) (root_length (l.take k)) (by omega)
    have hbs := run_build1 (root (l.take k)) (root_length (l.take k)) w1
    obtain ⟨hst, hI2, hbe⟩ := OutI.push hB1 hX1 hl1 hI.all (root_length (l.take k)) hO2 hgr
    refine wpAny_all (fuel := 2) (rs := [5]) (by kernel_rfl) (by simp) ?_
    intro i hi
    obtain rfl := List.mem_singleton.1 hi
    refine buildL rfl rfl 32 1 #[(0, .tmp 52)] rfl #[(0, .agg (hrow (root (l.take k))))] rfl _ hbs ?_
    simp only [Act.put, List.setIfInBounds_toArray, List.set_cons_zero, List.set_cons_succ]
    refine wpAny_all (fuel := 1) (rs := [6]) (by kernel_rfl) (by simp) ?_
    intro i hi
    obtain rfl := List.mem_singleton.1 hi
    refine appendL rfl rfl (.tmp 48) (.tmp 53) 32 32 rfl x _ rfl rfl x' hap ?_
    simp only [Act.put, List.setIfInBounds_toArray, List.set_cons_zero, List.set_cons_succ]
    refine wpAny_all (fuel := 0) (rs := [7]) (by kernel_rfl) (by simp) ?_
    intro i hi
    obtain rfl := List.mem_singleton.1 hi
    refine storeV rfl rfl 32 (.tmp 3) (.tmp 54) rfl (.pointer (some ⟨O, 0, none⟩)) x' rfl rfl hst ?_
    refine wpAny_done (by kernel_rfl) ?_ 0
    exact HX.out _ _ _ _ _ _ _ x' _ hI2 (hbe w (hb0.mono hsz))
  · obtain rfl := List.mem_singleton.1 hi
    refine callL rfl rfl ?_
    go_simp
    refine (Root_any (l.take k).length (l.take k) (.slice (some ⟨g, o, none⟩) k cap) w.drew (Nat.le_refl _) (hS.take k) (SArg.of (by simp; omega) (by omega) ((hA.take k).below ((Below.refl _ _).drew)))).mono ?_
    rintro e w1 ⟨rfl, hb1⟩
    have hb0 : Below w.heap.size w w1 := Below.ofDrew hb1
    have hB1 : Blk w1 O #[x] 32 := hI.blk.below hb0 hO
    have hX1 : OwnH w1 (O + 2) x hs := hI.own.below hb0
    have hl1 : O + 2 ≤ w1.heap.size := Nat.le_trans hsz hb0.size
    obtain ⟨x', w2, hap, hO2, hgr, hblk⟩ := run_append_hash w1 (O + 2) x hs hX1 hl1 (root (l.take k)) (root_length (l.take k)) (by omega)
    have hbs := run_build1 (root (l.take k)) (root_length (l.take k)) w1
    obtain ⟨hst, hI2, hbe⟩ := OutI.push hB1 hX1 hl1 hI.all (root_length (l.take k)) hO2 hgr
    refine wpAny_all (fuel := 3) (rs := [0, 5]) (by kernel_rfl) (by simp) ?_
    intro i hi
    rcases List.mem_cons.1 hi with rfl | hi
    · skip
      have LX := load_slice_cell w1 O x _ (hB1)
      refine loadL rfl rfl 32 (.tmp 3) rfl ⟨O, 0, none⟩ x rfl LX ?_
      simp only [Act.put, List.setIfInBounds_toArray, List.set_cons_zero, List.set_cons_succ]
      refine wpAny_all (fuel := 2) (rs := [5]) (by kernel_rfl) (by simp) ?_
      intro i hi
      obtain rfl := List.mem_singleton.1 hi
      refine buildL rfl rfl 32 1 #[(0, .tmp 52)] rfl #[(0, .agg (hrow (root (l.take k))))] rfl _ hbs ?_
      simp only [Act.put, List.setIfInBounds_toArray, List.set_cons_zero, List.set_cons_succ]
      refine wpAny_all (fuel := 1) (rs := [6]) (by kernel_rfl) (by simp) ?_
      intro i hi
      obtain rfl := List.mem_singleton.1 hi
      refine appendL rfl rfl (.tmp 48) (.tmp 53) 32 32 rfl x _ rfl rfl x' hap ?_
      simp only [Act.put, List.setIfInBounds_toArray, List.set_cons_zero, List.set_cons_succ]
      refine wpAny_all (fuel := 0) (rs := [7]) (by kernel_rfl) (by simp) ?_
      intro i hi
      obtain rfl := List.mem_singleton.1 hi
      refine storeV rfl rfl 32 (.tmp 3) (.tmp 54) rfl (.pointer (some ⟨O, 0, none⟩)) x' rfl rfl hst ?_
      refine wpAny_done (by kernel_rfl) ?_ 0
      exact HX.out _ _ _ _ _ _ _ x' _ hI2 (hbe w (hb0.mono hsz))
    · obtain rfl := List.mem_singleton.1 hi
      refine buildL rfl rfl 32 1 #[(0, .tmp 52)] rfl #[(0, .agg (hrow (root (l.take k))))] rfl _ hbs ?_
      simp only [Act.put, List.setIfInBounds_toArray, List.set_cons_zero, List.set_cons_succ]
      refine wpAny_all (fuel := 2) (rs := [0]) (by kernel_rfl) (by simp) ?_
      intro i hi
      obtain rfl := List.mem_singleton.1 hi
      have LX := load_slice_cell (w1.alloc (.cells (hrow (root (l.take k))) 24)) O x _ (hB1.alloc _)
      refine loadL rfl rfl 32 (.tmp 3) rfl ⟨O, 0, none⟩ x rfl LX ?_
      simp only [Act.put, List.setIfInBounds_toArray, List.set_cons_zero, List.set_cons_succ]
      refine wpAny_all (fuel := 1) (rs := [6]) (by kernel_rfl) (by simp) ?_
      intro i hi
      obtain rfl := List.mem_singleton.1 hi
      refine appendL rfl rfl (.tmp 48) (.tmp 53) 32 32 rfl x _ rfl rfl x' hap ?_
      simp only [Act.put, List.setIfInBounds_toArray, List.set_cons_zero, List.set_cons_succ]
      refine wpAny_all (fuel := 0) (rs := [7]) (by kernel_rfl) (by simp) ?_
      intro i hi
      obtain rfl := List.mem_singleton.1 hi
      refine storeV rfl rfl 32 (.tmp 3) (.tmp 54) rfl (.pointer (some ⟨O, 0, none⟩)) x' rfl rfl hst ?_
      refine wpAny_done (by kernel_rfl) ?_ 0
      exact HX.out _ _ _ _ _ _ _ x' _ hI2 (hbe w (hb0.mono hsz))
end Go.Proofs.Ytjekdeikoebmgaa
