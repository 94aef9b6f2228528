/- ShareSplits: for all coefficients and numbers, Split returns what the reference model returns; no condition. -/
import Derived.Test.YtdnabeldaighgaaPlb
namespace Go.Proofs.Ytdnabeldaighgaa.LSplits
open Go.ChangeShapes Go.WideShapes Go.ChangeAt Go.RowKit Go.Shelf Go.ChangeMaps Shr Pol

theorem storeRowL {P : Program} {l : List Oper} {Q : Exit → Act → World → Prop} {K : Act → World → Prop} {i : Nat} {o : Oper} {a : Act} {w : World} (ho : l[i]? = some o) (hg : o.guard = none) (ty : TypeId) (x y : Operand) (hop : o.op = .store ty x y)
    (g : Nat) (cs : Array Value) (hx : a.eval x = .pointer (some ⟨g, 0, none⟩)) (hy : a.eval y = .agg cs) (t : TypeId) (old : Array Value) (N : Blk w g old t) (hi : (P.info? ty).map (·.size) = some cs.size) (hs : old.size = cs.size) (h1 : cs.all (·.oneCell') = true)
    (h : K (a.put o.dst undef) (w.setRow g cs)) : wpOp P l.toArray Q i K a w :=
  callL ho hg (wp_store_row ty x y hop g cs hx hy t old N hi hs h1 h)
theorem allocL {P : Program} {l : List Oper} {Q : Exit → Act → World → Prop} {K : Act → World → Prop} {i : Nat} {o : Oper} {a : Act} {w : World} (ho : l[i]? = some o) (hg : o.guard = none) (t : TypeId) (hop : o.op = .alloc t)
    (zc : Array Value) (hz : (P.info? t).bind (·.zero) = some (.agg zc)) (h : K (a.put o.dst (.pointer (some ⟨w.heap.size, 0, none⟩))) (w.alloc (.cells zc t))) : wpOp P l.toArray Q i K a w := by
  refine callL ho hg ?_
  cases hi : P.info? t with
  | none => rw [hi] at hz; cases hz
  | some i =>
    rw [hi] at hz
    have hz : i.zero = some (.agg zc) := by simpa using hz
    unfold Oper.wp execOp
    simp [hop, Instr.alloc, zeroValue, typeInfo, hi, hz, newVar, Value.cells]
    exact h
theorem load_slice (w : World) (b o : Nat) (v : Value) (c : w.cell? ⟨b, o, none⟩ = some v) : (loadVar 22 ⟨b, o, none⟩).run Try.prog w = .ok v w := by go_simp
theorem load_int (w : World) (b o : Nat) (v : Value) (c : w.cell? ⟨b, o, none⟩ = some v) : (loadVar 3 ⟨b, o, none⟩).run Try.prog w = .ok v w := by go_simp
theorem zero42 : (Try.prog.info? 42).bind (·.zero) = some (.agg #[.slice none 0 0, .slice none 0 0]) := by kernel_rfl
theorem size42 : (Try.prog.info? 42).map (·.size) = some 2 := by kernel_rfl
def Two (W : World) (b : Nat) : Prop := ∃ m0 m1, Blk W b #[I m0, I m1] 43 ∧ In64 m0 ∧ In64 m1
theorem Two.get {W : World} {b : Nat} (h : Two W b) {k : Nat} (hk : k < 2) : ∃ m, In64 m ∧ W.cell? ⟨b, k, none⟩ = some (I m) ∧ W.frozen? ⟨b, k, none⟩ = false := by
  obtain ⟨m0, m1, B, h0, h1⟩ := h
  match k, hk with
  | 0, _ => exact ⟨m0, h0, B.cell 0 _ rfl, B.frozen 0⟩
  | 1, _ => exact ⟨m1, h1, B.cell 1 _ rfl, B.frozen 1⟩
theorem Two.set {W : World} {b : Nat} (h : Two W b) {k : Nat} (hk : k < 2) {x : Int} (hx : In64 x) : Two (W.setCell ⟨b, k, none⟩ (I x)) b := by
  obtain ⟨m0, m1, B, h0, h1⟩ := h
  match k, hk with
  | 0, _ => exact ⟨x, m1, B.set 0 _, hx, h1⟩
  | 1, _ => exact ⟨m0, x, B.set 1 _, h0, hx⟩
theorem Two.below {W W' : World} {b : Nat} (h : Two W b) (hb : Below W.heap.size W W') : Two W' b := by
  obtain ⟨m0, m1, B, h0, h1⟩ := h
  exact ⟨m0, m1, B.below hb B.lt, h0, h1⟩
set_option maxRecDepth 100000 in
set_option maxHeartbeats 2000000 in
theorem split_r2 (u2 u3 u4 u5 u6 u7 u8 u9 u10 u11 u12 u13 u14 u15 u16 u17 u18 u19 u20 u21 u22 u23 u24 u25 u26 u27 u28 u29 u30 u31 u32 u33 u34 u35 u36 u37 u38 u39 u40 u41 u42 u43 u44 u45 u46 u47 u48 u49 u50 u51 u52 u53 u54 u55 u56 u57 u58 u59 u60 u61 u62 u63 u64 u65 u66 u67 u68 u69 u70 u71 u72 u73 u74 u75 u76 u77 u78 u79 u80 u81 u82 u83 u84 u85 u86 u87 u88 v : Value) (ua : Option Addr) (np ucap M : Nat) (cs : List Int) (w : World) (C : Hid (∀ w', Below w.heap.size w w' → Calls Try.prog 12 #[v] w' fun e w'' => ∃ v', e = .returned v' ∧ OwnI w'' w'.heap.size v' cs ∧ Below w'.heap.size w' w''))
    (hmin : ∀ (w : World) (ts : Array TypeId) (t : TypeId), (Builtin.min_ ts t #[.int .i64 (np : Int), .int .i64 6]).run Try.prog w = .ok (.int .i64 (M : Int)) w)
    (hsl : ∀ w, (Instr.sliceAt 22 (.slice ua np ucap) none (some (.int .i64 (M : Int))) none).run Try.prog w = .ok (.slice ua M ucap) w) (Q : Exit → Act → World → Prop)
    (h : ∀ (y19 y20 y21 y22 y23 y24 y25 y26 v3 : Value) (b8 : Nat) (w' : World), IArg w' v3 cs → Blk w' b8 #[v3, .slice ua M ucap] 42 → w.heap.size ≤ b8 → Below w.heap.size w w' → Q .normal ⟨(v :: (.slice ua np ucap) :: u2 :: u3 :: u4 :: u5 :: u6 :: u7 :: (.pointer (some ⟨b8, 0, none⟩)) :: u9 :: u10 :: u11 :: u12 :: u13 :: u14 :: u15 :: u16 :: u17 :: u18 :: y19 :: y20 :: y21 :: y22 :: y23 :: y24 :: y25 :: y26 :: u27 :: u28 :: u29 :: u30 :: u31 :: u32 :: u33 :: u34 :: u35 :: u36 :: u37 :: u38 :: u39 :: u40 :: u41 :: u42 :: u43 :: u44 :: u45 :: u46 :: u47 :: u48 :: u49 :: u50 :: u51 :: u52 :: u53 :: u54 :: u55 :: u56 :: u57 :: u58 :: u59 :: u60 :: u61 :: u62 :: u63 :: u64 :: u65 :: u66 :: u67 :: u68 :: u69 :: u70 :: u71 :: u72 :: u73 :: u74 :: u75 :: u76 :: u77 :: u78 :: u79 :: u80 :: u81 :: u82 :: u83 :: u84 :: u85 :: u86 :: u87 :: u88 :: []).toArray, []⟩ w') : Code.wp Try.prog (regionIn Try.f5 2) Q ⟨(v :: (.slice ua np ucap) :: u2 :: u3 :: u4 :: u5 :: u6 :: u7 :: u8 :: u9 :: u10 :: u11 :: u12 :: u13 :: u14 :: u15 :: u16 :: u17 :: u18 :: u19 :: u20 :: u21 :: u22 :: u23 :: u24 :: u25 :: u26 :: u27 :: u28 :: u29 :: u30 :: u31 :: u32 :: u33 :: u34 :: u35 :: u36 :: u37 :: u38 :: u39 :: u40 :: u41 :: u42 :: u43 :: u44 :: u45 :: u46 :: u47 :: u48 :: u49 :: u50 :: u51 :: u52 :: u53 :: u54 :: u55 :: u56 :: u57 :: u58 :: u59 :: u60 :: u61 :: u62 :: u63 :: u64 :: u65 :: u66 :: u67 :: u68 :: u69 :: u70 :: u71 :: u72 :: u73 :: u74 :: u75 :: u76 :: u77 :: u78 :: u79 :: u80 :: u81 :: u82 :: u83 :: u84 :: u85 :: u86 :: u87 :: u88 :: []).toArray, []⟩ w := by
  have HX := Lib.hid h
  have hone : ∀ (v3 : Value) {W : World}, IArg W v3 cs → (#[v3, .slice ua M ucap] : Array Value).all (·.oneCell') = true := by
    intro v3 W hA
    obtain ⟨a, c, rfl, _⟩ := hA
    simp [Value.oneCell']
  clear h
  conv => arg 2; whnf
  refine wp_region_noPanic ?_
  refine wp_region_held (S := fun W => Below w.heap.size w W) (by kernel_rfl) ?_
  have HS : Below w.heap.size w { w with drawn := w.drawn + 1 } := (Below.refl _ w).drew
  generalize ({ w with drawn := w.drawn + 1 } : World) = w0 at *
  refine takeHd 9 0 v rfl (by kernel_rfl) (by kernel_rfl) (by kernel_rfl) (fun _ _ _ h => h) (Yields.yieldsIf (yields_move rfl rfl rfl)) HS ?_
  simp only [Act.put, List.setIfInBounds_toArray, List.set_cons_zero, List.set_cons_succ]
  refine takeHd 8 2 (.slice ua np ucap) rfl (by kernel_rfl) (by kernel_rfl) (by kernel_rfl) (fun _ _ _ h => h) (Yields.yieldsIf (yields_move rfl rfl rfl)) HS ?_
  simp only [Act.put, List.setIfInBounds_toArray, List.set_cons_zero, List.set_cons_succ]
  refine takeHd 7 3 (.slice ua np ucap) rfl (by kernel_rfl) (by kernel_rfl) (by kernel_rfl) (fun _ _ _ h => h) (Yields.yieldsIf (yields_move rfl rfl rfl)) HS ?_
  simp only [Act.put, List.setIfInBounds_toArray, List.set_cons_zero, List.set_cons_succ]
  refine takeHd 6 4 (.int .i64 (np : Int)) rfl (by kernel_rfl) (by kernel_rfl) (by kernel_rfl) (fun _ _ _ h => h) (Yields.yieldsIf (yields_field rfl (fun w => by unfold execOp; go_simp))) HS ?_
  simp only [Act.put, List.setIfInBounds_toArray, List.set_cons_zero, List.set_cons_succ]
  refine takeHd 5 5 (.int .i64 (M : Int)) rfl (by kernel_rfl) (by kernel_rfl) (by kernel_rfl) (fun _ _ _ h => h) (Yields.yieldsIf (yields_field rfl (fun w => by unfold execOp; go_simp))) HS ?_
  simp only [Act.put, List.setIfInBounds_toArray, List.set_cons_zero, List.set_cons_succ]
  refine takeHd 4 6 (.slice ua M ucap) rfl (by kernel_rfl) (by kernel_rfl) (by kernel_rfl) (fun _ _ _ h => h) (Yields.yieldsIf (yields_field rfl (fun w => by unfold execOp; go_simp))) HS ?_
  simp only [Act.put, List.setIfInBounds_toArray, List.set_cons_zero, List.set_cons_succ]
  refine wpAnyH_all (fuel := 3) (rs := [1, 8]) (by kernel_rfl) (by simp) ?_
  intro i hi
  rcases List.mem_cons.1 hi with rfl | hi
  · clear hi
    refine callL rfl rfl ?_
    go_simp
    refine (C.out _ HS).mono ?_
    rintro e w2 ⟨v3, rfl, o3, hb⟩
    obtain ⟨a3, c3, hv3, _⟩ := o3.form
    subst hv3
    have HS1 := HS.trans (hb.mono HS.size)
    refine ⟨HS1, ?_⟩
    try simp only [Act.put, List.setIfInBounds_toArray, List.set_cons_zero, List.set_cons_succ]
    refine takeHd 2 7 (.agg #[.slice a3 cs.length c3, .slice ua M ucap]) rfl (by kernel_rfl) (by kernel_rfl) (by kernel_rfl) (fun _ _ _ h => h) (Yields.yieldsIf (yields_field rfl (fun w => by unfold execOp; go_simp))) HS1 ?_
    simp only [Act.put, List.setIfInBounds_toArray, List.set_cons_zero, List.set_cons_succ]
    refine wpAnyH_all (fuel := 1) (rs := [8]) (by kernel_rfl) (by simp) ?_
    intro i hi
    obtain rfl := List.mem_singleton.1 hi
    refine allocL rfl rfl 42 rfl _ zero42 ?_
    simp only [Act.put, List.setIfInBounds_toArray, List.set_cons_zero, List.set_cons_succ]
    have HS2 := HS1.alloc HS1.size (.cells #[.slice none 0 0, .slice none 0 0] 42)
    refine ⟨HS2, ?_⟩
    refine wpAnyH_all (fuel := 0) (rs := [9]) (by kernel_rfl) (by simp) ?_
    intro i hi
    obtain rfl := List.mem_singleton.1 hi
    have B8 := Blk.new w2 #[.slice none 0 0, .slice none 0 0] 42
    have hA := o3.iarg.below ((Below.refl w2.heap.size w2).alloc (Nat.le_refl _) (.cells #[.slice none 0 0, .slice none 0 0] 42))
    have b3 : Below w2.heap.size w2 ((w2.alloc (.cells #[.slice none 0 0, .slice none 0 0] 42)).setRow w2.heap.size #[.slice a3 cs.length c3, .slice ua M ucap]) := Below.setRow ((Below.refl w2.heap.size w2).alloc (Nat.le_refl _) _) (Nat.le_refl _) _
    refine storeRowL rfl rfl 42 (.tmp 8) (.tmp 26) rfl w2.heap.size #[.slice a3 cs.length c3, .slice ua M ucap] rfl rfl 42 _ B8 size42 rfl (hone _ (o3.iarg)) ?_
    simp only [Act.put]
    have HS3 := HS1.trans (b3.mono HS1.size)
    refine ⟨HS3, ?_⟩
    refine wpAnyH_done (by kernel_rfl) ?_ 0
    refine NoPanic.normal ?_
    exact HX.out _ _ _ _ _ _ _ _ _ w2.heap.size _ (o3.iarg.below b3) (B8.row _) HS1.size HS3
  · obtain rfl := List.mem_singleton.1 hi
    clear hi
    refine allocL rfl rfl 42 rfl _ zero42 ?_
    simp only [Act.put, List.setIfInBounds_toArray, List.set_cons_zero, List.set_cons_succ]
    have HS1 := HS.alloc HS.size (.cells #[.slice none 0 0, .slice none 0 0] 42)
    have B8 := Blk.new w0 #[.slice none 0 0, .slice none 0 0] 42
    have hs0 := HS.size
    refine ⟨HS1, ?_⟩
    refine wpAnyH_all (fuel := 2) (rs := [1]) (by kernel_rfl) (by simp) ?_
    intro i hi
    obtain rfl := List.mem_singleton.1 hi
    refine callL rfl rfl ?_
    go_simp
    refine (C.out _ HS1).mono ?_
    rintro e w2 ⟨v3, rfl, o3, hb⟩
    obtain ⟨a3, c3, hv3, _⟩ := o3.form
    subst hv3
    have HS2 := HS1.trans (hb.mono HS1.size)
    have B82 := B8.below hb B8.lt
    refine ⟨HS2, ?_⟩
    try simp only [Act.put, List.setIfInBounds_toArray, List.set_cons_zero, List.set_cons_succ]
    refine takeHd 1 7 (.agg #[.slice a3 cs.length c3, .slice ua M ucap]) rfl (by kernel_rfl) (by kernel_rfl) (by kernel_rfl) (fun _ _ _ h => h) (Yields.yieldsIf (yields_field rfl (fun w => by unfold execOp; go_simp))) HS2 ?_
    simp only [Act.put, List.setIfInBounds_toArray, List.set_cons_zero, List.set_cons_succ]
    refine wpAnyH_all (fuel := 0) (rs := [9]) (by kernel_rfl) (by simp) ?_
    intro i hi
    obtain rfl := List.mem_singleton.1 hi
    refine storeRowL rfl rfl 42 (.tmp 8) (.tmp 26) rfl w0.heap.size #[.slice a3 cs.length c3, .slice ua M ucap] rfl rfl 42 _ B82 size42 rfl (hone _ (o3.iarg)) ?_
    simp only [Act.put]
    have HS3 := Below.setRow HS2 hs0 #[.slice a3 cs.length c3, .slice ua M ucap]
    have hA3 : IArg (w2.setRow w0.heap.size #[.slice a3 cs.length c3, .slice ua M ucap]) (.slice a3 cs.length c3) cs := (o3.grown (grown_row (World.grownBy.refl w2 (some w0.heap.size)) #[.slice a3 cs.length c3, .slice ua M ucap]) (fun g hg e => by injection e with e; have := o3.blk g hg; have := B8.lt; omega)).iarg
    refine ⟨HS3, ?_⟩
    refine wpAnyH_done (by kernel_rfl) ?_ 0
    refine NoPanic.normal ?_
    exact HX.out _ _ _ _ _ _ _ _ _ w0.heap.size _ hA3 (B82.row _) hs0 HS3

set_option maxRecDepth 100000 in
set_option maxHeartbeats 2000000 in
theorem split_r12 (u0 u1 u2 u3 u4 u5 u6 u7 u12 u13 u14 u15 u16 u17 u18 u19 u20 u21 u22 u23 u24 u25 u26 u27 u28 u29 u30 u31 u32 u33 u34 u35 u36 u37 u38 u39 u40 u41 u42 u43 u44 u45 u46 u47 u48 u49 u50 u51 u52 u53 u54 u55 u56 u57 u58 u59 u60 u61 u62 u63 u64 u65 u66 u67 u68 u69 u70 u71 u72 u73 u74 u75 u76 u77 u78 u79 u80 u81 u82 u83 u84 u85 u86 u87 u88 vi : Value) (b8 b9 i k : Nat) (li : List Int) (m : Int) (w : World) (c8 : w.cell? ⟨b8, i, none⟩ = some vi) (c9 : w.cell? ⟨b9, k, none⟩ = some (I m)) (hi2 : (i : Int) < 2) (hk2 : (k : Int) < 2)
    (C : Hid (∀ w', Below w.heap.size w w' → Calls Try.prog 23 #[vi, I m] w' (SplQ w' li m))) (Q : Exit → Act → World → Prop)
    (h : ∀ (y51 y52 y53 y54 y55 y56 y57 y58 y59 y60 y61 v1 v2 : Value) (w' : World), ShArg w' v1 (spS li m) → IArg w' v2 (cmS li m) → Below w.heap.size w w' → Q .normal ⟨(u0 :: u1 :: u2 :: u3 :: u4 :: u5 :: u6 :: u7 :: (.pointer (some ⟨b8, 0, none⟩)) :: (.pointer (some ⟨b9, 0, none⟩)) :: (.int .i64 (i : Int)) :: (.int .i64 (k : Int)) :: v1 :: v2 :: (.bool (okS li m)) :: u15 :: u16 :: u17 :: u18 :: u19 :: u20 :: u21 :: u22 :: u23 :: u24 :: u25 :: u26 :: u27 :: u28 :: u29 :: u30 :: u31 :: u32 :: u33 :: u34 :: u35 :: u36 :: u37 :: u38 :: u39 :: u40 :: u41 :: u42 :: u43 :: u44 :: u45 :: u46 :: u47 :: u48 :: u49 :: u50 :: y51 :: y52 :: y53 :: y54 :: y55 :: y56 :: y57 :: y58 :: y59 :: y60 :: y61 :: u62 :: u63 :: u64 :: u65 :: u66 :: u67 :: u68 :: u69 :: u70 :: u71 :: u72 :: u73 :: u74 :: u75 :: u76 :: u77 :: u78 :: u79 :: u80 :: u81 :: u82 :: u83 :: u84 :: u85 :: u86 :: u87 :: u88 :: []).toArray, []⟩ w') : Code.wp Try.prog (regionIn Try.f5 12) Q ⟨(u0 :: u1 :: u2 :: u3 :: u4 :: u5 :: u6 :: u7 :: (.pointer (some ⟨b8, 0, none⟩)) :: (.pointer (some ⟨b9, 0, none⟩)) :: (.int .i64 (i : Int)) :: (.int .i64 (k : Int)) :: u12 :: u13 :: u14 :: u15 :: u16 :: u17 :: u18 :: u19 :: u20 :: u21 :: u22 :: u23 :: u24 :: u25 :: u26 :: u27 :: u28 :: u29 :: u30 :: u31 :: u32 :: u33 :: u34 :: u35 :: u36 :: u37 :: u38 :: u39 :: u40 :: u41 :: u42 :: u43 :: u44 :: u45 :: u46 :: u47 :: u48 :: u49 :: u50 :: u51 :: u52 :: u53 :: u54 :: u55 :: u56 :: u57 :: u58 :: u59 :: u60 :: u61 :: u62 :: u63 :: u64 :: u65 :: u66 :: u67 :: u68 :: u69 :: u70 :: u71 :: u72 :: u73 :: u74 :: u75 :: u76 :: u77 :: u78 :: u79 :: u80 :: u81 :: u82 :: u83 :: u84 :: u85 :: u86 :: u87 :: u88 :: []).toArray, []⟩ w := by
  have HX := Lib.hid h
  have f8 := After.cell c8
  have f9 := After.cell c9
  clear h c8 c9
  conv => arg 2; whnf
  refine wp_region_noPanic ?_
  refine wp_region_held (S := fun W => Below w.heap.size w W) (by kernel_rfl) ?_
  have HS : Below w.heap.size w { w with drawn := w.drawn + 1 } := (Below.refl _ w).drew
  generalize ({ w with drawn := w.drawn + 1 } : World) = w0 at *
  refine takeHd 13 0 (.int .i64 (i : Int)) rfl (by kernel_rfl) (by kernel_rfl) (by kernel_rfl) (fun _ _ _ h => h) (Yields.yieldsIf (yields_move rfl rfl rfl)) HS ?_
  simp only [Act.put, List.setIfInBounds_toArray, List.set_cons_zero, List.set_cons_succ]
  refine takeHd 12 1 (.pointer (some ⟨b8, i, none⟩)) rfl (by kernel_rfl) (by kernel_rfl) (by kernel_rfl) (fun _ _ _ h => h) (Yields.yieldsIf (yields_field rfl (fun w => by unfold execOp; go_simp))) HS ?_
  simp only [Act.put, List.setIfInBounds_toArray, List.set_cons_zero, List.set_cons_succ]
  refine takeHd 11 2 vi rfl (by kernel_rfl) (by kernel_rfl) (by kernel_rfl) (fun _ _ _ h => h) (yieldsIf_load rfl 22 (.tmp 53) ⟨b8, i, none⟩ rfl rfl (fun W hW => load_slice W b8 i vi (f8 ⟨W, hW⟩))) HS ?_
  simp only [Act.put, List.setIfInBounds_toArray, List.set_cons_zero, List.set_cons_succ]
  refine takeHd 10 3 (.int .i64 (k : Int)) rfl (by kernel_rfl) (by kernel_rfl) (by kernel_rfl) (fun _ _ _ h => h) (Yields.yieldsIf (yields_move rfl rfl rfl)) HS ?_
  simp only [Act.put, List.setIfInBounds_toArray, List.set_cons_zero, List.set_cons_succ]
  refine takeHd 9 4 (.pointer (some ⟨b9, k, none⟩)) rfl (by kernel_rfl) (by kernel_rfl) (by kernel_rfl) (fun _ _ _ h => h) (Yields.yieldsIf (yields_field rfl (fun w => by unfold execOp; go_simp))) HS ?_
  simp only [Act.put, List.setIfInBounds_toArray, List.set_cons_zero, List.set_cons_succ]
  refine takeHd 8 5 (I m) rfl (by kernel_rfl) (by kernel_rfl) (by kernel_rfl) (fun _ _ _ h => h) (yieldsIf_load rfl 3 (.tmp 56) ⟨b9, k, none⟩ rfl rfl (fun W hW => load_int W b9 k (I m) (f9 ⟨W, hW⟩))) HS ?_
  simp only [Act.put, List.setIfInBounds_toArray, List.set_cons_zero, List.set_cons_succ]
  refine wpAnyH_all (fuel := 7) (rs := [6]) (by kernel_rfl) (by simp) ?_
  intro i hi
  obtain rfl := List.mem_singleton.1 hi
  clear hi
  refine callL rfl rfl ?_
  go_simp
  refine (C.out _ HS).mono ?_
  rintro e w2 ⟨v1, v2, rfl, o1, o2, hb, _⟩
  have HS1 := HS.trans (hb.mono HS.size)
  have HU := Lib.hid (And.intro (OwnV.sharg o1) (OwnV.iarg o2))
  clear o1 o2
  refine ⟨HS1, ?_⟩
  try simp only [Act.put, List.setIfInBounds_toArray, List.set_cons_zero, List.set_cons_succ]
  refine takeHd 6 7 (.tuple #[v1, v2, .bool (okS li m)]) rfl (by kernel_rfl) (by kernel_rfl) (by kernel_rfl) (fun _ _ _ h => h) (Yields.yieldsIf (yields_move rfl rfl rfl)) HS1 ?_
  simp only [Act.put, List.setIfInBounds_toArray, List.set_cons_zero, List.set_cons_succ]
  refine takeHd 5 8 v1 rfl (by kernel_rfl) (by kernel_rfl) (by kernel_rfl) (fun _ _ _ h => h) (Yields.yieldsIf (yields_field rfl (fun w => by unfold execOp; go_simp))) HS1 ?_
  simp only [Act.put, List.setIfInBounds_toArray, List.set_cons_zero, List.set_cons_succ]
  refine takeHd 4 9 v2 rfl (by kernel_rfl) (by kernel_rfl) (by kernel_rfl) (fun _ _ _ h => h) (Yields.yieldsIf (yields_field rfl (fun w => by unfold execOp; go_simp))) HS1 ?_
  simp only [Act.put, List.setIfInBounds_toArray, List.set_cons_zero, List.set_cons_succ]
  refine takeHd 3 10 (.bool (okS li m)) rfl (by kernel_rfl) (by kernel_rfl) (by kernel_rfl) (fun _ _ _ h => h) (Yields.yieldsIf (yields_field rfl (fun w => by unfold execOp; go_simp))) HS1 ?_
  simp only [Act.put, List.setIfInBounds_toArray, List.set_cons_zero, List.set_cons_succ]
  refine takeHd 2 11 v1 rfl (by kernel_rfl) (by kernel_rfl) (by kernel_rfl) (fun _ _ _ h => h) (Yields.yieldsIf (yields_field rfl (fun w => by unfold execOp; go_simp))) HS1 ?_
  simp only [Act.put, List.setIfInBounds_toArray, List.set_cons_zero, List.set_cons_succ]
  refine takeHd 1 12 v2 rfl (by kernel_rfl) (by kernel_rfl) (by kernel_rfl) (fun _ _ _ h => h) (Yields.yieldsIf (yields_field rfl (fun w => by unfold execOp; go_simp))) HS1 ?_
  simp only [Act.put, List.setIfInBounds_toArray, List.set_cons_zero, List.set_cons_succ]
  refine takeHd 0 13 (.bool (okS li m)) rfl (by kernel_rfl) (by kernel_rfl) (by kernel_rfl) (fun _ _ _ h => h) (Yields.yieldsIf (yields_field rfl (fun w => by unfold execOp; go_simp))) HS1 ?_
  simp only [Act.put, List.setIfInBounds_toArray, List.set_cons_zero, List.set_cons_succ]
  refine wpAnyH_done (by kernel_rfl) ?_ 0
  refine NoPanic.normal ?_
  exact HX.out _ _ _ _ _ _ _ _ _ _ _ v1 v2 _ HU.out.1 HU.out.2 HS1

set_option maxRecDepth 100000 in
set_option maxHeartbeats 2000000 in
theorem split_r13 (u0 u1 u2 u3 u4 u5 u6 u7 u12 u13 u14 u15 u16 u17 u18 u19 u20 u21 u22 u23 u24 u25 u26 u27 u28 u29 u30 u31 u32 u33 u34 u35 u36 u37 u38 u39 u40 u41 u42 u43 u44 u45 u46 u47 u48 u49 u50 u51 u52 u53 u54 u55 u56 u57 u58 u59 u60 u61 u62 u63 u64 u65 u66 u67 u68 u69 u70 u71 u72 u73 u74 u75 u76 u77 u78 u79 u80 u81 u82 u83 u84 u85 u86 u87 u88 vi : Value) (b8 b9 i k : Nat) (li : List Int) (m : Int) (w : World) (c8 : w.cell? ⟨b8, i, none⟩ = some vi) (c9 : w.cell? ⟨b9, k, none⟩ = some (I m)) (hi2 : (i : Int) < 2) (hk2 : (k : Int) < 2)
    (C : Hid (∀ w', Below w.heap.size w w' → Calls Try.prog 24 #[vi, I m] w' (SplQ w' li m))) (Q : Exit → Act → World → Prop)
    (h : ∀ (y62 y63 y64 y65 y66 y67 y68 y69 y70 y71 y72 v1 v2 : Value) (w' : World), ShArg w' v1 (spS li m) → IArg w' v2 (cmS li m) → Below w.heap.size w w' → Q .normal ⟨(u0 :: u1 :: u2 :: u3 :: u4 :: u5 :: u6 :: u7 :: (.pointer (some ⟨b8, 0, none⟩)) :: (.pointer (some ⟨b9, 0, none⟩)) :: (.int .i64 (i : Int)) :: (.int .i64 (k : Int)) :: u12 :: u13 :: u14 :: v1 :: v2 :: (.bool (okS li m)) :: u18 :: u19 :: u20 :: u21 :: u22 :: u23 :: u24 :: u25 :: u26 :: u27 :: u28 :: u29 :: u30 :: u31 :: u32 :: u33 :: u34 :: u35 :: u36 :: u37 :: u38 :: u39 :: u40 :: u41 :: u42 :: u43 :: u44 :: u45 :: u46 :: u47 :: u48 :: u49 :: u50 :: u51 :: u52 :: u53 :: u54 :: u55 :: u56 :: u57 :: u58 :: u59 :: u60 :: u61 :: y62 :: y63 :: y64 :: y65 :: y66 :: y67 :: y68 :: y69 :: y70 :: y71 :: y72 :: u73 :: u74 :: u75 :: u76 :: u77 :: u78 :: u79 :: u80 :: u81 :: u82 :: u83 :: u84 :: u85 :: u86 :: u87 :: u88 :: []).toArray, []⟩ w') : Code.wp Try.prog (regionIn Try.f5 13) Q ⟨(u0 :: u1 :: u2 :: u3 :: u4 :: u5 :: u6 :: u7 :: (.pointer (some ⟨b8, 0, none⟩)) :: (.pointer (some ⟨b9, 0, none⟩)) :: (.int .i64 (i : Int)) :: (.int .i64 (k : Int)) :: u12 :: u13 :: u14 :: u15 :: u16 :: u17 :: u18 :: u19 :: u20 :: u21 :: u22 :: u23 :: u24 :: u25 :: u26 :: u27 :: u28 :: u29 :: u30 :: u31 :: u32 :: u33 :: u34 :: u35 :: u36 :: u37 :: u38 :: u39 :: u40 :: u41 :: u42 :: u43 :: u44 :: u45 :: u46 :: u47 :: u48 :: u49 :: u50 :: u51 :: u52 :: u53 :: u54 :: u55 :: u56 :: u57 :: u58 :: u59 :: u60 :: u61 :: u62 :: u63 :: u64 :: u65 :: u66 :: u67 :: u68 :: u69 :: u70 :: u71 :: u72 :: u73 :: u74 :: u75 :: u76 :: u77 :: u78 :: u79 :: u80 :: u81 :: u82 :: u83 :: u84 :: u85 :: u86 :: u87 :: u88 :: []).toArray, []⟩ w := by
  have HX := Lib.hid h
  have f8 := After.cell c8
  have f9 := After.cell c9
  clear h c8 c9
  conv => arg 2; whnf
  refine wp_region_noPanic ?_
  refine wp_region_held (S := fun W => Below w.heap.size w W) (by kernel_rfl) ?_
  have HS : Below w.heap.size w { w with drawn := w.drawn + 1 } := (Below.refl _ w).drew
  generalize ({ w with drawn := w.drawn + 1 } : World) = w0 at *
  refine takeHd 13 0 (.int .i64 (i : Int)) rfl (by kernel_rfl) (by kernel_rfl) (by kernel_rfl) (fun _ _ _ h => h) (Yields.yieldsIf (yields_move rfl rfl rfl)) HS ?_
  simp only [Act.put, List.setIfInBounds_toArray, List.set_cons_zero, List.set_cons_succ]
  refine takeHd 12 1 (.pointer (some ⟨b8, i, none⟩)) rfl (by kernel_rfl) (by kernel_rfl) (by kernel_rfl) (fun _ _ _ h => h) (Yields.yieldsIf (yields_field rfl (fun w => by unfold execOp; go_simp))) HS ?_
  simp only [Act.put, List.setIfInBounds_toArray, List.set_cons_zero, List.set_cons_succ]
  refine takeHd 11 2 vi rfl (by kernel_rfl) (by kernel_rfl) (by kernel_rfl) (fun _ _ _ h => h) (yieldsIf_load rfl 22 (.tmp 64) ⟨b8, i, none⟩ rfl rfl (fun W hW => load_slice W b8 i vi (f8 ⟨W, hW⟩))) HS ?_
  simp only [Act.put, List.setIfInBounds_toArray, List.set_cons_zero, List.set_cons_succ]
  refine takeHd 10 3 (.int .i64 (k : Int)) rfl (by kernel_rfl) (by kernel_rfl) (by kernel_rfl) (fun _ _ _ h => h) (Yields.yieldsIf (yields_move rfl rfl rfl)) HS ?_
  simp only [Act.put, List.setIfInBounds_toArray, List.set_cons_zero, List.set_cons_succ]
  refine takeHd 9 4 (.pointer (some ⟨b9, k, none⟩)) rfl (by kernel_rfl) (by kernel_rfl) (by kernel_rfl) (fun _ _ _ h => h) (Yields.yieldsIf (yields_field rfl (fun w => by unfold execOp; go_simp))) HS ?_
  simp only [Act.put, List.setIfInBounds_toArray, List.set_cons_zero, List.set_cons_succ]
  refine takeHd 8 5 (I m) rfl (by kernel_rfl) (by kernel_rfl) (by kernel_rfl) (fun _ _ _ h => h) (yieldsIf_load rfl 3 (.tmp 67) ⟨b9, k, none⟩ rfl rfl (fun W hW => load_int W b9 k (I m) (f9 ⟨W, hW⟩))) HS ?_
  simp only [Act.put, List.setIfInBounds_toArray, List.set_cons_zero, List.set_cons_succ]
  refine wpAnyH_all (fuel := 7) (rs := [6]) (by kernel_rfl) (by simp) ?_
  intro i hi
  obtain rfl := List.mem_singleton.1 hi
  clear hi
  refine callL rfl rfl ?_
  go_simp
  refine (C.out _ HS).mono ?_
  rintro e w2 ⟨v1, v2, rfl, o1, o2, hb, _⟩
  have HS1 := HS.trans (hb.mono HS.size)
  have HU := Lib.hid (And.intro (OwnV.sharg o1) (OwnV.iarg o2))
  clear o1 o2
  refine ⟨HS1, ?_⟩
  try simp only [Act.put, List.setIfInBounds_toArray, List.set_cons_zero, List.set_cons_succ]
  refine takeHd 6 7 (.tuple #[v1, v2, .bool (okS li m)]) rfl (by kernel_rfl) (by kernel_rfl) (by kernel_rfl) (fun _ _ _ h => h) (Yields.yieldsIf (yields_move rfl rfl rfl)) HS1 ?_
  simp only [Act.put, List.setIfInBounds_toArray, List.set_cons_zero, List.set_cons_succ]
  refine takeHd 5 8 v1 rfl (by kernel_rfl) (by kernel_rfl) (by kernel_rfl) (fun _ _ _ h => h) (Yields.yieldsIf (yields_field rfl (fun w => by unfold execOp; go_simp))) HS1 ?_
  simp only [Act.put, List.setIfInBounds_toArray, List.set_cons_zero, List.set_cons_succ]
  refine takeHd 4 9 v2 rfl (by kernel_rfl) (by kernel_rfl) (by kernel_rfl) (fun _ _ _ h => h) (Yields.yieldsIf (yields_field rfl (fun w => by unfold execOp; go_simp))) HS1 ?_
  simp only [Act.put, List.setIfInBounds_toArray, List.set_cons_zero, List.set_cons_succ]
  refine takeHd 3 10 (.bool (okS li m)) rfl (by kernel_rfl) (by kernel_rfl) (by kernel_rfl) (fun _ _ _ h => h) (Yields.yieldsIf (yields_field rfl (fun w => by unfold execOp; go_simp))) HS1 ?_
  simp only [Act.put, List.setIfInBounds_toArray, List.set_cons_zero, List.set_cons_succ]
  refine takeHd 2 11 v1 rfl (by kernel_rfl) (by kernel_rfl) (by kernel_rfl) (fun _ _ _ h => h) (Yields.yieldsIf (yields_field rfl (fun w => by unfold execOp; go_simp))) HS1 ?_
  simp only [Act.put, List.setIfInBounds_toArray, List.set_cons_zero, List.set_cons_succ]
  refine takeHd 1 12 v2 rfl (by kernel_rfl) (by kernel_rfl) (by kernel_rfl) (fun _ _ _ h => h) (Yields.yieldsIf (yields_field rfl (fun w => by unfold execOp; go_simp))) HS1 ?_
  simp only [Act.put, List.setIfInBounds_toArray, List.set_cons_zero, List.set_cons_succ]
  refine takeHd 0 13 (.bool (okS li m)) rfl (by kernel_rfl) (by kernel_rfl) (by kernel_rfl) (fun _ _ _ h => h) (Yields.yieldsIf (yields_field rfl (fun w => by unfold execOp; go_simp))) HS1 ?_
  simp only [Act.put, List.setIfInBounds_toArray, List.set_cons_zero, List.set_cons_succ]
  refine wpAnyH_done (by kernel_rfl) ?_ 0
  refine NoPanic.normal ?_
  exact HX.out _ _ _ _ _ _ _ _ _ _ _ v1 v2 _ HU.out.1 HU.out.2 HS1

theorem spS_len (l : List Int) (n : Int) : (spS l n).length ≤ 1000 := by
  unfold spS
  split
  · rename_i h
    obtain ⟨_, _, _, _, h5⟩ := okS_parts h
    rw [shl_length]; omega
  · simp
theorem cmS_len (l : List Int) (n : Int) : (cmS l n).length ≤ 1000 := by
  unfold cmS
  split
  · rename_i h
    obtain ⟨_, h2, _, _, _⟩ := okS_parts h
    rw [coms_len]; omega
  · simp
set_option maxRecDepth 100000 in
set_option maxHeartbeats 2000000 in
theorem walk (w : World) (v u : Value) (l raw : List Int) (nn : Int) (hl : All64 l) (hl9 : l.length ≤ 9223372036854775807) (hA : IArg w v l) (hr : All64 raw) (hr9 : raw.length ≤ 9223372036854775807) (hR : IArg w u raw) (hn : In64 nn) :
    Calls Try.prog 5 #[v, u, I nn] w fun e w' => e = .returned (.bool true) ∧ Below w.heap.size w w' := by
  have C1 : Hid (∀ (w' : World) (hb : Below w.heap.size w w'), Calls Try.prog 12 #[v] w' fun e w'' => ∃ v', e = .returned v' ∧ OwnI w'' w'.heap.size v' (cofs l) ∧ Below w'.heap.size w' w'') := fun (w' : World) (hb : Below w.heap.size w w') => Coefs_any l v w' hl hl9 (hA.below hb)
  have hcs := cofs_blw l
  obtain ⟨hn1, hn2⟩ := cofs_len l
  generalize cofs l = cs at *
  have hc64 := all64_blw hcs
  obtain ⟨ua, ucap, rfl, huc, hRA⟩ := hR
  obtain ⟨np, hnp⟩ : ∃ np, raw.length = np := ⟨_, rfl⟩
  obtain ⟨M, hM6, hMN, hmin⟩ : ∃ M : Nat, M ≤ 6 ∧ M ≤ np ∧ ∀ (w : World) (ts : Array TypeId) (t : TypeId), (Builtin.min_ ts t #[.int .i64 (np : Int), .int .i64 6]).run Try.prog w = .ok (.int .i64 (M : Int)) w := by
    by_cases h : np ≤ 6
    · refine ⟨np, h, Nat.le_refl _, fun w ts t => ?_⟩
      rw [run_min_int2]
      by_cases h2 : (6 : Int) < (np : Int)
      · omega
      · first | rw [if_neg h2] | (rw [if_pos (by omega)])
    · refine ⟨6, by omega, by omega, fun w ts t => ?_⟩
      rw [run_min_int2]
      first | (rw [if_pos (by omega)]; rfl) | (rw [if_neg (by omega)]; rfl)
  have hsl : ∀ w, (Instr.sliceAt 22 (.slice ua np ucap) none (some (.int .i64 (M : Int))) none).run Try.prog w = .ok (.slice ua M ucap) w := fun w => by
    have e0 : (M : Int) ≤ (ucap : Int) := by omega
    cases ua with
    | none => go_simp
    | some p => go_simp
  have hraw : ∀ W, Below w.heap.size w W → IArg W (.slice ua M ucap) (raw.take M) := fun W hb => ⟨ua, ucap, by rw [List.length_take, hnp, Nat.min_eq_left hMN], by rw [List.length_take]; omega, fun hne => by
    obtain ⟨g, o, h1, h2⟩ := hRA (by rintro rfl; simp at hne)
    exact ⟨g, o, h1, fun i x hx => (h2.below hb) i x (by
      rw [List.getElem?_take] at hx
      split at hx
      · exact hx
      · cases hx)⟩⟩
  have HRAW := Lib.hid hraw
  have HR64 : Hid (All64 (raw.take M) ∧ (raw.take M).length ≤ 6) := ⟨fun x hx => hr x (List.mem_of_mem_take hx), by rw [List.length_take]; omega⟩
  have HMIN := Lib.hid hmin
  have HSL := Lib.hid hsl
  have D1 := Lib.hid (fun w => Mod_any nn 12 hn (by decide) (by decide) w)
  have hB := Below.refl w.heap.size w
  have hm0 := Int.emod_nonneg nn (show (12 : Int) ≠ 0 by decide)
  have hm1 := Int.emod_lt_of_pos nn (show (0 : Int) < 12 by decide)
  have hmm64 : In64 (nn % 12) := ⟨by omega, by omega⟩
  obtain ⟨mm, hmm⟩ : ∃ mm, nn % 12 = mm := ⟨_, rfl⟩
  rw [hmm] at D1 hmm64
  rw [hnp]
  obtain ⟨ac, cc, rfl, hcc, _⟩ := hA
  clear hl hr hm0 hm1 hmm hmin hsl hraw hRA hnp
  go_enter Try.func5, Try.ntmps5
  go_wp2_with fail
  refine (Calls.chain hB (sanity_any _)).mono ?_; clear hB; rintro e w2 ⟨rfl, hB⟩
  go_upto_region 2 with (fail)
  refine split_r2 _ _ _ _ _ _ _ _ _ _ _ _ _ _ _ _ _ _ _ _ _ _ _ _ _ _ _ _ _ _ _ _ _ _ _ _ _ _ _ _ _ _ _ _ _ _ _ _ _ _ _ _ _ _ _ _ _ _ _ _ _ _ _ _ _ _ _ _ _ _ _ _ _ _ _ _ _ _ _ _ _ _ _ _ _ _ _ _ ua np ucap M cs w2 (Lib.hid (fun w' hb => C1.out w' (hB.trans (hb.mono hB.size)))) HMIN.out HSL.out _ ?_
  intro y19 y20 y21 y22 y23 y24 y25 y26 v3 b8 w3 h3 B8 hb8 hb
  have hB3 := hB.trans (hb.mono hB.size)
  have HV : Hid (∀ W, Below w3.heap.size w3 W → ∀ i, i < 2 → ∃ vi li, W.cell? ⟨b8, i, none⟩ = some vi ∧ IArg W vi li ∧ All64 li ∧ li.length ≤ 6) := by
    show ∀ W, _
    intro W hW i hi
    have B := B8.below hW B8.lt
    match i, hi with
    | 0, _ => exact ⟨v3, cs, B.cell 0 _ rfl, h3.below hW, hc64, hn2⟩
    | 1, _ => exact ⟨.slice ua M ucap, raw.take M, B.cell 1 _ rfl, HRAW.out W (hB3.trans (hW.mono hB3.size)), HR64.out.1, HR64.out.2⟩
  have T4 : Two (w3.alloc (.cells #[I nn, I mm] 43)) w3.heap.size := ⟨nn, mm, Blk.new w3 _ _, hn, hmm64⟩
  have hb4 := (Below.refl w3.heap.size w3).alloc (Nat.le_refl _) (.cells #[I nn, I mm] 43)
  have HT4 := Lib.hid T4
  have HB4 := Lib.hid hb4
  clear hb hb8 B8 h3 HRAW HR64 HMIN HSL C1 hB T4 hb4
  go_wp2_with fail
  refine (D1.out _).mono ?_; rintro e w4 ⟨rfl, rfl⟩
  go_wp2_with fail
  obtain ⟨b9, hb9⟩ : ∃ b9, w3.heap.size = b9 := ⟨_, rfl⟩
  have HB9 := Lib.hid hb9
  rw [hb9] at HT4
  rw [hb9]
  clear hb9 D1
  generalize w3.alloc (.cells #[I nn, I mm] 43) = w4 at *
  go_loopw [10] (fun x wr => ∃ i : Nat, i ≤ 2 ∧ x = .int .i64 (i : Int) ∧ Hid (Two wr b9) ∧ Below w3.heap.size w3 wr) (fun x _ => 2 - (intOf x).toNat)
  case atStart => exact ⟨0, by omega, rfl, HT4.out, HB4.out⟩
  case round =>
    clear HT4 HB4
    obtain ⟨i, hi, rfl, HT, hb⟩ := hrel
    by_cases hit : i < 2
    · have hi2 : (i : Int) < 2 := by omega
      go_wp2_with fail
      go_loopw [11] (fun x wr => ∃ k : Nat, k ≤ 2 ∧ x = .int .i64 (k : Int) ∧ Hid (Two wr b9) ∧ Below w3.heap.size w3 wr) (fun x _ => 2 - (intOf x).toNat)
      case atStart => exact ⟨0, by omega, rfl, HT.out, hb⟩
      case round =>
        clear HT hb
        obtain ⟨k, hk, rfl, HT, hbr⟩ := hrel
        by_cases hkt : k < 2
        · have hk2 : (k : Int) < 2 := by omega
          obtain ⟨m, m64, c9, f9⟩ := HT.out.get hkt
          have hb9' := HB9.out
          by_cases hm : 30 < m ∧ m ≤ 1000
          · obtain ⟨hm1, hm2⟩ := hm
            have q1 : decide (m > 30) = true := decide_eq_true hm1
            have q2 : decide (m ≤ 1000) = true := decide_eq_true hm2
            have TS := HT.out.set hkt (x := 30) ⟨by decide, by decide⟩
            have hbS := hbr.setCell (show w3.heap.size ≤ (⟨b9, k, none⟩ : Addr).block by show w3.heap.size ≤ b9; omega) (I 30)
            have HTS := Lib.hid TS
            have HBS := Lib.hid hbS
            clear TS hbS hb9'
            go_upto_region 12 with (fail)
            generalize wr.setCell ⟨b9, k, none⟩ (I 30) = wS at *
            clear c9 f9 q1 q2 hm1 hm2
            obtain ⟨m, m64, c9, _⟩ := HTS.out.get hkt
            have hbS := HBS.out
            obtain ⟨vi, li, c8, ha, hli, hl6⟩ := HV.out wS hbS i hit
            have HA := Lib.hid ha
            have TS := HTS.out
            clear ha HT hbr
            go_upto_region 12 with (fail)
            refine split_r12 _ _ _ _ _ _ _ _ _ _ _ _ _ _ _ _ _ _ _ _ _ _ _ _ _ _ _ _ _ _ _ _ _ _ _ _ _ _ _ _ _ _ _ _ _ _ _ _ _ _ _ _ _ _ _ _ _ _ _ _ _ _ _ _ _ _ _ _ _ _ _ _ _ _ _ _ _ _ _ _ _ _ _ _ _ vi b8 b9 i k li m wS c8 c9 hi2 hk2 (Lib.hid (fun w' hb => Split_any li m vi w' hli (by omega) (HA.out.below hb))) _ ?_
            intro y51 y52 y53 y54 y55 y56 y57 y58 y59 y60 y61 v12 v13 w5 s1 c1 hb5
            have c8' := keepCells hb5 _ _ c8
            have c9' := keepCells hb5 _ _ c9
            have HA5 := Lib.hid (HA.out.below hb5)
            have T5 := TS.below hb5
            have hbr5 := hbS.trans (hb5.mono hbS.size)
            have S1 := Lib.hid (And.intro s1 c1)
            clear s1 c1 hb5
            go_upto_region 13 with (fail)
            refine split_r13 _ _ _ _ _ _ _ _ _ _ _ _ _ _ _ _ _ _ _ _ _ _ _ _ _ _ _ _ _ _ _ _ _ _ _ _ _ _ _ _ _ _ _ _ _ _ _ _ _ _ _ _ _ _ _ _ _ _ _ _ _ _ _ _ _ _ _ _ _ _ _ _ _ _ _ _ _ _ _ _ _ _ _ _ _ vi b8 b9 i k li m w5 c8' c9' hi2 hk2 (Lib.hid (fun w' hb => RSplit_any li m vi w' hli (by omega) (HA5.out.below hb))) _ ?_
            intro y62 y63 y64 y65 y66 y67 y68 y69 y70 y71 y72 v15 v16 w6 s2 c2 hb6
            have T6 := T5.below hb6
            have hbr6 := hbr5.trans (hb6.mono hbr5.size)
            have SC := Lib.hid (shares_any (spS li m) (spS li m) v12 v15 w6 (by have := spS_len li m; omega) (by have := spS_len li m; omega) (S1.out.1.below hb6) s2)
            have IC := Lib.hid (fun w' (hb : Below w6.heap.size w6 w') => Ints_any (cmS li m) (cmS li m) v13 v16 w' (by have := cmS_len li m; omega) (by have := cmS_len li m; omega) ((S1.out.2.below hb6).below hb) (c2.below hb))
            have e1 : (spS li m == spS li m) = true := beq_self_eq_true _
            have e2 : (cmS li m == cmS li m) = true := beq_self_eq_true _
            rw [e1] at SC
            rw [e2] at IC
            have e3 : (okS li m != okS li m) = false := by simp
            generalize okS li m = ok at *
            clear e1 e2 s2 c2 S1 hb6 c8' c9' HA5 T5
            go_wp2_with fail
            refine SC.out.mono ?_; rintro e w7 ⟨rfl, hb7⟩
            have T7 := T6.below hb7
            have hbr7 := hbr6.trans (hb7.mono hbr6.size)
            have IC7 := Lib.hid (IC.out w7 hb7)
            clear SC IC hb7 T6
            go_wp2_with fail
            refine IC7.out.mono ?_; rintro e w8 ⟨rfl, hb8⟩
            have T8 := Lib.hid (T7.below hb8)
            have hbr8 := hbr7.trans (hb8.mono hbr7.size)
            clear IC7 hb8 T7
            go_wp2_with fail
            go_roundw
            case rel => exact ⟨k + 1, by omega, by go_num, T8, hbr8⟩
            case measure => simp [intOf]; omega
          · have HTS := HT
            have hbS := hbr
            obtain ⟨vi, li, c8, ha, hli, hl6⟩ := HV.out wr hbS i hit
            have HA := Lib.hid ha
            have TS := HTS.out
            clear ha hb9'
            by_cases hm1 : 30 < m
            · have hm2 : ¬ m ≤ 1000 := fun h => hm ⟨hm1, h⟩
              have q1 : decide (m > 30) = true := decide_eq_true hm1
              have q2 : decide (m ≤ 1000) = false := decide_eq_false hm2
              clear hm
              go_upto_region 12 with (fail)
              refine split_r12 _ _ _ _ _ _ _ _ _ _ _ _ _ _ _ _ _ _ _ _ _ _ _ _ _ _ _ _ _ _ _ _ _ _ _ _ _ _ _ _ _ _ _ _ _ _ _ _ _ _ _ _ _ _ _ _ _ _ _ _ _ _ _ _ _ _ _ _ _ _ _ _ _ _ _ _ _ _ _ _ _ _ _ _ _ vi b8 b9 i k li m wr c8 c9 hi2 hk2 (Lib.hid (fun w' hb => Split_any li m vi w' hli (by omega) (HA.out.below hb))) _ ?_
              intro y51 y52 y53 y54 y55 y56 y57 y58 y59 y60 y61 v12 v13 w5 s1 c1 hb5
              have c8' := keepCells hb5 _ _ c8
              have c9' := keepCells hb5 _ _ c9
              have HA5 := Lib.hid (HA.out.below hb5)
              have T5 := TS.below hb5
              have hbr5 := hbS.trans (hb5.mono hbS.size)
              have S1 := Lib.hid (And.intro s1 c1)
              clear s1 c1 hb5
              go_upto_region 13 with (fail)
              refine split_r13 _ _ _ _ _ _ _ _ _ _ _ _ _ _ _ _ _ _ _ _ _ _ _ _ _ _ _ _ _ _ _ _ _ _ _ _ _ _ _ _ _ _ _ _ _ _ _ _ _ _ _ _ _ _ _ _ _ _ _ _ _ _ _ _ _ _ _ _ _ _ _ _ _ _ _ _ _ _ _ _ _ _ _ _ _ vi b8 b9 i k li m w5 c8' c9' hi2 hk2 (Lib.hid (fun w' hb => RSplit_any li m vi w' hli (by omega) (HA5.out.below hb))) _ ?_
              intro y62 y63 y64 y65 y66 y67 y68 y69 y70 y71 y72 v15 v16 w6 s2 c2 hb6
              have T6 := T5.below hb6
              have hbr6 := hbr5.trans (hb6.mono hbr5.size)
              have SC := Lib.hid (shares_any (spS li m) (spS li m) v12 v15 w6 (by have := spS_len li m; omega) (by have := spS_len li m; omega) (S1.out.1.below hb6) s2)
              have IC := Lib.hid (fun w' (hb : Below w6.heap.size w6 w') => Ints_any (cmS li m) (cmS li m) v13 v16 w' (by have := cmS_len li m; omega) (by have := cmS_len li m; omega) ((S1.out.2.below hb6).below hb) (c2.below hb))
              have e1 : (spS li m == spS li m) = true := beq_self_eq_true _
              have e2 : (cmS li m == cmS li m) = true := beq_self_eq_true _
              rw [e1] at SC
              rw [e2] at IC
              have e3 : (okS li m != okS li m) = false := by simp
              generalize okS li m = ok at *
              clear e1 e2 s2 c2 S1 hb6 c8' c9' HA5 T5
              go_wp2_with fail
              refine SC.out.mono ?_; rintro e w7 ⟨rfl, hb7⟩
              have T7 := T6.below hb7
              have hbr7 := hbr6.trans (hb7.mono hbr6.size)
              have IC7 := Lib.hid (IC.out w7 hb7)
              clear SC IC hb7 T6
              go_wp2_with fail
              refine IC7.out.mono ?_; rintro e w8 ⟨rfl, hb8⟩
              have T8 := Lib.hid (T7.below hb8)
              have hbr8 := hbr7.trans (hb8.mono hbr7.size)
              clear IC7 hb8 T7
              go_wp2_with fail
              go_roundw
              case rel => exact ⟨k + 1, by omega, by go_num, T8, hbr8⟩
              case measure => simp [intOf]; omega
            · have q1 : decide (m > 30) = false := decide_eq_false hm1
              clear hm
              go_upto_region 12 with (fail)
              refine split_r12 _ _ _ _ _ _ _ _ _ _ _ _ _ _ _ _ _ _ _ _ _ _ _ _ _ _ _ _ _ _ _ _ _ _ _ _ _ _ _ _ _ _ _ _ _ _ _ _ _ _ _ _ _ _ _ _ _ _ _ _ _ _ _ _ _ _ _ _ _ _ _ _ _ _ _ _ _ _ _ _ _ _ _ _ _ vi b8 b9 i k li m wr c8 c9 hi2 hk2 (Lib.hid (fun w' hb => Split_any li m vi w' hli (by omega) (HA.out.below hb))) _ ?_
              intro y51 y52 y53 y54 y55 y56 y57 y58 y59 y60 y61 v12 v13 w5 s1 c1 hb5
              have c8' := keepCells hb5 _ _ c8
              have c9' := keepCells hb5 _ _ c9
              have HA5 := Lib.hid (HA.out.below hb5)
              have T5 := TS.below hb5
              have hbr5 := hbS.trans (hb5.mono hbS.size)
              have S1 := Lib.hid (And.intro s1 c1)
              clear s1 c1 hb5
              go_upto_region 13 with (fail)
              refine split_r13 _ _ _ _ _ _ _ _ _ _ _ _ _ _ _ _ _ _ _ _ _ _ _ _ _ _ _ _ _ _ _ _ _ _ _ _ _ _ _ _ _ _ _ _ _ _ _ _ _ _ _ _ _ _ _ _ _ _ _ _ _ _ _ _ _ _ _ _ _ _ _ _ _ _ _ _ _ _ _ _ _ _ _ _ _ vi b8 b9 i k li m w5 c8' c9' hi2 hk2 (Lib.hid (fun w' hb => RSplit_any li m vi w' hli (by omega) (HA5.out.below hb))) _ ?_
              intro y62 y63 y64 y65 y66 y67 y68 y69 y70 y71 y72 v15 v16 w6 s2 c2 hb6
              have T6 := T5.below hb6
              have hbr6 := hbr5.trans (hb6.mono hbr5.size)
              have SC := Lib.hid (shares_any (spS li m) (spS li m) v12 v15 w6 (by have := spS_len li m; omega) (by have := spS_len li m; omega) (S1.out.1.below hb6) s2)
              have IC := Lib.hid (fun w' (hb : Below w6.heap.size w6 w') => Ints_any (cmS li m) (cmS li m) v13 v16 w' (by have := cmS_len li m; omega) (by have := cmS_len li m; omega) ((S1.out.2.below hb6).below hb) (c2.below hb))
              have e1 : (spS li m == spS li m) = true := beq_self_eq_true _
              have e2 : (cmS li m == cmS li m) = true := beq_self_eq_true _
              rw [e1] at SC
              rw [e2] at IC
              have e3 : (okS li m != okS li m) = false := by simp
              generalize okS li m = ok at *
              clear e1 e2 s2 c2 S1 hb6 c8' c9' HA5 T5
              go_wp2_with fail
              refine SC.out.mono ?_; rintro e w7 ⟨rfl, hb7⟩
              have T7 := T6.below hb7
              have hbr7 := hbr6.trans (hb7.mono hbr6.size)
              have IC7 := Lib.hid (IC.out w7 hb7)
              clear SC IC hb7 T6
              go_wp2_with fail
              refine IC7.out.mono ?_; rintro e w8 ⟨rfl, hb8⟩
              have T8 := Lib.hid (T7.below hb8)
              have hbr8 := hbr7.trans (hb8.mono hbr7.size)
              clear IC7 hb8 T7
              go_wp2_with fail
              go_roundw
              case rel => exact ⟨k + 1, by omega, by go_num, T8, hbr8⟩
              case measure => simp [intOf]; omega
        · have hk2 : ¬ (k : Int) < 2 := by omega
          go_wp2_with fail
          go_roundw
          case rel => exact ⟨i + 1, by omega, by go_num, HT.out, hbr⟩
          case measure => simp [intOf]; omega
    · have hi2 : ¬ (i : Int) < 2 := by omega
      have hB9 := hB3.trans (hb.mono hB3.size)
      go_wp2_with fail
      go_ret
      exact ⟨rfl, hB9⟩

set_option maxRecDepth 100000 in
theorem lifted (os : Os) (started : os.Started) (H : Type) (enc : TypeId × Value → H) :
    ReturnsInHanded {} Try.checked os 5 .any (Rows.shareSplitsSpec.pre6 enc Try.prog Try.f5 Rows.shareSplitsRow.domain false) (Rows.shareSplitsSpec.post enc Try.prog Try.f5 false true false false) := by
  refine returnsInHanded_of_change (C := Try.checked) law_own started (by kernel_rfl) Try.func5
    (ChangeSpec.witness6 (enc := enc) (C := Try.checked) false ⟨#[], #[.slice none 0 0, .slice none 0 0, .int .i64 0], []⟩ 8 (by kernel_rfl) (by kernel_rfl) (by kernel_rfl) (by kernel_rfl)) ?_
  intro W base args ds gs before hval0 hW _ _
  have hval : ∀ (j : Nat) t v, Try.f5.params[j]? = some t → args[j]? = some v → Value.okWide Try.prog W .any base t v := hval0
  have hWk : DataW.Whole enc Try.prog Try.f5.params.toList Rows.shareSplitsSpec.vars false W args.toList ds gs before := hW
  obtain ⟨p, q, hA0, hV, rfl, _, _⟩ := hW
  have hA : DataW.TrodAll enc Try.prog W 0 (fun _ => true) true Try.f5.params.toList args.toList ds p := hA0
  rw [Try.params5] at hA hval
  obtain ⟨v0, vs0, d0, ds0, p0, q0, hargs, rfl, rfl, h0, r0⟩ := trodAll_cons hA
  obtain ⟨v1, vs1, d1, ds1, p1, q1, rfl, rfl, rfl, h1, r1⟩ := trodAll_cons r0
  obtain ⟨v2, vs2, d2, ds2, p2, q2, rfl, rfl, rfl, h2, r2⟩ := trodAll_cons r1
  obtain ⟨rfl, rfl, rfl⟩ := trodAll_nil r2
  obtain rfl : args = #[v0, v1, v2] := by cases args; simp_all
  obtain ⟨rfl, rfl⟩ := trodVars_none hV
  obtain ⟨l0, hA0_, hl0, hn0⟩ := open_intsA (hval 0 22 v0 rfl rfl) h0
  obtain ⟨l1, hA1_, hl1, hn1⟩ := open_intsA (hval 1 22 v1 rfl rfl) h1
  obtain ⟨a2, rfl, _, _, w2⟩ := open_int Try.underlying3 (hval 2 3 v2 rfl rfl) h2
  clear hA0 hval0
  refine (walk W v0 v1 l0 l1 a2 hl0 hn0 hA0_ hl1 hn1 hA1_ (in64_wf w2)).mono fun e W' ⟨he, hb⟩ => ?_
  exact ⟨_, he, law_post law_laid rfl (by rw [Try.params5]; decide +kernel) (by kernel_rfl) Try.underlying4 rfl hWk hb⟩

theorem holds : Rows.ShareSplitsSaid :=
  OpenClaim.holds_of_wide 5 Try.f5 rfl rfl rfl rfl rfl rfl rfl ⟨rfl, rfl, rfl, rfl, rfl⟩ rfl rfl rfl rfl rfl (by kernel_rfl) Try.func5 (by kernel_rfl)
    (of_decide_eq_true (by kernel_rfl)) (by unfold Func.isWrapper; first | (rw [if_pos (by decide +kernel)]; kernel_rfl) | (rw [if_neg (by decide +kernel)]; exact ⟨rfl, rfl⟩))
    (fun os started H enc _ => lifted os started H enc)

end Go.Proofs.Ytdnabeldaighgaa.LSplits

namespace Go.Proofs.Ytdnabeldaighgaa
/-- The statement. -/
theorem shareSplits_holds : Rows.ShareSplitsSaid := LSplits.holds
end Go.Proofs.Ytdnabeldaighgaa
