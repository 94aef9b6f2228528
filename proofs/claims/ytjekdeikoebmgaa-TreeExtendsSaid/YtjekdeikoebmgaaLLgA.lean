/- Held regions (operations that yield in every world of a kind are taken first), and the regions of TreeLarge. Conditions: sizes. -/
import Derived.Test.YtjekdeikoebmgaaArgsG
import Derived.Test.YtjekdeikoebmgaaArgs
import Derived.Test.YtjekdeikoebmgaaRefK
import Derived.Test.YtjekdeikoebmgaaRefI
import Derived.Test.YtjekdeikoebmgaaTrM
import Derived.OrdersHeld
namespace Go.Proofs.Ytjekdeikoebmgaa
open Go.RowKit Go.Shelf Tr

theorem takeHd {P : Program} {md : Region.Mode} {S : World → Prop} {Q : Exit → Act → World → Prop} {l : List Oper} (fuel i : Nat) {oi : Oper} (v : Value) {listed : Array Bool} {a : Act} {w : World} (hi : l[i]? = some oi)
    (hs : Region.noSelect l.toArray = true) (hf : Region.free md l.toArray listed i = true) (hr : (Region.ready md l.toArray listed).contains i = true)
    (hQ : ∀ c a w, Q (.panic c) (a.put oi.dst v) w → Q (.panic c) a w) (hy : YieldsIf P l.toArray S oi v a) (hS : S w)
    (h : wpAnyH P md l.toArray Q S fuel (listed.setIfInBounds i true) (a.put oi.dst v) w) : wpAnyH P md l.toArray Q S (fuel + 1) listed a w :=
  wpAnyH_take (by simpa using hi) hs hf hr hQ hy hS h
theorem yieldsIf_load {P : Program} {ops : Array Oper} {S : World → Prop} {o : Oper} {a : Act} {R : Value} (hg : o.guard = none) (ty : TypeId) (x : Operand) (p : Addr) (hop : o.op = .load ty x) (hx : a.eval x = .pointer (some p))
    (hl : ∀ w, S w → (loadVar ty p).run P w = .ok R w) : YieldsIf P ops S o R a :=
  .inl ⟨by simp [Region.wanted, hg], fun w hS => by unfold execOp; simp [hop, hx, Instr.loadAt, Instr.sureAddr, hl w hS]⟩
theorem allocL {P : Program} {l : List Oper} {Q : Exit → Act → World → Prop} {K : Act → World → Prop} {i : Nat} {o : Oper} {a : Act} {w : World} (ho : l[i]? = some o) (hg : o.guard = none) (t : TypeId) (hop : o.op = .alloc t)
    (zc : Array Value) (hz : (P.info? t).bind (·.zero) = some (.agg zc)) (h : K (a.put o.dst (.pointer (some ⟨w.heap.size, 0, none⟩))) (w.alloc (.cells zc t))) : wpOp P l.toArray Q i K a w := by
  refine callL ho hg ?_
  cases hi : P.info? t with
  | none => rw [hi] at hz; cases hz
  | some i =>
    rw [hi] at hz
    have hz : i.zero = some (.agg zc) := by simpa using hz
    unfold Oper.wp execOp
    simp [hop, Instr.alloc, zeroValue, typeInfo, hi, hz, newVar, Value.cells]
    exact h
theorem storeHdL {l : List Oper} {Q : Exit → Act → World → Prop} {K : Act → World → Prop} {i : Nat} {o : Oper} {a : Act} {w : World} (ho : l[i]? = some o) (hg : o.guard = none) (x y : Operand) (hop : o.op = .store 38 x y)
    (g : Nat) (n : Int) (u : List UInt8) (hu : u.length = 32) (hx : a.eval x = .pointer (some ⟨g, 0, none⟩)) (hy : a.eval y = .agg (hdrow n u)) (old : Array Value) (N : Blk w g old 38) (hold : old.size = 33) (h : K (a.put o.dst undef) (w.setRow g (hdrow n u))) : wpOp Try.prog l.toArray Q i K a w :=
  callL ho hg (wp_store_row 38 x y hop g (hdrow n u) hx hy 38 old N (hinfoD n u hu) (by rw [hold, hdrow_size n hu]) (hdrow_one n u) h)
theorem zero_head (n : Int) (w : World) : (Instr.build 38 #[(0, .int .i64 n)]).run Try.prog w = .ok (.agg (hdrow n (List.replicate 32 0))) w := run_build w 38 #[(0, .int .i64 n)] _ (by kernel_rfl)
theorem yields_head0 {ops : Array Oper} {o : Oper} {a : Act} (p0 : Operand) (n : Int) (hg : o.guard = none) (ho : o.op = .build 38 #[(0, p0)]) (h0 : a.eval p0 = .int .i64 n) : Yields Try.prog ops o (.agg (hdrow n (List.replicate 32 0))) a := by
  refine yields_field hg fun w => ?_
  have hp : ((#[(0, p0)] : Array (Nat × Operand)).map fun (i, x) => (i, a.eval x)) = #[(0, .int .i64 n)] := by simp [h0]
  unfold execOp
  simp only [ho, hp, zero_head n w, Sem.run_bind, Result.andThen_ok]
  rfl
theorem load_q (w : World) (g : Nat) (x y : Value) (h : Blk w g #[x, y] 43) : (loadVar 3 ⟨g, 0, none⟩).run Try.prog w = .ok x w ∧ (loadVar 3 ⟨g, 1, none⟩).run Try.prog w = .ok y w := by
  have c := h.cell 0 _ rfl
  have c2 := h.cell 1 _ rfl
  constructor <;> go_simp

set_option maxRecDepth 100000 in
set_option maxHeartbeats 1000000 in
theorem lg_r3 (u4 u5 u6 u8 u9 u10 u11 u12 u13 u14 u15 u16 u17 u18 u19 u20 u21 u22 u23 u24 u25 u26 u27 u28 u29 u30 u31 u32 u33 u34 u35 u36 u37 u38 u39 u40 u41 u42 u43 u44 u45 u46 u47 u48 u49 u50 u51 u52 u53 u54 u55 u56 u57 u58 u59 u60 u61 u62 u63 u64 u65 u66 u67 u68 u69 u70 u71 u72 u73 u74 u75 v2 : Value) (q0 q1 z : Int) (g : Nat) (w : World) (hN : Blk w g #[.int .i64 q0, .int .i64 q1] 43) (Q : Exit → Act → World → Prop)
    (h : ∀ (y17 y18 y19 y20 y21 y22 : Value) (b8 b9 : Nat) (w' : World), b8 ≠ b9 → w.heap.size ≤ b8 → w.heap.size ≤ b9 → Blk w' b8 (hdrow q0 (List.replicate 32 0)) 38 → Blk w' b9 (hdrow q1 (List.replicate 32 0)) 38 → Below w.heap.size w w' → Q .normal ⟨((.agg #[.int .i64 q0, .int .i64 q1]) :: (.int .i64 z) :: v2 :: (.pointer (some ⟨g, 0, none⟩)) :: u4 :: u5 :: u6 :: (.bool true) :: (.pointer (some ⟨b8, 0, none⟩)) :: (.pointer (some ⟨b9, 0, none⟩)) :: u10 :: u11 :: u12 :: u13 :: u14 :: u15 :: u16 :: y17 :: y18 :: y19 :: y20 :: y21 :: y22 :: u23 :: u24 :: u25 :: u26 :: u27 :: u28 :: u29 :: u30 :: u31 :: u32 :: u33 :: u34 :: u35 :: u36 :: u37 :: u38 :: u39 :: u40 :: u41 :: u42 :: u43 :: u44 :: u45 :: u46 :: u47 :: u48 :: u49 :: u50 :: u51 :: u52 :: u53 :: u54 :: u55 :: u56 :: u57 :: u58 :: u59 :: u60 :: u61 :: u62 :: u63 :: u64 :: u65 :: u66 :: u67 :: u68 :: u69 :: u70 :: u71 :: u72 :: u73 :: u74 :: u75 :: []).toArray, []⟩ w') : Code.wp Try.prog (regionIn Try.f10 3) Q ⟨((.agg #[.int .i64 q0, .int .i64 q1]) :: (.int .i64 z) :: v2 :: (.pointer (some ⟨g, 0, none⟩)) :: u4 :: u5 :: u6 :: (.bool true) :: u8 :: u9 :: u10 :: u11 :: u12 :: u13 :: u14 :: u15 :: u16 :: u17 :: u18 :: u19 :: u20 :: u21 :: u22 :: u23 :: u24 :: u25 :: u26 :: u27 :: u28 :: u29 :: u30 :: u31 :: u32 :: u33 :: u34 :: u35 :: u36 :: u37 :: u38 :: u39 :: u40 :: u41 :: u42 :: u43 :: u44 :: u45 :: u46 :: u47 :: u48 :: u49 :: u50 :: u51 :: u52 :: u53 :: u54 :: u55 :: u56 :: u57 :: u58 :: u59 :: u60 :: u61 :: u62 :: u63 :: u64 :: u65 :: u66 :: u67 :: u68 :: u69 :: u70 :: u71 :: u72 :: u73 :: u74 :: u75 :: []).toArray, []⟩ w := by
  have HX := Lib.hid h
  have gl := hN.lt
  have NQ : Blk { w with drawn := w.drawn + 1 } g #[.int .i64 q0, .int .i64 q1] 43 := hN
  have hb0 : Below w.heap.size w { w with drawn := w.drawn + 1 } := (Below.refl _ _).drew
  have hsz : ({ w with drawn := w.drawn + 1 } : World).heap.size = w.heap.size := rfl
  clear h hN
  conv => arg 2; whnf
  refine wp_region_noPanic ?_
  refine wp_region_held (S := fun w => Blk w g #[.int .i64 q0, .int .i64 q1] 43) (by kernel_rfl) ?_
  generalize ({ w with drawn := w.drawn + 1 } : World) = w0 at *
  refine takeHd 9 0 (.pointer (some ⟨g, 0, none⟩)) rfl (by kernel_rfl) (by kernel_rfl) (by kernel_rfl) (fun _ _ _ h => h) (Yields.yieldsIf (yields_field rfl (fun w => by unfold execOp; go_simp))) NQ ?_
  simp only [Act.put, List.setIfInBounds_toArray, List.set_cons_zero, List.set_cons_succ]
  refine takeHd 8 1 (.int .i64 q0) rfl (by kernel_rfl) (by kernel_rfl) (by kernel_rfl) (fun _ _ _ h => h) (yieldsIf_load rfl 3 (.tmp 17) ⟨g, 0, none⟩ rfl rfl (fun w h => (load_q w g _ _ h).1)) NQ ?_
  simp only [Act.put, List.setIfInBounds_toArray, List.set_cons_zero, List.set_cons_succ]
  refine takeHd 7 2 (.agg (hdrow q0 (List.replicate 32 0))) rfl (by kernel_rfl) (by kernel_rfl) (by kernel_rfl) (fun _ _ _ h => h) (Yields.yieldsIf (yields_head0 (.tmp 18) q0 rfl rfl rfl)) NQ ?_
  simp only [Act.put, List.setIfInBounds_toArray, List.set_cons_zero, List.set_cons_succ]
  refine takeHd 6 3 (.pointer (some ⟨g, 1, none⟩)) rfl (by kernel_rfl) (by kernel_rfl) (by kernel_rfl) (fun _ _ _ h => h) (Yields.yieldsIf (yields_field rfl (fun w => by unfold execOp; go_simp))) NQ ?_
  simp only [Act.put, List.setIfInBounds_toArray, List.set_cons_zero, List.set_cons_succ]
  refine takeHd 5 4 (.int .i64 q1) rfl (by kernel_rfl) (by kernel_rfl) (by kernel_rfl) (fun _ _ _ h => h) (yieldsIf_load rfl 3 (.tmp 20) ⟨g, 1, none⟩ rfl rfl (fun w h => (load_q w g _ _ h).2)) NQ ?_
  simp only [Act.put, List.setIfInBounds_toArray, List.set_cons_zero, List.set_cons_succ]
  refine takeHd 4 5 (.agg (hdrow q1 (List.replicate 32 0))) rfl (by kernel_rfl) (by kernel_rfl) (by kernel_rfl) (fun _ _ _ h => h) (Yields.yieldsIf (yields_head0 (.tmp 21) q1 rfl rfl rfl)) NQ ?_
  simp only [Act.put, List.setIfInBounds_toArray, List.set_cons_zero, List.set_cons_succ]
  refine wpAnyH_all (rs := [6, 7]) (by kernel_rfl) (by simp) ?_
  intro i hi
  rcases List.mem_cons.1 hi with rfl | hi
  · skip
    refine allocL rfl rfl 38 rfl _ zeroHead ?_
    simp only [Act.put, List.setIfInBounds_toArray, List.set_cons_zero, List.set_cons_succ]
    refine ⟨NQ.alloc _, ?_⟩
    refine wpAnyH_all (rs := [7]) (by kernel_rfl) (by simp) ?_
    intro i hi
    obtain rfl := List.mem_singleton.1 hi
    refine allocL rfl rfl 38 rfl _ zeroHead ?_
    simp only [Act.put, List.setIfInBounds_toArray, List.set_cons_zero, List.set_cons_succ]
    simp only [World.size_alloc]
    have N0 := (Blk.new w0 (hdrow 0 (List.replicate 32 0)) 38).alloc (.cells (hdrow 0 (List.replicate 32 0)) 38)
    have N1 := Blk.new (w0.alloc (.cells (hdrow 0 (List.replicate 32 0)) 38)) (hdrow 0 (List.replicate 32 0)) 38
    rw [World.size_alloc] at N1
    have hb := (hb0.alloc hb0.size (.cells (hdrow 0 (List.replicate 32 0)) 38)).alloc (by rw [World.size_alloc]; have := hb0.size; omega) (.cells (hdrow 0 (List.replicate 32 0)) 38)
    have NQ2 := (NQ.alloc (.cells (hdrow 0 (List.replicate 32 0)) 38)).alloc (.cells (hdrow 0 (List.replicate 32 0)) 38)
    generalize (w0.alloc (.cells (hdrow 0 (List.replicate 32 0)) 38)).alloc (.cells (hdrow 0 (List.replicate 32 0)) 38) = w1 at *
    refine ⟨NQ2, ?_⟩
    refine wpAnyH_all (rs := [8]) (by kernel_rfl) (by simp) ?_
    intro i hi
    obtain rfl := List.mem_singleton.1 hi
    refine storeHdL rfl rfl (.tmp 8) (.tmp 19) rfl w0.heap.size q0 (List.replicate 32 0) rfl rfl rfl _ N0 (hdrow_size _ rfl) ?_
    simp only [Act.put]
    have M8 := N0.row (hdrow q0 (List.replicate 32 0))
    have M9 := N1.rowOther (hdrow q0 (List.replicate 32 0)) (show (w0.heap.size + 1) ≠ w0.heap.size by omega)
    have NQ3 := NQ2.rowOther (hdrow q0 (List.replicate 32 0)) (show g ≠ w0.heap.size by omega)
    have hb := Below.setRow hb (show w.heap.size ≤ w0.heap.size by omega) (hdrow q0 (List.replicate 32 0))
    refine ⟨NQ3, ?_⟩
    refine wpAnyH_all (rs := [9]) (by kernel_rfl) (by simp) ?_
    intro i hi
    obtain rfl := List.mem_singleton.1 hi
    refine storeHdL rfl rfl (.tmp 9) (.tmp 22) rfl (w0.heap.size + 1) q1 (List.replicate 32 0) rfl rfl rfl _ M9 (hdrow_size _ rfl) ?_
    simp only [Act.put]
    refine ⟨NQ3.rowOther (hdrow q1 (List.replicate 32 0)) (show g ≠ (w0.heap.size + 1) by omega), ?_⟩
    refine wpAnyH_done (by kernel_rfl) ?_ 0
    exact HX.out _ _ _ _ _ _ w0.heap.size (w0.heap.size + 1) _ (by omega) (by omega) (by omega) (M8.rowOther (hdrow q1 (List.replicate 32 0)) (show w0.heap.size ≠ (w0.heap.size + 1) by omega)) (M9.row (hdrow q1 (List.replicate 32 0))) (Below.setRow hb (show w.heap.size ≤ (w0.heap.size + 1) by omega) (hdrow q1 (List.replicate 32 0)))
  · obtain rfl := List.mem_singleton.1 hi
    refine allocL rfl rfl 38 rfl _ zeroHead ?_
    simp only [Act.put, List.setIfInBounds_toArray, List.set_cons_zero, List.set_cons_succ]
    refine ⟨NQ.alloc _, ?_⟩
    refine wpAnyH_all (rs := [6]) (by kernel_rfl) (by simp) ?_
    intro i hi
    obtain rfl := List.mem_singleton.1 hi
    refine allocL rfl rfl 38 rfl _ zeroHead ?_
    simp only [Act.put, List.setIfInBounds_toArray, List.set_cons_zero, List.set_cons_succ]
    simp only [World.size_alloc]
    have N0 := (Blk.new w0 (hdrow 0 (List.replicate 32 0)) 38).alloc (.cells (hdrow 0 (List.replicate 32 0)) 38)
    have N1 := Blk.new (w0.alloc (.cells (hdrow 0 (List.replicate 32 0)) 38)) (hdrow 0 (List.replicate 32 0)) 38
    rw [World.size_alloc] at N1
    have hb := (hb0.alloc hb0.size (.cells (hdrow 0 (List.replicate 32 0)) 38)).alloc (by rw [World.size_alloc]; have := hb0.size; omega) (.cells (hdrow 0 (List.replicate 32 0)) 38)
    have NQ2 := (NQ.alloc (.cells (hdrow 0 (List.replicate 32 0)) 38)).alloc (.cells (hdrow 0 (List.replicate 32 0)) 38)
    generalize (w0.alloc (.cells (hdrow 0 (List.replicate 32 0)) 38)).alloc (.cells (hdrow 0 (List.replicate 32 0)) 38) = w1 at *
    refine ⟨NQ2, ?_⟩
    refine wpAnyH_all (rs := [8]) (by kernel_rfl) (by simp) ?_
    intro i hi
    obtain rfl := List.mem_singleton.1 hi
    refine storeHdL rfl rfl (.tmp 8) (.tmp 19) rfl (w0.heap.size + 1) q0 (List.replicate 32 0) rfl rfl rfl _ N1 (hdrow_size _ rfl) ?_
    simp only [Act.put]
    have M8 := N1.row (hdrow q0 (List.replicate 32 0))
    have M9 := N0.rowOther (hdrow q0 (List.replicate 32 0)) (show w0.heap.size ≠ (w0.heap.size + 1) by omega)
    have NQ3 := NQ2.rowOther (hdrow q0 (List.replicate 32 0)) (show g ≠ (w0.heap.size + 1) by omega)
    have hb := Below.setRow hb (show w.heap.size ≤ (w0.heap.size + 1) by omega) (hdrow q0 (List.replicate 32 0))
    refine ⟨NQ3, ?_⟩
    refine wpAnyH_all (rs := [9]) (by kernel_rfl) (by simp) ?_
    intro i hi
    obtain rfl := List.mem_singleton.1 hi
    refine storeHdL rfl rfl (.tmp 9) (.tmp 22) rfl w0.heap.size q1 (List.replicate 32 0) rfl rfl rfl _ M9 (hdrow_size _ rfl) ?_
    simp only [Act.put]
    refine ⟨NQ3.rowOther (hdrow q1 (List.replicate 32 0)) (show g ≠ w0.heap.size by omega), ?_⟩
    refine wpAnyH_done (by kernel_rfl) ?_ 0
    exact HX.out _ _ _ _ _ _ (w0.heap.size + 1) w0.heap.size _ (by omega) (by omega) (by omega) (M8.rowOther (hdrow q1 (List.replicate 32 0)) (show (w0.heap.size + 1) ≠ w0.heap.size by omega)) (M9.row (hdrow q1 (List.replicate 32 0))) (Below.setRow hb (show w.heap.size ≤ w0.heap.size by omega) (hdrow q1 (List.replicate 32 0)))

theorem Below.cells (B : Nat) {a : World} (b : Nat) (hb : B ≤ b) : ∀ (vs : List Value) (o : Nat) (w : World), Below B a w → Below B a (w.setCells b o vs)
  | [], _, _, h => h
  | v :: r, o, _, h => Below.cells B b hb r (o + 1) _ (h.trans ⟨rfl, rfl, rfl, by simp, fun k hk => Below.heap_setCell _ _ _ _ (show k ≠ b by omega)⟩)
theorem Blk.cellsOther {b g : Nat} (hg : b ≠ g) {cs : Array Value} {t : TypeId} : ∀ (vs : List Value) (o : Nat) (w : World), Blk w b cs t → Blk (w.setCells g o vs) b cs t
  | [], _, _, h => h
  | v :: r, o, _, h => Blk.cellsOther hg r (o + 1) _ (h.other (a := ⟨g, o, none⟩) hg v)
theorem Blk.cells {b : Nat} {t : TypeId} : ∀ (vs old pre : List Value) (w : World), old.length = vs.length → Blk w b (pre ++ old).toArray t → Blk (w.setCells b pre.length vs) b (pre ++ vs).toArray t
  | [], old, pre, w, hl, h => by
    have : old = [] := List.length_eq_zero_iff.1 hl
    rw [this] at h
    exact h
  | v :: r, [], pre, w, hl, h => by simp at hl
  | v :: r, x :: old, pre, w, hl, h => by
    have h2 := h.set pre.length v
    have e : (pre ++ x :: old).toArray.setIfInBounds pre.length v = ((pre ++ [v]) ++ old).toArray := by
      rw [List.setIfInBounds_toArray, List.set_append_right _ _ (Nat.le_refl _), Nat.sub_self]; simp
    rw [e] at h2
    have h3 := Blk.cells r old (pre ++ [v]) _ (by simpa using hl) h2
    rw [List.length_append] at h3
    simpa [World.setCells] using h3
/-- A hash stored into a head. -/
theorem Blk.headHash {w : World} {b : Nat} {n : Int} {z x : List UInt8} (hz : z.length = 32) (hx : x.length = 32) (h : Blk w b (hdrow n z) 38) : Blk (w.setCells b 1 (hrow x).toList) b (hdrow n x) 38 := by
  have := Blk.cells (x.map Y) (z.map Y) [.int .i64 n] w (by simp [hz, hx]) h
  simpa [hdrow, hrow] using this
theorem there_head {w : World} {b : Nat} {n : Int} {z x : List UInt8} (hz : z.length = 32) (hx : x.length = 32) (h : Blk w b (hdrow n z) 38) : w.there b 1 (hrow x).size := fun j hj => by
  rw [hrow_size hx] at hj
  refine ⟨?_, h.frozen _⟩
  rw [h.cell (1 + j) _ (Array.getElem?_eq_getElem (by rw [hdrow_size n hz]; omega))]
  rfl
theorem storeFdL {l : List Oper} {Q : Exit → Act → World → Prop} {K : Act → World → Prop} {i : Nat} {o : Oper} {a : Act} {w : World} (ho : l[i]? = some o) (hg : o.guard = none) (x y : Operand) (hop : o.op = .store 24 x y)
    (g : Nat) (n : Int) (z u : List UInt8) (hz : z.length = 32) (hu : u.length = 32) (hx : a.eval x = .pointer (some ⟨g, 1, none⟩)) (hy : a.eval y = .agg (hrow u)) (N : Blk w g (hdrow n z) 38) (h : K (a.put o.dst undef) (w.setCells g 1 (hrow u).toList)) : wpOp Try.prog l.toArray Q i K a w :=
  callL ho hg (wp_store_mid 24 x y hop g 1 (hrow u) hx hy (there_head hz hu N) (hinfo' u hu) (bytes_all u) h)
theorem HAt.cellsOther {w : World} {g o b : Nat} {hs : List (List UInt8)} (h : HAt w g o hs) (hb : g ≠ b) (k : Nat) (vs : List Value) : HAt (w.setCells b k vs) g o hs := World.rangeAt_setCells_apart h b k vs (.inl hb)

set_option maxRecDepth 100000 in
set_option maxHeartbeats 1000000 in
theorem lg_r5 (u4 u5 u6 u10 u11 u12 u13 u14 u15 u16 u17 u18 u19 u20 u21 u22 u23 u24 u25 u26 u27 u28 u29 u30 u31 u32 u33 u34 u35 u36 u37 u38 u39 u40 u41 u42 u43 u44 u45 u46 u47 u48 u49 u50 u51 u52 u53 u54 u55 u56 u57 u58 u59 u60 u61 u62 u63 u64 u65 u66 u67 u68 u69 u70 u71 u72 u73 u74 u75 : Value) (q0 q1 z : Int) (gq g o n cap b8 b9 : Nat) (x y : List UInt8) (p : List (List UInt8)) (W w : World) (hN8 : Blk w b8 (hdrow q0 (List.replicate 32 0)) 38) (hN9 : Blk w b9 (hdrow q1 (List.replicate 32 0)) 38) (h89 : b8 ≠ b9) (l8 : W.heap.size ≤ b8) (l9 : W.heap.size ≤ b9)
    (hA : HAt w g o p) (n8 : g ≠ b8) (n9 : g ≠ b9) (ha : All32 p) (hn : p.length = n) (h1 : 1 ≤ n) (h70 : n ≤ 70) (hp0 : p[0]? = some x) (hp1 : p[n - 1]? = some y) (hWB : Below W.heap.size W w) (Q : Exit → Act → World → Prop)
    (h : ∀ (y26 y27 y28 y29 y30 y31 y32 y33 y34 y35 y36 : Value) (w' : World), Blk w' b8 (hdrow q0 x) 38 → Blk w' b9 (hdrow q1 y) 38 → HAt w' g o p → Below W.heap.size W w' → Q .normal ⟨((.agg #[.int .i64 q0, .int .i64 q1]) :: (.int .i64 z) :: (.slice (some ⟨g, o, none⟩) n cap) :: (.pointer (some ⟨gq, 0, none⟩)) :: u4 :: u5 :: u6 :: (.bool true) :: (.pointer (some ⟨b8, 0, none⟩)) :: (.pointer (some ⟨b9, 0, none⟩)) :: u10 :: u11 :: u12 :: u13 :: u14 :: u15 :: u16 :: u17 :: u18 :: u19 :: u20 :: u21 :: u22 :: u23 :: u24 :: u25 :: y26 :: y27 :: y28 :: y29 :: y30 :: y31 :: y32 :: y33 :: y34 :: y35 :: y36 :: u37 :: u38 :: u39 :: u40 :: u41 :: u42 :: u43 :: u44 :: u45 :: u46 :: u47 :: u48 :: u49 :: u50 :: u51 :: u52 :: u53 :: u54 :: u55 :: u56 :: u57 :: u58 :: u59 :: u60 :: u61 :: u62 :: u63 :: u64 :: u65 :: u66 :: u67 :: u68 :: u69 :: u70 :: u71 :: u72 :: u73 :: u74 :: u75 :: []).toArray, []⟩ w') : Code.wp Try.prog (regionIn Try.f10 5) Q ⟨((.agg #[.int .i64 q0, .int .i64 q1]) :: (.int .i64 z) :: (.slice (some ⟨g, o, none⟩) n cap) :: (.pointer (some ⟨gq, 0, none⟩)) :: u4 :: u5 :: u6 :: (.bool true) :: (.pointer (some ⟨b8, 0, none⟩)) :: (.pointer (some ⟨b9, 0, none⟩)) :: u10 :: u11 :: u12 :: u13 :: u14 :: u15 :: u16 :: u17 :: u18 :: u19 :: u20 :: u21 :: u22 :: u23 :: u24 :: u25 :: u26 :: u27 :: u28 :: u29 :: u30 :: u31 :: u32 :: u33 :: u34 :: u35 :: u36 :: u37 :: u38 :: u39 :: u40 :: u41 :: u42 :: u43 :: u44 :: u45 :: u46 :: u47 :: u48 :: u49 :: u50 :: u51 :: u52 :: u53 :: u54 :: u55 :: u56 :: u57 :: u58 :: u59 :: u60 :: u61 :: u62 :: u63 :: u64 :: u65 :: u66 :: u67 :: u68 :: u69 :: u70 :: u71 :: u72 :: u73 :: u74 :: u75 :: []).toArray, []⟩ w := by
  have HX := Lib.hid h
  have hx := ha x (List.mem_of_getElem? hp0)
  have hy := ha y (List.mem_of_getElem? hp1)
  have b0 : (0 : Int) < (n : Int) := by omega
  have b00 : ¬ n = 0 := by omega
  have e1 : IntKind.i64.wrap ((n : Int) - 1) = (n : Int) - 1 := IntWalk.i64_in _ (by omega)
  have I0 : Hid (∀ w, (Instr.indexAt 32 (.slice (some ⟨g, o, none⟩) n cap) (.int .i64 0)).run Try.prog w = .ok (.pointer (some ⟨g, o, none⟩)) w) := fun w => by go_simp
  have I1 : Hid (∀ w, (Instr.indexAt 32 (.slice (some ⟨g, o, none⟩) n cap) (.int .i64 ((n : Int) - 1))).run Try.prog w = .ok (.pointer (some ⟨g, o + 32 * (n - 1), none⟩)) w) := fun w => by
    obtain ⟨m, rfl⟩ : ∃ m, n = m + 1 := ⟨n - 1, by omega⟩
    have e : ((m + 1 : Nat) : Int) - 1 = (m : Int) := by omega
    have b2 : ¬ ((m : Int) + 1 ≤ (m : Int)) := by omega
    rw [e]
    rw [Nat.add_sub_cancel, Nat.mul_comm]
    go_simp
  have N8 : Blk { w with drawn := w.drawn + 1 } b8 (hdrow q0 (List.replicate 32 0)) 38 := hN8
  have N9 : Blk { w with drawn := w.drawn + 1 } b9 (hdrow q1 (List.replicate 32 0)) 38 := hN9
  have HA : HAt { w with drawn := w.drawn + 1 } g o p := hA
  have hB : Below W.heap.size W { w with drawn := w.drawn + 1 } := hWB.drew
  clear h hN8 hN9 hA hWB
  conv => arg 2; whnf
  refine wp_region_noPanic ?_
  refine wp_region_held (S := fun w => HAt w g o p) (by kernel_rfl) ?_
  generalize ({ w with drawn := w.drawn + 1 } : World) = w0 at *
  refine takeHd 12 0 (.slice (some ⟨g, o, none⟩) n cap) rfl (by kernel_rfl) (by kernel_rfl) (by kernel_rfl) (fun _ _ _ h => h) (Yields.yieldsIf (yields_field rfl (fun w => by unfold execOp; go_simp))) HA ?_
  simp only [Act.put, List.setIfInBounds_toArray, List.set_cons_zero, List.set_cons_succ]
  refine takeHd 11 1 (.pointer (some ⟨g, o, none⟩)) rfl (by kernel_rfl) (by kernel_rfl) (by kernel_rfl) (fun _ _ _ h => h) (Yields.yieldsIf (yields_index rfl rfl rfl rfl I0.out)) HA ?_
  simp only [Act.put, List.setIfInBounds_toArray, List.set_cons_zero, List.set_cons_succ]
  refine takeHd 10 2 (.agg (hrow x)) rfl (by kernel_rfl) (by kernel_rfl) (by kernel_rfl) (fun _ _ _ h => h) (yieldsIf_load rfl 24 (.tmp 27) ⟨g, o, none⟩ rfl rfl (fun w h => load_hash w g (o) x hx (by simpa using h.elem ha 0 x hp0))) HA ?_
  simp only [Act.put, List.setIfInBounds_toArray, List.set_cons_zero, List.set_cons_succ]
  refine takeHd 9 3 (.slice (some ⟨g, o, none⟩) n cap) rfl (by kernel_rfl) (by kernel_rfl) (by kernel_rfl) (fun _ _ _ h => h) (Yields.yieldsIf (yields_field rfl (fun w => by unfold execOp; go_simp))) HA ?_
  simp only [Act.put, List.setIfInBounds_toArray, List.set_cons_zero, List.set_cons_succ]
  refine takeHd 8 4 (.slice (some ⟨g, o, none⟩) n cap) rfl (by kernel_rfl) (by kernel_rfl) (by kernel_rfl) (fun _ _ _ h => h) (Yields.yieldsIf (yields_field rfl (fun w => by unfold execOp; go_simp))) HA ?_
  simp only [Act.put, List.setIfInBounds_toArray, List.set_cons_zero, List.set_cons_succ]
  refine takeHd 7 5 (.int .i64 (n : Int)) rfl (by kernel_rfl) (by kernel_rfl) (by kernel_rfl) (fun _ _ _ h => h) (Yields.yieldsIf (yields_field rfl (fun w => by unfold execOp; go_simp))) HA ?_
  simp only [Act.put, List.setIfInBounds_toArray, List.set_cons_zero, List.set_cons_succ]
  refine takeHd 6 6 (.int .i64 ((n : Int) - 1)) rfl (by kernel_rfl) (by kernel_rfl) (by kernel_rfl) (fun _ _ _ h => h) (Yields.yieldsIf (yields_field rfl (fun w => by unfold execOp; go_simp))) HA ?_
  simp only [Act.put, List.setIfInBounds_toArray, List.set_cons_zero, List.set_cons_succ]
  refine takeHd 5 7 (.pointer (some ⟨g, o + 32 * (n - 1), none⟩)) rfl (by kernel_rfl) (by kernel_rfl) (by kernel_rfl) (fun _ _ _ h => h) (Yields.yieldsIf (yields_index rfl rfl rfl rfl I1.out)) HA ?_
  simp only [Act.put, List.setIfInBounds_toArray, List.set_cons_zero, List.set_cons_succ]
  refine takeHd 4 8 (.agg (hrow y)) rfl (by kernel_rfl) (by kernel_rfl) (by kernel_rfl) (fun _ _ _ h => h) (yieldsIf_load rfl 24 (.tmp 33) ⟨g, o + 32 * (n - 1), none⟩ rfl rfl (fun w h => load_hash w g (o + 32 * (n - 1)) y hy (h.elem ha (n - 1) y hp1))) HA ?_
  simp only [Act.put, List.setIfInBounds_toArray, List.set_cons_zero, List.set_cons_succ]
  refine takeHd 3 9 (.pointer (some ⟨b8, 1, none⟩)) rfl (by kernel_rfl) (by kernel_rfl) (by kernel_rfl) (fun _ _ _ h => h) (Yields.yieldsIf (yields_field rfl (fun w => by unfold execOp; go_simp))) HA ?_
  simp only [Act.put, List.setIfInBounds_toArray, List.set_cons_zero, List.set_cons_succ]
  refine wpAnyH_all (rs := [10]) (by kernel_rfl) (by simp) ?_
  intro i hi
  obtain rfl := List.mem_singleton.1 hi
  refine storeFdL rfl rfl (.tmp 35) (.tmp 28) rfl b8 q0 (List.replicate 32 0) x rfl hx rfl rfl N8 ?_
  simp only [Act.put]
  have HA2 := HA.cellsOther n8 1 (hrow x).toList
  refine ⟨HA2, ?_⟩
  refine takeHd 1 11 (.pointer (some ⟨b9, 1, none⟩)) rfl (by kernel_rfl) (by kernel_rfl) (by kernel_rfl) (fun _ _ _ h => h) (Yields.yieldsIf (yields_field rfl (fun w => by unfold execOp; go_simp))) HA2 ?_
  simp only [Act.put, List.setIfInBounds_toArray, List.set_cons_zero, List.set_cons_succ]
  refine wpAnyH_all (rs := [12]) (by kernel_rfl) (by simp) ?_
  intro i hi
  obtain rfl := List.mem_singleton.1 hi
  have N9b := Blk.cellsOther (Ne.symm h89) (hrow x).toList 1 w0 N9
  have N8b := Blk.headHash rfl hx N8
  have hb := Below.cells W.heap.size b8 l8 (hrow x).toList 1 w0 hB
  refine storeFdL rfl rfl (.tmp 36) (.tmp 34) rfl b9 q1 (List.replicate 32 0) y rfl hy rfl rfl N9b ?_
  simp only [Act.put]
  refine ⟨HA2.cellsOther n9 1 (hrow y).toList, ?_⟩
  refine wpAnyH_done (by kernel_rfl) ?_ 0
  exact HX.out _ _ _ _ _ _ _ _ _ _ _ _ (Blk.cellsOther h89 (hrow y).toList 1 _ N8b) (Blk.headHash rfl hy N9b) (HA2.cellsOther n9 1 (hrow y).toList) (Below.cells W.heap.size b9 l9 (hrow y).toList 1 _ hb)

theorem After.headL {w : World} {g : Nat} {n : Int} {y : List UInt8} (h : Blk w g (hdrow n y) 38) (hy : y.length = 32) : ∀ x : After w, (loadVar 38 ⟨g, 0, none⟩).run Try.prog x.W = .ok (.agg (hdrow n y)) x.W := fun x =>
  run_loadVar_row x.W g _ _ (hdrow n y) (0, 0) _ (h.below x.hb h.lt) Try.underlying38 rfl (hinfoD n y hy)
theorem sliceH (a1 : Option Addr) (n cap k : Nat) (hk : k ≤ n) (hc : n ≤ cap) (w : World) : (Instr.sliceAt 32 (.slice a1 n cap) none (some (.int .i64 k)) none).run Try.prog w = .ok (.slice a1 k cap) w := by
  have e0 : (k : Int) ≤ (cap : Int) := by omega
  cases a1 with
  | none => go_simp
  | some p => go_simp
set_option maxRecDepth 100000 in
set_option maxHeartbeats 1000000 in
theorem lg_r9 (u4 u5 u6 u11 u12 u13 u14 u15 u16 u17 u18 u19 u20 u21 u22 u23 u24 u25 u26 u27 u28 u29 u30 u31 u32 u33 u34 u35 u36 u37 u38 u39 u40 u41 u42 u43 u44 u45 u46 u47 u48 u49 u50 u51 u52 u53 u54 u55 u56 u57 u58 u59 u60 u61 u62 u63 u64 u65 u66 u67 u68 u69 u70 u71 u72 u73 u74 u75 : Value) (q0 q1 z : Int) (gq n cap b8 b9 k : Nat) (a1 : Option Addr) (x y : List UInt8) (c d : Bool) (w : World) (hx : x.length = 32) (hy : y.length = 32) (N8 : Blk w b8 (hdrow q0 x) 38) (N9 : Blk w b9 (hdrow q1 y) 38) (hk : k ≤ n) (hc : n ≤ cap)
    (C1 : ∀ x' : After w, Calls Try.prog 24 #[.agg (hdrow q0 x), .int .i64 z, S [120], .slice a1 k cap] x'.W fun e w' => e = .returned (.bool c) ∧ Below x'.W.heap.size x'.W w')
    (C2 : ∀ x' : After w, Calls Try.prog 27 #[.agg (hdrow q0 x), .int .i64 z, S [120], .slice a1 k cap] x'.W fun e w' => e = .returned (.bool c) ∧ Below x'.W.heap.size x'.W w')
    (C3 : ∀ x' : After w, Calls Try.prog 33 #[.agg (hdrow q0 x), .agg (hdrow q1 y), .slice a1 k cap] x'.W fun e w' => e = .returned (.bool d) ∧ Below x'.W.heap.size x'.W w')
    (C4 : ∀ x' : After w, Calls Try.prog 34 #[.agg (hdrow q0 x), .agg (hdrow q1 y), .slice a1 k cap] x'.W fun e w' => e = .returned (.bool d) ∧ Below x'.W.heap.size x'.W w')
    (Q : Exit → Act → World → Prop) (h : ∀ (y47 y48 y49 y50 y51 y52 y53 y54 y55 y56 y57 y58 y59 y60 y61 y62 y63 y64 y65 y66 y67 y68 y69 y70 y71 y72 y73 : Value) (w' : World), Below w.heap.size w w' → Q .normal ⟨((.agg #[.int .i64 q0, .int .i64 q1]) :: (.int .i64 z) :: (.slice a1 n cap) :: (.pointer (some ⟨gq, 0, none⟩)) :: u4 :: u5 :: u6 :: (.bool true) :: (.pointer (some ⟨b8, 0, none⟩)) :: (.pointer (some ⟨b9, 0, none⟩)) :: (.int .i64 (k : Int)) :: u11 :: u12 :: u13 :: u14 :: u15 :: u16 :: u17 :: u18 :: u19 :: u20 :: u21 :: u22 :: u23 :: u24 :: u25 :: u26 :: u27 :: u28 :: u29 :: u30 :: u31 :: u32 :: u33 :: u34 :: u35 :: u36 :: u37 :: u38 :: u39 :: u40 :: u41 :: u42 :: u43 :: u44 :: u45 :: u46 :: y47 :: y48 :: y49 :: y50 :: y51 :: y52 :: y53 :: y54 :: y55 :: y56 :: y57 :: y58 :: y59 :: y60 :: y61 :: y62 :: y63 :: y64 :: y65 :: y66 :: y67 :: y68 :: y69 :: y70 :: y71 :: y72 :: y73 :: (.bool false) :: u75 :: []).toArray, []⟩ w') : Code.wp Try.prog (regionIn Try.f10 9) Q ⟨((.agg #[.int .i64 q0, .int .i64 q1]) :: (.int .i64 z) :: (.slice a1 n cap) :: (.pointer (some ⟨gq, 0, none⟩)) :: u4 :: u5 :: u6 :: (.bool true) :: (.pointer (some ⟨b8, 0, none⟩)) :: (.pointer (some ⟨b9, 0, none⟩)) :: (.int .i64 (k : Int)) :: u11 :: u12 :: u13 :: u14 :: u15 :: u16 :: u17 :: u18 :: u19 :: u20 :: u21 :: u22 :: u23 :: u24 :: u25 :: u26 :: u27 :: u28 :: u29 :: u30 :: u31 :: u32 :: u33 :: u34 :: u35 :: u36 :: u37 :: u38 :: u39 :: u40 :: u41 :: u42 :: u43 :: u44 :: u45 :: u46 :: u47 :: u48 :: u49 :: u50 :: u51 :: u52 :: u53 :: u54 :: u55 :: u56 :: u57 :: u58 :: u59 :: u60 :: u61 :: u62 :: u63 :: u64 :: u65 :: u66 :: u67 :: u68 :: u69 :: u70 :: u71 :: u72 :: u73 :: u74 :: u75 :: []).toArray, []⟩ w := by
  have HX := Lib.hid h
  have f8 := After.headL N8 hx
  have f9 := After.headL N9 hy
  have hsl := sliceH a1 n cap k hk hc
  have qc : (c != c) = false := by simp
  have qd : (d != d) = false := by simp
  have D1 := Lib.hid C1
  have D2 := Lib.hid C2
  have D3 := Lib.hid C3
  have D4 := Lib.hid C4
  clear h N8 N9 C1 C2 C3 C4 hk hc
  generalize hdrow q0 x = R8 at *
  generalize hdrow q1 y = R9 at *
  conv => arg 2; whnf
  refine wp_region_after (by kernel_rfl) (by kernel_rfl) ?_
  repeat (first
    | (refine quiet_load_at 38 (.tmp 8) (by rfl) ⟨b8, 0, none⟩ (by rfl) R8 f8 (by kernel_rfl) ?_; go_frame)
    | (refine quiet_load_at 38 (.tmp 9) (by rfl) ⟨b9, 0, none⟩ (by rfl) R9 f9 (by kernel_rfl) ?_; go_frame)
    | (go_big_quiet_step (first | (with_reducible exact After.call (D1.out _)) | (with_reducible exact After.call (D2.out _)) | (with_reducible exact After.call (D3.out _)) | (with_reducible exact After.call (D4.out _)))))
  refine wpQuiet_nil ?_
  rintro w5 ⟨x5, rfl⟩
  exact HX.out _ _ _ _ _ _ _ _ _ _ _ _ _ _ _ _ _ _ _ _ _ _ _ _ _ _ _ _ x5.hb

end Go.Proofs.Ytjekdeikoebmgaa
