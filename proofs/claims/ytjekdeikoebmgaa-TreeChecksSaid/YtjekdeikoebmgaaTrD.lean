/- The contracts of Reverse (of hashes) and of Path. Conditions: sizes. -/
import Derived.Test.YtjekdeikoebmgaaTrC
import Derived.Test.YtjekdeikoebmgaaAny
namespace Go.Proofs.Ytjekdeikoebmgaa
open Go.RowKit Go.Shelf Tr

/-- A load of a whole array at any address, in a region that draws its order. -/
theorem quiet_load_at {P : Program} {ops : Array Oper} {w : World} {Q : Act → Prop} {a : Act} {o : Oper} {rest : List Oper} (ty : TypeId) (x : Operand) (ho : o.op = .load ty x) (p : Addr) (hx : a.eval x = .pointer (some p)) (R : Array Value)
    (hl : ∀ y : After w, (loadVar ty p).run P y.W = .ok (.agg R) y.W) (hw : Region.wanted o (yielded ops a.tmps) = true)
    (h : wpQuiet P ops (fun w' => ∃ x : After w, w' = x.W) Q rest (a.put o.dst (.agg R))) : wpQuiet P ops (fun w' => ∃ x : After w, w' = x.W) Q (o :: rest) a := by
  unfold wpQuiet
  rw [if_pos hw]
  refine ⟨.agg R, ?_, h⟩
  rintro w' ⟨y, rfl⟩
  unfold Oper.quietAt execOp
  simp only [ho, hx, Instr.loadAt, Instr.sureAddr, Sem.run_bind, Sem.run_pure, Result.andThen_ok, hl y]
  exact ⟨rfl, rfl⟩
theorem load_hash (w : World) (g o : Nat) (x : List UInt8) (hx : x.length = 32) (h : w.rangeAt g o (x.map Y)) : (loadVar 24 ⟨g, o, none⟩).run Try.prog w = .ok (.agg (hrow x)) w :=
  run_loadVar_mid w g o 24 (x.map Y) _ h Try.underlying24 rfl (by rw [List.length_map, hx]; exact info24)
theorem After.elem {w : World} {g o : Nat} {hs : List (List UInt8)} (h : HAt w g o hs) (ha : All32 hs) (i : Nat) (x : List UInt8) (hx : hs[i]? = some x) : ∀ y : After w, (loadVar 24 ⟨g, o + 32 * i, none⟩).run Try.prog y.W = .ok (.agg (hrow x)) y.W := fun y =>
  load_hash _ _ _ x (ha x (List.mem_of_getElem? hx)) ((h.below y.hb).elem ha i x hx)
theorem hcells_at {hs : List (List UInt8)} (h : All32 hs) (j : Nat) (v : Value) (hv : (hcells hs)[j]? = some v) : ∃ x, hs[j / 32]? = some x ∧ (x.map Y)[j % 32]? = some v := by
  have hj : j < hs.length * 32 := by rw [← hcells_length h]; exact (List.getElem?_eq_some_iff.1 hv).1
  have hq : j / 32 < hs.length := by omega
  refine ⟨_, List.getElem?_eq_getElem hq, ?_⟩
  have hx := h _ (List.getElem_mem hq)
  have hr : j % 32 < (hs[j / 32].map Y).length := by rw [List.length_map, hx]; omega
  have h1 := hcells_get h (j / 32) _ (List.getElem?_eq_getElem hq) (j % 32) _ (List.getElem?_eq_getElem hr)
  rw [show 32 * (j / 32) + j % 32 = j by omega, hv] at h1
  rw [List.getElem?_eq_getElem hr, ← h1]
theorem size_setCells' (g : Nat) : ∀ (vs : List Value) (o : Nat) (a : World), (a.setCells g o vs).heap.size = a.heap.size
  | [], _, _ => rfl
  | u :: r, o, a => by
    show ((a.setCell ⟨g, o, none⟩ u).setCells g (o + 1) r).heap.size = _
    rw [size_setCells' g r]; simp [World.setCell]
theorem grown_setCells' {a w : World} {g : Nat} (h : a.grownBy w (some g)) : ∀ (vs : List Value) (o : Nat), a.grownBy (w.setCells g o vs) (some g)
  | [], _ => h
  | v :: r, o => grown_setCells' (grown_set h o v) r (o + 1)
theorem Tr.All32.set {hs : List (List UInt8)} (h : All32 hs) (i : Nat) {x : List UInt8} (hx : x.length = 32) : All32 (hs.set i x) := by
  intro y hy
  rcases List.mem_or_eq_of_mem_set hy with h1 | h1
  · exact h y h1
  · rw [h1]; exact hx
/-- One hash is stored anew. -/
theorem VRow.set {w : World} {base g cap : Nat} {hs : List (List UInt8)} (h : VRow w base g cap 32 (hcells hs)) (ha : All32 hs) (i : Nat) (hi : i < hs.length) {x : List UInt8} (hx : x.length = 32) : VRow (w.setCells g (32 * i) (x.map Y)) base g cap 32 (hcells (hs.set i x)) := by
  have hr := h.room
  rw [hcells_length ha] at hr
  have hin : ∀ j, j < (x.map Y).length → (w.cell? ⟨g, 32 * i + j, none⟩).isSome = true := fun j hj => h.some_ _ (by rw [List.length_map, hx] at hj; omega)
  refine ⟨h.base, by rw [size_setCells']; exact h.lt, by rw [hcells_length (ha.set i hx), List.length_set]; exact hr, fun j hj => World.isSome_setCells g _ _ _ _ (h.some_ j hj), fun j hj => by rw [World.frozen?_setCells]; exact h.free j hj, fun j v hv => ?_⟩
  obtain ⟨y, hy1, hy2⟩ := hcells_at (ha.set i hx) j v hv
  have hjm : j % 32 < (y.map Y).length := (List.getElem?_eq_some_iff.1 hy2).1
  rw [Nat.zero_add]
  by_cases hq : j / 32 = i
  · rw [hq, List.getElem?_set_self hi] at hy1
    obtain rfl : x = y := by simpa using hy1
    have := World.cell?_setCells_in g (x.map Y) (32 * i) w hin (j % 32) hjm
    rw [show 32 * i + j % 32 = j by omega] at this
    rw [this, ← hy2, List.getElem?_eq_getElem hjm]
  · rw [List.getElem?_set_ne (by omega)] at hy1
    rw [World.cell?_setCells_out g _ _ _ _ (fun _ _ => by simp [hx]; omega)]
    have := h.cells j v (by
      have := hcells_get ha (j / 32) y hy1 (j % 32) v hy2
      rwa [show 32 * (j / 32) + j % 32 = j by omega] at this)
    rwa [Nat.zero_add] at this
theorem VRow.there {w : World} {base g cap : Nat} {hs : List (List UInt8)} (h : VRow w base g cap 32 (hcells hs)) (ha : All32 hs) (i : Nat) (hi : i < hs.length) : w.there g (32 * i) 32 := fun j hj => by
  have hr := h.room
  rw [hcells_length ha] at hr
  exact ⟨h.some_ _ (by omega), h.free _ (by omega)⟩

theorem grown_trans {a b c : World} {row : Option Nat} (h : a.grownBy b row) (k : b.grownBy c row) : a.grownBy c row :=
  ⟨k.os.trans h.os, k.tape.trans h.tape, k.output.trans h.output, Nat.le_trans h.size k.size, fun i hi hne => (k.block i (Nat.lt_of_lt_of_le hi h.size) hne).trans (h.block i hi hne)⟩
/-- The list behind k exchanges. -/
def Half_ (hs cur : List (List UInt8)) (k : Nat) : Prop := cur.length = hs.length ∧ ∀ i, i < hs.length → cur[i]? = if i < k ∨ hs.length ≤ i + k then hs[hs.length - 1 - i]? else hs[i]?
theorem Half_.start (hs : List (List UInt8)) : Half_ hs hs 0 := ⟨rfl, fun i hi => by rw [if_neg (by omega)]⟩
theorem Half_.done {hs cur : List (List UInt8)} {k : Nat} (h : Half_ hs cur k) (hk : hs.length ≤ 2 * k + 1) : cur = hs.reverse := by
  apply List.ext_getElem?
  intro i
  by_cases hi : i < hs.length
  · rw [h.2 i hi, List.getElem?_reverse hi]
    split
    · rfl
    · congr 1; omega
  · rw [List.getElem?_eq_none (by rw [h.1]; omega), List.getElem?_eq_none (by simp; omega)]
theorem Half_.step {hs cur : List (List UInt8)} {k : Nat} (h : Half_ hs cur k) (hk : 2 * k + 1 < hs.length) {x y : List UInt8} (hx : cur[k]? = some x) (hy : cur[hs.length - 1 - k]? = some y) : Half_ hs ((cur.set k y).set (hs.length - 1 - k) x) (k + 1) := by
  have e1 := h.2 k (by omega)
  rw [if_neg (by omega), hx] at e1
  have e2 := h.2 (hs.length - 1 - k) (by omega)
  rw [if_neg (by omega), hy] at e2
  refine ⟨by simp [h.1], fun i hi => ?_⟩
  by_cases h1 : i = hs.length - 1 - k
  · subst h1
    rw [List.getElem?_set_self (by simp [h.1]; omega), if_pos (by omega), e1]
    congr 1; omega
  · rw [List.getElem?_set_ne (by omega)]
    by_cases h2 : i = k
    · subst h2
      rw [List.getElem?_set_self (by rw [h.1]; omega), if_pos (by omega), e2]
    · rw [List.getElem?_set_ne (by omega), h.2 i hi]
      by_cases h3 : i < k ∨ hs.length ≤ i + k
      · rw [if_pos h3, if_pos (by omega)]
      · rw [if_neg h3, if_neg (by omega)]

set_option maxRecDepth 100000 in
set_option maxHeartbeats 1000000 in
theorem rev_r3 (u1 u4 u5 u6 u7 u8 u9 u10 u11 u12 u13 u14 u15 u16 u17 u18 u19 u20 u21 u22 u23 u24 u25 u26 u27 : Value) (base g cap n k m : Nat) (cur : List (List UInt8)) (x y : List UInt8) (hcl : cur.length = n) (hkm : k < m) (hmn : m < n) (hA : All32 cur) (hx : cur[k]? = some x) (hy : cur[m]? = some y) (w : World) (hV : VRow w base g cap 32 (hcells cur)) (Q : Exit → Act → World → Prop)
    (h : ∀ (y14 y15 y16 y17 y18 y19 y20 y21 y22 y23 y24 y25 y26 y27 : Value) (w' : World), VRow w' base g cap 32 (hcells ((cur.set k y).set m x)) → w.grownBy w' (some g) → Q .normal ⟨((.slice (some ⟨g, 0, none⟩) n cap) :: u1 :: (.int .i64 (k : Int)) :: (.int .i64 (m : Int)) :: u4 :: u5 :: u6 :: u7 :: u8 :: u9 :: u10 :: u11 :: u12 :: u13 :: y14 :: y15 :: y16 :: y17 :: y18 :: y19 :: y20 :: y21 :: y22 :: y23 :: y24 :: y25 :: y26 :: y27 :: []).toArray, []⟩ w') : Code.wp Try.prog (regionIn Try.f40 3) Q ⟨((.slice (some ⟨g, 0, none⟩) n cap) :: u1 :: (.int .i64 (k : Int)) :: (.int .i64 (m : Int)) :: u4 :: u5 :: u6 :: u7 :: u8 :: u9 :: u10 :: u11 :: u12 :: u13 :: u14 :: u15 :: u16 :: u17 :: u18 :: u19 :: u20 :: u21 :: u22 :: u23 :: u24 :: u25 :: u26 :: u27 :: []).toArray, []⟩ w := by
  have x32 := hA x (List.mem_of_getElem? hx)
  have y32 := hA y (List.mem_of_getElem? hy)
  have lx : ∀ W : World, HAt W g 0 cur → (loadVar 24 ⟨g, k * 32, none⟩).run Try.prog W = .ok (.agg (hrow x)) W := fun W hW => load_hash W g (k * 32) x x32 (by have := hW.elem hA k x hx; rwa [Nat.zero_add, Nat.mul_comm] at this)
  have ly : ∀ W : World, HAt W g 0 cur → (loadVar 24 ⟨g, m * 32, none⟩).run Try.prog W = .ok (.agg (hrow y)) W := fun W hW => load_hash W g (m * 32) y y32 (by have := hW.elem hA m y hy; rwa [Nat.zero_add, Nat.mul_comm] at this)
  have hV1 : VRow { w with drawn := w.drawn + 1 } base g cap 32 (hcells cur) := hV.below ((Below.refl _ _).drew)
  have hV2 := hV1.set hA k (by omega) y32
  have hV3 := hV2.set (hA.set k y32) m (by rw [List.length_set]; omega) x32
  have st1 : (Instr.storeAt 24 (.pointer (some ⟨g, k * 32, none⟩)) (.agg (hrow y))).run Try.prog { w with drawn := w.drawn + 1 } = .ok () (World.setCells { w with drawn := w.drawn + 1 } g (32 * k) (y.map Y)) := by
    have h := run_storeAt_mid { w with drawn := w.drawn + 1 } g (32 * k) 24 (hrow y) (by rw [hrow_size y32]; exact hV1.there hA k (by omega)) (by rw [hrow_size y32]; exact info24) (bytes_all y)
    rw [Nat.mul_comm k]
    exact h
  have st2 : (Instr.storeAt 24 (.pointer (some ⟨g, m * 32, none⟩)) (.agg (hrow x))).run Try.prog (World.setCells { w with drawn := w.drawn + 1 } g (32 * k) (y.map Y)) = .ok () (World.setCells (World.setCells { w with drawn := w.drawn + 1 } g (32 * k) (y.map Y)) g (32 * m) (x.map Y)) := by
    have h := run_storeAt_mid (World.setCells { w with drawn := w.drawn + 1 } g (32 * k) (y.map Y)) g (32 * m) 24 (hrow x) (by rw [hrow_size x32]; exact hV2.there (hA.set k y32) m (by rw [List.length_set]; omega)) (by rw [hrow_size x32]; exact info24) (bytes_all x)
    rw [Nat.mul_comm m]
    exact h
  have hG := grown_setCells' (grown_setCells' (grown_drew (World.grownBy.refl w (some g))) (y.map Y) (32 * k)) (x.map Y) (32 * m)
  have b1 : (k : Int) < (n : Int) := by omega
  have b2 : (m : Int) < (n : Int) := by omega
  have b3 : (0 : Int) ≤ (k : Int) := by omega
  have b4 : (0 : Int) ≤ (m : Int) := by omega
  have HX := Lib.hid h
  have IK : Hid (∀ w, (Instr.indexAt 32 (.slice (some ⟨g, 0, none⟩) n cap) (.int .i64 (k : Int))).run Try.prog w = .ok (.pointer (some ⟨g, k * 32, none⟩)) w) := fun w => by go_simp
  have IM : Hid (∀ w, (Instr.indexAt 32 (.slice (some ⟨g, 0, none⟩) n cap) (.int .i64 (m : Int))).run Try.prog w = .ok (.pointer (some ⟨g, m * 32, none⟩)) w) := fun w => by go_simp
  have LX := lx _ hV1.cells
  have LY := ly _ hV1.cells
  clear h lx ly hcl hV hV1 hV2 hkm hmn
  conv => arg 2; whnf
  refine wp_region_noPanic ?_
  refine wp_region_any (by kernel_rfl) ?_
  refine takeL 15 0 (.slice (some ⟨g, 0, none⟩) n cap) rfl (by kernel_rfl) (by kernel_rfl) (by kernel_rfl) (fun _ _ _ h => h) (yields_move rfl rfl rfl) ?_
  simp only [Act.put, List.setIfInBounds_toArray, List.set_cons_zero, List.set_cons_succ]
  refine takeL 14 1 (.int .i64 (k : Int)) rfl (by kernel_rfl) (by kernel_rfl) (by kernel_rfl) (fun _ _ _ h => h) (yields_move rfl rfl rfl) ?_
  simp only [Act.put, List.setIfInBounds_toArray, List.set_cons_zero, List.set_cons_succ]
  refine takeL 13 2 (.slice (some ⟨g, 0, none⟩) n cap) rfl (by kernel_rfl) (by kernel_rfl) (by kernel_rfl) (fun _ _ _ h => h) (yields_move rfl rfl rfl) ?_
  simp only [Act.put, List.setIfInBounds_toArray, List.set_cons_zero, List.set_cons_succ]
  refine takeL 12 3 (.int .i64 (m : Int)) rfl (by kernel_rfl) (by kernel_rfl) (by kernel_rfl) (fun _ _ _ h => h) (yields_move rfl rfl rfl) ?_
  simp only [Act.put, List.setIfInBounds_toArray, List.set_cons_zero, List.set_cons_succ]
  refine takeL 11 4 (.slice (some ⟨g, 0, none⟩) n cap) rfl (by kernel_rfl) (by kernel_rfl) (by kernel_rfl) (fun _ _ _ h => h) (yields_move rfl rfl rfl) ?_
  simp only [Act.put, List.setIfInBounds_toArray, List.set_cons_zero, List.set_cons_succ]
  refine takeL 10 5 (.int .i64 (m : Int)) rfl (by kernel_rfl) (by kernel_rfl) (by kernel_rfl) (fun _ _ _ h => h) (yields_move rfl rfl rfl) ?_
  simp only [Act.put, List.setIfInBounds_toArray, List.set_cons_zero, List.set_cons_succ]
  refine takeL 9 6 (.pointer (some ⟨g, m * 32, none⟩)) rfl (by kernel_rfl) (by kernel_rfl) (by kernel_rfl) (fun _ _ _ h => h) (yields_index rfl rfl rfl rfl IM.out) ?_
  simp only [Act.put, List.setIfInBounds_toArray, List.set_cons_zero, List.set_cons_succ]
  refine takeL 8 8 (.slice (some ⟨g, 0, none⟩) n cap) rfl (by kernel_rfl) (by kernel_rfl) (by kernel_rfl) (fun _ _ _ h => h) (yields_move rfl rfl rfl) ?_
  simp only [Act.put, List.setIfInBounds_toArray, List.set_cons_zero, List.set_cons_succ]
  refine takeL 7 9 (.int .i64 (k : Int)) rfl (by kernel_rfl) (by kernel_rfl) (by kernel_rfl) (fun _ _ _ h => h) (yields_move rfl rfl rfl) ?_
  simp only [Act.put, List.setIfInBounds_toArray, List.set_cons_zero, List.set_cons_succ]
  refine takeL 6 10 (.pointer (some ⟨g, k * 32, none⟩)) rfl (by kernel_rfl) (by kernel_rfl) (by kernel_rfl) (fun _ _ _ h => h) (yields_index rfl rfl rfl rfl IK.out) ?_
  simp only [Act.put, List.setIfInBounds_toArray, List.set_cons_zero, List.set_cons_succ]
  refine wpAny_all (fuel := 5) (rs := [7, 11]) (by kernel_rfl) (by simp) ?_
  intro i hi
  rcases List.mem_cons.1 hi with rfl | hi
  · refine loadL rfl rfl 24 (.tmp 20) rfl ⟨g, m * 32, none⟩ (.agg (hrow y)) rfl LY ?_
    simp only [Act.put, List.setIfInBounds_toArray, List.set_cons_zero, List.set_cons_succ]
    refine wpAny_all (fuel := 4) (rs := [11]) (by kernel_rfl) (by simp) ?_
    intro i hi
    obtain rfl := List.mem_singleton.1 hi
    refine loadL rfl rfl 24 (.tmp 24) rfl ⟨g, k * 32, none⟩ (.agg (hrow x)) rfl LX ?_
    simp only [Act.put, List.setIfInBounds_toArray, List.set_cons_zero, List.set_cons_succ]
    refine takeL 3 12 (.pointer (some ⟨g, k * 32, none⟩)) rfl (by kernel_rfl) (by kernel_rfl) (by kernel_rfl) (fun _ _ _ h => h) (yields_index rfl rfl rfl rfl IK.out) ?_
    simp only [Act.put, List.setIfInBounds_toArray, List.set_cons_zero, List.set_cons_succ]
    refine wpAny_all (fuel := 2) (rs := [13]) (by kernel_rfl) (by simp) ?_
    intro i hi
    obtain rfl := List.mem_singleton.1 hi
    refine storeL rfl rfl 24 (.tmp 26) (.tmp 21) rfl g (k * 32) (hrow y) rfl rfl st1 ?_
    simp only [Act.put]
    refine takeL 1 14 (.pointer (some ⟨g, m * 32, none⟩)) rfl (by kernel_rfl) (by kernel_rfl) (by kernel_rfl) (fun _ _ _ h => h) (yields_index rfl rfl rfl rfl IM.out) ?_
    simp only [Act.put, List.setIfInBounds_toArray, List.set_cons_zero, List.set_cons_succ]
    refine wpAny_all (fuel := 0) (rs := [15]) (by kernel_rfl) (by simp) ?_
    intro i hi
    obtain rfl := List.mem_singleton.1 hi
    refine storeL rfl rfl 24 (.tmp 27) (.tmp 25) rfl g (m * 32) (hrow x) rfl rfl st2 ?_
    simp only [Act.put]
    refine wpAny_done (by kernel_rfl) ?_ 0
    refine NoPanic.normal ?_
    exact HX.out _ _ _ _ _ _ _ _ _ _ _ _ _ _ _ hV3 hG
  · obtain rfl := List.mem_singleton.1 hi
    refine loadL rfl rfl 24 (.tmp 24) rfl ⟨g, k * 32, none⟩ (.agg (hrow x)) rfl LX ?_
    simp only [Act.put, List.setIfInBounds_toArray, List.set_cons_zero, List.set_cons_succ]
    refine wpAny_all (fuel := 4) (rs := [7]) (by kernel_rfl) (by simp) ?_
    intro i hi
    obtain rfl := List.mem_singleton.1 hi
    refine loadL rfl rfl 24 (.tmp 20) rfl ⟨g, m * 32, none⟩ (.agg (hrow y)) rfl LY ?_
    simp only [Act.put, List.setIfInBounds_toArray, List.set_cons_zero, List.set_cons_succ]
    refine takeL 3 12 (.pointer (some ⟨g, k * 32, none⟩)) rfl (by kernel_rfl) (by kernel_rfl) (by kernel_rfl) (fun _ _ _ h => h) (yields_index rfl rfl rfl rfl IK.out) ?_
    simp only [Act.put, List.setIfInBounds_toArray, List.set_cons_zero, List.set_cons_succ]
    refine wpAny_all (fuel := 2) (rs := [13]) (by kernel_rfl) (by simp) ?_
    intro i hi
    obtain rfl := List.mem_singleton.1 hi
    refine storeL rfl rfl 24 (.tmp 26) (.tmp 21) rfl g (k * 32) (hrow y) rfl rfl st1 ?_
    simp only [Act.put]
    refine takeL 1 14 (.pointer (some ⟨g, m * 32, none⟩)) rfl (by kernel_rfl) (by kernel_rfl) (by kernel_rfl) (fun _ _ _ h => h) (yields_index rfl rfl rfl rfl IM.out) ?_
    simp only [Act.put, List.setIfInBounds_toArray, List.set_cons_zero, List.set_cons_succ]
    refine wpAny_all (fuel := 0) (rs := [15]) (by kernel_rfl) (by simp) ?_
    intro i hi
    obtain rfl := List.mem_singleton.1 hi
    refine storeL rfl rfl 24 (.tmp 27) (.tmp 25) rfl g (m * 32) (hrow x) rfl rfl st2 ?_
    simp only [Act.put]
    refine wpAny_done (by kernel_rfl) ?_ 0
    refine NoPanic.normal ?_
    exact HX.out _ _ _ _ _ _ _ _ _ _ _ _ _ _ _ hV3 hG

set_option maxRecDepth 100000 in
set_option maxHeartbeats 1000000 in
theorem Reverse_any (base g cap : Nat) (hs : List (List UInt8)) (ha : All32 hs) (hn : hs.length ≤ 4398046511104) (w : World) (h : VRow w base g cap 32 (hcells hs)) :
    Calls Try.prog 40 #[.slice (some ⟨g, 0, none⟩) hs.length cap] w fun e w' => e = .returned (.tuple #[]) ∧ VRow w' base g cap 32 (hcells hs.reverse) ∧ w.grownBy w' (some g) := by
  obtain ⟨n, hnn⟩ : ∃ n, hs.length = n := ⟨_, rfl⟩
  have HN := Lib.hid hnn
  rw [hnn] at hn
  rw [hnn]
  clear hnn
  go_enter Try.func40, Try.ntmps40
  go_wp2_with fail
  go_loopw [2, 3] (fun i j wr => ∃ (k : Nat) (cur : List (List UInt8)), 2 * k ≤ n + 1 ∧ i = .int .i64 k ∧ j = .int .i64 ((n : Int) - 1 - k) ∧ Hid (Half_ hs cur k) ∧ Hid (All32 cur) ∧ VRow wr base g cap 32 (hcells cur) ∧ w.grownBy wr (some g)) (fun i _ _ => n - (intOf i).toNat)
  case atStart => exact ⟨0, hs, by omega, rfl, by first | rfl | (congr 1; omega) | (simp), Half_.start hs, ha, h, World.grownBy.refl w _⟩
  case round =>
    clear h
    obtain ⟨k, cur, hk, rfl, rfl, HH, HA, hV, hG⟩ := hrel
    have hcl : cur.length = n := HH.out.1.trans HN.out
    by_cases hlt : 2 * k + 1 < n
    · obtain ⟨x, hx⟩ : ∃ x, cur[k]? = some x := ⟨cur[k]'(by omega), List.getElem?_eq_getElem (by omega)⟩
      obtain ⟨y, hy⟩ : ∃ y, cur[n - 1 - k]? = some y := ⟨cur[n - 1 - k]'(by omega), List.getElem?_eq_getElem (by omega)⟩
      obtain ⟨m, hm, hm2⟩ : ∃ m : Nat, (n : Int) - 1 - (k : Int) = (m : Int) ∧ m = n - 1 - k := ⟨n - 1 - k, by omega, rfl⟩
      have HS := Lib.hid (HH.out.step (by rw [HN.out]; exact hlt) hx (by rw [HN.out]; exact hy))
      rw [HN.out] at HS
      rw [← hm2] at hy HS
      have x32 := HA.out x (List.mem_of_getElem? hx)
      have y32 := HA.out y (List.mem_of_getElem? hy)
      rw [hm]
      have HM := Lib.hid hm2
      clear hm hm2
      have b1 : (k : Int) < (m : Int) := by have := HM.out; omega
      have b2 : (m : Int) ≤ 4398046511104 := by have := HM.out; omega
      have b3 : (1 : Int) ≤ (m : Int) := by omega
      go_wp2_with fail
      refine rev_r3 _ _ _ _ _ _ _ _ _ _ _ _ _ _ _ _ _ _ _ _ _ _ _ _ _ base g cap n k m cur x y hcl (by omega) (by have := HM.out; omega) HA.out hx hy wr hV _ ?_
      intro y14 y15 y16 y17 y18 y19 y20 y21 y22 y23 y24 y25 y26 y27 w5 hV5 hG5
      go_wp2_with fail
      go_roundw
      case rel => exact ⟨k + 1, _, by omega, by go_num, by have := HM.out; exact congrArg (Value.int .i64) (by omega), HS.out, (HA.out.set k y32).set m x32, hV5, grown_trans hG hG5⟩
      case measure => simp [intOf]; omega
    · have hcur := HH.out.done (by rw [HN.out]; omega)
      have t : ¬ ((k : Int) < (n : Int) - 1 - (k : Int)) := by omega
      rw [hcur] at hV
      clear hlt
      go_wp2_with fail
      go_end0
      exact ⟨rfl, hV, hG⟩
end Go.Proofs.Ytjekdeikoebmgaa
