/- The contracts of Reverse (of steps) and of way. Conditions: sizes. -/
import Derived.Test.YtjekdeikoebmgaaOne
namespace Go.Proofs.Ytjekdeikoebmgaa
open Go.RowKit Go.Shelf Tr

/-- The cells of a list of steps. -/
def bcells (bs : List Bool) : List Value := bs.map .bool
theorem bcells_get {bs : List Bool} {i : Nat} {b : Bool} (h : bs[i]? = some b) : (bcells bs)[i]? = some (.bool b) := by unfold bcells; rw [List.getElem?_map, h]; rfl
theorem infoStep : (Try.prog.info? 68).map (fun i => (i.zero, i.size, i.bytes)) = some (some (.agg #[.bool false]), 1, 1) := by kernel_rfl
theorem infoStep1 : (Try.prog.info? 68).map (·.size) = some 1 := by kernel_rfl
theorem load_step (w : World) (g o : Nat) (b : Bool) (h : w.cell? ⟨g, o, none⟩ = some (.bool b)) : (loadVar 68 ⟨g, o, none⟩).run Try.prog w = .ok (.agg #[.bool b]) w :=
  run_loadVar_mid w g o 68 [.bool b] _ (fun j v hv => by
    match j, hv with
    | 0, hv => simp at hv; subst hv; exact h
    | j + 1, hv => simp at hv) Try.underlying68 rfl infoStep1
theorem VRow.set1 {w : World} {base g cap : Nat} {bs : List Bool} (h : VRow w base g cap 1 (bcells bs)) (i : Nat) (hi : i < bs.length) (b : Bool) : VRow (w.setCells g i [.bool b]) base g cap 1 (bcells (bs.set i b)) := by
  have hr := h.room
  unfold bcells at hr
  rw [List.length_map] at hr
  have hin : ∀ j, j < [Value.bool b].length → (w.cell? ⟨g, i + j, none⟩).isSome = true := fun j hj => h.some_ _ (by simp at hj; omega)
  refine ⟨h.base, by rw [size_setCells']; exact h.lt, by unfold bcells; simp; omega, fun j hj => World.isSome_setCells g _ _ _ _ (h.some_ j hj), fun j hj => by rw [World.frozen?_setCells]; exact h.free j hj, fun j v hv => ?_⟩
  rw [Nat.zero_add]
  unfold bcells at hv
  rw [List.getElem?_map] at hv
  obtain ⟨y, hy, rfl⟩ := Option.map_eq_some_iff.1 hv
  by_cases hq : j = i
  · subst hq
    rw [List.getElem?_set_self hi] at hy
    obtain rfl : b = y := by simpa using hy
    exact World.cell?_setCells_in g [.bool b] j w hin 0 (by simp)
  · rw [List.getElem?_set_ne (by omega)] at hy
    rw [World.cell?_setCells_out g _ _ _ _ (fun _ _ => by simp; omega)]
    have := h.cells j _ (bcells_get hy)
    rwa [Nat.zero_add] at this
theorem VRow.there1 {w : World} {base g cap : Nat} {bs : List Bool} (h : VRow w base g cap 1 (bcells bs)) (i : Nat) (hi : i < bs.length) : w.there g i 1 := fun j hj => by
  have hr := h.room
  unfold bcells at hr
  rw [List.length_map] at hr
  exact ⟨h.some_ _ (by omega), h.free _ (by omega)⟩
/-- The list behind k exchanges. -/
def HalfB (hs cur : List Bool) (k : Nat) : Prop := cur.length = hs.length ∧ ∀ i, i < hs.length → cur[i]? = if i < k ∨ hs.length ≤ i + k then hs[hs.length - 1 - i]? else hs[i]?
theorem HalfB.start (hs : List Bool) : HalfB hs hs 0 := ⟨rfl, fun i hi => by rw [if_neg (by omega)]⟩
theorem HalfB.done {hs cur : List Bool} {k : Nat} (h : HalfB hs cur k) (hk : hs.length ≤ 2 * k + 1) : cur = hs.reverse := by
  apply List.ext_getElem?
  intro i
  by_cases hi : i < hs.length
  · rw [h.2 i hi, List.getElem?_reverse hi]
    split
    · rfl
    · congr 1; omega
  · rw [List.getElem?_eq_none (by rw [h.1]; omega), List.getElem?_eq_none (by simp; omega)]
theorem HalfB.step {hs cur : List Bool} {k : Nat} (h : HalfB hs cur k) (hk : 2 * k + 1 < hs.length) {x y : Bool} (hx : cur[k]? = some x) (hy : cur[hs.length - 1 - k]? = some y) : HalfB hs ((cur.set k y).set (hs.length - 1 - k) x) (k + 1) := by
  have e1 := h.2 k (by omega)
  rw [if_neg (by omega), hx] at e1
  have e2 := h.2 (hs.length - 1 - k) (by omega)
  rw [if_neg (by omega), hy] at e2
  refine ⟨by simp [h.1], fun i hi => ?_⟩
  by_cases h1 : i = hs.length - 1 - k
  · subst h1
    rw [List.getElem?_set_self (by simp [h.1]; omega), if_pos (by omega), e1]
    congr 1; omega
  · rw [List.getElem?_set_ne (by omega)]
    by_cases h2 : i = k
    · subst h2
      rw [List.getElem?_set_self (by rw [h.1]; omega), if_pos (by omega), e2]
    · rw [List.getElem?_set_ne (by omega), h.2 i hi]
      by_cases h3 : i < k ∨ hs.length ≤ i + k
      · rw [if_pos h3, if_pos (by omega)]
      · rw [if_neg h3, if_neg (by omega)]

set_option maxRecDepth 100000 in
set_option maxHeartbeats 1000000 in
theorem revs_r3 (u1 u4 u5 u6 u7 u8 u9 u10 u11 u12 u13 u14 u15 u16 u17 u18 u19 u20 u21 u22 u23 u24 u25 u26 u27 : Value) (base g cap n k m : Nat) (cur : List Bool) (x y : Bool) (hcl : cur.length = n) (hkm : k < m) (hmn : m < n) (hx : cur[k]? = some x) (hy : cur[m]? = some y) (w : World) (hV : VRow w base g cap 1 (bcells cur)) (Q : Exit → Act → World → Prop)
    (h : ∀ (y14 y15 y16 y17 y18 y19 y20 y21 y22 y23 y24 y25 y26 y27 : Value) (w' : World), VRow w' base g cap 1 (bcells ((cur.set k y).set m x)) → w.grownBy w' (some g) → Q .normal ⟨((.slice (some ⟨g, 0, none⟩) n cap) :: u1 :: (.int .i64 (k : Int)) :: (.int .i64 (m : Int)) :: u4 :: u5 :: u6 :: u7 :: u8 :: u9 :: u10 :: u11 :: u12 :: u13 :: y14 :: y15 :: y16 :: y17 :: y18 :: y19 :: y20 :: y21 :: y22 :: y23 :: y24 :: y25 :: y26 :: y27 :: []).toArray, []⟩ w') : Code.wp Try.prog (regionIn Try.f58 3) Q ⟨((.slice (some ⟨g, 0, none⟩) n cap) :: u1 :: (.int .i64 (k : Int)) :: (.int .i64 (m : Int)) :: u4 :: u5 :: u6 :: u7 :: u8 :: u9 :: u10 :: u11 :: u12 :: u13 :: u14 :: u15 :: u16 :: u17 :: u18 :: u19 :: u20 :: u21 :: u22 :: u23 :: u24 :: u25 :: u26 :: u27 :: []).toArray, []⟩ w := by
  have lx : ∀ W : World, VRow W base g cap 1 (bcells cur) → (loadVar 68 ⟨g, k, none⟩).run Try.prog W = .ok (.agg #[.bool x]) W := fun W hW => load_step W g k x (by have := hW.cells k _ (bcells_get hx); rwa [Nat.zero_add] at this)
  have ly : ∀ W : World, VRow W base g cap 1 (bcells cur) → (loadVar 68 ⟨g, m, none⟩).run Try.prog W = .ok (.agg #[.bool y]) W := fun W hW => load_step W g m y (by have := hW.cells m _ (bcells_get hy); rwa [Nat.zero_add] at this)
  have hV1 : VRow { w with drawn := w.drawn + 1 } base g cap 1 (bcells cur) := hV.below ((Below.refl _ _).drew)
  have hV2 := hV1.set1 k (by omega) y
  have hV3 := hV2.set1 m (by rw [List.length_set]; omega) x
  have st1 : (Instr.storeAt 68 (.pointer (some ⟨g, k, none⟩)) (.agg #[.bool y])).run Try.prog { w with drawn := w.drawn + 1 } = .ok () (World.setCells { w with drawn := w.drawn + 1 } g k [.bool y]) :=
    run_storeAt_mid { w with drawn := w.drawn + 1 } g k 68 #[.bool y] (hV1.there1 k (by omega)) infoStep1 (by simp [Value.oneCell'])
  have st2 : (Instr.storeAt 68 (.pointer (some ⟨g, m, none⟩)) (.agg #[.bool x])).run Try.prog (World.setCells { w with drawn := w.drawn + 1 } g k [.bool y]) = .ok () (World.setCells (World.setCells { w with drawn := w.drawn + 1 } g k [.bool y]) g m [.bool x]) :=
    run_storeAt_mid (World.setCells { w with drawn := w.drawn + 1 } g k [.bool y]) g m 68 #[.bool x] (hV2.there1 m (by rw [List.length_set]; omega)) infoStep1 (by simp [Value.oneCell'])
  have hG := grown_setCells' (grown_setCells' (grown_drew (World.grownBy.refl w (some g))) [.bool y] k) [.bool x] m
  have b1 : (k : Int) < (n : Int) := by omega
  have b2 : (m : Int) < (n : Int) := by omega
  have b3 : (0 : Int) ≤ (k : Int) := by omega
  have b4 : (0 : Int) ≤ (m : Int) := by omega
  have HX := Lib.hid h
  have IK : Hid (∀ w, (Instr.indexAt 65 (.slice (some ⟨g, 0, none⟩) n cap) (.int .i64 (k : Int))).run Try.prog w = .ok (.pointer (some ⟨g, k, none⟩)) w) := fun w => by go_simp
  have IM : Hid (∀ w, (Instr.indexAt 65 (.slice (some ⟨g, 0, none⟩) n cap) (.int .i64 (m : Int))).run Try.prog w = .ok (.pointer (some ⟨g, m, none⟩)) w) := fun w => by go_simp
  have LX := lx _ hV1
  have LY := ly _ hV1
  clear h lx ly hcl hV hV1 hV2 hkm hmn
  conv => arg 2; whnf
  refine wp_region_noPanic ?_
  refine wp_region_any (by kernel_rfl) ?_
  refine takeL 15 0 (.slice (some ⟨g, 0, none⟩) n cap) rfl (by kernel_rfl) (by kernel_rfl) (by kernel_rfl) (fun _ _ _ h => h) (yields_move rfl rfl rfl) ?_
  simp only [Act.put, List.setIfInBounds_toArray, List.set_cons_zero, List.set_cons_succ]
  refine takeL 14 1 (.int .i64 (k : Int)) rfl (by kernel_rfl) (by kernel_rfl) (by kernel_rfl) (fun _ _ _ h => h) (yields_move rfl rfl rfl) ?_
  simp only [Act.put, List.setIfInBounds_toArray, List.set_cons_zero, List.set_cons_succ]
  refine takeL 13 2 (.slice (some ⟨g, 0, none⟩) n cap) rfl (by kernel_rfl) (by kernel_rfl) (by kernel_rfl) (fun _ _ _ h => h) (yields_move rfl rfl rfl) ?_
  simp only [Act.put, List.setIfInBounds_toArray, List.set_cons_zero, List.set_cons_succ]
  refine takeL 12 3 (.int .i64 (m : Int)) rfl (by kernel_rfl) (by kernel_rfl) (by kernel_rfl) (fun _ _ _ h => h) (yields_move rfl rfl rfl) ?_
  simp only [Act.put, List.setIfInBounds_toArray, List.set_cons_zero, List.set_cons_succ]
  refine takeL 11 4 (.slice (some ⟨g, 0, none⟩) n cap) rfl (by kernel_rfl) (by kernel_rfl) (by kernel_rfl) (fun _ _ _ h => h) (yields_move rfl rfl rfl) ?_
  simp only [Act.put, List.setIfInBounds_toArray, List.set_cons_zero, List.set_cons_succ]
  refine takeL 10 5 (.int .i64 (m : Int)) rfl (by kernel_rfl) (by kernel_rfl) (by kernel_rfl) (fun _ _ _ h => h) (yields_move rfl rfl rfl) ?_
  simp only [Act.put, List.setIfInBounds_toArray, List.set_cons_zero, List.set_cons_succ]
  refine takeL 9 6 (.pointer (some ⟨g, m, none⟩)) rfl (by kernel_rfl) (by kernel_rfl) (by kernel_rfl) (fun _ _ _ h => h) (yields_index rfl rfl rfl rfl IM.out) ?_
  simp only [Act.put, List.setIfInBounds_toArray, List.set_cons_zero, List.set_cons_succ]
  refine takeL 8 8 (.slice (some ⟨g, 0, none⟩) n cap) rfl (by kernel_rfl) (by kernel_rfl) (by kernel_rfl) (fun _ _ _ h => h) (yields_move rfl rfl rfl) ?_
  simp only [Act.put, List.setIfInBounds_toArray, List.set_cons_zero, List.set_cons_succ]
  refine takeL 7 9 (.int .i64 (k : Int)) rfl (by kernel_rfl) (by kernel_rfl) (by kernel_rfl) (fun _ _ _ h => h) (yields_move rfl rfl rfl) ?_
  simp only [Act.put, List.setIfInBounds_toArray, List.set_cons_zero, List.set_cons_succ]
  refine takeL 6 10 (.pointer (some ⟨g, k, none⟩)) rfl (by kernel_rfl) (by kernel_rfl) (by kernel_rfl) (fun _ _ _ h => h) (yields_index rfl rfl rfl rfl IK.out) ?_
  simp only [Act.put, List.setIfInBounds_toArray, List.set_cons_zero, List.set_cons_succ]
  refine wpAny_all (fuel := 5) (rs := [7, 11]) (by kernel_rfl) (by simp) ?_
  intro i hi
  rcases List.mem_cons.1 hi with rfl | hi
  · refine loadL rfl rfl 68 (.tmp 20) rfl ⟨g, m, none⟩ (.agg #[.bool y]) rfl LY ?_
    simp only [Act.put, List.setIfInBounds_toArray, List.set_cons_zero, List.set_cons_succ]
    refine wpAny_all (fuel := 4) (rs := [11]) (by kernel_rfl) (by simp) ?_
    intro i hi
    obtain rfl := List.mem_singleton.1 hi
    refine loadL rfl rfl 68 (.tmp 24) rfl ⟨g, k, none⟩ (.agg #[.bool x]) rfl LX ?_
    simp only [Act.put, List.setIfInBounds_toArray, List.set_cons_zero, List.set_cons_succ]
    refine takeL 3 12 (.pointer (some ⟨g, k, none⟩)) rfl (by kernel_rfl) (by kernel_rfl) (by kernel_rfl) (fun _ _ _ h => h) (yields_index rfl rfl rfl rfl IK.out) ?_
    simp only [Act.put, List.setIfInBounds_toArray, List.set_cons_zero, List.set_cons_succ]
    refine wpAny_all (fuel := 2) (rs := [13]) (by kernel_rfl) (by simp) ?_
    intro i hi
    obtain rfl := List.mem_singleton.1 hi
    refine storeL rfl rfl 68 (.tmp 26) (.tmp 21) rfl g k #[.bool y] rfl rfl st1 ?_
    simp only [Act.put]
    refine takeL 1 14 (.pointer (some ⟨g, m, none⟩)) rfl (by kernel_rfl) (by kernel_rfl) (by kernel_rfl) (fun _ _ _ h => h) (yields_index rfl rfl rfl rfl IM.out) ?_
    simp only [Act.put, List.setIfInBounds_toArray, List.set_cons_zero, List.set_cons_succ]
    refine wpAny_all (fuel := 0) (rs := [15]) (by kernel_rfl) (by simp) ?_
    intro i hi
    obtain rfl := List.mem_singleton.1 hi
    refine storeL rfl rfl 68 (.tmp 27) (.tmp 25) rfl g m #[.bool x] rfl rfl st2 ?_
    simp only [Act.put]
    refine wpAny_done (by kernel_rfl) ?_ 0
    refine NoPanic.normal ?_
    exact HX.out _ _ _ _ _ _ _ _ _ _ _ _ _ _ _ hV3 hG
  · obtain rfl := List.mem_singleton.1 hi
    refine loadL rfl rfl 68 (.tmp 24) rfl ⟨g, k, none⟩ (.agg #[.bool x]) rfl LX ?_
    simp only [Act.put, List.setIfInBounds_toArray, List.set_cons_zero, List.set_cons_succ]
    refine wpAny_all (fuel := 4) (rs := [7]) (by kernel_rfl) (by simp) ?_
    intro i hi
    obtain rfl := List.mem_singleton.1 hi
    refine loadL rfl rfl 68 (.tmp 20) rfl ⟨g, m, none⟩ (.agg #[.bool y]) rfl LY ?_
    simp only [Act.put, List.setIfInBounds_toArray, List.set_cons_zero, List.set_cons_succ]
    refine takeL 3 12 (.pointer (some ⟨g, k, none⟩)) rfl (by kernel_rfl) (by kernel_rfl) (by kernel_rfl) (fun _ _ _ h => h) (yields_index rfl rfl rfl rfl IK.out) ?_
    simp only [Act.put, List.setIfInBounds_toArray, List.set_cons_zero, List.set_cons_succ]
    refine wpAny_all (fuel := 2) (rs := [13]) (by kernel_rfl) (by simp) ?_
    intro i hi
    obtain rfl := List.mem_singleton.1 hi
    refine storeL rfl rfl 68 (.tmp 26) (.tmp 21) rfl g k #[.bool y] rfl rfl st1 ?_
    simp only [Act.put]
    refine takeL 1 14 (.pointer (some ⟨g, m, none⟩)) rfl (by kernel_rfl) (by kernel_rfl) (by kernel_rfl) (fun _ _ _ h => h) (yields_index rfl rfl rfl rfl IM.out) ?_
    simp only [Act.put, List.setIfInBounds_toArray, List.set_cons_zero, List.set_cons_succ]
    refine wpAny_all (fuel := 0) (rs := [15]) (by kernel_rfl) (by simp) ?_
    intro i hi
    obtain rfl := List.mem_singleton.1 hi
    refine storeL rfl rfl 68 (.tmp 27) (.tmp 25) rfl g m #[.bool x] rfl rfl st2 ?_
    simp only [Act.put]
    refine wpAny_done (by kernel_rfl) ?_ 0
    refine NoPanic.normal ?_
    exact HX.out _ _ _ _ _ _ _ _ _ _ _ _ _ _ _ hV3 hG

set_option maxRecDepth 100000 in
set_option maxHeartbeats 1000000 in
theorem ReverseS_any (base g cap : Nat) (hs : List Bool) (hn : hs.length ≤ 4398046511104) (w : World) (h : VRow w base g cap 1 (bcells hs)) :
    Calls Try.prog 58 #[.slice (some ⟨g, 0, none⟩) hs.length cap] w fun e w' => e = .returned (.tuple #[]) ∧ VRow w' base g cap 1 (bcells hs.reverse) ∧ w.grownBy w' (some g) := by
  obtain ⟨n, hnn⟩ : ∃ n, hs.length = n := ⟨_, rfl⟩
  have HN := Lib.hid hnn
  rw [hnn] at hn
  rw [hnn]
  clear hnn
  go_enter Try.func58, Try.ntmps58
  go_wp2_with fail
  go_loopw [2, 3] (fun i j wr => ∃ (k : Nat) (cur : List Bool), 2 * k ≤ n + 1 ∧ i = .int .i64 k ∧ j = .int .i64 ((n : Int) - 1 - k) ∧ Hid (HalfB hs cur k) ∧ VRow wr base g cap 1 (bcells cur) ∧ w.grownBy wr (some g)) (fun i _ _ => n - (intOf i).toNat)
  case atStart => exact ⟨0, hs, by omega, rfl, by first | rfl | (congr 1; omega) | (simp), HalfB.start hs, h, World.grownBy.refl w _⟩
  case round =>
    clear h
    obtain ⟨k, cur, hk, rfl, rfl, HH, hV, hG⟩ := hrel
    have hcl : cur.length = n := HH.out.1.trans HN.out
    by_cases hlt : 2 * k + 1 < n
    · obtain ⟨x, hx⟩ : ∃ x, cur[k]? = some x := ⟨cur[k]'(by omega), List.getElem?_eq_getElem (by omega)⟩
      obtain ⟨y, hy⟩ : ∃ y, cur[n - 1 - k]? = some y := ⟨cur[n - 1 - k]'(by omega), List.getElem?_eq_getElem (by omega)⟩
      obtain ⟨m, hm, hm2⟩ : ∃ m : Nat, (n : Int) - 1 - (k : Int) = (m : Int) ∧ m = n - 1 - k := ⟨n - 1 - k, by omega, rfl⟩
      have HS := Lib.hid (HH.out.step (by rw [HN.out]; exact hlt) hx (by rw [HN.out]; exact hy))
      rw [HN.out] at HS
      rw [← hm2] at hy HS
      rw [hm]
      have HM := Lib.hid hm2
      clear hm hm2
      have b1 : (k : Int) < (m : Int) := by have := HM.out; omega
      have b2 : (m : Int) ≤ 4398046511104 := by have := HM.out; omega
      have b3 : (1 : Int) ≤ (m : Int) := by omega
      go_wp2_with fail
      refine revs_r3 _ _ _ _ _ _ _ _ _ _ _ _ _ _ _ _ _ _ _ _ _ _ _ _ _ base g cap n k m cur x y hcl (by omega) (by have := HM.out; omega) hx hy wr hV _ ?_
      intro y14 y15 y16 y17 y18 y19 y20 y21 y22 y23 y24 y25 y26 y27 w5 hV5 hG5
      go_wp2_with fail
      go_roundw
      case rel => exact ⟨k + 1, _, by omega, by go_num, by have := HM.out; exact congrArg (Value.int .i64) (by omega), HS.out, hV5, grown_trans hG hG5⟩
      case measure => simp [intOf]; omega
    · have hcur := HH.out.done (by rw [HN.out]; omega)
      have t : ¬ ((k : Int) < (n : Int) - 1 - (k : Int)) := by omega
      rw [hcur] at hV
      clear hlt
      go_wp2_with fail
      go_end0
      exact ⟨rfl, hV, hG⟩
set_option maxRecDepth 100000 in
set_option maxHeartbeats 1000000 in
theorem ReverseS_nil (w : World) : Calls Try.prog 58 #[.slice none 0 0] w fun e w' => e = .returned (.tuple #[]) ∧ w = w' := by
  go_enter Try.func58, Try.ntmps58
  go_wp2_with fail
  go_loopw [2, 3] (fun i j wr => i = .int .i64 0 ∧ j = .int .i64 (-1) ∧ wr = w) (fun _ _ _ => 0)
  case atStart => exact ⟨rfl, rfl, rfl⟩
  case round =>
    obtain ⟨rfl, rfl, rfl⟩ := hrel
    go_wp2_with fail
    go_end0
    exact ⟨rfl, rfl⟩

/-- Steps of the call's own. -/
abbrev OwnB (w : World) (base : Nat) (v : Value) (bs : List Bool) : Prop := OwnV w base 1 v bs.length (bcells bs)
theorem run_append_step (w : World) (base : Nat) (v : Value) (l : List Bool) (h : OwnB w base v l) (hb : base ≤ w.heap.size) (b : Bool) (hn : l.length ≤ 4398046511100) :
    ∃ v' w', (Builtin.append_ #[65, 65] 65 #[v, .slice (some ⟨w.heap.size, 0, none⟩) 1 1]).run Try.prog (w.alloc (.cells #[.bool b] 68)) = .ok v' w' ∧ OwnB w' base v' (l ++ [b]) ∧ w.grownBy w' (blkOf v) ∧ (blkOf v' = blkOf v ∨ ∃ g, blkOf v' = some g ∧ w.heap.size ≤ g) := by
  obtain ⟨i0, hi, hz0, hz1, hz2⟩ := info_parts infoStep
  obtain ⟨v', w', r1, r2, r3, r4⟩ := run_append_one w base l.length 65 68 i0 _ v (.bool b) _ Try.underlying65 hi hz0 hz1 rfl (by rw [hz2]; omega) h hb rfl hn
  refine ⟨v', w', r1, ?_, r3, r4⟩
  unfold OwnB bcells
  rw [List.length_append, List.map_append]
  exact r2
theorem run_build_step (b : Bool) (w : World) : (Instr.buildSlice 65 1 #[(0, .agg #[.bool b])]).run Try.prog w = .ok (.slice (some ⟨w.heap.size, 0, none⟩) 1 1) (w.alloc (.cells #[.bool b] 68)) := by
  obtain ⟨i0, hi, hz0, hz1, _⟩ := info_parts infoStep
  exact run_buildRows w 65 68 1 1 [#[.bool b]] i0 _ Try.underlying65 hi hz0 hz1 rfl (fun R hR => by rw [List.mem_singleton.1 hR]; rfl) (by decide) (by decide) #[(0, .agg #[.bool b])] rfl
theorem way_len (n : Nat) : ∀ (i : Nat), (way i n).length ≤ n := by
  induction n using Nat.strongRecOn with
  | _ n ih =>
    intro i
    by_cases h : n ≤ 1
    · rw [way_one h]; simp
    have h1 := half_lt (n := n) (by omega)
    have h2 := half_pos (n := n) (by omega)
    by_cases hi : i < half n
    · rw [way_left (by omega) hi]
      have := ih _ h1 i
      simp; omega
    · rw [way_right (by omega) hi]
      have := ih (n - half n) (by omega) (i - half n)
      simp; omega
set_option maxRecDepth 100000 in
set_option maxHeartbeats 1000000 in
theorem way_any (i0 n0 : Nat) (h : i0 < n0) (hn : n0 ≤ 9223372036854775807) (w : World) :
    Calls Try.prog 41 #[.int .i64 i0, .int .i64 n0] w fun e w' => ∃ v, e = .returned v ∧ OwnB w' w.heap.size v (way i0 n0) ∧ Below w.heap.size w w' := by
  have hw63 := Lib.hid (way_le 63 i0 n0 (by omega))
  go_enter Try.func41, Try.ntmps41
  go_wp2_with fail
  go_loopw [0, 1, 5] (fun x0 x1 x5 wr => ∃ (i n : Nat) (bs : List Bool), x0 = .int .i64 i ∧ x1 = .int .i64 n ∧ i < n ∧ n < n0 + 1 ∧ Hid (way i0 n0 = way i n ++ bs.reverse) ∧ OwnB wr w.heap.size x5 bs ∧ Below w.heap.size w wr) (fun _ x1 _ _ => (intOf x1).toNat)
  case atStart => exact ⟨i0, n0, [], rfl, rfl, h, by omega, by show _ = _; simp, OwnV.nil _ _ _, Below.refl _ _⟩
  case round =>
    obtain ⟨i, n, bs, rfl, rfl, hin, hnn, HW, hO, hB⟩ := hrel
    by_cases h2 : 2 ≤ n
    · have Hlen : Hid (bs.length ≤ 63) := by
        have h1 := hw63.out
        rw [HW.out, List.length_append, List.length_reverse] at h1
        show _ ≤ _
        omega
      have A1 := Lib.hid (fun w => half_any n (by omega) (by omega) w)
      have hk0 := half_pos h2
      have hk1 := half_lt h2
      have HL : i < half n → Hid (way i0 n0 = way i (half n) ++ (bs ++ [false]).reverse) := fun hi => by
        show _ = _
        rw [HW.out, way_left h2 hi, List.reverse_append, List.append_assoc]; rfl
      have HR : ¬ i < half n → Hid (way i0 n0 = way (i - half n) (n - half n) ++ (bs ++ [true]).reverse) := fun hi => by
        show _ = _
        rw [HW.out, way_right h2 hi, List.reverse_append, List.append_assoc]; rfl
      clear HW
      generalize half n = k at *
      have q0 : (1 : Int) < (n : Int) := by omega
      have q1 : decide ((n : Int) > 1) = true := decide_eq_true q0
      by_cases hik : i < k
      · have q2 : (i : Int) < (k : Int) := by omega
        have HQ := HL hik
        clear HL HR
        go_wp2_with fail
        refine (A1.out _).mono ?_; rintro e w1 ⟨rfl, rfl⟩
        have HBS := Lib.hid (run_build_step false wr)
        obtain ⟨v', w', hap, hO', hgr, hblk⟩ := run_append_step wr w.heap.size u5 bs hO hB.size false (by have := Hlen.out; omega)
        have hB1 := below_of_grown hB hgr hB.size (fun g' hg' => hO.blk g' hg')
        have HAP := Lib.hid hap
        clear hap hgr hblk
        go_wp2_with (first
          | (refine wpList_build_run rfl 65 1 #[(0, .tmp 16)] rfl #[(0, .agg #[.bool false])] rfl _ _ HBS.out ?_)
          | (at_builtin; refine Lib.wpList_append_run _ rfl (.tmp 15) (.tmp 17) 65 65 rfl _ _ rfl rfl _ _ HAP.out ?_))
        go_roundw
        case rel => exact ⟨i, k, bs ++ [false], rfl, rfl, hik, by omega, HQ.out, hO', hB1⟩
        case measure => simp [intOf]; omega
      · have q2 : ¬ ((i : Int) < (k : Int)) := by omega
        have HQ := HR hik
        clear HL HR
        go_wp2_with fail
        refine (A1.out _).mono ?_; rintro e w1 ⟨rfl, rfl⟩
        have HBS := Lib.hid (run_build_step true wr)
        obtain ⟨v', w', hap, hO', hgr, hblk⟩ := run_append_step wr w.heap.size u5 bs hO hB.size true (by have := Hlen.out; omega)
        have hB1 := below_of_grown hB hgr hB.size (fun g' hg' => hO.blk g' hg')
        have HAP := Lib.hid hap
        clear hap hgr hblk
        go_wp2_with (first
          | (refine wpList_build_run rfl 65 1 #[(0, .tmp 26)] rfl #[(0, .agg #[.bool true])] rfl _ _ HBS.out ?_)
          | (at_builtin; refine Lib.wpList_append_run _ rfl (.tmp 25) (.tmp 27) 65 65 rfl _ _ rfl rfl _ _ HAP.out ?_))
        go_roundw
        case rel => exact ⟨i - k, n - k, bs ++ [true], congrArg (Value.int .i64) (by omega), congrArg (Value.int .i64) (by omega), by omega, by omega, HQ.out, hO', hB1⟩
        case measure => simp [intOf]; omega
    · have q0 : ¬ ((1 : Int) < (n : Int)) := by omega
      have q1 : decide ((n : Int) > 1) = false := decide_eq_false q0
      have hlen : bs.length ≤ 63 := by
        have h1 := hw63.out
        rw [HW.out, List.length_append, List.length_reverse] at h1
        omega
      have HR : Hid (way i0 n0 = bs.reverse) := by show _ = _; rw [HW.out, way_one (by omega)]; rfl
      clear HW
      rcases hO with ⟨rfl, hz, _⟩ | ⟨gg, cc, rfl, z1, z2, z3⟩
      · obtain rfl : bs = [] := List.length_eq_zero_iff.1 hz
        go_wp2_with fail
        refine (ReverseS_nil _).mono ?_; rintro e w1 ⟨rfl, rfl⟩
        go_wp2_with fail
        go_ret
        rw [HR.out]
        exact ⟨_, rfl, OwnV.nil _ _ _, hB⟩
      · have RV := Lib.hid (ReverseS_any w.heap.size gg cc bs (by omega) wr z3)
        have hgb := z3.base
        have Hrl := Lib.hid (show bs.reverse.length = bs.length from List.length_reverse)
        clear z1 z3
        go_wp2_with fail
        refine (RV.out).mono ?_; rintro e w1 ⟨rfl, hV, hG⟩
        have hB1 := below_of_grown hB hG hB.size (fun g' hg' => by cases hg'; exact hgb)
        go_wp2_with fail
        go_ret
        rw [HR.out]
        exact ⟨.slice (some ⟨gg, 0, none⟩) bs.length cc, rfl, .inr ⟨gg, cc, by rw [Hrl.out], by unfold bcells; simp, by rw [Hrl.out]; exact z2, hV⟩, hB1⟩
end Go.Proofs.Ytjekdeikoebmgaa
