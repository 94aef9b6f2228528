/- The contracts of Reverse (of steps) and of way. Conditions: sizes. The contract of CheckPath. Conditions: sizes. The contract of the reference's Strings. Conditions: none. Path, CheckPath and Same in the form that the laws take. Conditions: sizes. -/
import Derived.Test.YtjekdeikoebmgaaTrI
import Derived.Test.YtjekdeikoebmgaaHead
namespace Go.Proofs.Ytjekdeikoebmgaa
open Go.RowKit Go.Shelf Tr

/-- The cells of a list of steps. -/
def bcells (bs : List Bool) : List Value := bs.map .bool
theorem bcells_get {bs : List Bool} {i : Nat} {b : Bool} (h : bs[i]? = some b) : (bcells bs)[i]? = some (.bool b) := by unfold bcells; rw [List.getElem?_map, h]; rfl
theorem infoStep : (Try.prog.info? 68).map (fun i => (i.zero, i.size, i.bytes)) = some (some (.agg #[.bool false]), 1, 1) := by kernel_rfl
theorem infoStep1 : (Try.prog.info? 68).map (·.size) = some 1 := by kernel_rfl
theorem load_step (w : World) (g o : Nat) (b : Bool) (h : w.cell? ⟨g, o, none⟩ = some (.bool b)) : (loadVar 68 ⟨g, o, none⟩).run Try.prog w = .ok (.agg #[.bool b]) w :=
  run_loadVar_mid w g o 68 [.bool b] _ (fun j v hv => by
    match j, hv with
    | 0, hv => simp at hv; subst hv; exact h
    | j + 1, hv => simp at hv) Try.underlying68 rfl infoStep1
theorem VRow.set1 {w : World} {base g cap : Nat} {bs : List Bool} (h : VRow w base g cap 1 (bcells bs)) (i : Nat) (hi : i < bs.length) (b : Bool) : VRow (w.setCells g i [.bool b]) base g cap 1 (bcells (bs.set i b)) := by
  have hr := h.room
  unfold bcells at hr
  rw [List.length_map] at hr
  have hin : ∀ j, j < [Value.bool b].length → (w.cell? ⟨g, i + j, none⟩).isSome = true := fun j hj => h.some_ _ (by simp at hj; omega)
  refine ⟨h.base, by rw [size_setCells']; exact h.lt, by unfold bcells; simp; omega, fun j hj => World.isSome_setCells g _ _ _ _ (h.some_ j hj), fun j hj => by rw [World.frozen?_setCells]; exact h.free j hj, fun j v hv => ?_⟩
  rw [Nat.zero_add]
  unfold bcells at hv
  rw [List.getElem?_map] at hv
  obtain ⟨y, hy, rfl⟩ := Option.map_eq_some_iff.1 hv
  by_cases hq : j = i
  · subst hq
    rw [List.getElem?_set_self hi] at hy
    obtain rfl : b = y := by simpa using hy
    exact World.cell?_setCells_in g [.bool b] j w hin 0 (by simp)
  · rw [List.getElem?_set_ne (by omega)] at hy
    rw [World.cell?_setCells_out g _ _ _ _ (fun _ _ => by simp; omega)]
    have := h.cells j _ (bcells_get hy)
    rwa [Nat.zero_add] at this
theorem VRow.there1 {w : World} {base g cap : Nat} {bs : List Bool} (h : VRow w base g cap 1 (bcells bs)) (i : Nat) (hi : i < bs.length) : w.there g i 1 := fun j hj => by
  have hr := h.room
  unfold bcells at hr
  rw [List.length_map] at hr
  exact ⟨h.some_ _ (by omega), h.free _ (by omega)⟩
/-- The list behind k exchanges. -/
def HalfB (hs cur : List Bool) (k : Nat) : Prop := cur.length = hs.length ∧ ∀ i, i < hs.length → cur[i]? = if i < k ∨ hs.length ≤ i + k then hs[hs.length - 1 - i]? else hs[i]?
theorem HalfB.start (hs : List Bool) : HalfB hs hs 0 := ⟨rfl, fun i hi => by rw [if_neg (by omega)]⟩
theorem HalfB.done {hs cur : List Bool} {k : Nat} (h : HalfB hs cur k) (hk : hs.length ≤ 2 * k + 1) : cur = hs.reverse := by
  apply List.ext_getElem?
  intro i
  by_cases hi : i < hs.length
  · rw [h.2 i hi, List.getElem?_reverse hi]
    split
    · rfl
    · congr 1; omega
  · rw [List.getElem?_eq_none (by rw [h.1]; omega), List.getElem?_eq_none (by simp; omega)]
theorem HalfB.step {hs cur : List Bool} {k : Nat} (h : HalfB hs cur k) (hk : 2 * k + 1 < hs.length) {x y : Bool} (hx : cur[k]? = some x) (hy : cur[hs.length - 1 - k]? = some y) : HalfB hs ((cur.set k y).set (hs.length - 1 - k) x) (k + 1) := by
  have e1 := h.2 k (by omega)
  rw [if_neg (by omega), hx] at e1
  have e2 := h.2 (hs.length - 1 - k) (by omega)
  rw [if_neg (by omega), hy] at e2
  refine ⟨by simp [h.1], fun i hi => ?_⟩
  by_cases h1 : i = hs.length - 1 - k
  · subst h1
    rw [List.getElem?_set_self (by simp [h.1]; omega), if_pos (by omega), e1]
    congr 1; omega
  · rw [List.getElem?_set_ne (by omega)]
    by_cases h2 : i = k
    · subst h2
      rw [List.getElem?_set_self (by rw [h.1]; omega), if_pos (by omega), e2]
    · rw [List.getElem?_set_ne (by omega), h.2 i hi]
      by_cases h3 : i < k ∨ hs.length ≤ i + k
      · rw [if_pos h3, if_pos (by omega)]
      · rw [if_neg h3, if_neg (by omega)]

set_option maxRecDepth 100000 in
set_option maxHeartbeats 1000000 in
theorem revs_r3 (u1 u4 u5 u6 u7 u8 u9 u10 u11 u12 u13 u14 u15 u16 u17 u18 u19 u20 u21 u22 u23 u24 u25 u26 u27 : Value) (base g cap n k m : Nat) (cur : List Bool) (x y : Bool) (hcl : cur.length = n) (hkm : k < m) (hmn : m < n) (hx : cur[k]? = some x) (hy : cur[m]? = some y) (w : World) (hV : VRow w base g cap 1 (bcells cur)) (Q : Exit → Act → World → Prop)
    (h : ∀ (y14 y15 y16 y17 y18 y19 y20 y21 y22 y23 y24 y25 y26 y27 : Value) (w' : World), VRow w' base g cap 1 (bcells ((cur.set k y).set m x)) → w.grownBy w' (some g) → Q .normal ⟨((.slice (some ⟨g, 0, none⟩) n cap) :: u1 :: (.int .i64 (k : Int)) :: (.int .i64 (m : Int)) :: u4 :: u5 :: u6 :: u7 :: u8 :: u9 :: u10 :: u11 :: u12 :: u13 :: y14 :: y15 :: y16 :: y17 :: y18 :: y19 :: y20 :: y21 :: y22 :: y23 :: y24 :: y25 :: y26 :: y27 :: []).toArray, []⟩ w') : Code.wp Try.prog (regionIn Try.f58 3) Q ⟨((.slice (some ⟨g, 0, none⟩) n cap) :: u1 :: (.int .i64 (k : Int)) :: (.int .i64 (m : Int)) :: u4 :: u5 :: u6 :: u7 :: u8 :: u9 :: u10 :: u11 :: u12 :: u13 :: u14 :: u15 :: u16 :: u17 :: u18 :: u19 :: u20 :: u21 :: u22 :: u23 :: u24 :: u25 :: u26 :: u27 :: []).toArray, []⟩ w := by
  have lx : ∀ W : World, VRow W base g cap 1 (bcells cur) → (loadVar 68 ⟨g, k, none⟩).run Try.prog W = .ok (.agg #[.bool x]) W := fun W hW => load_step W g k x (by have := hW.cells k _ (bcells_get hx); rwa [Nat.zero_add] at this)
  have ly : ∀ W : World, VRow W base g cap 1 (bcells cur) → (loadVar 68 ⟨g, m, none⟩).run Try.prog W = .ok (.agg #[.bool y]) W := fun W hW => load_step W g m y (by have := hW.cells m _ (bcells_get hy); rwa [Nat.zero_add] at this)
  have hV1 : VRow { w with drawn := w.drawn + 1 } base g cap 1 (bcells cur) := hV.below ((Below.refl _ _).drew)
  have hV2 := hV1.set1 k (by omega) y
  have hV3 := hV2.set1 m (by rw [List.length_set]; omega) x
  have st1 : (Instr.storeAt 68 (.pointer (some ⟨g, k, none⟩)) (.agg #[.bool y])).run Try.prog { w with drawn := w.drawn + 1 } = .ok () (World.setCells { w with drawn := w.drawn + 1 } g k [.bool y]) :=
    run_storeAt_mid { w with drawn := w.drawn + 1 } g k 68 #[.bool y] (hV1.there1 k (by omega)) infoStep1 (by simp [Value.oneCell'])
  have st2 : (Instr.storeAt 68 (.pointer (some ⟨g, m, none⟩)) (.agg #[.bool x])).run Try.prog (World.setCells { w with drawn := w.drawn + 1 } g k [.bool y]) = .ok () (World.setCells (World.setCells { w with drawn := w.drawn + 1 } g k [.bool y]) g m [.bool x]) :=
    run_storeAt_mid (World.setCells { w with drawn := w.drawn + 1 } g k [.bool y]) g m 68 #[.bool x] (hV2.there1 m (by rw [List.length_set]; omega)) infoStep1 (by simp [Value.oneCell'])
  have hG := grown_setCells' (grown_setCells' (grown_drew (World.grownBy.refl w (some g))) [.bool y] k) [.bool x] m
  have b1 : (k : Int) < (n : Int) := by omega
  have b2 : (m : Int) < (n : Int) := by omega
  have b3 : (0 : Int) ≤ (k : Int) := by omega
  have b4 : (0 : Int) ≤ (m : Int) := by omega
  have HX := Lib.hid h
  have IK : Hid (∀ w, (Instr.indexAt 65 (.slice (some ⟨g, 0, none⟩) n cap) (.int .i64 (k : Int))).run Try.prog w = .ok (.pointer (some ⟨g, k, none⟩)) w) := fun w => by go_simp
  have IM : Hid (∀ w, (Instr.indexAt 65 (.slice (some ⟨g, 0, none⟩) n cap) (.int .i64 (m : Int))).run Try.prog w = .ok (.pointer (some ⟨g, m, none⟩)) w) := fun w => by go_simp
  have LX := lx _ hV1
  have LY := ly _ hV1
  clear h lx ly hcl hV hV1 hV2 hkm hmn
  conv => arg 2; whnf
  refine wp_region_noPanic ?_
  refine wp_region_any (by kernel_rfl) ?_
  refine takeL 15 0 (.slice (some ⟨g, 0, none⟩) n cap) rfl (by kernel_rfl) (by kernel_rfl) (by kernel_rfl) (fun _ _ _ h => h) (yields_move rfl rfl rfl) ?_
  simp only [Act.put, List.setIfInBounds_toArray, List.set_cons_zero, List.set_cons_succ]
  refine takeL 14 1 (.int .i64 (k : Int)) rfl (by kernel_rfl) (by kernel_rfl) (by kernel_rfl) (fun _ _ _ h => h) (yields_move rfl rfl rfl) ?_
  simp only [Act.put, List.setIfInBounds_toArray, List.set_cons_zero, List.set_cons_succ]
  refine takeL 13 2 (.slice (some ⟨g, 0, none⟩) n cap) rfl (by kernel_rfl) (by kernel_rfl) (by kernel_rfl) (fun _ _ _ h => h) (yields_move rfl rfl rfl) ?_
  simp only [Act.put, List.setIfInBounds_toArray, List.set_cons_zero, List.set_cons_succ]
  refine takeL 12 3 (.int .i64 (m : Int)) rfl (by kernel_rfl) (by kernel_rfl) (by kernel_rfl) (fun _ _ _ h => h) (yields_move rfl rfl rfl) ?_
  simp only [Act.put, List.setIfInBounds_toArray, List.set_cons_zero, List.set_cons_succ]
  refine takeL 11 4 (.slice (some ⟨g, 0, none⟩) n cap) rfl (by kernel_rfl) (by kernel_rfl) (by kernel_rfl) (fun _ _ _ h => h) (yields_move rfl rfl rfl) ?_
  simp only [Act.put, List.setIfInBounds_toArray, List.set_cons_zero, List.set_cons_succ]
  refine takeL 10 5 (.int .i64 (m : Int)) rfl (by kernel_rfl) (by kernel_rfl) (by kernel_rfl) (fun _ _ _ h => h) (yields_move rfl rfl rfl) ?_
  simp only [Act.put, List.setIfInBounds_toArray, List.set_cons_zero, List.set_cons_succ]
  refine takeL 9 6 (.pointer (some ⟨g, m, none⟩)) rfl (by kernel_rfl) (by kernel_rfl) (by kernel_rfl) (fun _ _ _ h => h) (yields_index rfl rfl rfl rfl IM.out) ?_
  simp only [Act.put, List.setIfInBounds_toArray, List.set_cons_zero, List.set_cons_succ]
  refine takeL 8 8 (.slice (some ⟨g, 0, none⟩) n cap) rfl (by kernel_rfl) (by kernel_rfl) (by kernel_rfl) (fun _ _ _ h => h) (yields_move rfl rfl rfl) ?_
  simp only [Act.put, List.setIfInBounds_toArray, List.set_cons_zero, List.set_cons_succ]
  refine takeL 7 9 (.int .i64 (k : Int)) rfl (by kernel_rfl) (by kernel_rfl) (by kernel_rfl) (fun _ _ _ h => h) (yields_move rfl rfl rfl) ?_
  simp only [Act.put, List.setIfInBounds_toArray, List.set_cons_zero, List.set_cons_succ]
  refine takeL 6 10 (.pointer (some ⟨g, k, none⟩)) rfl (by kernel_rfl) (by kernel_rfl) (by kernel_rfl) (fun _ _ _ h => h) (yields_index rfl rfl rfl rfl IK.out) ?_
  simp only [Act.put, List.setIfInBounds_toArray, List.set_cons_zero, List.set_cons_succ]
  refine wpAny_all (fuel := 5) (rs := [7, 11]) (by kernel_rfl) (by simp) ?_
  intro i hi
  rcases List.mem_cons.1 hi with rfl | hi
  · refine loadL rfl rfl 68 (.tmp 20) rfl ⟨g, m, none⟩ (.agg #[.bool y]) rfl LY ?_
    simp only [Act.put, List.setIfInBounds_toArray, List.set_cons_zero, List.set_cons_succ]
    refine wpAny_all (fuel := 4) (rs := [11]) (by kernel_rfl) (by simp) ?_
    intro i hi
    obtain rfl := List.mem_singleton.1 hi
    refine loadL rfl rfl 68 (.tmp 24) rfl ⟨g, k, none⟩ (.agg #[.bool x]) rfl LX ?_
    simp only [Act.put, List.setIfInBounds_toArray, List.set_cons_zero, List.set_cons_succ]
    refine takeL 3 12 (.pointer (some ⟨g, k, none⟩)) rfl (by kernel_rfl) (by kernel_rfl) (by kernel_rfl) (fun _ _ _ h => h) (yields_index rfl rfl rfl rfl IK.out) ?_
    simp only [Act.put, List.setIfInBounds_toArray, List.set_cons_zero, List.set_cons_succ]
    refine wpAny_all (fuel := 2) (rs := [13]) (by kernel_rfl) (by simp) ?_
    intro i hi
    obtain rfl := List.mem_singleton.1 hi
    refine storeL rfl rfl 68 (.tmp 26) (.tmp 21) rfl g k #[.bool y] rfl rfl st1 ?_
    simp only [Act.put]
    refine takeL 1 14 (.pointer (some ⟨g, m, none⟩)) rfl (by kernel_rfl) (by kernel_rfl) (by kernel_rfl) (fun _ _ _ h => h) (yields_index rfl rfl rfl rfl IM.out) ?_
    simp only [Act.put, List.setIfInBounds_toArray, List.set_cons_zero, List.set_cons_succ]
    refine wpAny_all (fuel := 0) (rs := [15]) (by kernel_rfl) (by simp) ?_
    intro i hi
    obtain rfl := List.mem_singleton.1 hi
    refine storeL rfl rfl 68 (.tmp 27) (.tmp 25) rfl g m #[.bool x] rfl rfl st2 ?_
    simp only [Act.put]
    refine wpAny_done (by kernel_rfl) ?_ 0
    refine NoPanic.normal ?_
    exact HX.out _ _ _ _ _ _ _ _ _ _ _ _ _ _ _ hV3 hG
  · obtain rfl := List.mem_singleton.1 hi
    refine loadL rfl rfl 68 (.tmp 24) rfl ⟨g, k, none⟩ (.agg #[.bool x]) rfl LX ?_
    simp only [Act.put, List.setIfInBounds_toArray, List.set_cons_zero, List.set_cons_succ]
    refine wpAny_all (fuel := 4) (rs := [7]) (by kernel_rfl) (by simp) ?_
    intro i hi
    obtain rfl := List.mem_singleton.1 hi
    refine loadL rfl rfl 68 (.tmp 20) rfl ⟨g, m, none⟩ (.agg #[.bool y]) rfl LY ?_
    simp only [Act.put, List.setIfInBounds_toArray, List.set_cons_zero, List.set_cons_succ]
    refine takeL 3 12 (.pointer (some ⟨g, k, none⟩)) rfl (by kernel_rfl) (by kernel_rfl) (by kernel_rfl) (fun _ _ _ h => h) (yields_index rfl rfl rfl rfl IK.out) ?_
    simp only [Act.put, List.setIfInBounds_toArray, List.set_cons_zero, List.set_cons_succ]
    refine wpAny_all (fuel := 2) (rs := [13]) (by kernel_rfl) (by simp) ?_
    intro i hi
    obtain rfl := List.mem_singleton.1 hi
    refine storeL rfl rfl 68 (.tmp 26) (.tmp 21) rfl g k #[.bool y] rfl rfl st1 ?_
    simp only [Act.put]
    refine takeL 1 14 (.pointer (some ⟨g, m, none⟩)) rfl (by kernel_rfl) (by kernel_rfl) (by kernel_rfl) (fun _ _ _ h => h) (yields_index rfl rfl rfl rfl IM.out) ?_
    simp only [Act.put, List.setIfInBounds_toArray, List.set_cons_zero, List.set_cons_succ]
    refine wpAny_all (fuel := 0) (rs := [15]) (by kernel_rfl) (by simp) ?_
    intro i hi
    obtain rfl := List.mem_singleton.1 hi
    refine storeL rfl rfl 68 (.tmp 27) (.tmp 25) rfl g m #[.bool x] rfl rfl st2 ?_
    simp only [Act.put]
    refine wpAny_done (by kernel_rfl) ?_ 0
    refine NoPanic.normal ?_
    exact HX.out _ _ _ _ _ _ _ _ _ _ _ _ _ _ _ hV3 hG

set_option maxRecDepth 100000 in
set_option maxHeartbeats 1000000 in
theorem ReverseS_any (base g cap : Nat) (hs : List Bool) (hn : hs.length ≤ 4398046511104) (w : World) (h : VRow w base g cap 1 (bcells hs)) :
    Calls Try.prog 58 #[.slice (some ⟨g, 0, none⟩) hs.length cap] w fun e w' => e = .returned (.tuple #[]) ∧ VRow w' base g cap 1 (bcells hs.reverse) ∧ w.grownBy w' (some g) := by
  obtain ⟨n, hnn⟩ : ∃ n, hs.length = n := ⟨_, rfl⟩
  have HN := Lib.hid hnn
  rw [hnn] at hn
  rw [hnn]
  clear hnn
  go_enter Try.func58, Try.ntmps58
  go_wp2_with fail
  go_loopw [2, 3] (fun i j wr => ∃ (k : Nat) (cur : List Bool), 2 * k ≤ n + 1 ∧ i = .int .i64 k ∧ j = .int .i64 ((n : Int) - 1 - k) ∧ Hid (HalfB hs cur k) ∧ VRow wr base g cap 1 (bcells cur) ∧ w.grownBy wr (some g)) (fun i _ _ => n - (intOf i).toNat)
  case atStart => exact ⟨0, hs, by omega, rfl, by first | rfl | (congr 1; omega) | (simp), HalfB.start hs, h, World.grownBy.refl w _⟩
  case round =>
    clear h
    obtain ⟨k, cur, hk, rfl, rfl, HH, hV, hG⟩ := hrel
    have hcl : cur.length = n := HH.out.1.trans HN.out
    by_cases hlt : 2 * k + 1 < n
    · obtain ⟨x, hx⟩ : ∃ x, cur[k]? = some x := ⟨cur[k]'(by omega), List.getElem?_eq_getElem (by omega)⟩
      obtain ⟨y, hy⟩ : ∃ y, cur[n - 1 - k]? = some y := ⟨cur[n - 1 - k]'(by omega), List.getElem?_eq_getElem (by omega)⟩
      obtain ⟨m, hm, hm2⟩ : ∃ m : Nat, (n : Int) - 1 - (k : Int) = (m : Int) ∧ m = n - 1 - k := ⟨n - 1 - k, by omega, rfl⟩
      have HS := Lib.hid (HH.out.step (by rw [HN.out]; exact hlt) hx (by rw [HN.out]; exact hy))
      rw [HN.out] at HS
      rw [← hm2] at hy HS
      rw [hm]
      have HM := Lib.hid hm2
      clear hm hm2
      have b1 : (k : Int) < (m : Int) := by have := HM.out; omega
      have b2 : (m : Int) ≤ 4398046511104 := by have := HM.out; omega
      have b3 : (1 : Int) ≤ (m : Int) := by omega
      go_wp2_with fail
      refine revs_r3 _ _ _ _ _ _ _ _ _ _ _ _ _ _ _ _ _ _ _ _ _ _ _ _ _ base g cap n k m cur x y hcl (by omega) (by have := HM.out; omega) hx hy wr hV _ ?_
      intro y14 y15 y16 y17 y18 y19 y20 y21 y22 y23 y24 y25 y26 y27 w5 hV5 hG5
      go_wp2_with fail
      go_roundw
      case rel => exact ⟨k + 1, _, by omega, by go_num, by have := HM.out; exact congrArg (Value.int .i64) (by omega), HS.out, hV5, grown_trans hG hG5⟩
      case measure => simp [intOf]; omega
    · have hcur := HH.out.done (by rw [HN.out]; omega)
      have t : ¬ ((k : Int) < (n : Int) - 1 - (k : Int)) := by omega
      rw [hcur] at hV
      clear hlt
      go_wp2_with fail
      go_end0
      exact ⟨rfl, hV, hG⟩
set_option maxRecDepth 100000 in
set_option maxHeartbeats 1000000 in
theorem ReverseS_nil (w : World) : Calls Try.prog 58 #[.slice none 0 0] w fun e w' => e = .returned (.tuple #[]) ∧ w = w' := by
  go_enter Try.func58, Try.ntmps58
  go_wp2_with fail
  go_loopw [2, 3] (fun i j wr => i = .int .i64 0 ∧ j = .int .i64 (-1) ∧ wr = w) (fun _ _ _ => 0)
  case atStart => exact ⟨rfl, rfl, rfl⟩
  case round =>
    obtain ⟨rfl, rfl, rfl⟩ := hrel
    go_wp2_with fail
    go_end0
    exact ⟨rfl, rfl⟩

/-- Steps of the call's own. -/
abbrev OwnB (w : World) (base : Nat) (v : Value) (bs : List Bool) : Prop := OwnV w base 1 v bs.length (bcells bs)
theorem run_append_step (w : World) (base : Nat) (v : Value) (l : List Bool) (h : OwnB w base v l) (hb : base ≤ w.heap.size) (b : Bool) (hn : l.length ≤ 4398046511100) :
    ∃ v' w', (Builtin.append_ #[65, 65] 65 #[v, .slice (some ⟨w.heap.size, 0, none⟩) 1 1]).run Try.prog (w.alloc (.cells #[.bool b] 68)) = .ok v' w' ∧ OwnB w' base v' (l ++ [b]) ∧ w.grownBy w' (blkOf v) ∧ (blkOf v' = blkOf v ∨ ∃ g, blkOf v' = some g ∧ w.heap.size ≤ g) := by
  obtain ⟨i0, hi, hz0, hz1, hz2⟩ := info_parts infoStep
  obtain ⟨v', w', r1, r2, r3, r4⟩ := run_append_one w base l.length 65 68 i0 _ v (.bool b) _ Try.underlying65 hi hz0 hz1 rfl (by rw [hz2]; omega) h hb rfl hn
  refine ⟨v', w', r1, ?_, r3, r4⟩
  unfold OwnB bcells
  rw [List.length_append, List.map_append]
  exact r2
theorem run_build_step (b : Bool) (w : World) : (Instr.buildSlice 65 1 #[(0, .agg #[.bool b])]).run Try.prog w = .ok (.slice (some ⟨w.heap.size, 0, none⟩) 1 1) (w.alloc (.cells #[.bool b] 68)) := by
  obtain ⟨i0, hi, hz0, hz1, _⟩ := info_parts infoStep
  exact run_buildRows w 65 68 1 1 [#[.bool b]] i0 _ Try.underlying65 hi hz0 hz1 rfl (fun R hR => by rw [List.mem_singleton.1 hR]; rfl) (by decide) (by decide) #[(0, .agg #[.bool b])] rfl
theorem way_len (n : Nat) : ∀ (i : Nat), (way i n).length ≤ n := by
  induction n using Nat.strongRecOn with
  | _ n ih =>
    intro i
    by_cases h : n ≤ 1
    · rw [way_one h]; simp
    have h1 := half_lt (n := n) (by omega)
    have h2 := half_pos (n := n) (by omega)
    by_cases hi : i < half n
    · rw [way_left (by omega) hi]
      have := ih _ h1 i
      simp; omega
    · rw [way_right (by omega) hi]
      have := ih (n - half n) (by omega) (i - half n)
      simp; omega
set_option maxRecDepth 100000 in
set_option maxHeartbeats 1000000 in
theorem way_any (i0 n0 : Nat) (h : i0 < n0) (hn : n0 ≤ 9223372036854775807) (w : World) :
    Calls Try.prog 41 #[.int .i64 i0, .int .i64 n0] w fun e w' => ∃ v, e = .returned v ∧ OwnB w' w.heap.size v (way i0 n0) ∧ Below w.heap.size w w' := by
  have hw63 := Lib.hid (way_le 63 i0 n0 (by omega))
  go_enter Try.func41, Try.ntmps41
  go_wp2_with fail
  go_loopw [0, 1, 5] (fun x0 x1 x5 wr => ∃ (i n : Nat) (bs : List Bool), x0 = .int .i64 i ∧ x1 = .int .i64 n ∧ i < n ∧ n < n0 + 1 ∧ Hid (way i0 n0 = way i n ++ bs.reverse) ∧ OwnB wr w.heap.size x5 bs ∧ Below w.heap.size w wr) (fun _ x1 _ _ => (intOf x1).toNat)
  case atStart => exact ⟨i0, n0, [], rfl, rfl, h, by omega, by show _ = _; simp, OwnV.nil _ _ _, Below.refl _ _⟩
  case round =>
    obtain ⟨i, n, bs, rfl, rfl, hin, hnn, HW, hO, hB⟩ := hrel
    by_cases h2 : 2 ≤ n
    · have Hlen : Hid (bs.length ≤ 63) := by
        have h1 := hw63.out
        rw [HW.out, List.length_append, List.length_reverse] at h1
        show _ ≤ _
        omega
      have A1 := Lib.hid (fun w => half_any n (by omega) (by omega) w)
      have hk0 := half_pos h2
      have hk1 := half_lt h2
      have HL : i < half n → Hid (way i0 n0 = way i (half n) ++ (bs ++ [false]).reverse) := fun hi => by
        show _ = _
        rw [HW.out, way_left h2 hi, List.reverse_append, List.append_assoc]; rfl
      have HR : ¬ i < half n → Hid (way i0 n0 = way (i - half n) (n - half n) ++ (bs ++ [true]).reverse) := fun hi => by
        show _ = _
        rw [HW.out, way_right h2 hi, List.reverse_append, List.append_assoc]; rfl
      clear HW
      generalize half n = k at *
      have q0 : (1 : Int) < (n : Int) := by omega
      have q1 : decide ((n : Int) > 1) = true := decide_eq_true q0
      by_cases hik : i < k
      · have q2 : (i : Int) < (k : Int) := by omega
        have HQ := HL hik
        clear HL HR
        go_wp2_with fail
        refine (A1.out _).mono ?_; rintro e w1 ⟨rfl, rfl⟩
        have HBS := Lib.hid (run_build_step false wr)
        obtain ⟨v', w', hap, hO', hgr, hblk⟩ := run_append_step wr w.heap.size u5 bs hO hB.size false (by have := Hlen.out; omega)
        have hB1 := below_of_grown hB hgr hB.size (fun g' hg' => hO.blk g' hg')
        have HAP := Lib.hid hap
        clear hap hgr hblk
        go_wp2_with (first
          | (refine wpList_build_run rfl 65 1 #[(0, .tmp 16)] rfl #[(0, .agg #[.bool false])] rfl _ _ HBS.out ?_)
          | (at_builtin; refine Lib.wpList_append_run _ rfl (.tmp 15) (.tmp 17) 65 65 rfl _ _ rfl rfl _ _ HAP.out ?_))
        go_roundw
        case rel => exact ⟨i, k, bs ++ [false], rfl, rfl, hik, by omega, HQ.out, hO', hB1⟩
        case measure => simp [intOf]; omega
      · have q2 : ¬ ((i : Int) < (k : Int)) := by omega
        have HQ := HR hik
        clear HL HR
        go_wp2_with fail
        refine (A1.out _).mono ?_; rintro e w1 ⟨rfl, rfl⟩
        have HBS := Lib.hid (run_build_step true wr)
        obtain ⟨v', w', hap, hO', hgr, hblk⟩ := run_append_step wr w.heap.size u5 bs hO hB.size true (by have := Hlen.out; omega)
        have hB1 := below_of_grown hB hgr hB.size (fun g' hg' => hO.blk g' hg')
        have HAP := Lib.hid hap
        clear hap hgr hblk
        go_wp2_with (first
          | (refine wpList_build_run rfl 65 1 #[(0, .tmp 26)] rfl #[(0, .agg #[.bool true])] rfl _ _ HBS.out ?_)
          | (at_builtin; refine Lib.wpList_append_run _ rfl (.tmp 25) (.tmp 27) 65 65 rfl _ _ rfl rfl _ _ HAP.out ?_))
        go_roundw
        case rel => exact ⟨i - k, n - k, bs ++ [true], congrArg (Value.int .i64) (by omega), congrArg (Value.int .i64) (by omega), by omega, by omega, HQ.out, hO', hB1⟩
        case measure => simp [intOf]; omega
    · have q0 : ¬ ((1 : Int) < (n : Int)) := by omega
      have q1 : decide ((n : Int) > 1) = false := decide_eq_false q0
      have hlen : bs.length ≤ 63 := by
        have h1 := hw63.out
        rw [HW.out, List.length_append, List.length_reverse] at h1
        omega
      have HR : Hid (way i0 n0 = bs.reverse) := by show _ = _; rw [HW.out, way_one (by omega)]; rfl
      clear HW
      rcases hO with ⟨rfl, hz, _⟩ | ⟨gg, cc, rfl, z1, z2, z3⟩
      · obtain rfl : bs = [] := List.length_eq_zero_iff.1 hz
        go_wp2_with fail
        refine (ReverseS_nil _).mono ?_; rintro e w1 ⟨rfl, rfl⟩
        go_wp2_with fail
        go_ret
        rw [HR.out]
        exact ⟨_, rfl, OwnV.nil _ _ _, hB⟩
      · have RV := Lib.hid (ReverseS_any w.heap.size gg cc bs (by omega) wr z3)
        have hgb := z3.base
        have Hrl := Lib.hid (show bs.reverse.length = bs.length from List.length_reverse)
        clear z1 z3
        go_wp2_with fail
        refine (RV.out).mono ?_; rintro e w1 ⟨rfl, hV, hG⟩
        have hB1 := below_of_grown hB hG hB.size (fun g' hg' => by cases hg'; exact hgb)
        go_wp2_with fail
        go_ret
        rw [HR.out]
        exact ⟨.slice (some ⟨gg, 0, none⟩) bs.length cc, rfl, .inr ⟨gg, cc, by rw [Hrl.out], by unfold bcells; simp, by rw [Hrl.out]; exact z2, hV⟩, hB1⟩
end Go.Proofs.Ytjekdeikoebmgaa

namespace Go.Proofs.Ytjekdeikoebmgaa
open Go.RowKit Go.Shelf Tr

theorem hdrow_at (n : Int) (x : List UInt8) (j : Nat) (v : Value) (h : (x.map Y)[j]? = some v) : (hdrow n x)[1 + j]? = some v := by
  unfold hdrow
  rw [Nat.add_comm]
  simpa using h
/-- The root of a head that lies in a block. -/
theorem Blk.root {w : World} {b : Nat} {n : Int} {x : List UInt8} (h : Blk w b (hdrow n x) 38) : w.rangeAt b 1 (x.map Y) := fun j v hv => h.cell (1 + j) v (hdrow_at n x j v hv)
theorem Blk.size_ {w : World} {b : Nat} {n : Int} {x : List UInt8} (h : Blk w b (hdrow n x) 38) : w.cell? ⟨b, 0, none⟩ = some (.int .i64 n) := h.cell 0 _ rfl
theorem wpList_load_hashAt {ops : Array Oper} {rest : List Oper} {o : Oper} {a : Act} {w : World} {Q : Exit → Act → World → Prop} (hw : Region.wanted o (yielded ops a.tmps) = true) (x : Operand) (ho : o.op = .load 24 x)
    (g off : Nat) (hx : a.eval x = .pointer (some ⟨g, off, none⟩)) (y : List UInt8) (hy : y.length = 32) (N : w.rangeAt g off (y.map Y)) (h : wpList Try.prog ops Q rest (a.put o.dst (.agg (hrow y))) w) : wpList Try.prog ops Q (o :: rest) a w := by
  refine wpList_wanted hw fun K hK => ?_
  unfold Oper.wp execOp
  simp only [ho, hx, Instr.loadAt, Instr.sureAddr, Sem.run_bind, Sem.run_pure, Result.andThen_ok, load_hash w g off y hy N]
  exact hK _ _ h
/-- The steps of a row. -/
def BAt (w : World) (g : Nat) (bs : List Bool) : Prop := ∀ (j : Nat) (b : Bool), bs[j]? = some b → w.cell? ⟨g, j, none⟩ = some (.bool b)
theorem up_take (x : List UInt8) (bs : List Bool) (p : List (List UInt8)) (k : Nat) (b : Bool) (h : List UInt8) (hb : bs[k]? = some b) (hp : p[k]? = some h) : up x (bs.take (k + 1)) (p.take (k + 1)) = Tr.step (up x (bs.take k) (p.take k)) b h := by
  have h1 := (List.getElem?_eq_some_iff.1 hb).1
  have h2 := (List.getElem?_eq_some_iff.1 hp).1
  rw [List.take_add_one, List.take_add_one, hb, hp]
  exact up_snoc (bs.take k) (p.take k) x b h (by simp; omega)

set_option maxRecDepth 100000 in
set_option maxHeartbeats 1000000 in
theorem CheckPath_no (size n : Int) (rt s : List UInt8) (v : Value) (w : World) (h : n < 0 ∨ size ≤ n) :
    Calls Try.prog 24 #[.agg (hdrow size rt), .int .i64 n, S s, v] w fun e w' => e = .returned (.bool false) ∧ Below w.heap.size w w' := by
  have hB := (Below.refl w.heap.size w).alloc (Nat.le_refl _) (.cells (hdrow size rt) 38)
  have c0 := (Blk.new w (hdrow size rt) 38).size_
  generalize hdrow size rt = R at *
  by_cases h0 : n < 0
  · have t : decide (n < 0) = true := decide_eq_true h0
    go_enter Try.func24, Try.ntmps24
    go_wp2_with (refine wpList_box_row rfl 38 (.tmp 0) rfl R rfl ?_; go_frame)
    go_ret
    exact ⟨rfl, hB⟩
  · have t : decide (n < 0) = false := decide_eq_false h0
    have h1 : size ≤ n := by omega
    have t2 : decide (n ≥ size) = true := decide_eq_true h1
    go_enter Try.func24, Try.ntmps24
    go_wp2_with (refine wpList_box_row rfl 38 (.tmp 0) rfl R rfl ?_; go_frame)
    go_ret
    exact ⟨rfl, hB⟩

set_option maxRecDepth 100000 in
set_option maxHeartbeats 1000000 in
theorem CheckPath_yes (size n : Nat) (rt s : List UInt8) (p : List (List UInt8)) (v : Value) (w : World) (hr : rt.length = 32) (hs : s.length ≤ 140737488354000) (ha : All32 p) (hpl : p.length ≤ 4398046511104) (hn : n < size) (hsz : size ≤ 9223372036854775807) (hP : HArg w v p) :
    Calls Try.prog 24 #[.agg (hdrow size rt), .int .i64 n, S s, v] w fun e w' => e = .returned (.bool (checkP size rt n s p)) ∧ Below w.heap.size w w' := by
  obtain ⟨pa, cap, rfl, hc, hP⟩ := hP
  have hB := (Below.refl w.heap.size w).alloc (Nat.le_refl _) (.cells (hdrow size rt) 38)
  have HD := Lib.hid (Blk.new w (hdrow size rt) 38)
  have c0 := (Blk.new w (hdrow size rt) 38).size_
  have hck : checkP size rt n s p = if (way n size).length = p.length then up (leaf s) (way n size) p == rt else false := by
    unfold checkP
    rw [if_neg (by omega)]; rfl
  obtain ⟨r, hrr⟩ : ∃ r, checkP size rt n s p = r := ⟨_, rfl⟩
  rw [hrr]
  rw [hck] at hrr
  have HRes := Lib.hid hrr
  have hw63 := way_le 63 n size (by omega)
  have W1 := Lib.hid (fun w => way_any n size hn hsz w)
  have L1 := Lib.hid (fun w => Leaf_any s hs w)
  have hx0 := leaf_length s
  have HR := Lib.hid hr
  have HA := Lib.hid ha
  have HP := Lib.hid hP
  clear hck ha hP hr hrr
  have t1 : decide ((n : Int) < 0) = false := decide_eq_false (by omega)
  have t2 : decide ((n : Int) ≥ (size : Int)) = false := decide_eq_false (by omega)
  have t3 : ¬ ((size : Int) ≤ (n : Int)) := by omega
  generalize way n size = bs at *
  generalize leaf s = x0 at *
  obtain ⟨R, hRR⟩ : ∃ R, hdrow (size : Int) rt = R := ⟨_, rfl⟩
  have HRR := Lib.hid hRR
  rw [hRR] at hB HD c0 ⊢
  clear hRR
  go_enter Try.func24, Try.ntmps24
  go_wp2_with (refine wpList_box_row rfl 38 (.tmp 0) rfl R rfl ?_; go_frame)
  refine (W1.out _).mono ?_; rintro e w1 ⟨v1, rfl, hO, hb1⟩
  have hB := hB.trans (hb1.mono hB.size)
  have HD := Lib.hid (HD.out.below hb1 (by simp))
  have hvl : ∃ a1 c1, v1 = .slice a1 bs.length c1 ∧ (bs ≠ [] → ∃ g, a1 = some ⟨g, 0, none⟩ ∧ g < w1.heap.size ∧ BAt w1 g bs) := by
    rcases hO with ⟨rfl, hz, _⟩ | ⟨gg, cc, rfl, z1, z2, z3⟩
    · exact ⟨none, 0, by rw [hz], fun h => absurd (List.length_eq_zero_iff.1 hz) h⟩
    · exact ⟨_, cc, rfl, fun _ => ⟨gg, rfl, z3.lt, fun j b hj => by
        have := z3.cells j _ (bcells_get hj)
        rwa [Nat.zero_add] at this⟩⟩
  obtain ⟨a1, c1, rfl, hV⟩ := hvl
  clear hO hb1 W1 c0
  by_cases hl : bs.length = p.length
  · have q1 : ((bs.length : Int) != (p.length : Int)) = false := by rw [bne_eq_false_iff_eq]; omega
    have HL := Lib.hid hl
    have HRes : Hid (r = (up x0 bs p == rt)) := by
      have := HRes.out
      rw [if_pos hl] at this
      exact this.symm
    have hlp : bs.length ≤ p.length := by omega
    clear hl
    go_wp2_with fail
    refine (L1.out _).mono ?_; rintro e w2 ⟨rfl, hb2⟩
    have hB := hB.trans (hb2.mono hB.size)
    have HD := Lib.hid (HD.out.below hb2 HD.out.lt)
    have hV2 : bs ≠ [] → ∃ g, a1 = some ⟨g, 0, none⟩ ∧ g < w2.heap.size ∧ BAt w2 g bs := fun h => by
      obtain ⟨g, h1, h2, h3⟩ := hV h
      exact ⟨g, h1, Nat.lt_of_lt_of_le h2 hb2.size, fun j b hj => keepCells hb2 _ _ (h3 j b hj)⟩
    have HV := Lib.hid hV2
    have hwX := HD.out.lt
    have HZ := Lib.hid (fun w' (h : w' = w2.alloc (.cells hz 24)) => (h ▸ Blk.new w2 hz 24 : Blk w' w2.heap.size hz 24))
    have HL0 := Lib.hid hz_len
    have hX0 := Blk.new w2 (hrow x0) 24
    have hBa := hB.alloc hB.size (.cells (hrow x0) 24)
    have HDa := HD.out.alloc (.cells (hrow x0) 24)
    clear hV hV2 hb2 L1
    go_upto_region 7 with (first
      | (refine wpList_alloc_hash rfl rfl ?_; go_frame; try simp only [World.size_alloc])
      | (refine wpList_store_hash rfl (.tmp 10) (.tmp 31) rfl w2.heap.size x0 hx0 rfl rfl hz (HZ.out _ rfl) HL0.out ?_; go_frame; rw [Blk.fresh]))
    obtain ⟨X, hXX⟩ : ∃ X, w2.heap.size = X := ⟨_, rfl⟩
    have HV : Hid (bs ≠ [] → ∃ g, a1 = some ⟨g, 0, none⟩ ∧ g < X ∧ BAt (w2.alloc (.cells (hrow x0) 24)) g bs) := fun h => by
      obtain ⟨g, h1, h2, h3⟩ := HV.out h
      exact ⟨g, h1, by omega, fun j b hj => keepCells ((Below.refl _ _).alloc (Nat.le_refl _) _) _ _ (h3 j b hj)⟩
    rw [hXX] at hX0 hwX ⊢
    clear hXX HZ HD
    generalize w2.alloc (.cells (hrow x0) 24) = w3 at *
    go_wp2_with fail
    go_loopw [34] (fun i wr => ∃ (k : Nat) (x : List UInt8), k ≤ bs.length ∧ i = .int .i64 k ∧ x.length = 32 ∧ Hid (up x0 (bs.take k) (p.take k) = x) ∧ Blk wr X (hrow x) 24 ∧ Blk wr w.heap.size R 38 ∧ Below w.heap.size w wr ∧ Hid (bs ≠ [] → ∃ g, a1 = some ⟨g, 0, none⟩ ∧ g < X ∧ BAt wr g bs)) (fun i _ => bs.length - (intOf i).toNat)
    case atStart => exact ⟨0, x0, by omega, rfl, hx0, rfl, hX0, HDa, hBa, HV⟩
    case round =>
      clear hX0 HDa hBa HV
      obtain ⟨k, x, hk, rfl, hx, HU, hX, hD, hB, HV⟩ := hrel
      by_cases hlt : k < bs.length
      · obtain ⟨b, hb⟩ : ∃ b, bs[k]? = some b := ⟨bs[k]'hlt, List.getElem?_eq_getElem _⟩
        obtain ⟨h, hh⟩ : ∃ h, p[k]? = some h := ⟨p[k]'(by omega), List.getElem?_eq_getElem _⟩
        obtain ⟨g, rfl, hgX, hBA⟩ := HV.out (by rintro rfl; simp at hlt)
        obtain ⟨ga, oa, rfl, hAt⟩ := HP.out (by rintro rfl; simp at hh)
        have cst := hBA k b hb
        have hld := load_step wr g k b cst
        have h32 := HA.out h (List.mem_of_getElem? hh)
        have HS := Lib.hid (up_take x0 bs p k b h hb hh)
        rw [HU.out] at HS
        have hAw := hAt.below hB
        have HE := Lib.hid (hAw.elem HA.out k h hh)
        have HBA := Lib.hid hBA
        have k1 : (k : Int) < (bs.length : Int) := by omega
        clear hb hh hBA hAt hAw HU
        have hX4 := hX.alloc (.cells #[.bool b] 68)
        have hD4 := hD.alloc (.cells #[.bool b] 68)
        have hB4 := hB.alloc hB.size (.cells #[.bool b] 68)
        have HB4 : Hid (BAt (wr.alloc (.cells #[.bool b] 68)) g bs) := fun j b' hj => keepCells ((Below.refl _ _).alloc (Nat.le_refl _) _) _ _ (HBA.out j b' hj)
        have fx := After.hash hX4 hx
        have fh : ∀ y : After (wr.alloc (.cells #[.bool b] 68)), (loadVar 24 ⟨ga, oa + k * 32, none⟩).run Try.prog y.W = .ok (.agg (hrow h)) y.W := fun y => by
          rw [show oa + k * 32 = oa + 32 * k by omega]
          exact load_hash _ _ _ h h32 (fun j v hv => keepCells y.hb _ _ (keepCells ((Below.refl _ _).alloc (Nat.le_refl _) _) _ _ (HE.out j v hv)))
        have k2 : (k : Int) < (p.length : Int) := by omega
        clear HE HBA hX hD hB
        cases b with
        | true =>
          have E1 := Lib.hid (fun w => Node_any _ _ h32 hx w)
          rw [show Tr.step x true h = node h x from rfl] at HS
          have hxn := node_length h x
          generalize node h x = x' at *
          go_wp2_with fail
          generalize wr.alloc (.cells #[.bool true] 68) = w4 at *
          refine wp_region_after_tail 6 (by kernel_rfl) (by kernel_rfl) (by kernel_rfl) (by kernel_rfl) ?_
          simp only [List.take_succ_cons, List.take_zero, List.drop_succ_cons, List.drop_zero]
          repeat (first
            | (refine quiet_load_at 24 (.tmp 10) (by rfl) ⟨X, 0, none⟩ (by rfl) (hrow x) fx (by kernel_rfl) ?_; go_frame)
            | (refine quiet_load_at 24 (.tmp 43) (by rfl) ⟨ga, oa + k * 32, none⟩ (by rfl) (hrow h) fh (by kernel_rfl) ?_; go_frame)
            | (go_big_quiet_step (with_reducible exact After.call (E1.out _))))
          refine wpQuiet_nil ?_
          rintro w5 ⟨x5, rfl⟩
          have hb5 := x5.hb
          have N5 := hX4.below hb5 hX4.lt
          have D5 := hD4.below hb5 hD4.lt
          have hB5 := hB4.trans (hb5.mono hB4.size)
          have V5 : Hid (bs ≠ [] → ∃ g', some (⟨g, 0, none⟩ : Addr) = some ⟨g', 0, none⟩ ∧ g' < X ∧ BAt (x5.W.setRow X (hrow x')) g' bs) := fun _ => ⟨g, rfl, hgX, fun j b hj => by
            have := keepCells hb5 _ _ (HB4.out j b hj)
            rw [World.cell?_of_block (w := x5.W) (a := ⟨g, j, none⟩) (setRow_other _ _ _ _ (by show g ≠ X; omega))]
            exact this⟩
          have N5' := Lib.hid N5
          have R5 := N5.row (hrow x')
          have D5' := D5.rowOther (hrow x') (show w.heap.size ≠ X by omega)
          have hB5' := Below.setRow hB5 (Nat.le_of_lt hwX) (hrow x')
          have hxs := hrow_size hx
          have Hxs := Lib.hid hxs
          clear fx fh hX4 hD4 hB4 HB4 N5 D5 hB5 hxs
          generalize x5.W = w5 at *
          go_wp2_with (refine wpList_store_hash rfl (.tmp 10) (.tmp 46) rfl X x' hxn (by rfl) (by rfl) (hrow x) N5'.out Hxs.out ?_; go_frame)
          go_roundw
          case rel => exact ⟨k + 1, x', by omega, by go_num, hxn, HS.out, R5, D5', hB5', V5⟩
          case measure => simp [intOf]; omega
        | false =>
          have E1 := Lib.hid (fun w => Node_any _ _ hx h32 w)
          rw [show Tr.step x false h = node x h from rfl] at HS
          have hxn := node_length x h
          generalize node x h = x' at *
          go_wp2_with fail
          generalize wr.alloc (.cells #[.bool false] 68) = w4 at *
          refine wp_region_after_tail 6 (by kernel_rfl) (by kernel_rfl) (by kernel_rfl) (by kernel_rfl) ?_
          simp only [List.take_succ_cons, List.take_zero, List.drop_succ_cons, List.drop_zero]
          repeat (first
            | (refine quiet_load_at 24 (.tmp 10) (by rfl) ⟨X, 0, none⟩ (by rfl) (hrow x) fx (by kernel_rfl) ?_; go_frame)
            | (refine quiet_load_at 24 (.tmp 50) (by rfl) ⟨ga, oa + k * 32, none⟩ (by rfl) (hrow h) fh (by kernel_rfl) ?_; go_frame)
            | (go_big_quiet_step (with_reducible exact After.call (E1.out _))))
          refine wpQuiet_nil ?_
          rintro w5 ⟨x5, rfl⟩
          have hb5 := x5.hb
          have N5 := hX4.below hb5 hX4.lt
          have D5 := hD4.below hb5 hD4.lt
          have hB5 := hB4.trans (hb5.mono hB4.size)
          have V5 : Hid (bs ≠ [] → ∃ g', some (⟨g, 0, none⟩ : Addr) = some ⟨g', 0, none⟩ ∧ g' < X ∧ BAt (x5.W.setRow X (hrow x')) g' bs) := fun _ => ⟨g, rfl, hgX, fun j b hj => by
            have := keepCells hb5 _ _ (HB4.out j b hj)
            rw [World.cell?_of_block (w := x5.W) (a := ⟨g, j, none⟩) (setRow_other _ _ _ _ (by show g ≠ X; omega))]
            exact this⟩
          have N5' := Lib.hid N5
          have R5 := N5.row (hrow x')
          have D5' := D5.rowOther (hrow x') (show w.heap.size ≠ X by omega)
          have hB5' := Below.setRow hB5 (Nat.le_of_lt hwX) (hrow x')
          have hxs := hrow_size hx
          have Hxs := Lib.hid hxs
          clear fx fh hX4 hD4 hB4 HB4 N5 D5 hB5 hxs
          generalize x5.W = w5 at *
          go_wp2_with (refine wpList_store_hash rfl (.tmp 10) (.tmp 52) rfl X x' hxn (by rfl) (by rfl) (hrow x) N5'.out Hxs.out ?_; go_frame)
          go_roundw
          case rel => exact ⟨k + 1, x', by omega, by go_num, hxn, HS.out, R5, D5', hB5', V5⟩
          case measure => simp [intOf]; omega
      · have HE : Hid (r = (x == rt)) := by
          show _ = _
          rw [HRes.out, ← HU.out, List.take_of_length_le (by omega), List.take_of_length_le (by have := HL.out; omega)]
        have k1 : ¬ ((k : Int) < (bs.length : Int)) := by omega
        have hrt := HR.out
        have hq := fun w => run_eq_hash x rt hx hrt w
        have hRt : Hid (wr.rangeAt w.heap.size 1 (rt.map Y)) := fun j v hv => by
          have := HRR.out
          rw [← this] at hD
          exact Blk.root hD j v hv
        have HX := Lib.hid hX
        clear HU HRes hX hD
        go_wp2_with (first
          | (refine wpList_load_hash (by kernel_rfl) (.tmp 10) rfl X rfl x hx HX.out ?_; go_frame)
          | (refine wpList_load_hashAt (by kernel_rfl) (.tmp 55) rfl w.heap.size 1 rfl rt hrt hRt.out ?_; go_frame))
        go_ret
        exact ⟨by rw [HE.out]; rfl, hB⟩
  · have q1 : ((bs.length : Int) != (p.length : Int)) = true := by rw [bne_iff_ne]; omega
    have HRes : Hid (r = false) := by
      have := HRes.out
      rw [if_neg hl] at this
      exact this.symm
    clear hl
    go_wp2_with fail
    go_ret
    exact ⟨by rw [HRes.out]; rfl, hB⟩
end Go.Proofs.Ytjekdeikoebmgaa

namespace Go.Proofs.Ytjekdeikoebmgaa
open Go.RowKit Go.Shelf Tr

/-- The strings that numbers determine. -/
def strsOf (l : List UInt8) : List (List UInt8) := ((l.take 20).zipIdx).map fun p => [97 + p.1 % 5, UInt8.ofNat p.2]
theorem strsOf_len (l : List UInt8) : (strsOf l).length ≤ 20 := by unfold strsOf; simp; omega
theorem strsOf_small (l : List UInt8) : Small (strsOf l) := ⟨fun s hs => by
  unfold strsOf at hs
  obtain ⟨p, _, rfl⟩ := List.mem_map.1 hs
  simp, by have := strsOf_len l; omega⟩
theorem strs_step (l : List UInt8) (k : Nat) (x : UInt8) (h : l[k]? = some x) (hk : k < 20) : strsOf (l.take (k + 1)) = strsOf (l.take k) ++ [[97 + x % 5, UInt8.ofNat k]] := by
  have hl := (List.getElem?_eq_some_iff.1 h).1
  unfold strsOf
  rw [List.take_take, List.take_take, Nat.min_eq_right (by omega), Nat.min_eq_right (by omega), List.take_add_one, h, Option.toList_some, List.zipIdx_append, List.map_append]
  simp
  rw [Nat.min_eq_left (by omega)]
theorem strs_end (l : List UInt8) (k : Nat) (h : l.length ≤ k ∨ 20 ≤ k) : strsOf (l.take k) = strsOf l := by
  unfold strsOf
  rw [List.take_take]
  by_cases h2 : 20 ≤ k
  · rw [Nat.min_eq_left h2]
  · rw [Nat.min_eq_right (by omega), List.take_of_length_le (by omega), List.take_of_length_le (by omega)]

set_option maxRecDepth 100000 in
set_option maxHeartbeats 1000000 in
theorem Strings_any (l : List UInt8) (a : Option Addr) (cap : Nat) (w : World) (hc : l.length ≤ cap) (hm : l.length ≤ maxLen) (hA : l ≠ [] → ∃ g o, a = some ⟨g, o, none⟩ ∧ ∀ (i : Nat) (x : UInt8), l[i]? = some x → w.cell? ⟨g, o + i, none⟩ = some (Y x)) :
    Calls Try.prog 20 #[.slice a l.length cap] w fun e w' => ∃ v, e = .returned v ∧ OwnS w' w.heap.size v (strsOf l) ∧ Below w.heap.size w w' := by
  have hmm : l.length ≤ 9223372036854775807 := hm
  have HA := Lib.hid hA
  clear hA hm
  go_enter Try.func20, Try.ntmps20
  go_wp2_with fail
  go_loopw [3, 4] (fun x3 i wr => ∃ k : Nat, k ≤ l.length ∧ k ≤ 20 ∧ i = .int .i64 k ∧ OwnS wr w.heap.size x3 (strsOf (l.take k)) ∧ Below w.heap.size w wr) (fun _ i _ => 20 - (intOf i).toNat)
  case atStart => exact ⟨0, by omega, by omega, rfl, OwnV.nil _ _ _, Below.refl _ _⟩
  case round =>
    obtain ⟨k, hk, hk2, rfl, hO, hB⟩ := hrel
    by_cases hlt : k < l.length ∧ k < 20
    · obtain ⟨hlt, hlt2⟩ := hlt
      obtain ⟨x, hx⟩ : ∃ x, l[k]? = some x := ⟨l[k]'(by omega), List.getElem?_eq_getElem (by omega)⟩
      obtain ⟨g, o, rfl, hA2⟩ := HA.out (by rintro rfl; simp at hx)
      have c := keepCells hB _ _ (hA2 k x hx)
      have HS := Lib.hid (strs_step l k x hx hlt2)
      have k1 : (k : Int) < (l.length : Int) := by omega
      have k2 : (k : Int) < 20 := by omega
      have q1 : decide ((k : Int) < (l.length : Int)) = true := decide_eq_true k1
      have q2 : decide ((k : Int) < 20) = true := decide_eq_true k2
      have e1 : (97 + x % 5).toNat = 97 + x.toNat % 5 := by
        rw [UInt8.toNat_add, UInt8.toNat_mod]
        show (97 + x.toNat % 5) % 256 = _
        omega
      have e2 : (UInt8.ofNat k).toNat = k := by rw [UInt8.toNat_ofNat']; omega
      have hN := Blk.new wr #[Y (97 + x % 5), Y (UInt8.ofNat k)] 5
      have hcv : (convert 30 9 (.slice (some ⟨wr.heap.size, 0, none⟩) 2 2)).run Try.prog (wr.alloc (.cells #[Y (97 + x % 5), Y (UInt8.ofNat k)] 5)) = .ok (S [97 + x % 5, UInt8.ofNat k]) (wr.alloc (.cells #[Y (97 + x % 5), Y (UInt8.ofNat k)] 5)) := run_convert_bytes_back _ 30 9 5 ⟨wr.heap.size, 0, none⟩ 2 [97 + x % 5, UInt8.ofNat k] Try.underlying30 Try.underlying5 Try.underlying9 (fun i hi => by
        rw [Addr.add_lit, Nat.zero_add]
        refine hN.cell i _ ?_
        match i, hi with
        | 0, _ => rfl
        | 1, _ => rfl)
      have y1 : Y (97 + x % 5) = .int .u8 (97 + (x.toNat : Int) % 5) := by show Value.int .u8 (((97 + x % 5).toNat : Nat) : Int) = _; rw [e1]; congr 1
      have y2 : Y (UInt8.ofNat k) = .int .u8 (k : Int) := by show Value.int .u8 (((UInt8.ofNat k).toNat : Nat) : Int) = _; rw [e2]
      rw [y1, y2] at hcv
      have hB1 := hB.alloc hB.size (.cells #[.int .u8 (97 + (x.toNat : Int) % 5), .int .u8 (k : Int)] 5)
      obtain ⟨v', w', hap, hO', hgr, hblk⟩ := run_append_str (wr.alloc (.cells #[.int .u8 (97 + (x.toNat : Int) % 5), .int .u8 (k : Int)] 5)) w.heap.size u3 _ (hO.below ((Below.refl _ _).alloc (Nat.le_refl _) _)) hB1.size [97 + x % 5, UInt8.ofNat k] (by have := strsOf_len (l.take k); omega)
      have hB2 := below_of_grown hB1 hgr hB1.size (fun g' hg' => hO.blk g' hg')
      rw [← HS.out] at hO'
      rw [World.size_alloc] at hap
      have HAP := Lib.hid hap
      clear hx hA2 HA hap hN y1 y2 e1 e2 hgr hblk hB1
      go_wp2_with (at_builtin; refine Lib.wpList_append_run _ rfl (.tmp 15) (.tmp 26) 22 22 rfl _ _ rfl rfl _ _ HAP.out ?_)
      go_roundw
      case rel => exact ⟨k + 1, by omega, by omega, by go_num, hO', hB2⟩
      case measure => simp [intOf]; omega
    · have HE := Lib.hid (strs_end l k (by omega))
      have hd : (decide ((k : Int) < (l.length : Int)) = true ∧ decide ((k : Int) < 20) = false) ∨ decide ((k : Int) < (l.length : Int)) = false := by
        by_cases h : k < l.length
        · exact .inl ⟨decide_eq_true (by omega), decide_eq_false (by omega)⟩
        · exact .inr (decide_eq_false (by omega))
      rw [HE.out] at hO
      clear hlt HE HA
      rcases hd with ⟨d1, d2⟩ | d1
      · have k1 : (k : Int) < (l.length : Int) := of_decide_eq_true d1
        have k2 : ¬ ((k : Int) < 20) := of_decide_eq_false d2
        go_wp2_with fail
        go_ret
        exact ⟨_, rfl, hO, hB⟩
      · have k1 : ¬ ((k : Int) < (l.length : Int)) := of_decide_eq_false d1
        go_wp2_with fail
        go_ret
        exact ⟨_, rfl, hO, hB⟩
end Go.Proofs.Ytjekdeikoebmgaa

namespace Go.Proofs.Ytjekdeikoebmgaa
open Go.RowKit Go.Shelf Tr

/-- A slice of hashes of the call's own is handed back, and a mark. -/
def PathQ (w : World) (hs : List (List UInt8)) (b : Bool) (e : Ending) (w' : World) : Prop := ∃ v, e = .returned (.tuple #[v, .bool b]) ∧ OwnH w' w.heap.size v hs ∧ Below w.heap.size w w'
def pathQ (l : List (List UInt8)) (n : Int) : List (List UInt8) × Bool := if n < 0 ∨ (l.length : Int) ≤ n then ([], false) else (path l n.toNat, true)
theorem pathQ_all (l : List (List UInt8)) (n : Int) : All32 (pathQ l n).1 := by
  unfold pathQ
  split
  · exact All32.nil
  · exact path_all _ _
theorem pathQ_len (l : List (List UInt8)) (n : Int) : (pathQ l n).1.length ≤ l.length := by
  unfold pathQ
  split
  · simp
  · exact path_len _ _
theorem growth_all (l : List (List UInt8)) (n : Int) : All32 (growth l n).1 := by
  unfold growth
  split
  · exact All32.nil
  · split
    · exact All32.nil
    · exact grow_all _ _ _
theorem growth_len (l : List (List UInt8)) (n : Int) : (growth l n).1.length ≤ l.length := by
  unfold growth
  split
  · simp
  · split
    · simp
    · exact grow_len l.length _ _ _ (Nat.le_refl _) (by omega) (by omega)
theorem Path_q (l : List (List UInt8)) (n : Int) (v : Value) (w : World) (hS : Small l) (hA : SArg w v l) : Calls Try.prog 21 #[v, .int .i64 n] w (PathQ w (pathQ l n).1 (pathQ l n).2) := by
  unfold pathQ
  by_cases h : n < 0 ∨ (l.length : Int) ≤ n
  · rw [if_pos h]
    refine (Path_no l n v w hS hA h).mono ?_
    rintro e w' ⟨rfl, rfl⟩
    exact ⟨_, rfl, OwnV.nil _ _ _, Below.refl _ _⟩
  · rw [if_neg h]
    obtain ⟨m, rfl⟩ := Int.eq_ofNat_of_zero_le (show 0 ≤ n by omega)
    exact Path_yes l m v w hS hA (by omega)
theorem RPath_q (l : List (List UInt8)) (n : Int) (v : Value) (w : World) (hS : Small l) (hA : SArg w v l) : Calls Try.prog 22 #[v, .int .i64 n] w (PathQ w (pathQ l n).1 (pathQ l n).2) := by
  unfold pathQ
  by_cases h : n < 0 ∨ (l.length : Int) ≤ n
  · rw [if_pos h]
    refine (RPath_no l n v w hS hA h).mono ?_
    rintro e w' ⟨rfl, rfl⟩
    exact ⟨_, rfl, OwnV.nil _ _ _, Below.refl _ _⟩
  · rw [if_neg h]
    obtain ⟨m, rfl⟩ := Int.eq_ofNat_of_zero_le (show 0 ≤ n by omega)
    exact RPath_yes l.length l m v w (Nat.le_refl _) hS hA (by omega)
theorem Growth_q (l : List (List UInt8)) (n : Int) (v : Value) (w : World) (hS : Small l) (hA : SArg w v l) : Calls Try.prog 31 #[v, .int .i64 n] w (PathQ w (growth l n).1 (growth l n).2) := by
  by_cases h : n < 0 ∨ (l.length : Int) < n
  · unfold growth
    rw [if_pos h]
    refine (Growth_no l n v w hS hA h).mono ?_
    rintro e w' ⟨rfl, rfl⟩
    exact ⟨_, rfl, OwnV.nil _ _ _, Below.refl _ _⟩
  · obtain ⟨m, rfl⟩ := Int.eq_ofNat_of_zero_le (show 0 ≤ n by omega)
    have h2 : (growth l (m : Nat)).2 = true := by
      unfold growth
      rw [if_neg h]
      split <;> rfl
    have := Growth_yes l m v w hS hA (by omega)
    show Calls _ _ #[v, .int .i64 ((m : Nat) : Int)] _ (PathQ w (growth l ((m : Nat) : Int)).1 (growth l ((m : Nat) : Int)).2)
    rw [h2]
    exact this
theorem CheckPath_q (size n : Int) (rt s : List UInt8) (p : List (List UInt8)) (v : Value) (w : World) (hr : rt.length = 32) (hs : s.length ≤ 140737488354000) (ha : All32 p) (hpl : p.length ≤ 4398046511104) (hsz : size ≤ 9223372036854775807) (hP : HArg w v p) :
    Calls Try.prog 24 #[.agg (hdrow size rt), .int .i64 n, S s, v] w fun e w' => e = .returned (.bool (checkP size rt n s p)) ∧ Below w.heap.size w w' := by
  by_cases h : n < 0 ∨ size ≤ n
  · have : checkP size rt n s p = false := by unfold checkP; rw [if_pos h]
    rw [this]
    exact CheckPath_no size n rt s v w h
  · obtain ⟨m, rfl⟩ := Int.eq_ofNat_of_zero_le (show 0 ≤ n by omega)
    obtain ⟨z, rfl⟩ := Int.eq_ofNat_of_zero_le (show 0 ≤ size by omega)
    exact CheckPath_yes z m rt s p v w hr hs ha hpl (by omega) (by omega) hP
theorem Same_self (hs : List (List UInt8)) (ha : All32 hs) (va vb : Value) (w : World) (hA : HArg w va hs) (hB : HArg w vb hs) (hl : hs.length ≤ 4398046511104) :
    Calls Try.prog 23 #[va, vb] w fun e w' => e = .returned (.bool true) ∧ Below w.heap.size w w' := by
  refine (Same_any hs hs ha ha va vb w hA hB hl hl).mono ?_
  rintro e w' ⟨rfl, h⟩
  exact ⟨by simp, h⟩
end Go.Proofs.Ytjekdeikoebmgaa
