/- The strings that are hashed for the roots of lists; whether two of them have one hash: Inside, Clash. Conditions: sizes. -/
import Derived.Test.YtjekdeikoebmgaaIns
namespace Go.Proofs.Ytjekdeikoebmgaa
open Go.RowKit Go.Shelf Tr

theorem flat_take (ls : List (List (List UInt8))) (k : Nat) (l : List (List UInt8)) (h : ls[k]? = some l) : (ls.take (k + 1)).flatMap ins = (ls.take k).flatMap ins ++ ins l := by
  rw [List.take_add_one, h, List.flatMap_append]
  simp
theorem flat_len (ls : List (List (List UInt8))) (h : ∀ l ∈ ls, l.length ≤ 100) : (ls.flatMap ins).length ≤ ls.length * 201 := by
  induction ls with
  | nil => simp
  | cons l r ih =>
    rw [List.flatMap_cons, List.length_append, List.length_cons]
    have h1 := ins_len l
    have h2 := h l (by simp)
    have h3 := ih (fun l hl => h l (by simp [hl]))
    rw [Nat.add_mul]
    omega
/-- Strings of the call's own are handed back. -/
def StrQ (w : World) (out : List (List UInt8)) (e : Ending) (w' : World) : Prop := ∃ v', e = .returned v' ∧ OwnS w' w.heap.size v' out ∧ Below w.heap.size w w'

set_option maxRecDepth 100000 in
set_option maxHeartbeats 2000000 in
theorem Inside_any (bl n : Nat) (vs : Array Value) (ls : List (List (List UInt8))) (w : World) (hn : ls.length = n) (hv : vs.size = n) (hn9 : n ≤ 100) (hl : ∀ l ∈ ls, l.length ≤ 100) (hB : Blk w bl vs 22) (hS : ∀ l ∈ ls, Small l) (hA : ∀ (i : Nat) (v : Value) (l : List (List UInt8)), vs[i]? = some v → ls[i]? = some l → SArg w v l) :
    Calls Try.prog 28 #[.slice (some ⟨bl, 0, none⟩) n n] w (StrQ w (ls.flatMap ins)) := by
  have HN := Lib.hid hn
  have HV := Lib.hid hv
  clear hn hv
  go_enter Try.func28, Try.ntmps28
  go_wp2_with fail
  go_loopw [3, 4] (fun o i wr => ∃ k : Nat, k ≤ n ∧ i = .int .i64 k ∧ OwnS wr w.heap.size o ((ls.take k).flatMap ins) ∧ Below w.heap.size w wr) (fun _ i _ => n - (intOf i).toNat)
  case atStart => exact ⟨0, by omega, rfl, OwnV.nil _ _ _, Below.refl _ _⟩
  case round =>
    obtain ⟨k, hk, rfl, hO, hb⟩ := hrel
    by_cases hlt : k < n
    · obtain ⟨l, hlk⟩ : ∃ l, ls[k]? = some l := ⟨ls[k]'(by rw [HN.out]; exact hlt), List.getElem?_eq_getElem _⟩
      obtain ⟨vk, hvk⟩ : ∃ v, vs[k]? = some v := ⟨vs[k]'(by rw [HV.out]; exact hlt), Array.getElem?_eq_getElem _⟩
      have hmem := List.mem_of_getElem? hlk
      have cB := (hB.below hb hB.lt).cell k vk hvk
      have t1 : (k : Int) < (n : Int) := by omega
      have hfl := flat_len (ls.take k) (fun l h => hl l (List.mem_of_mem_take h))
      have hl9 := hl l hmem
      have IN := Lib.hid (inside_any l.length l vk u3 ((ls.take k).flatMap ins) w wr (Nat.le_refl _) (hS l hmem) (hA k vk l hvk hlk) hb hO (by rw [List.length_take, HN.out] at hfl; omega))
      rw [← flat_take ls k l hlk] at IN
      have HOk := Lib.hid hO
      clear hlk hvk hmem hfl hO
      go_wp2_with fail
      refine IN.out.mono ?_; rintro e w1 ⟨v', rfl, hO1, g1, k1⟩
      have hb1 := below_of_grown hb g1 hb.size (fun g hg => HOk.out.blk g hg)
      clear IN g1 k1 HOk cB hb
      go_wp2_with fail
      go_roundw
      case rel => exact ⟨k + 1, by omega, by go_num, hO1, hb1⟩
      case measure => simp [intOf]; omega
    · have t1 : ¬ ((k : Int) < (n : Int)) := by omega
      obtain rfl : k = n := by omega
      have HO : Hid (OwnS wr w.heap.size u3 (ls.flatMap ins)) := by
        show OwnS wr w.heap.size u3 (ls.flatMap ins)
        rwa [List.take_of_length_le (by rw [HN.out]; exact Nat.le_refl _)] at hO
      clear hO
      go_wp2_with fail
      go_ret
      exact ⟨_, rfl, HO.out, hb⟩

set_option maxRecDepth 100000 in
set_option maxHeartbeats 2000000 in
theorem cl_same (u1 u2 u5 u6 u7 u8 u9 u10 u11 u12 u13 u14 u15 u16 u17 u18 u19 u20 u21 u22 u23 u24 u25 u26 u27 u28 u29 u30 u31 u32 u33 u34 u35 u36 u37 : Value) (g o n cap k j : Nat) (x y : List UInt8) (w : World) (hk : k < n) (hj : j < n) (cx : w.cell? ⟨g, o + k, none⟩ = some (S x)) (cy : w.cell? ⟨g, o + j, none⟩ = some (S y))
    (hxy : x = y) (Q : Exit → Act → World → Prop) (h : ∀ (y16 y17 y18 y19 y20 y21 y22 y23 y24 y25 y26 y27 y28 y29 y30 y31 y32 y33 y34 y35 y36 : Value) (w' : World), Below w.heap.size w w' → Q .normal ⟨((.slice (some ⟨g, o, none⟩) n cap) :: u1 :: u2 :: (.int .i64 (k : Int)) :: (.int .i64 (j : Int)) :: u5 :: u6 :: u7 :: u8 :: u9 :: u10 :: u11 :: u12 :: u13 :: u14 :: u15 :: y16 :: y17 :: y18 :: y19 :: y20 :: y21 :: y22 :: y23 :: y24 :: y25 :: y26 :: y27 :: y28 :: y29 :: y30 :: y31 :: y32 :: y33 :: y34 :: y35 :: y36 :: (.bool false) :: []).toArray, []⟩ w') : Code.wp Try.prog (regionIn Try.f30 7) Q ⟨((.slice (some ⟨g, o, none⟩) n cap) :: u1 :: u2 :: (.int .i64 (k : Int)) :: (.int .i64 (j : Int)) :: u5 :: u6 :: u7 :: u8 :: u9 :: u10 :: u11 :: u12 :: u13 :: u14 :: u15 :: u16 :: u17 :: u18 :: u19 :: u20 :: u21 :: u22 :: u23 :: u24 :: u25 :: u26 :: u27 :: u28 :: u29 :: u30 :: u31 :: u32 :: u33 :: u34 :: u35 :: u36 :: u37 :: []).toArray, []⟩ w := by
  have HX := Lib.hid h
  have f1 := After.cell cx
  have f2 := After.cell cy
  have t1 : (k : Int) < (n : Int) := by omega
  have t2 : (j : Int) < (n : Int) := by omega
  subst hxy
  clear h cx cy
  conv => arg 2; whnf
  refine wp_region_after (by kernel_rfl) (by kernel_rfl) ?_
  repeat (go_big_quiet_step (fail))
  refine wpQuiet_nil ?_
  rintro w5 ⟨x5, rfl⟩
  exact HX.out _ _ _ _ _ _ _ _ _ _ _ _ _ _ _ _ _ _ _ _ _ _ x5.hb

set_option maxRecDepth 100000 in
set_option maxHeartbeats 2000000 in
theorem cl_diff (u1 u2 u5 u6 u7 u8 u9 u10 u11 u12 u13 u14 u15 u16 u17 u18 u19 u20 u21 u22 u23 u24 u25 u26 u27 u28 u29 u30 u31 u32 u33 u34 u35 u36 u37 : Value) (g o n cap k j : Nat) (x y : List UInt8) (c : Bool) (w : World) (hk : k < n) (hj : j < n) (cx : w.cell? ⟨g, o + k, none⟩ = some (S x)) (cy : w.cell? ⟨g, o + j, none⟩ = some (S y))
    (hxy : x ≠ y) (hx : x.length ≤ 140737488355000) (hy : y.length ≤ 140737488355000) (hc : (Sha.sum x == Sha.sum y) = c) (Q : Exit → Act → World → Prop) (h : ∀ (y16 y17 y18 y19 y20 y21 y22 y23 y24 y25 y26 y27 y28 y29 y30 y31 y32 y33 y34 y35 y36 : Value) (w' : World), Below w.heap.size w w' → Q .normal ⟨((.slice (some ⟨g, o, none⟩) n cap) :: u1 :: u2 :: (.int .i64 (k : Int)) :: (.int .i64 (j : Int)) :: u5 :: u6 :: u7 :: u8 :: u9 :: u10 :: u11 :: u12 :: u13 :: u14 :: u15 :: y16 :: y17 :: y18 :: y19 :: y20 :: y21 :: y22 :: y23 :: y24 :: y25 :: y26 :: y27 :: y28 :: y29 :: y30 :: y31 :: y32 :: y33 :: y34 :: y35 :: y36 :: (.bool c) :: []).toArray, []⟩ w') : Code.wp Try.prog (regionIn Try.f30 7) Q ⟨((.slice (some ⟨g, o, none⟩) n cap) :: u1 :: u2 :: (.int .i64 (k : Int)) :: (.int .i64 (j : Int)) :: u5 :: u6 :: u7 :: u8 :: u9 :: u10 :: u11 :: u12 :: u13 :: u14 :: u15 :: u16 :: u17 :: u18 :: u19 :: u20 :: u21 :: u22 :: u23 :: u24 :: u25 :: u26 :: u27 :: u28 :: u29 :: u30 :: u31 :: u32 :: u33 :: u34 :: u35 :: u36 :: u37 :: []).toArray, []⟩ w := by
  have HX := Lib.hid h
  have f1 := After.cell cx
  have f2 := After.cell cy
  have t1 : (k : Int) < (n : Int) := by omega
  have t2 : (j : Int) < (n : Int) := by omega
  have D1 := Lib.hid (fun w => RSum_any x hx w)
  have D2 := Lib.hid (fun w => RSum_any y hy w)
  have hq2 := fun w => hc ▸ run_eq_hash (Sha.sum x) (Sha.sum y) (Sha.sum_length _) (Sha.sum_length _) w
  have hs1 : (x == y) = false := by simpa using hxy
  have hs2 : (!(x == y)) = true := by rw [hs1]; rfl
  clear hc hxy
  clear h cx cy
  conv => arg 2; whnf
  refine wp_region_after (by kernel_rfl) (by kernel_rfl) ?_
  repeat (go_big_quiet_step (first | (with_reducible exact After.call (D1.out _)) | (with_reducible exact After.call (D2.out _))))
  refine wpQuiet_nil ?_
  rintro w5 ⟨x5, rfl⟩
  exact HX.out _ _ _ _ _ _ _ _ _ _ _ _ _ _ _ _ _ _ _ _ _ _ x5.hb

/-- No two of the first k strings have one hash and are different. -/
def NoClash (l : List (List UInt8)) (k : Nat) : Prop := ∀ i i', i < k → i' < i → ∀ x y, l[i]? = some x → l[i']? = some y → Sha.sum x = Sha.sum y → x = y
theorem NoClash.free {l : List (List UInt8)} (h : NoClash l l.length) : Free l := by
  intro a ha b hb e
  obtain ⟨i, hi, rfl⟩ := List.getElem_of_mem ha
  obtain ⟨j, hj, rfl⟩ := List.getElem_of_mem hb
  rcases Nat.lt_trichotomy i j with hij | hij | hij
  · exact (h j i hj hij _ _ (List.getElem?_eq_getElem hj) (List.getElem?_eq_getElem hi) e.symm).symm
  · subst hij; rfl
  · exact h i j hi hij _ _ (List.getElem?_eq_getElem hi) (List.getElem?_eq_getElem hj) e
set_option maxRecDepth 100000 in
set_option maxHeartbeats 2000000 in
theorem Clash_yes (l : List (List UInt8)) (v : Value) (w : World) (hA : SArg w v l) (hs : ∀ s ∈ l, s.length ≤ 140737488355000) (hl : l.length ≤ 1000000) (hF : ¬ Free l) :
    Calls Try.prog 30 #[v] w fun e w' => e = .returned (.bool true) ∧ Below w.heap.size w w' := by
  obtain ⟨a, cap, rfl, hc, hA⟩ := hA
  obtain ⟨g, o, rfl, hA2⟩ := hA (by rintro rfl; exact hF (by intro a ha; cases ha))
  obtain ⟨n, hn⟩ : ∃ n, l.length = n := ⟨_, rfl⟩
  rw [hn] at hc hl
  rw [hn]
  have HN := Lib.hid hn
  have HF := Lib.hid hF
  clear hn hA hF
  go_enter Try.func30, Try.ntmps30
  go_wp2_with fail
  go_loopw [3] (fun i wr => ∃ k : Nat, k ≤ n ∧ i = .int .i64 k ∧ Hid (NoClash l k) ∧ Below w.heap.size w wr) (fun i _ => n - (intOf i).toNat)
  case atStart => exact ⟨0, by omega, rfl, (fun i i' hi => absurd hi (by omega) : NoClash l 0), Below.refl _ _⟩
  case round =>
    obtain ⟨k, hk, rfl, HK, hb⟩ := hrel
    by_cases hlt : k < n
    · obtain ⟨x, hx⟩ : ∃ x, l[k]? = some x := ⟨l[k]'(by rw [HN.out]; exact hlt), List.getElem?_eq_getElem _⟩
      have HX := Lib.hid hx
      have t1 : (k : Int) < (n : Int) := by omega
      clear hx
      go_wp2_with fail
      go_loopw [4] (fun i wr => ∃ j : Nat, j ≤ k ∧ i = .int .i64 j ∧ Hid (∀ i', i' < j → ∀ y, l[i']? = some y → Sha.sum x = Sha.sum y → x = y) ∧ Below w.heap.size w wr) (fun i _ => k - (intOf i).toNat)
      case atStart => exact ⟨0, by omega, rfl, (fun i' hi => absurd hi (by omega) : ∀ i', i' < 0 → ∀ y, l[i']? = some y → Sha.sum x = Sha.sum y → x = y), hb⟩
      case round =>
        clear hb
        obtain ⟨j, hj, rfl, HJ, hb⟩ := hrel
        by_cases hjt : j < k
        · obtain ⟨y, hy⟩ : ∃ y, l[j]? = some y := ⟨l[j]'(by rw [HN.out]; omega), List.getElem?_eq_getElem _⟩
          have HY := Lib.hid hy
          have cx := keepCells hb _ _ (hA2 k x HX.out)
          have cy := keepCells hb _ _ (hA2 j y hy)
          have CX := Lib.hid cx
          have CY := Lib.hid cy
          have t2 : (j : Int) < (k : Int) := by omega
          have step : (Sha.sum x = Sha.sum y → x = y) → Hid (∀ i', i' < j + 1 → ∀ y, l[i']? = some y → Sha.sum x = Sha.sum y → x = y) := fun hxy => by
            show ∀ i', i' < j + 1 → _
            intro i' hi' y' hy' e
            by_cases e2 : i' = j
            · subst e2
              rw [HY.out] at hy'
              cases hy'
              exact hxy e
            · exact HJ.out i' (by omega) y' hy' e
          have STEP := Lib.hid step
          clear hy cx cy step
          by_cases hxy : x = y
          · have HXY := Lib.hid hxy
            clear hxy
            go_upto_region 7 with (fail)
            refine cl_same _ _ _ _ _ _ _ _ _ _ _ _ _ _ _ _ _ _ _ _ _ _ _ _ _ _ _ _ _ _ _ _ _ _ _ g o n cap k j x y wr (by omega) (by omega) CX.out CY.out HXY.out _ ?_
            intro y16 y17 y18 y19 y20 y21 y22 y23 y24 y25 y26 y27 y28 y29 y30 y31 y32 y33 y34 y35 y36 w5 hb5
            have hb := hb.trans (hb5.mono hb.size)
            clear hb5
            go_wp2_with fail
            go_roundw
            case rel => exact ⟨j + 1, by omega, by go_num, STEP.out (fun _ => HXY.out), hb⟩
            case measure => simp [intOf]; omega
          · have h1 := hs x (List.mem_of_getElem? HX.out)
            have h2 := hs y (List.mem_of_getElem? HY.out)
            have HXY := Lib.hid hxy
            obtain ⟨c, hcc⟩ : ∃ c, (Sha.sum x == Sha.sum y) = c := ⟨_, rfl⟩
            have HCC := Lib.hid hcc
            clear hxy hcc
            go_upto_region 7 with (fail)
            refine cl_diff _ _ _ _ _ _ _ _ _ _ _ _ _ _ _ _ _ _ _ _ _ _ _ _ _ _ _ _ _ _ _ _ _ _ _ g o n cap k j x y c wr (by omega) (by omega) CX.out CY.out HXY.out h1 h2 HCC.out _ ?_
            intro y16 y17 y18 y19 y20 y21 y22 y23 y24 y25 y26 y27 y28 y29 y30 y31 y32 y33 y34 y35 y36 w5 hb5
            have hb := hb.trans (hb5.mono hb.size)
            clear hb5
            cases c
            · go_wp2_with fail
              go_roundw
              case rel => exact ⟨j + 1, by omega, by go_num, STEP.out (fun e => by have := HCC.out; rw [e] at this; simp at this), hb⟩
              case measure => simp [intOf]; omega
            · go_wp2_with fail
              go_ret
              exact ⟨rfl, hb⟩
        · have t2 : ¬ ((j : Int) < (k : Int)) := by omega
          obtain rfl : j = k := by omega
          go_wp2_with fail
          go_roundw
          case rel =>
            refine ⟨j + 1, by omega, by go_num, ?_, hb⟩
            show NoClash l (j + 1)
            intro i i' hi hi' x' y' hx' hy' e
            by_cases e2 : i = j
            · subst e2
              rw [HX.out] at hx'
              cases hx'
              exact HJ.out i' hi' y' hy' e
            · exact HK.out i i' (by omega) hi' x' y' hx' hy' e
          case measure => simp [intOf]; omega
    · exact absurd (NoClash.free (by rw [HN.out, show n = k by omega]; exact HK.out)) HF.out

end Go.Proofs.Ytjekdeikoebmgaa
