/- The contracts of the reference's grow and Growth. Conditions: sizes. -/
import Derived.Test.YtjekdeikoebmgaaTrP
import Derived.IntWalk
namespace Go.Proofs.Ytjekdeikoebmgaa
open Go.RowKit Go.Shelf Tr

theorem assignL {P : Program} {l : List Oper} {Q : Exit → Act → World → Prop} {K : Act → World → Prop} {i : Nat} {o : Oper} {a : Act} {w : World} (ho : l[i]? = some o) (hg : o.guard = none) (x : Operand) (hop : o.op = .assign x) (v : Value) (hx : a.eval x = v) (h : K (a.put o.dst v) w) : wpOp P l.toArray Q i K a w := by
  refine callL ho hg ?_
  unfold Oper.wp execOp
  simp only [hop, hx, Sem.run_pure]
  exact h
/-- A slice of hashes of the call's own is handed back. -/
def GrowQ (w : World) (hs : List (List UInt8)) (e : Ending) (w' : World) : Prop := ∃ v, e = .returned v ∧ OwnH w' w.heap.size v hs ∧ Below w.heap.size w w'

set_option maxRecDepth 100000 in
set_option maxHeartbeats 1000000 in
theorem rg_r7 (u3 u4 u5 u6 u8 u9 u10 u11 u12 u13 u14 u15 u16 u17 u18 u19 u20 u21 u22 u23 u24 u25 u26 u27 u28 u29 u30 u31 u32 u33 u34 u35 u36 u37 u38 u39 u40 u41 u42 u43 u44 u45 u46 : Value) (g o cap k m : Nat) (b : Bool) (l hs : List (List UInt8)) (w : World) (hS : Small l) (hA : SAt w g o l) (hk0 : 0 < k) (hk : k < l.length) (hcap : l.length ≤ cap) (hn : hs.length ≤ 4398046511100)
    (hC : Calls Try.prog 47 #[.slice (some ⟨g, o, none⟩) k cap, .int .i64 m, .bool b] w.drew (GrowQ w.drew hs)) (Q : Exit → Act → World → Prop)
    (h : ∀ (y22 y23 y24 y25 y26 y27 y28 y29 y30 y31 y32 y33 v : Value) (w' : World), OwnH w' w.heap.size v (hs ++ [root (l.drop k)]) → Below w.heap.size w w' → Q .normal ⟨((.slice (some ⟨g, o, none⟩) l.length cap) :: (.int .i64 m) :: (.bool b) :: u3 :: u4 :: u5 :: v :: (.int .i64 k) :: u8 :: u9 :: u10 :: u11 :: u12 :: u13 :: u14 :: u15 :: u16 :: u17 :: u18 :: u19 :: u20 :: u21 :: y22 :: y23 :: y24 :: y25 :: y26 :: y27 :: y28 :: y29 :: y30 :: y31 :: y32 :: y33 :: u34 :: u35 :: u36 :: u37 :: u38 :: u39 :: u40 :: u41 :: u42 :: u43 :: u44 :: u45 :: u46 :: []).toArray, []⟩ w') : Code.wp Try.prog (regionIn Try.f47 7) Q ⟨((.slice (some ⟨g, o, none⟩) l.length cap) :: (.int .i64 m) :: (.bool b) :: u3 :: u4 :: u5 :: u6 :: (.int .i64 k) :: u8 :: u9 :: u10 :: u11 :: u12 :: u13 :: u14 :: u15 :: u16 :: u17 :: u18 :: u19 :: u20 :: u21 :: u22 :: u23 :: u24 :: u25 :: u26 :: u27 :: u28 :: u29 :: u30 :: u31 :: u32 :: u33 :: u34 :: u35 :: u36 :: u37 :: u38 :: u39 :: u40 :: u41 :: u42 :: u43 :: u44 :: u45 :: u46 :: []).toArray, []⟩ w := by
  have HX := Lib.hid h
  clear h
  conv => arg 2; whnf
  refine wp_region_noPanic ?_
  refine wp_region_any (by kernel_rfl) ?_
  refine takeL 12 0 (.slice (some ⟨g, o, none⟩) l.length cap) rfl (by kernel_rfl) (by kernel_rfl) (by kernel_rfl) (fun _ _ _ h => h) (yields_move rfl rfl rfl) ?_
  simp only [Act.put, List.setIfInBounds_toArray, List.set_cons_zero, List.set_cons_succ]
  refine takeL 11 1 (.int .i64 k) rfl (by kernel_rfl) (by kernel_rfl) (by kernel_rfl) (fun _ _ _ h => h) (yields_move rfl rfl rfl) ?_
  simp only [Act.put, List.setIfInBounds_toArray, List.set_cons_zero, List.set_cons_succ]
  refine takeL 10 2 (.slice (some ⟨g, o, none⟩) k cap) rfl (by kernel_rfl) (by kernel_rfl) (by kernel_rfl) (fun _ _ _ h => h) (yields_slice rfl rfl (slice_hi g o l.length cap k hk0 hk hcap)) ?_
  simp only [Act.put, List.setIfInBounds_toArray, List.set_cons_zero, List.set_cons_succ]
  refine takeL 9 3 (.int .i64 m) rfl (by kernel_rfl) (by kernel_rfl) (by kernel_rfl) (fun _ _ _ h => h) (yields_move rfl rfl rfl) ?_
  simp only [Act.put, List.setIfInBounds_toArray, List.set_cons_zero, List.set_cons_succ]
  refine takeL 8 4 (.bool b) rfl (by kernel_rfl) (by kernel_rfl) (by kernel_rfl) (fun _ _ _ h => h) (yields_move rfl rfl rfl) ?_
  simp only [Act.put, List.setIfInBounds_toArray, List.set_cons_zero, List.set_cons_succ]
  refine takeL 7 6 (.slice (some ⟨g, o, none⟩) l.length cap) rfl (by kernel_rfl) (by kernel_rfl) (by kernel_rfl) (fun _ _ _ h => h) (yields_move rfl rfl rfl) ?_
  simp only [Act.put, List.setIfInBounds_toArray, List.set_cons_zero, List.set_cons_succ]
  refine takeL 6 7 (.int .i64 k) rfl (by kernel_rfl) (by kernel_rfl) (by kernel_rfl) (fun _ _ _ h => h) (yields_move rfl rfl rfl) ?_
  simp only [Act.put, List.setIfInBounds_toArray, List.set_cons_zero, List.set_cons_succ]
  refine takeL 5 8 (.slice (some ⟨g, o + k, none⟩) (l.length - k) (cap - k)) rfl (by kernel_rfl) (by kernel_rfl) (by kernel_rfl) (fun _ _ _ h => h) (yields_slice rfl rfl (slice_lo g o l.length cap k hk hcap)) ?_
  simp only [Act.put, List.setIfInBounds_toArray, List.set_cons_zero, List.set_cons_succ]
  refine wpAny_all (fuel := 4) (rs := [5]) (by kernel_rfl) (by simp) ?_
  intro i hi
  obtain rfl := List.mem_singleton.1 hi
  refine callL rfl rfl ?_
  go_simp
  refine hC.mono ?_
  rintro e w1 ⟨v1, rfl, hO, hb1⟩
  have hb1 := Below.ofDrew hb1
  have hsz1 := hb1.size
  refine wpAny_all (fuel := 3) (rs := [9]) (by kernel_rfl) (by simp) ?_
  intro i hi
  obtain rfl := List.mem_singleton.1 hi
  refine callL rfl rfl ?_
  go_simp
  refine (RRoot_any (l.drop k).length (l.drop k) (.slice (some ⟨g, o + k, none⟩) (l.length - k) (cap - k)) w1 (Nat.le_refl _) (hS.drop k) (SArg.of (by simp) (by omega) ((hA.below hb1).drop k))).mono ?_
  rintro e w2 ⟨rfl, hb2⟩
  have hX2 : OwnH w2 w.heap.size v1 hs := (show OwnH w1 w.heap.size v1 hs from hO).below hb2
  have hl2 : w.heap.size ≤ w2.heap.size := Nat.le_trans hsz1 hb2.size
  obtain ⟨v', w3, hap, hO3, hgr, hblk⟩ := run_append_hash w2 w.heap.size v1 hs hX2 hl2 (root (l.drop k)) (root_length (l.drop k)) hn
  have hbs := run_build1 (root (l.drop k)) (root_length (l.drop k)) w2
  have hB3 := below_of_grown (hb1.trans (hb2.mono hb1.size)) hgr hl2 (fun g' hg' => hX2.blk g' hg')
  refine wpAny_all (fuel := 2) (rs := [10]) (by kernel_rfl) (by simp) ?_
  intro i hi
  obtain rfl := List.mem_singleton.1 hi
  refine buildL rfl rfl 32 1 #[(0, .tmp 31)] rfl #[(0, .agg (hrow (root (l.drop k))))] rfl _ hbs ?_
  simp only [Act.put, List.setIfInBounds_toArray, List.set_cons_zero, List.set_cons_succ]
  refine wpAny_all (fuel := 1) (rs := [11]) (by kernel_rfl) (by simp) ?_
  intro i hi
  obtain rfl := List.mem_singleton.1 hi
  refine appendL rfl rfl (.tmp 27) (.tmp 32) 32 32 rfl v1 _ rfl rfl v' hap ?_
  simp only [Act.put, List.setIfInBounds_toArray, List.set_cons_zero, List.set_cons_succ]
  refine wpAny_all (fuel := 0) (rs := [12]) (by kernel_rfl) (by simp) ?_
  intro i hi
  obtain rfl := List.mem_singleton.1 hi
  refine assignL rfl rfl (.tmp 33) rfl v' rfl ?_
  simp only [Act.put, List.setIfInBounds_toArray, List.set_cons_zero, List.set_cons_succ]
  refine wpAny_done (by kernel_rfl) ?_ 0
  exact HX.out _ _ _ _ _ _ _ _ _ _ _ _ v' _ hO3 hB3
set_option maxRecDepth 100000 in
set_option maxHeartbeats 1000000 in
theorem rg_r8 (u3 u4 u5 u6 u8 u9 u10 u11 u12 u13 u14 u15 u16 u17 u18 u19 u20 u21 u22 u23 u24 u25 u26 u27 u28 u29 u30 u31 u32 u33 u34 u35 u36 u37 u38 u39 u40 u41 u42 u43 u44 u45 u46 : Value) (g o cap k m : Nat) (b : Bool) (l hs : List (List UInt8)) (w : World) (hS : Small l) (hA : SAt w g o l) (hk0 : 0 < k) (hk : k < l.length) (hcap : l.length ≤ cap) (hn : hs.length ≤ 4398046511100)
    (hmk : k ≤ m) (hm : m ≤ 4398046511000)
    (hC : Calls Try.prog 47 #[.slice (some ⟨g, o + k, none⟩) (l.length - k) (cap - k), .int .i64 ((m - k : Nat) : Int), .bool false] w.drew (GrowQ w.drew hs)) (Q : Exit → Act → World → Prop)
    (h : ∀ (y34 y35 y36 y37 y38 y39 y40 y41 y42 y43 y44 y45 y46 v : Value) (w' : World), OwnH w' w.heap.size v (hs ++ [root (l.take k)]) → Below w.heap.size w w' → Q .normal ⟨((.slice (some ⟨g, o, none⟩) l.length cap) :: (.int .i64 m) :: (.bool b) :: u3 :: u4 :: u5 :: v :: (.int .i64 k) :: u8 :: u9 :: u10 :: u11 :: u12 :: u13 :: u14 :: u15 :: u16 :: u17 :: u18 :: u19 :: u20 :: u21 :: u22 :: u23 :: u24 :: u25 :: u26 :: u27 :: u28 :: u29 :: u30 :: u31 :: u32 :: u33 :: y34 :: y35 :: y36 :: y37 :: y38 :: y39 :: y40 :: y41 :: y42 :: y43 :: y44 :: y45 :: y46 :: []).toArray, []⟩ w') : Code.wp Try.prog (regionIn Try.f47 8) Q ⟨((.slice (some ⟨g, o, none⟩) l.length cap) :: (.int .i64 m) :: (.bool b) :: u3 :: u4 :: u5 :: u6 :: (.int .i64 k) :: u8 :: u9 :: u10 :: u11 :: u12 :: u13 :: u14 :: u15 :: u16 :: u17 :: u18 :: u19 :: u20 :: u21 :: u22 :: u23 :: u24 :: u25 :: u26 :: u27 :: u28 :: u29 :: u30 :: u31 :: u32 :: u33 :: u34 :: u35 :: u36 :: u37 :: u38 :: u39 :: u40 :: u41 :: u42 :: u43 :: u44 :: u45 :: u46 :: []).toArray, []⟩ w := by
  have HX := Lib.hid h
  clear h
  conv => arg 2; whnf
  refine wp_region_noPanic ?_
  refine wp_region_any (by kernel_rfl) ?_
  refine takeL 13 0 (.slice (some ⟨g, o, none⟩) l.length cap) rfl (by kernel_rfl) (by kernel_rfl) (by kernel_rfl) (fun _ _ _ h => h) (yields_move rfl rfl rfl) ?_
  simp only [Act.put, List.setIfInBounds_toArray, List.set_cons_zero, List.set_cons_succ]
  refine takeL 12 1 (.int .i64 k) rfl (by kernel_rfl) (by kernel_rfl) (by kernel_rfl) (fun _ _ _ h => h) (yields_move rfl rfl rfl) ?_
  simp only [Act.put, List.setIfInBounds_toArray, List.set_cons_zero, List.set_cons_succ]
  refine takeL 11 2 (.slice (some ⟨g, o + k, none⟩) (l.length - k) (cap - k)) rfl (by kernel_rfl) (by kernel_rfl) (by kernel_rfl) (fun _ _ _ h => h) (yields_slice rfl rfl (slice_lo g o l.length cap k hk hcap)) ?_
  simp only [Act.put, List.setIfInBounds_toArray, List.set_cons_zero, List.set_cons_succ]
  refine takeL 10 3 (.int .i64 m) rfl (by kernel_rfl) (by kernel_rfl) (by kernel_rfl) (fun _ _ _ h => h) (yields_move rfl rfl rfl) ?_
  simp only [Act.put, List.setIfInBounds_toArray, List.set_cons_zero, List.set_cons_succ]
  refine takeL 9 4 (.int .i64 k) rfl (by kernel_rfl) (by kernel_rfl) (by kernel_rfl) (fun _ _ _ h => h) (yields_move rfl rfl rfl) ?_
  simp only [Act.put, List.setIfInBounds_toArray, List.set_cons_zero, List.set_cons_succ]
  refine takeL 8 5 (.int .i64 ((m - k : Nat) : Int)) rfl (by kernel_rfl) (by kernel_rfl) (by kernel_rfl) (fun _ _ _ h => h) (yields_sub m k hmk hm rfl rfl rfl rfl) ?_
  simp only [Act.put, List.setIfInBounds_toArray, List.set_cons_zero, List.set_cons_succ]
  refine takeL 7 7 (.slice (some ⟨g, o, none⟩) l.length cap) rfl (by kernel_rfl) (by kernel_rfl) (by kernel_rfl) (fun _ _ _ h => h) (yields_move rfl rfl rfl) ?_
  simp only [Act.put, List.setIfInBounds_toArray, List.set_cons_zero, List.set_cons_succ]
  refine takeL 6 8 (.int .i64 k) rfl (by kernel_rfl) (by kernel_rfl) (by kernel_rfl) (fun _ _ _ h => h) (yields_move rfl rfl rfl) ?_
  simp only [Act.put, List.setIfInBounds_toArray, List.set_cons_zero, List.set_cons_succ]
  refine takeL 5 9 (.slice (some ⟨g, o, none⟩) k cap) rfl (by kernel_rfl) (by kernel_rfl) (by kernel_rfl) (fun _ _ _ h => h) (yields_slice rfl rfl (slice_hi g o l.length cap k hk0 hk hcap)) ?_
  simp only [Act.put, List.setIfInBounds_toArray, List.set_cons_zero, List.set_cons_succ]
  refine wpAny_all (fuel := 4) (rs := [6]) (by kernel_rfl) (by simp) ?_
  intro i hi
  obtain rfl := List.mem_singleton.1 hi
  refine callL rfl rfl ?_
  go_simp
  refine hC.mono ?_
  rintro e w1 ⟨v1, rfl, hO, hb1⟩
  have hb1 := Below.ofDrew hb1
  have hsz1 := hb1.size
  refine wpAny_all (fuel := 3) (rs := [10]) (by kernel_rfl) (by simp) ?_
  intro i hi
  obtain rfl := List.mem_singleton.1 hi
  refine callL rfl rfl ?_
  go_simp
  refine (RRoot_any (l.take k).length (l.take k) (.slice (some ⟨g, o, none⟩) k cap) w1 (Nat.le_refl _) (hS.take k) (SArg.of (by simp; omega) (by omega) ((hA.below hb1).take k))).mono ?_
  rintro e w2 ⟨rfl, hb2⟩
  have hX2 : OwnH w2 w.heap.size v1 hs := (show OwnH w1 w.heap.size v1 hs from hO).below hb2
  have hl2 : w.heap.size ≤ w2.heap.size := Nat.le_trans hsz1 hb2.size
  obtain ⟨v', w3, hap, hO3, hgr, hblk⟩ := run_append_hash w2 w.heap.size v1 hs hX2 hl2 (root (l.take k)) (root_length (l.take k)) hn
  have hbs := run_build1 (root (l.take k)) (root_length (l.take k)) w2
  have hB3 := below_of_grown (hb1.trans (hb2.mono hb1.size)) hgr hl2 (fun g' hg' => hX2.blk g' hg')
  refine wpAny_all (fuel := 2) (rs := [11]) (by kernel_rfl) (by simp) ?_
  intro i hi
  obtain rfl := List.mem_singleton.1 hi
  refine buildL rfl rfl 32 1 #[(0, .tmp 44)] rfl #[(0, .agg (hrow (root (l.take k))))] rfl _ hbs ?_
  simp only [Act.put, List.setIfInBounds_toArray, List.set_cons_zero, List.set_cons_succ]
  refine wpAny_all (fuel := 1) (rs := [12]) (by kernel_rfl) (by simp) ?_
  intro i hi
  obtain rfl := List.mem_singleton.1 hi
  refine appendL rfl rfl (.tmp 40) (.tmp 45) 32 32 rfl v1 _ rfl rfl v' hap ?_
  simp only [Act.put, List.setIfInBounds_toArray, List.set_cons_zero, List.set_cons_succ]
  refine wpAny_all (fuel := 0) (rs := [13]) (by kernel_rfl) (by simp) ?_
  intro i hi
  obtain rfl := List.mem_singleton.1 hi
  refine assignL rfl rfl (.tmp 46) rfl v' rfl ?_
  simp only [Act.put, List.setIfInBounds_toArray, List.set_cons_zero, List.set_cons_succ]
  refine wpAny_done (by kernel_rfl) ?_ 0
  exact HX.out _ _ _ _ _ _ _ _ _ _ _ _ _ v' _ hO3 hB3
set_option maxRecDepth 100000 in
set_option maxHeartbeats 1000000 in
theorem RGrow_any (N : Nat) : ∀ (l : List (List UInt8)) (m : Nat) (b : Bool) (v : Value) (w : World), l.length ≤ N → 1 ≤ m → m ≤ l.length → Small l → SArg w v l →
    Calls Try.prog 47 #[v, .int .i64 m, .bool b] w (GrowQ w (grow l m b)) := by
  induction N with
  | zero => intro l m b v w h0 h1 h2; omega
  | succ N ih =>
    intro l m b v w h0 h1 h2 hS hA
    have hA0 := hA
    obtain ⟨a, cap, rfl, hc, hA⟩ := hA
    obtain ⟨g, o, rfl, hA2⟩ := hA (by rintro rfl; simp at h2; omega)
    have hsl := hS.len
    by_cases he : m = l.length
    · have hG := grow_end he b
      have e0 : ((m : Int) == (l.length : Int)) = true := by rw [beq_iff_eq]; omega
      cases b with
      | true =>
        rw [hG]
        clear hG ih hA hA2 hA0
        go_enter Try.func47, Try.ntmps47
        go_wp2_with fail
        go_ret
        exact ⟨_, rfl, OwnV.nil _ _ _, Below.refl _ _⟩
      | false =>
        rw [hG]
        have R1 := Lib.hid (RRoot_any l.length l _ w (Nat.le_refl _) hS hA0)
        have r32 := root_length l
        clear hG ih hA hA2 hA0
        generalize root l = x at *
        go_enter Try.func47, Try.ntmps47
        go_wp2_with fail
        refine R1.out.mono ?_; rintro e w1 ⟨rfl, hb1⟩
        have HBS := Lib.hid (run_build1 x r32 w1)
        have hO : OwnH (w1.alloc (.cells (hrow x) 24)) w.heap.size (.slice (some ⟨w1.heap.size, 0, none⟩) 1 1) [x] := by
          have hN := Blk.new w1 (hrow x) 24
          have hl : (hcells [x]).length = 32 := by rw [hcells_one, List.length_map, r32]
          refine .inr ⟨w1.heap.size, 1, rfl, by rw [hl]; rfl, Nat.le_refl _, ⟨hb1.size, by simp, by rw [hl]; omega, fun j hj => ?_, fun j _ => hN.frozen j, fun j u hu => ?_⟩⟩
          · have := hN.cell j _ (Array.getElem?_eq_getElem (by rw [hrow_size r32]; omega))
            rw [this]; rfl
          · rw [Nat.zero_add]
            refine hN.cell j u ?_
            rw [hcells_one] at hu
            unfold hrow
            simpa using hu
        have hB := hb1.alloc hb1.size (.cells (hrow x) 24)
        go_wp2_with (refine wpList_build_run rfl 32 1 #[(0, .tmp 14)] rfl #[(0, .agg (hrow x))] rfl _ _ HBS.out ?_)
        go_ret
        exact ⟨_, rfl, hO, hB⟩
    · obtain ⟨k, hkk⟩ : ∃ k, half l.length = k := ⟨_, rfl⟩
      have hk := half_lt (n := l.length) (by omega)
      have hk0 := half_pos (n := l.length) (by omega)
      rw [hkk] at hk hk0
      have A1 := Lib.hid (fun w => RHalf_any l.length (by omega) (by omega) w)
      rw [hkk] at A1
      have e0 : ((m : Int) == (l.length : Int)) = false := by rw [beq_eq_false_iff_ne]; omega
      by_cases hh : m ≤ k
      · have hG := grow_left (l := l) h1 (by omega) (by rw [hkk]; exact hh) b
        rw [hkk] at hG
        rw [hG]
        have hln := grow_len (l.take k).length (l.take k) m b (Nat.le_refl _) h1 (by simp; omega)
        have hlk : (l.take k).length = k := by simp; omega
        rw [hlk] at hln
        have HC := Lib.hid (ih (l.take k) m b (.slice (some ⟨g, o, none⟩) k cap) w.drew (by simp; omega) h1 (by simp; omega) (hS.take k) (SArg.of hlk (by omega) (hA2.take k)))
        have hd : ((m : Int) ≤ (k : Int)) := by omega
        have Hln := Lib.hid hln
        clear hG ih hln hlk hA hA0
        go_enter Try.func47, Try.ntmps47
        go_wp2_with fail
        refine (A1.out _).mono ?_; rintro e w1 ⟨rfl, rfl⟩
        go_wp2_with fail
        refine rg_r7 _ _ _ _ _ _ _ _ _ _ _ _ _ _ _ _ _ _ _ _ _ _ _ _ _ _ _ _ _ _ _ _ _ _ _ _ _ _ _ _ _ _ _ g o cap k m b l _ w hS hA2 hk0 hk hc (by have := Hln.out; omega) HC.out _ ?_
        intro y22 y23 y24 y25 y26 y27 y28 y29 y30 y31 y32 y33 v' w' hO hB
        go_wp2_with fail
        go_ret
        exact ⟨_, rfl, hO, hB⟩
      · have hG := grow_right (l := l) h1 (by omega) (by rw [hkk]; exact hh) b
        rw [hkk] at hG
        rw [hG]
        have hln := grow_len (l.drop k).length (l.drop k) (m - k) false (Nat.le_refl _) (by omega) (by simp; omega)
        have hlk : (l.drop k).length = l.length - k := by simp
        rw [hlk] at hln
        have HC := Lib.hid (ih (l.drop k) (m - k) false (.slice (some ⟨g, o + k, none⟩) (l.length - k) (cap - k)) w.drew (by simp; omega) (by omega) (by simp; omega) (hS.drop k) (SArg.of hlk (by omega) (hA2.drop k)))
        have hd : ¬ ((m : Int) ≤ (k : Int)) := by omega
        have Hln := Lib.hid hln
        clear hG ih hln hlk hA hA0
        go_enter Try.func47, Try.ntmps47
        go_wp2_with fail
        refine (A1.out _).mono ?_; rintro e w1 ⟨rfl, rfl⟩
        go_wp2_with fail
        refine rg_r8 _ _ _ _ _ _ _ _ _ _ _ _ _ _ _ _ _ _ _ _ _ _ _ _ _ _ _ _ _ _ _ _ _ _ _ _ _ _ _ _ _ _ _ g o cap k m b l _ w hS hA2 hk0 hk hc (by have := Hln.out; omega) (by omega) (by omega) HC.out _ ?_
        intro y34 y35 y36 y37 y38 y39 y40 y41 y42 y43 y44 y45 y46 v' w' hO hB
        go_wp2_with fail
        go_ret
        exact ⟨_, rfl, hO, hB⟩

set_option maxRecDepth 100000 in
set_option maxHeartbeats 1000000 in
theorem RGrowth_q (l : List (List UInt8)) (n : Int) (v : Value) (w : World) (hS : Small l) (hA : SArg w v l) : Calls Try.prog 32 #[v, .int .i64 n] w (PathQ w (growth l n).1 (growth l n).2) := by
  have hA0 := hA
  obtain ⟨a, cap, rfl, hc, _⟩ := hA
  have hl := hS.len
  by_cases h : n < 0 ∨ (l.length : Int) < n
  · rw [show growth l n = ([], false) by unfold growth; rw [if_pos h]]
    by_cases h0 : n < 0
    · have t : decide (n < 0) = true := decide_eq_true h0
      clear hA0
      go_enter Try.func32, Try.ntmps32
      go_wp2_with fail
      exact bodyPost_ret (results_tmp2 rfl _ _ _) rfl ⟨_, rfl, OwnV.nil _ _ _, Below.refl _ _⟩
    · have t : decide (n < 0) = false := decide_eq_false h0
      have h1 : (l.length : Int) < n := by omega
      have t2 : decide (n > (l.length : Int)) = true := decide_eq_true h1
      clear hA0
      go_enter Try.func32, Try.ntmps32
      go_wp2_with fail
      exact bodyPost_ret (results_tmp2 rfl _ _ _) rfl ⟨_, rfl, OwnV.nil _ _ _, Below.refl _ _⟩
  · have t1 : decide (n < 0) = false := decide_eq_false (by omega)
    have t2 : decide (n > (l.length : Int)) = false := decide_eq_false (by omega)
    have t2' : ¬ ((l.length : Int) < n) := by omega
    by_cases he : n = 0 ∨ n = l.length
    · rw [show growth l n = ([], true) by unfold growth; rw [if_neg h, if_pos he]]
      by_cases h0 : n = 0
      · have t : (n == 0) = true := by rw [beq_iff_eq]; exact h0
        clear h he h0 hA0
        go_enter Try.func32, Try.ntmps32
        go_wp2_with fail
        exact bodyPost_ret (results_tmp2 rfl _ _ _) rfl ⟨_, rfl, OwnV.nil _ _ _, Below.refl _ _⟩
      · have t : (n == 0) = false := by rw [beq_eq_false_iff_ne]; exact h0
        have t3 : (n == (l.length : Int)) = true := by rw [beq_iff_eq]; omega
        clear h he h0 hA0
        go_enter Try.func32, Try.ntmps32
        go_wp2_with fail
        exact bodyPost_ret (results_tmp2 rfl _ _ _) rfl ⟨_, rfl, OwnV.nil _ _ _, Below.refl _ _⟩
    · rw [show growth l n = (grow l n.toNat true, true) by unfold growth; rw [if_neg h, if_neg he]]
      obtain ⟨m, rfl⟩ := Int.eq_ofNat_of_zero_le (show 0 ≤ n by omega)
      rw [Int.toNat_natCast]
      have t : ((m : Int) == 0) = false := by rw [beq_eq_false_iff_ne]; omega
      have t3 : ((m : Int) == (l.length : Int)) = false := by rw [beq_eq_false_iff_ne]; omega
      have G := Lib.hid (RGrow_any l.length l m true _ w (Nat.le_refl _) (by omega) (by omega) hS hA0)
      clear h he hA0
      go_enter Try.func32, Try.ntmps32
      go_wp2_with fail
      refine G.out.mono ?_
      rintro e w1 ⟨v1, rfl, hO, hb⟩
      go_wp2_with fail
      exact bodyPost_ret (results_tmp2 rfl _ _ _) rfl ⟨_, rfl, hO, hb⟩
end Go.Proofs.Ytjekdeikoebmgaa
