/- The iterator over the ends of the stages: it visits the five ends in their order, and stops where a round says no more. -/
import Derived.Test.YtonhhonhcgfcaaaBase
namespace Go.Proofs.Ytonhhonhcgfcaaa
open Go.RowKit Go.Shelf

def endCells (a b c d s : Int) : Array Value :=
  #[.int .i64 0, .bool false, .bool false, .int .i64 a, .bool false, .bool false, .int .i64 b, .bool false, .bool false, .int .i64 c, .bool false, .bool false, .int .i64 d, .bool false, .bool false, .int .i64 (sumE d s).at_, .bool (sumE d s).bey, .bool (sumE d s).bel]

theorem info58 : (Try.prog.info? 58).map (·.size) = some 18 := by kernel_rfl

set_option maxRecDepth 100000 in
set_option maxHeartbeats 1000000 in
theorem ends1_stops (n : Nat) (hn : 1 ≤ n) (B : Nat) (a b c d s : Int) 
   (hd : -9223372036854775808 ≤ d) (hd' : d ≤ 9223372036854775807) (hs : -9223372036854775808 ≤ s) (hs' : s ≤ 9223372036854775807) (w : World)
   (c0 : w.cell? ⟨B, 0, none⟩ = some (.int .i64 a)) (c1 : w.cell? ⟨B, 1, none⟩ = some (.int .i64 b)) (c2 : w.cell? ⟨B, 2, none⟩ = some (.int .i64 c)) (c3 : w.cell? ⟨B, 3, none⟩ = some (.int .i64 d)) (c4 : w.cell? ⟨B, 4, none⟩ = some (.int .i64 s)) (hB : B < w.heap.size) :
    SeqStopsK Fence.wide n Try.prog 28 #[.pointer (some ⟨B, 0, none⟩)] encKE KpC (fun xs => xs = allEnds a b c d s) (fun pre => pre <+: allEnds a b c d s) 5 w := fun l J Jx W hW hJ hJx hY h0 => by
  refine callsIn_of_wp Try.func28 rfl trivial ?_ rfl
  simp only [Try.ntmps28, List.size_toArray, List.length_cons, List.length_nil, Nat.reduceAdd, Nat.reduceSub, Array.replicate_succ, Array.replicate_zero, List.push_toArray, List.append_toArray, List.nil_append, List.cons_append]
  have d0 := (hW.cell (p := ⟨B, 0, none⟩) hB).trans c0
  have d1 := (hW.cell (p := ⟨B, 1, none⟩) hB).trans c1
  have d2 := (hW.cell (p := ⟨B, 2, none⟩) hB).trans c2
  have d3 := (hW.cell (p := ⟨B, 3, none⟩) hB).trans c3
  have d4 := (hW.cell (p := ⟨B, 4, none⟩) hB).trans c4
  have hBW : B < W.heap.size := Nat.lt_of_lt_of_le hB hW.size
  have ea := World.new_ne W _ d0
  clear c0 c1 c2 c3 c4
  refine wpIn_wide.2 ?_
  go_upto_region 0 with fail
  go_cut [3] (fun v wr => ∃ L : Nat, v = .pointer (some ⟨L, 0, none⟩) ∧ wr.heap[L]? = some (.cells (endCells a b c d s) 58 (0, 0)) ∧ J [] wr)
  case first =>
    refine wp_region_held (S := (fun w' : World => w'.cell? ⟨B, 0, none⟩ = some (.int .i64 a) ∧ w'.cell? ⟨B, 1, none⟩ = some (.int .i64 b) ∧ w'.cell? ⟨B, 2, none⟩ = some (.int .i64 c) ∧ w'.cell? ⟨B, 3, none⟩ = some (.int .i64 d) ∧ w'.cell? ⟨B, 4, none⟩ = some (.int .i64 s))) (by kernel_rfl) ?_
    have hHeld : (fun w' : World => w'.cell? ⟨B, 0, none⟩ = some (.int .i64 a) ∧ w'.cell? ⟨B, 1, none⟩ = some (.int .i64 b) ∧ w'.cell? ⟨B, 2, none⟩ = some (.int .i64 c) ∧ w'.cell? ⟨B, 3, none⟩ = some (.int .i64 d) ∧ w'.cell? ⟨B, 4, none⟩ = some (.int .i64 s)) W.drew := by go_keep
    change wpAnyH _ _ _ _ _ _ _ _ W.drew
    refine wpAnyH_take (i := 0) (v := ?_) rfl (by kernel_rfl) (by kernel_rfl) (by kernel_rfl) (fun _ _ _ h => h) (Or.inl ⟨by rfl, ?_⟩) (by assumption) ?_; rotate_left; ((intro w hSw; (try dsimp only at hSw); go_simp; try with_reducible rfl)); (try simp only [Act.put, List.setIfInBounds_toArray])
    refine wpAnyH_take (i := 1) (v := ?_) rfl (by kernel_rfl) (by kernel_rfl) (by kernel_rfl) (fun _ _ _ h => h) (Or.inl ⟨by rfl, ?_⟩) (by assumption) ?_; rotate_left; ((intro w hSw; (try dsimp only at hSw); go_simp; try with_reducible rfl)); (try simp only [Act.put])
    refine wpAnyH_take (i := 2) (v := ?_) rfl (by kernel_rfl) (by kernel_rfl) (by kernel_rfl) (fun _ _ _ h => h) (Or.inl ⟨by rfl, ?_⟩) (by assumption) ?_; rotate_left; ((intro w hSw; (try dsimp only at hSw); go_simp; try with_reducible rfl)); (try simp only [Act.put])
    refine wpAnyH_take (i := 3) (v := ?_) rfl (by kernel_rfl) (by kernel_rfl) (by kernel_rfl) (fun _ _ _ h => h) (Or.inl ⟨by rfl, ?_⟩) (by assumption) ?_; rotate_left; ((intro w hSw; (try dsimp only at hSw); go_simp; try with_reducible rfl)); (try simp only [Act.put])
    refine wpAnyH_take (i := 4) (v := ?_) rfl (by kernel_rfl) (by kernel_rfl) (by kernel_rfl) (fun _ _ _ h => h) (Or.inl ⟨by rfl, ?_⟩) (by assumption) ?_; rotate_left; ((intro w hSw; (try dsimp only at hSw); go_simp; try with_reducible rfl)); (try simp only [Act.put])
    refine wpAnyH_take (i := 5) (v := ?_) rfl (by kernel_rfl) (by kernel_rfl) (by kernel_rfl) (fun _ _ _ h => h) (Or.inl ⟨by rfl, ?_⟩) (by assumption) ?_; rotate_left; ((intro w hSw; (try dsimp only at hSw); go_simp; try with_reducible rfl)); (try simp only [Act.put])
    refine wpAnyH_take (i := 6) (v := ?_) rfl (by kernel_rfl) (by kernel_rfl) (by kernel_rfl) (fun _ _ _ h => h) (Or.inl ⟨by rfl, ?_⟩) (by assumption) ?_; rotate_left; ((intro w hSw; (try dsimp only at hSw); go_simp; try with_reducible rfl)); (try simp only [Act.put])
    refine wpAnyH_take (i := 7) (v := ?_) rfl (by kernel_rfl) (by kernel_rfl) (by kernel_rfl) (fun _ _ _ h => h) (Or.inl ⟨by rfl, ?_⟩) (by assumption) ?_; rotate_left; ((intro w hSw; (try dsimp only at hSw); go_simp; try with_reducible rfl)); (try simp only [Act.put])
    refine wpAnyH_take (i := 8) (v := ?_) rfl (by kernel_rfl) (by kernel_rfl) (by kernel_rfl) (fun _ _ _ h => h) (Or.inl ⟨by rfl, ?_⟩) (by assumption) ?_; rotate_left; ((intro w hSw; (try dsimp only at hSw); go_simp; try with_reducible rfl)); (try simp only [Act.put])
    refine wpAnyH_take (i := 9) (v := ?_) rfl (by kernel_rfl) (by kernel_rfl) (by kernel_rfl) (fun _ _ _ h => h) (Or.inl ⟨by rfl, ?_⟩) (by assumption) ?_; rotate_left; ((intro w hSw; (try dsimp only at hSw); go_simp; try with_reducible rfl)); (try simp only [Act.put])
    refine wpAnyH_take (i := 10) (v := ?_) rfl (by kernel_rfl) (by kernel_rfl) (by kernel_rfl) (fun _ _ _ h => h) (Or.inl ⟨by rfl, ?_⟩) (by assumption) ?_; rotate_left; ((intro w hSw; (try dsimp only at hSw); go_simp; try with_reducible rfl)); (try simp only [Act.put])
    refine wpAnyH_take (i := 11) (v := ?_) rfl (by kernel_rfl) (by kernel_rfl) (by kernel_rfl) (fun _ _ _ h => h) (Or.inl ⟨by rfl, ?_⟩) (by assumption) ?_; rotate_left; ((intro w hSw; (try dsimp only at hSw); go_simp; try with_reducible rfl)); (try simp only [Act.put])
    refine wpAnyH_take (i := 12) (v := ?_) rfl (by kernel_rfl) (by kernel_rfl) (by kernel_rfl) (fun _ _ _ h => h) (Or.inl ⟨by rfl, ?_⟩) (by assumption) ?_; rotate_left; ((intro w hSw; (try dsimp only at hSw); go_simp; try with_reducible rfl)); (try simp only [Act.put])
    refine wpAnyH_take (i := 13) (v := ?_) rfl (by kernel_rfl) (by kernel_rfl) (by kernel_rfl) (fun _ _ _ h => h) (Or.inl ⟨by rfl, ?_⟩) (by assumption) ?_; rotate_left; ((intro w hSw; (try dsimp only at hSw); go_simp; try with_reducible rfl)); (try simp only [Act.put])
    refine wpAnyH_take (i := 14) (v := ?_) rfl (by kernel_rfl) (by kernel_rfl) (by kernel_rfl) (fun _ _ _ h => h) (Or.inl ⟨by rfl, ?_⟩) (by assumption) ?_; rotate_left; ((intro w hSw; (try dsimp only at hSw); go_simp; try with_reducible rfl)); (try simp only [Act.put])
    refine wpAnyH_take (i := 15) (v := ?_) rfl (by kernel_rfl) (by kernel_rfl) (by kernel_rfl) (fun _ _ _ h => h) (Or.inl ⟨by rfl, ?_⟩) (by assumption) ?_; rotate_left; ((intro w hSw; (try dsimp only at hSw); go_simp; try with_reducible rfl)); (try simp only [Act.put])
    refine wpAnyH_ready (rs := [16, 18]) (by kernel_rfl) (by simp) ?_
    refine AllReadyH.cons rfl (fun K hK => ?_) (AllReadyH.cons rfl (fun K hK => ?_) AllReadyH.nil)
    · go_simp
      go_at_call 29
      refine (sum_any _ _ _ hd hd' hs hs').mono ?_; rintro e w1 ⟨rfl, rfl⟩
      go_wp2_with fail
      refine hK.out _ _ ?_ (fun hHeld => ?_)
      · (try dsimp only); go_keep
      clear hK K
      (try simp only [Act.put, List.setIfInBounds_toArray, List.set_cons_zero, List.set_cons_succ])
      refine wpAnyH_take (i := 17) (v := ?_) rfl (by kernel_rfl) (by kernel_rfl) (by kernel_rfl) (fun _ _ _ h => h) (Or.inl ⟨by rfl, ?_⟩) (by assumption) ?_; rotate_left; ((intro w hSw; (try dsimp only at hSw); go_simp; try with_reducible rfl)); (try simp only [Act.put, List.setIfInBounds_toArray])
      refine wpAnyH_ready (rs := [18]) (by kernel_rfl) (by simp) ?_
      refine AllReadyH.cons rfl (fun K hK => ?_) AllReadyH.nil
      go_simp
      refine hK.out _ _ ?_ (fun hHeld => ?_)
      · (try dsimp only); go_keep
      clear hK K
      (try simp only [Act.put, List.setIfInBounds_toArray, List.set_cons_zero, List.set_cons_succ])
      refine wpAnyH_ready (rs := [19]) (by kernel_rfl) (by simp) ?_
      refine AllReadyH.cons rfl (fun K hK => ?_) AllReadyH.nil
      rw [if_pos (by rfl)]
      refine wp_store_row 58 (.tmp 3) (.tmp 22) rfl (W.heap.size + 1) _ rfl rfl 58 _ (heap_alloc2_new W _ _) info58 ?_ ?_ ?_
      · rfl
      · simp [Value.oneCell']
      refine hK.out _ _ ?_ (fun hHeld => ?_)
      · have hne : B ≠ W.heap.size + 1 := by omega
        exact ⟨(cell_setRow_other _ _ _ _ hne).trans hHeld.1, (cell_setRow_other _ _ _ _ hne).trans hHeld.2.1, (cell_setRow_other _ _ _ _ hne).trans hHeld.2.2.1, (cell_setRow_other _ _ _ _ hne).trans hHeld.2.2.2.1, (cell_setRow_other _ _ _ _ hne).trans hHeld.2.2.2.2⟩
      clear hK K
      refine wpAnyH_done (by kernel_rfl) ?_ _
      go_wp2_with fail
      go_meet
      refine ⟨W.heap.size + 1, rfl, setRow_heap _ _ _ _ _ _ (heap_alloc2_new W _ _), ?_⟩
      refine hJ [] W _ none h0 ⟨rfl, rfl, rfl, by rw [setRow_size, heap_drew]; simp; omega, fun k hk _ => ?_⟩ (fun r e => by cases e)
      exact (setRow_other _ _ _ _ (by omega)).trans ((Below.heap_alloc _ _ _ (by simp; omega)).trans (Below.heap_alloc _ _ _ hk))
    · go_simp
      refine hK.out _ _ ?_ (fun hHeld => ?_)
      · (try dsimp only); go_keep
      clear hK K
      (try simp only [Act.put, List.setIfInBounds_toArray, List.set_cons_zero, List.set_cons_succ])
      refine wpAnyH_ready (rs := [16]) (by kernel_rfl) (by simp) ?_
      refine AllReadyH.cons rfl (fun K hK => ?_) AllReadyH.nil
      go_simp
      go_at_call 29
      refine (sum_any _ _ _ hd hd' hs hs').mono ?_; rintro e w1 ⟨rfl, rfl⟩
      go_wp2_with fail
      refine hK.out _ _ ?_ (fun hHeld => ?_)
      · (try dsimp only); go_keep
      clear hK K
      (try simp only [Act.put, List.setIfInBounds_toArray, List.set_cons_zero, List.set_cons_succ])
      refine wpAnyH_take (i := 17) (v := ?_) rfl (by kernel_rfl) (by kernel_rfl) (by kernel_rfl) (fun _ _ _ h => h) (Or.inl ⟨by rfl, ?_⟩) (by assumption) ?_; rotate_left; ((intro w hSw; (try dsimp only at hSw); go_simp; try with_reducible rfl)); (try simp only [Act.put, List.getElem_toArray, List.getElem_cons_succ, List.getElem_cons_zero, List.setIfInBounds_toArray, List.set_cons_zero, List.set_cons_succ])
      refine wpAnyH_ready (rs := [19]) (by kernel_rfl) (by simp) ?_
      refine AllReadyH.cons rfl (fun K hK => ?_) AllReadyH.nil
      rw [if_pos (by rfl)]
      refine wp_store_row 58 (.tmp 3) (.tmp 22) rfl (W.heap.size) _ rfl rfl 58 _ (heap_alloc2_old W _ _) info58 ?_ ?_ ?_
      · rfl
      · simp [Value.oneCell']
      refine hK.out _ _ ?_ (fun hHeld => ?_)
      · have hne : B ≠ W.heap.size := by omega
        exact ⟨(cell_setRow_other _ _ _ _ hne).trans hHeld.1, (cell_setRow_other _ _ _ _ hne).trans hHeld.2.1, (cell_setRow_other _ _ _ _ hne).trans hHeld.2.2.1, (cell_setRow_other _ _ _ _ hne).trans hHeld.2.2.2.1, (cell_setRow_other _ _ _ _ hne).trans hHeld.2.2.2.2⟩
      clear hK K
      refine wpAnyH_done (by kernel_rfl) ?_ _
      go_wp2_with fail
      go_meet
      refine ⟨W.heap.size, rfl, setRow_heap _ _ _ _ _ _ (heap_alloc2_old W _ _), ?_⟩
      refine hJ [] W _ none h0 ⟨rfl, rfl, rfl, by rw [setRow_size, heap_drew]; simp; omega, fun k hk _ => ?_⟩ (fun r e => by cases e)
      exact (setRow_other _ _ _ _ (by omega)).trans ((Below.heap_alloc _ _ _ (by simp; omega)).trans (Below.heap_alloc _ _ _ hk))
  case rest =>
    obtain ⟨L, rfl, hL, hJ0⟩ := hcut
    clear d0 d1 d2 d3 d4 ea
    go_wp2
    refine (wpIn_wide (n := n)).1 ?_
    gi_wp2
    gi_loopw [4] (fun i wr => ∃ k : Nat, k ≤ 5 ∧ i = .int .i64 ((k : Int) + 1) ∧ wr.heap[L]? = some (.cells (endCells a b c d s) 58 (0, 0)) ∧ J ((allEnds a b c d s).take k) wr) (fun i _ => 6 - (intOf i).toNat)
    case atStart => exact ⟨0, by omega, rfl, hL, hJ0⟩
    case round =>
      obtain ⟨k, hk, rfl, hl, hj⟩ := hrel
      have hcell : ∀ j v, (endCells a b c d s)[j]? = some v → wr.cell? ⟨L, j, none⟩ = some v := fun j v h => (cell_of_row wr L j _ _ _ hl).trans h
      have HC := Lib.hid hcell
      clear hcell
      rcases (show k = 0 ∨ k = 1 ∨ k = 2 ∨ k = 3 ∨ k = 4 ∨ k = 5 by omega) with rfl | rfl | rfl | rfl | rfl | rfl
      · obtain ⟨fn, tmps, assign, body, hy, hR⟩ := hY _ (1, ⟨a, false, false⟩) wr hj (by simp [allEnds])
        have e0 : wr.cell? ⟨L, 3, none⟩ = some (.int .i64 a) := HC.out 3 _ rfl
        have e1 : wr.cell? ⟨L, 4, none⟩ = some (.bool false) := HC.out 4 _ rfl
        have e2 : wr.cell? ⟨L, 5, none⟩ = some (.bool false) := HC.out 5 _ rfl
        dsimp only [encKE, En.enc] at hy
        gi_wp2
        refine hR.mono ?_
        rintro e W3 (⟨rfl, hJ3, hk3⟩ | ⟨rfl, hJx3⟩)
        · gi_wp2
          go_roundw
          case rel => exact ⟨1, by omega, rfl, hk3.2 _ _ hl rfl, hJ3⟩
          case measure => simp [intOf]
        · gi_wp2
          refine bodyPost_ret (results_none rfl _ _ _) rfl ?_
          exact ⟨⟨_, rfl⟩, .inr ⟨_, ⟨(allEnds a b c d s).drop 1, rfl⟩, hJx3⟩⟩
      · obtain ⟨fn, tmps, assign, body, hy, hR⟩ := hY _ (2, ⟨b, false, false⟩) wr hj (by simp [allEnds])
        have e0 : wr.cell? ⟨L, 6, none⟩ = some (.int .i64 b) := HC.out 6 _ rfl
        have e1 : wr.cell? ⟨L, 7, none⟩ = some (.bool false) := HC.out 7 _ rfl
        have e2 : wr.cell? ⟨L, 8, none⟩ = some (.bool false) := HC.out 8 _ rfl
        dsimp only [encKE, En.enc] at hy
        gi_wp2
        refine hR.mono ?_
        rintro e W3 (⟨rfl, hJ3, hk3⟩ | ⟨rfl, hJx3⟩)
        · gi_wp2
          go_roundw
          case rel => exact ⟨2, by omega, rfl, hk3.2 _ _ hl rfl, hJ3⟩
          case measure => simp [intOf]
        · gi_wp2
          refine bodyPost_ret (results_none rfl _ _ _) rfl ?_
          exact ⟨⟨_, rfl⟩, .inr ⟨_, ⟨(allEnds a b c d s).drop 2, rfl⟩, hJx3⟩⟩
      · obtain ⟨fn, tmps, assign, body, hy, hR⟩ := hY _ (3, ⟨c, false, false⟩) wr hj (by simp [allEnds])
        have e0 : wr.cell? ⟨L, 9, none⟩ = some (.int .i64 c) := HC.out 9 _ rfl
        have e1 : wr.cell? ⟨L, 10, none⟩ = some (.bool false) := HC.out 10 _ rfl
        have e2 : wr.cell? ⟨L, 11, none⟩ = some (.bool false) := HC.out 11 _ rfl
        dsimp only [encKE, En.enc] at hy
        gi_wp2
        refine hR.mono ?_
        rintro e W3 (⟨rfl, hJ3, hk3⟩ | ⟨rfl, hJx3⟩)
        · gi_wp2
          go_roundw
          case rel => exact ⟨3, by omega, rfl, hk3.2 _ _ hl rfl, hJ3⟩
          case measure => simp [intOf]
        · gi_wp2
          refine bodyPost_ret (results_none rfl _ _ _) rfl ?_
          exact ⟨⟨_, rfl⟩, .inr ⟨_, ⟨(allEnds a b c d s).drop 3, rfl⟩, hJx3⟩⟩
      · obtain ⟨fn, tmps, assign, body, hy, hR⟩ := hY _ (4, ⟨d, false, false⟩) wr hj (by simp [allEnds])
        have e0 : wr.cell? ⟨L, 12, none⟩ = some (.int .i64 d) := HC.out 12 _ rfl
        have e1 : wr.cell? ⟨L, 13, none⟩ = some (.bool false) := HC.out 13 _ rfl
        have e2 : wr.cell? ⟨L, 14, none⟩ = some (.bool false) := HC.out 14 _ rfl
        dsimp only [encKE, En.enc] at hy
        gi_wp2
        refine hR.mono ?_
        rintro e W3 (⟨rfl, hJ3, hk3⟩ | ⟨rfl, hJx3⟩)
        · gi_wp2
          go_roundw
          case rel => exact ⟨4, by omega, rfl, hk3.2 _ _ hl rfl, hJ3⟩
          case measure => simp [intOf]
        · gi_wp2
          refine bodyPost_ret (results_none rfl _ _ _) rfl ?_
          exact ⟨⟨_, rfl⟩, .inr ⟨_, ⟨(allEnds a b c d s).drop 4, rfl⟩, hJx3⟩⟩
      · obtain ⟨fn, tmps, assign, body, hy, hR⟩ := hY _ (5, sumE d s) wr hj (by simp [allEnds])
        have e0 : wr.cell? ⟨L, 15, none⟩ = some (.int .i64 (sumE d s).at_) := HC.out 15 _ rfl
        have e1 : wr.cell? ⟨L, 16, none⟩ = some (.bool (sumE d s).bey) := HC.out 16 _ rfl
        have e2 : wr.cell? ⟨L, 17, none⟩ = some (.bool (sumE d s).bel) := HC.out 17 _ rfl
        dsimp only [encKE, En.enc] at hy
        gi_wp2
        refine hR.mono ?_
        rintro e W3 (⟨rfl, hJ3, hk3⟩ | ⟨rfl, hJx3⟩)
        · gi_wp2
          go_roundw
          case rel => exact ⟨5, by omega, rfl, hk3.2 _ _ hl rfl, hJ3⟩
          case measure => simp [intOf]
        · gi_wp2
          refine bodyPost_ret (results_none rfl _ _ _) rfl ?_
          exact ⟨⟨_, rfl⟩, .inr ⟨_, ⟨(allEnds a b c d s).drop 5, rfl⟩, hJx3⟩⟩
      · gi_wp2
        go_end0
        exact ⟨⟨_, rfl⟩, .inl ⟨_, rfl, hj⟩⟩
end Go.Proofs.Ytonhhonhcgfcaaa
