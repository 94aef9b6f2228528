/- slices.Chunk at bytes, pieces of 64: it visits the pieces in their order. -/
import Derived.Test.YtjekdeikoebmgaaBytes
namespace Go.Proofs.Ytjekdeikoebmgaa
open Go.RowKit Go.Shelf
attribute [local go_sem] Oper.semAt_some

set_option maxHeartbeats 400000 in
theorem Chunk_any (a : Option Addr) (m c : Nat) (w : World) :
    Calls Try.prog 54 #[.slice a m c, .int .i64 64] w fun e w' => e = .returned (.func (.func 59) #[] #[.pointer (some ⟨w.heap.size, 0, none⟩), .pointer (some ⟨w.heap.size + 1, 0, none⟩)]) ∧ (w.alloc (.cells #[.slice a m c] 30)).alloc (.cells #[.int .i64 64] 3) = w' := by
  go_enter Try.func54, Try.ntmps54
  go_wp2
  go_ret
  exact ⟨rfl, rfl⟩

/-- The k-th piece. -/
abbrev chunkV (g : Nat) (N : Nat) (k : Fin N) : Array Value := #[.slice (some ⟨g, 64 * k.val, none⟩) 64 64]

set_option maxRecDepth 100000 in
set_option maxHeartbeats 1000000 in
theorem chunk1_stops (n : Nat) (hn : 1 ≤ n) (Bs Bn sb g N cap : Nat) (hN : 64 * N ≤ cap) (hN2 : 64 * N ≤ 140737488355328) (w : World)
    (b1 : Blk w Bs #[.slice (some ⟨g, 0, none⟩) (64 * N) cap] 30) (b2 : Blk w Bn #[.int .i64 64] 3) (h1 : Bs ≠ sb) (h2 : Bn ≠ sb) :
    SeqStopsK Fence.wide n Try.prog 59 #[.pointer (some ⟨Bs, 0, none⟩), .pointer (some ⟨Bn, 0, none⟩)] (chunkV g N) (KpX sb) (fun xs => xs = List.finRange N) (fun pre => pre <+: List.finRange N) N w := fun l J Jx W hW hJ hJx hY h0 => by
  refine callsIn_of_wp Try.func59 rfl trivial ?_ rfl
  simp only [Try.ntmps59, List.size_toArray, List.length_cons, List.length_nil, Nat.reduceAdd, Nat.reduceSub, Array.replicate_succ, Array.replicate_zero, List.push_toArray, List.append_toArray, List.nil_append, List.cons_append]
  have j1 := b1.below hW b1.lt
  have j2 := b2.below hW b2.lt
  gi_wp2
  gi_loopw [4] (fun i wr => ∃ k : Nat, k ≤ N ∧ i = .int .i64 ((64 * k : Nat) : Int) ∧ Blk wr Bs #[.slice (some ⟨g, 0, none⟩) (64 * N) cap] 30 ∧ Blk wr Bn #[.int .i64 64] 3 ∧ J ((List.finRange N).take k) wr) (fun i _ => 64 * N - (intOf i).toNat)
  case atStart => exact ⟨0, by omega, rfl, j1, j2, h0⟩
  case round =>
    obtain ⟨k, hk, rfl, i1, i2, hj⟩ := hrel
    have c1 := i1.cell 0 _ rfl
    have c2 := i2.cell 0 _ rfl
    by_cases hlt : k < N
    · have hlt2 : 64 * k < 64 * N := by omega
      have hmin : ∀ w ts t, (Builtin.min_ ts t #[.int .i64 64, .int .i64 ((64 * N - 64 * k : Nat) : Int)]).run Try.prog w = .ok (.int .i64 64) w := fun w ts t => by
        have : (64 : Int) ≤ ((64 * N - 64 * k : Nat) : Int) := by omega
        rw [run_min_int2, if_neg (by omega)]
      gi_wp2
      refine wpIn_wide.2 ?_
      have f1 := After.cell c1
      have f2 := After.cell c2
      refine wp_region_after (by kernel_rfl) (by kernel_rfl) ?_
      repeat (go_big_quiet_step (fail))
      refine wpQuiet_nil ?_
      rintro w5 ⟨x5, rfl⟩
      have hb5 := x5.hb
      clear f1 f2 c1 c2 hmin
      generalize x5.W = w5 at *
      have hj5 := hJ _ wr w5 none hj (grown_of_below hb5 none) (fun r e => by cases e)
      have i1' := i1.below hb5 i1.lt
      have i2' := i2.below hb5 i2.lt
      have c1 := i1'.cell 0 _ rfl
      have c2 := i2'.cell 0 _ rfl
      obtain ⟨fn, tmps, assign, body, hy, hR⟩ := hY _ (⟨k, hlt⟩ : Fin N) w5 hj5 (by simp; omega)
      dsimp only [chunkV] at hy
      have b1 : ((64 * k : Nat) : Int) + 64 ≤ 64 * N := by omega
      go_wp2
      gi_wp2
      refine hR.mono ?_
      rintro e W3 (⟨rfl, hJ3, hk3⟩ | ⟨rfl, hJx3⟩)
      · have c3 := (i1'.keepX hk3 h1).cell 0 _ rfl
        have c4 := (i2'.keepX hk3 h2).cell 0 _ rfl
        gi_wp2
        go_roundw
        case rel => exact ⟨k + 1, by omega, congrArg (Value.int .i64) (by omega), i1'.keepX hk3 h1, i2'.keepX hk3 h2, by rw [take_finRange k hlt]; exact hJ3⟩
        case measure => simp [intOf]; omega
      · gi_wp2
        refine bodyPost_ret (results_none rfl _ _ _) rfl ?_
        refine ⟨⟨_, rfl⟩, .inr ⟨_, ?_, hJx3⟩⟩
        rw [← take_finRange k hlt]
        exact List.take_prefix _ _
    · obtain rfl : k = N := by omega
      gi_wp2
      go_end0
      refine ⟨⟨_, rfl⟩, .inl ⟨_, rfl, ?_⟩⟩
      rw [List.take_of_length_le (by simp)] at hj
      exact hj

end Go.Proofs.Ytjekdeikoebmgaa
