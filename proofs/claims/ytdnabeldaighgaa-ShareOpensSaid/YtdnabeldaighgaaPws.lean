/- powers: the powers of a number, one behind the other, as long as they are asked for. -/
import Derived.Test.YtdnabeldaighgaaEnds
import Derived.Test.YtdnabeldaighgaaFldM
namespace Go.Proofs.Ytdnabeldaighgaa
open Go.RowKit Go.Shelf
attribute [local go_sem] Oper.semAt_some

/-- The k-th power, as powers makes it. -/
def pws (x : Int) : Nat → Int
  | 0 => 1
  | k + 1 => Fld.mulS (pws x k) x 1152921504606845789
theorem pws_in (x : Int) (k : Nat) : In64 (pws x k) := by
  cases k with
  | zero => unfold pws; exact ⟨by decide, by decide⟩
  | succ k => exact mulS_in (by decide)

set_option maxHeartbeats 400000 in
theorem powers_any (x : Int) (w : World) :
    Calls Try.prog 43 #[I x] w fun e w' => e = .returned (.func (.func 58) #[] #[.pointer (some ⟨w.heap.size, 0, none⟩)]) ∧ w.alloc (.cells #[I x] 3) = w' := by
  go_enter Try.func43, Try.ntmps43
  go_wp2
  go_ret
  exact ⟨rfl, rfl⟩

abbrev pwsV (x : Int) (k : Nat) : Array Value := #[.int .i64 (k : Int), .int .i64 (pws x k)]

set_option maxRecDepth 100000 in
set_option maxHeartbeats 1000000 in
theorem powers1_ends (f : Nat) (hf : 1 ≤ f) (Bx sb N : Nat) (x : Int) (hx : In64 x) (hN : 0 < N) (hN2 : N ≤ 100000) (w : World) (b1 : Blk w Bx #[I x] 3) (h1 : Bx ≠ sb) :
    SeqEnds Fence.wide f Try.prog 58 #[.pointer (some ⟨Bx, 0, none⟩)] (pwsV x) (KpX sb) N w := fun l J Jx W hW hJ hJx hY h0 => by
  refine callsIn_of_wp Try.func58 rfl trivial ?_ rfl
  simp only [Try.ntmps58, List.size_toArray, List.length_cons, List.length_nil, Nat.reduceAdd, Nat.reduceSub, Array.replicate_succ, Array.replicate_zero, List.push_toArray, List.append_toArray, List.nil_append, List.cons_append]
  have j1 := b1.below hW b1.lt
  gi_wp2
  gi_loopw [3, 4] (fun i p wr => ∃ k : Nat, k < N ∧ i = .int .i64 (k : Int) ∧ p = .int .i64 (pws x k) ∧ Blk wr Bx #[I x] 3 ∧ J k wr) (fun i _ _ => N - (intOf i).toNat)
  case atStart => exact ⟨0, hN, rfl, rfl, j1, h0⟩
  case round =>
    obtain ⟨k, hk, rfl, rfl, i1, hj⟩ := hrel
    obtain ⟨fn, tmps, assign, body, hy, hR⟩ := hY k wr hj hk
    dsimp only [pwsV] at hy
    have HM := Lib.hid (fun w => Mul_any (pws x k) x 1152921504606845789 (pws_in x k) hx (by decide) w)
    have HP : Hid (pws x (k + 1) = Fld.mulS (pws x k) x 1152921504606845789) := rfl
    generalize pws x k = p at *
    gi_wp2
    refine hR.mono ?_
    rintro e W3 (⟨rfl, hlt, hJ3, hk3⟩ | ⟨rfl, hJx3⟩)
    · have i3 := i1.keepX hk3 h1
      have c3 := i3.cell 0 _ rfl
      clear hy hR
      gi_wp2_with (refine ⟨trivial, ?_⟩; refine (callsIn_wide.2 (HM.out _)).mono ?_; rintro e w5 ⟨rfl, hb5⟩)
      have i5 := i3.below hb5 i3.lt
      have j5 := hJ _ W3 w5 none hJ3 (grown_of_below hb5 none) (fun r e => by cases e)
      go_roundw
      case rel => exact ⟨k + 1, hlt, by go_num, by rw [HP.out], i5, j5⟩
      case measure => simp [intOf]; omega
    · clear hy hR
      gi_wp2
      go_end0
      exact ⟨⟨_, rfl⟩, hJx3⟩

end Go.Proofs.Ytdnabeldaighgaa
