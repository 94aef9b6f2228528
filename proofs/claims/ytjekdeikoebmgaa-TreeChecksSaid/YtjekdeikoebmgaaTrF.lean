/- The contract of Same. Conditions: sizes. -/
import Derived.Test.YtjekdeikoebmgaaTrE
import Derived.Test.YtjekdeikoebmgaaEqH
namespace Go.Proofs.Ytjekdeikoebmgaa
open Go.RowKit Go.Shelf Tr

theorem same_step (a b : List (List UInt8)) (k : Nat) (x y : List UInt8) (hx : a[k]? = some x) (hy : b[k]? = some y) : (a.drop k == b.drop k) = ((x == y) && (a.drop (k + 1) == b.drop (k + 1))) := by
  have h1 := List.getElem?_eq_some_iff.1 hx
  have h2 := List.getElem?_eq_some_iff.1 hy
  rw [List.drop_eq_getElem_cons h1.1, List.drop_eq_getElem_cons h2.1, h1.2, h2.2]
  rfl

set_option maxRecDepth 100000 in
set_option maxHeartbeats 1000000 in
theorem Same_any (a b : List (List UInt8)) (ha : All32 a) (hb : All32 b) (va vb : Value) (w : World) (hA : HArg w va a) (hB : HArg w vb b) (hla : a.length ≤ 4398046511104) (hlb : b.length ≤ 4398046511104) :
    Calls Try.prog 23 #[va, vb] w fun e w' => e = .returned (.bool (a == b)) ∧ Below w.heap.size w w' := by
  obtain ⟨p, ca, rfl, hca, hA⟩ := hA
  obtain ⟨q, cb, rfl, hcb, hB⟩ := hB
  by_cases hl : a.length = b.length
  · have HN := Lib.hid hl.symm
    rw [← hl]
    rw [← hl] at hcb
    have AA := Lib.hid hA
    have BB := Lib.hid hB
    obtain ⟨n, hn⟩ : ∃ n, a.length = n := ⟨_, rfl⟩
    have HNN := Lib.hid hn
    rw [hn] at HN hla hca hcb
    rw [hn]
    clear hl hlb hA hB hn
    have t : ((n : Int) == (n : Int)) = true := by simp
    go_enter Try.func23, Try.ntmps23
    go_wp2_with fail
    go_loopw [5] (fun i wr => ∃ k : Nat, k ≤ n ∧ i = .int .i64 k ∧ Hid ((a == b) = (a.drop k == b.drop k)) ∧ Below w.heap.size w wr) (fun i _ => n - (intOf i).toNat)
    case atStart => exact ⟨0, by omega, rfl, rfl, Below.refl _ _⟩
    case round =>
      obtain ⟨k, hk, rfl, HE, hBl⟩ := hrel
      by_cases hlt : k < n
      · obtain ⟨x, hx⟩ : ∃ x, a[k]? = some x := ⟨a[k]'(by rw [HNN.out]; exact hlt), List.getElem?_eq_getElem _⟩
        obtain ⟨y, hy⟩ : ∃ y, b[k]? = some y := ⟨b[k]'(by rw [HN.out]; exact hlt), List.getElem?_eq_getElem _⟩
        obtain ⟨ga, oa, rfl, hA⟩ := AA.out (by rintro rfl; simp at hx)
        obtain ⟨gb, ob, rfl, hB⟩ := BB.out (by rintro rfl; simp at hy)
        have fx := After.elem (hA.below hBl) ha k x hx
        have fy := After.elem (hB.below hBl) hb k y hy
        rw [show oa + 32 * k = oa + k * 32 by omega] at fx
        rw [show ob + 32 * k = ob + k * 32 by omega] at fy
        have x32 := ha x (List.mem_of_getElem? hx)
        have y32 := hb y (List.mem_of_getElem? hy)
        have hq := fun w => run_eq_hash x y x32 y32 w
        have hD := same_step a b k x y hx hy
        have k1 : (k : Int) < (n : Int) := by omega
        clear hx hy AA BB hA hB x32 y32
        generalize hrow x = RX at *
        generalize hrow y = RY at *
        by_cases hxy : x = y
        · have h0 : (x == y) = true := by simpa using hxy
          rw [h0] at hq hD
          have HD : Hid ((a == b) = (a.drop (k + 1) == b.drop (k + 1))) := by show _ = _; rw [HE.out, hD]; rfl
          clear hD h0 hxy
          go_wp2_with fail
          refine wp_region_after (by kernel_rfl) (by kernel_rfl) ?_
          repeat (first
            | (refine quiet_load_at 24 (.tmp 19) (by rfl) ⟨ga, oa + k * 32, none⟩ (by rfl) RX fx (by rfl) ?_; go_frame)
            | (refine quiet_load_at 24 (.tmp 23) (by rfl) ⟨gb, ob + k * 32, none⟩ (by rfl) RY fy (by rfl) ?_; go_frame)
            | (go_big_quiet_step (fail)))
          refine wpQuiet_nil ?_
          rintro w5 ⟨x5, rfl⟩
          have hb5 := hBl.trans (x5.hb.mono hBl.size)
          generalize x5.W = w5 at *
          go_wp2_with fail
          go_roundw
          case rel => exact ⟨k + 1, by omega, by go_num, HD.out, hb5⟩
          case measure => simp [intOf]; omega
        · have h0 : (x == y) = false := by simpa using hxy
          rw [h0] at hq hD
          have HD : Hid ((a == b) = false) := by show _ = _; rw [HE.out, hD]; rfl
          clear hD h0 hxy
          go_wp2_with fail
          refine wp_region_after (by kernel_rfl) (by kernel_rfl) ?_
          repeat (first
            | (refine quiet_load_at 24 (.tmp 19) (by rfl) ⟨ga, oa + k * 32, none⟩ (by rfl) RX fx (by rfl) ?_; go_frame)
            | (refine quiet_load_at 24 (.tmp 23) (by rfl) ⟨gb, ob + k * 32, none⟩ (by rfl) RY fy (by rfl) ?_; go_frame)
            | (go_big_quiet_step (fail)))
          refine wpQuiet_nil ?_
          rintro w5 ⟨x5, rfl⟩
          have hb5 := hBl.trans (x5.hb.mono hBl.size)
          generalize x5.W = w5 at *
          go_wp2_with fail
          go_ret
          exact ⟨by rw [HD.out]; rfl, hb5⟩
      · obtain rfl : k = n := by omega
        have HR : Hid ((a == b) = true) := by
          show _ = _
          rw [HE.out, List.drop_of_length_le (by rw [HNN.out]; exact Nat.le_refl _), List.drop_of_length_le (by rw [HN.out]; exact Nat.le_refl _)]; rfl
        clear hlt hk
        go_wp2_with fail
        go_ret
        exact ⟨by rw [HR.out]; rfl, hBl⟩
  · have hne : ((a.length : Int) == (b.length : Int)) = false := by rw [beq_eq_false_iff_ne]; omega
    have HR : Hid ((a == b) = false) := by
      show _ = _
      rw [beq_eq_false_iff_ne]; rintro rfl; exact hl rfl
    clear hl hA hB
    go_enter Try.func23, Try.ntmps23
    go_wp2_with fail
    go_ret
    exact ⟨by rw [HR.out]; rfl, Below.refl _ _⟩
end Go.Proofs.Ytjekdeikoebmgaa
