/- The contracts of binary (it visits the binary digits of a number) and Pow. Conditions: none but the range of int. -/
import Derived.Test.YtdnabeldaighgaaFldD
namespace Go.Proofs.Ytdnabeldaighgaa
open Go.RowKit Go.Shelf
attribute [local go_sem] Oper.semAt_some

/-- A digit of a number; its digits, the first ones so many. -/
def bt (n : Int) (k : Nat) : Bool := n.toNat / 2 ^ k % 2 == 1
def bts (n : Int) (L k : Nat) : List Bool := (List.range k).map fun i => bt n (L - 1 - i)
theorem bts_succ (n : Int) (L k : Nat) : bts n L (k + 1) = bts n L k ++ [bt n (L - 1 - k)] := by
  unfold bts; rw [List.range_succ, List.map_append]; rfl
theorem bts_length (n : Int) (L k : Nat) : (bts n L k).length = k := by unfold bts; simp

set_option maxHeartbeats 400000 in
theorem binary_any (n : Int) (w : World) :
    Calls Try.prog 57 #[I n] w fun e w' => e = .returned (.func (.func 63) #[] #[.pointer (some ⟨w.heap.size, 0, none⟩)]) ∧ w.alloc (.cells #[I n] 3) = w' := by
  go_enter Try.func57, Try.ntmps57
  go_wp2
  go_ret
  exact ⟨rfl, rfl⟩

theorem i64_andm1 (n : Int) : bits .and .i64 n 1 = n % 2 := by
  have h : (BitVec.ofInt 64 1).toNat = 2 ^ 1 - 1 := by decide
  have key : (BitVec.ofInt 64 n &&& BitVec.ofInt 64 1).toNat = (n % ((2 ^ 64 : Nat) : Int)).toNat % 2 ^ 1 := by
    rw [BitVec.toNat_and, BitVec.toNat_ofInt, h, Nat.and_two_pow_sub_one_eq_mod]
  show IntKind.i64.wrap ((BitVec.ofInt 64 n &&& BitVec.ofInt 64 1).toNat : Nat) = n % 2
  rw [key, IntKind.wrap_i64]
  omega
theorem i64_andm3 (n : Int) : bits .and .i64 n 3 = n % 4 := by
  have h : (BitVec.ofInt 64 3).toNat = 2 ^ 2 - 1 := by decide
  have key : (BitVec.ofInt 64 n &&& BitVec.ofInt 64 3).toNat = (n % ((2 ^ 64 : Nat) : Int)).toNat % 2 ^ 2 := by
    rw [BitVec.toNat_and, BitVec.toNat_ofInt, h, Nat.and_two_pow_sub_one_eq_mod]
  show IntKind.i64.wrap ((BitVec.ofInt 64 n &&& BitVec.ofInt 64 3).toNat : Nat) = n % 4
  rw [key, IntKind.wrap_i64]
  omega
theorem i64_andm63 (n : Int) : bits .and .i64 n 63 = n % 64 := by
  have h : (BitVec.ofInt 64 63).toNat = 2 ^ 6 - 1 := by decide
  have key : (BitVec.ofInt 64 n &&& BitVec.ofInt 64 63).toNat = (n % ((2 ^ 64 : Nat) : Int)).toNat % 2 ^ 6 := by
    rw [BitVec.toNat_and, BitVec.toNat_ofInt, h, Nat.and_two_pow_sub_one_eq_mod]
  show IntKind.i64.wrap ((BitVec.ofInt 64 n &&& BitVec.ofInt 64 63).toNat : Nat) = n % 64
  rw [key, IntKind.wrap_i64]
  omega
theorem i64_andm1023 (n : Int) : bits .and .i64 n 1023 = n % 1024 := by
  have h : (BitVec.ofInt 64 1023).toNat = 2 ^ 10 - 1 := by decide
  have key : (BitVec.ofInt 64 n &&& BitVec.ofInt 64 1023).toNat = (n % ((2 ^ 64 : Nat) : Int)).toNat % 2 ^ 10 := by
    rw [BitVec.toNat_and, BitVec.toNat_ofInt, h, Nat.and_two_pow_sub_one_eq_mod]
  show IntKind.i64.wrap ((BitVec.ofInt 64 n &&& BitVec.ofInt 64 1023).toNat : Nat) = n % 1024
  rw [key, IntKind.wrap_i64]
  omega
theorem i64_andm61 (n : Int) : bits .and .i64 n 2305843009213693951 = n % 2305843009213693952 := by
  have h : (BitVec.ofInt 64 2305843009213693951).toNat = 2 ^ 61 - 1 := by decide
  have key : (BitVec.ofInt 64 n &&& BitVec.ofInt 64 2305843009213693951).toNat = (n % ((2 ^ 64 : Nat) : Int)).toNat % 2 ^ 61 := by
    rw [BitVec.toNat_and, BitVec.toNat_ofInt, h, Nat.and_two_pow_sub_one_eq_mod]
  show IntKind.i64.wrap ((BitVec.ofInt 64 n &&& BitVec.ofInt 64 2305843009213693951).toNat : Nat) = n % 2305843009213693952
  rw [key, IntKind.wrap_i64]
  omega
theorem i64_andm62 (n : Int) : bits .and .i64 n 4611686018427387903 = n % 4611686018427387904 := by
  have h : (BitVec.ofInt 64 4611686018427387903).toNat = 2 ^ 62 - 1 := by decide
  have key : (BitVec.ofInt 64 n &&& BitVec.ofInt 64 4611686018427387903).toNat = (n % ((2 ^ 64 : Nat) : Int)).toNat % 2 ^ 62 := by
    rw [BitVec.toNat_and, BitVec.toNat_ofInt, h, Nat.and_two_pow_sub_one_eq_mod]
  show IntKind.i64.wrap ((BitVec.ofInt 64 n &&& BitVec.ofInt 64 4611686018427387903).toNat : Nat) = n % 4611686018427387904
  rw [key, IntKind.wrap_i64]
  omega
theorem bit_eq (n : Int) (k : Nat) (h0 : 0 ≤ n) (h1 : n ≤ 9223372036854775807) : (bits .and .i64 (n / 2 ^ k) 1 == 1) = bt n k := by
  have e : n / 2 ^ k = ((n.toNat / 2 ^ k : Nat) : Int) := by
    conv => lhs; rw [show n = ((n.toNat : Nat) : Int) by omega]
    rw [Int.natCast_ediv, Int.natCast_pow]; rfl
  have hle := Nat.div_le_self n.toNat (2 ^ k)
  rw [e, bt]
  generalize n.toNat / 2 ^ k = z at *
  rw [i64_andm1, Bool.eq_iff_iff]
  simp only [beq_iff_eq]
  omega

set_option maxRecDepth 100000 in
set_option maxHeartbeats 1000000 in
theorem binary1_stops (f : Nat) (hf : 1 ≤ f) (Bn sb L : Nat) (n : Int) (h0 : 0 ≤ n) (hn : n ≤ 9223372036854775807) (hL : Lib.bitLen n.toNat = L) (hL2 : L ≤ 63) (w : World)
    (b2 : Blk w Bn #[I n] 3) (h2 : Bn ≠ sb) :
    SeqStopsK Fence.wide f Try.prog 63 #[.pointer (some ⟨Bn, 0, none⟩)] (fun b : Bool => #[.bool b]) (KpX sb) (fun xs => xs = bts n L L) (fun _ => True) L w := fun l J Jx W hW hJ hJx hY hJ0 => by
  refine callsIn_of_wp Try.func63 rfl trivial ?_ rfl
  simp only [Try.ntmps63, List.size_toArray, List.length_cons, List.length_nil, Nat.reduceAdd, Nat.reduceSub, Array.replicate_succ, Array.replicate_zero, List.push_toArray, List.append_toArray, List.nil_append, List.cons_append]
  have j2 := b2.below hW b2.lt
  have c2 := j2.cell 0 _ rfl
  have HL := Lib.hid hL
  clear hL
  gi_wp2_with (refine ⟨trivial, ?_⟩; gi_at_call 64; refine (callsIn_wide.2 (bits_Len n _ h0 (by omega))).mono ?_; rintro e w5 ⟨rfl, rfl⟩)
  rw [HL.out]
  gi_loopw [3] (fun i wr => ∃ (k : Nat) (j : Int), k ≤ L ∧ j = (L : Int) - 1 - k ∧ i = I j ∧ Blk wr Bn #[I n] 3 ∧ J (bts n L k) wr) (fun i _ => (intOf i + 1).toNat)
  case atStart => exact ⟨0, (L : Int) - 1, by omega, by omega, congrArg I (by unfold wrap64; omega), j2, hJ0⟩
  case round =>
    obtain ⟨k, j, hk, hj, rfl, i2, hJk⟩ := hrel
    clear c2
    have c2 := i2.cell 0 _ rfl
    by_cases hlt : k < L
    · obtain ⟨jn, rfl⟩ : ∃ jn : Nat, j = (jn : Int) := ⟨j.toNat, by omega⟩
      have HJ := Lib.hid hj
      have hb := bit_eq n jn h0 hn
      have hbs := Lib.hid (bts_succ n L k)
      have hje : Hid (L - 1 - k = jn) := by show _ = _; omega
      have jb : (jn : Int) < 63 := by omega
      clear hj
      obtain ⟨fn, tmps, assign, body, hy, hR⟩ := hY _ (bt n jn) wr hJk (by rw [bts_length]; exact hlt)
      have HBB : Hid (bt n jn = bt n jn) := rfl
      generalize hbb : bt n jn = bb at hb hy hR
      have HBb := Lib.hid hbb
      clear hbb HBB
      gi_wp2
      refine hR.mono ?_
      rintro e W3 (⟨rfl, hJ3, hk3⟩ | ⟨rfl, hJx3⟩)
      · have i3 := i2.keepX hk3 h2
        have c3 := i3.cell 0 _ rfl
        clear hb hy hR
        gi_wp2
        go_roundw
        case rel => exact ⟨k + 1, (jn : Int) - 1, by omega, by have := HJ.out; omega, rfl, i3, by rw [hbs.out, hje.out, HBb.out]; exact hJ3⟩
        case measure => simp [intOf]
      · clear hb hy hR
        gi_wp2
        refine bodyPost_ret (results_none rfl _ _ _) rfl ?_
        exact ⟨⟨_, rfl⟩, .inr ⟨_, trivial, hJx3⟩⟩
    · have hke : k = L := by omega
      subst hke
      obtain rfl : j = -1 := by omega
      gi_wp2
      go_end0
      exact ⟨⟨_, rfl⟩, .inl ⟨_, rfl, hJk⟩⟩

end Go.Proofs.Ytdnabeldaighgaa
