/- A number that depends on a text: the contracts of Hash, of both sides. Conditions: the text's size. -/
import Derived.Test.YtpkhdkbpfajfcaaRefF
import Derived.Test.YtpkhdkbpfajfcaaFldE
namespace Go.Proofs.Ytpkhdkbpfajfcaa
open Go.RowKit Go.Shelf

/-- The number of bytes by Horner's rule. -/
def horn (l : List UInt8) : Nat → Int
  | 0 => 0
  | k + 1 => horn l k * 256 + ((l.getD k 0).toNat : Int)
def hashS (l : List UInt8) (m : Int) : Int := if m < 1 then 0 else horn l 32 % m
theorem horn_step (l : List UInt8) (m : Int) (hm : ¬ m < 1) (k : Nat) (x : UInt8) (hx : l[k]? = some x) : Fld.addS (Fld.mulS (horn l k % m) 256 m) ((x.toNat : Nat) : Int) m = horn l (k + 1) % m := by
  unfold Fld.addS Fld.mulS
  rw [if_neg hm, if_neg hm, horn, List.getD_eq_getElem?_getD, hx]
  show (horn l k % m * 256 % m + _) % m = (horn l k * 256 + _) % m
  rw [Int.emod_add_emod, Int.add_emod, Int.mul_emod, Int.emod_emod_of_dvd _ (Int.dvd_refl m), ← Int.mul_emod, ← Int.add_emod]
  rfl
theorem emod_in (z m : Int) (h : ¬ m < 1) (h2 : m ≤ 9223372036854775807) : In64 (z % m) := by
  have h0 := Int.emod_nonneg z (by omega : m ≠ 0)
  have h1 := Int.emod_lt_of_pos z (by omega : 0 < m)
  exact ⟨by omega, by omega⟩
theorem RSumB_any (b : ByteArray) (hb : b.size ≤ 140737488355000) (w : World) :
    Calls Try.prog 36 #[.string b] w fun e w' => e = .returned (.agg (hrow (Sha.sum b.data.toList))) ∧ Below w.heap.size w w' := RSum_any b.data.toList (by rw [Array.length_toList]; exact hb) w

set_option maxRecDepth 100000 in
set_option maxHeartbeats 1000000 in
theorem Hash_any (b : ByteArray) (hb : b.size ≤ 140737488355000) (m : Int) (hm : m ≤ 9223372036854775807) (w : World) :
    Calls Try.prog 27 #[.string b, I m] w fun e w' => e = .returned (I (hashS (Sha.sum b.data.toList) m)) ∧ Below w.heap.size w w' := by
  by_cases h1 : m < 1
  · have HR : Hid (hashS (Sha.sum b.data.toList) m = 0) := by show _ = _; rw [hashS, if_pos h1]
    go_enter Try.func27, Try.ntmps27
    go_wp2_with fail
    go_ret
    exact ⟨by rw [HR.out]; rfl, Below.refl _ _⟩
  · have HR : Hid (hashS (Sha.sum b.data.toList) m = horn (Sha.sum b.data.toList) 32 % m) := by show _ = _; rw [hashS, if_neg h1]
    have E1 := Lib.hid (fun w => Sum_any b hb w)
    have hl := Sha.sum_length b.data.toList
    generalize Sha.sum b.data.toList = l at *
    have HI := Lib.hid (hinfo' l hl)
    have HO := Lib.hid (bytes_all l)
    have HZ := Lib.hid (hz_size l hl)
    have GA := Lib.hid (fun k x h => hrow_get l k x h)
    generalize hrow l = R at *
    have ZH : Hid ((Try.prog.info? 47).bind (·.zero) = some (.agg hz)) := by show _ = _; kernel_rfl
    go_enter Try.func27, Try.ntmps27
    go_wp2_with fail
    refine (E1.out _).mono ?_; rintro e w1 ⟨rfl, hb1⟩
    have NB := Lib.hid (Blk.new w1 hz 47)
    go_wp2_with (first
      | (refine wpList_alloc_row rfl 47 rfl hz ZH.out ?_)
      | (refine wpList_store_row rfl 47 (.tmp 5) (.tmp 11) rfl w1.heap.size R rfl rfl 47 _ NB.out HI.out HZ.out HO.out ?_; rw [World.setRow_alloc_new]))
    have NR := Blk.new w1 R 47
    have hB := hb1.alloc hb1.size (.cells R 47)
    generalize w1.alloc (.cells R 47) = w2 at *
    go_loopw [6, 12] (fun o i wr => ∃ k : Nat, k ≤ 32 ∧ i = .int .i64 k ∧ o = .int .i64 (horn l k % m) ∧ Blk wr w1.heap.size R 47 ∧ Below w.heap.size w wr) (fun _ i _ => 32 - (intOf i).toNat)
    case atStart => exact ⟨0, by omega, rfl, by simp [horn], NR, hB⟩
    case round =>
      clear NB NR hB hb1 E1
      obtain ⟨k, hk, rfl, rfl, NR, hB⟩ := hrel
      have h1 : ¬ m < 1 := by omega
      by_cases hlt : k < 32
      · obtain ⟨x, hx⟩ : ∃ x, l[k]? = some x := ⟨l[k]'(by omega), List.getElem?_eq_getElem (by omega)⟩
        have f1 := After.cell (NR.cell k _ (GA.out k x hx))
        have HS := Lib.hid (horn_step l m h1 k x hx)
        have xl := x.toNat_lt
        have M1 := Lib.hid (fun w => Mul_any (horn l k % m) 256 m (emod_in _ m h1 hm) ⟨by omega, by omega⟩ hm w)
        have M2 := Lib.hid (fun w => Add_any (Fld.mulS (horn l k % m) 256 m) ((x.toNat : Nat) : Int) m (by unfold Fld.mulS; rw [if_neg h1]; exact emod_in _ m h1 hm) ⟨by omega, by omega⟩ hm w)
        have k1 : (k : Int) < 32 := by omega
        generalize Fld.mulS (horn l k % m) 256 m = p at *
        generalize horn l k % m = q at *
        rw [HS.out] at M2
        clear hx h1
        go_wp2_with fail
        refine wp_region_after (by kernel_rfl) (by kernel_rfl) ?_
        repeat (go_big_quiet_step (first | (with_reducible exact After.call (M1.out _)) | (with_reducible exact After.call (M2.out _))))
        refine wpQuiet_nil ?_
        rintro w5 ⟨x5, rfl⟩
        have hb5 := x5.hb
        generalize x5.W = w5 at *
        go_wp2_with fail
        go_roundw
        case rel => exact ⟨k + 1, by omega, by go_num, rfl, NR.below hb5 NR.lt, hB.trans (hb5.mono hB.size)⟩
        case measure => simp [intOf]; omega
      · obtain rfl : k = 32 := by omega
        clear hlt hk h1
        go_wp2_with fail
        go_ret
        exact ⟨by rw [HR.out]; rfl, hB⟩

set_option maxRecDepth 100000 in
set_option maxHeartbeats 1000000 in
theorem RHash_any (b : ByteArray) (hb : b.size ≤ 140737488355000) (m : Int) (hm : m ≤ 9223372036854775807) (w : World) :
    Calls Try.prog 28 #[.string b, I m] w fun e w' => e = .returned (I (hashS (Sha.sum b.data.toList) m)) ∧ Below w.heap.size w w' := by
  by_cases h1 : m < 1
  · have HR : Hid (hashS (Sha.sum b.data.toList) m = 0) := by show _ = _; rw [hashS, if_pos h1]
    go_enter Try.func28, Try.ntmps28
    go_wp2_with fail
    go_ret
    exact ⟨by rw [HR.out]; rfl, Below.refl _ _⟩
  · have HR : Hid (hashS (Sha.sum b.data.toList) m = horn (Sha.sum b.data.toList) 32 % m) := by show _ = _; rw [hashS, if_neg h1]
    have E1 := Lib.hid (fun w => RSumB_any b hb w)
    have hl := Sha.sum_length b.data.toList
    generalize Sha.sum b.data.toList = l at *
    have HI := Lib.hid (hinfo' l hl)
    have HO := Lib.hid (bytes_all l)
    have HZ := Lib.hid (hz_size l hl)
    have GA := Lib.hid (fun k x h => hrow_get l k x h)
    generalize hrow l = R at *
    have ZH : Hid ((Try.prog.info? 47).bind (·.zero) = some (.agg hz)) := by show _ = _; kernel_rfl
    go_enter Try.func28, Try.ntmps28
    go_wp2_with fail
    refine (E1.out _).mono ?_; rintro e w1 ⟨rfl, hb1⟩
    have NB := Lib.hid (Blk.new w1 hz 47)
    go_wp2_with (first
      | (refine wpList_alloc_row rfl 47 rfl hz ZH.out ?_)
      | (refine wpList_store_row rfl 47 (.tmp 5) (.tmp 11) rfl w1.heap.size R rfl rfl 47 _ NB.out HI.out HZ.out HO.out ?_; rw [World.setRow_alloc_new]))
    have NR := Blk.new w1 R 47
    have hB := hb1.alloc hb1.size (.cells R 47)
    generalize w1.alloc (.cells R 47) = w2 at *
    go_loopw [6, 7] (fun o i wr => ∃ k : Nat, k ≤ 32 ∧ i = .int .i64 k ∧ o = .int .i64 (horn l k % m) ∧ Blk wr w1.heap.size R 47 ∧ Below w.heap.size w wr) (fun _ i _ => 32 - (intOf i).toNat)
    case atStart => exact ⟨0, by omega, rfl, by simp [horn], NR, hB⟩
    case round =>
      clear NB NR hB hb1 E1
      obtain ⟨k, hk, rfl, rfl, NR, hB⟩ := hrel
      have h1 : ¬ m < 1 := by omega
      by_cases hlt : k < 32
      · obtain ⟨x, hx⟩ : ∃ x, l[k]? = some x := ⟨l[k]'(by omega), List.getElem?_eq_getElem (by omega)⟩
        have f1 := After.cell (NR.cell k _ (GA.out k x hx))
        have HS := Lib.hid (horn_step l m h1 k x hx)
        have xl := x.toNat_lt
        have same : ∀ {f : FuncId} {args : Array Value} {w : World} {v : Value}, (Calls Try.prog f args w fun e w' => e = .returned v ∧ w = w') → Calls Try.prog f args w fun e w' => e = .returned v ∧ Below w.heap.size w w' := fun h => h.mono fun e w' ⟨a, b⟩ => ⟨a, b ▸ Below.refl _ _⟩
        have M1 := Lib.hid (fun w => same (RMul_any (horn l k % m) 256 m (emod_in _ m h1 hm) ⟨by omega, by omega⟩ hm w))
        have M2 := Lib.hid (fun w => same (RAdd_any (Fld.mulS (horn l k % m) 256 m) ((x.toNat : Nat) : Int) m (by unfold Fld.mulS; rw [if_neg h1]; exact emod_in _ m h1 hm) ⟨by omega, by omega⟩ hm w))
        have k1 : (k : Int) < 32 := by omega
        generalize Fld.mulS (horn l k % m) 256 m = p at *
        generalize horn l k % m = q at *
        rw [HS.out] at M2
        clear hx same h1
        go_wp2_with fail
        refine wp_region_after (by kernel_rfl) (by kernel_rfl) ?_
        repeat (go_big_quiet_step (first | (with_reducible exact After.call (M1.out _)) | (with_reducible exact After.call (M2.out _))))
        refine wpQuiet_nil ?_
        rintro w5 ⟨x5, rfl⟩
        have hb5 := x5.hb
        generalize x5.W = w5 at *
        go_wp2_with fail
        go_roundw
        case rel => exact ⟨k + 1, by omega, by go_num, rfl, NR.below hb5 NR.lt, hB.trans (hb5.mono hB.size)⟩
        case measure => simp [intOf]; omega
      · obtain rfl : k = 32 := by omega
        clear hlt hk h1
        go_wp2_with fail
        go_ret
        exact ⟨by rw [HR.out]; rfl, hB⟩
end Go.Proofs.Ytpkhdkbpfajfcaa
