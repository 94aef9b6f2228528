/- The reference's padding and its block. -/
import Derived.Test.YtjekdeikoebmgaaShaC
namespace Go.Proofs.Ytjekdeikoebmgaa
open Go.RowKit Go.Shelf

/-- The string of a list of bytes. -/
abbrev S (l : List UInt8) : Value := .string ⟨l.toArray⟩
def sizeOfS : Value → Nat
  | .string b => b.size
  | _ => 0

/-- While the zeros are written. -/
def PadI (m : List UInt8) (t : Value) : Prop := ∃ (k : Nat) (b : ByteArray), k ≤ Sha.zeros m.length ∧ t = .string b ∧ Hid (b.data.toList = m ++ [128] ++ List.replicate k 0)

/-- The eight bytes of the length. -/
def len8 (n : Nat) : List UInt8 := Sha.bytes4 (n / 4294967296) ++ Sha.bytes4 (n % 4294967296)
/-- While the length is written. -/
def PadJ (m : List UInt8) (w : World) (t i : Value) (wr : World) : Prop := ∃ (j : Nat) (b : ByteArray), j ≤ 8 ∧ t = .string b ∧ i = .int .i64 (7 - (j : Int)) ∧ Hid (b.data.toList = m ++ [128] ++ List.replicate (Sha.zeros m.length) 0 ++ (len8 (8 * m.length)).take j) ∧ b.size ≤ m.length + 64 + j ∧ Below w.heap.size w wr

theorem wpList_convert_run {P : Program} {ops : Array Oper} {rest : List Oper} {o : Oper} {a : Act} {w : World} {Q : Exit → Act → World → Prop} (hgd : o.guard = none) (src dst : TypeId) (x : Operand) (ho : o.op = .convert src dst x)
    (v v' : Value) (w' : World) (hx : a.eval x = v) (hr : (convert src dst v).run P w = .ok v' w')
    (h : wpList P ops Q rest (a.put o.dst v') w') : wpList P ops Q (o :: rest) a w := by
  refine wpList_plain hgd fun K hK => ?_
  unfold Oper.wp execOp
  simp [ho, hx, hr]
  exact hK _ _ h
theorem len8_get (n j : Nat) (h : j < 8) : (len8 n).take (j + 1) = (len8 n).take j ++ [UInt8.ofNat (n / 2 ^ (8 * (7 - j)))] := by
  have e : ∀ a b : Nat, a % 256 = b % 256 → UInt8.ofNat a = UInt8.ofNat b := fun a b hab => by
    apply UInt8.toNat_inj.1; rw [UInt8.toNat_ofNat', UInt8.toNat_ofNat']; exact hab
  have key : (len8 n)[j]? = some (UInt8.ofNat (n / 2 ^ (8 * (7 - j)))) := by
    refine lt8 (P := fun j => (len8 n)[j]? = some (UInt8.ofNat (n / 2 ^ (8 * (7 - j))))) ?_ ?_ ?_ ?_ ?_ ?_ ?_ ?_ j h
    all_goals
      simp only [len8, Sha.bytes4]
      refine congrArg some (e _ _ ?_)
      first | (simp; done) | (simp; omega)
  rw [List.take_add_one, key]; rfl
theorem run_byte_back (w : World) (n j : Nat) (_ : j < 8) : (convert 30 9 (.slice (some ⟨w.heap.size, 0, none⟩) 1 1)).run Try.prog (w.alloc (.cells #[Y (UInt8.ofNat (n / 2 ^ (8 * (7 - j))))] 5)) = .ok (S [UInt8.ofNat (n / 2 ^ (8 * (7 - j)))]) (w.alloc (.cells #[Y (UInt8.ofNat (n / 2 ^ (8 * (7 - j))))] 5)) := by
  refine run_convert_bytes_back _ _ _ 5 _ 1 [_] Try.underlying30 Try.underlying5 Try.underlying9 (fun i hi => ?_)
  have hi : i = 0 := by simpa using hi
  subst hi
  exact (Blk.new w #[Y _] 5).cell 0 _ rfl
theorem byte_back' {P : Program} {w : World} {v : Value} {r : Result Value} (l j : Nat) (h : (convert 30 9 v).run P (w.alloc (.cells #[Y (UInt8.ofNat (8 * l / 2 ^ (8 * (7 - j))))] 5)) = r) :
    (convert 30 9 v).run P (w.alloc (.cells #[.int .u8 ((l : Int) * 8 / 2 ^ (8 * (7 - j)) % 256)] 5)) = r := by
  rw [← h]
  have e : ((l : Int) * 8 / 2 ^ (8 * (7 - j)) % 256) = (((UInt8.ofNat (8 * l / 2 ^ (8 * (7 - j)))).toNat : Nat) : Int) := by
    rw [UInt8.toNat_ofNat', Int.natCast_emod, Int.natCast_ediv, Int.natCast_pow, Int.natCast_mul, Int.mul_comm]; rfl
  rw [e]

set_option maxRecDepth 100000 in
set_option maxHeartbeats 1000000 in
theorem padded_any (m : List UInt8) (hm : m.length ≤ 140737488355000) (w : World) :
    Calls Try.prog 56 #[S m] w fun e w' => e = .returned (S (Sha.pad m)) ∧ Below w.heap.size w w' := by
  go_enter Try.func56, Try.ntmps56
  go_wp2_with fail
  go_loop [3] (fun t => PadI m t) (fun t => m.length + 65 - sizeOfS t)
  case atStart => exact ⟨0, _, by omega, rfl, by show _ = _; simp⟩
  case round =>
    obtain ⟨k, b, hk, rfl, HB⟩ := hrel
    have hsz : b.size = m.length + 1 + k := by
      have h1 := congrArg List.length HB.out
      have h2 : b.data.toList.length = b.size := by rw [Array.length_toList]; rfl
      simp at h1; omega
    have hle : b.size ≤ 140737488355328 := by unfold Sha.zeros at hk; omega
    have hZ : Sha.zeros m.length < 64 := by unfold Sha.zeros; omega
    by_cases hlt : k < Sha.zeros m.length
    · have ht : (((b.size : Int) % 64) != 56) = true := by rw [bne_iff_ne]; unfold Sha.zeros at hlt; omega
      have HS := Lib.hid hsz
      clear hsz
      go_wp2_with fail
      go_round
      case rel =>
        refine ⟨k + 1, _, by omega, rfl, ?_⟩
        show _ = _
        have := HB.out
        rw [List.replicate_succ', ← List.append_assoc, ← this]
        simp
      case measure =>
        have h := HS.out
        simp only [sizeOfS, ByteArray.size_append]
        have h1 : (ByteArray.mk #[0]).size = 1 := rfl
        omega
    · have ht : (((b.size : Int) % 64) != 56) = false := by rw [bne_eq_false_iff_eq]; have : k = Sha.zeros m.length := by omega
                                                            unfold Sha.zeros at this; omega
      have HS := Lib.hid hsz
      have HE : Hid (b.data.toList = m ++ [128] ++ List.replicate (Sha.zeros m.length) 0) := by
        show _ = _
        rw [HB.out, show k = Sha.zeros m.length by omega]
      have hb1 : b.size ≤ m.length + 64 := by omega
      clear hsz HB hk hlt hle
      go_wp2_with fail
      go_loopw [3, 5] (fun t i wr => PadJ m w t i wr) (fun _ i _ => (intOf i + 1).toNat)
      case atStart => exact ⟨0, b, by omega, rfl, rfl, by show _ = _; rw [HE.out]; simp, by omega, Below.refl _ w⟩
      case round =>
        obtain ⟨j, c, hj, rfl, rfl, HC, hc, hBl⟩ := hrel
        by_cases hlt : j < 8
        · have hr := run_byte_back wr (8 * m.length) j hlt
          have HR := Lib.hid hr
          clear hr
          have HL := Lib.hid (len8_get (8 * m.length) j hlt)
          go_wp2_with (refine wpList_convert_run rfl 30 9 (.tmp 28) rfl _ _ _ rfl (byte_back' m.length j HR.out) ?_)
          go_roundw
          case rel =>
            refine ⟨j + 1, _, by omega, rfl, congrArg (Value.int .i64) (by omega), ?_, ?_, hBl.alloc hBl.size _⟩
            · show _ = _
              have h1 := HC.out
              rw [HL.out, ← List.append_assoc, ← h1]
              simp
            · simp only [ByteArray.size_append]
              have h1 : (ByteArray.mk #[UInt8.ofNat (8 * m.length / 2 ^ (8 * (7 - j)))]).size = 1 := rfl
              omega
          case measure => simp [intOf]; omega
        · obtain rfl : j = 8 := by omega
          clear hlt hj
          go_wp2_with fail
          go_ret
          refine ⟨?_, hBl⟩
          have h1 := HC.out
          have h2 : c = ⟨(Sha.pad m).toArray⟩ := by
            have h3 : c.data = (Sha.pad m).toArray := by
              apply Array.toList_inj.1
              rw [h1, List.take_of_length_le (by simp [len8, Sha.bytes4_length])]
              simp [Sha.pad, len8]
            cases c; simp at h3; rw [h3]
          rw [h2]
          rfl

theorem str_index {P : Program} (hP : P.underlying 9 = some .string) (b : ByteArray) (m : List UInt8) (hb : b.data.toList = m) (i : Nat) (hi : i < m.length) (n : Int) (hn : n = (i : Int)) :
    ∀ w, (Instr.index 9 (.string b) (.int .i64 n)).run P w = .ok (.int .u8 ((Sha.byteAt m i : Nat) : Int)) w := by
  intro w
  subst hn
  have hbs : b.size = m.length := by rw [← hb, Array.length_toList]; rfl
  rw [run_index_string (h := hP), dif_pos ⟨by omega, by omega⟩]
  congr 2
  unfold Sha.byteAt
  subst hb
  rw [List.getD_eq_getElem?_getD, List.getElem?_eq_getElem hi]
  rfl

end Go.Proofs.Ytjekdeikoebmgaa
