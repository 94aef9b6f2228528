/- Hexadecimal texts: the contracts of Text, of both sides. Conditions: none. -/
import Derived.Test.YtgkdfnmgbobamaaText
namespace Go.Proofs.Ytgkdfnmgbobamaa
open Go.RowKit Go.Shelf

/-- The digits. -/
def digs : List UInt8 := [48, 49, 50, 51, 52, 53, 54, 55, 56, 57, 97, 98, 99, 100, 101, 102]
def hexd (n : Nat) : UInt8 := digs.getD n 0
def hex2 (x : UInt8) : List UInt8 := [hexd (x.toNat / 16), hexd (x.toNat % 16)]
def hex (l : List UInt8) : List UInt8 := l.flatMap hex2
theorem hex_snoc (l : List UInt8) (x : UInt8) : hex (l ++ [x]) = hex l ++ [hexd (x.toNat / 16)] ++ [hexd (x.toNat % 16)] := by
  unfold hex; rw [List.flatMap_append]; simp [hex2]
theorem hex_length (l : List UInt8) : (hex l).length = 2 * l.length := by
  induction l with
  | nil => rfl
  | cons x l ih => unfold hex at *; rw [List.flatMap_cons, List.length_append, ih]; simp [hex2]; omega
theorem index_digs (n : Nat) (h : n < 16) (w : World) : (Instr.index 9 (.string ⟨#[48, 49, 50, 51, 52, 53, 54, 55, 56, 57, 97, 98, 99, 100, 101, 102]⟩) (.int .u8 n)).run Try.prog w = .ok (Y (hexd n)) w := by
  have hs : (⟨#[48, 49, 50, 51, 52, 53, 54, 55, 56, 57, 97, 98, 99, 100, 101, 102]⟩ : ByteArray).size = 16 := rfl
  rw [run_index_string (h := Try.underlying9), dif_pos ⟨by omega, by rw [hs]; omega⟩]
  have hd : n < digs.length := h
  have e : hexd n = digs[n]'hd := by
    unfold hexd; rw [List.getD_eq_getElem?_getD, List.getElem?_eq_getElem hd]; rfl
  rw [e]
  rfl
theorem and15 (x : UInt8) : bits .and .u8 ((x.toNat : Nat) : Int) 15 = ((x.toNat % 16 : Nat) : Int) := by
  have : ∀ n : Fin 256, bits .and .u8 (n.val : Int) 15 = ((n.val % 16 : Nat) : Int) := by decide +kernel
  exact this ⟨x.toNat, x.toNat_lt⟩
theorem zeroB : (Try.prog.info? 56).bind (·.zero) = some (.agg #[.pointer none, .slice none 0 0]) := by kernel_rfl

set_option maxRecDepth 100000 in
set_option maxHeartbeats 2000000 in
theorem Text_any (l : List UInt8) (hl : l.length = 32) (w : World) :
    Calls Try.prog 16 #[.agg (hrow l)] w fun e w' => e = .returned (S (hex l)) ∧ Below w.heap.size w w' := by
  have HI := Lib.hid (hinfo' l hl)
  have NB := Lib.hid (Blk.new w (hrow l) 24)
  have HX := Lib.hid (fun k x h w => run_index_hash l k x hl h w)
  generalize hR : hrow l = R at *
  clear hR
  go_enter Try.func16, Try.ntmps16
  go_wp2_with (first
    | (refine wpList_box_row rfl 24 (.tmp 0) rfl R rfl ?_)
    | (refine wpList_alloc_row rfl 56 rfl #[.pointer none, .slice none 0 0] zeroB ?_)
    | (refine wpList_load_row rfl 24 (.tmp 1) rfl w.heap.size rfl _ _ _ _ (NB.out.alloc _) Try.underlying24 rfl HI.out ?_))
  have hb0 : BIs (w.heap.size + 1) (w.heap.size + 1) [] ((w.alloc (.cells R 24)).alloc (.cells #[.pointer none, .slice none 0 0] 56)) := by
    have := Lib.fresh_isBuilder 56 5 (w.alloc (.cells R 24))
    rw [World.size_alloc] at this
    exact this
  have t0 := ((Below.refl _ w).alloc (Nat.le_refl _) (.cells R 24)).alloc (by simp) (.cells #[.pointer none, .slice none 0 0] 56)
  have s0 : w.heap.size + 1 < ((w.alloc (.cells R 24)).alloc (.cells #[.pointer none, .slice none 0 0] 56)).heap.size := by simp
  generalize (w.alloc (.cells R 24)).alloc (.cells #[.pointer none, .slice none 0 0] 56) = w0 at *
  go_loopw [7] (fun i wr => ∃ k : Nat, k ≤ 32 ∧ i = .int .i64 k ∧ BIs (w.heap.size + 1) (w.heap.size + 1) (hex (l.take k)) wr ∧ Below w.heap.size w wr ∧ w.heap.size + 1 < wr.heap.size) (fun i _ => 32 - (intOf i).toNat)
  case atStart => exact ⟨0, by omega, rfl, hb0, t0, s0⟩
  case round =>
    clear hb0 t0 s0
    obtain ⟨k, hk, rfl, hb, hB, hs⟩ := hrel
    by_cases hlt : k < 32
    · obtain ⟨x, hx⟩ : ∃ x, l[k]? = some x := ⟨l[k]'(by omega), List.getElem?_eq_getElem (by omega)⟩
      have h1 := HX.out k x hx
      have e1 : ((x.toNat : Nat) : Int) / 16 = ((x.toNat / 16 : Nat) : Int) := by omega
      have e2 := and15 x
      have xl := x.toNat_lt
      have g1 := index_digs (x.toNat / 16) (by omega)
      have g2 := index_digs (x.toNat % 16) (by omega)
      have HH : Hid (hex (l.take (k + 1)) = hex (l.take k) ++ [hexd (x.toNat / 16)] ++ [hexd (x.toNat % 16)]) := by
        show _ = _
        rw [List.take_add_one, hx]; exact hex_snoc _ _
      have hlen : (hex (l.take k)).length ≤ 64 := by rw [hex_length, List.length_take]; omega
      generalize x.toNat / 16 = n1 at *
      generalize x.toNat % 16 = n2 at *
      go_wp2_with fail
      refine (WriteByte_any _ _ _ _ _ hb (by omega) (by omega)).mono ?_
      rintro e w1 ⟨rfl, hb1, hB1⟩
      have hs1 := hB1.size
      go_wp2_with fail
      refine (WriteByte_any _ _ _ _ _ hb1 (by rw [List.length_append]; simp; omega) (by omega)).mono ?_
      rintro e w2 ⟨rfl, hb2, hB2⟩
      have hs2 := hB2.size
      have hB3 := hB.trans ((hB1.trans hB2).mono (by omega))
      go_wp2_with fail
      go_roundw
      case rel => exact ⟨k + 1, by omega, by go_num, by rw [HH.out]; exact hb2, hB3, by omega⟩
      case measure => simp [intOf]; omega
    · obtain rfl : k = 32 := by omega
      have HL : Hid (l.take 32 = l) := List.take_of_length_le (by omega)
      rw [HL.out] at hb
      clear hlt hk
      go_wp2_with fail
      refine (Builder_String_any _ _ (hex l) _ hb (by omega)).mono ?_
      rintro e w1 ⟨rfl, hB1⟩
      go_wp2_with fail
      go_ret
      exact ⟨rfl, hB.trans (hB1.mono (by omega))⟩

theorem slice_digs (n : Nat) (h : n < 16) : (⟨#[48, 49, 50, 51, 52, 53, 54, 55, 56, 57, 97, 98, 99, 100, 101, 102]⟩ : ByteArray).extract n (n + 1) = ⟨#[hexd n]⟩ := by
  have : ∀ n : Fin 16, (⟨#[48, 49, 50, 51, 52, 53, 54, 55, 56, 57, 97, 98, 99, 100, 101, 102]⟩ : ByteArray).extract n.val (n.val + 1) = ⟨#[hexd n.val]⟩ := by decide
  exact this ⟨n, h⟩

set_option maxRecDepth 100000 in
set_option maxHeartbeats 2000000 in
theorem RText_any (l : List UInt8) (hl : l.length = 32) (w : World) :
    Calls Try.prog 17 #[.agg (hrow l)] w fun e w' => e = .returned (S (hex l)) ∧ Below w.heap.size w w' := by
  have NB := Lib.hid (Blk.new w (hrow l) 24)
  have HG := Lib.hid (fun k x h => hrow_get l k x h)
  generalize hR : hrow l = R at *
  clear hR
  go_enter Try.func17, Try.ntmps17
  go_wp2_with (first
    | (refine wpList_box_row rfl 24 (.tmp 0) rfl R rfl ?_))
  have t0 := (Below.refl _ w).alloc (Nat.le_refl _) (.cells R 24)
  have hN := NB.out
  have s0 : w.heap.size < (w.alloc (.cells R 24)).heap.size := by simp
  generalize w.alloc (.cells R 24) = w0 at *
  go_loopw [3, 4] (fun s i wr => ∃ (k : Nat) (b : ByteArray), k ≤ 32 ∧ i = .int .i64 k ∧ s = .string b ∧ Hid (b.data.toList = hex (l.take k)) ∧ Blk wr w.heap.size R 24 ∧ Below w.heap.size w wr) (fun _ i _ => 32 - (intOf i).toNat)
  case atStart => exact ⟨0, _, by omega, rfl, rfl, rfl, hN, t0⟩
  case round =>
    clear hN t0 s0
    obtain ⟨k, b, hk, rfl, rfl, HB, hN, hB⟩ := hrel
    by_cases hlt : k < 32
    · obtain ⟨x, hx⟩ : ∃ x, l[k]? = some x := ⟨l[k]'(by omega), List.getElem?_eq_getElem (by omega)⟩
      have c1 := After.cell (hN.cell k _ (HG.out k x hx))
      have e1 : ((x.toNat : Nat) : Int) / 16 = ((x.toNat / 16 : Nat) : Int) := by omega
      have e2 : ((x.toNat : Nat) : Int) % 16 = ((x.toNat % 16 : Nat) : Int) := by omega
      have xl := x.toNat_lt
      have g1 := slice_digs (x.toNat / 16) (by omega)
      have g2 := slice_digs (x.toNat % 16) (by omega)
      have HH : Hid (hex (l.take (k + 1)) = hex (l.take k) ++ [hexd (x.toNat / 16)] ++ [hexd (x.toNat % 16)]) := by
        show _ = _
        rw [List.take_add_one, hx]; exact hex_snoc _ _
      have l1 : x.toNat / 16 < 16 := by omega
      have l2 : x.toNat % 16 < 16 := by omega
      have bs : b.size ≤ 64 := by
        have h1 := congrArg List.length HB.out
        have h2 : b.data.toList.length = b.size := by rw [Array.length_toList]; rfl
        rw [hex_length, List.length_take] at h1; omega
      generalize x.toNat / 16 = n1 at *
      generalize x.toNat % 16 = n2 at *
      have w1 : IntKind.u8.wrap ((n1 : Int) + 1) = ((n1 + 1 : Nat) : Int) := by rw [IntKind.wrap_u8]; omega
      have w2 : IntKind.u8.wrap ((n2 : Int) + 1) = ((n2 + 1 : Nat) : Int) := by rw [IntKind.wrap_u8]; omega
      have k1 : (k : Int) < 32 := by omega
      go_wp2_with fail
      refine wp_region_after (by kernel_rfl) (by kernel_rfl) ?_
      repeat (go_big_quiet_step (fail))
      refine wpQuiet_nil ?_
      rintro w5 ⟨x5, rfl⟩
      have hb5 := x5.hb
      generalize x5.W = w5 at *
      go_wp2_with fail
      go_roundw
      case rel =>
        refine ⟨k + 1, _, by omega, by go_num, rfl, ?_, hN.below hb5 hN.lt, hB.trans (hb5.mono hB.size)⟩
        show _ = _
        rw [HH.out, ← HB.out]
        simp
      case measure => simp [intOf]; omega
    · obtain rfl : k = 32 := by omega
      have HL : Hid (l.take 32 = l) := List.take_of_length_le (by omega)
      rw [HL.out] at HB
      clear hlt hk
      go_wp2_with fail
      go_ret
      refine ⟨?_, hB⟩
      have h2 : b = ⟨(hex l).toArray⟩ := by
        have h3 : b.data = (hex l).toArray := by apply Array.toList_inj.1; rw [HB.out]
        cases b; simp at h3; rw [h3]
      rw [h2]; rfl

end Go.Proofs.Ytgkdfnmgbobamaa
