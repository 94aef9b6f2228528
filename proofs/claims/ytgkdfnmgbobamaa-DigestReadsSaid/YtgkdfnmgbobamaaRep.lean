/- The contract of repeated: some string of so many bytes. Conditions: the number. -/
import Derived.Test.YtgkdfnmgbobamaaSan
namespace Go.Proofs.Ytgkdfnmgbobamaa
open Go.RowKit Go.Shelf

/-- Some string of so many bytes. -/
def SomeS (n : Nat) (w : World) (e : Ending) (w' : World) : Prop := ∃ m : List UInt8, m.length = n ∧ e = .returned (S m) ∧ Below w.heap.size w w'

theorem made_bytes (n : Nat) : madeCells (Value.int .u8 0).cells (n * 1) = hrow (List.replicate n 0) := by
  unfold madeCells hrow Value.cells
  apply Array.ext_getElem?
  intro i
  by_cases hi : i < n
  · simp [hi, Nat.mod_one]
  · simp [hi]
theorem run_make_bytes (n : Nat) (hn : n ≤ 1000) (w : World) : (Instr.makeSlice 33 (.int .i64 n) (.int .i64 n)).run Try.prog w = .ok (.slice (some ⟨w.heap.size, 0, none⟩) n n) (w.alloc (.cells (hrow (List.replicate n 0)) 5)) := by
  obtain ⟨i0, hi, hz0, hz1, hz2⟩ := info_parts infoB
  have h := run_makeSlice (w := w) 33 5 i0 _ Try.underlying33 hi hz0 .i64 .i64 n n (by omega) (by omega) (by rw [hz1]; omega) (by rw [hz2]; omega) (by omega)
  rw [hz1, Int.toNat_natCast, made_bytes] at h
  exact h
theorem hrow_set (l : List UInt8) (k : Nat) (x : UInt8) : (hrow l).setIfInBounds k (Y x) = hrow (l.set k x) := by
  unfold hrow
  rw [List.map_set]
  apply Array.toList_inj.1
  simp
theorem isByte (z : Int) (h0 : 0 ≤ z) (h1 : z < 256) : ∃ x : UInt8, Value.int .u8 z = Y x := by
  refine ⟨UInt8.ofNat z.toNat, ?_⟩
  congr 1
  rw [UInt8.toNat_ofNat']; omega

set_option maxRecDepth 100000 in
set_option maxHeartbeats 2000000 in
theorem repeated_any (c : Int) (n : Nat) (hn : n ≤ 1000) (w : World) :
    Calls Try.prog 14 #[.int .u8 c, .int .i64 (n : Int)] w (SomeS n w) := by
  have hmk := run_make_bytes n hn
  have N0 := Blk.new w (hrow (List.replicate n 0)) 5
  have t0 := (Below.refl _ w).alloc (Nat.le_refl _) (.cells (hrow (List.replicate n 0)) 5)
  have l0 : (List.replicate n (0 : UInt8)).length = n := List.length_replicate
  generalize List.replicate n (0 : UInt8) = z0 at *
  have NH := Lib.hid N0
  have LH := Lib.hid l0
  clear N0 l0
  go_enter Try.func14, Try.ntmps14
  go_wp2_with fail
  go_loopw [6] (fun i wr => ∃ (k : Nat) (m : List UInt8), k ≤ n ∧ i = .int .i64 k ∧ Hid (m.length = n) ∧ Blk wr w.heap.size (hrow m) 5 ∧ Below w.heap.size w wr) (fun i _ => n - (intOf i).toNat)
  case atStart => exact ⟨0, z0, by omega, rfl, LH.out, NH.out, t0⟩
  case round =>
    clear t0 hmk
    obtain ⟨k, m, hk, rfl, HM, hN, hB⟩ := hrel
    by_cases hlt : k < n
    · obtain ⟨x, hx⟩ : ∃ x, m[k]? = some x := ⟨m[k]'(by rw [HM.out]; exact hlt), List.getElem?_eq_getElem _⟩
      have hx2 := hN.cell k _ (hrow_get m k x hx)
      have hf := hN.frozen k
      have q0 : 0 ≤ (k : Int) / 100 := by omega
      have q1 : (k : Int) / 100 ≤ 10 := by omega
      clear hx
      go_wp2_with fail
      go_roundw
      case rel =>
        obtain ⟨y, hy⟩ := isByte ((c + (k : Int) / 100) % 256) (by omega) (by omega)
        refine ⟨k + 1, m.set k y, by omega, by go_num, ?_, ?_, hB.setCell (by simp) _⟩
        · show _ = _
          rw [List.length_set]; exact HM.out
        · rw [← hrow_set, ← hy]
          exact hN.set k _
      case measure => simp [intOf]; omega
    · obtain rfl : k = n := by omega
      have HC : Hid (∀ w', w' = wr → (convert 33 9 (.slice (some ⟨w.heap.size, 0, none⟩) k k)).run Try.prog w' = .ok (S m) w') := by
        rintro w' rfl
        have h := run_convert_bytes_back w' 33 9 5 ⟨w.heap.size, 0, none⟩ k m Try.underlying33 Try.underlying5 Try.underlying9 (fun i hi => by
          rw [Addr.add_lit, Nat.zero_add]
          exact hN.cell i _ (hrow_get m i _ (List.getElem?_eq_getElem hi)))
        rw [HM.out] at h
        exact h
      clear hlt hk
      go_wp2_with (refine wpList_convert_run rfl 33 9 (.tmp 22) rfl _ _ _ rfl (HC.out _ rfl) ?_)
      go_ret
      exact ⟨m, HM.out, rfl, hB⟩

end Go.Proofs.Ytgkdfnmgbobamaa
