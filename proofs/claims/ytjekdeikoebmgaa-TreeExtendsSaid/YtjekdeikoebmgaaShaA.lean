/- The contracts of SHA-256's small functions: rotations, words, bytes, the constants. Conditions: words below 2^32. -/
import Derived.Test.YtjekdeikoebmgaaKit
import Derived.Test.YtjekdeikoebmgaaSha
namespace Go.Proofs.Ytjekdeikoebmgaa
open Go.RowKit Go.Shelf

/-- A word, a byte. -/
abbrev U (x : Nat) : Value := .int .u32 (x : Int)
abbrev Y (x : UInt8) : Value := .int .u8 ((x.toNat : Nat) : Int)
theorem ret_u32 {a b : Int} (h : a = b) : Ending.returned (.int .u32 a) = .returned (.int .u32 b) := by rw [h]
theorem info45 : (Try.prog.info? 85).map (·.size) = some 8 := by kernel_rfl
theorem info64 : (Try.prog.info? 96).map (·.size) = some 64 := by kernel_rfl
theorem info24 : (Try.prog.info? 24).map (·.size) = some 32 := by kernel_rfl

theorem and31 (a : Nat) (h1 : 1 ≤ a) (h2 : a ≤ 31) : bits .and .u64 (IntKind.u64.wrap (-(a : Int))) 31 = ((32 - a : Nat) : Int) := by
  have : ∀ a : Fin 32, 1 ≤ a.val → bits .and .u64 (IntKind.u64.wrap (-(a.val : Int))) 31 = ((32 - a.val : Nat) : Int) := by decide +kernel
  exact this ⟨a, by omega⟩ h1

theorem cast_div (x n : Nat) : (x : Int) / 2 ^ n = ((x / 2 ^ n : Nat) : Int) := by
  rw [Int.natCast_ediv, Int.natCast_pow]; rfl
theorem cast_shl (x n : Nat) : (x : Int) * 2 ^ n % 4294967296 = ((x * 2 ^ n % 4294967296 : Nat) : Int) := by
  rw [Int.natCast_emod, Int.natCast_mul, Int.natCast_pow]; rfl

theorem rot_bits (x a : Nat) (hx : x < 4294967296) : bits .or .u32 ((x : Int) / 2 ^ a) ((x : Int) * 2 ^ (32 - a) % 4294967296) = ((Sha.rotr x a : Nat) : Int) := by
  rw [cast_div, cast_shl, u32_or_nat _ _ (Sha.div_lt hx) (Sha.mod_lt _)]; rfl
theorem rot_bits' (x a : Nat) (hx : x < 4294967296) : bits .or .u32 ((x : Int) * 2 ^ (32 - a) % 4294967296) ((x : Int) / 2 ^ a) = ((Sha.rotr x a : Nat) : Int) := by
  rw [cast_div, cast_shl, u32_or_nat _ _ (Sha.mod_lt _) (Sha.div_lt hx), Nat.or_comm]; rfl

set_option maxHeartbeats 400000 in
theorem rotl_any (x a : Nat) (hx : x < 4294967296) (h1 : 1 ≤ a) (h2 : a ≤ 31) (w : World) :
    Calls Try.prog 66 #[U x, .int .i64 (-(a : Int))] w fun e w' => e = .returned (U (Sha.rotr x a)) ∧ w = w' := by
  have hA := and31 a h1 h2
  have HR := Lib.hid (rot_bits' x a hx)
  go_enter Try.func66, Try.ntmps66
  go_wp2_with fail
  go_ret
  refine ⟨ret_u32 ?_, rfl⟩
  rw [show 32 - (32 - a) = a by omega]
  exact HR.out

set_option maxHeartbeats 400000 in
theorem rrot_any (x a : Nat) (hx : x < 4294967296) (h1 : 1 ≤ a) (h2 : a ≤ 31) (w : World) :
    Calls Try.prog 64 #[U x, .int .i64 (a : Int)] w fun e w' => e = .returned (U (Sha.rotr x a)) ∧ Below w.heap.size w w' := by
  have HR := Lib.hid (rot_bits x a hx)
  go_enter Try.func64, Try.ntmps64
  go_wp2_with fail
  go_quiet (fail)
  go_wp2_with fail
  go_ret
  exact ⟨ret_u32 HR.out, Below.drewN (Below.refl _ w) _⟩

theorem mixed_bits (x a b c : Nat) (hx : x < 4294967296) : bits .xor .u32 (bits .xor .u32 (Sha.rotr x a : Nat) (Sha.rotr x b : Nat)) (Sha.rotr x c : Nat) = ((Sha.rotr x a ^^^ Sha.rotr x b ^^^ Sha.rotr x c : Nat) : Int) := by
  rw [u32_xor_nat _ _ (Sha.rotr_lt hx) (Sha.rotr_lt hx), u32_xor_nat _ _ (Sha.xor_lt (Sha.rotr_lt hx) (Sha.rotr_lt hx)) (Sha.rotr_lt hx)]

set_option maxHeartbeats 400000 in
theorem mixed_any (x a b c : Nat) (hx : x < 4294967296) (h1 : 1 ≤ a) (h2 : a ≤ 31) (h3 : 1 ≤ b) (h4 : b ≤ 31) (h5 : 1 ≤ c) (h6 : c ≤ 31) (w : World) :
    Calls Try.prog 62 #[U x, .int .i64 (a : Int), .int .i64 (b : Int), .int .i64 (c : Int)] w fun e w' => e = .returned (U (Sha.rotr x a ^^^ Sha.rotr x b ^^^ Sha.rotr x c)) ∧ w = w' := by
  have HR := Lib.hid (mixed_bits x a b c hx)
  have HM := Lib.hid (fun a h1 h2 w => rotl_any x a hx h1 h2 w)
  go_enter Try.func62, Try.ntmps62
  go_wp2_with fail
  refine (HM.out a h1 h2 _).mono ?_; rintro e w1 ⟨rfl, rfl⟩
  go_wp2_with fail
  refine (HM.out b h3 h4 _).mono ?_; rintro e w1 ⟨rfl, rfl⟩
  go_wp2_with fail
  refine (HM.out c h5 h6 _).mono ?_; rintro e w1 ⟨rfl, rfl⟩
  go_wp2_with fail
  go_ret
  exact ⟨ret_u32 HR.out, rfl⟩

theorem word_bits (a b c d : Nat) (ha : a < 256) (hb : b < 256) (hc : c < 256) (hd : d < 256) :
    bits .or .u32 (bits .or .u32 (bits .or .u32 ((a : Int) * 16777216) ((b : Int) * 65536)) ((c : Int) * 256)) (d : Int) = ((Sha.w4 a b c d : Nat) : Int) := by
  rw [show (a : Int) * 16777216 = ((a * 16777216 : Nat) : Int) by omega, show (b : Int) * 65536 = ((b * 65536 : Nat) : Int) by omega, show (c : Int) * 256 = ((c * 256 : Nat) : Int) by omega,
    u32_or_nat _ _ (by omega) (by omega), u32_or_nat _ _ (Sha.or_lt (by omega) (by omega)) (by omega), u32_or_nat _ _ (Sha.or_lt (Sha.or_lt (by omega) (by omega)) (by omega)) (by omega)]
  rfl

set_option maxHeartbeats 400000 in
theorem word_any (x0 x1 x2 x3 : Nat) (g o n c : Nat) (h0 : x0 < 256) (h1 : x1 < 256) (h2 : x2 < 256) (h3 : x3 < 256) (hn : 4 ≤ n) (w : World)
    (c0 : w.cell? ⟨g, o, none⟩ = some (.int .u8 x0)) (c1 : w.cell? ⟨g, o + 1, none⟩ = some (.int .u8 x1)) (c2 : w.cell? ⟨g, o + 2, none⟩ = some (.int .u8 x2)) (c3 : w.cell? ⟨g, o + 3, none⟩ = some (.int .u8 x3)) :
    Calls Try.prog 65 #[.slice (some ⟨g, o, none⟩) n c] w fun e w' => e = .returned (U (Sha.w4 x0 x1 x2 x3)) ∧ Below w.heap.size w w' := by
  have HR := Lib.hid (word_bits x0 x1 x2 x3 h0 h1 h2 h3)
  have b0 : (0 : Int) < (n : Int) := by omega
  have b1 : (1 : Int) < (n : Int) := by omega
  have b2 : (2 : Int) < (n : Int) := by omega
  have b3 : (3 : Int) < (n : Int) := by omega
  go_enter Try.func65, Try.ntmps65
  go_wp2_with fail
  go_quiet (fail)
  go_wp2_with fail
  go_ret
  exact ⟨ret_u32 HR.out, Below.drewN (Below.refl _ w) _⟩

theorem bytes4_cells (x : Nat) (h0 : x < 4294967296) : ((Sha.bytes4 x).map Y).toArray = #[.int .u8 ((x : Int) / 16777216), .int .u8 ((x : Int) / 65536 % 256), .int .u8 ((x : Int) / 256 % 256), .int .u8 ((x : Int) % 256)] := by
  have h : ∀ n : Nat, ((UInt8.ofNat n).toNat : Int) = (n : Int) % 256 := fun n => by rw [UInt8.toNat_ofNat']; omega
  simp only [Sha.bytes4, List.map_cons, List.map_nil, Y, h]
  rw [show ((x / 16777216 : Nat) : Int) % 256 = (x : Int) / 16777216 by omega, show ((x / 65536 : Nat) : Int) % 256 = (x : Int) / 65536 % 256 by omega, show ((x / 256 : Nat) : Int) % 256 = (x : Int) / 256 % 256 by omega]

set_option maxHeartbeats 400000 in
theorem bytes_any (x : Nat) (h0 : x < 4294967296) (w : World) :
    Calls Try.prog 52 #[U x] w fun e w' => e = .returned (.slice (some ⟨w.heap.size, 0, none⟩) 4 4) ∧ w.alloc (.cells ((Sha.bytes4 x).map Y).toArray 5) = w' := by
  have HR := Lib.hid (bytes4_cells x h0)
  go_enter Try.func52, Try.ntmps52
  go_wp2_with fail
  go_ret
  exact ⟨rfl, by rw [HR.out]⟩

/-- The cells of a state. -/
def Sha.V.row (v : Sha.V) : Array Value := #[U v.a, U v.b, U v.c, U v.d, U v.e, U v.f, U v.g, U v.h]

set_option maxHeartbeats 400000 in
theorem start_any (w : World) :
    Calls Try.prog 53 #[] w fun e w' => e = .returned (.agg Sha.start.row) ∧ Below w.heap.size w w' := by
  go_enter Try.func53, Try.ntmps53
  go_wp2_with ((refine wpList_store_row rfl 85 (.tmp 0) (.tmp 1) rfl w.heap.size _ rfl rfl 85 _ (heap_alloc_new w _) info45 ?h3 ?h4 ?_; (exact rfl); (simp [Value.oneCell']); rw [World.setRow_alloc_new]))
  refine bodyPost_ret (v := .agg Sha.start.row) ?_ rfl ⟨rfl, ?_⟩
  · exact results_cell_row rfl _ _ _ _ _ _ _ rfl (heap_alloc_new w _) Try.underlying85 rfl info45
  exact (Below.refl _ _).alloc (Nat.le_refl _) _

/-- The cells of a list of words, filled up to 64. -/
def wrow (l : List Nat) : Array Value := ((l ++ List.replicate (64 - l.length) 0).map U).toArray

set_option maxRecDepth 100000 in
set_option maxHeartbeats 1000000 in
theorem rounds_any (w : World) :
    Calls Try.prog 61 #[] w fun e w' => e = .returned (.agg (wrow Sha.kk)) ∧ Below w.heap.size w w' := by
  go_enter Try.func61, Try.ntmps61
  go_wp2_with (first
    | (refine wpList_alloc_row rfl 96 rfl (wrow []) (by kernel_rfl) ?_)
    | (refine wpList_build rfl 96 _ rfl (by kernel_rfl) ?_)
    | (refine wpList_store_row rfl 96 (.tmp 0) (.tmp 1) rfl w.heap.size (wrow Sha.kk) rfl (by kernel_rfl) 96 _ (heap_alloc_new w _) info64 (by kernel_rfl) (by kernel_rfl) ?_; rw [World.setRow_alloc_new]))
  refine bodyPost_ret (v := .agg (wrow Sha.kk)) ?_ rfl ⟨rfl, ?_⟩
  · exact results_cell_row rfl _ _ _ _ _ _ _ rfl (heap_alloc_new w _) Try.underlying96 rfl info64
  exact (Below.refl _ _).alloc (Nat.le_refl _) _

set_option maxRecDepth 100000 in
set_option maxHeartbeats 1000000 in
theorem rrounds_any (w : World) :
    Calls Try.prog 63 #[] w fun e w' => e = .returned (.agg (wrow Sha.kk)) ∧ Below w.heap.size w w' := by
  go_enter Try.func63, Try.ntmps63
  go_wp2_with (first
    | (refine wpList_alloc_row rfl 96 rfl (wrow []) (by kernel_rfl) ?_)
    | (refine wpList_build rfl 96 _ rfl (by kernel_rfl) ?_)
    | (refine wpList_store_row rfl 96 (.tmp 0) (.tmp 1) rfl w.heap.size (wrow Sha.kk) rfl (by kernel_rfl) 96 _ (heap_alloc_new w _) info64 (by kernel_rfl) (by kernel_rfl) ?_; rw [World.setRow_alloc_new]))
  refine bodyPost_ret (v := .agg (wrow Sha.kk)) ?_ rfl ⟨rfl, ?_⟩
  · exact results_cell_row rfl _ _ _ _ _ _ _ rfl (heap_alloc_new w _) Try.underlying96 rfl info64
  exact (Below.refl _ _).alloc (Nat.le_refl _) _

end Go.Proofs.Ytjekdeikoebmgaa
