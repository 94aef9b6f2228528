/- The contracts of half, Leaf and Node, of both sides. Conditions: sizes. -/
import Derived.Test.YtjekdeikoebmgaaSha
import Derived.Test.YtjekdeikoebmgaaRefE
import Derived.Test.YtjekdeikoebmgaaKit
namespace Go.Proofs.Ytjekdeikoebmgaa
open Go.RowKit Go.Shelf

theorem cat (a b : ByteArray) (h : a.size + b.size ≤ 9223372036854775807) : Op.stringOp .add a b = pure (.string (a ++ b)) := by
  have h2 : ¬ (((a.size + b.size : Nat) : Int) > IntKind.i64.max) := by show ¬ ((9223372036854775807 : Int) < _); omega
  unfold Op.stringOp
  simp only [if_neg h2]
theorem RSumB_any (b : ByteArray) (hb : b.size ≤ 140737488355000) (w : World) :
    Calls Try.prog 37 #[.string b] w fun e w' => e = .returned (.agg (hrow (Sha.sum b.data.toList))) ∧ Below w.heap.size w w' := RSum_any b.data.toList (by rw [Array.length_toList]; exact hb) w
theorem zeroHash : (Try.prog.info? 24).bind (·.zero) = some (.agg hz) := by kernel_rfl

theorem half_fuel (n k f : Nat) (h : n ≤ k * 2 ^ f) (h1 : 1 ≤ k) : Tr.halfGo f n k = Tr.halfGo n n k := by
  have := Nat.lt_two_pow_self (n := n)
  refine Tr.halfGo_fuel f n n k h ?_
  calc n ≤ 1 * 2 ^ n := by omega
    _ ≤ k * 2 ^ n := Nat.mul_le_mul_right _ h1
theorem half_stop (n k : Nat) (h : n ≤ 2 * k) : Tr.halfGo n n k = k := Tr.halfGo_eq n n k h
theorem half_more (n k : Nat) (h : 2 * k < n) (h1 : 1 ≤ k) : Tr.halfGo n n k = Tr.halfGo n n (2 * k) := by
  obtain ⟨m, rfl⟩ : ∃ m, n = m + 1 := ⟨n - 1, by omega⟩
  have e : Tr.halfGo (m + 1) (m + 1) k = Tr.halfGo m (m + 1) (2 * k) := by
    rw [Tr.halfGo, if_neg (by omega)]
  rw [e]
  have := Nat.lt_two_pow_self (n := m)
  refine half_fuel (m + 1) (2 * k) m ?_ (by omega)
  calc m + 1 ≤ 1 * 2 ^ m := by omega
    _ ≤ 2 * k * 2 ^ m := Nat.mul_le_mul_right _ (by omega)

set_option maxRecDepth 100000 in
set_option maxHeartbeats 1000000 in
theorem half_any (n : Nat) (h1 : 1 ≤ n) (h2 : n ≤ 9223372036854775807) (w : World) :
    Calls Try.prog 38 #[.int .i64 n] w fun e w' => e = .returned (.int .i64 (Tr.half n)) ∧ w = w' := by
  have HH : Hid (Tr.half n = Tr.halfGo n n 1) := rfl
  go_enter Try.func38, Try.ntmps38
  go_wp2_with fail
  go_loopw [3, 4] (fun k i wr => ∃ j c : Nat, j ≤ 63 ∧ i = .int .i64 j ∧ k = .int .i64 c ∧ Hid (c = 2 ^ j) ∧ c < n + 1 ∧ Hid (Tr.half n = Tr.halfGo n n c) ∧ wr = w) (fun _ i _ => 63 - (intOf i).toNat)
  case atStart => exact ⟨0, 1, by omega, rfl, rfl, rfl, by omega, HH.out, rfl⟩
  case round =>
    obtain ⟨j, c, hj, rfl, rfl, HC, hc, HE, rfl⟩ := hrel
    have c1 : 1 ≤ c := by rw [HC.out]; exact Nat.one_le_two_pow
    by_cases hlt : j < 63
    · by_cases hs : n ≤ 2 * c
      · have HR : Hid (Tr.half n = c) := by show _ = _; rw [HE.out]; exact half_stop n c hs
        have t : decide ((c : Int) ≥ (n : Int) - (c : Int)) = true := decide_eq_true (by omega)
        have t2 : (n : Int) - (c : Int) ≤ (c : Int) := by omega
        clear HE HC HH
        go_wp2_with fail
        go_ret
        exact ⟨by rw [HR.out]; rfl, rfl⟩
      · have t2 : ¬ ((n : Int) - (c : Int) ≤ (c : Int)) := by omega
        have HN : Hid (Tr.half n = Tr.halfGo n n (2 * c)) := by show _ = _; rw [HE.out]; exact half_more n c (by omega) c1
        have HC2 : Hid (2 * c = 2 ^ (j + 1)) := by show _ = _; rw [HC.out, Nat.pow_succ, Nat.mul_comm]
        clear HE HC HH
        go_wp2_with fail
        go_roundw
        case rel => exact ⟨j + 1, 2 * c, by omega, by go_num, by first | rfl | (congr 1; omega), HC2.out, by omega, HN.out, by first | rfl | trivial⟩
        case measure => simp [intOf]; omega
    · exfalso
      obtain rfl : j = 63 := by omega
      have := HC.out
      omega

set_option maxRecDepth 100000 in
set_option maxHeartbeats 1000000 in
theorem RHalf_any (n : Nat) (h1 : 1 ≤ n) (h2 : n ≤ 9223372036854775807) (w : World) :
    Calls Try.prog 39 #[.int .i64 n] w fun e w' => e = .returned (.int .i64 (Tr.half n)) ∧ w = w' := by
  have HH : Hid (Tr.half n = Tr.halfGo n n 1) := rfl
  go_enter Try.func39, Try.ntmps39
  go_wp2_with fail
  go_loopw [3] (fun k wr => ∃ c : Nat, 1 ≤ c ∧ c < n + 1 ∧ k = .int .i64 c ∧ Hid (Tr.half n = Tr.halfGo n n c) ∧ wr = w) (fun k _ => n - (intOf k).toNat)
  case atStart => exact ⟨1, by omega, by omega, rfl, HH.out, rfl⟩
  case round =>
    obtain ⟨c, c1, hc, rfl, HE, rfl⟩ := hrel
    by_cases hs : n ≤ 2 * c
    · have HR : Hid (Tr.half n = c) := by show _ = _; rw [HE.out]; exact half_stop n c hs
      have t2 : ¬ ((c : Int) < (n : Int) - (c : Int)) := by omega
      clear HE HH
      go_wp2_with fail
      go_ret
      exact ⟨by rw [HR.out]; rfl, rfl⟩
    · have t2 : (c : Int) < (n : Int) - (c : Int) := by omega
      have HN : Hid (Tr.half n = Tr.halfGo n n (2 * c)) := by show _ = _; rw [HE.out]; exact half_more n c (by omega) c1
      clear HE HH
      go_wp2_with fail
      go_roundw
      case rel => exact ⟨2 * c, by omega, by omega, by first | rfl | (congr 1; omega), HN.out, by first | rfl | trivial⟩
      case measure => simp [intOf]; omega

set_option maxRecDepth 100000 in
set_option maxHeartbeats 1000000 in
theorem Leaf_any (s : List UInt8) (hs : s.length ≤ 140737488354000) (w : World) :
    Calls Try.prog 14 #[S s] w fun e w' => e = .returned (.agg (hrow (Tr.leaf s))) ∧ Below w.heap.size w w' := by
  have hz1 : (⟨#[0]⟩ ++ (⟨s.toArray⟩ : ByteArray) : ByteArray).data.toList = 0 :: s := by simp
  have E1 : Hid (∀ w, Calls Try.prog 36 #[.string (⟨#[0]⟩ ++ (⟨s.toArray⟩ : ByteArray))] w fun e w' => e = .returned (.agg (hrow (Tr.leaf s))) ∧ Below w.heap.size w w') := fun w => by
    have h := Sum_any (⟨#[0]⟩ ++ (⟨s.toArray⟩ : ByteArray)) (by rw [ByteArray.size_append]; show 1 + s.length ≤ _; omega) w
    rw [hz1] at h
    exact h
  have c1 := cat ⟨#[0]⟩ ⟨s.toArray⟩ (by show 1 + s.length ≤ _; omega)
  have hl := Tr.leaf_length s
  have HI := Lib.hid (hinfo' _ hl)
  have HO := Lib.hid (bytes_all (Tr.leaf s))
  have HZ := Lib.hid (hz_size _ hl)
  generalize hrow (Tr.leaf s) = R at *
  have NB := Lib.hid (Blk.new w hz 24)
  have t0 := (Below.refl w.heap.size w).alloc (Nat.le_refl _) (.cells hz 24)
  have hs0 : w.heap.size < (w.alloc (.cells hz 24)).heap.size := by simp
  clear hz1 hl
  go_enter Try.func14, Try.ntmps14
  go_wp2_with (refine wpList_alloc_row rfl 24 rfl hz zeroHash ?_)
  refine (E1.out _).mono ?_; rintro e w1 ⟨rfl, hb1⟩
  have NB1 := Lib.hid (NB.out.below hb1 NB.out.lt)
  have t1 := t0.trans (hb1.mono (by omega))
  clear c1
  go_wp2_with (refine wpList_store_row rfl 24 (.tmp 2) (.tmp 5) rfl w.heap.size R rfl rfl 24 _ NB1.out HI.out HZ.out HO.out ?_)
  refine bodyPost_ret (v := .agg R) ?_ rfl ⟨rfl, Below.setRow t1 (Nat.le_refl _) _⟩
  exact results_cell_row rfl _ _ _ _ _ _ _ rfl (NB1.out.row _) Try.underlying24 rfl HI.out

set_option maxRecDepth 100000 in
set_option maxHeartbeats 1000000 in
theorem RLeaf_any (s : List UInt8) (hs : s.length ≤ 140737488354000) (w : World) :
    Calls Try.prog 15 #[S s] w fun e w' => e = .returned (.agg (hrow (Tr.leaf s))) ∧ Below w.heap.size w w' := by
  have hz1 : (⟨#[0]⟩ ++ (⟨s.toArray⟩ : ByteArray) : ByteArray).data.toList = 0 :: s := by simp
  have E1 : Hid (∀ w, Calls Try.prog 37 #[.string (⟨#[0]⟩ ++ (⟨s.toArray⟩ : ByteArray))] w fun e w' => e = .returned (.agg (hrow (Tr.leaf s))) ∧ Below w.heap.size w w') := fun w => by
    have h := RSumB_any (⟨#[0]⟩ ++ (⟨s.toArray⟩ : ByteArray)) (by rw [ByteArray.size_append]; show 1 + s.length ≤ _; omega) w
    rw [hz1] at h
    exact h
  have c1 := cat ⟨#[0]⟩ ⟨s.toArray⟩ (by show 1 + s.length ≤ _; omega)
  have hl := Tr.leaf_length s
  have HI := Lib.hid (hinfo' _ hl)
  have HO := Lib.hid (bytes_all (Tr.leaf s))
  have HZ := Lib.hid (hz_size _ hl)
  generalize hrow (Tr.leaf s) = R at *
  have NB := Lib.hid (Blk.new w hz 24)
  have t0 := (Below.refl w.heap.size w).alloc (Nat.le_refl _) (.cells hz 24)
  have hs0 : w.heap.size < (w.alloc (.cells hz 24)).heap.size := by simp
  clear hz1 hl
  go_enter Try.func15, Try.ntmps15
  go_wp2_with (refine wpList_alloc_row rfl 24 rfl hz zeroHash ?_)
  refine (E1.out _).mono ?_; rintro e w1 ⟨rfl, hb1⟩
  have NB1 := Lib.hid (NB.out.below hb1 NB.out.lt)
  have t1 := t0.trans (hb1.mono (by omega))
  clear c1
  go_wp2_with (refine wpList_store_row rfl 24 (.tmp 2) (.tmp 5) rfl w.heap.size R rfl rfl 24 _ NB1.out HI.out HZ.out HO.out ?_)
  refine bodyPost_ret (v := .agg R) ?_ rfl ⟨rfl, Below.setRow t1 (Nat.le_refl _) _⟩
  exact results_cell_row rfl _ _ _ _ _ _ _ rfl (NB1.out.row _) Try.underlying24 rfl HI.out

/-- The bytes of a hash that lies in a block, as a string. -/
theorem run_hash_text (w : World) (g : Nat) (a : List UInt8) (ha : a.length = 32) (t : TypeId) (N : Blk w g (hrow a) t) : (convert 30 9 (.slice (some ⟨g, 0, none⟩) 32 32)).run Try.prog w = .ok (S a) w := by
  have h := run_convert_bytes_back w 30 9 5 ⟨g, 0, none⟩ 32 a Try.underlying30 Try.underlying5 Try.underlying9 (fun i hi => by
    rw [Addr.add_lit, Nat.zero_add]
    exact N.cell i _ (hrow_get a i _ (List.getElem?_eq_getElem hi)))
  rw [ha] at h
  exact h

set_option maxRecDepth 100000 in
set_option maxHeartbeats 1000000 in
theorem Node_any (a b : List UInt8) (ha : a.length = 32) (hb : b.length = 32) (w : World) :
    Calls Try.prog 18 #[.agg (hrow a), .agg (hrow b)] w fun e w' => e = .returned (.agg (hrow (Tr.node a b))) ∧ Below w.heap.size w w' := by
  have NA := ((Blk.new w (hrow a) 24).alloc (.cells (hrow b) 24)).alloc (.cells hz 24)
  have NB := (Blk.new (w.alloc (.cells (hrow a) 24)) (hrow b) 24).alloc (.cells hz 24)
  have NC := Blk.new ((w.alloc (.cells (hrow a) 24)).alloc (.cells (hrow b) 24)) hz 24
  rw [World.size_alloc] at NB
  rw [World.size_alloc, World.size_alloc] at NC
  have hB := (((Below.refl w.heap.size w).alloc (Nat.le_refl _) (.cells (hrow a) 24)).alloc (by simp) (.cells (hrow b) 24)).alloc (by simp; omega) (.cells hz 24)
  have FA := fun x : After (((w.alloc (.cells (hrow a) 24)).alloc (.cells (hrow b) 24)).alloc (.cells hz 24)) => run_hash_text x.W w.heap.size a ha _ (NA.below x.hb NA.lt)
  have FB := fun x : After (((w.alloc (.cells (hrow a) 24)).alloc (.cells (hrow b) 24)).alloc (.cells hz 24)) => run_hash_text x.W (w.heap.size + 1) b hb _ (NB.below x.hb NB.lt)
  have hz1 : ((⟨#[1]⟩ ++ (⟨a.toArray⟩ : ByteArray)) ++ (⟨b.toArray⟩ : ByteArray) : ByteArray).data.toList = 1 :: (a ++ b) := by simp
  have E1 : Hid (∀ w, Calls Try.prog 36 #[.string ((⟨#[1]⟩ ++ (⟨a.toArray⟩ : ByteArray)) ++ (⟨b.toArray⟩ : ByteArray))] w fun e w' => e = .returned (.agg (hrow (Tr.node a b))) ∧ Below w.heap.size w w') := fun w => by
    have h := Sum_any ((⟨#[1]⟩ ++ (⟨a.toArray⟩ : ByteArray)) ++ (⟨b.toArray⟩ : ByteArray)) (by rw [ByteArray.size_append, ByteArray.size_append]; show 1 + a.length + b.length ≤ _; omega) w
    rw [hz1] at h
    exact h
  have c1 := cat ⟨#[1]⟩ ⟨a.toArray⟩ (by show 1 + a.length ≤ _; omega)
  have c2 := cat (⟨#[1]⟩ ++ (⟨a.toArray⟩ : ByteArray)) ⟨b.toArray⟩ (by rw [ByteArray.size_append]; show 1 + a.length + b.length ≤ _; omega)
  have hl := Tr.node_length a b
  have HI := Lib.hid (hinfo' _ hl)
  have HO := Lib.hid (bytes_all (Tr.node a b))
  have HZ := Lib.hid (hz_size _ hl)
  have NCH := Lib.hid NC
  have FAH := Lib.hid FA
  have FBH := Lib.hid FB
  generalize hrow (Tr.node a b) = R at *
  clear hz1 hl NC NA NB FA FB
  generalize hrow a = RA at *
  generalize hrow b = RB at *
  go_enter Try.func18, Try.ntmps18
  go_wp2_with (first
    | (refine wpList_box_row rfl 24 (.tmp 0) rfl RA rfl ?_)
    | (refine wpList_box_row rfl 24 (.tmp 1) rfl RB rfl ?_)
    | (refine wpList_alloc_row rfl 24 rfl hz zeroHash ?_))
  try go_frame
  simp only [World.size_alloc]
  have FA := FAH.out
  have FB := FBH.out
  have NC := NCH.out
  clear FAH FBH NCH
  generalize ((w.alloc (.cells RA 24)).alloc (.cells RB 24)).alloc (.cells hz 24) = w1 at *
  refine wp_region_after_tail 7 (by kernel_rfl) (by kernel_rfl) (by kernel_rfl) (by kernel_rfl) ?_
  simp only [List.take_succ_cons, List.take_zero, List.drop_succ_cons, List.drop_zero]
  repeat (go_big_quiet_step (with_reducible exact After.call (E1.out _)))
  refine wpQuiet_nil ?_
  rintro w5 ⟨x5, rfl⟩
  have hb5 := x5.hb
  have hB5 := hB.trans (hb5.mono hB.size)
  have N5 := Lib.hid (NC.below hb5 NC.lt)
  clear FA FB c1 c2
  generalize x5.W = w5 at *
  go_wp2_with (refine wpList_store_row rfl 24 (.tmp 4) (.tmp 11) rfl (w.heap.size + 1 + 1) R (by rfl) (by rfl) 24 _ N5.out HI.out HZ.out HO.out ?_)
  refine bodyPost_ret (v := .agg R) ?_ rfl ⟨rfl, Below.setRow hB5 (by omega) _⟩
  exact results_cell_row rfl _ _ _ _ _ _ _ rfl (N5.out.row _) Try.underlying24 rfl HI.out

set_option maxRecDepth 100000 in
set_option maxHeartbeats 1000000 in
theorem RNode_any (a b : List UInt8) (ha : a.length = 32) (hb : b.length = 32) (w : World) :
    Calls Try.prog 19 #[.agg (hrow a), .agg (hrow b)] w fun e w' => e = .returned (.agg (hrow (Tr.node a b))) ∧ Below w.heap.size w w' := by
  have NA := ((Blk.new w (hrow a) 24).alloc (.cells (hrow b) 24)).alloc (.cells hz 24)
  have NB := (Blk.new (w.alloc (.cells (hrow a) 24)) (hrow b) 24).alloc (.cells hz 24)
  have NC := Blk.new ((w.alloc (.cells (hrow a) 24)).alloc (.cells (hrow b) 24)) hz 24
  rw [World.size_alloc] at NB
  rw [World.size_alloc, World.size_alloc] at NC
  have hB := (((Below.refl w.heap.size w).alloc (Nat.le_refl _) (.cells (hrow a) 24)).alloc (by simp) (.cells (hrow b) 24)).alloc (by simp; omega) (.cells hz 24)
  have FA := fun x : After (((w.alloc (.cells (hrow a) 24)).alloc (.cells (hrow b) 24)).alloc (.cells hz 24)) => run_hash_text x.W w.heap.size a ha _ (NA.below x.hb NA.lt)
  have FB := fun x : After (((w.alloc (.cells (hrow a) 24)).alloc (.cells (hrow b) 24)).alloc (.cells hz 24)) => run_hash_text x.W (w.heap.size + 1) b hb _ (NB.below x.hb NB.lt)
  have hz1 : ((⟨#[1]⟩ ++ (⟨a.toArray⟩ : ByteArray)) ++ (⟨b.toArray⟩ : ByteArray) : ByteArray).data.toList = 1 :: (a ++ b) := by simp
  have E1 : Hid (∀ w, Calls Try.prog 37 #[.string ((⟨#[1]⟩ ++ (⟨a.toArray⟩ : ByteArray)) ++ (⟨b.toArray⟩ : ByteArray))] w fun e w' => e = .returned (.agg (hrow (Tr.node a b))) ∧ Below w.heap.size w w') := fun w => by
    have h := RSumB_any ((⟨#[1]⟩ ++ (⟨a.toArray⟩ : ByteArray)) ++ (⟨b.toArray⟩ : ByteArray)) (by rw [ByteArray.size_append, ByteArray.size_append]; show 1 + a.length + b.length ≤ _; omega) w
    rw [hz1] at h
    exact h
  have c1 := cat ⟨#[1]⟩ ⟨a.toArray⟩ (by show 1 + a.length ≤ _; omega)
  have c2 := cat (⟨#[1]⟩ ++ (⟨a.toArray⟩ : ByteArray)) ⟨b.toArray⟩ (by rw [ByteArray.size_append]; show 1 + a.length + b.length ≤ _; omega)
  have hl := Tr.node_length a b
  have HI := Lib.hid (hinfo' _ hl)
  have HO := Lib.hid (bytes_all (Tr.node a b))
  have HZ := Lib.hid (hz_size _ hl)
  have NCH := Lib.hid NC
  have FAH := Lib.hid FA
  have FBH := Lib.hid FB
  generalize hrow (Tr.node a b) = R at *
  clear hz1 hl NC NA NB FA FB
  generalize hrow a = RA at *
  generalize hrow b = RB at *
  go_enter Try.func19, Try.ntmps19
  go_wp2_with (first
    | (refine wpList_box_row rfl 24 (.tmp 0) rfl RA rfl ?_)
    | (refine wpList_box_row rfl 24 (.tmp 1) rfl RB rfl ?_)
    | (refine wpList_alloc_row rfl 24 rfl hz zeroHash ?_))
  try go_frame
  simp only [World.size_alloc]
  have FA := FAH.out
  have FB := FBH.out
  have NC := NCH.out
  clear FAH FBH NCH
  generalize ((w.alloc (.cells RA 24)).alloc (.cells RB 24)).alloc (.cells hz 24) = w1 at *
  refine wp_region_after_tail 7 (by kernel_rfl) (by kernel_rfl) (by kernel_rfl) (by kernel_rfl) ?_
  simp only [List.take_succ_cons, List.take_zero, List.drop_succ_cons, List.drop_zero]
  repeat (go_big_quiet_step (with_reducible exact After.call (E1.out _)))
  refine wpQuiet_nil ?_
  rintro w5 ⟨x5, rfl⟩
  have hb5 := x5.hb
  have hB5 := hB.trans (hb5.mono hB.size)
  have N5 := Lib.hid (NC.below hb5 NC.lt)
  clear FA FB c1 c2
  generalize x5.W = w5 at *
  go_wp2_with (refine wpList_store_row rfl 24 (.tmp 4) (.tmp 11) rfl (w.heap.size + 1 + 1) R (by rfl) (by rfl) 24 _ N5.out HI.out HZ.out HO.out ?_)
  refine bodyPost_ret (v := .agg R) ?_ rfl ⟨rfl, Below.setRow hB5 (by omega) _⟩
  exact results_cell_row rfl _ _ _ _ _ _ _ rfl (N5.out.row _) Try.underlying24 rfl HI.out

end Go.Proofs.Ytjekdeikoebmgaa
