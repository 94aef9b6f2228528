/- Lists of strings in memory; the contracts of Root, of both sides. Conditions: sizes. -/
import Derived.Test.YtjekdeikoebmgaaTrA
namespace Go.Proofs.Ytjekdeikoebmgaa
open Go.RowKit Go.Shelf

/-- From cell o of block g on lie these strings. -/
def SAt (w : World) (g o : Nat) (l : List (List UInt8)) : Prop := ∀ (i : Nat) (s : List UInt8), l[i]? = some s → w.cell? ⟨g, o + i, none⟩ = some (S s)
theorem SAt.keep {w w' : World} {g o : Nat} {l : List (List UInt8)} (h : SAt w g o l) (hk : ∀ p v, w.cell? p = some v → w'.cell? p = some v) : SAt w' g o l := fun i s hs => hk _ _ (h i s hs)
theorem SAt.below {w w' : World} {g o : Nat} {l : List (List UInt8)} (h : SAt w g o l) (hb : Below w.heap.size w w') : SAt w' g o l := h.keep (keepCells hb)
theorem SAt.take {w : World} {g o : Nat} {l : List (List UInt8)} (h : SAt w g o l) (k : Nat) : SAt w g o (l.take k) := fun i s hs => h i s (by
  rw [List.getElem?_take] at hs
  split at hs
  · exact hs
  · cases hs)
theorem SAt.drop {w : World} {g o : Nat} {l : List (List UInt8)} (h : SAt w g o l) (k : Nat) : SAt w g (o + k) (l.drop k) := fun i s hs => by
  rw [List.getElem?_drop] at hs
  have := h (k + i) s hs
  rwa [← Nat.add_assoc] at this
/-- The slice v reads as these strings. -/
def SArg (w : World) (v : Value) (l : List (List UInt8)) : Prop := ∃ (a : Option Addr) (cap : Nat), v = .slice a l.length cap ∧ l.length ≤ cap ∧ (l ≠ [] → ∃ g o, a = some ⟨g, o, none⟩ ∧ SAt w g o l)
theorem SArg.below {w w' : World} {v : Value} {l : List (List UInt8)} (h : SArg w v l) (hb : Below w.heap.size w w') : SArg w' v l := by
  obtain ⟨a, cap, h1, h2, h3⟩ := h
  exact ⟨a, cap, h1, h2, fun hl => by obtain ⟨g, o, h4, h5⟩ := h3 hl; exact ⟨g, o, h4, h5.below hb⟩⟩
theorem SArg.of {w : World} {g o n cap : Nat} {l : List (List UInt8)} (hn : l.length = n) (hc : n ≤ cap) (h : SAt w g o l) : SArg w (.slice (some ⟨g, o, none⟩) n cap) l := ⟨_, cap, by rw [hn], by omega, fun _ => ⟨g, o, rfl, h⟩⟩
theorem SArg.nil (w : World) : SArg w (.slice none 0 0) [] := ⟨none, 0, rfl, Nat.le_refl _, fun h => absurd rfl h⟩
/-- Strings that a hash takes, not too many. -/
structure Small (l : List (List UInt8)) : Prop where
  each : ∀ s ∈ l, s.length ≤ 140737488354000
  len : l.length ≤ 4398046511000
theorem Small.take {l : List (List UInt8)} (h : Small l) (k : Nat) : Small (l.take k) := ⟨fun s hs => h.each s (List.mem_of_mem_take hs), by rw [List.length_take]; have := h.len; omega⟩
theorem Small.drop {l : List (List UInt8)} (h : Small l) (k : Nat) : Small (l.drop k) := ⟨fun s hs => h.each s (List.mem_of_mem_drop hs), by rw [List.length_drop]; have := h.len; omega⟩

set_option maxRecDepth 100000 in
set_option maxHeartbeats 1000000 in
theorem Root_any0 (l : List (List UInt8)) (v : Value) (w : World) (h2 : l.length < 2) (hS : Small l) (hA : SArg w v l) :
    Calls Try.prog 16 #[v] w fun e w' => e = .returned (.agg (hrow (Tr.root l))) ∧ Below w.heap.size w w' := by
  obtain ⟨a, cap, rfl, hc, hA⟩ := hA
  have NB := Lib.hid (Blk.new w hz 24)
  have t0 := (Below.refl w.heap.size w).alloc (Nat.le_refl _) (.cells hz 24)
  have hl := Tr.root_length l
  have HI := Lib.hid (hinfo' _ hl)
  have HO := Lib.hid (bytes_all (Tr.root l))
  have HZ := Lib.hid (hz_size _ hl)
  match l, h2 with
  | [], _ =>
    have E1 : Hid (∀ w, Calls Try.prog 36 #[.string ⟨#[]⟩] w fun e w' => e = .returned (.agg (hrow (Tr.root []))) ∧ Below w.heap.size w w') := fun w => by
      have h := Sum_any ⟨#[]⟩ (by decide) w
      rw [Tr.root_nil]
      exact h
    generalize hrow (Tr.root []) = R at *
    clear hA hc
    go_enter Try.func16, Try.ntmps16
    go_wp2_with (refine wpList_alloc_row rfl 24 rfl hz zeroHash ?_)
    refine (E1.out _).mono ?_; rintro e w1 ⟨rfl, hb1⟩
    have NB1 := Lib.hid (NB.out.below hb1 NB.out.lt)
    have t1 := t0.trans (hb1.mono t0.size)
    go_wp2_with (refine wpList_store_row rfl 24 (.tmp 2) (.tmp 8) rfl w.heap.size R rfl rfl 24 _ NB1.out HI.out HZ.out HO.out ?_)
    refine bodyPost_ret (v := .agg R) ?_ rfl ⟨rfl, Below.setRow t1 (Nat.le_refl _) _⟩
    exact results_cell_row rfl _ _ _ _ _ _ _ rfl (NB1.out.row _) Try.underlying24 rfl HI.out
  | [s], _ =>
    obtain ⟨g, o, rfl, hA2⟩ := hA (by simp)
    have c0 := hA2 0 s rfl
    rw [Nat.add_zero] at c0
    have c1 : (w.alloc (.cells hz 24)).cell? ⟨g, o, none⟩ = some (S s) := keepCells ((Below.refl w.heap.size w).alloc (Nat.le_refl _) (.cells hz 24)) _ _ c0
    have E1 : Hid (∀ w, Calls Try.prog 14 #[S s] w fun e w' => e = .returned (.agg (hrow (Tr.root [s]))) ∧ Below w.heap.size w w') := fun w => by
      rw [Tr.root_one rfl]
      exact Leaf_any s (hS.each s (by simp)) w
    generalize hrow (Tr.root [s]) = R at *
    have hc1 : 1 ≤ cap := by simpa using hc
    clear hA hA2 c0 hc
    go_enter Try.func16, Try.ntmps16
    go_wp2_with (refine wpList_alloc_row rfl 24 rfl hz zeroHash ?_)
    refine (E1.out _).mono ?_; rintro e w1 ⟨rfl, hb1⟩
    have NB1 := Lib.hid (NB.out.below hb1 NB.out.lt)
    have t1 := t0.trans (hb1.mono t0.size)
    go_wp2_with (refine wpList_store_row rfl 24 (.tmp 2) (.tmp 14) rfl w.heap.size R rfl rfl 24 _ NB1.out HI.out HZ.out HO.out ?_)
    refine bodyPost_ret (v := .agg R) ?_ rfl ⟨rfl, Below.setRow t1 (Nat.le_refl _) _⟩
    exact results_cell_row rfl _ _ _ _ _ _ _ rfl (NB1.out.row _) Try.underlying24 rfl HI.out

set_option maxRecDepth 100000 in
set_option maxHeartbeats 1000000 in
theorem Root_any (N : Nat) : ∀ (l : List (List UInt8)) (v : Value) (w : World), l.length ≤ N → Small l → SArg w v l →
    Calls Try.prog 16 #[v] w fun e w' => e = .returned (.agg (hrow (Tr.root l))) ∧ Below w.heap.size w w' := by
  induction N with
  | zero =>
    intro l v w hN hS hA
    exact Root_any0 l v w (by omega) hS hA
  | succ N ih =>
    intro l v w hN hS hA
    by_cases h2 : l.length < 2
    · exact Root_any0 l v w h2 hS hA
    obtain ⟨a, cap, rfl, hc, hA⟩ := hA
    obtain ⟨g, o, rfl, hA2⟩ := hA (by rintro rfl; simp at h2)
    have hk := Tr.half_lt (n := l.length) (by omega)
    have hk0 := Tr.half_pos (n := l.length) (by omega)
    have hsl := hS.len
    have HR := Tr.root_two (l := l) (by omega)
    have hl1 : (l.take (Tr.half l.length)).length = Tr.half l.length := by rw [List.length_take]; omega
    have hl2 : (l.drop (Tr.half l.length)).length = l.length - Tr.half l.length := by rw [List.length_drop]
    have A1 := Lib.hid (fun w => half_any l.length (by omega) (by omega) w)
    have E1 : Hid (∀ w' : World, SAt w' g o l → Calls Try.prog 16 #[.slice (some ⟨g, o, none⟩) (Tr.half l.length) cap] w' fun e w'' => e = .returned (.agg (hrow (Tr.root (l.take (Tr.half l.length))))) ∧ Below w'.heap.size w' w'') := fun w' h => ih _ _ w' (by omega) (hS.take _) (SArg.of hl1 (by omega) (h.take _))
    have E2 : Hid (∀ w' : World, SAt w' g o l → Calls Try.prog 16 #[.slice (some ⟨g, o + Tr.half l.length, none⟩) (l.length - Tr.half l.length) (cap - Tr.half l.length)] w' fun e w'' => e = .returned (.agg (hrow (Tr.root (l.drop (Tr.half l.length))))) ∧ Below w'.heap.size w' w'') := fun w' h => ih _ _ w' (by omega) (hS.drop _) (SArg.of hl2 (by omega) (h.drop _))
    have E3 := Lib.hid (fun w => Node_any _ _ (Tr.root_length (l.take (Tr.half l.length))) (Tr.root_length (l.drop (Tr.half l.length))) w)
    rw [← HR] at E3
    have hl := Tr.root_length l
    have HI := Lib.hid (hinfo' _ hl)
    have HO := Lib.hid (bytes_all (Tr.root l))
    have HZ := Lib.hid (hz_size _ hl)
    generalize hrow (Tr.root l) = R at *
    generalize hrow (Tr.root (l.take (Tr.half l.length))) = R1 at *
    generalize hrow (Tr.root (l.drop (Tr.half l.length))) = R2 at *
    have HAA := Lib.hid hA2
    clear hA hA2
    have e0 : ((l.length : Int) == 0) = false := by rw [beq_eq_false_iff_ne]; omega
    have e1 : ((l.length : Int) == 1) = false := by rw [beq_eq_false_iff_ne]; omega
    obtain ⟨n, hn⟩ : ∃ n, l.length = n := ⟨_, rfl⟩
    obtain ⟨k, hkk⟩ : ∃ k, Tr.half l.length = k := ⟨_, rfl⟩
    rw [hkk] at A1 E1 E2 hk hk0
    rw [hn] at A1 E2 hk hc hsl e0 e1
    rw [hn]
    clear HR hl1 hl2 hl hN h2 ih hS hn hkk
    have NB := Lib.hid (Blk.new w hz 24)
    have t0 := (Below.refl w.heap.size w).alloc (Nat.le_refl _) (.cells hz 24)
    have HA1 := Lib.hid (HAA.out.below (((Below.refl w.heap.size w).alloc (Nat.le_refl _) (.cells hz 24))))
    go_enter Try.func16, Try.ntmps16
    go_wp2_with (refine wpList_alloc_row rfl 24 rfl hz zeroHash ?_)
    refine (A1.out _).mono ?_; rintro e w1 ⟨rfl, rfl⟩
    have F1 := Lib.hid (fun x : After (w.alloc (.cells hz 24)) => E1.out x.W (HA1.out.below x.hb))
    have F2 := Lib.hid (fun x : After (w.alloc (.cells hz 24)) => E2.out x.W (HA1.out.below x.hb))
    generalize w.alloc (.cells hz 24) = w1 at *
    have k1 : (k : Int) ≤ (n : Int) := by omega
    have k2 : (k : Int) ≤ (cap : Int) := by omega
    have k3 : k ≤ n := by omega
    have k4 : k ≤ cap := by omega
    have k5 : (n : Int) ≤ (cap : Int) := by omega
    go_wp2_with fail
    refine wp_region_after_tail 9 (by kernel_rfl) (by kernel_rfl) (by kernel_rfl) (by kernel_rfl) ?_
    simp only [List.take_succ_cons, List.take_zero, List.drop_succ_cons, List.drop_zero]
    repeat (go_big_quiet_step (first | (with_reducible exact After.call (F1.out _)) | (with_reducible exact After.call (F2.out _)) | (with_reducible exact After.call (E3.out _))))
    refine wpQuiet_nil ?_
    rintro w5 ⟨x5, rfl⟩
    have hb5 := x5.hb
    have hB5 := t0.trans (hb5.mono t0.size)
    have N5 := Lib.hid (NB.out.below hb5 NB.out.lt)
    clear F1 F2
    generalize x5.W = w5 at *
    go_wp2_with (refine wpList_store_row rfl 24 (.tmp 2) (.tmp 26) rfl w.heap.size R (by rfl) (by rfl) 24 _ N5.out HI.out HZ.out HO.out ?_)
    refine bodyPost_ret (v := .agg R) ?_ rfl ⟨rfl, Below.setRow hB5 (Nat.le_refl _) _⟩
    exact results_cell_row rfl _ _ _ _ _ _ _ rfl (N5.out.row _) Try.underlying24 rfl HI.out

set_option maxRecDepth 100000 in
set_option maxHeartbeats 1000000 in
theorem RRoot_any0 (l : List (List UInt8)) (v : Value) (w : World) (h2 : l.length < 2) (hS : Small l) (hA : SArg w v l) :
    Calls Try.prog 17 #[v] w fun e w' => e = .returned (.agg (hrow (Tr.root l))) ∧ Below w.heap.size w w' := by
  obtain ⟨a, cap, rfl, hc, hA⟩ := hA
  have NB := Lib.hid (Blk.new w hz 24)
  have t0 := (Below.refl w.heap.size w).alloc (Nat.le_refl _) (.cells hz 24)
  have hl := Tr.root_length l
  have HI := Lib.hid (hinfo' _ hl)
  have HO := Lib.hid (bytes_all (Tr.root l))
  have HZ := Lib.hid (hz_size _ hl)
  match l, h2 with
  | [], _ =>
    have E1 : Hid (∀ w, Calls Try.prog 37 #[.string ⟨#[]⟩] w fun e w' => e = .returned (.agg (hrow (Tr.root []))) ∧ Below w.heap.size w w') := fun w => by
      have h := RSumB_any ⟨#[]⟩ (by decide) w
      rw [Tr.root_nil]
      exact h
    generalize hrow (Tr.root []) = R at *
    clear hA hc
    go_enter Try.func17, Try.ntmps17
    go_wp2_with (refine wpList_alloc_row rfl 24 rfl hz zeroHash ?_)
    refine (E1.out _).mono ?_; rintro e w1 ⟨rfl, hb1⟩
    have NB1 := Lib.hid (NB.out.below hb1 NB.out.lt)
    have t1 := t0.trans (hb1.mono t0.size)
    go_wp2_with (refine wpList_store_row rfl 24 (.tmp 2) (.tmp 7) rfl w.heap.size R rfl rfl 24 _ NB1.out HI.out HZ.out HO.out ?_)
    refine bodyPost_ret (v := .agg R) ?_ rfl ⟨rfl, Below.setRow t1 (Nat.le_refl _) _⟩
    exact results_cell_row rfl _ _ _ _ _ _ _ rfl (NB1.out.row _) Try.underlying24 rfl HI.out
  | [s], _ =>
    obtain ⟨g, o, rfl, hA2⟩ := hA (by simp)
    have c0 := hA2 0 s rfl
    rw [Nat.add_zero] at c0
    have c1 : (w.alloc (.cells hz 24)).cell? ⟨g, o, none⟩ = some (S s) := keepCells ((Below.refl w.heap.size w).alloc (Nat.le_refl _) (.cells hz 24)) _ _ c0
    have E1 : Hid (∀ w, Calls Try.prog 15 #[S s] w fun e w' => e = .returned (.agg (hrow (Tr.root [s]))) ∧ Below w.heap.size w w') := fun w => by
      rw [Tr.root_one rfl]
      exact RLeaf_any s (hS.each s (by simp)) w
    generalize hrow (Tr.root [s]) = R at *
    have hc1 : 1 ≤ cap := by simpa using hc
    clear hA hA2 c0 hc
    go_enter Try.func17, Try.ntmps17
    go_wp2_with (refine wpList_alloc_row rfl 24 rfl hz zeroHash ?_)
    refine (E1.out _).mono ?_; rintro e w1 ⟨rfl, hb1⟩
    have NB1 := Lib.hid (NB.out.below hb1 NB.out.lt)
    have t1 := t0.trans (hb1.mono t0.size)
    go_wp2_with (refine wpList_store_row rfl 24 (.tmp 2) (.tmp 14) rfl w.heap.size R rfl rfl 24 _ NB1.out HI.out HZ.out HO.out ?_)
    refine bodyPost_ret (v := .agg R) ?_ rfl ⟨rfl, Below.setRow t1 (Nat.le_refl _) _⟩
    exact results_cell_row rfl _ _ _ _ _ _ _ rfl (NB1.out.row _) Try.underlying24 rfl HI.out

set_option maxRecDepth 100000 in
set_option maxHeartbeats 1000000 in
theorem RRoot_any (N : Nat) : ∀ (l : List (List UInt8)) (v : Value) (w : World), l.length ≤ N → Small l → SArg w v l →
    Calls Try.prog 17 #[v] w fun e w' => e = .returned (.agg (hrow (Tr.root l))) ∧ Below w.heap.size w w' := by
  induction N with
  | zero =>
    intro l v w hN hS hA
    exact RRoot_any0 l v w (by omega) hS hA
  | succ N ih =>
    intro l v w hN hS hA
    by_cases h2 : l.length < 2
    · exact RRoot_any0 l v w h2 hS hA
    obtain ⟨a, cap, rfl, hc, hA⟩ := hA
    obtain ⟨g, o, rfl, hA2⟩ := hA (by rintro rfl; simp at h2)
    have hk := Tr.half_lt (n := l.length) (by omega)
    have hk0 := Tr.half_pos (n := l.length) (by omega)
    have hsl := hS.len
    have HR := Tr.root_two (l := l) (by omega)
    have hl1 : (l.take (Tr.half l.length)).length = Tr.half l.length := by rw [List.length_take]; omega
    have hl2 : (l.drop (Tr.half l.length)).length = l.length - Tr.half l.length := by rw [List.length_drop]
    have A1 := Lib.hid (fun w => RHalf_any l.length (by omega) (by omega) w)
    have E1 : Hid (∀ w' : World, SAt w' g o l → Calls Try.prog 17 #[.slice (some ⟨g, o, none⟩) (Tr.half l.length) cap] w' fun e w'' => e = .returned (.agg (hrow (Tr.root (l.take (Tr.half l.length))))) ∧ Below w'.heap.size w' w'') := fun w' h => ih _ _ w' (by omega) (hS.take _) (SArg.of hl1 (by omega) (h.take _))
    have E2 : Hid (∀ w' : World, SAt w' g o l → Calls Try.prog 17 #[.slice (some ⟨g, o + Tr.half l.length, none⟩) (l.length - Tr.half l.length) (cap - Tr.half l.length)] w' fun e w'' => e = .returned (.agg (hrow (Tr.root (l.drop (Tr.half l.length))))) ∧ Below w'.heap.size w' w'') := fun w' h => ih _ _ w' (by omega) (hS.drop _) (SArg.of hl2 (by omega) (h.drop _))
    have E3 := Lib.hid (fun w => RNode_any _ _ (Tr.root_length (l.take (Tr.half l.length))) (Tr.root_length (l.drop (Tr.half l.length))) w)
    rw [← HR] at E3
    have hl := Tr.root_length l
    have HI := Lib.hid (hinfo' _ hl)
    have HO := Lib.hid (bytes_all (Tr.root l))
    have HZ := Lib.hid (hz_size _ hl)
    generalize hrow (Tr.root l) = R at *
    generalize hrow (Tr.root (l.take (Tr.half l.length))) = R1 at *
    generalize hrow (Tr.root (l.drop (Tr.half l.length))) = R2 at *
    have HAA := Lib.hid hA2
    clear hA hA2
    have e0 : ((l.length : Int) == 0) = false := by rw [beq_eq_false_iff_ne]; omega
    have e1 : ((l.length : Int) == 1) = false := by rw [beq_eq_false_iff_ne]; omega
    obtain ⟨n, hn⟩ : ∃ n, l.length = n := ⟨_, rfl⟩
    obtain ⟨k, hkk⟩ : ∃ k, Tr.half l.length = k := ⟨_, rfl⟩
    rw [hkk] at A1 E1 E2 hk hk0
    rw [hn] at A1 E2 hk hc hsl e0 e1
    rw [hn]
    clear HR hl1 hl2 hl hN h2 ih hS hn hkk
    have NB := Lib.hid (Blk.new w hz 24)
    have t0 := (Below.refl w.heap.size w).alloc (Nat.le_refl _) (.cells hz 24)
    have HA1 := Lib.hid (HAA.out.below (((Below.refl w.heap.size w).alloc (Nat.le_refl _) (.cells hz 24))))
    go_enter Try.func17, Try.ntmps17
    go_wp2_with (refine wpList_alloc_row rfl 24 rfl hz zeroHash ?_)
    refine (A1.out _).mono ?_; rintro e w1 ⟨rfl, rfl⟩
    have F1 := Lib.hid (fun x : After (w.alloc (.cells hz 24)) => E1.out x.W (HA1.out.below x.hb))
    have F2 := Lib.hid (fun x : After (w.alloc (.cells hz 24)) => E2.out x.W (HA1.out.below x.hb))
    generalize w.alloc (.cells hz 24) = w1 at *
    have k1 : (k : Int) ≤ (n : Int) := by omega
    have k2 : (k : Int) ≤ (cap : Int) := by omega
    have k3 : k ≤ n := by omega
    have k4 : k ≤ cap := by omega
    have k5 : (n : Int) ≤ (cap : Int) := by omega
    go_wp2_with fail
    refine wp_region_after_tail 9 (by kernel_rfl) (by kernel_rfl) (by kernel_rfl) (by kernel_rfl) ?_
    simp only [List.take_succ_cons, List.take_zero, List.drop_succ_cons, List.drop_zero]
    repeat (go_big_quiet_step (first | (with_reducible exact After.call (F1.out _)) | (with_reducible exact After.call (F2.out _)) | (with_reducible exact After.call (E3.out _))))
    refine wpQuiet_nil ?_
    rintro w5 ⟨x5, rfl⟩
    have hb5 := x5.hb
    have hB5 := t0.trans (hb5.mono t0.size)
    have N5 := Lib.hid (NB.out.below hb5 NB.out.lt)
    clear F1 F2
    generalize x5.W = w5 at *
    go_wp2_with (refine wpList_store_row rfl 24 (.tmp 2) (.tmp 26) rfl w.heap.size R (by rfl) (by rfl) 24 _ N5.out HI.out HZ.out HO.out ?_)
    refine bodyPost_ret (v := .agg R) ?_ rfl ⟨rfl, Below.setRow hB5 (Nat.le_refl _) _⟩
    exact results_cell_row rfl _ _ _ _ _ _ _ rfl (N5.out.row _) Try.underlying24 rfl HI.out

end Go.Proofs.Ytjekdeikoebmgaa
