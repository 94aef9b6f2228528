/- The contracts of the reference's depth, up and CheckPath. Conditions: sizes. -/
import Derived.Test.YtjekdeikoebmgaaTrP
import Derived.Test.YtjekdeikoebmgaaKit
import Derived.IntWalk
namespace Go.Proofs.Ytjekdeikoebmgaa
open Go.RowKit Go.Shelf Tr

set_option maxRecDepth 100000 in
set_option maxHeartbeats 1000000 in
theorem depth_any (n : Nat) : ∀ (i : Nat) (w : World), i < n → n ≤ 9223372036854775807 → Calls Try.prog 42 #[.int .i64 i, .int .i64 n] w fun e w' => e = .returned (.int .i64 ((way i n).length : Nat)) ∧ w = w' := by
  induction n using Nat.strongRecOn with
  | _ n ih =>
    intro i w hi hn
    by_cases h1 : n ≤ 1
    · rw [way_one h1]
      have q : (n : Int) ≤ 1 := by omega
      clear ih
      go_enter Try.func42, Try.ntmps42
      go_wp2_with fail
      go_ret
      exact ⟨rfl, rfl⟩
    · have hk0 := half_pos (n := n) (by omega)
      have hk1 := half_lt (n := n) (by omega)
      have A1 := Lib.hid (fun w => RHalf_any n (by omega) hn w)
      have q : ¬ ((n : Int) ≤ 1) := by omega
      by_cases hik : i < half n
      · have hw := way_left (n := n) (by omega) hik
        have hl := way_le 63 i (half n) (by omega)
        have D1 := Lib.hid (ih (half n) hk1 i w hik (by omega))
        have HL : Hid ((way i n).length = 1 + (way i (half n)).length) := by show _ = _; rw [hw, List.length_append]; simp; omega
        have q2 : (i : Int) < (half n : Int) := by omega
        clear ih hw
        generalize half n = k at *
        generalize (way i k).length = d at *
        generalize (way i n).length = r at *
        go_enter Try.func42, Try.ntmps42
        go_wp2_with fail
        refine (A1.out _).mono ?_; rintro e w1 ⟨rfl, rfl⟩
        go_wp2_with fail
        refine D1.out.mono ?_; rintro e w1 ⟨rfl, rfl⟩
        go_wp2_with fail
        go_ret
        exact ⟨congrArg (fun z => Ending.returned (.int .i64 z)) (by have := HL.out; omega), rfl⟩
      · have hw := way_right (n := n) (by omega) hik
        have hl := way_le 63 (i - half n) (n - half n) (by omega)
        have e1 : ((i - half n : Nat) : Int) = (i : Int) - (half n : Int) := by omega
        have e2 : ((n - half n : Nat) : Int) = (n : Int) - (half n : Int) := by omega
        have D0 := ih (n - half n) (by omega) (i - half n) w (by omega) (by omega)
        rw [e1, e2] at D0
        have D1 := Lib.hid D0
        have HL : Hid ((way i n).length = 1 + (way (i - half n) (n - half n)).length) := by show _ = _; rw [hw, List.length_append]; simp; omega
        have q2 : ¬ ((i : Int) < (half n : Int)) := by omega
        clear ih hw e1 e2 D0
        generalize (way (i - half n) (n - half n)).length = d at *
        generalize half n = k at *
        generalize (way i n).length = r at *
        go_enter Try.func42, Try.ntmps42
        go_wp2_with fail
        refine (A1.out _).mono ?_; rintro e w1 ⟨rfl, rfl⟩
        go_wp2_with fail
        refine D1.out.mono ?_; rintro e w1 ⟨rfl, rfl⟩
        go_wp2_with fail
        go_ret
        exact ⟨congrArg (fun z => Ending.returned (.int .i64 z)) (by have := HL.out; omega), rfl⟩

theorem slice_firstH (g o n cap k : Nat) (hk : k ≤ n) (hc : n ≤ cap) (w : World) : (Instr.sliceAt 32 (.slice (some ⟨g, o, none⟩) n cap) none (some (.int .i64 k)) none).run Try.prog w = .ok (.slice (some ⟨g, o, none⟩) k cap) w := by
  have e0 : (k : Int) ≤ (cap : Int) := by omega
  go_simp

set_option maxRecDepth 100000 in
set_option maxHeartbeats 1000000 in
theorem up_any (n : Nat) : ∀ (i : Nat) (x : List UInt8) (p : List (List UInt8)) (v : Value) (w : World), i < n → n ≤ 9223372036854775807 → x.length = 32 → (way i n).length = p.length → All32 p → HArg w v p →
    Calls Try.prog 43 #[.agg (hrow x), .int .i64 i, .int .i64 n, v] w fun e w' => e = .returned (.agg (hrow (up x (way i n) p))) ∧ Below w.heap.size w w' := by
  induction n using Nat.strongRecOn with
  | _ n ih =>
    intro i x p v w hi hn hx hlen hal hP
    obtain ⟨pa, cap, rfl, hc, hP⟩ := hP
    have X0 := (Blk.new w (hrow x) 24).alloc (.cells hz 24)
    have Z0 := Blk.new (w.alloc (.cells (hrow x) 24)) hz 24
    rw [World.size_alloc] at Z0
    have hb0 := ((Below.refl w.heap.size w).alloc (Nat.le_refl _) (.cells (hrow x) 24)).alloc (by simp) (.cells hz 24)
    have hsz0 : ((w.alloc (.cells (hrow x) 24)).alloc (.cells hz 24)).heap.size = w.heap.size + 2 := by simp
    obtain ⟨s, hs⟩ : ∃ s, w.heap.size = s := ⟨_, rfl⟩
    have hsw : w.heap.size ≤ s := by omega
    rw [hs] at X0 Z0 hsz0
    by_cases h1 : n ≤ 1
    · have hw := way_one h1 i
      rw [hw] at hlen
      obtain rfl : p = [] := List.length_eq_zero_iff.1 hlen.symm
      rw [hw, show up x [] [] = x from rfl]
      have q : (n : Int) ≤ 1 := by omega
      have H0 := Lib.hid X0
      have HZ := Lib.hid Z0
      have HL0 := Lib.hid hz_len
      have R0 := Lib.hid (Z0.row (hrow x))
      have HB := Lib.hid (Below.setRow hb0 (show w.heap.size ≤ s + 1 by omega) (hrow x))
      have HI := Lib.hid (hinfo' x hx)
      clear ih hw hlen hal hP X0 Z0 hb0 hsz0
      go_enter Try.func43, Try.ntmps43
      go_upto_region 1 with (first
        | (refine wpList_box_row rfl 24 (.tmp 0) rfl (hrow x) rfl ?_; go_frame)
        | (refine wpList_alloc_hash rfl rfl ?_; go_frame; try simp only [World.size_alloc]))
      rw [hs]
      generalize (w.alloc (.cells (hrow x) 24)).alloc (.cells hz 24) = w1 at *
      clear hs
      go_wp2_with (first
        | (refine wpList_load_hash (by kernel_rfl) (.tmp 4) rfl s rfl x hx H0.out ?_; go_frame)
        | (refine wpList_store_hash rfl (.tmp 8) (.tmp 14) rfl (s + 1) x hx rfl rfl hz HZ.out HL0.out ?_; go_frame))
      refine bodyPost_ret (v := .agg (hrow x)) (results_cell_row rfl _ _ _ _ _ _ _ rfl R0.out Try.underlying24 rfl HI.out) rfl ?_
      exact ⟨rfl, HB.out⟩
    · have hk0 := half_pos (n := n) (by omega)
      have hk1 := half_lt (n := n) (by omega)
      have hpos : 1 ≤ (way i n).length := by
        by_cases hik : i < half n
        · rw [way_left (by omega) hik]; simp
        · rw [way_right (by omega) hik]; simp
      obtain ⟨p1, h, rfl, hm⟩ := snoc_of_length (l := p) (n := p.length - 1) (by omega)
      have h32 : h.length = 32 := hal.last
      have ha1 : All32 p1 := hal.left
      obtain ⟨g, o, rfl, hAt⟩ := hP (by simp)
      obtain ⟨L, hL⟩ : ∃ L, (p1 ++ [h]).length = L := ⟨_, rfl⟩
      have hL2 : L = p1.length + 1 := by rw [← hL]; simp
      rw [hL] at hc hlen
      rw [hL]
      clear hP hal hm
      obtain ⟨m, hm⟩ : ∃ m, p1.length = m := ⟨_, rfl⟩
      rw [hm] at hL2
      have hA1 : HAt w g o p1 := by
        have := hAt.take m
        rwa [show (p1 ++ [h]).take m = p1 by rw [List.take_append_of_le_length (by omega), List.take_of_length_le (by omega)]] at this
      have hE : w.rangeAt g (o + m * 32) (h.map Y) := by
        have := hAt.elem (ha1.snoc h32) m h (by rw [List.getElem?_append_right (by omega), hm]; simp)
        rwa [Nat.mul_comm] at this
      have A1 := Lib.hid (fun w => RHalf_any n (by omega) hn w)
      have q : ¬ ((n : Int) ≤ 1) := by omega
      have hmb : m ≤ 63 := by
        have := way_le 63 i n (by omega)
        omega
      have UL : i < half n → Hid ((way i (half n)).length = p1.length ∧ up x (way i n) (p1 ++ [h]) = node (up x (way i (half n)) p1) h) := fun hik => by
        have hw := way_left (n := n) (by omega) hik
        have h2 : (way i (half n)).length = p1.length := by rw [hw, List.length_append] at hlen; simp at hlen; omega
        refine ⟨h2, ?_⟩
        rw [hw, up_snoc _ _ _ _ _ h2]; rfl
      have UR : ¬ i < half n → Hid ((way (i - half n) (n - half n)).length = p1.length ∧ up x (way i n) (p1 ++ [h]) = node h (up x (way (i - half n) (n - half n)) p1)) := fun hik => by
        have hw := way_right (n := n) (by omega) hik
        have h2 : (way (i - half n) (n - half n)).length = p1.length := by rw [hw, List.length_append] at hlen; simp at hlen; omega
        refine ⟨h2, ?_⟩
        rw [hw, up_snoc _ _ _ _ _ h2]; rfl
      have e1 : (L : Int) - 1 = (m : Int) := by omega
      have b0 : (0 : Int) ≤ (m : Int) := by omega
      have b1 : (m : Int) < (L : Int) := by omega
      have hsl := slice_firstH g o L cap m (by omega) hc
      have hh0 := Blk.new ((w.alloc (.cells (hrow x) 24)).alloc (.cells hz 24)) (hrow h) 24
      have X2 := X0.alloc (.cells (hrow h) 24)
      have Z2 := Z0.alloc (.cells (hrow h) 24)
      have hB2 := hb0.alloc hb0.size (.cells (hrow h) 24)
      have HE1 := Lib.hid (fun w' (hb : Below w.heap.size w w') => (fun j v hv => keepCells hb _ _ (hE j v hv) : w'.rangeAt g (o + m * 32) (h.map Y)))
      have HA1 := Lib.hid hA1
      have HHZ := Lib.hid (fun w' (h : w' = ((w.alloc (.cells (hrow x) 24)).alloc (.cells hz 24)).alloc (.cells hz 24)) => (h ▸ Blk.new ((w.alloc (.cells (hrow x) 24)).alloc (.cells hz 24)) hz 24 : Blk w' ((w.alloc (.cells (hrow x) 24)).alloc (.cells hz 24)).heap.size hz 24))
      have HL0 := Lib.hid hz_len
      have HEw := Lib.hid (HE1.out _ hb0)
      obtain ⟨k, hk⟩ : ∃ k, half n = k := ⟨_, rfl⟩
      rw [hk] at hk0 hk1 A1 UL UR
      obtain ⟨res, hres0⟩ : ∃ res, up x (way i n) (p1 ++ [h]) = res := ⟨_, rfl⟩
      rw [hres0] at UL UR ⊢
      clear hres0
      have HM := Lib.hid hm
      clear hE hA1 hAt hL hL2 hlen hpos X0 Z0 hk hm
      have HX2 := Lib.hid X2
      have HZ2 := Lib.hid Z2
      have HH0 := Lib.hid hh0
      have HB2 := Lib.hid hB2
      clear X2 Z2 hh0 hB2
      go_enter Try.func43, Try.ntmps43
      go_upto_region 1 with (first
        | (refine wpList_box_row rfl 24 (.tmp 0) rfl (hrow x) rfl ?_; go_frame)
        | (refine wpList_alloc_hash rfl rfl ?_; go_frame; try simp only [World.size_alloc]))
      rw [hs]
      generalize (w.alloc (.cells (hrow x) 24)).alloc (.cells hz 24) = w1 at *
      clear hs
      go_wp2_with fail
      refine (A1.out _).mono ?_; rintro e w1' ⟨rfl, rfl⟩
      go_upto_region 6 with (first
        | (refine wpList_load_hashAt (by kernel_rfl) (.tmp 21) rfl g (o + m * 32) rfl h h32 HEw.out ?_; go_frame)
        | (refine wpList_alloc_hash rfl rfl ?_; go_frame; try simp only [World.size_alloc])
        | (refine wpList_store_hash rfl (.tmp 10) (.tmp 22) rfl w1.heap.size h h32 rfl rfl hz (HHZ.out _ rfl) HL0.out ?_; go_frame; rw [Blk.fresh]))
      obtain ⟨c, hc2⟩ : ∃ c, w1.heap.size = c := ⟨_, rfl⟩
      rw [hc2] at HH0
      rw [hc2]
      have hB2 := HB2.out
      have Z2 := HZ2.out
      have X2 := HX2.out
      have hh0 := HH0.out
      clear HB2 HZ2 HX2 HH0 hc2 HEw HHZ hsz0 hsl HL0
      generalize w1.alloc (.cells (hrow h) 24) = w2 at *
      have fx := After.hash X2 hx
      have fh := After.hash hh0 h32
      by_cases hik : i < k
      · obtain ⟨u1, u2⟩ := (UL hik).out
        have hu := up_length (way i k) p1 x hx
        have U1 := Lib.hid (fun y : After w2 => HM.out ▸ ih k hk1 i x p1 (.slice (some ⟨g, o, none⟩) p1.length cap) y.W hik (by omega) hx u1 ha1 (HArg.of rfl (by have := HM.out; omega) ((HA1.out.below hB2).below y.hb)))
        clear u1 UL UR ih
        obtain ⟨u, huu⟩ : ∃ u, up x (way i k) p1 = u := ⟨_, rfl⟩
        rw [huu] at hu U1 u2
        clear huu
        have hres : res.length = 32 := by rw [u2]; exact node_length _ _
        have N1 := Lib.hid (fun w => RNode_any u h hu h32 w)
        rw [← u2] at N1
        have HI := Lib.hid (hinfo' _ hres)
        clear u2
        have q2 : (i : Int) < (k : Int) := by omega
        clear X2 hh0
        go_upto_region 7 with (fail)
        refine wp_region_after_tail2 7 (by kernel_rfl) (by kernel_rfl) (by kernel_rfl) (by kernel_rfl) ?_
        simp only [List.take_succ_cons, List.take_zero, List.drop_succ_cons, List.drop_zero]
        repeat (first
          | (refine quiet_load_at 24 (.tmp 4) (by rfl) ⟨s, 0, none⟩ (by rfl) (hrow x) fx (by kernel_rfl) ?_; go_frame)
          | (refine quiet_load_at 24 (.tmp 10) (by rfl) ⟨c, 0, none⟩ (by rfl) (hrow h) fh (by kernel_rfl) ?_; go_frame)
          | (go_big_quiet_step (first | (with_reducible exact After.call (U1.out _)) | (with_reducible exact After.call (N1.out _)))))
        refine wpQuiet_nil ?_
        rintro w5 ⟨x5, rfl⟩
        have hb5 := x5.hb
        have Z5 := Z2.below hb5 Z2.lt
        have H5 := Lib.hid Z5
        have R5 := Lib.hid (Z5.row (hrow res))
        have B5 := Lib.hid (Below.setRow (hB2.trans (hb5.mono hB2.size)) (show w.heap.size ≤ s + 1 by omega) (hrow res))
        have HL0 := Lib.hid hz_len
        clear fx fh U1 N1 Z5 Z2 hB2
        generalize x5.W = w5 at *
        go_wp2_with (refine wpList_store_hash rfl (.tmp 8) (.tmp 37) rfl (s + 1) res hres (by rfl) (by rfl) hz H5.out HL0.out ?_; go_frame)
        refine bodyPost_ret (v := .agg (hrow res)) (results_cell_row rfl _ _ _ _ _ _ _ rfl R5.out Try.underlying24 rfl HI.out) rfl ?_
        exact ⟨rfl, B5.out⟩
      · obtain ⟨u1, u2⟩ := (UR hik).out
        have hu := up_length (way (i - k) (n - k)) p1 x hx
        have U1 := Lib.hid (fun y : After w2 => HM.out ▸ ih (n - k) (by omega) (i - k) x p1 (.slice (some ⟨g, o, none⟩) p1.length cap) y.W (by omega) (by omega) hx u1 ha1 (HArg.of rfl (by have := HM.out; omega) ((HA1.out.below hB2).below y.hb)))
        clear u1 UL UR ih
        obtain ⟨u, huu⟩ : ∃ u, up x (way (i - k) (n - k)) p1 = u := ⟨_, rfl⟩
        rw [huu] at hu U1 u2
        clear huu
        have hres : res.length = 32 := by rw [u2]; exact node_length _ _
        have N1 := Lib.hid (fun w => RNode_any h u h32 hu w)
        rw [← u2] at N1
        have HI := Lib.hid (hinfo' _ hres)
        clear u2
        have q2 : ¬ ((i : Int) < (k : Int)) := by omega
        have e2 : IntKind.i64.wrap ((i : Int) - (k : Int)) = ((i - k : Nat) : Int) := by rw [IntWalk.i64_in _ (by omega)]; omega
        have e3 : IntKind.i64.wrap ((n : Int) - (k : Int)) = ((n - k : Nat) : Int) := by rw [IntWalk.i64_in _ (by omega)]; omega
        clear X2 hh0
        go_upto_region 8 with (fail)
        refine wp_region_after_tail2 11 (by kernel_rfl) (by kernel_rfl) (by kernel_rfl) (by kernel_rfl) ?_
        simp only [List.take_succ_cons, List.take_zero, List.drop_succ_cons, List.drop_zero]
        repeat (first
          | (refine quiet_load_at 24 (.tmp 4) (by rfl) ⟨s, 0, none⟩ (by rfl) (hrow x) fx (by kernel_rfl) ?_; go_frame)
          | (refine quiet_load_at 24 (.tmp 10) (by rfl) ⟨c, 0, none⟩ (by rfl) (hrow h) fh (by kernel_rfl) ?_; go_frame)
          | (go_big_quiet_step (first | (with_reducible exact After.call (U1.out _)) | (with_reducible exact After.call (N1.out _)))))
        refine wpQuiet_nil ?_
        rintro w5 ⟨x5, rfl⟩
        have hb5 := x5.hb
        have Z5 := Z2.below hb5 Z2.lt
        have H5 := Lib.hid Z5
        have R5 := Lib.hid (Z5.row (hrow res))
        have B5 := Lib.hid (Below.setRow (hB2.trans (hb5.mono hB2.size)) (show w.heap.size ≤ s + 1 by omega) (hrow res))
        have HL0 := Lib.hid hz_len
        clear fx fh U1 N1 Z5 Z2 hB2
        generalize x5.W = w5 at *
        go_wp2_with (refine wpList_store_hash rfl (.tmp 8) (.tmp 48) rfl (s + 1) res hres (by rfl) (by rfl) hz H5.out HL0.out ?_; go_frame)
        refine bodyPost_ret (v := .agg (hrow res)) (results_cell_row rfl _ _ _ _ _ _ _ rfl R5.out Try.underlying24 rfl HI.out) rfl ?_
        exact ⟨rfl, B5.out⟩

set_option maxRecDepth 100000 in
set_option maxHeartbeats 1000000 in
theorem RCheckPath_q (size n : Int) (rt s : List UInt8) (p : List (List UInt8)) (v : Value) (w : World) (hr : rt.length = 32) (hs : s.length ≤ 140737488354000) (ha : All32 p) (hsz : size ≤ 9223372036854775807) (hP : HArg w v p) :
    Calls Try.prog 27 #[.agg (hdrow size rt), .int .i64 n, S s, v] w fun e w' => e = .returned (.bool (checkP size rt n s p)) ∧ Below w.heap.size w w' := by
  have hB := (Below.refl w.heap.size w).alloc (Nat.le_refl _) (.cells (hdrow size rt) 38)
  have N0 := Blk.new w (hdrow size rt) 38
  have c0 := N0.size_
  have hRt := Blk.root N0
  have hP1 := hP.below hB
  have hxx := hP
  obtain ⟨pa, cap, rfl, hc, _⟩ := hP
  obtain ⟨R, hR⟩ : ∃ R, hdrow size rt = R := ⟨_, rfl⟩
  rw [hR] at N0 c0 hRt hB hP1 ⊢
  obtain ⟨res, hres⟩ : ∃ res, checkP size rt n s p = res := ⟨_, rfl⟩
  rw [hres]
  have HRes := Lib.hid hres
  clear hR hres N0 hxx
  have HP1 := Lib.hid hP1
  have HRt := Lib.hid hRt
  clear hP1 hRt
  by_cases h : n < 0 ∨ size ≤ n
  · have HE : Hid (res = false) := by
      show _ = _
      rw [← HRes.out]; unfold checkP; rw [if_pos h]
    clear HRes
    by_cases h0 : n < 0
    · have t : decide (n < 0) = true := decide_eq_true h0
      go_enter Try.func27, Try.ntmps27
      go_wp2_with (refine wpList_box_row rfl 38 (.tmp 0) rfl R rfl ?_; go_frame)
      go_ret
      exact ⟨by rw [HE.out]; rfl, hB⟩
    · have t : decide (n < 0) = false := decide_eq_false h0
      have h1 : size ≤ n := by omega
      have t2 : decide (n ≥ size) = true := decide_eq_true h1
      go_enter Try.func27, Try.ntmps27
      go_wp2_with (refine wpList_box_row rfl 38 (.tmp 0) rfl R rfl ?_; go_frame)
      go_ret
      exact ⟨by rw [HE.out]; rfl, hB⟩
  · obtain ⟨m, rfl⟩ := Int.eq_ofNat_of_zero_le (show 0 ≤ n by omega)
    obtain ⟨z, rfl⟩ := Int.eq_ofNat_of_zero_le (show 0 ≤ size by omega)
    have D1 := Lib.hid (fun w => depth_any z m w (by omega) (by omega))
    have t : decide ((m : Int) < 0) = false := decide_eq_false (by omega)
    have t2 : decide ((m : Int) ≥ (z : Int)) = false := decide_eq_false (by omega)
    have t3 : ¬ ((z : Int) ≤ (m : Int)) := by omega
    have hck : checkP (z : Int) rt (m : Int) s p = if (way m z).length = p.length then up (leaf s) (way m z) p == rt else false := by
      unfold checkP
      rw [if_neg h]; rfl
    have HC := Lib.hid (hck.symm.trans HRes.out)
    have UP := Lib.hid (fun (hl : (way m z).length = p.length) w' (hP : HArg w' (.slice pa p.length cap) p) => up_any z m (leaf s) p _ w' (by omega) (by omega) (leaf_length s) hl ha hP)
    have HU := Lib.hid (fun (hl : (way m z).length = p.length) => up_length (way m z) p (leaf s) (leaf_length s))
    have L1 := Lib.hid (fun w => RLeaf_any s hs w)
    clear hck HRes h ha
    generalize (leaf s) = x0 at *
    generalize hww : way m z = bs at *
    have hbl : bs.length ≤ 63 := by rw [← hww]; exact way_le 63 m z (by omega)
    clear hww
    by_cases hl : bs.length = p.length
    · have q : ((p.length : Int) != (bs.length : Int)) = false := by rw [bne_eq_false_iff_eq]; omega
      have HE : Hid (res = (up x0 bs p == rt)) := by
        have := HC.out
        rw [if_pos hl] at this
        exact this.symm
      have hu := HU.out hl
      have U1 := Lib.hid (fun y : After (w.alloc (.cells R 38)) => UP.out hl y.W (HP1.out.below y.hb))
      have hq := fun w => run_eq_hash (up x0 bs p) rt hu hr w
      have fr : ∀ y : After (w.alloc (.cells R 38)), (loadVar 24 ⟨w.heap.size, 1, none⟩).run Try.prog y.W = .ok (.agg (hrow rt)) y.W := fun y => load_hash _ _ _ rt hr (fun j v hv => keepCells y.hb _ _ (HRt.out j v hv))
      have fs := After.cell c0
      clear hl HC UP HU HP1 HRt
      generalize up x0 bs p = u at *
      go_enter Try.func27, Try.ntmps27
      go_wp2_with (refine wpList_box_row rfl 38 (.tmp 0) rfl R rfl ?_; go_frame)
      refine (D1.out _).mono ?_; rintro e w1 ⟨rfl, rfl⟩
      go_upto_region 3 with (fail)
      refine wp_region_after (by kernel_rfl) (by kernel_rfl) ?_
      repeat (first
        | (refine quiet_load_at 24 (.tmp 33) (by rfl) ⟨w.heap.size, 1, none⟩ (by rfl) (hrow rt) fr (by kernel_rfl) ?_; go_frame)
        | (go_big_quiet_step (first | (with_reducible exact After.call (L1.out _)) | (with_reducible exact After.call (U1.out _)))))
      refine wpQuiet_nil ?_
      rintro w5 ⟨x5, rfl⟩
      have hB := hB.trans (x5.hb.mono hB.size)
      go_wp2_with fail
      go_ret
      exact ⟨by rw [HE.out]; rfl, hB⟩
    · have q : ((p.length : Int) != (bs.length : Int)) = true := by rw [bne_iff_ne]; omega
      have HE : Hid (res = false) := by
        have := HC.out
        rw [if_neg hl] at this
        exact this.symm
      clear hl HC UP HU HP1 HRt
      go_enter Try.func27, Try.ntmps27
      go_wp2_with (refine wpList_box_row rfl 38 (.tmp 0) rfl R rfl ?_; go_frame)
      refine (D1.out _).mono ?_; rintro e w1 ⟨rfl, rfl⟩
      go_wp2_with fail
      go_ret
      exact ⟨by rw [HE.out]; rfl, hB⟩
end Go.Proofs.Ytjekdeikoebmgaa
