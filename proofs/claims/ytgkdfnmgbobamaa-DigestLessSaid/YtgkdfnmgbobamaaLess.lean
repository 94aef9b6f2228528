/- The order of hashes: the contracts of Less, of both sides. Conditions: none. -/
import Derived.Test.YtgkdfnmgbobamaaSan
namespace Go.Proofs.Ytgkdfnmgbobamaa
open Go.RowKit Go.Shelf

def cmp1 (x y : UInt8) : Int := if x.toNat < y.toNat then -1 else if y.toNat < x.toNat then 1 else 0
def cmpB : List UInt8 → List UInt8 → Int
  | x :: a, y :: b => if x = y then cmpB a b else cmp1 x y
  | _, _ => 0
def lessB (a b : List UInt8) : Bool := decide (cmpB a b < 0)
theorem cmp1_zero (x y : UInt8) : cmp1 x y = 0 ↔ x = y := by
  unfold cmp1
  constructor
  · intro h
    apply UInt8.toNat_inj.1
    split at h
    · cases h
    · split at h
      · cases h
      · omega
  · rintro rfl; simp
theorem cmpB_drop (a b : List UInt8) (k : Nat) (x y : UInt8) (hx : a[k]? = some x) (hy : b[k]? = some y) : cmpB (a.drop k) (b.drop k) = if x = y then cmpB (a.drop (k + 1)) (b.drop (k + 1)) else cmp1 x y := by
  have h1 : a.drop k = x :: a.drop (k + 1) := by
    have := (List.getElem?_eq_some_iff.1 hx)
    rw [List.drop_eq_getElem_cons this.1, this.2]
  have h2 : b.drop k = y :: b.drop (k + 1) := by
    have := (List.getElem?_eq_some_iff.1 hy)
    rw [List.drop_eq_getElem_cons this.1, this.2]
  rw [h1, h2, cmpB]
theorem cmpB_self (a : List UInt8) : cmpB a a = 0 := by
  induction a with
  | nil => rfl
  | cons x a ih => rw [cmpB, if_pos rfl, ih]

set_option maxHeartbeats 400000 in
theorem isNaN_any (x : UInt8) (w : World) : Calls Try.prog 45 #[Y x] w fun e w' => e = .returned (.bool false) ∧ w = w' := by
  go_enter Try.func45, Try.ntmps45
  go_wp2_with fail
  go_ret
  exact ⟨rfl, rfl⟩

set_option maxHeartbeats 400000 in
theorem Compare1_any (x y : UInt8) (w : World) : Calls Try.prog 40 #[Y x, Y y] w fun e w' => e = .returned (.int .i64 (cmp1 x y)) ∧ w = w' := by
  unfold cmp1
  by_cases h1 : x.toNat < y.toNat
  · rw [if_pos h1]
    go_enter Try.func40, Try.ntmps40
    go_wp2_with fail
    refine (isNaN_any x _).mono ?_; rintro e w1 ⟨rfl, rfl⟩
    go_wp2_with fail
    refine (isNaN_any y _).mono ?_; rintro e w1 ⟨rfl, rfl⟩
    go_wp2_with fail
    go_ret
    exact ⟨rfl, rfl⟩
  · rw [if_neg h1]
    have t1 : ¬ ((x.toNat : Int) < (y.toNat : Int)) := by omega
    by_cases h2 : y.toNat < x.toNat
    · rw [if_pos h2]
      go_enter Try.func40, Try.ntmps40
      go_wp2_with fail
      refine (isNaN_any x _).mono ?_; rintro e w1 ⟨rfl, rfl⟩
      go_wp2_with fail
      refine (isNaN_any y _).mono ?_; rintro e w1 ⟨rfl, rfl⟩
      go_wp2_with fail
      go_ret
      exact ⟨rfl, rfl⟩
    · rw [if_neg h2]
      have t2 : ¬ ((y.toNat : Int) < (x.toNat : Int)) := by omega
      go_enter Try.func40, Try.ntmps40
      go_wp2_with fail
      refine (isNaN_any x _).mono ?_; rintro e w1 ⟨rfl, rfl⟩
      go_wp2_with fail
      refine (isNaN_any y _).mono ?_; rintro e w1 ⟨rfl, rfl⟩
      go_wp2_with fail
      go_ret
      exact ⟨rfl, rfl⟩

set_option maxRecDepth 100000 in
set_option maxHeartbeats 1000000 in
theorem CompareB_any (a b : List UInt8) (ha : a.length = 32) (hb : b.length = 32) (g1 g2 : Nat) (w : World) (B1 : BytesAt w g1 0 a) (B2 : BytesAt w g2 0 b) :
    Calls Try.prog 31 #[.slice (some ⟨g1, 0, none⟩) 32 32, .slice (some ⟨g2, 0, none⟩) 32 32] w fun e w' => e = .returned (.int .i64 (cmpB a b)) ∧ w = w' := by
  have C1 := Lib.hid (fun k x (h : a[k]? = some x) => by have := B1 k x h; rwa [Nat.zero_add] at this)
  have C2 := Lib.hid (fun k x (h : b[k]? = some x) => by have := B2 k x h; rwa [Nat.zero_add] at this)
  clear B1 B2
  go_enter Try.func31, Try.ntmps31
  go_wp2_with fail
  go_loopw [11] (fun i wr => ∃ k : Nat, k ≤ 32 ∧ i = .int .i64 k ∧ Hid (cmpB a b = cmpB (a.drop k) (b.drop k)) ∧ wr = w) (fun i _ => 32 - (intOf i).toNat)
  case atStart => exact ⟨0, by omega, rfl, rfl, rfl⟩
  case round =>
    obtain ⟨k, hk, rfl, HE, rfl⟩ := hrel
    by_cases hlt : k < 32
    · obtain ⟨x, hx⟩ : ∃ x, a[k]? = some x := ⟨a[k]'(by omega), List.getElem?_eq_getElem (by omega)⟩
      obtain ⟨y, hy⟩ : ∃ y, b[k]? = some y := ⟨b[k]'(by omega), List.getElem?_eq_getElem (by omega)⟩
      have c1 := C1.out k x hx
      have c2 := C2.out k y hy
      have hD := cmpB_drop a b k x y hx hy
      clear hx hy
      by_cases hxy : x = y
      · subst hxy
        rw [if_pos rfl] at hD
        have HD := Lib.hid hD
        clear hD
        have h0 := (cmp1_zero x x).2 rfl
        go_wp2_with fail
        refine (Compare1_any x x _).mono ?_; rintro e w1 ⟨rfl, rfl⟩
        rw [h0]
        go_wp2_with fail
        go_roundw
        case rel => exact ⟨k + 1, by omega, by go_num, by show _ = _; rw [HE.out, HD.out], by first | rfl | trivial⟩
        case measure => simp [intOf]; omega
      · have h0 : ¬ (cmp1 x y = 0) := fun h => hxy ((cmp1_zero x y).1 h)
        have HR : Hid (cmpB a b = cmp1 x y) := by show _ = _; rw [HE.out, hD, if_neg hxy]
        clear hD
        have E := Lib.hid (Compare1_any x y)
        generalize cmp1 x y = r at *
        have h1 : (r == 0) = false := by simpa using h0
        go_wp2_with fail
        refine (E.out _).mono ?_; rintro e w1 ⟨rfl, rfl⟩
        go_wp2_with fail
        go_ret
        exact ⟨by rw [HR.out]; rfl, rfl⟩
    · obtain rfl : k = 32 := by omega
      have HR : Hid (cmpB a b = 0) := by
        show _ = _
        rw [HE.out, List.drop_of_length_le (by omega)]; rfl
      clear hlt hk
      go_wp2_with fail
      go_ret
      exact ⟨by rw [HR.out]; rfl, rfl⟩

theorem hrow_bytes {w : World} {g : Nat} {l : List UInt8} {t : TypeId} (h : Blk w g (hrow l) t) : BytesAt w g 0 l := fun i x hx => by
  rw [Nat.zero_add]; exact h.cell i _ (hrow_get l i x hx)

set_option maxRecDepth 100000 in
set_option maxHeartbeats 1000000 in
theorem Less_any (a b : List UInt8) (ha : a.length = 32) (hb : b.length = 32) (w : World) :
    Calls Try.prog 20 #[.agg (hrow a), .agg (hrow b)] w fun e w' => e = .returned (.bool (lessB a b)) ∧ Below w.heap.size w w' := by
  have IA := Lib.hid (hinfo' a ha)
  have IB := Lib.hid (hinfo' b hb)
  have NA := ((Blk.new w (hrow a) 24).alloc (.cells (hrow b) 24))
  have NB := (Blk.new (w.alloc (.cells (hrow a) 24)) (hrow b) 24)
  rw [World.size_alloc] at NB
  have hq := fun w => run_eq_hash a b ha hb w
  have BA := Lib.hid (hrow_bytes NA)
  have BB := Lib.hid (hrow_bytes NB)
  have hc : a = b → lessB a b = false := fun h => by subst h; unfold lessB; rw [cmpB_self]; rfl
  have HL : Hid (lessB a b = decide (cmpB a b < 0)) := rfl
  have E := Lib.hid (fun w (B1 : BytesAt w _ 0 a) (B2 : BytesAt w _ 0 b) => CompareB_any a b ha hb w.heap.size (w.heap.size + 1) w B1 B2)
  have NAH := Lib.hid NA
  have NBH := Lib.hid NB
  have t0 := ((Below.refl w.heap.size w).alloc (Nat.le_refl _) (.cells (hrow a) 24)).alloc (by simp) (.cells (hrow b) 24)
  have AE := Lib.hid (fun x : After ((w.alloc (.cells (hrow a) 24)).alloc (.cells (hrow b) 24)) => (CompareB_any a b ha hb w.heap.size (w.heap.size + 1) x.W (hrow_bytes (NA.below x.hb NA.lt)) (hrow_bytes (NB.below x.hb NB.lt))).mono fun e w' ⟨h, e2⟩ => (⟨h, e2 ▸ Below.refl _ _⟩ : e = Ending.returned (.int .i64 (cmpB a b)) ∧ Below x.W.heap.size x.W w'))
  generalize hrow a = RA at *
  generalize hrow b = RB at *
  generalize cmpB a b = c at *
  generalize lessB a b = r at *
  clear NA NB E
  go_enter Try.func20, Try.ntmps20
  go_wp2_with (first
    | (refine wpList_box_row rfl 24 (.tmp 0) rfl RA rfl ?_)
    | (refine wpList_box_row rfl 24 (.tmp 1) rfl RB rfl ?_))
  have fa := After.row NAH.out IA.out
  have fb := After.row NBH.out IB.out
  by_cases hab : a = b
  · have hr := hc hab
    have hq2 : (a == b) = true := by rw [hab]; simp
    rw [hq2] at hq
    clear hc hab hq2
    refine wp_region_after (by kernel_rfl) (by kernel_rfl) ?_
    repeat (first
      | (refine quiet_load_row 24 (.tmp 2) (by rfl) w.heap.size (by rfl) RA fa (by rfl) ?_; go_frame)
      | (refine quiet_load_row 24 (.tmp 3) (by rfl) (w.heap.size + 1) (by rfl) RB fb (by rfl) ?_; go_frame)
      | (go_big_quiet_step (with_reducible exact After.call (AE.out _))))
    refine wpQuiet_nil ?_
    rintro w9 ⟨x9, rfl⟩
    have hB9 := t0.trans (x9.hb.mono t0.size)
    go_wp2_with fail
    go_ret
    exact ⟨by first | (rw [hr]; rfl) | (rw [HL.out]; rfl), hB9⟩
  · have hq2 : (a == b) = false := by simpa using hab
    rw [hq2] at hq
    clear hc hab hq2
    refine wp_region_after (by kernel_rfl) (by kernel_rfl) ?_
    repeat (first
      | (refine quiet_load_row 24 (.tmp 2) (by rfl) w.heap.size (by rfl) RA fa (by rfl) ?_; go_frame)
      | (refine quiet_load_row 24 (.tmp 3) (by rfl) (w.heap.size + 1) (by rfl) RB fb (by rfl) ?_; go_frame)
      | (go_big_quiet_step (with_reducible exact After.call (AE.out _))))
    refine wpQuiet_nil ?_
    rintro w9 ⟨x9, rfl⟩
    have hB9 := t0.trans (x9.hb.mono t0.size)
    go_wp2_with fail
    go_ret
    exact ⟨by first | (rw [hr]; rfl) | (rw [HL.out]; rfl), hB9⟩

set_option maxRecDepth 100000 in
set_option maxHeartbeats 1000000 in
theorem RLess_any (a b : List UInt8) (ha : a.length = 32) (hb : b.length = 32) (w : World) :
    Calls Try.prog 21 #[.agg (hrow a), .agg (hrow b)] w fun e w' => e = .returned (.bool (lessB a b)) ∧ Below w.heap.size w w' := by
  have NA := ((Blk.new w (hrow a) 24).alloc (.cells (hrow b) 24))
  have NB := (Blk.new (w.alloc (.cells (hrow a) 24)) (hrow b) 24)
  rw [World.size_alloc] at NB
  have GA := Lib.hid (fun k x h => hrow_get a k x h)
  have GB := Lib.hid (fun k x h => hrow_get b k x h)
  have t0 := ((Below.refl w.heap.size w).alloc (Nat.le_refl _) (.cells (hrow a) 24)).alloc (by simp) (.cells (hrow b) 24)
  generalize hrow a = RA at *
  generalize hrow b = RB at *
  have NAH := Lib.hid NA
  have NBH := Lib.hid NB
  clear NA NB
  go_enter Try.func21, Try.ntmps21
  go_wp2_with (first
    | (refine wpList_box_row rfl 24 (.tmp 0) rfl RA rfl ?_)
    | (refine wpList_box_row rfl 24 (.tmp 1) rfl RB rfl ?_))
  have NA := NAH.out
  have NB := NBH.out
  clear NAH NBH
  generalize (w.alloc (.cells RA 24)).alloc (.cells RB 24) = w0 at *
  go_loopw [5] (fun i wr => ∃ k : Nat, k ≤ 32 ∧ i = .int .i64 k ∧ Hid (cmpB a b = cmpB (a.drop k) (b.drop k)) ∧ Blk wr w.heap.size RA 24 ∧ Blk wr (w.heap.size + 1) RB 24 ∧ Below w.heap.size w wr) (fun i _ => 32 - (intOf i).toNat)
  case atStart => exact ⟨0, by omega, rfl, rfl, NA, NB, t0⟩
  case round =>
    clear NA NB t0
    obtain ⟨k, hk, rfl, HE, NA, NB, hB⟩ := hrel
    by_cases hlt : k < 32
    · obtain ⟨x, hx⟩ : ∃ x, a[k]? = some x := ⟨a[k]'(by omega), List.getElem?_eq_getElem (by omega)⟩
      obtain ⟨y, hy⟩ : ∃ y, b[k]? = some y := ⟨b[k]'(by omega), List.getElem?_eq_getElem (by omega)⟩
      have f1 := After.cell (NA.cell k _ (GA.out k x hx))
      have f2 := After.cell (NB.cell k _ (GB.out k y hy))
      have hD := cmpB_drop a b k x y hx hy
      have k1 : (k : Int) < 32 := by omega
      clear hx hy
      by_cases hxy : x = y
      · subst hxy
        rw [if_pos rfl] at hD
        have HD := Lib.hid hD
        clear hD
        go_wp2_with fail
        refine wp_region_after (by kernel_rfl) (by kernel_rfl) ?_
        repeat (go_big_quiet_step (fail))
        refine wpQuiet_nil ?_
        rintro w5 ⟨x5, rfl⟩
        have hb5 := x5.hb
        generalize x5.W = w5 at *
        go_wp2_with fail
        go_roundw
        case rel => exact ⟨k + 1, by omega, by go_num, by show _ = _; rw [HE.out, HD.out], NA.below hb5 NA.lt, NB.below hb5 NB.lt, hB.trans (hb5.mono hB.size)⟩
        case measure => simp [intOf]; omega
      · have HR : Hid (lessB a b = decide (x.toNat < y.toNat)) := by
          show _ = _
          unfold lessB
          rw [HE.out, hD, if_neg hxy]
          unfold cmp1
          by_cases h1 : x.toNat < y.toNat
          · rw [if_pos h1, decide_eq_true (by omega : (-1 : Int) < 0), decide_eq_true h1]
          · rw [if_neg h1, decide_eq_false h1]
            split <;> rfl
        have hne : ((x.toNat : Int) == (y.toNat : Int)) = false := by
          rw [beq_eq_false_iff_ne]; intro h; exact hxy (UInt8.toNat_inj.1 (by omega))
        clear hD
        go_wp2_with fail
        refine wp_region_after (by kernel_rfl) (by kernel_rfl) ?_
        repeat (go_big_quiet_step (fail))
        refine wpQuiet_nil ?_
        rintro w5 ⟨x5, rfl⟩
        have hb5 := x5.hb
        have g1 : ∀ y : After x5.W, _ := After.cell (f1 x5)
        have g2 : ∀ y : After x5.W, _ := After.cell (f2 x5)
        have hB5 := hB.trans (hb5.mono hB.size)
        clear f1 f2
        generalize x5.W = w5 at *
        go_wp2_with fail
        refine wp_region_after (by kernel_rfl) (by kernel_rfl) ?_
        repeat (go_big_quiet_step (fail))
        refine wpQuiet_nil ?_
        rintro w6 ⟨x6, rfl⟩
        have hB6 := hB5.trans (x6.hb.mono hB5.size)
        go_wp2_with fail
        go_ret
        exact ⟨by rw [HR.out]; rfl, hB6⟩
    · obtain rfl : k = 32 := by omega
      have HR : Hid (lessB a b = false) := by
        show _ = _
        unfold lessB
        rw [HE.out, List.drop_of_length_le (by omega)]; rfl
      clear hlt hk
      go_wp2_with fail
      go_ret
      exact ⟨by rw [HR.out]; rfl, hB⟩
end Go.Proofs.Ytgkdfnmgbobamaa
