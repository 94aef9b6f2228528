/- Div64: Knuth's division of two words by one. Conditions: the quotient fits. -/
import Derived.Test.YtdnabeldaighgaaFldA
namespace Go.Proofs.Ytdnabeldaighgaa
open Go.RowKit Go.Shelf

/-- While a digit is sought: the guess q and its rest r. -/
structure DivI (y1 u Q q r : Int) (k : Nat) : Prop where
  q0 : 0 ≤ q
  r0 : 0 ≤ r
  eq : q * y1 + r = u
  le : Q ≤ q
  lt : r < 4294967296
  bd : q ≤ k
  q64 : q < 18446744073709551616
/-- One digit of the quotient. -/
structure Dig (y1 y0 u x Q q0 r0 : Int) : Prop where
  start : DivI y1 u Q q0 r0 q0.toNat
  dec : ∀ q r, 0 ≤ q → 0 ≤ r → q * y1 + r = u → (4294967296 ≤ q ∨ 4294967296 * r + x < q * y0) → Q < q
  exact : ∀ q r, 0 ≤ q → 0 ≤ r → q * y1 + r = u → Q ≤ q → q * y0 ≤ 4294967296 * r + x → q = Q
  brk : ∀ q r, 0 ≤ q → 0 ≤ r → q * y1 + r = u → Q ≤ q → 4294967296 ≤ r → q = Q
theorem dec_eq {q y1 r u : Int} (h : q * y1 + r = u) : (q - 1) * y1 + (r + y1) = u := by rw [Int.sub_mul]; omega
theorem mul_lt_two {q y : Int} (h0 : 0 ≤ q) (h1 : q < 4294967296) (k0 : 0 ≤ y) (k1 : y < 4294967296) : 0 ≤ q * y ∧ q * y < 18446744073709551616 := by
  refine ⟨Int.mul_nonneg h0 k0, ?_⟩
  have := Int.mul_le_mul (show q ≤ 4294967295 by omega) (show y ≤ 4294967295 by omega) k0 (by omega)
  omega
theorem dig_of {y1 y0 u x : Nat} (h1 : 0 < y1) (h2 : y1 < 4294967296) (h0 : y0 < 4294967296) (hx : x < 4294967296) (hu : u < y1 * 4294967296 + y0) (hu2 : u < 18446744073709551616) :
    Dig (y1 : Int) (y0 : Int) (u : Int) (x : Int) (((u * 4294967296 + x) / (y1 * 4294967296 + y0) : Nat) : Int) ((u / y1 : Nat) : Int) ((u - u / y1 * y1 : Nat) : Int) := by
  have e := Nat.div_add_mod u y1
  rw [Nat.mul_comm] at e
  have hl := Nat.mod_lt u h1
  have hd := Nat.div_le_self u y1
  have hs := Fld.dv_start (y0 := y0) (u := u) h1 hx
  refine ⟨⟨Int.natCast_nonneg _, Int.natCast_nonneg _, ?_, by omega, by omega, by omega, by omega⟩, fun q r hq0 hr0 hq h => ?_, fun q r hq0 hr0 hq hle h => ?_, fun q r hq0 hr0 hq hle h => ?_⟩
  · rw [← Int.natCast_mul]; omega
  all_goals
    obtain ⟨q, rfl⟩ : ∃ n : Nat, q = (n : Int) := ⟨q.toNat, by omega⟩
    obtain ⟨r, rfl⟩ : ∃ n : Nat, r = (n : Int) := ⟨r.toNat, by omega⟩
    rw [← Int.natCast_mul] at hq
  · rw [← Int.natCast_mul] at h
    exact Int.ofNat_lt.2 (Fld.dv_big (q := q) (r := r) hu hx (by omega) (by omega))
  · rw [← Int.natCast_mul] at h
    exact congrArg _ (Fld.dv_exact (q := q) (r := r) (by omega) (by omega) (by omega) (by omega))
  · exact congrArg _ (Fld.dv_break (q := q) (r := r) h0 (by omega) hu (by omega) (by omega) (by omega))
theorem or_words (hi lo y s : Nat) (hs : s ≤ 63) (hh : hi < y) (hn : y * 2 ^ s < 18446744073709551616) (hl : lo < 18446744073709551616) :
    bits .or .u64 (IntKind.u64.wrap ((hi : Int) * 2 ^ s)) ((lo : Int) / 2 ^ (64 - s)) = ((hi * 2 ^ s + lo / 2 ^ (64 - s) : Nat) : Int) ∧ hi * 2 ^ s + lo / 2 ^ (64 - s) < y * 2 ^ s := by
  have e1 : hi * 2 ^ s + 2 ^ s ≤ y * 2 ^ s := by
    have := Nat.mul_le_mul_right (2 ^ s) (Nat.succ_le_of_lt hh)
    rw [Nat.succ_mul] at this; exact this
  have e2 : lo / 2 ^ (64 - s) < 2 ^ s := by
    rw [Nat.div_lt_iff_lt_mul (Nat.two_pow_pos _), ← Nat.pow_add, show s + (64 - s) = 64 by omega]; exact hl
  have e3 : ((lo : Int) / 2 ^ (64 - s)) = ((lo / 2 ^ (64 - s) : Nat) : Int) := by
    rw [Int.natCast_ediv, Int.natCast_pow]; rfl
  have e4 : hi * 2 ^ s + lo / 2 ^ (64 - s) = hi * 2 ^ s ||| lo / 2 ^ (64 - s) := by
    rw [Nat.mul_comm hi, Nat.two_pow_add_eq_or_of_lt e2]
  rw [wrap_shl, e3]
  generalize 2 ^ s = T at *
  generalize lo / 2 ^ (64 - s) = q at *
  generalize hi * T = a at *
  generalize y * T = b at *
  refine ⟨?_, by omega⟩
  rw [Nat.mod_eq_of_lt (by omega), u64_or_nat _ _ (by omega) (by omega), e4]
theorem wrap_rest (u x1 Q Y u2 : Int) (h : Q * Y + u2 = u * 4294967296 + x1) (h0 : 0 ≤ u2) (h2 : u2 < 18446744073709551616) :
    IntKind.u64.wrap (IntKind.u64.wrap (IntKind.u64.wrap (u * 4294967296) + x1) - IntKind.u64.wrap (Q * Y)) = u2 := by
  generalize Q * Y = p at *
  simp only [IntKind.wrap_u64]
  omega

set_option maxRecDepth 100000 in
set_option maxHeartbeats 2000000 in
theorem div_walk (hi lo y Y y1 y0 V x1 x0 u q01 p01 r01 Q1 u2 q02 p02 r02 Q2 u3 : Int) (s : Nat) (hs : s ≤ 63) (h0 : (y == 0) = false) (h1 : (hi == 0) = false) (hh : hi < y) (b1 : 0 ≤ y) (b2 : y ≤ 18446744073709551615) 
    (HES : Hid (64 - (Lib.bitLen y.toNat : Int) = (s : Int))) (e1 : IntKind.u64.wrap (y * 2 ^ s) = Y) (e2 : Y / 4294967296 = y1) (e3 : bits .and .u64 Y 4294967295 = y0)
    (e4 : bits .or .u64 (IntKind.u64.wrap (hi * 2 ^ s)) (lo / 2 ^ (64 - s)) = u) (e5 : IntKind.u64.wrap (lo * 2 ^ s) = V) (e6 : V / 4294967296 = x1) (e7 : bits .and .u64 V 4294967295 = x0)
    (e8 : u / y1 = q01) (e9 : q01 * y1 = p01) (e10 : u - p01 = r01) (e11 : u2 / y1 = q02) (e12 : q02 * y1 = p02) (e13 : u2 - p02 = r02)
    (z1 : 0 < y1) (j5 : y1 < 4294967296) (z0 : 0 ≤ y0) (j6 : y0 < 4294967296) (zx1 : 0 ≤ x1) (jx1 : x1 < 4294967296) (zx0 : 0 ≤ x0) (jx0 : x0 < 4294967296)
    (zu : 0 ≤ u) (ju : u < 18446744073709551616) (zu2 : 0 ≤ u2) (ju2 : u2 < 18446744073709551616) 
    (zp : 0 ≤ p01) (jp : p01 < 18446744073709551616) (zp2 : 0 ≤ p02) (jp2 : p02 < 18446744073709551616) (zr : 0 ≤ r01) (jr : r01 < 18446744073709551616) (zr2 : 0 ≤ r02) (jr2 : r02 < 18446744073709551616)
    (zQ1 : 0 ≤ Q1) (zQ2 : 0 ≤ Q2)
    (HG1 : Hid (Dig y1 y0 u x1 Q1 q01 r01)) (HG2 : Hid (Dig y1 y0 u2 x0 Q2 q02 r02))
    (HA : Hid (IntKind.u64.wrap (IntKind.u64.wrap (IntKind.u64.wrap (u * 4294967296) + x1) - IntKind.u64.wrap (Q1 * Y)) = u2))
    (HB : Hid (IntKind.u64.wrap (IntKind.u64.wrap (IntKind.u64.wrap (u2 * 4294967296) + x0) - IntKind.u64.wrap (Q2 * Y)) = u3)) (w : World) :
    Calls Try.prog 62 #[.int .u64 hi, .int .u64 lo, .int .u64 y] w fun e w' => (∃ q : Int, e = .returned (.tuple #[.int .u64 q, .int .u64 (u3 / 2 ^ s)])) ∧ w = w' := by
  go_enter Try.func62, Try.ntmps62
  go_wp2_with fail
  refine (bits_LeadingZeros64 _ _ b1 b2).mono ?_; rintro e w1 ⟨rfl, rfl⟩
  rw [HES.out]
  go_upto_block 0 with (fail)
  rw [e8]
  clear e8
  go_cut [15, 16] from 67 to 85 (fun a b wx => a = .int .u64 Q1 ∧ (∃ r : Int, b = .int .u64 r) ∧ wx = w1)
  case first =>
    go_wp2_with fail
    go_loopg [15, 16] q01.toNat (fun k a b wr => wr = w1 ∧ ∃ q r : Int, a = .int .u64 q ∧ b = .int .u64 r ∧ DivI y1 u Q1 q r k)
    case atStart => exact ⟨rfl, q01, r01, by first | rfl | simp only [*], by first | rfl | simp only [*], HG1.out.start⟩
    case round =>
      obtain ⟨rfl, q, r, rfl, rfl, HI⟩ := hrel
      obtain ⟨i0, i1, i2, i3, i4, i5, i6⟩ := HI
      have HQ := Lib.hid i2
      have HI3 := Lib.hid i3
      clear i2 i3
      by_cases hb : 4294967296 ≤ q
      · have HD := Lib.hid (HG1.out.dec q r i0 i1 HQ.out (.inl hb))
        have HE := Lib.hid (dec_eq HQ.out)
        go_wp2_with fail
        · have hh : 4294967296 ≤ r + y1 := by assumption
          go_meet
          case rel => exact ⟨congrArg (Value.int .u64) (HG1.out.brk (q - 1) _ (by omega) (by omega) HE.out (Int.le_sub_one_of_lt HD.out) hh), ⟨r + y1, rfl⟩, rfl⟩
        · have hh : r + y1 < 4294967296 := by assumption
          go_roundg (gk - 1)
          case measure => omega
          case rel => exact ⟨rfl, q - 1, r + y1, rfl, rfl, by omega, by omega, HE.out, Int.le_sub_one_of_lt HD.out, hh, by omega, by omega⟩
      · have hbi : q < 4294967296 := by omega
        have ht : 0 ≤ q * y0 ∧ q * y0 < 18446744073709551616 := mul_lt_two i0 hbi z0 j6
        clear hb
        obtain ⟨t, et⟩ : ∃ t, q * y0 = t := ⟨_, rfl⟩
        have HT := Lib.hid et
        rw [et] at ht
        obtain ⟨t0, t1⟩ := ht
        by_cases hc : 4294967296 * r + x1 < t
        · have HD := Lib.hid (HG1.out.dec q r i0 i1 HQ.out (.inr (by rw [HT.out]; exact hc)))
          have HE := Lib.hid (dec_eq HQ.out)
          have q1 : 1 ≤ q := by have := HD.out; omega
          go_wp2_with fail
          · have hh : 4294967296 ≤ r + y1 := by assumption
            go_meet
            case rel => exact ⟨congrArg (Value.int .u64) (HG1.out.brk (q - 1) _ (by omega) (by omega) HE.out (Int.le_sub_one_of_lt HD.out) hh), ⟨r + y1, rfl⟩, rfl⟩
          · have hh : r + y1 < 4294967296 := by assumption
            go_roundg (gk - 1)
            case measure => omega
            case rel => exact ⟨rfl, q - 1, r + y1, rfl, rfl, by omega, by omega, HE.out, Int.le_sub_one_of_lt HD.out, hh, by omega, by omega⟩
        · have hci : t ≤ 4294967296 * r + x1 := by omega
          clear hc
          have HX := Lib.hid (HG1.out.exact q r i0 i1 HQ.out HI3.out (by rw [HT.out]; exact hci))
          go_wp2_with fail
          go_meet
          case rel => exact ⟨congrArg (Value.int .u64) HX.out, ⟨r, rfl⟩, rfl⟩
  obtain ⟨rfl, ⟨r', rfl⟩, hw⟩ := hcut
  obtain rfl := hw.symm
  have eA := HA.out
  go_upto_block 2 with (fail)
  rw [e11]
  clear e11
  go_cut [18, 16] from 102 to 120 (fun a b wx => a = .int .u64 Q2 ∧ (∃ r : Int, b = .int .u64 r) ∧ wx = w1)
  case first =>
    go_wp2_with fail
    go_loopg [18, 16] q02.toNat (fun k a b wr => wr = w1 ∧ ∃ q r : Int, a = .int .u64 q ∧ b = .int .u64 r ∧ DivI y1 u2 Q2 q r k)
    case atStart => exact ⟨rfl, q02, r02, by first | rfl | simp only [*], by first | rfl | simp only [*], HG2.out.start⟩
    case round =>
      obtain ⟨rfl, q, r, rfl, rfl, HI⟩ := hrel
      obtain ⟨i0, i1, i2, i3, i4, i5, i6⟩ := HI
      have HQ := Lib.hid i2
      have HI3 := Lib.hid i3
      clear i2 i3
      by_cases hb : 4294967296 ≤ q
      · have HD := Lib.hid (HG2.out.dec q r i0 i1 HQ.out (.inl hb))
        have HE := Lib.hid (dec_eq HQ.out)
        go_wp2_with fail
        · have hh : 4294967296 ≤ r + y1 := by assumption
          go_meet
          case rel => exact ⟨congrArg (Value.int .u64) (HG2.out.brk (q - 1) _ (by omega) (by omega) HE.out (Int.le_sub_one_of_lt HD.out) hh), ⟨r + y1, rfl⟩, rfl⟩
        · have hh : r + y1 < 4294967296 := by assumption
          go_roundg (gk - 1)
          case measure => omega
          case rel => exact ⟨rfl, q - 1, r + y1, rfl, rfl, by omega, by omega, HE.out, Int.le_sub_one_of_lt HD.out, hh, by omega, by omega⟩
      · have hbi : q < 4294967296 := by omega
        have ht : 0 ≤ q * y0 ∧ q * y0 < 18446744073709551616 := mul_lt_two i0 hbi z0 j6
        clear hb
        obtain ⟨t, et⟩ : ∃ t, q * y0 = t := ⟨_, rfl⟩
        have HT := Lib.hid et
        rw [et] at ht
        obtain ⟨t0, t1⟩ := ht
        by_cases hc : 4294967296 * r + x0 < t
        · have HD := Lib.hid (HG2.out.dec q r i0 i1 HQ.out (.inr (by rw [HT.out]; exact hc)))
          have HE := Lib.hid (dec_eq HQ.out)
          have q1 : 1 ≤ q := by have := HD.out; omega
          go_wp2_with fail
          · have hh : 4294967296 ≤ r + y1 := by assumption
            go_meet
            case rel => exact ⟨congrArg (Value.int .u64) (HG2.out.brk (q - 1) _ (by omega) (by omega) HE.out (Int.le_sub_one_of_lt HD.out) hh), ⟨r + y1, rfl⟩, rfl⟩
          · have hh : r + y1 < 4294967296 := by assumption
            go_roundg (gk - 1)
            case measure => omega
            case rel => exact ⟨rfl, q - 1, r + y1, rfl, rfl, by omega, by omega, HE.out, Int.le_sub_one_of_lt HD.out, hh, by omega, by omega⟩
        · have hci : t ≤ 4294967296 * r + x0 := by omega
          clear hc
          have HX := Lib.hid (HG2.out.exact q r i0 i1 HQ.out HI3.out (by rw [HT.out]; exact hci))
          go_wp2_with fail
          go_meet
          case rel => exact ⟨congrArg (Value.int .u64) HX.out, ⟨r, rfl⟩, rfl⟩
  obtain ⟨rfl, ⟨r', rfl⟩, hw⟩ := hcut
  obtain rfl := hw.symm
  have eB := HB.out
  go_wp2_with fail
  go_ret2
  exact ⟨⟨IntKind.u64.wrap (IntKind.u64.wrap (Q1 * 4294967296) + Q2), rfl⟩, rfl⟩

set_option maxHeartbeats 1000000 in
/-- What is laid for the walk. -/
theorem Div64_any (hi lo y : Nat) (hy : 1 ≤ y) (hy2 : y < 18446744073709551616) (hh : hi < y) (hl : lo < 18446744073709551616) (w : World) :
    Calls Try.prog 62 #[W64 hi, W64 lo, W64 y] w (DivPost ((hi * 18446744073709551616 + lo) % y) w) := by
  by_cases hz : hi = 0
  · subst hz
    rw [Nat.zero_mul, Nat.zero_add]
    exact Div64_zero lo y hy hy2 hl w
  · obtain ⟨s, hs, es, n1, n2⟩ := norm_shift y hy hy2
    obtain ⟨e4, hu⟩ := or_words hi lo y s hs hh n2 hl
    have HF := Fld.dv_norm hi lo y s (by omega)
    have e1 : IntKind.u64.wrap ((y : Int) * 2 ^ s) = ((y * 2 ^ s : Nat) : Int) := by
      rw [wrap_shl, Nat.mod_eq_of_lt n2]
    generalize y * 2 ^ s = Y at *
    have e3 := and_mask Y n2
    have e5 : IntKind.u64.wrap ((lo : Int) * 2 ^ s) = ((lo * 2 ^ s % 18446744073709551616 : Nat) : Int) := wrap_shl lo s
    have hV : lo * 2 ^ s % 18446744073709551616 < 18446744073709551616 := Nat.mod_lt _ (by omega)
    generalize lo * 2 ^ s % 18446744073709551616 = V at *
    generalize hi * 2 ^ s + lo / 2 ^ (64 - s) = u at *
    have e7 := and_mask V hV
    have hYy : Y = Y / 4294967296 * 4294967296 + Y % 4294967296 := by omega
    have hVv : V = V / 4294967296 * 4294967296 + V % 4294967296 := by omega
    have l0 : Y % 4294967296 < 4294967296 := Nat.mod_lt _ (by omega)
    have l1 : 0 < Y / 4294967296 := by omega
    have l2 : Y / 4294967296 < 4294967296 := by omega
    have lx1 : V / 4294967296 < 4294967296 := by omega
    have lx0 : V % 4294967296 < 4294967296 := Nat.mod_lt _ (by omega)
    have G1 := dig_of l1 l2 l0 lx1 (u := u) (by omega) (by omega)
    rw [← hYy] at G1
    have hr1 := Nat.div_add_mod (u * 4294967296 + V / 4294967296) Y
    rw [Nat.mul_comm] at hr1
    have hu2 : (u * 4294967296 + V / 4294967296) % Y < Y := Nat.mod_lt _ (by omega)
    have HFa := Fld.dv_two u (V / 4294967296) (V % 4294967296) Y
    rw [← hVv] at HFa
    have hm1 := Nat.div_mul_le_self u (Y / 4294967296)
    have hd1 := Nat.div_le_self u (Y / 4294967296)
    have hA : ∀ Q u2 u x1 : Nat, Q * Y + u2 = u * 4294967296 + x1 → u2 < Y → IntKind.u64.wrap (IntKind.u64.wrap (IntKind.u64.wrap ((u : Int) * 4294967296) + (x1 : Int)) - IntKind.u64.wrap ((Q : Int) * (Y : Int))) = (u2 : Int) := fun Q u2 u x1 h h2 =>
      wrap_rest _ _ _ _ _ (by rw [← Int.natCast_mul]; omega) (by omega) (by omega)
    have HA := hA _ _ _ _ hr1 hu2
    obtain ⟨Q1, hQ1⟩ : ∃ Q, (u * 4294967296 + V / 4294967296) / Y = Q := ⟨_, rfl⟩
    obtain ⟨u2, hu2e⟩ : ∃ Q, (u * 4294967296 + V / 4294967296) % Y = Q := ⟨_, rfl⟩
    rw [hQ1] at G1
    rw [hu2e] at HFa hu2
    rw [hQ1, hu2e] at HA
    clear hr1 hQ1 hu2e
    have G2 := dig_of l1 l2 l0 lx0 (u := u2) (by omega) (by omega)
    rw [← hYy] at G2
    have hr2 := Nat.div_add_mod (u2 * 4294967296 + V % 4294967296) Y
    rw [Nat.mul_comm] at hr2
    have hu3 : (u2 * 4294967296 + V % 4294967296) % Y < Y := Nat.mod_lt _ (by omega)
    have hm2 := Nat.div_mul_le_self u2 (Y / 4294967296)
    have HB := hA _ _ _ _ hr2 hu3
    have iz : ∀ n : Nat, 0 ≤ (n : Int) := Int.natCast_nonneg
    have ilt : ∀ {a b : Nat}, a < b → (a : Int) < (b : Int) := fun h => Int.ofNat_lt.2 h
    have lu : u < 18446744073709551616 := by omega
    have lu2 : u2 < 18446744073709551616 := by omega
    have lp1 := Nat.lt_of_le_of_lt hm1 lu
    have lp2 := Nat.lt_of_le_of_lt hm2 lu2
    have lr1 := Nat.lt_of_le_of_lt (Nat.sub_le u (u / (Y / 4294967296) * (Y / 4294967296))) lu
    have lr2 := Nat.lt_of_le_of_lt (Nat.sub_le u2 (u2 / (Y / 4294967296) * (Y / 4294967296))) lu2
    have hn1 : (y : Int) ≤ 18446744073709551615 := by omega
    refine (div_walk hi lo y Y (Y / 4294967296 : Nat) (Y % 4294967296 : Nat) V (V / 4294967296 : Nat) (V % 4294967296 : Nat) u (u / (Y / 4294967296) : Nat) (u / (Y / 4294967296) * (Y / 4294967296) : Nat) (u - u / (Y / 4294967296) * (Y / 4294967296) : Nat) _ u2 (u2 / (Y / 4294967296) : Nat) (u2 / (Y / 4294967296) * (Y / 4294967296) : Nat) (u2 - u2 / (Y / 4294967296) * (Y / 4294967296) : Nat) _ _ s hs
      (by simp; omega) (by simp; omega) (ilt hh) (iz _) hn1 (by show 64 - (Lib.bitLen ((y : Int)).toNat : Int) = (s : Int); rw [show ((y : Int)).toNat = y by omega]; exact es) e1 rfl e3 e4 e5 rfl e7 rfl (by rw [Int.natCast_mul]) (Int.ofNat_sub hm1).symm rfl (by rw [Int.natCast_mul]) (Int.ofNat_sub hm2).symm
      (ilt l1) (ilt l2) (iz _) (ilt l0) (iz _) (ilt lx1) (iz _) (ilt lx0) (iz _) (ilt lu) (iz _) (ilt lu2) (iz _) (ilt lp1) (iz _) (ilt lp2) (iz _) (ilt lr1) (iz _) (ilt lr2) (iz _) (iz _)
      (Lib.hid G1) (Lib.hid G2) (Lib.hid HA) (Lib.hid HB) w).mono ?_
    rintro e w' ⟨⟨q, rfl⟩, rfl⟩
    refine ⟨q, ?_, Below.refl _ w⟩
    have HR : (u2 * 4294967296 + V % 4294967296) % Y / 2 ^ s = (hi * 18446744073709551616 + lo) % y := by rw [HFa]; exact HF
    rw [← HR]
    show Ending.returned (.tuple #[.int .u64 q, .int .u64 _]) = .returned (.tuple #[.int .u64 q, .int .u64 _])
    rw [Int.natCast_ediv, Int.natCast_pow]; rfl

end Go.Proofs.Ytdnabeldaighgaa
