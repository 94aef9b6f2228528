/- The contracts of both inverses. Conditions: none but the range of int. -/
import Derived.Test.YtdnabeldaighgaaFldC
namespace Go.Proofs.Ytdnabeldaighgaa
open Go.RowKit Go.Shelf

/-- While an inverse is sought. -/
structure EuI (m : Int) (res : Nat × Int) (r s x y : Int) : Prop where
  r0 : 0 ≤ r
  r1 : r ≤ 9223372036854775807
  s0 : 0 ≤ s
  s1 : s ≤ 9223372036854775807
  x0 : 0 ≤ x
  x1 : x < m
  y0 : 0 ≤ y
  y1 : y < m
  eq : ∃ f, s.toNat < f ∧ Fld.eu m f r.toNat s.toNat x y = res
theorem EuI.step {m : Int} {res : Nat × Int} {r s x y : Int} (h : EuI m res r s x y) (hm : 1 ≤ m) (hs : 0 < s) : EuI m res s (r % s) y (Fld.subS x (Fld.mulS (r / s) y m) m) := by
  obtain ⟨f, hf, he⟩ := h.eq
  have h1 := Int.emod_nonneg r (by omega : s ≠ 0)
  have h2 := Int.emod_lt_of_pos r hs
  have h3 := h.s1
  have e1 : Fld.subS x (Fld.mulS (r / s) y m) m = (x - (r / s) * y % m) % m := by rw [Fld.subS, if_neg (by omega), Fld.mulS, if_neg (by omega)]
  obtain ⟨b0, b1⟩ := emod_bd (x - (r / s) * y % m) hm
  refine ⟨by omega, h.s1, h1, by omega, h.y0, h.y1, by rw [e1]; exact b0, by rw [e1]; exact b1, ?_⟩
  cases f with
  | zero => omega
  | succ f =>
    refine ⟨f, by omega, ?_⟩
    rw [Fld.eu, if_neg (by omega)] at he
    rw [← he, e1]
    have hr : r = ((r.toNat : Nat) : Int) := by have := h.r0; omega
    have hss : s = ((s.toNat : Nat) : Int) := by omega
    have e2 : r / s = ((r.toNat / s.toNat : Nat) : Int) := by rw [Int.natCast_ediv, ← hr, ← hss]
    have e3 : (r % s).toNat = r.toNat % s.toNat := by
      have : r % s = ((r.toNat % s.toNat : Nat) : Int) := by rw [Int.natCast_emod, ← hr, ← hss]
      rw [this]; rfl
    rw [e2, e3]
theorem EuI.stop {m : Int} {res : Nat × Int} {r x y : Int} (h : EuI m res r 0 x y) : res = (r.toNat, x) := by
  obtain ⟨f, hf, he⟩ := h.eq
  cases f with
  | zero => omega
  | succ f => rw [← he, Fld.eu]; rfl
/-- What the functions return behind the loop. -/
def invR (res : Nat × Int) : Int × Bool := if res.1 = 1 then (res.2, true) else (0, false)
abbrev P2 (p : Int × Bool) : Value := .tuple #[I p.1, .bool p.2]
theorem EuI.start {a m : Int} (hm : 1 ≤ m) (hm2 : m ≤ 9223372036854775807) : ∃ res, invR res = Fld.invS a m ∧ EuI m res m (a % m) 0 (1 % m) := by
  obtain ⟨a1, a2⟩ := emod_bd a hm
  obtain ⟨b1, b2⟩ := emod_bd 1 hm
  refine ⟨Fld.eu m ((a % m).toNat + 1) m.toNat (a % m).toNat 0 (1 % m), ?_, ⟨by omega, hm2, a1, by omega, by omega, by omega, b1, b2, (a % m).toNat + 1, by omega, rfl⟩⟩
  rw [Fld.invS, if_neg (show ¬ m < 1 by omega), invR]
theorem EuI.done {m : Int} {res : Nat × Int} {r s x y : Int} (h : EuI m res r s x y) (hs : s = 0) : invR res = if r = 1 then (x, true) else (0, false) := by
  subst hs
  have h0 := h.r0
  rw [h.stop, invR]
  by_cases hr : r = 1
  · subst hr; rfl
  · rw [if_neg hr, if_neg (by show ¬ r.toNat = 1; omega)]
theorem div_bd {r s : Int} (h0 : 0 ≤ r) (h1 : r ≤ 9223372036854775807) (hs : 0 < s) : 0 ≤ r / s ∧ r / s ≤ 9223372036854775807 := by
  refine ⟨Int.ediv_nonneg h0 (by omega), Int.le_trans ?_ h1⟩
  exact Int.ediv_le_self s h0
theorem mulS_bd {a b m : Int} (hm : 1 ≤ m) : 0 ≤ Fld.mulS a b m ∧ Fld.mulS a b m < m := by rw [mulS_pos hm]; exact emod_bd _ hm

set_option maxHeartbeats 1000000 in
theorem Inv_any (a m : Int) (ha : In64 a) (hm2 : m ≤ 9223372036854775807) (w : World) :
    Calls Try.prog 18 #[I a, I m] w fun e w' => e = .returned (P2 (Fld.invS a m)) ∧ Below w.heap.size w w' := by
  by_cases hm : m < 1
  · rw [Fld.invS, if_pos hm]
    go_enter Try.func18, Try.ntmps18
    go_wp2_with fail
    go_ret2
    exact ⟨rfl, Below.refl _ w⟩
  · have hm1 : 1 ≤ m := by omega
    have HRa := Lib.hid (fun w => residue_any a m ha hm1 hm2 w)
    have HRb := Lib.hid (fun w => residue_any 1 m ⟨by omega, by omega⟩ hm1 hm2 w)
    obtain ⟨a1, a2⟩ := emod_bd a hm1
    obtain ⟨b1, b2⟩ := emod_bd 1 hm1
    obtain ⟨res, hres, H0⟩ := EuI.start (a := a) hm1 hm2
    rw [← hres]
    clear hres
    simp only [W64, rs_cast hm1] at HRa HRb
    have HM := Lib.hid (fun a b ha hb w => Mul_any a b m ha hb hm2 w)
    have HS := Lib.hid (fun a b ha hb w => Sub_any a b m ha hb hm2 w)
    generalize a % m = x at *
    generalize 1 % m = y at *
    go_enter Try.func18, Try.ntmps18
    go_wp2_with fail
    refine (HRa.out _).mono ?_; rintro e w1 ⟨rfl, rfl⟩
    go_wp2_with fail
    refine (HRb.out _).mono ?_; rintro e w1 ⟨rfl, rfl⟩
    go_wp2_with fail
    go_loopw [6, 7, 8, 9] (fun r s x y wr => Below w.heap.size w wr ∧ ∃ R S X Y : Int, r = I R ∧ s = I S ∧ x = I X ∧ y = I Y ∧ EuI m res R S X Y) (fun _ s _ _ _ => (intOf s).toNat)
    case atStart => exact ⟨Below.refl _ w, m, x, 0, y, rfl, rfl, rfl, rfl, H0⟩
    case round =>
      obtain ⟨hB, R, S, X, Y, rfl, rfl, rfl, rfl, HI⟩ := hrel
      clear H0 a1 a2 b1 b2
      have HIh := Lib.hid HI
      obtain ⟨r0, r1, s0, s1, x0, x1, y0, y1, _⟩ := HI
      by_cases hlt : 0 < S
      · obtain ⟨q0, q1⟩ := div_bd r0 r1 hlt
        obtain ⟨t0, t1⟩ := mulS_bd (a := R / S) (b := Y) hm1
        have HN := Lib.hid (HIh.out.step hm1 hlt)
        have HM1 := Lib.hid (fun w => HM.out (R / S) Y ⟨by omega, by omega⟩ ⟨by omega, by omega⟩ w)
        have HS1 := Lib.hid (fun w => HS.out X (Fld.mulS (R / S) Y m) ⟨by omega, by omega⟩ ⟨by omega, by omega⟩ w)
        have u0 := Int.emod_lt_of_pos R hlt
        go_wp2_with fail
        go_quiet (fail)
        have hB2 := Below.drewN hB nq
        generalize wr.drewN nq = w2 at *
        go_wp2_with fail
        refine (HM1.out _).mono ?_; rintro e w3 ⟨rfl, hb3⟩
        go_wp2_with fail
        refine (HS1.out _).mono ?_; rintro e w4 ⟨rfl, hb4⟩
        have hB4 := (hB2.trans (hb3.mono hB2.size))
        have hB5 := hB4.trans (hb4.mono hB4.size)
        go_wp2_with fail
        go_roundw
        case rel => exact ⟨hB5, _, _, _, _, rfl, rfl, rfl, rfl, HN.out⟩
        case measure => simp [intOf]; omega
      · have hD := Lib.hid (HIh.out.done (by omega))
        by_cases hr : R = 1
        · have ht : (R != 1) = false := by simp [hr]
          rw [if_pos hr] at hD
          clear hr
          go_wp2_with fail
          go_ret2
          exact ⟨by rw [hD.out]; rfl, hB⟩
        · have ht : (R != 1) = true := by simp [hr]
          rw [if_neg hr] at hD
          clear hr
          go_wp2_with fail
          go_ret2
          exact ⟨by rw [hD.out]; rfl, hB⟩

set_option maxHeartbeats 1000000 in
theorem RInv_any (a m : Int) (ha : In64 a) (hm2 : m ≤ 9223372036854775807) (w : World) :
    Calls Try.prog 51 #[I a, I m] w fun e w' => e = .returned (P2 (Fld.invS a m)) ∧ w = w' := by
  by_cases hm : m < 1
  · rw [Fld.invS, if_pos hm]
    go_enter Try.func51, Try.ntmps51
    go_wp2_with fail
    go_ret2
    exact ⟨rfl, rfl⟩
  · have hm1 : 1 ≤ m := by omega
    have HRa := Lib.hid (fun w => RResidue_any a m ha hm1 hm2 w)
    have HRb := Lib.hid (fun w => RResidue_any 1 m ⟨by omega, by omega⟩ hm1 hm2 w)
    obtain ⟨a1, a2⟩ := emod_bd a hm1
    obtain ⟨b1, b2⟩ := emod_bd 1 hm1
    obtain ⟨res, hres, H0⟩ := EuI.start (a := a) hm1 hm2
    rw [← hres]
    clear hres
    have HM := Lib.hid (fun a b ha hb w => RMul_any a b m ha hb hm2 w)
    have HS := Lib.hid (fun a b ha hb w => RSub_any a b m ha hb hm2 w)
    generalize a % m = x at *
    generalize 1 % m = y at *
    go_enter Try.func51, Try.ntmps51
    go_wp2_with fail
    refine (HRa.out _).mono ?_; rintro e w1 ⟨rfl, rfl⟩
    go_wp2_with fail
    refine (HRb.out _).mono ?_; rintro e w1 ⟨rfl, rfl⟩
    go_wp2_with fail
    go_loop [6, 7, 8, 9] (fun r s x y => ∃ R S X Y : Int, r = I R ∧ s = I S ∧ x = I X ∧ y = I Y ∧ EuI m res R S X Y) (fun _ s _ _ => (intOf s).toNat)
    case atStart => exact ⟨m, x, 0, y, rfl, rfl, rfl, rfl, H0⟩
    case round =>
      obtain ⟨R, S, X, Y, rfl, rfl, rfl, rfl, HI⟩ := hrel
      clear H0 a1 a2 b1 b2
      have HIh := Lib.hid HI
      obtain ⟨r0, r1, s0, s1, x0, x1, y0, y1, _⟩ := HI
      by_cases hlt : 0 < S
      · obtain ⟨q0, q1⟩ := div_bd r0 r1 hlt
        obtain ⟨t0, t1⟩ := mulS_bd (a := R / S) (b := Y) hm1
        have HN := Lib.hid (HIh.out.step hm1 hlt)
        have HM1 := Lib.hid (fun w => HM.out (R / S) Y ⟨by omega, by omega⟩ ⟨by omega, by omega⟩ w)
        have HS1 := Lib.hid (fun w => HS.out X (Fld.mulS (R / S) Y m) ⟨by omega, by omega⟩ ⟨by omega, by omega⟩ w)
        have u0 := Int.emod_lt_of_pos R hlt
        have u1 := Int.emod_nonneg R (by omega : S ≠ 0)
        have hp : R - R / S * S = R % S := by
          have := Int.mul_ediv_add_emod R S
          rw [Int.mul_comm] at this; omega
        have p0 : 0 ≤ R / S * S := Int.mul_nonneg q0 s0
        have p1 : R / S * S ≤ 9223372036854775807 := by omega
        go_wp2_with fail
        refine (HM1.out _).mono ?_; rintro e w3 ⟨rfl, rfl⟩
        go_wp2_with fail
        refine (HS1.out _).mono ?_; rintro e w4 ⟨rfl, rfl⟩
        go_wp2_with fail
        go_round
        case rel => exact ⟨_, _, _, _, rfl, rfl, rfl, rfl, HN.out⟩
        case measure => simp [intOf]; omega
      · have hD := Lib.hid (HIh.out.done (by omega))
        by_cases hr : R = 1
        · have ht : (R != 1) = false := by simp [hr]
          rw [if_pos hr] at hD
          clear hr
          go_wp2_with fail
          go_ret2
          exact ⟨by rw [hD.out]; rfl, rfl⟩
        · have ht : (R != 1) = true := by simp [hr]
          rw [if_neg hr] at hD
          clear hr
          go_wp2_with fail
          go_ret2
          exact ⟨by rw [hD.out]; rfl, rfl⟩

end Go.Proofs.Ytdnabeldaighgaa
