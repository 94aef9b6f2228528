/- Small functions of the shares: below, inside, Mod, value, Commits, Ints. Conditions: the range of int. -/
import Derived.Test.YtdnabeldaighgaaRow
import Derived.Test.YtdnabeldaighgaaTail
import Derived.Test.YtdnabeldaighgaaPws
namespace Go.Proofs.Ytdnabeldaighgaa
open Go.RowKit Go.Shelf

namespace Shr
abbrev QZ : Int := 1152921504606845789
abbrev PZ : Int := 2305843009213691579
def blw (n : Int) : Bool := decide (0 ≤ n) && decide (n < QZ)
def insd (p : Int × Int) : Bool := decide (0 < p.1) && blw p.1 && blw p.2
def comm (l : List Int) : Bool := decide (1 ≤ l.length) && decide (l.length ≤ 100) && l.all FldP.memS
/-- The product of the first k commitments, each to the power of its place. -/
def prd (l : List Int) (x : Int) : Nat → Int
  | 0 => 1
  | k + 1 => Fld.mulS (prd l x k) (Fld.powS (l.getD k 0) (pws x k) PZ) PZ
def fts (l : List Int) (p : Int × Int) : Bool := insd p && (prd l p.1 l.length == Fld.powS 4 p.2 PZ)
def vfy (l : List Int) (p : Int × Int) : Bool := comm l && fts l p
def modS (a b : Int) : Int := a % b
/-- The value of a polynomial, from the top: the last k coefficients. -/
def hor (l : List Int) (x : Int) : Nat → Int
  | 0 => 0
  | k + 1 => Fld.addS (Fld.mulS (hor l x k) x QZ) (l.getD (l.length - 1 - k) 0) QZ
end Shr
open Shr
theorem prd_in (l : List Int) (x : Int) (k : Nat) : In64 (prd l x k) := by
  cases k with
  | zero => unfold prd; exact ⟨by decide, by decide⟩
  | succ k => exact mulS_in (by decide)
theorem hor_in (l : List Int) (x : Int) (k : Nat) : In64 (hor l x k) := by
  cases k with
  | zero => unfold hor; exact ⟨by decide, by decide⟩
  | succ k => exact addS_in (by decide)
def All64 (l : List Int) : Prop := ∀ x ∈ l, In64 x
def AllS64 (l : List (Int × Int)) : Prop := ∀ p ∈ l, In64 p.1 ∧ In64 p.2

set_option maxRecDepth 100000 in
theorem below_any (n : Int) (w : World) : Calls Try.prog 41 #[I n] w fun e w' => e = .returned (.bool (blw n)) ∧ w = w' := by
  unfold blw
  by_cases h : 0 ≤ n
  · by_cases h2 : n < 1152921504606845789
    · have t := decide_eq_true h
      have t2 := decide_eq_true h2
      rw [t, t2]
      go_enter Try.func41, Try.ntmps41
      go_wp2_with fail
      go_ret
      exact ⟨rfl, rfl⟩
    · have t := decide_eq_true h
      have t2 := decide_eq_false h2
      rw [t, t2]
      go_enter Try.func41, Try.ntmps41
      go_wp2_with fail
      go_ret
      exact ⟨rfl, rfl⟩
  · have t := decide_eq_false h
    rw [t]
    go_enter Try.func41, Try.ntmps41
    go_wp2_with fail
    go_ret
    exact ⟨rfl, rfl⟩

set_option maxRecDepth 100000 in
theorem inside_any (x y : Int) (w : World) : Calls Try.prog 30 #[.agg #[I x, I y]] w fun e w' => e = .returned (.bool (insd (x, y))) ∧ w.alloc (.cells #[I x, I y] 33) = w' := by
  unfold insd
  have N := Blk.new w #[I x, I y] 33
  have c0 := N.cell 0 _ rfl
  have c1 := N.cell 1 _ rfl
  have B1 := Lib.hid (fun n w => below_any n w)
  clear N
  by_cases h : 0 < x
  · have t : decide (0 < x) = true := decide_eq_true h
    have HX := Lib.hid t
    clear t
    obtain ⟨b1, hb1⟩ : ∃ b, blw x = b := ⟨_, rfl⟩
    obtain ⟨b2, hb2⟩ : ∃ b, blw y = b := ⟨_, rfl⟩
    have C1 := Lib.hid (fun w => hb1 ▸ B1.out x w)
    have C2 := Lib.hid (fun w => hb2 ▸ B1.out y w)
    show Calls _ _ _ _ fun e w' => e = .returned (.bool (decide (0 < x) && blw x && blw y)) ∧ _
    rw [HX.out, hb1, hb2]
    clear hb1 hb2 B1
    cases b1
    · go_enter Try.func30, Try.ntmps30
      go_wp2_with fail
      refine (C1.out _).mono ?_; rintro e w1 ⟨rfl, rfl⟩
      go_wp2_with fail
      go_ret
      exact ⟨rfl, rfl⟩
    · go_enter Try.func30, Try.ntmps30
      go_wp2_with fail
      refine (C1.out _).mono ?_; rintro e w1 ⟨rfl, rfl⟩
      go_wp2_with fail
      refine (C2.out _).mono ?_; rintro e w1 ⟨rfl, rfl⟩
      go_wp2_with fail
      go_ret
      exact ⟨rfl, rfl⟩
  · have t : decide (0 < x) = false := decide_eq_false h
    show Calls _ _ _ _ fun e w' => e = .returned (.bool (decide (0 < x) && blw x && blw y)) ∧ _
    rw [t]
    go_enter Try.func30, Try.ntmps30
    go_wp2_with fail
    go_ret
    exact ⟨rfl, rfl⟩

set_option maxRecDepth 100000 in
theorem rinside_any (x y : Int) (w : World) : Calls Try.prog 48 #[.agg #[I x, I y]] w fun e w' => e = .returned (.bool (insd (x, y))) ∧ w.alloc (.cells #[I x, I y] 33) = w' := by
  have N := Blk.new w #[I x, I y] 33
  have c0 := N.cell 0 _ rfl
  have c1 := N.cell 1 _ rfl
  clear N
  have hb : insd (x, y) = (decide (0 < x) && (decide (0 ≤ x) && decide (x < 1152921504606845789)) && (decide (0 ≤ y) && decide (y < 1152921504606845789))) := rfl
  obtain ⟨b, hbb⟩ : ∃ b, insd (x, y) = b := ⟨_, rfl⟩
  rw [hbb] at hb
  rw [hbb]
  have HB := Lib.hid hb
  clear hb hbb
  by_cases h1 : 1 ≤ x
  · have t1 := decide_eq_true h1
    by_cases h2 : x < 1152921504606845789
    · have t2 := decide_eq_true h2
      by_cases h3 : 0 ≤ y
      · have t3 := decide_eq_true h3
        by_cases h4 : y < 1152921504606845789
        · have t4 := decide_eq_true h4
          go_enter Try.func48, Try.ntmps48
          go_wp2_with fail
          go_ret
          exact ⟨by rw [HB.out]; simp; omega, rfl⟩
        · have t4 := decide_eq_false h4
          go_enter Try.func48, Try.ntmps48
          go_wp2_with fail
          go_ret
          exact ⟨by rw [HB.out]; simp; omega, rfl⟩
      · have t3 := decide_eq_false h3
        go_enter Try.func48, Try.ntmps48
        go_wp2_with fail
        go_ret
        exact ⟨by rw [HB.out]; simp; omega, rfl⟩
    · have t2 := decide_eq_false h2
      go_enter Try.func48, Try.ntmps48
      go_wp2_with fail
      go_ret
      exact ⟨by rw [HB.out]; simp; omega, rfl⟩
  · have t1 := decide_eq_false h1
    go_enter Try.func48, Try.ntmps48
    go_wp2_with fail
    go_ret
    exact ⟨by rw [HB.out]; simp; omega, rfl⟩

theorem wrap_in (z : Int) (h1 : -9223372036854775808 ≤ z) (h2 : z ≤ 9223372036854775807) : IntKind.i64.wrap z = z := IntWalk.i64_in _ ⟨h1, h2⟩
set_option maxRecDepth 100000 in
theorem Mod_any (a b : Int) (ha : In64 a) (h1 : 1 ≤ b) (h2 : b ≤ 4611686018427387904) (w : World) : Calls Try.prog 14 #[I a, I b] w fun e w' => e = .returned (I (a % b)) ∧ w = w' := by
  obtain ⟨a1, a2⟩ := ha
  have hb0 : ¬ b = 0 := by omega
  have hlo : -b < a.tmod b ∧ a.tmod b < b := by
    have h3 := Int.emod_nonneg (-a) hb0
    have h4 := Int.emod_lt_of_pos (-a) (show 0 < b by omega)
    have h5 := Int.emod_nonneg a hb0
    have h6 := Int.emod_lt_of_pos a (show 0 < b by omega)
    rcases Int.le_total 0 a with h | h
    · rw [Int.tmod_eq_emod_of_nonneg h]; omega
    · have : a.tmod b = -((-a) % b) := by
        rw [← Int.tmod_eq_emod_of_nonneg (by omega), Int.neg_tmod, Int.neg_neg]
      omega
  have hr : (a.tmod b + b).tmod b = a % b := by
    rw [Int.tmod_eq_emod_of_nonneg (by omega), Int.add_emod_right]
    rcases Int.le_total 0 a with h | h
    · rw [Int.tmod_eq_emod_of_nonneg h, Int.emod_emod]
    · have : a.tmod b = -((-a) % b) := by
        rw [← Int.tmod_eq_emod_of_nonneg (by omega), Int.neg_tmod, Int.neg_neg]
      rw [this]
      have h7 : (-a) % b = -a - b * ((-a) / b) := Int.emod_def ..
      rw [h7, show -(-a - b * ((-a) / b)) = a + b * ((-a) / b) by omega, Int.add_mul_emod_self_left]
  have hw : IntKind.i64.wrap (a.tmod b + b) = a.tmod b + b := wrap_in _ (by omega) (by omega)
  obtain ⟨q, hq⟩ : ∃ q, a.tmod b = q := ⟨_, rfl⟩
  rw [hq] at hw hlo hr
  have h3 : 0 ≤ q + b := by omega
  go_enter Try.func14, Try.ntmps14
  go_wp2_with fail
  go_ret
  exact ⟨rfl, rfl⟩
end Go.Proofs.Ytdnabeldaighgaa
