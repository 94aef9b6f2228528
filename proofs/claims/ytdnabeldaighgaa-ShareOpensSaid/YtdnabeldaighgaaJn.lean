/- Joining shares by two schemes gives the same. No program here. -/
import Derived.Test.YtdnabeldaighgaaCof
namespace Go.Proofs.Ytdnabeldaighgaa
open Shr Pol

namespace Shr
def Xf (l : List (Int × Int)) (k : Nat) : Int := (l.getD k (0, 0)).1
def Yf (l : List (Int × Int)) (k : Nat) : Int := (l.getD k (0, 0)).2
def inq (z : Int) : Int := (Fld.invS z QZ).1
def jok (l : List (Int × Int)) : Bool := l.all insd && decide (l.map Prod.fst).Nodup
/-- Neville's scheme. -/
def jval (l : List (Int × Int)) : Int := nv QZ inq (Xf l) (Yf l) (l.length - 1) 0
def joinS (need : Int) (l : List (Int × Int)) : Int × Bool := if need < 1 ∨ (l.length : Int) < need then (0, false) else if jok (l.take need.toNat) then (jval (l.take need.toNat), true) else (0, false)
/-- Lagrange's formula, as the reference computes it. -/
def abv (l : List (Int × Int)) (i : Nat) : Nat → Int
  | 0 => Yf l i
  | k + 1 => if k = i then abv l i k else Fld.mulS (abv l i k) (Xf l k) QZ
def blo (l : List (Int × Int)) (i : Nat) : Nat → Int
  | 0 => 1
  | k + 1 => if k = i then blo l i k else Fld.mulS (blo l i k) (Fld.subS (Xf l k) (Xf l i) QZ) QZ
def lago (l : List (Int × Int)) : Nat → Int
  | 0 => 0
  | i + 1 => Fld.addS (lago l i) (Fld.mulS (abv l i l.length) (inq (blo l i l.length)) QZ) QZ
end Shr
theorem subS_q (a b : Int) : Fld.subS a b QZ = (a - b) % QZ := by unfold Fld.subS; rw [if_neg (by decide)]
theorem cg_mul {m a b c d : Int} (h : m ∣ a - b) (k : m ∣ c - d) : m ∣ a * c - b * d := by
  have h1 := Int.dvd_add (Int.dvd_trans h (Int.dvd_mul_right _ c)) (Int.dvd_trans k (Int.dvd_mul_left b _))
  rwa [Int.sub_mul, Int.mul_sub, show a * c - b * c + (b * c - b * d) = a * c - b * d by omega] at h1
theorem cg_add {m a b c d : Int} (h : m ∣ a - b) (k : m ∣ c - d) : m ∣ (a + c) - (b + d) := by
  have h1 := Int.dvd_add h k
  rwa [show a - b + (c - d) = a + c - (b + d) by omega] at h1
theorem cg_trans {m a b c : Int} (h : m ∣ a - b) (k : m ∣ b - c) : m ∣ a - c := by
  have h1 := Int.dvd_add h k
  rwa [show a - b + (b - c) = a - c by omega] at h1
theorem cg_mod (z : Int) : QZ ∣ z % QZ - z := emod_dvd' QZ z
theorem cg_refl (m z : Int) : m ∣ z - z := by rw [Int.sub_self]; exact Int.dvd_zero m
theorem abv_cg (l : List (Int × Int)) (i : Nat) : ∀ k, QZ ∣ abv l i k - Yf l i * lprod (Xf l) i 0 k
  | 0 => by show QZ ∣ Yf l i - Yf l i * 1; rw [Int.mul_one]; exact cg_refl _ _
  | k + 1 => by
    have ih := abv_cg l i k
    unfold abv lprod
    split
    · exact ih
    · rw [mulS_q, Int.sub_zero]
      refine cg_trans (cg_mod _) ?_
      have := cg_mul ih (cg_refl QZ (Xf l k))
      rwa [show Yf l i * lprod (Xf l) i 0 k * Xf l k = Yf l i * (Xf l k * lprod (Xf l) i 0 k) by rw [Int.mul_assoc, Int.mul_comm (lprod _ _ _ _)]] at this
theorem blo_cg (l : List (Int × Int)) (i : Nat) : ∀ k, QZ ∣ blo l i k - lprod (Xf l) i (Xf l i) k
  | 0 => cg_refl _ _
  | k + 1 => by
    have ih := blo_cg l i k
    unfold blo lprod
    split
    · exact ih
    · rw [mulS_q, subS_q, Int.mul_comm (Xf l k - Xf l i)]
      exact cg_trans (cg_mod _) (cg_mul ih (cg_mod _))
theorem inq_cg {a : Int} (h : a % QZ ≠ 0) : QZ ∣ a * inq a - 1 := by
  have h1 := (FldP.inv_QQ a).2 h
  have h2 := (Fld.invS_spec a QZ (by decide)).2.2.2 h1
  have h3 : (a * inq a) % QZ = 1 := h2
  rw [← h3]
  exact emod_dvd QZ _
theorem lprod_ne (X : Nat → Int) (i : Nat) (n : Nat) (hd : ∀ k, k < n → k ≠ i → ¬ QZ ∣ X k - X i) : ∀ k, k ≤ n → ¬ QZ ∣ lprod X i (X i) k
  | 0, _ => by
    show ¬ QZ ∣ 1
    intro h
    have := Int.le_of_dvd (by decide) h
    exact absurd this (by decide)
  | k + 1, hk => by
    have ih := lprod_ne X i n hd k (by omega)
    unfold lprod
    split
    · exact ih
    · intro h
      rcases FldP.qq_prime h with h | h
      · exact hd k (by omega) (by assumption) h
      · exact ih h
theorem lago_cg (l : List (Int × Int)) (n : Nat) (hn : l.length = n) : ∀ k, QZ ∣ lago l k - lsum (Xf l) (Yf l) (fun j => inq (blo l j n)) n 0 k
  | 0 => cg_refl _ _
  | k + 1 => by
    have ih := lago_cg l n hn k
    unfold lago lsum
    rw [addS_q, mulS_q, hn]
    refine cg_trans (cg_mod _) (cg_add ih (cg_trans (cg_mod _) ?_))
    have := cg_mul (abv_cg l k n) (cg_refl QZ (inq (blo l k n)))
    rwa [show Yf l k * lprod (Xf l) k 0 n * inq (blo l k n) = Yf l k * inq (blo l k n) * lprod (Xf l) k 0 n by rw [Int.mul_assoc, Int.mul_comm (lprod _ _ _ _), ← Int.mul_assoc]] at this
theorem lago_range (l : List (Int × Int)) (k : Nat) : 0 ≤ lago l k ∧ lago l k < QZ := by
  cases k with
  | zero => unfold lago; exact ⟨by decide, by decide⟩
  | succ k =>
    unfold lago
    rw [addS_q]
    exact ⟨Int.emod_nonneg _ (by decide), Int.emod_lt_of_pos _ (by decide)⟩
theorem insd_parts {p : Int × Int} (h : insd p = true) : 0 < p.1 ∧ p.1 < QZ ∧ 0 ≤ p.2 ∧ p.2 < QZ := by
  unfold insd blw at h
  simp only [Bool.and_eq_true, decide_eq_true_eq] at h
  exact ⟨h.1.1, h.1.2.2, h.2.1, h.2.2⟩
theorem Xf_get (l : List (Int × Int)) (k : Nat) (hk : k < l.length) : Xf l k = l[k].1 := by
  unfold Xf; rw [List.getD_eq_getElem?_getD, List.getElem?_eq_getElem hk]; rfl
theorem Yf_get (l : List (Int × Int)) (k : Nat) (hk : k < l.length) : Yf l k = l[k].2 := by
  unfold Yf; rw [List.getD_eq_getElem?_getD, List.getElem?_eq_getElem hk]; rfl
theorem jok_inside {l : List (Int × Int)} (h : jok l = true) (k : Nat) (hk : k < l.length) : insd l[k] = true := by
  unfold jok at h
  rw [Bool.and_eq_true, List.all_eq_true] at h
  exact h.1 _ (List.getElem_mem hk)
theorem jok_apart {l : List (Int × Int)} (h : jok l = true) (i j : Nat) (hi : i < l.length) (hj : j < l.length) (hij : i ≠ j) : ¬ QZ ∣ Xf l j - Xf l i := by
  have hn : (l.map Prod.fst).Nodup := by
    unfold jok at h
    rw [Bool.and_eq_true] at h
    exact of_decide_eq_true h.2
  obtain ⟨a1, a2, _⟩ := insd_parts (jok_inside h i hi)
  obtain ⟨b1, b2, _⟩ := insd_parts (jok_inside h j hj)
  rw [← Xf_get l i hi] at a1 a2
  rw [← Xf_get l j hj] at b1 b2
  rintro ⟨c, hc⟩
  have hne : Xf l i ≠ Xf l j := by
    intro e
    rw [Xf_get l i hi, Xf_get l j hj] at e
    have hp := List.pairwise_iff_getElem.1 hn
    rcases Nat.lt_or_gt_of_ne hij with h3 | h3
    · exact hp i j (by simpa using hi) (by simpa using hj) h3 (by simpa using e)
    · exact hp j i (by simpa using hj) (by simpa using hi) h3 (by simpa using e.symm)
  have hq : (0 : Int) < QZ := by decide
  rcases Int.lt_trichotomy c 0 with h1 | h1 | h1
  · have : QZ * c ≤ QZ * (-1) := Int.mul_le_mul_of_nonneg_left (by omega) (by omega)
    omega
  · subst h1; rw [Int.mul_zero] at hc; omega
  · have : QZ * 1 ≤ QZ * c := Int.mul_le_mul_of_nonneg_left (by omega) (by omega)
    omega
/-- The two schemes give the same. -/
theorem lago_jval (l : List (Int × Int)) (h : jok l = true) (h1 : 1 ≤ l.length) : lago l l.length = jval l := by
  obtain ⟨n, hn⟩ : ∃ n, l.length = n + 1 := ⟨l.length - 1, by omega⟩
  have hap := jok_apart h
  rw [hn] at hap
  have hinv : ∀ i j, i < j → j < n + 1 → QZ ∣ (Xf l j - Xf l i) * inq ((Xf l j - Xf l i) % QZ) - 1 := fun i j hij hj => by
    have h2 := hap i j (by omega) hj (by omega)
    have h3 : ((Xf l j - Xf l i) % QZ) % QZ ≠ 0 := by rw [Int.emod_emod]; exact fun e => h2 (Int.dvd_of_emod_eq_zero e)
    exact cg_trans (cg_mul (emod_dvd QZ _) (cg_refl _ _)) (inq_cg h3)
  have hv : ∀ j, j < n + 1 → QZ ∣ inq (blo l j (n + 1)) * lprod (Xf l) j (Xf l j) (n + 1) - 1 := fun j hj => by
    have h2 := lprod_ne (Xf l) j (n + 1) (fun k hk hkj => hap j k hj hk (Ne.symm hkj)) (n + 1) (Nat.le_refl _)
    have h3 := blo_cg l j (n + 1)
    have h4 : blo l j (n + 1) % QZ ≠ 0 := fun e => h2 (by
      have := Int.dvd_sub (Int.dvd_of_emod_eq_zero e) h3
      rwa [show blo l j (n + 1) - (blo l j (n + 1) - lprod (Xf l) j (Xf l j) (n + 1)) = lprod (Xf l) j (Xf l j) (n + 1) by omega] at this)
    have h5 := inq_cg h4
    rw [Int.mul_comm] at h5
    refine cg_trans ?_ h5
    refine cg_mul (cg_refl _ _) ?_
    have := Int.dvd_neg.2 h3
    rwa [Int.neg_sub] at this
  have key := nv_lagrange (m := QZ) (fun u v => FldP.qq_prime) (inv := inq) (X := Xf l) (Y := Yf l) (n := n) hinv (fun i j hij hj => hap i j (by omega) hj (by omega)) (v := fun j => inq (blo l j (n + 1))) hv
  have k2 := cg_trans (lago_cg l (n + 1) hn (n + 1)) key
  have r1 := lago_range l (n + 1)
  have r2 : 0 ≤ nv QZ inq (Xf l) (Yf l) n 0 ∧ nv QZ inq (Xf l) (Yf l) n 0 < QZ := by
    cases n with
    | zero =>
      obtain ⟨_, _, c1, c2⟩ := insd_parts (jok_inside h 0 (by omega))
      show 0 ≤ Yf l 0 ∧ Yf l 0 < QZ
      rw [Yf_get l 0 (by omega)]
      exact ⟨c1, c2⟩
    | succ n =>
      unfold nv
      exact ⟨Int.emod_nonneg _ (by decide), Int.emod_lt_of_pos _ (by decide)⟩
  unfold jval
  rw [hn, Nat.add_sub_cancel]
  generalize lago l (n + 1) = A at *
  generalize nv QZ inq (Xf l) (Yf l) n 0 = B at *
  obtain ⟨c, hc⟩ := k2
  rcases Int.lt_trichotomy c 0 with h2 | h2 | h2
  · have : QZ * c ≤ QZ * (-1) := Int.mul_le_mul_of_nonneg_left (by omega) (by decide)
    omega
  · subst h2; rw [Int.mul_zero] at hc; omega
  · have : QZ * 1 ≤ QZ * c := Int.mul_le_mul_of_nonneg_left (by omega) (by decide)
    omega
end Go.Proofs.Ytdnabeldaighgaa
