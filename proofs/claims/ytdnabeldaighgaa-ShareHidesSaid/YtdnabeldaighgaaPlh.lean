/- With one share too few every secret is possible. No program here. Conditions: none. -/
import Derived.Test.YtdnabeldaighgaaPlb
namespace Go.Proofs.Ytdnabeldaighgaa
open Shr Pol

theorem abv_congr {l l' : List (Int × Int)} {i : Nat} (hX : ∀ k, Xf l k = Xf l' k) (hY : Yf l i = Yf l' i) : ∀ k, abv l i k = abv l' i k
  | 0 => hY
  | k + 1 => by
    have ih := abv_congr hX hY k
    unfold abv
    rw [ih, hX k]
theorem blo_congr {l l' : List (Int × Int)} {i : Nat} (hX : ∀ k, Xf l k = Xf l' k) : ∀ k, blo l i k = blo l' i k
  | 0 => rfl
  | k + 1 => by
    have ih := blo_congr (i := i) hX k
    unfold blo
    rw [ih, hX k, hX i]
theorem lago_congr {l l' : List (Int × Int)} (hl : l.length = l'.length) (hX : ∀ k, Xf l k = Xf l' k) (m : Nat) (hY : ∀ i, i < m → Yf l i = Yf l' i) : ∀ k, k ≤ m → lago l k = lago l' k
  | 0, _ => rfl
  | k + 1, hk => by
    have ih := lago_congr hl hX m hY k (by omega)
    unfold lago
    rw [ih, hl, abv_congr hX (hY k (by omega)), blo_congr hX]
theorem lprod_zero_ne (X : Nat → Int) (i : Nat) (n : Nat) (hd : ∀ k, k < n → k ≠ i → ¬ QZ ∣ X k) : ∀ k, k ≤ n → ¬ QZ ∣ lprod X i 0 k
  | 0, _ => by
    show ¬ QZ ∣ 1
    intro h
    have := Int.le_of_dvd (by decide) h
    exact absurd this (by decide)
  | k + 1, hk => by
    have ih := lprod_zero_ne X i n hd k (by omega)
    unfold lprod
    split
    · exact ih
    · intro h
      rcases FldP.qq_prime h with h | h
      · rw [Int.sub_zero] at h
        exact hd k (by omega) (by assumption) h
      · exact ih h
theorem no_dvd {x : Int} (h1 : 0 < x) (h2 : x < QZ) : ¬ QZ ∣ x := fun h => by
  have := Int.le_of_dvd h1 h
  omega
/-- One share more, at 77. -/
def w77 (s : List (Int × Int)) (y : Int) : List (Int × Int) := s ++ [(77, y)]
theorem w77_len (s : List (Int × Int)) (y : Int) : (w77 s y).length = s.length + 1 := by unfold w77; simp
theorem w77_X (s : List (Int × Int)) (y y' : Int) (k : Nat) : Xf (w77 s y) k = Xf (w77 s y') k := by
  unfold Xf w77
  rw [List.getD_eq_getElem?_getD, List.getD_eq_getElem?_getD]
  rcases Nat.lt_trichotomy k s.length with h | h | h
  · rw [List.getElem?_append_left h, List.getElem?_append_left h]
  · subst h; simp
  · rw [List.getElem?_eq_none (by simp; omega), List.getElem?_eq_none (by simp; omega)]
theorem w77_Y (s : List (Int × Int)) (y y' : Int) (k : Nat) (h : k < s.length) : Yf (w77 s y) k = Yf (w77 s y') k := by
  unfold Yf w77
  rw [List.getD_eq_getElem?_getD, List.getD_eq_getElem?_getD, List.getElem?_append_left h, List.getElem?_append_left h]
theorem w77_last (s : List (Int × Int)) (y : Int) : Yf (w77 s y) s.length = y := by
  unfold Yf w77
  rw [List.getD_eq_getElem?_getD]; simp
section
variable {s : List (Int × Int)} (hi : ∀ p ∈ s, insd p = true) (hn : (s.map Prod.fst).Nodup) (h77 : ∀ p ∈ s, p.1 ≠ 77)
include hi hn h77
theorem w77_jok {y : Int} (h1 : 0 ≤ y) (h2 : y < QZ) : jok (w77 s y) = true := by
  unfold jok w77
  rw [Bool.and_eq_true, List.all_eq_true]
  refine ⟨fun p hp => ?_, decide_eq_true ?_⟩
  · rcases List.mem_append.1 hp with hp | hp
    · exact hi p hp
    · rw [List.mem_singleton.1 hp]; exact insd_of (by decide) (by decide) h1 h2
  · rw [List.map_append, List.nodup_append]
    refine ⟨hn, by simp, fun a ha b hb => ?_⟩
    obtain ⟨p, hp, rfl⟩ := List.mem_map.1 ha
    simp at hb
    subst hb
    exact h77 p hp
/-- The secret as a line in the last share's Y. -/
theorem w77_line : ∃ A B : Int, ¬ QZ ∣ B ∧ ∀ y, 0 ≤ y → y < QZ → jval (w77 s y) = (A + y * B) % QZ := by
  have hq0 : (0 : Int) < QZ := by decide
  have hj0 := w77_jok hi hn h77 (Int.le_refl 0) hq0
  have hap := jok_apart hj0
  obtain ⟨m, hm⟩ : ∃ m, s.length = m := ⟨_, rfl⟩
  have hl0 := w77_len s 0
  rw [hm] at hl0
  rw [hl0] at hap
  have hX0 : ∀ k, k < m + 1 → k ≠ m → ¬ QZ ∣ Xf (w77 s 0) k := fun k hk _ => by
    have h2 := jok_inside hj0 k (by omega)
    obtain ⟨a, b, _⟩ := insd_parts h2
    rw [Xf_get _ k (by omega)]
    exact no_dvd a b
  have hL := lprod_zero_ne (Xf (w77 s 0)) m (m + 1) hX0 (m + 1) (Nat.le_refl _)
  have hP := lprod_ne (Xf (w77 s 0)) m (m + 1) (fun k hk hkj => hap m k (by omega) hk (Ne.symm hkj)) (m + 1) (Nat.le_refl _)
  have hblo := blo_cg (w77 s 0) m (m + 1)
  have hb4 : blo (w77 s 0) m (m + 1) % QZ ≠ 0 := fun e => hP (by
    have := Int.dvd_sub (Int.dvd_of_emod_eq_zero e) hblo
    rwa [show blo (w77 s 0) m (m + 1) - (blo (w77 s 0) m (m + 1) - lprod (Xf (w77 s 0)) m (Xf (w77 s 0) m) (m + 1)) = lprod (Xf (w77 s 0)) m (Xf (w77 s 0) m) (m + 1) by omega] at this)
  have hinv := inq_cg hb4
  have hW : ¬ QZ ∣ inq (blo (w77 s 0) m (m + 1)) := fun h => by
    have h3 := Int.dvd_sub (Int.dvd_trans h (Int.dvd_mul_left (blo (w77 s 0) m (m + 1)) _)) hinv
    rw [show blo (w77 s 0) m (m + 1) * inq (blo (w77 s 0) m (m + 1)) - (blo (w77 s 0) m (m + 1) * inq (blo (w77 s 0) m (m + 1)) - 1) = 1 by omega] at h3
    have := Int.le_of_dvd (by decide) h3
    exact absurd this (by decide)
  refine ⟨lago (w77 s 0) m, lprod (Xf (w77 s 0)) m 0 (m + 1) * inq (blo (w77 s 0) m (m + 1)), fun h => ?_, fun y hy1 hy2 => ?_⟩
  · rcases FldP.qq_prime h with h | h
    · exact hL h
    · exact hW h
  · have hj := w77_jok hi hn h77 hy1 hy2
    have hl := w77_len s y
    rw [hm] at hl
    have e1 : lago (w77 s y) m = lago (w77 s 0) m := lago_congr (by rw [hl, hl0]) (w77_X s y 0) m (fun i hi => w77_Y s y 0 i (by omega)) m (Nat.le_refl _)
    have e2 : blo (w77 s y) m (m + 1) = blo (w77 s 0) m (m + 1) := blo_congr (w77_X s y 0) _
    have e3 := abv_cg (w77 s y) m (m + 1)
    have e4 : Yf (w77 s y) m = y := by rw [← hm]; exact w77_last s y
    have e5 : lprod (Xf (w77 s y)) m 0 (m + 1) = lprod (Xf (w77 s 0)) m 0 (m + 1) := by
      rw [show Xf (w77 s y) = Xf (w77 s 0) from funext (w77_X s y 0)]
    rw [e4, e5] at e3
    have hr := jval_range hj (by omega)
    have e6 : jval (w77 s y) = (lago (w77 s 0) m + abv (w77 s y) m (m + 1) * inq (blo (w77 s 0) m (m + 1)) % QZ) % QZ := by
      rw [← lago_jval _ hj (by omega), hl]
      show Fld.addS (lago (w77 s y) m) (Fld.mulS (abv (w77 s y) m (w77 s y).length) (inq (blo (w77 s y) m (w77 s y).length)) QZ) QZ = _
      rw [hl, e1, e2, addS_q, mulS_q]
    refine dvd_range_eq ?_ hr ⟨Int.emod_nonneg _ (by decide), Int.emod_lt_of_pos _ (by decide)⟩
    rw [e6]
    refine cg_trans (cg_mod _) ?_
    refine cg_trans (cg_add (cg_refl QZ _) (cg_mod _)) ?_
    refine cg_trans (cg_add (cg_refl QZ _) (cg_mul e3 (cg_refl QZ _))) ?_
    rw [Int.mul_assoc]
    exact emod_dvd QZ _
theorem w77_join {y : Int} (h1 : 0 ≤ y) (h2 : y < QZ) : joinS ((s.length : Int) + 1) (w77 s y) = (jval (w77 s y), true) := by
  have hj := w77_jok hi hn h77 h1 h2
  have hl := w77_len s y
  have := joinS_ok (n := s.length + 1) (l := w77 s y) (by omega) (by omega) (by rw [List.take_of_length_le (by omega)]; exact hj)
  rw [List.take_of_length_le (by omega)] at this
  exact this
/-- The share that joins the others to a number. -/
theorem w77_any {want : Int} (h1 : 0 ≤ want) (h2 : want < QZ) :
    (Fld.invS (Fld.subS (jval (w77 s 1)) (jval (w77 s 0)) QZ) QZ).2 = true ∧ jval (w77 s (Fld.mulS (Fld.subS want (jval (w77 s 0)) QZ) (inq (Fld.subS (jval (w77 s 1)) (jval (w77 s 0)) QZ)) QZ)) = want := by
  obtain ⟨A, B, hB, hline⟩ := w77_line hi hn h77
  have z0 := hline 0 (Int.le_refl _) (by decide)
  have z1 := hline 1 (by decide) (by decide)
  rw [Int.zero_mul, Int.add_zero] at z0
  rw [Int.one_mul] at z1
  have hstep : Fld.subS (jval (w77 s 1)) (jval (w77 s 0)) QZ = B % QZ := by
    rw [subS_q, z0, z1, ← Int.sub_emod]
    congr 1
    omega
  have hs0 : (B % QZ) % QZ ≠ 0 := by rw [Int.emod_emod]; exact fun e => hB (Int.dvd_of_emod_eq_zero e)
  rw [hstep]
  refine ⟨(FldP.inv_QQ _).2 hs0, ?_⟩
  have hinv := inq_cg hs0
  rw [mulS_q, subS_q, z0]
  have hy1 := Int.emod_nonneg ((want - A % QZ) % QZ * inq (B % QZ)) (show QZ ≠ 0 by decide)
  have hy2 := Int.emod_lt_of_pos ((want - A % QZ) % QZ * inq (B % QZ)) (show 0 < QZ by decide)
  rw [hline _ hy1 hy2]
  refine dvd_range_eq ?_ ⟨Int.emod_nonneg _ (by decide), Int.emod_lt_of_pos _ (by decide)⟩ ⟨h1, h2⟩
  refine cg_trans (cg_mod _) ?_
  have k1 : QZ ∣ (want - A % QZ) % QZ * inq (B % QZ) % QZ * B - (want - A) * (B % QZ * inq (B % QZ)) := by
    refine cg_trans (cg_mul (cg_mod _) (cg_refl QZ B)) ?_
    rw [Int.mul_assoc]
    refine cg_mul (cg_trans (cg_mod _) ?_) ?_
    · have := Int.dvd_neg.2 (cg_mod A)
      rwa [show -(A % QZ - A) = want - A % QZ - (want - A) by omega] at this
    · rw [Int.mul_comm (inq (B % QZ)) B]
      exact cg_mul (emod_dvd QZ B) (cg_refl QZ _)
  have k2 : QZ ∣ (want - A) * (B % QZ * inq (B % QZ)) - (want - A) * 1 := cg_mul (cg_refl QZ _) hinv
  have k3 := cg_add (cg_refl QZ A) (cg_trans k1 k2)
  rwa [show A + (want - A) * 1 = want by omega] at k3
end
end Go.Proofs.Ytdnabeldaighgaa
