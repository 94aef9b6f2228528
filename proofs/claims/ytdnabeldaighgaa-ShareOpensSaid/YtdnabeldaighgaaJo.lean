/- What the checks of Join find. No program here. -/
import Derived.Test.YtdnabeldaighgaaJn
namespace Go.Proofs.Ytdnabeldaighgaa
open Shr

/-- The first n shares are in range, and no two have one X. -/
def JP (l : List (Int × Int)) (n : Nat) : Prop := ∀ j, j < n → (∀ p, l[j]? = some p → insd p = true) ∧ ∀ k, k < j → Xf l k ≠ Xf l j
theorem JP.zero (l : List (Int × Int)) : JP l 0 := fun j hj => absurd hj (by omega)
theorem JP.succ {l : List (Int × Int)} {n : Nat} {p : Int × Int} (h : JP l n) (hp : l[n]? = some p) (hi : insd p = true) (ha : ∀ k, k < n → Xf l k ≠ Xf l n) : JP l (n + 1) := fun j hj => by
  by_cases hjn : j < n
  · exact h j hjn
  · obtain rfl : j = n := by omega
    exact ⟨fun q hq => by rw [hp] at hq; injection hq with hq; rw [← hq]; exact hi, ha⟩
theorem jok_of {l : List (Int × Int)} {n : Nat} (hn : n ≤ l.length) (h : JP l n) : jok (l.take n) = true := by
  unfold jok
  rw [Bool.and_eq_true, List.all_eq_true]
  refine ⟨fun p hp => ?_, decide_eq_true ?_⟩
  · obtain ⟨j, hj, rfl⟩ := List.getElem_of_mem hp
    rw [List.length_take] at hj
    rw [List.getElem_take]
    exact (h j (by omega)).1 _ (List.getElem?_eq_getElem _)
  · refine List.pairwise_iff_getElem.2 fun i j hi hj hij e => ?_
    rw [List.length_map, List.length_take] at hi hj
    refine (h j (by omega)).2 i hij ?_
    rw [Xf_get l i (by omega), Xf_get l j (by omega)]
    simpa using e
theorem jok_bad1 {l : List (Int × Int)} {n j : Nat} {p : Int × Int} (hj : j < n) (hp : l[j]? = some p) (hi : insd p = false) : jok (l.take n) = false := by
  unfold jok
  rw [Bool.and_eq_false_iff]
  refine .inl ?_
  rw [List.all_eq_false]
  refine ⟨p, ?_, by rw [hi]; simp⟩
  have : (l.take n)[j]? = some p := by rw [List.getElem?_take, if_pos hj]; exact hp
  exact List.mem_of_getElem? this
theorem jok_bad2 {l : List (Int × Int)} {n j k : Nat} (hn : n ≤ l.length) (hj : j < n) (hk : k < j) (e : Xf l k = Xf l j) : jok (l.take n) = false := by
  unfold jok
  rw [Bool.and_eq_false_iff]
  refine .inr (decide_eq_false fun h => ?_)
  have h2 := List.pairwise_iff_getElem.1 h k j (by rw [List.length_map, List.length_take]; omega) (by rw [List.length_map, List.length_take]; omega) hk
  rw [Xf_get l k (by omega), Xf_get l j (by omega)] at e
  exact h2 (by simpa using e)
theorem Xf_take (l : List (Int × Int)) (n k : Nat) (h : k < n) : Xf (l.take n) k = Xf l k := by
  unfold Xf; rw [List.getD_eq_getElem?_getD, List.getD_eq_getElem?_getD, List.getElem?_take, if_pos h]
theorem Yf_take (l : List (Int × Int)) (n k : Nat) (h : k < n) : Yf (l.take n) k = Yf l k := by
  unfold Yf; rw [List.getD_eq_getElem?_getD, List.getD_eq_getElem?_getD, List.getElem?_take, if_pos h]
theorem Xf_of {l : List (Int × Int)} {k : Nat} {p : Int × Int} (h : l[k]? = some p) : Xf l k = p.1 := by unfold Xf; rw [List.getD_eq_getElem?_getD, h]; rfl
theorem Yf_of {l : List (Int × Int)} {k : Nat} {p : Int × Int} (h : l[k]? = some p) : Yf l k = p.2 := by unfold Yf; rw [List.getD_eq_getElem?_getD, h]; rfl
theorem joinS_no {need : Int} {l : List (Int × Int)} (h : need < 1 ∨ (l.length : Int) < need) : joinS need l = (0, false) := by unfold joinS; rw [if_pos h]
theorem joinS_bad {n : Nat} {l : List (Int × Int)} (h1 : 1 ≤ n) (h2 : n ≤ l.length) (h : jok (l.take n) = false) : joinS (n : Int) l = (0, false) := by
  unfold joinS; rw [if_neg (by omega), Int.toNat_natCast, h]; rfl
theorem joinS_ok {n : Nat} {l : List (Int × Int)} (h1 : 1 ≤ n) (h2 : n ≤ l.length) (h : jok (l.take n) = true) : joinS (n : Int) l = (jval (l.take n), true) := by
  unfold joinS; rw [if_neg (by omega), Int.toNat_natCast, h]; rfl
theorem abv_in (l : List (Int × Int)) (i : Nat) (hy : ∀ k, -9223372036854775808 ≤ Yf l k ∧ Yf l k ≤ 9223372036854775807) : ∀ k, In64 (abv l i k)
  | 0 => hy i
  | k + 1 => by
    unfold abv
    split
    · exact abv_in l i hy k
    · exact mulS_in (by decide)
theorem blo_in (l : List (Int × Int)) (i : Nat) : ∀ k, In64 (blo l i k)
  | 0 => by unfold blo; exact ⟨by decide, by decide⟩
  | k + 1 => by
    unfold blo
    split
    · exact blo_in l i k
    · exact mulS_in (by decide)
end Go.Proofs.Ytdnabeldaighgaa
