/- The value of a polynomial, from the top and from the bottom. No program here. -/
import Derived.Test.YtdnabeldaighgaaSpm
import Derived.Test.YtdnabeldaighgaaPol
namespace Go.Proofs.Ytdnabeldaighgaa
open Shr Pol

theorem mulS_q (a b : Int) : Fld.mulS a b QZ = a * b % QZ := by unfold Fld.mulS; rw [if_neg (by decide)]
theorem addS_q (a b : Int) : Fld.addS a b QZ = (a + b) % QZ := by unfold Fld.addS; rw [if_neg (by decide)]
theorem pws_pow (x : Int) (k : Nat) : pws x k % QZ = x ^ k % QZ := by
  induction k with
  | zero => show (1 : Int) % QZ = x ^ 0 % QZ; rw [Int.pow_zero]
  | succ k ih =>
    show Fld.mulS (pws x k) x QZ % QZ = _
    rw [mulS_q, Int.emod_emod, Int.mul_emod, ih, ← Int.mul_emod, Int.pow_succ]
theorem hor_ev (l : List Int) (x : Int) : ∀ k, k ≤ l.length → hor l x k = ev (l.drop (l.length - k)) x % QZ := by
  intro k
  induction k with
  | zero => intro _; rw [Nat.sub_zero, List.drop_length]; rfl
  | succ k ih =>
    intro hk
    have ih := ih (by omega)
    have hlt : l.length - (k + 1) < l.length := by omega
    have hd : l.drop (l.length - (k + 1)) = l[l.length - (k + 1)] :: l.drop (l.length - k) := by
      rw [List.drop_eq_getElem_cons hlt]
      congr 2
      omega
    have hg : l.getD (l.length - 1 - k) 0 = l[l.length - (k + 1)] := by
      rw [List.getD_eq_getElem?_getD, show l.length - 1 - k = l.length - (k + 1) by omega, List.getElem?_eq_getElem hlt]; rfl
    show Fld.addS (Fld.mulS (hor l x k) x QZ) (l.getD (l.length - 1 - k) 0) QZ = _
    rw [hd, hg, ih, addS_q, mulS_q, ev]
    generalize ev (l.drop (l.length - k)) x = E
    generalize l[l.length - (k + 1)] = c
    rw [Int.mul_emod, Int.emod_emod, ← Int.mul_emod, Int.emod_add_emod, Int.add_comm, Int.mul_comm]
theorem pva_ev (l : List Int) (x : Int) : ∀ k, k ≤ l.length → pva l x k = ev (l.take k) x % QZ := by
  intro k
  induction k with
  | zero => intro _; rfl
  | succ k ih =>
    intro hk
    have ih := ih (by omega)
    have hlt : k < l.length := by omega
    have hg : l.getD k 0 = l[k] := by rw [List.getD_eq_getElem?_getD, List.getElem?_eq_getElem hlt]; rfl
    have ht : l.take (k + 1) = l.take k ++ [l[k]] := by rw [List.take_add_one, List.getElem?_eq_getElem hlt]; rfl
    show Fld.addS (pva l x k) (Fld.mulS (l.getD k 0) (pws x k) QZ) QZ = _
    rw [ht, ev_append, hg, ih, addS_q, mulS_q, List.length_take, Nat.min_eq_left (by omega), ev, ev]
    generalize ev (l.take k) x = E
    generalize l[k] = c
    rw [Int.mul_zero, Int.add_zero, Int.emod_add_emod, Int.mul_emod, pws_pow, ← Int.mul_emod, Int.add_emod_emod, Int.mul_comm]
theorem pva_hor (l : List Int) (x : Int) : pva l x l.length = hor l x l.length := by
  rw [pva_ev l x _ (Nat.le_refl _), hor_ev l x _ (Nat.le_refl _), List.take_length, Nat.sub_self, List.drop_zero]
end Go.Proofs.Ytdnabeldaighgaa
