/- Equality of hashes. No function here. Conditions: none. -/
import Derived.Test.YtjekdeikoebmgaaRefF
import Derived.ChangeKeysEq
namespace Go.Proofs.Ytjekdeikoebmgaa
open Go.RowKit Go.Shelf

theorem cells5 : Try.prog.cellsOf 5 = 1 := by kernel_rfl
theorem run_part_byte (l : List UInt8) (i : Nat) (x : UInt8) (h : l[i]? = some x) (w : World) : (part 5 (hrow l) i).run Try.prog w = .ok (Y x) w := by
  simp [part, hrow_get l i x h]
theorem run_eqItems_bytes (d : Nat) (a b : List UInt8) (w : World) : ∀ is : List Nat, (∀ i ∈ is, i < a.length ∧ i < b.length) →
    (Op.eqItems (d + 1) 5 1 (hrow a) (hrow b) is).run Try.prog w = .ok (is.all fun i => a[i]? == b[i]?) w
  | [], _ => by simp [Op.eqItems]
  | i :: is, h => by
    obtain ⟨ha, hb⟩ := h i (by simp)
    have ih := run_eqItems_bytes d a b w is (fun j hj => h j (by simp [hj]))
    have e1 := run_part_byte a i (a[i]'ha) (List.getElem?_eq_getElem ha) w
    have e2 := run_part_byte b i (b[i]'hb) (List.getElem?_eq_getElem hb) w
    have e3 := run_equalIn_int w d 5 .u8 .u8 (((a[i]'ha).toNat : Nat) : Int) (((b[i]'hb).toNat : Nat) : Int) Try.underlying5
    simp only [Op.eqItems, Sem.run_bind, Nat.mul_one, e1, e2, e3, Result.andThen_ok]
    rw [List.all_cons, List.getElem?_eq_getElem ha, List.getElem?_eq_getElem hb]
    by_cases hab : a[i]'ha = b[i]'hb
    · simp [hab, ih]
    · have h1 : ¬ ((((a[i]'ha).toNat : Nat) : Int) = (((b[i]'hb).toNat : Nat) : Int)) := fun e => hab (UInt8.toNat_inj.1 (by omega))
      simp [h1, hab]
theorem run_eq_hash (a b : List UInt8) (ha : a.length = 32) (hb : b.length = 32) (w : World) :
    (Op.equalIn 10000 24 (.agg (hrow a)) (.agg (hrow b))).run Try.prog w = .ok (a == b) w := by
  obtain ⟨i0, hi, _⟩ := info_parts infoB
  rw [run_equalIn_array w 9999 _ _ Try.underlying24 hi, cells5, run_eqItems_bytes 9998 a b w (List.range 32) (fun i hi => by rw [List.mem_range] at hi; omega)]
  congr 1
  rw [Bool.eq_iff_iff, List.all_eq_true, beq_iff_eq]
  constructor
  · intro h
    apply List.ext_getElem?
    intro i
    by_cases hi : i < 32
    · have := h i (List.mem_range.2 hi)
      simpa using this
    · rw [List.getElem?_eq_none (by omega), List.getElem?_eq_none (by omega)]
  · rintro rfl i _
    simp

end Go.Proofs.Ytjekdeikoebmgaa
