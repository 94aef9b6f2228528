/- The contracts of Member; ranges of results. Conditions: none but the range of int. -/
import Derived.Test.YtdnabeldaighgaaPowB
namespace Go.Proofs.Ytdnabeldaighgaa
open Go.RowKit Go.Shelf

theorem PP_le : FldP.PP ≤ 9223372036854775807 := by decide
theorem QQ_in : In64 FldP.QQ := ⟨by decide, by decide⟩
/-- A call behind which all that lay in w lies as it lay. -/
theorem Calls.chain {P : Program} {f : FuncId} {args : Array Value} {w w1 : World} {v : Value} (hB : Below w.heap.size w w1)
    (h : Calls P f args w1 fun e w' => e = .returned v ∧ Below w1.heap.size w1 w') : Calls P f args w1 fun e w' => e = .returned v ∧ Below w.heap.size w w' :=
  h.mono fun _ _ ⟨he, hb⟩ => ⟨he, hB.trans (hb.mono hB.size)⟩
theorem Calls.still {P : Program} {f : FuncId} {args : Array Value} {w w1 : World} {v : Value} (hB : Below w.heap.size w w1)
    (h : Calls P f args w1 fun e w' => e = .returned v ∧ w1 = w') : Calls P f args w1 fun e w' => e = .returned v ∧ Below w.heap.size w w' :=
  h.mono fun _ _ ⟨he, hb⟩ => ⟨he, hb ▸ hB⟩

theorem memS_no {a : Int} (h : ¬ (0 < a ∧ a < FldP.PP)) : FldP.memS a = false := by
  rw [← Bool.not_eq_true, FldP.memS_iff]; exact fun k => h ⟨k.1, k.2.1⟩
theorem memS_yes {a : Int} (h1 : 0 < a) (h2 : a < FldP.PP) : FldP.memS a = (Fld.powS a FldP.QQ FldP.PP == 1) := by
  unfold FldP.memS
  rw [decide_eq_true h1, decide_eq_true h2]; rfl

set_option maxHeartbeats 400000 in
theorem Member_any (a : Int) (ha : In64 a) (w : World) :
    Calls Try.prog 55 #[I a] w fun e w' => e = .returned (.bool (FldP.memS a)) ∧ Below w.heap.size w w' := by
  by_cases h1 : 0 < a
  · by_cases h2 : a < 2305843009213691579
    · rw [memS_yes h1 h2]
      have HP := Lib.hid (fun w => Pow_any a FldP.QQ FldP.PP ha QQ_in PP_le w)
      generalize Fld.powS a FldP.QQ FldP.PP = p at *
      go_enter Try.func55, Try.ntmps55
      go_wp2_with fail
      refine (HP.out _).mono ?_; rintro e w1 ⟨rfl, hb⟩
      go_wp2_with fail
      go_ret
      exact ⟨rfl, hb⟩
    · rw [memS_no (fun h => h2 h.2)]
      have h3 : decide (a < 2305843009213691579) = false := by simpa using h2
      go_enter Try.func55, Try.ntmps55
      go_wp2_with fail
      go_ret
      exact ⟨rfl, Below.refl _ w⟩
  · rw [memS_no (fun h => h1 h.1)]
    have h3 : decide (0 < a) = false := by simpa using h1
    go_enter Try.func55, Try.ntmps55
    go_wp2_with fail
    go_ret
    exact ⟨rfl, Below.refl _ w⟩

set_option maxHeartbeats 400000 in
theorem RMember_any (a : Int) (ha : In64 a) (w : World) :
    Calls Try.prog 60 #[I a] w fun e w' => e = .returned (.bool (FldP.memS a)) ∧ w = w' := by
  by_cases h1 : 1 ≤ a
  · by_cases h2 : a < 2305843009213691579
    · rw [memS_yes (by omega) h2]
      have HP := Lib.hid (fun w => RPow_any a FldP.QQ FldP.PP ha QQ_in PP_le w)
      generalize Fld.powS a FldP.QQ FldP.PP = p at *
      go_enter Try.func60, Try.ntmps60
      go_wp2_with fail
      refine (HP.out _).mono ?_; rintro e w1 ⟨rfl, rfl⟩
      go_wp2_with fail
      go_ret
      exact ⟨rfl, rfl⟩
    · rw [memS_no (fun h => h2 h.2)]
      have h3 : decide (a < 2305843009213691579) = false := by simpa using h2
      go_enter Try.func60, Try.ntmps60
      go_wp2_with fail
      go_ret
      exact ⟨rfl, rfl⟩
  · rw [memS_no (fun h => h1 h.1)]
    have h3 : decide (1 ≤ a) = false := by simpa using h1
    go_enter Try.func60, Try.ntmps60
    go_wp2_with fail
    go_ret
    exact ⟨rfl, rfl⟩

theorem addS_in {a b m : Int} (hm : m ≤ 9223372036854775807) : In64 (Fld.addS a b m) := by
  unfold Fld.addS; split
  · exact ⟨by omega, by omega⟩
  · have := emod_bd (a + b) (show 1 ≤ m by omega); exact ⟨by omega, by omega⟩
theorem subS_in {a b m : Int} (hm : m ≤ 9223372036854775807) : In64 (Fld.subS a b m) := by
  unfold Fld.subS; split
  · exact ⟨by omega, by omega⟩
  · have := emod_bd (a - b) (show 1 ≤ m by omega); exact ⟨by omega, by omega⟩
theorem mulS_in {a b m : Int} (hm : m ≤ 9223372036854775807) : In64 (Fld.mulS a b m) := by
  unfold Fld.mulS; split
  · exact ⟨by omega, by omega⟩
  · have := emod_bd (a * b) (show 1 ≤ m by omega); exact ⟨by omega, by omega⟩
theorem powS_in {a n m : Int} (hm : m ≤ 9223372036854775807) : In64 (Fld.powS a n m) := by
  unfold Fld.powS; split
  · exact ⟨by omega, by omega⟩
  · have := emod_bd (Fld.pw m 64 (a % m) n.toNat (1 % m)) (show 1 ≤ m by omega); exact ⟨by omega, by omega⟩
theorem pow_add_any (a i j m : Int) (hi : 0 ≤ i) (hj : 0 ≤ j) (h : i + j < 4611686018427387904) : Fld.mulS (Fld.powS a i m) (Fld.powS a j m) m = Fld.powS a (i + j) m := by
  by_cases hm : 1 ≤ m
  · exact (FldP.powS_add a i j m hm hi hj h).symm
  · rw [Fld.mulS, if_pos (by omega), Fld.powS, if_pos (.inl (by omega))]

end Go.Proofs.Ytdnabeldaighgaa
