/- A set of numbers as a map[int]bool of the call's own. Conditions: sizes. -/
import Derived.Test.YtdnabeldaighgaaShr
import Derived.Maps.OwnOps
import Derived.Maps.OwnSet
namespace Go.Proofs.Ytdnabeldaighgaa
open Go.RowKit Go.Shelf Shr Go.Maps Go.WideElems Go.ChangeMaps Go.WideShapes

theorem plainElem_bool_inv {H : Type} {P : Program} {e : TypeId} (he : P.underlying e = some .bool) {v : Value} {z : DataW H × List MemPlace} (h : plainElem P e v = some z) : ∃ x, v = .bool x ∧ z = (.lit (.bool x), []) := by
  unfold plainElem at h
  rw [he] at h
  cases v <;> simp at h
  subst h
  exact ⟨_, rfl, rfl⟩
theorem intKeyed : Keyed Try.prog 3 := int_keyed Try.underlying3
/-- Block b is a map in which the numbers of S are. -/
def Seen (w : World) (b n : Nat) (S : Int → Bool) : Prop := ∃ D : DataW Unit, w.ownsMap Try.prog 3 (plainElem Try.prog 4) b n D ∧ IsMap D ∧ ∀ x, D.atKey (.int .i64 x) (.lit (.bool false)) = .lit (.bool (S x))
theorem Seen.new (w : World) : Seen (w.alloc (.map #[] 0)) w.heap.size 0 (fun _ => false) := ⟨.map [], World.ownsMap_made w _ _ _, isMap_empty, fun _ => rfl⟩
theorem Seen.kept {w w' : World} {b n : Nat} {S : Int → Bool} {r : Option Nat} (h : Seen w b n S) (hg : w.grownBy w' r) (hne : some b ≠ r) : Seen w' b n S := by
  obtain ⟨D, h1, h2, h3⟩ := h
  exact ⟨D, h1.kept hg hne, h2, h3⟩
theorem Seen.lt {w : World} {b n : Nat} {S : Int → Bool} (h : Seen w b n S) : b < w.heap.size := by
  obtain ⟨D, h1, _⟩ := h
  exact h1.lt
theorem wf64 {x : Int} (h : In64 x) : (Lit.int .i64 x).wf = true := by
  obtain ⟨h1, h2⟩ := h
  simp [Lit.wf, IntKind.min, IntKind.max, IntKind.signed, IntKind.bits]
  omega
theorem zeroBool (w : World) : (zeroValue 4).run Try.prog w = .ok (.bool false) w := by go_simp
theorem Seen.lookup {w : World} {b n : Nat} {S : Int → Bool} (h : Seen w b n S) {x : Int} (hx : In64 x) : (Instr.lookup 55 (.map (some b)) (I x) false).run Try.prog w = .ok (.bool (S x)) w := by
  obtain ⟨D, h1, _, h3⟩ := h
  obtain ⟨v, ps, hr, hv⟩ := h1.lookup intKeyed Try.underlying55 (zeroBool w) (plainElem_bool Try.underlying4 false) (keyOf_int_mk Try.underlying3 (wf64 hx))
  obtain ⟨y, rfl, e⟩ := plainElem_bool_inv Try.underlying4 hv
  rw [h3 x] at e
  simp at e
  rw [hr, e.1]
theorem Seen.update {w : World} {b n : Nat} {S : Int → Bool} (h : Seen w b n S) {x : Int} (hx : In64 x) (hn : n < maxLen) : ∃ w', (Instr.mapUpdate 55 (.map (some b)) (I x) (.bool true)).run Try.prog w = .ok () w' ∧ Seen w' b (n + 1) (fun z => decide (z = x) || S z) ∧ w.grownBy w' (some b) := by
  obtain ⟨D, h1, h2, h3⟩ := h
  obtain ⟨w', hr, ho, hg⟩ := h1.update intKeyed Try.underlying55 hn (keyOf_int_mk Try.underlying3 (wf64 hx)) (plainElem_bool Try.underlying4 true)
  refine ⟨w', hr, ⟨_, ho, h2.put _ _, fun z => ?_⟩, hg⟩
  by_cases e : z = x
  · subst e
    rw [atKey_put_same h2 (show WideAt.IsKeyLit (.int .i64 z) from trivial)]
    simp
  · rw [atKey_put_other (by simpa using e), h3 z]
    simp [e]
end Go.Proofs.Ytdnabeldaighgaa
