/- A slice of triples of numbers as an argument, opened. Conditions: none. -/
import Derived.Test.YtdnabeldaighgaaHe
namespace Go.Proofs.Ytdnabeldaighgaa
open Go.ChangeShapes Go.WideShapes Go.ChangeAt Go.RowKit Go.Shelf Go.ChangeMaps Shr

theorem int_cells {H : Type} {enc : TypeId × Value → H} {P : Program} {W : World} {base fuel n : Nat} {spare : Nat → Bool} {t e : TypeId} {k : IntKind} {cs : List Value} {x : DataW H × List MemPlace}
    (ht : P.underlying t = some (.array n e)) (he : P.underlying e = some (.int k)) (hc : P.cellsOf e = 1) (hct : P.cellsOf t = n)
    (h : DataW.trod enc P W base spare true fuel t cs = some x) : cs.length = n ∧ ∀ (i : Nat) (v : Value), cs[i]? = some v → ∃ z, v = Value.int k z ∧ (Lit.int k z).wf = true := by
  obtain ⟨xs, m, rfl, hx, hlen, hxs, hel⟩ := DataW.trod_array ht h
  have hcs : cs.length = n := hlen.trans hct
  refine ⟨hcs, fun i v hv => ?_⟩
  obtain ⟨hi, hv⟩ := List.getElem?_eq_some_iff.1 hv
  have h1 := hel i (by omega)
  rw [hc] at h1
  have h2 : ((cs.drop (i * 1)).take 1) = [v] := by
    rw [Nat.mul_one, List.drop_eq_getElem_cons hi, hv]; rfl
  rw [h2] at h1
  clear hel hv h2
  cases m with
  | zero => simp [DataW.trod] at h1; omega
  | succ m =>
    rw [List.getElem?_eq_getElem (by omega)] at h1
    unfold DataW.trod at h1
    rw [he] at h1
    cases v <;> simp at h1
    rename_i k' z
    obtain ⟨⟨rfl, hw⟩, _⟩ := h1
    exact ⟨z, rfl, hw⟩
theorem cellsOf_tri : Try.prog.cellsOf 47 = 3 := by kernel_rfl
theorem Addr.add_lit2 (a : Addr) (i j : Nat) : a.add (i + j) = (a.add i).add j := by
  unfold Addr.add
  by_cases hi : i = 0
  · subst hi; by_cases hj : j = 0 <;> simp [hj]
  · by_cases hj : j = 0 <;> simp [hi, hj, Nat.add_assoc]
/-- Triples as an argument. -/
def TArg (W : World) (v : Value) : Prop := ∃ (a : Option Addr) (n cap : Nat), v = .slice a n cap ∧ n ≤ cap ∧ n ≤ 9223372036854775807 ∧ (0 < n → ∃ g o, a = some ⟨g, o, none⟩ ∧
  ∀ i, i < n → ∃ q0 q1 q2, In64 q0 ∧ In64 q1 ∧ In64 q2 ∧ W.cell? ⟨g, o + i * 3, none⟩ = some (I q0) ∧ W.cell? ⟨g, o + i * 3 + 1, none⟩ = some (I q1) ∧ W.cell? ⟨g, o + i * 3 + 2, none⟩ = some (I q2))
theorem open_trisA {H : Type} {enc : TypeId × Value → H} {W : World} {base : Nat} {v : Value} {d : Go.DataW H} {ps : List MemPlace}
    (hval : Value.okWide Try.prog W .any base 51 v) (hd : DataW.Trod enc Try.prog W 0 (fun _ => true) true 51 v d ps) : TArg W v := by
  obtain ⟨a0, len, cap, rfl⟩ := okWide_slice Try.underlying51 hval
  obtain ⟨fuel, hf⟩ := hd
  rcases DataW.trod_slice Try.underlying51 hf with ⟨hcs, _⟩ | ⟨a, len', cap', elems, rest, n, _, hcs, _, hb, hl, hm, hlen, hel, _, _⟩
  · have : Value.slice a0 len cap = .slice none 0 0 := by simpa [Value.cells] using hcs
    rw [this]
    exact ⟨none, 0, 0, rfl, Nat.le_refl _, by omega, fun h => absurd h (by omega)⟩
  · have : Value.slice a0 len cap = .slice (some a) len' cap' := by simpa [Value.cells] using hcs
    rw [this]
    clear this hcs hf hval
    rw [cellsOf_tri] at hel
    unfold maxLen at hm
    have key : ∀ i, i < len' → ∃ q0 q1 q2, In64 q0 ∧ In64 q1 ∧ In64 q2 ∧ W.cell? (a.add (i * 3)) = some (I q0) ∧ W.cell? (a.add (i * 3 + 1)) = some (I q1) ∧ W.cell? (a.add (i * 3 + 2)) = some (I q2) := by
      intro i hi
      have h1 := hel i hi
      rw [List.getElem?_eq_getElem (by omega), Option.bind_eq_some_iff] at h1
      obtain ⟨cs, h2, h3⟩ := h1
      obtain ⟨h4, h5⟩ := int_cells (k := .i64) Try.underlying47 Try.underlying3 cellsOf_int cellsOf_tri h3
      have hget : ∀ j, j < 3 → ∃ q, In64 q ∧ W.cell? (a.add (i * 3 + j)) = some (I q) := by
        intro j hj
        obtain ⟨z, hz, hw⟩ := h5 j _ (List.getElem?_eq_getElem (by omega))
        refine ⟨z, in64_wf hw, ?_⟩
        have := (World.cells?_some h2).2.2 j hj
        rw [List.getElem?_eq_getElem (by omega), hz] at this
        rw [Addr.add_lit2]
        exact this
      obtain ⟨q0, a0, b0⟩ := hget 0 (by omega)
      obtain ⟨q1, a1, b1⟩ := hget 1 (by omega)
      obtain ⟨q2, a2, b2⟩ := hget 2 (by omega)
      exact ⟨q0, q1, q2, a0, a1, a2, b0, b1, b2⟩
    refine ⟨some a, len', cap', rfl, hl, by omega, fun h0 => ?_⟩
    obtain ⟨b, off, spot⟩ := a
    obtain ⟨q0, _, _, _, _, _, c0, _, _⟩ := key 0 h0
    have hspot : spot = none := by simpa [Addr.add] using World.cell?_spot c0
    subst hspot
    refine ⟨b, off, rfl, fun i hi => ?_⟩
    obtain ⟨q0, q1, q2, a0, a1, a2, b0, b1, b2⟩ := key i hi
    rw [Addr.add_lit] at b0 b1 b2
    exact ⟨q0, q1, q2, a0, a1, a2, b0, b1, b2⟩
end Go.Proofs.Ytdnabeldaighgaa
