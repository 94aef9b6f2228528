/- Slices and arrays that are written out, of elements of any width. No program here. Conditions: the widths. -/
import Derived.Test.YtdnabeldaighgaaKitB
import Derived.Great.BuildSlice
namespace Go.Proofs.Ytdnabeldaighgaa
open Go.RowKit Go.Shelf

theorem fold_set (off : Nat) : ∀ (R : List Value) (s : Nat) (cs : Array Value), ((R.zipIdx s).foldl (fun (cs : Array Value) p => cs.setIfInBounds (off + p.2) p.1) cs).size = cs.size ∧
    ∀ k, off + s + R.length ≤ cs.size → ((R.zipIdx s).foldl (fun (cs : Array Value) p => cs.setIfInBounds (off + p.2) p.1) cs)[k]? = if off + s ≤ k ∧ k < off + s + R.length then R[k - (off + s)]? else cs[k]?
  | [], s, cs => ⟨rfl, fun k _ => by
    rw [if_neg (by simp)]; rfl⟩
  | r :: R, s, cs => by
    obtain ⟨h1, h2⟩ := fold_set off R (s + 1) (cs.setIfInBounds (off + s) r)
    simp only [List.zipIdx_cons, List.foldl_cons]
    refine ⟨by rw [h1]; simp, fun k hk => ?_⟩
    simp only [List.length_cons] at hk
    rw [h2 k (by rw [Array.size_setIfInBounds]; omega)]
    by_cases hks : k = off + s
    · subst hks
      rw [if_neg (by omega), if_pos (by simp), Nat.sub_self, Array.getElem?_setIfInBounds, if_pos rfl, if_pos (by omega)]; rfl
    · by_cases hin : off + s ≤ k ∧ k < off + s + (r :: R).length
      · rw [if_pos hin, if_pos (by simp at hin; omega)]
        obtain ⟨d, hd⟩ : ∃ d, k - (off + s) = d + 1 := ⟨k - (off + s) - 1, by omega⟩
        rw [hd, List.getElem?_cons_succ]
        congr 1
        omega
      · rw [if_neg hin, if_neg (by simp at hin ⊢; omega), Array.getElem?_setIfInBounds, if_neg (by omega)]
/-- Parts of one width, each at its place. -/
theorem fill_rows (sz : Nat) : ∀ (Rs : List (Array Value)) (s : Nat) (cells : Array Value), (∀ R ∈ Rs, R.size = sz) → (s + Rs.length) * sz ≤ cells.size →
    ∃ out, Instr.fill (fun i => some (i * sz, sz)) cells ((Rs.zipIdx s).map fun p => (p.2, Value.agg p.1)) = some out ∧ out.size = cells.size ∧
      ∀ k, out[k]? = if s * sz ≤ k ∧ k < (s + Rs.length) * sz then (Rs.flatMap (·.toList))[k - s * sz]? else cells[k]?
  | [], s, cells, _, _ => ⟨cells, rfl, rfl, fun k => by rw [if_neg (by simp)]⟩
  | R :: Rs, s, cells, hall, hc => by
    have hR := hall R (by simp)
    have hm : (s + (R :: Rs).length) * sz = s * sz + sz + Rs.length * sz := by simp [Nat.add_mul]; omega
    rw [hm] at hc
    obtain ⟨f1, f2⟩ := fold_set (s * sz) R.toList 0 cells
    have e : R.zipIdx.foldl (fun cs (c, j) => cs.setIfInBounds (s * sz + j) c) cells = (R.toList.zipIdx 0).foldl (fun (cs : Array Value) p => cs.setIfInBounds (s * sz + p.2) p.1) cells := by
      rw [← Array.foldl_toList, Array.toList_zipIdx]
    obtain ⟨out, h1, h2, h3⟩ := fill_rows sz Rs (s + 1) ((R.toList.zipIdx 0).foldl (fun (cs : Array Value) p => cs.setIfInBounds (s * sz + p.2) p.1) cells) (fun R' h => hall R' (by simp [h])) (by rw [f1]; simp [Nat.add_mul]; omega)
    refine ⟨out, ?_, by rw [h2, f1], fun k => ?_⟩
    · rw [List.zipIdx_cons, List.map_cons, Instr.fill]
      have hsz : (Value.agg R).cells.size = sz := hR
      have hcond : ¬ ((Value.agg R).cells.size ≠ sz ∨ s * sz + (Value.agg R).cells.size > cells.size) := by rw [hsz]; omega
      simp only [hsz, ne_eq, not_true_eq_false, gt_iff_lt, Bool.or_eq_true, decide_eq_true_eq, false_or]
      rw [if_neg (by omega)]
      show Instr.fill _ (R.zipIdx.foldl (fun cs (c, j) => cs.setIfInBounds (s * sz + j) c) cells) _ = _
      rw [e]
      exact h1
    · rw [h3 k]
      have hf := f2 k (by simp [hR]; omega)
      rw [List.flatMap_cons, hm]
      have hm2 : (s + 1 + Rs.length) * sz = s * sz + sz + Rs.length * sz := by simp [Nat.add_mul]
      have hm3 : (s + 1) * sz = s * sz + sz := by simp [Nat.add_mul]
      rw [hm2, hm3]
      by_cases c1 : s * sz ≤ k ∧ k < s * sz + sz
      · rw [if_neg (by omega), if_pos (by omega), hf, if_pos (by simp [hR]; omega), List.getElem?_append_left (by simp [hR]; omega)]
        simp
      · by_cases c2 : s * sz + sz ≤ k ∧ k < s * sz + sz + Rs.length * sz
        · rw [if_pos c2, if_pos (by omega), List.getElem?_append_right (by simp [hR]; omega)]
          congr 1
          simp [hR]; omega
        · rw [if_neg c2, if_neg (by omega), hf, if_neg (by simp [hR]; omega)]
/-- A slice literal whose run is known. -/
theorem wpList_build_run {P : Program} {ops : Array Oper} {rest : List Oper} {o : Oper} {a : Act} {w : World} {Q : Exit → Act → World → Prop} (hgd : o.guard = none) (t : TypeId) (len : Nat) (parts : Array (Nat × Operand)) (ho : o.op = .buildSlice t len parts)
    (vals : Array (Nat × Value)) (hp : (parts.toList.map fun (p : Nat × Operand) => (p.1, a.eval p.2)) = vals.toList) (v : Value) (w' : World) (hr : (Instr.buildSlice t len vals).run P w = .ok v w') (h : wpList P ops Q rest (a.put o.dst v) w') : wpList P ops Q (o :: rest) a w := by
  have hp2 : (parts.map fun (i, x) => (i, a.eval x)) = vals := by
    apply Array.toList_inj.1
    rw [Array.toList_map]; exact hp
  refine wpList_plain hgd fun K hK => ?_
  unfold Oper.wp execOp
  simp only [ho, hp2, hr, Sem.run_bind, Result.andThen_ok]
  exact hK _ _ h
/-- A slice of such parts. -/
theorem run_buildRows {P : Program} (w : World) (t e : TypeId) (len sz : Nat) (Rs : List (Array Value)) (ie : TypeInfo) (z : Value) (hu : P.underlying t = some (.slice e)) (hie : P.info? e = some ie) (hz : ie.zero = some z) (hsz : ie.size = sz)
    (hlen : Rs.length = len) (hall : ∀ R ∈ Rs, R.size = sz) (hsmall : ¬ len * sz > 2 ^ 24) (hpos : ¬ len * sz = 0) (parts : Array (Nat × Value)) (hp : parts.toList = (Rs.zipIdx 0).map fun p => (p.2, Value.agg p.1)) :
    (Instr.buildSlice t len parts).run P w = .ok (.slice (some ⟨w.heap.size, 0, none⟩) len len) (w.alloc (.cells (Rs.flatMap (·.toList)).toArray e)) := by
  subst hsz
  refine run_buildSlice w t e len parts _ ie z hu hie hz hsmall hpos ?_
  rw [hp]
  obtain ⟨out, h1, h2, h3⟩ := fill_rows ie.size Rs 0 ((Array.range (len * ie.size)).map (z.cells[· % z.cells.size]!)) hall (by simp [hlen])
  rw [h1]
  congr 1
  have hfl : (Rs.flatMap (·.toList)).length = len * ie.size := by
    rw [← hlen]
    clear h1 h3 hp hlen hsmall hpos
    induction Rs with
    | nil => simp
    | cons R Rs ih => rw [List.flatMap_cons, List.length_append, ih (fun R' h => hall R' (by simp [h]))]; simp [hall R (by simp), Nat.add_mul]; omega
  apply Array.ext_getElem?
  intro k
  rw [h3 k]
  by_cases hk : k < len * ie.size
  · rw [if_pos (by simp [hlen]; omega)]
    simp
  · rw [if_neg (by simp [hlen]; omega)]
    rw [Array.getElem?_eq_none (by simp; omega), Array.getElem?_eq_none (by simp [hfl]; omega)]
end Go.Proofs.Ytdnabeldaighgaa
