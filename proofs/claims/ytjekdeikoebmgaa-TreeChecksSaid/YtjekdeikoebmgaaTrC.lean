/- Lists of hashes in memory: read, appended to, reversed. Conditions: sizes. -/
import Derived.Test.YtjekdeikoebmgaaTrB
import Derived.Test.YtjekdeikoebmgaaOwn
import Derived.Test.YtjekdeikoebmgaaFill
import Derived.Deep.MidRow
namespace Go.Proofs.Ytjekdeikoebmgaa
open Go.RowKit Go.Shelf Tr

/-- The cells of a list of hashes. -/
def hcells (hs : List (List UInt8)) : List Value := hs.flatMap fun h => h.map Y
theorem hcells_append (a b : List (List UInt8)) : hcells (a ++ b) = hcells a ++ hcells b := List.flatMap_append
theorem hcells_one (x : List UInt8) : hcells [x] = x.map Y := by simp [hcells]
theorem hcells_length {hs : List (List UInt8)} (h : All32 hs) : (hcells hs).length = hs.length * 32 := by
  induction hs with
  | nil => rfl
  | cons a r ih =>
    have h1 : (hcells (a :: r)).length = (a.map Y).length + (hcells r).length := by rw [← List.length_append]; rfl
    rw [h1, ih (fun x hx => h x (by simp [hx])), List.length_map, h a (by simp), List.length_cons]; omega
theorem hcells_get {hs : List (List UInt8)} (h : All32 hs) (i : Nat) (x : List UInt8) (hx : hs[i]? = some x) (j : Nat) (v : Value) (hv : (x.map Y)[j]? = some v) : (hcells hs)[32 * i + j]? = some v := by
  have hi := List.getElem?_eq_some_iff.1 hx
  have hi1 := hi.1
  have e : hs = hs.take i ++ (x :: hs.drop (i + 1)) := by
    have := List.take_append_drop i hs
    rw [List.drop_eq_getElem_cons hi.1, hi.2] at this
    exact this.symm
  have hl : (hcells (hs.take i)).length = 32 * i := by
    rw [hcells_length (fun y hy => h y (List.mem_of_mem_take hy)), List.length_take, Nat.min_eq_left (by omega), Nat.mul_comm]
  have hj : j < (x.map Y).length := (List.getElem?_eq_some_iff.1 hv).1
  rw [e, hcells_append, List.getElem?_append_right (by omega), hl, Nat.add_sub_cancel_left]
  show (x.map Y ++ hcells (hs.drop (i + 1)))[j]? = _
  rw [List.getElem?_append_left hj, hv]
/-- From cell o of block g on lie these hashes. -/
def HAt (w : World) (g o : Nat) (hs : List (List UInt8)) : Prop := w.rangeAt g o (hcells hs)
theorem HAt.keep {w w' : World} {g o : Nat} {hs : List (List UInt8)} (h : HAt w g o hs) (hk : ∀ p v, w.cell? p = some v → w'.cell? p = some v) : HAt w' g o hs := fun j v hv => hk _ _ (h j v hv)
theorem HAt.below {w w' : World} {g o : Nat} {hs : List (List UInt8)} (h : HAt w g o hs) (hb : Below w.heap.size w w') : HAt w' g o hs := h.keep (keepCells hb)
theorem HAt.elem {w : World} {g o : Nat} {hs : List (List UInt8)} (h : HAt w g o hs) (ha : All32 hs) (i : Nat) (x : List UInt8) (hx : hs[i]? = some x) : w.rangeAt g (o + 32 * i) (x.map Y) := fun j v hv => by
  have := h (32 * i + j) v (hcells_get ha i x hx j v hv)
  rwa [← Nat.add_assoc] at this
theorem Tr.All32.take {l : List (List UInt8)} (h : All32 l) (k : Nat) : All32 (l.take k) := fun x hx => h x (List.mem_of_mem_take hx)
theorem Tr.All32.drop {l : List (List UInt8)} (h : All32 l) (k : Nat) : All32 (l.drop k) := fun x hx => h x (List.mem_of_mem_drop hx)
theorem HAt.take {w : World} {g o : Nat} {hs : List (List UInt8)} (h : HAt w g o hs) (k : Nat) : HAt w g o (hs.take k) := fun j v hv => by
  have e : hcells hs = hcells (hs.take k) ++ hcells (hs.drop k) := by rw [← hcells_append, List.take_append_drop]
  refine h j v ?_
  rw [e, List.getElem?_append_left (List.getElem?_eq_some_iff.1 hv).1]
  exact hv
theorem HAt.drop {w : World} {g o : Nat} {hs : List (List UInt8)} (h : HAt w g o hs) (ha : All32 hs) (k : Nat) (hk : k ≤ hs.length) : HAt w g (o + 32 * k) (hs.drop k) := fun j v hv => by
  have e : hcells hs = hcells (hs.take k) ++ hcells (hs.drop k) := by rw [← hcells_append, List.take_append_drop]
  have hl : (hcells (hs.take k)).length = 32 * k := by
    rw [hcells_length (ha.take k), List.length_take, Nat.min_eq_left hk, Nat.mul_comm]
  have := h (32 * k + j) v (by rw [e, List.getElem?_append_right (by omega), hl, Nat.add_sub_cancel_left]; exact hv)
  rwa [← Nat.add_assoc] at this
/-- The slice v reads as these hashes. -/
def HArg (w : World) (v : Value) (hs : List (List UInt8)) : Prop := ∃ (a : Option Addr) (cap : Nat), v = .slice a hs.length cap ∧ hs.length ≤ cap ∧ (hs ≠ [] → ∃ g o, a = some ⟨g, o, none⟩ ∧ HAt w g o hs)
theorem HArg.below {w w' : World} {v : Value} {hs : List (List UInt8)} (h : HArg w v hs) (hb : Below w.heap.size w w') : HArg w' v hs := by
  obtain ⟨a, cap, h1, h2, h3⟩ := h
  exact ⟨a, cap, h1, h2, fun hl => by obtain ⟨g, o, h4, h5⟩ := h3 hl; exact ⟨g, o, h4, h5.below hb⟩⟩
theorem HArg.of {w : World} {g o n cap : Nat} {hs : List (List UInt8)} (hn : hs.length = n) (hc : n ≤ cap) (h : HAt w g o hs) : HArg w (.slice (some ⟨g, o, none⟩) n cap) hs := ⟨_, cap, by rw [hn], by omega, fun _ => ⟨g, o, rfl, h⟩⟩
theorem HArg.nil (w : World) : HArg w (.slice none 0 0) [] := ⟨none, 0, rfl, Nat.le_refl _, fun h => absurd rfl h⟩
/-- A slice of hashes of the call's own. -/
abbrev OwnH (w : World) (base : Nat) (v : Value) (hs : List (List UInt8)) : Prop := OwnV w base 32 v hs.length (hcells hs)
theorem OwnV.arg {w : World} {base : Nat} {v : Value} {hs : List (List UInt8)} (h : OwnH w base v hs) : HArg w v hs := by
  rcases h with ⟨rfl, h1, _⟩ | ⟨g, cap, rfl, h1, h2, h3⟩
  · obtain rfl : hs = [] := List.length_eq_zero_iff.1 h1
    exact HArg.nil w
  · exact HArg.of rfl h2 h3.cells
theorem infoHash : (Try.prog.info? 24).map (fun i => (i.zero, i.size, i.bytes)) = some (some (.agg hz), 32, 32) := by kernel_rfl
theorem hrow_size {x : List UInt8} (h : x.length = 32) : (hrow x).size = 32 := by unfold hrow; simp [h]
theorem mapY_one (x : List UInt8) : ∀ u ∈ x.map Y, u.oneCell' = true := by
  intro u hu
  obtain ⟨y, _, rfl⟩ := List.mem_map.1 hu
  rfl
/-- A slice of one hash. -/
theorem run_build1 (x : List UInt8) (hx : x.length = 32) (w : World) : (Instr.buildSlice 32 1 #[(0, .agg (hrow x))]).run Try.prog w = .ok (.slice (some ⟨w.heap.size, 0, none⟩) 1 1) (w.alloc (.cells (hrow x) 24)) := by
  obtain ⟨i0, hi, hz0, hz1, _⟩ := info_parts infoHash
  have h := run_buildRows w 32 24 1 32 [hrow x] i0 _ Try.underlying32 hi hz0 hz1 rfl (fun R hR => by rw [List.mem_singleton.1 hR]; exact hrow_size hx) (by decide) (by decide) #[(0, .agg (hrow x))] rfl
  have e : ([hrow x].flatMap (·.toList)).toArray = hrow x := by simp
  rw [e] at h
  exact h
/-- append of one hash: the slice that it comes in is new. -/
theorem run_append_hash (w : World) (base : Nat) (v : Value) (hs : List (List UInt8)) (h : OwnH w base v hs) (hb : base ≤ w.heap.size) (x : List UInt8) (hx : x.length = 32) (hn : hs.length ≤ 4398046511100) :
    ∃ v' w', (Builtin.append_ #[32, 32] 32 #[v, .slice (some ⟨w.heap.size, 0, none⟩) 1 1]).run Try.prog (w.alloc (.cells (hrow x) 24)) = .ok v' w' ∧ OwnH w' base v' (hs ++ [x]) ∧ w.grownBy w' (blkOf v) ∧ (blkOf v' = blkOf v ∨ ∃ g, blkOf v' = some g ∧ w.heap.size ≤ g) := by
  obtain ⟨i0, hi, hz0, hz1, hz2⟩ := info_parts infoHash
  have hN := Blk.new w (hrow x) 24
  have h1 : OwnH (w.alloc (.cells (hrow x) 24)) base v hs := h.below ((Below.refl w.heap.size w).alloc (Nat.le_refl _) _)
  have hsrc : Src Try.prog i0.size 32 (.slice (some ⟨w.heap.size, 0, none⟩) 1 1) 1 (x.map Y) (w.alloc (.cells (hrow x) 24)) :=
    Src.ofSlice (w.alloc (.cells (hrow x) 24)) Try.underlying32 ⟨w.heap.size, 0, none⟩ 1 1 (x.map Y) (by rw [hz1]; simp [hx]) (fun j u hu => by
      rw [Addr.add_lit, Nat.zero_add]
      refine hN.cell j u ?_
      unfold hrow
      simpa using hu) (mapY_one x)
  obtain ⟨v', w', r1, r2, r3, r4⟩ := run_append_own (w.alloc (.cells (hrow x) 24)) 32 32 32 24 i0 (.agg hz) 32 base hs.length 1 v _ (hcells hs) (x.map Y) Try.underlying32 hi hz0 hz1 rfl h1 (by simp; omega) hsrc (Nat.le_refl _) (by simp [hx]) (by rw [hz2]; omega) (by omega)
  refine ⟨v', w', r1, ?_, ?_, ?_⟩
  · unfold OwnH
    rw [hcells_append, hcells_one, List.length_append]
    exact r2
  · exact ⟨r3.os, r3.tape, r3.output, Nat.le_trans (by simp) r3.size, fun i hi hne => (r3.block i (by simp; omega) hne).trans (Below.heap_alloc w _ i hi)⟩
  · rcases r4 with r4 | ⟨g, r4, r5⟩
    · exact .inl r4
    · exact .inr ⟨g, r4, by simp at r5; omega⟩
def sliceLen : Value → Nat
  | .slice _ n _ => n
  | _ => 0
end Go.Proofs.Ytjekdeikoebmgaa
