/- Rows of the call's own of elements of one cell: appended to, read. Conditions: sizes. -/
import Derived.Test.YtjekdeikoebmgaaHK
namespace Go.Proofs.Ytjekdeikoebmgaa
open Go.RowKit Go.Shelf Tr

/-- append of one element of one cell: the slice that it comes in is new. -/
theorem run_append_one {P : Program} (w : World) (base n : Nat) (t e : TypeId) (i : TypeInfo) (z v u : Value) (cs : List Value) (hu : P.underlying t = some (.slice e)) (hi : P.info? e = some i) (hz : i.zero = some z) (hsz : i.size = 1) (hzs : z.cells.size = 1) (hby : i.bytes ≤ 16)
    (h : OwnV w base 1 v n cs) (hb : base ≤ w.heap.size) (h1 : u.oneCell' = true) (hn : n ≤ 4398046511100) :
    ∃ v' w', (Builtin.append_ #[t, t] t #[v, .slice (some ⟨w.heap.size, 0, none⟩) 1 1]).run P (w.alloc (.cells #[u] e)) = .ok v' w' ∧ OwnV w' base 1 v' (n + 1) (cs ++ [u]) ∧ w.grownBy w' (blkOf v) ∧ (blkOf v' = blkOf v ∨ ∃ g, blkOf v' = some g ∧ w.heap.size ≤ g) := by
  have hN := Blk.new w #[u] e
  have h2 : OwnV (w.alloc (.cells #[u] e)) base 1 v n cs := h.below ((Below.refl w.heap.size w).alloc (Nat.le_refl _) _)
  have hsrc : Src P i.size t (.slice (some ⟨w.heap.size, 0, none⟩) 1 1) 1 [u] (w.alloc (.cells #[u] e)) :=
    Src.ofSlice (w.alloc (.cells #[u] e)) hu ⟨w.heap.size, 0, none⟩ 1 1 [u] (by rw [hsz]; rfl) (fun j x hx => by
      rw [Addr.add_lit, Nat.zero_add]
      exact hN.cell j x (by simpa using hx)) (by intro x hx; rw [List.mem_singleton.1 hx]; exact h1)
  have hbt : (n + 1) * i.bytes ≤ (n + 1) * 16 := Nat.mul_le_mul_left _ hby
  obtain ⟨v', w', r1, r2, r3, r4⟩ := run_append_own (w.alloc (.cells #[u] e)) t t t e i z 1 base n 1 v _ cs [u] hu hi hz hsz hzs h2 (by simp; omega) hsrc (Nat.le_refl _) rfl (by omega) (by omega)
  refine ⟨v', w', r1, r2, ?_, ?_⟩
  · exact ⟨r3.os, r3.tape, r3.output, Nat.le_trans (by simp) r3.size, fun i hi hne => (r3.block i (by simp; omega) hne).trans (Below.heap_alloc w _ i hi)⟩
  · rcases r4 with r4 | ⟨g, r4, r5⟩
    · exact .inl r4
    · exact .inr ⟨g, r4, by simp at r5; omega⟩
/-- Strings of the call's own. -/
abbrev OwnS (w : World) (base : Nat) (v : Value) (l : List (List UInt8)) : Prop := OwnV w base 1 v l.length (l.map S)
theorem OwnV.sarg {w : World} {base : Nat} {v : Value} {l : List (List UInt8)} (h : OwnS w base v l) : SArg w v l := by
  rcases h with ⟨rfl, h1, _⟩ | ⟨g, cap, rfl, h1, h2, h3⟩
  · obtain rfl : l = [] := List.length_eq_zero_iff.1 h1
    exact SArg.nil w
  · refine SArg.of rfl h2 fun i s hs => ?_
    exact h3.cells i (S s) (by rw [List.getElem?_map, hs]; rfl)
theorem infoStr : (Try.prog.info? 9).map (fun i => (i.zero, i.size, i.bytes)) = some (some (.string ⟨#[]⟩), 1, 16) := by kernel_rfl
theorem run_append_str (w : World) (base : Nat) (v : Value) (l : List (List UInt8)) (h : OwnS w base v l) (hb : base ≤ w.heap.size) (s : List UInt8) (hn : l.length ≤ 4398046511100) :
    ∃ v' w', (Builtin.append_ #[22, 22] 22 #[v, .slice (some ⟨w.heap.size, 0, none⟩) 1 1]).run Try.prog (w.alloc (.cells #[S s] 9)) = .ok v' w' ∧ OwnS w' base v' (l ++ [s]) ∧ w.grownBy w' (blkOf v) ∧ (blkOf v' = blkOf v ∨ ∃ g, blkOf v' = some g ∧ w.heap.size ≤ g) := by
  obtain ⟨i0, hi, hz0, hz1, hz2⟩ := info_parts infoStr
  obtain ⟨v', w', r1, r2, r3, r4⟩ := run_append_one w base l.length 22 9 i0 _ v (S s) _ Try.underlying22 hi hz0 hz1 rfl (by rw [hz2]; exact Nat.le_refl _) h hb rfl hn
  refine ⟨v', w', r1, ?_, r3, r4⟩
  unfold OwnS
  rw [List.length_append, List.map_append]
  exact r2
end Go.Proofs.Ytjekdeikoebmgaa
