/- Lists of numbers and of shares in memory; rows of the call's own. Conditions: sizes. -/
import Derived.Test.YtdnabeldaighgaaOwn
import Derived.Test.YtdnabeldaighgaaFill
import Derived.Lib.AppendZerosOnto
import Derived.Test.YtdnabeldaighgaaFldM
namespace Go.Proofs.Ytdnabeldaighgaa
open Go.RowKit Go.Shelf

/-- Numbers one behind the other. -/
def IAt (w : World) (g o : Nat) (l : List Int) : Prop := ∀ (i : Nat) (x : Int), l[i]? = some x → w.cell? ⟨g, o + i, none⟩ = some (I x)
theorem IAt.keep {w w' : World} {g o : Nat} {l : List Int} (h : IAt w g o l) (hk : ∀ p v, w.cell? p = some v → w'.cell? p = some v) : IAt w' g o l := fun i x hx => hk _ _ (h i x hx)
theorem IAt.below {w w' : World} {g o : Nat} {l : List Int} (h : IAt w g o l) (hb : Below w.heap.size w w') : IAt w' g o l := h.keep (keepCells hb)
/-- A list of numbers as an argument. -/
def IArg (w : World) (v : Value) (l : List Int) : Prop := ∃ (a : Option Addr) (cap : Nat), v = .slice a l.length cap ∧ l.length ≤ cap ∧ (l ≠ [] → ∃ g o, a = some ⟨g, o, none⟩ ∧ IAt w g o l)
theorem IArg.below {w w' : World} {v : Value} {l : List Int} (h : IArg w v l) (hb : Below w.heap.size w w') : IArg w' v l := by
  obtain ⟨a, cap, h1, h2, h3⟩ := h
  exact ⟨a, cap, h1, h2, fun hl => by obtain ⟨g, o, h4, h5⟩ := h3 hl; exact ⟨g, o, h4, h5.below hb⟩⟩
theorem IArg.nil (w : World) : IArg w (.slice none 0 0) [] := ⟨none, 0, rfl, Nat.le_refl _, fun h => absurd rfl h⟩
theorem IArg.of {w : World} {g o n cap : Nat} {l : List Int} (hn : l.length = n) (hc : n ≤ cap) (h : IAt w g o l) : IArg w (.slice (some ⟨g, o, none⟩) n cap) l := ⟨_, cap, by rw [hn], by omega, fun _ => ⟨g, o, rfl, h⟩⟩
/-- Shares one behind the other: X, Y. -/
def shc (l : List (Int × Int)) : List Value := l.flatMap fun p => [I p.1, I p.2]
def ShAt (w : World) (g o : Nat) (l : List (Int × Int)) : Prop := ∀ (i : Nat) (p : Int × Int), l[i]? = some p → w.cell? ⟨g, o + 2 * i, none⟩ = some (I p.1) ∧ w.cell? ⟨g, o + 2 * i + 1, none⟩ = some (I p.2)
theorem ShAt.keep {w w' : World} {g o : Nat} {l : List (Int × Int)} (h : ShAt w g o l) (hk : ∀ p v, w.cell? p = some v → w'.cell? p = some v) : ShAt w' g o l := fun i x hx => ⟨hk _ _ (h i x hx).1, hk _ _ (h i x hx).2⟩
theorem ShAt.below {w w' : World} {g o : Nat} {l : List (Int × Int)} (h : ShAt w g o l) (hb : Below w.heap.size w w') : ShAt w' g o l := h.keep (keepCells hb)
def ShArg (w : World) (v : Value) (l : List (Int × Int)) : Prop := ∃ (a : Option Addr) (cap : Nat), v = .slice a l.length cap ∧ l.length ≤ cap ∧ (l ≠ [] → ∃ g o, a = some ⟨g, o, none⟩ ∧ ShAt w g o l)
theorem ShArg.below {w w' : World} {v : Value} {l : List (Int × Int)} (h : ShArg w v l) (hb : Below w.heap.size w w') : ShArg w' v l := by
  obtain ⟨a, cap, h1, h2, h3⟩ := h
  exact ⟨a, cap, h1, h2, fun hl => by obtain ⟨g, o, h4, h5⟩ := h3 hl; exact ⟨g, o, h4, h5.below hb⟩⟩
theorem ShArg.nil (w : World) : ShArg w (.slice none 0 0) [] := ⟨none, 0, rfl, Nat.le_refl _, fun h => absurd rfl h⟩
theorem ShArg.of {w : World} {g o n cap : Nat} {l : List (Int × Int)} (hn : l.length = n) (hc : n ≤ cap) (h : ShAt w g o l) : ShArg w (.slice (some ⟨g, o, none⟩) n cap) l := ⟨_, cap, by rw [hn], by omega, fun _ => ⟨g, o, rfl, h⟩⟩
theorem shc_length (l : List (Int × Int)) : (shc l).length = l.length * 2 := by
  unfold shc
  induction l with
  | nil => rfl
  | cons p l ih => simp only [List.flatMap_cons, List.length_append, ih, List.length_cons, List.length_nil]; omega
theorem shc_append (l k : List (Int × Int)) : shc (l ++ k) = shc l ++ shc k := by unfold shc; rw [List.flatMap_append]
theorem shc_get : ∀ (l : List (Int × Int)) (i : Nat) (p : Int × Int), l[i]? = some p → (shc l)[2 * i]? = some (I p.1) ∧ (shc l)[2 * i + 1]? = some (I p.2)
  | [], _, _, h => by simp at h
  | q :: l, 0, p, h => by
    simp at h
    subst h
    exact ⟨rfl, rfl⟩
  | q :: l, i + 1, p, h => by
    have := shc_get l i p (by simpa using h)
    unfold shc at this ⊢
    simp only [List.flatMap_cons]
    rw [show 2 * (i + 1) = 2 * i + 1 + 1 by omega]
    exact this
/-- Rows of the call's own. -/
abbrev OwnI (w : World) (base : Nat) (v : Value) (l : List Int) : Prop := OwnV w base 1 v l.length (l.map I)
abbrev OwnSh (w : World) (base : Nat) (v : Value) (l : List (Int × Int)) : Prop := OwnV w base 2 v l.length (shc l)
theorem OwnV.iarg {w : World} {base : Nat} {v : Value} {l : List Int} (h : OwnI w base v l) : IArg w v l := by
  rcases h with ⟨rfl, h1, _⟩ | ⟨g, cap, rfl, h1, h2, h3⟩
  · obtain rfl : l = [] := List.length_eq_zero_iff.1 h1
    exact IArg.nil w
  · refine IArg.of rfl h2 fun i s hs => ?_
    exact h3.cells i (I s) (by rw [List.getElem?_map, hs]; rfl)
theorem OwnV.sharg {w : World} {base : Nat} {v : Value} {l : List (Int × Int)} (h : OwnSh w base v l) : ShArg w v l := by
  rcases h with ⟨rfl, h1, _⟩ | ⟨g, cap, rfl, h1, h2, h3⟩
  · obtain rfl : l = [] := List.length_eq_zero_iff.1 h1
    exact ShArg.nil w
  · refine ShArg.of rfl h2 fun i p hp => ?_
    obtain ⟨e1, e2⟩ := shc_get l i p hp
    rw [Nat.zero_add]
    have a1 := h3.cells (2 * i) _ e1
    have a2 := h3.cells (2 * i + 1) _ e2
    rw [Nat.zero_add] at a1 a2
    exact ⟨a1, a2⟩
theorem OwnV.mono {w : World} {base base' sz n : Nat} {v : Value} {cs : List Value} (h : OwnV w base sz v n cs) (hb : base' ≤ base) : OwnV w base' sz v n cs := by
  rcases h with h | ⟨g, cap, h0, h1, h2, h3⟩
  · exact .inl h
  · exact .inr ⟨g, cap, h0, h1, h2, ⟨Nat.le_trans hb h3.base, h3.lt, h3.room, h3.some_, h3.free, h3.cells⟩⟩
theorem OwnV.form {w : World} {base sz n : Nat} {v : Value} {cs : List Value} (h : OwnV w base sz v n cs) : ∃ a c, v = .slice a n c ∧ n ≤ c := by
  rcases h with ⟨rfl, rfl, _⟩ | ⟨g, cap, rfl, _, h2, _⟩
  · exact ⟨_, _, rfl, Nat.le_refl _⟩
  · exact ⟨_, _, rfl, h2⟩
theorem OwnV.blk_lt {w : World} {base sz n : Nat} {v : Value} {cs : List Value} (h : OwnV w base sz v n cs) : ∀ g, blkOf v = some g → g < w.heap.size := by
  rcases h with ⟨rfl, _⟩ | ⟨g, cap, rfl, _, _, h3⟩
  · intro g hg; cases hg
  · intro g' hg; cases hg; exact h3.lt
theorem OwnV.grown {w w' : World} {base sz n : Nat} {v : Value} {cs : List Value} {r : Option Nat} (h : OwnV w base sz v n cs) (hg : w.grownBy w' r) (hne : ∀ g, blkOf v = some g → r ≠ some g) : OwnV w' base sz v n cs :=
  h.keep hg.size (fun g e hl => hg.block g hl (fun e2 => hne g e e2.symm))
/-- append of one element: the slice that it comes in is new. -/
theorem run_append_elem {P : Program} (w : World) (base n sz : Nat) (t e : TypeId) (i : TypeInfo) (z v : Value) (us cs : List Value) (hu : P.underlying t = some (.slice e)) (hi : P.info? e = some i) (hz : i.zero = some z) (hsz : i.size = sz) (hzs : z.cells.size = sz) (hby : i.bytes ≤ 16) (hl : us.length = sz)
    (h : OwnV w base sz v n cs) (hb : base ≤ w.heap.size) (h1 : ∀ u ∈ us, u.oneCell' = true) (hn : n ≤ 4398046511100) :
    ∃ v' w', (Builtin.append_ #[t, t] t #[v, .slice (some ⟨w.heap.size, 0, none⟩) 1 1]).run P (w.alloc (.cells us.toArray e)) = .ok v' w' ∧ OwnV w' base sz v' (n + 1) (cs ++ us) ∧ w.grownBy w' (blkOf v) ∧ (blkOf v' = blkOf v ∨ ∃ g, blkOf v' = some g ∧ w.heap.size ≤ g) := by
  have hN := Blk.new w us.toArray e
  have h2 : OwnV (w.alloc (.cells us.toArray e)) base sz v n cs := h.below ((Below.refl w.heap.size w).alloc (Nat.le_refl _) _)
  have hsrc : Src P i.size t (.slice (some ⟨w.heap.size, 0, none⟩) 1 1) 1 us (w.alloc (.cells us.toArray e)) :=
    Src.ofSlice (w.alloc (.cells us.toArray e)) hu ⟨w.heap.size, 0, none⟩ 1 1 us (by rw [hsz, hl]; omega) (fun j x hx => by
      rw [Addr.add_lit, Nat.zero_add]
      exact hN.cell j x (by simpa using hx)) h1
  have hbt : (n + 1) * i.bytes ≤ (n + 1) * 16 := Nat.mul_le_mul_left _ hby
  obtain ⟨v', w', r1, r2, r3, r4⟩ := run_append_own (w.alloc (.cells us.toArray e)) t t t e i z sz base n 1 v _ cs us hu hi hz hsz hzs h2 (by simp; omega) hsrc (Nat.le_refl _) (by omega) (by omega) (by omega)
  refine ⟨v', w', r1, r2, ?_, ?_⟩
  · exact ⟨r3.os, r3.tape, r3.output, Nat.le_trans (by simp) r3.size, fun i hi hne => (r3.block i (by simp; omega) hne).trans (Below.heap_alloc w _ i hi)⟩
  · rcases r4 with r4 | ⟨g, r4, r5⟩
    · exact .inl r4
    · exact .inr ⟨g, r4, by simp at r5; omega⟩
theorem infoInt : (Try.prog.info? 3).map (fun i => (i.zero, i.size, i.bytes)) = some (some (.int .i64 0), 1, 8) := by kernel_rfl
theorem infoSh : (Try.prog.info? 33).map (fun i => (i.zero, i.size, i.bytes)) = some (some (.agg #[.int .i64 0, .int .i64 0]), 2, 16) := by kernel_rfl
theorem run_append_int (w : World) (base : Nat) (v : Value) (l : List Int) (h : OwnI w base v l) (hb : base ≤ w.heap.size) (x : Int) (hn : l.length ≤ 4398046511100) :
    ∃ v' w', (Builtin.append_ #[22, 22] 22 #[v, .slice (some ⟨w.heap.size, 0, none⟩) 1 1]).run Try.prog (w.alloc (.cells #[I x] 3)) = .ok v' w' ∧ OwnI w' base v' (l ++ [x]) ∧ w.grownBy w' (blkOf v) ∧ (blkOf v' = blkOf v ∨ ∃ g, blkOf v' = some g ∧ w.heap.size ≤ g) := by
  obtain ⟨i0, hi, hz0, hz1, hz2⟩ := info_parts infoInt
  obtain ⟨v', w', r1, r2, r3, r4⟩ := run_append_elem w base l.length 1 22 3 i0 _ v [I x] _ Try.underlying22 hi hz0 hz1 rfl (by rw [hz2]; decide) rfl h hb (by intro u hu; rw [List.mem_singleton.1 hu]; rfl) hn
  refine ⟨v', w', r1, ?_, r3, r4⟩
  unfold OwnI
  rw [List.length_append, List.map_append]
  exact r2
theorem run_append_share (w : World) (base : Nat) (v : Value) (l : List (Int × Int)) (h : OwnSh w base v l) (hb : base ≤ w.heap.size) (x y : Int) (hn : l.length ≤ 4398046511100) :
    ∃ v' w', (Builtin.append_ #[25, 25] 25 #[v, .slice (some ⟨w.heap.size, 0, none⟩) 1 1]).run Try.prog (w.alloc (.cells #[I x, I y] 33)) = .ok v' w' ∧ OwnSh w' base v' (l ++ [(x, y)]) ∧ w.grownBy w' (blkOf v) ∧ (blkOf v' = blkOf v ∨ ∃ g, blkOf v' = some g ∧ w.heap.size ≤ g) := by
  obtain ⟨i0, hi, hz0, hz1, hz2⟩ := info_parts infoSh
  obtain ⟨v', w', r1, r2, r3, r4⟩ := run_append_elem w base l.length 2 25 33 i0 _ v [I x, I y] _ Try.underlying25 hi hz0 hz1 rfl (by rw [hz2]; exact Nat.le_refl _) rfl h hb (by intro u hu; simp at hu; rcases hu with rfl | rfl <;> rfl) hn
  refine ⟨v', w', r1, ?_, r3, r4⟩
  unfold OwnSh
  rw [List.length_append, shc_append]
  exact r2
theorem one_int (w : World) (x : Int) : (Instr.buildSlice 22 1 #[(0, I x)]).run Try.prog w = .ok (.slice (some ⟨w.heap.size, 0, none⟩) 1 1) (w.alloc (.cells #[I x] 3)) := by
  obtain ⟨i0, hi, hz0, hz1, _⟩ := info_parts infoInt
  exact run_buildSlice w 22 3 1 _ _ i0 _ Try.underlying22 hi hz0 (by rw [hz1]; decide) (by rw [hz1]; decide) (by rw [hz1]; kernel_rfl)
theorem one_share (w : World) (x y : Int) : (Instr.buildSlice 25 1 #[(0, .agg #[I x, I y])]).run Try.prog w = .ok (.slice (some ⟨w.heap.size, 0, none⟩) 1 1) (w.alloc (.cells #[I x, I y] 33)) := by
  obtain ⟨i0, hi, hz0, hz1, _⟩ := info_parts infoSh
  exact run_buildSlice w 25 33 1 _ _ i0 _ Try.underlying25 hi hz0 (by rw [hz1]; decide) (by rw [hz1]; decide) (by rw [hz1]; kernel_rfl)
theorem grown_chain {A B C : World} {r r' : Option Nat} (h : A.grownBy B r) (k : B.grownBy C r') (hr : r' = r ∨ ∃ g, r' = some g ∧ A.heap.size ≤ g) : A.grownBy C r :=
  ⟨k.os.trans h.os, k.tape.trans h.tape, k.output.trans h.output, Nat.le_trans h.size k.size, fun i hi hne => (k.block i (Nat.lt_of_lt_of_le hi h.size) (fun e => by
    rcases hr with rfl | ⟨g, rfl, hg⟩
    · exact hne e
    · injection e with e; omega)).trans (h.block i hi hne)⟩
theorem Blk.keptBy {w w' : World} {b : Nat} {cs : Array Value} {t : TypeId} {r : Option Nat} (h : Blk w b cs t) (hg : w.grownBy w' r) (hne : some b ≠ r) : Blk w' b cs t := (hg.block b h.lt hne).trans h
end Go.Proofs.Ytdnabeldaighgaa
