/- Rows of the call's own that are appended to, of elements of any width; a nil slice first. No program here. Conditions: sizes. -/
import Derived.Test.YtdnabeldaighgaaKitB
import Derived.Deep.AppendSrc
namespace Go.Proofs.Ytdnabeldaighgaa
open Go.RowKit Go.Shelf

/-- The block that a slice leads to. -/
def blkOf : Value → Option Nat
  | .slice (some a) _ _ => some a.block
  | _ => none
/-- Block g, from base on, holds these cells, has room for cap elements of sz cells, and may be written. -/
structure VRow (w : World) (base g cap sz : Nat) (cs : List Value) : Prop where
  base : base ≤ g
  lt : g < w.heap.size
  room : cs.length ≤ cap * sz
  some_ : ∀ j, j < cap * sz → (w.cell? ⟨g, j, none⟩).isSome = true
  free : ∀ j, j < cap * sz → w.frozen? ⟨g, j, none⟩ = false
  cells : w.rangeAt g 0 cs
theorem VRow.keep {w w' : World} {base g cap sz : Nat} {cs : List Value} (h : VRow w base g cap sz cs) (hs : w.heap.size ≤ w'.heap.size) (hg : w'.heap[g]? = w.heap[g]?) : VRow w' base g cap sz cs := by
  have h1 : ∀ j, w'.cell? ⟨g, j, none⟩ = w.cell? ⟨g, j, none⟩ := fun j => World.cell?_of_block (w := w) (a := ⟨g, j, none⟩) hg
  have h2 : ∀ j, w'.frozen? ⟨g, j, none⟩ = w.frozen? ⟨g, j, none⟩ := fun j => World.frozen?_of_block (w := w) (a := ⟨g, j, none⟩) hg
  exact ⟨h.base, Nat.lt_of_lt_of_le h.lt hs, h.room, fun j hj => by rw [h1]; exact h.some_ j hj, fun j hj => by rw [h2]; exact h.free j hj, fun j v hv => by rw [h1]; exact h.cells j v hv⟩
theorem VRow.below {w w' : World} {base g cap sz : Nat} {cs : List Value} (h : VRow w base g cap sz cs) (hb : Below w.heap.size w w') : VRow w' base g cap sz cs := h.keep hb.size (hb.block g h.lt)
/-- A slice of the call's own (nil at first): n elements, their cells. -/
def OwnV (w : World) (base sz : Nat) (v : Value) (n : Nat) (cs : List Value) : Prop :=
  (v = .slice none 0 0 ∧ n = 0 ∧ cs = []) ∨ ∃ g cap, v = .slice (some ⟨g, 0, none⟩) n cap ∧ cs.length = n * sz ∧ n ≤ cap ∧ VRow w base g cap sz cs
theorem OwnV.nil (w : World) (base sz : Nat) : OwnV w base sz (.slice none 0 0) 0 [] := .inl ⟨rfl, rfl, rfl⟩
theorem OwnV.keep {w w' : World} {base sz n : Nat} {v : Value} {cs : List Value} (h : OwnV w base sz v n cs) (hs : w.heap.size ≤ w'.heap.size) (hg : ∀ g, blkOf v = some g → g < w.heap.size → w'.heap[g]? = w.heap[g]?) : OwnV w' base sz v n cs := by
  rcases h with h | ⟨g, cap, rfl, h1, h2, h3⟩
  · exact .inl h
  · exact .inr ⟨g, cap, rfl, h1, h2, h3.keep hs (hg g rfl h3.lt)⟩
theorem OwnV.below {w w' : World} {base sz n : Nat} {v : Value} {cs : List Value} (h : OwnV w base sz v n cs) (hb : Below w.heap.size w w') : OwnV w' base sz v n cs := h.keep hb.size (fun g _ hg => hb.block g hg)
theorem OwnV.len {w : World} {base sz n : Nat} {v : Value} {cs : List Value} (h : OwnV w base sz v n cs) : cs.length = n * sz := by
  rcases h with ⟨_, rfl, rfl⟩ | ⟨g, cap, _, h1, _⟩
  · simp
  · exact h1
/-- Other blocks than the row's own lie as they lay. -/
theorem grownBy_refl_row {w w' : World} {row : Option Nat} (h : Below w.heap.size w w') : w.grownBy w' row := ⟨h.os, h.tape, h.output, h.size, fun i hi _ => h.block i hi⟩
theorem below_of_grown {B : Nat} {a b c : World} {row : Option Nat} (h : Below B a b) (k : b.grownBy c row) (hB : B ≤ b.heap.size) (hg : ∀ g, row = some g → B ≤ g) : Below B a c :=
  ⟨k.os.trans h.os, k.tape.trans h.tape, k.output.trans h.output, Nat.le_trans h.size k.size, fun i hi => (k.block i (by omega) (fun e => by have := hg i e.symm; omega)).trans (h.block i hi)⟩
theorem OwnV.blk {w : World} {base sz n : Nat} {v : Value} {cs : List Value} (h : OwnV w base sz v n cs) : ∀ g, blkOf v = some g → base ≤ g := by
  rcases h with ⟨rfl, _⟩ | ⟨g, cap, rfl, _, _, h3⟩
  · intro g hg; cases hg
  · intro g' hg; cases hg; exact h3.base
/-- append to a row of the call's own. -/
theorem run_append_own {P : Program} (w : World) (t tx ty e : TypeId) (i : TypeInfo) (z : Value) (sz base n m : Nat) (v x : Value) (cs news : List Value) (hu : P.underlying t = some (.slice e)) (hi : P.info? e = some i) (hz : i.zero = some z) (hsz : i.size = sz)
    (hzs : z.cells.size = sz) (h : OwnV w base sz v n cs) (hb : base ≤ w.heap.size) (hs : Src P i.size tx x m news w) (hm : 1 ≤ m) (hnl : news.length = m * sz) (hbytes : (n + m) * i.bytes ≤ 140737488355328) (h63 : n + m ≤ 9223372036854775807) :
    ∃ v' w', (Builtin.append_ #[t, tx] ty #[v, x]).run P w = .ok v' w' ∧ OwnV w' base sz v' (n + m) (cs ++ news) ∧ w.grownBy w' (blkOf v) ∧ (blkOf v' = blkOf v ∨ ∃ g, blkOf v' = some g ∧ w.heap.size ≤ g) := by
  have grow : ∀ (a : Option Addr) (cap : Nat) (_ : v = .slice a n cap) (_ : cs.length = n * sz), (Builtin.firstCells i.size n (.slice a n cap)).run P w.drew = .ok cs.toArray w.drew → cap < n + m →
      ∃ v' w', (Builtin.append_ #[t, tx] ty #[v, x]).run P w = .ok v' w' ∧ OwnV w' base sz v' (n + m) (cs ++ news) ∧ w.grownBy w' (blkOf v) ∧ (blkOf v' = blkOf v ∨ ∃ g, blkOf v' = some g ∧ w.heap.size ≤ g) := by
    intro a cap hv hcl hold hlt
    subst hv
    have hr := run_append_grow_src w t tx ty e i z hu hi hz a n cap cs hold x m news hs hlt (by omega) (growslice_fits hlt hbytes)
    have hcap := grownCap_ge w (n + m) cap e
    generalize grownCap w (n + m) cap e = c at *
    have hN := Blk.new w.drew ((cs ++ news).toArray ++ Builtin.zeroCells z.cells (c - (n + m))) e
    have hsize : ((cs ++ news).toArray ++ Builtin.zeroCells z.cells (c - (n + m))).size = c * sz := by
      have h1 : (Builtin.zeroCells z.cells (c - (n + m))).size = (c - (n + m)) * sz := by unfold Builtin.zeroCells; simp [hzs]
      rw [Array.size_append, h1]
      simp [hcl, hnl]
      rw [← Nat.add_mul, ← Nat.add_mul, Nat.add_sub_cancel' hcap]
    refine ⟨_, _, hr, .inr ⟨_, _, rfl, by rw [List.length_append, hcl, hnl, ← Nat.add_mul], hcap, ⟨hb, by simp, ?_, fun j hj => ?_, fun j _ => hN.frozen j, fun j u hu => ?_⟩⟩, ⟨rfl, rfl, rfl, by simp, fun k hk _ => Below.heap_alloc w.drew _ k hk⟩, .inr ⟨_, rfl, Nat.le_refl _⟩⟩
    · rw [List.length_append, hcl, hnl, ← Nat.add_mul]; exact Nat.mul_le_mul_right _ hcap
    · have := hN.cell j _ (Array.getElem?_eq_getElem (by rw [hsize]; exact hj))
      rw [show w.heap.size = w.drew.heap.size from rfl, this]; rfl
    · have hj : j < (cs ++ news).length := (List.getElem?_eq_some_iff.1 hu).1
      have e1 : ((cs ++ news).toArray ++ Builtin.zeroCells z.cells (c - (n + m)))[j]? = some u := by
        rw [Array.getElem?_append_left (by simpa using hj)]
        simpa using hu
      have := hN.cell j u e1
      rw [Nat.zero_add]
      exact this
  rcases h with ⟨rfl, rfl, rfl⟩ | ⟨g, cap, rfl, hcl, hnc, hr⟩
  · exact grow none 0 rfl (by simp) (by simpa using run_firstCells_none w.drew i.size 0 0 0) (by omega)
  · by_cases hroom : n + m ≤ cap
    · have hin : ∀ j, j < news.length → n * sz + j < cap * sz := fun j hj => by
        have : (n + m) * sz ≤ cap * sz := Nat.mul_le_mul_right _ hroom
        rw [Nat.add_mul] at this
        omega
      have h1 := run_append_room_src w t tx ty e i hu hi g 0 n cap x m news hs hroom (fun j hj => by rw [hsz, Nat.zero_add]; exact hr.some_ _ (hin j hj)) (fun j hj => by rw [hsz, Nat.zero_add]; exact hr.free _ (hin j hj))
      rw [hsz, Nat.zero_add] at h1
      have hset : ∀ (vs : List Value) (o : Nat) (a : World), w.grownBy a (some g) → w.grownBy (a.setCells g o vs) (some g) := by
        intro vs
        induction vs with
        | nil => intro o a ha; exact ha
        | cons u r ih => intro o a ha; exact ih (o + 1) _ (grown_set ha o u)
      have hgr := hset news (n * sz) w (World.grownBy.refl w _)
      have hszz : (w.setCells g (n * sz) news).heap.size = w.heap.size := by
        have : ∀ (vs : List Value) (o : Nat) (a : World), (a.setCells g o vs).heap.size = a.heap.size := by
          intro vs
          induction vs with
          | nil => intro o a; rfl
          | cons u r ih => intro o a; show ((a.setCell ⟨g, o, none⟩ u).setCells g (o + 1) r).heap.size = _; rw [ih]; simp [World.setCell]
        exact this _ _ _
      refine ⟨_, _, h1, .inr ⟨g, cap, rfl, by rw [List.length_append, hcl, hnl, ← Nat.add_mul], hroom, ⟨hr.base, by rw [hszz]; exact hr.lt, ?_, fun j hj => World.isSome_setCells g _ _ _ _ (hr.some_ j hj), fun j hj => by rw [World.frozen?_setCells]; exact hr.free j hj, fun j u hu => ?_⟩⟩, hgr, .inl rfl⟩
      · rw [List.length_append, hcl, hnl, ← Nat.add_mul]; exact Nat.mul_le_mul_right _ hroom
      · by_cases hj : j < cs.length
        · rw [List.getElem?_append_left hj] at hu
          rw [World.cell?_setCells_out g _ _ _ _ (fun _ _ => .inl (by simp; omega))]
          exact hr.cells j u hu
        · rw [List.getElem?_append_right (by omega)] at hu
          have hj2 : j - cs.length < news.length := (List.getElem?_eq_some_iff.1 hu).1
          have h2 := World.cell?_setCells_in g news (n * sz) w (fun j hj => hr.some_ _ (hin j hj)) (j - cs.length) hj2
          rw [show n * sz + (j - cs.length) = 0 + j by omega] at h2
          rw [h2, ← hu]
          simp [hj2]
    · have hold : (Builtin.firstCells i.size n (.slice (some ⟨g, 0, none⟩) n cap)).run P w.drew = .ok cs.toArray w.drew :=
        run_firstCells_some w.drew i.size n ⟨g, 0, none⟩ n cap cs (by rw [hsz]; exact hcl) (fun j u hu => by
          rw [Addr.add_lit]
          exact hr.cells j u hu)
      exact grow _ cap rfl hcl hold (by omega)
end Go.Proofs.Ytdnabeldaighgaa
