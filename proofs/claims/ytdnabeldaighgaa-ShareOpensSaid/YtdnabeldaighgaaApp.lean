/- Whole slices of numbers and of shares appended to rows of the call's own; an empty row; the rest of a slice. Conditions: sizes. -/
import Derived.Test.YtdnabeldaighgaaRop
import Derived.Test.YtdnabeldaighgaaAny
namespace Go.Proofs.Ytdnabeldaighgaa
open Go.RowKit Go.Shelf Shr

theorem IArg.src {w : World} {v : Value} {l : List Int} (h : IArg w v l) {sz : Nat} (hsz : sz = 1) : Src Try.prog sz 22 v l.length (l.map I) w := by
  obtain ⟨a, cap, rfl, hc, hA⟩ := h
  subst hsz
  have h1 : ∀ u ∈ l.map I, u.oneCell' = true := by
    intro u hu
    obtain ⟨x, _, rfl⟩ := List.mem_map.1 hu
    rfl
  cases l with
  | nil =>
    cases a with
    | none => exact Src.ofNil w Try.underlying22 cap
    | some p => exact Src.ofSlice w Try.underlying22 p 0 cap [] (by simp) (by intro j u hu; simp at hu) (by intro u hu; cases hu)
  | cons x r =>
    obtain ⟨g, o, rfl, hAt⟩ := hA (by simp)
    refine Src.ofSlice w Try.underlying22 ⟨g, o, none⟩ _ cap ((x :: r).map I) (by simp) (fun j u hu => ?_) h1
    rw [Addr.add_lit]
    rw [List.getElem?_map] at hu
    obtain ⟨y, hy, rfl⟩ := Option.map_eq_some_iff.1 hu
    exact hAt j y hy
theorem shc_one (l : List (Int × Int)) : ∀ u ∈ shc l, u.oneCell' = true := by
  intro u hu
  obtain ⟨p, _, h⟩ := List.mem_flatMap.1 hu
  simp at h
  rcases h with rfl | rfl <;> rfl
theorem ShAt.all {w : World} {g o : Nat} {l : List (Int × Int)} (h : ShAt w g o l) : ∀ (j : Nat) (u : Value), (shc l)[j]? = some u → w.cell? ⟨g, o + j, none⟩ = some u := fun j u hu => by
  have hj := (List.getElem?_eq_some_iff.1 hu).1
  rw [shc_length] at hj
  obtain ⟨p, hp⟩ : ∃ p, l[j / 2]? = some p := ⟨l[j / 2]'(by omega), List.getElem?_eq_getElem _⟩
  obtain ⟨e1, e2⟩ := shc_get l (j / 2) p hp
  obtain ⟨a1, a2⟩ := h (j / 2) p hp
  rcases Nat.mod_two_eq_zero_or_one j with h0 | h0
  · have : 2 * (j / 2) = j := by omega
    rw [this] at e1 a1
    rw [hu] at e1
    rw [a1, ← e1]
  · have : 2 * (j / 2) + 1 = j := by omega
    rw [this] at e2
    rw [show o + 2 * (j / 2) + 1 = o + j by omega] at a2
    rw [hu] at e2
    rw [a2, ← e2]
theorem ShArg.src {w : World} {v : Value} {l : List (Int × Int)} (h : ShArg w v l) {sz : Nat} (hsz : sz = 2) : Src Try.prog sz 25 v l.length (shc l) w := by
  obtain ⟨a, cap, rfl, hc, hA⟩ := h
  subst hsz
  cases l with
  | nil =>
    cases a with
    | none => exact Src.ofNil w Try.underlying25 cap
    | some p => exact Src.ofSlice w Try.underlying25 p 0 cap [] (by simp) (by intro j u hu; simp at hu) (by intro u hu; cases hu)
  | cons x r =>
    obtain ⟨g, o, rfl, hAt⟩ := hA (by simp)
    exact Src.ofSlice w Try.underlying25 ⟨g, o, none⟩ _ cap (shc (x :: r)) (shc_length _) (fun j u hu => by rw [Addr.add_lit]; exact hAt.all j u hu) (shc_one _)
theorem run_append_nil0 {P : Program} (w : World) (t tx ty e : TypeId) (i : TypeInfo) (ht : P.underlying t = some (.slice e)) (hi : P.info? e = some i) (x : Value) (hs : Src P i.size tx x 0 [] w) :
    (Builtin.append_ #[t, tx] ty #[.slice none 0 0, x]).run P w = .ok (.slice none 0 0) w := by
  rcases hs.kind with ⟨e', hk⟩ | hk <;> simp [Builtin.append_, run_underlying ht, run_underlying hk, sizeOf, typeInfo, hi, hs.len, hs.cells]
/-- append of a whole slice, none of its elements perhaps. -/
theorem run_append_whole {P : Program} (w : World) (t e : TypeId) (i : TypeInfo) (z : Value) (sz base n m : Nat) (v x : Value) (cs news : List Value) (hu : P.underlying t = some (.slice e)) (hi : P.info? e = some i) (hz : i.zero = some z) (hsz : i.size = sz)
    (hzs : z.cells.size = sz) (h : OwnV w base sz v n cs) (hb : base ≤ w.heap.size) (hs : Src P i.size t x m news w) (hnl : news.length = m * sz) (hbytes : (n + m) * i.bytes ≤ 140737488355328) (h63 : n + m ≤ 9223372036854775807) :
    ∃ v' w', (Builtin.append_ #[t, t] t #[v, x]).run P w = .ok v' w' ∧ OwnV w' base sz v' (n + m) (cs ++ news) ∧ w.grownBy w' (blkOf v) ∧ (blkOf v' = blkOf v ∨ ∃ g, blkOf v' = some g ∧ w.heap.size ≤ g) := by
  by_cases hk : m = 0
  · subst hk
    obtain rfl : news = [] := List.length_eq_zero_iff.1 (by simpa using hnl)
    have hh : OwnV w base sz v (n + 0) (cs ++ []) := by rw [List.append_nil]; exact h
    rcases h with ⟨rfl, h1, h2⟩ | ⟨g, cap, rfl, h1, h2, h3⟩
    · exact ⟨_, _, run_append_nil0 w t t t e i hu hi x hs, hh, World.grownBy.refl w _, .inl rfl⟩
    · have hr := run_append_room_src w t t t e i hu hi g 0 n cap x 0 [] hs (by omega) (by intro j hj; simp at hj) (by intro j hj; simp at hj)
      exact ⟨_, _, hr, hh, World.grownBy.refl w _, .inl rfl⟩
  · exact run_append_own w t t t e i z sz base n m v x cs news hu hi hz hsz hzs h hb hs (by omega) hnl hbytes h63
theorem run_append_shares (w : World) (base : Nat) (v x : Value) (l k : List (Int × Int)) (h : OwnSh w base v l) (hb : base ≤ w.heap.size) (hx : ShArg w x k) (hn : l.length + k.length ≤ 4398046511100) :
    ∃ v' w', (Builtin.append_ #[25, 25] 25 #[v, x]).run Try.prog w = .ok v' w' ∧ OwnSh w' base v' (l ++ k) ∧ w.grownBy w' (blkOf v) ∧ (blkOf v' = blkOf v ∨ ∃ g, blkOf v' = some g ∧ w.heap.size ≤ g) := by
  obtain ⟨i0, hi, hz0, hz1, hz2⟩ := info_parts infoSh
  obtain ⟨v', w', r1, r2, r3, r4⟩ := run_append_whole w 25 33 i0 _ 2 base l.length k.length v x _ (shc k) Try.underlying25 hi hz0 hz1 rfl h hb (hx.src hz1) (shc_length k) (by rw [hz2]; omega) (by omega)
  refine ⟨v', w', r1, ?_, r3, r4⟩
  unfold OwnSh
  rw [List.length_append, shc_append]
  exact r2
theorem run_append_ints (w : World) (base : Nat) (v x : Value) (l k : List Int) (h : OwnI w base v l) (hb : base ≤ w.heap.size) (hx : IArg w x k) (hn : l.length + k.length ≤ 4398046511100) :
    ∃ v' w', (Builtin.append_ #[22, 22] 22 #[v, x]).run Try.prog w = .ok v' w' ∧ OwnI w' base v' (l ++ k) ∧ w.grownBy w' (blkOf v) ∧ (blkOf v' = blkOf v ∨ ∃ g, blkOf v' = some g ∧ w.heap.size ≤ g) := by
  obtain ⟨i0, hi, hz0, hz1, hz2⟩ := info_parts infoInt
  obtain ⟨v', w', r1, r2, r3, r4⟩ := run_append_whole w 22 3 i0 _ 1 base l.length k.length v x _ (k.map I) Try.underlying22 hi hz0 hz1 rfl h hb (hx.src hz1) (by simp) (by rw [hz2]; omega) (by omega)
  refine ⟨v', w', r1, ?_, r3, r4⟩
  unfold OwnI
  rw [List.length_append, List.map_append]
  exact r2
theorem run_build0_sh (w : World) : (Instr.buildSlice 25 0 #[]).run Try.prog w = .ok (.slice (some ⟨w.heap.size, 0, none⟩) 0 0) (w.alloc (.cells #[] 33)) := by
  obtain ⟨i0, hi, hz0, hz1, _⟩ := info_parts infoSh
  simp [Instr.buildSlice, run_underlying Try.underlying25, sizeOf, typeInfo, hi, Instr.fill, newRow]
  congr 2
  simp
theorem run_build0_int (w : World) : (Instr.buildSlice 22 0 #[]).run Try.prog w = .ok (.slice (some ⟨w.heap.size, 0, none⟩) 0 0) (w.alloc (.cells #[] 3)) := by
  obtain ⟨i0, hi, hz0, hz1, _⟩ := info_parts infoInt
  simp [Instr.buildSlice, run_underlying Try.underlying22, sizeOf, typeInfo, hi, Instr.fill, newRow]
  congr 2
  simp
theorem OwnSh.empty (w : World) (base : Nat) (hb : base ≤ w.heap.size) : OwnSh (w.alloc (.cells #[] 33)) base (.slice (some ⟨w.heap.size, 0, none⟩) 0 0) [] :=
  .inr ⟨_, 0, rfl, rfl, Nat.le_refl _, hb, by simp, by simp [shc], by intro j hj; omega, by intro j hj; omega, by intro j v hv; simp [shc] at hv⟩
theorem OwnI.empty (w : World) (base : Nat) (hb : base ≤ w.heap.size) : OwnI (w.alloc (.cells #[] 3)) base (.slice (some ⟨w.heap.size, 0, none⟩) 0 0) [] :=
  .inr ⟨_, 0, rfl, rfl, Nat.le_refl _, hb, by simp, by simp, by intro j hj; omega, by intro j hj; omega, by intro j v hv; simp at hv⟩
theorem ShAt.take {w : World} {g o : Nat} {l : List (Int × Int)} (h : ShAt w g o l) (k : Nat) : ShAt w g o (l.take k) := fun i p hp => by
  rw [List.getElem?_take] at hp
  split at hp
  · exact h i p hp
  · cases hp
theorem ShAt.drop {w : World} {g o : Nat} {l : List (Int × Int)} (h : ShAt w g o l) (k : Nat) : ShAt w g (o + k * 2) (l.drop k) := fun i p hp => by
  rw [List.getElem?_drop] at hp
  have := h _ p hp
  rwa [show o + 2 * (k + i) = o + k * 2 + 2 * i by omega] at this
theorem slice_rest_sh (g n cap j : Nat) (hj : j ≤ n) (hc : n ≤ cap) : ∃ sv : Value, (∀ w, (Instr.sliceAt 25 (.slice (some ⟨g, 0, none⟩) n cap) (some (.int .i64 (j : Int))) none none).run Try.prog w = .ok sv w) ∧
    ∀ (w : World) (l : List (Int × Int)), l.length = n → ShAt w g 0 l → ShArg w sv (l.drop j) := by
  have e1 : (j : Int) ≤ (n : Int) := by omega
  have e2 : (n : Int) ≤ (cap : Int) := by omega
  have e3 : (j : Int) ≤ (cap : Int) := by omega
  by_cases h : cap = j
  · refine ⟨.slice (some ⟨g, 0, none⟩) (n - j) (cap - j), fun w => by go_simp, fun w l hl hA => ?_⟩
    have : l.drop j = [] := List.drop_eq_nil_iff.2 (by omega)
    rw [this]
    exact ⟨_, cap - j, by rw [show n - j = 0 by omega]; rfl, Nat.zero_le _, fun h => absurd rfl h⟩
  · refine ⟨.slice (some ⟨g, j * 2, none⟩) (n - j) (cap - j), fun w => by go_simp, fun w l hl hA => ?_⟩
    refine ShArg.of (by rw [List.length_drop, hl]) (by omega) ?_
    have := hA.drop j
    rwa [Nat.zero_add] at this
theorem yields_field {P : Program} {ops : Array Oper} {o : Oper} {a : Act} {v : Value} (hg : o.guard = none) (h : ∀ w, (execOp a.eval o).run P w = .ok (.value v) w) : Yields P ops o v a := .inl ⟨by simp [Region.wanted, hg], h⟩
theorem OwnV.shat {w : World} {base g cap : Nat} {l : List (Int × Int)} (h : VRow w base g cap 2 (shc l)) : ShAt w g 0 l := fun i p hp => by
  obtain ⟨e1, e2⟩ := shc_get l i p hp
  have a1 := h.cells (2 * i) _ e1
  have a2 := h.cells (2 * i + 1) _ e2
  exact ⟨a1, by rw [Nat.add_assoc]; exact a2⟩
end Go.Proofs.Ytdnabeldaighgaa
