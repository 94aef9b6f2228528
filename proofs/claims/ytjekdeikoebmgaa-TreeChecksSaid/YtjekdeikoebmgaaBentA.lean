/- Rows of bytes of the call's own, in groups of 32: appended to, written; a slice of hashes appended whole. Conditions: sizes. -/
import Derived.Test.YtjekdeikoebmgaaTrQ
import Derived.Test.YtjekdeikoebmgaaTrM
namespace Go.Proofs.Ytjekdeikoebmgaa
open Go.RowKit Go.Shelf Tr

/-- Cells that are bytes are those of hashes. -/
theorem chunk : ∀ (n : Nat) (cs : List Value), cs.length = n * 32 → (∀ c ∈ cs, ∃ b : UInt8, c = Y b) → ∃ hs : List (List UInt8), hs.length = n ∧ All32 hs ∧ hcells hs = cs
  | 0, cs, h, _ => ⟨[], rfl, All32.nil, by rw [Nat.zero_mul] at h; rw [List.length_eq_zero_iff.1 h]; rfl⟩
  | n + 1, cs, h, hb => by
    obtain ⟨hs, h1, h2, h3⟩ := chunk n (cs.take (n * 32)) (by rw [List.length_take]; omega) (fun c hc => hb c (List.mem_of_mem_take hc))
    have key : ∀ l : List Value, (∀ c ∈ l, ∃ b : UInt8, c = Y b) → ∃ x : List UInt8, l = x.map Y := by
      intro l
      induction l with
      | nil => exact fun _ => ⟨[], rfl⟩
      | cons c r ih =>
        intro hl
        obtain ⟨b, rfl⟩ := hl _ List.mem_cons_self
        obtain ⟨x, rfl⟩ := ih (fun c hc => hl c (List.mem_cons_of_mem _ hc))
        exact ⟨b :: x, rfl⟩
    obtain ⟨x, hx⟩ := key (cs.drop (n * 32)) (fun c hc => hb c (List.mem_of_mem_drop hc))
    have hx32 : x.length = 32 := by
      have := congrArg List.length hx
      rw [List.length_drop, List.length_map] at this
      omega
    exact ⟨hs ++ [x], by simp [h1], h2.snoc hx32, by rw [hcells_append, hcells_one, h3, ← hx, List.take_append_drop]⟩
theorem hcells_bytes {hs : List (List UInt8)} : ∀ c ∈ hcells hs, ∃ b : UInt8, c = Y b := by
  intro c hc
  obtain ⟨x, _, h⟩ := List.mem_flatMap.1 hc
  obtain ⟨b, _, rfl⟩ := List.mem_map.1 h
  exact ⟨b, rfl⟩
theorem hcells_mono (hs : List (List UInt8)) : ∀ u ∈ hcells hs, u.oneCell' = true := by
  intro u hu
  obtain ⟨b, rfl⟩ := hcells_bytes u hu
  rfl
/-- A slice of hashes as what is appended. -/
theorem HArg.src {w : World} {v : Value} {hs : List (List UInt8)} (h : HArg w v hs) (ha : All32 hs) {sz : Nat} (hsz : sz = 32) : Src Try.prog sz 32 v hs.length (hcells hs) w := by
  obtain ⟨a, cap, rfl, hc, hA⟩ := h
  cases hs with
  | nil =>
    cases a with
    | none => exact Src.ofNil w Try.underlying32 cap
    | some p => exact Src.ofSlice w Try.underlying32 p 0 cap [] (by simp) (by intro j u hu; simp at hu) (by intro u hu; cases hu)
  | cons x r =>
    obtain ⟨g, o, rfl, hAt⟩ := hA (by simp)
    exact Src.ofSlice w Try.underlying32 ⟨g, o, none⟩ _ cap (hcells (x :: r)) (by rw [hsz]; exact hcells_length ha) (fun j u hu => by rw [Addr.add_lit]; exact hAt j u hu) (hcells_mono _)
theorem run_append_nil0 {P : Program} (w : World) (t tx ty e : TypeId) (i : TypeInfo) (ht : P.underlying t = some (.slice e)) (hi : P.info? e = some i) (x : Value) (hs : Src P i.size tx x 0 [] w) :
    (Builtin.append_ #[t, tx] ty #[.slice none 0 0, x]).run P w = .ok (.slice none 0 0) w := by
  rcases hs.kind with ⟨e', hk⟩ | hk <;> simp [Builtin.append_, run_underlying ht, run_underlying hk, sizeOf, typeInfo, hi, hs.len, hs.cells]
/-- append of a whole slice of hashes. -/
theorem run_append_hashes (w : World) (base : Nat) (v x : Value) (hs ks : List (List UInt8)) (h : OwnH w base v hs) (hb : base ≤ w.heap.size) (hx : HArg w x ks) (ha : All32 ks) (hn : hs.length + ks.length ≤ 4398046511100) :
    ∃ v' w', (Builtin.append_ #[32, 32] 32 #[v, x]).run Try.prog w = .ok v' w' ∧ OwnH w' base v' (hs ++ ks) ∧ w.grownBy w' (blkOf v) ∧ (blkOf v' = blkOf v ∨ ∃ g, blkOf v' = some g ∧ w.heap.size ≤ g) := by
  obtain ⟨i0, hi, hz0, hz1, hz2⟩ := info_parts infoHash
  have hs2 := hx.src ha hz1
  by_cases hk : ks = []
  · subst hk
    have hh : OwnH w base v (hs ++ []) := by rw [List.append_nil]; exact h
    rcases h with ⟨rfl, h1, h2⟩ | ⟨g, cap, rfl, h1, h2, h3⟩
    · have hr := run_append_nil0 w 32 32 32 24 i0 Try.underlying32 hi x hs2
      exact ⟨_, _, hr, hh, World.grownBy.refl w _, .inl rfl⟩
    · have hr := run_append_room_src w 32 32 32 24 i0 Try.underlying32 hi g 0 _ cap x 0 [] hs2 (by omega) (by intro j hj; simp at hj) (by intro j hj; simp at hj)
      exact ⟨_, _, hr, hh, World.grownBy.refl w _, .inl rfl⟩
  · have h1 : 1 ≤ ks.length := by cases ks with | nil => exact absurd rfl hk | cons _ _ => simp
    obtain ⟨v', w', r1, r2, r3, r4⟩ := run_append_own w 32 32 32 24 i0 (.agg hz) 32 base hs.length ks.length v x (hcells hs) (hcells ks) Try.underlying32 hi hz0 hz1 rfl h hb hs2 h1 (hcells_length ha) (by rw [hz2]; omega) (by omega)
    refine ⟨v', w', r1, ?_, r3, r4⟩
    unfold OwnH
    rw [hcells_append, List.length_append]
    exact r2
theorem sz_cells (g : Nat) : ∀ (vs : List Value) (o : Nat) (a : World), (a.setCells g o vs).heap.size = a.heap.size
  | [], _, _ => rfl
  | u :: r, o, a => by
    show ((a.setCell ⟨g, o, none⟩ u).setCells g (o + 1) r).heap.size = _
    rw [sz_cells g r]
    simp [World.setCell]
theorem grown_cells (g : Nat) {w : World} : ∀ (vs : List Value) (o : Nat) (a : World), w.grownBy a (some g) → w.grownBy (a.setCells g o vs) (some g)
  | [], _, _, h => h
  | u :: r, o, _, h => grown_cells g r (o + 1) _ (grown_set h o u)
/-- Cells of a row of the call's own are written. -/
theorem VRow.sets {w : World} {base g cap sz : Nat} {cs : List Value} (h : VRow w base g cap sz cs) (o : Nat) (vs : List Value) (ho : o + vs.length ≤ cs.length) :
    VRow (w.setCells g o vs) base g cap sz (cs.take o ++ vs ++ cs.drop (o + vs.length)) ∧ (cs.take o ++ vs ++ cs.drop (o + vs.length)).length = cs.length := by
  have hl : (cs.take o ++ vs ++ cs.drop (o + vs.length)).length = cs.length := by simp; omega
  refine ⟨⟨h.base, by rw [sz_cells]; exact h.lt, by rw [hl]; exact h.room, fun j hj => World.isSome_setCells g _ _ _ _ (h.some_ j hj), fun j hj => by rw [World.frozen?_setCells]; exact h.free j hj, fun j v hv => ?_⟩, hl⟩
  have hr := h.room
  rw [Nat.zero_add]
  by_cases h1 : j < o
  · rw [World.cell?_setCells_out g _ _ _ _ (fun _ _ => .inl h1)]
    rw [List.getElem?_append_left (by simp; omega), List.getElem?_append_left (by simp; omega), List.getElem?_take, if_pos h1] at hv
    have := h.cells j v hv
    rwa [Nat.zero_add] at this
  · by_cases h2 : j < o + vs.length
    · have h3 : j - o < vs.length := by omega
      have h4 := World.cell?_setCells_in g vs o w (fun j hj => h.some_ _ (by omega)) (j - o) h3
      rw [show o + (j - o) = j by omega] at h4
      rw [h4, ← hv, List.getElem?_append_left (by simp; omega), List.getElem?_append_right (by simp; omega)]
      simp
      rw [show j - min o cs.length = j - o by omega, List.getElem?_eq_getElem h3]
    · rw [World.cell?_setCells_out g _ _ _ _ (fun _ _ => .inr (by simp; omega))]
      rw [List.getElem?_append_right (by simp; omega), List.getElem?_drop] at hv
      simp at hv
      rw [show o + vs.length + (j - (min o cs.length + vs.length)) = j by omega] at hv
      have := h.cells j v hv
      rwa [Nat.zero_add] at this
theorem xor_one (y : UInt8) : ∃ z, Value.int .u8 (bits .xor .u8 ((y.toNat : Nat) : Int) 1) = Y z := by
  have h : 0 ≤ bits .xor .u8 ((y.toNat : Nat) : Int) 1 ∧ bits .xor .u8 ((y.toNat : Nat) : Int) 1 ≤ 255 := by
    unfold bits
    generalize ((BitVec.ofInt IntKind.u8.bits ((y.toNat : Nat) : Int) ^^^ BitVec.ofInt IntKind.u8.bits 1).toNat : Int) = x
    simp [IntKind.wrap, IntKind.signed, IntKind.bits]
    omega
  generalize bits .xor .u8 ((y.toNat : Nat) : Int) 1 = z at *
  refine ⟨UInt8.ofNat z.toNat, ?_⟩
  show _ = Value.int .u8 _
  congr 1
  rw [UInt8.toNat_ofNat']
  omega
/-- The rest of a slice of hashes. -/
theorem slice_rest (g n cap j : Nat) (hj : j ≤ n) (hc : n ≤ cap) : ∃ sv : Value, (∀ w, (Instr.sliceAt 32 (.slice (some ⟨g, 0, none⟩) n cap) (some (.int .i64 (j : Int))) none none).run Try.prog w = .ok sv w) ∧
    ∀ (w : World) (hs : List (List UInt8)), hs.length = n → All32 hs → HAt w g 0 hs → HArg w sv (hs.drop j) := by
  have e1 : (j : Int) ≤ (n : Int) := by omega
  have e2 : (n : Int) ≤ (cap : Int) := by omega
  have e3 : (j : Int) ≤ (cap : Int) := by omega
  by_cases h : cap = j
  · refine ⟨.slice (some ⟨g, 0, none⟩) (n - j) (cap - j), fun w => by go_simp, fun w hs hl ha hA => ?_⟩
    have : hs.drop j = [] := List.drop_eq_nil_iff.2 (by omega)
    rw [this]
    exact ⟨_, cap - j, by rw [show n - j = 0 by omega]; rfl, Nat.zero_le _, fun h => absurd rfl h⟩
  · refine ⟨.slice (some ⟨g, j * 32, none⟩) (n - j) (cap - j), fun w => by go_simp, fun w hs hl ha hA => ?_⟩
    refine HArg.of (by rw [List.length_drop, hl]) (by omega) ?_
    have := hA.drop ha j (by omega)
    rwa [Nat.zero_add, Nat.mul_comm] at this
theorem bent_row (w' : World) (n g cap base : Nat) (cs : List Value) (V : VRow w' base g cap 32 cs) (hl : cs.length = n * 32) (hc : n ≤ cap) (hb : ∀ c ∈ cs, ∃ b : UInt8, c = Y b) :
    ∃ hs, HArg w' (.slice (some ⟨g, 0, none⟩) n cap) hs ∧ All32 hs ∧ hs.length = n := by
  obtain ⟨hs, h1, h2, h3⟩ := chunk n cs hl hb
  exact ⟨hs, HArg.of h1 hc (by show w'.rangeAt g 0 (hcells hs); rw [h3]; exact V.cells), h2, h1⟩
theorem bytes_sets {cs vs : List Value} (h : ∀ c ∈ cs, ∃ b : UInt8, c = Y b) (hv : ∀ c ∈ vs, ∃ b : UInt8, c = Y b) (o m : Nat) : ∀ c ∈ cs.take o ++ vs ++ cs.drop m, ∃ b : UInt8, c = Y b := by
  intro c hc
  rcases List.mem_append.1 hc with hc | hc
  · rcases List.mem_append.1 hc with hc | hc
    · exact h c (List.mem_of_mem_take hc)
    · exact hv c hc
  · exact h c (List.mem_of_mem_drop hc)
theorem bytes_map (x : List UInt8) : ∀ c ∈ x.map Y, ∃ b : UInt8, c = Y b := by
  intro c hc
  obtain ⟨b, _, rfl⟩ := List.mem_map.1 hc
  exact ⟨b, rfl⟩
theorem Blk.cellsOther' {b g : Nat} (hg : b ≠ g) {cs : Array Value} {t : TypeId} : ∀ (vs : List Value) (o : Nat) (w : World), Blk w b cs t → Blk (w.setCells g o vs) b cs t
  | [], _, _, h => h
  | v :: r, o, _, h => Blk.cellsOther' hg r (o + 1) _ (h.other (a := ⟨g, o, none⟩) hg v)
end Go.Proofs.Ytjekdeikoebmgaa
