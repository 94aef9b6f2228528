/- Rows of bytes of the call's own, in groups of 32: appended to, written; a slice of hashes appended whole. Conditions: sizes. The contract of Bent: some hashes, at most one more than there were. Conditions: sizes. -/
import Derived.Test.YtjekdeikoebmgaaTrP
import Derived.Test.YtjekdeikoebmgaaTrM
import Derived.Test.YtjekdeikoebmgaaRefI
import Derived.Test.YtjekdeikoebmgaaKit
namespace Go.Proofs.Ytjekdeikoebmgaa
open Go.RowKit Go.Shelf Tr

/-- Cells that are bytes are those of hashes. -/
theorem chunk : ∀ (n : Nat) (cs : List Value), cs.length = n * 32 → (∀ c ∈ cs, ∃ b : UInt8, c = Y b) → ∃ hs : List (List UInt8), hs.length = n ∧ All32 hs ∧ hcells hs = cs
  | 0, cs, h, _ => ⟨[], rfl, All32.nil, by rw [Nat.zero_mul] at h; rw [List.length_eq_zero_iff.1 h]; rfl⟩
  | n + 1, cs, h, hb => by
    obtain ⟨hs, h1, h2, h3⟩ := chunk n (cs.take (n * 32)) (by rw [List.length_take]; omega) (fun c hc => hb c (List.mem_of_mem_take hc))
    have key : ∀ l : List Value, (∀ c ∈ l, ∃ b : UInt8, c = Y b) → ∃ x : List UInt8, l = x.map Y := by
      intro l
      induction l with
      | nil => exact fun _ => ⟨[], rfl⟩
      | cons c r ih =>
        intro hl
        obtain ⟨b, rfl⟩ := hl _ List.mem_cons_self
        obtain ⟨x, rfl⟩ := ih (fun c hc => hl c (List.mem_cons_of_mem _ hc))
        exact ⟨b :: x, rfl⟩
    obtain ⟨x, hx⟩ := key (cs.drop (n * 32)) (fun c hc => hb c (List.mem_of_mem_drop hc))
    have hx32 : x.length = 32 := by
      have := congrArg List.length hx
      rw [List.length_drop, List.length_map] at this
      omega
    exact ⟨hs ++ [x], by simp [h1], h2.snoc hx32, by rw [hcells_append, hcells_one, h3, ← hx, List.take_append_drop]⟩
theorem hcells_bytes {hs : List (List UInt8)} : ∀ c ∈ hcells hs, ∃ b : UInt8, c = Y b := by
  intro c hc
  obtain ⟨x, _, h⟩ := List.mem_flatMap.1 hc
  obtain ⟨b, _, rfl⟩ := List.mem_map.1 h
  exact ⟨b, rfl⟩
theorem hcells_mono (hs : List (List UInt8)) : ∀ u ∈ hcells hs, u.oneCell' = true := by
  intro u hu
  obtain ⟨b, rfl⟩ := hcells_bytes u hu
  rfl
/-- A slice of hashes as what is appended. -/
theorem HArg.src {w : World} {v : Value} {hs : List (List UInt8)} (h : HArg w v hs) (ha : All32 hs) {sz : Nat} (hsz : sz = 32) : Src Try.prog sz 32 v hs.length (hcells hs) w := by
  obtain ⟨a, cap, rfl, hc, hA⟩ := h
  cases hs with
  | nil =>
    cases a with
    | none => exact Src.ofNil w Try.underlying32 cap
    | some p => exact Src.ofSlice w Try.underlying32 p 0 cap [] (by simp) (by intro j u hu; simp at hu) (by intro u hu; cases hu)
  | cons x r =>
    obtain ⟨g, o, rfl, hAt⟩ := hA (by simp)
    exact Src.ofSlice w Try.underlying32 ⟨g, o, none⟩ _ cap (hcells (x :: r)) (by rw [hsz]; exact hcells_length ha) (fun j u hu => by rw [Addr.add_lit]; exact hAt j u hu) (hcells_mono _)
theorem run_append_nil0 {P : Program} (w : World) (t tx ty e : TypeId) (i : TypeInfo) (ht : P.underlying t = some (.slice e)) (hi : P.info? e = some i) (x : Value) (hs : Src P i.size tx x 0 [] w) :
    (Builtin.append_ #[t, tx] ty #[.slice none 0 0, x]).run P w = .ok (.slice none 0 0) w := by
  rcases hs.kind with ⟨e', hk⟩ | hk <;> simp [Builtin.append_, run_underlying ht, run_underlying hk, sizeOf, typeInfo, hi, hs.len, hs.cells]
/-- append of a whole slice of hashes. -/
theorem run_append_hashes (w : World) (base : Nat) (v x : Value) (hs ks : List (List UInt8)) (h : OwnH w base v hs) (hb : base ≤ w.heap.size) (hx : HArg w x ks) (ha : All32 ks) (hn : hs.length + ks.length ≤ 4398046511100) :
    ∃ v' w', (Builtin.append_ #[32, 32] 32 #[v, x]).run Try.prog w = .ok v' w' ∧ OwnH w' base v' (hs ++ ks) ∧ w.grownBy w' (blkOf v) ∧ (blkOf v' = blkOf v ∨ ∃ g, blkOf v' = some g ∧ w.heap.size ≤ g) := by
  obtain ⟨i0, hi, hz0, hz1, hz2⟩ := info_parts infoHash
  have hs2 := hx.src ha hz1
  by_cases hk : ks = []
  · subst hk
    have hh : OwnH w base v (hs ++ []) := by rw [List.append_nil]; exact h
    rcases h with ⟨rfl, h1, h2⟩ | ⟨g, cap, rfl, h1, h2, h3⟩
    · have hr := run_append_nil0 w 32 32 32 24 i0 Try.underlying32 hi x hs2
      exact ⟨_, _, hr, hh, World.grownBy.refl w _, .inl rfl⟩
    · have hr := run_append_room_src w 32 32 32 24 i0 Try.underlying32 hi g 0 _ cap x 0 [] hs2 (by omega) (by intro j hj; simp at hj) (by intro j hj; simp at hj)
      exact ⟨_, _, hr, hh, World.grownBy.refl w _, .inl rfl⟩
  · have h1 : 1 ≤ ks.length := by cases ks with | nil => exact absurd rfl hk | cons _ _ => simp
    obtain ⟨v', w', r1, r2, r3, r4⟩ := run_append_own w 32 32 32 24 i0 (.agg hz) 32 base hs.length ks.length v x (hcells hs) (hcells ks) Try.underlying32 hi hz0 hz1 rfl h hb hs2 h1 (hcells_length ha) (by rw [hz2]; omega) (by omega)
    refine ⟨v', w', r1, ?_, r3, r4⟩
    unfold OwnH
    rw [hcells_append, List.length_append]
    exact r2
theorem sz_cells (g : Nat) : ∀ (vs : List Value) (o : Nat) (a : World), (a.setCells g o vs).heap.size = a.heap.size
  | [], _, _ => rfl
  | u :: r, o, a => by
    show ((a.setCell ⟨g, o, none⟩ u).setCells g (o + 1) r).heap.size = _
    rw [sz_cells g r]
    simp [World.setCell]
theorem grown_cells (g : Nat) {w : World} : ∀ (vs : List Value) (o : Nat) (a : World), w.grownBy a (some g) → w.grownBy (a.setCells g o vs) (some g)
  | [], _, _, h => h
  | u :: r, o, _, h => grown_cells g r (o + 1) _ (grown_set h o u)
/-- Cells of a row of the call's own are written. -/
theorem VRow.sets {w : World} {base g cap sz : Nat} {cs : List Value} (h : VRow w base g cap sz cs) (o : Nat) (vs : List Value) (ho : o + vs.length ≤ cs.length) :
    VRow (w.setCells g o vs) base g cap sz (cs.take o ++ vs ++ cs.drop (o + vs.length)) ∧ (cs.take o ++ vs ++ cs.drop (o + vs.length)).length = cs.length := by
  have hl : (cs.take o ++ vs ++ cs.drop (o + vs.length)).length = cs.length := by simp; omega
  refine ⟨⟨h.base, by rw [sz_cells]; exact h.lt, by rw [hl]; exact h.room, fun j hj => World.isSome_setCells g _ _ _ _ (h.some_ j hj), fun j hj => by rw [World.frozen?_setCells]; exact h.free j hj, fun j v hv => ?_⟩, hl⟩
  have hr := h.room
  rw [Nat.zero_add]
  by_cases h1 : j < o
  · rw [World.cell?_setCells_out g _ _ _ _ (fun _ _ => .inl h1)]
    rw [List.getElem?_append_left (by simp; omega), List.getElem?_append_left (by simp; omega), List.getElem?_take, if_pos h1] at hv
    have := h.cells j v hv
    rwa [Nat.zero_add] at this
  · by_cases h2 : j < o + vs.length
    · have h3 : j - o < vs.length := by omega
      have h4 := World.cell?_setCells_in g vs o w (fun j hj => h.some_ _ (by omega)) (j - o) h3
      rw [show o + (j - o) = j by omega] at h4
      rw [h4, ← hv, List.getElem?_append_left (by simp; omega), List.getElem?_append_right (by simp; omega)]
      simp
      rw [show j - min o cs.length = j - o by omega, List.getElem?_eq_getElem h3]
    · rw [World.cell?_setCells_out g _ _ _ _ (fun _ _ => .inr (by simp; omega))]
      rw [List.getElem?_append_right (by simp; omega), List.getElem?_drop] at hv
      simp at hv
      rw [show o + vs.length + (j - (min o cs.length + vs.length)) = j by omega] at hv
      have := h.cells j v hv
      rwa [Nat.zero_add] at this
theorem xor_one (y : UInt8) : ∃ z, Value.int .u8 (bits .xor .u8 ((y.toNat : Nat) : Int) 1) = Y z := by
  have h : 0 ≤ bits .xor .u8 ((y.toNat : Nat) : Int) 1 ∧ bits .xor .u8 ((y.toNat : Nat) : Int) 1 ≤ 255 := by
    unfold bits
    generalize ((BitVec.ofInt IntKind.u8.bits ((y.toNat : Nat) : Int) ^^^ BitVec.ofInt IntKind.u8.bits 1).toNat : Int) = x
    simp [IntKind.wrap, IntKind.signed, IntKind.bits]
    omega
  generalize bits .xor .u8 ((y.toNat : Nat) : Int) 1 = z at *
  refine ⟨UInt8.ofNat z.toNat, ?_⟩
  show _ = Value.int .u8 _
  congr 1
  rw [UInt8.toNat_ofNat']
  omega
/-- The rest of a slice of hashes. -/
theorem slice_rest (g n cap j : Nat) (hj : j ≤ n) (hc : n ≤ cap) : ∃ sv : Value, (∀ w, (Instr.sliceAt 32 (.slice (some ⟨g, 0, none⟩) n cap) (some (.int .i64 (j : Int))) none none).run Try.prog w = .ok sv w) ∧
    ∀ (w : World) (hs : List (List UInt8)), hs.length = n → All32 hs → HAt w g 0 hs → HArg w sv (hs.drop j) := by
  have e1 : (j : Int) ≤ (n : Int) := by omega
  have e2 : (n : Int) ≤ (cap : Int) := by omega
  have e3 : (j : Int) ≤ (cap : Int) := by omega
  by_cases h : cap = j
  · refine ⟨.slice (some ⟨g, 0, none⟩) (n - j) (cap - j), fun w => by go_simp, fun w hs hl ha hA => ?_⟩
    have : hs.drop j = [] := List.drop_eq_nil_iff.2 (by omega)
    rw [this]
    exact ⟨_, cap - j, by rw [show n - j = 0 by omega]; rfl, Nat.zero_le _, fun h => absurd rfl h⟩
  · refine ⟨.slice (some ⟨g, j * 32, none⟩) (n - j) (cap - j), fun w => by go_simp, fun w hs hl ha hA => ?_⟩
    refine HArg.of (by rw [List.length_drop, hl]) (by omega) ?_
    have := hA.drop ha j (by omega)
    rwa [Nat.zero_add, Nat.mul_comm] at this
theorem bent_row (w' : World) (n g cap base : Nat) (cs : List Value) (V : VRow w' base g cap 32 cs) (hl : cs.length = n * 32) (hc : n ≤ cap) (hb : ∀ c ∈ cs, ∃ b : UInt8, c = Y b) :
    ∃ hs, HArg w' (.slice (some ⟨g, 0, none⟩) n cap) hs ∧ All32 hs ∧ hs.length = n := by
  obtain ⟨hs, h1, h2, h3⟩ := chunk n cs hl hb
  exact ⟨hs, HArg.of h1 hc (by show w'.rangeAt g 0 (hcells hs); rw [h3]; exact V.cells), h2, h1⟩
theorem bytes_sets {cs vs : List Value} (h : ∀ c ∈ cs, ∃ b : UInt8, c = Y b) (hv : ∀ c ∈ vs, ∃ b : UInt8, c = Y b) (o m : Nat) : ∀ c ∈ cs.take o ++ vs ++ cs.drop m, ∃ b : UInt8, c = Y b := by
  intro c hc
  rcases List.mem_append.1 hc with hc | hc
  · rcases List.mem_append.1 hc with hc | hc
    · exact h c (List.mem_of_mem_take hc)
    · exact hv c hc
  · exact h c (List.mem_of_mem_drop hc)
theorem bytes_map (x : List UInt8) : ∀ c ∈ x.map Y, ∃ b : UInt8, c = Y b := by
  intro c hc
  obtain ⟨b, _, rfl⟩ := List.mem_map.1 hc
  exact ⟨b, rfl⟩
theorem Blk.cellsOther' {b g : Nat} (hg : b ≠ g) {cs : Array Value} {t : TypeId} : ∀ (vs : List Value) (o : Nat) (w : World), Blk w b cs t → Blk (w.setCells g o vs) b cs t
  | [], _, _, h => h
  | v :: r, o, _, h => Blk.cellsOther' hg r (o + 1) _ (h.other (a := ⟨g, o, none⟩) hg v)
end Go.Proofs.Ytjekdeikoebmgaa

namespace Go.Proofs.Ytjekdeikoebmgaa
open Go.RowKit Go.Shelf Tr

theorem run_build0 (w : World) : (Instr.buildSlice 32 0 #[]).run Try.prog w = .ok (.slice (some ⟨w.heap.size, 0, none⟩) 0 0) (w.alloc (.cells #[] 24)) := by
  obtain ⟨i0, hi, hz0, hz1, _⟩ := info_parts infoHash
  simp [Instr.buildSlice, run_underlying Try.underlying32, sizeOf, typeInfo, hi, Instr.fill, newRow]
  congr 2
  simp
theorem OwnV.empty (w : World) (base : Nat) (hb : base ≤ w.heap.size) : OwnH (w.alloc (.cells #[] 24)) base (.slice (some ⟨w.heap.size, 0, none⟩) 0 0) [] :=
  .inr ⟨_, 0, rfl, rfl, Nat.le_refl _, hb, by simp, by simp [hcells], by intro j hj; omega, by intro j hj; omega, by intro j v hv; simp [hcells] at hv⟩
/-- Some hashes are handed back. -/
def BentQ (w : World) (n : Nat) (e : Ending) (w' : World) : Prop := ∃ (v : Value) (hs : List (List UInt8)), e = .returned v ∧ HArg w' v hs ∧ All32 hs ∧ hs.length ≤ n + 1 ∧ Below w.heap.size w w'
/-- Remainders as Go takes them. -/
theorem rem_two (q : Int) (n : Nat) (hn : 1 ≤ n) : ∃ (R : Int) (k : Nat), q.tmod (n : Int) = R ∧ -(n : Int) < R ∧ R < (n : Int) ∧ (R + (n : Int)).tmod (n : Int) = (k : Int) ∧ (R + (n : Int)) % (n : Int) = (k : Int) ∧ k < n := by
  have h1 := Int.lt_tmod_of_pos q (show (0 : Int) < (n : Int) by omega)
  have h2 := Int.tmod_lt_of_pos q (show (0 : Int) < (n : Int) by omega)
  refine ⟨q.tmod n, ((q.tmod n + n) % n).toNat, rfl, h1, h2, ?_, ?_, ?_⟩
  · rw [Int.tmod_eq_emod_of_nonneg (by omega)]
    have := Int.emod_nonneg (q.tmod n + n) (show (n : Int) ≠ 0 by omega)
    omega
  · have := Int.emod_nonneg (q.tmod n + n) (show (n : Int) ≠ 0 by omega)
    omega
  · have := Int.emod_lt_of_pos (q.tmod n + n) (show (0 : Int) < (n : Int) by omega)
    have := Int.emod_nonneg (q.tmod n + n) (show (n : Int) ≠ 0 by omega)
    omega

set_option maxRecDepth 100000 in
set_option maxHeartbeats 3000000 in
theorem Bent_4 (l : List (List UInt8)) (n : Nat) (q0 q1 : Int) (v : Value) (w : World) (hA : HArg w v l) (ha : All32 l) (hl : l.length ≤ 1000) (hn : l.length = n) (hn1 : 1 ≤ n) (R5 : Int) (hS : q0.tmod 5 = R5) (hS1 : -5 < R5) (hS2 : R5 < 5) (hT1 : (R5 + 5).tmod 5 = 4) (hT2 : (R5 + 5) % 5 = 4) :
    Calls Try.prog 26 #[v, .agg #[.int .i64 q0, .int .i64 q1]] w (BentQ w l.length) := by
  have hB := (Below.refl w.heap.size w).alloc (Nat.le_refl _) (.cells #[.int .i64 q0, .int .i64 q1] 43)
  have NQ := Blk.new w #[.int .i64 q0, .int .i64 q1] 43
  have hA := hA.below hB
  go_enter Try.func26, Try.ntmps26
  go_upto_region 1 with (fail)
  generalize w.alloc (.cells #[.int .i64 q0, .int .i64 q1] 43) = w1 at *
  have hB2 := hB.alloc hB.size (.cells #[] 24)
  obtain ⟨v', w2, hap, hO, hgr, hblk⟩ := run_append_hashes (w1.alloc (.cells #[] 24)) w.heap.size _ v [] l (OwnV.empty _ _ hB.size) hB2.size (hA.below ((Below.refl _ _).alloc (Nat.le_refl _) _)) ha (by simp; omega)
  have hB3 := below_of_grown hB2 hgr hB2.size (fun g hg => by cases hg; exact hB.size)
  have NQ2 := (NQ.alloc (.cells #[] 24)).grown hgr (show w.heap.size ≠ w1.heap.size by have := NQ.lt; omega)
  have HB0 := Lib.hid (run_build0 w1)
  have HAP := Lib.hid hap
  rw [List.nil_append] at hO
  clear hap hblk hgr
  rcases hO with ⟨_, hz, _⟩ | ⟨g, cap, hv, hcl, hnc, VR⟩
  · exact absurd hz (by omega)
  rw [hn] at hv hcl hnc
  subst hv
  have HN := Lib.hid hn
  have c0 := NQ2.cell 0 _ rfl
  have c1 := NQ2.cell 1 _ rfl
  have hl1 : n ≤ 1000 := by omega
  obtain ⟨R, k, hR, hR1, hR2, hK1, hK2, hkn⟩ := rem_two q1 n hn1
  have t0 : ((n : Int) == 0) = false := by rw [beq_eq_false_iff_ne]; omega
  have t1 : ¬ ((n : Int) = 0) := by omega
  have t2 : (0 : Int) ≤ R + (n : Int) := by omega
  have t3 : R + (n : Int) ≤ 2000 := by omega
  have t4 : (0 : Int) ≤ R5 + 5 := by omega
  have t5 : R5 + 5 ≤ 2000 := by omega
  have t6 : (k : Int) < (n : Int) := by omega
  have t7 : n ≠ 0 := by omega
  clear hn hl hcl hA
  go_wp2_with (first
    | (refine wpList_build_run rfl 32 0 #[] rfl #[] rfl _ _ HB0.out ?_)
    | (at_builtin; refine Lib.wpList_append_run _ rfl (.tmp 9) (.tmp 10) 32 32 rfl _ _ rfl rfl _ _ HAP.out ?_))
  go_ret
  exact ⟨_, l, rfl, HArg.of HN.out hnc VR.cells, ha, by omega, hB3⟩

theorem rem_32 (q : Int) : ∃ (R : Int) (j : Nat), q.tmod 32 = R ∧ -32 < R ∧ R < 32 ∧ (R + 32).tmod 32 = (j : Int) ∧ (R + 32) % 32 = (j : Int) ∧ j < 32 := by
  obtain ⟨R, k, h⟩ := rem_two q 32 (by omega)
  exact ⟨R, k, h⟩
set_option maxRecDepth 100000 in
set_option maxHeartbeats 3000000 in
theorem Bent_0 (l : List (List UInt8)) (n : Nat) (q0 q1 : Int) (v : Value) (w : World) (hA : HArg w v l) (ha : All32 l) (hl : l.length ≤ 1000) (hn : l.length = n) (hn1 : 1 ≤ n) (R5 : Int) (hS : q0.tmod 5 = R5) (hS1 : -5 < R5) (hS2 : R5 < 5) (hT1 : (R5 + 5).tmod 5 = 0) (hT2 : (R5 + 5) % 5 = 0) :
    Calls Try.prog 26 #[v, .agg #[.int .i64 q0, .int .i64 q1]] w (BentQ w l.length) := by
  have hB := (Below.refl w.heap.size w).alloc (Nat.le_refl _) (.cells #[.int .i64 q0, .int .i64 q1] 43)
  have NQ := Blk.new w #[.int .i64 q0, .int .i64 q1] 43
  have hA := hA.below hB
  go_enter Try.func26, Try.ntmps26
  go_upto_region 1 with (fail)
  generalize w.alloc (.cells #[.int .i64 q0, .int .i64 q1] 43) = w1 at *
  have hB2 := hB.alloc hB.size (.cells #[] 24)
  obtain ⟨v', w2, hap, hO, hgr, hblk⟩ := run_append_hashes (w1.alloc (.cells #[] 24)) w.heap.size _ v [] l (OwnV.empty _ _ hB.size) hB2.size (hA.below ((Below.refl _ _).alloc (Nat.le_refl _) _)) ha (by simp; omega)
  have hB3 := below_of_grown hB2 hgr hB2.size (fun g hg => by cases hg; exact hB.size)
  have NQ2 := (NQ.alloc (.cells #[] 24)).grown hgr (show w.heap.size ≠ w1.heap.size by have := NQ.lt; omega)
  have HB0 := Lib.hid (run_build0 w1)
  have HAP := Lib.hid hap
  rw [List.nil_append] at hO
  clear hap hblk hgr
  rcases hO with ⟨_, hz, _⟩ | ⟨g, cap, hv, hcl, hnc, VR⟩
  · exact absurd hz (by omega)
  rw [hn] at hv hcl hnc
  subst hv
  have HN := Lib.hid hn
  have c0 := NQ2.cell 0 _ rfl
  have c1 := NQ2.cell 1 _ rfl
  have hl1 : n ≤ 1000 := by omega
  obtain ⟨R, k, hR, hR1, hR2, hK1, hK2, hkn⟩ := rem_two q1 n hn1
  have t0 : ((n : Int) == 0) = false := by rw [beq_eq_false_iff_ne]; omega
  have t1 : ¬ ((n : Int) = 0) := by omega
  have t2 : (0 : Int) ≤ R + (n : Int) := by omega
  have t3 : R + (n : Int) ≤ 2000 := by omega
  have t4 : (0 : Int) ≤ R5 + 5 := by omega
  have t5 : R5 + 5 ≤ 2000 := by omega
  have t6 : (k : Int) < (n : Int) := by omega
  have t7 : n ≠ 0 := by omega
  clear hn hl hcl hA
  obtain ⟨R3, j, hJ, hJ1, hJ2, hM1, hM2, hj⟩ := rem_32 q1
  have f1 := After.cell c1
  have hlen := VR.room
  have hcl2 : (hcells l).length = n * 32 := by rw [hcells_length ha, HN.out]
  obtain ⟨b, hb⟩ : ∃ b : UInt8, (hcells l)[k * 32 + j]? = some (Y b) := by
    have h1 : k * 32 + j < (hcells l).length := by omega
    obtain ⟨b, hb⟩ := hcells_bytes _ (List.getElem_mem h1)
    exact ⟨b, by rw [List.getElem?_eq_getElem h1, hb]⟩
  have cb : w2.cell? ⟨g, k * 32 + j, none⟩ = some (Y b) := by have := VR.cells _ _ hb; rwa [Nat.zero_add] at this
  have fb := After.cell cb
  have e1 : IntKind.i64.wrap (R3 + 32) = R3 + 32 := IntWalk.i64_in _ (by omega)
  have b1 : (j : Int) < 32 := by omega
  have b2 : (0 : Int) ≤ (k : Int) := by omega
  have b3 : (0 : Int) ≤ (j : Int) := by omega
  have b4 : ((j : Int)).toNat = j := by omega
  clear hlen
  go_wp2_with (first
    | (refine wpList_build_run rfl 32 0 #[] rfl #[] rfl _ _ HB0.out ?_)
    | (at_builtin; refine Lib.wpList_append_run _ rfl (.tmp 9) (.tmp 10) 32 32 rfl _ _ rfl rfl _ _ HAP.out ?_))
  refine wp_region_after_tail2 13 (by kernel_rfl) (by kernel_rfl) (by kernel_rfl) (by kernel_rfl) ?_
  simp only [List.take_succ_cons, List.take_zero, List.drop_succ_cons, List.drop_zero]
  repeat (go_big_quiet_step (fail))
  refine wpQuiet_nil ?_
  rintro w5 ⟨x5, rfl⟩
  have hb5 := x5.hb
  generalize x5.W = w5 at *
  have VR5 := VR.below hb5
  have hB5 := hB3.trans (hb5.mono hB3.size)
  have c5 : w5.cell? ⟨g, k * 32 + j, none⟩ = some (Y b) := keepCells hb5 _ _ cb
  have f5 : w5.frozen? ⟨g, k * 32 + j, none⟩ = false := VR5.free _ (by omega)
  clear f1 fb cb c0 c1 VR NQ NQ2
  obtain ⟨z, hz⟩ := xor_one b
  obtain ⟨V6, hl6⟩ := VR5.sets (k * 32 + j) [Y z] (by simp; omega)
  obtain ⟨hs, p1, p2, p3⟩ := bent_row _ n g cap _ _ V6 (by rw [hl6]; exact hcl2) hnc (bytes_sets hcells_bytes (by intro c hc; rw [List.mem_singleton.1 hc]; exact ⟨z, rfl⟩) _ _)
  have hB6 : Below w.heap.size w (w5.setCell ⟨g, k * 32 + j, none⟩ (Y z)) := hB5.setCell (p := ⟨g, k * 32 + j, none⟩) VR5.base _
  have P1 : HArg (w5.setCell ⟨g, k * 32 + j, none⟩ (Y z)) (.slice (some ⟨g, 0, none⟩) n cap) hs := p1
  clear V6 hl6 VR5 p1
  go_wp2_with (fail)
  rw [hz]
  go_ret
  exact ⟨_, hs, rfl, P1, p2, by rw [p3, HN.out]; omega, hB6⟩

set_option maxRecDepth 100000 in
set_option maxHeartbeats 3000000 in
theorem Bent_1 (l : List (List UInt8)) (n : Nat) (q0 q1 : Int) (v : Value) (w : World) (hA : HArg w v l) (ha : All32 l) (hl : l.length ≤ 1000) (hn : l.length = n) (hn1 : 1 ≤ n) (R5 : Int) (hS : q0.tmod 5 = R5) (hS1 : -5 < R5) (hS2 : R5 < 5) (hT1 : (R5 + 5).tmod 5 = 1) (hT2 : (R5 + 5) % 5 = 1) :
    Calls Try.prog 26 #[v, .agg #[.int .i64 q0, .int .i64 q1]] w (BentQ w l.length) := by
  have hB := (Below.refl w.heap.size w).alloc (Nat.le_refl _) (.cells #[.int .i64 q0, .int .i64 q1] 43)
  have NQ := Blk.new w #[.int .i64 q0, .int .i64 q1] 43
  have hA := hA.below hB
  go_enter Try.func26, Try.ntmps26
  go_upto_region 1 with (fail)
  generalize w.alloc (.cells #[.int .i64 q0, .int .i64 q1] 43) = w1 at *
  have hB2 := hB.alloc hB.size (.cells #[] 24)
  obtain ⟨v', w2, hap, hO, hgr, hblk⟩ := run_append_hashes (w1.alloc (.cells #[] 24)) w.heap.size _ v [] l (OwnV.empty _ _ hB.size) hB2.size (hA.below ((Below.refl _ _).alloc (Nat.le_refl _) _)) ha (by simp; omega)
  have hB3 := below_of_grown hB2 hgr hB2.size (fun g hg => by cases hg; exact hB.size)
  have NQ2 := (NQ.alloc (.cells #[] 24)).grown hgr (show w.heap.size ≠ w1.heap.size by have := NQ.lt; omega)
  have HB0 := Lib.hid (run_build0 w1)
  have HAP := Lib.hid hap
  rw [List.nil_append] at hO
  clear hap hblk hgr
  rcases hO with ⟨_, hz, _⟩ | ⟨g, cap, hv, hcl, hnc, VR⟩
  · exact absurd hz (by omega)
  rw [hn] at hv hcl hnc
  subst hv
  have HN := Lib.hid hn
  have c0 := NQ2.cell 0 _ rfl
  have c1 := NQ2.cell 1 _ rfl
  have hl1 : n ≤ 1000 := by omega
  obtain ⟨R, k, hR, hR1, hR2, hK1, hK2, hkn⟩ := rem_two q1 n hn1
  have t0 : ((n : Int) == 0) = false := by rw [beq_eq_false_iff_ne]; omega
  have t1 : ¬ ((n : Int) = 0) := by omega
  have t2 : (0 : Int) ≤ R + (n : Int) := by omega
  have t3 : R + (n : Int) ≤ 2000 := by omega
  have t4 : (0 : Int) ≤ R5 + 5 := by omega
  have t5 : R5 + 5 ≤ 2000 := by omega
  have t6 : (k : Int) < (n : Int) := by omega
  have t7 : n ≠ 0 := by omega
  clear hn hl hcl hA
  go_wp2_with (first
    | (refine wpList_build_run rfl 32 0 #[] rfl #[] rfl _ _ HB0.out ?_)
    | (at_builtin; refine Lib.wpList_append_run _ rfl (.tmp 9) (.tmp 10) 32 32 rfl _ _ rfl rfl _ _ HAP.out ?_))
  generalize hD : ({ w2 with drawn := w2.drawn + 1 } : World) = w3
  have hbD : Below w2.heap.size w2 w3 := hD ▸ (Below.refl _ w2).drew
  have hB4 := hB3.trans (hbD.mono hB3.size)
  have hAt : HAt w3 g 0 l := HAt.below VR.cells hbD
  obtain ⟨sv, hsv, hsA⟩ := slice_rest g n cap (k + 1) (by omega) hnc
  have hk1 : HArg w3 (.slice (some ⟨g, 0, none⟩) k cap) (l.take k) := HArg.of (by rw [List.length_take, HN.out]; omega) (by omega) (hAt.take k)
  have hk2 := hsA w3 l HN.out ha hAt
  have hB5 := hB4.alloc hB4.size (.cells #[] 24)
  have b3 : Below w3.heap.size w3 (w3.alloc (.cells #[] 24)) := (Below.refl _ _).alloc (Nat.le_refl _) _
  obtain ⟨v6, w6, r6, O6, g6, k6⟩ := run_append_hashes (w3.alloc (.cells #[] 24)) w.heap.size _ _ [] (l.take k) (OwnV.empty _ _ hB4.size) hB5.size (hk1.below b3) (ha.take k) (by simp; omega)
  have b6 : Below w3.heap.size w3 w6 := below_of_grown b3 g6 b3.size (fun g hg => by cases hg; exact Nat.le_refl _)
  have hB6 := hB4.trans (b6.mono hB4.size)
  obtain ⟨v7, w7, r7, O7, g7, _⟩ := run_append_hashes w6 w.heap.size v6 sv _ (l.drop (k + 1)) O6 hB6.size (hk2.below b6) (ha.drop (k + 1)) (by have := HN.out; simp; omega)
  have hB7 := below_of_grown hB6 g7 hB6.size (fun g hg => O6.blk g hg)
  have P7 := O7.arg
  have L7 : ([] ++ l.take k ++ l.drop (k + 1)).length ≤ l.length + 1 := by simp; omega
  have HB1 := Lib.hid (run_build0 w3)
  have HA1 := Lib.hid r6
  have HA2 := Lib.hid r7
  have e1 : IntKind.i64.wrap ((k : Int) + 1) = (k : Int) + 1 := IntWalk.i64_in _ (by omega)
  have e2 : ∀ w, (Instr.sliceAt 32 (.slice (some ⟨g, 0, none⟩) n cap) (some (.int .i64 ((k : Int) + 1))) none none).run Try.prog w = .ok sv w := hsv
  have e3 : (k : Int) ≤ (cap : Int) := by omega
  clear r6 r7 hsv hsA hAt g6 g7 k6 O6 O7 hB5 hk1 hk2
  refine wp_region_noPanic ?_
  refine wp_region_any (by kernel_rfl) ?_
  rw [hD]
  refine takeL 10 1 (.slice (some ⟨g, 0, none⟩) n cap) rfl (by kernel_rfl) (by kernel_rfl) (by kernel_rfl) (fun _ _ _ h => h) (yields_move rfl rfl rfl) ?_
  simp only [Act.put, List.setIfInBounds_toArray, List.set_cons_zero, List.set_cons_succ]
  refine takeL 9 2 (.int .i64 (k : Int)) rfl (by kernel_rfl) (by kernel_rfl) (by kernel_rfl) (fun _ _ _ h => h) (yields_move rfl rfl rfl) ?_
  simp only [Act.put, List.setIfInBounds_toArray, List.set_cons_zero, List.set_cons_succ]
  refine takeL 8 3 (.slice (some ⟨g, 0, none⟩) k cap) rfl (by kernel_rfl) (by kernel_rfl) (by kernel_rfl) (fun _ _ _ h => h) (yields_field rfl (fun w => by unfold execOp; go_simp)) ?_
  simp only [Act.put, List.setIfInBounds_toArray, List.set_cons_zero, List.set_cons_succ]
  refine takeL 7 5 (.slice (some ⟨g, 0, none⟩) n cap) rfl (by kernel_rfl) (by kernel_rfl) (by kernel_rfl) (fun _ _ _ h => h) (yields_move rfl rfl rfl) ?_
  simp only [Act.put, List.setIfInBounds_toArray, List.set_cons_zero, List.set_cons_succ]
  refine takeL 6 6 (.int .i64 (k : Int)) rfl (by kernel_rfl) (by kernel_rfl) (by kernel_rfl) (fun _ _ _ h => h) (yields_move rfl rfl rfl) ?_
  simp only [Act.put, List.setIfInBounds_toArray, List.set_cons_zero, List.set_cons_succ]
  refine takeL 5 7 (.int .i64 ((k : Int) + 1)) rfl (by kernel_rfl) (by kernel_rfl) (by kernel_rfl) (fun _ _ _ h => h) (yields_field rfl (fun w => by unfold execOp; go_simp)) ?_
  simp only [Act.put, List.setIfInBounds_toArray, List.set_cons_zero, List.set_cons_succ]
  refine takeL 4 8 sv rfl (by kernel_rfl) (by kernel_rfl) (by kernel_rfl) (fun _ _ _ h => h) (yields_field rfl (fun w => by unfold execOp; go_simp)) ?_
  simp only [Act.put, List.setIfInBounds_toArray, List.set_cons_zero, List.set_cons_succ]
  refine wpAny_all (fuel := 3) (rs := [0]) (by kernel_rfl) (by simp) ?_
  intro i hi
  obtain rfl := List.mem_singleton.1 hi
  refine buildL rfl rfl 32 0 #[] rfl #[] rfl _ HB1.out ?_
  simp only [Act.put, List.setIfInBounds_toArray, List.set_cons_zero, List.set_cons_succ]
  refine wpAny_all (fuel := 2) (rs := [4]) (by kernel_rfl) (by simp) ?_
  intro i hi
  obtain rfl := List.mem_singleton.1 hi
  refine appendL rfl rfl (.tmp 60) (.tmp 63) 32 32 rfl _ _ rfl rfl _ HA1.out ?_
  simp only [Act.put, List.setIfInBounds_toArray, List.set_cons_zero, List.set_cons_succ]
  refine wpAny_all (fuel := 1) (rs := [9]) (by kernel_rfl) (by simp) ?_
  intro i hi
  obtain rfl := List.mem_singleton.1 hi
  refine appendL rfl rfl (.tmp 64) (.tmp 68) 32 32 rfl _ _ rfl rfl _ HA2.out ?_
  simp only [Act.put, List.setIfInBounds_toArray, List.set_cons_zero, List.set_cons_succ]
  refine takeL 0 10 v7 rfl (by kernel_rfl) (by kernel_rfl) (by kernel_rfl) (fun _ _ _ h => h) (yields_field rfl (fun w => by unfold execOp; go_simp)) ?_
  simp only [Act.put, List.setIfInBounds_toArray, List.set_cons_zero, List.set_cons_succ]
  refine wpAny_done (by kernel_rfl) ?_ 0
  refine NoPanic.normal ?_
  go_wp2_with (fail)
  go_ret
  exact ⟨_, _, rfl, P7, (All32.nil.append (ha.take k)).append (ha.drop (k + 1)), L7, hB7⟩

set_option maxRecDepth 100000 in
set_option maxHeartbeats 3000000 in
theorem Bent_2 (l : List (List UInt8)) (n : Nat) (q0 q1 : Int) (v : Value) (w : World) (hA : HArg w v l) (ha : All32 l) (hl : l.length ≤ 1000) (hn : l.length = n) (hn1 : 1 ≤ n) (R5 : Int) (hS : q0.tmod 5 = R5) (hS1 : -5 < R5) (hS2 : R5 < 5) (hT1 : (R5 + 5).tmod 5 = 2) (hT2 : (R5 + 5) % 5 = 2) :
    Calls Try.prog 26 #[v, .agg #[.int .i64 q0, .int .i64 q1]] w (BentQ w l.length) := by
  have hB := (Below.refl w.heap.size w).alloc (Nat.le_refl _) (.cells #[.int .i64 q0, .int .i64 q1] 43)
  have NQ := Blk.new w #[.int .i64 q0, .int .i64 q1] 43
  have hA := hA.below hB
  go_enter Try.func26, Try.ntmps26
  go_upto_region 1 with (fail)
  generalize w.alloc (.cells #[.int .i64 q0, .int .i64 q1] 43) = w1 at *
  have hB2 := hB.alloc hB.size (.cells #[] 24)
  obtain ⟨v', w2, hap, hO, hgr, hblk⟩ := run_append_hashes (w1.alloc (.cells #[] 24)) w.heap.size _ v [] l (OwnV.empty _ _ hB.size) hB2.size (hA.below ((Below.refl _ _).alloc (Nat.le_refl _) _)) ha (by simp; omega)
  have hB3 := below_of_grown hB2 hgr hB2.size (fun g hg => by cases hg; exact hB.size)
  have NQ2 := (NQ.alloc (.cells #[] 24)).grown hgr (show w.heap.size ≠ w1.heap.size by have := NQ.lt; omega)
  have HB0 := Lib.hid (run_build0 w1)
  have HAP := Lib.hid hap
  rw [List.nil_append] at hO
  clear hap hblk hgr
  rcases hO with ⟨_, hz, _⟩ | ⟨g, cap, hv, hcl, hnc, VR⟩
  · exact absurd hz (by omega)
  rw [hn] at hv hcl hnc
  subst hv
  have HN := Lib.hid hn
  have c0 := NQ2.cell 0 _ rfl
  have c1 := NQ2.cell 1 _ rfl
  have hl1 : n ≤ 1000 := by omega
  obtain ⟨R, k, hR, hR1, hR2, hK1, hK2, hkn⟩ := rem_two q1 n hn1
  have t0 : ((n : Int) == 0) = false := by rw [beq_eq_false_iff_ne]; omega
  have t1 : ¬ ((n : Int) = 0) := by omega
  have t2 : (0 : Int) ≤ R + (n : Int) := by omega
  have t3 : R + (n : Int) ≤ 2000 := by omega
  have t4 : (0 : Int) ≤ R5 + 5 := by omega
  have t5 : R5 + 5 ≤ 2000 := by omega
  have t6 : (k : Int) < (n : Int) := by omega
  have t7 : n ≠ 0 := by omega
  clear hn hl hcl hA
  obtain ⟨x, hx⟩ : ∃ x, l[k]? = some x := ⟨l[k]'(by rw [HN.out]; exact hkn), List.getElem?_eq_getElem _⟩
  have x32 := ha x (List.mem_of_getElem? hx)
  have hEx : w2.rangeAt g (k * 32) (x.map Y) := by have := HAt.elem VR.cells ha k x hx; rwa [Nat.zero_add, Nat.mul_comm] at this
  have HX := Lib.hid hEx
  clear hEx hx
  have HB2 := Lib.hid (run_build1 x x32 w2)
  obtain ⟨v7, w7, r7, O7, g7, _⟩ := run_append_hash w2 w.heap.size (.slice (some ⟨g, 0, none⟩) n cap) l (.inr ⟨g, cap, by rw [HN.out], hcells_length ha, by rw [HN.out]; exact hnc, VR⟩) hB3.size x x32 (by rw [HN.out]; omega)
  have hB7 := below_of_grown hB3 g7 hB3.size (fun g' hg => by cases hg; exact VR.base)
  have P7 := O7.arg
  have HAP2 := Lib.hid r7
  clear r7 O7 g7
  go_wp2_with (first
    | (refine wpList_build_run rfl 32 0 #[] rfl #[] rfl _ _ HB0.out ?_)
    | (at_builtin; refine Lib.wpList_append_run _ rfl (.tmp 9) (.tmp 10) 32 32 rfl _ _ rfl rfl _ _ HAP.out ?_)
    | (refine wpList_load_hashAt (by kernel_rfl) (.tmp 75) rfl g (k * 32) rfl x x32 HX.out ?_; go_frame)
    | (refine wpList_build_run rfl 32 1 #[(0, .tmp 76)] rfl #[(0, .agg (hrow x))] rfl _ _ HB2.out ?_)
    | (at_builtin; refine Lib.wpList_append_run _ rfl (.tmp 72) (.tmp 77) 32 32 rfl _ _ rfl rfl _ _ HAP2.out ?_))
  go_ret
  exact ⟨_, _, rfl, P7, ha.snoc x32, by simp, hB7⟩

set_option maxRecDepth 100000 in
set_option maxHeartbeats 3000000 in
theorem Bent_3 (l : List (List UInt8)) (n : Nat) (q0 q1 : Int) (v : Value) (w : World) (hA : HArg w v l) (ha : All32 l) (hl : l.length ≤ 1000) (hn : l.length = n) (hn1 : 1 ≤ n) (R5 : Int) (hS : q0.tmod 5 = R5) (hS1 : -5 < R5) (hS2 : R5 < 5) (hT1 : (R5 + 5).tmod 5 = 3) (hT2 : (R5 + 5) % 5 = 3) :
    Calls Try.prog 26 #[v, .agg #[.int .i64 q0, .int .i64 q1]] w (BentQ w l.length) := by
  have hB := (Below.refl w.heap.size w).alloc (Nat.le_refl _) (.cells #[.int .i64 q0, .int .i64 q1] 43)
  have NQ := Blk.new w #[.int .i64 q0, .int .i64 q1] 43
  have hA := hA.below hB
  go_enter Try.func26, Try.ntmps26
  go_upto_region 1 with (fail)
  generalize w.alloc (.cells #[.int .i64 q0, .int .i64 q1] 43) = w1 at *
  have hB2 := hB.alloc hB.size (.cells #[] 24)
  obtain ⟨v', w2, hap, hO, hgr, hblk⟩ := run_append_hashes (w1.alloc (.cells #[] 24)) w.heap.size _ v [] l (OwnV.empty _ _ hB.size) hB2.size (hA.below ((Below.refl _ _).alloc (Nat.le_refl _) _)) ha (by simp; omega)
  have hB3 := below_of_grown hB2 hgr hB2.size (fun g hg => by cases hg; exact hB.size)
  have NQ2 := (NQ.alloc (.cells #[] 24)).grown hgr (show w.heap.size ≠ w1.heap.size by have := NQ.lt; omega)
  have HB0 := Lib.hid (run_build0 w1)
  have HAP := Lib.hid hap
  rw [List.nil_append] at hO
  clear hap hblk hgr
  rcases hO with ⟨_, hz, _⟩ | ⟨g, cap, hv, hcl, hnc, VR⟩
  · exact absurd hz (by omega)
  rw [hn] at hv hcl hnc
  subst hv
  have HN := Lib.hid hn
  have c0 := NQ2.cell 0 _ rfl
  have c1 := NQ2.cell 1 _ rfl
  have hl1 : n ≤ 1000 := by omega
  obtain ⟨R, k, hR, hR1, hR2, hK1, hK2, hkn⟩ := rem_two q1 n hn1
  have t0 : ((n : Int) == 0) = false := by rw [beq_eq_false_iff_ne]; omega
  have t1 : ¬ ((n : Int) = 0) := by omega
  have t2 : (0 : Int) ≤ R + (n : Int) := by omega
  have t3 : R + (n : Int) ≤ 2000 := by omega
  have t4 : (0 : Int) ≤ R5 + 5 := by omega
  have t5 : R5 + 5 ≤ 2000 := by omega
  have t6 : (k : Int) < (n : Int) := by omega
  have t7 : n ≠ 0 := by omega
  clear hn hl hcl hA
  obtain ⟨x, hx⟩ : ∃ x, l[k]? = some x := ⟨l[k]'(by rw [HN.out]; exact hkn), List.getElem?_eq_getElem _⟩
  have x32 := ha x (List.mem_of_getElem? hx)
  have hEx : w2.rangeAt g (k * 32) (x.map Y) := by have := HAt.elem VR.cells ha k x hx; rwa [Nat.zero_add, Nat.mul_comm] at this
  have HX := Lib.hid hEx
  clear hEx hx
  obtain ⟨m, hm4, hmn⟩ : ∃ m : Nat, ((k : Int) + 1) % (n : Int) = (m : Int) ∧ m < n := ⟨(k + 1) % n, by rw [Int.natCast_emod, Int.natCast_add]; rfl, Nat.mod_lt _ (by omega)⟩
  have hm3 : ((k : Int) + 1).tmod (n : Int) = (m : Int) := by rw [Int.tmod_eq_emod_of_nonneg (by omega)]; exact hm4
  have hm5 : (m : Int) < (n : Int) := by omega
  obtain ⟨y, hy⟩ : ∃ y, l[m]? = some y := ⟨l[m]'(by rw [HN.out]; exact hmn), List.getElem?_eq_getElem _⟩
  have y32 := ha y (List.mem_of_getElem? hy)
  have HY := Lib.hid hy
  have HCL := Lib.hid (show (hcells l).length = n * 32 by rw [hcells_length ha, HN.out])
  clear hy
  go_upto_region 17 with (first
    | (refine wpList_build_run rfl 32 0 #[] rfl #[] rfl _ _ HB0.out ?_)
    | (at_builtin; refine Lib.wpList_append_run _ rfl (.tmp 9) (.tmp 10) 32 32 rfl _ _ rfl rfl _ _ HAP.out ?_)
    | (refine wpList_load_hashAt (by kernel_rfl) (.tmp 88) rfl g (k * 32) rfl x x32 HX.out ?_; go_frame)
    | (refine wpList_alloc_hash rfl rfl ?_; go_frame; try simp only [World.size_alloc])
    | (refine wpList_store_hash rfl (.tmp 8) (.tmp 89) rfl w2.heap.size x x32 rfl rfl hz (Blk.new w2 hz 24) hz_len ?_; go_frame; rw [Blk.fresh]))
  have NX := Blk.new w2 (hrow x) 24
  have hB4 := hB3.alloc hB3.size (.cells (hrow x) 24)
  have VR4 := VR.below ((Below.refl w2.heap.size w2).alloc (Nat.le_refl _) (.cells (hrow x) 24))
  have hgx : w2.heap.size ≠ g := by have := VR.lt; omega
  clear VR HX HB0 HAP c0 c1 NQ NQ2
  generalize w2.alloc (.cells (hrow x) 24) = w4 at *
  generalize w2.heap.size = bx at *
  have hEy : w4.rangeAt g (m * 32) (y.map Y) := by have := HAt.elem VR4.cells ha m y HY.out; rwa [Nat.zero_add, Nat.mul_comm] at this
  have hr := VR4.room
  have hcl := HCL.out
  have hT : w4.there g (k * 32) (hrow y).size := fun j hj => by
    rw [hrow_size y32] at hj
    exact ⟨VR4.some_ _ (by omega), VR4.free _ (by omega)⟩
  obtain ⟨V5, l5⟩ := VR4.sets (k * 32) (y.map Y) (by rw [List.length_map, y32]; omega)
  have hB5 := below_of_grown hB4 (grown_cells g (y.map Y) (k * 32) w4 (World.grownBy.refl w4 _)) hB4.size (fun g' hg => by cases hg; exact VR4.base)
  have NX5 := Blk.cellsOther' hgx (y.map Y) (k * 32) w4 NX
  have HEY := Lib.hid hEy
  have HT := Lib.hid hT
  have HV5 := Lib.hid V5
  have HNX5 := Lib.hid NX5
  have HB5 := Lib.hid hB5
  clear hEy hT V5 NX5 hB5
  go_upto_region 18 with (first
    | (refine wpList_load_hashAt (by kernel_rfl) (.tmp 94) rfl g (m * 32) rfl y y32 HEY.out ?_; go_frame)
    | (refine wpList_store_mid rfl 24 (.tmp 96) (.tmp 95) rfl g (k * 32) (hrow y) rfl rfl HT.out (hinfo' y y32) (bytes_all y) ?_; go_frame))
  have V5 := HV5.out
  have NX5 := HNX5.out
  have hB5 := HB5.out
  clear HV5 HNX5 HB5 HEY HT
  have e5 : (hrow y).toList = y.map Y := rfl
  rw [e5]
  have hbt := bytes_sets (hcells_bytes (hs := l)) (bytes_map y) (k * 32) (k * 32 + (y.map Y).length)
  generalize (hcells l).take (k * 32) ++ y.map Y ++ (hcells l).drop (k * 32 + (y.map Y).length) = cs5 at *
  generalize w4.setCells g (k * 32) (y.map Y) = w5 at *
  have hT6 : w5.there g (m * 32) (hrow x).size := fun j hj => by
    rw [hrow_size x32] at hj
    exact ⟨V5.some_ _ (by omega), V5.free _ (by omega)⟩
  obtain ⟨V6, l6⟩ := V5.sets (m * 32) (x.map Y) (by rw [List.length_map, x32]; omega)
  have hB6 := below_of_grown hB5 (grown_cells g (x.map Y) (m * 32) w5 (World.grownBy.refl w5 _)) hB5.size (fun g' hg => by cases hg; exact V5.base)
  obtain ⟨hs, p1, p2, p3⟩ := bent_row _ n g cap _ _ V6 (by omega) hnc (bytes_sets hbt (bytes_map x) _ _)
  have HT6 := Lib.hid hT6
  have HB6 := Lib.hid hB6
  have HP1 := Lib.hid p1
  have HP3 := Lib.hid p3
  clear hT6 hB6 p1 p3 V6 l6 hbt
  go_wp2_with (first
    | (refine wpList_load_hash (by kernel_rfl) (.tmp 8) rfl bx rfl x x32 NX5 ?_; go_frame)
    | (refine wpList_store_mid rfl 24 (.tmp 100) (.tmp 99) rfl g (m * 32) (hrow x) rfl rfl HT6.out (hinfo' x x32) (bytes_all x) ?_; go_frame))
  go_ret
  exact ⟨_, hs, rfl, HP1.out, p2, by rw [HP3.out, HN.out]; omega, HB6.out⟩

set_option maxRecDepth 100000 in
set_option maxHeartbeats 3000000 in
theorem Bent_n0 (l : List (List UInt8)) (q0 q1 : Int) (v : Value) (w : World) (hA : HArg w v l) (ha : All32 l) (hl : l.length ≤ 1000) (hn : l.length = 0) (h2 : (q0.tmod 2 == 0) = false) :
    Calls Try.prog 26 #[v, .agg #[.int .i64 q0, .int .i64 q1]] w (BentQ w l.length) := by
  have hB := (Below.refl w.heap.size w).alloc (Nat.le_refl _) (.cells #[.int .i64 q0, .int .i64 q1] 43)
  have NQ := Blk.new w #[.int .i64 q0, .int .i64 q1] 43
  have hA := hA.below hB
  go_enter Try.func26, Try.ntmps26
  go_upto_region 1 with (fail)
  generalize w.alloc (.cells #[.int .i64 q0, .int .i64 q1] 43) = w1 at *
  have hB2 := hB.alloc hB.size (.cells #[] 24)
  obtain ⟨v', w2, hap, hO, hgr, hblk⟩ := run_append_hashes (w1.alloc (.cells #[] 24)) w.heap.size _ v [] l (OwnV.empty _ _ hB.size) hB2.size (hA.below ((Below.refl _ _).alloc (Nat.le_refl _) _)) ha (by simp; omega)
  have hB3 := below_of_grown hB2 hgr hB2.size (fun g hg => by cases hg; exact hB.size)
  have NQ2 := (NQ.alloc (.cells #[] 24)).grown hgr (show w.heap.size ≠ w1.heap.size by have := NQ.lt; omega)
  have HB0 := Lib.hid (run_build0 w1)
  have HAP := Lib.hid hap
  rw [List.nil_append] at hO
  clear hap hblk hgr
  obtain ⟨av, cv, hv, _, _⟩ := hO.arg
  obtain rfl : l = [] := List.length_eq_zero_iff.1 hn
  subst hv
  have c0 := NQ2.cell 0 _ rfl
  have c1 := NQ2.cell 1 _ rfl
  clear hA
  go_wp2_with (first
    | (refine wpList_build_run rfl 32 0 #[] rfl #[] rfl _ _ HB0.out ?_)
    | (at_builtin; refine Lib.wpList_append_run _ rfl (.tmp 9) (.tmp 10) 32 32 rfl _ _ rfl rfl _ _ HAP.out ?_))
  go_ret
  exact ⟨_, [], rfl, hO.arg, All32.nil, by simp, hB3⟩

theorem byte_build (b : UInt8) (w : World) : (Instr.build 24 #[(0, Y b)]).run Try.prog w = .ok (.agg (hrow (b :: List.replicate 31 0))) w := run_build w 24 #[(0, Y b)] _ (by kernel_rfl)
theorem wpList_build_byte {ops : Array Oper} {rest : List Oper} {o : Oper} {a : Act} {w : World} {Q : Exit → Act → World → Prop} (hgd : o.guard = none) (p0 : Operand) (ho : o.op = .build 24 #[(0, p0)]) (b : UInt8) (h0 : a.eval p0 = Y b) (x : List UInt8)
    (hr : ∀ w, (Instr.build 24 #[(0, Y b)]).run Try.prog w = .ok (.agg (hrow x)) w) (h : wpList Try.prog ops Q rest (a.put o.dst (.agg (hrow x))) w) : wpList Try.prog ops Q (o :: rest) a w := by
  refine wpList_plain hgd fun K hK => ?_
  have hp : ((#[(0, p0)] : Array (Nat × Operand)).map fun (i, x) => (i, a.eval x)) = #[(0, Y b)] := by simp [h0]
  unfold Oper.wp execOp
  simp only [ho, hp, hr w, Sem.run_bind, Result.andThen_ok]
  exact hK _ _ h
theorem byte_wrap (q : Int) : ∃ b : UInt8, Value.int .u8 (IntKind.u8.wrap q) = Y b ∧ Value.int .u8 (q % 256) = Y b := by
  have h1 : IntKind.u8.wrap q = q % 256 := by simp [IntKind.wrap, IntKind.signed, IntKind.bits]
  refine ⟨UInt8.ofNat (q % 256).toNat, ?_, ?_⟩
  · rw [h1]
    show _ = Value.int .u8 _
    congr 1
    rw [UInt8.toNat_ofNat']
    omega
  · show _ = Value.int .u8 _
    congr 1
    rw [UInt8.toNat_ofNat']
    omega
set_option maxRecDepth 100000 in
set_option maxHeartbeats 3000000 in
theorem Bent_n1 (l : List (List UInt8)) (q0 q1 : Int) (v : Value) (w : World) (hA : HArg w v l) (ha : All32 l) (hl : l.length ≤ 1000) (hn : l.length = 0) (h2 : (q0.tmod 2 == 0) = true) :
    Calls Try.prog 26 #[v, .agg #[.int .i64 q0, .int .i64 q1]] w (BentQ w l.length) := by
  have hB := (Below.refl w.heap.size w).alloc (Nat.le_refl _) (.cells #[.int .i64 q0, .int .i64 q1] 43)
  have NQ := Blk.new w #[.int .i64 q0, .int .i64 q1] 43
  have hA := hA.below hB
  go_enter Try.func26, Try.ntmps26
  go_upto_region 1 with (fail)
  generalize w.alloc (.cells #[.int .i64 q0, .int .i64 q1] 43) = w1 at *
  have hB2 := hB.alloc hB.size (.cells #[] 24)
  obtain ⟨v', w2, hap, hO, hgr, hblk⟩ := run_append_hashes (w1.alloc (.cells #[] 24)) w.heap.size _ v [] l (OwnV.empty _ _ hB.size) hB2.size (hA.below ((Below.refl _ _).alloc (Nat.le_refl _) _)) ha (by simp; omega)
  have hB3 := below_of_grown hB2 hgr hB2.size (fun g hg => by cases hg; exact hB.size)
  have NQ2 := (NQ.alloc (.cells #[] 24)).grown hgr (show w.heap.size ≠ w1.heap.size by have := NQ.lt; omega)
  have HB0 := Lib.hid (run_build0 w1)
  have HAP := Lib.hid hap
  rw [List.nil_append] at hO
  clear hap hblk hgr
  obtain ⟨av, cv, hv, _, _⟩ := hO.arg
  obtain rfl : l = [] := List.length_eq_zero_iff.1 hn
  subst hv
  have c0 := NQ2.cell 0 _ rfl
  have c1 := NQ2.cell 1 _ rfl
  clear hA
  obtain ⟨b, hb1, hb2⟩ := byte_wrap q1
  have x32 : (b :: List.replicate 31 0).length = 32 := rfl
  have HB2 := Lib.hid (run_build1 (b :: List.replicate 31 0) x32 w2)
  obtain ⟨v7, w7, r7, O7, g7, _⟩ := run_append_hash w2 w.heap.size (.slice av 0 cv) [] hO hB3.size (b :: List.replicate 31 0) x32 (by simp)
  have hB7 := below_of_grown hB3 g7 hB3.size (fun g' hg => hO.blk g' hg)
  have P7 := O7.arg
  have HAP2 := Lib.hid r7
  have hbb : ∀ w, (Instr.build 24 #[(0, Y b)]).run Try.prog w = .ok (.agg (hrow (b :: List.replicate 31 0))) w := byte_build b
  have A7 : All32 ([] ++ [b :: List.replicate 31 0]) := All32.nil.snoc x32
  clear r7 O7 g7 hO
  generalize b :: List.replicate 31 0 = x at *
  go_wp2_with (first
    | (refine wpList_build_run rfl 32 0 #[] rfl #[] rfl _ _ HB0.out ?_)
    | (refine wpList_build_byte rfl (.tmp 22) rfl b rfl x hbb ?_; go_frame)
    | (refine wpList_build_run rfl 32 1 #[(0, .tmp 23)] rfl #[(0, .agg (hrow x))] rfl _ _ HB2.out ?_)
    | (at_builtin; refine Lib.wpList_append_run _ rfl (.tmp 9) (.tmp 10) 32 32 rfl _ _ rfl rfl _ _ HAP.out ?_)
    | (at_builtin; refine Lib.wpList_append_run _ rfl (.tmp 19) (.tmp 24) 32 32 rfl _ _ rfl rfl _ _ HAP2.out ?_))
  go_ret
  exact ⟨_, _, rfl, P7, A7, by simp, hB7⟩

theorem rem_5 (q : Int) : ∃ (R : Int) (j : Nat), q.tmod 5 = R ∧ -5 < R ∧ R < 5 ∧ (R + 5).tmod 5 = (j : Int) ∧ (R + 5) % 5 = (j : Int) ∧ j < 5 := by
  obtain ⟨R, k, h⟩ := rem_two q 5 (by omega)
  exact ⟨R, k, h⟩
theorem Bent_any (l : List (List UInt8)) (q0 q1 : Int) (v : Value) (w : World) (hA : HArg w v l) (ha : All32 l) (hl : l.length ≤ 1000) :
    Calls Try.prog 26 #[v, .agg #[.int .i64 q0, .int .i64 q1]] w (BentQ w l.length) := by
  by_cases hn : l.length = 0
  · by_cases h : (q0.tmod 2 == 0) = true
    · exact Bent_n1 l q0 q1 v w hA ha hl hn h
    · exact Bent_n0 l q0 q1 v w hA ha hl hn (by simpa using h)
  · obtain ⟨R, j, h1, h2, h3, h4, h5, h6⟩ := rem_5 q0
    have hj : j = 0 ∨ j = 1 ∨ j = 2 ∨ j = 3 ∨ j = 4 := by omega
    rcases hj with rfl | rfl | rfl | rfl | rfl
    · exact Bent_0 l _ q0 q1 v w hA ha hl rfl (by omega) R h1 h2 h3 h4 h5
    · exact Bent_1 l _ q0 q1 v w hA ha hl rfl (by omega) R h1 h2 h3 h4 h5
    · exact Bent_2 l _ q0 q1 v w hA ha hl rfl (by omega) R h1 h2 h3 h4 h5
    · exact Bent_3 l _ q0 q1 v w hA ha hl rfl (by omega) R h1 h2 h3 h4 h5
    · exact Bent_4 l _ q0 q1 v w hA ha hl rfl (by omega) R h1 h2 h3 h4 h5
end Go.Proofs.Ytjekdeikoebmgaa
