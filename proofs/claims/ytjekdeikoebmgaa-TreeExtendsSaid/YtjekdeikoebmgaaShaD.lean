/- Rows of bytes of the call's own, whose capacity Go leaves open: made of a string, appended to. Conditions: sizes below 2^46. slices.Chunk at bytes, pieces of 64: it visits the pieces in their order. -/
import Derived.Test.YtjekdeikoebmgaaShaB
import Derived.Lib.ConvBytes
import Derived.Lib.AppendZerosOnto
namespace Go.Proofs.Ytjekdeikoebmgaa
open Go.RowKit Go.Shelf

/-- Block g, from base on, holds the bytes bs, has room for cap, and may be written so far. -/
structure BRow (w : World) (base g cap : Nat) (bs : List UInt8) : Prop where
  base : base ≤ g
  lt : g < w.heap.size
  len : bs.length ≤ cap
  some_ : ∀ j, j < cap → (w.cell? ⟨g, j, none⟩).isSome = true
  free : ∀ j, j < cap → w.frozen? ⟨g, j, none⟩ = false
  cells : ∀ j x, bs[j]? = some x → w.cell? ⟨g, j, none⟩ = some (Y x)

theorem BRow.keep {w w' : World} {base g cap : Nat} {bs : List UInt8} (h : BRow w base g cap bs) (hs : w.heap.size ≤ w'.heap.size) (hg : w'.heap[g]? = w.heap[g]?) : BRow w' base g cap bs := by
  have h1 : ∀ j, w'.cell? ⟨g, j, none⟩ = w.cell? ⟨g, j, none⟩ := fun j => World.cell?_of_block (w := w) (a := ⟨g, j, none⟩) hg
  have h2 : ∀ j, w'.frozen? ⟨g, j, none⟩ = w.frozen? ⟨g, j, none⟩ := fun j => World.frozen?_of_block (w := w) (a := ⟨g, j, none⟩) hg
  exact ⟨h.base, Nat.lt_of_lt_of_le h.lt hs, h.len, fun j hj => by rw [h1]; exact h.some_ j hj, fun j hj => by rw [h2]; exact h.free j hj, fun j x hx => by rw [h1]; exact h.cells j x hx⟩
theorem BRow.below {w w' : World} {base g cap : Nat} {bs : List UInt8} (h : BRow w base g cap bs) (hb : Below w.heap.size w w') : BRow w' base g cap bs := h.keep hb.size (hb.block g h.lt)
theorem BRow.alloc {w : World} {base g cap : Nat} {bs : List UInt8} (h : BRow w base g cap bs) (o : Obj) : BRow (w.alloc o) base g cap bs := h.keep (by simp) (Below.heap_alloc _ _ _ h.lt)
theorem BRow.bytes {w : World} {base g cap : Nat} {bs : List UInt8} (h : BRow w base g cap bs) : BytesAt w g 0 bs := fun i x hx => by rw [Nat.zero_add]; exact h.cells i x hx

theorem grown_setCells {a w : World} {g : Nat} (h : a.grownBy w (some g)) : ∀ (vs : List Value) (o : Nat), a.grownBy (w.setCells g o vs) (some g)
  | [], _ => h
  | v :: r, o => grown_setCells (grown_set h o v) r (o + 1)
theorem size_setCells (g : Nat) : ∀ (vs : List Value) (o : Nat) (w : World), (w.setCells g o vs).heap.size = w.heap.size
  | [], _, _ => rfl
  | v :: r, o, w => by
    show ((w.setCell ⟨g, o, none⟩ v).setCells g (o + 1) r).heap.size = _
    rw [size_setCells g r (o + 1)]; simp [World.setCell]

theorem bytes_one (m : List UInt8) : ∀ u ∈ m.map Y, u.oneCell' = true := by
  intro u hu
  obtain ⟨x, _, rfl⟩ := List.mem_map.1 hu
  rfl
theorem getElem_mapY (m : List UInt8) (j : Nat) (u : Value) (h : (m.map Y)[j]? = some u) : ∃ x, m[j]? = some x ∧ u = Y x := by
  rw [List.getElem?_map] at h
  cases hx : m[j]? with
  | none => rw [hx] at h; cases h
  | some x => rw [hx] at h; exact ⟨x, rfl, by simpa using h.symm⟩

/-- The row behind a store within its room. -/
theorem BRow.stored {w : World} {base g cap : Nat} {bs news : List UInt8} (h : BRow w base g cap bs) (hr : bs.length + news.length ≤ cap) : BRow (w.setCells g bs.length (news.map Y)) base g cap (bs ++ news) := by
  have hlen : (news.map Y).length = news.length := List.length_map _
  have hin : ∀ j, j < (news.map Y).length → (w.cell? ⟨g, bs.length + j, none⟩).isSome = true := fun j hj => h.some_ _ (by omega)
  refine ⟨h.base, by rw [size_setCells]; exact h.lt, by rw [List.length_append]; exact hr, fun j hj => World.isSome_setCells g _ _ _ _ (h.some_ j hj), fun j hj => by rw [World.frozen?_setCells]; exact h.free j hj, fun j x hx => ?_⟩
  by_cases hj : j < bs.length
  · rw [List.getElem?_append_left hj] at hx
    rw [World.cell?_setCells_out g _ _ _ _ (fun _ _ => .inl hj)]
    exact h.cells j x hx
  · rw [List.getElem?_append_right (by omega)] at hx
    have hj2 : j - bs.length < news.length := (List.getElem?_eq_some_iff.1 hx).1
    have h1 := World.cell?_setCells_in g (news.map Y) bs.length w hin (j - bs.length) (by omega)
    rw [show bs.length + (j - bs.length) = j by omega] at h1
    rw [h1]
    have h2 := (List.getElem?_eq_some_iff.1 hx).2
    simp [h2]

/-- A new row that holds these bytes first. -/
theorem BRow.made (w : World) (base : Nat) (bs : List UInt8) (c : Array Value) (cap : Nat) (hb : base ≤ w.heap.size) (hn : bs.length ≤ cap) (hc : c.size = cap) (hcs : ∀ (j : Nat) (x : UInt8), bs[j]? = some x → c[j]? = some (Y x)) :
    BRow (w.alloc (.cells c 5)) base w.heap.size cap bs := by
  have hblk := Blk.new w c 5
  have hcell : ∀ j, (w.alloc (.cells c 5)).cell? ⟨w.heap.size, j, none⟩ = c[j]? := fun j => cell_of_row _ _ j c _ (0, 0) hblk
  refine ⟨hb, by simp, hn, fun j hj => by rw [hcell]; simp; omega, fun j _ => hblk.frozen j, fun j x hx => by rw [hcell]; exact hcs j x hx⟩

theorem infoB : (Try.prog.info? 5).map (fun i => (i.zero, i.size, i.bytes)) = some (some (.int .u8 0), 1, 1) := by kernel_rfl

theorem zeroCells_u8 (n : Nat) : Builtin.zeroCells (Value.int .u8 0).cells n = ((List.replicate n (0 : UInt8)).map Y).toArray := by
  unfold Builtin.zeroCells Value.cells
  apply Array.ext_getElem?
  intro i
  by_cases hi : i < n
  · simp [hi, Nat.mod_one]
  · simp [hi]

/-- append of bytes that lie somewhere. -/
theorem run_append_bytes (w : World) (ty : TypeId) (base g cap : Nat) (bs : List UInt8) (h : BRow w base g cap bs) (hb : base ≤ w.heap.size) (a : Addr) (c : Nat) (news : List UInt8) (hn : ∀ j x, news[j]? = some x → w.cell? (a.add j) = some (Y x)) (l m l' : Nat) (el : bs.length = l) (em : news.length = m) (el' : l + m = l') (hsz : l' ≤ 140737488355328) :
    ∃ g' cap' w', (Builtin.append_ #[30, 30] ty #[.slice (some ⟨g, 0, none⟩) l cap, .slice (some a) m c]).run Try.prog w = .ok (.slice (some ⟨g', 0, none⟩) l' cap') w' ∧
      BRow w' base g' cap' (bs ++ news) ∧ w.grownBy w' (some g) := by
  subst el em el'
  obtain ⟨i0, hi, hz0, hz1, hz2⟩ := info_parts infoB
  have hsrc : Src Try.prog i0.size 30 (.slice (some a) news.length c) news.length (news.map Y) w :=
    Src.ofSlice w Try.underlying30 a news.length c (news.map Y) (by rw [hz1]; simp) (fun j u hu => by obtain ⟨x, hx, rfl⟩ := getElem_mapY _ _ _ hu; exact hn j x hx) (bytes_one _)
  by_cases hr : bs.length + news.length ≤ cap
  · have h1 := run_append_room_src w 30 30 ty 5 i0 Try.underlying30 hi g 0 bs.length cap _ _ _ hsrc hr (fun j hj => h.some_ _ (by rw [hz1]; simp at hj; omega)) (fun j hj => h.free _ (by rw [hz1]; simp at hj; omega))
    rw [hz1, Nat.mul_one, Nat.zero_add] at h1
    exact ⟨g, cap, _, h1, h.stored hr, grown_setCells (World.grownBy.refl w _) _ _⟩
  · have hold : (Builtin.firstCells i0.size bs.length (.slice (some ⟨g, 0, none⟩) bs.length cap)).run Try.prog w.drew = .ok (bs.map Y).toArray w.drew :=
      run_firstCells_some w.drew i0.size bs.length ⟨g, 0, none⟩ bs.length cap (bs.map Y) (by rw [hz1]; simp) (fun j u hu => by
        obtain ⟨x, hx, rfl⟩ := getElem_mapY _ _ _ hu
        rw [Addr.add_lit, Nat.zero_add]; exact h.cells j x hx)
    have h1 := run_append_grow_src w 30 30 ty 5 i0 _ Try.underlying30 hi hz0 (some ⟨g, 0, none⟩) bs.length cap (bs.map Y) hold _ _ _ hsrc (by omega) (by omega) (growslice_fits (by omega) (by rw [hz2]; omega))
    have hcap := grownCap_ge w (bs.length + news.length) cap 5
    refine ⟨_, _, _, h1, BRow.made w.drew base (bs ++ news) _ _ hb (by rw [List.length_append]; exact hcap) ?_ ?_, ?_⟩
    · rw [zeroCells_u8]; simp; omega
    · intro j x hx
      have hj : j < (bs ++ news).length := (List.getElem?_eq_some_iff.1 hx).1
      rw [← List.map_append, Array.getElem?_append_left (by simpa using hj)]
      rw [List.getElem?_toArray, List.getElem?_map, hx]; rfl
    · exact ⟨rfl, rfl, rfl, by simp, fun k hk _ => Below.heap_alloc w.drew _ k hk⟩

/-- append of zeros. -/
theorem run_append_zeros (w : World) (ty : TypeId) (base g cap : Nat) (bs : List UInt8) (h : BRow w base g cap bs) (hb : base ≤ w.heap.size) (n l l' : Nat) (el : bs.length = l) (el' : l + n = l') (hsz : l' ≤ 140737488355328) :
    ∃ g' cap' w', (Builtin.append_ #[30, 3] ty #[.slice (some ⟨g, 0, none⟩) l cap, .int .i64 n]).run Try.prog w = .ok (.slice (some ⟨g', 0, none⟩) l' cap') w' ∧
      BRow w' base g' cap' (bs ++ List.replicate n 0) ∧ w.grownBy w' (some g) := by
  subst el el'
  obtain ⟨i0, hi, hz0, hz1, hz2⟩ := info_parts infoB
  by_cases hr : bs.length + n ≤ cap
  · have hst := run_storeCells_cells (P := Try.prog) g (0 + bs.length * 1) ((List.replicate n 0).map Y) 0 w (fun j hj => h.some_ _ (by simp at hj; omega)) (fun j hj => h.free _ (by simp at hj; omega)) (bytes_one _)
    have hst' : (storeCells ⟨g, bs.length, none⟩ ((List.replicate n 0).map Y)).run Try.prog w = .ok () (w.setCells g bs.length ((List.replicate n 0).map Y)) := by simpa using hst
    refine ⟨g, cap, w.setCells g bs.length ((List.replicate n 0).map Y), ?_, h.stored (by simpa using hr), grown_setCells (World.grownBy.refl w _) _ _⟩
    have hw : IntKind.i64.wrap (n : Int) = n := by rw [IntKind.wrap_i64]; omega
    have hneg : ¬ ((n : Int) < 0) := by omega
    have h48 : ¬ (281474976710656 < (n : Int)) := by omega
    have hz : (Builtin.zeroCells (Value.int .u8 0).cells n).toList = List.replicate n (Y 0) := by rw [zeroCells_u8]; simp
    have hw0 : IntKind.i64.wrap 0 = 0 := rfl
    rw [List.map_replicate] at hst' ⊢
    by_cases h0 : n = 0
    · subst h0
      simp [Builtin.append_, run_underlying Try.underlying30, run_underlying Try.underlying3, sizeOf, typeInfo, zeroValue, hi, hz0, hz2, asInt, asIntOf, hw0, h.len, storeCells, World.setCells]
    · simp [Builtin.append_, run_underlying Try.underlying30, run_underlying Try.underlying3, sizeOf, typeInfo, zeroValue, hi, hz0, hz1, hz2, asInt, asIntOf, hw, hneg, h48, h0, hr, hz, Addr.add_lit, hst']
  · by_cases h0 : n = 0
    · have := h.len; omega
    have hold : (Builtin.firstCells i0.size bs.length (.slice (some ⟨g, 0, none⟩) bs.length cap)).run Try.prog w.drew = .ok (bs.map Y).toArray w.drew :=
      run_firstCells_some w.drew i0.size bs.length ⟨g, 0, none⟩ bs.length cap (bs.map Y) (by rw [hz1]; simp) (fun j u hu => by
        obtain ⟨x, hx, rfl⟩ := getElem_mapY _ _ _ hu
        rw [Addr.add_lit, Nat.zero_add]; exact h.cells j x hx)
    have h1 := Lib.run_append_grow_zeros w 30 3 ty 5 i0 _ .i64 .i64 Try.underlying30 Try.underlying3 hi hz0 (some ⟨g, 0, none⟩) bs.length cap (bs.map Y) hold n (by omega) (by rw [hz1]; omega) (by omega) (by omega) (by rw [hz2]; omega) (growslice_fits (by omega) (by rw [hz2]; omega))
    have hcap := grownCap_ge w (bs.length + n) cap 5
    refine ⟨_, _, _, h1, BRow.made w.drew base (bs ++ List.replicate n 0) _ _ hb (by simpa using hcap) ?_ ?_, ?_⟩
    · rw [zeroCells_u8, zeroCells_u8]; simp; omega
    · intro j x hx
      have hj : j < (bs ++ List.replicate n 0).length := (List.getElem?_eq_some_iff.1 hx).1
      have e1 : (bs.map Y).toArray ++ Builtin.zeroCells (Value.int .u8 0).cells n = ((bs ++ List.replicate n 0).map Y).toArray := by rw [zeroCells_u8, List.map_append]; simp
      rw [e1, Array.getElem?_append_left (by simpa using hj)]
      rw [List.getElem?_toArray, List.getElem?_map, hx]; rfl
    · exact ⟨rfl, rfl, rfl, by simp, fun k hk _ => Below.heap_alloc w.drew _ k hk⟩

/-- A string's bytes in a row of their own. -/
theorem run_bytes_of (w : World) (s : ByteArray) :
    ∃ cap w', (convert 9 30 (.string s)).run Try.prog w = .ok (.slice (some ⟨w.heap.size, 0, none⟩) s.size cap) w' ∧ BRow w' w.heap.size w.heap.size cap s.data.toList ∧ Below w.heap.size w w' := by
  refine ⟨_, _, Lib.run_convert_string_bytes w _ _ 5 s Try.underlying9 Try.underlying30 Try.underlying5, ?_, ?_⟩
  · have hnew := Lib.bytesWorld_at_new w 5 s
    have hcap := grownCap_ge w s.size 0 5
    have hsize : (Lib.bytesCells w 5 s).size = grownCap w s.size 0 5 := by
      unfold Lib.bytesCells; simp; have : s.data.size = s.size := rfl; omega
    have hcell : ∀ j, (Lib.bytesWorld w 5 s).cell? ⟨w.heap.size, j, none⟩ = (Lib.bytesCells w 5 s)[j]? := fun j => cell_of_row _ _ j _ _ _ hnew
    refine ⟨Nat.le_refl _, by rw [Lib.bytesWorld_size]; omega, by rw [Array.length_toList]; exact hcap, fun j hj => by rw [hcell, Array.getElem?_eq_getElem (by omega)]; rfl, fun j hj => ?_, fun j x hx => ?_⟩
    · simp [World.frozen?, hnew]; omega
    · have hj : j < s.data.toList.length := (List.getElem?_eq_some_iff.1 hx).1
      rw [hcell]
      unfold Lib.bytesCells
      rw [Array.getElem?_append_left (by simpa using hj)]
      rw [Array.getElem?_map, ← Array.getElem?_toList, hx]; rfl
  · exact ⟨rfl, rfl, rfl, by rw [Lib.bytesWorld_size]; omega, fun k hk => Lib.bytesWorld_at_old w 5 s k hk⟩

end Go.Proofs.Ytjekdeikoebmgaa

namespace Go.Proofs.Ytjekdeikoebmgaa
open Go.RowKit Go.Shelf
attribute [local go_sem] Oper.semAt_some

set_option maxHeartbeats 400000 in
theorem Chunk_any (a : Option Addr) (m c : Nat) (w : World) :
    Calls Try.prog 54 #[.slice a m c, .int .i64 64] w fun e w' => e = .returned (.func (.func 59) #[] #[.pointer (some ⟨w.heap.size, 0, none⟩), .pointer (some ⟨w.heap.size + 1, 0, none⟩)]) ∧ (w.alloc (.cells #[.slice a m c] 30)).alloc (.cells #[.int .i64 64] 3) = w' := by
  go_enter Try.func54, Try.ntmps54
  go_wp2
  go_ret
  exact ⟨rfl, rfl⟩

/-- The k-th piece. -/
abbrev chunkV (g : Nat) (N : Nat) (k : Fin N) : Array Value := #[.slice (some ⟨g, 64 * k.val, none⟩) 64 64]

set_option maxRecDepth 100000 in
set_option maxHeartbeats 1000000 in
theorem chunk1_stops (n : Nat) (hn : 1 ≤ n) (Bs Bn sb g N cap : Nat) (hN : 64 * N ≤ cap) (hN2 : 64 * N ≤ 140737488355328) (w : World)
    (b1 : Blk w Bs #[.slice (some ⟨g, 0, none⟩) (64 * N) cap] 30) (b2 : Blk w Bn #[.int .i64 64] 3) (h1 : Bs ≠ sb) (h2 : Bn ≠ sb) :
    SeqStopsK Fence.wide n Try.prog 59 #[.pointer (some ⟨Bs, 0, none⟩), .pointer (some ⟨Bn, 0, none⟩)] (chunkV g N) (KpX sb) (fun xs => xs = List.finRange N) (fun pre => pre <+: List.finRange N) N w := fun l J Jx W hW hJ hJx hY h0 => by
  refine callsIn_of_wp Try.func59 rfl trivial ?_ rfl
  simp only [Try.ntmps59, List.size_toArray, List.length_cons, List.length_nil, Nat.reduceAdd, Nat.reduceSub, Array.replicate_succ, Array.replicate_zero, List.push_toArray, List.append_toArray, List.nil_append, List.cons_append]
  have j1 := b1.below hW b1.lt
  have j2 := b2.below hW b2.lt
  gi_wp2
  gi_loopw [4] (fun i wr => ∃ k : Nat, k ≤ N ∧ i = .int .i64 ((64 * k : Nat) : Int) ∧ Blk wr Bs #[.slice (some ⟨g, 0, none⟩) (64 * N) cap] 30 ∧ Blk wr Bn #[.int .i64 64] 3 ∧ J ((List.finRange N).take k) wr) (fun i _ => 64 * N - (intOf i).toNat)
  case atStart => exact ⟨0, by omega, rfl, j1, j2, h0⟩
  case round =>
    obtain ⟨k, hk, rfl, i1, i2, hj⟩ := hrel
    have c1 := i1.cell 0 _ rfl
    have c2 := i2.cell 0 _ rfl
    by_cases hlt : k < N
    · have hlt2 : 64 * k < 64 * N := by omega
      have hmin : ∀ w ts t, (Builtin.min_ ts t #[.int .i64 64, .int .i64 ((64 * N - 64 * k : Nat) : Int)]).run Try.prog w = .ok (.int .i64 64) w := fun w ts t => by
        have : (64 : Int) ≤ ((64 * N - 64 * k : Nat) : Int) := by omega
        rw [run_min_int2, if_neg (by omega)]
      gi_wp2
      refine wpIn_wide.2 ?_
      have f1 := After.cell c1
      have f2 := After.cell c2
      refine wp_region_after (by kernel_rfl) (by kernel_rfl) ?_
      repeat (go_big_quiet_step (fail))
      refine wpQuiet_nil ?_
      rintro w5 ⟨x5, rfl⟩
      have hb5 := x5.hb
      clear f1 f2 c1 c2 hmin
      generalize x5.W = w5 at *
      have hj5 := hJ _ wr w5 none hj (grown_of_below hb5 none) (fun r e => by cases e)
      have i1' := i1.below hb5 i1.lt
      have i2' := i2.below hb5 i2.lt
      have c1 := i1'.cell 0 _ rfl
      have c2 := i2'.cell 0 _ rfl
      obtain ⟨fn, tmps, assign, body, hy, hR⟩ := hY _ (⟨k, hlt⟩ : Fin N) w5 hj5 (by simp; omega)
      dsimp only [chunkV] at hy
      have b1 : ((64 * k : Nat) : Int) + 64 ≤ 64 * N := by omega
      go_wp2
      gi_wp2
      refine hR.mono ?_
      rintro e W3 (⟨rfl, hJ3, hk3⟩ | ⟨rfl, hJx3⟩)
      · have c3 := (i1'.keepX hk3 h1).cell 0 _ rfl
        have c4 := (i2'.keepX hk3 h2).cell 0 _ rfl
        gi_wp2
        go_roundw
        case rel => exact ⟨k + 1, by omega, congrArg (Value.int .i64) (by omega), i1'.keepX hk3 h1, i2'.keepX hk3 h2, by rw [take_finRange k hlt]; exact hJ3⟩
        case measure => simp [intOf]; omega
      · gi_wp2
        refine bodyPost_ret (results_none rfl _ _ _) rfl ?_
        refine ⟨⟨_, rfl⟩, .inr ⟨_, ?_, hJx3⟩⟩
        rw [← take_finRange k hlt]
        exact List.take_prefix _ _
    · obtain rfl : k = N := by omega
      gi_wp2
      go_end0
      refine ⟨⟨_, rfl⟩, .inl ⟨_, rfl, ?_⟩⟩
      rw [List.take_of_length_le (by simp)] at hj
      exact hj

end Go.Proofs.Ytjekdeikoebmgaa
