/- Lists of hashes in memory: read, appended to, reversed. Conditions: sizes. The contracts of Reverse (of hashes) and of Path. Conditions: sizes. The contract of Path. Conditions: sizes. The contract of Same. Conditions: sizes. -/
import Derived.Test.YtjekdeikoebmgaaTrB
import Derived.Test.YtjekdeikoebmgaaKit
import Derived.Deep.MidRow
import Derived.Test.YtjekdeikoebmgaaRefE
namespace Go.Proofs.Ytjekdeikoebmgaa
open Go.RowKit Go.Shelf Tr

/-- The cells of a list of hashes. -/
def hcells (hs : List (List UInt8)) : List Value := hs.flatMap fun h => h.map Y
theorem hcells_append (a b : List (List UInt8)) : hcells (a ++ b) = hcells a ++ hcells b := List.flatMap_append
theorem hcells_one (x : List UInt8) : hcells [x] = x.map Y := by simp [hcells]
theorem hcells_length {hs : List (List UInt8)} (h : All32 hs) : (hcells hs).length = hs.length * 32 := by
  induction hs with
  | nil => rfl
  | cons a r ih =>
    have h1 : (hcells (a :: r)).length = (a.map Y).length + (hcells r).length := by rw [← List.length_append]; rfl
    rw [h1, ih (fun x hx => h x (by simp [hx])), List.length_map, h a (by simp), List.length_cons]; omega
theorem hcells_get {hs : List (List UInt8)} (h : All32 hs) (i : Nat) (x : List UInt8) (hx : hs[i]? = some x) (j : Nat) (v : Value) (hv : (x.map Y)[j]? = some v) : (hcells hs)[32 * i + j]? = some v := by
  have hi := List.getElem?_eq_some_iff.1 hx
  have hi1 := hi.1
  have e : hs = hs.take i ++ (x :: hs.drop (i + 1)) := by
    have := List.take_append_drop i hs
    rw [List.drop_eq_getElem_cons hi.1, hi.2] at this
    exact this.symm
  have hl : (hcells (hs.take i)).length = 32 * i := by
    rw [hcells_length (fun y hy => h y (List.mem_of_mem_take hy)), List.length_take, Nat.min_eq_left (by omega), Nat.mul_comm]
  have hj : j < (x.map Y).length := (List.getElem?_eq_some_iff.1 hv).1
  rw [e, hcells_append, List.getElem?_append_right (by omega), hl, Nat.add_sub_cancel_left]
  show (x.map Y ++ hcells (hs.drop (i + 1)))[j]? = _
  rw [List.getElem?_append_left hj, hv]
/-- From cell o of block g on lie these hashes. -/
def HAt (w : World) (g o : Nat) (hs : List (List UInt8)) : Prop := w.rangeAt g o (hcells hs)
theorem HAt.keep {w w' : World} {g o : Nat} {hs : List (List UInt8)} (h : HAt w g o hs) (hk : ∀ p v, w.cell? p = some v → w'.cell? p = some v) : HAt w' g o hs := fun j v hv => hk _ _ (h j v hv)
theorem HAt.below {w w' : World} {g o : Nat} {hs : List (List UInt8)} (h : HAt w g o hs) (hb : Below w.heap.size w w') : HAt w' g o hs := h.keep (keepCells hb)
theorem HAt.elem {w : World} {g o : Nat} {hs : List (List UInt8)} (h : HAt w g o hs) (ha : All32 hs) (i : Nat) (x : List UInt8) (hx : hs[i]? = some x) : w.rangeAt g (o + 32 * i) (x.map Y) := fun j v hv => by
  have := h (32 * i + j) v (hcells_get ha i x hx j v hv)
  rwa [← Nat.add_assoc] at this
theorem Tr.All32.take {l : List (List UInt8)} (h : All32 l) (k : Nat) : All32 (l.take k) := fun x hx => h x (List.mem_of_mem_take hx)
theorem Tr.All32.drop {l : List (List UInt8)} (h : All32 l) (k : Nat) : All32 (l.drop k) := fun x hx => h x (List.mem_of_mem_drop hx)
theorem HAt.take {w : World} {g o : Nat} {hs : List (List UInt8)} (h : HAt w g o hs) (k : Nat) : HAt w g o (hs.take k) := fun j v hv => by
  have e : hcells hs = hcells (hs.take k) ++ hcells (hs.drop k) := by rw [← hcells_append, List.take_append_drop]
  refine h j v ?_
  rw [e, List.getElem?_append_left (List.getElem?_eq_some_iff.1 hv).1]
  exact hv
theorem HAt.drop {w : World} {g o : Nat} {hs : List (List UInt8)} (h : HAt w g o hs) (ha : All32 hs) (k : Nat) (hk : k ≤ hs.length) : HAt w g (o + 32 * k) (hs.drop k) := fun j v hv => by
  have e : hcells hs = hcells (hs.take k) ++ hcells (hs.drop k) := by rw [← hcells_append, List.take_append_drop]
  have hl : (hcells (hs.take k)).length = 32 * k := by
    rw [hcells_length (ha.take k), List.length_take, Nat.min_eq_left hk, Nat.mul_comm]
  have := h (32 * k + j) v (by rw [e, List.getElem?_append_right (by omega), hl, Nat.add_sub_cancel_left]; exact hv)
  rwa [← Nat.add_assoc] at this
/-- The slice v reads as these hashes. -/
def HArg (w : World) (v : Value) (hs : List (List UInt8)) : Prop := ∃ (a : Option Addr) (cap : Nat), v = .slice a hs.length cap ∧ hs.length ≤ cap ∧ (hs ≠ [] → ∃ g o, a = some ⟨g, o, none⟩ ∧ HAt w g o hs)
theorem HArg.below {w w' : World} {v : Value} {hs : List (List UInt8)} (h : HArg w v hs) (hb : Below w.heap.size w w') : HArg w' v hs := by
  obtain ⟨a, cap, h1, h2, h3⟩ := h
  exact ⟨a, cap, h1, h2, fun hl => by obtain ⟨g, o, h4, h5⟩ := h3 hl; exact ⟨g, o, h4, h5.below hb⟩⟩
theorem HArg.of {w : World} {g o n cap : Nat} {hs : List (List UInt8)} (hn : hs.length = n) (hc : n ≤ cap) (h : HAt w g o hs) : HArg w (.slice (some ⟨g, o, none⟩) n cap) hs := ⟨_, cap, by rw [hn], by omega, fun _ => ⟨g, o, rfl, h⟩⟩
theorem HArg.nil (w : World) : HArg w (.slice none 0 0) [] := ⟨none, 0, rfl, Nat.le_refl _, fun h => absurd rfl h⟩
/-- A slice of hashes of the call's own. -/
abbrev OwnH (w : World) (base : Nat) (v : Value) (hs : List (List UInt8)) : Prop := OwnV w base 32 v hs.length (hcells hs)
theorem OwnV.arg {w : World} {base : Nat} {v : Value} {hs : List (List UInt8)} (h : OwnH w base v hs) : HArg w v hs := by
  rcases h with ⟨rfl, h1, _⟩ | ⟨g, cap, rfl, h1, h2, h3⟩
  · obtain rfl : hs = [] := List.length_eq_zero_iff.1 h1
    exact HArg.nil w
  · exact HArg.of rfl h2 h3.cells
theorem infoHash : (Try.prog.info? 24).map (fun i => (i.zero, i.size, i.bytes)) = some (some (.agg hz), 32, 32) := by kernel_rfl
theorem hrow_size {x : List UInt8} (h : x.length = 32) : (hrow x).size = 32 := by unfold hrow; simp [h]
theorem mapY_one (x : List UInt8) : ∀ u ∈ x.map Y, u.oneCell' = true := by
  intro u hu
  obtain ⟨y, _, rfl⟩ := List.mem_map.1 hu
  rfl
/-- A slice of one hash. -/
theorem run_build1 (x : List UInt8) (hx : x.length = 32) (w : World) : (Instr.buildSlice 32 1 #[(0, .agg (hrow x))]).run Try.prog w = .ok (.slice (some ⟨w.heap.size, 0, none⟩) 1 1) (w.alloc (.cells (hrow x) 24)) := by
  obtain ⟨i0, hi, hz0, hz1, _⟩ := info_parts infoHash
  have h := run_buildRows w 32 24 1 32 [hrow x] i0 _ Try.underlying32 hi hz0 hz1 rfl (fun R hR => by rw [List.mem_singleton.1 hR]; exact hrow_size hx) (by decide) (by decide) #[(0, .agg (hrow x))] rfl
  have e : ([hrow x].flatMap (·.toList)).toArray = hrow x := by simp
  rw [e] at h
  exact h
/-- append of one hash: the slice that it comes in is new. -/
theorem run_append_hash (w : World) (base : Nat) (v : Value) (hs : List (List UInt8)) (h : OwnH w base v hs) (hb : base ≤ w.heap.size) (x : List UInt8) (hx : x.length = 32) (hn : hs.length ≤ 4398046511100) :
    ∃ v' w', (Builtin.append_ #[32, 32] 32 #[v, .slice (some ⟨w.heap.size, 0, none⟩) 1 1]).run Try.prog (w.alloc (.cells (hrow x) 24)) = .ok v' w' ∧ OwnH w' base v' (hs ++ [x]) ∧ w.grownBy w' (blkOf v) ∧ (blkOf v' = blkOf v ∨ ∃ g, blkOf v' = some g ∧ w.heap.size ≤ g) := by
  obtain ⟨i0, hi, hz0, hz1, hz2⟩ := info_parts infoHash
  have hN := Blk.new w (hrow x) 24
  have h1 : OwnH (w.alloc (.cells (hrow x) 24)) base v hs := h.below ((Below.refl w.heap.size w).alloc (Nat.le_refl _) _)
  have hsrc : Src Try.prog i0.size 32 (.slice (some ⟨w.heap.size, 0, none⟩) 1 1) 1 (x.map Y) (w.alloc (.cells (hrow x) 24)) :=
    Src.ofSlice (w.alloc (.cells (hrow x) 24)) Try.underlying32 ⟨w.heap.size, 0, none⟩ 1 1 (x.map Y) (by rw [hz1]; simp [hx]) (fun j u hu => by
      rw [Addr.add_lit, Nat.zero_add]
      refine hN.cell j u ?_
      unfold hrow
      simpa using hu) (mapY_one x)
  obtain ⟨v', w', r1, r2, r3, r4⟩ := run_append_own (w.alloc (.cells (hrow x) 24)) 32 32 32 24 i0 (.agg hz) 32 base hs.length 1 v _ (hcells hs) (x.map Y) Try.underlying32 hi hz0 hz1 rfl h1 (by simp; omega) hsrc (Nat.le_refl _) (by simp [hx]) (by rw [hz2]; omega) (by omega)
  refine ⟨v', w', r1, ?_, ?_, ?_⟩
  · unfold OwnH
    rw [hcells_append, hcells_one, List.length_append]
    exact r2
  · exact ⟨r3.os, r3.tape, r3.output, Nat.le_trans (by simp) r3.size, fun i hi hne => (r3.block i (by simp; omega) hne).trans (Below.heap_alloc w _ i hi)⟩
  · rcases r4 with r4 | ⟨g, r4, r5⟩
    · exact .inl r4
    · exact .inr ⟨g, r4, by simp at r5; omega⟩
def sliceLen : Value → Nat
  | .slice _ n _ => n
  | _ => 0
end Go.Proofs.Ytjekdeikoebmgaa

namespace Go.Proofs.Ytjekdeikoebmgaa
open Go.RowKit Go.Shelf Tr

/-- A load of a whole array at any address, in a region that draws its order. -/
theorem quiet_load_at {P : Program} {ops : Array Oper} {w : World} {Q : Act → Prop} {a : Act} {o : Oper} {rest : List Oper} (ty : TypeId) (x : Operand) (ho : o.op = .load ty x) (p : Addr) (hx : a.eval x = .pointer (some p)) (R : Array Value)
    (hl : ∀ y : After w, (loadVar ty p).run P y.W = .ok (.agg R) y.W) (hw : Region.wanted o (yielded ops a.tmps) = true)
    (h : wpQuiet P ops (fun w' => ∃ x : After w, w' = x.W) Q rest (a.put o.dst (.agg R))) : wpQuiet P ops (fun w' => ∃ x : After w, w' = x.W) Q (o :: rest) a := by
  unfold wpQuiet
  rw [if_pos hw]
  refine ⟨.agg R, ?_, h⟩
  rintro w' ⟨y, rfl⟩
  unfold Oper.quietAt execOp
  simp only [ho, hx, Instr.loadAt, Instr.sureAddr, Sem.run_bind, Sem.run_pure, Result.andThen_ok, hl y]
  exact ⟨rfl, rfl⟩
theorem load_hash (w : World) (g o : Nat) (x : List UInt8) (hx : x.length = 32) (h : w.rangeAt g o (x.map Y)) : (loadVar 24 ⟨g, o, none⟩).run Try.prog w = .ok (.agg (hrow x)) w :=
  run_loadVar_mid w g o 24 (x.map Y) _ h Try.underlying24 rfl (by rw [List.length_map, hx]; exact info24)
theorem After.elem {w : World} {g o : Nat} {hs : List (List UInt8)} (h : HAt w g o hs) (ha : All32 hs) (i : Nat) (x : List UInt8) (hx : hs[i]? = some x) : ∀ y : After w, (loadVar 24 ⟨g, o + 32 * i, none⟩).run Try.prog y.W = .ok (.agg (hrow x)) y.W := fun y =>
  load_hash _ _ _ x (ha x (List.mem_of_getElem? hx)) ((h.below y.hb).elem ha i x hx)
theorem hcells_at {hs : List (List UInt8)} (h : All32 hs) (j : Nat) (v : Value) (hv : (hcells hs)[j]? = some v) : ∃ x, hs[j / 32]? = some x ∧ (x.map Y)[j % 32]? = some v := by
  have hj : j < hs.length * 32 := by rw [← hcells_length h]; exact (List.getElem?_eq_some_iff.1 hv).1
  have hq : j / 32 < hs.length := by omega
  refine ⟨_, List.getElem?_eq_getElem hq, ?_⟩
  have hx := h _ (List.getElem_mem hq)
  have hr : j % 32 < (hs[j / 32].map Y).length := by rw [List.length_map, hx]; omega
  have h1 := hcells_get h (j / 32) _ (List.getElem?_eq_getElem hq) (j % 32) _ (List.getElem?_eq_getElem hr)
  rw [show 32 * (j / 32) + j % 32 = j by omega, hv] at h1
  rw [List.getElem?_eq_getElem hr, ← h1]
theorem size_setCells' (g : Nat) : ∀ (vs : List Value) (o : Nat) (a : World), (a.setCells g o vs).heap.size = a.heap.size
  | [], _, _ => rfl
  | u :: r, o, a => by
    show ((a.setCell ⟨g, o, none⟩ u).setCells g (o + 1) r).heap.size = _
    rw [size_setCells' g r]; simp [World.setCell]
theorem grown_setCells' {a w : World} {g : Nat} (h : a.grownBy w (some g)) : ∀ (vs : List Value) (o : Nat), a.grownBy (w.setCells g o vs) (some g)
  | [], _ => h
  | v :: r, o => grown_setCells' (grown_set h o v) r (o + 1)
theorem Tr.All32.set {hs : List (List UInt8)} (h : All32 hs) (i : Nat) {x : List UInt8} (hx : x.length = 32) : All32 (hs.set i x) := by
  intro y hy
  rcases List.mem_or_eq_of_mem_set hy with h1 | h1
  · exact h y h1
  · rw [h1]; exact hx
/-- One hash is stored anew. -/
theorem VRow.set {w : World} {base g cap : Nat} {hs : List (List UInt8)} (h : VRow w base g cap 32 (hcells hs)) (ha : All32 hs) (i : Nat) (hi : i < hs.length) {x : List UInt8} (hx : x.length = 32) : VRow (w.setCells g (32 * i) (x.map Y)) base g cap 32 (hcells (hs.set i x)) := by
  have hr := h.room
  rw [hcells_length ha] at hr
  have hin : ∀ j, j < (x.map Y).length → (w.cell? ⟨g, 32 * i + j, none⟩).isSome = true := fun j hj => h.some_ _ (by rw [List.length_map, hx] at hj; omega)
  refine ⟨h.base, by rw [size_setCells']; exact h.lt, by rw [hcells_length (ha.set i hx), List.length_set]; exact hr, fun j hj => World.isSome_setCells g _ _ _ _ (h.some_ j hj), fun j hj => by rw [World.frozen?_setCells]; exact h.free j hj, fun j v hv => ?_⟩
  obtain ⟨y, hy1, hy2⟩ := hcells_at (ha.set i hx) j v hv
  have hjm : j % 32 < (y.map Y).length := (List.getElem?_eq_some_iff.1 hy2).1
  rw [Nat.zero_add]
  by_cases hq : j / 32 = i
  · rw [hq, List.getElem?_set_self hi] at hy1
    obtain rfl : x = y := by simpa using hy1
    have := World.cell?_setCells_in g (x.map Y) (32 * i) w hin (j % 32) hjm
    rw [show 32 * i + j % 32 = j by omega] at this
    rw [this, ← hy2, List.getElem?_eq_getElem hjm]
  · rw [List.getElem?_set_ne (by omega)] at hy1
    rw [World.cell?_setCells_out g _ _ _ _ (fun _ _ => by simp [hx]; omega)]
    have := h.cells j v (by
      have := hcells_get ha (j / 32) y hy1 (j % 32) v hy2
      rwa [show 32 * (j / 32) + j % 32 = j by omega] at this)
    rwa [Nat.zero_add] at this
theorem VRow.there {w : World} {base g cap : Nat} {hs : List (List UInt8)} (h : VRow w base g cap 32 (hcells hs)) (ha : All32 hs) (i : Nat) (hi : i < hs.length) : w.there g (32 * i) 32 := fun j hj => by
  have hr := h.room
  rw [hcells_length ha] at hr
  exact ⟨h.some_ _ (by omega), h.free _ (by omega)⟩

theorem grown_trans {a b c : World} {row : Option Nat} (h : a.grownBy b row) (k : b.grownBy c row) : a.grownBy c row :=
  ⟨k.os.trans h.os, k.tape.trans h.tape, k.output.trans h.output, Nat.le_trans h.size k.size, fun i hi hne => (k.block i (Nat.lt_of_lt_of_le hi h.size) hne).trans (h.block i hi hne)⟩
/-- The list behind k exchanges. -/
def Half_ (hs cur : List (List UInt8)) (k : Nat) : Prop := cur.length = hs.length ∧ ∀ i, i < hs.length → cur[i]? = if i < k ∨ hs.length ≤ i + k then hs[hs.length - 1 - i]? else hs[i]?
theorem Half_.start (hs : List (List UInt8)) : Half_ hs hs 0 := ⟨rfl, fun i hi => by rw [if_neg (by omega)]⟩
theorem Half_.done {hs cur : List (List UInt8)} {k : Nat} (h : Half_ hs cur k) (hk : hs.length ≤ 2 * k + 1) : cur = hs.reverse := by
  apply List.ext_getElem?
  intro i
  by_cases hi : i < hs.length
  · rw [h.2 i hi, List.getElem?_reverse hi]
    split
    · rfl
    · congr 1; omega
  · rw [List.getElem?_eq_none (by rw [h.1]; omega), List.getElem?_eq_none (by simp; omega)]
theorem Half_.step {hs cur : List (List UInt8)} {k : Nat} (h : Half_ hs cur k) (hk : 2 * k + 1 < hs.length) {x y : List UInt8} (hx : cur[k]? = some x) (hy : cur[hs.length - 1 - k]? = some y) : Half_ hs ((cur.set k y).set (hs.length - 1 - k) x) (k + 1) := by
  have e1 := h.2 k (by omega)
  rw [if_neg (by omega), hx] at e1
  have e2 := h.2 (hs.length - 1 - k) (by omega)
  rw [if_neg (by omega), hy] at e2
  refine ⟨by simp [h.1], fun i hi => ?_⟩
  by_cases h1 : i = hs.length - 1 - k
  · subst h1
    rw [List.getElem?_set_self (by simp [h.1]; omega), if_pos (by omega), e1]
    congr 1; omega
  · rw [List.getElem?_set_ne (by omega)]
    by_cases h2 : i = k
    · subst h2
      rw [List.getElem?_set_self (by rw [h.1]; omega), if_pos (by omega), e2]
    · rw [List.getElem?_set_ne (by omega), h.2 i hi]
      by_cases h3 : i < k ∨ hs.length ≤ i + k
      · rw [if_pos h3, if_pos (by omega)]
      · rw [if_neg h3, if_neg (by omega)]

set_option maxRecDepth 100000 in
set_option maxHeartbeats 1000000 in
theorem rev_r3 (u1 u4 u5 u6 u7 u8 u9 u10 u11 u12 u13 u14 u15 u16 u17 u18 u19 u20 u21 u22 u23 u24 u25 u26 u27 : Value) (base g cap n k m : Nat) (cur : List (List UInt8)) (x y : List UInt8) (hcl : cur.length = n) (hkm : k < m) (hmn : m < n) (hA : All32 cur) (hx : cur[k]? = some x) (hy : cur[m]? = some y) (w : World) (hV : VRow w base g cap 32 (hcells cur)) (Q : Exit → Act → World → Prop)
    (h : ∀ (y14 y15 y16 y17 y18 y19 y20 y21 y22 y23 y24 y25 y26 y27 : Value) (w' : World), VRow w' base g cap 32 (hcells ((cur.set k y).set m x)) → w.grownBy w' (some g) → Q .normal ⟨((.slice (some ⟨g, 0, none⟩) n cap) :: u1 :: (.int .i64 (k : Int)) :: (.int .i64 (m : Int)) :: u4 :: u5 :: u6 :: u7 :: u8 :: u9 :: u10 :: u11 :: u12 :: u13 :: y14 :: y15 :: y16 :: y17 :: y18 :: y19 :: y20 :: y21 :: y22 :: y23 :: y24 :: y25 :: y26 :: y27 :: []).toArray, []⟩ w') : Code.wp Try.prog (regionIn Try.f40 3) Q ⟨((.slice (some ⟨g, 0, none⟩) n cap) :: u1 :: (.int .i64 (k : Int)) :: (.int .i64 (m : Int)) :: u4 :: u5 :: u6 :: u7 :: u8 :: u9 :: u10 :: u11 :: u12 :: u13 :: u14 :: u15 :: u16 :: u17 :: u18 :: u19 :: u20 :: u21 :: u22 :: u23 :: u24 :: u25 :: u26 :: u27 :: []).toArray, []⟩ w := by
  have x32 := hA x (List.mem_of_getElem? hx)
  have y32 := hA y (List.mem_of_getElem? hy)
  have lx : ∀ W : World, HAt W g 0 cur → (loadVar 24 ⟨g, k * 32, none⟩).run Try.prog W = .ok (.agg (hrow x)) W := fun W hW => load_hash W g (k * 32) x x32 (by have := hW.elem hA k x hx; rwa [Nat.zero_add, Nat.mul_comm] at this)
  have ly : ∀ W : World, HAt W g 0 cur → (loadVar 24 ⟨g, m * 32, none⟩).run Try.prog W = .ok (.agg (hrow y)) W := fun W hW => load_hash W g (m * 32) y y32 (by have := hW.elem hA m y hy; rwa [Nat.zero_add, Nat.mul_comm] at this)
  have hV1 : VRow { w with drawn := w.drawn + 1 } base g cap 32 (hcells cur) := hV.below ((Below.refl _ _).drew)
  have hV2 := hV1.set hA k (by omega) y32
  have hV3 := hV2.set (hA.set k y32) m (by rw [List.length_set]; omega) x32
  have st1 : (Instr.storeAt 24 (.pointer (some ⟨g, k * 32, none⟩)) (.agg (hrow y))).run Try.prog { w with drawn := w.drawn + 1 } = .ok () (World.setCells { w with drawn := w.drawn + 1 } g (32 * k) (y.map Y)) := by
    have h := run_storeAt_mid { w with drawn := w.drawn + 1 } g (32 * k) 24 (hrow y) (by rw [hrow_size y32]; exact hV1.there hA k (by omega)) (by rw [hrow_size y32]; exact info24) (bytes_all y)
    rw [Nat.mul_comm k]
    exact h
  have st2 : (Instr.storeAt 24 (.pointer (some ⟨g, m * 32, none⟩)) (.agg (hrow x))).run Try.prog (World.setCells { w with drawn := w.drawn + 1 } g (32 * k) (y.map Y)) = .ok () (World.setCells (World.setCells { w with drawn := w.drawn + 1 } g (32 * k) (y.map Y)) g (32 * m) (x.map Y)) := by
    have h := run_storeAt_mid (World.setCells { w with drawn := w.drawn + 1 } g (32 * k) (y.map Y)) g (32 * m) 24 (hrow x) (by rw [hrow_size x32]; exact hV2.there (hA.set k y32) m (by rw [List.length_set]; omega)) (by rw [hrow_size x32]; exact info24) (bytes_all x)
    rw [Nat.mul_comm m]
    exact h
  have hG := grown_setCells' (grown_setCells' (grown_drew (World.grownBy.refl w (some g))) (y.map Y) (32 * k)) (x.map Y) (32 * m)
  have b1 : (k : Int) < (n : Int) := by omega
  have b2 : (m : Int) < (n : Int) := by omega
  have b3 : (0 : Int) ≤ (k : Int) := by omega
  have b4 : (0 : Int) ≤ (m : Int) := by omega
  have HX := Lib.hid h
  have IK : Hid (∀ w, (Instr.indexAt 32 (.slice (some ⟨g, 0, none⟩) n cap) (.int .i64 (k : Int))).run Try.prog w = .ok (.pointer (some ⟨g, k * 32, none⟩)) w) := fun w => by go_simp
  have IM : Hid (∀ w, (Instr.indexAt 32 (.slice (some ⟨g, 0, none⟩) n cap) (.int .i64 (m : Int))).run Try.prog w = .ok (.pointer (some ⟨g, m * 32, none⟩)) w) := fun w => by go_simp
  have LX := lx _ hV1.cells
  have LY := ly _ hV1.cells
  clear h lx ly hcl hV hV1 hV2 hkm hmn
  conv => arg 2; whnf
  refine wp_region_noPanic ?_
  refine wp_region_any (by kernel_rfl) ?_
  refine takeL 15 0 (.slice (some ⟨g, 0, none⟩) n cap) rfl (by kernel_rfl) (by kernel_rfl) (by kernel_rfl) (fun _ _ _ h => h) (yields_move rfl rfl rfl) ?_
  simp only [Act.put, List.setIfInBounds_toArray, List.set_cons_zero, List.set_cons_succ]
  refine takeL 14 1 (.int .i64 (k : Int)) rfl (by kernel_rfl) (by kernel_rfl) (by kernel_rfl) (fun _ _ _ h => h) (yields_move rfl rfl rfl) ?_
  simp only [Act.put, List.setIfInBounds_toArray, List.set_cons_zero, List.set_cons_succ]
  refine takeL 13 2 (.slice (some ⟨g, 0, none⟩) n cap) rfl (by kernel_rfl) (by kernel_rfl) (by kernel_rfl) (fun _ _ _ h => h) (yields_move rfl rfl rfl) ?_
  simp only [Act.put, List.setIfInBounds_toArray, List.set_cons_zero, List.set_cons_succ]
  refine takeL 12 3 (.int .i64 (m : Int)) rfl (by kernel_rfl) (by kernel_rfl) (by kernel_rfl) (fun _ _ _ h => h) (yields_move rfl rfl rfl) ?_
  simp only [Act.put, List.setIfInBounds_toArray, List.set_cons_zero, List.set_cons_succ]
  refine takeL 11 4 (.slice (some ⟨g, 0, none⟩) n cap) rfl (by kernel_rfl) (by kernel_rfl) (by kernel_rfl) (fun _ _ _ h => h) (yields_move rfl rfl rfl) ?_
  simp only [Act.put, List.setIfInBounds_toArray, List.set_cons_zero, List.set_cons_succ]
  refine takeL 10 5 (.int .i64 (m : Int)) rfl (by kernel_rfl) (by kernel_rfl) (by kernel_rfl) (fun _ _ _ h => h) (yields_move rfl rfl rfl) ?_
  simp only [Act.put, List.setIfInBounds_toArray, List.set_cons_zero, List.set_cons_succ]
  refine takeL 9 6 (.pointer (some ⟨g, m * 32, none⟩)) rfl (by kernel_rfl) (by kernel_rfl) (by kernel_rfl) (fun _ _ _ h => h) (yields_index rfl rfl rfl rfl IM.out) ?_
  simp only [Act.put, List.setIfInBounds_toArray, List.set_cons_zero, List.set_cons_succ]
  refine takeL 8 8 (.slice (some ⟨g, 0, none⟩) n cap) rfl (by kernel_rfl) (by kernel_rfl) (by kernel_rfl) (fun _ _ _ h => h) (yields_move rfl rfl rfl) ?_
  simp only [Act.put, List.setIfInBounds_toArray, List.set_cons_zero, List.set_cons_succ]
  refine takeL 7 9 (.int .i64 (k : Int)) rfl (by kernel_rfl) (by kernel_rfl) (by kernel_rfl) (fun _ _ _ h => h) (yields_move rfl rfl rfl) ?_
  simp only [Act.put, List.setIfInBounds_toArray, List.set_cons_zero, List.set_cons_succ]
  refine takeL 6 10 (.pointer (some ⟨g, k * 32, none⟩)) rfl (by kernel_rfl) (by kernel_rfl) (by kernel_rfl) (fun _ _ _ h => h) (yields_index rfl rfl rfl rfl IK.out) ?_
  simp only [Act.put, List.setIfInBounds_toArray, List.set_cons_zero, List.set_cons_succ]
  refine wpAny_all (fuel := 5) (rs := [7, 11]) (by kernel_rfl) (by simp) ?_
  intro i hi
  rcases List.mem_cons.1 hi with rfl | hi
  · refine loadL rfl rfl 24 (.tmp 20) rfl ⟨g, m * 32, none⟩ (.agg (hrow y)) rfl LY ?_
    simp only [Act.put, List.setIfInBounds_toArray, List.set_cons_zero, List.set_cons_succ]
    refine wpAny_all (fuel := 4) (rs := [11]) (by kernel_rfl) (by simp) ?_
    intro i hi
    obtain rfl := List.mem_singleton.1 hi
    refine loadL rfl rfl 24 (.tmp 24) rfl ⟨g, k * 32, none⟩ (.agg (hrow x)) rfl LX ?_
    simp only [Act.put, List.setIfInBounds_toArray, List.set_cons_zero, List.set_cons_succ]
    refine takeL 3 12 (.pointer (some ⟨g, k * 32, none⟩)) rfl (by kernel_rfl) (by kernel_rfl) (by kernel_rfl) (fun _ _ _ h => h) (yields_index rfl rfl rfl rfl IK.out) ?_
    simp only [Act.put, List.setIfInBounds_toArray, List.set_cons_zero, List.set_cons_succ]
    refine wpAny_all (fuel := 2) (rs := [13]) (by kernel_rfl) (by simp) ?_
    intro i hi
    obtain rfl := List.mem_singleton.1 hi
    refine storeL rfl rfl 24 (.tmp 26) (.tmp 21) rfl g (k * 32) (hrow y) rfl rfl st1 ?_
    simp only [Act.put]
    refine takeL 1 14 (.pointer (some ⟨g, m * 32, none⟩)) rfl (by kernel_rfl) (by kernel_rfl) (by kernel_rfl) (fun _ _ _ h => h) (yields_index rfl rfl rfl rfl IM.out) ?_
    simp only [Act.put, List.setIfInBounds_toArray, List.set_cons_zero, List.set_cons_succ]
    refine wpAny_all (fuel := 0) (rs := [15]) (by kernel_rfl) (by simp) ?_
    intro i hi
    obtain rfl := List.mem_singleton.1 hi
    refine storeL rfl rfl 24 (.tmp 27) (.tmp 25) rfl g (m * 32) (hrow x) rfl rfl st2 ?_
    simp only [Act.put]
    refine wpAny_done (by kernel_rfl) ?_ 0
    refine NoPanic.normal ?_
    exact HX.out _ _ _ _ _ _ _ _ _ _ _ _ _ _ _ hV3 hG
  · obtain rfl := List.mem_singleton.1 hi
    refine loadL rfl rfl 24 (.tmp 24) rfl ⟨g, k * 32, none⟩ (.agg (hrow x)) rfl LX ?_
    simp only [Act.put, List.setIfInBounds_toArray, List.set_cons_zero, List.set_cons_succ]
    refine wpAny_all (fuel := 4) (rs := [7]) (by kernel_rfl) (by simp) ?_
    intro i hi
    obtain rfl := List.mem_singleton.1 hi
    refine loadL rfl rfl 24 (.tmp 20) rfl ⟨g, m * 32, none⟩ (.agg (hrow y)) rfl LY ?_
    simp only [Act.put, List.setIfInBounds_toArray, List.set_cons_zero, List.set_cons_succ]
    refine takeL 3 12 (.pointer (some ⟨g, k * 32, none⟩)) rfl (by kernel_rfl) (by kernel_rfl) (by kernel_rfl) (fun _ _ _ h => h) (yields_index rfl rfl rfl rfl IK.out) ?_
    simp only [Act.put, List.setIfInBounds_toArray, List.set_cons_zero, List.set_cons_succ]
    refine wpAny_all (fuel := 2) (rs := [13]) (by kernel_rfl) (by simp) ?_
    intro i hi
    obtain rfl := List.mem_singleton.1 hi
    refine storeL rfl rfl 24 (.tmp 26) (.tmp 21) rfl g (k * 32) (hrow y) rfl rfl st1 ?_
    simp only [Act.put]
    refine takeL 1 14 (.pointer (some ⟨g, m * 32, none⟩)) rfl (by kernel_rfl) (by kernel_rfl) (by kernel_rfl) (fun _ _ _ h => h) (yields_index rfl rfl rfl rfl IM.out) ?_
    simp only [Act.put, List.setIfInBounds_toArray, List.set_cons_zero, List.set_cons_succ]
    refine wpAny_all (fuel := 0) (rs := [15]) (by kernel_rfl) (by simp) ?_
    intro i hi
    obtain rfl := List.mem_singleton.1 hi
    refine storeL rfl rfl 24 (.tmp 27) (.tmp 25) rfl g (m * 32) (hrow x) rfl rfl st2 ?_
    simp only [Act.put]
    refine wpAny_done (by kernel_rfl) ?_ 0
    refine NoPanic.normal ?_
    exact HX.out _ _ _ _ _ _ _ _ _ _ _ _ _ _ _ hV3 hG

set_option maxRecDepth 100000 in
set_option maxHeartbeats 1000000 in
theorem Reverse_any (base g cap : Nat) (hs : List (List UInt8)) (ha : All32 hs) (hn : hs.length ≤ 4398046511104) (w : World) (h : VRow w base g cap 32 (hcells hs)) :
    Calls Try.prog 40 #[.slice (some ⟨g, 0, none⟩) hs.length cap] w fun e w' => e = .returned (.tuple #[]) ∧ VRow w' base g cap 32 (hcells hs.reverse) ∧ w.grownBy w' (some g) := by
  obtain ⟨n, hnn⟩ : ∃ n, hs.length = n := ⟨_, rfl⟩
  have HN := Lib.hid hnn
  rw [hnn] at hn
  rw [hnn]
  clear hnn
  go_enter Try.func40, Try.ntmps40
  go_wp2_with fail
  go_loopw [2, 3] (fun i j wr => ∃ (k : Nat) (cur : List (List UInt8)), 2 * k ≤ n + 1 ∧ i = .int .i64 k ∧ j = .int .i64 ((n : Int) - 1 - k) ∧ Hid (Half_ hs cur k) ∧ Hid (All32 cur) ∧ VRow wr base g cap 32 (hcells cur) ∧ w.grownBy wr (some g)) (fun i _ _ => n - (intOf i).toNat)
  case atStart => exact ⟨0, hs, by omega, rfl, by first | rfl | (congr 1; omega) | (simp), Half_.start hs, ha, h, World.grownBy.refl w _⟩
  case round =>
    clear h
    obtain ⟨k, cur, hk, rfl, rfl, HH, HA, hV, hG⟩ := hrel
    have hcl : cur.length = n := HH.out.1.trans HN.out
    by_cases hlt : 2 * k + 1 < n
    · obtain ⟨x, hx⟩ : ∃ x, cur[k]? = some x := ⟨cur[k]'(by omega), List.getElem?_eq_getElem (by omega)⟩
      obtain ⟨y, hy⟩ : ∃ y, cur[n - 1 - k]? = some y := ⟨cur[n - 1 - k]'(by omega), List.getElem?_eq_getElem (by omega)⟩
      obtain ⟨m, hm, hm2⟩ : ∃ m : Nat, (n : Int) - 1 - (k : Int) = (m : Int) ∧ m = n - 1 - k := ⟨n - 1 - k, by omega, rfl⟩
      have HS := Lib.hid (HH.out.step (by rw [HN.out]; exact hlt) hx (by rw [HN.out]; exact hy))
      rw [HN.out] at HS
      rw [← hm2] at hy HS
      have x32 := HA.out x (List.mem_of_getElem? hx)
      have y32 := HA.out y (List.mem_of_getElem? hy)
      rw [hm]
      have HM := Lib.hid hm2
      clear hm hm2
      have b1 : (k : Int) < (m : Int) := by have := HM.out; omega
      have b2 : (m : Int) ≤ 4398046511104 := by have := HM.out; omega
      have b3 : (1 : Int) ≤ (m : Int) := by omega
      go_wp2_with fail
      refine rev_r3 _ _ _ _ _ _ _ _ _ _ _ _ _ _ _ _ _ _ _ _ _ _ _ _ _ base g cap n k m cur x y hcl (by omega) (by have := HM.out; omega) HA.out hx hy wr hV _ ?_
      intro y14 y15 y16 y17 y18 y19 y20 y21 y22 y23 y24 y25 y26 y27 w5 hV5 hG5
      go_wp2_with fail
      go_roundw
      case rel => exact ⟨k + 1, _, by omega, by go_num, by have := HM.out; exact congrArg (Value.int .i64) (by omega), HS.out, (HA.out.set k y32).set m x32, hV5, grown_trans hG hG5⟩
      case measure => simp [intOf]; omega
    · have hcur := HH.out.done (by rw [HN.out]; omega)
      have t : ¬ ((k : Int) < (n : Int) - 1 - (k : Int)) := by omega
      rw [hcur] at hV
      clear hlt
      go_wp2_with fail
      go_end0
      exact ⟨rfl, hV, hG⟩
end Go.Proofs.Ytjekdeikoebmgaa

namespace Go.Proofs.Ytjekdeikoebmgaa
open Go.RowKit Go.Shelf Tr

set_option maxRecDepth 100000 in
set_option maxHeartbeats 1000000 in
theorem Path_no (l : List (List UInt8)) (n : Int) (v : Value) (w : World) (hS : Small l) (hA : SArg w v l) (h : n < 0 ∨ (l.length : Int) ≤ n) :
    Calls Try.prog 21 #[v, .int .i64 n] w fun e w' => e = .returned (.tuple #[.slice none 0 0, .bool false]) ∧ w = w' := by
  obtain ⟨a, cap, rfl, hc, _⟩ := hA
  have hl := hS.len
  by_cases h0 : n < 0
  · have t : decide (n < 0) = true := decide_eq_true h0
    go_enter Try.func21, Try.ntmps21
    go_wp2_with fail
    exact bodyPost_ret (results_tmp2 rfl _ _ _) rfl ⟨rfl, rfl⟩
  · have t : decide (n < 0) = false := decide_eq_false h0
    have h1 : (l.length : Int) ≤ n := by omega
    have t2 : decide (n ≥ (l.length : Int)) = true := decide_eq_true h1
    go_enter Try.func21, Try.ntmps21
    go_wp2_with fail
    exact bodyPost_ret (results_tmp2 rfl _ _ _) rfl ⟨rfl, rfl⟩

/-- A slice of hashes of the call's own is handed back, and true. -/
def PathPost (w : World) (hs : List (List UInt8)) (e : Ending) (w' : World) : Prop := ∃ v, e = .returned (.tuple #[v, .bool true]) ∧ OwnH w' w.heap.size v hs ∧ Below w.heap.size w w'

set_option maxRecDepth 100000 in
set_option maxHeartbeats 1000000 in
theorem Reverse_nil (w : World) : Calls Try.prog 40 #[.slice none 0 0] w fun e w' => e = .returned (.tuple #[]) ∧ w = w' := by
  go_enter Try.func40, Try.ntmps40
  go_wp2_with fail
  go_loopw [2, 3] (fun i j wr => i = .int .i64 0 ∧ j = .int .i64 (-1) ∧ wr = w) (fun _ _ _ => 0)
  case atStart => exact ⟨rfl, rfl, rfl⟩
  case round =>
    obtain ⟨rfl, rfl, rfl⟩ := hrel
    go_wp2_with fail
    go_end0
    exact ⟨rfl, rfl⟩

set_option maxRecDepth 100000 in
set_option maxHeartbeats 1000000 in
theorem Path_yes (l : List (List UInt8)) (n : Nat) (v : Value) (w : World) (hS : Small l) (hA : SArg w v l) (h : n < l.length) :
    Calls Try.prog 21 #[v, .int .i64 n] w (PathPost w (path l n)) := by
  obtain ⟨a, cap, hv, hc, hA2⟩ := id hA
  have hl := hS.len
  have t1 : decide ((n : Int) < 0) = false := decide_eq_false (by omega)
  have t2 : decide ((n : Int) ≥ (l.length : Int)) = false := decide_eq_false (by omega)
  have t3 : ¬ ((l.length : Int) ≤ (n : Int)) := by omega
  have HA0 := Lib.hid hA
  clear hA hA2
  subst hv
  go_enter Try.func21, Try.ntmps21
  go_wp2_with fail
  go_loopw [0, 1, 6] (fun x0 x1 x6 wr => ∃ (l' : List (List UInt8)) (n' : Nat) (hs : List (List UInt8)), SArg w x0 l' ∧ x1 = .int .i64 n' ∧ n' < l'.length ∧ Small l' ∧ Hid (path l n = path l' n' ++ hs.reverse) ∧ Hid (All32 hs) ∧ OwnH wr w.heap.size x6 hs ∧ hs.length + l'.length ≤ l.length ∧ Below w.heap.size w wr) (fun x0 _ _ _ => sliceLen x0)
  case atStart => exact ⟨l, n, [], HA0.out, rfl, h, hS, by show _ = _; simp, All32.nil, OwnV.nil _ _ _, by simp, Below.refl _ _⟩
  case round =>
    clear HA0
    obtain ⟨l', n', hs, ⟨a', cap', rfl, hc', hA'⟩, rfl, hn', hS', HP, HA, hO, hlen, hB⟩ := hrel
    have hl' := hS'.len
    by_cases h2 : 2 ≤ l'.length
    · obtain ⟨g, o, rfl, hA2⟩ := hA' (by rintro rfl; simp at h2)
      have hk0 := half_pos h2
      have hk1 := half_lt h2
      have A1 := Lib.hid (fun w => half_any l'.length (by omega) (by omega) w)
      by_cases hk : n' < half l'.length
      · have hk2 : n' < half l'.length := hk
        have HQ : Hid (path l n = path (l'.take (half l'.length)) n' ++ (hs ++ [root (l'.drop (half l'.length))]).reverse) := by
          show _ = _
          rw [HP.out, path_left h2 hk, List.reverse_append, List.append_assoc]; rfl
        have hls : (l'.drop (half l'.length)).length = l'.length - half l'.length := by rw [List.length_drop]
        have hlk : (l'.take (half l'.length)).length = half l'.length := by rw [List.length_take]; omega
        have E1 : Hid (Calls Try.prog 16 #[.slice (some ⟨g, o + half l'.length, none⟩) (l'.length - half l'.length) (cap' - half l'.length)] wr fun e w'' => e = .returned (.agg (hrow (root (l'.drop (half l'.length))))) ∧ Below wr.heap.size wr w'') := Root_any _ _ _ wr (Nat.le_refl _) (hS'.drop _) (SArg.of hls (by omega) ((hA2.below hB).drop _))
        have KA : Hid (SArg w (.slice (some ⟨g, o, none⟩) (half l'.length) (cap')) (l'.take (half l'.length))) := SArg.of hlk (by omega) (hA2.take _)
        have KS := Lib.hid (hS'.take (half l'.length))
        have r32 := root_length (l'.drop (half l'.length))
        have hn2 : n' < (l'.take (half l'.length)).length := by rw [hlk]; omega
        have hlen2 : (hs ++ [root (l'.drop (half l'.length))]).length + (l'.take (half l'.length)).length ≤ l.length := by rw [List.length_append, hlk]; simp; omega
        have Hn2 := Lib.hid hn2
        have Hlen2 := Lib.hid hlen2
        have hm : half l'.length < l'.length := by omega
        generalize (l'.take (half l'.length)) = lk at *
        generalize root (l'.drop (half l'.length)) = x at *
        clear hn2 hlen2 hls hlk
        obtain ⟨N, hN⟩ : ∃ N, l'.length = N := ⟨_, rfl⟩
        obtain ⟨k, hkk⟩ : ∃ k, half l'.length = k := ⟨_, rfl⟩
        rw [hkk] at A1 E1 KA hk hm hk0 hk1
        rw [hN] at A1 E1 hm hk1 h2 hc' hl' hlen hn'
        rw [hN]
        clear hN hkk
        have q0 : decide ((N : Int) > 1) = true := decide_eq_true (by omega)
        have q1 : (1 : Int) < (N : Int) := by omega
        have q2 : (n' : Int) < (k : Int) := by omega
        have k1 : (k : Int) ≤ (N : Int) := by omega
        have k2 : (k : Int) ≤ (cap' : Int) := by omega
        have k3 : k ≤ N := by omega
        have k4 : k ≤ cap' := by omega
        have k5 : (N : Int) ≤ (cap' : Int) := by omega
        have k6 : N ≤ cap' := by omega
        go_wp2_with fail
        refine (A1.out _).mono ?_; rintro e w1 ⟨rfl, rfl⟩
        go_wp2_with fail
        refine (E1.out).mono ?_; rintro e w1 ⟨rfl, hb1⟩
        have hbs := run_build1 x r32
        obtain ⟨v', w', hap, hO', hgr, hblk⟩ := run_append_hash w1 w.heap.size u6 hs (hO.below hb1) (Nat.le_trans hB.size hb1.size) x r32 (by omega)
        have hB1 := below_of_grown (hB.trans (hb1.mono hB.size)) hgr (Nat.le_trans hB.size hb1.size) (fun g' hg' => hO.blk g' hg')
        have HBS := Lib.hid (hbs w1)
        have HAP := Lib.hid hap
        clear hbs hap
        generalize hrow x = R at HBS HAP ⊢
        go_wp2_with (first
          | (refine wpList_build_run rfl 32 1 #[(0, .tmp 29)] rfl #[(0, .agg R)] rfl _ _ HBS.out ?_)
          | (at_builtin; refine Lib.wpList_append_run _ rfl (.tmp 25) (.tmp 30) 32 32 rfl _ _ rfl rfl _ _ HAP.out ?_))
        go_roundw
        case rel => exact ⟨lk, n', hs ++ [x], KA.out, rfl, Hn2.out, KS.out, HQ.out, HA.out.snoc r32, hO', Hlen2.out, hB1⟩
        case measure => simp [sliceLen]; omega
      · have hk2 : half l'.length ≤ n' := by omega
        have HQ : Hid (path l n = path (l'.drop (half l'.length)) (n' - half l'.length) ++ (hs ++ [root (l'.take (half l'.length))]).reverse) := by
          show _ = _
          rw [HP.out, path_right h2 hk, List.reverse_append, List.append_assoc]; rfl
        have hls : (l'.take (half l'.length)).length = half l'.length := by rw [List.length_take]; omega
        have hlk : (l'.drop (half l'.length)).length = l'.length - half l'.length := by rw [List.length_drop]
        have E1 : Hid (Calls Try.prog 16 #[.slice (some ⟨g, o, none⟩) (half l'.length) (cap')] wr fun e w'' => e = .returned (.agg (hrow (root (l'.take (half l'.length))))) ∧ Below wr.heap.size wr w'') := Root_any _ _ _ wr (Nat.le_refl _) (hS'.take _) (SArg.of hls (by omega) ((hA2.below hB).take _))
        have KA : Hid (SArg w (.slice (some ⟨g, o + half l'.length, none⟩) (l'.length - half l'.length) (cap' - half l'.length)) (l'.drop (half l'.length))) := SArg.of hlk (by omega) (hA2.drop _)
        have KS := Lib.hid (hS'.drop (half l'.length))
        have r32 := root_length (l'.take (half l'.length))
        have hn2 : (n' - half l'.length) < (l'.drop (half l'.length)).length := by rw [hlk]; omega
        have hlen2 : (hs ++ [root (l'.take (half l'.length))]).length + (l'.drop (half l'.length)).length ≤ l.length := by rw [List.length_append, hlk]; simp; omega
        have Hn2 := Lib.hid hn2
        have Hlen2 := Lib.hid hlen2
        have hm : l'.length - half l'.length < l'.length := by omega
        generalize (l'.drop (half l'.length)) = lk at *
        generalize root (l'.take (half l'.length)) = x at *
        clear hn2 hlen2 hls hlk
        obtain ⟨N, hN⟩ : ∃ N, l'.length = N := ⟨_, rfl⟩
        obtain ⟨k, hkk⟩ : ∃ k, half l'.length = k := ⟨_, rfl⟩
        rw [hkk] at A1 E1 KA hk hm hk0 hk1
        rw [hN] at A1 KA hm hk1 h2 hc' hl' hlen hn'
        rw [hN]
        rw [hkk] at Hn2 HQ
        clear hN hkk
        have q0 : decide ((N : Int) > 1) = true := decide_eq_true (by omega)
        have q1 : (1 : Int) < (N : Int) := by omega
        have q2 : ¬ ((n' : Int) < (k : Int)) := by omega
        have k1 : (k : Int) ≤ (N : Int) := by omega
        have k2 : (k : Int) ≤ (cap' : Int) := by omega
        have k3 : k ≤ N := by omega
        have k4 : k ≤ cap' := by omega
        have k5 : (N : Int) ≤ (cap' : Int) := by omega
        have k6 : N ≤ cap' := by omega
        go_wp2_with fail
        refine (A1.out _).mono ?_; rintro e w1 ⟨rfl, rfl⟩
        go_wp2_with fail
        refine (E1.out).mono ?_; rintro e w1 ⟨rfl, hb1⟩
        have hbs := run_build1 x r32
        obtain ⟨v', w', hap, hO', hgr, hblk⟩ := run_append_hash w1 w.heap.size u6 hs (hO.below hb1) (Nat.le_trans hB.size hb1.size) x r32 (by omega)
        have hB1 := below_of_grown (hB.trans (hb1.mono hB.size)) hgr (Nat.le_trans hB.size hb1.size) (fun g' hg' => hO.blk g' hg')
        have HBS := Lib.hid (hbs w1)
        have HAP := Lib.hid hap
        clear hbs hap
        generalize hrow x = R at HBS HAP ⊢
        go_wp2_with (first
          | (refine wpList_build_run rfl 32 1 #[(0, .tmp 39)] rfl #[(0, .agg R)] rfl _ _ HBS.out ?_)
          | (at_builtin; refine Lib.wpList_append_run _ rfl (.tmp 35) (.tmp 40) 32 32 rfl _ _ rfl rfl _ _ HAP.out ?_))
        go_roundw
        case rel => exact ⟨lk, (n' - k), hs ++ [x], KA.out, congrArg (Value.int .i64) (by omega), Hn2.out, KS.out, HQ.out, HA.out.snoc r32, hO', Hlen2.out, hB1⟩
        case measure => simp [sliceLen]; omega
    · have hl1 : l'.length = 1 := by omega
      have HR : Hid (path l n = hs.reverse) := by show _ = _; rw [HP.out, path_one (by omega)]; rfl
      have q0 : ¬ ((1 : Int) < (l'.length : Int)) := by omega
      have q1 : decide ((l'.length : Int) > 1) = false := decide_eq_false q0
      have hn1 : hs.length ≤ 4398046511104 := by omega
      clear HP hA'
      rcases hO with ⟨rfl, hz, _⟩ | ⟨gg, cc, rfl, z1, z2, z3⟩
      · obtain rfl : hs = [] := List.length_eq_zero_iff.1 hz
        go_wp2_with fail
        refine (Reverse_nil _).mono ?_; rintro e w1 ⟨rfl, rfl⟩
        go_wp2_with fail
        refine bodyPost_ret (results_tmp2 rfl _ _ _) rfl ?_
        rw [HR.out]
        exact ⟨_, rfl, OwnV.nil _ _ _, hB⟩
      · have RV := Lib.hid (Reverse_any w.heap.size gg cc hs HA.out hn1 wr z3)
        have hgb := z3.base
        have hrl : hs.reverse.length = hs.length := List.length_reverse
        have hcl := hcells_length (All32.reverse HA.out)
        have Hrl := Lib.hid hrl
        have Hcl := Lib.hid hcl
        clear z1 z3 hrl hcl
        go_wp2_with fail
        refine (RV.out).mono ?_; rintro e w1 ⟨rfl, hV, hG⟩
        have hB1 := below_of_grown hB hG hB.size (fun g' hg' => by cases hg'; exact hgb)
        go_wp2_with fail
        refine bodyPost_ret (results_tmp2 rfl _ _ _) rfl ?_
        rw [HR.out]
        refine ⟨_, rfl, .inr ⟨gg, cc, ?_, Hcl.out, by rw [Hrl.out]; exact z2, hV⟩, hB1⟩
        rw [Hrl.out]; rfl
end Go.Proofs.Ytjekdeikoebmgaa

namespace Go.Proofs.Ytjekdeikoebmgaa
open Go.RowKit Go.Shelf Tr

theorem same_step (a b : List (List UInt8)) (k : Nat) (x y : List UInt8) (hx : a[k]? = some x) (hy : b[k]? = some y) : (a.drop k == b.drop k) = ((x == y) && (a.drop (k + 1) == b.drop (k + 1))) := by
  have h1 := List.getElem?_eq_some_iff.1 hx
  have h2 := List.getElem?_eq_some_iff.1 hy
  rw [List.drop_eq_getElem_cons h1.1, List.drop_eq_getElem_cons h2.1, h1.2, h2.2]
  rfl

set_option maxRecDepth 100000 in
set_option maxHeartbeats 1000000 in
theorem Same_any (a b : List (List UInt8)) (ha : All32 a) (hb : All32 b) (va vb : Value) (w : World) (hA : HArg w va a) (hB : HArg w vb b) (hla : a.length ≤ 4398046511104) (hlb : b.length ≤ 4398046511104) :
    Calls Try.prog 23 #[va, vb] w fun e w' => e = .returned (.bool (a == b)) ∧ Below w.heap.size w w' := by
  obtain ⟨p, ca, rfl, hca, hA⟩ := hA
  obtain ⟨q, cb, rfl, hcb, hB⟩ := hB
  by_cases hl : a.length = b.length
  · have HN := Lib.hid hl.symm
    rw [← hl]
    rw [← hl] at hcb
    have AA := Lib.hid hA
    have BB := Lib.hid hB
    obtain ⟨n, hn⟩ : ∃ n, a.length = n := ⟨_, rfl⟩
    have HNN := Lib.hid hn
    rw [hn] at HN hla hca hcb
    rw [hn]
    clear hl hlb hA hB hn
    have t : ((n : Int) == (n : Int)) = true := by simp
    go_enter Try.func23, Try.ntmps23
    go_wp2_with fail
    go_loopw [5] (fun i wr => ∃ k : Nat, k ≤ n ∧ i = .int .i64 k ∧ Hid ((a == b) = (a.drop k == b.drop k)) ∧ Below w.heap.size w wr) (fun i _ => n - (intOf i).toNat)
    case atStart => exact ⟨0, by omega, rfl, rfl, Below.refl _ _⟩
    case round =>
      obtain ⟨k, hk, rfl, HE, hBl⟩ := hrel
      by_cases hlt : k < n
      · obtain ⟨x, hx⟩ : ∃ x, a[k]? = some x := ⟨a[k]'(by rw [HNN.out]; exact hlt), List.getElem?_eq_getElem _⟩
        obtain ⟨y, hy⟩ : ∃ y, b[k]? = some y := ⟨b[k]'(by rw [HN.out]; exact hlt), List.getElem?_eq_getElem _⟩
        obtain ⟨ga, oa, rfl, hA⟩ := AA.out (by rintro rfl; simp at hx)
        obtain ⟨gb, ob, rfl, hB⟩ := BB.out (by rintro rfl; simp at hy)
        have fx := After.elem (hA.below hBl) ha k x hx
        have fy := After.elem (hB.below hBl) hb k y hy
        rw [show oa + 32 * k = oa + k * 32 by omega] at fx
        rw [show ob + 32 * k = ob + k * 32 by omega] at fy
        have x32 := ha x (List.mem_of_getElem? hx)
        have y32 := hb y (List.mem_of_getElem? hy)
        have hq := fun w => run_eq_hash x y x32 y32 w
        have hD := same_step a b k x y hx hy
        have k1 : (k : Int) < (n : Int) := by omega
        clear hx hy AA BB hA hB x32 y32
        generalize hrow x = RX at *
        generalize hrow y = RY at *
        by_cases hxy : x = y
        · have h0 : (x == y) = true := by simpa using hxy
          rw [h0] at hq hD
          have HD : Hid ((a == b) = (a.drop (k + 1) == b.drop (k + 1))) := by show _ = _; rw [HE.out, hD]; rfl
          clear hD h0 hxy
          go_wp2_with fail
          refine wp_region_after (by kernel_rfl) (by kernel_rfl) ?_
          repeat (first
            | (refine quiet_load_at 24 (.tmp 19) (by rfl) ⟨ga, oa + k * 32, none⟩ (by rfl) RX fx (by rfl) ?_; go_frame)
            | (refine quiet_load_at 24 (.tmp 23) (by rfl) ⟨gb, ob + k * 32, none⟩ (by rfl) RY fy (by rfl) ?_; go_frame)
            | (go_big_quiet_step (fail)))
          refine wpQuiet_nil ?_
          rintro w5 ⟨x5, rfl⟩
          have hb5 := hBl.trans (x5.hb.mono hBl.size)
          generalize x5.W = w5 at *
          go_wp2_with fail
          go_roundw
          case rel => exact ⟨k + 1, by omega, by go_num, HD.out, hb5⟩
          case measure => simp [intOf]; omega
        · have h0 : (x == y) = false := by simpa using hxy
          rw [h0] at hq hD
          have HD : Hid ((a == b) = false) := by show _ = _; rw [HE.out, hD]; rfl
          clear hD h0 hxy
          go_wp2_with fail
          refine wp_region_after (by kernel_rfl) (by kernel_rfl) ?_
          repeat (first
            | (refine quiet_load_at 24 (.tmp 19) (by rfl) ⟨ga, oa + k * 32, none⟩ (by rfl) RX fx (by rfl) ?_; go_frame)
            | (refine quiet_load_at 24 (.tmp 23) (by rfl) ⟨gb, ob + k * 32, none⟩ (by rfl) RY fy (by rfl) ?_; go_frame)
            | (go_big_quiet_step (fail)))
          refine wpQuiet_nil ?_
          rintro w5 ⟨x5, rfl⟩
          have hb5 := hBl.trans (x5.hb.mono hBl.size)
          generalize x5.W = w5 at *
          go_wp2_with fail
          go_ret
          exact ⟨by rw [HD.out]; rfl, hb5⟩
      · obtain rfl : k = n := by omega
        have HR : Hid ((a == b) = true) := by
          show _ = _
          rw [HE.out, List.drop_of_length_le (by rw [HNN.out]; exact Nat.le_refl _), List.drop_of_length_le (by rw [HN.out]; exact Nat.le_refl _)]; rfl
        clear hlt hk
        go_wp2_with fail
        go_ret
        exact ⟨by rw [HR.out]; rfl, hBl⟩
  · have hne : ((a.length : Int) == (b.length : Int)) = false := by rw [beq_eq_false_iff_ne]; omega
    have HR : Hid ((a == b) = false) := by
      show _ = _
      rw [beq_eq_false_iff_ne]; rintro rfl; exact hl rfl
    clear hl hA hB
    go_enter Try.func23, Try.ntmps23
    go_wp2_with fail
    go_ret
    exact ⟨by rw [HR.out]; rfl, Below.refl _ _⟩
end Go.Proofs.Ytjekdeikoebmgaa
