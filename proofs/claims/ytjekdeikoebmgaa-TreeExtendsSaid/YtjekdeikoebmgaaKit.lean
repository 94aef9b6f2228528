/- Small laws on worlds that the walks of this seat share: a block that is known whole, what a round of a range over a function keeps. Conditions: none. Operations of a guarded row, taken whole. No program here. Conditions: none. From a walk to a row: a law that returns true and leaves all that lay before the call as it lay meets its row. Conditions: none. Rows of the call's own that are appended to, of elements of any width; a nil slice first. No program here. Conditions: sizes. Slices and arrays that are written out, of elements of any width. No program here. Conditions: the widths. A region whose order is drawn, walked by hand: one operation at a time. No program here. Conditions: none. One walk in the order of the text serves every order, where the last operations wait for the first ones through others. No program here. Conditions: none. -/
import Derived.Test.YtjekdeikoebmgaaRows
import Derived.RangeFuncNested
import Derived.RangeFuncBound
import Derived.RangeFuncCalls
import Derived.RangeFuncLeaves
import Derived.Shelf.Abstract
import Derived.Shelf.RegionOpen
import Derived.WalkKit
import Derived.OwnWalkIn
import Derived.TacticsInMore
import Derived.LoopNIn
import Derived.LoopIn
import Derived.WalkSpells
import Derived.WalkLawsBesides
import Derived.Deep.RegionHeld3
import Derived.Deep.QuietTactic
import Derived.Deep.DeepCutAuto
import Derived.Deep.WholeRow
import Derived.Deep.MidRow
import Derived.BigQuiet
import Derived.Lib.Hide
import Derived.StillTail
import Derived.ProofKit
import Derived.OpenShut
import Derived.Deep.AppendSrc
import Derived.Great.BuildSlice
namespace Go.Proofs.Ytjekdeikoebmgaa
open Go.RowKit Go.Shelf

/-- What a round that goes on keeps: every block of cells lies as it lay. -/
def KpC (W W' : World) : Prop := W.heap.size ≤ W'.heap.size ∧ ∀ (b : Nat) (o : Obj), W.heap[b]? = some o → o.isCells = true → W'.heap[b]? = some o
theorem KpC.refl (W : World) : KpC W W := ⟨Nat.le_refl _, fun _ _ h _ => h⟩
theorem KpC.trans {A B C : World} (h : KpC A B) (k : KpC B C) : KpC A C := ⟨Nat.le_trans h.1 k.1, fun b o hb ho => k.2 b o (h.2 b o hb ho) ho⟩
theorem KpC.put {w : World} (W : World) (l : Nat) (o o' : Obj) (_ : w.heap.size ≤ l) (h : W.heap[l]? = some o) (hc : o.isCells = false) (_ : o.isWalk = false) : KpC W (W.putObj l o') := by
  refine ⟨by simp [World.putObj], fun b p hb hp => ?_⟩
  by_cases e : b = l
  · subst e; rw [h] at hb; cases hb; rw [hc] at hp; cases hp
  · rw [World.putObj_heap_other e]; exact hb
theorem KpC.alloc (W : World) (o : Obj) : KpC W (W.alloc o) := 
  ⟨by simp, fun b p hb _ => by rw [Below.heap_alloc _ _ _ (Array.getElem?_eq_some_iff.1 hb).1]; exact hb⟩
theorem KpC.cell {W W' : World} (h : KpC W W') {p : Addr} {v : Value} (hp : W.cell? p = some v) : W'.cell? p = some v := by
  have : W'.heap[p.block]? = W.heap[p.block]? := by
    cases ho : W.heap[p.block]? with
    | none => simp [World.cell?, ho] at hp
    | some o =>
      cases o with
      | cells c t f => exact h.2 _ _ ho rfl
      | _ => simp [World.cell?, ho] at hp
  rw [World.cell?_of_block (w := W) this]; exact hp

theorem bcell {W w1 : World} (hb : Below W.heap.size W w1) : (∀ b o, b < W.heap.size → w1.cell? ⟨b, o, none⟩ = W.cell? ⟨b, o, none⟩) ∧ (∀ b o, b < W.heap.size → w1.frozen? ⟨b, o, none⟩ = W.frozen? ⟨b, o, none⟩) :=
  ⟨fun b o h => hb.cell (p := ⟨b, o, none⟩) h, fun b o h => hb.frozen (p := ⟨b, o, none⟩) h⟩

/-- Block b is known whole: its cells, its type; it may be written. -/
def Blk (W : World) (b : Nat) (cs : Array Value) (t : TypeId) : Prop := W.heap[b]? = some (.cells cs t (0, 0))
theorem Blk.lt {W : World} {b : Nat} {cs : Array Value} {t : TypeId} (h : Blk W b cs t) : b < W.heap.size := (Array.getElem?_eq_some_iff.1 h).1
theorem Blk.cell {W : World} {b : Nat} {cs : Array Value} {t : TypeId} (h : Blk W b cs t) (j : Nat) (v : Value) (hv : cs[j]? = some v) : W.cell? ⟨b, j, none⟩ = some v := (cell_of_row W b j cs t (0, 0) h).trans hv
theorem Blk.frozen {W : World} {b : Nat} {cs : Array Value} {t : TypeId} (h : Blk W b cs t) (j : Nat) : W.frozen? ⟨b, j, none⟩ = false := frozen_of_row W b j cs t h
theorem Blk.new (W : World) (cs : Array Value) (t : TypeId) : Blk (W.alloc (.cells cs t)) W.heap.size cs t := World.alloc_heap_new W _
theorem Blk.kept {W W' : World} {row : Option Nat} {b : Nat} {cs : Array Value} {t : TypeId} (h : Blk W b cs t) (hg : W.grownBy W' row) (hrow : ∀ r, row = some r → ∃ o : Obj, W.heap[r]? = some o ∧ o.isCells = false) : Blk W' b cs t :=
  (grownBy_keeps_cells hg hrow h rfl).trans h
theorem Blk.alloc {W : World} {b : Nat} {cs : Array Value} {t : TypeId} (h : Blk W b cs t) (o : Obj) : Blk (W.alloc o) b cs t := (Below.heap_alloc _ _ _ h.lt).trans h
theorem Blk.drew {W : World} {b : Nat} {cs : Array Value} {t : TypeId} (h : Blk W b cs t) : Blk W.drew b cs t := h
theorem Blk.drewN {W : World} {b : Nat} {cs : Array Value} {t : TypeId} (h : Blk W b cs t) (n : Nat) : Blk (W.drewN n) b cs t := h
theorem Blk.other {W : World} {b : Nat} {cs : Array Value} {t : TypeId} (h : Blk W b cs t) {a : Addr} (ha : b ≠ a.block) (v : Value) : Blk (W.setCell a v) b cs t := (Below.heap_setCell _ _ _ _ ha).trans h
theorem Blk.set {W : World} {b : Nat} {cs : Array Value} {t : TypeId} (h : Blk W b cs t) (i : Nat) (v : Value) : Blk (W.setCell ⟨b, i, none⟩ v) b (cs.setIfInBounds i v) t := heap_setCell_same W b i cs t v h
theorem Blk.below {W W' : World} {B b : Nat} {cs : Array Value} {t : TypeId} (h : Blk W b cs t) (hb : Below B W W') (hB : b < B) : Blk W' b cs t := (hb.block b hB).trans h
theorem Blk.keepC {W W' : World} {b : Nat} {cs : Array Value} {t : TypeId} (h : Blk W b cs t) (hk : KpC W W') : Blk W' b cs t := hk.2 _ _ h rfl
theorem Blk.row {W : World} {b : Nat} {cs : Array Value} {t : TypeId} (h : Blk W b cs t) (cs' : Array Value) : Blk (W.setRow b cs') b cs' t := setRow_heap W b cs cs' t (0, 0) h
theorem Blk.rowOther {W : World} {b g : Nat} {cs : Array Value} {t : TypeId} (h : Blk W b cs t) (cs' : Array Value) (hg : b ≠ g) : Blk (W.setRow g cs') b cs t := (setRow_other W g b cs' hg).trans h

theorem Below.setRow {B : Nat} {a w : World} (h : Below B a w) {g : Nat} (hg : B ≤ g) (cs : Array Value) : Below B a (w.setRow g cs) :=
  h.trans ⟨rfl, rfl, rfl, by simp, fun k hk => setRow_other _ _ _ _ (by omega)⟩
theorem Below.drewN {B : Nat} {a w : World} (h : Below B a w) (n : Nat) : Below B a (w.drewN n) := ⟨h.os, h.tape, h.output, h.size, h.block⟩

theorem keepCells {W w1 : World} (hb : Below W.heap.size W w1) : ∀ p v, W.cell? p = some v → w1.cell? p = some v := fun p _ h => (hb.cell (p := p) (World.block_lt_of_cell? W _ h)).trans h
theorem Below.ofDrew {B : Nat} {w w' : World} (h : Below B w.drew w') : Below B w w' := ⟨h.os, h.tape, h.output, h.size, h.block⟩

theorem Below.ofDrewN {B n : Nat} {w w' : World} (h : Below B (w.drewN n) w') : Below B w w' := ⟨h.os, h.tape, h.output, h.size, h.block⟩

/-- The worlds in which all that lay in w lies as it lay: for a region that draws its order and whose callees make memory. -/
structure After (w : World) where
  W : World
  hb : Below w.heap.size w W
instance (w : World) : Nonempty (After w) := ⟨⟨w, Below.refl _ w⟩⟩
theorem After.cell {w : World} {p : Addr} {v : Value} (h : w.cell? p = some v) : ∀ x : After w, x.W.cell? p = some v := fun x => keepCells x.hb _ _ h
/-- A callee that leaves all that lay is quiet in that class. -/
theorem After.call {P : Program} {f : FuncId} {args : Array Value} {w : World} {x : After w} {v : Value}
    (h : Calls P f args x.W fun e w' => e = .returned v ∧ Below x.W.heap.size x.W w') : Calls P f args x.W fun e w'' => e = .returned v ∧ ∃ y : After w, w'' = y.W :=
  h.mono fun _ w' ⟨he, hb⟩ => ⟨he, ⟨w', x.hb.trans (hb.mono x.hb.size)⟩, rfl⟩
/-- One walk in the order of the text serves every order. -/
theorem wp_region_after {P : Program} {id : Nat} {Q : Exit → Act → World → Prop} {a : Act} {w : World} {l : List Oper} (hm : P.follows .mixedOrders = true) (hB : Region.lexB .any l.toArray = true)
    (h : wpQuiet P l.toArray (fun w' => ∃ x : After w, w' = x.W) (fun a' => ∀ w', (∃ x : After w, w' = x.W) → Q .normal a' w') l a) : (Code.region id l.toArray true).wp P Q a w :=
  wp_region_quiet (C := fun w' => ∃ x : After w, w' = x.W) hm hB ⟨⟨w.drew, (Below.refl _ w).drew⟩, rfl⟩ (by simpa using h)

namespace QT
section
variable {P : Program} {md : Region.Mode} {C : World → Prop} {Q : Exit → Act → World → Prop}

/-- The head's edges point backwards, its guards lie in the head; what stands behind the head waits for all of it. -/
def tailB (md : Region.Mode) (l1 l2 : List Oper) : Bool :=
  ((List.range l1.length).all fun j => match l1[j]? with
    | some o => (o.after.all fun e => !Region.binds md e || decide (e.on < j)) && (match o.guard with | some (k, _) => decide (k < l1.length) | none => true)
    | none => true) &&
  (l2.all fun o => ((List.range l1.length).all fun i => o.after.any fun e => Region.binds md e && (e.on == i)) || (o.after.any fun e => Region.binds md e && decide (l1.length ≤ e.on) && decide (e.on < l1.length + l2.length)))

def ext (g : Nat) (L : Array Bool) : Array Bool := L ++ Array.replicate g false

theorem ext_lt {g : Nat} {L : Array Bool} {j : Nat} (d : Bool) (h : j < L.size) : (ext g L).getD j d = L.getD j d := by
  simp [ext, Array.getElem?_append_left h]
theorem ext_ge {g : Nat} {L : Array Bool} {j : Nat} (h : L.size ≤ j) (h2 : j < L.size + g) : (ext g L).getD j false = false := by
  have : (ext g L)[j]? = some false := by
    unfold ext
    rw [Array.getElem?_append_right h, Array.getElem?_replicate, if_pos (by omega)]
  simp [this]
theorem ext_set {g : Nat} {L : Array Bool} {i : Nat} (h : i < L.size) : (ext g L).setIfInBounds i true = ext g (L.setIfInBounds i true) := by
  unfold ext
  apply Array.ext_getElem?
  intro k
  rw [Array.getElem?_setIfInBounds]
  by_cases hk : i = k
  · subst hk
    rw [if_pos rfl, Array.getElem?_append_left (by simpa using h)]
    simp [h]
    omega
  · rw [if_neg hk]
    by_cases hkn : k < L.size
    · rw [Array.getElem?_append_left hkn, Array.getElem?_append_left (by simpa using hkn), Array.getElem?_setIfInBounds, if_neg hk]
    · rw [Array.getElem?_append_right (by omega), Array.getElem?_append_right (by simp; omega)]
      simp

theorem wpAny_more {ops : Array Oper} : ∀ (k f : Nat) (L : Array Bool) (a : Act) (w : World), wpAny P md ops Q f L a w → wpAny P md ops Q (k + f) L a w := by
  have one : ∀ (f : Nat) (L : Array Bool) (a : Act) (w : World), wpAny P md ops Q f L a w → wpAny P md ops Q (f + 1) L a w := by
    intro f
    induction f with
    | zero => intro L a w h; exact ⟨fun _ => h.2, fun i hi => by rw [h.1] at hi; cases hi⟩
    | succ f ih => intro L a w h; exact ⟨h.1, fun i hi => wpOp_mono (fun a' w' h' => ih _ a' w' h') (h.2 i hi)⟩
  intro k
  induction k with
  | zero => intro f L a w h; rw [Nat.zero_add]; exact h
  | succ k ih => intro f L a w h; rw [show k + 1 + f = (k + f) + 1 by omega]; exact one _ _ _ _ (ih f L a w h)

theorem getElem_left {l1 l2 : List Oper} {j : Nat} (h : j < l1.length) : (l1 ++ l2).toArray[j]? = l1.toArray[j]? := by
  simp [List.getElem?_append_left h]

theorem sim {l1 l2 : List Oper} (hT : tailB md l1 l2 = true) (hS : Region.seqB md (l1 ++ l2).toArray l2.length l1.length (ext l2.length (Array.replicate l1.length true)) = true) :
    ∀ (f : Nat) (L : Array Bool) (a : Act) (w : World), C w → L.size = l1.length →
      wpAnyQ P md l1.toArray C (fun a' => ∀ w', C w' → wpList P (l1 ++ l2).toArray Q l2 a' w') f L a → wpAny P md (l1 ++ l2).toArray Q (f + l2.length) (ext l2.length L) a w := by
  simp only [tailB, Bool.and_eq_true, List.all_eq_true, List.mem_range] at hT
  obtain ⟨hT1, hT2⟩ := hT
  -- what the checks say
  have hback : ∀ j o, j < l1.length → l1.toArray[j]? = some o → ∀ e ∈ o.after, Region.binds md e = true → e.on < j := by
    intro j o hj ho e he hb
    have h1 := hT1 j hj
    rw [show l1[j]? = some o by simpa using ho] at h1
    simp only [Bool.and_eq_true] at h1
    have h2 := Array.all_eq_true'.1 h1.1 e he
    simpa [hb] using h2
  have hguard : ∀ j o k b, j < l1.length → l1.toArray[j]? = some o → o.guard = some (k, b) → k < l1.length := by
    intro j o k b hj ho hg
    have h1 := hT1 j hj
    rw [show l1[j]? = some o by simpa using ho] at h1
    simp only [Bool.and_eq_true] at h1
    have h2 := h1.2
    rw [hg] at h2
    simpa using h2
  have hwait : ∀ j o i, l1.length ≤ j → (l1 ++ l2).toArray[j]? = some o → i < l1.length → ∃ e ∈ o.after, Region.binds md e = true ∧ (e.on = i ∨ (l1.length ≤ e.on ∧ e.on < l1.length + l2.length)) := by
    intro j o i hj ho hi
    have h1 : l2[j - l1.length]? = some o := by simpa [List.getElem?_append_right hj] using ho
    have h2 := hT2 o (List.mem_of_getElem? h1)
    rw [Bool.or_eq_true] at h2
    rcases h2 with h2 | h2
    · have h3 := List.all_eq_true.1 h2 i (List.mem_range.2 hi)
      obtain ⟨e, he, hb⟩ := Array.any_eq_true'.1 h3
      simp only [Bool.and_eq_true, beq_iff_eq] at hb
      exact ⟨e, he, hb.1, .inl hb.2⟩
    · obtain ⟨e, he, hb⟩ := Array.any_eq_true'.1 h2
      simp only [Bool.and_eq_true, decide_eq_true_eq] at hb
      exact ⟨e, he, hb.1.1, .inr ⟨hb.1.2, hb.2⟩⟩
  -- which operations are ready
  have hin : ∀ (L : Array Bool) (i j : Nat), L.size = l1.length → i < l1.length → L.getD i false = false → j ∈ Region.ready md (l1 ++ l2).toArray (ext l2.length L) →
      j < l1.length ∧ j ∈ Region.ready md l1.toArray L := by
    intro L i j hL hi hun hj
    obtain ⟨h0, o, ho, hall⟩ := mem_ready.1 hj
    have hjn : j < l1.length := by
      rcases Nat.lt_or_ge j l1.length with h | h
      · exact h
      · obtain ⟨e, he, hb, hon⟩ := hwait j o i h ho hi
        have := hall e he hb
        rcases hon with hon | hon
        · rw [hon, ext_lt _ (by omega), hun] at this
          cases this
        · rw [ext_ge (by omega) (by omega)] at this
          cases this
    refine ⟨hjn, mem_ready.2 ⟨by rw [← ext_lt (g := l2.length) _ (by omega)]; exact h0, o, by rw [← getElem_left hjn]; exact ho, fun e he hb => ?_⟩⟩
    have h2 := hback j o hjn (by rw [← getElem_left hjn]; exact ho) e he hb
    rw [← ext_lt (g := l2.length) _ (by omega)]
    exact hall e he hb
  have hmin : ∀ (L : Array Bool), L.size = l1.length → ∀ (m i : Nat), i ≤ m → i < l1.length → L.getD i true = false → ∃ k, k < l1.length ∧ k ∈ Region.ready md (l1 ++ l2).toArray (ext l2.length L) ∧ k ∈ Region.ready md l1.toArray L := by
    intro L hL m
    induction m with
    | zero =>
      intro i him hi hun
      obtain rfl : i = 0 := by omega
      have ho : l1.toArray[0]? = some (l1[0]) := by simp [hi]
      refine ⟨0, hi, mem_ready.2 ⟨by rw [ext_lt _ (by omega)]; exact hun, _, by rw [getElem_left hi]; exact ho, fun e he hb => ?_⟩, mem_ready.2 ⟨hun, _, ho, fun e he hb => ?_⟩⟩
      all_goals exact absurd (hback 0 _ hi ho e he hb) (by omega)
    | succ m ih =>
      intro i him hi hun
      by_cases hex : ∃ k, k < i ∧ L.getD k true = false
      · obtain ⟨k, hk, hkun⟩ := hex
        exact ih k (by omega) (by omega) hkun
      · have ho : l1.toArray[i]? = some (l1[i]) := by simp [hi]
        have hall : ∀ e ∈ (l1[i]).after, Region.binds md e = true → L.getD e.on false = true := by
          intro e he hb
          have h1 := hback i _ hi ho e he hb
          have h2 : L.getD e.on true ≠ false := fun h => hex ⟨e.on, h1, h⟩
          have h3 : e.on < L.size := by omega
          simp [h3] at h2 ⊢
          exact h2
        refine ⟨i, hi, mem_ready.2 ⟨by rw [ext_lt _ (by omega)]; exact hun, _, by rw [getElem_left hi]; exact ho, fun e he hb => ?_⟩, mem_ready.2 ⟨hun, _, ho, hall⟩⟩
        rw [ext_lt _ (by have := hback i _ hi ho e he hb; omega)]
        exact hall e he hb
  have hallTrue : ∀ (L : Array Bool), L.size = l1.length → (¬ ∃ i, i < l1.length ∧ L.getD i true = false) → L = Array.replicate l1.length true := by
    intro L hL hno
    apply Array.ext
    · simp [hL]
    · intro i h1 h2
      have h3 : L.getD i true ≠ false := fun h => hno ⟨i, by omega, h⟩
      simp [h1] at h3
      simpa using h3
  have hend : ∀ (L : Array Bool) (a : Act) (w : World), L.size = l1.length → (¬ ∃ i, i < l1.length ∧ L.getD i true = false) → wpList P (l1 ++ l2).toArray Q l2 a w →
      wpAny P md (l1 ++ l2).toArray Q l2.length (ext l2.length L) a w := by
    intro L a w hL hno h
    rw [hallTrue L hL hno]
    refine wpAny_of_seq l2 l1.length _ a w (fun j => by rw [show (l1 ++ l2).toArray[l1.length + j]? = (l1 ++ l2)[l1.length + j]? by simp only [List.getElem?_toArray], List.getElem?_append_right (by omega), Nat.add_sub_cancel_left]) hS h
  intro f
  induction f with
  | zero =>
    intro L a w hC hL h
    rw [Nat.zero_add]
    refine hend L a w hL (fun ⟨i, hi, hun⟩ => ?_) (h.2 w hC)
    obtain ⟨k, _, _, hk⟩ := hmin L hL i i (Nat.le_refl _) hi hun
    rw [h.1] at hk
    cases hk
  | succ f ih =>
    intro L a w hC hL h
    by_cases hex : ∃ i, i < l1.length ∧ L.getD i true = false
    · obtain ⟨i, hi, hun⟩ := hex
      rw [show f + 1 + l2.length = (f + l2.length) + 1 by omega]
      refine ⟨fun h0 => ?_, fun j hj => ?_⟩
      · obtain ⟨k, _, hk, _⟩ := hmin L hL i i (Nat.le_refl _) hi hun
        rw [h0] at hk
        cases hk
      · have hunf : L.getD i false = false := by
          have : i < L.size := by omega
          simp [this] at hun ⊢
          exact hun
        obtain ⟨hjn, hjr⟩ := hin L i j hL hi hunf hj
        have h1 := h.2 j hjr
        -- the same operation, over the whole region
        have h2 : qOp P (l1 ++ l2).toArray C j (wpAnyQ P md l1.toArray C (fun a' => ∀ w', C w' → wpList P (l1 ++ l2).toArray Q l2 a' w') f (L.setIfInBounds j true)) a := by
          unfold qOp at h1 ⊢
          rw [getElem_left hjn]
          cases ho : l1.toArray[j]? with
          | none => rw [ho] at h1; exact h1
          | some o =>
            rw [ho] at h1
            have hw : Region.wanted o (yielded (l1 ++ l2).toArray a.tmps) = Region.wanted o (yielded l1.toArray a.tmps) := by
              unfold Region.wanted
              cases hg : o.guard with
              | none => rfl
              | some kb =>
                obtain ⟨k, b⟩ := kb
                have hk := hguard j o k b hjn ho hg
                simp only [yielded, getElem_left hk]
            simp only [hw]
            exact h1
        rw [ext_set (by omega)]
        exact wpOp_of_qOp hC (fun a' w' hw' h' => ih (L.setIfInBounds j true) a' w' hw' (by simpa using hL) h') h2
    · have h0 : Region.ready md l1.toArray L = [] := by
        apply List.eq_nil_iff_forall_not_mem.2
        intro j hj
        obtain ⟨h1, o, ho, _⟩ := mem_ready.1 hj
        exact hex ⟨j, by have := (Array.getElem?_eq_some_iff.1 ho).1; simpa using this, h1⟩
      exact wpAny_more (f + 1) l2.length _ a w (hend L a w hL hex (h.1 h0 w hC))

/-- ONE WALK IN THE ORDER OF THE TEXT SERVES EVERY ORDER, for a region whose first operations leave a class of worlds, and whose last ones come in one order behind them. -/
theorem wp_region_tail {id : Nat} {a : Act} {w : World} {l : List Oper} (n : Nat) (hm : P.follows .mixedOrders = true) (hB : Region.lexB .any (l.take n).toArray = true) (hT : tailB .any (l.take n) (l.drop n) = true)
    (hS : Region.seqB .any (l.take n ++ l.drop n).toArray (l.drop n).length (l.take n).length (ext (l.drop n).length (Array.replicate (l.take n).length true)) = true) (hC : C { w with drawn := w.drawn + 1 })
    (h : wpQuiet P (l.take n).toArray C (fun a' => ∀ w', C w' → wpList P l.toArray Q (l.drop n) a' w') (l.take n) a) : (Code.region id l.toArray true).wp P Q a w := by
  simp only [Region.lexB, Bool.and_eq_true] at hB
  refine wp_region_any hm ?_
  have hh : wpQuiet P (l.take n).toArray C (fun a' => ∀ w', C w' → wpList P (l.take n ++ l.drop n).toArray Q (l.drop n) a' w') (l.take n) a := by
    rw [List.take_append_drop]; exact h
  have h1 := wpAnyQ_lex (C := C) (md := .any) hB.1 (l.take n) 0 (Array.replicate (l.take n).length false) a (by simp) (by simpa using hB.2) hh
  have h2 := sim (Q := Q) hT hS (l.take n).length _ a _ hC (by simp) h1
  rw [List.take_append_drop] at h2
  have e1 : (l.take n).length + (l.drop n).length = l.toArray.size := by
    rw [← List.length_append, List.take_append_drop]; simp
  have e2 : ext (l.drop n).length (Array.replicate (l.take n).length false) = Array.replicate l.toArray.size false := by
    rw [← e1]; simp [ext]
  rw [e1, e2] at h2
  exact h2
end
end QT

/-- The same, at the class 'all that lay in w lies as it lay'. -/
theorem wp_region_after_tail {P : Program} {id : Nat} {Q : Exit → Act → World → Prop} {a : Act} {w : World} {l : List Oper} (n : Nat) (hm : P.follows .mixedOrders = true) (hB : Region.lexB .any (l.take n).toArray = true) (hT : QT.tailB .any (l.take n) (l.drop n) = true)
    (hS : Region.seqB .any (l.take n ++ l.drop n).toArray (l.drop n).length (l.take n).length (QT.ext (l.drop n).length (Array.replicate (l.take n).length true)) = true)
    (h : wpQuiet P (l.take n).toArray (fun w' => ∃ x : After w, w' = x.W) (fun a' => ∀ w', (∃ x : After w, w' = x.W) → wpList P l.toArray Q (l.drop n) a' w') (l.take n) a) : (Code.region id l.toArray true).wp P Q a w :=
  QT.wp_region_tail (C := fun w' => ∃ x : After w, w' = x.W) n hm hB hT hS ⟨⟨w.drew, (Below.refl _ w).drew⟩, rfl⟩ h

/-- A new variable of an array's or a struct's type, its zero cells under one name. -/
theorem wpList_alloc_row {P : Program} {ops : Array Oper} {rest : List Oper} {o : Oper} {a : Act} {w : World} {Q : Exit → Act → World → Prop} (hgd : o.guard = none) (t : TypeId) (ho : o.op = .alloc t)
    (zc : Array Value) (hz : (P.info? t).bind (·.zero) = some (.agg zc))
    (h : wpList P ops Q rest (a.put o.dst (.pointer (some ⟨w.heap.size, 0, none⟩))) (w.alloc (.cells zc t))) : wpList P ops Q (o :: rest) a w := by
  refine wpList_plain hgd fun K hK => ?_
  cases hi : P.info? t with
  | none => rw [hi] at hz; cases hz
  | some i =>
    rw [hi] at hz
    have hz : i.zero = some (.agg zc) := by simpa using hz
    unfold Oper.wp execOp
    simp [ho, Instr.alloc, zeroValue, typeInfo, hi, hz, newVar, Value.cells]
    exact hK _ _ h
theorem wpList_box_row {P : Program} {ops : Array Oper} {rest : List Oper} {o : Oper} {a : Act} {w : World} {Q : Exit → Act → World → Prop} (hgd : o.guard = none) (t : TypeId) (x : Operand) (ho : o.op = .box t x)
    (cs : Array Value) (hx : a.eval x = .agg cs)
    (h : wpList P ops Q rest (a.put o.dst (.pointer (some ⟨w.heap.size, 0, none⟩))) (w.alloc (.cells cs t))) : wpList P ops Q (o :: rest) a w := by
  refine wpList_plain hgd fun K hK => ?_
  unfold Oper.wp execOp
  simp [ho, hx]
  exact hK _ _ h

theorem grown_of_below {a w : World} (h : Below a.heap.size a w) (row : Option Nat) : a.grownBy w row := ⟨h.os, h.tape, h.output, h.size, fun i hi _ => h.block i hi⟩
theorem grown_drewN {a w : World} {row : Option Nat} (h : a.grownBy w row) (n : Nat) : a.grownBy (w.drewN n) row := ⟨h.os, h.tape, h.output, h.size, h.block⟩
theorem grown_drew {a w : World} {row : Option Nat} (h : a.grownBy w row) : a.grownBy w.drew row := ⟨h.os, h.tape, h.output, h.size, h.block⟩
theorem grown_set {a w : World} {g : Nat} (h : a.grownBy w (some g)) (i : Nat) (u : Value) : a.grownBy (w.setCell ⟨g, i, none⟩ u) (some g) :=
  ⟨h.os, h.tape, h.output, by simpa [World.setCell] using h.size, fun k hk hne => (Below.heap_setCell w ⟨g, i, none⟩ u k (by rintro rfl; exact hne rfl)).trans (h.block k hk hne)⟩
theorem grown_then {a b c : World} {g : Nat} (h : a.grownBy b (some g)) (k : Below b.heap.size b c) : a.grownBy c (some g) :=
  ⟨k.os.trans h.os, k.tape.trans h.tape, k.output.trans h.output, Nat.le_trans h.size k.size, fun i hi hne => (k.block i (Nat.lt_of_lt_of_le hi h.size)).trans (h.block i hi hne)⟩
/-- What was written lies above B. -/
theorem below_grown {B : Nat} {a b c : World} {g : Nat} (h : Below B a b) (k : b.grownBy c (some g)) (hB : B ≤ b.heap.size) (hg : B ≤ g) : Below B a c :=
  ⟨k.os.trans h.os, k.tape.trans h.tape, k.output.trans h.output, Nat.le_trans h.size k.size, fun i hi => (k.block i (by omega) (by intro e; injection e with e; omega)).trans (h.block i hi)⟩

theorem Blk.grown {W W' : World} {b g : Nat} {cs : Array Value} {t : TypeId} (h : Blk W b cs t) (hg : W.grownBy W' (some g)) (hne : b ≠ g) : Blk W' b cs t := (hg.block b h.lt (by intro e; injection e with e; exact hne e)).trans h

theorem grown_alloc {a w : World} {row : Option Nat} (h : a.grownBy w row) (o : Obj) : a.grownBy (w.alloc o) row :=
  ⟨h.os, h.tape, h.output, Nat.le_trans h.size (by simp), fun i hi hne => (Below.heap_alloc w o i (Nat.lt_of_lt_of_le hi h.size)).trans (h.block i hi hne)⟩
theorem grown_row {a w : World} {g : Nat} (h : a.grownBy w (some g)) (cs : Array Value) : a.grownBy (w.setRow g cs) (some g) :=
  ⟨h.os, h.tape, h.output, by simpa using h.size, fun k hk hne => (setRow_other _ _ _ _ (by rintro rfl; exact hne rfl)).trans (h.block k hk hne)⟩

/-- What a round that goes on keeps: every block of cells but one lies as it lay. -/
def KpX (sb : Nat) (W W' : World) : Prop := W.heap.size ≤ W'.heap.size ∧ ∀ (b : Nat) (o : Obj), b ≠ sb → W.heap[b]? = some o → o.isCells = true → W'.heap[b]? = some o
theorem KpX.refl (sb : Nat) (W : World) : KpX sb W W := ⟨Nat.le_refl _, fun _ _ _ h _ => h⟩
theorem KpX.trans {sb : Nat} {A B C : World} (h : KpX sb A B) (k : KpX sb B C) : KpX sb A C := ⟨Nat.le_trans h.1 k.1, fun b o hne hb ho => k.2 b o hne (h.2 b o hne hb ho) ho⟩
theorem KpX.put {sb : Nat} {w : World} (W : World) (l : Nat) (o o' : Obj) (_ : w.heap.size ≤ l) (h : W.heap[l]? = some o) (hc : o.isCells = false) (_ : o.isWalk = false) : KpX sb W (W.putObj l o') := by
  refine ⟨by simp [World.putObj], fun b p _ hb hp => ?_⟩
  by_cases e : b = l
  · subst e; rw [h] at hb; cases hb; rw [hc] at hp; cases hp
  · rw [World.putObj_heap_other e]; exact hb
theorem Blk.keepX {W W' : World} {sb b : Nat} {cs : Array Value} {t : TypeId} (h : Blk W b cs t) (hk : KpX sb W W') (hne : b ≠ sb) : Blk W' b cs t := hk.2 _ _ hne h rfl

theorem KpX.of_grown {sb : Nat} {A B : World} (h : A.grownBy B (some sb)) : KpX sb A B :=
  ⟨h.size, fun b o hne hb _ => (h.block b (Array.getElem?_eq_some_iff.1 hb).1 (by intro e; injection e with e; exact hne e)).trans hb⟩

theorem take_finRange {N : Nat} (k : Nat) (h : k < N) : (List.finRange N).take (k + 1) = (List.finRange N).take k ++ [⟨k, h⟩] := by
  rw [List.take_add_one, List.getElem?_eq_getElem (by simpa using h)]
  simp

def rangesOf : Code → List Code
  | .seq a b => rangesOf a ++ rangesOf b
  | .cond _ a b => rangesOf a ++ rangesOf b
  | .block _ c => rangesOf c
  | .loop c => rangesOf c
  | .scope c => rangesOf c
  | .rangeFunc g ps a b => [.rangeFunc g ps a b]
  | _ => []
noncomputable def rangeIn (f : Func) (n : Nat) : Code := ((f.body.map rangesOf).getD []).getD n .skip

/-- The region of a number in a body; its n-th loop. -/
def regionOf (n : Nat) : Code → Option Code
  | .region id ops d => if id = n then some (.region id ops d) else none
  | .seq a b => match regionOf n a with | some c => some c | none => regionOf n b
  | .cond _ a b => match regionOf n a with | some c => some c | none => regionOf n b
  | .block _ c => regionOf n c
  | .loop c => regionOf n c
  | .scope c => regionOf n c
  | .rangeFunc _ _ a b => match regionOf n a with | some c => some c | none => regionOf n b
  | _ => none
def loopsOf : Code → List Code
  | .seq a b => loopsOf a ++ loopsOf b
  | .cond _ a b => loopsOf a ++ loopsOf b
  | .block _ c => loopsOf c
  | .loop c => .loop c :: loopsOf c
  | .scope c => loopsOf c
  | .rangeFunc _ _ a b => loopsOf a ++ loopsOf b
  | _ => []
noncomputable def regionIn (f : Func) (n : Nat) : Code := (f.body.bind (regionOf n)).getD .skip
noncomputable def loopIn (f : Func) (n : Nat) : Code := ((f.body.map loopsOf).getD []).getD n .skip

end Go.Proofs.Ytjekdeikoebmgaa

namespace Go.Proofs.Ytjekdeikoebmgaa
open Go.RowKit Go.Shelf

theorem wpList_wanted {P : Program} {ops : Array Oper} {rest : List Oper} {o : Oper} {a : Act} {w : World} {Q : Exit → Act → World → Prop} (hw : Region.wanted o (yielded ops a.tmps) = true)
    (h : ∀ K : Act → World → Prop, (∀ a w, wpList P ops Q rest a w → K a w) → o.wp P a w K Q) : wpList P ops Q (o :: rest) a w :=
  wpList_step fun K hK => by simp only [hw, if_true]; exact h K hK
/-- A row's load behind a guard that lets it by. -/
theorem wpList_load_row_g {P : Program} {ops : Array Oper} {rest : List Oper} {o : Oper} {a : Act} {w : World} {Q : Exit → Act → World → Prop} (hw : Region.wanted o (yielded ops a.tmps) = true) (ty : TypeId) (x : Operand) (ho : o.op = .load ty x)
    (g : Nat) (hx : a.eval x = .pointer (some ⟨g, 0, none⟩)) (t : TypeId) (cs : Array Value) (fr : Nat × Nat) (d : TypeDesc) (hg : w.heap[g]? = some (.cells cs t fr))
    (hu : P.underlying ty = some d) (hd : (match d with | .struct _ | .array _ _ => true | _ => false) = true) (hi : (P.info? ty).map (·.size) = some cs.size)
    (h : wpList P ops Q rest (a.put o.dst (.agg cs)) w) : wpList P ops Q (o :: rest) a w :=
  wpList_wanted hw fun _ hK => wp_load_row ty x ho g hx t cs fr d hg hu hd hi (hK _ _ h)
end Go.Proofs.Ytjekdeikoebmgaa

namespace Go.Proofs.Ytjekdeikoebmgaa
open Go.ChangeShapes Go.WideShapes Go.ChangeAt Go.RowKit

section
variable {H : Type} {enc : TypeId × Value → H} {P : Program}

/-- All arguments read behind the call as they read before, if nothing below the heap's old size has turned. -/
theorem trodAll_carried (hl : laidOutB P = true) {W W' : World} (hb : Below W.heap.size W W') {sp : Nat → Bool} :
    ∀ (ts : List TypeId) (vs : List Value) (ds : List (DataW H)) (ps : List MemPlace), (∀ t ∈ ts, P.readableRec t = true ∧ t < P.types.size) → (∀ x ∈ ps, x.block < W.heap.size) → (∀ x ∈ ps, sp x.block = true) →
      DataW.TrodAll enc P W 0 (fun _ => true) true ts vs ds ps → DataW.TrodAll enc P W' 0 sp true ts vs ds ps
  | [], [], [], _, _, _, _, h => h
  | t :: ts, v :: vs, d :: ds, ps, hr, hlt, hsp, h => by
    obtain ⟨p, q, h1, h2, rfl⟩ := h
    refine ⟨p, q, WideElems.Trod_stays hl (hr t (by simp)).1 (hr t (by simp)).2 h1 (fun x hx => hb.same (hlt x (by simp [hx]))) (fun x hx => hsp x (by simp [hx])), ?_, rfl⟩
    exact trodAll_carried hl hb ts vs ds q (fun t ht => hr t (by simp [ht])) (fun x hx => hlt x (by simp [hx])) (fun x hx => hsp x (by simp [hx])) h2
  | [], _ :: _, _, _, _, _, _, h => h.elim
  | [], [], _ :: _, _, _, _, _, h => h.elim
  | _ :: _, [], _, _, _, _, _, h => h.elim
  | _ :: _, _ :: _, [], _, _, _, _, h => h.elim

/-- The row's last step for a law. -/
theorem law_post {f : Func} {s : ChangeSpec} {W W' : World} {args : Array Value} {ds gs : List (DataW H)} {before : List MemPlace} {tb : TypeId} (hl : laidOutB P = true)
    (hvars : s.vars = []) (hr : ∀ t ∈ f.params.toList, P.readableRec t = true ∧ t < P.types.size) (htb : f.resultTypes = #[tb]) (hub : P.underlying tb = some .bool)
    (hfn : s.fn H (ds ++ gs) = { results := [.lit (.bool true)], args := ds }) (hW : DataW.Whole enc P f.params.toList s.vars false W args.toList ds gs before) (hb : Below W.heap.size W W') :
    s.post enc P f false true false false W args (.bool true) W' := by
  have hlt : ∀ x ∈ before, x.block < W.heap.size := fun x hx => hW.lt x hx
  have hW0 := hW
  obtain ⟨p, q, hA, hV, rfl, hz, hn⟩ := hW
  have hgs : gs = [] ∧ q = [] := by rw [hvars] at hV; cases gs with
    | nil => exact ⟨rfl, hV⟩
    | cons _ _ => exact hV.elim
  obtain ⟨rfl, rfl⟩ := hgs
  simp only [List.append_nil] at *
  refine ⟨ds, [], p, [], p, [], hW0, ?_, ?_, ?_, World.keptBut_mono (fun x hx => ⟨hx, .inr (.inl hx)⟩) (hb.frame (· ∈ p)), fun h => by cases h⟩
  · rw [htb, List.append_nil, hfn]
    exact ⟨[], [], shut_bool hub true, rfl, rfl⟩
  · rw [List.append_nil, hfn]
    exact trodAll_carried hl hb _ _ _ _ hr hlt (fun x hx => by simpa using hlt x hx) hA
  · rw [List.append_nil, hfn, hvars]
    rfl
end

theorem law_own : ownKnob Try.prog.godebug = none := by kernel_rfl
theorem law_laid : laidOutB Try.prog = true := by kernel_rfl

/-- An array of integers as an argument: its cells, each in its kind. -/
theorem open_int_array {H : Type} {enc : TypeId × Value → H} {P : Program} {W : World} {base : Nat} {t e : TypeId} {n : Nat} {k : IntKind} {v : Value} {d : DataW H} {ps : List MemPlace}
    (ht : P.underlying t = some (.array n e)) (he : P.underlying e = some (.int k)) (hc : P.cellsOf e = 1) (hct : P.cellsOf t = n)
    (hval : Value.okWide P W .any base t v) (hd : DataW.Trod enc P W 0 (fun _ => true) true t v d ps) :
    ∃ zs : List Int, zs.length = n ∧ v = .agg (zs.map (Value.int k)).toArray ∧ ∀ z ∈ zs, (Lit.int k z).wf = true := by
  unfold Value.okWide at hval
  simp only [ht] at hval
  obtain ⟨cs, rfl, hsz, _⟩ := hval
  obtain ⟨fuel, hf⟩ := hd
  obtain ⟨xs, m, rfl, hx, hlen, hxs, hel⟩ := DataW.trod_array ht hf
  have hcs : cs.toList.length = n := by simpa [Value.cells, hct] using hlen
  have key : ∀ i (hi : i < n), ∃ z, cs.toList[i]'(by omega) = .int k z ∧ (Lit.int k z).wf = true := by
    intro i hi
    have h1 := hel i hi
    rw [hc] at h1
    have h2 : (((Value.agg cs).cells.toList.drop (i * 1)).take 1) = [cs.toList[i]'(by omega)] := by
      simp only [Value.cells, Nat.mul_one]
      rw [List.drop_eq_getElem_cons (by omega)]; rfl
    rw [h2] at h1
    cases m with
    | zero => simp [DataW.trod] at h1; omega
    | succ m =>
      rw [List.getElem?_eq_getElem (by omega)] at h1
      unfold DataW.trod at h1
      rw [he] at h1
      generalize cs.toList[i]'(by omega) = c at *
      cases c <;> simp at h1
      rename_i k' z
      obtain ⟨⟨rfl, hw⟩, _⟩ := h1
      exact ⟨z, rfl, hw⟩
  have : ∀ m, m ≤ n → ∃ zs : List Int, zs.length = m ∧ cs.toList.take m = zs.map (Value.int k) ∧ ∀ z ∈ zs, (Lit.int k z).wf = true := by
    intro m
    induction m with
    | zero => intro _; exact ⟨[], rfl, by simp, by simp⟩
    | succ m ih =>
      intro hm
      obtain ⟨zs, h1, h2, h3⟩ := ih (by omega)
      obtain ⟨z, h4, h5⟩ := key m (by omega)
      refine ⟨zs ++ [z], by simp [h1], ?_, ?_⟩
      · rw [List.take_add_one, h2, List.getElem?_eq_getElem (by omega), h4]; simp
      · intro y hy
        rcases List.mem_append.1 hy with h | h
        · exact h3 y h
        · simp at h; subst h; exact h5
  obtain ⟨zs, h1, h2, h3⟩ := this n (Nat.le_refl _)
  refine ⟨zs, h1, ?_, h3⟩
  rw [List.take_of_length_le (by omega)] at h2
  rw [← h2]

theorem wf_i64 {n : Int} (h : (Lit.int .i64 n).wf = true) : -9223372036854775808 ≤ n ∧ n ≤ 9223372036854775807 := by
  simpa [Lit.wf, IntKind.min, IntKind.max, IntKind.signed, IntKind.bits] using h
theorem list5 {α : Type} {l : List α} (h : l.length = 5) : ∃ a b c d e, l = [a, b, c, d, e] := by
  match l, h with
  | [a, b, c, d, e], _ => exact ⟨a, b, c, d, e, rfl⟩
theorem list4 {α : Type} {l : List α} (h : l.length = 4) : ∃ a b c d, l = [a, b, c, d] := by
  match l, h with
  | [a, b, c, d], _ => exact ⟨a, b, c, d, rfl⟩
theorem list3 {α : Type} {l : List α} (h : l.length = 3) : ∃ a b c, l = [a, b, c] := by
  match l, h with
  | [a, b, c], _ => exact ⟨a, b, c, rfl⟩
theorem list2 {α : Type} {l : List α} (h : l.length = 2) : ∃ a b, l = [a, b] := by
  match l, h with
  | [a, b], _ => exact ⟨a, b, rfl⟩

end Go.Proofs.Ytjekdeikoebmgaa

namespace Go.Proofs.Ytjekdeikoebmgaa
open Go.RowKit Go.Shelf

/-- The block that a slice leads to. -/
def blkOf : Value → Option Nat
  | .slice (some a) _ _ => some a.block
  | _ => none
/-- Block g, from base on, holds these cells, has room for cap elements of sz cells, and may be written. -/
structure VRow (w : World) (base g cap sz : Nat) (cs : List Value) : Prop where
  base : base ≤ g
  lt : g < w.heap.size
  room : cs.length ≤ cap * sz
  some_ : ∀ j, j < cap * sz → (w.cell? ⟨g, j, none⟩).isSome = true
  free : ∀ j, j < cap * sz → w.frozen? ⟨g, j, none⟩ = false
  cells : w.rangeAt g 0 cs
theorem VRow.keep {w w' : World} {base g cap sz : Nat} {cs : List Value} (h : VRow w base g cap sz cs) (hs : w.heap.size ≤ w'.heap.size) (hg : w'.heap[g]? = w.heap[g]?) : VRow w' base g cap sz cs := by
  have h1 : ∀ j, w'.cell? ⟨g, j, none⟩ = w.cell? ⟨g, j, none⟩ := fun j => World.cell?_of_block (w := w) (a := ⟨g, j, none⟩) hg
  have h2 : ∀ j, w'.frozen? ⟨g, j, none⟩ = w.frozen? ⟨g, j, none⟩ := fun j => World.frozen?_of_block (w := w) (a := ⟨g, j, none⟩) hg
  exact ⟨h.base, Nat.lt_of_lt_of_le h.lt hs, h.room, fun j hj => by rw [h1]; exact h.some_ j hj, fun j hj => by rw [h2]; exact h.free j hj, fun j v hv => by rw [h1]; exact h.cells j v hv⟩
theorem VRow.below {w w' : World} {base g cap sz : Nat} {cs : List Value} (h : VRow w base g cap sz cs) (hb : Below w.heap.size w w') : VRow w' base g cap sz cs := h.keep hb.size (hb.block g h.lt)
/-- A slice of the call's own (nil at first): n elements, their cells. -/
def OwnV (w : World) (base sz : Nat) (v : Value) (n : Nat) (cs : List Value) : Prop :=
  (v = .slice none 0 0 ∧ n = 0 ∧ cs = []) ∨ ∃ g cap, v = .slice (some ⟨g, 0, none⟩) n cap ∧ cs.length = n * sz ∧ n ≤ cap ∧ VRow w base g cap sz cs
theorem OwnV.nil (w : World) (base sz : Nat) : OwnV w base sz (.slice none 0 0) 0 [] := .inl ⟨rfl, rfl, rfl⟩
theorem OwnV.keep {w w' : World} {base sz n : Nat} {v : Value} {cs : List Value} (h : OwnV w base sz v n cs) (hs : w.heap.size ≤ w'.heap.size) (hg : ∀ g, blkOf v = some g → g < w.heap.size → w'.heap[g]? = w.heap[g]?) : OwnV w' base sz v n cs := by
  rcases h with h | ⟨g, cap, rfl, h1, h2, h3⟩
  · exact .inl h
  · exact .inr ⟨g, cap, rfl, h1, h2, h3.keep hs (hg g rfl h3.lt)⟩
theorem OwnV.below {w w' : World} {base sz n : Nat} {v : Value} {cs : List Value} (h : OwnV w base sz v n cs) (hb : Below w.heap.size w w') : OwnV w' base sz v n cs := h.keep hb.size (fun g _ hg => hb.block g hg)
theorem OwnV.len {w : World} {base sz n : Nat} {v : Value} {cs : List Value} (h : OwnV w base sz v n cs) : cs.length = n * sz := by
  rcases h with ⟨_, rfl, rfl⟩ | ⟨g, cap, _, h1, _⟩
  · simp
  · exact h1
/-- Other blocks than the row's own lie as they lay. -/
theorem grownBy_refl_row {w w' : World} {row : Option Nat} (h : Below w.heap.size w w') : w.grownBy w' row := ⟨h.os, h.tape, h.output, h.size, fun i hi _ => h.block i hi⟩
theorem below_of_grown {B : Nat} {a b c : World} {row : Option Nat} (h : Below B a b) (k : b.grownBy c row) (hB : B ≤ b.heap.size) (hg : ∀ g, row = some g → B ≤ g) : Below B a c :=
  ⟨k.os.trans h.os, k.tape.trans h.tape, k.output.trans h.output, Nat.le_trans h.size k.size, fun i hi => (k.block i (by omega) (fun e => by have := hg i e.symm; omega)).trans (h.block i hi)⟩
theorem OwnV.blk {w : World} {base sz n : Nat} {v : Value} {cs : List Value} (h : OwnV w base sz v n cs) : ∀ g, blkOf v = some g → base ≤ g := by
  rcases h with ⟨rfl, _⟩ | ⟨g, cap, rfl, _, _, h3⟩
  · intro g hg; cases hg
  · intro g' hg; cases hg; exact h3.base
/-- append to a row of the call's own. -/
theorem run_append_own {P : Program} (w : World) (t tx ty e : TypeId) (i : TypeInfo) (z : Value) (sz base n m : Nat) (v x : Value) (cs news : List Value) (hu : P.underlying t = some (.slice e)) (hi : P.info? e = some i) (hz : i.zero = some z) (hsz : i.size = sz)
    (hzs : z.cells.size = sz) (h : OwnV w base sz v n cs) (hb : base ≤ w.heap.size) (hs : Src P i.size tx x m news w) (hm : 1 ≤ m) (hnl : news.length = m * sz) (hbytes : (n + m) * i.bytes ≤ 140737488355328) (h63 : n + m ≤ 9223372036854775807) :
    ∃ v' w', (Builtin.append_ #[t, tx] ty #[v, x]).run P w = .ok v' w' ∧ OwnV w' base sz v' (n + m) (cs ++ news) ∧ w.grownBy w' (blkOf v) ∧ (blkOf v' = blkOf v ∨ ∃ g, blkOf v' = some g ∧ w.heap.size ≤ g) := by
  have grow : ∀ (a : Option Addr) (cap : Nat) (_ : v = .slice a n cap) (_ : cs.length = n * sz), (Builtin.firstCells i.size n (.slice a n cap)).run P w.drew = .ok cs.toArray w.drew → cap < n + m →
      ∃ v' w', (Builtin.append_ #[t, tx] ty #[v, x]).run P w = .ok v' w' ∧ OwnV w' base sz v' (n + m) (cs ++ news) ∧ w.grownBy w' (blkOf v) ∧ (blkOf v' = blkOf v ∨ ∃ g, blkOf v' = some g ∧ w.heap.size ≤ g) := by
    intro a cap hv hcl hold hlt
    subst hv
    have hr := run_append_grow_src w t tx ty e i z hu hi hz a n cap cs hold x m news hs hlt (by omega) (growslice_fits hlt hbytes)
    have hcap := grownCap_ge w (n + m) cap e
    generalize grownCap w (n + m) cap e = c at *
    have hN := Blk.new w.drew ((cs ++ news).toArray ++ Builtin.zeroCells z.cells (c - (n + m))) e
    have hsize : ((cs ++ news).toArray ++ Builtin.zeroCells z.cells (c - (n + m))).size = c * sz := by
      have h1 : (Builtin.zeroCells z.cells (c - (n + m))).size = (c - (n + m)) * sz := by unfold Builtin.zeroCells; simp [hzs]
      rw [Array.size_append, h1]
      simp [hcl, hnl]
      rw [← Nat.add_mul, ← Nat.add_mul, Nat.add_sub_cancel' hcap]
    refine ⟨_, _, hr, .inr ⟨_, _, rfl, by rw [List.length_append, hcl, hnl, ← Nat.add_mul], hcap, ⟨hb, by simp, ?_, fun j hj => ?_, fun j _ => hN.frozen j, fun j u hu => ?_⟩⟩, ⟨rfl, rfl, rfl, by simp, fun k hk _ => Below.heap_alloc w.drew _ k hk⟩, .inr ⟨_, rfl, Nat.le_refl _⟩⟩
    · rw [List.length_append, hcl, hnl, ← Nat.add_mul]; exact Nat.mul_le_mul_right _ hcap
    · have := hN.cell j _ (Array.getElem?_eq_getElem (by rw [hsize]; exact hj))
      rw [show w.heap.size = w.drew.heap.size from rfl, this]; rfl
    · have hj : j < (cs ++ news).length := (List.getElem?_eq_some_iff.1 hu).1
      have e1 : ((cs ++ news).toArray ++ Builtin.zeroCells z.cells (c - (n + m)))[j]? = some u := by
        rw [Array.getElem?_append_left (by simpa using hj)]
        simpa using hu
      have := hN.cell j u e1
      rw [Nat.zero_add]
      exact this
  rcases h with ⟨rfl, rfl, rfl⟩ | ⟨g, cap, rfl, hcl, hnc, hr⟩
  · exact grow none 0 rfl (by simp) (by simpa using run_firstCells_none w.drew i.size 0 0 0) (by omega)
  · by_cases hroom : n + m ≤ cap
    · have hin : ∀ j, j < news.length → n * sz + j < cap * sz := fun j hj => by
        have : (n + m) * sz ≤ cap * sz := Nat.mul_le_mul_right _ hroom
        rw [Nat.add_mul] at this
        omega
      have h1 := run_append_room_src w t tx ty e i hu hi g 0 n cap x m news hs hroom (fun j hj => by rw [hsz, Nat.zero_add]; exact hr.some_ _ (hin j hj)) (fun j hj => by rw [hsz, Nat.zero_add]; exact hr.free _ (hin j hj))
      rw [hsz, Nat.zero_add] at h1
      have hset : ∀ (vs : List Value) (o : Nat) (a : World), w.grownBy a (some g) → w.grownBy (a.setCells g o vs) (some g) := by
        intro vs
        induction vs with
        | nil => intro o a ha; exact ha
        | cons u r ih => intro o a ha; exact ih (o + 1) _ (grown_set ha o u)
      have hgr := hset news (n * sz) w (World.grownBy.refl w _)
      have hszz : (w.setCells g (n * sz) news).heap.size = w.heap.size := by
        have : ∀ (vs : List Value) (o : Nat) (a : World), (a.setCells g o vs).heap.size = a.heap.size := by
          intro vs
          induction vs with
          | nil => intro o a; rfl
          | cons u r ih => intro o a; show ((a.setCell ⟨g, o, none⟩ u).setCells g (o + 1) r).heap.size = _; rw [ih]; simp [World.setCell]
        exact this _ _ _
      refine ⟨_, _, h1, .inr ⟨g, cap, rfl, by rw [List.length_append, hcl, hnl, ← Nat.add_mul], hroom, ⟨hr.base, by rw [hszz]; exact hr.lt, ?_, fun j hj => World.isSome_setCells g _ _ _ _ (hr.some_ j hj), fun j hj => by rw [World.frozen?_setCells]; exact hr.free j hj, fun j u hu => ?_⟩⟩, hgr, .inl rfl⟩
      · rw [List.length_append, hcl, hnl, ← Nat.add_mul]; exact Nat.mul_le_mul_right _ hroom
      · by_cases hj : j < cs.length
        · rw [List.getElem?_append_left hj] at hu
          rw [World.cell?_setCells_out g _ _ _ _ (fun _ _ => .inl (by simp; omega))]
          exact hr.cells j u hu
        · rw [List.getElem?_append_right (by omega)] at hu
          have hj2 : j - cs.length < news.length := (List.getElem?_eq_some_iff.1 hu).1
          have h2 := World.cell?_setCells_in g news (n * sz) w (fun j hj => hr.some_ _ (hin j hj)) (j - cs.length) hj2
          rw [show n * sz + (j - cs.length) = 0 + j by omega] at h2
          rw [h2, ← hu]
          simp [hj2]
    · have hold : (Builtin.firstCells i.size n (.slice (some ⟨g, 0, none⟩) n cap)).run P w.drew = .ok cs.toArray w.drew :=
        run_firstCells_some w.drew i.size n ⟨g, 0, none⟩ n cap cs (by rw [hsz]; exact hcl) (fun j u hu => by
          rw [Addr.add_lit]
          exact hr.cells j u hu)
      exact grow _ cap rfl hcl hold (by omega)
end Go.Proofs.Ytjekdeikoebmgaa

namespace Go.Proofs.Ytjekdeikoebmgaa
open Go.RowKit Go.Shelf

theorem fold_set (off : Nat) : ∀ (R : List Value) (s : Nat) (cs : Array Value), ((R.zipIdx s).foldl (fun (cs : Array Value) p => cs.setIfInBounds (off + p.2) p.1) cs).size = cs.size ∧
    ∀ k, off + s + R.length ≤ cs.size → ((R.zipIdx s).foldl (fun (cs : Array Value) p => cs.setIfInBounds (off + p.2) p.1) cs)[k]? = if off + s ≤ k ∧ k < off + s + R.length then R[k - (off + s)]? else cs[k]?
  | [], s, cs => ⟨rfl, fun k _ => by
    rw [if_neg (by simp)]; rfl⟩
  | r :: R, s, cs => by
    obtain ⟨h1, h2⟩ := fold_set off R (s + 1) (cs.setIfInBounds (off + s) r)
    simp only [List.zipIdx_cons, List.foldl_cons]
    refine ⟨by rw [h1]; simp, fun k hk => ?_⟩
    simp only [List.length_cons] at hk
    rw [h2 k (by rw [Array.size_setIfInBounds]; omega)]
    by_cases hks : k = off + s
    · subst hks
      rw [if_neg (by omega), if_pos (by simp), Nat.sub_self, Array.getElem?_setIfInBounds, if_pos rfl, if_pos (by omega)]; rfl
    · by_cases hin : off + s ≤ k ∧ k < off + s + (r :: R).length
      · rw [if_pos hin, if_pos (by simp at hin; omega)]
        obtain ⟨d, hd⟩ : ∃ d, k - (off + s) = d + 1 := ⟨k - (off + s) - 1, by omega⟩
        rw [hd, List.getElem?_cons_succ]
        congr 1
        omega
      · rw [if_neg hin, if_neg (by simp at hin ⊢; omega), Array.getElem?_setIfInBounds, if_neg (by omega)]
/-- Parts of one width, each at its place. -/
theorem fill_rows (sz : Nat) : ∀ (Rs : List (Array Value)) (s : Nat) (cells : Array Value), (∀ R ∈ Rs, R.size = sz) → (s + Rs.length) * sz ≤ cells.size →
    ∃ out, Instr.fill (fun i => some (i * sz, sz)) cells ((Rs.zipIdx s).map fun p => (p.2, Value.agg p.1)) = some out ∧ out.size = cells.size ∧
      ∀ k, out[k]? = if s * sz ≤ k ∧ k < (s + Rs.length) * sz then (Rs.flatMap (·.toList))[k - s * sz]? else cells[k]?
  | [], s, cells, _, _ => ⟨cells, rfl, rfl, fun k => by rw [if_neg (by simp)]⟩
  | R :: Rs, s, cells, hall, hc => by
    have hR := hall R (by simp)
    have hm : (s + (R :: Rs).length) * sz = s * sz + sz + Rs.length * sz := by simp [Nat.add_mul]; omega
    rw [hm] at hc
    obtain ⟨f1, f2⟩ := fold_set (s * sz) R.toList 0 cells
    have e : R.zipIdx.foldl (fun cs (c, j) => cs.setIfInBounds (s * sz + j) c) cells = (R.toList.zipIdx 0).foldl (fun (cs : Array Value) p => cs.setIfInBounds (s * sz + p.2) p.1) cells := by
      rw [← Array.foldl_toList, Array.toList_zipIdx]
    obtain ⟨out, h1, h2, h3⟩ := fill_rows sz Rs (s + 1) ((R.toList.zipIdx 0).foldl (fun (cs : Array Value) p => cs.setIfInBounds (s * sz + p.2) p.1) cells) (fun R' h => hall R' (by simp [h])) (by rw [f1]; simp [Nat.add_mul]; omega)
    refine ⟨out, ?_, by rw [h2, f1], fun k => ?_⟩
    · rw [List.zipIdx_cons, List.map_cons, Instr.fill]
      have hsz : (Value.agg R).cells.size = sz := hR
      have hcond : ¬ ((Value.agg R).cells.size ≠ sz ∨ s * sz + (Value.agg R).cells.size > cells.size) := by rw [hsz]; omega
      simp only [hsz, ne_eq, not_true_eq_false, gt_iff_lt, Bool.or_eq_true, decide_eq_true_eq, false_or]
      rw [if_neg (by omega)]
      show Instr.fill _ (R.zipIdx.foldl (fun cs (c, j) => cs.setIfInBounds (s * sz + j) c) cells) _ = _
      rw [e]
      exact h1
    · rw [h3 k]
      have hf := f2 k (by simp [hR]; omega)
      rw [List.flatMap_cons, hm]
      have hm2 : (s + 1 + Rs.length) * sz = s * sz + sz + Rs.length * sz := by simp [Nat.add_mul]
      have hm3 : (s + 1) * sz = s * sz + sz := by simp [Nat.add_mul]
      rw [hm2, hm3]
      by_cases c1 : s * sz ≤ k ∧ k < s * sz + sz
      · rw [if_neg (by omega), if_pos (by omega), hf, if_pos (by simp [hR]; omega), List.getElem?_append_left (by simp [hR]; omega)]
        simp
      · by_cases c2 : s * sz + sz ≤ k ∧ k < s * sz + sz + Rs.length * sz
        · rw [if_pos c2, if_pos (by omega), List.getElem?_append_right (by simp [hR]; omega)]
          congr 1
          simp [hR]; omega
        · rw [if_neg c2, if_neg (by omega), hf, if_neg (by simp [hR]; omega)]
/-- A slice literal whose run is known. -/
theorem wpList_build_run {P : Program} {ops : Array Oper} {rest : List Oper} {o : Oper} {a : Act} {w : World} {Q : Exit → Act → World → Prop} (hgd : o.guard = none) (t : TypeId) (len : Nat) (parts : Array (Nat × Operand)) (ho : o.op = .buildSlice t len parts)
    (vals : Array (Nat × Value)) (hp : (parts.toList.map fun (p : Nat × Operand) => (p.1, a.eval p.2)) = vals.toList) (v : Value) (w' : World) (hr : (Instr.buildSlice t len vals).run P w = .ok v w') (h : wpList P ops Q rest (a.put o.dst v) w') : wpList P ops Q (o :: rest) a w := by
  have hp2 : (parts.map fun (i, x) => (i, a.eval x)) = vals := by
    apply Array.toList_inj.1
    rw [Array.toList_map]; exact hp
  refine wpList_plain hgd fun K hK => ?_
  unfold Oper.wp execOp
  simp only [ho, hp2, hr, Sem.run_bind, Result.andThen_ok]
  exact hK _ _ h
/-- A slice of such parts. -/
theorem run_buildRows {P : Program} (w : World) (t e : TypeId) (len sz : Nat) (Rs : List (Array Value)) (ie : TypeInfo) (z : Value) (hu : P.underlying t = some (.slice e)) (hie : P.info? e = some ie) (hz : ie.zero = some z) (hsz : ie.size = sz)
    (hlen : Rs.length = len) (hall : ∀ R ∈ Rs, R.size = sz) (hsmall : ¬ len * sz > 2 ^ 24) (hpos : ¬ len * sz = 0) (parts : Array (Nat × Value)) (hp : parts.toList = (Rs.zipIdx 0).map fun p => (p.2, Value.agg p.1)) :
    (Instr.buildSlice t len parts).run P w = .ok (.slice (some ⟨w.heap.size, 0, none⟩) len len) (w.alloc (.cells (Rs.flatMap (·.toList)).toArray e)) := by
  subst hsz
  refine run_buildSlice w t e len parts _ ie z hu hie hz hsmall hpos ?_
  rw [hp]
  obtain ⟨out, h1, h2, h3⟩ := fill_rows ie.size Rs 0 ((Array.range (len * ie.size)).map (z.cells[· % z.cells.size]!)) hall (by simp [hlen])
  rw [h1]
  congr 1
  have hfl : (Rs.flatMap (·.toList)).length = len * ie.size := by
    rw [← hlen]
    clear h1 h3 hp hlen hsmall hpos
    induction Rs with
    | nil => simp
    | cons R Rs ih => rw [List.flatMap_cons, List.length_append, ih (fun R' h => hall R' (by simp [h]))]; simp [hall R (by simp), Nat.add_mul]; omega
  apply Array.ext_getElem?
  intro k
  rw [h3 k]
  by_cases hk : k < len * ie.size
  · rw [if_pos (by simp [hlen]; omega)]
    simp
  · rw [if_neg (by simp [hlen]; omega)]
    rw [Array.getElem?_eq_none (by simp; omega), Array.getElem?_eq_none (by simp [hfl]; omega)]
end Go.Proofs.Ytjekdeikoebmgaa

namespace Go.Proofs.Ytjekdeikoebmgaa
open Go.RowKit Go.Shelf

theorem wpOp_load {P : Program} {ops : Array Oper} {Q : Exit → Act → World → Prop} {K : Act → World → Prop} {i : Nat} {o : Oper} {a : Act} {w : World} (ho : ops[i]? = some o) (hg : o.guard = none) (ty : TypeId) (x : Operand) (hop : o.op = .load ty x)
    (p : Addr) (R : Value) (hx : a.eval x = .pointer (some p)) (hl : (loadVar ty p).run P w = .ok R w) (h : K (a.put o.dst R) w) : wpOp P ops Q i K a w := by
  unfold wpOp
  simp only [ho]
  rw [if_pos (by simp [Region.wanted, hg])]
  refine .inl ?_
  unfold Oper.wp execOp
  simp only [hop, hx, Instr.loadAt, Instr.sureAddr, Sem.run_bind, Sem.run_pure, Result.andThen_ok, hl]
  exact h
theorem wpOp_store {P : Program} {ops : Array Oper} {Q : Exit → Act → World → Prop} {K : Act → World → Prop} {i : Nat} {o : Oper} {a : Act} {w w' : World} (ho : ops[i]? = some o) (hg : o.guard = none) (ty : TypeId) (x y : Operand) (hop : o.op = .store ty x y)
    (b off : Nat) (cells : Array Value) (hx : a.eval x = .pointer (some ⟨b, off, none⟩)) (hy : a.eval y = .agg cells) (hs : (Instr.storeAt ty (.pointer (some ⟨b, off, none⟩)) (.agg cells)).run P w = .ok () w') (h : K (a.put o.dst undef) w') : wpOp P ops Q i K a w := by
  unfold wpOp
  simp only [ho]
  rw [if_pos (by simp [Region.wanted, hg])]
  refine .inl ?_
  unfold Oper.wp execOp
  simp only [hop, hx, hy, Sem.run_bind, Sem.run_pure, Result.andThen_ok, hs]
  exact h
theorem yields_move {P : Program} {ops : Array Oper} {o : Oper} {a : Act} {x : Operand} {v : Value} (hop : o.op = .move x) (hg : o.guard = none) (hv : a.eval x = v) : Yields P ops o v a :=
  .inl ⟨by simp [Region.wanted, hg], fun w => by unfold execOp; simp [hop, hv]⟩
theorem yields_index {P : Program} {ops : Array Oper} {o : Oper} {a : Act} {t : TypeId} {x y : Operand} {u i v : Value} (hop : o.op = .indexAddr t x y) (hg : o.guard = none) (hx : a.eval x = u) (hy : a.eval y = i) (hr : ∀ w, (Instr.indexAt t u i).run P w = .ok v w) : Yields P ops o v a :=
  .inl ⟨by simp [Region.wanted, hg], fun w => by unfold execOp; simp [hop, hx, hy, hr w]⟩
theorem takeL {P : Program} {md : Region.Mode} {Q : Exit → Act → World → Prop} {l : List Oper} (fuel i : Nat) {oi : Oper} (v : Value) {listed : Array Bool} {a : Act} {w : World} (hi : l[i]? = some oi)
    (hs : Region.noSelect l.toArray = true) (hf : Region.free md l.toArray listed i = true) (hr : (Region.ready md l.toArray listed).contains i = true)
    (hQ : ∀ c a w, Q (.panic c) (a.put oi.dst v) w → Q (.panic c) a w) (hy : Yields P l.toArray oi v a)
    (h : wpAny P md l.toArray Q fuel (listed.setIfInBounds i true) (a.put oi.dst v) w) : wpAny P md l.toArray Q (fuel + 1) listed a w :=
  wpAny_take (by simpa using hi) hs hf hr hQ hy h
theorem loadL {P : Program} {l : List Oper} {Q : Exit → Act → World → Prop} {K : Act → World → Prop} {i : Nat} {o : Oper} {a : Act} {w : World} (ho : l[i]? = some o) (hg : o.guard = none) (ty : TypeId) (x : Operand) (hop : o.op = .load ty x)
    (p : Addr) (R : Value) (hx : a.eval x = .pointer (some p)) (hl : (loadVar ty p).run P w = .ok R w) (h : K (a.put o.dst R) w) : wpOp P l.toArray Q i K a w :=
  wpOp_load (by simpa using ho) hg ty x hop p R hx hl h
theorem storeL {P : Program} {l : List Oper} {Q : Exit → Act → World → Prop} {K : Act → World → Prop} {i : Nat} {o : Oper} {a : Act} {w w' : World} (ho : l[i]? = some o) (hg : o.guard = none) (ty : TypeId) (x y : Operand) (hop : o.op = .store ty x y)
    (b off : Nat) (cells : Array Value) (hx : a.eval x = .pointer (some ⟨b, off, none⟩)) (hy : a.eval y = .agg cells) (hs : (Instr.storeAt ty (.pointer (some ⟨b, off, none⟩)) (.agg cells)).run P w = .ok () w') (h : K (a.put o.dst undef) w') : wpOp P l.toArray Q i K a w :=
  wpOp_store (by simpa using ho) hg ty x y hop b off cells hx hy hs h
/-- A call of a Go function. -/
theorem callL {P : Program} {l : List Oper} {Q : Exit → Act → World → Prop} {K : Act → World → Prop} {i : Nat} {o : Oper} {a : Act} {w : World} (ho : l[i]? = some o) (hg : o.guard = none) (h : o.wp P a w K Q) : wpOp P l.toArray Q i K a w := by
  unfold wpOp
  simp only [List.getElem?_toArray, ho]
  rw [if_pos (by simp [Region.wanted, hg])]
  exact .inl h
theorem buildL {P : Program} {l : List Oper} {Q : Exit → Act → World → Prop} {K : Act → World → Prop} {i : Nat} {o : Oper} {a : Act} {w w' : World} (ho : l[i]? = some o) (hg : o.guard = none) (t : TypeId) (len : Nat) (parts : Array (Nat × Operand)) (hop : o.op = .buildSlice t len parts)
    (vals : Array (Nat × Value)) (hp : (parts.toList.map fun (p : Nat × Operand) => (p.1, a.eval p.2)) = vals.toList) (v : Value) (hr : (Instr.buildSlice t len vals).run P w = .ok v w') (h : K (a.put o.dst v) w') : wpOp P l.toArray Q i K a w := by
  have hp2 : (parts.map fun (i, x) => (i, a.eval x)) = vals := by
    apply Array.toList_inj.1
    rw [Array.toList_map]; exact hp
  refine callL ho hg ?_
  unfold Oper.wp execOp
  simp only [hop, hp2, hr, Sem.run_bind, Result.andThen_ok]
  exact h
theorem appendL {P : Program} {l : List Oper} {Q : Exit → Act → World → Prop} {K : Act → World → Prop} {i : Nat} {o : Oper} {a : Act} {w w' : World} (ho : l[i]? = some o) (hg : o.guard = none) (s x : Operand) (t tx : TypeId) (hop : o.op = .call { callee := .builtin .append, args := #[s, x], argTypes := #[t, tx] })
    (v u : Value) (hs : a.eval s = v) (hx : a.eval x = u) (r : Value) (hr : (Builtin.append_ #[t, tx] o.type #[v, u]).run P w = .ok r w') (h : K (a.put o.dst r) w') : wpOp P l.toArray Q i K a w := by
  refine callL ho hg ?_
  unfold Oper.wp execOp
  simp only [hop, resolve, invoke, builtin, Sem.run_bind, Sem.run_pure, Result.andThen_ok, List.map_toArray, List.map_cons, List.map_nil, hs, hx, hr]
  exact h
theorem put_none (a : Act) (v : Value) : a.put none v = a := rfl
end Go.Proofs.Ytjekdeikoebmgaa

namespace Go.Proofs.Ytjekdeikoebmgaa
open Go.RowKit Go.Shelf

namespace QT
section
variable {P : Program} {md : Region.Mode} {C : World → Prop} {Q : Exit → Act → World → Prop}

/-- What these wait for, some steps far. -/
def reach (md : Region.Mode) (l : List Oper) : Nat → List Nat → List Nat
  | 0, D => D
  | f + 1, D => reach md l f (D ++ D.flatMap fun i => match l[i]? with | some o => o.after.toList.filterMap fun e => if Region.binds md e && decide (e.on < l.length) then some e.on else none | none => [])
theorem reach_listed {l : List Oper} {L : Array Bool} (hcl : ∀ j o, j < l.length → l.toArray[j]? = some o → L.getD j false = true → ∀ e ∈ o.after, Region.binds md e = true → L.getD e.on false = true) :
    ∀ (f : Nat) (D : List Nat), (∀ x ∈ D, x < l.length ∧ L.getD x false = true) → ∀ x ∈ reach md l f D, x < l.length ∧ L.getD x false = true := by
  intro f
  induction f with
  | zero => intro D h x hx; exact h x hx
  | succ f ih =>
    intro D h
    refine ih _ fun x hx => ?_
    rcases List.mem_append.1 hx with hx | hx
    · exact h x hx
    · obtain ⟨i, hi, hx⟩ := List.mem_flatMap.1 hx
      obtain ⟨h1, h2⟩ := h i hi
      rw [List.getElem?_eq_getElem h1] at hx
      obtain ⟨e, he, hx⟩ := List.mem_filterMap.1 hx
      split at hx
      · rename_i hc
        simp only [Bool.and_eq_true, decide_eq_true_eq] at hc
        injection hx with hx
        subst hx
        exact ⟨hc.2, hcl i l[i] h1 (by simp [h1]) h2 e (by simpa using he) hc.1⟩
      · cases hx
/-- The head's edges point backwards, its guards lie in the head; what stands behind the head waits for all of it, be it through others. -/
def tailB2 (md : Region.Mode) (l1 l2 : List Oper) : Bool :=
  ((List.range l1.length).all fun j => match l1[j]? with
    | some o => (o.after.all fun e => !Region.binds md e || decide (e.on < j)) && (match o.guard with | some (k, _) => decide (k < l1.length) | none => true)
    | none => true) &&
  (l2.all fun o => ((List.range l1.length).all fun i => (reach md l1 l1.length (o.after.toList.filterMap fun e => if Region.binds md e && decide (e.on < l1.length) then some e.on else none)).contains i) || (o.after.any fun e => Region.binds md e && decide (l1.length ≤ e.on) && decide (e.on < l1.length + l2.length)))
theorem closed_set {l : List Oper} {L : Array Bool} {i : Nat} (hcl : ∀ j o, j < l.length → l.toArray[j]? = some o → L.getD j false = true → ∀ e ∈ o.after, Region.binds md e = true → L.getD e.on false = true) (hr : i ∈ Region.ready md l.toArray L) :
    ∀ j o, j < l.length → l.toArray[j]? = some o → (L.setIfInBounds i true).getD j false = true → ∀ e ∈ o.after, Region.binds md e = true → (L.setIfInBounds i true).getD e.on false = true := by
  intro j o hj ho hL e he hb
  have up : ∀ k, L.getD k false = true → (L.setIfInBounds i true).getD k false = true := fun k hk => by
    simp only [Array.getD_eq_getD_getElem?, Array.getElem?_setIfInBounds] at hk ⊢
    by_cases hik : i = k
    · subst hik
      rw [if_pos rfl]
      by_cases hs : i < L.size
      · rw [if_pos hs]; rfl
      · rw [Array.getElem?_eq_none (by omega)] at hk; cases hk
    · rw [if_neg hik]; exact hk
  by_cases hij : i = j
  · subst hij
    obtain ⟨_, o2, ho2, hall⟩ := mem_ready.1 hr
    rw [ho] at ho2
    injection ho2 with ho2
    subst ho2
    exact up _ (hall e he hb)
  · have h1 : L.getD j false = true := by
      simp only [Array.getD_eq_getD_getElem?, Array.getElem?_setIfInBounds] at hL ⊢
      rw [if_neg hij] at hL
      exact hL
    exact up _ (hcl j o hj ho h1 e he hb)

theorem sim2 {l1 l2 : List Oper} (hT : tailB2 md l1 l2 = true) (hS : Region.seqB md (l1 ++ l2).toArray l2.length l1.length (ext l2.length (Array.replicate l1.length true)) = true) :
    ∀ (f : Nat) (L : Array Bool) (a : Act) (w : World), C w → L.size = l1.length → (∀ j o, j < l1.length → l1.toArray[j]? = some o → L.getD j false = true → ∀ e ∈ o.after, Region.binds md e = true → L.getD e.on false = true) →
      wpAnyQ P md l1.toArray C (fun a' => ∀ w', C w' → wpList P (l1 ++ l2).toArray Q l2 a' w') f L a → wpAny P md (l1 ++ l2).toArray Q (f + l2.length) (ext l2.length L) a w := by
  simp only [tailB2, Bool.and_eq_true, List.all_eq_true, List.mem_range] at hT
  obtain ⟨hT1, hT2⟩ := hT
  -- what the checks say
  have hback : ∀ j o, j < l1.length → l1.toArray[j]? = some o → ∀ e ∈ o.after, Region.binds md e = true → e.on < j := by
    intro j o hj ho e he hb
    have h1 := hT1 j hj
    rw [show l1[j]? = some o by simpa using ho] at h1
    simp only [Bool.and_eq_true] at h1
    have h2 := Array.all_eq_true'.1 h1.1 e he
    simpa [hb] using h2
  have hguard : ∀ j o k b, j < l1.length → l1.toArray[j]? = some o → o.guard = some (k, b) → k < l1.length := by
    intro j o k b hj ho hg
    have h1 := hT1 j hj
    rw [show l1[j]? = some o by simpa using ho] at h1
    simp only [Bool.and_eq_true] at h1
    have h2 := h1.2
    rw [hg] at h2
    simpa using h2
  have hwait : ∀ j o, l1.length ≤ j → (l1 ++ l2).toArray[j]? = some o → (∀ i, i < l1.length → i ∈ reach md l1 l1.length (o.after.toList.filterMap fun e => if Region.binds md e && decide (e.on < l1.length) then some e.on else none)) ∨ ∃ e ∈ o.after, Region.binds md e = true ∧ l1.length ≤ e.on ∧ e.on < l1.length + l2.length := by
    intro j o hj ho
    have h1 : l2[j - l1.length]? = some o := by simpa [List.getElem?_append_right hj] using ho
    have h2 := hT2 o (List.mem_of_getElem? h1)
    rw [Bool.or_eq_true] at h2
    rcases h2 with h2 | h2
    · refine .inl fun i hi => ?_
      have h3 := List.all_eq_true.1 h2 i (List.mem_range.2 hi)
      simpa using h3
    · obtain ⟨e, he, hb⟩ := Array.any_eq_true'.1 h2
      simp only [Bool.and_eq_true, decide_eq_true_eq] at hb
      exact .inr ⟨e, he, hb.1.1, hb.1.2, hb.2⟩
  -- which operations are ready
  have hin : ∀ (L : Array Bool) (i j : Nat), L.size = l1.length → (∀ j o, j < l1.length → l1.toArray[j]? = some o → L.getD j false = true → ∀ e ∈ o.after, Region.binds md e = true → L.getD e.on false = true) → i < l1.length → L.getD i false = false → j ∈ Region.ready md (l1 ++ l2).toArray (ext l2.length L) →
      j < l1.length ∧ j ∈ Region.ready md l1.toArray L := by
    intro L i j hL hcl hi hun hj
    obtain ⟨h0, o, ho, hall⟩ := mem_ready.1 hj
    have hjn : j < l1.length := by
      rcases Nat.lt_or_ge j l1.length with h | h
      · exact h
      · rcases hwait j o h ho with h2 | ⟨e, he, hb, h3, h4⟩
        · have h5 := reach_listed (md := md) hcl l1.length _ (fun x hx => by
            obtain ⟨e, he, hx⟩ := List.mem_filterMap.1 hx
            split at hx
            · rename_i hc
              simp only [Bool.and_eq_true, decide_eq_true_eq] at hc
              injection hx with hx
              subst hx
              have := hall e (by simpa using he) hc.1
              rw [ext_lt _ (by omega)] at this
              exact ⟨hc.2, this⟩
            · cases hx) i (h2 i hi)
          rw [hun] at h5
          cases h5.2
        · have := hall e he hb
          rw [ext_ge (by omega) (by omega)] at this
          cases this
    refine ⟨hjn, mem_ready.2 ⟨by rw [← ext_lt (g := l2.length) _ (by omega)]; exact h0, o, by rw [← getElem_left hjn]; exact ho, fun e he hb => ?_⟩⟩
    have h2 := hback j o hjn (by rw [← getElem_left hjn]; exact ho) e he hb
    rw [← ext_lt (g := l2.length) _ (by omega)]
    exact hall e he hb
  have hmin : ∀ (L : Array Bool), L.size = l1.length → ∀ (m i : Nat), i ≤ m → i < l1.length → L.getD i true = false → ∃ k, k < l1.length ∧ k ∈ Region.ready md (l1 ++ l2).toArray (ext l2.length L) ∧ k ∈ Region.ready md l1.toArray L := by
    intro L hL m
    induction m with
    | zero =>
      intro i him hi hun
      obtain rfl : i = 0 := by omega
      have ho : l1.toArray[0]? = some (l1[0]) := by simp [hi]
      refine ⟨0, hi, mem_ready.2 ⟨by rw [ext_lt _ (by omega)]; exact hun, _, by rw [getElem_left hi]; exact ho, fun e he hb => ?_⟩, mem_ready.2 ⟨hun, _, ho, fun e he hb => ?_⟩⟩
      all_goals exact absurd (hback 0 _ hi ho e he hb) (by omega)
    | succ m ih =>
      intro i him hi hun
      by_cases hex : ∃ k, k < i ∧ L.getD k true = false
      · obtain ⟨k, hk, hkun⟩ := hex
        exact ih k (by omega) (by omega) hkun
      · have ho : l1.toArray[i]? = some (l1[i]) := by simp [hi]
        have hall : ∀ e ∈ (l1[i]).after, Region.binds md e = true → L.getD e.on false = true := by
          intro e he hb
          have h1 := hback i _ hi ho e he hb
          have h2 : L.getD e.on true ≠ false := fun h => hex ⟨e.on, h1, h⟩
          have h3 : e.on < L.size := by omega
          simp [h3] at h2 ⊢
          exact h2
        refine ⟨i, hi, mem_ready.2 ⟨by rw [ext_lt _ (by omega)]; exact hun, _, by rw [getElem_left hi]; exact ho, fun e he hb => ?_⟩, mem_ready.2 ⟨hun, _, ho, hall⟩⟩
        rw [ext_lt _ (by have := hback i _ hi ho e he hb; omega)]
        exact hall e he hb
  have hallTrue : ∀ (L : Array Bool), L.size = l1.length → (¬ ∃ i, i < l1.length ∧ L.getD i true = false) → L = Array.replicate l1.length true := by
    intro L hL hno
    apply Array.ext
    · simp [hL]
    · intro i h1 h2
      have h3 : L.getD i true ≠ false := fun h => hno ⟨i, by omega, h⟩
      simp [h1] at h3
      simpa using h3
  have hend : ∀ (L : Array Bool) (a : Act) (w : World), L.size = l1.length → (¬ ∃ i, i < l1.length ∧ L.getD i true = false) → wpList P (l1 ++ l2).toArray Q l2 a w →
      wpAny P md (l1 ++ l2).toArray Q l2.length (ext l2.length L) a w := by
    intro L a w hL hno h
    rw [hallTrue L hL hno]
    refine wpAny_of_seq l2 l1.length _ a w (fun j => by rw [show (l1 ++ l2).toArray[l1.length + j]? = (l1 ++ l2)[l1.length + j]? by simp only [List.getElem?_toArray], List.getElem?_append_right (by omega), Nat.add_sub_cancel_left]) hS h
  intro f
  induction f with
  | zero =>
    intro L a w hC hL hcl h
    rw [Nat.zero_add]
    refine hend L a w hL (fun ⟨i, hi, hun⟩ => ?_) (h.2 w hC)
    obtain ⟨k, _, _, hk⟩ := hmin L hL i i (Nat.le_refl _) hi hun
    rw [h.1] at hk
    cases hk
  | succ f ih =>
    intro L a w hC hL hcl h
    by_cases hex : ∃ i, i < l1.length ∧ L.getD i true = false
    · obtain ⟨i, hi, hun⟩ := hex
      rw [show f + 1 + l2.length = (f + l2.length) + 1 by omega]
      refine ⟨fun h0 => ?_, fun j hj => ?_⟩
      · obtain ⟨k, _, hk, _⟩ := hmin L hL i i (Nat.le_refl _) hi hun
        rw [h0] at hk
        cases hk
      · have hunf : L.getD i false = false := by
          have : i < L.size := by omega
          simp [this] at hun ⊢
          exact hun
        obtain ⟨hjn, hjr⟩ := hin L i j hL hcl hi hunf hj
        have h1 := h.2 j hjr
        -- the same operation, over the whole region
        have h2 : qOp P (l1 ++ l2).toArray C j (wpAnyQ P md l1.toArray C (fun a' => ∀ w', C w' → wpList P (l1 ++ l2).toArray Q l2 a' w') f (L.setIfInBounds j true)) a := by
          unfold qOp at h1 ⊢
          rw [getElem_left hjn]
          cases ho : l1.toArray[j]? with
          | none => rw [ho] at h1; exact h1
          | some o =>
            rw [ho] at h1
            have hw : Region.wanted o (yielded (l1 ++ l2).toArray a.tmps) = Region.wanted o (yielded l1.toArray a.tmps) := by
              unfold Region.wanted
              cases hg : o.guard with
              | none => rfl
              | some kb =>
                obtain ⟨k, b⟩ := kb
                have hk := hguard j o k b hjn ho hg
                simp only [yielded, getElem_left hk]
            simp only [hw]
            exact h1
        rw [ext_set (by omega)]
        exact wpOp_of_qOp hC (fun a' w' hw' h' => ih (L.setIfInBounds j true) a' w' hw' (by simpa using hL) (closed_set hcl hjr) h') h2
    · have h0 : Region.ready md l1.toArray L = [] := by
        apply List.eq_nil_iff_forall_not_mem.2
        intro j hj
        obtain ⟨h1, o, ho, _⟩ := mem_ready.1 hj
        exact hex ⟨j, by have := (Array.getElem?_eq_some_iff.1 ho).1; simpa using this, h1⟩
      exact wpAny_more (f + 1) l2.length _ a w (hend L a w hL hex (h.1 h0 w hC))

/-- ONE WALK IN THE ORDER OF THE TEXT SERVES EVERY ORDER, for a region whose first operations leave a class of worlds, and whose last ones come in one order behind them. -/
theorem wp_region_tail2 {id : Nat} {a : Act} {w : World} {l : List Oper} (n : Nat) (hm : P.follows .mixedOrders = true) (hB : Region.lexB .any (l.take n).toArray = true) (hT : tailB2 .any (l.take n) (l.drop n) = true)
    (hS : Region.seqB .any (l.take n ++ l.drop n).toArray (l.drop n).length (l.take n).length (ext (l.drop n).length (Array.replicate (l.take n).length true)) = true) (hC : C { w with drawn := w.drawn + 1 })
    (h : wpQuiet P (l.take n).toArray C (fun a' => ∀ w', C w' → wpList P l.toArray Q (l.drop n) a' w') (l.take n) a) : (Code.region id l.toArray true).wp P Q a w := by
  simp only [Region.lexB, Bool.and_eq_true] at hB
  refine wp_region_any hm ?_
  have hh : wpQuiet P (l.take n).toArray C (fun a' => ∀ w', C w' → wpList P (l.take n ++ l.drop n).toArray Q (l.drop n) a' w') (l.take n) a := by
    rw [List.take_append_drop]; exact h
  have h1 := wpAnyQ_lex (C := C) (md := .any) hB.1 (l.take n) 0 (Array.replicate (l.take n).length false) a (by simp) (by simpa using hB.2) hh
  have h2 := sim2 (Q := Q) hT hS (l.take n).length _ a _ hC (by simp) (fun j o _ _ hj => by
    rw [show (Array.replicate (l.take n).length false).getD j false = false by simp only [Array.getD_eq_getD_getElem?, Array.getElem?_replicate]; split <;> rfl] at hj
    cases hj) h1
  rw [List.take_append_drop] at h2
  have e1 : (l.take n).length + (l.drop n).length = l.toArray.size := by
    rw [← List.length_append, List.take_append_drop]; simp
  have e2 : ext (l.drop n).length (Array.replicate (l.take n).length false) = Array.replicate l.toArray.size false := by
    rw [← e1]; simp [ext]
  rw [e1, e2] at h2
  exact h2
end
end QT

/-- The same, at the class 'all that lay in w lies as it lay'. -/
theorem wp_region_after_tail2 {P : Program} {id : Nat} {Q : Exit → Act → World → Prop} {a : Act} {w : World} {l : List Oper} (n : Nat) (hm : P.follows .mixedOrders = true) (hB : Region.lexB .any (l.take n).toArray = true) (hT : QT.tailB2 .any (l.take n) (l.drop n) = true)
    (hS : Region.seqB .any (l.take n ++ l.drop n).toArray (l.drop n).length (l.take n).length (QT.ext (l.drop n).length (Array.replicate (l.take n).length true)) = true)
    (h : wpQuiet P (l.take n).toArray (fun w' => ∃ x : After w, w' = x.W) (fun a' => ∀ w', (∃ x : After w, w' = x.W) → wpList P l.toArray Q (l.drop n) a' w') (l.take n) a) : (Code.region id l.toArray true).wp P Q a w :=
  QT.wp_region_tail2 (C := fun w' => ∃ x : After w, w' = x.W) n hm hB hT hS ⟨⟨w.drew, (Below.refl _ w).drew⟩, rfl⟩ h
end Go.Proofs.Ytjekdeikoebmgaa
