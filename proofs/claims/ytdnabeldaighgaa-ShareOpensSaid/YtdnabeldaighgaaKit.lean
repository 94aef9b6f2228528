/- Small laws on worlds that the walks of this seat share: a block that is known whole, what a round of a range over a function keeps. Conditions: none. -/
import Derived.Test.YtdnabeldaighgaaRows
import Derived.RangeFuncNested
import Derived.RangeFuncBound
import Derived.RangeFuncCalls
import Derived.RangeFuncLeaves
import Derived.Shelf.Abstract
import Derived.Shelf.RegionOpen
import Derived.WalkKit
import Derived.OwnWalkIn
import Derived.TacticsInMore
import Derived.LoopNIn
import Derived.LoopIn
import Derived.WalkSpells
import Derived.WalkLawsBesides
import Derived.Deep.RegionHeld3
import Derived.Deep.QuietTactic
import Derived.Deep.DeepCutAuto
import Derived.Deep.WholeRow
import Derived.Deep.MidRow
import Derived.BigQuiet
import Derived.Lib.Hide
import Derived.StillTail
namespace Go.Proofs.Ytdnabeldaighgaa
open Go.RowKit Go.Shelf

/-- What a round that goes on keeps: every block of cells lies as it lay. -/
def KpC (W W' : World) : Prop := W.heap.size ≤ W'.heap.size ∧ ∀ (b : Nat) (o : Obj), W.heap[b]? = some o → o.isCells = true → W'.heap[b]? = some o
theorem KpC.refl (W : World) : KpC W W := ⟨Nat.le_refl _, fun _ _ h _ => h⟩
theorem KpC.trans {A B C : World} (h : KpC A B) (k : KpC B C) : KpC A C := ⟨Nat.le_trans h.1 k.1, fun b o hb ho => k.2 b o (h.2 b o hb ho) ho⟩
theorem KpC.put {w : World} (W : World) (l : Nat) (o o' : Obj) (_ : w.heap.size ≤ l) (h : W.heap[l]? = some o) (hc : o.isCells = false) (_ : o.isWalk = false) : KpC W (W.putObj l o') := by
  refine ⟨by simp [World.putObj], fun b p hb hp => ?_⟩
  by_cases e : b = l
  · subst e; rw [h] at hb; cases hb; rw [hc] at hp; cases hp
  · rw [World.putObj_heap_other e]; exact hb
theorem KpC.alloc (W : World) (o : Obj) : KpC W (W.alloc o) := 
  ⟨by simp, fun b p hb _ => by rw [Below.heap_alloc _ _ _ (Array.getElem?_eq_some_iff.1 hb).1]; exact hb⟩
theorem KpC.cell {W W' : World} (h : KpC W W') {p : Addr} {v : Value} (hp : W.cell? p = some v) : W'.cell? p = some v := by
  have : W'.heap[p.block]? = W.heap[p.block]? := by
    cases ho : W.heap[p.block]? with
    | none => simp [World.cell?, ho] at hp
    | some o =>
      cases o with
      | cells c t f => exact h.2 _ _ ho rfl
      | _ => simp [World.cell?, ho] at hp
  rw [World.cell?_of_block (w := W) this]; exact hp

theorem bcell {W w1 : World} (hb : Below W.heap.size W w1) : (∀ b o, b < W.heap.size → w1.cell? ⟨b, o, none⟩ = W.cell? ⟨b, o, none⟩) ∧ (∀ b o, b < W.heap.size → w1.frozen? ⟨b, o, none⟩ = W.frozen? ⟨b, o, none⟩) :=
  ⟨fun b o h => hb.cell (p := ⟨b, o, none⟩) h, fun b o h => hb.frozen (p := ⟨b, o, none⟩) h⟩

/-- Block b is known whole: its cells, its type; it may be written. -/
def Blk (W : World) (b : Nat) (cs : Array Value) (t : TypeId) : Prop := W.heap[b]? = some (.cells cs t (0, 0))
theorem Blk.lt {W : World} {b : Nat} {cs : Array Value} {t : TypeId} (h : Blk W b cs t) : b < W.heap.size := (Array.getElem?_eq_some_iff.1 h).1
theorem Blk.cell {W : World} {b : Nat} {cs : Array Value} {t : TypeId} (h : Blk W b cs t) (j : Nat) (v : Value) (hv : cs[j]? = some v) : W.cell? ⟨b, j, none⟩ = some v := (cell_of_row W b j cs t (0, 0) h).trans hv
theorem Blk.frozen {W : World} {b : Nat} {cs : Array Value} {t : TypeId} (h : Blk W b cs t) (j : Nat) : W.frozen? ⟨b, j, none⟩ = false := frozen_of_row W b j cs t h
theorem Blk.new (W : World) (cs : Array Value) (t : TypeId) : Blk (W.alloc (.cells cs t)) W.heap.size cs t := World.alloc_heap_new W _
theorem Blk.kept {W W' : World} {row : Option Nat} {b : Nat} {cs : Array Value} {t : TypeId} (h : Blk W b cs t) (hg : W.grownBy W' row) (hrow : ∀ r, row = some r → ∃ o : Obj, W.heap[r]? = some o ∧ o.isCells = false) : Blk W' b cs t :=
  (grownBy_keeps_cells hg hrow h rfl).trans h
theorem Blk.alloc {W : World} {b : Nat} {cs : Array Value} {t : TypeId} (h : Blk W b cs t) (o : Obj) : Blk (W.alloc o) b cs t := (Below.heap_alloc _ _ _ h.lt).trans h
theorem Blk.drew {W : World} {b : Nat} {cs : Array Value} {t : TypeId} (h : Blk W b cs t) : Blk W.drew b cs t := h
theorem Blk.drewN {W : World} {b : Nat} {cs : Array Value} {t : TypeId} (h : Blk W b cs t) (n : Nat) : Blk (W.drewN n) b cs t := h
theorem Blk.other {W : World} {b : Nat} {cs : Array Value} {t : TypeId} (h : Blk W b cs t) {a : Addr} (ha : b ≠ a.block) (v : Value) : Blk (W.setCell a v) b cs t := (Below.heap_setCell _ _ _ _ ha).trans h
theorem Blk.set {W : World} {b : Nat} {cs : Array Value} {t : TypeId} (h : Blk W b cs t) (i : Nat) (v : Value) : Blk (W.setCell ⟨b, i, none⟩ v) b (cs.setIfInBounds i v) t := heap_setCell_same W b i cs t v h
theorem Blk.below {W W' : World} {B b : Nat} {cs : Array Value} {t : TypeId} (h : Blk W b cs t) (hb : Below B W W') (hB : b < B) : Blk W' b cs t := (hb.block b hB).trans h
theorem Blk.keepC {W W' : World} {b : Nat} {cs : Array Value} {t : TypeId} (h : Blk W b cs t) (hk : KpC W W') : Blk W' b cs t := hk.2 _ _ h rfl
theorem Blk.row {W : World} {b : Nat} {cs : Array Value} {t : TypeId} (h : Blk W b cs t) (cs' : Array Value) : Blk (W.setRow b cs') b cs' t := setRow_heap W b cs cs' t (0, 0) h
theorem Blk.rowOther {W : World} {b g : Nat} {cs : Array Value} {t : TypeId} (h : Blk W b cs t) (cs' : Array Value) (hg : b ≠ g) : Blk (W.setRow g cs') b cs t := (setRow_other W g b cs' hg).trans h

theorem Below.setRow {B : Nat} {a w : World} (h : Below B a w) {g : Nat} (hg : B ≤ g) (cs : Array Value) : Below B a (w.setRow g cs) :=
  h.trans ⟨rfl, rfl, rfl, by simp, fun k hk => setRow_other _ _ _ _ (by omega)⟩
theorem Below.drewN {B : Nat} {a w : World} (h : Below B a w) (n : Nat) : Below B a (w.drewN n) := ⟨h.os, h.tape, h.output, h.size, h.block⟩

theorem keepCells {W w1 : World} (hb : Below W.heap.size W w1) : ∀ p v, W.cell? p = some v → w1.cell? p = some v := fun p _ h => (hb.cell (p := p) (World.block_lt_of_cell? W _ h)).trans h
theorem Below.ofDrew {B : Nat} {w w' : World} (h : Below B w.drew w') : Below B w w' := ⟨h.os, h.tape, h.output, h.size, h.block⟩

theorem Below.ofDrewN {B n : Nat} {w w' : World} (h : Below B (w.drewN n) w') : Below B w w' := ⟨h.os, h.tape, h.output, h.size, h.block⟩

/-- The worlds in which all that lay in w lies as it lay: for a region that draws its order and whose callees make memory. -/
structure After (w : World) where
  W : World
  hb : Below w.heap.size w W
instance (w : World) : Nonempty (After w) := ⟨⟨w, Below.refl _ w⟩⟩
theorem After.cell {w : World} {p : Addr} {v : Value} (h : w.cell? p = some v) : ∀ x : After w, x.W.cell? p = some v := fun x => keepCells x.hb _ _ h
/-- A callee that leaves all that lay is quiet in that class. -/
theorem After.call {P : Program} {f : FuncId} {args : Array Value} {w : World} {x : After w} {v : Value}
    (h : Calls P f args x.W fun e w' => e = .returned v ∧ Below x.W.heap.size x.W w') : Calls P f args x.W fun e w'' => e = .returned v ∧ ∃ y : After w, w'' = y.W :=
  h.mono fun _ w' ⟨he, hb⟩ => ⟨he, ⟨w', x.hb.trans (hb.mono x.hb.size)⟩, rfl⟩
/-- One walk in the order of the text serves every order. -/
theorem wp_region_after {P : Program} {id : Nat} {Q : Exit → Act → World → Prop} {a : Act} {w : World} {l : List Oper} (hm : P.follows .mixedOrders = true) (hB : Region.lexB .any l.toArray = true)
    (h : wpQuiet P l.toArray (fun w' => ∃ x : After w, w' = x.W) (fun a' => ∀ w', (∃ x : After w, w' = x.W) → Q .normal a' w') l a) : (Code.region id l.toArray true).wp P Q a w :=
  wp_region_quiet (C := fun w' => ∃ x : After w, w' = x.W) hm hB ⟨⟨w.drew, (Below.refl _ w).drew⟩, rfl⟩ (by simpa using h)

namespace QT
section
variable {P : Program} {md : Region.Mode} {C : World → Prop} {Q : Exit → Act → World → Prop}

/-- The head's edges point backwards, its guards lie in the head; what stands behind the head waits for all of it. -/
def tailB (md : Region.Mode) (l1 l2 : List Oper) : Bool :=
  ((List.range l1.length).all fun j => match l1[j]? with
    | some o => (o.after.all fun e => !Region.binds md e || decide (e.on < j)) && (match o.guard with | some (k, _) => decide (k < l1.length) | none => true)
    | none => true) &&
  (l2.all fun o => ((List.range l1.length).all fun i => o.after.any fun e => Region.binds md e && (e.on == i)) || (o.after.any fun e => Region.binds md e && decide (l1.length ≤ e.on) && decide (e.on < l1.length + l2.length)))

def ext (g : Nat) (L : Array Bool) : Array Bool := L ++ Array.replicate g false

theorem ext_lt {g : Nat} {L : Array Bool} {j : Nat} (d : Bool) (h : j < L.size) : (ext g L).getD j d = L.getD j d := by
  simp [ext, Array.getElem?_append_left h]
theorem ext_ge {g : Nat} {L : Array Bool} {j : Nat} (h : L.size ≤ j) (h2 : j < L.size + g) : (ext g L).getD j false = false := by
  have : (ext g L)[j]? = some false := by
    unfold ext
    rw [Array.getElem?_append_right h, Array.getElem?_replicate, if_pos (by omega)]
  simp [this]
theorem ext_set {g : Nat} {L : Array Bool} {i : Nat} (h : i < L.size) : (ext g L).setIfInBounds i true = ext g (L.setIfInBounds i true) := by
  unfold ext
  apply Array.ext_getElem?
  intro k
  rw [Array.getElem?_setIfInBounds]
  by_cases hk : i = k
  · subst hk
    rw [if_pos rfl, Array.getElem?_append_left (by simpa using h)]
    simp [h]
    omega
  · rw [if_neg hk]
    by_cases hkn : k < L.size
    · rw [Array.getElem?_append_left hkn, Array.getElem?_append_left (by simpa using hkn), Array.getElem?_setIfInBounds, if_neg hk]
    · rw [Array.getElem?_append_right (by omega), Array.getElem?_append_right (by simp; omega)]
      simp

theorem wpAny_more {ops : Array Oper} : ∀ (k f : Nat) (L : Array Bool) (a : Act) (w : World), wpAny P md ops Q f L a w → wpAny P md ops Q (k + f) L a w := by
  have one : ∀ (f : Nat) (L : Array Bool) (a : Act) (w : World), wpAny P md ops Q f L a w → wpAny P md ops Q (f + 1) L a w := by
    intro f
    induction f with
    | zero => intro L a w h; exact ⟨fun _ => h.2, fun i hi => by rw [h.1] at hi; cases hi⟩
    | succ f ih => intro L a w h; exact ⟨h.1, fun i hi => wpOp_mono (fun a' w' h' => ih _ a' w' h') (h.2 i hi)⟩
  intro k
  induction k with
  | zero => intro f L a w h; rw [Nat.zero_add]; exact h
  | succ k ih => intro f L a w h; rw [show k + 1 + f = (k + f) + 1 by omega]; exact one _ _ _ _ (ih f L a w h)

theorem getElem_left {l1 l2 : List Oper} {j : Nat} (h : j < l1.length) : (l1 ++ l2).toArray[j]? = l1.toArray[j]? := by
  simp [List.getElem?_append_left h]

theorem sim {l1 l2 : List Oper} (hT : tailB md l1 l2 = true) (hS : Region.seqB md (l1 ++ l2).toArray l2.length l1.length (ext l2.length (Array.replicate l1.length true)) = true) :
    ∀ (f : Nat) (L : Array Bool) (a : Act) (w : World), C w → L.size = l1.length →
      wpAnyQ P md l1.toArray C (fun a' => ∀ w', C w' → wpList P (l1 ++ l2).toArray Q l2 a' w') f L a → wpAny P md (l1 ++ l2).toArray Q (f + l2.length) (ext l2.length L) a w := by
  simp only [tailB, Bool.and_eq_true, List.all_eq_true, List.mem_range] at hT
  obtain ⟨hT1, hT2⟩ := hT
  -- what the checks say
  have hback : ∀ j o, j < l1.length → l1.toArray[j]? = some o → ∀ e ∈ o.after, Region.binds md e = true → e.on < j := by
    intro j o hj ho e he hb
    have h1 := hT1 j hj
    rw [show l1[j]? = some o by simpa using ho] at h1
    simp only [Bool.and_eq_true] at h1
    have h2 := Array.all_eq_true'.1 h1.1 e he
    simpa [hb] using h2
  have hguard : ∀ j o k b, j < l1.length → l1.toArray[j]? = some o → o.guard = some (k, b) → k < l1.length := by
    intro j o k b hj ho hg
    have h1 := hT1 j hj
    rw [show l1[j]? = some o by simpa using ho] at h1
    simp only [Bool.and_eq_true] at h1
    have h2 := h1.2
    rw [hg] at h2
    simpa using h2
  have hwait : ∀ j o i, l1.length ≤ j → (l1 ++ l2).toArray[j]? = some o → i < l1.length → ∃ e ∈ o.after, Region.binds md e = true ∧ (e.on = i ∨ (l1.length ≤ e.on ∧ e.on < l1.length + l2.length)) := by
    intro j o i hj ho hi
    have h1 : l2[j - l1.length]? = some o := by simpa [List.getElem?_append_right hj] using ho
    have h2 := hT2 o (List.mem_of_getElem? h1)
    rw [Bool.or_eq_true] at h2
    rcases h2 with h2 | h2
    · have h3 := List.all_eq_true.1 h2 i (List.mem_range.2 hi)
      obtain ⟨e, he, hb⟩ := Array.any_eq_true'.1 h3
      simp only [Bool.and_eq_true, beq_iff_eq] at hb
      exact ⟨e, he, hb.1, .inl hb.2⟩
    · obtain ⟨e, he, hb⟩ := Array.any_eq_true'.1 h2
      simp only [Bool.and_eq_true, decide_eq_true_eq] at hb
      exact ⟨e, he, hb.1.1, .inr ⟨hb.1.2, hb.2⟩⟩
  -- which operations are ready
  have hin : ∀ (L : Array Bool) (i j : Nat), L.size = l1.length → i < l1.length → L.getD i false = false → j ∈ Region.ready md (l1 ++ l2).toArray (ext l2.length L) →
      j < l1.length ∧ j ∈ Region.ready md l1.toArray L := by
    intro L i j hL hi hun hj
    obtain ⟨h0, o, ho, hall⟩ := mem_ready.1 hj
    have hjn : j < l1.length := by
      rcases Nat.lt_or_ge j l1.length with h | h
      · exact h
      · obtain ⟨e, he, hb, hon⟩ := hwait j o i h ho hi
        have := hall e he hb
        rcases hon with hon | hon
        · rw [hon, ext_lt _ (by omega), hun] at this
          cases this
        · rw [ext_ge (by omega) (by omega)] at this
          cases this
    refine ⟨hjn, mem_ready.2 ⟨by rw [← ext_lt (g := l2.length) _ (by omega)]; exact h0, o, by rw [← getElem_left hjn]; exact ho, fun e he hb => ?_⟩⟩
    have h2 := hback j o hjn (by rw [← getElem_left hjn]; exact ho) e he hb
    rw [← ext_lt (g := l2.length) _ (by omega)]
    exact hall e he hb
  have hmin : ∀ (L : Array Bool), L.size = l1.length → ∀ (m i : Nat), i ≤ m → i < l1.length → L.getD i true = false → ∃ k, k < l1.length ∧ k ∈ Region.ready md (l1 ++ l2).toArray (ext l2.length L) ∧ k ∈ Region.ready md l1.toArray L := by
    intro L hL m
    induction m with
    | zero =>
      intro i him hi hun
      obtain rfl : i = 0 := by omega
      have ho : l1.toArray[0]? = some (l1[0]) := by simp [hi]
      refine ⟨0, hi, mem_ready.2 ⟨by rw [ext_lt _ (by omega)]; exact hun, _, by rw [getElem_left hi]; exact ho, fun e he hb => ?_⟩, mem_ready.2 ⟨hun, _, ho, fun e he hb => ?_⟩⟩
      all_goals exact absurd (hback 0 _ hi ho e he hb) (by omega)
    | succ m ih =>
      intro i him hi hun
      by_cases hex : ∃ k, k < i ∧ L.getD k true = false
      · obtain ⟨k, hk, hkun⟩ := hex
        exact ih k (by omega) (by omega) hkun
      · have ho : l1.toArray[i]? = some (l1[i]) := by simp [hi]
        have hall : ∀ e ∈ (l1[i]).after, Region.binds md e = true → L.getD e.on false = true := by
          intro e he hb
          have h1 := hback i _ hi ho e he hb
          have h2 : L.getD e.on true ≠ false := fun h => hex ⟨e.on, h1, h⟩
          have h3 : e.on < L.size := by omega
          simp [h3] at h2 ⊢
          exact h2
        refine ⟨i, hi, mem_ready.2 ⟨by rw [ext_lt _ (by omega)]; exact hun, _, by rw [getElem_left hi]; exact ho, fun e he hb => ?_⟩, mem_ready.2 ⟨hun, _, ho, hall⟩⟩
        rw [ext_lt _ (by have := hback i _ hi ho e he hb; omega)]
        exact hall e he hb
  have hallTrue : ∀ (L : Array Bool), L.size = l1.length → (¬ ∃ i, i < l1.length ∧ L.getD i true = false) → L = Array.replicate l1.length true := by
    intro L hL hno
    apply Array.ext
    · simp [hL]
    · intro i h1 h2
      have h3 : L.getD i true ≠ false := fun h => hno ⟨i, by omega, h⟩
      simp [h1] at h3
      simpa using h3
  have hend : ∀ (L : Array Bool) (a : Act) (w : World), L.size = l1.length → (¬ ∃ i, i < l1.length ∧ L.getD i true = false) → wpList P (l1 ++ l2).toArray Q l2 a w →
      wpAny P md (l1 ++ l2).toArray Q l2.length (ext l2.length L) a w := by
    intro L a w hL hno h
    rw [hallTrue L hL hno]
    refine wpAny_of_seq l2 l1.length _ a w (fun j => by rw [show (l1 ++ l2).toArray[l1.length + j]? = (l1 ++ l2)[l1.length + j]? by simp only [List.getElem?_toArray], List.getElem?_append_right (by omega), Nat.add_sub_cancel_left]) hS h
  intro f
  induction f with
  | zero =>
    intro L a w hC hL h
    rw [Nat.zero_add]
    refine hend L a w hL (fun ⟨i, hi, hun⟩ => ?_) (h.2 w hC)
    obtain ⟨k, _, _, hk⟩ := hmin L hL i i (Nat.le_refl _) hi hun
    rw [h.1] at hk
    cases hk
  | succ f ih =>
    intro L a w hC hL h
    by_cases hex : ∃ i, i < l1.length ∧ L.getD i true = false
    · obtain ⟨i, hi, hun⟩ := hex
      rw [show f + 1 + l2.length = (f + l2.length) + 1 by omega]
      refine ⟨fun h0 => ?_, fun j hj => ?_⟩
      · obtain ⟨k, _, hk, _⟩ := hmin L hL i i (Nat.le_refl _) hi hun
        rw [h0] at hk
        cases hk
      · have hunf : L.getD i false = false := by
          have : i < L.size := by omega
          simp [this] at hun ⊢
          exact hun
        obtain ⟨hjn, hjr⟩ := hin L i j hL hi hunf hj
        have h1 := h.2 j hjr
        -- the same operation, over the whole region
        have h2 : qOp P (l1 ++ l2).toArray C j (wpAnyQ P md l1.toArray C (fun a' => ∀ w', C w' → wpList P (l1 ++ l2).toArray Q l2 a' w') f (L.setIfInBounds j true)) a := by
          unfold qOp at h1 ⊢
          rw [getElem_left hjn]
          cases ho : l1.toArray[j]? with
          | none => rw [ho] at h1; exact h1
          | some o =>
            rw [ho] at h1
            have hw : Region.wanted o (yielded (l1 ++ l2).toArray a.tmps) = Region.wanted o (yielded l1.toArray a.tmps) := by
              unfold Region.wanted
              cases hg : o.guard with
              | none => rfl
              | some kb =>
                obtain ⟨k, b⟩ := kb
                have hk := hguard j o k b hjn ho hg
                simp only [yielded, getElem_left hk]
            simp only [hw]
            exact h1
        rw [ext_set (by omega)]
        exact wpOp_of_qOp hC (fun a' w' hw' h' => ih (L.setIfInBounds j true) a' w' hw' (by simpa using hL) h') h2
    · have h0 : Region.ready md l1.toArray L = [] := by
        apply List.eq_nil_iff_forall_not_mem.2
        intro j hj
        obtain ⟨h1, o, ho, _⟩ := mem_ready.1 hj
        exact hex ⟨j, by have := (Array.getElem?_eq_some_iff.1 ho).1; simpa using this, h1⟩
      exact wpAny_more (f + 1) l2.length _ a w (hend L a w hL hex (h.1 h0 w hC))

/-- ONE WALK IN THE ORDER OF THE TEXT SERVES EVERY ORDER, for a region whose first operations leave a class of worlds, and whose last ones come in one order behind them. -/
theorem wp_region_tail {id : Nat} {a : Act} {w : World} {l : List Oper} (n : Nat) (hm : P.follows .mixedOrders = true) (hB : Region.lexB .any (l.take n).toArray = true) (hT : tailB .any (l.take n) (l.drop n) = true)
    (hS : Region.seqB .any (l.take n ++ l.drop n).toArray (l.drop n).length (l.take n).length (ext (l.drop n).length (Array.replicate (l.take n).length true)) = true) (hC : C { w with drawn := w.drawn + 1 })
    (h : wpQuiet P (l.take n).toArray C (fun a' => ∀ w', C w' → wpList P l.toArray Q (l.drop n) a' w') (l.take n) a) : (Code.region id l.toArray true).wp P Q a w := by
  simp only [Region.lexB, Bool.and_eq_true] at hB
  refine wp_region_any hm ?_
  have hh : wpQuiet P (l.take n).toArray C (fun a' => ∀ w', C w' → wpList P (l.take n ++ l.drop n).toArray Q (l.drop n) a' w') (l.take n) a := by
    rw [List.take_append_drop]; exact h
  have h1 := wpAnyQ_lex (C := C) (md := .any) hB.1 (l.take n) 0 (Array.replicate (l.take n).length false) a (by simp) (by simpa using hB.2) hh
  have h2 := sim (Q := Q) hT hS (l.take n).length _ a _ hC (by simp) h1
  rw [List.take_append_drop] at h2
  have e1 : (l.take n).length + (l.drop n).length = l.toArray.size := by
    rw [← List.length_append, List.take_append_drop]; simp
  have e2 : ext (l.drop n).length (Array.replicate (l.take n).length false) = Array.replicate l.toArray.size false := by
    rw [← e1]; simp [ext]
  rw [e1, e2] at h2
  exact h2
end
end QT

/-- The same, at the class 'all that lay in w lies as it lay'. -/
theorem wp_region_after_tail {P : Program} {id : Nat} {Q : Exit → Act → World → Prop} {a : Act} {w : World} {l : List Oper} (n : Nat) (hm : P.follows .mixedOrders = true) (hB : Region.lexB .any (l.take n).toArray = true) (hT : QT.tailB .any (l.take n) (l.drop n) = true)
    (hS : Region.seqB .any (l.take n ++ l.drop n).toArray (l.drop n).length (l.take n).length (QT.ext (l.drop n).length (Array.replicate (l.take n).length true)) = true)
    (h : wpQuiet P (l.take n).toArray (fun w' => ∃ x : After w, w' = x.W) (fun a' => ∀ w', (∃ x : After w, w' = x.W) → wpList P l.toArray Q (l.drop n) a' w') (l.take n) a) : (Code.region id l.toArray true).wp P Q a w :=
  QT.wp_region_tail (C := fun w' => ∃ x : After w, w' = x.W) n hm hB hT hS ⟨⟨w.drew, (Below.refl _ w).drew⟩, rfl⟩ h

/-- A new variable of an array's or a struct's type, its zero cells under one name. -/
theorem wpList_alloc_row {P : Program} {ops : Array Oper} {rest : List Oper} {o : Oper} {a : Act} {w : World} {Q : Exit → Act → World → Prop} (hgd : o.guard = none) (t : TypeId) (ho : o.op = .alloc t)
    (zc : Array Value) (hz : (P.info? t).bind (·.zero) = some (.agg zc))
    (h : wpList P ops Q rest (a.put o.dst (.pointer (some ⟨w.heap.size, 0, none⟩))) (w.alloc (.cells zc t))) : wpList P ops Q (o :: rest) a w := by
  refine wpList_plain hgd fun K hK => ?_
  cases hi : P.info? t with
  | none => rw [hi] at hz; cases hz
  | some i =>
    rw [hi] at hz
    have hz : i.zero = some (.agg zc) := by simpa using hz
    unfold Oper.wp execOp
    simp [ho, Instr.alloc, zeroValue, typeInfo, hi, hz, newVar, Value.cells]
    exact hK _ _ h
theorem wpList_box_row {P : Program} {ops : Array Oper} {rest : List Oper} {o : Oper} {a : Act} {w : World} {Q : Exit → Act → World → Prop} (hgd : o.guard = none) (t : TypeId) (x : Operand) (ho : o.op = .box t x)
    (cs : Array Value) (hx : a.eval x = .agg cs)
    (h : wpList P ops Q rest (a.put o.dst (.pointer (some ⟨w.heap.size, 0, none⟩))) (w.alloc (.cells cs t))) : wpList P ops Q (o :: rest) a w := by
  refine wpList_plain hgd fun K hK => ?_
  unfold Oper.wp execOp
  simp [ho, hx]
  exact hK _ _ h

theorem grown_of_below {a w : World} (h : Below a.heap.size a w) (row : Option Nat) : a.grownBy w row := ⟨h.os, h.tape, h.output, h.size, fun i hi _ => h.block i hi⟩
theorem grown_drewN {a w : World} {row : Option Nat} (h : a.grownBy w row) (n : Nat) : a.grownBy (w.drewN n) row := ⟨h.os, h.tape, h.output, h.size, h.block⟩
theorem grown_drew {a w : World} {row : Option Nat} (h : a.grownBy w row) : a.grownBy w.drew row := ⟨h.os, h.tape, h.output, h.size, h.block⟩
theorem grown_set {a w : World} {g : Nat} (h : a.grownBy w (some g)) (i : Nat) (u : Value) : a.grownBy (w.setCell ⟨g, i, none⟩ u) (some g) :=
  ⟨h.os, h.tape, h.output, by simpa [World.setCell] using h.size, fun k hk hne => (Below.heap_setCell w ⟨g, i, none⟩ u k (by rintro rfl; exact hne rfl)).trans (h.block k hk hne)⟩
theorem grown_then {a b c : World} {g : Nat} (h : a.grownBy b (some g)) (k : Below b.heap.size b c) : a.grownBy c (some g) :=
  ⟨k.os.trans h.os, k.tape.trans h.tape, k.output.trans h.output, Nat.le_trans h.size k.size, fun i hi hne => (k.block i (Nat.lt_of_lt_of_le hi h.size)).trans (h.block i hi hne)⟩
/-- What was written lies above B. -/
theorem below_grown {B : Nat} {a b c : World} {g : Nat} (h : Below B a b) (k : b.grownBy c (some g)) (hB : B ≤ b.heap.size) (hg : B ≤ g) : Below B a c :=
  ⟨k.os.trans h.os, k.tape.trans h.tape, k.output.trans h.output, Nat.le_trans h.size k.size, fun i hi => (k.block i (by omega) (by intro e; injection e with e; omega)).trans (h.block i hi)⟩

theorem Blk.grown {W W' : World} {b g : Nat} {cs : Array Value} {t : TypeId} (h : Blk W b cs t) (hg : W.grownBy W' (some g)) (hne : b ≠ g) : Blk W' b cs t := (hg.block b h.lt (by intro e; injection e with e; exact hne e)).trans h

theorem grown_alloc {a w : World} {row : Option Nat} (h : a.grownBy w row) (o : Obj) : a.grownBy (w.alloc o) row :=
  ⟨h.os, h.tape, h.output, Nat.le_trans h.size (by simp), fun i hi hne => (Below.heap_alloc w o i (Nat.lt_of_lt_of_le hi h.size)).trans (h.block i hi hne)⟩
theorem grown_row {a w : World} {g : Nat} (h : a.grownBy w (some g)) (cs : Array Value) : a.grownBy (w.setRow g cs) (some g) :=
  ⟨h.os, h.tape, h.output, by simpa using h.size, fun k hk hne => (setRow_other _ _ _ _ (by rintro rfl; exact hne rfl)).trans (h.block k hk hne)⟩

/-- What a round that goes on keeps: every block of cells but one lies as it lay. -/
def KpX (sb : Nat) (W W' : World) : Prop := W.heap.size ≤ W'.heap.size ∧ ∀ (b : Nat) (o : Obj), b ≠ sb → W.heap[b]? = some o → o.isCells = true → W'.heap[b]? = some o
theorem KpX.refl (sb : Nat) (W : World) : KpX sb W W := ⟨Nat.le_refl _, fun _ _ _ h _ => h⟩
theorem KpX.trans {sb : Nat} {A B C : World} (h : KpX sb A B) (k : KpX sb B C) : KpX sb A C := ⟨Nat.le_trans h.1 k.1, fun b o hne hb ho => k.2 b o hne (h.2 b o hne hb ho) ho⟩
theorem KpX.put {sb : Nat} {w : World} (W : World) (l : Nat) (o o' : Obj) (_ : w.heap.size ≤ l) (h : W.heap[l]? = some o) (hc : o.isCells = false) (_ : o.isWalk = false) : KpX sb W (W.putObj l o') := by
  refine ⟨by simp [World.putObj], fun b p _ hb hp => ?_⟩
  by_cases e : b = l
  · subst e; rw [h] at hb; cases hb; rw [hc] at hp; cases hp
  · rw [World.putObj_heap_other e]; exact hb
theorem Blk.keepX {W W' : World} {sb b : Nat} {cs : Array Value} {t : TypeId} (h : Blk W b cs t) (hk : KpX sb W W') (hne : b ≠ sb) : Blk W' b cs t := hk.2 _ _ hne h rfl

theorem KpX.of_grown {sb : Nat} {A B : World} (h : A.grownBy B (some sb)) : KpX sb A B :=
  ⟨h.size, fun b o hne hb _ => (h.block b (Array.getElem?_eq_some_iff.1 hb).1 (by intro e; injection e with e; exact hne e)).trans hb⟩

theorem take_finRange {N : Nat} (k : Nat) (h : k < N) : (List.finRange N).take (k + 1) = (List.finRange N).take k ++ [⟨k, h⟩] := by
  rw [List.take_add_one, List.getElem?_eq_getElem (by simpa using h)]
  simp

def rangesOf : Code → List Code
  | .seq a b => rangesOf a ++ rangesOf b
  | .cond _ a b => rangesOf a ++ rangesOf b
  | .block _ c => rangesOf c
  | .loop c => rangesOf c
  | .scope c => rangesOf c
  | .rangeFunc g ps a b => [.rangeFunc g ps a b]
  | _ => []
noncomputable def rangeIn (f : Func) (n : Nat) : Code := ((f.body.map rangesOf).getD []).getD n .skip

/-- The region of a number in a body; its n-th loop. -/
def regionOf (n : Nat) : Code → Option Code
  | .region id ops d => if id = n then some (.region id ops d) else none
  | .seq a b => match regionOf n a with | some c => some c | none => regionOf n b
  | .cond _ a b => match regionOf n a with | some c => some c | none => regionOf n b
  | .block _ c => regionOf n c
  | .loop c => regionOf n c
  | .scope c => regionOf n c
  | .rangeFunc _ _ a b => match regionOf n a with | some c => some c | none => regionOf n b
  | _ => none
def loopsOf : Code → List Code
  | .seq a b => loopsOf a ++ loopsOf b
  | .cond _ a b => loopsOf a ++ loopsOf b
  | .block _ c => loopsOf c
  | .loop c => .loop c :: loopsOf c
  | .scope c => loopsOf c
  | .rangeFunc _ _ a b => loopsOf a ++ loopsOf b
  | _ => []
noncomputable def regionIn (f : Func) (n : Nat) : Code := (f.body.bind (regionOf n)).getD .skip
noncomputable def loopIn (f : Func) (n : Nat) : Code := ((f.body.map loopsOf).getD []).getD n .skip

end Go.Proofs.Ytdnabeldaighgaa
