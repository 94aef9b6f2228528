/- One walk in the order of the text serves every order, where the last operations wait for the first ones through others. No program here. Conditions: none. -/
import Derived.Test.YtdnabeldaighgaaKit
namespace Go.Proofs.Ytdnabeldaighgaa
open Go.RowKit Go.Shelf

namespace QT
section
variable {P : Program} {md : Region.Mode} {C : World → Prop} {Q : Exit → Act → World → Prop}

/-- What these wait for, some steps far. -/
def reach (md : Region.Mode) (l : List Oper) : Nat → List Nat → List Nat
  | 0, D => D
  | f + 1, D => reach md l f (D ++ D.flatMap fun i => match l[i]? with | some o => o.after.toList.filterMap fun e => if Region.binds md e && decide (e.on < l.length) then some e.on else none | none => [])
theorem reach_listed {l : List Oper} {L : Array Bool} (hcl : ∀ j o, j < l.length → l.toArray[j]? = some o → L.getD j false = true → ∀ e ∈ o.after, Region.binds md e = true → L.getD e.on false = true) :
    ∀ (f : Nat) (D : List Nat), (∀ x ∈ D, x < l.length ∧ L.getD x false = true) → ∀ x ∈ reach md l f D, x < l.length ∧ L.getD x false = true := by
  intro f
  induction f with
  | zero => intro D h x hx; exact h x hx
  | succ f ih =>
    intro D h
    refine ih _ fun x hx => ?_
    rcases List.mem_append.1 hx with hx | hx
    · exact h x hx
    · obtain ⟨i, hi, hx⟩ := List.mem_flatMap.1 hx
      obtain ⟨h1, h2⟩ := h i hi
      rw [List.getElem?_eq_getElem h1] at hx
      obtain ⟨e, he, hx⟩ := List.mem_filterMap.1 hx
      split at hx
      · rename_i hc
        simp only [Bool.and_eq_true, decide_eq_true_eq] at hc
        injection hx with hx
        subst hx
        exact ⟨hc.2, hcl i l[i] h1 (by simp [h1]) h2 e (by simpa using he) hc.1⟩
      · cases hx
/-- The head's edges point backwards, its guards lie in the head; what stands behind the head waits for all of it, be it through others. -/
def tailB2 (md : Region.Mode) (l1 l2 : List Oper) : Bool :=
  ((List.range l1.length).all fun j => match l1[j]? with
    | some o => (o.after.all fun e => !Region.binds md e || decide (e.on < j)) && (match o.guard with | some (k, _) => decide (k < l1.length) | none => true)
    | none => true) &&
  (l2.all fun o => ((List.range l1.length).all fun i => (reach md l1 l1.length (o.after.toList.filterMap fun e => if Region.binds md e && decide (e.on < l1.length) then some e.on else none)).contains i) || (o.after.any fun e => Region.binds md e && decide (l1.length ≤ e.on) && decide (e.on < l1.length + l2.length)))
theorem closed_set {l : List Oper} {L : Array Bool} {i : Nat} (hcl : ∀ j o, j < l.length → l.toArray[j]? = some o → L.getD j false = true → ∀ e ∈ o.after, Region.binds md e = true → L.getD e.on false = true) (hr : i ∈ Region.ready md l.toArray L) :
    ∀ j o, j < l.length → l.toArray[j]? = some o → (L.setIfInBounds i true).getD j false = true → ∀ e ∈ o.after, Region.binds md e = true → (L.setIfInBounds i true).getD e.on false = true := by
  intro j o hj ho hL e he hb
  have up : ∀ k, L.getD k false = true → (L.setIfInBounds i true).getD k false = true := fun k hk => by
    simp only [Array.getD_eq_getD_getElem?, Array.getElem?_setIfInBounds] at hk ⊢
    by_cases hik : i = k
    · subst hik
      rw [if_pos rfl]
      by_cases hs : i < L.size
      · rw [if_pos hs]; rfl
      · rw [Array.getElem?_eq_none (by omega)] at hk; cases hk
    · rw [if_neg hik]; exact hk
  by_cases hij : i = j
  · subst hij
    obtain ⟨_, o2, ho2, hall⟩ := mem_ready.1 hr
    rw [ho] at ho2
    injection ho2 with ho2
    subst ho2
    exact up _ (hall e he hb)
  · have h1 : L.getD j false = true := by
      simp only [Array.getD_eq_getD_getElem?, Array.getElem?_setIfInBounds] at hL ⊢
      rw [if_neg hij] at hL
      exact hL
    exact up _ (hcl j o hj ho h1 e he hb)

theorem sim2 {l1 l2 : List Oper} (hT : tailB2 md l1 l2 = true) (hS : Region.seqB md (l1 ++ l2).toArray l2.length l1.length (ext l2.length (Array.replicate l1.length true)) = true) :
    ∀ (f : Nat) (L : Array Bool) (a : Act) (w : World), C w → L.size = l1.length → (∀ j o, j < l1.length → l1.toArray[j]? = some o → L.getD j false = true → ∀ e ∈ o.after, Region.binds md e = true → L.getD e.on false = true) →
      wpAnyQ P md l1.toArray C (fun a' => ∀ w', C w' → wpList P (l1 ++ l2).toArray Q l2 a' w') f L a → wpAny P md (l1 ++ l2).toArray Q (f + l2.length) (ext l2.length L) a w := by
  simp only [tailB2, Bool.and_eq_true, List.all_eq_true, List.mem_range] at hT
  obtain ⟨hT1, hT2⟩ := hT
  -- what the checks say
  have hback : ∀ j o, j < l1.length → l1.toArray[j]? = some o → ∀ e ∈ o.after, Region.binds md e = true → e.on < j := by
    intro j o hj ho e he hb
    have h1 := hT1 j hj
    rw [show l1[j]? = some o by simpa using ho] at h1
    simp only [Bool.and_eq_true] at h1
    have h2 := Array.all_eq_true'.1 h1.1 e he
    simpa [hb] using h2
  have hguard : ∀ j o k b, j < l1.length → l1.toArray[j]? = some o → o.guard = some (k, b) → k < l1.length := by
    intro j o k b hj ho hg
    have h1 := hT1 j hj
    rw [show l1[j]? = some o by simpa using ho] at h1
    simp only [Bool.and_eq_true] at h1
    have h2 := h1.2
    rw [hg] at h2
    simpa using h2
  have hwait : ∀ j o, l1.length ≤ j → (l1 ++ l2).toArray[j]? = some o → (∀ i, i < l1.length → i ∈ reach md l1 l1.length (o.after.toList.filterMap fun e => if Region.binds md e && decide (e.on < l1.length) then some e.on else none)) ∨ ∃ e ∈ o.after, Region.binds md e = true ∧ l1.length ≤ e.on ∧ e.on < l1.length + l2.length := by
    intro j o hj ho
    have h1 : l2[j - l1.length]? = some o := by simpa [List.getElem?_append_right hj] using ho
    have h2 := hT2 o (List.mem_of_getElem? h1)
    rw [Bool.or_eq_true] at h2
    rcases h2 with h2 | h2
    · refine .inl fun i hi => ?_
      have h3 := List.all_eq_true.1 h2 i (List.mem_range.2 hi)
      simpa using h3
    · obtain ⟨e, he, hb⟩ := Array.any_eq_true'.1 h2
      simp only [Bool.and_eq_true, decide_eq_true_eq] at hb
      exact .inr ⟨e, he, hb.1.1, hb.1.2, hb.2⟩
  -- which operations are ready
  have hin : ∀ (L : Array Bool) (i j : Nat), L.size = l1.length → (∀ j o, j < l1.length → l1.toArray[j]? = some o → L.getD j false = true → ∀ e ∈ o.after, Region.binds md e = true → L.getD e.on false = true) → i < l1.length → L.getD i false = false → j ∈ Region.ready md (l1 ++ l2).toArray (ext l2.length L) →
      j < l1.length ∧ j ∈ Region.ready md l1.toArray L := by
    intro L i j hL hcl hi hun hj
    obtain ⟨h0, o, ho, hall⟩ := mem_ready.1 hj
    have hjn : j < l1.length := by
      rcases Nat.lt_or_ge j l1.length with h | h
      · exact h
      · rcases hwait j o h ho with h2 | ⟨e, he, hb, h3, h4⟩
        · have h5 := reach_listed (md := md) hcl l1.length _ (fun x hx => by
            obtain ⟨e, he, hx⟩ := List.mem_filterMap.1 hx
            split at hx
            · rename_i hc
              simp only [Bool.and_eq_true, decide_eq_true_eq] at hc
              injection hx with hx
              subst hx
              have := hall e (by simpa using he) hc.1
              rw [ext_lt _ (by omega)] at this
              exact ⟨hc.2, this⟩
            · cases hx) i (h2 i hi)
          rw [hun] at h5
          cases h5.2
        · have := hall e he hb
          rw [ext_ge (by omega) (by omega)] at this
          cases this
    refine ⟨hjn, mem_ready.2 ⟨by rw [← ext_lt (g := l2.length) _ (by omega)]; exact h0, o, by rw [← getElem_left hjn]; exact ho, fun e he hb => ?_⟩⟩
    have h2 := hback j o hjn (by rw [← getElem_left hjn]; exact ho) e he hb
    rw [← ext_lt (g := l2.length) _ (by omega)]
    exact hall e he hb
  have hmin : ∀ (L : Array Bool), L.size = l1.length → ∀ (m i : Nat), i ≤ m → i < l1.length → L.getD i true = false → ∃ k, k < l1.length ∧ k ∈ Region.ready md (l1 ++ l2).toArray (ext l2.length L) ∧ k ∈ Region.ready md l1.toArray L := by
    intro L hL m
    induction m with
    | zero =>
      intro i him hi hun
      obtain rfl : i = 0 := by omega
      have ho : l1.toArray[0]? = some (l1[0]) := by simp [hi]
      refine ⟨0, hi, mem_ready.2 ⟨by rw [ext_lt _ (by omega)]; exact hun, _, by rw [getElem_left hi]; exact ho, fun e he hb => ?_⟩, mem_ready.2 ⟨hun, _, ho, fun e he hb => ?_⟩⟩
      all_goals exact absurd (hback 0 _ hi ho e he hb) (by omega)
    | succ m ih =>
      intro i him hi hun
      by_cases hex : ∃ k, k < i ∧ L.getD k true = false
      · obtain ⟨k, hk, hkun⟩ := hex
        exact ih k (by omega) (by omega) hkun
      · have ho : l1.toArray[i]? = some (l1[i]) := by simp [hi]
        have hall : ∀ e ∈ (l1[i]).after, Region.binds md e = true → L.getD e.on false = true := by
          intro e he hb
          have h1 := hback i _ hi ho e he hb
          have h2 : L.getD e.on true ≠ false := fun h => hex ⟨e.on, h1, h⟩
          have h3 : e.on < L.size := by omega
          simp [h3] at h2 ⊢
          exact h2
        refine ⟨i, hi, mem_ready.2 ⟨by rw [ext_lt _ (by omega)]; exact hun, _, by rw [getElem_left hi]; exact ho, fun e he hb => ?_⟩, mem_ready.2 ⟨hun, _, ho, hall⟩⟩
        rw [ext_lt _ (by have := hback i _ hi ho e he hb; omega)]
        exact hall e he hb
  have hallTrue : ∀ (L : Array Bool), L.size = l1.length → (¬ ∃ i, i < l1.length ∧ L.getD i true = false) → L = Array.replicate l1.length true := by
    intro L hL hno
    apply Array.ext
    · simp [hL]
    · intro i h1 h2
      have h3 : L.getD i true ≠ false := fun h => hno ⟨i, by omega, h⟩
      simp [h1] at h3
      simpa using h3
  have hend : ∀ (L : Array Bool) (a : Act) (w : World), L.size = l1.length → (¬ ∃ i, i < l1.length ∧ L.getD i true = false) → wpList P (l1 ++ l2).toArray Q l2 a w →
      wpAny P md (l1 ++ l2).toArray Q l2.length (ext l2.length L) a w := by
    intro L a w hL hno h
    rw [hallTrue L hL hno]
    refine wpAny_of_seq l2 l1.length _ a w (fun j => by rw [show (l1 ++ l2).toArray[l1.length + j]? = (l1 ++ l2)[l1.length + j]? by simp only [List.getElem?_toArray], List.getElem?_append_right (by omega), Nat.add_sub_cancel_left]) hS h
  intro f
  induction f with
  | zero =>
    intro L a w hC hL hcl h
    rw [Nat.zero_add]
    refine hend L a w hL (fun ⟨i, hi, hun⟩ => ?_) (h.2 w hC)
    obtain ⟨k, _, _, hk⟩ := hmin L hL i i (Nat.le_refl _) hi hun
    rw [h.1] at hk
    cases hk
  | succ f ih =>
    intro L a w hC hL hcl h
    by_cases hex : ∃ i, i < l1.length ∧ L.getD i true = false
    · obtain ⟨i, hi, hun⟩ := hex
      rw [show f + 1 + l2.length = (f + l2.length) + 1 by omega]
      refine ⟨fun h0 => ?_, fun j hj => ?_⟩
      · obtain ⟨k, _, hk, _⟩ := hmin L hL i i (Nat.le_refl _) hi hun
        rw [h0] at hk
        cases hk
      · have hunf : L.getD i false = false := by
          have : i < L.size := by omega
          simp [this] at hun ⊢
          exact hun
        obtain ⟨hjn, hjr⟩ := hin L i j hL hcl hi hunf hj
        have h1 := h.2 j hjr
        -- the same operation, over the whole region
        have h2 : qOp P (l1 ++ l2).toArray C j (wpAnyQ P md l1.toArray C (fun a' => ∀ w', C w' → wpList P (l1 ++ l2).toArray Q l2 a' w') f (L.setIfInBounds j true)) a := by
          unfold qOp at h1 ⊢
          rw [getElem_left hjn]
          cases ho : l1.toArray[j]? with
          | none => rw [ho] at h1; exact h1
          | some o =>
            rw [ho] at h1
            have hw : Region.wanted o (yielded (l1 ++ l2).toArray a.tmps) = Region.wanted o (yielded l1.toArray a.tmps) := by
              unfold Region.wanted
              cases hg : o.guard with
              | none => rfl
              | some kb =>
                obtain ⟨k, b⟩ := kb
                have hk := hguard j o k b hjn ho hg
                simp only [yielded, getElem_left hk]
            simp only [hw]
            exact h1
        rw [ext_set (by omega)]
        exact wpOp_of_qOp hC (fun a' w' hw' h' => ih (L.setIfInBounds j true) a' w' hw' (by simpa using hL) (closed_set hcl hjr) h') h2
    · have h0 : Region.ready md l1.toArray L = [] := by
        apply List.eq_nil_iff_forall_not_mem.2
        intro j hj
        obtain ⟨h1, o, ho, _⟩ := mem_ready.1 hj
        exact hex ⟨j, by have := (Array.getElem?_eq_some_iff.1 ho).1; simpa using this, h1⟩
      exact wpAny_more (f + 1) l2.length _ a w (hend L a w hL hex (h.1 h0 w hC))

/-- ONE WALK IN THE ORDER OF THE TEXT SERVES EVERY ORDER, for a region whose first operations leave a class of worlds, and whose last ones come in one order behind them. -/
theorem wp_region_tail2 {id : Nat} {a : Act} {w : World} {l : List Oper} (n : Nat) (hm : P.follows .mixedOrders = true) (hB : Region.lexB .any (l.take n).toArray = true) (hT : tailB2 .any (l.take n) (l.drop n) = true)
    (hS : Region.seqB .any (l.take n ++ l.drop n).toArray (l.drop n).length (l.take n).length (ext (l.drop n).length (Array.replicate (l.take n).length true)) = true) (hC : C { w with drawn := w.drawn + 1 })
    (h : wpQuiet P (l.take n).toArray C (fun a' => ∀ w', C w' → wpList P l.toArray Q (l.drop n) a' w') (l.take n) a) : (Code.region id l.toArray true).wp P Q a w := by
  simp only [Region.lexB, Bool.and_eq_true] at hB
  refine wp_region_any hm ?_
  have hh : wpQuiet P (l.take n).toArray C (fun a' => ∀ w', C w' → wpList P (l.take n ++ l.drop n).toArray Q (l.drop n) a' w') (l.take n) a := by
    rw [List.take_append_drop]; exact h
  have h1 := wpAnyQ_lex (C := C) (md := .any) hB.1 (l.take n) 0 (Array.replicate (l.take n).length false) a (by simp) (by simpa using hB.2) hh
  have h2 := sim2 (Q := Q) hT hS (l.take n).length _ a _ hC (by simp) (fun j o _ _ hj => by
    rw [show (Array.replicate (l.take n).length false).getD j false = false by simp only [Array.getD_eq_getD_getElem?, Array.getElem?_replicate]; split <;> rfl] at hj
    cases hj) h1
  rw [List.take_append_drop] at h2
  have e1 : (l.take n).length + (l.drop n).length = l.toArray.size := by
    rw [← List.length_append, List.take_append_drop]; simp
  have e2 : ext (l.drop n).length (Array.replicate (l.take n).length false) = Array.replicate l.toArray.size false := by
    rw [← e1]; simp [ext]
  rw [e1, e2] at h2
  exact h2
end
end QT

/-- The same, at the class 'all that lay in w lies as it lay'. -/
theorem wp_region_after_tail2 {P : Program} {id : Nat} {Q : Exit → Act → World → Prop} {a : Act} {w : World} {l : List Oper} (n : Nat) (hm : P.follows .mixedOrders = true) (hB : Region.lexB .any (l.take n).toArray = true) (hT : QT.tailB2 .any (l.take n) (l.drop n) = true)
    (hS : Region.seqB .any (l.take n ++ l.drop n).toArray (l.drop n).length (l.take n).length (QT.ext (l.drop n).length (Array.replicate (l.take n).length true)) = true)
    (h : wpQuiet P (l.take n).toArray (fun w' => ∃ x : After w, w' = x.W) (fun a' => ∀ w', (∃ x : After w, w' = x.W) → wpList P l.toArray Q (l.drop n) a' w') (l.take n) a) : (Code.region id l.toArray true).wp P Q a w :=
  QT.wp_region_tail2 (C := fun w' => ∃ x : After w, w' = x.W) n hm hB hT hS ⟨⟨w.drew, (Below.refl _ w).drew⟩, rfl⟩ h
end Go.Proofs.Ytdnabeldaighgaa
