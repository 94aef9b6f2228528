/- A region whose order is drawn, in the body of a loop over an iterator. No program here. -/
import Derived.Test.YtdnabeldaighgaaEnds
import Derived.RangeFuncCalls
import Derived.OrdersIn
import Derived.TacticsIn
namespace Go.Proofs.Ytdnabeldaighgaa
open Go.RowKit

/-- No operation is a defer. -/
def noDefer (l : List Oper) : Bool := l.all fun o => match o.op with | .defer _ => false | _ => true
theorem noDefer_spec {l : List Oper} (h : noDefer l = true) {o : Oper} (ho : o ∈ l) : ∀ c, o.op ≠ .defer c := by
  intro c e
  have := (List.all_eq_true.1 h) o ho
  rw [e] at this
  cases this

section
variable {P : Program} {ops : Array Oper} {Q : Exit → Act → World → Prop} {md : Region.Mode} {l n : Nat}

theorem oper_inRound {o : Oper} {a : Act} {w : World} {K K' : Act → World → Prop} (hd : ∀ c, o.op ≠ .defer c) (hk : ∀ a w, K a w → K' a w) (h : o.wp P a w K Q) : o.wpIn (Fence.wide.inRound l) n P a w K' Q := by
  refine ⟨fun _ _ => trivial, ?_⟩
  rw [Fence.inRound_round, Oper.semAt_some l a.eval o hd]
  unfold Oper.wp at h
  generalize (execOp a.eval o).run P w = r at *
  cases r with
  | ok x w' =>
    cases x with
    | value v => exact hk _ _ h
    | skip => exact hk _ _ h
    | defer d => exact hk _ _ h
    | enter f args =>
      refine ⟨fun h0 => Bool.noConfusion h0, ?_⟩
      refine CallsIn.inRound l (callsIn_wide.2 (Calls.mono h ?_))
      intro e w2 he
      cases e with
      | returned v => exact hk _ _ he
      | panicked c => exact he
      | outgrown => exact he
    | row row args =>
      refine ⟨fun h0 => Bool.noConfusion h0, fun c cs _ => ?_⟩
      obtain ⟨v, w2, r, s⟩ := h c cs
      exact ⟨v, w2, hk _ _ r, stepsIn_wide.2 s⟩
    | _ => exact h.elim
  | halt x w' =>
    cases x with
    | panic v => exact h
    | _ => exact h.elim

theorem wpOp_inRound {i : Nat} {a : Act} {w : World} {K K' : Act → World → Prop} (hd : noDefer ops.toList = true) (hq : ¬ LetsOut Q) (hk : ∀ a w, K a w → K' a w) (h : wpOp P ops Q i K a w) : wpOpIn (Fence.wide.inRound l) n P ops Q i K' a w := by
  unfold wpOp at h
  unfold wpOpIn
  cases ho : ops[i]? with
  | none => rw [ho] at h; exact hk _ _ h
  | some o =>
    simp only [ho] at h ⊢
    have hm : o ∈ ops.toList := by
      obtain ⟨hi, e⟩ := Array.getElem?_eq_some_iff.1 ho
      rw [← e]; exact Array.getElem_mem_toList hi
    split
    · rename_i hw
      rw [if_pos hw] at h
      rcases h with h | ⟨_, h⟩
      · exact oper_inRound (noDefer_spec hd hm) hk h
      · exact absurd h hq
    · rename_i hw
      rw [if_neg hw] at h
      exact ⟨fun _ _ => trivial, hk _ _ h⟩

theorem wpAny_inRound (hd : noDefer ops.toList = true) (hq : ¬ LetsOut Q) : ∀ (fuel : Nat) (listed : Array Bool) (a : Act) (w : World), wpAny P md ops Q fuel listed a w → wpAnyIn (Fence.wide.inRound l) n P md ops Q fuel listed a w
  | 0, _, _, _, h => h
  | fuel + 1, _, _, _, h => ⟨h.1, fun i hi => wpOp_inRound hd hq (fun a w => wpAny_inRound hd hq fuel _ a w) (h.2 i hi)⟩

theorem region_inRound {id : Nat} {a : Act} {w : World} (hm : P.follows .mixedOrders = true) (hd : noDefer ops.toList = true) (hq : ¬ LetsOut Q)
    (h : wpAny P .any ops Q ops.size (Array.replicate ops.size false) a { w with drawn := w.drawn + 1 }) : (Code.region id ops true).wpIn (Fence.wide.inRound l) n P Q a w :=
  wpIn_region_any hm (wpAny_inRound hd hq _ _ _ _ h)
end

/-- Reads and calls that leave all that lay, then stores. -/
theorem wpIn_region_after_tail {P : Program} {id f : Nat} {m : Nat} {Q : Exit → Act → World → Prop} {a : Act} {w : World} {l : List Oper} (n : Nat) (hm : P.follows .mixedOrders = true) (hd : noDefer l = true) (hq : ¬ LetsOut Q) (hB : Region.lexB .any (l.take n).toArray = true) (hT : QT.tailB .any (l.take n) (l.drop n) = true)
    (hS : Region.seqB .any (l.take n ++ l.drop n).toArray (l.drop n).length (l.take n).length (QT.ext (l.drop n).length (Array.replicate (l.take n).length true)) = true)
    (h : wpQuiet P (l.take n).toArray (fun w' => ∃ x : After w, w' = x.W) (fun a' => ∀ w', (∃ x : After w, w' = x.W) → wpList P l.toArray Q (l.drop n) a' w') (l.take n) a) : (Code.region id l.toArray true).wpIn (Fence.wide.inRound f) m P Q a w := by
  refine region_inRound hm (by simpa using hd) hq ?_
  simp only [Region.lexB, Bool.and_eq_true] at hB
  have hh : wpQuiet P (l.take n).toArray (fun w' => ∃ x : After w, w' = x.W) (fun a' => ∀ w', (∃ x : After w, w' = x.W) → wpList P (l.take n ++ l.drop n).toArray Q (l.drop n) a' w') (l.take n) a := by
    rw [List.take_append_drop]; exact h
  have h1 := wpAnyQ_lex (C := fun w' => ∃ x : After w, w' = x.W) (md := .any) hB.1 (l.take n) 0 (Array.replicate (l.take n).length false) a (by simp) (by simpa using hB.2) hh
  have h2 := QT.sim (C := fun w' => ∃ x : After w, w' = x.W) (Q := Q) hT hS (l.take n).length _ a _ ⟨⟨w.drew, (Below.refl _ w).drew⟩, rfl⟩ (by simp) h1
  rw [List.take_append_drop] at h2
  have e1 : (l.take n).length + (l.drop n).length = l.toArray.size := by
    rw [← List.length_append, List.take_append_drop]; simp
  have e2 : QT.ext (l.drop n).length (Array.replicate (l.take n).length false) = Array.replicate l.toArray.size false := by
    rw [← e1]; simp [QT.ext]
  rw [e1, e2] at h2
  exact h2
end Go.Proofs.Ytdnabeldaighgaa
