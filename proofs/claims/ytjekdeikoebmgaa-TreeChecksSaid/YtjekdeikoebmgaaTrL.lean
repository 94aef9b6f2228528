/- The closure walk of CheckGrowth. Conditions: sizes. -/
import Derived.Test.YtjekdeikoebmgaaTrK
namespace Go.Proofs.Ytjekdeikoebmgaa
open Go.RowKit Go.Shelf Tr

/-- walk, plain: both roots, the number, the mark. -/
def walkP (p : List (List UInt8)) (ro : List UInt8) (m n : Nat) (whole : Bool) (k : Nat) (ok : Bool) : (List UInt8 × List UInt8) × Nat × Bool :=
  if _h : n ≤ m ∨ n ≤ 1 then (if whole then ((ro, ro), k, ok) else (((takeP p k ok).1, (takeP p k ok).1), (takeP p k ok).2)) else
  if m ≤ half n then
    (((walkP p ro m (half n) whole k ok).1.1, node (walkP p ro m (half n) whole k ok).1.2 (takeP p (walkP p ro m (half n) whole k ok).2.1 (walkP p ro m (half n) whole k ok).2.2).1), (takeP p (walkP p ro m (half n) whole k ok).2.1 (walkP p ro m (half n) whole k ok).2.2).2)
  else
    ((node (takeP p (walkP p ro (m - half n) (n - half n) false k ok).2.1 (walkP p ro (m - half n) (n - half n) false k ok).2.2).1 (walkP p ro (m - half n) (n - half n) false k ok).1.1,
      node (takeP p (walkP p ro (m - half n) (n - half n) false k ok).2.1 (walkP p ro (m - half n) (n - half n) false k ok).2.2).1 (walkP p ro (m - half n) (n - half n) false k ok).1.2), (takeP p (walkP p ro (m - half n) (n - half n) false k ok).2.1 (walkP p ro (m - half n) (n - half n) false k ok).2.2).2)
termination_by n
decreasing_by
  all_goals first
    | exact half_lt (by omega)
    | (have := half_pos (n := n) (by omega); omega)
theorem takeP_k (p : List (List UInt8)) (k : Nat) (ok : Bool) (h : k ≤ p.length) : (takeP p k ok).2.1 ≤ p.length := by
  unfold takeP
  split
  · show k + 1 ≤ _; omega
  · exact h
theorem walkP_ok {p : List (List UInt8)} {ro : List UInt8} (ha : All32 p) (hr : ro.length = 32) (n : Nat) : ∀ (m : Nat) (whole : Bool) (k : Nat) (ok : Bool), k ≤ p.length →
    (walkP p ro m n whole k ok).1.1.length = 32 ∧ (walkP p ro m n whole k ok).1.2.length = 32 ∧ (walkP p ro m n whole k ok).2.1 ≤ p.length := by
  induction n using Nat.strongRecOn with
  | _ n ih =>
    intro m whole k ok hk
    by_cases h : n ≤ m ∨ n ≤ 1
    · rw [walkP, dif_pos h]
      split
      · exact ⟨hr, hr, hk⟩
      · exact ⟨takeP_len ha _ _, takeP_len ha _ _, takeP_k p k ok hk⟩
    · have h1 := half_lt (n := n) (by omega)
      have h2 := half_pos (n := n) (by omega)
      by_cases hm : m ≤ half n
      · obtain ⟨i1, i2, i3⟩ := ih (half n) h1 m whole k ok hk
        rw [walkP, dif_neg h, if_pos hm]
        exact ⟨i1, node_length _ _, takeP_k _ _ _ i3⟩
      · obtain ⟨i1, i2, i3⟩ := ih (n - half n) (by omega) (m - half n) false k ok hk
        rw [walkP, dif_neg h, if_neg hm]
        exact ⟨node_length _ _, node_length _ _, takeP_k _ _ _ i3⟩
/-- What walk leaves. -/
def WalkQ (w : World) (b : Nat) (so : Int) (ro : List UInt8) (v : Value) (r : (List UInt8 × List UInt8) × Nat × Bool) (e : Ending) (w' : World) : Prop := e = .returned (.tuple #[.agg (hrow r.1.1), .agg (hrow r.1.2)]) ∧ CG w' b so ro v r.2.1 r.2.2 ∧ G2 b w w'
theorem results_two {fn : Func} {p q : Nat} (h : fn.results = #[.cell p 24, .cell q 24]) (tmps : Array Value) (w : World) (g1 g2 : Nat) (x y : List UInt8) (hx : x.length = 32) (hy : y.length = 32)
    (hp : tmps.getD p undef = .pointer (some ⟨g1, 0, none⟩)) (hq : tmps.getD q undef = .pointer (some ⟨g2, 0, none⟩)) (N1 : Blk w g1 (hrow x) 24) (N2 : Blk w g2 (hrow y) 24) :
    (results fn tmps).run Try.prog w = .ok (.tuple #[.agg (hrow x), .agg (hrow y)]) w := by
  have hp' : tmps[p]?.getD undef = .pointer (some ⟨g1, 0, none⟩) := by simpa using hp
  have hq' : tmps[q]?.getD undef = .pointer (some ⟨g2, 0, none⟩) := by simpa using hq
  have r1 := run_loadVar_row w g1 24 24 (hrow x) (0, 0) _ N1 Try.underlying24 rfl (hinfo' x hx)
  have r2 := run_loadVar_row w g2 24 24 (hrow y) (0, 0) _ N2 Try.underlying24 rfl (hinfo' y hy)
  simp [results, h, hp', hq', asAddr, r1, r2]
theorem load_take_cell (w : World) (b : Nat) (h : Blk w (b + 5) #[takeF b] 76) : (loadVar 76 ⟨b + 5, 0, none⟩).run Try.prog w = .ok (takeF b) w := by
  have c := h.cell 0 _ rfl
  go_simp
/-- Two variables of hashes, made. -/
theorem two_new (w : World) : Blk ((w.alloc (.cells hz 24)).alloc (.cells hz 24)) w.heap.size hz 24 ∧ Blk ((w.alloc (.cells hz 24)).alloc (.cells hz 24)) (w.heap.size + 1) hz 24 ∧ Below w.heap.size w ((w.alloc (.cells hz 24)).alloc (.cells hz 24)) := by
  refine ⟨(Blk.new w hz 24).alloc _, ?_, ((Below.refl _ _).alloc (Nat.le_refl _) _).alloc (by simp) _⟩
  have := Blk.new (w.alloc (.cells hz 24)) hz 24
  rwa [World.size_alloc] at this

end Go.Proofs.Ytjekdeikoebmgaa
