/- Stores, new variables and loads in a region that is walked by hand. Conditions: none. -/
import Derived.Test.YtdnabeldaighgaaPlb
namespace Go.Proofs.Ytdnabeldaighgaa
open Go.RowKit Go.Shelf Shr

theorem storeRowL {P : Program} {l : List Oper} {Q : Exit → Act → World → Prop} {K : Act → World → Prop} {i : Nat} {o : Oper} {a : Act} {w : World} (ho : l[i]? = some o) (hg : o.guard = none) (ty : TypeId) (x y : Operand) (hop : o.op = .store ty x y)
    (g : Nat) (cs : Array Value) (hx : a.eval x = .pointer (some ⟨g, 0, none⟩)) (hy : a.eval y = .agg cs) (t : TypeId) (old : Array Value) (N : Blk w g old t) (hi : (P.info? ty).map (·.size) = some cs.size) (hs : old.size = cs.size) (h1 : cs.all (·.oneCell') = true)
    (h : K (a.put o.dst undef) (w.setRow g cs)) : wpOp P l.toArray Q i K a w :=
  callL ho hg (wp_store_row ty x y hop g cs hx hy t old N hi hs h1 h)
theorem allocL {P : Program} {l : List Oper} {Q : Exit → Act → World → Prop} {K : Act → World → Prop} {i : Nat} {o : Oper} {a : Act} {w : World} (ho : l[i]? = some o) (hg : o.guard = none) (t : TypeId) (hop : o.op = .alloc t)
    (zc : Array Value) (hz : (P.info? t).bind (·.zero) = some (.agg zc)) (h : K (a.put o.dst (.pointer (some ⟨w.heap.size, 0, none⟩))) (w.alloc (.cells zc t))) : wpOp P l.toArray Q i K a w := by
  refine callL ho hg ?_
  cases hi : P.info? t with
  | none => rw [hi] at hz; cases hz
  | some i =>
    rw [hi] at hz
    have hz : i.zero = some (.agg zc) := by simpa using hz
    unfold Oper.wp execOp
    simp [hop, Instr.alloc, zeroValue, typeInfo, hi, hz, newVar, Value.cells]
    exact h
theorem load_slice (w : World) (b o : Nat) (v : Value) (c : w.cell? ⟨b, o, none⟩ = some v) : (loadVar 22 ⟨b, o, none⟩).run Try.prog w = .ok v w := by go_simp
theorem load_int (w : World) (b o : Nat) (v : Value) (c : w.cell? ⟨b, o, none⟩ = some v) : (loadVar 3 ⟨b, o, none⟩).run Try.prog w = .ok v w := by go_simp
end Go.Proofs.Ytdnabeldaighgaa
