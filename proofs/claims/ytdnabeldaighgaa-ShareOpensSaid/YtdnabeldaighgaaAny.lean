/- A region whose order is drawn, walked by hand: one operation at a time. No program here. Conditions: none. -/
import Derived.Test.YtdnabeldaighgaaKitB
import Derived.Deep.MidRow
namespace Go.Proofs.Ytdnabeldaighgaa
open Go.RowKit Go.Shelf

theorem wpOp_load {P : Program} {ops : Array Oper} {Q : Exit → Act → World → Prop} {K : Act → World → Prop} {i : Nat} {o : Oper} {a : Act} {w : World} (ho : ops[i]? = some o) (hg : o.guard = none) (ty : TypeId) (x : Operand) (hop : o.op = .load ty x)
    (p : Addr) (R : Value) (hx : a.eval x = .pointer (some p)) (hl : (loadVar ty p).run P w = .ok R w) (h : K (a.put o.dst R) w) : wpOp P ops Q i K a w := by
  unfold wpOp
  simp only [ho]
  rw [if_pos (by simp [Region.wanted, hg])]
  refine .inl ?_
  unfold Oper.wp execOp
  simp only [hop, hx, Instr.loadAt, Instr.sureAddr, Sem.run_bind, Sem.run_pure, Result.andThen_ok, hl]
  exact h
theorem wpOp_store {P : Program} {ops : Array Oper} {Q : Exit → Act → World → Prop} {K : Act → World → Prop} {i : Nat} {o : Oper} {a : Act} {w w' : World} (ho : ops[i]? = some o) (hg : o.guard = none) (ty : TypeId) (x y : Operand) (hop : o.op = .store ty x y)
    (b off : Nat) (cells : Array Value) (hx : a.eval x = .pointer (some ⟨b, off, none⟩)) (hy : a.eval y = .agg cells) (hs : (Instr.storeAt ty (.pointer (some ⟨b, off, none⟩)) (.agg cells)).run P w = .ok () w') (h : K (a.put o.dst undef) w') : wpOp P ops Q i K a w := by
  unfold wpOp
  simp only [ho]
  rw [if_pos (by simp [Region.wanted, hg])]
  refine .inl ?_
  unfold Oper.wp execOp
  simp only [hop, hx, hy, Sem.run_bind, Sem.run_pure, Result.andThen_ok, hs]
  exact h
theorem yields_move {P : Program} {ops : Array Oper} {o : Oper} {a : Act} {x : Operand} {v : Value} (hop : o.op = .move x) (hg : o.guard = none) (hv : a.eval x = v) : Yields P ops o v a :=
  .inl ⟨by simp [Region.wanted, hg], fun w => by unfold execOp; simp [hop, hv]⟩
theorem yields_index {P : Program} {ops : Array Oper} {o : Oper} {a : Act} {t : TypeId} {x y : Operand} {u i v : Value} (hop : o.op = .indexAddr t x y) (hg : o.guard = none) (hx : a.eval x = u) (hy : a.eval y = i) (hr : ∀ w, (Instr.indexAt t u i).run P w = .ok v w) : Yields P ops o v a :=
  .inl ⟨by simp [Region.wanted, hg], fun w => by unfold execOp; simp [hop, hx, hy, hr w]⟩
theorem takeL {P : Program} {md : Region.Mode} {Q : Exit → Act → World → Prop} {l : List Oper} (fuel i : Nat) {oi : Oper} (v : Value) {listed : Array Bool} {a : Act} {w : World} (hi : l[i]? = some oi)
    (hs : Region.noSelect l.toArray = true) (hf : Region.free md l.toArray listed i = true) (hr : (Region.ready md l.toArray listed).contains i = true)
    (hQ : ∀ c a w, Q (.panic c) (a.put oi.dst v) w → Q (.panic c) a w) (hy : Yields P l.toArray oi v a)
    (h : wpAny P md l.toArray Q fuel (listed.setIfInBounds i true) (a.put oi.dst v) w) : wpAny P md l.toArray Q (fuel + 1) listed a w :=
  wpAny_take (by simpa using hi) hs hf hr hQ hy h
theorem loadL {P : Program} {l : List Oper} {Q : Exit → Act → World → Prop} {K : Act → World → Prop} {i : Nat} {o : Oper} {a : Act} {w : World} (ho : l[i]? = some o) (hg : o.guard = none) (ty : TypeId) (x : Operand) (hop : o.op = .load ty x)
    (p : Addr) (R : Value) (hx : a.eval x = .pointer (some p)) (hl : (loadVar ty p).run P w = .ok R w) (h : K (a.put o.dst R) w) : wpOp P l.toArray Q i K a w :=
  wpOp_load (by simpa using ho) hg ty x hop p R hx hl h
theorem storeL {P : Program} {l : List Oper} {Q : Exit → Act → World → Prop} {K : Act → World → Prop} {i : Nat} {o : Oper} {a : Act} {w w' : World} (ho : l[i]? = some o) (hg : o.guard = none) (ty : TypeId) (x y : Operand) (hop : o.op = .store ty x y)
    (b off : Nat) (cells : Array Value) (hx : a.eval x = .pointer (some ⟨b, off, none⟩)) (hy : a.eval y = .agg cells) (hs : (Instr.storeAt ty (.pointer (some ⟨b, off, none⟩)) (.agg cells)).run P w = .ok () w') (h : K (a.put o.dst undef) w') : wpOp P l.toArray Q i K a w :=
  wpOp_store (by simpa using ho) hg ty x y hop b off cells hx hy hs h
/-- A call of a Go function. -/
theorem callL {P : Program} {l : List Oper} {Q : Exit → Act → World → Prop} {K : Act → World → Prop} {i : Nat} {o : Oper} {a : Act} {w : World} (ho : l[i]? = some o) (hg : o.guard = none) (h : o.wp P a w K Q) : wpOp P l.toArray Q i K a w := by
  unfold wpOp
  simp only [List.getElem?_toArray, ho]
  rw [if_pos (by simp [Region.wanted, hg])]
  exact .inl h
theorem buildL {P : Program} {l : List Oper} {Q : Exit → Act → World → Prop} {K : Act → World → Prop} {i : Nat} {o : Oper} {a : Act} {w w' : World} (ho : l[i]? = some o) (hg : o.guard = none) (t : TypeId) (len : Nat) (parts : Array (Nat × Operand)) (hop : o.op = .buildSlice t len parts)
    (vals : Array (Nat × Value)) (hp : (parts.toList.map fun (p : Nat × Operand) => (p.1, a.eval p.2)) = vals.toList) (v : Value) (hr : (Instr.buildSlice t len vals).run P w = .ok v w') (h : K (a.put o.dst v) w') : wpOp P l.toArray Q i K a w := by
  have hp2 : (parts.map fun (i, x) => (i, a.eval x)) = vals := by
    apply Array.toList_inj.1
    rw [Array.toList_map]; exact hp
  refine callL ho hg ?_
  unfold Oper.wp execOp
  simp only [hop, hp2, hr, Sem.run_bind, Result.andThen_ok]
  exact h
theorem appendL {P : Program} {l : List Oper} {Q : Exit → Act → World → Prop} {K : Act → World → Prop} {i : Nat} {o : Oper} {a : Act} {w w' : World} (ho : l[i]? = some o) (hg : o.guard = none) (s x : Operand) (t tx : TypeId) (hop : o.op = .call { callee := .builtin .append, args := #[s, x], argTypes := #[t, tx] })
    (v u : Value) (hs : a.eval s = v) (hx : a.eval x = u) (r : Value) (hr : (Builtin.append_ #[t, tx] o.type #[v, u]).run P w = .ok r w') (h : K (a.put o.dst r) w') : wpOp P l.toArray Q i K a w := by
  refine callL ho hg ?_
  unfold Oper.wp execOp
  simp only [hop, resolve, invoke, builtin, Sem.run_bind, Sem.run_pure, Result.andThen_ok, List.map_toArray, List.map_cons, List.map_nil, hs, hx, hr]
  exact h
theorem put_none (a : Act) (v : Value) : a.put none v = a := rfl
end Go.Proofs.Ytdnabeldaighgaa
