/- Regions whose order is drawn, walked by hand; parts of a body; slices that are written out. Conditions: none. -/
import Derived.Test.YtdnabeldaighgaaCho
import Derived.OrdersHeld
namespace Go.Proofs.Ytdnabeldaighgaa
open Go.RowKit Go.Shelf Shr

theorem takeHd {P : Program} {md : Region.Mode} {S : World → Prop} {Q : Exit → Act → World → Prop} {l : List Oper} (fuel i : Nat) {oi : Oper} (v : Value) {listed : Array Bool} {a : Act} {w : World} (hi : l[i]? = some oi)
    (hs : Region.noSelect l.toArray = true) (hf : Region.free md l.toArray listed i = true) (hr : (Region.ready md l.toArray listed).contains i = true)
    (hQ : ∀ c a w, Q (.panic c) (a.put oi.dst v) w → Q (.panic c) a w) (hy : YieldsIf P l.toArray S oi v a) (hS : S w)
    (h : wpAnyH P md l.toArray Q S fuel (listed.setIfInBounds i true) (a.put oi.dst v) w) : wpAnyH P md l.toArray Q S (fuel + 1) listed a w :=
  wpAnyH_take (by simpa using hi) hs hf hr hQ hy hS h
theorem yieldsIf_load {P : Program} {ops : Array Oper} {S : World → Prop} {o : Oper} {a : Act} {R : Value} (hg : o.guard = none) (ty : TypeId) (x : Operand) (p : Addr) (hop : o.op = .load ty x) (hx : a.eval x = .pointer (some p))
    (hl : ∀ w, S w → (loadVar ty p).run P w = .ok R w) : YieldsIf P ops S o R a :=
  .inl ⟨by simp [Region.wanted, hg], fun w hS => by unfold execOp; simp [hop, hx, Instr.loadAt, Instr.sureAddr, hl w hS]⟩
/-- What stands behind the first n parts of a sequence. -/
def tailN : Nat → Code → Code
  | 0, c => c
  | n + 1, .seq _ b => tailN n b
  | _ + 1, _ => .skip
noncomputable def tailIn (f : Func) (n : Nat) : Code := (f.body.map (tailN n)).getD .skip
theorem wpList_build_runG {P : Program} {ops : Array Oper} {rest : List Oper} {o : Oper} {a : Act} {w : World} {Q : Exit → Act → World → Prop} (hw : Region.wanted o (yielded ops a.tmps) = true) (t : TypeId) (len : Nat) (parts : Array (Nat × Operand)) (ho : o.op = .buildSlice t len parts)
    (vals : Array (Nat × Value)) (hp : (parts.toList.map fun (p : Nat × Operand) => (p.1, a.eval p.2)) = vals.toList) (v : Value) (w' : World) (hr : (Instr.buildSlice t len vals).run P w = .ok v w') (h : wpList P ops Q rest (a.put o.dst v) w') : wpList P ops Q (o :: rest) a w := by
  have hp2 : (parts.map fun (i, x) => (i, a.eval x)) = vals := by
    apply Array.toList_inj.1
    rw [Array.toList_map]; exact hp
  refine wpList_wanted hw fun K hK => ?_
  unfold Oper.wp execOp
  simp only [ho, hp2, hr, Sem.run_bind, Result.andThen_ok]
  exact hK _ _ h
theorem built_shares (w : World) (l : List (Int × Int)) (n : Nat) (hl : l.length = n) (h1 : 1 ≤ n) (h9 : n ≤ 1000) (parts : Array (Nat × Value)) (hp : parts.toList = (l.zipIdx 0).map fun p => (p.2, Value.agg #[I p.1.1, I p.1.2])) :
    (Instr.buildSlice 25 n parts).run Try.prog w = .ok (.slice (some ⟨w.heap.size, 0, none⟩) n n) (w.alloc (.cells (shc l).toArray 33)) := by
  obtain ⟨i0, hi, hz0, hz1, _⟩ := info_parts infoSh
  have h := run_buildRows w 25 33 n 2 (l.map fun p => #[I p.1, I p.2]) i0 _ Try.underlying25 hi hz0 hz1 (by simp [hl]) (by
    intro R hR
    obtain ⟨p, _, rfl⟩ := List.mem_map.1 hR
    rfl) (by omega) (by omega) parts (by
    rw [hp, List.zipIdx_map, List.map_map]; rfl)
  rw [h]
  congr 3
  unfold shc
  rw [List.flatMap_map]
theorem ShArg.built (w : World) (l : List (Int × Int)) (n : Nat) (hn : l.length = n) : ShArg (w.alloc (.cells (shc l).toArray 33)) (.slice (some ⟨w.heap.size, 0, none⟩) n n) l := by
  refine ShArg.of hn (Nat.le_refl _) fun i p hp => ?_
  obtain ⟨e1, e2⟩ := shc_get l i p hp
  have B := Blk.new w (shc l).toArray 33
  rw [Nat.zero_add]
  exact ⟨B.cell _ _ (by simpa using e1), B.cell _ _ (by simpa using e2)⟩
theorem two_ints (w : World) (x y : Int) : (Instr.buildSlice 22 2 #[(0, I x), (1, I y)]).run Try.prog w = .ok (.slice (some ⟨w.heap.size, 0, none⟩) 2 2) (w.alloc (.cells #[I x, I y] 3)) := by
  obtain ⟨i0, hi, hz0, hz1, _⟩ := info_parts infoInt
  exact run_buildSlice w 22 3 2 _ _ i0 _ Try.underlying22 hi hz0 (by rw [hz1]; decide) (by rw [hz1]; decide) (by rw [hz1]; kernel_rfl)
theorem IArg.built2 (w : World) (x y : Int) : IArg (w.alloc (.cells #[I x, I y] 3)) (.slice (some ⟨w.heap.size, 0, none⟩) 2 2) [x, y] := by
  refine IArg.of rfl (Nat.le_refl _) fun i z hz => ?_
  have B := Blk.new w #[I x, I y] 3
  rw [Nat.zero_add]
  match i, hz with
  | 0, hz => simp at hz; subst hz; exact B.cell 0 _ rfl
  | 1, hz => simp at hz; subst hz; exact B.cell 1 _ rfl
theorem IArg.built1 (w : World) (x : Int) : IArg (w.alloc (.cells #[I x] 3)) (.slice (some ⟨w.heap.size, 0, none⟩) 1 1) [x] := by
  refine IArg.of rfl (Nat.le_refl _) fun i z hz => ?_
  have B := Blk.new w #[I x] 3
  rw [Nat.zero_add]
  match i, hz with
  | 0, hz => simp at hz; subst hz; exact B.cell 0 _ rfl
end Go.Proofs.Ytdnabeldaighgaa
