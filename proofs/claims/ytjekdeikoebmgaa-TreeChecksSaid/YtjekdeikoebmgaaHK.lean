/- A kit for walks over hashes in memory: loads, stores, new variables, lists that are built. Conditions: sizes. -/
import Derived.Test.YtjekdeikoebmgaaTrI
namespace Go.Proofs.Ytjekdeikoebmgaa
open Go.RowKit Go.Shelf Tr

theorem Calls.chain {P : Program} {f : FuncId} {args : Array Value} {B : Nat} {w w1 : World} {v : Value} (hB : Below B w w1) (hs : B ≤ w1.heap.size)
    (h : Calls P f args w1 fun e w' => e = .returned v ∧ Below w1.heap.size w1 w') : Calls P f args w1 fun e w' => e = .returned v ∧ Below B w w' ∧ Below w1.heap.size w1 w' :=
  h.mono fun _ _ ⟨he, hb⟩ => ⟨he, hB.trans (hb.mono hs), hb⟩
theorem wpList_load_hash {ops : Array Oper} {rest : List Oper} {o : Oper} {a : Act} {w : World} {Q : Exit → Act → World → Prop} (hw : Region.wanted o (yielded ops a.tmps) = true) (x : Operand) (ho : o.op = .load 24 x)
    (g : Nat) (hx : a.eval x = .pointer (some ⟨g, 0, none⟩)) (y : List UInt8) (hy : y.length = 32) (N : Blk w g (hrow y) 24) (h : wpList Try.prog ops Q rest (a.put o.dst (.agg (hrow y))) w) : wpList Try.prog ops Q (o :: rest) a w :=
  wpList_load_row_g hw 24 x ho g hx 24 _ _ _ N Try.underlying24 rfl (hinfo' y hy) h
theorem wpList_store_hash {ops : Array Oper} {rest : List Oper} {o : Oper} {a : Act} {w : World} {Q : Exit → Act → World → Prop} (hgd : o.guard = none) (x y : Operand) (ho : o.op = .store 24 x y)
    (g : Nat) (u : List UInt8) (hu : u.length = 32) (hx : a.eval x = .pointer (some ⟨g, 0, none⟩)) (hy : a.eval y = .agg (hrow u)) (old : Array Value) (N : Blk w g old 24) (hold : old.size = 32) (h : wpList Try.prog ops Q rest (a.put o.dst undef) (w.setRow g (hrow u))) : wpList Try.prog ops Q (o :: rest) a w :=
  wpList_store_row hgd 24 x y ho g (hrow u) hx hy 24 old N (hinfo' u hu) (by rw [hold, hrow_size hu]) (bytes_all u) h
theorem wpList_alloc_hash {ops : Array Oper} {rest : List Oper} {o : Oper} {a : Act} {w : World} {Q : Exit → Act → World → Prop} (hgd : o.guard = none) (ho : o.op = .alloc 24)
    (h : wpList Try.prog ops Q rest (a.put o.dst (.pointer (some ⟨w.heap.size, 0, none⟩))) (w.alloc (.cells hz 24))) : wpList Try.prog ops Q (o :: rest) a w :=
  wpList_alloc_row hgd 24 ho hz zeroHash h
theorem hz_len : hz.size = 32 := by kernel_rfl
theorem hz_row : hz = hrow (List.replicate 32 0) := by unfold hrow hz; rfl
theorem hz_len2 : (List.replicate 32 (0 : UInt8)).length = 32 := rfl
theorem wpList_zero_hash {ops : Array Oper} {rest : List Oper} {o : Oper} {a : Act} {w : World} {Q : Exit → Act → World → Prop} (hgd : o.guard = none) (ho : o.op = .build 24 #[])
    (h : wpList Try.prog ops Q rest (a.put o.dst (.agg hz)) w) : wpList Try.prog ops Q (o :: rest) a w :=
  wpList_build hgd 24 #[] ho (by kernel_rfl) (by rw [show ((Try.prog.built 24 ((#[] : Array (Nat × Operand)).map fun (i, x) => (i, a.eval x)).toList).getD #[]) = hz by kernel_rfl]; exact h)
/-- A variable of a hash that is made and stored at once. -/
theorem Blk.fresh (w : World) (R : Array Value) : (w.alloc (.cells hz 24)).setRow w.heap.size R = w.alloc (.cells R 24) := World.setRow_alloc_new ..
theorem After.hash {w : World} {g : Nat} {y : List UInt8} (h : Blk w g (hrow y) 24) (hy : y.length = 32) : ∀ x : After w, (loadVar 24 ⟨g, 0, none⟩).run Try.prog x.W = .ok (.agg (hrow y)) x.W := fun x =>
  run_loadVar_row x.W g _ _ (hrow y) (0, 0) _ (h.below x.hb h.lt) Try.underlying24 rfl (hinfo' y hy)
/-- A slice literal of hashes. -/
theorem run_buildH (hs : List (List UInt8)) (n : Nat) (hn : hs.length = n) (h0 : 1 ≤ n) (h1 : n ≤ 1000) (ha : All32 hs) (parts : Array (Nat × Value)) (hp : parts.toList = (hs.zipIdx 0).map fun p => (p.2, Value.agg (hrow p.1))) (w : World) :
    (Instr.buildSlice 32 n parts).run Try.prog w = .ok (.slice (some ⟨w.heap.size, 0, none⟩) n n) (w.alloc (.cells (hcells hs).toArray 24)) := by
  obtain ⟨i0, hi, hz0, hz1, _⟩ := info_parts infoHash
  have h := run_buildRows w 32 24 n 32 (hs.map hrow) i0 _ Try.underlying32 hi hz0 hz1 (by rw [List.length_map, hn]) (fun R hR => by
    obtain ⟨x, hx, rfl⟩ := List.mem_map.1 hR
    exact hrow_size (ha x hx)) (by omega) (by omega) parts (by
    rw [hp, List.zipIdx_map, List.map_map]; rfl)
  have e : ((hs.map hrow).flatMap (·.toList)) = hcells hs := by
    unfold hcells
    rw [List.flatMap_map]; rfl
  rw [e] at h
  exact h
theorem HArg.built (w : World) (hs : List (List UInt8)) (n : Nat) (hn : hs.length = n) : HArg (w.alloc (.cells (hcells hs).toArray 24)) (.slice (some ⟨w.heap.size, 0, none⟩) n n) hs := by
  refine HArg.of hn (Nat.le_refl _) fun j v hv => ?_
  rw [Nat.zero_add]
  exact (Blk.new w (hcells hs).toArray 24).cell j v (by simpa using hv)
theorem wpList_build_runG {P : Program} {ops : Array Oper} {rest : List Oper} {o : Oper} {a : Act} {w : World} {Q : Exit → Act → World → Prop} (hw : Region.wanted o (yielded ops a.tmps) = true) (t : TypeId) (len : Nat) (parts : Array (Nat × Operand)) (ho : o.op = .buildSlice t len parts)
    (vals : Array (Nat × Value)) (hp : (parts.toList.map fun (p : Nat × Operand) => (p.1, a.eval p.2)) = vals.toList) (v : Value) (w' : World) (hr : (Instr.buildSlice t len vals).run P w = .ok v w') (h : wpList P ops Q rest (a.put o.dst v) w') : wpList P ops Q (o :: rest) a w := by
  have hp2 : (parts.map fun (i, x) => (i, a.eval x)) = vals := by
    apply Array.toList_inj.1
    rw [Array.toList_map]; exact hp
  refine wpList_wanted hw fun K hK => ?_
  unfold Oper.wp execOp
  simp only [ho, hp2, hr, Sem.run_bind, Result.andThen_ok]
  exact hK _ _ h
theorem Same_built (hs : List (List UInt8)) (n : Nat) (hn : hs.length = n) (h1 : n ≤ 1000) (ha : All32 hs) (v : Value) (w : World) (hv : HArg w v hs) :
    Calls Try.prog 23 #[v, .slice (some ⟨w.heap.size, 0, none⟩) n n] (w.alloc (.cells (hcells hs).toArray 24)) fun e w' => e = .returned (.bool true) ∧ Below w.heap.size w w' := by
  have hb : Below w.heap.size w (w.alloc (.cells (hcells hs).toArray 24)) := (Below.refl _ _).alloc (Nat.le_refl _) _
  refine (Same_any hs hs ha ha v _ _ (hv.below hb) (HArg.built w hs n hn) (by omega) (by omega)).mono ?_
  rintro e w' ⟨rfl, h⟩
  exact ⟨by simp, hb.trans (h.mono hb.size)⟩
/-- Growth, whatever the number. -/
theorem Growth_yes (l : List (List UInt8)) (n : Nat) (v : Value) (w : World) (hS : Small l) (hA : SArg w v l) (h : n ≤ l.length) :
    Calls Try.prog 31 #[v, .int .i64 n] w (PathPost w (growth l n).1) := by
  unfold growth
  rw [if_neg (by omega)]
  by_cases h0 : n = 0 ∨ l.length = n
  · rw [if_pos (by omega)]
    refine (Growth_end l n v w hS hA h0).mono ?_
    rintro e w' ⟨rfl, rfl⟩
    exact ⟨_, rfl, OwnV.nil _ _ _, Below.refl _ _⟩
  · rw [if_neg (by omega)]
    exact Growth_mid l n v w hS hA (by omega) (by omega)
end Go.Proofs.Ytjekdeikoebmgaa
