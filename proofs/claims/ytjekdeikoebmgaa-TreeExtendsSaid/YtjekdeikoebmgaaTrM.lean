/- The drawn regions of the closure walk. Conditions: sizes. -/
import Derived.Test.YtjekdeikoebmgaaTrL
import Derived.Test.YtjekdeikoebmgaaKit
namespace Go.Proofs.Ytjekdeikoebmgaa
open Go.RowKit Go.Shelf Tr

theorem Blk.range {w : World} {g : Nat} {y : List UInt8} (h : Blk w g (hrow y) 24) : w.rangeAt g 0 (y.map Y) := fun j v hv => by
  rw [Nat.zero_add]
  exact h.cell j v (by unfold hrow; simpa using hv)
theorem loadHL {l : List Oper} {Q : Exit → Act → World → Prop} {K : Act → World → Prop} {i : Nat} {o : Oper} {a : Act} {w : World} (ho : l[i]? = some o) (hg : o.guard = none) (x : Operand) (hop : o.op = .load 24 x)
    (g off : Nat) (hx : a.eval x = .pointer (some ⟨g, off, none⟩)) (y : List UInt8) (hy : y.length = 32) (N : w.rangeAt g off (y.map Y)) (h : K (a.put o.dst (.agg (hrow y))) w) : wpOp Try.prog l.toArray Q i K a w :=
  loadL ho hg 24 x hop ⟨g, off, none⟩ _ hx (load_hash w g off y hy N) h
theorem storeHL {l : List Oper} {Q : Exit → Act → World → Prop} {K : Act → World → Prop} {i : Nat} {o : Oper} {a : Act} {w : World} (ho : l[i]? = some o) (hg : o.guard = none) (x y : Operand) (hop : o.op = .store 24 x y)
    (g : Nat) (u : List UInt8) (hu : u.length = 32) (hx : a.eval x = .pointer (some ⟨g, 0, none⟩)) (hy : a.eval y = .agg (hrow u)) (old : Array Value) (N : Blk w g old 24) (hold : old.size = 32) (h : K (a.put o.dst undef) (w.setRow g (hrow u))) : wpOp Try.prog l.toArray Q i K a w :=
  callL ho hg (wp_store_row 24 x y hop g (hrow u) hx hy 24 old N (hinfo' u hu) (by rw [hold, hrow_size hu]) (bytes_all u) h)
theorem yields_field {P : Program} {ops : Array Oper} {o : Oper} {a : Act} {v : Value} (hg : o.guard = none) (h : ∀ w, (execOp a.eval o).run P w = .ok (.value v) w) : Yields P ops o v a := .inl ⟨by simp [Region.wanted, hg], h⟩
/-- All lies as it lay, but the number, the mark and two rows. -/
structure X4 (b s : Nat) (w w' : World) : Prop where
  os : w'.os = w.os
  tape : w'.tape = w.tape
  output : w'.output = w.output
  size : w.heap.size ≤ w'.heap.size
  block : ∀ i, i < w.heap.size → i ≠ b + 3 → i ≠ b + 4 → i ≠ s → i ≠ s + 1 → w'.heap[i]? = w.heap[i]?
theorem X4.refl (b s : Nat) (w : World) : X4 b s w w := ⟨rfl, rfl, rfl, Nat.le_refl _, fun _ _ _ _ _ _ => rfl⟩
theorem X4.trans {b s : Nat} {x y z : World} (h : X4 b s x y) (k : X4 b s y z) : X4 b s x z := ⟨k.os.trans h.os, k.tape.trans h.tape, k.output.trans h.output, Nat.le_trans h.size k.size, fun i hi h3 h4 h5 h6 => (k.block i (Nat.lt_of_lt_of_le hi h.size) h3 h4 h5 h6).trans (h.block i hi h3 h4 h5 h6)⟩
theorem X4.of {b s : Nat} {x y : World} (h : Below x.heap.size x y) : X4 b s x y := ⟨h.os, h.tape, h.output, h.size, fun i hi _ _ _ _ => h.block i hi⟩
theorem X4.of2 {b s : Nat} {x y : World} (h : G2 b x y) : X4 b s x y := ⟨h.os, h.tape, h.output, h.size, fun i hi h3 h4 _ _ => h.block i hi h3 h4⟩
theorem X4.row {b s : Nat} {x y : World} (h : X4 b s x y) {g : Nat} (hg : g = s ∨ g = s + 1) (cs : Array Value) : X4 b s x (y.setRow g cs) :=
  ⟨h.os, h.tape, h.output, by simpa using h.size, fun j hj h3 h4 h5 h6 => by rw [setRow_other _ _ _ _ (by omega)]; exact h.block j hj h3 h4 h5 h6⟩
theorem X4.g2 {b s : Nat} {w0 w w' : World} (h : X4 b s w w') (k : G2 b w0 w) (hs : w0.heap.size ≤ s) : G2 b w0 w' :=
  ⟨h.os.trans k.os, h.tape.trans k.tape, h.output.trans k.output, Nat.le_trans k.size h.size, fun i hi h3 h4 => (h.block i (Nat.lt_of_lt_of_le hi k.size) h3 h4 (by omega) (by omega)).trans (k.block i hi h3 h4)⟩

set_option maxRecDepth 100000 in
set_option maxHeartbeats 1000000 in
theorem wk_r3 (u0 u1 u2 u4 u5 u6 u7 u8 u11 u12 u13 u14 u15 u16 u17 u18 u19 u20 u21 u22 u23 u24 u25 u26 u27 u28 u29 u30 u31 u32 u33 u34 u35 u36 u37 u38 u39 u40 u41 u42 u43 u44 u45 u46 u47 u48 u49 u50 u51 u52 u53 u54 u55 u56 u57 u58 u59 u60 u61 u62 : Value) (b s : Nat) (so : Int) (ro : List UInt8) (v : Value) (k : Nat) (ok : Bool) (w : World) (hG : CG w b so ro v k ok) (hbs : b + 6 < s)(hr : ro.length = 32) (hN9 : Blk w s hz 24) (hN10 : Blk w (s + 1) hz 24) (Q : Exit → Act → World → Prop)
    (h : ∀ (y18 y19 y20 y21 : Value) (w' : World), CG w' b so ro v k ok → Blk w' s (hrow ro) 24 → Blk w' (s + 1) (hrow ro) 24 → X4 b s w w' → Q .normal ⟨(u0 :: u1 :: u2 :: (.pointer (some ⟨b, 0, none⟩)) :: u4 :: u5 :: u6 :: u7 :: u8 :: (.pointer (some ⟨s, 0, none⟩)) :: (.pointer (some ⟨s + 1, 0, none⟩)) :: u11 :: u12 :: u13 :: u14 :: u15 :: u16 :: u17 :: y18 :: y19 :: y20 :: y21 :: u22 :: u23 :: u24 :: u25 :: u26 :: u27 :: u28 :: u29 :: u30 :: u31 :: u32 :: u33 :: u34 :: u35 :: u36 :: u37 :: u38 :: u39 :: u40 :: u41 :: u42 :: u43 :: u44 :: u45 :: u46 :: u47 :: u48 :: u49 :: u50 :: u51 :: u52 :: u53 :: u54 :: u55 :: u56 :: u57 :: u58 :: u59 :: u60 :: u61 :: u62 :: []).toArray, []⟩ w') : Code.wp Try.prog (regionIn Try.f49 3) Q ⟨(u0 :: u1 :: u2 :: (.pointer (some ⟨b, 0, none⟩)) :: u4 :: u5 :: u6 :: u7 :: u8 :: (.pointer (some ⟨s, 0, none⟩)) :: (.pointer (some ⟨s + 1, 0, none⟩)) :: u11 :: u12 :: u13 :: u14 :: u15 :: u16 :: u17 :: u18 :: u19 :: u20 :: u21 :: u22 :: u23 :: u24 :: u25 :: u26 :: u27 :: u28 :: u29 :: u30 :: u31 :: u32 :: u33 :: u34 :: u35 :: u36 :: u37 :: u38 :: u39 :: u40 :: u41 :: u42 :: u43 :: u44 :: u45 :: u46 :: u47 :: u48 :: u49 :: u50 :: u51 :: u52 :: u53 :: u54 :: u55 :: u56 :: u57 :: u58 :: u59 :: u60 :: u61 :: u62 :: []).toArray, []⟩ w := by
  have HX := Lib.hid h
  clear h
  have HG : CG { w with drawn := w.drawn + 1 } b so ro v k ok := hG.drew
  have HK : X4 b s w { w with drawn := w.drawn + 1 } := X4.of ((Below.refl _ _).drew)
  have N9 : Blk { w with drawn := w.drawn + 1 } s hz 24 := hN9
  have N10 : Blk { w with drawn := w.drawn + 1 } (s + 1) hz 24 := hN10
  clear hG hN9 hN10
  conv => arg 2; whnf
  refine wp_region_noPanic ?_
  refine wp_region_any (by kernel_rfl) ?_
  generalize ({ w with drawn := w.drawn + 1 } : World) = w0 at *
  refine takeL 5 0 (.pointer (some ⟨b, 1, none⟩)) rfl (by kernel_rfl) (by kernel_rfl) (by kernel_rfl) (fun _ _ _ h => h) (yields_field rfl (fun w => by unfold execOp; go_simp)) ?_
  simp only [Act.put, List.setIfInBounds_toArray, List.set_cons_zero, List.set_cons_succ]
  refine takeL 4 2 (.pointer (some ⟨b, 1, none⟩)) rfl (by kernel_rfl) (by kernel_rfl) (by kernel_rfl) (fun _ _ _ h => h) (yields_field rfl (fun w => by unfold execOp; go_simp)) ?_
  simp only [Act.put, List.setIfInBounds_toArray, List.set_cons_zero, List.set_cons_succ]
  refine wpAny_all (fuel := 3) (rs := [1, 3]) (by kernel_rfl) (by simp) ?_
  intro i hi
  rcases List.mem_cons.1 hi with rfl | hi
  · skip
    refine loadHL rfl rfl (.tmp 18) rfl b 1 rfl ro hr (Blk.root HG.old) ?_
    simp only [Act.put, List.setIfInBounds_toArray, List.set_cons_zero, List.set_cons_succ]
    refine wpAny_all (fuel := 2) (rs := [3, 4]) (by kernel_rfl) (by simp) ?_
    intro i hi
    rcases List.mem_cons.1 hi with rfl | hi
    · skip
      refine loadHL rfl rfl (.tmp 20) rfl b 1 rfl ro hr (Blk.root HG.old) ?_
      simp only [Act.put, List.setIfInBounds_toArray, List.set_cons_zero, List.set_cons_succ]
      refine wpAny_all (fuel := 1) (rs := [4]) (by kernel_rfl) (by simp) ?_
      intro i hi
      obtain rfl := List.mem_singleton.1 hi
      refine storeHL rfl rfl (.tmp 9) (.tmp 19) rfl (s) (ro) hr rfl rfl _ N9 (by first | exact hz_len | exact hrow_size (by assumption)) ?_
      simp only [Act.put]
      have HG := HG.setRow (s) (by omega) (hrow (ro))
      have HK := HK.row (by first | exact .inl rfl | exact .inr rfl) (hrow (ro)) (g := s)
      have N9 := N9.row (hrow (ro))
      have N10 := N10.rowOther (hrow (ro)) (show _ ≠ s by omega)
      refine wpAny_all (fuel := 0) (rs := [5]) (by kernel_rfl) (by simp) ?_
      intro i hi
      obtain rfl := List.mem_singleton.1 hi
      refine storeHL rfl rfl (.tmp 10) (.tmp 21) rfl (s + 1) (ro) hr rfl rfl _ N10 (by first | exact hz_len | exact hrow_size (by assumption)) ?_
      simp only [Act.put]
      have HG := HG.setRow (s + 1) (by omega) (hrow (ro))
      have HK := HK.row (by first | exact .inl rfl | exact .inr rfl) (hrow (ro)) (g := s + 1)
      have N10 := N10.row (hrow (ro))
      have N9 := N9.rowOther (hrow (ro)) (show _ ≠ s + 1 by omega)
      refine wpAny_done (by kernel_rfl) ?_ 0
      exact HX.out _ _ _ _ _ HG N9 N10 HK
    · skip
      obtain rfl := List.mem_singleton.1 hi
      refine storeHL rfl rfl (.tmp 9) (.tmp 19) rfl (s) (ro) hr rfl rfl _ N9 (by first | exact hz_len | exact hrow_size (by assumption)) ?_
      simp only [Act.put]
      have HG := HG.setRow (s) (by omega) (hrow (ro))
      have HK := HK.row (by first | exact .inl rfl | exact .inr rfl) (hrow (ro)) (g := s)
      have N9 := N9.row (hrow (ro))
      have N10 := N10.rowOther (hrow (ro)) (show _ ≠ s by omega)
      refine wpAny_all (fuel := 1) (rs := [3]) (by kernel_rfl) (by simp) ?_
      intro i hi
      obtain rfl := List.mem_singleton.1 hi
      refine loadHL rfl rfl (.tmp 20) rfl b 1 rfl ro hr (Blk.root HG.old) ?_
      simp only [Act.put, List.setIfInBounds_toArray, List.set_cons_zero, List.set_cons_succ]
      refine wpAny_all (fuel := 0) (rs := [5]) (by kernel_rfl) (by simp) ?_
      intro i hi
      obtain rfl := List.mem_singleton.1 hi
      refine storeHL rfl rfl (.tmp 10) (.tmp 21) rfl (s + 1) (ro) hr rfl rfl _ N10 (by first | exact hz_len | exact hrow_size (by assumption)) ?_
      simp only [Act.put]
      have HG := HG.setRow (s + 1) (by omega) (hrow (ro))
      have HK := HK.row (by first | exact .inl rfl | exact .inr rfl) (hrow (ro)) (g := s + 1)
      have N10 := N10.row (hrow (ro))
      have N9 := N9.rowOther (hrow (ro)) (show _ ≠ s + 1 by omega)
      refine wpAny_done (by kernel_rfl) ?_ 0
      exact HX.out _ _ _ _ _ HG N9 N10 HK
  · skip
    obtain rfl := List.mem_singleton.1 hi
    refine loadHL rfl rfl (.tmp 20) rfl b 1 rfl ro hr (Blk.root HG.old) ?_
    simp only [Act.put, List.setIfInBounds_toArray, List.set_cons_zero, List.set_cons_succ]
    refine wpAny_all (fuel := 2) (rs := [1]) (by kernel_rfl) (by simp) ?_
    intro i hi
    obtain rfl := List.mem_singleton.1 hi
    refine loadHL rfl rfl (.tmp 18) rfl b 1 rfl ro hr (Blk.root HG.old) ?_
    simp only [Act.put, List.setIfInBounds_toArray, List.set_cons_zero, List.set_cons_succ]
    refine wpAny_all (fuel := 1) (rs := [4]) (by kernel_rfl) (by simp) ?_
    intro i hi
    obtain rfl := List.mem_singleton.1 hi
    refine storeHL rfl rfl (.tmp 9) (.tmp 19) rfl (s) (ro) hr rfl rfl _ N9 (by first | exact hz_len | exact hrow_size (by assumption)) ?_
    simp only [Act.put]
    have HG := HG.setRow (s) (by omega) (hrow (ro))
    have HK := HK.row (by first | exact .inl rfl | exact .inr rfl) (hrow (ro)) (g := s)
    have N9 := N9.row (hrow (ro))
    have N10 := N10.rowOther (hrow (ro)) (show _ ≠ s by omega)
    refine wpAny_all (fuel := 0) (rs := [5]) (by kernel_rfl) (by simp) ?_
    intro i hi
    obtain rfl := List.mem_singleton.1 hi
    refine storeHL rfl rfl (.tmp 10) (.tmp 21) rfl (s + 1) (ro) hr rfl rfl _ N10 (by first | exact hz_len | exact hrow_size (by assumption)) ?_
    simp only [Act.put]
    have HG := HG.setRow (s + 1) (by omega) (hrow (ro))
    have HK := HK.row (by first | exact .inl rfl | exact .inr rfl) (hrow (ro)) (g := s + 1)
    have N10 := N10.row (hrow (ro))
    have N9 := N9.rowOther (hrow (ro)) (show _ ≠ s + 1 by omega)
    refine wpAny_done (by kernel_rfl) ?_ 0
    exact HX.out _ _ _ _ _ HG N9 N10 HK
set_option maxRecDepth 100000 in
set_option maxHeartbeats 1000000 in
theorem wk_r5 (u0 u1 u2 u3 u4 u5 u6 u7 u8 u12 u13 u14 u15 u16 u17 u18 u19 u20 u21 u22 u23 u24 u25 u26 u27 u28 u29 u30 u31 u32 u33 u34 u35 u36 u37 u38 u39 u40 u41 u42 u43 u44 u45 u46 u47 u48 u49 u50 u51 u52 u53 u54 u55 u56 u57 u58 u59 u60 u61 u62 : Value) (b s : Nat) (so : Int) (ro : List UInt8) (v : Value) (k : Nat) (ok : Bool) (x : List UInt8) (c : Nat) (w : World) (hG : CG w b so ro v k ok) (hbs : b + 6 < s)(hx : x.length = 32) (hc : c ≠ s) (hc2 : c ≠ s + 1) (hNC : Blk w c (hrow x) 24) (hN9 : Blk w s hz 24) (hN10 : Blk w (s + 1) hz 24) (Q : Exit → Act → World → Prop)
    (h : ∀ (y24 y25 : Value) (w' : World), CG w' b so ro v k ok → Blk w' s (hrow x) 24 → Blk w' (s + 1) (hrow x) 24 → X4 b s w w' → Q .normal ⟨(u0 :: u1 :: u2 :: u3 :: u4 :: u5 :: u6 :: u7 :: u8 :: (.pointer (some ⟨s, 0, none⟩)) :: (.pointer (some ⟨s + 1, 0, none⟩)) :: (.pointer (some ⟨c, 0, none⟩)) :: u12 :: u13 :: u14 :: u15 :: u16 :: u17 :: u18 :: u19 :: u20 :: u21 :: u22 :: u23 :: y24 :: y25 :: u26 :: u27 :: u28 :: u29 :: u30 :: u31 :: u32 :: u33 :: u34 :: u35 :: u36 :: u37 :: u38 :: u39 :: u40 :: u41 :: u42 :: u43 :: u44 :: u45 :: u46 :: u47 :: u48 :: u49 :: u50 :: u51 :: u52 :: u53 :: u54 :: u55 :: u56 :: u57 :: u58 :: u59 :: u60 :: u61 :: u62 :: []).toArray, []⟩ w') : Code.wp Try.prog (regionIn Try.f49 5) Q ⟨(u0 :: u1 :: u2 :: u3 :: u4 :: u5 :: u6 :: u7 :: u8 :: (.pointer (some ⟨s, 0, none⟩)) :: (.pointer (some ⟨s + 1, 0, none⟩)) :: (.pointer (some ⟨c, 0, none⟩)) :: u12 :: u13 :: u14 :: u15 :: u16 :: u17 :: u18 :: u19 :: u20 :: u21 :: u22 :: u23 :: u24 :: u25 :: u26 :: u27 :: u28 :: u29 :: u30 :: u31 :: u32 :: u33 :: u34 :: u35 :: u36 :: u37 :: u38 :: u39 :: u40 :: u41 :: u42 :: u43 :: u44 :: u45 :: u46 :: u47 :: u48 :: u49 :: u50 :: u51 :: u52 :: u53 :: u54 :: u55 :: u56 :: u57 :: u58 :: u59 :: u60 :: u61 :: u62 :: []).toArray, []⟩ w := by
  have HX := Lib.hid h
  clear h
  have HG : CG { w with drawn := w.drawn + 1 } b so ro v k ok := hG.drew
  have HK : X4 b s w { w with drawn := w.drawn + 1 } := X4.of ((Below.refl _ _).drew)
  have N9 : Blk { w with drawn := w.drawn + 1 } s hz 24 := hN9
  have N10 : Blk { w with drawn := w.drawn + 1 } (s + 1) hz 24 := hN10
  clear hG hN9 hN10
  have NC : Blk { w with drawn := w.drawn + 1 } c (hrow x) 24 := hNC
  clear hNC
  conv => arg 2; whnf
  refine wp_region_noPanic ?_
  refine wp_region_any (by kernel_rfl) ?_
  generalize ({ w with drawn := w.drawn + 1 } : World) = w0 at *
  refine wpAny_all (fuel := 3) (rs := [0, 1]) (by kernel_rfl) (by simp) ?_
  intro i hi
  rcases List.mem_cons.1 hi with rfl | hi
  · skip
    refine loadHL rfl rfl (.tmp 11) rfl c 0 rfl x hx NC.range ?_
    simp only [Act.put, List.setIfInBounds_toArray, List.set_cons_zero, List.set_cons_succ]
    refine wpAny_all (fuel := 2) (rs := [1, 2]) (by kernel_rfl) (by simp) ?_
    intro i hi
    rcases List.mem_cons.1 hi with rfl | hi
    · skip
      refine loadHL rfl rfl (.tmp 11) rfl c 0 rfl x hx NC.range ?_
      simp only [Act.put, List.setIfInBounds_toArray, List.set_cons_zero, List.set_cons_succ]
      refine wpAny_all (fuel := 1) (rs := [2]) (by kernel_rfl) (by simp) ?_
      intro i hi
      obtain rfl := List.mem_singleton.1 hi
      refine storeHL rfl rfl (.tmp 9) (.tmp 24) rfl (s) (x) hx rfl rfl _ N9 (by first | exact hz_len | exact hrow_size (by assumption)) ?_
      simp only [Act.put]
      have HG := HG.setRow (s) (by omega) (hrow (x))
      have HK := HK.row (by first | exact .inl rfl | exact .inr rfl) (hrow (x)) (g := s)
      have N9 := N9.row (hrow (x))
      have N10 := N10.rowOther (hrow (x)) (show _ ≠ s by omega)
      have NC := NC.rowOther (hrow (x)) (show _ ≠ s by omega)
      refine wpAny_all (fuel := 0) (rs := [3]) (by kernel_rfl) (by simp) ?_
      intro i hi
      obtain rfl := List.mem_singleton.1 hi
      refine storeHL rfl rfl (.tmp 10) (.tmp 25) rfl (s + 1) (x) hx rfl rfl _ N10 (by first | exact hz_len | exact hrow_size (by assumption)) ?_
      simp only [Act.put]
      have HG := HG.setRow (s + 1) (by omega) (hrow (x))
      have HK := HK.row (by first | exact .inl rfl | exact .inr rfl) (hrow (x)) (g := s + 1)
      have N10 := N10.row (hrow (x))
      have N9 := N9.rowOther (hrow (x)) (show _ ≠ s + 1 by omega)
      have NC := NC.rowOther (hrow (x)) (show _ ≠ s + 1 by omega)
      refine wpAny_done (by kernel_rfl) ?_ 0
      exact HX.out _ _ _ HG N9 N10 HK
    · skip
      obtain rfl := List.mem_singleton.1 hi
      refine storeHL rfl rfl (.tmp 9) (.tmp 24) rfl (s) (x) hx rfl rfl _ N9 (by first | exact hz_len | exact hrow_size (by assumption)) ?_
      simp only [Act.put]
      have HG := HG.setRow (s) (by omega) (hrow (x))
      have HK := HK.row (by first | exact .inl rfl | exact .inr rfl) (hrow (x)) (g := s)
      have N9 := N9.row (hrow (x))
      have N10 := N10.rowOther (hrow (x)) (show _ ≠ s by omega)
      have NC := NC.rowOther (hrow (x)) (show _ ≠ s by omega)
      refine wpAny_all (fuel := 1) (rs := [1]) (by kernel_rfl) (by simp) ?_
      intro i hi
      obtain rfl := List.mem_singleton.1 hi
      refine loadHL rfl rfl (.tmp 11) rfl c 0 rfl x hx NC.range ?_
      simp only [Act.put, List.setIfInBounds_toArray, List.set_cons_zero, List.set_cons_succ]
      refine wpAny_all (fuel := 0) (rs := [3]) (by kernel_rfl) (by simp) ?_
      intro i hi
      obtain rfl := List.mem_singleton.1 hi
      refine storeHL rfl rfl (.tmp 10) (.tmp 25) rfl (s + 1) (x) hx rfl rfl _ N10 (by first | exact hz_len | exact hrow_size (by assumption)) ?_
      simp only [Act.put]
      have HG := HG.setRow (s + 1) (by omega) (hrow (x))
      have HK := HK.row (by first | exact .inl rfl | exact .inr rfl) (hrow (x)) (g := s + 1)
      have N10 := N10.row (hrow (x))
      have N9 := N9.rowOther (hrow (x)) (show _ ≠ s + 1 by omega)
      have NC := NC.rowOther (hrow (x)) (show _ ≠ s + 1 by omega)
      refine wpAny_done (by kernel_rfl) ?_ 0
      exact HX.out _ _ _ HG N9 N10 HK
  · skip
    obtain rfl := List.mem_singleton.1 hi
    refine loadHL rfl rfl (.tmp 11) rfl c 0 rfl x hx NC.range ?_
    simp only [Act.put, List.setIfInBounds_toArray, List.set_cons_zero, List.set_cons_succ]
    refine wpAny_all (fuel := 2) (rs := [0]) (by kernel_rfl) (by simp) ?_
    intro i hi
    obtain rfl := List.mem_singleton.1 hi
    refine loadHL rfl rfl (.tmp 11) rfl c 0 rfl x hx NC.range ?_
    simp only [Act.put, List.setIfInBounds_toArray, List.set_cons_zero, List.set_cons_succ]
    refine wpAny_all (fuel := 1) (rs := [2]) (by kernel_rfl) (by simp) ?_
    intro i hi
    obtain rfl := List.mem_singleton.1 hi
    refine storeHL rfl rfl (.tmp 9) (.tmp 24) rfl (s) (x) hx rfl rfl _ N9 (by first | exact hz_len | exact hrow_size (by assumption)) ?_
    simp only [Act.put]
    have HG := HG.setRow (s) (by omega) (hrow (x))
    have HK := HK.row (by first | exact .inl rfl | exact .inr rfl) (hrow (x)) (g := s)
    have N9 := N9.row (hrow (x))
    have N10 := N10.rowOther (hrow (x)) (show _ ≠ s by omega)
    have NC := NC.rowOther (hrow (x)) (show _ ≠ s by omega)
    refine wpAny_all (fuel := 0) (rs := [3]) (by kernel_rfl) (by simp) ?_
    intro i hi
    obtain rfl := List.mem_singleton.1 hi
    refine storeHL rfl rfl (.tmp 10) (.tmp 25) rfl (s + 1) (x) hx rfl rfl _ N10 (by first | exact hz_len | exact hrow_size (by assumption)) ?_
    simp only [Act.put]
    have HG := HG.setRow (s + 1) (by omega) (hrow (x))
    have HK := HK.row (by first | exact .inl rfl | exact .inr rfl) (hrow (x)) (g := s + 1)
    have N10 := N10.row (hrow (x))
    have N9 := N9.rowOther (hrow (x)) (show _ ≠ s + 1 by omega)
    have NC := NC.rowOther (hrow (x)) (show _ ≠ s + 1 by omega)
    refine wpAny_done (by kernel_rfl) ?_ 0
    exact HX.out _ _ _ HG N9 N10 HK
set_option maxRecDepth 100000 in
set_option maxHeartbeats 1000000 in
theorem wk_r9 (u0 u1 u2 u3 u5 u6 u7 u8 u11 u12 u13 u14 u15 u16 u17 u18 u19 u20 u21 u22 u23 u24 u25 u26 u27 u28 u29 u30 u31 u32 u33 u34 u35 u36 u37 u38 u39 u40 u41 u42 u43 u44 u45 u46 u47 u48 u49 u50 u51 u52 u53 u54 u55 u56 u57 u58 u59 u60 u61 u62 : Value) (b s : Nat) (so : Int) (ro : List UInt8) (v : Value) (k : Nat) (ok : Bool) (p : List (List UInt8)) (x y : List UInt8) (W0 : World) (w : World) (hG : CG w b so ro v k ok) (hbs : b + 6 < s)(hA : HArg W0 v p) (hW : W0.heap.size ≤ b) (h0 : Below W0.heap.size W0 w) (ha : All32 p) (hp : p.length ≤ 4398046511104) (hk : k ≤ 4398046511104) (hx : x.length = 32) (hy : y.length = 32) (hN9 : Blk w s (hrow x) 24) (hN10 : Blk w (s + 1) (hrow y) 24) (Q : Exit → Act → World → Prop)
    (h : ∀ (y39 y40 y41 y42 y43 : Value) (w' : World), CG w' b so ro v (takeP p k ok).2.1 (takeP p k ok).2.2 → Blk w' s (hrow x) 24 → Blk w' (s + 1) (hrow (node y (takeP p k ok).1)) 24 → X4 b s w w' → Q .normal ⟨(u0 :: u1 :: u2 :: u3 :: (.pointer (some ⟨b + 5, 0, none⟩)) :: u5 :: u6 :: u7 :: u8 :: (.pointer (some ⟨s, 0, none⟩)) :: (.pointer (some ⟨s + 1, 0, none⟩)) :: u11 :: u12 :: u13 :: u14 :: u15 :: u16 :: u17 :: u18 :: u19 :: u20 :: u21 :: u22 :: u23 :: u24 :: u25 :: u26 :: u27 :: u28 :: u29 :: u30 :: u31 :: u32 :: u33 :: u34 :: u35 :: u36 :: u37 :: u38 :: y39 :: y40 :: y41 :: y42 :: y43 :: u44 :: u45 :: u46 :: u47 :: u48 :: u49 :: u50 :: u51 :: u52 :: u53 :: u54 :: u55 :: u56 :: u57 :: u58 :: u59 :: u60 :: u61 :: u62 :: []).toArray, []⟩ w') : Code.wp Try.prog (regionIn Try.f49 9) Q ⟨(u0 :: u1 :: u2 :: u3 :: (.pointer (some ⟨b + 5, 0, none⟩)) :: u5 :: u6 :: u7 :: u8 :: (.pointer (some ⟨s, 0, none⟩)) :: (.pointer (some ⟨s + 1, 0, none⟩)) :: u11 :: u12 :: u13 :: u14 :: u15 :: u16 :: u17 :: u18 :: u19 :: u20 :: u21 :: u22 :: u23 :: u24 :: u25 :: u26 :: u27 :: u28 :: u29 :: u30 :: u31 :: u32 :: u33 :: u34 :: u35 :: u36 :: u37 :: u38 :: u39 :: u40 :: u41 :: u42 :: u43 :: u44 :: u45 :: u46 :: u47 :: u48 :: u49 :: u50 :: u51 :: u52 :: u53 :: u54 :: u55 :: u56 :: u57 :: u58 :: u59 :: u60 :: u61 :: u62 :: []).toArray, []⟩ w := by
  have HX := Lib.hid h
  clear h
  have HG : CG { w with drawn := w.drawn + 1 } b so ro v k ok := hG.drew
  have HK : X4 b s w { w with drawn := w.drawn + 1 } := X4.of ((Below.refl _ _).drew)
  have N9 : Blk { w with drawn := w.drawn + 1 } s (hrow x) 24 := hN9
  have N10 : Blk { w with drawn := w.drawn + 1 } (s + 1) (hrow y) 24 := hN10
  clear hG hN9 hN10
  have h0 : Below W0.heap.size W0 { w with drawn := w.drawn + 1 } := h0.drew
  have ht := takeP_len ha k ok
  have hn := node_length y (takeP p k ok).1
  conv => arg 2; whnf
  refine wp_region_noPanic ?_
  refine wp_region_any (by kernel_rfl) ?_
  generalize ({ w with drawn := w.drawn + 1 } : World) = w0 at *
  refine wpAny_all (fuel := 6) (rs := [0, 1, 2]) (by kernel_rfl) (by simp) ?_
  intro i hi
  rcases List.mem_cons.1 hi with rfl | hi
  · skip
    refine loadHL rfl rfl (.tmp 9) rfl s 0 rfl x hx N9.range ?_
    simp only [Act.put, List.setIfInBounds_toArray, List.set_cons_zero, List.set_cons_succ]
    refine wpAny_all (fuel := 5) (rs := [1, 2]) (by kernel_rfl) (by simp) ?_
    intro i hi
    rcases List.mem_cons.1 hi with rfl | hi
    · skip
      refine loadHL rfl rfl (.tmp 10) rfl (s + 1) 0 rfl y hy N10.range ?_
      simp only [Act.put, List.setIfInBounds_toArray, List.set_cons_zero, List.set_cons_succ]
      refine wpAny_all (fuel := 4) (rs := [2]) (by kernel_rfl) (by simp) ?_
      intro i hi
      obtain rfl := List.mem_singleton.1 hi
      have LX := load_take_cell _ b HG.tk
      refine loadL rfl rfl 76 (.tmp 4) rfl ⟨b + 5, 0, none⟩ (takeF b) rfl LX ?_
      simp only [Act.put, List.setIfInBounds_toArray, List.set_cons_zero, List.set_cons_succ]
      refine wpAny_all (fuel := 3) (rs := [3]) (by kernel_rfl) (by simp) ?_
      intro i hi
      obtain rfl := List.mem_singleton.1 hi
      refine callL rfl rfl ?_
      go_simp
      refine (take_any W0 _ b so ro v k ok p HG hA hW h0 ha hp hk).mono ?_
      rintro e w1 ⟨rfl, HG1, hk1⟩
      have HK := HK.trans (X4.of2 hk1)
      have N9 := N9.g2 hk1 (by omega) (by omega)
      have N10 := N10.g2 hk1 (by omega) (by omega)
      have HG := HG1
      refine wpAny_all (fuel := 2) (rs := [4]) (by kernel_rfl) (by simp) ?_
      intro i hi
      obtain rfl := List.mem_singleton.1 hi
      refine callL rfl rfl ?_
      go_simp
      refine (Node_any y (takeP p k ok).1 hy ht _).mono ?_
      rintro e w2 ⟨rfl, hb⟩
      have HG := HG.of hb
      have HK := HK.trans (X4.of hb)
      have N9 := N9.below hb N9.lt
      have N10 := N10.below hb N10.lt
      refine wpAny_all (fuel := 1) (rs := [5]) (by kernel_rfl) (by simp) ?_
      intro i hi
      obtain rfl := List.mem_singleton.1 hi
      refine storeHL rfl rfl (.tmp 9) (.tmp 39) rfl (s) (x) hx rfl rfl _ N9 (by first | exact hz_len | exact hrow_size (by assumption)) ?_
      simp only [Act.put]
      have HG := HG.setRow (s) (by omega) (hrow (x))
      have HK := HK.row (by first | exact .inl rfl | exact .inr rfl) (hrow (x)) (g := s)
      have N9 := N9.row (hrow (x))
      have N10 := N10.rowOther (hrow (x)) (show _ ≠ s by omega)
      refine wpAny_all (fuel := 0) (rs := [6]) (by kernel_rfl) (by simp) ?_
      intro i hi
      obtain rfl := List.mem_singleton.1 hi
      refine storeHL rfl rfl (.tmp 10) (.tmp 43) rfl (s + 1) (node y (takeP p k ok).1) hn rfl rfl _ N10 (by first | exact hz_len | exact hrow_size (by assumption)) ?_
      simp only [Act.put]
      have HG := HG.setRow (s + 1) (by omega) (hrow (node y (takeP p k ok).1))
      have HK := HK.row (by first | exact .inl rfl | exact .inr rfl) (hrow (node y (takeP p k ok).1)) (g := s + 1)
      have N10 := N10.row (hrow (node y (takeP p k ok).1))
      have N9 := N9.rowOther (hrow (node y (takeP p k ok).1)) (show _ ≠ s + 1 by omega)
      refine wpAny_done (by kernel_rfl) ?_ 0
      exact HX.out _ _ _ _ _ _ HG N9 N10 HK
    · skip
      obtain rfl := List.mem_singleton.1 hi
      have LX := load_take_cell _ b HG.tk
      refine loadL rfl rfl 76 (.tmp 4) rfl ⟨b + 5, 0, none⟩ (takeF b) rfl LX ?_
      simp only [Act.put, List.setIfInBounds_toArray, List.set_cons_zero, List.set_cons_succ]
      refine wpAny_all (fuel := 4) (rs := [1, 3]) (by kernel_rfl) (by simp) ?_
      intro i hi
      rcases List.mem_cons.1 hi with rfl | hi
      · skip
        refine loadHL rfl rfl (.tmp 10) rfl (s + 1) 0 rfl y hy N10.range ?_
        simp only [Act.put, List.setIfInBounds_toArray, List.set_cons_zero, List.set_cons_succ]
        refine wpAny_all (fuel := 3) (rs := [3]) (by kernel_rfl) (by simp) ?_
        intro i hi
        obtain rfl := List.mem_singleton.1 hi
        refine callL rfl rfl ?_
        go_simp
        refine (take_any W0 _ b so ro v k ok p HG hA hW h0 ha hp hk).mono ?_
        rintro e w1 ⟨rfl, HG1, hk1⟩
        have HK := HK.trans (X4.of2 hk1)
        have N9 := N9.g2 hk1 (by omega) (by omega)
        have N10 := N10.g2 hk1 (by omega) (by omega)
        have HG := HG1
        refine wpAny_all (fuel := 2) (rs := [4]) (by kernel_rfl) (by simp) ?_
        intro i hi
        obtain rfl := List.mem_singleton.1 hi
        refine callL rfl rfl ?_
        go_simp
        refine (Node_any y (takeP p k ok).1 hy ht _).mono ?_
        rintro e w2 ⟨rfl, hb⟩
        have HG := HG.of hb
        have HK := HK.trans (X4.of hb)
        have N9 := N9.below hb N9.lt
        have N10 := N10.below hb N10.lt
        refine wpAny_all (fuel := 1) (rs := [5]) (by kernel_rfl) (by simp) ?_
        intro i hi
        obtain rfl := List.mem_singleton.1 hi
        refine storeHL rfl rfl (.tmp 9) (.tmp 39) rfl (s) (x) hx rfl rfl _ N9 (by first | exact hz_len | exact hrow_size (by assumption)) ?_
        simp only [Act.put]
        have HG := HG.setRow (s) (by omega) (hrow (x))
        have HK := HK.row (by first | exact .inl rfl | exact .inr rfl) (hrow (x)) (g := s)
        have N9 := N9.row (hrow (x))
        have N10 := N10.rowOther (hrow (x)) (show _ ≠ s by omega)
        refine wpAny_all (fuel := 0) (rs := [6]) (by kernel_rfl) (by simp) ?_
        intro i hi
        obtain rfl := List.mem_singleton.1 hi
        refine storeHL rfl rfl (.tmp 10) (.tmp 43) rfl (s + 1) (node y (takeP p k ok).1) hn rfl rfl _ N10 (by first | exact hz_len | exact hrow_size (by assumption)) ?_
        simp only [Act.put]
        have HG := HG.setRow (s + 1) (by omega) (hrow (node y (takeP p k ok).1))
        have HK := HK.row (by first | exact .inl rfl | exact .inr rfl) (hrow (node y (takeP p k ok).1)) (g := s + 1)
        have N10 := N10.row (hrow (node y (takeP p k ok).1))
        have N9 := N9.rowOther (hrow (node y (takeP p k ok).1)) (show _ ≠ s + 1 by omega)
        refine wpAny_done (by kernel_rfl) ?_ 0
        exact HX.out _ _ _ _ _ _ HG N9 N10 HK
      · skip
        obtain rfl := List.mem_singleton.1 hi
        refine callL rfl rfl ?_
        go_simp
        refine (take_any W0 _ b so ro v k ok p HG hA hW h0 ha hp hk).mono ?_
        rintro e w1 ⟨rfl, HG1, hk1⟩
        have HK := HK.trans (X4.of2 hk1)
        have N9 := N9.g2 hk1 (by omega) (by omega)
        have N10 := N10.g2 hk1 (by omega) (by omega)
        have HG := HG1
        refine wpAny_all (fuel := 3) (rs := [1]) (by kernel_rfl) (by simp) ?_
        intro i hi
        obtain rfl := List.mem_singleton.1 hi
        refine loadHL rfl rfl (.tmp 10) rfl (s + 1) 0 rfl y hy N10.range ?_
        simp only [Act.put, List.setIfInBounds_toArray, List.set_cons_zero, List.set_cons_succ]
        refine wpAny_all (fuel := 2) (rs := [4]) (by kernel_rfl) (by simp) ?_
        intro i hi
        obtain rfl := List.mem_singleton.1 hi
        refine callL rfl rfl ?_
        go_simp
        refine (Node_any y (takeP p k ok).1 hy ht _).mono ?_
        rintro e w2 ⟨rfl, hb⟩
        have HG := HG.of hb
        have HK := HK.trans (X4.of hb)
        have N9 := N9.below hb N9.lt
        have N10 := N10.below hb N10.lt
        refine wpAny_all (fuel := 1) (rs := [5]) (by kernel_rfl) (by simp) ?_
        intro i hi
        obtain rfl := List.mem_singleton.1 hi
        refine storeHL rfl rfl (.tmp 9) (.tmp 39) rfl (s) (x) hx rfl rfl _ N9 (by first | exact hz_len | exact hrow_size (by assumption)) ?_
        simp only [Act.put]
        have HG := HG.setRow (s) (by omega) (hrow (x))
        have HK := HK.row (by first | exact .inl rfl | exact .inr rfl) (hrow (x)) (g := s)
        have N9 := N9.row (hrow (x))
        have N10 := N10.rowOther (hrow (x)) (show _ ≠ s by omega)
        refine wpAny_all (fuel := 0) (rs := [6]) (by kernel_rfl) (by simp) ?_
        intro i hi
        obtain rfl := List.mem_singleton.1 hi
        refine storeHL rfl rfl (.tmp 10) (.tmp 43) rfl (s + 1) (node y (takeP p k ok).1) hn rfl rfl _ N10 (by first | exact hz_len | exact hrow_size (by assumption)) ?_
        simp only [Act.put]
        have HG := HG.setRow (s + 1) (by omega) (hrow (node y (takeP p k ok).1))
        have HK := HK.row (by first | exact .inl rfl | exact .inr rfl) (hrow (node y (takeP p k ok).1)) (g := s + 1)
        have N10 := N10.row (hrow (node y (takeP p k ok).1))
        have N9 := N9.rowOther (hrow (node y (takeP p k ok).1)) (show _ ≠ s + 1 by omega)
        refine wpAny_done (by kernel_rfl) ?_ 0
        exact HX.out _ _ _ _ _ _ HG N9 N10 HK
  · skip
    rcases List.mem_cons.1 hi with rfl | hi
    · skip
      refine loadHL rfl rfl (.tmp 10) rfl (s + 1) 0 rfl y hy N10.range ?_
      simp only [Act.put, List.setIfInBounds_toArray, List.set_cons_zero, List.set_cons_succ]
      refine wpAny_all (fuel := 5) (rs := [0, 2]) (by kernel_rfl) (by simp) ?_
      intro i hi
      rcases List.mem_cons.1 hi with rfl | hi
      · skip
        refine loadHL rfl rfl (.tmp 9) rfl s 0 rfl x hx N9.range ?_
        simp only [Act.put, List.setIfInBounds_toArray, List.set_cons_zero, List.set_cons_succ]
        refine wpAny_all (fuel := 4) (rs := [2]) (by kernel_rfl) (by simp) ?_
        intro i hi
        obtain rfl := List.mem_singleton.1 hi
        have LX := load_take_cell _ b HG.tk
        refine loadL rfl rfl 76 (.tmp 4) rfl ⟨b + 5, 0, none⟩ (takeF b) rfl LX ?_
        simp only [Act.put, List.setIfInBounds_toArray, List.set_cons_zero, List.set_cons_succ]
        refine wpAny_all (fuel := 3) (rs := [3]) (by kernel_rfl) (by simp) ?_
        intro i hi
        obtain rfl := List.mem_singleton.1 hi
        refine callL rfl rfl ?_
        go_simp
        refine (take_any W0 _ b so ro v k ok p HG hA hW h0 ha hp hk).mono ?_
        rintro e w1 ⟨rfl, HG1, hk1⟩
        have HK := HK.trans (X4.of2 hk1)
        have N9 := N9.g2 hk1 (by omega) (by omega)
        have N10 := N10.g2 hk1 (by omega) (by omega)
        have HG := HG1
        refine wpAny_all (fuel := 2) (rs := [4]) (by kernel_rfl) (by simp) ?_
        intro i hi
        obtain rfl := List.mem_singleton.1 hi
        refine callL rfl rfl ?_
        go_simp
        refine (Node_any y (takeP p k ok).1 hy ht _).mono ?_
        rintro e w2 ⟨rfl, hb⟩
        have HG := HG.of hb
        have HK := HK.trans (X4.of hb)
        have N9 := N9.below hb N9.lt
        have N10 := N10.below hb N10.lt
        refine wpAny_all (fuel := 1) (rs := [5]) (by kernel_rfl) (by simp) ?_
        intro i hi
        obtain rfl := List.mem_singleton.1 hi
        refine storeHL rfl rfl (.tmp 9) (.tmp 39) rfl (s) (x) hx rfl rfl _ N9 (by first | exact hz_len | exact hrow_size (by assumption)) ?_
        simp only [Act.put]
        have HG := HG.setRow (s) (by omega) (hrow (x))
        have HK := HK.row (by first | exact .inl rfl | exact .inr rfl) (hrow (x)) (g := s)
        have N9 := N9.row (hrow (x))
        have N10 := N10.rowOther (hrow (x)) (show _ ≠ s by omega)
        refine wpAny_all (fuel := 0) (rs := [6]) (by kernel_rfl) (by simp) ?_
        intro i hi
        obtain rfl := List.mem_singleton.1 hi
        refine storeHL rfl rfl (.tmp 10) (.tmp 43) rfl (s + 1) (node y (takeP p k ok).1) hn rfl rfl _ N10 (by first | exact hz_len | exact hrow_size (by assumption)) ?_
        simp only [Act.put]
        have HG := HG.setRow (s + 1) (by omega) (hrow (node y (takeP p k ok).1))
        have HK := HK.row (by first | exact .inl rfl | exact .inr rfl) (hrow (node y (takeP p k ok).1)) (g := s + 1)
        have N10 := N10.row (hrow (node y (takeP p k ok).1))
        have N9 := N9.rowOther (hrow (node y (takeP p k ok).1)) (show _ ≠ s + 1 by omega)
        refine wpAny_done (by kernel_rfl) ?_ 0
        exact HX.out _ _ _ _ _ _ HG N9 N10 HK
      · skip
        obtain rfl := List.mem_singleton.1 hi
        have LX := load_take_cell _ b HG.tk
        refine loadL rfl rfl 76 (.tmp 4) rfl ⟨b + 5, 0, none⟩ (takeF b) rfl LX ?_
        simp only [Act.put, List.setIfInBounds_toArray, List.set_cons_zero, List.set_cons_succ]
        refine wpAny_all (fuel := 4) (rs := [0, 3]) (by kernel_rfl) (by simp) ?_
        intro i hi
        rcases List.mem_cons.1 hi with rfl | hi
        · skip
          refine loadHL rfl rfl (.tmp 9) rfl s 0 rfl x hx N9.range ?_
          simp only [Act.put, List.setIfInBounds_toArray, List.set_cons_zero, List.set_cons_succ]
          refine wpAny_all (fuel := 3) (rs := [3]) (by kernel_rfl) (by simp) ?_
          intro i hi
          obtain rfl := List.mem_singleton.1 hi
          refine callL rfl rfl ?_
          go_simp
          refine (take_any W0 _ b so ro v k ok p HG hA hW h0 ha hp hk).mono ?_
          rintro e w1 ⟨rfl, HG1, hk1⟩
          have HK := HK.trans (X4.of2 hk1)
          have N9 := N9.g2 hk1 (by omega) (by omega)
          have N10 := N10.g2 hk1 (by omega) (by omega)
          have HG := HG1
          refine wpAny_all (fuel := 2) (rs := [4]) (by kernel_rfl) (by simp) ?_
          intro i hi
          obtain rfl := List.mem_singleton.1 hi
          refine callL rfl rfl ?_
          go_simp
          refine (Node_any y (takeP p k ok).1 hy ht _).mono ?_
          rintro e w2 ⟨rfl, hb⟩
          have HG := HG.of hb
          have HK := HK.trans (X4.of hb)
          have N9 := N9.below hb N9.lt
          have N10 := N10.below hb N10.lt
          refine wpAny_all (fuel := 1) (rs := [5]) (by kernel_rfl) (by simp) ?_
          intro i hi
          obtain rfl := List.mem_singleton.1 hi
          refine storeHL rfl rfl (.tmp 9) (.tmp 39) rfl (s) (x) hx rfl rfl _ N9 (by first | exact hz_len | exact hrow_size (by assumption)) ?_
          simp only [Act.put]
          have HG := HG.setRow (s) (by omega) (hrow (x))
          have HK := HK.row (by first | exact .inl rfl | exact .inr rfl) (hrow (x)) (g := s)
          have N9 := N9.row (hrow (x))
          have N10 := N10.rowOther (hrow (x)) (show _ ≠ s by omega)
          refine wpAny_all (fuel := 0) (rs := [6]) (by kernel_rfl) (by simp) ?_
          intro i hi
          obtain rfl := List.mem_singleton.1 hi
          refine storeHL rfl rfl (.tmp 10) (.tmp 43) rfl (s + 1) (node y (takeP p k ok).1) hn rfl rfl _ N10 (by first | exact hz_len | exact hrow_size (by assumption)) ?_
          simp only [Act.put]
          have HG := HG.setRow (s + 1) (by omega) (hrow (node y (takeP p k ok).1))
          have HK := HK.row (by first | exact .inl rfl | exact .inr rfl) (hrow (node y (takeP p k ok).1)) (g := s + 1)
          have N10 := N10.row (hrow (node y (takeP p k ok).1))
          have N9 := N9.rowOther (hrow (node y (takeP p k ok).1)) (show _ ≠ s + 1 by omega)
          refine wpAny_done (by kernel_rfl) ?_ 0
          exact HX.out _ _ _ _ _ _ HG N9 N10 HK
        · skip
          obtain rfl := List.mem_singleton.1 hi
          refine callL rfl rfl ?_
          go_simp
          refine (take_any W0 _ b so ro v k ok p HG hA hW h0 ha hp hk).mono ?_
          rintro e w1 ⟨rfl, HG1, hk1⟩
          have HK := HK.trans (X4.of2 hk1)
          have N9 := N9.g2 hk1 (by omega) (by omega)
          have N10 := N10.g2 hk1 (by omega) (by omega)
          have HG := HG1
          refine wpAny_all (fuel := 3) (rs := [0, 4]) (by kernel_rfl) (by simp) ?_
          intro i hi
          rcases List.mem_cons.1 hi with rfl | hi
          · skip
            refine loadHL rfl rfl (.tmp 9) rfl s 0 rfl x hx N9.range ?_
            simp only [Act.put, List.setIfInBounds_toArray, List.set_cons_zero, List.set_cons_succ]
            refine wpAny_all (fuel := 2) (rs := [4]) (by kernel_rfl) (by simp) ?_
            intro i hi
            obtain rfl := List.mem_singleton.1 hi
            refine callL rfl rfl ?_
            go_simp
            refine (Node_any y (takeP p k ok).1 hy ht _).mono ?_
            rintro e w2 ⟨rfl, hb⟩
            have HG := HG.of hb
            have HK := HK.trans (X4.of hb)
            have N9 := N9.below hb N9.lt
            have N10 := N10.below hb N10.lt
            refine wpAny_all (fuel := 1) (rs := [5]) (by kernel_rfl) (by simp) ?_
            intro i hi
            obtain rfl := List.mem_singleton.1 hi
            refine storeHL rfl rfl (.tmp 9) (.tmp 39) rfl (s) (x) hx rfl rfl _ N9 (by first | exact hz_len | exact hrow_size (by assumption)) ?_
            simp only [Act.put]
            have HG := HG.setRow (s) (by omega) (hrow (x))
            have HK := HK.row (by first | exact .inl rfl | exact .inr rfl) (hrow (x)) (g := s)
            have N9 := N9.row (hrow (x))
            have N10 := N10.rowOther (hrow (x)) (show _ ≠ s by omega)
            refine wpAny_all (fuel := 0) (rs := [6]) (by kernel_rfl) (by simp) ?_
            intro i hi
            obtain rfl := List.mem_singleton.1 hi
            refine storeHL rfl rfl (.tmp 10) (.tmp 43) rfl (s + 1) (node y (takeP p k ok).1) hn rfl rfl _ N10 (by first | exact hz_len | exact hrow_size (by assumption)) ?_
            simp only [Act.put]
            have HG := HG.setRow (s + 1) (by omega) (hrow (node y (takeP p k ok).1))
            have HK := HK.row (by first | exact .inl rfl | exact .inr rfl) (hrow (node y (takeP p k ok).1)) (g := s + 1)
            have N10 := N10.row (hrow (node y (takeP p k ok).1))
            have N9 := N9.rowOther (hrow (node y (takeP p k ok).1)) (show _ ≠ s + 1 by omega)
            refine wpAny_done (by kernel_rfl) ?_ 0
            exact HX.out _ _ _ _ _ _ HG N9 N10 HK
          · skip
            obtain rfl := List.mem_singleton.1 hi
            refine callL rfl rfl ?_
            go_simp
            refine (Node_any y (takeP p k ok).1 hy ht _).mono ?_
            rintro e w2 ⟨rfl, hb⟩
            have HG := HG.of hb
            have HK := HK.trans (X4.of hb)
            have N9 := N9.below hb N9.lt
            have N10 := N10.below hb N10.lt
            refine wpAny_all (fuel := 2) (rs := [0]) (by kernel_rfl) (by simp) ?_
            intro i hi
            obtain rfl := List.mem_singleton.1 hi
            refine loadHL rfl rfl (.tmp 9) rfl s 0 rfl x hx N9.range ?_
            simp only [Act.put, List.setIfInBounds_toArray, List.set_cons_zero, List.set_cons_succ]
            refine wpAny_all (fuel := 1) (rs := [5]) (by kernel_rfl) (by simp) ?_
            intro i hi
            obtain rfl := List.mem_singleton.1 hi
            refine storeHL rfl rfl (.tmp 9) (.tmp 39) rfl (s) (x) hx rfl rfl _ N9 (by first | exact hz_len | exact hrow_size (by assumption)) ?_
            simp only [Act.put]
            have HG := HG.setRow (s) (by omega) (hrow (x))
            have HK := HK.row (by first | exact .inl rfl | exact .inr rfl) (hrow (x)) (g := s)
            have N9 := N9.row (hrow (x))
            have N10 := N10.rowOther (hrow (x)) (show _ ≠ s by omega)
            refine wpAny_all (fuel := 0) (rs := [6]) (by kernel_rfl) (by simp) ?_
            intro i hi
            obtain rfl := List.mem_singleton.1 hi
            refine storeHL rfl rfl (.tmp 10) (.tmp 43) rfl (s + 1) (node y (takeP p k ok).1) hn rfl rfl _ N10 (by first | exact hz_len | exact hrow_size (by assumption)) ?_
            simp only [Act.put]
            have HG := HG.setRow (s + 1) (by omega) (hrow (node y (takeP p k ok).1))
            have HK := HK.row (by first | exact .inl rfl | exact .inr rfl) (hrow (node y (takeP p k ok).1)) (g := s + 1)
            have N10 := N10.row (hrow (node y (takeP p k ok).1))
            have N9 := N9.rowOther (hrow (node y (takeP p k ok).1)) (show _ ≠ s + 1 by omega)
            refine wpAny_done (by kernel_rfl) ?_ 0
            exact HX.out _ _ _ _ _ _ HG N9 N10 HK
    · skip
      obtain rfl := List.mem_singleton.1 hi
      have LX := load_take_cell _ b HG.tk
      refine loadL rfl rfl 76 (.tmp 4) rfl ⟨b + 5, 0, none⟩ (takeF b) rfl LX ?_
      simp only [Act.put, List.setIfInBounds_toArray, List.set_cons_zero, List.set_cons_succ]
      refine wpAny_all (fuel := 5) (rs := [0, 1, 3]) (by kernel_rfl) (by simp) ?_
      intro i hi
      rcases List.mem_cons.1 hi with rfl | hi
      · skip
        refine loadHL rfl rfl (.tmp 9) rfl s 0 rfl x hx N9.range ?_
        simp only [Act.put, List.setIfInBounds_toArray, List.set_cons_zero, List.set_cons_succ]
        refine wpAny_all (fuel := 4) (rs := [1, 3]) (by kernel_rfl) (by simp) ?_
        intro i hi
        rcases List.mem_cons.1 hi with rfl | hi
        · skip
          refine loadHL rfl rfl (.tmp 10) rfl (s + 1) 0 rfl y hy N10.range ?_
          simp only [Act.put, List.setIfInBounds_toArray, List.set_cons_zero, List.set_cons_succ]
          refine wpAny_all (fuel := 3) (rs := [3]) (by kernel_rfl) (by simp) ?_
          intro i hi
          obtain rfl := List.mem_singleton.1 hi
          refine callL rfl rfl ?_
          go_simp
          refine (take_any W0 _ b so ro v k ok p HG hA hW h0 ha hp hk).mono ?_
          rintro e w1 ⟨rfl, HG1, hk1⟩
          have HK := HK.trans (X4.of2 hk1)
          have N9 := N9.g2 hk1 (by omega) (by omega)
          have N10 := N10.g2 hk1 (by omega) (by omega)
          have HG := HG1
          refine wpAny_all (fuel := 2) (rs := [4]) (by kernel_rfl) (by simp) ?_
          intro i hi
          obtain rfl := List.mem_singleton.1 hi
          refine callL rfl rfl ?_
          go_simp
          refine (Node_any y (takeP p k ok).1 hy ht _).mono ?_
          rintro e w2 ⟨rfl, hb⟩
          have HG := HG.of hb
          have HK := HK.trans (X4.of hb)
          have N9 := N9.below hb N9.lt
          have N10 := N10.below hb N10.lt
          refine wpAny_all (fuel := 1) (rs := [5]) (by kernel_rfl) (by simp) ?_
          intro i hi
          obtain rfl := List.mem_singleton.1 hi
          refine storeHL rfl rfl (.tmp 9) (.tmp 39) rfl (s) (x) hx rfl rfl _ N9 (by first | exact hz_len | exact hrow_size (by assumption)) ?_
          simp only [Act.put]
          have HG := HG.setRow (s) (by omega) (hrow (x))
          have HK := HK.row (by first | exact .inl rfl | exact .inr rfl) (hrow (x)) (g := s)
          have N9 := N9.row (hrow (x))
          have N10 := N10.rowOther (hrow (x)) (show _ ≠ s by omega)
          refine wpAny_all (fuel := 0) (rs := [6]) (by kernel_rfl) (by simp) ?_
          intro i hi
          obtain rfl := List.mem_singleton.1 hi
          refine storeHL rfl rfl (.tmp 10) (.tmp 43) rfl (s + 1) (node y (takeP p k ok).1) hn rfl rfl _ N10 (by first | exact hz_len | exact hrow_size (by assumption)) ?_
          simp only [Act.put]
          have HG := HG.setRow (s + 1) (by omega) (hrow (node y (takeP p k ok).1))
          have HK := HK.row (by first | exact .inl rfl | exact .inr rfl) (hrow (node y (takeP p k ok).1)) (g := s + 1)
          have N10 := N10.row (hrow (node y (takeP p k ok).1))
          have N9 := N9.rowOther (hrow (node y (takeP p k ok).1)) (show _ ≠ s + 1 by omega)
          refine wpAny_done (by kernel_rfl) ?_ 0
          exact HX.out _ _ _ _ _ _ HG N9 N10 HK
        · skip
          obtain rfl := List.mem_singleton.1 hi
          refine callL rfl rfl ?_
          go_simp
          refine (take_any W0 _ b so ro v k ok p HG hA hW h0 ha hp hk).mono ?_
          rintro e w1 ⟨rfl, HG1, hk1⟩
          have HK := HK.trans (X4.of2 hk1)
          have N9 := N9.g2 hk1 (by omega) (by omega)
          have N10 := N10.g2 hk1 (by omega) (by omega)
          have HG := HG1
          refine wpAny_all (fuel := 3) (rs := [1]) (by kernel_rfl) (by simp) ?_
          intro i hi
          obtain rfl := List.mem_singleton.1 hi
          refine loadHL rfl rfl (.tmp 10) rfl (s + 1) 0 rfl y hy N10.range ?_
          simp only [Act.put, List.setIfInBounds_toArray, List.set_cons_zero, List.set_cons_succ]
          refine wpAny_all (fuel := 2) (rs := [4]) (by kernel_rfl) (by simp) ?_
          intro i hi
          obtain rfl := List.mem_singleton.1 hi
          refine callL rfl rfl ?_
          go_simp
          refine (Node_any y (takeP p k ok).1 hy ht _).mono ?_
          rintro e w2 ⟨rfl, hb⟩
          have HG := HG.of hb
          have HK := HK.trans (X4.of hb)
          have N9 := N9.below hb N9.lt
          have N10 := N10.below hb N10.lt
          refine wpAny_all (fuel := 1) (rs := [5]) (by kernel_rfl) (by simp) ?_
          intro i hi
          obtain rfl := List.mem_singleton.1 hi
          refine storeHL rfl rfl (.tmp 9) (.tmp 39) rfl (s) (x) hx rfl rfl _ N9 (by first | exact hz_len | exact hrow_size (by assumption)) ?_
          simp only [Act.put]
          have HG := HG.setRow (s) (by omega) (hrow (x))
          have HK := HK.row (by first | exact .inl rfl | exact .inr rfl) (hrow (x)) (g := s)
          have N9 := N9.row (hrow (x))
          have N10 := N10.rowOther (hrow (x)) (show _ ≠ s by omega)
          refine wpAny_all (fuel := 0) (rs := [6]) (by kernel_rfl) (by simp) ?_
          intro i hi
          obtain rfl := List.mem_singleton.1 hi
          refine storeHL rfl rfl (.tmp 10) (.tmp 43) rfl (s + 1) (node y (takeP p k ok).1) hn rfl rfl _ N10 (by first | exact hz_len | exact hrow_size (by assumption)) ?_
          simp only [Act.put]
          have HG := HG.setRow (s + 1) (by omega) (hrow (node y (takeP p k ok).1))
          have HK := HK.row (by first | exact .inl rfl | exact .inr rfl) (hrow (node y (takeP p k ok).1)) (g := s + 1)
          have N10 := N10.row (hrow (node y (takeP p k ok).1))
          have N9 := N9.rowOther (hrow (node y (takeP p k ok).1)) (show _ ≠ s + 1 by omega)
          refine wpAny_done (by kernel_rfl) ?_ 0
          exact HX.out _ _ _ _ _ _ HG N9 N10 HK
      · skip
        rcases List.mem_cons.1 hi with rfl | hi
        · skip
          refine loadHL rfl rfl (.tmp 10) rfl (s + 1) 0 rfl y hy N10.range ?_
          simp only [Act.put, List.setIfInBounds_toArray, List.set_cons_zero, List.set_cons_succ]
          refine wpAny_all (fuel := 4) (rs := [0, 3]) (by kernel_rfl) (by simp) ?_
          intro i hi
          rcases List.mem_cons.1 hi with rfl | hi
          · skip
            refine loadHL rfl rfl (.tmp 9) rfl s 0 rfl x hx N9.range ?_
            simp only [Act.put, List.setIfInBounds_toArray, List.set_cons_zero, List.set_cons_succ]
            refine wpAny_all (fuel := 3) (rs := [3]) (by kernel_rfl) (by simp) ?_
            intro i hi
            obtain rfl := List.mem_singleton.1 hi
            refine callL rfl rfl ?_
            go_simp
            refine (take_any W0 _ b so ro v k ok p HG hA hW h0 ha hp hk).mono ?_
            rintro e w1 ⟨rfl, HG1, hk1⟩
            have HK := HK.trans (X4.of2 hk1)
            have N9 := N9.g2 hk1 (by omega) (by omega)
            have N10 := N10.g2 hk1 (by omega) (by omega)
            have HG := HG1
            refine wpAny_all (fuel := 2) (rs := [4]) (by kernel_rfl) (by simp) ?_
            intro i hi
            obtain rfl := List.mem_singleton.1 hi
            refine callL rfl rfl ?_
            go_simp
            refine (Node_any y (takeP p k ok).1 hy ht _).mono ?_
            rintro e w2 ⟨rfl, hb⟩
            have HG := HG.of hb
            have HK := HK.trans (X4.of hb)
            have N9 := N9.below hb N9.lt
            have N10 := N10.below hb N10.lt
            refine wpAny_all (fuel := 1) (rs := [5]) (by kernel_rfl) (by simp) ?_
            intro i hi
            obtain rfl := List.mem_singleton.1 hi
            refine storeHL rfl rfl (.tmp 9) (.tmp 39) rfl (s) (x) hx rfl rfl _ N9 (by first | exact hz_len | exact hrow_size (by assumption)) ?_
            simp only [Act.put]
            have HG := HG.setRow (s) (by omega) (hrow (x))
            have HK := HK.row (by first | exact .inl rfl | exact .inr rfl) (hrow (x)) (g := s)
            have N9 := N9.row (hrow (x))
            have N10 := N10.rowOther (hrow (x)) (show _ ≠ s by omega)
            refine wpAny_all (fuel := 0) (rs := [6]) (by kernel_rfl) (by simp) ?_
            intro i hi
            obtain rfl := List.mem_singleton.1 hi
            refine storeHL rfl rfl (.tmp 10) (.tmp 43) rfl (s + 1) (node y (takeP p k ok).1) hn rfl rfl _ N10 (by first | exact hz_len | exact hrow_size (by assumption)) ?_
            simp only [Act.put]
            have HG := HG.setRow (s + 1) (by omega) (hrow (node y (takeP p k ok).1))
            have HK := HK.row (by first | exact .inl rfl | exact .inr rfl) (hrow (node y (takeP p k ok).1)) (g := s + 1)
            have N10 := N10.row (hrow (node y (takeP p k ok).1))
            have N9 := N9.rowOther (hrow (node y (takeP p k ok).1)) (show _ ≠ s + 1 by omega)
            refine wpAny_done (by kernel_rfl) ?_ 0
            exact HX.out _ _ _ _ _ _ HG N9 N10 HK
          · skip
            obtain rfl := List.mem_singleton.1 hi
            refine callL rfl rfl ?_
            go_simp
            refine (take_any W0 _ b so ro v k ok p HG hA hW h0 ha hp hk).mono ?_
            rintro e w1 ⟨rfl, HG1, hk1⟩
            have HK := HK.trans (X4.of2 hk1)
            have N9 := N9.g2 hk1 (by omega) (by omega)
            have N10 := N10.g2 hk1 (by omega) (by omega)
            have HG := HG1
            refine wpAny_all (fuel := 3) (rs := [0, 4]) (by kernel_rfl) (by simp) ?_
            intro i hi
            rcases List.mem_cons.1 hi with rfl | hi
            · skip
              refine loadHL rfl rfl (.tmp 9) rfl s 0 rfl x hx N9.range ?_
              simp only [Act.put, List.setIfInBounds_toArray, List.set_cons_zero, List.set_cons_succ]
              refine wpAny_all (fuel := 2) (rs := [4]) (by kernel_rfl) (by simp) ?_
              intro i hi
              obtain rfl := List.mem_singleton.1 hi
              refine callL rfl rfl ?_
              go_simp
              refine (Node_any y (takeP p k ok).1 hy ht _).mono ?_
              rintro e w2 ⟨rfl, hb⟩
              have HG := HG.of hb
              have HK := HK.trans (X4.of hb)
              have N9 := N9.below hb N9.lt
              have N10 := N10.below hb N10.lt
              refine wpAny_all (fuel := 1) (rs := [5]) (by kernel_rfl) (by simp) ?_
              intro i hi
              obtain rfl := List.mem_singleton.1 hi
              refine storeHL rfl rfl (.tmp 9) (.tmp 39) rfl (s) (x) hx rfl rfl _ N9 (by first | exact hz_len | exact hrow_size (by assumption)) ?_
              simp only [Act.put]
              have HG := HG.setRow (s) (by omega) (hrow (x))
              have HK := HK.row (by first | exact .inl rfl | exact .inr rfl) (hrow (x)) (g := s)
              have N9 := N9.row (hrow (x))
              have N10 := N10.rowOther (hrow (x)) (show _ ≠ s by omega)
              refine wpAny_all (fuel := 0) (rs := [6]) (by kernel_rfl) (by simp) ?_
              intro i hi
              obtain rfl := List.mem_singleton.1 hi
              refine storeHL rfl rfl (.tmp 10) (.tmp 43) rfl (s + 1) (node y (takeP p k ok).1) hn rfl rfl _ N10 (by first | exact hz_len | exact hrow_size (by assumption)) ?_
              simp only [Act.put]
              have HG := HG.setRow (s + 1) (by omega) (hrow (node y (takeP p k ok).1))
              have HK := HK.row (by first | exact .inl rfl | exact .inr rfl) (hrow (node y (takeP p k ok).1)) (g := s + 1)
              have N10 := N10.row (hrow (node y (takeP p k ok).1))
              have N9 := N9.rowOther (hrow (node y (takeP p k ok).1)) (show _ ≠ s + 1 by omega)
              refine wpAny_done (by kernel_rfl) ?_ 0
              exact HX.out _ _ _ _ _ _ HG N9 N10 HK
            · skip
              obtain rfl := List.mem_singleton.1 hi
              refine callL rfl rfl ?_
              go_simp
              refine (Node_any y (takeP p k ok).1 hy ht _).mono ?_
              rintro e w2 ⟨rfl, hb⟩
              have HG := HG.of hb
              have HK := HK.trans (X4.of hb)
              have N9 := N9.below hb N9.lt
              have N10 := N10.below hb N10.lt
              refine wpAny_all (fuel := 2) (rs := [0]) (by kernel_rfl) (by simp) ?_
              intro i hi
              obtain rfl := List.mem_singleton.1 hi
              refine loadHL rfl rfl (.tmp 9) rfl s 0 rfl x hx N9.range ?_
              simp only [Act.put, List.setIfInBounds_toArray, List.set_cons_zero, List.set_cons_succ]
              refine wpAny_all (fuel := 1) (rs := [5]) (by kernel_rfl) (by simp) ?_
              intro i hi
              obtain rfl := List.mem_singleton.1 hi
              refine storeHL rfl rfl (.tmp 9) (.tmp 39) rfl (s) (x) hx rfl rfl _ N9 (by first | exact hz_len | exact hrow_size (by assumption)) ?_
              simp only [Act.put]
              have HG := HG.setRow (s) (by omega) (hrow (x))
              have HK := HK.row (by first | exact .inl rfl | exact .inr rfl) (hrow (x)) (g := s)
              have N9 := N9.row (hrow (x))
              have N10 := N10.rowOther (hrow (x)) (show _ ≠ s by omega)
              refine wpAny_all (fuel := 0) (rs := [6]) (by kernel_rfl) (by simp) ?_
              intro i hi
              obtain rfl := List.mem_singleton.1 hi
              refine storeHL rfl rfl (.tmp 10) (.tmp 43) rfl (s + 1) (node y (takeP p k ok).1) hn rfl rfl _ N10 (by first | exact hz_len | exact hrow_size (by assumption)) ?_
              simp only [Act.put]
              have HG := HG.setRow (s + 1) (by omega) (hrow (node y (takeP p k ok).1))
              have HK := HK.row (by first | exact .inl rfl | exact .inr rfl) (hrow (node y (takeP p k ok).1)) (g := s + 1)
              have N10 := N10.row (hrow (node y (takeP p k ok).1))
              have N9 := N9.rowOther (hrow (node y (takeP p k ok).1)) (show _ ≠ s + 1 by omega)
              refine wpAny_done (by kernel_rfl) ?_ 0
              exact HX.out _ _ _ _ _ _ HG N9 N10 HK
        · skip
          obtain rfl := List.mem_singleton.1 hi
          refine callL rfl rfl ?_
          go_simp
          refine (take_any W0 _ b so ro v k ok p HG hA hW h0 ha hp hk).mono ?_
          rintro e w1 ⟨rfl, HG1, hk1⟩
          have HK := HK.trans (X4.of2 hk1)
          have N9 := N9.g2 hk1 (by omega) (by omega)
          have N10 := N10.g2 hk1 (by omega) (by omega)
          have HG := HG1
          refine wpAny_all (fuel := 4) (rs := [0, 1]) (by kernel_rfl) (by simp) ?_
          intro i hi
          rcases List.mem_cons.1 hi with rfl | hi
          · skip
            refine loadHL rfl rfl (.tmp 9) rfl s 0 rfl x hx N9.range ?_
            simp only [Act.put, List.setIfInBounds_toArray, List.set_cons_zero, List.set_cons_succ]
            refine wpAny_all (fuel := 3) (rs := [1]) (by kernel_rfl) (by simp) ?_
            intro i hi
            obtain rfl := List.mem_singleton.1 hi
            refine loadHL rfl rfl (.tmp 10) rfl (s + 1) 0 rfl y hy N10.range ?_
            simp only [Act.put, List.setIfInBounds_toArray, List.set_cons_zero, List.set_cons_succ]
            refine wpAny_all (fuel := 2) (rs := [4]) (by kernel_rfl) (by simp) ?_
            intro i hi
            obtain rfl := List.mem_singleton.1 hi
            refine callL rfl rfl ?_
            go_simp
            refine (Node_any y (takeP p k ok).1 hy ht _).mono ?_
            rintro e w2 ⟨rfl, hb⟩
            have HG := HG.of hb
            have HK := HK.trans (X4.of hb)
            have N9 := N9.below hb N9.lt
            have N10 := N10.below hb N10.lt
            refine wpAny_all (fuel := 1) (rs := [5]) (by kernel_rfl) (by simp) ?_
            intro i hi
            obtain rfl := List.mem_singleton.1 hi
            refine storeHL rfl rfl (.tmp 9) (.tmp 39) rfl (s) (x) hx rfl rfl _ N9 (by first | exact hz_len | exact hrow_size (by assumption)) ?_
            simp only [Act.put]
            have HG := HG.setRow (s) (by omega) (hrow (x))
            have HK := HK.row (by first | exact .inl rfl | exact .inr rfl) (hrow (x)) (g := s)
            have N9 := N9.row (hrow (x))
            have N10 := N10.rowOther (hrow (x)) (show _ ≠ s by omega)
            refine wpAny_all (fuel := 0) (rs := [6]) (by kernel_rfl) (by simp) ?_
            intro i hi
            obtain rfl := List.mem_singleton.1 hi
            refine storeHL rfl rfl (.tmp 10) (.tmp 43) rfl (s + 1) (node y (takeP p k ok).1) hn rfl rfl _ N10 (by first | exact hz_len | exact hrow_size (by assumption)) ?_
            simp only [Act.put]
            have HG := HG.setRow (s + 1) (by omega) (hrow (node y (takeP p k ok).1))
            have HK := HK.row (by first | exact .inl rfl | exact .inr rfl) (hrow (node y (takeP p k ok).1)) (g := s + 1)
            have N10 := N10.row (hrow (node y (takeP p k ok).1))
            have N9 := N9.rowOther (hrow (node y (takeP p k ok).1)) (show _ ≠ s + 1 by omega)
            refine wpAny_done (by kernel_rfl) ?_ 0
            exact HX.out _ _ _ _ _ _ HG N9 N10 HK
          · skip
            obtain rfl := List.mem_singleton.1 hi
            refine loadHL rfl rfl (.tmp 10) rfl (s + 1) 0 rfl y hy N10.range ?_
            simp only [Act.put, List.setIfInBounds_toArray, List.set_cons_zero, List.set_cons_succ]
            refine wpAny_all (fuel := 3) (rs := [0, 4]) (by kernel_rfl) (by simp) ?_
            intro i hi
            rcases List.mem_cons.1 hi with rfl | hi
            · skip
              refine loadHL rfl rfl (.tmp 9) rfl s 0 rfl x hx N9.range ?_
              simp only [Act.put, List.setIfInBounds_toArray, List.set_cons_zero, List.set_cons_succ]
              refine wpAny_all (fuel := 2) (rs := [4]) (by kernel_rfl) (by simp) ?_
              intro i hi
              obtain rfl := List.mem_singleton.1 hi
              refine callL rfl rfl ?_
              go_simp
              refine (Node_any y (takeP p k ok).1 hy ht _).mono ?_
              rintro e w2 ⟨rfl, hb⟩
              have HG := HG.of hb
              have HK := HK.trans (X4.of hb)
              have N9 := N9.below hb N9.lt
              have N10 := N10.below hb N10.lt
              refine wpAny_all (fuel := 1) (rs := [5]) (by kernel_rfl) (by simp) ?_
              intro i hi
              obtain rfl := List.mem_singleton.1 hi
              refine storeHL rfl rfl (.tmp 9) (.tmp 39) rfl (s) (x) hx rfl rfl _ N9 (by first | exact hz_len | exact hrow_size (by assumption)) ?_
              simp only [Act.put]
              have HG := HG.setRow (s) (by omega) (hrow (x))
              have HK := HK.row (by first | exact .inl rfl | exact .inr rfl) (hrow (x)) (g := s)
              have N9 := N9.row (hrow (x))
              have N10 := N10.rowOther (hrow (x)) (show _ ≠ s by omega)
              refine wpAny_all (fuel := 0) (rs := [6]) (by kernel_rfl) (by simp) ?_
              intro i hi
              obtain rfl := List.mem_singleton.1 hi
              refine storeHL rfl rfl (.tmp 10) (.tmp 43) rfl (s + 1) (node y (takeP p k ok).1) hn rfl rfl _ N10 (by first | exact hz_len | exact hrow_size (by assumption)) ?_
              simp only [Act.put]
              have HG := HG.setRow (s + 1) (by omega) (hrow (node y (takeP p k ok).1))
              have HK := HK.row (by first | exact .inl rfl | exact .inr rfl) (hrow (node y (takeP p k ok).1)) (g := s + 1)
              have N10 := N10.row (hrow (node y (takeP p k ok).1))
              have N9 := N9.rowOther (hrow (node y (takeP p k ok).1)) (show _ ≠ s + 1 by omega)
              refine wpAny_done (by kernel_rfl) ?_ 0
              exact HX.out _ _ _ _ _ _ HG N9 N10 HK
            · skip
              obtain rfl := List.mem_singleton.1 hi
              refine callL rfl rfl ?_
              go_simp
              refine (Node_any y (takeP p k ok).1 hy ht _).mono ?_
              rintro e w2 ⟨rfl, hb⟩
              have HG := HG.of hb
              have HK := HK.trans (X4.of hb)
              have N9 := N9.below hb N9.lt
              have N10 := N10.below hb N10.lt
              refine wpAny_all (fuel := 2) (rs := [0]) (by kernel_rfl) (by simp) ?_
              intro i hi
              obtain rfl := List.mem_singleton.1 hi
              refine loadHL rfl rfl (.tmp 9) rfl s 0 rfl x hx N9.range ?_
              simp only [Act.put, List.setIfInBounds_toArray, List.set_cons_zero, List.set_cons_succ]
              refine wpAny_all (fuel := 1) (rs := [5]) (by kernel_rfl) (by simp) ?_
              intro i hi
              obtain rfl := List.mem_singleton.1 hi
              refine storeHL rfl rfl (.tmp 9) (.tmp 39) rfl (s) (x) hx rfl rfl _ N9 (by first | exact hz_len | exact hrow_size (by assumption)) ?_
              simp only [Act.put]
              have HG := HG.setRow (s) (by omega) (hrow (x))
              have HK := HK.row (by first | exact .inl rfl | exact .inr rfl) (hrow (x)) (g := s)
              have N9 := N9.row (hrow (x))
              have N10 := N10.rowOther (hrow (x)) (show _ ≠ s by omega)
              refine wpAny_all (fuel := 0) (rs := [6]) (by kernel_rfl) (by simp) ?_
              intro i hi
              obtain rfl := List.mem_singleton.1 hi
              refine storeHL rfl rfl (.tmp 10) (.tmp 43) rfl (s + 1) (node y (takeP p k ok).1) hn rfl rfl _ N10 (by first | exact hz_len | exact hrow_size (by assumption)) ?_
              simp only [Act.put]
              have HG := HG.setRow (s + 1) (by omega) (hrow (node y (takeP p k ok).1))
              have HK := HK.row (by first | exact .inl rfl | exact .inr rfl) (hrow (node y (takeP p k ok).1)) (g := s + 1)
              have N10 := N10.row (hrow (node y (takeP p k ok).1))
              have N9 := N9.rowOther (hrow (node y (takeP p k ok).1)) (show _ ≠ s + 1 by omega)
              refine wpAny_done (by kernel_rfl) ?_ 0
              exact HX.out _ _ _ _ _ _ HG N9 N10 HK
end Go.Proofs.Ytjekdeikoebmgaa
