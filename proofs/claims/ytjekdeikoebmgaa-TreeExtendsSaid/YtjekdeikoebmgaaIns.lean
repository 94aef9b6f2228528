/- The strings that are hashed for the root of a list: inside and Inside. Conditions: sizes. -/
import Derived.Test.YtjekdeikoebmgaaTrM
import Derived.Test.YtjekdeikoebmgaaLLgA
import Derived.OrdersHeld
namespace Go.Proofs.Ytjekdeikoebmgaa
open Go.RowKit Go.Shelf Tr

/-- Strings of the call's own are handed back; nothing but the row that came in was written. -/
def InsQ (base : Nat) (w : World) (vo : Value) (out : List (List UInt8)) (e : Ending) (w' : World) : Prop := ∃ v', e = .returned v' ∧ OwnS w' base v' out ∧ w.grownBy w' (blkOf vo) ∧ (blkOf v' = blkOf vo ∨ ∃ g, blkOf v' = some g ∧ w.heap.size ≤ g)
theorem grown_chain {A B C : World} {r r' : Option Nat} (h : A.grownBy B r) (k : B.grownBy C r') (hr : r' = r ∨ ∃ g, r' = some g ∧ A.heap.size ≤ g) : A.grownBy C r :=
  ⟨k.os.trans h.os, k.tape.trans h.tape, k.output.trans h.output, Nat.le_trans h.size k.size, fun i hi hne => (k.block i (Nat.lt_of_lt_of_le hi h.size) (fun e => by
    rcases hr with rfl | ⟨g, rfl, hg⟩
    · exact hne e
    · injection e with e; omega)).trans (h.block i hi hne)⟩
theorem blk_chain {A B : World} {a b c : Option Nat} (hs : A.heap.size ≤ B.heap.size) (h : b = a ∨ ∃ g, b = some g ∧ A.heap.size ≤ g) (k : c = b ∨ ∃ g, c = some g ∧ B.heap.size ≤ g) : c = a ∨ ∃ g, c = some g ∧ A.heap.size ≤ g := by
  rcases k with rfl | ⟨g, rfl, hg⟩
  · exact h
  · exact .inr ⟨g, rfl, by omega⟩
theorem one_str (w : World) (a : List UInt8) : (Instr.buildSlice 22 1 #[(0, S a)]).run Try.prog w = .ok (.slice (some ⟨w.heap.size, 0, none⟩) 1 1) (w.alloc (.cells #[S a] 9)) := by
  obtain ⟨i0, hi, hz0, hz1, _⟩ := info_parts infoStr
  exact run_buildSlice w 22 9 1 _ _ i0 _ Try.underlying22 hi hz0 (by rw [hz1]; decide) (by rw [hz1]; decide) (by rw [hz1]; kernel_rfl)
theorem cat_0 (s : List UInt8) (hs : s.length ≤ 140737488354000) : Op.stringOp .add ⟨#[0]⟩ ⟨s.toArray⟩ = pure (S (0 :: s)) := by
  rw [cat ⟨#[0]⟩ ⟨s.toArray⟩ (by show 1 + s.length ≤ _; omega)]
  congr 1
theorem cat_node (a b : List UInt8) (ha : a.length = 32) (hb : b.length = 32) : ∃ m : ByteArray, Op.stringOp .add ⟨#[1]⟩ ⟨a.toArray⟩ = pure (.string m) ∧ Op.stringOp .add m ⟨b.toArray⟩ = pure (S (1 :: (a ++ b))) := by
  refine ⟨⟨#[1]⟩ ++ ⟨a.toArray⟩, cat ⟨#[1]⟩ ⟨a.toArray⟩ (by show 1 + a.length ≤ _; omega), ?_⟩
  rw [cat (⟨#[1]⟩ ++ (⟨a.toArray⟩ : ByteArray)) ⟨b.toArray⟩ (by rw [ByteArray.size_append]; show 1 + a.length + b.length ≤ _; omega)]
  congr 2
theorem ins_len1 (l : List (List UInt8)) (h1 : 1 ≤ l.length) : (ins l).length + 1 ≤ 2 * l.length := by
  induction hn : l.length using Nat.strongRecOn generalizing l with
  | _ n ih =>
    by_cases h2 : n = 1
    · obtain ⟨s, rfl⟩ := List.length_eq_one_iff.1 (hn.trans h2)
      rw [ins_one rfl]; simp; omega
    · have hk0 := half_pos (n := n) (by omega)
      have hk1 := half_lt (n := n) (by omega)
      rw [ins_two (by omega), hn]
      have a1 := ih (half n) hk1 (l.take (half n)) (by rw [List.length_take]; omega) (by rw [List.length_take]; omega)
      have a2 := ih (n - half n) (by omega) (l.drop (half n)) (by rw [List.length_drop]; omega) (by rw [List.length_drop]; omega)
      simp only [List.length_append, List.length_singleton]
      omega
theorem ins_len (l : List (List UInt8)) : (ins l).length ≤ 2 * l.length + 1 := by
  by_cases h : 1 ≤ l.length
  · have := ins_len1 l h; omega
  · obtain rfl : l = [] := List.length_eq_zero_iff.1 (by omega)
    rw [ins_nil]; simp

set_option maxRecDepth 100000 in
set_option maxHeartbeats 2000000 in
theorem inside_0 (l : List (List UInt8)) (v vo : Value) (outl : List (List UInt8)) (W w : World) (hS : Small l) (hA : SArg W v l) (hW : Below W.heap.size W w) (hO : OwnS w W.heap.size vo outl) (hn : outl.length + 2 * l.length ≤ 1000000) (h0 : l.length = 0) :
    Calls Try.prog 44 #[v, vo] w (InsQ W.heap.size w vo (outl ++ ins l)) := by
  obtain ⟨a, cap, rfl, hc, _⟩ := hA
  obtain rfl : l = [] := List.length_eq_zero_iff.1 h0
  obtain ⟨v', w', r1, r2, r3, r4⟩ := run_append_str w W.heap.size vo outl hO hW.size [] (by omega)
  have HB := Lib.hid (one_str w [])
  have HP := Lib.hid r1
  have HQ : Hid (InsQ W.heap.size w vo (outl ++ ins []) (.returned v') w') := ⟨v', rfl, by rw [ins_nil]; exact r2, r3, r4⟩
  clear r1 r2 r3 r4 hO
  go_enter Try.func44, Try.ntmps44
  go_wp2_with (first
    | (refine wpList_build_run rfl 22 1 #[(0, .const (.string ⟨#[]⟩))] rfl #[(0, S [])] rfl _ _ HB.out ?_)
    | (at_builtin; refine Lib.wpList_append_run _ rfl (.tmp 11) (.tmp 12) 22 22 rfl _ _ rfl rfl _ _ HP.out ?_))
  go_ret
  exact HQ.out

set_option maxRecDepth 100000 in
set_option maxHeartbeats 2000000 in
theorem inside_1 (l : List (List UInt8)) (v vo : Value) (outl : List (List UInt8)) (W w : World) (hS : Small l) (hA : SArg W v l) (hW : Below W.heap.size W w) (hO : OwnS w W.heap.size vo outl) (hn : outl.length + 2 * l.length ≤ 1000000) (h1 : l.length = 1) :
    Calls Try.prog 44 #[v, vo] w (InsQ W.heap.size w vo (outl ++ ins l)) := by
  obtain ⟨s, rfl⟩ := List.length_eq_one_iff.1 h1
  obtain ⟨a, cap, rfl, hc, hA2⟩ := hA
  obtain ⟨g, o, rfl, hA3⟩ := hA2 (by simp)
  have c0 := keepCells hW _ _ (hA3 0 s rfl)
  rw [Nat.add_zero] at c0
  have hs := hS.each s (by simp)
  have hcat := cat_0 s hs
  obtain ⟨v', w', r1, r2, r3, r4⟩ := run_append_str w W.heap.size vo outl hO hW.size (0 :: s) (by omega)
  have HB := Lib.hid (one_str w (0 :: s))
  have HP := Lib.hid r1
  have HQ : Hid (InsQ W.heap.size w vo (outl ++ ins [s]) (.returned v') w') := ⟨v', rfl, by rw [ins_one rfl]; exact r2, r3, r4⟩
  clear r1 r2 r3 r4 hO hA2 hA3
  generalize 0 :: s = x at *
  go_enter Try.func44, Try.ntmps44
  go_wp2_with (first
    | (refine wpList_build_run rfl 22 1 #[(0, .tmp 21)] rfl #[(0, S x)] rfl _ _ HB.out ?_)
    | (at_builtin; refine Lib.wpList_append_run _ rfl (.tmp 17) (.tmp 22) 22 22 rfl _ _ rfl rfl _ _ HP.out ?_))
  go_ret
  exact HQ.out

theorem yieldsIf_text {ops : Array Oper} {Sw : World → Prop} {o : Oper} {a : Act} {s : List UInt8} (hg : o.guard = none) (x : Operand) (v : Value) (hop : o.op = .convert 30 9 x) (hx : a.eval x = v)
    (hl : ∀ w, Sw w → (convert 30 9 v).run Try.prog w = .ok (S s) w) : YieldsIf Try.prog ops Sw o (S s) a :=
  .inl ⟨by simp [Region.wanted, hg], fun w hS => by unfold execOp; simp [hop, hx, hl w hS]⟩
theorem run_text_at (w : World) (g off : Nat) (a : List UInt8) (ha : a.length = 32) (N : w.rangeAt g off (a.map Y)) : (convert 30 9 (.slice (some ⟨g, off, none⟩) 32 32)).run Try.prog w = .ok (S a) w := by
  have h := run_convert_bytes_back w 30 9 5 ⟨g, off, none⟩ 32 a Try.underlying30 Try.underlying5 Try.underlying9 (fun i hi => by
    rw [Addr.add_lit]
    exact N i _ (by rw [List.getElem?_map, List.getElem?_eq_getElem hi]; rfl))
  rw [ha] at h
  exact h
theorem Blk.keptBy {w w' : World} {b : Nat} {cs : Array Value} {t : TypeId} {r : Option Nat} (h : Blk w b cs t) (hg : w.grownBy w' r) (hne : some b ≠ r) : Blk w' b cs t := (hg.block b h.lt hne).trans h

set_option maxRecDepth 100000 in
set_option maxHeartbeats 2000000 in
theorem ins_r10 (u0 u2 u3 u4 u5 u8 u9 u10 u11 u12 u13 u14 u15 u16 u17 u18 u19 u20 u21 u22 u23 u24 u25 u26 u27 u28 u29 u30 u31 u32 u33 u34 u35 u36 u37 u38 u39 u40 u41 u42 u43 u44 u45 u46 u47 u48 u49 u50 u51 u52 u53 vo : Value) (b6 b7 base : Nat) (x y : List UInt8) (outl : List (List UInt8)) (w : World) (hx : x.length = 32) (hy : y.length = 32) (N6 : Blk w b6 (hrow x) 24) (N7 : Blk w b7 (hrow y) 24) (hO : OwnS w base vo outl) (hb : base ≤ w.heap.size) (hn6 : some b6 ≠ blkOf vo) (hn7 : some b7 ≠ blkOf vo) (hn : outl.length ≤ 4398046511100) (Q : Exit → Act → World → Prop)
    (h : ∀ (y45 y46 y47 y48 y49 y50 y51 y52 y53 v' : Value) (w' : World), OwnS w' base v' (outl ++ [1 :: (x ++ y)]) → w.grownBy w' (blkOf vo) → (blkOf v' = blkOf vo ∨ ∃ g, blkOf v' = some g ∧ w.heap.size ≤ g) → Q .normal ⟨(u0 :: vo :: u2 :: u3 :: v' :: u5 :: (.pointer (some ⟨b6, 0, none⟩)) :: (.pointer (some ⟨b7, 0, none⟩)) :: u8 :: u9 :: u10 :: u11 :: u12 :: u13 :: u14 :: u15 :: u16 :: u17 :: u18 :: u19 :: u20 :: u21 :: u22 :: u23 :: u24 :: u25 :: u26 :: u27 :: u28 :: u29 :: u30 :: u31 :: u32 :: u33 :: u34 :: u35 :: u36 :: u37 :: u38 :: u39 :: u40 :: u41 :: u42 :: u43 :: u44 :: y45 :: y46 :: y47 :: y48 :: y49 :: y50 :: y51 :: y52 :: y53 :: []).toArray, []⟩ w') : Code.wp Try.prog (regionIn Try.f44 10) Q ⟨(u0 :: vo :: u2 :: u3 :: u4 :: u5 :: (.pointer (some ⟨b6, 0, none⟩)) :: (.pointer (some ⟨b7, 0, none⟩)) :: u8 :: u9 :: u10 :: u11 :: u12 :: u13 :: u14 :: u15 :: u16 :: u17 :: u18 :: u19 :: u20 :: u21 :: u22 :: u23 :: u24 :: u25 :: u26 :: u27 :: u28 :: u29 :: u30 :: u31 :: u32 :: u33 :: u34 :: u35 :: u36 :: u37 :: u38 :: u39 :: u40 :: u41 :: u42 :: u43 :: u44 :: u45 :: u46 :: u47 :: u48 :: u49 :: u50 :: u51 :: u52 :: u53 :: []).toArray, []⟩ w := by
  have HX := Lib.hid h
  obtain ⟨m, hm1, hm2⟩ := cat_node x y hx hy
  obtain ⟨z, hz⟩ : ∃ z, (1 : UInt8) :: (x ++ y) = z := ⟨_, rfl⟩
  rw [hz] at hm2
  have HZ := Lib.hid hz
  have HS : Blk { w with drawn := w.drawn + 1 } b6 (hrow x) 24 ∧ Blk { w with drawn := w.drawn + 1 } b7 (hrow y) 24 := ⟨N6, N7⟩
  have hg0 : w.grownBy { w with drawn := w.drawn + 1 } (blkOf vo) := grown_drew (World.grownBy.refl w _)
  have hO0 : OwnS { w with drawn := w.drawn + 1 } base vo outl := hO.below (Below.refl _ w).drew
  have hsz : ({ w with drawn := w.drawn + 1 } : World).heap.size = w.heap.size := rfl
  clear h N6 N7 hO hz
  conv => arg 2; whnf
  refine wp_region_noPanic ?_
  refine wp_region_held (S := fun w => Blk w b6 (hrow x) 24 ∧ Blk w b7 (hrow y) 24) (by kernel_rfl) ?_
  generalize ({ w with drawn := w.drawn + 1 } : World) = w0 at *
  obtain ⟨v', w', r1, r2, r3, r4⟩ := run_append_str w0 base vo outl hO0 (by omega) z (by omega)
  have HBS := Lib.hid (one_str w0 z)
  have HAP := Lib.hid r1
  have HS2 := And.intro (HS.1.keptBy r3 hn6) (HS.2.keptBy r3 hn7)
  have hg2 := grown_chain hg0 r3 (.inl rfl)
  have hk2 := blk_chain (a := blkOf vo) (Nat.le_of_eq hsz.symm) (.inl rfl) r4
  clear r1 r3 r4 hO0 hg0
  refine takeHd 9 0 vo rfl (by kernel_rfl) (by kernel_rfl) (by kernel_rfl) (fun _ _ _ h => h) (Yields.yieldsIf (yields_field rfl (fun w => by unfold execOp; go_simp))) HS ?_
  simp only [Act.put, List.setIfInBounds_toArray, List.set_cons_zero, List.set_cons_succ]
  refine takeHd 8 1 (.slice (some ⟨b6, 0, none⟩) 32 32) rfl (by kernel_rfl) (by kernel_rfl) (by kernel_rfl) (fun _ _ _ h => h) (Yields.yieldsIf (yields_field rfl (fun w => by unfold execOp; go_simp))) HS ?_
  simp only [Act.put, List.setIfInBounds_toArray, List.set_cons_zero, List.set_cons_succ]
  refine takeHd 7 2 (S x) rfl (by kernel_rfl) (by kernel_rfl) (by kernel_rfl) (fun _ _ _ h => h) (yieldsIf_text rfl (.tmp 46) (.slice (some ⟨b6, 0, none⟩) 32 32) rfl rfl (fun w h => run_hash_text w b6 x hx _ h.1)) HS ?_
  simp only [Act.put, List.setIfInBounds_toArray, List.set_cons_zero, List.set_cons_succ]
  refine takeHd 6 3 (.string m) rfl (by kernel_rfl) (by kernel_rfl) (by kernel_rfl) (fun _ _ _ h => h) (Yields.yieldsIf (yields_field rfl (fun w => by unfold execOp; go_simp))) HS ?_
  simp only [Act.put, List.setIfInBounds_toArray, List.set_cons_zero, List.set_cons_succ]
  refine takeHd 5 4 (.slice (some ⟨b7, 0, none⟩) 32 32) rfl (by kernel_rfl) (by kernel_rfl) (by kernel_rfl) (fun _ _ _ h => h) (Yields.yieldsIf (yields_field rfl (fun w => by unfold execOp; go_simp))) HS ?_
  simp only [Act.put, List.setIfInBounds_toArray, List.set_cons_zero, List.set_cons_succ]
  refine takeHd 4 5 (S y) rfl (by kernel_rfl) (by kernel_rfl) (by kernel_rfl) (fun _ _ _ h => h) (yieldsIf_text rfl (.tmp 49) (.slice (some ⟨b7, 0, none⟩) 32 32) rfl rfl (fun w h => run_hash_text w b7 y hy _ h.2)) HS ?_
  simp only [Act.put, List.setIfInBounds_toArray, List.set_cons_zero, List.set_cons_succ]
  refine takeHd 3 6 (S z) rfl (by kernel_rfl) (by kernel_rfl) (by kernel_rfl) (fun _ _ _ h => h) (Yields.yieldsIf (yields_field rfl (fun w => by unfold execOp; go_simp))) HS ?_
  simp only [Act.put, List.setIfInBounds_toArray, List.set_cons_zero, List.set_cons_succ]
  refine wpAnyH_all (rs := [7]) (by kernel_rfl) (by simp) ?_
  intro i hi
  obtain rfl := List.mem_singleton.1 hi
  refine buildL rfl rfl 22 1 #[(0, .tmp 51)] rfl #[(0, S z)] rfl _ HBS.out ?_
  simp only [Act.put, List.setIfInBounds_toArray, List.set_cons_zero, List.set_cons_succ]
  refine ⟨⟨HS.1.alloc _, HS.2.alloc _⟩, ?_⟩
  refine wpAnyH_all (rs := [8]) (by kernel_rfl) (by simp) ?_
  intro i hi
  obtain rfl := List.mem_singleton.1 hi
  refine appendL rfl rfl (.tmp 45) (.tmp 52) 22 22 rfl _ _ rfl rfl _ HAP.out ?_
  simp only [Act.put, List.setIfInBounds_toArray, List.set_cons_zero, List.set_cons_succ]
  refine ⟨HS2, ?_⟩
  refine takeHd 0 9 v' rfl (by kernel_rfl) (by kernel_rfl) (by kernel_rfl) (fun _ _ _ h => h) (Yields.yieldsIf (yields_field rfl (fun w => by unfold execOp; go_simp))) HS2 ?_
  simp only [Act.put, List.setIfInBounds_toArray, List.set_cons_zero, List.set_cons_succ]
  refine wpAnyH_done (by kernel_rfl) ?_ 0
  refine HX.out _ _ _ _ _ _ _ _ _ _ _ ?_ hg2 hk2
  rw [HZ.out]
  exact r2

theorem OwnV.blk_lt {w : World} {base sz n : Nat} {v : Value} {cs : List Value} (h : OwnV w base sz v n cs) : ∀ g, blkOf v = some g → g < w.heap.size := by
  rcases h with ⟨rfl, _⟩ | ⟨g, cap, rfl, _, _, h3⟩
  · intro g hg; cases hg
  · intro g' hg; cases hg; exact h3.lt
set_option maxRecDepth 100000 in
set_option maxHeartbeats 3000000 in
theorem inside_2 (l : List (List UInt8)) (v vo : Value) (outl : List (List UInt8)) (W w : World) (hS : Small l) (hA : SArg W v l) (hW : Below W.heap.size W w) (hO : OwnS w W.heap.size vo outl) (hn : outl.length + 2 * l.length ≤ 1000000) (h2 : 2 ≤ l.length)
    (ih : ∀ (l' : List (List UInt8)) (v vo : Value) (outl : List (List UInt8)) (w : World), l'.length < l.length → Small l' → SArg W v l' → Below W.heap.size W w → OwnS w W.heap.size vo outl → outl.length + 2 * l'.length ≤ 1000000 → Calls Try.prog 44 #[v, vo] w (InsQ W.heap.size w vo (outl ++ ins l'))) :
    Calls Try.prog 44 #[v, vo] w (InsQ W.heap.size w vo (outl ++ ins l)) := by
  obtain ⟨a, cap, rfl, hc, hA⟩ := hA
  obtain ⟨g, o, rfl, hA2⟩ := hA (by rintro rfl; simp at h2)
  have hk := half_lt (n := l.length) (by omega)
  have hk0 := half_pos (n := l.length) (by omega)
  have hsl := hS.len
  have hins := ins_two h2
  have hl1 : (l.take (half l.length)).length = half l.length := by rw [List.length_take]; omega
  have hl2 : (l.drop (half l.length)).length = l.length - half l.length := by rw [List.length_drop]
  have b1 := ins_len1 (l.take (half l.length)) (by omega)
  have b2 := ins_len1 (l.drop (half l.length)) (by omega)
  rw [hl1] at b1
  rw [hl2] at b2
  have SA1 : SArg W (.slice (some ⟨g, o, none⟩) (half l.length) cap) (l.take (half l.length)) := SArg.of hl1 (by omega) (hA2.take _)
  have SA2 : SArg W (.slice (some ⟨g, o + half l.length, none⟩) (l.length - half l.length) (cap - half l.length)) (l.drop (half l.length)) := SArg.of hl2 (by omega) (hA2.drop _)
  have A1 := Lib.hid (fun w => RHalf_any l.length (by omega) (by omega) w)
  have E1 := Lib.hid (fun w' (hb : Below W.heap.size W w') => RRoot_any _ _ _ w' (Nat.le_refl _) (hS.take (half l.length)) (SA1.below hb))
  have E2 := Lib.hid (fun w' (hb : Below W.heap.size W w') => RRoot_any _ _ _ w' (Nat.le_refl _) (hS.drop (half l.length)) (SA2.below hb))
  have I1 := Lib.hid (fun vo outl w hb hO hn => ih _ _ vo outl w (by rw [hl1]; omega) (hS.take (half l.length)) SA1 hb hO hn)
  have I2 := Lib.hid (fun vo outl w hb hO hn => ih _ _ vo outl w (by rw [hl2]; omega) (hS.drop (half l.length)) SA2 hb hO hn)
  rw [hl1] at I1
  rw [hl2] at I2
  have x32 := root_length (l.take (half l.length))
  have y32 := root_length (l.drop (half l.length))
  generalize root (l.take (half l.length)) = x at *
  generalize root (l.drop (half l.length)) = y at *
  generalize ins (l.take (half l.length)) = insA at *
  generalize ins (l.drop (half l.length)) = insB at *
  have HINS := Lib.hid hins
  have e0 : ((l.length : Int) == 0) = false := by rw [beq_eq_false_iff_ne]; omega
  have e1 : ((l.length : Int) == 1) = false := by rw [beq_eq_false_iff_ne]; omega
  obtain ⟨n, hnn⟩ : ∃ n, l.length = n := ⟨_, rfl⟩
  obtain ⟨k, hkk⟩ : ∃ k, half l.length = k := ⟨_, rfl⟩
  rw [hkk] at A1 E1 E2 I1 I2 hk hk0 b1 b2
  rw [hnn] at A1 E2 I2 hk hc hsl e0 e1 hn b2
  rw [hnn]
  have k1 : (k : Int) ≤ (n : Int) := by omega
  have k2 : (k : Int) ≤ (cap : Int) := by omega
  have k3 : k ≤ n := by omega
  have k4 : k ≤ cap := by omega
  have k5 : (n : Int) ≤ (cap : Int) := by omega
  have k6 : cap ≠ k := by omega
  have HO := Lib.hid hO
  clear hins hl1 hl2 SA1 SA2 ih hA hA2 hS h2 hnn hkk hO
  go_enter Try.func44, Try.ntmps44
  go_wp2_with fail
  refine (A1.out _).mono ?_; rintro e w1 ⟨rfl, rfl⟩
  go_wp2_with fail
  refine (E1.out _ hW).mono ?_; rintro e w1 ⟨rfl, hb1⟩
  have hW1 := hW.trans (hb1.mono hW.size)
  have hO1 := HO.out.below hb1
  have L1 := hO1.blk_lt
  have NZ6 := Lib.hid (Blk.new w1 hz 24)
  have N6 := Blk.new w1 (hrow x) 24
  have c6 := (Below.refl w1.heap.size w1).alloc (Nat.le_refl _) (.cells (hrow x) 24)
  have g2 : w.grownBy (w1.alloc (.cells (hrow x) 24)) (blkOf vo) := grown_of_below (hb1.trans (c6.mono hb1.size)) _
  have hW2 := hW1.trans (c6.mono hW1.size)
  have hO2 := hO1.below c6
  have n6 : some w1.heap.size ≠ blkOf vo := fun e => by have := L1 _ e.symm; omega
  have hz6 := hb1.size
  go_upto_region 7 with (first
    | (refine wpList_alloc_hash rfl rfl ?_; go_frame; try simp only [World.size_alloc])
    | (refine wpList_store_hash rfl (.tmp 6) (.tmp 30) rfl w1.heap.size x x32 rfl rfl hz NZ6.out hz_len ?_; go_frame; rw [Blk.fresh]))
  clear NZ6 hO1 L1 hW1 hb1 c6 HO
  generalize w1.alloc (.cells (hrow x) 24) = w2 at *
  generalize w1.heap.size = b6 at *
  go_wp2_with fail
  refine (E2.out _ hW2).mono ?_; rintro e w3 ⟨rfl, hb3⟩
  have hW3 := hW2.trans (hb3.mono hW2.size)
  have hO3 := hO2.below hb3
  have L3 := hO3.blk_lt
  have N63 := N6.below hb3 N6.lt
  have g3 := grown_chain g2 (grown_of_below hb3 (blkOf vo)) (.inl rfl)
  have NZ7 := Lib.hid (Blk.new w3 hz 24)
  have N7 := Blk.new w3 (hrow y) 24
  have c7 := (Below.refl w3.heap.size w3).alloc (Nat.le_refl _) (.cells (hrow y) 24)
  have g4 := grown_chain g3 (grown_of_below c7 (blkOf vo)) (.inl rfl)
  have hW4 := hW3.trans (c7.mono hW3.size)
  have hO4 := hO3.below c7
  have N64 := N63.below c7 N63.lt
  have n7 : some w3.heap.size ≠ blkOf vo := fun e => by have := L3 _ e.symm; omega
  go_upto_region 8 with (first
    | (refine wpList_alloc_hash rfl rfl ?_; go_frame; try simp only [World.size_alloc])
    | (refine wpList_store_hash rfl (.tmp 7) (.tmp 34) rfl w3.heap.size y y32 rfl rfl hz NZ7.out hz_len ?_; go_frame; rw [Blk.fresh]))
  clear NZ7 hO3 L3 hW3 hb3 c7 g2 g3 hO2 hW2 N6 N63
  generalize w3.alloc (.cells (hrow y) 24) = w4 at *
  generalize w3.heap.size = b7 at *
  have s4 := g4.size
  have l6 := N64.lt
  have l7 := N7.lt
  go_wp2_with fail
  refine (I1.out vo outl w4 hW4 hO4 (by omega)).mono ?_; rintro e w5 ⟨v39, rfl, hO5, g5, k5'⟩
  have hW5 := below_of_grown hW4 g5 hW4.size (fun g hg => hO4.blk g hg)
  have N65 := N64.keptBy g5 n6
  have N75 := N7.keptBy g5 n7
  have n65 : some b6 ≠ blkOf v39 := by
    rcases k5' with e | ⟨g', e, hg'⟩
    · rw [e]; exact n6
    · rw [e]; intro e2; injection e2 with e2; omega
  have n75 : some b7 ≠ blkOf v39 := by
    rcases k5' with e | ⟨g', e, hg'⟩
    · rw [e]; exact n7
    · rw [e]; intro e2; injection e2 with e2; omega
  have g05 := grown_chain g4 g5 (.inl rfl)
  have k05 := blk_chain (a := blkOf vo) s4 (.inl rfl) k5'
  have s5 := g05.size
  have l65 := N65.lt
  have l75 := N75.lt
  clear g5 k5' N64 N7 hO4 hW4 g4 I1
  go_wp2_with fail
  refine (I2.out v39 _ w5 hW5 hO5 (by rw [List.length_append]; omega)).mono ?_; rintro e w6 ⟨v44, rfl, hO6, g6, k6'⟩
  have hW6 := below_of_grown hW5 g6 hW5.size (fun g hg => hO5.blk g hg)
  have N66 := N65.keptBy g6 n65
  have N76 := N75.keptBy g6 n75
  have n66 : some b6 ≠ blkOf v44 := by
    rcases k6' with e | ⟨g', e, hg'⟩
    · rw [e]; exact n65
    · rw [e]; intro e2; injection e2 with e2; omega
  have n76 : some b7 ≠ blkOf v44 := by
    rcases k6' with e | ⟨g', e, hg'⟩
    · rw [e]; exact n75
    · rw [e]; intro e2; injection e2 with e2; omega
  have g06 := grown_chain g05 g6 k05
  have k06 := blk_chain s5 k05 k6'
  have s6 := g06.size
  clear g6 k6' N65 N75 hO5 hW5 g05 k05 I2
  go_upto_region 10 with (fail)
  refine ins_r10 _ _ _ _ _ _ _ _ _ _ _ _ _ _ _ _ _ _ _ _ _ _ _ _ _ _ _ _ _ _ _ _ _ _ _ _ _ _ _ _ _ _ _ _ _ _ _ _ _ _ _ v44 b6 b7 W.heap.size x y _ w6 x32 y32 N66 N76 hO6 hW6.size n66 n76 (by rw [List.length_append, List.length_append]; omega) _ ?_
  intro y45 y46 y47 y48 y49 y50 y51 y52 y53 v' w7 hO7 g7 k7
  have HQ : Hid (InsQ W.heap.size w vo (outl ++ ins l) (.returned v') w7) := ⟨v', rfl, by rw [HINS.out, ← List.append_assoc, ← List.append_assoc]; exact hO7, grown_chain g06 g7 k06, blk_chain s6 k06 k7⟩
  clear hO7 g7 k7
  go_wp2_with fail
  go_ret
  exact HQ.out

theorem inside_any (N : Nat) : ∀ (l : List (List UInt8)) (v vo : Value) (outl : List (List UInt8)) (W w : World), l.length ≤ N → Small l → SArg W v l → Below W.heap.size W w → OwnS w W.heap.size vo outl → outl.length + 2 * l.length ≤ 1000000 →
    Calls Try.prog 44 #[v, vo] w (InsQ W.heap.size w vo (outl ++ ins l)) := by
  induction N with
  | zero => exact fun l v vo outl W w hN hS hA hW hO hn => inside_0 l v vo outl W w hS hA hW hO hn (by omega)
  | succ N ihN =>
    intro l v vo outl W w hN hS hA hW hO hn
    by_cases h0 : l.length = 0
    · exact inside_0 l v vo outl W w hS hA hW hO hn h0
    by_cases h1 : l.length = 1
    · exact inside_1 l v vo outl W w hS hA hW hO hn h1
    exact inside_2 l v vo outl W w hS hA hW hO hn (by omega) (fun l' v vo outl w hl hS hA hb hO hn => ihN l' v vo outl W w (by omega) hS hA hb hO hn)
end Go.Proofs.Ytjekdeikoebmgaa
