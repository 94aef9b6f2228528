/- The strings that are hashed when a growth is checked: GrowthInside. Conditions: sizes. -/
import Derived.Test.YtjekdeikoebmgaaBiA
import Derived.Test.YtjekdeikoebmgaaRefK
namespace Go.Proofs.Ytjekdeikoebmgaa
open Go.RowKit Go.Shelf Tr

theorem cat_node2 (a b c : List UInt8) (ha : a.length = 32) (hb : b.length = 32) (hc : c.length = 32) : ∃ m : ByteArray, Op.stringOp .add ⟨#[1]⟩ ⟨a.toArray⟩ = pure (.string m) ∧ Op.stringOp .add m ⟨b.toArray⟩ = pure (S (1 :: (a ++ b))) ∧ Op.stringOp .add m ⟨c.toArray⟩ = pure (S (1 :: (a ++ c))) := by
  refine ⟨⟨#[1]⟩ ++ ⟨a.toArray⟩, cat ⟨#[1]⟩ ⟨a.toArray⟩ (by show 1 + a.length ≤ _; omega), ?_, ?_⟩
  · rw [cat (⟨#[1]⟩ ++ (⟨a.toArray⟩ : ByteArray)) ⟨b.toArray⟩ (by rw [ByteArray.size_append]; show 1 + a.length + b.length ≤ _; omega)]
    congr 2
  · rw [cat (⟨#[1]⟩ ++ (⟨a.toArray⟩ : ByteArray)) ⟨c.toArray⟩ (by rw [ByteArray.size_append]; show 1 + a.length + c.length ≤ _; omega)]
    congr 2
theorem sarg_one (w : World) (a : List UInt8) : SArg (w.alloc (.cells #[S a] 9)) (.slice (some ⟨w.heap.size, 0, none⟩) 1 1) [a] :=
  SArg.of rfl (by decide) (fun j s hj => by
    have N := Blk.new w #[S a] 9
    rw [Nat.zero_add]
    match j, hj with
    | 0, hj => cases hj; exact N.cell 0 _ rfl)
theorem sarg_two (w : World) (a b : List UInt8) : SArg (w.alloc (.cells #[S a, S b] 9)) (.slice (some ⟨w.heap.size, 0, none⟩) 2 2) [a, b] :=
  SArg.of rfl (by decide) (fun j s hj => by
    have N := Blk.new w #[S a, S b] 9
    rw [Nat.zero_add]
    match j, hj with
    | 0, hj => cases hj; exact N.cell 0 _ rfl
    | 1, hj => cases hj; exact N.cell 1 _ rfl)

set_option maxRecDepth 100000 in
set_option maxHeartbeats 2000000 in
theorem gi_r8 (u1 u3 u4 u5 u6 u7 u9 u10 u14 u16 u17 u18 u19 u20 u21 u22 u23 u24 u25 u26 u27 u28 u29 u30 u31 u32 u33 u34 u35 u36 u37 u38 u39 u40 u41 u42 u43 u44 u45 u46 u47 u48 u49 u50 u51 u52 u53 u54 u55 u56 u57 u58 u59 u60 u61 u62 u63 u64 u65 u66 u67 u68 u69 u70 u71 u72 u73 u74 u75 u76 u77 u78 u79 u80 u81 u82 u83 u84 u85 u86 u87 u88 u89 u90 u91 u92 u93 u94 u95 u96 v13 : Value) (m k b8 b12 b15 : Nat) (whole : Bool) (old h y : List UInt8) (out : List (List UInt8)) (w : World) (hold : old.length = 32) (hh : h.length = 32) (hy : y.length = 32) (N8 : Blk w b8 (hrow old) 24) (N12 : Blk w b12 (hrow h) 24) (N15 : Blk w b15 (hrow y) 24) (hout : out.length ≤ 1000)
    (C : ∀ w', Below w.heap.size w w' → Calls Try.prog 35 #[.int .i64 (m : Int), .int .i64 (k : Int), .bool whole, .agg (hrow old), v13] w' (StrQ w' out)) (Q : Exit → Act → World → Prop)
    (hQ : ∀ (y47 y48 y49 y50 y51 y52 y53 y54 y55 y56 y57 y58 y59 y60 v' : Value) (w' : World), OwnS w' w.heap.size v' (out ++ [1 :: (y ++ h)]) → Below w.heap.size w w' → Q .normal ⟨((.int .i64 (m : Int)) :: u1 :: (.bool whole) :: u3 :: u4 :: u5 :: u6 :: u7 :: (.pointer (some ⟨b8, 0, none⟩)) :: u9 :: v' :: (.int .i64 (k : Int)) :: (.pointer (some ⟨b12, 0, none⟩)) :: v13 :: u14 :: (.pointer (some ⟨b15, 0, none⟩)) :: u16 :: u17 :: u18 :: u19 :: u20 :: u21 :: u22 :: u23 :: u24 :: u25 :: u26 :: u27 :: u28 :: u29 :: u30 :: u31 :: u32 :: u33 :: u34 :: u35 :: u36 :: u37 :: u38 :: u39 :: u40 :: u41 :: u42 :: u43 :: u44 :: u45 :: u46 :: y47 :: y48 :: y49 :: y50 :: y51 :: y52 :: y53 :: y54 :: y55 :: y56 :: y57 :: y58 :: y59 :: y60 :: u61 :: u62 :: u63 :: u64 :: u65 :: u66 :: u67 :: u68 :: u69 :: u70 :: u71 :: u72 :: u73 :: u74 :: u75 :: u76 :: u77 :: u78 :: u79 :: u80 :: u81 :: u82 :: u83 :: u84 :: u85 :: u86 :: u87 :: u88 :: u89 :: u90 :: u91 :: u92 :: u93 :: u94 :: u95 :: u96 :: []).toArray, []⟩ w') : Code.wp Try.prog (regionIn Try.f35 8) Q ⟨((.int .i64 (m : Int)) :: u1 :: (.bool whole) :: u3 :: u4 :: u5 :: u6 :: u7 :: (.pointer (some ⟨b8, 0, none⟩)) :: u9 :: u10 :: (.int .i64 (k : Int)) :: (.pointer (some ⟨b12, 0, none⟩)) :: v13 :: u14 :: (.pointer (some ⟨b15, 0, none⟩)) :: u16 :: u17 :: u18 :: u19 :: u20 :: u21 :: u22 :: u23 :: u24 :: u25 :: u26 :: u27 :: u28 :: u29 :: u30 :: u31 :: u32 :: u33 :: u34 :: u35 :: u36 :: u37 :: u38 :: u39 :: u40 :: u41 :: u42 :: u43 :: u44 :: u45 :: u46 :: u47 :: u48 :: u49 :: u50 :: u51 :: u52 :: u53 :: u54 :: u55 :: u56 :: u57 :: u58 :: u59 :: u60 :: u61 :: u62 :: u63 :: u64 :: u65 :: u66 :: u67 :: u68 :: u69 :: u70 :: u71 :: u72 :: u73 :: u74 :: u75 :: u76 :: u77 :: u78 :: u79 :: u80 :: u81 :: u82 :: u83 :: u84 :: u85 :: u86 :: u87 :: u88 :: u89 :: u90 :: u91 :: u92 :: u93 :: u94 :: u95 :: u96 :: []).toArray, []⟩ w := by
  have HX := Lib.hid hQ
  have HC := Lib.hid C
  obtain ⟨mm, hm1, hm2⟩ := cat_node y h hy hh
  obtain ⟨z, hz⟩ : ∃ z, (1 : UInt8) :: (y ++ h) = z := ⟨_, rfl⟩
  rw [hz] at hm2
  have HZ := Lib.hid hz
  have HS : Blk { w with drawn := w.drawn + 1 } b8 (hrow old) 24 ∧ Blk { w with drawn := w.drawn + 1 } b12 (hrow h) 24 ∧ Blk { w with drawn := w.drawn + 1 } b15 (hrow y) 24 := ⟨N8, N12, N15⟩
  have hb0 : Below w.heap.size w { w with drawn := w.drawn + 1 } := (Below.refl _ w).drew
  have hsz : w.heap.size ≤ ({ w with drawn := w.drawn + 1 } : World).heap.size := Nat.le_refl _
  clear hQ N8 N12 N15 C hz
  conv => arg 2; whnf
  refine wp_region_noPanic ?_
  refine wp_region_held (S := fun w => Blk w b8 (hrow old) 24 ∧ Blk w b12 (hrow h) 24 ∧ Blk w b15 (hrow y) 24) (by kernel_rfl) ?_
  generalize ({ w with drawn := w.drawn + 1 } : World) = w0 at *
  refine takeHd 14 0 (.int .i64 (m : Int)) rfl (by kernel_rfl) (by kernel_rfl) (by kernel_rfl) (fun _ _ _ h => h) (Yields.yieldsIf (yields_field rfl (fun w => by unfold execOp; go_simp))) HS ?_
  simp only [Act.put, List.setIfInBounds_toArray, List.set_cons_zero, List.set_cons_succ]
  refine takeHd 13 1 (.int .i64 (k : Int)) rfl (by kernel_rfl) (by kernel_rfl) (by kernel_rfl) (fun _ _ _ h => h) (Yields.yieldsIf (yields_field rfl (fun w => by unfold execOp; go_simp))) HS ?_
  simp only [Act.put, List.setIfInBounds_toArray, List.set_cons_zero, List.set_cons_succ]
  refine takeHd 12 2 (.bool whole) rfl (by kernel_rfl) (by kernel_rfl) (by kernel_rfl) (fun _ _ _ h => h) (Yields.yieldsIf (yields_field rfl (fun w => by unfold execOp; go_simp))) HS ?_
  simp only [Act.put, List.setIfInBounds_toArray, List.set_cons_zero, List.set_cons_succ]
  refine takeHd 11 3 (.agg (hrow old)) rfl (by kernel_rfl) (by kernel_rfl) (by kernel_rfl) (fun _ _ _ h => h) (yieldsIf_load rfl 24 (.tmp 8) ⟨b8, 0, none⟩ rfl rfl (fun w hw => load_hash w b8 0 old hold hw.1.range)) HS ?_
  simp only [Act.put, List.setIfInBounds_toArray, List.set_cons_zero, List.set_cons_succ]
  refine takeHd 10 4 v13 rfl (by kernel_rfl) (by kernel_rfl) (by kernel_rfl) (fun _ _ _ h => h) (Yields.yieldsIf (yields_field rfl (fun w => by unfold execOp; go_simp))) HS ?_
  simp only [Act.put, List.setIfInBounds_toArray, List.set_cons_zero, List.set_cons_succ]
  refine takeHd 9 6 (.slice (some ⟨b15, 0, none⟩) 32 32) rfl (by kernel_rfl) (by kernel_rfl) (by kernel_rfl) (fun _ _ _ h => h) (Yields.yieldsIf (yields_field rfl (fun w => by unfold execOp; go_simp))) HS ?_
  simp only [Act.put, List.setIfInBounds_toArray, List.set_cons_zero, List.set_cons_succ]
  refine takeHd 8 7 (S y) rfl (by kernel_rfl) (by kernel_rfl) (by kernel_rfl) (fun _ _ _ h => h) (yieldsIf_text rfl (.tmp 53) (.slice (some ⟨b15, 0, none⟩) 32 32) rfl rfl (fun w hw => run_hash_text w b15 y hy _ hw.2.2)) HS ?_
  simp only [Act.put, List.setIfInBounds_toArray, List.set_cons_zero, List.set_cons_succ]
  refine takeHd 7 8 (.string mm) rfl (by kernel_rfl) (by kernel_rfl) (by kernel_rfl) (fun _ _ _ h => h) (Yields.yieldsIf (yields_field rfl (fun w => by unfold execOp; go_simp))) HS ?_
  simp only [Act.put, List.setIfInBounds_toArray, List.set_cons_zero, List.set_cons_succ]
  refine takeHd 6 9 (.slice (some ⟨b12, 0, none⟩) 32 32) rfl (by kernel_rfl) (by kernel_rfl) (by kernel_rfl) (fun _ _ _ h => h) (Yields.yieldsIf (yields_field rfl (fun w => by unfold execOp; go_simp))) HS ?_
  simp only [Act.put, List.setIfInBounds_toArray, List.set_cons_zero, List.set_cons_succ]
  refine takeHd 5 10 (S h) rfl (by kernel_rfl) (by kernel_rfl) (by kernel_rfl) (fun _ _ _ h => h) (yieldsIf_text rfl (.tmp 56) (.slice (some ⟨b12, 0, none⟩) 32 32) rfl rfl (fun w hw => run_hash_text w b12 h hh _ hw.2.1)) HS ?_
  simp only [Act.put, List.setIfInBounds_toArray, List.set_cons_zero, List.set_cons_succ]
  refine takeHd 4 11 (S z) rfl (by kernel_rfl) (by kernel_rfl) (by kernel_rfl) (fun _ _ _ h => h) (Yields.yieldsIf (yields_field rfl (fun w => by unfold execOp; go_simp))) HS ?_
  simp only [Act.put, List.setIfInBounds_toArray, List.set_cons_zero, List.set_cons_succ]
  refine wpAnyH_all (rs := [5, 12]) (by kernel_rfl) (by simp) ?_
  intro i hi
  rcases List.mem_cons.1 hi with rfl | hi
  · skip
    refine callL rfl rfl ?_
    go_simp
    refine (HC.out _ hb0).mono ?_
    rintro e w1 ⟨v52, rfl, hO1, hb1⟩
    have HS1 := And.intro (HS.1.below hb1 HS.1.lt) (And.intro (HS.2.1.below hb1 HS.2.1.lt) (HS.2.2.below hb1 HS.2.2.lt))
    obtain ⟨v', w', r1, r2, r3, r4⟩ := run_append_str w1 w0.heap.size v52 out hO1 hb1.size z (by omega)
    have HBS := Lib.hid (one_str w1 z)
    have HAP := Lib.hid r1
    have hb2 := below_of_grown hb1 r3 hb1.size hO1.blk
    have HS2 := And.intro (HS.1.below hb2 HS.1.lt) (And.intro (HS.2.1.below hb2 HS.2.1.lt) (HS.2.2.below hb2 HS.2.2.lt))
    have HR2 := Lib.hid (r2.mono (show w.heap.size ≤ w0.heap.size by omega))
    have hb3 := Lib.hid (hb0.trans (hb2.mono hb0.size))
    clear r1 r2 r3 r4 hO1 hb1 hb2 HS hb0 HC
    refine ⟨HS1, ?_⟩
    refine wpAnyH_all (rs := [12]) (by kernel_rfl) (by simp) ?_
    intro i hi
    obtain rfl := List.mem_singleton.1 hi
    refine buildL rfl rfl 22 1 #[(0, .tmp 58)] rfl #[(0, S z)] rfl _ HBS.out ?_
    simp only [Act.put, List.setIfInBounds_toArray, List.set_cons_zero, List.set_cons_succ]
    refine ⟨⟨HS1.1.alloc _, HS1.2.1.alloc _, HS1.2.2.alloc _⟩, ?_⟩
    refine wpAnyH_all (rs := [13]) (by kernel_rfl) (by simp) ?_
    intro i hi
    obtain rfl := List.mem_singleton.1 hi
    refine appendL rfl rfl (.tmp 52) (.tmp 59) 22 22 rfl _ _ rfl rfl _ HAP.out ?_
    simp only [Act.put, List.setIfInBounds_toArray, List.set_cons_zero, List.set_cons_succ]
    refine ⟨HS2, ?_⟩
    refine takeHd 0 14 v' rfl (by kernel_rfl) (by kernel_rfl) (by kernel_rfl) (fun _ _ _ h => h) (Yields.yieldsIf (yields_field rfl (fun w => by unfold execOp; go_simp))) HS2 ?_
    simp only [Act.put, List.setIfInBounds_toArray, List.set_cons_zero, List.set_cons_succ]
    refine wpAnyH_done (by kernel_rfl) ?_ 0
    refine HX.out _ _ _ _ _ _ _ _ _ _ _ _ _ _ _ _ ?_ hb3.out
    rw [HZ.out]
    exact HR2.out
  · skip
    obtain rfl := List.mem_singleton.1 hi
    have HBS := Lib.hid (one_str w0 z)
    refine buildL rfl rfl 22 1 #[(0, .tmp 58)] rfl #[(0, S z)] rfl _ HBS.out ?_
    simp only [Act.put, List.setIfInBounds_toArray, List.set_cons_zero, List.set_cons_succ]
    have HSA : Blk (w0.alloc (.cells #[S z] 9)) b8 (hrow old) 24 ∧ Blk (w0.alloc (.cells #[S z] 9)) b12 (hrow h) 24 ∧ Blk (w0.alloc (.cells #[S z] 9)) b15 (hrow y) 24 := ⟨HS.1.alloc _, HS.2.1.alloc _, HS.2.2.alloc _⟩
    have hbA := hb0.alloc (show w.heap.size ≤ w0.heap.size by omega) (.cells #[S z] 9)
    have hSA := sarg_one w0 z
    clear HBS HS hb0
    refine ⟨HSA, ?_⟩
    generalize w0.alloc (.cells #[S z] 9) = wa at *
    refine wpAnyH_all (rs := [5]) (by kernel_rfl) (by simp) ?_
    intro i hi
    obtain rfl := List.mem_singleton.1 hi
    refine callL rfl rfl ?_
    go_simp
    refine (HC.out _ hbA).mono ?_
    rintro e w1 ⟨v52, rfl, hO1, hb1⟩
    have HS1 := And.intro (HSA.1.below hb1 HSA.1.lt) (And.intro (HSA.2.1.below hb1 HSA.2.1.lt) (HSA.2.2.below hb1 HSA.2.2.lt))
    obtain ⟨v', w', r1, r2, r3, r4⟩ := run_append_strs w1 wa.heap.size v52 _ out [z] hO1 hb1.size (hSA.below hb1) (by simp; omega)
    have HAP := Lib.hid r1
    have hb2 := below_of_grown hb1 r3 hb1.size hO1.blk
    have HS2 := And.intro (HSA.1.below hb2 HSA.1.lt) (And.intro (HSA.2.1.below hb2 HSA.2.1.lt) (HSA.2.2.below hb2 HSA.2.2.lt))
    have HR2 := Lib.hid (r2.mono hbA.size)
    have hb3 := Lib.hid (hbA.trans (hb2.mono hbA.size))
    clear r1 r2 r3 r4 hO1 hb1 hb2 HSA hbA HC hSA
    refine ⟨HS1, ?_⟩
    refine wpAnyH_all (rs := [13]) (by kernel_rfl) (by simp) ?_
    intro i hi
    obtain rfl := List.mem_singleton.1 hi
    refine appendL (w' := w') rfl rfl (.tmp 52) (.tmp 59) 22 22 rfl _ _ rfl rfl v' ?_ ?_
    · exact HAP.out
    simp only [Act.put, List.setIfInBounds_toArray, List.set_cons_zero, List.set_cons_succ]
    refine ⟨HS2, ?_⟩
    refine takeHd 0 14 v' rfl (by kernel_rfl) (by kernel_rfl) (by kernel_rfl) (fun _ _ _ h => h) (Yields.yieldsIf (yields_field rfl (fun w => by unfold execOp; go_simp))) HS2 ?_
    simp only [Act.put, List.setIfInBounds_toArray, List.set_cons_zero, List.set_cons_succ]
    refine wpAnyH_done (by kernel_rfl) ?_ 0
    refine HX.out _ _ _ _ _ _ _ _ _ _ _ _ _ _ _ _ ?_ hb3.out
    rw [HZ.out]
    exact HR2.out

set_option maxRecDepth 100000 in
set_option maxHeartbeats 2000000 in
theorem gi_r11 (u0 u1 u2 u3 u4 u5 u6 u7 u8 u9 u10 u11 u13 u14 u15 u19 u20 u21 u22 u23 u24 u25 u26 u27 u28 u29 u30 u31 u32 u33 u34 u35 u36 u37 u38 u39 u40 u41 u42 u43 u44 u45 u46 u47 u48 u49 u50 u51 u52 u53 u54 u55 u56 u57 u58 u59 u60 u61 u62 u63 u64 u65 u66 u67 u68 u69 u70 u71 u72 u73 u74 u75 u76 u77 u78 u79 u80 u81 u82 u83 u84 u85 u86 u87 u88 u89 u90 u91 u92 u93 u94 u95 u96 vo : Value) (b12 b16 b17 base : Nat) (h x y : List UInt8) (out : List (List UInt8)) (w : World) (hh : h.length = 32) (hx : x.length = 32) (hy : y.length = 32) (N12 : Blk w b12 (hrow h) 24) (N16 : Blk w b16 (hrow x) 24) (N17 : Blk w b17 (hrow y) 24) (hO : OwnS w base vo out) (hb : base ≤ w.heap.size) (hout : out.length ≤ 1000) (n12 : b12 < base) (n16 : b16 < base) (n17 : b17 < base) (Q : Exit → Act → World → Prop)
    (hQ : ∀ (y82 y83 y84 y85 y86 y87 y88 y89 y90 y91 y92 y93 y94 y95 y96 v' : Value) (w' : World), OwnS w' base v' (out ++ [1 :: (h ++ x), 1 :: (h ++ y)]) → Below base w w' → Q .normal ⟨(u0 :: u1 :: u2 :: u3 :: u4 :: u5 :: u6 :: u7 :: u8 :: u9 :: v' :: u11 :: (.pointer (some ⟨b12, 0, none⟩)) :: u13 :: u14 :: u15 :: (.pointer (some ⟨b16, 0, none⟩)) :: (.pointer (some ⟨b17, 0, none⟩)) :: vo :: u19 :: u20 :: u21 :: u22 :: u23 :: u24 :: u25 :: u26 :: u27 :: u28 :: u29 :: u30 :: u31 :: u32 :: u33 :: u34 :: u35 :: u36 :: u37 :: u38 :: u39 :: u40 :: u41 :: u42 :: u43 :: u44 :: u45 :: u46 :: u47 :: u48 :: u49 :: u50 :: u51 :: u52 :: u53 :: u54 :: u55 :: u56 :: u57 :: u58 :: u59 :: u60 :: u61 :: u62 :: u63 :: u64 :: u65 :: u66 :: u67 :: u68 :: u69 :: u70 :: u71 :: u72 :: u73 :: u74 :: u75 :: u76 :: u77 :: u78 :: u79 :: u80 :: u81 :: y82 :: y83 :: y84 :: y85 :: y86 :: y87 :: y88 :: y89 :: y90 :: y91 :: y92 :: y93 :: y94 :: y95 :: y96 :: []).toArray, []⟩ w') : Code.wp Try.prog (regionIn Try.f35 11) Q ⟨(u0 :: u1 :: u2 :: u3 :: u4 :: u5 :: u6 :: u7 :: u8 :: u9 :: u10 :: u11 :: (.pointer (some ⟨b12, 0, none⟩)) :: u13 :: u14 :: u15 :: (.pointer (some ⟨b16, 0, none⟩)) :: (.pointer (some ⟨b17, 0, none⟩)) :: vo :: u19 :: u20 :: u21 :: u22 :: u23 :: u24 :: u25 :: u26 :: u27 :: u28 :: u29 :: u30 :: u31 :: u32 :: u33 :: u34 :: u35 :: u36 :: u37 :: u38 :: u39 :: u40 :: u41 :: u42 :: u43 :: u44 :: u45 :: u46 :: u47 :: u48 :: u49 :: u50 :: u51 :: u52 :: u53 :: u54 :: u55 :: u56 :: u57 :: u58 :: u59 :: u60 :: u61 :: u62 :: u63 :: u64 :: u65 :: u66 :: u67 :: u68 :: u69 :: u70 :: u71 :: u72 :: u73 :: u74 :: u75 :: u76 :: u77 :: u78 :: u79 :: u80 :: u81 :: u82 :: u83 :: u84 :: u85 :: u86 :: u87 :: u88 :: u89 :: u90 :: u91 :: u92 :: u93 :: u94 :: u95 :: u96 :: []).toArray, []⟩ w := by
  have HX := Lib.hid hQ
  obtain ⟨m1, hm1, hm2, hm4⟩ := cat_node2 h x y hh hx hy
  obtain ⟨z1, hz1⟩ : ∃ z, (1 : UInt8) :: (h ++ x) = z := ⟨_, rfl⟩
  obtain ⟨z2, hz2⟩ : ∃ z, (1 : UInt8) :: (h ++ y) = z := ⟨_, rfl⟩
  rw [hz1] at hm2
  rw [hz2] at hm4
  have HZ := Lib.hid (And.intro hz1 hz2)
  have HS : Blk { w with drawn := w.drawn + 1 } b12 (hrow h) 24 ∧ Blk { w with drawn := w.drawn + 1 } b16 (hrow x) 24 ∧ Blk { w with drawn := w.drawn + 1 } b17 (hrow y) 24 := ⟨N12, N16, N17⟩
  have hb0 : Below base w { w with drawn := w.drawn + 1 } := (Below.refl _ w).drew
  have hO0 : OwnS { w with drawn := w.drawn + 1 } base vo out := hO.below (Below.refl _ w).drew
  have hsz : ({ w with drawn := w.drawn + 1 } : World).heap.size = w.heap.size := rfl
  clear hQ N12 N16 N17 hz1 hz2 hO
  conv => arg 2; whnf
  refine wp_region_noPanic ?_
  refine wp_region_held (S := fun w => Blk w b12 (hrow h) 24 ∧ Blk w b16 (hrow x) 24 ∧ Blk w b17 (hrow y) 24) (by kernel_rfl) ?_
  generalize ({ w with drawn := w.drawn + 1 } : World) = w0 at *
  have HBS := Lib.hid (two_strs w0 z1 z2)
  have c0 := (Below.refl w0.heap.size w0).alloc (Nat.le_refl _) (.cells #[S z1, S z2] 9)
  have hO1 := hO0.below c0
  have hbb : base ≤ (w0.alloc (.cells #[S z1, S z2] 9)).heap.size := by have := c0.size; omega
  obtain ⟨v', w', r1, r2, r3, r4⟩ := run_append_strs (w0.alloc (.cells #[S z1, S z2] 9)) base vo _ out [z1, z2] hO1 hbb (sarg_two w0 z1 z2) (by simp; omega)
  have HAP := Lib.hid r1
  have hb2 := below_of_grown (hb0.trans (c0.mono (by omega))) r3 hbb hO1.blk
  have hb3 := below_of_grown (c0.mono (show base ≤ w0.heap.size by omega)) r3 hbb hO1.blk
  have HS2 := And.intro (HS.1.below hb3 n12) (And.intro (HS.2.1.below hb3 n16) (HS.2.2.below hb3 n17))
  have HR2 := Lib.hid r2
  have HB2 := Lib.hid hb2
  clear r1 r2 r3 r4 hO1 hO0 hb0 c0 hbb hb2 hb3
  refine takeHd 15 0 vo rfl (by kernel_rfl) (by kernel_rfl) (by kernel_rfl) (fun _ _ _ h => h) (Yields.yieldsIf (yields_field rfl (fun w => by unfold execOp; go_simp))) HS ?_
  simp only [Act.put, List.setIfInBounds_toArray, List.set_cons_zero, List.set_cons_succ]
  refine takeHd 14 1 (.slice (some ⟨b12, 0, none⟩) 32 32) rfl (by kernel_rfl) (by kernel_rfl) (by kernel_rfl) (fun _ _ _ h => h) (Yields.yieldsIf (yields_field rfl (fun w => by unfold execOp; go_simp))) HS ?_
  simp only [Act.put, List.setIfInBounds_toArray, List.set_cons_zero, List.set_cons_succ]
  refine takeHd 13 2 (S h) rfl (by kernel_rfl) (by kernel_rfl) (by kernel_rfl) (fun _ _ _ h => h) (yieldsIf_text rfl (.tmp 83) (.slice (some ⟨b12, 0, none⟩) 32 32) rfl rfl (fun w hw => run_hash_text w b12 h hh _ hw.1)) HS ?_
  simp only [Act.put, List.setIfInBounds_toArray, List.set_cons_zero, List.set_cons_succ]
  refine takeHd 12 3 (.string m1) rfl (by kernel_rfl) (by kernel_rfl) (by kernel_rfl) (fun _ _ _ h => h) (Yields.yieldsIf (yields_field rfl (fun w => by unfold execOp; go_simp))) HS ?_
  simp only [Act.put, List.setIfInBounds_toArray, List.set_cons_zero, List.set_cons_succ]
  refine takeHd 11 4 (.slice (some ⟨b16, 0, none⟩) 32 32) rfl (by kernel_rfl) (by kernel_rfl) (by kernel_rfl) (fun _ _ _ h => h) (Yields.yieldsIf (yields_field rfl (fun w => by unfold execOp; go_simp))) HS ?_
  simp only [Act.put, List.setIfInBounds_toArray, List.set_cons_zero, List.set_cons_succ]
  refine takeHd 10 5 (S x) rfl (by kernel_rfl) (by kernel_rfl) (by kernel_rfl) (fun _ _ _ h => h) (yieldsIf_text rfl (.tmp 86) (.slice (some ⟨b16, 0, none⟩) 32 32) rfl rfl (fun w hw => run_hash_text w b16 x hx _ hw.2.1)) HS ?_
  simp only [Act.put, List.setIfInBounds_toArray, List.set_cons_zero, List.set_cons_succ]
  refine takeHd 9 6 (S z1) rfl (by kernel_rfl) (by kernel_rfl) (by kernel_rfl) (fun _ _ _ h => h) (Yields.yieldsIf (yields_field rfl (fun w => by unfold execOp; go_simp))) HS ?_
  simp only [Act.put, List.setIfInBounds_toArray, List.set_cons_zero, List.set_cons_succ]
  refine takeHd 8 7 (.slice (some ⟨b12, 0, none⟩) 32 32) rfl (by kernel_rfl) (by kernel_rfl) (by kernel_rfl) (fun _ _ _ h => h) (Yields.yieldsIf (yields_field rfl (fun w => by unfold execOp; go_simp))) HS ?_
  simp only [Act.put, List.setIfInBounds_toArray, List.set_cons_zero, List.set_cons_succ]
  refine takeHd 7 8 (S h) rfl (by kernel_rfl) (by kernel_rfl) (by kernel_rfl) (fun _ _ _ h => h) (yieldsIf_text rfl (.tmp 89) (.slice (some ⟨b12, 0, none⟩) 32 32) rfl rfl (fun w hw => run_hash_text w b12 h hh _ hw.1)) HS ?_
  simp only [Act.put, List.setIfInBounds_toArray, List.set_cons_zero, List.set_cons_succ]
  refine takeHd 6 9 (.string m1) rfl (by kernel_rfl) (by kernel_rfl) (by kernel_rfl) (fun _ _ _ h => h) (Yields.yieldsIf (yields_field rfl (fun w => by unfold execOp; go_simp))) HS ?_
  simp only [Act.put, List.setIfInBounds_toArray, List.set_cons_zero, List.set_cons_succ]
  refine takeHd 5 10 (.slice (some ⟨b17, 0, none⟩) 32 32) rfl (by kernel_rfl) (by kernel_rfl) (by kernel_rfl) (fun _ _ _ h => h) (Yields.yieldsIf (yields_field rfl (fun w => by unfold execOp; go_simp))) HS ?_
  simp only [Act.put, List.setIfInBounds_toArray, List.set_cons_zero, List.set_cons_succ]
  refine takeHd 4 11 (S y) rfl (by kernel_rfl) (by kernel_rfl) (by kernel_rfl) (fun _ _ _ h => h) (yieldsIf_text rfl (.tmp 92) (.slice (some ⟨b17, 0, none⟩) 32 32) rfl rfl (fun w hw => run_hash_text w b17 y hy _ hw.2.2)) HS ?_
  simp only [Act.put, List.setIfInBounds_toArray, List.set_cons_zero, List.set_cons_succ]
  refine takeHd 3 12 (S z2) rfl (by kernel_rfl) (by kernel_rfl) (by kernel_rfl) (fun _ _ _ h => h) (Yields.yieldsIf (yields_field rfl (fun w => by unfold execOp; go_simp))) HS ?_
  simp only [Act.put, List.setIfInBounds_toArray, List.set_cons_zero, List.set_cons_succ]
  refine wpAnyH_all (rs := [13]) (by kernel_rfl) (by simp) ?_
  intro i hi
  obtain rfl := List.mem_singleton.1 hi
  refine buildL rfl rfl 22 2 #[(0, .tmp 88), (1, .tmp 94)] rfl #[(0, S z1), (1, S z2)] rfl _ HBS.out ?_
  simp only [Act.put, List.setIfInBounds_toArray, List.set_cons_zero, List.set_cons_succ]
  refine ⟨⟨HS.1.alloc _, HS.2.1.alloc _, HS.2.2.alloc _⟩, ?_⟩
  refine wpAnyH_all (rs := [14]) (by kernel_rfl) (by simp) ?_
  intro i hi
  obtain rfl := List.mem_singleton.1 hi
  refine appendL rfl rfl (.tmp 82) (.tmp 95) 22 22 rfl _ _ rfl rfl _ HAP.out ?_
  simp only [Act.put, List.setIfInBounds_toArray, List.set_cons_zero, List.set_cons_succ]
  refine ⟨HS2, ?_⟩
  refine takeHd 0 15 v' rfl (by kernel_rfl) (by kernel_rfl) (by kernel_rfl) (fun _ _ _ h => h) (Yields.yieldsIf (yields_field rfl (fun w => by unfold execOp; go_simp))) HS2 ?_
  simp only [Act.put, List.setIfInBounds_toArray, List.set_cons_zero, List.set_cons_succ]
  refine wpAnyH_done (by kernel_rfl) ?_ 0
  refine HX.out _ _ _ _ _ _ _ _ _ _ _ _ _ _ _ _ _ ?_ HB2.out
  rw [HZ.out.1, HZ.out.2]
  exact HR2.out

set_option maxRecDepth 100000 in
set_option maxHeartbeats 2000000 in
theorem gi_left (n m : Nat) (whole : Bool) (old h x y : List UInt8) (out : List (List UInt8)) (g o q L cap : Nat) (w : World) (hmn : m < n) (h0 : 1 ≤ m) (hn : n ≤ 9223372036854775807) (hc0 : m ≤ half n) (hold : old.length = 32) (hh : h.length = 32) (hx : x.length = 32) (hy : y.length = 32) (hL : L = q + 1) (hcap : L ≤ cap) (hq : q ≤ 64) (hA : w.rangeAt g (o + q * 32) (h.map Y)) (hout : out.length ≤ 1000)
    (ib : ∀ w', Below w.heap.size w w' → Calls Try.prog 51 #[.int .i64 m, .int .i64 (half n), .bool whole, .agg (hrow old), .slice (some ⟨g, o, none⟩) q cap] w' fun e w'' => e = .returned (.tuple #[.agg (hrow x), .agg (hrow y)]) ∧ Below w'.heap.size w' w'')
    (ih : ∀ w', Below w.heap.size w w' → Calls Try.prog 35 #[.int .i64 m, .int .i64 (half n), .bool whole, .agg (hrow old), .slice (some ⟨g, o, none⟩) q cap] w' (StrQ w' out)) :
    Calls Try.prog 35 #[.int .i64 m, .int .i64 n, .bool whole, .agg (hrow old), .slice (some ⟨g, o, none⟩) L cap] w (StrQ w (out ++ [1 :: (y ++ h)])) := by
  have e0 : ((m : Int) == (n : Int)) = false := by rw [beq_eq_false_iff_ne]; omega
  have A1 := Lib.hid (fun w => RHalf_any n (by omega) hn w)
  have HA := Lib.hid (fun w' (hb : Below w.heap.size w w') => (fun j u hu => keepCells hb _ _ (hA j u hu) : w'.rangeAt g (o + q * 32) (h.map Y)))
  have IB := Lib.hid ib
  have IH := Lib.hid ih
  have el : (L : Int) - 1 = (q : Int) := by omega
  have b0 : (0 : Int) ≤ (q : Int) := by omega
  have b1 : (q : Int) < (L : Int) := by omega
  have hsl := slice_firstH g o L cap q (by omega) hcap
  clear ih ib hA hL
  generalize half n = k at *
  have qk : (m : Int) ≤ (k : Int) := by omega
  clear hc0 hmn h0
  have N8 := Blk.new w (hrow old) 24
  have hb0 := (Below.refl w.heap.size w).alloc (Nat.le_refl _) (.cells (hrow old) 24)
  obtain ⟨s, hs⟩ : ∃ s, w.heap.size = s := ⟨_, rfl⟩
  have hsw : w.heap.size ≤ s := by omega
  rw [hs] at N8
  go_enter Try.func35, Try.ntmps35
  go_upto_region 1 with (refine wpList_box_row rfl 24 (.tmp 3) rfl (hrow old) rfl ?_; go_frame)
  rw [hs]
  generalize w.alloc (.cells (hrow old) 24) = w1 at *
  clear hs
  have HEw := Lib.hid (HA.out _ hb0)
  have HHZ := Lib.hid (fun w' (h : w' = w1.alloc (.cells hz 24)) => (h ▸ Blk.new w1 hz 24 : Blk w' w1.heap.size hz 24))
  have HL0 := Lib.hid hz_len
  have hh0 := Blk.new w1 (hrow h) 24
  have N8 := N8.alloc (.cells (hrow h) 24)
  have hB2 := hb0.alloc hb0.size (.cells (hrow h) 24)
  have G8 := Lib.hid N8
  have GH := Lib.hid hh0
  have GB := Lib.hid hB2
  clear N8 hh0 hB2 HA
  go_wp2_with fail
  refine (A1.out _).mono ?_; rintro e w1' ⟨rfl, rfl⟩
  go_upto_region 6 with (first
    | (refine wpList_load_hashAt (by kernel_rfl) (.tmp 28) rfl g (o + q * 32) rfl h hh HEw.out ?_; go_frame)
    | (refine wpList_alloc_hash rfl rfl ?_; go_frame; try simp only [World.size_alloc])
    | (refine wpList_store_hash rfl (.tmp 12) (.tmp 29) rfl w1.heap.size h hh rfl rfl hz (HHZ.out _ rfl) HL0.out ?_; go_frame; rw [Blk.fresh]))
  obtain ⟨c, hc2⟩ : ∃ c, w1.heap.size = c := ⟨_, rfl⟩
  rw [hc2] at GH
  rw [hc2]
  clear hc2 HEw HHZ hsl A1 hb0
  generalize w1.alloc (.cells (hrow h) 24) = w2 at *
  have IBw := Lib.hid (IB.out _ GB.out)
  clear IB
  go_wp2_with (refine wpList_load_hash (by kernel_rfl) (.tmp 8) rfl s rfl old hold G8.out ?_; go_frame)
  refine IBw.out.mono ?_; rintro e w3 ⟨rfl, hb3⟩
  have P8 := G8.out.below hb3 G8.out.lt
  have PC := GH.out.below hb3 GH.out.lt
  have hB3 := GB.out.trans (hb3.mono GB.out.size)
  clear G8 GH GB IBw hb3
  have l8 := P8.lt
  have lc := PC.lt
  obtain ⟨D1, D2, hb4⟩ := two_new w3
  have P8 := P8.below hb4 P8.lt
  have PC := PC.below hb4 PC.lt
  have hB4 := hB3.trans (hb4.mono hB3.size)
  have hle := hB3.size
  obtain ⟨d, hd⟩ : ∃ d, w3.heap.size = d := ⟨_, rfl⟩
  rw [hd] at D1 D2 l8 lc hle
  have D2a := D2.rowOther (hrow x) (show d + 1 ≠ d by omega)
  have F8 := Lib.hid ((P8.rowOther (hrow x) (show s ≠ d by omega)).rowOther (hrow y) (show s ≠ d + 1 by omega))
  have FC := Lib.hid ((PC.rowOther (hrow x) (show c ≠ d by omega)).rowOther (hrow y) (show c ≠ d + 1 by omega))
  have FD := Lib.hid ((D1.row (hrow x)).rowOther (hrow y) (show d ≠ d + 1 by omega))
  have FE := Lib.hid (D2a.row (hrow y))
  have FB := Lib.hid (Below.setRow (Below.setRow hB4 (show w.heap.size ≤ d by omega) (hrow x)) (show w.heap.size ≤ d + 1 by omega) (hrow y))
  have HD1 := Lib.hid D1
  have HD2 := Lib.hid D2a
  clear P8 PC D1 D2 D2a hB3 hB4 hb4
  go_upto_region 8 with (first
    | (refine wpList_alloc_hash rfl rfl ?_; go_frame; try simp only [World.size_alloc])
    | (refine wpList_store_hash rfl (.tmp 14) (.tmp 45) rfl w3.heap.size x hx rfl rfl hz (hd.symm ▸ HD1.out) HL0.out ?_; go_frame)
    | (refine wpList_store_hash rfl (.tmp 15) (.tmp 46) rfl (w3.heap.size + 1) y hy rfl rfl hz (hd.symm ▸ HD2.out) HL0.out ?_; go_frame))
  rw [hd]
  clear hd HD1 HD2
  generalize (((w3.alloc (.cells hz 24)).alloc (.cells hz 24)).setRow d (hrow x)).setRow (d + 1) (hrow y) = w5 at *
  have IHw := fun w' hb => IH.out w' (FB.out.trans (Below.mono hb FB.out.size))
  refine gi_r8 _ _ _ _ _ _ _ _ _ _ _ _ _ _ _ _ _ _ _ _ _ _ _ _ _ _ _ _ _ _ _ _ _ _ _ _ _ _ _ _ _ _ _ _ _ _ _ _ _ _ _ _ _ _ _ _ _ _ _ _ _ _ _ _ _ _ _ _ _ _ _ _ _ _ _ _ _ _ _ _ _ _ _ _ _ _ _ _ _ _ (.slice (some ⟨g, o, none⟩) q cap) m k s c (d + 1) whole old h y out w5 hold hh hy F8.out FC.out FE.out hout IHw _ ?_
  intro y47 y48 y49 y50 y51 y52 y53 y54 y55 y56 y57 y58 y59 y60 v' w6 hO hB
  have HB := Lib.hid (FB.out.trans (Below.mono hB FB.out.size))
  have HO := Lib.hid (hO.mono FB.out.size)
  clear hO hB FB F8 FC FE FD IHw IH
  go_wp2_with fail
  go_ret
  exact ⟨v', rfl, HO.out, HB.out⟩

set_option maxRecDepth 100000 in
set_option maxHeartbeats 2000000 in
theorem gi_right (n m : Nat) (whole : Bool) (old h x y : List UInt8) (out : List (List UInt8)) (g o q L cap : Nat) (w : World) (hmn : m < n) (h0 : 1 ≤ m) (hn : n ≤ 9223372036854775807) (hc0 : half n < m) (hold : old.length = 32) (hh : h.length = 32) (hx : x.length = 32) (hy : y.length = 32) (hL : L = q + 1) (hcap : L ≤ cap) (hq : q ≤ 64) (hA : w.rangeAt g (o + q * 32) (h.map Y)) (hout : out.length ≤ 1000)
    (ib : ∀ w', Below w.heap.size w w' → Calls Try.prog 51 #[.int .i64 ((m - half n : Nat) : Int), .int .i64 ((n - half n : Nat) : Int), .bool false, .agg (hrow old), .slice (some ⟨g, o, none⟩) q cap] w' fun e w'' => e = .returned (.tuple #[.agg (hrow x), .agg (hrow y)]) ∧ Below w'.heap.size w' w'')
    (ih : ∀ w', Below w.heap.size w w' → Calls Try.prog 35 #[.int .i64 ((m - half n : Nat) : Int), .int .i64 ((n - half n : Nat) : Int), .bool false, .agg (hrow old), .slice (some ⟨g, o, none⟩) q cap] w' (StrQ w' out)) :
    Calls Try.prog 35 #[.int .i64 m, .int .i64 n, .bool whole, .agg (hrow old), .slice (some ⟨g, o, none⟩) L cap] w (StrQ w (out ++ [1 :: (h ++ x), 1 :: (h ++ y)])) := by
  have e1 : ((m - half n : Nat) : Int) = (m : Int) - (half n : Int) := by omega
  have e2 : ((n - half n : Nat) : Int) = (n : Int) - (half n : Int) := by omega
  rw [e1, e2] at ih ib
  clear e1 e2
  have e0 : ((m : Int) == (n : Int)) = false := by rw [beq_eq_false_iff_ne]; omega
  have A1 := Lib.hid (fun w => RHalf_any n (by omega) hn w)
  have HA := Lib.hid (fun w' (hb : Below w.heap.size w w') => (fun j u hu => keepCells hb _ _ (hA j u hu) : w'.rangeAt g (o + q * 32) (h.map Y)))
  have IB := Lib.hid ib
  have IH := Lib.hid ih
  have el : (L : Int) - 1 = (q : Int) := by omega
  have b0 : (0 : Int) ≤ (q : Int) := by omega
  have b1 : (q : Int) < (L : Int) := by omega
  have hsl := slice_firstH g o L cap q (by omega) hcap
  clear ih ib hA hL
  generalize half n = k at *
  have qk : ¬ ((m : Int) ≤ (k : Int)) := by omega
  have d1 : (0 : Int) ≤ (k : Int) := by omega
  have d2 : (k : Int) < (n : Int) := by omega
  have d3 : (m : Int) < (n : Int) := by omega
  have d4 : (n : Int) ≤ 9223372036854775807 := by omega
  clear hc0 hmn h0
  have N8 := Blk.new w (hrow old) 24
  have hb0 := (Below.refl w.heap.size w).alloc (Nat.le_refl _) (.cells (hrow old) 24)
  obtain ⟨s, hs⟩ : ∃ s, w.heap.size = s := ⟨_, rfl⟩
  have hsw : w.heap.size ≤ s := by omega
  rw [hs] at N8
  go_enter Try.func35, Try.ntmps35
  go_upto_region 1 with (refine wpList_box_row rfl 24 (.tmp 3) rfl (hrow old) rfl ?_; go_frame)
  rw [hs]
  generalize w.alloc (.cells (hrow old) 24) = w1 at *
  clear hs
  have HEw := Lib.hid (HA.out _ hb0)
  have HHZ := Lib.hid (fun w' (h : w' = w1.alloc (.cells hz 24)) => (h ▸ Blk.new w1 hz 24 : Blk w' w1.heap.size hz 24))
  have HL0 := Lib.hid hz_len
  have hh0 := Blk.new w1 (hrow h) 24
  have N8 := N8.alloc (.cells (hrow h) 24)
  have hB2 := hb0.alloc hb0.size (.cells (hrow h) 24)
  have G8 := Lib.hid N8
  have GH := Lib.hid hh0
  have GB := Lib.hid hB2
  clear N8 hh0 hB2 HA
  go_wp2_with fail
  refine (A1.out _).mono ?_; rintro e w1' ⟨rfl, rfl⟩
  go_upto_region 6 with (first
    | (refine wpList_load_hashAt (by kernel_rfl) (.tmp 28) rfl g (o + q * 32) rfl h hh HEw.out ?_; go_frame)
    | (refine wpList_alloc_hash rfl rfl ?_; go_frame; try simp only [World.size_alloc])
    | (refine wpList_store_hash rfl (.tmp 12) (.tmp 29) rfl w1.heap.size h hh rfl rfl hz (HHZ.out _ rfl) HL0.out ?_; go_frame; rw [Blk.fresh]))
  obtain ⟨c, hc2⟩ : ∃ c, w1.heap.size = c := ⟨_, rfl⟩
  rw [hc2] at GH
  rw [hc2]
  clear hc2 HEw HHZ hsl A1 hb0
  generalize w1.alloc (.cells (hrow h) 24) = w2 at *
  have IBw := Lib.hid (IB.out _ GB.out)
  clear IB
  go_wp2_with (refine wpList_load_hash (by kernel_rfl) (.tmp 8) rfl s rfl old hold G8.out ?_; go_frame)
  refine IBw.out.mono ?_; rintro e w3 ⟨rfl, hb3⟩
  have P8 := G8.out.below hb3 G8.out.lt
  have PC := GH.out.below hb3 GH.out.lt
  have hB3 := GB.out.trans (hb3.mono GB.out.size)
  clear G8 GH GB IBw hb3
  have l8 := P8.lt
  have lc := PC.lt
  obtain ⟨D1, D2, hb4⟩ := two_new w3
  have P8 := P8.below hb4 P8.lt
  have PC := PC.below hb4 PC.lt
  have hB4 := hB3.trans (hb4.mono hB3.size)
  have hle := hB3.size
  obtain ⟨d, hd⟩ : ∃ d, w3.heap.size = d := ⟨_, rfl⟩
  rw [hd] at D1 D2 l8 lc hle
  have D2a := D2.rowOther (hrow x) (show d + 1 ≠ d by omega)
  have F8 := Lib.hid ((P8.rowOther (hrow x) (show s ≠ d by omega)).rowOther (hrow y) (show s ≠ d + 1 by omega))
  have FC := Lib.hid ((PC.rowOther (hrow x) (show c ≠ d by omega)).rowOther (hrow y) (show c ≠ d + 1 by omega))
  have FD := Lib.hid ((D1.row (hrow x)).rowOther (hrow y) (show d ≠ d + 1 by omega))
  have FE := Lib.hid (D2a.row (hrow y))
  have FB := Lib.hid (Below.setRow (Below.setRow hB4 (show w.heap.size ≤ d by omega) (hrow x)) (show w.heap.size ≤ d + 1 by omega) (hrow y))
  have HD1 := Lib.hid D1
  have HD2 := Lib.hid D2a
  clear P8 PC D1 D2 D2a hB3 hB4 hb4
  go_upto_region 10 with (first
    | (refine wpList_alloc_hash rfl rfl ?_; go_frame; try simp only [World.size_alloc])
    | (refine wpList_store_hash rfl (.tmp 16) (.tmp 71) rfl w3.heap.size x hx rfl rfl hz (hd.symm ▸ HD1.out) HL0.out ?_; go_frame)
    | (refine wpList_store_hash rfl (.tmp 17) (.tmp 72) rfl (w3.heap.size + 1) y hy rfl rfl hz (hd.symm ▸ HD2.out) HL0.out ?_; go_frame))
  rw [hd]
  clear hd HD1 HD2
  generalize (((w3.alloc (.cells hz 24)).alloc (.cells hz 24)).setRow d (hrow x)).setRow (d + 1) (hrow y) = w5 at *
  have IHw := Lib.hid (IH.out w5 FB.out)
  clear IH
  go_wp2_with (refine wpList_load_hash (by kernel_rfl) (.tmp 8) rfl s rfl old hold F8.out ?_; go_frame)
  refine IHw.out.mono ?_; rintro e w6 ⟨v81, rfl, hO6, hb6⟩
  have fcl := FC.out.lt
  have fdl := FD.out.lt
  have fel := FE.out.lt
  have GC := Lib.hid (FC.out.below hb6 fcl)
  have GD := Lib.hid (FD.out.below hb6 fdl)
  have GE := Lib.hid (FE.out.below hb6 fel)
  have HO6 := Lib.hid hO6
  have HB6 := Lib.hid hb6
  clear FC FD FE F8 IHw hO6 hb6
  go_upto_region 11 with (fail)
  refine gi_r11 _ _ _ _ _ _ _ _ _ _ _ _ _ _ _ _ _ _ _ _ _ _ _ _ _ _ _ _ _ _ _ _ _ _ _ _ _ _ _ _ _ _ _ _ _ _ _ _ _ _ _ _ _ _ _ _ _ _ _ _ _ _ _ _ _ _ _ _ _ _ _ _ _ _ _ _ _ _ _ _ _ _ _ _ _ _ _ _ _ _ _ _ _ v81 c d (d + 1) w5.heap.size h x y out w6 hh hx hy GC.out GD.out GE.out HO6.out HB6.out.size hout fcl fdl fel _ ?_
  intro y82 y83 y84 y85 y86 y87 y88 y89 y90 y91 y92 y93 y94 y95 y96 v' w7 hO hB
  have HB := Lib.hid (FB.out.trans ((HB6.out.trans hB).mono FB.out.size))
  have HO := Lib.hid (hO.mono FB.out.size)
  clear hO hB FB HO6 HB6 GC GD GE
  go_wp2_with fail
  go_ret
  exact ⟨v', rfl, HO.out, HB.out⟩

theorem gin_small (n : Nat) : ∀ (m : Nat) (whole : Bool) (old : List UInt8) (p : List (List UInt8)), 1 ≤ m → m ≤ n → old.length = 32 → All32 p → p.length = many m n whole →
    (gin m n whole old p).length ≤ 2 * p.length ∧ ∀ s ∈ gin m n whole old p, s.length = 65 := by
  induction n using Nat.strongRecOn with
  | _ n ih =>
    intro m whole old p hm hmn hold hal hlen
    by_cases he : m = n
    · rw [gin_end he]; simp
    · have hk0 := half_pos (n := n) (by omega)
      have hk1 := half_lt (n := n) (by omega)
      obtain ⟨q, hq⟩ : ∃ q, p.length = q + 1 := by
        by_cases hk : m ≤ half n
        · exact ⟨_, by rw [hlen, many_left hm (by omega) hk, Nat.add_comm]⟩
        · exact ⟨_, by rw [hlen, many_right hm (by omega) hk, Nat.add_comm]⟩
      obtain ⟨p1, h, rfl, hp1⟩ := snoc_of_length hq
      have h32 : h.length = 32 := hal.last
      have ha1 : All32 p1 := hal.left
      by_cases hk : m ≤ half n
      · have hl1 : p1.length = many m (half n) whole := by rw [hq, many_left hm (by omega) hk] at hlen; omega
        obtain ⟨l1, l2⟩ := both_length m (half n) whole old p1 hm hk hold ha1 hl1
        obtain ⟨i1, i2⟩ := ih (half n) hk1 m whole old p1 hm hk hold ha1 hl1
        rw [gin_left hm (by omega) hk]
        refine ⟨by simp; omega, fun s hs => ?_⟩
        rcases List.mem_append.1 hs with hs | hs
        · exact i2 s hs
        · rw [List.mem_singleton] at hs
          subst hs
          simp [l2, h32]
      · have hl1 : p1.length = many (m - half n) (n - half n) false := by rw [hq, many_right hm (by omega) hk] at hlen; omega
        obtain ⟨l1, l2⟩ := both_length (m - half n) (n - half n) false old p1 (by omega) (by omega) hold ha1 hl1
        obtain ⟨i1, i2⟩ := ih (n - half n) (by omega) (m - half n) false old p1 (by omega) (by omega) hold ha1 hl1
        rw [gin_right hm (by omega) hk]
        refine ⟨by simp; omega, fun s hs => ?_⟩
        rcases List.mem_append.1 hs with hs | hs
        · exact i2 s hs
        · rw [List.mem_cons, List.mem_singleton] at hs
          rcases hs with rfl | rfl
          · simp [l1, h32]
          · simp [l2, h32]

set_option maxRecDepth 100000 in
set_option maxHeartbeats 2000000 in
theorem gi_end (n m : Nat) (whole : Bool) (old : List UInt8) (v : Value) (w : World) (hmn : m = n) :
    Calls Try.prog 35 #[.int .i64 m, .int .i64 n, .bool whole, .agg (hrow old), v] w (StrQ w []) := by
  have e0 : ((m : Int) == (n : Int)) = true := by rw [beq_iff_eq]; omega
  clear hmn
  have hb0 := (Below.refl w.heap.size w).alloc (Nat.le_refl _) (.cells (hrow old) 24)
  go_enter Try.func35, Try.ntmps35
  go_upto_region 1 with (refine wpList_box_row rfl 24 (.tmp 3) rfl (hrow old) rfl ?_; go_frame)
  generalize w.alloc (.cells (hrow old) 24) = w1 at *
  go_wp2_with fail
  go_ret
  exact ⟨_, rfl, OwnV.nil _ _ _, hb0⟩

theorem GrowthInside_any (n : Nat) : ∀ (m : Nat) (whole : Bool) (old : List UInt8) (p : List (List UInt8)) (v : Value) (w : World), 1 ≤ m → m ≤ n → n ≤ 9223372036854775807 → old.length = 32 → All32 p → p.length = many m n whole → HArg w v p →
    Calls Try.prog 35 #[.int .i64 m, .int .i64 n, .bool whole, .agg (hrow old), v] w (StrQ w (gin m n whole old p)) := by
  induction n using Nat.strongRecOn with
  | _ n ih =>
    intro m whole old p v w hm hmn hn hold hal hlen hP
    by_cases he : m = n
    · rw [gin_end he]
      exact gi_end n m whole old v w he
    · have hk0 := half_pos (n := n) (by omega)
      have hk1 := half_lt (n := n) (by omega)
      have hml := many_le 63 m n whole hm hmn (by omega)
      obtain ⟨q, hq⟩ : ∃ q, p.length = q + 1 := by
        by_cases hk : m ≤ half n
        · exact ⟨_, by rw [hlen, many_left hm (by omega) hk, Nat.add_comm]⟩
        · exact ⟨_, by rw [hlen, many_right hm (by omega) hk, Nat.add_comm]⟩
      obtain ⟨p1, h, rfl, hp1⟩ := snoc_of_length hq
      obtain ⟨pa, cap, rfl, hc, hA⟩ := hP
      obtain ⟨g, o, rfl, hAt⟩ := hA (by simp)
      have h32 : h.length = 32 := hal.last
      have ha1 : All32 p1 := hal.left
      have hE : w.rangeAt g (o + q * 32) (h.map Y) := by
        have := hAt.elem hal q h (by rw [List.getElem?_append_right (by omega), hp1]; simp)
        rwa [Nat.mul_comm] at this
      have hA1 : HAt w g o p1 := by
        have := hAt.take q
        rwa [show (p1 ++ [h]).take q = p1 by rw [List.take_append_of_le_length (by omega), List.take_of_length_le (by omega)]] at this
      have HV : ∀ w', Below w.heap.size w w' → HArg w' (.slice (some ⟨g, o, none⟩) p1.length cap) p1 := fun w' hb => HArg.of rfl (by simp at hc; omega) (hA1.below hb)
      by_cases hk : m ≤ half n
      · have hl1 : p1.length = many m (half n) whole := by rw [hq, many_left hm (by omega) hk] at hlen; omega
        obtain ⟨l1, l2⟩ := both_length m (half n) whole old p1 hm hk hold ha1 hl1
        have hgl := (gin_small (half n) m whole old p1 hm hk hold ha1 hl1).1
        rw [gin_left hm (by omega) hk]
        exact gi_left n m whole old h _ _ _ g o q _ cap w (by omega) hm hn hk hold h32 l1 l2 hq hc (by omega) hE (by omega)
          (fun w' hb => hp1 ▸ both_any (half n) m whole old p1 (.slice (some ⟨g, o, none⟩) p1.length cap) w' hm hk (by omega) hold ha1 hl1 (HV w' hb))
          (fun w' hb => hp1 ▸ ih (half n) hk1 m whole old p1 (.slice (some ⟨g, o, none⟩) p1.length cap) w' hm hk (by omega) hold ha1 hl1 (HV w' hb))
      · have hl1 : p1.length = many (m - half n) (n - half n) false := by rw [hq, many_right hm (by omega) hk] at hlen; omega
        obtain ⟨l1, l2⟩ := both_length (m - half n) (n - half n) false old p1 (by omega) (by omega) hold ha1 hl1
        have hgl := (gin_small (n - half n) (m - half n) false old p1 (by omega) (by omega) hold ha1 hl1).1
        rw [gin_right hm (by omega) hk]
        exact gi_right n m whole old h _ _ _ g o q _ cap w (by omega) hm hn (by omega) hold h32 l1 l2 hq hc (by omega) hE (by omega)
          (fun w' hb => hp1 ▸ both_any (n - half n) (m - half n) false old p1 (.slice (some ⟨g, o, none⟩) p1.length cap) w' (by omega) (by omega) (by omega) hold ha1 hl1 (HV w' hb))
          (fun w' hb => hp1 ▸ ih (n - half n) (by omega) (m - half n) false old p1 (.slice (some ⟨g, o, none⟩) p1.length cap) w' (by omega) (by omega) (by omega) hold ha1 hl1 (HV w' hb))
end Go.Proofs.Ytjekdeikoebmgaa
