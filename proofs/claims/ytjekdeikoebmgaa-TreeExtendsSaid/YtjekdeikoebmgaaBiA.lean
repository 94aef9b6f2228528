/- Lists of strings appended whole; regions of TreeBinds. Conditions: sizes. -/
import Derived.Test.YtjekdeikoebmgaaPin
import Derived.Test.YtjekdeikoebmgaaLCkA
namespace Go.Proofs.Ytjekdeikoebmgaa
open Go.RowKit Go.Shelf Tr

theorem SArg.src {w : World} {v : Value} {l : List (List UInt8)} (h : SArg w v l) {sz : Nat} (hsz : sz = 1) : Src Try.prog sz 22 v l.length (l.map S) w := by
  obtain ⟨a, cap, rfl, hc, hA⟩ := h
  have hone : ∀ u ∈ l.map S, u.oneCell' = true := by
    intro u hu
    obtain ⟨x, _, rfl⟩ := List.mem_map.1 hu
    rfl
  cases l with
  | nil =>
    cases a with
    | none => exact Src.ofNil w Try.underlying22 cap
    | some p => exact Src.ofSlice w Try.underlying22 p 0 cap [] (by simp) (by intro j u hu; simp at hu) (by intro u hu; cases hu)
  | cons x r =>
    obtain ⟨g, o, rfl, hAt⟩ := hA (by simp)
    exact Src.ofSlice w Try.underlying22 ⟨g, o, none⟩ _ cap ((x :: r).map S) (by rw [hsz]; simp) (fun j u hu => by
      rw [Addr.add_lit]
      rw [List.getElem?_map] at hu
      obtain ⟨y, hy, rfl⟩ := Option.map_eq_some_iff.1 hu
      exact hAt j y hy) hone
/-- append of a whole slice of strings. -/
theorem run_append_strs (w : World) (base : Nat) (v x : Value) (hs ks : List (List UInt8)) (h : OwnS w base v hs) (hb : base ≤ w.heap.size) (hx : SArg w x ks) (hn : hs.length + ks.length ≤ 1000000) :
    ∃ v' w', (Builtin.append_ #[22, 22] 22 #[v, x]).run Try.prog w = .ok v' w' ∧ OwnS w' base v' (hs ++ ks) ∧ w.grownBy w' (blkOf v) ∧ (blkOf v' = blkOf v ∨ ∃ g, blkOf v' = some g ∧ w.heap.size ≤ g) := by
  obtain ⟨i0, hi, hz0, hz1, hz2⟩ := info_parts infoStr
  have hs2 := hx.src hz1
  by_cases hk : ks = []
  · subst hk
    have hh : OwnS w base v (hs ++ []) := by rw [List.append_nil]; exact h
    rcases h with ⟨rfl, h1, h2⟩ | ⟨g, cap, rfl, h1, h2, h3⟩
    · have hr := run_append_nil0 w 22 22 22 9 i0 Try.underlying22 hi x hs2
      exact ⟨_, _, hr, hh, World.grownBy.refl w _, .inl rfl⟩
    · have hr := run_append_room_src w 22 22 22 9 i0 Try.underlying22 hi g 0 _ cap x 0 [] hs2 (by omega) (by intro j hj; simp at hj) (by intro j hj; simp at hj)
      exact ⟨_, _, hr, hh, World.grownBy.refl w _, .inl rfl⟩
  · have h1 : 1 ≤ ks.length := by cases ks with | nil => exact absurd rfl hk | cons _ _ => simp
    obtain ⟨v', w', r1, r2, r3, r4⟩ := run_append_own w 22 22 22 9 i0 _ 1 base hs.length ks.length v x (hs.map S) (ks.map S) Try.underlying22 hi hz0 hz1 rfl h hb hs2 h1 (by simp) (by rw [hz2]; omega) (by omega)
    refine ⟨v', w', r1, ?_, r3, r4⟩
    unfold OwnS
    rw [List.length_append, List.map_append]
    exact r2
theorem ins_small (l : List (List UInt8)) (hs : ∀ s ∈ l, s.length ≤ 1000) : ∀ z ∈ ins l, z.length ≤ 140737488355000 := by
  induction hn : l.length using Nat.strongRecOn generalizing l with
  | _ n ih =>
    by_cases h0 : n = 0
    · obtain rfl : l = [] := List.length_eq_zero_iff.1 (by omega)
      rw [ins_nil]; intro z hz; simp at hz; subst hz; simp
    · by_cases h1 : n = 1
      · obtain ⟨s, rfl⟩ := List.length_eq_one_iff.1 (hn.trans h1)
        rw [ins_one rfl]
        intro z hz
        simp at hz
        subst hz
        have := hs s (by simp)
        simp
        omega
      · have hk0 := half_pos (n := n) (by omega)
        have hk1 := half_lt (n := n) (by omega)
        rw [ins_two (by omega), hn]
        intro z hz
        rcases List.mem_append.1 hz with hz | hz
        · rcases List.mem_append.1 hz with hz | hz
          · exact ih (half n) hk1 (l.take (half n)) (fun s h => hs s (List.mem_of_mem_take h)) (by rw [List.length_take]; omega) z hz
          · exact ih (n - half n) (by omega) (l.drop (half n)) (fun s h => hs s (List.mem_of_mem_drop h)) (by rw [List.length_drop]; omega) z hz
        · rw [List.mem_singleton.1 hz]
          simp [root_length]
theorem pin_small : ∀ (bs : List Bool) (hs : List (List UInt8)) (x : List UInt8), x.length = 32 → All32 hs → ∀ z ∈ pin x bs hs, z.length ≤ 140737488355000
  | [], _, _, _, _ => by intro z hz; simp [pin] at hz
  | _ :: _, [], _, _, _ => by intro z hz; simp [pin] at hz
  | b :: bs, h :: hs, x, hx, ha => by
    intro z hz
    simp only [pin, List.mem_cons] at hz
    rcases hz with rfl | hz
    · have := ha h (by simp)
      unfold strOf
      split <;> simp [hx, this]
    · exact pin_small bs hs _ (step_length x b h) (fun y hy => ha y (by simp [hy])) z hz
theorem infoSS : (Try.prog.info? 22).map (fun i => (i.zero, i.size, i.bytes)) = some (some (.slice none 0 0), 1, 24) := by kernel_rfl
theorem one_list (w : World) (a : Value) (ha : ∃ x n c, a = .slice x n c) : (Instr.buildSlice 49 1 #[(0, a)]).run Try.prog w = .ok (.slice (some ⟨w.heap.size, 0, none⟩) 1 1) (w.alloc (.cells #[a] 22)) := by
  obtain ⟨x, n, c, rfl⟩ := ha
  obtain ⟨i0, hi, hz0, hz1, _⟩ := info_parts infoSS
  exact run_buildSlice w 49 22 1 _ _ i0 _ Try.underlying49 hi hz0 (by rw [hz1]; decide) (by rw [hz1]; decide) (by rw [hz1]; kernel_rfl)
theorem three_strs (w : World) (a b c : List UInt8) : (Instr.buildSlice 22 3 #[(0, S a), (1, S b), (2, S c)]).run Try.prog w = .ok (.slice (some ⟨w.heap.size, 0, none⟩) 3 3) (w.alloc (.cells #[S a, S b, S c] 9)) := by
  obtain ⟨i0, hi, hz0, hz1, _⟩ := info_parts infoStr
  exact run_buildSlice w 22 9 3 _ _ i0 _ Try.underlying22 hi hz0 (by rw [hz1]; decide) (by rw [hz1]; decide) (by rw [hz1]; kernel_rfl)
set_option maxRecDepth 100000 in
set_option maxHeartbeats 2000000 in
theorem bi_r4 (u0 u2 u3 u4 u6 u9 u10 u11 u12 u13 u14 u15 u16 u17 u18 u19 u20 u21 u22 u23 u24 u25 u26 u27 u28 u29 u30 u31 u32 u33 u34 u35 u36 u37 u38 u39 u40 u41 u42 u43 u44 u45 u46 u47 u48 u49 u50 u51 u52 u53 u54 u55 u56 u57 u58 u59 u60 u61 u62 u63 u64 u65 u66 u67 u68 u69 u70 u71 u72 u73 u74 u75 u76 u77 u78 u79 u80 u81 u82 u83 u84 u85 u86 u87 u88 u89 u90 u91 u92 u93 u94 u95 u96 u97 u98 u99 u100 u101 u102 u103 u104 u105 u106 u107 u108 u109 v8 : Value) (za : Int) (bq : Nat) (x : List UInt8) (R : Array Value) (w : World) (hz : 0 ≤ za ∧ za ≤ 255) (c0 : w.cell? ⟨bq, 0, none⟩ = some (S x))
    (C1 : ∀ x' : After w, Calls Try.prog 25 #[v8] x'.W fun e w' => e = .returned (.agg R) ∧ Below x'.W.heap.size x'.W w')
    (C2 : ∀ x' : After w, Calls Try.prog 24 #[.agg R, .int .i64 za, S x, .slice none 0 0] x'.W fun e w' => e = .returned (.bool false) ∧ Below x'.W.heap.size x'.W w')
    (Q : Exit → Act → World → Prop) (h : ∀ (y23 y24 y25 y26 y27 y28 y29 y30 y31 y32 y33 : Value) (w' : World), Below w.heap.size w w' → Q .normal ⟨(u0 :: (.int .u8 za) :: u2 :: u3 :: u4 :: (.pointer (some ⟨bq, 0, none⟩)) :: (.bool true) :: (.bool true) :: v8 :: u9 :: u10 :: u11 :: u12 :: u13 :: u14 :: u15 :: u16 :: u17 :: u18 :: u19 :: u20 :: u21 :: u22 :: y23 :: y24 :: y25 :: y26 :: y27 :: y28 :: y29 :: y30 :: y31 :: y32 :: y33 :: u34 :: u35 :: u36 :: u37 :: u38 :: u39 :: u40 :: u41 :: u42 :: u43 :: u44 :: u45 :: u46 :: u47 :: u48 :: u49 :: u50 :: u51 :: u52 :: u53 :: u54 :: u55 :: u56 :: u57 :: u58 :: u59 :: u60 :: u61 :: u62 :: u63 :: u64 :: u65 :: u66 :: u67 :: u68 :: u69 :: u70 :: u71 :: u72 :: u73 :: u74 :: u75 :: u76 :: u77 :: u78 :: u79 :: u80 :: u81 :: u82 :: u83 :: u84 :: u85 :: u86 :: u87 :: u88 :: u89 :: u90 :: u91 :: u92 :: u93 :: u94 :: u95 :: u96 :: u97 :: u98 :: u99 :: u100 :: u101 :: u102 :: u103 :: u104 :: u105 :: u106 :: u107 :: u108 :: u109 :: []).toArray, []⟩ w') : Code.wp Try.prog (regionIn Try.f6 4) Q ⟨(u0 :: (.int .u8 za) :: u2 :: u3 :: u4 :: (.pointer (some ⟨bq, 0, none⟩)) :: u6 :: (.bool true) :: v8 :: u9 :: u10 :: u11 :: u12 :: u13 :: u14 :: u15 :: u16 :: u17 :: u18 :: u19 :: u20 :: u21 :: u22 :: u23 :: u24 :: u25 :: u26 :: u27 :: u28 :: u29 :: u30 :: u31 :: u32 :: u33 :: u34 :: u35 :: u36 :: u37 :: u38 :: u39 :: u40 :: u41 :: u42 :: u43 :: u44 :: u45 :: u46 :: u47 :: u48 :: u49 :: u50 :: u51 :: u52 :: u53 :: u54 :: u55 :: u56 :: u57 :: u58 :: u59 :: u60 :: u61 :: u62 :: u63 :: u64 :: u65 :: u66 :: u67 :: u68 :: u69 :: u70 :: u71 :: u72 :: u73 :: u74 :: u75 :: u76 :: u77 :: u78 :: u79 :: u80 :: u81 :: u82 :: u83 :: u84 :: u85 :: u86 :: u87 :: u88 :: u89 :: u90 :: u91 :: u92 :: u93 :: u94 :: u95 :: u96 :: u97 :: u98 :: u99 :: u100 :: u101 :: u102 :: u103 :: u104 :: u105 :: u106 :: u107 :: u108 :: u109 :: []).toArray, []⟩ w := by
  have HX := Lib.hid h
  have f0 := After.cell c0
  obtain ⟨h1, h2⟩ := hz
  have e1 : IntKind.i64.wrap za = za := IntWalk.i64_in _ (by omega)
  have D1 := Lib.hid C1
  have D2 := Lib.hid C2
  clear h C1 C2 c0
  conv => arg 2; whnf
  refine wp_region_after (by kernel_rfl) (by kernel_rfl) ?_
  repeat (go_big_quiet_step (first | (with_reducible exact After.call (D1.out _)) | (with_reducible exact After.call (D2.out _))))
  refine wpQuiet_nil ?_
  rintro w5 ⟨x5, rfl⟩
  exact HX.out _ _ _ _ _ _ _ _ _ _ _ _ x5.hb

theorem run_load_str (w : World) (p : Addr) (x : List UInt8) (h : w.cell? p = some (S x)) : (loadVar 9 p).run Try.prog w = .ok (S x) w := by go_simp
set_option maxRecDepth 100000 in
set_option maxHeartbeats 2000000 in
theorem bi_r10 (u0 u1 u2 u3 u4 u6 u7 u10 u11 u12 u13 u14 u15 u16 u17 u18 u19 u20 u21 u22 u23 u24 u25 u26 u27 u28 u29 u30 u31 u32 u33 u34 u35 u36 u37 u38 u39 u40 u41 u42 u43 u44 u45 u46 u47 u48 u49 u50 u51 u52 u53 u54 u55 u56 u57 u58 u59 u60 u61 u62 u63 u64 u65 u66 u67 u68 u69 u70 u71 u72 u73 u74 u75 u76 u77 u78 u79 u80 u81 u82 u83 u84 u85 u86 u87 u88 u89 u90 u91 u92 u93 u94 u95 u96 u97 u98 u99 u100 u101 u102 u103 u104 u105 u106 u107 u108 u109 : Value) (bq g o L cap k m : Nat) (x y z : List UInt8) (W0 w : World) (hk : k < L) (hL : L ≤ 100) (hm : ((k : Int) + 1) % (L : Int) = (m : Int)) (hml : m < L) (c0 : w.cell? ⟨bq, 0, none⟩ = some (S x)) (c1 : w.cell? ⟨g, o + k, none⟩ = some (S y)) (c2 : w.cell? ⟨g, o + m, none⟩ = some (S z)) (hB : Below W0.heap.size W0 w)
    (Q : Exit → Act → World → Prop) (h : ∀ (y59 y60 y61 y62 y63 y64 y65 y66 y67 y68 y69 y70 y71 y72 : Value) (bs : Nat) (w' : World), Blk w' bs #[S x, S y, S z] 9 → Below w.heap.size w w' → Below W0.heap.size W0 w' → Q .normal ⟨(u0 :: u1 :: u2 :: u3 :: u4 :: (.pointer (some ⟨bq, 0, none⟩)) :: u6 :: u7 :: (.slice (some ⟨g, o, none⟩) L cap) :: (.int .i64 (k : Int)) :: u10 :: u11 :: u12 :: u13 :: u14 :: u15 :: u16 :: u17 :: u18 :: u19 :: u20 :: u21 :: u22 :: u23 :: u24 :: u25 :: u26 :: u27 :: u28 :: u29 :: u30 :: u31 :: u32 :: u33 :: u34 :: u35 :: u36 :: u37 :: u38 :: u39 :: u40 :: u41 :: u42 :: u43 :: u44 :: u45 :: u46 :: u47 :: u48 :: u49 :: u50 :: u51 :: u52 :: u53 :: u54 :: u55 :: u56 :: u57 :: u58 :: y59 :: y60 :: y61 :: y62 :: y63 :: y64 :: y65 :: y66 :: y67 :: y68 :: y69 :: y70 :: y71 :: y72 :: (.slice (some ⟨bs, 0, none⟩) 3 3) :: (.int .i64 3) :: (.int .i64 0) :: u76 :: u77 :: u78 :: u79 :: u80 :: u81 :: u82 :: u83 :: u84 :: u85 :: u86 :: u87 :: u88 :: u89 :: u90 :: u91 :: u92 :: u93 :: u94 :: u95 :: u96 :: u97 :: u98 :: u99 :: u100 :: u101 :: u102 :: u103 :: u104 :: u105 :: u106 :: u107 :: u108 :: u109 :: []).toArray, []⟩ w') : Code.wp Try.prog (regionIn Try.f6 10) Q ⟨(u0 :: u1 :: u2 :: u3 :: u4 :: (.pointer (some ⟨bq, 0, none⟩)) :: u6 :: u7 :: (.slice (some ⟨g, o, none⟩) L cap) :: (.int .i64 (k : Int)) :: u10 :: u11 :: u12 :: u13 :: u14 :: u15 :: u16 :: u17 :: u18 :: u19 :: u20 :: u21 :: u22 :: u23 :: u24 :: u25 :: u26 :: u27 :: u28 :: u29 :: u30 :: u31 :: u32 :: u33 :: u34 :: u35 :: u36 :: u37 :: u38 :: u39 :: u40 :: u41 :: u42 :: u43 :: u44 :: u45 :: u46 :: u47 :: u48 :: u49 :: u50 :: u51 :: u52 :: u53 :: u54 :: u55 :: u56 :: u57 :: u58 :: u59 :: u60 :: u61 :: u62 :: u63 :: u64 :: u65 :: u66 :: u67 :: u68 :: u69 :: u70 :: u71 :: u72 :: u73 :: u74 :: u75 :: u76 :: u77 :: u78 :: u79 :: u80 :: u81 :: u82 :: u83 :: u84 :: u85 :: u86 :: u87 :: u88 :: u89 :: u90 :: u91 :: u92 :: u93 :: u94 :: u95 :: u96 :: u97 :: u98 :: u99 :: u100 :: u101 :: u102 :: u103 :: u104 :: u105 :: u106 :: u107 :: u108 :: u109 :: []).toArray, []⟩ w := by
  have HX := Lib.hid h
  have e1 : IntKind.i64.wrap ((k : Int) + 1) = (k : Int) + 1 := IntWalk.i64_in _ (by omega)
  have e2 : ((k : Int) + 1).tmod (L : Int) = (m : Int) := by rw [Int.tmod_eq_emod_of_nonneg (by omega)]; exact hm
  have t0 : (0 : Int) ≤ (k : Int) + 1 := by omega
  have t1 : (k : Int) < (L : Int) := by omega
  have t2 : (m : Int) < (L : Int) := by omega
  have t3 : ¬ ((L : Int) = 0) := by omega
  have t4 : ¬ (L = 0) := by omega
  have t5 : (k : Int) + 1 ≤ 200 := by omega
  have HS : ({ w with drawn := w.drawn + 1 } : World).cell? ⟨bq, 0, none⟩ = some (S x) ∧ ({ w with drawn := w.drawn + 1 } : World).cell? ⟨g, o + k, none⟩ = some (S y) ∧ ({ w with drawn := w.drawn + 1 } : World).cell? ⟨g, o + m, none⟩ = some (S z) := ⟨c0, c1, c2⟩
  have hb0 : Below w.heap.size w { w with drawn := w.drawn + 1 } := (Below.refl _ _).drew
  clear h c0 c1 c2
  conv => arg 2; whnf
  refine wp_region_noPanic ?_
  refine wp_region_held (S := fun w => w.cell? ⟨bq, 0, none⟩ = some (S x) ∧ w.cell? ⟨g, o + k, none⟩ = some (S y) ∧ w.cell? ⟨g, o + m, none⟩ = some (S z)) (by kernel_rfl) ?_
  generalize ({ w with drawn := w.drawn + 1 } : World) = w0 at *
  have HBS := Lib.hid (three_strs w0 x y z)
  have b1 := (Below.refl w0.heap.size w0).alloc (Nat.le_refl _) (.cells #[S x, S y, S z] 9)
  have HS2 : (w0.alloc (.cells #[S x, S y, S z] 9)).cell? ⟨bq, 0, none⟩ = some (S x) ∧ (w0.alloc (.cells #[S x, S y, S z] 9)).cell? ⟨g, o + k, none⟩ = some (S y) ∧ (w0.alloc (.cells #[S x, S y, S z] 9)).cell? ⟨g, o + m, none⟩ = some (S z) := ⟨keepCells b1 _ _ HS.1, keepCells b1 _ _ HS.2.1, keepCells b1 _ _ HS.2.2⟩
  have hb1 := hb0.trans (b1.mono hb0.size)
  refine takeHd 16 0 (.pointer (some ⟨bq, 0, none⟩)) rfl (by kernel_rfl) (by kernel_rfl) (by kernel_rfl) (fun _ _ _ h => h) (Yields.yieldsIf (yields_field rfl (fun w => by unfold execOp; go_simp))) HS ?_
  simp only [Act.put, List.setIfInBounds_toArray, List.set_cons_zero, List.set_cons_succ]
  refine takeHd 15 1 (S x) rfl (by kernel_rfl) (by kernel_rfl) (by kernel_rfl) (fun _ _ _ h => h) (yieldsIf_load rfl 9 (.tmp 59) ⟨bq, 0, none⟩ rfl rfl (fun w h => run_load_str w ⟨bq, 0, none⟩ _ h.1)) HS ?_
  simp only [Act.put, List.setIfInBounds_toArray, List.set_cons_zero, List.set_cons_succ]
  refine takeHd 14 2 (.slice (some ⟨g, o, none⟩) L cap) rfl (by kernel_rfl) (by kernel_rfl) (by kernel_rfl) (fun _ _ _ h => h) (Yields.yieldsIf (yields_field rfl (fun w => by unfold execOp; go_simp))) HS ?_
  simp only [Act.put, List.setIfInBounds_toArray, List.set_cons_zero, List.set_cons_succ]
  refine takeHd 13 3 (.int .i64 (k : Int)) rfl (by kernel_rfl) (by kernel_rfl) (by kernel_rfl) (fun _ _ _ h => h) (Yields.yieldsIf (yields_field rfl (fun w => by unfold execOp; go_simp))) HS ?_
  simp only [Act.put, List.setIfInBounds_toArray, List.set_cons_zero, List.set_cons_succ]
  refine takeHd 12 4 (.pointer (some ⟨g, o + k, none⟩)) rfl (by kernel_rfl) (by kernel_rfl) (by kernel_rfl) (fun _ _ _ h => h) (Yields.yieldsIf (yields_field rfl (fun w => by unfold execOp; go_simp))) HS ?_
  simp only [Act.put, List.setIfInBounds_toArray, List.set_cons_zero, List.set_cons_succ]
  refine takeHd 11 5 (S y) rfl (by kernel_rfl) (by kernel_rfl) (by kernel_rfl) (fun _ _ _ h => h) (yieldsIf_load rfl 9 (.tmp 63) ⟨g, o + k, none⟩ rfl rfl (fun w h => run_load_str w ⟨g, o + k, none⟩ _ h.2.1)) HS ?_
  simp only [Act.put, List.setIfInBounds_toArray, List.set_cons_zero, List.set_cons_succ]
  refine takeHd 10 6 (.slice (some ⟨g, o, none⟩) L cap) rfl (by kernel_rfl) (by kernel_rfl) (by kernel_rfl) (fun _ _ _ h => h) (Yields.yieldsIf (yields_field rfl (fun w => by unfold execOp; go_simp))) HS ?_
  simp only [Act.put, List.setIfInBounds_toArray, List.set_cons_zero, List.set_cons_succ]
  refine takeHd 9 7 (.int .i64 (k : Int)) rfl (by kernel_rfl) (by kernel_rfl) (by kernel_rfl) (fun _ _ _ h => h) (Yields.yieldsIf (yields_field rfl (fun w => by unfold execOp; go_simp))) HS ?_
  simp only [Act.put, List.setIfInBounds_toArray, List.set_cons_zero, List.set_cons_succ]
  refine takeHd 8 8 (.int .i64 ((k : Int) + 1)) rfl (by kernel_rfl) (by kernel_rfl) (by kernel_rfl) (fun _ _ _ h => h) (Yields.yieldsIf (yields_field rfl (fun w => by unfold execOp; go_simp))) HS ?_
  simp only [Act.put, List.setIfInBounds_toArray, List.set_cons_zero, List.set_cons_succ]
  refine takeHd 7 9 (.slice (some ⟨g, o, none⟩) L cap) rfl (by kernel_rfl) (by kernel_rfl) (by kernel_rfl) (fun _ _ _ h => h) (Yields.yieldsIf (yields_field rfl (fun w => by unfold execOp; go_simp))) HS ?_
  simp only [Act.put, List.setIfInBounds_toArray, List.set_cons_zero, List.set_cons_succ]
  refine takeHd 6 10 (.int .i64 (L : Int)) rfl (by kernel_rfl) (by kernel_rfl) (by kernel_rfl) (fun _ _ _ h => h) (Yields.yieldsIf (yields_field rfl (fun w => by unfold execOp; go_simp))) HS ?_
  simp only [Act.put, List.setIfInBounds_toArray, List.set_cons_zero, List.set_cons_succ]
  refine takeHd 5 11 (.int .i64 (m : Int)) rfl (by kernel_rfl) (by kernel_rfl) (by kernel_rfl) (fun _ _ _ h => h) (Yields.yieldsIf (yields_field rfl (fun w => by unfold execOp; go_simp))) HS ?_
  simp only [Act.put, List.setIfInBounds_toArray, List.set_cons_zero, List.set_cons_succ]
  refine takeHd 4 12 (.pointer (some ⟨g, o + m, none⟩)) rfl (by kernel_rfl) (by kernel_rfl) (by kernel_rfl) (fun _ _ _ h => h) (Yields.yieldsIf (yields_field rfl (fun w => by unfold execOp; go_simp))) HS ?_
  simp only [Act.put, List.setIfInBounds_toArray, List.set_cons_zero, List.set_cons_succ]
  refine takeHd 3 13 (S z) rfl (by kernel_rfl) (by kernel_rfl) (by kernel_rfl) (fun _ _ _ h => h) (yieldsIf_load rfl 9 (.tmp 71) ⟨g, o + m, none⟩ rfl rfl (fun w h => run_load_str w ⟨g, o + m, none⟩ _ h.2.2)) HS ?_
  simp only [Act.put, List.setIfInBounds_toArray, List.set_cons_zero, List.set_cons_succ]
  refine takeHd 2 16 (.int .i64 0) rfl (by kernel_rfl) (by kernel_rfl) (by kernel_rfl) (fun _ _ _ h => h) (Yields.yieldsIf (yields_field rfl (fun w => by unfold execOp; go_simp))) HS ?_
  simp only [Act.put, List.setIfInBounds_toArray, List.set_cons_zero, List.set_cons_succ]
  refine wpAnyH_all (rs := [14]) (by kernel_rfl) (by simp) ?_
  intro i hi
  obtain rfl := List.mem_singleton.1 hi
  refine buildL rfl rfl 22 3 #[(0, .tmp 60), (1, .tmp 64), (2, .tmp 72)] rfl #[(0, S x), (1, S y), (2, S z)] rfl _ HBS.out ?_
  simp only [Act.put, List.setIfInBounds_toArray, List.set_cons_zero, List.set_cons_succ]
  refine ⟨HS2, ?_⟩
  refine takeHd 0 15 (.int .i64 3) rfl (by kernel_rfl) (by kernel_rfl) (by kernel_rfl) (fun _ _ _ h => h) (Yields.yieldsIf (yields_field rfl (fun w => by unfold execOp; go_simp))) HS2 ?_
  simp only [Act.put, List.setIfInBounds_toArray, List.set_cons_zero, List.set_cons_succ]
  refine wpAnyH_done (by kernel_rfl) ?_ 0
  exact HX.out _ _ _ _ _ _ _ _ _ _ _ _ _ _ _ _ (Blk.new w0 _ _) hb1 (hB.trans (hb1.mono hB.size))

end Go.Proofs.Ytjekdeikoebmgaa
