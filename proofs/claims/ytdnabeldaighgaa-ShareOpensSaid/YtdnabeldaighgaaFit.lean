/- fits and Verify. Conditions: the range of int. -/
import Derived.Test.YtdnabeldaighgaaRgt
import Derived.Test.YtdnabeldaighgaaRnd
namespace Go.Proofs.Ytdnabeldaighgaa
open Go.RowKit Go.Shelf Shr
attribute [local go_sem] Oper.semAt_some

theorem grown_then2 {A B C : World} {r : Nat} (h : A.grownBy B (some r)) (k : B.grownBy C (some r)) : A.grownBy C (some r) :=
  ⟨k.os.trans h.os, k.tape.trans h.tape, k.output.trans h.output, Nat.le_trans h.size k.size, fun i hi hne => (k.block i (Nat.lt_of_lt_of_le hi h.size) hne).trans (h.block i hi hne)⟩
/-- Between two rounds: what block b holds; no other block was written. -/
def RndI (w0 : World) (b : Nat) (t : TypeId) (cs : Nat → Array Value) (k : Nat) (W : World) : Prop := Blk W b (cs k) t ∧ w0.grownBy W (some b)
theorem rndI_own {w0 : World} {b : Nat} {t : TypeId} {cs : Nat → Array Value} : OwnFrom w0.heap.size (RndI w0 b t cs) := by
  intro s A C row hs hg hr
  refine ⟨hs.1.kept hg (fun r e => (hr r e).2), ?_⟩
  have h := hs.2
  exact ⟨hg.os.trans h.os, hg.tape.trans h.tape, hg.output.trans h.output, Nat.le_trans h.size hg.size, fun i hi hne => (hg.block i (Nat.lt_of_lt_of_le hi h.size) (fun e => by have := (hr i e.symm).1; omega)).trans (h.block i hi hne)⟩
theorem rndI_own' {w0 : World} {b : Nat} {t : TypeId} {cs : Nat → Array Value} (n : Nat) : OwnFrom w0.heap.size (fun (_ : Unit) W => RndI w0 b t cs n W) := fun _ A C row hs hg hr => rndI_own n A C row hs hg hr

set_option maxRecDepth 100000 in
set_option maxHeartbeats 2000000 in
theorem fit_range (u0 u1 u4 u6 u7 u8 u9 u10 u11 u12 u14 u15 u16 u17 u18 u19 u20 u21 u22 u23 u24 u25 u26 u27 u28 u29 u30 u31 u32 : Value) (b2 b3 b5 Bx n c1 : Nat) (a1 : Option Addr) (l : List Int) (x : Int) (w : World) (hl : All64 l) (hx : In64 x) (hn : l.length = n) (hn9 : n ≤ 90000)
    (N5 : Blk w b5 #[I 1] 3) (N2 : Blk w b2 #[.slice a1 n c1] 22) (NX : Blk w Bx #[I x] 3) (e2 : b2 ≠ b5) (eX : Bx ≠ b5) (hA : l ≠ [] → ∃ g o, a1 = some ⟨g, o, none⟩ ∧ IAt w g o l ∧ g ≠ b5) (Q : Exit → Act → World → Prop)
    (hQ : ∀ (D : Nat) (W : World), w.heap.size ≤ D → W.heap[D]? = some (.deferred (some [])) → w.grownBy W (some b5) → Blk W b5 #[I (prd l x n)] 3 → Q (.exit 0) ⟨(u0 :: u1 :: (.pointer (some ⟨b2, 0, none⟩)) :: (.pointer (some ⟨b3, 0, none⟩)) :: u4 :: (.pointer (some ⟨b5, 0, none⟩)) :: u6 :: u7 :: u8 :: u9 :: u10 :: u11 :: u12 :: (.func (.func 58) #[] #[.pointer (some ⟨Bx, 0, none⟩)]) :: u14 :: u15 :: u16 :: u17 :: u18 :: u19 :: u20 :: u21 :: u22 :: u23 :: u24 :: u25 :: u26 :: u27 :: u28 :: u29 :: u30 :: u31 :: u32 :: []).toArray, [{ target := .collected D, args := #[] }]⟩ W) :
    Code.wpIn Fence.wide 10 Try.prog (rangeIn Try.f35 0) Q ⟨(u0 :: u1 :: (.pointer (some ⟨b2, 0, none⟩)) :: (.pointer (some ⟨b3, 0, none⟩)) :: u4 :: (.pointer (some ⟨b5, 0, none⟩)) :: u6 :: u7 :: u8 :: u9 :: u10 :: u11 :: u12 :: (.func (.func 58) #[] #[.pointer (some ⟨Bx, 0, none⟩)]) :: u14 :: u15 :: u16 :: u17 :: u18 :: u19 :: u20 :: u21 :: u22 :: u23 :: u24 :: u25 :: u26 :: u27 :: u28 :: u29 :: u30 :: u31 :: u32 :: []).toArray, []⟩ w := by
  conv => arg 4; whnf
  have HQ := Lib.hid hQ
  clear hQ
  refine wpIn_rangeFunc_ends rfl (by omega) (gf := 58) (lb := #[.pointer (some ⟨Bx, 0, none⟩)]) rfl trivial (enters_of Try.func58 (by kernel_rfl) rfl)
    (powers1_ends 9 (by omega) Bx b5 (n + 1) x hx (by omega) (by omega) w NX eX) KpX.trans (KpX.put (w := w)) (Below.refl _ _) (fun _ => rfl)
    (RndI w b5 3 (fun k => #[I (prd l x k)])) (fun _ W => RndI w b5 3 (fun k => #[I (prd l x k)]) n W) 0 rndI_own (rndI_own' n) ⟨N5, World.grownBy.refl w _⟩ (fun k => ⟨(u0 :: u1 :: (.pointer (some ⟨b2, 0, none⟩)) :: (.pointer (some ⟨b3, 0, none⟩)) :: u4 :: (.pointer (some ⟨b5, 0, none⟩)) :: (.int .i64 (k : Int)) :: (.int .i64 (pws x k)) :: u8 :: u9 :: u10 :: u11 :: u12 :: (.func (.func 58) #[] #[.pointer (some ⟨Bx, 0, none⟩)]) :: (.int .i64 (k : Int)) :: (.int .i64 (pws x k)) :: u16 :: u17 :: u18 :: u19 :: u20 :: u21 :: u22 :: u23 :: u24 :: u25 :: u26 :: u27 :: u28 :: u29 :: u30 :: u31 :: u32 :: []).toArray, []⟩) ?assign ?body ?stop
  case assign =>
    intro f k W K hK
    gi_wp2
    exact hK
  case stop =>
    rintro D W hD ⟨i1, hG⟩ hK
    refine wpIn_exit ?_
    exact HQ.out D W hD hK hG i1
  case body =>
    rintro f k W ⟨i5', hG⟩ hkN
    have i5 : Blk W b5 #[I (prd l x k)] 3 := i5'
    clear i5'
    have i2 := N2.keptBy hG (fun e => e2 (by injection e))
    have c2 := i2.cell 0 _ rfl
    have hb5 := N5.lt
    have t2 : (k : Int) ≤ 90000 := by omega
    by_cases hk : k < n
    · have t1 : ((k : Int) == (n : Int)) = false := by rw [beq_eq_false_iff_ne]; omega
      obtain ⟨c, hck⟩ : ∃ c, l[k]? = some c := ⟨l[k]'(by omega), List.getElem?_eq_getElem _⟩
      obtain ⟨g, o, rfl, hAt, hgb⟩ := hA (by rintro rfl; simp at hck)
      have hc64 := hl.get hck
      have hgl := World.block_lt_of_cell? w _ (hAt k c hck)
      have c3 : W.cell? ⟨g, o + k, none⟩ = some (I c) := by
        rw [World.cell?_of_block (w := w) (a := ⟨g, o + k, none⟩) (hG.block g hgl (fun e => hgb (by injection e)))]
        exact hAt k c hck
      have c5 := i5.cell 0 _ rfl
      have f2 := After.cell c2
      have f3 := After.cell c3
      have f5 := After.cell c5
      have D1 := Lib.hid (fun w => Pow_any c (pws x k) 2305843009213691579 hc64 (pws_in x k) (by decide) w)
      have D2 := Lib.hid (fun w => Mul_any (prd l x k) (Fld.powS c (pws x k) 2305843009213691579) 2305843009213691579 (prd_in l x k) (powS_in (by decide)) (by decide) w)
      have hst : prd l x (k + 1) = Fld.mulS (prd l x k) (Fld.powS c (pws x k) 2305843009213691579) 2305843009213691579 := by
        show Fld.mulS (prd l x k) (Fld.powS (l.getD k 0) (pws x k) PZ) PZ = _
        rw [getD_of hck]
      rw [← hst] at D2
      obtain ⟨p2, hp2⟩ : ∃ p2, prd l x (k + 1) = p2 := ⟨_, rfl⟩
      rw [hp2] at D2
      have HP2 := Lib.hid hp2
      have hk1 : (k : Int) < (n : Int) := by omega
      clear hst hp2 hck hAt c3 c5
      generalize prd l x k = p at *
      generalize pws x k = q at *
      gi_wp2
      refine wpIn_region_after_tail 8 (by kernel_rfl) (by kernel_rfl) (by rintro ⟨_, _, h⟩; exact h) (by kernel_rfl) (by kernel_rfl) (by kernel_rfl) ?_
      simp only [List.take_succ_cons, List.take_zero, List.drop_succ_cons, List.drop_zero]
      repeat (go_big_quiet_step (first | (with_reducible exact After.call (D1.out _)) | (with_reducible exact After.call (D2.out _))))
      refine wpQuiet_nil ?_
      rintro w5 ⟨x5, rfl⟩
      have hx5 := x5.hb
      generalize x5.W = w5 at *
      have j5 := i5.below hx5 i5.lt
      have hG5 := grown_then2 hG (grown_of_below hx5 (some b5))
      have z5 := j5.cell 0 _ rfl
      have y5 := j5.frozen 0
      clear f2 f3 f5 c2
      have HJ := Lib.hid (j5.set 0 (I p2))
      have HG6 := Lib.hid (grown_set hG5 0 (I p2))
      have HW6 := Lib.hid (grown_set (grown_of_below hx5 (some b5)) 0 (I p2))
      go_wp2_with fail
      refine ⟨KeepsFrom.of_grownBy HW6.out (fun j e => by cases e; exact hb5), KpX.of_grown HW6.out, by omega, ?_, HG6.out⟩
      show Blk _ b5 #[I (prd l x (k + 1))] _
      rw [HP2.out]
      exact HJ.out
    · have hke : k = n := by omega
      have t1 : ((k : Int) == (n : Int)) = true := by rw [beq_iff_eq]; omega
      have HI := Lib.hid (show RndI w b5 3 (fun k => #[I (prd l x k)]) n W by rw [← hke]; exact ⟨i5, hG⟩)
      clear hke
      gi_wp2
      exact ⟨rfl, KeepsFrom.refl _ _, HI.out⟩

set_option maxRecDepth 100000 in
set_option maxHeartbeats 2000000 in
theorem fits_no (x y : Int) (a : Option Addr) (n cap : Nat) (w : World) (hi : insd (x, y) = false) :
    Calls Try.prog 35 #[.slice a n cap, .agg #[I x, I y]] w fun e w' => e = .returned (.bool false) ∧ Below w.heap.size w w' := by
  have hb0 := (Below.refl w.heap.size w).alloc (Nat.le_refl _) (.cells #[.slice a n cap] 22)
  have N3 := Blk.new (w.alloc (.cells #[.slice a n cap] 22)) #[I x, I y] 33
  rw [World.size_alloc] at N3
  have hb1 := hb0.alloc hb0.size (.cells #[I x, I y] 33)
  have hb2 := hb1.alloc hb1.size (.cells #[I x, I y] 33)
  have c0 := N3.cell 0 _ rfl
  have c1 := N3.cell 1 _ rfl
  have IN := Lib.hid (fun w => inside_any x y w)
  rw [hi] at IN
  clear N3 hi
  go_enter Try.func35, Try.ntmps35
  go_upto_region 1 with (fail)
  go_wp2_with fail
  refine (IN.out _).mono ?_; rintro e w1 ⟨rfl, rfl⟩
  go_wp2_with fail
  go_ret
  exact ⟨rfl, hb2⟩

theorem fits_yes (l : List Int) (x y : Int) (v : Value) (w : World) (hl : All64 l) (hx : In64 x) (hy : In64 y) (hl9 : l.length ≤ 90000) (hA : IArg w v l) (hi : insd (x, y) = true) :
    Calls Try.prog 35 #[v, .agg #[I x, I y]] w fun e w' => e = .returned (.bool (prd l x l.length == Fld.powS 4 y 2305843009213691579)) ∧ Below w.heap.size w w' := by
  obtain ⟨a, cap, rfl, hc, hA⟩ := hA
  have IN := Lib.hid (fun w => inside_any x y w)
  rw [hi] at IN
  clear hi
  have PW := Lib.hid (fun w => powers_any x w)
  have D1 := Lib.hid (fun w => Pow_any 4 y 2305843009213691579 ⟨by decide, by decide⟩ hy (by decide) w)
  have HA := Lib.hid hA
  clear hA
  have N2 := Blk.new w #[.slice a l.length cap] 22
  have hb0 := (Below.refl w.heap.size w).alloc (Nat.le_refl _) (.cells #[.slice a l.length cap] 22)
  have N3 := Blk.new (w.alloc (.cells #[.slice a l.length cap] 22)) #[I x, I y] 33
  rw [World.size_alloc] at N3
  have N2 := N2.alloc (.cells #[I x, I y] 33)
  have hb1 := hb0.alloc hb0.size (.cells #[I x, I y] 33)
  have hs1 : ((w.alloc (.cells #[.slice a l.length cap] 22)).alloc (.cells #[I x, I y] 33)).heap.size = w.heap.size + 2 := by simp
  obtain ⟨n, hn⟩ : ∃ n, l.length = n := ⟨_, rfl⟩
  rw [hn] at N2 N3 hb0 hb1 hs1 hc hl9
  rw [hn]
  refine (callsIn_wide (n := 10)).1 ?_
  refine callsIn_of_wp_marks Try.func35 rfl trivial ?_ rfl
  simp only [Try.ntmps35, List.size_toArray, List.length_cons, List.length_nil, Nat.reduceAdd, Nat.reduceSub, Array.replicate_succ, Array.replicate_zero, List.push_toArray, List.append_toArray, List.nil_append, List.cons_append]
  refine wpIn_wide.2 ?_
  go_upto_region 1 with (fail)
  generalize (w.alloc (.cells #[.slice a n cap] 22)).alloc (.cells #[I x, I y] 33) = w2 at *
  have c0 := N3.cell 0 _ rfl
  have c1 := N3.cell 1 _ rfl
  go_wp2_with fail
  refine (IN.out _).mono ?_; rintro e w3 ⟨rfl, rfl⟩
  have hb3 := hb1.alloc hb1.size (.cells #[I x, I y] 33)
  have M2 := N2.alloc (.cells #[I x, I y] 33)
  have M3 := N3.alloc (.cells #[I x, I y] 33)
  have hs3 : (w2.alloc (.cells #[I x, I y] 33)).heap.size = w.heap.size + 3 := by rw [World.size_alloc, hs1]
  clear c0 c1 N2 N3
  generalize w2.alloc (.cells #[I x, I y] 33) = w3 at *
  have N5 := Blk.new w3 #[I 1] 3
  have M2 := M2.alloc (.cells #[I 1] 3)
  have M3 := M3.alloc (.cells #[I 1] 3)
  have hb4 := hb3.alloc hb3.size (.cells #[I 1] 3)
  rw [hs3] at N5
  have hs4 : (w3.alloc (.cells #[I 1] 3)).heap.size = w.heap.size + 4 := by rw [World.size_alloc, hs3]
  go_upto_region 4 with (fail)
  generalize w3.alloc (.cells #[I 1] 3) = w4 at *
  have c0 := M3.cell 0 _ rfl
  go_wp2_with fail
  refine (PW.out _).mono ?_; rintro e w5 ⟨rfl, rfl⟩
  have NX := Blk.new w4 #[I x] 3
  have N5 := N5.alloc (.cells #[I x] 3)
  have M2 := M2.alloc (.cells #[I x] 3)
  have M3 := M3.alloc (.cells #[I x] 3)
  have hb5 := hb4.alloc hb4.size (.cells #[I x] 3)
  clear c0
  go_wp2_with fail
  rw [hs4] at NX
  generalize w4.alloc (.cells #[I x] 3) = w5 at *
  refine (wpIn_wide (n := 10)).1 ?_
  refine fit_range _ _ _ _ _ _ _ _ _ _ _ _ _ _ _ _ _ _ _ _ _ _ _ _ _ _ _ _ _ w.heap.size (w.heap.size + 1) (w.heap.size + 3) (w.heap.size + 4) n cap a l x w5 hl hx hn hl9 N5 M2 NX (by omega) (by omega) (fun h => by
    obtain ⟨g, o, h1, h2⟩ := HA.out h
    have hg : g < w.heap.size := by
      obtain ⟨c, r, rfl⟩ := List.exists_cons_of_ne_nil h
      exact World.block_lt_of_cell? w _ (h2 0 c rfl)
    exact ⟨g, o, h1, h2.below hb5, by omega⟩) _ ?_
  intro D W hD hK hG hS
  have tbW := below_grown hb5 hG hb5.size (by omega)
  have i3 := M3.keptBy hG (fun e => by injection e with e; omega)
  have f5 : ∀ x' : After W, x'.W.cell? ⟨w.heap.size + 3, 0, none⟩ = some (I (prd l x n)) := After.cell (hS.cell 0 _ rfl)
  have f3 := After.cell (i3.cell 1 _ rfl)
  have hsz := hb5.size
  have hDW := (Array.getElem?_eq_some_iff.1 hK).1
  obtain ⟨p, hp⟩ : ∃ p, prd l x n = p := ⟨_, rfl⟩
  obtain ⟨z, hz⟩ : ∃ z, Fld.powS 4 y 2305843009213691579 = z := ⟨_, rfl⟩
  have HPZ := Lib.hid (And.intro hp hz)
  rw [hp] at f5
  rw [hz] at D1
  clear hp hz
  go_upto_region 9 with (fail)
  refine wp_region_after (by kernel_rfl) (by kernel_rfl) ?_
  repeat (go_big_quiet_step (first | (with_reducible exact After.call (D1.out _))))
  refine wpQuiet_nil ?_
  rintro w6 ⟨x6, rfl⟩
  have h6 := x6.hb
  generalize x6.W = w6 at *
  have hK6 := (h6.block D hDW).trans hK
  have tb6 := tbW.trans (h6.mono tbW.size)
  clear f5 f3 i3 hS hK M2 M3 N5 NX
  go_wp2_with fail
  refine ⟨by simp, .inl ⟨_, _, rfl, run_takeDeferred hK6, ?_⟩⟩
  refine ⟨.bool (p == z), ?_, by rw [HPZ.out.1, HPZ.out.2], tb6.trans (belowK_b (w := w) (Nat.le_refl _) _ D _ _ (by omega) hK6 rfl rfl)⟩
  simp [results, Try.results35, go_sem]

theorem Fits_any (l : List Int) (x y : Int) (v : Value) (w : World) (hl : All64 l) (hx : In64 x) (hy : In64 y) (hl9 : l.length ≤ 90000) (hA : IArg w v l) :
    Calls Try.prog 35 #[v, .agg #[I x, I y]] w fun e w' => e = .returned (.bool (fts l (x, y))) ∧ Below w.heap.size w w' := by
  unfold fts
  obtain ⟨b, hb⟩ : ∃ b, insd (x, y) = b := ⟨_, rfl⟩
  rw [hb]
  cases b
  · obtain ⟨a, cap, rfl, hc, _⟩ := hA
    exact fits_no x y a _ cap w hb
  · exact fits_yes l x y v w hl hx hy hl9 hA hb

set_option maxRecDepth 100000 in
theorem Verify_any (l : List Int) (x y : Int) (v : Value) (w : World) (hl : All64 l) (hx : In64 x) (hy : In64 y) (hl9 : l.length ≤ 90000) (hA : IArg w v l) :
    Calls Try.prog 21 #[v, .agg #[I x, I y]] w fun e w' => e = .returned (.bool (vfy l (x, y))) ∧ Below w.heap.size w w' := by
  have HV : Hid (vfy l (x, y) = (comm l && fts l (x, y))) := rfl
  obtain ⟨res, hres⟩ : ∃ res, vfy l (x, y) = res := ⟨_, rfl⟩
  rw [hres] at HV
  rw [hres]
  clear hres
  have N3 := Blk.new w #[I x, I y] 33
  have hb1 := (Below.refl w.heap.size w).alloc (Nat.le_refl _) (.cells #[I x, I y] 33)
  have D1 := Lib.hid (right_any l v _ hl (by omega) (hA.below hb1))
  have D2 := Lib.hid (fun w2 hb => Fits_any l x y v w2 hl hx hy hl9 ((hA.below hb1).below hb))
  clear hA
  generalize fts l (x, y) = b2 at *
  generalize comm l = b1 at *
  cases b1
  · go_enter Try.func21, Try.ntmps21
    go_wp2_with fail
    refine D1.out.mono ?_; rintro e w3 ⟨rfl, hb3⟩
    have hb := hb1.trans (hb3.mono hb1.size)
    go_wp2_with fail
    go_ret
    exact ⟨by rw [HV.out]; rfl, hb⟩
  · go_enter Try.func21, Try.ntmps21
    go_wp2_with fail
    refine D1.out.mono ?_; rintro e w3 ⟨rfl, hb3⟩
    have hb := hb1.trans (hb3.mono hb1.size)
    have N4 := N3.below hb3 N3.lt
    have c0 := N4.cell 0 _ rfl
    have c1 := N4.cell 1 _ rfl
    have D3 := Lib.hid (D2.out w3 hb3)
    clear D2 D1 N3 N4
    go_wp2_with fail
    refine D3.out.mono ?_; rintro e w4 ⟨rfl, hb4⟩
    have hb := hb.trans (hb4.mono hb.size)
    go_wp2_with fail
    go_ret
    exact ⟨by rw [HV.out]; rfl, hb⟩
end Go.Proofs.Ytdnabeldaighgaa
