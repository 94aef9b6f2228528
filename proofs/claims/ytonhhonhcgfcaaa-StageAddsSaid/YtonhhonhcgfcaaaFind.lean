/- The contract of find: the first stage whose end lies behind a time, for any times. -/
import Derived.Test.YtonhhonhcgfcaaaEnds
namespace Go.Proofs.Ytonhhonhcgfcaaa
open Go.RowKit Go.Shelf
attribute [local go_sem] Oper.semAt_some

set_option maxHeartbeats 400000 in
theorem ends_any (a b c d s : Int) (w : World) :
    Calls Try.prog 26 #[T5 a b c d s] w fun e w' => e = .returned (.func (.func 28) #[] #[.pointer (some ⟨w.heap.size, 0, none⟩)]) ∧ w.alloc (.cells #[.int .i64 a, .int .i64 b, .int .i64 c, .int .i64 d, .int .i64 s] 25) = w' := by
  go_enter Try.func26, Try.ntmps26
  go_wp2
  go_ret
  exact ⟨rfl, rfl⟩

/-- Between two rounds of find. -/
def FindI (n : Nat) (w : World) (now : Int) (pre : List (Int × En)) (W : World) : Prop :=
  ((∀ y ∈ pre, hit now y.2 = false) ∧ Blk W (n + 1) #[.int .i64 now] 3 ∧ Blk W (n + 1 + 1) #[.int .i64 0] 3 ∧ Blk W (n + 1 + 1 + 1) #[.int .i64 0, .bool false, .bool false] 42) ∧ Below n w W
/-- A round of find has returned. -/
def FindX (n : Nat) (w : World) (now : Int) (code : Code) (pre : List (Int × En)) (W : World) : Prop :=
  (code = .ret ∧ ∃ (q : List (Int × En)) (y : Int × En), pre = q ++ [y] ∧ (∀ z ∈ q, hit now z.2 = false) ∧ hit now y.2 = true ∧ Blk W (n + 1 + 1) #[.int .i64 y.1] 3 ∧ Blk W (n + 1 + 1 + 1) #[.int .i64 y.2.at_, .bool y.2.bey, .bool y.2.bel] 42) ∧ Below n w W

theorem findI_own {B : Nat} {w : World} {now : Int} (hB : w.heap.size ≤ B) : OwnFrom B (FindI w.heap.size w now) := by
  refine OwnFrom.and (Own.from (fun s A C row hs hg hr => ⟨hs.1, hs.2.1.kept hg hr, hs.2.2.1.kept hg hr, hs.2.2.2.kept hg hr⟩) _) (ownFrom_below (Nat.le_refl _) hB)
theorem findX_own {B : Nat} {w : World} {now : Int} (code : Code) (hB : w.heap.size ≤ B) : OwnFrom B (FindX w.heap.size w now code) := by
  refine OwnFrom.and (Own.from (fun s A C row hs hg hr => ?_) _) (ownFrom_below (Nat.le_refl _) hB)
  obtain ⟨hc, q, y, h1, h2, h3, h4, h5⟩ := hs
  exact ⟨hc, q, y, h1, h2, h3, h4.kept hg hr, h5.kept hg hr⟩

/-- What the assignment to the loop's variables leaves. -/
def FindAx (n : Nat) (a b c d s now : Int) (x : Int × En) (a' : Act) (W : World) : Prop :=
  ∃ Bx : Nat, n + 1 + 1 + 1 < Bx ∧ Blk W Bx #[.int .i64 x.2.at_, .bool x.2.bey, .bool x.2.bel] 42 ∧
    a' = { tmps := #[T5 a b c d s, .int .i64 now, .pointer (some ⟨n, 0, none⟩), .pointer (some ⟨n + 1, 0, none⟩), .pointer (some ⟨n + 1 + 1, 0, none⟩), .pointer (some ⟨n + 1 + 1 + 1, 0, none⟩), .int .i64 x.1, .pointer (some ⟨Bx, 0, none⟩), T5 a b c d s, .func (.func 28) #[] #[.pointer (some ⟨n + 1 + 1 + 1 + 1, 0, none⟩)], .int .i64 x.1, x.2.enc, undef, undef, undef, undef, undef, undef, undef, undef, undef, undef, undef, undef, undef, undef, undef, undef], defers := [] }

theorem blk_three {W : World} {b : Nat} {x y z x' y' z' : Value} {t : TypeId} (h : Blk W b #[x, y, z] t) : Blk (((W.setCell ⟨b, 0, none⟩ x').setCell ⟨b, 1, none⟩ y').setCell ⟨b, 2, none⟩ z') b #[x', y', z'] t :=
  ((h.set 0 x').set 1 y').set 2 z'

theorem find_leave {w W : World} {now : Int} {pre : List (Int × En)} {k : Int} {e : En} {B : Nat} (hpre : ∀ y ∈ pre, hit now y.2 = false) (hh : hit now e = true)
    (i2 : Blk W (w.heap.size + 1 + 1) #[.int .i64 0] 3) (i3 : Blk W (w.heap.size + 1 + 1 + 1) #[.int .i64 0, .bool false, .bool false] 42) (hBl : Below w.heap.size w W) :
    KeepsFrom B W ((((W.setCell ⟨w.heap.size + 1 + 1, 0, none⟩ (.int .i64 k)).setCell ⟨w.heap.size + 1 + 1 + 1, 0, none⟩ (.int .i64 e.at_)).setCell ⟨w.heap.size + 1 + 1 + 1, 1, none⟩ (.bool e.bey)).setCell ⟨w.heap.size + 1 + 1 + 1, 2, none⟩ (.bool e.bel)).drew ∧
    FindX w.heap.size w now .ret (pre ++ [(k, e)]) ((((W.setCell ⟨w.heap.size + 1 + 1, 0, none⟩ (.int .i64 k)).setCell ⟨w.heap.size + 1 + 1 + 1, 0, none⟩ (.int .i64 e.at_)).setCell ⟨w.heap.size + 1 + 1 + 1, 1, none⟩ (.bool e.bey)).setCell ⟨w.heap.size + 1 + 1 + 1, 2, none⟩ (.bool e.bel)).drew := by
  refine ⟨KeepsOthers.from ((((((KeepsOthers.setCell _ _ _).trans (KeepsOthers.setCell _ _ _)).trans (KeepsOthers.setCell _ _ _)).trans (KeepsOthers.setCell _ _ _))).trans (KeepsOthers.drew _)) _, ⟨rfl, pre, (k, e), rfl, hpre, hh, ?_, ?_⟩, ?_⟩
  · exact (((((i2.set 0 (.int .i64 k)).other (a := ⟨w.heap.size + 1 + 1 + 1, 0, none⟩) (by simp) _).other (a := ⟨w.heap.size + 1 + 1 + 1, 1, none⟩) (by simp) _).other (a := ⟨w.heap.size + 1 + 1 + 1, 2, none⟩) (by simp) _)).drew
  · exact (blk_three (i3.other (a := ⟨w.heap.size + 1 + 1, 0, none⟩) (by simp) _)).drew
  · exact ((((hBl.setCell (p := ⟨w.heap.size + 1 + 1, 0, none⟩) (by simp; omega) _).setCell (p := ⟨w.heap.size + 1 + 1 + 1, 0, none⟩) (by simp; omega) _).setCell (p := ⟨w.heap.size + 1 + 1 + 1, 1, none⟩) (by simp; omega) _).setCell (p := ⟨w.heap.size + 1 + 1 + 1, 2, none⟩) (by simp; omega) _).drew

theorem findI_snoc {n : Nat} {w W : World} {now : Int} {pre : List (Int × En)} {x : Int × En} (h : FindI n w now pre W) (hx : hit now x.2 = false) : FindI n w now (pre ++ [x]) W :=
  ⟨⟨(fun y hy => (List.mem_append.1 hy).elim (h.1.1 y) (fun e => by simp at e; subst e; exact hx)), h.1.2⟩, h.2⟩

theorem find_end {w W : World} {D : Nat} {tmps : Array Value} {y : Int × En} (j2 : Blk W (w.heap.size + 1 + 1) #[.int .i64 y.1] 3) (j3 : Blk W (w.heap.size + 1 + 1 + 1) #[.int .i64 y.2.at_, .bool y.2.bey, .bool y.2.bel] 42)
    (hK : W.heap[D]? = some (.deferred (some []))) (hD : w.heap.size ≤ D) (hB : Below w.heap.size w W) {tail : List Value} {u0 u1 u2 u3 : Value} (ht : tmps = (u0 :: u1 :: u2 :: u3 :: .pointer (some ⟨w.heap.size + 1 + 1, 0, none⟩) :: .pointer (some ⟨w.heap.size + 1 + 1 + 1, 0, none⟩) :: tail).toArray) :
    bodyPostM Fence.wide 10 Try.prog Try.f21 (fun e w' => e = .returned (.tuple #[.int .i64 y.1, y.2.enc]) ∧ Below w.heap.size w w') Exit.ret { tmps := tmps, defers := [{ target := .collected D, args := #[] }] } W := by
  subst ht
  refine ⟨by simp, .inl ⟨_, _, rfl, run_takeDeferred hK, ?_⟩⟩
  have k2 := j2.kept (grownBy_putObj' _ D (.deferred none)) (fun r e => by cases e; exact ⟨_, hK, rfl⟩)
  have k3 := j3.kept (grownBy_putObj' _ D (.deferred none)) (fun r e => by cases e; exact ⟨_, hK, rfl⟩)
  have c0 := k2.cell 0 (.int .i64 y.1) rfl
  have c1 := k3.cell 0 (.int .i64 y.2.at_) rfl
  have c2 := k3.cell 1 (.bool y.2.bey) rfl
  have c3 := k3.cell 2 (.bool y.2.bel) rfl
  refine ⟨.tuple #[.int .i64 y.1, y.2.enc], ?_, rfl, hB.trans (belowK_b (w := w) (Nat.le_refl _) W D _ _ hD hK rfl rfl)⟩
  simp [results, Try.f21, go_sem, c0, c1, c2, c3]

set_option maxRecDepth 100000 in
set_option maxHeartbeats 1000000 in
theorem find_any (a b c d s now : Int) (hd : -9223372036854775808 ≤ d) (hd' : d ≤ 9223372036854775807) (hs : -9223372036854775808 ≤ s) (hs' : s ≤ 9223372036854775807) (w : World) :
    Calls Try.prog 21 #[T5 a b c d s, .int .i64 now] w fun e w' => e = .returned (.tuple #[.int .i64 (findR a b c d s now).1, (findR a b c d s now).2.enc]) ∧ Below w.heap.size w w' := by
  refine (callsIn_wide (n := 10)).1 ?_
  refine callsIn_of_wp_marks Try.func21 rfl trivial ?_ rfl
  simp only [Try.ntmps21, List.size_toArray, List.length_cons, List.length_nil, Nat.reduceAdd, Nat.reduceSub, Array.replicate_succ, Array.replicate_zero, List.push_toArray, List.append_toArray, List.nil_append, List.cons_append]
  gi_wp2_with (refine ⟨trivial, ?_⟩; gi_at_call 26; refine CallsIn.mono (callsIn_wide.2 (ends_any _ _ _ _ _ _)) ?_; rintro e w' ⟨rfl, rfl⟩)
  have b1 := ((((Blk.new (w.alloc (.cells #[.int .i64 a, .int .i64 b, .int .i64 c, .int .i64 d, .int .i64 s] 25)) #[.int .i64 now] 3).alloc (.cells #[.int .i64 0] 3)).alloc (.cells #[.int .i64 0, .bool false, .bool false] 42)).alloc (.cells #[.int .i64 a, .int .i64 b, .int .i64 c, .int .i64 d, .int .i64 s] 25))
  have b2 := (((Blk.new ((w.alloc (.cells #[.int .i64 a, .int .i64 b, .int .i64 c, .int .i64 d, .int .i64 s] 25)).alloc (.cells #[.int .i64 now] 3)) #[.int .i64 0] 3).alloc (.cells #[.int .i64 0, .bool false, .bool false] 42)).alloc (.cells #[.int .i64 a, .int .i64 b, .int .i64 c, .int .i64 d, .int .i64 s] 25))
  have b3 := ((Blk.new (((w.alloc (.cells #[.int .i64 a, .int .i64 b, .int .i64 c, .int .i64 d, .int .i64 s] 25)).alloc (.cells #[.int .i64 now] 3)).alloc (.cells #[.int .i64 0] 3)) #[.int .i64 0, .bool false, .bool false] 42).alloc (.cells #[.int .i64 a, .int .i64 b, .int .i64 c, .int .i64 d, .int .i64 s] 25))
  have b4 := (Blk.new ((((w.alloc (.cells #[.int .i64 a, .int .i64 b, .int .i64 c, .int .i64 d, .int .i64 s] 25)).alloc (.cells #[.int .i64 now] 3)).alloc (.cells #[.int .i64 0] 3)).alloc (.cells #[.int .i64 0, .bool false, .bool false] 42)) #[.int .i64 a, .int .i64 b, .int .i64 c, .int .i64 d, .int .i64 s] 25)
  have hB0 : Below w.heap.size w (((((w.alloc (.cells #[.int .i64 a, .int .i64 b, .int .i64 c, .int .i64 d, .int .i64 s] 25)).alloc (.cells #[.int .i64 now] 3)).alloc (.cells #[.int .i64 0] 3)).alloc (.cells #[.int .i64 0, .bool false, .bool false] 42)).alloc (.cells #[.int .i64 a, .int .i64 b, .int .i64 c, .int .i64 d, .int .i64 s] 25)) :=
    (((((Below.refl _ w).alloc (Nat.le_refl _) _).alloc (by simp) _).alloc (by simp; omega) _).alloc (by simp; omega) _).alloc (by simp; omega) _
  simp only [World.size_alloc] at b1 b2 b3 b4
  have hsz : (((((w.alloc (.cells #[.int .i64 a, .int .i64 b, .int .i64 c, .int .i64 d, .int .i64 s] 25)).alloc (.cells #[.int .i64 now] 3)).alloc (.cells #[.int .i64 0] 3)).alloc (.cells #[.int .i64 0, .bool false, .bool false] 42)).alloc (.cells #[.int .i64 a, .int .i64 b, .int .i64 c, .int .i64 d, .int .i64 s] 25)).heap.size = w.heap.size + 1 + 1 + 1 + 1 + 1 := by simp
  generalize (((((w.alloc (.cells #[.int .i64 a, .int .i64 b, .int .i64 c, .int .i64 d, .int .i64 s] 25)).alloc (.cells #[.int .i64 now] 3)).alloc (.cells #[.int .i64 0] 3)).alloc (.cells #[.int .i64 0, .bool false, .bool false] 42)).alloc (.cells #[.int .i64 a, .int .i64 b, .int .i64 c, .int .i64 d, .int .i64 s] 25)) = W0 at *
  refine wpIn_rangeFunc_ownH rfl (by omega) (gf := 28) (lb := #[.pointer (some ⟨w.heap.size + 1 + 1 + 1 + 1, 0, none⟩)]) rfl trivial (enters_of Try.func28 (by kernel_rfl) rfl)
    (ends1_stops 9 (by omega) (w.heap.size + 1 + 1 + 1 + 1) a b c d s hd hd' hs hs' W0 (b4.cell 0 _ rfl) (b4.cell 1 _ rfl) (b4.cell 2 _ rfl) (b4.cell 3 _ rfl) (b4.cell 4 _ rfl) b4.lt) KpC.trans (KpC.put (w := W0)) (Below.refl _ _) (fun _ => rfl)
    (FindI w.heap.size w now) (FindX w.heap.size w now) (findI_own (by omega)) (fun code => findX_own code (by omega))
    ⟨⟨(fun y hy => by cases hy), b1, b2, b3⟩, hB0⟩ (FindAx w.heap.size a b c d s now)
    (fun x a' s A C row hs hg hr => by obtain ⟨Bx, h1, h2, h3⟩ := hs; exact ⟨Bx, h1, h2.kept hg (fun r e => (hr r e).2), h3⟩) ?assign ?body ?done ?stop
  case assign =>
    rintro l pre x W K hi hK
    gi_wp2
    refine hK _ _ ((KeepsOthers.alloc _ _).from _) (KpC.alloc _ _) ⟨⟨hi.1.1, hi.1.2.1.alloc _, hi.1.2.2.1.alloc _, hi.1.2.2.2.alloc _⟩, hi.2.alloc hi.2.size _⟩ ⟨W.heap.size, hi.1.2.2.2.lt, Blk.new _ _ _, rfl⟩
  case body =>
    rintro l pre ⟨k, ⟨at_, bey, bel⟩⟩ a' W hl ⟨r, hr⟩ ⟨⟨hpre, i1, i2, i3⟩, hBl⟩ ⟨Bx, hBx, bX, rfl⟩ hlt
    dsimp only at bX ⊢
    have x0 := bX.cell 0 (.int .i64 at_) rfl
    have x1 := bX.cell 1 (.bool bey) rfl
    have x2 := bX.cell 2 (.bool bel) rfl
    have y0 := i1.cell 0 (.int .i64 now) rfl
    have r0 := i2.cell 0 (.int .i64 0) rfl
    have f0 := i2.frozen 0
    have s0 := i3.cell 0 (.int .i64 0) rfl
    have s1 := i3.cell 1 (.bool false) rfl
    have s2 := i3.cell 2 (.bool false) rfl
    have g0 := i3.frozen 0
    have g1 := i3.frozen 1
    have g2 := i3.frozen 2
    have hmix : Try.prog.follows .mixedOrders = true := by kernel_rfl
    have e1 : w.heap.size + 1 + 1 ≠ Bx := by omega
    have hI : FindI w.heap.size w now pre W := ⟨⟨hpre, i1, i2, i3⟩, hBl⟩
    have HI := Lib.hid hI
    clear hI
    cases bey with
    | true =>
      gi_wp2
      gi_region_with_o (fail)
      all_goals gi_wp2
      all_goals exact find_leave (e := ⟨at_, true, bel⟩) hpre (by simp [hit]) i2 i3 hBl
    | false =>
      cases bel with
      | true =>
        gi_wp2
        exact ⟨KeepsFrom.refl _ _, KpC.refl _, findI_snoc HI.out (by simp [hit])⟩
      | false =>
        by_cases hat : now < at_
        · gi_wp2
          gi_region_with_o (fail)
          all_goals gi_wp2
          all_goals exact find_leave (e := ⟨at_, false, false⟩) hpre (by simp [hit, hat]) i2 i3 hBl
        · gi_wp2
          exact ⟨KeepsFrom.refl _ _, KpC.refl _, findI_snoc HI.out (by simp [hit]; omega)⟩
  case done =>
    rintro D ys W hD rfl ⟨⟨hpre, i1, i2, i3⟩, hBl⟩ hK
    have r0 := i2.cell 0 (.int .i64 0) rfl
    have f0 := i2.frozen 0
    have s0 := i3.cell 0 (.int .i64 0) rfl
    have s1 := i3.cell 1 (.bool false) rfl
    have s2 := i3.cell 2 (.bool false) rfl
    have g0 := i3.frozen 0
    have g1 := i3.frozen 1
    have g2 := i3.frozen 2
    gi_wp2
    have j2 := (((i2.set 0 (.int .i64 6)).other (a := ⟨w.heap.size + 1 + 1 + 1, 0, none⟩) (by simp) (.int .i64 0)).other (a := ⟨w.heap.size + 1 + 1 + 1, 1, none⟩) (by simp) (.bool true)).other (a := ⟨w.heap.size + 1 + 1 + 1, 2, none⟩) (by simp) (.bool false)
    have j3 := (blk_three (x' := .int .i64 0) (y' := .bool true) (z' := .bool false) (i3.other (a := ⟨w.heap.size + 1 + 1, 0, none⟩) (by simp) (.int .i64 6)))
    have hB2 := (((hBl.setCell (p := ⟨w.heap.size + 1 + 1, 0, none⟩) (by simp; omega) (.int .i64 6)).setCell (p := ⟨w.heap.size + 1 + 1 + 1, 0, none⟩) (by simp; omega) (.int .i64 0)).setCell (p := ⟨w.heap.size + 1 + 1 + 1, 1, none⟩) (by simp; omega) (.bool true)).setCell (p := ⟨w.heap.size + 1 + 1 + 1, 2, none⟩) (by simp; omega) (.bool false)
    have hK2 := ((((KeepsOthers.setCell W ⟨w.heap.size + 1 + 1, 0, none⟩ (.int .i64 6)).trans (KeepsOthers.setCell _ ⟨w.heap.size + 1 + 1 + 1, 0, none⟩ (.int .i64 0))).trans (KeepsOthers.setCell _ ⟨w.heap.size + 1 + 1 + 1, 1, none⟩ (.bool true))).trans (KeepsOthers.setCell _ ⟨w.heap.size + 1 + 1 + 1, 2, none⟩ (.bool false))).same D _ hK rfl
    have hfin : findR a b c d s now = (6, ⟨0, true, false⟩) := by unfold findR; rw [find_none hpre]; rfl
    rw [hfin]
    clear r0 f0 s0 s1 s2 g0 g1 g2 i1 i2 i3 hBl hpre
    exact find_end (y := (6, ⟨0, true, false⟩)) j2 j3 hK2 (by omega) hB2 rfl
  case stop =>
    rintro D code pre W hD hpre ⟨⟨rfl, q, y, rfl, hq, hy, j2, j3⟩, hBl⟩ hK
    gi_wp2
    have hfin : findR a b c d s now = y := by unfold findR; rw [find_some (p := fun y => hit now y.2) hpre hq hy]; rfl
    rw [hfin]
    exact find_end j2 j3 hK (by omega) hBl rfl
end Go.Proofs.Ytonhhonhcgfcaaa
