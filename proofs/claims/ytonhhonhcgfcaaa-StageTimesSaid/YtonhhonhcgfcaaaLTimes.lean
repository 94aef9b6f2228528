/- StageTimes: the stage, and its end, are those of the reference, for any times; no condition. -/
import Derived.Test.YtonhhonhcgfcaaaSanity
import Derived.Test.YtonhhonhcgfcaaaLaw
import Derived.Test.YtonhhonhcgfcaaaAfter
namespace Go.Proofs.Ytonhhonhcgfcaaa.LTimes
open Go.ChangeShapes Go.WideShapes Go.ChangeAt Go.RowKit Go.Shelf

/-- The times at which the law asks. -/
def askA (a b c d s x : Int) : Array Value := #[.int .i64 x, .int .i64 a, .int .i64 b, .int .i64 c, .int .i64 d, .int .i64 (wrap64 (d + s)), .int .i64 (wrap64 (a - 1)), .int .i64 (wrap64 (d - 1))]
theorem ask_get (a b c d s x : Int) (k : Nat) (hk : k < 8) : ∃ t : Int, (askA a b c d s x)[k]? = some (.int .i64 t) := by
  rcases (show k = 0 ∨ k = 1 ∨ k = 2 ∨ k = 3 ∨ k = 4 ∨ k = 5 ∨ k = 6 ∨ k = 7 by omega) with rfl | rfl | rfl | rfl | rfl | rfl | rfl | rfl
  all_goals exact ⟨_, rfl⟩

set_option maxRecDepth 100000 in
set_option maxHeartbeats 2000000 in
theorem walk (a b c d s x : Int) (hd : I64 d) (hs : I64 s) (w : World) :
    Calls Try.prog 3 #[T5 a b c d s, .int .i64 x] w fun e w' => e = .returned (.bool true) ∧ Below w.heap.size w w' := by
  have HN := Lib.hid (fun t => Next_any a b c d s t hd hs)
  have HRN := Lib.hid (fun t => RNext_any a b c d s t hd hs)
  have HS := Lib.hid (fun t => Stage_any a b c d s t hd hs)
  have HRS := Lib.hid (fun t => RStage_any a b c d s t hd hs)
  clear hd hs
  go_enter Try.func3, Try.ntmps3
  go_wp2_with fail
  refine (sanity_any _).mono ?_; rintro e w1 ⟨rfl, hb1⟩
  have j1 := (Blk.new w #[.int .i64 a, .int .i64 b, .int .i64 c, .int .i64 d, .int .i64 s] 22).below hb1 (by simp)
  obtain ⟨c0, c1, c2, c3, c4⟩ := blk5 j1
  have t1 := ((Below.refl w.heap.size w).alloc (Nat.le_refl _) (.cells #[.int .i64 a, .int .i64 b, .int .i64 c, .int .i64 d, .int .i64 s] 22)).trans (hb1.mono (by simp))
  go_wp2_with fail
  refine (times_any _ _ _ _ _ _).mono ?_; rintro e w2 ⟨rfl, hb2⟩
  have j2 := (j1.below hb2 j1.lt).alloc (.cells #[.int .i64 a, .int .i64 b, .int .i64 c, .int .i64 d, .int .i64 s] 25)
  obtain ⟨d0, d1, d2, d3, d4⟩ := blk5 j2
  have i2 := Blk.new w2 #[.int .i64 a, .int .i64 b, .int .i64 c, .int .i64 d, .int .i64 s] 25
  have t2 := t1.trans (hb2.mono t1.size)
  have t3 := t2.alloc t2.size (.cells #[.int .i64 a, .int .i64 b, .int .i64 c, .int .i64 d, .int .i64 s] 25)
  go_wp2_with fail
  go_loopw [8] (fun i wr => ∃ k : Nat, k ≤ 8 ∧ i = .int .i64 k ∧ Blk wr w2.heap.size #[.int .i64 a, .int .i64 b, .int .i64 c, .int .i64 d, .int .i64 s] 25 ∧ Blk wr (w2.heap.size + 1) (askA a b c d s x) 3 ∧ Below w.heap.size w wr) (fun i _ => 8 - (intOf i).toNat)
  case atStart =>
    have h2 := Blk.new (w2.alloc (.cells #[.int .i64 a, .int .i64 b, .int .i64 c, .int .i64 d, .int .i64 s] 25)) (askA a b c d s x) 3
    simp only [World.size_alloc] at h2
    exact ⟨0, by omega, rfl, i2.alloc _, h2, t3.alloc (by have := t2.size; simp; omega) _⟩
  case round =>
    obtain ⟨k, hk, rfl, m1, m2, hB⟩ := hrel
    by_cases hlt : k < 8
    · obtain ⟨t, ht⟩ := ask_get a b c d s x k hlt
      have y := m2.cell k _ ht
      obtain ⟨e0, e1, e2, e3, e4⟩ := blk5 m1
      have f0 := After.cell e0
      have f1 := After.cell e1
      have f2 := After.cell e2
      have f3 := After.cell e3
      have f4 := After.cell e4
      have f5 := After.cell y
      have hk0 : (0 : Int) ≤ (k : Int) := by omega
      have hk1 : (k : Int) < ((8 : Nat) : Int) := by omega
      have hk2 : (k : Int) < 8 := by omega
      clear ht
      go_wp2_with fail
      refine wp_region_after (by kernel_rfl) (by kernel_rfl) ?_
      repeat (go_big_quiet_step (first | (go_at_call 13; exact After.call (HN.out _ _))))
      refine wpQuiet_nil ?_
      rintro w5 ⟨x5, rfl⟩
      have o0 := fun z : After x5.W => After.cell (f0 x5) z
      have o1 := fun z : After x5.W => After.cell (f1 x5) z
      have o2 := fun z : After x5.W => After.cell (f2 x5) z
      have o3 := fun z : After x5.W => After.cell (f3 x5) z
      have o4 := fun z : After x5.W => After.cell (f4 x5) z
      have o5 := fun z : After x5.W => After.cell (f5 x5) z
      go_wp2_with fail
      refine wp_region_after (by kernel_rfl) (by kernel_rfl) ?_
      repeat (go_big_quiet_step (first | (go_at_call 14; exact After.call (HRN.out _ _))))
      refine wpQuiet_nil ?_
      rintro w6 ⟨x6, rfl⟩
      have q0 := fun z : After x6.W => After.cell (o0 x6) z
      have q1 := fun z : After x6.W => After.cell (o1 x6) z
      have q2 := fun z : After x6.W => After.cell (o2 x6) z
      have q3 := fun z : After x6.W => After.cell (o3 x6) z
      have q4 := fun z : After x6.W => After.cell (o4 x6) z
      have q5 := fun z : After x6.W => After.cell (o5 x6) z
      go_wp2_with fail
      refine wp_region_after (by kernel_rfl) (by kernel_rfl) ?_
      repeat (go_big_quiet_step (first | (go_at_call 15; exact After.call (HS.out _ _)) | (go_at_call 16; exact After.call (HRS.out _ _))))
      refine wpQuiet_nil ?_
      rintro w7 ⟨x7, rfl⟩
      go_wp2_with fail
      have hb : Below wr.heap.size wr x7.W := (x5.hb.trans (x6.hb.mono x5.hb.size)).trans (x7.hb.mono (Nat.le_trans x5.hb.size x6.hb.size))
      go_roundw
      case rel => exact ⟨k + 1, by omega, by go_num, m1.below hb m1.lt, m2.below hb m2.lt, hB.trans (hb.mono hB.size)⟩
      case measure => simp [intOf]; omega
    · obtain rfl : k = 8 := by omega
      go_wp2_with fail
      go_ret
      exact ⟨rfl, hB⟩

set_option maxRecDepth 100000 in
theorem lifted (os : Os) (started : os.Started) (H : Type) (enc : TypeId × Value → H) :
    ReturnsInHanded {} Try.checked os 3 .any (Rows.stageTimesSpec.pre6 enc Try.prog Try.f3 Rows.stageTimesRow.domain false) (Rows.stageTimesSpec.post enc Try.prog Try.f3 false true false false) := by
  refine returnsInHanded_of_change (C := Try.checked) law_own started (by kernel_rfl) Try.func3
    (ChangeSpec.witness6 (enc := enc) (C := Try.checked) false ⟨#[], #[.agg #[.int .i64 0, .int .i64 0, .int .i64 0, .int .i64 0, .int .i64 0], .int .i64 0], []⟩ 8 (by kernel_rfl) (by kernel_rfl) (by kernel_rfl) (by kernel_rfl)) ?_
  intro W base args ds gs before hval0 hW _ _
  have hval : ∀ (j : Nat) t v, Try.f3.params[j]? = some t → args[j]? = some v → Value.okWide Try.prog W .any base t v := hval0
  have hWk : DataW.Whole enc Try.prog Try.f3.params.toList Rows.stageTimesSpec.vars false W args.toList ds gs before := hW
  obtain ⟨p, q, hA0, hV, rfl, _, _⟩ := hW
  have hA : DataW.TrodAll enc Try.prog W 0 (fun _ => true) true Try.f3.params.toList args.toList ds p := hA0
  rw [Try.params3] at hA hval
  obtain ⟨v0, vs0, d0, ds0, p0, q0, hargs, rfl, rfl, h0, r0⟩ := trodAll_cons hA
  obtain ⟨v1, vs1, d1, ds1, p1, q1, rfl, rfl, rfl, h1, r1⟩ := trodAll_cons r0
  obtain ⟨rfl, rfl, rfl⟩ := trodAll_nil r1
  obtain rfl : args = #[v0, v1] := by cases args; simp_all
  obtain ⟨rfl, rfl⟩ := trodVars_none hV
  obtain ⟨zs0, l0, rfl, w0⟩ := open_int_array Try.underlying22 Try.underlying3 (by kernel_rfl) (by kernel_rfl) (hval 0 22 v0 rfl rfl) h0
  obtain ⟨x0_0, x0_1, x0_2, x0_3, x0_4, rfl⟩ := list5 l0
  obtain ⟨a1, rfl, _, _, w1⟩ := open_int Try.underlying3 (hval 1 3 v1 rfl rfl) h1
  clear hA0 hval0
  refine (walk x0_0 x0_1 x0_2 x0_3 x0_4 a1 (wf_i64 (w0 x0_3 (by simp))) (wf_i64 (w0 x0_4 (by simp))) W).mono fun e W' ⟨he, hb⟩ => ?_
  exact ⟨_, he, law_post law_laid rfl (by rw [Try.params3]; decide +kernel) (by kernel_rfl) Try.underlying4 rfl hWk hb⟩

theorem holds : Rows.StageTimesSaid :=
  OpenClaim.holds_of_wide 3 Try.f3 rfl rfl rfl rfl rfl rfl rfl ⟨rfl, rfl, rfl, rfl, rfl⟩ rfl rfl rfl rfl rfl (by kernel_rfl) Try.func3 (by kernel_rfl)
    (of_decide_eq_true (by kernel_rfl)) (by unfold Func.isWrapper; first | (rw [if_pos (by decide +kernel)]; kernel_rfl) | (rw [if_neg (by decide +kernel)]; exact ⟨rfl, rfl⟩))
    (fun os started H enc _ => lifted os started H enc)

end Go.Proofs.Ytonhhonhcgfcaaa.LTimes

namespace Go.Proofs.Ytonhhonhcgfcaaa
/-- The statement. -/
theorem stageTimes_holds : Rows.StageTimesSaid := LTimes.holds
end Go.Proofs.Ytonhhonhcgfcaaa
