/- StageShift: shifted times are those of the reference, for any times and numbers; no condition. -/
import Derived.Test.YtonhhonhcgfcaaaSanity
import Derived.Test.YtonhhonhcgfcaaaLaw
import Derived.Test.YtonhhonhcgfcaaaAfter
namespace Go.Proofs.Ytonhhonhcgfcaaa.LShift
open Go.ChangeShapes Go.WideShapes Go.ChangeAt Go.RowKit Go.Shelf

/-- A shifted time. -/
def sh (a b c d f y k x : Int) : Int := if okN y ∧ okN a ∧ okN b ∧ okN c ∧ okN d then upd f y k x else x
theorem shiftR_eq (a b c d s f y : Int) : shiftR a b c d s f y = T5 (sh a b c d f y 1 a) (sh a b c d f y 2 b) (sh a b c d f y 3 c) (sh a b c d f y 4 d) s := by
  unfold shiftR sh
  split <;> rfl
theorem Shift_v (a b c d s f y : Int) (w : World) :
    Calls Try.prog 19 #[T5 a b c d s, .int .i64 f, .int .i64 y] w fun e w' => e = .returned (T5 (sh a b c d f y 1 a) (sh a b c d f y 2 b) (sh a b c d f y 3 c) (sh a b c d f y 4 d) s) ∧ Below w.heap.size w w' := by
  have := Shift_any a b c d s f y w
  rw [shiftR_eq] at this
  exact this
theorem RShift_v (a b c d s f y : Int) (w : World) :
    Calls Try.prog 20 #[T5 a b c d s, .int .i64 f, .int .i64 y] w fun e w' => e = .returned (T5 (sh a b c d f y 1 a) (sh a b c d f y 2 b) (sh a b c d f y 3 c) (sh a b c d f y 4 d) s) ∧ Below w.heap.size w w' := by
  have := RShift_any a b c d s f y w
  rw [shiftR_eq] at this
  exact this

set_option maxRecDepth 100000 in
set_option maxHeartbeats 2000000 in
theorem walk (a b c d s f y : Int) (w : World) :
    Calls Try.prog 8 #[T5 a b c d s, .int .i64 f, .int .i64 y] w fun e w' => e = .returned (.bool true) ∧ Below w.heap.size w w' := by
  go_enter Try.func8, Try.ntmps8
  go_wp2_with fail
  refine (sanity_any _).mono ?_; rintro e w1 ⟨rfl, hb1⟩
  have j1 := (Blk.new w #[.int .i64 a, .int .i64 b, .int .i64 c, .int .i64 d, .int .i64 s] 22).below hb1 (by simp)
  obtain ⟨c0, c1, c2, c3, c4⟩ := blk5 j1
  have t1 := ((Below.refl w.heap.size w).alloc (Nat.le_refl _) (.cells #[.int .i64 a, .int .i64 b, .int .i64 c, .int .i64 d, .int .i64 s] 22)).trans (hb1.mono (by simp))
  go_wp2_with fail
  refine (times_any _ _ _ _ _ _).mono ?_; rintro e w2 ⟨rfl, hb2⟩
  have j2 := (j1.below hb2 j1.lt).alloc (.cells #[.int .i64 a, .int .i64 b, .int .i64 c, .int .i64 d, .int .i64 s] 25)
  obtain ⟨d0, d1, d2, d3, d4⟩ := blk5 j2
  have i2 := Blk.new w2 #[.int .i64 a, .int .i64 b, .int .i64 c, .int .i64 d, .int .i64 s] 25
  have t2 := t1.trans (hb2.mono t1.size)
  have t3 := t2.alloc t2.size (.cells #[.int .i64 a, .int .i64 b, .int .i64 c, .int .i64 d, .int .i64 s] 25)
  go_wp2_with fail
  generalize bits BinOp.and IntKind.i64 a 1023 = a' at *
  generalize bits BinOp.and IntKind.i64 b 1023 = b' at *
  generalize bits BinOp.and IntKind.i64 c 1023 = c' at *
  generalize bits BinOp.and IntKind.i64 d 1023 = d' at *
  refine (times_any _ _ _ _ _ _).mono ?_; rintro e w3 ⟨rfl, hb3⟩
  have i3 := (i2.below hb3 i2.lt).alloc (.cells #[.int .i64 a', .int .i64 b', .int .i64 c', .int .i64 d', .int .i64 s] 25)
  have k3 := Blk.new w3 #[.int .i64 a', .int .i64 b', .int .i64 c', .int .i64 d', .int .i64 s] 25
  have t4 := t3.trans (hb3.mono t3.size)
  have t5 := t4.alloc t4.size (.cells #[.int .i64 a', .int .i64 b', .int .i64 c', .int .i64 d', .int .i64 s] 25)
  obtain ⟨e0, e1, e2, e3, e4⟩ := blk5 i3
  obtain ⟨g0, g1, g2, g3, g4⟩ := blk5 k3
  go_wp2_with fail
  generalize (w3.alloc (Obj.cells #[Value.int IntKind.i64 a', Value.int IntKind.i64 b', Value.int IntKind.i64 c', Value.int IntKind.i64 d', Value.int IntKind.i64 s] 25)) = w4 at *
  have f0 := After.cell e0
  have f1 := After.cell e1
  have f2 := After.cell e2
  have f3 := After.cell e3
  have f4 := After.cell e4
  have h0 := After.cell g0
  have h1 := After.cell g1
  have h2 := After.cell g2
  have h3 := After.cell g3
  have h4 := After.cell g4
  clear c0 c1 c2 c3 c4 d0 d1 d2 d3 d4 e0 e1 e2 e3 e4 g0 g1 g2 g3 g4
  refine wp_region_after (by kernel_rfl) (by kernel_rfl) ?_
  repeat (go_big_quiet_step (first | (go_at_call 19; exact After.call (Shift_v _ _ _ _ _ _ _ _)) | (go_at_call 20; exact After.call (RShift_v _ _ _ _ _ _ _ _))))
  refine wpQuiet_nil ?_
  rintro w5 ⟨x, rfl⟩
  go_wp2_with fail
  go_ret
  exact ⟨rfl, t5.trans (x.hb.mono t5.size)⟩

set_option maxRecDepth 100000 in
theorem lifted (os : Os) (started : os.Started) (H : Type) (enc : TypeId × Value → H) :
    ReturnsInHanded {} Try.checked os 8 .any (Rows.stageShiftSpec.pre6 enc Try.prog Try.f8 Rows.stageShiftRow.domain false) (Rows.stageShiftSpec.post enc Try.prog Try.f8 false true false false) := by
  refine returnsInHanded_of_change (C := Try.checked) law_own started (by kernel_rfl) Try.func8
    (ChangeSpec.witness6 (enc := enc) (C := Try.checked) false ⟨#[], #[.agg #[.int .i64 0, .int .i64 0, .int .i64 0, .int .i64 0, .int .i64 0], .int .i64 0, .int .i64 0], []⟩ 8 (by kernel_rfl) (by kernel_rfl) (by kernel_rfl) (by kernel_rfl)) ?_
  intro W base args ds gs before hval0 hW _ _
  have hval : ∀ (j : Nat) t v, Try.f8.params[j]? = some t → args[j]? = some v → Value.okWide Try.prog W .any base t v := hval0
  have hWk : DataW.Whole enc Try.prog Try.f8.params.toList Rows.stageShiftSpec.vars false W args.toList ds gs before := hW
  obtain ⟨p, q, hA0, hV, rfl, _, _⟩ := hW
  have hA : DataW.TrodAll enc Try.prog W 0 (fun _ => true) true Try.f8.params.toList args.toList ds p := hA0
  rw [Try.params8] at hA hval
  obtain ⟨v0, vs0, d0, ds0, p0, q0, hargs, rfl, rfl, h0, r0⟩ := trodAll_cons hA
  obtain ⟨v1, vs1, d1, ds1, p1, q1, rfl, rfl, rfl, h1, r1⟩ := trodAll_cons r0
  obtain ⟨v2, vs2, d2, ds2, p2, q2, rfl, rfl, rfl, h2, r2⟩ := trodAll_cons r1
  obtain ⟨rfl, rfl, rfl⟩ := trodAll_nil r2
  obtain rfl : args = #[v0, v1, v2] := by cases args; simp_all
  obtain ⟨rfl, rfl⟩ := trodVars_none hV
  obtain ⟨zs0, l0, rfl, w0⟩ := open_int_array Try.underlying22 Try.underlying3 (by kernel_rfl) (by kernel_rfl) (hval 0 22 v0 rfl rfl) h0
  obtain ⟨x0_0, x0_1, x0_2, x0_3, x0_4, rfl⟩ := list5 l0
  obtain ⟨a1, rfl, _, _, w1⟩ := open_int Try.underlying3 (hval 1 3 v1 rfl rfl) h1
  obtain ⟨a2, rfl, _, _, w2⟩ := open_int Try.underlying3 (hval 2 3 v2 rfl rfl) h2
  clear hA0 hval0
  refine (walk x0_0 x0_1 x0_2 x0_3 x0_4 a1 a2 W).mono fun e W' ⟨he, hb⟩ => ?_
  exact ⟨_, he, law_post law_laid rfl (by rw [Try.params8]; decide +kernel) (by kernel_rfl) Try.underlying4 rfl hWk hb⟩

theorem holds : Rows.StageShiftSaid :=
  OpenClaim.holds_of_wide 8 Try.f8 rfl rfl rfl rfl rfl rfl rfl ⟨rfl, rfl, rfl, rfl, rfl⟩ rfl rfl rfl rfl rfl (by kernel_rfl) Try.func8 (by kernel_rfl)
    (of_decide_eq_true (by kernel_rfl)) (by unfold Func.isWrapper; first | (rw [if_pos (by decide +kernel)]; kernel_rfl) | (rw [if_neg (by decide +kernel)]; exact ⟨rfl, rfl⟩))
    (fun os started H enc _ => lifted os started H enc)

end Go.Proofs.Ytonhhonhcgfcaaa.LShift

namespace Go.Proofs.Ytonhhonhcgfcaaa
/-- The statement. -/
theorem stageShift_holds : Rows.StageShiftSaid := LShift.holds
end Go.Proofs.Ytonhhonhcgfcaaa
