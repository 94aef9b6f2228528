/- StageGrows: for any times and two numbers, the stage at the greater one is not less than that at the smaller one, and both are from 1 to 6; no condition. -/
import Derived.Test.YtonhhonhcgfcaaaSanity
import Derived.Test.YtonhhonhcgfcaaaPure
import Derived.Test.YtonhhonhcgfcaaaLaw
namespace Go.Proofs.Ytonhhonhcgfcaaa.LGrows
open Go.ChangeShapes Go.WideShapes Go.ChangeAt Go.RowKit Go.Shelf

theorem s5_keep {w W w1 : World} {B : Nat} {x0 x1 x2 x3 x4 : Value} (h : (W.cell? ⟨B, 0, none⟩ = some x0 ∧ W.cell? ⟨B, 1, none⟩ = some x1 ∧ W.cell? ⟨B, 2, none⟩ = some x2 ∧ W.cell? ⟨B, 3, none⟩ = some x3 ∧ W.cell? ⟨B, 4, none⟩ = some x4) ∧ Below w.heap.size w W)
    (hb : Below W.heap.size W w1) : (w1.cell? ⟨B, 0, none⟩ = some x0 ∧ w1.cell? ⟨B, 1, none⟩ = some x1 ∧ w1.cell? ⟨B, 2, none⟩ = some x2 ∧ w1.cell? ⟨B, 3, none⟩ = some x3 ∧ w1.cell? ⟨B, 4, none⟩ = some x4) ∧ Below w.heap.size w w1 :=
  have hk := keepCells hb
  ⟨⟨hk _ _ h.1.1, hk _ _ h.1.2.1, hk _ _ h.1.2.2.1, hk _ _ h.1.2.2.2.1, hk _ _ h.1.2.2.2.2⟩, h.2.trans (hb.mono h.2.size)⟩

set_option maxRecDepth 100000 in
set_option maxHeartbeats 1000000 in
theorem walk0 (a b c d s x y m n : Int) (hd : I64 d) (hs : I64 s) (hm : m = if y < x then y else x) (hn : n = if x < y then y else x) (w : World) :
    Calls Try.prog 4 #[T5 a b c d s, .int .i64 x, .int .i64 y] w fun e w' => e = .returned (.bool true) ∧ Below w.heap.size w w' := by
  have hmn : m ≤ n := by subst hm; subst hn; split <;> split <;> omega
  have h1 := findR_range a b c d s m
  have h2 := findR_range a b c d s n
  have h3 := findR_mono (a := a) (b := b) (c := c) (d := d) (s := s) hmn
  have hmin : ∀ (w : World) (ts : Array TypeId) (t : TypeId), (Builtin.min_ ts t #[.int .i64 x, .int .i64 y]).run Try.prog w = .ok (.int .i64 m) w := fun w ts t => by rw [run_min_int2, hm]
  have hmax : ∀ (w : World) (ts : Array TypeId) (t : TypeId), (Builtin.max_ ts t #[.int .i64 x, .int .i64 y]).run Try.prog w = .ok (.int .i64 n) w := fun w ts t => by rw [run_max_int2, hn]
  clear hmn hm hn
  obtain ⟨p1, p2⟩ := h1
  obtain ⟨q1, q2⟩ := h2
  go_enter Try.func4, Try.ntmps4
  go_wp2_with fail
  refine (sanity_any _).mono ?_; rintro e w1 ⟨rfl, hb1⟩
  have j1 := (Blk.new w #[.int .i64 a, .int .i64 b, .int .i64 c, .int .i64 d, .int .i64 s] 22).below hb1 (by simp)
  obtain ⟨c0, c1, c2, c3, c4⟩ := blk5 j1
  go_wp2_with fail
  refine (times_any _ _ _ _ _ _).mono ?_; rintro e w2 ⟨rfl, hb2⟩
  have j2 := Blk.new w2 #[.int .i64 a, .int .i64 b, .int .i64 c, .int .i64 d, .int .i64 s] 25
  obtain ⟨d0, d1, d2, d3, d4⟩ := blk5 j2
  have t1 := ((Below.refl w.heap.size w).alloc (Nat.le_refl _) (.cells #[.int .i64 a, .int .i64 b, .int .i64 c, .int .i64 d, .int .i64 s] 22)).trans (hb1.mono (by simp))
  have t2 := t1.trans (hb2.mono t1.size)
  have t3 := t2.alloc t2.size (.cells #[.int .i64 a, .int .i64 b, .int .i64 c, .int .i64 d, .int .i64 s] 25)
  go_wp2_with fail
  go_upto_region 3 with fail
  go_cut [9, 10] (fun v u wr => v = .int .i64 (findR a b c d s m).1 ∧ u = .int .i64 (findR a b c d s n).1 ∧ Below w.heap.size w wr)
  case first =>
    go_region_held3 (fun w' => (w'.cell? ⟨w2.heap.size, 0, none⟩ = some (.int .i64 a) ∧ w'.cell? ⟨w2.heap.size, 1, none⟩ = some (.int .i64 b) ∧ w'.cell? ⟨w2.heap.size, 2, none⟩ = some (.int .i64 c) ∧ w'.cell? ⟨w2.heap.size, 3, none⟩ = some (.int .i64 d) ∧ w'.cell? ⟨w2.heap.size, 4, none⟩ = some (.int .i64 s)) ∧ Below w.heap.size w w')
      (first | assumption | exact ⟨⟨d0, d1, d2, d3, d4⟩, t3.drew⟩ | (refine s5_keep ?_ hb; assumption))
      (first | (go_at_call 15; refine (Stage_any a b c d s _ hd hs _).mono ?_; rintro e w3 ⟨rfl, hb⟩))
    all_goals (go_wp2_with fail; go_meet)
    all_goals (go_split_ands; exact ⟨rfl, rfl, by assumption⟩)
  case rest =>
    obtain ⟨rfl, rfl, hB⟩ := hcut
    clear hmin hmax hd hs
    generalize (findR a b c d s m).1 = p at *
    generalize (findR a b c d s n).1 = q at *
    go_wp2_with fail
    go_ret
    exact ⟨rfl, hB⟩

theorem walk (a b c d s x y : Int) (hd : I64 d) (hs : I64 s) (w : World) :
    Calls Try.prog 4 #[T5 a b c d s, .int .i64 x, .int .i64 y] w fun e w' => e = .returned (.bool true) ∧ Below w.heap.size w w' := walk0 a b c d s x y _ _ hd hs rfl rfl w

set_option maxRecDepth 100000 in
theorem lifted (os : Os) (started : os.Started) (H : Type) (enc : TypeId × Value → H) :
    ReturnsInHanded {} Try.checked os 4 .any (Rows.stageGrowsSpec.pre6 enc Try.prog Try.f4 Rows.stageGrowsRow.domain false) (Rows.stageGrowsSpec.post enc Try.prog Try.f4 false true false false) := by
  refine returnsInHanded_of_change (C := Try.checked) law_own started (by kernel_rfl) Try.func4
    (ChangeSpec.witness6 (enc := enc) (C := Try.checked) false ⟨#[], #[.agg #[.int .i64 0, .int .i64 0, .int .i64 0, .int .i64 0, .int .i64 0], .int .i64 0, .int .i64 0], []⟩ 8 (by kernel_rfl) (by kernel_rfl) (by kernel_rfl) (by kernel_rfl)) ?_
  intro W base args ds gs before hval0 hW _ _
  have hval : ∀ (j : Nat) t v, Try.f4.params[j]? = some t → args[j]? = some v → Value.okWide Try.prog W .any base t v := hval0
  have hWk : DataW.Whole enc Try.prog Try.f4.params.toList Rows.stageGrowsSpec.vars false W args.toList ds gs before := hW
  obtain ⟨p, q, hA0, hV, rfl, _, _⟩ := hW
  have hA : DataW.TrodAll enc Try.prog W 0 (fun _ => true) true Try.f4.params.toList args.toList ds p := hA0
  rw [Try.params4] at hA hval
  obtain ⟨v0, vs0, d0, ds0, p0, q0, hargs, rfl, rfl, h0, r0⟩ := trodAll_cons hA
  obtain ⟨v1, vs1, d1, ds1, p1, q1, rfl, rfl, rfl, h1, r1⟩ := trodAll_cons r0
  obtain ⟨v2, vs2, d2, ds2, p2, q2, rfl, rfl, rfl, h2, r2⟩ := trodAll_cons r1
  obtain ⟨rfl, rfl, rfl⟩ := trodAll_nil r2
  obtain rfl : args = #[v0, v1, v2] := by cases args; simp_all
  obtain ⟨rfl, rfl⟩ := trodVars_none hV
  obtain ⟨zs0, l0, rfl, w0⟩ := open_int_array Try.underlying22 Try.underlying3 (by kernel_rfl) (by kernel_rfl) (hval 0 22 v0 rfl rfl) h0
  obtain ⟨x0_0, x0_1, x0_2, x0_3, x0_4, rfl⟩ := list5 l0
  obtain ⟨a1, rfl, _, _, w1⟩ := open_int Try.underlying3 (hval 1 3 v1 rfl rfl) h1
  obtain ⟨a2, rfl, _, _, w2⟩ := open_int Try.underlying3 (hval 2 3 v2 rfl rfl) h2
  clear hA0 hval0
  refine (walk x0_0 x0_1 x0_2 x0_3 x0_4 a1 a2 (wf_i64 (w0 x0_3 (by simp))) (wf_i64 (w0 x0_4 (by simp))) W).mono fun e W' ⟨he, hb⟩ => ?_
  exact ⟨_, he, law_post law_laid rfl (by rw [Try.params4]; decide +kernel) (by kernel_rfl) Try.underlying4 rfl hWk hb⟩

theorem holds : Rows.StageGrowsSaid :=
  OpenClaim.holds_of_wide 4 Try.f4 rfl rfl rfl rfl rfl rfl rfl ⟨rfl, rfl, rfl, rfl, rfl⟩ rfl rfl rfl rfl rfl (by kernel_rfl) Try.func4 (by kernel_rfl)
    (of_decide_eq_true (by kernel_rfl)) (by unfold Func.isWrapper; first | (rw [if_pos (by decide +kernel)]; kernel_rfl) | (rw [if_neg (by decide +kernel)]; exact ⟨rfl, rfl⟩))
    (fun os started H enc _ => lifted os started H enc)

end Go.Proofs.Ytonhhonhcgfcaaa.LGrows

namespace Go.Proofs.Ytonhhonhcgfcaaa
/-- The statement. -/
theorem stageGrows_holds : Rows.StageGrowsSaid := LGrows.holds
end Go.Proofs.Ytonhhonhcgfcaaa
