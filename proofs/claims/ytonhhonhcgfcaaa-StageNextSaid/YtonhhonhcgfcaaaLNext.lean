/- StageNext: at the time that Next returns the stage is a later one, and from now on until then it is the same, for any times; no condition. -/
import Derived.Test.YtonhhonhcgfcaaaSanity
import Derived.Test.YtonhhonhcgfcaaaPure
import Derived.Test.YtonhhonhcgfcaaaLaw
namespace Go.Proofs.Ytonhhonhcgfcaaa.LNext
open Go.ChangeShapes Go.WideShapes Go.ChangeAt Go.RowKit Go.Shelf

set_option maxRecDepth 100000 in
set_option maxHeartbeats 1000000 in
/-- Next says that there is none. -/
theorem walk_none (a b c d s x y p : Int) (hp : (p == 6) = true ∨ (p == 6) = false ∧ (p == 5) = true)
    (S1 : ∀ w : World, Calls Try.prog 15 #[T5 a b c d s, .int .i64 x] w fun e w' => e = .returned (.int .i64 p) ∧ Below w.heap.size w w')
    (N1 : ∀ w : World, Calls Try.prog 13 #[T5 a b c d s, .int .i64 x] w fun e w' => e = .returned (.tuple #[.int .i64 0, .bool false]) ∧ Below w.heap.size w w') (w : World) :
    Calls Try.prog 5 #[T5 a b c d s, .int .i64 x, .int .i64 y] w fun e w' => e = .returned (.bool true) ∧ Below w.heap.size w w' := by
  have HS1 := Lib.hid S1
  have HN1 := Lib.hid N1
  clear S1 N1
  rcases hp with hp | ⟨hp, hp'⟩
  all_goals
    go_enter Try.func5, Try.ntmps5
    go_wp2_with fail
    refine (sanity_any _).mono ?_; rintro e w1 ⟨rfl, hb1⟩
    have j1 := (Blk.new w #[.int .i64 a, .int .i64 b, .int .i64 c, .int .i64 d, .int .i64 s] 22).below hb1 (by simp)
    obtain ⟨c0, c1, c2, c3, c4⟩ := blk5 j1
    go_wp2_with fail
    refine (times_any _ _ _ _ _ _).mono ?_; rintro e w2 ⟨rfl, hb2⟩
    have j2 := Blk.new w2 #[.int .i64 a, .int .i64 b, .int .i64 c, .int .i64 d, .int .i64 s] 25
    obtain ⟨d0, d1, d2, d3, d4⟩ := blk5 j2
    have t1 := ((Below.refl w.heap.size w).alloc (Nat.le_refl _) (.cells #[.int .i64 a, .int .i64 b, .int .i64 c, .int .i64 d, .int .i64 s] 22)).trans (hb1.mono (by simp))
    have t2 := t1.trans (hb2.mono t1.size)
    have t3 := t2.alloc t2.size (.cells #[.int .i64 a, .int .i64 b, .int .i64 c, .int .i64 d, .int .i64 s] 25)
    go_wp2_with fail
    refine (HS1.out _).mono ?_; rintro e w3 ⟨rfl, hb3⟩
    have j3 := j2.below hb3 j2.lt
    obtain ⟨e0, e1, e2, e3, e4⟩ := blk5 j3
    have t4 := t3.trans (hb3.mono t3.size)
    go_wp2_with fail
    refine (HN1.out _).mono ?_; rintro e w4 ⟨rfl, hb4⟩
    have t5 := t4.trans (hb4.mono t4.size)
    go_wp2_with fail
    go_ret
    exact ⟨rfl, t5⟩

set_option maxRecDepth 100000 in
set_option maxHeartbeats 1000000 in
/-- Next says that there is one. -/
theorem walk_some (a b c d s x y n p q : Int) (hxn : x < n) (hn1 : -9223372036854775808 ≤ x) (hn2 : n ≤ 9223372036854775807) (hpq : p < q)
    (S1 : ∀ w : World, Calls Try.prog 15 #[T5 a b c d s, .int .i64 x] w fun e w' => e = .returned (.int .i64 p) ∧ Below w.heap.size w w')
    (N1 : ∀ w : World, Calls Try.prog 13 #[T5 a b c d s, .int .i64 x] w fun e w' => e = .returned (.tuple #[.int .i64 n, .bool true]) ∧ Below w.heap.size w w')
    (S2 : ∀ w : World, Calls Try.prog 15 #[T5 a b c d s, .int .i64 n] w fun e w' => e = .returned (.int .i64 q) ∧ Below w.heap.size w w')
    (S3 : ∀ w : World, Calls Try.prog 15 #[T5 a b c d s, .int .i64 (n - 1)] w fun e w' => e = .returned (.int .i64 p) ∧ Below w.heap.size w w')
    (S4 : x ≤ y → y < n → ∀ w : World, Calls Try.prog 15 #[T5 a b c d s, .int .i64 y] w fun e w' => e = .returned (.int .i64 p) ∧ Below w.heap.size w w') (w : World) :
    Calls Try.prog 5 #[T5 a b c d s, .int .i64 x, .int .i64 y] w fun e w' => e = .returned (.bool true) ∧ Below w.heap.size w w' := by
  have HS1 := Lib.hid S1
  have HN1 := Lib.hid N1
  have HS2 := Lib.hid S2
  have HS3 := Lib.hid S3
  have HS4 := Lib.hid S4
  clear S1 N1 S2 S3 S4
  have g1 : -9223372036854775808 ≤ n - 1 := by omega
  have g2 : n - 1 ≤ 9223372036854775807 := by omega
  have g3 : decide (n ≤ x) = false := by simp; omega
  have g4 : decide (q ≤ p) = false := by simp; omega
  go_enter Try.func5, Try.ntmps5
  go_wp2_with fail
  refine (sanity_any _).mono ?_; rintro e w1 ⟨rfl, hb1⟩
  have j1 := (Blk.new w #[.int .i64 a, .int .i64 b, .int .i64 c, .int .i64 d, .int .i64 s] 22).below hb1 (by simp)
  obtain ⟨c0, c1, c2, c3, c4⟩ := blk5 j1
  go_wp2_with fail
  refine (times_any _ _ _ _ _ _).mono ?_; rintro e w2 ⟨rfl, hb2⟩
  have j2 := Blk.new w2 #[.int .i64 a, .int .i64 b, .int .i64 c, .int .i64 d, .int .i64 s] 25
  obtain ⟨d0, d1, d2, d3, d4⟩ := blk5 j2
  have t1 := ((Below.refl w.heap.size w).alloc (Nat.le_refl _) (.cells #[.int .i64 a, .int .i64 b, .int .i64 c, .int .i64 d, .int .i64 s] 22)).trans (hb1.mono (by simp))
  have t2 := t1.trans (hb2.mono t1.size)
  have t3 := t2.alloc t2.size (.cells #[.int .i64 a, .int .i64 b, .int .i64 c, .int .i64 d, .int .i64 s] 25)
  go_wp2_with fail
  refine (HS1.out _).mono ?_; rintro e w3 ⟨rfl, hb3⟩
  have j3 := j2.below hb3 j2.lt
  obtain ⟨e0, e1, e2, e3, e4⟩ := blk5 j3
  have t4 := t3.trans (hb3.mono t3.size)
  go_wp2_with fail
  refine (HN1.out _).mono ?_; rintro e w4 ⟨rfl, hb4⟩
  have j4 := j3.below hb4 j3.lt
  obtain ⟨f0, f1, f2, f3, f4⟩ := blk5 j4
  have t5 := t4.trans (hb4.mono t4.size)
  go_wp2_with fail
  refine (HS2.out _).mono ?_; rintro e w5 ⟨rfl, hb5⟩
  have j5 := j4.below hb5 j4.lt
  obtain ⟨k0, k1, k2, k3, k4⟩ := blk5 j5
  have t6 := t5.trans (hb5.mono t5.size)
  go_wp2_with fail
  refine (HS3.out _).mono ?_; rintro e w6 ⟨rfl, hb6⟩
  have j6 := j5.below hb6 j5.lt
  obtain ⟨l0, l1, l2, l3, l4⟩ := blk5 j6
  have t7 := t6.trans (hb6.mono t6.size)
  by_cases h1 : y < x
  · go_wp2_with fail
    go_ret
    exact ⟨rfl, t7⟩
  · by_cases h2 : n ≤ y
    · go_wp2_with fail
      go_ret
      exact ⟨rfl, t7⟩
    · have HS5 := Lib.hid (HS4.out (by omega) (by omega))
      go_wp2_with fail
      refine (HS5.out _).mono ?_; rintro e w7 ⟨rfl, hb7⟩
      have t8 := t7.trans (hb7.mono t7.size)
      go_wp2_with fail
      go_ret
      exact ⟨rfl, t8⟩

theorem ends_at {a b c d s : Int} (ha : I64 a) (hb : I64 b) (hc : I64 c) (hd : I64 d) (_ : I64 s) : ∀ x ∈ allEnds a b c d s, x.2.at_ ≤ 9223372036854775807 := by
  intro x hx
  have h5 : (sumE d s).at_ ≤ 9223372036854775807 := by
    unfold sumE; split
    · simp
    · split
      · simp
      · rename_i h1 h2; simp; omega
  simp only [allEnds, List.mem_cons, List.not_mem_nil, or_false] at hx
  rcases hx with rfl | rfl | rfl | rfl | rfl
  · exact ha.2
  · exact hb.2
  · exact hc.2
  · exact hd.2
  · exact h5

theorem walk (a b c d s x y : Int) (ha : I64 a) (hb : I64 b) (hc : I64 c) (hd : I64 d) (hs : I64 s) (hx : I64 x) (w : World) :
    Calls Try.prog 5 #[T5 a b c d s, .int .i64 x, .int .i64 y] w fun e w' => e = .returned (.bool true) ∧ Below w.heap.size w w' := by
  have S1 := Stage_any a b c d s x hd hs
  have N1 := Next_any a b c d s x hd hs
  cases hbey : (findR a b c d s x).2.bey with
  | true =>
    have hN : nextR a b c d s x = (0, false) := by unfold nextR; rw [hbey]; rfl
    rw [hN] at N1
    refine walk_none a b c d s x y _ ?_ S1 N1 w
    rcases findR_bey hbey with h | h
    · left; rw [h]; rfl
    · right; rw [h]; exact ⟨rfl, rfl⟩
  | false =>
    have hN : nextR a b c d s x = ((findR a b c d s x).2.at_, true) := by unfold nextR; rw [hbey]; rfl
    rw [hN] at N1
    obtain ⟨h1, h2, h3⟩ := findR_until hbey
    have hn2 : (findR a b c d s x).2.at_ ≤ 9223372036854775807 := by
      rcases findR_cases a b c d s x with h | ⟨h, _⟩
      · rw [h] at hbey; cases hbey
      · exact ends_at ha hb hc hd hs _ h
    refine walk_some a b c d s x y _ _ _ h1 hx.1 hn2 h3 S1 N1 (Stage_any a b c d s _ hd hs) ?_ ?_ w
    · have := Stage_any a b c d s ((findR a b c d s x).2.at_ - 1) hd hs
      rw [h2 ((findR a b c d s x).2.at_ - 1) (by omega) (by omega)] at this
      exact this
    · intro h4 h5
      have := Stage_any a b c d s y hd hs
      rw [h2 y h4 h5] at this
      exact this

set_option maxRecDepth 100000 in
theorem lifted (os : Os) (started : os.Started) (H : Type) (enc : TypeId × Value → H) :
    ReturnsInHanded {} Try.checked os 5 .any (Rows.stageNextSpec.pre6 enc Try.prog Try.f5 Rows.stageNextRow.domain false) (Rows.stageNextSpec.post enc Try.prog Try.f5 false true false false) := by
  refine returnsInHanded_of_change (C := Try.checked) law_own started (by kernel_rfl) Try.func5
    (ChangeSpec.witness6 (enc := enc) (C := Try.checked) false ⟨#[], #[.agg #[.int .i64 0, .int .i64 0, .int .i64 0, .int .i64 0, .int .i64 0], .int .i64 0, .int .i64 0], []⟩ 8 (by kernel_rfl) (by kernel_rfl) (by kernel_rfl) (by kernel_rfl)) ?_
  intro W base args ds gs before hval0 hW _ _
  have hval : ∀ (j : Nat) t v, Try.f5.params[j]? = some t → args[j]? = some v → Value.okWide Try.prog W .any base t v := hval0
  have hWk : DataW.Whole enc Try.prog Try.f5.params.toList Rows.stageNextSpec.vars false W args.toList ds gs before := hW
  obtain ⟨p, q, hA0, hV, rfl, _, _⟩ := hW
  have hA : DataW.TrodAll enc Try.prog W 0 (fun _ => true) true Try.f5.params.toList args.toList ds p := hA0
  rw [Try.params5] at hA hval
  obtain ⟨v0, vs0, d0, ds0, p0, q0, hargs, rfl, rfl, h0, r0⟩ := trodAll_cons hA
  obtain ⟨v1, vs1, d1, ds1, p1, q1, rfl, rfl, rfl, h1, r1⟩ := trodAll_cons r0
  obtain ⟨v2, vs2, d2, ds2, p2, q2, rfl, rfl, rfl, h2, r2⟩ := trodAll_cons r1
  obtain ⟨rfl, rfl, rfl⟩ := trodAll_nil r2
  obtain rfl : args = #[v0, v1, v2] := by cases args; simp_all
  obtain ⟨rfl, rfl⟩ := trodVars_none hV
  obtain ⟨zs0, l0, rfl, w0⟩ := open_int_array Try.underlying22 Try.underlying3 (by kernel_rfl) (by kernel_rfl) (hval 0 22 v0 rfl rfl) h0
  obtain ⟨x0_0, x0_1, x0_2, x0_3, x0_4, rfl⟩ := list5 l0
  obtain ⟨a1, rfl, _, _, w1⟩ := open_int Try.underlying3 (hval 1 3 v1 rfl rfl) h1
  obtain ⟨a2, rfl, _, _, w2⟩ := open_int Try.underlying3 (hval 2 3 v2 rfl rfl) h2
  clear hA0 hval0
  refine (walk x0_0 x0_1 x0_2 x0_3 x0_4 a1 a2 (wf_i64 (w0 x0_0 (by simp))) (wf_i64 (w0 x0_1 (by simp))) (wf_i64 (w0 x0_2 (by simp))) (wf_i64 (w0 x0_3 (by simp))) (wf_i64 (w0 x0_4 (by simp))) (wf_i64 w1) W).mono fun e W' ⟨he, hb⟩ => ?_
  exact ⟨_, he, law_post law_laid rfl (by rw [Try.params5]; decide +kernel) (by kernel_rfl) Try.underlying4 rfl hWk hb⟩

theorem holds : Rows.StageNextSaid :=
  OpenClaim.holds_of_wide 5 Try.f5 rfl rfl rfl rfl rfl rfl rfl ⟨rfl, rfl, rfl, rfl, rfl⟩ rfl rfl rfl rfl rfl (by kernel_rfl) Try.func5 (by kernel_rfl)
    (of_decide_eq_true (by kernel_rfl)) (by unfold Func.isWrapper; first | (rw [if_pos (by decide +kernel)]; kernel_rfl) | (rw [if_neg (by decide +kernel)]; exact ⟨rfl, rfl⟩))
    (fun os started H enc _ => lifted os started H enc)

end Go.Proofs.Ytonhhonhcgfcaaa.LNext

namespace Go.Proofs.Ytonhhonhcgfcaaa
/-- The statement. -/
theorem stageNext_holds : Rows.StageNextSaid := LNext.holds
end Go.Proofs.Ytonhhonhcgfcaaa
