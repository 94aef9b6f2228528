/- StageOnce: the stages at which a kind is possible follow each other without a gap; no condition. -/
import Derived.Test.YtonhhonhcgfcaaaSanity
import Derived.Test.YtonhhonhcgfcaaaLaw
namespace Go.Proofs.Ytonhhonhcgfcaaa.LOnce
open Go.ChangeShapes Go.WideShapes Go.ChangeAt Go.RowKit Go.Shelf

/-- The law's state behind the first s stages. -/
def stN (kd : Nat) : Nat → Nat
  | 0 => 0
  | s + 1 => if permR s kd = true then 1 else if stN kd s = 1 then 2 else stN kd s
/-- Is any of the first j kinds possible? -/
def anyP (s : Nat) : Nat → Bool
  | 0 => false
  | j + 1 => anyP s j || permR s ((j : Int) + 1)

theorem st_tab : ∀ kd : Nat, kd < 20 → ∀ s : Nat, s < 9 → (stN kd s = 0 ∨ stN kd s = 1 ∨ stN kd s = 2) ∧ ¬ (permR s kd = true ∧ stN kd s = 2) := by decide +kernel
theorem st_end : ∀ kd : Nat, kd < 20 → (decide (0 < stN kd 8) = (decide (1 ≤ kd) && decide (kd ≤ 18))) := by decide +kernel
theorem ev_tab : ∀ s : Nat, s < 8 → (permR s 4 = true ∧ permR s 6 = false ∧ permR s 9 = false ∧ permR s 7 = false) ∨ (permR s 4 = false ∧ permR s 7 = false) ∨ (permR s 4 = false ∧ permR s 7 = true ∧ permR s 9 = false) := by decide +kernel
theorem any_tab : ∀ s : Nat, s < 8 → anyP s 18 = decide (s < 7) := by decide +kernel


theorem st_yes {kd s : Nat} (h : permR s kd = true) : stN kd (s + 1) = 1 := by simp [stN, h]
theorem st_no1 {kd s : Nat} (h : permR s kd = false) (h1 : stN kd s = 1) : stN kd (s + 1) = 2 := by simp [stN, h, h1]
theorem st_no {kd s : Nat} (h : permR s kd = false) (h1 : stN kd s ≠ 1) : stN kd (s + 1) = stN kd s := by simp [stN, h, h1]

set_option maxRecDepth 100000 in
set_option maxHeartbeats 4000000 in
theorem walk (c : Nat) (hc : c ≤ 255) (w : World) :
    Calls Try.prog 7 #[.int .u8 (c : Int)] w fun e w' => e = .returned (.bool true) ∧ Below w.heap.size w w' := by
  have HP := Lib.hid (fun s k w => Permits_any s k w)
  go_enter Try.func7, Try.ntmps7
  go_wp2_with fail
  refine (sanity_any _).mono ?_; rintro e w1 ⟨rfl, hb1⟩
  go_wp2_with fail
  obtain ⟨kd, hkd, hk20⟩ : ∃ kd : Nat, (c : Int) % 20 = (kd : Int) ∧ kd < 20 := ⟨c % 20, by omega, by omega⟩
  rw [hkd]
  have HT := Lib.hid (st_tab kd hk20)
  have HE := Lib.hid (st_end kd hk20)
  clear hkd
  go_loopw [5, 6] (fun st i wr => ∃ (s : Nat) (x : Int), s ≤ 8 ∧ i = .int .i64 s ∧ st = .int .i64 x ∧ Hid (x = ((stN kd s : Nat) : Int)) ∧ Below w.heap.size w wr) (fun _ i _ => 8 - (intOf i).toNat)
  case atStart => exact ⟨0, 0, by omega, rfl, rfl, rfl, hb1⟩
  case round =>
    obtain ⟨s, x, hs, rfl, rfl, HX, hB⟩ := hrel
    by_cases hlt : s < 8
    · obtain ⟨wo, rfl⟩ : ∃ wo : World, wo = wr := ⟨_, rfl⟩
      have hd : decide ((s : Int) < 8) = true := by simp; omega
      obtain ⟨hT1, hT2⟩ := HT.out s (by omega)
      have hany := any_tab s hlt
      have hev := ev_tab s hlt
      have key : ∃ x' : Int, Hid (x' = ((stN kd (s + 1) : Nat) : Int)) ∧ ((permR s kd = true ∧ x' = 1 ∧ (x = 0 ∨ x = 1)) ∨ (permR s kd = false ∧ x = 1 ∧ x' = 2) ∨ (permR s kd = false ∧ x' = x ∧ (x = 0 ∨ x = 2))) := by
        have hx := HX.out
        refine ⟨_, rfl, ?_⟩
        cases hp : permR s kd with
        | true =>
          left
          have : stN kd s ≠ 2 := fun h => hT2 ⟨hp, h⟩
          rw [st_yes hp]
          exact ⟨rfl, rfl, by omega⟩
        | false =>
          right
          by_cases h1 : stN kd s = 1
          · left; rw [st_no1 hp h1]; exact ⟨rfl, by omega, rfl⟩
          · right; rw [st_no hp h1]; exact ⟨rfl, by omega, by omega⟩
      obtain ⟨x', HX', hk⟩ := key
      clear hT1 hT2 HX
      rcases hk with ⟨hp, rfl, rfl | rfl⟩ | ⟨hp, rfl, rfl⟩ | ⟨hp, rfl, rfl | rfl⟩
      all_goals
        rcases hev with ⟨e4, e6, e9, e7⟩ | ⟨e4, e7⟩ | ⟨e4, e7, e9⟩
      all_goals
        have HA := Lib.hid hany
        clear hany
        go_wp2_with (go_at_call 17; refine (HP.out _ _ _).mono ?_; rintro e w2 ⟨rfl, hb2⟩; have hB := hB.trans (hb2.mono hB.size); clear hb2)
        go_loopw [8, 9] (fun b i wr => ∃ (j : Nat), 1 ≤ j ∧ j ≤ 19 ∧ i = .int .i64 j ∧ b = .bool (anyP s (j - 1)) ∧ Below w.heap.size w wr) (fun _ i _ => 19 - (intOf i).toNat)
        case atStart => exact ⟨1, by omega, by omega, rfl, rfl, by assumption⟩
        case round =>
          obtain ⟨j, hj1, hj2, rfl, rfl, hBj⟩ := hrel
          by_cases hj : j < 19
          · have HJ : Hid (anyP s (j + 1 - 1) = (anyP s (j - 1) || permR s j)) := by
              show anyP s (j + 1 - 1) = _
              rw [show j + 1 - 1 = (j - 1) + 1 by omega]
              simp only [anyP]
              rw [show ((j - 1 : Nat) : Int) + 1 = (j : Int) by omega]
            cases hb : anyP s (j - 1) with
            | true =>
              go_wp2_with (go_at_call 17; refine (HP.out _ _ _).mono ?_; rintro e w3 ⟨rfl, hb3⟩)
              go_roundw
              case rel => exact ⟨j + 1, by omega, by omega, by go_num, by rw [HJ.out, hb]; rfl, hBj⟩
              case measure => simp [intOf]; omega
            | false =>
              go_wp2_with (go_at_call 17; refine (HP.out _ _ _).mono ?_; rintro e w3 ⟨rfl, hb3⟩)
              go_roundw
              case rel => exact ⟨j + 1, by omega, by omega, by go_num, by rw [HJ.out, hb]; rfl, hBj.trans (hb3.mono hBj.size)⟩
              case measure => simp [intOf]; omega
          · obtain rfl : j = 19 := by omega
            have hA : anyP s (19 - 1) = decide (s < 7) := HA.out
            rw [hA]
            by_cases h7 : s < 7
            · have h7' : decide (s < 7) = true := by simpa using h7
              have h7'' : decide ((s : Int) < 7) = true := by simp; omega
              rw [h7']
              go_wp2_with fail
              go_roundw
              case rel => exact ⟨s + 1, _, by omega, by go_num, rfl, HX', hBj⟩
              case measure => simp [intOf]; omega
            · have h7' : decide (s < 7) = false := by simpa using h7
              have h7'' : decide ((s : Int) < 7) = false := by simp; omega
              rw [h7']
              go_wp2_with fail
              go_roundw
              case rel => exact ⟨s + 1, _, by omega, by go_num, rfl, HX', hBj⟩
              case measure => simp [intOf]; omega
    · obtain rfl : s = 8 := by omega
      have hE := HE.out
      have hx := HX.out
      have h012 := (HT.out 8 (by omega)).1
      have h8 : (kd = 0 ∧ x = 0) ∨ (kd = 19 ∧ x = 0) ∨ (1 ≤ kd ∧ kd ≤ 18 ∧ (x = 1 ∨ x = 2)) := by
        rw [Bool.eq_iff_iff] at hE
        simp at hE
        omega
      clear hE hx HX HE HT hlt hs HP hk20 hc h012
      rcases h8 with ⟨rfl, rfl⟩ | ⟨rfl, rfl⟩ | ⟨h1, h2, rfl | rfl⟩
      · go_wp2_with fail
        go_ret
        exact ⟨rfl, hB⟩
      · go_wp2_with fail
        go_ret
        exact ⟨rfl, hB⟩
      all_goals
        have h3 : decide ((1 : Int) ≤ (kd : Int)) = true := by simp; omega
        have h4 : decide ((kd : Int) ≤ 18) = true := by simp; omega
        clear h1 h2
        go_wp2_with fail
        go_ret
        exact ⟨rfl, hB⟩
theorem wf_u8 {n : Int} (h : (Lit.int .u8 n).wf = true) : 0 ≤ n ∧ n ≤ 255 := by
  simpa [Lit.wf, IntKind.min, IntKind.max, IntKind.signed, IntKind.bits] using h

set_option maxRecDepth 100000 in
theorem lifted (os : Os) (started : os.Started) (H : Type) (enc : TypeId × Value → H) :
    ReturnsInHanded {} Try.checked os 7 .any (Rows.stageOnceSpec.pre6 enc Try.prog Try.f7 Rows.stageOnceRow.domain false) (Rows.stageOnceSpec.post enc Try.prog Try.f7 false true false false) := by
  refine returnsInHanded_of_change (C := Try.checked) law_own started (by kernel_rfl) Try.func7
    (ChangeSpec.witness6 (enc := enc) (C := Try.checked) false ⟨#[], #[.int .u8 0], []⟩ 8 (by kernel_rfl) (by kernel_rfl) (by kernel_rfl) (by kernel_rfl)) ?_
  intro W base args ds gs before hval0 hW _ _
  have hval : ∀ (j : Nat) t v, Try.f7.params[j]? = some t → args[j]? = some v → Value.okWide Try.prog W .any base t v := hval0
  have hWk : DataW.Whole enc Try.prog Try.f7.params.toList Rows.stageOnceSpec.vars false W args.toList ds gs before := hW
  obtain ⟨p, q, hA0, hV, rfl, _, _⟩ := hW
  have hA : DataW.TrodAll enc Try.prog W 0 (fun _ => true) true Try.f7.params.toList args.toList ds p := hA0
  rw [Try.params7] at hA hval
  obtain ⟨v0, vs0, d0, ds0, p0, q0, hargs, rfl, rfl, h0, r0⟩ := trodAll_cons hA
  obtain ⟨rfl, rfl, rfl⟩ := trodAll_nil r0
  obtain rfl : args = #[v0] := by cases args; simp_all
  obtain ⟨rfl, rfl⟩ := trodVars_none hV
  obtain ⟨a0, rfl, _, _, w0⟩ := open_int Try.underlying5 (hval 0 5 v0 rfl rfl) h0
  clear hA0 hval0
  obtain ⟨hc0, hc1⟩ := wf_u8 w0
  obtain ⟨c, rfl⟩ := Int.eq_ofNat_of_zero_le hc0
  refine (walk c (by omega) W).mono fun e W' ⟨he, hb⟩ => ?_
  exact ⟨_, he, law_post law_laid rfl (by rw [Try.params7]; decide +kernel) (by kernel_rfl) Try.underlying4 rfl hWk hb⟩

theorem holds : Rows.StageOnceSaid :=
  OpenClaim.holds_of_wide 7 Try.f7 rfl rfl rfl rfl rfl rfl rfl ⟨rfl, rfl, rfl, rfl, rfl⟩ rfl rfl rfl rfl rfl (by kernel_rfl) Try.func7 (by kernel_rfl)
    (of_decide_eq_true (by kernel_rfl)) (by unfold Func.isWrapper; first | (rw [if_pos (by decide +kernel)]; kernel_rfl) | (rw [if_neg (by decide +kernel)]; exact ⟨rfl, rfl⟩))
    (fun os started H enc _ => lifted os started H enc)

end Go.Proofs.Ytonhhonhcgfcaaa.LOnce

namespace Go.Proofs.Ytonhhonhcgfcaaa
/-- The statement. -/
theorem stageOnce_holds : Rows.StageOnceSaid := LOnce.holds
end Go.Proofs.Ytonhhonhcgfcaaa
