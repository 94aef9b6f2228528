/- Plain facts on stages: the stage grows with the time, and from a time on to its stage's end it is the same. -/
import Derived.Test.YtonhhonhcgfcaaaStage
namespace Go.Proofs.Ytonhhonhcgfcaaa

theorem hit_mono {m n : Int} (h : m ≤ n) {e : En} (hn : hit n e = true) : hit m e = true := by
  unfold hit at *
  cases hb : e.bey <;> simp_all
  omega

theorem find_split {L : List (Int × En)} {p : Int × En → Bool} {x : Int × En} (h : L.find? p = some x) : ∃ k, L[k]? = some x ∧ (∀ y ∈ L.take k, p y = false) ∧ p x = true := by
  induction L with
  | nil => simp at h
  | cons y L ih =>
    rw [List.find?_cons] at h
    cases hy : p y with
    | true => rw [hy] at h; cases h; exact ⟨0, rfl, by simp, hy⟩
    | false =>
      rw [hy] at h
      obtain ⟨k, h1, h2, h3⟩ := ih h
      refine ⟨k + 1, by simpa using h1, ?_, h3⟩
      intro z hz
      simp only [List.take_succ_cons, List.mem_cons] at hz
      rcases hz with rfl | hz
      · exact hy
      · exact h2 z hz

theorem ends_num {a b c d s : Int} {k : Nat} {x : Int × En} (h : (allEnds a b c d s)[k]? = some x) : x.1 = (k : Int) + 1 ∧ k < 5 := by
  have hk : k < 5 := (List.getElem?_eq_some_iff.1 h).1
  obtain ⟨e, he⟩ := ends_get (a := a) (b := b) (c := c) (d := d) (s := s) hk
  rw [he] at h; cases h
  exact ⟨rfl, hk⟩

/-- Where nothing is hit up to k, the stage is beyond k. -/
theorem findR_gt {a b c d s now : Int} {k : Nat} (hk : k ≤ 5) (hpre : ∀ y ∈ (allEnds a b c d s).take k, hit now y.2 = false) : (k : Int) + 1 ≤ (findR a b c d s now).1 ∧ (findR a b c d s now).1 ≤ 6 := by
  unfold findR
  cases h : (allEnds a b c d s).find? (fun y => hit now y.2) with
  | none => simp; omega
  | some x =>
    obtain ⟨j, h1, h2, h3⟩ := find_split h
    obtain ⟨h4, h5⟩ := ends_num h1
    simp only [Option.getD_some]
    have : ¬ j < k := fun hlt => by
      have hm : x ∈ (allEnds a b c d s).take k := List.mem_of_getElem? (i := j) (by rw [List.getElem?_take]; simp [hlt, h1])
      rw [hpre x hm] at h3
      cases h3
    omega

theorem findR_range (a b c d s now : Int) : 1 ≤ (findR a b c d s now).1 ∧ (findR a b c d s now).1 ≤ 6 := by
  have := findR_gt (a := a) (b := b) (c := c) (d := d) (s := s) (now := now) (k := 0) (by omega) (by simp)
  simpa using this

theorem findR_mono {a b c d s m n : Int} (h : m ≤ n) : (findR a b c d s m).1 ≤ (findR a b c d s n).1 := by
  have hF := findR_cases a b c d s m
  unfold findR
  cases hm : (allEnds a b c d s).find? (fun y => hit m y.2) with
  | none =>
    have : (allEnds a b c d s).find? (fun y => hit n y.2) = none := by
      rw [List.find?_eq_none] at hm ⊢
      intro x hx hn
      exact hm x hx (by simpa using hit_mono h (by simpa using hn))
    rw [this]; simp
  | some x =>
    obtain ⟨k, h1, h2, h3⟩ := find_split hm
    obtain ⟨h4, h5⟩ := ends_num h1
    have := findR_gt (a := a) (b := b) (c := c) (d := d) (s := s) (now := n) (k := k) (by omega) (fun y hy => by
      cases hh : hit n y.2 with
      | false => rfl
      | true => have := hit_mono h hh; rw [h2 y hy] at this; cases this)
    unfold findR at this
    simp only [Option.getD_some]
    omega

/-- From a time on to the end of its stage the stage is the same; at the end it is a later one. -/
theorem findR_until {a b c d s now : Int} (hb : (findR a b c d s now).2.bey = false) :
    now < (findR a b c d s now).2.at_ ∧ (∀ m, now ≤ m → m < (findR a b c d s now).2.at_ → findR a b c d s m = findR a b c d s now) ∧ (findR a b c d s now).1 < (findR a b c d s (findR a b c d s now).2.at_).1 := by
  unfold findR at hb
  cases hm : (allEnds a b c d s).find? (fun y => hit now y.2) with
  | none => rw [hm] at hb; simp at hb
  | some x =>
    have hx : findR a b c d s now = x := by unfold findR; rw [hm]; rfl
    rw [hx]
    rw [hm] at hb
    simp only [Option.getD_some] at hb
    obtain ⟨k, h1, h2, h3⟩ := find_split hm
    obtain ⟨h4, h5⟩ := ends_num h1
    simp only [hit, hb, Bool.false_or, Bool.and_eq_true, Bool.not_eq_true', decide_eq_true_eq] at h3
    have hno : ∀ m, now ≤ m → ∀ y ∈ (allEnds a b c d s).take k, hit m y.2 = false := fun m hle y hy => by
      cases hh : hit m y.2 with
      | false => rfl
      | true => have := hit_mono hle hh; rw [h2 y hy] at this; cases this
    refine ⟨h3.2, fun m hle hlt => findR_of h1 (hno m hle) (by simp [hit, hb, h3.1, hlt]), ?_⟩
    have := findR_gt (a := a) (b := b) (c := c) (d := d) (s := s) (now := x.2.at_) (k := k + 1) (by omega) (pre_snoc h1 (hno _ (by omega)) (by simp [hit, hb]))
    omega

theorem findR_bey {a b c d s now : Int} (hb : (findR a b c d s now).2.bey = true) : (findR a b c d s now).1 = 6 ∨ (findR a b c d s now).1 = 5 := by
  rcases findR_cases a b c d s now with h | ⟨h, _⟩
  · left; rw [h]
  · right
    generalize findR a b c d s now = x at *
    simp only [allEnds, List.mem_cons, List.not_mem_nil, or_false] at h
    rcases h with rfl | rfl | rfl | rfl | rfl
    all_goals first | rfl | (simp at hb)

end Go.Proofs.Ytonhhonhcgfcaaa
