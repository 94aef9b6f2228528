/- Plain words for the stages' proofs: the ends of stages, sums of times, what a round over the ends keeps. -/
import Derived.Test.YtonhhonhcgfcaaaKit
namespace Go.Proofs.Ytonhhonhcgfcaaa
open Go.RowKit Go.Shelf

structure En where
  at_ : Int
  bey : Bool
  bel : Bool

abbrev En.enc (e : En) : Value := .agg #[.int .i64 e.at_, .bool e.bey, .bool e.bel]
abbrev T5 (a b c d e : Int) : Value := .agg #[.int .i64 a, .int .i64 b, .int .i64 c, .int .i64 d, .int .i64 e]

def sumE (a b : Int) : En :=
  if 0 < b ∧ 9223372036854775807 - b < a then ⟨0, true, false⟩
  else if b < 0 ∧ a < -9223372036854775808 - b then ⟨0, false, true⟩
  else ⟨a + b, false, false⟩

theorem sumE_hi {a b : Int} (h1 : 0 < b) (h2 : 9223372036854775807 - b < a) : sumE a b = ⟨0, true, false⟩ := by
  unfold sumE; rw [if_pos ⟨h1, h2⟩]
theorem sumE_lo {a b : Int} (h1 : b < 0) (h2 : a < -9223372036854775808 - b) : sumE a b = ⟨0, false, true⟩ := by
  unfold sumE; rw [if_neg (by omega), if_pos ⟨h1, h2⟩]
theorem sumE_mid {a b : Int} (h1 : ¬ (0 < b ∧ 9223372036854775807 - b < a)) (h2 : ¬ (b < 0 ∧ a < -9223372036854775808 - b)) : sumE a b = ⟨a + b, false, false⟩ := by
  unfold sumE; rw [if_neg h1, if_neg h2]

set_option maxHeartbeats 400000 in
theorem times_any (a b c d e : Int) (w : World) :
    Calls Try.prog 12 #[T5 a b c d e] w fun r w' => r = .returned (T5 a b c d e) ∧ Below w.heap.size w w' := by
  go_enter Try.func12, Try.ntmps12
  go_wp2
  refine bodyPost_ret (v := T5 a b c d e) (by simp [results, Try.results12, go_sem]) rfl ⟨rfl, ?_⟩
  exact ((Below.refl _ _).alloc (Nat.le_refl _) _).alloc (by simp) _

set_option maxHeartbeats 400000 in
theorem sum_any (a b : Int) (w : World) (ha : -9223372036854775808 ≤ a) (ha' : a ≤ 9223372036854775807) (hb : -9223372036854775808 ≤ b) (hb' : b ≤ 9223372036854775807) :
    Calls Try.prog 29 #[.int .i64 a, .int .i64 b] w fun e w' => e = .returned (sumE a b).enc ∧ w.alloc (.cells #[.int .i64 (sumE a b).at_, .bool (sumE a b).bey, .bool (sumE a b).bel] 42) = w' := by
  by_cases h1 : 0 < b
  · by_cases h2 : 9223372036854775807 - b < a
    · have H := Lib.hid (sumE_hi h1 h2)
      go_enter Try.func29, Try.ntmps29
      go_wp2
      exact bodyPost_ret (v := (sumE a b).enc) (by rw [H.out]; simp [results, Try.results29, go_sem]) rfl ⟨rfl, by rw [H.out]⟩
    · have h3 : ¬ b < 0 := by omega
      have H := Lib.hid (@sumE_mid a b (by omega) (by omega))
      go_enter Try.func29, Try.ntmps29
      go_wp2
      exact bodyPost_ret (v := (sumE a b).enc) (by rw [H.out]; simp [results, Try.results29, go_sem]) rfl ⟨rfl, by rw [H.out]⟩
  · by_cases h2 : b < 0
    · by_cases h3 : a < -9223372036854775808 - b
      · have H := Lib.hid (sumE_lo h2 h3)
        go_enter Try.func29, Try.ntmps29
        go_wp2
        exact bodyPost_ret (v := (sumE a b).enc) (by rw [H.out]; simp [results, Try.results29, go_sem]) rfl ⟨rfl, by rw [H.out]⟩
      · have H := Lib.hid (@sumE_mid a b (by omega) (by omega))
        go_enter Try.func29, Try.ntmps29
        go_wp2
        exact bodyPost_ret (v := (sumE a b).enc) (by rw [H.out]; simp [results, Try.results29, go_sem]) rfl ⟨rfl, by rw [H.out]⟩
    · have H := Lib.hid (@sumE_mid a b (by omega) (by omega))
      go_enter Try.func29, Try.ntmps29
      go_wp2
      exact bodyPost_ret (v := (sumE a b).enc) (by rw [H.out]; simp [results, Try.results29, go_sem]) rfl ⟨rfl, by rw [H.out]⟩

/-- The five ends, with their numbers. -/
def allEnds (a b c d s : Int) : List (Int × En) := [(1, ⟨a, false, false⟩), (2, ⟨b, false, false⟩), (3, ⟨c, false, false⟩), (4, ⟨d, false, false⟩), (5, sumE d s)]
abbrev encKE (x : Int × En) : Array Value := #[.int .i64 x.1, x.2.enc]

/-- A stage's end lies behind a time. -/
def hit (now : Int) (e : En) : Bool := e.bey || (!e.bel && decide (now < e.at_))
def findR (a b c d s now : Int) : Int × En := ((allEnds a b c d s).find? fun y => hit now y.2).getD (6, ⟨0, true, false⟩)

theorem find_some {L q : List (Int × En)} {y : Int × En} {p : Int × En → Bool} (h : (q ++ [y]) <+: L) (hq : ∀ z ∈ q, p z = false) (hy : p y = true) : L.find? p = some y := by
  obtain ⟨r, rfl⟩ := h
  rw [List.append_assoc, List.find?_append, List.find?_eq_none.2 (fun z hz => by simp [hq z hz])]
  simp [hy]
theorem find_none {L : List (Int × En)} {p : Int × En → Bool} (hq : ∀ z ∈ L, p z = false) : L.find? p = none := List.find?_eq_none.2 (fun z hz => by simp [hq z hz])

end Go.Proofs.Ytonhhonhcgfcaaa
