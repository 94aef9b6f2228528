/- The contract of the reference of Shift, for any times and numbers. -/
import Derived.Test.YtonhhonhcgfcaaaShift
namespace Go.Proofs.Ytonhhonhcgfcaaa
open Go.RowKit Go.Shelf

set_option maxHeartbeats 400000 in
theorem plain_yes (n : Int) (h : okN n) (w : World) : Calls Try.prog 25 #[.int .i64 n] w fun e w' => e = .returned (.bool true) ∧ w = w' := by
  obtain ⟨h0, h1⟩ := h
  go_enter Try.func25, Try.ntmps25
  go_wp2
  go_ret
  exact ⟨rfl, rfl⟩
set_option maxHeartbeats 400000 in
theorem plain_no (n : Int) (h : ¬ okN n) (w : World) : Calls Try.prog 25 #[.int .i64 n] w fun e w' => e = .returned (.bool false) ∧ w = w' := by
  have hy' : n < 0 ∨ 1000000000 < n := by unfold okN at h; omega
  clear h
  rcases hy' with h1 | h1
  · go_enter Try.func25, Try.ntmps25
    go_wp2
    go_ret
    exact ⟨rfl, rfl⟩
  · have h2 : 0 ≤ n := by omega
    have h3 : ¬ n ≤ 1000000000 := by omega
    go_enter Try.func25, Try.ntmps25
    go_wp2
    go_ret
    exact ⟨rfl, rfl⟩

set_option maxHeartbeats 1000000 in
theorem RShift_no (a b c d s f y : Int) (w : World) (h : ¬ okN y ∨ ¬ okN a ∨ ¬ okN b ∨ ¬ okN c ∨ ¬ okN d) :
    Calls Try.prog 20 #[T5 a b c d s, .int .i64 f, .int .i64 y] w fun e w' => e = .returned (shiftR a b c d s f y) ∧ Below w.heap.size w w' := by
  have HN := Lib.hid (shiftR_no (s := s) (f := f) h)
  have hB : Below w.heap.size w ((w.alloc (.cells #[.int .i64 a, .int .i64 b, .int .i64 c, .int .i64 d, .int .i64 s] 25)).alloc (.cells #[.int .i64 a, .int .i64 b, .int .i64 c, .int .i64 d, .int .i64 s] 25)) := ((Below.refl _ w).alloc (Nat.le_refl _) _).alloc (by simp) _
  by_cases h1 : okN y
  · have H1 := Lib.hid (plain_yes y h1)
    by_cases h2 : okN a
    · have H2 := Lib.hid (plain_yes a h2)
      by_cases h3 : okN b
      · have H3 := Lib.hid (plain_yes b h3)
        by_cases h4 : okN c
        · have H4 := Lib.hid (plain_yes c h4)
          have H5 := Lib.hid (plain_no d (fun h5 => by rcases h with h | h | h | h | h <;> exact h (by assumption)))
          clear h h1 h2 h3 h4
          go_enter Try.func20, Try.ntmps20
          go_wp2_with fail
          refine (H1.out _).mono ?_; rintro e w1 ⟨rfl, rfl⟩
          go_wp2_with fail
          refine (H2.out _).mono ?_; rintro e w1 ⟨rfl, rfl⟩
          go_wp2_with fail
          refine (H3.out _).mono ?_; rintro e w1 ⟨rfl, rfl⟩
          go_wp2_with fail
          refine (H4.out _).mono ?_; rintro e w1 ⟨rfl, rfl⟩
          go_wp2_with fail
          refine (H5.out _).mono ?_; rintro e w1 ⟨rfl, rfl⟩
          go_wp2_with fail
          rw [HN.out]
          exact bodyPost_ret (v := T5 a b c d s) (by simp [results, Try.results20, go_sem]) rfl ⟨rfl, hB⟩
        · have H4 := Lib.hid (plain_no c h4)
          clear h h1 h2 h3 h4
          go_enter Try.func20, Try.ntmps20
          go_wp2_with fail
          refine (H1.out _).mono ?_; rintro e w1 ⟨rfl, rfl⟩
          go_wp2_with fail
          refine (H2.out _).mono ?_; rintro e w1 ⟨rfl, rfl⟩
          go_wp2_with fail
          refine (H3.out _).mono ?_; rintro e w1 ⟨rfl, rfl⟩
          go_wp2_with fail
          refine (H4.out _).mono ?_; rintro e w1 ⟨rfl, rfl⟩
          go_wp2_with fail
          rw [HN.out]
          exact bodyPost_ret (v := T5 a b c d s) (by simp [results, Try.results20, go_sem]) rfl ⟨rfl, hB⟩
      · have H3 := Lib.hid (plain_no b h3)
        clear h h1 h2 h3
        go_enter Try.func20, Try.ntmps20
        go_wp2_with fail
        refine (H1.out _).mono ?_; rintro e w1 ⟨rfl, rfl⟩
        go_wp2_with fail
        refine (H2.out _).mono ?_; rintro e w1 ⟨rfl, rfl⟩
        go_wp2_with fail
        refine (H3.out _).mono ?_; rintro e w1 ⟨rfl, rfl⟩
        go_wp2_with fail
        rw [HN.out]
        exact bodyPost_ret (v := T5 a b c d s) (by simp [results, Try.results20, go_sem]) rfl ⟨rfl, hB⟩
    · have H2 := Lib.hid (plain_no a h2)
      clear h h1 h2
      go_enter Try.func20, Try.ntmps20
      go_wp2_with fail
      refine (H1.out _).mono ?_; rintro e w1 ⟨rfl, rfl⟩
      go_wp2_with fail
      refine (H2.out _).mono ?_; rintro e w1 ⟨rfl, rfl⟩
      go_wp2_with fail
      rw [HN.out]
      exact bodyPost_ret (v := T5 a b c d s) (by simp [results, Try.results20, go_sem]) rfl ⟨rfl, hB⟩
  · have H1 := Lib.hid (plain_no y h1)
    clear h h1
    go_enter Try.func20, Try.ntmps20
    go_wp2_with fail
    refine (H1.out _).mono ?_; rintro e w1 ⟨rfl, rfl⟩
    go_wp2_with fail
    rw [HN.out]
    exact bodyPost_ret (v := T5 a b c d s) (by simp [results, Try.results20, go_sem]) rfl ⟨rfl, hB⟩

set_option maxHeartbeats 1000000 in
theorem RShift_yes (a b c d s f y : Int) (w : World) (h1 : okN y) (h2 : okN a) (h3 : okN b) (h4 : okN c) (h5 : okN d) :
    Calls Try.prog 20 #[T5 a b c d s, .int .i64 f, .int .i64 y] w fun e w' => e = .returned (shiftR a b c d s f y) ∧ Below w.heap.size w w' := by
  have HN := Lib.hid (shiftR_yes (s := s) (f := f) h1 h2 h3 h4 h5)
  have H1 := Lib.hid (plain_yes y h1)
  have H2 := Lib.hid (plain_yes a h2)
  have H3 := Lib.hid (plain_yes b h3)
  have H4 := Lib.hid (plain_yes c h4)
  have H5 := Lib.hid (plain_yes d h5)
  obtain ⟨y0, y1⟩ := h1
  obtain ⟨a0, a1⟩ := h2
  obtain ⟨b0, b1⟩ := h3
  obtain ⟨c0, c1⟩ := h4
  obtain ⟨d0, d1⟩ := h5
  have hB : ∀ A B : Array Value, Below w.heap.size w ((w.alloc (.cells A 25)).alloc (.cells B 25)) := fun A B => ((Below.refl _ w).alloc (Nat.le_refl _) _).alloc (by simp) _
  have HB := Lib.hid hB
  clear hB
  by_cases g1 : f ≤ 1
  · have h10 : f ≤ 1 := by omega
    have h11 : f ≤ 2 := by omega
    have h12 : f ≤ 3 := by omega
    have h13 : f ≤ 4 := by omega
    have HV : Hid (T5 (upd f y 1 a) (upd f y 2 b) (upd f y 3 c) (upd f y 4 d) s = T5 (if 1000000000 < a + y then 1000000000 else a + y) (if 1000000000 < b + y then 1000000000 else b + y) (if 1000000000 < c + y then 1000000000 else c + y) (if 1000000000 < d + y then 1000000000 else d + y) s) := by
      show _ = _
      rw [upd_yes (k := 1) (by omega), upd_yes (k := 2) (by omega), upd_yes (k := 3) (by omega), upd_yes (k := 4) (by omega)]
    go_enter Try.func20, Try.ntmps20
    go_wp2_with fail
    refine (H1.out _).mono ?_; rintro e w1 ⟨rfl, rfl⟩
    go_wp2_with fail
    refine (H2.out _).mono ?_; rintro e w1 ⟨rfl, rfl⟩
    go_wp2_with fail
    refine (H3.out _).mono ?_; rintro e w1 ⟨rfl, rfl⟩
    go_wp2_with fail
    refine (H4.out _).mono ?_; rintro e w1 ⟨rfl, rfl⟩
    go_wp2_with fail
    refine (H5.out _).mono ?_; rintro e w1 ⟨rfl, rfl⟩
    go_wp2_with fail
    all_goals
      rw [HN.out, HV.out]
      refine bodyPost_ret (v := T5 (if 1000000000 < a + y then 1000000000 else a + y) (if 1000000000 < b + y then 1000000000 else b + y) (if 1000000000 < c + y then 1000000000 else c + y) (if 1000000000 < d + y then 1000000000 else d + y) s) ?_ rfl ⟨rfl, HB.out _ _⟩
      simp [results, Try.results20, go_sem]
      try omega
  · by_cases g2 : f ≤ 2
    · have h11 : f ≤ 2 := by omega
      have h12 : f ≤ 3 := by omega
      have h13 : f ≤ 4 := by omega
      have HV : Hid (T5 (upd f y 1 a) (upd f y 2 b) (upd f y 3 c) (upd f y 4 d) s = T5 a (if 1000000000 < b + y then 1000000000 else b + y) (if 1000000000 < c + y then 1000000000 else c + y) (if 1000000000 < d + y then 1000000000 else d + y) s) := by
        show _ = _
        rw [upd_no (k := 1) (by omega), upd_yes (k := 2) (by omega), upd_yes (k := 3) (by omega), upd_yes (k := 4) (by omega)]
      go_enter Try.func20, Try.ntmps20
      go_wp2_with fail
      refine (H1.out _).mono ?_; rintro e w1 ⟨rfl, rfl⟩
      go_wp2_with fail
      refine (H2.out _).mono ?_; rintro e w1 ⟨rfl, rfl⟩
      go_wp2_with fail
      refine (H3.out _).mono ?_; rintro e w1 ⟨rfl, rfl⟩
      go_wp2_with fail
      refine (H4.out _).mono ?_; rintro e w1 ⟨rfl, rfl⟩
      go_wp2_with fail
      refine (H5.out _).mono ?_; rintro e w1 ⟨rfl, rfl⟩
      go_wp2_with fail
      all_goals
        rw [HN.out, HV.out]
        refine bodyPost_ret (v := T5 a (if 1000000000 < b + y then 1000000000 else b + y) (if 1000000000 < c + y then 1000000000 else c + y) (if 1000000000 < d + y then 1000000000 else d + y) s) ?_ rfl ⟨rfl, HB.out _ _⟩
        simp [results, Try.results20, go_sem]
        try omega
    · by_cases g3 : f ≤ 3
      · have h12 : f ≤ 3 := by omega
        have h13 : f ≤ 4 := by omega
        have HV : Hid (T5 (upd f y 1 a) (upd f y 2 b) (upd f y 3 c) (upd f y 4 d) s = T5 a b (if 1000000000 < c + y then 1000000000 else c + y) (if 1000000000 < d + y then 1000000000 else d + y) s) := by
          show _ = _
          rw [upd_no (k := 1) (by omega), upd_no (k := 2) (by omega), upd_yes (k := 3) (by omega), upd_yes (k := 4) (by omega)]
        go_enter Try.func20, Try.ntmps20
        go_wp2_with fail
        refine (H1.out _).mono ?_; rintro e w1 ⟨rfl, rfl⟩
        go_wp2_with fail
        refine (H2.out _).mono ?_; rintro e w1 ⟨rfl, rfl⟩
        go_wp2_with fail
        refine (H3.out _).mono ?_; rintro e w1 ⟨rfl, rfl⟩
        go_wp2_with fail
        refine (H4.out _).mono ?_; rintro e w1 ⟨rfl, rfl⟩
        go_wp2_with fail
        refine (H5.out _).mono ?_; rintro e w1 ⟨rfl, rfl⟩
        go_wp2_with fail
        all_goals
          rw [HN.out, HV.out]
          refine bodyPost_ret (v := T5 a b (if 1000000000 < c + y then 1000000000 else c + y) (if 1000000000 < d + y then 1000000000 else d + y) s) ?_ rfl ⟨rfl, HB.out _ _⟩
          simp [results, Try.results20, go_sem]
          try omega
      · by_cases g4 : f ≤ 4
        · have h13 : f ≤ 4 := by omega
          have HV : Hid (T5 (upd f y 1 a) (upd f y 2 b) (upd f y 3 c) (upd f y 4 d) s = T5 a b c (if 1000000000 < d + y then 1000000000 else d + y) s) := by
            show _ = _
            rw [upd_no (k := 1) (by omega), upd_no (k := 2) (by omega), upd_no (k := 3) (by omega), upd_yes (k := 4) (by omega)]
          go_enter Try.func20, Try.ntmps20
          go_wp2_with fail
          refine (H1.out _).mono ?_; rintro e w1 ⟨rfl, rfl⟩
          go_wp2_with fail
          refine (H2.out _).mono ?_; rintro e w1 ⟨rfl, rfl⟩
          go_wp2_with fail
          refine (H3.out _).mono ?_; rintro e w1 ⟨rfl, rfl⟩
          go_wp2_with fail
          refine (H4.out _).mono ?_; rintro e w1 ⟨rfl, rfl⟩
          go_wp2_with fail
          refine (H5.out _).mono ?_; rintro e w1 ⟨rfl, rfl⟩
          go_wp2_with fail
          all_goals
            rw [HN.out, HV.out]
            refine bodyPost_ret (v := T5 a b c (if 1000000000 < d + y then 1000000000 else d + y) s) ?_ rfl ⟨rfl, HB.out _ _⟩
            simp [results, Try.results20, go_sem]
            try omega
        · have HV : Hid (T5 (upd f y 1 a) (upd f y 2 b) (upd f y 3 c) (upd f y 4 d) s = T5 a b c d s) := by
            show _ = _
            rw [upd_no (k := 1) (by omega), upd_no (k := 2) (by omega), upd_no (k := 3) (by omega), upd_no (k := 4) (by omega)]
          go_enter Try.func20, Try.ntmps20
          go_wp2_with fail
          refine (H1.out _).mono ?_; rintro e w1 ⟨rfl, rfl⟩
          go_wp2_with fail
          refine (H2.out _).mono ?_; rintro e w1 ⟨rfl, rfl⟩
          go_wp2_with fail
          refine (H3.out _).mono ?_; rintro e w1 ⟨rfl, rfl⟩
          go_wp2_with fail
          refine (H4.out _).mono ?_; rintro e w1 ⟨rfl, rfl⟩
          go_wp2_with fail
          refine (H5.out _).mono ?_; rintro e w1 ⟨rfl, rfl⟩
          go_wp2_with fail
          all_goals
            rw [HN.out, HV.out]
            refine bodyPost_ret (v := T5 a b c d s) ?_ rfl ⟨rfl, HB.out _ _⟩
            simp [results, Try.results20, go_sem]
            try omega

theorem RShift_any (a b c d s f y : Int) (w : World) :
    Calls Try.prog 20 #[T5 a b c d s, .int .i64 f, .int .i64 y] w fun e w' => e = .returned (shiftR a b c d s f y) ∧ Below w.heap.size w w' := by
  by_cases h1 : okN y
  · by_cases h2 : okN a
    · by_cases h3 : okN b
      · by_cases h4 : okN c
        · by_cases h5 : okN d
          · exact RShift_yes a b c d s f y w h1 h2 h3 h4 h5
          · exact RShift_no a b c d s f y w (.inr (.inr (.inr (.inr h5))))
        · exact RShift_no a b c d s f y w (.inr (.inr (.inr (.inl h4))))
      · exact RShift_no a b c d s f y w (.inr (.inr (.inl h3)))
    · exact RShift_no a b c d s f y w (.inr (.inl h2))
  · exact RShift_no a b c d s f y w (.inl h1)
end Go.Proofs.Ytonhhonhcgfcaaa
