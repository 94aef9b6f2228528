/- The contracts of Stage and Next, and of the reference's, for any times: one pair of plain functions answers for both. -/
import Derived.Test.YtonhhonhcgfcaaaFind
namespace Go.Proofs.Ytonhhonhcgfcaaa
open Go.RowKit Go.Shelf

abbrev I64 (n : Int) : Prop := -9223372036854775808 ≤ n ∧ n ≤ 9223372036854775807

set_option maxHeartbeats 400000 in
theorem Stage_any (a b c d s now : Int) (hd : I64 d) (hs : I64 s) (w : World) :
    Calls Try.prog 15 #[T5 a b c d s, .int .i64 now] w fun e w' => e = .returned (.int .i64 (findR a b c d s now).1) ∧ Below w.heap.size w w' := by
  go_enter Try.func15, Try.ntmps15
  go_wp2_with (go_at_call 21; refine (find_any _ _ _ _ _ _ hd.1 hd.2 hs.1 hs.2 _).mono ?_; rintro e w1 ⟨rfl, hb⟩)
  go_ret
  exact ⟨rfl, (((Below.refl _ w).alloc (Nat.le_refl _) _).trans (hb.mono (by simp))).alloc (by have := hb.size; simp at this; omega) _⟩

def nextR (a b c d s now : Int) : Int × Bool := if (findR a b c d s now).2.bey then (0, false) else ((findR a b c d s now).2.at_, true)

set_option maxHeartbeats 400000 in
theorem Next_any (a b c d s now : Int) (hd : I64 d) (hs : I64 s) (w : World) :
    Calls Try.prog 13 #[T5 a b c d s, .int .i64 now] w fun e w' => e = .returned (.tuple #[.int .i64 (nextR a b c d s now).1, .bool (nextR a b c d s now).2]) ∧ Below w.heap.size w w' := by
  have hf := find_any a b c d s now hd.1 hd.2 hs.1 hs.2
  have HN : Hid (nextR a b c d s now = if (findR a b c d s now).2.bey then (0, false) else ((findR a b c d s now).2.at_, true)) := rfl
  generalize nextR a b c d s now = N at *
  generalize findR a b c d s now = r at *
  obtain ⟨k, ⟨at_, bey, bel⟩⟩ := r
  dsimp only at hf HN
  have HF := Lib.hid hf
  clear hf
  cases bey with
  | true =>
    go_enter Try.func13, Try.ntmps13
    go_wp2_with (go_at_call 21; refine (HF.out _).mono ?_; rintro e w1 ⟨rfl, hb⟩)
    go_ret2
    rw [HN.out]
    exact ⟨rfl, (((Below.refl _ w).alloc (Nat.le_refl _) _).trans (hb.mono (by simp))).alloc (by have := hb.size; simp at this; omega) _⟩
  | false =>
    go_enter Try.func13, Try.ntmps13
    go_wp2_with (go_at_call 21; refine (HF.out _).mono ?_; rintro e w1 ⟨rfl, hb⟩)
    go_ret2
    rw [HN.out]
    exact ⟨rfl, (((Below.refl _ w).alloc (Nat.le_refl _) _).trans (hb.mono (by simp))).alloc (by have := hb.size; simp at this; omega) _⟩

theorem wrap_hi {d s : Int} (hd : I64 d) (hs : I64 s) (h : 9223372036854775807 - s < d) : wrap64 (d + s) = d + s - 18446744073709551616 := by
  unfold wrap64; omega
theorem wrap_lo {d s : Int} (hd : I64 d) (hs : I64 s) (h : d < -9223372036854775808 - s) : wrap64 (d + s) = d + s + 18446744073709551616 := by
  unfold wrap64; omega

set_option maxHeartbeats 400000 in
theorem End_5 (a b c d s : Int) (hd : I64 d) (hs : I64 s) (w : World) :
    Calls Try.prog 22 #[T5 a b c d s, .int .i64 5] w fun e w' => e = .returned (.tuple #[.int .i64 (sumE d s).at_, .bool (!((sumE d s).bey || (sumE d s).bel))]) ∧ Below w.heap.size w w' := by
  by_cases h1 : 0 < s
  · by_cases h2 : 9223372036854775807 - s < d
    · have H := Lib.hid (sumE_hi h1 h2)
      have h3 : wrap64 (d + s) < d := by rw [wrap_hi hd hs h2]; omega
      have h4 : ¬ s < 0 := by omega
      clear h2 hd hs
      go_enter Try.func22, Try.ntmps22
      go_wp2
      go_ret2
      rw [H.out]
      exact ⟨rfl, (Below.refl _ w).alloc (Nat.le_refl _) _⟩
    · have H := Lib.hid (@sumE_mid d s (by omega) (by omega))
      have h3 : ¬ d + s < d := by omega
      have h4 : ¬ s < 0 := by omega
      have h5 : d + s ≤ 9223372036854775807 := by omega
      have h6 : -9223372036854775808 ≤ d + s := by omega
      go_enter Try.func22, Try.ntmps22
      go_wp2
      go_ret2
      rw [H.out]
      exact ⟨rfl, (Below.refl _ w).alloc (Nat.le_refl _) _⟩
  · by_cases h2 : s < 0
    · by_cases h2' : d < -9223372036854775808 - s
      · have H := Lib.hid (sumE_lo h2 h2')
        have h3 : d < wrap64 (d + s) := by rw [wrap_lo hd hs h2']; omega
        clear h2' hd hs
        go_enter Try.func22, Try.ntmps22
        go_wp2
        go_ret2
        rw [H.out]
        exact ⟨rfl, (Below.refl _ w).alloc (Nat.le_refl _) _⟩
      · have H := Lib.hid (@sumE_mid d s (by omega) (by omega))
        have h3 : ¬ d < d + s := by omega
        have h5 : d + s ≤ 9223372036854775807 := by omega
        have h6 : -9223372036854775808 ≤ d + s := by omega
        go_enter Try.func22, Try.ntmps22
        go_wp2
        go_ret2
        rw [H.out]
        exact ⟨rfl, (Below.refl _ w).alloc (Nat.le_refl _) _⟩
    · have H := Lib.hid (@sumE_mid d s (by omega) (by omega))
      have h5 : d + s ≤ 9223372036854775807 := by omega
      have h6 : -9223372036854775808 ≤ d + s := by omega
      go_enter Try.func22, Try.ntmps22
      go_wp2
      go_ret2
      rw [H.out]
      exact ⟨rfl, (Below.refl _ w).alloc (Nat.le_refl _) _⟩

/-- What End answers at a stage. -/
def EndAt (P : Program) (a b c d s : Int) (x : Int × En) : Prop := ∀ w : World, Calls P 22 #[T5 a b c d s, .int .i64 x.1] w fun e w' => e = .returned (.tuple #[.int .i64 x.2.at_, .bool (!(x.2.bey || x.2.bel))]) ∧ Below w.heap.size w w'

set_option maxHeartbeats 400000 in
theorem End_all (a b c d s : Int) (hd : I64 d) (hs : I64 s) : ∀ x ∈ allEnds a b c d s, EndAt Try.prog a b c d s x := by
  intro x hx w
  simp only [allEnds, List.mem_cons, List.not_mem_nil, or_false] at hx
  rcases hx with rfl | rfl | rfl | rfl | rfl
  all_goals try exact End_5 a b c d s hd hs w
  all_goals
    clear hd hs
    go_enter Try.func22, Try.ntmps22
    go_wp2
    go_ret2
    exact ⟨rfl, (Below.refl _ w).alloc (Nat.le_refl _) _⟩

theorem sum_still (d s : Int) : ((sumE d s).bey = true → 0 < s) ∧ ((sumE d s).bel = true → ¬ 0 < s) ∧ ((sumE d s).bey = true → (sumE d s).bel = false) := by
  unfold sumE
  split
  · simp; omega
  · split
    · simp; omega
    · simp

/-- What the ends are. -/
theorem ends_facts (a b c d s : Int) : ∀ x ∈ allEnds a b c d s, (x.2.bey = true → 0 < s) ∧ (x.2.bel = true → ¬ 0 < s) ∧ (x.2.bey = true → x.2.bel = false) := by
  intro x hx
  simp only [allEnds, List.mem_cons, List.not_mem_nil, or_false] at hx
  rcases hx with rfl | rfl | rfl | rfl | rfl
  all_goals first | exact sum_still d s | simp

set_option maxHeartbeats 400000 in
theorem after_all (a b c d s now : Int) (hd : I64 d) (hs : I64 s) (x : Int × En) (hx : x ∈ allEnds a b c d s) (w : World) :
    Calls Try.prog 23 #[T5 a b c d s, .int .i64 x.1, .int .i64 now] w fun e w' => e = .returned (.bool (hit now x.2)) ∧ Below w.heap.size w w' := by
  have hE := End_all a b c d s hd hs x hx
  obtain ⟨f1, f2, f3⟩ := ends_facts a b c d s x hx
  obtain ⟨k, ⟨at_, bey, bel⟩⟩ := x
  clear hd hs hx
  dsimp only [EndAt] at f1 f2 f3 hE ⊢
  have HE := Lib.hid hE
  clear hE
  cases bey with
  | true =>
    have f3 := f3 rfl
    subst f3
    have h4 := f1 rfl
    clear f1 f2
    have HH : Hid (hit now ⟨at_, true, false⟩ = true) := rfl
    go_enter Try.func23, Try.ntmps23
    go_wp2_with (go_at_call 22; refine (HE.out _).mono ?_; rintro e w1 ⟨rfl, hb⟩; obtain ⟨hc, _⟩ := bcell hb)
    go_ret
    rw [HH.out]
    exact ⟨rfl, ((Below.refl _ w).alloc (Nat.le_refl _) _).trans (hb.mono (by simp))⟩
  | false =>
    cases bel with
    | true =>
      have h4 : decide (0 < s) = false := by simpa using f2 rfl
      clear f1 f2 f3
      have HH : Hid (hit now ⟨at_, false, true⟩ = false) := rfl
      go_enter Try.func23, Try.ntmps23
      go_wp2_with (go_at_call 22; refine (HE.out _).mono ?_; rintro e w1 ⟨rfl, hb⟩; obtain ⟨hc, _⟩ := bcell hb)
      go_ret
      rw [HH.out]
      exact ⟨rfl, ((Below.refl _ w).alloc (Nat.le_refl _) _).trans (hb.mono (by simp))⟩
    | false =>
      clear f1 f2 f3
      have HH : Hid (hit now ⟨at_, false, false⟩ = decide (now < at_)) := by unfold hit; simp [Hid]
      go_enter Try.func23, Try.ntmps23
      go_wp2_with (go_at_call 22; refine (HE.out _).mono ?_; rintro e w1 ⟨rfl, hb⟩; obtain ⟨hc, _⟩ := bcell hb)
      go_ret
      rw [HH.out]
      exact ⟨rfl, ((Below.refl _ w).alloc (Nat.le_refl _) _).trans (hb.mono (by simp))⟩

/-- The stage that the reference finds: the first of the first k that is hit. -/
theorem findR_of {a b c d s now : Int} {k : Nat} {x : Int × En} (hx : (allEnds a b c d s)[k]? = some x) (hpre : ∀ y ∈ (allEnds a b c d s).take k, hit now y.2 = false) (hh : hit now x.2 = true) : findR a b c d s now = x := by
  have hk : k < (allEnds a b c d s).length := (List.getElem?_eq_some_iff.1 hx).1
  have hp : ((allEnds a b c d s).take k ++ [x]) <+: allEnds a b c d s := by
    rw [show (allEnds a b c d s).take k ++ [x] = (allEnds a b c d s).take (k + 1) by rw [List.take_add_one, hx]; rfl]
    exact List.take_prefix _ _
  unfold findR; rw [find_some (p := fun y => hit now y.2) hp hpre hh]; rfl

theorem ends_get {a b c d s : Int} {k : Nat} (hk : k < 5) : ∃ e : En, (allEnds a b c d s)[k]? = some ((k : Int) + 1, e) := by
  rcases (show k = 0 ∨ k = 1 ∨ k = 2 ∨ k = 3 ∨ k = 4 by omega) with rfl | rfl | rfl | rfl | rfl
  all_goals exact ⟨_, rfl⟩

theorem pre_snoc {a b c d s now : Int} {k : Nat} {x : Int × En} (hx : (allEnds a b c d s)[k]? = some x) (hpre : ∀ y ∈ (allEnds a b c d s).take k, hit now y.2 = false) (hh : hit now x.2 = false) : ∀ y ∈ (allEnds a b c d s).take (k + 1), hit now y.2 = false := by
  rw [List.take_add_one, hx]
  intro y hy
  rcases List.mem_append.1 hy with h | h
  · exact hpre y h
  · simp at h; subst h; exact hh

set_option maxHeartbeats 400000 in
theorem RStage_any (a b c d s now : Int) (hd : I64 d) (hs : I64 s) (w : World) :
    Calls Try.prog 16 #[T5 a b c d s, .int .i64 now] w fun e w' => e = .returned (.int .i64 (findR a b c d s now).1) ∧ Below w.heap.size w w' := by
  have HA := Lib.hid (after_all a b c d s now hd hs)
  clear hd hs
  go_enter Try.func16, Try.ntmps16
  go_wp2_with fail
  go_loopw [5] (fun i wr => ∃ k : Nat, k ≤ 5 ∧ i = .int .i64 ((k : Int) + 1) ∧ Hid (∀ y ∈ (allEnds a b c d s).take k, hit now y.2 = false) ∧ Blk wr w.heap.size #[.int .i64 a, .int .i64 b, .int .i64 c, .int .i64 d, .int .i64 s] 25 ∧ Below w.heap.size w wr) (fun i _ => 6 - (intOf i).toNat)
  case atStart => exact ⟨0, by omega, rfl, (fun y hy => by cases hy), Blk.new _ _ _, (Below.refl _ w).alloc (Nat.le_refl _) _⟩
  case round =>
    obtain ⟨k, hk, rfl, hpre, hblk, hB⟩ := hrel
    have c0 := hblk.cell 0 (.int .i64 a) rfl
    have c1 := hblk.cell 1 (.int .i64 b) rfl
    have c2 := hblk.cell 2 (.int .i64 c) rfl
    have c3 := hblk.cell 3 (.int .i64 d) rfl
    have c4 := hblk.cell 4 (.int .i64 s) rfl
    by_cases hlt : k < 5
    · obtain ⟨e, he⟩ := ends_get (a := a) (b := b) (c := c) (d := d) (s := s) hlt
      have HE := Lib.hid he
      clear he
      cases hh : hit now e with
      | true =>
        have HH := Lib.hid hh
        clear hh
        go_wp2_with (go_at_call 23; refine (HA.out ((k : Int) + 1, e) (List.mem_of_getElem? HE.out) _).mono ?_; rintro e w1 ⟨rfl, hb⟩; rw [HH.out])
        go_ret
        exact ⟨by rw [findR_of HE.out hpre.out HH.out]; rfl, hB.trans (hb.mono hB.size)⟩
      | false =>
        have HH := Lib.hid hh
        clear hh
        go_wp2_with (go_at_call 23; refine (HA.out ((k : Int) + 1, e) (List.mem_of_getElem? HE.out) _).mono ?_; rintro e w1 ⟨rfl, hb⟩; rw [HH.out])
        go_roundw
        case rel => exact ⟨k + 1, by omega, by go_num, pre_snoc HE.out hpre.out HH.out, hblk.below hb hblk.lt, hB.trans (hb.mono hB.size)⟩
        case measure => simp [intOf]; omega
    · obtain rfl : k = 5 := by omega
      go_wp2_with fail
      go_ret
      exact ⟨by unfold findR; rw [find_none (L := allEnds a b c d s) (p := fun y => hit now y.2) hpre.out]; rfl, hB⟩

theorem findR_cases (a b c d s now : Int) : findR a b c d s now = (6, ⟨0, true, false⟩) ∨ (findR a b c d s now ∈ allEnds a b c d s ∧ hit now (findR a b c d s now).2 = true) := by
  unfold findR
  cases h : (allEnds a b c d s).find? (fun y => hit now y.2) with
  | none => left; rfl
  | some x => right; exact ⟨List.mem_of_find?_eq_some h, by simpa using List.find?_some h⟩

theorem ends_six (a b c d s : Int) : ∀ x ∈ allEnds a b c d s, x.1 ≠ 6 ∧ (x.2.bey = true → x.2.at_ = 0) := by
  intro x hx
  simp only [allEnds, List.mem_cons, List.not_mem_nil, or_false] at hx
  have : (sumE d s).bey = true → (sumE d s).at_ = 0 := by
    unfold sumE; split
    · simp
    · split <;> simp
  rcases hx with rfl | rfl | rfl | rfl | rfl
  all_goals simp
  exact this

set_option maxHeartbeats 400000 in
theorem RNext_any (a b c d s now : Int) (hd : I64 d) (hs : I64 s) (w : World) :
    Calls Try.prog 14 #[T5 a b c d s, .int .i64 now] w fun e w' => e = .returned (.tuple #[.int .i64 (nextR a b c d s now).1, .bool (nextR a b c d s now).2]) ∧ Below w.heap.size w w' := by
  have HS := Lib.hid (RStage_any a b c d s now hd hs)
  have HN : Hid (nextR a b c d s now = if (findR a b c d s now).2.bey then (0, false) else ((findR a b c d s now).2.at_, true)) := rfl
  have hF := findR_cases a b c d s now
  have hE := End_all a b c d s hd hs (findR a b c d s now)
  have h6 := ends_six a b c d s (findR a b c d s now)
  have h7 := ends_facts a b c d s (findR a b c d s now)
  clear hd hs
  generalize nextR a b c d s now = N at *
  generalize findR a b c d s now = r at *
  rcases hF with rfl | ⟨hm, hh⟩
  · clear hE h6 h7
    go_enter Try.func14, Try.ntmps14
    go_wp2_with (go_at_call 16; refine (HS.out _).mono ?_; rintro e w1 ⟨rfl, hb⟩)
    go_ret2
    rw [HN.out]
    exact ⟨rfl, ((Below.refl _ w).alloc (Nat.le_refl _) _).trans (hb.mono (by simp))⟩
  · obtain ⟨k, ⟨at_, bey, bel⟩⟩ := r
    have hE := hE hm
    obtain ⟨h6, h8⟩ := h6 hm
    obtain ⟨h9, h10, h11⟩ := h7 hm
    clear h7 hm
    dsimp only [EndAt] at *
    have HE := Lib.hid hE
    clear hE h9 h10
    have hk : (k == 6) = false := by simpa using h6
    clear h6
    have HH : Hid (N = (at_, !bey && !bel)) := by
      show N = _
      rw [HN.out]
      cases bey with
      | true => rw [h8 rfl, h11 rfl]; rfl
      | false => cases bel with
        | true => simp [hit] at hh
        | false => rfl
    clear HN hh h8 h11
    go_enter Try.func14, Try.ntmps14
    go_wp2_with (first | (go_at_call 16; refine (HS.out _).mono ?_; rintro e w1 ⟨rfl, hb⟩; obtain ⟨hc, _⟩ := bcell hb) | (go_at_call 22; refine (HE.out _).mono ?_; rintro e w2 ⟨rfl, hb2⟩))
    go_ret2
    rw [HH.out]
    exact ⟨rfl, (((Below.refl _ w).alloc (Nat.le_refl _) _).trans (hb.mono (by simp))).trans (hb2.mono (by have := hb.size; simp at this; omega))⟩

end Go.Proofs.Ytonhhonhcgfcaaa
