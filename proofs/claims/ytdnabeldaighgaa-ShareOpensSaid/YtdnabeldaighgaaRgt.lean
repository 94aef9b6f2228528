/- right, fits and Verify. Conditions: the range of int. -/
import Derived.Test.YtdnabeldaighgaaSel
namespace Go.Proofs.Ytdnabeldaighgaa
open Go.RowKit Go.Shelf Shr

theorem others_none (l : List Int) : ((l.filter (fun x => !FldP.memS x)).length = 0) ↔ l.all FldP.memS = true := by
  rw [List.length_eq_zero_iff, List.filter_eq_nil_iff, List.all_eq_true]
  constructor
  · intro h x hx
    have := h x hx
    simpa using this
  · intro h x hx
    simp [h x hx]
set_option maxRecDepth 100000 in
set_option maxHeartbeats 1000000 in
theorem right_any (l : List Int) (v : Value) (w : World) (hl : All64 l) (hl9 : l.length ≤ 1000000) (hA : IArg w v l) :
    Calls Try.prog 34 #[v] w fun e w' => e = .returned (.bool (comm l)) ∧ Below w.heap.size w w' := by
  have HCM : Hid (comm l = (decide (1 ≤ l.length) && decide (l.length ≤ 100) && l.all FldP.memS)) := rfl
  obtain ⟨res, hres⟩ : ∃ res, comm l = res := ⟨_, rfl⟩
  rw [hres] at HCM
  rw [hres]
  clear hres
  have S1 := Lib.hid (sel_member l v w hl hl9 hA)
  obtain ⟨a, cap, rfl, hc, _⟩ := hA
  have HO := others_none l
  have hfl := List.length_filter_le (fun x => !FldP.memS x) l
  obtain ⟨al, hal⟩ : ∃ al, l.all FldP.memS = al := ⟨_, rfl⟩
  rw [hal] at HCM HO
  clear hal
  go_enter Try.func34, Try.ntmps34
  go_wp2_with fail
  refine S1.out.mono ?_
  rintro e w1 ⟨v1, v2, rfl, _, o2, hb⟩
  obtain ⟨a2, cap2, rfl, hc2⟩ := o2.form
  clear o2 S1
  generalize (l.filter (fun x => !FldP.memS x)).length = m at *
  obtain ⟨n, hn⟩ : ∃ n, l.length = n := ⟨_, rfl⟩
  rw [hn] at HCM hl9 hfl hc
  rw [hn]
  clear hn
  by_cases h1 : 0 < n
  · have t1 : (0 : Int) < (n : Int) := by omega
    have t1' : decide ((n : Int) > 0) = true := decide_eq_true t1
    by_cases h2 : n ≤ 100
    · have t2 : (n : Int) ≤ 100 := by omega
      cases al with
      | true =>
        have t3 : ((m : Int) == 0) = true := by rw [beq_iff_eq]; have := HO.2 rfl; omega
        go_wp2_with fail
        go_ret
        exact ⟨by rw [HCM.out, decide_eq_true (show 1 ≤ n by omega), decide_eq_true h2]; rfl, hb⟩
      | false =>
        have t3 : ((m : Int) == 0) = false := by
          rw [beq_eq_false_iff_ne]
          intro h
          have := HO.1 (by omega)
          cases this
        go_wp2_with fail
        go_ret
        exact ⟨by rw [HCM.out, decide_eq_true (show 1 ≤ n by omega), decide_eq_true h2]; rfl, hb⟩
    · have t2 : ¬ ((n : Int) ≤ 100) := by omega
      go_wp2_with fail
      go_ret
      exact ⟨by rw [HCM.out, decide_eq_false h2]; simp, hb⟩
  · have t1 : ¬ ((0 : Int) < (n : Int)) := by omega
    have t1' : decide ((n : Int) > 0) = false := decide_eq_false t1
    go_wp2_with fail
    go_ret
    exact ⟨by rw [HCM.out, decide_eq_false (show ¬ 1 ≤ n by omega)]; rfl, hb⟩
end Go.Proofs.Ytdnabeldaighgaa
