/- Split, both. Conditions: the range of int. -/
import Derived.Test.YtdnabeldaighgaaHor
namespace Go.Proofs.Ytdnabeldaighgaa
open Go.RowKit Go.Shelf Shr

namespace Shr
def spS (l : List Int) (n : Int) : List (Int × Int) := if okS l n then shl l n.toNat else []
def cmS (l : List Int) (n : Int) : List Int := if okS l n then coms l else []
end Shr
/-- What Split returns. -/
def SplQ (w : World) (l : List Int) (n : Int) (e : Ending) (w' : World) : Prop := ∃ v1 v2, e = .returned (.tuple #[v1, v2, .bool (okS l n)]) ∧ OwnSh w' w.heap.size v1 (spS l n) ∧ OwnI w' w.heap.size v2 (cmS l n) ∧ Below w.heap.size w w' ∧ Apart v1 v2
theorem SplQ.no {w w' : World} {l : List Int} {n : Int} (h : okS l n = false) (hb : Below w.heap.size w w') : SplQ w l n (.returned (.tuple #[.slice none 0 0, .slice none 0 0, .bool false])) w' := by
  refine ⟨.slice none 0 0, .slice none 0 0, by rw [h], ?_, ?_, hb, Apart.nil⟩
  · unfold spS; rw [h]; exact OwnV.nil _ _ _
  · unfold cmS; rw [h]; exact OwnV.nil _ _ _
theorem SplQ.yes {w w' : World} {l : List Int} {n : Int} {v1 v2 : Value} (h : okS l n = true) (o1 : OwnSh w' w.heap.size v1 (shl l n.toNat)) (o2 : OwnI w' w.heap.size v2 (coms l)) (hb : Below w.heap.size w w') (hap : Apart v1 v2) : SplQ w l n (.returned (.tuple #[v1, v2, .bool true])) w' :=
  ⟨v1, v2, by rw [h], by unfold spS; rw [h]; exact o1, by unfold cmS; rw [h]; exact o2, hb, hap⟩
theorem okS_parts {l : List Int} {n : Int} (h : okS l n = true) : 1 ≤ l.length ∧ l.length ≤ 100 ∧ l.all blw = true ∧ (l.length : Int) ≤ n ∧ n ≤ 1000 := by
  unfold okS at h
  simp only [Bool.and_eq_true, decide_eq_true_eq] at h
  obtain ⟨⟨⟨⟨a, b⟩, c⟩, d⟩, e⟩ := h
  exact ⟨a, b, c, d, e⟩
theorem Split_any (l : List Int) (n : Int) (v : Value) (w : World) (hl : All64 l) (hl9 : l.length ≤ 1000000) (hA : IArg w v l) : Calls Try.prog 23 #[v, I n] w (SplQ w l n) := by
  cases h : okS l n with
  | false => exact (split_no l n v w hl hl9 hA h).mono (by rintro e w' ⟨rfl, hb⟩; exact SplQ.no h hb)
  | true =>
    obtain ⟨h1, h2, h3, h4, h5⟩ := okS_parts h
    obtain ⟨N, rfl⟩ := Int.eq_ofNat_of_zero_le (show 0 ≤ n by omega)
    refine (split_yes l N v w hl hA h1 h2 h3 (by omega) (by omega)).mono ?_
    rintro e w' ⟨v1, v2, rfl, o1, o2, hb, hap⟩
    refine ⟨v1, v2, by rw [h], ?_, ?_, hb, hap⟩
    · unfold spS; rw [h]; exact o1
    · unfold cmS; rw [h]; exact o2

set_option maxRecDepth 100000 in
set_option maxHeartbeats 2000000 in
theorem RSplit_any (l : List Int) (n : Int) (v : Value) (w : World) (hl : All64 l) (hl9 : l.length ≤ 1000000) (hA : IArg w v l) : Calls Try.prog 24 #[v, I n] w (SplQ w l n) := by
  have HL := Lib.hid hl
  have HV := Lib.hid (fun (x : Int) (hx : In64 x) (w' : World) (hb : Below w.heap.size w w') => (pva_hor l x ▸ value_any l x v w' hx hl hl9 (hA.below hb)))
  obtain ⟨a, cap, rfl, hc, hA'⟩ := hA
  have HA := Lib.hid (fun W (hb : Below w.heap.size w W) (h : l ≠ []) => (by obtain ⟨g, o, e1, e2⟩ := hA' h; exact ⟨g, o, e1, e2.below hb⟩ : ∃ g o, a = some ⟨g, o, none⟩ ∧ IAt W g o l))
  have HNO := Lib.hid (fun (h : okS l n = false) (w' : World) (hb : Below w.heap.size w w') => SplQ.no h hb)
  have HYES := Lib.hid (fun (h : okS l n = true) (v1 v2 : Value) (w' : World) (o1 : OwnSh w' w.heap.size v1 (shl l n.toNat)) (o2 : OwnI w' w.heap.size v2 (coms l)) (hb : Below w.heap.size w w') (hap : Apart v1 v2) => SplQ.yes h o1 o2 hb hap)
  have HOK : Hid (okS l n = (decide (1 ≤ l.length) && decide (l.length ≤ 100) && l.all blw && decide ((l.length : Int) ≤ n) && decide (n ≤ 1000))) := rfl
  have HC : Hid (∀ (k : Nat) (c : Int), l[k]? = some c → (coms l).take (k + 1) = (coms l).take k ++ [Fld.powS 4 c 2305843009213691579]) := by
    show ∀ (k : Nat) (c : Int), _
    intro k c hk
    unfold coms
    rw [List.take_add_one, List.getElem?_map, hk]; rfl
  have HCL : Hid (∀ k, ((coms l).take k).length ≤ k) := fun k => List.length_take_le k _
  have HCE : Hid ((coms l).take l.length = coms l) := List.take_of_length_le (by unfold coms; simp)
  have HBAD : Hid (∀ (k : Nat) (c : Int), l[k]? = some c → blw c = false → l.all blw = false) := by
    show ∀ (k : Nat) (c : Int), _
    intro k c h1 h2
    rw [List.all_eq_false]
    exact ⟨c, List.mem_of_getElem? h1, by rw [h2]; simp⟩
  have HALL : Hid (∀ (k : Nat), (∀ (j : Nat), j < k → ∀ (c : Int), l[j]? = some c → blw c = true) → k = l.length → l.all blw = true) := by
    show ∀ (k : Nat), _
    intro k h e
    rw [List.all_eq_true]
    intro x hx
    obtain ⟨j, hj, rfl⟩ := List.getElem_of_mem hx
    exact h j (by omega) _ (List.getElem?_eq_getElem hj)
  generalize SplQ w l n = Q at *
  obtain ⟨al, hal⟩ : ∃ al, l.all blw = al := ⟨_, rfl⟩
  rw [hal] at HOK HBAD HALL
  obtain ⟨ok, hok⟩ : ∃ ok, okS l n = ok := ⟨_, rfl⟩
  rw [hok] at HOK HNO HYES
  have HEX : Hid (∀ (k : Nat), k < l.length → ∃ c, l[k]? = some c) := fun k hk => ⟨l[k], List.getElem?_eq_getElem hk⟩
  clear hA' hl hal hok
  obtain ⟨m, hm⟩ : ∃ m, l.length = m := ⟨_, rfl⟩
  have HM := Lib.hid hm
  rw [hm] at hc hl9 HOK HCE HALL HEX
  rw [hm]
  have HVM := Lib.hid (fun x hx w' hb => hm ▸ HV.out x hx w' hb)
  clear hm HV
  go_enter Try.func24, Try.ntmps24
  by_cases h1 : m < 1
  · have t1 : (m : Int) < 1 := by omega
    have t1' : decide ((m : Int) < 1) = true := decide_eq_true t1
    have HN := Lib.hid (HNO.out (by rw [HOK.out, decide_eq_false (show ¬ 1 ≤ m by omega)]; rfl) w (Below.refl _ _))
    go_wp2_with fail
    refine bodyPost_ret (results_tmp3 rfl _ _ _) rfl ?_
    exact HN.out
  have t1 : ¬ (m : Int) < 1 := by omega
  have t1' : decide ((m : Int) < 1) = false := decide_eq_false t1
  by_cases h2 : 100 < m
  · have t2 : (100 : Int) < (m : Int) := by omega
    have t2' : decide ((m : Int) > 100) = true := decide_eq_true t2
    have HN := Lib.hid (HNO.out (by rw [HOK.out, decide_eq_false (show ¬ m ≤ 100 by omega)]; simp) w (Below.refl _ _))
    go_wp2_with fail
    refine bodyPost_ret (results_tmp3 rfl _ _ _) rfl ?_
    exact HN.out
  have t2 : ¬ (100 : Int) < (m : Int) := by omega
  have t2' : decide ((m : Int) > 100) = false := decide_eq_false t2
  by_cases h4 : n < (m : Int)
  · have t4' : decide (n < (m : Int)) = true := decide_eq_true h4
    have HN := Lib.hid (HNO.out (by rw [HOK.out, decide_eq_false (show ¬ (m : Int) ≤ n by omega)]; simp) w (Below.refl _ _))
    go_wp2_with fail
    refine bodyPost_ret (results_tmp3 rfl _ _ _) rfl ?_
    exact HN.out
  have t4' : decide (n < (m : Int)) = false := decide_eq_false h4
  by_cases h5 : 1000 < n
  · have t5 : decide (n > 1000) = true := decide_eq_true h5
    have HN := Lib.hid (HNO.out (by rw [HOK.out, decide_eq_false (show ¬ n ≤ 1000 by omega)]; simp) w (Below.refl _ _))
    go_wp2_with fail
    refine bodyPost_ret (results_tmp3 rfl _ _ _) rfl ?_
    exact HN.out
  have t5 : decide (n > 1000) = false := decide_eq_false h5
  obtain ⟨N, rfl⟩ := Int.eq_ofNat_of_zero_le (show 0 ≤ n by omega)
  have HOK2 : Hid (ok = al) := by
    show ok = al
    rw [HOK.out, decide_eq_true (show 1 ≤ m by omega), decide_eq_true (show m ≤ 100 by omega), decide_eq_true (show (m : Int) ≤ (N : Int) by omega), decide_eq_true (show (N : Int) ≤ 1000 by omega)]
    simp
  have hn9 : N ≤ 1000 := by omega
  clear HOK
  go_wp2_with fail
  go_loopw [7, 8] (fun v i wr => ∃ k : Nat, k ≤ m ∧ i = .int .i64 (k : Int) ∧ Hid (OwnI wr w.heap.size v ((coms l).take k)) ∧ Hid (∀ (j : Nat), j < k → ∀ (c : Int), l[j]? = some c → blw c = true) ∧ Below w.heap.size w wr) (fun _ i _ => m - (intOf i).toNat)
  case atStart => exact ⟨0, by omega, rfl, OwnV.nil _ _ _, fun j hj => absurd hj (by omega), Below.refl _ _⟩
  case round =>
    obtain ⟨k, hk, rfl, H1, HJ, hb⟩ := hrel
    by_cases hlt : k < m
    · obtain ⟨c, hck⟩ := HEX.out k hlt
      have hc64 := HL.out.get hck
      obtain ⟨g, o, rfl, hAt⟩ := HA.out wr hb (by rintro rfl; simp at hck)
      have c1 := hAt k c hck
      have q1 : (k : Int) < (m : Int) := by omega
      have HCK := Lib.hid hck
      clear hck hAt
      by_cases hbw : blw c = true
      · have hbw2 : 0 ≤ c ∧ c < 1152921504606845789 := by
          unfold blw at hbw
          simpa using hbw
        obtain ⟨hz1, hz2⟩ := hbw2
        have q2 : ¬ c < 0 := by omega
        have q3 : ¬ (1152921504606845789 ≤ c) := by omega
        have q2' : decide (c < 0) = false := decide_eq_false q2
        have q3' : decide (c ≥ 1152921504606845789) = false := decide_eq_false q3
        have D1 := Lib.hid (fun w => RPow_any 4 c 2305843009213691579 ⟨by decide, by decide⟩ hc64 (by decide) w)
        have HC1 := Lib.hid (HC.out k c HCK.out)
        have HBW := Lib.hid hbw
        clear hbw
        obtain ⟨p, hp⟩ : ∃ p, Fld.powS 4 c 2305843009213691579 = p := ⟨_, rfl⟩
        rw [hp] at D1 HC1
        clear hp
        obtain ⟨v', w4, r1, r2, r3, r4⟩ := run_append_int wr w.heap.size u7 _ H1.out hb.size p (by have := HCL.out k; omega)
        have HB1 := Lib.hid (one_int wr p)
        have HAPP := Lib.hid r1
        have P1 : Hid (OwnI w4 w.heap.size v' ((coms l).take (k + 1))) := by
          show OwnI w4 w.heap.size v' _
          rw [HC1.out]
          exact r2
        have hb4 := below_of_grown hb r3 hb.size (fun g hg => H1.out.blk g hg)
        clear r1 r2 r3 r4 H1
        go_wp2_with fail
        refine (D1.out _).mono ?_; rintro e w3 ⟨rfl, rfl⟩
        go_wp2_with (first
          | (refine wpList_build_run rfl 22 1 #[(0, .tmp 52)] rfl #[(0, I p)] rfl _ _ HB1.out ?_)
          | (at_builtin; refine Lib.wpList_append_run _ rfl (.tmp 47) (.tmp 53) 22 22 rfl _ _ rfl rfl _ _ HAPP.out ?_))
        go_roundw
        case rel =>
          refine ⟨k + 1, by omega, by go_num, P1, fun j hj c' hc' => ?_, hb4⟩
          by_cases hjk : j < k
          · exact HJ.out j hjk c' hc'
          · obtain rfl : j = k := by omega
            rw [HCK.out] at hc'
            injection hc' with hc'
            rw [← hc']; exact HBW.out
        case measure => simp [intOf]; omega
      · have HN := Lib.hid (HNO.out (by rw [HOK2.out]; exact HBAD.out k c HCK.out (by simpa using hbw)) wr hb)
        by_cases hz1 : c < 0
        · have q2' : decide (c < 0) = true := decide_eq_true hz1
          clear hbw
          go_wp2_with fail
          refine bodyPost_ret (results_tmp3 rfl _ _ _) rfl ?_
          exact HN.out
        · have hz2 : 1152921504606845789 ≤ c := by
            unfold blw at hbw
            simp at hbw
            have := hbw (by omega)
            omega
          have q2' : decide (c < 0) = false := decide_eq_false hz1
          have q3' : decide (c ≥ 1152921504606845789) = true := decide_eq_true hz2
          clear hbw
          go_wp2_with fail
          refine bodyPost_ret (results_tmp3 rfl _ _ _) rfl ?_
          exact HN.out
    · have q1 : ¬ ((k : Int) < (m : Int)) := by omega
      obtain rfl : k = m := by omega
      have H2 : Hid (OwnI wr w.heap.size u7 (coms l)) := by
        show OwnI wr w.heap.size u7 _
        rw [← HCE.out]; exact H1.out
      have HY := Lib.hid (HYES.out (by rw [HOK2.out]; exact HALL.out k HJ.out rfl))
      clear H1 HC HCE HNO HYES HBAD HALL HJ
      have hbw := hb.size
      go_wp2_with fail
      generalize wr = w0 at *
      go_loopw [9, 10] (fun v i W => ∃ (j : Nat) (z : Int), j ≤ N ∧ z = (j : Int) + 1 ∧ i = .int .i64 z ∧ Hid (OwnSh W w0.heap.size v (shl l j)) ∧ Below w0.heap.size w0 W) (fun _ i _ => N + 1 - (intOf i).toNat)
      case atStart => exact ⟨0, 1, by omega, rfl, rfl, OwnV.nil _ _ _, Below.refl _ _⟩
      case round =>
        obtain ⟨j, z, hj, hz, rfl, H1, h0⟩ := hrel
        have hb2 := hb.trans (h0.mono hb.size)
        by_cases hjt : j < N
        · have q2 : z ≤ (N : Int) := by omega
          have q3 : 0 < z := by omega
          have q4 : z ≤ 1000 := by omega
          have D1 := Lib.hid (HVM.out z ⟨by omega, by omega⟩ wr hb2)
          have HSH := Lib.hid (shl_succ l j)
          have HSL := Lib.hid (shl_length l j)
          rw [← hz, HM.out] at HSH
          have HZ := Lib.hid hz
          clear hz
          obtain ⟨p, hp⟩ : ∃ p, pva l z k = p := ⟨_, rfl⟩
          rw [hp] at D1 HSH
          clear hp
          go_wp2_with fail
          refine D1.out.mono ?_; rintro e w3 ⟨rfl, hb3⟩
          have h3 := h0.trans (hb3.mono h0.size)
          have O1 := Lib.hid (H1.out.below hb3)
          obtain ⟨v', w4, r1, r2, r3, r4⟩ := run_append_share w3 w0.heap.size u9 _ O1.out h3.size z p (by rw [HSL.out]; omega)
          have HB1 := Lib.hid (one_share w3 z p)
          have HAPP := Lib.hid r1
          have P1 : Hid (OwnSh w4 w0.heap.size v' (shl l (j + 1))) := by
            show OwnSh w4 w0.heap.size v' _
            rw [HSH.out]
            exact r2
          have hb4 := below_of_grown h3 r3 h3.size (fun g hg => O1.out.blk g hg)
          clear r1 r2 r3 r4 H1 D1 O1 hb3 h3 h0 hb2
          go_wp2_with (first
            | (refine wpList_build_run rfl 25 1 #[(0, .tmp 65)] rfl #[(0, .agg #[I z, I p])] rfl _ _ HB1.out ?_)
            | (at_builtin; refine Lib.wpList_append_run _ rfl (.tmp 60) (.tmp 66) 25 25 rfl _ _ rfl rfl _ _ HAPP.out ?_))
          go_roundw
          case rel => exact ⟨j + 1, z + 1, by omega, by have := HZ.out; omega, rfl, P1, hb4⟩
          case measure => simp [intOf]; omega
        · have q2 : ¬ z ≤ (N : Int) := by omega
          obtain rfl : j = N := by omega
          have HAPT : Apart u9 u7 := fun g hg e => by have h1 := H1.out.blk g hg; have h2 := H2.out.blk_lt g e; omega
          have HR := Lib.hid (HY.out _ _ wr (by rw [Int.toNat_natCast]; exact H1.out.mono hbw) (H2.out.below h0) hb2 HAPT)
          clear HAPT
          clear HY
          go_wp2_with fail
          refine bodyPost_ret (results_tmp3 rfl _ _ _) rfl ?_
          exact HR.out

end Go.Proofs.Ytdnabeldaighgaa
