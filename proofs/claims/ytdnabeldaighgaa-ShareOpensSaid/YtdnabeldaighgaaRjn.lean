/- Join of the reference. Conditions: the range of int. -/
import Derived.Test.YtdnabeldaighgaaJo
namespace Go.Proofs.Ytdnabeldaighgaa
open Go.RowKit Go.Shelf Shr

theorem ShAt.cells {w : World} {g o : Nat} {l : List (Int × Int)} (h : ShAt w g o l) {k : Nat} {p : Int × Int} (hp : l[k]? = some p) : w.cell? ⟨g, o + k * 2, none⟩ = some (I p.1) ∧ w.cell? ⟨g, o + k * 2 + 1, none⟩ = some (I p.2) := by
  rw [Nat.mul_comm]; exact h k p hp

theorem Yf_in {l : List (Int × Int)} (h : AllS64 l) (k : Nat) : In64 (Yf l k) := by
  unfold Yf
  rw [List.getD_eq_getElem?_getD]
  cases hk : l[k]? with
  | none => exact ⟨by decide, by decide⟩
  | some p => exact (h p (List.mem_of_getElem? hk)).2
theorem lago_in (l : List (Int × Int)) (k : Nat) : In64 (lago l k) := by
  have := lago_range l k
  have hq : QZ = 1152921504606845789 := rfl
  constructor <;> omega
theorem abv_yes (l : List (Int × Int)) (i k : Nat) (h : k ≠ i) : abv l i (k + 1) = Fld.mulS (abv l i k) (Xf l k) 1152921504606845789 := by
  show (if k = i then abv l i k else Fld.mulS (abv l i k) (Xf l k) QZ) = _
  rw [if_neg h]
theorem abv_no (l : List (Int × Int)) (i k : Nat) (h : k = i) : abv l i (k + 1) = abv l i k := by
  show (if k = i then abv l i k else Fld.mulS (abv l i k) (Xf l k) QZ) = _
  rw [if_pos h]
theorem blo_yes (l : List (Int × Int)) (i k : Nat) (h : k ≠ i) : blo l i (k + 1) = Fld.mulS (blo l i k) (Fld.subS (Xf l k) (Xf l i) 1152921504606845789) 1152921504606845789 := by
  show (if k = i then blo l i k else Fld.mulS (blo l i k) (Fld.subS (Xf l k) (Xf l i) QZ) QZ) = _
  rw [if_neg h]
theorem blo_no (l : List (Int × Int)) (i k : Nat) (h : k = i) : blo l i (k + 1) = blo l i k := by
  show (if k = i then blo l i k else Fld.mulS (blo l i k) (Fld.subS (Xf l k) (Xf l i) QZ) QZ) = _
  rw [if_pos h]
theorem inq_in (z : Int) : In64 (inq z) := by
  have := (Fld.invS_spec z QZ (by decide)).2
  have hq : QZ = 1152921504606845789 := rfl
  unfold inq
  constructor <;> omega

set_option maxRecDepth 100000 in
set_option maxHeartbeats 2000000 in
theorem rjoin_main (N : Nat) (l : List (Int × Int)) (v : Value) (w : World) (hl : AllS64 l) (hl9 : l.length ≤ 1000000) (hA : ShArg w v l) (h1 : 1 ≤ N) (h2 : N ≤ l.length) :
    Calls Try.prog 28 #[.int .i64 (N : Int), v] w fun e w' => e = .returned (.tuple #[I (joinS N l).1, .bool (joinS N l).2]) ∧ Below w.heap.size w w' := by
  obtain ⟨a, cap, rfl, hc, hA'⟩ := hA
  have HA := Lib.hid (fun W (hb : Below w.heap.size w W) (h : l ≠ []) => (by obtain ⟨g, o, e1, e2⟩ := hA' h; exact ⟨g, o, e1, e2.below hb⟩ : ∃ g o, a = some ⟨g, o, none⟩ ∧ ShAt W g o l))
  have HBAD := Lib.hid (fun (h : jok (l.take N) = false) => joinS_bad h1 h2 h)
  have HOK := Lib.hid (fun (h : jok (l.take N) = true) => joinS_ok h1 h2 h)
  have HEX : Hid (∀ (k : Nat), k < N → ∃ p, l[k]? = some p) := fun k hk => ⟨l[k], List.getElem?_eq_getElem _⟩
  have HLEN := Lib.hid h2
  have HL := Lib.hid hl
  obtain ⟨r, hr⟩ : ∃ r, joinS N l = r := ⟨_, rfl⟩
  rw [hr] at HBAD HOK
  rw [hr]
  have hNL : (N : Int) ≤ (l.length : Int) := by omega
  have hN0 : ¬ (N : Int) < 1 := by omega
  have hN0' : decide ((N : Int) < 1) = false := decide_eq_false hN0
  have hN1 : ¬ (l.length : Int) < (N : Int) := by omega
  have hN1' : decide ((l.length : Int) < (N : Int)) = false := decide_eq_false hN1
  have HN9 : (N : Int) ≤ 1000000 := by omega
  clear hA' hr hl
  go_enter Try.func28, Try.ntmps28
  go_wp2_with fail
  go_loopw [6] (fun i wr => ∃ k : Nat, k ≤ N ∧ i = .int .i64 (k : Int) ∧ Hid (JP l k) ∧ Below w.heap.size w wr) (fun i _ => N - (intOf i).toNat)
  case atStart => exact ⟨0, by omega, rfl, JP.zero l, Below.refl _ _⟩
  case round =>
    obtain ⟨i, hi, rfl, HJ, hb⟩ := hrel
    by_cases hlt : i < N
    · obtain ⟨p, hp⟩ := HEX.out i hlt
      obtain ⟨px, py⟩ := p
      obtain ⟨hx64, hy64⟩ := HL.out _ (List.mem_of_getElem? hp)
      obtain ⟨g, o, rfl, hAt⟩ := HA.out wr hb (by rintro rfl; simp at hp)
      obtain ⟨c0, c1⟩ := hAt.cells hp
      have q1 : (i : Int) < (N : Int) := by omega
      have q2 : (i : Int) < (l.length : Int) := by omega
      have D1 := Lib.hid (fun w => rinside_any px py w)
      obtain ⟨b, hbb⟩ : ∃ b, insd (px, py) = b := ⟨_, rfl⟩
      rw [hbb] at D1
      have HB := Lib.hid hbb
      have HP := Lib.hid hp
      have XI := Lib.hid (Xf_of hp)
      clear hbb hp hAt
      go_wp2_with fail
      refine (D1.out _).mono ?_; rintro e w3 ⟨rfl, rfl⟩
      have hb3 := hb.trans (((Below.refl wr.heap.size wr).alloc (Nat.le_refl _) (.cells #[I px, I py] 33)).mono hb.size)
      clear c0 c1 D1
      cases b
      · have HR := Lib.hid (HBAD.out (jok_bad1 hlt HP.out HB.out))
        go_wp2_with fail
        refine bodyPost_ret (results_tmp2 rfl _ _ _) rfl ?_
        exact ⟨by rw [HR.out]; rfl, hb3⟩
      · go_wp2_with fail
        generalize wr.alloc (.cells #[I px, I py] 33) = w3 at *
        go_loopw [7] (fun x W => ∃ k : Nat, k ≤ i ∧ x = .int .i64 (k : Int) ∧ Hid (∀ k', k' < k → Xf l k' ≠ Xf l i) ∧ Below w.heap.size w W) (fun x _ => i - (intOf x).toNat)
        case atStart => exact ⟨0, by omega, rfl, fun k hk => absurd hk (by omega), hb3⟩
        case round =>
          clear hb3 hb
          obtain ⟨k, hk, rfl, HK, hb⟩ := hrel
          by_cases hkt : k < i
          · obtain ⟨⟨qx, qy⟩, hq⟩ := HEX.out k (by omega)
            obtain ⟨g', o', e', hAt⟩ := HA.out wr hb (by rintro rfl; simp at hq)
            cases e'
            have f1 := After.cell (hAt.cells hq).1
            have f2 := After.cell (hAt.cells HP.out).1
            have XK := Lib.hid (Xf_of hq)
            have q3 : (k : Int) < (i : Int) := by omega
            have q4 : (k : Int) < (l.length : Int) := by omega
            clear hq hAt
            go_upto_region 11 with (fail)
            refine wp_region_after (by kernel_rfl) (by kernel_rfl) ?_
            repeat (go_big_quiet_step (fail))
            refine wpQuiet_nil ?_
            rintro w5 ⟨x5, rfl⟩
            have hb5 := hb.trans (x5.hb.mono hb.size)
            generalize x5.W = w5 at *
            clear f1 f2 x5
            by_cases he : qx = px
            · have q5 : (qx == px) = true := by rw [beq_iff_eq]; exact he
              have HR := Lib.hid (HBAD.out (jok_bad2 HLEN.out hlt hkt (by rw [XK.out, XI.out]; exact he)))
              clear he
              go_wp2_with fail
              refine bodyPost_ret (results_tmp2 rfl _ _ _) rfl ?_
              exact ⟨by rw [HR.out]; rfl, hb5⟩
            · have q5 : (qx == px) = false := by rw [beq_eq_false_iff_ne]; exact he
              have HNE := Lib.hid he
              clear he
              go_wp2_with fail
              go_roundw
              case rel =>
                refine ⟨k + 1, by omega, by go_num, fun k' hk' => ?_, hb5⟩
                by_cases h3 : k' < k
                · exact HK.out k' h3
                · obtain rfl : k' = k := by omega
                  rw [XK.out, XI.out]
                  exact HNE.out
              case measure => simp [intOf]; omega
          · have q3 : ¬ ((k : Int) < (i : Int)) := by omega
            obtain rfl : k = i := by omega
            go_wp2_with fail
            go_roundw
            case rel => exact ⟨k + 1, by omega, by go_num, HJ.out.succ HP.out HB.out HK.out, hb⟩
            case measure => simp [intOf]; omega
    · have q1 : ¬ ((i : Int) < (N : Int)) := by omega
      obtain rfl : i = N := by omega
      have HY := Lib.hid (HOK.out (jok_of HLEN.out HJ.out))
      have HJ' := HJ
      clear HBAD HOK HJ
      obtain ⟨lt, hlt2⟩ : ∃ lt, l.take i = lt := ⟨_, rfl⟩
      have hll : lt.length = i := by rw [← hlt2, List.length_take]; have := HLEN.out; omega
      have HJK := Lib.hid (lago_jval lt (hlt2 ▸ jok_of HLEN.out HJ'.out) (by omega))
      rw [hll] at HJK
      rw [hlt2] at HY
      have HT := Lib.hid hlt2
      have HXF : Hid (∀ (k : Nat) (p : Int × Int), k < i → l[k]? = some p → Xf lt k = p.1 ∧ Yf lt k = p.2) := by
        show ∀ (k : Nat) (p : Int × Int), _
        intro k p hk hp
        rw [← HT.out, Xf_take l i k hk, Yf_take l i k hk]
        exact ⟨Xf_of hp, Yf_of hp⟩
      have HYI := Lib.hid (fun k => Yf_in (l := lt) (fun p hp => HL.out p (List.mem_of_mem_take (by rw [HT.out]; exact hp : p ∈ l.take i))) k)
      have HLL := Lib.hid hll
      clear hlt2 hll HJ'
      go_wp2_with fail
      go_loopw [8, 9] (fun o x W => ∃ j : Nat, j ≤ i ∧ o = I (lago lt j) ∧ x = .int .i64 (j : Int) ∧ Below w.heap.size w W) (fun _ x _ => i - (intOf x).toNat)
      case atStart => exact ⟨0, by omega, rfl, rfl, hb⟩
      case round =>
        clear hb
        obtain ⟨j, hj, rfl, rfl, hb⟩ := hrel
        by_cases hjt : j < i
        · obtain ⟨⟨px, py⟩, hp⟩ := HEX.out j hjt
          obtain ⟨g, o, rfl, hAt⟩ := HA.out wr hb (by rintro rfl; simp at hp)
          have c1 := (hAt.cells hp).2
          have q1 : (j : Int) < (i : Int) := by omega
          have q2 : (j : Int) < (l.length : Int) := by omega
          have HPX := Lib.hid (HXF.out j _ hjt hp)
          have HP := Lib.hid hp
          have HPI := Lib.hid (HL.out _ (List.mem_of_getElem? hp))
          have HAB0 : Hid (abv lt j 0 = py) := HPX.out.2
          clear hp hAt
          go_wp2_with fail
          clear c1
          go_loopw [10, 11, 12] (fun u v x W => ∃ k : Nat, k ≤ i ∧ u = I (abv lt j k) ∧ v = I (blo lt j k) ∧ x = .int .i64 (k : Int) ∧ Below w.heap.size w W) (fun _ _ x _ => i - (intOf x).toNat)
          case atStart => exact ⟨0, by omega, by rw [HAB0.out], rfl, rfl, hb⟩
          case round =>
            clear hb
            obtain ⟨k, hk, rfl, rfl, rfl, hb⟩ := hrel
            by_cases hkt : k < i
            · have q3 : (k : Int) < (i : Int) := by omega
              have q4 : (k : Int) < (l.length : Int) := by omega
              by_cases hkj : k = j
              · have q5 : ((k : Int) != (j : Int)) = false := by rw [bne_eq_false_iff_eq]; omega
                have e1 := Lib.hid (abv_no lt j k hkj)
                have e2 := Lib.hid (blo_no lt j k hkj)
                clear hkj
                go_wp2_with fail
                go_roundw
                case rel => exact ⟨k + 1, by omega, by rw [e1.out], by rw [e2.out], by go_num, hb⟩
                case measure => simp [intOf]; omega
              · have q5 : ((k : Int) != (j : Int)) = true := by rw [bne_iff_ne]; omega
                have e1 := Lib.hid (abv_yes lt j k hkj)
                have e2 := Lib.hid (blo_yes lt j k hkj)
                clear hkj
                obtain ⟨⟨qx, qy⟩, hq⟩ := HEX.out k hkt
                obtain ⟨g', o', e', hAt⟩ := HA.out wr hb (by rintro rfl; simp at hq)
                cases e'
                have c0 := (hAt.cells hq).1
                have c2 := (hAt.cells HP.out).1
                have f0 := After.cell c0
                have f2 := After.cell c2
                obtain ⟨qx64, _⟩ := HL.out _ (List.mem_of_getElem? hq)
                obtain ⟨px64, _⟩ := HPI.out
                have HQX := Lib.hid (HXF.out k _ hkt hq)
                have D1 := Lib.hid (fun w => RMul_any (abv lt j k) qx 1152921504606845789 (abv_in lt j HYI.out k) qx64 (by decide) w)
                have D2 := Lib.hid (fun w => quiet_eq (RSub_any qx px 1152921504606845789 qx64 px64 (by decide) w))
                have D3 := Lib.hid (fun w => quiet_eq (RMul_any (blo lt j k) (Fld.subS qx px 1152921504606845789) 1152921504606845789 (blo_in lt j k) (subS_in (by decide)) (by decide) w))
                have E1 : Hid (abv lt j (k + 1) = Fld.mulS (abv lt j k) qx 1152921504606845789) := by
                  show abv lt j (k + 1) = _
                  rw [e1.out, HQX.out.1]
                have E2 : Hid (blo lt j (k + 1) = Fld.mulS (blo lt j k) (Fld.subS qx px 1152921504606845789) 1152921504606845789) := by
                  show blo lt j (k + 1) = _
                  rw [e2.out, HQX.out.1, HPX.out.1]
                clear hq hAt c2
                obtain ⟨A, hA1⟩ : ∃ A, Fld.mulS (abv lt j k) qx 1152921504606845789 = A := ⟨_, rfl⟩
                obtain ⟨B, hB1⟩ : ∃ B, Fld.mulS (blo lt j k) (Fld.subS qx px 1152921504606845789) 1152921504606845789 = B := ⟨_, rfl⟩
                rw [hA1] at D1 E1
                rw [hB1] at D3 E2
                clear hA1 hB1
                go_wp2_with fail
                refine (D1.out _).mono ?_; rintro e w3 ⟨rfl, rfl⟩
                clear c0
                go_upto_region 24 with (fail)
                refine wp_region_after (by kernel_rfl) (by kernel_rfl) ?_
                repeat (go_big_quiet_step (first | (with_reducible exact After.call (D2.out _)) | (with_reducible exact After.call (D3.out _))))
                refine wpQuiet_nil ?_
                rintro w5 ⟨x5, rfl⟩
                have hb5 := hb.trans (x5.hb.mono hb.size)
                generalize x5.W = w5 at *
                clear f0 f2 x5
                go_wp2_with fail
                go_roundw
                case rel => exact ⟨k + 1, by omega, by rw [E1.out], by rw [E2.out], by go_num, hb5⟩
                case measure => simp [intOf]; omega
            · have q3 : ¬ ((k : Int) < (i : Int)) := by omega
              obtain rfl : k = i := by omega
              have D1 := Lib.hid (fun w => (RInv_any (blo lt j k) 1152921504606845789 (blo_in lt j k) (by decide) w : Calls Try.prog 51 #[I (blo lt j k), I 1152921504606845789] w fun e w' => e = .returned (.tuple #[I (inq (blo lt j k)), .bool (Fld.invS (blo lt j k) 1152921504606845789).2]) ∧ w = w'))
              have D2 := Lib.hid (fun w => RMul_any (abv lt j k) (inq (blo lt j k)) 1152921504606845789 (abv_in lt j HYI.out k) (inq_in _) (by decide) w)
              have D3 := Lib.hid (fun w => RAdd_any (lago lt j) (Fld.mulS (abv lt j k) (inq (blo lt j k)) 1152921504606845789) 1152921504606845789 (lago_in lt j) (mulS_in (by decide)) (by decide) w)
              have E1 : Hid (lago lt (j + 1) = Fld.addS (lago lt j) (Fld.mulS (abv lt j k) (inq (blo lt j k)) 1152921504606845789) 1152921504606845789) := by
                show Fld.addS (lago lt j) (Fld.mulS (abv lt j lt.length) (inq (blo lt j lt.length)) QZ) QZ = _
                rw [HLL.out]
              go_wp2_with fail
              refine (D1.out _).mono ?_; rintro e w3 ⟨rfl, rfl⟩
              go_wp2_with fail
              refine (D2.out _).mono ?_; rintro e w3 ⟨rfl, rfl⟩
              go_wp2_with fail
              refine (D3.out _).mono ?_; rintro e w3 ⟨rfl, rfl⟩
              go_wp2_with fail
              go_roundw
              case rel => exact ⟨j + 1, by omega, by rw [E1.out], by go_num, hb⟩
              case measure => simp [intOf]; omega
        · have q1 : ¬ ((j : Int) < (i : Int)) := by omega
          obtain rfl : j = i := by omega
          go_wp2_with fail
          refine bodyPost_ret (results_tmp2 rfl _ _ _) rfl ?_
          exact ⟨by rw [HY.out, ← HJK.out]; rfl, hb⟩

set_option maxRecDepth 100000 in
set_option maxHeartbeats 2000000 in
theorem RJoin_any (need : Int) (l : List (Int × Int)) (v : Value) (w : World) (hl : AllS64 l) (hl9 : l.length ≤ 1000000) (hA : ShArg w v l) :
    Calls Try.prog 28 #[I need, v] w fun e w' => e = .returned (.tuple #[I (joinS need l).1, .bool (joinS need l).2]) ∧ Below w.heap.size w w' := by
  by_cases h : need < 1 ∨ (l.length : Int) < need
  · rw [joinS_no h]
    obtain ⟨a, cap, rfl, hc, _⟩ := hA
    clear hl
    by_cases h1 : need < 1
    · have t1 : decide (need < 1) = true := decide_eq_true h1
      clear h
      go_enter Try.func28, Try.ntmps28
      go_wp2_with fail
      refine bodyPost_ret (results_tmp2 rfl _ _ _) rfl ?_
      exact ⟨rfl, Below.refl _ _⟩
    · have h2 : (l.length : Int) < need := by omega
      have t1 : decide (need < 1) = false := decide_eq_false h1
      have t2 : decide ((l.length : Int) < need) = true := decide_eq_true h2
      clear h
      go_enter Try.func28, Try.ntmps28
      go_wp2_with fail
      refine bodyPost_ret (results_tmp2 rfl _ _ _) rfl ?_
      exact ⟨rfl, Below.refl _ _⟩
  · obtain ⟨N, rfl⟩ := Int.eq_ofNat_of_zero_le (show 0 ≤ need by omega)
    exact rjoin_main N l v w hl hl9 hA (by omega) (by omega)

end Go.Proofs.Ytdnabeldaighgaa
