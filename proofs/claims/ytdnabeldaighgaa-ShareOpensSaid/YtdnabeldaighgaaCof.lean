/- Coefs. Conditions: the range of int. -/
import Derived.Test.YtdnabeldaighgaaRsp
namespace Go.Proofs.Ytdnabeldaighgaa
open Go.RowKit Go.Shelf Shr

namespace Shr
/-- One coefficient out of a number. -/
def cof1 (x : Int) : Int := (if x % 4 = 0 then (x.tdiv 4) % 10 else if x % 4 = 1 then 1152921504606845788 - (x.tdiv 4) % 10 else x) % QZ
def cofs (l : List Int) : List Int := if l = [] then [7] else (l.take 6).map cof1
end Shr
theorem tdiv4_in {c : Int} (h : In64 c) : In64 (c.tdiv 4) := by
  obtain ⟨h1, h2⟩ := h
  rcases Int.le_total 0 c with h | h
  · rw [Int.tdiv_eq_ediv_of_nonneg h]; constructor <;> omega
  · have : c.tdiv 4 = -((-c) / 4) := by rw [← Int.tdiv_eq_ediv_of_nonneg (by omega), Int.neg_tdiv, Int.neg_neg]
    rw [this]; constructor <;> omega
theorem cof1_in (x : Int) : 0 ≤ cof1 x ∧ cof1 x < QZ := ⟨Int.emod_nonneg _ (by decide), Int.emod_lt_of_pos _ (by decide)⟩
theorem cofs_all (l : List Int) : ∀ c ∈ cofs l, 0 ≤ c ∧ c < QZ := by
  unfold cofs
  split
  · intro c hc; simp at hc; subst hc; decide
  · intro c hc
    obtain ⟨x, _, rfl⟩ := List.mem_map.1 hc
    exact cof1_in x
theorem cofs_len (l : List Int) : 1 ≤ (cofs l).length ∧ (cofs l).length ≤ 6 := by
  unfold cofs
  split
  · decide
  · rename_i h
    have : 1 ≤ l.length := by cases l with | nil => exact absurd rfl h | cons _ _ => simp
    rw [List.length_map, List.length_take]
    omega

set_option maxRecDepth 100000 in
set_option maxHeartbeats 2000000 in
theorem Coefs_any (l : List Int) (v : Value) (w : World) (hl : All64 l) (hl9 : l.length ≤ 9223372036854775807) (hA : IArg w v l) :
    Calls Try.prog 12 #[v] w fun e w' => ∃ v', e = .returned v' ∧ OwnI w' w.heap.size v' (cofs l) ∧ Below w.heap.size w w' := by
  obtain ⟨a, cap, rfl, hc, hA'⟩ := hA
  have HA := Lib.hid (fun W (hb : Below w.heap.size w W) (h : l ≠ []) => (by obtain ⟨g, o, e1, e2⟩ := hA' h; exact ⟨g, o, e1, e2.below hb⟩ : ∃ g o, a = some ⟨g, o, none⟩ ∧ IAt W g o l))
  have HEX : Hid (∀ (k : Nat), k < l.length → ∃ c, l[k]? = some c) := fun k hk => ⟨l[k], List.getElem?_eq_getElem hk⟩
  have HS : Hid (∀ (k : Nat) (c : Int), l[k]? = some c → (l.take (k + 1)).map cof1 = (l.take k).map cof1 ++ [cof1 c]) := by
    show ∀ (k : Nat) (c : Int), _
    intro k c hk
    rw [List.take_add_one, hk]; simp
  have HSL : Hid (∀ k, ((l.take k).map cof1).length ≤ k) := fun k => by rw [List.length_map]; exact List.length_take_le k l
  have HEND : Hid (∀ k, k ≤ l.length → ¬ (k < l.length ∧ k < 6) → k ≠ 0 → k ≤ 6 → (l.take k).map cof1 = cofs l) := by
    show ∀ k, _
    intro k h1 h2 h3 h4
    unfold cofs
    rw [if_neg (by rintro rfl; simp at h1; omega)]
    rcases Nat.lt_or_ge k 6 with h | h
    · have : k = l.length := by omega
      rw [List.take_of_length_le (by omega), List.take_of_length_le (by omega)]
    · rw [show k = 6 by omega]
  have HEMP : Hid (l.length = 0 → cofs l = [7]) := fun h => by
    obtain rfl : l = [] := List.length_eq_zero_iff.1 h
    rfl
  have HNE : Hid (∀ (k : Nat) (c : Int), l[k]? = some c → l ≠ []) := by
    show ∀ (k : Nat) (c : Int), _
    rintro k c h rfl
    simp at h
  have HL := Lib.hid hl
  have HLEN : Hid (∀ k, k ≤ l.length → ((l.take k).map cof1).length = k) := fun k hk => by rw [List.length_map, List.length_take]; omega
  clear hA' hl
  obtain ⟨m, hm⟩ : ∃ m, l.length = m := ⟨_, rfl⟩
  rw [hm] at hc hl9 HEX HEND HEMP HLEN
  rw [hm]
  clear hm
  go_enter Try.func12, Try.ntmps12
  go_wp2_with fail
  go_loopw [3, 4] (fun v i wr => ∃ k : Nat, k ≤ m ∧ k ≤ 6 ∧ i = .int .i64 (k : Int) ∧ Hid (OwnI wr w.heap.size v ((l.take k).map cof1)) ∧ Below w.heap.size w wr) (fun _ i _ => 6 - (intOf i).toNat)
  case atStart => exact ⟨0, by omega, by omega, rfl, OwnV.nil _ _ _, Below.refl _ _⟩
  case round =>
    obtain ⟨k, hk, hk6, rfl, H1, hb⟩ := hrel
    by_cases hlt : k < m
    · have q1 : (k : Int) < (m : Int) := by omega
      have q1' : decide ((k : Int) < (m : Int)) = true := decide_eq_true q1
      by_cases h6 : k < 6
      · have q2 : (k : Int) < 6 := by omega
        obtain ⟨c, hck⟩ := HEX.out k hlt
        have hc64 := HL.out.get hck
        obtain ⟨g, o, rfl, hAt⟩ := HA.out wr hb (HNE.out k c hck)
        have c1 := hAt k c hck
        obtain ⟨hc1, hc2⟩ := id hc64
        have D1 := Lib.hid (fun w => Mod_any c 4 hc64 (by decide) (by decide) w)
        have hq := tdiv4_in hc64
        have hqw : IntKind.i64.wrap (c.tdiv 4) = c.tdiv 4 := wrap_in _ hq.1 hq.2
        have D2 := Lib.hid (fun w => Mod_any (c.tdiv 4) 10 hq (by decide) (by decide) w)
        have hr := Int.emod_nonneg (c.tdiv 4) (show (10 : Int) ≠ 0 by decide)
        have hr2 := Int.emod_lt_of_pos (c.tdiv 4) (show (0 : Int) < 10 by decide)
        have D3 := Lib.hid (fun (z : Int) (hz : In64 z) w => Mod_any z 1152921504606845789 hz (by decide) (by decide) w)
        have HCF : Hid (cof1 c = (if c % 4 = 0 then (c.tdiv 4) % 10 else if c % 4 = 1 then 1152921504606845788 - (c.tdiv 4) % 10 else c) % 1152921504606845789) := rfl
        have HS1 := Lib.hid (HS.out k c hck)
        by_cases m0 : c % 4 = 0
        · have m0' : (c % 4 == 0) = true := by rw [beq_iff_eq]; exact m0
          have HM0 := Lib.hid m0
          clear m0
          have HCF2 : Hid (cof1 c = ((c.tdiv 4) % 10) % 1152921504606845789) := by
            show cof1 c = _
            rw [HCF.out, if_pos HM0.out]
          have D4 := Lib.hid (fun w => D3.out ((c.tdiv 4) % 10) ⟨by omega, by omega⟩ w)
          obtain ⟨p, hp⟩ : ∃ p, ((c.tdiv 4) % 10) % 1152921504606845789 = p := ⟨_, rfl⟩
          rw [hp] at D4 HCF2
          rw [HCF2.out] at HS1
          clear hp
          obtain ⟨v', w4, r1, r2, r3, r4⟩ := run_append_int wr w.heap.size u3 _ H1.out hb.size p (by have := HSL.out k; omega)
          have HB1 := Lib.hid (one_int wr p)
          have HAPP := Lib.hid r1
          have P1 : Hid (OwnI w4 w.heap.size v' ((l.take (k + 1)).map cof1)) := by
            show OwnI w4 w.heap.size v' _
            rw [HS1.out]
            exact r2
          have hb4 := below_of_grown hb r3 hb.size (fun g hg => H1.out.blk g hg)
          clear r1 r2 r3 r4 H1
          go_wp2_with fail
          refine (D1.out _).mono ?_; rintro e w3 ⟨rfl, rfl⟩
          go_wp2_with fail
          refine (D2.out _).mono ?_; rintro e w3 ⟨rfl, rfl⟩
          go_wp2_with fail
          refine (D4.out _).mono ?_; rintro e w3 ⟨rfl, rfl⟩
          go_wp2_with (first
            | (refine wpList_build_run rfl 22 1 #[(0, .tmp 44)] rfl #[(0, I p)] rfl _ _ HB1.out ?_)
            | (at_builtin; refine Lib.wpList_append_run _ rfl (.tmp 42) (.tmp 45) 22 22 rfl _ _ rfl rfl _ _ HAPP.out ?_))
          go_roundw
          case rel => exact ⟨k + 1, by omega, by omega, by go_num, P1, hb4⟩
          case measure => simp [intOf]; omega
        · have m0' : (c % 4 == 0) = false := by rw [beq_eq_false_iff_ne]; exact m0
          have HM0 := Lib.hid m0
          clear m0
          by_cases m1 : c % 4 = 1
          · have m1' : (c % 4 == 1) = true := by rw [beq_iff_eq]; exact m1
            have HM1 := Lib.hid m1
            clear m1
            have HCF2 : Hid (cof1 c = (1152921504606845788 - (c.tdiv 4) % 10) % 1152921504606845789) := by
              show cof1 c = _
              rw [HCF.out, if_neg HM0.out, if_pos HM1.out]
            have D4 := Lib.hid (fun w => D3.out (1152921504606845788 - (c.tdiv 4) % 10) ⟨by omega, by omega⟩ w)
            obtain ⟨p, hp⟩ : ∃ p, (1152921504606845788 - (c.tdiv 4) % 10) % 1152921504606845789 = p := ⟨_, rfl⟩
            rw [hp] at D4 HCF2
            rw [HCF2.out] at HS1
            clear hp
            obtain ⟨v', w4, r1, r2, r3, r4⟩ := run_append_int wr w.heap.size u3 _ H1.out hb.size p (by have := HSL.out k; omega)
            have HB1 := Lib.hid (one_int wr p)
            have HAPP := Lib.hid r1
            have P1 : Hid (OwnI w4 w.heap.size v' ((l.take (k + 1)).map cof1)) := by
              show OwnI w4 w.heap.size v' _
              rw [HS1.out]
              exact r2
            have hb4 := below_of_grown hb r3 hb.size (fun g hg => H1.out.blk g hg)
            clear r1 r2 r3 r4 H1
            go_wp2_with fail
            refine (D1.out _).mono ?_; rintro e w3 ⟨rfl, rfl⟩
            go_wp2_with fail
            refine (D2.out _).mono ?_; rintro e w3 ⟨rfl, rfl⟩
            go_wp2_with fail
            refine (D4.out _).mono ?_; rintro e w3 ⟨rfl, rfl⟩
            go_wp2_with (first
              | (refine wpList_build_run rfl 22 1 #[(0, .tmp 44)] rfl #[(0, I p)] rfl _ _ HB1.out ?_)
              | (at_builtin; refine Lib.wpList_append_run _ rfl (.tmp 42) (.tmp 45) 22 22 rfl _ _ rfl rfl _ _ HAPP.out ?_))
            go_roundw
            case rel => exact ⟨k + 1, by omega, by omega, by go_num, P1, hb4⟩
            case measure => simp [intOf]; omega
          · have m1' : (c % 4 == 1) = false := by rw [beq_eq_false_iff_ne]; exact m1
            have HM1 := Lib.hid m1
            clear m1
            have HCF2 : Hid (cof1 c = c % 1152921504606845789) := by
              show cof1 c = _
              rw [HCF.out, if_neg HM0.out, if_neg HM1.out]
            have D4 := Lib.hid (fun w => D3.out c hc64 w)
            obtain ⟨p, hp⟩ : ∃ p, c % 1152921504606845789 = p := ⟨_, rfl⟩
            rw [hp] at D4 HCF2
            rw [HCF2.out] at HS1
            clear hp
            obtain ⟨v', w4, r1, r2, r3, r4⟩ := run_append_int wr w.heap.size u3 _ H1.out hb.size p (by have := HSL.out k; omega)
            have HB1 := Lib.hid (one_int wr p)
            have HAPP := Lib.hid r1
            have P1 : Hid (OwnI w4 w.heap.size v' ((l.take (k + 1)).map cof1)) := by
              show OwnI w4 w.heap.size v' _
              rw [HS1.out]
              exact r2
            have hb4 := below_of_grown hb r3 hb.size (fun g hg => H1.out.blk g hg)
            clear r1 r2 r3 r4 H1
            go_wp2_with fail
            refine (D1.out _).mono ?_; rintro e w3 ⟨rfl, rfl⟩
            go_wp2_with fail
            refine (D4.out _).mono ?_; rintro e w3 ⟨rfl, rfl⟩
            go_wp2_with (first
              | (refine wpList_build_run rfl 22 1 #[(0, .tmp 44)] rfl #[(0, I p)] rfl _ _ HB1.out ?_)
              | (at_builtin; refine Lib.wpList_append_run _ rfl (.tmp 42) (.tmp 45) 22 22 rfl _ _ rfl rfl _ _ HAPP.out ?_))
            go_roundw
            case rel => exact ⟨k + 1, by omega, by omega, by go_num, P1, hb4⟩
            case measure => simp [intOf]; omega
      · have q2 : ¬ ((k : Int) < 6) := by omega
        have HE := Lib.hid (HEND.out k hk (by omega) (by omega) hk6)
        have hk0 := HLEN.out k hk
        obtain ⟨a3, c3, e3, h3⟩ := H1.out.form
        rw [hk0] at e3
        subst e3
        have q3 : ((k : Int) == 0) = false := by rw [beq_eq_false_iff_ne]; omega
        have HR : Hid (OwnI wr w.heap.size (.slice a3 k c3) (cofs l)) := by
          show OwnI wr w.heap.size _ _
          rw [← HE.out]; exact H1.out
        clear H1 hk0
        go_wp2_with fail
        go_ret
        exact ⟨_, rfl, HR.out, hb⟩
    · have q1 : ¬ ((k : Int) < (m : Int)) := by omega
      have hk0 := HLEN.out k hk
      obtain ⟨a3, c3, e3, h3⟩ := H1.out.form
      rw [hk0] at e3
      subst e3
      by_cases hz : k = 0
      · have q3 : ((k : Int) == 0) = true := by rw [beq_iff_eq]; omega
        have HE := Lib.hid (HEMP.out (by omega))
        have HB1 := Lib.hid (one_int wr 7)
        have NB := Blk.new wr #[I 7] 3
        have hb4 := hb.trans (((Below.refl wr.heap.size wr).alloc (Nat.le_refl _) (.cells #[I 7] 3)).mono hb.size)
        have HR : Hid (OwnI (wr.alloc (.cells #[I 7] 3)) w.heap.size (.slice (some ⟨wr.heap.size, 0, none⟩) 1 1) (cofs l)) := by
          show OwnI _ w.heap.size _ _
          rw [HE.out]
          refine .inr ⟨_, 1, rfl, rfl, Nat.le_refl _, hb.size, by simp, by simp, fun j hj => ?_, fun j _ => NB.frozen j, fun j v hv => ?_⟩
          · obtain rfl : j = 0 := by omega
            rw [NB.cell 0 (I 7) rfl]; rfl
          · rw [Nat.zero_add]
            exact NB.cell j v (by simpa using hv)
        clear H1 hk0 hz
        go_wp2_with (refine wpList_build_run rfl 22 1 #[(0, .const (.int .i64 7))] rfl #[(0, I 7)] rfl _ _ HB1.out ?_)
        go_ret
        exact ⟨_, rfl, HR.out, hb4⟩
      · have q3 : ((k : Int) == 0) = false := by rw [beq_eq_false_iff_ne]; omega
        have HE := Lib.hid (HEND.out k hk (by omega) hz hk6)
        have HR : Hid (OwnI wr w.heap.size (.slice a3 k c3) (cofs l)) := by
          show OwnI wr w.heap.size _ _
          rw [← HE.out]; exact H1.out
        clear H1 hk0
        go_wp2_with fail
        go_ret
        exact ⟨_, rfl, HR.out, hb⟩

end Go.Proofs.Ytdnabeldaighgaa
