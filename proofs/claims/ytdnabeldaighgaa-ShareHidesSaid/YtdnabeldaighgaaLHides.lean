/- ShareHides: with one share too few, every secret is possible; no condition. -/
import Derived.Test.YtdnabeldaighgaaPlh
namespace Go.Proofs.Ytdnabeldaighgaa.LHides
open Go.ChangeShapes Go.WideShapes Go.ChangeAt Go.RowKit Go.Shelf Go.ChangeMaps Shr Pol

theorem app77 (w : World) (v : Value) (s : List (Int × Int)) (hA : ShArg w v s) (hs : s.length ≤ 1000) (y : Int) : ∃ v1 w1 v2 w2,
    (Builtin.append_ #[25, 25] 25 #[.slice (some ⟨w.heap.size, 0, none⟩) 0 0, v]).run Try.prog (w.alloc (.cells #[] 33)) = .ok v1 w1 ∧
    (Builtin.append_ #[25, 25] 25 #[v1, .slice (some ⟨w1.heap.size, 0, none⟩) 1 1]).run Try.prog (w1.alloc (.cells #[I 77, I y] 33)) = .ok v2 w2 ∧ ShArg w2 v2 (w77 s y) ∧ Below w.heap.size w w2 := by
  have b1 := (Below.refl w.heap.size w).alloc (Nat.le_refl _) (.cells #[] 33)
  obtain ⟨v1, w1, r1, o1, g1, _⟩ := run_append_shares (w.alloc (.cells #[] 33)) w.heap.size _ v [] s (OwnSh.empty w _ (Nat.le_refl _)) b1.size (hA.below b1) (by simp; omega)
  have b2 := below_of_grown b1 g1 b1.size (fun g hg => by cases hg; exact Nat.le_refl _)
  rw [List.nil_append] at o1
  obtain ⟨v2, w2, r2, o2, g2, _⟩ := run_append_share w1 w.heap.size v1 s o1 b2.size 77 y (by omega)
  exact ⟨v1, w1, v2, w2, r1, r2, o2.sharg, below_of_grown b2 g2 b2.size (fun g hg => o1.blk g hg)⟩
theorem w77_64 {s : List (Int × Int)} (hs : AllS64 s) {y : Int} (hy : In64 y) : AllS64 (w77 s y) := fun p hp => by
  rcases List.mem_append.1 hp with hp | hp
  · exact hs p hp
  · rw [List.mem_singleton.1 hp]; exact ⟨show In64 77 from ⟨by decide, by decide⟩, hy⟩
theorem shl_take (cs : List Int) (N M : Nat) (h : M ≤ N) : (shl cs N).take M = shl cs M := by
  unfold shl
  rw [← List.map_take, List.take_range, Nat.min_eq_left h]
theorem shl_small (cs : List Int) (M : Nat) (hM : M ≤ 10) : ∀ p ∈ shl cs M, p.1 ≠ 77 := fun p hp => by
  obtain ⟨j, hj, rfl⟩ := List.mem_map.1 hp
  have := List.mem_range.1 hj
  show (j : Int) + 1 ≠ 77
  omega
set_option maxRecDepth 100000 in
set_option maxHeartbeats 2000000 in
theorem walk (w : World) (v u : Value) (l pk : List Int) (oth : Int) (hl : All64 l) (hl9 : l.length ≤ 9223372036854775807) (hA : IArg w v l) (hp : All64 pk) (hp9 : pk.length ≤ 9223372036854775807) (hP : IArg w u pk) (ho : In64 oth) :
    Calls Try.prog 3 #[v, u, I oth] w fun e w' => e = .returned (.bool true) ∧ Below w.heap.size w w' := by
  have C1 := Lib.hid (fun (w' : World) (hb : Below w.heap.size w w') => Coefs_any l v w' hl hl9 (hA.below hb))
  have C2 := Lib.hid (fun (s : List (Int × Int)) (v : Value) (w' : World) (hs : s.length ≤ 1000000) (hv : ShArg w' v s) (hb : Below w.heap.size w w') => Chosen_any s pk v u w' hp hp9 hs hv (hP.below hb))
  obtain ⟨a, cap, rfl, hc, _⟩ := hA
  have hcs := cofs_blw l
  obtain ⟨hn1, hn2⟩ := cofs_len l
  generalize cofs l = cs at *
  obtain ⟨ua, ucap, rfl, huc, _⟩ := hP
  have M1 := Lib.hid (fun (v : Value) (w : World) (h : IArg w v cs) => made_good cs 5 (by decide) v w hcs hn1 (by omega) h)
  obtain ⟨n, hn⟩ : ∃ n, cs.length = n := ⟨_, rfl⟩
  have HN := Lib.hid hn
  have hB := Below.refl w.heap.size w
  have hw0 := Int.emod_nonneg oth (show QZ ≠ 0 by decide)
  have hw1 := Int.emod_lt_of_pos oth (show 0 < QZ by decide)
  have D1 := Lib.hid (fun w => Mod_any oth 1152921504606845789 ho (by decide) (by decide) w)
  obtain ⟨want, hwant⟩ : ∃ want, oth % 1152921504606845789 = want := ⟨_, rfl⟩
  rw [hwant] at D1
  rw [show oth % QZ = want from hwant] at hw0 hw1
  rw [hn] at hn1 hn2
  clear hn hp hl hwant ho
  go_enter Try.func3, Try.ntmps3
  go_wp2_with fail
  refine (Calls.chain hB (sanity_any _)).mono ?_; clear hB; rintro e w2 ⟨rfl, hB⟩
  go_wp2_with fail
  refine (C1.out _ hB).mono ?_; rintro e w3 ⟨v3, rfl, o3, hb⟩
  have hB := hB.trans (hb.mono hB.size)
  have HI3 := Lib.hid o3.iarg
  obtain ⟨a3, c3, rfl, hc3⟩ := o3.form
  rw [HN.out] at hc3 HI3
  rw [HN.out]
  clear hb C1 o3
  go_wp2_with fail
  refine (M1.out _ _ HI3.out).mono ?_; rintro e w4 ⟨v1, v2, rfl, o1, o2, hb, _⟩
  have hB := hB.trans (hb.mono hB.size)
  rw [HN.out] at o1
  simp only [Nat.reduceMod] at o1
  obtain ⟨g, c1, rfl, hc1, VR⟩ := OwnV.row o1 (by rw [shl_length]; omega)
  rw [shl_length] at hc1
  rw [shl_length]
  obtain ⟨N, hN⟩ : ∃ N, n + 5 = N := ⟨_, rfl⟩
  rw [hN] at VR hc1
  rw [hN]
  have hN11 : N ≤ 11 := by omega
  obtain ⟨M, hM10, hMN, hmin⟩ : ∃ M : Nat, M ≤ 10 ∧ M ≤ N ∧ ∀ (w : World) (ts : Array TypeId) (t : TypeId), (Builtin.min_ ts t #[.int .i64 (N : Int), .int .i64 10]).run Try.prog w = .ok (.int .i64 (M : Int)) w := by
    by_cases h : N ≤ 10
    · refine ⟨N, h, Nat.le_refl _, fun w ts t => ?_⟩
      rw [run_min_int2]
      by_cases h2 : (10 : Int) < (N : Int)
      · omega
      · first | rw [if_neg h2] | (rw [if_pos (by omega)])
    · refine ⟨10, by omega, by omega, fun w ts t => ?_⟩
      rw [run_min_int2]
      first | (rw [if_pos (by omega)]; rfl) | (rw [if_neg (by omega)]; rfl)
  have HS4 : Hid (ShArg w4 (.slice (some ⟨g, 0, none⟩) M c1) (shl cs M)) := by
    have hat := (OwnV.shat (cap := c1) VR).take M
    rw [shl_take cs N M hMN] at hat
    exact ShArg.of (shl_length cs M) (by omega) hat
  have hsl : ∀ w, (Instr.sliceAt 25 (.slice (some ⟨g, 0, none⟩) N c1) none (some (.int .i64 (M : Int))) none).run Try.prog w = .ok (.slice (some ⟨g, 0, none⟩) M c1) w := fun w => by
    have e0 : (M : Int) ≤ (c1 : Int) := by omega
    go_simp
  clear hb M1 o1 o2 VR hN
  go_wp2_with fail
  refine (D1.out _).mono ?_; rintro e w5 ⟨rfl, rfl⟩
  go_wp2_with fail
  refine (C2.out _ _ _ (by rw [shl_length]; omega) HS4.out hB).mono ?_; rintro e w5 ⟨v5, rfl, o5, hb⟩
  have hB := hB.trans (hb.mono hB.size)
  have hsm : ∀ p ∈ choS (shl cs M) pk, insd p = true := fun p hp => isS_insd (shl_isS cs _ (by omega) p (choS_mem hp))
  have hs64 : AllS64 (choS (shl cs M) pk) := fun p hp => shl_all64 cs _ (by omega) p (choS_mem hp)
  have hs77 : ∀ p ∈ choS (shl cs M) pk, p.1 ≠ 77 := fun p hp => shl_small cs M hM10 p (choS_mem hp)
  have hsn := choS_nodup pk (shl_nodup cs M)
  have hsml : (choS (shl cs M) pk).length ≤ 1000 := by
    have := choS_len (shl cs M) pk
    rw [shl_length] at this; omega
  obtain ⟨sb, hsb⟩ : ∃ sb, choS (shl cs M) pk = sb := ⟨_, rfl⟩
  rw [hsb] at o5 hsm hs64 hsn hsml hs77
  have HS5 := Lib.hid o5.sharg
  obtain ⟨a5, c5, rfl, hc5⟩ := o5.form
  obtain ⟨m, hm⟩ : ∃ m, sb.length = m := ⟨_, rfl⟩
  have HM := Lib.hid hm
  rw [hm] at hc5 HS5 hsml
  rw [hm]
  obtain ⟨n1, hn1'⟩ : ∃ n1, n = n1 + 1 := ⟨n - 1, by omega⟩
  have hsub : (n : Int) - 1 = (n1 : Int) := by omega
  have HN1 := Lib.hid hn1'
  clear hm o5 hb hsb C2 D1 HS4 hmin hsl
  by_cases hmn : m < n1
  · have q1 : (m : Int) < (n1 : Int) := by omega
    have q2 : decide (m < n1) = true := decide_eq_true hmn
    clear hn1'
    go_wp2_with fail
    go_ret
    exact ⟨rfl, hB⟩
  have q1 : ¬ (m : Int) < (n1 : Int) := by omega
  have q2 : decide (m < n1) = false := decide_eq_false hmn
  have hsl2 : ∀ w, (Instr.sliceAt 25 (.slice a5 m c5) none (some (.int .i64 (n1 : Int))) none).run Try.prog w = .ok (.slice a5 n1 c5) w := fun w => by
    have e0 : (n1 : Int) ≤ (c5 : Int) := by omega
    cases a5 with
    | none => go_simp
    | some p => go_simp
  have hk1 : ∀ p ∈ sb.take n1, insd p = true := fun p hp => hsm p (List.mem_of_mem_take hp)
  have hk2 : AllS64 (sb.take n1) := fun p hp => hs64 p (List.mem_of_mem_take hp)
  have hk3 : ∀ p ∈ sb.take n1, p.1 ≠ 77 := fun p hp => hs77 p (List.mem_of_mem_take hp)
  have hk4 : ((sb.take n1).map Prod.fst).Nodup := by rw [List.map_take]; exact hsn.sublist (List.take_sublist _ _)
  have hk5 : (sb.take n1).length = n1 := by rw [List.length_take, HM.out]; omega
  have HSM : Hid (ShArg w5 (.slice a5 n1 c5) (sb.take n1)) := by
    obtain ⟨a, cp, e, e2, h⟩ := HS5.out
    cases e
    exact ⟨a5, c5, by rw [hk5], by omega, fun hne => by
      obtain ⟨g, o, h1, h2⟩ := h (by rintro rfl; simp at hne)
      exact ⟨g, o, h1, h2.take n1⟩⟩
  obtain ⟨sm, hsmm⟩ : ∃ sm, sb.take n1 = sm := ⟨_, rfl⟩
  rw [hsmm] at hk1 hk2 hk3 hk4 hk5 HSM
  have hA77 := w77_any hk1 hk4 hk3 hw0 hw1
  have hJ77 : ∀ y, 0 ≤ y → y < QZ → joinS (n : Int) (w77 sm y) = (jval (w77 sm y), true) := fun y a b => by
    have := w77_join hk1 hk4 hk3 a b
    rw [hk5] at this
    rw [← this]
    congr 1
    omega
  have hjr : ∀ y, 0 ≤ y → y < QZ → In64 (jval (w77 sm y)) := fun y a b => by
    have h1 := jval_range (w77_jok hk1 hk4 hk3 a b) (by rw [w77_len]; omega)
    have hq : QZ = 1152921504606845789 := rfl
    constructor <;> omega
  have JN : Hid (∀ (y : Int) (v : Value) (w : World), (0 ≤ y ∧ y < QZ) → ShArg w v (w77 sm y) → Calls Try.prog 16 #[.int .i64 (n : Int), v] w fun e w' => e = .returned (.tuple #[I (jval (w77 sm y)), .bool true]) ∧ Below w.heap.size w w') := by
    show ∀ (y : Int) (v : Value) (w : World), _
    intro y v w hy hA
    have hq : QZ = 1152921504606845789 := rfl
    have := Join_any (n : Int) (w77 sm y) v w (w77_64 hk2 ⟨by omega, by omega⟩) (by rw [w77_len]; omega) hA
    rw [hJ77 y hy.1 hy.2] at this
    exact this
  have j0 := hjr 0 (Int.le_refl _) (by decide)
  have j1 := hjr 1 (by decide) (by decide)
  obtain ⟨inv1, any1⟩ := hA77
  have hyb : 0 ≤ Fld.mulS (Fld.subS want (jval (w77 sm 0)) QZ) (inq (Fld.subS (jval (w77 sm 1)) (jval (w77 sm 0)) QZ)) QZ ∧ Fld.mulS (Fld.subS want (jval (w77 sm 0)) QZ) (inq (Fld.subS (jval (w77 sm 1)) (jval (w77 sm 0)) QZ)) QZ < QZ := by
    rw [mulS_q]; exact ⟨Int.emod_nonneg _ (by decide), Int.emod_lt_of_pos _ (by decide)⟩
  have JN0 := Lib.hid (JN.out 0 · · ⟨Int.le_refl _, by decide⟩)
  have JN1 := Lib.hid (JN.out 1 · · ⟨by decide, by decide⟩)
  have JNY := Lib.hid (JN.out _ · · hyb)
  rw [any1] at JNY
  obtain ⟨z0, hz0⟩ : ∃ z0, jval (w77 sm 0) = z0 := ⟨_, rfl⟩
  obtain ⟨z1, hz1⟩ : ∃ z1, jval (w77 sm 1) = z1 := ⟨_, rfl⟩
  rw [hz0] at JN0 j0 JNY inv1
  rw [hz1] at JN1 j1 JNY inv1
  have hw64 : In64 want := by
    have hq : QZ = 1152921504606845789 := rfl
    constructor <;> omega
  have E1 := Lib.hid (fun w => Sub_any z1 z0 1152921504606845789 j1 j0 (by decide) w)
  have E2 : Hid (∀ w, Calls Try.prog 18 #[I (Fld.subS z1 z0 1152921504606845789), I 1152921504606845789] w fun e w' => e = .returned (.tuple #[I (inq (Fld.subS z1 z0 1152921504606845789)), .bool true]) ∧ Below w.heap.size w w') := fun w => inv1 ▸ Inv_any (Fld.subS z1 z0 1152921504606845789) 1152921504606845789 (subS_in (by decide)) (by decide) w
  have E3 := Lib.hid (fun w => Sub_any want z0 1152921504606845789 hw64 j0 (by decide) w)
  have E4 := Lib.hid (fun w => Mul_any (Fld.subS want z0 1152921504606845789) (inq (Fld.subS z1 z0 1152921504606845789)) 1152921504606845789 (subS_in (by decide)) (inq_in _) (by decide) w)
  obtain ⟨st, hst⟩ : ∃ st, Fld.subS z1 z0 1152921504606845789 = st := ⟨_, rfl⟩
  rw [hst] at E1 E2 E4
  rw [show Fld.subS z1 z0 QZ = st from hst] at JNY
  obtain ⟨bk, hbk⟩ : ∃ bk, inq st = bk := ⟨_, rfl⟩
  rw [hbk] at E2 E4 JNY
  obtain ⟨df, hdf⟩ : ∃ df, Fld.subS want z0 1152921504606845789 = df := ⟨_, rfl⟩
  rw [hdf] at E3 E4
  rw [show Fld.subS want z0 QZ = df from hdf] at JNY
  obtain ⟨yy, hyy⟩ : ∃ yy, Fld.mulS df bk 1152921504606845789 = yy := ⟨_, rfl⟩
  rw [hyy] at E4
  rw [show Fld.mulS df bk QZ = yy from hyy] at JNY
  have hww : (want == want) = true := beq_self_eq_true want
  clear hst hbk hdf hyy hz0 hz1 inv1 any1 hyb j0 j1 hjr hJ77 hk1 hk2 hk3 hk4 hsmm hsm hs64 hs77 hsn hn1' HS5 JN hw0 hw1 hw64 hMN hM10
  have hsm1000 : sm.length ≤ 1000 := by omega
  clear hk5
  clear hmn
  obtain ⟨v1a, w1a, v2a, w2a, r1, r2, HSH, hb⟩ := app77 w5 _ sm HSM.out (by omega) 0
  have HB0 := Lib.hid (run_build0_sh w5)
  have HA1 := Lib.hid r1
  have HB1 := Lib.hid (one_share w1a 77 0)
  have HA2 := Lib.hid r2
  have HJ := Lib.hid (JN0.out _ _ HSH)
  have HSM := Lib.hid (HSM.out.below hb)
  have hB := hB.trans (hb.mono hB.size)
  clear r1 r2 HSH hb
  go_wp2_with (first
    | (refine wpList_build_run rfl 25 0 #[] rfl #[] rfl _ _ HB0.out ?_)
    | (at_builtin; refine Lib.wpList_append_run _ rfl (.tmp 55) (.tmp 56) 25 25 rfl _ _ rfl rfl _ _ HA1.out ?_)
    | (refine wpList_build_run rfl 25 1 #[(0, .tmp 58)] rfl #[(0, .agg #[I 77, I 0])] rfl _ _ HB1.out ?_)
    | (at_builtin; refine Lib.wpList_append_run _ rfl (.tmp 57) (.tmp 59) 25 25 rfl _ _ rfl rfl _ _ HA2.out ?_))
  refine HJ.out.mono ?_; rintro e w6 ⟨rfl, hb⟩
  have HSM := Lib.hid (HSM.out.below hb)
  have hB := hB.trans (hb.mono hB.size)
  clear hb HJ HB0 HA1 HB1 HA2
  obtain ⟨v1b, w1b, v2b, w2b, r1, r2, HSH, hb⟩ := app77 w6 _ sm HSM.out (by omega) 1
  have HB0 := Lib.hid (run_build0_sh w6)
  have HA1 := Lib.hid r1
  have HB1 := Lib.hid (one_share w1b 77 1)
  have HA2 := Lib.hid r2
  have HJ := Lib.hid (JN1.out _ _ HSH)
  have HSM := Lib.hid (HSM.out.below hb)
  have hB := hB.trans (hb.mono hB.size)
  clear r1 r2 HSH hb
  go_wp2_with (first
    | (refine wpList_build_run rfl 25 0 #[] rfl #[] rfl _ _ HB0.out ?_)
    | (at_builtin; refine Lib.wpList_append_run _ rfl (.tmp 67) (.tmp 68) 25 25 rfl _ _ rfl rfl _ _ HA1.out ?_)
    | (refine wpList_build_run rfl 25 1 #[(0, .tmp 70)] rfl #[(0, .agg #[I 77, I 1])] rfl _ _ HB1.out ?_)
    | (at_builtin; refine Lib.wpList_append_run _ rfl (.tmp 69) (.tmp 71) 25 25 rfl _ _ rfl rfl _ _ HA2.out ?_))
  refine HJ.out.mono ?_; rintro e w7 ⟨rfl, hb⟩
  have HSM := Lib.hid (HSM.out.below hb)
  have hB := hB.trans (hb.mono hB.size)
  clear hb HJ HB0 HA1 HB1 HA2
  go_wp2_with fail
  refine (E1.out _).mono ?_; rintro e w8 ⟨rfl, hb⟩
  have HSM := Lib.hid (HSM.out.below hb)
  have hB := hB.trans (hb.mono hB.size)
  clear hb
  go_wp2_with fail
  refine (E2.out _).mono ?_; rintro e w9 ⟨rfl, hb⟩
  have HSM := Lib.hid (HSM.out.below hb)
  have hB := hB.trans (hb.mono hB.size)
  clear hb
  go_wp2_with fail
  refine (E3.out _).mono ?_; rintro e w10 ⟨rfl, hb⟩
  have HSM := Lib.hid (HSM.out.below hb)
  have hB := hB.trans (hb.mono hB.size)
  clear hb
  go_wp2_with fail
  refine (E4.out _).mono ?_; rintro e w11 ⟨rfl, hb⟩
  have HSM := Lib.hid (HSM.out.below hb)
  have hB := hB.trans (hb.mono hB.size)
  clear hb E1 E2 E3 E4
  obtain ⟨v1c, w1c, v2c, w2c, r1, r2, HSH, hb⟩ := app77 w11 _ sm HSM.out (by omega) yy
  have HB0 := Lib.hid (run_build0_sh w11)
  have HA1 := Lib.hid r1
  have HB1 := Lib.hid (one_share w1c 77 yy)
  have HA2 := Lib.hid r2
  have HJ := Lib.hid (JNY.out _ _ HSH)
  have HSM := Lib.hid (HSM.out.below hb)
  have hB := hB.trans (hb.mono hB.size)
  clear r1 r2 HSH hb
  go_wp2_with (first
    | (refine wpList_build_run rfl 25 0 #[] rfl #[] rfl _ _ HB0.out ?_)
    | (at_builtin; refine Lib.wpList_append_run _ rfl (.tmp 92) (.tmp 93) 25 25 rfl _ _ rfl rfl _ _ HA1.out ?_)
    | (refine wpList_build_run rfl 25 1 #[(0, .tmp 96)] rfl #[(0, .agg #[I 77, I yy])] rfl _ _ HB1.out ?_)
    | (at_builtin; refine Lib.wpList_append_run _ rfl (.tmp 94) (.tmp 97) 25 25 rfl _ _ rfl rfl _ _ HA2.out ?_))
  refine HJ.out.mono ?_; rintro e w12 ⟨rfl, hb⟩
  have HSM := Lib.hid (HSM.out.below hb)
  have hB := hB.trans (hb.mono hB.size)
  clear hb HJ HB0 HA1 HB1 HA2
  go_wp2_with fail
  go_ret
  exact ⟨rfl, hB⟩

set_option maxRecDepth 100000 in
theorem lifted (os : Os) (started : os.Started) (H : Type) (enc : TypeId × Value → H) :
    ReturnsInHanded {} Try.checked os 3 .any (Rows.shareHidesSpec.pre6 enc Try.prog Try.f3 Rows.shareHidesRow.domain false) (Rows.shareHidesSpec.post enc Try.prog Try.f3 false true false false) := by
  refine returnsInHanded_of_change (C := Try.checked) law_own started (by kernel_rfl) Try.func3
    (ChangeSpec.witness6 (enc := enc) (C := Try.checked) false ⟨#[], #[.slice none 0 0, .slice none 0 0, .int .i64 0], []⟩ 8 (by kernel_rfl) (by kernel_rfl) (by kernel_rfl) (by kernel_rfl)) ?_
  intro W base args ds gs before hval0 hW _ _
  have hval : ∀ (j : Nat) t v, Try.f3.params[j]? = some t → args[j]? = some v → Value.okWide Try.prog W .any base t v := hval0
  have hWk : DataW.Whole enc Try.prog Try.f3.params.toList Rows.shareHidesSpec.vars false W args.toList ds gs before := hW
  obtain ⟨p, q, hA0, hV, rfl, _, _⟩ := hW
  have hA : DataW.TrodAll enc Try.prog W 0 (fun _ => true) true Try.f3.params.toList args.toList ds p := hA0
  rw [Try.params3] at hA hval
  obtain ⟨v0, vs0, d0, ds0, p0, q0, hargs, rfl, rfl, h0, r0⟩ := trodAll_cons hA
  obtain ⟨v1, vs1, d1, ds1, p1, q1, rfl, rfl, rfl, h1, r1⟩ := trodAll_cons r0
  obtain ⟨v2, vs2, d2, ds2, p2, q2, rfl, rfl, rfl, h2, r2⟩ := trodAll_cons r1
  obtain ⟨rfl, rfl, rfl⟩ := trodAll_nil r2
  obtain rfl : args = #[v0, v1, v2] := by cases args; simp_all
  obtain ⟨rfl, rfl⟩ := trodVars_none hV
  obtain ⟨l0, hA0_, hl0, hn0⟩ := open_intsA (hval 0 22 v0 rfl rfl) h0
  obtain ⟨l1, hA1_, hl1, hn1⟩ := open_intsA (hval 1 22 v1 rfl rfl) h1
  obtain ⟨a2, rfl, _, _, w2⟩ := open_int Try.underlying3 (hval 2 3 v2 rfl rfl) h2
  clear hA0 hval0
  refine (walk W v0 v1 l0 l1 a2 hl0 hn0 hA0_ hl1 hn1 hA1_ (in64_wf w2)).mono fun e W' ⟨he, hb⟩ => ?_
  exact ⟨_, he, law_post law_laid rfl (by rw [Try.params3]; decide +kernel) (by kernel_rfl) Try.underlying4 rfl hWk hb⟩

theorem holds : Rows.ShareHidesSaid :=
  OpenClaim.holds_of_wide 3 Try.f3 rfl rfl rfl rfl rfl rfl rfl ⟨rfl, rfl, rfl, rfl, rfl⟩ rfl rfl rfl rfl rfl (by kernel_rfl) Try.func3 (by kernel_rfl)
    (of_decide_eq_true (by kernel_rfl)) (by unfold Func.isWrapper; first | (rw [if_pos (by decide +kernel)]; kernel_rfl) | (rw [if_neg (by decide +kernel)]; exact ⟨rfl, rfl⟩))
    (fun os started H enc _ => lifted os started H enc)

end Go.Proofs.Ytdnabeldaighgaa.LHides

namespace Go.Proofs.Ytdnabeldaighgaa
/-- The statement. -/
theorem shareHides_holds : Rows.ShareHidesSaid := LHides.holds
end Go.Proofs.Ytdnabeldaighgaa
