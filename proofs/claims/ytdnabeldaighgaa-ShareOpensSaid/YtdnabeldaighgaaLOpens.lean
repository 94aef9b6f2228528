/- ShareOpens: for shares of which some are changed, some occur twice, and some are missing, Open returns what the reference model returns; no condition. -/
import Derived.Test.YtdnabeldaighgaaTri
namespace Go.Proofs.Ytdnabeldaighgaa.LOpens
open Go.ChangeShapes Go.WideShapes Go.ChangeAt Go.RowKit Go.Shelf Go.ChangeMaps Shr Pol

set_option maxRecDepth 100000 in
set_option maxHeartbeats 2000000 in
theorem tail21 (u0 u1 u2 u3 u4 u5 u6 u8 u11 u12 u13 u14 u15 u16 u17 u18 u19 u20 u21 u22 u23 u24 u25 u26 u27 u28 u29 u30 u31 u32 u33 u34 u35 u36 u37 u38 u39 u40 u41 u42 u43 u44 u45 u46 u47 u48 u49 u50 u51 u52 u53 u54 u55 u56 u57 u58 u59 u60 u61 u62 u63 u64 u65 u66 u67 u68 u69 u70 u71 u72 u73 u74 u75 u76 u77 u78 u79 u80 u81 u82 u83 u84 u85 u86 u87 u88 u89 u90 u91 u92 u93 u94 u95 u96 u97 u98 u99 u100 u101 u102 u103 u104 u105 u106 u107 u108 u109 u110 u111 u112 u113 u114 u115 u116 u117 u118 u119 u120 u121 u122 u123 u124 u125 u126 u127 u128 u129 u130 u131 u132 u133 u134 u135 u136 u137 u138 u139 u140 u141 u142 u143 u144 u145 u146 u147 u148 u149 u150 u151 u152 u153 v9 v10 : Value) (cm : List Int) (sm : List (Int × Int)) (W0 w : World) (hc : IArg w v9 cm) (hs : ShArg w v10 sm) (hc64 : All64 cm) (hs64 : AllS64 sm) (hcl : cm.length ≤ 1000) (hsl : sm.length ≤ 1000) (hB : Below W0.heap.size W0 w)
    (K : Act → World → Prop) (hK : ∀ a w, Code.wp Try.prog (tailIn Try.f9 7) (bodyPost Try.prog Try.f9 (fun e w' => e = .returned (.bool true) ∧ Below W0.heap.size W0 w')) a w → K a w) :
    Code.wp Try.prog (regionIn Try.f9 21) (Exit.then K (bodyPost Try.prog Try.f9 (fun e w' => e = .returned (.bool true) ∧ Below W0.heap.size W0 w'))) ⟨(u0 :: u1 :: u2 :: u3 :: u4 :: u5 :: u6 :: (.bool true) :: u8 :: v9 :: v10 :: u11 :: u12 :: u13 :: u14 :: u15 :: u16 :: u17 :: u18 :: u19 :: u20 :: u21 :: u22 :: u23 :: u24 :: u25 :: u26 :: u27 :: u28 :: u29 :: u30 :: u31 :: u32 :: u33 :: u34 :: u35 :: u36 :: u37 :: u38 :: u39 :: u40 :: u41 :: u42 :: u43 :: u44 :: u45 :: u46 :: u47 :: u48 :: u49 :: u50 :: u51 :: u52 :: u53 :: u54 :: u55 :: u56 :: u57 :: u58 :: u59 :: u60 :: u61 :: u62 :: u63 :: u64 :: u65 :: u66 :: u67 :: u68 :: u69 :: u70 :: u71 :: u72 :: u73 :: u74 :: u75 :: u76 :: u77 :: u78 :: u79 :: u80 :: u81 :: u82 :: u83 :: u84 :: u85 :: u86 :: u87 :: u88 :: u89 :: u90 :: u91 :: u92 :: u93 :: u94 :: u95 :: u96 :: u97 :: u98 :: u99 :: u100 :: u101 :: u102 :: u103 :: u104 :: u105 :: u106 :: u107 :: u108 :: u109 :: u110 :: u111 :: u112 :: u113 :: u114 :: u115 :: u116 :: u117 :: u118 :: u119 :: u120 :: u121 :: u122 :: u123 :: u124 :: u125 :: u126 :: u127 :: u128 :: u129 :: u130 :: u131 :: u132 :: u133 :: u134 :: u135 :: u136 :: u137 :: u138 :: u139 :: u140 :: u141 :: u142 :: u143 :: u144 :: u145 :: u146 :: u147 :: u148 :: u149 :: u150 :: u151 :: u152 :: u153 :: []).toArray, []⟩ w := by
  have HKK := Lib.hid hK
  have O1 := Lib.hid (Open_any cm sm v9 v10 w hc64 (by omega) hc hs64 (by omega) hs)
  have O2 := Lib.hid (fun w' (hb : Below w.heap.size w w') => ROpen_any cm sm v9 v10 w' hc64 (by omega) (hc.below hb) hs64 (by omega) (hs.below hb))
  have hbl : (opS cm sm).2.1.length ≤ 1000 := by
    unfold opS
    split
    · simp
    · have : (badS cm sm).length ≤ 1000 := by
        unfold badS
        rw [List.length_map]
        exact Nat.le_trans (List.length_filter_le _ _) hsl
      split <;> exact this
  obtain ⟨r, hop⟩ : ∃ r : Int × List Int × Int, opS cm sm = r := ⟨_, rfl⟩
  obtain ⟨oa, ob, oe⟩ := r
  rw [hop] at hbl
  have HOP := Lib.hid hop
  have e1 : (oa == oa) = true := beq_self_eq_true oa
  have e2 : (oe == oe) = true := beq_self_eq_true oe
  have e3 : (ob == ob) = true := beq_self_eq_true ob
  have HE3 := Lib.hid e3
  clear hK hc hs hc64 hs64 hcl hsl e3 hop
  conv => arg 2; whnf
  go_wp2_with fail
  refine O1.out.mono ?_; rintro e w2 ⟨u1, rfl, o1, hb2⟩
  rw [HOP.out] at o1 ⊢
  have hB2 := hB.trans (hb2.mono hB.size)
  have P1 := Lib.hid o1.iarg
  have O22 := Lib.hid (O2.out w2 hb2)
  clear O1 O2 o1 hb2 hB
  go_wp2_with fail
  refine HKK.out _ _ ?_
  clear HKK
  conv => arg 2; whnf
  go_wp2_with fail
  refine O22.out.mono ?_; rintro e w3 ⟨u2, rfl, o2, hb3⟩
  rw [HOP.out] at o2 ⊢
  have hB3 := hB2.trans (hb3.mono hB2.size)
  have I1 := Lib.hid (HE3.out ▸ Ints_any ob ob u1 u2 w3 (by have : ob.length ≤ 1000 := hbl; omega) (by have : ob.length ≤ 1000 := hbl; omega) (P1.out.below hb3) o2.iarg)
  clear O22 P1 o2 hb3 hB2
  go_wp2_with fail
  refine I1.out.mono ?_; rintro e w4 ⟨rfl, hb4⟩
  have hB4 := hB3.trans (hb4.mono hB3.size)
  clear I1 hb4
  go_wp2_with fail
  go_ret
  exact ⟨rfl, hB4⟩

set_option maxRecDepth 100000 in
set_option maxHeartbeats 2000000 in
theorem walk (w : World) (v u t : Value) (l pk : List Int) (hl : All64 l) (hl9 : l.length ≤ 9223372036854775807) (hA : IArg w v l) (hp : All64 pk) (hp9 : pk.length ≤ 9223372036854775807) (hP : IArg w u pk) (hT : TArg w t) :
    Calls Try.prog 9 #[v, u, t] w fun e w' => e = .returned (.bool true) ∧ Below w.heap.size w w' := by
  have C1 := Lib.hid (fun (w' : World) (hb : Below w.heap.size w w') => Coefs_any l v w' hl hl9 (hA.below hb))
  have C2 := Lib.hid (fun (s : List (Int × Int)) (v : Value) (w' : World) (hs : s.length ≤ 1000000) (hv : ShArg w' v s) (hb : Below w.heap.size w w') => Chosen_any s pk v u w' hp hp9 hs hv (hP.below hb))
  obtain ⟨a, cap, rfl, hc, _⟩ := hA
  have hcs := cofs_blw l
  obtain ⟨hn1, hn2⟩ := cofs_len l
  generalize cofs l = cs at *
  obtain ⟨ua, ucap, rfl, huc, _⟩ := hP
  obtain ⟨ta, nq, tcap, rfl, htc, hnq9, hTR⟩ := hT
  have HTR := Lib.hid hTR
  have M1 := Lib.hid (fun (v : Value) (w : World) (h : IArg w v cs) => made_good cs 5 (by decide) v w hcs hn1 (by omega) h)
  obtain ⟨n, hn⟩ : ∃ n, cs.length = n := ⟨_, rfl⟩
  have HN := Lib.hid hn
  have hB := Below.refl w.heap.size w
  rw [hn] at hn1 hn2
  clear hn hp hl hTR
  go_enter Try.func9, Try.ntmps9
  go_wp2_with fail
  refine (Calls.chain hB (sanity_any _)).mono ?_; clear hB; rintro e w2 ⟨rfl, hB⟩
  go_wp2_with fail
  refine (C1.out _ hB).mono ?_; rintro e w3 ⟨v3, rfl, o3, hb3⟩
  have HW2 := Lib.hid hB
  have HI3 := Lib.hid o3.iarg
  clear C1 o3
  go_wp2_with fail
  refine (M1.out _ _ HI3.out).mono ?_; rintro e w4 ⟨v1, v2, rfl, o1, o2, hb4, _⟩
  have h24 := hb3.trans (hb4.mono hb3.size)
  have hB4 := hB.trans (h24.mono hB.size)
  rw [HN.out] at o1
  simp only [Nat.reduceMod] at o1
  have HS := Lib.hid o1.sharg
  have HV2 := Lib.hid o2.blk_lt
  have OC := Lib.hid (o2.mono hb3.size)
  have h3s := hb4.size
  clear M1 o1 hb3 HI3 hB
  go_wp2_with fail
  refine (C2.out _ _ _ (by rw [shl_length]; omega) HS.out hB4).mono ?_; rintro e w5 ⟨v5, rfl, o5, hb5⟩
  have hs64 : AllS64 (choS (shl cs (n + 5)) pk) := fun p hp => shl_all64 cs _ (by omega) p (choS_mem hp)
  have hsl : (choS (shl cs (n + 5)) pk).length ≤ 11 := by
    have := choS_len (shl cs (n + 5)) pk
    rw [shl_length] at this; omega
  have HAP : Hid (Apart v5 v2) := by
    show Apart v5 v2
    intro g hg e
    have h1 := o5.blk g hg
    have h2 := HV2.out g e
    omega
  have h25 := h24.trans (hb5.mono h24.size)
  have OS := Lib.hid (o5.mono h24.size)
  have OC := Lib.hid (OC.out.below hb5)
  have hc64 := coms_all64 cs
  have hcl : (coms cs).length = n := by rw [coms_len, HN.out]
  obtain ⟨cm, hcm⟩ : ∃ cm, coms cs = cm := ⟨_, rfl⟩
  obtain ⟨sm, hsm⟩ : ∃ sm, choS (shl cs (n + 5)) pk = sm := ⟨_, rfl⟩
  rw [hcm] at OC hc64 hcl
  rw [hsm] at OS hs64 hsl
  obtain ⟨g9, c9, rfl, hc9, _⟩ := OwnV.row OC.out (by omega)
  rw [hcl] at hc9
  have HCL := Lib.hid hcl
  have HC64 := Lib.hid hc64
  have HS64 := Lib.hid hs64
  have t0 : ((n : Int) == 0) = false := by rw [beq_eq_false_iff_ne]; omega
  have t0' : ¬ (n : Int) = 0 := by omega
  rw [hcl]
  rw [hcl] at HAP
  clear C2 HS HV2 o5 o2 hb5 hb4 h24 hc64 hs64 hcl hcm hsm h3s hB4 hcs
  go_wp2_with fail
  go_loopw [10, 11] (fun x y wr => ∃ (i : Nat) (sm : List (Int × Int)) (cm : List Int), i ≤ 5 ∧ y = .int .i64 (i : Int) ∧ Hid (OwnSh wr w2.heap.size x sm) ∧ Hid (AllS64 sm) ∧ sm.length ≤ 11 + i ∧ Hid (VRow wr w2.heap.size g9 c9 1 (cm.map I)) ∧ Hid (All64 cm) ∧ Hid (cm.length = n) ∧ Hid (∀ g, blkOf x = some g → g ≠ g9) ∧ Below w2.heap.size w2 wr) (fun _ y _ => 5 - (intOf y).toNat)
  case atStart =>
    refine ⟨0, sm, cm, by omega, rfl, OS.out, HS64.out, hsl, ?_, HC64.out, HCL.out, fun g hg e => HAP.out g hg (by rw [← e]; rfl), h25⟩
    obtain ⟨g', c', e, _, V⟩ := OwnV.row OC.out (by rw [HCL.out]; omega)
    cases e
    exact V
  case round =>
    clear OS OC HS64 HC64 HCL HAP h25 hsl
    obtain ⟨i, sm, cm, hi, rfl, OS, HS64, hsl, OCV, HC64, HCL, HAP, hb⟩ := hrel
    obtain ⟨a10, c10, hu10, hc10⟩ := OS.out.form
    obtain ⟨m, hm⟩ : ∃ m, sm.length = m := ⟨_, rfl⟩
    rw [hm] at hu10 hc10 hsl
    subst hu10
    have HM := Lib.hid hm
    have OC := Lib.hid (OCV.out.ownI HCL.out hc9)
    clear hm
    by_cases h1 : i < nq
    · by_cases h2 : i < 5
      · by_cases h3 : 0 < m
        · have q1 : (i : Int) < (nq : Int) := by omega
          have q2' : (i : Int) < 5 := by omega
          have q3 : (0 : Int) < (m : Int) := by omega
          have q3' : decide ((m : Int) > 0) = true := decide_eq_true q3
          obtain ⟨gq, oq, rfl, hq⟩ := HTR.out (by omega)
          obtain ⟨q0, q1v, q2, i0, i1, i2, cq0, cq1, cq2⟩ := hq i h1
          have hbw := HW2.out.trans (hb.mono HW2.out.size)
          have e0 := keepCells hbw _ _ cq0
          have e1 := keepCells hbw _ _ cq1
          have e2 := keepCells hbw _ _ cq2
          have bq := World.block_lt_of_cell? w _ cq2
          have hw2s := HW2.out.size
          obtain ⟨kk, hkk⟩ := Int.eq_ofNat_of_zero_le (Int.emod_nonneg q0 (show (m : Int) ≠ 0 by omega))
          have hkm : kk < m := by have := Int.emod_lt_of_pos q0 (show 0 < (m : Int) by omega); omega
          have D1 := Lib.hid (hkk ▸ fun w => Mod_any q0 (m : Int) i0 (by omega) (by omega) w)
          have D2 := Lib.hid (fun w => Mod_any q1v 5 i1 (by omega) (by omega) w)
          have m0 := Int.emod_nonneg q1v (show (5 : Int) ≠ 0 by decide)
          have m1 := Int.emod_lt_of_pos q1v (show (0 : Int) < 5 by decide)
          obtain ⟨qe, hqe⟩ : ∃ qe, q1v % 5 = qe := ⟨_, rfl⟩
          rw [hqe] at D2 m0 m1
          obtain ⟨g10, c10', e10, _, VS⟩ := OwnV.row OS.out (by rw [HM.out]; exact h3)
          rw [HM.out] at e10
          cases e10
          obtain ⟨⟨x, y⟩, hxy⟩ : ∃ p, sm[kk]? = some p := ⟨sm[kk]'(by rw [HM.out]; exact hkm), List.getElem?_eq_getElem _⟩
          obtain ⟨x64, y64⟩ := HS64.out _ (List.mem_of_getElem? hxy)
          have x64 : In64 x := x64
          have y64 : In64 y := y64
          obtain ⟨k0, k1⟩ := (OwnV.shat (cap := c10) VS).cells hxy
          rw [Nat.zero_add] at k0 k1
          have hne : g10 ≠ g9 := HAP.out g10 rfl
          have HXY := Lib.hid hxy
          have HVS := Lib.hid VS
          have HNE := Lib.hid hne
          have ff0 : wr.frozen? ⟨g10, kk * 2, none⟩ = false := VS.free _ (by omega)
          have ff1 : wr.frozen? ⟨g10, kk * 2 + 1, none⟩ = false := VS.free _ (by omega)
          have hbase := VS.base
          have tk : (kk : Int) < (m : Int) := by omega
          clear hq cq0 cq1 cq2 hkk hqe hxy VS hne OS OC hbw
          have set64 : Hid (∀ (x' y' : Int), In64 x' → In64 y' → AllS64 (sm.set kk (x', y'))) := by
            show ∀ (x' y' : Int), _
            intro x' y' hx hy p hp
            rcases List.mem_or_eq_of_mem_set hp with hp | rfl
            · exact HS64.out p hp
            · exact ⟨hx, hy⟩
          have hlt9 := OCV.out.lt
          have hbas9 := OCV.out.base
          rcases (by omega : qe = 0 ∨ qe = 1 ∨ qe = 2 ∨ qe = 3 ∨ qe = 4) with rfl | rfl | rfl | rfl | rfl
          · clear m0 m1
            have mz0 := Int.emod_nonneg q2 (show (5 : Int) ≠ 0 by decide)
            have mz1 := Int.emod_lt_of_pos q2 (show (0 : Int) < 5 by decide)
            have E1 := Lib.hid (fun w => quiet_eq (Mod_any q2 5 i2 (by omega) (by omega) w))
            obtain ⟨zz, hzz⟩ : ∃ zz, q2 % 5 = zz := ⟨_, rfl⟩
            rw [hzz] at mz0 mz1 E1
            have E2 := Lib.hid (fun w => Add_any y (1 + zz) 1152921504606845789 y64 ⟨by omega, by omega⟩ (by decide) w)
            have yv64 : In64 (Fld.addS y (1 + zz) 1152921504606845789) := addS_in (by decide)
            obtain ⟨yv, hyv⟩ : ∃ yv, Fld.addS y (1 + zz) 1152921504606845789 = yv := ⟨_, rfl⟩
            rw [hyv] at E2 yv64
            have hwr : IntKind.i64.wrap (1 + zz) = 1 + zz := wrap_in _ (by omega) (by omega)
            clear hyv hzz
            go_wp2_with fail
            refine (D1.out _).mono ?_; rintro e w7 ⟨rfl, rfl⟩
            go_wp2_with fail
            refine (D2.out _).mono ?_; rintro e w7 ⟨rfl, rfl⟩
            clear D1 D2
            go_upto_region 12 with (fail)
            have f1 := After.cell k1
            have f2 := After.cell e2
            clear e0 e1 e2 k0 k1 ff0 ff1
            refine wp_region_after_tail 15 (by kernel_rfl) (by kernel_rfl) (by kernel_rfl) (by kernel_rfl) ?_
            simp only [List.take_succ_cons, List.take_zero, List.drop_succ_cons, List.drop_zero]
            repeat (go_big_quiet_step (first | (with_reducible exact After.call (E1.out _)) | (with_reducible exact After.call (E2.out _))))
            refine wpQuiet_nil ?_
            rintro w7 ⟨x7, rfl⟩
            have h7 := x7.hb
            generalize x7.W = w7 at *
            have hb7 := hb.trans (h7.mono hb.size)
            have V7 := HVS.out.below h7
            have k17 : w7.cell? ⟨g10, kk * 2 + 1, none⟩ = some (I y) := by
              have := ((OwnV.shat (cap := c10) V7).cells HXY.out).2
              rwa [Nat.zero_add] at this
            have ff17 : w7.frozen? ⟨g10, kk * 2 + 1, none⟩ = false := V7.free _ (by omega)
            have V8 := Lib.hid (V7.putY HXY.out yv)
            have g8 : w7.grownBy (w7.setCell ⟨g10, kk * 2 + 1, none⟩ (I yv)) (some g10) := grown_set (World.grownBy.refl w7 _) _ _
            have OC8 := Lib.hid ((OCV.out.below h7).keep g8.size (g8.block g9 (Nat.lt_of_lt_of_le hlt9 h7.size) (fun e => by injection e with e; exact HNE.out e.symm)))
            have hb8 := hb7.setCell (show w2.heap.size ≤ (⟨g10, kk * 2 + 1, none⟩ : Addr).block from hbase) (I yv)
            have S8 := Lib.hid (set64.out x yv x64 yv64)
            clear f1 f2 x7 h7 hwr g8 V7 hb7 OCV hb HVS E1 E2
            go_wp2_with fail
            go_roundw
            case rel => exact ⟨i + 1, _, cm, by omega, by go_num, V8.out.own (by rw [List.length_set, HM.out]) hc10, S8.out, by rw [List.length_set, HM.out]; omega, OC8.out, HC64.out, HCL.out, HAP.out, hb8⟩
            case measure => simp [intOf]; omega
          · clear m0 m1
            have V8 := Lib.hid (HVS.out.putX HXY.out q2)
            have g8 : wr.grownBy (wr.setCell ⟨g10, kk * 2, none⟩ (I q2)) (some g10) := grown_set (World.grownBy.refl wr _) _ _
            have OC8 := Lib.hid (OCV.out.keep g8.size (g8.block g9 hlt9 (fun e => by injection e with e; exact HNE.out e.symm)))
            have hb8 := hb.setCell (show w2.heap.size ≤ (⟨g10, kk * 2, none⟩ : Addr).block from hbase) (I q2)
            have S8 := Lib.hid (set64.out q2 y i2 y64)
            clear g8 OCV hb HVS
            go_wp2_with fail
            refine (D1.out _).mono ?_; rintro e w7 ⟨rfl, rfl⟩
            go_wp2_with fail
            refine (D2.out _).mono ?_; rintro e w7 ⟨rfl, rfl⟩
            go_wp2_with fail
            go_roundw
            case rel => exact ⟨i + 1, _, cm, by omega, by go_num, V8.out.own (by rw [List.length_set, HM.out]) hc10, S8.out, by rw [List.length_set, HM.out]; omega, OC8.out, HC64.out, HCL.out, HAP.out, hb8⟩
            case measure => simp [intOf]; omega
          · clear m0 m1
            obtain ⟨v', w8, r1, r2, r3, r4⟩ := run_append_share wr w2.heap.size _ sm (HVS.out.own HM.out hc10) hb.size x y (by rw [HM.out]; omega)
            have HB1 := Lib.hid (one_share wr x y)
            have HAPP := Lib.hid r1
            have O8 := Lib.hid r2
            have OC8 := Lib.hid (OCV.out.keep r3.size (r3.block g9 hlt9 (fun e => by injection e with e; exact HNE.out e.symm)))
            have hb8 := below_of_grown hb r3 hb.size (fun g hg => by cases hg; exact hbase)
            have HAP8 : Hid (∀ g, blkOf v' = some g → g ≠ g9) := by
              show ∀ g, blkOf v' = some g → g ≠ g9
              intro g hg
              rcases r4 with r4 | ⟨g', r4, r5⟩
              · rw [r4] at hg; exact HAP.out g hg
              · rw [r4] at hg; injection hg with hg; omega
            have S8 : Hid (AllS64 (sm ++ [(x, y)])) := fun p hp => by
              rcases List.mem_append.1 hp with hp | hp
              · exact HS64.out p hp
              · rw [List.mem_singleton.1 hp]; exact ⟨x64, y64⟩
            clear r1 r2 r3 r4 OCV hb HVS
            go_wp2_with fail
            refine (D1.out _).mono ?_; rintro e w7 ⟨rfl, rfl⟩
            go_wp2_with fail
            refine (D2.out _).mono ?_; rintro e w7 ⟨rfl, rfl⟩
            go_upto_region 16 with (fail)
            go_wp2_with (first
              | (refine wpList_build_run rfl 25 1 #[(0, .tmp 97)] rfl #[(0, .agg #[I x, I y])] rfl _ _ HB1.out ?_)
              | (at_builtin; refine Lib.wpList_append_run _ rfl (.tmp 93) (.tmp 98) 25 25 rfl _ _ rfl rfl _ _ HAPP.out ?_))
            go_roundw
            case rel => exact ⟨i + 1, _, cm, by omega, by go_num, O8.out, S8.out, by rw [List.length_append, HM.out]; simp; omega, OC8.out, HC64.out, HCL.out, HAP8.out, hb8⟩
            case measure => simp [intOf]; omega
          · clear m0 m1
            have V8 := Lib.hid (HVS.out.putY HXY.out q2)
            have g8 : wr.grownBy (wr.setCell ⟨g10, kk * 2 + 1, none⟩ (I q2)) (some g10) := grown_set (World.grownBy.refl wr _) _ _
            have OC8 := Lib.hid (OCV.out.keep g8.size (g8.block g9 hlt9 (fun e => by injection e with e; exact HNE.out e.symm)))
            have hb8 := hb.setCell (show w2.heap.size ≤ (⟨g10, kk * 2 + 1, none⟩ : Addr).block from hbase) (I q2)
            have S8 := Lib.hid (set64.out x q2 x64 i2)
            clear g8 OCV hb HVS
            go_wp2_with fail
            refine (D1.out _).mono ?_; rintro e w7 ⟨rfl, rfl⟩
            go_wp2_with fail
            refine (D2.out _).mono ?_; rintro e w7 ⟨rfl, rfl⟩
            go_wp2_with fail
            go_roundw
            case rel => exact ⟨i + 1, _, cm, by omega, by go_num, V8.out.own (by rw [List.length_set, HM.out]) hc10, S8.out, by rw [List.length_set, HM.out]; omega, OC8.out, HC64.out, HCL.out, HAP.out, hb8⟩
            case measure => simp [intOf]; omega
          · clear m0 m1
            obtain ⟨kn, hkn⟩ : ∃ kn : Nat, kk % n = kn := ⟨_, rfl⟩
            have hknn : kn < n := by rw [← hkn]; exact Nat.mod_lt _ (by omega)
            have hrem : (kk : Int).tmod (n : Int) = (kn : Int) := by
              rw [Int.tmod_eq_emod_of_nonneg (by omega), ← hkn]; rfl
            have hrem2 : (kk : Int) % (n : Int) = (kn : Int) := by rw [← hkn]; rfl
            have tkn : (kn : Int) < (n : Int) := by omega
            have tkn0 : (0 : Int) ≤ (kn : Int) := by omega
            go_wp2_with fail
            refine (D1.out _).mono ?_; rintro e w7 ⟨rfl, rfl⟩
            go_wp2_with fail
            refine (D2.out _).mono ?_; rintro e w7 ⟨rfl, rfl⟩
            clear D1 D2
            go_upto_region 20 with (fail)
            have f2 := After.cell e2
            clear e0 e1 e2 k0 k1 ff0 ff1
            refine wp_region_after_tail 10 (by kernel_rfl) (by kernel_rfl) (by kernel_rfl) (by kernel_rfl) ?_
            simp only [List.take_succ_cons, List.take_zero, List.drop_succ_cons, List.drop_zero]
            repeat (go_big_quiet_step (fail))
            refine wpQuiet_nil ?_
            rintro w7 ⟨x7, rfl⟩
            have h7 := x7.hb
            generalize x7.W = w7 at *
            have hb7 := hb.trans (h7.mono hb.size)
            have VC7 := OCV.out.below h7
            obtain ⟨c, hc0⟩ : ∃ c, cm[kn]? = some c := ⟨cm[kn]'(by rw [HCL.out]; exact hknn), List.getElem?_eq_getElem _⟩
            have k17 : w7.cell? ⟨g9, kn, none⟩ = some (I c) := by
              have := VC7.cells kn (I c) (by rw [List.getElem?_map, hc0]; rfl)
              rwa [Nat.zero_add] at this
            have ff17 : w7.frozen? ⟨g9, kn, none⟩ = false := VC7.free _ (by omega)
            have OC8 := Lib.hid (VC7.putI (k := kn) (by rw [HCL.out]; exact hknn) q2)
            have g8 : w7.grownBy (w7.setCell ⟨g9, kn, none⟩ (I q2)) (some g9) := grown_set (World.grownBy.refl w7 _) _ _
            have V7 := HVS.out.below h7
            have V8 := Lib.hid (V7.keep g8.size (g8.block g10 V7.lt (fun e => by injection e with e; exact HNE.out e)))
            have hb8 := hb7.setCell (show w2.heap.size ≤ (⟨g9, kn, none⟩ : Addr).block from hbas9) (I q2)
            have S8 : Hid (All64 (cm.set kn q2)) := fun z hz => by
              rcases List.mem_or_eq_of_mem_set hz with hz | rfl
              · exact HC64.out z hz
              · exact i2
            clear f2 x7 h7 hc0 hrem hrem2 g8 V7 VC7 hb7 OCV hb HVS hkn
            go_wp2_with fail
            go_roundw
            case rel => exact ⟨i + 1, sm, _, by omega, by go_num, V8.out.own HM.out hc10, HS64.out, by rw [HM.out]; omega, OC8.out, S8.out, by show (cm.set kn q2).length = n; rw [List.length_set, HCL.out], HAP.out, hb8⟩
            case measure => simp [intOf]; omega
        · have q1 : (i : Int) < (nq : Int) := by omega
          have q2' : (i : Int) < 5 := by omega
          have q3 : ¬ (0 : Int) < (m : Int) := by omega
          have q3' : decide ((m : Int) > 0) = false := decide_eq_false q3
          have hsm9 : sm.length ≤ 1000 := by rw [HM.out]; omega
          have hcm9 : cm.length ≤ 1000 := by rw [HCL.out]; omega
          go_upto_region 21 with (fail)
          have hK := ‹∀ (a : Act) (w : World), Code.wp Try.prog _ _ a w → _›
          exact tail21 _ _ _ _ _ _ _ _ _ _ _ _ _ _ _ _ _ _ _ _ _ _ _ _ _ _ _ _ _ _ _ _ _ _ _ _ _ _ _ _ _ _ _ _ _ _ _ _ _ _ _ _ _ _ _ _ _ _ _ _ _ _ _ _ _ _ _ _ _ _ _ _ _ _ _ _ _ _ _ _ _ _ _ _ _ _ _ _ _ _ _ _ _ _ _ _ _ _ _ _ _ _ _ _ _ _ _ _ _ _ _ _ _ _ _ _ _ _ _ _ _ _ _ _ _ _ _ _ _ _ _ _ _ _ _ _ _ _ _ _ _ _ _ _ _ _ _ _ _ _ _ _ _ cm sm w wr OC.out.iarg OS.out.sharg HC64.out HS64.out (by omega) (by omega) (HW2.out.trans (hb.mono HW2.out.size)) _ hK
      · have q1 : (i : Int) < (nq : Int) := by omega
        have q2' : ¬ (i : Int) < 5 := by omega
        have hsm9 : sm.length ≤ 1000 := by rw [HM.out]; omega
        have hcm9 : cm.length ≤ 1000 := by rw [HCL.out]; omega
        go_upto_region 21 with (fail)
        have hK := ‹∀ (a : Act) (w : World), Code.wp Try.prog _ _ a w → _›
        exact tail21 _ _ _ _ _ _ _ _ _ _ _ _ _ _ _ _ _ _ _ _ _ _ _ _ _ _ _ _ _ _ _ _ _ _ _ _ _ _ _ _ _ _ _ _ _ _ _ _ _ _ _ _ _ _ _ _ _ _ _ _ _ _ _ _ _ _ _ _ _ _ _ _ _ _ _ _ _ _ _ _ _ _ _ _ _ _ _ _ _ _ _ _ _ _ _ _ _ _ _ _ _ _ _ _ _ _ _ _ _ _ _ _ _ _ _ _ _ _ _ _ _ _ _ _ _ _ _ _ _ _ _ _ _ _ _ _ _ _ _ _ _ _ _ _ _ _ _ _ _ _ _ _ _ cm sm w wr OC.out.iarg OS.out.sharg HC64.out HS64.out (by omega) (by omega) (HW2.out.trans (hb.mono HW2.out.size)) _ hK
    · have q1 : ¬ (i : Int) < (nq : Int) := by omega
      have hsm9 : sm.length ≤ 1000 := by rw [HM.out]; omega
      have hcm9 : cm.length ≤ 1000 := by rw [HCL.out]; omega
      go_upto_region 21 with (fail)
      have hK := ‹∀ (a : Act) (w : World), Code.wp Try.prog _ _ a w → _›
      exact tail21 _ _ _ _ _ _ _ _ _ _ _ _ _ _ _ _ _ _ _ _ _ _ _ _ _ _ _ _ _ _ _ _ _ _ _ _ _ _ _ _ _ _ _ _ _ _ _ _ _ _ _ _ _ _ _ _ _ _ _ _ _ _ _ _ _ _ _ _ _ _ _ _ _ _ _ _ _ _ _ _ _ _ _ _ _ _ _ _ _ _ _ _ _ _ _ _ _ _ _ _ _ _ _ _ _ _ _ _ _ _ _ _ _ _ _ _ _ _ _ _ _ _ _ _ _ _ _ _ _ _ _ _ _ _ _ _ _ _ _ _ _ _ _ _ _ _ _ _ _ _ _ _ _ cm sm w wr OC.out.iarg OS.out.sharg HC64.out HS64.out (by omega) (by omega) (HW2.out.trans (hb.mono HW2.out.size)) _ hK

set_option maxRecDepth 100000 in
theorem lifted (os : Os) (started : os.Started) (H : Type) (enc : TypeId × Value → H) :
    ReturnsInHanded {} Try.checked os 9 .any (Rows.shareOpensSpec.pre6 enc Try.prog Try.f9 Rows.shareOpensRow.domain false) (Rows.shareOpensSpec.post enc Try.prog Try.f9 false true false false) := by
  refine returnsInHanded_of_change (C := Try.checked) law_own started (by kernel_rfl) Try.func9
    (ChangeSpec.witness6 (enc := enc) (C := Try.checked) false ⟨#[], #[.slice none 0 0, .slice none 0 0, .slice none 0 0], []⟩ 8 (by kernel_rfl) (by kernel_rfl) (by kernel_rfl) (by kernel_rfl)) ?_
  intro W base args ds gs before hval0 hW _ _
  have hval : ∀ (j : Nat) t v, Try.f9.params[j]? = some t → args[j]? = some v → Value.okWide Try.prog W .any base t v := hval0
  have hWk : DataW.Whole enc Try.prog Try.f9.params.toList Rows.shareOpensSpec.vars false W args.toList ds gs before := hW
  obtain ⟨p, q, hA0, hV, rfl, _, _⟩ := hW
  have hA : DataW.TrodAll enc Try.prog W 0 (fun _ => true) true Try.f9.params.toList args.toList ds p := hA0
  rw [Try.params9] at hA hval
  obtain ⟨v0, vs0, d0, ds0, p0, q0, hargs, rfl, rfl, h0, r0⟩ := trodAll_cons hA
  obtain ⟨v1, vs1, d1, ds1, p1, q1, rfl, rfl, rfl, h1, r1⟩ := trodAll_cons r0
  obtain ⟨v2, vs2, d2, ds2, p2, q2, rfl, rfl, rfl, h2, r2⟩ := trodAll_cons r1
  obtain ⟨rfl, rfl, rfl⟩ := trodAll_nil r2
  obtain rfl : args = #[v0, v1, v2] := by cases args; simp_all
  obtain ⟨rfl, rfl⟩ := trodVars_none hV
  obtain ⟨l0, hA0_, hl0, hn0⟩ := open_intsA (hval 0 22 v0 rfl rfl) h0
  obtain ⟨l1, hA1_, hl1, hn1⟩ := open_intsA (hval 1 22 v1 rfl rfl) h1
  have hT2 := open_trisA (hval 2 51 v2 rfl rfl) h2
  clear hA0 hval0
  refine (walk W v0 v1 v2 l0 l1 hl0 hn0 hA0_ hl1 hn1 hA1_ hT2).mono fun e W' ⟨he, hb⟩ => ?_
  exact ⟨_, he, law_post law_laid rfl (by rw [Try.params9]; decide +kernel) (by kernel_rfl) Try.underlying4 rfl hWk hb⟩

theorem holds : Rows.ShareOpensSaid :=
  OpenClaim.holds_of_wide 9 Try.f9 rfl rfl rfl rfl rfl rfl rfl ⟨rfl, rfl, rfl, rfl, rfl⟩ rfl rfl rfl rfl rfl (by kernel_rfl) Try.func9 (by kernel_rfl)
    (of_decide_eq_true (by kernel_rfl)) (by unfold Func.isWrapper; first | (rw [if_pos (by decide +kernel)]; kernel_rfl) | (rw [if_neg (by decide +kernel)]; exact ⟨rfl, rfl⟩))
    (fun os started H enc _ => lifted os started H enc)

end Go.Proofs.Ytdnabeldaighgaa.LOpens

namespace Go.Proofs.Ytdnabeldaighgaa
/-- The statement. -/
theorem shareOpens_holds : Rows.ShareOpensSaid := LOpens.holds
end Go.Proofs.Ytdnabeldaighgaa
