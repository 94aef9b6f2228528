/- ShareVerifies: each share fits; for changed shares and commitments, Verify returns what the reference model returns; no condition. -/
import Derived.Test.YtdnabeldaighgaaPlb
namespace Go.Proofs.Ytdnabeldaighgaa.LVerifies
open Go.ChangeShapes Go.WideShapes Go.ChangeAt Go.RowKit Go.Shelf Go.ChangeMaps Shr Pol

set_option maxRecDepth 100000 in
set_option maxHeartbeats 2000000 in
theorem tail26 (u0 u1 u2 u3 u4 u5 u6 u8 u9 u10 u13 u14 u15 u16 u17 u18 u19 u20 u21 u22 u23 u24 u25 u26 u27 u28 u29 u30 u31 u32 u33 u34 u35 u36 u37 u38 u39 u40 u41 u42 u43 u44 u45 u46 u47 u48 u49 u50 u51 u52 u53 u54 u55 u56 u57 u58 u59 u60 u61 u62 u63 u64 u65 u66 u67 u68 u69 u70 u71 u72 u73 u74 u75 u76 u77 u78 u79 u80 u81 u82 u83 u84 u85 u86 u87 u88 u89 u90 u91 u92 u93 u94 u95 u96 u97 u98 u99 u100 u101 u102 u103 u104 u105 u106 u107 u108 u109 u110 v12 : Value) (b11 : Nat) (x y : Int) (d : List Int) (W0 w : World) (N11 : Blk w b11 #[I x, I y] 33) (hx : In64 x) (hy : In64 y) (hd : All64 d) (hd9 : d.length ≤ 1000) (hA : IArg w v12 d) (hB : Below W0.heap.size W0 w)
    (K : Act → World → Prop) (hK : ∀ a w, Code.wp Try.prog (tailIn Try.f6 10) (bodyPost Try.prog Try.f6 (fun e w' => e = .returned (.bool true) ∧ Below W0.heap.size W0 w')) a w → K a w) :
    Code.wp Try.prog (regionIn Try.f6 26) (Exit.then K (bodyPost Try.prog Try.f6 (fun e w' => e = .returned (.bool true) ∧ Below W0.heap.size W0 w'))) ⟨(u0 :: u1 :: u2 :: u3 :: u4 :: u5 :: u6 :: (.bool true) :: u8 :: u9 :: u10 :: (.pointer (some ⟨b11, 0, none⟩)) :: v12 :: u13 :: u14 :: u15 :: u16 :: u17 :: u18 :: u19 :: u20 :: u21 :: u22 :: u23 :: u24 :: u25 :: u26 :: u27 :: u28 :: u29 :: u30 :: u31 :: u32 :: u33 :: u34 :: u35 :: u36 :: u37 :: u38 :: u39 :: u40 :: u41 :: u42 :: u43 :: u44 :: u45 :: u46 :: u47 :: u48 :: u49 :: u50 :: u51 :: u52 :: u53 :: u54 :: u55 :: u56 :: u57 :: u58 :: u59 :: u60 :: u61 :: u62 :: u63 :: u64 :: u65 :: u66 :: u67 :: u68 :: u69 :: u70 :: u71 :: u72 :: u73 :: u74 :: u75 :: u76 :: u77 :: u78 :: u79 :: u80 :: u81 :: u82 :: u83 :: u84 :: u85 :: u86 :: u87 :: u88 :: u89 :: u90 :: u91 :: u92 :: u93 :: u94 :: u95 :: u96 :: u97 :: u98 :: u99 :: u100 :: u101 :: u102 :: u103 :: u104 :: u105 :: u106 :: u107 :: u108 :: u109 :: u110 :: []).toArray, []⟩ w := by
  have HKK := Lib.hid hK
  have g11 := After.share (N11.cell 0 _ rfl) (N11.cell 1 _ rfl)
  have W1 := Lib.hid (fun z : After w => Verify_any d x y v12 z.W hd hx hy (by omega) (hA.below z.hb))
  have W2 := Lib.hid (fun z : After w => RVerify_any d x y v12 z.W hd hx hy (by omega) (hA.below z.hb))
  obtain ⟨q, hq⟩ : ∃ q, vfy d (x, y) = q := ⟨_, rfl⟩
  rw [hq] at W1 W2
  have hqq : (q == q) = true := beq_self_eq_true q
  clear hK N11 hx hy hd hd9 hA hq
  conv => arg 2; whnf
  refine wp_region_after (by kernel_rfl) (by kernel_rfl) ?_
  repeat (first
    | (refine quiet_load_at 33 (.tmp 11) (by rfl) ⟨b11, 0, none⟩ (by rfl) #[I x, I y] g11 (by kernel_rfl) ?_; go_frame)
    | (go_big_quiet_step (first | (with_reducible exact After.call (W1.out _)) | (with_reducible exact After.call (W2.out _)))))
  refine wpQuiet_nil ?_
  rintro w5 ⟨x5, rfl⟩
  have hB5 := hB.trans (x5.hb.mono hB.size)
  generalize x5.W = w5 at *
  clear g11 W1 W2 x5 hB
  refine HKK.out _ _ ?_
  clear HKK
  conv => arg 2; whnf
  go_wp2_with fail
  go_ret
  exact ⟨rfl, hB5⟩

theorem vfy_share {cs : List Int} (h : cs.all blw = true) (h1 : 1 ≤ cs.length) (h2 : cs.length ≤ 100) {p : Int × Int} (hp : isS cs p) : vfy (coms cs) p = true := by
  unfold vfy; rw [comm_coms cs h h1 h2, isS_fts h hp]; rfl
set_option maxRecDepth 100000 in
set_option maxHeartbeats 2000000 in
theorem walk (w : World) (v : Value) (l : List Int) (k q0 q1 q2 : Int) (hl : All64 l) (hl9 : l.length ≤ 9223372036854775807) (hA : IArg w v l) (hk : 0 ≤ k ∧ k ≤ 255) (h0 : In64 q0) (h1 : In64 q1) (h2 : In64 q2) :
    Calls Try.prog 6 #[v, .int .u8 k, .agg #[I q0, I q1, I q2]] w fun e w' => e = .returned (.bool true) ∧ Below w.heap.size w w' := by
  obtain ⟨kk, rfl⟩ := Int.eq_ofNat_of_zero_le hk.1
  have hk255 : kk ≤ 255 := by omega
  have C1 := Lib.hid (fun (w' : World) (hb : Below w.heap.size w w') => Coefs_any l v w' hl hl9 (hA.below hb))
  obtain ⟨a, cap, rfl, hc, _⟩ := hA
  have hcs := cofs_blw l
  obtain ⟨hn1, hn2⟩ := cofs_len l
  generalize cofs l = cs at *
  have M1 := Lib.hid (fun (v : Value) (w : World) (h : IArg w v cs) => made_good cs kk hk255 v w hcs hn1 (by omega) h)
  have HVS := Lib.hid (fun (x y : Int) (hp : isS cs (x, y)) => vfy_share hcs hn1 (by omega) hp)
  obtain ⟨n, hn⟩ : ∃ n, cs.length = n := ⟨_, rfl⟩
  have HN := Lib.hid hn
  have NQ := Blk.new w #[I q0, I q1, I q2] 47
  have hB := (Below.refl w.heap.size w).alloc (Nat.le_refl _) (.cells #[I q0, I q1, I q2] 47)
  rw [hn] at hn1 hn2
  clear hn hl
  go_enter Try.func6, Try.ntmps6
  go_wp2_with fail
  generalize w.alloc (.cells #[I q0, I q1, I q2] 47) = w1 at *
  refine (sanity_any _).mono ?_; rintro e w2 ⟨rfl, hb⟩
  have NQ := NQ.below hb NQ.lt
  have hB := hB.trans (hb.mono hB.size)
  clear hb
  go_wp2_with fail
  refine (C1.out _ hB).mono ?_; rintro e w3 ⟨v3, rfl, o3, hb⟩
  have NQ := NQ.below hb NQ.lt
  have hB := hB.trans (hb.mono hB.size)
  have HI3 := Lib.hid o3.iarg
  clear hb C1 o3
  go_wp2_with fail
  refine (M1.out _ _ HI3.out).mono ?_; rintro e w4 ⟨v1, v2, rfl, o1, o2, hb, _⟩
  have NQ := NQ.below hb NQ.lt
  have hB := hB.trans (hb.mono hB.size)
  rw [HN.out] at o1
  have hkr : kk % 6 < 6 := Nat.mod_lt _ (by decide)
  generalize kk % 6 = kr at *
  obtain ⟨g, c1, rfl, hc1, VR⟩ := OwnV.row o1 (by rw [shl_length]; omega)
  rw [shl_length] at hc1
  rw [shl_length]
  obtain ⟨N, hN⟩ : ∃ N, n + kr = N := ⟨_, rfl⟩
  rw [hN] at VR hc1
  rw [hN]
  have hN11 : N ≤ 11 := by omega
  have hN1 : 1 ≤ N := by omega
  have HI2 := Lib.hid o2.iarg
  obtain ⟨a2, c2, rfl, hc2⟩ := o2.form
  rw [coms_len, HN.out] at hc2 HI2
  rw [coms_len, HN.out]
  have HAT := Lib.hid (OwnV.shat (cap := c1) VR)
  have HG := Lib.hid (fun j (hj : j < N) => shl_get cs N j hj)
  have HIS := Lib.hid (fun p (hp : p ∈ shl cs N) => And.intro (shl_isS cs N (by omega) p hp) (shl_all64 cs N (by omega) p hp))
  have HW4 := Lib.hid hB
  clear hb M1 o1 o2 VR HI3 hN
  go_wp2_with fail
  go_loopw [10] (fun x wr => ∃ j : Nat, j ≤ N ∧ x = .int .i64 (j : Int) ∧ Below w4.heap.size w4 wr) (fun x _ => N - (intOf x).toNat)
  case atStart => exact ⟨0, by omega, rfl, Below.refl _ _⟩
  case round =>
    obtain ⟨j, hj, rfl, hb⟩ := hrel
    by_cases hjt : j < N
    · have hg := HG.out j hjt
      obtain ⟨c0, c1'⟩ := (HAT.out.below hb).cells hg
      rw [Nat.zero_add] at c0 c1'
      obtain ⟨his, h641, h642⟩ := HIS.out _ (List.mem_of_getElem? hg)
      have V1 := Lib.hid (HVS.out _ _ his ▸ Verify_any (coms cs) ((j : Int) + 1) (val cs ((j : Int) + 1)) _ wr (coms_all64 cs) h641 h642 (by rw [coms_len, HN.out]; omega) (HI2.out.below hb))
      have q1' : (j : Int) < (N : Int) := by omega
      obtain ⟨y, hy⟩ : ∃ y, val cs ((j : Int) + 1) = y := ⟨_, rfl⟩
      obtain ⟨x, hx⟩ : ∃ x, (j : Int) + 1 = x := ⟨_, rfl⟩
      rw [hy] at c1' V1
      rw [hx] at c0 V1
      clear hy hx hg his h641 h642
      go_wp2_with fail
      refine V1.out.mono ?_; rintro e w5 ⟨rfl, hb5⟩
      have hb6 := hb.trans (hb5.mono hb.size)
      clear V1 c0 c1' hb5 hb
      go_wp2_with fail
      go_roundw
      case rel => exact ⟨j + 1, by omega, by go_num, hb6⟩
      case measure => simp [intOf]; omega
    · have q1' : ¬ ((j : Int) < (N : Int)) := by omega
      have t0 : ((N : Int) == 0) = false := by rw [beq_eq_false_iff_ne]; omega
      have t1 : ((n : Int) == 0) = false := by rw [beq_eq_false_iff_ne]; omega
      have t0' : ¬ ((N : Int) = 0) := by omega
      have t1' : ¬ ((n : Int) = 0) := by omega
      have NQ := NQ.below hb NQ.lt
      have hBr := HW4.out.trans (hb.mono HW4.out.size)
      have HI2r := Lib.hid (HI2.out.below hb)
      have HATr := Lib.hid (HAT.out.below hb)
      -- the numbers that are drawn
      obtain ⟨i0, hi0⟩ := Int.eq_ofNat_of_zero_le (Int.emod_nonneg q0 (show (N : Int) ≠ 0 by omega))
      have hi0N : i0 < N := by have := Int.emod_lt_of_pos q0 (show 0 < (N : Int) by omega); omega
      obtain ⟨k0, hk0⟩ := Int.eq_ofNat_of_zero_le (Int.emod_nonneg q0 (show (n : Int) ≠ 0 by omega))
      have hk0n : k0 < n := by have := Int.emod_lt_of_pos q0 (show 0 < (n : Int) by omega); omega
      have D1 := Lib.hid (hi0 ▸ fun w => Mod_any q0 (N : Int) h0 (by omega) (by omega) w)
      have D2 := Lib.hid (hk0 ▸ fun w => Mod_any q0 (n : Int) h0 (by omega) (by omega) w)
      have D3 := Lib.hid (fun w => Mod_any q1 6 h1 (by omega) (by omega) w)
      have m0 := Int.emod_nonneg q1 (show (6 : Int) ≠ 0 by decide)
      have m1 := Int.emod_lt_of_pos q1 (show (0 : Int) < 6 by decide)
      have hg := HG.out i0 hi0N
      obtain ⟨c0, c1'⟩ := HATr.out.cells hg
      rw [Nat.zero_add] at c0 c1'
      obtain ⟨_, x64, y64⟩ := HIS.out _ (List.mem_of_getElem? hg)
      have x64 : In64 ((i0 : Int) + 1) := x64
      have y64 : In64 (val cs ((i0 : Int) + 1)) := y64
      obtain ⟨y, hy⟩ : ∃ y, val cs ((i0 : Int) + 1) = y := ⟨_, rfl⟩
      obtain ⟨x, hx⟩ : ∃ x, (i0 : Int) + 1 = x := ⟨_, rfl⟩
      rw [hy] at c1' y64
      rw [hx] at c0 x64
      have e0 := NQ.cell 0 _ rfl
      clear hg hi0 hk0 HG HIS HAT HI2 hy hx hb HVS
      have ti0 : (i0 : Int) < (N : Int) := by omega
      have tk0 : (k0 : Int) < (n : Int) := by omega
      have N11 := Blk.new wr #[I x, I y] 33
      have hb5 := (Below.refl wr.heap.size wr).alloc (Nat.le_refl _) (.cells #[I x, I y] 33)
      have hs5 : (wr.alloc (.cells #[I x, I y] 33)).heap.size = wr.heap.size + 1 := World.size_alloc _ _
      obtain ⟨w5, hw5⟩ : ∃ w5, wr.alloc (.cells #[I x, I y] 33) = w5 := ⟨_, rfl⟩
      rw [hw5] at N11 hb5 hs5
      have hb6 := (Below.refl w5.heap.size w5).alloc (Nat.le_refl _) (.cells #[] 3)
      obtain ⟨v6, w6, r1, r2, r3, r4⟩ := run_append_ints (w5.alloc (.cells #[] 3)) w5.heap.size _ (.slice a2 n c2) [] (coms cs) (OwnI.empty w5 _ (Nat.le_refl _)) hb6.size ((HI2r.out.below hb5).below hb6) (by rw [coms_len, HN.out]; simp; omega)
      have hb7 := below_of_grown hb6 r3 hb6.size (fun g hg => by cases hg; exact Nat.le_refl _)
      have HB0 := Lib.hid (run_build0_int w5)
      have HAPP := Lib.hid r1
      rw [List.nil_append] at r2
      have hc64 := coms_all64 cs
      have hcl : (coms cs).length = n := by rw [coms_len, HN.out]
      obtain ⟨cm, hcm⟩ : ∃ cm, coms cs = cm := ⟨_, rfl⟩
      rw [hcm] at r2 hc64 hcl
      obtain ⟨gd, cd, rfl, hcd, VD⟩ := OwnV.row r2 (by omega)
      rw [hcl] at hcd HAPP
      have NQ6 := (NQ.below hb5 NQ.lt).below hb7 (Nat.lt_of_lt_of_le NQ.lt hb5.size)
      have N116 := N11.below hb7 N11.lt
      have hB6 := (hBr.trans (hb5.mono hBr.size)).trans (hb7.mono (Nat.le_trans hBr.size hb5.size))
      have hwb := hBr.size
      have hgd := VD.base
      have e1 := NQ6.cell 0 _ rfl
      have e2 := NQ6.cell 1 _ rfl
      have e3 := NQ6.cell 2 _ rfl
      obtain ⟨qe, hqe⟩ : ∃ qe, q1 % 6 = qe := ⟨_, rfl⟩
      rw [hqe] at D3 m0 m1
      have HVD := Lib.hid VD
      have HC64 := Lib.hid hc64
      have HCL := Lib.hid hcl
      have HS5 := Lib.hid hs5
      have HW5 := Lib.hid hw5
      clear r1 r2 r3 r4 hcm hqe VD hc64 hcl hb5 hb6 hb7 hBr NQ HATr HI2r N11 hs5 hw5
      clear e1 e2 e3
      go_wp2_with fail
      refine (D1.out _).mono ?_; rintro e w7 ⟨rfl, rfl⟩
      go_upto_region 11 with (fail)
      rw [show wr.alloc (.cells #[I x, I y] 33) = w5 from HW5.out]
      clear c0 c1' e0 HW5 D1
      have e1 := NQ6.cell 0 _ rfl
      have e2 := NQ6.cell 1 _ rfl
      have e3 := NQ6.cell 2 _ rfl
      go_wp2_with (first
        | (refine wpList_build_run rfl 22 0 #[] rfl #[] rfl _ _ HB0.out ?_)
        | (at_builtin; refine Lib.wpList_append_run _ rfl (.tmp 51) (.tmp 52) 22 22 rfl _ _ rfl rfl _ _ HAPP.out ?_))
      refine (D2.out _).mono ?_; rintro e w7 ⟨rfl, rfl⟩
      clear HB0 HAPP D2
      go_wp2_with fail
      refine (D3.out _).mono ?_; rintro e w7 ⟨rfl, rfl⟩
      clear D3
      have hne : gd ≠ wr.heap.size := by have := HS5.out; omega
      have HOW := Lib.hid (HVD.out.ownI HCL.out hcd)
      have hVt : IAt w6 gd 0 cm := fun i x hx => HVD.out.cells i (I x) (by rw [List.getElem?_map, hx]; rfl)
      have HVT := Lib.hid hVt
      obtain ⟨c, hc0⟩ : ∃ c, cm[k0]? = some c := ⟨cm[k0]'(by rw [HCL.out]; exact hk0n), List.getElem?_eq_getElem _⟩
      have HC := Lib.hid hc0
      have ck := hVt k0 c hc0
      rw [Nat.zero_add] at ck
      have fk : w6.frozen? ⟨gd, k0, none⟩ = false := HVD.out.free _ (by omega)
      have x0 := N116.cell 0 _ rfl
      have x1 := N116.cell 1 _ rfl
      have z0 := N116.frozen 0
      have z1 := N116.frozen 1
      clear hVt hc0
      rcases (by omega : qe = 0 ∨ qe = 1 ∨ qe = 2 ∨ qe = 3 ∨ qe = 4 ∨ qe = 5) with rfl | rfl | rfl | rfl | rfl | rfl
      · clear m0 m1
        have N' : Blk (w6.setCell ⟨wr.heap.size, 0, none⟩ (I q2)) wr.heap.size #[I q2, I y] 33 := N116.set 0 (I q2)
        have hB' := hB6.setCell (show w.heap.size ≤ (⟨wr.heap.size, 0, none⟩ : Addr).block from hwb) (I q2)
        have HA' := Lib.hid (HOW.out.grown (grown_set (World.grownBy.refl w6 (some wr.heap.size)) 0 (I q2)) (fun g' hg' e => by cases hg'; injection e with e; exact hne e.symm)).iarg
        have HD' := HC64
        go_upto_region 26 with (fail)
        have hK := ‹∀ (a : Act) (w : World), Code.wp Try.prog _ _ a w → _›
        exact tail26 _ _ _ _ _ _ _ _ _ _ _ _ _ _ _ _ _ _ _ _ _ _ _ _ _ _ _ _ _ _ _ _ _ _ _ _ _ _ _ _ _ _ _ _ _ _ _ _ _ _ _ _ _ _ _ _ _ _ _ _ _ _ _ _ _ _ _ _ _ _ _ _ _ _ _ _ _ _ _ _ _ _ _ _ _ _ _ _ _ _ _ _ _ _ _ _ _ _ _ _ _ _ _ _ _ _ _ _ _ wr.heap.size q2 y cm w _ N' h2 y64 HD'.out (by rw [HCL.out]; omega) HA'.out hB' _ hK
      · clear m0 m1
        have N' : Blk (w6.setCell ⟨wr.heap.size, 1, none⟩ (I q2)) wr.heap.size #[I x, I q2] 33 := N116.set 1 (I q2)
        have hB' := hB6.setCell (show w.heap.size ≤ (⟨wr.heap.size, 1, none⟩ : Addr).block from hwb) (I q2)
        have HA' := Lib.hid (HOW.out.grown (grown_set (World.grownBy.refl w6 (some wr.heap.size)) 1 (I q2)) (fun g' hg' e => by cases hg'; injection e with e; exact hne e.symm)).iarg
        have HD' := HC64
        go_upto_region 26 with (fail)
        have hK := ‹∀ (a : Act) (w : World), Code.wp Try.prog _ _ a w → _›
        exact tail26 _ _ _ _ _ _ _ _ _ _ _ _ _ _ _ _ _ _ _ _ _ _ _ _ _ _ _ _ _ _ _ _ _ _ _ _ _ _ _ _ _ _ _ _ _ _ _ _ _ _ _ _ _ _ _ _ _ _ _ _ _ _ _ _ _ _ _ _ _ _ _ _ _ _ _ _ _ _ _ _ _ _ _ _ _ _ _ _ _ _ _ _ _ _ _ _ _ _ _ _ _ _ _ _ _ _ _ _ _ wr.heap.size x q2 cm w _ N' x64 h2 HD'.out (by rw [HCL.out]; omega) HA'.out hB' _ hK
      · clear m0 m1
        have N' := N116.other (a := ⟨gd, k0, none⟩) (show wr.heap.size ≠ gd from fun e => hne e.symm) (I q2)
        have hB' := hB6.setCell (show w.heap.size ≤ (⟨gd, k0, none⟩ : Addr).block by show w.heap.size ≤ gd; have := HS5.out; omega) (I q2)
        have HA' := Lib.hid ((HVD.out.putI (by rw [HCL.out]; exact hk0n) q2).ownI (by rw [List.length_set, HCL.out]) hcd).iarg
        have HD' : Hid (All64 (cm.set k0 q2)) := fun z hz => by
          rcases List.mem_or_eq_of_mem_set hz with hz | rfl
          · exact HC64.out z hz
          · exact h2
        go_upto_region 26 with (fail)
        have hK := ‹∀ (a : Act) (w : World), Code.wp Try.prog _ _ a w → _›
        exact tail26 _ _ _ _ _ _ _ _ _ _ _ _ _ _ _ _ _ _ _ _ _ _ _ _ _ _ _ _ _ _ _ _ _ _ _ _ _ _ _ _ _ _ _ _ _ _ _ _ _ _ _ _ _ _ _ _ _ _ _ _ _ _ _ _ _ _ _ _ _ _ _ _ _ _ _ _ _ _ _ _ _ _ _ _ _ _ _ _ _ _ _ _ _ _ _ _ _ _ _ _ _ _ _ _ _ _ _ _ _ wr.heap.size x y (cm.set k0 q2) w _ N' x64 y64 HD'.out (by rw [List.length_set, HCL.out]; omega) HA'.out hB' _ hK
      · clear m0 m1
        have c64 := HC64.out.get HC.out
        have D4 := Lib.hid (fun w => Mul_any c 4 2305843009213691579 c64 ⟨by decide, by decide⟩ (by decide) w)
        have z64 : In64 (Fld.mulS c 4 2305843009213691579) := mulS_in (by decide)
        obtain ⟨z, hz⟩ : ∃ z, Fld.mulS c 4 2305843009213691579 = z := ⟨_, rfl⟩
        rw [hz] at D4 z64
        clear hz
        go_wp2_with fail
        refine (D4.out _).mono ?_; rintro e w7 ⟨rfl, hb7⟩
        have ck7 := keepCells hb7 _ _ ck
        have V7 := HVD.out.below hb7
        have fk7 : w7.frozen? ⟨gd, k0, none⟩ = false := V7.free _ (by omega)
        have N7 := N116.below hb7 N116.lt
        have N' := N7.other (a := ⟨gd, k0, none⟩) (show wr.heap.size ≠ gd from fun e => hne e.symm) (I z)
        have hB7 := hB6.trans (hb7.mono hB6.size)
        have hB' := hB7.setCell (show w.heap.size ≤ (⟨gd, k0, none⟩ : Addr).block by show w.heap.size ≤ gd; have := HS5.out; omega) (I z)
        have HA' := Lib.hid ((V7.putI (by rw [HCL.out]; exact hk0n) z).ownI (by rw [List.length_set, HCL.out]) hcd).iarg
        have HD' : Hid (All64 (cm.set k0 z)) := fun t ht => by
          rcases List.mem_or_eq_of_mem_set ht with ht | rfl
          · exact HC64.out t ht
          · exact z64
        clear x0 x1 z0 z1 ck fk e1 e2 e3 hb7 V7 D4 N7 hB7
        go_upto_region 26 with (fail)
        have hK := ‹∀ (a : Act) (w : World), Code.wp Try.prog _ _ a w → _›
        exact tail26 _ _ _ _ _ _ _ _ _ _ _ _ _ _ _ _ _ _ _ _ _ _ _ _ _ _ _ _ _ _ _ _ _ _ _ _ _ _ _ _ _ _ _ _ _ _ _ _ _ _ _ _ _ _ _ _ _ _ _ _ _ _ _ _ _ _ _ _ _ _ _ _ _ _ _ _ _ _ _ _ _ _ _ _ _ _ _ _ _ _ _ _ _ _ _ _ _ _ _ _ _ _ _ _ _ _ _ _ _ wr.heap.size x y (cm.set k0 z) w _ N' x64 y64 HD'.out (by rw [List.length_set, HCL.out]; omega) HA'.out hB' _ hK
      · clear m0 m1
        obtain ⟨n1, hn1'⟩ : ∃ n1, n = n1 + 1 := ⟨n - 1, by omega⟩
        have hsub : (n : Int) - 1 = (n1 : Int) := by omega
        have hsl : ∀ w, (Instr.sliceAt 22 (.slice (some ⟨gd, 0, none⟩) n cd) none (some (.int .i64 (n1 : Int))) none).run Try.prog w = .ok (.slice (some ⟨gd, 0, none⟩) n1 cd) w := fun w => by
          have e0 : (n1 : Int) ≤ (cd : Int) := by omega
          go_simp
        have N' := N116
        have hB' := hB6
        have HA' : Hid (IArg w6 (.slice (some ⟨gd, 0, none⟩) n1 cd) (cm.take n1)) := IArg.of (by rw [List.length_take, HCL.out]; omega) (by omega) (fun i x hx => HVT.out i x (by
          rw [List.getElem?_take] at hx
          split at hx
          · exact hx
          · cases hx))
        have HD' : Hid (All64 (cm.take n1)) := fun z hz => HC64.out z (List.mem_of_mem_take hz)
        clear hn1'
        go_upto_region 26 with (fail)
        have hK := ‹∀ (a : Act) (w : World), Code.wp Try.prog _ _ a w → _›
        exact tail26 _ _ _ _ _ _ _ _ _ _ _ _ _ _ _ _ _ _ _ _ _ _ _ _ _ _ _ _ _ _ _ _ _ _ _ _ _ _ _ _ _ _ _ _ _ _ _ _ _ _ _ _ _ _ _ _ _ _ _ _ _ _ _ _ _ _ _ _ _ _ _ _ _ _ _ _ _ _ _ _ _ _ _ _ _ _ _ _ _ _ _ _ _ _ _ _ _ _ _ _ _ _ _ _ _ _ _ _ _ wr.heap.size x y (cm.take n1) w _ N' x64 y64 HD'.out (by rw [List.length_take, HCL.out]; omega) HA'.out hB' _ hK
      · clear m0 m1
        obtain ⟨v', w7, r1, r2, r3, r4⟩ := run_append_int w6 w5.heap.size _ cm HOW.out (by have := HVD.out.lt; omega) 1 (by have := HCL.out; omega)
        have HB1 := Lib.hid (one_int w6 1)
        have HAP1 := Lib.hid r1
        have N' := N116.keptBy r3 (fun e => by injection e with e; exact hne e.symm)
        have hB' := below_of_grown hB6 r3 hB6.size (fun g' hg' => by cases hg'; show w.heap.size ≤ gd; have := HS5.out; omega)
        have HA' := Lib.hid (OwnV.iarg r2)
        have HD' : Hid (All64 (cm ++ [1])) := fun z hz => by
          rcases List.mem_append.1 hz with hz | hz
          · exact HC64.out z hz
          · rw [List.mem_singleton.1 hz]; exact ⟨by decide, by decide⟩
        clear r1 r2 r3 r4 x0 x1 z0 z1 ck fk e1 e3 HOW
        go_upto_region 25 with (fail)
        go_wp2_with (first
          | (refine wpList_build_run rfl 22 1 #[(0, .const (.int .i64 1))] rfl #[(0, I 1)] rfl _ _ HB1.out ?_)
          | (at_builtin; refine Lib.wpList_append_run _ rfl (.tmp 98) (.tmp 99) 22 22 rfl _ _ rfl rfl _ _ HAP1.out ?_))
        have hK := ‹∀ (a : Act) (w : World), Code.wp Try.prog _ _ a w → _›
        exact tail26 _ _ _ _ _ _ _ _ _ _ _ _ _ _ _ _ _ _ _ _ _ _ _ _ _ _ _ _ _ _ _ _ _ _ _ _ _ _ _ _ _ _ _ _ _ _ _ _ _ _ _ _ _ _ _ _ _ _ _ _ _ _ _ _ _ _ _ _ _ _ _ _ _ _ _ _ _ _ _ _ _ _ _ _ _ _ _ _ _ _ _ _ _ _ _ _ _ _ _ _ _ _ _ _ _ _ _ _ _ wr.heap.size x y (cm ++ [1]) w _ N' x64 y64 HD'.out (by rw [List.length_append, HCL.out]; simp; omega) HA'.out hB' _ hK

set_option maxRecDepth 100000 in
theorem lifted (os : Os) (started : os.Started) (H : Type) (enc : TypeId × Value → H) :
    ReturnsInHanded {} Try.checked os 6 .any (Rows.shareVerifiesSpec.pre6 enc Try.prog Try.f6 Rows.shareVerifiesRow.domain false) (Rows.shareVerifiesSpec.post enc Try.prog Try.f6 false true false false) := by
  refine returnsInHanded_of_change (C := Try.checked) law_own started (by kernel_rfl) Try.func6
    (ChangeSpec.witness6 (enc := enc) (C := Try.checked) false ⟨#[], #[.slice none 0 0, .int .u8 0, .agg #[.int .i64 0, .int .i64 0, .int .i64 0]], []⟩ 8 (by kernel_rfl) (by kernel_rfl) (by kernel_rfl) (by kernel_rfl)) ?_
  intro W base args ds gs before hval0 hW _ _
  have hval : ∀ (j : Nat) t v, Try.f6.params[j]? = some t → args[j]? = some v → Value.okWide Try.prog W .any base t v := hval0
  have hWk : DataW.Whole enc Try.prog Try.f6.params.toList Rows.shareVerifiesSpec.vars false W args.toList ds gs before := hW
  obtain ⟨p, q, hA0, hV, rfl, _, _⟩ := hW
  have hA : DataW.TrodAll enc Try.prog W 0 (fun _ => true) true Try.f6.params.toList args.toList ds p := hA0
  rw [Try.params6] at hA hval
  obtain ⟨v0, vs0, d0, ds0, p0, q0, hargs, rfl, rfl, h0, r0⟩ := trodAll_cons hA
  obtain ⟨v1, vs1, d1, ds1, p1, q1, rfl, rfl, rfl, h1, r1⟩ := trodAll_cons r0
  obtain ⟨v2, vs2, d2, ds2, p2, q2, rfl, rfl, rfl, h2, r2⟩ := trodAll_cons r1
  obtain ⟨rfl, rfl, rfl⟩ := trodAll_nil r2
  obtain rfl : args = #[v0, v1, v2] := by cases args; simp_all
  obtain ⟨rfl, rfl⟩ := trodVars_none hV
  obtain ⟨l0, hA0_, hl0, hn0⟩ := open_intsA (hval 0 22 v0 rfl rfl) h0
  obtain ⟨a1, rfl, _, _, w1⟩ := open_int Try.underlying5 (hval 1 5 v1 rfl rfl) h1
  obtain ⟨zs2, l2, rfl, w2⟩ := open_int_array Try.underlying47 Try.underlying3 (by kernel_rfl) (by kernel_rfl) (hval 2 47 v2 rfl rfl) h2
  obtain ⟨x2_0, x2_1, x2_2, rfl⟩ := list3 l2
  clear hA0 hval0
  refine (walk W v0 l0 a1 x2_0 x2_1 x2_2 hl0 hn0 hA0_ (by simpa [Lit.wf, IntKind.min, IntKind.max, IntKind.signed, IntKind.bits] using w1) (in64_wf (w2 x2_0 (by simp))) (in64_wf (w2 x2_1 (by simp))) (in64_wf (w2 x2_2 (by simp)))).mono fun e W' ⟨he, hb⟩ => ?_
  exact ⟨_, he, law_post law_laid rfl (by rw [Try.params6]; decide +kernel) (by kernel_rfl) Try.underlying4 rfl hWk hb⟩

theorem holds : Rows.ShareVerifiesSaid :=
  OpenClaim.holds_of_wide 6 Try.f6 rfl rfl rfl rfl rfl rfl rfl ⟨rfl, rfl, rfl, rfl, rfl⟩ rfl rfl rfl rfl rfl (by kernel_rfl) Try.func6 (by kernel_rfl)
    (of_decide_eq_true (by kernel_rfl)) (by unfold Func.isWrapper; first | (rw [if_pos (by decide +kernel)]; kernel_rfl) | (rw [if_neg (by decide +kernel)]; exact ⟨rfl, rfl⟩))
    (fun os started H enc _ => lifted os started H enc)

end Go.Proofs.Ytdnabeldaighgaa.LVerifies

namespace Go.Proofs.Ytdnabeldaighgaa
/-- The statement. -/
theorem shareVerifies_holds : Rows.ShareVerifiesSaid := LVerifies.holds
end Go.Proofs.Ytdnabeldaighgaa
