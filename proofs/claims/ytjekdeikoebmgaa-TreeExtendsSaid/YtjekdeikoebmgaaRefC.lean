/- The contract of the reference's block: its other loops, and the whole. -/
import Derived.Test.YtjekdeikoebmgaaRefB
namespace Go.Proofs.Ytjekdeikoebmgaa
open Go.RowKit Go.Shelf

theorem S1_bits (x : Nat) (hx : x < 4294967296) : bits .xor .u32 (bits .xor .u32 (Sha.rotr x 6 : Nat) (Sha.rotr x 11 : Nat)) (Sha.rotr x 25 : Nat) = ((Sha.S1 x : Nat) : Int) := mixed_bits x 6 11 25 hx
theorem S0_bits (x : Nat) (hx : x < 4294967296) : bits .xor .u32 (bits .xor .u32 (Sha.rotr x 2 : Nat) (Sha.rotr x 13 : Nat)) (Sha.rotr x 22 : Nat) = ((Sha.S0 x : Nat) : Int) := mixed_bits x 2 13 22 hx
theorem rt1_bits (va vb vc vd ve vf vg vh k x : Nat) (he : ve < 4294967296) (hf : vf < 4294967296) (hg : vg < 4294967296) :
    (((vh : Int) + ((Sha.S1 ve : Nat) : Int) + bits .xor .u32 (bits .and .u32 (ve : Int) (vf : Int)) (bits .and .u32 (bits .xor .u32 (if IntKind.u32.signed = true then -1 else IntKind.u32.max) (ve : Int)) (vg : Int)) + (k : Int)) % 4294967296 + (x : Int)) % 4294967296 =
      ((Sha.t1 ⟨va, vb, vc, vd, ve, vf, vg, vh⟩ k x : Nat) : Int) := by
  rw [← t1_bits va vb vc vd ve vf vg vh k x he hf hg, show (if IntKind.u32.signed = true then (-1 : Int) else IntKind.u32.max) = IntKind.u32.max from rfl, Int.emod_add_emod]

set_option maxRecDepth 100000 in
set_option maxHeartbeats 4000000 in
theorem rblock_loop2 (u0 u1 u2 u3 u4 u7 u8 u9 u12 u13 u14 u15 u16 u17 u18 u19 u20 u21 u22 u23 u24 u25 u26 u27 u28 u29 u30 u31 u32 u33 u34 u35 u36 u37 u38 u39 u40 u41 u42 u43 u44 u45 u46 u47 u48 u49 u50 u51 u52 u53 u54 u55 u56 u57 u58 u59 u60 u61 u62 u63 u64 u65 u66 u67 u68 u69 u70 u71 u72 u73 u74 u75 u76 u77 u78 u79 u80 u81 u82 u83 u84 u85 u86 u87 u88 u89 u90 u91 u92 u93 u94 u95 u96 u97 u98 u99 u100 u101 u102 u103 u104 u105 u106 u107 u108 u109 u110 u111 u112 u113 u114 u115 u116 u117 u118 u119 u120 u121 u122 u123 u124 u125 u126 u127 u128 u129 u130 u131 u132 u133 u134 u135 u136 u137 u138 u139 u140 u141 u142 u143 u144 u145 u146 u147 u148 u149 u150 u151 u152 u153 u154 u155 u156 u157 u158 u159 u160 u161 u162 u163 u164 u165 u166 u167 u168 u169 u170 u171 u172 u173 u174 u175 u176 u177 u178 u179 u180 u181 u182 u183 u184 u185 u186 u187 u188 : Value) (nk nw nv : Nat) (v : Sha.V) (hv : v.Ok) (ws : List Nat) (WS KS : Array Value) (GW : ∀ k, k < 64 → WS[k]? = some (U (ws.getD k 0))) (GK : ∀ k, k < 64 → KS[k]? = some (U (Sha.kk.getD k 0)))
    (w : World) (k1 : Blk w nw WS 96) (k2 : Blk w nk KS 96) (k3 : Blk w nv v.row 85) (hn1 : nw ≠ nv) (hn2 : nk ≠ nv) (Q : Exit → Act → World → Prop)
    (hexit : ∀ (y12 y13 y14 y15 y95 y96 y97 y98 y99 y100 y101 y102 y103 y104 y105 y106 y107 y108 y109 y110 y111 y112 y113 y114 y115 y116 y117 y118 y119 y120 y121 y122 y123 y124 y125 y126 y127 y128 y129 y130 y131 y132 y133 y134 y135 y136 y137 y138 y139 y140 y141 y142 y143 y144 y145 y146 y147 y148 y149 y150 y151 y152 y153 y154 y155 y156 y157 y158 y159 y160 y161 y162 y163 y164 y165 y166 y167 y168 y169 y170 y171 y172 y173 y174 : Value) (w' : World), w.grownBy w' (some nv) → Blk w' nv (Sha.rounds ws v 64).row 85 → Q (.exit 2) ⟨(u0 :: u1 :: u2 :: u3 :: u4 :: (.pointer (some ⟨nk, 0, none⟩)) :: (.pointer (some ⟨nw, 0, none⟩)) :: u7 :: u8 :: u9 :: (.pointer (some ⟨nv, 0, none⟩)) :: (.int .i64 64) :: y12 :: y13 :: y14 :: y15 :: u16 :: u17 :: u18 :: u19 :: u20 :: u21 :: u22 :: u23 :: u24 :: u25 :: u26 :: u27 :: u28 :: u29 :: u30 :: u31 :: u32 :: u33 :: u34 :: u35 :: u36 :: u37 :: u38 :: u39 :: u40 :: u41 :: u42 :: u43 :: u44 :: u45 :: u46 :: u47 :: u48 :: u49 :: u50 :: u51 :: u52 :: u53 :: u54 :: u55 :: u56 :: u57 :: u58 :: u59 :: u60 :: u61 :: u62 :: u63 :: u64 :: u65 :: u66 :: u67 :: u68 :: u69 :: u70 :: u71 :: u72 :: u73 :: u74 :: u75 :: u76 :: u77 :: u78 :: u79 :: u80 :: u81 :: u82 :: u83 :: u84 :: u85 :: u86 :: u87 :: u88 :: u89 :: u90 :: u91 :: u92 :: (.int .i64 64) :: (.bool false) :: y95 :: y96 :: y97 :: y98 :: y99 :: y100 :: y101 :: y102 :: y103 :: y104 :: y105 :: y106 :: y107 :: y108 :: y109 :: y110 :: y111 :: y112 :: y113 :: y114 :: y115 :: y116 :: y117 :: y118 :: y119 :: y120 :: y121 :: y122 :: y123 :: y124 :: y125 :: y126 :: y127 :: y128 :: y129 :: y130 :: y131 :: y132 :: y133 :: y134 :: y135 :: y136 :: y137 :: y138 :: y139 :: y140 :: y141 :: y142 :: y143 :: y144 :: y145 :: y146 :: y147 :: y148 :: y149 :: y150 :: y151 :: y152 :: y153 :: y154 :: y155 :: y156 :: y157 :: y158 :: y159 :: y160 :: y161 :: y162 :: y163 :: y164 :: y165 :: y166 :: y167 :: y168 :: y169 :: y170 :: y171 :: y172 :: y173 :: y174 :: u175 :: u176 :: u177 :: u178 :: u179 :: u180 :: u181 :: u182 :: u183 :: u184 :: u185 :: u186 :: u187 :: u188 :: []).toArray, []⟩ w') : Code.wp Try.prog (loopIn Try.f57 1) Q ⟨(u0 :: u1 :: u2 :: u3 :: u4 :: (.pointer (some ⟨nk, 0, none⟩)) :: (.pointer (some ⟨nw, 0, none⟩)) :: u7 :: u8 :: u9 :: (.pointer (some ⟨nv, 0, none⟩)) :: (.int .i64 0) :: u12 :: u13 :: u14 :: u15 :: u16 :: u17 :: u18 :: u19 :: u20 :: u21 :: u22 :: u23 :: u24 :: u25 :: u26 :: u27 :: u28 :: u29 :: u30 :: u31 :: u32 :: u33 :: u34 :: u35 :: u36 :: u37 :: u38 :: u39 :: u40 :: u41 :: u42 :: u43 :: u44 :: u45 :: u46 :: u47 :: u48 :: u49 :: u50 :: u51 :: u52 :: u53 :: u54 :: u55 :: u56 :: u57 :: u58 :: u59 :: u60 :: u61 :: u62 :: u63 :: u64 :: u65 :: u66 :: u67 :: u68 :: u69 :: u70 :: u71 :: u72 :: u73 :: u74 :: u75 :: u76 :: u77 :: u78 :: u79 :: u80 :: u81 :: u82 :: u83 :: u84 :: u85 :: u86 :: u87 :: u88 :: u89 :: u90 :: u91 :: u92 :: u93 :: u94 :: u95 :: u96 :: u97 :: u98 :: u99 :: u100 :: u101 :: u102 :: u103 :: u104 :: u105 :: u106 :: u107 :: u108 :: u109 :: u110 :: u111 :: u112 :: u113 :: u114 :: u115 :: u116 :: u117 :: u118 :: u119 :: u120 :: u121 :: u122 :: u123 :: u124 :: u125 :: u126 :: u127 :: u128 :: u129 :: u130 :: u131 :: u132 :: u133 :: u134 :: u135 :: u136 :: u137 :: u138 :: u139 :: u140 :: u141 :: u142 :: u143 :: u144 :: u145 :: u146 :: u147 :: u148 :: u149 :: u150 :: u151 :: u152 :: u153 :: u154 :: u155 :: u156 :: u157 :: u158 :: u159 :: u160 :: u161 :: u162 :: u163 :: u164 :: u165 :: u166 :: u167 :: u168 :: u169 :: u170 :: u171 :: u172 :: u173 :: u174 :: u175 :: u176 :: u177 :: u178 :: u179 :: u180 :: u181 :: u182 :: u183 :: u184 :: u185 :: u186 :: u187 :: u188 :: []).toArray, []⟩ w := by
  have HGW := Lib.hid GW
  have HGK := Lib.hid GK
  have HX := Lib.hid hexit
  clear GW GK hexit
  conv => arg 2; whnf
  go_loopw [11] (fun i wr => ∃ k : Nat, k ≤ 64 ∧ i = .int .i64 k ∧ Blk wr nw WS 96 ∧ Blk wr nk KS 96 ∧ Blk wr nv (Sha.rounds ws v k).row 85 ∧ w.grownBy wr (some nv)) (fun i _ => 64 - (intOf i).toNat)
  case atStart => exact ⟨0, by omega, rfl, k1, k2, k3, World.grownBy.refl w _⟩
  case round =>
    clear k1 k2 k3
    obtain ⟨k, hk, rfl, k1, k2, k3, hG⟩ := hrel
    have hr := hv.rounds ws k
    by_cases hlt : k < 64
    · have c4 := k1.cell k _ (HGW.out k hlt)
      have c5 := k2.cell k _ (HGK.out k hlt)
      have HN : Hid (Sha.rounds ws v (k + 1) = Sha.rnd (Sha.rounds ws v k) (Sha.kk.getD k 0) (ws.getD k 0)) := rfl
      generalize Sha.rounds ws v k = r at *
      obtain ⟨va, vb, vc, vd, ve, vf, vg, vh⟩ := r
      obtain ⟨ha, hb, hcc, hd, he, hf, hgg, hh⟩ := hr
      dsimp only at *
      generalize ws.getD k 0 = x4 at *
      generalize Sha.kk.getD k 0 = xk at *
      have HT := Lib.hid (rt1_bits va vb vc vd ve vf vg vh xk x4 he hf hgg)
      have HU := Lib.hid (t2_bits va vb vc vd ve vf vg vh ha hb hcc)
      have HR := Lib.hid (Sha.rnd_eq ⟨va, vb, vc, vd, ve, vf, vg, vh⟩ xk x4)
      have lT : Sha.t1 ⟨va, vb, vc, vd, ve, vf, vg, vh⟩ xk x4 < 4294967296 := Sha.mod_lt _
      have lU : Sha.t2 ⟨va, vb, vc, vd, ve, vf, vg, vh⟩ < 4294967296 := Sha.mod_lt _
      have v0 := k3.cell 0 (U va) rfl
      have v1 := k3.cell 1 (U vb) rfl
      have v2 := k3.cell 2 (U vc) rfl
      have v3 := k3.cell 3 (U vd) rfl
      have v4 := k3.cell 4 (U ve) rfl
      have v5 := k3.cell 5 (U vf) rfl
      have v6 := k3.cell 6 (U vg) rfl
      have v7 := k3.cell 7 (U vh) rfl
      have q1 := S1_bits ve he
      have q0 := S0_bits va ha
      have lS1 := Sha.S1_lt he
      have lS0 := Sha.S0_lt ha
      have r6 := Lib.hid (rrot6 ve he)
      have r11 := Lib.hid (rrot11 ve he)
      have r25 := Lib.hid (rrot25 ve he)
      have r2 := Lib.hid (rrot2 va ha)
      have r13 := Lib.hid (rrot13 va ha)
      have r22 := Lib.hid (rrot22 va ha)
      go_wp2_with fail
      have f4 := After.cell c4
      have f5 := After.cell c5
      have g5 := After.cell v5
      have g6 := After.cell v6
      have g7 := After.cell v7
      refine wp_region_after (by kernel_rfl) (by kernel_rfl) ?_
      repeat (go_big_quiet_step (first | (with_reducible exact After.call (r6.out _)) | (with_reducible exact After.call (r11.out _)) | (with_reducible exact After.call (r25.out _))))
      refine wpQuiet_nil ?_
      rintro w5 ⟨x5, rfl⟩
      have hb5 := x5.hb
      clear f4 f5 g5 g6 g7 c4 c5 v0 v1 v2 v3 v4 v5 v6 v7
      generalize x5.W = w5 at *
      have m3 := k3.below hb5 k3.lt
      have v1 := m3.cell 1 (U vb) rfl
      have v2 := m3.cell 2 (U vc) rfl
      go_upto_region 18 with (fail)
      rw [HT.out]
      generalize Sha.t1 ⟨va, vb, vc, vd, ve, vf, vg, vh⟩ xk x4 = T at *
      have g1 := After.cell v1
      have g2 := After.cell v2
      refine wp_region_after (by kernel_rfl) (by kernel_rfl) ?_
      repeat (go_big_quiet_step (first | (with_reducible exact After.call (r2.out _)) | (with_reducible exact After.call (r13.out _)) | (with_reducible exact After.call (r22.out _))))
      refine wpQuiet_nil ?_
      rintro w6 ⟨x6, rfl⟩
      have hb6 := x6.hb
      clear g1 g2 v1 v2
      generalize x6.W = w6 at *
      have hb7 := hb5.trans (hb6.mono hb5.size)
      have p3 := m3.below hb6 m3.lt
      have v0 := p3.cell 0 (U va) rfl
      have v1 := p3.cell 1 (U vb) rfl
      have v2 := p3.cell 2 (U vc) rfl
      have v3 := p3.cell 3 (U vd) rfl
      have v4 := p3.cell 4 (U ve) rfl
      have v5 := p3.cell 5 (U vf) rfl
      have v6 := p3.cell 6 (U vg) rfl
      have K3 := Lib.hid p3
      go_upto_region 19 with (fail)
      rw [HU.out]
      generalize Sha.t2 ⟨va, vb, vc, vd, ve, vf, vg, vh⟩ = W at *
      clear p3
      go_wp2_with (first | (refine wpList_store_row rfl 85 (.tmp 10) (.tmp 174) rfl nv _ rfl rfl 85 _ K3.out info45 ?h3 ?h4 ?_; (exact rfl); (simp [Value.oneCell'])))
      go_roundw
      case rel =>
        have e1 : Sha.rounds ws v (k + 1) = ⟨(T + W) % 4294967296, va, vb, vc, (vd + T) % 4294967296, ve, vf, vg⟩ := HN.out.trans HR.out
        refine ⟨k + 1, by omega, by go_num, (k1.below hb7 k1.lt).rowOther _ hn1, (k2.below hb7 k2.lt).rowOther _ hn2, ?_, grown_row (grown_then hG hb7) _⟩
        rw [e1]
        have h8 := K3.out.row (Sha.V.row ⟨(T + W) % 4294967296, va, vb, vc, (vd + T) % 4294967296, ve, vf, vg⟩)
        have e2 : Sha.V.row ⟨(T + W) % 4294967296, va, vb, vc, (vd + T) % 4294967296, ve, vf, vg⟩ = #[.int .u32 (((T : Int) + (W : Int)) % 4294967296), U va, U vb, U vc, .int .u32 (((vd : Int) + (T : Int)) % 4294967296), U ve, U vf, U vg] := by
          show #[.int .u32 (((T + W) % 4294967296 : Nat) : Int), U va, U vb, U vc, .int .u32 (((vd + T) % 4294967296 : Nat) : Int), U ve, U vf, U vg] = _
          rw [show ((((T + W) % 4294967296 : Nat)) : Int) = ((T : Int) + (W : Int)) % 4294967296 by omega, show ((((vd + T) % 4294967296 : Nat)) : Int) = ((vd : Int) + (T : Int)) % 4294967296 by omega]
        rw [e2] at h8 ⊢
        exact h8
      case measure => simp [intOf]; omega
    · obtain rfl : k = 64 := by omega
      clear hlt hk hr
      go_wp2_with fail
      exact HX.out _ _ _ _ _ _ _ _ _ _ _ _ _ _ _ _ _ _ _ _ _ _ _ _ _ _ _ _ _ _ _ _ _ _ _ _ _ _ _ _ _ _ _ _ _ _ _ _ _ _ _ _ _ _ _ _ _ _ _ _ _ _ _ _ _ _ _ _ _ _ _ _ _ _ _ _ _ _ _ _ _ _ _ _ wr hG k3

set_option maxRecDepth 100000 in
set_option maxHeartbeats 4000000 in
theorem rblock_loop3 (u0 u1 u3 u4 u5 u6 u7 u8 u9 u11 u12 u13 u14 u15 u17 u18 u19 u20 u21 u22 u23 u24 u25 u26 u27 u28 u29 u30 u31 u32 u33 u34 u35 u36 u37 u38 u39 u40 u41 u42 u43 u44 u45 u46 u47 u48 u49 u50 u51 u52 u53 u54 u55 u56 u57 u58 u59 u60 u61 u62 u63 u64 u65 u66 u67 u68 u69 u70 u71 u72 u73 u74 u75 u76 u77 u78 u79 u80 u81 u82 u83 u84 u85 u86 u87 u88 u89 u90 u91 u92 u93 u94 u95 u96 u97 u98 u99 u100 u101 u102 u103 u104 u105 u106 u107 u108 u109 u110 u111 u112 u113 u114 u115 u116 u117 u118 u119 u120 u121 u122 u123 u124 u125 u126 u127 u128 u129 u130 u131 u132 u133 u134 u135 u136 u137 u138 u139 u140 u141 u142 u143 u144 u145 u146 u147 u148 u149 u150 u151 u152 u153 u154 u155 u156 u157 u158 u159 u160 u161 u162 u163 u164 u165 u166 u167 u168 u169 u170 u171 u172 u173 u174 u175 u176 u177 u178 u179 u180 u181 u182 u183 u184 u185 u186 u187 u188 : Value) (sb nv : Nat) (v u : Sha.V) (w : World) (k3 : Blk w sb v.row 85) (k4 : Blk w nv u.row 85) (hne : nv ≠ sb) (Q : Exit → Act → World → Prop)
    (hexit : ∀ (y177 y178 y179 y180 y181 y182 y183 y184 y185 y186 y187 : Value) (w' : World), w.grownBy w' (some sb) → Blk w' sb (Sha.addV v u).row 85 → Q (.exit 4) ⟨(u0 :: u1 :: (.pointer (some ⟨sb, 0, none⟩)) :: u3 :: u4 :: u5 :: u6 :: u7 :: u8 :: u9 :: (.pointer (some ⟨nv, 0, none⟩)) :: u11 :: u12 :: u13 :: u14 :: u15 :: (.int .i64 8) :: u17 :: u18 :: u19 :: u20 :: u21 :: u22 :: u23 :: u24 :: u25 :: u26 :: u27 :: u28 :: u29 :: u30 :: u31 :: u32 :: u33 :: u34 :: u35 :: u36 :: u37 :: u38 :: u39 :: u40 :: u41 :: u42 :: u43 :: u44 :: u45 :: u46 :: u47 :: u48 :: u49 :: u50 :: u51 :: u52 :: u53 :: u54 :: u55 :: u56 :: u57 :: u58 :: u59 :: u60 :: u61 :: u62 :: u63 :: u64 :: u65 :: u66 :: u67 :: u68 :: u69 :: u70 :: u71 :: u72 :: u73 :: u74 :: u75 :: u76 :: u77 :: u78 :: u79 :: u80 :: u81 :: u82 :: u83 :: u84 :: u85 :: u86 :: u87 :: u88 :: u89 :: u90 :: u91 :: u92 :: u93 :: u94 :: u95 :: u96 :: u97 :: u98 :: u99 :: u100 :: u101 :: u102 :: u103 :: u104 :: u105 :: u106 :: u107 :: u108 :: u109 :: u110 :: u111 :: u112 :: u113 :: u114 :: u115 :: u116 :: u117 :: u118 :: u119 :: u120 :: u121 :: u122 :: u123 :: u124 :: u125 :: u126 :: u127 :: u128 :: u129 :: u130 :: u131 :: u132 :: u133 :: u134 :: u135 :: u136 :: u137 :: u138 :: u139 :: u140 :: u141 :: u142 :: u143 :: u144 :: u145 :: u146 :: u147 :: u148 :: u149 :: u150 :: u151 :: u152 :: u153 :: u154 :: u155 :: u156 :: u157 :: u158 :: u159 :: u160 :: u161 :: u162 :: u163 :: u164 :: u165 :: u166 :: u167 :: u168 :: u169 :: u170 :: u171 :: u172 :: u173 :: u174 :: (.int .i64 8) :: (.bool false) :: y177 :: y178 :: y179 :: y180 :: y181 :: y182 :: y183 :: y184 :: y185 :: y186 :: y187 :: u188 :: []).toArray, []⟩ w') : Code.wp Try.prog (loopIn Try.f57 2) Q ⟨(u0 :: u1 :: (.pointer (some ⟨sb, 0, none⟩)) :: u3 :: u4 :: u5 :: u6 :: u7 :: u8 :: u9 :: (.pointer (some ⟨nv, 0, none⟩)) :: u11 :: u12 :: u13 :: u14 :: u15 :: (.int .i64 0) :: u17 :: u18 :: u19 :: u20 :: u21 :: u22 :: u23 :: u24 :: u25 :: u26 :: u27 :: u28 :: u29 :: u30 :: u31 :: u32 :: u33 :: u34 :: u35 :: u36 :: u37 :: u38 :: u39 :: u40 :: u41 :: u42 :: u43 :: u44 :: u45 :: u46 :: u47 :: u48 :: u49 :: u50 :: u51 :: u52 :: u53 :: u54 :: u55 :: u56 :: u57 :: u58 :: u59 :: u60 :: u61 :: u62 :: u63 :: u64 :: u65 :: u66 :: u67 :: u68 :: u69 :: u70 :: u71 :: u72 :: u73 :: u74 :: u75 :: u76 :: u77 :: u78 :: u79 :: u80 :: u81 :: u82 :: u83 :: u84 :: u85 :: u86 :: u87 :: u88 :: u89 :: u90 :: u91 :: u92 :: u93 :: u94 :: u95 :: u96 :: u97 :: u98 :: u99 :: u100 :: u101 :: u102 :: u103 :: u104 :: u105 :: u106 :: u107 :: u108 :: u109 :: u110 :: u111 :: u112 :: u113 :: u114 :: u115 :: u116 :: u117 :: u118 :: u119 :: u120 :: u121 :: u122 :: u123 :: u124 :: u125 :: u126 :: u127 :: u128 :: u129 :: u130 :: u131 :: u132 :: u133 :: u134 :: u135 :: u136 :: u137 :: u138 :: u139 :: u140 :: u141 :: u142 :: u143 :: u144 :: u145 :: u146 :: u147 :: u148 :: u149 :: u150 :: u151 :: u152 :: u153 :: u154 :: u155 :: u156 :: u157 :: u158 :: u159 :: u160 :: u161 :: u162 :: u163 :: u164 :: u165 :: u166 :: u167 :: u168 :: u169 :: u170 :: u171 :: u172 :: u173 :: u174 :: u175 :: u176 :: u177 :: u178 :: u179 :: u180 :: u181 :: u182 :: u183 :: u184 :: u185 :: u186 :: u187 :: u188 :: []).toArray, []⟩ w := by
  have HX := Lib.hid hexit
  clear hexit
  conv => arg 2; whnf
  go_loopw [16] (fun i wr => ∃ k : Nat, k ≤ 8 ∧ i = .int .i64 k ∧ Blk wr sb (mrow v u k) 85 ∧ Blk wr nv u.row 85 ∧ w.grownBy wr (some sb)) (fun i _ => 8 - (intOf i).toNat)
  case atStart => exact ⟨0, by omega, rfl, k3, k4, World.grownBy.refl w _⟩
  case round =>
    clear k3 k4
    obtain ⟨k, hk, rfl, k3, k4, hG⟩ := hrel
    by_cases hlt : k < 8
    · have c := k3.cell k (U (v.list.getD k 0)) (mrow_get v u k hlt)
      have hu : u.row[k]? = some (U (u.list.getD k 0)) := lt8 (P := fun k => u.row[k]? = some (U (u.list.getD k 0))) rfl rfl rfl rfl rfl rfl rfl rfl k hlt
      have c2 := k4.cell k (U (u.list.getD k 0)) hu
      clear hu
      have HM := Lib.hid (mrow_set v u k hlt)
      have f1 := After.cell c
      have f2 := After.cell c2
      have b1 : (k : Int) < 8 := by omega
      generalize v.list.getD k 0 = x at *
      generalize u.list.getD k 0 = y at *
      go_wp2_with fail
      refine wp_region_after_tail 9 (by kernel_rfl) (by kernel_rfl) (by kernel_rfl) (by kernel_rfl) ?_
      simp only [List.take_succ_cons, List.take_zero, List.drop_succ_cons, List.drop_zero]
      repeat (go_big_quiet_step (fail))
      refine wpQuiet_nil ?_
      rintro w5 ⟨x5, rfl⟩
      have hb5 := x5.hb
      have c5 := f1 x5
      clear f1 f2 c c2
      generalize x5.W = w5 at *
      have j3 := k3.below hb5 k3.lt
      have j4 := k4.below hb5 k4.lt
      have hz := j3.frozen k
      go_wp2_with fail
      go_roundw
      case rel =>
        refine ⟨k + 1, by omega, by go_num, ?_, j4.other (a := ⟨sb, k, none⟩) hne _, grown_set (grown_then hG hb5) _ _⟩
        have h3 := j3.set k (U ((x + y) % 4294967296))
        rw [HM.out] at h3
        rw [show ∀ n : Int, n = (((x + y) % 4294967296 : Nat) : Int) → Value.int IntKind.u32 n = U ((x + y) % 4294967296) from fun n hn => by rw [hn]]
        · exact h3
        · omega
      case measure => simp [intOf]; omega
    · obtain rfl : k = 8 := by omega
      clear hlt hk
      go_wp2_with fail
      exact HX.out _ _ _ _ _ _ _ _ _ _ _ wr hG k3

end Go.Proofs.Ytjekdeikoebmgaa
