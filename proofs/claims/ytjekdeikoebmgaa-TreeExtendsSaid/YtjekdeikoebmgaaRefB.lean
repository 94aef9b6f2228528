/- The contract of the reference's block. -/
import Derived.Test.YtjekdeikoebmgaaRefA
namespace Go.Proofs.Ytjekdeikoebmgaa
open Go.RowKit Go.Shelf

theorem rrot7 (x : Nat) (hx : x < 4294967296) (w : World) : Calls Try.prog 64 #[U x, .int .i64 7] w fun e w' => e = .returned (U (Sha.rotr x 7)) ∧ Below w.heap.size w w' := rrot_any x 7 hx (by omega) (by omega) w
theorem rrot18 (x : Nat) (hx : x < 4294967296) (w : World) : Calls Try.prog 64 #[U x, .int .i64 18] w fun e w' => e = .returned (U (Sha.rotr x 18)) ∧ Below w.heap.size w w' := rrot_any x 18 hx (by omega) (by omega) w
theorem rrot17 (x : Nat) (hx : x < 4294967296) (w : World) : Calls Try.prog 64 #[U x, .int .i64 17] w fun e w' => e = .returned (U (Sha.rotr x 17)) ∧ Below w.heap.size w w' := rrot_any x 17 hx (by omega) (by omega) w
theorem rrot19 (x : Nat) (hx : x < 4294967296) (w : World) : Calls Try.prog 64 #[U x, .int .i64 19] w fun e w' => e = .returned (U (Sha.rotr x 19)) ∧ Below w.heap.size w w' := rrot_any x 19 hx (by omega) (by omega) w
theorem rrot6 (x : Nat) (hx : x < 4294967296) (w : World) : Calls Try.prog 64 #[U x, .int .i64 6] w fun e w' => e = .returned (U (Sha.rotr x 6)) ∧ Below w.heap.size w w' := rrot_any x 6 hx (by omega) (by omega) w
theorem rrot11 (x : Nat) (hx : x < 4294967296) (w : World) : Calls Try.prog 64 #[U x, .int .i64 11] w fun e w' => e = .returned (U (Sha.rotr x 11)) ∧ Below w.heap.size w w' := rrot_any x 11 hx (by omega) (by omega) w
theorem rrot25 (x : Nat) (hx : x < 4294967296) (w : World) : Calls Try.prog 64 #[U x, .int .i64 25] w fun e w' => e = .returned (U (Sha.rotr x 25)) ∧ Below w.heap.size w w' := rrot_any x 25 hx (by omega) (by omega) w
theorem rrot2 (x : Nat) (hx : x < 4294967296) (w : World) : Calls Try.prog 64 #[U x, .int .i64 2] w fun e w' => e = .returned (U (Sha.rotr x 2)) ∧ Below w.heap.size w w' := rrot_any x 2 hx (by omega) (by omega) w
theorem rrot13 (x : Nat) (hx : x < 4294967296) (w : World) : Calls Try.prog 64 #[U x, .int .i64 13] w fun e w' => e = .returned (U (Sha.rotr x 13)) ∧ Below w.heap.size w w' := rrot_any x 13 hx (by omega) (by omega) w
theorem rrot22 (x : Nat) (hx : x < 4294967296) (w : World) : Calls Try.prog 64 #[U x, .int .i64 22] w fun e w' => e = .returned (U (Sha.rotr x 22)) ∧ Below w.heap.size w w' := rrot_any x 22 hx (by omega) (by omega) w

set_option maxRecDepth 100000 in
set_option maxHeartbeats 4000000 in
theorem rblock_loop1 (u0 u2 u3 u4 u5 u8 u9 u10 u11 u12 u13 u14 u15 u16 u17 u18 u19 u20 u21 u22 u23 u24 u25 u26 u27 u28 u29 u30 u31 u32 u33 u34 u35 u36 u37 u38 u39 u40 u41 u42 u43 u44 u45 u46 u47 u48 u49 u50 u51 u52 u53 u54 u55 u56 u57 u58 u59 u60 u61 u62 u63 u64 u65 u66 u67 u68 u69 u70 u71 u72 u73 u74 u75 u76 u77 u78 u79 u80 u81 u82 u83 u84 u85 u86 u87 u88 u89 u90 u91 u92 u93 u94 u95 u96 u97 u98 u99 u100 u101 u102 u103 u104 u105 u106 u107 u108 u109 u110 u111 u112 u113 u114 u115 u116 u117 u118 u119 u120 u121 u122 u123 u124 u125 u126 u127 u128 u129 u130 u131 u132 u133 u134 u135 u136 u137 u138 u139 u140 u141 u142 u143 u144 u145 u146 u147 u148 u149 u150 u151 u152 u153 u154 u155 u156 u157 u158 u159 u160 u161 u162 u163 u164 u165 u166 u167 u168 u169 u170 u171 u172 u173 u174 u175 u176 u177 u178 u179 u180 u181 u182 u183 u184 u185 u186 u187 u188 : Value) (nw : Nat) (b : ByteArray) (m : List UInt8) (hb : b.data.toList = m) (hm : m.length = 64) (w : World) (k0 : Blk w nw (wrow []) 96) (Q : Exit → Act → World → Prop)
    (hexit : ∀ (y8 y9 y20 y21 y22 y23 y24 y25 y26 y27 y28 y29 y30 y31 y32 y33 y34 y35 y36 y37 y38 y39 y40 y41 y42 y43 y44 y45 y46 y47 y48 y49 y50 y51 y52 y53 y54 y55 y56 y57 y58 y59 y60 y61 y62 y63 y64 y65 y66 y67 y68 y69 y70 y71 y72 y73 y74 y75 y76 y77 y78 y79 y80 y81 y82 y83 y84 y85 y86 y87 y88 y89 y90 y91 : Value) (w' : World), w.grownBy w' (some nw) → Blk w' nw (wrow (Sha.sched m 64)) 96 → Q (.exit 0) ⟨(u0 :: (.string b) :: u2 :: u3 :: u4 :: u5 :: (.pointer (some ⟨nw, 0, none⟩)) :: (.int .i64 64) :: y8 :: y9 :: u10 :: u11 :: u12 :: u13 :: u14 :: u15 :: u16 :: u17 :: (.int .i64 64) :: (.bool false) :: y20 :: y21 :: y22 :: y23 :: y24 :: y25 :: y26 :: y27 :: y28 :: y29 :: y30 :: y31 :: y32 :: y33 :: y34 :: y35 :: y36 :: y37 :: y38 :: y39 :: y40 :: y41 :: y42 :: y43 :: y44 :: y45 :: y46 :: y47 :: y48 :: y49 :: y50 :: y51 :: y52 :: y53 :: y54 :: y55 :: y56 :: y57 :: y58 :: y59 :: y60 :: y61 :: y62 :: y63 :: y64 :: y65 :: y66 :: y67 :: y68 :: y69 :: y70 :: y71 :: y72 :: y73 :: y74 :: y75 :: y76 :: y77 :: y78 :: y79 :: y80 :: y81 :: y82 :: y83 :: y84 :: y85 :: y86 :: y87 :: y88 :: y89 :: y90 :: y91 :: u92 :: u93 :: u94 :: u95 :: u96 :: u97 :: u98 :: u99 :: u100 :: u101 :: u102 :: u103 :: u104 :: u105 :: u106 :: u107 :: u108 :: u109 :: u110 :: u111 :: u112 :: u113 :: u114 :: u115 :: u116 :: u117 :: u118 :: u119 :: u120 :: u121 :: u122 :: u123 :: u124 :: u125 :: u126 :: u127 :: u128 :: u129 :: u130 :: u131 :: u132 :: u133 :: u134 :: u135 :: u136 :: u137 :: u138 :: u139 :: u140 :: u141 :: u142 :: u143 :: u144 :: u145 :: u146 :: u147 :: u148 :: u149 :: u150 :: u151 :: u152 :: u153 :: u154 :: u155 :: u156 :: u157 :: u158 :: u159 :: u160 :: u161 :: u162 :: u163 :: u164 :: u165 :: u166 :: u167 :: u168 :: u169 :: u170 :: u171 :: u172 :: u173 :: u174 :: u175 :: u176 :: u177 :: u178 :: u179 :: u180 :: u181 :: u182 :: u183 :: u184 :: u185 :: u186 :: u187 :: u188 :: []).toArray, []⟩ w') : Code.wp Try.prog (loopIn Try.f57 0) Q ⟨(u0 :: (.string b) :: u2 :: u3 :: u4 :: u5 :: (.pointer (some ⟨nw, 0, none⟩)) :: (.int .i64 0) :: u8 :: u9 :: u10 :: u11 :: u12 :: u13 :: u14 :: u15 :: u16 :: u17 :: u18 :: u19 :: u20 :: u21 :: u22 :: u23 :: u24 :: u25 :: u26 :: u27 :: u28 :: u29 :: u30 :: u31 :: u32 :: u33 :: u34 :: u35 :: u36 :: u37 :: u38 :: u39 :: u40 :: u41 :: u42 :: u43 :: u44 :: u45 :: u46 :: u47 :: u48 :: u49 :: u50 :: u51 :: u52 :: u53 :: u54 :: u55 :: u56 :: u57 :: u58 :: u59 :: u60 :: u61 :: u62 :: u63 :: u64 :: u65 :: u66 :: u67 :: u68 :: u69 :: u70 :: u71 :: u72 :: u73 :: u74 :: u75 :: u76 :: u77 :: u78 :: u79 :: u80 :: u81 :: u82 :: u83 :: u84 :: u85 :: u86 :: u87 :: u88 :: u89 :: u90 :: u91 :: u92 :: u93 :: u94 :: u95 :: u96 :: u97 :: u98 :: u99 :: u100 :: u101 :: u102 :: u103 :: u104 :: u105 :: u106 :: u107 :: u108 :: u109 :: u110 :: u111 :: u112 :: u113 :: u114 :: u115 :: u116 :: u117 :: u118 :: u119 :: u120 :: u121 :: u122 :: u123 :: u124 :: u125 :: u126 :: u127 :: u128 :: u129 :: u130 :: u131 :: u132 :: u133 :: u134 :: u135 :: u136 :: u137 :: u138 :: u139 :: u140 :: u141 :: u142 :: u143 :: u144 :: u145 :: u146 :: u147 :: u148 :: u149 :: u150 :: u151 :: u152 :: u153 :: u154 :: u155 :: u156 :: u157 :: u158 :: u159 :: u160 :: u161 :: u162 :: u163 :: u164 :: u165 :: u166 :: u167 :: u168 :: u169 :: u170 :: u171 :: u172 :: u173 :: u174 :: u175 :: u176 :: u177 :: u178 :: u179 :: u180 :: u181 :: u182 :: u183 :: u184 :: u185 :: u186 :: u187 :: u188 :: []).toArray, []⟩ w := by
  have HX := Lib.hid hexit
  have HB := Lib.hid hb
  have hbs : b.size = 64 := by rw [← hm, ← hb, Array.length_toList]; rfl
  have HBS := Lib.hid hbs
  clear hexit hb hbs
  conv => arg 2; whnf
  go_loopw [7] (fun i wr => ∃ k : Nat, k ≤ 64 ∧ i = .int .i64 k ∧ Blk wr nw (wrow (Sha.sched m k)) 96 ∧ w.grownBy wr (some nw)) (fun i _ => 64 - (intOf i).toNat)
  case atStart => exact ⟨0, by omega, rfl, k0, World.grownBy.refl w _⟩
  case round =>
    clear k0
    obtain ⟨k, hk, rfl, k1, hG⟩ := hrel
    by_cases hlt : k < 64
    · by_cases h16 : k < 16
      · have hx := k1.cell k _ (wrow_get _ k hlt)
        have f1 := After.cell hx
        have e0 : IntKind.i64.wrap (4 * (k : Int)) = 4 * (k : Int) := IntWalk.i64_in _ (by omega)
        have e1 : IntKind.i64.wrap (4 * (k : Int) + 1) = 4 * (k : Int) + 1 := IntWalk.i64_in _ (by omega)
        have e2 : IntKind.i64.wrap (4 * (k : Int) + 2) = 4 * (k : Int) + 2 := IntWalk.i64_in _ (by omega)
        have e3 : IntKind.i64.wrap (4 * (k : Int) + 3) = 4 * (k : Int) + 3 := IntWalk.i64_in _ (by omega)
        have i0 := str_index (P := Try.prog) Try.underlying9 b m HB.out (4 * k) (by omega) (4 * (k : Int)) (by omega)
        have i1 := str_index (P := Try.prog) Try.underlying9 b m HB.out (4 * k + 1) (by omega) (4 * (k : Int) + 1) (by omega)
        have i2 := str_index (P := Try.prog) Try.underlying9 b m HB.out (4 * k + 2) (by omega) (4 * (k : Int) + 2) (by omega)
        have i3 := str_index (P := Try.prog) Try.underlying9 b m HB.out (4 * k + 3) (by omega) (4 * (k : Int) + 3) (by omega)
        have l0 := Sha.byteAt_lt m (4 * k)
        have l1 := Sha.byteAt_lt m (4 * k + 1)
        have l2 := Sha.byteAt_lt m (4 * k + 2)
        have l3 := Sha.byteAt_lt m (4 * k + 3)
        have hW := word_bits _ _ _ _ l0 l1 l2 l3
        have HN : Hid (Sha.sched m (k + 1) = Sha.sched m k ++ [Sha.wordAt m k]) := by
          show _ = _
          rw [Sha.sched_succ, Sha.nextW, if_pos h16]
        have HWA : Hid (Sha.wordAt m k = Sha.w4 (Sha.byteAt m (4 * k)) (Sha.byteAt m (4 * k + 1)) (Sha.byteAt m (4 * k + 2)) (Sha.byteAt m (4 * k + 3))) := rfl
        have l4 : Sha.w4 (Sha.byteAt m (4 * k)) (Sha.byteAt m (4 * k + 1)) (Sha.byteAt m (4 * k + 2)) (Sha.byteAt m (4 * k + 3)) < 4294967296 := Sha.w4_lt l0 l1 l2 l3
        generalize Sha.w4 (Sha.byteAt m (4 * k)) (Sha.byteAt m (4 * k + 1)) (Sha.byteAt m (4 * k + 2)) (Sha.byteAt m (4 * k + 3)) = x4 at *
        generalize Sha.byteAt m (4 * k) = x0 at *
        generalize Sha.byteAt m (4 * k + 1) = x1 at *
        generalize Sha.byteAt m (4 * k + 2) = x2 at *
        generalize Sha.byteAt m (4 * k + 3) = x3 at *
        go_wp2_with fail
        refine wp_region_after_tail 31 (by kernel_rfl) (by kernel_rfl) (by kernel_rfl) (by kernel_rfl) ?_
        simp only [List.take_succ_cons, List.take_zero, List.drop_succ_cons, List.drop_zero]
        repeat (go_big_quiet_step (fail))
        refine wpQuiet_nil ?_
        rintro w5 ⟨x5, rfl⟩
        have hb5 := x5.hb
        clear f1 hx i0 i1 i2 i3
        generalize x5.W = w5 at *
        have k2 := k1.below hb5 k1.lt
        have hx := k2.cell k _ (wrow_get _ k hlt)
        have hf := k2.frozen k
        go_wp2_with fail
        go_roundw
        case rel =>
          refine ⟨k + 1, by omega, by go_num, ?_, grown_set (grown_then hG hb5) _ _⟩
          have h3 := k2.set k (U x4)
          rw [HN.out, HWA.out, ← wrow_set (Sha.sched m k) _ (by rw [Sha.sched_length]; exact hlt), Sha.sched_length]
          exact h3
        case measure => simp [intOf]; omega
      · have l16 := (Sha.sched_lt m k).getD (k - 16)
        have l15 := (Sha.sched_lt m k).getD (k - 15)
        have l7 := (Sha.sched_lt m k).getD (k - 7)
        have l2 := (Sha.sched_lt m k).getD (k - 2)
        have c16 := k1.cell (k - 16) _ (wrow_get _ _ (by omega))
        have c15 := k1.cell (k - 15) _ (wrow_get _ _ (by omega))
        have c7 := k1.cell (k - 7) _ (wrow_get _ _ (by omega))
        have c2 := k1.cell (k - 2) _ (wrow_get _ _ (by omega))
        have HN : Hid (Sha.sched m (k + 1) = Sha.sched m k ++ [((Sha.sched m k).getD (k - 16) 0 + Sha.s0 ((Sha.sched m k).getD (k - 15) 0) + (Sha.sched m k).getD (k - 7) 0 + Sha.s1 ((Sha.sched m k).getD (k - 2) 0)) % 4294967296]) := by
          show _ = _
          rw [Sha.sched_succ, Sha.nextW, if_neg h16]
        generalize (Sha.sched m k).getD (k - 16) 0 = x16 at *
        generalize (Sha.sched m k).getD (k - 15) 0 = x15 at *
        generalize (Sha.sched m k).getD (k - 7) 0 = x7 at *
        generalize (Sha.sched m k).getD (k - 2) 0 = x2 at *
        have H0 := s0_bits x15 l15
        have H1 := s1_bits x2 l2
        have ls0 := Sha.s0_lt l15
        have ls1 := Sha.s1_lt l2
        have b16 : (0 : Int) ≤ (k : Int) - 16 := by omega
        have b15 : (0 : Int) ≤ (k : Int) - 15 := by omega
        have b7 : (0 : Int) ≤ (k : Int) - 7 := by omega
        have b2 : (0 : Int) ≤ (k : Int) - 2 := by omega
        have r7 := Lib.hid (rrot7 x15 l15)
        have r18 := Lib.hid (rrot18 x15 l15)
        have r17 := Lib.hid (rrot17 x2 l2)
        have r19 := Lib.hid (rrot19 x2 l2)
        go_wp2_with fail
        have f16 := After.cell (w := wr) c16
        have f7 := After.cell (w := wr) c7
        refine wp_region_after_tail 29 (by kernel_rfl) (by kernel_rfl) (by kernel_rfl) (by kernel_rfl) ?_
        simp only [List.take_succ_cons, List.take_zero, List.drop_succ_cons, List.drop_zero]
        repeat (go_big_quiet_step (first | (with_reducible exact After.call (r7.out _)) | (with_reducible exact After.call (r18.out _)) | (with_reducible exact After.call (r17.out _)) | (with_reducible exact After.call (r19.out _))))
        refine wpQuiet_nil ?_
        rintro w5 ⟨x5, rfl⟩
        have hb5 := x5.hb
        clear c16 c15 c7 c2 f16 f7
        generalize x5.W = w5 at *
        have k2 := k1.below hb5 k1.lt
        have hx := k2.cell k _ (wrow_get _ k hlt)
        have hf := k2.frozen k
        go_wp2_with fail
        go_roundw
        case rel =>
          refine ⟨k + 1, by omega, by go_num, ?_, grown_set (grown_then hG hb5) _ _⟩
          have h3 := k2.set k (U ((x16 + Sha.s0 x15 + x7 + Sha.s1 x2) % 4294967296))
          rw [HN.out, ← wrow_set (Sha.sched m k) _ (by rw [Sha.sched_length]; exact hlt), Sha.sched_length]
          rw [show ∀ v : Int, v = (((x16 + Sha.s0 x15 + x7 + Sha.s1 x2) % 4294967296 : Nat) : Int) → Value.int IntKind.u32 v = U ((x16 + Sha.s0 x15 + x7 + Sha.s1 x2) % 4294967296) from fun v hv => by rw [hv]]
          · exact h3
          · omega
        case measure => simp [intOf]; omega
    · obtain rfl : k = 64 := by omega
      clear hlt hk
      go_wp2_with fail
      exact HX.out _ _ _ _ _ _ _ _ _ _ _ _ _ _ _ _ _ _ _ _ _ _ _ _ _ _ _ _ _ _ _ _ _ _ _ _ _ _ _ _ _ _ _ _ _ _ _ _ _ _ _ _ _ _ _ _ _ _ _ _ _ _ _ _ _ _ _ _ _ _ _ _ _ _ wr hG k1

end Go.Proofs.Ytjekdeikoebmgaa
