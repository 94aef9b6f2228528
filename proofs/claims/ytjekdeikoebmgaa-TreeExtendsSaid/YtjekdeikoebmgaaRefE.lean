/- The contract of the reference's Sum. Conditions: the string's size. The contract of the reference's Sum. Conditions: the string's size. Equality of hashes. No function here. Conditions: none. -/
import Derived.Test.YtjekdeikoebmgaaRefD
import Derived.Test.YtjekdeikoebmgaaShaE
import Derived.ChangeKeysEq
namespace Go.Proofs.Ytjekdeikoebmgaa
open Go.RowKit Go.Shelf

theorem extract_list (b : ByteArray) (P : List UInt8) (hb : b.data.toList = P) (i : Nat) : (b.extract i (i + 64)).data.toList = (P.drop i).take 64 := by
  rw [ByteArray.data_extract, Array.toList_extract, hb, List.extract_eq_take_drop, show i + 64 - i = 64 by omega]

/-- The result while its bytes are written one by one. -/
def brow (v : Sha.V) (k : Nat) : List UInt8 := (Sha.out v).take k ++ List.replicate (32 - k) 0
theorem brow_length (v : Sha.V) (k : Nat) (h : k ≤ 32) : (brow v k).length = 32 := by unfold brow; rw [List.length_append, List.length_take, Sha.out_length]; simp; omega
theorem hrow_get (l : List UInt8) (k : Nat) (x : UInt8) (h : l[k]? = some x) : (hrow l)[k]? = some (Y x) := by
  unfold hrow; rw [List.getElem?_toArray, List.getElem?_map, h]; rfl
theorem brow_set (v : Sha.V) (k : Nat) (x : UInt8) (hk : k < 32) (hx : (Sha.out v)[k]? = some x) : (hrow (brow v k)).setIfInBounds k (Y x) = hrow (brow v (k + 1)) := by
  have hl : ((Sha.out v).take k).length = k := by rw [List.length_take, Sha.out_length]; omega
  have e : (brow v k).set k x = brow v (k + 1) := by
    unfold brow
    rw [List.set_append_right _ _ (by omega), hl, Nat.sub_self, List.take_add_one, hx, show 32 - k = (32 - (k + 1)) + 1 by omega, List.replicate_succ]
    simp
  rw [← e]
  unfold hrow
  rw [List.map_set]
  apply Array.toList_inj.1
  simp
theorem Yof (n : Nat) (z : Int) (h : z = (n : Int) % 256) : Value.int .u8 z = Y (UInt8.ofNat n) := by
  rw [h]; congr 1
theorem out_get (v : Sha.V) (j r : Nat) (hj : j < 8) (hr : r < 4) : (Sha.out v)[4 * j + r]? = some (UInt8.ofNat (v.list.getD j 0 / 2 ^ (8 * (3 - r)))) := by
  have e : ∀ x : Nat, UInt8.ofNat x = UInt8.ofNat (x / 2 ^ 0) := fun x => by simp
  refine lt8 (P := fun j => (Sha.out v)[4 * j + r]? = some (UInt8.ofNat (v.list.getD j 0 / 2 ^ (8 * (3 - r))))) ?_ ?_ ?_ ?_ ?_ ?_ ?_ ?_ j hj
  all_goals
    rcases (show r = 0 ∨ r = 1 ∨ r = 2 ∨ r = 3 by omega) with rfl | rfl | rfl | rfl
    all_goals first | rfl | (simp [Sha.out, Sha.bytes4, Sha.V.list])

/-- Between the pieces of the message. -/
def RSumI (P : List UInt8) (N nb : Nat) (w : World) (i : Value) (wr : World) : Prop := ∃ k : Nat, k ≤ N ∧ i = .int .i64 ((64 * k : Nat) : Int) ∧ Blk wr nb (Sha.blocks k Sha.start P).row 85 ∧ w.grownBy wr (some nb)

/-- The zero hash's cells. -/
def hz : Array Value := hrow (List.replicate 32 0)
theorem hz_eq (v : Sha.V) : hz = hrow (brow v 0) := rfl

set_option maxRecDepth 100000 in
set_option maxHeartbeats 2000000 in
theorem rsum_loop1 (u0 u1 u2 u6 u7 u8 u9 u10 u11 u12 u13 u14 u15 u16 u17 u18 u19 u20 u21 u22 u23 u24 u25 u26 u27 u28 u29 u30 u31 u32 u33 u34 u35 u36 u37 u38 u39 u40 : Value) (nb N : Nat) (b : ByteArray) (P : List UInt8) (hb : b.data.toList = P) (hbs : b.size = 64 * N) (hN : 64 * N ≤ 140737488355328) (w1 : World) (c3 : Blk w1 nb Sha.start.row 85) (Q : Exit → Act → World → Prop)
    (hexit : ∀ (y15 y16 y17 y18 y19 y20 y21 y22 y23 : Value) (w' : World), w1.grownBy w' (some nb) → Blk w' nb (Sha.blocks N Sha.start P).row 85 → Q (.exit 0) ⟨(u0 :: u1 :: u2 :: (.pointer (some ⟨nb, 0, none⟩)) :: (.string b) :: (.int .i64 ((64 * N : Nat) : Int)) :: u6 :: u7 :: u8 :: u9 :: u10 :: (.int .i64 ((64 * N : Nat) : Int)) :: (.string b) :: (.int .i64 ((64 * N : Nat) : Int)) :: (.bool false) :: y15 :: y16 :: y17 :: y18 :: y19 :: y20 :: y21 :: y22 :: y23 :: u24 :: u25 :: u26 :: u27 :: u28 :: u29 :: u30 :: u31 :: u32 :: u33 :: u34 :: u35 :: u36 :: u37 :: u38 :: u39 :: u40 :: []).toArray, []⟩ w') : Code.wp Try.prog (loopIn Try.f37 0) Q ⟨(u0 :: u1 :: u2 :: (.pointer (some ⟨nb, 0, none⟩)) :: (.string b) :: (.int .i64 0) :: u6 :: u7 :: u8 :: u9 :: u10 :: u11 :: u12 :: u13 :: u14 :: u15 :: u16 :: u17 :: u18 :: u19 :: u20 :: u21 :: u22 :: u23 :: u24 :: u25 :: u26 :: u27 :: u28 :: u29 :: u30 :: u31 :: u32 :: u33 :: u34 :: u35 :: u36 :: u37 :: u38 :: u39 :: u40 :: []).toArray, []⟩ w1 := by
  have HX := Lib.hid hexit
  have HB := Lib.hid hb
  have HP : Hid (P.length = 64 * N) := by show _ = _; rw [← hbs, ← hb, Array.length_toList]; rfl
  have hbi : (b.size : Int) = ((64 * N : Nat) : Int) := by rw [hbs]
  clear hexit hb hbs
  conv => arg 2; whnf
  go_loopw [5] (fun i wr => RSumI P N nb w1 i wr) (fun i _ => (64 * N - (intOf i).toNat))
  case atStart => exact ⟨0, by omega, rfl, c3, World.grownBy.refl w1 _⟩
  case round =>
    clear c3
    obtain ⟨k, hk, rfl, k3, hG⟩ := hrel
    have hv := Sha.blocks_ok k Sha.start P Sha.start_ok
    by_cases hlt : k < N
    · have HBK := Lib.hid (Sha.blocks_succ k Sha.start P)
      have HEX := Lib.hid (extract_list b P HB.out (64 * k))
      have hlen : ((P.drop (64 * k)).take 64).length = 64 := by rw [List.length_take, List.length_drop, HP.out]; omega
      have HR := Lib.hid (rblock_any (Sha.blocks k Sha.start P) hv (b.extract (64 * k) (64 * k + 64)) _ HEX.out hlen)
      generalize Sha.blocks k Sha.start P = v at *
      generalize (P.drop (64 * k)).take 64 = m at *
      obtain ⟨v2, hv2⟩ : ∃ v2, Sha.block v m = v2 := ⟨_, rfl⟩
      rw [hv2] at HBK HR
      clear hv2 HEX hlen
      have v0 := After.cell (k3.cell 0 (U v.a) rfl)
      have v1 := After.cell (k3.cell 1 (U v.b) rfl)
      have v2' := After.cell (k3.cell 2 (U v.c) rfl)
      have v3 := After.cell (k3.cell 3 (U v.d) rfl)
      have v4 := After.cell (k3.cell 4 (U v.e) rfl)
      have v5 := After.cell (k3.cell 5 (U v.f) rfl)
      have v6 := After.cell (k3.cell 6 (U v.g) rfl)
      have v7 := After.cell (k3.cell 7 (U v.h) rfl)
      have e1 : IntKind.i64.wrap (((64 * k : Nat) : Int) + 64) = ((64 * k + 64 : Nat) : Int) := by rw [IntKind.wrap_i64]; omega
      go_wp2_with fail
      refine wp_region_after_tail 7 (by kernel_rfl) (by kernel_rfl) (by kernel_rfl) (by kernel_rfl) ?_
      simp only [List.take_succ_cons, List.take_zero, List.drop_succ_cons, List.drop_zero]
      repeat (go_big_quiet_step (exact After.call (HR.out _)))
      refine wpQuiet_nil ?_
      rintro w5 ⟨x5, rfl⟩
      have hb5 := x5.hb
      clear v0 v1 v2' v3 v4 v5 v6 v7
      generalize x5.W = w5 at *
      have J3 := Lib.hid (k3.below hb5 k3.lt)
      go_wp2_with (first | (refine wpList_store_row rfl 85 (.tmp 3) (.tmp 23) rfl nb v2.row (by rfl) (by rfl) 85 _ J3.out info45 rfl (row_one _) ?_))
      go_roundw
      case rel => exact ⟨k + 1, by omega, congrArg (Value.int .i64) (by omega), by rw [HBK.out]; exact J3.out.row _, grown_row (grown_then hG hb5) _⟩
      case measure => simp [intOf]; omega
    · obtain rfl : k = N := by omega
      clear hlt hk
      go_wp2_with fail
      exact HX.out _ _ _ _ _ _ _ _ _ wr hG k3

theorem w64m {k : Nat} (n : Nat) (h : k < n) : (k : Int) < (n : Int) := by omega
set_option maxRecDepth 100000 in
set_option maxHeartbeats 2000000 in
theorem rsum_loop2 (u0 u1 u2 u4 u5 u8 u9 u10 u11 u12 u13 u14 u15 u16 u17 u18 u19 u20 u21 u22 u23 u24 u25 u26 u27 u28 u29 u30 u31 u32 u33 u34 u35 u36 u37 u38 u39 u40 : Value) (nb no : Nat) (v : Sha.V) (hv : v.Ok) (w : World) (k3 : Blk w nb v.row 85) (k4 : Blk w no hz 24) (hne : nb ≠ no) (Q : Exit → Act → World → Prop)
    (hexit : ∀ (y26 y27 y28 y29 y30 y31 y32 y33 y34 y35 y36 y37 y38 y39 : Value) (w' : World), w.grownBy w' (some no) → Blk w' no (hrow (brow v 32)) 24 → Q (.exit 2) ⟨(u0 :: u1 :: u2 :: (.pointer (some ⟨nb, 0, none⟩)) :: u4 :: u5 :: (.pointer (some ⟨no, 0, none⟩)) :: (.int .i64 32) :: u8 :: u9 :: u10 :: u11 :: u12 :: u13 :: u14 :: u15 :: u16 :: u17 :: u18 :: u19 :: u20 :: u21 :: u22 :: u23 :: (.int .i64 32) :: (.bool false) :: y26 :: y27 :: y28 :: y29 :: y30 :: y31 :: y32 :: y33 :: y34 :: y35 :: y36 :: y37 :: y38 :: y39 :: u40 :: []).toArray, []⟩ w') : Code.wp Try.prog (loopIn Try.f37 1) Q ⟨(u0 :: u1 :: u2 :: (.pointer (some ⟨nb, 0, none⟩)) :: u4 :: u5 :: (.pointer (some ⟨no, 0, none⟩)) :: (.int .i64 0) :: u8 :: u9 :: u10 :: u11 :: u12 :: u13 :: u14 :: u15 :: u16 :: u17 :: u18 :: u19 :: u20 :: u21 :: u22 :: u23 :: u24 :: u25 :: u26 :: u27 :: u28 :: u29 :: u30 :: u31 :: u32 :: u33 :: u34 :: u35 :: u36 :: u37 :: u38 :: u39 :: u40 :: []).toArray, []⟩ w := by
  have HX := Lib.hid hexit
  clear hexit
  conv => arg 2; whnf
  go_loopw [7] (fun i wr => ∃ k : Nat, k ≤ 32 ∧ i = .int .i64 k ∧ Blk wr nb v.row 85 ∧ Blk wr no (hrow (brow v k)) 24 ∧ w.grownBy wr (some no)) (fun i _ => 32 - (intOf i).toNat)
  case atStart => exact ⟨0, by omega, rfl, k3, k4, World.grownBy.refl w _⟩
  case round =>
    clear k3 k4
    obtain ⟨k, hk, rfl, k3, k4, hG⟩ := hrel
    by_cases hlt : k < 32
    · obtain ⟨j, r, hj, hr, hkr⟩ : ∃ j r, j < 8 ∧ r < 4 ∧ k = 4 * j + r := ⟨k / 4, k % 4, by omega, by omega, by omega⟩
      have hu : v.row[j]? = some (U (v.list.getD j 0)) := lt8 (P := fun k => v.row[k]? = some (U (v.list.getD k 0))) rfl rfl rfl rfl rfl rfl rfl rfl j hj
      have c1 := k3.cell j _ hu
      have hxl := list_lt hv j
      have hog := out_get v j r hj hr
      rw [← hkr] at hog
      have HS := Lib.hid (brow_set v k _ hlt hog)
      have e1 : (k : Int) / 4 = (j : Int) := by omega
      have e2 : (k : Int) % 4 = (r : Int) := by omega
      have b1 : (k : Int) < 32 := by omega
      have b2 : (j : Int) < 8 := by omega
      have hlen : (hrow (brow v k)).size = 32 := by unfold hrow; simp [brow_length v k (by omega)]
      obtain ⟨z, hz1⟩ : ∃ z, (hrow (brow v k))[k]? = some z := ⟨_, Array.getElem?_eq_getElem (by omega)⟩
      have c2 := k4.cell k z hz1
      have hf := k4.frozen k
      generalize v.list.getD j 0 = x at *
      clear hu hog hlen hz1 hkr
      rcases (show r = 0 ∨ r = 1 ∨ r = 2 ∨ r = 3 by omega) with rfl | rfl | rfl | rfl
      all_goals
        go_wp2_with fail
        go_roundw
        case rel =>
          refine ⟨k + 1, by omega, by go_num, k3.other (a := ⟨no, k, none⟩) hne _, ?_, grown_set hG k _⟩
          rw [← HS.out]
          refine Eq.mp (congrArg (fun u => Blk (wr.setCell ⟨no, k, none⟩ u) no ((hrow (brow v k)).setIfInBounds k _) _) ?_) (k4.set k _)
          exact (Yof _ _ (by simp; try omega)).symm
        case measure => simp [intOf]; omega
    · obtain rfl : k = 32 := by omega
      clear hlt hk
      go_wp2_with fail
      exact HX.out _ _ _ _ _ _ _ _ _ _ _ _ _ _ wr hG k4

end Go.Proofs.Ytjekdeikoebmgaa

namespace Go.Proofs.Ytjekdeikoebmgaa
open Go.RowKit Go.Shelf

theorem hinfo' (l : List UInt8) (h : l.length = 32) : (Try.prog.info? 24).map (·.size) = some (hrow l).size := by
  rw [show (hrow l).size = 32 by unfold hrow; simp [h]]; exact info24
theorem hz_size (l : List UInt8) (h : l.length = 32) : hz.size = (hrow l).size := by
  unfold hz hrow; simp [h]
theorem brow_all (v : Sha.V) : brow v 32 = Sha.out v := by
  unfold brow; rw [List.take_of_length_le (by rw [Sha.out_length]; omega)]; simp

set_option maxRecDepth 100000 in
set_option maxHeartbeats 2000000 in
theorem rsum_t7 (u0 u1 u4 u5 u6 u7 u8 u9 u10 u11 u12 u13 u14 u15 u16 u17 u18 u19 u20 u21 u22 u23 u24 u25 u26 u27 u28 u29 u30 u31 u32 u33 u34 u35 u36 u37 u38 u39 u40 : Value) (H nb B : Nat) (v : Sha.V) (hv : v.Ok) (w0 w2 : World) (k3 : Blk w2 nb v.row 85) (k2 : Blk w2 H hz 24) (t2 : Below B w0 w2) (hBs : B ≤ w2.heap.size) (hB : B ≤ H) :
    Code.wp Try.prog (tailIn Try.f37 4) (bodyPost Try.prog Try.f37 (fun e w' => e = .returned (.agg (hrow (Sha.out v))) ∧ Below B w0 w')) ⟨(u0 :: u1 :: (.pointer (some ⟨H, 0, none⟩)) :: (.pointer (some ⟨nb, 0, none⟩)) :: u4 :: u5 :: u6 :: u7 :: u8 :: u9 :: u10 :: u11 :: u12 :: u13 :: u14 :: u15 :: u16 :: u17 :: u18 :: u19 :: u20 :: u21 :: u22 :: u23 :: u24 :: u25 :: u26 :: u27 :: u28 :: u29 :: u30 :: u31 :: u32 :: u33 :: u34 :: u35 :: u36 :: u37 :: u38 :: u39 :: u40 :: []).toArray, []⟩ w2 := by
  have ZH : Hid ((Try.prog.info? 24).bind (·.zero) = some (.agg hz)) := by show _ = _; kernel_rfl
  conv => arg 2; whnf
  go_wp2_with (refine wpList_alloc_row rfl 24 rfl hz ZH.out ?_)
  have c3 := k3.alloc (.cells hz 24)
  have c2 := k2.alloc (.cells hz 24)
  have c4 := Blk.new w2 hz 24
  have t3 := t2.alloc hBs (.cells hz 24)
  have hs3 : B ≤ (w2.alloc (.cells hz 24)).heap.size := by simp; omega
  have l3 := k3.lt
  have l2 := k2.lt
  generalize w2.alloc (.cells hz 24) = w3 at *
  generalize w2.heap.size = no at *
  clear k3 k2 t2
  refine rsum_loop2 _ _ _ _ _ _ _ _ _ _ _ _ _ _ _ _ _ _ _ _ _ _ _ _ _ _ _ _ _ _ _ _ _ _ _ _ _ _ nb no v hv w3 c3 c4 (by omega) _ ?_
  intro y26 y27 y28 y29 y30 y31 y32 y33 y34 y35 y36 y37 y38 y39 w4 hG4 d4
  have d2 := c2.grown hG4 (by omega)
  have t4 := below_grown t3 hG4 hs3 (by omega)
  rw [brow_all] at d4
  have D4 := Lib.hid d4
  have D2 := Lib.hid d2
  have HI := Lib.hid (hinfo' (Sha.out v) (Sha.out_length v))
  have HZ := Lib.hid (hz_size (Sha.out v) (Sha.out_length v))
  have HO := Lib.hid (bytes_all (Sha.out v))
  clear c3 c2 c4 t3 hG4 d4 d2 ZH
  obtain ⟨R, hR⟩ : ∃ R, hrow (Sha.out v) = R := ⟨_, rfl⟩
  rw [hR] at D4 HI HZ HO
  have HRR := Lib.hid hR
  clear hR
  go_wp2_with (first
    | (refine wpList_load_row rfl 24 (.tmp 6) rfl no rfl _ _ _ _ D4.out Try.underlying24 rfl HI.out ?_)
    | (refine wpList_store_row rfl 24 (.tmp 2) (.tmp 40) rfl H R rfl rfl 24 _ D2.out HI.out HZ.out HO.out ?_))
  refine bodyPost_ret (v := .agg R) ?_ rfl ⟨by rw [HRR.out], Below.setRow t4 hB _⟩
  exact results_cell_row rfl _ _ _ _ _ _ _ rfl (D2.out.row _) Try.underlying24 rfl HI.out

set_option maxRecDepth 100000 in
set_option maxHeartbeats 2000000 in
theorem RSum_any (m : List UInt8) (hm : m.length ≤ 140737488355000) (w : World) :
    Calls Try.prog 37 #[S m] w fun e w' => e = .returned (.agg (hrow (Sha.sum m))) ∧ Below w.heap.size w w' := by
  have Z8 := Lib.hid zero8
  have ZH : Hid ((Try.prog.info? 24).bind (·.zero) = some (.agg hz)) := by show _ = _; kernel_rfl
  have HP := Lib.hid (padded_any m hm)
  obtain ⟨N, hN⟩ : ∃ N, (Sha.pad m).length = 64 * N := ⟨(Sha.pad m).length / 64, by have := Sha.pad_mod m; omega⟩
  have hsum : Sha.sum m = Sha.out (Sha.blocks N Sha.start (Sha.pad m)) := by
    rw [Sha.sum, hN, Nat.mul_div_cancel_left _ (by omega)]
  rw [hsum]
  clear hsum
  have hN2 : 64 * N ≤ 140737488355328 := by
    rw [← hN, Sha.pad_length]; unfold Sha.zeros; omega
  generalize Sha.pad m = P at *
  obtain ⟨b, hb, hbs⟩ : ∃ b : ByteArray, b.data.toList = P ∧ b.size = 64 * N := ⟨⟨P.toArray⟩, rfl, by rw [← hN]; simp [ByteArray.size]⟩
  have eb : S P = .string b := by
    have : b = ⟨P.toArray⟩ := by cases b; simp at hb; rw [← hb]
    rw [this]
  rw [eb] at HP
  have HBS := Lib.hid hbs
  have HB := Lib.hid hb
  clear eb hb hbs hN hm
  have NB := Lib.hid (Blk.new (w.alloc (.cells hz 24)) (Sha.V.row ⟨0, 0, 0, 0, 0, 0, 0, 0⟩) 85)
  go_enter Try.func37, Try.ntmps37
  go_wp2_with (first
    | (refine wpList_alloc_row rfl 24 rfl hz ZH.out ?_)
    | (refine wpList_alloc_row rfl 85 rfl (Sha.V.row ⟨0, 0, 0, 0, 0, 0, 0, 0⟩) Z8.out ?_)
    | (refine wpList_store_row rfl 85 (.tmp 3) (.tmp 8) rfl (w.alloc (.cells hz 24)).heap.size Sha.start.row (by rfl) (by rfl) 85 _ NB.out info45 rfl (row_one _) ?_))
  have t0 := ((Below.refl _ w).alloc (Nat.le_refl _) (.cells hz 24)).alloc (by simp) (.cells (Sha.V.row ⟨0, 0, 0, 0, 0, 0, 0, 0⟩) 85)
  have t1 := Below.setRow t0 (g := w.heap.size + 1) (by omega) Sha.start.row
  have a3 := NB.out.row Sha.start.row
  rw [World.size_alloc] at a3
  have a2 : Blk ((w.alloc (.cells hz 24)).alloc (.cells (Sha.V.row ⟨0, 0, 0, 0, 0, 0, 0, 0⟩) 85)) w.heap.size hz 24 := (Blk.new _ _ _).alloc _
  have b2 := a2.rowOther (g := w.heap.size + 1) Sha.start.row (by omega)
  refine (HP.out _).mono ?_; rintro e w1 ⟨rfl, hb1⟩
  have c3 := Blk.below (B := _) a3 hb1 (Blk.lt a3)
  have c2 := Blk.below (B := _) b2 hb1 (Blk.lt b2)
  have t2 := t1.trans (hb1.mono t1.size)
  clear a2 a3 b2 t0 t1 hb1 NB Z8 ZH HP
  go_wp2_with fail
  refine rsum_loop1 _ _ _ _ _ _ _ _ _ _ _ _ _ _ _ _ _ _ _ _ _ _ _ _ _ _ _ _ _ _ _ _ _ _ _ _ _ _ (w.heap.size + 1) N b P HB.out HBS.out hN2 w1 c3 _ ?_
  intro y15 y16 y17 y18 y19 y20 y21 y22 y23 w3 hG3 k3
  have d2 := c2.grown hG3 (by omega)
  have t3 := below_grown t2 hG3 t2.size (by omega)
  rename_i K hK
  show K _ _
  refine hK _ _ ?_
  exact rsum_t7 _ _ _ _ _ _ _ _ _ _ _ _ _ _ _ _ _ _ _ _ _ _ _ _ _ _ _ _ _ _ _ _ _ _ _ _ _ _ _ w.heap.size (w.heap.size + 1) w.heap.size _ (Sha.blocks_ok N Sha.start P Sha.start_ok) w w3 k3 d2 t3 t3.size (Nat.le_refl _)

end Go.Proofs.Ytjekdeikoebmgaa

namespace Go.Proofs.Ytjekdeikoebmgaa
open Go.RowKit Go.Shelf

theorem cells5 : Try.prog.cellsOf 5 = 1 := by kernel_rfl
theorem run_part_byte (l : List UInt8) (i : Nat) (x : UInt8) (h : l[i]? = some x) (w : World) : (part 5 (hrow l) i).run Try.prog w = .ok (Y x) w := by
  simp [part, hrow_get l i x h]
theorem run_eqItems_bytes (d : Nat) (a b : List UInt8) (w : World) : ∀ is : List Nat, (∀ i ∈ is, i < a.length ∧ i < b.length) →
    (Op.eqItems (d + 1) 5 1 (hrow a) (hrow b) is).run Try.prog w = .ok (is.all fun i => a[i]? == b[i]?) w
  | [], _ => by simp [Op.eqItems]
  | i :: is, h => by
    obtain ⟨ha, hb⟩ := h i (by simp)
    have ih := run_eqItems_bytes d a b w is (fun j hj => h j (by simp [hj]))
    have e1 := run_part_byte a i (a[i]'ha) (List.getElem?_eq_getElem ha) w
    have e2 := run_part_byte b i (b[i]'hb) (List.getElem?_eq_getElem hb) w
    have e3 := run_equalIn_int w d 5 .u8 .u8 (((a[i]'ha).toNat : Nat) : Int) (((b[i]'hb).toNat : Nat) : Int) Try.underlying5
    simp only [Op.eqItems, Sem.run_bind, Nat.mul_one, e1, e2, e3, Result.andThen_ok]
    rw [List.all_cons, List.getElem?_eq_getElem ha, List.getElem?_eq_getElem hb]
    by_cases hab : a[i]'ha = b[i]'hb
    · simp [hab, ih]
    · have h1 : ¬ ((((a[i]'ha).toNat : Nat) : Int) = (((b[i]'hb).toNat : Nat) : Int)) := fun e => hab (UInt8.toNat_inj.1 (by omega))
      simp [h1, hab]
theorem run_eq_hash (a b : List UInt8) (ha : a.length = 32) (hb : b.length = 32) (w : World) :
    (Op.equalIn 10000 24 (.agg (hrow a)) (.agg (hrow b))).run Try.prog w = .ok (a == b) w := by
  obtain ⟨i0, hi, _⟩ := info_parts infoB
  rw [run_equalIn_array w 9999 _ _ Try.underlying24 hi, cells5, run_eqItems_bytes 9998 a b w (List.range 32) (fun i hi => by rw [List.mem_range] at hi; omega)]
  congr 1
  rw [Bool.eq_iff_iff, List.all_eq_true, beq_iff_eq]
  constructor
  · intro h
    apply List.ext_getElem?
    intro i
    by_cases hi : i < 32
    · have := h i (List.mem_range.2 hi)
      simpa using this
    · rw [List.getElem?_eq_none (by omega), List.getElem?_eq_none (by omega)]
  · rintro rfl i _
    simp

end Go.Proofs.Ytjekdeikoebmgaa
