/- The contract of the reference's Sum. Conditions: the string's size. -/
import Derived.Test.YtjekdeikoebmgaaRefE
namespace Go.Proofs.Ytjekdeikoebmgaa
open Go.RowKit Go.Shelf

theorem hinfo' (l : List UInt8) (h : l.length = 32) : (Try.prog.info? 24).map (·.size) = some (hrow l).size := by
  rw [show (hrow l).size = 32 by unfold hrow; simp [h]]; exact info24
theorem hz_size (l : List UInt8) (h : l.length = 32) : hz.size = (hrow l).size := by
  unfold hz hrow; simp [h]
theorem brow_all (v : Sha.V) : brow v 32 = Sha.out v := by
  unfold brow; rw [List.take_of_length_le (by rw [Sha.out_length]; omega)]; simp

set_option maxRecDepth 100000 in
set_option maxHeartbeats 2000000 in
theorem rsum_t7 (u0 u1 u4 u5 u6 u7 u8 u9 u10 u11 u12 u13 u14 u15 u16 u17 u18 u19 u20 u21 u22 u23 u24 u25 u26 u27 u28 u29 u30 u31 u32 u33 u34 u35 u36 u37 u38 u39 u40 : Value) (H nb B : Nat) (v : Sha.V) (hv : v.Ok) (w0 w2 : World) (k3 : Blk w2 nb v.row 85) (k2 : Blk w2 H hz 24) (t2 : Below B w0 w2) (hBs : B ≤ w2.heap.size) (hB : B ≤ H) :
    Code.wp Try.prog (tailIn Try.f37 4) (bodyPost Try.prog Try.f37 (fun e w' => e = .returned (.agg (hrow (Sha.out v))) ∧ Below B w0 w')) ⟨(u0 :: u1 :: (.pointer (some ⟨H, 0, none⟩)) :: (.pointer (some ⟨nb, 0, none⟩)) :: u4 :: u5 :: u6 :: u7 :: u8 :: u9 :: u10 :: u11 :: u12 :: u13 :: u14 :: u15 :: u16 :: u17 :: u18 :: u19 :: u20 :: u21 :: u22 :: u23 :: u24 :: u25 :: u26 :: u27 :: u28 :: u29 :: u30 :: u31 :: u32 :: u33 :: u34 :: u35 :: u36 :: u37 :: u38 :: u39 :: u40 :: []).toArray, []⟩ w2 := by
  have ZH : Hid ((Try.prog.info? 24).bind (·.zero) = some (.agg hz)) := by show _ = _; kernel_rfl
  conv => arg 2; whnf
  go_wp2_with (refine wpList_alloc_row rfl 24 rfl hz ZH.out ?_)
  have c3 := k3.alloc (.cells hz 24)
  have c2 := k2.alloc (.cells hz 24)
  have c4 := Blk.new w2 hz 24
  have t3 := t2.alloc hBs (.cells hz 24)
  have hs3 : B ≤ (w2.alloc (.cells hz 24)).heap.size := by simp; omega
  have l3 := k3.lt
  have l2 := k2.lt
  generalize w2.alloc (.cells hz 24) = w3 at *
  generalize w2.heap.size = no at *
  clear k3 k2 t2
  refine rsum_loop2 _ _ _ _ _ _ _ _ _ _ _ _ _ _ _ _ _ _ _ _ _ _ _ _ _ _ _ _ _ _ _ _ _ _ _ _ _ _ nb no v hv w3 c3 c4 (by omega) _ ?_
  intro y26 y27 y28 y29 y30 y31 y32 y33 y34 y35 y36 y37 y38 y39 w4 hG4 d4
  have d2 := c2.grown hG4 (by omega)
  have t4 := below_grown t3 hG4 hs3 (by omega)
  rw [brow_all] at d4
  have D4 := Lib.hid d4
  have D2 := Lib.hid d2
  have HI := Lib.hid (hinfo' (Sha.out v) (Sha.out_length v))
  have HZ := Lib.hid (hz_size (Sha.out v) (Sha.out_length v))
  have HO := Lib.hid (bytes_all (Sha.out v))
  clear c3 c2 c4 t3 hG4 d4 d2 ZH
  obtain ⟨R, hR⟩ : ∃ R, hrow (Sha.out v) = R := ⟨_, rfl⟩
  rw [hR] at D4 HI HZ HO
  have HRR := Lib.hid hR
  clear hR
  go_wp2_with (first
    | (refine wpList_load_row rfl 24 (.tmp 6) rfl no rfl _ _ _ _ D4.out Try.underlying24 rfl HI.out ?_)
    | (refine wpList_store_row rfl 24 (.tmp 2) (.tmp 40) rfl H R rfl rfl 24 _ D2.out HI.out HZ.out HO.out ?_))
  refine bodyPost_ret (v := .agg R) ?_ rfl ⟨by rw [HRR.out], Below.setRow t4 hB _⟩
  exact results_cell_row rfl _ _ _ _ _ _ _ rfl (D2.out.row _) Try.underlying24 rfl HI.out

set_option maxRecDepth 100000 in
set_option maxHeartbeats 2000000 in
theorem RSum_any (m : List UInt8) (hm : m.length ≤ 140737488355000) (w : World) :
    Calls Try.prog 37 #[S m] w fun e w' => e = .returned (.agg (hrow (Sha.sum m))) ∧ Below w.heap.size w w' := by
  have Z8 := Lib.hid zero8
  have ZH : Hid ((Try.prog.info? 24).bind (·.zero) = some (.agg hz)) := by show _ = _; kernel_rfl
  have HP := Lib.hid (padded_any m hm)
  obtain ⟨N, hN⟩ : ∃ N, (Sha.pad m).length = 64 * N := ⟨(Sha.pad m).length / 64, by have := Sha.pad_mod m; omega⟩
  have hsum : Sha.sum m = Sha.out (Sha.blocks N Sha.start (Sha.pad m)) := by
    rw [Sha.sum, hN, Nat.mul_div_cancel_left _ (by omega)]
  rw [hsum]
  clear hsum
  have hN2 : 64 * N ≤ 140737488355328 := by
    rw [← hN, Sha.pad_length]; unfold Sha.zeros; omega
  generalize Sha.pad m = P at *
  obtain ⟨b, hb, hbs⟩ : ∃ b : ByteArray, b.data.toList = P ∧ b.size = 64 * N := ⟨⟨P.toArray⟩, rfl, by rw [← hN]; simp [ByteArray.size]⟩
  have eb : S P = .string b := by
    have : b = ⟨P.toArray⟩ := by cases b; simp at hb; rw [← hb]
    rw [this]
  rw [eb] at HP
  have HBS := Lib.hid hbs
  have HB := Lib.hid hb
  clear eb hb hbs hN hm
  have NB := Lib.hid (Blk.new (w.alloc (.cells hz 24)) (Sha.V.row ⟨0, 0, 0, 0, 0, 0, 0, 0⟩) 85)
  go_enter Try.func37, Try.ntmps37
  go_wp2_with (first
    | (refine wpList_alloc_row rfl 24 rfl hz ZH.out ?_)
    | (refine wpList_alloc_row rfl 85 rfl (Sha.V.row ⟨0, 0, 0, 0, 0, 0, 0, 0⟩) Z8.out ?_)
    | (refine wpList_store_row rfl 85 (.tmp 3) (.tmp 8) rfl (w.alloc (.cells hz 24)).heap.size Sha.start.row (by rfl) (by rfl) 85 _ NB.out info45 rfl (row_one _) ?_))
  have t0 := ((Below.refl _ w).alloc (Nat.le_refl _) (.cells hz 24)).alloc (by simp) (.cells (Sha.V.row ⟨0, 0, 0, 0, 0, 0, 0, 0⟩) 85)
  have t1 := Below.setRow t0 (g := w.heap.size + 1) (by omega) Sha.start.row
  have a3 := NB.out.row Sha.start.row
  rw [World.size_alloc] at a3
  have a2 : Blk ((w.alloc (.cells hz 24)).alloc (.cells (Sha.V.row ⟨0, 0, 0, 0, 0, 0, 0, 0⟩) 85)) w.heap.size hz 24 := (Blk.new _ _ _).alloc _
  have b2 := a2.rowOther (g := w.heap.size + 1) Sha.start.row (by omega)
  refine (HP.out _).mono ?_; rintro e w1 ⟨rfl, hb1⟩
  have c3 := Blk.below (B := _) a3 hb1 (Blk.lt a3)
  have c2 := Blk.below (B := _) b2 hb1 (Blk.lt b2)
  have t2 := t1.trans (hb1.mono t1.size)
  clear a2 a3 b2 t0 t1 hb1 NB Z8 ZH HP
  go_wp2_with fail
  refine rsum_loop1 _ _ _ _ _ _ _ _ _ _ _ _ _ _ _ _ _ _ _ _ _ _ _ _ _ _ _ _ _ _ _ _ _ _ _ _ _ _ (w.heap.size + 1) N b P HB.out HBS.out hN2 w1 c3 _ ?_
  intro y15 y16 y17 y18 y19 y20 y21 y22 y23 w3 hG3 k3
  have d2 := c2.grown hG3 (by omega)
  have t3 := below_grown t2 hG3 t2.size (by omega)
  rename_i K hK
  show K _ _
  refine hK _ _ ?_
  exact rsum_t7 _ _ _ _ _ _ _ _ _ _ _ _ _ _ _ _ _ _ _ _ _ _ _ _ _ _ _ _ _ _ _ _ _ _ _ _ _ _ _ w.heap.size (w.heap.size + 1) w.heap.size _ (Sha.blocks_ok N Sha.start P Sha.start_ok) w w3 k3 d2 t3 t3.size (Nat.le_refl _)

end Go.Proofs.Ytjekdeikoebmgaa
