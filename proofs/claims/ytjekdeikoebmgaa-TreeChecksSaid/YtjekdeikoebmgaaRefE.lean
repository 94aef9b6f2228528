/- The contract of the reference's Sum. Conditions: the string's size. -/
import Derived.Test.YtjekdeikoebmgaaRefD
import Derived.Test.YtjekdeikoebmgaaShaE
namespace Go.Proofs.Ytjekdeikoebmgaa
open Go.RowKit Go.Shelf

theorem extract_list (b : ByteArray) (P : List UInt8) (hb : b.data.toList = P) (i : Nat) : (b.extract i (i + 64)).data.toList = (P.drop i).take 64 := by
  rw [ByteArray.data_extract, Array.toList_extract, hb, List.extract_eq_take_drop, show i + 64 - i = 64 by omega]

/-- The result while its bytes are written one by one. -/
def brow (v : Sha.V) (k : Nat) : List UInt8 := (Sha.out v).take k ++ List.replicate (32 - k) 0
theorem brow_length (v : Sha.V) (k : Nat) (h : k ≤ 32) : (brow v k).length = 32 := by unfold brow; rw [List.length_append, List.length_take, Sha.out_length]; simp; omega
theorem hrow_get (l : List UInt8) (k : Nat) (x : UInt8) (h : l[k]? = some x) : (hrow l)[k]? = some (Y x) := by
  unfold hrow; rw [List.getElem?_toArray, List.getElem?_map, h]; rfl
theorem brow_set (v : Sha.V) (k : Nat) (x : UInt8) (hk : k < 32) (hx : (Sha.out v)[k]? = some x) : (hrow (brow v k)).setIfInBounds k (Y x) = hrow (brow v (k + 1)) := by
  have hl : ((Sha.out v).take k).length = k := by rw [List.length_take, Sha.out_length]; omega
  have e : (brow v k).set k x = brow v (k + 1) := by
    unfold brow
    rw [List.set_append_right _ _ (by omega), hl, Nat.sub_self, List.take_add_one, hx, show 32 - k = (32 - (k + 1)) + 1 by omega, List.replicate_succ]
    simp
  rw [← e]
  unfold hrow
  rw [List.map_set]
  apply Array.toList_inj.1
  simp
theorem Yof (n : Nat) (z : Int) (h : z = (n : Int) % 256) : Value.int .u8 z = Y (UInt8.ofNat n) := by
  rw [h]; congr 1
theorem out_get (v : Sha.V) (j r : Nat) (hj : j < 8) (hr : r < 4) : (Sha.out v)[4 * j + r]? = some (UInt8.ofNat (v.list.getD j 0 / 2 ^ (8 * (3 - r)))) := by
  have e : ∀ x : Nat, UInt8.ofNat x = UInt8.ofNat (x / 2 ^ 0) := fun x => by simp
  refine lt8 (P := fun j => (Sha.out v)[4 * j + r]? = some (UInt8.ofNat (v.list.getD j 0 / 2 ^ (8 * (3 - r))))) ?_ ?_ ?_ ?_ ?_ ?_ ?_ ?_ j hj
  all_goals
    rcases (show r = 0 ∨ r = 1 ∨ r = 2 ∨ r = 3 by omega) with rfl | rfl | rfl | rfl
    all_goals first | rfl | (simp [Sha.out, Sha.bytes4, Sha.V.list])

/-- Between the pieces of the message. -/
def RSumI (P : List UInt8) (N nb : Nat) (w : World) (i : Value) (wr : World) : Prop := ∃ k : Nat, k ≤ N ∧ i = .int .i64 ((64 * k : Nat) : Int) ∧ Blk wr nb (Sha.blocks k Sha.start P).row 85 ∧ w.grownBy wr (some nb)

/-- The zero hash's cells. -/
def hz : Array Value := hrow (List.replicate 32 0)
theorem hz_eq (v : Sha.V) : hz = hrow (brow v 0) := rfl

set_option maxRecDepth 100000 in
set_option maxHeartbeats 2000000 in
theorem rsum_loop1 (u0 u1 u2 u6 u7 u8 u9 u10 u11 u12 u13 u14 u15 u16 u17 u18 u19 u20 u21 u22 u23 u24 u25 u26 u27 u28 u29 u30 u31 u32 u33 u34 u35 u36 u37 u38 u39 u40 : Value) (nb N : Nat) (b : ByteArray) (P : List UInt8) (hb : b.data.toList = P) (hbs : b.size = 64 * N) (hN : 64 * N ≤ 140737488355328) (w1 : World) (c3 : Blk w1 nb Sha.start.row 85) (Q : Exit → Act → World → Prop)
    (hexit : ∀ (y15 y16 y17 y18 y19 y20 y21 y22 y23 : Value) (w' : World), w1.grownBy w' (some nb) → Blk w' nb (Sha.blocks N Sha.start P).row 85 → Q (.exit 0) ⟨(u0 :: u1 :: u2 :: (.pointer (some ⟨nb, 0, none⟩)) :: (.string b) :: (.int .i64 ((64 * N : Nat) : Int)) :: u6 :: u7 :: u8 :: u9 :: u10 :: (.int .i64 ((64 * N : Nat) : Int)) :: (.string b) :: (.int .i64 ((64 * N : Nat) : Int)) :: (.bool false) :: y15 :: y16 :: y17 :: y18 :: y19 :: y20 :: y21 :: y22 :: y23 :: u24 :: u25 :: u26 :: u27 :: u28 :: u29 :: u30 :: u31 :: u32 :: u33 :: u34 :: u35 :: u36 :: u37 :: u38 :: u39 :: u40 :: []).toArray, []⟩ w') : Code.wp Try.prog (loopIn Try.f37 0) Q ⟨(u0 :: u1 :: u2 :: (.pointer (some ⟨nb, 0, none⟩)) :: (.string b) :: (.int .i64 0) :: u6 :: u7 :: u8 :: u9 :: u10 :: u11 :: u12 :: u13 :: u14 :: u15 :: u16 :: u17 :: u18 :: u19 :: u20 :: u21 :: u22 :: u23 :: u24 :: u25 :: u26 :: u27 :: u28 :: u29 :: u30 :: u31 :: u32 :: u33 :: u34 :: u35 :: u36 :: u37 :: u38 :: u39 :: u40 :: []).toArray, []⟩ w1 := by
  have HX := Lib.hid hexit
  have HB := Lib.hid hb
  have HP : Hid (P.length = 64 * N) := by show _ = _; rw [← hbs, ← hb, Array.length_toList]; rfl
  have hbi : (b.size : Int) = ((64 * N : Nat) : Int) := by rw [hbs]
  clear hexit hb hbs
  conv => arg 2; whnf
  go_loopw [5] (fun i wr => RSumI P N nb w1 i wr) (fun i _ => (64 * N - (intOf i).toNat))
  case atStart => exact ⟨0, by omega, rfl, c3, World.grownBy.refl w1 _⟩
  case round =>
    clear c3
    obtain ⟨k, hk, rfl, k3, hG⟩ := hrel
    have hv := Sha.blocks_ok k Sha.start P Sha.start_ok
    by_cases hlt : k < N
    · have HBK := Lib.hid (Sha.blocks_succ k Sha.start P)
      have HEX := Lib.hid (extract_list b P HB.out (64 * k))
      have hlen : ((P.drop (64 * k)).take 64).length = 64 := by rw [List.length_take, List.length_drop, HP.out]; omega
      have HR := Lib.hid (rblock_any (Sha.blocks k Sha.start P) hv (b.extract (64 * k) (64 * k + 64)) _ HEX.out hlen)
      generalize Sha.blocks k Sha.start P = v at *
      generalize (P.drop (64 * k)).take 64 = m at *
      obtain ⟨v2, hv2⟩ : ∃ v2, Sha.block v m = v2 := ⟨_, rfl⟩
      rw [hv2] at HBK HR
      clear hv2 HEX hlen
      have v0 := After.cell (k3.cell 0 (U v.a) rfl)
      have v1 := After.cell (k3.cell 1 (U v.b) rfl)
      have v2' := After.cell (k3.cell 2 (U v.c) rfl)
      have v3 := After.cell (k3.cell 3 (U v.d) rfl)
      have v4 := After.cell (k3.cell 4 (U v.e) rfl)
      have v5 := After.cell (k3.cell 5 (U v.f) rfl)
      have v6 := After.cell (k3.cell 6 (U v.g) rfl)
      have v7 := After.cell (k3.cell 7 (U v.h) rfl)
      have e1 : IntKind.i64.wrap (((64 * k : Nat) : Int) + 64) = ((64 * k + 64 : Nat) : Int) := by rw [IntKind.wrap_i64]; omega
      go_wp2_with fail
      refine wp_region_after_tail 7 (by kernel_rfl) (by kernel_rfl) (by kernel_rfl) (by kernel_rfl) ?_
      simp only [List.take_succ_cons, List.take_zero, List.drop_succ_cons, List.drop_zero]
      repeat (go_big_quiet_step (exact After.call (HR.out _)))
      refine wpQuiet_nil ?_
      rintro w5 ⟨x5, rfl⟩
      have hb5 := x5.hb
      clear v0 v1 v2' v3 v4 v5 v6 v7
      generalize x5.W = w5 at *
      have J3 := Lib.hid (k3.below hb5 k3.lt)
      go_wp2_with (first | (refine wpList_store_row rfl 85 (.tmp 3) (.tmp 23) rfl nb v2.row (by rfl) (by rfl) 85 _ J3.out info45 rfl (row_one _) ?_))
      go_roundw
      case rel => exact ⟨k + 1, by omega, congrArg (Value.int .i64) (by omega), by rw [HBK.out]; exact J3.out.row _, grown_row (grown_then hG hb5) _⟩
      case measure => simp [intOf]; omega
    · obtain rfl : k = N := by omega
      clear hlt hk
      go_wp2_with fail
      exact HX.out _ _ _ _ _ _ _ _ _ wr hG k3

theorem w64m {k : Nat} (n : Nat) (h : k < n) : (k : Int) < (n : Int) := by omega
set_option maxRecDepth 100000 in
set_option maxHeartbeats 2000000 in
theorem rsum_loop2 (u0 u1 u2 u4 u5 u8 u9 u10 u11 u12 u13 u14 u15 u16 u17 u18 u19 u20 u21 u22 u23 u24 u25 u26 u27 u28 u29 u30 u31 u32 u33 u34 u35 u36 u37 u38 u39 u40 : Value) (nb no : Nat) (v : Sha.V) (hv : v.Ok) (w : World) (k3 : Blk w nb v.row 85) (k4 : Blk w no hz 24) (hne : nb ≠ no) (Q : Exit → Act → World → Prop)
    (hexit : ∀ (y26 y27 y28 y29 y30 y31 y32 y33 y34 y35 y36 y37 y38 y39 : Value) (w' : World), w.grownBy w' (some no) → Blk w' no (hrow (brow v 32)) 24 → Q (.exit 2) ⟨(u0 :: u1 :: u2 :: (.pointer (some ⟨nb, 0, none⟩)) :: u4 :: u5 :: (.pointer (some ⟨no, 0, none⟩)) :: (.int .i64 32) :: u8 :: u9 :: u10 :: u11 :: u12 :: u13 :: u14 :: u15 :: u16 :: u17 :: u18 :: u19 :: u20 :: u21 :: u22 :: u23 :: (.int .i64 32) :: (.bool false) :: y26 :: y27 :: y28 :: y29 :: y30 :: y31 :: y32 :: y33 :: y34 :: y35 :: y36 :: y37 :: y38 :: y39 :: u40 :: []).toArray, []⟩ w') : Code.wp Try.prog (loopIn Try.f37 1) Q ⟨(u0 :: u1 :: u2 :: (.pointer (some ⟨nb, 0, none⟩)) :: u4 :: u5 :: (.pointer (some ⟨no, 0, none⟩)) :: (.int .i64 0) :: u8 :: u9 :: u10 :: u11 :: u12 :: u13 :: u14 :: u15 :: u16 :: u17 :: u18 :: u19 :: u20 :: u21 :: u22 :: u23 :: u24 :: u25 :: u26 :: u27 :: u28 :: u29 :: u30 :: u31 :: u32 :: u33 :: u34 :: u35 :: u36 :: u37 :: u38 :: u39 :: u40 :: []).toArray, []⟩ w := by
  have HX := Lib.hid hexit
  clear hexit
  conv => arg 2; whnf
  go_loopw [7] (fun i wr => ∃ k : Nat, k ≤ 32 ∧ i = .int .i64 k ∧ Blk wr nb v.row 85 ∧ Blk wr no (hrow (brow v k)) 24 ∧ w.grownBy wr (some no)) (fun i _ => 32 - (intOf i).toNat)
  case atStart => exact ⟨0, by omega, rfl, k3, k4, World.grownBy.refl w _⟩
  case round =>
    clear k3 k4
    obtain ⟨k, hk, rfl, k3, k4, hG⟩ := hrel
    by_cases hlt : k < 32
    · obtain ⟨j, r, hj, hr, hkr⟩ : ∃ j r, j < 8 ∧ r < 4 ∧ k = 4 * j + r := ⟨k / 4, k % 4, by omega, by omega, by omega⟩
      have hu : v.row[j]? = some (U (v.list.getD j 0)) := lt8 (P := fun k => v.row[k]? = some (U (v.list.getD k 0))) rfl rfl rfl rfl rfl rfl rfl rfl j hj
      have c1 := k3.cell j _ hu
      have hxl := list_lt hv j
      have hog := out_get v j r hj hr
      rw [← hkr] at hog
      have HS := Lib.hid (brow_set v k _ hlt hog)
      have e1 : (k : Int) / 4 = (j : Int) := by omega
      have e2 : (k : Int) % 4 = (r : Int) := by omega
      have b1 : (k : Int) < 32 := by omega
      have b2 : (j : Int) < 8 := by omega
      have hlen : (hrow (brow v k)).size = 32 := by unfold hrow; simp [brow_length v k (by omega)]
      obtain ⟨z, hz1⟩ : ∃ z, (hrow (brow v k))[k]? = some z := ⟨_, Array.getElem?_eq_getElem (by omega)⟩
      have c2 := k4.cell k z hz1
      have hf := k4.frozen k
      generalize v.list.getD j 0 = x at *
      clear hu hog hlen hz1 hkr
      rcases (show r = 0 ∨ r = 1 ∨ r = 2 ∨ r = 3 by omega) with rfl | rfl | rfl | rfl
      all_goals
        go_wp2_with fail
        go_roundw
        case rel =>
          refine ⟨k + 1, by omega, by go_num, k3.other (a := ⟨no, k, none⟩) hne _, ?_, grown_set hG k _⟩
          rw [← HS.out]
          refine Eq.mp (congrArg (fun u => Blk (wr.setCell ⟨no, k, none⟩ u) no ((hrow (brow v k)).setIfInBounds k _) _) ?_) (k4.set k _)
          exact (Yof _ _ (by simp; try omega)).symm
        case measure => simp [intOf]; omega
    · obtain rfl : k = 32 := by omega
      clear hlt hk
      go_wp2_with fail
      exact HX.out _ _ _ _ _ _ _ _ _ _ _ _ _ _ wr hG k4

end Go.Proofs.Ytjekdeikoebmgaa
