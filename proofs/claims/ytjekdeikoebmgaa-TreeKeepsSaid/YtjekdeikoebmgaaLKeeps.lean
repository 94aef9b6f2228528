/- TreeKeeps: the functions do not change their arguments, and results share no memory with them; no condition. -/
import Derived.Test.YtjekdeikoebmgaaLKpA
namespace Go.Proofs.Ytjekdeikoebmgaa.LKeeps
open Go.ChangeShapes Go.WideShapes Go.ChangeAt Go.RowKit Go.Shelf Go.ChangeMaps Tr

set_option maxRecDepth 100000 in
set_option maxHeartbeats 4000000 in
theorem walk (w : World) (l : List UInt8) (a : Option Addr) (cap : Nat) (hc : l.length ≤ cap) (hm : l.length ≤ maxLen) (hA : l ≠ [] → ∃ g o, a = some ⟨g, o, none⟩ ∧ ∀ (i : Nat) (x : UInt8), l[i]? = some x → w.cell? ⟨g, o + i, none⟩ = some (Y x)) (za : Int) (ha : 0 ≤ za ∧ za ≤ 255) :
    Calls Try.prog 12 #[.slice a l.length cap, .int .u8 za] w fun e w' => e = .returned (.bool true) ∧ Below w.heap.size w w' := by
  obtain ⟨ha1, ha2⟩ := ha
  have hB := Below.refl w.heap.size w
  have ST := Lib.hid (fun w' (hb : Below w.heap.size w w') => Strings_any l a cap w' hc hm (fun h => by
    obtain ⟨g, o, h1, h2⟩ := hA h
    exact ⟨g, o, h1, fun i x hx => keepCells hb _ _ (h2 i x hx)⟩))
  have hS := strsOf_small l
  have hsl := strsOf_len l
  generalize strsOf l = ss at *
  clear hA
  obtain ⟨m, hm1, hm2⟩ : ∃ m : Nat, za % ((ss.length : Int) + 1) = (m : Int) ∧ m ≤ ss.length := ⟨(za % ((ss.length : Int) + 1)).toNat, by have := Int.emod_nonneg za (by omega : (ss.length : Int) + 1 ≠ 0); omega, by have := Int.emod_lt_of_pos za (by omega : (0 : Int) < (ss.length : Int) + 1); omega⟩
  go_enter Try.func12, Try.ntmps12
  go_wp2_with fail
  refine (Calls.chain hB hB.size (sanity_any _)).mono ?_; clear hB; rintro e w1 ⟨rfl, hB, _⟩
  go_wp2_with fail
  refine (ST.out _ hB).mono ?_; rintro e w2 ⟨v6, rfl, hO6, hb2⟩
  have hB := hB.trans (hb2.mono hB.size)
  have hA6 := hO6.sarg
  clear hO6 hb2
  go_wp2_with fail
  refine (ST.out _ hB).mono ?_; rintro e w3 ⟨v7, rfl, hO7, hb3⟩
  have hB := hB.trans (hb3.mono hB.size)
  have hA6 := hA6.below hb3
  have hA7 := hO7.sarg
  clear hO7 hb3 ST
  obtain ⟨a1, cap1, rfl, hc1, hA61⟩ := id hA6
  obtain ⟨a2, cap2, rfl, hc2, hA71⟩ := id hA7
  have HA6 := Lib.hid hA6
  have HA7 := Lib.hid hA7
  have HA61 := Lib.hid hA61
  have HA71 := Lib.hid hA71
  have HP := Lib.hid (Path_q ss m (.slice a1 ss.length cap1) w3 hS hA6)
  have hpa := pathQ_all ss m
  have hpl := pathQ_len ss m
  have hqa := growth_all ss m
  have hql := growth_len ss m
  generalize (pathQ ss (m : Nat)).1 = hp at *
  generalize (pathQ ss (m : Nat)).2 = pb at *
  have HG := Lib.hid (fun w' (hb : Below w3.heap.size w3 w') => Growth_q ss m (.slice a1 ss.length cap1) w' hS (HA6.out.below hb))
  generalize (growth ss (m : Nat)).1 = hq at *
  generalize (growth ss (m : Nat)).2 = qb at *
  have B3 := Below.refl w3.heap.size w3
  have HB := Lib.hid hB
  clear hA6 hA7 hA61 hA71 hB
  go_wp2_with fail
  refine HP.out.mono ?_; rintro e w4 ⟨v9, rfl, hO9, hb4⟩
  clear HP B3
  have B3 := hb4
  go_wp2_with fail
  refine (HG.out _ B3).mono ?_; rintro e w5 ⟨v11, rfl, hO11, hb5⟩
  clear HG
  have hO9 := hO9.below hb5
  have B3 := B3.trans (hb5.mono B3.size)
  have R9 := RowOk.of hO9 (Nat.le_refl _)
  have R11 := RowOk.of hO11 hb4.size
  have P9 := hO9.arg
  have P11 := hO11.arg
  clear hO9 hO11 hb4 hb5
  -- what was before
  have b5 := (Below.refl w5.heap.size w5).alloc (Nat.le_refl _) (.cells #[] 24)
  obtain ⟨v44, w44, r6, O6, g6, k6⟩ := run_append_hashes (w5.alloc (.cells #[] 24)) w5.heap.size _ v9 [] hp (OwnV.empty _ _ (Nat.le_refl _)) b5.size (P9.below b5) hpa (by simp; omega)
  have b6 := below_of_grown b5 g6 b5.size (fun g hg => by cases hg; exact Nat.le_refl _)
  obtain ⟨v46, w6, r7, O7, g7, _⟩ := run_append_hashes w44 w5.heap.size v44 v11 _ hq O6 b6.size (P11.below b6) hqa (by simp; omega)
  have b7 := below_of_grown b6 g7 b6.size (fun g hg => O6.blk g hg)
  have HB1 := Lib.hid (run_build0 w5)
  have HA1 := Lib.hid r6
  have HA2 := Lib.hid r7
  have P13 := O7.arg
  clear r6 r7 O6 O7 g6 g7 k6 b5 b6
  go_upto_region 7 with (first
    | (refine wpList_build_run rfl 32 0 #[] rfl #[] rfl _ _ HB1.out ?_)
    | (at_builtin; refine Lib.wpList_append_run _ rfl (.tmp 42) (.tmp 43) 32 32 rfl _ _ rfl rfl _ _ HA1.out ?_)
    | (at_builtin; refine Lib.wpList_append_run _ rfl (.tmp 44) (.tmp 45) 32 32 rfl _ _ rfl rfl _ _ HA2.out ?_))
  clear HB1 HA1 HA2
  have B3 := B3.trans (b7.mono B3.size)
  have R9 := R9.below b7 (Nat.le_refl _)
  have R11 := R11.below b7 (Nat.le_refl _)
  have P9 := P9.below b7
  have P11 := P11.below b7
  have T6 := b7.size
  generalize w5.heap.size = T at *
  clear b7
  have HH := Lib.hid (HeadOf_any ss (.slice a1 ss.length cap1) w6 hS (HA6.out.below B3))
  go_wp2_with fail
  refine HH.out.mono ?_; rintro e w7 ⟨rfl, hb7⟩
  clear HH
  have R9 := R9.below hb7 T6
  have R11 := R11.below hb7 T6
  have P9 := P9.below hb7
  have P11 := P11.below hb7
  have P13 := P13.below hb7
  have B3 := B3.trans (hb7.mono B3.size)
  have T7 := Nat.le_trans T6 hb7.size
  have r32 := root_length ss
  have HZ0 := Lib.hid zeroHead
  have HI := Lib.hid (hinfoD (ss.length : Int) (root ss) r32)
  have HO := Lib.hid (hdrow_one (ss.length : Int) (root ss))
  have HZ := Lib.hid (show (hdrow 0 (List.replicate 32 0)).size = (hdrow (ss.length : Int) (root ss)).size by rw [hdrow_size _ r32, hdrow_size _ hz_len2])
  have NZ := Lib.hid (Blk.new w7 (hdrow 0 (List.replicate 32 0)) 38)
  have N14 := Blk.new w7 (hdrow (ss.length : Int) (root ss)) 38
  have b8 := (Below.refl w7.heap.size w7).alloc (Nat.le_refl _) (.cells (hdrow (ss.length : Int) (root ss)) 38)
  have R9 := R9.below b8 T7
  have R11 := R11.below b8 T7
  have P9 := P9.below b8
  have P11 := P11.below b8
  have P13 := P13.below b8
  have B3 := B3.trans (b8.mono B3.size)
  have T8 := Nat.le_trans T7 b8.size
  obtain ⟨R, hR⟩ : ∃ R, hdrow (ss.length : Int) (root ss) = R := ⟨_, rfl⟩
  rw [hR] at HI HO HZ N14 b8 R9 R11 P9 P11 P13 B3 T8
  rw [hR]
  have HR := Lib.hid hR
  clear hR T6 T7 hb7
  generalize hdrow 0 (List.replicate 32 0) = Z at *
  go_upto_region 8 with (first
    | (refine wpList_alloc_row rfl 38 rfl Z HZ0.out ?_; go_frame; try simp only [World.size_alloc])
    | (refine wpList_store_row rfl 38 (.tmp 14) (.tmp 48) rfl w7.heap.size R rfl rfl 38 _ NZ.out HI.out HZ.out HO.out ?_; go_frame; rw [World.setRow_alloc_new]))
  clear HZ0 HO HZ NZ b8
  generalize w7.alloc (.cells R 38) = w8 at *
  generalize w7.heap.size = b14 at *
  have NH := Lib.hid N14
  have HC := Lib.hid (CheckPath_q ss.length m (root ss) [120] hp v9 w8 r32 (by simp) hpa (by omega) (by omega) P9)
  rw [HR.out] at HC
  go_wp2_with (refine wpList_load_row_g (by kernel_rfl) 38 (.tmp 14) rfl b14 rfl _ _ _ _ NH.out Try.underlying38 rfl HI.out ?_; go_frame)
  refine HC.out.mono ?_; rintro e w9 ⟨rfl, hb9⟩
  clear HC NH HI
  rw [← HR.out] at N14
  clear HR
  have N14 := N14.below hb9 N14.lt
  have R9 := R9.below hb9 T8
  have R11 := R11.below hb9 T8
  have P9 := P9.below hb9
  have P11 := P11.below hb9
  have P13 := P13.below hb9
  have B3 := B3.trans (hb9.mono B3.size)
  have T9 := Nat.le_trans T8 hb9.size
  clear hb9 T8
  have hlk : (ss.take m).length = m := by rw [List.length_take]; omega
  have C1 := Lib.hid (fun x' : After w9 => hlk ▸ HeadOf_any (ss.take m) (.slice a1 m cap1) x'.W (hS.take m) ⟨a1, cap1, by rw [hlk], by omega, fun h => by
    obtain ⟨g, o, h3, h4⟩ := HA61.out (by rintro rfl; simp at h)
    exact ⟨g, o, h3, (h4.below (B3.trans (x'.hb.mono B3.size))).take m⟩⟩)
  have C2 := Lib.hid (fun x' : After w9 => CheckGrowth_q m ss.length (root (ss.take m)) (root ss) hq v11 x'.W (root_length _) r32 (by omega) (by omega) hqa (P11.below x'.hb))
  obtain ⟨c, hcq⟩ : ∃ c, checkG m (root (ss.take m)) ss.length (root ss) hq = c := ⟨_, rfl⟩
  rw [hcq] at C2
  clear hcq hlk
  go_upto_region 9 with (fail)
  refine kp_r9 _ _ _ _ _ _ _ _ _ _ _ _ _ _ _ _ _ _ _ _ _ _ _ _ _ _ _ _ _ _ _ _ _ _ _ _ _ _ _ _ _ _ _ _ _ _ _ _ _ _ _ _ _ _ _ _ _ _ _ _ _ _ _ _ _ _ _ _ _ _ _ _ _ _ _ _ _ _ _ _ _ _ _ _ _ _ _ _ _ _ _ _ _ _ _ _ _ _ _ _ _ _ _ _ _ _ v11 a1 ss.length cap1 m b14 (root (ss.take m)) (root ss) c w9 r32 N14 hm2 hc1 C1.out C2.out _ ?_
  intro y53 y54 y55 y56 y57 y58 y59 w10 hb10
  clear C1 C2 N14
  have R9 := R9.below hb10 T9
  have R11 := R11.below hb10 T9
  have P9 := P9.below hb10
  have P11 := P11.below hb10
  have P13 := P13.below hb10
  have B3 := B3.trans (hb10.mono B3.size)
  have T10 := Nat.le_trans T9 hb10.size
  clear hb10 T9
  -- and now
  have b5 := (Below.refl w10.heap.size w10).alloc (Nat.le_refl _) (.cells #[] 24)
  obtain ⟨v62, w62, r6, O6, g6, k6⟩ := run_append_hashes (w10.alloc (.cells #[] 24)) w10.heap.size _ v9 [] hp (OwnV.empty _ _ (Nat.le_refl _)) b5.size (P9.below b5) hpa (by simp; omega)
  have b6 := below_of_grown b5 g6 b5.size (fun g hg => by cases hg; exact Nat.le_refl _)
  obtain ⟨v64, w11, r7, O7, g7, _⟩ := run_append_hashes w62 w10.heap.size v62 v11 _ hq O6 b6.size (P11.below b6) hqa (by simp; omega)
  have b7 := below_of_grown b6 g7 b6.size (fun g hg => O6.blk g hg)
  have HB1 := Lib.hid (run_build0 w10)
  have HA1 := Lib.hid r6
  have HA2 := Lib.hid r7
  have HS := Lib.hid (Same_self _ ((All32.nil.append hpa).append hqa) v64 v46 w11 O7.arg (P13.below b7) (by simp; omega))
  clear r6 r7 O6 O7 g6 g7 k6 b5 b6 P13
  go_wp2_with (first
    | (refine wpList_build_run rfl 32 0 #[] rfl #[] rfl _ _ HB1.out ?_)
    | (at_builtin; refine Lib.wpList_append_run _ rfl (.tmp 60) (.tmp 61) 32 32 rfl _ _ rfl rfl _ _ HA1.out ?_)
    | (at_builtin; refine Lib.wpList_append_run _ rfl (.tmp 62) (.tmp 63) 32 32 rfl _ _ rfl rfl _ _ HA2.out ?_))
  refine HS.out.mono ?_; rintro e w12 ⟨rfl, hb12⟩
  clear HB1 HA1 HA2 HS
  have R9 := (R9.below b7 T10).below hb12 (Nat.le_trans T10 b7.size)
  have R11 := (R11.below b7 T10).below hb12 (Nat.le_trans T10 b7.size)
  have B3 := (B3.trans (b7.mono B3.size)).trans (hb12.mono (Nat.le_trans B3.size b7.size))
  have T12 := Nat.le_trans (Nat.le_trans T10 b7.size) hb12.size
  clear b7 hb12 T10 P9 P11
  -- the results are written
  have sA : ∃ x n c, v9 = .slice x n c := by obtain ⟨x, c, h⟩ := R9.slice; exact ⟨_, _, _, h⟩
  have sB : ∃ x n c, v11 = .slice x n c := by obtain ⟨x, c, h⟩ := R11.slice; exact ⟨_, _, _, h⟩
  have HBL := Lib.hid (two_lists w12 v9 v11 sA sB)
  have b13 := (Below.refl w12.heap.size w12).alloc (Nat.le_refl _) (.cells #[v9, v11] 32)
  have NP := Blk.new w12 #[v9, v11] 32
  have R9 := R9.below b13 T12
  have R11 := R11.below b13 T12
  have B3 := B3.trans (b13.mono B3.size)
  clear sA sB b13
  go_wp2_with (refine wpList_build_run rfl 44 2 #[(0, .tmp 68), (1, .tmp 69)] rfl #[(0, v9), (1, v11)] rfl _ _ HBL.out ?_)
  clear HBL
  generalize w12.alloc (.cells #[v9, v11] 32) = w13 at *
  generalize w12.heap.size = bP at *
  have hTP : T ≤ bP := T12
  clear T12
  have R9 := R9.mono (Nat.le_refl _) hTP
  have R11 := R11.mono (Nat.le_refl _) hTP
  have hnp : hp.length ≤ 1000 := by omega
  have hnq : hq.length ≤ 1000 := by omega
  go_loopw [72] (fun i wr => ∃ j : Nat, j ≤ 2 ∧ i = .int .i64 j ∧ RowOk w3.heap.size bP wr v9 hp.length ∧ RowOk w3.heap.size bP wr v11 hq.length ∧ Blk wr bP #[v9, v11] 32 ∧ Below w3.heap.size w3 wr) (fun i _ => 2 - (intOf i).toNat)
  case atStart => exact ⟨0, by omega, rfl, R9, R11, NP, B3⟩
  case round =>
    clear R9 R11 NP B3
    obtain ⟨j, hj, rfl, R9, R11, NP, B3⟩ := hrel
    by_cases hjt : j < 2
    · obtain ⟨vj, nj, hvj, Rj, hnj⟩ : ∃ (vj : Value) (nj : Nat), (#[v9, v11] : Array Value)[j]? = some vj ∧ RowOk w3.heap.size bP wr vj nj ∧ nj ≤ 1000 := by
        have h01 : j = 0 ∨ j = 1 := by omega
        rcases h01 with rfl | rfl
        · exact ⟨v9, _, rfl, R9, hnp⟩
        · exact ⟨v11, _, rfl, R11, hnq⟩
      have cP := NP.cell j _ hvj
      obtain ⟨xj, cj, rfl⟩ := Rj.slice
      have t2 : (j : Int) < 2 := by omega
      clear hvj
      go_wp2_with fail
      go_loopw [78] (fun i wr => ∃ k : Nat, k ≤ nj ∧ i = .int .i64 k ∧ RowOk w3.heap.size bP wr v9 hp.length ∧ RowOk w3.heap.size bP wr v11 hq.length ∧ RowOk w3.heap.size bP wr (.slice xj nj cj) nj ∧ Blk wr bP #[v9, v11] 32 ∧ Below w3.heap.size w3 wr) (fun i _ => nj - (intOf i).toNat)
      case atStart => exact ⟨0, by omega, rfl, R9, R11, Rj, NP, B3⟩
      case round =>
        clear R9 R11 Rj NP B3 cP
        obtain ⟨k, hk, rfl, R9, R11, Rj, NP, B3⟩ := hrel
        by_cases hkt : k < nj
        · rcases id Rj with ⟨_, hz⟩ | ⟨g, cap9, hv, hnc, hgB, hgT, hcells⟩
          · omega
          · cases hv
            have x32 : ((9 : UInt8) :: List.replicate 31 0).length = 32 := rfl
            have hbb := byte_build 9
            obtain ⟨x9, hx9⟩ : ∃ x, (9 : UInt8) :: List.replicate 31 0 = x := ⟨_, rfl⟩
            rw [hx9] at x32 hbb
            have HT := Lib.hid (show wr.there g (k * 32) (hrow x9).size from fun i hi => by rw [hrow_size x32] at hi; exact hcells _ (by omega))
            have K9 := R9.cells g (k * 32) (x9.map Y)
            have K11 := R11.cells g (k * 32) (x9.map Y)
            have Kj := Rj.cells g (k * 32) (x9.map Y)
            have KP := Blk.cellsOther' (show bP ≠ g by omega) (x9.map Y) (k * 32) wr NP
            have KB := below_cells w3.heap.size g hgB (x9.map Y) (k * 32) wr B3
            have H9 := Lib.hid K9
            have H11 := Lib.hid K11
            have Hj := Lib.hid Kj
            have HPP := Lib.hid KP
            have HBB := Lib.hid KB
            have t3 : (k : Int) < (nj : Int) := by omega
            have HBD := Lib.hid hbb
            clear K9 K11 Kj KP KB R9 R11 Rj NP B3 hx9 hcells hbb
            go_wp2_with (first
              | (refine wpList_build_byte rfl (.const (.int .u8 9)) rfl 9 rfl x9 HBD.out ?_; go_frame)
              | (refine wpList_store_mid rfl 24 (.tmp 84) (.tmp 83) rfl g (k * 32) (hrow x9) rfl rfl HT.out (hinfo' x9 x32) (bytes_all x9) ?_; go_frame))
            go_roundw
            case rel => exact ⟨k + 1, by omega, by go_num, H9.out, H11.out, Hj.out, HPP.out, HBB.out⟩
            case measure => simp [intOf]; omega
        · have t3 : ¬ ((k : Int) < (nj : Int)) := by omega
          go_wp2_with fail
          go_roundw
          case rel => exact ⟨j + 1, by omega, by go_num, R9, R11, NP, B3⟩
          case measure => simp [intOf]; omega
    · have t2 : ¬ ((j : Int) < 2) := by omega
      clear R9 R11 NP
      go_wp2_with fail
      go_loopw [89] (fun i wr => ∃ k : Nat, k ≤ ss.length ∧ i = .int .i64 k ∧ Below w3.heap.size w3 wr) (fun i _ => ss.length - (intOf i).toNat)
      case atStart => exact ⟨0, by omega, rfl, B3⟩
      case round =>
        clear B3
        obtain ⟨k, hk, rfl, B3⟩ := hrel
        by_cases hkt : k < ss.length
        · obtain ⟨x, hx⟩ : ∃ x, ss[k]? = some x := ⟨ss[k], List.getElem?_eq_getElem hkt⟩
          obtain ⟨g1, o1, rfl, h1⟩ := HA61.out (by rintro rfl; simp at hx)
          obtain ⟨g2, o2, rfl, h2⟩ := HA71.out (by rintro rfl; simp at hx)
          have c1 := keepCells B3 _ _ (h1 k x hx)
          have c2 := keepCells B3 _ _ (h2 k x hx)
          have t3 : (k : Int) < (ss.length : Int) := by omega
          have C1 := Lib.hid c1
          have C2 := Lib.hid c2
          clear hx h1 h2 c1 c2 HA6 HA7 HA61 HA71
          go_upto_region 24 with (fail)
          refine kp_r24 _ _ _ _ _ _ _ _ _ _ _ _ _ _ _ _ _ _ _ _ _ _ _ _ _ _ _ _ _ _ _ _ _ _ _ _ _ _ _ _ _ _ _ _ _ _ _ _ _ _ _ _ _ _ _ _ _ _ _ _ _ _ _ _ _ _ _ _ _ _ _ _ _ _ _ _ _ _ _ _ _ _ _ _ _ _ _ _ _ _ _ _ _ _ _ _ _ _ _ _ _ _ _ _ _ _ _ g1 o1 g2 o2 ss.length cap1 cap2 k x _ hkt C1.out C2.out _ ?_
          intro y92 y93 y94 y95 y96 y97 y98 y99 w14 hb14
          have B3 := B3.trans (hb14.mono B3.size)
          clear C1 C2 hb14
          go_wp2_with fail
          go_roundw
          case rel => exact ⟨k + 1, by omega, by go_num, B3⟩
          case measure => simp [intOf]; omega
        · have t3 : ¬ ((k : Int) < (ss.length : Int)) := by omega
          have HR1 := Lib.hid (fun w' (hb : Below w3.heap.size w3 w') => Root_any ss.length ss (.slice a1 ss.length cap1) w' (Nat.le_refl _) hS (HA6.out.below hb))
          have HR2 := Lib.hid (fun w' (hb : Below w3.heap.size w3 w') => Root_any ss.length ss (.slice a2 ss.length cap2) w' (Nat.le_refl _) hS (HA7.out.below hb))
          have hq := fun w => run_eq_hash (root ss) (root ss) (root_length ss) (root_length ss) w
          simp only [beq_self_eq_true] at hq
          generalize hrow (root ss) = Rr at *
          clear HA6 HA7 HA61 HA71
          go_wp2_with fail
          refine (HR1.out _ B3).mono ?_; rintro e w14 ⟨rfl, hb14⟩
          have B3 := B3.trans (hb14.mono B3.size)
          clear hb14
          go_wp2_with fail
          refine (HR2.out _ B3).mono ?_; rintro e w15 ⟨rfl, hb15⟩
          have B3 := B3.trans (hb15.mono B3.size)
          clear hb15
          go_wp2_with fail
          go_ret
          exact ⟨rfl, HB.out.trans (B3.mono HB.out.size)⟩

set_option maxRecDepth 100000 in
theorem lifted (os : Os) (started : os.Started) (H : Type) (enc : TypeId × Value → H) :
    ReturnsInHanded {} Try.checked os 12 .any (Rows.treeKeepsSpec.pre6 enc Try.prog Try.f12 Rows.treeKeepsRow.domain false) (Rows.treeKeepsSpec.post enc Try.prog Try.f12 false true false false) := by
  refine returnsInHanded_of_change (C := Try.checked) law_own started (by kernel_rfl) Try.func12
    (ChangeSpec.witness6 (enc := enc) (C := Try.checked) false ⟨#[], #[.slice none 0 0, .int .u8 0], []⟩ 8 (by kernel_rfl) (by kernel_rfl) (by kernel_rfl) (by kernel_rfl)) ?_
  intro W base args ds gs before hval0 hW _ _
  have hval : ∀ (j : Nat) t v, Try.f12.params[j]? = some t → args[j]? = some v → Value.okWide Try.prog W .any base t v := hval0
  have hWk : DataW.Whole enc Try.prog Try.f12.params.toList Rows.treeKeepsSpec.vars false W args.toList ds gs before := hW
  obtain ⟨p, q, hA0, hV, rfl, _, _⟩ := hW
  have hA : DataW.TrodAll enc Try.prog W 0 (fun _ => true) true Try.f12.params.toList args.toList ds p := hA0
  rw [Try.params12] at hA hval
  obtain ⟨v0, vs0, d0, ds0, p0, q0, hargs, rfl, rfl, h0, r0⟩ := trodAll_cons hA
  obtain ⟨v1, vs1, d1, ds1, p1, q1, rfl, rfl, rfl, h1, r1⟩ := trodAll_cons r0
  obtain ⟨rfl, rfl, rfl⟩ := trodAll_nil r1
  obtain rfl : args = #[v0, v1] := by cases args; simp_all
  obtain ⟨rfl, rfl⟩ := trodVars_none hV
  obtain ⟨l0, a0, c0, rfl, hc0, hm0, hr0⟩ := open_u8sA (hval 0 30 v0 rfl rfl) h0
  obtain ⟨a1, rfl, _, _, w1⟩ := open_int Try.underlying5 (hval 1 5 v1 rfl rfl) h1
  clear hA0 hval0
  refine (walk W l0 a0 c0 hc0 hm0 hr0 a1 (by simpa [Lit.wf, IntKind.min, IntKind.max, IntKind.signed, IntKind.bits] using w1)).mono fun e W' ⟨he, hb⟩ => ?_
  exact ⟨_, he, law_post law_laid rfl (by rw [Try.params12]; decide +kernel) (by kernel_rfl) Try.underlying4 rfl hWk hb⟩

theorem holds : Rows.TreeKeepsSaid :=
  OpenClaim.holds_of_wide 12 Try.f12 rfl rfl rfl rfl rfl rfl rfl ⟨rfl, rfl, rfl, rfl, rfl⟩ rfl rfl rfl rfl rfl (by kernel_rfl) Try.func12 (by kernel_rfl)
    (of_decide_eq_true (by kernel_rfl)) (by unfold Func.isWrapper; first | (rw [if_pos (by decide +kernel)]; kernel_rfl) | (rw [if_neg (by decide +kernel)]; exact ⟨rfl, rfl⟩))
    (fun os started H enc _ => lifted os started H enc)

end Go.Proofs.Ytjekdeikoebmgaa.LKeeps

namespace Go.Proofs.Ytjekdeikoebmgaa
/-- The statement. -/
theorem treeKeeps_holds : Rows.TreeKeepsSaid := LKeeps.holds
end Go.Proofs.Ytjekdeikoebmgaa
