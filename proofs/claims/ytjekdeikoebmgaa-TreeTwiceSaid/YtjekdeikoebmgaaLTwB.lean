/- Parts of the walk of TreeTwice, put together. Conditions: sizes. -/
import Derived.Test.YtjekdeikoebmgaaLTwA
namespace Go.Proofs.Ytjekdeikoebmgaa
open Go.ChangeShapes Go.WideShapes Go.ChangeAt Go.RowKit Go.Shelf Go.ChangeMaps Tr

theorem growth_chk (l : List (List UInt8)) (k : Nat) (h : k ≤ l.length) (w : World) (v : Value) (hl : l.length ≤ 20) (hV : HArg w v (growth l k).1) :
    Calls Try.prog 33 #[.agg (hdrow k (root (l.take k))), .agg (hdrow l.length (root l)), v] w fun e w' => e = .returned (.bool true) ∧ Below w.heap.size w w' := by
  obtain ⟨_, g2⟩ := growth_ok l k h
  have hg := growth_len l k
  exact g2 ▸ CheckGrowth_q k l.length (root (l.take k)) (root l) (growth l k).1 v w (root_length _) (root_length _) (by omega) (by omega) (growth_all _ _) hV
theorem path_chk (l : List (List UInt8)) (j : Nat) (s : List UInt8) (hs : l[j]? = some s) (hS : Small l) (w : World) (v : Value) (hl : l.length ≤ 20) (hV : HArg w v (path l j)) :
    Calls Try.prog 24 #[.agg (hdrow l.length (root l)), .int .i64 j, S s, v] w fun e w' => e = .returned (.bool true) ∧ Below w.heap.size w w' := by
  have hp := path_len l j
  exact checkP_own l j s hs ▸ CheckPath_q l.length j (root l) s (path l j) v w (root_length _) (hS.each s (List.mem_of_getElem? hs)) (path_all _ _) (by omega) (by omega) hV

set_option maxRecDepth 100000 in
set_option maxHeartbeats 2000000 in
theorem tw_t11 (u0 u1 u2 u3 u4 u5 u6 u20 u21 u22 u23 u24 u25 u26 u27 u28 u29 u30 u31 u32 u33 u34 u35 u36 u37 u38 u39 u40 u41 u42 u43 u44 u45 u46 u47 u48 u49 u50 u51 u52 u53 u54 u55 u56 u57 u58 u59 u60 u61 u62 u63 u64 u65 u66 u67 u68 u69 u70 u71 u72 u73 u74 u75 u76 u77 u78 u79 u80 u81 u82 u83 u84 u85 u86 u87 u88 u89 u90 u91 u92 u93 u94 u95 u96 u97 u98 u99 u100 u101 u102 u103 u104 u105 u106 u107 u108 u109 u110 u111 u112 u113 u114 u115 u116 u117 u118 u119 u120 u121 u122 u123 u124 u125 u126 u127 u128 u129 u130 u131 u132 u133 u134 u135 u136 u137 u138 u139 u140 u141 u142 u143 u144 u145 u146 u147 u148 u149 u150 u151 u152 u153 u154 u155 u156 u157 u158 u159 u160 u161 u162 u163 u164 u165 u166 u167 : Value) (a1 : Option Addr) (cap1 m n b1 b2 b3 : Nat) (ss : List (List UInt8)) (v1 v2 v3 : Value) (W0 w : World) (hS : Small ss) (hl : ss.length ≤ 20) (hm : m ≤ ss.length) (hn : n ≤ m)
    (N1 : Blk w b1 (hdrow n (root (ss.take n))) 38) (N2 : Blk w b2 (hdrow m (root (ss.take m))) 38) (N3 : Blk w b3 (hdrow ss.length (root ss)) 38) (V1 : HArg w v1 (growth (ss.take m) n).1) (V2 : HArg w v2 (growth ss m).1) (V3 : HArg w v3 (growth ss n).1) (hA : Strs w a1 cap1 ss) (hB : Below W0.heap.size W0 w) :
    Code.wp Try.prog (tailIn Try.f11 11) (bodyPost Try.prog Try.f11 (fun e w' => e = .returned (.bool true) ∧ Below W0.heap.size W0 w')) ⟨(u0 :: u1 :: u2 :: u3 :: u4 :: u5 :: u6 :: (.bool true) :: (.slice a1 ss.length cap1) :: (.int .i64 (m : Int)) :: (.int .i64 (n : Int)) :: (.pointer (some ⟨b1, 0, none⟩)) :: (.pointer (some ⟨b2, 0, none⟩)) :: (.pointer (some ⟨b3, 0, none⟩)) :: v1 :: (.bool true) :: v2 :: (.bool true) :: v3 :: (.bool true) :: u20 :: u21 :: u22 :: u23 :: u24 :: u25 :: u26 :: u27 :: u28 :: u29 :: u30 :: u31 :: u32 :: u33 :: u34 :: u35 :: u36 :: u37 :: u38 :: u39 :: u40 :: u41 :: u42 :: u43 :: u44 :: u45 :: u46 :: u47 :: u48 :: u49 :: u50 :: u51 :: u52 :: u53 :: u54 :: u55 :: u56 :: u57 :: u58 :: u59 :: u60 :: u61 :: u62 :: u63 :: u64 :: u65 :: u66 :: u67 :: u68 :: u69 :: u70 :: u71 :: u72 :: u73 :: u74 :: u75 :: u76 :: u77 :: u78 :: u79 :: u80 :: u81 :: u82 :: u83 :: u84 :: u85 :: u86 :: u87 :: u88 :: u89 :: u90 :: u91 :: u92 :: u93 :: u94 :: u95 :: u96 :: u97 :: u98 :: u99 :: u100 :: u101 :: u102 :: u103 :: u104 :: u105 :: u106 :: u107 :: u108 :: u109 :: u110 :: u111 :: u112 :: u113 :: u114 :: u115 :: u116 :: u117 :: u118 :: u119 :: u120 :: u121 :: u122 :: u123 :: u124 :: u125 :: u126 :: u127 :: u128 :: u129 :: u130 :: u131 :: u132 :: u133 :: u134 :: u135 :: u136 :: u137 :: u138 :: u139 :: u140 :: u141 :: u142 :: u143 :: u144 :: u145 :: u146 :: u147 :: u148 :: u149 :: u150 :: u151 :: u152 :: u153 :: u154 :: u155 :: u156 :: u157 :: u158 :: u159 :: u160 :: u161 :: u162 :: u163 :: u164 :: u165 :: u166 :: u167 :: []).toArray, []⟩ w := by
  have hlk : (ss.take m).length = m := by rw [List.length_take]; omega
  have C1 : ∀ w v, HArg w v (growth (ss.take m) n).1 → Calls Try.prog 33 #[.agg (hdrow n (root (ss.take n))), .agg (hdrow m (root (ss.take m))), v] w fun e w' => e = .returned (.bool true) ∧ Below w.heap.size w w' := fun w v hV => by
    have h := growth_chk (ss.take m) n (by omega) w v (by omega) hV
    rwa [hlk, List.take_take, Nat.min_eq_left hn] at h
  conv => arg 2; whnf
  go_upto_region 11 with (fail)
  refine tw_r11 _ _ _ _ _ _ _ _ _ _ _ _ _ _ _ _ _ _ _ _ _ _ _ _ _ _ _ _ _ _ _ _ _ _ _ _ _ _ _ _ _ _ _ _ _ _ _ _ _ _ _ _ _ _ _ _ _ _ _ _ _ _ _ _ _ _ _ _ _ _ _ _ _ _ _ _ _ _ _ _ _ _ _ _ _ _ _ _ _ _ _ _ _ _ _ _ _ _ _ _ _ _ _ _ _ _ _ _ _ _ _ _ _ _ _ _ _ _ _ _ _ _ _ _ _ _ _ _ _ _ _ _ _ _ _ _ _ _ _ _ _ _ _ _ _ _ _ _ _ _ _ _ _ _ _ a1 cap1 m n b1 b2 b3 ss _ _ _ _ _ _ v1 v2 v3 w (root_length _) (root_length _) (root_length _) N1 N2 N3 V1 V2 V3 C1 (fun w v hV => growth_chk ss m hm w v hl hV) (fun w v hV => growth_chk ss n (by omega) w v hl hV) _ ?_
  intro y75 y76 y77 y78 y79 y80 y81 y82 y83 y84 y85 y86 y87 y88 y89 y90 y91 y92 y93 y94 y95 y96 y97 y98 y99 y100 y101 y102 y103 y104 w1 hb1
  have hB := hB.trans (hb1.mono hB.size)
  have hA := hA.below hb1
  have N2 := N2.below hb1 N2.lt
  have N3 := N3.below hb1 N3.lt
  clear N1 V1 V2 V3 C1 hb1
  by_cases h0 : n = 0
  · have t : ((n : Int) == 0) = true := by rw [beq_iff_eq]; omega
    clear h0
    go_wp2_with fail
    go_ret
    exact ⟨rfl, hB⟩
  · have t : ((n : Int) == 0) = false := by rw [beq_eq_false_iff_ne]; omega
    obtain ⟨j, hj⟩ : ∃ j, n = j + 1 := ⟨n - 1, by omega⟩
    obtain ⟨s, hs⟩ : ∃ s, ss[j]? = some s := ⟨ss[j]'(by omega), List.getElem?_eq_getElem (by omega)⟩
    have hs2 : (ss.take m)[j]? = some s := by rw [List.getElem?_take, if_pos (by omega)]; exact hs
    have e1 : (n : Int) - 1 = ((j : Nat) : Int) := by omega
    have q1 : pathQ (ss.take m) ((j : Nat) : Int) = (path (ss.take m) j, true) := by unfold pathQ; rw [if_neg (by omega), Int.toNat_natCast]
    have q2 : pathQ ss ((j : Nat) : Int) = (path ss j, true) := by unfold pathQ; rw [if_neg (by omega), Int.toNat_natCast]
    have P1 := Path_q (ss.take m) ((j : Nat) : Int) (.slice a1 m cap1) w1 (hS.take m) (hA.take m hm)
    rw [q1, ← e1] at P1
    have HP2 := Lib.hid (fun w2 (hA2 : Strs w2 a1 cap1 ss) => Path_q ss ((j : Nat) : Int) (.slice a1 ss.length cap1) w2 hS hA2.arg)
    rw [q2, ← e1] at HP2
    have HP1 := Lib.hid P1
    have HJ := Lib.hid hj
    have HS2 := Lib.hid hs2
    have HS1 := Lib.hid hs
    have l1 : (path (ss.take m) j).length ≤ (path ss j).length := by
      rw [path_way, path_way, hlk]
      exact way_mono ss.length j m (by omega) hm
    have l2 : (path ss j).length ≤ 5 := by
      rw [path_way]
      exact way_le 5 j ss.length (by omega)
    have L1 := Lib.hid l1
    have L2 := Lib.hid l2
    have HLK := Lib.hid hlk
    have hn1 : 1 ≤ n := by omega
    clear h0 hj hs hs2 e1 q1 q2 P1 l1 l2 hlk
    go_upto_region 15 with (fail)
    refine tw_r15 _ _ _ _ _ _ _ _ _ _ _ _ _ _ _ _ _ _ _ _ _ _ _ _ _ _ _ _ _ _ _ _ _ _ _ _ _ _ _ _ _ _ _ _ _ _ _ _ _ _ _ _ _ _ _ _ _ _ _ _ _ _ _ _ _ _ _ _ _ _ _ _ _ _ _ _ _ _ _ _ _ _ _ _ _ _ _ _ _ _ _ _ _ _ _ _ _ _ _ _ _ _ _ _ _ _ _ _ _ _ _ _ _ _ _ _ _ _ _ _ _ _ _ _ _ _ _ _ _ _ _ _ _ _ _ _ _ _ _ _ _ _ _ _ _ _ _ _ _ _ _ _ _ _ _ _ _ _ _ _ _ _ _ _ a1 cap1 m n ss _ w1 hA hm (by omega) hn1 (by omega) HP1.out _ ?_
    intro y109 y110 y111 y112 y113 y114 y115 y116 y117 v4 w2 hV4 hb2
    have hB := hB.trans (hb2.mono hB.size)
    have hA := hA.below hb2
    have N2 := N2.below hb2 N2.lt
    have N3 := N3.below hb2 N3.lt
    clear hb2 HP1
    go_upto_region 16 with (fail)
    refine tw_r16 _ _ _ _ _ _ _ _ _ _ _ _ _ _ _ _ _ _ _ _ _ _ _ _ _ _ _ _ _ _ _ _ _ _ _ _ _ _ _ _ _ _ _ _ _ _ _ _ _ _ _ _ _ _ _ _ _ _ _ _ _ _ _ _ _ _ _ _ _ _ _ _ _ _ _ _ _ _ _ _ _ _ _ _ _ _ _ _ _ _ _ _ _ _ _ _ _ _ _ _ _ _ _ _ _ _ _ _ _ _ _ _ _ _ _ _ _ _ _ _ _ _ _ _ _ _ _ _ _ _ _ _ _ _ _ _ _ _ _ _ _ _ _ _ _ _ _ _ _ _ _ _ _ _ _ _ _ _ _ _ _ _ _ _ a1 cap1 m n ss _ w2 hA (by omega) hn1 (by omega) (HP2.out _ hA) _ ?_
    intro y118 y119 y120 y121 y122 y123 y124 v5 w3 hV5 hb3
    have hB := hB.trans (hb3.mono hB.size)
    have hA := hA.below hb3
    have N2 := N2.below hb3 N2.lt
    have N3 := N3.below hb3 N3.lt
    have hV4 := hV4.below hb3
    have C4 := Lib.hid (fun x : After w3 => HLK.out ▸ path_chk (ss.take m) j s HS2.out (hS.take m) x.W v4 (by rw [HLK.out]; omega) (hV4.below x.hb))
    have C5 := Lib.hid (fun x : After w3 => path_chk ss j s HS1.out hS x.W v5 hl (hV5.below x.hb))
    obtain ⟨ap, cp, rfl, _, _⟩ := hV4
    obtain ⟨aq, cq, rfl, _, _⟩ := hV5
    clear hb3 HP2
    go_upto_region 17 with (fail)
    refine tw_r17 _ _ _ _ _ _ _ _ _ _ _ _ _ _ _ _ _ _ _ _ _ _ _ _ _ _ _ _ _ _ _ _ _ _ _ _ _ _ _ _ _ _ _ _ _ _ _ _ _ _ _ _ _ _ _ _ _ _ _ _ _ _ _ _ _ _ _ _ _ _ _ _ _ _ _ _ _ _ _ _ _ _ _ _ _ _ _ _ _ _ _ _ _ _ _ _ _ _ _ _ _ _ _ _ _ _ _ _ _ _ _ _ _ _ _ _ _ _ _ _ _ _ _ _ _ _ _ _ _ _ _ _ _ _ _ _ _ _ _ _ _ _ _ _ _ _ _ _ _ _ _ a1 cap1 m n b1 b2 b3 j cp cq ap aq ss _ _ _ _ s v1 v2 v3 w3 (root_length _) (root_length _) N2 N3 hA HS1.out HJ.out hl L1.out L2.out C4.out C5.out _ ?_
    intro y125 y126 y127 y128 y129 y130 y131 y132 y133 y134 y135 y136 y137 y138 y139 y140 y141 y142 y143 y144 y145 y146 y147 y148 y149 y150 y151 y152 y153 y154 y155 y156 y157 y158 y159 y160 y161 y162 y163 y164 y165 y166 y167 w4 hb4
    have hB := hB.trans (hb4.mono hB.size)
    go_wp2_with fail
    go_ret
    exact ⟨rfl, hB⟩

set_option maxRecDepth 100000 in
set_option maxHeartbeats 2000000 in
theorem tw_t5 (u0 u1 u2 u3 u4 u5 u6 u11 u12 u13 u14 u15 u16 u17 u18 u19 u20 u21 u22 u23 u24 u25 u26 u27 u28 u29 u30 u31 u32 u33 u34 u35 u36 u37 u38 u39 u40 u41 u42 u43 u44 u45 u46 u47 u48 u49 u50 u51 u52 u53 u54 u55 u56 u57 u58 u59 u60 u61 u62 u63 u64 u65 u66 u67 u68 u69 u70 u71 u72 u73 u74 u75 u76 u77 u78 u79 u80 u81 u82 u83 u84 u85 u86 u87 u88 u89 u90 u91 u92 u93 u94 u95 u96 u97 u98 u99 u100 u101 u102 u103 u104 u105 u106 u107 u108 u109 u110 u111 u112 u113 u114 u115 u116 u117 u118 u119 u120 u121 u122 u123 u124 u125 u126 u127 u128 u129 u130 u131 u132 u133 u134 u135 u136 u137 u138 u139 u140 u141 u142 u143 u144 u145 u146 u147 u148 u149 u150 u151 u152 u153 u154 u155 u156 u157 u158 u159 u160 u161 u162 u163 u164 u165 u166 u167 : Value) (a1 : Option Addr) (cap1 m n : Nat) (ss : List (List UInt8)) (W0 w : World) (hS : Small ss) (hl : ss.length ≤ 20) (hm : m ≤ ss.length) (hn : n ≤ m) (hA : Strs w a1 cap1 ss) (hB : Below W0.heap.size W0 w) (K : Act → World → Prop)
    (hK : ∀ a w, Code.wp Try.prog (tailIn Try.f11 6) (bodyPost Try.prog Try.f11 (fun e w' => e = .returned (.bool true) ∧ Below W0.heap.size W0 w')) a w → K a w) :
    Code.wp Try.prog (regionIn Try.f11 5) (Exit.then K (bodyPost Try.prog Try.f11 (fun e w' => e = .returned (.bool true) ∧ Below W0.heap.size W0 w'))) ⟨(u0 :: u1 :: u2 :: u3 :: u4 :: u5 :: u6 :: (.bool true) :: (.slice a1 ss.length cap1) :: (.int .i64 (m : Int)) :: (.int .i64 (n : Int)) :: u11 :: u12 :: u13 :: u14 :: u15 :: u16 :: u17 :: u18 :: u19 :: u20 :: u21 :: u22 :: u23 :: u24 :: u25 :: u26 :: u27 :: u28 :: u29 :: u30 :: u31 :: u32 :: u33 :: u34 :: u35 :: u36 :: u37 :: u38 :: u39 :: u40 :: u41 :: u42 :: u43 :: u44 :: u45 :: u46 :: u47 :: u48 :: u49 :: u50 :: u51 :: u52 :: u53 :: u54 :: u55 :: u56 :: u57 :: u58 :: u59 :: u60 :: u61 :: u62 :: u63 :: u64 :: u65 :: u66 :: u67 :: u68 :: u69 :: u70 :: u71 :: u72 :: u73 :: u74 :: u75 :: u76 :: u77 :: u78 :: u79 :: u80 :: u81 :: u82 :: u83 :: u84 :: u85 :: u86 :: u87 :: u88 :: u89 :: u90 :: u91 :: u92 :: u93 :: u94 :: u95 :: u96 :: u97 :: u98 :: u99 :: u100 :: u101 :: u102 :: u103 :: u104 :: u105 :: u106 :: u107 :: u108 :: u109 :: u110 :: u111 :: u112 :: u113 :: u114 :: u115 :: u116 :: u117 :: u118 :: u119 :: u120 :: u121 :: u122 :: u123 :: u124 :: u125 :: u126 :: u127 :: u128 :: u129 :: u130 :: u131 :: u132 :: u133 :: u134 :: u135 :: u136 :: u137 :: u138 :: u139 :: u140 :: u141 :: u142 :: u143 :: u144 :: u145 :: u146 :: u147 :: u148 :: u149 :: u150 :: u151 :: u152 :: u153 :: u154 :: u155 :: u156 :: u157 :: u158 :: u159 :: u160 :: u161 :: u162 :: u163 :: u164 :: u165 :: u166 :: u167 :: []).toArray, []⟩ w := by
  have hlk : (ss.take m).length = m := by rw [List.length_take]; omega
  have g8 : (growth (ss.take m) (n : Nat)).2 = true := (growth_ok (ss.take m) n (by omega)).1
  have g9 : (growth ss (m : Nat)).2 = true := (growth_ok ss m hm).1
  have g10 : (growth ss (n : Nat)).2 = true := (growth_ok ss n (by omega)).1
  have G8 := Lib.hid g8
  have G9 := Lib.hid g9
  have G10 := Lib.hid g10
  clear g8 g9 g10 hlk
  refine tw_r5 _ _ _ _ _ _ _ _ _ _ _ _ _ _ _ _ _ _ _ _ _ _ _ _ _ _ _ _ _ _ _ _ _ _ _ _ _ _ _ _ _ _ _ _ _ _ _ _ _ _ _ _ _ _ _ _ _ _ _ _ _ _ _ _ _ _ _ _ _ _ _ _ _ _ _ _ _ _ _ _ _ _ _ _ _ _ _ _ _ _ _ _ _ _ _ _ _ _ _ _ _ _ _ _ _ _ _ _ _ _ _ _ _ _ _ _ _ _ _ _ _ _ _ _ _ _ _ _ _ _ _ _ _ _ _ _ _ _ _ _ _ _ _ _ _ _ _ _ _ _ _ _ _ _ _ _ _ _ _ _ _ _ _ _ a1 cap1 m n ss w hS hA (by omega) _ ?_
  intro y38 y39 y40 y41 y42 y43 b1 w1 N1 hb
  have hB := hB.trans (hb.mono hB.size)
  have hA := hA.below hb
  clear hb
  refine hK _ _ ?_
  conv => arg 2; whnf
  go_upto_region 6 with (fail)
  refine tw_r6 _ _ _ _ _ _ _ _ _ _ _ _ _ _ _ _ _ _ _ _ _ _ _ _ _ _ _ _ _ _ _ _ _ _ _ _ _ _ _ _ _ _ _ _ _ _ _ _ _ _ _ _ _ _ _ _ _ _ _ _ _ _ _ _ _ _ _ _ _ _ _ _ _ _ _ _ _ _ _ _ _ _ _ _ _ _ _ _ _ _ _ _ _ _ _ _ _ _ _ _ _ _ _ _ _ _ _ _ _ _ _ _ _ _ _ _ _ _ _ _ _ _ _ _ _ _ _ _ _ _ _ _ _ _ _ _ _ _ _ _ _ _ _ _ _ _ _ _ _ _ _ _ _ _ _ _ _ _ _ _ _ _ _ _ a1 cap1 m n ss w1 hS hA hm _ ?_
  intro y44 y45 y46 y47 y48 y49 b2 w2 N2 hb
  have hB := hB.trans (hb.mono hB.size)
  have hA := hA.below hb
  have N1 := N1.below hb N1.lt
  clear hb
  go_upto_region 7 with (fail)
  refine tw_r7 _ _ _ _ _ _ _ _ _ _ _ _ _ _ _ _ _ _ _ _ _ _ _ _ _ _ _ _ _ _ _ _ _ _ _ _ _ _ _ _ _ _ _ _ _ _ _ _ _ _ _ _ _ _ _ _ _ _ _ _ _ _ _ _ _ _ _ _ _ _ _ _ _ _ _ _ _ _ _ _ _ _ _ _ _ _ _ _ _ _ _ _ _ _ _ _ _ _ _ _ _ _ _ _ _ _ _ _ _ _ _ _ _ _ _ _ _ _ _ _ _ _ _ _ _ _ _ _ _ _ _ _ _ _ _ _ _ _ _ _ _ _ _ _ _ _ _ _ _ _ _ _ _ _ _ _ _ _ _ _ _ _ _ _ a1 cap1 m n ss w2 hS hA _ ?_
  intro y50 y51 y52 y53 y54 b3 w3 N3 hb
  have hB := hB.trans (hb.mono hB.size)
  have hA := hA.below hb
  have N1 := N1.below hb N1.lt
  have N2 := N2.below hb N2.lt
  clear hb
  go_upto_region 8 with (fail)
  refine tw_r8 _ _ _ _ _ _ _ _ _ _ _ _ _ _ _ _ _ _ _ _ _ _ _ _ _ _ _ _ _ _ _ _ _ _ _ _ _ _ _ _ _ _ _ _ _ _ _ _ _ _ _ _ _ _ _ _ _ _ _ _ _ _ _ _ _ _ _ _ _ _ _ _ _ _ _ _ _ _ _ _ _ _ _ _ _ _ _ _ _ _ _ _ _ _ _ _ _ _ _ _ _ _ _ _ _ _ _ _ _ _ _ _ _ _ _ _ _ _ _ _ _ _ _ _ _ _ _ _ _ _ _ _ _ _ _ _ _ _ _ _ _ _ _ _ _ _ _ _ _ _ _ _ _ _ _ _ _ _ _ _ _ _ _ _ a1 cap1 m n ss _ w3 hA hm (G8.out ▸ Growth_q (ss.take m) n (.slice a1 m cap1) w3 (hS.take m) (hA.take m hm)) _ ?_
  intro y55 y56 y57 y58 y59 y60 y61 y62 v1 w4 V1 hb
  have hB := hB.trans (hb.mono hB.size)
  have hA := hA.below hb
  have N1 := N1.below hb N1.lt
  have N2 := N2.below hb N2.lt
  have N3 := N3.below hb N3.lt
  clear hb
  go_upto_region 9 with (fail)
  refine tw_r9 _ _ _ _ _ _ _ _ _ _ _ _ _ _ _ _ _ _ _ _ _ _ _ _ _ _ _ _ _ _ _ _ _ _ _ _ _ _ _ _ _ _ _ _ _ _ _ _ _ _ _ _ _ _ _ _ _ _ _ _ _ _ _ _ _ _ _ _ _ _ _ _ _ _ _ _ _ _ _ _ _ _ _ _ _ _ _ _ _ _ _ _ _ _ _ _ _ _ _ _ _ _ _ _ _ _ _ _ _ _ _ _ _ _ _ _ _ _ _ _ _ _ _ _ _ _ _ _ _ _ _ _ _ _ _ _ _ _ _ _ _ _ _ _ _ _ _ _ _ _ _ _ _ _ _ _ _ _ _ _ _ _ _ _ a1 cap1 m n ss _ w4 hA (G9.out ▸ Growth_q ss m _ w4 hS hA.arg) _ ?_
  intro y63 y64 y65 y66 y67 y68 v2 w5 V2 hb
  have hB := hB.trans (hb.mono hB.size)
  have hA := hA.below hb
  have N1 := N1.below hb N1.lt
  have N2 := N2.below hb N2.lt
  have N3 := N3.below hb N3.lt
  have V1 := V1.below hb
  clear hb
  go_upto_region 10 with (fail)
  refine tw_r10 _ _ _ _ _ _ _ _ _ _ _ _ _ _ _ _ _ _ _ _ _ _ _ _ _ _ _ _ _ _ _ _ _ _ _ _ _ _ _ _ _ _ _ _ _ _ _ _ _ _ _ _ _ _ _ _ _ _ _ _ _ _ _ _ _ _ _ _ _ _ _ _ _ _ _ _ _ _ _ _ _ _ _ _ _ _ _ _ _ _ _ _ _ _ _ _ _ _ _ _ _ _ _ _ _ _ _ _ _ _ _ _ _ _ _ _ _ _ _ _ _ _ _ _ _ _ _ _ _ _ _ _ _ _ _ _ _ _ _ _ _ _ _ _ _ _ _ _ _ _ _ _ _ _ _ _ _ _ _ _ _ _ _ _ a1 cap1 m n ss _ w5 hA (G10.out ▸ Growth_q ss n _ w5 hS hA.arg) _ ?_
  intro y69 y70 y71 y72 y73 y74 v3 w6 V3 hb
  have hB := hB.trans (hb.mono hB.size)
  have hA := hA.below hb
  have N1 := N1.below hb N1.lt
  have N2 := N2.below hb N2.lt
  have N3 := N3.below hb N3.lt
  have V1 := V1.below hb
  have V2 := V2.below hb
  clear hb
  have hK9 := ‹∀ (a : Act) (w : World), Code.wp Try.prog _ _ a w → _›
  refine hK9 _ _ ?_
  exact tw_t11 _ _ _ _ _ _ _ _ _ _ _ _ _ _ _ _ _ _ _ _ _ _ _ _ _ _ _ _ _ _ _ _ _ _ _ _ _ _ _ _ _ _ _ _ _ _ _ _ _ _ _ _ _ _ _ _ _ _ _ _ _ _ _ _ _ _ _ _ _ _ _ _ _ _ _ _ _ _ _ _ _ _ _ _ _ _ _ _ _ _ _ _ _ _ _ _ _ _ _ _ _ _ _ _ _ _ _ _ _ _ _ _ _ _ _ _ _ _ _ _ _ _ _ _ _ _ _ _ _ _ _ _ _ _ _ _ _ _ _ _ _ _ _ _ _ _ _ _ _ _ _ _ _ _ _ a1 cap1 m n b1 b2 b3 ss v1 v2 v3 W0 w6 hS hl hm hn N1 N2 N3 V1 V2 V3 hA hB
end Go.Proofs.Ytjekdeikoebmgaa
