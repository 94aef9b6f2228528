/- What an accepted growth gives; region 7 and the tail of TreeExtends. Conditions: sizes. -/
import Derived.Test.YtjekdeikoebmgaaGi
import Derived.Test.YtjekdeikoebmgaaLBnB
namespace Go.Proofs.Ytjekdeikoebmgaa
open Go.RowKit Go.Shelf Tr

theorem two_slices (w : World) (a b : Value) (ha : ∃ x n c, a = .slice x n c) (hb : ∃ x n c, b = .slice x n c) : (Instr.buildSlice 49 2 #[(0, a), (1, b)]).run Try.prog w = .ok (.slice (some ⟨w.heap.size, 0, none⟩) 2 2) (w.alloc (.cells #[a, b] 22)) := by
  obtain ⟨x, n, c, rfl⟩ := ha
  obtain ⟨x', n', c', rfl⟩ := hb
  obtain ⟨i0, hi, hz0, hz1, _⟩ := info_parts infoSS
  exact run_buildSlice w 49 22 2 _ _ i0 _ Try.underlying49 hi hz0 (by rw [hz1]; decide) (by rw [hz1]; decide) (by rw [hz1]; kernel_rfl)
/-- What an accepted growth gives about a list that is no beginning. -/
theorem ext_clash (s t p : List (List UInt8)) (hb : ¬ (t.take s.length = s)) (ha : All32 p) (h : checkG s.length (root s) t.length (root t) p = true) :
    1 ≤ s.length ∧ s.length ≤ t.length ∧ (s.length < t.length → p.length = many s.length t.length true ∧ ¬ Free (ins s ++ ins t ++ gin s.length t.length true (root s) p)) ∧ (¬ s.length < t.length → ¬ Free (ins s ++ ins t)) := by
  have h0 : 1 ≤ s.length := by
    rcases Nat.lt_or_ge 0 s.length with h | h
    · exact h
    · obtain rfl : s = [] := List.length_eq_zero_iff.1 (by omega)
      exact absurd (by simp) hb
  unfold checkG at h
  by_cases h1 : (s.length : Int) < 0 ∨ (t.length : Int) < s.length
  · rw [if_pos h1] at h; cases h
  rw [if_neg h1] at h
  by_cases h2 : (s.length : Int) = t.length
  · rw [if_pos h2] at h
    refine ⟨h0, by omega, fun h3 => by omega, fun _ hf => hb ?_⟩
    rw [Bool.and_eq_true] at h
    have e := root_inj s t (by omega) (by simpa using h.2) hf
    rw [show s.length = t.length by omega, List.take_length]
    exact e.symm
  rw [if_neg h2, if_neg (by omega)] at h
  simp only [Int.toNat_natCast] at h
  by_cases h3 : p.length = many s.length t.length true
  · rw [if_pos h3, Bool.and_eq_true] at h
    refine ⟨h0, by omega, fun _ => ⟨h3, fun hf => hb ?_⟩, fun h4 => absurd (show s.length < t.length by omega) h4⟩
    refine extends_ t.length s t true (root s) p rfl h0 (by omega) (root_length _) ha h3 ?_ hf
    exact Prod.ext (by simpa using h.1) (by simpa using h.2)
  · rw [if_neg h3] at h; cases h
theorem growth_no (t : List (List UInt8)) (n : Nat) (h : (growth t (n : Int)).2 = false) : t.length < n := by
  rcases Nat.lt_or_ge t.length n with h1 | h1
  · exact h1
  · have := (growth_ok t n h1).1
    rw [h] at this; cases this
set_option maxRecDepth 100000 in
set_option maxHeartbeats 2000000 in
theorem ex_r7 (u0 u1 u2 u3 u4 u5 u6 u7 u10 u12 u13 u14 u15 u16 u17 u18 u19 u20 u21 u22 u23 u24 u25 u26 u27 u28 u29 u30 u31 u32 u33 u34 u35 u36 u37 u38 u39 u40 u41 u42 u43 u44 u45 u46 u47 u48 u49 u50 u51 u52 u53 u54 u55 u56 u57 u58 u59 u60 u61 u62 u63 u64 u65 u66 u67 u68 u69 u70 u71 u72 u73 u74 u75 u76 u77 u78 u79 u80 u81 u82 u83 u84 u85 u86 u87 u88 u89 u90 u91 u92 u93 u94 u95 u96 u97 u98 u99 u100 u101 u102 u103 u104 u105 u106 u107 u108 u109 u110 u111 u112 u113 u114 : Value) (g1 o1 n1 c1 g2 o2 n2 c2 k : Nat) (x y : List UInt8) (w : World) (k1 : k < n1) (k2 : k < n2) (h1 : w.cell? ⟨g1, o1 + k, none⟩ = some (S x)) (h2 : w.cell? ⟨g2, o2 + k, none⟩ = some (S y))
    (Q : Exit → Act → World → Prop) (h : ∀ (y38 y39 y40 y41 y42 y43 y44 y45 y46 : Value) (w' : World), Below w.heap.size w w' → Q .normal ⟨(u0 :: u1 :: u2 :: u3 :: u4 :: u5 :: u6 :: u7 :: (.slice (some ⟨g1, o1, none⟩) n1 c1) :: (.slice (some ⟨g2, o2, none⟩) n2 c2) :: (.bool (x == y)) :: (.int .i64 (k : Int)) :: u12 :: u13 :: u14 :: u15 :: u16 :: u17 :: u18 :: u19 :: u20 :: u21 :: u22 :: u23 :: u24 :: u25 :: u26 :: u27 :: u28 :: u29 :: u30 :: u31 :: u32 :: u33 :: u34 :: u35 :: u36 :: u37 :: y38 :: y39 :: y40 :: y41 :: y42 :: y43 :: y44 :: y45 :: y46 :: u47 :: u48 :: u49 :: u50 :: u51 :: u52 :: u53 :: u54 :: u55 :: u56 :: u57 :: u58 :: u59 :: u60 :: u61 :: u62 :: u63 :: u64 :: u65 :: u66 :: u67 :: u68 :: u69 :: u70 :: u71 :: u72 :: u73 :: u74 :: u75 :: u76 :: u77 :: u78 :: u79 :: u80 :: u81 :: u82 :: u83 :: u84 :: u85 :: u86 :: u87 :: u88 :: u89 :: u90 :: u91 :: u92 :: u93 :: u94 :: u95 :: u96 :: u97 :: u98 :: u99 :: u100 :: u101 :: u102 :: u103 :: u104 :: u105 :: u106 :: u107 :: u108 :: u109 :: u110 :: u111 :: u112 :: u113 :: u114 :: []).toArray, []⟩ w') : Code.wp Try.prog (regionIn Try.f9 7) Q ⟨(u0 :: u1 :: u2 :: u3 :: u4 :: u5 :: u6 :: u7 :: (.slice (some ⟨g1, o1, none⟩) n1 c1) :: (.slice (some ⟨g2, o2, none⟩) n2 c2) :: u10 :: (.int .i64 (k : Int)) :: u12 :: u13 :: u14 :: u15 :: u16 :: u17 :: u18 :: u19 :: u20 :: u21 :: u22 :: u23 :: u24 :: u25 :: u26 :: u27 :: u28 :: u29 :: u30 :: u31 :: u32 :: u33 :: u34 :: u35 :: u36 :: u37 :: u38 :: u39 :: u40 :: u41 :: u42 :: u43 :: u44 :: u45 :: u46 :: u47 :: u48 :: u49 :: u50 :: u51 :: u52 :: u53 :: u54 :: u55 :: u56 :: u57 :: u58 :: u59 :: u60 :: u61 :: u62 :: u63 :: u64 :: u65 :: u66 :: u67 :: u68 :: u69 :: u70 :: u71 :: u72 :: u73 :: u74 :: u75 :: u76 :: u77 :: u78 :: u79 :: u80 :: u81 :: u82 :: u83 :: u84 :: u85 :: u86 :: u87 :: u88 :: u89 :: u90 :: u91 :: u92 :: u93 :: u94 :: u95 :: u96 :: u97 :: u98 :: u99 :: u100 :: u101 :: u102 :: u103 :: u104 :: u105 :: u106 :: u107 :: u108 :: u109 :: u110 :: u111 :: u112 :: u113 :: u114 :: []).toArray, []⟩ w := by
  have HX := Lib.hid h
  have f1 := After.cell h1
  have f2 := After.cell h2
  have t1 : (k : Int) < (n1 : Int) := by omega
  have t2 : (k : Int) < (n2 : Int) := by omega
  clear h h1 h2
  conv => arg 2; whnf
  refine wp_region_after (by kernel_rfl) (by kernel_rfl) ?_
  repeat (go_big_quiet_step (fail))
  refine wpQuiet_nil ?_
  rintro w5 ⟨x5, rfl⟩
  exact HX.out _ _ _ _ _ _ _ _ _ _ x5.hb

set_option maxRecDepth 100000 in
set_option maxHeartbeats 4000000 in
theorem ex_t9 (u0 u1 u2 u3 u4 u6 u11 u14 u15 u16 u17 u18 u19 u20 u21 u22 u23 u24 u25 u26 u27 u28 u29 u30 u31 u32 u33 u34 u35 u36 u37 u38 u39 u40 u41 u42 u43 u44 u45 u46 u47 u48 u49 u50 u51 u52 u53 u54 u55 u56 u57 u58 u59 u60 u61 u62 u63 u64 u65 u66 u67 u68 u69 u70 u71 u72 u73 u74 u75 u76 u77 u78 u79 u80 u81 u82 u83 u84 u85 u86 u87 u88 u89 u90 u91 u92 u93 u94 u95 u96 u97 u98 u99 u100 u101 u102 u103 u104 u105 u106 u107 u108 u109 u110 u111 u112 u113 u114 : Value) (q0 q1 : Int) (bq b12 b13 n m c1 c2 : Nat) (a1 a2 : Option Addr) (bg : Bool) (ss tt : List (List UInt8)) (W0 w : World) (hn : ss.length = n) (hm : tt.length = m) (hn9 : n ≤ 20) (hm9 : m ≤ 20) (hSs : Small ss) (hSt : Small tt) (hs2 : ∀ s ∈ ss, s.length ≤ 1000) (ht2 : ∀ s ∈ tt, s.length ≤ 1000)
    (hbg : bg = false → ¬ (tt.take n = ss)) (hA1 : SArg w (.slice a1 n c1) ss) (hA2 : SArg w (.slice a2 m c2) tt) (NQ : Blk w bq #[.int .i64 q0, .int .i64 q1] 43) (N12 : Blk w b12 (hdrow (n : Int) (root ss)) 38) (N13 : Blk w b13 (hdrow (m : Int) (root tt)) 38) (hB : Below W0.heap.size W0 w) (K : Act → World → Prop)
    (hK : ∀ a w, Code.wp Try.prog (tailIn Try.f9 7) (bodyPost Try.prog Try.f9 (fun e w' => e = .returned (.bool true) ∧ Below W0.heap.size W0 w')) a w → K a w) :
    Code.wp Try.prog (regionIn Try.f9 9) (Exit.then K (bodyPost Try.prog Try.f9 (fun e w' => e = .returned (.bool true) ∧ Below W0.heap.size W0 w'))) ⟨(u0 :: u1 :: u2 :: u3 :: u4 :: (.pointer (some ⟨bq, 0, none⟩)) :: u6 :: (.bool true) :: (.slice a1 n c1) :: (.slice a2 m c2) :: (.bool bg) :: u11 :: (.pointer (some ⟨b12, 0, none⟩)) :: (.pointer (some ⟨b13, 0, none⟩)) :: u14 :: u15 :: u16 :: u17 :: u18 :: u19 :: u20 :: u21 :: u22 :: u23 :: u24 :: u25 :: u26 :: u27 :: u28 :: u29 :: u30 :: u31 :: u32 :: u33 :: u34 :: u35 :: u36 :: u37 :: u38 :: u39 :: u40 :: u41 :: u42 :: u43 :: u44 :: u45 :: u46 :: u47 :: u48 :: u49 :: u50 :: u51 :: u52 :: u53 :: u54 :: u55 :: u56 :: u57 :: u58 :: u59 :: u60 :: u61 :: u62 :: u63 :: u64 :: u65 :: u66 :: u67 :: u68 :: u69 :: u70 :: u71 :: u72 :: u73 :: u74 :: u75 :: u76 :: u77 :: u78 :: u79 :: u80 :: u81 :: u82 :: u83 :: u84 :: u85 :: u86 :: u87 :: u88 :: u89 :: u90 :: u91 :: u92 :: u93 :: u94 :: u95 :: u96 :: u97 :: u98 :: u99 :: u100 :: u101 :: u102 :: u103 :: u104 :: u105 :: u106 :: u107 :: u108 :: u109 :: u110 :: u111 :: u112 :: u113 :: u114 :: []).toArray, []⟩ w := by
  have HKK := Lib.hid hK
  have HGR := Lib.hid (hn ▸ RGrowth_q tt (ss.length : Int) (.slice a2 m c2) w hSt hA2)
  have hpa := growth_all tt (n : Int)
  have hpl := growth_len tt (n : Int)
  rw [hm] at hpl
  have HNO := Lib.hid (fun h => hm ▸ growth_no tt n h)
  generalize (growth tt (n : Int)).1 = p at *
  generalize (growth tt (n : Int)).2 = pb at *
  have HA1 := Lib.hid (fun w' (hb : Below w.heap.size w w') => hA1.below hb)
  have HA2 := Lib.hid (fun w' (hb : Below w.heap.size w w') => hA2.below hb)
  have HCL := Lib.hid (fun (p : List (List UInt8)) (ha : All32 p) (hg : bg = false) (h : checkG n (root ss) m (root tt) p = true) => (by have := ext_clash ss tt p (by rw [hn]; exact hbg hg) ha (by rw [hn, hm]; exact h); rwa [hn, hm] at this : 1 ≤ n ∧ n ≤ m ∧ (n < m → p.length = many n m true ∧ ¬ Free (ins ss ++ ins tt ++ gin n m true (root ss) p)) ∧ (¬ n < m → ¬ Free (ins ss ++ ins tt))))
  have HI1 := Lib.hid (ins_small ss hs2)
  have HI2 := Lib.hid (ins_small tt ht2)
  have HL1 := Lib.hid (hn ▸ ins_len ss)
  have HL2 := Lib.hid (hm ▸ ins_len tt)
  have HNN := Lib.hid (And.intro hn hm)
  have r32 := root_length ss
  have s32 := root_length tt
  generalize hr1 : root ss = r1 at *
  generalize hr2 : root tt = r2 at *
  have HRT := Lib.hid (Blk.root N12)
  have I1 := Lib.hid (hinfoD (n : Int) r1 r32)
  have I2 := Lib.hid (hinfoD (m : Int) r2 s32)
  have HCG := Lib.hid (fun (p : List (List UInt8)) (v : Value) (w' : World) (h1 : p.length ≤ 1000) (ha : All32 p) (hv : HArg w' v p) => CheckGrowth_q (n : Int) (m : Int) r1 r2 p v w' r32 s32 (by omega) (by omega) ha hv)
  have HNQ := Lib.hid NQ
  obtain ⟨R1, e1⟩ : ∃ R, hdrow (n : Int) r1 = R := ⟨_, rfl⟩
  obtain ⟨R2, e2⟩ : ∃ R, hdrow (m : Int) r2 = R := ⟨_, rfl⟩
  rw [e1] at N12 I1 HCG
  rw [e2] at N13 I2 HCG
  have HN12 := Lib.hid N12
  have HN13 := Lib.hid N13
  have HPD : Hid (∀ (bb : Bool), bb = pb → pb = false → m < n) := fun _ _ h => HNO.out h
  clear hK hA1 hA2 hn hm hbg NQ N12 N13 e1 e2 hr1 hr2 HNO hs2 ht2
  conv => arg 2; whnf
  go_wp2_with fail
  refine HGR.out.mono ?_; rintro e w1 ⟨v14, rfl, hO, hb1⟩
  have HP1 := Lib.hid hO.arg
  have hB1 := hB.trans (hb1.mono hB.size)
  clear hO HGR hB
  go_wp2_with fail
  refine HKK.out _ _ ?_
  clear HKK
  conv => arg 2; whnf
  cases pb
  · have hmn := HPD.out _ rfl rfl
    have HC0 := Lib.hid (fun w' (hb : Below w1.heap.size w1 w') => HCG.out p v14 w' (by omega) hpa (HP1.out.below hb))
    have hc0 : checkG n r1 m r2 p = false := by unfold checkG; rw [if_pos (by omega)]
    rw [hc0] at HC0
    have L12 := Lib.hid (HN12.out.below hb1 HN12.out.lt)
    have L13 := Lib.hid (HN13.out.below hb1 HN13.out.lt)
    have HC1 := Lib.hid (HC0.out w1 (Below.refl _ _))
    clear HC0 hc0 HCL HPD HI1 HI2 HL1 HL2 HCG
    go_wp2_with (first
        | (refine wpList_load_row_g (by kernel_rfl) 38 (.tmp 12) rfl b12 rfl _ _ _ _ L12.out Try.underlying38 rfl I1.out ?_; go_frame)
        | (refine wpList_load_row_g (by kernel_rfl) 38 (.tmp 13) rfl b13 rfl _ _ _ _ L13.out Try.underlying38 rfl I2.out ?_; go_frame))
    refine HC1.out.mono ?_; rintro e w2 ⟨rfl, hb2⟩
    have hB2 := hB1.trans (hb2.mono hB1.size)
    clear HC1 hb2
    go_wp2_with fail
    go_ret
    exact ⟨rfl, hB2⟩
  · clear HPD
    have NQ1 := HNQ.out.below hb1 HNQ.out.lt
    have cq0 := NQ1.cell 0 _ rfl
    have cq1 := NQ1.cell 1 _ rfl
    have HLQ := Lib.hid NQ1
    have HBT := Lib.hid (Bent_any p q0 q1 v14 w1 HP1.out hpa (by omega))
    go_wp2_with fail
    refine HBT.out.mono ?_; rintro e w2 ⟨v71, p7, rfl, HP7, ha7, hl7, hb2⟩
    clear HBT cq0 cq1 HLQ NQ1
    have hb2' := hb1.trans (hb2.mono hb1.size)
    have hB2 := hB1.trans (hb2.mono hB1.size)
    have HP2 := HP1.out.below hb2
    have sA : ∃ x n c, v14 = .slice x n c := by obtain ⟨a, c, h, _⟩ := HP2; exact ⟨_, _, _, h⟩
    have sB : ∃ x n c, v71 = .slice x n c := by obtain ⟨a, c, h, _⟩ := HP7; exact ⟨_, _, _, h⟩
    have HBL := Lib.hid (two_lists w2 v14 v71 sA sB)
    have b3 := (Below.refl w2.heap.size w2).alloc (Nat.le_refl _) (.cells #[v14, v71] 32)
    have hb3 := hb2'.trans (b3.mono hb2'.size)
    have hB3 := hB2.trans (b3.mono hB2.size)
    have NP := Blk.new w2 #[v14, v71] 32
    have HP3 := Lib.hid (HP2.below b3)
    have HP73 := Lib.hid (HP7.below b3)
    clear HP1 HP2 HP7 sA sB hb1 hb2 hb2' b3 hB1 hB2
    go_wp2_with (refine wpList_build_run rfl 44 2 #[(0, .tmp 68), (1, .tmp 71)] rfl #[(0, v14), (1, v71)] rfl _ _ HBL.out ?_)
    clear HBL
    generalize w2.alloc (.cells #[v14, v71] 32) = w3 at *
    generalize w2.heap.size = bP at *
    go_loopw [74] (fun i wr => ∃ j : Nat, j ≤ 2 ∧ i = .int .i64 j ∧ Below w3.heap.size w3 wr ∧ Below w.heap.size w wr ∧ Below W0.heap.size W0 wr) (fun i _ => 2 - (intOf i).toNat)
    case atStart => exact ⟨0, by omega, rfl, Below.refl _ _, hb3, hB3⟩
    case round =>
      clear hb3 hB3
      obtain ⟨j, hj, rfl, h3, hw, hB⟩ := hrel
      by_cases hlt : j < 2
      · obtain ⟨vj, pj, hvj, HPj, haj, hlj⟩ : ∃ (vj : Value) (pj : List (List UInt8)), (#[v14, v71] : Array Value)[j]? = some vj ∧ HArg wr vj pj ∧ All32 pj ∧ pj.length ≤ 50 := by
          have h01 : j = 0 ∨ j = 1 := by omega
          rcases h01 with rfl | rfl
          · exact ⟨v14, p, rfl, HP3.out.below h3, hpa, by omega⟩
          · exact ⟨v71, p7, rfl, HP73.out.below h3, ha7, by omega⟩
        have cP := (NP.below h3 NP.lt).cell j _ hvj
        have t1 : (j : Int) < 2 := by omega
        have HPJ := Lib.hid HPj
        clear hvj HPj
        cases bg
        · have L12 := Lib.hid (HN12.out.below hw HN12.out.lt)
          have L13 := Lib.hid (HN13.out.below hw HN13.out.lt)
          have HC := Lib.hid (HCG.out pj vj wr (by omega) haj HPJ.out)
          obtain ⟨c, hcq⟩ : ∃ c, checkG n r1 m r2 pj = c := ⟨_, rfl⟩
          rw [hcq] at HC
          have HCQ := Lib.hid hcq
          clear hcq
          go_wp2_with (first
        | (refine wpList_load_row_g (by kernel_rfl) 38 (.tmp 12) rfl b12 rfl _ _ _ _ L12.out Try.underlying38 rfl I1.out ?_; go_frame)
        | (refine wpList_load_row_g (by kernel_rfl) 38 (.tmp 13) rfl b13 rfl _ _ _ _ L13.out Try.underlying38 rfl I2.out ?_; go_frame))
          refine HC.out.mono ?_; rintro e wa ⟨rfl, hX⟩
          have h3 := h3.trans (hX.mono h3.size)
          have hw := hw.trans (hX.mono hw.size)
          have hB := hB.trans (hX.mono hB.size)
          have HPW := HPJ.out.below hX
          clear HC L12 L13 hX HPJ cP
          cases c
          · go_wp2_with fail
            go_roundw
            case rel => exact ⟨j + 1, by omega, by go_num, h3, hw, hB⟩
            case measure => simp [intOf]; omega
          · obtain ⟨h0, hnm, hA, hC⟩ := HCL.out pj haj (by first | trivial | rfl) HCQ.out
            have HA := Lib.hid hA
            have HC := Lib.hid hC
            have hX := (Below.refl wa.heap.size wa).alloc (Nat.le_refl _) (.cells #[.slice a1 n c1, .slice a2 m c2] 22)
            have HBL := Lib.hid (two_slices wa (.slice a1 n c1) (.slice a2 m c2) ⟨_, _, _, rfl⟩ ⟨_, _, _, rfl⟩)
            have NB := Blk.new wa #[.slice a1 n c1, .slice a2 m c2] 22
            have h3 := h3.trans (hX.mono h3.size)
            have hw := hw.trans (hX.mono hw.size)
            have hB := hB.trans (hX.mono hB.size)
            have HSL : Hid (∀ l ∈ [ss, tt], l.length ≤ 100) := by
              show ∀ l ∈ [ss, tt], _
              intro l hl
              simp at hl
              rcases hl with rfl | rfl
              · rw [HNN.out.1]; omega
              · rw [HNN.out.2]; omega
            have HSM : Hid (∀ l ∈ [ss, tt], Small l) := by
              show ∀ l ∈ [ss, tt], _
              intro l hl
              simp at hl
              rcases hl with rfl | rfl
              · exact hSs
              · exact hSt
            have HIN := Lib.hid (Inside_any wa.heap.size 2 #[.slice a1 n c1, .slice a2 m c2] [ss, tt] (wa.alloc (.cells #[.slice a1 n c1, .slice a2 m c2] 22)) rfl rfl (by omega) HSL.out NB HSM.out (fun i v l hv hl => by
              match i, hv, hl with
              | 0, hv, hl => cases hv; cases hl; exact HA1.out _ hw
              | 1, hv, hl => cases hv; cases hl; exact HA2.out _ hw))
            have e1 : [ss, tt].flatMap ins = ins ss ++ ins tt := by simp
            rw [e1] at HIN
            have HPW := Lib.hid (HPW.below hX)
            clear hA hC hX NB e1 HSL HSM
            go_wp2_with (refine wpList_build_run rfl 49 2 #[(0, .tmp 86), (1, .tmp 87)] rfl #[(0, .slice a1 n c1), (1, .slice a2 m c2)] rfl _ _ HBL.out ?_)
            clear HBL
            generalize wa.alloc (.cells #[.slice a1 n c1, .slice a2 m c2] 22) = w7 at *
            refine HIN.out.mono ?_; rintro e w8 ⟨v89, rfl, hO8, h8⟩
            clear HIN
            have t4 : (0 : Int) < (n : Int) := by omega
            have t5 : decide ((n : Int) > 0) = true := decide_eq_true t4
            have hw8 := hw.trans (h8.mono hw.size)
            have lA := HL1.out
            have lB := HL2.out
            by_cases hlt2 : n < m
            · have t6 : (n : Int) < (m : Int) := by omega
              obtain ⟨hpm, hnf⟩ := HA.out hlt2
              have HNF := Lib.hid hnf
              obtain ⟨g1, g2⟩ := gin_small m n true r1 pj h0 hnm r32 haj hpm
              have HG2 := Lib.hid g2
              have HGI := Lib.hid (GrowthInside_any m n true r1 pj vj w8 h0 hnm (by omega) r32 haj hpm (HPW.out.below h8))
              have HR8 := Lib.hid (fun j v hv => keepCells hw8 _ _ (HRT.out j v hv) : w8.rangeAt b12 1 (r1.map Y))
              have HO8 := Lib.hid hO8
              clear hnf g2 hO8 hw8 hpm HA HC
              go_wp2_with (refine wpList_load_hashAt (by kernel_rfl) (.tmp 105) rfl b12 1 rfl r1 r32 HR8.out ?_; go_frame)
              refine HGI.out.mono ?_; rintro e w9 ⟨v108, rfl, hO9, h9⟩
              have hO89 := HO8.out.below h9
              have h79 := h8.trans (h9.mono h8.size)
              obtain ⟨v109, w10, r1', r2', r3', _⟩ := run_append_strs w9 w7.heap.size v89 v108 _ _ hO89 h79.size hO9.sarg (by rw [List.length_append]; omega)
              have hX := below_of_grown h79 r3' h79.size (fun g hg => hO89.blk g hg)
              have HAP := Lib.hid r1'
              have HCY := Lib.hid (Clash_yes _ v109 w10 r2'.sarg (fun z hz => by
                rcases List.mem_append.1 hz with hz | hz
                · rcases List.mem_append.1 hz with hz | hz
                  · exact HI1.out z hz
                  · exact HI2.out z hz
                · rw [HG2.out z hz]; omega) (by rw [List.length_append, List.length_append]; omega) HNF.out)
              have h3 := h3.trans (hX.mono h3.size)
              have hw := hw.trans (hX.mono hw.size)
              have hB := hB.trans (hX.mono hB.size)
              clear HGI hO9 h9 hO89 h79 r1' r2' r3' hX HO8 h8 HPW HR8 HG2
              go_wp2_with (at_builtin; refine Lib.wpList_append_run _ rfl (.tmp 100) (.tmp 108) 22 22 rfl _ _ rfl rfl _ _ HAP.out ?_)
              refine HCY.out.mono ?_; rintro e w11 ⟨rfl, h11⟩
              have h3 := h3.trans (h11.mono h3.size)
              have hw := hw.trans (h11.mono hw.size)
              have hB := hB.trans (h11.mono hB.size)
              clear HAP HCY h11
              go_wp2_with fail
              go_roundw
              case rel => exact ⟨j + 1, by omega, by go_num, h3, hw, hB⟩
              case measure => simp [intOf]; omega
            · have t6 : ¬ ((n : Int) < (m : Int)) := by omega
              have HNF := Lib.hid (HC.out hlt2)
              have HCY := Lib.hid (Clash_yes _ v89 w8 hO8.sarg (fun z hz => by
                rcases List.mem_append.1 hz with hz | hz
                · exact HI1.out z hz
                · exact HI2.out z hz) (by rw [List.length_append]; omega) HNF.out)
              have h3 := h3.trans (h8.mono h3.size)
              have hw := hw8
              have hB := hB.trans (h8.mono hB.size)
              clear hO8 HA HC HPW
              go_wp2_with fail
              refine HCY.out.mono ?_; rintro e w11 ⟨rfl, h11⟩
              have h3 := h3.trans (h11.mono h3.size)
              have hw := hw.trans (h11.mono hw.size)
              have hB := hB.trans (h11.mono hB.size)
              clear HCY h11
              go_wp2_with fail
              go_roundw
              case rel => exact ⟨j + 1, by omega, by go_num, h3, hw, hB⟩
              case measure => simp [intOf]; omega
        · go_wp2_with fail
          go_roundw
          case rel => exact ⟨j + 1, by omega, by go_num, h3, hw, hB⟩
          case measure => simp [intOf]; omega
      · have t1 : ¬ ((j : Int) < 2) := by omega
        go_wp2_with fail
        go_ret
        exact ⟨rfl, hB⟩

set_option maxRecDepth 100000 in
set_option maxHeartbeats 4000000 in
theorem ex_t8 (u0 u1 u2 u3 u4 u6 u11 u12 u13 u14 u15 u16 u17 u18 u19 u20 u21 u22 u23 u24 u25 u26 u27 u28 u29 u30 u31 u32 u33 u34 u35 u36 u37 u38 u39 u40 u41 u42 u43 u44 u45 u46 u47 u48 u49 u50 u51 u52 u53 u54 u55 u56 u57 u58 u59 u60 u61 u62 u63 u64 u65 u66 u67 u68 u69 u70 u71 u72 u73 u74 u75 u76 u77 u78 u79 u80 u81 u82 u83 u84 u85 u86 u87 u88 u89 u90 u91 u92 u93 u94 u95 u96 u97 u98 u99 u100 u101 u102 u103 u104 u105 u106 u107 u108 u109 u110 u111 u112 u113 u114 : Value) (q0 q1 : Int) (bq n m c1 c2 : Nat) (a1 a2 : Option Addr) (bg : Bool) (ss tt : List (List UInt8)) (W0 w : World) (hn : ss.length = n) (hm : tt.length = m) (hn9 : n ≤ 20) (hm9 : m ≤ 20) (hSs : Small ss) (hSt : Small tt) (hs2 : ∀ s ∈ ss, s.length ≤ 1000) (ht2 : ∀ s ∈ tt, s.length ≤ 1000)
    (hbg : bg = false → ¬ (tt.take n = ss)) (hA1 : SArg w (.slice a1 n c1) ss) (hA2 : SArg w (.slice a2 m c2) tt) (NQ : Blk w bq #[.int .i64 q0, .int .i64 q1] 43) (hB : Below W0.heap.size W0 w) (K : Act → World → Prop)
    (hK : ∀ a w, Code.wp Try.prog (tailIn Try.f9 6) (bodyPost Try.prog Try.f9 (fun e w' => e = .returned (.bool true) ∧ Below W0.heap.size W0 w')) a w → K a w) :
    Code.wp Try.prog (regionIn Try.f9 8) (Exit.then K (bodyPost Try.prog Try.f9 (fun e w' => e = .returned (.bool true) ∧ Below W0.heap.size W0 w'))) ⟨(u0 :: u1 :: u2 :: u3 :: u4 :: (.pointer (some ⟨bq, 0, none⟩)) :: u6 :: (.bool true) :: (.slice a1 n c1) :: (.slice a2 m c2) :: (.bool bg) :: u11 :: u12 :: u13 :: u14 :: u15 :: u16 :: u17 :: u18 :: u19 :: u20 :: u21 :: u22 :: u23 :: u24 :: u25 :: u26 :: u27 :: u28 :: u29 :: u30 :: u31 :: u32 :: u33 :: u34 :: u35 :: u36 :: u37 :: u38 :: u39 :: u40 :: u41 :: u42 :: u43 :: u44 :: u45 :: u46 :: u47 :: u48 :: u49 :: u50 :: u51 :: u52 :: u53 :: u54 :: u55 :: u56 :: u57 :: u58 :: u59 :: u60 :: u61 :: u62 :: u63 :: u64 :: u65 :: u66 :: u67 :: u68 :: u69 :: u70 :: u71 :: u72 :: u73 :: u74 :: u75 :: u76 :: u77 :: u78 :: u79 :: u80 :: u81 :: u82 :: u83 :: u84 :: u85 :: u86 :: u87 :: u88 :: u89 :: u90 :: u91 :: u92 :: u93 :: u94 :: u95 :: u96 :: u97 :: u98 :: u99 :: u100 :: u101 :: u102 :: u103 :: u104 :: u105 :: u106 :: u107 :: u108 :: u109 :: u110 :: u111 :: u112 :: u113 :: u114 :: []).toArray, []⟩ w := by
  have HKK := Lib.hid hK
  have H1 := Lib.hid (hn ▸ HeadOf_any ss (.slice a1 ss.length c1) w hSs (hn.symm ▸ hA1))
  have H2 := Lib.hid (fun w' (hb : Below w.heap.size w w') => hm ▸ HeadOf_any tt (.slice a2 tt.length c2) w' hSt ((hm.symm ▸ hA2 : SArg w (.slice a2 tt.length c2) tt).below hb))
  have HA1 := Lib.hid hA1
  have HA2 := Lib.hid hA2
  have HNN := Lib.hid (And.intro hn hm)
  have HBG := Lib.hid hbg
  have HS2 := Lib.hid hs2
  have HT2 := Lib.hid ht2
  have OK1 : HdOk (n : Int) (root ss) := ⟨by omega, root_length _⟩
  have OK2 : HdOk (m : Int) (root tt) := ⟨by omega, root_length _⟩
  have HNQ := Lib.hid NQ
  clear hK hA1 hA2 hn hm hbg hs2 ht2 NQ
  obtain ⟨R1, e1⟩ : ∃ R, hdrow (n : Int) (root ss) = R := ⟨_, rfl⟩
  obtain ⟨R2, e2⟩ : ∃ R, hdrow (m : Int) (root tt) = R := ⟨_, rfl⟩
  rw [e1] at H1
  rw [e2] at H2
  have HZ0 := Lib.hid zeroHead
  have hz33 : (hdrow 0 (List.replicate 32 0)).size = 33 := hdrow_size _ hz_len2
  have I1 := Lib.hid (e1 ▸ hinfoD (n : Int) _ OK1.len)
  have I2 := Lib.hid (e2 ▸ hinfoD (m : Int) _ OK2.len)
  have O1 := Lib.hid (e1 ▸ hdrow_one (n : Int) (root ss))
  have O2 := Lib.hid (e2 ▸ hdrow_one (m : Int) (root tt))
  generalize hdrow 0 (List.replicate 32 0) = Z at *
  have Z1 := Lib.hid (show Z.size = R1.size by rw [hz33, ← e1, OK1.size])
  have Z2 := Lib.hid (show Z.size = R2.size by rw [hz33, ← e2, OK2.size])
  have E1 := Lib.hid e1
  have E2 := Lib.hid e2
  clear e1 e2 hz33
  conv => arg 2; whnf
  go_wp2_with fail
  refine H1.out.mono ?_; rintro e w5 ⟨rfl, hb5⟩
  have hB5 := hB.trans (hb5.mono hB.size)
  have H2' := Lib.hid (H2.out w5 hb5)
  clear H1 H2 hB
  go_wp2_with fail
  refine H2'.out.mono ?_; rintro e w6 ⟨rfl, hb6⟩
  have hB6 := hB5.trans (hb6.mono hB5.size)
  have hb6 := hb5.trans (hb6.mono hb5.size)
  have A12 := (Blk.new w6 Z 38).alloc (.cells Z 38)
  have A13 := Blk.new (w6.alloc (.cells Z 38)) Z 38
  rw [World.size_alloc] at A13
  have N12 := Lib.hid (fun w' (h : w' = (w6.alloc (.cells Z 38)).alloc (.cells Z 38)) => (h ▸ A12 : Blk w' w6.heap.size Z 38))
  have N13 := Lib.hid (fun w' (h : w' = ((w6.alloc (.cells Z 38)).alloc (.cells Z 38)).setRow w6.heap.size R1) => (h ▸ A13.rowOther R1 (by omega) : Blk w' (w6.heap.size + 1) Z 38))
  have b7 := Below.setRow (Below.setRow (((Below.refl w6.heap.size w6).alloc (Nat.le_refl _) (.cells Z 38)).alloc (by simp) (.cells Z 38)) (Nat.le_refl _) R1) (show w6.heap.size ≤ w6.heap.size + 1 by omega) R2
  have M12 := Lib.hid ((A12.row R1).rowOther R2 (show w6.heap.size ≠ w6.heap.size + 1 by omega))
  have M13 := Lib.hid ((A13.rowOther R1 (show w6.heap.size + 1 ≠ w6.heap.size by omega)).row R2)
  have HB7 := Lib.hid b7
  clear A12 A13 b7 H2' hb5 hB5
  go_wp2_with (first
    | (refine wpList_alloc_row rfl 38 rfl Z HZ0.out ?_; go_frame; try simp only [World.size_alloc])
    | (refine wpList_store_row rfl 38 (.tmp 12) (.tmp 48) rfl w6.heap.size R1 rfl rfl 38 _ (N12.out _ rfl) I1.out Z1.out O1.out ?_; go_frame)
    | (refine wpList_store_row rfl 38 (.tmp 13) (.tmp 50) rfl (w6.heap.size + 1) R2 rfl rfl 38 _ (N13.out _ rfl) I2.out Z2.out O2.out ?_; go_frame))
  refine HKK.out _ _ ?_
  clear HKK
  conv => arg 2; whnf
  have N12 := M12.out
  have N13 := M13.out
  have b7 := HB7.out
  clear HZ0 I1 I2 O1 O2 Z1 Z2 M12 M13 HB7
  generalize (((w6.alloc (.cells Z 38)).alloc (.cells Z 38)).setRow w6.heap.size R1).setRow (w6.heap.size + 1) R2 = w7 at *
  rw [← E1.out] at N12
  rw [← E2.out] at N13
  clear E1 E2
  have hB7 := hB6.trans (b7.mono hB6.size)
  have hb7 := hb6.trans (b7.mono hb6.size)
  have NQ7 := HNQ.out.below hb7 HNQ.out.lt
  clear b7 hb6 hB6 HNQ
  generalize w6.heap.size = b12 at *
  go_upto_region 9 with (fail)
  have hK9 := ‹∀ (a : Act) (w : World), Code.wp Try.prog _ _ a w → _›
  exact ex_t9 _ _ _ _ _ _ _ _ _ _ _ _ _ _ _ _ _ _ _ _ _ _ _ _ _ _ _ _ _ _ _ _ _ _ _ _ _ _ _ _ _ _ _ _ _ _ _ _ _ _ _ _ _ _ _ _ _ _ _ _ _ _ _ _ _ _ _ _ _ _ _ _ _ _ _ _ _ _ _ _ _ _ _ _ _ _ _ _ _ _ _ _ _ _ _ _ _ _ _ _ _ _ _ _ _ _ _ _ q0 q1 bq b12 (b12 + 1) n m c1 c2 a1 a2 bg ss tt W0 w7 HNN.out.1 HNN.out.2 hn9 hm9 hSs hSt HS2.out HT2.out HBG.out (HA1.out.below hb7) (HA2.out.below hb7) NQ7 N12 N13 hB7 _ hK9

end Go.Proofs.Ytjekdeikoebmgaa
