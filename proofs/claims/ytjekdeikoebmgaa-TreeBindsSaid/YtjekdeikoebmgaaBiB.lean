/- The loops of TreeBinds. Conditions: sizes. -/
import Derived.Test.YtjekdeikoebmgaaBiA
namespace Go.Proofs.Ytjekdeikoebmgaa
open Go.RowKit Go.Shelf Tr

/-- What an accepted path of another string gives. -/
theorem binds_clash (ss : List (List UInt8)) (k : Nat) (x sk : List UInt8) (p : List (List UInt8)) (hk : ss[k]? = some sk) (ha : All32 p) (hx : x ≠ sk) (h : checkP ss.length (root ss) k x p = true) :
    (way k ss.length).length = p.length ∧ ¬ Free (ins ss ++ ((0 :: x) :: pin (leaf x) (way k ss.length) p)) := by
  have hkl := (List.getElem?_eq_some_iff.1 hk).1
  unfold checkP at h
  rw [if_neg (by omega)] at h
  simp only [Int.toNat_natCast] at h
  by_cases hl : (way k ss.length).length = p.length
  · rw [if_pos hl] at h
    refine ⟨hl, fun hf => hx ?_⟩
    have := binds ss k x p hkl hl ha (by simpa using h) hf
    rw [hk] at this
    injection this with this
    exact this.symm
  · rw [if_neg hl] at h
    cases h
set_option maxRecDepth 100000 in
set_option maxHeartbeats 4000000 in
theorem bi_t6 (u0 u1 u2 u3 u4 u6 u10 u11 u12 u13 u14 u15 u16 u17 u18 u19 u20 u21 u22 u23 u24 u25 u26 u27 u28 u29 u30 u31 u32 u33 u34 u35 u36 u37 u38 u39 u40 u41 u42 u43 u44 u45 u46 u47 u48 u49 u50 u51 u52 u53 u54 u55 u56 u57 u58 u59 u60 u61 u62 u63 u64 u65 u66 u67 u68 u69 u70 u71 u72 u73 u74 u75 u76 u77 u78 u79 u80 u81 u82 u83 u84 u85 u86 u87 u88 u89 u90 u91 u92 u93 u94 u95 u96 u97 u98 u99 u100 u101 u102 u103 u104 u105 u106 u107 u108 u109 : Value) (q0 q1 : Int) (bq g o L cap k m : Nat) (x0 sk sm : List UInt8) (ss : List (List UInt8)) (W0 w : World) (hL : ss.length = L) (hL9 : L ≤ 20) (hc : L ≤ cap) (hk : k < L) (hsk : ss[k]? = some sk) (hm : ((k : Int) + 1) % (L : Int) = (m : Int)) (hml : m < L) (hsm : ss[m]? = some sm) (hS : Small ss) (hs2 : ∀ s ∈ ss, s.length ≤ 1000) (hx0 : x0.length ≤ 140737488354000)
    (NQ : Blk w bq #[S x0, .int .i64 q0, .int .i64 q1] 47) (hA : SAt w g o ss) (hB : Below W0.heap.size W0 w) (K : Act → World → Prop)
    (hK : ∀ a w, Code.wp Try.prog (tailIn Try.f6 6) (bodyPost Try.prog Try.f6 (fun e w' => e = .returned (.bool true) ∧ Below W0.heap.size W0 w')) a w → K a w) :
    Code.wp Try.prog (regionIn Try.f6 6) (Exit.then K (bodyPost Try.prog Try.f6 (fun e w' => e = .returned (.bool true) ∧ Below W0.heap.size W0 w'))) ⟨(u0 :: u1 :: u2 :: u3 :: u4 :: (.pointer (some ⟨bq, 0, none⟩)) :: u6 :: (.bool true) :: (.slice (some ⟨g, o, none⟩) L cap) :: (.int .i64 (k : Int)) :: u10 :: u11 :: u12 :: u13 :: u14 :: u15 :: u16 :: u17 :: u18 :: u19 :: u20 :: u21 :: u22 :: u23 :: u24 :: u25 :: u26 :: u27 :: u28 :: u29 :: u30 :: u31 :: u32 :: u33 :: u34 :: u35 :: u36 :: u37 :: u38 :: u39 :: u40 :: u41 :: u42 :: u43 :: u44 :: u45 :: u46 :: u47 :: u48 :: u49 :: u50 :: u51 :: u52 :: u53 :: u54 :: u55 :: u56 :: u57 :: u58 :: u59 :: u60 :: u61 :: u62 :: u63 :: u64 :: u65 :: u66 :: u67 :: u68 :: u69 :: u70 :: u71 :: u72 :: u73 :: u74 :: u75 :: u76 :: u77 :: u78 :: u79 :: u80 :: u81 :: u82 :: u83 :: u84 :: u85 :: u86 :: u87 :: u88 :: u89 :: u90 :: u91 :: u92 :: u93 :: u94 :: u95 :: u96 :: u97 :: u98 :: u99 :: u100 :: u101 :: u102 :: u103 :: u104 :: u105 :: u106 :: u107 :: u108 :: u109 :: []).toArray, []⟩ w := by
  have HKK := Lib.hid hK
  have hAS : ∀ w', Below w.heap.size w w' → SArg w' (.slice (some ⟨g, o, none⟩) L cap) ss := fun w' hb => SArg.of hL hc (hA.below hb)
  have HPQ := Lib.hid (RPath_q ss (k : Int) (.slice (some ⟨g, o, none⟩) L cap) w hS (hAS w (Below.refl _ _)))
  have hpa := pathQ_all ss (k : Int)
  have hpl := pathQ_len ss (k : Int)
  rw [hL] at hpl
  generalize (pathQ ss (k : Int)).1 = p at *
  generalize (pathQ ss (k : Int)).2 = pb at *
  have HHD := Lib.hid (fun w' (hb : Below w.heap.size w w') => hL ▸ HeadOf_any ss (.slice (some ⟨g, o, none⟩) L cap) w' hS (hAS w' hb))
  have HAS := Lib.hid hAS
  have HSA := Lib.hid hA
  have HCL := Lib.hid (fun (x : List UInt8) (p : List (List UInt8)) (ha : All32 p) (hx : x ≠ sk) (h : checkP L (root ss) k x p = true) => (by have := binds_clash ss k x sk p hsk ha hx (by rw [hL]; exact h); rwa [hL] at this : (way k L).length = p.length ∧ ¬ Free (ins ss ++ ((0 :: x) :: pin (leaf x) (way k L) p))))
  have HIS := Lib.hid (ins_small ss hs2)
  have HIL := Lib.hid (hL ▸ ins_len ss)
  have hsk9 := hs2 sk (List.mem_of_getElem? hsk)
  have hsm9 := hs2 sm (List.mem_of_getElem? hsm)
  have r32 := root_length ss
  have HLL := Lib.hid hL
  have HSK := Lib.hid hsk
  have HSM := Lib.hid hsm
  have HNQ := Lib.hid NQ
  clear hK hA hAS hsk hsm hL
  conv => arg 2; whnf
  go_wp2_with fail
  refine HPQ.out.mono ?_; rintro e w1 ⟨v10, rfl, hO, hb1⟩
  have HP1 := hO.arg
  have hB1 := hB.trans (hb1.mono hB.size)
  have NQ1 := HNQ.out.below hb1 HNQ.out.lt
  clear hO HPQ hB
  go_wp2_with fail
  refine HKK.out _ _ ?_
  clear HKK
  conv => arg 2; whnf
  have cq1 := NQ1.cell 1 _ rfl
  have cq2 := NQ1.cell 2 _ rfl
  have HBT := Lib.hid (Bent_any p q0 q1 v10 w1 HP1 hpa (by omega))
  have HPR := Lib.hid HP1
  clear HP1
  go_wp2_with fail
  refine HBT.out.mono ?_; rintro e w2 ⟨v52, p7, rfl, HP7, ha7, hl7, hb2⟩
  clear HBT cq1 cq2
  have hb2' := hb1.trans (hb2.mono hb1.size)
  have hB2 := hB1.trans (hb2.mono hB1.size)
  have HP2 := HPR.out.below hb2
  have sA : ∃ x n c, v10 = .slice x n c := by obtain ⟨a, c, h, _⟩ := HP2; exact ⟨_, _, _, h⟩
  have sB : ∃ x n c, v52 = .slice x n c := by obtain ⟨a, c, h, _⟩ := HP7; exact ⟨_, _, _, h⟩
  have HBL := Lib.hid (two_lists w2 v10 v52 sA sB)
  have b3 := (Below.refl w2.heap.size w2).alloc (Nat.le_refl _) (.cells #[v10, v52] 32)
  have hb3 := hb2'.trans (b3.mono hb2'.size)
  have hB3 := hB2.trans (b3.mono hB2.size)
  have NP := Blk.new w2 #[v10, v52] 32
  have HP3 := Lib.hid (HP2.below b3)
  have HP73 := Lib.hid (HP7.below b3)
  clear HPR HP2 HP7 sA sB hb1 hb2 hb2' b3 hB1 hB2 NQ1
  go_wp2_with (refine wpList_build_run rfl 44 2 #[(0, .tmp 45), (1, .tmp 52)] rfl #[(0, v10), (1, v52)] rfl _ _ HBL.out ?_)
  clear HBL
  generalize w2.alloc (.cells #[v10, v52] 32) = w3 at *
  generalize w2.heap.size = bP at *
  go_loopw [55] (fun i wr => ∃ j : Nat, j ≤ 2 ∧ i = .int .i64 j ∧ Below w3.heap.size w3 wr ∧ Below w.heap.size w wr ∧ Below W0.heap.size W0 wr) (fun i _ => 2 - (intOf i).toNat)
  case atStart => exact ⟨0, by omega, rfl, Below.refl _ _, hb3, hB3⟩
  case round =>
    clear hb3 hB3
    obtain ⟨j, hj, rfl, h3, hb, hB⟩ := hrel
    by_cases hlt : j < 2
    · obtain ⟨vj, pj, hvj, HPj, haj, hlj⟩ : ∃ (vj : Value) (pj : List (List UInt8)), (#[v10, v52] : Array Value)[j]? = some vj ∧ HArg wr vj pj ∧ All32 pj ∧ pj.length ≤ 50 := by
        have h01 : j = 0 ∨ j = 1 := by omega
        rcases h01 with rfl | rfl
        · exact ⟨v10, p, rfl, HP3.out.below h3, hpa, by omega⟩
        · exact ⟨v52, p7, rfl, HP73.out.below h3, ha7, by omega⟩
      have cP := (NP.below h3 NP.lt).cell j _ hvj
      have t1 : (j : Int) < 2 := by omega
      have HPJ := Lib.hid HPj
      have NQr := HNQ.out.below hb HNQ.out.lt
      have c0 := Lib.hid (NQr.cell 0 _ rfl)
      have cy := Lib.hid (keepCells hb _ _ (HSA.out k sk HSK.out))
      have cz := Lib.hid (keepCells hb _ _ (HSA.out m sm HSM.out))
      clear hvj HPj NQr
      go_upto_region 10 with (fail)
      refine bi_r10 _ _ _ _ _ _ _ _ _ _ _ _ _ _ _ _ _ _ _ _ _ _ _ _ _ _ _ _ _ _ _ _ _ _ _ _ _ _ _ _ _ _ _ _ _ _ _ _ _ _ _ _ _ _ _ _ _ _ _ _ _ _ _ _ _ _ _ _ _ _ _ _ _ _ _ _ _ _ _ _ _ _ _ _ _ _ _ _ _ _ _ _ _ _ _ _ _ _ _ _ _ _ _ _ _ _ _ bq g o L cap k m x0 sk sm w wr hk (by omega) hm hml c0.out cy.out cz.out hb _ ?_
      intro y59 y60 y61 y62 y63 y64 y65 y66 y67 y68 y69 y70 y71 y72 bs w4 NS h4 hb4
      have h34 := h3.trans (h4.mono h3.size)
      have hB4 := hB.trans (h4.mono hB.size)
      have HPJ4 := Lib.hid (HPJ.out.below h4)
      clear c0 cy cz cP HPJ h3 hb hB h4
      go_wp2_with fail
      go_loopw [75] (fun i wr => ∃ i' : Nat, i' ≤ 3 ∧ i = .int .i64 i' ∧ Below w4.heap.size w4 wr ∧ Below w3.heap.size w3 wr ∧ Below w.heap.size w wr ∧ Below W0.heap.size W0 wr) (fun i _ => 3 - (intOf i).toNat)
      case atStart => exact ⟨0, by omega, rfl, Below.refl _ _, h34, hb4, hB4⟩
      case round =>
        clear h34 hb4 hB4
        obtain ⟨i', hi, rfl, h4, h3, hb, hB⟩ := hrel
        by_cases hit : i' < 3
        · obtain ⟨x, hxl, hx⟩ : ∃ x : List UInt8, x.length ≤ 140737488354000 ∧ (#[S x0, S sk, S sm] : Array Value)[i']? = some (S x) := by
            have h01 : i' = 0 ∨ i' = 1 ∨ i' = 2 := by omega
            rcases h01 with rfl | rfl | rfl
            · exact ⟨x0, hx0, rfl⟩
            · exact ⟨sk, by omega, rfl⟩
            · exact ⟨sm, by omega, rfl⟩
          have cS := (NS.below h4 NS.lt).cell i' _ hx
          have t2 : (i' : Int) < 3 := by omega
          have cy := keepCells hb _ _ (HSA.out k sk HSK.out)
          have t3 : (k : Int) < (L : Int) := by omega
          clear hx
          by_cases hxs : x = sk
          · have hxs1 : (x == sk) = true := by simpa using hxs
            have HXS := Lib.hid hxs
            subst hxs
            clear hxs1 HXS
            go_wp2_with fail
            go_roundw
            case rel => exact ⟨i' + 1, by omega, by go_num, h4, h3, hb, hB⟩
            case measure => simp [intOf]; omega
          · have hxs1 : (x == sk) = false := by simpa using hxs
            have HXS := Lib.hid hxs
            have HH := Lib.hid (HHD.out wr hb)
            have HPW := HPJ4.out.below h4
            have HC := Lib.hid (fun w' (hb' : Below wr.heap.size wr w') => CheckPath_q L k (root ss) x pj vj w' r32 hxl haj (by omega) (by omega) (HPW.below hb'))
            obtain ⟨c, hcq⟩ : ∃ c, checkP L (root ss) k x pj = c := ⟨_, rfl⟩
            rw [hcq] at HC
            have HCQ := Lib.hid hcq
            obtain ⟨R, hR⟩ : ∃ R, hdrow (L : Int) (root ss) = R := ⟨_, rfl⟩
            rw [hR] at HC HH
            clear hxs hcq hR
            have HPWH := Lib.hid HPW
            clear HPW
            go_wp2_with fail
            refine HH.out.mono ?_; rintro e w5 ⟨rfl, h5⟩
            go_wp2_with fail
            refine (HC.out w5 h5).mono ?_; rintro e wr6 ⟨rfl, h6⟩
            have h56 := h5.trans (h6.mono h5.size)
            have h4 := h4.trans (h56.mono h4.size)
            have h3 := h3.trans (h56.mono h3.size)
            have hb := hb.trans (h56.mono hb.size)
            have hB := hB.trans (h56.mono hB.size)
            have HPW := HPWH.out.below h56
            clear HH HC cS cy hxs1 h5 h6 h56 HPWH
            cases c
            · go_wp2_with fail
              go_roundw
              case rel => exact ⟨i' + 1, by omega, by go_num, h4, h3, hb, hB⟩
              case measure => simp [intOf]; omega
            · obtain ⟨hwl, hnf⟩ := HCL.out x pj haj HXS.out HCQ.out
              have HNF := Lib.hid hnf
              have HWL := Lib.hid hwl
              have h7 := (Below.refl wr6.heap.size wr6).alloc (Nat.le_refl _) (.cells #[.slice (some ⟨g, o, none⟩) L cap] 22)
              have HBL := Lib.hid (one_list wr6 (.slice (some ⟨g, o, none⟩) L cap) ⟨_, _, _, rfl⟩)
              have NB := Blk.new wr6 #[.slice (some ⟨g, o, none⟩) L cap] 22
              have hb7 := hb.trans (h7.mono hb.size)
              have HIN := Lib.hid (Inside_any wr6.heap.size 1 #[.slice (some ⟨g, o, none⟩) L cap] [ss] (wr6.alloc (.cells #[.slice (some ⟨g, o, none⟩) L cap] 22)) rfl rfl (by omega) (by intro l hl; rw [List.mem_singleton.1 hl, HLL.out]; omega) NB (by intro l hl; rw [List.mem_singleton.1 hl]; exact hS) (fun i v l hv hl => by
                cases i with
                | zero => cases hv; cases hl; exact HAS.out _ hb7
                | succ i => simp at hl))
              have e1 : [ss].flatMap ins = ins ss := by simp
              rw [e1] at HIN
              have h4 := h4.trans (h7.mono h4.size)
              have h3 := h3.trans (h7.mono h3.size)
              have hB := hB.trans (h7.mono hB.size)
              have HPW := Lib.hid (HPW.below h7)
              clear hwl hnf h7 NB e1 hb
              have hb := hb7
              clear hb7
              go_wp2_with (refine wpList_build_run rfl 49 1 #[(0, .tmp 94)] rfl #[(0, .slice (some ⟨g, o, none⟩) L cap)] rfl _ _ HBL.out ?_)
              clear HBL
              generalize wr6.alloc (.cells #[.slice (some ⟨g, o, none⟩) L cap] 22) = w7 at *
              refine HIN.out.mono ?_; rintro e w8 ⟨v96, rfl, hO8, h8⟩
              clear HIN
              have HPW8 := HPW.out.below h8
              have HPI := Lib.hid (PathInside_any k L x pj vj w8 hk (by omega) hxl haj HWL.out (by omega) HPW8)
              have HO8 := Lib.hid hO8
              clear HPW8 hO8
              go_wp2_with fail
              refine HPI.out.mono ?_; rintro e w9 ⟨v102, rfl, hO9, h9⟩
              have hO89 := HO8.out.below h9
              have h79 := h8.trans (h9.mono h8.size)
              have hpn := pin_len (leaf x) (way k L) pj
              obtain ⟨v103, w10, r1, r2, r3, _⟩ := run_append_strs w9 w7.heap.size v96 v102 _ _ hO89 h79.size hO9.sarg (by have := HIL.out; rw [List.length_cons]; omega)
              have h710 := below_of_grown h79 r3 h79.size (fun g hg => hO89.blk g hg)
              have HAP := Lib.hid r1
              have HCY := Lib.hid (Clash_yes _ v103 w10 r2.sarg (fun z hz => by
                rcases List.mem_append.1 hz with hz | hz
                · exact HIS.out z hz
                · rcases List.mem_cons.1 hz with rfl | hz
                  · rw [List.length_cons]; omega
                  · exact pin_small _ _ _ (leaf_length x) haj z hz) (by rw [List.length_append, List.length_cons]; have := HIL.out; omega) HNF.out)
              have h4 := h4.trans (h710.mono h4.size)
              have h3 := h3.trans (h710.mono h3.size)
              have hb := hb.trans (h710.mono hb.size)
              have hB := hB.trans (h710.mono hB.size)
              clear HPI hO9 h9 hO89 h79 hpn r1 r2 r3 h710 HO8 h8 HPW
              go_wp2_with (at_builtin; refine Lib.wpList_append_run _ rfl (.tmp 96) (.tmp 102) 22 22 rfl _ _ rfl rfl _ _ HAP.out ?_)
              refine HCY.out.mono ?_; rintro e w11 ⟨rfl, h11⟩
              have h4 := h4.trans (h11.mono h4.size)
              have h3 := h3.trans (h11.mono h3.size)
              have hb := hb.trans (h11.mono hb.size)
              have hB := hB.trans (h11.mono hB.size)
              clear HAP HCY h11
              go_wp2_with fail
              go_roundw
              case rel => exact ⟨i' + 1, by omega, by go_num, h4, h3, hb, hB⟩
              case measure => simp [intOf]; omega
        · have t2 : ¬ ((i' : Int) < 3) := by omega
          clear NS HPJ4
          go_wp2_with fail
          go_roundw
          case rel => exact ⟨j + 1, by omega, by go_num, h3, hb, hB⟩
          case measure => simp [intOf]; omega
    · have t1 : ¬ ((j : Int) < 2) := by omega
      go_wp2_with fail
      go_ret
      exact ⟨rfl, hB⟩

end Go.Proofs.Ytjekdeikoebmgaa
