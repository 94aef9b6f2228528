/- ShareJoins: all lists of as many different shares as there are coefficients are joined to the secret, in any order; for fewer of them, or such that are not in range, Join returns what the reference model returns; no condition. -/
import Derived.Test.YtdnabeldaighgaaPlb
namespace Go.Proofs.Ytdnabeldaighgaa.LJoins
open Go.ChangeShapes Go.WideShapes Go.ChangeAt Go.RowKit Go.Shelf Go.ChangeMaps Shr Pol

set_option maxRecDepth 100000 in
set_option maxHeartbeats 2000000 in
theorem tail9 (u0 u1 u2 u3 u4 u6 u8 u9 u10 u12 u13 u14 u15 u16 u17 u18 u19 u20 u21 u22 u23 u24 u25 u26 u27 u28 u29 u30 u31 u32 u33 u34 u35 u36 u37 u38 u39 u40 u41 u42 u43 u44 u45 u46 u47 u48 u49 u50 u51 u52 u53 u54 u55 u56 u57 u58 u59 u60 u61 u62 u63 u64 u65 u66 u67 u68 u69 u70 u71 u72 u73 u74 u75 u76 u77 u78 u79 u80 u81 u82 u83 u84 u85 u86 u87 u88 u89 u90 u91 u92 u93 u94 u95 u96 u97 u98 u99 u100 u101 u102 u103 u104 u105 u106 u107 u108 u109 u110 u111 u112 u113 u114 u115 u116 u117 u118 u119 u120 u121 u122 : Value) (b5 : Nat) (a5 : Option Addr) (m c5 : Nat) (sm : List (Int × Int)) (q0 q1 q2 : Int) (W0 w : World) (NQ : Blk w b5 #[I q0, I q1, I q2] 47) (hB : Below W0.heap.size W0 w) (HS : Hid (ShArg w (.slice a5 m c5) sm)) (HST : Hid (AllS64 sm ∧ m ≤ 1000 ∧ sm.length = m)) (H64 : Hid (In64 q0 ∧ In64 q1 ∧ In64 q2))
    (J : Hid (∀ (need : Int) (l : List (Int × Int)) (v : Value) (w : World), AllS64 l ∧ l.length ≤ 1001 ∧ ShArg w v l → Calls Try.prog 16 #[.int .i64 need, v] w fun e w' => e = .returned (.tuple #[I (joinS need l).1, .bool (joinS need l).2]) ∧ Below w.heap.size w w'))
    (RJ : Hid (∀ (need : Int) (l : List (Int × Int)) (v : Value) (w : World), AllS64 l ∧ l.length ≤ 1001 ∧ ShArg w v l → Calls Try.prog 28 #[I need, v] w fun e w' => e = .returned (.tuple #[I (joinS need l).1, .bool (joinS need l).2]) ∧ Below w.heap.size w w'))
    (K : Act → World → Prop) (hK : ∀ a w, Code.wp Try.prog (tailIn Try.f8 7) (bodyPost Try.prog Try.f8 (fun e w' => e = .returned (.bool true) ∧ Below W0.heap.size W0 w')) a w → K a w) :
    Code.wp Try.prog (regionIn Try.f8 9) (Exit.then K (bodyPost Try.prog Try.f8 (fun e w' => e = .returned (.bool true) ∧ Below W0.heap.size W0 w'))) ⟨(u0 :: u1 :: u2 :: u3 :: u4 :: (.pointer (some ⟨b5, 0, none⟩)) :: u6 :: (.bool true) :: u8 :: u9 :: u10 :: (.slice a5 m c5) :: u12 :: u13 :: u14 :: u15 :: u16 :: u17 :: u18 :: u19 :: u20 :: u21 :: u22 :: u23 :: u24 :: u25 :: u26 :: u27 :: u28 :: u29 :: u30 :: u31 :: u32 :: u33 :: u34 :: u35 :: u36 :: u37 :: u38 :: u39 :: u40 :: u41 :: u42 :: u43 :: u44 :: u45 :: u46 :: u47 :: u48 :: u49 :: u50 :: u51 :: u52 :: u53 :: u54 :: u55 :: u56 :: u57 :: u58 :: u59 :: u60 :: u61 :: u62 :: u63 :: u64 :: u65 :: u66 :: u67 :: u68 :: u69 :: u70 :: u71 :: u72 :: u73 :: u74 :: u75 :: u76 :: u77 :: u78 :: u79 :: u80 :: u81 :: u82 :: u83 :: u84 :: u85 :: u86 :: u87 :: u88 :: u89 :: u90 :: u91 :: u92 :: u93 :: u94 :: u95 :: u96 :: u97 :: u98 :: u99 :: u100 :: u101 :: u102 :: u103 :: u104 :: u105 :: u106 :: u107 :: u108 :: u109 :: u110 :: u111 :: u112 :: u113 :: u114 :: u115 :: u116 :: u117 :: u118 :: u119 :: u120 :: u121 :: u122 :: []).toArray, []⟩ w := by
  have HKK := Lib.hid hK
  clear hK
  have c0 := NQ.cell 0 _ rfl
  have c1 := NQ.cell 1 _ rfl
  have hb1 := (Below.refl w.heap.size w).alloc (Nat.le_refl _) (.cells #[I q0, I q1] 33)
  obtain ⟨v', w2, r1, r2, r3, r4⟩ := run_append_shares (w.alloc (.cells #[I q0, I q1] 33)) w.heap.size _ (.slice a5 m c5) [(q0, q1)] sm (OwnSh.one w _ (Nat.le_refl _) q0 q1) hb1.size (HS.out.below hb1) (by have := HST.out; simp; omega)
  have hb2 := below_of_grown hb1 r3 hb1.size (fun g hg => by cases hg; exact Nat.le_refl _)
  have HB1 := Lib.hid (one_share w q0 q1)
  have HAPP := Lib.hid r1
  have HS2 := Lib.hid (HS.out.below hb2)
  have HT2 := Lib.hid r2.sharg
  have hT64 : AllS64 ([(q0, q1)] ++ sm) := fun p hp => by
    rcases List.mem_append.1 hp with hp | hp
    · rw [List.mem_singleton.1 hp]; exact ⟨H64.out.1, H64.out.2.1⟩
    · exact HST.out.1 p hp
  have NQ2 := NQ.below hb2 NQ.lt
  have hB2 := hB.trans (hb2.mono hB.size)
  obtain ⟨st, hst⟩ : ∃ st, [(q0, q1)] ++ sm = st := ⟨_, rfl⟩
  have hstl : st.length ≤ 1001 := by rw [← hst]; have := HST.out; simp; omega
  rw [hst] at HT2 hT64
  have JS := Lib.hid (fun (need : Int) (w' : World) (hb : Below w2.heap.size w2 w') => And.intro (J.out need st v' w' ⟨hT64, hstl, HT2.out.below hb⟩) (RJ.out need st v' w' ⟨hT64, hstl, HT2.out.below hb⟩))
  have JM := Lib.hid (fun (need : Int) (w' : World) (hb : Below w2.heap.size w2 w') => And.intro (J.out need sm _ w' ⟨HST.out.1, by have := HST.out; omega, HS2.out.below hb⟩) (RJ.out need sm _ w' ⟨HST.out.1, by have := HST.out; omega, HS2.out.below hb⟩))
  have JN := Lib.hid (fun (w' : World) => joinS_nil q2 ▸ J.out q2 [] _ w' ⟨fun p hp => (by cases hp), by simp, ShArg.nil w'⟩)
  clear r1 r2 r3 r4 hb1 hb2 HS HS2 HT2 J RJ hB NQ hst hT64 hstl
  conv => arg 2; whnf
  go_wp2_with (first
    | (refine wpList_build_run rfl 25 1 #[(0, .tmp 62)] rfl #[(0, .agg #[I q0, I q1])] rfl _ _ HB1.out ?_)
    | (at_builtin; refine Lib.wpList_append_run _ rfl (.tmp 63) (.tmp 64) 25 25 rfl _ _ rfl rfl _ _ HAPP.out ?_))
  refine HKK.out _ _ ?_
  clear HKK c0 c1 HB1 HAPP
  conv => arg 2; whnf
  go_wp2_with fail
  go_loopw [15] (fun x wr => ∃ (j : Nat) (z : Int), j ≤ 9 ∧ z = (j : Int) - 1 ∧ x = .int .i64 z ∧ Below w2.heap.size w2 wr) (fun x _ => 9 - ((intOf x) + 1).toNat)
  case atStart => exact ⟨0, -1, by omega, by omega, rfl, Below.refl _ _⟩
  case round =>
    obtain ⟨j, z, hj, hz, rfl, hb⟩ := hrel
    by_cases hjt : j < 9
    · have q1' : z < 8 := by omega
      have q2' : -1 ≤ z := by omega
      have HZ := Lib.hid hz
      clear hz
      have A1 := Lib.hid (JS.out z)
      have A2 := Lib.hid (JM.out z)
      obtain ⟨r, hr⟩ : ∃ r, joinS z st = r := ⟨_, rfl⟩
      obtain ⟨s, hs⟩ : ∃ s, joinS z sm = s := ⟨_, rfl⟩
      rw [hr] at A1
      rw [hs] at A2
      obtain ⟨ra, rb⟩ := r
      obtain ⟨sa, sb⟩ := s
      have e1 : (ra != ra) = false := by simp
      have e2 : (rb != rb) = false := by simp
      have e3 : (sa != sa) = false := by simp
      have e4 : (sb != sb) = false := by simp
      clear hr hs
      go_wp2_with fail
      refine (A1.out _ hb).1.mono ?_; rintro e w3 ⟨rfl, hb3⟩
      have hb := hb.trans (hb3.mono hb.size)
      clear hb3
      go_wp2_with fail
      refine (A1.out _ hb).2.mono ?_; rintro e w4 ⟨rfl, hb3⟩
      have hb := hb.trans (hb3.mono hb.size)
      clear hb3
      go_wp2_with fail
      refine (A2.out _ hb).1.mono ?_; rintro e w5 ⟨rfl, hb3⟩
      have hb := hb.trans (hb3.mono hb.size)
      clear hb3
      go_wp2_with fail
      refine (A2.out _ hb).2.mono ?_; rintro e w6 ⟨rfl, hb3⟩
      have hb := hb.trans (hb3.mono hb.size)
      clear hb3 A1 A2
      go_wp2_with fail
      go_roundw
      case rel => exact ⟨j + 1, z + 1, by omega, by have := HZ.out; omega, by go_num, hb⟩
      case measure => simp [intOf]; omega
    · have q1' : ¬ z < 8 := by omega
      have N5 := NQ2.below hb NQ2.lt
      have c2 := N5.cell 2 _ rfl
      have hBr := hB2.trans (hb.mono hB2.size)
      clear N5 hb
      go_wp2_with fail
      refine (JN.out _).mono ?_; rintro e w3 ⟨rfl, hb3⟩
      have hBr := hBr.trans (hb3.mono hBr.size)
      clear hb3
      go_wp2_with fail
      go_ret
      exact ⟨rfl, hBr⟩

set_option maxRecDepth 100000 in
set_option maxHeartbeats 2000000 in
theorem walk (w : World) (v u : Value) (l pk : List Int) (q0 q1 q2 : Int) (hl : All64 l) (hl9 : l.length ≤ 9223372036854775807) (hA : IArg w v l) (hp : All64 pk) (hp9 : pk.length ≤ 9223372036854775807) (hP : IArg w u pk) (h0 : In64 q0) (h1 : In64 q1) (h2 : In64 q2) :
    Calls Try.prog 8 #[v, u, .agg #[I q0, I q1, I q2]] w fun e w' => e = .returned (.bool true) ∧ Below w.heap.size w w' := by
  have C1 := Lib.hid (fun (w' : World) (hb : Below w.heap.size w w') => Coefs_any l v w' hl hl9 (hA.below hb))
  have C2 := Lib.hid (fun (s : List (Int × Int)) (v : Value) (w' : World) (hs : s.length ≤ 1000000) (hv : ShArg w' v s) (hb : Below w.heap.size w w') => Chosen_any s pk v u w' hp hp9 hs hv (hP.below hb))
  obtain ⟨a, cap, rfl, hc, _⟩ := hA
  have hcs := cofs_blw l
  obtain ⟨hn1, hn2⟩ := cofs_len l
  generalize cofs l = cs at *
  obtain ⟨ua, ucap, rfl, huc, _⟩ := hP
  have M1 := Lib.hid (fun (v : Value) (w : World) (h : IArg w v cs) => made_good cs 5 (by decide) v w hcs hn1 (by omega) h)
  obtain ⟨n, hn⟩ : ∃ n, cs.length = n := ⟨_, rfl⟩
  have HN := Lib.hid hn
  have H64 := Lib.hid (And.intro h0 (And.intro h1 h2))
  have NQ := Blk.new w #[I q0, I q1, I q2] 47
  have hB := (Below.refl w.heap.size w).alloc (Nat.le_refl _) (.cells #[I q0, I q1, I q2] 47)
  rw [hn] at hn1 hn2
  clear hn hp hl h0 h1 h2
  go_enter Try.func8, Try.ntmps8
  go_wp2_with fail
  generalize w.alloc (.cells #[I q0, I q1, I q2] 47) = w1 at *
  refine (sanity_any _).mono ?_; rintro e w2 ⟨rfl, hb⟩
  have NQ := NQ.below hb NQ.lt
  have hB := hB.trans (hb.mono hB.size)
  clear hb
  go_wp2_with fail
  refine (C1.out _ hB).mono ?_; rintro e w3 ⟨v3, rfl, o3, hb⟩
  have NQ := NQ.below hb NQ.lt
  have hB := hB.trans (hb.mono hB.size)
  have HI3 := Lib.hid o3.iarg
  clear hb C1 o3
  go_wp2_with fail
  refine (M1.out _ _ HI3.out).mono ?_; rintro e w4 ⟨v1, v2, rfl, o1, o2, hb, _⟩
  have NQ := NQ.below hb NQ.lt
  have hB := hB.trans (hb.mono hB.size)
  have HI3 := Lib.hid (HI3.out.below hb)
  rw [HN.out] at o1
  simp only [Nat.reduceMod] at o1
  have HS := Lib.hid o1.sharg
  clear hb M1 o1 o2
  go_wp2_with fail
  refine (C2.out _ _ _ (by rw [shl_length]; omega) HS.out hB).mono ?_; rintro e w5 ⟨v5, rfl, o5, hb⟩
  have NQ := NQ.below hb NQ.lt
  have hB := hB.trans (hb.mono hB.size)
  have HI3 := Lib.hid (HI3.out.below hb)
  have hsm : ∀ p ∈ choS (shl cs (n + 5)) pk, isS cs p := fun p hp => shl_isS cs _ (by omega) p (choS_mem hp)
  have hs64 : AllS64 (choS (shl cs (n + 5)) pk) := fun p hp => shl_all64 cs _ (by omega) p (choS_mem hp)
  have hsn := choS_nodup pk (shl_nodup cs (n + 5))
  have hsl : (choS (shl cs (n + 5)) pk).length ≤ 1000 := by
    have := choS_len (shl cs (n + 5)) pk
    rw [shl_length] at this; omega
  obtain ⟨sm, hsme⟩ : ∃ sm, choS (shl cs (n + 5)) pk = sm := ⟨_, rfl⟩
  rw [hsme] at o5 hsm hs64 hsn hsl
  have HSEC : Hid (n ≤ sm.length → joinS (n : Int) sm = (cs.headD 0, true)) := by
    show n ≤ sm.length → _
    intro h
    have := joinS_secret cs sm hcs (by rw [HN.out]; exact hn1) (by rw [HN.out]; exact h) hsm hsn
    rwa [HN.out] at this
  have HS5 := Lib.hid o5.sharg
  have HS64 := Lib.hid hs64
  have HSL := Lib.hid hsl
  obtain ⟨a5, c5, rfl, hc5⟩ := o5.form
  obtain ⟨ac, cc, rfl, hcc, hac⟩ := HI3.out
  rw [HN.out] at hcc
  rw [HN.out]
  obtain ⟨gc, oc, rfl, hat⟩ := hac (by rintro rfl; have := HN.out; simp at this; omega)
  have cc0 := hat 0 _ (headD_get (by rw [HN.out]; exact hn1))
  rw [Nat.add_zero] at cc0
  clear hb HS C2 o5 hac hat hsm hsn hs64 HI3 hsme
  obtain ⟨h0, hh0⟩ : ∃ h0, cs.headD 0 = h0 := ⟨_, rfl⟩
  rw [hh0] at cc0 HSEC
  clear hh0
  have J := Lib.hid (fun (need : Int) (l : List (Int × Int)) (v : Value) (w : World) (h : AllS64 l ∧ l.length ≤ 1001 ∧ ShArg w v l) => Join_any need l v w h.1 (by omega) h.2.2)
  have RJ := Lib.hid (fun (need : Int) (l : List (Int × Int)) (v : Value) (w : World) (h : AllS64 l ∧ l.length ≤ 1001 ∧ ShArg w v l) => RJoin_any need l v w h.1 (by omega) h.2.2)
  obtain ⟨m, hm⟩ : ∃ m, sm.length = m := ⟨_, rfl⟩
  have HM := Lib.hid hm
  rw [hm] at hc5 HSEC hsl HS5
  rw [hm]
  clear hm
  have HST : Hid (AllS64 sm ∧ m ≤ 1000 ∧ sm.length = m) := ⟨HS64.out, hsl, HM.out⟩
  by_cases hnm : n ≤ m
  · have J1 := Lib.hid (HSEC.out hnm ▸ J.out (n : Int) sm _ w5 ⟨HS64.out, by have := HSL.out; omega, HS5.out⟩)
    clear HSEC
    go_wp2_with fail
    refine J1.out.mono ?_; rintro e w6 ⟨rfl, hb⟩
    have NQ := NQ.below hb NQ.lt
    have hB := hB.trans (hb.mono hB.size)
    have HS6 := Lib.hid (HS5.out.below hb)
    have cc1 := keepCells hb _ _ cc0
    clear hb J1 cc0 HS5
    go_upto_region 9 with (fail)
    clear cc1
    have hK := ‹∀ (a : Act) (w : World), Code.wp Try.prog _ _ a w → _›
    exact tail9 _ _ _ _ _ _ _ _ _ _ _ _ _ _ _ _ _ _ _ _ _ _ _ _ _ _ _ _ _ _ _ _ _ _ _ _ _ _ _ _ _ _ _ _ _ _ _ _ _ _ _ _ _ _ _ _ _ _ _ _ _ _ _ _ _ _ _ _ _ _ _ _ _ _ _ _ _ _ _ _ _ _ _ _ _ _ _ _ _ _ _ _ _ _ _ _ _ _ _ _ _ _ _ _ _ _ _ _ _ _ _ _ _ _ _ _ _ _ _ _ w.heap.size a5 m c5 sm q0 q1 q2 w w6 NQ hB HS6 HST H64 J RJ _ hK
  · clear HSEC
    go_upto_region 9 with (fail)
    clear cc0
    have hK := ‹∀ (a : Act) (w : World), Code.wp Try.prog _ _ a w → _›
    exact tail9 _ _ _ _ _ _ _ _ _ _ _ _ _ _ _ _ _ _ _ _ _ _ _ _ _ _ _ _ _ _ _ _ _ _ _ _ _ _ _ _ _ _ _ _ _ _ _ _ _ _ _ _ _ _ _ _ _ _ _ _ _ _ _ _ _ _ _ _ _ _ _ _ _ _ _ _ _ _ _ _ _ _ _ _ _ _ _ _ _ _ _ _ _ _ _ _ _ _ _ _ _ _ _ _ _ _ _ _ _ _ _ _ _ _ _ _ _ _ _ _ w.heap.size a5 m c5 sm q0 q1 q2 w w5 NQ hB HS5 HST H64 J RJ _ hK

set_option maxRecDepth 100000 in
theorem lifted (os : Os) (started : os.Started) (H : Type) (enc : TypeId × Value → H) :
    ReturnsInHanded {} Try.checked os 8 .any (Rows.shareJoinsSpec.pre6 enc Try.prog Try.f8 Rows.shareJoinsRow.domain false) (Rows.shareJoinsSpec.post enc Try.prog Try.f8 false true false false) := by
  refine returnsInHanded_of_change (C := Try.checked) law_own started (by kernel_rfl) Try.func8
    (ChangeSpec.witness6 (enc := enc) (C := Try.checked) false ⟨#[], #[.slice none 0 0, .slice none 0 0, .agg #[.int .i64 0, .int .i64 0, .int .i64 0]], []⟩ 8 (by kernel_rfl) (by kernel_rfl) (by kernel_rfl) (by kernel_rfl)) ?_
  intro W base args ds gs before hval0 hW _ _
  have hval : ∀ (j : Nat) t v, Try.f8.params[j]? = some t → args[j]? = some v → Value.okWide Try.prog W .any base t v := hval0
  have hWk : DataW.Whole enc Try.prog Try.f8.params.toList Rows.shareJoinsSpec.vars false W args.toList ds gs before := hW
  obtain ⟨p, q, hA0, hV, rfl, _, _⟩ := hW
  have hA : DataW.TrodAll enc Try.prog W 0 (fun _ => true) true Try.f8.params.toList args.toList ds p := hA0
  rw [Try.params8] at hA hval
  obtain ⟨v0, vs0, d0, ds0, p0, q0, hargs, rfl, rfl, h0, r0⟩ := trodAll_cons hA
  obtain ⟨v1, vs1, d1, ds1, p1, q1, rfl, rfl, rfl, h1, r1⟩ := trodAll_cons r0
  obtain ⟨v2, vs2, d2, ds2, p2, q2, rfl, rfl, rfl, h2, r2⟩ := trodAll_cons r1
  obtain ⟨rfl, rfl, rfl⟩ := trodAll_nil r2
  obtain rfl : args = #[v0, v1, v2] := by cases args; simp_all
  obtain ⟨rfl, rfl⟩ := trodVars_none hV
  obtain ⟨l0, hA0_, hl0, hn0⟩ := open_intsA (hval 0 22 v0 rfl rfl) h0
  obtain ⟨l1, hA1_, hl1, hn1⟩ := open_intsA (hval 1 22 v1 rfl rfl) h1
  obtain ⟨zs2, l2, rfl, w2⟩ := open_int_array Try.underlying47 Try.underlying3 (by kernel_rfl) (by kernel_rfl) (hval 2 47 v2 rfl rfl) h2
  obtain ⟨x2_0, x2_1, x2_2, rfl⟩ := list3 l2
  clear hA0 hval0
  refine (walk W v0 v1 l0 l1 x2_0 x2_1 x2_2 hl0 hn0 hA0_ hl1 hn1 hA1_ (in64_wf (w2 x2_0 (by simp))) (in64_wf (w2 x2_1 (by simp))) (in64_wf (w2 x2_2 (by simp)))).mono fun e W' ⟨he, hb⟩ => ?_
  exact ⟨_, he, law_post law_laid rfl (by rw [Try.params8]; decide +kernel) (by kernel_rfl) Try.underlying4 rfl hWk hb⟩

theorem holds : Rows.ShareJoinsSaid :=
  OpenClaim.holds_of_wide 8 Try.f8 rfl rfl rfl rfl rfl rfl rfl ⟨rfl, rfl, rfl, rfl, rfl⟩ rfl rfl rfl rfl rfl (by kernel_rfl) Try.func8 (by kernel_rfl)
    (of_decide_eq_true (by kernel_rfl)) (by unfold Func.isWrapper; first | (rw [if_pos (by decide +kernel)]; kernel_rfl) | (rw [if_neg (by decide +kernel)]; exact ⟨rfl, rfl⟩))
    (fun os started H enc _ => lifted os started H enc)

end Go.Proofs.Ytdnabeldaighgaa.LJoins

namespace Go.Proofs.Ytdnabeldaighgaa
/-- The statement. -/
theorem shareJoins_holds : Rows.ShareJoinsSaid := LJoins.holds
end Go.Proofs.Ytdnabeldaighgaa
