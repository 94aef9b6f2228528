/- TreeExtends: if a growth is accepted between lists of which the first one is no beginning of the second one, two different strings with one hash are among those that are hashed; no condition. -/
import Derived.Test.YtjekdeikoebmgaaExA
namespace Go.Proofs.Ytjekdeikoebmgaa.LExtends
open Go.ChangeShapes Go.WideShapes Go.ChangeAt Go.RowKit Go.Shelf Go.ChangeMaps Tr

set_option maxRecDepth 100000 in
set_option maxHeartbeats 3000000 in
theorem walk (w : World) (l1 l2 : List UInt8) (a1 a2 : Option Addr) (cap1 cap2 : Nat) (hc1 : l1.length ≤ cap1) (hm1 : l1.length ≤ maxLen) (hA1 : l1 ≠ [] → ∃ g o, a1 = some ⟨g, o, none⟩ ∧ ∀ (i : Nat) (x : UInt8), l1[i]? = some x → w.cell? ⟨g, o + i, none⟩ = some (Y x)) (hc2 : l2.length ≤ cap2) (hm2 : l2.length ≤ maxLen) (hA2 : l2 ≠ [] → ∃ g o, a2 = some ⟨g, o, none⟩ ∧ ∀ (i : Nat) (x : UInt8), l2[i]? = some x → w.cell? ⟨g, o + i, none⟩ = some (Y x)) (q0 q1 : Int) :
    Calls Try.prog 9 #[.slice a1 l1.length cap1, .slice a2 l2.length cap2, .agg #[.int .i64 q0, .int .i64 q1]] w fun e w' => e = .returned (.bool true) ∧ Below w.heap.size w w' := by
  have NQ := Blk.new w #[.int .i64 q0, .int .i64 q1] 43
  have hB := (Below.refl w.heap.size w).alloc (Nat.le_refl _) (.cells #[.int .i64 q0, .int .i64 q1] 43)
  have ST1 := Lib.hid (fun w' (hb : Below w.heap.size w w') => Strings_any l1 a1 cap1 w' hc1 hm1 (fun h => by
    obtain ⟨g, o, h1, h2⟩ := hA1 h
    exact ⟨g, o, h1, fun i x hx => keepCells hb _ _ (h2 i x hx)⟩))
  have ST2 := Lib.hid (fun w' (hb : Below w.heap.size w w') => Strings_any l2 a2 cap2 w' hc2 hm2 (fun h => by
    obtain ⟨g, o, h1, h2⟩ := hA2 h
    exact ⟨g, o, h1, fun i x hx => keepCells hb _ _ (h2 i x hx)⟩))
  have hS1 := strsOf_small l1
  have hsl1 := strsOf_len l1
  have hS2 := strsOf_small l2
  have hsl2 := strsOf_len l2
  have hs1 : ∀ s ∈ strsOf l1, s.length ≤ 1000 := by
    intro s hs
    unfold strsOf at hs
    obtain ⟨p, _, rfl⟩ := List.mem_map.1 hs
    simp
  have hs2 : ∀ s ∈ strsOf l2, s.length ≤ 1000 := by
    intro s hs
    unfold strsOf at hs
    obtain ⟨p, _, rfl⟩ := List.mem_map.1 hs
    simp
  generalize strsOf l1 = ss at *
  generalize strsOf l2 = tt at *
  have HS1 := Lib.hid hs1
  have HS2 := Lib.hid hs2
  clear hA1 hA2 hs1 hs2
  go_enter Try.func9, Try.ntmps9
  go_wp2_with fail
  refine (Calls.chain hB hB.size (sanity_any _)).mono ?_; clear hB; rintro e w2 ⟨rfl, hB, hb2⟩
  have NQ := NQ.below hb2 NQ.lt
  clear hb2
  go_wp2_with fail
  refine (ST1.out _ hB).mono ?_; rintro e w3 ⟨v, rfl, hO, hb3⟩
  have hB := hB.trans (hb3.mono hB.size)
  have NQ := NQ.below hb3 NQ.lt
  have hAS1 := hO.sarg
  clear hO hb3 ST1
  go_wp2_with fail
  refine (ST2.out _ hB).mono ?_; rintro e w4 ⟨v', rfl, hO, hb3⟩
  have hB := hB.trans (hb3.mono hB.size)
  have NQ := NQ.below hb3 NQ.lt
  have hAS2 := hO.sarg
  have hAS1 := hAS1.below hb3
  clear hO hb3 ST2
  obtain ⟨b1, d1, rfl, hc1, hB1⟩ := id hAS1
  obtain ⟨b2, d2, rfl, hc2, hB2⟩ := id hAS2
  have HB1 := Lib.hid hB1
  have HB2 := Lib.hid hB2
  have HA1 := Lib.hid hAS1
  have HA2 := Lib.hid hAS2
  have HNQ := Lib.hid NQ
  clear hB1 hB2 hAS1 hAS2 NQ
  obtain ⟨n, hn⟩ : ∃ n, ss.length = n := ⟨_, rfl⟩
  obtain ⟨m, hm⟩ : ∃ m, tt.length = m := ⟨_, rfl⟩
  rw [hn] at hsl1 hc1 HA1
  rw [hm] at hsl2 hc2 HA2
  rw [hn, hm]
  have HNM := Lib.hid (And.intro hn hm)
  clear hn hm
  obtain ⟨bg, hbg, hb2⟩ : ∃ bg : Bool, decide (n ≤ m) = bg ∧ (bg = true → n ≤ m) := ⟨_, rfl, fun h => of_decide_eq_true h⟩
  have HBF : Hid (bg = false → ¬ (tt.take n = ss)) := fun h e => by
    have h1 := congrArg List.length e
    rw [List.length_take, HNM.out.1, HNM.out.2] at h1
    have h2 : ¬ (n ≤ m) := of_decide_eq_false (hbg.trans h)
    omega
  go_upto_region 4 with (fail)
  clear hbg
  go_wp2_with fail
  go_loopw [10, 11] (fun x i wr => ∃ (bg : Bool) (k : Nat), x = .bool bg ∧ i = .int .i64 k ∧ k ≤ n ∧ (bg = true → n ≤ m) ∧ Hid (bg = false → ¬ (tt.take n = ss)) ∧ Below w4.heap.size w4 wr ∧ Below w.heap.size w wr) (fun _ i _ => n - (intOf i).toNat)
  case atStart => exact ⟨bg, 0, rfl, rfl, by omega, hb2, HBF, Below.refl _ _, hB⟩
  case round =>
    clear hB HBF hb2
    obtain ⟨bg, k, rfl, rfl, hk, hbm, HBF, h4, hB⟩ := hrel
    by_cases hlt : k < n
    · have t1 : (k : Int) < (n : Int) := by omega
      have t2 : decide ((k : Int) < (n : Int)) = true := decide_eq_true t1
      cases bg
      · go_upto_region 8 with (fail)
        have hK9 := ‹∀ (a : Act) (w : World), Code.wp Try.prog _ _ a w → _›
        exact ex_t8 _ _ _ _ _ _ _ _ _ _ _ _ _ _ _ _ _ _ _ _ _ _ _ _ _ _ _ _ _ _ _ _ _ _ _ _ _ _ _ _ _ _ _ _ _ _ _ _ _ _ _ _ _ _ _ _ _ _ _ _ _ _ _ _ _ _ _ _ _ _ _ _ _ _ _ _ _ _ _ _ _ _ _ _ _ _ _ _ _ _ _ _ _ _ _ _ _ _ _ _ _ _ _ _ _ _ _ _ _ _ q0 q1 _ n m d1 d2 b1 b2 false ss tt w wr HNM.out.1 HNM.out.2 hsl1 hsl2 hS1 hS2 HS1.out HS2.out HBF.out (HA1.out.below h4) (HA2.out.below h4) (HNQ.out.below h4 HNQ.out.lt) hB _ hK9
      · have hnm := hbm rfl
        obtain ⟨x, hx⟩ : ∃ x, ss[k]? = some x := ⟨ss[k]'(by rw [HNM.out.1]; exact hlt), List.getElem?_eq_getElem _⟩
        obtain ⟨y, hy⟩ : ∃ y, tt[k]? = some y := ⟨tt[k]'(by rw [HNM.out.2]; omega), List.getElem?_eq_getElem _⟩
        obtain ⟨g1, o1, rfl, hS1a⟩ := HB1.out (by rintro rfl; simp at hx)
        obtain ⟨g2, o2, rfl, hS2a⟩ := HB2.out (by rintro rfl; simp at hy)
        have c1 := Lib.hid (keepCells h4 _ _ (hS1a k x hx))
        have c2 := Lib.hid (keepCells h4 _ _ (hS2a k y hy))
        have HBF2 : Hid ((x == y) = false → ¬ (tt.take n = ss)) := fun h e => by
          have : (tt.take n)[k]? = some y := by rw [List.getElem?_take, if_pos hlt]; exact hy
          rw [e, hx] at this
          injection this with this
          rw [this] at h
          simp at h
        clear hx hy hS1a hS2a
        go_upto_region 7 with (fail)
        refine ex_r7 _ _ _ _ _ _ _ _ _ _ _ _ _ _ _ _ _ _ _ _ _ _ _ _ _ _ _ _ _ _ _ _ _ _ _ _ _ _ _ _ _ _ _ _ _ _ _ _ _ _ _ _ _ _ _ _ _ _ _ _ _ _ _ _ _ _ _ _ _ _ _ _ _ _ _ _ _ _ _ _ _ _ _ _ _ _ _ _ _ _ _ _ _ _ _ _ _ _ _ _ _ _ _ _ _ _ _ _ _ _ _ _ g1 o1 n d1 g2 o2 m d2 k x y wr hlt (by omega) c1.out c2.out _ ?_
        intro y38 y39 y40 y41 y42 y43 y44 y45 y46 w5 hb5
        have h4 := h4.trans (hb5.mono h4.size)
        have hB := hB.trans (hb5.mono hB.size)
        clear c1 c2 hb5
        generalize (x == y) = bx at *
        go_wp2_with fail
        go_roundw
        case rel => exact ⟨bx, k + 1, rfl, by go_num, by omega, fun _ => hnm, HBF2, h4, hB⟩
        case measure => simp [intOf]; omega
    · have t1 : ¬ ((k : Int) < (n : Int)) := by omega
      have t2 : decide ((k : Int) < (n : Int)) = false := decide_eq_false t1
      go_upto_region 8 with (fail)
      have hK9 := ‹∀ (a : Act) (w : World), Code.wp Try.prog _ _ a w → _›
      exact ex_t8 _ _ _ _ _ _ _ _ _ _ _ _ _ _ _ _ _ _ _ _ _ _ _ _ _ _ _ _ _ _ _ _ _ _ _ _ _ _ _ _ _ _ _ _ _ _ _ _ _ _ _ _ _ _ _ _ _ _ _ _ _ _ _ _ _ _ _ _ _ _ _ _ _ _ _ _ _ _ _ _ _ _ _ _ _ _ _ _ _ _ _ _ _ _ _ _ _ _ _ _ _ _ _ _ _ _ _ _ _ _ q0 q1 _ n m d1 d2 b1 b2 bg ss tt w wr HNM.out.1 HNM.out.2 hsl1 hsl2 hS1 hS2 HS1.out HS2.out HBF.out (HA1.out.below h4) (HA2.out.below h4) (HNQ.out.below h4 HNQ.out.lt) hB _ hK9

set_option maxRecDepth 100000 in
theorem lifted (os : Os) (started : os.Started) (H : Type) (enc : TypeId × Value → H) :
    ReturnsInHanded {} Try.checked os 9 .any (Rows.treeExtendsSpec.pre6 enc Try.prog Try.f9 Rows.treeExtendsRow.domain false) (Rows.treeExtendsSpec.post enc Try.prog Try.f9 false true false false) := by
  refine returnsInHanded_of_change_sized (C := Try.checked) law_own started (by kernel_rfl) Try.func9
    (ChangeSpec.witness6 (enc := enc) (C := Try.checked) false ⟨#[], #[.slice none 0 0, .slice none 0 0, .agg #[.int .i64 0, .int .i64 0]], []⟩ 8 (by kernel_rfl) (by kernel_rfl) (by kernel_rfl) (by kernel_rfl)) ?_
  intro W base args ds gs before hval0 hW _ hsz _
  have hval : ∀ (j : Nat) t v, Try.f9.params[j]? = some t → args[j]? = some v → Value.okWide Try.prog W .any base t v := hval0
  have hWk : DataW.Whole enc Try.prog Try.f9.params.toList Rows.treeExtendsSpec.vars false W args.toList ds gs before := hW
  obtain ⟨p, q, hA0, hV, rfl, _, _⟩ := hW
  have hA : DataW.TrodAll enc Try.prog W 0 (fun _ => true) true Try.f9.params.toList args.toList ds p := hA0
  rw [Try.params9] at hA hval hsz
  obtain ⟨v0, vs0, d0, ds0, p0, q0, hargs, rfl, rfl, h0, r0⟩ := trodAll_cons hA
  obtain ⟨v1, vs1, d1, ds1, p1, q1, rfl, rfl, rfl, h1, r1⟩ := trodAll_cons r0
  obtain ⟨v2, vs2, d2, ds2, p2, q2, rfl, rfl, rfl, h2, r2⟩ := trodAll_cons r1
  obtain ⟨rfl, rfl, rfl⟩ := trodAll_nil r2
  obtain rfl : args = #[v0, v1, v2] := by cases args; simp_all
  obtain ⟨rfl, rfl⟩ := trodVars_none hV
  obtain ⟨l0, a0, c0, rfl, hc0, hm0, hr0⟩ := open_u8sA (hval 0 30 v0 rfl rfl) h0
  obtain ⟨l1, a1, c1, rfl, hc1, hm1, hr1⟩ := open_u8sA (hval 1 30 v1 rfl rfl) h1
  obtain ⟨zs2, l2, rfl, w2⟩ := open_int_array Try.underlying43 Try.underlying3 (by kernel_rfl) (by kernel_rfl) (hval 2 43 v2 rfl rfl) h2
  obtain ⟨x2_0, x2_1, rfl⟩ := list2 l2
  clear hA0 hval0
  refine (walk W l0 l1 a0 a1 c0 c1 hc0 hm0 hr0 hc1 hm1 hr1 x2_0 x2_1).mono fun e W' ⟨he, hb⟩ => ?_
  exact ⟨_, he, law_post law_laid rfl (by rw [Try.params9]; decide +kernel) (by kernel_rfl) Try.underlying4 rfl hWk hb⟩

theorem holds : Rows.TreeExtendsSaid :=
  OpenClaim.holds_of_wide 9 Try.f9 rfl rfl rfl rfl rfl rfl rfl ⟨rfl, rfl, rfl, rfl, rfl⟩ rfl rfl rfl rfl rfl (by kernel_rfl) Try.func9 (by kernel_rfl)
    (of_decide_eq_true (by kernel_rfl)) (by unfold Func.isWrapper; first | (rw [if_pos (by decide +kernel)]; kernel_rfl) | (rw [if_neg (by decide +kernel)]; exact ⟨rfl, rfl⟩))
    (fun os started H enc _ => lifted os started H enc)

end Go.Proofs.Ytjekdeikoebmgaa.LExtends

namespace Go.Proofs.Ytjekdeikoebmgaa
/-- The statement. -/
theorem treeExtends_holds : Rows.TreeExtendsSaid := LExtends.holds
end Go.Proofs.Ytjekdeikoebmgaa
