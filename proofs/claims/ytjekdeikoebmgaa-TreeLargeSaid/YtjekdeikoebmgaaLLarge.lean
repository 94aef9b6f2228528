/- TreeLarge: heads of any size are treated as the reference treats them; no condition. -/
import Derived.Test.YtjekdeikoebmgaaLLgA
namespace Go.Proofs.Ytjekdeikoebmgaa.LLarge
open Go.ChangeShapes Go.WideShapes Go.ChangeAt Go.RowKit Go.Shelf Go.ChangeMaps Tr

theorem harg (a1 : Option Addr) (n cap1 k : Nat) (w5 w' : World) (pp : List (List UInt8)) (hpl : pp.length = n) (hk : k ≤ n) (hcc : n ≤ cap1) (hA : pp ≠ [] → ∃ g o, a1 = some ⟨g, o, none⟩ ∧ HAt w5 g o pp) (hb : Below w5.heap.size w5 w') : HArg w' (.slice a1 k cap1) (pp.take k) :=
  ⟨a1, cap1, by rw [List.length_take, hpl, Nat.min_eq_left hk], by rw [List.length_take]; omega, fun h => by
    obtain ⟨g, o, h1, h2⟩ := hA (by rintro rfl; simp at h)
    exact ⟨g, o, h1, (h2.below hb).take k⟩⟩
theorem harg_lt (w : World) (ad : Option Addr) (pp : List (List UInt8)) (ha : All32 pp) (hA : pp ≠ [] → ∃ g o, ad = some ⟨g, o, none⟩ ∧ HAt w g o pp) (h : pp ≠ []) (g o : Nat) (e : ad = some ⟨g, o, none⟩) : g < w.heap.size := by
  obtain ⟨g', o', h1, h2⟩ := hA h
  rw [h1] at e
  cases e
  obtain ⟨x, r, rfl⟩ := List.exists_cons_of_ne_nil h
  have hx := ha x (by simp)
  have h3 := h2.elem ha 0 x rfl 0 (Y (x[0]'(by omega))) (by rw [List.getElem?_map, List.getElem?_eq_getElem (by omega)]; rfl)
  exact World.block_lt_of_cell? w _ h3
set_option maxRecDepth 100000 in
set_option maxHeartbeats 2000000 in
theorem walk (w : World) (q0 q1 z : Int) (l : List (List UInt8)) (v : Value) (hal : All32 l) (hm : l.length ≤ maxLen) (hA : HArg w v l) (hq0 : q0 ≤ 9223372036854775807) (hq1 : q1 ≤ 9223372036854775807) :
    Calls Try.prog 10 #[.agg #[.int .i64 q0, .int .i64 q1], .int .i64 z, v] w fun e w' => e = .returned (.bool true) ∧ Below w.heap.size w w' := by
  unfold maxLen at hm
  obtain ⟨ad, cap, rfl, hc, hA⟩ := hA
  obtain ⟨n, hnn, h70, hmin⟩ : ∃ n : Nat, n ≤ l.length ∧ n ≤ 70 ∧ ∀ (w : World) (ts : Array TypeId) (t : TypeId), (Builtin.min_ ts t #[.int .i64 (l.length : Int), .int .i64 70]).run Try.prog w = .ok (.int .i64 (n : Int)) w := by
    by_cases h : l.length ≤ 70
    · refine ⟨l.length, Nat.le_refl _, h, fun w ts t => ?_⟩
      rw [run_min_int2]
      by_cases h2 : (70 : Int) < (l.length : Int)
      · omega
      · first | rw [if_neg h2] | (rw [if_pos (by omega)])
    · refine ⟨70, by omega, Nat.le_refl _, fun w ts t => ?_⟩
      rw [run_min_int2]
      first | (rw [if_pos (by omega)]; rfl) | (rw [if_neg (by omega)]; rfl)
  have hsl := sliceH ad l.length cap n hnn hc
  have hpl : (l.take n).length = n := by rw [List.length_take]; omega
  have hpa := hal.take n
  have hA1 : l.take n ≠ [] → ∃ g o, ad = some ⟨g, o, none⟩ ∧ HAt w g o (l.take n) := fun h => by
    obtain ⟨g, o, h1, h2⟩ := hA (by rintro rfl; simp at h)
    exact ⟨g, o, h1, h2.take n⟩
  have hcc : n ≤ cap := by omega
  clear hal hA hc
  generalize l.length = L at *
  generalize l.take n = pp at *
  obtain ⟨dd, hdd, hd7⟩ : ∃ dd : Nat, (n : Int) / 8 = (dd : Int) ∧ dd ≤ 70 := ⟨n / 8, by omega, by omega⟩
  have HA0 := Lib.hid hA1
  have GL := Lib.hid (fun (h : pp ≠ []) g o (e : ad = some (⟨g, o, none⟩ : Addr)) => harg_lt w ad pp hpa hA1 h g o e)
  obtain ⟨a1, rfl⟩ : ∃ a1, a1 = ad := ⟨_, rfl⟩
  obtain ⟨cap1, rfl⟩ : ∃ c, c = cap := ⟨_, rfl⟩
  clear hA1
  have NQ0 := Blk.new w #[.int .i64 q0, .int .i64 q1] 43
  have hB := (Below.refl w.heap.size w).alloc (Nat.le_refl _) (.cells #[.int .i64 q0, .int .i64 q1] 43)
  have NQ := Lib.hid NQ0
  clear NQ0
  go_enter Try.func10, Try.ntmps10
  go_wp2_with fail
  have hs0 := hB.size
  refine (Calls.chain hB hB.size (sanity_any _)).mono ?_; clear hB; rintro e w2 ⟨rfl, hB, hb2⟩
  have hNQ := (NQ.out).below hb2 NQ.out.lt
  have HQ := Lib.hid hNQ
  clear hb2 NQ hNQ
  go_upto_region 3 with (fail)
  refine lg_r3 _ _ _ _ _ _ _ _ _ _ _ _ _ _ _ _ _ _ _ _ _ _ _ _ _ _ _ _ _ _ _ _ _ _ _ _ _ _ _ _ _ _ _ _ _ _ _ _ _ _ _ _ _ _ _ _ _ _ _ _ _ _ _ _ _ _ _ _ _ _ _ _ q0 q1 z _ w2 HQ.out _ ?_
  intro y17 y18 y19 y20 y21 y22 b8 b9 w3 h89 l8 l9 N8 N9 hb3
  have hs2 := hB.size
  have hB := hB.trans (hb3.mono hB.size)
  have HA0 := Lib.hid (fun h => by obtain ⟨g, o, h1, h2⟩ := HA0.out h; exact (⟨g, o, h1, h2.below hB⟩ : ∃ g o, a1 = some ⟨g, o, none⟩ ∧ HAt w3 g o pp))
  clear hb3 HQ
  by_cases h0 : pp = []
  · have hn0 : n = 0 := by rw [← hpl, h0]; rfl
    have t0 : ¬ ((0 : Int) < (n : Int)) := by omega
    have t1 : decide ((0 : Int) < (n : Int)) = false := decide_eq_false t0
    have t2 : decide ((n : Int) > 0) = false := decide_eq_false t0
    have hx : (List.replicate 32 (0 : UInt8)).length = 32 := rfl
    generalize hxx : List.replicate 32 (0 : UInt8) = x at *
    clear hxx
    clear h0 hn0
    obtain ⟨w5, rfl⟩ : ∃ w5, w5 = w3 := ⟨_, rfl⟩
    have HA1 := HA0
    clear HA0
    go_wp2_with fail
    go_loopw [10] (fun i wr => ∃ k : Nat, k ≤ 160 ∧ i = .int .i64 k ∧ Below w5.heap.size w5 wr ∧ Below w.heap.size w wr) (fun i _ => 160 - (intOf i).toNat)
    case atStart => exact ⟨0, by omega, rfl, Below.refl _ _, hB⟩
    case round =>
      clear hB
      obtain ⟨k, hk, rfl, hb, hB⟩ := hrel
      by_cases hlt : k ≤ n
      · have hk7 : k ≤ 70 := Nat.le_trans hlt h70
        have N8 := N8.below hb N8.lt
        have N9 := N9.below hb N9.lt
        have HP := Lib.hid (fun (w' : World) (hbb : Below wr.heap.size wr w') => harg a1 n cap1 k w5 w' pp hpl hlt hcc HA1.out (hb.trans (hbb.mono hb.size)))
        have C1 := Lib.hid (fun x' : After wr => CheckPath_q q0 z x [120] (pp.take k) _ x'.W hx (by simp) (hpa.take k) (by rw [List.length_take]; omega) hq0 (HP.out x'.W x'.hb))
        have C2 := Lib.hid (fun x' : After wr => RCheckPath_q q0 z x [120] (pp.take k) _ x'.W hx (by simp) (hpa.take k) hq0 (HP.out x'.W x'.hb))
        have C3 := Lib.hid (fun x' : After wr => CheckGrowth_q q0 q1 x x (pp.take k) _ x'.W hx hx hq1 (by rw [List.length_take]; omega) (hpa.take k) (HP.out x'.W x'.hb))
        have C4 := Lib.hid (fun x' : After wr => RCheckGrowth_q q0 q1 x x (pp.take k) _ x'.W hx hx hq1 (hpa.take k) (HP.out x'.W x'.hb))
        obtain ⟨c, hcq⟩ : ∃ c, checkP q0 x z [120] (pp.take k) = c := ⟨_, rfl⟩
        obtain ⟨d, hdq⟩ : ∃ d, checkG q0 x q1 x (pp.take k) = d := ⟨_, rfl⟩
        rw [hcq] at C1 C2
        rw [hdq] at C3 C4
        clear hcq hdq HP
        go_upto_region 9 with (fail)
        refine lg_r9 _ _ _ _ _ _ _ _ _ _ _ _ _ _ _ _ _ _ _ _ _ _ _ _ _ _ _ _ _ _ _ _ _ _ _ _ _ _ _ _ _ _ _ _ _ _ _ _ _ _ _ _ _ _ _ _ _ _ _ _ _ _ _ _ _ _ _ _ q0 q1 z _ n cap1 b8 b9 k a1 x x c d wr hx hx N8 N9 hlt hcc C1.out C2.out C3.out C4.out _ ?_
        intro y47 y48 y49 y50 y51 y52 y53 y54 y55 y56 y57 y58 y59 y60 y61 y62 y63 y64 y65 y66 y67 y68 y69 y70 y71 y72 y73 w6 hb6
        have hb := hb.trans (hb6.mono hb.size)
        have hB := hB.trans (hb6.mono hB.size)
        clear C1 C2 C3 C4 N8 N9 hb6
        go_wp2_with fail
        go_roundw
        case rel => exact ⟨k + (1 + dd), by omega, by go_num, hb, hB⟩
        case measure => simp [intOf]; omega
      · have t1 : decide ((k : Int) ≤ (n : Int)) = false := decide_eq_false (by omega)
        have t2 : ¬ ((k : Int) ≤ (n : Int)) := by omega
        clear hlt
        go_wp2_with fail
        go_ret
        exact ⟨rfl, hB⟩
  · obtain ⟨x, hx0⟩ : ∃ x, pp[0]? = some x := by cases pp with | nil => exact absurd rfl h0 | cons a r => exact ⟨a, rfl⟩
    have h1 : 1 ≤ n := by have := (List.getElem?_eq_some_iff.1 hx0).1; omega
    obtain ⟨y, hy0⟩ : ∃ y, pp[n - 1]? = some y := ⟨pp[n - 1]'(by omega), List.getElem?_eq_getElem _⟩
    obtain ⟨g, o, rfl, hA3⟩ := HA0.out h0
    have t0 : (0 : Int) < (n : Int) := by omega
    have t1 : decide ((0 : Int) < (n : Int)) = true := decide_eq_true t0
    have t2 : decide ((n : Int) > 0) = true := decide_eq_true t0
    have gl := GL.out h0 _ _ rfl
    have g8 : g ≠ b8 := by omega
    have g9 : g ≠ b9 := by omega
    have hx := hpa x (List.mem_of_getElem? hx0)
    have hy := hpa y (List.mem_of_getElem? hy0)
    have X0 := Lib.hid hx0
    have Y0 := Lib.hid hy0
    clear hx0 hy0
    clear GL HA0 h0
    go_upto_region 5 with (fail)
    refine lg_r5 _ _ _ _ _ _ _ _ _ _ _ _ _ _ _ _ _ _ _ _ _ _ _ _ _ _ _ _ _ _ _ _ _ _ _ _ _ _ _ _ _ _ _ _ _ _ _ _ _ _ _ _ _ _ _ _ _ _ _ _ _ _ _ _ _ _ _ _ _ q0 q1 z _ g o n cap1 b8 b9 x y pp w w3 N8 N9 h89 (by omega) (by omega) hA3 g8 g9 hpa hpl h1 h70 X0.out Y0.out hB _ ?_
    intro y26 y27 y28 y29 y30 y31 y32 y33 y34 y35 y36 w5 N8 N9 hA3 hB
    have HA1 : Hid (pp ≠ [] → ∃ g' o', some (⟨g, o, none⟩ : Addr) = some ⟨g', o', none⟩ ∧ HAt w5 g' o' pp) := Lib.hid (fun _ => ⟨g, o, rfl, hA3⟩)
    clear X0 Y0 hA3 gl g8 g9
    go_wp2_with fail
    go_loopw [10] (fun i wr => ∃ k : Nat, k ≤ 160 ∧ i = .int .i64 k ∧ Below w5.heap.size w5 wr ∧ Below w.heap.size w wr) (fun i _ => 160 - (intOf i).toNat)
    case atStart => exact ⟨0, by omega, rfl, Below.refl _ _, hB⟩
    case round =>
      clear hB
      obtain ⟨k, hk, rfl, hb, hB⟩ := hrel
      by_cases hlt : k ≤ n
      · have hk7 : k ≤ 70 := Nat.le_trans hlt h70
        have N8 := N8.below hb N8.lt
        have N9 := N9.below hb N9.lt
        have HP := Lib.hid (fun (w' : World) (hbb : Below wr.heap.size wr w') => harg (some ⟨g, o, none⟩) n cap1 k w5 w' pp hpl hlt hcc HA1.out (hb.trans (hbb.mono hb.size)))
        have C1 := Lib.hid (fun x' : After wr => CheckPath_q q0 z x [120] (pp.take k) _ x'.W hx (by simp) (hpa.take k) (by rw [List.length_take]; omega) hq0 (HP.out x'.W x'.hb))
        have C2 := Lib.hid (fun x' : After wr => RCheckPath_q q0 z x [120] (pp.take k) _ x'.W hx (by simp) (hpa.take k) hq0 (HP.out x'.W x'.hb))
        have C3 := Lib.hid (fun x' : After wr => CheckGrowth_q q0 q1 x y (pp.take k) _ x'.W hx hy hq1 (by rw [List.length_take]; omega) (hpa.take k) (HP.out x'.W x'.hb))
        have C4 := Lib.hid (fun x' : After wr => RCheckGrowth_q q0 q1 x y (pp.take k) _ x'.W hx hy hq1 (hpa.take k) (HP.out x'.W x'.hb))
        obtain ⟨c, hcq⟩ : ∃ c, checkP q0 x z [120] (pp.take k) = c := ⟨_, rfl⟩
        obtain ⟨d, hdq⟩ : ∃ d, checkG q0 x q1 y (pp.take k) = d := ⟨_, rfl⟩
        rw [hcq] at C1 C2
        rw [hdq] at C3 C4
        clear hcq hdq HP
        go_upto_region 9 with (fail)
        refine lg_r9 _ _ _ _ _ _ _ _ _ _ _ _ _ _ _ _ _ _ _ _ _ _ _ _ _ _ _ _ _ _ _ _ _ _ _ _ _ _ _ _ _ _ _ _ _ _ _ _ _ _ _ _ _ _ _ _ _ _ _ _ _ _ _ _ _ _ _ _ q0 q1 z _ n cap1 b8 b9 k (some ⟨g, o, none⟩) x y c d wr hx hy N8 N9 hlt hcc C1.out C2.out C3.out C4.out _ ?_
        intro y47 y48 y49 y50 y51 y52 y53 y54 y55 y56 y57 y58 y59 y60 y61 y62 y63 y64 y65 y66 y67 y68 y69 y70 y71 y72 y73 w6 hb6
        have hb := hb.trans (hb6.mono hb.size)
        have hB := hB.trans (hb6.mono hB.size)
        clear C1 C2 C3 C4 N8 N9 hb6
        go_wp2_with fail
        go_roundw
        case rel => exact ⟨k + (1 + dd), by omega, by go_num, hb, hB⟩
        case measure => simp [intOf]; omega
      · have t1 : decide ((k : Int) ≤ (n : Int)) = false := decide_eq_false (by omega)
        have t2 : ¬ ((k : Int) ≤ (n : Int)) := by omega
        clear hlt
        go_wp2_with fail
        go_ret
        exact ⟨rfl, hB⟩
theorem top64 {z : Int} (h : (Lit.int .i64 z).wf = true) : z ≤ 9223372036854775807 := by
  have : -9223372036854775808 ≤ z ∧ z ≤ 9223372036854775807 := by simpa [Lit.wf, IntKind.min, IntKind.max, IntKind.signed, IntKind.bits] using h
  exact this.2
theorem two {l : List Int} (h : l.length = 2) : ∃ a b, l = [a, b] := by
  match l, h with
  | [a, b], _ => exact ⟨a, b, rfl⟩
set_option maxRecDepth 100000 in
theorem lifted (os : Os) (started : os.Started) (H : Type) (enc : TypeId × Value → H) :
    ReturnsInHanded {} Try.checked os 10 .any (Rows.treeLargeSpec.pre6 enc Try.prog Try.f10 Rows.treeLargeRow.domain false) (Rows.treeLargeSpec.post enc Try.prog Try.f10 false true false false) := by
  refine returnsInHanded_of_change (C := Try.checked) law_own started (by kernel_rfl) Try.func10
    (ChangeSpec.witness6 (enc := enc) (C := Try.checked) false ⟨#[], #[.agg #[.int .i64 0, .int .i64 0], .int .i64 0, .slice none 0 0], []⟩ 8 (by kernel_rfl) (by kernel_rfl) (by kernel_rfl) (by kernel_rfl)) ?_
  intro W base args ds gs before hval0 hW _ _
  have hval : ∀ (j : Nat) t v, Try.f10.params[j]? = some t → args[j]? = some v → Value.okWide Try.prog W .any base t v := hval0
  have hWk : DataW.Whole enc Try.prog Try.f10.params.toList Rows.treeLargeSpec.vars false W args.toList ds gs before := hW
  obtain ⟨p, q, hA0, hV, rfl, _, _⟩ := hW
  have hA : DataW.TrodAll enc Try.prog W 0 (fun _ => true) true Try.f10.params.toList args.toList ds p := hA0
  rw [Try.params10] at hA hval
  obtain ⟨v0, vs0, d0, ds0, p0, q0, hargs, rfl, rfl, h0, r0⟩ := trodAll_cons hA
  obtain ⟨v1, vs1, d1, ds1, p1, q1, rfl, rfl, rfl, h1, r1⟩ := trodAll_cons r0
  obtain ⟨v2, vs2, d2, ds2, p2, q2, rfl, rfl, rfl, h2, r2⟩ := trodAll_cons r1
  obtain ⟨rfl, rfl, rfl⟩ := trodAll_nil r2
  obtain rfl : args = #[v0, v1, v2] := by cases args; simp_all
  obtain ⟨rfl, rfl⟩ := trodVars_none hV
  obtain ⟨zs0, l0, rfl, w0⟩ := open_int_array Try.underlying43 Try.underlying3 (by kernel_rfl) (by kernel_rfl) (hval 0 43 v0 rfl rfl) h0
  obtain ⟨x0_0, x0_1, rfl⟩ := two l0
  obtain ⟨a1, rfl, _, _, w1⟩ := open_int Try.underlying3 (hval 1 3 v1 rfl rfl) h1
  obtain ⟨l2, hA2, ha2, hm2⟩ := open_hashesA (hval 2 32 v2 rfl rfl) h2
  clear hA0 hval0
  refine (walk W x0_0 x0_1 a1 l2 v2 ha2 hm2 hA2 (top64 (w0 x0_0 (by simp))) (top64 (w0 x0_1 (by simp)))).mono fun e W' ⟨he, hb⟩ => ?_
  exact ⟨_, he, law_post law_laid rfl (by rw [Try.params10]; decide +kernel) (by kernel_rfl) Try.underlying4 rfl hWk hb⟩

theorem holds : Rows.TreeLargeSaid :=
  OpenClaim.holds_of_wide 10 Try.f10 rfl rfl rfl rfl rfl rfl rfl ⟨rfl, rfl, rfl, rfl, rfl⟩ rfl rfl rfl rfl rfl (by kernel_rfl) Try.func10 (by kernel_rfl)
    (of_decide_eq_true (by kernel_rfl)) (by unfold Func.isWrapper; first | (rw [if_pos (by decide +kernel)]; kernel_rfl) | (rw [if_neg (by decide +kernel)]; exact ⟨rfl, rfl⟩))
    (fun os started H enc _ => lifted os started H enc)

end Go.Proofs.Ytjekdeikoebmgaa.LLarge

namespace Go.Proofs.Ytjekdeikoebmgaa
/-- The statement. -/
theorem treeLarge_holds : Rows.TreeLargeSaid := LLarge.holds
end Go.Proofs.Ytjekdeikoebmgaa
