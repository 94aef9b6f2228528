/- Join of the implementation. Conditions: the range of int. -/
import Derived.Test.YtdnabeldaighgaaSeen
import Derived.Deep.OwnRows
namespace Go.Proofs.Ytdnabeldaighgaa
open Go.RowKit Go.Shelf Shr Pol

theorem seen_none (l : List (Int × Int)) : ∀ z, (fun _ : Int => false) z = true ↔ ∃ j, j < 0 ∧ Xf l j = z := fun z => Iff.intro (fun h => Bool.noConfusion h) (fun ⟨j, h, _⟩ => absurd h (by omega))
theorem seen_more {l : List (Int × Int)} {S : Int → Bool} {k : Nat} {x : Int} (h : ∀ z, S z = true ↔ ∃ j, j < k ∧ Xf l j = z) (hx : Xf l k = x) : ∀ z, (decide (z = x) || S z) = true ↔ ∃ j, j < k + 1 ∧ Xf l j = z := fun z => by
  rw [Bool.or_eq_true, decide_eq_true_eq, h z]
  constructor
  · rintro (rfl | ⟨j, h1, h2⟩)
    · exact ⟨k, by omega, hx⟩
    · exact ⟨j, by omega, h2⟩
  · rintro ⟨j, h1, h2⟩
    by_cases hj : j < k
    · exact .inr ⟨j, hj, h2⟩
    · obtain rfl : j = k := by omega
      exact .inl (h2.symm.trans hx)
/-- Between two widths of Neville's scheme. -/
def NvRow (W : World) (vb n : Nat) (t : TypeId) (l : List (Int × Int)) (m : Nat) : Prop := ∃ f : Nat → Int, W.rowIs vb t n (fun i => I (f i)) ∧ ∀ j, j + m < n → f j = nv QZ inq (Xf l) (Yf l) m j
/-- Within a width. -/
def NvMid (W : World) (vb n : Nat) (t : TypeId) (l : List (Int × Int)) (m i : Nat) : Prop := ∃ f : Nat → Int, W.rowIs vb t n (fun i => I (f i)) ∧ (∀ j, j < i → f j = nv QZ inq (Xf l) (Yf l) (m + 1) j) ∧ ∀ j, i ≤ j → j + m < n → f j = nv QZ inq (Xf l) (Yf l) m j
theorem nv_in (l : List (Int × Int)) (hy : ∀ k, In64 (Yf l k)) (m i : Nat) : In64 (nv QZ inq (Xf l) (Yf l) m i) := by
  cases m with
  | zero => exact hy i
  | succ m =>
    unfold nv
    generalize ((Xf l (i + m + 1) * nv QZ inq (Xf l) (Yf l) m i % QZ - Xf l i * nv QZ inq (Xf l) (Yf l) m (i + 1) % QZ) % QZ * inq ((Xf l (i + m + 1) - Xf l i) % QZ)) = z
    have h1 := Int.emod_nonneg z (show QZ ≠ 0 by decide)
    have h2 := Int.emod_lt_of_pos z (show 0 < QZ by decide)
    have hq : QZ = 1152921504606845789 := rfl
    constructor <;> omega
theorem nv_next (l : List (Int × Int)) (m i : Nat) : nv QZ inq (Xf l) (Yf l) (m + 1) i = Fld.mulS (Fld.subS (Fld.mulS (Xf l (i + m + 1)) (nv QZ inq (Xf l) (Yf l) m i) QZ) (Fld.mulS (Xf l i) (nv QZ inq (Xf l) (Yf l) m (i + 1)) QZ) QZ) (inq (Fld.subS (Xf l (i + m + 1)) (Xf l i) QZ)) QZ := by
  rw [mulS_q, subS_q, mulS_q, mulS_q, subS_q]; rfl
theorem Seen.alloc {w : World} {b n : Nat} {S : Int → Bool} (h : Seen w b n S) (o : Obj) : Seen (w.alloc o) b n S := h.kept (World.grownBy_alloc w o none) (by simp)

set_option maxRecDepth 100000 in
set_option maxHeartbeats 2000000 in
theorem join_main (N : Nat) (l : List (Int × Int)) (v : Value) (w : World) (hl : AllS64 l) (hl9 : l.length ≤ 1000000) (hA : ShArg w v l) (h1 : 1 ≤ N) (h2 : N ≤ l.length) :
    Calls Try.prog 16 #[.int .i64 (N : Int), v] w fun e w' => e = .returned (.tuple #[I (joinS N l).1, .bool (joinS N l).2]) ∧ Below w.heap.size w w' := by
  obtain ⟨a, cap, rfl, hc, hA'⟩ := hA
  have HA := Lib.hid (fun W (hb : Below w.heap.size w W) (h : l ≠ []) => (by obtain ⟨g, o, e1, e2⟩ := hA' h; exact ⟨g, o, e1, e2.below hb⟩ : ∃ g o, a = some ⟨g, o, none⟩ ∧ ShAt W g o l))
  have HBAD := Lib.hid (fun (h : jok (l.take N) = false) => joinS_bad h1 h2 h)
  have HOK := Lib.hid (fun (h : jok (l.take N) = true) => joinS_ok h1 h2 h)
  have HEX : Hid (∀ (k : Nat), k < N → ∃ p, l[k]? = some p) := fun k hk => ⟨l[k], List.getElem?_eq_getElem _⟩
  have HLEN := Lib.hid h2
  have HL := Lib.hid hl
  obtain ⟨r, hr⟩ : ∃ r, joinS N l = r := ⟨_, rfl⟩
  rw [hr] at HBAD HOK
  rw [hr]
  have hNL : (N : Int) ≤ (l.length : Int) := by omega
  have hN0 : ¬ (N : Int) < 1 := by omega
  have hN0' : decide ((N : Int) < 1) = false := decide_eq_false hN0
  have hN1 : ¬ (l.length : Int) < (N : Int) := by omega
  have hN1' : decide ((l.length : Int) < (N : Int)) = false := decide_eq_false hN1
  have HN9 : (N : Int) ≤ 1000000 := by omega
  have hsl : ∀ w, (Instr.sliceAt 25 (.slice a l.length cap) none (some (.int .i64 (N : Int))) none).run Try.prog w = .ok (.slice a N cap) w := fun w => by
    have e0 : (N : Int) ≤ (cap : Int) := by omega
    cases a with
    | none => go_simp
    | some p => go_simp
  obtain ⟨p0, hp0⟩ := HEX.out 0 (by omega)
  obtain ⟨g, o, rfl, _⟩ := HA.out w (Below.refl _ _) (by rintro rfl; simp at hp0)
  have HAT : Hid (∀ W, Below w.heap.size w W → ShAt W g o l) := by
    show ∀ W, _
    intro W hb
    obtain ⟨g', o', e, h⟩ := HA.out W hb (by rintro rfl; simp at hp0)
    cases e
    exact h
  have SN := Lib.hid (Seen.new w)
  have hb0 : Below w.heap.size w (w.alloc (.map #[] 0)) := (Below.refl _ _).alloc (Nat.le_refl _) _
  have hmk : ∀ w, (Instr.makeMap 55 none).run Try.prog w = .ok (.map (some w.heap.size)) (w.alloc (.map #[] 0)) := fun w => run_makeMap _ w
  clear hA' hr hl hp0 HA
  go_enter Try.func16, Try.ntmps16
  go_wp2_with fail
  generalize w.alloc (.map #[] 0) = w1 at *
  have hmb : w.heap.size < w1.heap.size := SN.out.lt
  go_loopw [33] (fun x wr => ∃ (k : Nat) (S : Int → Bool), k ≤ N ∧ x = .int .i64 (k : Int) ∧ Hid (JP l k) ∧ Hid (Seen wr w.heap.size k S) ∧ Hid (∀ z, S z = true ↔ ∃ j, j < k ∧ Xf l j = z) ∧ Below w.heap.size w wr) (fun x _ => N - (intOf x).toNat)
  case atStart => exact ⟨0, fun _ => false, by omega, rfl, JP.zero l, SN.out, seen_none l, hb0⟩
  case round =>
    clear hb0 SN
    obtain ⟨k, S, hk, rfl, HJ, HS, HSZ, hb⟩ := hrel
    by_cases hkt : k < N
    · obtain ⟨⟨px, py⟩, hp⟩ := HEX.out k hkt
      obtain ⟨c0, c1⟩ := (HAT.out wr hb).cells hp
      obtain ⟨hx64, hy64⟩ := HL.out _ (List.mem_of_getElem? hp)
      have q1 : (k : Int) < (N : Int) := by omega
      have D1 := Lib.hid (fun w => inside_any px py w)
      have XI := Lib.hid (Xf_of hp)
      have HP := Lib.hid hp
      obtain ⟨b, hbb⟩ : ∃ b, insd (px, py) = b := ⟨_, rfl⟩
      rw [hbb] at D1
      have HB := Lib.hid hbb
      clear hbb hp
      go_upto_region 8 with (fail)
      have N8 := Blk.new wr #[I px, I py] 33
      have S2 := HS.out.alloc (.cells #[I px, I py] 33)
      have hb2 := hb.trans (((Below.refl wr.heap.size wr).alloc (Nat.le_refl _) (.cells #[I px, I py] 33)).mono hb.size)
      have hsw := hb.size
      clear c0 c1 HS hb
      generalize hw2 : wr.alloc (.cells #[I px, I py] 33) = w2 at *
      clear hw2
      generalize wr.heap.size = b8 at *
      have d0 := N8.cell 0 _ rfl
      have d1 := N8.cell 1 _ rfl
      have N9 := N8.alloc (.cells #[I px, I py] 33)
      have S3 := S2.alloc (.cells #[I px, I py] 33)
      have hb3 := hb2.trans (((Below.refl w2.heap.size w2).alloc (Nat.le_refl _) (.cells #[I px, I py] 33)).mono hb2.size)
      have LK := Lib.hid (S3.lookup hx64)
      cases b
      · have HR := Lib.hid (HBAD.out (jok_bad1 hkt HP.out HB.out))
        go_wp2_with fail
        refine (D1.out _).mono ?_; rintro e w3 ⟨rfl, rfl⟩
        go_wp2_with fail
        refine bodyPost_ret (results_tmp2 rfl _ _ _) rfl ?_
        exact ⟨by rw [HR.out]; rfl, hb3⟩
      · go_wp2_with fail
        refine (D1.out _).mono ?_; rintro e w3 ⟨rfl, rfl⟩
        clear d0 d1 N8 S2
        generalize w2.alloc (.cells #[I px, I py] 33) = w3 at *
        have d0 := N9.cell 0 _ rfl
        have lk := LK.out
        obtain ⟨sv, hsv⟩ : ∃ sv, S px = sv := ⟨_, rfl⟩
        rw [hsv] at lk
        have HSV := Lib.hid hsv
        clear hsv
        cases sv
        · have hkm : k < maxLen := by unfold maxLen; omega
          obtain ⟨w4, hu, S4, hg4⟩ := S3.update hx64 hkm
          have hb4 := below_grown hb3 hg4 hb3.size (Nat.le_refl _)
          have HS4 := Lib.hid S4
          have HSM := Lib.hid (seen_more HSZ.out XI.out)
          have HNE : Hid (∀ k', k' < k → Xf l k' ≠ Xf l k) := by
            show ∀ k', _
            intro k' hk' e
            have := (HSZ.out px).2 ⟨k', hk', e.trans XI.out⟩
            rw [HSV.out] at this
            cases this
          clear S4 S3 hg4 hkm
          go_wp2_with fail
          go_roundw
          case rel => exact ⟨k + 1, _, by omega, by go_num, HJ.out.succ HP.out HB.out HNE.out, HS4.out, HSM.out, hb4⟩
          case measure => simp [intOf]; omega
        · have HR : Hid (r = (0, false)) := by
            obtain ⟨j, hj, e⟩ := (HSZ.out px).1 HSV.out
            exact HBAD.out (jok_bad2 HLEN.out hkt hj (by rw [e, XI.out]))
          go_wp2_with fail
          refine bodyPost_ret (results_tmp2 rfl _ _ _) rfl ?_
          exact ⟨by rw [HR.out]; rfl, hb3⟩
    · have q1 : ¬ ((k : Int) < (N : Int)) := by omega
      obtain rfl : k = N := by omega
      have HY := Lib.hid (HOK.out (jok_of HLEN.out HJ.out))
      have HJ' := HJ
      clear HBAD HOK HJ HS HSZ hmk
      obtain ⟨lt, hlt2⟩ : ∃ lt, l.take k = lt := ⟨_, rfl⟩
      have hll : lt.length = k := by rw [← hlt2, List.length_take]; have := HLEN.out; omega
      have HJV : Hid (jval lt = nv QZ inq (Xf lt) (Yf lt) (k - 1) 0) := by
        show jval lt = _
        unfold jval; rw [hll]
      rw [hlt2] at HY
      have HT := Lib.hid hlt2
      have HXF : Hid (∀ (j : Nat) (p : Int × Int), j < k → l[j]? = some p → Xf lt j = p.1 ∧ Yf lt j = p.2) := by
        show ∀ (j : Nat) (p : Int × Int), _
        intro j p hk hp
        rw [← HT.out, Xf_take l k j hk, Yf_take l k j hk]
        exact ⟨Xf_of hp, Yf_of hp⟩
      have HYI := Lib.hid (fun j => Yf_in (l := lt) (fun p hp => HL.out p (List.mem_of_mem_take (by rw [HT.out]; exact hp : p ∈ l.take k))) j)
      clear hlt2 hll HJ'
      have hmk2 : ∀ w, (Instr.makeSlice 22 (.int .i64 (k : Int)) (.int .i64 (k : Int))).run Try.prog w = .ok (.slice (some ⟨w.heap.size, 0, none⟩) k k) (w.alloc (.cells (madeCells #[I 0] k) 3)) := run_make_row' 22 3 (I 0) 8 Try.underlying22 infoInt rfl .i64 .i64 k (by omega) (by omega)
      have RW0 := Lib.hid (World.rowIs_made wr (I 0) k 3)
      have hb1 := hb.alloc hb.size (.cells (madeCells #[I 0] k) 3)
      go_wp2_with fail
      generalize hvb : wr.heap.size = vb at *
      have hvb' : w.heap.size ≤ vb := by rw [← hvb]; exact hb.size
      clear hvb hb
      generalize wr.alloc (.cells (madeCells #[I 0] k) 3) = w1 at *
      go_loopw [54] (fun x wr => ∃ j : Nat, j ≤ k ∧ x = .int .i64 (j : Int) ∧ Hid (wr.rowIs vb 3 k (fun i => I (if i < j then Yf lt i else 0))) ∧ Below w.heap.size w wr) (fun x _ => k - (intOf x).toNat)
      case atStart => exact ⟨0, by omega, rfl, RW0.out.congr (fun i _ => by rw [if_neg (by omega)]), hb1⟩
      case round =>
        clear hb1 RW0 hmk2
        obtain ⟨j, hj, rfl, HR, hb⟩ := hrel
        by_cases hjt : j < k
        · obtain ⟨⟨px, py⟩, hp⟩ := HEX.out j hjt
          obtain ⟨c0, c1⟩ := (HAT.out wr hb).cells hp
          have q1 : (j : Int) < (k : Int) := by omega
          have HP := Lib.hid ((HXF.out j _ hjt hp).2)
          clear hp
          have NB := Blk.new wr #[I px, I py] 33
          have d1 := NB.cell 1 _ rfl
          have R2 := HR.out.alloc (.cells #[I px, I py] 33)
          have d2 := R2.cell hjt
          have d3 := R2.frozen j
          have HR3 := Lib.hid (R2.set j (I py))
          have hb3 := (hb.alloc hb.size (.cells #[I px, I py] 33)).setCell (show w.heap.size ≤ (⟨vb, j, none⟩ : Addr).block from hvb') (I py)
          clear NB R2 HR
          go_wp2_with fail
          go_roundw
          case rel =>
            refine ⟨j + 1, by omega, by go_num, HR3.out.congr (fun i hi => ?_), hb3⟩
            by_cases e : i = j
            · subst e
              rw [if_pos rfl, if_pos (by omega), HP.out]
            · rw [if_neg e]
              by_cases e2 : i < j
              · rw [if_pos e2, if_pos (by omega)]
              · rw [if_neg e2, if_neg (by omega)]
          case measure => simp [intOf]; omega
        · have q1 : ¬ ((j : Int) < (k : Int)) := by omega
          obtain rfl : j = k := by omega
          have HN0 : Hid (NvRow wr vb j 3 lt 0) := by
            exact ⟨_, HR.out, fun i hi => by rw [if_pos (by omega)]; rfl⟩
          clear HR
          go_wp2_with fail
          go_loopw [12] (fun x W => ∃ d m : Nat, Hid (d = m + 1) ∧ d ≤ j ∧ x = .int .i64 (d : Int) ∧ Hid (NvRow W vb j 3 lt m) ∧ Below w.heap.size w W) (fun x _ => j - (intOf x).toNat)
          case atStart => exact ⟨1, 0, rfl, by omega, rfl, HN0.out, hb⟩
          case round =>
            clear hb HN0
            obtain ⟨d, m, HD, hd, rfl, HN, hb⟩ := hrel
            have hd1 : 1 ≤ d := by have := HD.out; omega
            by_cases hdt : d < j
            · have q2 : (d : Int) < (j : Int) := by omega
              have q3 : (0 : Int) ≤ (j : Int) - (d : Int) := by omega
              have HM0 : Hid (NvMid wr vb j 3 lt m 0) := by
                obtain ⟨f, h1, h2⟩ := HN.out
                exact ⟨f, h1, fun i hi => absurd hi (by omega), fun i _ hi => h2 i hi⟩
              clear HN
              go_wp2_with fail
              go_loopw [73] (fun x W => ∃ i : Nat, i + d ≤ j ∧ x = .int .i64 (i : Int) ∧ Hid (NvMid W vb j 3 lt m i) ∧ Below w.heap.size w W) (fun x _ => j - (intOf x).toNat)
              case atStart => exact ⟨0, by omega, rfl, HM0.out, hb⟩
              case round =>
                clear hb HM0
                obtain ⟨i, hi, rfl, HN, hb⟩ := hrel
                by_cases hit : i + d < j
                · have q4 : (i : Int) < (j : Int) - (d : Int) := by omega
                  obtain ⟨⟨px, py⟩, hp⟩ := HEX.out i (by omega)
                  obtain ⟨⟨qx, qy⟩, hq⟩ := HEX.out (i + d) hit
                  have f1 := After.cell ((HAT.out wr hb).cells hp).1
                  have f2 := After.cell ((HAT.out wr hb).cells hq).1
                  obtain ⟨px64, _⟩ := HL.out _ (List.mem_of_getElem? hp)
                  obtain ⟨qx64, _⟩ := HL.out _ (List.mem_of_getElem? hq)
                  have HPX := Lib.hid ((HXF.out i _ (by omega) hp).1)
                  have HQX := Lib.hid ((HXF.out (i + d) _ hit hq).1)
                  clear hp hq
                  have hi1 : i < j := by omega
                  obtain ⟨e, he⟩ : ∃ e, i + d = e := ⟨_, rfl⟩
                  rw [he] at f2 HQX
                  have he1 : (e : Int) < (j : Int) := by omega
                  have he2 : (e : Int) ≤ 1000000 := by omega
                  have he3 : (i : Int) < (j : Int) := by omega
                  obtain ⟨i1, hi2⟩ : ∃ i1, i + 1 = i1 := ⟨_, rfl⟩
                  have he4 : (i1 : Int) < (j : Int) := by omega
                  have he5 : i1 < j := by omega
                  have w1' : IntKind.i64.wrap ((i : Int) + (d : Int)) = (e : Int) := by rw [wrap_in _ (by omega) (by omega)]; omega
                  have w2' : IntKind.i64.wrap ((i : Int) + 1) = (i1 : Int) := by rw [wrap_in _ (by omega) (by omega)]; omega
                  have HI1 := Lib.hid hi2
                  have HE := Lib.hid he
                  clear hi2 he
                  have HW2 := Lib.hid w2'
                  clear w2'
                  go_wp2_with fail
                  refine wp_region_after (by kernel_rfl) (by kernel_rfl) ?_
                  repeat (go_big_quiet_step (fail))
                  refine wpQuiet_nil ?_
                  rintro w5 ⟨x5, rfl⟩
                  have h5 := x5.hb
                  have hb5 := hb.trans (h5.mono hb.size)
                  have HN5 : Hid (NvMid x5.W vb j 3 lt m i) := by
                    obtain ⟨f, h1, h2, h3⟩ := HN.out
                    exact ⟨f, h1.of_block (h5.block vb h1.lt), h2, h3⟩
                  generalize x5.W = w5 at *
                  clear f1 f2 x5 w1' HN h5
                  obtain ⟨f, HRW, hf1, hf2⟩ := HN5.out
                  have hdm := HD.out
                  have EA := hf2 i (Nat.le_refl _) (by omega)
                  have EB := hf2 i1 (by have := HI1.out; omega) (by have := HI1.out; omega)
                  have INA : In64 (f i) := by rw [EA]; exact nv_in lt HYI.out m i
                  have INB : In64 (f i1) := by rw [EB]; exact nv_in lt HYI.out m i1
                  have cA0 := HRW.cell hi1
                  have cB0 := HRW.cell he5
                  have HXT : Hid (nv QZ inq (Xf lt) (Yf lt) (m + 1) i = Fld.mulS (Fld.subS (Fld.mulS qx (f i) 1152921504606845789) (Fld.mulS px (f i1) 1152921504606845789) 1152921504606845789) (inq (Fld.subS qx px 1152921504606845789)) 1152921504606845789) := by
                    show nv QZ inq (Xf lt) (Yf lt) (m + 1) i = _
                    rw [nv_next, EA, EB, ← HPX.out, ← HQX.out, ← HI1.out, ← HE.out, hdm]
                    rfl
                  have HF := Lib.hid (And.intro hf1 hf2)
                  have HRWH := Lib.hid HRW
                  clear hf1 hf2 EA EB HRW HN5 hdm
                  obtain ⟨A, hA1⟩ : ∃ A, f i = A := ⟨_, rfl⟩
                  obtain ⟨B, hB1⟩ : ∃ B, f i1 = B := ⟨_, rfl⟩
                  rw [hA1] at INA HXT cA0
                  rw [hB1] at INB HXT cB0
                  have HAB := Lib.hid (And.intro hA1 hB1)
                  clear hA1 hB1
                  have D1 := Lib.hid (fun w => Sub_any qx px 1152921504606845789 qx64 px64 (by decide) w)
                  have D2 : Hid (∀ w, Calls Try.prog 18 #[I (Fld.subS qx px 1152921504606845789), I 1152921504606845789] w fun e w' => e = .returned (.tuple #[I (inq (Fld.subS qx px 1152921504606845789)), .bool (Fld.invS (Fld.subS qx px 1152921504606845789) 1152921504606845789).2]) ∧ Below w.heap.size w w') := fun w => Inv_any (Fld.subS qx px 1152921504606845789) 1152921504606845789 (subS_in (by decide)) (by decide) w
                  have D3 := Lib.hid (fun w => Mul_any qx A 1152921504606845789 qx64 INA (by decide) w)
                  have D4 := Lib.hid (fun w => Mul_any px B 1152921504606845789 px64 INB (by decide) w)
                  have D5 := Lib.hid (fun w => Sub_any (Fld.mulS qx A 1152921504606845789) (Fld.mulS px B 1152921504606845789) 1152921504606845789 (mulS_in (by decide)) (mulS_in (by decide)) (by decide) w)
                  have D6 := Lib.hid (fun w => Mul_any (Fld.subS (Fld.mulS qx A 1152921504606845789) (Fld.mulS px B 1152921504606845789) 1152921504606845789) (inq (Fld.subS qx px 1152921504606845789)) 1152921504606845789 (subS_in (by decide)) (inq_in _) (by decide) w)
                  obtain ⟨z1, hz1⟩ : ∃ z1, Fld.subS qx px 1152921504606845789 = z1 := ⟨_, rfl⟩
                  obtain ⟨z3, hz3⟩ : ∃ z3, Fld.mulS qx A 1152921504606845789 = z3 := ⟨_, rfl⟩
                  obtain ⟨z4, hz4⟩ : ∃ z4, Fld.mulS px B 1152921504606845789 = z4 := ⟨_, rfl⟩
                  rw [hz1] at D1 D2 D6 HXT
                  rw [hz3] at D3 D5 D6 HXT
                  rw [hz4] at D4 D5 D6 HXT
                  clear hz1 hz3 hz4
                  obtain ⟨z2, hz2⟩ : ∃ z2, inq z1 = z2 := ⟨_, rfl⟩
                  obtain ⟨z5, hz5⟩ : ∃ z5, Fld.subS z3 z4 1152921504606845789 = z5 := ⟨_, rfl⟩
                  obtain ⟨z0, hz0⟩ : ∃ z0, (Fld.invS z1 1152921504606845789).2 = z0 := ⟨_, rfl⟩
                  rw [hz2, hz0] at D2
                  rw [hz2] at D6 HXT
                  rw [hz5] at D5 D6 HXT
                  clear hz2 hz5 hz0
                  obtain ⟨z6, hz6⟩ : ∃ z6, Fld.mulS z5 z2 1152921504606845789 = z6 := ⟨_, rfl⟩
                  rw [hz6] at D6 HXT
                  clear hz6
                  clear cA0 cB0
                  go_wp2_with fail
                  refine (D1.out _).mono ?_; rintro e w6 ⟨rfl, hb6⟩
                  go_wp2_with fail
                  refine (D2.out _).mono ?_; rintro e w7 ⟨rfl, hb7⟩
                  have h7 := hb6.trans (hb7.mono hb6.size)
                  have HR7 := Lib.hid (HRWH.out.of_block (h7.block vb HRWH.out.lt))
                  have hb7' := hb5.trans (h7.mono hb5.size)
                  clear HRWH h7 hb6 hb7 hb5 D1 D2
                  have fA : ∀ x : After w7, x.W.cell? ⟨vb, i, none⟩ = some (I A) := by
                    rw [← HAB.out.1]; exact After.cell (HR7.out.cell hi1)
                  have fB : ∀ x : After w7, x.W.cell? ⟨vb, i1, none⟩ = some (I B) := by
                    rw [← HAB.out.2]; exact After.cell (HR7.out.cell he5)
                  have w2' := HW2.out
                  go_upto_region 26 with (fail)
                  refine wp_region_after (by kernel_rfl) (by kernel_rfl) ?_
                  repeat (go_big_quiet_step (first | (with_reducible exact After.call (D3.out _)) | (with_reducible exact After.call (D4.out _)) | (with_reducible exact After.call (D5.out _))))
                  refine wpQuiet_nil ?_
                  rintro w8 ⟨x8, rfl⟩
                  have h8 := x8.hb
                  have hb8 := hb7'.trans (h8.mono hb7'.size)
                  have HR8 := Lib.hid (HR7.out.of_block (h8.block vb HR7.out.lt))
                  generalize x8.W = w8 at *
                  clear fA fB w2' x8 h8 HR7 hb7' D3 D4 D5 HW2
                  go_wp2_with fail
                  refine (D6.out _).mono ?_; rintro e w9 ⟨rfl, hb9⟩
                  have R9 := HR8.out.of_block (hb9.block vb HR8.out.lt)
                  have d2 := R9.cell hi1
                  have d3 := R9.frozen i
                  have HR10 := Lib.hid (R9.set i (I z6))
                  have hb10 := (hb8.trans (hb9.mono hb8.size)).setCell (show w.heap.size ≤ (⟨vb, i, none⟩ : Addr).block from hvb') (I z6)
                  clear R9 HR8 hb8 hb9
                  go_wp2_with fail
                  go_roundw
                  case rel =>
                    have H10 : NvMid _ vb j 3 lt m (i + 1) := ⟨fun t => if t = i then z6 else f t, HR10.out.congr (fun t ht => by
                      show (if t = i then I z6 else I (f t)) = I (if t = i then z6 else f t)
                      split <;> rfl), fun t ht => by
                      show (if t = i then z6 else f t) = _
                      by_cases e : t = i
                      · rw [if_pos e, e, HXT.out]
                      · rw [if_neg e]; exact HF.out.1 t (by omega), fun t h1 h2 => by
                      show (if t = i then z6 else f t) = _
                      rw [if_neg (by omega)]; exact HF.out.2 t (by omega) h2⟩
                    exact ⟨i + 1, by omega, by go_num, H10, hb10⟩
                  case measure => simp [intOf]; omega
                · have q4 : ¬ ((i : Int) < (j : Int) - (d : Int)) := by omega
                  have HN2 : Hid (NvRow wr vb j 3 lt d) := by
                    obtain ⟨f, h1, h2, h3⟩ := HN.out
                    show NvRow wr vb j 3 lt d
                    rw [HD.out]
                    exact ⟨f, h1, fun t ht => h2 t (by have := HD.out; omega)⟩
                  clear HN
                  go_wp2_with fail
                  go_roundw
                  case rel => exact ⟨d + 1, d, rfl, by omega, by go_num, HN2.out, hb⟩
                  case measure => simp [intOf]; omega
            · have q2 : ¬ ((d : Int) < (j : Int)) := by omega
              have hj0 : 0 < j := by omega
              obtain ⟨f, h1, h2⟩ := HN.out
              have c0 := h1.cell hj0
              have HR : Hid (r = (f 0, true)) := by
                show r = _
                rw [HY.out, HJV.out, h2 0 (by have := HD.out; omega)]
                have : m = j - 1 := by have := HD.out; omega
                rw [this]
              obtain ⟨z, hz⟩ : ∃ z, f 0 = z := ⟨_, rfl⟩
              rw [hz] at c0 HR
              clear hz h1 h2
              go_wp2_with fail
              refine bodyPost_ret (results_tmp2 rfl _ _ _) rfl ?_
              exact ⟨by rw [HR.out]; rfl, hb⟩

theorem Join_any (need : Int) (l : List (Int × Int)) (v : Value) (w : World) (hl : AllS64 l) (hl9 : l.length ≤ 1000000) (hA : ShArg w v l) :
    Calls Try.prog 16 #[.int .i64 need, v] w fun e w' => e = .returned (.tuple #[I (joinS need l).1, .bool (joinS need l).2]) ∧ Below w.heap.size w w' := by
  by_cases h1 : need < 1
  · obtain ⟨a, cap, rfl, hc, hA'⟩ := hA
    have HR := Lib.hid (joinS_no (l := l) (.inl h1))
    clear hA'
    rw [HR.out]
    have t1 : decide (need < 1) = true := decide_eq_true h1
    go_enter Try.func16, Try.ntmps16
    go_wp2_with fail
    refine bodyPost_ret (results_tmp2 rfl _ _ _) rfl ?_
    exact ⟨rfl, Below.refl _ _⟩
  · by_cases h2 : (l.length : Int) < need
    · obtain ⟨a, cap, rfl, hc, hA'⟩ := hA
      have HR := Lib.hid (joinS_no (l := l) (.inr h2))
      clear hA'
      rw [HR.out]
      have t1 : decide (need < 1) = false := decide_eq_false h1
      have t2 : decide ((l.length : Int) < need) = true := decide_eq_true h2
      go_enter Try.func16, Try.ntmps16
      go_wp2_with fail
      refine bodyPost_ret (results_tmp2 rfl _ _ _) rfl ?_
      exact ⟨rfl, Below.refl _ _⟩
    · obtain ⟨N, rfl⟩ := Int.eq_ofNat_of_zero_le (show 0 ≤ need by omega)
      exact join_main N l v w hl hl9 hA (by omega) (by omega)
end Go.Proofs.Ytdnabeldaighgaa
