/- shares: two lists of shares are the same. Conditions: sizes. -/
import Derived.Test.YtdnabeldaighgaaMad
namespace Go.Proofs.Ytdnabeldaighgaa
open Go.RowKit Go.Shelf Shr

theorem quiet_load_at {P : Program} {ops : Array Oper} {w : World} {Q : Act → Prop} {a : Act} {o : Oper} {rest : List Oper} (ty : TypeId) (x : Operand) (ho : o.op = .load ty x) (p : Addr) (hx : a.eval x = .pointer (some p)) (R : Array Value)
    (hl : ∀ y : After w, (loadVar ty p).run P y.W = .ok (.agg R) y.W) (hw : Region.wanted o (yielded ops a.tmps) = true)
    (h : wpQuiet P ops (fun w' => ∃ x : After w, w' = x.W) Q rest (a.put o.dst (.agg R))) : wpQuiet P ops (fun w' => ∃ x : After w, w' = x.W) Q (o :: rest) a := by
  unfold wpQuiet
  rw [if_pos hw]
  refine ⟨.agg R, ?_, h⟩
  rintro w' ⟨y, rfl⟩
  unfold Oper.quietAt execOp
  simp only [ho, hx, Instr.loadAt, Instr.sureAddr, Sem.run_bind, Sem.run_pure, Result.andThen_ok, hl y]
  exact ⟨rfl, rfl⟩
theorem sizeShare : (Try.prog.info? 33).map (·.size) = some 2 := by kernel_rfl
theorem After.share {w : World} {g o : Nat} {x y : Int} (h0 : w.cell? ⟨g, o, none⟩ = some (I x)) (h1 : w.cell? ⟨g, o + 1, none⟩ = some (I y)) : ∀ z : After w, (loadVar 33 ⟨g, o, none⟩).run Try.prog z.W = .ok (.agg #[I x, I y]) z.W := fun z =>
  run_loadVar_mid z.W g o 33 [I x, I y] _ (fun j v hv => by
    match j, hv with
    | 0, hv => cases hv; exact keepCells z.hb _ _ h0
    | 1, hv => cases hv; exact keepCells z.hb _ _ h1) Try.underlying33 rfl sizeShare
set_option maxRecDepth 100000 in
set_option maxHeartbeats 1000000 in
theorem shares_any (l m : List (Int × Int)) (v u : Value) (w : World) (hl9 : l.length ≤ 9223372036854775807) (hm9 : m.length ≤ 9223372036854775807) (hA : ShArg w v l) (hA2 : ShArg w u m) :
    Calls Try.prog 25 #[v, u] w fun e w' => e = .returned (.bool (l == m)) ∧ Below w.heap.size w w' := by
  obtain ⟨a, cap, rfl, hc, hA⟩ := hA
  obtain ⟨a2, cap2, rfl, hc2, hA2⟩ := hA2
  have HA := Lib.hid hA
  have HA2 := Lib.hid hA2
  clear hA hA2
  obtain ⟨res, hres⟩ : ∃ res, (l == m) = res := ⟨_, rfl⟩
  have HRES := Lib.hid hres
  rw [hres]
  clear hres
  have HEX : Hid (∀ (k : Nat), k < l.length → ∃ c, l[k]? = some c) := fun k hk => ⟨l[k], List.getElem?_eq_getElem hk⟩
  have HEX2 : Hid (∀ (k : Nat), k < m.length → ∃ c, m[k]? = some c) := fun k hk => ⟨m[k], List.getElem?_eq_getElem hk⟩
  have HNE : Hid (∀ (k : Nat) (c : Int × Int), l[k]? = some c → l ≠ []) := by
    show ∀ (k : Nat) (c : Int × Int), _
    rintro k c h rfl
    simp at h
  have HNE2 : Hid (∀ (k : Nat) (c : Int × Int), m[k]? = some c → m ≠ []) := by
    show ∀ (k : Nat) (c : Int × Int), _
    rintro k c h rfl
    simp at h
  by_cases hnm : l.length = m.length
  · have HNM := Lib.hid hnm
    obtain ⟨n, hn⟩ : ∃ n, l.length = n := ⟨_, rfl⟩
    rw [← hnm] at hc2 hm9 HEX2
    rw [← hnm]
    rw [hn] at hc hc2 hl9 hm9 HEX HEX2
    rw [hn]
    have HN := Lib.hid hn
    clear hn hnm
    have t0 : ((n : Int) != (n : Int)) = false := by simp
    go_enter Try.func25, Try.ntmps25
    go_wp2_with fail
    go_loopw [5] (fun i wr => ∃ k : Nat, k ≤ n ∧ i = .int .i64 (k : Int) ∧ Hid (∀ (j : Nat), j < k → ∀ (c d : Int × Int), l[j]? = some c → m[j]? = some d → c = d) ∧ Below w.heap.size w wr) (fun i _ => n - (intOf i).toNat)
    case atStart => exact ⟨0, by omega, rfl, fun j hj => absurd hj (by omega), Below.refl _ _⟩
    case round =>
      obtain ⟨k, hk, rfl, HL, hb⟩ := hrel
      by_cases hlt : k < n
      · obtain ⟨c, hck⟩ := HEX.out k hlt
        obtain ⟨d, hdk⟩ := HEX2.out k hlt
        obtain ⟨g, o, rfl, hAt⟩ := HA.out (HNE.out k c hck)
        obtain ⟨g2, o2, rfl, hAt2⟩ := HA2.out (HNE2.out k d hdk)
        obtain ⟨cx, cy⟩ := c
        obtain ⟨dx, dy⟩ := d
        have f1 := After.share (keepCells hb _ _ (hAt.cells hck).1) (keepCells hb _ _ (hAt.cells hck).2)
        have f2 := After.share (keepCells hb _ _ (hAt2.cells hdk).1) (keepCells hb _ _ (hAt2.cells hdk).2)
        have HCK := Lib.hid hck
        have HDK := Lib.hid hdk
        have t4 : (k : Int) < (n : Int) := by omega
        clear hck hAt hdk hAt2
        by_cases e1 : cx = dx
        · by_cases e2 : cy = dy
          · subst e1 e2
            go_upto_region 6 with (fail)
            refine wp_region_after (by kernel_rfl) (by kernel_rfl) ?_
            repeat (first
              | (refine quiet_load_at 33 (.tmp 19) (by rfl) ⟨g, o + k * 2, none⟩ (by rfl) #[I cx, I cy] f1 (by kernel_rfl) ?_; go_frame)
              | (refine quiet_load_at 33 (.tmp 23) (by rfl) ⟨g2, o2 + k * 2, none⟩ (by rfl) #[I cx, I cy] f2 (by kernel_rfl) ?_; go_frame)
              | (go_big_quiet_step (fail)))
            refine wpQuiet_nil ?_
            rintro w5 ⟨x5, rfl⟩
            have hb5 := hb.trans (x5.hb.mono hb.size)
            generalize x5.W = w5 at *
            clear f1 f2 x5 hb
            go_wp2_with fail
            go_roundw
            case rel =>
              refine ⟨k + 1, by omega, by go_num, fun j hj c' d' hc' hd' => ?_, hb5⟩
              by_cases hjk : j < k
              · exact HL.out j hjk c' d' hc' hd'
              · obtain rfl : j = k := by omega
                rw [HCK.out] at hc'
                rw [HDK.out] at hd'
                injection hc' with hc'
                injection hd' with hd'
                rw [← hc', ← hd']
            case measure => simp [intOf]; omega
          · skip
            have HCD : Hid (res = false) := by
              show res = false
              rw [← HRES.out]
              simp only [beq_eq_false_iff_ne, ne_eq]
              rintro rfl
              have h3 := HCK.out.symm.trans HDK.out
              injection h3 with h3
              injection h3 with h3 h4
              exact e2 h4
            go_upto_region 6 with (fail)
            refine wp_region_after (by kernel_rfl) (by kernel_rfl) ?_
            repeat (first
              | (refine quiet_load_at 33 (.tmp 19) (by rfl) ⟨g, o + k * 2, none⟩ (by rfl) #[I cx, I cy] f1 (by kernel_rfl) ?_; go_frame)
              | (refine quiet_load_at 33 (.tmp 23) (by rfl) ⟨g2, o2 + k * 2, none⟩ (by rfl) #[I dx, I dy] f2 (by kernel_rfl) ?_; go_frame)
              | (go_big_quiet_step (fail)))
            refine wpQuiet_nil ?_
            rintro w5 ⟨x5, rfl⟩
            have hb5 := hb.trans (x5.hb.mono hb.size)
            generalize x5.W = w5 at *
            clear f1 f2 x5 hb
            go_wp2_with fail
            go_ret
            exact ⟨by rw [HCD.out]; rfl, hb5⟩
        · skip
          have HCD : Hid (res = false) := by
            show res = false
            rw [← HRES.out]
            simp only [beq_eq_false_iff_ne, ne_eq]
            rintro rfl
            have h3 := HCK.out.symm.trans HDK.out
            injection h3 with h3
            injection h3 with h3 h4
            exact e1 h3
          go_upto_region 6 with (fail)
          refine wp_region_after (by kernel_rfl) (by kernel_rfl) ?_
          repeat (first
            | (refine quiet_load_at 33 (.tmp 19) (by rfl) ⟨g, o + k * 2, none⟩ (by rfl) #[I cx, I cy] f1 (by kernel_rfl) ?_; go_frame)
            | (refine quiet_load_at 33 (.tmp 23) (by rfl) ⟨g2, o2 + k * 2, none⟩ (by rfl) #[I dx, I dy] f2 (by kernel_rfl) ?_; go_frame)
            | (go_big_quiet_step (fail)))
          refine wpQuiet_nil ?_
          rintro w5 ⟨x5, rfl⟩
          have hb5 := hb.trans (x5.hb.mono hb.size)
          generalize x5.W = w5 at *
          clear f1 f2 x5 hb
          go_wp2_with fail
          go_ret
          exact ⟨by rw [HCD.out]; rfl, hb5⟩
      · have t4 : ¬ ((k : Int) < (n : Int)) := by omega
        have HT : Hid (res = true) := by
          show res = true
          rw [← HRES.out, beq_iff_eq]
          refine list_same HNM.out fun j c d h1 h2 => ?_
          have hj := (List.getElem?_eq_some_iff.1 h1).1
          by_cases hjk : j < k
          · exact HL.out j hjk c d h1 h2
          · exfalso
            have := HN.out
            omega
        go_wp2_with fail
        go_ret
        exact ⟨by rw [HT.out]; rfl, hb⟩
  · have HF : Hid (res = false) := by
      show res = false
      rw [← HRES.out]
      simp only [beq_eq_false_iff_ne, ne_eq]
      rintro rfl
      exact hnm rfl
    have t0 : ((l.length : Int) != (m.length : Int)) = true := by rw [bne_iff_ne]; omega
    go_enter Try.func25, Try.ntmps25
    go_wp2_with fail
    go_ret
    exact ⟨by rw [HF.out]; rfl, Below.refl _ _⟩
end Go.Proofs.Ytdnabeldaighgaa
