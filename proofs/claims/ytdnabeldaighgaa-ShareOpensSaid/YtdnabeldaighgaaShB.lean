/- value, Commits, fits, Verify, Ints of the reference. Conditions: the range of int. -/
import Derived.Test.YtdnabeldaighgaaShA
namespace Go.Proofs.Ytdnabeldaighgaa
open Go.RowKit Go.Shelf Shr

theorem quiet_eq {P : Program} {f : FuncId} {args : Array Value} {w : World} {v : Value} (h : Calls P f args w fun e w' => e = .returned v ∧ w = w') : Calls P f args w fun e w' => e = .returned v ∧ Below w.heap.size w w' :=
  h.mono fun _ _ ⟨he, hw⟩ => ⟨he, hw ▸ Below.refl _ _⟩
theorem getD_of {l : List Int} {k : Nat} {c : Int} (h : l[k]? = some c) : l.getD k 0 = c := by
  rw [List.getD_eq_getElem?_getD, h]; rfl
theorem All64.get {l : List Int} (h : All64 l) {k : Nat} {c : Int} (hk : l[k]? = some c) : In64 c := h c (List.mem_of_getElem? hk)

set_option maxRecDepth 100000 in
set_option maxHeartbeats 1000000 in
theorem value_any (l : List Int) (x : Int) (v : Value) (w : World) (hx : In64 x) (hl : All64 l) (hl9 : l.length ≤ 1000000) (hA : IArg w v l) :
    Calls Try.prog 45 #[v, I x] w fun e w' => e = .returned (I (hor l x l.length)) ∧ Below w.heap.size w w' := by
  obtain ⟨a, cap, rfl, hc, hA⟩ := hA
  have HA := Lib.hid hA
  have HH := Lib.hid (fun k => hor_in l x k)
  have HST : Hid (∀ (k : Nat) (c : Int), l[l.length - 1 - k]? = some c → hor l x (k + 1) = Fld.addS (Fld.mulS (hor l x k) x 1152921504606845789) c 1152921504606845789) := by
    show ∀ (k : Nat) (c : Int), _
    intro k c h
    show Fld.addS (Fld.mulS (hor l x k) x QZ) (l.getD (l.length - 1 - k) 0) QZ = _
    rw [getD_of h]
  clear hA
  obtain ⟨n, hn⟩ : ∃ n, l.length = n := ⟨_, rfl⟩
  have HN := Lib.hid hn
  rw [hn] at HST hl9 hc
  rw [hn]
  clear hn
  have e1 : IntKind.i64.wrap ((n : Int) - 1) = (n : Int) - 1 := wrap_in _ (by omega) (by omega)
  go_enter Try.func45, Try.ntmps45
  go_wp2_with fail
  go_loopw [5, 6] (fun o i wr => ∃ (k : Nat) (j : Int), k ≤ n ∧ j = (n : Int) - 1 - k ∧ o = I (hor l x k) ∧ i = I j ∧ Below w.heap.size w wr) (fun _ i _ => (intOf i + 1).toNat)
  case atStart => exact ⟨0, (n : Int) - 1, by omega, by omega, rfl, rfl, Below.refl _ _⟩
  case round =>
    clear e1
    obtain ⟨k, j, hk, hj, rfl, rfl, hb⟩ := hrel
    by_cases hlt : k < n
    · obtain ⟨jn, rfl⟩ : ∃ jn : Nat, j = (jn : Int) := ⟨j.toNat, by omega⟩
      have hjn : jn = n - 1 - k := by omega
      obtain ⟨c, hc2⟩ : ∃ c, l[jn]? = some c := ⟨l[jn]'(by have := HN.out; omega), List.getElem?_eq_getElem _⟩
      have hc64 := hl.get hc2
      obtain ⟨g, o, rfl, hAt⟩ := HA.out (by rintro rfl; simp at hc2)
      have c1 := keepCells hb _ _ (hAt jn c hc2)
      have f1 := After.cell c1
      have hst := HST.out k c (by rw [← hjn]; exact hc2)
      have ho := HH.out k
      have D1 := Lib.hid (fun w => quiet_eq (RMul_any (hor l x k) x 1152921504606845789 ho hx (by decide) w))
      have D2 := Lib.hid (fun w => quiet_eq (RAdd_any (Fld.mulS (hor l x k) x 1152921504606845789) c 1152921504606845789 (mulS_in (by decide)) hc64 (by decide) w))
      rw [← hst] at D2
      have t1 : (0 : Int) ≤ (jn : Int) := by omega
      have t2 : (jn : Int) < (n : Int) := by omega
      have t3 : (jn : Int) ≤ 1000000 := by omega
      have HJ := Lib.hid hj
      clear hst c1 hc2 hAt ho hjn hj
      obtain ⟨o2, ho2⟩ : ∃ o2, hor l x (k + 1) = o2 := ⟨_, rfl⟩
      rw [ho2] at D2
      have HO2 := Lib.hid ho2
      clear ho2
      go_upto_region 5 with (fail)
      refine wp_region_after (by kernel_rfl) (by kernel_rfl) ?_
      repeat (go_big_quiet_step (first | (with_reducible exact After.call (D1.out _)) | (with_reducible exact After.call (D2.out _))))
      refine wpQuiet_nil ?_
      rintro w5 ⟨x5, rfl⟩
      have hb5 := hb.trans (x5.hb.mono hb.size)
      generalize x5.W = w5 at *
      clear f1 D1 D2 x5
      go_wp2_with fail
      go_roundw
      case rel => exact ⟨k + 1, (jn : Int) - 1, by omega, by have := HJ.out; omega, by rw [HO2.out], rfl, hb5⟩
      case measure => simp [intOf]
    · have hke : k = n := by omega
      subst hke
      obtain rfl : j = -1 := by omega
      go_wp2_with fail
      go_ret
      exact ⟨rfl, hb⟩

set_option maxRecDepth 100000 in
set_option maxHeartbeats 1000000 in
theorem Commits_any (l : List Int) (v : Value) (w : World) (hl : All64 l) (hl9 : l.length ≤ 9223372036854775807) (hA : IArg w v l) :
    Calls Try.prog 46 #[v] w fun e w' => e = .returned (.bool (comm l)) ∧ w = w' := by
  obtain ⟨a, cap, rfl, hc, hA⟩ := hA
  have HCM : Hid (comm l = (decide (1 ≤ l.length) && decide (l.length ≤ 100) && l.all FldP.memS)) := rfl
  obtain ⟨res, hres⟩ : ∃ res, comm l = res := ⟨_, rfl⟩
  rw [hres] at HCM
  rw [hres]
  clear hres
  have HA := Lib.hid hA
  have HALL : Hid (∀ (k : Nat), k ≤ l.length → (∀ (j : Nat), j < k → ∀ (c : Int), l[j]? = some c → FldP.memS c = true) → k = l.length → l.all FldP.memS = true) := by
    show ∀ (k : Nat), _
    intro k _ h e
    rw [List.all_eq_true]
    intro x hx
    obtain ⟨j, hj, rfl⟩ := List.getElem_of_mem hx
    exact h j (by omega) _ (List.getElem?_eq_getElem hj)
  have HNOT : Hid (∀ (k : Nat) (c : Int), l[k]? = some c → FldP.memS c = false → l.all FldP.memS = false) := by
    show ∀ (k : Nat) (c : Int), _
    intro k c h1 h2
    rw [List.all_eq_false]
    exact ⟨c, List.mem_of_getElem? h1, by rw [h2]; simp⟩
  have HEX : Hid (∀ (k : Nat), k < l.length → ∃ c, l[k]? = some c) := fun k hk => ⟨l[k], List.getElem?_eq_getElem hk⟩
  clear hA
  have HNE : Hid (∀ (k : Nat) (c : Int), l[k]? = some c → l ≠ []) := by
    show ∀ (k : Nat) (c : Int), _
    rintro k c h rfl
    simp at h
  obtain ⟨al, hal⟩ : ∃ al, l.all FldP.memS = al := ⟨_, rfl⟩
  rw [hal] at HCM HALL HNOT
  clear hal
  obtain ⟨n, hn⟩ : ∃ n, l.length = n := ⟨_, rfl⟩
  rw [hn] at HCM HALL hl9 hc HEX
  rw [hn]
  clear hn
  by_cases h1 : n < 1
  · have t1 : ((n : Int) < 1) := by omega
    have HR : Hid (res = false) := by
      show res = false
      have := HCM.out
      rw [decide_eq_false (show ¬ 1 ≤ n by omega)] at this
      simpa using this
    clear HCM
    go_enter Try.func46, Try.ntmps46
    go_wp2_with fail
    go_ret
    exact ⟨by rw [HR.out]; rfl, rfl⟩
  · by_cases h2 : 100 < n
    · have t1 : ¬ ((n : Int) < 1) := by omega
      have t2 : ((100 : Int) < (n : Int)) := by omega
      have t3 : decide ((n : Int) > 100) = true := decide_eq_true t2
      have HR : Hid (res = false) := by
        show res = false
        have := HCM.out
        rw [decide_eq_false (show ¬ n ≤ 100 by omega)] at this
        simpa using this
      clear HCM
      go_enter Try.func46, Try.ntmps46
      go_wp2_with fail
      go_ret
      exact ⟨by rw [HR.out]; rfl, rfl⟩
    · have t1 : ¬ ((n : Int) < 1) := by omega
      have t2 : ¬ ((100 : Int) < (n : Int)) := by omega
      have t3 : decide ((n : Int) > 100) = false := decide_eq_false t2
      have HR : Hid (res = al) := by
        show res = al
        have := HCM.out
        rw [decide_eq_true (show 1 ≤ n by omega), decide_eq_true (show n ≤ 100 by omega)] at this
        simpa using this
      clear HCM
      go_enter Try.func46, Try.ntmps46
      go_wp2_with fail
      go_loopw [3] (fun i wr => ∃ k : Nat, k ≤ n ∧ i = .int .i64 (k : Int) ∧ (∀ (j : Nat), j < k → ∀ (c : Int), l[j]? = some c → FldP.memS c = true) ∧ wr = w) (fun i _ => n - (intOf i).toNat)
      case atStart => exact ⟨0, by omega, rfl, fun j hj => absurd hj (by omega), rfl⟩
      case round =>
        obtain ⟨k, hk, rfl, hall, rfl⟩ := hrel
        have HL := Lib.hid hall
        clear hall
        by_cases hlt : k < n
        · obtain ⟨c, hck⟩ := HEX.out k hlt
          have hc64 := hl.get hck
          obtain ⟨g, o, rfl, hAt⟩ := HA.out (HNE.out k c hck)
          have c1 := hAt k c hck
          have D1 := Lib.hid (fun w => RMember_any c hc64 w)
          have HCK := Lib.hid hck
          have t4 : (k : Int) < (n : Int) := by omega
          obtain ⟨b, hb⟩ : ∃ b, FldP.memS c = b := ⟨_, rfl⟩
          have HB := Lib.hid hb
          rw [hb] at D1
          clear hb hck hAt
          go_wp2_with fail
          refine (D1.out _).mono ?_; rintro e w1 ⟨rfl, rfl⟩
          cases b
          · go_wp2_with fail
            go_ret
            exact ⟨by rw [HR.out, HNOT.out k c HCK.out HB.out]; rfl, rfl⟩
          · go_wp2_with fail
            go_roundw
            case rel =>
              refine ⟨k + 1, by omega, by go_num, fun j hj c' hc' => ?_, trivial⟩
              by_cases hjk : j < k
              · exact HL.out j hjk c' hc'
              · obtain rfl : j = k := by omega
                rw [HCK.out] at hc'
                injection hc' with hc'
                rw [← hc']; exact HB.out
            case measure => simp [intOf]; omega
        · have t4 : ¬ ((k : Int) < (n : Int)) := by omega
          go_wp2_with fail
          go_ret
          exact ⟨by rw [HR.out, HALL.out k hk HL.out (by omega)]; rfl, rfl⟩

/-- Two lists are the same. -/
theorem list_same {α : Type} {l m : List α} (hn : l.length = m.length) (h : ∀ (j : Nat) (c d : α), l[j]? = some c → m[j]? = some d → c = d) : l = m := by
  apply List.ext_getElem? 
  intro j
  by_cases hj : j < l.length
  · rw [List.getElem?_eq_getElem hj, List.getElem?_eq_getElem (by omega)]
    exact congrArg some (h j _ _ (List.getElem?_eq_getElem hj) (List.getElem?_eq_getElem (by omega)))
  · rw [List.getElem?_eq_none (by omega), List.getElem?_eq_none (by omega)]
set_option maxRecDepth 100000 in
set_option maxHeartbeats 1000000 in
theorem Ints_any (l m : List Int) (v u : Value) (w : World) (hl9 : l.length ≤ 9223372036854775807) (hm9 : m.length ≤ 9223372036854775807) (hA : IArg w v l) (hA2 : IArg w u m) :
    Calls Try.prog 26 #[v, u] w fun e w' => e = .returned (.bool (l == m)) ∧ Below w.heap.size w w' := by
  obtain ⟨a, cap, rfl, hc, hA⟩ := hA
  obtain ⟨a2, cap2, rfl, hc2, hA2⟩ := hA2
  have HA := Lib.hid hA
  have HA2 := Lib.hid hA2
  clear hA hA2
  obtain ⟨res, hres⟩ : ∃ res, (l == m) = res := ⟨_, rfl⟩
  have HRES := Lib.hid hres
  rw [hres]
  clear hres
  have HEX : Hid (∀ (k : Nat), k < l.length → ∃ c, l[k]? = some c) := fun k hk => ⟨l[k], List.getElem?_eq_getElem hk⟩
  have HEX2 : Hid (∀ (k : Nat), k < m.length → ∃ c, m[k]? = some c) := fun k hk => ⟨m[k], List.getElem?_eq_getElem hk⟩
  have HNE : Hid (∀ (k : Nat) (c : Int), l[k]? = some c → l ≠ []) := by
    show ∀ (k : Nat) (c : Int), _
    rintro k c h rfl
    simp at h
  have HNE2 : Hid (∀ (k : Nat) (c : Int), m[k]? = some c → m ≠ []) := by
    show ∀ (k : Nat) (c : Int), _
    rintro k c h rfl
    simp at h
  by_cases hnm : l.length = m.length
  · have HNM := Lib.hid hnm
    obtain ⟨n, hn⟩ : ∃ n, l.length = n := ⟨_, rfl⟩
    rw [← hnm] at hc2 hm9 HEX2
    rw [← hnm]
    rw [hn] at hc hc2 hl9 hm9 HEX HEX2
    rw [hn]
    have HN := Lib.hid hn
    clear hn hnm
    have t0 : ((n : Int) != (n : Int)) = false := by simp
    go_enter Try.func26, Try.ntmps26
    go_wp2_with fail
    go_loopw [5] (fun i wr => ∃ k : Nat, k ≤ n ∧ i = .int .i64 (k : Int) ∧ Hid (∀ (j : Nat), j < k → ∀ (c d : Int), l[j]? = some c → m[j]? = some d → c = d) ∧ Below w.heap.size w wr) (fun i _ => n - (intOf i).toNat)
    case atStart => exact ⟨0, by omega, rfl, fun j hj => absurd hj (by omega), Below.refl _ _⟩
    case round =>
      obtain ⟨k, hk, rfl, HL, hb⟩ := hrel
      by_cases hlt : k < n
      · obtain ⟨c, hck⟩ := HEX.out k hlt
        obtain ⟨d, hdk⟩ := HEX2.out k hlt
        obtain ⟨g, o, rfl, hAt⟩ := HA.out (HNE.out k c hck)
        obtain ⟨g2, o2, rfl, hAt2⟩ := HA2.out (HNE2.out k d hdk)
        have f1 := After.cell (keepCells hb _ _ (hAt k c hck))
        have f2 := After.cell (keepCells hb _ _ (hAt2 k d hdk))
        have HCK := Lib.hid hck
        have HDK := Lib.hid hdk
        have t4 : (k : Int) < (n : Int) := by omega
        clear hck hAt hdk hAt2
        go_upto_region 6 with (fail)
        refine wp_region_after (by kernel_rfl) (by kernel_rfl) ?_
        repeat (go_big_quiet_step (fail))
        refine wpQuiet_nil ?_
        rintro w5 ⟨x5, rfl⟩
        have hb5 := hb.trans (x5.hb.mono hb.size)
        generalize x5.W = w5 at *
        clear f1 f2 x5 hb
        by_cases hcd : c = d
        · have t5 : (c != d) = false := by simp [hcd]
          have HCD := Lib.hid hcd
          clear hcd
          go_wp2_with fail
          go_roundw
          case rel =>
            refine ⟨k + 1, by omega, by go_num, fun j hj c' d' hc' hd' => ?_, hb5⟩
            by_cases hjk : j < k
            · exact HL.out j hjk c' d' hc' hd'
            · obtain rfl : j = k := by omega
              rw [HCK.out] at hc'
              rw [HDK.out] at hd'
              injection hc' with hc'
              injection hd' with hd'
              rw [← hc', ← hd']; exact HCD.out
          case measure => simp [intOf]; omega
        · have t5 : (c != d) = true := by simp [hcd]
          have HCD : Hid (res = false) := by
            show res = false
            rw [← HRES.out]
            simp only [beq_eq_false_iff_ne, ne_eq]
            rintro rfl
            rw [HCK.out] at HDK
            injection HDK.out with h
            exact hcd h
          clear hcd
          go_wp2_with fail
          go_ret
          exact ⟨by rw [HCD.out]; rfl, hb5⟩
      · have t4 : ¬ ((k : Int) < (n : Int)) := by omega
        have HT : Hid (res = true) := by
          show res = true
          rw [← HRES.out, beq_iff_eq]
          refine list_same HNM.out fun j c d h1 h2 => ?_
          have hj := (List.getElem?_eq_some_iff.1 h1).1
          by_cases hjk : j < k
          · exact HL.out j hjk c d h1 h2
          · exfalso
            have := HN.out
            omega
        go_wp2_with fail
        go_ret
        exact ⟨by rw [HT.out]; rfl, hb⟩
  · have HF : Hid (res = false) := by
      show res = false
      rw [← HRES.out]
      simp only [beq_eq_false_iff_ne, ne_eq]
      rintro rfl
      exact hnm rfl
    have t0 : ((l.length : Int) != (m.length : Int)) = true := by rw [bne_iff_ne]; omega
    go_enter Try.func26, Try.ntmps26
    go_wp2_with fail
    go_ret
    exact ⟨by rw [HF.out]; rfl, Below.refl _ _⟩
end Go.Proofs.Ytdnabeldaighgaa
