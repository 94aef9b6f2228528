/- fits, Verify of the reference; the choice of numbers; right. Conditions: the range of int. -/
import Derived.Test.YtdnabeldaighgaaShB
namespace Go.Proofs.Ytdnabeldaighgaa
open Go.RowKit Go.Shelf Shr

set_option maxRecDepth 100000 in
set_option maxHeartbeats 1000000 in
theorem RFits_any (l : List Int) (x y : Int) (v : Value) (w : World) (hl : All64 l) (hx : In64 x) (hy : In64 y) (hl9 : l.length ≤ 9223372036854775807) (hA : IArg w v l) :
    Calls Try.prog 47 #[v, .agg #[I x, I y]] w fun e w' => e = .returned (.bool (fts l (x, y))) ∧ Below w.heap.size w w' := by
  have HFT : Hid (fts l (x, y) = (insd (x, y) && (prd l x l.length == Fld.powS 4 y 2305843009213691579))) := rfl
  obtain ⟨res, hres⟩ : ∃ res, fts l (x, y) = res := ⟨_, rfl⟩
  rw [hres] at HFT
  rw [hres]
  clear hres
  have N3 := Blk.new w #[I x, I y] 33
  have hb1 := (Below.refl w.heap.size w).alloc (Nat.le_refl _) (.cells #[I x, I y] 33)
  have N4 := N3.alloc (.cells #[I x, I y] 33)
  have hb2 := hb1.alloc hb1.size (.cells #[I x, I y] 33)
  have c0 := N3.cell 0 _ rfl
  have c1 := N3.cell 1 _ rfl
  have HA := Lib.hid (hA.below hb2)
  have IN := Lib.hid (fun w => rinside_any x y w)
  have HP : Hid (∀ (k : Nat) (c : Int), l[k]? = some c → prd l x (k + 1) = Fld.mulS (prd l x k) (Fld.powS c (pws x k) 2305843009213691579) 2305843009213691579) := by
    show ∀ (k : Nat) (c : Int), _
    intro k c h
    show Fld.mulS (prd l x k) (Fld.powS (l.getD k 0) (pws x k) PZ) PZ = _
    rw [getD_of h]
  have HQ : Hid (∀ k, pws x (k + 1) = Fld.mulS (pws x k) x 1152921504606845789) := fun k => rfl
  have HI := Lib.hid (fun k => prd_in l x k)
  have HI2 := Lib.hid (fun k => pws_in x k)
  obtain ⟨a, cap, rfl, hc, _⟩ := id hA
  clear hA N3
  obtain ⟨b, hbb⟩ : ∃ b, insd (x, y) = b := ⟨_, rfl⟩
  rw [hbb] at HFT IN
  clear hbb
  cases b
  · have HR : Hid (res = false) := by
      show res = false
      have := HFT.out
      simpa using this
    clear HFT
    go_enter Try.func47, Try.ntmps47
    go_wp2_with fail
    refine (IN.out _).mono ?_; rintro e w1 ⟨rfl, rfl⟩
    go_wp2_with fail
    go_ret
    exact ⟨by rw [HR.out]; rfl, hb2⟩
  · have HR : Hid (res = (prd l x l.length == Fld.powS 4 y 2305843009213691579)) := by
      show res = _
      have := HFT.out
      simpa using this
    clear HFT
    go_enter Try.func47, Try.ntmps47
    go_wp2_with fail
    refine (IN.out _).mono ?_; rintro e w1 ⟨rfl, rfl⟩
    clear c0 c1 IN
    have c0 := N4.cell 0 _ rfl
    have c1 := N4.cell 1 _ rfl
    generalize (w.alloc (.cells #[I x, I y] 33)).alloc (.cells #[I x, I y] 33) = w2 at *
    go_wp2_with fail
    go_loopw [5, 6, 7] (fun p q i wr => ∃ k : Nat, k ≤ l.length ∧ p = I (prd l x k) ∧ q = I (pws x k) ∧ i = .int .i64 (k : Int) ∧ wr = w2) (fun _ _ i _ => l.length - (intOf i).toNat)
    case atStart => exact ⟨0, by omega, rfl, rfl, rfl, rfl⟩
    case round =>
      obtain ⟨k, hk, rfl, rfl, rfl, rfl⟩ := hrel
      by_cases hlt : k < l.length
      · obtain ⟨c, hck⟩ : ∃ c, l[k]? = some c := ⟨l[k], List.getElem?_eq_getElem hlt⟩
        have hc64 := hl.get hck
        obtain ⟨_, _, e1, _, hA2⟩ := HA.out
        cases e1
        obtain ⟨g, o, rfl, hAt⟩ := hA2 (by rintro rfl; simp at hck)
        have c2 := hAt k c hck
        have D1 := Lib.hid (fun w => RPow_any c (pws x k) 2305843009213691579 hc64 (HI2.out k) (by decide) w)
        have D2 := Lib.hid (fun w => RMul_any (prd l x k) (Fld.powS c (pws x k) 2305843009213691579) 2305843009213691579 (HI.out k) (powS_in (by decide)) (by decide) w)
        have D3 := Lib.hid (fun w => RMul_any (pws x k) x 1152921504606845789 (HI2.out k) hx (by decide) w)
        rw [← HP.out k c hck] at D2
        rw [← HQ.out k] at D3
        have t1 : (k : Int) < (l.length : Int) := by omega
        obtain ⟨p2, hp2⟩ : ∃ p2, prd l x (k + 1) = p2 := ⟨_, rfl⟩
        obtain ⟨q2, hq2⟩ : ∃ q2, pws x (k + 1) = q2 := ⟨_, rfl⟩
        rw [hp2] at D2
        rw [hq2] at D3
        have HP2 := Lib.hid hp2
        have HQ2 := Lib.hid hq2
        clear hp2 hq2 hck hAt
        go_wp2_with fail
        refine (D1.out _).mono ?_; rintro e w3 ⟨rfl, rfl⟩
        go_wp2_with fail
        refine (D2.out _).mono ?_; rintro e w3 ⟨rfl, rfl⟩
        go_wp2_with fail
        refine (D3.out _).mono ?_; rintro e w3 ⟨rfl, rfl⟩
        go_wp2_with fail
        go_roundw
        case rel => exact ⟨k + 1, by omega, by rw [HP2.out], by rw [HQ2.out], by go_num, trivial⟩
        case measure => simp [intOf]; omega
      · have t1 : ¬ ((k : Int) < (l.length : Int)) := by omega
        have hke : k = l.length := by omega
        have HK := Lib.hid hke
        have D1 := Lib.hid (fun w => RPow_any 4 y 2305843009213691579 ⟨by decide, by decide⟩ hy (by decide) w)
        have HR2 : Hid (res = (prd l x k == Fld.powS 4 y 2305843009213691579)) := by
          show res = _
          rw [HR.out, HK.out]
        clear hke
        generalize Fld.powS 4 y 2305843009213691579 = z at *
        generalize prd l x k = p at *
        go_wp2_with fail
        refine (D1.out _).mono ?_; rintro e w3 ⟨rfl, rfl⟩
        go_wp2_with fail
        go_ret
        exact ⟨by rw [HR2.out]; rfl, hb2⟩

set_option maxRecDepth 100000 in
theorem RVerify_any (l : List Int) (x y : Int) (v : Value) (w : World) (hl : All64 l) (hx : In64 x) (hy : In64 y) (hl9 : l.length ≤ 9223372036854775807) (hA : IArg w v l) :
    Calls Try.prog 27 #[v, .agg #[I x, I y]] w fun e w' => e = .returned (.bool (vfy l (x, y))) ∧ Below w.heap.size w w' := by
  have HV : Hid (vfy l (x, y) = (comm l && fts l (x, y))) := rfl
  obtain ⟨res, hres⟩ : ∃ res, vfy l (x, y) = res := ⟨_, rfl⟩
  rw [hres] at HV
  rw [hres]
  clear hres
  have N3 := Blk.new w #[I x, I y] 33
  have hb1 := (Below.refl w.heap.size w).alloc (Nat.le_refl _) (.cells #[I x, I y] 33)
  have D1 := Lib.hid (Commits_any l v _ hl hl9 (hA.below hb1))
  have D2 := Lib.hid (RFits_any l x y v _ hl hx hy hl9 (hA.below hb1))
  have c0 := N3.cell 0 _ rfl
  have c1 := N3.cell 1 _ rfl
  clear N3 hA
  generalize fts l (x, y) = b2 at *
  generalize comm l = b1 at *
  cases b1
  · go_enter Try.func27, Try.ntmps27
    go_wp2_with fail
    refine D1.out.mono ?_; rintro e w3 ⟨rfl, rfl⟩
    go_wp2_with fail
    go_ret
    exact ⟨by rw [HV.out]; rfl, hb1⟩
  · go_enter Try.func27, Try.ntmps27
    go_wp2_with fail
    refine D1.out.mono ?_; rintro e w3 ⟨rfl, rfl⟩
    go_wp2_with fail
    refine D2.out.mono ?_; rintro e w3 ⟨rfl, hb3⟩
    have hb := hb1.trans (hb3.mono hb1.size)
    go_wp2_with fail
    go_ret
    exact ⟨by rw [HV.out]; rfl, hb⟩
end Go.Proofs.Ytdnabeldaighgaa
