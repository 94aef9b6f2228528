/- Arguments that are slices of numbers, opened; rows of shares written in place; what made gives. Conditions: sizes. -/
import Derived.Test.YtdnabeldaighgaaPla
import Derived.Test.YtdnabeldaighgaaLaw
import Derived.SliceStrings
import Derived.ChangeMaps5
import Derived.Lib.ReflectliteSwap
namespace Go.Proofs.Ytdnabeldaighgaa
open Go.ChangeShapes Go.WideShapes Go.ChangeAt Go.RowKit Go.Shelf Go.ChangeMaps Shr

theorem cellsOf_int : Try.prog.cellsOf 3 = 1 := by kernel_rfl
/-- A slice of numbers as an argument. -/
theorem open_intsA {H : Type} {enc : TypeId × Value → H} {W : World} {base : Nat} {v : Value} {d : Go.DataW H} {ps : List MemPlace}
    (hval : Value.okWide Try.prog W .any base 22 v) (hd : DataW.Trod enc Try.prog W 0 (fun _ => true) true 22 v d ps) :
    ∃ l : List Int, IArg W v l ∧ All64 l ∧ l.length ≤ 9223372036854775807 := by
  obtain ⟨a0, len, cap, rfl⟩ := okWide_slice Try.underlying22 hval
  obtain ⟨fuel, hf⟩ := hd
  rcases open_ints Try.underlying22 Try.underlying3 cellsOf_int hf with ⟨hcs, _⟩ | ⟨a, len', cap', zs, hcs, _, hl, hm, hlen, hx, hcell, hwf⟩
  · have : Value.slice a0 len cap = .slice none 0 0 := by simpa [Value.cells] using hcs
    rw [this]
    exact ⟨[], IArg.nil W, (fun x h => by cases h), by simp⟩
  · have : Value.slice a0 len cap = .slice (some a) len' cap' := by simpa [Value.cells] using hcs
    rw [this]
    have hlen : zs.length = cap' := by simpa using hlen
    unfold maxLen at hm
    refine ⟨zs.take len', ⟨some a, cap', ?_, ?_, ?_⟩, ?_, ?_⟩
    · simp; omega
    · simp; omega
    · intro hne
      have h0 : 0 < zs.length := by
        rcases Nat.eq_zero_or_pos zs.length with h | h
        · rw [List.length_eq_zero_iff.1 h] at hne; simp at hne
        · exact h
      obtain ⟨b, off, spot⟩ := a
      have c0 := hcell 0 h0
      have hspot : spot = none := by simpa [Addr.add] using World.cell?_spot c0
      subst hspot
      refine ⟨b, off, rfl, fun i s hs => ?_⟩
      have hi : zs[i]? = some s := by
        rw [List.getElem?_take] at hs
        split at hs
        · exact hs
        · cases hs
      have hi2 := (List.getElem?_eq_some_iff.1 hi)
      have c := hcell i hi2.1
      rw [Addr.add_lit] at c
      rw [c, List.getD_eq_getElem?_getD, hi]
      rfl
    · intro x hx
      have := hwf x (List.mem_of_mem_take hx)
      simp [Lit.wf, IntKind.min, IntKind.max, IntKind.signed, IntKind.bits] at this
      exact this
    · rw [List.length_take]; omega

theorem in64_wf {x : Int} (h : (Lit.int .i64 x).wf = true) : In64 x := by
  simp [Lit.wf, IntKind.min, IntKind.max, IntKind.signed, IntKind.bits] at h
  exact h

/-! ### Rows written in place -/
theorem VRow.put {w : World} {base g cap sz : Nat} {cs : List Value} (h : VRow w base g cap sz cs) (i : Nat) (hi : i < cs.length) (u : Value) : VRow (w.setCell ⟨g, i, none⟩ u) base g cap sz (cs.set i u) := by
  have hr := h.room
  have hin : ∀ j, j < [u].length → (w.cell? ⟨g, i + j, none⟩).isSome = true := fun j hj => h.some_ _ (by simp at hj; omega)
  have e : w.setCell ⟨g, i, none⟩ u = w.setCells g i [u] := rfl
  rw [e]
  refine ⟨h.base, by rw [← e]; simpa [World.setCell] using h.lt, by simpa using hr, fun j hj => World.isSome_setCells g _ _ _ _ (h.some_ j hj), fun j hj => by rw [World.frozen?_setCells]; exact h.free j hj, fun j v hv => ?_⟩
  rw [Nat.zero_add]
  by_cases hq : j = i
  · subst hq
    rw [List.getElem?_set_self hi] at hv
    obtain rfl : u = v := by simpa using hv
    exact World.cell?_setCells_in g [u] j w hin 0 (by simp)
  · rw [List.getElem?_set_ne (by omega)] at hv
    rw [World.cell?_setCells_out g _ _ _ _ (fun _ _ => by simp; omega)]
    have := h.cells j v hv
    rwa [Nat.zero_add] at this
theorem shc_set : ∀ (l : List (Int × Int)) (k : Nat) (x y : Int), l[k]? = some (x, y) → (∀ y', shc (l.set k (x, y')) = (shc l).set (k * 2 + 1) (I y')) ∧ (∀ x', shc (l.set k (x', y)) = (shc l).set (k * 2) (I x'))
  | [], _, _, _, h => by simp at h
  | q :: l, 0, x, y, h => by
    simp at h
    subst h
    exact ⟨fun _ => rfl, fun _ => rfl⟩
  | q :: l, k + 1, x, y, h => by
    obtain ⟨h1, h2⟩ := shc_set l k x y (by simpa using h)
    refine ⟨fun y' => ?_, fun x' => ?_⟩
    · have := h1 y'
      unfold shc at this ⊢
      rw [List.set_cons_succ, List.flatMap_cons, this, show (k + 1) * 2 + 1 = k * 2 + 1 + 1 + 1 by omega]; rfl
    · have := h2 x'
      unfold shc at this ⊢
      rw [List.set_cons_succ, List.flatMap_cons, this, show (k + 1) * 2 = k * 2 + 1 + 1 by omega]; rfl
theorem VRow.putY {w : World} {base g cap : Nat} {l : List (Int × Int)} (h : VRow w base g cap 2 (shc l)) {k : Nat} {x y : Int} (hk : l[k]? = some (x, y)) (y' : Int) : VRow (w.setCell ⟨g, k * 2 + 1, none⟩ (I y')) base g cap 2 (shc (l.set k (x, y'))) := by
  rw [(shc_set l k x y hk).1 y']
  exact h.put _ (by rw [shc_length]; have := (List.getElem?_eq_some_iff.1 hk).1; omega) _
theorem VRow.putX {w : World} {base g cap : Nat} {l : List (Int × Int)} (h : VRow w base g cap 2 (shc l)) {k : Nat} {x y : Int} (hk : l[k]? = some (x, y)) (x' : Int) : VRow (w.setCell ⟨g, k * 2, none⟩ (I x')) base g cap 2 (shc (l.set k (x', y))) := by
  rw [(shc_set l k x y hk).2 x']
  exact h.put _ (by rw [shc_length]; have := (List.getElem?_eq_some_iff.1 hk).1; omega) _
theorem VRow.putI {w : World} {base g cap : Nat} {l : List Int} (h : VRow w base g cap 1 (l.map I)) {k : Nat} (hk : k < l.length) (x : Int) : VRow (w.setCell ⟨g, k, none⟩ (I x)) base g cap 1 ((l.set k x).map I) := by
  rw [List.map_set]
  exact h.put _ (by simpa using hk) _
theorem VRow.own {w : World} {base g cap : Nat} {l : List (Int × Int)} {n : Nat} (h : VRow w base g cap 2 (shc l)) (hn : l.length = n) (hc : n ≤ cap) : OwnSh w base (.slice (some ⟨g, 0, none⟩) n cap) l :=
  .inr ⟨g, cap, by rw [hn], shc_length l, by omega, h⟩
theorem VRow.ownI {w : World} {base g cap : Nat} {l : List Int} {n : Nat} (h : VRow w base g cap 1 (l.map I)) (hn : l.length = n) (hc : n ≤ cap) : OwnI w base (.slice (some ⟨g, 0, none⟩) n cap) l :=
  .inr ⟨g, cap, by rw [hn], by simp, by omega, h⟩
theorem OwnV.row {w : World} {base sz n : Nat} {v : Value} {cs : List Value} (h : OwnV w base sz v n cs) (hn : 0 < n) : ∃ g cap, v = .slice (some ⟨g, 0, none⟩) n cap ∧ n ≤ cap ∧ VRow w base g cap sz cs := by
  rcases h with ⟨_, h0, _⟩ | ⟨g, cap, h1, _, h2, h3⟩
  · omega
  · exact ⟨g, cap, h1, h2, h3⟩

/-! ### What made gives -/
theorem cofs_blw (l : List Int) : (cofs l).all blw = true := by
  rw [List.all_eq_true]
  intro c hc
  obtain ⟨h1, h2⟩ := cofs_all l c hc
  unfold blw
  rw [decide_eq_true h1, decide_eq_true h2]; rfl
theorem all64_blw {l : List Int} (h : l.all blw = true) : All64 l := fun c hc => by
  have := blw_range (List.all_eq_true.1 h c hc)
  have hq : QZ = 1152921504606845789 := rfl
  constructor <;> omega
theorem coms_all64 (l : List Int) : All64 (coms l) := fun c hc => by
  unfold coms at hc
  obtain ⟨z, _, rfl⟩ := List.mem_map.1 hc
  exact powS_in (by decide)
theorem shl_all64 (l : List Int) (n : Nat) (hn : n ≤ 1000) : AllS64 (shl l n) := fun p hp => by
  obtain ⟨h1, h2, h3⟩ := shl_isS l n hn p hp
  have hv := val_range l p.1
  rw [← h3] at hv
  have hq : QZ = 1152921504606845789 := rfl
  constructor <;> constructor <;> omega
/-- The shares and commitments of coefficients that are in range. -/
theorem made_good (cs : List Int) (z : Nat) (hz : z ≤ 255) (v : Value) (w : World) (hcs : cs.all blw = true) (h1 : 1 ≤ cs.length) (h2 : cs.length ≤ 100) (hA : IArg w v cs) :
    Calls Try.prog 13 #[v, .int .u8 (z : Int)] w fun e w' => ∃ v1 v2, e = .returned (.tuple #[v1, v2]) ∧ OwnSh w' w.heap.size v1 (shl cs (cs.length + z % 6)) ∧ OwnI w' w.heap.size v2 (coms cs) ∧ Below w.heap.size w w' ∧ Apart v1 v2 := by
  refine (made_any cs (z : Int) v w (all64_blw hcs) (by omega) ⟨by omega, by omega⟩ hA).mono ?_
  rintro e w' ⟨v1, v2, rfl, o1, o2, hb, hap⟩
  have hk : okS cs ((cs.length : Int) + (z : Int) % 6) = true := by
    unfold okS
    rw [hcs, decide_eq_true h1, decide_eq_true h2, decide_eq_true (show (cs.length : Int) ≤ (cs.length : Int) + (z : Int) % 6 by omega), decide_eq_true (show (cs.length : Int) + (z : Int) % 6 ≤ 1000 by omega)]
    rfl
  unfold spS at o1
  unfold cmS at o2
  rw [hk, if_pos rfl] at o1 o2
  rw [show ((cs.length : Int) + (z : Int) % 6).toNat = cs.length + z % 6 by omega] at o1
  exact ⟨v1, v2, rfl, o1, o2, hb, hap⟩
end Go.Proofs.Ytdnabeldaighgaa
