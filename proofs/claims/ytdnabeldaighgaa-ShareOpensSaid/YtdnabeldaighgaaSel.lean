/- selected: the elements that satisfy a condition, and the others. Conditions: the range of int. -/
import Derived.Test.YtdnabeldaighgaaShC
namespace Go.Proofs.Ytdnabeldaighgaa
open Go.RowKit Go.Shelf Shr

theorem filt_yes {α : Type} {l : List α} {k : Nat} {c : α} (p : α → Bool) (h : l[k]? = some c) (hp : p c = true) : (l.take (k + 1)).filter p = (l.take k).filter p ++ [c] := by
  rw [List.take_add_one, h]; simp [hp]
theorem filt_no {α : Type} {l : List α} {k : Nat} {c : α} (p : α → Bool) (h : l[k]? = some c) (hp : p c = false) : (l.take (k + 1)).filter p = (l.take k).filter p := by
  rw [List.take_add_one, h]; simp [hp]
/-- Two rows of the call's own, neither in the other's block. -/
def Apart (v u : Value) : Prop := ∀ g, blkOf v = some g → blkOf u ≠ some g
theorem Apart.nil : Apart (.slice none 0 0) (.slice none 0 0) := fun _ h => by cases h
theorem Apart.left {v v' u : Value} {w : World} {base sz n : Nat} {cs : List Value} (h : Apart v u) (hu : OwnV w base sz u n cs) (h2 : blkOf v' = blkOf v ∨ ∃ g, blkOf v' = some g ∧ w.heap.size ≤ g) : Apart v' u := by
  intro g hg e
  rcases h2 with h2 | ⟨g2, h2, h3⟩
  · exact h g (h2 ▸ hg) e
  · rw [h2] at hg
    injection hg with hg
    have := hu.blk_lt g e
    omega
theorem Apart.symm {v u : Value} (h : Apart v u) : Apart u v := fun g hg e => h g e hg
/-- Two lists as results. -/
def SelQ (w : World) (l : List Int) (p : Int → Bool) (e : Ending) (w' : World) : Prop := ∃ v1 v2, e = .returned (.tuple #[v1, v2]) ∧ OwnI w' w.heap.size v1 (l.filter p) ∧ OwnI w' w.heap.size v2 (l.filter (fun x => !p x)) ∧ Below w.heap.size w w'

set_option maxRecDepth 100000 in
set_option maxHeartbeats 1000000 in
theorem sel_below (l : List Int) (v : Value) (w : World) (hl : All64 l) (hl9 : l.length ≤ 1000000) (hA : IArg w v l) :
    Calls Try.prog 40 #[v, .func (.func 41) #[] #[]] w (SelQ w l blw) := by
  obtain ⟨a, cap, rfl, hc, hA⟩ := hA
  have HA := Lib.hid hA
  have HQ : Hid (∀ v1 v2 w', OwnI w' w.heap.size v1 ((l.take l.length).filter blw) → OwnI w' w.heap.size v2 ((l.take l.length).filter (fun x => !blw x)) → Below w.heap.size w w' → SelQ w l blw (.returned (.tuple #[v1, v2])) w') := by
    show ∀ v1 v2 w', _
    intro v1 v2 w' h1 h2 hb
    rw [List.take_length] at h1 h2
    exact ⟨v1, v2, rfl, h1, h2, hb⟩
  have BC := Lib.hid (fun (c : Int) (h : In64 c) (w : World) => (quiet_eq (below_any c w) : Calls Try.prog 41 #[I c] w fun e w' => e = .returned (.bool (blw c)) ∧ Below w.heap.size w w'))
  have FY := Lib.hid (fun (k : Nat) (c : Int) (h : l[k]? = some c) (hp : blw c = true) => And.intro (filt_yes blw h hp) (filt_no (fun x => !blw x) h (by rw [hp]; rfl)))
  have FN := Lib.hid (fun (k : Nat) (c : Int) (h : l[k]? = some c) (hp : blw c = false) => And.intro (filt_no blw h hp) (filt_yes (fun x => !blw x) h (by rw [hp]; rfl)))
  have HLL := Lib.hid (fun (k : Nat) (p : Int → Bool) => (Nat.le_trans (List.length_filter_le p (l.take k)) (List.length_take_le k l) : ((l.take k).filter p).length ≤ k))
  generalize SelQ w l blw = Q at *
  clear hA
  go_enter Try.func40, Try.ntmps40
  go_wp2_with fail
  go_loopw [4, 5, 10] (fun v1 v2 i wr => ∃ k : Nat, k ≤ l.length ∧ i = .int .i64 (k : Int) ∧ Hid (OwnI wr w.heap.size v1 ((l.take k).filter blw)) ∧ Hid (OwnI wr w.heap.size v2 ((l.take k).filter (fun x => !blw x))) ∧ Hid (Apart v1 v2) ∧ Below w.heap.size w wr) (fun _ _ i _ => l.length - (intOf i).toNat)
  case atStart => exact ⟨0, by omega, rfl, OwnV.nil _ _ _, OwnV.nil _ _ _, Apart.nil, Below.refl _ _⟩
  case round =>
    obtain ⟨k, hk, rfl, H1, H2, HAP, hb⟩ := hrel
    by_cases hlt : k < l.length
    · obtain ⟨c, hck⟩ : ∃ c, l[k]? = some c := ⟨l[k], List.getElem?_eq_getElem hlt⟩
      have hc64 := hl.get hck
      obtain ⟨g, o, rfl, hAt⟩ := HA.out (by rintro rfl; simp at hck)
      have c1 := keepCells hb _ _ (hAt k c hck)
      have D1 := Lib.hid (BC.out c hc64)
      have HCK := Lib.hid hck
      have t1 : (k : Int) < (l.length : Int) := by omega
      obtain ⟨b, hbb⟩ : ∃ b, blw c = b := ⟨_, rfl⟩
      rw [hbb] at D1
      have HBB := Lib.hid hbb
      clear hbb hck hAt
      go_wp2_with fail
      refine (D1.out _).mono ?_; rintro e w3 ⟨rfl, hb3⟩
      have hb3' := hb.trans (hb3.mono hb.size)
      have O1 := Lib.hid (H1.out.below hb3)
      have O2 := Lib.hid (H2.out.below hb3)
      have hsz := hb3'.size
      clear H1 H2 D1 hb3 hb c1
      cases b
      · obtain ⟨e1, e2⟩ := FN.out k c HCK.out HBB.out
        obtain ⟨v', w4, r1, r2, r3, r4⟩ := run_append_int w3 w.heap.size u5 _ O2.out hsz c (by have := HLL.out k (fun x => !blw x); omega)
        have HB1 := Lib.hid (one_int w3 c)
        have HAPP := Lib.hid r1
        have P1 : Hid (OwnI w4 w.heap.size u4 ((l.take (k + 1)).filter blw)) := by
          show OwnI w4 w.heap.size u4 _
          rw [e1]
          exact O1.out.grown r3 (fun g hg e => HAP.out g hg e)
        have P2 : Hid (OwnI w4 w.heap.size v' ((l.take (k + 1)).filter (fun x => !blw x))) := by
          show OwnI w4 w.heap.size v' _
          rw [e2]
          exact r2
        have P3 : Hid (Apart u4 v') := (HAP.out.symm.left O1.out r4).symm
        have hb4 := below_of_grown hb3' r3 hb3'.size (fun g hg => O2.out.blk g hg)
        clear e1 e2 r1 r2 r3 r4 O1 O2 HAP hb3'
        go_wp2_with (first
          | (refine wpList_build_run rfl 22 1 #[(0, .tmp 22)] rfl #[(0, I c)] rfl _ _ HB1.out ?_)
          | (at_builtin; refine Lib.wpList_append_run _ rfl (.tmp 21) (.tmp 23) 22 22 rfl _ _ rfl rfl _ _ HAPP.out ?_))
        go_roundw
        case rel => exact ⟨k + 1, by omega, by go_num, P1, P2, P3, hb4⟩
        case measure => simp [intOf]; omega
      · obtain ⟨e1, e2⟩ := FY.out k c HCK.out HBB.out
        obtain ⟨v', w4, r1, r2, r3, r4⟩ := run_append_int w3 w.heap.size u4 _ O1.out hsz c (by have := HLL.out k blw; omega)
        have HB1 := Lib.hid (one_int w3 c)
        have HAPP := Lib.hid r1
        have P1 : Hid (OwnI w4 w.heap.size v' ((l.take (k + 1)).filter blw)) := by
          show OwnI w4 w.heap.size v' _
          rw [e1]
          exact r2
        have P2 : Hid (OwnI w4 w.heap.size u5 ((l.take (k + 1)).filter (fun x => !blw x))) := by
          show OwnI w4 w.heap.size u5 _
          rw [e2]
          exact O2.out.grown r3 (fun g hg e => HAP.out g e hg)
        have P3 : Hid (Apart v' u5) := HAP.out.left O2.out r4
        have hb4 := below_of_grown hb3' r3 hb3'.size (fun g hg => O1.out.blk g hg)
        clear e1 e2 r1 r2 r3 r4 O1 O2 HAP hb3'
        go_wp2_with (first
          | (refine wpList_build_run rfl 22 1 #[(0, .tmp 18)] rfl #[(0, I c)] rfl _ _ HB1.out ?_)
          | (at_builtin; refine Lib.wpList_append_run _ rfl (.tmp 17) (.tmp 19) 22 22 rfl _ _ rfl rfl _ _ HAPP.out ?_))
        go_roundw
        case rel => exact ⟨k + 1, by omega, by go_num, P1, P2, P3, hb4⟩
        case measure => simp [intOf]; omega
    · have t1 : ¬ ((k : Int) < (l.length : Int)) := by omega
      obtain rfl : k = l.length := by omega
      have HR := Lib.hid (HQ.out _ _ _ H1.out H2.out hb)
      clear H1 H2
      go_wp2_with fail
      exact HR.out

set_option maxRecDepth 100000 in
set_option maxHeartbeats 1000000 in
theorem sel_member (l : List Int) (v : Value) (w : World) (hl : All64 l) (hl9 : l.length ≤ 1000000) (hA : IArg w v l) :
    Calls Try.prog 40 #[v, .func (.func 55) #[] #[]] w (SelQ w l FldP.memS) := by
  obtain ⟨a, cap, rfl, hc, hA⟩ := hA
  have HA := Lib.hid hA
  have HQ : Hid (∀ v1 v2 w', OwnI w' w.heap.size v1 ((l.take l.length).filter FldP.memS) → OwnI w' w.heap.size v2 ((l.take l.length).filter (fun x => !FldP.memS x)) → Below w.heap.size w w' → SelQ w l FldP.memS (.returned (.tuple #[v1, v2])) w') := by
    show ∀ v1 v2 w', _
    intro v1 v2 w' h1 h2 hb
    rw [List.take_length] at h1 h2
    exact ⟨v1, v2, rfl, h1, h2, hb⟩
  have BC := Lib.hid (fun (c : Int) (h : In64 c) (w : World) => (Member_any c h w : Calls Try.prog 55 #[I c] w fun e w' => e = .returned (.bool (FldP.memS c)) ∧ Below w.heap.size w w'))
  have FY := Lib.hid (fun (k : Nat) (c : Int) (h : l[k]? = some c) (hp : FldP.memS c = true) => And.intro (filt_yes FldP.memS h hp) (filt_no (fun x => !FldP.memS x) h (by rw [hp]; rfl)))
  have FN := Lib.hid (fun (k : Nat) (c : Int) (h : l[k]? = some c) (hp : FldP.memS c = false) => And.intro (filt_no FldP.memS h hp) (filt_yes (fun x => !FldP.memS x) h (by rw [hp]; rfl)))
  have HLL := Lib.hid (fun (k : Nat) (p : Int → Bool) => (Nat.le_trans (List.length_filter_le p (l.take k)) (List.length_take_le k l) : ((l.take k).filter p).length ≤ k))
  generalize SelQ w l FldP.memS = Q at *
  clear hA
  go_enter Try.func40, Try.ntmps40
  go_wp2_with fail
  go_loopw [4, 5, 10] (fun v1 v2 i wr => ∃ k : Nat, k ≤ l.length ∧ i = .int .i64 (k : Int) ∧ Hid (OwnI wr w.heap.size v1 ((l.take k).filter FldP.memS)) ∧ Hid (OwnI wr w.heap.size v2 ((l.take k).filter (fun x => !FldP.memS x))) ∧ Hid (Apart v1 v2) ∧ Below w.heap.size w wr) (fun _ _ i _ => l.length - (intOf i).toNat)
  case atStart => exact ⟨0, by omega, rfl, OwnV.nil _ _ _, OwnV.nil _ _ _, Apart.nil, Below.refl _ _⟩
  case round =>
    obtain ⟨k, hk, rfl, H1, H2, HAP, hb⟩ := hrel
    by_cases hlt : k < l.length
    · obtain ⟨c, hck⟩ : ∃ c, l[k]? = some c := ⟨l[k], List.getElem?_eq_getElem hlt⟩
      have hc64 := hl.get hck
      obtain ⟨g, o, rfl, hAt⟩ := HA.out (by rintro rfl; simp at hck)
      have c1 := keepCells hb _ _ (hAt k c hck)
      have D1 := Lib.hid (BC.out c hc64)
      have HCK := Lib.hid hck
      have t1 : (k : Int) < (l.length : Int) := by omega
      obtain ⟨b, hbb⟩ : ∃ b, FldP.memS c = b := ⟨_, rfl⟩
      rw [hbb] at D1
      have HBB := Lib.hid hbb
      clear hbb hck hAt
      go_wp2_with fail
      refine (D1.out _).mono ?_; rintro e w3 ⟨rfl, hb3⟩
      have hb3' := hb.trans (hb3.mono hb.size)
      have O1 := Lib.hid (H1.out.below hb3)
      have O2 := Lib.hid (H2.out.below hb3)
      have hsz := hb3'.size
      clear H1 H2 D1 hb3 hb c1
      cases b
      · obtain ⟨e1, e2⟩ := FN.out k c HCK.out HBB.out
        obtain ⟨v', w4, r1, r2, r3, r4⟩ := run_append_int w3 w.heap.size u5 _ O2.out hsz c (by have := HLL.out k (fun x => !FldP.memS x); omega)
        have HB1 := Lib.hid (one_int w3 c)
        have HAPP := Lib.hid r1
        have P1 : Hid (OwnI w4 w.heap.size u4 ((l.take (k + 1)).filter FldP.memS)) := by
          show OwnI w4 w.heap.size u4 _
          rw [e1]
          exact O1.out.grown r3 (fun g hg e => HAP.out g hg e)
        have P2 : Hid (OwnI w4 w.heap.size v' ((l.take (k + 1)).filter (fun x => !FldP.memS x))) := by
          show OwnI w4 w.heap.size v' _
          rw [e2]
          exact r2
        have P3 : Hid (Apart u4 v') := (HAP.out.symm.left O1.out r4).symm
        have hb4 := below_of_grown hb3' r3 hb3'.size (fun g hg => O2.out.blk g hg)
        clear e1 e2 r1 r2 r3 r4 O1 O2 HAP hb3'
        go_wp2_with (first
          | (refine wpList_build_run rfl 22 1 #[(0, .tmp 22)] rfl #[(0, I c)] rfl _ _ HB1.out ?_)
          | (at_builtin; refine Lib.wpList_append_run _ rfl (.tmp 21) (.tmp 23) 22 22 rfl _ _ rfl rfl _ _ HAPP.out ?_))
        go_roundw
        case rel => exact ⟨k + 1, by omega, by go_num, P1, P2, P3, hb4⟩
        case measure => simp [intOf]; omega
      · obtain ⟨e1, e2⟩ := FY.out k c HCK.out HBB.out
        obtain ⟨v', w4, r1, r2, r3, r4⟩ := run_append_int w3 w.heap.size u4 _ O1.out hsz c (by have := HLL.out k FldP.memS; omega)
        have HB1 := Lib.hid (one_int w3 c)
        have HAPP := Lib.hid r1
        have P1 : Hid (OwnI w4 w.heap.size v' ((l.take (k + 1)).filter FldP.memS)) := by
          show OwnI w4 w.heap.size v' _
          rw [e1]
          exact r2
        have P2 : Hid (OwnI w4 w.heap.size u5 ((l.take (k + 1)).filter (fun x => !FldP.memS x))) := by
          show OwnI w4 w.heap.size u5 _
          rw [e2]
          exact O2.out.grown r3 (fun g hg e => HAP.out g e hg)
        have P3 : Hid (Apart v' u5) := HAP.out.left O2.out r4
        have hb4 := below_of_grown hb3' r3 hb3'.size (fun g hg => O1.out.blk g hg)
        clear e1 e2 r1 r2 r3 r4 O1 O2 HAP hb3'
        go_wp2_with (first
          | (refine wpList_build_run rfl 22 1 #[(0, .tmp 18)] rfl #[(0, I c)] rfl _ _ HB1.out ?_)
          | (at_builtin; refine Lib.wpList_append_run _ rfl (.tmp 17) (.tmp 19) 22 22 rfl _ _ rfl rfl _ _ HAPP.out ?_))
        go_roundw
        case rel => exact ⟨k + 1, by omega, by go_num, P1, P2, P3, hb4⟩
        case measure => simp [intOf]; omega
    · have t1 : ¬ ((k : Int) < (l.length : Int)) := by omega
      obtain rfl : k = l.length := by omega
      have HR := Lib.hid (HQ.out _ _ _ H1.out H2.out hb)
      clear H1 H2
      go_wp2_with fail
      exact HR.out

end Go.Proofs.Ytdnabeldaighgaa
