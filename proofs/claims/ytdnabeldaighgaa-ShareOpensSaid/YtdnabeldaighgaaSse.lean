/- selected at shares: those that fit, and the others. Conditions: the range of int. -/
import Derived.Test.YtdnabeldaighgaaSls
namespace Go.Proofs.Ytdnabeldaighgaa
open Go.RowKit Go.Shelf Shr

def SelSQ (w : World) (l : List (Int × Int)) (p : Int × Int → Bool) (e : Ending) (w' : World) : Prop := ∃ v1 v2, e = .returned (.tuple #[v1, v2]) ∧ OwnSh w' w.heap.size v1 (l.filter p) ∧ OwnSh w' w.heap.size v2 (l.filter (fun x => !p x)) ∧ Below w.heap.size w w'

set_option maxRecDepth 100000 in
set_option maxHeartbeats 2000000 in
theorem sels_any (l : List (Int × Int)) (cs : List Int) (v cv : Value) (pb : Nat) (w : World) (hB : Blk w pb #[cv] 22) (hcs : All64 cs) (hcs9 : cs.length ≤ 90000) (hCA : IArg w cv cs) (hl : AllS64 l) (hl9 : l.length ≤ 1000000) (hA : ShArg w v l) :
    Calls Try.prog 36 #[v, .func (.func 37) #[] #[.pointer (some ⟨pb, 0, none⟩)]] w (SelSQ w l (fts cs)) := by
  obtain ⟨a, cap, rfl, hc, hA⟩ := hA
  have HA := Lib.hid hA
  have HQ : Hid (∀ v1 v2 w', OwnSh w' w.heap.size v1 ((l.take l.length).filter (fts cs)) → OwnSh w' w.heap.size v2 ((l.take l.length).filter (fun x => !fts cs x)) → Below w.heap.size w w' → SelSQ w l (fts cs) (.returned (.tuple #[v1, v2])) w') := by
    show ∀ v1 v2 w', _
    intro v1 v2 w' h1 h2 hb
    rw [List.take_length] at h1 h2
    exact ⟨v1, v2, rfl, h1, h2, hb⟩
  have BC := Lib.hid (fun (x y : Int) (hx : In64 x) (hy : In64 y) (w' : World) (hb : Below w.heap.size w w') => open1_any cs x y cv pb w' (hB.below hb hB.lt) hcs hx hy hcs9 (hCA.below hb))
  generalize fts cs = pr at *
  have FY := Lib.hid (fun (k : Nat) (c : Int × Int) (h : l[k]? = some c) (hp : pr c = true) => And.intro (filt_yes pr h hp) (filt_no (fun x => !pr x) h (by rw [hp]; rfl)))
  have FN := Lib.hid (fun (k : Nat) (c : Int × Int) (h : l[k]? = some c) (hp : pr c = false) => And.intro (filt_no pr h hp) (filt_yes (fun x => !pr x) h (by rw [hp]; rfl)))
  have HLL : Hid (∀ (k : Nat) (p : Int × Int → Bool), ((l.take k).filter p).length ≤ k) := fun (k : Nat) (p : Int × Int → Bool) => Nat.le_trans (List.length_filter_le p (l.take k)) (List.length_take_le k l)
  have HL := Lib.hid hl
  generalize SelSQ w l pr = Q at *
  clear hA hB hCA hl
  go_enter Try.func36, Try.ntmps36
  go_wp2_with fail
  go_loopw [4, 5, 10] (fun v1 v2 i wr => ∃ k : Nat, k ≤ l.length ∧ i = .int .i64 (k : Int) ∧ Hid (OwnSh wr w.heap.size v1 ((l.take k).filter pr)) ∧ Hid (OwnSh wr w.heap.size v2 ((l.take k).filter (fun x => !pr x))) ∧ Hid (Apart v1 v2) ∧ Below w.heap.size w wr) (fun _ _ i _ => l.length - (intOf i).toNat)
  case atStart => exact ⟨0, by omega, rfl, OwnV.nil _ _ _, OwnV.nil _ _ _, Apart.nil, Below.refl _ _⟩
  case round =>
    obtain ⟨k, hk, rfl, H1, H2, HAP, hb⟩ := hrel
    by_cases hlt : k < l.length
    · obtain ⟨c, hck⟩ : ∃ c, l[k]? = some c := ⟨l[k], List.getElem?_eq_getElem hlt⟩
      obtain ⟨x, y⟩ := c
      obtain ⟨x64, y64⟩ := HL.out _ (List.mem_of_getElem? hck)
      obtain ⟨g, o, rfl, hAt0⟩ := HA.out (by rintro rfl; simp at hck)
      obtain ⟨c0, c1⟩ := (hAt0.below hb).cells hck
      have HCK := Lib.hid hck
      have t1 : (k : Int) < (l.length : Int) := by omega
      have N := Blk.new wr #[I x, I y] 33
      have hba := (Below.refl wr.heap.size wr).alloc (Nat.le_refl _) (.cells #[I x, I y] 33)
      have hb1 := hb.trans (hba.mono hb.size)
      have O1 := Lib.hid (H1.out.below hba)
      have O2 := Lib.hid (H2.out.below hba)
      obtain ⟨b, hbb⟩ : ∃ b, pr (x, y) = b := ⟨_, rfl⟩
      have D1 := Lib.hid (hbb ▸ BC.out x y x64 y64 _ hb1)
      have HBB := Lib.hid hbb
      clear hbb hck hAt0 H1 H2 hba
      have d0 := N.cell 0 _ rfl
      have d1 := N.cell 1 _ rfl
      go_wp2_with fail
      refine D1.out.mono ?_; rintro e w3 ⟨rfl, hb3⟩
      have hb3' := hb1.trans (hb3.mono hb1.size)
      have N3 := N.below hb3 N.lt
      have O1 := Lib.hid (O1.out.below hb3)
      have O2 := Lib.hid (O2.out.below hb3)
      have hsz := hb3'.size
      clear D1 hb3 hb hb1 c0 c1 d0 d1 N
      have d0 := N3.cell 0 _ rfl
      have d1 := N3.cell 1 _ rfl
      clear N3
      cases b
      · obtain ⟨e1, e2⟩ := FN.out k _ HCK.out HBB.out
        obtain ⟨v', w4, r1, r2, r3, r4⟩ := run_append_share w3 w.heap.size u5 _ O2.out hsz x y (by have := HLL.out k (fun x => !pr x); omega)
        have HB1 := Lib.hid (one_share w3 x y)
        have HAPP := Lib.hid r1
        have P1 : Hid (OwnSh w4 w.heap.size u4 ((l.take (k + 1)).filter pr)) := by
          show OwnSh w4 w.heap.size u4 _
          rw [e1]
          exact O1.out.grown r3 (fun g hg e => HAP.out g hg e)
        have P2 : Hid (OwnSh w4 w.heap.size v' ((l.take (k + 1)).filter (fun x => !pr x))) := by
          show OwnSh w4 w.heap.size v' _
          rw [e2]
          exact r2
        have P3 : Hid (Apart u4 v') := (HAP.out.symm.left O1.out r4).symm
        have hb4 := below_of_grown hb3' r3 hb3'.size (fun g hg => O2.out.blk g hg)
        clear e1 e2 r1 r2 r3 r4 O1 O2 HAP hb3'
        go_wp2_with (first
          | (refine wpList_build_run rfl 25 1 #[(0, .tmp 22)] rfl #[(0, .agg #[I x, I y])] rfl _ _ HB1.out ?_)
          | (at_builtin; refine Lib.wpList_append_run _ rfl (.tmp 21) (.tmp 23) 25 25 rfl _ _ rfl rfl _ _ HAPP.out ?_))
        go_roundw
        case rel => exact ⟨k + 1, by omega, by go_num, P1, P2, P3, hb4⟩
        case measure => simp [intOf]; omega
      · obtain ⟨e1, e2⟩ := FY.out k _ HCK.out HBB.out
        obtain ⟨v', w4, r1, r2, r3, r4⟩ := run_append_share w3 w.heap.size u4 _ O1.out hsz x y (by have := HLL.out k pr; omega)
        have HB1 := Lib.hid (one_share w3 x y)
        have HAPP := Lib.hid r1
        have P1 : Hid (OwnSh w4 w.heap.size v' ((l.take (k + 1)).filter pr)) := by
          show OwnSh w4 w.heap.size v' _
          rw [e1]
          exact r2
        have P2 : Hid (OwnSh w4 w.heap.size u5 ((l.take (k + 1)).filter (fun x => !pr x))) := by
          show OwnSh w4 w.heap.size u5 _
          rw [e2]
          exact O2.out.grown r3 (fun g hg e => HAP.out g e hg)
        have P3 : Hid (Apart v' u5) := HAP.out.left O2.out r4
        have hb4 := below_of_grown hb3' r3 hb3'.size (fun g hg => O1.out.blk g hg)
        clear e1 e2 r1 r2 r3 r4 O1 O2 HAP hb3'
        go_wp2_with (first
          | (refine wpList_build_run rfl 25 1 #[(0, .tmp 18)] rfl #[(0, .agg #[I x, I y])] rfl _ _ HB1.out ?_)
          | (at_builtin; refine Lib.wpList_append_run _ rfl (.tmp 17) (.tmp 19) 25 25 rfl _ _ rfl rfl _ _ HAPP.out ?_))
        go_roundw
        case rel => exact ⟨k + 1, by omega, by go_num, P1, P2, P3, hb4⟩
        case measure => simp [intOf]; omega
    · have t1 : ¬ ((k : Int) < (l.length : Int)) := by omega
      obtain rfl : k = l.length := by omega
      have HR := Lib.hid (HQ.out _ _ _ H1.out H2.out hb)
      clear H1 H2
      go_wp2_with fail
      exact HR.out

end Go.Proofs.Ytdnabeldaighgaa
