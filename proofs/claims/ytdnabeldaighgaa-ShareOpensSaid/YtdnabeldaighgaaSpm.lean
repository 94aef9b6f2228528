/- Split of the implementation, the whole. Conditions: the range of int. -/
import Derived.Test.YtdnabeldaighgaaSpl
namespace Go.Proofs.Ytdnabeldaighgaa
open Go.RowKit Go.Shelf Shr
attribute [local go_sem] Oper.semAt_some

theorem leaves_marks {F : Fence} {n : Nat} {P : Program} {fn : Func} {tmps : Array Value} {R : Ending → World → Prop} (Pr : World → Prop) : ∀ (Ds : List Nat) (W : World), Ds.Nodup → (∀ D ∈ Ds, W.heap[D]? = some (.deferred (some []))) →
    (∀ (W' : World) (D : Nat) (o o' : Obj), D ∈ Ds → W'.heap[D]? = some o → o.isCells = false → Pr W' → Pr (W'.putObj D o')) → Pr W → (∀ W', Pr W' → LeavesIn F n P fn tmps R [] .returning W') → LeavesInM F n P fn tmps R (Ds.map mark) .returning W
  | [], W, _, _, _, h0, he => he W h0
  | D :: Ds, W, hn, hk, hp, h0, he => by
    have hK := hk D (by simp)
    refine ⟨by simp, .inl ⟨D, _, rfl, run_takeDeferred hK, ?_⟩⟩
    rw [List.nodup_cons] at hn
    refine leaves_marks Pr Ds _ hn.2 (fun E hE => ?_) (fun W' E o o' hE => hp W' E o o' (by simp [hE])) (hp W D _ _ (by simp) hK rfl h0) he
    have : E ≠ D := fun e => hn.1 (e ▸ hE)
    exact (World.putObj_heap_other this).trans (hk E (by simp [hE]))

namespace Shr
def okS (l : List Int) (n : Int) : Bool := decide (1 ≤ l.length) && decide (l.length ≤ 100) && l.all blw && decide ((l.length : Int) ≤ n) && decide (n ≤ 1000)
def coms (l : List Int) : List Int := l.map fun c => Fld.powS 4 c PZ
end Shr
theorem wrong_none (l : List Int) : ((l.filter (fun x => !blw x)).length = 0) ↔ l.all blw = true := by
  rw [List.length_eq_zero_iff, List.filter_eq_nil_iff, List.all_eq_true]
  constructor
  · intro h x hx
    have := h x hx
    simpa using this
  · intro h x hx
    simp [h x hx]

set_option maxRecDepth 100000 in
set_option maxHeartbeats 2000000 in
theorem split_no (l : List Int) (n : Int) (v : Value) (w : World) (hl : All64 l) (hl9 : l.length ≤ 1000000) (hA : IArg w v l) (hno : okS l n = false) :
    Calls Try.prog 23 #[v, I n] w fun e w' => e = .returned (.tuple #[.slice none 0 0, .slice none 0 0, .bool false]) ∧ Below w.heap.size w w' := by
  obtain ⟨a, cap, rfl, hc, hA'⟩ := id hA
  have hb0 := (Below.refl w.heap.size w).alloc (Nat.le_refl _) (.cells #[.slice a l.length cap] 22)
  have N2 := Blk.new w #[.slice a l.length cap] 22
  have S1 := Lib.hid (sel_below l (.slice a l.length cap) _ hl hl9 (hA.below hb0))
  have HO := wrong_none l
  have hok : okS l n = (decide (1 ≤ l.length) && decide (l.length ≤ 100) && l.all blw && decide ((l.length : Int) ≤ n) && decide (n ≤ 1000)) := rfl
  rw [hno] at hok
  obtain ⟨al, hal⟩ : ∃ al, l.all blw = al := ⟨_, rfl⟩
  rw [hal] at hok HO
  have hfl := List.length_filter_le (fun x => !blw x) l
  clear hal hA hA' hno hl
  have c0 := N2.cell 0 _ rfl
  obtain ⟨m, hm⟩ : ∃ m, l.length = m := ⟨_, rfl⟩
  rw [hm] at hok hc hl9 hfl hb0 c0 N2 S1
  rw [hm]
  have HOK := Lib.hid hok
  clear hm hok
  go_enter Try.func23, Try.ntmps23
  go_wp2_with fail
  refine S1.out.mono ?_
  rintro e w1 ⟨v1, v2, rfl, _, o2, hb1⟩
  obtain ⟨a2, cap2, rfl, hc2⟩ := o2.form
  have hb := hb0.trans (hb1.mono hb0.size)
  have M2 := N2.below hb1 N2.lt
  have d0 := M2.cell 0 _ rfl
  clear o2 S1 c0 N2 M2 hb1 hb0
  generalize (l.filter (fun x => !blw x)).length = q at *
  by_cases h1 : m < 1
  · have t1 : (m : Int) < 1 := by omega
    have t1' : decide ((m : Int) < 1) = true := decide_eq_true t1
    go_wp2_with fail
    refine bodyPost_ret (results_tmp3 rfl _ _ _) rfl ?_
    exact ⟨rfl, hb⟩
  have t1 : ¬ (m : Int) < 1 := by omega
  have t1' : decide ((m : Int) < 1) = false := decide_eq_false t1
  by_cases h2 : 100 < m
  · have t2 : (100 : Int) < (m : Int) := by omega
    have t2' : decide ((m : Int) > 100) = true := decide_eq_true t2
    go_wp2_with fail
    refine bodyPost_ret (results_tmp3 rfl _ _ _) rfl ?_
    exact ⟨rfl, hb⟩
  have t2 : ¬ (100 : Int) < (m : Int) := by omega
  have t2' : decide ((m : Int) > 100) = false := decide_eq_false t2
  by_cases h3 : 0 < q
  · have t3 : (0 : Int) < (q : Int) := by omega
    have t3' : decide ((q : Int) > 0) = true := decide_eq_true t3
    go_wp2_with fail
    refine bodyPost_ret (results_tmp3 rfl _ _ _) rfl ?_
    exact ⟨rfl, hb⟩
  have t3 : ¬ (0 : Int) < (q : Int) := by omega
  have t3' : decide ((q : Int) > 0) = false := decide_eq_false t3
  by_cases h4 : n < (m : Int)
  · have t4' : decide (n < (m : Int)) = true := decide_eq_true h4
    go_wp2_with fail
    refine bodyPost_ret (results_tmp3 rfl _ _ _) rfl ?_
    exact ⟨rfl, hb⟩
  have t4' : decide (n < (m : Int)) = false := decide_eq_false h4
  have h5 : (1000 : Int) < n := by
    have hok := HOK.out
    rw [HO.1 (by omega), decide_eq_true (show 1 ≤ m by omega), decide_eq_true (show m ≤ 100 by omega), decide_eq_true (show (m : Int) ≤ n by omega)] at hok
    simp at hok
    exact hok
  have t5 : decide (n > 1000) = true := decide_eq_true h5
  go_wp2_with fail
  refine bodyPost_ret (results_tmp3 rfl _ _ _) rfl ?_
  exact ⟨rfl, hb⟩

set_option maxRecDepth 100000 in
set_option maxHeartbeats 2000000 in
theorem split_yes (l : List Int) (N : Nat) (v : Value) (w : World) (hl : All64 l) (hA : IArg w v l) (h1 : 1 ≤ l.length) (h2 : l.length ≤ 100) (h3 : l.all blw = true) (h4 : l.length ≤ N) (h5 : N ≤ 1000) :
    Calls Try.prog 23 #[v, I (N : Int)] w fun e w' => ∃ v1 v2, e = .returned (.tuple #[v1, v2, .bool true]) ∧ OwnSh w' w.heap.size v1 (shl l N) ∧ OwnI w' w.heap.size v2 (coms l) ∧ Below w.heap.size w w' ∧ Apart v1 v2 := by
  obtain ⟨a, cap, rfl, hc, hA'⟩ := id hA
  have hb0 := (Below.refl w.heap.size w).alloc (Nat.le_refl _) (.cells #[.slice a l.length cap] 22)
  have N2 := Blk.new w #[.slice a l.length cap] 22
  have S1 := Lib.hid (sel_below l (.slice a l.length cap) _ hl (by omega) (hA.below hb0))
  have hq0 := (wrong_none l).2 h3
  have HA := Lib.hid (fun W (hb : Below w.heap.size w W) (h : l ≠ []) => (by obtain ⟨g, o, e1, e2⟩ := hA' h; exact ⟨g, o, e1, e2.below hb⟩ : ∃ g o, a = some ⟨g, o, none⟩ ∧ IAt W g o l))
  have HC : Hid (∀ (k : Nat) (c : Int), l[k]? = some c → (coms l).take (k + 1) = (coms l).take k ++ [Fld.powS 4 c 2305843009213691579]) := by
    show ∀ (k : Nat) (c : Int), _
    intro k c hk
    unfold coms
    rw [List.take_add_one, List.getElem?_map, hk]; rfl
  have HCL : Hid (∀ k, ((coms l).take k).length ≤ k) := fun k => List.length_take_le k _
  have HCE : Hid ((coms l).take l.length = coms l) := List.take_of_length_le (by unfold coms; simp)
  have c0 := N2.cell 0 _ rfl
  clear hA hA' h3
  obtain ⟨m, hm⟩ : ∃ m, l.length = m := ⟨_, rfl⟩
  have HM := Lib.hid hm
  rw [hm] at hc hb0 c0 N2 S1 h1 h2 h4 HCE
  clear hm
  have t1 : ¬ (m : Int) < 1 := by omega
  have t1' : decide ((m : Int) < 1) = false := decide_eq_false t1
  have t2 : ¬ (100 : Int) < (m : Int) := by omega
  have t2' : decide ((m : Int) > 100) = false := decide_eq_false t2
  have t4 : ¬ (N : Int) < (m : Int) := by omega
  have t4' : decide ((N : Int) < (m : Int)) = false := decide_eq_false t4
  have t5 : ¬ (1000 : Int) < (N : Int) := by omega
  have t5' : decide ((N : Int) > 1000) = false := decide_eq_false t5
  rw [HM.out]
  refine (callsIn_wide (n := 10)).1 ?_
  refine callsIn_of_wp_marks Try.func23 rfl trivial ?_ rfl
  simp only [Try.ntmps23, List.size_toArray, List.length_cons, List.length_nil, Nat.reduceAdd, Nat.reduceSub, Array.replicate_succ, Array.replicate_zero, List.push_toArray, List.append_toArray, List.nil_append, List.cons_append]
  refine wpIn_wide.2 ?_
  go_wp2_with fail
  refine S1.out.mono ?_
  rintro e w1 ⟨v1, v2, rfl, _, o2, hb1⟩
  obtain ⟨a2, cap2, rfl, hc2⟩ := o2.form
  rw [hq0]
  have hb := hb0.trans (hb1.mono hb0.size)
  have M2 := N2.below hb1 N2.lt
  have d0 := M2.cell 0 _ rfl
  have l2 := hb0.size
  clear o2 S1 c0 N2 hb1 hb0 hq0
  go_wp2_with fail
  go_loopw [9, 47] (fun v9 i wr => ∃ k : Nat, k ≤ m ∧ i = .int .i64 (k : Int) ∧ Hid (OwnI wr w1.heap.size v9 ((coms l).take k)) ∧ Below w1.heap.size w1 wr) (fun _ i _ => m - (intOf i).toNat)
  case atStart => exact ⟨0, by omega, rfl, OwnV.nil _ _ _, Below.refl _ _⟩
  case round =>
    clear d0
    obtain ⟨k, hk, rfl, H1, hg1⟩ := hrel
    have hb := hb.trans (hg1.mono hb.size)
    have M2 := M2.below hg1 M2.lt
    by_cases hlt : k < m
    · obtain ⟨c, hck⟩ : ∃ c, l[k]? = some c := ⟨l[k]'(by have := HM.out; omega), List.getElem?_eq_getElem _⟩
      have hc64 := hl.get hck
      obtain ⟨g, o, rfl, hAt⟩ := HA.out wr hb (by rintro rfl; simp at hck)
      have c1 := hAt k c hck
      have D1 := Lib.hid (fun w => Pow_any 4 c 2305843009213691579 ⟨by decide, by decide⟩ hc64 (by decide) w)
      have HC1 := Lib.hid (HC.out k c hck)
      have q1 : (k : Int) < (m : Int) := by omega
      clear hck hAt
      generalize Fld.powS 4 c 2305843009213691579 = p at *
      go_wp2_with fail
      refine (D1.out _).mono ?_; rintro e w3 ⟨rfl, hb3⟩
      have hb3' := hg1.trans (hb3.mono hg1.size)
      have O1 := Lib.hid (H1.out.below hb3)
      obtain ⟨v', w4, r1, r2, r3, r4⟩ := run_append_int w3 w1.heap.size u9 _ O1.out hb3'.size p (by have := HCL.out k; omega)
      have HB1 := Lib.hid (one_int w3 p)
      have HAPP := Lib.hid r1
      have P1 : Hid (OwnI w4 w1.heap.size v' ((coms l).take (k + 1))) := by
        show OwnI w4 w1.heap.size v' _
        rw [HC1.out]
        exact r2
      have hb4 := below_of_grown hb3' r3 hb3'.size (fun g hg => O1.out.blk g hg)
      clear r1 r2 r3 r4 O1 hb3' hb3 D1 c1 H1
      go_wp2_with (first
        | (refine wpList_build_run rfl 22 1 #[(0, .tmp 53)] rfl #[(0, I p)] rfl _ _ HB1.out ?_)
        | (at_builtin; refine Lib.wpList_append_run _ rfl (.tmp 51) (.tmp 54) 22 22 rfl _ _ rfl rfl _ _ HAPP.out ?_))
      go_roundw
      case rel =>
        simp
        exact ⟨_, _, _, ⟨k + 1, by omega, rfl, P1, hb4⟩, rfl, rfl, by omega, by go_num⟩
      case measure => simp [intOf]; omega
    · have q1 : ¬ ((k : Int) < (m : Int)) := by omega
      obtain rfl : k = m := by omega
      have H2 : Hid (OwnI wr w1.heap.size u9 (coms l)) := by
        show OwnI wr w1.heap.size u9 _
        rw [← HCE.out]; exact H1.out
      clear H1 HC HCE
      go_wp2_with fail
      refine spl_loop _ _ _ _ _ _ _ _ _ _ _ _ _ _ _ _ _ _ _ _ _ _ _ _ _ _ _ _ _ _ _ _ _ _ _ _ _ _ _ _ _ _ _ _ _ _ _ _ _ _ _ _ _ _ _ _ _ _ _ _ _ _ _ _ _ _ _ _ _ _ _ _ _ _ _ _ _ _ _ _ _ _ _ _ w.heap.size N k cap a l wr hl HM.out (by omega) (by omega) M2 (HA.out wr hb) _ ?_
      intro y14 y57 y58 y59 y60 y61 y62 y63 y64 y65 y82 y83 y84 y85 v12 z Ds W hO hW hMK
      have HW := Lib.hid (hb.trans (hW.mono hb.size))
      have HO := Lib.hid hO
      have HMK := Lib.hid hMK
      have HV9 := Lib.hid (H2.out.below hW)
      have HV9b : Hid (∀ D ∈ Ds, blkOf u9 ≠ some D) := by
        show ∀ D ∈ Ds, _
        intro D hD e
        have := H2.out.blk_lt D e
        have := hMK.base D hD
        omega
      have hsw := hb.size
      have hsw1 := hg1.size
      have hsa := ‹Below w.heap.size w w1›.size
      have HAPT : Hid (Apart v12 u9) := by
        show Apart v12 u9
        intro g hg e
        have h1 := hO.blk g hg
        have h2 := H2.out.blk_lt g e
        omega
      clear hO hW hMK H2
      go_wp2_with fail
      show LeavesInM Fence.wide 10 Try.prog Try.f23 _ _ (Ds.map mark) .returning W
      refine leaves_marks (fun W' => OwnSh W' w.heap.size v12 (shl l N) ∧ OwnI W' w.heap.size u9 (coms l) ∧ Below w.heap.size w W') Ds W HMK.out.nodup HMK.out.heap ?_ ⟨HO.out.mono hsw, HV9.out.mono hsa, HW.out⟩ ?_
      · rintro W' D o o' hD hK hc ⟨p1, p2, p3⟩
        have hbase := HMK.out.base D hD
        exact ⟨p1.grown (grownBy_putObj' W' D o') (fun g hg e => by injection e with e; exact HMK.out.apart D hD (by rw [hg, e])), p2.grown (grownBy_putObj' W' D o') (fun g hg e => by injection e with e; exact HV9b.out D hD (by rw [hg, e])),
          below_of_grown p3 (grownBy_putObj' W' D o') p3.size (fun g e => by injection e with e; omega)⟩
      · rintro W' ⟨p1, p2, p3⟩
        refine ⟨.tuple #[v12, u9, .bool true], ?_, v12, u9, rfl, p1, p2, p3, HAPT.out⟩
        simp [results, Try.results23, go_sem]

end Go.Proofs.Ytdnabeldaighgaa
