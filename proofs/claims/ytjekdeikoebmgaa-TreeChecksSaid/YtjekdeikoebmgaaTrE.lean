/- The contract of Path. Conditions: sizes. -/
import Derived.Test.YtjekdeikoebmgaaTrD
namespace Go.Proofs.Ytjekdeikoebmgaa
open Go.RowKit Go.Shelf Tr

set_option maxRecDepth 100000 in
set_option maxHeartbeats 1000000 in
theorem Path_no (l : List (List UInt8)) (n : Int) (v : Value) (w : World) (hS : Small l) (hA : SArg w v l) (h : n < 0 ∨ (l.length : Int) ≤ n) :
    Calls Try.prog 21 #[v, .int .i64 n] w fun e w' => e = .returned (.tuple #[.slice none 0 0, .bool false]) ∧ w = w' := by
  obtain ⟨a, cap, rfl, hc, _⟩ := hA
  have hl := hS.len
  by_cases h0 : n < 0
  · have t : decide (n < 0) = true := decide_eq_true h0
    go_enter Try.func21, Try.ntmps21
    go_wp2_with fail
    exact bodyPost_ret (results_tmp2 rfl _ _ _) rfl ⟨rfl, rfl⟩
  · have t : decide (n < 0) = false := decide_eq_false h0
    have h1 : (l.length : Int) ≤ n := by omega
    have t2 : decide (n ≥ (l.length : Int)) = true := decide_eq_true h1
    go_enter Try.func21, Try.ntmps21
    go_wp2_with fail
    exact bodyPost_ret (results_tmp2 rfl _ _ _) rfl ⟨rfl, rfl⟩

/-- A slice of hashes of the call's own is handed back, and true. -/
def PathPost (w : World) (hs : List (List UInt8)) (e : Ending) (w' : World) : Prop := ∃ v, e = .returned (.tuple #[v, .bool true]) ∧ OwnH w' w.heap.size v hs ∧ Below w.heap.size w w'

set_option maxRecDepth 100000 in
set_option maxHeartbeats 1000000 in
theorem Reverse_nil (w : World) : Calls Try.prog 40 #[.slice none 0 0] w fun e w' => e = .returned (.tuple #[]) ∧ w = w' := by
  go_enter Try.func40, Try.ntmps40
  go_wp2_with fail
  go_loopw [2, 3] (fun i j wr => i = .int .i64 0 ∧ j = .int .i64 (-1) ∧ wr = w) (fun _ _ _ => 0)
  case atStart => exact ⟨rfl, rfl, rfl⟩
  case round =>
    obtain ⟨rfl, rfl, rfl⟩ := hrel
    go_wp2_with fail
    go_end0
    exact ⟨rfl, rfl⟩

set_option maxRecDepth 100000 in
set_option maxHeartbeats 1000000 in
theorem Path_yes (l : List (List UInt8)) (n : Nat) (v : Value) (w : World) (hS : Small l) (hA : SArg w v l) (h : n < l.length) :
    Calls Try.prog 21 #[v, .int .i64 n] w (PathPost w (path l n)) := by
  obtain ⟨a, cap, hv, hc, hA2⟩ := id hA
  have hl := hS.len
  have t1 : decide ((n : Int) < 0) = false := decide_eq_false (by omega)
  have t2 : decide ((n : Int) ≥ (l.length : Int)) = false := decide_eq_false (by omega)
  have t3 : ¬ ((l.length : Int) ≤ (n : Int)) := by omega
  have HA0 := Lib.hid hA
  clear hA hA2
  subst hv
  go_enter Try.func21, Try.ntmps21
  go_wp2_with fail
  go_loopw [0, 1, 6] (fun x0 x1 x6 wr => ∃ (l' : List (List UInt8)) (n' : Nat) (hs : List (List UInt8)), SArg w x0 l' ∧ x1 = .int .i64 n' ∧ n' < l'.length ∧ Small l' ∧ Hid (path l n = path l' n' ++ hs.reverse) ∧ Hid (All32 hs) ∧ OwnH wr w.heap.size x6 hs ∧ hs.length + l'.length ≤ l.length ∧ Below w.heap.size w wr) (fun x0 _ _ _ => sliceLen x0)
  case atStart => exact ⟨l, n, [], HA0.out, rfl, h, hS, by show _ = _; simp, All32.nil, OwnV.nil _ _ _, by simp, Below.refl _ _⟩
  case round =>
    clear HA0
    obtain ⟨l', n', hs, ⟨a', cap', rfl, hc', hA'⟩, rfl, hn', hS', HP, HA, hO, hlen, hB⟩ := hrel
    have hl' := hS'.len
    by_cases h2 : 2 ≤ l'.length
    · obtain ⟨g, o, rfl, hA2⟩ := hA' (by rintro rfl; simp at h2)
      have hk0 := half_pos h2
      have hk1 := half_lt h2
      have A1 := Lib.hid (fun w => half_any l'.length (by omega) (by omega) w)
      by_cases hk : n' < half l'.length
      · have hk2 : n' < half l'.length := hk
        have HQ : Hid (path l n = path (l'.take (half l'.length)) n' ++ (hs ++ [root (l'.drop (half l'.length))]).reverse) := by
          show _ = _
          rw [HP.out, path_left h2 hk, List.reverse_append, List.append_assoc]; rfl
        have hls : (l'.drop (half l'.length)).length = l'.length - half l'.length := by rw [List.length_drop]
        have hlk : (l'.take (half l'.length)).length = half l'.length := by rw [List.length_take]; omega
        have E1 : Hid (Calls Try.prog 16 #[.slice (some ⟨g, o + half l'.length, none⟩) (l'.length - half l'.length) (cap' - half l'.length)] wr fun e w'' => e = .returned (.agg (hrow (root (l'.drop (half l'.length))))) ∧ Below wr.heap.size wr w'') := Root_any _ _ _ wr (Nat.le_refl _) (hS'.drop _) (SArg.of hls (by omega) ((hA2.below hB).drop _))
        have KA : Hid (SArg w (.slice (some ⟨g, o, none⟩) (half l'.length) (cap')) (l'.take (half l'.length))) := SArg.of hlk (by omega) (hA2.take _)
        have KS := Lib.hid (hS'.take (half l'.length))
        have r32 := root_length (l'.drop (half l'.length))
        have hn2 : n' < (l'.take (half l'.length)).length := by rw [hlk]; omega
        have hlen2 : (hs ++ [root (l'.drop (half l'.length))]).length + (l'.take (half l'.length)).length ≤ l.length := by rw [List.length_append, hlk]; simp; omega
        have Hn2 := Lib.hid hn2
        have Hlen2 := Lib.hid hlen2
        have hm : half l'.length < l'.length := by omega
        generalize (l'.take (half l'.length)) = lk at *
        generalize root (l'.drop (half l'.length)) = x at *
        clear hn2 hlen2 hls hlk
        obtain ⟨N, hN⟩ : ∃ N, l'.length = N := ⟨_, rfl⟩
        obtain ⟨k, hkk⟩ : ∃ k, half l'.length = k := ⟨_, rfl⟩
        rw [hkk] at A1 E1 KA hk hm hk0 hk1
        rw [hN] at A1 E1 hm hk1 h2 hc' hl' hlen hn'
        rw [hN]
        clear hN hkk
        have q0 : decide ((N : Int) > 1) = true := decide_eq_true (by omega)
        have q1 : (1 : Int) < (N : Int) := by omega
        have q2 : (n' : Int) < (k : Int) := by omega
        have k1 : (k : Int) ≤ (N : Int) := by omega
        have k2 : (k : Int) ≤ (cap' : Int) := by omega
        have k3 : k ≤ N := by omega
        have k4 : k ≤ cap' := by omega
        have k5 : (N : Int) ≤ (cap' : Int) := by omega
        have k6 : N ≤ cap' := by omega
        go_wp2_with fail
        refine (A1.out _).mono ?_; rintro e w1 ⟨rfl, rfl⟩
        go_wp2_with fail
        refine (E1.out).mono ?_; rintro e w1 ⟨rfl, hb1⟩
        have hbs := run_build1 x r32
        obtain ⟨v', w', hap, hO', hgr, hblk⟩ := run_append_hash w1 w.heap.size u6 hs (hO.below hb1) (Nat.le_trans hB.size hb1.size) x r32 (by omega)
        have hB1 := below_of_grown (hB.trans (hb1.mono hB.size)) hgr (Nat.le_trans hB.size hb1.size) (fun g' hg' => hO.blk g' hg')
        have HBS := Lib.hid (hbs w1)
        have HAP := Lib.hid hap
        clear hbs hap
        generalize hrow x = R at HBS HAP ⊢
        go_wp2_with (first
          | (refine wpList_build_run rfl 32 1 #[(0, .tmp 29)] rfl #[(0, .agg R)] rfl _ _ HBS.out ?_)
          | (at_builtin; refine Lib.wpList_append_run _ rfl (.tmp 25) (.tmp 30) 32 32 rfl _ _ rfl rfl _ _ HAP.out ?_))
        go_roundw
        case rel => exact ⟨lk, n', hs ++ [x], KA.out, rfl, Hn2.out, KS.out, HQ.out, HA.out.snoc r32, hO', Hlen2.out, hB1⟩
        case measure => simp [sliceLen]; omega
      · have hk2 : half l'.length ≤ n' := by omega
        have HQ : Hid (path l n = path (l'.drop (half l'.length)) (n' - half l'.length) ++ (hs ++ [root (l'.take (half l'.length))]).reverse) := by
          show _ = _
          rw [HP.out, path_right h2 hk, List.reverse_append, List.append_assoc]; rfl
        have hls : (l'.take (half l'.length)).length = half l'.length := by rw [List.length_take]; omega
        have hlk : (l'.drop (half l'.length)).length = l'.length - half l'.length := by rw [List.length_drop]
        have E1 : Hid (Calls Try.prog 16 #[.slice (some ⟨g, o, none⟩) (half l'.length) (cap')] wr fun e w'' => e = .returned (.agg (hrow (root (l'.take (half l'.length))))) ∧ Below wr.heap.size wr w'') := Root_any _ _ _ wr (Nat.le_refl _) (hS'.take _) (SArg.of hls (by omega) ((hA2.below hB).take _))
        have KA : Hid (SArg w (.slice (some ⟨g, o + half l'.length, none⟩) (l'.length - half l'.length) (cap' - half l'.length)) (l'.drop (half l'.length))) := SArg.of hlk (by omega) (hA2.drop _)
        have KS := Lib.hid (hS'.drop (half l'.length))
        have r32 := root_length (l'.take (half l'.length))
        have hn2 : (n' - half l'.length) < (l'.drop (half l'.length)).length := by rw [hlk]; omega
        have hlen2 : (hs ++ [root (l'.take (half l'.length))]).length + (l'.drop (half l'.length)).length ≤ l.length := by rw [List.length_append, hlk]; simp; omega
        have Hn2 := Lib.hid hn2
        have Hlen2 := Lib.hid hlen2
        have hm : l'.length - half l'.length < l'.length := by omega
        generalize (l'.drop (half l'.length)) = lk at *
        generalize root (l'.take (half l'.length)) = x at *
        clear hn2 hlen2 hls hlk
        obtain ⟨N, hN⟩ : ∃ N, l'.length = N := ⟨_, rfl⟩
        obtain ⟨k, hkk⟩ : ∃ k, half l'.length = k := ⟨_, rfl⟩
        rw [hkk] at A1 E1 KA hk hm hk0 hk1
        rw [hN] at A1 KA hm hk1 h2 hc' hl' hlen hn'
        rw [hN]
        rw [hkk] at Hn2 HQ
        clear hN hkk
        have q0 : decide ((N : Int) > 1) = true := decide_eq_true (by omega)
        have q1 : (1 : Int) < (N : Int) := by omega
        have q2 : ¬ ((n' : Int) < (k : Int)) := by omega
        have k1 : (k : Int) ≤ (N : Int) := by omega
        have k2 : (k : Int) ≤ (cap' : Int) := by omega
        have k3 : k ≤ N := by omega
        have k4 : k ≤ cap' := by omega
        have k5 : (N : Int) ≤ (cap' : Int) := by omega
        have k6 : N ≤ cap' := by omega
        go_wp2_with fail
        refine (A1.out _).mono ?_; rintro e w1 ⟨rfl, rfl⟩
        go_wp2_with fail
        refine (E1.out).mono ?_; rintro e w1 ⟨rfl, hb1⟩
        have hbs := run_build1 x r32
        obtain ⟨v', w', hap, hO', hgr, hblk⟩ := run_append_hash w1 w.heap.size u6 hs (hO.below hb1) (Nat.le_trans hB.size hb1.size) x r32 (by omega)
        have hB1 := below_of_grown (hB.trans (hb1.mono hB.size)) hgr (Nat.le_trans hB.size hb1.size) (fun g' hg' => hO.blk g' hg')
        have HBS := Lib.hid (hbs w1)
        have HAP := Lib.hid hap
        clear hbs hap
        generalize hrow x = R at HBS HAP ⊢
        go_wp2_with (first
          | (refine wpList_build_run rfl 32 1 #[(0, .tmp 39)] rfl #[(0, .agg R)] rfl _ _ HBS.out ?_)
          | (at_builtin; refine Lib.wpList_append_run _ rfl (.tmp 35) (.tmp 40) 32 32 rfl _ _ rfl rfl _ _ HAP.out ?_))
        go_roundw
        case rel => exact ⟨lk, (n' - k), hs ++ [x], KA.out, congrArg (Value.int .i64) (by omega), Hn2.out, KS.out, HQ.out, HA.out.snoc r32, hO', Hlen2.out, hB1⟩
        case measure => simp [sliceLen]; omega
    · have hl1 : l'.length = 1 := by omega
      have HR : Hid (path l n = hs.reverse) := by show _ = _; rw [HP.out, path_one (by omega)]; rfl
      have q0 : ¬ ((1 : Int) < (l'.length : Int)) := by omega
      have q1 : decide ((l'.length : Int) > 1) = false := decide_eq_false q0
      have hn1 : hs.length ≤ 4398046511104 := by omega
      clear HP hA'
      rcases hO with ⟨rfl, hz, _⟩ | ⟨gg, cc, rfl, z1, z2, z3⟩
      · obtain rfl : hs = [] := List.length_eq_zero_iff.1 hz
        go_wp2_with fail
        refine (Reverse_nil _).mono ?_; rintro e w1 ⟨rfl, rfl⟩
        go_wp2_with fail
        refine bodyPost_ret (results_tmp2 rfl _ _ _) rfl ?_
        rw [HR.out]
        exact ⟨_, rfl, OwnV.nil _ _ _, hB⟩
      · have RV := Lib.hid (Reverse_any w.heap.size gg cc hs HA.out hn1 wr z3)
        have hgb := z3.base
        have hrl : hs.reverse.length = hs.length := List.length_reverse
        have hcl := hcells_length (All32.reverse HA.out)
        have Hrl := Lib.hid hrl
        have Hcl := Lib.hid hcl
        clear z1 z3 hrl hcl
        go_wp2_with fail
        refine (RV.out).mono ?_; rintro e w1 ⟨rfl, hV, hG⟩
        have hB1 := below_of_grown hB hG hB.size (fun g' hg' => by cases hg'; exact hgb)
        go_wp2_with fail
        refine bodyPost_ret (results_tmp2 rfl _ _ _) rfl ?_
        rw [HR.out]
        refine ⟨_, rfl, .inr ⟨gg, cc, ?_, Hcl.out, by rw [Hrl.out]; exact z2, hV⟩, hB1⟩
        rw [Hrl.out]; rfl
end Go.Proofs.Ytjekdeikoebmgaa
