/- The contracts of the reference's Path and HeadOf. Conditions: sizes. -/
import Derived.Test.YtjekdeikoebmgaaHK
namespace Go.Proofs.Ytjekdeikoebmgaa
open Go.RowKit Go.Shelf Tr

theorem path_len (l : List (List UInt8)) (n : Nat) : (path l n).length ≤ l.length := by
  induction l, n using path.induct with
  | case1 l n h => rw [path, dif_pos h]; simp
  | case2 l n h hn ih =>
    rw [path, dif_neg h, if_pos hn]
    have := half_lt (n := l.length) (by omega)
    simp at ih ⊢
    omega
  | case3 l n h hn ih =>
    rw [path, dif_neg h, if_neg hn]
    have := half_lt (n := l.length) (by omega)
    have := half_pos (n := l.length) (by omega)
    simp at ih ⊢
    omega

set_option maxRecDepth 100000 in
set_option maxHeartbeats 1000000 in
theorem RPath_no (l : List (List UInt8)) (n : Int) (v : Value) (w : World) (hS : Small l) (hA : SArg w v l) (h : n < 0 ∨ (l.length : Int) ≤ n) :
    Calls Try.prog 22 #[v, .int .i64 n] w fun e w' => e = .returned (.tuple #[.slice none 0 0, .bool false]) ∧ w = w' := by
  obtain ⟨a, cap, rfl, hc, _⟩ := hA
  have hl := hS.len
  by_cases h0 : n < 0
  · have t : decide (n < 0) = true := decide_eq_true h0
    go_enter Try.func22, Try.ntmps22
    go_wp2_with fail
    exact bodyPost_ret (results_tmp2 rfl _ _ _) rfl ⟨rfl, rfl⟩
  · have t : decide (n < 0) = false := decide_eq_false h0
    have h1 : (l.length : Int) ≤ n := by omega
    have t2 : decide (n ≥ (l.length : Int)) = true := decide_eq_true h1
    go_enter Try.func22, Try.ntmps22
    go_wp2_with fail
    exact bodyPost_ret (results_tmp2 rfl _ _ _) rfl ⟨rfl, rfl⟩

set_option maxRecDepth 100000 in
set_option maxHeartbeats 1000000 in
theorem RPath_yes (N : Nat) : ∀ (l : List (List UInt8)) (n : Nat) (v : Value) (w : World), l.length ≤ N → Small l → SArg w v l → n < l.length →
    Calls Try.prog 22 #[v, .int .i64 n] w (PathPost w (path l n)) := by
  induction N with
  | zero => intro l n v w h0 hS hA h; omega
  | succ N ih =>
    intro l n v w h0 hS hA h
    obtain ⟨a, cap, rfl, hc, hA⟩ := hA
    obtain ⟨g, o, rfl, hA2⟩ := hA (by rintro rfl; simp at h)
    have hl := hS.len
    have t1 : decide ((n : Int) < 0) = false := decide_eq_false (by omega)
    have t2 : decide ((n : Int) ≥ (l.length : Int)) = false := decide_eq_false (by omega)
    have t2' : ¬ ((l.length : Int) ≤ (n : Int)) := by omega
    by_cases h1 : l.length = 1
    · have t3 : ((l.length : Int) == 1) = true := by rw [beq_iff_eq]; omega
      have hp := path_one (l := l) (by omega) n
      rw [hp]
      clear h1 hp ih hA hA2
      go_enter Try.func22, Try.ntmps22
      go_wp2_with fail
      refine bodyPost_ret (results_tmp2 rfl _ _ _) rfl ?_
      exact ⟨_, rfl, OwnV.nil _ _ _, Below.refl _ _⟩
    · have t3 : ((l.length : Int) == 1) = false := by rw [beq_eq_false_iff_ne]; omega
      have h2 : 2 ≤ l.length := by omega
      obtain ⟨k, hkk⟩ : ∃ k, half l.length = k := ⟨_, rfl⟩
      have hk0 := half_pos h2
      have hk1 := half_lt h2
      have A1 := Lib.hid (fun w => RHalf_any l.length (by omega) (by omega) w)
      have PL : n < half l.length → Hid (path l n = path (l.take (half l.length)) n ++ [root (l.drop (half l.length))]) := fun hn => path_left h2 hn
      have PR : ¬ n < half l.length → Hid (path l n = path (l.drop (half l.length)) (n - half l.length) ++ [root (l.take (half l.length))]) := fun hn => path_right h2 hn
      rw [hkk] at hk0 hk1 A1 PL PR
      have hlk : (l.take k).length = k := by simp; omega
      have hlr : (l.drop k).length = l.length - k := by simp
      have KL : Hid (∀ w', Below w.heap.size w w' → SArg w' (.slice (some ⟨g, o, none⟩) k cap) (l.take k)) := fun w' hb => SArg.of hlk (by omega) ((hA2.below hb).take k)
      have KR : Hid (∀ w', Below w.heap.size w w' → SArg w' (.slice (some ⟨g, o + k, none⟩) (l.length - k) (cap - k)) (l.drop k)) := fun w' hb => SArg.of hlr (by omega) ((hA2.below hb).drop k)
      have k1 : (k : Int) ≤ (l.length : Int) := by omega
      have k2 : (k : Int) ≤ (cap : Int) := by omega
      have k3 : k ≤ l.length := by omega
      have k4 : k < cap := by omega
      have k5 : (l.length : Int) ≤ (cap : Int) := by omega
      by_cases hn : n < k
      · have q2 : (n : Int) < (k : Int) := by omega
        have HP := PL hn
        have P1 := Lib.hid (fun w hA => ih (l.take k) n (.slice (some ⟨g, o, none⟩) k cap) w (by omega) (hS.take k) hA (by omega))
        have R1 := Lib.hid (fun w hA => RRoot_any (l.drop k).length (l.drop k) (.slice (some ⟨g, o + k, none⟩) (l.length - k) (cap - k)) w (Nat.le_refl _) (hS.drop k) hA)
        have hpl := path_len (l.take k) n
        have r32 := root_length (l.drop k)
        have Hpl := Lib.hid hpl
        have Hlk := Lib.hid hlk
        clear hkk ih hA hA2 PL PR hlk hlr h1 hpl
        go_enter Try.func22, Try.ntmps22
        go_wp2_with fail
        refine (A1.out _).mono ?_; rintro e w1 ⟨rfl, rfl⟩
        go_wp2_with fail
        refine (P1.out _ (KL.out _ (Below.refl _ _))).mono ?_; rintro e w1 ⟨v1, rfl, hO, hb1⟩
        go_wp2_with fail
        refine (R1.out _ (KR.out _ hb1)).mono ?_; rintro e w2 ⟨rfl, hb2⟩
        have hbs := run_build1 _ r32
        obtain ⟨v', w', hap, hO', hgr, hblk⟩ := run_append_hash w2 w.heap.size v1 _ (hO.below hb2) (Nat.le_trans hb1.size hb2.size) _ r32 (by have := Hpl.out; have := Hlk.out; omega)
        have hB1 := below_of_grown (hb1.trans (hb2.mono hb1.size)) hgr (Nat.le_trans hb1.size hb2.size) (fun g' hg' => hO.blk g' hg')
        have HBS := Lib.hid (hbs w2)
        have HAP := Lib.hid hap
        clear hbs hap P1 R1 KL KR A1
        rw [← HP.out] at hO'
        generalize hrow (root (l.drop k)) = R at HBS HAP ⊢
        go_wp2_with (first
          | (refine wpList_build_run rfl 32 1 #[(0, .tmp 40)] rfl #[(0, .agg R)] rfl _ _ HBS.out ?_)
          | (at_builtin; refine Lib.wpList_append_run _ rfl (.tmp 36) (.tmp 41) 32 32 rfl _ _ rfl rfl _ _ HAP.out ?_))
        refine bodyPost_ret (results_tmp2 rfl _ _ _) rfl ?_
        exact ⟨_, rfl, hO', hB1⟩
      · have q2 : ¬ ((n : Int) < (k : Int)) := by omega
        have HP := PR hn
        have e1 : (n : Int) - (k : Int) = ((n - k : Nat) : Int) := by omega
        have P1 := Lib.hid (fun w hA => e1 ▸ ih (l.drop k) (n - k) (.slice (some ⟨g, o + k, none⟩) (l.length - k) (cap - k)) w (by omega) (hS.drop k) hA (by omega))
        have R1 := Lib.hid (fun w hA => RRoot_any (l.take k).length (l.take k) (.slice (some ⟨g, o, none⟩) k cap) w (Nat.le_refl _) (hS.take k) hA)
        have hpl := path_len (l.drop k) (n - k)
        have r32 := root_length (l.take k)
        have Hpl := Lib.hid hpl
        have Hlk := Lib.hid hlr
        clear hkk ih hA hA2 PL PR hlk hlr h1 hpl e1
        go_enter Try.func22, Try.ntmps22
        go_wp2_with fail
        refine (A1.out _).mono ?_; rintro e w1 ⟨rfl, rfl⟩
        go_wp2_with fail
        refine (P1.out _ (KR.out _ (Below.refl _ _))).mono ?_; rintro e w1 ⟨v1, rfl, hO, hb1⟩
        go_wp2_with fail
        refine (R1.out _ (KL.out _ hb1)).mono ?_; rintro e w2 ⟨rfl, hb2⟩
        have hbs := run_build1 _ r32
        obtain ⟨v', w', hap, hO', hgr, hblk⟩ := run_append_hash w2 w.heap.size v1 _ (hO.below hb2) (Nat.le_trans hb1.size hb2.size) _ r32 (by have := Hpl.out; have := Hlk.out; omega)
        have hB1 := below_of_grown (hb1.trans (hb2.mono hb1.size)) hgr (Nat.le_trans hb1.size hb2.size) (fun g' hg' => hO.blk g' hg')
        have HBS := Lib.hid (hbs w2)
        have HAP := Lib.hid hap
        clear hbs hap P1 R1 KL KR A1
        rw [← HP.out] at hO'
        generalize hrow (root (l.take k)) = R at HBS HAP ⊢
        go_wp2_with (first
          | (refine wpList_build_run rfl 32 1 #[(0, .tmp 57)] rfl #[(0, .agg R)] rfl _ _ HBS.out ?_)
          | (at_builtin; refine Lib.wpList_append_run _ rfl (.tmp 53) (.tmp 58) 32 32 rfl _ _ rfl rfl _ _ HAP.out ?_))
        refine bodyPost_ret (results_tmp2 rfl _ _ _) rfl ?_
        exact ⟨_, rfl, hO', hB1⟩
end Go.Proofs.Ytjekdeikoebmgaa
