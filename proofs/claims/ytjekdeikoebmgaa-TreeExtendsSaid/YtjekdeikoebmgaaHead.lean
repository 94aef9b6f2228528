/- The contracts of the reference's Path and HeadOf. Conditions: sizes. Heads; the contract of the reference's HeadOf. Conditions: sizes. -/
import Derived.Test.YtjekdeikoebmgaaTrI
namespace Go.Proofs.Ytjekdeikoebmgaa
open Go.RowKit Go.Shelf Tr

theorem path_len (l : List (List UInt8)) (n : Nat) : (path l n).length ≤ l.length := by
  induction l, n using path.induct with
  | case1 l n h => rw [path, dif_pos h]; simp
  | case2 l n h hn ih =>
    rw [path, dif_neg h, if_pos hn]
    have := half_lt (n := l.length) (by omega)
    simp at ih ⊢
    omega
  | case3 l n h hn ih =>
    rw [path, dif_neg h, if_neg hn]
    have := half_lt (n := l.length) (by omega)
    have := half_pos (n := l.length) (by omega)
    simp at ih ⊢
    omega

set_option maxRecDepth 100000 in
set_option maxHeartbeats 1000000 in
theorem RPath_no (l : List (List UInt8)) (n : Int) (v : Value) (w : World) (hS : Small l) (hA : SArg w v l) (h : n < 0 ∨ (l.length : Int) ≤ n) :
    Calls Try.prog 22 #[v, .int .i64 n] w fun e w' => e = .returned (.tuple #[.slice none 0 0, .bool false]) ∧ w = w' := by
  obtain ⟨a, cap, rfl, hc, _⟩ := hA
  have hl := hS.len
  by_cases h0 : n < 0
  · have t : decide (n < 0) = true := decide_eq_true h0
    go_enter Try.func22, Try.ntmps22
    go_wp2_with fail
    exact bodyPost_ret (results_tmp2 rfl _ _ _) rfl ⟨rfl, rfl⟩
  · have t : decide (n < 0) = false := decide_eq_false h0
    have h1 : (l.length : Int) ≤ n := by omega
    have t2 : decide (n ≥ (l.length : Int)) = true := decide_eq_true h1
    go_enter Try.func22, Try.ntmps22
    go_wp2_with fail
    exact bodyPost_ret (results_tmp2 rfl _ _ _) rfl ⟨rfl, rfl⟩

set_option maxRecDepth 100000 in
set_option maxHeartbeats 1000000 in
theorem RPath_yes (N : Nat) : ∀ (l : List (List UInt8)) (n : Nat) (v : Value) (w : World), l.length ≤ N → Small l → SArg w v l → n < l.length →
    Calls Try.prog 22 #[v, .int .i64 n] w (PathPost w (path l n)) := by
  induction N with
  | zero => intro l n v w h0 hS hA h; omega
  | succ N ih =>
    intro l n v w h0 hS hA h
    obtain ⟨a, cap, rfl, hc, hA⟩ := hA
    obtain ⟨g, o, rfl, hA2⟩ := hA (by rintro rfl; simp at h)
    have hl := hS.len
    have t1 : decide ((n : Int) < 0) = false := decide_eq_false (by omega)
    have t2 : decide ((n : Int) ≥ (l.length : Int)) = false := decide_eq_false (by omega)
    have t2' : ¬ ((l.length : Int) ≤ (n : Int)) := by omega
    by_cases h1 : l.length = 1
    · have t3 : ((l.length : Int) == 1) = true := by rw [beq_iff_eq]; omega
      have hp := path_one (l := l) (by omega) n
      rw [hp]
      clear h1 hp ih hA hA2
      go_enter Try.func22, Try.ntmps22
      go_wp2_with fail
      refine bodyPost_ret (results_tmp2 rfl _ _ _) rfl ?_
      exact ⟨_, rfl, OwnV.nil _ _ _, Below.refl _ _⟩
    · have t3 : ((l.length : Int) == 1) = false := by rw [beq_eq_false_iff_ne]; omega
      have h2 : 2 ≤ l.length := by omega
      obtain ⟨k, hkk⟩ : ∃ k, half l.length = k := ⟨_, rfl⟩
      have hk0 := half_pos h2
      have hk1 := half_lt h2
      have A1 := Lib.hid (fun w => RHalf_any l.length (by omega) (by omega) w)
      have PL : n < half l.length → Hid (path l n = path (l.take (half l.length)) n ++ [root (l.drop (half l.length))]) := fun hn => path_left h2 hn
      have PR : ¬ n < half l.length → Hid (path l n = path (l.drop (half l.length)) (n - half l.length) ++ [root (l.take (half l.length))]) := fun hn => path_right h2 hn
      rw [hkk] at hk0 hk1 A1 PL PR
      have hlk : (l.take k).length = k := by simp; omega
      have hlr : (l.drop k).length = l.length - k := by simp
      have KL : Hid (∀ w', Below w.heap.size w w' → SArg w' (.slice (some ⟨g, o, none⟩) k cap) (l.take k)) := fun w' hb => SArg.of hlk (by omega) ((hA2.below hb).take k)
      have KR : Hid (∀ w', Below w.heap.size w w' → SArg w' (.slice (some ⟨g, o + k, none⟩) (l.length - k) (cap - k)) (l.drop k)) := fun w' hb => SArg.of hlr (by omega) ((hA2.below hb).drop k)
      have k1 : (k : Int) ≤ (l.length : Int) := by omega
      have k2 : (k : Int) ≤ (cap : Int) := by omega
      have k3 : k ≤ l.length := by omega
      have k4 : k < cap := by omega
      have k5 : (l.length : Int) ≤ (cap : Int) := by omega
      by_cases hn : n < k
      · have q2 : (n : Int) < (k : Int) := by omega
        have HP := PL hn
        have P1 := Lib.hid (fun w hA => ih (l.take k) n (.slice (some ⟨g, o, none⟩) k cap) w (by omega) (hS.take k) hA (by omega))
        have R1 := Lib.hid (fun w hA => RRoot_any (l.drop k).length (l.drop k) (.slice (some ⟨g, o + k, none⟩) (l.length - k) (cap - k)) w (Nat.le_refl _) (hS.drop k) hA)
        have hpl := path_len (l.take k) n
        have r32 := root_length (l.drop k)
        have Hpl := Lib.hid hpl
        have Hlk := Lib.hid hlk
        clear hkk ih hA hA2 PL PR hlk hlr h1 hpl
        go_enter Try.func22, Try.ntmps22
        go_wp2_with fail
        refine (A1.out _).mono ?_; rintro e w1 ⟨rfl, rfl⟩
        go_wp2_with fail
        refine (P1.out _ (KL.out _ (Below.refl _ _))).mono ?_; rintro e w1 ⟨v1, rfl, hO, hb1⟩
        go_wp2_with fail
        refine (R1.out _ (KR.out _ hb1)).mono ?_; rintro e w2 ⟨rfl, hb2⟩
        have hbs := run_build1 _ r32
        obtain ⟨v', w', hap, hO', hgr, hblk⟩ := run_append_hash w2 w.heap.size v1 _ (hO.below hb2) (Nat.le_trans hb1.size hb2.size) _ r32 (by have := Hpl.out; have := Hlk.out; omega)
        have hB1 := below_of_grown (hb1.trans (hb2.mono hb1.size)) hgr (Nat.le_trans hb1.size hb2.size) (fun g' hg' => hO.blk g' hg')
        have HBS := Lib.hid (hbs w2)
        have HAP := Lib.hid hap
        clear hbs hap P1 R1 KL KR A1
        rw [← HP.out] at hO'
        generalize hrow (root (l.drop k)) = R at HBS HAP ⊢
        go_wp2_with (first
          | (refine wpList_build_run rfl 32 1 #[(0, .tmp 40)] rfl #[(0, .agg R)] rfl _ _ HBS.out ?_)
          | (at_builtin; refine Lib.wpList_append_run _ rfl (.tmp 36) (.tmp 41) 32 32 rfl _ _ rfl rfl _ _ HAP.out ?_))
        refine bodyPost_ret (results_tmp2 rfl _ _ _) rfl ?_
        exact ⟨_, rfl, hO', hB1⟩
      · have q2 : ¬ ((n : Int) < (k : Int)) := by omega
        have HP := PR hn
        have e1 : (n : Int) - (k : Int) = ((n - k : Nat) : Int) := by omega
        have P1 := Lib.hid (fun w hA => e1 ▸ ih (l.drop k) (n - k) (.slice (some ⟨g, o + k, none⟩) (l.length - k) (cap - k)) w (by omega) (hS.drop k) hA (by omega))
        have R1 := Lib.hid (fun w hA => RRoot_any (l.take k).length (l.take k) (.slice (some ⟨g, o, none⟩) k cap) w (Nat.le_refl _) (hS.take k) hA)
        have hpl := path_len (l.drop k) (n - k)
        have r32 := root_length (l.take k)
        have Hpl := Lib.hid hpl
        have Hlk := Lib.hid hlr
        clear hkk ih hA hA2 PL PR hlk hlr h1 hpl e1
        go_enter Try.func22, Try.ntmps22
        go_wp2_with fail
        refine (A1.out _).mono ?_; rintro e w1 ⟨rfl, rfl⟩
        go_wp2_with fail
        refine (P1.out _ (KR.out _ (Below.refl _ _))).mono ?_; rintro e w1 ⟨v1, rfl, hO, hb1⟩
        go_wp2_with fail
        refine (R1.out _ (KL.out _ hb1)).mono ?_; rintro e w2 ⟨rfl, hb2⟩
        have hbs := run_build1 _ r32
        obtain ⟨v', w', hap, hO', hgr, hblk⟩ := run_append_hash w2 w.heap.size v1 _ (hO.below hb2) (Nat.le_trans hb1.size hb2.size) _ r32 (by have := Hpl.out; have := Hlk.out; omega)
        have hB1 := below_of_grown (hb1.trans (hb2.mono hb1.size)) hgr (Nat.le_trans hb1.size hb2.size) (fun g' hg' => hO.blk g' hg')
        have HBS := Lib.hid (hbs w2)
        have HAP := Lib.hid hap
        clear hbs hap P1 R1 KL KR A1
        rw [← HP.out] at hO'
        generalize hrow (root (l.take k)) = R at HBS HAP ⊢
        go_wp2_with (first
          | (refine wpList_build_run rfl 32 1 #[(0, .tmp 57)] rfl #[(0, .agg R)] rfl _ _ HBS.out ?_)
          | (at_builtin; refine Lib.wpList_append_run _ rfl (.tmp 53) (.tmp 58) 32 32 rfl _ _ rfl rfl _ _ HAP.out ?_))
        refine bodyPost_ret (results_tmp2 rfl _ _ _) rfl ?_
        exact ⟨_, rfl, hO', hB1⟩
end Go.Proofs.Ytjekdeikoebmgaa

namespace Go.Proofs.Ytjekdeikoebmgaa
open Go.RowKit Go.Shelf Tr

/-- The cells of a head. -/
def hdrow (n : Int) (x : List UInt8) : Array Value := (.int .i64 n :: x.map Y).toArray
theorem hdrow_size (n : Int) {x : List UInt8} (h : x.length = 32) : (hdrow n x).size = 33 := by unfold hdrow; simp [h]
theorem hdrow_one (n : Int) (x : List UInt8) : (hdrow n x).all (·.oneCell') = true := by
  unfold hdrow
  rw [Array.all_eq_true']
  intro u hu
  simp at hu
  rcases hu with rfl | ⟨y, _, rfl⟩ <;> rfl
theorem hinfoD (n : Int) (x : List UInt8) (h : x.length = 32) : (Try.prog.info? 38).map (·.size) = some (hdrow n x).size := by
  rw [hdrow_size n h]; kernel_rfl
theorem zeroHead : (Try.prog.info? 38).bind (·.zero) = some (.agg (hdrow 0 (List.replicate 32 0))) := by kernel_rfl
theorem cons_of {x : List UInt8} {n : Nat} (h : x.length = n + 1) : ∃ a y, x = a :: y ∧ y.length = n := by
  cases x with
  | nil => simp at h
  | cons a y => exact ⟨a, y, rfl, by simpa using h⟩
theorem list32 {x : List UInt8} (h : x.length = 32) : ∃ x0 x1 x2 x3 x4 x5 x6 x7 x8 x9 x10 x11 x12 x13 x14 x15 x16 x17 x18 x19 x20 x21 x22 x23 x24 x25 x26 x27 x28 x29 x30 x31 : UInt8, x = [x0, x1, x2, x3, x4, x5, x6, x7, x8, x9, x10, x11, x12, x13, x14, x15, x16, x17, x18, x19, x20, x21, x22, x23, x24, x25, x26, x27, x28, x29, x30, x31] := by
  obtain ⟨x0, z0, rfl, h0⟩ := cons_of h
  obtain ⟨x1, z1, rfl, h1⟩ := cons_of h0
  obtain ⟨x2, z2, rfl, h2⟩ := cons_of h1
  obtain ⟨x3, z3, rfl, h3⟩ := cons_of h2
  obtain ⟨x4, z4, rfl, h4⟩ := cons_of h3
  obtain ⟨x5, z5, rfl, h5⟩ := cons_of h4
  obtain ⟨x6, z6, rfl, h6⟩ := cons_of h5
  obtain ⟨x7, z7, rfl, h7⟩ := cons_of h6
  obtain ⟨x8, z8, rfl, h8⟩ := cons_of h7
  obtain ⟨x9, z9, rfl, h9⟩ := cons_of h8
  obtain ⟨x10, z10, rfl, h10⟩ := cons_of h9
  obtain ⟨x11, z11, rfl, h11⟩ := cons_of h10
  obtain ⟨x12, z12, rfl, h12⟩ := cons_of h11
  obtain ⟨x13, z13, rfl, h13⟩ := cons_of h12
  obtain ⟨x14, z14, rfl, h14⟩ := cons_of h13
  obtain ⟨x15, z15, rfl, h15⟩ := cons_of h14
  obtain ⟨x16, z16, rfl, h16⟩ := cons_of h15
  obtain ⟨x17, z17, rfl, h17⟩ := cons_of h16
  obtain ⟨x18, z18, rfl, h18⟩ := cons_of h17
  obtain ⟨x19, z19, rfl, h19⟩ := cons_of h18
  obtain ⟨x20, z20, rfl, h20⟩ := cons_of h19
  obtain ⟨x21, z21, rfl, h21⟩ := cons_of h20
  obtain ⟨x22, z22, rfl, h22⟩ := cons_of h21
  obtain ⟨x23, z23, rfl, h23⟩ := cons_of h22
  obtain ⟨x24, z24, rfl, h24⟩ := cons_of h23
  obtain ⟨x25, z25, rfl, h25⟩ := cons_of h24
  obtain ⟨x26, z26, rfl, h26⟩ := cons_of h25
  obtain ⟨x27, z27, rfl, h27⟩ := cons_of h26
  obtain ⟨x28, z28, rfl, h28⟩ := cons_of h27
  obtain ⟨x29, z29, rfl, h29⟩ := cons_of h28
  obtain ⟨x30, z30, rfl, h30⟩ := cons_of h29
  obtain ⟨x31, z31, rfl, h31⟩ := cons_of h30
  obtain rfl := List.length_eq_zero_iff.1 h31
  exact ⟨x0, x1, x2, x3, x4, x5, x6, x7, x8, x9, x10, x11, x12, x13, x14, x15, x16, x17, x18, x19, x20, x21, x22, x23, x24, x25, x26, x27, x28, x29, x30, x31, rfl⟩
theorem built_head (n : Int) (x : List UInt8) (h : x.length = 32) : Try.prog.built 38 [(0, .int .i64 n), (1, .agg (hrow x))] = some (hdrow n x) := by
  obtain ⟨x0, x1, x2, x3, x4, x5, x6, x7, x8, x9, x10, x11, x12, x13, x14, x15, x16, x17, x18, x19, x20, x21, x22, x23, x24, x25, x26, x27, x28, x29, x30, x31, rfl⟩ := list32 h
  kernel_rfl
theorem wpList_build_head {ops : Array Oper} {rest : List Oper} {o : Oper} {a : Act} {w : World} {Q : Exit → Act → World → Prop} (hw : Region.wanted o (yielded ops a.tmps) = true) (p0 p1 : Operand) (ho : o.op = .build 38 #[(0, p0), (1, p1)])
    (n : Int) (y : List UInt8) (hy : y.length = 32) (h0 : a.eval p0 = .int .i64 n) (h1 : a.eval p1 = .agg (hrow y)) (h : wpList Try.prog ops Q rest (a.put o.dst (.agg (hdrow n y))) w) : wpList Try.prog ops Q (o :: rest) a w := by
  refine wpList_wanted hw fun K hK => ?_
  have hr := run_build w 38 #[(0, .int .i64 n), (1, .agg (hrow y))] _ (built_head n y hy)
  have hp2 : ((#[(0, p0), (1, p1)] : Array (Nat × Operand)).map fun (i, x) => (i, a.eval x)) = #[(0, .int .i64 n), (1, .agg (hrow y))] := by simp [h0, h1]
  unfold Oper.wp execOp
  simp only [ho, hp2, hr, Sem.run_bind, Result.andThen_ok]
  exact hK _ _ h

set_option maxRecDepth 100000 in
set_option maxHeartbeats 1000000 in
theorem HeadOf_any (l : List (List UInt8)) (v : Value) (w : World) (hS : Small l) (hA : SArg w v l) :
    Calls Try.prog 25 #[v] w fun e w' => e = .returned (.agg (hdrow l.length (root l))) ∧ Below w.heap.size w w' := by
  have hl := hS.len
  have t0 := (Below.refl w.heap.size w).alloc (Nat.le_refl _) (.cells (hdrow 0 (List.replicate 32 0)) 38)
  have R1 := Lib.hid (RRoot_any l.length l v _ (Nat.le_refl _) hS (hA.below t0))
  obtain ⟨a, cap, rfl, hc, _⟩ := hA
  have r32 := root_length l
  have HI := Lib.hid (hinfoD l.length _ r32)
  have HO := Lib.hid (hdrow_one l.length (root l))
  have HZ := Lib.hid (show (hdrow 0 (List.replicate 32 0)).size = (hdrow l.length (root l)).size by rw [hdrow_size _ r32, hdrow_size _ hz_len2])
  have HZ0 := Lib.hid zeroHead
  have NB := Lib.hid (fun w' (h : Below (w.alloc (.cells (hdrow 0 (List.replicate 32 0)) 38)).heap.size (w.alloc (.cells (hdrow 0 (List.replicate 32 0)) 38)) w') => (Blk.new w (hdrow 0 (List.replicate 32 0)) 38).below h (by simp))
  generalize hdrow 0 (List.replicate 32 0) = Z at *
  generalize root l = x at *
  obtain ⟨n, hn⟩ : ∃ n, l.length = n := ⟨_, rfl⟩
  rw [hn] at R1 HI HO HZ hc hl
  rw [hn]
  clear hn hS
  go_enter Try.func25, Try.ntmps25
  go_wp2_with (refine wpList_alloc_row rfl 38 rfl Z HZ0.out ?_)
  refine (R1.out).mono ?_; rintro e w1 ⟨rfl, hb1⟩
  have N1 := Lib.hid (NB.out _ hb1)
  have hB := t0.trans (hb1.mono t0.size)
  clear NB t0 hb1 R1
  go_wp2_with (first
    | (refine wpList_build_head (by kernel_rfl) (.tmp 4) (.tmp 6) rfl n x r32 (by rfl) (by rfl) ?_; go_frame)
    | (refine wpList_store_row rfl 38 (.tmp 2) (.tmp 7) rfl w.heap.size (hdrow n x) rfl rfl 38 _ N1.out HI.out HZ.out HO.out ?_; go_frame))
  refine bodyPost_ret (v := .agg (hdrow n x)) ?_ rfl ⟨rfl, Below.setRow hB (Nat.le_refl _) _⟩
  exact results_cell_row rfl _ _ _ _ _ _ _ rfl (N1.out.row _) Try.underlying38 rfl HI.out
end Go.Proofs.Ytjekdeikoebmgaa
