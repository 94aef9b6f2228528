/- Heads; the contract of the reference's HeadOf. Conditions: sizes. -/
import Derived.Test.YtjekdeikoebmgaaRefG
namespace Go.Proofs.Ytjekdeikoebmgaa
open Go.RowKit Go.Shelf Tr

/-- The cells of a head. -/
def hdrow (n : Int) (x : List UInt8) : Array Value := (.int .i64 n :: x.map Y).toArray
theorem hdrow_size (n : Int) {x : List UInt8} (h : x.length = 32) : (hdrow n x).size = 33 := by unfold hdrow; simp [h]
theorem hdrow_one (n : Int) (x : List UInt8) : (hdrow n x).all (·.oneCell') = true := by
  unfold hdrow
  rw [Array.all_eq_true']
  intro u hu
  simp at hu
  rcases hu with rfl | ⟨y, _, rfl⟩ <;> rfl
theorem hinfoD (n : Int) (x : List UInt8) (h : x.length = 32) : (Try.prog.info? 38).map (·.size) = some (hdrow n x).size := by
  rw [hdrow_size n h]; kernel_rfl
theorem zeroHead : (Try.prog.info? 38).bind (·.zero) = some (.agg (hdrow 0 (List.replicate 32 0))) := by kernel_rfl
theorem cons_of {x : List UInt8} {n : Nat} (h : x.length = n + 1) : ∃ a y, x = a :: y ∧ y.length = n := by
  cases x with
  | nil => simp at h
  | cons a y => exact ⟨a, y, rfl, by simpa using h⟩
theorem list32 {x : List UInt8} (h : x.length = 32) : ∃ x0 x1 x2 x3 x4 x5 x6 x7 x8 x9 x10 x11 x12 x13 x14 x15 x16 x17 x18 x19 x20 x21 x22 x23 x24 x25 x26 x27 x28 x29 x30 x31 : UInt8, x = [x0, x1, x2, x3, x4, x5, x6, x7, x8, x9, x10, x11, x12, x13, x14, x15, x16, x17, x18, x19, x20, x21, x22, x23, x24, x25, x26, x27, x28, x29, x30, x31] := by
  obtain ⟨x0, z0, rfl, h0⟩ := cons_of h
  obtain ⟨x1, z1, rfl, h1⟩ := cons_of h0
  obtain ⟨x2, z2, rfl, h2⟩ := cons_of h1
  obtain ⟨x3, z3, rfl, h3⟩ := cons_of h2
  obtain ⟨x4, z4, rfl, h4⟩ := cons_of h3
  obtain ⟨x5, z5, rfl, h5⟩ := cons_of h4
  obtain ⟨x6, z6, rfl, h6⟩ := cons_of h5
  obtain ⟨x7, z7, rfl, h7⟩ := cons_of h6
  obtain ⟨x8, z8, rfl, h8⟩ := cons_of h7
  obtain ⟨x9, z9, rfl, h9⟩ := cons_of h8
  obtain ⟨x10, z10, rfl, h10⟩ := cons_of h9
  obtain ⟨x11, z11, rfl, h11⟩ := cons_of h10
  obtain ⟨x12, z12, rfl, h12⟩ := cons_of h11
  obtain ⟨x13, z13, rfl, h13⟩ := cons_of h12
  obtain ⟨x14, z14, rfl, h14⟩ := cons_of h13
  obtain ⟨x15, z15, rfl, h15⟩ := cons_of h14
  obtain ⟨x16, z16, rfl, h16⟩ := cons_of h15
  obtain ⟨x17, z17, rfl, h17⟩ := cons_of h16
  obtain ⟨x18, z18, rfl, h18⟩ := cons_of h17
  obtain ⟨x19, z19, rfl, h19⟩ := cons_of h18
  obtain ⟨x20, z20, rfl, h20⟩ := cons_of h19
  obtain ⟨x21, z21, rfl, h21⟩ := cons_of h20
  obtain ⟨x22, z22, rfl, h22⟩ := cons_of h21
  obtain ⟨x23, z23, rfl, h23⟩ := cons_of h22
  obtain ⟨x24, z24, rfl, h24⟩ := cons_of h23
  obtain ⟨x25, z25, rfl, h25⟩ := cons_of h24
  obtain ⟨x26, z26, rfl, h26⟩ := cons_of h25
  obtain ⟨x27, z27, rfl, h27⟩ := cons_of h26
  obtain ⟨x28, z28, rfl, h28⟩ := cons_of h27
  obtain ⟨x29, z29, rfl, h29⟩ := cons_of h28
  obtain ⟨x30, z30, rfl, h30⟩ := cons_of h29
  obtain ⟨x31, z31, rfl, h31⟩ := cons_of h30
  obtain rfl := List.length_eq_zero_iff.1 h31
  exact ⟨x0, x1, x2, x3, x4, x5, x6, x7, x8, x9, x10, x11, x12, x13, x14, x15, x16, x17, x18, x19, x20, x21, x22, x23, x24, x25, x26, x27, x28, x29, x30, x31, rfl⟩
theorem built_head (n : Int) (x : List UInt8) (h : x.length = 32) : Try.prog.built 38 [(0, .int .i64 n), (1, .agg (hrow x))] = some (hdrow n x) := by
  obtain ⟨x0, x1, x2, x3, x4, x5, x6, x7, x8, x9, x10, x11, x12, x13, x14, x15, x16, x17, x18, x19, x20, x21, x22, x23, x24, x25, x26, x27, x28, x29, x30, x31, rfl⟩ := list32 h
  kernel_rfl
theorem wpList_build_head {ops : Array Oper} {rest : List Oper} {o : Oper} {a : Act} {w : World} {Q : Exit → Act → World → Prop} (hw : Region.wanted o (yielded ops a.tmps) = true) (p0 p1 : Operand) (ho : o.op = .build 38 #[(0, p0), (1, p1)])
    (n : Int) (y : List UInt8) (hy : y.length = 32) (h0 : a.eval p0 = .int .i64 n) (h1 : a.eval p1 = .agg (hrow y)) (h : wpList Try.prog ops Q rest (a.put o.dst (.agg (hdrow n y))) w) : wpList Try.prog ops Q (o :: rest) a w := by
  refine wpList_wanted hw fun K hK => ?_
  have hr := run_build w 38 #[(0, .int .i64 n), (1, .agg (hrow y))] _ (built_head n y hy)
  have hp2 : ((#[(0, p0), (1, p1)] : Array (Nat × Operand)).map fun (i, x) => (i, a.eval x)) = #[(0, .int .i64 n), (1, .agg (hrow y))] := by simp [h0, h1]
  unfold Oper.wp execOp
  simp only [ho, hp2, hr, Sem.run_bind, Result.andThen_ok]
  exact hK _ _ h

set_option maxRecDepth 100000 in
set_option maxHeartbeats 1000000 in
theorem HeadOf_any (l : List (List UInt8)) (v : Value) (w : World) (hS : Small l) (hA : SArg w v l) :
    Calls Try.prog 25 #[v] w fun e w' => e = .returned (.agg (hdrow l.length (root l))) ∧ Below w.heap.size w w' := by
  have hl := hS.len
  have t0 := (Below.refl w.heap.size w).alloc (Nat.le_refl _) (.cells (hdrow 0 (List.replicate 32 0)) 38)
  have R1 := Lib.hid (RRoot_any l.length l v _ (Nat.le_refl _) hS (hA.below t0))
  obtain ⟨a, cap, rfl, hc, _⟩ := hA
  have r32 := root_length l
  have HI := Lib.hid (hinfoD l.length _ r32)
  have HO := Lib.hid (hdrow_one l.length (root l))
  have HZ := Lib.hid (show (hdrow 0 (List.replicate 32 0)).size = (hdrow l.length (root l)).size by rw [hdrow_size _ r32, hdrow_size _ hz_len2])
  have HZ0 := Lib.hid zeroHead
  have NB := Lib.hid (fun w' (h : Below (w.alloc (.cells (hdrow 0 (List.replicate 32 0)) 38)).heap.size (w.alloc (.cells (hdrow 0 (List.replicate 32 0)) 38)) w') => (Blk.new w (hdrow 0 (List.replicate 32 0)) 38).below h (by simp))
  generalize hdrow 0 (List.replicate 32 0) = Z at *
  generalize root l = x at *
  obtain ⟨n, hn⟩ : ∃ n, l.length = n := ⟨_, rfl⟩
  rw [hn] at R1 HI HO HZ hc hl
  rw [hn]
  clear hn hS
  go_enter Try.func25, Try.ntmps25
  go_wp2_with (refine wpList_alloc_row rfl 38 rfl Z HZ0.out ?_)
  refine (R1.out).mono ?_; rintro e w1 ⟨rfl, hb1⟩
  have N1 := Lib.hid (NB.out _ hb1)
  have hB := t0.trans (hb1.mono t0.size)
  clear NB t0 hb1 R1
  go_wp2_with (first
    | (refine wpList_build_head (by kernel_rfl) (.tmp 4) (.tmp 6) rfl n x r32 (by rfl) (by rfl) ?_; go_frame)
    | (refine wpList_store_row rfl 38 (.tmp 2) (.tmp 7) rfl w.heap.size (hdrow n x) rfl rfl 38 _ N1.out HI.out HZ.out HO.out ?_; go_frame))
  refine bodyPost_ret (v := .agg (hdrow n x)) ?_ rfl ⟨rfl, Below.setRow hB (Nat.le_refl _) _⟩
  exact results_cell_row rfl _ _ _ _ _ _ _ rfl (N1.out.row _) Try.underlying38 rfl HI.out
end Go.Proofs.Ytjekdeikoebmgaa
