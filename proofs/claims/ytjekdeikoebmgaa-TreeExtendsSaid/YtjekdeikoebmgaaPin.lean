/- The strings that are hashed by CheckPath: below and PathInside. Conditions: sizes. -/
import Derived.Test.YtjekdeikoebmgaaCl
import Derived.Test.YtjekdeikoebmgaaBent
import Derived.Test.YtjekdeikoebmgaaRefI
namespace Go.Proofs.Ytjekdeikoebmgaa
open Go.RowKit Go.Shelf Tr

/-- The next part of a list on the way down. -/
theorem way_next (i n : Nat) (hn : 2 ≤ n) (hi : i < n) : ∃ (i' n' : Nat) (b : Bool), way i n = way i' n' ++ [b] ∧ i' < n' ∧ n' < n ∧ ((i < half n ∧ i' = i ∧ n' = half n ∧ b = false) ∨ (¬ i < half n ∧ i' = i - half n ∧ n' = n - half n ∧ b = true)) := by
  have h1 := half_lt hn
  have h2 := half_pos hn
  by_cases h : i < half n
  · exact ⟨i, half n, false, way_left hn h, h, h1, .inl ⟨h, rfl, rfl, rfl⟩⟩
  · exact ⟨i - half n, n - half n, true, way_right hn h, by omega, by omega, .inr ⟨h, rfl, rfl, rfl⟩⟩
theorem way_take (i n i' n' : Nat) (b : Bool) (h : way i n = way i' n' ++ [b]) (k : Nat) (hk : k < (way i n).length) : (way i n).take k = (way i' n').take k ∧ k ≤ (way i' n').length := by
  have hl : (way i n).length = (way i' n').length + 1 := by rw [h]; simp
  exact ⟨by rw [h, List.take_append_of_le_length (by omega)], by omega⟩

theorem results_cell_tmp {P : Program} {fn : Func} {p u : Tmp} {ty : TypeId} (h : fn.results = #[.cell p ty, .tmp u]) (tmps : Array Value) (w : World) (g : Nat) (t : TypeId) (cs : Array Value) (fr : Nat × Nat) (d : TypeDesc)
    (hp : tmps.getD p undef = .pointer (some ⟨g, 0, none⟩)) (hg : w.heap[g]? = some (.cells cs t fr))
    (hu : P.underlying ty = some d) (hd : (match d with | .struct _ | .array _ _ => true | _ => false) = true) (hi : (P.info? ty).map (·.size) = some cs.size) (v : Value) (hv : tmps.getD u undef = v) :
    (results fn tmps).run P w = .ok (.tuple #[.agg cs, v]) w := by
  subst hv
  have hp' : tmps[p]?.getD undef = .pointer (some ⟨g, 0, none⟩) := by simpa using hp
  simp [results, h, hp', asAddr, run_loadVar_row w g t ty cs fr d hg hu hd hi]

set_option maxRecDepth 100000 in
set_option maxHeartbeats 2000000 in
theorem bl_r9 (u5 u6 u7 u8 u9 u11 u12 u14 u15 u16 u17 u18 u19 u20 u21 u22 u23 u24 u25 u26 u27 u28 u29 u30 u31 u32 u33 u34 u35 u36 u37 u38 u39 u40 u41 u42 u43 u44 u45 u46 u47 u48 u49 u50 u51 u52 u53 u54 u55 u56 u57 u58 u59 u60 u61 : Value) (i n h k q L cap b10 : Nat) (a : Option Addr) (s r : List UInt8) (W0 w : World) (hr : r.length = 32) (hs : s.length ≤ 140737488354000) (hk : k = q + 1) (hq : q ≤ L) (hL : L ≤ cap) (hL9 : L ≤ 100) (_ : n ≤ 9223372036854775807) (_ : i < n) (_ : h ≤ n) (N : Blk w b10 hz 24) (hB : Below W0.heap.size W0 w) (h10 : W0.heap.size ≤ b10)
    (C2 : ∀ x' : After w, Calls Try.prog 43 #[.agg (hrow (leaf s)), .int .i64 (i : Int), .int .i64 (h : Int), .slice a q cap] x'.W fun e w' => e = .returned (.agg (hrow r)) ∧ Below x'.W.heap.size x'.W w')
    (Q : Exit → Act → World → Prop) (hQ : ∀ (y40 y41 y42 y43 y44 y45 y46 y47 y48 : Value) (w' : World), Blk w' b10 (hrow r) 24 → Below W0.heap.size W0 w' → Q .normal ⟨((.int .i64 (i : Int)) :: (.int .i64 (n : Int)) :: (S s) :: (.slice a L cap) :: (.int .i64 (k : Int)) :: u5 :: u6 :: u7 :: u8 :: u9 :: (.pointer (some ⟨b10, 0, none⟩)) :: (.bool false) :: u12 :: (.int .i64 (h : Int)) :: u14 :: u15 :: u16 :: u17 :: u18 :: u19 :: u20 :: u21 :: u22 :: u23 :: u24 :: u25 :: u26 :: u27 :: u28 :: u29 :: u30 :: u31 :: u32 :: u33 :: u34 :: u35 :: u36 :: u37 :: u38 :: u39 :: y40 :: y41 :: y42 :: y43 :: y44 :: y45 :: y46 :: y47 :: y48 :: u49 :: u50 :: u51 :: u52 :: u53 :: u54 :: u55 :: u56 :: u57 :: u58 :: u59 :: u60 :: u61 :: []).toArray, []⟩ w') : Code.wp Try.prog (regionIn Try.f45 9) Q ⟨((.int .i64 (i : Int)) :: (.int .i64 (n : Int)) :: (S s) :: (.slice a L cap) :: (.int .i64 (k : Int)) :: u5 :: u6 :: u7 :: u8 :: u9 :: (.pointer (some ⟨b10, 0, none⟩)) :: u11 :: u12 :: (.int .i64 (h : Int)) :: u14 :: u15 :: u16 :: u17 :: u18 :: u19 :: u20 :: u21 :: u22 :: u23 :: u24 :: u25 :: u26 :: u27 :: u28 :: u29 :: u30 :: u31 :: u32 :: u33 :: u34 :: u35 :: u36 :: u37 :: u38 :: u39 :: u40 :: u41 :: u42 :: u43 :: u44 :: u45 :: u46 :: u47 :: u48 :: u49 :: u50 :: u51 :: u52 :: u53 :: u54 :: u55 :: u56 :: u57 :: u58 :: u59 :: u60 :: u61 :: []).toArray, []⟩ w := by
  have HX := Lib.hid hQ
  have D1 := Lib.hid (fun w => RLeaf_any s hs w)
  have D2 := Lib.hid C2
  have hsl : ∀ w, (Instr.sliceAt 32 (.slice a L cap) none (some (.int .i64 (q : Int))) none).run Try.prog w = .ok (.slice a q cap) w := sliceH a L cap q hq hL
  have e1 : IntKind.i64.wrap ((k : Int) - 1) = (q : Int) := by rw [hk, show ((q + 1 : Nat) : Int) - 1 = (q : Int) by omega]; exact IntWalk.i64_in _ (by omega)
  clear hQ C2 hk
  generalize hrow (leaf s) = RL at *
  conv => arg 2; whnf
  refine wp_region_after_tail 9 (by kernel_rfl) (by kernel_rfl) (by kernel_rfl) (by kernel_rfl) ?_
  simp only [List.take_succ_cons, List.take_zero, List.drop_succ_cons, List.drop_zero]
  repeat (go_big_quiet_step (first | (with_reducible exact After.call (D1.out _)) | (with_reducible exact After.call (D2.out _))))
  refine wpQuiet_nil ?_
  rintro w5 ⟨x5, rfl⟩
  have hb5 := x5.hb
  generalize x5.W = w5 at *
  have hB5 := hB.trans (hb5.mono hB.size)
  have N5 := Lib.hid (N.below hb5 N.lt)
  have hB6 := Lib.hid (Below.setRow hB5 h10 (hrow r))
  clear hB hB5 hb5 N
  go_wp2_with (refine wpList_store_hash rfl (.tmp 10) (.tmp 48) rfl b10 r hr rfl rfl hz N5.out hz_len ?_; go_frame)
  exact HX.out _ _ _ _ _ _ _ _ _ _ (N5.out.row _) hB6.out

set_option maxRecDepth 100000 in
set_option maxHeartbeats 2000000 in
theorem bl_r10 (u5 u6 u7 u8 u9 u11 u12 u14 u15 u16 u17 u18 u19 u20 u21 u22 u23 u24 u25 u26 u27 u28 u29 u30 u31 u32 u33 u34 u35 u36 u37 u38 u39 u40 u41 u42 u43 u44 u45 u46 u47 u48 u49 u50 u51 u52 u53 u54 u55 u56 u57 u58 u59 u60 u61 : Value) (i n h k q L cap b10 : Nat) (a : Option Addr) (s r : List UInt8) (W0 w : World) (hr : r.length = 32) (hs : s.length ≤ 140737488354000) (hk : k = q + 1) (hq : q ≤ L) (hL : L ≤ cap) (hL9 : L ≤ 100) (hn9 : n ≤ 9223372036854775807) (hi9 : i < n) (hh : h ≤ n) (hih : h ≤ i) (N : Blk w b10 hz 24) (hB : Below W0.heap.size W0 w) (h10 : W0.heap.size ≤ b10)
    (C2 : ∀ x' : After w, Calls Try.prog 43 #[.agg (hrow (leaf s)), .int .i64 ((i - h : Nat) : Int), .int .i64 ((n - h : Nat) : Int), .slice a q cap] x'.W fun e w' => e = .returned (.agg (hrow r)) ∧ Below x'.W.heap.size x'.W w')
    (Q : Exit → Act → World → Prop) (hQ : ∀ (y49 y50 y51 y52 y53 y54 y55 y56 y57 y58 y59 y60 y61 : Value) (w' : World), Blk w' b10 (hrow r) 24 → Below W0.heap.size W0 w' → Q .normal ⟨((.int .i64 (i : Int)) :: (.int .i64 (n : Int)) :: (S s) :: (.slice a L cap) :: (.int .i64 (k : Int)) :: u5 :: u6 :: u7 :: u8 :: u9 :: (.pointer (some ⟨b10, 0, none⟩)) :: (.bool true) :: u12 :: (.int .i64 (h : Int)) :: u14 :: u15 :: u16 :: u17 :: u18 :: u19 :: u20 :: u21 :: u22 :: u23 :: u24 :: u25 :: u26 :: u27 :: u28 :: u29 :: u30 :: u31 :: u32 :: u33 :: u34 :: u35 :: u36 :: u37 :: u38 :: u39 :: u40 :: u41 :: u42 :: u43 :: u44 :: u45 :: u46 :: u47 :: u48 :: y49 :: y50 :: y51 :: y52 :: y53 :: y54 :: y55 :: y56 :: y57 :: y58 :: y59 :: y60 :: y61 :: []).toArray, []⟩ w') : Code.wp Try.prog (regionIn Try.f45 10) Q ⟨((.int .i64 (i : Int)) :: (.int .i64 (n : Int)) :: (S s) :: (.slice a L cap) :: (.int .i64 (k : Int)) :: u5 :: u6 :: u7 :: u8 :: u9 :: (.pointer (some ⟨b10, 0, none⟩)) :: u11 :: u12 :: (.int .i64 (h : Int)) :: u14 :: u15 :: u16 :: u17 :: u18 :: u19 :: u20 :: u21 :: u22 :: u23 :: u24 :: u25 :: u26 :: u27 :: u28 :: u29 :: u30 :: u31 :: u32 :: u33 :: u34 :: u35 :: u36 :: u37 :: u38 :: u39 :: u40 :: u41 :: u42 :: u43 :: u44 :: u45 :: u46 :: u47 :: u48 :: u49 :: u50 :: u51 :: u52 :: u53 :: u54 :: u55 :: u56 :: u57 :: u58 :: u59 :: u60 :: u61 :: []).toArray, []⟩ w := by
  have HX := Lib.hid hQ
  have D1 := Lib.hid (fun w => RLeaf_any s hs w)
  have D2 := Lib.hid C2
  have hsl : ∀ w, (Instr.sliceAt 32 (.slice a L cap) none (some (.int .i64 (q : Int))) none).run Try.prog w = .ok (.slice a q cap) w := sliceH a L cap q hq hL
  have e1 : IntKind.i64.wrap ((k : Int) - 1) = (q : Int) := by rw [hk, show ((q + 1 : Nat) : Int) - 1 = (q : Int) by omega]; exact IntWalk.i64_in _ (by omega)
  have e2 : IntKind.i64.wrap ((i : Int) - (h : Int)) = ((i - h : Nat) : Int) := by rw [show (i : Int) - (h : Int) = ((i - h : Nat) : Int) by omega]; exact IntWalk.i64_in _ (by omega)
  have e3 : IntKind.i64.wrap ((n : Int) - (h : Int)) = ((n - h : Nat) : Int) := by rw [show (n : Int) - (h : Int) = ((n - h : Nat) : Int) by omega]; exact IntWalk.i64_in _ (by omega)
  clear hQ C2 hk
  generalize hrow (leaf s) = RL at *
  conv => arg 2; whnf
  refine wp_region_after_tail 13 (by kernel_rfl) (by kernel_rfl) (by kernel_rfl) (by kernel_rfl) ?_
  simp only [List.take_succ_cons, List.take_zero, List.drop_succ_cons, List.drop_zero]
  repeat (go_big_quiet_step (first | (with_reducible exact After.call (D1.out _)) | (with_reducible exact After.call (D2.out _))))
  refine wpQuiet_nil ?_
  rintro w5 ⟨x5, rfl⟩
  have hb5 := x5.hb
  generalize x5.W = w5 at *
  have hB5 := hB.trans (hb5.mono hB.size)
  have N5 := Lib.hid (N.below hb5 N.lt)
  have hB6 := Lib.hid (Below.setRow hB5 h10 (hrow r))
  clear hB hB5 hb5 N
  go_wp2_with (refine wpList_store_hash rfl (.tmp 10) (.tmp 61) rfl b10 r hr rfl rfl hz N5.out hz_len ?_; go_frame)
  exact HX.out _ _ _ _ _ _ _ _ _ _ _ _ _ _ (N5.out.row _) hB6.out

set_option maxRecDepth 100000 in
set_option maxHeartbeats 3000000 in
theorem below_any (i n k q : Nat) (b : Bool) (s : List UInt8) (p : List (List UInt8)) (v : Value) (w : World) (hi : i < n) (hn9 : n ≤ 9223372036854775807) (hs : s.length ≤ 140737488354000) (ha : All32 p) (hp : (way i n).length = p.length) (hp9 : p.length ≤ 100) (hk : k = q + 1) (hkl : k ≤ p.length) (hb : (way i n)[q]? = some b) (hP : HArg w v p) :
    Calls Try.prog 45 #[.int .i64 (i : Int), .int .i64 (n : Int), S s, v, .int .i64 (k : Int)] w fun e w' => e = .returned (.tuple #[.agg (hrow (up (leaf s) ((way i n).take q) (p.take q))), .bool b]) ∧ Below w.heap.size w w' := by
  obtain ⟨a, cap, rfl, hc, hA⟩ := hP
  have N10 := Blk.new w hz 24
  have hB := (Below.refl w.heap.size w).alloc (Nat.le_refl _) (.cells hz 24)
  have HA := Lib.hid hA
  have HZ := Lib.hid zeroHash
  have HD := Lib.hid (fun (i n : Nat) (w : World) (h1 : i < n) (h2 : n ≤ 9223372036854775807) => depth_any n i w h1 h2)
  have HH := Lib.hid (fun (n : Nat) (w : World) (h1 : 1 ≤ n) (h2 : n ≤ 9223372036854775807) => RHalf_any n h1 h2 w)
  have HWAY : Hid ((way i n).take q = (way i n).take q ∧ (way i n)[q]? = some b) := ⟨rfl, hb⟩
  have lk := leaf_length s
  have HP := Lib.hid hp
  have HK := Lib.hid hk
  clear hA hb hp hk
  go_enter Try.func45, Try.ntmps45
  go_wp2_with (refine wpList_alloc_row rfl 24 rfl hz HZ.out ?_; go_frame; try simp only [World.size_alloc])
  generalize w.alloc (.cells hz 24) = w1 at *
  go_loopw [0, 1] (fun x0 x1 wr => ∃ i' n' : Nat, x0 = .int .i64 (i' : Int) ∧ x1 = .int .i64 (n' : Int) ∧ i' < n' ∧ n' ≤ n ∧ k ≤ (way i' n').length ∧ Hid ((way i n).take k = (way i' n').take k) ∧ wr = w1) (fun _ x1 _ => (intOf x1).toNat)
  case atStart => exact ⟨i, n, rfl, rfl, hi, Nat.le_refl _, by rw [HP.out]; exact hkl, rfl, rfl⟩
  case round =>
    obtain ⟨i', n', rfl, rfl, hi', hn', hkw, HT, rfl⟩ := hrel
    have h2 : 2 ≤ n' := by
      rcases Nat.lt_or_ge n' 2 with h | h
      · rw [way_one (by omega)] at hkw
        have := HK.out
        simp at hkw
        omega
      · exact h
    have q1 : (1 : Int) < (n' : Int) := by omega
    have q2 : decide ((n' : Int) > 1) = true := decide_eq_true q1
    have g1 := half_lt h2
    have g2 := half_pos h2
    have D0 := Lib.hid (HD.out i' n' wr hi' (by omega))
    have H0 := Lib.hid (HH.out n' wr (by omega) (by omega))
    by_cases hlt : k < (way i' n').length
    · have q3 : (k : Int) < ((way i' n').length : Int) := by omega
      have q4 : decide (((way i' n').length : Int) > (k : Int)) = true := decide_eq_true q3
      obtain ⟨i2, n2, b2, hw2, hi2, hn2, hcase⟩ := way_next i' n' h2 hi'
      obtain ⟨t1, t2⟩ := way_take i' n' i2 n2 b2 hw2 k hlt
      have HT2 : Hid ((way i n).take k = (way i2 n2).take k) := by show _ = _; rw [HT.out, t1]
      generalize (way i' n').length = len at *
      clear t1 hw2
      rcases hcase with ⟨c1, rfl, rfl, rfl⟩ | ⟨c1, e1, e2, rfl⟩
      · have c2 : (i2 : Int) < ((half n' : Nat) : Int) := by omega
        generalize half n' = h at *
        go_wp2_with fail
        refine D0.out.mono ?_; rintro e w2 ⟨rfl, rfl⟩
        go_wp2_with fail
        refine H0.out.mono ?_; rintro e w2 ⟨rfl, rfl⟩
        go_wp2_with fail
        go_roundw
        case rel => exact ⟨i2, h, rfl, rfl, hi2, by omega, t2, HT2, trivial⟩
        case measure => simp [intOf]; omega
      · have c2 : ¬ ((i' : Int) < ((half n' : Nat) : Int)) := by omega
        have c3 : ((half n' : Nat) : Int) ≤ (i' : Int) := by omega
        generalize half n' = h at *
        have c4 : (h : Int) < (n' : Int) := by omega
        have c5 : (n' : Int) ≤ 9223372036854775807 := by omega
        go_wp2_with fail
        refine D0.out.mono ?_; rintro e w2 ⟨rfl, rfl⟩
        go_wp2_with fail
        refine H0.out.mono ?_; rintro e w2 ⟨rfl, rfl⟩
        go_wp2_with fail
        go_roundw
        case rel => exact ⟨i2, n2, congrArg (Value.int .i64) (by omega), congrArg (Value.int .i64) (by omega), hi2, by omega, t2, HT2, trivial⟩
        case measure => simp [intOf]; omega
    · have hlk : (way i' n').length = k := by omega
      have q3 : ¬ ((k : Int) < ((way i' n').length : Int)) := by omega
      have q4 : decide (((way i' n').length : Int) > (k : Int)) = false := decide_eq_false q3
      obtain ⟨i2, n2, b2, hw2, hi2, hn2, hcase⟩ := way_next i' n' h2 hi'
      have hl2 : (way i2 n2).length = q := by
        have := congrArg List.length hw2
        rw [List.length_append, hlk, HK.out] at this
        simp at this
        exact this.symm
      have e1 : (way i n).take k = way i' n' := by rw [HT.out, ← hlk, List.take_length]
      have e2 : (way i n).take q = way i2 n2 := by
        have : (way i n).take q = ((way i n).take k).take q := by rw [List.take_take, Nat.min_eq_left (by have := HK.out; omega)]
        rw [this, e1, hw2, ← hl2, List.take_left']
        rfl
      have e3 : b2 = b := by
        have h3 : ((way i n).take k)[q]? = some b := by rw [List.getElem?_take, if_pos (by have := HK.out; omega)]; exact HWAY.out.2
        rw [e1, hw2, ← hl2, List.getElem?_append_right (Nat.le_refl _)] at h3
        simpa using h3
      have hr32 : (up (leaf s) ((way i n).take q) (p.take q)).length = 32 := by rw [e2]; exact up_length _ _ _ lk
      have hpq : (p.take q).length = q := by rw [List.length_take]; have := HK.out; omega
      have C2 : ∀ x' : After wr, Calls Try.prog 43 #[.agg (hrow (leaf s)), .int .i64 (i2 : Int), .int .i64 (n2 : Int), .slice a q cap] x'.W fun e w' => e = .returned (.agg (hrow (up (leaf s) ((way i n).take q) (p.take q)))) ∧ Below x'.W.heap.size x'.W w' := fun x' => by
        rw [e2]
        refine up_any n2 i2 (leaf s) (p.take q) (.slice a q cap) x'.W hi2 (by omega) lk (by rw [hl2, hpq]) (Tr.All32.take ha q) ⟨a, cap, by rw [hpq], by rw [hpq]; have := HK.out; omega, fun hne => ?_⟩
        obtain ⟨g, o, h3, h4⟩ := HA.out (by rintro rfl; simp at hne)
        exact ⟨g, o, h3, (h4.below (hB.trans (x'.hb.mono hB.size))).take q⟩
      have hql : q ≤ p.length := by have := HK.out; omega
      obtain ⟨r, hrr⟩ : ∃ r, up (leaf s) ((way i n).take q) (p.take q) = r := ⟨_, rfl⟩
      rw [hrr] at hr32 C2
      have HR := Lib.hid hrr
      clear hrr
      generalize (way i' n').length = len at *
      have HC2 := Lib.hid C2
      clear hw2 e1 e2 hl2 hlk HT hkw C2
      rcases hcase with ⟨c1, rfl, rfl, rfl⟩ | ⟨c1, e4, e5, rfl⟩
      · subst e3
        have c2 : (i2 : Int) < ((half n' : Nat) : Int) := by omega
        generalize half n' = h at *
        go_wp2_with fail
        refine D0.out.mono ?_; rintro e w2 ⟨rfl, rfl⟩
        go_wp2_with fail
        refine H0.out.mono ?_; rintro e w2 ⟨rfl, rfl⟩
        go_upto_region 9 with (fail)
        refine bl_r9 _ _ _ _ _ _ _ _ _ _ _ _ _ _ _ _ _ _ _ _ _ _ _ _ _ _ _ _ _ _ _ _ _ _ _ _ _ _ _ _ _ _ _ _ _ _ _ _ _ _ _ _ _ _ _ i2 n' h k q p.length cap w.heap.size a s r w wr hr32 hs HK.out hql hc hp9 (by omega) hi' (by omega) N10 hB (Nat.le_refl _) HC2.out _ ?_
        intro y40 y41 y42 y43 y44 y45 y46 y47 y48 w3 N3 hB3
        go_wp2_with fail
        exact bodyPost_ret (results_cell_tmp rfl _ _ w.heap.size _ (hrow r) (0, 0) _ rfl N3 Try.underlying24 rfl (hinfo' r hr32) _ rfl) rfl ⟨by rw [HR.out]; rfl, hB3⟩
      · subst e3
        have c2 : ¬ ((i' : Int) < ((half n' : Nat) : Int)) := by omega
        generalize half n' = h at *
        have c4 : h ≤ i' := by omega
        subst e4 e5
        go_wp2_with fail
        refine D0.out.mono ?_; rintro e w2 ⟨rfl, rfl⟩
        go_wp2_with fail
        refine H0.out.mono ?_; rintro e w2 ⟨rfl, rfl⟩
        go_upto_region 10 with (fail)
        refine bl_r10 _ _ _ _ _ _ _ _ _ _ _ _ _ _ _ _ _ _ _ _ _ _ _ _ _ _ _ _ _ _ _ _ _ _ _ _ _ _ _ _ _ _ _ _ _ _ _ _ _ _ _ _ _ _ _ i' n' h k q p.length cap w.heap.size a s r w wr hr32 hs HK.out hql hc hp9 (by omega) hi' (by omega) c4 N10 hB (Nat.le_refl _) HC2.out _ ?_
        intro y49 y50 y51 y52 y53 y54 y55 y56 y57 y58 y59 y60 y61 w3 N3 hB3
        go_wp2_with fail
        exact bodyPost_ret (results_cell_tmp rfl _ _ w.heap.size _ (hrow r) (0, 0) _ rfl N3 Try.underlying24 rfl (hinfo' r hr32) _ rfl) rfl ⟨by rw [HR.out]; rfl, hB3⟩
set_option maxRecDepth 100000 in
set_option maxHeartbeats 2000000 in
theorem pi_r7 (u0 u1 u2 u4 u5 u6 u7 u8 u12 u13 u14 u15 u16 u17 u18 u19 u20 u21 u22 u23 u24 u25 u26 u27 u28 u29 u30 u31 u32 u33 u34 u35 u36 u37 u38 u39 u40 u41 u42 u43 u44 u45 u46 u47 u48 u49 u50 u51 u52 u53 u54 u55 u56 u57 u58 vo : Value) (g o L cap k q b11 base : Nat) (x y : List UInt8) (outl : List (List UInt8)) (w : World) (hx : x.length = 32) (hy : y.length = 32) (hk : k = q + 1) (hq : q < L) (hL9 : L ≤ 100) (hg : g < base) (N11 : Blk w b11 (hrow x) 24) (hR : w.rangeAt g (o + q * 32) (y.map Y)) (hO : OwnS w base vo outl) (hb : base ≤ w.heap.size) (hn11 : some b11 ≠ blkOf vo) (hn : outl.length ≤ 4398046511100) (Q : Exit → Act → World → Prop)
    (h : ∀ (y32 y33 y34 y35 y36 y37 y38 y39 y40 y41 y42 y43 y44 v' : Value) (w' : World), OwnS w' base v' (outl ++ [1 :: (y ++ x)]) → w.grownBy w' (blkOf vo) → Q .normal ⟨(u0 :: u1 :: u2 :: (.slice (some ⟨g, o, none⟩) L cap) :: u4 :: u5 :: u6 :: u7 :: u8 :: v' :: (.int .i64 (k : Int)) :: (.pointer (some ⟨b11, 0, none⟩)) :: u12 :: u13 :: u14 :: u15 :: u16 :: u17 :: u18 :: u19 :: u20 :: u21 :: u22 :: u23 :: u24 :: u25 :: u26 :: u27 :: u28 :: u29 :: u30 :: u31 :: y32 :: y33 :: y34 :: y35 :: y36 :: y37 :: y38 :: y39 :: y40 :: y41 :: y42 :: y43 :: y44 :: u45 :: u46 :: u47 :: u48 :: u49 :: u50 :: u51 :: u52 :: u53 :: u54 :: u55 :: u56 :: u57 :: u58 :: []).toArray, []⟩ w') : Code.wp Try.prog (regionIn Try.f29 7) Q ⟨(u0 :: u1 :: u2 :: (.slice (some ⟨g, o, none⟩) L cap) :: u4 :: u5 :: u6 :: u7 :: u8 :: vo :: (.int .i64 (k : Int)) :: (.pointer (some ⟨b11, 0, none⟩)) :: u12 :: u13 :: u14 :: u15 :: u16 :: u17 :: u18 :: u19 :: u20 :: u21 :: u22 :: u23 :: u24 :: u25 :: u26 :: u27 :: u28 :: u29 :: u30 :: u31 :: u32 :: u33 :: u34 :: u35 :: u36 :: u37 :: u38 :: u39 :: u40 :: u41 :: u42 :: u43 :: u44 :: u45 :: u46 :: u47 :: u48 :: u49 :: u50 :: u51 :: u52 :: u53 :: u54 :: u55 :: u56 :: u57 :: u58 :: []).toArray, []⟩ w := by
  have HX := Lib.hid h
  obtain ⟨m, hm1, hm2⟩ := cat_node y x hy hx
  obtain ⟨z, hz⟩ : ∃ z, (1 : UInt8) :: (y ++ x) = z := ⟨_, rfl⟩
  rw [hz] at hm2
  have HZ := Lib.hid hz
  have e1 : IntKind.i64.wrap ((k : Int) - 1) = (q : Int) := by rw [hk, show ((q + 1 : Nat) : Int) - 1 = (q : Int) by omega]; exact IntWalk.i64_in _ (by omega)
  have t1 : (q : Int) < (L : Int) := by omega
  have hgv : some g ≠ blkOf vo := fun e => by have := hO.blk g e.symm; omega
  have HS : ({ w with drawn := w.drawn + 1 } : World).rangeAt g (o + q * 32) (y.map Y) ∧ Blk { w with drawn := w.drawn + 1 } b11 (hrow x) 24 := ⟨hR, N11⟩
  have hg0 : w.grownBy { w with drawn := w.drawn + 1 } (blkOf vo) := grown_drew (World.grownBy.refl w _)
  have hO0 : OwnS { w with drawn := w.drawn + 1 } base vo outl := hO.below (Below.refl _ w).drew
  have hsz : ({ w with drawn := w.drawn + 1 } : World).heap.size = w.heap.size := rfl
  clear h N11 hR hO hz hk
  conv => arg 2; whnf
  refine wp_region_noPanic ?_
  refine wp_region_held (S := fun w => w.rangeAt g (o + q * 32) (y.map Y) ∧ Blk w b11 (hrow x) 24) (by kernel_rfl) ?_
  generalize ({ w with drawn := w.drawn + 1 } : World) = w0 at *
  obtain ⟨v', w', r1, r2, r3, r4⟩ := run_append_str w0 base vo outl hO0 (by omega) z (by omega)
  have HBS := Lib.hid (one_str w0 z)
  have HAP := Lib.hid r1
  have HS2 : w'.rangeAt g (o + q * 32) (y.map Y) ∧ Blk w' b11 (hrow x) 24 := ⟨fun j v hv => by
    have h1 := HS.1 j v hv
    have h2 := World.block_lt_of_cell? w0 _ h1
    exact (World.cell?_of_block (w := w0) (a := ⟨g, o + q * 32 + j, none⟩) (r3.block g h2 hgv)).trans h1, HS.2.keptBy r3 hn11⟩
  have hg2 := grown_chain hg0 r3 (.inl rfl)
  clear r1 r3 r4 hO0 hg0
  refine takeHd 13 0 vo rfl (by kernel_rfl) (by kernel_rfl) (by kernel_rfl) (fun _ _ _ h => h) (Yields.yieldsIf (yields_field rfl (fun w => by unfold execOp; go_simp))) HS ?_
  simp only [Act.put, List.setIfInBounds_toArray, List.set_cons_zero, List.set_cons_succ]
  refine takeHd 12 1 (.slice (some ⟨g, o, none⟩) L cap) rfl (by kernel_rfl) (by kernel_rfl) (by kernel_rfl) (fun _ _ _ h => h) (Yields.yieldsIf (yields_field rfl (fun w => by unfold execOp; go_simp))) HS ?_
  simp only [Act.put, List.setIfInBounds_toArray, List.set_cons_zero, List.set_cons_succ]
  refine takeHd 11 2 (.int .i64 (k : Int)) rfl (by kernel_rfl) (by kernel_rfl) (by kernel_rfl) (fun _ _ _ h => h) (Yields.yieldsIf (yields_field rfl (fun w => by unfold execOp; go_simp))) HS ?_
  simp only [Act.put, List.setIfInBounds_toArray, List.set_cons_zero, List.set_cons_succ]
  refine takeHd 10 3 (.int .i64 (q : Int)) rfl (by kernel_rfl) (by kernel_rfl) (by kernel_rfl) (fun _ _ _ h => h) (Yields.yieldsIf (yields_field rfl (fun w => by unfold execOp; go_simp))) HS ?_
  simp only [Act.put, List.setIfInBounds_toArray, List.set_cons_zero, List.set_cons_succ]
  refine takeHd 9 4 (.pointer (some ⟨g, o + q * 32, none⟩)) rfl (by kernel_rfl) (by kernel_rfl) (by kernel_rfl) (fun _ _ _ h => h) (Yields.yieldsIf (yields_field rfl (fun w => by unfold execOp; go_simp))) HS ?_
  simp only [Act.put, List.setIfInBounds_toArray, List.set_cons_zero, List.set_cons_succ]
  refine takeHd 8 5 (.slice (some ⟨g, o + q * 32, none⟩) 32 32) rfl (by kernel_rfl) (by kernel_rfl) (by kernel_rfl) (fun _ _ _ h => h) (Yields.yieldsIf (yields_field rfl (fun w => by unfold execOp; go_simp))) HS ?_
  simp only [Act.put, List.setIfInBounds_toArray, List.set_cons_zero, List.set_cons_succ]
  refine takeHd 7 6 (S y) rfl (by kernel_rfl) (by kernel_rfl) (by kernel_rfl) (fun _ _ _ h => h) (yieldsIf_text rfl (.tmp 37) (.slice (some ⟨g, o + q * 32, none⟩) 32 32) rfl rfl (fun w h => run_text_at w g (o + q * 32) y hy h.1)) HS ?_
  simp only [Act.put, List.setIfInBounds_toArray, List.set_cons_zero, List.set_cons_succ]
  refine takeHd 6 7 (.string m) rfl (by kernel_rfl) (by kernel_rfl) (by kernel_rfl) (fun _ _ _ h => h) (Yields.yieldsIf (yields_field rfl (fun w => by unfold execOp; go_simp))) HS ?_
  simp only [Act.put, List.setIfInBounds_toArray, List.set_cons_zero, List.set_cons_succ]
  refine takeHd 5 8 (.slice (some ⟨b11, 0, none⟩) 32 32) rfl (by kernel_rfl) (by kernel_rfl) (by kernel_rfl) (fun _ _ _ h => h) (Yields.yieldsIf (yields_field rfl (fun w => by unfold execOp; go_simp))) HS ?_
  simp only [Act.put, List.setIfInBounds_toArray, List.set_cons_zero, List.set_cons_succ]
  refine takeHd 4 9 (S x) rfl (by kernel_rfl) (by kernel_rfl) (by kernel_rfl) (fun _ _ _ h => h) (yieldsIf_text rfl (.tmp 40) (.slice (some ⟨b11, 0, none⟩) 32 32) rfl rfl (fun w h => run_hash_text w b11 x hx _ h.2)) HS ?_
  simp only [Act.put, List.setIfInBounds_toArray, List.set_cons_zero, List.set_cons_succ]
  refine takeHd 3 10 (S z) rfl (by kernel_rfl) (by kernel_rfl) (by kernel_rfl) (fun _ _ _ h => h) (Yields.yieldsIf (yields_field rfl (fun w => by unfold execOp; go_simp))) HS ?_
  simp only [Act.put, List.setIfInBounds_toArray, List.set_cons_zero, List.set_cons_succ]
  refine wpAnyH_all (rs := [11]) (by kernel_rfl) (by simp) ?_
  intro i hi
  obtain rfl := List.mem_singleton.1 hi
  refine buildL rfl rfl 22 1 #[(0, .tmp 42)] rfl #[(0, S z)] rfl _ HBS.out ?_
  simp only [Act.put, List.setIfInBounds_toArray, List.set_cons_zero, List.set_cons_succ]
  refine ⟨⟨fun j v hv => keepCells ((Below.refl _ _).alloc (Nat.le_refl _) _) _ _ (HS.1 j v hv), HS.2.alloc _⟩, ?_⟩
  refine wpAnyH_all (rs := [12]) (by kernel_rfl) (by simp) ?_
  intro i hi
  obtain rfl := List.mem_singleton.1 hi
  refine appendL rfl rfl (.tmp 32) (.tmp 43) 22 22 rfl _ _ rfl rfl _ HAP.out ?_
  simp only [Act.put, List.setIfInBounds_toArray, List.set_cons_zero, List.set_cons_succ]
  refine ⟨HS2, ?_⟩
  refine takeHd 0 13 v' rfl (by kernel_rfl) (by kernel_rfl) (by kernel_rfl) (fun _ _ _ h => h) (Yields.yieldsIf (yields_field rfl (fun w => by unfold execOp; go_simp))) HS2 ?_
  simp only [Act.put, List.setIfInBounds_toArray, List.set_cons_zero, List.set_cons_succ]
  refine wpAnyH_done (by kernel_rfl) ?_ 0
  refine HX.out _ _ _ _ _ _ _ _ _ _ _ _ _ _ _ ?_ hg2
  rw [HZ.out]
  exact r2

set_option maxRecDepth 100000 in
set_option maxHeartbeats 2000000 in
theorem pi_r8 (u0 u1 u2 u4 u5 u6 u7 u8 u12 u13 u14 u15 u16 u17 u18 u19 u20 u21 u22 u23 u24 u25 u26 u27 u28 u29 u30 u31 u32 u33 u34 u35 u36 u37 u38 u39 u40 u41 u42 u43 u44 u45 u46 u47 u48 u49 u50 u51 u52 u53 u54 u55 u56 u57 u58 vo : Value) (g o L cap k q b11 base : Nat) (x y : List UInt8) (outl : List (List UInt8)) (w : World) (hx : x.length = 32) (hy : y.length = 32) (hk : k = q + 1) (hq : q < L) (hL9 : L ≤ 100) (hg : g < base) (N11 : Blk w b11 (hrow x) 24) (hR : w.rangeAt g (o + q * 32) (y.map Y)) (hO : OwnS w base vo outl) (hb : base ≤ w.heap.size) (hn11 : some b11 ≠ blkOf vo) (hn : outl.length ≤ 4398046511100) (Q : Exit → Act → World → Prop)
    (h : ∀ (y45 y46 y47 y48 y49 y50 y51 y52 y53 y54 y55 y56 y57 v' : Value) (w' : World), OwnS w' base v' (outl ++ [1 :: (x ++ y)]) → w.grownBy w' (blkOf vo) → Q .normal ⟨(u0 :: u1 :: u2 :: (.slice (some ⟨g, o, none⟩) L cap) :: u4 :: u5 :: u6 :: u7 :: u8 :: v' :: (.int .i64 (k : Int)) :: (.pointer (some ⟨b11, 0, none⟩)) :: u12 :: u13 :: u14 :: u15 :: u16 :: u17 :: u18 :: u19 :: u20 :: u21 :: u22 :: u23 :: u24 :: u25 :: u26 :: u27 :: u28 :: u29 :: u30 :: u31 :: u32 :: u33 :: u34 :: u35 :: u36 :: u37 :: u38 :: u39 :: u40 :: u41 :: u42 :: u43 :: u44 :: y45 :: y46 :: y47 :: y48 :: y49 :: y50 :: y51 :: y52 :: y53 :: y54 :: y55 :: y56 :: y57 :: u58 :: []).toArray, []⟩ w') : Code.wp Try.prog (regionIn Try.f29 8) Q ⟨(u0 :: u1 :: u2 :: (.slice (some ⟨g, o, none⟩) L cap) :: u4 :: u5 :: u6 :: u7 :: u8 :: vo :: (.int .i64 (k : Int)) :: (.pointer (some ⟨b11, 0, none⟩)) :: u12 :: u13 :: u14 :: u15 :: u16 :: u17 :: u18 :: u19 :: u20 :: u21 :: u22 :: u23 :: u24 :: u25 :: u26 :: u27 :: u28 :: u29 :: u30 :: u31 :: u32 :: u33 :: u34 :: u35 :: u36 :: u37 :: u38 :: u39 :: u40 :: u41 :: u42 :: u43 :: u44 :: u45 :: u46 :: u47 :: u48 :: u49 :: u50 :: u51 :: u52 :: u53 :: u54 :: u55 :: u56 :: u57 :: u58 :: []).toArray, []⟩ w := by
  have HX := Lib.hid h
  obtain ⟨m, hm1, hm2⟩ := cat_node x y hx hy
  obtain ⟨z, hz⟩ : ∃ z, (1 : UInt8) :: (x ++ y) = z := ⟨_, rfl⟩
  rw [hz] at hm2
  have HZ := Lib.hid hz
  have e1 : IntKind.i64.wrap ((k : Int) - 1) = (q : Int) := by rw [hk, show ((q + 1 : Nat) : Int) - 1 = (q : Int) by omega]; exact IntWalk.i64_in _ (by omega)
  have t1 : (q : Int) < (L : Int) := by omega
  have hgv : some g ≠ blkOf vo := fun e => by have := hO.blk g e.symm; omega
  have HS : ({ w with drawn := w.drawn + 1 } : World).rangeAt g (o + q * 32) (y.map Y) ∧ Blk { w with drawn := w.drawn + 1 } b11 (hrow x) 24 := ⟨hR, N11⟩
  have hg0 : w.grownBy { w with drawn := w.drawn + 1 } (blkOf vo) := grown_drew (World.grownBy.refl w _)
  have hO0 : OwnS { w with drawn := w.drawn + 1 } base vo outl := hO.below (Below.refl _ w).drew
  have hsz : ({ w with drawn := w.drawn + 1 } : World).heap.size = w.heap.size := rfl
  clear h N11 hR hO hz hk
  conv => arg 2; whnf
  refine wp_region_noPanic ?_
  refine wp_region_held (S := fun w => w.rangeAt g (o + q * 32) (y.map Y) ∧ Blk w b11 (hrow x) 24) (by kernel_rfl) ?_
  generalize ({ w with drawn := w.drawn + 1 } : World) = w0 at *
  obtain ⟨v', w', r1, r2, r3, r4⟩ := run_append_str w0 base vo outl hO0 (by omega) z (by omega)
  have HBS := Lib.hid (one_str w0 z)
  have HAP := Lib.hid r1
  have HS2 : w'.rangeAt g (o + q * 32) (y.map Y) ∧ Blk w' b11 (hrow x) 24 := ⟨fun j v hv => by
    have h1 := HS.1 j v hv
    have h2 := World.block_lt_of_cell? w0 _ h1
    exact (World.cell?_of_block (w := w0) (a := ⟨g, o + q * 32 + j, none⟩) (r3.block g h2 hgv)).trans h1, HS.2.keptBy r3 hn11⟩
  have hg2 := grown_chain hg0 r3 (.inl rfl)
  clear r1 r3 r4 hO0 hg0
  refine takeHd 13 0 vo rfl (by kernel_rfl) (by kernel_rfl) (by kernel_rfl) (fun _ _ _ h => h) (Yields.yieldsIf (yields_field rfl (fun w => by unfold execOp; go_simp))) HS ?_
  simp only [Act.put, List.setIfInBounds_toArray, List.set_cons_zero, List.set_cons_succ]
  refine takeHd 12 1 (.slice (some ⟨b11, 0, none⟩) 32 32) rfl (by kernel_rfl) (by kernel_rfl) (by kernel_rfl) (fun _ _ _ h => h) (Yields.yieldsIf (yields_field rfl (fun w => by unfold execOp; go_simp))) HS ?_
  simp only [Act.put, List.setIfInBounds_toArray, List.set_cons_zero, List.set_cons_succ]
  refine takeHd 11 2 (S x) rfl (by kernel_rfl) (by kernel_rfl) (by kernel_rfl) (fun _ _ _ h => h) (yieldsIf_text rfl (.tmp 46) (.slice (some ⟨b11, 0, none⟩) 32 32) rfl rfl (fun w h => run_hash_text w b11 x hx _ h.2)) HS ?_
  simp only [Act.put, List.setIfInBounds_toArray, List.set_cons_zero, List.set_cons_succ]
  refine takeHd 10 3 (.string m) rfl (by kernel_rfl) (by kernel_rfl) (by kernel_rfl) (fun _ _ _ h => h) (Yields.yieldsIf (yields_field rfl (fun w => by unfold execOp; go_simp))) HS ?_
  simp only [Act.put, List.setIfInBounds_toArray, List.set_cons_zero, List.set_cons_succ]
  refine takeHd 9 4 (.slice (some ⟨g, o, none⟩) L cap) rfl (by kernel_rfl) (by kernel_rfl) (by kernel_rfl) (fun _ _ _ h => h) (Yields.yieldsIf (yields_field rfl (fun w => by unfold execOp; go_simp))) HS ?_
  simp only [Act.put, List.setIfInBounds_toArray, List.set_cons_zero, List.set_cons_succ]
  refine takeHd 8 5 (.int .i64 (k : Int)) rfl (by kernel_rfl) (by kernel_rfl) (by kernel_rfl) (fun _ _ _ h => h) (Yields.yieldsIf (yields_field rfl (fun w => by unfold execOp; go_simp))) HS ?_
  simp only [Act.put, List.setIfInBounds_toArray, List.set_cons_zero, List.set_cons_succ]
  refine takeHd 7 6 (.int .i64 (q : Int)) rfl (by kernel_rfl) (by kernel_rfl) (by kernel_rfl) (fun _ _ _ h => h) (Yields.yieldsIf (yields_field rfl (fun w => by unfold execOp; go_simp))) HS ?_
  simp only [Act.put, List.setIfInBounds_toArray, List.set_cons_zero, List.set_cons_succ]
  refine takeHd 6 7 (.pointer (some ⟨g, o + q * 32, none⟩)) rfl (by kernel_rfl) (by kernel_rfl) (by kernel_rfl) (fun _ _ _ h => h) (Yields.yieldsIf (yields_field rfl (fun w => by unfold execOp; go_simp))) HS ?_
  simp only [Act.put, List.setIfInBounds_toArray, List.set_cons_zero, List.set_cons_succ]
  refine takeHd 5 8 (.slice (some ⟨g, o + q * 32, none⟩) 32 32) rfl (by kernel_rfl) (by kernel_rfl) (by kernel_rfl) (fun _ _ _ h => h) (Yields.yieldsIf (yields_field rfl (fun w => by unfold execOp; go_simp))) HS ?_
  simp only [Act.put, List.setIfInBounds_toArray, List.set_cons_zero, List.set_cons_succ]
  refine takeHd 4 9 (S y) rfl (by kernel_rfl) (by kernel_rfl) (by kernel_rfl) (fun _ _ _ h => h) (yieldsIf_text rfl (.tmp 53) (.slice (some ⟨g, o + q * 32, none⟩) 32 32) rfl rfl (fun w h => run_text_at w g (o + q * 32) y hy h.1)) HS ?_
  simp only [Act.put, List.setIfInBounds_toArray, List.set_cons_zero, List.set_cons_succ]
  refine takeHd 3 10 (S z) rfl (by kernel_rfl) (by kernel_rfl) (by kernel_rfl) (fun _ _ _ h => h) (Yields.yieldsIf (yields_field rfl (fun w => by unfold execOp; go_simp))) HS ?_
  simp only [Act.put, List.setIfInBounds_toArray, List.set_cons_zero, List.set_cons_succ]
  refine wpAnyH_all (rs := [11]) (by kernel_rfl) (by simp) ?_
  intro i hi
  obtain rfl := List.mem_singleton.1 hi
  refine buildL rfl rfl 22 1 #[(0, .tmp 55)] rfl #[(0, S z)] rfl _ HBS.out ?_
  simp only [Act.put, List.setIfInBounds_toArray, List.set_cons_zero, List.set_cons_succ]
  refine ⟨⟨fun j v hv => keepCells ((Below.refl _ _).alloc (Nat.le_refl _) _) _ _ (HS.1 j v hv), HS.2.alloc _⟩, ?_⟩
  refine wpAnyH_all (rs := [12]) (by kernel_rfl) (by simp) ?_
  intro i hi
  obtain rfl := List.mem_singleton.1 hi
  refine appendL rfl rfl (.tmp 45) (.tmp 56) 22 22 rfl _ _ rfl rfl _ HAP.out ?_
  simp only [Act.put, List.setIfInBounds_toArray, List.set_cons_zero, List.set_cons_succ]
  refine ⟨HS2, ?_⟩
  refine takeHd 0 13 v' rfl (by kernel_rfl) (by kernel_rfl) (by kernel_rfl) (fun _ _ _ h => h) (Yields.yieldsIf (yields_field rfl (fun w => by unfold execOp; go_simp))) HS2 ?_
  simp only [Act.put, List.setIfInBounds_toArray, List.set_cons_zero, List.set_cons_succ]
  refine wpAnyH_done (by kernel_rfl) ?_ 0
  refine HX.out _ _ _ _ _ _ _ _ _ _ _ _ _ _ _ ?_ hg2
  rw [HZ.out]
  exact r2

theorem OwnS.one (w : World) (base : Nat) (hb : base ≤ w.heap.size) (z : List UInt8) : OwnS (w.alloc (.cells #[S z] 9)) base (.slice (some ⟨w.heap.size, 0, none⟩) 1 1) [z] := by
  have N := Blk.new w #[S z] 9
  refine .inr ⟨_, 1, rfl, rfl, Nat.le_refl _, hb, by simp, by simp, fun j hj => ?_, fun j _ => N.frozen j, fun j v hv => ?_⟩
  · obtain rfl : j = 0 := by omega
    rw [N.cell 0 (S z) rfl]; rfl
  · rw [Nat.zero_add]
    exact N.cell j v (by simpa using hv)
theorem pin_take (x : List UInt8) (bs : List Bool) (hs : List (List UInt8)) (q : Nat) (b : Bool) (h : List UInt8) (hl : bs.length = hs.length) (hb : bs[q]? = some b) (hh : hs[q]? = some h) :
    pin x (bs.take (q + 1)) (hs.take (q + 1)) = pin x (bs.take q) (hs.take q) ++ [strOf (up x (bs.take q) (hs.take q)) b h] := by
  rw [List.take_add_one, List.take_add_one, hb, hh]
  exact pin_snoc _ _ _ _ _ (by rw [List.length_take, List.length_take, hl])
theorem harg_lt' {w : World} {g o : Nat} {p : List (List UInt8)} (ha : All32 p) (hA : HAt w g o p) (hne : p ≠ []) : g < w.heap.size := by
  obtain ⟨x, r, rfl⟩ := List.exists_cons_of_ne_nil hne
  have hx := ha x (by simp)
  have h3 := hA.elem ha 0 x rfl 0 (Y (x[0]'(by omega))) (by rw [List.getElem?_map, List.getElem?_eq_getElem (by omega)]; rfl)
  exact World.block_lt_of_cell? w _ h3
theorem pin_len (x : List UInt8) : ∀ (bs : List Bool) (hs : List (List UInt8)), (pin x bs hs).length ≤ hs.length := by
  intro bs
  induction bs generalizing x with
  | nil => intro hs; simp [pin]
  | cons b bs ih =>
    intro hs
    cases hs with
    | nil => simp [pin]
    | cons h hs => simp only [pin, List.length_cons]; have := ih (Tr.step x b h) hs; omega

set_option maxRecDepth 100000 in
set_option maxHeartbeats 3000000 in
theorem PathInside_any (i n : Nat) (s : List UInt8) (p : List (List UInt8)) (v : Value) (w : World) (hi : i < n) (hn9 : n ≤ 9223372036854775807) (hs : s.length ≤ 140737488354000) (ha : All32 p) (hp : (way i n).length = p.length) (hp9 : p.length ≤ 100) (hP : HArg w v p) :
    Calls Try.prog 29 #[.int .i64 (i : Int), .int .i64 (n : Int), S s, v] w (StrQ w ((0 :: s) :: pin (leaf s) (way i n) p)) := by
  have HP := Lib.hid hP
  obtain ⟨a, cap, rfl, hc, hA⟩ := hP
  have HA := Lib.hid hA
  have HL := Lib.hid hp
  have hcat := cat_0 s hs
  have O1 := OwnS.one w w.heap.size (Nat.le_refl _) (0 :: s)
  have hB := (Below.refl w.heap.size w).alloc (Nat.le_refl _) (.cells #[S (0 :: s)] 9)
  have HBS := Lib.hid (one_str w (0 :: s))
  have lk := leaf_length s
  have BEL := Lib.hid (fun (q : Nat) (b : Bool) (hq : q + 1 ≤ p.length) (hb : (way i n)[q]? = some b) (w' : World) (hb' : Below w.heap.size w w') => below_any i n (q + 1) q b s p (.slice a p.length cap) w' hi hn9 hs ha hp hp9 rfl hq hb (HP.out.below hb'))
  have HPN := Lib.hid (pin_take (leaf s) (way i n) p)
  have hX : Hid (∀ q, (up (leaf s) ((way i n).take q) (p.take q)).length = 32) := fun q => up_length _ _ _ lk
  obtain ⟨z, hz⟩ : ∃ z, (0 : UInt8) :: s = z := ⟨_, rfl⟩
  rw [hz] at O1 hB HBS hcat
  have HZ := Lib.hid hz
  clear hA hz hp
  go_enter Try.func29, Try.ntmps29
  go_wp2_with (refine wpList_build_run rfl 22 1 #[(0, .tmp 14)] rfl #[(0, S z)] rfl _ _ HBS.out ?_)
  clear hcat HBS
  generalize w.alloc (.cells #[S z] 9) = w1 at *
  go_loopw [9, 10] (fun vo x wr => ∃ q : Nat, q ≤ p.length ∧ x = .int .i64 ((q : Int) + 1) ∧ OwnS wr w.heap.size vo (z :: pin (leaf s) ((way i n).take q) (p.take q)) ∧ Below w.heap.size w wr) (fun _ x _ => p.length + 1 - (intOf x).toNat)
  case atStart => exact ⟨0, by omega, rfl, by simpa [pin] using O1, hB⟩
  case round =>
    clear O1 hB
    obtain ⟨q, hq, rfl, hO, hB⟩ := hrel
    by_cases hlt : q < p.length
    · obtain ⟨y, hy⟩ : ∃ y, p[q]? = some y := ⟨p[q], List.getElem?_eq_getElem hlt⟩
      obtain ⟨b, hb⟩ : ∃ b, (way i n)[q]? = some b := ⟨(way i n)[q]'(by rw [HL.out]; exact hlt), List.getElem?_eq_getElem _⟩
      have y32 := ha y (List.mem_of_getElem? hy)
      obtain ⟨g, o, rfl, hAt⟩ := HA.out (by rintro rfl; simp at hy)
      have hgl := harg_lt' ha hAt (by rintro rfl; simp at hy)
      have B1 := Lib.hid (BEL.out q b (by omega) hb wr hB)
      have PN := Lib.hid (HPN.out q b y HL.out hb hy)
      have x32 := hX.out q
      have hpl := pin_len (leaf s) ((way i n).take q) (p.take q)
      rw [List.length_take] at hpl
      have HO := Lib.hid hO
      have HE := Lib.hid (fun (w' : World) (hb : Below w.heap.size w w') => (by have := (hAt.below hb).elem ha q y hy; rwa [Nat.mul_comm] at this : w'.rangeAt g (o + q * 32) (y.map Y)))
      have t1 : (q : Int) + 1 ≤ (p.length : Int) := by omega
      have t2 : decide ((q : Int) + 1 ≤ (p.length : Int)) = true := decide_eq_true t1
      obtain ⟨x, hxx⟩ : ∃ x, up (leaf s) ((way i n).take q) (p.take q) = x := ⟨_, rfl⟩
      rw [hxx] at B1 PN x32
      have hcast : ((q + 1 : Nat) : Int) = (q : Int) + 1 := by omega
      rw [hcast] at B1
      clear hy hb hAt hO hxx hcast BEL
      go_wp2_with fail
      refine B1.out.mono ?_; rintro e w2 ⟨rfl, hb2⟩
      have hO2 := HO.out.below hb2
      have hB2 := hB.trans (hb2.mono hB.size)
      have L2 := hO2.blk_lt
      have NZ := Lib.hid (Blk.new w2 hz 24)
      have N11 := Blk.new w2 (hrow x) 24
      have c3 := (Below.refl w2.heap.size w2).alloc (Nat.le_refl _) (.cells (hrow x) 24)
      have hO3 := hO2.below c3
      have hB3 := hB2.trans (c3.mono hB2.size)
      have n11 : some w2.heap.size ≠ blkOf u9 := fun e => by have := L2 _ e.symm; omega
      have HO3 := Lib.hid hO3
      clear B1 HO hO2 L2 hb2 c3 hO3 hB2
      go_upto_region 6 with (first
        | (refine wpList_alloc_hash rfl rfl ?_; go_frame; try simp only [World.size_alloc])
        | (refine wpList_store_hash rfl (.tmp 11) (.tmp 29) rfl w2.heap.size x x32 rfl rfl hz NZ.out hz_len ?_; go_frame; rw [Blk.fresh]))
      clear NZ
      generalize w2.alloc (.cells (hrow x) 24) = w3 at *
      generalize w2.heap.size = b11 at *
      have hR3 := HE.out w3 hB3
      have hcast : (q : Int) + 1 = ((q + 1 : Nat) : Int) := by omega
      rw [hcast]
      have HC := Lib.hid hcast
      clear HE hcast hB t1 t2
      cases b
      · go_upto_region 8 with (fail)
        refine pi_r8 _ _ _ _ _ _ _ _ _ _ _ _ _ _ _ _ _ _ _ _ _ _ _ _ _ _ _ _ _ _ _ _ _ _ _ _ _ _ _ _ _ _ _ _ _ _ _ _ _ _ _ _ _ _ _ u9 g o p.length cap (q + 1) q b11 w.heap.size x y _ w3 x32 y32 rfl hlt hp9 hgl N11 hR3 HO3.out hB3.size n11 (by rw [List.length_cons]; omega) _ ?_
        intro y45 y46 y47 y48 y49 y50 y51 y52 y53 y54 y55 y56 y57 v' w4 hO4 g4
        have hB4 := below_of_grown hB3 g4 hB3.size (fun g' hg' => HO3.out.blk g' hg')
        have HO4 : Hid (OwnS w4 w.heap.size v' (z :: pin (leaf s) ((way i n).take (q + 1)) (p.take (q + 1)))) := by
          show OwnS w4 w.heap.size v' _
          rw [PN.out]; exact hO4
        clear hO4 g4 HO3 N11 hR3 hB3 PN
        go_wp2_with fail
        go_roundw
        case rel => exact ⟨q + 1, by omega, congrArg (Value.int .i64) (by omega), HO4.out, hB4⟩
        case measure => simp [intOf]; omega
      · go_upto_region 7 with (fail)
        refine pi_r7 _ _ _ _ _ _ _ _ _ _ _ _ _ _ _ _ _ _ _ _ _ _ _ _ _ _ _ _ _ _ _ _ _ _ _ _ _ _ _ _ _ _ _ _ _ _ _ _ _ _ _ _ _ _ _ u9 g o p.length cap (q + 1) q b11 w.heap.size x y _ w3 x32 y32 rfl hlt hp9 hgl N11 hR3 HO3.out hB3.size n11 (by rw [List.length_cons]; omega) _ ?_
        intro y32 y33 y34 y35 y36 y37 y38 y39 y40 y41 y42 y43 y44 v' w4 hO4 g4
        have hB4 := below_of_grown hB3 g4 hB3.size (fun g' hg' => HO3.out.blk g' hg')
        have HO4 : Hid (OwnS w4 w.heap.size v' (z :: pin (leaf s) ((way i n).take (q + 1)) (p.take (q + 1)))) := by
          show OwnS w4 w.heap.size v' _
          rw [PN.out]; exact hO4
        clear hO4 g4 HO3 N11 hR3 hB3 PN
        go_wp2_with fail
        go_roundw
        case rel => exact ⟨q + 1, by omega, congrArg (Value.int .i64) (by omega), HO4.out, hB4⟩
        case measure => simp [intOf]; omega
    · have t1 : ¬ ((q : Int) + 1 ≤ (p.length : Int)) := by omega
      have t2 : decide ((q : Int) + 1 ≤ (p.length : Int)) = false := decide_eq_false t1
      have HO : Hid (OwnS wr w.heap.size u9 (z :: pin (leaf s) (way i n) p)) := by
        show OwnS wr w.heap.size u9 _
        rwa [List.take_of_length_le (by rw [HL.out]; omega), List.take_of_length_le (by omega)] at hO
      clear hO
      go_wp2_with fail
      go_ret
      exact ⟨_, rfl, by rw [HZ.out]; exact HO.out, hB⟩

end Go.Proofs.Ytjekdeikoebmgaa
