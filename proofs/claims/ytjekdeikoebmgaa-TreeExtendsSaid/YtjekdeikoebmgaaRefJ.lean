/- The contracts of the reference's many and both. Conditions: sizes. -/
import Derived.Test.YtjekdeikoebmgaaRefI
import Derived.Test.YtjekdeikoebmgaaTrM
namespace Go.Proofs.Ytjekdeikoebmgaa
open Go.RowKit Go.Shelf Tr

theorem many_le (e : Nat) : ∀ (m n : Nat) (whole : Bool), 1 ≤ m → m ≤ n → n ≤ 2 ^ e → many m n whole ≤ e + 1 := by
  induction e with
  | zero =>
    intro m n whole h1 h2 h3
    rw [many_end (by omega)]
    split <;> omega
  | succ e ih =>
    intro m n whole h1 h2 h3
    by_cases he : m = n
    · rw [many_end he]; split <;> omega
    · have hh := half_le_pow n e h3
      have h4 := half_lt (n := n) (by omega)
      have h5 := half_ge n
      by_cases hk : m ≤ half n
      · rw [many_left h1 (by omega) hk]
        have := ih m (half n) whole h1 hk hh
        omega
      · rw [many_right h1 (by omega) hk]
        have := ih (m - half n) (n - half n) false (by omega) (by omega) (by omega)
        omega

set_option maxRecDepth 100000 in
set_option maxHeartbeats 1000000 in
theorem many_any (n : Nat) : ∀ (m : Nat) (b : Bool) (w : World), 1 ≤ m → m ≤ n → n ≤ 9223372036854775807 → Calls Try.prog 50 #[.int .i64 m, .int .i64 n, .bool b] w fun e w' => e = .returned (.int .i64 ((many m n b : Nat) : Int)) ∧ w = w' := by
  induction n using Nat.strongRecOn with
  | _ n ih =>
    intro m b w h0 hmn hn
    by_cases he : m = n
    · rw [many_end he]
      have q : ((m : Int) == (n : Int)) = true := by rw [beq_iff_eq]; omega
      clear ih
      cases b with
      | true =>
        go_enter Try.func50, Try.ntmps50
        go_wp2_with fail
        go_ret
        exact ⟨rfl, rfl⟩
      | false =>
        go_enter Try.func50, Try.ntmps50
        go_wp2_with fail
        go_ret
        exact ⟨rfl, rfl⟩
    · have q : ((m : Int) == (n : Int)) = false := by rw [beq_eq_false_iff_ne]; omega
      have hk0 := half_pos (n := n) (by omega)
      have hk1 := half_lt (n := n) (by omega)
      have A1 := Lib.hid (fun w => RHalf_any n (by omega) hn w)
      by_cases hk : m ≤ half n
      · have hl := many_le 63 m (half n) b h0 hk (by omega)
        have HL := Lib.hid (many_left h0 (by omega : m < n) hk b)
        have D1 := Lib.hid (ih (half n) hk1 m b w h0 hk (by omega))
        have q2 : (m : Int) ≤ (half n : Int) := by omega
        clear ih
        generalize half n = k at *
        generalize many m k b = d at *
        generalize many m n b = r at *
        go_enter Try.func50, Try.ntmps50
        go_wp2_with fail
        refine (A1.out _).mono ?_; rintro e w1 ⟨rfl, rfl⟩
        go_wp2_with fail
        refine D1.out.mono ?_; rintro e w1 ⟨rfl, rfl⟩
        go_wp2_with fail
        go_ret
        exact ⟨congrArg (fun z => Ending.returned (.int .i64 z)) (by have := HL.out; omega), rfl⟩
      · have hl := many_le 63 (m - half n) (n - half n) false (by omega) (by omega) (by omega)
        have HL := Lib.hid (many_right h0 (by omega : m < n) hk b)
        have e1 : ((m - half n : Nat) : Int) = (m : Int) - (half n : Int) := by omega
        have e2 : ((n - half n : Nat) : Int) = (n : Int) - (half n : Int) := by omega
        have D0 := ih (n - half n) (by omega) (m - half n) false w (by omega) (by omega) (by omega)
        rw [e1, e2] at D0
        have D1 := Lib.hid D0
        have q2 : ¬ ((m : Int) ≤ (half n : Int)) := by omega
        clear ih e1 e2 D0
        generalize many (m - half n) (n - half n) false = d at *
        generalize half n = k at *
        generalize many m n b = r at *
        go_enter Try.func50, Try.ntmps50
        go_wp2_with fail
        refine (A1.out _).mono ?_; rintro e w1 ⟨rfl, rfl⟩
        go_wp2_with fail
        refine D1.out.mono ?_; rintro e w1 ⟨rfl, rfl⟩
        go_wp2_with fail
        go_ret
        exact ⟨congrArg (fun z => Ending.returned (.int .i64 z)) (by have := HL.out; omega), rfl⟩

set_option maxRecDepth 100000 in
set_option maxHeartbeats 1000000 in
theorem bo_r3 (u0 u1 u2 u3 u4 u5 u6 u7 u9 u12 u13 u14 u15 u16 u17 u18 u19 u20 u21 u22 u23 u24 u25 u26 u27 u28 u29 u30 u31 u32 u33 u34 u35 u36 u37 u38 u39 u40 u41 u42 u43 u44 u45 u46 u47 u48 u49 u50 u51 u52 u53 u54 u55 u56 u57 u58 u59 u60 u61 u62 u63 u64 u65 u66 u67 u68 u69 u70 u71 u72 u73 u74 u75 u76 u77 : Value) (B s : Nat) (x : List UInt8) (W0 w : World) (hBs : B ≤ s) (hB : Below B W0 w) (hx : x.length = 32) (hNC : Blk w s (hrow x) 24) (hN9 : Blk w (s + 1) hz 24) (hN10 : Blk w (s + 2) hz 24) (Q : Exit → Act → World → Prop)
    (h : ∀ (y23 y24 : Value) (w' : World), Blk w' (s + 1) (hrow x) 24 → Blk w' (s + 2) (hrow x) 24 → Below B W0 w' → Q .normal ⟨(u0 :: u1 :: u2 :: u3 :: u4 :: u5 :: u6 :: u7 :: (.pointer (some ⟨s, 0, none⟩)) :: u9 :: (.pointer (some ⟨s + 1, 0, none⟩)) :: (.pointer (some ⟨s + 2, 0, none⟩)) :: u12 :: u13 :: u14 :: u15 :: u16 :: u17 :: u18 :: u19 :: u20 :: u21 :: u22 :: y23 :: y24 :: u25 :: u26 :: u27 :: u28 :: u29 :: u30 :: u31 :: u32 :: u33 :: u34 :: u35 :: u36 :: u37 :: u38 :: u39 :: u40 :: u41 :: u42 :: u43 :: u44 :: u45 :: u46 :: u47 :: u48 :: u49 :: u50 :: u51 :: u52 :: u53 :: u54 :: u55 :: u56 :: u57 :: u58 :: u59 :: u60 :: u61 :: u62 :: u63 :: u64 :: u65 :: u66 :: u67 :: u68 :: u69 :: u70 :: u71 :: u72 :: u73 :: u74 :: u75 :: u76 :: u77 :: []).toArray, []⟩ w') : Code.wp Try.prog (regionIn Try.f51 3) Q ⟨(u0 :: u1 :: u2 :: u3 :: u4 :: u5 :: u6 :: u7 :: (.pointer (some ⟨s, 0, none⟩)) :: u9 :: (.pointer (some ⟨s + 1, 0, none⟩)) :: (.pointer (some ⟨s + 2, 0, none⟩)) :: u12 :: u13 :: u14 :: u15 :: u16 :: u17 :: u18 :: u19 :: u20 :: u21 :: u22 :: u23 :: u24 :: u25 :: u26 :: u27 :: u28 :: u29 :: u30 :: u31 :: u32 :: u33 :: u34 :: u35 :: u36 :: u37 :: u38 :: u39 :: u40 :: u41 :: u42 :: u43 :: u44 :: u45 :: u46 :: u47 :: u48 :: u49 :: u50 :: u51 :: u52 :: u53 :: u54 :: u55 :: u56 :: u57 :: u58 :: u59 :: u60 :: u61 :: u62 :: u63 :: u64 :: u65 :: u66 :: u67 :: u68 :: u69 :: u70 :: u71 :: u72 :: u73 :: u74 :: u75 :: u76 :: u77 :: []).toArray, []⟩ w := by
  have HX := Lib.hid h
  clear h
  have hB : Below B W0 { w with drawn := w.drawn + 1 } := hB.drew
  have N9 : Blk { w with drawn := w.drawn + 1 } (s + 1) hz 24 := hN9
  have N10 : Blk { w with drawn := w.drawn + 1 } (s + 2) hz 24 := hN10
  clear hN9 hN10
  have NC : Blk { w with drawn := w.drawn + 1 } s (hrow x) 24 := hNC
  clear hNC
  conv => arg 2; whnf
  refine wp_region_noPanic ?_
  refine wp_region_any (by kernel_rfl) ?_
  generalize ({ w with drawn := w.drawn + 1 } : World) = w0 at *
  refine wpAny_all (fuel := 3) (rs := [0, 1]) (by kernel_rfl) (by simp) ?_
  intro i hi
  rcases List.mem_cons.1 hi with rfl | hi
  · skip
    refine loadHL rfl rfl (.tmp 8) rfl s 0 rfl x hx NC.range ?_
    simp only [Act.put, List.setIfInBounds_toArray, List.set_cons_zero, List.set_cons_succ]
    refine wpAny_all (fuel := 2) (rs := [1, 2]) (by kernel_rfl) (by simp) ?_
    intro i hi
    rcases List.mem_cons.1 hi with rfl | hi
    · skip
      refine loadHL rfl rfl (.tmp 8) rfl s 0 rfl x hx NC.range ?_
      simp only [Act.put, List.setIfInBounds_toArray, List.set_cons_zero, List.set_cons_succ]
      refine wpAny_all (fuel := 1) (rs := [2]) (by kernel_rfl) (by simp) ?_
      intro i hi
      obtain rfl := List.mem_singleton.1 hi
      refine storeHL rfl rfl (.tmp 10) (.tmp 23) rfl (s + 1) (x) hx rfl rfl _ N9 hz_len ?_
      simp only [Act.put]
      have hB := Below.setRow hB (show B ≤ s + 1 by omega) (hrow (x))
      have N9 := N9.row (hrow (x))
      have N10 := N10.rowOther (hrow (x)) (show _ ≠ s + 1 by omega)
      have NC := NC.rowOther (hrow (x)) (show _ ≠ s + 1 by omega)
      refine wpAny_all (fuel := 0) (rs := [3]) (by kernel_rfl) (by simp) ?_
      intro i hi
      obtain rfl := List.mem_singleton.1 hi
      refine storeHL rfl rfl (.tmp 11) (.tmp 24) rfl (s + 2) (x) hx rfl rfl _ N10 hz_len ?_
      simp only [Act.put]
      have hB := Below.setRow hB (show B ≤ s + 2 by omega) (hrow (x))
      have N10 := N10.row (hrow (x))
      have N9 := N9.rowOther (hrow (x)) (show _ ≠ s + 2 by omega)
      have NC := NC.rowOther (hrow (x)) (show _ ≠ s + 2 by omega)
      refine wpAny_done (by kernel_rfl) ?_ 0
      exact HX.out _ _ _ N9 N10 hB
    · skip
      obtain rfl := List.mem_singleton.1 hi
      refine storeHL rfl rfl (.tmp 10) (.tmp 23) rfl (s + 1) (x) hx rfl rfl _ N9 hz_len ?_
      simp only [Act.put]
      have hB := Below.setRow hB (show B ≤ s + 1 by omega) (hrow (x))
      have N9 := N9.row (hrow (x))
      have N10 := N10.rowOther (hrow (x)) (show _ ≠ s + 1 by omega)
      have NC := NC.rowOther (hrow (x)) (show _ ≠ s + 1 by omega)
      refine wpAny_all (fuel := 1) (rs := [1]) (by kernel_rfl) (by simp) ?_
      intro i hi
      obtain rfl := List.mem_singleton.1 hi
      refine loadHL rfl rfl (.tmp 8) rfl s 0 rfl x hx NC.range ?_
      simp only [Act.put, List.setIfInBounds_toArray, List.set_cons_zero, List.set_cons_succ]
      refine wpAny_all (fuel := 0) (rs := [3]) (by kernel_rfl) (by simp) ?_
      intro i hi
      obtain rfl := List.mem_singleton.1 hi
      refine storeHL rfl rfl (.tmp 11) (.tmp 24) rfl (s + 2) (x) hx rfl rfl _ N10 hz_len ?_
      simp only [Act.put]
      have hB := Below.setRow hB (show B ≤ s + 2 by omega) (hrow (x))
      have N10 := N10.row (hrow (x))
      have N9 := N9.rowOther (hrow (x)) (show _ ≠ s + 2 by omega)
      have NC := NC.rowOther (hrow (x)) (show _ ≠ s + 2 by omega)
      refine wpAny_done (by kernel_rfl) ?_ 0
      exact HX.out _ _ _ N9 N10 hB
  · skip
    obtain rfl := List.mem_singleton.1 hi
    refine loadHL rfl rfl (.tmp 8) rfl s 0 rfl x hx NC.range ?_
    simp only [Act.put, List.setIfInBounds_toArray, List.set_cons_zero, List.set_cons_succ]
    refine wpAny_all (fuel := 2) (rs := [0]) (by kernel_rfl) (by simp) ?_
    intro i hi
    obtain rfl := List.mem_singleton.1 hi
    refine loadHL rfl rfl (.tmp 8) rfl s 0 rfl x hx NC.range ?_
    simp only [Act.put, List.setIfInBounds_toArray, List.set_cons_zero, List.set_cons_succ]
    refine wpAny_all (fuel := 1) (rs := [2]) (by kernel_rfl) (by simp) ?_
    intro i hi
    obtain rfl := List.mem_singleton.1 hi
    refine storeHL rfl rfl (.tmp 10) (.tmp 23) rfl (s + 1) (x) hx rfl rfl _ N9 hz_len ?_
    simp only [Act.put]
    have hB := Below.setRow hB (show B ≤ s + 1 by omega) (hrow (x))
    have N9 := N9.row (hrow (x))
    have N10 := N10.rowOther (hrow (x)) (show _ ≠ s + 1 by omega)
    have NC := NC.rowOther (hrow (x)) (show _ ≠ s + 1 by omega)
    refine wpAny_all (fuel := 0) (rs := [3]) (by kernel_rfl) (by simp) ?_
    intro i hi
    obtain rfl := List.mem_singleton.1 hi
    refine storeHL rfl rfl (.tmp 11) (.tmp 24) rfl (s + 2) (x) hx rfl rfl _ N10 hz_len ?_
    simp only [Act.put]
    have hB := Below.setRow hB (show B ≤ s + 2 by omega) (hrow (x))
    have N10 := N10.row (hrow (x))
    have N9 := N9.rowOther (hrow (x)) (show _ ≠ s + 2 by omega)
    have NC := NC.rowOther (hrow (x)) (show _ ≠ s + 2 by omega)
    refine wpAny_done (by kernel_rfl) ?_ 0
    exact HX.out _ _ _ N9 N10 hB
set_option maxRecDepth 100000 in
set_option maxHeartbeats 1000000 in
theorem bo_r4 (u0 u1 u2 u3 u5 u6 u7 u8 u9 u12 u13 u14 u15 u16 u17 u18 u19 u20 u21 u22 u23 u24 u25 u26 u27 u28 u29 u30 u31 u32 u33 u34 u35 u36 u37 u38 u39 u40 u41 u42 u43 u44 u45 u46 u47 u48 u49 u50 u51 u52 u53 u54 u55 u56 u57 u58 u59 u60 u61 u62 u63 u64 u65 u66 u67 u68 u69 u70 u71 u72 u73 u74 u75 u76 u77 : Value) (B s : Nat) (x : List UInt8) (g o n cap : Nat) (W0 w : World) (hBs : B ≤ s) (hB : Below B W0 w) (hx : x.length = 32) (hE : ∀ w', Below B W0 w' → w'.rangeAt g o (x.map Y)) (h0 : 0 < n) (hN9 : Blk w (s + 1) hz 24) (hN10 : Blk w (s + 2) hz 24) (Q : Exit → Act → World → Prop)
    (h : ∀ (y25 y26 y27 y28 y29 y30 : Value) (w' : World), Blk w' (s + 1) (hrow x) 24 → Blk w' (s + 2) (hrow x) 24 → Below B W0 w' → Q .normal ⟨(u0 :: u1 :: u2 :: u3 :: (.slice (some ⟨g, o, none⟩) n cap) :: u5 :: u6 :: u7 :: u8 :: u9 :: (.pointer (some ⟨s + 1, 0, none⟩)) :: (.pointer (some ⟨s + 2, 0, none⟩)) :: u12 :: u13 :: u14 :: u15 :: u16 :: u17 :: u18 :: u19 :: u20 :: u21 :: u22 :: u23 :: u24 :: y25 :: y26 :: y27 :: y28 :: y29 :: y30 :: u31 :: u32 :: u33 :: u34 :: u35 :: u36 :: u37 :: u38 :: u39 :: u40 :: u41 :: u42 :: u43 :: u44 :: u45 :: u46 :: u47 :: u48 :: u49 :: u50 :: u51 :: u52 :: u53 :: u54 :: u55 :: u56 :: u57 :: u58 :: u59 :: u60 :: u61 :: u62 :: u63 :: u64 :: u65 :: u66 :: u67 :: u68 :: u69 :: u70 :: u71 :: u72 :: u73 :: u74 :: u75 :: u76 :: u77 :: []).toArray, []⟩ w') : Code.wp Try.prog (regionIn Try.f51 4) Q ⟨(u0 :: u1 :: u2 :: u3 :: (.slice (some ⟨g, o, none⟩) n cap) :: u5 :: u6 :: u7 :: u8 :: u9 :: (.pointer (some ⟨s + 1, 0, none⟩)) :: (.pointer (some ⟨s + 2, 0, none⟩)) :: u12 :: u13 :: u14 :: u15 :: u16 :: u17 :: u18 :: u19 :: u20 :: u21 :: u22 :: u23 :: u24 :: u25 :: u26 :: u27 :: u28 :: u29 :: u30 :: u31 :: u32 :: u33 :: u34 :: u35 :: u36 :: u37 :: u38 :: u39 :: u40 :: u41 :: u42 :: u43 :: u44 :: u45 :: u46 :: u47 :: u48 :: u49 :: u50 :: u51 :: u52 :: u53 :: u54 :: u55 :: u56 :: u57 :: u58 :: u59 :: u60 :: u61 :: u62 :: u63 :: u64 :: u65 :: u66 :: u67 :: u68 :: u69 :: u70 :: u71 :: u72 :: u73 :: u74 :: u75 :: u76 :: u77 :: []).toArray, []⟩ w := by
  have HX := Lib.hid h
  clear h
  have hB : Below B W0 { w with drawn := w.drawn + 1 } := hB.drew
  have N9 : Blk { w with drawn := w.drawn + 1 } (s + 1) hz 24 := hN9
  have N10 : Blk { w with drawn := w.drawn + 1 } (s + 2) hz 24 := hN10
  clear hN9 hN10
  have b1 : (0 : Int) < (n : Int) := by omega
  have IX : Hid (∀ w, (Instr.indexAt 32 (.slice (some ⟨g, o, none⟩) n cap) (.int .i64 0)).run Try.prog w = .ok (.pointer (some ⟨g, o, none⟩)) w) := fun w => by go_simp
  conv => arg 2; whnf
  refine wp_region_noPanic ?_
  refine wp_region_any (by kernel_rfl) ?_
  generalize ({ w with drawn := w.drawn + 1 } : World) = w0 at *
  refine takeL 7 0 (.slice (some ⟨g, o, none⟩) n cap) rfl (by kernel_rfl) (by kernel_rfl) (by kernel_rfl) (fun _ _ _ h => h) (yields_move rfl rfl rfl) ?_
  simp only [Act.put, List.setIfInBounds_toArray, List.set_cons_zero, List.set_cons_succ]
  refine takeL 6 1 (.pointer (some ⟨g, o, none⟩)) rfl (by kernel_rfl) (by kernel_rfl) (by kernel_rfl) (fun _ _ _ h => h) (yields_index rfl rfl rfl rfl IX.out) ?_
  simp only [Act.put, List.setIfInBounds_toArray, List.set_cons_zero, List.set_cons_succ]
  refine takeL 5 3 (.slice (some ⟨g, o, none⟩) n cap) rfl (by kernel_rfl) (by kernel_rfl) (by kernel_rfl) (fun _ _ _ h => h) (yields_move rfl rfl rfl) ?_
  simp only [Act.put, List.setIfInBounds_toArray, List.set_cons_zero, List.set_cons_succ]
  refine takeL 4 4 (.pointer (some ⟨g, o, none⟩)) rfl (by kernel_rfl) (by kernel_rfl) (by kernel_rfl) (fun _ _ _ h => h) (yields_index rfl rfl rfl rfl IX.out) ?_
  simp only [Act.put, List.setIfInBounds_toArray, List.set_cons_zero, List.set_cons_succ]
  refine wpAny_all (fuel := 3) (rs := [2, 5]) (by kernel_rfl) (by simp) ?_
  intro i hi
  rcases List.mem_cons.1 hi with rfl | hi
  · skip
    refine loadHL rfl rfl (.tmp 26) rfl g o rfl x hx (hE _ hB) ?_
    simp only [Act.put, List.setIfInBounds_toArray, List.set_cons_zero, List.set_cons_succ]
    refine wpAny_all (fuel := 2) (rs := [5, 6]) (by kernel_rfl) (by simp) ?_
    intro i hi
    rcases List.mem_cons.1 hi with rfl | hi
    · skip
      refine loadHL rfl rfl (.tmp 29) rfl g o rfl x hx (hE _ hB) ?_
      simp only [Act.put, List.setIfInBounds_toArray, List.set_cons_zero, List.set_cons_succ]
      refine wpAny_all (fuel := 1) (rs := [6]) (by kernel_rfl) (by simp) ?_
      intro i hi
      obtain rfl := List.mem_singleton.1 hi
      refine storeHL rfl rfl (.tmp 10) (.tmp 27) rfl (s + 1) (x) hx rfl rfl _ N9 hz_len ?_
      simp only [Act.put]
      have hB := Below.setRow hB (show B ≤ s + 1 by omega) (hrow (x))
      have N9 := N9.row (hrow (x))
      have N10 := N10.rowOther (hrow (x)) (show _ ≠ s + 1 by omega)
      refine wpAny_all (fuel := 0) (rs := [7]) (by kernel_rfl) (by simp) ?_
      intro i hi
      obtain rfl := List.mem_singleton.1 hi
      refine storeHL rfl rfl (.tmp 11) (.tmp 30) rfl (s + 2) (x) hx rfl rfl _ N10 hz_len ?_
      simp only [Act.put]
      have hB := Below.setRow hB (show B ≤ s + 2 by omega) (hrow (x))
      have N10 := N10.row (hrow (x))
      have N9 := N9.rowOther (hrow (x)) (show _ ≠ s + 2 by omega)
      refine wpAny_done (by kernel_rfl) ?_ 0
      exact HX.out _ _ _ _ _ _ _ N9 N10 hB
    · skip
      obtain rfl := List.mem_singleton.1 hi
      refine storeHL rfl rfl (.tmp 10) (.tmp 27) rfl (s + 1) (x) hx rfl rfl _ N9 hz_len ?_
      simp only [Act.put]
      have hB := Below.setRow hB (show B ≤ s + 1 by omega) (hrow (x))
      have N9 := N9.row (hrow (x))
      have N10 := N10.rowOther (hrow (x)) (show _ ≠ s + 1 by omega)
      refine wpAny_all (fuel := 1) (rs := [5]) (by kernel_rfl) (by simp) ?_
      intro i hi
      obtain rfl := List.mem_singleton.1 hi
      refine loadHL rfl rfl (.tmp 29) rfl g o rfl x hx (hE _ hB) ?_
      simp only [Act.put, List.setIfInBounds_toArray, List.set_cons_zero, List.set_cons_succ]
      refine wpAny_all (fuel := 0) (rs := [7]) (by kernel_rfl) (by simp) ?_
      intro i hi
      obtain rfl := List.mem_singleton.1 hi
      refine storeHL rfl rfl (.tmp 11) (.tmp 30) rfl (s + 2) (x) hx rfl rfl _ N10 hz_len ?_
      simp only [Act.put]
      have hB := Below.setRow hB (show B ≤ s + 2 by omega) (hrow (x))
      have N10 := N10.row (hrow (x))
      have N9 := N9.rowOther (hrow (x)) (show _ ≠ s + 2 by omega)
      refine wpAny_done (by kernel_rfl) ?_ 0
      exact HX.out _ _ _ _ _ _ _ N9 N10 hB
  · skip
    obtain rfl := List.mem_singleton.1 hi
    refine loadHL rfl rfl (.tmp 29) rfl g o rfl x hx (hE _ hB) ?_
    simp only [Act.put, List.setIfInBounds_toArray, List.set_cons_zero, List.set_cons_succ]
    refine wpAny_all (fuel := 2) (rs := [2]) (by kernel_rfl) (by simp) ?_
    intro i hi
    obtain rfl := List.mem_singleton.1 hi
    refine loadHL rfl rfl (.tmp 26) rfl g o rfl x hx (hE _ hB) ?_
    simp only [Act.put, List.setIfInBounds_toArray, List.set_cons_zero, List.set_cons_succ]
    refine wpAny_all (fuel := 1) (rs := [6]) (by kernel_rfl) (by simp) ?_
    intro i hi
    obtain rfl := List.mem_singleton.1 hi
    refine storeHL rfl rfl (.tmp 10) (.tmp 27) rfl (s + 1) (x) hx rfl rfl _ N9 hz_len ?_
    simp only [Act.put]
    have hB := Below.setRow hB (show B ≤ s + 1 by omega) (hrow (x))
    have N9 := N9.row (hrow (x))
    have N10 := N10.rowOther (hrow (x)) (show _ ≠ s + 1 by omega)
    refine wpAny_all (fuel := 0) (rs := [7]) (by kernel_rfl) (by simp) ?_
    intro i hi
    obtain rfl := List.mem_singleton.1 hi
    refine storeHL rfl rfl (.tmp 11) (.tmp 30) rfl (s + 2) (x) hx rfl rfl _ N10 hz_len ?_
    simp only [Act.put]
    have hB := Below.setRow hB (show B ≤ s + 2 by omega) (hrow (x))
    have N10 := N10.row (hrow (x))
    have N9 := N9.rowOther (hrow (x)) (show _ ≠ s + 2 by omega)
    refine wpAny_done (by kernel_rfl) ?_ 0
    exact HX.out _ _ _ _ _ _ _ N9 N10 hB
set_option maxRecDepth 100000 in
set_option maxHeartbeats 1000000 in
theorem bo_r10 (u0 u1 u2 u3 u4 u5 u6 u7 u8 u9 u12 u14 u17 u18 u19 u20 u21 u22 u23 u24 u25 u26 u27 u28 u29 u30 u31 u32 u33 u34 u35 u36 u37 u38 u39 u40 u41 u42 u43 u44 u45 u46 u47 u48 u49 u50 u51 u52 u53 u54 u55 u56 u57 u58 u59 u60 u61 u62 u63 u64 u65 u66 u67 u68 u69 u70 u71 u72 u73 u74 u75 u76 u77 : Value) (B s c d : Nat) (t x y : List UInt8) (W0 w : World) (hBs : B ≤ s) (hB : Below B W0 w) (ht : t.length = 32) (hx : x.length = 32) (hy : y.length = 32) (hNC : Blk w c (hrow t) 24) (hN1 : Blk w d (hrow x) 24) (hN2 : Blk w (d + 1) (hrow y) 24) (hN9 : Blk w (s + 1) hz 24) (hN10 : Blk w (s + 2) hz 24) (Q : Exit → Act → World → Prop)
    (h : ∀ (y56 y57 y58 y59 : Value) (w' : World), Blk w' (s + 1) (hrow (x)) 24 → Blk w' (s + 2) (hrow (node y t)) 24 → Below B W0 w' → Q .normal ⟨(u0 :: u1 :: u2 :: u3 :: u4 :: u5 :: u6 :: u7 :: u8 :: u9 :: (.pointer (some ⟨s + 1, 0, none⟩)) :: (.pointer (some ⟨s + 2, 0, none⟩)) :: u12 :: (.pointer (some ⟨c, 0, none⟩)) :: u14 :: (.pointer (some ⟨d, 0, none⟩)) :: (.pointer (some ⟨d + 1, 0, none⟩)) :: u17 :: u18 :: u19 :: u20 :: u21 :: u22 :: u23 :: u24 :: u25 :: u26 :: u27 :: u28 :: u29 :: u30 :: u31 :: u32 :: u33 :: u34 :: u35 :: u36 :: u37 :: u38 :: u39 :: u40 :: u41 :: u42 :: u43 :: u44 :: u45 :: u46 :: u47 :: u48 :: u49 :: u50 :: u51 :: u52 :: u53 :: u54 :: u55 :: y56 :: y57 :: y58 :: y59 :: u60 :: u61 :: u62 :: u63 :: u64 :: u65 :: u66 :: u67 :: u68 :: u69 :: u70 :: u71 :: u72 :: u73 :: u74 :: u75 :: u76 :: u77 :: []).toArray, []⟩ w') : Code.wp Try.prog (regionIn Try.f51 10) Q ⟨(u0 :: u1 :: u2 :: u3 :: u4 :: u5 :: u6 :: u7 :: u8 :: u9 :: (.pointer (some ⟨s + 1, 0, none⟩)) :: (.pointer (some ⟨s + 2, 0, none⟩)) :: u12 :: (.pointer (some ⟨c, 0, none⟩)) :: u14 :: (.pointer (some ⟨d, 0, none⟩)) :: (.pointer (some ⟨d + 1, 0, none⟩)) :: u17 :: u18 :: u19 :: u20 :: u21 :: u22 :: u23 :: u24 :: u25 :: u26 :: u27 :: u28 :: u29 :: u30 :: u31 :: u32 :: u33 :: u34 :: u35 :: u36 :: u37 :: u38 :: u39 :: u40 :: u41 :: u42 :: u43 :: u44 :: u45 :: u46 :: u47 :: u48 :: u49 :: u50 :: u51 :: u52 :: u53 :: u54 :: u55 :: u56 :: u57 :: u58 :: u59 :: u60 :: u61 :: u62 :: u63 :: u64 :: u65 :: u66 :: u67 :: u68 :: u69 :: u70 :: u71 :: u72 :: u73 :: u74 :: u75 :: u76 :: u77 :: []).toArray, []⟩ w := by
  have HX := Lib.hid h
  have E1 := Lib.hid (fun w => RNode_any y t hy ht w)
  have hn1 := node_length y t
  have fc := After.hash hNC ht
  have f1 := After.hash hN1 hx
  have f2 := After.hash hN2 hy
  clear h
  conv => arg 2; whnf
  refine wp_region_after_tail2 4 (by kernel_rfl) (by kernel_rfl) (by kernel_rfl) (by kernel_rfl) ?_
  simp only [List.take_succ_cons, List.take_zero, List.drop_succ_cons, List.drop_zero]
  repeat (first
    | (refine quiet_load_at 24 (.tmp 15) (by rfl) ⟨d, 0, none⟩ (by rfl) (hrow x) f1 (by kernel_rfl) ?_; go_frame)
    | (refine quiet_load_at 24 (.tmp 16) (by rfl) ⟨d + 1, 0, none⟩ (by rfl) (hrow y) f2 (by kernel_rfl) ?_; go_frame)
    | (refine quiet_load_at 24 (.tmp 13) (by rfl) ⟨c, 0, none⟩ (by rfl) (hrow t) fc (by kernel_rfl) ?_; go_frame)
    | (go_big_quiet_step (first | (with_reducible exact After.call (E1.out _)))))
  refine wpQuiet_nil ?_
  rintro w5 ⟨x5, rfl⟩
  have hb5 := x5.hb
  have M9 := hN9.below hb5 hN9.lt
  have M10 := (hN10.below hb5 hN10.lt).rowOther (hrow (x)) (show s + 2 ≠ s + 1 by omega)
  have R9 := Lib.hid ((M9.row (hrow (x))).rowOther (hrow (node y t)) (show s + 1 ≠ s + 2 by omega))
  have R10 := Lib.hid (M10.row (hrow (node y t)))
  have HB := Lib.hid (Below.setRow (Below.setRow (hB.trans (hb5.mono (by have := hN9.lt; omega))) (show B ≤ s + 1 by omega) (hrow (x))) (show B ≤ s + 2 by omega) (hrow (node y t)))
  have H9 := Lib.hid M9
  have H10 := Lib.hid M10
  have HL0 := Lib.hid hz_len
  clear fc f1 f2 M9 M10 hNC hN1 hN2 hN9 hN10 hB
  generalize x5.W = w5 at *
  go_wp2_with (first
    | (refine wpList_store_hash rfl (.tmp 10) (.tmp 56) rfl (s + 1) (x) hx (by rfl) (by rfl) hz H9.out HL0.out ?_; go_frame)
    | (refine wpList_store_hash rfl (.tmp 11) (.tmp 59) rfl (s + 2) (node y t) hn1 (by rfl) (by rfl) hz H10.out HL0.out ?_; go_frame))
  exact HX.out _ _ _ _ _ R9.out R10.out HB.out

set_option maxRecDepth 100000 in
set_option maxHeartbeats 1000000 in
theorem bo_r12 (u0 u1 u2 u3 u4 u5 u6 u7 u8 u9 u12 u14 u15 u16 u19 u20 u21 u22 u23 u24 u25 u26 u27 u28 u29 u30 u31 u32 u33 u34 u35 u36 u37 u38 u39 u40 u41 u42 u43 u44 u45 u46 u47 u48 u49 u50 u51 u52 u53 u54 u55 u56 u57 u58 u59 u60 u61 u62 u63 u64 u65 u66 u67 u68 u69 u70 u71 u72 u73 u74 u75 u76 u77 : Value) (B s c d : Nat) (t x y : List UInt8) (W0 w : World) (hBs : B ≤ s) (hB : Below B W0 w) (ht : t.length = 32) (hx : x.length = 32) (hy : y.length = 32) (hNC : Blk w c (hrow t) 24) (hN1 : Blk w d (hrow x) 24) (hN2 : Blk w (d + 1) (hrow y) 24) (hN9 : Blk w (s + 1) hz 24) (hN10 : Blk w (s + 2) hz 24) (Q : Exit → Act → World → Prop)
    (h : ∀ (y72 y73 y74 y75 y76 y77 : Value) (w' : World), Blk w' (s + 1) (hrow (node t x)) 24 → Blk w' (s + 2) (hrow (node t y)) 24 → Below B W0 w' → Q .normal ⟨(u0 :: u1 :: u2 :: u3 :: u4 :: u5 :: u6 :: u7 :: u8 :: u9 :: (.pointer (some ⟨s + 1, 0, none⟩)) :: (.pointer (some ⟨s + 2, 0, none⟩)) :: u12 :: (.pointer (some ⟨c, 0, none⟩)) :: u14 :: u15 :: u16 :: (.pointer (some ⟨d, 0, none⟩)) :: (.pointer (some ⟨d + 1, 0, none⟩)) :: u19 :: u20 :: u21 :: u22 :: u23 :: u24 :: u25 :: u26 :: u27 :: u28 :: u29 :: u30 :: u31 :: u32 :: u33 :: u34 :: u35 :: u36 :: u37 :: u38 :: u39 :: u40 :: u41 :: u42 :: u43 :: u44 :: u45 :: u46 :: u47 :: u48 :: u49 :: u50 :: u51 :: u52 :: u53 :: u54 :: u55 :: u56 :: u57 :: u58 :: u59 :: u60 :: u61 :: u62 :: u63 :: u64 :: u65 :: u66 :: u67 :: u68 :: u69 :: u70 :: u71 :: y72 :: y73 :: y74 :: y75 :: y76 :: y77 :: []).toArray, []⟩ w') : Code.wp Try.prog (regionIn Try.f51 12) Q ⟨(u0 :: u1 :: u2 :: u3 :: u4 :: u5 :: u6 :: u7 :: u8 :: u9 :: (.pointer (some ⟨s + 1, 0, none⟩)) :: (.pointer (some ⟨s + 2, 0, none⟩)) :: u12 :: (.pointer (some ⟨c, 0, none⟩)) :: u14 :: u15 :: u16 :: (.pointer (some ⟨d, 0, none⟩)) :: (.pointer (some ⟨d + 1, 0, none⟩)) :: u19 :: u20 :: u21 :: u22 :: u23 :: u24 :: u25 :: u26 :: u27 :: u28 :: u29 :: u30 :: u31 :: u32 :: u33 :: u34 :: u35 :: u36 :: u37 :: u38 :: u39 :: u40 :: u41 :: u42 :: u43 :: u44 :: u45 :: u46 :: u47 :: u48 :: u49 :: u50 :: u51 :: u52 :: u53 :: u54 :: u55 :: u56 :: u57 :: u58 :: u59 :: u60 :: u61 :: u62 :: u63 :: u64 :: u65 :: u66 :: u67 :: u68 :: u69 :: u70 :: u71 :: u72 :: u73 :: u74 :: u75 :: u76 :: u77 :: []).toArray, []⟩ w := by
  have HX := Lib.hid h
  have E1 := Lib.hid (fun w => RNode_any t x ht hx w)
  have E2 := Lib.hid (fun w => RNode_any t y ht hy w)
  have hn1 := node_length t x
  have hn2 := node_length t y
  have fc := After.hash hNC ht
  have f1 := After.hash hN1 hx
  have f2 := After.hash hN2 hy
  clear h
  conv => arg 2; whnf
  refine wp_region_after_tail2 6 (by kernel_rfl) (by kernel_rfl) (by kernel_rfl) (by kernel_rfl) ?_
  simp only [List.take_succ_cons, List.take_zero, List.drop_succ_cons, List.drop_zero]
  repeat (first
    | (refine quiet_load_at 24 (.tmp 13) (by rfl) ⟨c, 0, none⟩ (by rfl) (hrow t) fc (by kernel_rfl) ?_; go_frame)
    | (refine quiet_load_at 24 (.tmp 17) (by rfl) ⟨d, 0, none⟩ (by rfl) (hrow x) f1 (by kernel_rfl) ?_; go_frame)
    | (refine quiet_load_at 24 (.tmp 18) (by rfl) ⟨d + 1, 0, none⟩ (by rfl) (hrow y) f2 (by kernel_rfl) ?_; go_frame)
    | (go_big_quiet_step (first | (with_reducible exact After.call (E1.out _)) | (with_reducible exact After.call (E2.out _)))))
  refine wpQuiet_nil ?_
  rintro w5 ⟨x5, rfl⟩
  have hb5 := x5.hb
  have M9 := hN9.below hb5 hN9.lt
  have M10 := (hN10.below hb5 hN10.lt).rowOther (hrow (node t x)) (show s + 2 ≠ s + 1 by omega)
  have R9 := Lib.hid ((M9.row (hrow (node t x))).rowOther (hrow (node t y)) (show s + 1 ≠ s + 2 by omega))
  have R10 := Lib.hid (M10.row (hrow (node t y)))
  have HB := Lib.hid (Below.setRow (Below.setRow (hB.trans (hb5.mono (by have := hN9.lt; omega))) (show B ≤ s + 1 by omega) (hrow (node t x))) (show B ≤ s + 2 by omega) (hrow (node t y)))
  have H9 := Lib.hid M9
  have H10 := Lib.hid M10
  have HL0 := Lib.hid hz_len
  clear fc f1 f2 M9 M10 hNC hN1 hN2 hN9 hN10 hB
  generalize x5.W = w5 at *
  go_wp2_with (first
    | (refine wpList_store_hash rfl (.tmp 10) (.tmp 74) rfl (s + 1) (node t x) hn1 (by rfl) (by rfl) hz H9.out HL0.out ?_; go_frame)
    | (refine wpList_store_hash rfl (.tmp 11) (.tmp 77) rfl (s + 2) (node t y) hn2 (by rfl) (by rfl) hz H10.out HL0.out ?_; go_frame))
  exact HX.out _ _ _ _ _ _ _ R9.out R10.out HB.out

end Go.Proofs.Ytjekdeikoebmgaa
