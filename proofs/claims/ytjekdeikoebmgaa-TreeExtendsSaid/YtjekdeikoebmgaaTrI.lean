/- The contracts of Growth and of its closure. Conditions: sizes. The contract of Growth. Conditions: sizes. A kit for walks over hashes in memory: loads, stores, new variables, lists that are built. Conditions: sizes. Rows of the call's own of elements of one cell: appended to, read. Conditions: sizes. -/
import Derived.Test.YtjekdeikoebmgaaTrG
import Derived.IntWalk
namespace Go.Proofs.Ytjekdeikoebmgaa
open Go.RowKit Go.Shelf Tr

theorem grow_len (N : Nat) : ∀ (l : List (List UInt8)) (m : Nat) (b : Bool), l.length ≤ N → 1 ≤ m → m ≤ l.length → (grow l m b).length ≤ l.length := by
  induction N with
  | zero => intro l m b h0 h1 h2; omega
  | succ N ih =>
    intro l m b h0 h1 h2
    by_cases he : m = l.length
    · rw [grow_end he]
      split
      · simp
      · simp; omega
    have hk := half_lt (n := l.length) (by omega)
    have hk0 := half_pos (n := l.length) (by omega)
    by_cases hh : m ≤ half l.length
    · rw [grow_left h1 (by omega) hh]
      have := ih (l.take (half l.length)) m b (by simp; omega) h1 (by simp; omega)
      simp at this ⊢
      omega
    · rw [grow_right h1 (by omega) hh]
      have := ih (l.drop (half l.length)) (m - half l.length) false (by simp; omega) (by omega) (by simp; omega)
      simp at this ⊢
      omega
theorem yields_sub {P : Program} {ops : Array Oper} {o : Oper} {a : Act} {x y : Operand} (m k : Nat) (hmk : k ≤ m) (hm : m ≤ 4398046511000) (hop : o.op = .binOp .sub 3 x y 3) (hg : o.guard = none) (hx : a.eval x = .int .i64 m) (hy : a.eval y = .int .i64 k) : Yields P ops o (.int .i64 ((m - k : Nat) : Int)) a :=
  .inl ⟨by simp [Region.wanted, hg], fun w => by
    have e : ((m - k : Nat) : Int) = (m : Int) - (k : Int) := by omega
    unfold execOp
    simp only [hop, hx, hy, e]
    go_simp
    exact IntWalk.i64_in _ (by omega)⟩
/-- The closure that Growth makes, its variables at blocks O and O + 1. -/
abbrev growF (O : Nat) : Value := .func (.func 46) #[] #[.pointer (some ⟨O, 0, none⟩), .pointer (some ⟨O + 1, 0, none⟩)]
/-- The variable out holds these hashes behind the call. -/
def GrowP (O : Nat) (w : World) (hs : List (List UInt8)) (w' : World) : Prop := (∃ x, OutI w' O x hs) ∧ GB O w w'
theorem GB.ofDrew {O : Nat} {a b : World} (h : GB O a.drew b) : GB O a b := ⟨Below.ofDrew h.b, h.f⟩
theorem load_func_cell (w : World) (O : Nat) (h : Blk w (O + 1) #[growF O] 74) : (loadVar 74 ⟨O + 1, 0, none⟩).run Try.prog w = .ok (growF O) w := by
  have c := h.cell 0 _ rfl
  go_simp
set_option maxRecDepth 100000 in
set_option maxHeartbeats 1000000 in
theorem gr5 (u5 u6 u7 u9 u10 u11 u12 u13 u14 u15 u16 u17 u18 u19 u20 u21 u22 u23 u24 u25 u26 u27 u28 u29 u30 u31 u32 u33 u34 u35 u36 u37 u38 u39 u40 u41 u42 u43 u44 u45 u46 u47 u48 u49 u50 u51 u52 u53 u54 : Value) (O g o cap k m : Nat) (b : Bool) (l : List (List UInt8)) (w : World) (R : World → Prop) (hF : Blk w (O + 1) #[growF O] 74) (hk0 : 0 < k) (hk : k < l.length) (hcap : l.length ≤ cap)
    (hC : Calls Try.prog 46 #[.slice (some ⟨g, o, none⟩) k cap, .int .i64 m, .bool b, .pointer (some ⟨O, 0, none⟩), .pointer (some ⟨O + 1, 0, none⟩)] w.drew fun e w' => e = .returned (.tuple #[]) ∧ R w') (Q : Exit → Act → World → Prop)
    (h : ∀ (y26 y27 y28 y29 y30 y31 y32 : Value) (w' : World), R w' → Q .normal ⟨((.slice (some ⟨g, o, none⟩) l.length cap) :: (.int .i64 m) :: (.bool b) :: (.pointer (some ⟨O, 0, none⟩)) :: (.pointer (some ⟨O + 1, 0, none⟩)) :: u5 :: u6 :: u7 :: (.int .i64 k) :: u9 :: u10 :: u11 :: u12 :: u13 :: u14 :: u15 :: u16 :: u17 :: u18 :: u19 :: u20 :: u21 :: u22 :: u23 :: u24 :: u25 :: y26 :: y27 :: y28 :: y29 :: y30 :: y31 :: y32 :: u33 :: u34 :: u35 :: u36 :: u37 :: u38 :: u39 :: u40 :: u41 :: u42 :: u43 :: u44 :: u45 :: u46 :: u47 :: u48 :: u49 :: u50 :: u51 :: u52 :: u53 :: u54 :: []).toArray, []⟩ w') : Code.wp Try.prog (regionIn Try.f46 5) Q ⟨((.slice (some ⟨g, o, none⟩) l.length cap) :: (.int .i64 m) :: (.bool b) :: (.pointer (some ⟨O, 0, none⟩)) :: (.pointer (some ⟨O + 1, 0, none⟩)) :: u5 :: u6 :: u7 :: (.int .i64 k) :: u9 :: u10 :: u11 :: u12 :: u13 :: u14 :: u15 :: u16 :: u17 :: u18 :: u19 :: u20 :: u21 :: u22 :: u23 :: u24 :: u25 :: u26 :: u27 :: u28 :: u29 :: u30 :: u31 :: u32 :: u33 :: u34 :: u35 :: u36 :: u37 :: u38 :: u39 :: u40 :: u41 :: u42 :: u43 :: u44 :: u45 :: u46 :: u47 :: u48 :: u49 :: u50 :: u51 :: u52 :: u53 :: u54 :: []).toArray, []⟩ w := by
  have HX := Lib.hid h
  clear h
  conv => arg 2; whnf
  refine wp_region_noPanic ?_
  refine wp_region_any (by kernel_rfl) ?_
  refine takeL 6 1 (.slice (some ⟨g, o, none⟩) l.length cap) rfl (by kernel_rfl) (by kernel_rfl) (by kernel_rfl) (fun _ _ _ h => h) (yields_move rfl rfl rfl) ?_
  simp only [Act.put, List.setIfInBounds_toArray, List.set_cons_zero, List.set_cons_succ]
  refine takeL 5 2 (.int .i64 k) rfl (by kernel_rfl) (by kernel_rfl) (by kernel_rfl) (fun _ _ _ h => h) (yields_move rfl rfl rfl) ?_
  simp only [Act.put, List.setIfInBounds_toArray, List.set_cons_zero, List.set_cons_succ]
  refine takeL 4 3 (.slice (some ⟨g, o, none⟩) k cap) rfl (by kernel_rfl) (by kernel_rfl) (by kernel_rfl) (fun _ _ _ h => h) (yields_slice rfl rfl (slice_hi g o l.length cap k hk0 hk hcap)) ?_
  simp only [Act.put, List.setIfInBounds_toArray, List.set_cons_zero, List.set_cons_succ]
  refine takeL 3 4 (.int .i64 m) rfl (by kernel_rfl) (by kernel_rfl) (by kernel_rfl) (fun _ _ _ h => h) (yields_move rfl rfl rfl) ?_
  simp only [Act.put, List.setIfInBounds_toArray, List.set_cons_zero, List.set_cons_succ]
  refine takeL 2 5 (.bool b) rfl (by kernel_rfl) (by kernel_rfl) (by kernel_rfl) (fun _ _ _ h => h) (yields_move rfl rfl rfl) ?_
  simp only [Act.put, List.setIfInBounds_toArray, List.set_cons_zero, List.set_cons_succ]
  refine wpAny_all (fuel := 1) (rs := [0]) (by kernel_rfl) (by simp) ?_
  intro i hi
  obtain rfl := List.mem_singleton.1 hi
  have LX := load_func_cell { w with drawn := w.drawn + 1 } O hF
  refine loadL rfl rfl 74 (.tmp 4) rfl ⟨O + 1, 0, none⟩ (growF O) rfl LX ?_
  simp only [Act.put, List.setIfInBounds_toArray, List.set_cons_zero, List.set_cons_succ]
  refine wpAny_all (fuel := 0) (rs := [6]) (by kernel_rfl) (by simp) ?_
  intro i hi
  obtain rfl := List.mem_singleton.1 hi
  refine callL rfl rfl ?_
  go_simp
  refine hC.mono ?_
  rintro e w1 ⟨rfl, hR⟩
  refine wpAny_done (by kernel_rfl) ?_ 0
  exact HX.out _ _ _ _ _ _ _ _ hR
set_option maxRecDepth 100000 in
set_option maxHeartbeats 1000000 in
theorem gr7 (u5 u6 u7 u9 u10 u11 u12 u13 u14 u15 u16 u17 u18 u19 u20 u21 u22 u23 u24 u25 u26 u27 u28 u29 u30 u31 u32 u33 u34 u35 u36 u37 u38 u39 u40 u41 u42 u43 u44 u45 u46 u47 u48 u49 u50 u51 u52 u53 u54 : Value) (O g o cap k m : Nat) (b : Bool) (l : List (List UInt8)) (w : World) (R : World → Prop) (hF : Blk w (O + 1) #[growF O] 74) (hmk : k ≤ m) (hm : m ≤ 4398046511000) (hk : k < l.length) (hcap : l.length ≤ cap)
    (hC : Calls Try.prog 46 #[.slice (some ⟨g, o + k, none⟩) (l.length - k) (cap - k), .int .i64 ((m - k : Nat) : Int), .bool false, .pointer (some ⟨O, 0, none⟩), .pointer (some ⟨O + 1, 0, none⟩)] w.drew fun e w' => e = .returned (.tuple #[]) ∧ R w') (Q : Exit → Act → World → Prop)
    (h : ∀ (y40 y41 y42 y43 y44 y45 y46 y47 : Value) (w' : World), R w' → Q .normal ⟨((.slice (some ⟨g, o, none⟩) l.length cap) :: (.int .i64 m) :: (.bool b) :: (.pointer (some ⟨O, 0, none⟩)) :: (.pointer (some ⟨O + 1, 0, none⟩)) :: u5 :: u6 :: u7 :: (.int .i64 k) :: u9 :: u10 :: u11 :: u12 :: u13 :: u14 :: u15 :: u16 :: u17 :: u18 :: u19 :: u20 :: u21 :: u22 :: u23 :: u24 :: u25 :: u26 :: u27 :: u28 :: u29 :: u30 :: u31 :: u32 :: u33 :: u34 :: u35 :: u36 :: u37 :: u38 :: u39 :: y40 :: y41 :: y42 :: y43 :: y44 :: y45 :: y46 :: y47 :: u48 :: u49 :: u50 :: u51 :: u52 :: u53 :: u54 :: []).toArray, []⟩ w') : Code.wp Try.prog (regionIn Try.f46 7) Q ⟨((.slice (some ⟨g, o, none⟩) l.length cap) :: (.int .i64 m) :: (.bool b) :: (.pointer (some ⟨O, 0, none⟩)) :: (.pointer (some ⟨O + 1, 0, none⟩)) :: u5 :: u6 :: u7 :: (.int .i64 k) :: u9 :: u10 :: u11 :: u12 :: u13 :: u14 :: u15 :: u16 :: u17 :: u18 :: u19 :: u20 :: u21 :: u22 :: u23 :: u24 :: u25 :: u26 :: u27 :: u28 :: u29 :: u30 :: u31 :: u32 :: u33 :: u34 :: u35 :: u36 :: u37 :: u38 :: u39 :: u40 :: u41 :: u42 :: u43 :: u44 :: u45 :: u46 :: u47 :: u48 :: u49 :: u50 :: u51 :: u52 :: u53 :: u54 :: []).toArray, []⟩ w := by
  have HX := Lib.hid h
  clear h
  conv => arg 2; whnf
  refine wp_region_noPanic ?_
  refine wp_region_any (by kernel_rfl) ?_
  refine takeL 7 1 (.slice (some ⟨g, o, none⟩) l.length cap) rfl (by kernel_rfl) (by kernel_rfl) (by kernel_rfl) (fun _ _ _ h => h) (yields_move rfl rfl rfl) ?_
  simp only [Act.put, List.setIfInBounds_toArray, List.set_cons_zero, List.set_cons_succ]
  refine takeL 6 2 (.int .i64 k) rfl (by kernel_rfl) (by kernel_rfl) (by kernel_rfl) (fun _ _ _ h => h) (yields_move rfl rfl rfl) ?_
  simp only [Act.put, List.setIfInBounds_toArray, List.set_cons_zero, List.set_cons_succ]
  refine takeL 5 3 (.slice (some ⟨g, o + k, none⟩) (l.length - k) (cap - k)) rfl (by kernel_rfl) (by kernel_rfl) (by kernel_rfl) (fun _ _ _ h => h) (yields_slice rfl rfl (slice_lo g o l.length cap k hk hcap)) ?_
  simp only [Act.put, List.setIfInBounds_toArray, List.set_cons_zero, List.set_cons_succ]
  refine takeL 4 4 (.int .i64 m) rfl (by kernel_rfl) (by kernel_rfl) (by kernel_rfl) (fun _ _ _ h => h) (yields_move rfl rfl rfl) ?_
  simp only [Act.put, List.setIfInBounds_toArray, List.set_cons_zero, List.set_cons_succ]
  refine takeL 3 5 (.int .i64 k) rfl (by kernel_rfl) (by kernel_rfl) (by kernel_rfl) (fun _ _ _ h => h) (yields_move rfl rfl rfl) ?_
  simp only [Act.put, List.setIfInBounds_toArray, List.set_cons_zero, List.set_cons_succ]
  refine takeL 2 6 (.int .i64 ((m - k : Nat) : Int)) rfl (by kernel_rfl) (by kernel_rfl) (by kernel_rfl) (fun _ _ _ h => h) (yields_sub m k hmk hm rfl rfl rfl rfl) ?_
  simp only [Act.put, List.setIfInBounds_toArray, List.set_cons_zero, List.set_cons_succ]
  refine wpAny_all (fuel := 1) (rs := [0]) (by kernel_rfl) (by simp) ?_
  intro i hi
  obtain rfl := List.mem_singleton.1 hi
  have LX := load_func_cell { w with drawn := w.drawn + 1 } O hF
  refine loadL rfl rfl 74 (.tmp 4) rfl ⟨O + 1, 0, none⟩ (growF O) rfl LX ?_
  simp only [Act.put, List.setIfInBounds_toArray, List.set_cons_zero, List.set_cons_succ]
  refine wpAny_all (fuel := 0) (rs := [7]) (by kernel_rfl) (by simp) ?_
  intro i hi
  obtain rfl := List.mem_singleton.1 hi
  refine callL rfl rfl ?_
  go_simp
  refine hC.mono ?_
  rintro e w1 ⟨rfl, hR⟩
  refine wpAny_done (by kernel_rfl) ?_ 0
  exact HX.out _ _ _ _ _ _ _ _ _ hR
set_option maxRecDepth 100000 in
set_option maxHeartbeats 1000000 in
theorem Grow_any (W0 : World) (O : Nat) (hW0 : W0.heap.size ≤ O) (N : Nat) : ∀ (l hs : List (List UInt8)) (m : Nat) (b : Bool) (v x : Value) (w : World), l.length ≤ N → 1 ≤ m → m ≤ l.length → Small l → SArg W0 v l → Below O W0 w → OutI w O x hs → Blk w (O + 1) #[growF O] 74 → O + 2 ≤ w.heap.size → hs.length + l.length ≤ 4398046511000 →
    Calls Try.prog 46 #[v, .int .i64 m, .bool b, .pointer (some ⟨O, 0, none⟩), .pointer (some ⟨O + 1, 0, none⟩)] w fun e w' => e = .returned (.tuple #[]) ∧ GrowP O w (hs ++ grow l m b) w' := by
  induction N with
  | zero => intro l hs m b v x w h0 h1 h2; omega
  | succ N ih =>
    intro l hs m b v x w h0 h1 h2 hS hA hW hI hF hO hn
    obtain ⟨a, cap, rfl, hc, hA⟩ := hA
    obtain ⟨g, o, rfl, hA2⟩ := hA (by rintro rfl; simp at h2; omega)
    have hsl := hS.len
    by_cases he : m = l.length
    · have hG := grow_end he b
      have e0 : ((m : Int) == (l.length : Int)) = true := by rw [beq_iff_eq]; omega
      cases b with
      | true =>
        rw [hG]
        clear hG ih hA hA2
        go_enter Try.func46, Try.ntmps46
        go_wp2_with fail
        refine bodyPost_ret (v := .tuple #[]) (results_none rfl _ _ _) rfl ?_
        exact ⟨rfl, ⟨x, by simpa using hI⟩, ⟨Below.refl _ _, rfl⟩⟩
      | false =>
        rw [hG]
        clear hG ih
        have hAw := hA2.below (hW.mono hW0)
        go_enter Try.func46, Try.ntmps46
        go_wp2_with fail
        refine gr2 _ _ _ _ _ _ _ _ _ _ _ _ _ _ _ _ _ _ _ _ _ _ _ _ _ _ _ _ _ _ _ _ _ _ _ _ _ _ _ _ _ _ _ _ _ _ _ _ _ _ _ _ _ O _ x l hs w hS ⟨_, cap, rfl, hc, fun _ => ⟨g, o, rfl, hAw⟩⟩ hI hO (by omega) _ ?_
        intro y15 y16 y17 y18 y19 x' w' hI' hb'
        go_wp2_with fail
        refine bodyPost_ret (v := .tuple #[]) (results_none rfl _ _ _) rfl ?_
        exact ⟨rfl, ⟨x', hI'⟩, hb'⟩
    · obtain ⟨k, hkk⟩ : ∃ k, half l.length = k := ⟨_, rfl⟩
      have hk := half_lt (n := l.length) (by omega)
      have hk0 := half_pos (n := l.length) (by omega)
      rw [hkk] at hk hk0
      have A1 := Lib.hid (fun w => half_any l.length (by omega) (by omega) w)
      rw [hkk] at A1
      have e0 : ((m : Int) == (l.length : Int)) = false := by rw [beq_eq_false_iff_ne]; omega
      by_cases hh : m ≤ k
      · have hG := grow_left (l := l) h1 (by omega) (by rw [hkk]; exact hh) b
        rw [hkk] at hG
        rw [hG]
        have hln := grow_len (l.take k).length (l.take k) m b (Nat.le_refl _) h1 (by simp; omega)
        have hlk : (l.take k).length = k := by simp; omega
        rw [hlk] at hln
        have hC := ih (l.take k) hs m b (.slice (some ⟨g, o, none⟩) k cap) x w.drew (by simp; omega) h1 (by simp; omega) (hS.take k) (SArg.of hlk (by omega) (hA2.take k)) hW.drew ⟨hI.blk, hI.own.below ((Below.refl _ _).drew), hI.all⟩ hF hO (by simp; omega)
        have HC := Lib.hid hC
        have Hln := Lib.hid hln
        have HA := Lib.hid hA2
        have HI := Lib.hid hI
        clear hG hC ih hln hlk hA hA2 hI
        have hd : ((m : Int) ≤ (k : Int)) := by omega
        go_enter Try.func46, Try.ntmps46
        go_wp2_with fail
        refine (A1.out _).mono ?_; rintro e w1 ⟨rfl, rfl⟩
        go_wp2_with fail
        refine gr5 _ _ _ _ _ _ _ _ _ _ _ _ _ _ _ _ _ _ _ _ _ _ _ _ _ _ _ _ _ _ _ _ _ _ _ _ _ _ _ _ _ _ _ _ _ _ _ _ _ O g o cap k m b l w _ hF hk0 hk hc HC.out _ ?_
        intro y26 y27 y28 y29 y30 y31 y32 w1 ⟨⟨x1, hI1⟩, hG1⟩
        have hb1 : Below O W0 w1 := hW.trans (Below.ofDrew hG1.b)
        have hO1 : O + 2 ≤ w1.heap.size := Nat.le_trans hO hG1.b.size
        go_wp2_with fail
        refine gr6 _ _ _ _ _ _ _ _ _ _ _ _ _ _ _ _ _ _ _ _ _ _ _ _ _ _ _ _ _ _ _ _ _ _ _ _ _ _ _ _ _ _ _ _ _ _ _ _ _ _ _ _ O g o cap k x1 l (hs ++ grow (l.take k) m b) w1 hS (HA.out.below (hb1.mono hW0)) hI1 hO1 (by rw [List.length_append]; have := Hln.out; omega) hk hc _ ?_
        intro y33 y34 y35 y36 y37 y38 y39 x2 w2 hI2 hG2
        go_wp2_with fail
        refine bodyPost_ret (v := .tuple #[]) (results_none rfl _ _ _) rfl ?_
        rw [← List.append_assoc]
        exact ⟨rfl, ⟨x2, hI2⟩, (GB.ofDrew hG1).trans hG2⟩
      · have hG := grow_right (l := l) h1 (by omega) (by rw [hkk]; exact hh) b
        rw [hkk] at hG
        rw [hG]
        have hln := grow_len (l.drop k).length (l.drop k) (m - k) false (Nat.le_refl _) (by omega) (by simp; omega)
        have hlk : (l.drop k).length = l.length - k := by simp
        rw [hlk] at hln
        have hC := ih (l.drop k) hs (m - k) false (.slice (some ⟨g, o + k, none⟩) (l.length - k) (cap - k)) x w.drew (by simp; omega) (by omega) (by simp; omega) (hS.drop k) (SArg.of hlk (by omega) (hA2.drop k)) hW.drew ⟨hI.blk, hI.own.below ((Below.refl _ _).drew), hI.all⟩ hF hO (by simp; omega)
        have HC := Lib.hid hC
        have Hln := Lib.hid hln
        have HA := Lib.hid hA2
        have HI := Lib.hid hI
        clear hG hC ih hln hlk hA hA2 hI
        have hd : ¬ ((m : Int) ≤ (k : Int)) := by omega
        go_enter Try.func46, Try.ntmps46
        go_wp2_with fail
        refine (A1.out _).mono ?_; rintro e w1 ⟨rfl, rfl⟩
        go_wp2_with fail
        refine gr7 _ _ _ _ _ _ _ _ _ _ _ _ _ _ _ _ _ _ _ _ _ _ _ _ _ _ _ _ _ _ _ _ _ _ _ _ _ _ _ _ _ _ _ _ _ _ _ _ _ O g o cap k m b l w _ hF (by omega) (by omega) hk hc HC.out _ ?_
        intro y40 y41 y42 y43 y44 y45 y46 y47 w1 ⟨⟨x1, hI1⟩, hG1⟩
        have hb1 : Below O W0 w1 := hW.trans (Below.ofDrew hG1.b)
        have hO1 : O + 2 ≤ w1.heap.size := Nat.le_trans hO hG1.b.size
        go_wp2_with fail
        refine gr8 _ _ _ _ _ _ _ _ _ _ _ _ _ _ _ _ _ _ _ _ _ _ _ _ _ _ _ _ _ _ _ _ _ _ _ _ _ _ _ _ _ _ _ _ _ _ _ _ _ _ _ _ O g o cap k x1 l (hs ++ grow (l.drop k) (m - k) false) w1 hS (HA.out.below (hb1.mono hW0)) hI1 hO1 (by rw [List.length_append]; have := Hln.out; omega) hk0 hk hc _ ?_
        intro y48 y49 y50 y51 y52 y53 y54 x2 w2 hI2 hG2
        go_wp2_with fail
        go_end0
        rw [← List.append_assoc]
        exact ⟨rfl, ⟨x2, hI2⟩, (GB.ofDrew hG1).trans hG2⟩
end Go.Proofs.Ytjekdeikoebmgaa

namespace Go.Proofs.Ytjekdeikoebmgaa
open Go.RowKit Go.Shelf Tr

theorem OwnV.mono {w : World} {base base' sz n : Nat} {v : Value} {cs : List Value} (h : OwnV w base sz v n cs) (hb : base' ≤ base) : OwnV w base' sz v n cs := by
  rcases h with h | ⟨g, cap, h1, h2, h3, h4⟩
  · exact .inl h
  · exact .inr ⟨g, cap, h1, h2, h3, { h4 with base := Nat.le_trans hb h4.base }⟩
set_option maxRecDepth 100000 in
set_option maxHeartbeats 1000000 in
theorem Growth_no (l : List (List UInt8)) (n : Int) (v : Value) (w : World) (hS : Small l) (hA : SArg w v l) (h : n < 0 ∨ (l.length : Int) < n) :
    Calls Try.prog 31 #[v, .int .i64 n] w fun e w' => e = .returned (.tuple #[.slice none 0 0, .bool false]) ∧ w = w' := by
  obtain ⟨a, cap, rfl, hc, _⟩ := hA
  have hl := hS.len
  by_cases h0 : n < 0
  · have t : decide (n < 0) = true := decide_eq_true h0
    go_enter Try.func31, Try.ntmps31
    go_wp2_with fail
    exact bodyPost_ret (results_tmp2 rfl _ _ _) rfl ⟨rfl, rfl⟩
  · have t : decide (n < 0) = false := decide_eq_false h0
    have h1 : (l.length : Int) < n := by omega
    have t2 : decide (n > (l.length : Int)) = true := decide_eq_true h1
    go_enter Try.func31, Try.ntmps31
    go_wp2_with fail
    exact bodyPost_ret (results_tmp2 rfl _ _ _) rfl ⟨rfl, rfl⟩

set_option maxRecDepth 100000 in
set_option maxHeartbeats 1000000 in
theorem Growth_end (l : List (List UInt8)) (n : Nat) (v : Value) (w : World) (hS : Small l) (hA : SArg w v l) (h : n = 0 ∨ l.length = n) :
    Calls Try.prog 31 #[v, .int .i64 n] w fun e w' => e = .returned (.tuple #[.slice none 0 0, .bool true]) ∧ w = w' := by
  obtain ⟨a, cap, rfl, hc, _⟩ := hA
  have hl := hS.len
  have t1 : decide ((n : Int) < 0) = false := decide_eq_false (by omega)
  have t2 : decide ((n : Int) > (l.length : Int)) = false := decide_eq_false (by omega)
  have t2' : ¬ ((l.length : Int) < (n : Int)) := by omega
  by_cases h0 : n = 0
  · have t : ((n : Int) == 0) = true := by rw [beq_iff_eq]; omega
    clear h h0
    go_enter Try.func31, Try.ntmps31
    go_wp2_with fail
    exact bodyPost_ret (results_tmp2 rfl _ _ _) rfl ⟨rfl, rfl⟩
  · have t : ((n : Int) == 0) = false := by rw [beq_eq_false_iff_ne]; omega
    have t3 : ((n : Int) == (l.length : Int)) = true := by rw [beq_iff_eq]; omega
    clear h
    go_enter Try.func31, Try.ntmps31
    go_wp2_with fail
    exact bodyPost_ret (results_tmp2 rfl _ _ _) rfl ⟨rfl, rfl⟩

set_option maxRecDepth 100000 in
set_option maxHeartbeats 1000000 in
theorem Growth_mid (l : List (List UInt8)) (n : Nat) (v : Value) (w : World) (hS : Small l) (hA : SArg w v l) (h0 : 1 ≤ n) (h1 : n < l.length) :
    Calls Try.prog 31 #[v, .int .i64 n] w (PathPost w (grow l n true)) := by
  have hl := hS.len
  have C := Lib.hid (fun x w1 (hb : Below w.heap.size w w1) hI hF hO => Grow_any w w.heap.size (Nat.le_refl _) l.length l [] n true v x w1 (Nat.le_refl _) h0 (by omega) hS hA hb hI hF hO (by simp; omega))
  obtain ⟨a, cap, rfl, hc, _⟩ := hA
  have t1 : decide ((n : Int) < 0) = false := decide_eq_false (by omega)
  have t2 : decide ((n : Int) > (l.length : Int)) = false := decide_eq_false (by omega)
  have t2' : ¬ ((l.length : Int) < (n : Int)) := by omega
  have t : ((n : Int) == 0) = false := by rw [beq_eq_false_iff_ne]; omega
  have t3 : ((n : Int) == (l.length : Int)) = false := by rw [beq_eq_false_iff_ne]; omega
  have H := Lib.hid (C.out _ _ (((Below.refl w.heap.size w).alloc (Nat.le_refl _) (.cells #[.slice none 0 0] 32)).alloc (by simp) (.cells #[growF w.heap.size] 74)) ⟨(Blk.new w #[.slice none 0 0] 32).alloc _, OwnV.nil _ _ _, All32.nil⟩ (by
    have := Blk.new (w.alloc (.cells #[.slice none 0 0] 32)) #[growF w.heap.size] 74
    simpa using this) (by simp))
  have hb0 : Below w.heap.size w ((w.alloc (.cells #[.slice none 0 0] 32)).alloc (.cells #[growF w.heap.size] 74)) := ((Below.refl w.heap.size w).alloc (Nat.le_refl _) _).alloc (by simp) _
  clear C
  go_enter Try.func31, Try.ntmps31
  go_wp2_with fail
  refine (H.out).mono ?_
  rintro e w1 ⟨rfl, ⟨x, hI⟩, hG⟩
  have c := hI.blk.cell 0 x rfl
  have hO := hI.own
  have hb1 := hb0.trans hG.b
  clear hI hG H hb0
  go_wp2_with fail
  refine bodyPost_ret (results_tmp2 rfl _ _ _) rfl ?_
  exact ⟨x, rfl, hO.mono (by omega), hb1⟩
end Go.Proofs.Ytjekdeikoebmgaa

namespace Go.Proofs.Ytjekdeikoebmgaa
open Go.RowKit Go.Shelf Tr

theorem Calls.chain {P : Program} {f : FuncId} {args : Array Value} {B : Nat} {w w1 : World} {v : Value} (hB : Below B w w1) (hs : B ≤ w1.heap.size)
    (h : Calls P f args w1 fun e w' => e = .returned v ∧ Below w1.heap.size w1 w') : Calls P f args w1 fun e w' => e = .returned v ∧ Below B w w' ∧ Below w1.heap.size w1 w' :=
  h.mono fun _ _ ⟨he, hb⟩ => ⟨he, hB.trans (hb.mono hs), hb⟩
theorem wpList_load_hash {ops : Array Oper} {rest : List Oper} {o : Oper} {a : Act} {w : World} {Q : Exit → Act → World → Prop} (hw : Region.wanted o (yielded ops a.tmps) = true) (x : Operand) (ho : o.op = .load 24 x)
    (g : Nat) (hx : a.eval x = .pointer (some ⟨g, 0, none⟩)) (y : List UInt8) (hy : y.length = 32) (N : Blk w g (hrow y) 24) (h : wpList Try.prog ops Q rest (a.put o.dst (.agg (hrow y))) w) : wpList Try.prog ops Q (o :: rest) a w :=
  wpList_load_row_g hw 24 x ho g hx 24 _ _ _ N Try.underlying24 rfl (hinfo' y hy) h
theorem wpList_store_hash {ops : Array Oper} {rest : List Oper} {o : Oper} {a : Act} {w : World} {Q : Exit → Act → World → Prop} (hgd : o.guard = none) (x y : Operand) (ho : o.op = .store 24 x y)
    (g : Nat) (u : List UInt8) (hu : u.length = 32) (hx : a.eval x = .pointer (some ⟨g, 0, none⟩)) (hy : a.eval y = .agg (hrow u)) (old : Array Value) (N : Blk w g old 24) (hold : old.size = 32) (h : wpList Try.prog ops Q rest (a.put o.dst undef) (w.setRow g (hrow u))) : wpList Try.prog ops Q (o :: rest) a w :=
  wpList_store_row hgd 24 x y ho g (hrow u) hx hy 24 old N (hinfo' u hu) (by rw [hold, hrow_size hu]) (bytes_all u) h
theorem wpList_alloc_hash {ops : Array Oper} {rest : List Oper} {o : Oper} {a : Act} {w : World} {Q : Exit → Act → World → Prop} (hgd : o.guard = none) (ho : o.op = .alloc 24)
    (h : wpList Try.prog ops Q rest (a.put o.dst (.pointer (some ⟨w.heap.size, 0, none⟩))) (w.alloc (.cells hz 24))) : wpList Try.prog ops Q (o :: rest) a w :=
  wpList_alloc_row hgd 24 ho hz zeroHash h
theorem hz_len : hz.size = 32 := by kernel_rfl
theorem hz_row : hz = hrow (List.replicate 32 0) := by unfold hrow hz; rfl
theorem hz_len2 : (List.replicate 32 (0 : UInt8)).length = 32 := rfl
theorem wpList_zero_hash {ops : Array Oper} {rest : List Oper} {o : Oper} {a : Act} {w : World} {Q : Exit → Act → World → Prop} (hgd : o.guard = none) (ho : o.op = .build 24 #[])
    (h : wpList Try.prog ops Q rest (a.put o.dst (.agg hz)) w) : wpList Try.prog ops Q (o :: rest) a w :=
  wpList_build hgd 24 #[] ho (by kernel_rfl) (by rw [show ((Try.prog.built 24 ((#[] : Array (Nat × Operand)).map fun (i, x) => (i, a.eval x)).toList).getD #[]) = hz by kernel_rfl]; exact h)
/-- A variable of a hash that is made and stored at once. -/
theorem Blk.fresh (w : World) (R : Array Value) : (w.alloc (.cells hz 24)).setRow w.heap.size R = w.alloc (.cells R 24) := World.setRow_alloc_new ..
theorem After.hash {w : World} {g : Nat} {y : List UInt8} (h : Blk w g (hrow y) 24) (hy : y.length = 32) : ∀ x : After w, (loadVar 24 ⟨g, 0, none⟩).run Try.prog x.W = .ok (.agg (hrow y)) x.W := fun x =>
  run_loadVar_row x.W g _ _ (hrow y) (0, 0) _ (h.below x.hb h.lt) Try.underlying24 rfl (hinfo' y hy)
/-- A slice literal of hashes. -/
theorem run_buildH (hs : List (List UInt8)) (n : Nat) (hn : hs.length = n) (h0 : 1 ≤ n) (h1 : n ≤ 1000) (ha : All32 hs) (parts : Array (Nat × Value)) (hp : parts.toList = (hs.zipIdx 0).map fun p => (p.2, Value.agg (hrow p.1))) (w : World) :
    (Instr.buildSlice 32 n parts).run Try.prog w = .ok (.slice (some ⟨w.heap.size, 0, none⟩) n n) (w.alloc (.cells (hcells hs).toArray 24)) := by
  obtain ⟨i0, hi, hz0, hz1, _⟩ := info_parts infoHash
  have h := run_buildRows w 32 24 n 32 (hs.map hrow) i0 _ Try.underlying32 hi hz0 hz1 (by rw [List.length_map, hn]) (fun R hR => by
    obtain ⟨x, hx, rfl⟩ := List.mem_map.1 hR
    exact hrow_size (ha x hx)) (by omega) (by omega) parts (by
    rw [hp, List.zipIdx_map, List.map_map]; rfl)
  have e : ((hs.map hrow).flatMap (·.toList)) = hcells hs := by
    unfold hcells
    rw [List.flatMap_map]; rfl
  rw [e] at h
  exact h
theorem HArg.built (w : World) (hs : List (List UInt8)) (n : Nat) (hn : hs.length = n) : HArg (w.alloc (.cells (hcells hs).toArray 24)) (.slice (some ⟨w.heap.size, 0, none⟩) n n) hs := by
  refine HArg.of hn (Nat.le_refl _) fun j v hv => ?_
  rw [Nat.zero_add]
  exact (Blk.new w (hcells hs).toArray 24).cell j v (by simpa using hv)
theorem wpList_build_runG {P : Program} {ops : Array Oper} {rest : List Oper} {o : Oper} {a : Act} {w : World} {Q : Exit → Act → World → Prop} (hw : Region.wanted o (yielded ops a.tmps) = true) (t : TypeId) (len : Nat) (parts : Array (Nat × Operand)) (ho : o.op = .buildSlice t len parts)
    (vals : Array (Nat × Value)) (hp : (parts.toList.map fun (p : Nat × Operand) => (p.1, a.eval p.2)) = vals.toList) (v : Value) (w' : World) (hr : (Instr.buildSlice t len vals).run P w = .ok v w') (h : wpList P ops Q rest (a.put o.dst v) w') : wpList P ops Q (o :: rest) a w := by
  have hp2 : (parts.map fun (i, x) => (i, a.eval x)) = vals := by
    apply Array.toList_inj.1
    rw [Array.toList_map]; exact hp
  refine wpList_wanted hw fun K hK => ?_
  unfold Oper.wp execOp
  simp only [ho, hp2, hr, Sem.run_bind, Result.andThen_ok]
  exact hK _ _ h
theorem Same_built (hs : List (List UInt8)) (n : Nat) (hn : hs.length = n) (h1 : n ≤ 1000) (ha : All32 hs) (v : Value) (w : World) (hv : HArg w v hs) :
    Calls Try.prog 23 #[v, .slice (some ⟨w.heap.size, 0, none⟩) n n] (w.alloc (.cells (hcells hs).toArray 24)) fun e w' => e = .returned (.bool true) ∧ Below w.heap.size w w' := by
  have hb : Below w.heap.size w (w.alloc (.cells (hcells hs).toArray 24)) := (Below.refl _ _).alloc (Nat.le_refl _) _
  refine (Same_any hs hs ha ha v _ _ (hv.below hb) (HArg.built w hs n hn) (by omega) (by omega)).mono ?_
  rintro e w' ⟨rfl, h⟩
  exact ⟨by simp, hb.trans (h.mono hb.size)⟩
/-- Growth, whatever the number. -/
theorem Growth_yes (l : List (List UInt8)) (n : Nat) (v : Value) (w : World) (hS : Small l) (hA : SArg w v l) (h : n ≤ l.length) :
    Calls Try.prog 31 #[v, .int .i64 n] w (PathPost w (growth l n).1) := by
  unfold growth
  rw [if_neg (by omega)]
  by_cases h0 : n = 0 ∨ l.length = n
  · rw [if_pos (by omega)]
    refine (Growth_end l n v w hS hA h0).mono ?_
    rintro e w' ⟨rfl, rfl⟩
    exact ⟨_, rfl, OwnV.nil _ _ _, Below.refl _ _⟩
  · rw [if_neg (by omega)]
    exact Growth_mid l n v w hS hA (by omega) (by omega)
end Go.Proofs.Ytjekdeikoebmgaa

namespace Go.Proofs.Ytjekdeikoebmgaa
open Go.RowKit Go.Shelf Tr

/-- append of one element of one cell: the slice that it comes in is new. -/
theorem run_append_one {P : Program} (w : World) (base n : Nat) (t e : TypeId) (i : TypeInfo) (z v u : Value) (cs : List Value) (hu : P.underlying t = some (.slice e)) (hi : P.info? e = some i) (hz : i.zero = some z) (hsz : i.size = 1) (hzs : z.cells.size = 1) (hby : i.bytes ≤ 16)
    (h : OwnV w base 1 v n cs) (hb : base ≤ w.heap.size) (h1 : u.oneCell' = true) (hn : n ≤ 4398046511100) :
    ∃ v' w', (Builtin.append_ #[t, t] t #[v, .slice (some ⟨w.heap.size, 0, none⟩) 1 1]).run P (w.alloc (.cells #[u] e)) = .ok v' w' ∧ OwnV w' base 1 v' (n + 1) (cs ++ [u]) ∧ w.grownBy w' (blkOf v) ∧ (blkOf v' = blkOf v ∨ ∃ g, blkOf v' = some g ∧ w.heap.size ≤ g) := by
  have hN := Blk.new w #[u] e
  have h2 : OwnV (w.alloc (.cells #[u] e)) base 1 v n cs := h.below ((Below.refl w.heap.size w).alloc (Nat.le_refl _) _)
  have hsrc : Src P i.size t (.slice (some ⟨w.heap.size, 0, none⟩) 1 1) 1 [u] (w.alloc (.cells #[u] e)) :=
    Src.ofSlice (w.alloc (.cells #[u] e)) hu ⟨w.heap.size, 0, none⟩ 1 1 [u] (by rw [hsz]; rfl) (fun j x hx => by
      rw [Addr.add_lit, Nat.zero_add]
      exact hN.cell j x (by simpa using hx)) (by intro x hx; rw [List.mem_singleton.1 hx]; exact h1)
  have hbt : (n + 1) * i.bytes ≤ (n + 1) * 16 := Nat.mul_le_mul_left _ hby
  obtain ⟨v', w', r1, r2, r3, r4⟩ := run_append_own (w.alloc (.cells #[u] e)) t t t e i z 1 base n 1 v _ cs [u] hu hi hz hsz hzs h2 (by simp; omega) hsrc (Nat.le_refl _) rfl (by omega) (by omega)
  refine ⟨v', w', r1, r2, ?_, ?_⟩
  · exact ⟨r3.os, r3.tape, r3.output, Nat.le_trans (by simp) r3.size, fun i hi hne => (r3.block i (by simp; omega) hne).trans (Below.heap_alloc w _ i hi)⟩
  · rcases r4 with r4 | ⟨g, r4, r5⟩
    · exact .inl r4
    · exact .inr ⟨g, r4, by simp at r5; omega⟩
/-- Strings of the call's own. -/
abbrev OwnS (w : World) (base : Nat) (v : Value) (l : List (List UInt8)) : Prop := OwnV w base 1 v l.length (l.map S)
theorem OwnV.sarg {w : World} {base : Nat} {v : Value} {l : List (List UInt8)} (h : OwnS w base v l) : SArg w v l := by
  rcases h with ⟨rfl, h1, _⟩ | ⟨g, cap, rfl, h1, h2, h3⟩
  · obtain rfl : l = [] := List.length_eq_zero_iff.1 h1
    exact SArg.nil w
  · refine SArg.of rfl h2 fun i s hs => ?_
    exact h3.cells i (S s) (by rw [List.getElem?_map, hs]; rfl)
theorem infoStr : (Try.prog.info? 9).map (fun i => (i.zero, i.size, i.bytes)) = some (some (.string ⟨#[]⟩), 1, 16) := by kernel_rfl
theorem run_append_str (w : World) (base : Nat) (v : Value) (l : List (List UInt8)) (h : OwnS w base v l) (hb : base ≤ w.heap.size) (s : List UInt8) (hn : l.length ≤ 4398046511100) :
    ∃ v' w', (Builtin.append_ #[22, 22] 22 #[v, .slice (some ⟨w.heap.size, 0, none⟩) 1 1]).run Try.prog (w.alloc (.cells #[S s] 9)) = .ok v' w' ∧ OwnS w' base v' (l ++ [s]) ∧ w.grownBy w' (blkOf v) ∧ (blkOf v' = blkOf v ∨ ∃ g, blkOf v' = some g ∧ w.heap.size ≤ g) := by
  obtain ⟨i0, hi, hz0, hz1, hz2⟩ := info_parts infoStr
  obtain ⟨v', w', r1, r2, r3, r4⟩ := run_append_one w base l.length 22 9 i0 _ v (S s) _ Try.underlying22 hi hz0 hz1 rfl (by rw [hz2]; exact Nat.le_refl _) h hb rfl hn
  refine ⟨v', w', r1, ?_, r3, r4⟩
  unfold OwnS
  rw [List.length_append, List.map_append]
  exact r2
end Go.Proofs.Ytjekdeikoebmgaa
