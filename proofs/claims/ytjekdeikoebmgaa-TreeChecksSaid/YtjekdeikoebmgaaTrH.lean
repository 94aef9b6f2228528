/- The contracts of Growth and of its closure. Conditions: sizes. -/
import Derived.Test.YtjekdeikoebmgaaTrG
import Derived.IntWalk
namespace Go.Proofs.Ytjekdeikoebmgaa
open Go.RowKit Go.Shelf Tr

theorem grow_len (N : Nat) : ∀ (l : List (List UInt8)) (m : Nat) (b : Bool), l.length ≤ N → 1 ≤ m → m ≤ l.length → (grow l m b).length ≤ l.length := by
  induction N with
  | zero => intro l m b h0 h1 h2; omega
  | succ N ih =>
    intro l m b h0 h1 h2
    by_cases he : m = l.length
    · rw [grow_end he]
      split
      · simp
      · simp; omega
    have hk := half_lt (n := l.length) (by omega)
    have hk0 := half_pos (n := l.length) (by omega)
    by_cases hh : m ≤ half l.length
    · rw [grow_left h1 (by omega) hh]
      have := ih (l.take (half l.length)) m b (by simp; omega) h1 (by simp; omega)
      simp at this ⊢
      omega
    · rw [grow_right h1 (by omega) hh]
      have := ih (l.drop (half l.length)) (m - half l.length) false (by simp; omega) (by omega) (by simp; omega)
      simp at this ⊢
      omega
theorem yields_sub {P : Program} {ops : Array Oper} {o : Oper} {a : Act} {x y : Operand} (m k : Nat) (hmk : k ≤ m) (hm : m ≤ 4398046511000) (hop : o.op = .binOp .sub 3 x y 3) (hg : o.guard = none) (hx : a.eval x = .int .i64 m) (hy : a.eval y = .int .i64 k) : Yields P ops o (.int .i64 ((m - k : Nat) : Int)) a :=
  .inl ⟨by simp [Region.wanted, hg], fun w => by
    have e : ((m - k : Nat) : Int) = (m : Int) - (k : Int) := by omega
    unfold execOp
    simp only [hop, hx, hy, e]
    go_simp
    exact IntWalk.i64_in _ (by omega)⟩
/-- The closure that Growth makes, its variables at blocks O and O + 1. -/
abbrev growF (O : Nat) : Value := .func (.func 46) #[] #[.pointer (some ⟨O, 0, none⟩), .pointer (some ⟨O + 1, 0, none⟩)]
/-- The variable out holds these hashes behind the call. -/
def GrowP (O : Nat) (w : World) (hs : List (List UInt8)) (w' : World) : Prop := (∃ x, OutI w' O x hs) ∧ GB O w w'
theorem GB.ofDrew {O : Nat} {a b : World} (h : GB O a.drew b) : GB O a b := ⟨Below.ofDrew h.b, h.f⟩
theorem load_func_cell (w : World) (O : Nat) (h : Blk w (O + 1) #[growF O] 74) : (loadVar 74 ⟨O + 1, 0, none⟩).run Try.prog w = .ok (growF O) w := by
  have c := h.cell 0 _ rfl
  go_simp
set_option maxRecDepth 100000 in
set_option maxHeartbeats 1000000 in
theorem gr5 (u5 u6 u7 u9 u10 u11 u12 u13 u14 u15 u16 u17 u18 u19 u20 u21 u22 u23 u24 u25 u26 u27 u28 u29 u30 u31 u32 u33 u34 u35 u36 u37 u38 u39 u40 u41 u42 u43 u44 u45 u46 u47 u48 u49 u50 u51 u52 u53 u54 : Value) (O g o cap k m : Nat) (b : Bool) (l : List (List UInt8)) (w : World) (R : World → Prop) (hF : Blk w (O + 1) #[growF O] 74) (hk0 : 0 < k) (hk : k < l.length) (hcap : l.length ≤ cap)
    (hC : Calls Try.prog 46 #[.slice (some ⟨g, o, none⟩) k cap, .int .i64 m, .bool b, .pointer (some ⟨O, 0, none⟩), .pointer (some ⟨O + 1, 0, none⟩)] w.drew fun e w' => e = .returned (.tuple #[]) ∧ R w') (Q : Exit → Act → World → Prop)
    (h : ∀ (y26 y27 y28 y29 y30 y31 y32 : Value) (w' : World), R w' → Q .normal ⟨((.slice (some ⟨g, o, none⟩) l.length cap) :: (.int .i64 m) :: (.bool b) :: (.pointer (some ⟨O, 0, none⟩)) :: (.pointer (some ⟨O + 1, 0, none⟩)) :: u5 :: u6 :: u7 :: (.int .i64 k) :: u9 :: u10 :: u11 :: u12 :: u13 :: u14 :: u15 :: u16 :: u17 :: u18 :: u19 :: u20 :: u21 :: u22 :: u23 :: u24 :: u25 :: y26 :: y27 :: y28 :: y29 :: y30 :: y31 :: y32 :: u33 :: u34 :: u35 :: u36 :: u37 :: u38 :: u39 :: u40 :: u41 :: u42 :: u43 :: u44 :: u45 :: u46 :: u47 :: u48 :: u49 :: u50 :: u51 :: u52 :: u53 :: u54 :: []).toArray, []⟩ w') : Code.wp Try.prog (regionIn Try.f46 5) Q ⟨((.slice (some ⟨g, o, none⟩) l.length cap) :: (.int .i64 m) :: (.bool b) :: (.pointer (some ⟨O, 0, none⟩)) :: (.pointer (some ⟨O + 1, 0, none⟩)) :: u5 :: u6 :: u7 :: (.int .i64 k) :: u9 :: u10 :: u11 :: u12 :: u13 :: u14 :: u15 :: u16 :: u17 :: u18 :: u19 :: u20 :: u21 :: u22 :: u23 :: u24 :: u25 :: u26 :: u27 :: u28 :: u29 :: u30 :: u31 :: u32 :: u33 :: u34 :: u35 :: u36 :: u37 :: u38 :: u39 :: u40 :: u41 :: u42 :: u43 :: u44 :: u45 :: u46 :: u47 :: u48 :: u49 :: u50 :: u51 :: u52 :: u53 :: u54 :: []).toArray, []⟩ w := by
  have HX := Lib.hid h
  clear h
  conv => arg 2; whnf
  refine wp_region_noPanic ?_
  refine wp_region_any (by kernel_rfl) ?_
  refine takeL 6 1 (.slice (some ⟨g, o, none⟩) l.length cap) rfl (by kernel_rfl) (by kernel_rfl) (by kernel_rfl) (fun _ _ _ h => h) (yields_move rfl rfl rfl) ?_
  simp only [Act.put, List.setIfInBounds_toArray, List.set_cons_zero, List.set_cons_succ]
  refine takeL 5 2 (.int .i64 k) rfl (by kernel_rfl) (by kernel_rfl) (by kernel_rfl) (fun _ _ _ h => h) (yields_move rfl rfl rfl) ?_
  simp only [Act.put, List.setIfInBounds_toArray, List.set_cons_zero, List.set_cons_succ]
  refine takeL 4 3 (.slice (some ⟨g, o, none⟩) k cap) rfl (by kernel_rfl) (by kernel_rfl) (by kernel_rfl) (fun _ _ _ h => h) (yields_slice rfl rfl (slice_hi g o l.length cap k hk0 hk hcap)) ?_
  simp only [Act.put, List.setIfInBounds_toArray, List.set_cons_zero, List.set_cons_succ]
  refine takeL 3 4 (.int .i64 m) rfl (by kernel_rfl) (by kernel_rfl) (by kernel_rfl) (fun _ _ _ h => h) (yields_move rfl rfl rfl) ?_
  simp only [Act.put, List.setIfInBounds_toArray, List.set_cons_zero, List.set_cons_succ]
  refine takeL 2 5 (.bool b) rfl (by kernel_rfl) (by kernel_rfl) (by kernel_rfl) (fun _ _ _ h => h) (yields_move rfl rfl rfl) ?_
  simp only [Act.put, List.setIfInBounds_toArray, List.set_cons_zero, List.set_cons_succ]
  refine wpAny_all (fuel := 1) (rs := [0]) (by kernel_rfl) (by simp) ?_
  intro i hi
  obtain rfl := List.mem_singleton.1 hi
  have LX := load_func_cell { w with drawn := w.drawn + 1 } O hF
  refine loadL rfl rfl 74 (.tmp 4) rfl ⟨O + 1, 0, none⟩ (growF O) rfl LX ?_
  simp only [Act.put, List.setIfInBounds_toArray, List.set_cons_zero, List.set_cons_succ]
  refine wpAny_all (fuel := 0) (rs := [6]) (by kernel_rfl) (by simp) ?_
  intro i hi
  obtain rfl := List.mem_singleton.1 hi
  refine callL rfl rfl ?_
  go_simp
  refine hC.mono ?_
  rintro e w1 ⟨rfl, hR⟩
  refine wpAny_done (by kernel_rfl) ?_ 0
  exact HX.out _ _ _ _ _ _ _ _ hR
set_option maxRecDepth 100000 in
set_option maxHeartbeats 1000000 in
theorem gr7 (u5 u6 u7 u9 u10 u11 u12 u13 u14 u15 u16 u17 u18 u19 u20 u21 u22 u23 u24 u25 u26 u27 u28 u29 u30 u31 u32 u33 u34 u35 u36 u37 u38 u39 u40 u41 u42 u43 u44 u45 u46 u47 u48 u49 u50 u51 u52 u53 u54 : Value) (O g o cap k m : Nat) (b : Bool) (l : List (List UInt8)) (w : World) (R : World → Prop) (hF : Blk w (O + 1) #[growF O] 74) (hmk : k ≤ m) (hm : m ≤ 4398046511000) (hk : k < l.length) (hcap : l.length ≤ cap)
    (hC : Calls Try.prog 46 #[.slice (some ⟨g, o + k, none⟩) (l.length - k) (cap - k), .int .i64 ((m - k : Nat) : Int), .bool false, .pointer (some ⟨O, 0, none⟩), .pointer (some ⟨O + 1, 0, none⟩)] w.drew fun e w' => e = .returned (.tuple #[]) ∧ R w') (Q : Exit → Act → World → Prop)
    (h : ∀ (y40 y41 y42 y43 y44 y45 y46 y47 : Value) (w' : World), R w' → Q .normal ⟨((.slice (some ⟨g, o, none⟩) l.length cap) :: (.int .i64 m) :: (.bool b) :: (.pointer (some ⟨O, 0, none⟩)) :: (.pointer (some ⟨O + 1, 0, none⟩)) :: u5 :: u6 :: u7 :: (.int .i64 k) :: u9 :: u10 :: u11 :: u12 :: u13 :: u14 :: u15 :: u16 :: u17 :: u18 :: u19 :: u20 :: u21 :: u22 :: u23 :: u24 :: u25 :: u26 :: u27 :: u28 :: u29 :: u30 :: u31 :: u32 :: u33 :: u34 :: u35 :: u36 :: u37 :: u38 :: u39 :: y40 :: y41 :: y42 :: y43 :: y44 :: y45 :: y46 :: y47 :: u48 :: u49 :: u50 :: u51 :: u52 :: u53 :: u54 :: []).toArray, []⟩ w') : Code.wp Try.prog (regionIn Try.f46 7) Q ⟨((.slice (some ⟨g, o, none⟩) l.length cap) :: (.int .i64 m) :: (.bool b) :: (.pointer (some ⟨O, 0, none⟩)) :: (.pointer (some ⟨O + 1, 0, none⟩)) :: u5 :: u6 :: u7 :: (.int .i64 k) :: u9 :: u10 :: u11 :: u12 :: u13 :: u14 :: u15 :: u16 :: u17 :: u18 :: u19 :: u20 :: u21 :: u22 :: u23 :: u24 :: u25 :: u26 :: u27 :: u28 :: u29 :: u30 :: u31 :: u32 :: u33 :: u34 :: u35 :: u36 :: u37 :: u38 :: u39 :: u40 :: u41 :: u42 :: u43 :: u44 :: u45 :: u46 :: u47 :: u48 :: u49 :: u50 :: u51 :: u52 :: u53 :: u54 :: []).toArray, []⟩ w := by
  have HX := Lib.hid h
  clear h
  conv => arg 2; whnf
  refine wp_region_noPanic ?_
  refine wp_region_any (by kernel_rfl) ?_
  refine takeL 7 1 (.slice (some ⟨g, o, none⟩) l.length cap) rfl (by kernel_rfl) (by kernel_rfl) (by kernel_rfl) (fun _ _ _ h => h) (yields_move rfl rfl rfl) ?_
  simp only [Act.put, List.setIfInBounds_toArray, List.set_cons_zero, List.set_cons_succ]
  refine takeL 6 2 (.int .i64 k) rfl (by kernel_rfl) (by kernel_rfl) (by kernel_rfl) (fun _ _ _ h => h) (yields_move rfl rfl rfl) ?_
  simp only [Act.put, List.setIfInBounds_toArray, List.set_cons_zero, List.set_cons_succ]
  refine takeL 5 3 (.slice (some ⟨g, o + k, none⟩) (l.length - k) (cap - k)) rfl (by kernel_rfl) (by kernel_rfl) (by kernel_rfl) (fun _ _ _ h => h) (yields_slice rfl rfl (slice_lo g o l.length cap k hk hcap)) ?_
  simp only [Act.put, List.setIfInBounds_toArray, List.set_cons_zero, List.set_cons_succ]
  refine takeL 4 4 (.int .i64 m) rfl (by kernel_rfl) (by kernel_rfl) (by kernel_rfl) (fun _ _ _ h => h) (yields_move rfl rfl rfl) ?_
  simp only [Act.put, List.setIfInBounds_toArray, List.set_cons_zero, List.set_cons_succ]
  refine takeL 3 5 (.int .i64 k) rfl (by kernel_rfl) (by kernel_rfl) (by kernel_rfl) (fun _ _ _ h => h) (yields_move rfl rfl rfl) ?_
  simp only [Act.put, List.setIfInBounds_toArray, List.set_cons_zero, List.set_cons_succ]
  refine takeL 2 6 (.int .i64 ((m - k : Nat) : Int)) rfl (by kernel_rfl) (by kernel_rfl) (by kernel_rfl) (fun _ _ _ h => h) (yields_sub m k hmk hm rfl rfl rfl rfl) ?_
  simp only [Act.put, List.setIfInBounds_toArray, List.set_cons_zero, List.set_cons_succ]
  refine wpAny_all (fuel := 1) (rs := [0]) (by kernel_rfl) (by simp) ?_
  intro i hi
  obtain rfl := List.mem_singleton.1 hi
  have LX := load_func_cell { w with drawn := w.drawn + 1 } O hF
  refine loadL rfl rfl 74 (.tmp 4) rfl ⟨O + 1, 0, none⟩ (growF O) rfl LX ?_
  simp only [Act.put, List.setIfInBounds_toArray, List.set_cons_zero, List.set_cons_succ]
  refine wpAny_all (fuel := 0) (rs := [7]) (by kernel_rfl) (by simp) ?_
  intro i hi
  obtain rfl := List.mem_singleton.1 hi
  refine callL rfl rfl ?_
  go_simp
  refine hC.mono ?_
  rintro e w1 ⟨rfl, hR⟩
  refine wpAny_done (by kernel_rfl) ?_ 0
  exact HX.out _ _ _ _ _ _ _ _ _ hR
set_option maxRecDepth 100000 in
set_option maxHeartbeats 1000000 in
theorem Grow_any (W0 : World) (O : Nat) (hW0 : W0.heap.size ≤ O) (N : Nat) : ∀ (l hs : List (List UInt8)) (m : Nat) (b : Bool) (v x : Value) (w : World), l.length ≤ N → 1 ≤ m → m ≤ l.length → Small l → SArg W0 v l → Below O W0 w → OutI w O x hs → Blk w (O + 1) #[growF O] 74 → O + 2 ≤ w.heap.size → hs.length + l.length ≤ 4398046511000 →
    Calls Try.prog 46 #[v, .int .i64 m, .bool b, .pointer (some ⟨O, 0, none⟩), .pointer (some ⟨O + 1, 0, none⟩)] w fun e w' => e = .returned (.tuple #[]) ∧ GrowP O w (hs ++ grow l m b) w' := by
  induction N with
  | zero => intro l hs m b v x w h0 h1 h2; omega
  | succ N ih =>
    intro l hs m b v x w h0 h1 h2 hS hA hW hI hF hO hn
    obtain ⟨a, cap, rfl, hc, hA⟩ := hA
    obtain ⟨g, o, rfl, hA2⟩ := hA (by rintro rfl; simp at h2; omega)
    have hsl := hS.len
    by_cases he : m = l.length
    · have hG := grow_end he b
      have e0 : ((m : Int) == (l.length : Int)) = true := by rw [beq_iff_eq]; omega
      cases b with
      | true =>
        rw [hG]
        clear hG ih hA hA2
        go_enter Try.func46, Try.ntmps46
        go_wp2_with fail
        refine bodyPost_ret (v := .tuple #[]) (results_none rfl _ _ _) rfl ?_
        exact ⟨rfl, ⟨x, by simpa using hI⟩, ⟨Below.refl _ _, rfl⟩⟩
      | false =>
        rw [hG]
        clear hG ih
        have hAw := hA2.below (hW.mono hW0)
        go_enter Try.func46, Try.ntmps46
        go_wp2_with fail
        refine gr2 _ _ _ _ _ _ _ _ _ _ _ _ _ _ _ _ _ _ _ _ _ _ _ _ _ _ _ _ _ _ _ _ _ _ _ _ _ _ _ _ _ _ _ _ _ _ _ _ _ _ _ _ _ O _ x l hs w hS ⟨_, cap, rfl, hc, fun _ => ⟨g, o, rfl, hAw⟩⟩ hI hO (by omega) _ ?_
        intro y15 y16 y17 y18 y19 x' w' hI' hb'
        go_wp2_with fail
        refine bodyPost_ret (v := .tuple #[]) (results_none rfl _ _ _) rfl ?_
        exact ⟨rfl, ⟨x', hI'⟩, hb'⟩
    · obtain ⟨k, hkk⟩ : ∃ k, half l.length = k := ⟨_, rfl⟩
      have hk := half_lt (n := l.length) (by omega)
      have hk0 := half_pos (n := l.length) (by omega)
      rw [hkk] at hk hk0
      have A1 := Lib.hid (fun w => half_any l.length (by omega) (by omega) w)
      rw [hkk] at A1
      have e0 : ((m : Int) == (l.length : Int)) = false := by rw [beq_eq_false_iff_ne]; omega
      by_cases hh : m ≤ k
      · have hG := grow_left (l := l) h1 (by omega) (by rw [hkk]; exact hh) b
        rw [hkk] at hG
        rw [hG]
        have hln := grow_len (l.take k).length (l.take k) m b (Nat.le_refl _) h1 (by simp; omega)
        have hlk : (l.take k).length = k := by simp; omega
        rw [hlk] at hln
        have hC := ih (l.take k) hs m b (.slice (some ⟨g, o, none⟩) k cap) x w.drew (by simp; omega) h1 (by simp; omega) (hS.take k) (SArg.of hlk (by omega) (hA2.take k)) hW.drew ⟨hI.blk, hI.own.below ((Below.refl _ _).drew), hI.all⟩ hF hO (by simp; omega)
        have HC := Lib.hid hC
        have Hln := Lib.hid hln
        have HA := Lib.hid hA2
        have HI := Lib.hid hI
        clear hG hC ih hln hlk hA hA2 hI
        have hd : ((m : Int) ≤ (k : Int)) := by omega
        go_enter Try.func46, Try.ntmps46
        go_wp2_with fail
        refine (A1.out _).mono ?_; rintro e w1 ⟨rfl, rfl⟩
        go_wp2_with fail
        refine gr5 _ _ _ _ _ _ _ _ _ _ _ _ _ _ _ _ _ _ _ _ _ _ _ _ _ _ _ _ _ _ _ _ _ _ _ _ _ _ _ _ _ _ _ _ _ _ _ _ _ O g o cap k m b l w _ hF hk0 hk hc HC.out _ ?_
        intro y26 y27 y28 y29 y30 y31 y32 w1 ⟨⟨x1, hI1⟩, hG1⟩
        have hb1 : Below O W0 w1 := hW.trans (Below.ofDrew hG1.b)
        have hO1 : O + 2 ≤ w1.heap.size := Nat.le_trans hO hG1.b.size
        go_wp2_with fail
        refine gr6 _ _ _ _ _ _ _ _ _ _ _ _ _ _ _ _ _ _ _ _ _ _ _ _ _ _ _ _ _ _ _ _ _ _ _ _ _ _ _ _ _ _ _ _ _ _ _ _ _ _ _ _ O g o cap k x1 l (hs ++ grow (l.take k) m b) w1 hS (HA.out.below (hb1.mono hW0)) hI1 hO1 (by rw [List.length_append]; have := Hln.out; omega) hk hc _ ?_
        intro y33 y34 y35 y36 y37 y38 y39 x2 w2 hI2 hG2
        go_wp2_with fail
        refine bodyPost_ret (v := .tuple #[]) (results_none rfl _ _ _) rfl ?_
        rw [← List.append_assoc]
        exact ⟨rfl, ⟨x2, hI2⟩, (GB.ofDrew hG1).trans hG2⟩
      · have hG := grow_right (l := l) h1 (by omega) (by rw [hkk]; exact hh) b
        rw [hkk] at hG
        rw [hG]
        have hln := grow_len (l.drop k).length (l.drop k) (m - k) false (Nat.le_refl _) (by omega) (by simp; omega)
        have hlk : (l.drop k).length = l.length - k := by simp
        rw [hlk] at hln
        have hC := ih (l.drop k) hs (m - k) false (.slice (some ⟨g, o + k, none⟩) (l.length - k) (cap - k)) x w.drew (by simp; omega) (by omega) (by simp; omega) (hS.drop k) (SArg.of hlk (by omega) (hA2.drop k)) hW.drew ⟨hI.blk, hI.own.below ((Below.refl _ _).drew), hI.all⟩ hF hO (by simp; omega)
        have HC := Lib.hid hC
        have Hln := Lib.hid hln
        have HA := Lib.hid hA2
        have HI := Lib.hid hI
        clear hG hC ih hln hlk hA hA2 hI
        have hd : ¬ ((m : Int) ≤ (k : Int)) := by omega
        go_enter Try.func46, Try.ntmps46
        go_wp2_with fail
        refine (A1.out _).mono ?_; rintro e w1 ⟨rfl, rfl⟩
        go_wp2_with fail
        refine gr7 _ _ _ _ _ _ _ _ _ _ _ _ _ _ _ _ _ _ _ _ _ _ _ _ _ _ _ _ _ _ _ _ _ _ _ _ _ _ _ _ _ _ _ _ _ _ _ _ _ O g o cap k m b l w _ hF (by omega) (by omega) hk hc HC.out _ ?_
        intro y40 y41 y42 y43 y44 y45 y46 y47 w1 ⟨⟨x1, hI1⟩, hG1⟩
        have hb1 : Below O W0 w1 := hW.trans (Below.ofDrew hG1.b)
        have hO1 : O + 2 ≤ w1.heap.size := Nat.le_trans hO hG1.b.size
        go_wp2_with fail
        refine gr8 _ _ _ _ _ _ _ _ _ _ _ _ _ _ _ _ _ _ _ _ _ _ _ _ _ _ _ _ _ _ _ _ _ _ _ _ _ _ _ _ _ _ _ _ _ _ _ _ _ _ _ _ O g o cap k x1 l (hs ++ grow (l.drop k) (m - k) false) w1 hS (HA.out.below (hb1.mono hW0)) hI1 hO1 (by rw [List.length_append]; have := Hln.out; omega) hk0 hk hc _ ?_
        intro y48 y49 y50 y51 y52 y53 y54 x2 w2 hI2 hG2
        go_wp2_with fail
        go_end0
        rw [← List.append_assoc]
        exact ⟨rfl, ⟨x2, hI2⟩, (GB.ofDrew hG1).trans hG2⟩
end Go.Proofs.Ytjekdeikoebmgaa
