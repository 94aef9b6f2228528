/- Rows of hashes that are written; regions of TreeKeeps. Conditions: sizes. -/
import Derived.Test.YtjekdeikoebmgaaLCkA
namespace Go.Proofs.Ytjekdeikoebmgaa
open Go.RowKit Go.Shelf Tr

/-- A slice of n hashes whose cells lie between two blocks and may be written. -/
def RowOk (B T : Nat) (w : World) (v : Value) (n : Nat) : Prop :=
  (v = .slice none 0 0 ∧ n = 0) ∨ ∃ g cap, v = .slice (some ⟨g, 0, none⟩) n cap ∧ n ≤ cap ∧ B ≤ g ∧ g < T ∧ ∀ j, j < cap * 32 → (w.cell? ⟨g, j, none⟩).isSome = true ∧ w.frozen? ⟨g, j, none⟩ = false
theorem RowOk.of {w : World} {base B : Nat} {v : Value} {hs : List (List UInt8)} (h : OwnH w base v hs) (hB : B ≤ base) : RowOk B w.heap.size w v hs.length := by
  rcases h with ⟨rfl, h1, _⟩ | ⟨g, cap, rfl, _, h2, h3⟩
  · exact .inl ⟨rfl, h1⟩
  · exact .inr ⟨g, cap, rfl, h2, Nat.le_trans hB h3.base, h3.lt, fun j hj => ⟨h3.some_ j hj, h3.free j hj⟩⟩
theorem RowOk.below {w w' : World} {B T n : Nat} {v : Value} (h : RowOk B T w v n) (hb : Below w.heap.size w w') (hT : T ≤ w.heap.size) : RowOk B T w' v n := by
  rcases h with h | ⟨g, cap, h1, h2, h3, h4, h5⟩
  · exact .inl h
  · refine .inr ⟨g, cap, h1, h2, h3, h4, fun j hj => ?_⟩
    rw [hb.cell (p := ⟨g, j, none⟩) (by show g < _; omega), hb.frozen (p := ⟨g, j, none⟩) (by show g < _; omega)]
    exact h5 j hj
theorem RowOk.mono {w : World} {B B' T T' n : Nat} {v : Value} (h : RowOk B T w v n) (hB : B' ≤ B) (hT : T ≤ T') : RowOk B' T' w v n := by
  rcases h with h | ⟨g, cap, h1, h2, h3, h4, h5⟩
  · exact .inl h
  · exact .inr ⟨g, cap, h1, h2, by omega, by omega, h5⟩
theorem RowOk.cells {w : World} {B T n : Nat} {v : Value} (h : RowOk B T w v n) (g o : Nat) (vs : List Value) : RowOk B T (w.setCells g o vs) v n := by
  rcases h with h | ⟨g', cap, h1, h2, h3, h4, h5⟩
  · exact .inl h
  · exact .inr ⟨g', cap, h1, h2, h3, h4, fun j hj => ⟨World.isSome_setCells _ _ _ _ _ (h5 j hj).1, by rw [World.frozen?_setCells]; exact (h5 j hj).2⟩⟩
theorem RowOk.slice {w : World} {B T n : Nat} {v : Value} (h : RowOk B T w v n) : ∃ x c, v = .slice x n c := by
  rcases h with ⟨h, rfl⟩ | ⟨g, cap, h, _⟩
  · exact ⟨_, _, h⟩
  · exact ⟨_, _, h⟩
theorem below_cells (B : Nat) {a : World} (b : Nat) (hb : B ≤ b) : ∀ (vs : List Value) (o : Nat) (w : World), Below B a w → Below B a (w.setCells b o vs)
  | [], _, _, h => h
  | v :: r, o, _, h => below_cells B b hb r (o + 1) _ (h.trans ⟨rfl, rfl, rfl, by simp, fun k hk => Below.heap_setCell _ _ _ _ (show k ≠ b by omega)⟩)

set_option maxRecDepth 100000 in
set_option maxHeartbeats 2000000 in
theorem kp_r9 (u0 u1 u2 u3 u4 u5 u7 u9 u10 u12 u13 u15 u16 u17 u18 u19 u20 u21 u22 u23 u24 u25 u26 u27 u28 u29 u30 u31 u32 u33 u34 u35 u36 u37 u38 u39 u40 u41 u42 u43 u44 u45 u46 u47 u48 u49 u50 u51 u52 u53 u54 u55 u56 u57 u58 u59 u60 u61 u62 u63 u64 u65 u66 u67 u68 u69 u70 u71 u72 u73 u74 u75 u76 u77 u78 u79 u80 u81 u82 u83 u84 u85 u86 u87 u88 u89 u90 u91 u92 u93 u94 u95 u96 u97 u98 u99 u100 u101 u102 u103 u104 u105 u106 u107 u108 u109 v11 : Value) (a1 : Option Addr) (L cap1 m b14 : Nat) (ra rb : List UInt8) (c : Bool) (w : World) (hrb : rb.length = 32) (N14 : Blk w b14 (hdrow L rb) 38) (hm : m ≤ L) (hc : L ≤ cap1)
    (C1 : ∀ x' : After w, Calls Try.prog 25 #[.slice a1 m cap1] x'.W fun e w' => e = .returned (.agg (hdrow m ra)) ∧ Below x'.W.heap.size x'.W w')
    (C2 : ∀ x' : After w, Calls Try.prog 33 #[.agg (hdrow m ra), .agg (hdrow L rb), v11] x'.W fun e w' => e = .returned (.bool c) ∧ Below x'.W.heap.size x'.W w')
    (Q : Exit → Act → World → Prop) (h : ∀ (y53 y54 y55 y56 y57 y58 y59 : Value) (w' : World), Below w.heap.size w w' → Q .normal ⟨(u0 :: u1 :: u2 :: u3 :: u4 :: u5 :: (.slice a1 L cap1) :: u7 :: (.int .i64 (m : Int)) :: u9 :: u10 :: v11 :: u12 :: u13 :: (.pointer (some ⟨b14, 0, none⟩)) :: u15 :: u16 :: u17 :: u18 :: u19 :: u20 :: u21 :: u22 :: u23 :: u24 :: u25 :: u26 :: u27 :: u28 :: u29 :: u30 :: u31 :: u32 :: u33 :: u34 :: u35 :: u36 :: u37 :: u38 :: u39 :: u40 :: u41 :: u42 :: u43 :: u44 :: u45 :: u46 :: u47 :: u48 :: u49 :: u50 :: u51 :: u52 :: y53 :: y54 :: y55 :: y56 :: y57 :: y58 :: y59 :: u60 :: u61 :: u62 :: u63 :: u64 :: u65 :: u66 :: u67 :: u68 :: u69 :: u70 :: u71 :: u72 :: u73 :: u74 :: u75 :: u76 :: u77 :: u78 :: u79 :: u80 :: u81 :: u82 :: u83 :: u84 :: u85 :: u86 :: u87 :: u88 :: u89 :: u90 :: u91 :: u92 :: u93 :: u94 :: u95 :: u96 :: u97 :: u98 :: u99 :: u100 :: u101 :: u102 :: u103 :: u104 :: u105 :: u106 :: u107 :: u108 :: u109 :: []).toArray, []⟩ w') : Code.wp Try.prog (regionIn Try.f12 9) Q ⟨(u0 :: u1 :: u2 :: u3 :: u4 :: u5 :: (.slice a1 L cap1) :: u7 :: (.int .i64 (m : Int)) :: u9 :: u10 :: v11 :: u12 :: u13 :: (.pointer (some ⟨b14, 0, none⟩)) :: u15 :: u16 :: u17 :: u18 :: u19 :: u20 :: u21 :: u22 :: u23 :: u24 :: u25 :: u26 :: u27 :: u28 :: u29 :: u30 :: u31 :: u32 :: u33 :: u34 :: u35 :: u36 :: u37 :: u38 :: u39 :: u40 :: u41 :: u42 :: u43 :: u44 :: u45 :: u46 :: u47 :: u48 :: u49 :: u50 :: u51 :: u52 :: u53 :: u54 :: u55 :: u56 :: u57 :: u58 :: u59 :: u60 :: u61 :: u62 :: u63 :: u64 :: u65 :: u66 :: u67 :: u68 :: u69 :: u70 :: u71 :: u72 :: u73 :: u74 :: u75 :: u76 :: u77 :: u78 :: u79 :: u80 :: u81 :: u82 :: u83 :: u84 :: u85 :: u86 :: u87 :: u88 :: u89 :: u90 :: u91 :: u92 :: u93 :: u94 :: u95 :: u96 :: u97 :: u98 :: u99 :: u100 :: u101 :: u102 :: u103 :: u104 :: u105 :: u106 :: u107 :: u108 :: u109 :: []).toArray, []⟩ w := by
  have HX := Lib.hid h
  have f14 := After.headC N14 hrb
  have hsl : ∀ w, (Instr.sliceAt 22 (.slice a1 L cap1) none (some (.int .i64 m)) none).run Try.prog w = .ok (.slice a1 m cap1) w := fun w => by
    have e0 : (m : Int) ≤ (cap1 : Int) := by omega
    cases a1 with
    | none => go_simp
    | some p => go_simp
  have D1 := Lib.hid C1
  have D2 := Lib.hid C2
  clear h N14 C1 C2
  generalize hdrow (L : Int) rb = R14 at *
  generalize hdrow (m : Int) ra = RA at *
  conv => arg 2; whnf
  refine wp_region_after (by kernel_rfl) (by kernel_rfl) ?_
  repeat (first
    | (refine quiet_load_at 38 (.tmp 14) (by rfl) ⟨b14, 0, none⟩ (by rfl) R14 f14 (by kernel_rfl) ?_; go_frame)
    | (go_big_quiet_step (first | (with_reducible exact After.call (D1.out _)) | (with_reducible exact After.call (D2.out _)))))
  refine wpQuiet_nil ?_
  rintro w5 ⟨x5, rfl⟩
  exact HX.out _ _ _ _ _ _ _ _ x5.hb

set_option maxRecDepth 100000 in
set_option maxHeartbeats 2000000 in
theorem kp_r24 (u0 u1 u2 u3 u4 u5 u8 u9 u10 u11 u12 u13 u14 u15 u16 u17 u19 u20 u21 u22 u23 u24 u25 u26 u27 u28 u29 u30 u31 u32 u33 u34 u35 u36 u37 u38 u39 u40 u41 u42 u43 u44 u45 u46 u47 u48 u49 u50 u51 u52 u53 u54 u55 u56 u57 u58 u59 u60 u61 u62 u63 u64 u65 u66 u67 u68 u69 u70 u71 u72 u73 u74 u75 u76 u77 u78 u79 u80 u81 u82 u83 u84 u85 u86 u87 u88 u89 u90 u91 u92 u93 u94 u95 u96 u97 u98 u99 u100 u101 u102 u103 u104 u105 u106 u107 u108 u109 : Value) (g1 o1 g2 o2 L cap1 cap2 k : Nat) (x : List UInt8) (w : World) (hk : k < L) (c1 : w.cell? ⟨g1, o1 + k, none⟩ = some (S x)) (c2 : w.cell? ⟨g2, o2 + k, none⟩ = some (S x))
    (Q : Exit → Act → World → Prop) (h : ∀ (y92 y93 y94 y95 y96 y97 y98 y99 : Value) (w' : World), Below w.heap.size w w' → Q .normal ⟨(u0 :: u1 :: u2 :: u3 :: u4 :: u5 :: (.slice (some ⟨g1, o1, none⟩) L cap1) :: (.slice (some ⟨g2, o2, none⟩) L cap2) :: u8 :: u9 :: u10 :: u11 :: u12 :: u13 :: u14 :: u15 :: u16 :: u17 :: (.int .i64 (k : Int)) :: u19 :: u20 :: u21 :: u22 :: u23 :: u24 :: u25 :: u26 :: u27 :: u28 :: u29 :: u30 :: u31 :: u32 :: u33 :: u34 :: u35 :: u36 :: u37 :: u38 :: u39 :: u40 :: u41 :: u42 :: u43 :: u44 :: u45 :: u46 :: u47 :: u48 :: u49 :: u50 :: u51 :: u52 :: u53 :: u54 :: u55 :: u56 :: u57 :: u58 :: u59 :: u60 :: u61 :: u62 :: u63 :: u64 :: u65 :: u66 :: u67 :: u68 :: u69 :: u70 :: u71 :: u72 :: u73 :: u74 :: u75 :: u76 :: u77 :: u78 :: u79 :: u80 :: u81 :: u82 :: u83 :: u84 :: u85 :: u86 :: u87 :: u88 :: u89 :: u90 :: u91 :: y92 :: y93 :: y94 :: y95 :: y96 :: y97 :: y98 :: y99 :: (.bool false) :: u101 :: u102 :: u103 :: u104 :: u105 :: u106 :: u107 :: u108 :: u109 :: []).toArray, []⟩ w') : Code.wp Try.prog (regionIn Try.f12 24) Q ⟨(u0 :: u1 :: u2 :: u3 :: u4 :: u5 :: (.slice (some ⟨g1, o1, none⟩) L cap1) :: (.slice (some ⟨g2, o2, none⟩) L cap2) :: u8 :: u9 :: u10 :: u11 :: u12 :: u13 :: u14 :: u15 :: u16 :: u17 :: (.int .i64 (k : Int)) :: u19 :: u20 :: u21 :: u22 :: u23 :: u24 :: u25 :: u26 :: u27 :: u28 :: u29 :: u30 :: u31 :: u32 :: u33 :: u34 :: u35 :: u36 :: u37 :: u38 :: u39 :: u40 :: u41 :: u42 :: u43 :: u44 :: u45 :: u46 :: u47 :: u48 :: u49 :: u50 :: u51 :: u52 :: u53 :: u54 :: u55 :: u56 :: u57 :: u58 :: u59 :: u60 :: u61 :: u62 :: u63 :: u64 :: u65 :: u66 :: u67 :: u68 :: u69 :: u70 :: u71 :: u72 :: u73 :: u74 :: u75 :: u76 :: u77 :: u78 :: u79 :: u80 :: u81 :: u82 :: u83 :: u84 :: u85 :: u86 :: u87 :: u88 :: u89 :: u90 :: u91 :: u92 :: u93 :: u94 :: u95 :: u96 :: u97 :: u98 :: u99 :: u100 :: u101 :: u102 :: u103 :: u104 :: u105 :: u106 :: u107 :: u108 :: u109 :: []).toArray, []⟩ w := by
  have HX := Lib.hid h
  have f1 := After.cell c1
  have f2 := After.cell c2
  have t1 : (k : Int) < (L : Int) := by omega
  clear h c1 c2
  conv => arg 2; whnf
  refine wp_region_after (by kernel_rfl) (by kernel_rfl) ?_
  repeat (go_big_quiet_step (fail))
  refine wpQuiet_nil ?_
  rintro w5 ⟨x5, rfl⟩
  exact HX.out _ _ _ _ _ _ _ _ _ x5.hb

end Go.Proofs.Ytjekdeikoebmgaa
