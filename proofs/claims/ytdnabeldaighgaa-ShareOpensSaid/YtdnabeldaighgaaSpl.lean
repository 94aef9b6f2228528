/- Split of the implementation. Conditions: the range of int. -/
import Derived.Test.YtdnabeldaighgaaFit
namespace Go.Proofs.Ytdnabeldaighgaa
open Go.RowKit Go.Shelf Shr
attribute [local go_sem] Oper.semAt_some

namespace Shr
/-- The value of a polynomial, from the bottom: the first k coefficients. -/
def pva (l : List Int) (x : Int) : Nat → Int
  | 0 => 0
  | k + 1 => Fld.addS (pva l x k) (Fld.mulS (l.getD k 0) (pws x k) QZ) QZ
end Shr
theorem pva_in (l : List Int) (x : Int) (k : Nat) : In64 (pva l x k) := by
  cases k with
  | zero => unfold pva; exact ⟨by decide, by decide⟩
  | succ k => exact addS_in (by decide)
set_option maxRecDepth 100000 in
set_option maxHeartbeats 2000000 in
theorem spl_range (u0 u1 u3 u4 u5 u6 u7 u8 u9 u10 u11 u12 u13 u15 u16 u17 u18 u19 u20 u21 u22 u23 u24 u25 u26 u27 u28 u29 u30 u31 u32 u33 u34 u35 u36 u37 u38 u39 u40 u41 u42 u43 u44 u45 u46 u47 u48 u49 u50 u51 u52 u53 u54 u55 u56 u57 u58 u59 u60 u61 u62 u63 u64 u66 u67 u68 u69 u70 u71 u72 u73 u74 u75 u76 u77 u78 u79 u80 u81 u82 u83 u84 u85 u86 u87 : Value) (ds : List Deferred) (b2 b14 Bx n c1 : Nat) (a1 : Option Addr) (l : List Int) (x : Int) (w : World) (hl : All64 l) (hx : In64 x) (hn : l.length = n) (hn9 : n ≤ 90000)
    (N14 : Blk w b14 #[I x, I 0] 33) (N2 : Blk w b2 #[.slice a1 n c1] 22) (NX : Blk w Bx #[I x] 3) (e2 : b2 ≠ b14) (eX : Bx ≠ b14) (hA : l ≠ [] → ∃ g o, a1 = some ⟨g, o, none⟩ ∧ IAt w g o l ∧ g ≠ b14) (Q : Exit → Act → World → Prop)
    (hQ : ∀ (D : Nat) (W : World), w.heap.size ≤ D → W.heap[D]? = some (.deferred (some [])) → w.grownBy W (some b14) → Blk W b14 #[I x, I (pva l x n)] 33 → Q (.exit 4) ⟨(u0 :: u1 :: (.pointer (some ⟨b2, 0, none⟩)) :: u3 :: u4 :: u5 :: u6 :: u7 :: u8 :: u9 :: u10 :: u11 :: u12 :: u13 :: (.pointer (some ⟨b14, 0, none⟩)) :: u15 :: u16 :: u17 :: u18 :: u19 :: u20 :: u21 :: u22 :: u23 :: u24 :: u25 :: u26 :: u27 :: u28 :: u29 :: u30 :: u31 :: u32 :: u33 :: u34 :: u35 :: u36 :: u37 :: u38 :: u39 :: u40 :: u41 :: u42 :: u43 :: u44 :: u45 :: u46 :: u47 :: u48 :: u49 :: u50 :: u51 :: u52 :: u53 :: u54 :: u55 :: u56 :: u57 :: u58 :: u59 :: u60 :: u61 :: u62 :: u63 :: u64 :: (.func (.func 58) #[] #[.pointer (some ⟨Bx, 0, none⟩)]) :: u66 :: u67 :: u68 :: u69 :: u70 :: u71 :: u72 :: u73 :: u74 :: u75 :: u76 :: u77 :: u78 :: u79 :: u80 :: u81 :: u82 :: u83 :: u84 :: u85 :: u86 :: u87 :: []).toArray, { target := .collected D, args := #[] } :: ds⟩ W) :
    Code.wpIn Fence.wide 10 Try.prog (rangeIn Try.f23 0) Q ⟨(u0 :: u1 :: (.pointer (some ⟨b2, 0, none⟩)) :: u3 :: u4 :: u5 :: u6 :: u7 :: u8 :: u9 :: u10 :: u11 :: u12 :: u13 :: (.pointer (some ⟨b14, 0, none⟩)) :: u15 :: u16 :: u17 :: u18 :: u19 :: u20 :: u21 :: u22 :: u23 :: u24 :: u25 :: u26 :: u27 :: u28 :: u29 :: u30 :: u31 :: u32 :: u33 :: u34 :: u35 :: u36 :: u37 :: u38 :: u39 :: u40 :: u41 :: u42 :: u43 :: u44 :: u45 :: u46 :: u47 :: u48 :: u49 :: u50 :: u51 :: u52 :: u53 :: u54 :: u55 :: u56 :: u57 :: u58 :: u59 :: u60 :: u61 :: u62 :: u63 :: u64 :: (.func (.func 58) #[] #[.pointer (some ⟨Bx, 0, none⟩)]) :: u66 :: u67 :: u68 :: u69 :: u70 :: u71 :: u72 :: u73 :: u74 :: u75 :: u76 :: u77 :: u78 :: u79 :: u80 :: u81 :: u82 :: u83 :: u84 :: u85 :: u86 :: u87 :: []).toArray, ds⟩ w := by
  conv => arg 4; whnf
  have HQ := Lib.hid hQ
  clear hQ
  refine wpIn_rangeFunc_ends rfl (by omega) (gf := 58) (lb := #[.pointer (some ⟨Bx, 0, none⟩)]) rfl trivial (enters_of Try.func58 (by kernel_rfl) rfl)
    (powers1_ends 9 (by omega) Bx b14 (n + 1) x hx (by omega) (by omega) w NX eX) KpX.trans (KpX.put (w := w)) (Below.refl _ _) (fun _ => rfl)
    (RndI w b14 33 (fun k => #[I x, I (pva l x k)])) (fun _ W => RndI w b14 33 (fun k => #[I x, I (pva l x k)]) n W) 4 rndI_own (rndI_own' n) ⟨N14, World.grownBy.refl w _⟩ (fun k => ⟨(u0 :: u1 :: (.pointer (some ⟨b2, 0, none⟩)) :: u3 :: u4 :: u5 :: u6 :: u7 :: u8 :: u9 :: u10 :: u11 :: u12 :: u13 :: (.pointer (some ⟨b14, 0, none⟩)) :: (.int .i64 (k : Int)) :: (.int .i64 (pws x k)) :: u17 :: u18 :: u19 :: u20 :: u21 :: u22 :: u23 :: u24 :: u25 :: u26 :: u27 :: u28 :: u29 :: u30 :: u31 :: u32 :: u33 :: u34 :: u35 :: u36 :: u37 :: u38 :: u39 :: u40 :: u41 :: u42 :: u43 :: u44 :: u45 :: u46 :: u47 :: u48 :: u49 :: u50 :: u51 :: u52 :: u53 :: u54 :: u55 :: u56 :: u57 :: u58 :: u59 :: u60 :: u61 :: u62 :: u63 :: u64 :: (.func (.func 58) #[] #[.pointer (some ⟨Bx, 0, none⟩)]) :: (.int .i64 (k : Int)) :: (.int .i64 (pws x k)) :: u68 :: u69 :: u70 :: u71 :: u72 :: u73 :: u74 :: u75 :: u76 :: u77 :: u78 :: u79 :: u80 :: u81 :: u82 :: u83 :: u84 :: u85 :: u86 :: u87 :: []).toArray, []⟩) ?assign ?body ?stop
  case assign =>
    intro f k W K hK
    gi_wp2
    exact hK
  case stop =>
    rintro D W hD ⟨i1, hG⟩ hK
    refine wpIn_exit ?_
    exact HQ.out D W hD hK hG i1
  case body =>
    rintro f k W ⟨i5', hG⟩ hkN
    have i5 : Blk W b14 #[I x, I (pva l x k)] 33 := i5'
    clear i5'
    have i2 := N2.keptBy hG (fun e => e2 (by injection e))
    have c2 := i2.cell 0 _ rfl
    have hb5 := N14.lt
    have t2 : (k : Int) ≤ 90000 := by omega
    by_cases hk : k < n
    · have t1 : ((k : Int) == (n : Int)) = false := by rw [beq_eq_false_iff_ne]; omega
      obtain ⟨c, hck⟩ : ∃ c, l[k]? = some c := ⟨l[k]'(by omega), List.getElem?_eq_getElem _⟩
      obtain ⟨g, o, rfl, hAt, hgb⟩ := hA (by rintro rfl; simp at hck)
      have hc64 := hl.get hck
      have hgl := World.block_lt_of_cell? w _ (hAt k c hck)
      have c3 : W.cell? ⟨g, o + k, none⟩ = some (I c) := by
        rw [World.cell?_of_block (w := w) (a := ⟨g, o + k, none⟩) (hG.block g hgl (fun e => hgb (by injection e)))]
        exact hAt k c hck
      have c5 := i5.cell 1 _ rfl
      have f2 := After.cell c2
      have f3 := After.cell c3
      have f5 : ∀ x' : After W, x'.W.cell? ⟨b14, 1, none⟩ = some (I (pva l x k)) := After.cell c5
      have D1 := Lib.hid (fun w => Mul_any c (pws x k) 1152921504606845789 hc64 (pws_in x k) (by decide) w)
      have D2 := Lib.hid (fun w => Add_any (pva l x k) (Fld.mulS c (pws x k) 1152921504606845789) 1152921504606845789 (pva_in l x k) (mulS_in (by decide)) (by decide) w)
      have hst : pva l x (k + 1) = Fld.addS (pva l x k) (Fld.mulS c (pws x k) 1152921504606845789) 1152921504606845789 := by
        show Fld.addS (pva l x k) (Fld.mulS (l.getD k 0) (pws x k) QZ) QZ = _
        rw [getD_of hck]
      rw [← hst] at D2
      obtain ⟨p2, hp2⟩ : ∃ p2, pva l x (k + 1) = p2 := ⟨_, rfl⟩
      rw [hp2] at D2
      have HP2 := Lib.hid hp2
      have hk1 : (k : Int) < (n : Int) := by omega
      clear hst hp2 hck hAt c3 c5
      generalize pva l x k = p at *
      generalize pws x k = q at *
      gi_wp2
      refine wpIn_region_after_tail 10 (by kernel_rfl) (by kernel_rfl) (by rintro ⟨_, _, h⟩; exact h) (by kernel_rfl) (by kernel_rfl) (by kernel_rfl) ?_
      simp only [List.take_succ_cons, List.take_zero, List.drop_succ_cons, List.drop_zero]
      repeat (go_big_quiet_step (first | (with_reducible exact After.call (D1.out _)) | (with_reducible exact After.call (D2.out _))))
      refine wpQuiet_nil ?_
      rintro w5 ⟨x5, rfl⟩
      have hx5 := x5.hb
      generalize x5.W = w5 at *
      have j5 := i5.below hx5 i5.lt
      have hG5 := grown_then2 hG (grown_of_below hx5 (some b14))
      have z5 := j5.cell 1 _ rfl
      have y5 := j5.frozen 1
      clear f2 f3 f5 c2
      have HJ := Lib.hid (j5.set 1 (I p2))
      have HG6 := Lib.hid (grown_set hG5 1 (I p2))
      have HW6 := Lib.hid (grown_set (grown_of_below hx5 (some b14)) 1 (I p2))
      go_wp2_with fail
      refine ⟨KeepsFrom.of_grownBy HW6.out (fun j e => by cases e; exact hb5), KpX.of_grown HW6.out, by omega, ?_, HG6.out⟩
      show Blk _ b14 #[I x, I (pva l x (k + 1))] _
      rw [HP2.out]
      exact HJ.out
    · have hke : k = n := by omega
      have t1 : ((k : Int) == (n : Int)) = true := by rw [beq_iff_eq]; omega
      have HI := Lib.hid (show RndI w b14 33 (fun k => #[I x, I (pva l x k)]) n W by rw [← hke]; exact ⟨i5, hG⟩)
      clear hke
      gi_wp2
      exact ⟨rfl, KeepsFrom.refl _ _, HI.out⟩

/-- The marks of the loops that were left: their blocks lie, each once. -/
structure Marks (base : Nat) (W : World) (v : Value) (Ds : List Nat) : Prop where
  nodup : Ds.Nodup
  base : ∀ D ∈ Ds, base ≤ D
  heap : ∀ D ∈ Ds, W.heap[D]? = some (.deferred (some []))
  apart : ∀ D ∈ Ds, blkOf v ≠ some D
theorem Marks.lt {base : Nat} {W : World} {v : Value} {Ds : List Nat} (h : Marks base W v Ds) : ∀ D ∈ Ds, D < W.heap.size := fun D hD => (Array.getElem?_eq_some_iff.1 (h.heap D hD)).1
theorem Marks.nil (base : Nat) (W : World) (v : Value) : Marks base W v [] := ⟨List.nodup_nil, by simp, by simp, by simp⟩
theorem Marks.grown {base : Nat} {W W' : World} {v : Value} {Ds : List Nat} {r : Option Nat} (h : Marks base W v Ds) (hg : W.grownBy W' r) (hr : ∀ D ∈ Ds, r ≠ some D) : Marks base W' v Ds :=
  ⟨h.nodup, h.base, fun D hD => (hg.block D (h.lt D hD) (fun e => hr D hD e.symm)).trans (h.heap D hD), h.apart⟩
theorem Marks.below {base : Nat} {W W' : World} {v : Value} {Ds : List Nat} (h : Marks base W v Ds) (hb : Below W.heap.size W W') : Marks base W' v Ds :=
  ⟨h.nodup, h.base, fun D hD => (hb.block D (h.lt D hD)).trans (h.heap D hD), h.apart⟩
theorem Marks.cons {base : Nat} {W : World} {v : Value} {Ds : List Nat} {D : Nat} (h : Marks base W v Ds) (h1 : W.heap[D]? = some (.deferred (some []))) (h2 : base ≤ D) (h3 : D ∉ Ds) (h4 : blkOf v ≠ some D) : Marks base W v (D :: Ds) :=
  ⟨List.nodup_cons.2 ⟨h3, h.nodup⟩, fun E hE => by
    rcases List.mem_cons.1 hE with rfl | hE
    · exact h2
    · exact h.base E hE, fun E hE => by
    rcases List.mem_cons.1 hE with rfl | hE
    · exact h1
    · exact h.heap E hE, fun E hE => by
    rcases List.mem_cons.1 hE with rfl | hE
    · exact h4
    · exact h.apart E hE⟩
theorem Marks.value {base : Nat} {W : World} {v v' : Value} {Ds : List Nat} (h : Marks base W v Ds) (h2 : blkOf v' = blkOf v ∨ ∃ g, blkOf v' = some g ∧ W.heap.size ≤ g) : Marks base W v' Ds :=
  ⟨h.nodup, h.base, h.heap, fun D hD => by
    rcases h2 with h2 | ⟨g, h2, h3⟩
    · rw [h2]; exact h.apart D hD
    · rw [h2]; intro e; injection e with e; have := h.lt D hD; omega⟩
def mark (D : Nat) : Deferred := { target := .collected D, args := #[] }
namespace Shr
/-- The first k shares. -/
def shl (l : List Int) (k : Nat) : List (Int × Int) := (List.range k).map fun (j : Nat) => (((j : Int) + 1), pva l ((j : Int) + 1) l.length)
theorem shl_succ (l : List Int) (k : Nat) : shl l (k + 1) = shl l k ++ [((k : Int) + 1, pva l ((k : Int) + 1) l.length)] := by
  unfold shl; rw [List.range_succ, List.map_append]; rfl
theorem shl_length (l : List Int) (k : Nat) : (shl l k).length = k := by unfold shl; simp
end Shr
set_option maxRecDepth 100000 in
set_option maxHeartbeats 2000000 in
theorem spl_loop (u0 u3 u4 u5 u6 u7 u8 u9 u10 u11 u15 u16 u17 u18 u19 u20 u21 u22 u23 u24 u25 u26 u27 u28 u29 u30 u31 u32 u33 u34 u35 u36 u37 u38 u39 u40 u41 u42 u43 u44 u45 u46 u47 u48 u49 u50 u51 u52 u53 u54 u55 u56 u66 u67 u68 u69 u70 u71 u72 u73 u74 u75 u76 u77 u78 u79 u80 u81 u86 u87 y14 y57 y58 y59 y60 y61 y62 y63 y64 y65 y82 y83 y84 y85 : Value) (b2 n m c1 : Nat) (a1 : Option Addr) (l : List Int) (w : World) (hl : All64 l) (hm : l.length = m) (hm9 : m ≤ 90000) (hn9 : n ≤ 90000)
    (N2 : Blk w b2 #[.slice a1 m c1] 22) (hA : l ≠ [] → ∃ g o, a1 = some ⟨g, o, none⟩ ∧ IAt w g o l) (Q : Exit → Act → World → Prop)
    (hQ : ∀ (y14 y57 y58 y59 y60 y61 y62 y63 y64 y65 y82 y83 y84 y85 v12 : Value) (z : Int) (Ds : List Nat) (W : World), OwnSh W w.heap.size v12 (shl l n) → Below w.heap.size w W → Marks w.heap.size W v12 Ds → Q (.exit 2) ⟨(u0 :: (.int .i64 (n : Int)) :: (.pointer (some ⟨b2, 0, none⟩)) :: u3 :: u4 :: u5 :: u6 :: u7 :: u8 :: u9 :: u10 :: u11 :: v12 :: (.int .i64 z) :: y14 :: u15 :: u16 :: u17 :: u18 :: u19 :: u20 :: u21 :: u22 :: u23 :: u24 :: u25 :: u26 :: u27 :: u28 :: u29 :: u30 :: u31 :: u32 :: u33 :: u34 :: u35 :: u36 :: u37 :: u38 :: u39 :: u40 :: u41 :: u42 :: u43 :: u44 :: u45 :: u46 :: u47 :: u48 :: u49 :: u50 :: u51 :: u52 :: u53 :: u54 :: u55 :: u56 :: y57 :: y58 :: y59 :: y60 :: y61 :: y62 :: y63 :: y64 :: y65 :: u66 :: u67 :: u68 :: u69 :: u70 :: u71 :: u72 :: u73 :: u74 :: u75 :: u76 :: u77 :: u78 :: u79 :: u80 :: u81 :: y82 :: y83 :: y84 :: y85 :: u86 :: u87 :: []).toArray, Ds.map mark⟩ W) :
    Code.wp Try.prog (loopIn Try.f23 1) Q ⟨(u0 :: (.int .i64 (n : Int)) :: (.pointer (some ⟨b2, 0, none⟩)) :: u3 :: u4 :: u5 :: u6 :: u7 :: u8 :: u9 :: u10 :: u11 :: (.slice none 0 0) :: (.int .i64 1) :: y14 :: u15 :: u16 :: u17 :: u18 :: u19 :: u20 :: u21 :: u22 :: u23 :: u24 :: u25 :: u26 :: u27 :: u28 :: u29 :: u30 :: u31 :: u32 :: u33 :: u34 :: u35 :: u36 :: u37 :: u38 :: u39 :: u40 :: u41 :: u42 :: u43 :: u44 :: u45 :: u46 :: u47 :: u48 :: u49 :: u50 :: u51 :: u52 :: u53 :: u54 :: u55 :: u56 :: y57 :: y58 :: y59 :: y60 :: y61 :: y62 :: y63 :: y64 :: y65 :: u66 :: u67 :: u68 :: u69 :: u70 :: u71 :: u72 :: u73 :: u74 :: u75 :: u76 :: u77 :: u78 :: u79 :: u80 :: u81 :: y82 :: y83 :: y84 :: y85 :: u86 :: u87 :: []).toArray, []⟩ w := by
  conv => arg 2; whnf
  have HQ := Lib.hid hQ
  have HA := Lib.hid (fun (W : World) (hb : Below w.heap.size w W) (h : l ≠ []) => (by
    obtain ⟨g, o, h1, h2⟩ := hA h
    have hg : g < w.heap.size := by
      obtain ⟨c, r, rfl⟩ := List.exists_cons_of_ne_nil h
      exact World.block_lt_of_cell? w _ (h2 0 c rfl)
    exact ⟨g, o, h1, h2.below hb, hg⟩ : ∃ g o, a1 = some ⟨g, o, none⟩ ∧ IAt W g o l ∧ g < w.heap.size))
  clear hQ hA
  refine wp_loop (fun a W => ∃ (k : Nat) (y14 y57 y58 y59 y60 y61 y62 y63 y64 y65 y82 y83 y84 y85 v12 : Value) (z : Int) (Ds : List Nat), a = ⟨(u0 :: (.int .i64 (n : Int)) :: (.pointer (some ⟨b2, 0, none⟩)) :: u3 :: u4 :: u5 :: u6 :: u7 :: u8 :: u9 :: u10 :: u11 :: v12 :: (.int .i64 z) :: y14 :: u15 :: u16 :: u17 :: u18 :: u19 :: u20 :: u21 :: u22 :: u23 :: u24 :: u25 :: u26 :: u27 :: u28 :: u29 :: u30 :: u31 :: u32 :: u33 :: u34 :: u35 :: u36 :: u37 :: u38 :: u39 :: u40 :: u41 :: u42 :: u43 :: u44 :: u45 :: u46 :: u47 :: u48 :: u49 :: u50 :: u51 :: u52 :: u53 :: u54 :: u55 :: u56 :: y57 :: y58 :: y59 :: y60 :: y61 :: y62 :: y63 :: y64 :: y65 :: u66 :: u67 :: u68 :: u69 :: u70 :: u71 :: u72 :: u73 :: u74 :: u75 :: u76 :: u77 :: u78 :: u79 :: u80 :: u81 :: y82 :: y83 :: y84 :: y85 :: u86 :: u87 :: []).toArray, Ds.map mark⟩ ∧ k ≤ n ∧ z = (k : Int) + 1 ∧ OwnSh W w.heap.size v12 (shl l k) ∧ Below w.heap.size w W ∧ Marks w.heap.size W v12 Ds) (fun a _ => n + 1 - (intOf (a.tmps.getD 13 undef)).toNat)
    ⟨0, _, _, _, _, _, _, _, _, _, _, _, _, _, _, _, _, [], rfl, by omega, rfl, OwnV.nil _ _ _, Below.refl _ _, Marks.nil _ _ _⟩ ?_
  clear y14 y57 y58 y59 y60 y61 y62 y63 y64 y65 y82 y83 y84 y85
  rintro a wr ⟨k, y14, y57, y58, y59, y60, y61, y62, y63, y64, y65, y82, y83, y84, y85, v12, z, Ds, rfl, hk, rfl, hO, hW, hM⟩
  by_cases hlt : k < n
  · have t1 : (k : Int) + 1 ≤ (n : Int) := by omega
    have t2 : (k : Int) ≤ 90000 := by omega
    have hx64 : In64 ((k : Int) + 1) := ⟨by omega, by omega⟩
    have PW := Lib.hid (fun w => powers_any ((k : Int) + 1) w)
    have HSH := Lib.hid (shl_succ l k)
    have HSL := Lib.hid (shl_length l k)
    obtain ⟨x, hx⟩ : ∃ x : Int, (k : Int) + 1 = x := ⟨_, rfl⟩
    rw [hx] at t1 hx64 PW HSH
    rw [hx]
    have HX := Lib.hid hx
    have tx : x ≤ 90001 := by omega
    have hwb := hW.size
    have ty : 0 < x := by omega
    clear hx
    have N14 := Blk.new wr #[I x, I 0] 33
    have h1 := (Below.refl wr.heap.size wr).alloc (Nat.le_refl _) (.cells #[I x, I 0] 33)
    have M2 := (N2.below hW N2.lt).below h1 (N2.below hW N2.lt).lt
    have l2 := (N2.below hW N2.lt).lt
    have hW1 := hW.trans (h1.mono hW.size)
    have hM1 := hM.below h1
    have hO1 := hO.below h1
    have HML := Lib.hid hM.lt
    have HOL := Lib.hid hO.blk_lt
    have hs1 : (wr.alloc (.cells #[I x, I 0] 33)).heap.size = wr.heap.size + 1 := World.size_alloc ..
    clear h1 hO hM
    go_upto_region 15 with (fail)
    generalize wr.alloc (.cells #[I x, I 0] 33) = w1 at *
    generalize wr.heap.size = b14 at *
    go_wp2_with fail
    refine (PW.out _).mono ?_; rintro e w2' ⟨rfl, rfl⟩
    have NX := Blk.new w1 #[I x] 3
    have h2 := (Below.refl w1.heap.size w1).alloc (Nat.le_refl _) (.cells #[I x] 3)
    have N14 := N14.alloc (.cells #[I x] 3)
    have M2 := M2.alloc (.cells #[I x] 3)
    have hW2 := hW1.trans (h2.mono hW1.size)
    have hM2 := hM1.below h2
    have hO2 := hO1.below h2
    clear hM1 hO1 hW1 PW h2
    rw [hs1] at NX
    go_wp2_with fail
    generalize w1.alloc (.cells #[I x] 3) = w2 at *
    refine (wpIn_wide (n := 10)).1 ?_
    refine spl_range _ _ _ _ _ _ _ _ _ _ _ _ _ _ _ _ _ _ _ _ _ _ _ _ _ _ _ _ _ _ _ _ _ _ _ _ _ _ _ _ _ _ _ _ _ _ _ _ _ _ _ _ _ _ _ _ _ _ _ _ _ _ _ _ _ _ _ _ _ _ _ _ _ _ _ _ _ _ _ _ _ _ _ _ _ (Ds.map mark) b2 b14 (b14 + 1) m c1 a1 l x w2 hl hx64 hm hm9 N14 M2 NX (by omega) (by omega) (fun h => by
      obtain ⟨g, o, h1, h2, h3⟩ := HA.out w2 hW2 h
      exact ⟨g, o, h1, h2, by have := N2.lt; have := hW.size; omega⟩) _ ?_
    intro D W hD hK hG hS
    have hb14 := N14.lt
    have hDb : b14 < D := by omega
    have hW3 := below_of_grown hW2 hG hW2.size (fun g e => by injection e with e; omega)
    have O3 := hO2.grown hG (fun g hg e => by injection e with e; have := HOL.out g hg; omega)
    have hM3 := (hM2.grown hG (fun E hE e => by injection e with e; have := HML.out E hE; omega)).cons hK (by have := hW2.size; omega) (fun hE => by have := HML.out D hE; omega) (fun e => by have := HOL.out D e; omega)
    obtain ⟨p, hp⟩ : ∃ p, pva l x m = p := ⟨_, rfl⟩
    rw [hp] at hS
    have HP : Hid (shl l (k + 1) = shl l k ++ [(x, p)]) := by
      show shl l (k + 1) = _
      rw [HSH.out, hm, hp]
    clear hp HSH
    obtain ⟨v', w4, r1, r2, r3, r4⟩ := run_append_share W w.heap.size v12 _ O3 hW3.size x p (by rw [HSL.out]; omega)
    have hM4 := Lib.hid ((hM3.value r4).grown r3 (fun E hE => hM3.apart E hE))
    have hW4 := Lib.hid (below_of_grown hW3 r3 hW3.size (fun g hg => O3.blk g hg))
    have HO4 : Hid (OwnSh w4 w.heap.size v' (shl l (k + 1))) := by
      show OwnSh w4 w.heap.size v' _
      rw [HP.out]; exact r2
    have HBS := Lib.hid (one_share W x p)
    have HAP := Lib.hid r1
    have c0 := hS.cell 0 _ rfl
    have c1 := hS.cell 1 _ rfl
    clear r1 r2 r3 r4 hM3 hM2 O3 hO2 hW3 hW2 hK hG N14 M2 NX HML HOL
    go_wp2_with (first
      | (refine wpList_build_run rfl 25 1 #[(0, .tmp 83)] rfl #[(0, .agg #[I x, I p])] rfl _ _ HBS.out ?_)
      | (at_builtin; refine Lib.wpList_append_run _ rfl (.tmp 82) (.tmp 84) 25 25 rfl _ _ rfl rfl _ _ HAP.out ?_))
    refine ⟨⟨k + 1, _, _, _, _, _, _, _, _, _, _, _, _, _, _, v', x + 1, D :: Ds, rfl, by omega, by have := HX.out; omega, HO4.out, hW4.out, hM4.out⟩, ?_⟩
    simp [intOf]
    omega
  · have t1 : ¬ ((k : Int) + 1 ≤ (n : Int)) := by omega
    obtain rfl : k = n := by omega
    have HF := Lib.hid (HQ.out)
    go_wp2_with fail
    exact HF.out _ _ _ _ _ _ _ _ _ _ _ _ _ _ _ _ Ds wr hO hW hM

end Go.Proofs.Ytdnabeldaighgaa
