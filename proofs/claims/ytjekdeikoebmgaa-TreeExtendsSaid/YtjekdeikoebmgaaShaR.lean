/- The range over the pieces of 64 bytes in digest.Sum: the state behind it. -/
import Derived.Test.YtjekdeikoebmgaaShaC
import Derived.Test.YtjekdeikoebmgaaShaD
import Derived.Deep.RegionLaw
namespace Go.Proofs.Ytjekdeikoebmgaa
open Go.RowKit Go.Shelf
attribute [local go_sem] Oper.semAt_some

/-- The state behind some pieces. -/
def foldB (m : List UInt8) (N : Nat) (pre : List (Fin N)) : Sha.V := pre.foldl (fun v k => Sha.block v ((m.drop (64 * k.val)).take 64)) Sha.start
theorem foldB_ok (m : List UInt8) (N : Nat) (pre : List (Fin N)) : (foldB m N pre).Ok := by
  have : ∀ (l : List (Fin N)) (v : Sha.V), v.Ok → (l.foldl (fun v k => Sha.block v ((m.drop (64 * k.val)).take 64)) v).Ok := by
    intro l
    induction l with
    | nil => intro v h; exact h
    | cons x l ih => intro v _; exact ih _ (Sha.block_ok _ _)
  exact this pre _ Sha.start_ok
theorem foldB_snoc (m : List UInt8) (N : Nat) (pre : List (Fin N)) (x : Fin N) : foldB m N (pre ++ [x]) = Sha.block (foldB m N pre) ((m.drop (64 * x.val)).take 64) := by
  unfold foldB; rw [List.foldl_append]; rfl
theorem foldB_all (m : List UInt8) (N : Nat) : foldB m N (List.finRange N) = Sha.blocks N Sha.start m := by
  have : ∀ k, k ≤ N → foldB m N ((List.finRange N).take k) = Sha.blocks k Sha.start m := by
    intro k
    induction k with
    | zero => intro _; rfl
    | succ k ih => intro hk; rw [take_finRange k (by omega), foldB_snoc, ih (by omega), Sha.blocks_succ]
  have h := this N (Nat.le_refl _)
  rw [List.take_of_length_le (by simp)] at h
  exact h

/-- Between two rounds of Sum's range. -/
def SumI (w0 : World) (sb g : Nat) (O : Obj) (m : List UInt8) (N : Nat) (pre : List (Fin N)) (W : World) : Prop :=
  (Blk W sb (foldB m N pre).row 85 ∧ W.heap[g]? = some O) ∧ (w0.grownBy W (some sb))

theorem sumI_own {B : Nat} {w0 : World} {sb g N : Nat} {O : Obj} {m : List UInt8} (hO : O.isCells = true) (hB : w0.heap.size ≤ B) : OwnFrom B (SumI w0 sb g O m N) := by
  intro s A C row hs hg hr
  refine ⟨⟨hs.1.1.kept hg (fun r e => (hr r e).2), ?_⟩, ?_⟩
  · exact (grownBy_keeps_cells hg (fun r e => (hr r e).2) hs.1.2 hO).trans hs.1.2
  · have h := hs.2
    exact ⟨hg.os.trans h.os, hg.tape.trans h.tape, hg.output.trans h.output, Nat.le_trans h.size hg.size, fun i hi hne => (hg.block i (Nat.lt_of_lt_of_le hi h.size) (fun e => by have := (hr i e.symm).1; omega)).trans (h.block i hi hne)⟩

set_option maxRecDepth 100000 in
set_option maxHeartbeats 2000000 in
theorem sum_range (u0 u1 u2 u3 u4 u6 u7 u8 u9 u10 u11 u12 u13 u14 u15 u16 u17 u18 u19 u20 u21 u22 u23 u24 u25 u26 u27 u28 u29 u30 u31 u32 u33 u34 u35 u36 u38 u39 u40 u41 u42 u43 u44 u45 u46 u47 u48 u49 u50 u51 u52 u53 : Value) (sb g Bs Bn cap N : Nat) (m : List UInt8) (hm : m.length = 64 * N) (hpos : 1 ≤ N) (hcap : 64 * N ≤ cap) (hN : 64 * N ≤ 140737488355328) (w : World) (hs : Blk w sb Sha.start.row 85) (hB : BytesAt w g 0 m) (hg : g < w.heap.size) (hgs : g ≠ sb)
    (b1 : Blk w Bs #[.slice (some ⟨g, 0, none⟩) (64 * N) cap] 30) (b2 : Blk w Bn #[.int .i64 64] 3) (h1 : Bs ≠ sb) (h2 : Bn ≠ sb) (Q : Exit → Act → World → Prop)
    (hdone : ∀ (D : Nat) (W : World), w.heap.size ≤ D → W.heap[D]? = some (.deferred (some [])) → w.grownBy W (some sb) → Blk W sb (Sha.blocks N Sha.start m).row 85 → Q .normal ⟨(u0 :: u1 :: u2 :: u3 :: u4 :: (.pointer (some ⟨sb, 0, none⟩)) :: u6 :: u7 :: u8 :: u9 :: u10 :: u11 :: u12 :: u13 :: u14 :: u15 :: u16 :: u17 :: u18 :: u19 :: u20 :: u21 :: u22 :: u23 :: u24 :: u25 :: u26 :: u27 :: u28 :: u29 :: u30 :: u31 :: u32 :: u33 :: u34 :: u35 :: u36 :: (.func (.func 59) #[] #[.pointer (some ⟨Bs, 0, none⟩), .pointer (some ⟨Bn, 0, none⟩)]) :: u38 :: u39 :: u40 :: u41 :: u42 :: u43 :: u44 :: u45 :: u46 :: u47 :: u48 :: u49 :: u50 :: u51 :: u52 :: u53 :: []).toArray, [{ target := .collected D, args := #[] }]⟩ W) :
    Code.wpIn Fence.wide 10 Try.prog (rangeIn Try.f36 0) Q ⟨(u0 :: u1 :: u2 :: u3 :: u4 :: (.pointer (some ⟨sb, 0, none⟩)) :: u6 :: u7 :: u8 :: u9 :: u10 :: u11 :: u12 :: u13 :: u14 :: u15 :: u16 :: u17 :: u18 :: u19 :: u20 :: u21 :: u22 :: u23 :: u24 :: u25 :: u26 :: u27 :: u28 :: u29 :: u30 :: u31 :: u32 :: u33 :: u34 :: u35 :: u36 :: (.func (.func 59) #[] #[.pointer (some ⟨Bs, 0, none⟩), .pointer (some ⟨Bn, 0, none⟩)]) :: u38 :: u39 :: u40 :: u41 :: u42 :: u43 :: u44 :: u45 :: u46 :: u47 :: u48 :: u49 :: u50 :: u51 :: u52 :: u53 :: []).toArray, []⟩ w := by
  conv => arg 4; whnf
  obtain ⟨O, hO, hOc⟩ : ∃ O, w.heap[g]? = some O ∧ O.isCells = true := by
    refine ⟨w.heap[g], Array.getElem?_eq_getElem hg, ?_⟩
    have hlen : 0 < m.length := by omega
    have := hB 0 _ (List.getElem?_eq_getElem hlen)
    unfold World.cell? at this
    rw [Array.getElem?_eq_getElem hg] at this
    cases ho : w.heap[g] with
    | cells c t f => rfl
    | _ => rw [ho] at this; simp at this
  have HD := Lib.hid hdone
  clear hdone
  refine wpIn_rangeFunc_ownH rfl (by omega) (gf := 59) (lb := #[.pointer (some ⟨Bs, 0, none⟩), .pointer (some ⟨Bn, 0, none⟩)]) rfl trivial (enters_of Try.func59 (by kernel_rfl) rfl)
    (chunk1_stops 9 (by omega) Bs Bn sb g N cap hcap hN w b1 b2 h1 h2) KpX.trans (KpX.put (w := w)) (Below.refl _ _) (fun _ => rfl)
    (SumI w sb g O m N) (fun _ _ _ => False) (sumI_own hOc (Nat.le_refl _)) (fun _ _ _ _ _ h _ _ => h.elim)
    ⟨⟨hs, hO⟩, World.grownBy.refl w _⟩ (fun x a' _ => a' = ⟨(u0 :: u1 :: u2 :: u3 :: u4 :: (.pointer (some ⟨sb, 0, none⟩)) :: (.slice (some ⟨g, 64 * x.val, none⟩) 64 64) :: u7 :: u8 :: u9 :: u10 :: u11 :: u12 :: u13 :: u14 :: u15 :: u16 :: u17 :: u18 :: u19 :: u20 :: u21 :: u22 :: u23 :: u24 :: u25 :: u26 :: u27 :: u28 :: u29 :: u30 :: u31 :: u32 :: u33 :: u34 :: u35 :: u36 :: (.func (.func 59) #[] #[.pointer (some ⟨Bs, 0, none⟩), .pointer (some ⟨Bn, 0, none⟩)]) :: (.slice (some ⟨g, 64 * x.val, none⟩) 64 64) :: u39 :: u40 :: u41 :: u42 :: u43 :: u44 :: u45 :: u46 :: u47 :: u48 :: u49 :: u50 :: u51 :: u52 :: u53 :: []).toArray, []⟩)
    (fun x a' _ _ _ _ h _ _ => h) ?assign ?body ?done ?stop
  case assign =>
    rintro l pre x W K hi hK
    gi_wp2
    exact hK _ _ (KeepsFrom.refl _ _) (KpX.refl _ _) hi rfl
  case body =>
    rintro l pre x a' W hl ⟨r, hr⟩ ⟨⟨i1, i2⟩, hG⟩ rfl hlt
    have hx := x.isLt
    have hBW : BytesAt W g (64 * x.val) ((m.drop (64 * x.val)).take 64) := fun i y hy => by
      rw [World.cell?_of_block (w := w) (w' := W) (a := ⟨g, 64 * x.val + i, none⟩) (i2.trans hO.symm)]
      have hi : i < 64 := by have := (List.getElem?_eq_some_iff.1 hy).1; simp at this; omega
      rw [List.getElem?_take_of_lt hi, List.getElem?_drop] at hy
      have := hB _ _ hy
      rwa [Nat.zero_add] at this
    have hgW : g < W.heap.size := (Array.getElem?_eq_some_iff.1 i2).1
    have HA := Lib.hid (add_any sb g (64 * x.val) 64 (foldB m N pre) (foldB_ok m N pre) ((m.drop (64 * x.val)).take 64) (by simp; omega) (Nat.le_refl _) W hBW hgW i1)
    have HF := Lib.hid (foldB_snoc m N pre x)
    clear hBW
    gi_wp2_with (refine ⟨trivial, ?_⟩; gi_at_call 55; refine (CallsIn.inRound l (callsIn_wide.2 HA.out)).mono ?_; rintro e w5 ⟨rfl, hg5, hs5⟩)
    have hsb := hs.lt
    refine ⟨KeepsFrom.of_grownBy hg5 (fun j e => by cases e; exact hsb), KpX.of_grown hg5, ⟨by rw [HF.out]; exact hs5, (hg5.block g hgW (by intro e; injection e with e; exact hgs e)).trans i2⟩, ?_⟩
    exact ⟨hg5.os.trans hG.os, hg5.tape.trans hG.tape, hg5.output.trans hG.output, Nat.le_trans hG.size hg5.size, fun i hi hne => (hg5.block i (Nat.lt_of_lt_of_le hi hG.size) hne).trans (hG.block i hi hne)⟩
  case done =>
    rintro D ys W hD rfl ⟨⟨i1, i2⟩, hG⟩ hK
    rw [foldB_all] at i1
    exact HD.out D W hD hK hG i1
  case stop =>
    rintro D c pre W hD hpre h hK
    exact h.elim

/-- The cells of a hash. -/
def hrow (l : List UInt8) : Array Value := (l.map Y).toArray
/-- The result while its words are written one by one. -/
def orow (v : Sha.V) (k : Nat) : List UInt8 := (Sha.out v).take (4 * k) ++ List.replicate (32 - 4 * k) 0
theorem orow_splice (v : Sha.V) (k : Nat) (h : k < 8) : ((((orow v k).map Y).take (4 * k) ++ (Sha.bytes4 (v.list.getD k 0)).map Y ++ ((orow v k).map Y).drop (4 * k + 4))) = (orow v (k + 1)).map Y :=
  lt8 (P := fun k => ((((orow v k).map Y).take (4 * k) ++ (Sha.bytes4 (v.list.getD k 0)).map Y ++ ((orow v k).map Y).drop (4 * k + 4))) = (orow v (k + 1)).map Y) rfl rfl rfl rfl rfl rfl rfl rfl k h
theorem orow_length (v : Sha.V) (k : Nat) (h : k ≤ 8) : (orow v k).length = 32 := by unfold orow; rw [List.length_append, List.length_take, Sha.out_length]; simp; omega
theorem list_lt {v : Sha.V} (hv : v.Ok) (k : Nat) : v.list.getD k 0 < 4294967296 := by
  rw [List.getD_eq_getElem?_getD]
  cases hk : v.list[k]? with
  | none => simp
  | some x =>
    have := List.mem_of_getElem? hk
    simp only [Sha.V.list, List.mem_cons, List.not_mem_nil, or_false] at this
    rcases this with rfl | rfl | rfl | rfl | rfl | rfl | rfl | rfl
    · exact hv.a
    · exact hv.b
    · exact hv.c
    · exact hv.d
    · exact hv.e
    · exact hv.f
    · exact hv.g
    · exact hv.h
theorem infoB1 : (Try.prog.info? 5).map (·.size) = some 1 := by kernel_rfl

/-- Four bytes of a word behind one another, in a block of their own. -/
theorem bytes4_at (w : World) (x : Nat) : ∀ (j : Nat) (y : UInt8), (Sha.bytes4 x)[j]? = some y → (w.alloc (.cells ((Sha.bytes4 x).map Y).toArray 5)).cell? ((⟨w.heap.size, 0, none⟩ : Addr).add j) = some (Y y) := by
  intro j y hy
  rw [Addr.add_lit, Nat.zero_add]
  refine (Blk.new w ((Sha.bytes4 x).map Y).toArray 5).cell j _ ?_
  rw [List.getElem?_toArray, List.getElem?_map, hy]; rfl
theorem step_copy_run {P : Program} {ops : Array Oper} {o : Oper} {a : Act} {w : World} {K : Act → World → Prop} {Q : Exit → Act → World → Prop} {E : Prop} (hgd : o.guard = none) (d s : Operand) (dT sT : TypeId)
    (ho : o.op = .call { callee := .builtin .copy, args := #[d, s], argTypes := #[dT, sT] }) (vd vs : Value) (hd : a.eval d = vd) (hs : a.eval s = vs)
    (v' : Value) (w' : World) (hr : (Builtin.copy_ #[dT, sT] o.type #[vd, vs]).run P w = .ok v' w') (h : K (a.put o.dst v') w') : if Region.wanted o (yielded ops a.tmps) = true then Oper.wp P o a w K Q else E := by
  have hw : Region.wanted o (yielded ops a.tmps) = true := by simp [Region.wanted, hgd]
  rw [if_pos hw]
  unfold Oper.wp execOp
  simp only [ho, resolve, invoke, builtin, Sem.run_bind, Sem.run_pure, Result.andThen_ok, List.map_toArray, List.map_cons, List.map_nil, hd, hs, hr]
  exact h

theorem slice8 (ob : Nat) (k : Nat) (h : k < 8) : ∀ W, (Instr.sliceAt 24 (.pointer (some ⟨ob, 0, none⟩)) (some (.int .i64 (4 * (k : Int)))) none none).run Try.prog W = .ok (.slice (some ⟨ob, 4 * k, none⟩) (32 - 4 * k) (32 - 4 * k)) W :=
  lt8 (P := fun k => ∀ W, (Instr.sliceAt 24 (.pointer (some ⟨ob, 0, none⟩)) (some (.int .i64 (4 * (k : Int)))) none none).run Try.prog W = .ok (.slice (some ⟨ob, 4 * k, none⟩) (32 - 4 * k) (32 - 4 * k)) W)
    (fun _ => by kernel_rfl) (fun _ => by kernel_rfl) (fun _ => by kernel_rfl) (fun _ => by kernel_rfl) (fun _ => by kernel_rfl) (fun _ => by kernel_rfl) (fun _ => by kernel_rfl) (fun _ => by kernel_rfl) k h

/-- One word is copied into the result. -/
theorem run_copy_word (W : World) (ty : TypeId) (ob q : Nat) (v : Sha.V) (k : Nat) (hk : k < 8) (hb : Blk W ob (hrow (orow v k)) 24) (hsrc : ∀ (j : Nat) (y : UInt8), (Sha.bytes4 (v.list.getD k 0))[j]? = some y → W.cell? ((⟨q, 0, none⟩ : Addr).add j) = some (Y y)) :
    (Builtin.copy_ #[30, 30] ty #[.slice (some ⟨ob, 4 * k, none⟩) (32 - 4 * k) (32 - 4 * k), .slice (some ⟨q, 0, none⟩) 4 4]).run Try.prog W = .ok (.int .i64 4) (W.setRow ob (hrow (orow v (k + 1)))) := by
  have h := run_copy_row (P := Try.prog) W 30 30 ty 5 ob (4 * k) (32 - 4 * k) (32 - 4 * k) ⟨q, 0, none⟩ 4 4 (hrow (orow v k)) 24 ((Sha.bytes4 (v.list.getD k 0)).map Y) Try.underlying30 infoB1 hb
    (by rw [show Nat.min 4 (32 - 4 * k) = 4 from Nat.min_eq_left (by omega)]; rfl) (fun j u hu => by obtain ⟨y, hy, rfl⟩ := getElem_mapY _ _ _ hu; exact hsrc j y hy) (by simp [hrow, Sha.bytes4_length, orow_length v k (by omega)]; omega) (bytes_one _)
  have e : ((hrow (orow v k)).toList.take (4 * k) ++ (Sha.bytes4 (v.list.getD k 0)).map Y ++ (hrow (orow v k)).toList.drop (4 * k + ((Sha.bytes4 (v.list.getD k 0)).map Y).length)).toArray = hrow (orow v (k + 1)) := by
    unfold hrow
    rw [← orow_splice v k hk]; rfl
  rw [e] at h
  exact h

set_option maxRecDepth 100000 in
set_option maxHeartbeats 2000000 in
theorem sum_loop (df : List Deferred) (u0 u1 u2 u3 u4 u5 u6 u8 u9 u10 u11 u12 u13 u14 u15 u16 u17 u18 u19 u20 u21 u22 u23 u24 u25 u26 u27 u28 u29 u30 u31 u32 u33 u34 u35 u36 u37 u38 u39 u40 u43 u44 u45 u46 u47 u48 u49 u50 u51 u52 u53 : Value) (ob : Nat) (v : Sha.V) (hv : v.Ok) (w : World) (hb : Blk w ob (hrow (orow v 0)) 24) (Q : Exit → Act → World → Prop)
    (hexit : ∀ (y8 y9 y44 y45 y46 y47 y48 y49 y50 y51 y52 : Value) (w' : World), w.grownBy w' (some ob) → Blk w' ob (hrow (orow v 8)) 24 → Q (.exit 2) ⟨(u0 :: u1 :: u2 :: u3 :: u4 :: u5 :: u6 :: (.pointer (some ⟨ob, 0, none⟩)) :: y8 :: y9 :: u10 :: u11 :: u12 :: u13 :: u14 :: u15 :: u16 :: u17 :: u18 :: u19 :: u20 :: u21 :: u22 :: u23 :: u24 :: u25 :: u26 :: u27 :: u28 :: u29 :: u30 :: u31 :: u32 :: u33 :: u34 :: u35 :: u36 :: u37 :: u38 :: u39 :: u40 :: (.agg #[U v.a, U v.b, U v.c, U v.d, U v.e, U v.f, U v.g, U v.h]) :: (.int .i64 8) :: (.bool false) :: y44 :: y45 :: y46 :: y47 :: y48 :: y49 :: y50 :: y51 :: y52 :: u53 :: []).toArray, df⟩ w') : Code.wp Try.prog (loopIn Try.f36 0) Q ⟨(u0 :: u1 :: u2 :: u3 :: u4 :: u5 :: u6 :: (.pointer (some ⟨ob, 0, none⟩)) :: u8 :: u9 :: u10 :: u11 :: u12 :: u13 :: u14 :: u15 :: u16 :: u17 :: u18 :: u19 :: u20 :: u21 :: u22 :: u23 :: u24 :: u25 :: u26 :: u27 :: u28 :: u29 :: u30 :: u31 :: u32 :: u33 :: u34 :: u35 :: u36 :: u37 :: u38 :: u39 :: u40 :: (.agg #[U v.a, U v.b, U v.c, U v.d, U v.e, U v.f, U v.g, U v.h]) :: (.int .i64 0) :: u43 :: u44 :: u45 :: u46 :: u47 :: u48 :: u49 :: u50 :: u51 :: u52 :: u53 :: []).toArray, df⟩ w := by
  have HX := Lib.hid hexit
  clear hexit
  conv => arg 2; whnf
  go_loopw [42] (fun i wr => ∃ k : Nat, k ≤ 8 ∧ i = .int .i64 k ∧ Blk wr ob (hrow (orow v k)) 24 ∧ w.grownBy wr (some ob)) (fun i _ => 8 - (intOf i).toNat)
  case atStart => exact ⟨0, by omega, rfl, hb, World.grownBy.refl w _⟩
  case round =>
    clear hb
    obtain ⟨k, hk, rfl, hb, hG⟩ := hrel
    by_cases hlt : k < 8
    · have hi := idx8 v k hlt
      have b1 : (k : Int) < 8 := by omega
      have lx := list_lt hv k
      have hsl := slice8 ob k hlt
      have hwr : IntKind.i64.wrap (4 * (k : Int)) = 4 * (k : Int) := IntWalk.i64_in _ (by omega)
      have HC := Lib.hid (fun W ty q hb hs => run_copy_word W ty ob q v k hlt hb hs)
      generalize v.list.getD k 0 = x at *
      go_wp2_with fail
      refine wp_region_noPanic ?_
      go_region_held3 (fun _ : World => True) (first | exact trivial) (first
        | (refine step_copy_run rfl (.tmp 48) (.tmp 50) 30 30 rfl _ _ rfl rfl _ _ (HC.out _ _ _ (hb.alloc _) (bytes4_at wr x)) ?_)
        | (go_at_call 52; refine (bytes_any x lx _).mono ?_; rintro e w5 ⟨rfl, rfl⟩))
      refine NoPanic.normal ?_
      clear hsl hwr hi HC
      go_wp2_with fail
      go_roundw
      case rel => exact ⟨k + 1, by omega, by go_num, ((hb.alloc _).drew).row _, grown_row (grown_drew (grown_alloc hG _)) _⟩
      case measure => simp [intOf]; omega
    · obtain rfl : k = 8 := by omega
      clear hlt hk
      go_wp2_with fail
      exact HX.out _ _ _ _ _ _ _ _ _ _ _ wr hG hb

end Go.Proofs.Ytjekdeikoebmgaa
