/- The contract of Pow. Conditions: none but the range of int. -/
import Derived.Test.YtdnabeldaighgaaPow
namespace Go.Proofs.Ytdnabeldaighgaa
open Go.RowKit Go.Shelf
attribute [local go_sem] Oper.semAt_some

/-- The power behind some digits. -/
def pstep (x m : Nat) (o : Nat) (b : Bool) : Nat := if b then o * o % m * x % m else o * o % m
def pacc (x m : Nat) (l : List Bool) : Nat := l.foldl (pstep x m) (1 % m)
theorem pacc_snoc (x m : Nat) (l : List Bool) (b : Bool) : pacc x m (l ++ [b]) = pstep x m (pacc x m l) b := by unfold pacc; rw [List.foldl_append]; rfl
theorem pstep_lt (x m o : Nat) (b : Bool) (hm : 0 < m) : pstep x m o b < m := by unfold pstep; split <;> exact Nat.mod_lt _ hm
theorem pacc_lt (x m : Nat) (l : List Bool) (hm : 0 < m) : pacc x m l < m := by
  have : ∀ (l : List Bool) (o : Nat), o < m → l.foldl (pstep x m) o < m := by
    intro l
    induction l with
    | nil => intro o h; exact h
    | cons b l ih => intro o _; exact ih _ (pstep_lt x m o b hm)
  exact this l _ (Nat.mod_lt _ hm)
def dbl (v : Nat) (b : Bool) : Nat := 2 * v + b.toNat
theorem pstep_pow (x m v : Nat) (b : Bool) : pstep x m (x ^ v % m) b = x ^ dbl v b % m := by
  have e : x ^ v % m * (x ^ v % m) % m = x ^ (2 * v) % m := by rw [← Nat.mul_mod, ← Nat.pow_add, show v + v = 2 * v by omega]
  unfold pstep dbl
  cases b
  · simp [e]
  · simp only [if_true, e, Bool.toNat_true]
    rw [Nat.pow_succ, Nat.mod_mul_mod]
theorem pacc_pow (x m : Nat) : ∀ (l : List Bool) (v : Nat), l.foldl (pstep x m) (x ^ v % m) = x ^ (l.foldl dbl v) % m
  | [], _ => rfl
  | b :: l, v => by rw [List.foldl_cons, List.foldl_cons, pstep_pow, pacc_pow x m l]
theorem bts_val (n : Int) (L : Nat) : ∀ k, k ≤ L → n.toNat < 2 ^ L → (bts n L k).foldl dbl 0 = n.toNat / 2 ^ (L - k)
  | 0, _, h => by
    rw [Nat.sub_zero, Nat.div_eq_of_lt h]; rfl
  | k + 1, hk, h => by
    rw [bts_succ, List.foldl_append, bts_val n L k (by omega) h]
    show 2 * (n.toNat / 2 ^ (L - k)) + (bt n (L - 1 - k)).toNat = _
    have e : 2 ^ (L - k) = 2 ^ (L - (k + 1)) * 2 := by rw [← Nat.pow_succ]; congr 1; omega
    rw [e, ← Nat.div_div_eq_div_mul, bt, show L - 1 - k = L - (k + 1) by omega]
    generalize n.toNat / 2 ^ (L - (k + 1)) = z
    by_cases hz : z % 2 = 1
    · simp [hz]; omega
    · have : z % 2 = 0 := by omega
      simp [this]; omega
theorem pacc_bts (x m : Nat) (n : Int) (L : Nat) (h : n.toNat < 2 ^ L) : pacc x m (bts n L L) = x ^ n.toNat % m := by
  have h1 := pacc_pow x m (bts n L L) 0
  rw [bts_val n L L (Nat.le_refl _) h, Nat.sub_self, Nat.pow_zero, Nat.div_one] at h1
  exact h1

/-- Between two rounds. -/
def PowR (w0 : World) (sb bx bz x m : Nat) (pre : List Bool) (W : World) : Prop :=
  (Blk W sb #[W64 (pacc x m pre)] 57 ∧ Blk W bx #[W64 x] 57 ∧ Blk W bz #[W64 m] 57) ∧ w0.grownBy W (some sb)
theorem powR_own {B : Nat} {w0 : World} {sb bx bz x m : Nat} (hB : w0.heap.size ≤ B) : OwnFrom B (PowR w0 sb bx bz x m) := by
  intro s A C row hs hg hr
  refine ⟨⟨hs.1.1.kept hg (fun r e => (hr r e).2), hs.1.2.1.kept hg (fun r e => (hr r e).2), hs.1.2.2.kept hg (fun r e => (hr r e).2)⟩, ?_⟩
  have h := hs.2
  exact ⟨hg.os.trans h.os, hg.tape.trans h.tape, hg.output.trans h.output, Nat.le_trans h.size hg.size, fun i hi hne => (hg.block i (Nat.lt_of_lt_of_le hi h.size) (fun e => by have := (hr i e.symm).1; omega)).trans (h.block i hi hne)⟩

/-- What a round of the range leaves. -/
def RndP (W : World) (sb bx bz x m o : Nat) (W' : World) : Prop :=
  (Blk W' sb #[W64 o] 57 ∧ Blk W' bx #[W64 x] 57 ∧ Blk W' bz #[W64 m] 57) ∧ W.grownBy W' (some sb)
theorem rnd_step {W W' : World} {sb bx bz x m o o' : Nat} (h : RndP W sb bx bz x m o W') (w5 : World) (hb : Below W'.heap.size W' w5) (h1 : bx ≠ sb) (h2 : bz ≠ sb) : RndP W sb bx bz x m o' (w5.setCell ⟨sb, 0, none⟩ (W64 o')) := by
  obtain ⟨⟨a, b, c⟩, g⟩ := h
  have a' := (a.below hb a.lt).set 0 (W64 o')
  exact ⟨⟨a', (b.below hb b.lt).other (a := ⟨sb, 0, none⟩) h1 _, (c.below hb c.lt).other (a := ⟨sb, 0, none⟩) h2 _⟩, grown_set (grown_then g hb) 0 _⟩

theorem rnd_done {w W W' : World} {sb bx bz x m o : Nat} {l : List Bool} (hsb : sb < w.heap.size) (hG : w.grownBy W (some sb)) (h : RndP W sb bx bz x m o W') (e : pacc x m l = o) :
    KeepsFrom w.heap.size W W' ∧ KpX sb W W' ∧ PowR w sb bx bz x m l W' := by
  refine ⟨KeepsFrom.of_grownBy h.2 (fun j e => by cases e; exact hsb), KpX.of_grown h.2, ⟨by rw [e]; exact h.1.1, h.1.2.1, h.1.2.2⟩, ?_⟩
  exact ⟨h.2.os.trans hG.os, h.2.tape.trans hG.tape, h.2.output.trans hG.output, Nat.le_trans hG.size h.2.size, fun i hi hne => (h.2.block i (Nat.lt_of_lt_of_le hi hG.size) hne).trans (hG.block i hi hne)⟩

set_option maxRecDepth 100000 in
set_option maxHeartbeats 2000000 in
theorem pow_range (u0 u1 u2 u3 u4 u5 u6 u10 u11 u12 u13 u14 u15 u16 u17 u18 u19 u20 u21 u22 u23 u24 u26 u27 u28 u29 u30 u31 u32 u33 u34 u35 u36 u37 : Value) (sb bx bz Bn x m : Nat) (n : Int) (L : Nat) (hm : 1 ≤ m) (hm2 : m ≤ 9223372036854775807) (hx : x < m) (hn0 : 0 ≤ n) (hn : n ≤ 9223372036854775807) (hL : Lib.bitLen n.toNat = L) (hL2 : L ≤ 63) (w : World)
    (b1 : Blk w sb #[W64 (1 % m)] 57) (b2 : Blk w bx #[W64 x] 57) (b3 : Blk w bz #[W64 m] 57) (b4 : Blk w Bn #[I n] 3) (h1 : bx ≠ sb) (h2 : bz ≠ sb) (h3 : Bn ≠ sb) (Q : Exit → Act → World → Prop)
    (hdone : ∀ (D : Nat) (W : World), w.heap.size ≤ D → W.heap[D]? = some (.deferred (some [])) → w.grownBy W (some sb) → Blk W sb #[W64 (pacc x m (bts n L L))] 57 → Q .normal ⟨(u0 :: u1 :: u2 :: u3 :: u4 :: u5 :: u6 :: (.pointer (some ⟨bx, 0, none⟩)) :: (.pointer (some ⟨bz, 0, none⟩)) :: (.pointer (some ⟨sb, 0, none⟩)) :: u10 :: u11 :: u12 :: u13 :: u14 :: u15 :: u16 :: u17 :: u18 :: u19 :: u20 :: u21 :: u22 :: u23 :: u24 :: (.func (.func 63) #[] #[.pointer (some ⟨Bn, 0, none⟩)]) :: u26 :: u27 :: u28 :: u29 :: u30 :: u31 :: u32 :: u33 :: u34 :: u35 :: u36 :: u37 :: []).toArray, [{ target := .collected D, args := #[] }]⟩ W) :
    Code.wpIn Fence.wide 10 Try.prog (rangeIn Try.f42 0) Q ⟨(u0 :: u1 :: u2 :: u3 :: u4 :: u5 :: u6 :: (.pointer (some ⟨bx, 0, none⟩)) :: (.pointer (some ⟨bz, 0, none⟩)) :: (.pointer (some ⟨sb, 0, none⟩)) :: u10 :: u11 :: u12 :: u13 :: u14 :: u15 :: u16 :: u17 :: u18 :: u19 :: u20 :: u21 :: u22 :: u23 :: u24 :: (.func (.func 63) #[] #[.pointer (some ⟨Bn, 0, none⟩)]) :: u26 :: u27 :: u28 :: u29 :: u30 :: u31 :: u32 :: u33 :: u34 :: u35 :: u36 :: u37 :: []).toArray, []⟩ w := by
  conv => arg 4; whnf
  have HD := Lib.hid hdone
  clear hdone
  refine wpIn_rangeFunc_ownH rfl (by omega) (gf := 63) (lb := #[.pointer (some ⟨Bn, 0, none⟩)]) rfl trivial (enters_of Try.func63 (by kernel_rfl) rfl)
    (binary1_stops 9 (by omega) Bn sb L n hn0 hn hL hL2 w b4 h3) KpX.trans (KpX.put (w := w)) (Below.refl _ _) (fun _ => rfl)
    (PowR w sb bx bz x m) (fun _ _ _ => False) (powR_own (Nat.le_refl _)) (fun _ _ _ _ _ h _ _ => h.elim)
    ⟨⟨b1, b2, b3⟩, World.grownBy.refl w _⟩ (fun b a' _ => a' = ⟨(u0 :: u1 :: u2 :: u3 :: u4 :: u5 :: u6 :: (.pointer (some ⟨bx, 0, none⟩)) :: (.pointer (some ⟨bz, 0, none⟩)) :: (.pointer (some ⟨sb, 0, none⟩)) :: (.bool b) :: u11 :: u12 :: u13 :: u14 :: u15 :: u16 :: u17 :: u18 :: u19 :: u20 :: u21 :: u22 :: u23 :: u24 :: (.func (.func 63) #[] #[.pointer (some ⟨Bn, 0, none⟩)]) :: (.bool b) :: u27 :: u28 :: u29 :: u30 :: u31 :: u32 :: u33 :: u34 :: u35 :: u36 :: u37 :: []).toArray, []⟩)
    (fun x a' _ _ _ _ h _ _ => h) ?assign ?body ?done ?stop
  case assign =>
    rintro l pre x W K hi hK
    gi_wp2
    exact hK _ _ (KeepsFrom.refl _ _) (KpX.refl _ _) hi rfl
  case body =>
    rintro l pre b a' W hl ⟨r, hr⟩ ⟨⟨i1, i2, i3⟩, hG⟩ rfl hlt
    have hlo := pacc_lt x m pre (by omega)
    have HSN := Lib.hid (pacc_snoc x m pre b)
    have ho : pacc x m pre < 18446744073709551616 := by omega
    generalize pacc x m pre = o at *
    have HM := Lib.hid (fun a b (ha : a < 18446744073709551616) (hb : b < 18446744073709551616) w => mulu_any a b m hm (by omega) ha hb w)
    have hsb := b1.lt
    have hoo : o * o % m < 18446744073709551616 := by have := Nat.mod_lt (o * o) (show m > 0 by omega); omega
    have H0 := Lib.hid (show RndP W sb bx bz x m o W from ⟨⟨i1, i2, i3⟩, World.grownBy.refl W _⟩)
    have c1 := i1.cell 0 _ rfl
    have c3 := i3.cell 0 _ rfl
    have hx64 : x < 18446744073709551616 := by omega
    gi_wp2_with fail
    refine ⟨trivial, ?_⟩
    refine (CallsIn.inRound l (callsIn_wide.2 (HM.out o o ho ho _))).mono ?_
    rintro e w5 ⟨rfl, hb5⟩
    have H1 := rnd_step (o' := o * o % m) H0.out w5 hb5 h1 h2
    have j1 := i1.below hb5 i1.lt
    have d1 := j1.cell 0 _ rfl
    have z1 := j1.frozen 0
    clear c1 c3
    obtain ⟨o2, ho2⟩ : ∃ z, o * o % m = z := ⟨_, rfl⟩
    have HO2 := Lib.hid ho2
    rw [ho2] at H1 hoo
    simp only [ho2]
    clear ho2
    cases b
    · gi_wp2_with fail
      exact rnd_done hsb hG H1 (by rw [HSN.out, pstep, HO2.out]; rfl)
    · obtain ⟨⟨k1, k2, k3⟩, kG⟩ := H1
      have e1 := k1.cell 0 _ rfl
      have e2 := k2.cell 0 _ rfl
      have e3 := k3.cell 0 _ rfl
      have H2 := Lib.hid (show RndP W sb bx bz x m o2 (w5.setCell ⟨sb, 0, none⟩ (W64 o2)) from ⟨⟨k1, k2, k3⟩, kG⟩)
      gi_wp2_with fail
      refine ⟨trivial, ?_⟩
      refine (CallsIn.inRound l (callsIn_wide.2 (HM.out o2 x hoo hx64 _))).mono ?_
      rintro e w6 ⟨rfl, hb6⟩
      have H3 := rnd_step (o' := o2 * x % m) H2.out w6 hb6 h1 h2
      have j3 := k1.below hb6 k1.lt
      have d3 := j3.cell 0 _ rfl
      have z3 := j3.frozen 0
      clear e1 e2 e3
      obtain ⟨o3, ho3⟩ : ∃ z, o2 * x % m = z := ⟨_, rfl⟩
      have HO3 := Lib.hid ho3
      rw [ho3] at H3
      simp only [ho3]
      clear ho3
      gi_wp2_with fail
      exact rnd_done hsb hG H3 (by rw [HSN.out, pstep, HO2.out, if_pos rfl, HO3.out])
  case done =>
    rintro D ys W hD rfl ⟨⟨i1, _, _⟩, hG⟩ hK
    exact HD.out D W hD hK hG i1
  case stop =>
    rintro D c pre W hD _ h
    exact h.elim

theorem Pow_none (a n m : Int) (h : m < 1 ∨ n < 0) (w : World) :
    Calls Try.prog 42 #[I a, I n, I m] w fun e w' => e = .returned (I (Fld.powS a n m)) ∧ Below w.heap.size w w' := by
  rw [Fld.powS, if_pos h]
  by_cases hm : m < 1
  · go_enter Try.func42, Try.ntmps42
    go_wp2_with fail
    go_ret
    exact ⟨rfl, Below.refl _ w⟩
  · have hn : n < 0 := by omega
    go_enter Try.func42, Try.ntmps42
    go_wp2_with fail
    go_ret
    exact ⟨rfl, Below.refl _ w⟩

theorem bitLen_nat (n : Int) (hn : n ≤ 9223372036854775807) : Lib.bitLen n.toNat ≤ 63 ∧ n.toNat < 2 ^ Lib.bitLen n.toNat := by
  by_cases h0 : n.toNat = 0
  · rw [h0]; exact ⟨by decide, by decide⟩
  · obtain ⟨k, h1, h2, h3, h4⟩ := bl_bounds 63 n.toNat (by omega) h0
    obtain ⟨k', h1', h2', h3', h4'⟩ := bl_bounds 64 n.toNat (by omega) h0
    unfold Lib.bitLen
    rw [h1']
    refine ⟨?_, h4'⟩
    have : 2 ^ k' < 2 ^ (k + 1) := Nat.lt_of_le_of_lt h3' h4
    have := (Nat.pow_lt_pow_iff_right (a := 2) (by omega)).1 this
    omega

set_option maxRecDepth 100000 in
set_option maxHeartbeats 2000000 in
theorem Pow_any (a n m : Int) (ha : In64 a) (hn : In64 n) (hm2 : m ≤ 9223372036854775807) (w : World) :
    Calls Try.prog 42 #[I a, I n, I m] w fun e w' => e = .returned (I (Fld.powS a n m)) ∧ Below w.heap.size w w' := by
  by_cases h : m < 1 ∨ n < 0
  · exact Pow_none a n m h w
  · have hm1 : 1 ≤ m := by omega
    have hn0 : 0 ≤ n := by omega
    obtain ⟨hL2, hnL⟩ := bitLen_nat n hn.2
    obtain ⟨L, hL⟩ : ∃ L, Lib.bitLen n.toNat = L := ⟨_, rfl⟩
    rw [hL] at hL2 hnL
    have HP : Hid (((pacc (rs a m) m.toNat (bts n L L) : Nat) : Int) = Fld.powS a n m) := by
      show _ = _
      rw [pacc_bts _ _ n L hnL, Fld.powS_eq a n m hm1 hn0 (by have := hn.2; omega), Int.natCast_emod, Int.natCast_pow, rs_cast hm1, toNat_cast hm1, Fld.emod_pow]
    have hpl := pacc_lt (rs a m) m.toNat (bts n L L) (by omega)
    have HRa := Lib.hid (fun w => residue_any a m ha hm1 hm2 w)
    have HRb := Lib.hid (fun w => residue_any 1 m ⟨by omega, by omega⟩ hm1 hm2 w)
    have e1 : rs 1 m = 1 % m.toNat := by
      have h1 := rs_cast (a := 1) hm1
      have h2 : ((1 % m.toNat : Nat) : Int) = 1 % m := by rw [Int.natCast_emod, toNat_cast hm1]; rfl
      omega
    have hxl : rs a m < m.toNat := by have := rs_lt (a := a) hm1; omega
    generalize rs a m = x at *
    generalize rs 1 m = o at *
    obtain ⟨k, hk⟩ : ∃ k : Nat, m = (k : Int) := ⟨m.toNat, by omega⟩
    subst hk
    rw [Int.toNat_natCast] at *
    have HPR := Lib.hid hpl
    have HE1 := Lib.hid e1
    clear hpl e1 h
    have hm0 : ¬ ((k : Int) < 1) := by omega
    have hn00 : ¬ n < 0 := by omega
    refine (callsIn_wide (n := 10)).1 ?_
    refine callsIn_of_wp_marks Try.func42 rfl trivial ?_ rfl
    simp only [Try.ntmps42, List.size_toArray, List.length_cons, List.length_nil, Nat.reduceAdd, Nat.reduceSub, Array.replicate_succ, Array.replicate_zero, List.push_toArray, List.append_toArray, List.nil_append, List.cons_append]
    refine wpIn_wide.2 ?_
    go_wp2_with fail
    refine (HRa.out _).mono ?_; rintro e w1 ⟨rfl, rfl⟩
    go_wp2_with fail
    refine (HRb.out _).mono ?_; rintro e w1 ⟨rfl, rfl⟩
    go_wp2_with fail
    refine (binary_any _ _).mono ?_; rintro e w1 ⟨rfl, rfl⟩
    go_wp2_with fail
    have c1 : Blk ((((w.alloc (.cells #[.int .u64 (x : Int)] 57)).alloc (.cells #[.int .u64 (k : Int)] 57)).alloc (.cells #[.int .u64 (o : Int)] 57)).alloc (.cells #[I n] 3)) w.heap.size #[W64 x] 57 := (((Blk.new _ _ _).alloc _).alloc _).alloc _
    have c2 : Blk ((((w.alloc (.cells #[.int .u64 (x : Int)] 57)).alloc (.cells #[.int .u64 (k : Int)] 57)).alloc (.cells #[.int .u64 (o : Int)] 57)).alloc (.cells #[I n] 3)) (w.heap.size + 1) #[W64 k] 57 := by
      have := ((Blk.new (w.alloc (.cells #[.int .u64 (x : Int)] 57)) #[W64 k] 57).alloc (.cells #[.int .u64 (o : Int)] 57)).alloc (.cells #[I n] 3)
      simpa only [World.size_alloc] using this
    have c3 : Blk ((((w.alloc (.cells #[.int .u64 (x : Int)] 57)).alloc (.cells #[.int .u64 (k : Int)] 57)).alloc (.cells #[.int .u64 (o : Int)] 57)).alloc (.cells #[I n] 3)) (w.heap.size + 1 + 1) #[W64 (1 % k)] 57 := by
      have := (Blk.new ((w.alloc (.cells #[.int .u64 (x : Int)] 57)).alloc (.cells #[.int .u64 (k : Int)] 57)) #[W64 o] 57).alloc (.cells #[I n] 3)
      rw [HE1.out] at this ⊢
      simpa only [World.size_alloc] using this
    have c4 : Blk ((((w.alloc (.cells #[.int .u64 (x : Int)] 57)).alloc (.cells #[.int .u64 (k : Int)] 57)).alloc (.cells #[.int .u64 (o : Int)] 57)).alloc (.cells #[I n] 3)) (w.heap.size + 1 + 1 + 1) #[I n] 3 := by
      have := Blk.new (((w.alloc (.cells #[.int .u64 (x : Int)] 57)).alloc (.cells #[.int .u64 (k : Int)] 57)).alloc (.cells #[.int .u64 (o : Int)] 57)) #[I n] 3
      simpa only [World.size_alloc] using this
    have tb : Below w.heap.size w ((((w.alloc (.cells #[.int .u64 (x : Int)] 57)).alloc (.cells #[.int .u64 (k : Int)] 57)).alloc (.cells #[.int .u64 (o : Int)] 57)).alloc (.cells #[I n] 3)) := ((((Below.refl _ w).alloc (Nat.le_refl _) _).alloc (by simp) _).alloc (by simp; omega) _).alloc (by simp; omega) _
    generalize ((((w.alloc (.cells #[.int .u64 (x : Int)] 57)).alloc (.cells #[.int .u64 (k : Int)] 57)).alloc (.cells #[.int .u64 (o : Int)] 57)).alloc (.cells #[I n] 3)) = W0 at *
    refine (wpIn_wide (n := 10)).1 ?_
    refine pow_range _ _ _ _ _ _ _ _ _ _ _ _ _ _ _ _ _ _ _ _ _ _ _ _ _ _ _ _ _ _ _ _ _ _ (w.heap.size + 1 + 1) w.heap.size (w.heap.size + 1) (w.heap.size + 1 + 1 + 1) x k n L (by omega) (by omega) hxl hn0 hn.2 hL hL2 W0 c3 c1 c2 c4 (by omega) (by omega) (by omega) _ ?_
    intro D W hD hK hG hS
    have tbW := below_grown tb hG tb.size (by omega)
    have hpk := HPR.out
    have hp63 : pacc x k (bts n L L) ≤ 9223372036854775807 := by omega
    generalize pacc x k (bts n L L) = r at *
    have d1 := hS.cell 0 _ rfl
    have hs := tb.size
    go_wp2_with fail
    refine ⟨by simp, .inl ⟨_, _, rfl, run_takeDeferred hK, ?_⟩⟩
    refine ⟨I r, ?_, by rw [HP.out], tbW.trans (belowK_b (w := w) (Nat.le_refl _) _ D _ _ (by omega) hK rfl rfl)⟩
    simp [results, Try.results42, go_sem]

end Go.Proofs.Ytdnabeldaighgaa
