/- The closures of CheckGrowth: their memory; the contract of take. Conditions: sizes. The closure walk of CheckGrowth. Conditions: sizes. -/
import Derived.Test.YtjekdeikoebmgaaTrP
import Derived.Laws.EntriesVeiled
import Derived.IntWalk
namespace Go.Proofs.Ytjekdeikoebmgaa
open Go.RowKit Go.Shelf Tr

/-- The closures that CheckGrowth makes. -/
abbrev takeF (b : Nat) : Value := .func (.func 48) #[] #[.pointer (some ⟨b + 4, 0, none⟩), .pointer (some ⟨b + 3, 0, none⟩), .pointer (some ⟨b + 2, 0, none⟩)]
abbrev walkF (b : Nat) : Value := .func (.func 49) #[] #[.pointer (some ⟨b, 0, none⟩), .pointer (some ⟨b + 5, 0, none⟩), .pointer (some ⟨b + 6, 0, none⟩)]
/-- The memory that the closures share. -/
structure CG (w : World) (b : Nat) (so : Int) (ro : List UInt8) (v : Value) (k : Nat) (ok : Bool) : Prop where
  old : Blk w b (hdrow so ro) 38
  prf : Blk w (b + 2) #[v] 32
  at_ : Blk w (b + 3) #[.int .i64 k] 3
  okc : Blk w (b + 4) #[.bool ok] 4
  tk : Blk w (b + 5) #[takeF b] 76
  wk : Blk w (b + 6) #[walkF b] 77
/-- All lies as it lay, but the number and the mark. -/
structure G2 (b : Nat) (w w' : World) : Prop where
  os : w'.os = w.os
  tape : w'.tape = w.tape
  output : w'.output = w.output
  size : w.heap.size ≤ w'.heap.size
  block : ∀ i, i < w.heap.size → i ≠ b + 3 → i ≠ b + 4 → w'.heap[i]? = w.heap[i]?
theorem G2.refl (b : Nat) (w : World) : G2 b w w := ⟨rfl, rfl, rfl, Nat.le_refl _, fun _ _ _ _ => rfl⟩
theorem G2.trans {b : Nat} {x y z : World} (h : G2 b x y) (k : G2 b y z) : G2 b x z := ⟨k.os.trans h.os, k.tape.trans h.tape, k.output.trans h.output, Nat.le_trans h.size k.size, fun i hi h3 h4 => (k.block i (Nat.lt_of_lt_of_le hi h.size) h3 h4).trans (h.block i hi h3 h4)⟩
theorem G2.of {b : Nat} {x y : World} (h : Below x.heap.size x y) : G2 b x y := ⟨h.os, h.tape, h.output, h.size, fun i hi _ _ => h.block i hi⟩
theorem G2.set {b : Nat} {x y : World} (h : G2 b x y) {i : Nat} (hi : i = b + 3 ∨ i = b + 4) (u : Value) : G2 b x (y.setCell ⟨i, 0, none⟩ u) := by
  refine ⟨h.os, h.tape, h.output, by simpa [World.setCell] using h.size, fun j hj h3 h4 => ?_⟩
  rw [Below.heap_setCell y ⟨i, 0, none⟩ u j (by show j ≠ i; omega)]
  exact h.block j hj h3 h4
theorem G2.setRow {b : Nat} {x y : World} (h : G2 b x y) {g : Nat} (hg : x.heap.size ≤ g) (cs : Array Value) : G2 b x (y.setRow g cs) :=
  ⟨h.os, h.tape, h.output, by simpa using h.size, fun j hj h3 h4 => by rw [setRow_other _ _ _ _ (by omega)]; exact h.block j hj h3 h4⟩
theorem G2.alloc {b : Nat} {x y : World} (h : G2 b x y) (o : Obj) : G2 b x (y.alloc o) := h.trans (G2.of ((Below.refl _ _).alloc (Nat.le_refl _) o))
theorem G2.drew {b : Nat} {x y : World} (h : G2 b x y) : G2 b x y.drew := ⟨h.os, h.tape, h.output, h.size, h.block⟩
theorem G2.ofDrew {b : Nat} {x y : World} (h : G2 b x.drew y) : G2 b x y := ⟨h.os, h.tape, h.output, h.size, h.block⟩
theorem Blk.g2 {b g : Nat} {w w' : World} {cs : Array Value} {t : TypeId} (h : Blk w g cs t) (k : G2 b w w') (h3 : g ≠ b + 3) (h4 : g ≠ b + 4) : Blk w' g cs t := (k.block g h.lt h3 h4).trans h
theorem G2.below {b B : Nat} {w w' : World} (h : G2 b w w') (hB : B ≤ b) (hs : b ≤ w.heap.size) : Below B w w' := ⟨h.os, h.tape, h.output, h.size, fun i hi => h.block i (by omega) (by omega) (by omega)⟩
section
variable {w w' : World} {b : Nat} {so : Int} {ro : List UInt8} {v : Value} {k : Nat} {ok : Bool}
theorem CG.of (h : CG w b so ro v k ok) (hb : Below w.heap.size w w') : CG w' b so ro v k ok := ⟨h.old.below hb h.old.lt, h.prf.below hb h.prf.lt, h.at_.below hb h.at_.lt, h.okc.below hb h.okc.lt, h.tk.below hb h.tk.lt, h.wk.below hb h.wk.lt⟩
theorem CG.drew (h : CG w b so ro v k ok) : CG w.drew b so ro v k ok := ⟨h.old, h.prf, h.at_, h.okc, h.tk, h.wk⟩
theorem CG.setOk (h : CG w b so ro v k ok) (u : Bool) : CG (w.setCell ⟨b + 4, 0, none⟩ (.bool u)) b so ro v k u :=
  ⟨h.old.other (by show b ≠ b + 4; omega) _, h.prf.other (by show b + 2 ≠ b + 4; omega) _, h.at_.other (by show b + 3 ≠ b + 4; omega) _, h.okc.set 0 (.bool u), h.tk.other (by show b + 5 ≠ b + 4; omega) _, h.wk.other (by show b + 6 ≠ b + 4; omega) _⟩
theorem CG.setAt (h : CG w b so ro v k ok) (n : Nat) : CG (w.setCell ⟨b + 3, 0, none⟩ (.int .i64 n)) b so ro v n ok :=
  ⟨h.old.other (by show b ≠ b + 3; omega) _, h.prf.other (by show b + 2 ≠ b + 3; omega) _, h.at_.set 0 (.int .i64 n), h.okc.other (by show b + 4 ≠ b + 3; omega) _, h.tk.other (by show b + 5 ≠ b + 3; omega) _, h.wk.other (by show b + 6 ≠ b + 3; omega) _⟩
theorem CG.setRow (h : CG w b so ro v k ok) (g : Nat) (hg : b + 6 < g) (cs : Array Value) : CG (w.setRow g cs) b so ro v k ok :=
  ⟨h.old.rowOther _ (by omega), h.prf.rowOther _ (by omega), h.at_.rowOther _ (by omega), h.okc.rowOther _ (by omega), h.tk.rowOther _ (by omega), h.wk.rowOther _ (by omega)⟩
end
/-- take, plain. -/
def takeP (p : List (List UInt8)) (k : Nat) (ok : Bool) : List UInt8 × Nat × Bool := if h : ok = true ∧ k < p.length then (p[k]'h.2, k + 1, true) else (List.replicate 32 0, k, false)
theorem takeP_len {p : List (List UInt8)} (ha : All32 p) (k : Nat) (ok : Bool) : (takeP p k ok).1.length = 32 := by
  unfold takeP
  split
  · exact ha _ (List.getElem_mem _)
  · rfl
/-- What take leaves. -/
def TakeQ (w : World) (b : Nat) (so : Int) (ro : List UInt8) (v : Value) (r : List UInt8 × Nat × Bool) (e : Ending) (w' : World) : Prop := e = .returned (.agg (hrow r.1)) ∧ CG w' b so ro v r.2.1 r.2.2 ∧ G2 b w w'

set_option maxRecDepth 100000 in
set_option maxHeartbeats 1000000 in
theorem take_any (W0 w : World) (b : Nat) (so : Int) (ro : List UInt8) (v : Value) (k : Nat) (ok : Bool) (p : List (List UInt8)) (hG : CG w b so ro v k ok) (hA : HArg W0 v p) (hW : W0.heap.size ≤ b) (h0 : Below W0.heap.size W0 w) (ha : All32 p) (hp : p.length ≤ 4398046511104) (hk : k ≤ 4398046511104) :
    Calls Try.prog 48 #[.pointer (some ⟨b + 4, 0, none⟩), .pointer (some ⟨b + 3, 0, none⟩), .pointer (some ⟨b + 2, 0, none⟩)] w (TakeQ w b so ro v (takeP p k ok)) := by
  obtain ⟨pa, cap, rfl, hc, hP⟩ := hA
  have hG1 := hG.of ((Below.refl w.heap.size w).alloc (Nat.le_refl _) (.cells hz 24))
  have h1 := h0.trans (((Below.refl w.heap.size w).alloc (Nat.le_refl _) (.cells hz 24)).mono h0.size)
  have N := Blk.new w hz 24
  have hG2 := (G2.refl b w).alloc (.cells hz 24)
  have hlt := hG.wk.lt
  clear hG h0
  obtain ⟨n, hn⟩ : ∃ n, w.heap.size = n := ⟨_, rfl⟩
  have hnw : w.heap.size ≤ n := by omega
  rw [hn] at N hlt
  go_enter Try.func48, Try.ntmps48
  go_upto_region 1 with (refine wpList_alloc_hash rfl rfl ?_; go_frame)
  rw [hn]
  generalize w.alloc (.cells hz 24) = w1 at *
  clear hn
  have hcast : ((k : Int) < (p.length : Int)) ∨ ¬ ((k : Int) < (p.length : Int)) := Classical.em _
  rcases ok with _ | _
  · skip
    have c4 := hG1.okc.cell 0 _ rfl
    have c3 := hG1.at_.cell 0 _ rfl
    have c2 := hG1.prf.cell 0 _ rfl
    have f4 := hG1.okc.frozen 0
    have HT : Hid (takeP p k false = (List.replicate 32 0, k, false)) := by
      show _ = _
      unfold takeP
      rw [dif_neg (by simp)]
    have hG3 := hG1.setOk false
    have hG4 := hG2.set (.inr rfl) (.bool false) (i := b + 4)
    have N3 := N.other (a := ⟨b + 4, 0, none⟩) (show n ≠ b + 4 by omega) (.bool false)
    have HN3 := Lib.hid N3
    have HG3 := Lib.hid hG3
    have HG4 := Lib.hid hG4
    clear hG1 hG2 N hP N3 hG3 hG4
    go_upto_region 2 with (fail)
    clear c4 c3 c2 f4
    generalize w1.setCell ⟨b + 4, 0, none⟩ (.bool false) = w2 at *
    have c4 := HG3.out.okc.cell 0 _ rfl
    have hNz := Lib.hid (hz_row ▸ HN3.out)
    have hNr := Lib.hid (hNz.out.row (hrow (List.replicate 32 0)))
    have HI := Lib.hid (hinfo' (List.replicate 32 0) rfl)
    have HZ := Lib.hid hz_len2
    have HZ2 := Lib.hid (hrow_size hz_len2)
    generalize List.replicate 32 (0 : UInt8) = Z at *
    go_wp2_with (first
      | (refine wpList_load_hash (by kernel_rfl) (.tmp 3) rfl n rfl Z HZ.out hNz.out ?_; go_frame)
      | (refine wpList_store_hash rfl (.tmp 3) (.tmp 18) rfl n Z HZ.out rfl rfl (hrow Z) hNz.out HZ2.out ?_; go_frame))
    refine bodyPost_ret (v := .agg (hrow Z)) (results_cell_row rfl _ _ _ _ _ _ _ rfl hNr.out Try.underlying24 rfl HI.out) rfl ?_
    rw [HT.out]
    exact ⟨rfl, HG3.out.setRow n (by omega) _, HG4.out.setRow (by omega) _⟩
  · by_cases hkp : k < p.length
    · obtain ⟨g, o, rfl, hAt⟩ := hP (by rintro rfl; simp at hkp)
      obtain ⟨h, hh⟩ : ∃ h, p[k]? = some h := ⟨p[k]'hkp, List.getElem?_eq_getElem _⟩
      have h32 := ha h (List.mem_of_getElem? hh)
      have HT : Hid (takeP p k true = (h, k + 1, true)) := by
        show _ = _
        unfold takeP
        rw [dif_pos ⟨rfl, hkp⟩, (List.getElem?_eq_some_iff.1 hh).2]
      have HE := Lib.hid ((hAt.below h1).elem ha k h hh)
      have k1 : (k : Int) < (p.length : Int) := by omega
      have c4 := hG1.okc.cell 0 _ rfl
      have c3 := hG1.at_.cell 0 _ rfl
      have c2 := hG1.prf.cell 0 _ rfl
      have f4 := hG1.okc.frozen 0
      have hG3 := hG1.setOk true
      have hG4 := hG2.set (.inr rfl) (.bool true) (i := b + 4)
      have N3 := N.other (a := ⟨b + 4, 0, none⟩) (show n ≠ b + 4 by omega) (.bool true)
      have HE3 := Lib.hid ((hAt.below (h1.setCell (show W0.heap.size ≤ (⟨b + 4, 0, none⟩ : Addr).block from (show W0.heap.size ≤ b + 4 by omega)) (.bool true))).elem ha k h hh)
      clear hh hG1 hG2 N hAt HE
      go_upto_region 2 with (fail)
      clear c4 c3 c2 f4
      generalize w1.setCell ⟨b + 4, 0, none⟩ (.bool true) = w2 at *
      have c4 := hG3.okc.cell 0 _ rfl
      have c3 := hG3.at_.cell 0 _ rfl
      have c2 := hG3.prf.cell 0 _ rfl
      have h32' := hrow_size h32
      have HH := Lib.hid h32'
      have hRw := N3.row (hrow h)
      have hG5 := hG3.setRow n (by omega) (hrow h)
      have hG6 := hG4.setRow hnw (hrow h)
      have N3' := Lib.hid N3
      have HZL := Lib.hid hz_len
      rw [show o + 32 * k = o + k * 32 by omega] at HE3
      clear hG3 hG4 N3 h32'
      go_upto_region 4 with (first
        | (refine wpList_load_hashAt (by kernel_rfl) (.tmp 14) rfl g (o + k * 32) rfl h h32 HE3.out ?_; go_frame)
        | (refine wpList_store_hash rfl (.tmp 3) (.tmp 15) rfl n h h32 rfl rfl hz N3'.out HZL.out ?_; go_frame))
      clear c4 c3 c2
      generalize w2.setRow n (hrow h) = w3 at *
      have c3 := hG5.at_.cell 0 _ rfl
      have f3 := hG5.at_.frozen 0
      have hG7 := hG5.setAt (k + 1)
      have hG8 := hG6.set (.inl rfl) (.int .i64 ((k + 1 : Nat) : Int)) (i := b + 3)
      have N5 := hRw.other (a := ⟨b + 3, 0, none⟩) (show n ≠ b + 3 by omega) (.int .i64 ((k + 1 : Nat) : Int))
      have e1 : ((k + 1 : Nat) : Int) = (k : Int) + 1 := by omega
      rw [e1] at hG7 hG8 N5
      have E1 := Lib.hid e1
      clear hG5 hG6 hRw e1 N3' HE3
      go_upto_region 5 with (fail)
      clear c3 f3
      generalize w3.setCell ⟨b + 3, 0, none⟩ (.int .i64 ((k : Int) + 1)) = w4 at *
      have N5' := Lib.hid N5
      have N6 := Lib.hid (N5.row (hrow h))
      have HI := Lib.hid (hinfo' h h32)
      have hG9 := Lib.hid (hG7.setRow n (by omega) (hrow h))
      have hG10 := Lib.hid (hG8.setRow hnw (hrow h))
      clear N5 hG7 hG8
      go_wp2_with (first
        | (refine wpList_load_hash (by kernel_rfl) (.tmp 3) rfl n rfl h h32 N5'.out ?_; go_frame)
        | (refine wpList_store_hash rfl (.tmp 3) (.tmp 18) rfl n h h32 rfl rfl (hrow h) N5'.out HH.out ?_; go_frame))
      refine bodyPost_ret (v := .agg (hrow h)) (results_cell_row rfl _ _ _ _ _ _ _ rfl N6.out Try.underlying24 rfl HI.out) rfl ?_
      rw [HT.out]
      exact ⟨rfl, hG9.out, hG10.out⟩
    · have k1 : ¬ ((k : Int) < (p.length : Int)) := by omega
      have c4 := hG1.okc.cell 0 _ rfl
      have c3 := hG1.at_.cell 0 _ rfl
      have c2 := hG1.prf.cell 0 _ rfl
      have f4 := hG1.okc.frozen 0
      have HT : Hid (takeP p k true = (List.replicate 32 0, k, false)) := by
        show _ = _
        unfold takeP
        rw [dif_neg (by simp; omega)]
      have hG3 := hG1.setOk false
      have hG4 := hG2.set (.inr rfl) (.bool false) (i := b + 4)
      have N3 := N.other (a := ⟨b + 4, 0, none⟩) (show n ≠ b + 4 by omega) (.bool false)
      have HN3 := Lib.hid N3
      have HG3 := Lib.hid hG3
      have HG4 := Lib.hid hG4
      clear hG1 hG2 N hP N3 hG3 hG4
      go_upto_region 2 with (fail)
      clear c4 c3 c2 f4
      generalize w1.setCell ⟨b + 4, 0, none⟩ (.bool false) = w2 at *
      have c4 := HG3.out.okc.cell 0 _ rfl
      have hNz := Lib.hid (hz_row ▸ HN3.out)
      have hNr := Lib.hid (hNz.out.row (hrow (List.replicate 32 0)))
      have HI := Lib.hid (hinfo' (List.replicate 32 0) rfl)
      have HZ := Lib.hid hz_len2
      have HZ2 := Lib.hid (hrow_size hz_len2)
      generalize List.replicate 32 (0 : UInt8) = Z at *
      go_wp2_with (first
        | (refine wpList_load_hash (by kernel_rfl) (.tmp 3) rfl n rfl Z HZ.out hNz.out ?_; go_frame)
        | (refine wpList_store_hash rfl (.tmp 3) (.tmp 18) rfl n Z HZ.out rfl rfl (hrow Z) hNz.out HZ2.out ?_; go_frame))
      refine bodyPost_ret (v := .agg (hrow Z)) (results_cell_row rfl _ _ _ _ _ _ _ rfl hNr.out Try.underlying24 rfl HI.out) rfl ?_
      rw [HT.out]
      exact ⟨rfl, HG3.out.setRow n (by omega) _, HG4.out.setRow (by omega) _⟩
end Go.Proofs.Ytjekdeikoebmgaa

namespace Go.Proofs.Ytjekdeikoebmgaa
open Go.RowKit Go.Shelf Tr

/-- walk, plain: both roots, the number, the mark. -/
def walkP (p : List (List UInt8)) (ro : List UInt8) (m n : Nat) (whole : Bool) (k : Nat) (ok : Bool) : (List UInt8 × List UInt8) × Nat × Bool :=
  if _h : n ≤ m ∨ n ≤ 1 then (if whole then ((ro, ro), k, ok) else (((takeP p k ok).1, (takeP p k ok).1), (takeP p k ok).2)) else
  if m ≤ half n then
    (((walkP p ro m (half n) whole k ok).1.1, node (walkP p ro m (half n) whole k ok).1.2 (takeP p (walkP p ro m (half n) whole k ok).2.1 (walkP p ro m (half n) whole k ok).2.2).1), (takeP p (walkP p ro m (half n) whole k ok).2.1 (walkP p ro m (half n) whole k ok).2.2).2)
  else
    ((node (takeP p (walkP p ro (m - half n) (n - half n) false k ok).2.1 (walkP p ro (m - half n) (n - half n) false k ok).2.2).1 (walkP p ro (m - half n) (n - half n) false k ok).1.1,
      node (takeP p (walkP p ro (m - half n) (n - half n) false k ok).2.1 (walkP p ro (m - half n) (n - half n) false k ok).2.2).1 (walkP p ro (m - half n) (n - half n) false k ok).1.2), (takeP p (walkP p ro (m - half n) (n - half n) false k ok).2.1 (walkP p ro (m - half n) (n - half n) false k ok).2.2).2)
termination_by n
decreasing_by
  all_goals first
    | exact half_lt (by omega)
    | (have := half_pos (n := n) (by omega); omega)
theorem takeP_k (p : List (List UInt8)) (k : Nat) (ok : Bool) (h : k ≤ p.length) : (takeP p k ok).2.1 ≤ p.length := by
  unfold takeP
  split
  · show k + 1 ≤ _; omega
  · exact h
theorem walkP_ok {p : List (List UInt8)} {ro : List UInt8} (ha : All32 p) (hr : ro.length = 32) (n : Nat) : ∀ (m : Nat) (whole : Bool) (k : Nat) (ok : Bool), k ≤ p.length →
    (walkP p ro m n whole k ok).1.1.length = 32 ∧ (walkP p ro m n whole k ok).1.2.length = 32 ∧ (walkP p ro m n whole k ok).2.1 ≤ p.length := by
  induction n using Nat.strongRecOn with
  | _ n ih =>
    intro m whole k ok hk
    by_cases h : n ≤ m ∨ n ≤ 1
    · rw [walkP, dif_pos h]
      split
      · exact ⟨hr, hr, hk⟩
      · exact ⟨takeP_len ha _ _, takeP_len ha _ _, takeP_k p k ok hk⟩
    · have h1 := half_lt (n := n) (by omega)
      have h2 := half_pos (n := n) (by omega)
      by_cases hm : m ≤ half n
      · obtain ⟨i1, i2, i3⟩ := ih (half n) h1 m whole k ok hk
        rw [walkP, dif_neg h, if_pos hm]
        exact ⟨i1, node_length _ _, takeP_k _ _ _ i3⟩
      · obtain ⟨i1, i2, i3⟩ := ih (n - half n) (by omega) (m - half n) false k ok hk
        rw [walkP, dif_neg h, if_neg hm]
        exact ⟨node_length _ _, node_length _ _, takeP_k _ _ _ i3⟩
/-- What walk leaves. -/
def WalkQ (w : World) (b : Nat) (so : Int) (ro : List UInt8) (v : Value) (r : (List UInt8 × List UInt8) × Nat × Bool) (e : Ending) (w' : World) : Prop := e = .returned (.tuple #[.agg (hrow r.1.1), .agg (hrow r.1.2)]) ∧ CG w' b so ro v r.2.1 r.2.2 ∧ G2 b w w'
theorem results_two {fn : Func} {p q : Nat} (h : fn.results = #[.cell p 24, .cell q 24]) (tmps : Array Value) (w : World) (g1 g2 : Nat) (x y : List UInt8) (hx : x.length = 32) (hy : y.length = 32)
    (hp : tmps.getD p undef = .pointer (some ⟨g1, 0, none⟩)) (hq : tmps.getD q undef = .pointer (some ⟨g2, 0, none⟩)) (N1 : Blk w g1 (hrow x) 24) (N2 : Blk w g2 (hrow y) 24) :
    (results fn tmps).run Try.prog w = .ok (.tuple #[.agg (hrow x), .agg (hrow y)]) w := by
  have hp' : tmps[p]?.getD undef = .pointer (some ⟨g1, 0, none⟩) := by simpa using hp
  have hq' : tmps[q]?.getD undef = .pointer (some ⟨g2, 0, none⟩) := by simpa using hq
  have r1 := run_loadVar_row w g1 24 24 (hrow x) (0, 0) _ N1 Try.underlying24 rfl (hinfo' x hx)
  have r2 := run_loadVar_row w g2 24 24 (hrow y) (0, 0) _ N2 Try.underlying24 rfl (hinfo' y hy)
  simp [results, h, hp', hq', asAddr, r1, r2]
theorem load_take_cell (w : World) (b : Nat) (h : Blk w (b + 5) #[takeF b] 76) : (loadVar 76 ⟨b + 5, 0, none⟩).run Try.prog w = .ok (takeF b) w := by
  have c := h.cell 0 _ rfl
  go_simp
/-- Two variables of hashes, made. -/
theorem two_new (w : World) : Blk ((w.alloc (.cells hz 24)).alloc (.cells hz 24)) w.heap.size hz 24 ∧ Blk ((w.alloc (.cells hz 24)).alloc (.cells hz 24)) (w.heap.size + 1) hz 24 ∧ Below w.heap.size w ((w.alloc (.cells hz 24)).alloc (.cells hz 24)) := by
  refine ⟨(Blk.new w hz 24).alloc _, ?_, ((Below.refl _ _).alloc (Nat.le_refl _) _).alloc (by simp) _⟩
  have := Blk.new (w.alloc (.cells hz 24)) hz 24
  rwa [World.size_alloc] at this

end Go.Proofs.Ytjekdeikoebmgaa
