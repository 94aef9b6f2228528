/- Sums of polynomials, their shares and commitments. No program here. Conditions: none. -/
import Derived.Test.YtdnabeldaighgaaHe
namespace Go.Proofs.Ytdnabeldaighgaa
open Go.RowKit Go.Shelf Shr Pol

def Shr.addl (a b : List Int) : List Int := List.zipWith (fun x y => Fld.addS x y QZ) a b
theorem addl_len {a b : List Int} (h : a.length = b.length) : (addl a b).length = a.length := by unfold addl; rw [List.length_zipWith, h, Nat.min_self]
theorem addl_get {a b : List Int} {k : Nat} {x y : Int} (h1 : a[k]? = some x) (h2 : b[k]? = some y) : (addl a b)[k]? = some (Fld.addS x y QZ) := by
  unfold addl
  rw [List.getElem?_zipWith, h1, h2]
theorem addl_blw (a b : List Int) : (addl a b).all blw = true := by
  unfold addl
  rw [List.all_eq_true]
  intro c hc
  obtain ⟨k, hk, rfl⟩ := List.getElem_of_mem hc
  rw [List.getElem_zipWith, addS_q]
  unfold blw
  rw [decide_eq_true (Int.emod_nonneg _ (by decide)), decide_eq_true (Int.emod_lt_of_pos _ (by decide))]; rfl
theorem addl_head {a b : List Int} (h1 : 1 ≤ a.length) (h2 : 1 ≤ b.length) : (addl a b).headD 0 = Fld.addS (a.headD 0) (b.headD 0) QZ := by
  cases a with
  | nil => simp at h1
  | cons x a =>
    cases b with
    | nil => simp at h2
    | cons y b => rfl
theorem addl_ev (x : Int) : ∀ a b : List Int, a.length = b.length → QZ ∣ ev (addl a b) x - (ev a x + ev b x)
  | [], [], _ => cg_refl _ _
  | [], _ :: _, h => by simp at h
  | _ :: _, [], h => by simp at h
  | c :: a, d :: b, h => by
    have ih := addl_ev x a b (by simpa using h)
    show QZ ∣ ev (Fld.addS c d QZ :: addl a b) x - (ev (c :: a) x + ev (d :: b) x)
    rw [ev, ev, ev, addS_q]
    have h1 := cg_add (cg_mod (c + d)) (cg_mul (cg_refl QZ x) ih)
    rwa [show (c + d) + x * (ev a x + ev b x) = c + x * ev a x + (d + x * ev b x) by rw [Int.mul_add]; omega] at h1
theorem val_ev (l : List Int) (x : Int) : val l x = ev l x % QZ := by
  unfold val
  rw [pva_ev l x _ (Nat.le_refl _), List.take_length]
theorem val_add {a b : List Int} (h : a.length = b.length) (x : Int) : val (addl a b) x = Fld.addS (val a x) (val b x) QZ := by
  rw [val_ev, val_ev, val_ev, addS_q]
  refine dvd_range_eq ?_ ⟨Int.emod_nonneg _ (by decide), Int.emod_lt_of_pos _ (by decide)⟩ ⟨Int.emod_nonneg _ (by decide), Int.emod_lt_of_pos _ (by decide)⟩
  refine cg_trans (cg_mod _) (cg_trans (addl_ev x a b h) ?_)
  rw [← Int.add_emod]
  exact emod_dvd QZ _
theorem pow_add_q {x y : Int} (hx : 0 ≤ x ∧ x < QZ) (hy : 0 ≤ y ∧ y < QZ) : Fld.mulS (Fld.powS 4 x PZ) (Fld.powS 4 y PZ) PZ = Fld.powS 4 (Fld.addS x y QZ) PZ := by
  have hr : 0 ≤ (x + y) % QZ ∧ (x + y) % QZ < QZ := ⟨Int.emod_nonneg _ (by decide), Int.emod_lt_of_pos _ (by decide)⟩
  have key : ∀ {g : Int}, FldP.memS g = true → Fld.mulS (Fld.powS g x PZ) (Fld.powS g y PZ) PZ = Fld.powS g (Fld.addS x y QZ) PZ := by
    intro g hg
    rw [mulS_p, powS_p hx, powS_p hy, addS_q, powS_p hr, ← Int.mul_emod, ← Int.pow_add, pow_red hg]
    congr 2
    have hq : QZ = 1152921504606845789 := rfl
    rw [hq]
    omega
  exact key four_mem
theorem coms_get {a : List Int} {k : Nat} {x : Int} (h : a[k]? = some x) : (coms a)[k]? = some (Fld.powS 4 x PZ) := by
  unfold coms; rw [List.getElem?_map, h]; rfl
/-- A commitment of the sum. -/
theorem coms_add {a b : List Int} (ha : a.all blw = true) (hb : b.all blw = true) {k : Nat} {x y : Int} (h1 : a[k]? = some x) (h2 : b[k]? = some y) : (coms (addl a b))[k]? = some (Fld.mulS (Fld.powS 4 x PZ) (Fld.powS 4 y PZ) PZ) := by
  rw [coms_get (addl_get h1 h2), pow_add_q (blw_range (List.all_eq_true.1 ha x (List.mem_of_getElem? h1))) (blw_range (List.all_eq_true.1 hb y (List.mem_of_getElem? h2)))]
theorem take_next {α : Type} {l : List α} {k : Nat} {x : α} (h : l[k]? = some x) : l.take (k + 1) = l.take k ++ [x] := by
  rw [List.take_add_one, h]; rfl
/-- Open, where every share is right. -/
theorem opS_all {l : List Int} {N : Nat} (hl : l.all blw = true) (h1 : 1 ≤ l.length) (h2 : l.length ≤ 100) (hN : l.length ≤ N) (hN2 : N ≤ 1000) : opS (coms l) (shl l N) = (l.headD 0, [], 0) := by
  have hf : ∀ p ∈ shl l N, fts (coms l) p = true := fun p hp => isS_fts hl (shl_isS l N hN2 p hp)
  rw [opS_shares l (shl l N) hl h1 h2 (shl_nodup l N), List.filter_eq_self.2 hf, shl_length, if_neg (by omega)]
  have : badS (coms l) (shl l N) = [] := by
    unfold badS
    rw [List.filter_eq_nil_iff.2 (fun p hp => by rw [hf p hp]; simp)]; rfl
  rw [this]
theorem vfy_share' {cs : List Int} (h : cs.all blw = true) (h1 : 1 ≤ cs.length) (h2 : cs.length ≤ 100) {p : Int × Int} (hp : isS cs p) : vfy (coms cs) p = true := by
  unfold vfy; rw [comm_coms cs h h1 h2, isS_fts h hp]; rfl
/-- The length of a slice, for a measure. -/
def lenOf : Value → Nat
  | .slice _ n _ => n
  | _ => 0
/-- Coefficients with zeros behind. -/
def pad (l : List Int) (j : Nat) : List Int := l ++ List.replicate j 0
theorem pad_len (l : List Int) (j : Nat) : (pad l j).length = l.length + j := by unfold pad; simp
theorem pad_succ (l : List Int) (j : Nat) : pad l (j + 1) = pad l j ++ [0] := by unfold pad; rw [List.replicate_succ', List.append_assoc]
theorem pad_blw {l : List Int} (h : l.all blw = true) (j : Nat) : (pad l j).all blw = true := by
  rw [List.all_eq_true]
  intro c hc
  rcases List.mem_append.1 hc with hc | hc
  · exact List.all_eq_true.1 h c hc
  · rw [(List.mem_replicate.1 hc).2]; decide
theorem pad_head {l : List Int} (h : 1 ≤ l.length) (j : Nat) : (pad l j).headD 0 = l.headD 0 := by
  cases l with
  | nil => simp at h
  | cons c r => rfl
end Go.Proofs.Ytdnabeldaighgaa
