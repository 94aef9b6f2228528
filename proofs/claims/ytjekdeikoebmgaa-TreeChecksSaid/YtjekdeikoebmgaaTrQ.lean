/- Path, CheckPath and Same in the form that the laws take. Conditions: sizes. -/
import Derived.Test.YtjekdeikoebmgaaTrP
import Derived.Test.YtjekdeikoebmgaaTrS
namespace Go.Proofs.Ytjekdeikoebmgaa
open Go.RowKit Go.Shelf Tr

/-- A slice of hashes of the call's own is handed back, and a mark. -/
def PathQ (w : World) (hs : List (List UInt8)) (b : Bool) (e : Ending) (w' : World) : Prop := ∃ v, e = .returned (.tuple #[v, .bool b]) ∧ OwnH w' w.heap.size v hs ∧ Below w.heap.size w w'
def pathQ (l : List (List UInt8)) (n : Int) : List (List UInt8) × Bool := if n < 0 ∨ (l.length : Int) ≤ n then ([], false) else (path l n.toNat, true)
theorem pathQ_all (l : List (List UInt8)) (n : Int) : All32 (pathQ l n).1 := by
  unfold pathQ
  split
  · exact All32.nil
  · exact path_all _ _
theorem pathQ_len (l : List (List UInt8)) (n : Int) : (pathQ l n).1.length ≤ l.length := by
  unfold pathQ
  split
  · simp
  · exact path_len _ _
theorem growth_all (l : List (List UInt8)) (n : Int) : All32 (growth l n).1 := by
  unfold growth
  split
  · exact All32.nil
  · split
    · exact All32.nil
    · exact grow_all _ _ _
theorem growth_len (l : List (List UInt8)) (n : Int) : (growth l n).1.length ≤ l.length := by
  unfold growth
  split
  · simp
  · split
    · simp
    · exact grow_len l.length _ _ _ (Nat.le_refl _) (by omega) (by omega)
theorem Path_q (l : List (List UInt8)) (n : Int) (v : Value) (w : World) (hS : Small l) (hA : SArg w v l) : Calls Try.prog 21 #[v, .int .i64 n] w (PathQ w (pathQ l n).1 (pathQ l n).2) := by
  unfold pathQ
  by_cases h : n < 0 ∨ (l.length : Int) ≤ n
  · rw [if_pos h]
    refine (Path_no l n v w hS hA h).mono ?_
    rintro e w' ⟨rfl, rfl⟩
    exact ⟨_, rfl, OwnV.nil _ _ _, Below.refl _ _⟩
  · rw [if_neg h]
    obtain ⟨m, rfl⟩ := Int.eq_ofNat_of_zero_le (show 0 ≤ n by omega)
    exact Path_yes l m v w hS hA (by omega)
theorem RPath_q (l : List (List UInt8)) (n : Int) (v : Value) (w : World) (hS : Small l) (hA : SArg w v l) : Calls Try.prog 22 #[v, .int .i64 n] w (PathQ w (pathQ l n).1 (pathQ l n).2) := by
  unfold pathQ
  by_cases h : n < 0 ∨ (l.length : Int) ≤ n
  · rw [if_pos h]
    refine (RPath_no l n v w hS hA h).mono ?_
    rintro e w' ⟨rfl, rfl⟩
    exact ⟨_, rfl, OwnV.nil _ _ _, Below.refl _ _⟩
  · rw [if_neg h]
    obtain ⟨m, rfl⟩ := Int.eq_ofNat_of_zero_le (show 0 ≤ n by omega)
    exact RPath_yes l.length l m v w (Nat.le_refl _) hS hA (by omega)
theorem Growth_q (l : List (List UInt8)) (n : Int) (v : Value) (w : World) (hS : Small l) (hA : SArg w v l) : Calls Try.prog 31 #[v, .int .i64 n] w (PathQ w (growth l n).1 (growth l n).2) := by
  by_cases h : n < 0 ∨ (l.length : Int) < n
  · unfold growth
    rw [if_pos h]
    refine (Growth_no l n v w hS hA h).mono ?_
    rintro e w' ⟨rfl, rfl⟩
    exact ⟨_, rfl, OwnV.nil _ _ _, Below.refl _ _⟩
  · obtain ⟨m, rfl⟩ := Int.eq_ofNat_of_zero_le (show 0 ≤ n by omega)
    have h2 : (growth l (m : Nat)).2 = true := by
      unfold growth
      rw [if_neg h]
      split <;> rfl
    have := Growth_yes l m v w hS hA (by omega)
    show Calls _ _ #[v, .int .i64 ((m : Nat) : Int)] _ (PathQ w (growth l ((m : Nat) : Int)).1 (growth l ((m : Nat) : Int)).2)
    rw [h2]
    exact this
theorem CheckPath_q (size n : Int) (rt s : List UInt8) (p : List (List UInt8)) (v : Value) (w : World) (hr : rt.length = 32) (hs : s.length ≤ 140737488354000) (ha : All32 p) (hpl : p.length ≤ 4398046511104) (hsz : size ≤ 9223372036854775807) (hP : HArg w v p) :
    Calls Try.prog 24 #[.agg (hdrow size rt), .int .i64 n, S s, v] w fun e w' => e = .returned (.bool (checkP size rt n s p)) ∧ Below w.heap.size w w' := by
  by_cases h : n < 0 ∨ size ≤ n
  · have : checkP size rt n s p = false := by unfold checkP; rw [if_pos h]
    rw [this]
    exact CheckPath_no size n rt s v w h
  · obtain ⟨m, rfl⟩ := Int.eq_ofNat_of_zero_le (show 0 ≤ n by omega)
    obtain ⟨z, rfl⟩ := Int.eq_ofNat_of_zero_le (show 0 ≤ size by omega)
    exact CheckPath_yes z m rt s p v w hr hs ha hpl (by omega) (by omega) hP
theorem Same_self (hs : List (List UInt8)) (ha : All32 hs) (va vb : Value) (w : World) (hA : HArg w va hs) (hB : HArg w vb hs) (hl : hs.length ≤ 4398046511104) :
    Calls Try.prog 23 #[va, vb] w fun e w' => e = .returned (.bool true) ∧ Below w.heap.size w w' := by
  refine (Same_any hs hs ha ha va vb w hA hB hl hl).mono ?_
  rintro e w' ⟨rfl, h⟩
  exact ⟨by simp, h⟩
end Go.Proofs.Ytjekdeikoebmgaa
