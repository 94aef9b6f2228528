/- The contract of Growth. Conditions: sizes. -/
import Derived.Test.YtjekdeikoebmgaaTrH
namespace Go.Proofs.Ytjekdeikoebmgaa
open Go.RowKit Go.Shelf Tr

theorem OwnV.mono {w : World} {base base' sz n : Nat} {v : Value} {cs : List Value} (h : OwnV w base sz v n cs) (hb : base' ≤ base) : OwnV w base' sz v n cs := by
  rcases h with h | ⟨g, cap, h1, h2, h3, h4⟩
  · exact .inl h
  · exact .inr ⟨g, cap, h1, h2, h3, { h4 with base := Nat.le_trans hb h4.base }⟩
set_option maxRecDepth 100000 in
set_option maxHeartbeats 1000000 in
theorem Growth_no (l : List (List UInt8)) (n : Int) (v : Value) (w : World) (hS : Small l) (hA : SArg w v l) (h : n < 0 ∨ (l.length : Int) < n) :
    Calls Try.prog 31 #[v, .int .i64 n] w fun e w' => e = .returned (.tuple #[.slice none 0 0, .bool false]) ∧ w = w' := by
  obtain ⟨a, cap, rfl, hc, _⟩ := hA
  have hl := hS.len
  by_cases h0 : n < 0
  · have t : decide (n < 0) = true := decide_eq_true h0
    go_enter Try.func31, Try.ntmps31
    go_wp2_with fail
    exact bodyPost_ret (results_tmp2 rfl _ _ _) rfl ⟨rfl, rfl⟩
  · have t : decide (n < 0) = false := decide_eq_false h0
    have h1 : (l.length : Int) < n := by omega
    have t2 : decide (n > (l.length : Int)) = true := decide_eq_true h1
    go_enter Try.func31, Try.ntmps31
    go_wp2_with fail
    exact bodyPost_ret (results_tmp2 rfl _ _ _) rfl ⟨rfl, rfl⟩

set_option maxRecDepth 100000 in
set_option maxHeartbeats 1000000 in
theorem Growth_end (l : List (List UInt8)) (n : Nat) (v : Value) (w : World) (hS : Small l) (hA : SArg w v l) (h : n = 0 ∨ l.length = n) :
    Calls Try.prog 31 #[v, .int .i64 n] w fun e w' => e = .returned (.tuple #[.slice none 0 0, .bool true]) ∧ w = w' := by
  obtain ⟨a, cap, rfl, hc, _⟩ := hA
  have hl := hS.len
  have t1 : decide ((n : Int) < 0) = false := decide_eq_false (by omega)
  have t2 : decide ((n : Int) > (l.length : Int)) = false := decide_eq_false (by omega)
  have t2' : ¬ ((l.length : Int) < (n : Int)) := by omega
  by_cases h0 : n = 0
  · have t : ((n : Int) == 0) = true := by rw [beq_iff_eq]; omega
    clear h h0
    go_enter Try.func31, Try.ntmps31
    go_wp2_with fail
    exact bodyPost_ret (results_tmp2 rfl _ _ _) rfl ⟨rfl, rfl⟩
  · have t : ((n : Int) == 0) = false := by rw [beq_eq_false_iff_ne]; omega
    have t3 : ((n : Int) == (l.length : Int)) = true := by rw [beq_iff_eq]; omega
    clear h
    go_enter Try.func31, Try.ntmps31
    go_wp2_with fail
    exact bodyPost_ret (results_tmp2 rfl _ _ _) rfl ⟨rfl, rfl⟩

set_option maxRecDepth 100000 in
set_option maxHeartbeats 1000000 in
theorem Growth_mid (l : List (List UInt8)) (n : Nat) (v : Value) (w : World) (hS : Small l) (hA : SArg w v l) (h0 : 1 ≤ n) (h1 : n < l.length) :
    Calls Try.prog 31 #[v, .int .i64 n] w (PathPost w (grow l n true)) := by
  have hl := hS.len
  have C := Lib.hid (fun x w1 (hb : Below w.heap.size w w1) hI hF hO => Grow_any w w.heap.size (Nat.le_refl _) l.length l [] n true v x w1 (Nat.le_refl _) h0 (by omega) hS hA hb hI hF hO (by simp; omega))
  obtain ⟨a, cap, rfl, hc, _⟩ := hA
  have t1 : decide ((n : Int) < 0) = false := decide_eq_false (by omega)
  have t2 : decide ((n : Int) > (l.length : Int)) = false := decide_eq_false (by omega)
  have t2' : ¬ ((l.length : Int) < (n : Int)) := by omega
  have t : ((n : Int) == 0) = false := by rw [beq_eq_false_iff_ne]; omega
  have t3 : ((n : Int) == (l.length : Int)) = false := by rw [beq_eq_false_iff_ne]; omega
  have H := Lib.hid (C.out _ _ (((Below.refl w.heap.size w).alloc (Nat.le_refl _) (.cells #[.slice none 0 0] 32)).alloc (by simp) (.cells #[growF w.heap.size] 74)) ⟨(Blk.new w #[.slice none 0 0] 32).alloc _, OwnV.nil _ _ _, All32.nil⟩ (by
    have := Blk.new (w.alloc (.cells #[.slice none 0 0] 32)) #[growF w.heap.size] 74
    simpa using this) (by simp))
  have hb0 : Below w.heap.size w ((w.alloc (.cells #[.slice none 0 0] 32)).alloc (.cells #[growF w.heap.size] 74)) := ((Below.refl w.heap.size w).alloc (Nat.le_refl _) _).alloc (by simp) _
  clear C
  go_enter Try.func31, Try.ntmps31
  go_wp2_with fail
  refine (H.out).mono ?_
  rintro e w1 ⟨rfl, ⟨x, hI⟩, hG⟩
  have c := hI.blk.cell 0 x rfl
  have hO := hI.own
  have hb1 := hb0.trans hG.b
  clear hI hG H hb0
  go_wp2_with fail
  refine bodyPost_ret (results_tmp2 rfl _ _ _) rfl ?_
  exact ⟨x, rfl, hO.mono (by omega), hb1⟩
end Go.Proofs.Ytjekdeikoebmgaa
