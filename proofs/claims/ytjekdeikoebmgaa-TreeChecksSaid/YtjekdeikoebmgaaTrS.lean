/- The contract of the reference's Strings. Conditions: none. -/
import Derived.Test.YtjekdeikoebmgaaOne
namespace Go.Proofs.Ytjekdeikoebmgaa
open Go.RowKit Go.Shelf Tr

/-- The strings that numbers determine. -/
def strsOf (l : List UInt8) : List (List UInt8) := ((l.take 20).zipIdx).map fun p => [97 + p.1 % 5, UInt8.ofNat p.2]
theorem strsOf_len (l : List UInt8) : (strsOf l).length ≤ 20 := by unfold strsOf; simp; omega
theorem strsOf_small (l : List UInt8) : Small (strsOf l) := ⟨fun s hs => by
  unfold strsOf at hs
  obtain ⟨p, _, rfl⟩ := List.mem_map.1 hs
  simp, by have := strsOf_len l; omega⟩
theorem strs_step (l : List UInt8) (k : Nat) (x : UInt8) (h : l[k]? = some x) (hk : k < 20) : strsOf (l.take (k + 1)) = strsOf (l.take k) ++ [[97 + x % 5, UInt8.ofNat k]] := by
  have hl := (List.getElem?_eq_some_iff.1 h).1
  unfold strsOf
  rw [List.take_take, List.take_take, Nat.min_eq_right (by omega), Nat.min_eq_right (by omega), List.take_add_one, h, Option.toList_some, List.zipIdx_append, List.map_append]
  simp
  rw [Nat.min_eq_left (by omega)]
theorem strs_end (l : List UInt8) (k : Nat) (h : l.length ≤ k ∨ 20 ≤ k) : strsOf (l.take k) = strsOf l := by
  unfold strsOf
  rw [List.take_take]
  by_cases h2 : 20 ≤ k
  · rw [Nat.min_eq_left h2]
  · rw [Nat.min_eq_right (by omega), List.take_of_length_le (by omega), List.take_of_length_le (by omega)]

set_option maxRecDepth 100000 in
set_option maxHeartbeats 1000000 in
theorem Strings_any (l : List UInt8) (a : Option Addr) (cap : Nat) (w : World) (hc : l.length ≤ cap) (hm : l.length ≤ maxLen) (hA : l ≠ [] → ∃ g o, a = some ⟨g, o, none⟩ ∧ ∀ (i : Nat) (x : UInt8), l[i]? = some x → w.cell? ⟨g, o + i, none⟩ = some (Y x)) :
    Calls Try.prog 20 #[.slice a l.length cap] w fun e w' => ∃ v, e = .returned v ∧ OwnS w' w.heap.size v (strsOf l) ∧ Below w.heap.size w w' := by
  have hmm : l.length ≤ 9223372036854775807 := hm
  have HA := Lib.hid hA
  clear hA hm
  go_enter Try.func20, Try.ntmps20
  go_wp2_with fail
  go_loopw [3, 4] (fun x3 i wr => ∃ k : Nat, k ≤ l.length ∧ k ≤ 20 ∧ i = .int .i64 k ∧ OwnS wr w.heap.size x3 (strsOf (l.take k)) ∧ Below w.heap.size w wr) (fun _ i _ => 20 - (intOf i).toNat)
  case atStart => exact ⟨0, by omega, by omega, rfl, OwnV.nil _ _ _, Below.refl _ _⟩
  case round =>
    obtain ⟨k, hk, hk2, rfl, hO, hB⟩ := hrel
    by_cases hlt : k < l.length ∧ k < 20
    · obtain ⟨hlt, hlt2⟩ := hlt
      obtain ⟨x, hx⟩ : ∃ x, l[k]? = some x := ⟨l[k]'(by omega), List.getElem?_eq_getElem (by omega)⟩
      obtain ⟨g, o, rfl, hA2⟩ := HA.out (by rintro rfl; simp at hx)
      have c := keepCells hB _ _ (hA2 k x hx)
      have HS := Lib.hid (strs_step l k x hx hlt2)
      have k1 : (k : Int) < (l.length : Int) := by omega
      have k2 : (k : Int) < 20 := by omega
      have q1 : decide ((k : Int) < (l.length : Int)) = true := decide_eq_true k1
      have q2 : decide ((k : Int) < 20) = true := decide_eq_true k2
      have e1 : (97 + x % 5).toNat = 97 + x.toNat % 5 := by
        rw [UInt8.toNat_add, UInt8.toNat_mod]
        show (97 + x.toNat % 5) % 256 = _
        omega
      have e2 : (UInt8.ofNat k).toNat = k := by rw [UInt8.toNat_ofNat']; omega
      have hN := Blk.new wr #[Y (97 + x % 5), Y (UInt8.ofNat k)] 5
      have hcv : (convert 30 9 (.slice (some ⟨wr.heap.size, 0, none⟩) 2 2)).run Try.prog (wr.alloc (.cells #[Y (97 + x % 5), Y (UInt8.ofNat k)] 5)) = .ok (S [97 + x % 5, UInt8.ofNat k]) (wr.alloc (.cells #[Y (97 + x % 5), Y (UInt8.ofNat k)] 5)) := run_convert_bytes_back _ 30 9 5 ⟨wr.heap.size, 0, none⟩ 2 [97 + x % 5, UInt8.ofNat k] Try.underlying30 Try.underlying5 Try.underlying9 (fun i hi => by
        rw [Addr.add_lit, Nat.zero_add]
        refine hN.cell i _ ?_
        match i, hi with
        | 0, _ => rfl
        | 1, _ => rfl)
      have y1 : Y (97 + x % 5) = .int .u8 (97 + (x.toNat : Int) % 5) := by show Value.int .u8 (((97 + x % 5).toNat : Nat) : Int) = _; rw [e1]; congr 1
      have y2 : Y (UInt8.ofNat k) = .int .u8 (k : Int) := by show Value.int .u8 (((UInt8.ofNat k).toNat : Nat) : Int) = _; rw [e2]
      rw [y1, y2] at hcv
      have hB1 := hB.alloc hB.size (.cells #[.int .u8 (97 + (x.toNat : Int) % 5), .int .u8 (k : Int)] 5)
      obtain ⟨v', w', hap, hO', hgr, hblk⟩ := run_append_str (wr.alloc (.cells #[.int .u8 (97 + (x.toNat : Int) % 5), .int .u8 (k : Int)] 5)) w.heap.size u3 _ (hO.below ((Below.refl _ _).alloc (Nat.le_refl _) _)) hB1.size [97 + x % 5, UInt8.ofNat k] (by have := strsOf_len (l.take k); omega)
      have hB2 := below_of_grown hB1 hgr hB1.size (fun g' hg' => hO.blk g' hg')
      rw [← HS.out] at hO'
      rw [World.size_alloc] at hap
      have HAP := Lib.hid hap
      clear hx hA2 HA hap hN y1 y2 e1 e2 hgr hblk hB1
      go_wp2_with (at_builtin; refine Lib.wpList_append_run _ rfl (.tmp 15) (.tmp 26) 22 22 rfl _ _ rfl rfl _ _ HAP.out ?_)
      go_roundw
      case rel => exact ⟨k + 1, by omega, by omega, by go_num, hO', hB2⟩
      case measure => simp [intOf]; omega
    · have HE := Lib.hid (strs_end l k (by omega))
      have hd : (decide ((k : Int) < (l.length : Int)) = true ∧ decide ((k : Int) < 20) = false) ∨ decide ((k : Int) < (l.length : Int)) = false := by
        by_cases h : k < l.length
        · exact .inl ⟨decide_eq_true (by omega), decide_eq_false (by omega)⟩
        · exact .inr (decide_eq_false (by omega))
      rw [HE.out] at hO
      clear hlt HE HA
      rcases hd with ⟨d1, d2⟩ | d1
      · have k1 : (k : Int) < (l.length : Int) := of_decide_eq_true d1
        have k2 : ¬ ((k : Int) < 20) := of_decide_eq_false d2
        go_wp2_with fail
        go_ret
        exact ⟨_, rfl, hO, hB⟩
      · have k1 : ¬ ((k : Int) < (l.length : Int)) := of_decide_eq_false d1
        go_wp2_with fail
        go_ret
        exact ⟨_, rfl, hO, hB⟩
end Go.Proofs.Ytjekdeikoebmgaa
