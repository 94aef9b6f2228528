/- The closures of Open; selected at shares; ContainsFunc. Conditions: the range of int. -/
import Derived.Test.YtdnabeldaighgaaJoi
import Derived.Laws.EntriesVeiled
namespace Go.Proofs.Ytdnabeldaighgaa
open Go.RowKit Go.Shelf Shr

namespace Shr
/-- One more share, if none with its X is there. -/
def stp (acc : List (Int × Int)) (s : Int × Int) : List (Int × Int) := if acc.any (fun p => p.1 == s.1) then acc else acc ++ [s]
def ownS (l : List (Int × Int)) : List (Int × Int) := l.foldl stp []
def badS (cs : List Int) (l : List (Int × Int)) : List Int := (l.filter (fun p => !fts cs p)).map Prod.fst
/-- What Open returns. -/
def opS (cs : List Int) (l : List (Int × Int)) : Int × List Int × Int :=
  if comm cs = false then (0, [], 1) else if (ownS (l.filter (fts cs))).length < cs.length then (0, badS cs l, 24) else ((joinS cs.length (ownS (l.filter (fts cs)))).1, badS cs l, 0)
end Shr
theorem stp_len (acc : List (Int × Int)) (s : Int × Int) : (stp acc s).length ≤ acc.length + 1 := by
  unfold stp; split
  · omega
  · simp
theorem fold_stp_len : ∀ (l acc : List (Int × Int)), (l.foldl stp acc).length ≤ acc.length + l.length
  | [], _ => Nat.le_refl _
  | s :: l, acc => by
    have h1 := fold_stp_len l (stp acc s)
    have h2 := stp_len acc s
    rw [List.foldl_cons, List.length_cons]
    omega
theorem ownS_len (l : List (Int × Int)) : (ownS l).length ≤ l.length := by
  have := fold_stp_len l []
  unfold ownS
  simp at this; exact this
theorem ownS_snoc (l : List (Int × Int)) (s : Int × Int) : ownS (l ++ [s]) = stp (ownS l) s := by unfold ownS; rw [List.foldl_append]; rfl
theorem fold_stp_mem : ∀ (l acc : List (Int × Int)), ∀ p ∈ l.foldl stp acc, p ∈ acc ∨ p ∈ l
  | [], _, _, h => .inl h
  | s :: l, acc, p, h => by
    rcases fold_stp_mem l (stp acc s) p h with h | h
    · unfold stp at h
      split at h
      · exact .inl h
      · rcases List.mem_append.1 h with h | h
        · exact .inl h
        · exact .inr (by simp at h; simp [h])
    · exact .inr (by simp [h])
theorem ownS_mem {l : List (Int × Int)} {p : Int × Int} (h : p ∈ ownS l) : p ∈ l := by
  rcases fold_stp_mem l [] p h with h | h
  · cases h
  · exact h

set_option maxRecDepth 100000 in
set_option maxHeartbeats 2000000 in
theorem open1_any (cs : List Int) (x y : Int) (cv : Value) (pb : Nat) (w : World) (hB : Blk w pb #[cv] 22) (hl : All64 cs) (hx : In64 x) (hy : In64 y) (hl9 : cs.length ≤ 90000) (hA : IArg w cv cs) :
    Calls Try.prog 37 #[.agg #[I x, I y], .pointer (some ⟨pb, 0, none⟩)] w fun e w' => e = .returned (.bool (fts cs (x, y))) ∧ Below w.heap.size w w' := by
  have N := Blk.new w #[I x, I y] 33
  have hb1 := (Below.refl w.heap.size w).alloc (Nat.le_refl _) (.cells #[I x, I y] 33)
  have hB2 := hB.alloc (.cells #[I x, I y] 33)
  have D1 := Lib.hid (fun (w' : World) (hb : Below w.heap.size w w') => Fits_any cs x y cv w' hl hx hy hl9 (hA.below hb))
  have c0 := N.cell 0 _ rfl
  have c1 := N.cell 1 _ rfl
  have c2 := hB2.cell 0 _ rfl
  obtain ⟨a, cap, rfl, hc, _⟩ := hA
  obtain ⟨b, hb⟩ : ∃ b, fts cs (x, y) = b := ⟨_, rfl⟩
  rw [hb] at D1
  rw [hb]
  clear N hB hB2 hb
  go_enter Try.func37, Try.ntmps37
  go_wp2_with fail
  refine (D1.out _ hb1).mono ?_; rintro e w3 ⟨rfl, hb3⟩
  have hb := hb1.trans (hb3.mono hb1.size)
  go_wp2_with fail
  go_ret
  exact ⟨rfl, hb⟩

set_option maxRecDepth 100000 in
set_option maxHeartbeats 2000000 in
theorem open2_any (x y z zy : Int) (pb : Nat) (w : World) (hB : Blk w pb #[I z, I zy] 33) :
    Calls Try.prog 39 #[.agg #[I x, I y], .pointer (some ⟨pb, 0, none⟩)] w fun e w' => e = .returned (.bool (x == z)) ∧ Below w.heap.size w w' := by
  have N := Blk.new w #[I x, I y] 33
  have hb1 := (Below.refl w.heap.size w).alloc (Nat.le_refl _) (.cells #[I x, I y] 33)
  have hB2 := hB.alloc (.cells #[I x, I y] 33)
  have c0 := N.cell 0 _ rfl
  have c2 := hB2.cell 0 _ rfl
  obtain ⟨b, hb⟩ : ∃ b, (x == z) = b := ⟨_, rfl⟩
  rw [hb]
  clear N hB hB2
  go_enter Try.func39, Try.ntmps39
  go_wp2_with fail
  go_ret
  exact ⟨rfl, hb1⟩

set_option maxRecDepth 100000 in
set_option maxHeartbeats 2000000 in
theorem index_any (l : List (Int × Int)) (z zy : Int) (v : Value) (pb : Nat) (w : World) (hB : Blk w pb #[I z, I zy] 33) (hl9 : l.length ≤ 1000000) (hA : ShArg w v l) :
    Calls Try.prog 56 #[v, .func (.func 39) #[] #[.pointer (some ⟨pb, 0, none⟩)]] w fun e w' => ∃ i : Int, e = .returned (I i) ∧ (0 ≤ i ↔ l.any (fun p => p.1 == z) = true) ∧ -1 ≤ i ∧ i ≤ 1000000 ∧ Below w.heap.size w w' := by
  obtain ⟨a, cap, rfl, hc, hA'⟩ := hA
  have HA := Lib.hid (fun W (hb : Below w.heap.size w W) (h : l ≠ []) => (by obtain ⟨g, o, e1, e2⟩ := hA' h; exact ⟨g, o, e1, e2.below hb⟩ : ∃ g o, a = some ⟨g, o, none⟩ ∧ ShAt W g o l))
  have HEX : Hid (∀ (k : Nat), k < l.length → ∃ c, l[k]? = some c) := fun k hk => ⟨l[k], List.getElem?_eq_getElem hk⟩
  have HY : Hid (∀ (k : Nat) (p : Int × Int), l[k]? = some p → (p.1 == z) = true → l.any (fun p => p.1 == z) = true) := by
    show ∀ (k : Nat) (p : Int × Int), _
    intro k p hk hp
    exact List.any_eq_true.2 ⟨p, List.mem_of_getElem? hk, hp⟩
  have HNO : Hid ((∀ (k : Nat) (p : Int × Int), l[k]? = some p → (p.1 == z) = false) → ¬ l.any (fun p => p.1 == z) = true) := by
    show (∀ (k : Nat) (p : Int × Int), _) → _
    intro h e
    obtain ⟨p, hp, e2⟩ := List.any_eq_true.1 e
    obtain ⟨k, hk, rfl⟩ := List.getElem_of_mem hp
    rw [h k _ (List.getElem?_eq_getElem hk)] at e2
    cases e2
  obtain ⟨n, hn⟩ : ∃ n, l.length = n := ⟨_, rfl⟩
  have HN := Lib.hid hn
  rw [hn] at hc hl9 HEX
  rw [hn]
  have HPB := Lib.hid (fun W (hb : Below w.heap.size w W) => hB.below hb hB.lt)
  have HQ : Hid (∀ (i : Int) (W : World), (0 ≤ i ↔ l.any (fun p => p.1 == z) = true) → -1 ≤ i → i ≤ 1000000 → Below w.heap.size w W → (∃ j : Int, Ending.returned (I i) = .returned (I j) ∧ (0 ≤ j ↔ l.any (fun p => p.1 == z) = true) ∧ -1 ≤ j ∧ j ≤ 1000000 ∧ Below w.heap.size w W)) := fun i W a b c d => ⟨i, rfl, a, b, c, d⟩
  clear hn hA' hB
  generalize hPQ : (fun (e : Ending) (w' : World) => ∃ i : Int, e = .returned (I i) ∧ (0 ≤ i ↔ l.any (fun p => p.1 == z) = true) ∧ -1 ≤ i ∧ i ≤ 1000000 ∧ Below w.heap.size w w') = PQ
  have HPQ : Hid (∀ (i : Int) (W : World), (0 ≤ i ↔ l.any (fun p => p.1 == z) = true) → -1 ≤ i → i ≤ 1000000 → Below w.heap.size w W → PQ (.returned (I i)) W) := by
    show ∀ (i : Int) (W : World), _
    intro i W a b c d
    rw [← hPQ]; exact ⟨i, rfl, a, b, c, d⟩
  clear hPQ HQ
  go_enter Try.func56, Try.ntmps56
  go_wp2_with fail
  go_loopw [8] (fun i wr => ∃ k : Nat, k ≤ n ∧ i = .int .i64 (k : Int) ∧ Hid (∀ (j : Nat), j < k → ∀ (p : Int × Int), l[j]? = some p → (p.1 == z) = false) ∧ Below w.heap.size w wr) (fun i _ => n - (intOf i).toNat)
  case atStart => exact ⟨0, by omega, rfl, fun j hj => absurd hj (by omega), Below.refl _ _⟩
  case round =>
    obtain ⟨k, hk, rfl, HJ, hb⟩ := hrel
    by_cases hlt : k < n
    · obtain ⟨⟨px, py⟩, hp⟩ := HEX.out k hlt
      obtain ⟨g, o, rfl, hAt⟩ := HA.out wr hb (by rintro rfl; simp at hp)
      obtain ⟨c0, c1⟩ := hAt.cells hp
      have q1 : (k : Int) < (n : Int) := by omega
      have D1 := Lib.hid (open2_any px py z zy pb wr (HPB.out wr hb))
      have HP := Lib.hid hp
      obtain ⟨b, hbb⟩ : ∃ b, (px == z) = b := ⟨_, rfl⟩
      rw [hbb] at D1
      have HBB := Lib.hid hbb
      clear hbb hp hAt
      go_wp2_with fail
      refine D1.out.mono ?_; rintro e w3 ⟨rfl, hb3⟩
      have hb4 := hb.trans (hb3.mono hb.size)
      clear c0 c1 hb hb3 D1
      cases b
      · go_wp2_with fail
        go_roundw
        case rel =>
          refine ⟨k + 1, by omega, by go_num, fun j hj p hp => ?_, hb4⟩
          by_cases hjk : j < k
          · exact HJ.out j hjk p hp
          · obtain rfl : j = k := by omega
            rw [HP.out] at hp
            injection hp with hp
            rw [← hp]; exact HBB.out
        case measure => simp [intOf]; omega
      · have HR := Lib.hid (HPQ.out (k : Int) w3 ⟨fun _ => HY.out k _ HP.out HBB.out, fun _ => by omega⟩ (by omega) (by omega) hb4)
        go_wp2_with fail
        exact HR.out
    · have q1 : ¬ ((k : Int) < (n : Int)) := by omega
      have hnone := HNO.out (fun j p hp => HJ.out j (by have := (List.getElem?_eq_some_iff.1 hp).1; have := HN.out; omega) p hp)
      have HR := Lib.hid (HPQ.out (-1) wr ⟨fun h => absurd h (by omega), fun h => absurd h hnone⟩ (by omega) (by omega) hb)
      clear hnone
      go_wp2_with fail
      exact HR.out

set_option maxRecDepth 100000 in
set_option maxHeartbeats 2000000 in
theorem contains_any (l : List (Int × Int)) (z zy : Int) (v : Value) (pb : Nat) (w : World) (hB : Blk w pb #[I z, I zy] 33) (hl9 : l.length ≤ 1000000) (hA : ShArg w v l) :
    Calls Try.prog 38 #[v, .func (.func 39) #[] #[.pointer (some ⟨pb, 0, none⟩)]] w fun e w' => e = .returned (.bool (l.any (fun p => p.1 == z))) ∧ Below w.heap.size w w' := by
  have D1 := Lib.hid (index_any l z zy v pb w hB hl9 hA)
  obtain ⟨a, cap, rfl, hc, _⟩ := hA
  obtain ⟨b, hb⟩ : ∃ b, l.any (fun p => p.1 == z) = b := ⟨_, rfl⟩
  rw [hb] at D1
  rw [hb]
  clear hb hB
  go_enter Try.func38, Try.ntmps38
  go_wp2_with fail
  refine D1.out.mono ?_; rintro e w3 ⟨i, rfl, h1, h2, h3, hb3⟩
  cases b with
  | true =>
    have q0 : 0 ≤ i := h1.2 rfl
    have q1 : decide (i ≥ 0) = true := decide_eq_true q0
    clear h1
    go_wp2_with fail
    go_ret
    exact ⟨rfl, hb3⟩
  | false =>
    have q0 : ¬ 0 ≤ i := fun h => Bool.noConfusion (h1.1 h)
    have q1 : decide (i ≥ 0) = false := decide_eq_false q0
    clear h1
    go_wp2_with fail
    go_ret
    exact ⟨rfl, hb3⟩

end Go.Proofs.Ytdnabeldaighgaa
