/- Hexadecimal texts: the contracts of the builder's methods that digest.Text calls. Conditions: sizes. -/
import Derived.Test.YtgkdfnmgbobamaaRefF
import Derived.Test.YtgkdfnmgbobamaaShelf
namespace Go.Proofs.Ytgkdfnmgbobamaa
open Go.RowKit Go.Shelf

theorem run_index_hash (l : List UInt8) (k : Nat) (x : UInt8) (hl : l.length = 32) (hx : l[k]? = some x) (w : World) :
    (Instr.index 24 (.agg (hrow l)) (.int .i64 k)).run Try.prog w = .ok (Y x) w := by
  have hk : k < l.length := (List.getElem?_eq_some_iff.1 hx).1
  have hs : (sizeOf 5).run Try.prog w = .ok 1 w := Try.sizeOf5 w
  have hin : (0 : Int) ≤ (k : Int) ∧ (k : Int) < 32 := by omega
  have hk2 : k < 32 := by omega
  have hg := hrow_get l k x hx
  simp [Instr.index, run_underlying Try.underlying24, asIntOf, hs, hk2, part, hg]

/-- The numbers of the shelf at this program, for copyCheck. -/
def layC_ren : Go.Shelf.Ren := ⟨fun | 240 => 38 | 276 => 43 | n => n, fun | 0 => 0 | 4 => 4 | 9 => 9 | 20 => 20 | 70 => 54 | 72 => 56 | 164 => 72 | 37 => 33 | 5 => 5 | n => n, fun n => n⟩
theorem layC : Go.Proofs.Lays.n240 Try.prog layC_ren := {
  mixed := by kernel_rfl
  f240 := Try.func38.trans (congrArg some (by kernel_rfl))
  f276 := Try.func43.trans (congrArg some (by kernel_rfl))
  t0 := Try.underlying0
  a0 := Try.isAgg0
  z0 := Try.sizeOf0
  v0 := Try.zeroValue0
  t4 := Try.underlying4
  a4 := Try.isAgg4
  z4 := Try.sizeOf4
  v4 := Try.zeroValue4
  t9 := Try.underlying9
  a9 := Try.isAgg9
  z9 := Try.sizeOf9
  v9 := Try.zeroValue9
  t20 := Try.underlying20
  a20 := Try.isAgg20
  z20 := Try.sizeOf20
  v20 := Try.zeroValue20
  t70 := Try.underlying54
  a70 := Try.isAgg54
  z70 := Try.sizeOf54
  v70 := Try.zeroValue54
  t72 := Try.underlying56
  a72 := Try.isAgg56
  z72 := Try.sizeOf56
  v72 := Try.zeroValue56
  t164 := Try.underlying72
  a164 := Try.isAgg72
  z164 := Try.sizeOf72
  v164 := Try.zeroValue72 }
theorem layC_size : Builder.X72 Try.prog layC_ren := {
  sizeBuilder := by kernel_rfl
  liesBuilder := by kernel_rfl }

/-- A builder that holds bytes. -/
abbrev BIs (B b : Nat) (l : List UInt8) (w : World) : Prop := Lib.IsBuilder 56 5 B b (l.map Y) w

theorem copyCheck_any (B b : Nat) (l : List UInt8) (w : World) (h : BIs B b l w) :
    Calls Try.prog 38 #[.pointer (some ⟨b, 0, none⟩)] w fun e w' => e = .returned (.tuple #[]) ∧ (Lib.BuilderAt 56 5 B b (.pointer (some ⟨b, 0, none⟩)) (l.map Y) w' ∧ Below B w w') :=
  Any.Builder_copyCheck layC layC_size B b (l.map Y) w h

set_option maxHeartbeats 2000000 in
set_option maxRecDepth 100000 in
theorem WriteByte_any (B b : Nat) (l : List UInt8) (c : UInt8) (w : World) (h : BIs B b l w) (hlen : l.length + 1 ≤ 140737488355328) (hBw : B ≤ w.heap.size) :
    Calls Try.prog 28 #[.pointer (some ⟨b, 0, none⟩), Y c] w fun e w' => e = .returned .nilIface ∧ (BIs B b (l ++ [c]) w' ∧ Below B w w') := by
  obtain ⟨i0, hi, hz0, hz1, hz2⟩ := info_parts infoB
  go_enter Try.func28, Try.ntmps28
  go_wp2_with fail
  refine (copyCheck_any B b l _ h).mono ?_
  rintro e w1 ⟨rfl, h1, hb1⟩
  obtain ⟨hB, v, hbk, hown, hne⟩ := h1
  rw [List.length_map] at hown
  have c0 : w1.cell? ⟨b, 0, none⟩ = some (.pointer (some ⟨b, 0, none⟩)) := by rw [Lib.cell_of_heap hbk]; rfl
  have c1 : w1.cell? ⟨b, 1, none⟩ = some v := by rw [Lib.cell_of_heap hbk]; rfl
  go_wp2_with (at_builtin; refine wpList_append_own _ rfl _ _ 33 rfl B 5 i0 (.int .u8 0) 1 1 Try.underlying33 hi hz0 hz1 hz2 rfl (by decide) _ _ _ rfl (hown.alloc _) ⟨w1.heap.size, 0, none⟩ 1 1 [Y c] rfl rfl ?c1 ?c2 ?c3 ?c4 ?c5 ?_)
  case c1 =>
    intro j u hj
    match j, hj with
    | 0, hj => simp at hj; subst hj; simp [Addr.add]
  case c2 => intro u hu; simp at hu; subst hu; rfl
  case c3 => unfold maxLen; omega
  case c4 => omega
  case c5 => have := hb1.size; simp; omega
  intro v' w2 hown' hgrow _
  have hlt : b < w1.heap.size := by
    rcases Nat.lt_or_ge b w1.heap.size with h' | h'
    · exact h'
    · simp [Array.getElem?_eq_none h'] at hbk
  have hb2 : w2.heap[b]? = some (.cells #[.pointer (some ⟨b, 0, none⟩), v] 56 (0, 0)) := by
    rw [hgrow.block b (by simp; omega) (fun e => hne e.symm), Lib.alloc_old w1 _ b hlt]
    exact hbk
  have d0 : w2.cell? ⟨b, 0, none⟩ = some (.pointer (some ⟨b, 0, none⟩)) := by rw [Lib.cell_of_heap hb2]; rfl
  have d1 : w2.cell? ⟨b, 1, none⟩ = some v := by rw [Lib.cell_of_heap hb2]; rfl
  have f1 : w2.frozen? ⟨b, 1, none⟩ = false := Lib.frozen_of_heap hb2 1
  obtain ⟨g, cap, rfl⟩ : ∃ g cap, v' = .slice (some ⟨g, 0, none⟩) (l.length + 1) cap := by
    rcases hown'.2 with ⟨_, h0⟩ | ⟨g, cap, cur, hv, _⟩
    · omega
    · exact ⟨g, cap, hv⟩
  go_wp2
  go_ret
  refine ⟨rfl, ?_, ?_⟩
  · refine .inr ?_
    rw [List.map_append]
    exact Lib.BuilderAt.put (T := 56) (e := 5) hB hb2 (bs' := l.map Y ++ [Y c]) (by simpa using hown') Builder_Extra_169.neB5
  · exact ((hb1.alloc (by have := hb1.size; omega) _).grown hgrow (by have := hb1.size; simp; omega) (fun k hk => (hown.lt k hk).1)).setCell (p := ⟨b, 1, none⟩) hB _

end Go.Proofs.Ytgkdfnmgbobamaa
