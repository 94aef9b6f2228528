/- TreeRoots: Leaf, Node and Root are those of the reference implementation; no condition. -/
import Derived.Test.YtjekdeikoebmgaaArgs
namespace Go.Proofs.Ytjekdeikoebmgaa.LRoots
open Go.ChangeShapes Go.WideShapes Go.ChangeAt Go.RowKit Go.Shelf Go.ChangeMaps Tr

set_option maxRecDepth 100000 in
set_option maxHeartbeats 2000000 in
theorem walk (w : World) (v : Value) (l : List (List UInt8)) (a b : List UInt8) (hA : SArg w v l) (hn : l.length ≤ 8796093021952) (hs : ∀ s ∈ l, s.length ≤ 140737488351232) (ha : a.length = 32) (hb : b.length = 32) :
    Calls Try.prog 3 #[v, .agg (hrow a), .agg (hrow b)] w fun e w' => e = .returned (.bool true) ∧ Below w.heap.size w w' := by
  obtain ⟨ad, cap, rfl, hc, hA⟩ := hA
  obtain ⟨n, hnn, hn40, hmin⟩ : ∃ n : Nat, n ≤ l.length ∧ n ≤ 40 ∧ ∀ (w : World) (ts : Array TypeId) (t : TypeId), (Builtin.min_ ts t #[.int .i64 (l.length : Int), .int .i64 40]).run Try.prog w = .ok (.int .i64 (n : Int)) w := by
    by_cases h : l.length ≤ 40
    · refine ⟨l.length, Nat.le_refl _, h, fun w ts t => ?_⟩
      rw [run_min_int2]
      by_cases h2 : (40 : Int) < (l.length : Int)
      · omega
      · first | rw [if_neg h2] | (rw [if_pos (by omega)])
    · refine ⟨40, by omega, Nat.le_refl _, fun w ts t => ?_⟩
      rw [run_min_int2]
      first | (rw [if_pos (by omega)]; rfl) | (rw [if_neg (by omega)]; rfl)
  have hS : Small (l.take n) := ⟨fun s h => by have := hs s (List.mem_of_mem_take h); omega, by rw [List.length_take]; omega⟩
  have hln : (l.take n).length = n := by rw [List.length_take]; omega
  have hX : ∀ w', Below w.heap.size w w' → SArg w' (.slice ad n cap) (l.take n) := fun w' hb => ⟨ad, cap, by rw [hln], by omega, fun hne => by
    obtain ⟨g, o, h1, h2⟩ := hA (by rintro rfl; simp at hne)
    exact ⟨g, o, h1, (h2.below hb).take n⟩⟩
  have HX := Lib.hid hX
  have HS := Lib.hid hS
  have hsl : ∀ w, (Instr.sliceAt 22 (.slice ad l.length cap) none (some (.int .i64 n)) none).run Try.prog w = .ok (.slice ad n cap) w := fun w => by
    have e0 : (n : Int) ≤ (cap : Int) := by omega
    cases ad with
    | none => go_simp
    | some p => go_simp
  have NA := ((Blk.new w (hrow a) 24).alloc (.cells (hrow b) 24))
  have NB := Blk.new (w.alloc (.cells (hrow a) 24)) (hrow b) 24
  rw [World.size_alloc] at NB
  have hB := ((Below.refl w.heap.size w).alloc (Nat.le_refl _) (.cells (hrow a) 24)).alloc (by simp) (.cells (hrow b) 24)
  clear hX hS
  go_enter Try.func3, Try.ntmps3
  go_wp2_with (first
    | (refine wpList_box_row rfl 24 (.tmp 1) rfl (hrow a) rfl ?_)
    | (refine wpList_box_row rfl 24 (.tmp 2) rfl (hrow b) rfl ?_))
  generalize (w.alloc (.cells (hrow a) 24)).alloc (.cells (hrow b) 24) = w1 at *
  refine (Calls.chain hB hB.size (sanity_any _)).mono ?_; clear hB; rintro e w2 ⟨rfl, hB, hb2⟩
  have NA := NA.below hb2 NA.lt
  have NB := NB.below hb2 NB.lt
  clear hb2
  go_wp2_with fail
  go_loopw [18] (fun i wr => ∃ k : Nat, k ≤ n ∧ i = .int .i64 k ∧ Below w.heap.size w wr ∧ Blk wr w.heap.size (hrow a) 24 ∧ Blk wr (w.heap.size + 1) (hrow b) 24) (fun i _ => n - (intOf i).toNat)
  case atStart => exact ⟨0, by omega, rfl, hB, NA, NB⟩
  case round =>
    clear hB NA NB
    obtain ⟨k, hk, rfl, hB, NA, NB⟩ := hrel
    by_cases hlt : k < n
    · obtain ⟨g, o, rfl, hA2⟩ := hA (by rintro rfl; simp at hnn; omega)
      obtain ⟨s, hs1⟩ : ∃ s, l[k]? = some s := ⟨l[k]'(by omega), List.getElem?_eq_getElem (by omega)⟩
      have c := keepCells hB _ _ (hA2 k s hs1)
      have hss := hs s (List.mem_of_getElem? hs1)
      have E1 := Lib.hid (fun w => Leaf_any s (by omega) w)
      have E2 := Lib.hid (fun w => RLeaf_any s (by omega) w)
      have hq := fun w => run_eq_hash (leaf s) (leaf s) (leaf_length s) (leaf_length s) w
      simp only [beq_self_eq_true] at hq
      generalize hrow (leaf s) = R at *
      clear hs1 hmin hsl
      go_wp2_with fail
      refine (Calls.chain hB hB.size (E1.out _)).mono ?_; clear hB; rintro e w3 ⟨rfl, hB, hb3⟩
      have NA := NA.below hb3 NA.lt
      have NB := NB.below hb3 NB.lt
      clear hb3
      go_wp2_with fail
      refine (Calls.chain hB hB.size (E2.out _)).mono ?_; clear hB; rintro e w4 ⟨rfl, hB, hb3⟩
      have NA := NA.below hb3 NA.lt
      have NB := NB.below hb3 NB.lt
      clear hb3
      go_wp2_with fail
      go_roundw
      case rel => exact ⟨k + 1, by omega, by go_num, hB, NA, NB⟩
      case measure => simp [intOf]; omega
    · obtain rfl : k = n := by omega
      have E1 := Lib.hid (fun x : After wr => Root_any k (l.take k) (.slice ad k cap) x.W (by omega) HS.out (HX.out _ (hB.trans (x.hb.mono hB.size))))
      have E2 := Lib.hid (fun x : After wr => RRoot_any k (l.take k) (.slice ad k cap) x.W (by omega) HS.out (HX.out _ (hB.trans (x.hb.mono hB.size))))
      have E3 := Lib.hid (fun w => Node_any a b ha hb w)
      have E4 := Lib.hid (fun w => RNode_any a b ha hb w)
      have q1 := fun w => run_eq_hash (root (l.take k)) (root (l.take k)) (root_length _) (root_length _) w
      have q2 := fun w => run_eq_hash (node a b) (node a b) (node_length _ _) (node_length _ _) w
      simp only [beq_self_eq_true] at q1 q2
      have fa := After.hash NA ha
      have fb := After.hash NB hb
      generalize hrow (root (l.take k)) = R1 at *
      generalize hrow (node a b) = R2 at *
      generalize hrow a = RA at *
      generalize hrow b = RB at *
      clear hmin hsl hA NA NB hlt
      go_wp2_with fail
      refine wp_region_after (by kernel_rfl) (by kernel_rfl) ?_
      repeat (first
        | (refine quiet_load_at 24 (.tmp 4) (by rfl) ⟨w.heap.size, 0, none⟩ (by rfl) RA fa (by kernel_rfl) ?_; go_frame)
        | (refine quiet_load_at 24 (.tmp 5) (by rfl) ⟨w.heap.size + 1, 0, none⟩ (by rfl) RB fb (by kernel_rfl) ?_; go_frame)
        | (go_big_quiet_step (first | (with_reducible exact After.call (E1.out _)) | (with_reducible exact After.call (E2.out _)) | (with_reducible exact After.call (E3.out _)) | (with_reducible exact After.call (E4.out _)))))
      refine wpQuiet_nil ?_
      rintro w5 ⟨x5, rfl⟩
      have hB := hB.trans (x5.hb.mono hB.size)
      clear fa fb E1 E2 E3 E4 q1 q2
      go_wp2_with fail
      go_ret
      exact ⟨rfl, hB⟩

set_option maxRecDepth 100000 in
theorem lifted (os : Os) (started : os.Started) (H : Type) (enc : TypeId × Value → H) :
    ReturnsInHanded {} Try.checked os 3 .any (Rows.treeRootsSpec.pre6 enc Try.prog Try.f3 Rows.treeRootsRow.domain false) (Rows.treeRootsSpec.post enc Try.prog Try.f3 false true false false) := by
  refine returnsInHanded_of_change_sized (C := Try.checked) law_own started (by kernel_rfl) Try.func3
    (ChangeSpec.witness6 (enc := enc) (C := Try.checked) false ⟨#[], #[.slice none 0 0, .agg #[.int .u8 0, .int .u8 0, .int .u8 0, .int .u8 0, .int .u8 0, .int .u8 0, .int .u8 0, .int .u8 0, .int .u8 0, .int .u8 0, .int .u8 0, .int .u8 0, .int .u8 0, .int .u8 0, .int .u8 0, .int .u8 0, .int .u8 0, .int .u8 0, .int .u8 0, .int .u8 0, .int .u8 0, .int .u8 0, .int .u8 0, .int .u8 0, .int .u8 0, .int .u8 0, .int .u8 0, .int .u8 0, .int .u8 0, .int .u8 0, .int .u8 0, .int .u8 0], .agg #[.int .u8 0, .int .u8 0, .int .u8 0, .int .u8 0, .int .u8 0, .int .u8 0, .int .u8 0, .int .u8 0, .int .u8 0, .int .u8 0, .int .u8 0, .int .u8 0, .int .u8 0, .int .u8 0, .int .u8 0, .int .u8 0, .int .u8 0, .int .u8 0, .int .u8 0, .int .u8 0, .int .u8 0, .int .u8 0, .int .u8 0, .int .u8 0, .int .u8 0, .int .u8 0, .int .u8 0, .int .u8 0, .int .u8 0, .int .u8 0, .int .u8 0, .int .u8 0]], []⟩ 8 (by kernel_rfl) (by kernel_rfl) (by kernel_rfl) (by kernel_rfl)) ?_
  intro W base args ds gs before hval0 hW _ hsz _
  have hval : ∀ (j : Nat) t v, Try.f3.params[j]? = some t → args[j]? = some v → Value.okWide Try.prog W .any base t v := hval0
  have hWk : DataW.Whole enc Try.prog Try.f3.params.toList Rows.treeRootsSpec.vars false W args.toList ds gs before := hW
  obtain ⟨p, q, hA0, hV, rfl, _, _⟩ := hW
  have hA : DataW.TrodAll enc Try.prog W 0 (fun _ => true) true Try.f3.params.toList args.toList ds p := hA0
  rw [Try.params3] at hA hval hsz
  obtain ⟨v0, vs0, d0, ds0, p0, q0, hargs, rfl, rfl, h0, r0⟩ := trodAll_cons hA
  obtain ⟨v1, vs1, d1, ds1, p1, q1, rfl, rfl, rfl, h1, r1⟩ := trodAll_cons r0
  obtain ⟨v2, vs2, d2, ds2, p2, q2, rfl, rfl, rfl, h2, r2⟩ := trodAll_cons r1
  obtain ⟨rfl, rfl, rfl⟩ := trodAll_nil r2
  obtain rfl : args = #[v0, v1, v2] := by cases args; simp_all
  obtain ⟨rfl, rfl⟩ := trodVars_none hV
  obtain ⟨l0, hl0, hn0, hs0⟩ := open_strsA (hval 0 22 v0 rfl rfl) h0 (weights_le hsz (j := 0) rfl rfl)
  obtain ⟨l1, e1, rfl⟩ := open_hash (hval 1 24 v1 rfl rfl) h1
  obtain ⟨l2, e2, rfl⟩ := open_hash (hval 2 24 v2 rfl rfl) h2
  clear hA0 hval0
  refine (walk W v0 l0 l1 l2 hl0 hn0 hs0 e1 e2).mono fun e W' ⟨he, hb⟩ => ?_
  exact ⟨_, he, law_post law_laid rfl (by rw [Try.params3]; decide +kernel) (by kernel_rfl) Try.underlying4 rfl hWk hb⟩

theorem holds : Rows.TreeRootsSaid :=
  OpenClaim.holds_of_wide 3 Try.f3 rfl rfl rfl rfl rfl rfl rfl ⟨rfl, rfl, rfl, rfl, rfl⟩ rfl rfl rfl rfl rfl (by kernel_rfl) Try.func3 (by kernel_rfl)
    (of_decide_eq_true (by kernel_rfl)) (by unfold Func.isWrapper; first | (rw [if_pos (by decide +kernel)]; kernel_rfl) | (rw [if_neg (by decide +kernel)]; exact ⟨rfl, rfl⟩))
    (fun os started H enc _ => lifted os started H enc)

end Go.Proofs.Ytjekdeikoebmgaa.LRoots

namespace Go.Proofs.Ytjekdeikoebmgaa
/-- The statement. -/
theorem treeRoots_holds : Rows.TreeRootsSaid := LRoots.holds
end Go.Proofs.Ytjekdeikoebmgaa
