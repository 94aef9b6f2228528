/- TreeBinds: if a path is accepted for another string, two different strings with one hash are among those that are hashed; no condition. -/
import Derived.Test.YtjekdeikoebmgaaBiB
import Derived.Lib.SmallJoins
namespace Go.Proofs.Ytjekdeikoebmgaa.LBinds
open Go.ChangeShapes Go.WideShapes Go.ChangeAt Go.RowKit Go.Shelf Go.ChangeMaps Tr

set_option maxRecDepth 100000 in
set_option maxHeartbeats 3000000 in
theorem walk (w : World) (l : List UInt8) (a : Option Addr) (cap : Nat) (hc : l.length ≤ cap) (hm : l.length ≤ maxLen) (hA : l ≠ [] → ∃ g o, a = some ⟨g, o, none⟩ ∧ ∀ (i : Nat) (x : UInt8), l[i]? = some x → w.cell? ⟨g, o + i, none⟩ = some (Y x)) (za q0 q1 : Int) (x0 : List UInt8) (hz : 0 ≤ za ∧ za ≤ 255) (hx0 : x0.length ≤ 140737488351232) :
    Calls Try.prog 6 #[.slice a l.length cap, .int .u8 za, .agg #[S x0, .int .i64 q0, .int .i64 q1]] w fun e w' => e = .returned (.bool true) ∧ Below w.heap.size w w' := by
  have NQ := Blk.new w #[S x0, .int .i64 q0, .int .i64 q1] 47
  have hB := (Below.refl w.heap.size w).alloc (Nat.le_refl _) (.cells #[S x0, .int .i64 q0, .int .i64 q1] 47)
  have ST := Lib.hid (fun w' (hb : Below w.heap.size w w') => Strings_any l a cap w' hc hm (fun h => by
    obtain ⟨g, o, h1, h2⟩ := hA h
    exact ⟨g, o, h1, fun i x hx => keepCells hb _ _ (h2 i x hx)⟩))
  have hS := strsOf_small l
  have hsl := strsOf_len l
  have hs2 : ∀ s ∈ strsOf l, s.length ≤ 1000 := by
    intro s hs
    unfold strsOf at hs
    obtain ⟨p, _, rfl⟩ := List.mem_map.1 hs
    simp
  generalize strsOf l = ss at *
  have HS2 := Lib.hid hs2
  clear hA hs2
  go_enter Try.func6, Try.ntmps6
  go_wp2_with fail
  refine (Calls.chain hB hB.size (sanity_any _)).mono ?_; clear hB; rintro e w2 ⟨rfl, hB, hb2⟩
  have NQ := NQ.below hb2 NQ.lt
  clear hb2
  go_wp2_with fail
  refine (ST.out _ hB).mono ?_; rintro e w3 ⟨v, rfl, hO, hb3⟩
  have hB := hB.trans (hb3.mono hB.size)
  have NQ := NQ.below hb3 NQ.lt
  have hAS := hO.sarg
  clear hO hb3 ST
  obtain ⟨a1, cap1, rfl, hc1, hA1⟩ := id hAS
  have HAS := Lib.hid hAS
  have HA1 := Lib.hid hA1
  clear hAS hA1
  by_cases h0 : ss.length = 0
  · have t0 : ((ss.length : Int) == 0) = true := by rw [h0]; rfl
    have C1 := Lib.hid (fun x' : After w3 => HeadOf_any ss (.slice a1 ss.length cap1) x'.W hS (HAS.out.below x'.hb))
    have C2 := Lib.hid (fun x' : After w3 => CheckPath_q ss.length za (root ss) x0 [] (.slice none 0 0) x'.W (root_length _) (by omega) All32.nil (by simp) (by omega) (HArg.nil _))
    have hf : checkP ss.length (root ss) za x0 [] = false := by unfold checkP; rw [if_pos (by omega)]
    rw [hf] at C2
    have c0 := Lib.hid (NQ.cell 0 _ rfl)
    generalize hdrow (ss.length : Int) (root ss) = R at *
    clear hf h0 HAS HA1 NQ
    go_upto_region 4 with (fail)
    refine bi_r4 _ _ _ _ _ _ _ _ _ _ _ _ _ _ _ _ _ _ _ _ _ _ _ _ _ _ _ _ _ _ _ _ _ _ _ _ _ _ _ _ _ _ _ _ _ _ _ _ _ _ _ _ _ _ _ _ _ _ _ _ _ _ _ _ _ _ _ _ _ _ _ _ _ _ _ _ _ _ _ _ _ _ _ _ _ _ _ _ _ _ _ _ _ _ _ _ _ _ _ _ _ _ _ _ _ _ _ za _ x0 R w3 hz c0.out C1.out C2.out _ ?_
    intro y23 y24 y25 y26 y27 y28 y29 y30 y31 y32 y33 w4 hb4
    have hB := hB.trans (hb4.mono hB.size)
    clear C1 C2 c0
    go_wp2_with fail
    go_ret
    exact ⟨rfl, hB⟩
  · obtain ⟨k, hk1, hk2⟩ : ∃ k : Nat, za % (ss.length : Int) = (k : Int) ∧ k < ss.length := ⟨(za % (ss.length : Int)).toNat, by have := Int.emod_nonneg za (show (ss.length : Int) ≠ 0 by omega); omega, by have := Int.emod_lt_of_pos za (show (0 : Int) < (ss.length : Int) by omega); have := Int.emod_nonneg za (show (ss.length : Int) ≠ 0 by omega); omega⟩
    obtain ⟨h1, h2⟩ := hz
    have t0 : ((ss.length : Int) == 0) = false := by rw [beq_eq_false_iff_ne]; omega
    have t1 : ¬ ((ss.length : Int) = 0) := by omega
    have t2 : ¬ (ss.length = 0) := h0
    have t3 : za.tmod (ss.length : Int) = (k : Int) := by rw [Int.tmod_eq_emod_of_nonneg (by omega)]; exact hk1
    obtain ⟨m, hm1, hm2⟩ : ∃ m : Nat, ((k : Int) + 1) % (ss.length : Int) = (m : Int) ∧ m < ss.length := ⟨(k + 1) % ss.length, by rw [Int.natCast_emod, Int.natCast_add]; rfl, Nat.mod_lt _ (by omega)⟩
    obtain ⟨sk, hsk⟩ : ∃ s, ss[k]? = some s := ⟨ss[k], List.getElem?_eq_getElem hk2⟩
    obtain ⟨sm, hsm⟩ : ∃ s, ss[m]? = some s := ⟨ss[m], List.getElem?_eq_getElem hm2⟩
    obtain ⟨g, o, rfl, hA2⟩ := HA1.out (by rintro rfl; simp at hsk)
    have HM := Lib.hid hm1
    have HSK := Lib.hid hsk
    have HSM := Lib.hid hsm
    have HAA := Lib.hid hA2
    clear h0 HAS HA1 hm1 hsk hsm hA2
    go_upto_region 6 with (fail)
    have hK9 := ‹∀ (a : Act) (w : World), Code.wp Try.prog _ _ a w → _›
    exact bi_t6 _ _ _ _ _ _ _ _ _ _ _ _ _ _ _ _ _ _ _ _ _ _ _ _ _ _ _ _ _ _ _ _ _ _ _ _ _ _ _ _ _ _ _ _ _ _ _ _ _ _ _ _ _ _ _ _ _ _ _ _ _ _ _ _ _ _ _ _ _ _ _ _ _ _ _ _ _ _ _ _ _ _ _ _ _ _ _ _ _ _ _ _ _ _ _ _ _ _ _ _ _ _ _ _ _ _ q0 q1 _ g o ss.length cap1 k m x0 sk sm ss w w3 rfl hsl hc1 hk2 HSK.out HM.out hm2 HSM.out hS HS2.out (by omega) NQ HAA.out hB _ hK9

theorem open_lie {H : Type} {enc : TypeId × Value → H} {W : World} {base : Nat} {v : Value} {d : Go.DataW H} {ps : List MemPlace}
    (hval : Value.okWide Try.prog W .any base 47 v) (hd : DataW.Trod enc Try.prog W 0 (fun _ => true) true 47 v d ps) (hz : ∀ n ∈ d.weights Try.prog 47, n ≤ reachBytes) :
    ∃ (x : List UInt8) (q0 q1 : Int), v = .agg #[S x, .int .i64 q0, .int .i64 q1] ∧ x.length ≤ 140737488351232 := by
  obtain ⟨f0, f1, f2, hu, ht0, ht1, ht2, hone, hC⟩ : ∃ f0 f1 f2 : Field, Try.prog.underlying 47 = some (.struct #[f0, f1, f2]) ∧ f0.type = 9 ∧ f1.type = 3 ∧ f2.type = 3 ∧ Go.Deep.oneCellFields Try.prog #[f0, f1, f2] = true ∧ Try.prog.cellsOf 47 = 3 := ⟨_, _, _, Try.underlying47, rfl, rfl, rfl, by kernel_rfl, by kernel_rfl⟩
  obtain ⟨v0, v1, v2, y0, y1, y2, n, rfl, rfl, _, h0, h1, h2⟩ := Go.Joins.open_agg3 hu hone hC hval hd
  rw [ht0] at h0
  rw [ht1] at h1
  rw [ht2] at h2
  obtain ⟨s, e0, e0', _⟩ := DataW.trod_string Try.underlying9 h0
  have i1 : ∃ z, v1 = .int .i64 z := by
    obtain ⟨z, hz1, _⟩ := DataW.trod_int Try.underlying3 h1
    exact ⟨z, by simpa using hz1⟩
  have i2 : ∃ z, v2 = .int .i64 z := by
    obtain ⟨z, hz1, _⟩ := DataW.trod_int Try.underlying3 h2
    exact ⟨z, by simpa using hz1⟩
  obtain ⟨q0, rfl⟩ := i1
  obtain ⟨q1, rfl⟩ := i2
  simp at e0
  subst e0
  refine ⟨s.data.toList, q0, q1, by rw [str_back], ?_⟩
  have := hz s.data.toList.length (by
    simp only [DataW.weights, hu, e0']
    simp [DataW.weightsEach, DataW.weights])
  exact this

set_option maxRecDepth 100000 in
theorem lifted (os : Os) (started : os.Started) (H : Type) (enc : TypeId × Value → H) :
    ReturnsInHanded {} Try.checked os 6 .any (Rows.treeBindsSpec.pre6 enc Try.prog Try.f6 Rows.treeBindsRow.domain false) (Rows.treeBindsSpec.post enc Try.prog Try.f6 false true false false) := by
  refine returnsInHanded_of_change_sized (C := Try.checked) law_own started (by kernel_rfl) Try.func6
    (ChangeSpec.witness6 (enc := enc) (C := Try.checked) false ⟨#[], #[.slice none 0 0, .int .u8 0, .agg #[.string ⟨#[]⟩, .int .i64 0, .int .i64 0]], []⟩ 8 (by kernel_rfl) (by kernel_rfl) (by kernel_rfl) (by kernel_rfl)) ?_
  intro W base args ds gs before hval0 hW _ hsz _
  have hval : ∀ (j : Nat) t v, Try.f6.params[j]? = some t → args[j]? = some v → Value.okWide Try.prog W .any base t v := hval0
  have hWk : DataW.Whole enc Try.prog Try.f6.params.toList Rows.treeBindsSpec.vars false W args.toList ds gs before := hW
  obtain ⟨p, q, hA0, hV, rfl, _, _⟩ := hW
  have hA : DataW.TrodAll enc Try.prog W 0 (fun _ => true) true Try.f6.params.toList args.toList ds p := hA0
  rw [Try.params6] at hA hval hsz
  obtain ⟨v0, vs0, d0, ds0, p0, q0, hargs, rfl, rfl, h0, r0⟩ := trodAll_cons hA
  obtain ⟨v1, vs1, d1, ds1, p1, q1, rfl, rfl, rfl, h1, r1⟩ := trodAll_cons r0
  obtain ⟨v2, vs2, d2, ds2, p2, q2, rfl, rfl, rfl, h2, r2⟩ := trodAll_cons r1
  obtain ⟨rfl, rfl, rfl⟩ := trodAll_nil r2
  obtain rfl : args = #[v0, v1, v2] := by cases args; simp_all
  obtain ⟨rfl, rfl⟩ := trodVars_none hV
  obtain ⟨l0, a0, c0, rfl, hc0, hm0, hr0⟩ := open_u8sA (hval 0 30 v0 rfl rfl) h0
  obtain ⟨a1, rfl, _, _, w1⟩ := open_int Try.underlying5 (hval 1 5 v1 rfl rfl) h1
  obtain ⟨x2, q0, q1, rfl, hx2⟩ := open_lie (hval 2 47 v2 rfl rfl) h2 (weights_le hsz (j := 2) rfl rfl)
  clear hA0 hval0
  refine (walk W l0 a0 c0 hc0 hm0 hr0 a1 q0 q1 x2 (by simpa [Lit.wf, IntKind.min, IntKind.max, IntKind.signed, IntKind.bits] using w1) hx2).mono fun e W' ⟨he, hb⟩ => ?_
  exact ⟨_, he, law_post law_laid rfl (by rw [Try.params6]; decide +kernel) (by kernel_rfl) Try.underlying4 rfl hWk hb⟩

theorem holds : Rows.TreeBindsSaid :=
  OpenClaim.holds_of_wide 6 Try.f6 rfl rfl rfl rfl rfl rfl rfl ⟨rfl, rfl, rfl, rfl, rfl⟩ rfl rfl rfl rfl rfl (by kernel_rfl) Try.func6 (by kernel_rfl)
    (of_decide_eq_true (by kernel_rfl)) (by unfold Func.isWrapper; first | (rw [if_pos (by decide +kernel)]; kernel_rfl) | (rw [if_neg (by decide +kernel)]; exact ⟨rfl, rfl⟩))
    (fun os started H enc _ => lifted os started H enc)

end Go.Proofs.Ytjekdeikoebmgaa.LBinds

namespace Go.Proofs.Ytjekdeikoebmgaa
/-- The statement. -/
theorem treeBinds_holds : Rows.TreeBindsSaid := LBinds.holds
end Go.Proofs.Ytjekdeikoebmgaa
