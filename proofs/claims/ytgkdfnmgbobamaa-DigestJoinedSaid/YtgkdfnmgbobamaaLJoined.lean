/- DigestJoined: the hash of two strings, joined, depends on nothing but the bytes; no condition. -/
import Derived.Test.YtgkdfnmgbobamaaSan
import Derived.Test.YtgkdfnmgbobamaaLaw
import Derived.ChangeMaps5
namespace Go.Proofs.Ytgkdfnmgbobamaa.LJoined
open Go.ChangeShapes Go.WideShapes Go.ChangeAt Go.RowKit Go.Shelf Go.ChangeMaps

set_option maxRecDepth 100000 in
set_option maxHeartbeats 2000000 in
theorem walk (s : ByteArray) (at_ : Int) (w : World) :
    Calls Try.prog 8 #[.string s, .int .i64 at_] w fun e w' => e = .returned (.bool true) ∧ Below w.heap.size w w' := by
  obtain ⟨n, hn1, hn2, hmin⟩ := min_cut s 300 300 rfl
  have HS := Lib.hid (extract_size s n hn1)
  obtain ⟨x, hx⟩ : ∃ x, s.extract 0 n = x := ⟨_, rfl⟩
  have HX := Lib.hid hx
  rw [hx] at HS
  have hS : x.size = n := HS.out
  obtain ⟨k, hk, hk2⟩ : ∃ k : Nat, at_ % ((n : Int) + 1) = (k : Int) ∧ k ≤ n := ⟨(at_ % ((n : Int) + 1)).toNat, by have := Int.emod_nonneg at_ (by omega : (n : Int) + 1 ≠ 0); omega, by have := Int.emod_lt_of_pos at_ (by omega : (0 : Int) < (n : Int) + 1); omega⟩
  have A1 := Lib.hid (fun w => Mod_any at_ ((n : Int) + 1) (by omega) (by omega) w)
  rw [hk] at A1
  clear hk hx
  have hj : x.extract 0 k ++ x.extract k n = x := by rw [← hS]; exact join_parts x k (by omega)
  have hps : (x.extract k n).size ≤ 300 := by rw [ByteArray.size_extract]; omega
  have E1 := Lib.hid (fun w => Sum_any x (by omega) w)
  have E2 := Lib.hid (fun w => RSumB_any x (by omega) w)
  have E3 := Lib.hid (fun w => Sum_any (x.extract k n) (by omega) w)
  have E4 := Lib.hid (fun w => RSumB_any (x.extract k n) (by omega) w)
  have q1 := fun w => run_eq_hash (Sha.sum x.data.toList) (Sha.sum x.data.toList) (Sha.sum_length _) (Sha.sum_length _) w
  have q2 := fun w => run_eq_hash (Sha.sum (x.extract k n).data.toList) (Sha.sum (x.extract k n).data.toList) (Sha.sum_length _) (Sha.sum_length _) w
  simp only [beq_self_eq_true] at q1 q2
  generalize hrow (Sha.sum x.data.toList) = R1 at *
  generalize hrow (Sha.sum (x.extract k n).data.toList) = R2 at *
  obtain ⟨p, hp⟩ : ∃ p, x.extract k n = p := ⟨_, rfl⟩
  have HP := Lib.hid hp
  rw [hp] at hj hps E3 E4
  obtain ⟨o, ho⟩ : ∃ o, x.extract 0 k = o := ⟨_, rfl⟩
  have HO := Lib.hid ho
  rw [ho] at hj
  have hos : o.size ≤ 300 := by rw [← ho, ByteArray.size_extract]; omega
  have hos' : o.size + p.size ≤ 600 := by omega
  have HJ := Lib.hid hj
  clear hp ho HS hj
  have hkn : (k : Int) ≤ (n : Int) := by omega
  have hn300 : (n : Int) ≤ 300 := by omega
  have hB := Below.refl w.heap.size w
  go_enter Try.func8, Try.ntmps8
  go_wp2_with fail
  refine (Calls.chain hB (sanity_any _)).mono ?_; clear hB; rintro e w9 ⟨rfl, hB⟩
  go_wp2_with fail
  rw [show s.extract 0 n = x from HX.out]
  refine (Calls.still hB (A1.out _)).mono ?_; clear hB; rintro e w9 ⟨rfl, hB⟩
  go_wp2_with fail
  have e1 := HO.out
  have e2 := HP.out
  refine wp_region_noPanic ?_
  go_region_held3 (fun _ : World => True) (first | exact trivial) (first | fail)
  refine NoPanic.normal ?_
  clear e1 e2
  have N5 := (Blk.new w9 #[.string o, .string p] 34).below (((Below.refl _ _).drew) : Below (w9.heap.size + 1) _ _) (by omega)
  have hB := (hB.alloc hB.size (.cells #[.string o, .string p] 34)).drew
  have c0 := N5.cell 0 _ rfl
  have c1 := N5.cell 1 _ rfl
  have f0 := After.cell c0
  have f1 := After.cell c1
  have hj := HJ.out
  clear c0 c1
  go_wp2_with fail
  refine wp_region_after (by kernel_rfl) (by kernel_rfl) ?_
  repeat (go_big_quiet_step (first | (with_reducible exact After.call (E1.out _)) | (with_reducible exact After.call (E2.out _)) | (with_reducible exact After.call (E3.out _)) | (with_reducible exact After.call (E4.out _))))
  refine wpQuiet_nil ?_
  rintro w6 ⟨x6, rfl⟩
  have hB := hB.trans (x6.hb.mono hB.size)
  go_wp2_with fail
  go_ret
  exact ⟨rfl, hB⟩

set_option maxRecDepth 100000 in
theorem lifted (os : Os) (started : os.Started) (H : Type) (enc : TypeId × Value → H) :
    ReturnsInHanded {} Try.checked os 8 .any (Rows.digestJoinedSpec.pre6 enc Try.prog Try.f8 Rows.digestJoinedRow.domain false) (Rows.digestJoinedSpec.post enc Try.prog Try.f8 false true false false) := by
  refine returnsInHanded_of_change (C := Try.checked) law_own started (by kernel_rfl) Try.func8
    (ChangeSpec.witness6 (enc := enc) (C := Try.checked) false ⟨#[], #[.string ⟨#[]⟩, .int .i64 0], []⟩ 8 (by kernel_rfl) (by kernel_rfl) (by kernel_rfl) (by kernel_rfl)) ?_
  intro W base args ds gs before hval0 hW _ _
  have hval : ∀ (j : Nat) t v, Try.f8.params[j]? = some t → args[j]? = some v → Value.okWide Try.prog W .any base t v := hval0
  have hWk : DataW.Whole enc Try.prog Try.f8.params.toList Rows.digestJoinedSpec.vars false W args.toList ds gs before := hW
  obtain ⟨p, q, hA0, hV, rfl, _, _⟩ := hW
  have hA : DataW.TrodAll enc Try.prog W 0 (fun _ => true) true Try.f8.params.toList args.toList ds p := hA0
  rw [Try.params8] at hA hval
  obtain ⟨v0, vs0, d0, ds0, p0, q0, hargs, rfl, rfl, h0, r0⟩ := trodAll_cons hA
  obtain ⟨v1, vs1, d1, ds1, p1, q1, rfl, rfl, rfl, h1, r1⟩ := trodAll_cons r0
  obtain ⟨rfl, rfl, rfl⟩ := trodAll_nil r1
  obtain rfl : args = #[v0, v1] := by cases args; simp_all
  obtain ⟨rfl, rfl⟩ := trodVars_none hV
  obtain ⟨s0, rfl, _, _, w0⟩ := open_string Try.underlying9 (hval 0 9 v0 rfl rfl) h0
  obtain ⟨a1, rfl, _, _, w1⟩ := open_int Try.underlying3 (hval 1 3 v1 rfl rfl) h1
  clear hA0 hval0
  refine (walk s0 a1 W).mono fun e W' ⟨he, hb⟩ => ?_
  exact ⟨_, he, law_post law_laid rfl (by rw [Try.params8]; decide +kernel) (by kernel_rfl) Try.underlying4 rfl hWk hb⟩

theorem holds : Rows.DigestJoinedSaid :=
  OpenClaim.holds_of_wide 8 Try.f8 rfl rfl rfl rfl rfl rfl rfl ⟨rfl, rfl, rfl, rfl, rfl⟩ rfl rfl rfl rfl rfl (by kernel_rfl) Try.func8 (by kernel_rfl)
    (of_decide_eq_true (by kernel_rfl)) (by unfold Func.isWrapper; first | (rw [if_pos (by decide +kernel)]; kernel_rfl) | (rw [if_neg (by decide +kernel)]; exact ⟨rfl, rfl⟩))
    (fun os started H enc _ => lifted os started H enc)

end Go.Proofs.Ytgkdfnmgbobamaa.LJoined

namespace Go.Proofs.Ytgkdfnmgbobamaa
/-- The statement. -/
theorem digestJoined_holds : Rows.DigestJoinedSaid := LJoined.holds
end Go.Proofs.Ytgkdfnmgbobamaa
