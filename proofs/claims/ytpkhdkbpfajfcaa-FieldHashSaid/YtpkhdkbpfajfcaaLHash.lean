/- FieldHash: Hash has the results of the reference, from 0 to m - 1; that modulo a divisor of m is the residue of that modulo m; no condition. -/
import Derived.Test.YtpkhdkbpfajfcaaHash
import Derived.SizedLaws
import Derived.ChangeMaps5
import Derived.Test.YtpkhdkbpfajfcaaLaw
namespace Go.Proofs.Ytpkhdkbpfajfcaa.LHash
open Go.ChangeShapes Go.WideShapes Go.ChangeAt Go.RowKit Go.Shelf Go.ChangeMaps

theorem hashS_bd (l : List UInt8) (m : Int) (h : 1 ≤ m) : 0 ≤ hashS l m ∧ hashS l m < m := by
  unfold hashS
  rw [if_neg (by omega)]
  exact ⟨Int.emod_nonneg _ (by omega), Int.emod_lt_of_pos _ (by omega)⟩
theorem hashS_div (l : List UInt8) (m k : Int) (h : 1 ≤ m) (hk : 1 ≤ k) (hd : k ∣ m) : hashS l m % k = hashS l k := by
  unfold hashS
  rw [if_neg (by omega), if_neg (by omega), Int.emod_emod_of_dvd _ hd]

set_option maxRecDepth 100000 in
set_option maxHeartbeats 2000000 in
theorem walk (s : ByteArray) (n0 n1 : Int) (hn : In64 n1) (hs : s.size ≤ 140737488355000) (w : World) :
    Calls Try.prog 11 #[.string s, .agg #[I n0, I n1]] w fun e w' => e = .returned (.bool true) ∧ Below w.heap.size w w' := by
  have hm := modS_le (n := n0) hn
  have HMod := Lib.hid (fun w => modulus_any n0 n1 w)
  generalize modS n0 n1 = m at *
  have e3 := i64_andm1023 n1
  have b0 : 0 ≤ n1 % 1024 := Int.emod_nonneg n1 (by decide)
  have b1 : n1 % 1024 < 1024 := Int.emod_lt_of_pos n1 (by decide)
  have E1 := Lib.hid (fun w => Hash_any s hs m hm w)
  have E2 := Lib.hid (fun w => RHash_any s hs m hm w)
  have E3 := Lib.hid (fun w => Hash_any s hs ((1 + n1 % 1024) * 1000) (by omega) w)
  have h4 := fun w => Hash_any s hs (1 + n1 % 1024) (by omega) w
  rw [← hashS_div (Sha.sum s.data.toList) ((1 + n1 % 1024) * 1000) (1 + n1 % 1024) (by omega) (by omega) ⟨1000, rfl⟩] at h4
  have h5 := fun w => Hash_any s hs 1000 (by omega) w
  rw [← hashS_div (Sha.sum s.data.toList) ((1 + n1 % 1024) * 1000) 1000 (by omega) (by omega) ⟨1 + n1 % 1024, Int.mul_comm _ _⟩] at h5
  have E4 := Lib.hid h4
  have E5 := Lib.hid h5
  clear h4 h5
  have bw := hashS_bd (Sha.sum s.data.toList) ((1 + n1 % 1024) * 1000) (by omega)
  have bm := hashS_bd (Sha.sum s.data.toList) m
  have bz : m < 1 → hashS (Sha.sum s.data.toList) m = 0 := fun h => if_pos h
  generalize hashS (Sha.sum s.data.toList) ((1 + n1 % 1024) * 1000) = W at *
  generalize hashS (Sha.sum s.data.toList) m = x at *
  generalize n1 % 1024 = k at *
  obtain ⟨bw0, bw1⟩ := bw
  go_enter Try.func11, Try.ntmps11
  go_wp2_with fail
  have k0 := Blk.new w #[I n0, I n1] 22
  have hB0 := (Below.refl w.heap.size w).alloc (Nat.le_refl _) (.cells #[I n0, I n1] 22)
  refine (sanity_any _).mono ?_; rintro e w1 ⟨rfl, hb1⟩
  have hB := hB0.trans (hb1.mono (by simp))
  have k1 := k0.below hb1 k0.lt
  have c0 := k1.cell 0 _ rfl
  have c1 := k1.cell 1 _ rfl
  go_wp2_with fail
  refine (HMod.out _).mono ?_; rintro e w9 ⟨rfl, rfl⟩
  go_wp2_with fail
  refine (E1.out _).mono ?_; rintro e w10 ⟨rfl, hb2⟩
  have hB := hB.trans (hb2.mono hB.size)
  have k2 := k1.below hb2 k1.lt
  clear c0 c1 k1 hb2
  have c1 := k2.cell 1 _ rfl
  go_wp2_with fail
  refine (E3.out _).mono ?_; rintro e w10 ⟨rfl, hb2⟩
  have hB := hB.trans (hb2.mono hB.size)
  go_wp2_with fail
  have t4 : W % (1 + k) = W.tmod (1 + k) := (Int.tmod_eq_emod_of_nonneg bw0).symm
  have t5 : W % 1000 = W.tmod 1000 := (Int.tmod_eq_emod_of_nonneg bw0).symm
  have E4 := E4.out
  have E5 := E5.out
  rw [t4] at E4
  rw [t5] at E5
  have z0 : (1 + k == 0) = false := by rw [beq_eq_false_iff_ne]; omega
  have E4 := Lib.hid E4
  have E5 := Lib.hid E5
  clear t4 t5 k2 c1 hb2 e3
  by_cases h1 : m < 1
  · obtain rfl := bz h1
    have d1 : decide (m < 1) = true := decide_eq_true h1
    clear bm bz h1
    refine wp_region_after (by kernel_rfl) (by kernel_rfl) ?_
    repeat (go_big_quiet_step (first | (with_reducible exact After.call (E2.out _)) | (with_reducible exact After.call (E4.out _)) | (with_reducible exact After.call (E5.out _))))
    refine wpQuiet_nil ?_
    rintro w12 ⟨x12, rfl⟩
    have hB12 := hB.trans (x12.hb.mono hB.size)
    go_wp2_with fail
    go_ret
    exact ⟨rfl, hB12⟩
  · obtain ⟨x0, x1⟩ := bm (by omega)
    have d1 : decide (m < 1) = false := decide_eq_false h1
    have hmax : ∀ (w : World) (ts : Array TypeId) (t : TypeId), (Builtin.max_ ts t #[.int .i64 m, .int .i64 1]).run Try.prog w = .ok (.int .i64 m) w := fun w ts t => by
      rw [run_max_int2]
      by_cases h2 : (1 : Int) > m
      · omega
      · rw [if_neg h2]
    clear bz h1
    refine wp_region_after (by kernel_rfl) (by kernel_rfl) ?_
    repeat (go_big_quiet_step (first | (with_reducible exact After.call (E2.out _)) | (with_reducible exact After.call (E4.out _)) | (with_reducible exact After.call (E5.out _))))
    refine wpQuiet_nil ?_
    rintro w12 ⟨x12, rfl⟩
    have hB12 := hB.trans (x12.hb.mono hB.size)
    go_wp2_with fail
    go_ret
    exact ⟨rfl, hB12⟩

set_option maxRecDepth 100000 in
theorem lifted (os : Os) (started : os.Started) (H : Type) (enc : TypeId × Value → H) :
    ReturnsInHanded {} Try.checked os 11 .any (Rows.fieldHashSpec.pre6 enc Try.prog Try.f11 Rows.fieldHashRow.domain false) (Rows.fieldHashSpec.post enc Try.prog Try.f11 false true false false) := by
  refine returnsInHanded_of_change_sized (C := Try.checked) law_own started (by kernel_rfl) Try.func11
    (ChangeSpec.witness6 (enc := enc) (C := Try.checked) false ⟨#[], #[.string ⟨#[]⟩, .agg #[.int .i64 0, .int .i64 0]], []⟩ 8 (by kernel_rfl) (by kernel_rfl) (by kernel_rfl) (by kernel_rfl)) ?_
  intro W base args ds gs before hval0 hW _ hsz _
  have hval : ∀ (j : Nat) t v, Try.f11.params[j]? = some t → args[j]? = some v → Value.okWide Try.prog W .any base t v := hval0
  have hWk : DataW.Whole enc Try.prog Try.f11.params.toList Rows.fieldHashSpec.vars false W args.toList ds gs before := hW
  obtain ⟨p, q, hA0, hV, rfl, _, _⟩ := hW
  have hA : DataW.TrodAll enc Try.prog W 0 (fun _ => true) true Try.f11.params.toList args.toList ds p := hA0
  rw [Try.params11] at hA hval hsz
  obtain ⟨v0, vs0, d0, ds0, p0, q0, hargs, rfl, rfl, h0, r0⟩ := trodAll_cons hA
  obtain ⟨v1, vs1, d1, ds1, p1, q1, rfl, rfl, rfl, h1, r1⟩ := trodAll_cons r0
  obtain ⟨rfl, rfl, rfl⟩ := trodAll_nil r1
  obtain rfl : args = #[v0, v1] := by cases args; simp_all
  obtain ⟨rfl, rfl⟩ := trodVars_none hV
  obtain ⟨s0, rfl, hd0, _, w0⟩ := open_string Try.underlying9 (hval 0 9 v0 rfl rfl) h0
  have z0 := sized_string hsz (j := 0) (t := 9) rfl (by rw [hd0]; rfl)
  obtain ⟨zs1, l1, rfl, w1⟩ := open_int_array Try.underlying22 Try.underlying3 (by kernel_rfl) (by kernel_rfl) (hval 1 22 v1 rfl rfl) h1
  obtain ⟨x1_0, x1_1, rfl⟩ := list2 l1
  clear hA0 hval0
  refine (walk s0 x1_0 x1_1 (wf_i64 (w1 x1_1 (by simp))) (by have h : reachBytes = 140737488351232 := rfl; have h2 : s0.data.toList.length = s0.size := (by rw [Array.length_toList]; rfl); omega) W).mono fun e W' ⟨he, hb⟩ => ?_
  exact ⟨_, he, law_post law_laid rfl (by rw [Try.params11]; decide +kernel) (by kernel_rfl) Try.underlying4 rfl hWk hb⟩

theorem holds : Rows.FieldHashSaid :=
  OpenClaim.holds_of_wide 11 Try.f11 rfl rfl rfl rfl rfl rfl rfl ⟨rfl, rfl, rfl, rfl, rfl⟩ rfl rfl rfl rfl rfl (by kernel_rfl) Try.func11 (by kernel_rfl)
    (of_decide_eq_true (by kernel_rfl)) (by unfold Func.isWrapper; first | (rw [if_pos (by decide +kernel)]; kernel_rfl) | (rw [if_neg (by decide +kernel)]; exact ⟨rfl, rfl⟩))
    (fun os started H enc _ => lifted os started H enc)

end Go.Proofs.Ytpkhdkbpfajfcaa.LHash

namespace Go.Proofs.Ytpkhdkbpfajfcaa
/-- The statement. -/
theorem fieldHash_holds : Rows.FieldHashSaid := LHash.holds
end Go.Proofs.Ytpkhdkbpfajfcaa
