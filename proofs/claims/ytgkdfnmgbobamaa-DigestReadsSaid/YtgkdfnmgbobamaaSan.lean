/- Equality of hashes; Mod; the chapter's examples. Conditions: numbers in range. -/
import Derived.Test.YtgkdfnmgbobamaaTextB
import Derived.ChangeKeysEq
import Derived.Test.YtgkdfnmgbobamaaLaw
namespace Go.Proofs.Ytgkdfnmgbobamaa
open Go.RowKit Go.Shelf Go.ChangeShapes Go.WideShapes Go.ChangeAt

theorem cells5 : Try.prog.cellsOf 5 = 1 := by kernel_rfl
theorem run_part_byte (l : List UInt8) (i : Nat) (x : UInt8) (h : l[i]? = some x) (w : World) : (part 5 (hrow l) i).run Try.prog w = .ok (Y x) w := by
  simp [part, hrow_get l i x h]
theorem run_eqItems_bytes (d : Nat) (a b : List UInt8) (w : World) : ∀ is : List Nat, (∀ i ∈ is, i < a.length ∧ i < b.length) →
    (Op.eqItems (d + 1) 5 1 (hrow a) (hrow b) is).run Try.prog w = .ok (is.all fun i => a[i]? == b[i]?) w
  | [], _ => by simp [Op.eqItems]
  | i :: is, h => by
    obtain ⟨ha, hb⟩ := h i (by simp)
    have ih := run_eqItems_bytes d a b w is (fun j hj => h j (by simp [hj]))
    have e1 := run_part_byte a i (a[i]'ha) (List.getElem?_eq_getElem ha) w
    have e2 := run_part_byte b i (b[i]'hb) (List.getElem?_eq_getElem hb) w
    have e3 := run_equalIn_int w d 5 .u8 .u8 (((a[i]'ha).toNat : Nat) : Int) (((b[i]'hb).toNat : Nat) : Int) Try.underlying5
    simp only [Op.eqItems, Sem.run_bind, Nat.mul_one, e1, e2, e3, Result.andThen_ok]
    rw [List.all_cons, List.getElem?_eq_getElem ha, List.getElem?_eq_getElem hb]
    by_cases hab : a[i]'ha = b[i]'hb
    · simp [hab, ih]
    · have h1 : ¬ ((((a[i]'ha).toNat : Nat) : Int) = (((b[i]'hb).toNat : Nat) : Int)) := fun e => hab (UInt8.toNat_inj.1 (by omega))
      simp [h1, hab]
theorem run_eq_hash (a b : List UInt8) (ha : a.length = 32) (hb : b.length = 32) (w : World) :
    (Op.equalIn 10000 24 (.agg (hrow a)) (.agg (hrow b))).run Try.prog w = .ok (a == b) w := by
  obtain ⟨i0, hi, _⟩ := info_parts infoB
  rw [run_equalIn_array w 9999 _ _ Try.underlying24 hi, cells5, run_eqItems_bytes 9998 a b w (List.range 32) (fun i hi => by rw [List.mem_range] at hi; omega)]
  congr 1
  rw [Bool.eq_iff_iff, List.all_eq_true, beq_iff_eq]
  constructor
  · intro h
    apply List.ext_getElem?
    intro i
    by_cases hi : i < 32
    · have := h i (List.mem_range.2 hi)
      simpa using this
    · rw [List.getElem?_eq_none (by omega), List.getElem?_eq_none (by omega)]
  · rintro rfl i _
    simp

theorem In64.of {x : Int} (h1 : -9223372036854775808 ≤ x) (h2 : x ≤ 9223372036854775807) : -9223372036854775808 ≤ x ∧ x ≤ 9223372036854775807 := ⟨h1, h2⟩
theorem mod_eq (n m : Int) (hm : 0 < m) : (n.tmod m + m).tmod m = n % m := by
  have h1 := Int.lt_tmod_of_pos n hm
  rw [Int.tmod_eq_emod_of_nonneg (by omega)]
  rw [Int.add_emod_right, Int.tmod_eq_emod]
  split
  · simp
  · have h3 : (m.natAbs : Int) = m := by omega
    rw [h3, Int.sub_emod_right, Int.emod_emod_of_dvd _ (Int.dvd_refl m)]
set_option maxHeartbeats 400000 in
theorem Mod_any (n m : Int) (hm : 1 ≤ m) (hm2 : m ≤ 4611686018427387904) (w : World) :
    Calls Try.prog 15 #[.int .i64 n, .int .i64 m] w fun e w' => e = .returned (.int .i64 (n % m)) ∧ w = w' := by
  have h1 := Int.lt_tmod_of_pos n (show 0 < m by omega)
  have h2 := Int.tmod_lt_of_pos n (show 0 < m by omega)
  have HM := Lib.hid (mod_eq n m (by omega))
  have h0 : (m == 0) = false := by simp; omega
  have e1 : (n.tmod m + m).tmod m = n % m := HM.out
  have h3 : 0 ≤ n.tmod m + m := by omega
  have e2 : (n.tmod m + m) % m = n % m := by rw [← e1, Int.tmod_eq_emod_of_nonneg h3]
  have HE := Lib.hid e2
  clear e1 e2
  go_enter Try.func15, Try.ntmps15
  go_wp2_with fail
  go_ret
  exact ⟨congrArg (fun z => Ending.returned (.int .i64 z)) (by first | exact HE.out | exact HM.out), rfl⟩

theorem Calls.chain {P : Program} {f : FuncId} {args : Array Value} {w w1 : World} {v : Value} (hB : Below w.heap.size w w1)
    (h : Calls P f args w1 fun e w' => e = .returned v ∧ Below w1.heap.size w1 w') : Calls P f args w1 fun e w' => e = .returned v ∧ Below w.heap.size w w' :=
  h.mono fun _ _ ⟨he, hb⟩ => ⟨he, hB.trans (hb.mono hB.size)⟩
theorem Calls.still {P : Program} {f : FuncId} {args : Array Value} {w w1 : World} {v : Value} (hB : Below w.heap.size w w1)
    (h : Calls P f args w1 fun e w' => e = .returned v ∧ w1 = w') : Calls P f args w1 fun e w' => e = .returned v ∧ Below w.heap.size w w' :=
  h.mono fun _ _ ⟨he, hb⟩ => ⟨he, hb ▸ hB⟩

theorem text_empty : S (hex (Sha.sum [])) = .string ⟨#[101, 51, 98, 48, 99, 52, 52, 50, 57, 56, 102, 99, 49, 99, 49, 52, 57, 97, 102, 98, 102, 52, 99, 56, 57, 57, 54, 102, 98, 57, 50, 52, 50, 55, 97, 101, 52, 49, 101, 52, 54, 52, 57, 98, 57, 51, 52, 99, 97, 52, 57, 53, 57, 57, 49, 98, 55, 56, 53, 50, 98, 56, 53, 53]⟩ := by
  rw [Sha.sum_empty]; rfl
theorem text_abc : S (hex (Sha.sum [97, 98, 99])) = .string ⟨#[98, 97, 55, 56, 49, 54, 98, 102, 56, 102, 48, 49, 99, 102, 101, 97, 52, 49, 52, 49, 52, 48, 100, 101, 53, 100, 97, 101, 50, 50, 50, 51, 98, 48, 48, 51, 54, 49, 97, 51, 57, 54, 49, 55, 55, 97, 57, 99, 98, 52, 49, 48, 102, 102, 54, 49, 102, 50, 48, 48, 49, 53, 97, 100]⟩ := by
  rw [Sha.sum_abc]; rfl

/-- Sum of a string that is a list of bytes. -/
theorem SumS_any (m : List UInt8) (hm : m.length ≤ 140737488355000) (w : World) :
    Calls Try.prog 12 #[S m] w fun e w' => e = .returned (.agg (hrow (Sha.sum m))) ∧ Below w.heap.size w w' :=
  Sum_any ⟨m.toArray⟩ (by simpa [ByteArray.size] using hm) w

set_option maxRecDepth 100000 in
set_option maxHeartbeats 1000000 in
theorem sanity_any (w : World) :
    Calls Try.prog 11 #[] w fun e w' => e = .returned (.bool true) ∧ Below w.heap.size w w' := by
  have hB := Below.refl w.heap.size w
  have E1 := Lib.hid (fun w => SumS_any [] (by decide) w)
  have E2 := Lib.hid (fun w => text_empty ▸ Text_any (Sha.sum []) (Sha.sum_length _) w)
  have E3 := Lib.hid (fun w => SumS_any [97, 98, 99] (by decide) w)
  have E4 := Lib.hid (fun w => text_abc ▸ Text_any (Sha.sum [97, 98, 99]) (Sha.sum_length _) w)
  generalize hrow (Sha.sum []) = R1 at *
  generalize hrow (Sha.sum [97, 98, 99]) = R2 at *
  go_enter Try.func11, Try.ntmps11
  go_wp2_with fail
  refine (Calls.chain hB (E1.out _)).mono ?_; clear hB; rintro e w1 ⟨rfl, hB⟩
  go_wp2_with fail
  refine (Calls.chain hB (E2.out _)).mono ?_; clear hB; rintro e w1 ⟨rfl, hB⟩
  go_wp2_with fail
  refine (Calls.chain hB (E3.out _)).mono ?_; clear hB; rintro e w1 ⟨rfl, hB⟩
  go_wp2_with fail
  refine (Calls.chain hB (E4.out _)).mono ?_; clear hB; rintro e w1 ⟨rfl, hB⟩
  go_wp2_with fail
  go_ret
  exact ⟨rfl, hB⟩

/-- The reference's Sum at any string. -/
theorem RSumB_any (b : ByteArray) (hb : b.size ≤ 140737488355000) (w : World) :
    Calls Try.prog 13 #[.string b] w fun e w' => e = .returned (.agg (hrow (Sha.sum b.data.toList))) ∧ Below w.heap.size w w' := by
  have h := RSum_any b.data.toList (by rw [Array.length_toList]; exact hb) w
  exact h
theorem extract_size (s : ByteArray) (n : Nat) (h : n ≤ s.size) : (s.extract 0 n).size = n := by
  rw [ByteArray.size_extract]; omega
theorem min_cut (s : ByteArray) (m : Nat) (M : Int) (hM : M = (m : Int)) : ∃ n : Nat, n ≤ s.size ∧ n ≤ m ∧ ∀ (w : World) (ts : Array TypeId) (t : TypeId), (Builtin.min_ ts t #[.int .i64 (s.size : Int), .int .i64 M]).run Try.prog w = .ok (.int .i64 (n : Int)) w := by
  subst hM
  by_cases h : s.size ≤ m
  · refine ⟨s.size, Nat.le_refl _, h, fun w ts t => ?_⟩
    rw [run_min_int2]
    by_cases h2 : (m : Int) < (s.size : Int)
    · omega
    · first | rw [if_neg h2] | (rw [if_pos (by omega)])
  · refine ⟨m, by omega, Nat.le_refl _, fun w ts t => ?_⟩
    rw [run_min_int2]
    first | rw [if_pos (by omega)] | rw [if_neg (by omega)]

/-- A hash that lies in a block, read in any world behind w. -/
theorem After.row {w : World} {g : Nat} {R : Array Value} (h : Blk w g R 24) (hi : (Try.prog.info? 24).map (·.size) = some R.size) :
    ∀ x : After w, (loadVar 24 ⟨g, 0, none⟩).run Try.prog x.W = .ok (.agg R) x.W := fun x =>
  run_loadVar_row x.W g _ _ R (0, 0) _ (h.below x.hb h.lt) Try.underlying24 rfl hi
/-- A hash's load in a region that draws its order. -/
theorem quiet_load_row {P : Program} {ops : Array Oper} {w : World} {Q : Act → Prop} {a : Act} {o : Oper} {rest : List Oper} (ty : TypeId) (x : Operand) (ho : o.op = .load ty x) (g : Nat) (hx : a.eval x = .pointer (some ⟨g, 0, none⟩)) (R : Array Value)
    (hl : ∀ y : After w, (loadVar ty ⟨g, 0, none⟩).run P y.W = .ok (.agg R) y.W) (hw : Region.wanted o (yielded ops a.tmps) = true)
    (h : wpQuiet P ops (fun w' => ∃ x : After w, w' = x.W) Q rest (a.put o.dst (.agg R))) : wpQuiet P ops (fun w' => ∃ x : After w, w' = x.W) Q (o :: rest) a := by
  unfold wpQuiet
  rw [if_pos hw]
  refine ⟨.agg R, ?_, h⟩
  rintro w' ⟨y, rfl⟩
  unfold Oper.quietAt execOp
  simp only [ho, hx, Instr.loadAt, Instr.sureAddr, Sem.run_bind, Sem.run_pure, Result.andThen_ok, hl y]
  exact ⟨rfl, rfl⟩
/-- A hash as an argument. -/
theorem open_hash {H : Type} {enc : TypeId × Value → H} {W : World} {base : Nat} {v : Value} {d : Go.DataW H} {ps : List MemPlace}
    (hval : Value.okWide Try.prog W .any base 24 v) (hd : DataW.Trod enc Try.prog W 0 (fun _ => true) true 24 v d ps) : ∃ l : List UInt8, l.length = 32 ∧ v = .agg (hrow l) := by
  obtain ⟨zs, h1, rfl, h2⟩ := open_int_array (k := .u8) Try.underlying24 Try.underlying5 (by kernel_rfl) (by kernel_rfl) hval hd
  refine ⟨zs.map fun z => UInt8.ofNat z.toNat, by simp [h1], ?_⟩
  unfold hrow
  rw [List.map_map]
  congr 2
  apply List.map_congr_left
  intro z hz
  have h3 : 0 ≤ z ∧ z ≤ 255 := by simpa [Lit.wf, IntKind.min, IntKind.max, IntKind.signed, IntKind.bits] using h2 z hz
  show Value.int .u8 z = Y (UInt8.ofNat z.toNat)
  congr 1
  rw [UInt8.toNat_ofNat']; omega

theorem join_parts (x : ByteArray) (k : Nat) (h : k ≤ x.size) : x.extract 0 k ++ x.extract k x.size = x := by
  rw [ByteArray.extract_append_extract]
  have : min 0 k = 0 := by omega
  rw [this, Nat.max_eq_right h]
  exact ByteArray.extract_zero_size

end Go.Proofs.Ytgkdfnmgbobamaa
