/- DigestReads: Read undoes Text; for all strings, also texts with a changed byte, it returns what the reference model returns; no condition. -/
import Derived.Test.YtgkdfnmgbobamaaRead
import Derived.Test.YtgkdfnmgbobamaaKitB
import Derived.Test.YtgkdfnmgbobamaaLaw
import Derived.ChangeMaps5
namespace Go.Proofs.Ytgkdfnmgbobamaa.LReads
open Go.ChangeShapes Go.WideShapes Go.ChangeAt Go.RowKit Go.Shelf Go.ChangeMaps

theorem hx_hexd : ∀ n : Fin 16, hx (hexd n.val) = (n.val : Int) := by decide +kernel
theorem hex_get (h : List UInt8) (k : Nat) (x : UInt8) (hx : h[k]? = some x) : (hex h)[2 * k]? = some (hexd (x.toNat / 16)) ∧ (hex h)[2 * k + 1]? = some (hexd (x.toNat % 16)) := by
  have hk := (List.getElem?_eq_some_iff.1 hx)
  have e : h = h.take k ++ (x :: h.drop (k + 1)) := by
    have := List.take_append_drop k h
    rw [List.drop_eq_getElem_cons hk.1, hk.2] at this
    exact this.symm
  have e2 : hex h = hex (h.take k) ++ (hexd (x.toNat / 16) :: hexd (x.toNat % 16) :: hex (h.drop (k + 1))) := by
    conv => lhs; rw [e]
    unfold hex
    rw [List.flatMap_append, List.flatMap_cons]; rfl
  have hl : (hex (h.take k)).length = 2 * k := by rw [hex_length, List.length_take]; have := hk.1; omega
  rw [e2]
  constructor
  · rw [List.getElem?_append_right (by omega), hl, Nat.sub_self]; rfl
  · rw [List.getElem?_append_right (by omega), hl, Nat.add_sub_cancel_left]; rfl
theorem rd_hex (h : List UInt8) (hh : h.length = 32) : ∀ k, k ≤ 32 → rd (hex h) (2 * k) = some (h.take k ++ List.replicate (32 - k) 0)
  | 0, _ => by simp [rd, zeros32]
  | k + 1, hk => by
    have ih := rd_hex h hh k (by omega)
    obtain ⟨x, hx1⟩ : ∃ x, h[k]? = some x := ⟨h[k]'(by omega), List.getElem?_eq_getElem (by omega)⟩
    obtain ⟨g1, g2⟩ := hex_get h k x hx1
    have xl := x.toNat_lt
    have d1 := hx_hexd ⟨x.toNat / 16, by omega⟩
    have d2 := hx_hexd ⟨x.toNat % 16, by omega⟩
    simp only at d1 d2
    have s1 := rd_step ih g1 (by rw [d1]; omega)
    have s2 := rd_step s1 g2 (by rw [d2]; omega)
    rw [show 2 * (k + 1) = 2 * k + 1 + 1 by omega, s2, d1, d2]
    congr 1
    have hl : (h.take k).length = k := by rw [List.length_take]; omega
    unfold rput
    rw [show (2 * k) / 2 = k by omega, show (2 * k + 1) / 2 = k by omega, List.set_set]
    have z : (h.take k ++ List.replicate (32 - k) (0 : UInt8))[k]? = some 0 := by
      rw [List.getElem?_append_right (by omega), hl, Nat.sub_self, List.getElem?_replicate, if_pos (by omega)]
    have z2 : ((h.take k ++ List.replicate (32 - k) (0 : UInt8)).set k (UInt8.ofNat (((h.take k ++ List.replicate (32 - k) (0 : UInt8)).getD k 0).toNat * 16 + (((x.toNat / 16 : Nat) : Int)).toNat))).getD k 0 = UInt8.ofNat (x.toNat / 16) := by
      rw [List.getD_eq_getElem?_getD, List.getElem?_set_self (by rw [List.length_append, hl, List.length_replicate]; omega), List.getD_eq_getElem?_getD, z]
      show UInt8.ofNat (0 * 16 + ((x.toNat / 16 : Nat) : Int).toNat) = _
      rw [Int.toNat_natCast, Nat.zero_mul, Nat.zero_add]
    rw [z2]
    have z3 : UInt8.ofNat ((UInt8.ofNat (x.toNat / 16)).toNat * 16 + (((x.toNat % 16 : Nat) : Int)).toNat) = x := by
      apply UInt8.toNat_inj.1
      rw [UInt8.toNat_ofNat', UInt8.toNat_ofNat']
      omega
    rw [z3]
    apply List.ext_getElem?
    intro i
    by_cases hi : i = k
    · subst hi
      rw [List.getElem?_set_self (by rw [List.length_append, hl, List.length_replicate]; omega)]
      rw [List.getElem?_append_left (by rw [List.length_take]; omega), List.getElem?_take, if_pos (by omega), hx1]
    · rw [List.getElem?_set_ne (by omega)]
      by_cases hlt : i < k
      · rw [List.getElem?_append_left (by omega), List.getElem?_append_left (by rw [List.length_take]; omega), List.getElem?_take, List.getElem?_take, if_pos hlt, if_pos (by omega)]
      · rw [List.getElem?_append_right (by omega), List.getElem?_append_right (by rw [List.length_take]; omega), hl, List.length_take, Nat.min_eq_left (by omega), List.getElem?_replicate, List.getElem?_replicate]
        by_cases h32 : i < 32
        · rw [if_pos (by omega), if_pos (by omega)]
        · rw [if_neg (by omega), if_neg (by omega)]
theorem readS_hex (h : List UInt8) (hh : h.length = 32) : readS (hex h) = (h, true) := by
  have h1 := rd_hex h hh 32 (by omega)
  rw [readS_end (by rw [hex_length, hh]) h1, List.take_of_length_le (by omega)]
  simp

theorem five (s b1 b2 b3 b4 : ByteArray) (j : Nat) (h : j < 5) : ∃ x, (#[.string s, .string b1, .string b2, .string b3, .string b4] : Array Value)[j]? = some (.string x) := by
  match j, h with
  | 0, _ => exact ⟨s, rfl⟩
  | 1, _ => exact ⟨b1, rfl⟩
  | 2, _ => exact ⟨b2, rfl⟩
  | 3, _ => exact ⟨b3, rfl⟩
  | 4, _ => exact ⟨b4, rfl⟩
theorem blk1 (w : World) (o : Obj) (cs : Array Value) (t : TypeId) : Blk (((w.alloc o).alloc (.cells cs t)).drew) (w.heap.size + 1) cs t := by
  have h := Blk.new (w.alloc o) cs t
  rw [World.size_alloc] at h
  exact h
theorem blk0 (w : World) (o : Obj) (cs : Array Value) (t : TypeId) : Blk (((w.alloc (.cells cs t)).alloc o).drew) w.heap.size cs t := (Blk.new w cs t).alloc o
theorem cat (a b : ByteArray) (h : a.size + b.size ≤ maxLen) : ∃ c : ByteArray, Op.stringOp .add a b = pure (.string c) ∧ c.size = a.size + b.size := by
  refine ⟨a ++ b, ?_, ByteArray.size_append⟩
  have h2 : ¬ (((a.size + b.size : Nat) : Int) > IntKind.i64.max) := by unfold maxLen at h; show ¬ ((9223372036854775807 : Int) < _); omega
  unfold Op.stringOp
  simp only [if_neg h2]
theorem conv1 (w : World) (q1 : Int) : ∃ b : ByteArray, b.size = 1 ∧
    ((convert 33 9 (.slice (some ⟨w.heap.size, 0, none⟩) 1 1)).run Try.prog ((w.alloc (.cells #[.int .u8 (IntKind.u8.wrap q1)] 5)).drew) = .ok (.string b) ((w.alloc (.cells #[.int .u8 (IntKind.u8.wrap q1)] 5)).drew)) ∧
    (∀ o, (convert 33 9 (.slice (some ⟨w.heap.size + 1, 0, none⟩) 1 1)).run Try.prog (((w.alloc o).alloc (.cells #[.int .u8 (IntKind.u8.wrap q1)] 5)).drew) = .ok (.string b) (((w.alloc o).alloc (.cells #[.int .u8 (IntKind.u8.wrap q1)] 5)).drew)) ∧
    (∀ o, (convert 33 9 (.slice (some ⟨w.heap.size, 0, none⟩) 1 1)).run Try.prog (((w.alloc (.cells #[.int .u8 (IntKind.u8.wrap q1)] 5)).alloc o).drew) = .ok (.string b) (((w.alloc (.cells #[.int .u8 (IntKind.u8.wrap q1)] 5)).alloc o).drew)) := by
  obtain ⟨y, hy⟩ := isByte (IntKind.u8.wrap q1) (by rw [IntKind.wrap_u8]; omega) (by rw [IntKind.wrap_u8]; omega)
  rw [hy]
  have key : ∀ W : World, (convert 33 9 (.slice (some ⟨W.heap.size, 0, none⟩) 1 1)).run Try.prog ((W.alloc (.cells #[Y y] 5)).drew) = .ok (.string ⟨#[y]⟩) ((W.alloc (.cells #[Y y] 5)).drew) := fun W =>
    run_convert_bytes_back _ 33 9 5 ⟨W.heap.size, 0, none⟩ 1 [y] Try.underlying33 Try.underlying5 Try.underlying9 (fun i hi => by
      have : i = 0 := by simpa using hi
      subst this
      exact (Blk.new W #[Y y] 5).cell 0 _ rfl)
  refine ⟨⟨#[y]⟩, rfl, key w, fun o => ?_, fun o => ?_⟩
  · have h := key (w.alloc o)
    rw [World.size_alloc] at h
    exact h
  · exact run_convert_bytes_back _ 33 9 5 ⟨w.heap.size, 0, none⟩ 1 [y] Try.underlying33 Try.underlying5 Try.underlying9 (fun i hi => by
      have : i = 0 := by simpa using hi
      subst this
      exact ((Blk.new w #[Y y] 5).alloc o).cell 0 _ rfl)
set_option maxRecDepth 100000 in
set_option maxHeartbeats 2000000 in
theorem r7 (u0 u1 u3 u5 u6 u7 u10 u11 u12 u13 u14 u15 u16 u17 u18 u19 u20 u21 u22 u23 u24 u25 u26 u27 u28 u29 u30 u31 u32 u33 u34 u35 u36 u37 u38 u39 u40 u41 u42 u43 u44 u45 u46 u47 u48 u49 u50 u51 u52 u53 u54 u55 u56 u57 u58 u59 u60 u61 u62 u63 u64 u65 u66 u67 u68 u69 u70 u71 u72 u73 u74 u75 u76 u77 u78 u79 u80 u81 u82 u83 u84 u85 u86 u87 u88 u89 u90 u91 u92 u93 u94 u95 u96 : Value) (q k : Nat) (q1 : Int) (s t : ByteArray) (hts : t.size = 64) (hk : k < 64) (w : World) (cq : w.cell? ⟨q, 1, none⟩ = some (.int .i64 q1)) (Q : Exit → Act → World → Prop)
    (h : ∀ (y32 y33 y34 y35 y36 y37 y38 y39 y40 y41 y42 y43 y44 y45 y46 y47 y48 y49 y50 y51 y52 y53 y54 y55 y56 y57 y58 y59 y60 y61 : Value) (a : Nat) (b1 b2 b3 b4 : ByteArray) (w5 : World), w.heap.size ≤ a → Below w.heap.size w w5 → Blk w5 a #[.string s, .string b1, .string b2, .string b3, .string b4] 38 → Q .normal ⟨(u0 :: u1 :: (.string s) :: u3 :: (.pointer (some ⟨q, 0, none⟩)) :: u5 :: u6 :: u7 :: (.string t) :: (.int .i64 (k : Int)) :: u10 :: u11 :: (.pointer (some ⟨a, 0, none⟩)) :: u13 :: u14 :: u15 :: u16 :: u17 :: u18 :: u19 :: u20 :: u21 :: u22 :: u23 :: u24 :: u25 :: u26 :: u27 :: u28 :: u29 :: u30 :: u31 :: y32 :: y33 :: y34 :: y35 :: y36 :: y37 :: y38 :: y39 :: y40 :: y41 :: y42 :: y43 :: y44 :: y45 :: y46 :: y47 :: y48 :: y49 :: y50 :: y51 :: y52 :: y53 :: y54 :: y55 :: y56 :: y57 :: y58 :: y59 :: y60 :: y61 :: u62 :: u63 :: u64 :: u65 :: u66 :: u67 :: u68 :: u69 :: u70 :: u71 :: u72 :: u73 :: u74 :: u75 :: u76 :: u77 :: u78 :: u79 :: u80 :: u81 :: u82 :: u83 :: u84 :: u85 :: u86 :: u87 :: u88 :: u89 :: u90 :: u91 :: u92 :: u93 :: u94 :: u95 :: u96 :: []).toArray, []⟩ w5) :
    Code.wp Try.prog (regionIn Try.f9 7) Q ⟨(u0 :: u1 :: (.string s) :: u3 :: (.pointer (some ⟨q, 0, none⟩)) :: u5 :: u6 :: u7 :: (.string t) :: (.int .i64 (k : Int)) :: u10 :: u11 :: u12 :: u13 :: u14 :: u15 :: u16 :: u17 :: u18 :: u19 :: u20 :: u21 :: u22 :: u23 :: u24 :: u25 :: u26 :: u27 :: u28 :: u29 :: u30 :: u31 :: u32 :: u33 :: u34 :: u35 :: u36 :: u37 :: u38 :: u39 :: u40 :: u41 :: u42 :: u43 :: u44 :: u45 :: u46 :: u47 :: u48 :: u49 :: u50 :: u51 :: u52 :: u53 :: u54 :: u55 :: u56 :: u57 :: u58 :: u59 :: u60 :: u61 :: u62 :: u63 :: u64 :: u65 :: u66 :: u67 :: u68 :: u69 :: u70 :: u71 :: u72 :: u73 :: u74 :: u75 :: u76 :: u77 :: u78 :: u79 :: u80 :: u81 :: u82 :: u83 :: u84 :: u85 :: u86 :: u87 :: u88 :: u89 :: u90 :: u91 :: u92 :: u93 :: u94 :: u95 :: u96 :: []).toArray, []⟩ w := by
  have HX := Lib.hid h
  clear h
  have k0 : (k : Int) < 64 := by omega
  conv => arg 2; whnf
  have z1 : IntKind.i64.wrap ((k : Int) + 1) = (k : Int) + 1 := by rw [IntKind.wrap_i64]; omega
  have z2 : (0 : Int) ≤ (k : Int) := by omega
  have z3 : (k : Int) ≤ (t.size : Int) := by omega
  have z4 : (0 : Int) ≤ (k : Int) + 1 := by omega
  have z5 : (k : Int) + 1 ≤ (t.size : Int) := by omega
  have z6 : ((k : Int) + 1).toNat = k + 1 := by omega
  have z7 : k ≤ t.size := by omega
  have z8 : k + 1 ≤ t.size := by omega
  have y3 : (k : Int) ≤ 64 := by omega
  have y5 : (k : Int) + 1 ≤ 64 := by omega
  have y7 : k ≤ 64 := by omega
  have y8 : k + 1 ≤ 64 := by omega
  have y9 : (t.size : Int) = 64 := by omega
  obtain ⟨p, e1⟩ : ∃ p, t.extract 0 k = p := ⟨_, rfl⟩
  obtain ⟨r, e2⟩ : ∃ p, t.extract (k + 1) 64 = p := ⟨_, rfl⟩
  have E1 := Lib.hid e1
  have E2 := Lib.hid e2
  have hp : p.size ≤ 64 := by rw [← e1, ByteArray.size_extract]; omega
  have hr : r.size ≤ 64 := by rw [← e2, ByteArray.size_extract]; omega
  obtain ⟨b, hb, hcv, hcv2, hcv3⟩ := conv1 w q1
  obtain ⟨t0, c1, _⟩ := cat t ⟨#[48]⟩ (by rw [hts]; decide)
  obtain ⟨pb, c2, hpb⟩ := cat p b (by unfold maxLen; omega)
  obtain ⟨pbr, c3, _⟩ := cat pb r (by unfold maxLen; omega)
  obtain ⟨pa, c4, hpa⟩ := cat p ⟨#[65]⟩ (by show p.size + 1 ≤ maxLen; unfold maxLen; omega)
  have hpa' : pa.size = p.size + 1 := hpa
  obtain ⟨par, c5, _⟩ := cat pa r (by unfold maxLen; omega)
  clear hp hr hb hpb hpa hpa' e1 e2
  have e1 := E1.out
  have e2 := E2.out
  clear E1 E2
  refine wp_region_noPanic ?_
  have q1' : q < w.heap.size := World.block_lt_of_cell? w _ cq
  have q2' : q ≠ w.heap.size := by omega
  go_region_with (fail)
  all_goals
    refine NoPanic.normal ?_
    clear hcv hcv2 hcv3
    first
      | exact HX.out _ _ _ _ _ _ _ _ _ _ _ _ _ _ _ _ _ _ _ _ _ _ _ _ _ _ _ _ _ _ (w.heap.size + 1) _ _ _ _ _ (by omega) ((((Below.refl _ w).alloc (Nat.le_refl _) _).alloc (by simp) _).drew) (blk1 w _ _ _)
      | exact HX.out _ _ _ _ _ _ _ _ _ _ _ _ _ _ _ _ _ _ _ _ _ _ _ _ _ _ _ _ _ _ w.heap.size _ _ _ _ _ (by omega) ((((Below.refl _ w).alloc (Nat.le_refl _) _).alloc (by simp) _).drew) (blk0 w _ _ _)

set_option maxRecDepth 100000 in
set_option maxHeartbeats 2000000 in
theorem walk (h : List UInt8) (hh : h.length = 32) (q0 q1 : Int) (s : ByteArray) (w : World) :
    Calls Try.prog 9 #[.agg (hrow h), .agg #[.int .i64 q0, .int .i64 q1], .string s] w fun e w' => e = .returned (.bool true) ∧ Below w.heap.size w w' := by
  obtain ⟨k, hk, hk2⟩ : ∃ k : Nat, q0 % 64 = (k : Int) ∧ k < 64 := ⟨(q0 % 64).toNat, by have := Int.emod_nonneg q0 (by omega : (64 : Int) ≠ 0); omega, by have := Int.emod_lt_of_pos q0 (by omega : (0 : Int) < 64); omega⟩
  have A1 := Lib.hid (fun w => Mod_any q0 64 (by omega) (by omega) w)
  rw [hk] at A1
  clear hk
  have IA := Lib.hid (hinfo' h hh)
  have OA := Lib.hid (bytes_all h)
  have ZA := Lib.hid (hz_size h hh)
  have A2 : Hid (∀ w, Calls Try.prog 16 #[.agg (hrow h)] w fun e w' => e = .returned (.string ⟨(hex h).toArray⟩) ∧ Below w.heap.size w w') := fun w => Text_any h hh w
  have A3 : Hid (∀ w, Calls Try.prog 18 #[.string ⟨(hex h).toArray⟩] w fun e w' => e = .returned (.tuple #[.agg (hrow h), .bool true]) ∧ Below w.heap.size w w') := fun w => by
    have h1 := Read_any ⟨(hex h).toArray⟩ w
    simp only [readS_hex h hh] at h1
    exact h1
  have hl : (hex h).length = 64 := by rw [hex_length, hh]
  have hq := fun w => run_eq_hash h h hh hh w
  simp only [beq_self_eq_true] at hq
  have NA := (Blk.new w (hrow h) 24).alloc (.cells #[.int .i64 q0, .int .i64 q1] 35)
  have NQ := Blk.new (w.alloc (.cells (hrow h) 24)) #[.int .i64 q0, .int .i64 q1] 35
  rw [World.size_alloc] at NQ
  have hB := ((Below.refl w.heap.size w).alloc (Nat.le_refl _) (.cells (hrow h) 24)).alloc (by simp) (.cells #[.int .i64 q0, .int .i64 q1] 35)
  obtain ⟨R, hR⟩ : ∃ R, hrow h = R := ⟨_, rfl⟩
  obtain ⟨t, ht⟩ : ∃ t : ByteArray, ⟨(hex h).toArray⟩ = t := ⟨_, rfl⟩
  have hts : t.size = 64 := by rw [← ht]; exact hl
  rw [ht] at A2 A3
  rw [hR] at IA OA ZA A2 A3 hq NA NQ hB
  rw [hR]
  have NAH := Lib.hid NA
  have NQH := Lib.hid NQ
  clear hl ht hR NA NQ
  have hs64 : (t.size : Int) = 64 := by omega
  go_enter Try.func9, Try.ntmps9
  go_wp2_with (first
    | (refine wpList_box_row rfl 24 (.tmp 0) rfl R rfl ?_))
  have NA := NAH.out
  have NQ := NQH.out
  clear NAH NQH
  generalize (w.alloc (.cells R 24)).alloc (.cells #[.int .i64 q0, .int .i64 q1] 35) = w0 at *
  refine (sanity_any _).mono ?_; rintro e w1 ⟨rfl, hb1⟩
  have hB := hB.trans (hb1.mono hB.size)
  have NA := Lib.hid (NA.below hb1 NA.lt)
  have NQ := NQ.below hb1 NQ.lt
  clear hb1
  go_wp2_with (first
    | (refine wpList_load_row rfl 24 (.tmp 3) rfl w.heap.size rfl _ _ _ _ NA.out Try.underlying24 rfl IA.out ?_))
  refine (A2.out _).mono ?_; rintro e w2 ⟨rfl, hb1⟩
  have hB := hB.trans (hb1.mono hB.size)
  have NA := Lib.hid (NA.out.below hb1 NA.out.lt)
  have NQ := NQ.below hb1 NQ.lt
  have c0 := NQ.cell 0 _ rfl
  clear hb1
  go_wp2_with fail
  refine (A1.out _).mono ?_; rintro e w9 ⟨rfl, rfl⟩
  clear c0
  go_wp2_with fail
  refine (A3.out _).mono ?_; rintro e w3 ⟨rfl, hb1⟩
  have hB := hB.trans (hb1.mono hB.size)
  have NA := Lib.hid (NA.out.below hb1 NA.out.lt)
  have NQ := NQ.below hb1 NQ.lt
  have NB := Lib.hid (Blk.new w3 hz 24)
  have ZH : Hid ((Try.prog.info? 24).bind (·.zero) = some (.agg hz)) := by show _ = _; kernel_rfl
  go_wp2_with (first
    | (refine wpList_alloc_row rfl 24 rfl hz ZH.out ?_)
    | (refine wpList_store_row rfl 24 (.tmp 10) (.tmp 30) rfl w3.heap.size R rfl rfl 24 _ NB.out IA.out ZA.out OA.out ?_; rw [World.setRow_alloc_new]))
  have hbk := hB.size
  have NK := Lib.hid (Blk.new w3 R 24)
  have NA := Lib.hid (NA.out.alloc (.cells R 24))
  have NQ := NQ.alloc (.cells R 24)
  have hB := hB.alloc hB.size (.cells R 24)
  generalize w3.heap.size = bk at *
  generalize w3.alloc (.cells R 24) = w4 at *
  refine r7 _ _ _ _ _ _ _ _ _ _ _ _ _ _ _ _ _ _ _ _ _ _ _ _ _ _ _ _ _ _ _ _ _ _ _ _ _ _ _ _ _ _ _ _ _ _ _ _ _ _ _ _ _ _ _ _ _ _ _ _ _ _ _ _ _ _ _ _ _ _ _ _ _ _ _ _ _ _ _ _ _ _ _ _ _ _ _ _ _ _ _ _ _ (w.heap.size + 1) k q1 s t hts hk2 w4 (NQ.cell 1 _ rfl) _ ?_
  intro y32 y33 y34 y35 y36 y37 y38 y39 y40 y41 y42 y43 y44 y45 y46 y47 y48 y49 y50 y51 y52 y53 y54 y55 y56 y57 y58 y59 y60 y61 a b1 b2 b3 b4 w5 hlo hb5 NT
  have NK := NK.out.below hb5 NK.out.lt
  have NA := NA.out.below hb5 NA.out.lt
  have hB := hB.trans (hb5.mono hB.size)
  have N24 := Lib.hid NT
  have NAH := Lib.hid NA
  have NKH := Lib.hid NK
  clear NT NQ hb5 hlo NA NK
  go_wp2_with fail
  go_loopw [13] (fun i wr => ∃ j : Nat, j ≤ 5 ∧ i = .int .i64 j ∧ Blk wr a #[.string s, .string b1, .string b2, .string b3, .string b4] 38 ∧ Blk wr w.heap.size R 24 ∧ Blk wr bk R 24 ∧ Below w.heap.size w wr) (fun i _ => 5 - (intOf i).toNat)
  case atStart => exact ⟨0, by omega, rfl, N24.out, NAH.out, NKH.out, hB⟩
  case round =>
    clear N24 NAH NKH hB
    obtain ⟨j, hj, rfl, NT, NA, NK, hB⟩ := hrel
    by_cases hlt : j < 5
    · obtain ⟨x, hx⟩ : ∃ x, (#[.string s, .string b1, .string b2, .string b3, .string b4] : Array Value)[j]? = some (.string x) := five _ _ _ _ _ j hlt
      have c1 := NT.cell j _ hx
      have j1 : (j : Int) < 5 := by omega
      have E1 := Lib.hid (fun w => Read_any x w)
      have E2 := Lib.hid (fun w => RRead_any x w)
      have hll := readS_length x.data.toList
      have IX := Lib.hid (hinfo' _ hll)
      have OX := Lib.hid (bytes_all (readS x.data.toList).1)
      have ZX := Lib.hid (hz_size _ hll)
      have hqx := fun w => run_eq_hash _ _ hll hll w
      simp only [beq_self_eq_true] at hqx
      generalize hrow (readS x.data.toList).1 = X at *
      generalize (readS x.data.toList).2 = ok at *
      have hxx := Lib.hid hx
      clear hx hll
      go_wp2_with fail
      refine (E1.out _).mono ?_; rintro e w6 ⟨rfl, hb6⟩
      have NT := NT.below hb6 NT.lt
      have NA := NA.below hb6 NA.lt
      have NK := NK.below hb6 NK.lt
      have hB := hB.trans (hb6.mono hB.size)
      have M1 := Lib.hid (Blk.new w6 hz 24)
      have NX := Blk.new w6 X 24
      have NT := NT.alloc (.cells X 24)
      have NA := NA.alloc (.cells X 24)
      have NK := NK.alloc (.cells X 24)
      have hB := hB.alloc hB.size (.cells X 24)
      have c2 := NT.cell j _ hxx.out
      clear hb6
      go_wp2_with (first
        | (refine wpList_alloc_row rfl 24 rfl hz ZH.out ?_)
        | (refine wpList_store_row rfl 24 (.tmp 14) (.tmp 71) rfl w6.heap.size X rfl rfl 24 _ M1.out IX.out ZX.out OX.out ?_; rw [World.setRow_alloc_new]))
      clear M1 c1 c2
      generalize w6.heap.size = n6 at *
      generalize w6.alloc (.cells X 24) = w7 at *
      refine (E2.out _).mono ?_; rintro e w8 ⟨rfl, hb6⟩
      have NT := NT.below hb6 NT.lt
      have NA := NA.below hb6 NA.lt
      have NK := NK.below hb6 NK.lt
      have NX := NX.below hb6 NX.lt
      have hB := hB.trans (hb6.mono hB.size)
      have M1 := Lib.hid (Blk.new w8 hz 24)
      have NY := Lib.hid (Blk.new w8 X 24)
      have NX := Lib.hid (NX.alloc (.cells X 24))
      have NT := NT.alloc (.cells X 24)
      have NA := NA.alloc (.cells X 24)
      have NK := NK.alloc (.cells X 24)
      have hB := hB.alloc hB.size (.cells X 24)
      clear hb6
      go_wp2_with (first
        | (refine wpList_alloc_row rfl 24 rfl hz ZH.out ?_)
        | (refine wpList_store_row rfl 24 (.tmp 16) (.tmp 78) rfl w8.heap.size X rfl rfl 24 _ M1.out IX.out ZX.out OX.out ?_; rw [World.setRow_alloc_new])
        | (refine wpList_load_row rfl 24 (.tmp 14) rfl n6 rfl _ _ _ _ NX.out Try.underlying24 rfl IX.out ?_)
        | (refine wpList_load_row rfl 24 (.tmp 16) rfl w8.heap.size rfl _ _ _ _ NY.out Try.underlying24 rfl IX.out ?_))
      go_roundw
      case rel => exact ⟨j + 1, by omega, by go_num, NT, NA, NK, hB⟩
      case measure => simp [intOf]; omega
    · obtain rfl : j = 5 := by omega
      clear hlt hj NT
      have NAH := Lib.hid NA
      have NKH := Lib.hid NK
      go_wp2_with (first
        | (refine wpList_load_row_g (by rfl) 24 (.tmp 10) rfl bk rfl _ _ _ _ NKH.out Try.underlying24 rfl IA.out ?_)
        | (refine wpList_load_row_g (by rfl) 24 (.tmp 3) rfl w.heap.size rfl _ _ _ _ NAH.out Try.underlying24 rfl IA.out ?_))
      go_ret
      exact ⟨rfl, hB⟩
set_option maxRecDepth 100000 in
theorem lifted (os : Os) (started : os.Started) (H : Type) (enc : TypeId × Value → H) :
    ReturnsInHanded {} Try.checked os 9 .any (Rows.digestReadsSpec.pre6 enc Try.prog Try.f9 Rows.digestReadsRow.domain false) (Rows.digestReadsSpec.post enc Try.prog Try.f9 false true false false) := by
  refine returnsInHanded_of_change (C := Try.checked) law_own started (by kernel_rfl) Try.func9
    (ChangeSpec.witness6 (enc := enc) (C := Try.checked) false ⟨#[], #[.agg #[.int .u8 0, .int .u8 0, .int .u8 0, .int .u8 0, .int .u8 0, .int .u8 0, .int .u8 0, .int .u8 0, .int .u8 0, .int .u8 0, .int .u8 0, .int .u8 0, .int .u8 0, .int .u8 0, .int .u8 0, .int .u8 0, .int .u8 0, .int .u8 0, .int .u8 0, .int .u8 0, .int .u8 0, .int .u8 0, .int .u8 0, .int .u8 0, .int .u8 0, .int .u8 0, .int .u8 0, .int .u8 0, .int .u8 0, .int .u8 0, .int .u8 0, .int .u8 0], .agg #[.int .i64 0, .int .i64 0], .string ⟨#[]⟩], []⟩ 8 (by kernel_rfl) (by kernel_rfl) (by kernel_rfl) (by kernel_rfl)) ?_
  intro W base args ds gs before hval0 hW _ _
  have hval : ∀ (j : Nat) t v, Try.f9.params[j]? = some t → args[j]? = some v → Value.okWide Try.prog W .any base t v := hval0
  have hWk : DataW.Whole enc Try.prog Try.f9.params.toList Rows.digestReadsSpec.vars false W args.toList ds gs before := hW
  obtain ⟨p, q, hA0, hV, rfl, _, _⟩ := hW
  have hA : DataW.TrodAll enc Try.prog W 0 (fun _ => true) true Try.f9.params.toList args.toList ds p := hA0
  rw [Try.params9] at hA hval
  obtain ⟨v0, vs0, d0, ds0, p0, q0, hargs, rfl, rfl, h0, r0⟩ := trodAll_cons hA
  obtain ⟨v1, vs1, d1, ds1, p1, q1, rfl, rfl, rfl, h1, r1⟩ := trodAll_cons r0
  obtain ⟨v2, vs2, d2, ds2, p2, q2, rfl, rfl, rfl, h2, r2⟩ := trodAll_cons r1
  obtain ⟨rfl, rfl, rfl⟩ := trodAll_nil r2
  obtain rfl : args = #[v0, v1, v2] := by cases args; simp_all
  obtain ⟨rfl, rfl⟩ := trodVars_none hV
  obtain ⟨l0, e0, rfl⟩ := open_hash (hval 0 24 v0 rfl rfl) h0
  obtain ⟨zs1, l1, rfl, w1⟩ := open_int_array Try.underlying35 Try.underlying3 (by kernel_rfl) (by kernel_rfl) (hval 1 35 v1 rfl rfl) h1
  obtain ⟨x1_0, x1_1, rfl⟩ := list2 l1
  obtain ⟨s2, rfl, _, _, w2⟩ := open_string Try.underlying9 (hval 2 9 v2 rfl rfl) h2
  clear hA0 hval0
  refine (walk l0 e0 x1_0 x1_1 s2 W).mono fun e W' ⟨he, hb⟩ => ?_
  exact ⟨_, he, law_post law_laid rfl (by rw [Try.params9]; decide +kernel) (by kernel_rfl) Try.underlying4 rfl hWk hb⟩

theorem holds : Rows.DigestReadsSaid :=
  OpenClaim.holds_of_wide 9 Try.f9 rfl rfl rfl rfl rfl rfl rfl ⟨rfl, rfl, rfl, rfl, rfl⟩ rfl rfl rfl rfl rfl (by kernel_rfl) Try.func9 (by kernel_rfl)
    (of_decide_eq_true (by kernel_rfl)) (by unfold Func.isWrapper; first | (rw [if_pos (by decide +kernel)]; kernel_rfl) | (rw [if_neg (by decide +kernel)]; exact ⟨rfl, rfl⟩))
    (fun os started H enc _ => lifted os started H enc)

end Go.Proofs.Ytgkdfnmgbobamaa.LReads

namespace Go.Proofs.Ytgkdfnmgbobamaa
/-- The statement. -/
theorem digestReads_holds : Rows.DigestReadsSaid := LReads.holds
end Go.Proofs.Ytgkdfnmgbobamaa
