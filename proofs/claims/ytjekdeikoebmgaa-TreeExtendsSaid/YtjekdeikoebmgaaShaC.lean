/- The contract of digest.add: a block of 64 bytes is added to a state in memory. -/
import Derived.Test.YtjekdeikoebmgaaShaB
namespace Go.Proofs.Ytjekdeikoebmgaa
open Go.RowKit Go.Shelf

theorem kk_info : (Try.prog.info? 96).map (·.size) = some (wrow Sha.kk).size := by rw [wrow_size Sha.kk (by rw [Sha.kk_length]; omega)]; exact info64
theorem kk_old : (wrow []).size = (wrow Sha.kk).size := by rw [wrow_size [] (by simp), wrow_size Sha.kk (by rw [Sha.kk_length]; omega)]

theorem mixed1B (x : Nat) (hx : x < 4294967296) (w : World) :
    Calls Try.prog 62 #[U x, .int .i64 6, .int .i64 11, .int .i64 25] w fun e w' => e = .returned (U (Sha.S1 x)) ∧ Below w.heap.size w w' :=
  (mixed_any x 6 11 25 hx (by omega) (by omega) (by omega) (by omega) (by omega) (by omega) w).mono fun _ _ ⟨he, hw⟩ => ⟨he, hw ▸ Below.refl _ _⟩
theorem mixed0 (x : Nat) (hx : x < 4294967296) (w : World) :
    Calls Try.prog 62 #[U x, .int .i64 2, .int .i64 13, .int .i64 22] w fun e w' => e = .returned (U (Sha.S0 x)) ∧ w = w' :=
  mixed_any x 2 13 22 hx (by omega) (by omega) (by omega) (by omega) (by omega) (by omega) w

theorem not_bits (e : Nat) (he : e < 4294967296) : bits .xor .u32 IntKind.u32.max (e : Int) = ((4294967295 - e : Nat) : Int) := by
  have h : (4294967295 ^^^ e : Nat) = 4294967295 - e := by
    have h1 : (BitVec.allOnes 32 ^^^ BitVec.ofNat 32 e).toNat = 2 ^ 32 - 1 - (BitVec.ofNat 32 e).toNat := by
      rw [← BitVec.toNat_not, BitVec.allOnes_xor]
    rw [BitVec.toNat_xor, BitVec.toNat_allOnes, BitVec.toNat_ofNat, Nat.mod_eq_of_lt he] at h1
    exact h1
  rw [show IntKind.u32.max = ((4294967295 : Nat) : Int) from rfl, u32_xor_nat _ _ (by omega) he, h]
theorem t1_bits (va vb vc vd ve vf vg vh k x : Nat) (he : ve < 4294967296) (hf : vf < 4294967296) (hg : vg < 4294967296) :
    ((vh : Int) + ((Sha.S1 ve : Nat) : Int) + bits .xor .u32 (bits .and .u32 (ve : Int) (vf : Int)) (bits .and .u32 (bits .xor .u32 IntKind.u32.max (ve : Int)) (vg : Int)) + (k : Int) + (x : Int)) % 4294967296 =
      ((Sha.t1 ⟨va, vb, vc, vd, ve, vf, vg, vh⟩ k x : Nat) : Int) := by
  rw [not_bits _ he, u32_and_nat _ _ he hf, u32_and_nat _ _ (by omega) hg, u32_xor_nat _ _ (Sha.and_lt hf) (Sha.and_lt hg)]
  simp only [Sha.t1, Sha.ch]
  omega
theorem t2_bits (va vb vc vd ve vf vg vh : Nat) (ha : va < 4294967296) (hb : vb < 4294967296) (hc : vc < 4294967296) :
    (((Sha.S0 va : Nat) : Int) + bits .xor .u32 (bits .xor .u32 (bits .and .u32 (va : Int) (vb : Int)) (bits .and .u32 (va : Int) (vc : Int))) (bits .and .u32 (vb : Int) (vc : Int))) % 4294967296 =
      ((Sha.t2 ⟨va, vb, vc, vd, ve, vf, vg, vh⟩ : Nat) : Int) := by
  rw [u32_and_nat _ _ ha hb, u32_and_nat _ _ ha hc, u32_and_nat _ _ hb hc, u32_xor_nat _ _ (Sha.and_lt hb) (Sha.and_lt hc), u32_xor_nat _ _ (Sha.xor_lt (Sha.and_lt hb) (Sha.and_lt hc)) (Sha.and_lt hc)]
  simp only [Sha.t2, Sha.maj]
  omega

/-- The state while the words are added one by one. -/
def mrow (v u : Sha.V) (k : Nat) : Array Value := ((Sha.addV v u).row.toList.take k ++ v.row.toList.drop k).toArray

def Sha.V.list (v : Sha.V) : List Nat := [v.a, v.b, v.c, v.d, v.e, v.f, v.g, v.h]
theorem lt8 {P : Nat → Prop} (h0 : P 0) (h1 : P 1) (h2 : P 2) (h3 : P 3) (h4 : P 4) (h5 : P 5) (h6 : P 6) (h7 : P 7) (k : Nat) (h : k < 8) : P k := by
  rcases (show k = 0 ∨ k = 1 ∨ k = 2 ∨ k = 3 ∨ k = 4 ∨ k = 5 ∨ k = 6 ∨ k = 7 by omega) with rfl | rfl | rfl | rfl | rfl | rfl | rfl | rfl <;> assumption
theorem mrow_get (v u : Sha.V) (k : Nat) (h : k < 8) : (mrow v u k)[k]? = some (U (v.list.getD k 0)) :=
  lt8 (P := fun k => (mrow v u k)[k]? = some (U (v.list.getD k 0))) rfl rfl rfl rfl rfl rfl rfl rfl k h
theorem mrow_set (v u : Sha.V) (k : Nat) (h : k < 8) : (mrow v u k).setIfInBounds k (U ((v.list.getD k 0 + u.list.getD k 0) % 4294967296)) = mrow v u (k + 1) :=
  lt8 (P := fun k => (mrow v u k).setIfInBounds k (U ((v.list.getD k 0 + u.list.getD k 0) % 4294967296)) = mrow v u (k + 1)) rfl rfl rfl rfl rfl rfl rfl rfl k h
theorem idx8 (u : Sha.V) (k : Nat) (h : k < 8) : ∀ w, (Instr.index 85 (.agg #[U u.a, U u.b, U u.c, U u.d, U u.e, U u.f, U u.g, U u.h]) (.int .i64 k)).run Try.prog w = .ok (U (u.list.getD k 0)) w :=
  lt8 (P := fun k => ∀ w, (Instr.index 85 (.agg #[U u.a, U u.b, U u.c, U u.d, U u.e, U u.f, U u.g, U u.h]) (.int .i64 k)).run Try.prog w = .ok (U (u.list.getD k 0)) w)
    (fun _ => by kernel_rfl) (fun _ => by kernel_rfl) (fun _ => by kernel_rfl) (fun _ => by kernel_rfl) (fun _ => by kernel_rfl) (fun _ => by kernel_rfl) (fun _ => by kernel_rfl) (fun _ => by kernel_rfl) k h

set_option maxRecDepth 100000 in
set_option maxHeartbeats 1000000 in
theorem add_r1 (u1 u2 u3 u4 u5 u6 u7 u8 u9 u10 u11 u12 u13 u14 u15 u16 u17 u18 u19 u20 u21 u22 u23 u24 u25 u26 u27 u28 u29 u30 u31 u32 u33 u34 u35 u36 u37 u38 u39 u40 u41 u42 u43 u44 u45 u46 u47 u48 u49 u50 u51 u52 u53 u54 u55 u56 u57 u58 u59 u60 u61 u62 u63 u64 u65 u66 u67 u68 u69 u70 u71 u72 u73 u74 u75 u76 u77 u78 u79 u80 u81 u82 u83 u84 u85 u86 u87 u88 u89 u90 u91 u92 u93 u94 u95 u96 u97 u98 u99 u100 u101 u102 u103 u104 u105 u106 u107 u108 u109 u110 u111 u112 u113 u114 u115 u116 u117 u118 u119 u120 u121 u122 u123 u124 u125 u126 u127 : Value) (sb : Nat) (v : Sha.V) (w3 : World) (k3 : Blk w3 sb v.row 85) (Q : Exit → Act → World → Prop)
    (h : ∀ n, Q .normal ⟨((.pointer (some ⟨sb, 0, none⟩)) :: u1 :: u2 :: u3 :: u4 :: u5 :: (U v.a) :: (U v.b) :: (U v.c) :: (U v.d) :: (U v.e) :: (U v.f) :: (U v.g) :: (U v.h) :: u14 :: u15 :: u16 :: u17 :: u18 :: u19 :: u20 :: u21 :: (.pointer (some ⟨sb, 0, none⟩)) :: (.pointer (some ⟨sb, 0, none⟩)) :: (.pointer (some ⟨sb, 0, none⟩)) :: (U v.a) :: (.pointer (some ⟨sb, 0, none⟩)) :: (.pointer (some ⟨sb, 0, none⟩)) :: (.pointer (some ⟨sb, 1, none⟩)) :: (U v.b) :: (.pointer (some ⟨sb, 0, none⟩)) :: (.pointer (some ⟨sb, 0, none⟩)) :: (.pointer (some ⟨sb, 2, none⟩)) :: (U v.c) :: (.pointer (some ⟨sb, 0, none⟩)) :: (.pointer (some ⟨sb, 0, none⟩)) :: (.pointer (some ⟨sb, 3, none⟩)) :: (U v.d) :: (.pointer (some ⟨sb, 0, none⟩)) :: (.pointer (some ⟨sb, 0, none⟩)) :: (.pointer (some ⟨sb, 4, none⟩)) :: (U v.e) :: (.pointer (some ⟨sb, 0, none⟩)) :: (.pointer (some ⟨sb, 0, none⟩)) :: (.pointer (some ⟨sb, 5, none⟩)) :: (U v.f) :: (.pointer (some ⟨sb, 0, none⟩)) :: (.pointer (some ⟨sb, 0, none⟩)) :: (.pointer (some ⟨sb, 6, none⟩)) :: (U v.g) :: (.pointer (some ⟨sb, 0, none⟩)) :: (.pointer (some ⟨sb, 0, none⟩)) :: (.pointer (some ⟨sb, 7, none⟩)) :: (U v.h) :: u54 :: u55 :: u56 :: u57 :: u58 :: u59 :: u60 :: u61 :: u62 :: u63 :: u64 :: u65 :: u66 :: u67 :: u68 :: u69 :: u70 :: u71 :: u72 :: u73 :: u74 :: u75 :: u76 :: u77 :: u78 :: u79 :: u80 :: u81 :: u82 :: u83 :: u84 :: u85 :: u86 :: u87 :: u88 :: u89 :: u90 :: u91 :: u92 :: u93 :: u94 :: u95 :: u96 :: u97 :: u98 :: u99 :: u100 :: u101 :: u102 :: u103 :: u104 :: u105 :: u106 :: u107 :: u108 :: u109 :: u110 :: u111 :: u112 :: u113 :: u114 :: u115 :: u116 :: u117 :: u118 :: u119 :: u120 :: u121 :: u122 :: u123 :: u124 :: u125 :: u126 :: u127 :: []).toArray, []⟩ (w3.drewN n)) : Code.wp Try.prog (regionIn Try.f55 1) Q ⟨((.pointer (some ⟨sb, 0, none⟩)) :: u1 :: u2 :: u3 :: u4 :: u5 :: u6 :: u7 :: u8 :: u9 :: u10 :: u11 :: u12 :: u13 :: u14 :: u15 :: u16 :: u17 :: u18 :: u19 :: u20 :: u21 :: u22 :: u23 :: u24 :: u25 :: u26 :: u27 :: u28 :: u29 :: u30 :: u31 :: u32 :: u33 :: u34 :: u35 :: u36 :: u37 :: u38 :: u39 :: u40 :: u41 :: u42 :: u43 :: u44 :: u45 :: u46 :: u47 :: u48 :: u49 :: u50 :: u51 :: u52 :: u53 :: u54 :: u55 :: u56 :: u57 :: u58 :: u59 :: u60 :: u61 :: u62 :: u63 :: u64 :: u65 :: u66 :: u67 :: u68 :: u69 :: u70 :: u71 :: u72 :: u73 :: u74 :: u75 :: u76 :: u77 :: u78 :: u79 :: u80 :: u81 :: u82 :: u83 :: u84 :: u85 :: u86 :: u87 :: u88 :: u89 :: u90 :: u91 :: u92 :: u93 :: u94 :: u95 :: u96 :: u97 :: u98 :: u99 :: u100 :: u101 :: u102 :: u103 :: u104 :: u105 :: u106 :: u107 :: u108 :: u109 :: u110 :: u111 :: u112 :: u113 :: u114 :: u115 :: u116 :: u117 :: u118 :: u119 :: u120 :: u121 :: u122 :: u123 :: u124 :: u125 :: u126 :: u127 :: []).toArray, []⟩ w3 := by
  have s0 := k3.cell 0 (U v.a) rfl
  have s1 := k3.cell 1 (U v.b) rfl
  have s2 := k3.cell 2 (U v.c) rfl
  have s3 := k3.cell 3 (U v.d) rfl
  have s4 := k3.cell 4 (U v.e) rfl
  have s5 := k3.cell 5 (U v.f) rfl
  have s6 := k3.cell 6 (U v.g) rfl
  have s7 := k3.cell 7 (U v.h) rfl
  conv => arg 2; whnf
  refine wp_region_quiet_lit (by kernel_rfl) (by kernel_rfl) ?_
  repeat (go_big_quiet_step (fail))
  refine wpQuiet_nil ?_
  rintro w5 ⟨n, rfl⟩
  exact h n

set_option maxRecDepth 100000 in
set_option maxHeartbeats 2000000 in
theorem add_loop1 (u0 u1 u2 u3 u14 u15 u16 u17 u18 u19 u20 u21 u22 u23 u24 u25 u26 u27 u28 u29 u30 u31 u32 u33 u34 u35 u36 u37 u38 u39 u40 u41 u42 u43 u44 u45 u46 u47 u48 u49 u50 u51 u52 u53 u55 u56 u57 u58 u59 u60 u61 u62 u63 u64 u65 u66 u67 u68 u69 u70 u71 u72 u73 u74 u75 u76 u77 u78 u79 u80 u81 u82 u83 u84 u85 u86 u87 u88 u89 u90 u91 u92 u93 u94 u95 u96 u97 u98 u99 u100 u101 u102 u103 u104 u105 u106 u107 u108 u109 u110 u111 u112 u113 u114 u115 u116 u117 u118 u119 u120 u121 u122 u123 u124 u125 u126 u127 : Value) (n2 : Nat) (v : Sha.V) (hv : v.Ok) (ws : List Nat) (WS KS : Array Value) (GW : ∀ k, k < 64 → WS[k]? = some (U (ws.getD k 0))) (GK : ∀ k, k < 64 → KS[k]? = some (U (Sha.kk.getD k 0)))
    (w : World) (k1 : Blk w n2 WS 96) (k2 : Blk w (n2 + 1) KS 96) (Q : Exit → Act → World → Prop)
    (hexit : ∀ (y14 y15 y16 y56 y57 y58 y59 y60 y61 y62 y63 y64 y65 y66 y67 y68 y69 y70 y71 y72 y73 y74 y75 y76 y77 y78 y79 y80 y81 y82 y83 y84 y85 y86 y87 y88 y89 y90 y91 y92 y93 y94 y95 y96 y97 y98 y99 y100 y101 y102 y103 y104 : Value) (w' : World), Below w.heap.size w w' → Q (.exit 0) ⟨(u0 :: u1 :: u2 :: u3 :: (.pointer (some ⟨n2, 0, none⟩)) :: (.pointer (some ⟨n2 + 1, 0, none⟩)) :: (U (Sha.rounds ws v 64).a) :: (U (Sha.rounds ws v 64).b) :: (U (Sha.rounds ws v 64).c) :: (U (Sha.rounds ws v 64).d) :: (U (Sha.rounds ws v 64).e) :: (U (Sha.rounds ws v 64).f) :: (U (Sha.rounds ws v 64).g) :: (U (Sha.rounds ws v 64).h) :: y14 :: y15 :: y16 :: u17 :: u18 :: u19 :: u20 :: u21 :: u22 :: u23 :: u24 :: u25 :: u26 :: u27 :: u28 :: u29 :: u30 :: u31 :: u32 :: u33 :: u34 :: u35 :: u36 :: u37 :: u38 :: u39 :: u40 :: u41 :: u42 :: u43 :: u44 :: u45 :: u46 :: u47 :: u48 :: u49 :: u50 :: u51 :: u52 :: u53 :: (.int .i64 64) :: (.bool false) :: y56 :: y57 :: y58 :: y59 :: y60 :: y61 :: y62 :: y63 :: y64 :: y65 :: y66 :: y67 :: y68 :: y69 :: y70 :: y71 :: y72 :: y73 :: y74 :: y75 :: y76 :: y77 :: y78 :: y79 :: y80 :: y81 :: y82 :: y83 :: y84 :: y85 :: y86 :: y87 :: y88 :: y89 :: y90 :: y91 :: y92 :: y93 :: y94 :: y95 :: y96 :: y97 :: y98 :: y99 :: y100 :: y101 :: y102 :: y103 :: y104 :: u105 :: u106 :: u107 :: u108 :: u109 :: u110 :: u111 :: u112 :: u113 :: u114 :: u115 :: u116 :: u117 :: u118 :: u119 :: u120 :: u121 :: u122 :: u123 :: u124 :: u125 :: u126 :: u127 :: []).toArray, []⟩ w') : Code.wp Try.prog (loopIn Try.f55 0) Q ⟨(u0 :: u1 :: u2 :: u3 :: (.pointer (some ⟨n2, 0, none⟩)) :: (.pointer (some ⟨n2 + 1, 0, none⟩)) :: (U v.a) :: (U v.b) :: (U v.c) :: (U v.d) :: (U v.e) :: (U v.f) :: (U v.g) :: (U v.h) :: u14 :: u15 :: u16 :: u17 :: u18 :: u19 :: u20 :: u21 :: u22 :: u23 :: u24 :: u25 :: u26 :: u27 :: u28 :: u29 :: u30 :: u31 :: u32 :: u33 :: u34 :: u35 :: u36 :: u37 :: u38 :: u39 :: u40 :: u41 :: u42 :: u43 :: u44 :: u45 :: u46 :: u47 :: u48 :: u49 :: u50 :: u51 :: u52 :: u53 :: (.int .i64 0) :: u55 :: u56 :: u57 :: u58 :: u59 :: u60 :: u61 :: u62 :: u63 :: u64 :: u65 :: u66 :: u67 :: u68 :: u69 :: u70 :: u71 :: u72 :: u73 :: u74 :: u75 :: u76 :: u77 :: u78 :: u79 :: u80 :: u81 :: u82 :: u83 :: u84 :: u85 :: u86 :: u87 :: u88 :: u89 :: u90 :: u91 :: u92 :: u93 :: u94 :: u95 :: u96 :: u97 :: u98 :: u99 :: u100 :: u101 :: u102 :: u103 :: u104 :: u105 :: u106 :: u107 :: u108 :: u109 :: u110 :: u111 :: u112 :: u113 :: u114 :: u115 :: u116 :: u117 :: u118 :: u119 :: u120 :: u121 :: u122 :: u123 :: u124 :: u125 :: u126 :: u127 :: []).toArray, []⟩ w := by
  have HGW := Lib.hid GW
  have HGK := Lib.hid GK
  have HX := Lib.hid hexit
  clear GW GK hexit
  conv => arg 2; whnf
  go_loopw [6, 7, 8, 9, 10, 11, 12, 13, 54] (fun a b c d e f g h i wr => ∃ k : Nat, k ≤ 64 ∧ i = .int .i64 k ∧ (a = U (Sha.rounds ws v k).a ∧ b = U (Sha.rounds ws v k).b ∧ c = U (Sha.rounds ws v k).c ∧ d = U (Sha.rounds ws v k).d ∧ e = U (Sha.rounds ws v k).e ∧ f = U (Sha.rounds ws v k).f ∧ g = U (Sha.rounds ws v k).g ∧ h = U (Sha.rounds ws v k).h) ∧
      Blk wr n2 WS 96 ∧ Blk wr (n2 + 1) KS 96 ∧ Below w.heap.size w wr) (fun _ _ _ _ _ _ _ _ i _ => 64 - (intOf i).toNat)
  case atStart => exact ⟨0, by omega, rfl, ⟨rfl, rfl, rfl, rfl, rfl, rfl, rfl, rfl⟩, k1, k2, Below.refl _ _⟩
  case round =>
    clear k1 k2
    obtain ⟨k, hk, rfl, ⟨rfl, rfl, rfl, rfl, rfl, rfl, rfl, rfl⟩, k1, k2, k4⟩ := hrel
    have hr := hv.rounds ws k
    by_cases hlt : k < 64
    · have c4 := k1.cell k _ (HGW.out k hlt)
      have c5 := k2.cell k _ (HGK.out k hlt)
      have HN : Hid (Sha.rounds ws v (k + 1) = Sha.rnd (Sha.rounds ws v k) (Sha.kk.getD k 0) (ws.getD k 0)) := rfl
      generalize Sha.rounds ws v k = r at *
      obtain ⟨va, vb, vc, vd, ve, vf, vg, vh⟩ := r
      obtain ⟨ha, hb, hcc, hd, he, hf, hgg, hh⟩ := hr
      dsimp only at *
      generalize ws.getD k 0 = x4 at *
      generalize Sha.kk.getD k 0 = xk at *
      have HT := Lib.hid (t1_bits va vb vc vd ve vf vg vh xk x4 he hf hgg)
      have HU := Lib.hid (t2_bits va vb vc vd ve vf vg vh ha hb hcc)
      have HR := Lib.hid (Sha.rnd_eq ⟨va, vb, vc, vd, ve, vf, vg, vh⟩ xk x4)
      have lT : Sha.t1 ⟨va, vb, vc, vd, ve, vf, vg, vh⟩ xk x4 < 4294967296 := Sha.mod_lt _
      have lU : Sha.t2 ⟨va, vb, vc, vd, ve, vf, vg, vh⟩ < 4294967296 := Sha.mod_lt _
      have f4 := After.cell c4
      have f5 := After.cell c5
      go_wp2_with fail
      refine wp_region_after (by kernel_rfl) (by kernel_rfl) ?_
      repeat (go_big_quiet_step (first | (with_reducible exact After.call (mixed1B ve he _))))
      refine wpQuiet_nil ?_
      rintro w5 ⟨x5, rfl⟩
      have hb5 := x5.hb
      clear f4 f5 c4 c5
      generalize x5.W = w5 at *
      go_wp2_with fail
      rw [HT.out]
      generalize Sha.t1 ⟨va, vb, vc, vd, ve, vf, vg, vh⟩ xk x4 = T at *
      refine (mixed0 va ha _).mono ?_; rintro e w6 ⟨rfl, rfl⟩
      go_upto_region 7 with (fail)
      rw [HU.out]
      generalize Sha.t2 ⟨va, vb, vc, vd, ve, vf, vg, vh⟩ = W at *
      go_wp2_with fail
      go_roundw
      case rel =>
        have e1 : Sha.rounds ws v (k + 1) = ⟨(T + W) % 4294967296, va, vb, vc, (vd + T) % 4294967296, ve, vf, vg⟩ := HN.out.trans HR.out
        refine ⟨k + 1, by omega, by go_num, ?_, k1.below hb5 k1.lt, k2.below hb5 k2.lt, k4.trans (hb5.mono k4.size)⟩
        rw [e1]
        exact ⟨congrArg (Value.int .u32) (by show ((T : Int) + (W : Int)) % 4294967296 = (((T + W) % 4294967296 : Nat) : Int); omega), rfl, rfl, rfl, congrArg (Value.int .u32) (by show ((vd : Int) + (T : Int)) % 4294967296 = (((vd + T) % 4294967296 : Nat) : Int); omega), rfl, rfl, rfl⟩
      case measure => simp [intOf]; omega
    · obtain rfl : k = 64 := by omega
      clear hlt hk hr
      go_wp2_with fail
      exact HX.out _ _ _ _ _ _ _ _ _ _ _ _ _ _ _ _ _ _ _ _ _ _ _ _ _ _ _ _ _ _ _ _ _ _ _ _ _ _ _ _ _ _ _ _ _ _ _ _ _ _ _ _ wr k4

set_option maxRecDepth 100000 in
set_option maxHeartbeats 2000000 in
theorem add_loop2 (u1 u2 u3 u4 u5 u6 u7 u8 u9 u10 u11 u12 u13 u14 u15 u16 u17 u18 u19 u20 u21 u22 u23 u24 u25 u26 u27 u28 u29 u30 u31 u32 u33 u34 u35 u36 u37 u38 u39 u40 u41 u42 u43 u44 u45 u46 u47 u48 u49 u50 u51 u52 u53 u54 u55 u56 u57 u58 u59 u60 u61 u62 u63 u64 u65 u66 u67 u68 u69 u70 u71 u72 u73 u74 u75 u76 u77 u78 u79 u80 u81 u82 u83 u84 u85 u86 u87 u88 u89 u90 u91 u92 u93 u94 u95 u96 u97 u98 u99 u100 u101 u102 u103 u104 u105 u106 u107 u108 u109 u110 u111 u112 u115 u116 u117 u118 u119 u120 u121 u122 u123 u124 u125 u126 u127 : Value) (sb : Nat) (v u : Sha.V) (w : World) (k3 : Blk w sb v.row 85) (Q : Exit → Act → World → Prop)
    (hexit : ∀ (y17 y18 y116 y117 y118 y119 y120 y121 y122 y123 y124 y125 y126 y127 : Value) (w' : World), w.grownBy w' (some sb) → Blk w' sb (Sha.addV v u).row 85 → Q (.exit 2) ⟨((.pointer (some ⟨sb, 0, none⟩)) :: u1 :: u2 :: u3 :: u4 :: u5 :: u6 :: u7 :: u8 :: u9 :: u10 :: u11 :: u12 :: u13 :: u14 :: u15 :: u16 :: y17 :: y18 :: u19 :: u20 :: u21 :: u22 :: u23 :: u24 :: u25 :: u26 :: u27 :: u28 :: u29 :: u30 :: u31 :: u32 :: u33 :: u34 :: u35 :: u36 :: u37 :: u38 :: u39 :: u40 :: u41 :: u42 :: u43 :: u44 :: u45 :: u46 :: u47 :: u48 :: u49 :: u50 :: u51 :: u52 :: u53 :: u54 :: u55 :: u56 :: u57 :: u58 :: u59 :: u60 :: u61 :: u62 :: u63 :: u64 :: u65 :: u66 :: u67 :: u68 :: u69 :: u70 :: u71 :: u72 :: u73 :: u74 :: u75 :: u76 :: u77 :: u78 :: u79 :: u80 :: u81 :: u82 :: u83 :: u84 :: u85 :: u86 :: u87 :: u88 :: u89 :: u90 :: u91 :: u92 :: u93 :: u94 :: u95 :: u96 :: u97 :: u98 :: u99 :: u100 :: u101 :: u102 :: u103 :: u104 :: u105 :: u106 :: u107 :: u108 :: u109 :: u110 :: u111 :: u112 :: (.agg #[U u.a, U u.b, U u.c, U u.d, U u.e, U u.f, U u.g, U u.h]) :: (.int .i64 8) :: (.bool false) :: y116 :: y117 :: y118 :: y119 :: y120 :: y121 :: y122 :: y123 :: y124 :: y125 :: y126 :: y127 :: []).toArray, []⟩ w') : Code.wp Try.prog (loopIn Try.f55 1) Q ⟨((.pointer (some ⟨sb, 0, none⟩)) :: u1 :: u2 :: u3 :: u4 :: u5 :: u6 :: u7 :: u8 :: u9 :: u10 :: u11 :: u12 :: u13 :: u14 :: u15 :: u16 :: u17 :: u18 :: u19 :: u20 :: u21 :: u22 :: u23 :: u24 :: u25 :: u26 :: u27 :: u28 :: u29 :: u30 :: u31 :: u32 :: u33 :: u34 :: u35 :: u36 :: u37 :: u38 :: u39 :: u40 :: u41 :: u42 :: u43 :: u44 :: u45 :: u46 :: u47 :: u48 :: u49 :: u50 :: u51 :: u52 :: u53 :: u54 :: u55 :: u56 :: u57 :: u58 :: u59 :: u60 :: u61 :: u62 :: u63 :: u64 :: u65 :: u66 :: u67 :: u68 :: u69 :: u70 :: u71 :: u72 :: u73 :: u74 :: u75 :: u76 :: u77 :: u78 :: u79 :: u80 :: u81 :: u82 :: u83 :: u84 :: u85 :: u86 :: u87 :: u88 :: u89 :: u90 :: u91 :: u92 :: u93 :: u94 :: u95 :: u96 :: u97 :: u98 :: u99 :: u100 :: u101 :: u102 :: u103 :: u104 :: u105 :: u106 :: u107 :: u108 :: u109 :: u110 :: u111 :: u112 :: (.agg #[U u.a, U u.b, U u.c, U u.d, U u.e, U u.f, U u.g, U u.h]) :: (.int .i64 0) :: u115 :: u116 :: u117 :: u118 :: u119 :: u120 :: u121 :: u122 :: u123 :: u124 :: u125 :: u126 :: u127 :: []).toArray, []⟩ w := by
  have HX := Lib.hid hexit
  clear hexit
  conv => arg 2; whnf
  go_loopw [114] (fun i wr => ∃ k : Nat, k ≤ 8 ∧ i = .int .i64 k ∧ Blk wr sb (mrow v u k) 85 ∧ w.grownBy wr (some sb)) (fun i _ => 8 - (intOf i).toNat)
  case atStart => exact ⟨0, by omega, rfl, k3, World.grownBy.refl w _⟩
  case round =>
    clear k3
    obtain ⟨k, hk, rfl, k3, hG⟩ := hrel
    by_cases hlt : k < 8
    · have hi := idx8 u k hlt
      have c := k3.cell k (U (v.list.getD k 0)) (mrow_get v u k hlt)
      have HM := Lib.hid (mrow_set v u k hlt)
      have f1 := After.cell c
      have b1 : (k : Int) < 8 := by omega
      generalize v.list.getD k 0 = x at *
      generalize u.list.getD k 0 = y at *
      go_wp2_with fail
      refine wp_region_after_tail 8 (by kernel_rfl) (by kernel_rfl) (by kernel_rfl) (by kernel_rfl) ?_
      simp only [List.take_succ_cons, List.take_zero, List.drop_succ_cons, List.drop_zero]
      repeat (go_big_quiet_step (fail))
      refine wpQuiet_nil ?_
      rintro w5 ⟨x5, rfl⟩
      have hb5 := x5.hb
      have c5 := f1 x5
      clear f1 c hi
      generalize x5.W = w5 at *
      have j3 := k3.below hb5 k3.lt
      have hz := j3.frozen k
      go_wp2_with fail
      go_roundw
      case rel =>
        refine ⟨k + 1, by omega, by go_num, ?_, grown_set (grown_then hG hb5) _ _⟩
        have h3 := j3.set k (U ((x + y) % 4294967296))
        rw [HM.out] at h3
        rw [show ∀ n : Int, n = (((x + y) % 4294967296 : Nat) : Int) → Value.int IntKind.u32 n = U ((x + y) % 4294967296) from fun n hn => by rw [hn]]
        · exact h3
        · omega
      case measure => simp [intOf]; omega
    · obtain rfl : k = 8 := by omega
      clear hlt hk
      go_wp2_with fail
      exact HX.out _ _ _ _ _ _ _ _ _ _ _ _ _ _ wr hG k3

set_option maxRecDepth 100000 in
set_option maxHeartbeats 2000000 in
theorem add_any (sb g o c : Nat) (v : Sha.V) (hv : v.Ok) (m : List UInt8) (hm : m.length = 64) (hc : 64 ≤ c) (w : World) (hB : BytesAt w g o m) (hg : g < w.heap.size) (hs : Blk w sb v.row 85) :
    Calls Try.prog 55 #[.pointer (some ⟨sb, 0, none⟩), .slice (some ⟨g, o, none⟩) 64 c] w fun e w' => e = .returned (.tuple #[]) ∧ w.grownBy w' (some sb) ∧ Blk w' sb (Sha.block v m).row 85 := by
  have HS := Lib.hid (schedule_any g o c m hm hc w hB hg)
  clear hc hB
  go_enter Try.func55, Try.ntmps55
  go_wp2_with fail
  refine HS.out.mono ?_; rintro e w1 ⟨rfl, hb1⟩
  go_wp2_with fail
  refine (rounds_any _).mono ?_; rintro e w2 ⟨rfl, hb2⟩
  have hb3 := hb1.trans (hb2.mono hb1.size)
  have hs2 := hs.below hb3 hs.lt
  have hlt := hs2.lt
  have IW := Lib.hid (sched_info m)
  have OW := Lib.hid (sched_old m)
  have NW := Lib.hid (wrow_one (Sha.sched m 64))
  have GW := Lib.hid (fun k h => wrow_get (Sha.sched m 64) k h)
  have IK := Lib.hid kk_info
  have OK := Lib.hid kk_old
  have NK := Lib.hid (wrow_one Sha.kk)
  have GK := Lib.hid (fun k h => wrow_get Sha.kk k h)
  generalize wrow (Sha.sched m 64) = WS at *
  generalize wrow Sha.kk = KS at *
  have b4 : Blk ((w2.alloc (.cells (wrow []) 96)).alloc (.cells (wrow []) 96)) w2.heap.size (wrow []) 96 := (Blk.new _ _ _).alloc _
  have b5 : Blk ((w2.alloc (.cells (wrow []) 96)).alloc (.cells (wrow []) 96)) (w2.heap.size + 1) (wrow []) 96 := by
    have := Blk.new (w2.alloc (.cells (wrow []) 96)) (wrow []) 96
    simpa only [World.size_alloc] using this
  have b6 := b5.rowOther (g := w2.heap.size) WS (by omega)
  have k1 := (b4.row WS).rowOther (g := w2.heap.size + 1) KS (by omega)
  have k2 := b6.row KS
  have k3 := (((hs2.alloc (.cells (wrow []) 96)).alloc (.cells (wrow []) 96)).rowOther (g := w2.heap.size) WS (by omega)).rowOther (g := w2.heap.size + 1) KS (by omega)
  have k4 : Below w.heap.size w ((((w2.alloc (.cells (wrow []) 96)).alloc (.cells (wrow []) 96)).setRow w2.heap.size WS).setRow (w2.heap.size + 1) KS) :=
    Below.setRow (Below.setRow ((hb3.alloc hb3.size _).alloc (by have := hb3.size; simp; omega) _) hb3.size _) (by have := hb3.size; omega) _
  have B4 := Lib.hid b4
  have B6 : Hid (Blk (((w2.alloc (.cells (wrow []) 96)).alloc (.cells (wrow []) 96)).setRow w2.heap.size WS) (w2.alloc (.cells (wrow []) 96)).heap.size (wrow []) 96) := by
    show Blk _ _ _ _
    rw [World.size_alloc]; exact b6
  clear b4 b5 b6
  have K1 := Lib.hid k1
  have K2 := Lib.hid k2
  have K3 := Lib.hid k3
  have K4 := Lib.hid k4
  clear k1 k2 k3 k4
  go_wp2_with (first
    | (refine wpList_alloc_row rfl 96 rfl (wrow []) (by kernel_rfl) ?_)
    | (refine wpList_store_row rfl 96 (.tmp 4) (.tmp 20) rfl w2.heap.size WS rfl rfl 96 _ B4.out IW.out OW.out NW.out ?_)
    | (refine wpList_store_row rfl 96 (.tmp 5) (.tmp 21) rfl (w2.alloc (.cells (wrow []) 96)).heap.size KS rfl rfl 96 _ B6.out IK.out OK.out NK.out ?_))
  go_frame
  simp only [World.size_alloc]
  have k1 := K1.out
  have k2 := K2.out
  have k3 := K3.out
  have k4 := K4.out
  clear K1 K2 K3 K4 B4 B6
  generalize (((w2.alloc (.cells (wrow []) 96)).alloc (.cells (wrow []) 96)).setRow w2.heap.size WS).setRow (w2.heap.size + 1) KS = w3 at *
  have hn1 : sb ≠ w2.heap.size := by omega
  have hn2 : sb ≠ w2.heap.size + 1 := by omega
  generalize w2.heap.size = n2 at *
  clear hb1 hb2 hb3 hs2 hlt HS
  refine add_r1 _ _ _ _ _ _ _ _ _ _ _ _ _ _ _ _ _ _ _ _ _ _ _ _ _ _ _ _ _ _ _ _ _ _ _ _ _ _ _ _ _ _ _ _ _ _ _ _ _ _ _ _ _ _ _ _ _ _ _ _ _ _ _ _ _ _ _ _ _ _ _ _ _ _ _ _ _ _ _ _ _ _ _ _ _ _ _ _ _ _ _ _ _ _ _ _ _ _ _ _ _ _ _ _ _ _ _ _ _ _ _ _ _ _ _ _ _ _ _ _ _ _ _ _ _ _ _ sb v w3 k3 _ ?_
  intro n
  go_wp2_with fail
  refine add_loop1 _ _ _ _ _ _ _ _ _ _ _ _ _ _ _ _ _ _ _ _ _ _ _ _ _ _ _ _ _ _ _ _ _ _ _ _ _ _ _ _ _ _ _ _ _ _ _ _ _ _ _ _ _ _ _ _ _ _ _ _ _ _ _ _ _ _ _ _ _ _ _ _ _ _ _ _ _ _ _ _ _ _ _ _ _ _ _ _ _ _ _ _ _ _ _ _ _ _ _ _ _ _ _ _ _ _ _ _ _ _ _ _ _ _ _ _ _ n2 v hv (Sha.sched m 64) WS KS GW.out GK.out _ (k1.drewN n) (k2.drewN n) _ ?_
  intro y14 y15 y16 y56 y57 y58 y59 y60 y61 y62 y63 y64 y65 y66 y67 y68 y69 y70 y71 y72 y73 y74 y75 y76 y77 y78 y79 y80 y81 y82 y83 y84 y85 y86 y87 y88 y89 y90 y91 y92 y93 y94 y95 y96 y97 y98 y99 y100 y101 y102 y103 y104 w5 hb5
  have hb6 : Below w3.heap.size w3 w5 := Below.ofDrewN hb5
  have j3 := k3.below hb6 k3.lt
  have t5 := k4.trans (hb6.mono k4.size)
  have HB : Hid (Sha.block v m = Sha.addV v (Sha.rounds (Sha.sched m 64) v 64)) := rfl
  generalize Sha.rounds (Sha.sched m 64) v 64 = u at *
  go_wp2_with fail
  refine add_loop2 _ _ _ _ _ _ _ _ _ _ _ _ _ _ _ _ _ _ _ _ _ _ _ _ _ _ _ _ _ _ _ _ _ _ _ _ _ _ _ _ _ _ _ _ _ _ _ _ _ _ _ _ _ _ _ _ _ _ _ _ _ _ _ _ _ _ _ _ _ _ _ _ _ _ _ _ _ _ _ _ _ _ _ _ _ _ _ _ _ _ _ _ _ _ _ _ _ _ _ _ _ _ _ _ _ _ _ _ _ _ _ _ _ _ _ _ _ _ _ _ _ _ _ _ _ sb v u w5 j3 _ ?_
  intro z17 z18 z116 z117 z118 z119 z120 z121 z122 z123 z124 z125 z126 z127 w7 hg7 hs7
  go_wp2_with fail
  go_end0
  exact ⟨rfl, ⟨hg7.os.trans t5.os, hg7.tape.trans t5.tape, hg7.output.trans t5.output, Nat.le_trans t5.size hg7.size, fun i hi hne => (hg7.block i (Nat.lt_of_lt_of_le hi t5.size) hne).trans (t5.block i hi)⟩, by rw [HB.out]; exact hs7⟩

end Go.Proofs.Ytjekdeikoebmgaa
