/- The contract of the reference's block. -/
import Derived.Test.YtjekdeikoebmgaaRefC
namespace Go.Proofs.Ytjekdeikoebmgaa
open Go.RowKit Go.Shelf

/-- What stands behind the first n parts of a sequence. -/
def tailN : Nat → Code → Code
  | 0, c => c
  | n + 1, .seq _ b => tailN n b
  | _ + 1, _ => .skip
noncomputable def tailIn (f : Func) (n : Nat) : Code := (f.body.map (tailN n)).getD .skip
theorem row_one (v : Sha.V) : v.row.all (·.oneCell') = true := by simp [Sha.V.row, Value.oneCell']
theorem zero8 : (Try.prog.info? 85).bind (·.zero) = some (.agg (Sha.V.row ⟨0, 0, 0, 0, 0, 0, 0, 0⟩)) := by kernel_rfl
theorem zero64 : (Try.prog.info? 96).bind (·.zero) = some (.agg (wrow [])) := by kernel_rfl

set_option maxRecDepth 100000 in
set_option maxHeartbeats 4000000 in
theorem rblock_t6 (u0 u1 u3 u5 u6 u7 u8 u9 u11 u12 u13 u14 u15 u16 u17 u18 u19 u20 u21 u22 u23 u24 u25 u26 u27 u28 u29 u30 u31 u32 u33 u34 u35 u36 u37 u38 u39 u40 u41 u42 u43 u44 u45 u46 u47 u48 u49 u50 u51 u52 u53 u54 u55 u56 u57 u58 u59 u60 u61 u62 u63 u64 u65 u66 u67 u68 u69 u70 u71 u72 u73 u74 u75 u76 u77 u78 u79 u80 u81 u82 u83 u84 u85 u86 u87 u88 u89 u90 u91 u92 u93 u94 u95 u96 u97 u98 u99 u100 u101 u102 u103 u104 u105 u106 u107 u108 u109 u110 u111 u112 u113 u114 u115 u116 u117 u118 u119 u120 u121 u122 u123 u124 u125 u126 u127 u128 u129 u130 u131 u132 u133 u134 u135 u136 u137 u138 u139 u140 u141 u142 u143 u144 u145 u146 u147 u148 u149 u150 u151 u152 u153 u154 u155 u156 u157 u158 u159 u160 u161 u162 u163 u164 u165 u166 u167 u168 u169 u170 u171 u172 u173 u174 u175 u176 u177 u178 u179 u180 u181 u182 u183 u184 u185 u186 u187 u188 : Value) (H H4 nv B : Nat) (v u : Sha.V) (w0 w5 : World) (f2 : Blk w5 H v.row 85) (f4 : Blk w5 H4 (Sha.V.row ⟨0, 0, 0, 0, 0, 0, 0, 0⟩) 85) (kv : Blk w5 nv u.row 85) (t5 : Below B w0 w5)
    (h1 : nv ≠ H) (h2 : H4 ≠ H) (h3 : B ≤ H) (h4 : B ≤ H4) : Code.wp Try.prog (tailIn Try.f57 6) (bodyPost Try.prog Try.f57 (fun e w' => e = .returned (.agg (Sha.addV v u).row) ∧ Below B w0 w')) ⟨(u0 :: u1 :: (.pointer (some ⟨H, 0, none⟩)) :: u3 :: (.pointer (some ⟨H4, 0, none⟩)) :: u5 :: u6 :: u7 :: u8 :: u9 :: (.pointer (some ⟨nv, 0, none⟩)) :: u11 :: u12 :: u13 :: u14 :: u15 :: u16 :: u17 :: u18 :: u19 :: u20 :: u21 :: u22 :: u23 :: u24 :: u25 :: u26 :: u27 :: u28 :: u29 :: u30 :: u31 :: u32 :: u33 :: u34 :: u35 :: u36 :: u37 :: u38 :: u39 :: u40 :: u41 :: u42 :: u43 :: u44 :: u45 :: u46 :: u47 :: u48 :: u49 :: u50 :: u51 :: u52 :: u53 :: u54 :: u55 :: u56 :: u57 :: u58 :: u59 :: u60 :: u61 :: u62 :: u63 :: u64 :: u65 :: u66 :: u67 :: u68 :: u69 :: u70 :: u71 :: u72 :: u73 :: u74 :: u75 :: u76 :: u77 :: u78 :: u79 :: u80 :: u81 :: u82 :: u83 :: u84 :: u85 :: u86 :: u87 :: u88 :: u89 :: u90 :: u91 :: u92 :: u93 :: u94 :: u95 :: u96 :: u97 :: u98 :: u99 :: u100 :: u101 :: u102 :: u103 :: u104 :: u105 :: u106 :: u107 :: u108 :: u109 :: u110 :: u111 :: u112 :: u113 :: u114 :: u115 :: u116 :: u117 :: u118 :: u119 :: u120 :: u121 :: u122 :: u123 :: u124 :: u125 :: u126 :: u127 :: u128 :: u129 :: u130 :: u131 :: u132 :: u133 :: u134 :: u135 :: u136 :: u137 :: u138 :: u139 :: u140 :: u141 :: u142 :: u143 :: u144 :: u145 :: u146 :: u147 :: u148 :: u149 :: u150 :: u151 :: u152 :: u153 :: u154 :: u155 :: u156 :: u157 :: u158 :: u159 :: u160 :: u161 :: u162 :: u163 :: u164 :: u165 :: u166 :: u167 :: u168 :: u169 :: u170 :: u171 :: u172 :: u173 :: u174 :: u175 :: u176 :: u177 :: u178 :: u179 :: u180 :: u181 :: u182 :: u183 :: u184 :: u185 :: u186 :: u187 :: u188 :: []).toArray, []⟩ w5 := by
  conv => arg 2; whnf
  go_wp2_with fail
  refine rblock_loop3 _ _ _ _ _ _ _ _ _ _ _ _ _ _ _ _ _ _ _ _ _ _ _ _ _ _ _ _ _ _ _ _ _ _ _ _ _ _ _ _ _ _ _ _ _ _ _ _ _ _ _ _ _ _ _ _ _ _ _ _ _ _ _ _ _ _ _ _ _ _ _ _ _ _ _ _ _ _ _ _ _ _ _ _ _ _ _ _ _ _ _ _ _ _ _ _ _ _ _ _ _ _ _ _ _ _ _ _ _ _ _ _ _ _ _ _ _ _ _ _ _ _ _ _ _ _ _ _ _ _ _ _ _ _ _ _ _ _ _ _ _ _ _ _ _ _ _ _ _ _ _ _ _ _ _ _ _ _ _ _ _ _ _ _ _ _ _ _ _ _ _ _ _ _ _ _ _ _ _ _ _ _ _ _ _ _ H nv v u w5 f2 kv h1 _ ?_
  intro x177 x178 x179 x180 x181 x182 x183 x184 x185 x186 x187 w6 hG6 ks
  have g4 := f4.grown hG6 h2
  have lH := f2.lt
  have t6 := below_grown t5 hG6 (by omega) h3
  have KS2 := Lib.hid ks
  have G4 := Lib.hid g4
  clear f2 f4 kv t5 hG6 g4 ks
  obtain ⟨r, hr⟩ : ∃ r, Sha.addV v u = r := ⟨_, rfl⟩
  rw [hr] at KS2
  have HRr := Lib.hid hr
  clear hr
  go_wp2_with (first
    | (refine wpList_load_row rfl 85 (.tmp 2) rfl H rfl _ _ _ _ KS2.out Try.underlying85 rfl info45 ?_)
    | (refine wpList_store_row rfl 85 (.tmp 4) (.tmp 188) rfl H4 r.row rfl rfl 85 _ G4.out info45 rfl (row_one r) ?_))
  refine bodyPost_ret (v := .agg r.row) ?_ rfl ⟨by rw [HRr.out], Below.setRow t6 h4 _⟩
  exact results_cell_row rfl _ _ _ _ _ _ _ rfl (G4.out.row _) Try.underlying85 rfl info45

set_option maxRecDepth 100000 in
set_option maxHeartbeats 4000000 in
theorem rblock_t4 (u0 u1 u3 u7 u8 u9 u10 u11 u12 u13 u14 u15 u16 u17 u18 u19 u20 u21 u22 u23 u24 u25 u26 u27 u28 u29 u30 u31 u32 u33 u34 u35 u36 u37 u38 u39 u40 u41 u42 u43 u44 u45 u46 u47 u48 u49 u50 u51 u52 u53 u54 u55 u56 u57 u58 u59 u60 u61 u62 u63 u64 u65 u66 u67 u68 u69 u70 u71 u72 u73 u74 u75 u76 u77 u78 u79 u80 u81 u82 u83 u84 u85 u86 u87 u88 u89 u90 u91 u92 u93 u94 u95 u96 u97 u98 u99 u100 u101 u102 u103 u104 u105 u106 u107 u108 u109 u110 u111 u112 u113 u114 u115 u116 u117 u118 u119 u120 u121 u122 u123 u124 u125 u126 u127 u128 u129 u130 u131 u132 u133 u134 u135 u136 u137 u138 u139 u140 u141 u142 u143 u144 u145 u146 u147 u148 u149 u150 u151 u152 u153 u154 u155 u156 u157 u158 u159 u160 u161 u162 u163 u164 u165 u166 u167 u168 u169 u170 u171 u172 u173 u174 u175 u176 u177 u178 u179 u180 u181 u182 u183 u184 u185 u186 u187 u188 : Value) (H H4 nk nw B : Nat) (v : Sha.V) (hv : v.Ok) (ws : List Nat) (WS KS : Array Value) (GW : ∀ k, k < 64 → WS[k]? = some (U (ws.getD k 0))) (GK : ∀ k, k < 64 → KS[k]? = some (U (Sha.kk.getD k 0)))
    (w0 w3 : World) (D2 : Hid (Blk w3 H v.row 85)) (d4 : Blk w3 H4 (Sha.V.row ⟨0, 0, 0, 0, 0, 0, 0, 0⟩) 85) (dk : Blk w3 nk KS 96) (kw : Blk w3 nw WS 96) (t3 : Below B w0 w3) (hBs : B ≤ w3.heap.size)
    (h2 : H4 ≠ H) (h3 : B ≤ H) (h4 : B ≤ H4) : Code.wp Try.prog (tailIn Try.f57 4) (bodyPost Try.prog Try.f57 (fun e w' => e = .returned (.agg (Sha.addV v (Sha.rounds ws v 64)).row) ∧ Below B w0 w')) ⟨(u0 :: u1 :: (.pointer (some ⟨H, 0, none⟩)) :: u3 :: (.pointer (some ⟨H4, 0, none⟩)) :: (.pointer (some ⟨nk, 0, none⟩)) :: (.pointer (some ⟨nw, 0, none⟩)) :: u7 :: u8 :: u9 :: u10 :: u11 :: u12 :: u13 :: u14 :: u15 :: u16 :: u17 :: u18 :: u19 :: u20 :: u21 :: u22 :: u23 :: u24 :: u25 :: u26 :: u27 :: u28 :: u29 :: u30 :: u31 :: u32 :: u33 :: u34 :: u35 :: u36 :: u37 :: u38 :: u39 :: u40 :: u41 :: u42 :: u43 :: u44 :: u45 :: u46 :: u47 :: u48 :: u49 :: u50 :: u51 :: u52 :: u53 :: u54 :: u55 :: u56 :: u57 :: u58 :: u59 :: u60 :: u61 :: u62 :: u63 :: u64 :: u65 :: u66 :: u67 :: u68 :: u69 :: u70 :: u71 :: u72 :: u73 :: u74 :: u75 :: u76 :: u77 :: u78 :: u79 :: u80 :: u81 :: u82 :: u83 :: u84 :: u85 :: u86 :: u87 :: u88 :: u89 :: u90 :: u91 :: u92 :: u93 :: u94 :: u95 :: u96 :: u97 :: u98 :: u99 :: u100 :: u101 :: u102 :: u103 :: u104 :: u105 :: u106 :: u107 :: u108 :: u109 :: u110 :: u111 :: u112 :: u113 :: u114 :: u115 :: u116 :: u117 :: u118 :: u119 :: u120 :: u121 :: u122 :: u123 :: u124 :: u125 :: u126 :: u127 :: u128 :: u129 :: u130 :: u131 :: u132 :: u133 :: u134 :: u135 :: u136 :: u137 :: u138 :: u139 :: u140 :: u141 :: u142 :: u143 :: u144 :: u145 :: u146 :: u147 :: u148 :: u149 :: u150 :: u151 :: u152 :: u153 :: u154 :: u155 :: u156 :: u157 :: u158 :: u159 :: u160 :: u161 :: u162 :: u163 :: u164 :: u165 :: u166 :: u167 :: u168 :: u169 :: u170 :: u171 :: u172 :: u173 :: u174 :: u175 :: u176 :: u177 :: u178 :: u179 :: u180 :: u181 :: u182 :: u183 :: u184 :: u185 :: u186 :: u187 :: u188 :: []).toArray, []⟩ w3 := by
  conv => arg 2; whnf
  have lH := D2.out.lt
  have l4 := d4.lt
  have lk := dk.lt
  have lw := kw.lt
  have NV := Lib.hid (Blk.new w3 (Sha.V.row ⟨0, 0, 0, 0, 0, 0, 0, 0⟩) 85)
  have Z8 := Lib.hid zero8
  go_wp2_with (first
    | (refine wpList_alloc_row rfl 85 rfl (Sha.V.row ⟨0, 0, 0, 0, 0, 0, 0, 0⟩) Z8.out ?_)
    | (refine wpList_load_row rfl 85 (.tmp 2) rfl H rfl _ _ _ _ D2.out Try.underlying85 rfl info45 ?_)
    | (refine wpList_store_row rfl 85 (.tmp 10) (.tmp 92) rfl w3.heap.size v.row rfl rfl 85 _ NV.out info45 rfl (row_one v) ?_; rw [World.setRow_alloc_new]))
  have e2 := D2.out.alloc (.cells v.row 85)
  have e4 := d4.alloc (.cells v.row 85)
  have ek := dk.alloc (.cells v.row 85)
  have ew := kw.alloc (.cells v.row 85)
  have ev := Blk.new w3 v.row 85
  have t4 := t3.alloc hBs (.cells v.row 85)
  have hs4 : B ≤ (w3.alloc (.cells v.row 85)).heap.size := by simp; omega
  generalize w3.alloc (.cells v.row 85) = w4 at *
  generalize w3.heap.size = nv at *
  clear d4 dk kw D2 NV t3
  refine rblock_loop2 _ _ _ _ _ _ _ _ _ _ _ _ _ _ _ _ _ _ _ _ _ _ _ _ _ _ _ _ _ _ _ _ _ _ _ _ _ _ _ _ _ _ _ _ _ _ _ _ _ _ _ _ _ _ _ _ _ _ _ _ _ _ _ _ _ _ _ _ _ _ _ _ _ _ _ _ _ _ _ _ _ _ _ _ _ _ _ _ _ _ _ _ _ _ _ _ _ _ _ _ _ _ _ _ _ _ _ _ _ _ _ _ _ _ _ _ _ _ _ _ _ _ _ _ _ _ _ _ _ _ _ _ _ _ _ _ _ _ _ _ _ _ _ _ _ _ _ _ _ _ _ _ _ _ _ _ _ _ _ _ _ _ _ _ _ _ _ _ _ _ _ _ _ _ _ _ _ _ _ _ _ _ _ _ _ nk nw nv v hv ws WS KS GW GK w4 ew ek ev (by omega) (by omega) _ ?_
  intro z12 z13 z14 z15 z95 z96 z97 z98 z99 z100 z101 z102 z103 z104 z105 z106 z107 z108 z109 z110 z111 z112 z113 z114 z115 z116 z117 z118 z119 z120 z121 z122 z123 z124 z125 z126 z127 z128 z129 z130 z131 z132 z133 z134 z135 z136 z137 z138 z139 z140 z141 z142 z143 z144 z145 z146 z147 z148 z149 z150 z151 z152 z153 z154 z155 z156 z157 z158 z159 z160 z161 z162 z163 z164 z165 z166 z167 z168 z169 z170 z171 z172 z173 z174 w5 hG5 kv
  have f2 := e2.grown hG5 (by omega)
  have f4 := e4.grown hG5 (by omega)
  have t5 := below_grown t4 hG5 hs4 (by omega)
  clear e2 e4 ek ew ev t4 hG5
  rename_i K hK
  show K _ _
  refine hK _ _ ?_
  exact rblock_t6 _ _ _ _ _ _ _ _ _ _ _ _ _ _ _ _ _ _ _ _ _ _ _ _ _ _ _ _ _ _ _ _ _ _ _ _ _ _ _ _ _ _ _ _ _ _ _ _ _ _ _ _ _ _ _ _ _ _ _ _ _ _ _ _ _ _ _ _ _ _ _ _ _ _ _ _ _ _ _ _ _ _ _ _ _ _ _ _ _ _ _ _ _ _ _ _ _ _ _ _ _ _ _ _ _ _ _ _ _ _ _ _ _ _ _ _ _ _ _ _ _ _ _ _ _ _ _ _ _ _ _ _ _ _ _ _ _ _ _ _ _ _ _ _ _ _ _ _ _ _ _ _ _ _ _ _ _ _ _ _ _ _ _ _ _ _ _ _ _ _ _ _ _ _ _ _ _ _ _ _ _ _ _ _ _ _ H H4 nv B v (Sha.rounds ws v 64) w0 w5 f2 f4 kv t5 (by omega) h2 h3 h4

set_option maxRecDepth 100000 in
set_option maxHeartbeats 4000000 in
theorem rblock_any (v : Sha.V) (hv : v.Ok) (b : ByteArray) (m : List UInt8) (hb : b.data.toList = m) (hm : m.length = 64) (w : World) :
    Calls Try.prog 57 #[.agg v.row, .string b] w fun e w' => e = .returned (.agg (Sha.block v m).row) ∧ Below w.heap.size w w' := by
  have Z8 := Lib.hid zero8
  have Z64 := Lib.hid zero64
  show Calls _ _ _ _ fun e w' => e = .returned (.agg (Sha.addV v (Sha.rounds (Sha.sched m 64) v 64)).row) ∧ Below w.heap.size w w'
  go_enter Try.func57, Try.ntmps57
  go_wp2_with (first | (refine wpList_box_row rfl 85 (.tmp 0) rfl v.row rfl ?_) | (refine wpList_alloc_row rfl 85 rfl (Sha.V.row ⟨0, 0, 0, 0, 0, 0, 0, 0⟩) Z8.out ?_))
  have a2 : Blk ((w.alloc (.cells v.row 85)).alloc (.cells (Sha.V.row ⟨0, 0, 0, 0, 0, 0, 0, 0⟩) 85)) w.heap.size v.row 85 := (Blk.new _ _ _).alloc _
  have a4 : Blk ((w.alloc (.cells v.row 85)).alloc (.cells (Sha.V.row ⟨0, 0, 0, 0, 0, 0, 0, 0⟩) 85)) (w.heap.size + 1) (Sha.V.row ⟨0, 0, 0, 0, 0, 0, 0, 0⟩) 85 := by
    have := Blk.new (w.alloc (.cells v.row 85)) (Sha.V.row ⟨0, 0, 0, 0, 0, 0, 0, 0⟩) 85
    simpa only [World.size_alloc] using this
  have tb : Below w.heap.size w ((w.alloc (.cells v.row 85)).alloc (.cells (Sha.V.row ⟨0, 0, 0, 0, 0, 0, 0, 0⟩) 85)) := ((Below.refl _ w).alloc (Nat.le_refl _) _).alloc (by simp) _
  refine (rrounds_any _).mono ?_; rintro e w1 ⟨rfl, hb1⟩
  have b2 := a2.below hb1 a2.lt
  have b4 := a4.below hb1 a4.lt
  have t1 := tb.trans (hb1.mono tb.size)
  have s1 := b4.lt
  clear a2 a4 tb hb1
  have IK := Lib.hid kk_info
  have OK := Lib.hid kk_old
  have NK := Lib.hid (wrow_one Sha.kk)
  have GW := Lib.hid (fun k h => wrow_get (Sha.sched m 64) k h)
  have GK := Lib.hid (fun k h => wrow_get Sha.kk k h)
  have NB := Lib.hid (Blk.new w1 (wrow []) 96)
  generalize wrow Sha.kk = KS at *
  go_wp2_with (first
    | (refine wpList_alloc_row rfl 96 rfl (wrow []) Z64.out ?_)
    | (refine wpList_store_row rfl 96 (.tmp 5) (.tmp 17) rfl w1.heap.size KS rfl rfl 96 _ NB.out IK.out OK.out NK.out ?_; rw [World.setRow_alloc_new]))
  have c2 := (b2.alloc (.cells KS 96)).alloc (.cells (wrow []) 96)
  have c4 := (b4.alloc (.cells KS 96)).alloc (.cells (wrow []) 96)
  have ck := (Blk.new w1 KS 96).alloc (.cells (wrow []) 96)
  have cw : Blk ((w1.alloc (.cells KS 96)).alloc (.cells (wrow []) 96)) (w1.heap.size + 1) (wrow []) 96 := by
    have := Blk.new (w1.alloc (.cells KS 96)) (wrow []) 96
    simpa only [World.size_alloc] using this
  have t2 := (t1.alloc t1.size (.cells KS 96)).alloc (by simp; have := t1.size; omega) (.cells (wrow []) 96)
  generalize (w1.alloc (.cells KS 96)).alloc (.cells (wrow []) 96) = w2 at *
  generalize w1.heap.size = nk at *
  clear b2 b4 t1 NB
  refine rblock_loop1 _ _ _ _ _ _ _ _ _ _ _ _ _ _ _ _ _ _ _ _ _ _ _ _ _ _ _ _ _ _ _ _ _ _ _ _ _ _ _ _ _ _ _ _ _ _ _ _ _ _ _ _ _ _ _ _ _ _ _ _ _ _ _ _ _ _ _ _ _ _ _ _ _ _ _ _ _ _ _ _ _ _ _ _ _ _ _ _ _ _ _ _ _ _ _ _ _ _ _ _ _ _ _ _ _ _ _ _ _ _ _ _ _ _ _ _ _ _ _ _ _ _ _ _ _ _ _ _ _ _ _ _ _ _ _ _ _ _ _ _ _ _ _ _ _ _ _ _ _ _ _ _ _ _ _ _ _ _ _ _ _ _ _ _ _ _ _ _ _ _ _ _ _ _ _ _ _ _ _ _ _ _ _ _ _ _ (nk + 1) b m hb hm w2 cw _ ?_
  intro y8 y9 y20 y21 y22 y23 y24 y25 y26 y27 y28 y29 y30 y31 y32 y33 y34 y35 y36 y37 y38 y39 y40 y41 y42 y43 y44 y45 y46 y47 y48 y49 y50 y51 y52 y53 y54 y55 y56 y57 y58 y59 y60 y61 y62 y63 y64 y65 y66 y67 y68 y69 y70 y71 y72 y73 y74 y75 y76 y77 y78 y79 y80 y81 y82 y83 y84 y85 y86 y87 y88 y89 y90 y91 w3 hG3 kw
  have d2 := c2.grown hG3 (by omega)
  have d4 := c4.grown hG3 (by omega)
  have dk := ck.grown hG3 (by omega)
  have t3 := below_grown t2 hG3 t2.size (by omega)
  generalize wrow (Sha.sched m 64) = WS at *
  rename_i K hK
  show K _ _
  refine hK _ _ ?_
  exact rblock_t4 _ _ _ _ _ _ _ _ _ _ _ _ _ _ _ _ _ _ _ _ _ _ _ _ _ _ _ _ _ _ _ _ _ _ _ _ _ _ _ _ _ _ _ _ _ _ _ _ _ _ _ _ _ _ _ _ _ _ _ _ _ _ _ _ _ _ _ _ _ _ _ _ _ _ _ _ _ _ _ _ _ _ _ _ _ _ _ _ _ _ _ _ _ _ _ _ _ _ _ _ _ _ _ _ _ _ _ _ _ _ _ _ _ _ _ _ _ _ _ _ _ _ _ _ _ _ _ _ _ _ _ _ _ _ _ _ _ _ _ _ _ _ _ _ _ _ _ _ _ _ _ _ _ _ _ _ _ _ _ _ _ _ _ _ _ _ _ _ _ _ _ _ _ _ _ _ _ _ _ _ _ _ _ _ _ w.heap.size (w.heap.size + 1) nk (nk + 1) w.heap.size v hv (Sha.sched m 64) WS KS GW.out GK.out w w3 (Lib.hid d2) d4 dk kw t3 t3.size (by omega) (Nat.le_refl _) (by omega)

end Go.Proofs.Ytjekdeikoebmgaa
