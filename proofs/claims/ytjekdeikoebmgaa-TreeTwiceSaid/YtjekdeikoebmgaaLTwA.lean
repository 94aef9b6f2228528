/- Parts of the walk of TreeTwice. Conditions: sizes. -/
import Derived.Test.YtjekdeikoebmgaaArgsG
namespace Go.Proofs.Ytjekdeikoebmgaa
open Go.ChangeShapes Go.WideShapes Go.ChangeAt Go.RowKit Go.Shelf Go.ChangeMaps Tr

/-- The strings, wherever the slice leads to. -/
structure Strs (w : World) (a1 : Option Addr) (cap1 : Nat) (ss : List (List UInt8)) : Prop where
  cap : ss.length ≤ cap1
  at_ : ss ≠ [] → ∃ g o, a1 = some ⟨g, o, none⟩ ∧ SAt w g o ss
theorem Strs.below {w w' : World} {a1 : Option Addr} {cap1 : Nat} {ss : List (List UInt8)} (h : Strs w a1 cap1 ss) (hb : Below w.heap.size w w') : Strs w' a1 cap1 ss := ⟨h.cap, fun hne => by
  obtain ⟨g, o, h1, h2⟩ := h.at_ hne
  exact ⟨g, o, h1, h2.below hb⟩⟩
theorem Strs.arg {w : World} {a1 : Option Addr} {cap1 : Nat} {ss : List (List UInt8)} (h : Strs w a1 cap1 ss) : SArg w (.slice a1 ss.length cap1) ss := ⟨a1, cap1, rfl, h.cap, h.at_⟩
theorem Strs.take {w : World} {a1 : Option Addr} {cap1 : Nat} {ss : List (List UInt8)} (h : Strs w a1 cap1 ss) (k : Nat) (hk : k ≤ ss.length) : SArg w (.slice a1 k cap1) (ss.take k) := by
  have hl : (ss.take k).length = k := by rw [List.length_take]; omega
  exact ⟨a1, cap1, by rw [hl], by have := h.cap; omega, fun hne => by
    obtain ⟨g, o, h1, h2⟩ := h.at_ (by rintro rfl; simp at hne)
    exact ⟨g, o, h1, h2.take k⟩⟩
theorem slice_first (a1 : Option Addr) (n cap k : Nat) (hk : k ≤ n) (hc : n ≤ cap) (w : World) : (Instr.sliceAt 22 (.slice a1 n cap) none (some (.int .i64 k)) none).run Try.prog w = .ok (.slice a1 k cap) w := by
  have e0 : (k : Int) ≤ (cap : Int) := by omega
  cases a1 with
  | none => go_simp
  | some p => go_simp

set_option maxRecDepth 100000 in
set_option maxHeartbeats 2000000 in
theorem tw_r5 (u0 u1 u2 u3 u4 u5 u6 u11 u12 u13 u14 u15 u16 u17 u18 u19 u20 u21 u22 u23 u24 u25 u26 u27 u28 u29 u30 u31 u32 u33 u34 u35 u36 u37 u38 u39 u40 u41 u42 u43 u44 u45 u46 u47 u48 u49 u50 u51 u52 u53 u54 u55 u56 u57 u58 u59 u60 u61 u62 u63 u64 u65 u66 u67 u68 u69 u70 u71 u72 u73 u74 u75 u76 u77 u78 u79 u80 u81 u82 u83 u84 u85 u86 u87 u88 u89 u90 u91 u92 u93 u94 u95 u96 u97 u98 u99 u100 u101 u102 u103 u104 u105 u106 u107 u108 u109 u110 u111 u112 u113 u114 u115 u116 u117 u118 u119 u120 u121 u122 u123 u124 u125 u126 u127 u128 u129 u130 u131 u132 u133 u134 u135 u136 u137 u138 u139 u140 u141 u142 u143 u144 u145 u146 u147 u148 u149 u150 u151 u152 u153 u154 u155 u156 u157 u158 u159 u160 u161 u162 u163 u164 u165 u166 u167 : Value) (a1 : Option Addr) (cap1 m n : Nat) (ss : List (List UInt8)) (w : World) (hS : Small ss) (hA : Strs w a1 cap1 ss) (hk : n ≤ ss.length) (Q : Exit → Act → World → Prop)
    (h : ∀ (y38 y39 y40 y41 y42 y43 : Value) (b : Nat) (w' : World), Blk w' b (hdrow (n : Int) (root (ss.take n))) 38 → Below w.heap.size w w' → Q .normal ⟨(u0 :: u1 :: u2 :: u3 :: u4 :: u5 :: u6 :: (.bool true) :: (.slice a1 ss.length cap1) :: (.int .i64 (m : Int)) :: (.int .i64 (n : Int)) :: (.pointer (some ⟨b, 0, none⟩)) :: u12 :: u13 :: u14 :: u15 :: u16 :: u17 :: u18 :: u19 :: u20 :: u21 :: u22 :: u23 :: u24 :: u25 :: u26 :: u27 :: u28 :: u29 :: u30 :: u31 :: u32 :: u33 :: u34 :: u35 :: u36 :: u37 :: y38 :: y39 :: y40 :: y41 :: y42 :: y43 :: u44 :: u45 :: u46 :: u47 :: u48 :: u49 :: u50 :: u51 :: u52 :: u53 :: u54 :: u55 :: u56 :: u57 :: u58 :: u59 :: u60 :: u61 :: u62 :: u63 :: u64 :: u65 :: u66 :: u67 :: u68 :: u69 :: u70 :: u71 :: u72 :: u73 :: u74 :: u75 :: u76 :: u77 :: u78 :: u79 :: u80 :: u81 :: u82 :: u83 :: u84 :: u85 :: u86 :: u87 :: u88 :: u89 :: u90 :: u91 :: u92 :: u93 :: u94 :: u95 :: u96 :: u97 :: u98 :: u99 :: u100 :: u101 :: u102 :: u103 :: u104 :: u105 :: u106 :: u107 :: u108 :: u109 :: u110 :: u111 :: u112 :: u113 :: u114 :: u115 :: u116 :: u117 :: u118 :: u119 :: u120 :: u121 :: u122 :: u123 :: u124 :: u125 :: u126 :: u127 :: u128 :: u129 :: u130 :: u131 :: u132 :: u133 :: u134 :: u135 :: u136 :: u137 :: u138 :: u139 :: u140 :: u141 :: u142 :: u143 :: u144 :: u145 :: u146 :: u147 :: u148 :: u149 :: u150 :: u151 :: u152 :: u153 :: u154 :: u155 :: u156 :: u157 :: u158 :: u159 :: u160 :: u161 :: u162 :: u163 :: u164 :: u165 :: u166 :: u167 :: []).toArray, []⟩ w') : Code.wp Try.prog (regionIn Try.f11 5) Q ⟨(u0 :: u1 :: u2 :: u3 :: u4 :: u5 :: u6 :: (.bool true) :: (.slice a1 ss.length cap1) :: (.int .i64 (m : Int)) :: (.int .i64 (n : Int)) :: u11 :: u12 :: u13 :: u14 :: u15 :: u16 :: u17 :: u18 :: u19 :: u20 :: u21 :: u22 :: u23 :: u24 :: u25 :: u26 :: u27 :: u28 :: u29 :: u30 :: u31 :: u32 :: u33 :: u34 :: u35 :: u36 :: u37 :: u38 :: u39 :: u40 :: u41 :: u42 :: u43 :: u44 :: u45 :: u46 :: u47 :: u48 :: u49 :: u50 :: u51 :: u52 :: u53 :: u54 :: u55 :: u56 :: u57 :: u58 :: u59 :: u60 :: u61 :: u62 :: u63 :: u64 :: u65 :: u66 :: u67 :: u68 :: u69 :: u70 :: u71 :: u72 :: u73 :: u74 :: u75 :: u76 :: u77 :: u78 :: u79 :: u80 :: u81 :: u82 :: u83 :: u84 :: u85 :: u86 :: u87 :: u88 :: u89 :: u90 :: u91 :: u92 :: u93 :: u94 :: u95 :: u96 :: u97 :: u98 :: u99 :: u100 :: u101 :: u102 :: u103 :: u104 :: u105 :: u106 :: u107 :: u108 :: u109 :: u110 :: u111 :: u112 :: u113 :: u114 :: u115 :: u116 :: u117 :: u118 :: u119 :: u120 :: u121 :: u122 :: u123 :: u124 :: u125 :: u126 :: u127 :: u128 :: u129 :: u130 :: u131 :: u132 :: u133 :: u134 :: u135 :: u136 :: u137 :: u138 :: u139 :: u140 :: u141 :: u142 :: u143 :: u144 :: u145 :: u146 :: u147 :: u148 :: u149 :: u150 :: u151 :: u152 :: u153 :: u154 :: u155 :: u156 :: u157 :: u158 :: u159 :: u160 :: u161 :: u162 :: u163 :: u164 :: u165 :: u166 :: u167 :: []).toArray, []⟩ w := by
  have HX := Lib.hid h
  have hl := hS.len
  have hcc := hA.cap
  have R1 := Lib.hid (Root_any (ss.take n).length (ss.take n) (.slice a1 n cap1) w (Nat.le_refl _) (hS.take n) (hA.take n hk))
  have r32 := root_length (ss.take n)
  have hsl := slice_first a1 ss.length cap1 n hk hcc
  clear h hS hA
  generalize root (ss.take n) = x at *
  conv => arg 2; whnf
  go_wp2_with fail
  refine R1.out.mono ?_; rintro e w1 ⟨rfl, hb1⟩
  have HZ0 := Lib.hid zeroHead
  have HI := Lib.hid (hinfoD (n : Int) x r32)
  have HO := Lib.hid (hdrow_one (n : Int) x)
  have HZ := Lib.hid (show (hdrow 0 (List.replicate 32 0)).size = (hdrow (n : Int) x).size by rw [hdrow_size _ r32, hdrow_size _ hz_len2])
  generalize hdrow 0 (List.replicate 32 0) = Z at *
  have N1 := Lib.hid (fun w' (h : w' = w1.alloc (.cells Z 38)) => (h ▸ Blk.new w1 Z 38 : Blk w' w1.heap.size Z 38))
  have N2 := Lib.hid (Blk.new w1 (hdrow (n : Int) x) 38)
  have hB := hb1.alloc hb1.size (.cells (hdrow (n : Int) x) 38)
  clear R1 hb1
  go_wp2_with (first
    | (refine wpList_build_head (by kernel_rfl) (.tmp 38) (.tmp 42) rfl (n : Int) x r32 (by rfl) (by rfl) ?_; go_frame)
    | (refine wpList_alloc_row rfl 38 rfl Z HZ0.out ?_; go_frame; try simp only [World.size_alloc])
    | (refine wpList_store_row rfl 38 (.tmp 11) (.tmp 43) rfl w1.heap.size (hdrow (n : Int) x) rfl rfl 38 _ (N1.out _ rfl) HI.out HZ.out HO.out ?_; go_frame; rw [World.setRow_alloc_new]))
  exact HX.out _ _ _ _ _ _ _ _ N2.out hB

set_option maxRecDepth 100000 in
set_option maxHeartbeats 2000000 in
theorem tw_r6 (u0 u1 u2 u3 u4 u5 u6 u11 u12 u13 u14 u15 u16 u17 u18 u19 u20 u21 u22 u23 u24 u25 u26 u27 u28 u29 u30 u31 u32 u33 u34 u35 u36 u37 u38 u39 u40 u41 u42 u43 u44 u45 u46 u47 u48 u49 u50 u51 u52 u53 u54 u55 u56 u57 u58 u59 u60 u61 u62 u63 u64 u65 u66 u67 u68 u69 u70 u71 u72 u73 u74 u75 u76 u77 u78 u79 u80 u81 u82 u83 u84 u85 u86 u87 u88 u89 u90 u91 u92 u93 u94 u95 u96 u97 u98 u99 u100 u101 u102 u103 u104 u105 u106 u107 u108 u109 u110 u111 u112 u113 u114 u115 u116 u117 u118 u119 u120 u121 u122 u123 u124 u125 u126 u127 u128 u129 u130 u131 u132 u133 u134 u135 u136 u137 u138 u139 u140 u141 u142 u143 u144 u145 u146 u147 u148 u149 u150 u151 u152 u153 u154 u155 u156 u157 u158 u159 u160 u161 u162 u163 u164 u165 u166 u167 : Value) (a1 : Option Addr) (cap1 m n : Nat) (ss : List (List UInt8)) (w : World) (hS : Small ss) (hA : Strs w a1 cap1 ss) (hk : m ≤ ss.length) (Q : Exit → Act → World → Prop)
    (h : ∀ (y44 y45 y46 y47 y48 y49 : Value) (b : Nat) (w' : World), Blk w' b (hdrow (m : Int) (root (ss.take m))) 38 → Below w.heap.size w w' → Q .normal ⟨(u0 :: u1 :: u2 :: u3 :: u4 :: u5 :: u6 :: (.bool true) :: (.slice a1 ss.length cap1) :: (.int .i64 (m : Int)) :: (.int .i64 (n : Int)) :: u11 :: (.pointer (some ⟨b, 0, none⟩)) :: u13 :: u14 :: u15 :: u16 :: u17 :: u18 :: u19 :: u20 :: u21 :: u22 :: u23 :: u24 :: u25 :: u26 :: u27 :: u28 :: u29 :: u30 :: u31 :: u32 :: u33 :: u34 :: u35 :: u36 :: u37 :: u38 :: u39 :: u40 :: u41 :: u42 :: u43 :: y44 :: y45 :: y46 :: y47 :: y48 :: y49 :: u50 :: u51 :: u52 :: u53 :: u54 :: u55 :: u56 :: u57 :: u58 :: u59 :: u60 :: u61 :: u62 :: u63 :: u64 :: u65 :: u66 :: u67 :: u68 :: u69 :: u70 :: u71 :: u72 :: u73 :: u74 :: u75 :: u76 :: u77 :: u78 :: u79 :: u80 :: u81 :: u82 :: u83 :: u84 :: u85 :: u86 :: u87 :: u88 :: u89 :: u90 :: u91 :: u92 :: u93 :: u94 :: u95 :: u96 :: u97 :: u98 :: u99 :: u100 :: u101 :: u102 :: u103 :: u104 :: u105 :: u106 :: u107 :: u108 :: u109 :: u110 :: u111 :: u112 :: u113 :: u114 :: u115 :: u116 :: u117 :: u118 :: u119 :: u120 :: u121 :: u122 :: u123 :: u124 :: u125 :: u126 :: u127 :: u128 :: u129 :: u130 :: u131 :: u132 :: u133 :: u134 :: u135 :: u136 :: u137 :: u138 :: u139 :: u140 :: u141 :: u142 :: u143 :: u144 :: u145 :: u146 :: u147 :: u148 :: u149 :: u150 :: u151 :: u152 :: u153 :: u154 :: u155 :: u156 :: u157 :: u158 :: u159 :: u160 :: u161 :: u162 :: u163 :: u164 :: u165 :: u166 :: u167 :: []).toArray, []⟩ w') : Code.wp Try.prog (regionIn Try.f11 6) Q ⟨(u0 :: u1 :: u2 :: u3 :: u4 :: u5 :: u6 :: (.bool true) :: (.slice a1 ss.length cap1) :: (.int .i64 (m : Int)) :: (.int .i64 (n : Int)) :: u11 :: u12 :: u13 :: u14 :: u15 :: u16 :: u17 :: u18 :: u19 :: u20 :: u21 :: u22 :: u23 :: u24 :: u25 :: u26 :: u27 :: u28 :: u29 :: u30 :: u31 :: u32 :: u33 :: u34 :: u35 :: u36 :: u37 :: u38 :: u39 :: u40 :: u41 :: u42 :: u43 :: u44 :: u45 :: u46 :: u47 :: u48 :: u49 :: u50 :: u51 :: u52 :: u53 :: u54 :: u55 :: u56 :: u57 :: u58 :: u59 :: u60 :: u61 :: u62 :: u63 :: u64 :: u65 :: u66 :: u67 :: u68 :: u69 :: u70 :: u71 :: u72 :: u73 :: u74 :: u75 :: u76 :: u77 :: u78 :: u79 :: u80 :: u81 :: u82 :: u83 :: u84 :: u85 :: u86 :: u87 :: u88 :: u89 :: u90 :: u91 :: u92 :: u93 :: u94 :: u95 :: u96 :: u97 :: u98 :: u99 :: u100 :: u101 :: u102 :: u103 :: u104 :: u105 :: u106 :: u107 :: u108 :: u109 :: u110 :: u111 :: u112 :: u113 :: u114 :: u115 :: u116 :: u117 :: u118 :: u119 :: u120 :: u121 :: u122 :: u123 :: u124 :: u125 :: u126 :: u127 :: u128 :: u129 :: u130 :: u131 :: u132 :: u133 :: u134 :: u135 :: u136 :: u137 :: u138 :: u139 :: u140 :: u141 :: u142 :: u143 :: u144 :: u145 :: u146 :: u147 :: u148 :: u149 :: u150 :: u151 :: u152 :: u153 :: u154 :: u155 :: u156 :: u157 :: u158 :: u159 :: u160 :: u161 :: u162 :: u163 :: u164 :: u165 :: u166 :: u167 :: []).toArray, []⟩ w := by
  have HX := Lib.hid h
  have hl := hS.len
  have hcc := hA.cap
  have R1 := Lib.hid (Root_any (ss.take m).length (ss.take m) (.slice a1 m cap1) w (Nat.le_refl _) (hS.take m) (hA.take m hk))
  have r32 := root_length (ss.take m)
  have hsl := slice_first a1 ss.length cap1 m hk hcc
  clear h hS hA
  generalize root (ss.take m) = x at *
  conv => arg 2; whnf
  go_wp2_with fail
  refine R1.out.mono ?_; rintro e w1 ⟨rfl, hb1⟩
  have HZ0 := Lib.hid zeroHead
  have HI := Lib.hid (hinfoD (m : Int) x r32)
  have HO := Lib.hid (hdrow_one (m : Int) x)
  have HZ := Lib.hid (show (hdrow 0 (List.replicate 32 0)).size = (hdrow (m : Int) x).size by rw [hdrow_size _ r32, hdrow_size _ hz_len2])
  generalize hdrow 0 (List.replicate 32 0) = Z at *
  have N1 := Lib.hid (fun w' (h : w' = w1.alloc (.cells Z 38)) => (h ▸ Blk.new w1 Z 38 : Blk w' w1.heap.size Z 38))
  have N2 := Lib.hid (Blk.new w1 (hdrow (m : Int) x) 38)
  have hB := hb1.alloc hb1.size (.cells (hdrow (m : Int) x) 38)
  clear R1 hb1
  go_wp2_with (first
    | (refine wpList_build_head (by kernel_rfl) (.tmp 44) (.tmp 48) rfl (m : Int) x r32 (by rfl) (by rfl) ?_; go_frame)
    | (refine wpList_alloc_row rfl 38 rfl Z HZ0.out ?_; go_frame; try simp only [World.size_alloc])
    | (refine wpList_store_row rfl 38 (.tmp 12) (.tmp 49) rfl w1.heap.size (hdrow (m : Int) x) rfl rfl 38 _ (N1.out _ rfl) HI.out HZ.out HO.out ?_; go_frame; rw [World.setRow_alloc_new]))
  exact HX.out _ _ _ _ _ _ _ _ N2.out hB

set_option maxRecDepth 100000 in
set_option maxHeartbeats 2000000 in
theorem tw_r7 (u0 u1 u2 u3 u4 u5 u6 u11 u12 u13 u14 u15 u16 u17 u18 u19 u20 u21 u22 u23 u24 u25 u26 u27 u28 u29 u30 u31 u32 u33 u34 u35 u36 u37 u38 u39 u40 u41 u42 u43 u44 u45 u46 u47 u48 u49 u50 u51 u52 u53 u54 u55 u56 u57 u58 u59 u60 u61 u62 u63 u64 u65 u66 u67 u68 u69 u70 u71 u72 u73 u74 u75 u76 u77 u78 u79 u80 u81 u82 u83 u84 u85 u86 u87 u88 u89 u90 u91 u92 u93 u94 u95 u96 u97 u98 u99 u100 u101 u102 u103 u104 u105 u106 u107 u108 u109 u110 u111 u112 u113 u114 u115 u116 u117 u118 u119 u120 u121 u122 u123 u124 u125 u126 u127 u128 u129 u130 u131 u132 u133 u134 u135 u136 u137 u138 u139 u140 u141 u142 u143 u144 u145 u146 u147 u148 u149 u150 u151 u152 u153 u154 u155 u156 u157 u158 u159 u160 u161 u162 u163 u164 u165 u166 u167 : Value) (a1 : Option Addr) (cap1 m n : Nat) (ss : List (List UInt8)) (w : World) (hS : Small ss) (hA : Strs w a1 cap1 ss) (Q : Exit → Act → World → Prop)
    (h : ∀ (y50 y51 y52 y53 y54 : Value) (b : Nat) (w' : World), Blk w' b (hdrow (ss.length : Int) (root ss)) 38 → Below w.heap.size w w' → Q .normal ⟨(u0 :: u1 :: u2 :: u3 :: u4 :: u5 :: u6 :: (.bool true) :: (.slice a1 ss.length cap1) :: (.int .i64 (m : Int)) :: (.int .i64 (n : Int)) :: u11 :: u12 :: (.pointer (some ⟨b, 0, none⟩)) :: u14 :: u15 :: u16 :: u17 :: u18 :: u19 :: u20 :: u21 :: u22 :: u23 :: u24 :: u25 :: u26 :: u27 :: u28 :: u29 :: u30 :: u31 :: u32 :: u33 :: u34 :: u35 :: u36 :: u37 :: u38 :: u39 :: u40 :: u41 :: u42 :: u43 :: u44 :: u45 :: u46 :: u47 :: u48 :: u49 :: y50 :: y51 :: y52 :: y53 :: y54 :: u55 :: u56 :: u57 :: u58 :: u59 :: u60 :: u61 :: u62 :: u63 :: u64 :: u65 :: u66 :: u67 :: u68 :: u69 :: u70 :: u71 :: u72 :: u73 :: u74 :: u75 :: u76 :: u77 :: u78 :: u79 :: u80 :: u81 :: u82 :: u83 :: u84 :: u85 :: u86 :: u87 :: u88 :: u89 :: u90 :: u91 :: u92 :: u93 :: u94 :: u95 :: u96 :: u97 :: u98 :: u99 :: u100 :: u101 :: u102 :: u103 :: u104 :: u105 :: u106 :: u107 :: u108 :: u109 :: u110 :: u111 :: u112 :: u113 :: u114 :: u115 :: u116 :: u117 :: u118 :: u119 :: u120 :: u121 :: u122 :: u123 :: u124 :: u125 :: u126 :: u127 :: u128 :: u129 :: u130 :: u131 :: u132 :: u133 :: u134 :: u135 :: u136 :: u137 :: u138 :: u139 :: u140 :: u141 :: u142 :: u143 :: u144 :: u145 :: u146 :: u147 :: u148 :: u149 :: u150 :: u151 :: u152 :: u153 :: u154 :: u155 :: u156 :: u157 :: u158 :: u159 :: u160 :: u161 :: u162 :: u163 :: u164 :: u165 :: u166 :: u167 :: []).toArray, []⟩ w') : Code.wp Try.prog (regionIn Try.f11 7) Q ⟨(u0 :: u1 :: u2 :: u3 :: u4 :: u5 :: u6 :: (.bool true) :: (.slice a1 ss.length cap1) :: (.int .i64 (m : Int)) :: (.int .i64 (n : Int)) :: u11 :: u12 :: u13 :: u14 :: u15 :: u16 :: u17 :: u18 :: u19 :: u20 :: u21 :: u22 :: u23 :: u24 :: u25 :: u26 :: u27 :: u28 :: u29 :: u30 :: u31 :: u32 :: u33 :: u34 :: u35 :: u36 :: u37 :: u38 :: u39 :: u40 :: u41 :: u42 :: u43 :: u44 :: u45 :: u46 :: u47 :: u48 :: u49 :: u50 :: u51 :: u52 :: u53 :: u54 :: u55 :: u56 :: u57 :: u58 :: u59 :: u60 :: u61 :: u62 :: u63 :: u64 :: u65 :: u66 :: u67 :: u68 :: u69 :: u70 :: u71 :: u72 :: u73 :: u74 :: u75 :: u76 :: u77 :: u78 :: u79 :: u80 :: u81 :: u82 :: u83 :: u84 :: u85 :: u86 :: u87 :: u88 :: u89 :: u90 :: u91 :: u92 :: u93 :: u94 :: u95 :: u96 :: u97 :: u98 :: u99 :: u100 :: u101 :: u102 :: u103 :: u104 :: u105 :: u106 :: u107 :: u108 :: u109 :: u110 :: u111 :: u112 :: u113 :: u114 :: u115 :: u116 :: u117 :: u118 :: u119 :: u120 :: u121 :: u122 :: u123 :: u124 :: u125 :: u126 :: u127 :: u128 :: u129 :: u130 :: u131 :: u132 :: u133 :: u134 :: u135 :: u136 :: u137 :: u138 :: u139 :: u140 :: u141 :: u142 :: u143 :: u144 :: u145 :: u146 :: u147 :: u148 :: u149 :: u150 :: u151 :: u152 :: u153 :: u154 :: u155 :: u156 :: u157 :: u158 :: u159 :: u160 :: u161 :: u162 :: u163 :: u164 :: u165 :: u166 :: u167 :: []).toArray, []⟩ w := by
  have HX := Lib.hid h
  have hl := hS.len
  have hcc := hA.cap
  have R1 := Lib.hid (Root_any ss.length ss (.slice a1 ss.length cap1) w (Nat.le_refl _) hS hA.arg)
  have r32 := root_length ss
  clear h hS hA
  generalize root ss = x at *
  conv => arg 2; whnf
  go_wp2_with fail
  refine R1.out.mono ?_; rintro e w1 ⟨rfl, hb1⟩
  have HZ0 := Lib.hid zeroHead
  have HI := Lib.hid (hinfoD (ss.length : Int) x r32)
  have HO := Lib.hid (hdrow_one (ss.length : Int) x)
  have HZ := Lib.hid (show (hdrow 0 (List.replicate 32 0)).size = (hdrow (ss.length : Int) x).size by rw [hdrow_size _ r32, hdrow_size _ hz_len2])
  generalize hdrow 0 (List.replicate 32 0) = Z at *
  have N1 := Lib.hid (fun w' (h : w' = w1.alloc (.cells Z 38)) => (h ▸ Blk.new w1 Z 38 : Blk w' w1.heap.size Z 38))
  have N2 := Lib.hid (Blk.new w1 (hdrow (ss.length : Int) x) 38)
  have hB := hb1.alloc hb1.size (.cells (hdrow (ss.length : Int) x) 38)
  clear R1 hb1
  go_wp2_with (first
    | (refine wpList_build_head (by kernel_rfl) (.tmp 51) (.tmp 53) rfl (ss.length : Int) x r32 (by rfl) (by rfl) ?_; go_frame)
    | (refine wpList_alloc_row rfl 38 rfl Z HZ0.out ?_; go_frame; try simp only [World.size_alloc])
    | (refine wpList_store_row rfl 38 (.tmp 13) (.tmp 54) rfl w1.heap.size (hdrow (ss.length : Int) x) rfl rfl 38 _ (N1.out _ rfl) HI.out HZ.out HO.out ?_; go_frame; rw [World.setRow_alloc_new]))
  exact HX.out _ _ _ _ _ _ _ N2.out hB

set_option maxRecDepth 100000 in
set_option maxHeartbeats 2000000 in
theorem tw_r8 (u0 u1 u2 u3 u4 u5 u6 u11 u12 u13 u14 u15 u16 u17 u18 u19 u20 u21 u22 u23 u24 u25 u26 u27 u28 u29 u30 u31 u32 u33 u34 u35 u36 u37 u38 u39 u40 u41 u42 u43 u44 u45 u46 u47 u48 u49 u50 u51 u52 u53 u54 u55 u56 u57 u58 u59 u60 u61 u62 u63 u64 u65 u66 u67 u68 u69 u70 u71 u72 u73 u74 u75 u76 u77 u78 u79 u80 u81 u82 u83 u84 u85 u86 u87 u88 u89 u90 u91 u92 u93 u94 u95 u96 u97 u98 u99 u100 u101 u102 u103 u104 u105 u106 u107 u108 u109 u110 u111 u112 u113 u114 u115 u116 u117 u118 u119 u120 u121 u122 u123 u124 u125 u126 u127 u128 u129 u130 u131 u132 u133 u134 u135 u136 u137 u138 u139 u140 u141 u142 u143 u144 u145 u146 u147 u148 u149 u150 u151 u152 u153 u154 u155 u156 u157 u158 u159 u160 u161 u162 u163 u164 u165 u166 u167 : Value) (a1 : Option Addr) (cap1 m n : Nat) (ss hs : List (List UInt8)) (w : World) (hA : Strs w a1 cap1 ss) (hk : m ≤ ss.length)
    (P : Calls Try.prog 31 #[.slice a1 m cap1, .int .i64 (n : Int)] w (PathQ w hs true)) (Q : Exit → Act → World → Prop)
    (h : ∀ (y55 y56 y57 y58 y59 y60 y61 y62 v : Value) (w' : World), HArg w' v hs → Below w.heap.size w w' → Q .normal ⟨(u0 :: u1 :: u2 :: u3 :: u4 :: u5 :: u6 :: (.bool true) :: (.slice a1 ss.length cap1) :: (.int .i64 (m : Int)) :: (.int .i64 (n : Int)) :: u11 :: u12 :: u13 :: v :: (.bool true) :: u16 :: u17 :: u18 :: u19 :: u20 :: u21 :: u22 :: u23 :: u24 :: u25 :: u26 :: u27 :: u28 :: u29 :: u30 :: u31 :: u32 :: u33 :: u34 :: u35 :: u36 :: u37 :: u38 :: u39 :: u40 :: u41 :: u42 :: u43 :: u44 :: u45 :: u46 :: u47 :: u48 :: u49 :: u50 :: u51 :: u52 :: u53 :: u54 :: y55 :: y56 :: y57 :: y58 :: y59 :: y60 :: y61 :: y62 :: u63 :: u64 :: u65 :: u66 :: u67 :: u68 :: u69 :: u70 :: u71 :: u72 :: u73 :: u74 :: u75 :: u76 :: u77 :: u78 :: u79 :: u80 :: u81 :: u82 :: u83 :: u84 :: u85 :: u86 :: u87 :: u88 :: u89 :: u90 :: u91 :: u92 :: u93 :: u94 :: u95 :: u96 :: u97 :: u98 :: u99 :: u100 :: u101 :: u102 :: u103 :: u104 :: u105 :: u106 :: u107 :: u108 :: u109 :: u110 :: u111 :: u112 :: u113 :: u114 :: u115 :: u116 :: u117 :: u118 :: u119 :: u120 :: u121 :: u122 :: u123 :: u124 :: u125 :: u126 :: u127 :: u128 :: u129 :: u130 :: u131 :: u132 :: u133 :: u134 :: u135 :: u136 :: u137 :: u138 :: u139 :: u140 :: u141 :: u142 :: u143 :: u144 :: u145 :: u146 :: u147 :: u148 :: u149 :: u150 :: u151 :: u152 :: u153 :: u154 :: u155 :: u156 :: u157 :: u158 :: u159 :: u160 :: u161 :: u162 :: u163 :: u164 :: u165 :: u166 :: u167 :: []).toArray, []⟩ w') : Code.wp Try.prog (regionIn Try.f11 8) Q ⟨(u0 :: u1 :: u2 :: u3 :: u4 :: u5 :: u6 :: (.bool true) :: (.slice a1 ss.length cap1) :: (.int .i64 (m : Int)) :: (.int .i64 (n : Int)) :: u11 :: u12 :: u13 :: u14 :: u15 :: u16 :: u17 :: u18 :: u19 :: u20 :: u21 :: u22 :: u23 :: u24 :: u25 :: u26 :: u27 :: u28 :: u29 :: u30 :: u31 :: u32 :: u33 :: u34 :: u35 :: u36 :: u37 :: u38 :: u39 :: u40 :: u41 :: u42 :: u43 :: u44 :: u45 :: u46 :: u47 :: u48 :: u49 :: u50 :: u51 :: u52 :: u53 :: u54 :: u55 :: u56 :: u57 :: u58 :: u59 :: u60 :: u61 :: u62 :: u63 :: u64 :: u65 :: u66 :: u67 :: u68 :: u69 :: u70 :: u71 :: u72 :: u73 :: u74 :: u75 :: u76 :: u77 :: u78 :: u79 :: u80 :: u81 :: u82 :: u83 :: u84 :: u85 :: u86 :: u87 :: u88 :: u89 :: u90 :: u91 :: u92 :: u93 :: u94 :: u95 :: u96 :: u97 :: u98 :: u99 :: u100 :: u101 :: u102 :: u103 :: u104 :: u105 :: u106 :: u107 :: u108 :: u109 :: u110 :: u111 :: u112 :: u113 :: u114 :: u115 :: u116 :: u117 :: u118 :: u119 :: u120 :: u121 :: u122 :: u123 :: u124 :: u125 :: u126 :: u127 :: u128 :: u129 :: u130 :: u131 :: u132 :: u133 :: u134 :: u135 :: u136 :: u137 :: u138 :: u139 :: u140 :: u141 :: u142 :: u143 :: u144 :: u145 :: u146 :: u147 :: u148 :: u149 :: u150 :: u151 :: u152 :: u153 :: u154 :: u155 :: u156 :: u157 :: u158 :: u159 :: u160 :: u161 :: u162 :: u163 :: u164 :: u165 :: u166 :: u167 :: []).toArray, []⟩ w := by
  have HX := Lib.hid h
  have hcc := hA.cap
  have HP := Lib.hid P
  have hsl := slice_first a1 ss.length cap1 m hk hcc
  clear h P hA
  conv => arg 2; whnf
  go_wp2_with fail
  refine HP.out.mono ?_; rintro e w1 ⟨v, rfl, hO, hb1⟩
  have hP := Lib.hid hO.arg
  clear hO HP
  go_wp2_with fail
  exact HX.out _ _ _ _ _ _ _ _ v _ hP.out hb1

set_option maxRecDepth 100000 in
set_option maxHeartbeats 2000000 in
theorem tw_r9 (u0 u1 u2 u3 u4 u5 u6 u11 u12 u13 u14 u15 u16 u17 u18 u19 u20 u21 u22 u23 u24 u25 u26 u27 u28 u29 u30 u31 u32 u33 u34 u35 u36 u37 u38 u39 u40 u41 u42 u43 u44 u45 u46 u47 u48 u49 u50 u51 u52 u53 u54 u55 u56 u57 u58 u59 u60 u61 u62 u63 u64 u65 u66 u67 u68 u69 u70 u71 u72 u73 u74 u75 u76 u77 u78 u79 u80 u81 u82 u83 u84 u85 u86 u87 u88 u89 u90 u91 u92 u93 u94 u95 u96 u97 u98 u99 u100 u101 u102 u103 u104 u105 u106 u107 u108 u109 u110 u111 u112 u113 u114 u115 u116 u117 u118 u119 u120 u121 u122 u123 u124 u125 u126 u127 u128 u129 u130 u131 u132 u133 u134 u135 u136 u137 u138 u139 u140 u141 u142 u143 u144 u145 u146 u147 u148 u149 u150 u151 u152 u153 u154 u155 u156 u157 u158 u159 u160 u161 u162 u163 u164 u165 u166 u167 : Value) (a1 : Option Addr) (cap1 m n : Nat) (ss hs : List (List UInt8)) (w : World) (hA : Strs w a1 cap1 ss)
    (P : Calls Try.prog 31 #[.slice a1 ss.length cap1, .int .i64 (m : Int)] w (PathQ w hs true)) (Q : Exit → Act → World → Prop)
    (h : ∀ (y63 y64 y65 y66 y67 y68 v : Value) (w' : World), HArg w' v hs → Below w.heap.size w w' → Q .normal ⟨(u0 :: u1 :: u2 :: u3 :: u4 :: u5 :: u6 :: (.bool true) :: (.slice a1 ss.length cap1) :: (.int .i64 (m : Int)) :: (.int .i64 (n : Int)) :: u11 :: u12 :: u13 :: u14 :: u15 :: v :: (.bool true) :: u18 :: u19 :: u20 :: u21 :: u22 :: u23 :: u24 :: u25 :: u26 :: u27 :: u28 :: u29 :: u30 :: u31 :: u32 :: u33 :: u34 :: u35 :: u36 :: u37 :: u38 :: u39 :: u40 :: u41 :: u42 :: u43 :: u44 :: u45 :: u46 :: u47 :: u48 :: u49 :: u50 :: u51 :: u52 :: u53 :: u54 :: u55 :: u56 :: u57 :: u58 :: u59 :: u60 :: u61 :: u62 :: y63 :: y64 :: y65 :: y66 :: y67 :: y68 :: u69 :: u70 :: u71 :: u72 :: u73 :: u74 :: u75 :: u76 :: u77 :: u78 :: u79 :: u80 :: u81 :: u82 :: u83 :: u84 :: u85 :: u86 :: u87 :: u88 :: u89 :: u90 :: u91 :: u92 :: u93 :: u94 :: u95 :: u96 :: u97 :: u98 :: u99 :: u100 :: u101 :: u102 :: u103 :: u104 :: u105 :: u106 :: u107 :: u108 :: u109 :: u110 :: u111 :: u112 :: u113 :: u114 :: u115 :: u116 :: u117 :: u118 :: u119 :: u120 :: u121 :: u122 :: u123 :: u124 :: u125 :: u126 :: u127 :: u128 :: u129 :: u130 :: u131 :: u132 :: u133 :: u134 :: u135 :: u136 :: u137 :: u138 :: u139 :: u140 :: u141 :: u142 :: u143 :: u144 :: u145 :: u146 :: u147 :: u148 :: u149 :: u150 :: u151 :: u152 :: u153 :: u154 :: u155 :: u156 :: u157 :: u158 :: u159 :: u160 :: u161 :: u162 :: u163 :: u164 :: u165 :: u166 :: u167 :: []).toArray, []⟩ w') : Code.wp Try.prog (regionIn Try.f11 9) Q ⟨(u0 :: u1 :: u2 :: u3 :: u4 :: u5 :: u6 :: (.bool true) :: (.slice a1 ss.length cap1) :: (.int .i64 (m : Int)) :: (.int .i64 (n : Int)) :: u11 :: u12 :: u13 :: u14 :: u15 :: u16 :: u17 :: u18 :: u19 :: u20 :: u21 :: u22 :: u23 :: u24 :: u25 :: u26 :: u27 :: u28 :: u29 :: u30 :: u31 :: u32 :: u33 :: u34 :: u35 :: u36 :: u37 :: u38 :: u39 :: u40 :: u41 :: u42 :: u43 :: u44 :: u45 :: u46 :: u47 :: u48 :: u49 :: u50 :: u51 :: u52 :: u53 :: u54 :: u55 :: u56 :: u57 :: u58 :: u59 :: u60 :: u61 :: u62 :: u63 :: u64 :: u65 :: u66 :: u67 :: u68 :: u69 :: u70 :: u71 :: u72 :: u73 :: u74 :: u75 :: u76 :: u77 :: u78 :: u79 :: u80 :: u81 :: u82 :: u83 :: u84 :: u85 :: u86 :: u87 :: u88 :: u89 :: u90 :: u91 :: u92 :: u93 :: u94 :: u95 :: u96 :: u97 :: u98 :: u99 :: u100 :: u101 :: u102 :: u103 :: u104 :: u105 :: u106 :: u107 :: u108 :: u109 :: u110 :: u111 :: u112 :: u113 :: u114 :: u115 :: u116 :: u117 :: u118 :: u119 :: u120 :: u121 :: u122 :: u123 :: u124 :: u125 :: u126 :: u127 :: u128 :: u129 :: u130 :: u131 :: u132 :: u133 :: u134 :: u135 :: u136 :: u137 :: u138 :: u139 :: u140 :: u141 :: u142 :: u143 :: u144 :: u145 :: u146 :: u147 :: u148 :: u149 :: u150 :: u151 :: u152 :: u153 :: u154 :: u155 :: u156 :: u157 :: u158 :: u159 :: u160 :: u161 :: u162 :: u163 :: u164 :: u165 :: u166 :: u167 :: []).toArray, []⟩ w := by
  have HX := Lib.hid h
  have hcc := hA.cap
  have HP := Lib.hid P
  clear h P hA
  conv => arg 2; whnf
  go_wp2_with fail
  refine HP.out.mono ?_; rintro e w1 ⟨v, rfl, hO, hb1⟩
  have hP := Lib.hid hO.arg
  clear hO HP
  go_wp2_with fail
  exact HX.out _ _ _ _ _ _ v _ hP.out hb1

set_option maxRecDepth 100000 in
set_option maxHeartbeats 2000000 in
theorem tw_r10 (u0 u1 u2 u3 u4 u5 u6 u11 u12 u13 u14 u15 u16 u17 u18 u19 u20 u21 u22 u23 u24 u25 u26 u27 u28 u29 u30 u31 u32 u33 u34 u35 u36 u37 u38 u39 u40 u41 u42 u43 u44 u45 u46 u47 u48 u49 u50 u51 u52 u53 u54 u55 u56 u57 u58 u59 u60 u61 u62 u63 u64 u65 u66 u67 u68 u69 u70 u71 u72 u73 u74 u75 u76 u77 u78 u79 u80 u81 u82 u83 u84 u85 u86 u87 u88 u89 u90 u91 u92 u93 u94 u95 u96 u97 u98 u99 u100 u101 u102 u103 u104 u105 u106 u107 u108 u109 u110 u111 u112 u113 u114 u115 u116 u117 u118 u119 u120 u121 u122 u123 u124 u125 u126 u127 u128 u129 u130 u131 u132 u133 u134 u135 u136 u137 u138 u139 u140 u141 u142 u143 u144 u145 u146 u147 u148 u149 u150 u151 u152 u153 u154 u155 u156 u157 u158 u159 u160 u161 u162 u163 u164 u165 u166 u167 : Value) (a1 : Option Addr) (cap1 m n : Nat) (ss hs : List (List UInt8)) (w : World) (hA : Strs w a1 cap1 ss)
    (P : Calls Try.prog 31 #[.slice a1 ss.length cap1, .int .i64 (n : Int)] w (PathQ w hs true)) (Q : Exit → Act → World → Prop)
    (h : ∀ (y69 y70 y71 y72 y73 y74 v : Value) (w' : World), HArg w' v hs → Below w.heap.size w w' → Q .normal ⟨(u0 :: u1 :: u2 :: u3 :: u4 :: u5 :: u6 :: (.bool true) :: (.slice a1 ss.length cap1) :: (.int .i64 (m : Int)) :: (.int .i64 (n : Int)) :: u11 :: u12 :: u13 :: u14 :: u15 :: u16 :: u17 :: v :: (.bool true) :: u20 :: u21 :: u22 :: u23 :: u24 :: u25 :: u26 :: u27 :: u28 :: u29 :: u30 :: u31 :: u32 :: u33 :: u34 :: u35 :: u36 :: u37 :: u38 :: u39 :: u40 :: u41 :: u42 :: u43 :: u44 :: u45 :: u46 :: u47 :: u48 :: u49 :: u50 :: u51 :: u52 :: u53 :: u54 :: u55 :: u56 :: u57 :: u58 :: u59 :: u60 :: u61 :: u62 :: u63 :: u64 :: u65 :: u66 :: u67 :: u68 :: y69 :: y70 :: y71 :: y72 :: y73 :: y74 :: u75 :: u76 :: u77 :: u78 :: u79 :: u80 :: u81 :: u82 :: u83 :: u84 :: u85 :: u86 :: u87 :: u88 :: u89 :: u90 :: u91 :: u92 :: u93 :: u94 :: u95 :: u96 :: u97 :: u98 :: u99 :: u100 :: u101 :: u102 :: u103 :: u104 :: u105 :: u106 :: u107 :: u108 :: u109 :: u110 :: u111 :: u112 :: u113 :: u114 :: u115 :: u116 :: u117 :: u118 :: u119 :: u120 :: u121 :: u122 :: u123 :: u124 :: u125 :: u126 :: u127 :: u128 :: u129 :: u130 :: u131 :: u132 :: u133 :: u134 :: u135 :: u136 :: u137 :: u138 :: u139 :: u140 :: u141 :: u142 :: u143 :: u144 :: u145 :: u146 :: u147 :: u148 :: u149 :: u150 :: u151 :: u152 :: u153 :: u154 :: u155 :: u156 :: u157 :: u158 :: u159 :: u160 :: u161 :: u162 :: u163 :: u164 :: u165 :: u166 :: u167 :: []).toArray, []⟩ w') : Code.wp Try.prog (regionIn Try.f11 10) Q ⟨(u0 :: u1 :: u2 :: u3 :: u4 :: u5 :: u6 :: (.bool true) :: (.slice a1 ss.length cap1) :: (.int .i64 (m : Int)) :: (.int .i64 (n : Int)) :: u11 :: u12 :: u13 :: u14 :: u15 :: u16 :: u17 :: u18 :: u19 :: u20 :: u21 :: u22 :: u23 :: u24 :: u25 :: u26 :: u27 :: u28 :: u29 :: u30 :: u31 :: u32 :: u33 :: u34 :: u35 :: u36 :: u37 :: u38 :: u39 :: u40 :: u41 :: u42 :: u43 :: u44 :: u45 :: u46 :: u47 :: u48 :: u49 :: u50 :: u51 :: u52 :: u53 :: u54 :: u55 :: u56 :: u57 :: u58 :: u59 :: u60 :: u61 :: u62 :: u63 :: u64 :: u65 :: u66 :: u67 :: u68 :: u69 :: u70 :: u71 :: u72 :: u73 :: u74 :: u75 :: u76 :: u77 :: u78 :: u79 :: u80 :: u81 :: u82 :: u83 :: u84 :: u85 :: u86 :: u87 :: u88 :: u89 :: u90 :: u91 :: u92 :: u93 :: u94 :: u95 :: u96 :: u97 :: u98 :: u99 :: u100 :: u101 :: u102 :: u103 :: u104 :: u105 :: u106 :: u107 :: u108 :: u109 :: u110 :: u111 :: u112 :: u113 :: u114 :: u115 :: u116 :: u117 :: u118 :: u119 :: u120 :: u121 :: u122 :: u123 :: u124 :: u125 :: u126 :: u127 :: u128 :: u129 :: u130 :: u131 :: u132 :: u133 :: u134 :: u135 :: u136 :: u137 :: u138 :: u139 :: u140 :: u141 :: u142 :: u143 :: u144 :: u145 :: u146 :: u147 :: u148 :: u149 :: u150 :: u151 :: u152 :: u153 :: u154 :: u155 :: u156 :: u157 :: u158 :: u159 :: u160 :: u161 :: u162 :: u163 :: u164 :: u165 :: u166 :: u167 :: []).toArray, []⟩ w := by
  have HX := Lib.hid h
  have hcc := hA.cap
  have HP := Lib.hid P
  clear h P hA
  conv => arg 2; whnf
  go_wp2_with fail
  refine HP.out.mono ?_; rintro e w1 ⟨v, rfl, hO, hb1⟩
  have hP := Lib.hid hO.arg
  clear hO HP
  go_wp2_with fail
  exact HX.out _ _ _ _ _ _ v _ hP.out hb1

set_option maxRecDepth 100000 in
set_option maxHeartbeats 2000000 in
theorem tw_r15 (u0 u1 u2 u3 u4 u5 u6 u11 u12 u13 u14 u15 u16 u17 u18 u19 u20 u21 u22 u23 u24 u25 u26 u27 u28 u29 u30 u31 u32 u33 u34 u35 u36 u37 u38 u39 u40 u41 u42 u43 u44 u45 u46 u47 u48 u49 u50 u51 u52 u53 u54 u55 u56 u57 u58 u59 u60 u61 u62 u63 u64 u65 u66 u67 u68 u69 u70 u71 u72 u73 u74 u75 u76 u77 u78 u79 u80 u81 u82 u83 u84 u85 u86 u87 u88 u89 u90 u91 u92 u93 u94 u95 u96 u97 u98 u99 u100 u101 u102 u103 u104 u105 u106 u107 u108 u109 u110 u111 u112 u113 u114 u115 u116 u117 u118 u119 u120 u121 u122 u123 u124 u125 u126 u127 u128 u129 u130 u131 u132 u133 u134 u135 u136 u137 u138 u139 u140 u141 u142 u143 u144 u145 u146 u147 u148 u149 u150 u151 u152 u153 u154 u155 u156 u157 u158 u159 u160 u161 u162 u163 u164 u165 u166 u167 : Value) (a1 : Option Addr) (cap1 m n : Nat) (ss hs : List (List UInt8)) (w : World) (hA : Strs w a1 cap1 ss) (hk : m ≤ ss.length) (hl : ss.length ≤ 4398046511000) (hn : 1 ≤ n) (hnl : n ≤ ss.length)
    (P : Calls Try.prog 21 #[.slice a1 m cap1, .int .i64 ((n : Int) - 1)] w (PathQ w hs true)) (Q : Exit → Act → World → Prop)
    (h : ∀ (y109 y110 y111 y112 y113 y114 y115 y116 y117 v : Value) (w' : World), HArg w' v hs → Below w.heap.size w w' → Q .normal ⟨(u0 :: u1 :: u2 :: u3 :: u4 :: u5 :: u6 :: (.bool true) :: (.slice a1 ss.length cap1) :: (.int .i64 (m : Int)) :: (.int .i64 (n : Int)) :: u11 :: u12 :: u13 :: u14 :: u15 :: u16 :: u17 :: u18 :: u19 :: v :: (.bool true) :: u22 :: u23 :: u24 :: u25 :: u26 :: u27 :: u28 :: u29 :: u30 :: u31 :: u32 :: u33 :: u34 :: u35 :: u36 :: u37 :: u38 :: u39 :: u40 :: u41 :: u42 :: u43 :: u44 :: u45 :: u46 :: u47 :: u48 :: u49 :: u50 :: u51 :: u52 :: u53 :: u54 :: u55 :: u56 :: u57 :: u58 :: u59 :: u60 :: u61 :: u62 :: u63 :: u64 :: u65 :: u66 :: u67 :: u68 :: u69 :: u70 :: u71 :: u72 :: u73 :: u74 :: u75 :: u76 :: u77 :: u78 :: u79 :: u80 :: u81 :: u82 :: u83 :: u84 :: u85 :: u86 :: u87 :: u88 :: u89 :: u90 :: u91 :: u92 :: u93 :: u94 :: u95 :: u96 :: u97 :: u98 :: u99 :: u100 :: u101 :: u102 :: u103 :: u104 :: u105 :: u106 :: u107 :: u108 :: y109 :: y110 :: y111 :: y112 :: y113 :: y114 :: y115 :: y116 :: y117 :: u118 :: u119 :: u120 :: u121 :: u122 :: u123 :: u124 :: u125 :: u126 :: u127 :: u128 :: u129 :: u130 :: u131 :: u132 :: u133 :: u134 :: u135 :: u136 :: u137 :: u138 :: u139 :: u140 :: u141 :: u142 :: u143 :: u144 :: u145 :: u146 :: u147 :: u148 :: u149 :: u150 :: u151 :: u152 :: u153 :: u154 :: u155 :: u156 :: u157 :: u158 :: u159 :: u160 :: u161 :: u162 :: u163 :: u164 :: u165 :: u166 :: u167 :: []).toArray, []⟩ w') : Code.wp Try.prog (regionIn Try.f11 15) Q ⟨(u0 :: u1 :: u2 :: u3 :: u4 :: u5 :: u6 :: (.bool true) :: (.slice a1 ss.length cap1) :: (.int .i64 (m : Int)) :: (.int .i64 (n : Int)) :: u11 :: u12 :: u13 :: u14 :: u15 :: u16 :: u17 :: u18 :: u19 :: u20 :: u21 :: u22 :: u23 :: u24 :: u25 :: u26 :: u27 :: u28 :: u29 :: u30 :: u31 :: u32 :: u33 :: u34 :: u35 :: u36 :: u37 :: u38 :: u39 :: u40 :: u41 :: u42 :: u43 :: u44 :: u45 :: u46 :: u47 :: u48 :: u49 :: u50 :: u51 :: u52 :: u53 :: u54 :: u55 :: u56 :: u57 :: u58 :: u59 :: u60 :: u61 :: u62 :: u63 :: u64 :: u65 :: u66 :: u67 :: u68 :: u69 :: u70 :: u71 :: u72 :: u73 :: u74 :: u75 :: u76 :: u77 :: u78 :: u79 :: u80 :: u81 :: u82 :: u83 :: u84 :: u85 :: u86 :: u87 :: u88 :: u89 :: u90 :: u91 :: u92 :: u93 :: u94 :: u95 :: u96 :: u97 :: u98 :: u99 :: u100 :: u101 :: u102 :: u103 :: u104 :: u105 :: u106 :: u107 :: u108 :: u109 :: u110 :: u111 :: u112 :: u113 :: u114 :: u115 :: u116 :: u117 :: u118 :: u119 :: u120 :: u121 :: u122 :: u123 :: u124 :: u125 :: u126 :: u127 :: u128 :: u129 :: u130 :: u131 :: u132 :: u133 :: u134 :: u135 :: u136 :: u137 :: u138 :: u139 :: u140 :: u141 :: u142 :: u143 :: u144 :: u145 :: u146 :: u147 :: u148 :: u149 :: u150 :: u151 :: u152 :: u153 :: u154 :: u155 :: u156 :: u157 :: u158 :: u159 :: u160 :: u161 :: u162 :: u163 :: u164 :: u165 :: u166 :: u167 :: []).toArray, []⟩ w := by
  have HX := Lib.hid h
  have hcc := hA.cap
  have HP := Lib.hid P
  have hsl := slice_first a1 ss.length cap1 m hk hcc
  clear h P hA
  conv => arg 2; whnf
  go_wp2_with fail
  refine HP.out.mono ?_; rintro e w1 ⟨v, rfl, hO, hb1⟩
  have hP := Lib.hid hO.arg
  clear hO HP
  go_wp2_with fail
  exact HX.out _ _ _ _ _ _ _ _ _ v _ hP.out hb1

set_option maxRecDepth 100000 in
set_option maxHeartbeats 2000000 in
theorem tw_r16 (u0 u1 u2 u3 u4 u5 u6 u11 u12 u13 u14 u15 u16 u17 u18 u19 u20 u21 u22 u23 u24 u25 u26 u27 u28 u29 u30 u31 u32 u33 u34 u35 u36 u37 u38 u39 u40 u41 u42 u43 u44 u45 u46 u47 u48 u49 u50 u51 u52 u53 u54 u55 u56 u57 u58 u59 u60 u61 u62 u63 u64 u65 u66 u67 u68 u69 u70 u71 u72 u73 u74 u75 u76 u77 u78 u79 u80 u81 u82 u83 u84 u85 u86 u87 u88 u89 u90 u91 u92 u93 u94 u95 u96 u97 u98 u99 u100 u101 u102 u103 u104 u105 u106 u107 u108 u109 u110 u111 u112 u113 u114 u115 u116 u117 u118 u119 u120 u121 u122 u123 u124 u125 u126 u127 u128 u129 u130 u131 u132 u133 u134 u135 u136 u137 u138 u139 u140 u141 u142 u143 u144 u145 u146 u147 u148 u149 u150 u151 u152 u153 u154 u155 u156 u157 u158 u159 u160 u161 u162 u163 u164 u165 u166 u167 : Value) (a1 : Option Addr) (cap1 m n : Nat) (ss hs : List (List UInt8)) (w : World) (hA : Strs w a1 cap1 ss) (hl : ss.length ≤ 4398046511000) (hn : 1 ≤ n) (hnl : n ≤ ss.length)
    (P : Calls Try.prog 21 #[.slice a1 ss.length cap1, .int .i64 ((n : Int) - 1)] w (PathQ w hs true)) (Q : Exit → Act → World → Prop)
    (h : ∀ (y118 y119 y120 y121 y122 y123 y124 v : Value) (w' : World), HArg w' v hs → Below w.heap.size w w' → Q .normal ⟨(u0 :: u1 :: u2 :: u3 :: u4 :: u5 :: u6 :: (.bool true) :: (.slice a1 ss.length cap1) :: (.int .i64 (m : Int)) :: (.int .i64 (n : Int)) :: u11 :: u12 :: u13 :: u14 :: u15 :: u16 :: u17 :: u18 :: u19 :: u20 :: u21 :: v :: (.bool true) :: u24 :: u25 :: u26 :: u27 :: u28 :: u29 :: u30 :: u31 :: u32 :: u33 :: u34 :: u35 :: u36 :: u37 :: u38 :: u39 :: u40 :: u41 :: u42 :: u43 :: u44 :: u45 :: u46 :: u47 :: u48 :: u49 :: u50 :: u51 :: u52 :: u53 :: u54 :: u55 :: u56 :: u57 :: u58 :: u59 :: u60 :: u61 :: u62 :: u63 :: u64 :: u65 :: u66 :: u67 :: u68 :: u69 :: u70 :: u71 :: u72 :: u73 :: u74 :: u75 :: u76 :: u77 :: u78 :: u79 :: u80 :: u81 :: u82 :: u83 :: u84 :: u85 :: u86 :: u87 :: u88 :: u89 :: u90 :: u91 :: u92 :: u93 :: u94 :: u95 :: u96 :: u97 :: u98 :: u99 :: u100 :: u101 :: u102 :: u103 :: u104 :: u105 :: u106 :: u107 :: u108 :: u109 :: u110 :: u111 :: u112 :: u113 :: u114 :: u115 :: u116 :: u117 :: y118 :: y119 :: y120 :: y121 :: y122 :: y123 :: y124 :: u125 :: u126 :: u127 :: u128 :: u129 :: u130 :: u131 :: u132 :: u133 :: u134 :: u135 :: u136 :: u137 :: u138 :: u139 :: u140 :: u141 :: u142 :: u143 :: u144 :: u145 :: u146 :: u147 :: u148 :: u149 :: u150 :: u151 :: u152 :: u153 :: u154 :: u155 :: u156 :: u157 :: u158 :: u159 :: u160 :: u161 :: u162 :: u163 :: u164 :: u165 :: u166 :: u167 :: []).toArray, []⟩ w') : Code.wp Try.prog (regionIn Try.f11 16) Q ⟨(u0 :: u1 :: u2 :: u3 :: u4 :: u5 :: u6 :: (.bool true) :: (.slice a1 ss.length cap1) :: (.int .i64 (m : Int)) :: (.int .i64 (n : Int)) :: u11 :: u12 :: u13 :: u14 :: u15 :: u16 :: u17 :: u18 :: u19 :: u20 :: u21 :: u22 :: u23 :: u24 :: u25 :: u26 :: u27 :: u28 :: u29 :: u30 :: u31 :: u32 :: u33 :: u34 :: u35 :: u36 :: u37 :: u38 :: u39 :: u40 :: u41 :: u42 :: u43 :: u44 :: u45 :: u46 :: u47 :: u48 :: u49 :: u50 :: u51 :: u52 :: u53 :: u54 :: u55 :: u56 :: u57 :: u58 :: u59 :: u60 :: u61 :: u62 :: u63 :: u64 :: u65 :: u66 :: u67 :: u68 :: u69 :: u70 :: u71 :: u72 :: u73 :: u74 :: u75 :: u76 :: u77 :: u78 :: u79 :: u80 :: u81 :: u82 :: u83 :: u84 :: u85 :: u86 :: u87 :: u88 :: u89 :: u90 :: u91 :: u92 :: u93 :: u94 :: u95 :: u96 :: u97 :: u98 :: u99 :: u100 :: u101 :: u102 :: u103 :: u104 :: u105 :: u106 :: u107 :: u108 :: u109 :: u110 :: u111 :: u112 :: u113 :: u114 :: u115 :: u116 :: u117 :: u118 :: u119 :: u120 :: u121 :: u122 :: u123 :: u124 :: u125 :: u126 :: u127 :: u128 :: u129 :: u130 :: u131 :: u132 :: u133 :: u134 :: u135 :: u136 :: u137 :: u138 :: u139 :: u140 :: u141 :: u142 :: u143 :: u144 :: u145 :: u146 :: u147 :: u148 :: u149 :: u150 :: u151 :: u152 :: u153 :: u154 :: u155 :: u156 :: u157 :: u158 :: u159 :: u160 :: u161 :: u162 :: u163 :: u164 :: u165 :: u166 :: u167 :: []).toArray, []⟩ w := by
  have HX := Lib.hid h
  have hcc := hA.cap
  have HP := Lib.hid P
  clear h P hA
  conv => arg 2; whnf
  go_wp2_with fail
  refine HP.out.mono ?_; rintro e w1 ⟨v, rfl, hO, hb1⟩
  have hP := Lib.hid hO.arg
  clear hO HP
  go_wp2_with fail
  exact HX.out _ _ _ _ _ _ _ v _ hP.out hb1

set_option maxRecDepth 100000 in
set_option maxHeartbeats 2000000 in
theorem tw_r11 (u0 u1 u2 u3 u4 u5 u6 u20 u21 u22 u23 u24 u25 u26 u27 u28 u29 u30 u31 u32 u33 u34 u35 u36 u37 u38 u39 u40 u41 u42 u43 u44 u45 u46 u47 u48 u49 u50 u51 u52 u53 u54 u55 u56 u57 u58 u59 u60 u61 u62 u63 u64 u65 u66 u67 u68 u69 u70 u71 u72 u73 u74 u75 u76 u77 u78 u79 u80 u81 u82 u83 u84 u85 u86 u87 u88 u89 u90 u91 u92 u93 u94 u95 u96 u97 u98 u99 u100 u101 u102 u103 u104 u105 u106 u107 u108 u109 u110 u111 u112 u113 u114 u115 u116 u117 u118 u119 u120 u121 u122 u123 u124 u125 u126 u127 u128 u129 u130 u131 u132 u133 u134 u135 u136 u137 u138 u139 u140 u141 u142 u143 u144 u145 u146 u147 u148 u149 u150 u151 u152 u153 u154 u155 u156 u157 u158 u159 u160 u161 u162 u163 u164 u165 u166 u167 : Value) (a1 : Option Addr) (cap1 m n b1 b2 b3 : Nat) (ss h1 h2 h3 : List (List UInt8)) (x1 x2 x3 : List UInt8) (v1 v2 v3 : Value) (w : World) (k1 : x1.length = 32) (k2 : x2.length = 32) (k3 : x3.length = 32)
    (N1 : Blk w b1 (hdrow n x1) 38) (N2 : Blk w b2 (hdrow m x2) 38) (N3 : Blk w b3 (hdrow ss.length x3) 38) (V1 : HArg w v1 h1) (V2 : HArg w v2 h2) (V3 : HArg w v3 h3)
    (C1 : ∀ w v, HArg w v h1 → Calls Try.prog 33 #[.agg (hdrow n x1), .agg (hdrow m x2), v] w fun e w' => e = .returned (.bool true) ∧ Below w.heap.size w w')
    (C2 : ∀ w v, HArg w v h2 → Calls Try.prog 33 #[.agg (hdrow m x2), .agg (hdrow ss.length x3), v] w fun e w' => e = .returned (.bool true) ∧ Below w.heap.size w w')
    (C3 : ∀ w v, HArg w v h3 → Calls Try.prog 33 #[.agg (hdrow n x1), .agg (hdrow ss.length x3), v] w fun e w' => e = .returned (.bool true) ∧ Below w.heap.size w w')
    (Q : Exit → Act → World → Prop) (h : ∀ (y75 y76 y77 y78 y79 y80 y81 y82 y83 y84 y85 y86 y87 y88 y89 y90 y91 y92 y93 y94 y95 y96 y97 y98 y99 y100 y101 y102 y103 y104 : Value) (w' : World), Below w.heap.size w w' → Q .normal ⟨(u0 :: u1 :: u2 :: u3 :: u4 :: u5 :: u6 :: (.bool true) :: (.slice a1 ss.length cap1) :: (.int .i64 (m : Int)) :: (.int .i64 (n : Int)) :: (.pointer (some ⟨b1, 0, none⟩)) :: (.pointer (some ⟨b2, 0, none⟩)) :: (.pointer (some ⟨b3, 0, none⟩)) :: v1 :: (.bool true) :: v2 :: (.bool true) :: v3 :: (.bool true) :: u20 :: u21 :: u22 :: u23 :: u24 :: u25 :: u26 :: u27 :: u28 :: u29 :: u30 :: u31 :: u32 :: u33 :: u34 :: u35 :: u36 :: u37 :: u38 :: u39 :: u40 :: u41 :: u42 :: u43 :: u44 :: u45 :: u46 :: u47 :: u48 :: u49 :: u50 :: u51 :: u52 :: u53 :: u54 :: u55 :: u56 :: u57 :: u58 :: u59 :: u60 :: u61 :: u62 :: u63 :: u64 :: u65 :: u66 :: u67 :: u68 :: u69 :: u70 :: u71 :: u72 :: u73 :: u74 :: y75 :: y76 :: y77 :: y78 :: y79 :: y80 :: y81 :: y82 :: y83 :: y84 :: y85 :: y86 :: y87 :: y88 :: y89 :: y90 :: y91 :: y92 :: y93 :: y94 :: y95 :: y96 :: y97 :: y98 :: y99 :: y100 :: y101 :: y102 :: y103 :: y104 :: (.bool false) :: u106 :: u107 :: u108 :: u109 :: u110 :: u111 :: u112 :: u113 :: u114 :: u115 :: u116 :: u117 :: u118 :: u119 :: u120 :: u121 :: u122 :: u123 :: u124 :: u125 :: u126 :: u127 :: u128 :: u129 :: u130 :: u131 :: u132 :: u133 :: u134 :: u135 :: u136 :: u137 :: u138 :: u139 :: u140 :: u141 :: u142 :: u143 :: u144 :: u145 :: u146 :: u147 :: u148 :: u149 :: u150 :: u151 :: u152 :: u153 :: u154 :: u155 :: u156 :: u157 :: u158 :: u159 :: u160 :: u161 :: u162 :: u163 :: u164 :: u165 :: u166 :: u167 :: []).toArray, []⟩ w') : Code.wp Try.prog (regionIn Try.f11 11) Q ⟨(u0 :: u1 :: u2 :: u3 :: u4 :: u5 :: u6 :: (.bool true) :: (.slice a1 ss.length cap1) :: (.int .i64 (m : Int)) :: (.int .i64 (n : Int)) :: (.pointer (some ⟨b1, 0, none⟩)) :: (.pointer (some ⟨b2, 0, none⟩)) :: (.pointer (some ⟨b3, 0, none⟩)) :: v1 :: (.bool true) :: v2 :: (.bool true) :: v3 :: (.bool true) :: u20 :: u21 :: u22 :: u23 :: u24 :: u25 :: u26 :: u27 :: u28 :: u29 :: u30 :: u31 :: u32 :: u33 :: u34 :: u35 :: u36 :: u37 :: u38 :: u39 :: u40 :: u41 :: u42 :: u43 :: u44 :: u45 :: u46 :: u47 :: u48 :: u49 :: u50 :: u51 :: u52 :: u53 :: u54 :: u55 :: u56 :: u57 :: u58 :: u59 :: u60 :: u61 :: u62 :: u63 :: u64 :: u65 :: u66 :: u67 :: u68 :: u69 :: u70 :: u71 :: u72 :: u73 :: u74 :: u75 :: u76 :: u77 :: u78 :: u79 :: u80 :: u81 :: u82 :: u83 :: u84 :: u85 :: u86 :: u87 :: u88 :: u89 :: u90 :: u91 :: u92 :: u93 :: u94 :: u95 :: u96 :: u97 :: u98 :: u99 :: u100 :: u101 :: u102 :: u103 :: u104 :: u105 :: u106 :: u107 :: u108 :: u109 :: u110 :: u111 :: u112 :: u113 :: u114 :: u115 :: u116 :: u117 :: u118 :: u119 :: u120 :: u121 :: u122 :: u123 :: u124 :: u125 :: u126 :: u127 :: u128 :: u129 :: u130 :: u131 :: u132 :: u133 :: u134 :: u135 :: u136 :: u137 :: u138 :: u139 :: u140 :: u141 :: u142 :: u143 :: u144 :: u145 :: u146 :: u147 :: u148 :: u149 :: u150 :: u151 :: u152 :: u153 :: u154 :: u155 :: u156 :: u157 :: u158 :: u159 :: u160 :: u161 :: u162 :: u163 :: u164 :: u165 :: u166 :: u167 :: []).toArray, []⟩ w := by
  have HX := Lib.hid h
  have I1 := Lib.hid (hinfoD n x1 k1)
  have I2 := Lib.hid (hinfoD m x2 k2)
  have I3 := Lib.hid (hinfoD ss.length x3 k3)
  have D1 := Lib.hid C1
  have D2 := Lib.hid C2
  have D3 := Lib.hid C3
  clear h C1 C2 C3
  generalize hdrow (n : Int) x1 = R1 at *
  generalize hdrow (m : Int) x2 = R2 at *
  generalize hdrow (ss.length : Int) x3 = R3 at *
  conv => arg 2; whnf
  go_wp2_with (first
    | (refine wpList_load_row_g (by kernel_rfl) 38 (.tmp 11) rfl b1 rfl _ _ _ _ N1 Try.underlying38 rfl I1.out ?_; go_frame)
    | (refine wpList_load_row_g (by kernel_rfl) 38 (.tmp 12) rfl b2 rfl _ _ _ _ N2 Try.underlying38 rfl I2.out ?_; go_frame))
  refine (D1.out _ _ V1).mono ?_; rintro e w1 ⟨rfl, hb1⟩
  have N1 := N1.below hb1 N1.lt
  have N2 := N2.below hb1 N2.lt
  have N3 := N3.below hb1 N3.lt
  have V2 := V2.below hb1
  have V3 := V3.below hb1
  clear V1
  go_wp2_with (first
    | (refine wpList_load_row_g (by kernel_rfl) 38 (.tmp 12) rfl b2 rfl _ _ _ _ N2 Try.underlying38 rfl I2.out ?_; go_frame)
    | (refine wpList_load_row_g (by kernel_rfl) 38 (.tmp 13) rfl b3 rfl _ _ _ _ N3 Try.underlying38 rfl I3.out ?_; go_frame))
  refine (D2.out _ _ V2).mono ?_; rintro e w2 ⟨rfl, hb2⟩
  have hb := hb1.trans (hb2.mono hb1.size)
  have N1 := N1.below hb2 N1.lt
  have N3 := N3.below hb2 N3.lt
  have V3 := V3.below hb2
  clear V2 hb1 hb2
  go_wp2_with (first
    | (refine wpList_load_row_g (by kernel_rfl) 38 (.tmp 11) rfl b1 rfl _ _ _ _ N1 Try.underlying38 rfl I1.out ?_; go_frame)
    | (refine wpList_load_row_g (by kernel_rfl) 38 (.tmp 13) rfl b3 rfl _ _ _ _ N3 Try.underlying38 rfl I3.out ?_; go_frame))
  refine (D3.out _ _ V3).mono ?_; rintro e w3 ⟨rfl, hb3⟩
  have hb := hb.trans (hb3.mono hb.size)
  clear V3 hb3 N1 N3
  go_wp2_with fail
  exact HX.out _ _ _ _ _ _ _ _ _ _ _ _ _ _ _ _ _ _ _ _ _ _ _ _ _ _ _ _ _ _ _ hb

theorem After.head {w : World} {g : Nat} {n : Int} {y : List UInt8} (h : Blk w g (hdrow n y) 38) (hy : y.length = 32) : ∀ x : After w, (loadVar 38 ⟨g, 0, none⟩).run Try.prog x.W = .ok (.agg (hdrow n y)) x.W := fun x =>
  run_loadVar_row x.W g _ _ (hdrow n y) (0, 0) _ (h.below x.hb h.lt) Try.underlying38 rfl (hinfoD n y hy)
set_option maxRecDepth 100000 in
set_option maxHeartbeats 2000000 in
theorem tw_r17 (u0 u1 u2 u3 u4 u5 u6 u24 u25 u26 u27 u28 u29 u30 u31 u32 u33 u34 u35 u36 u37 u38 u39 u40 u41 u42 u43 u44 u45 u46 u47 u48 u49 u50 u51 u52 u53 u54 u55 u56 u57 u58 u59 u60 u61 u62 u63 u64 u65 u66 u67 u68 u69 u70 u71 u72 u73 u74 u75 u76 u77 u78 u79 u80 u81 u82 u83 u84 u85 u86 u87 u88 u89 u90 u91 u92 u93 u94 u95 u96 u97 u98 u99 u100 u101 u102 u103 u104 u105 u106 u107 u108 u109 u110 u111 u112 u113 u114 u115 u116 u117 u118 u119 u120 u121 u122 u123 u124 u125 u126 u127 u128 u129 u130 u131 u132 u133 u134 u135 u136 u137 u138 u139 u140 u141 u142 u143 u144 u145 u146 u147 u148 u149 u150 u151 u152 u153 u154 u155 u156 u157 u158 u159 u160 u161 u162 u163 u164 u165 u166 u167 : Value) (a1 : Option Addr) (cap1 m n b1 b2 b3 j cp cq : Nat) (ap aq : Option Addr) (ss h4 h5 : List (List UInt8)) (x2 x3 s : List UInt8) (v1 v2 v3 : Value) (w : World) (k2 : x2.length = 32) (k3 : x3.length = 32)
    (N2 : Blk w b2 (hdrow m x2) 38) (N3 : Blk w b3 (hdrow ss.length x3) 38) (hA : Strs w a1 cap1 ss) (hs : ss[j]? = some s) (hj : n = j + 1) (hl : ss.length ≤ 20) (l1 : h4.length ≤ h5.length) (l2 : h5.length ≤ 5)
    (C1 : ∀ x : After w, Calls Try.prog 24 #[.agg (hdrow m x2), .int .i64 j, S s, .slice ap h4.length cp] x.W fun e w' => e = .returned (.bool true) ∧ Below x.W.heap.size x.W w')
    (C2 : ∀ x : After w, Calls Try.prog 24 #[.agg (hdrow ss.length x3), .int .i64 j, S s, .slice aq h5.length cq] x.W fun e w' => e = .returned (.bool true) ∧ Below x.W.heap.size x.W w')
    (Q : Exit → Act → World → Prop) (h : ∀ (y125 y126 y127 y128 y129 y130 y131 y132 y133 y134 y135 y136 y137 y138 y139 y140 y141 y142 y143 y144 y145 y146 y147 y148 y149 y150 y151 y152 y153 y154 y155 y156 y157 y158 y159 y160 y161 y162 y163 y164 y165 y166 y167 : Value) (w' : World), Below w.heap.size w w' → Q .normal ⟨(u0 :: u1 :: u2 :: u3 :: u4 :: u5 :: (.bool true) :: (.bool true) :: (.slice a1 ss.length cap1) :: (.int .i64 (m : Int)) :: (.int .i64 (n : Int)) :: (.pointer (some ⟨b1, 0, none⟩)) :: (.pointer (some ⟨b2, 0, none⟩)) :: (.pointer (some ⟨b3, 0, none⟩)) :: v1 :: (.bool true) :: v2 :: (.bool true) :: v3 :: (.bool true) :: (.slice ap h4.length cp) :: (.bool true) :: (.slice aq h5.length cq) :: (.bool true) :: u24 :: u25 :: u26 :: u27 :: u28 :: u29 :: u30 :: u31 :: u32 :: u33 :: u34 :: u35 :: u36 :: u37 :: u38 :: u39 :: u40 :: u41 :: u42 :: u43 :: u44 :: u45 :: u46 :: u47 :: u48 :: u49 :: u50 :: u51 :: u52 :: u53 :: u54 :: u55 :: u56 :: u57 :: u58 :: u59 :: u60 :: u61 :: u62 :: u63 :: u64 :: u65 :: u66 :: u67 :: u68 :: u69 :: u70 :: u71 :: u72 :: u73 :: u74 :: u75 :: u76 :: u77 :: u78 :: u79 :: u80 :: u81 :: u82 :: u83 :: u84 :: u85 :: u86 :: u87 :: u88 :: u89 :: u90 :: u91 :: u92 :: u93 :: u94 :: u95 :: u96 :: u97 :: u98 :: u99 :: u100 :: u101 :: u102 :: u103 :: u104 :: u105 :: u106 :: u107 :: u108 :: u109 :: u110 :: u111 :: u112 :: u113 :: u114 :: u115 :: u116 :: u117 :: u118 :: u119 :: u120 :: u121 :: u122 :: u123 :: u124 :: y125 :: y126 :: y127 :: y128 :: y129 :: y130 :: y131 :: y132 :: y133 :: y134 :: y135 :: y136 :: y137 :: y138 :: y139 :: y140 :: y141 :: y142 :: y143 :: y144 :: y145 :: y146 :: y147 :: y148 :: y149 :: y150 :: y151 :: y152 :: y153 :: y154 :: y155 :: y156 :: y157 :: y158 :: y159 :: y160 :: y161 :: y162 :: y163 :: y164 :: y165 :: y166 :: y167 :: []).toArray, []⟩ w') : Code.wp Try.prog (regionIn Try.f11 17) Q ⟨(u0 :: u1 :: u2 :: u3 :: u4 :: u5 :: u6 :: (.bool true) :: (.slice a1 ss.length cap1) :: (.int .i64 (m : Int)) :: (.int .i64 (n : Int)) :: (.pointer (some ⟨b1, 0, none⟩)) :: (.pointer (some ⟨b2, 0, none⟩)) :: (.pointer (some ⟨b3, 0, none⟩)) :: v1 :: (.bool true) :: v2 :: (.bool true) :: v3 :: (.bool true) :: (.slice ap h4.length cp) :: (.bool true) :: (.slice aq h5.length cq) :: (.bool true) :: u24 :: u25 :: u26 :: u27 :: u28 :: u29 :: u30 :: u31 :: u32 :: u33 :: u34 :: u35 :: u36 :: u37 :: u38 :: u39 :: u40 :: u41 :: u42 :: u43 :: u44 :: u45 :: u46 :: u47 :: u48 :: u49 :: u50 :: u51 :: u52 :: u53 :: u54 :: u55 :: u56 :: u57 :: u58 :: u59 :: u60 :: u61 :: u62 :: u63 :: u64 :: u65 :: u66 :: u67 :: u68 :: u69 :: u70 :: u71 :: u72 :: u73 :: u74 :: u75 :: u76 :: u77 :: u78 :: u79 :: u80 :: u81 :: u82 :: u83 :: u84 :: u85 :: u86 :: u87 :: u88 :: u89 :: u90 :: u91 :: u92 :: u93 :: u94 :: u95 :: u96 :: u97 :: u98 :: u99 :: u100 :: u101 :: u102 :: u103 :: u104 :: u105 :: u106 :: u107 :: u108 :: u109 :: u110 :: u111 :: u112 :: u113 :: u114 :: u115 :: u116 :: u117 :: u118 :: u119 :: u120 :: u121 :: u122 :: u123 :: u124 :: u125 :: u126 :: u127 :: u128 :: u129 :: u130 :: u131 :: u132 :: u133 :: u134 :: u135 :: u136 :: u137 :: u138 :: u139 :: u140 :: u141 :: u142 :: u143 :: u144 :: u145 :: u146 :: u147 :: u148 :: u149 :: u150 :: u151 :: u152 :: u153 :: u154 :: u155 :: u156 :: u157 :: u158 :: u159 :: u160 :: u161 :: u162 :: u163 :: u164 :: u165 :: u166 :: u167 :: []).toArray, []⟩ w := by
  have HX := Lib.hid h
  have hjl := (List.getElem?_eq_some_iff.1 hs).1
  have hcc := hA.cap
  obtain ⟨g, o, rfl, hA2⟩ := hA.at_ (by rintro rfl; simp at hs)
  have fc := After.cell (hA2 j s hs)
  have f2 := After.head N2 k2
  have f3 := After.head N3 k3
  have e1 : (n : Int) - 1 = (j : Int) := by omega
  have e2 : IntKind.i64.wrap ((n : Int) - 1) = (j : Int) := by rw [e1]; exact IntWalk.i64_in _ (by omega)
  have b0 : (0 : Int) ≤ (j : Int) := by omega
  have b1' : (j : Int) < (ss.length : Int) := by omega
  have q1 : ((h4.length : Int) ≤ (h5.length : Int)) := by omega
  have q2 : ((h5.length : Int) ≤ 5) := by omega
  have q3 : decide ((h5.length : Int) ≥ (h4.length : Int)) = true := decide_eq_true (by omega)
  have q4 : decide ((h5.length : Int) ≤ 5) = true := decide_eq_true (by omega)
  have D1 := Lib.hid C1
  have D2 := Lib.hid C2
  clear h hs hj hA hA2 N2 N3 C1 C2
  generalize hdrow (m : Int) x2 = R2 at *
  generalize hdrow (ss.length : Int) x3 = R3 at *
  conv => arg 2; whnf
  refine wp_region_after (by kernel_rfl) (by kernel_rfl) ?_
  repeat (first
    | (refine quiet_load_at 38 (.tmp 12) (by rfl) ⟨b2, 0, none⟩ (by rfl) R2 f2 (by kernel_rfl) ?_; go_frame)
    | (refine quiet_load_at 38 (.tmp 13) (by rfl) ⟨b3, 0, none⟩ (by rfl) R3 f3 (by kernel_rfl) ?_; go_frame)
    | (go_big_quiet_step (first | (with_reducible exact After.call (D1.out _)) | (with_reducible exact After.call (D2.out _)))))
  refine wpQuiet_nil ?_
  rintro w5 ⟨x5, rfl⟩
  exact HX.out _ _ _ _ _ _ _ _ _ _ _ _ _ _ _ _ _ _ _ _ _ _ _ _ _ _ _ _ _ _ _ _ _ _ _ _ _ _ _ _ _ _ _ _ x5.hb

end Go.Proofs.Ytjekdeikoebmgaa
