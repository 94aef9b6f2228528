/- Reading a hash: the contracts of Read, of both sides. Conditions: none. -/
import Derived.Test.YtgkdfnmgbobamaaRep
namespace Go.Proofs.Ytgkdfnmgbobamaa
open Go.RowKit Go.Shelf

theorem results_cell_row_tmp {P : Program} {fn : Func} {p u : Tmp} {ty : TypeId} (h : fn.results = #[.cell p ty, .tmp u]) (tmps : Array Value) (w : World) (g : Nat) (t : TypeId) (cs : Array Value) (fr : Nat × Nat) (d : TypeDesc)
    (hp : tmps.getD p undef = .pointer (some ⟨g, 0, none⟩)) (hg : w.heap[g]? = some (.cells cs t fr))
    (hu : P.underlying ty = some d) (hd : (match d with | .struct _ | .array _ _ => true | _ => false) = true) (hi : (P.info? ty).map (·.size) = some cs.size) (v : Value) (hv : tmps.getD u undef = v) :
    (results fn tmps).run P w = .ok (.tuple #[.agg cs, v]) w := by
  subst hv
  have hp' : tmps[p]?.getD undef = .pointer (some ⟨g, 0, none⟩) := by simpa using hp
  simp [results, h, hp', asAddr, run_loadVar_row w g t ty cs fr d hg hu hd hi]

/-- The digit of a sign, or -1. -/
def hxTo (c : UInt8) : Nat → Int
  | 0 => -1
  | k + 1 => if digs.getD k 0 = c then k else hxTo c k
def hx (c : UInt8) : Int := hxTo c 16
theorem hxTo_lt (c : UInt8) (k : Nat) : -1 ≤ hxTo c k ∧ hxTo c k < k := by
  induction k with
  | zero => rw [hxTo]; omega
  | succ k ih => rw [hxTo]; split <;> omega
theorem hx_lt (c : UInt8) : -1 ≤ hx c ∧ hx c < 16 := hxTo_lt c 16
theorem indexByte_hx (c : UInt8) : Lib.indexByte digs c = hx c := by
  have : ∀ n : Fin 256, Lib.indexByte digs (UInt8.ofNat n.val) = hx (UInt8.ofNat n.val) := by decide +kernel
  have h := this ⟨c.toNat, c.toNat_lt⟩
  simpa using h
theorem Idx_any (x : UInt8) (w : World) :
    Calls Try.prog 30 #[.string ⟨#[48, 49, 50, 51, 52, 53, 54, 55, 56, 57, 97, 98, 99, 100, 101, 102]⟩, Y x] w fun e w' => e = .returned (.int .i64 (hx x)) ∧ w = w' := by
  refine (strings_IndexByte _ _ w).mono fun e w' ⟨h1, h2⟩ => ⟨?_, h2.symm⟩
  rw [h1, ← indexByte_hx]
  congr 3
  simp
def zeros32 : List UInt8 := List.replicate 32 0
def rput (l : List UInt8) (i : Nat) (n : Int) : List UInt8 := l.set (i / 2) (UInt8.ofNat ((l.getD (i / 2) 0).toNat * 16 + n.toNat))
theorem orB (v : UInt8) (n : Int) (h0 : 0 ≤ n) (h1 : n < 16) : Value.int .u8 (bits .or .u8 ((v.toNat : Int) * 16 % 256) n) = Y (UInt8.ofNat (v.toNat * 16 + n.toNat)) := by
  have key : ∀ (a : Fin 256) (b : Fin 16), bits .or .u8 ((a.val : Int) * 16 % 256) ((b.val : Nat) : Int) = (((a.val * 16 + b.val) % 256 : Nat) : Int) := by decide +kernel
  have h := key ⟨v.toNat, v.toNat_lt⟩ ⟨n.toNat, by omega⟩
  simp only at h
  rw [show ((n.toNat : Nat) : Int) = n by omega] at h
  show Value.int .u8 _ = .int .u8 _
  rw [h, UInt8.toNat_ofNat']
theorem rput_row (l : List UInt8) (k : Nat) (n : Int) (v : UInt8) (hv : l[k / 2]? = some v) (h0 : 0 ≤ n) (h1 : n < 16) : (hrow l).setIfInBounds (k / 2) (Value.int .u8 (bits .or .u8 ((v.toNat : Int) * 16 % 256) n)) = hrow (rput l k n) := by
  rw [orB v n h0 h1, hrow_set, rput, List.getD_eq_getElem?_getD, hv]; rfl
theorem rput_length (l : List UInt8) (i : Nat) (n : Int) : (rput l i n).length = l.length := List.length_set
/-- What is known behind k signs. -/
def rd (cs : List UInt8) : Nat → Option (List UInt8)
  | 0 => some zeros32
  | k + 1 => match rd cs k with
    | none => none
    | some l => if hx (cs.getD k 0) < 0 then none else some (rput l k (hx (cs.getD k 0)))
def readS (cs : List UInt8) : List UInt8 × Bool := if cs.length = 64 then (match rd cs 64 with | some l => (l, true) | none => (zeros32, false)) else (zeros32, false)
theorem rd_length (cs : List UInt8) (k : Nat) : ∀ l, rd cs k = some l → l.length = 32 := by
  induction k with
  | zero => intro l h; cases h; rfl
  | succ k ih =>
    intro l h
    rw [rd] at h
    cases hr : rd cs k with
    | none => rw [hr] at h; cases h
    | some m =>
      rw [hr] at h
      simp only at h
      split at h
      · cases h
      · cases h; rw [rput_length]; exact ih m hr
theorem rd_none (cs : List UInt8) (k j : Nat) (h : rd cs k = none) : rd cs (k + j) = none := by
  induction j with
  | zero => exact h
  | succ j ih =>
    have e : rd cs (k + j + 1) = none := by rw [rd, ih]
    exact e
theorem readS_length (cs : List UInt8) : (readS cs).1.length = 32 := by
  unfold readS
  split
  · split
    · rename_i l h; exact rd_length cs 64 l h
    · rfl
  · rfl
theorem rd_step {cs l : List UInt8} {k : Nat} {x : UInt8} (h : rd cs k = some l) (hx' : cs[k]? = some x) (h0 : 0 ≤ hx x) : rd cs (k + 1) = some (rput l k (hx x)) := by
  rw [rd, h, List.getD_eq_getElem?_getD, hx']
  exact if_neg (by simpa using h0)
theorem rd_stop {cs l : List UInt8} {k : Nat} {x : UInt8} (h : rd cs k = some l) (hx' : cs[k]? = some x) (h0 : hx x < 0) (hk : k < 64) : rd cs 64 = none := by
  have h1 : rd cs (k + 1) = none := by
    rw [rd, h, List.getD_eq_getElem?_getD, hx']
    exact if_pos (by simpa using h0)
  have := rd_none cs (k + 1) (63 - k) h1
  rwa [show k + 1 + (63 - k) = 64 by omega] at this
theorem readS_no {cs : List UInt8} (h : cs.length ≠ 64) : readS cs = (zeros32, false) := if_neg h
theorem readS_stop {cs : List UInt8} (hl : cs.length = 64) (h : rd cs 64 = none) : readS cs = (zeros32, false) := by rw [readS, if_pos hl, h]
theorem readS_end {cs l : List UInt8} (hl : cs.length = 64) (h : rd cs 64 = some l) : readS cs = (l, true) := by rw [readS, if_pos hl, h]
theorem hz32 : hz = hrow zeros32 := rfl

set_option maxRecDepth 100000 in
set_option maxHeartbeats 1000000 in
theorem Read_any (b : ByteArray) (w : World) :
    Calls Try.prog 18 #[.string b] w fun e w' => e = .returned (.tuple #[.agg (hrow (readS b.data.toList).1), .bool (readS b.data.toList).2]) ∧ Below w.heap.size w w' := by
  have ZH : Hid ((Try.prog.info? 24).bind (·.zero) = some (.agg hz)) := by show _ = _; kernel_rfl
  have HI := Lib.hid (hinfo' zeros32 rfl)
  have NO := (Blk.new w hz 24).alloc (.cells hz 24)
  have NB := Blk.new (w.alloc (.cells hz 24)) hz 24
  rw [World.size_alloc] at NB
  have hB := ((Below.refl w.heap.size w).alloc (Nat.le_refl _) (.cells hz 24)).alloc (by simp) (.cells hz 24)
  have NOH := Lib.hid NO
  have NBH := Lib.hid NB
  clear NO NB
  have hbs : b.size = b.data.toList.length := by rw [Array.length_toList]; rfl
  have HO := Lib.hid (bytes_all zeros32)
  rw [← hz32] at HI HO
  by_cases h64 : b.size = 64
  · obtain ⟨cap, w2, hr2, row2, hb2⟩ := run_bytes_of ((w.alloc (.cells hz 24)).alloc (.cells hz 24)) b
    have NO := NOH.out.below hb2 NOH.out.lt
    have NB := NBH.out.below hb2 NBH.out.lt
    have hB := hB.trans (hb2.mono hB.size)
    have HL := Lib.hid (show b.data.toList.length = 64 by omega)
    have hg : w.heap.size + 2 ≤ w2.heap.size := by have := hb2.size; simp at this; omega
    rw [World.size_alloc, World.size_alloc] at hr2 row2
    rw [h64] at hr2
    have hs64 : (b.size : Int) = 64 := by omega
    clear hb2 h64 hbs
    go_enter Try.func18, Try.ntmps18
    go_wp2_with (refine wpList_alloc_row rfl 24 rfl hz ZH.out ?_)
    clear hr2
    go_loopw [15] (fun i wr => ∃ (k : Nat) (l : List UInt8), k ≤ 64 ∧ i = .int .i64 k ∧ Hid (rd b.data.toList k = some l) ∧ Blk wr w.heap.size hz 24 ∧ Blk wr (w.heap.size + 1) (hrow l) 24 ∧ BRow wr (w.heap.size + 1 + 1) (w.heap.size + 1 + 1) cap b.data.toList ∧ Below w.heap.size w wr) (fun i _ => 64 - (intOf i).toNat)
    case atStart => exact ⟨0, zeros32, by omega, rfl, rfl, NO, NB, row2, hB⟩
    case round =>
      clear NO NB row2 hB hg
      obtain ⟨k, l, hk, rfl, HK, NO, NB, row, hB⟩ := hrel
      have hll := rd_length _ _ _ HK.out
      by_cases hlt : k < 64
      · obtain ⟨x, hxx⟩ : ∃ x, b.data.toList[k]? = some x := ⟨b.data.toList[k]'(by rw [HL.out]; omega), List.getElem?_eq_getElem _⟩
        have c1 := row.cells k x hxx
        have k1 : (k : Int) < 64 := by omega
        have E := Lib.hid (Idx_any x)
        have HH := hx_lt x
        by_cases h0 : hx x < 0
        · have HN := Lib.hid (readS_stop HL.out (rd_stop HK.out hxx h0 hlt))
          clear hxx
          generalize hx x = n at *
          go_wp2_with fail
          have NOH := Lib.hid NO
          refine (E.out _).mono ?_; rintro e w9 ⟨rfl, rfl⟩
          go_wp2_with (first
            | (refine wpList_store_row rfl 24 (.tmp 2) (.tmp 24) rfl w.heap.size hz rfl rfl 24 _ NOH.out HI.out rfl HO.out ?_))
          refine bodyPost_ret (v := .tuple #[.agg hz, .bool false]) ?_ rfl ⟨by rw [HN.out]; rfl, Below.setRow hB (Nat.le_refl _) _⟩
          exact results_cell_row_tmp rfl _ _ _ _ _ _ _ rfl (NO.row _) Try.underlying24 rfl HI.out _ rfl
        · have HS := Lib.hid (rd_step HK.out hxx (by omega))
          obtain ⟨v, hv⟩ : ∃ v, l[k / 2]? = some v := ⟨l[k / 2]'(by omega), List.getElem?_eq_getElem (by omega)⟩
          have c2 := NB.cell (k / 2) _ (hrow_get l (k / 2) v hv)
          have f2 := NB.frozen (k / 2)
          have k2 : (k : Int) / 2 < 32 := by omega
          have k3 : 0 ≤ (k : Int) / 2 := by omega
          have HP := Lib.hid (rput_row l k (hx x) v hv (by omega) (by omega))
          clear hxx
          generalize hx x = n at *
          have n0 : 0 ≤ n := by omega
          have n1 : n < 16 := by omega
          go_wp2_with fail
          refine (E.out _).mono ?_; rintro e w9 ⟨rfl, rfl⟩
          go_wp2_with fail
          go_roundw
          case rel =>
            refine ⟨k + 1, _, by omega, by go_num, HS.out, NO.other (a := ⟨w.heap.size + 1, k / 2, none⟩) (by simp) _, ?_, row.keep (by simp) (Below.heap_setCell _ _ _ _ (by simp)), hB.setCell (by simp) _⟩
            rw [← HP.out]
            exact NB.set _ _
          case measure => simp [intOf]; omega
      · obtain rfl : k = 64 := by omega
        have HR := Lib.hid (readS_end HL.out HK.out)
        have HI := Lib.hid (hinfo' l hll)
        have HO := Lib.hid (bytes_all l)
        have HZ := Lib.hid (hz_size l hll)
        have NBH := Lib.hid NB
        have NOH := Lib.hid NO
        clear hlt hk
        go_wp2_with (first
          | (refine wpList_load_row rfl 24 (.tmp 4) rfl (w.heap.size + 1) rfl _ _ _ _ NBH.out Try.underlying24 rfl HI.out ?_)
          | (refine wpList_store_row rfl 24 (.tmp 2) (.tmp 37) rfl w.heap.size (hrow l) rfl rfl 24 _ NOH.out HI.out HZ.out HO.out ?_))
        refine bodyPost_ret (v := .tuple #[.agg (hrow l), .bool true]) ?_ rfl ⟨by rw [HR.out], Below.setRow hB (Nat.le_refl _) _⟩
        exact results_cell_row_tmp rfl _ _ _ _ _ _ _ rfl (NO.row _) Try.underlying24 rfl HI.out _ rfl
  · have hr := readS_no (cs := b.data.toList) (by omega)
    have HR := Lib.hid hr
    have hne : ((b.size : Int) == 64) = false := by rw [beq_eq_false_iff_ne]; omega
    clear hr h64 hbs
    go_enter Try.func18, Try.ntmps18
    go_wp2_with (first
      | (refine wpList_alloc_row rfl 24 rfl hz ZH.out ?_)
      | (refine wpList_load_row rfl 24 (.tmp 4) rfl (w.heap.size + 1) rfl _ _ _ _ NBH.out Try.underlying24 rfl HI.out ?_)
      | (refine wpList_store_row rfl 24 (.tmp 2) (.tmp 11) rfl w.heap.size hz rfl rfl 24 _ NOH.out HI.out rfl HO.out ?_))
    refine bodyPost_ret (v := .tuple #[.agg hz, .bool false]) ?_ rfl ⟨by rw [HR.out]; rfl, Below.setRow hB (Nat.le_refl _) _⟩
    exact results_cell_row_tmp rfl _ _ _ _ _ _ _ rfl (NOH.out.row _) Try.underlying24 rfl HI.out _ rfl

theorem index_digs64 (n : Nat) (h : n < 16) (w : World) : (Instr.index 9 (.string ⟨#[48, 49, 50, 51, 52, 53, 54, 55, 56, 57, 97, 98, 99, 100, 101, 102]⟩) (.int .i64 n)).run Try.prog w = .ok (Y (digs.getD n 0)) w := by
  have hs : (⟨#[48, 49, 50, 51, 52, 53, 54, 55, 56, 57, 97, 98, 99, 100, 101, 102]⟩ : ByteArray).size = 16 := rfl
  rw [run_index_string (h := Try.underlying9), dif_pos ⟨by omega, by rw [hs]; omega⟩]
  have hd : n < digs.length := h
  rw [List.getD_eq_getElem?_getD, List.getElem?_eq_getElem hd]
  rfl
theorem str_at (b : ByteArray) (k : Nat) (x : UInt8) (h : b.data.toList[k]? = some x) (w : World) : (Instr.index 9 (.string b) (.int .i64 k)).run Try.prog w = .ok (Y x) w := by
  rw [str_index Try.underlying9 b _ rfl k (List.getElem?_eq_some_iff.1 h).1 k rfl, Sha.byteAt, List.getD_eq_getElem?_getD, h]; rfl
theorem addB (v : UInt8) (n : Int) (h0 : 0 ≤ n) (h1 : n < 16) : Value.int .u8 ((v.toNat : Int) * 16 % 256 + n) = Y (UInt8.ofNat (v.toNat * 16 + n.toNat)) := by
  show Value.int .u8 _ = .int .u8 _
  rw [UInt8.toNat_ofNat']
  congr 1
  omega
theorem rput_row' (l : List UInt8) (k : Nat) (n : Int) (v : UInt8) (hv : l[k / 2]? = some v) (h0 : 0 ≤ n) (h1 : n < 16) : (hrow l).setIfInBounds (k / 2) (Value.int .u8 ((v.toNat : Int) * 16 % 256 + n)) = hrow (rput l k n) := by
  rw [addB v n h0 h1, hrow_set, rput, List.getD_eq_getElem?_getD, hv]; rfl

set_option maxRecDepth 100000 in
set_option maxHeartbeats 1000000 in
theorem RRead_any (b : ByteArray) (w : World) :
    Calls Try.prog 19 #[.string b] w fun e w' => e = .returned (.tuple #[.agg (hrow (readS b.data.toList).1), .bool (readS b.data.toList).2]) ∧ Below w.heap.size w w' := by
  have ZH : Hid ((Try.prog.info? 24).bind (·.zero) = some (.agg hz)) := by show _ = _; kernel_rfl
  have HI := Lib.hid (hinfo' zeros32 rfl)
  have NO := (Blk.new w hz 24).alloc (.cells hz 24)
  have NB := Blk.new (w.alloc (.cells hz 24)) hz 24
  rw [World.size_alloc] at NB
  have hB := ((Below.refl w.heap.size w).alloc (Nat.le_refl _) (.cells hz 24)).alloc (by simp) (.cells hz 24)
  have NOH := Lib.hid NO
  have NBH := Lib.hid NB
  clear NO NB
  have hbs : b.size = b.data.toList.length := by rw [Array.length_toList]; rfl
  have HO := Lib.hid (bytes_all zeros32)
  rw [← hz32] at HI HO
  by_cases h64 : b.size = 64
  · have HL := Lib.hid (show b.data.toList.length = 64 by omega)
    have hs64 : (b.size : Int) = 64 := by omega
    clear h64 hbs
    go_enter Try.func19, Try.ntmps19
    go_wp2_with (refine wpList_alloc_row rfl 24 rfl hz ZH.out ?_)
    have NO := NOH.out
    have NB := NBH.out
    clear NOH NBH
    generalize (w.alloc (.cells hz 24)).alloc (.cells hz 24) = w2 at *
    go_loopw [5] (fun i wr => ∃ (k : Nat) (l : List UInt8), k ≤ 64 ∧ i = .int .i64 k ∧ Hid (rd b.data.toList k = some l) ∧ Blk wr w.heap.size hz 24 ∧ Blk wr (w.heap.size + 1) (hrow l) 24 ∧ Below w.heap.size w wr) (fun i _ => 64 - (intOf i).toNat)
    case atStart => exact ⟨0, zeros32, by omega, rfl, rfl, NO, NB, hB⟩
    case round =>
      clear NO NB hB
      obtain ⟨k, l, hk, rfl, HK, NO, NB, hB⟩ := hrel
      have hll := rd_length _ _ _ HK.out
      by_cases hlt : k < 64
      · obtain ⟨x, hxx⟩ : ∃ x, b.data.toList[k]? = some x := ⟨b.data.toList[k]'(by rw [HL.out]; omega), List.getElem?_eq_getElem _⟩
        have k1 : (k : Int) < 64 := by omega
        have HXX := Lib.hid hxx
        clear hxx
        go_wp2_with fail
        go_loopw [6, 7] (fun n i ws => ∃ j : Nat, j ≤ 16 ∧ i = .int .i64 j ∧ n = .int .i64 (hxTo x j) ∧ Below wr.heap.size wr ws) (fun _ i _ => 16 - (intOf i).toNat)
        case atStart => exact ⟨0, by omega, rfl, rfl, Below.refl _ _⟩
        case round =>
          obtain ⟨j, hj, rfl, rfl, hb⟩ := hrel
          by_cases hlj : j < 16
          · have i1 := index_digs64 j hlj
            have i2 := str_at b k x HXX.out
            have j1 : (j : Int) < 16 := by omega
            have hD : hxTo x (j + 1) = if digs.getD j 0 = x then (j : Int) else hxTo x j := rfl
            generalize digs.getD j 0 = d at *
            by_cases hd : d = x
            · subst hd
              rw [if_pos rfl] at hD
              have HD := Lib.hid hD
              clear hD
              go_wp2_with fail
              refine wp_region_after (by kernel_rfl) (by kernel_rfl) ?_
              repeat (go_big_quiet_step (fail))
              refine wpQuiet_nil ?_
              rintro w5 ⟨x5, rfl⟩
              have hb5 := hb.trans (x5.hb.mono hb.size)
              generalize x5.W = w5 at *
              go_wp2_with fail
              go_roundw
              case rel => exact ⟨j + 1, by omega, by go_num, by rw [HD.out], hb5⟩
              case measure => simp [intOf]; omega
            · rw [if_neg hd] at hD
              have HD := Lib.hid hD
              have hne : ((d.toNat : Int) == (x.toNat : Int)) = false := by
                rw [beq_eq_false_iff_ne]; intro h; exact hd (UInt8.toNat_inj.1 (by omega))
              clear hD
              go_wp2_with fail
              refine wp_region_after (by kernel_rfl) (by kernel_rfl) ?_
              repeat (go_big_quiet_step (fail))
              refine wpQuiet_nil ?_
              rintro w5 ⟨x5, rfl⟩
              have hb5 := hb.trans (x5.hb.mono hb.size)
              generalize x5.W = w5 at *
              go_wp2_with fail
              go_roundw
              case rel => exact ⟨j + 1, by omega, by go_num, by rw [HD.out], hb5⟩
              case measure => simp [intOf]; omega
          · obtain rfl : j = 16 := by omega
            have NO := NO.below hb NO.lt
            have NB := NB.below hb NB.lt
            have hB := hB.trans (hb.mono hB.size)
            have HH := hx_lt x
            have HQ : hxTo x 16 = hx x := rfl
            rw [HQ]
            clear HQ hlj hj hb
            by_cases h0 : hx x < 0
            · have HN := Lib.hid (readS_stop HL.out (rd_stop HK.out HXX.out h0 hlt))
              have NOH := Lib.hid NO
              generalize hx x = n at *
              go_wp2_with (first
                | (refine wpList_store_row rfl 24 (.tmp 2) (.tmp 29) rfl w.heap.size hz rfl rfl 24 _ NOH.out HI.out rfl HO.out ?_))
              refine bodyPost_ret (v := .tuple #[.agg hz, .bool false]) ?_ rfl ⟨by rw [HN.out]; rfl, Below.setRow hB (Nat.le_refl _) _⟩
              exact results_cell_row_tmp rfl _ _ _ _ _ _ _ rfl (NO.row _) Try.underlying24 rfl HI.out _ rfl
            · have HS := Lib.hid (rd_step HK.out HXX.out (by omega))
              obtain ⟨v, hv⟩ : ∃ v, l[k / 2]? = some v := ⟨l[k / 2]'(by omega), List.getElem?_eq_getElem (by omega)⟩
              have c2 := NB.cell (k / 2) _ (hrow_get l (k / 2) v hv)
              have f2 := NB.frozen (k / 2)
              have k2 : (k : Int) / 2 < 32 := by omega
              have k3 : 0 ≤ (k : Int) / 2 := by omega
              have HP := Lib.hid (rput_row' l k (hx x) v hv (by omega) (by omega))
              generalize hx x = n at *
              have n0 : 0 ≤ n := by omega
              have n1 : n < 16 := by omega
              go_wp2_with fail
              go_roundw
              case rel =>
                refine ⟨k + 1, _, by omega, by go_num, HS.out, NO.other (a := ⟨w.heap.size + 1, k / 2, none⟩) (by simp) _, ?_, hB.setCell (by simp) _⟩
                rw [← HP.out]
                exact NB.set _ _
              case measure => simp [intOf]; omega
      · obtain rfl : k = 64 := by omega
        have HR := Lib.hid (readS_end HL.out HK.out)
        have HI := Lib.hid (hinfo' l hll)
        have HO := Lib.hid (bytes_all l)
        have HZ := Lib.hid (hz_size l hll)
        have NBH := Lib.hid NB
        have NOH := Lib.hid NO
        clear hlt hk
        go_wp2_with (first
          | (refine wpList_load_row rfl 24 (.tmp 4) rfl (w.heap.size + 1) rfl _ _ _ _ NBH.out Try.underlying24 rfl HI.out ?_)
          | (refine wpList_store_row rfl 24 (.tmp 2) (.tmp 41) rfl w.heap.size (hrow l) rfl rfl 24 _ NOH.out HI.out HZ.out HO.out ?_))
        refine bodyPost_ret (v := .tuple #[.agg (hrow l), .bool true]) ?_ rfl ⟨by rw [HR.out], Below.setRow hB (Nat.le_refl _) _⟩
        exact results_cell_row_tmp rfl _ _ _ _ _ _ _ rfl (NO.row _) Try.underlying24 rfl HI.out _ rfl
  · have hr := readS_no (cs := b.data.toList) (by omega)
    have HR := Lib.hid hr
    have hne : ((b.size : Int) == 64) = false := by rw [beq_eq_false_iff_ne]; omega
    clear hr h64 hbs
    go_enter Try.func19, Try.ntmps19
    go_wp2_with (first
      | (refine wpList_alloc_row rfl 24 rfl hz ZH.out ?_)
      | (refine wpList_load_row rfl 24 (.tmp 4) rfl (w.heap.size + 1) rfl _ _ _ _ NBH.out Try.underlying24 rfl HI.out ?_)
      | (refine wpList_store_row rfl 24 (.tmp 2) (.tmp 11) rfl w.heap.size hz rfl rfl 24 _ NOH.out HI.out rfl HO.out ?_))
    refine bodyPost_ret (v := .tuple #[.agg hz, .bool false]) ?_ rfl ⟨by rw [HR.out]; rfl, Below.setRow hB (Nat.le_refl _) _⟩
    exact results_cell_row_tmp rfl _ _ _ _ _ _ _ rfl (NOH.out.row _) Try.underlying24 rfl HI.out _ rfl
end Go.Proofs.Ytgkdfnmgbobamaa
