/- Arguments that are slices of strings, of bytes, of hashes, opened. Conditions: none. A slice of hashes as an argument, opened. Conditions: none. -/
import Derived.Test.YtjekdeikoebmgaaTSan
import Derived.Test.YtjekdeikoebmgaaTrP
import Derived.Test.YtjekdeikoebmgaaKit
import Derived.SliceStrings
import Derived.ChangeMaps5
namespace Go.Proofs.Ytjekdeikoebmgaa
open Go.ChangeShapes Go.WideShapes Go.ChangeAt Go.RowKit Go.Shelf Go.ChangeMaps

theorem weightsAll_mem {H : Type} {P : Program} {e : TypeId} : ∀ {l : List (DataW H)} {d : DataW H}, d ∈ l → ∀ n ∈ d.weights P e, n ∈ DataW.weightsAll P e l
  | _ :: _, _, h, n, hn => by
    simp only [DataW.weightsAll, List.mem_append]
    rcases List.mem_cons.1 h with rfl | h
    · exact .inl hn
    · exact .inr (weightsAll_mem h n hn)
theorem weights_le {H : Type} {P : Program} {ts : List TypeId} {ds : List (DataW H)} (h : (DataW.weightsEach P ts ds).all (· ≤ reachBytes) = true) {j : Nat} {t : TypeId} {d : DataW H} (ht : ts[j]? = some t) (hd : ds[j]? = some d) : ∀ n ∈ d.weights P t, n ≤ reachBytes := fun n hn => by
  have := List.all_eq_true.1 h _ (DataW.weights_mem_each ht hd n hn)
  simpa using this
theorem cellsOf_str : Try.prog.cellsOf 9 = 1 := by kernel_rfl
theorem bytesOf_str : Try.prog.bytesOf 9 = 16 := by kernel_rfl
theorem cellsOf_u8 : Try.prog.cellsOf 5 = 1 := by kernel_rfl
theorem str_back (s : ByteArray) : S s.data.toList = .string s := by cases s; rfl

/-- Strings as an argument. -/
theorem open_strsA {H : Type} {enc : TypeId × Value → H} {W : World} {base : Nat} {v : Value} {d : Go.DataW H} {ps : List MemPlace}
    (hval : Value.okWide Try.prog W .any base 22 v) (hd : DataW.Trod enc Try.prog W 0 (fun _ => true) true 22 v d ps) (hz : ∀ n ∈ d.weights Try.prog 22, n ≤ reachBytes) :
    ∃ l : List (List UInt8), SArg W v l ∧ l.length ≤ 8796093021952 ∧ ∀ s ∈ l, s.length ≤ 140737488351232 := by
  obtain ⟨a0, len, cap, rfl⟩ := okWide_slice Try.underlying22 hval
  obtain ⟨fuel, hf⟩ := hd
  rcases open_strings Try.underlying22 Try.underlying9 cellsOf_str hf with ⟨hcs, _⟩ | ⟨a, len', cap', ss, hcs, _, hl, hm, hlen, hx, hcell, _⟩
  · have : Value.slice a0 len cap = .slice none 0 0 := by simpa [Value.cells] using hcs
    rw [this]
    exact ⟨[], SArg.nil W, by simp, by simp⟩
  · have : Value.slice a0 len cap = .slice (some a) len' cap' := by simpa [Value.cells] using hcs
    rw [this]
    have hlen : ss.length = cap' := by simpa using hlen
    have hd : d = .slice (strs (ss.take len')) (strs (ss.drop len')) := congrArg Prod.fst hx
    subst hd
    have hb : reachBytes = 140737488351232 := rfl
    refine ⟨(ss.take len').map (fun s => s.data.toList), ⟨some a, cap', ?_, ?_, ?_⟩, ?_, ?_⟩
    · simp; omega
    · simp; omega
    · intro hne
      have h0 : 0 < ss.length := by
        rcases Nat.eq_zero_or_pos ss.length with h | h
        · rw [List.length_eq_zero_iff.1 h] at hne; simp at hne
        · exact h
      obtain ⟨b, off, spot⟩ := a
      have c0 := hcell 0 h0
      have hspot : spot = none := by simpa [Addr.add] using World.cell?_spot c0
      subst hspot
      refine ⟨b, off, rfl, fun i s hs => ?_⟩
      rw [List.getElem?_map] at hs
      obtain ⟨x, hx1, rfl⟩ := Option.map_eq_some_iff.1 hs
      have hi : ss[i]? = some x := by
        rw [List.getElem?_take] at hx1
        split at hx1
        · exact hx1
        · cases hx1
      have hi2 := (List.getElem?_eq_some_iff.1 hi)
      have c := hcell i hi2.1
      rw [Addr.add_lit] at c
      rw [c, str_back, List.getD_eq_getElem?_getD, hi]; rfl
    · have := hz _ (by simp only [DataW.weights, Try.underlying22]; exact List.mem_cons_self)
      rw [bytesOf_str, hb] at this
      simp [strs] at this ⊢
      omega
    · intro s hs
      obtain ⟨x, hx1, rfl⟩ := List.mem_map.1 hs
      have := hz x.data.toList.length (by
        simp only [DataW.weights, Try.underlying22]
        refine List.mem_cons_of_mem _ (List.mem_append_left _ ?_)
        exact weightsAll_mem (d := .lit (.string x.data.toList)) (List.mem_map.2 ⟨x, hx1, rfl⟩) _ (by simp [DataW.weights]))
      omega
/-- A hash as an argument. -/
theorem open_hash {H : Type} {enc : TypeId × Value → H} {W : World} {base : Nat} {v : Value} {d : Go.DataW H} {ps : List MemPlace}
    (hval : Value.okWide Try.prog W .any base 24 v) (hd : DataW.Trod enc Try.prog W 0 (fun _ => true) true 24 v d ps) : ∃ l : List UInt8, l.length = 32 ∧ v = .agg (hrow l) := by
  obtain ⟨zs, h1, rfl, h2⟩ := open_int_array (k := .u8) Try.underlying24 Try.underlying5 (by kernel_rfl) (by kernel_rfl) hval hd
  refine ⟨zs.map fun z => UInt8.ofNat z.toNat, by simp [h1], ?_⟩
  unfold hrow
  rw [List.map_map]
  congr 2
  apply List.map_congr_left
  intro z hz
  have h3 : 0 ≤ z ∧ z ≤ 255 := by simpa [Lit.wf, IntKind.min, IntKind.max, IntKind.signed, IntKind.bits] using h2 z hz
  show Value.int .u8 z = Y (UInt8.ofNat z.toNat)
  congr 1
  rw [UInt8.toNat_ofNat']; omega

/-- A slice of bytes as an argument: at least its first bytes. -/
theorem open_u8sA {H : Type} {enc : TypeId × Value → H} {W : World} {base : Nat} {v : Value} {d : Go.DataW H} {ps : List MemPlace}
    (hval : Value.okWide Try.prog W .any base 30 v) (hd : DataW.Trod enc Try.prog W 0 (fun _ => true) true 30 v d ps) :
    ∃ (l : List UInt8) (a : Option Addr) (cap : Nat), v = .slice a l.length cap ∧ l.length ≤ cap ∧ l.length ≤ maxLen ∧ (l ≠ [] → ∃ g o, a = some ⟨g, o, none⟩ ∧ ∀ (i : Nat) (x : UInt8), l[i]? = some x → W.cell? ⟨g, o + i, none⟩ = some (Y x)) := by
  obtain ⟨a0, len, cap, rfl⟩ := okWide_slice Try.underlying30 hval
  obtain ⟨fuel, hf⟩ := hd
  rcases open_ints Try.underlying30 Try.underlying5 cellsOf_u8 hf with ⟨hcs, _⟩ | ⟨a, len', cap', zs, hcs, _, hl, hm, hlen, hx, hcell, hwf⟩
  · have : Value.slice a0 len cap = .slice none 0 0 := by simpa [Value.cells] using hcs
    rw [this]
    exact ⟨[], none, 0, rfl, Nat.le_refl _, by simp [maxLen], fun h => absurd rfl h⟩
  · have : Value.slice a0 len cap = .slice (some a) len' cap' := by simpa [Value.cells] using hcs
    rw [this]
    have hlen : zs.length = cap' := by simpa using hlen
    refine ⟨(zs.take len').map fun z => UInt8.ofNat z.toNat, some a, cap', ?_, ?_, ?_, ?_⟩
    · simp; omega
    · simp; omega
    · simp; omega
    · intro hne
      have h0 : 0 < zs.length := by
        rcases Nat.eq_zero_or_pos zs.length with h | h
        · rw [List.length_eq_zero_iff.1 h] at hne; simp at hne
        · exact h
      obtain ⟨b, off, spot⟩ := a
      have c0 := hcell 0 h0
      have hspot : spot = none := by simpa [Addr.add] using World.cell?_spot c0
      subst hspot
      refine ⟨b, off, rfl, fun i s hs => ?_⟩
      rw [List.getElem?_map] at hs
      obtain ⟨x, hx1, rfl⟩ := Option.map_eq_some_iff.1 hs
      have hi : zs[i]? = some x := by
        rw [List.getElem?_take] at hx1
        split at hx1
        · exact hx1
        · cases hx1
      have hi2 := (List.getElem?_eq_some_iff.1 hi)
      have c := hcell i hi2.1
      rw [Addr.add_lit] at c
      have h3 : 0 ≤ x ∧ x ≤ 255 := by simpa [Lit.wf, IntKind.min, IntKind.max, IntKind.signed, IntKind.bits] using hwf x (List.mem_of_getElem? hi)
      rw [c, List.getD_eq_getElem?_getD, hi]
      show some (Value.int .u8 x) = some (Y (UInt8.ofNat x.toNat))
      congr 2
      rw [UInt8.toNat_ofNat']; omega
end Go.Proofs.Ytjekdeikoebmgaa

namespace Go.Proofs.Ytjekdeikoebmgaa
open Go.ChangeShapes Go.WideShapes Go.ChangeAt Go.RowKit Go.Shelf Go.ChangeMaps Tr

theorem int_cells {H : Type} {enc : TypeId × Value → H} {P : Program} {W : World} {base fuel n : Nat} {spare : Nat → Bool} {t e : TypeId} {k : IntKind} {cs : List Value} {x : DataW H × List MemPlace}
    (ht : P.underlying t = some (.array n e)) (he : P.underlying e = some (.int k)) (hc : P.cellsOf e = 1) (hct : P.cellsOf t = n)
    (h : DataW.trod enc P W base spare true fuel t cs = some x) : cs.length = n ∧ ∀ (i : Nat) (v : Value), cs[i]? = some v → ∃ z, v = Value.int k z ∧ (Lit.int k z).wf = true := by
  obtain ⟨xs, m, rfl, hx, hlen, hxs, hel⟩ := DataW.trod_array ht h
  have hcs : cs.length = n := hlen.trans hct
  refine ⟨hcs, fun i v hv => ?_⟩
  obtain ⟨hi, hv⟩ := List.getElem?_eq_some_iff.1 hv
  have h1 := hel i (by omega)
  rw [hc] at h1
  have h2 : ((cs.drop (i * 1)).take 1) = [v] := by
    rw [Nat.mul_one, List.drop_eq_getElem_cons hi, hv]; rfl
  rw [h2] at h1
  clear hel hv h2
  cases m with
  | zero => simp [DataW.trod] at h1; omega
  | succ m =>
    rw [List.getElem?_eq_getElem (by omega)] at h1
    unfold DataW.trod at h1
    rw [he] at h1
    cases v <;> simp at h1
    rename_i k' z
    obtain ⟨⟨rfl, hw⟩, _⟩ := h1
    exact ⟨z, rfl, hw⟩

/-- The cells of what reads as a hash. -/
theorem hash_cells {H : Type} {enc : TypeId × Value → H} {W : World} {base n : Nat} {spare : Nat → Bool} {cs : List Value} {x : DataW H × List MemPlace}
    (h : DataW.trod enc Try.prog W base spare true n 24 cs = some x) : ∃ l : List UInt8, l.length = 32 ∧ cs = l.map Y := by
  obtain ⟨hl, hel⟩ := int_cells (k := .u8) Try.underlying24 Try.underlying5 (by kernel_rfl) (by kernel_rfl) h
  have key : ∀ v ∈ cs, ∃ b : UInt8, v = Y b := by
    intro v hv
    obtain ⟨i, hi⟩ := List.getElem?_of_mem hv
    obtain ⟨z, rfl, hw⟩ := hel i v hi
    have h3 : 0 ≤ z ∧ z ≤ 255 := by simpa [Lit.wf, IntKind.min, IntKind.max, IntKind.signed, IntKind.bits] using hw
    refine ⟨UInt8.ofNat z.toNat, ?_⟩
    show Value.int .u8 z = Y (UInt8.ofNat z.toNat)
    congr 1
    rw [UInt8.toNat_ofNat']; omega
  have : ∀ cs : List Value, (∀ v ∈ cs, ∃ b : UInt8, v = Y b) → ∃ l : List UInt8, cs = l.map Y := by
    intro cs
    induction cs with
    | nil => intro _; exact ⟨[], rfl⟩
    | cons v r ih =>
      intro hk
      obtain ⟨b, rfl⟩ := hk v (by simp)
      obtain ⟨l, rfl⟩ := ih (fun u hu => hk u (by simp [hu]))
      exact ⟨b :: l, rfl⟩
  obtain ⟨l, rfl⟩ := this cs key
  exact ⟨l, by simpa using hl, rfl⟩
theorem cellsOf_hash : Try.prog.cellsOf 24 = 32 := by kernel_rfl

theorem Addr.add_lit2 (a : Addr) (i j : Nat) : a.add (i + j) = (a.add i).add j := by
  unfold Addr.add
  by_cases hi : i = 0
  · subst hi; by_cases hj : j = 0 <;> simp [hj]
  · by_cases hj : j = 0 <;> simp [hi, hj, Nat.add_assoc]

/-- Hashes as an argument: at least its first ones. -/
theorem open_hashesA {H : Type} {enc : TypeId × Value → H} {W : World} {base : Nat} {v : Value} {d : Go.DataW H} {ps : List MemPlace}
    (hval : Value.okWide Try.prog W .any base 32 v) (hd : DataW.Trod enc Try.prog W 0 (fun _ => true) true 32 v d ps) :
    ∃ l : List (List UInt8), HArg W v l ∧ All32 l ∧ l.length ≤ maxLen := by
  obtain ⟨a0, len, cap, rfl⟩ := okWide_slice Try.underlying32 hval
  obtain ⟨fuel, hf⟩ := hd
  rcases DataW.trod_slice Try.underlying32 hf with ⟨hcs, _⟩ | ⟨a, len', cap', elems, rest, n, _, hcs, _, hb, hl, hm, hlen, hel, _, _⟩
  · have : Value.slice a0 len cap = .slice none 0 0 := by simpa [Value.cells] using hcs
    rw [this]
    exact ⟨[], HArg.nil W, by intro x hx; simp at hx, by simp [maxLen]⟩
  · have : Value.slice a0 len cap = .slice (some a) len' cap' := by simpa [Value.cells] using hcs
    rw [this]
    clear this hcs hf hval
    rw [cellsOf_hash] at hel
    have key : ∀ i, i < len' → ∃ l : List UInt8, l.length = 32 ∧ ∀ j v, (l.map Y)[j]? = some v → W.cell? (a.add (i * 32 + j)) = some v := by
      intro i hi
      have h1 := hel i hi
      rw [List.getElem?_eq_getElem (by omega), Option.bind_eq_some_iff] at h1
      obtain ⟨cs, h2, h3⟩ := h1
      obtain ⟨l, h4, rfl⟩ := hash_cells h3
      refine ⟨l, h4, fun j v hv => ?_⟩
      have hj := (List.getElem?_eq_some_iff.1 hv).1
      rw [List.length_map, h4] at hj
      have := (World.cells?_some h2).2.2 j hj
      rw [hv] at this
      rw [← this]
      congr 1
      rw [Addr.add_lit2]
    have all : ∀ m, m ≤ len' → ∃ l : List (List UInt8), l.length = m ∧ All32 l ∧ ∀ j v, (hcells l)[j]? = some v → W.cell? (a.add j) = some v := by
      intro m
      induction m with
      | zero => intro _; exact ⟨[], rfl, by intro x hx; simp at hx, by intro j v hv; simp [hcells] at hv⟩
      | succ m ih =>
        intro hm'
        obtain ⟨l, h1, h2, h3⟩ := ih (by omega)
        obtain ⟨x, h4, h5⟩ := key m (by omega)
        refine ⟨l ++ [x], by simp [h1], ?_, ?_⟩
        · intro y hy
          rcases List.mem_append.1 hy with h | h
          · exact h2 y h
          · simp at h; subst h; exact h4
        · intro j v hv
          have hl32 := hcells_length h2
          rw [hcells_append, hcells_one] at hv
          by_cases hj : j < l.length * 32
          · rw [List.getElem?_append_left (by omega)] at hv
            exact h3 j v hv
          · rw [List.getElem?_append_right (by omega)] at hv
            have := h5 _ v hv
            rw [hl32, h1] at this
            rw [← this]
            congr 2
            omega
    obtain ⟨l, h1, h2, h3⟩ := all len' (Nat.le_refl _)
    refine ⟨l, ⟨some a, cap', by rw [h1], by omega, fun hne => ?_⟩, h2, by omega⟩
    obtain ⟨b, off, spot⟩ := a
    have h0 : ∃ v, (hcells l)[0]? = some v := by
      cases l with
      | nil => exact absurd rfl hne
      | cons x r =>
        have := hcells_length h2
        rw [List.length_cons] at this
        exact ⟨_, List.getElem?_eq_getElem (by omega)⟩
    obtain ⟨v0, hv0⟩ := h0
    have c0 := h3 0 v0 hv0
    have hspot : spot = none := by simpa [Addr.add] using World.cell?_spot c0
    subst hspot
    refine ⟨b, off, rfl, fun j v hv => ?_⟩
    have := h3 j v hv
    rwa [Addr.add_lit] at this
end Go.Proofs.Ytjekdeikoebmgaa
