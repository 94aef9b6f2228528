/- Shares that are chosen: each at most once. Conditions: none. -/
import Derived.Test.YtdnabeldaighgaaAgm
namespace Go.Proofs.Ytdnabeldaighgaa
open Go.RowKit Go.Shelf Shr Pol

theorem chst_perm (st : List (Int × Int) × List (Int × Int)) (p : Int) : (st.2 ++ st.1).Perm ((chst st p).2 ++ (chst st p).1) := by
  unfold chst
  split
  · exact List.Perm.refl _
  · rename_i h
    obtain ⟨k, hk⟩ := Int.eq_ofNat_of_zero_le (Int.emod_nonneg p (show (st.1.length : Int) ≠ 0 by omega))
    have hlt : k < st.1.length := by have := Int.emod_lt_of_pos p (show 0 < (st.1.length : Int) by omega); omega
    rw [hk, Int.toNat_natCast, List.getD_eq_getElem?_getD, List.getElem?_eq_getElem hlt]
    simp only [Option.getD_some]
    rw [List.append_assoc]
    refine List.Perm.append_left _ ?_
    have h1 : st.1 = st.1.take k ++ st.1[k] :: st.1.drop (k + 1) := by
      rw [← List.drop_eq_getElem_cons hlt, List.take_append_drop]
    have h2 : (st.1.take k ++ st.1[k] :: st.1.drop (k + 1)).Perm (st.1[k] :: (st.1.take k ++ st.1.drop (k + 1))) := List.perm_middle
    rw [← h1] at h2
    exact h2
theorem fold_perm : ∀ (pk : List Int) (st : List (Int × Int) × List (Int × Int)), (st.2 ++ st.1).Perm ((pk.foldl chst st).2 ++ (pk.foldl chst st).1)
  | [], _ => List.Perm.refl _
  | p :: pk, st => (chst_perm st p).trans (fold_perm pk (chst st p))
theorem choS_mem {l : List (Int × Int)} {pk : List Int} {p : Int × Int} (h : p ∈ choS l pk) : p ∈ l := by
  have h1 := fold_perm pk (l, [])
  have h2 : p ∈ (pk.foldl chst (l, [])).2 ++ (pk.foldl chst (l, [])).1 := List.mem_append_left _ h
  have h3 := (h1.mem_iff).2 h2
  simpa using h3
theorem choS_nodup {l : List (Int × Int)} (pk : List Int) (h : (l.map Prod.fst).Nodup) : ((choS l pk).map Prod.fst).Nodup := by
  have h1 := (fold_perm pk (l, [])).map Prod.fst
  have h2 := h1.nodup_iff.1 (by simpa using h)
  rw [List.map_append] at h2
  exact (List.nodup_append.1 h2).1
theorem choS_len (l : List (Int × Int)) (pk : List Int) : (choS l pk).length ≤ l.length := by
  have := fold_chst_len pk (l, [])
  have h0 : (l, ([] : List (Int × Int))).1.length + (l, ([] : List (Int × Int))).2.length = l.length := by simp
  unfold choS
  omega
theorem OwnSh.one (w : World) (base : Nat) (hb : base ≤ w.heap.size) (x y : Int) : OwnSh (w.alloc (.cells #[I x, I y] 33)) base (.slice (some ⟨w.heap.size, 0, none⟩) 1 1) [(x, y)] := by
  have NB := Blk.new w #[I x, I y] 33
  refine .inr ⟨_, 1, rfl, rfl, Nat.le_refl _, hb, by simp, by simp [shc], fun j hj => ?_, fun j _ => NB.frozen j, fun j v hv => ?_⟩
  · match j, hj with
    | 0, _ => rw [NB.cell 0 (I x) rfl]; rfl
    | 1, _ => rw [NB.cell 1 (I y) rfl]; rfl
  · rw [Nat.zero_add]
    exact NB.cell j v (by simpa [shc] using hv)
theorem headD_get {l : List Int} (h : 1 ≤ l.length) : l[0]? = some (l.headD 0) := by
  cases l with
  | nil => simp at h
  | cons c r => rfl
theorem joinS_nil (q : Int) : joinS q [] = (0, false) := joinS_no (by simp; omega)
end Go.Proofs.Ytdnabeldaighgaa
