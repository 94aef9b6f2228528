/- Trees of hashes as plain functions on lists of strings: roots, paths, growths, what binds them. No program here. Conditions: none. -/
import Derived.Test.YtjekdeikoebmgaaSha
namespace Go.Proofs.Ytjekdeikoebmgaa
namespace Tr
/-- The greatest power of 2 that is less than n. -/
def halfGo : Nat → Nat → Nat → Nat
  | 0, _, k => k
  | f + 1, n, k => if n ≤ 2 * k then k else halfGo f n (2 * k)
def half (n : Nat) : Nat := halfGo n n 1
theorem halfGo_eq (f n k : Nat) (h : n ≤ 2 * k) : halfGo f n k = k := by
  cases f with
  | zero => rfl
  | succ f => rw [halfGo, if_pos h]
/-- Fuel does not matter, if there is enough. -/
theorem halfGo_fuel : ∀ (f g n k : Nat), n ≤ k * 2 ^ f → n ≤ k * 2 ^ g → halfGo f n k = halfGo g n k
  | 0, g, n, k, h, _ => by rw [halfGo_eq g n k (by omega)]; rfl
  | f + 1, 0, n, k, _, h => by rw [halfGo_eq (f + 1) n k (by omega)]; rfl
  | f + 1, g + 1, n, k, h1, h2 => by
    rw [halfGo, halfGo]
    split
    · rfl
    · exact halfGo_fuel f g n (2 * k) (by rw [Nat.pow_succ] at h1; rw [Nat.mul_comm 2 k, Nat.mul_assoc, Nat.mul_comm 2]; exact h1) (by rw [Nat.pow_succ] at h2; rw [Nat.mul_comm 2 k, Nat.mul_assoc, Nat.mul_comm 2]; exact h2)
theorem halfGo_lt : ∀ (f n k : Nat), 1 ≤ k → k < n → halfGo f n k < n ∧ 1 ≤ halfGo f n k
  | 0, n, k, h0, h => ⟨h, h0⟩
  | f + 1, n, k, h0, h => by
    rw [halfGo]
    split
    · exact ⟨h, h0⟩
    · exact halfGo_lt f n (2 * k) (by omega) (by omega)
theorem halfGo_ge : ∀ (f n k : Nat), n ≤ k * 2 ^ f → n ≤ 2 * halfGo f n k
  | 0, n, k, h => by rw [halfGo]; omega
  | f + 1, n, k, h => by
    rw [halfGo]
    split
    · assumption
    · exact halfGo_ge f n (2 * k) (by rw [Nat.pow_succ] at h; rw [Nat.mul_comm 2 k, Nat.mul_assoc, Nat.mul_comm 2]; exact h)
theorem halfGo_mono : ∀ (f n k : Nat), k ≤ halfGo f n k
  | 0, _, k => Nat.le_refl k
  | f + 1, n, k => by
    rw [halfGo]
    split
    · exact Nat.le_refl k
    · have := halfGo_mono f n (2 * k)
      omega
theorem half_lt {n : Nat} (h : 2 ≤ n) : half n < n := (halfGo_lt n n 1 (by omega) (by omega)).1
theorem half_pos {n : Nat} (h : 2 ≤ n) : 1 ≤ half n := (halfGo_lt n n 1 (by omega) (by omega)).2
theorem half_ge (n : Nat) : n ≤ 2 * half n := halfGo_ge n n 1 (by have := Nat.lt_two_pow_self (n := n); omega)

def leaf (s : List UInt8) : List UInt8 := Sha.sum (0 :: s)
def node (a b : List UInt8) : List UInt8 := Sha.sum (1 :: (a ++ b))
theorem leaf_length (s : List UInt8) : (leaf s).length = 32 := Sha.sum_length _
theorem node_length (a b : List UInt8) : (node a b).length = 32 := Sha.sum_length _
theorem node_inj {a b c d : List UInt8} (ha : a.length = 32) (hc : c.length = 32) (h : (1 : UInt8) :: (a ++ b) = 1 :: (c ++ d)) : a = c ∧ b = d := by
  injection h with _ h
  exact List.append_inj h (by omega)

def root (l : List (List UInt8)) : List UInt8 :=
  match l with
  | [] => Sha.sum []
  | [s] => leaf s
  | s :: t :: r => node (root ((s :: t :: r).take (half (r.length + 2)))) (root ((s :: t :: r).drop (half (r.length + 2))))
termination_by l.length
decreasing_by
  · have := half_lt (n := r.length + 2) (by omega)
    simp [List.length_take]; omega
  · have := half_pos (n := r.length + 2) (by omega)
    simp [List.length_drop]; omega
theorem root_nil : root [] = Sha.sum [] := by rw [root]
theorem root_one {l : List (List UInt8)} {s : List UInt8} (h : l = [s]) : root l = leaf s := by subst h; rw [root]
theorem root_two {l : List (List UInt8)} (h : 2 ≤ l.length) : root l = node (root (l.take (half l.length))) (root (l.drop (half l.length))) := by
  match l, h with
  | s :: t :: r, _ => rw [root]; rfl
theorem root_length (l : List (List UInt8)) : (root l).length = 32 := by
  match l with
  | [] => rw [root_nil]; exact Sha.sum_length _
  | [s] => rw [root_one rfl]; exact leaf_length s
  | s :: t :: r => rw [root_two (by simp)]; exact node_length _ _

/-- The path of string n, from the leaf on. -/
def path (l : List (List UInt8)) (n : Nat) : List (List UInt8) :=
  if _h : l.length ≤ 1 then [] else
  if n < half l.length then path (l.take (half l.length)) n ++ [root (l.drop (half l.length))]
  else path (l.drop (half l.length)) (n - half l.length) ++ [root (l.take (half l.length))]
termination_by l.length
decreasing_by
  · have := half_lt (n := l.length) (by omega)
    simp [List.length_take]; omega
  · have := half_pos (n := l.length) (by omega)
    simp [List.length_drop]; omega
theorem path_one {l : List (List UInt8)} (h : l.length ≤ 1) (n : Nat) : path l n = [] := by rw [path, dif_pos h]
theorem path_left {l : List (List UInt8)} (h : 2 ≤ l.length) {n : Nat} (hn : n < half l.length) : path l n = path (l.take (half l.length)) n ++ [root (l.drop (half l.length))] := by
  rw [path, dif_neg (by omega), if_pos hn]
theorem path_right {l : List (List UInt8)} (h : 2 ≤ l.length) {n : Nat} (hn : ¬ n < half l.length) : path l n = path (l.drop (half l.length)) (n - half l.length) ++ [root (l.take (half l.length))] := by
  rw [path, dif_neg (by omega), if_neg hn]
def All32 (l : List (List UInt8)) : Prop := ∀ x ∈ l, x.length = 32
theorem All32.nil : All32 [] := by intro x hx; cases hx
theorem All32.snoc {l : List (List UInt8)} (h : All32 l) {x : List UInt8} (hx : x.length = 32) : All32 (l ++ [x]) := by
  intro y hy
  rcases List.mem_append.1 hy with h1 | h1
  · exact h y h1
  · rw [List.mem_singleton.1 h1]; exact hx
theorem All32.append {l k : List (List UInt8)} (h : All32 l) (hk : All32 k) : All32 (l ++ k) := by
  intro y hy
  rcases List.mem_append.1 hy with h1 | h1
  · exact h y h1
  · exact hk y h1
theorem All32.reverse {l : List (List UInt8)} (h : All32 l) : All32 l.reverse := fun x hx => h x (List.mem_reverse.1 hx)
theorem path_all (l : List (List UInt8)) (n : Nat) : All32 (path l n) := by
  induction l, n using path.induct with
  | case1 l n h => rw [path_one h]; exact All32.nil
  | case2 l n h hn ih => rw [path_left (by omega) hn]; exact ih.snoc (root_length _)
  | case3 l n h hn ih => rw [path_right (by omega) hn]; exact ih.snoc (root_length _)

/-- The sides of the way to string i of n, from the leaf on: is the hash beside it at the left? -/
def way (i n : Nat) : List Bool :=
  if _h : n ≤ 1 then [] else
  if i < half n then way i (half n) ++ [false] else way (i - half n) (n - half n) ++ [true]
termination_by n
decreasing_by
  · exact half_lt (by omega)
  · have := half_pos (n := n) (by omega)
    omega
theorem way_one {n : Nat} (h : n ≤ 1) (i : Nat) : way i n = [] := by rw [way, dif_pos h]
theorem way_left {n i : Nat} (h : 2 ≤ n) (hn : i < half n) : way i n = way i (half n) ++ [false] := by rw [way, dif_neg (by omega), if_pos hn]
theorem way_right {n i : Nat} (h : 2 ≤ n) (hn : ¬ i < half n) : way i n = way (i - half n) (n - half n) ++ [true] := by rw [way, dif_neg (by omega), if_neg hn]
theorem path_way (l : List (List UInt8)) (n : Nat) : (path l n).length = (way n l.length).length := by
  induction l, n using path.induct with
  | case1 l n h => rw [path_one h, way_one h]; rfl
  | case2 l n h hn ih =>
    have := half_lt (n := l.length) (by omega)
    rw [path_left (by omega) hn, way_left (by omega) hn, List.length_append, List.length_append, ih, List.length_take, Nat.min_eq_left (by omega)]; rfl
  | case3 l n h hn ih =>
    rw [path_right (by omega) hn, way_right (by omega) hn, List.length_append, List.length_append, ih, List.length_drop]; rfl
def step (x : List UInt8) (b : Bool) (h : List UInt8) : List UInt8 := if b then node h x else node x h
/-- A path applied to a hash. -/
def up : List UInt8 → List Bool → List (List UInt8) → List UInt8
  | x, b :: bs, h :: hs => up (step x b h) bs hs
  | x, _, _ => x
theorem up_snoc : ∀ (bs : List Bool) (hs : List (List UInt8)) (x : List UInt8) (b : Bool) (h : List UInt8), bs.length = hs.length → up x (bs ++ [b]) (hs ++ [h]) = step (up x bs hs) b h
  | [], [], _, _, _, _ => rfl
  | _ :: bs, _ :: hs, x, b, h, e => up_snoc bs hs _ b h (by simpa using e)
theorem step_length (x : List UInt8) (b : Bool) (h : List UInt8) : (step x b h).length = 32 := by unfold step; split <;> exact node_length _ _
theorem up_length : ∀ (bs : List Bool) (hs : List (List UInt8)) (x : List UInt8), x.length = 32 → (up x bs hs).length = 32
  | [], _, _, h => by simpa [up] using h
  | _ :: _, [], _, h => by simpa [up] using h
  | b :: bs, h :: hs, x, _ => up_length bs hs _ (step_length x b h)
/-- The path of a string leads from its leaf to the root. -/
theorem up_path (l : List (List UInt8)) (n : Nat) : ∀ (s : List UInt8), l[n]? = some s → up (leaf s) (way n l.length) (path l n) = root l := by
  induction l, n using path.induct with
  | case1 l n h =>
    intro s hs
    have hn := (List.getElem?_eq_some_iff.1 hs).1
    obtain rfl : n = 0 := by omega
    have : l = [s] := by
      match l, h, hs with
      | [t], _, hs => simpa using hs
    rw [way_one h, path_one h, root_one this]; rfl
  | case2 l n h hn ih =>
    intro s hs
    have h1 := half_lt (n := l.length) (by omega)
    have h2 := ih s (by rw [List.getElem?_take, if_pos hn]; exact hs)
    rw [List.length_take, Nat.min_eq_left (by omega)] at h2
    rw [way_left (by omega) hn, path_left (by omega) hn, up_snoc _ _ _ _ _ (by rw [path_way, List.length_take, Nat.min_eq_left (by omega)]), h2, root_two (l := l) (by omega)]
    rfl
  | case3 l n h hn ih =>
    intro s hs
    have h2 := ih s (by rw [List.getElem?_drop, Nat.add_sub_cancel' (by omega)]; exact hs)
    rw [List.length_drop] at h2
    rw [way_right (by omega) hn, path_right (by omega) hn, up_snoc _ _ _ _ _ (by rw [path_way, List.length_drop]), h2, root_two (l := l) (by omega)]
    rfl

/-- CheckPath. -/
def checkP (size : Int) (rt : List UInt8) (n : Int) (s : List UInt8) (p : List (List UInt8)) : Bool :=
  if n < 0 ∨ size ≤ n then false else if (way n.toNat size.toNat).length = p.length then up (leaf s) (way n.toNat size.toNat) p == rt else false
theorem checkP_own (l : List (List UInt8)) (k : Nat) (s : List UInt8) (h : l[k]? = some s) : checkP l.length (root l) k s (path l k) = true := by
  have hn := (List.getElem?_eq_some_iff.1 h).1
  unfold checkP
  rw [if_neg (by omega), Int.toNat_natCast, Int.toNat_natCast, if_pos (path_way l k).symm, up_path l k s h]
  simp

/-- The growth with a mark. -/
def grow (l : List (List UInt8)) (m : Nat) (whole : Bool) : List (List UInt8) :=
  if _h : l.length ≤ m ∨ l.length ≤ 1 then (if whole then [] else [root l]) else
  if m ≤ half l.length then grow (l.take (half l.length)) m whole ++ [root (l.drop (half l.length))]
  else grow (l.drop (half l.length)) (m - half l.length) false ++ [root (l.take (half l.length))]
termination_by l.length
decreasing_by
  · have := half_lt (n := l.length) (by omega)
    simp [List.length_take]; omega
  · have := half_pos (n := l.length) (by omega)
    simp [List.length_drop]; omega
theorem grow_all (l : List (List UInt8)) (m : Nat) (whole : Bool) : All32 (grow l m whole) := by
  induction l, m, whole using grow.induct with
  | case1 l m h => rw [grow, dif_pos h]; exact All32.nil
  | case2 l m whole h hw =>
    rw [grow, dif_pos h, if_neg hw]; exact All32.nil.snoc (root_length _)
  | case3 l m whole h hn ih => rw [grow, dif_neg h, if_pos hn]; exact ih.snoc (root_length _)
  | case4 l m whole h hn ih => rw [grow, dif_neg h, if_neg hn]; exact ih.snoc (root_length _)
theorem grow_end {l : List (List UInt8)} {m : Nat} (h : m = l.length) (whole : Bool) : grow l m whole = if whole then [] else [root l] := by rw [grow, dif_pos (.inl (by omega))]
theorem grow_left {l : List (List UInt8)} {m : Nat} (h0 : 1 ≤ m) (h : m < l.length) (hk : m ≤ half l.length) (whole : Bool) : grow l m whole = grow (l.take (half l.length)) m whole ++ [root (l.drop (half l.length))] := by
  rw [grow, dif_neg (by omega), if_pos hk]
theorem grow_right {l : List (List UInt8)} {m : Nat} (h0 : 1 ≤ m) (h : m < l.length) (hk : ¬ m ≤ half l.length) (whole : Bool) : grow l m whole = grow (l.drop (half l.length)) (m - half l.length) false ++ [root (l.take (half l.length))] := by
  rw [grow, dif_neg (by omega), if_neg hk]
def growth (l : List (List UInt8)) (m : Int) : List (List UInt8) × Bool :=
  if m < 0 ∨ (l.length : Int) < m then ([], false) else if m = 0 ∨ m = l.length then ([], true) else (grow l m.toNat true, true)

/-- The kinds of steps of a growth, from the inmost on: a hash that both have, a hash at the right of the newer list, one at the left of both. -/
def many (m n : Nat) (whole : Bool) : Nat :=
  if _h : n ≤ m ∨ n ≤ 1 then (if whole then 0 else 1) else
  if m ≤ half n then 1 + many m (half n) whole else 1 + many (m - half n) (n - half n) false
termination_by n
decreasing_by
  · exact half_lt (by omega)
  · have := half_pos (n := n) (by omega)
    omega
theorem many_end {m n : Nat} (h : m = n) (whole : Bool) : many m n whole = if whole then 0 else 1 := by rw [many, dif_pos (.inl (by omega))]
theorem many_left {m n : Nat} (h0 : 1 ≤ m) (h : m < n) (hk : m ≤ half n) (whole : Bool) : many m n whole = 1 + many m (half n) whole := by rw [many, dif_neg (by omega), if_pos hk]
theorem many_right {m n : Nat} (h0 : 1 ≤ m) (h : m < n) (hk : ¬ m ≤ half n) (whole : Bool) : many m n whole = 1 + many (m - half n) (n - half n) false := by rw [many, dif_neg (by omega), if_neg hk]
/-- Both roots that result from a proof (of the right length). -/
def both (m n : Nat) (whole : Bool) (old : List UInt8) (p : List (List UInt8)) : List UInt8 × List UInt8 :=
  if _h : n ≤ m ∨ n ≤ 1 then (if whole then (old, old) else (p.headD [], p.headD [])) else
  if m ≤ half n then ((both m (half n) whole old p.dropLast).1, node (both m (half n) whole old p.dropLast).2 (p.getLastD []))
  else (node (p.getLastD []) (both (m - half n) (n - half n) false old p.dropLast).1, node (p.getLastD []) (both (m - half n) (n - half n) false old p.dropLast).2)
termination_by n
decreasing_by
  all_goals first
    | exact half_lt (by omega)
    | (have := half_pos (n := n) (by omega); omega)
theorem both_end {m n : Nat} (h : m = n) (whole : Bool) (old : List UInt8) (p : List (List UInt8)) : both m n whole old p = if whole then (old, old) else (p.headD [], p.headD []) := by rw [both, dif_pos (.inl (by omega))]
theorem both_left {m n : Nat} (h0 : 1 ≤ m) (h : m < n) (hk : m ≤ half n) (whole : Bool) (old : List UInt8) (p : List (List UInt8)) (x : List UInt8) : both m n whole old (p ++ [x]) = ((both m (half n) whole old p).1, node (both m (half n) whole old p).2 x) := by
  rw [both, dif_neg (by omega), if_pos hk]; simp
theorem both_right {m n : Nat} (h0 : 1 ≤ m) (h : m < n) (hk : ¬ m ≤ half n) (whole : Bool) (old : List UInt8) (p : List (List UInt8)) (x : List UInt8) : both m n whole old (p ++ [x]) = (node x (both (m - half n) (n - half n) false old p).1, node x (both (m - half n) (n - half n) false old p).2) := by
  rw [both, dif_neg (by omega), if_neg hk]; simp
/-- CheckGrowth. -/
def checkG (so : Int) (ro : List UInt8) (sn : Int) (rn : List UInt8) (p : List (List UInt8)) : Bool :=
  if so < 0 ∨ sn < so then false else
  if so = sn then p.isEmpty && ro == rn else
  if so = 0 then p.isEmpty && ro == Sha.sum [] else
  if p.length = many so.toNat sn.toNat true then (both so.toNat sn.toNat true ro p).1 == ro && (both so.toNat sn.toNat true ro p).2 == rn else false

theorem half_same {m n : Nat} (h1 : half n < m) (h2 : m ≤ n) (_ : 1 ≤ half n) : half m = half n := by
  have key : ∀ (f n m k : Nat), n ≤ k * 2 ^ f → halfGo f n k < m → m ≤ n → halfGo f m k = halfGo f n k := by
    intro f
    induction f with
    | zero => intros; rfl
    | succ f ih =>
      intro n m k hf h1 h2
      have e : halfGo (f + 1) n k = if n ≤ 2 * k then k else halfGo f n (2 * k) := rfl
      rw [e] at h1 ⊢
      by_cases hn : n ≤ 2 * k
      · rw [if_pos hn] at h1 ⊢
        rw [halfGo, if_pos (by omega)]
      · rw [if_neg hn] at h1 ⊢
        rw [halfGo]
        by_cases hm : m ≤ 2 * k
        · have := halfGo_mono f n (2 * k)
          omega
        · rw [if_neg hm]
          exact ih n m (2 * k) (by rw [Nat.pow_succ] at hf; rw [Nat.mul_comm 2 k, Nat.mul_assoc, Nat.mul_comm 2]; exact hf) h1 h2
  unfold half at *
  have p1 := Nat.lt_two_pow_self (n := n)
  have p2 := Nat.lt_two_pow_self (n := m)
  rw [halfGo_fuel m n m 1 (by omega) (by omega)]
  exact key n n m 1 (by omega) h1 h2
/-- A growth leads to both roots. -/
theorem both_grow (l : List (List UInt8)) (m : Nat) (whole : Bool) : 1 ≤ m → m ≤ l.length → ∀ old, (whole = true → old = root (l.take m)) → both m l.length whole old (grow l m whole) = (root (l.take m), root l) := by
  induction l, m, whole using grow.induct with
  | case1 l m h =>
    intro h0 h1 old ho
    have hm : m = l.length := by omega
    have ht : l.take m = l := List.take_of_length_le (by omega)
    rw [both_end hm, grow_end hm, if_pos rfl, ho rfl, ht]
  | case2 l m whole h hw =>
    intro h0 h1 old _
    have hm : m = l.length := by omega
    have ht : l.take m = l := List.take_of_length_le (by omega)
    rw [both_end hm, grow_end hm, if_neg hw, if_neg hw, ht]; rfl
  | case3 l m whole h hn ih =>
    intro h0 h1 old ho
    have hk := half_lt (n := l.length) (by omega)
    have hl : (l.take (half l.length)).length = half l.length := by rw [List.length_take]; omega
    have ht : (l.take (half l.length)).take m = l.take m := by rw [List.take_take, Nat.min_eq_left hn]
    have h2 := ih h0 (by omega) old (fun hw => by rw [ht]; exact ho hw)
    rw [hl, ht] at h2
    rw [grow_left h0 (by omega) hn, both_left h0 (by omega) hn, h2, root_two (l := l) (by omega)]
  | case4 l m whole h hn ih =>
    intro h0 h1 old ho
    have hk := half_lt (n := l.length) (by omega)
    have hp := half_pos (n := l.length) (by omega)
    have hl : (l.drop (half l.length)).length = l.length - half l.length := by rw [List.length_drop]
    have h2 := ih (by omega) (by omega) old (fun hw => by cases hw)
    rw [hl] at h2
    have ht : (l.take m).length = m := by rw [List.length_take]; omega
    have hs : half m = half l.length := half_same (by omega) h1 hp
    rw [grow_right h0 (by omega) hn, both_right h0 (by omega) hn, h2, root_two (l := l) (by omega), root_two (l := l.take m) (by omega), ht, hs, List.take_take, Nat.min_eq_left (by omega), List.drop_take]
theorem many_grow (l : List (List UInt8)) (m : Nat) (whole : Bool) : 1 ≤ m → m ≤ l.length → (grow l m whole).length = many m l.length whole := by
  induction l, m, whole using grow.induct with
  | case1 l m h => intro h0 h1; rw [grow_end (by omega), many_end (by omega)]; rfl
  | case2 l m whole h hw => intro h0 h1; rw [grow_end (by omega), many_end (by omega), if_neg hw, if_neg hw]; rfl
  | case3 l m whole h hn ih =>
    intro h0 h1
    have hk := half_lt (n := l.length) (by omega)
    have hl : (l.take (half l.length)).length = half l.length := by rw [List.length_take]; omega
    have h2 := ih h0 (by omega)
    rw [hl] at h2
    rw [grow_left h0 (by omega) hn, many_left h0 (by omega) hn, List.length_append, h2, Nat.add_comm]; rfl
  | case4 l m whole h hn ih =>
    intro h0 h1
    have hl : (l.drop (half l.length)).length = l.length - half l.length := by rw [List.length_drop]
    have h2 := ih (by omega) (by omega)
    rw [hl] at h2
    rw [grow_right h0 (by omega) hn, many_right h0 (by omega) hn, List.length_append, h2, Nat.add_comm]; rfl
theorem growth_ok (l : List (List UInt8)) (m : Nat) (h : m ≤ l.length) : (growth l m).2 = true ∧ checkG m (root (l.take m)) l.length (root l) (growth l m).1 = true := by
  unfold growth checkG
  rw [if_neg (by omega)]
  by_cases h1 : (m : Int) = 0 ∨ (m : Int) = l.length
  · rw [if_pos h1, if_neg (by omega)]
    refine ⟨rfl, ?_⟩
    by_cases h2 : (m : Int) = l.length
    · rw [if_pos h2, List.take_of_length_le (by omega)]; simp
    · have h3 : (m : Int) = 0 := by omega
      have h4 : m = 0 := by omega
      rw [if_neg h2, if_pos h3, h4, List.take_zero, root_nil]; simp
  · rw [if_neg h1, if_neg (by omega), if_neg (by omega), if_neg (by omega)]
    refine ⟨rfl, ?_⟩
    simp only [Int.toNat_natCast]
    rw [if_pos (many_grow l m true (by omega) h), both_grow l m true (by omega) h _ (fun _ => rfl)]
    simp

/-- The strings that are hashed for the root of a list. -/
def ins (l : List (List UInt8)) : List (List UInt8) :=
  match l with
  | [] => [[]]
  | [s] => [0 :: s]
  | s :: t :: r => ins ((s :: t :: r).take (half (r.length + 2))) ++ ins ((s :: t :: r).drop (half (r.length + 2))) ++ [1 :: (root ((s :: t :: r).take (half (r.length + 2))) ++ root ((s :: t :: r).drop (half (r.length + 2))))]
termination_by l.length
decreasing_by
  · have := half_lt (n := r.length + 2) (by omega)
    simp [List.length_take]; omega
  · have := half_pos (n := r.length + 2) (by omega)
    simp [List.length_drop]; omega
theorem ins_nil : ins [] = [[]] := by rw [ins]
theorem ins_one {l : List (List UInt8)} {s : List UInt8} (h : l = [s]) : ins l = [0 :: s] := by subst h; rw [ins]
theorem ins_two {l : List (List UInt8)} (h : 2 ≤ l.length) : ins l = ins (l.take (half l.length)) ++ ins (l.drop (half l.length)) ++ [1 :: (root (l.take (half l.length)) ++ root (l.drop (half l.length)))] := by
  match l, h with
  | s :: t :: r, _ => rw [ins]; rfl
/-- The strings that are hashed when a path is applied. -/
def strOf (x : List UInt8) (b : Bool) (h : List UInt8) : List UInt8 := if b then 1 :: (h ++ x) else 1 :: (x ++ h)
theorem sum_strOf (x : List UInt8) (b : Bool) (h : List UInt8) : Sha.sum (strOf x b h) = step x b h := by unfold strOf step node; split <;> rfl
def pin : List UInt8 → List Bool → List (List UInt8) → List (List UInt8)
  | x, b :: bs, h :: hs => strOf x b h :: pin (step x b h) bs hs
  | _, _, _ => []
theorem pin_snoc : ∀ (bs : List Bool) (hs : List (List UInt8)) (x : List UInt8) (b : Bool) (h : List UInt8), bs.length = hs.length → pin x (bs ++ [b]) (hs ++ [h]) = pin x bs hs ++ [strOf (up x bs hs) b h]
  | [], [], _, _, _, _ => rfl
  | c :: bs, g :: hs, x, b, h, e => by
    show strOf x c g :: pin (step x c g) (bs ++ [b]) (hs ++ [h]) = _
    rw [pin_snoc bs hs _ b h (by simpa using e)]; rfl
/-- No two different strings of a list have the same hash. -/
def Free (l : List (List UInt8)) : Prop := ∀ a ∈ l, ∀ b ∈ l, Sha.sum a = Sha.sum b → a = b
theorem Free.sub {l k : List (List UInt8)} (h : Free l) (hs : ∀ x ∈ k, x ∈ l) : Free k := fun a ha b hb e => h a (hs a ha) b (hs b hb) e
theorem snoc_of_length {α : Type} {l : List α} {n : Nat} (h : l.length = n + 1) : ∃ k x, l = k ++ [x] ∧ k.length = n := by
  refine ⟨l.dropLast, l.getLast (by rintro rfl; simp at h), (List.dropLast_concat_getLast _).symm, by simp [h]⟩
theorem All32.left {l k : List (List UInt8)} (h : All32 (l ++ k)) : All32 l := fun x hx => h x (List.mem_append_left _ hx)
theorem All32.last {l : List (List UInt8)} {x : List UInt8} (h : All32 (l ++ [x])) : x.length = 32 := h x (by simp)
theorem binds (l : List (List UInt8)) (n : Nat) : ∀ (x : List UInt8) (p : List (List UInt8)), n < l.length → (way n l.length).length = p.length → All32 p → up (leaf x) (way n l.length) p = root l →
    Free (ins l ++ ((0 :: x) :: pin (leaf x) (way n l.length) p)) → l[n]? = some x := by
  induction l, n using path.induct with
  | case1 l n h =>
    intro x p hn hp _ hu hf
    obtain rfl : n = 0 := by omega
    obtain ⟨s, rfl⟩ : ∃ s, l = [s] := by
      match l, h, hn with
      | [s], _, _ => exact ⟨s, rfl⟩
    rw [way_one h, root_one rfl] at hu
    have hu : leaf x = leaf s := hu
    have := hf (0 :: x) (by simp) (0 :: s) (by rw [ins_one rfl]; simp) hu
    injection this with _ h2
    rw [h2]; rfl
  | case2 l n h hn ih =>
    intro x p hnl hp h32 hu hf
    have hk := half_lt (n := l.length) (by omega)
    have hl : (l.take (half l.length)).length = half l.length := by rw [List.length_take]; omega
    rw [way_left (by omega) hn] at hp hu hf
    obtain ⟨q, g, rfl, hq⟩ := snoc_of_length (n := (way n (half l.length)).length) (l := p) (by rw [← hp]; simp)
    rw [up_snoc _ _ _ _ _ hq.symm, root_two (by omega)] at hu
    rw [pin_snoc _ _ _ _ _ hq.symm, ins_two (by omega)] at hf
    have h1 := hf (strOf (up (leaf x) (way n (half l.length)) q) false g) (by simp) (1 :: (root (l.take (half l.length)) ++ root (l.drop (half l.length)))) (by simp) (by rw [sum_strOf]; exact hu)
    have h2 := node_inj (up_length _ _ _ (leaf_length x)) (root_length _) h1
    have h3 := ih x q (by omega) (by rw [hl, hq]) h32.left (by rw [hl]; exact h2.1) (hf.sub (by
      rw [hl]
      intro y hy
      simp only [List.mem_append, List.mem_cons] at hy ⊢
      rcases hy with hy | hy | hy
      · exact .inl (.inl (.inl hy))
      · exact .inr (.inl hy)
      · exact .inr (.inr (.inl hy))))
    rw [List.getElem?_take, if_pos hn] at h3
    exact h3
  | case3 l n h hn ih =>
    intro x p hnl hp h32 hu hf
    have hk := half_lt (n := l.length) (by omega)
    have hl : (l.drop (half l.length)).length = l.length - half l.length := by rw [List.length_drop]
    rw [way_right (by omega) hn] at hp hu hf
    obtain ⟨q, g, rfl, hq⟩ := snoc_of_length (n := (way (n - half l.length) (l.length - half l.length)).length) (l := p) (by rw [← hp]; simp)
    rw [up_snoc _ _ _ _ _ hq.symm, root_two (by omega)] at hu
    rw [pin_snoc _ _ _ _ _ hq.symm, ins_two (by omega)] at hf
    have h1 := hf (strOf (up (leaf x) (way (n - half l.length) (l.length - half l.length)) q) true g) (by simp) (1 :: (root (l.take (half l.length)) ++ root (l.drop (half l.length)))) (by simp) (by rw [sum_strOf]; exact hu)
    have h2 := node_inj h32.last (root_length _) h1
    have h3 := ih x q (by omega) (by rw [hl, hq]) h32.left (by rw [hl]; exact h2.2) (hf.sub (by
      rw [hl]
      intro y hy
      simp only [List.mem_append, List.mem_cons] at hy ⊢
      rcases hy with hy | hy | hy
      · exact .inl (.inl (.inr hy))
      · exact .inr (.inl hy)
      · exact .inr (.inr (.inl hy))))
    rw [List.getElem?_drop, Nat.add_sub_cancel' (by omega)] at h3
    exact h3

/-- Lists of one length with the same root are the same. -/
theorem root_inj (l : List (List UInt8)) : ∀ (k : List (List UInt8)), l.length = k.length → root l = root k → Free (ins l ++ ins k) → l = k := by
  induction hn : l.length using Nat.strongRecOn generalizing l with
  | ind N ih =>
    intro k hlk hr hf
    subst hn
    match l, k, hlk with
    | [], [], _ => rfl
    | [s], [t], _ =>
      rw [root_one rfl, root_one rfl] at hr
      rw [ins_one rfl, ins_one rfl] at hf
      have := hf (0 :: s) (by simp) (0 :: t) (by simp) hr
      injection this with _ h2
      rw [h2]
    | a :: b :: r, c :: d :: q, hlk =>
      generalize hl : a :: b :: r = l at *
      generalize hk : c :: d :: q = k at *
      have h2 : 2 ≤ l.length := by rw [← hl]; simp
      have e1 := half_lt h2
      have e2 := half_pos h2
      rw [root_two h2, root_two (by omega : 2 ≤ k.length), ← hlk] at hr
      rw [ins_two h2, ins_two (by omega : 2 ≤ k.length), ← hlk] at hf
      have h3 := hf (1 :: (root (l.take (half l.length)) ++ root (l.drop (half l.length)))) (by simp) (1 :: (root (k.take (half l.length)) ++ root (k.drop (half l.length)))) (by simp) hr
      have h4 := node_inj (root_length _) (root_length _) h3
      have h5 := ih (half l.length) e1 (l.take (half l.length)) (by rw [List.length_take]; omega) (k.take (half l.length)) (by rw [List.length_take]; omega) h4.1 (hf.sub (by
        intro y hy
        simp only [List.mem_append] at hy ⊢
        rcases hy with hy | hy
        · exact .inl (.inl (.inl hy))
        · exact .inr (.inl (.inl hy))))
      have h6 := ih (l.length - half l.length) (by omega) (l.drop (half l.length)) (by rw [List.length_drop]) (k.drop (half l.length)) (by rw [List.length_drop]; omega) h4.2 (hf.sub (by
        intro y hy
        simp only [List.mem_append] at hy ⊢
        rcases hy with hy | hy
        · exact .inl (.inl (.inr hy))
        · exact .inr (.inl (.inr hy))))
      rw [← List.take_append_drop (half l.length) l, ← List.take_append_drop (half l.length) k, h5, h6]
/-- The strings that are hashed when a growth is checked. -/
def gin (m n : Nat) (whole : Bool) (old : List UInt8) (p : List (List UInt8)) : List (List UInt8) :=
  if _h : n ≤ m ∨ n ≤ 1 then [] else
  if m ≤ half n then gin m (half n) whole old p.dropLast ++ [1 :: ((both m (half n) whole old p.dropLast).2 ++ p.getLastD [])]
  else gin (m - half n) (n - half n) false old p.dropLast ++ [1 :: (p.getLastD [] ++ (both (m - half n) (n - half n) false old p.dropLast).1), 1 :: (p.getLastD [] ++ (both (m - half n) (n - half n) false old p.dropLast).2)]
termination_by n
decreasing_by
  all_goals first
    | exact half_lt (by omega)
    | (have := half_pos (n := n) (by omega); omega)
theorem gin_end {m n : Nat} (h : m = n) (whole : Bool) (old : List UInt8) (p : List (List UInt8)) : gin m n whole old p = [] := by rw [gin, dif_pos (.inl (by omega))]
theorem gin_left {m n : Nat} (h0 : 1 ≤ m) (h : m < n) (hk : m ≤ half n) (whole : Bool) (old : List UInt8) (p : List (List UInt8)) (x : List UInt8) : gin m n whole old (p ++ [x]) = gin m (half n) whole old p ++ [1 :: ((both m (half n) whole old p).2 ++ x)] := by
  rw [gin, dif_neg (by omega), if_pos hk]; simp
theorem gin_right {m n : Nat} (h0 : 1 ≤ m) (h : m < n) (hk : ¬ m ≤ half n) (whole : Bool) (old : List UInt8) (p : List (List UInt8)) (x : List UInt8) : gin m n whole old (p ++ [x]) = gin (m - half n) (n - half n) false old p ++ [1 :: (x ++ (both (m - half n) (n - half n) false old p).1), 1 :: (x ++ (both (m - half n) (n - half n) false old p).2)] := by
  rw [gin, dif_neg (by omega), if_neg hk]; simp
theorem both_length (m n : Nat) (whole : Bool) : ∀ (old : List UInt8) (p : List (List UInt8)), 1 ≤ m → m ≤ n → old.length = 32 → All32 p → p.length = many m n whole → (both m n whole old p).1.length = 32 ∧ (both m n whole old p).2.length = 32 := by
  induction n using Nat.strongRecOn generalizing m whole with
  | ind n ih =>
    intro old p h0 h1 ho h32 hp
    by_cases hm : m = n
    · rw [many_end hm] at hp
      rw [both_end hm]
      cases whole with
      | true => exact ⟨ho, ho⟩
      | false =>
        match p, hp with
        | [x], _ => exact ⟨h32 x (by simp), h32 x (by simp)⟩
    · have hk := half_lt (n := n) (by omega)
      have hq := half_pos (n := n) (by omega)
      by_cases hh : m ≤ half n
      · rw [many_left h0 (by omega) hh, Nat.add_comm] at hp
        obtain ⟨q, x, rfl, hl⟩ := snoc_of_length hp
        rw [both_left h0 (by omega) hh]
        exact ⟨(ih _ hk m whole old q h0 hh ho h32.left hl).1, node_length _ _⟩
      · rw [many_right h0 (by omega) hh, Nat.add_comm] at hp
        obtain ⟨q, x, rfl, hl⟩ := snoc_of_length hp
        rw [both_right h0 (by omega) hh]
        exact ⟨node_length _ _, node_length _ _⟩
theorem extends_ (n : Nat) : ∀ (s t : List (List UInt8)) (whole : Bool) (old : List UInt8) (p : List (List UInt8)), t.length = n → 1 ≤ s.length → s.length ≤ n → old.length = 32 → All32 p → p.length = many s.length n whole →
    both s.length n whole old p = (root s, root t) → Free (ins s ++ ins t ++ gin s.length n whole old p) → t.take s.length = s := by
  induction n using Nat.strongRecOn with
  | ind n ih =>
    intro s t whole old p ht h0 h1 ho h32 hp hb hf
    by_cases hm : s.length = n
    · have hr : root s = root t := by
        rw [both_end hm] at hb
        cases whole with
        | true => exact ((Prod.mk.inj hb).1).symm.trans (Prod.mk.inj hb).2
        | false => exact ((Prod.mk.inj hb).1).symm.trans (Prod.mk.inj hb).2
      have h2 := root_inj s t (by omega) hr (hf.sub (fun y hy => List.mem_append_left _ hy))
      rw [h2, List.take_of_length_le (by omega)]
    · have hk := half_lt (n := n) (by omega)
      have hq := half_pos (n := n) (by omega)
      have htl : (t.take (half n)).length = half n := by rw [List.length_take]; omega
      have htd : (t.drop (half n)).length = n - half n := by rw [List.length_drop]; omega
      by_cases hh : s.length ≤ half n
      · rw [many_left h0 (by omega) hh, Nat.add_comm] at hp
        obtain ⟨q, x, rfl, hl⟩ := snoc_of_length hp
        rw [both_left h0 (by omega) hh] at hb
        rw [gin_left h0 (by omega) hh, ins_two (by omega : 2 ≤ t.length), ht] at hf
        obtain ⟨hb1, hb2⟩ := Prod.mk.inj hb
        rw [root_two (by omega : 2 ≤ t.length), ht] at hb2
        have b32 := both_length s.length (half n) whole old q h0 hh ho h32.left hl
        have h3 := hf (1 :: ((both s.length (half n) whole old q).2 ++ x)) (by simp) (1 :: (root (t.take (half n)) ++ root (t.drop (half n)))) (by simp) hb2
        have h4 := node_inj b32.2 (root_length _) h3
        have h5 := ih (half n) hk s (t.take (half n)) whole old q htl h0 hh ho h32.left hl (Prod.ext hb1 h4.1) (hf.sub (by
          intro y hy
          simp only [List.mem_append] at hy ⊢
          rcases hy with (hy | hy) | hy
          · exact .inl (.inl hy)
          · exact .inl (.inr (.inl (.inl hy)))
          · exact .inr (.inl hy)))
        rw [List.take_take, Nat.min_eq_left hh] at h5
        exact h5
      · rw [many_right h0 (by omega) hh, Nat.add_comm] at hp
        obtain ⟨q, x, rfl, hl⟩ := snoc_of_length hp
        have hs : half s.length = half n := half_same (by omega) h1 hq
        have hsl : (s.take (half n)).length = half n := by rw [List.length_take]; omega
        have hsd : (s.drop (half n)).length = s.length - half n := by rw [List.length_drop]
        rw [both_right h0 (by omega) hh] at hb
        rw [gin_right h0 (by omega) hh, ins_two (by omega : 2 ≤ t.length), ins_two (by omega : 2 ≤ s.length), ht, hs] at hf
        obtain ⟨hb1, hb2⟩ := Prod.mk.inj hb
        rw [root_two (by omega : 2 ≤ t.length), ht] at hb2
        rw [root_two (by omega : 2 ≤ s.length), hs] at hb1
        have h3 := hf (1 :: (x ++ (both (s.length - half n) (n - half n) false old q).2)) (by simp) (1 :: (root (t.take (half n)) ++ root (t.drop (half n)))) (by simp) hb2
        have h4 := node_inj h32.last (root_length _) h3
        have h3' := hf (1 :: (x ++ (both (s.length - half n) (n - half n) false old q).1)) (by simp) (1 :: (root (s.take (half n)) ++ root (s.drop (half n)))) (by simp) hb1
        have h4' := node_inj h32.last (root_length _) h3'
        have h5 := ih (n - half n) (by omega) (s.drop (half n)) (t.drop (half n)) false old q htd (by omega) (by omega) ho h32.left (by rw [hl, hsd]) (by rw [hsd]; exact Prod.ext h4'.2 h4.2) (hf.sub (by
          rw [hsd]
          intro y hy
          simp only [List.mem_append] at hy ⊢
          rcases hy with (hy | hy) | hy
          · exact .inl (.inl (.inl (.inr hy)))
          · exact .inl (.inr (.inl (.inr hy)))
          · exact .inr (.inl hy)))
        have h6 := root_inj (s.take (half n)) (t.take (half n)) (by omega) (h4'.1.symm.trans h4.1) (hf.sub (by
          intro y hy
          simp only [List.mem_append] at hy ⊢
          rcases hy with hy | hy
          · exact .inl (.inl (.inl (.inl hy)))
          · exact .inl (.inr (.inl (.inl hy)))))
        rw [hsd] at h5
        have h7 := List.take_append_drop (half n) s
        rw [← h5, h6, ← List.take_add, Nat.add_sub_cancel' (by omega)] at h7
        exact h7

theorem way_mono (n : Nat) : ∀ (i m : Nat), i < m → m ≤ n → (way i m).length ≤ (way i n).length := by
  induction n using Nat.strongRecOn with
  | ind n ih =>
    intro i m hi hm
    by_cases h1 : m ≤ 1
    · rw [way_one h1]; simp
    have hk := half_lt (n := n) (by omega)
    have hq := half_pos (n := n) (by omega)
    by_cases h2 : m ≤ half n
    · rw [way_left (n := n) (by omega) (by omega), List.length_append]
      have := ih (half n) hk i m hi h2
      omega
    · have hs : half m = half n := half_same (by omega) hm hq
      by_cases h3 : i < half n
      · rw [way_left (n := n) (by omega) h3, way_left (n := m) (by omega) (by omega), hs]; exact Nat.le_refl _
      · rw [way_right (n := n) (by omega) h3, way_right (n := m) (by omega) (by omega), hs, List.length_append, List.length_append]
        have := ih (n - half n) (by omega) (i - half n) (m - half n) (by omega) (by omega)
        simpa using this
theorem half_le_pow (n e : Nat) (h : n ≤ 2 ^ (e + 1)) : half n ≤ 2 ^ e := by
  have key : ∀ (f k j : Nat), k = 2 ^ j → j ≤ e → halfGo f n k ≤ 2 ^ e := by
    intro f
    induction f with
    | zero => intro k j hk hj; rw [halfGo, hk]; exact Nat.pow_le_pow_right (by omega) hj
    | succ f ih =>
      intro k j hk hj
      rw [halfGo]
      split
      · rw [hk]; exact Nat.pow_le_pow_right (by omega) hj
      · rename_i hh
        have hje : j ≠ e := by
          rintro rfl
          rw [hk, Nat.mul_comm, ← Nat.pow_succ] at hh
          exact hh h
        exact ih (2 * k) (j + 1) (by rw [hk, Nat.pow_succ, Nat.mul_comm]) (by omega)
  exact key n 1 0 rfl (by omega)
theorem way_le (e : Nat) : ∀ (i n : Nat), n ≤ 2 ^ e → (way i n).length ≤ e := by
  induction e with
  | zero => intro i n h; rw [way_one (by simpa using h)]; simp
  | succ e ih =>
    intro i n h
    by_cases h1 : n ≤ 1
    · rw [way_one h1]; simp
    · have h2 := half_le_pow n e h
      have h3 := half_ge n
      by_cases h4 : i < half n
      · rw [way_left (by omega) h4, List.length_append]
        have := ih i (half n) h2
        simpa using this
      · rw [way_right (by omega) h4, List.length_append]
        have := ih (i - half n) (n - half n) (by omega)
        simpa using this
end Tr
end Go.Proofs.Ytjekdeikoebmgaa
