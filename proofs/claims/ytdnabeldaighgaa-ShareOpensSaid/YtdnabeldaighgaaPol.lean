/- Polynomials modulo a prime: roots, interpolation by two schemes. No program here. Conditions: none. -/
import Derived.Laws.BitsAllLaws
namespace Go.Proofs.Ytdnabeldaighgaa
namespace Pol
/-- The value of a polynomial. -/
def ev : List Int → Int → Int
  | [], _ => 0
  | c :: p, x => c + x * ev p x
def IsP (n : Nat) (f : Int → Int) : Prop := ∃ p : List Int, p.length ≤ n ∧ ∀ x, ev p x = f x
theorem ev_append (p q : List Int) (x : Int) : ev (p ++ q) x = ev p x + x ^ p.length * ev q x := by
  induction p with
  | nil => simp [ev]
  | cons c p ih =>
    rw [List.cons_append, ev, ev, ih, List.length_cons, Int.pow_succ, Int.mul_add, ← Int.add_assoc, Int.mul_comm (x ^ _) x, Int.mul_assoc]
theorem ev_zero (p : List Int) : ev p 0 = p.headD 0 := by
  cases p with
  | nil => rfl
  | cons c p => simp [ev]
theorem ev_scale (k : Int) (p : List Int) (x : Int) : ev (p.map (k * ·)) x = k * ev p x := by
  induction p with
  | nil => simp [ev]
  | cons c p ih => rw [List.map_cons, ev, ev, ih, Int.mul_add, Int.mul_left_comm]
def addP : List Int → List Int → List Int
  | [], q => q
  | p, [] => p
  | a :: p, b :: q => (a + b) :: addP p q
theorem addP_length : ∀ p q : List Int, (addP p q).length = max p.length q.length
  | [], q => by simp [addP]
  | a :: p, [] => by simp [addP]
  | a :: p, b :: q => by simp [addP, addP_length p q]
theorem ev_addP (x : Int) : ∀ p q : List Int, ev (addP p q) x = ev p x + ev q x
  | [], q => by simp [addP, ev]
  | a :: p, [] => by simp [addP, ev]
  | a :: p, b :: q => by
    simp only [addP, ev]
    rw [ev_addP x p q, Int.mul_add]; omega
theorem IsP.add {n : Nat} {f g : Int → Int} (h : IsP n f) (k : IsP n g) : IsP n (fun x => f x + g x) := by
  obtain ⟨p, hp, h⟩ := h
  obtain ⟨q, hq, k⟩ := k
  exact ⟨addP p q, by rw [addP_length]; omega, fun x => by rw [ev_addP, h, k]⟩
theorem IsP.scale {n : Nat} {f : Int → Int} (h : IsP n f) (c : Int) : IsP n (fun x => c * f x) := by
  obtain ⟨p, hp, h⟩ := h
  exact ⟨p.map (c * ·), by simpa using hp, fun x => by rw [ev_scale, h]⟩
theorem IsP.mono {n m : Nat} {f : Int → Int} (h : IsP n f) (hnm : n ≤ m) : IsP m f := by
  obtain ⟨p, hp, h⟩ := h
  exact ⟨p, by omega, h⟩
theorem IsP.shift {n : Nat} {f : Int → Int} (h : IsP n f) : IsP (n + 1) (fun x => x * f x) := by
  obtain ⟨p, hp, h⟩ := h
  exact ⟨0 :: p, by simpa using hp, fun x => by rw [ev, h, Int.zero_add]⟩
theorem IsP.lin {n : Nat} {f : Int → Int} (h : IsP n f) (a : Int) : IsP (n + 1) (fun x => (a - x) * f x) := by
  have := ((h.scale a).mono (Nat.le_succ n)).add ((h.shift).scale (-1))
  obtain ⟨p, hp, h⟩ := this
  exact ⟨p, hp, fun x => by rw [h]; show a * f x + -1 * (x * f x) = (a - x) * f x; rw [Int.sub_mul]; omega⟩
theorem IsP.const (c : Int) : IsP 1 (fun _ => c) := ⟨[c], by simp, fun x => by simp [ev]⟩
theorem IsP.zero (n : Nat) : IsP n (fun _ => 0) := ⟨[], by simp, fun _ => rfl⟩
theorem IsP.of (p : List Int) : IsP p.length (ev p) := ⟨p, Nat.le_refl _, fun _ => rfl⟩

/-- Division by a linear factor. -/
theorem divide (r : Int) : ∀ p : List Int, ∃ q : List Int, q.length = p.length - 1 ∧ ∀ x, ev p x = ev p r + (x - r) * ev q x
  | [] => ⟨[], rfl, fun x => by simp [ev]⟩
  | [c] => ⟨[], rfl, fun x => by simp [ev]⟩
  | c :: d :: p => by
    obtain ⟨q, hq, h⟩ := divide r (d :: p)
    refine ⟨ev (d :: p) r :: q, by simp at hq ⊢; omega, fun x => ?_⟩
    show c + x * ev (d :: p) x = c + r * ev (d :: p) r + (x - r) * (ev (d :: p) r + x * ev q x)
    rw [h x]
    generalize ev (d :: p) r = A
    generalize ev q x = B
    have e1 : x * (A + (x - r) * B) = x * A + x * ((x - r) * B) := Int.mul_add _ _ _
    have e2 : (x - r) * (A + x * B) = x * A - r * A + (x - r) * (x * B) := by rw [Int.mul_add, Int.sub_mul]
    have e3 : x * ((x - r) * B) = (x - r) * (x * B) := Int.mul_left_comm _ _ _
    omega
section
variable {m : Int} (hp : ∀ u v : Int, m ∣ u * v → m ∣ u ∨ m ∣ v)
include hp
theorem roots : ∀ (xs : List Int) (p : List Int), p.length ≤ xs.length → xs.Pairwise (fun a b => ¬ m ∣ a - b) → (∀ x ∈ xs, m ∣ ev p x) → ∀ x, m ∣ ev p x
  | [], p, hl, _, _, x => by
    obtain rfl : p = [] := List.length_eq_zero_iff.1 (by simpa using hl)
    exact Int.dvd_zero m
  | r :: xs, p, hl, hd, h, x => by
    obtain ⟨q, hq, hx⟩ := divide r p
    rw [List.pairwise_cons] at hd
    have hr := h r (by simp)
    have h1 := roots xs q (by simp at hl; omega) hd.2 (fun y hy => by
      have h2 := h y (by simp [hy])
      rw [hx y] at h2
      have h3 : m ∣ (y - r) * ev q y := (Int.dvd_add_right hr).1 h2
      rcases hp _ _ h3 with h4 | h4
      · have := hd.1 y hy
        rw [← Int.dvd_neg, Int.neg_sub] at h4
        exact absurd h4 this
      · exact h4)
    rw [hx x]
    exact Int.dvd_add hr (Int.dvd_mul_of_dvd_right (b := x - r) (h1 x))
theorem unique {n : Nat} {f g : Int → Int} (hf : IsP n f) (hg : IsP n g) (xs : List Int) (hl : n ≤ xs.length) (hd : xs.Pairwise (fun a b => ¬ m ∣ a - b)) (h : ∀ x ∈ xs, m ∣ f x - g x) (x : Int) : m ∣ f x - g x := by
  obtain ⟨p, hpl, hh⟩ := hf.add (hg.scale (-1))
  have := roots hp xs p (by omega) hd (fun y hy => by
    rw [hh]; have := h y hy
    show m ∣ f y + -1 * g y
    rw [show f y + -1 * g y = f y - g y by omega]; exact this) x
  rw [hh] at this
  have e : f x + -1 * g x = f x - g x := by omega
  rw [← e]; exact this
end

/-! Neville's scheme. The inverse of a difference is given by a function. -/
section
variable (m : Int) (inv : Int → Int) (X Y : Nat → Int)
def nv : Nat → Nat → Int
  | 0, i => Y i
  | w + 1, i => ((X (i + w + 1) * nv w i % m - X i * nv w (i + 1) % m) % m * inv ((X (i + w + 1) - X i) % m)) % m
theorem emod_dvd (z : Int) : m ∣ z - z % m := by rw [Int.emod_def]; exact ⟨z / m, by omega⟩
theorem emod_dvd' (z : Int) : m ∣ z % m - z := by rw [Int.emod_def]; exact ⟨-(z / m), by rw [Int.mul_neg]; omega⟩
/-- A polynomial through the points i to i + w, whose value at 0 is the scheme's. -/
theorem nv_poly (n : Nat) (hinv : ∀ i j, i < j → j < n → m ∣ (X j - X i) * inv ((X j - X i) % m) - 1) :
    ∀ w i, i + w < n → ∃ f, IsP (w + 1) f ∧ (∀ j, i ≤ j → j ≤ i + w → m ∣ f (X j) - Y j) ∧ m ∣ f 0 - nv m inv X Y w i
  | 0, i, _ => ⟨fun _ => Y i, IsP.const _, fun j h1 h2 => (by
      have : j = i := by omega
      subst this
      rw [Int.sub_self]; exact Int.dvd_zero m), by rw [nv, Int.sub_self]; exact Int.dvd_zero m⟩
  | w + 1, i, hi => by
    obtain ⟨f, hf, f1, f0⟩ := nv_poly n hinv w i (by omega)
    obtain ⟨g, hg, g1, g0⟩ := nv_poly n hinv w (i + 1) (by omega)
    have hv := hinv i (i + w + 1) (by omega) (by omega)
    have hb : X (i + 1 + w) = X (i + w + 1) := by rw [show i + 1 + w = i + w + 1 by omega]
    simp only [nv]
    generalize hbn : X (i + w + 1) = b at *
    generalize han : X i = a at *
    generalize inv ((b - a) % m) = v at *
    refine ⟨fun x => v * ((b - x) * f x + -1 * ((a - x) * g x)), ((hf.lin b).add ((hg.lin a).scale (-1))).scale v, ?_, ?_⟩
    · intro j h1 h2
      -- what the two polynomials give at the point
      have key : ∀ u F G y : Int, m ∣ (b - u) * (F - y) → m ∣ (a - u) * (G - y) → m ∣ v * ((b - u) * F + -1 * ((a - u) * G)) - y := by
        intro u F G y h3 h4
        have e : v * ((b - u) * F + -1 * ((a - u) * G)) - y = v * ((b - u) * (F - y)) - v * ((a - u) * (G - y)) + ((b - a) * v - 1) * y := by
          have q1 : (b - u) * (F - y) = (b - u) * F - (b - u) * y := Int.mul_sub _ _ _
          have q2 : (a - u) * (G - y) = (a - u) * G - (a - u) * y := Int.mul_sub _ _ _
          have q3 : ((b - a) * v - 1) * y = v * ((b - u) * y) - v * ((a - u) * y) - y := by
            rw [← Int.mul_sub, ← Int.sub_mul, Int.sub_mul, Int.one_mul, show b - u - (a - u) = b - a by omega, Int.mul_comm (b - a) v, Int.mul_assoc]
          rw [q1, q2, q3, Int.mul_add, Int.mul_sub, Int.mul_sub]
          have q4 : v * (-1 * ((a - u) * G)) = -(v * ((a - u) * G)) := by rw [Int.neg_mul, Int.one_mul, Int.mul_neg]
          omega
        rw [e]
        exact Int.dvd_add (Int.dvd_sub (Int.dvd_mul_of_dvd_right h3) (Int.dvd_mul_of_dvd_right h4)) (Int.dvd_mul_of_dvd_left hv)
      apply key
      · by_cases hj : j = i + w + 1
        · rw [hj, hbn, Int.sub_self, Int.zero_mul]; exact Int.dvd_zero m
        · exact Int.dvd_mul_of_dvd_right (f1 j h1 (by omega))
      · by_cases hj : j = i
        · rw [hj, han, Int.sub_self, Int.zero_mul]; exact Int.dvd_zero m
        · exact Int.dvd_mul_of_dvd_right (g1 j (by omega) (by omega))
    · generalize nv m inv X Y w i = s at *
      generalize nv m inv X Y w (i + 1) = t at *
      simp only [Int.sub_zero]
      have d1 := emod_dvd m ((b * s % m - a * t % m) % m * v)
      have d2 := Int.dvd_mul_of_dvd_left (c := v) (emod_dvd m (b * s % m - a * t % m))
      have d3 := Int.dvd_mul_of_dvd_left (c := v) (emod_dvd m (b * s))
      have d4 := Int.dvd_mul_of_dvd_left (c := v) (emod_dvd m (a * t))
      have d5 := Int.dvd_mul_of_dvd_right (b := v * b) f0
      have d6 := Int.dvd_mul_of_dvd_right (b := v * a) g0
      have := Int.dvd_add (Int.dvd_add (Int.dvd_add d1 d2) (Int.dvd_sub d3 d4)) (Int.dvd_sub d5 d6)
      refine (Int.dvd_trans this ⟨1, ?_⟩)
      rw [Int.mul_one]
      simp only [Int.sub_mul, Int.mul_sub, Int.neg_mul, Int.one_mul, Int.mul_assoc, Int.mul_comm v, Int.add_mul]
      omega
end

/-! Lagrange's formula. -/
section
variable (m : Int) (inv : Int → Int) (X Y : Nat → Int)
/-- The product over the points below k but i of X - x. -/
def lprod (i : Nat) (x : Int) : Nat → Int
  | 0 => 1
  | k + 1 => if k = i then lprod i x k else (X k - x) * lprod i x k
theorem lprod_poly (i : Nat) : ∀ k, IsP (if i < k then k else k + 1) (fun x => lprod X i x k)
  | 0 => by simp only [lprod, Nat.not_lt_zero, if_false]; exact IsP.const 1
  | k + 1 => by
    have ih := lprod_poly i k
    by_cases h : k = i
    · subst h
      simp only [lprod, if_true, Nat.lt_irrefl, if_false, Nat.lt_succ_self] at ih ⊢
      exact ih
    · simp only [lprod, if_neg h]
      refine (ih.lin (X k)).mono ?_
      split <;> split <;> omega
theorem lprod_zero {i j : Nat} (hij : j ≠ i) : ∀ k, j < k → lprod X i (X j) k = 0
  | 0, h => by omega
  | k + 1, h => by
    simp only [lprod]
    by_cases hj : j = k
    · subst hj; rw [if_neg hij, Int.sub_self, Int.zero_mul]
    · have ih := lprod_zero hij k (by omega)
      split
      · exact ih
      · rw [ih, Int.mul_zero]
/-- The sum of the first terms. -/
def lsum (v : Nat → Int) (n : Nat) (x : Int) : Nat → Int
  | 0 => 0
  | k + 1 => lsum v n x k + Y k * v k * lprod X k x n
theorem lsum_poly (v : Nat → Int) (n : Nat) : ∀ k, k ≤ n → IsP n (fun x => lsum X Y v n x k)
  | 0, _ => IsP.zero n
  | k + 1, h => by
    have h1 := lprod_poly X k n
    rw [if_pos (by omega)] at h1
    exact (lsum_poly v n k (by omega)).add (h1.scale _)
theorem lsum_at (v : Nat → Int) (n : Nat) (j : Nat) (hj : j < n) (hv : m ∣ v j * lprod X j (X j) n - 1) : ∀ k, k ≤ n → m ∣ lsum X Y v n (X j) k - (if j < k then Y j else 0)
  | 0, _ => by simp [lsum]
  | k + 1, h => by
    have ih := lsum_at v n j hj hv k (by omega)
    simp only [lsum]
    by_cases hjk : j = k
    · subst hjk
      rw [if_neg (by omega)] at ih
      rw [if_pos (by omega)]
      have := Int.dvd_add ih (Int.dvd_mul_of_dvd_right (b := Y j) hv)
      rw [Int.mul_sub, ← Int.mul_assoc, Int.mul_one] at this
      rw [show lsum X Y v n (X j) j + Y j * v j * lprod X j (X j) n - Y j = lsum X Y v n (X j) j - 0 + (Y j * v j * lprod X j (X j) n - Y j) by omega]
      exact this
    · rw [lprod_zero X hjk n hj, Int.mul_zero, Int.add_zero]
      rw [show (if j < k + 1 then Y j else 0) = (if j < k then Y j else 0) by congr 1; apply propext; omega]
      exact ih
end

section
theorem points_apart {m : Int} {X : Nat → Int} {n : Nat} (hd : ∀ i j, i < j → j < n → ¬ m ∣ X j - X i) : ((List.range n).map X).Pairwise (fun a b => ¬ m ∣ a - b) := by
  rw [List.pairwise_map]
  refine List.Pairwise.imp_of_mem ?_ List.pairwise_lt_range
  intro i j hi hj hij hdv
  rw [List.mem_range] at hi hj
  exact hd i j hij hj (by rw [← Int.dvd_neg, Int.neg_sub]; exact hdv)
variable {m : Int} (hp : ∀ u v : Int, m ∣ u * v → m ∣ u ∨ m ∣ v) {inv : Int → Int} {X Y : Nat → Int}
include hp
/-- The scheme gives the value at 0 of whatever polynomial goes through the points. -/
theorem nv_value {n : Nat} (hinv : ∀ i j, i < j → j < n + 1 → m ∣ (X j - X i) * inv ((X j - X i) % m) - 1) (hd : ∀ i j, i < j → j < n + 1 → ¬ m ∣ X j - X i) {f : Int → Int} (hf : IsP (n + 1) f) (hy : ∀ j, j < n + 1 → m ∣ f (X j) - Y j) :
    m ∣ f 0 - nv m inv X Y n 0 := by
  obtain ⟨g, hg, g1, g0⟩ := nv_poly m inv X Y (n + 1) hinv n 0 (by omega)
  have h := unique hp hf hg ((List.range (n + 1)).map X) (by simp) (points_apart hd) (fun x hx => by
    obtain ⟨j, hj, rfl⟩ := List.mem_map.1 hx
    rw [List.mem_range] at hj
    have h1 := Int.dvd_sub (hy j hj) (g1 j (by omega) (by omega))
    rw [show f (X j) - Y j - (g (X j) - Y j) = f (X j) - g (X j) by omega] at h1
    exact h1) 0
  have := Int.dvd_add h g0
  rw [show f 0 - g 0 + (g 0 - nv m inv X Y n 0) = f 0 - nv m inv X Y n 0 by omega] at this
  exact this
theorem nv_lagrange {n : Nat} (hinv : ∀ i j, i < j → j < n + 1 → m ∣ (X j - X i) * inv ((X j - X i) % m) - 1) (hd : ∀ i j, i < j → j < n + 1 → ¬ m ∣ X j - X i) {v : Nat → Int} (hv : ∀ j, j < n + 1 → m ∣ v j * lprod X j (X j) (n + 1) - 1) :
    m ∣ lsum X Y v (n + 1) 0 (n + 1) - nv m inv X Y n 0 := by
  refine nv_value (f := fun x => lsum X Y v (n + 1) x (n + 1)) hp hinv hd (lsum_poly X Y v (n + 1) (n + 1) (Nat.le_refl _)) fun j hj => ?_
  have := lsum_at m X Y v (n + 1) j hj (hv j hj) (n + 1) (Nat.le_refl _)
  rw [if_pos hj] at this
  exact this
end
end Pol
end Go.Proofs.Ytdnabeldaighgaa
