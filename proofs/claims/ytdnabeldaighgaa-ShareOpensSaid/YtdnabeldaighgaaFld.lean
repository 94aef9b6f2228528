/- Plain laws of numbers: primes, division of two words by one, residues, powers, inverses, the group, polynomials. No program here. Conditions: none. -/
import Derived.Laws.BitsAllLaws
namespace Go.Proofs.Ytdnabeldaighgaa
namespace NT

/-- Euclid's form of 'prime'. -/
def Pr (p : Nat) : Prop := 1 < p ∧ ∀ a b, p ∣ a * b → p ∣ a ∨ p ∣ b

theorem Pr.irred {p : Nat} (h : Pr p) {d : Nat} (hd : d ∣ p) : d = 1 ∨ d = p := by
  obtain ⟨k, hk⟩ := hd
  have hp := h.1
  have hd0 : 0 < d := by rcases Nat.eq_zero_or_pos d with r | r; (subst r; simp at hk; omega); exact r
  have hk0 : 0 < k := by rcases Nat.eq_zero_or_pos k with r | r; (subst r; simp at hk; omega); exact r
  rcases h.2 d k (hk ▸ Nat.dvd_refl p) with h1 | h1
  · right
    have h2 := Nat.le_of_dvd hd0 h1
    have h3 : d ≤ p := by rw [hk]; exact Nat.le_mul_of_pos_right d hk0
    omega
  · left
    have h2 := Nat.le_of_dvd hk0 h1
    have h3 : d * k ≤ 1 * k := by omega
    have := Nat.le_of_mul_le_mul_right h3 hk0
    omega

theorem pr_of_irred {p : Nat} (h1 : 1 < p) (h : ∀ d, d ∣ p → d = 1 ∨ d = p) : Pr p := by
  refine ⟨h1, fun a b hab => ?_⟩
  rcases h (Nat.gcd p a) (Nat.gcd_dvd_left _ _) with hg | hg
  · right; exact (Nat.Coprime.dvd_of_dvd_mul_left (show Nat.Coprime p a from hg) hab)
  · left; rw [← hg]; exact Nat.gcd_dvd_right _ _

theorem Pr.coprime {p : Nat} (h : Pr p) {a : Nat} (ha : ¬ p ∣ a) : Nat.Coprime p a := by
  rcases h.irred (Nat.gcd_dvd_left p a) with hg | hg
  · exact hg
  · exact absurd (hg ▸ Nat.gcd_dvd_right p a) ha

/-- No number from d on, f of them, divides p. -/
def noDiv (p : Nat) : Nat → Nat → Bool
  | _, 0 => true
  | d, f + 1 => (p % d != 0) && noDiv p (d + 1) f

theorem noDiv_spec {p : Nat} : ∀ (f d : Nat), noDiv p d f = true → ∀ x, d ≤ x → x < d + f → ¬ x ∣ p
  | 0, d, _, x, h1, h2 => by omega
  | f + 1, d, h, x, h1, h2 => by
    simp only [noDiv, Bool.and_eq_true, bne_iff_ne, ne_eq] at h
    rcases Nat.lt_or_ge d x with h3 | h3
    · exact noDiv_spec f (d + 1) h.2 x (by omega) (by omega)
    · obtain rfl : d = x := by omega
      exact fun hx => h.1 (Nat.mod_eq_zero_of_dvd hx)

theorem pr_of_trial {p : Nat} (f : Nat) (h1 : 1 < p) (hf : p < (2 + f) * (2 + f)) (h : noDiv p 2 f = true) : Pr p := by
  refine pr_of_irred h1 fun d hd => ?_
  obtain ⟨k, hk⟩ := hd
  have hs := noDiv_spec f 2 h
  have hd0 : 0 < d := by rcases Nat.eq_zero_or_pos d with r | r; (subst r; simp at hk; omega); exact r
  have hk0 : 0 < k := by rcases Nat.eq_zero_or_pos k with r | r; (subst r; simp at hk; omega); exact r
  rcases Nat.lt_or_ge 1 d with h2 | h2
  · rcases Nat.lt_or_ge 1 k with h3 | h3
    · exfalso
      have hd' : 2 + f ≤ d := by
        rcases Nat.lt_or_ge d (2 + f) with h4 | h4
        · exact absurd ⟨k, hk⟩ (hs d h2 h4)
        · exact h4
      have hk' : 2 + f ≤ k := by
        rcases Nat.lt_or_ge k (2 + f) with h4 | h4
        · exact absurd ⟨d, by rw [hk, Nat.mul_comm]⟩ (hs k h3 h4)
        · exact h4
      have := Nat.mul_le_mul hd' hk'
      omega
    · right; obtain rfl : k = 1 := by omega
      simp at hk; exact hk.symm
  · left; omega

theorem mod_of_pow_mod (a n m : Nat) : (a % m) ^ n % m = a ^ n % m := (Nat.pow_mod a n m).symm

/-- Powers by squaring. -/
def pm (m : Nat) : Nat → Nat → Nat → Nat → Nat
  | 0, _, _, acc => acc
  | f + 1, b, e, acc => pm m f (b * b % m) (e / 2) (if e % 2 = 1 then acc * b % m else acc)

theorem pm_spec (m : Nat) : ∀ (f b e acc : Nat), e < 2 ^ f → pm m f b e acc % m = acc * b ^ e % m
  | 0, b, e, acc, h => by
    obtain rfl : e = 0 := by simpa using h
    simp [pm]
  | f + 1, b, e, acc, h => by
    have h2 : e / 2 < 2 ^ f := by rw [Nat.pow_succ] at h; omega
    simp only [pm]
    rw [pm_spec m f _ _ _ h2]
    have he : e = 2 * (e / 2) + e % 2 := by omega
    have hb : (b * b % m) ^ (e / 2) % m = b ^ (2 * (e / 2)) % m := by
      rw [mod_of_pow_mod, Nat.pow_mul, Nat.pow_two]
    rcases Nat.mod_two_eq_zero_or_one e with h0 | h0
    · rw [if_neg (by omega), Nat.mul_mod, hb, ← Nat.mul_mod]
      congr 3; omega
    · rw [if_pos h0, Nat.mul_mod, hb, ← Nat.mul_mod, Nat.mod_mul_mod]
      rw [show b ^ e = b ^ (2 * (e / 2)) * b from by
        conv => lhs; rw [he, h0, Nat.pow_succ]]
      rw [Nat.mul_assoc, Nat.mul_comm b]

theorem inj_surj : ∀ (n : Nat) (f : Nat → Nat), (∀ i, i < n → f i < n) → (∀ i j, i < n → j < n → f i = f j → i = j) → ∀ y, y < n → ∃ i, i < n ∧ f i = y
  | 0, _, _, _, y, hy => by omega
  | n + 1, f, hf, hi, y, hy => by
    by_cases hv : f n = n
    · -- f maps [0,n) to itself
      rcases Nat.lt_or_ge y n with h1 | h1
      · obtain ⟨i, h2, h3⟩ := inj_surj n f (fun i h => by
          have h4 := hf i (by omega)
          have h5 : f i ≠ n := fun h6 => by have := hi i n (by omega) (by omega) (h6.trans hv.symm); omega
          omega) (fun i j a b => hi i j (by omega) (by omega)) y h1
        exact ⟨i, by omega, h3⟩
      · exact ⟨n, by omega, by omega⟩
    · have hvn : f n < n := by have := hf n (by omega); omega
      by_cases hex : ∃ i, i < n ∧ f i = n
      · obtain ⟨i0, hi0, hfi0⟩ := hex
        by_cases hyv : y = f n
        · exact ⟨n, by omega, hyv.symm⟩
        by_cases hyn : y = n
        · exact ⟨i0, by omega, by omega⟩
        obtain ⟨i, h2, h3⟩ := inj_surj n (fun i => if f i = n then f n else f i) (fun i h => by
            show (if f i = n then f n else f i) < n
            split
            · exact hvn
            · have := hf i (by omega); omega) (fun i j a b h => by
            have h : (if f i = n then f n else f i) = (if f j = n then f n else f j) := h
            by_cases c1 : f i = n <;> by_cases c2 : f j = n
            · exact hi i j (by omega) (by omega) (c1.trans c2.symm)
            · rw [if_pos c1, if_neg c2] at h
              have := hi n j (by omega) (by omega) h; omega
            · rw [if_neg c1, if_pos c2] at h
              have := hi i n (by omega) (by omega) h; omega
            · rw [if_neg c1, if_neg c2] at h
              exact hi i j (by omega) (by omega) h) y (by omega)
        have h3 : (if f i = n then f n else f i) = y := h3
        split at h3
        · exact absurd h3.symm hyv
        · exact ⟨i, by omega, h3⟩
      · exfalso
        obtain ⟨i, h2, h3⟩ := inj_surj n f (fun i h => by
          have h4 := hf i (by omega)
          have h5 : f i ≠ n := fun h6 => hex ⟨i, h, h6⟩
          omega) (fun i j a b => hi i j (by omega) (by omega)) (f n) hvn
        have := hi i n (by omega) (by omega) h3
        omega

theorem pow_gcd {g p : Nat} (hp : 1 < p) (m n : Nat) (hm : g ^ m % p = 1) (hn : g ^ n % p = 1) : g ^ (Nat.gcd m n) % p = 1 := by
  induction m, n using Nat.gcd.induction with
  | H0 n => simpa using hn
  | H1 m n hpos ih =>
    rw [Nat.gcd_rec]
    refine ih ?_ hm
    have h1 : g ^ n = (g ^ m) ^ (n / m) * g ^ (n % m) := by
      rw [← Nat.pow_mul, ← Nat.pow_add, Nat.div_add_mod]
    rw [h1, Nat.mul_mod, Nat.pow_mod, hm, Nat.one_pow, Nat.mod_eq_of_lt hp, Nat.one_mul, Nat.mod_mod] at hn
    exact hn

/-- A divisor greater than 1 of a product of primes is divided by one of them. -/
theorem dvd_prod : ∀ (l : List Nat) (k : Nat), (∀ q ∈ l, Pr q) → k ∣ l.foldr (· * ·) 1 → 1 < k → ∃ q ∈ l, q ∣ k
  | [], k, _, h, h1 => by
    simp at h; omega
  | q :: l, k, hl, h, h1 => by
    have hq := hl q (by simp)
    by_cases hk : q ∣ k
    · exact ⟨q, by simp, hk⟩
    · have hc := hq.coprime hk
      have : k ∣ l.foldr (· * ·) 1 := Nat.Coprime.dvd_of_dvd_mul_left hc.symm (by simpa using h)
      obtain ⟨q', h2, h3⟩ := dvd_prod l k (fun q h => hl q (by simp [h])) this h1
      exact ⟨q', by simp [h2], h3⟩

/-- What a primitive root gives. -/
structure Root (p g : Nat) : Prop where
  hp : 1 < p
  one : g ^ (p - 1) % p = 1
  all : ∀ a, ¬ p ∣ a → ∃ i, i < p - 1 ∧ g ^ i % p = a % p
  ne : ∀ e, 0 < e → e < p - 1 → g ^ e % p ≠ 1

theorem lucas {p g : Nat} (l : List Nat) (hp : 2 < p) (h1 : g ^ (p - 1) % p = 1) (hl : ∀ q ∈ l, Pr q) (hpr : p - 1 = l.foldr (· * ·) 1) (hq : ∀ q ∈ l, g ^ ((p - 1) / q) % p ≠ 1) : Root p g := by
  have hne : ∀ e, 0 < e → e < p - 1 → g ^ e % p ≠ 1 := by
    intro e he0 he1 hg
    have h2 := pow_gcd (by omega) e (p - 1) hg h1
    obtain ⟨k, hk⟩ := Nat.gcd_dvd_right e (p - 1)
    have hde : Nat.gcd e (p - 1) ≤ e := Nat.le_of_dvd he0 (Nat.gcd_dvd_left _ _)
    have hd0 : 0 < Nat.gcd e (p - 1) := Nat.gcd_pos_of_pos_left _ he0
    generalize Nat.gcd e (p - 1) = d at *
    have hk1 : 1 < k := by
      rcases Nat.lt_or_ge 1 k with h | h
      · exact h
      · have : d * k ≤ d * 1 := Nat.mul_le_mul_left d h
        omega
    obtain ⟨q, hql, hqk⟩ := dvd_prod l k hl (by rw [← hpr, hk]; exact Nat.dvd_mul_left k d) hk1
    obtain ⟨k', hk'⟩ := hqk
    have hq0 : 0 < q := by have := (hl q hql).1; omega
    have h3 : (p - 1) / q = d * k' := by
      rw [hk, hk', show d * (q * k') = q * (d * k') by rw [Nat.mul_left_comm], Nat.mul_div_cancel_left _ hq0]
    apply hq q hql
    rw [h3, Nat.pow_mul, Nat.pow_mod, h2, Nat.one_pow, Nat.mod_eq_of_lt (by omega)]
  have hnz : ∀ i, i ≤ p - 1 → g ^ i % p ≠ 0 := by
    intro i hi h0
    have : g ^ (p - 1) % p = 0 := by
      rw [show p - 1 = i + (p - 1 - i) by omega, Nat.pow_add, Nat.mul_mod, h0, Nat.zero_mul, Nat.zero_mod]
    omega
  have hinj : ∀ i j, i < j → j < p - 1 → g ^ i % p ≠ g ^ j % p := by
    intro i j hij hj he
    apply hne (j - i) (by omega) (by omega)
    have h2 : g ^ (p - 1 - i) * g ^ i % p = g ^ (p - 1 - i) * g ^ j % p := by
      rw [Nat.mul_mod, he, ← Nat.mul_mod]
    rw [← Nat.pow_add, ← Nat.pow_add, show p - 1 - i + i = p - 1 by omega, show p - 1 - i + j = (p - 1) + (j - i) by omega, Nat.pow_add, Nat.mul_mod, h1, Nat.one_mul, Nat.mod_mod] at h2
    exact h2.symm
  refine ⟨by omega, h1, fun a ha => ?_, hne⟩
  have hlt : ∀ i, g ^ i % p < p := fun i => Nat.mod_lt _ (by omega)
  have ha0 : a % p ≠ 0 := fun h => ha (Nat.dvd_of_mod_eq_zero h)
  have hap : a % p < p := Nat.mod_lt _ (by omega)
  obtain ⟨i, h2, h3⟩ := inj_surj (p - 1) (fun i => g ^ i % p - 1) (fun i hi => by
      have h4 := hnz i (by omega)
      have h5 := hlt i
      show g ^ i % p - 1 < p - 1
      omega) (fun i j hi hj h => by
      have h : g ^ i % p - 1 = g ^ j % p - 1 := h
      have h4 := hnz i (by omega)
      have h5 := hnz j (by omega)
      rcases Nat.lt_trichotomy i j with h6 | h6 | h6
      · exact absurd (by omega) (hinj i j h6 hj)
      · exact h6
      · exact absurd (by omega) (hinj j i h6 hi)) (a % p - 1) (by omega)
  have h3 : g ^ i % p - 1 = a % p - 1 := h3
  have h4 := hnz i (by omega)
  exact ⟨i, h2, by omega⟩

theorem Root.fermat {p g : Nat} (h : Root p g) (a : Nat) (ha : ¬ p ∣ a) : a ^ (p - 1) % p = 1 := by
  obtain ⟨i, _, hi⟩ := h.all a ha
  rw [Nat.pow_mod, ← hi, ← Nat.pow_mod, ← Nat.pow_mul, Nat.mul_comm, Nat.pow_mul, Nat.pow_mod, h.one, Nat.one_pow, Nat.mod_eq_of_lt h.hp]

theorem Root.pr {p g : Nat} (h : Root p g) : Pr p := by
  refine ⟨h.hp, fun a b hab => ?_⟩
  by_cases ha : p ∣ a
  · exact .inl ha
  · right
    have h1 := h.fermat a ha
    have hp := h.hp
    rcases Nat.lt_or_ge 2 p with h2 | h2
    · have h3 : p ∣ a ^ (p - 1) * b := by
        rw [show p - 1 = (p - 2) + 1 by omega, Nat.pow_succ, Nat.mul_assoc]
        exact Nat.dvd_trans hab (Nat.dvd_mul_left _ _)
      apply Nat.dvd_of_mod_eq_zero
      have h4 := Nat.mod_eq_zero_of_dvd h3
      rw [Nat.mul_mod, h1, Nat.one_mul, Nat.mod_mod] at h4
      exact h4
    · obtain rfl : p = 2 := by omega
      simp at h1
      have h3 := Nat.mod_eq_zero_of_dvd hab
      rw [Nat.mul_mod, h1, Nat.one_mul, Nat.mod_mod] at h3
      exact Nat.dvd_of_mod_eq_zero h3

theorem pow_is {g p e r : Nat} (f : Nat) (hf : e < 2 ^ f) (h : pm p f g e 1 % p = r) : g ^ e % p = r := by
  rw [← h, pm_spec p f g e 1 hf, Nat.one_mul]

theorem pm_spec_one {p : Nat} (f b e : Nat) (h : e < 2 ^ f) : pm p f b e 1 % p = b ^ e % p := by rw [pm_spec p f b e 1 h, Nat.one_mul]
theorem pr2 : Pr 2 := pr_of_trial 0 (by decide) (by decide) rfl
theorem pr3 : Pr 3 := pr_of_trial 0 (by decide) (by decide) rfl
set_option maxRecDepth 1000000 in
theorem prA : Pr 8469779 := pr_of_trial 2910 (by decide) (by decide) (by decide +kernel)
theorem pr7 : Pr 7 := pr_of_trial 1 (by decide) (by decide) rfl
theorem pr19 : Pr 19 := pr_of_trial 3 (by decide) (by decide) rfl
theorem prC : Pr 95189 := pr_of_trial 307 (by decide) (by decide) (by decide +kernel)
theorem pow_ne {g p e : Nat} (f : Nat) (hf : e < 2 ^ f) (h : (pm p f g e 1 % p == 1) = false) : g ^ e % p ≠ 1 := by
  rw [← pm_spec_one f g e hf]; simpa using h
/-- lucas, its powers by squaring. -/
theorem lucas' {p g : Nat} (l : List Nat) (hp : 2 < p) (h64 : p - 1 < 2 ^ 64) (h1 : pm p 64 g (p - 1) 1 % p = 1) (hl : ∀ q ∈ l, Pr q) (hpr : p - 1 = l.foldr (· * ·) 1) (hq : ∀ q ∈ l, (pm p 64 g ((p - 1) / q) 1 % p == 1) = false) : Root p g :=
  lucas l hp (pow_is 64 h64 h1) hl hpr fun q h => pow_ne 64 (Nat.lt_of_le_of_lt (Nat.div_le_self _ _) h64) (hq q h)
theorem rootD : Root 2835870689 6 := by
  refine lucas' [2, 2, 2, 2, 2, 7, 7, 19, 95189] (by decide) (by decide) (by decide +kernel) ?_ (by decide +kernel) ?_
  · intro q hq
    simp only [List.mem_cons, List.not_mem_nil, or_false] at hq
    rcases hq with rfl | rfl | rfl | rfl | rfl | rfl | rfl | rfl | rfl
    all_goals first | exact pr2 | exact pr7 | exact pr19 | exact prC
  · intro q hq
    simp only [List.mem_cons, List.not_mem_nil, or_false] at hq
    rcases hq with rfl | rfl | rfl | rfl | rfl | rfl | rfl | rfl | rfl
    all_goals decide +kernel
theorem rootB : Root 5671741379 2 := by
  refine lucas' [2, 2835870689] (by decide) (by decide) (by decide +kernel) ?_ (by decide +kernel) ?_
  · intro q hq
    simp only [List.mem_cons, List.not_mem_nil, or_false] at hq
    rcases hq with rfl | rfl
    · exact pr2
    · exact rootD.pr
  · intro q hq
    simp only [List.mem_cons, List.not_mem_nil, or_false] at hq
    rcases hq with rfl | rfl
    all_goals decide +kernel
theorem rootR : Root 288230376151711447 6 := by
  refine lucas' [2, 3, 8469779, 5671741379] (by decide) (by decide) (by decide +kernel) ?_ (by decide +kernel) ?_
  · intro q hq
    simp only [List.mem_cons, List.not_mem_nil, or_false] at hq
    rcases hq with rfl | rfl | rfl | rfl
    · exact pr2
    · exact pr3
    · exact prA
    · exact rootB.pr
  · intro q hq
    simp only [List.mem_cons, List.not_mem_nil, or_false] at hq
    rcases hq with rfl | rfl | rfl | rfl
    all_goals decide +kernel
theorem rootQ : Root 1152921504606845789 2 := by
  refine lucas' [2, 2, 288230376151711447] (by decide) (by decide) (by decide +kernel) ?_ (by decide +kernel) ?_
  · intro q hq
    simp only [List.mem_cons, List.not_mem_nil, or_false] at hq
    rcases hq with rfl | rfl | rfl
    · exact pr2
    · exact pr2
    · exact rootR.pr
  · intro q hq
    simp only [List.mem_cons, List.not_mem_nil, or_false] at hq
    rcases hq with rfl | rfl | rfl
    all_goals decide +kernel
theorem rootP : Root 2305843009213691579 2 := by
  refine lucas' [2, 1152921504606845789] (by decide) (by decide) (by decide +kernel) ?_ (by decide +kernel) ?_
  · intro q hq
    simp only [List.mem_cons, List.not_mem_nil, or_false] at hq
    rcases hq with rfl | rfl
    · exact pr2
    · exact rootQ.pr
  · intro q hq
    simp only [List.mem_cons, List.not_mem_nil, or_false] at hq
    rcases hq with rfl | rfl
    all_goals decide +kernel
end NT

namespace Fld

/-! Knuth's division of two words by one, in numbers. -/
theorem mul_yq (y1 y0 q : Nat) : q * (y1 * 4294967296 + y0) = q * y1 * 4294967296 + q * y0 := by
  rw [Nat.mul_add, Nat.mul_assoc]
theorem dv_lt {y u x : Nat} (hu : u < y) (hx : x < 4294967296) : (u * 4294967296 + x) / y < 4294967296 := by
  rw [Nat.div_lt_iff_lt_mul (by omega)]; omega
theorem dv_start {y1 y0 u x : Nat} (h1 : 0 < y1) (hx : x < 4294967296) : (u * 4294967296 + x) / (y1 * 4294967296 + y0) ≤ u / y1 := by
  have hy : 0 < y1 * 4294967296 + y0 := by omega
  rw [Nat.le_div_iff_mul_le h1]
  have h2 := Nat.div_mul_le_self (u * 4294967296 + x) (y1 * 4294967296 + y0)
  rw [mul_yq] at h2
  generalize (u * 4294967296 + x) / (y1 * 4294967296 + y0) = q at *
  generalize q * y1 = a at *
  generalize q * y0 = b at *
  omega
/-- The guess is too great. -/
theorem dv_big {y1 y0 u x q r : Nat} (hu : u < y1 * 4294967296 + y0) (hx : x < 4294967296) (hq : q * y1 + r = u) (h : 4294967296 ≤ q ∨ 4294967296 * r + x < q * y0) :
    (u * 4294967296 + x) / (y1 * 4294967296 + y0) < q := by
  rw [Nat.div_lt_iff_lt_mul (by omega)]
  rcases h with h | h
  · have := Nat.mul_le_mul_right (y1 * 4294967296 + y0) h
    omega
  · rw [mul_yq]
    generalize q * y1 = a at *
    generalize q * y0 = b at *
    omega
theorem dv_exact {y1 y0 u x q r : Nat} (hy : 0 < y1 * 4294967296 + y0) (hq : q * y1 + r = u) (hle : (u * 4294967296 + x) / (y1 * 4294967296 + y0) ≤ q) (h : q * y0 ≤ 4294967296 * r + x) :
    q = (u * 4294967296 + x) / (y1 * 4294967296 + y0) := by
  refine Nat.le_antisymm ?_ hle
  rw [Nat.le_div_iff_mul_le hy, mul_yq]
  generalize q * y1 = a at *
  generalize q * y0 = b at *
  omega
theorem dv_break {y1 y0 u x q r : Nat} (h0 : y0 < 4294967296) (hy : 0 < y1 * 4294967296 + y0) (hu : u < y1 * 4294967296 + y0) (hq : q * y1 + r = u) (hle : (u * 4294967296 + x) / (y1 * 4294967296 + y0) ≤ q) (hr : 4294967296 ≤ r) :
    q = (u * 4294967296 + x) / (y1 * 4294967296 + y0) := by
  have hqB : q < 4294967296 := by
    rcases Nat.lt_or_ge q 4294967296 with h | h
    · exact h
    · have := Nat.mul_le_mul_right y1 h
      generalize q * y1 = a at *
      omega
  refine dv_exact hy hq hle ?_
  have h1 : q * y0 ≤ 4294967295 * 4294967295 := Nat.mul_le_mul (by omega) (by omega)
  omega
theorem dv_dec {y1 q r u : Nat} (h : 0 < q) (hq : q * y1 + r = u) : (q - 1) * y1 + (r + y1) = u := by
  obtain ⟨k, rfl⟩ : ∃ k, q = k + 1 := ⟨q - 1, by omega⟩
  rw [Nat.succ_mul] at hq
  simp only [Nat.add_sub_cancel]; omega
/-- What is left of the first step. -/
theorem dv_rest (N y : Nat) : N - N / y * y = N % y := by
  have := Nat.div_add_mod N y
  rw [Nat.mul_comm] at this; omega
theorem dv_two (u x1 x0 y : Nat) : (((u * 4294967296 + x1) % y) * 4294967296 + x0) % y = (u * 18446744073709551616 + (x1 * 4294967296 + x0)) % y := by
  rw [Nat.add_mod, Nat.mod_mul_mod, ← Nat.add_mod, Nat.add_mul, Nat.mul_assoc, Nat.add_assoc]
theorem dv_norm (hi lo y s : Nat) (hs : s ≤ 64) :
    ((hi * 2 ^ s + lo / 2 ^ (64 - s)) * 18446744073709551616 + lo * 2 ^ s % 18446744073709551616) % (y * 2 ^ s) / 2 ^ s = (hi * 18446744073709551616 + lo) % y := by
  have h1 : lo * 2 ^ s / 18446744073709551616 = lo / 2 ^ (64 - s) := by
    have e : 18446744073709551616 = 2 ^ (64 - s) * 2 ^ s := by rw [← Nat.pow_add, show 64 - s + s = 64 by omega]
    rw [e, Nat.mul_div_mul_right _ _ (Nat.two_pow_pos s)]
  have h2 := Nat.div_add_mod (lo * 2 ^ s) 18446744073709551616
  have h3 : (hi * 2 ^ s + lo / 2 ^ (64 - s)) * 18446744073709551616 + lo * 2 ^ s % 18446744073709551616 = (hi * 18446744073709551616 + lo) * 2 ^ s := by
    rw [← h1, Nat.add_mul, Nat.add_mul, Nat.mul_right_comm]
    omega
  rw [h3, Nat.mul_mod_mul_right, Nat.mul_div_cancel _ (Nat.two_pow_pos s)]

/-! Residues. -/
/-- Go's remainder, made positive. -/
theorem residue_eq (a m : Int) (hm : 0 < m) : (if a.tmod m < 0 then a.tmod m + m else a.tmod m) = a % m := by
  rw [Int.tmod_eq_emod]
  have h1 := Int.emod_nonneg a (by omega : m ≠ 0)
  have h2 := Int.emod_lt_of_pos a hm
  have h3 : (m.natAbs : Int) = m := by omega
  by_cases h : 0 ≤ a ∨ m ∣ a
  · rw [if_pos h]; rw [if_neg (by omega)]; omega
  · rw [if_neg h, h3]
    have h4 : a % m ≠ 0 := fun e => h (.inr (Int.dvd_of_emod_eq_zero e))
    rw [if_pos (by omega)]; omega

def addS (a b m : Int) : Int := if m < 1 then 0 else (a + b) % m
def subS (a b m : Int) : Int := if m < 1 then 0 else (a - b) % m
def mulS (a b m : Int) : Int := if m < 1 then 0 else (a * b) % m
/-- The power, by squaring. -/
def pw (m : Int) : Nat → Int → Nat → Int → Int
  | 0, _, _, acc => acc
  | f + 1, b, e, acc => pw m f (b * b % m) (e / 2) (if e % 2 = 1 then acc * b % m else acc)
theorem pow_two_mul (b : Int) (k : Nat) : b ^ (2 * k) = (b * b) ^ k := by
  rw [Int.pow_mul]; congr 1; rw [Int.pow_succ, Int.pow_succ, Int.pow_zero, Int.one_mul]
theorem emod_pow (a m : Int) : ∀ n : Nat, (a % m) ^ n % m = a ^ n % m
  | 0 => by rw [Int.pow_zero, Int.pow_zero]
  | n + 1 => by rw [Int.pow_succ, Int.pow_succ, Int.mul_emod, emod_pow a m n, Int.emod_emod_of_dvd _ (Int.dvd_refl m), ← Int.mul_emod]
theorem pw_spec (m : Int) : ∀ (f : Nat) (b : Int) (e : Nat) (acc : Int), e < 2 ^ f → pw m f b e acc % m = acc * b ^ e % m
  | 0, b, e, acc, h => by
    obtain rfl : e = 0 := by simpa using h
    simp [pw]
  | f + 1, b, e, acc, h => by
    rw [pw, pw_spec m f _ _ _ (by rw [Nat.pow_succ] at h; omega), Int.mul_emod, emod_pow, ← Int.mul_emod, ← pow_two_mul]
    have h1 := Nat.div_add_mod e 2
    by_cases h2 : e % 2 = 1
    · rw [if_pos h2, Int.mul_emod, Int.emod_emod_of_dvd _ (Int.dvd_refl m), ← Int.mul_emod]
      conv => rhs; rw [← h1, h2, Int.pow_succ, Int.mul_comm (b ^ _) b, ← Int.mul_assoc]
    · rw [if_neg h2]
      have h3 : e % 2 = 0 := by omega
      conv => rhs; rw [← h1, h3, Nat.add_zero]
def powS (a n m : Int) : Int := if m < 1 ∨ n < 0 then 0 else pw m 64 (a % m) n.toNat (1 % m) % m
theorem powS_eq (a n m : Int) (hm : 1 ≤ m) (hn : 0 ≤ n) (h : n.toNat < 2 ^ 64) : powS a n m = a ^ n.toNat % m := by
  unfold powS
  rw [if_neg (by omega), pw_spec m 64 _ _ _ h, Int.mul_emod, emod_pow, Int.emod_emod_of_dvd _ (Int.dvd_refl m), ← Int.mul_emod, Int.one_mul]
def eu (m : Int) : Nat → Nat → Nat → Int → Int → Nat × Int
  | 0, r, _, x, _ => (r, x)
  | f + 1, r, s, x, y => if s = 0 then (r, x) else eu m f s (r % s) y ((x - ((r / s : Nat) : Int) * y % m) % m)
def invS (a m : Int) : Int × Bool :=
  if m < 1 then (0, false) else
    let p := eu m ((a % m).toNat + 1) m.toNat (a % m).toNat 0 (1 % m)
    if p.1 = 1 then (p.2, true) else (0, false)

/-- The number is a product with a, but for multiples of m. -/
def Cg (m a : Int) (x : Int) (r : Int) : Prop := m ∣ x * a - r
theorem cg_step {m a x y r s q : Int} (h1 : Cg m a x r) (h2 : Cg m a y s) : Cg m a ((x - q * y % m) % m) (r - q * s) := by
  unfold Cg at *
  have e : ∀ z : Int, m ∣ z % m - z := fun z => by rw [Int.emod_def]; exact ⟨-(z / m), by rw [Int.mul_neg]; omega⟩
  have e1 := Int.dvd_mul_of_dvd_left (c := a) (e (x - q * y % m))
  have e2 := Int.dvd_mul_of_dvd_left (c := a) (e (q * y))
  have e3 : ((x - q * y % m) % m) * a - (r - q * s) = ((x - q * y % m) % m - (x - q * y % m)) * a - (q * y % m - q * y) * a + ((x * a - r) - q * (y * a - s)) := by
    simp only [Int.sub_mul, Int.mul_sub, Int.mul_assoc]; omega
  rw [e3]
  exact Int.dvd_add (Int.dvd_sub e1 e2) (Int.dvd_sub h1 (Int.dvd_mul_of_dvd_right (b := q) h2))
theorem eu_spec (m a : Int) (hm : 0 < m) : ∀ (f r s : Nat) (x y : Int), s < f → 0 ≤ x → x < m → 0 ≤ y → y < m → Cg m a x r → Cg m a y s →
    (eu m f r s x y).1 = Nat.gcd r s ∧ Cg m a (eu m f r s x y).2 (eu m f r s x y).1 ∧ 0 ≤ (eu m f r s x y).2 ∧ (eu m f r s x y).2 < m := by
  intro f
  induction f with
  | zero => intro r s x y h; omega
  | succ f ih =>
    intro r s x y h hx0 hx1 hy0 hy1 h1 h2
    unfold eu
    by_cases hs : s = 0
    · subst hs; rw [if_pos rfl]; exact ⟨by simp, h1, hx0, hx1⟩
    · rw [if_neg hs]
      have hlt := Nat.mod_lt r (by omega : s > 0)
      have hc := cg_step (q := ((r / s : Nat) : Int)) h1 h2
      have hr : ((r % s : Nat) : Int) = (r : Int) - ((r / s : Nat) : Int) * (s : Int) := by
        have := Nat.div_add_mod r s
        rw [Nat.mul_comm] at this
        rw [← Int.natCast_mul]; omega
      rw [← hr] at hc
      have := ih s (r % s) y _ (by omega) hy0 hy1 (Int.emod_nonneg _ (by omega)) (Int.emod_lt_of_pos _ hm) h2 hc
      rw [Nat.gcd_comm r s, Nat.gcd_rec, Nat.gcd_comm]
      exact this
theorem invS_spec (a m : Int) (hm : 1 ≤ m) : ((invS a m).2 = true ↔ Nat.gcd m.toNat (a % m).toNat = 1) ∧ 0 ≤ (invS a m).1 ∧ (invS a m).1 < m ∧ ((invS a m).2 = true → (a * (invS a m).1) % m = 1 % m) := by
  have h0 := Int.emod_nonneg a (by omega : m ≠ 0)
  have h1 := Int.emod_nonneg 1 (by omega : m ≠ 0)
  have h2 := Int.emod_lt_of_pos 1 (by omega : 0 < m)
  have e : ∀ z : Int, m ∣ z % m - z := fun z => by rw [Int.emod_def]; exact ⟨-(z / m), by rw [Int.mul_neg]; omega⟩
  obtain ⟨k1, k2, k3, k4⟩ := eu_spec m a (by omega) ((a % m).toNat + 1) m.toNat (a % m).toNat 0 (1 % m) (by omega) (by omega) (by omega) h1 h2
    (by unfold Cg; exact ⟨-1, by omega⟩)
    (by unfold Cg
        rw [show (((a % m).toNat : Nat) : Int) = a % m by omega]
        have := Int.dvd_sub (Int.dvd_mul_of_dvd_left (c := a) (e 1)) (e a)
        rw [Int.sub_mul, Int.one_mul] at this
        rw [show 1 % m * a - a % m = 1 % m * a - a - (a % m - a) by omega]; exact this)
  unfold invS
  rw [if_neg (by omega)]
  generalize eu m ((a % m).toNat + 1) m.toNat (a % m).toNat 0 (1 % m) = p at *
  rw [← k1]
  by_cases hp : p.1 = 1
  · simp only [hp, if_true]
    refine ⟨trivial, k3, k4, fun _ => ?_⟩
    unfold Cg at k2
    rw [hp, Int.mul_comm] at k2
    exact Int.emod_eq_emod_iff_emod_sub_eq_zero.2 (Int.emod_eq_zero_of_dvd k2)
  · simp only [hp, if_false]
    exact ⟨by simp, by omega, by omega, fun h => by cases h⟩
end Fld

namespace FldP
open NT Fld
def PP : Int := 2305843009213691579
def QQ : Int := 1152921504606845789
theorem PP_cast : PP = ((2305843009213691579 : Nat) : Int) := rfl
theorem PP_pos : 0 < PP := by decide
theorem pp_prime {u v : Int} (h : PP ∣ u * v) : PP ∣ u ∨ PP ∣ v := by
  have h1 := Int.natAbs_dvd_natAbs.2 h
  rw [Int.natAbs_mul] at h1
  rcases rootP.pr.2 _ _ h1 with h2 | h2
  · exact .inl (Int.natAbs_dvd_natAbs.1 h2)
  · exact .inr (Int.natAbs_dvd_natAbs.1 h2)
theorem qq_prime {u v : Int} (h : QQ ∣ u * v) : QQ ∣ u ∨ QQ ∣ v := by
  have h1 := Int.natAbs_dvd_natAbs.2 h
  rw [Int.natAbs_mul] at h1
  rcases rootQ.pr.2 _ _ h1 with h2 | h2
  · exact .inl (Int.natAbs_dvd_natAbs.1 h2)
  · exact .inr (Int.natAbs_dvd_natAbs.1 h2)
theorem cast_pow_mod (r n p : Nat) : ((r : Int) ^ n) % (p : Int) = ((r ^ n % p : Nat) : Int) := by
  rw [Int.natCast_emod, Int.natCast_pow]
theorem fermat_PP (a : Int) (h : a % PP ≠ 0) : a ^ 2305843009213691578 % PP = 1 := by
  have h0 := Int.emod_nonneg a (by decide : PP ≠ 0)
  have h1 := Int.emod_lt_of_pos a PP_pos
  rw [← emod_pow]
  generalize a % PP = z at *
  obtain ⟨r, rfl⟩ : ∃ r : Nat, z = (r : Int) := ⟨z.toNat, by omega⟩
  rw [PP_cast] at h1 ⊢
  rw [cast_pow_mod]
  have := rootP.fermat r (fun hd => by
    have := Nat.le_of_dvd (by omega) hd
    omega)
  rw [show 2305843009213691578 = 2305843009213691579 - 1 from rfl, this]; rfl
theorem half_cases (a : Int) (h : a % PP ≠ 0) : a ^ 1152921504606845789 % PP = 1 ∨ a ^ 1152921504606845789 % PP = PP - 1 := by
  have h1 := fermat_PP a h
  rw [show 2305843009213691578 = 1152921504606845789 * 2 from rfl, Int.pow_mul] at h1
  generalize a ^ 1152921504606845789 = x at *
  have h2 : PP ∣ (x - 1) * (x + 1) := by
    apply Int.dvd_of_emod_eq_zero
    have e : (x - 1) * (x + 1) = x ^ 2 - 1 := by
      rw [Int.pow_succ, Int.pow_succ, Int.pow_zero, Int.one_mul, Int.sub_mul, Int.mul_add]; omega
    rw [e]
    exact Int.emod_eq_emod_iff_emod_sub_eq_zero.1 h1
  rcases pp_prime h2 with h3 | h3
  · left
    exact Int.emod_eq_emod_iff_emod_sub_eq_zero.2 (Int.emod_eq_zero_of_dvd h3)
  · right
    have h4 : x % PP = (-1) % PP := Int.emod_eq_emod_iff_emod_sub_eq_zero.2 (Int.emod_eq_zero_of_dvd (by rw [Int.sub_neg]; exact h3))
    rw [h4]; rfl
theorem neg_pow_odd (x : Int) (k : Nat) : (-x) ^ (2 * k + 1) = -(x ^ (2 * k + 1)) := by
  rw [Int.pow_succ, Int.pow_succ, pow_two_mul, pow_two_mul, Int.neg_mul_neg, Int.mul_neg]
theorem half_neg (a : Int) : (PP - a) ^ 1152921504606845789 % PP = (-(a ^ 1152921504606845789)) % PP := by
  have e : (PP - a) % PP = (-a) % PP := by
    rw [show PP - a = -a + PP by omega, Int.add_emod_right]
  rw [← emod_pow, e, emod_pow, show 1152921504606845789 = 2 * 576460752303422894 + 1 from rfl, neg_pow_odd]

theorem pow_zero_mod {a : Int} {n : Nat} (h : a % PP = 0) (hn : 0 < n) : a ^ n % PP = 0 := by
  rw [← emod_pow, h]
  obtain ⟨k, rfl⟩ : ∃ k, n = k + 1 := ⟨n - 1, by omega⟩
  rw [Int.pow_succ, Int.mul_zero]; rfl

/-- Elements of the group. -/
def memS (a : Int) : Bool := decide (0 < a) && decide (a < PP) && (powS a QQ PP == 1)
theorem powQ (a : Int) : powS a QQ PP = a ^ 1152921504606845789 % PP := powS_eq a QQ PP (by decide) (by decide) (by decide)
theorem memS_iff (a : Int) : memS a = true ↔ 0 < a ∧ a < PP ∧ a ^ 1152921504606845789 % PP = 1 := by
  unfold memS
  rw [powQ]
  simp only [Bool.and_eq_true, decide_eq_true_eq, beq_iff_eq, and_assoc]
theorem memS_mod (z : Int) : memS (z % PP) = true ↔ z ^ 1152921504606845789 % PP = 1 := by
  rw [memS_iff, emod_pow]
  have h0 := Int.emod_nonneg z (by decide : PP ≠ 0)
  have h1 := Int.emod_lt_of_pos z PP_pos
  constructor
  · exact fun h => h.2.2
  · intro h
    refine ⟨?_, h1, h⟩
    rcases Int.lt_or_le 0 (z % PP) with h2 | h2
    · exact h2
    · have := pow_zero_mod (n := 1152921504606845789) (show z % PP = 0 by omega) (by decide)
      omega
theorem memS_range {a : Int} (h : memS a = true) : 0 < a ∧ a < PP := ⟨((memS_iff a).1 h).1, ((memS_iff a).1 h).2.1⟩
theorem memS_pow {a : Int} (h : memS a = true) : a ^ 1152921504606845789 % PP = 1 := ((memS_iff a).1 h).2.2
theorem mul_pow' (a b : Int) : ∀ n : Nat, (a * b) ^ n = a ^ n * b ^ n
  | 0 => by simp
  | n + 1 => by rw [Int.pow_succ, Int.pow_succ, Int.pow_succ, mul_pow' a b n, Int.mul_assoc, Int.mul_assoc, Int.mul_left_comm (b ^ n) a b]
theorem memS_mul {a b : Int} (ha : memS a = true) (hb : memS b = true) : memS (mulS a b PP) = true := by
  rw [mulS, if_neg (by decide), memS_mod, mul_pow', Int.mul_emod, memS_pow ha, memS_pow hb]; rfl
theorem one_pow' (m : Int) (hm : 1 < m) (z : Int) (h : z % m = 1) (n : Nat) : z ^ n % m = 1 := by
  rw [← emod_pow, h]
  have : ∀ n : Nat, (1 : Int) ^ n = 1 := fun n => Int.one_pow
  rw [this, Int.emod_eq_of_lt (by omega) hm]
theorem memS_powS {a : Int} (ha : memS a = true) (e : Int) (he : 0 ≤ e) (h : e.toNat < 2 ^ 64) : memS (powS a e PP) = true := by
  rw [powS_eq a e PP (by decide) he h, memS_mod, ← Int.pow_mul, Nat.mul_comm, Int.pow_mul]
  exact one_pow' PP (by decide) _ (memS_pow ha) _
/-- A square. -/
def elemS (n : Int) : Int := mulS (n % (PP - 1) + 1) (n % (PP - 1) + 1) PP
theorem elemS_mem (n : Int) : memS (elemS n) = true := by
  unfold elemS
  have h0 := Int.emod_nonneg n (by decide : PP - 1 ≠ 0)
  have h1 := Int.emod_lt_of_pos n (by decide : 0 < PP - 1)
  obtain ⟨x, hx⟩ : ∃ x, n % (PP - 1) + 1 = x := ⟨_, rfl⟩
  rw [hx]
  rw [mulS, if_neg (by decide), memS_mod, mul_pow', ← Int.pow_add]
  exact fermat_PP x (by rw [Int.emod_eq_of_lt (by omega) (by omega)]; omega)
theorem memS_neg {x : Int} (h : memS x = true) : memS (PP - x) = false := by
  rw [← Bool.not_eq_true, memS_iff]
  rintro ⟨_, _, h3⟩
  rw [half_neg] at h3
  have h4 := memS_pow h
  generalize x ^ 1152921504606845789 = y at *
  have h5 : (-y) % PP = (-1) % PP := by
    have h4 : y % PP = 1 % PP := h4
    rw [Int.emod_eq_emod_iff_emod_sub_eq_zero] at h4 ⊢
    have := Int.dvd_of_emod_eq_zero h4
    apply Int.emod_eq_zero_of_dvd
    rw [show -y - -1 = -(y - 1) by omega]
    exact (Int.dvd_neg).2 this
  rw [h3] at h5
  exact absurd h5 (by decide)
theorem memS_either (r : Int) (h0 : 0 < r) (h1 : r < PP) : memS r = !memS (PP - r) := by
  cases hm : memS r
  · have hr : r % PP ≠ 0 := by rw [Int.emod_eq_of_lt (by omega) h1]; omega
    have : memS (PP - r) = true := by
      rw [memS_iff, half_neg]
      refine ⟨by omega, by omega, ?_⟩
      rcases half_cases r hr with h2 | h2
      · exact absurd ((memS_iff r).2 ⟨h0, h1, h2⟩) (by rw [hm]; decide)
      · generalize r ^ 1152921504606845789 = y at *
        have h4 : y % PP = (-1) % PP := h2.trans (by decide)
        rw [Int.emod_eq_emod_iff_emod_sub_eq_zero] at h4
        have h5 : (-y) % PP = 1 % PP := by
          rw [Int.emod_eq_emod_iff_emod_sub_eq_zero]
          have := Int.dvd_of_emod_eq_zero h4
          apply Int.emod_eq_zero_of_dvd
          rw [show -y - 1 = -(y - -1) by omega]
          exact (Int.dvd_neg).2 this
        rw [h5]; rfl
    rw [this]; rfl
  · rw [memS_neg hm]; rfl

theorem gcd_PP {r : Nat} (h0 : 0 < r) (h1 : r < 2305843009213691579) : Nat.gcd 2305843009213691579 r = 1 :=
  rootP.pr.coprime (fun hd => by have := Nat.le_of_dvd h0 hd; omega)
theorem gcd_QQ {r : Nat} (h0 : 0 < r) (h1 : r < 1152921504606845789) : Nat.gcd 1152921504606845789 r = 1 :=
  rootQ.pr.coprime (fun hd => by have := Nat.le_of_dvd h0 hd; omega)
theorem inv_PP (a : Int) : (invS a PP).2 = true ↔ a % PP ≠ 0 := by
  have h0 := Int.emod_nonneg a (by decide : PP ≠ 0)
  have h1 := Int.emod_lt_of_pos a PP_pos
  rw [(invS_spec a PP (by decide)).1]
  rw [show PP.toNat = 2305843009213691579 from rfl]
  constructor
  · intro h e
    rw [e] at h
    exact absurd h (by decide)
  · intro h
    exact gcd_PP (by omega) (by generalize a % PP = z at *; unfold PP at h1; omega)
theorem inv_QQ (a : Int) : (invS a QQ).2 = true ↔ a % QQ ≠ 0 := by
  have h0 := Int.emod_nonneg a (by decide : QQ ≠ 0)
  have h1 := Int.emod_lt_of_pos a (by decide : 0 < QQ)
  rw [(invS_spec a QQ (by decide)).1]
  rw [show QQ.toNat = 1152921504606845789 from rfl]
  constructor
  · intro h e
    rw [e] at h
    exact absurd h (by decide)
  · intro h
    exact gcd_QQ (by omega) (by generalize a % QQ = z at *; unfold QQ at h1; omega)
theorem inv_mem {x : Int} (h : memS x = true) : (invS x PP).2 = true ∧ memS (invS x PP).1 = true := by
  have hr := memS_range h
  have h1 : (invS x PP).2 = true := (inv_PP x).2 (by rw [Int.emod_eq_of_lt (by omega) hr.2]; omega)
  obtain ⟨_, k0, k1, k2⟩ := invS_spec x PP (by decide)
  have k3 := k2 h1
  generalize (invS x PP).1 = y at *
  refine ⟨h1, (memS_iff y).2 ⟨?_, k1, ?_⟩⟩
  · rcases Int.lt_or_le 0 y with h2 | h2
    · exact h2
    · obtain rfl : y = 0 := by omega
      rw [Int.mul_zero] at k3
      exact absurd k3 (by decide)
  · have h2 := one_pow' PP (by decide) _ k3 1152921504606845789
    rw [mul_pow', Int.mul_emod, memS_pow h, Int.one_mul, Int.emod_emod_of_dvd _ (Int.dvd_refl PP)] at h2
    exact h2
theorem pow_QQ {x : Int} (h : memS x = true) (e : Int) (he : 0 ≤ e) (hl : e.toNat < 2 ^ 64) : powS x e PP = powS x (addS e 0 QQ) PP := by
  have h0 := Int.emod_nonneg e (by decide : QQ ≠ 0)
  have h1 := Int.emod_lt_of_pos e (by decide : 0 < QQ)
  rw [addS, if_neg (by decide), Int.add_zero, powS_eq x e PP (by decide) he hl, powS_eq x (e % QQ) PP (by decide) h0 (by unfold QQ at *; omega)]
  have e1 : e.toNat = 1152921504606845789 * (e / QQ).toNat + (e % QQ).toNat := by
    have := Int.mul_ediv_add_emod e QQ
    have h3 : 0 ≤ e / QQ := Int.ediv_nonneg he (by decide)
    unfold QQ at *
    omega
  rw [e1, Int.pow_add, Int.pow_mul, Int.mul_emod, one_pow' PP (by decide) _ (memS_pow h), Int.one_mul, Int.emod_emod_of_dvd _ (Int.dvd_refl PP)]
theorem fermat_inv (a : Int) (h : a % PP ≠ 0) : powS a (PP - 2) PP = (invS a PP).1 := by
  rw [powS_eq a (PP - 2) PP (by decide) (by decide) (by decide)]
  have h1 := (inv_PP a).2 h
  obtain ⟨_, k0, k1, k2⟩ := invS_spec a PP (by decide)
  have k3 := k2 h1
  have h2 := fermat_PP a h
  rw [show (PP - 2).toNat = 2305843009213691577 from rfl]
  rw [show 2305843009213691578 = 2305843009213691577 + 1 from rfl, Int.pow_succ, Int.mul_comm] at h2
  generalize a ^ 2305843009213691577 = z at *
  generalize (invS a PP).1 = y at *
  have h3 : (a * z) % PP = (a * y) % PP := h2.trans (k3.trans rfl).symm
  rw [Int.emod_eq_emod_iff_emod_sub_eq_zero, ← Int.mul_sub] at h3
  rcases pp_prime (Int.dvd_of_emod_eq_zero h3) with h4 | h4
  · exact absurd (Int.emod_eq_zero_of_dvd h4) h
  · rw [← Int.emod_eq_of_lt k0 k1]
    exact Int.emod_eq_emod_iff_emod_sub_eq_zero.2 (Int.emod_eq_zero_of_dvd h4)
theorem powS_add (a i j m : Int) (hm : 1 ≤ m) (hi : 0 ≤ i) (hj : 0 ≤ j) (hl : i + j < 4611686018427387904) : powS a (i + j) m = mulS (powS a i m) (powS a j m) m := by
  rw [powS_eq a i m hm hi (by omega), powS_eq a j m hm hj (by omega), powS_eq a (i + j) m hm (by omega) (by omega), mulS, if_neg (by omega), ← Int.mul_emod, ← Int.pow_add]
  congr 2; omega
theorem fermat_powS (a : Int) (h : a % PP ≠ 0) : powS a (PP - 1) PP = 1 := by
  rw [powS_eq a (PP - 1) PP (by decide) (by decide) (by decide)]; exact fermat_PP a h
theorem zero_powS (a e : Int) (h : a % PP = 0) (h0 : 0 < e) (hl : e.toNat < 2 ^ 64) : powS a e PP = 0 := by
  rw [powS_eq a e PP (by decide) (by omega) hl]; exact pow_zero_mod h (by omega)
theorem half_powS (a : Int) (h : a % PP ≠ 0) : powS a QQ PP = 1 ∨ powS a QQ PP = PP - 1 := by
  rw [powQ]; exact half_cases a h
/-! The rules of a ring. -/
section
variable (a b c m : Int)
theorem ring_add_comm : addS a b m = addS b a m := by unfold addS; rw [Int.add_comm]
theorem ring_mul_comm : mulS a b m = mulS b a m := by unfold mulS; rw [Int.mul_comm]
theorem ring_add_assoc : addS (addS a b m) c m = addS a (addS b c m) m := by
  unfold addS; split
  · rfl
  · rw [Int.emod_add_emod, Int.add_emod_emod, Int.add_assoc]
theorem ring_mul_assoc : mulS (mulS a b m) c m = mulS a (mulS b c m) m := by
  unfold mulS; split
  · rfl
  · rw [Int.mul_emod, Int.emod_emod_of_dvd _ (Int.dvd_refl m), ← Int.mul_emod, Int.mul_emod a, Int.emod_emod_of_dvd _ (Int.dvd_refl m), ← Int.mul_emod, Int.mul_assoc]
theorem ring_dist : mulS a (addS b c m) m = addS (mulS a b m) (mulS a c m) m := by
  unfold mulS addS; split
  · rfl
  · rw [Int.mul_emod, Int.emod_emod_of_dvd _ (Int.dvd_refl m), ← Int.mul_emod, Int.emod_add_emod, Int.add_emod_emod, Int.mul_add]
theorem ring_sub_add : addS (subS a b m) b m = addS a 0 m := by
  unfold addS subS; split
  · rfl
  · rw [Int.emod_add_emod, Int.sub_add_cancel, Int.add_zero]
theorem ring_mul_one : mulS a 1 m = addS a 0 m := by unfold mulS addS; rw [Int.mul_one, Int.add_zero]
end
end FldP
end Go.Proofs.Ytdnabeldaighgaa
