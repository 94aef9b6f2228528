/- What shares and their commitments answer, in plain numbers. No program here. Conditions: none. -/
import Derived.Test.YtdnabeldaighgaaSan12
namespace Go.Proofs.Ytdnabeldaighgaa
open Shr Pol

/-! ### Powers of an element of the group -/
theorem pow_red {a : Int} (h : FldP.memS a = true) (e : Nat) : a ^ e % PZ = a ^ (e % 1152921504606845789) % PZ := by
  have e1 : e = 1152921504606845789 * (e / 1152921504606845789) + e % 1152921504606845789 := (Nat.div_add_mod e 1152921504606845789).symm
  have h1 : a ^ 1152921504606845789 % PZ = 1 := FldP.memS_pow h
  generalize 1152921504606845789 = q at *
  generalize e % q = r at *
  generalize e / q = d at *
  subst e1
  rw [Int.pow_add, Int.pow_mul, Int.mul_emod, FldP.one_pow' PZ (by decide) _ h1, Int.one_mul, Int.emod_emod_of_dvd _ (Int.dvd_refl PZ)]
theorem blw_range {c : Int} (h : blw c = true) : 0 ≤ c ∧ c < QZ := by
  unfold blw at h
  simpa using h
theorem all_get {l : List Int} (h : l.all blw = true) (k : Nat) : 0 ≤ l.getD k 0 ∧ l.getD k 0 < QZ := by
  rw [List.getD_eq_getElem?_getD]
  cases hk : l[k]? with
  | none => exact ⟨by decide, by decide⟩
  | some c => exact blw_range (List.all_eq_true.1 h c (List.mem_of_getElem? hk))
theorem pws_range (x : Int) (k : Nat) : 0 ≤ pws x k ∧ pws x k < QZ := by
  cases k with
  | zero => show (0 : Int) ≤ 1 ∧ (1 : Int) < QZ; decide
  | succ k =>
    show 0 ≤ Fld.mulS (pws x k) x QZ ∧ Fld.mulS (pws x k) x QZ < QZ
    rw [mulS_q]
    exact ⟨Int.emod_nonneg _ (by decide), Int.emod_lt_of_pos _ (by decide)⟩
theorem pva_range (l : List Int) (x : Int) (k : Nat) : 0 ≤ pva l x k ∧ pva l x k < QZ := by
  cases k with
  | zero => show (0 : Int) ≤ 0 ∧ (0 : Int) < QZ; decide
  | succ k =>
    show 0 ≤ Fld.addS (pva l x k) (Fld.mulS (l.getD k 0) (pws x k) QZ) QZ ∧ Fld.addS (pva l x k) (Fld.mulS (l.getD k 0) (pws x k) QZ) QZ < QZ
    rw [addS_q]
    exact ⟨Int.emod_nonneg _ (by decide), Int.emod_lt_of_pos _ (by decide)⟩
theorem powS_p {a n : Int} (h : 0 ≤ n ∧ n < QZ) : Fld.powS a n PZ = a ^ n.toNat % PZ := Fld.powS_eq a n PZ (by decide) h.1 (by have : QZ = 1152921504606845789 := rfl; omega)
theorem mulS_p (a b : Int) : Fld.mulS a b PZ = a * b % PZ := by unfold Fld.mulS; rw [if_neg (by decide)]
theorem four_mem : FldP.memS 4 = true := by kernel_rfl
theorem coms_len (l : List Int) : (coms l).length = l.length := by unfold coms; simp
theorem coms_getD (l : List Int) (k : Nat) (hk : k < l.length) : (coms l).getD k 0 = Fld.powS 4 (l.getD k 0) PZ := by
  unfold coms
  rw [List.getD_eq_getElem?_getD, List.getElem?_map, List.getD_eq_getElem?_getD, List.getElem?_eq_getElem hk]; rfl
/-- One step in the exponent. -/
theorem gpow_step {g : Int} (hg : FldP.memS g = true) {a c p : Int} (ha : 0 ≤ a ∧ a < QZ) (hc : 0 ≤ c ∧ c < QZ) (hp : 0 ≤ p ∧ p < QZ) :
    Fld.mulS (Fld.powS g a PZ) (Fld.powS (Fld.powS g c PZ) p PZ) PZ = Fld.powS g (Fld.addS a (Fld.mulS c p QZ) QZ) PZ := by
  have hr : 0 ≤ (a + c * p % QZ) % QZ ∧ (a + c * p % QZ) % QZ < QZ := ⟨Int.emod_nonneg _ (by decide), Int.emod_lt_of_pos _ (by decide)⟩
  rw [mulS_p, powS_p ha, powS_p hp, powS_p hc, addS_q, mulS_q, powS_p hr, Fld.emod_pow, ← Int.mul_emod, ← Int.pow_mul, ← Int.pow_add, pow_red hg]
  congr 2
  have e1 : (a + c * p % QZ) % QZ = (a + c * p) % QZ := Int.add_emod_emod _ _ _
  rw [e1]
  have h2 : 0 ≤ c * p := Int.mul_nonneg hc.1 hp.1
  have h3 : (c * p).toNat = c.toNat * p.toNat := by
    obtain ⟨u, rfl⟩ := Int.eq_ofNat_of_zero_le hc.1
    obtain ⟨v, rfl⟩ := Int.eq_ofNat_of_zero_le hp.1
    rw [← Int.natCast_mul]; rfl
  rw [← h3]
  generalize c * p = z at *
  have hq : QZ = 1152921504606845789 := rfl
  rw [hq]
  omega
theorem prd_coms (l : List Int) (x : Int) (h : l.all blw = true) : ∀ k, k ≤ l.length → prd (coms l) x k = Fld.powS 4 (pva l x k) PZ
  | 0, _ => by
    show (1 : Int) = Fld.powS 4 0 PZ
    kernel_rfl
  | k + 1, hk => by
    show Fld.mulS (prd (coms l) x k) (Fld.powS ((coms l).getD k 0) (pws x k) PZ) PZ = Fld.powS 4 (Fld.addS (pva l x k) (Fld.mulS (l.getD k 0) (pws x k) QZ) QZ) PZ
    rw [prd_coms l x h k (by omega), coms_getD l k (by omega)]
    exact gpow_step four_mem (pva_range l x k) (all_get h k) (pws_range x k)
/-- Different exponents below the order give different powers. -/
theorem inj_nat {g p q : Nat} (hp : 1 < p) (hpr : ∀ a b : Nat, p ∣ a * b → p ∣ a ∨ p ∣ b) (hg : ¬ p ∣ g) (hq : ∀ r, 0 < r → r < q → Nat.gcd q r = 1) (h1 : g ^ q % p = 1) (hne : g % p ≠ 1) : ∀ a b : Nat, a ≤ b → b < q → g ^ a % p = g ^ b % p → a = b := by
  intro a b hab hb h
  have hga : ∀ n, ¬ p ∣ g ^ n := by
    intro n
    induction n with
    | zero => intro h; rw [Nat.pow_zero] at h; have := Nat.le_of_dvd (by decide) h; omega
    | succ n ih =>
      intro h
      rw [Nat.pow_succ] at h
      rcases hpr _ _ h with h | h
      · exact ih h
      · exact hg h
  obtain ⟨d, rfl⟩ : ∃ d, b = a + d := ⟨b - a, by omega⟩
  rcases Nat.eq_zero_or_pos d with h0 | h0
  · omega
  · exfalso
    have hd : g ^ d % p = 1 := by
      rw [Nat.pow_add] at h
      have h2 : p ∣ g ^ a * g ^ d - g ^ a := Nat.dvd_of_mod_eq_zero (Nat.sub_mod_eq_zero_of_mod_eq h.symm)
      rw [show g ^ a * g ^ d - g ^ a = g ^ a * (g ^ d - 1) by rw [Nat.mul_sub, Nat.mul_one]] at h2
      rcases hpr _ _ h2 with h3 | h3
      · exact absurd h3 (hga a)
      · have h4 : 1 ≤ g ^ d := Nat.one_le_iff_ne_zero.2 (fun e => hga d (by rw [e]; exact Nat.dvd_zero p))
        obtain ⟨c, hc⟩ := h3
        rw [show g ^ d = 1 + p * c by omega, Nat.add_mul_mod_self_left, Nat.mod_eq_of_lt hp]
    have hz := NT.pow_gcd hp q d h1 hd
    rw [hq d h0 (by omega), Nat.pow_one] at hz
    exact hne hz
theorem inj_int {g : Nat} (hg : FldP.memS (g : Int) = true) (hne : (g : Int) ≠ 1) {a b : Int} (ha : 0 ≤ a ∧ a < QZ) (hb : 0 ≤ b ∧ b < QZ) (h : Fld.powS (g : Int) a PZ = Fld.powS (g : Int) b PZ) : a = b := by
  rw [powS_p ha, powS_p hb] at h
  have h1 := FldP.memS_pow hg
  have h2 := FldP.memS_range hg
  have hP : PZ = ((2305843009213691579 : Nat) : Int) := rfl
  have hP2 : FldP.PP = ((2305843009213691579 : Nat) : Int) := rfl
  rw [hP] at h
  rw [hP2] at h1 h2
  rw [FldP.cast_pow_mod, FldP.cast_pow_mod] at h
  rw [FldP.cast_pow_mod] at h1
  have h' := Int.ofNat.inj h
  have h1' := Int.ofNat.inj (show Int.ofNat _ = Int.ofNat 1 from h1)
  obtain ⟨a', rfl⟩ := Int.eq_ofNat_of_zero_le ha.1
  obtain ⟨b', rfl⟩ := Int.eq_ofNat_of_zero_le hb.1
  rw [Int.toNat_natCast, Int.toNat_natCast] at h'
  have hQ : QZ = ((1152921504606845789 : Nat) : Int) := rfl
  rw [hQ] at ha hb
  have key := inj_nat (g := g) (p := 2305843009213691579) (q := 1152921504606845789) (by decide) NT.rootP.pr.2 (fun hd => by have := Nat.le_of_dvd (by omega) hd; omega) (fun r h0 hr => FldP.gcd_QQ h0 hr) h1' (by rw [Nat.mod_eq_of_lt (by omega)]; omega)
  rcases Nat.le_total a' b' with hab | hab
  · rw [key a' b' hab (by omega) h']
  · rw [key b' a' hab (by omega) h'.symm]
theorem four_inj {a b : Int} (ha : 0 ≤ a ∧ a < QZ) (hb : 0 ≤ b ∧ b < QZ) (h : Fld.powS 4 a PZ = Fld.powS 4 b PZ) : a = b := inj_int (g := 4) four_mem (by decide) ha hb h

/-! ### What fits -/
/-- The value that a share at x should have. -/
def val (l : List Int) (x : Int) : Int := pva l x l.length
theorem val_range (l : List Int) (x : Int) : 0 ≤ val l x ∧ val l x < QZ := pva_range l x _
theorem fts_coms (l : List Int) (h : l.all blw = true) (x y : Int) : fts (coms l) (x, y) = (insd (x, y) && (y == val l x)) := by
  unfold fts
  show (insd (x, y) && (prd (coms l) x (coms l).length == Fld.powS 4 y PZ)) = _
  cases hi : insd (x, y) with
  | false => rfl
  | true =>
    obtain ⟨_, _, y1, y2⟩ := insd_parts hi
    rw [coms_len, prd_coms l x h _ (Nat.le_refl _), Bool.true_and, Bool.true_and]
    by_cases e : y = val l x
    · rw [e]
      rw [beq_self_eq_true]
      exact beq_self_eq_true _
    · have : ¬ Fld.powS 4 (pva l x l.length) PZ = Fld.powS 4 y PZ := fun h2 => e (four_inj (pva_range l x _) ⟨y1, y2⟩ h2).symm
      rw [beq_eq_false_iff_ne.2 this, beq_eq_false_iff_ne.2 e]
theorem comm_coms (l : List Int) (h : l.all blw = true) (h1 : 1 ≤ l.length) (h2 : l.length ≤ 100) : comm (coms l) = true := by
  unfold comm
  rw [coms_len, decide_eq_true h1, decide_eq_true h2]
  simp only [Bool.true_and]
  rw [List.all_eq_true]
  intro c hc
  unfold coms at hc
  obtain ⟨z, hz, rfl⟩ := List.mem_map.1 hc
  have hr := blw_range (List.all_eq_true.1 h z hz)
  exact FldP.memS_powS four_mem z hr.1 (by have : QZ = 1152921504606845789 := rfl; omega)
theorem insd_of {x y : Int} (h1 : 0 < x) (h2 : x < QZ) (h3 : 0 ≤ y) (h4 : y < QZ) : insd (x, y) = true := by
  unfold insd blw
  simp only [Bool.and_eq_true, decide_eq_true_eq]
  exact ⟨⟨h1, by omega, h2⟩, h3, h4⟩
/-- A share of the polynomial. -/
def Shr.isS (l : List Int) (p : Int × Int) : Prop := 0 < p.1 ∧ p.1 < QZ ∧ p.2 = val l p.1
theorem isS_insd {l : List Int} {p : Int × Int} (h : isS l p) : insd p = true := by
  obtain ⟨x, y⟩ := p
  obtain ⟨h1, h2, h3⟩ := h
  have h3 : y = val l x := h3
  have := val_range l x
  exact insd_of h1 h2 (by omega) (by omega)
theorem isS_fts {l : List Int} (hl : l.all blw = true) {p : Int × Int} (h : isS l p) : fts (coms l) p = true := by
  obtain ⟨x, y⟩ := p
  rw [fts_coms l hl, isS_insd h, Bool.true_and, beq_iff_eq]
  exact h.2.2
theorem isS_of_fts {l : List Int} (hl : l.all blw = true) {p : Int × Int} (h : fts (coms l) p = true) : isS l p := by
  obtain ⟨x, y⟩ := p
  rw [fts_coms l hl, Bool.and_eq_true, beq_iff_eq] at h
  obtain ⟨a, b, _⟩ := insd_parts h.1
  exact ⟨a, b, h.2⟩
theorem shl_get (l : List Int) (n k : Nat) (hk : k < n) : (shl l n)[k]? = some ((k : Int) + 1, val l ((k : Int) + 1)) := by
  unfold shl val
  rw [List.getElem?_map, List.getElem?_range hk]; rfl
theorem shl_isS (l : List Int) (n : Nat) (hn : n ≤ 1000) : ∀ p ∈ shl l n, isS l p := by
  intro p hp
  obtain ⟨k, hk, rfl⟩ := List.getElem_of_mem hp
  rw [shl_length] at hk
  have := shl_get l n k hk
  rw [List.getElem?_eq_getElem (by rw [shl_length]; exact hk)] at this
  injection this with this
  rw [this]
  have hq : QZ = 1152921504606845789 := rfl
  exact ⟨by show (0 : Int) < (k : Int) + 1; omega, by show (k : Int) + 1 < QZ; omega, rfl⟩
theorem shl_fst (l : List Int) (n : Nat) : (shl l n).map Prod.fst = (List.range n).map fun (k : Nat) => (k : Int) + 1 := by
  unfold shl
  rw [List.map_map]; rfl
theorem shl_nodup (l : List Int) (n : Nat) : ((shl l n).map Prod.fst).Nodup := by
  rw [shl_fst]
  refine (List.pairwise_map).2 ((List.nodup_range (n := n)).imp ?_)
  intro a b h e
  exact h (by omega)
theorem val_zero (l : List Int) (hl : l.all blw = true) : ev l 0 % QZ = l.headD 0 := by
  rw [ev_zero]
  cases l with
  | nil => rfl
  | cons c r =>
    have := blw_range (List.all_eq_true.1 hl c (by simp))
    exact Int.emod_eq_of_lt this.1 this.2
theorem dvd_range_eq {a b : Int} (h : QZ ∣ a - b) (ha : 0 ≤ a ∧ a < QZ) (hb : 0 ≤ b ∧ b < QZ) : a = b := by
  obtain ⟨c, hc⟩ := h
  rcases Int.lt_trichotomy c 0 with h2 | h2 | h2
  · have : QZ * c ≤ QZ * (-1) := Int.mul_le_mul_of_nonneg_left (by omega) (by decide)
    omega
  · subst h2; rw [Int.mul_zero] at hc; omega
  · have : QZ * 1 ≤ QZ * c := Int.mul_le_mul_of_nonneg_left (by omega) (by decide)
    omega
theorem jval_range {l : List (Int × Int)} (h : jok l = true) (h1 : 1 ≤ l.length) : 0 ≤ jval l ∧ jval l < QZ := by
  rw [← lago_jval l h h1]
  exact lago_range l _
/-- As many shares of the polynomial as it has coefficients give the first one. -/
theorem jval_secret (l : List Int) (s : List (Int × Int)) (hl : l.all blw = true) (h1 : 1 ≤ l.length) (hs : s.length = l.length) (hj : jok s = true) (hi : ∀ p ∈ s, isS l p) : jval s = l.headD 0 := by
  obtain ⟨n, hn⟩ : ∃ n, s.length = n + 1 := ⟨s.length - 1, by omega⟩
  have hap := jok_apart hj
  rw [hn] at hap
  have hinv : ∀ i j, i < j → j < n + 1 → QZ ∣ (Xf s j - Xf s i) * inq ((Xf s j - Xf s i) % QZ) - 1 := fun i j hij hj => by
    have h2 := hap i j (by omega) hj (by omega)
    have h3 : ((Xf s j - Xf s i) % QZ) % QZ ≠ 0 := by rw [Int.emod_emod]; exact fun e => h2 (Int.dvd_of_emod_eq_zero e)
    exact cg_trans (cg_mul (emod_dvd QZ _) (cg_refl _ _)) (inq_cg h3)
  have key := nv_value (m := QZ) (fun u v => FldP.qq_prime) (inv := inq) (X := Xf s) (Y := Yf s) (n := n) hinv (fun i j hij hj => hap i j (by omega) hj (by omega)) (f := ev l) ⟨l, by omega, fun _ => rfl⟩ (fun j hj => by
    have hj2 : j < s.length := by omega
    have := hi _ (List.getElem_mem hj2)
    rw [Xf_get s j hj2, Yf_get s j hj2, this.2.2]
    unfold val
    rw [pva_ev l _ _ (Nat.le_refl _), List.take_length]
    exact emod_dvd QZ _)
  have hr := jval_range hj (by omega)
  have hv := val_zero l hl
  unfold jval at hr ⊢
  rw [hn, Nat.add_sub_cancel] at hr ⊢
  refine (dvd_range_eq ?_ ?_ hr).symm
  · rw [← hv]; exact cg_trans (cg_mod _) key
  · rw [← hv]; exact ⟨Int.emod_nonneg _ (by decide), Int.emod_lt_of_pos _ (by decide)⟩
theorem jok_isS {l : List Int} {s : List (Int × Int)} (hi : ∀ p ∈ s, isS l p) (hn : (s.map Prod.fst).Nodup) : jok s = true := by
  unfold jok
  rw [Bool.and_eq_true, List.all_eq_true]
  exact ⟨fun p hp => isS_insd (hi p hp), decide_eq_true hn⟩
theorem joinS_secret (l : List Int) (s : List (Int × Int)) (hl : l.all blw = true) (h1 : 1 ≤ l.length) (hs : l.length ≤ s.length) (hi : ∀ p ∈ s, isS l p) (hn : (s.map Prod.fst).Nodup) : joinS l.length s = (l.headD 0, true) := by
  have hi2 : ∀ p ∈ s.take l.length, isS l p := fun p hp => hi p (List.mem_of_mem_take hp)
  have hj : jok (s.take l.length) = true := jok_isS hi2 (by rw [List.map_take]; exact hn.sublist (List.take_sublist _ _))
  rw [joinS_ok h1 hs hj, jval_secret l _ hl h1 (by rw [List.length_take]; omega) hj hi2]

/-! ### Lists of shares that may bear an X twice -/
theorem ownS_nodup {l : List (Int × Int)} (h : (l.map Prod.fst).Nodup) : ownS l = l := by
  have key : ∀ (l acc : List (Int × Int)), ((acc ++ l).map Prod.fst).Nodup → l.foldl stp acc = acc ++ l := by
    intro l
    induction l with
    | nil => intro acc _; simp
    | cons s l ih =>
      intro acc hn
      have h1 : stp acc s = acc ++ [s] := by
        unfold stp
        rw [if_neg]
        intro h2
        obtain ⟨p, hp, e⟩ := List.any_eq_true.1 h2
        rw [beq_iff_eq] at e
        rw [List.map_append, List.nodup_append] at hn
        exact hn.2.2 p.1 (List.mem_map_of_mem hp) s.1 (by simp) e
      rw [List.foldl_cons, h1, ih _ (by rw [List.append_assoc]; exact hn), List.append_assoc]; rfl
  have := key l [] (by simpa using h)
  unfold ownS
  simpa using this
/-- Open finds the secret from the shares that were not changed. -/
theorem opS_shares (l : List Int) (s : List (Int × Int)) (hl : l.all blw = true) (h1 : 1 ≤ l.length) (h2 : l.length ≤ 100) (hn : (s.map Prod.fst).Nodup) :
    opS (coms l) s = if (s.filter (fts (coms l))).length < l.length then (0, badS (coms l) s, 24) else (l.headD 0, badS (coms l) s, 0) := by
  have hg : ((s.filter (fts (coms l))).map Prod.fst).Nodup := hn.sublist (List.filter_sublist.map _)
  unfold opS
  rw [comm_coms l hl h1 h2, if_neg (by simp), ownS_nodup hg, coms_len]
  split
  · rfl
  · rename_i hlt
    rw [joinS_secret l _ hl h1 (by omega) (fun p hp => isS_of_fts hl (List.mem_filter.1 hp).2) hg]
end Go.Proofs.Ytdnabeldaighgaa
