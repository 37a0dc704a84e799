/- Plain mathematics of designs: with a prime number of disks and one rack every pair meets once in a period. -/
import Derived.Test.YtffdhckilhhejaaPdes2
import Derived.Test.YtffdhckilhhejaaDes5
namespace Go.Proofs.Ytffdhckilhhejaa

def upC (g : Nat → Bool) (n : Nat) : Nat := ((List.range n).filter g).length
theorem upC_succ (g : Nat → Bool) (n : Nat) : upC g (n + 1) = upC g n + (if g n then 1 else 0) := by
  unfold upC; rw [List.range_succ, List.filter_append, List.length_append]
  cases h : g n <;> simp [h]
theorem upC_le (g : Nat → Bool) (n : Nat) : upC g n ≤ n := by
  unfold upC; have := List.length_filter_le g (List.range n); simpa using this
theorem upC_one (g : Nat → Bool) (k0 : Nat) (h0 : g k0 = true) : ∀ n, (∀ k, k < n → g k = true → k = k0) → upC g n = if k0 < n then 1 else 0
  | 0, _ => by simp [upC]
  | n + 1, hu => by
    rw [upC_succ, upC_one g k0 h0 n (fun k hk => hu k (by omega))]
    rcases Nat.lt_trichotomy k0 n with h | h | h
    · have : g n = false := by
        cases hg : g n
        · rfl
        · have := hu n (by omega) hg; omega
      rw [this, if_pos (by omega : k0 < n + 1), if_pos h]; simp
    · subst h; rw [h0]; simp
    · have : g n = false := by
        cases hg : g n
        · rfl
        · have := hu n (by omega) hg; omega
      rw [this, if_neg (by omega : ¬ k0 < n + 1), if_neg (by omega : ¬ k0 < n)]; simp

def primeB (n : Nat) : Bool := decide (1 < n) && (List.range n).all fun k => decide (k < 2) || decide (n % k ≠ 0)
theorem primeB_cop (n a : Nat) (h : primeB n = true) (h1 : 1 ≤ a) (h2 : a < n) : Nat.gcd a n = 1 := by
  unfold primeB at h
  simp only [Bool.and_eq_true, decide_eq_true_eq, List.all_eq_true, List.mem_range, Bool.or_eq_true] at h
  have hd := Nat.gcd_dvd_right a n
  have hle := Nat.gcd_le_left n h1
  have hpos := Nat.gcd_pos_of_pos_left n h1
  rcases h.2 (Nat.gcd a n) (by omega) with h3 | h3
  · omega
  · exact absurd (Nat.mod_eq_zero_of_dvd hd) h3

theorem muls_prime (D : Nat) (h : primeB D = true) : muls D 1 = (List.range (D - 1)).map (1 + ·) := by
  have h1 : 1 < D := by unfold primeB at h; simp at h; exact h.1
  unfold muls
  rw [if_neg (by omega)]
  have hc : cnt D 1 = D - 1 := by unfold cnt; simp
  rw [hc]
  simp only [prog, Nat.mul_one]
  rw [List.filter_eq_self]
  intro a ha
  obtain ⟨i, hi, rfl⟩ := List.mem_map.1 ha
  rw [List.mem_range] at hi
  simp [primeB_cop D (1 + i) h (by omega) (by omega)]

theorem mulAt_prime (D k m : Nat) (h : primeB D = true) (hk : k < D * (D - 1)) : mulAt D 1 (m * (D * (D - 1)) + k) = 1 + k / D := by
  have h1 : 1 < D := by unfold primeB at h; simp at h; exact h.1
  have hj : k / D < D - 1 := by rw [Nat.div_lt_iff_lt_mul (by omega), Nat.mul_comm]; exact hk
  have h2 : (m * (D * (D - 1)) + k) / D = m * (D - 1) + k / D := by
    have : m * (D * (D - 1)) + k = k + D * (m * (D - 1)) := by rw [Nat.mul_left_comm]; omega
    rw [this, Nat.add_mul_div_left _ _ (by omega)]; omega
  unfold mulAt
  rw [muls_prime D h, h2]
  simp only [List.length_map, List.length_range]
  rw [Nat.mul_comm m, Nat.mul_add_mod, Nat.mod_eq_of_lt hj]
  rw [getD_lt _ _ _ (by simpa using hj)]; simp

theorem mod_eq_dvd (x t D : Nat) (ht : t < D) : x % D = t ↔ (D : Int) ∣ (x : Int) - t := by
  constructor
  · rintro rfl
    have := Int.emod_add_mul_ediv (x : Int) D
    exact ⟨(x : Int) / D, by rw [Int.natCast_emod]; omega⟩
  · rintro ⟨c, hc⟩
    have h1 : (x : Int) = t + D * c := by omega
    have h2 : (x : Int) % D = t := by rw [h1, Int.add_mul_emod_self_left]; exact Int.emod_eq_of_lt (by omega) (by omega)
    omega

/-- Two lines through two points: one multiplier and one offset. -/
theorem pair_once (D p q d e : Nat) (hP : primeB D = true) (hp : p < D) (hq : q < D) (hd : d < D) (he : e < D) (hpq : p ≠ q) (hde : d ≠ e) :
    ∃ a b, (1 ≤ a ∧ a < D ∧ b < D) ∧ ((a * p + b) % D = d ∧ (a * q + b) % D = e) ∧
      ∀ a' b', 1 ≤ a' → a' < D → b' < D → (a' * p + b') % D = d → (a' * q + b') % D = e → a' = a ∧ b' = b := by
  have hD : 1 < D := by unfold primeB at hP; simp at hP; exact hP.1
  obtain ⟨c, hc⟩ : ∃ c, c = (p + D - q) % D := ⟨_, rfl⟩
  obtain ⟨f, hf⟩ : ∃ f, f = (d + D - e) % D := ⟨_, rfl⟩
  have hcD : c < D := by rw [hc]; exact Nat.mod_lt _ (by omega)
  have hfD : f < D := by rw [hf]; exact Nat.mod_lt _ (by omega)
  have hcd := (mod_eq_dvd (p + D - q) c D hcD).1 hc.symm
  have hfd := (mod_eq_dvd (d + D - e) f D hfD).1 hf.symm
  have e1 : ((p + D - q : Nat) : Int) = (p : Int) + D - q := by omega
  have e2 : ((d + D - e : Nat) : Int) = (d : Int) + D - e := by omega
  rw [e1] at hcd; rw [e2] at hfd
  have hc0 : 1 ≤ c := by
    rcases Nat.eq_zero_or_pos c with h | h
    · subst h
      obtain ⟨k, hk⟩ := hcd
      have h3 : (p : Int) - q = D * (k - 1) := by rw [Int.mul_sub]; omega
      rcases Int.lt_trichotomy (k - 1) 0 with h4 | h4 | h4
      · have : (D : Int) * (k - 1) ≤ D * (-1) := Int.mul_le_mul_of_nonneg_left (by omega) (by omega)
        omega
      · rw [h4] at h3; omega
      · have : (D : Int) * 1 ≤ D * (k - 1) := Int.mul_le_mul_of_nonneg_left (by omega) (by omega)
        omega
    · exact h
  have hf0 : 1 ≤ f := by
    rcases Nat.eq_zero_or_pos f with h | h
    · subst h
      obtain ⟨k, hk⟩ := hfd
      have h3 : (d : Int) - e = D * (k - 1) := by rw [Int.mul_sub]; omega
      rcases Int.lt_trichotomy (k - 1) 0 with h4 | h4 | h4
      · have : (D : Int) * (k - 1) ≤ D * (-1) := Int.mul_le_mul_of_nonneg_left (by omega) (by omega)
        omega
      · rw [h4] at h3; omega
      · have : (D : Int) * 1 ≤ D * (k - 1) := Int.mul_le_mul_of_nonneg_left (by omega) (by omega)
        omega
    · exact h
  have hg := primeB_cop D c hP hc0 hcD
  obtain ⟨a, haD, ha⟩ := lin_onto c 0 D f hg hfD
  rw [Nat.add_zero] at ha
  have ha1 : 1 ≤ a := by
    rcases Nat.eq_zero_or_pos a with h | h
    · subst h; simp at ha; omega
    · exact h
  have had := (mod_eq_dvd (c * a) f D hfD).1 ha
  rw [Int.natCast_mul] at had
  have hCc : (D : Int) ∣ ((p : Int) - q) - c := by
    have := Int.dvd_sub hcd (Int.dvd_refl (D : Int))
    have e : (p : Int) + D - q - c - D = ((p : Int) - q) - c := by omega
    rwa [e] at this
  have hFf : (D : Int) ∣ ((d : Int) - e) - f := by
    have := Int.dvd_sub hfd (Int.dvd_refl (D : Int))
    have e : (d : Int) + D - e - f - D = ((d : Int) - e) - f := by omega
    rwa [e] at this
  have hCF : (D : Int) ∣ ((p : Int) - q) * a - ((d : Int) - e) := by
    have := Int.dvd_sub (Int.dvd_add (Int.dvd_trans hCc (Int.dvd_mul_right _ (a : Int))) had) hFf
    have e : (((p : Int) - q) - c) * a + ((c : Int) * a - f) - (((d : Int) - e) - f) = ((p : Int) - q) * a - ((d : Int) - e) := by
      rw [Int.sub_mul (((p : Int) - q)) c a]; omega
    rwa [e] at this
  obtain ⟨b, hb⟩ : ∃ b, b = (d + D * a - a * p) % D := ⟨_, rfl⟩
  have hbD : b < D := by rw [hb]; exact Nat.mod_lt _ (by omega)
  have hle : a * p ≤ D * a := by rw [Nat.mul_comm D]; exact Nat.mul_le_mul_left _ (by omega)
  have hbd := (mod_eq_dvd (d + D * a - a * p) b D hbD).1 hb.symm
  have e3 : ((d + D * a - a * p : Nat) : Int) = (d : Int) + D * a - a * p := by
    rw [Int.ofNat_sub (by omega)]; simp
  rw [e3] at hbd
  have g1' : (D : Int) ∣ (a : Int) * p + b - d := by
    have := Int.dvd_sub (Int.dvd_mul_right (D : Int) (a : Int)) hbd
    have e : (D : Int) * a - ((d : Int) + D * a - a * p - b) = (a : Int) * p + b - d := by omega
    rwa [e] at this
  have line : ∀ x y z : Nat, ((x * y + z : Nat) : Int) = (x : Int) * y + z := by intro x y z; simp
  refine ⟨a, b, ⟨ha1, haD, hbD⟩, ⟨(mod_eq_dvd _ _ _ hd).2 (by rw [line]; exact g1'), (mod_eq_dvd _ _ _ he).2 ?_⟩, ?_⟩
  · rw [line]
    have := Int.dvd_sub g1' hCF
    have e : (a : Int) * p + b - d - (((p : Int) - q) * a - ((d : Int) - e)) = (a : Int) * q + b - e := by
      rw [Int.sub_mul, Int.mul_comm (p : Int), Int.mul_comm (q : Int)]; omega
    rwa [e] at this
  · intro a' b' h1 h2 h3 h4 h5
    have k1 := (mod_eq_dvd _ _ _ hd).1 h4
    have k2 := (mod_eq_dvd _ _ _ he).1 h5
    rw [line] at k1 k2
    have k3 : (D : Int) ∣ ((p : Int) - q) * a' - ((d : Int) - e) := by
      have := Int.dvd_sub k1 k2
      have e : (a' : Int) * p + b' - d - ((a' : Int) * q + b' - e) = ((p : Int) - q) * a' - ((d : Int) - e) := by
        rw [Int.sub_mul, Int.mul_comm (p : Int), Int.mul_comm (q : Int)]; omega
      rwa [e] at this
    have k4 : (c * a') % D = f := by
      rw [mod_eq_dvd _ _ _ hfD, Int.natCast_mul]
      have := Int.dvd_add (Int.dvd_sub k3 (Int.dvd_trans hCc (Int.dvd_mul_right _ (a' : Int)))) hFf
      have e : ((p : Int) - q) * a' - ((d : Int) - e) - (((p : Int) - q) - c) * a' + (((d : Int) - e) - f) = (c : Int) * a' - f := by
        rw [Int.sub_mul (((p : Int) - q)) c a']; omega
      rwa [e] at this
    have k5 : a' = a := lin_inj c 0 D a' a hg h2 haD (by rw [Nat.add_zero, Nat.add_zero, k4, ha])
    subst k5
    refine ⟨rfl, ?_⟩
    have k6 : b' % D = b := by
      rw [mod_eq_dvd _ _ _ hbD]
      have := Int.dvd_sub k1 g1'
      have e : (a' : Int) * p + b' - d - ((a' : Int) * p + b - d) = (b' : Int) - b := by omega
      rwa [e] at this
    rwa [Nat.mod_eq_of_lt h3] at k6

/-- In a period there is exactly one row in which two disks have two positions. -/
theorem spread_once (D m p q d e : Nat) (hP : primeB D = true) (hp : p < D) (hq : q < D) (hd : d < D) (he : e < D) (hpq : p ≠ q) (hde : d ≠ e) :
    upC (fun k => ((ord D 1 (m * (D * (D - 1)) + k)).getD p 0 == d) && ((ord D 1 (m * (D * (D - 1)) + k)).getD q 0 == e)) (D * (D - 1)) = 1 := by
  have hD : 1 < D := by unfold primeB at hP; simp at hP; exact hP.1
  obtain ⟨a, b, ⟨ha1, haD, hbD⟩, ⟨h1, h2⟩, hu⟩ := pair_once D p q d e hP hp hq hd he hpq hde
  have hrow : ∀ k x, k < D * (D - 1) → x < D → (ord D 1 (m * (D * (D - 1)) + k)).getD x 0 = ((1 + k / D) * x + k % D) % D := by
    intro k x hk hx
    rw [getD_lt _ _ _ (by rw [ord_length]; exact hx)]
    simp only [ord, List.getElem_map, List.getElem_range, mulAt_prime D k m hP hk]
    have : (1 + k / D) * x + (m * (D * (D - 1)) + k) = (1 + k / D) * x + k + D * (m * (D - 1)) := by rw [Nat.mul_left_comm]; omega
    rw [this, Nat.add_mul_mod_self_left, Nat.add_mod_mod]
  have hk0 : (a - 1) * D + b < D * (D - 1) := by
    have : (a - 1) * D + D ≤ (D - 1) * D := by rw [← Nat.succ_mul]; exact Nat.mul_le_mul_right _ (by omega)
    rw [Nat.mul_comm D]; omega
  have hdiv : ((a - 1) * D + b) / D = a - 1 := by rw [Nat.mul_comm, Nat.mul_add_div (by omega), Nat.div_eq_of_lt hbD]; omega
  have hmod : ((a - 1) * D + b) % D = b := by rw [Nat.mul_comm, Nat.mul_add_mod, Nat.mod_eq_of_lt hbD]
  have ha2 : 1 + (a - 1) = a := by omega
  have hc := upC_one (fun k => ((ord D 1 (m * (D * (D - 1)) + k)).getD p 0 == d) && ((ord D 1 (m * (D * (D - 1)) + k)).getD q 0 == e)) ((a - 1) * D + b) (by
    simp only [hrow _ p hk0 hp, hrow _ q hk0 hq, hdiv, hmod, ha2, h1, h2]; simp) (D * (D - 1)) (fun k hk hg => by
      simp only [hrow _ p hk hp, hrow _ q hk hq, Bool.and_eq_true, beq_iff_eq] at hg
      have hj : k / D < D - 1 := by rw [Nat.div_lt_iff_lt_mul (by omega), Nat.mul_comm]; exact hk
      obtain ⟨h7, h8⟩ := hu (1 + k / D) (k % D) (Nat.le_add_right _ _) (by omega) (Nat.mod_lt _ (by omega)) hg.1 hg.2
      have hdm := Nat.div_add_mod k D
      have h9 : k / D = a - 1 := by rw [← h7]; simp
      rw [Nat.mul_comm, h9, h8] at hdm
      exact hdm.symm)
  rw [if_pos hk0] at hc
  exact hc
end Go.Proofs.Ytffdhckilhhejaa
