import Derived.RowKit
/- Joined texts: Gf1 Gf2 Gf3 Gf4. -/
section
/- The fields with 2^m elements, as numbers below 2^m: multiplication by x, products, powers of x. No program in sight; no condition. -/
namespace Go.Proofs.YtjaipchlnnjaeaaDoor
set_option linter.unusedVariables false
set_option linter.unusedSimpArgs false

namespace Gf
/-- Times x. -/
def xt (m p a : Nat) : Nat := 2 * a ^^^ (bif a.testBit (m - 1) then p else 0)
def xi (m p : Nat) : Nat → Nat → Nat
  | 0, a => a
  | i + 1, a => xt m p (xi m p i a)
/-- The sum of x^i a over the bits i below k of b. -/
def mulK (m p : Nat) : Nat → Nat → Nat → Nat
  | 0, _, _ => 0
  | k + 1, a, b => mulK m p k a b ^^^ (bif b.testBit k then xi m p k a else 0)
def mul (m p a b : Nat) : Nat := mulK m p m a b

theorem two_mul_xor (a b : Nat) : 2 * (a ^^^ b) = 2 * a ^^^ 2 * b := by
  have h : ∀ n : Nat, 2 * n = n <<< 1 := fun n => by rw [Nat.shiftLeft_eq]; omega
  rw [h, h, h, Nat.shiftLeft_xor_distrib]
theorem xor4 (a b c d : Nat) : (a ^^^ b) ^^^ (c ^^^ d) = (a ^^^ c) ^^^ (b ^^^ d) := by
  rw [Nat.xor_assoc, ← Nat.xor_assoc b c d, Nat.xor_comm b c, Nat.xor_assoc c b d, ← Nat.xor_assoc a c]
theorem bif_xor (x y : Bool) (p : Nat) : (bif (x ^^ y) then p else 0) = (bif x then p else 0) ^^^ (bif y then p else 0) := by
  cases x <;> cases y <;> simp
theorem bif_xor' (x : Bool) (p q : Nat) : (bif x then (p ^^^ q) else 0) = (bif x then p else 0) ^^^ (bif x then q else 0) := by
  cases x <;> simp

variable {m p : Nat}
theorem xt_xor (a b : Nat) : xt m p (a ^^^ b) = xt m p a ^^^ xt m p b := by
  unfold xt
  rw [two_mul_xor, Nat.testBit_xor, bif_xor, xor4]
theorem xt_zero : xt m p 0 = 0 := by simp [xt]
theorem xi_xor (i a b : Nat) : xi m p i (a ^^^ b) = xi m p i a ^^^ xi m p i b := by
  induction i with
  | zero => rfl
  | succ i ih => rw [xi, ih, xt_xor]; rfl
theorem xi_zero (i : Nat) : xi m p i 0 = 0 := by
  induction i with
  | zero => rfl
  | succ i ih => rw [xi, ih, xt_zero]
theorem xi_add (i j a : Nat) : xi m p (i + j) a = xi m p i (xi m p j a) := by
  induction i with
  | zero => rw [Nat.zero_add]; rfl
  | succ i ih => rw [Nat.succ_add, xi, ih]; rfl
theorem xi_comm (i j a : Nat) : xi m p i (xi m p j a) = xi m p j (xi m p i a) := by rw [← xi_add, ← xi_add, Nat.add_comm]
theorem xi_bif (i : Nat) (c : Bool) (a : Nat) : xi m p i (bif c then a else 0) = bif c then xi m p i a else 0 := by
  cases c
  · exact xi_zero i
  · rfl
theorem mulK_xor_right (k a b c : Nat) : mulK m p k a (b ^^^ c) = mulK m p k a b ^^^ mulK m p k a c := by
  induction k with
  | zero => simp [mulK]
  | succ k ih => rw [mulK, mulK, mulK, ih, Nat.testBit_xor, bif_xor, xor4]
theorem mulK_xor_left (k a b c : Nat) : mulK m p k (a ^^^ b) c = mulK m p k a c ^^^ mulK m p k b c := by
  induction k with
  | zero => simp [mulK]
  | succ k ih => rw [mulK, mulK, mulK, ih, xi_xor, bif_xor', xor4]
theorem mulK_zero_left (k c : Nat) : mulK m p k 0 c = 0 := by
  induction k with
  | zero => rfl
  | succ k ih => rw [mulK, ih, xi_zero]; cases c.testBit k <;> rfl
theorem mulK_zero_right (k a : Nat) : mulK m p k a 0 = 0 := by
  induction k with
  | zero => rfl
  | succ k ih => rw [mulK, ih]; simp
theorem mulK_bif (k : Nat) (c : Bool) (a b : Nat) : mulK m p k (bif c then a else 0) b = bif c then mulK m p k a b else 0 := by
  cases c
  · exact mulK_zero_left k b
  · rfl
theorem xi_mulK (j k a b : Nat) : xi m p j (mulK m p k a b) = mulK m p k (xi m p j a) b := by
  induction k with
  | zero => exact xi_zero j
  | succ k ih => rw [mulK, mulK, xi_xor, ih, xi_bif, xi_comm]
theorem mulK_mulK (k l a b c : Nat) : mulK m p k (mulK m p l c a) b = mulK m p l (mulK m p k c b) a := by
  induction k with
  | zero => rw [mulK, mulK, mulK_zero_left]
  | succ k ih => rw [mulK, ih, mulK, mulK_xor_left, mulK_bif, xi_mulK]

/-! ### Below 2^m -/
theorem lt_of_testBit_false (m a : Nat) (h : a < 2 ^ (m + 1)) (hb : a.testBit m = false) : a < 2 ^ m := by
  apply Nat.lt_pow_two_of_testBit
  intro i hi
  by_cases e : i = m
  · rw [e]; exact hb
  · exact Nat.testBit_lt_two_pow (Nat.lt_of_lt_of_le h (Nat.pow_le_pow_right (by omega) (by omega)))
theorem xt_lt (hm : 1 ≤ m) (h1 : p.testBit m = true) (h2 : p < 2 ^ (m + 1)) {a : Nat} (ha : a < 2 ^ m) : xt m p a < 2 ^ m := by
  have e : 2 ^ (m + 1) = 2 * 2 ^ m := by rw [Nat.pow_succ]; omega
  unfold xt
  have hsh : (2 * a).testBit m = a.testBit (m - 1) := by
    obtain ⟨k, rfl⟩ : ∃ k, m = k + 1 := ⟨m - 1, by omega⟩
    rw [Nat.testBit_succ, Nat.mul_div_cancel_left a (by omega)]; rfl
  apply lt_of_testBit_false
  · cases a.testBit (m - 1)
    · simp only [cond_false, Nat.xor_zero]; omega
    · simp only [cond_true]
      exact Nat.xor_lt_two_pow (by omega) h2
  · rw [Nat.testBit_xor, hsh]
    cases a.testBit (m - 1)
    · simp
    · simp [h1]
theorem xi_lt (hm : 1 ≤ m) (h1 : p.testBit m = true) (h2 : p < 2 ^ (m + 1)) {a : Nat} (ha : a < 2 ^ m) (i : Nat) : xi m p i a < 2 ^ m := by
  induction i with
  | zero => exact ha
  | succ i ih => exact xt_lt hm h1 h2 ih
theorem mulK_lt (hm : 1 ≤ m) (h1 : p.testBit m = true) (h2 : p < 2 ^ (m + 1)) {a : Nat} (ha : a < 2 ^ m) (k b : Nat) : mulK m p k a b < 2 ^ m := by
  induction k with
  | zero => exact Nat.two_pow_pos m
  | succ k ih =>
    rw [mulK]
    refine Nat.xor_lt_two_pow ih ?_
    cases b.testBit k
    · exact Nat.two_pow_pos m
    · exact xi_lt hm h1 h2 ha k
theorem xi_one (i : Nat) (hi : i < m) : xi m p i 1 = 2 ^ i := by
  induction i with
  | zero => rfl
  | succ i ih =>
    rw [xi, ih (by omega), xt, Nat.testBit_two_pow_of_ne (by omega)]
    simp only [cond_false, Nat.xor_zero]
    rw [Nat.pow_succ]; omega
theorem mod_succ_xor (b k : Nat) : b % 2 ^ (k + 1) = b % 2 ^ k ^^^ (bif b.testBit k then 2 ^ k else 0) := by
  apply Nat.eq_of_testBit_eq
  intro i
  rw [Nat.testBit_xor, Nat.testBit_mod_two_pow, Nat.testBit_mod_two_pow]
  rcases Nat.lt_trichotomy i k with h | h | h
  · have : (bif b.testBit k then 2 ^ k else 0).testBit i = false := by
      cases b.testBit k
      · simp
      · simp only [cond_true]; exact Nat.testBit_two_pow_of_ne (by omega)
    rw [this]
    simp [h, show i < k + 1 by omega]
  · subst h
    cases hb : b.testBit i
    · simp
    · simp [Nat.testBit_two_pow_self]
  · have : (bif b.testBit k then 2 ^ k else 0).testBit i = false := by
      cases b.testBit k
      · simp
      · simp only [cond_true]; exact Nat.testBit_two_pow_of_ne (by omega)
    rw [this]
    simp [show ¬ i < k + 1 by omega, show ¬ i < k by omega]
theorem mulK_one (k b : Nat) (hk : k ≤ m) : mulK m p k 1 b = b % 2 ^ k := by
  induction k with
  | zero => rw [mulK, Nat.pow_zero, Nat.mod_one]
  | succ k ih => rw [mulK, ih (by omega), xi_one k (by omega), mod_succ_xor]
theorem one_mul {b : Nat} (hb : b < 2 ^ m) : mul m p 1 b = b := by
  rw [mul, mulK_one m b (Nat.le_refl m), Nat.mod_eq_of_lt hb]
theorem mul_comm {a b : Nat} (ha : a < 2 ^ m) (hb : b < 2 ^ m) : mul m p a b = mul m p b a := by
  have := mulK_mulK (m := m) (p := p) m m a b 1
  rw [show mulK m p m 1 a = a from one_mul ha, show mulK m p m 1 b = b from one_mul hb] at this
  exact this
theorem mul_right_comm (a b c : Nat) : mul m p (mul m p c a) b = mul m p (mul m p c b) a := mulK_mulK m m a b c
theorem mul_lt (hm : 1 ≤ m) (h1 : p.testBit m = true) (h2 : p < 2 ^ (m + 1)) {a : Nat} (ha : a < 2 ^ m) (b : Nat) : mul m p a b < 2 ^ m := mulK_lt hm h1 h2 ha m b
theorem mul_assoc (hm : 1 ≤ m) (h1 : p.testBit m = true) (h2 : p < 2 ^ (m + 1)) {a b c : Nat} (ha : a < 2 ^ m) (hb : b < 2 ^ m) (hc : c < 2 ^ m) : mul m p (mul m p a b) c = mul m p a (mul m p b c) := by
  rw [mul_comm ha hb, mul_right_comm a c b, mul_comm (mul_lt hm h1 h2 hb c) ha]
theorem mul_xor (a b c : Nat) : mul m p a (b ^^^ c) = mul m p a b ^^^ mul m p a c := mulK_xor_right m a b c
theorem xor_mul (a b c : Nat) : mul m p (a ^^^ b) c = mul m p a c ^^^ mul m p b c := mulK_xor_left m a b c
theorem mul_zero (a : Nat) : mul m p a 0 = 0 := mulK_zero_right m a
theorem zero_mul (a : Nat) : mul m p 0 a = 0 := mulK_zero_left m a
theorem mul_one (hm : 1 ≤ m) {a : Nat} (ha : a < 2 ^ m) : mul m p a 1 = a := by
  rw [mul_comm ha (Nat.one_lt_two_pow (by omega)), one_mul ha]
theorem xt_mul (a b : Nat) : mul m p (xt m p a) b = xt m p (mul m p a b) := (xi_mulK 1 m a b).symm
theorem xi_mul (i a b : Nat) : mul m p (xi m p i a) b = xi m p i (mul m p a b) := (xi_mulK i m a b).symm
theorem xi_one_mul (i : Nat) {b : Nat} (hb : b < 2 ^ m) : mul m p (xi m p i 1) b = xi m p i b := by rw [xi_mul, one_mul hb]

/-! ### x generates all but 0 -/
/-- x^N is 1, and no lower power is. -/
structure Gen (m p : Nat) : Prop where
  hm : 1 ≤ m
  top : p.testBit m = true
  lt : p < 2 ^ (m + 1)
  one : xi m p (2 ^ m - 1) 1 = 1
  first : ∀ i, 0 < i → i < 2 ^ m - 1 → xi m p i 1 ≠ 1

/-- The first time that v, times x again and again, is 1, is after k steps. -/
def cyc (m p : Nat) : Nat → Nat → Bool
  | 0, _ => false
  | k + 1, v => match xt m p v with
    | 0 => false
    | 1 => Nat.beq k 0
    | w + 2 => cyc m p k (w + 2)
theorem cyc_spec : ∀ (k v : Nat), cyc m p k v = true → xi m p k v = 1 ∧ ∀ i, 0 < i → i < k → xi m p i v ≠ 1
  | 0, v, h => by simp [cyc] at h
  | k + 1, v, h => by
    have hs : ∀ i, xi m p (i + 1) v = xi m p i (xt m p v) := fun i => xi_add i 1 v
    rw [cyc] at h
    split at h
    · cases h
    · rename_i h1
      have hk := Nat.eq_of_beq_eq_true h
      subst hk
      exact ⟨by rw [hs, h1]; rfl, fun i h2 h3 => by omega⟩
    · rename_i w h1
      obtain ⟨h2, h3⟩ := cyc_spec k (w + 2) h
      rw [show w + 2 = xt m p v from h1.symm] at h2 h3
      refine ⟨by rw [hs]; exact h2, fun i h4 h5 => ?_⟩
      obtain ⟨j, rfl⟩ : ∃ j, i = j + 1 := ⟨i - 1, by omega⟩
      rw [hs]
      rcases Nat.eq_zero_or_pos j with rfl | hj
      · show xt m p v ≠ 1; omega
      · exact h3 j hj (by omega)
theorem nodup_le : ∀ (n : Nat) (l : List Nat), l.Nodup → (∀ x ∈ l, x < n) → l.length ≤ n
  | 0, l, _, h => by
    cases l with
    | nil => simp
    | cons a l => exact absurd (h a (by simp)) (by omega)
  | n + 1, l, hn, h => by
    have h1 := nodup_le n (l.erase n) (hn.erase n) (fun x hx => by
      have hm := (List.Nodup.mem_erase_iff hn).1 hx
      have := h x hm.2
      omega)
    have h2 := List.length_erase_le (a := n) (l := l)
    by_cases hm : n ∈ l
    · rw [List.length_erase_of_mem hm] at h1; omega
    · rw [List.erase_of_not_mem hm] at h1; omega
theorem nodup_full (n : Nat) (l : List Nat) (hn : l.Nodup) (h : ∀ x ∈ l, x < n) (hl : l.length = n) (t : Nat) (ht : t < n) : t ∈ l := by
  by_cases hm : t ∈ l
  · exact hm
  · have := nodup_le n (t :: l) (List.nodup_cons.2 ⟨hm, hn⟩) (fun x hx => by
      rcases List.mem_cons.1 hx with rfl | hx
      · exact ht
      · exact h x hx)
    simp at this; omega

theorem map_nodup {α : Type} (n : Nat) (f : Nat → α) (h : ∀ p q, p < n → q < n → f p = f q → p = q) : ((List.range n).map f).Nodup := by
  rw [List.Nodup, List.pairwise_map]
  have := List.nodup_range (n := n)
  rw [List.Nodup] at this
  refine List.Pairwise.imp_of_mem (fun {p q} hp hq hne he => hne (h p q (List.mem_range.1 hp) (List.mem_range.1 hq) he)) this

theorem pigeon (f : Nat → Nat) (n : Nat) (h1 : ∀ i, i < n → f i < n) (h2 : ∀ i j, i < j → j < n → f i ≠ f j) (a : Nat) (ha : a < n) : ∃ i, i < n ∧ f i = a := by
  have hnd : ((List.range n).map f).Nodup := map_nodup n f fun p q hp hq e => by
    rcases Nat.lt_trichotomy p q with h | h | h
    · exact absurd e (h2 p q h hq)
    · exact h
    · exact absurd e.symm (h2 q p h hp)
  have := nodup_full n _ hnd (fun x hx => by
    obtain ⟨i, hi, rfl⟩ := List.mem_map.1 hx
    exact h1 i (by simpa using hi)) (by simp) a ha
  obtain ⟨i, hi, rfl⟩ := List.mem_map.1 this
  exact ⟨i, by simpa using hi, rfl⟩
section
variable (g : Gen m p)
include g
theorem Gen.pos : 1 < 2 ^ m := Nat.one_lt_two_pow (by have := g.hm; omega)
theorem Gen.xlt (i : Nat) : xi m p i 1 < 2 ^ m := xi_lt g.hm g.top g.lt g.pos i
theorem Gen.ne_zero {i : Nat} (hi : i ≤ 2 ^ m - 1) : xi m p i 1 ≠ 0 := fun h => by
  have := g.one
  rw [show 2 ^ m - 1 = (2 ^ m - 1 - i) + i from by omega, xi_add, h, xi_zero] at this
  cases this
theorem Gen.inj {i j : Nat} (hij : i < j) (hj : j < 2 ^ m - 1) : xi m p i 1 ≠ xi m p j 1 := fun h => by
  have h1 := congrArg (xi m p (2 ^ m - 1 - i)) h
  rw [← xi_add, ← xi_add, show 2 ^ m - 1 - i + i = 2 ^ m - 1 from by omega, show 2 ^ m - 1 - i + j = (j - i) + (2 ^ m - 1) from by omega, xi_add (j - i), g.one] at h1
  exact g.first (j - i) (by omega) (by omega) h1.symm
/-- Every element but 0 is a power of x. -/
theorem Gen.log {a : Nat} (h0 : a ≠ 0) (ha : a < 2 ^ m) : ∃ i, i < 2 ^ m - 1 ∧ xi m p i 1 = a := by
  obtain ⟨i, h1, h2⟩ := pigeon (fun i => xi m p i 1 - 1) (2 ^ m - 1) (fun i hi => by
    have := g.xlt i; have := g.ne_zero (i := i) (by omega); omega) (fun i j hij hj => by
    have := g.ne_zero (i := i) (by omega)
    have := g.ne_zero (i := j) (by omega)
    have := g.inj hij hj
    omega) (a - 1) (by omega)
  exact ⟨i, h1, by have := g.ne_zero (i := i) (by omega); omega⟩
theorem Gen.inv {a : Nat} (h0 : a ≠ 0) (ha : a < 2 ^ m) : ∃ b, b < 2 ^ m ∧ b ≠ 0 ∧ mul m p a b = 1 := by
  obtain ⟨i, h1, rfl⟩ := g.log h0 ha
  refine ⟨xi m p (2 ^ m - 1 - i) 1, g.xlt _, g.ne_zero (by omega), ?_⟩
  rw [xi_one_mul i (g.xlt _), ← xi_add, show i + (2 ^ m - 1 - i) = 2 ^ m - 1 from by omega, g.one]
theorem Gen.zero_of_mul {a b : Nat} (ha : a < 2 ^ m) (hb : b < 2 ^ m) (h0 : a ≠ 0) (h : mul m p a b = 0) : b = 0 := by
  obtain ⟨c, h1, _, h2⟩ := g.inv h0 ha
  have : mul m p (mul m p a b) c = b := by rw [mul_right_comm, h2, one_mul hb]
  rw [h, zero_mul] at this
  exact this.symm
end

end Gf
end Go.Proofs.YtjaipchlnnjaeaaDoor
end

section
/- In the two fields x generates all but 0: counted out. No program in sight; no condition. -/
namespace Go.Proofs.YtjaipchlnnjaeaaDoor
namespace Gf
theorem gen8 : Gen 8 0x11d := by
  have h : cyc 8 0x11d 255 1 = true := by decide +kernel
  obtain ⟨h1, h2⟩ := cyc_spec 255 1 h
  exact ⟨by omega, by decide +kernel, by decide +kernel, h1, h2⟩
theorem gen16 : Gen 16 0x1100b := by
  have h : cyc 16 0x1100b 65535 1 = true := by decide +kernel
  obtain ⟨h1, h2⟩ := cyc_spec 65535 1 h
  exact ⟨by omega, by decide +kernel, by decide +kernel, h1, h2⟩

end Gf
end Go.Proofs.YtjaipchlnnjaeaaDoor
end

section
/- The fields with 2^m elements: Horner's rule, residues of polynomials, Euclid's algorithm. No program in sight; no condition. -/
namespace Go.Proofs.YtjaipchlnnjaeaaDoor
set_option linter.unusedVariables false
set_option linter.unusedSimpArgs false

namespace Gf
variable {m p : Nat}
/-- The lowest bit apart. -/
theorem mulK_succ (k a c : Nat) : mulK m p (k + 1) a c = xt m p (mulK m p k a (c / 2)) ^^^ (bif c.testBit 0 then a else 0) := by
  induction k with
  | zero => simp [mulK, xi, xt_zero]
  | succ k ih =>
    rw [mulK, ih, mulK, xt_xor, Nat.testBit_succ]
    have : (bif (c / 2).testBit k then xi m p (k + 1) a else 0) = xt m p (bif (c / 2).testBit k then xi m p k a else 0) := by
      cases (c / 2).testBit k
      · exact xt_zero.symm
      · rfl
    rw [this, Nat.xor_assoc, Nat.xor_assoc, Nat.xor_comm (xt m p (bif (c / 2).testBit k then xi m p k a else 0))]
theorem mulK_succ' (k a c : Nat) : mulK m p (k + 1) a c = (bif c.testBit 0 then a else 0) ^^^ mulK m p k (xt m p a) (c / 2) := by
  rw [mulK_succ, Nat.xor_comm, show xt m p (mulK m p k a (c / 2)) = mulK m p k (xt m p a) (c / 2) from xi_mulK 1 k a _]

/-! ### The residue of a polynomial -/
def ev (m p n : Nat) : Nat := mulK m p 64 1 n
theorem ev_xor (a b : Nat) : ev m p (a ^^^ b) = ev m p a ^^^ ev m p b := mulK_xor_right 64 1 a b
theorem ev_zero : ev m p 0 = 0 := mulK_zero_right 64 1
theorem mulK_more (k a c : Nat) (h : c < 2 ^ k) : mulK m p (k + 1) a c = mulK m p k a c := by
  rw [mulK, Nat.testBit_lt_two_pow h]; simp
theorem mulK_le (k l a c : Nat) (h : c < 2 ^ k) : mulK m p (k + l) a c = mulK m p k a c := by
  induction l with
  | zero => rfl
  | succ l ih => rw [← Nat.add_assoc, mulK_more (k + l) a c (Nat.lt_of_lt_of_le h (Nat.pow_le_pow_right (by omega) (by omega))), ih]
theorem ev_small {n : Nat} (hm : m ≤ 64) (h : n < 2 ^ m) : ev m p n = n := by
  have := mulK_le (m := m) (p := p) m (64 - m) 1 n h
  rw [show m + (64 - m) = 64 from by omega] at this
  rw [ev, this]; exact one_mul h
theorem ev_double {n : Nat} (h : n < 2 ^ 63) : ev m p (2 * n) = xt m p (ev m p n) := by
  unfold ev
  rw [mulK_succ, Nat.mul_div_cancel_left n (by omega), mulK_more 63 1 n h]
  simp
theorem ev_shift (s : Nat) {n : Nat} (h : n <<< s < 2 ^ 63) : ev m p (n <<< s) = xi m p s (ev m p n) := by
  induction s with
  | zero => rfl
  | succ s ih =>
    have e : n <<< (s + 1) = 2 * (n <<< s) := by rw [Nat.shiftLeft_succ]
    rw [e] at h ⊢
    rw [ev_double (by omega), ih (by omega)]; rfl
theorem ev_lt (hm : 1 ≤ m) (h1 : p.testBit m = true) (h2 : p < 2 ^ (m + 1)) (n : Nat) : ev m p n < 2 ^ m := mulK_lt hm h1 h2 (Nat.one_lt_two_pow (by omega)) 64 n
/-- The modulus has residue 0. -/
theorem ev_mod (hm : 1 ≤ m) (hm2 : m ≤ 32) (h1 : p.testBit m = true) (h2 : p < 2 ^ (m + 1)) : ev m p p = 0 := by
  have hp : p = 2 ^ m ^^^ (p % 2 ^ m) := by
    have := mod_succ_xor p m
    rw [Nat.mod_eq_of_lt h2, h1] at this
    simp only [cond_true] at this
    rw [Nat.xor_comm]; exact this
  have hlt : p % 2 ^ m < 2 ^ m := Nat.mod_lt _ (Nat.two_pow_pos m)
  obtain ⟨k, rfl⟩ : ∃ k, m = k + 1 := ⟨m - 1, by omega⟩
  have e1 : ev (k + 1) p (2 ^ (k + 1)) = xt (k + 1) p (2 ^ k) := by
    rw [Nat.pow_succ, Nat.mul_comm, ev_double (Nat.pow_lt_pow_right (by omega) (by omega)), ev_small (by omega) (Nat.pow_lt_pow_right (by omega) (by omega))]
  have e2 : xt (k + 1) p (2 ^ k) = 2 ^ (k + 1) ^^^ p := by
    unfold xt
    rw [Nat.add_sub_cancel, Nat.testBit_two_pow_self, Nat.pow_succ]
    simp only [cond_true]
    rw [Nat.mul_comm]
  have e3 : 2 ^ (k + 1) ^^^ p = p % 2 ^ (k + 1) := by
    calc 2 ^ (k + 1) ^^^ p = 2 ^ (k + 1) ^^^ (2 ^ (k + 1) ^^^ p % 2 ^ (k + 1)) := by rw [← hp]
      _ = p % 2 ^ (k + 1) := by rw [← Nat.xor_assoc, Nat.xor_self, Nat.zero_xor]
  rw [hp, ev_xor, ← hp, e1, e2, e3, ev_small (by omega) hlt, Nat.xor_self]

/-! ### Lengths in bits -/
def bl (n : Nat) : Nat := if n = 0 then 0 else Nat.log2 n + 1
theorem bl_lt (n : Nat) : n < 2 ^ bl n := by
  unfold bl
  split
  · rename_i h; subst h; exact Nat.one_pos
  · exact Nat.lt_log2_self
theorem bl_le {n k : Nat} : bl n ≤ k ↔ n < 2 ^ k := by
  unfold bl
  split
  · rename_i h; subst h; exact ⟨fun _ => Nat.two_pow_pos k, fun _ => Nat.zero_le _⟩
  · rename_i h; rw [← Nat.log2_lt h]; omega
theorem bl_zero : bl 0 = 0 := rfl
theorem bl_eq_zero {n : Nat} : bl n = 0 ↔ n = 0 := by
  constructor
  · intro h; have := bl_lt n; rw [h] at this; omega
  · rintro rfl; rfl
theorem bl_top {n : Nat} (h : n ≠ 0) : n.testBit (bl n - 1) = true := by
  have h1 := bl_lt n
  have h2 : bl n ≠ 0 := fun e => h (bl_eq_zero.1 e)
  have h3 : ¬ n < 2 ^ (bl n - 1) := fun hh => by have := bl_le.2 hh; omega
  rw [show bl n = (bl n - 1) + 1 from by omega] at h1
  cases hb : n.testBit (bl n - 1) with
  | true => rfl
  | false => exact absurd (lt_of_testBit_false _ _ h1 hb) h3
theorem bl_of {n k : Nat} (h1 : n < 2 ^ (k + 1)) (h2 : n.testBit k = true) : bl n = k + 1 := by
  have h3 := bl_le.2 h1
  have h4 : ¬ n < 2 ^ k := fun h => by rw [Nat.testBit_lt_two_pow h] at h2; cases h2
  have h5 : ¬ bl n ≤ k := fun h => h4 (bl_le.1 h)
  omega
theorem bl_shift {n : Nat} (h : n ≠ 0) (s : Nat) : bl (n <<< s) = bl n + s := by
  have h2 : bl n ≠ 0 := fun e => h (bl_eq_zero.1 e)
  have h1 := bl_lt n
  have := bl_of (n := n <<< s) (k := bl n - 1 + s) (by
    rw [Nat.shiftLeft_eq, show bl n - 1 + s + 1 = bl n + s from by omega, Nat.pow_add]
    exact Nat.mul_lt_mul_of_pos_right h1 (Nat.two_pow_pos s)) (by
    rw [Nat.testBit_shiftLeft]
    simp [bl_top h])
  omega
theorem bl_xor_lt {a b : Nat} (h : bl a < bl b) : bl (a ^^^ b) = bl b := by
  have hb : b ≠ 0 := fun e => by rw [e] at h; simp [bl_zero] at h
  have := bl_of (n := a ^^^ b) (k := bl b - 1) (by
    rw [show bl b - 1 + 1 = bl b from by omega]
    exact Nat.xor_lt_two_pow (bl_le.1 (by omega)) (bl_lt b)) (by
    rw [Nat.testBit_xor, Nat.testBit_lt_two_pow (bl_le.1 (show bl a ≤ bl b - 1 by omega)), bl_top hb]; rfl)
  omega
theorem bl_xor_eq {a b : Nat} (h : bl a = bl b) (h0 : bl a ≠ 0) : bl (a ^^^ b) < bl a := by
  have ha : a ≠ 0 := fun e => h0 (bl_eq_zero.2 e)
  have hb : b ≠ 0 := fun e => h0 (h.trans (bl_eq_zero.2 e))
  have h1 : a ^^^ b < 2 ^ (bl a - 1) := by
    apply lt_of_testBit_false
    · rw [show bl a - 1 + 1 = bl a from by omega]
      exact Nat.xor_lt_two_pow (bl_lt a) (h ▸ bl_lt b)
    · rw [Nat.testBit_xor, bl_top ha, h, bl_top hb]; rfl
  have := bl_le.2 h1
  omega
theorem bl_one {n : Nat} : bl n = 1 ↔ n = 1 := by
  constructor
  · intro h
    have h1 := bl_lt n
    have h2 : n ≠ 0 := fun e => by rw [e] at h; simp [bl_zero] at h
    rw [h] at h1; omega
  · rintro rfl; rfl
theorem bl_two {n : Nat} (h0 : n ≠ 0) (h1 : n ≠ 1) : 2 ≤ bl n := by
  have h2 : bl n ≠ 0 := fun e => h0 (bl_eq_zero.1 e)
  have h3 : bl n ≠ 1 := fun e => h1 (bl_one.1 e)
  omega

/-! ### Euclid -/
/-- One round: u and v, with x and y. -/
def eu (u v x y : Nat) : Nat × Nat × Nat × Nat := if bl u < bl v then (v ^^^ u <<< (bl v - bl u), u, y ^^^ x <<< (bl v - bl u), x) else (u ^^^ v <<< (bl u - bl v), v, x ^^^ y <<< (bl u - bl v), y)

/-- What holds at the head of the loop. -/
structure EInv (m p a u v x y : Nat) : Prop where
  eu : ev m p u = mul m p a (ev m p x)
  evv : ev m p v = mul m p a (ev m p y)
  bu : bl u ≤ m + 1
  bv : bl v ≤ m + 1
  deg : (bl x + bl v = m + 2 ∧ bl y + bl u ≤ m + 1) ∨ (bl x + bl v ≤ m + 1 ∧ bl y + bl u = m + 2)

theorem EInv.swap {a u v x y : Nat} (h : EInv m p a u v x y) : EInv m p a v u y x := ⟨h.evv, h.eu, h.bv, h.bu, by have := h.deg; omega⟩
theorem small63 {n : Nat} (h : bl n ≤ 63) : n < 2 ^ 63 := bl_le.1 h
theorem mul_xi (hm : 1 ≤ m) (h1 : p.testBit m = true) (h2 : p < 2 ^ (m + 1)) {a e : Nat} (ha : a < 2 ^ m) (he : e < 2 ^ m) (s : Nat) : mul m p a (xi m p s e) = xi m p s (mul m p a e) := by
  rw [mul_comm ha (xi_lt hm h1 h2 he s), xi_mul, mul_comm he ha]

theorem EInv.bxy {a u v x y : Nat} (h : EInv m p a u v x y) : bl x ≤ m + 2 ∧ bl y ≤ m + 2 := by
  have := h.deg; omega
/-- The loop goes on. -/
structure EGood (m p a u v x y : Nat) : Prop extends EInv m p a u v x y where
  v0 : v ≠ 0
  u0 : u = 0 → v = 1
def eMu (u v : Nat) : Nat := bl u + bl v + if u = 0 then 1 else 0
/-- x is the inverse. -/
structure EDone (m p a u x : Nat) : Prop where
  u1 : u = 1
  inv : mul m p a (ev m p x) = 1
  bx : bl x ≤ m + 3
theorem EInv.done (g : Gen m p) (hm32 : m ≤ 32) {a v x y : Nat} (h : EInv m p a 1 v x y) : EDone m p a 1 x :=
  ⟨rfl, by
    rw [← h.eu]
    exact ev_small (by omega) g.pos, by have := h.bxy; omega⟩
section
variable (g : Gen m p) (hm32 : m ≤ 32) {a : Nat} (ha : a < 2 ^ m)
include g hm32 ha
theorem EInv.step {u v x y : Nat} (h : EInv m p a u v x y) (hv : v ≠ 0) (hle : bl v ≤ bl u) : EInv m p a (u ^^^ v <<< (bl u - bl v)) v (x ^^^ y <<< (bl u - bl v)) y ∧ bl (u ^^^ v <<< (bl u - bl v)) < bl u ∧ bl (x ^^^ y <<< (bl u - bl v)) + bl v = m + 2 := by
  have hv1 : bl v ≠ 0 := fun e => hv (bl_eq_zero.1 e)
  have hsv := bl_shift hv (bl u - bl v)
  have hlt : bl (u ^^^ v <<< (bl u - bl v)) < bl u := by
    have := bl_xor_eq (a := u) (b := v <<< (bl u - bl v)) (by omega) (by omega)
    exact this
  have hbu := h.bu
  have hbv := h.bv
  have hdeg := h.deg
  have hsy : bl (y <<< (bl u - bl v)) ≤ 63 ∧ (y ≠ 0 → bl (y <<< (bl u - bl v)) = bl y + (bl u - bl v)) := by
    by_cases hy : y = 0
    · subst hy; simp [bl_zero]
    · have := bl_shift hy (bl u - bl v)
      exact ⟨by omega, fun _ => this⟩
  have hfin : bl (x ^^^ y <<< (bl u - bl v)) + bl v = m + 2 := by
    rcases hdeg with ⟨d1, d2⟩ | ⟨d1, d2⟩
    · by_cases hy : y = 0
      · subst hy; simpa using d1
      · have := hsy.2 hy
        rw [Nat.xor_comm, bl_xor_lt (by omega)]; exact d1
    · have hy : y ≠ 0 := fun e => by rw [e, bl_zero] at d2; omega
      have := hsy.2 hy
      rw [bl_xor_lt (by omega)]; omega
  refine ⟨⟨?_, h.evv, by omega, hbv, .inl ⟨hfin, by omega⟩⟩, hlt, hfin⟩
  · rw [ev_xor, ev_xor, ev_shift _ (small63 (by omega)), ev_shift _ (small63 hsy.1), mul_xor, h.eu, h.evv, mul_xi g.hm g.top g.lt ha (ev_lt g.hm g.top g.lt y)]

/-- When u has come to 0, v is 1. -/
theorem EInv.last {v x y : Nat} (h0 : a ≠ 0) (h : EInv m p a 0 v x y) (hd : bl x + bl v = m + 2) (hv : v ≠ 0) : v = 1 := by
  have h1 := h.eu
  rw [ev_zero] at h1
  have h2 := g.zero_of_mul ha (ev_lt g.hm g.top g.lt x) h0 h1.symm
  have hbv := h.bv
  have hv1 : bl v ≠ 0 := fun e => hv (bl_eq_zero.1 e)
  by_cases hv2 : bl v = 1
  · exact bl_one.1 hv2
  · exfalso
    have h3 : x < 2 ^ m := bl_le.1 (by omega)
    rw [ev_small (by omega) h3] at h2
    rw [h2, bl_zero] at hd
    omega

theorem EGood.next {u v x y : Nat} (h0 : a ≠ 0) (h : EGood m p a u v x y) (hu : u ≠ 1) :
    EDone m p a (eu u v x y).1 (eu u v x y).2.2.1 ∨ (EGood m p a (eu u v x y).1 (eu u v x y).2.1 (eu u v x y).2.2.1 (eu u v x y).2.2.2 ∧ eMu (eu u v x y).1 (eu u v x y).2.1 < eMu u v) := by
  have hv0 := h.v0
  by_cases hz : u = 0
  · have hv1 := h.u0 hz
    subst hz; subst hv1
    left
    have h2 := h.eu
    rw [ev_zero] at h2
    have h3 := g.zero_of_mul ha (ev_lt g.hm g.top g.lt x) h0 h2.symm
    have h4 := h.evv
    have h5 := h.toEInv.bxy
    have e1 : eu 0 1 x y = (1 ^^^ 0 <<< 1, 0, y ^^^ x <<< 1, x) := rfl
    rw [e1]
    have h6 : bl (x <<< 1) ≤ m + 3 := by
      by_cases hx : x = 0
      · subst hx; simp [bl_zero]
      · rw [bl_shift hx]; omega
    refine ⟨by simp, ?_, ?_⟩
    · rw [ev_xor, ev_shift 1 (small63 (by omega)), h3, xi_zero, Nat.xor_zero, ← h4]
      exact ev_small (by omega) g.pos
    · exact bl_le.2 (Nat.xor_lt_two_pow (bl_le.1 (by omega)) (bl_le.1 h6))
  · have hu2 := bl_two hz hu
    right
    unfold eu
    by_cases hlt : bl u < bl v
    · rw [if_pos hlt]
      obtain ⟨h1, h2, h3⟩ := EInv.step g hm32 ha h.toEInv.swap hz (by omega)
      dsimp only
      refine ⟨⟨h1, hz, fun e => ?_⟩, ?_⟩
      · rw [e] at h1
        exact EInv.last g hm32 ha h0 h1 h3 hz
      · unfold eMu
        rw [if_neg hz]
        split
        · rename_i e; rw [e, bl_zero]; omega
        · omega
    · rw [if_neg hlt]
      obtain ⟨h1, h2, h3⟩ := EInv.step g hm32 ha h.toEInv hv0 (by omega)
      dsimp only
      refine ⟨⟨h1, hv0, fun e => ?_⟩, ?_⟩
      · rw [e] at h1
        exact EInv.last g hm32 ha h0 h1 h3 hv0
      · unfold eMu
        rw [if_neg hz]
        split
        · rename_i e; rw [e, bl_zero]; omega
        · omega
/-- Where the loop begins. -/
theorem EGood.init (h0 : a ≠ 0) : EGood m p a a p 1 0 := by
  have hbp : bl p = m + 1 := bl_of g.lt g.top
  have hba := bl_le.2 ha
  refine ⟨⟨?_, ?_, by omega, by omega, .inl ⟨by rw [hbp]; rw [show bl 1 = 1 from rfl]; omega, by rw [bl_zero]; omega⟩⟩, fun e => ?_, fun e => absurd e h0⟩
  · rw [ev_small (by omega) ha, ev_small (n := 1) (by omega) g.pos, mul_one g.hm ha]
  · rw [ev_mod g.hm hm32 g.top g.lt, ev_zero, mul_zero]
  · rw [e, bl_zero] at hbp; omega
end
end Gf
end Go.Proofs.YtjaipchlnnjaeaaDoor
end

section
/- The fields with 2^m elements: powers. No program in sight; no condition. -/
namespace Go.Proofs.YtjaipchlnnjaeaaDoor
set_option linter.unusedVariables false
set_option linter.unusedSimpArgs false

namespace Gf
variable {m p : Nat}
def pw (m p a : Nat) : Nat → Nat
  | 0 => 1
  | n + 1 => mul m p (pw m p a n) a
theorem xi_rep (g : Gen m p) (k : Nat) : xi m p (k * (2 ^ m - 1)) 1 = 1 := by
  induction k with
  | zero => rw [Nat.zero_mul]; rfl
  | succ k ih => rw [Nat.succ_mul, xi_add, g.one, ih]
section
variable (g : Gen m p) {a : Nat} (ha : a < 2 ^ m)
include g ha
theorem pw_lt (n : Nat) : pw m p a n < 2 ^ m := by
  cases n with
  | zero => exact g.pos
  | succ n =>
    have := mul_lt g.hm g.top g.lt ha
    induction n with
    | zero => rw [pw, pw]; exact mul_lt g.hm g.top g.lt g.pos a
    | succ n ih => rw [pw]; exact mul_lt g.hm g.top g.lt ih a
theorem pw_add (i j : Nat) : pw m p a (i + j) = mul m p (pw m p a i) (pw m p a j) := by
  induction j with
  | zero => rw [Nat.add_zero]; exact (mul_one g.hm (pw_lt g ha i)).symm
  | succ j ih => rw [← Nat.add_assoc, pw, ih, pw, mul_assoc g.hm g.top g.lt (pw_lt g ha i) (pw_lt g ha j) ha]
theorem pw_sq (n : Nat) : pw m p (mul m p a a) n = pw m p a (2 * n) := by
  induction n with
  | zero => rfl
  | succ n ih => rw [pw, ih, show 2 * (n + 1) = 2 * n + 1 + 1 from by omega, pw, pw, mul_assoc g.hm g.top g.lt (pw_lt g ha _) ha ha]
theorem pw_inv (h0 : a ≠ 0) : mul m p a (pw m p a (2 ^ m - 2)) = 1 := by
  obtain ⟨k, _, hk⟩ := g.log h0 ha
  have e : ∀ n, pw m p a n = xi m p (k * n) 1 := fun n => by
    induction n with
    | zero => rfl
    | succ n ih => rw [pw, ih, xi_one_mul _ ha, ← hk, ← xi_add, Nat.mul_succ]
  have hp := g.pos
  have e2 : mul m p (pw m p a (2 ^ m - 2)) a = pw m p a (2 ^ m - 2 + 1) := rfl
  rw [mul_comm ha (pw_lt g ha _), e2, show 2 ^ m - 2 + 1 = 2 ^ m - 1 from by omega, e, xi_rep g k]
end
theorem xt_ge (hm : 1 ≤ m) {a : Nat} (ha : a < 2 ^ m) : (2 ^ m ≤ 2 * a → xt m p a = 2 * a ^^^ p) ∧ (2 * a < 2 ^ m → xt m p a = 2 * a) := by
  obtain ⟨k, rfl⟩ : ∃ k, m = k + 1 := ⟨m - 1, by omega⟩
  have e : 2 ^ (k + 1) = 2 * 2 ^ k := by rw [Nat.pow_succ]; omega
  unfold xt
  rw [Nat.add_sub_cancel]
  constructor
  · intro h
    have : a.testBit k = true := by
      cases hb : a.testBit k with
      | true => rfl
      | false => have := lt_of_testBit_false k a ha hb; omega
    rw [this]; rfl
  · intro h
    rw [Nat.testBit_lt_two_pow (by omega)]; simp
end Gf
end Go.Proofs.YtjaipchlnnjaeaaDoor
end
