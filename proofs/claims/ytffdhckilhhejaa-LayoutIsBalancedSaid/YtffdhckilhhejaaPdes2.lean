/- Plain mathematics of designs: every order is a permutation; racks. -/
import Derived.Test.YtffdhckilhhejaaPdes
namespace Go.Proofs.Ytffdhckilhhejaa

theorem nodup_le : ∀ (n : Nat) (l : List Nat), l.Nodup → (∀ x ∈ l, x < n) → l.length ≤ n
  | 0, l, _, h => by
    cases l with
    | nil => simp
    | cons a l => exact absurd (h a (by simp)) (by omega)
  | n + 1, l, hn, h => by
    have h1 := nodup_le n (l.erase n) (hn.erase n) (fun x hx => by
      have hm := (List.Nodup.mem_erase_iff hn).1 hx
      have := h x hm.2
      omega)
    have h2 := List.length_erase_le (a := n) (l := l)
    by_cases hm : n ∈ l
    · rw [List.length_erase_of_mem hm] at h1; omega
    · rw [List.erase_of_not_mem hm] at h1; omega
theorem nodup_full (n : Nat) (l : List Nat) (hn : l.Nodup) (h : ∀ x ∈ l, x < n) (hl : l.length = n) (t : Nat) (ht : t < n) : t ∈ l := by
  by_cases hm : t ∈ l
  · exact hm
  · have := nodup_le n (t :: l) (List.nodup_cons.2 ⟨hm, hn⟩) (fun x hx => by
      rcases List.mem_cons.1 hx with rfl | hx
      · exact ht
      · exact h x hx)
    simp at this; omega

theorem map_nodup {α : Type} (n : Nat) (f : Nat → α) (h : ∀ p q, p < n → q < n → f p = f q → p = q) : ((List.range n).map f).Nodup := by
  rw [List.Nodup, List.pairwise_map]
  have := List.nodup_range (n := n)
  rw [List.Nodup] at this
  refine List.Pairwise.imp_of_mem (fun {p q} hp hq hne he => hne (h p q (List.mem_range.1 hp) (List.mem_range.1 hq) he)) this

theorem lin_inj (a x d p q : Nat) (hg : Nat.gcd a d = 1) (hp : p < d) (hq : q < d) (h : (a * p + x) % d = (a * q + x) % d) : p = q := by
  have key : ∀ p q, p < d → q ≤ p → (a * p + x) % d = (a * q + x) % d → p = q := by
    intro p q hp hqp h
    have h1 := Nat.sub_mod_eq_zero_of_mod_eq h
    have h2 : a * p + x - (a * q + x) = a * (p - q) := by rw [Nat.mul_sub]; omega
    rw [h2] at h1
    have h3 : d ∣ a * (p - q) := Nat.dvd_of_mod_eq_zero h1
    have h4 : d ∣ p - q := (Nat.Coprime.symm hg).dvd_of_dvd_mul_left h3
    rcases Nat.eq_zero_or_pos (p - q) with h5 | h5
    · omega
    · have := Nat.le_of_dvd h5 h4; omega
  rcases Nat.le_total q p with hle | hle
  · exact key p q hp hle h
  · exact (key q p hq hle h.symm).symm

theorem lin_onto (a x d t : Nat) (hg : Nat.gcd a d = 1) (ht : t < d) : ∃ p, p < d ∧ (a * p + x) % d = t := by
  have h1 := map_nodup d (fun p => (a * p + x) % d) (fun p q hp hq h => lin_inj a x d p q hg hp hq h)
  have h2 := nodup_full d _ h1 (fun y hy => by
    obtain ⟨p, _, rfl⟩ := List.mem_map.1 hy
    exact Nat.mod_lt _ (by omega)) (by simp) t ht
  obtain ⟨p, hp, h⟩ := List.mem_map.1 h2
  exact ⟨p, List.mem_range.1 hp, h⟩

/-- Of m consecutive numbers at most m / r, rounded up, have the remainder k by r. 'upto' counts those below m. -/
def upto (r k m : Nat) : Nat := (m + r - 1 - k) / r
theorem upto_succ (r k m : Nat) (hr : 1 ≤ r) (hr2 : r ≤ 8) (hk : k < r) : upto r k (m + 1) = upto r k m + (if m % r = k then 1 else 0) := by
  unfold upto
  have : r = 1 ∨ r = 2 ∨ r = 3 ∨ r = 4 ∨ r = 5 ∨ r = 6 ∨ r = 7 ∨ r = 8 := by omega
  rcases this with rfl | rfl | rfl | rfl | rfl | rfl | rfl | rfl <;> split <;> omega
theorem upto_window (r k x y w : Nat) (hr : 1 ≤ r) (hr2 : r ≤ 8) (hk : k < r) (hxy : x ≤ y) (hw : y ≤ x + w) : upto r k y - upto r k x ≤ (w + r - 1) / r ∧ upto r k x ≤ upto r k y := by
  unfold upto
  have : r = 1 ∨ r = 2 ∨ r = 3 ∨ r = 4 ∨ r = 5 ∨ r = 6 ∨ r = 7 ∨ r = 8 := by omega
  rcases this with rfl | rfl | rfl | rfl | rfl | rfl | rfl | rfl <;> constructor <;> omega
end Go.Proofs.Ytffdhckilhhejaa
