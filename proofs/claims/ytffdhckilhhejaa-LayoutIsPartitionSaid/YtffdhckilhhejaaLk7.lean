/- Plain laws of layout: positions of a disk through a block of rows; how many rows give it a unit. -/
import Derived.Test.YtffdhckilhhejaaLk5
namespace Go.Proofs.Ytffdhckilhhejaa
open Go.RowKit
set_option linter.unusedVariables false
set_option linter.unusedSimpArgs false

theorem perm_range (D : Nat) (l : List Nat) (hn : l.Nodup) (h : ∀ x ∈ l, x < D) (hl : l.length = D) : l.Perm (List.range D) := by
  rw [List.perm_iff_count]
  intro a
  rw [hn.count, List.nodup_range.count]
  have e : a ∈ l ↔ a ∈ List.range D := ⟨fun ha => List.mem_range.2 (h a ha), fun ha => nodup_full D l hn h hl a (List.mem_range.1 ha)⟩
  simp only [e]
theorem countP_lt (D m : Nat) (h : m ≤ D) : (List.range D).countP (fun x => decide (x < m)) = m := by
  induction D generalizing m with
  | zero => simp; omega
  | succ D ih =>
    rw [List.range_succ, List.countP_append]
    by_cases hm : m ≤ D
    · rw [ih m hm]; simp; omega
    · have : m = D + 1 := by omega
      subst this
      have e : (List.range D).countP (fun x => decide (x < D + 1)) = (List.range D).countP (fun x => decide (x < D)) := by
        apply List.countP_congr
        intro x hx
        have := List.mem_range.1 hx
        simp; omega
      rw [e, ih D (Nat.le_refl _)]; simp
/-- An injection of the numbers below D into themselves has m values below m. -/
theorem count_inj (D m : Nat) (f : Nat → Nat) (hf : ∀ k, k < D → f k < D) (hi : ∀ p q, p < D → q < D → f p = f q → p = q) (h : m ≤ D) : (List.range D).countP (fun k => decide (f k < m)) = m := by
  have hp := perm_range D ((List.range D).map f) (map_nodup D f hi) (by intro x hx; obtain ⟨k, hk, rfl⟩ := List.mem_map.1 hx; exact hf k (List.mem_range.1 hk)) (by simp)
  have := hp.countP_eq (fun x => decide (x < m))
  rw [List.countP_map, countP_lt D m h] at this
  exact this
theorem blk_row (D R M k p : Nat) (hD : 1 ≤ D) (hk : k < D) (hp : p < D) : (ord D R (M * D + k)).getD p 0 = (mulAt D R (M * D) * p + k) % D := by
  have h0 : (M * D) % D + k < D := by rw [Nat.mul_mod_left]; omega
  rw [getD_lt _ _ _ (by rw [ord_length]; exact hp)]
  simp only [ord, List.getElem_map, List.getElem_range]
  have h1 : mulAt D R (M * D + k) = mulAt D R (M * D) := by
    have h2 : (M * D + k) / D = M := by rw [Nat.mul_comm, Nat.mul_add_div (by omega), Nat.div_eq_of_lt hk]; omega
    have h3 : (M * D) / D = M := Nat.mul_div_cancel _ (by omega)
    unfold mulAt; rw [h2, h3]
  rw [h1]
  have : mulAt D R (M * D) * p + (M * D + k) = mulAt D R (M * D) * p + k + D * M := by rw [Nat.mul_comm D M]; omega
  rw [this, Nat.add_mul_mod_self_left]
theorem mod_inj (D x k j : Nat) (hk : k < D) (hj : j < D) (h : (x + k) % D = (x + j) % D) : k = j := by
  rcases Nat.le_total k j with hle | hle
  · have h3 := Nat.sub_mod_eq_zero_of_mod_eq h.symm
    have h4 : x + j - (x + k) = j - k := by omega
    rw [h4, Nat.mod_eq_of_lt (by omega)] at h3
    omega
  · have h3 := Nat.sub_mod_eq_zero_of_mod_eq h
    have h4 : x + k - (x + j) = k - j := by omega
    rw [h4, Nat.mod_eq_of_lt (by omega)] at h3
    omega
/-- At which position a disk is in a row. -/
def posN (D R X t : Nat) : Nat := (idxI (I (ord D R X)) t).toNat
theorem posN_spec (D R X t : Nat) (hD : 1 ≤ D) (hR : 1 ≤ R) (ht : t < D) : posN D R X t < D ∧ idxI (I (ord D R X)) t = posN D R X t ∧ (ord D R X).getD (posN D R X t) 0 = t := by
  obtain ⟨P, hP, h1, h2⟩ := pos_mem D R X t hD hR ht
  have e : posN D R X t = P := by unfold posN; rw [h1]; simp
  rw [e]
  refine ⟨hP, h1, ?_⟩
  rw [I_getD] at h2; omega
theorem posN_inj (D R M t : Nat) (hD : 1 ≤ D) (hR : 1 ≤ R) (ht : t < D) (k j : Nat) (hk : k < D) (hj : j < D) (h : posN D R (M * D + k) t = posN D R (M * D + j) t) : k = j := by
  obtain ⟨h1, _, h3⟩ := posN_spec D R (M * D + k) t hD hR ht
  obtain ⟨g1, _, g3⟩ := posN_spec D R (M * D + j) t hD hR ht
  rw [blk_row D R M k _ hD hk h1] at h3
  rw [blk_row D R M j _ hD hj g1] at g3
  rw [← h] at g3
  exact mod_inj D _ k j hk hj (h3.trans g3.symm)

theorem ok_iff (d r n s l i row w k : Int) (hok : OkL d r n s l i w) (hx : 0 ≤ idxI (ordI d r n s l i row) k) : okA (fndA d r n s l i row w k) = decide (idxI (ordI d r n s l i row) k < grpI d r n s l i w * w) := by
  unfold fndA
  rw [if_neg (by simp only [not_or]; exact ⟨by omega, fun h => h hok⟩)]
  split
  · rename_i h; simp only [okA]; symm; simp; omega
  · rename_i h; simp only [okA]; symm; simp; omega

/-- Over whole blocks of rows a disk has had groups times width units. -/
theorem untN_blk {D R N : Nat} {s l i w : Int} (hok : OkL D R N s l i w) (t : Nat) (ht : t < D) (M : Nat) (hM : M * D ≤ N) : (untN D R N s l i w t (M * D) : Int) = M * (grpI D R N s l i w * w) := by
  obtain ⟨h1, h2, h3, h4, h5⟩ := hok.bd
  obtain ⟨g1, g2, g3⟩ := grpI_bd hok
  have g4 : 0 ≤ grpI D R N s l i w * w := Int.mul_nonneg g1 (by omega)
  obtain ⟨m, hm⟩ := Int.eq_ofNat_of_zero_le g4
  induction M with
  | zero => simp [untN]
  | succ M ih =>
    have hM' : M * D + D ≤ N := by rw [Nat.add_mul, Nat.one_mul] at hM; exact hM
    have ih' := ih (by omega)
    have e : untN D R N s l i w t ((M + 1) * D) = untN D R N s l i w t (M * D) + m := by
      unfold untN
      rw [Nat.add_mul, Nat.one_mul, List.range_add, List.filter_append, List.length_append]
      congr 1
      rw [← List.countP_eq_length_filter, List.countP_map]
      rw [← count_inj D m (fun k => posN D R (M * D + k) t) (fun k _ => (posN_spec D R _ t (by omega) (by omega) ht).1) (fun p q hp hq h => posN_inj D R M t (by omega) (by omega) ht p q hp hq h) (by omega)]
      apply List.countP_congr
      intro k hk
      have hk' := List.mem_range.1 hk
      have ho : ordI D R N s l i ((M * D + k : Nat) : Int) = I (ord D R (M * D + k)) := by
        unfold ordI
        rw [if_pos ⟨hok.1, by omega, by omega⟩]
        simp only [Int.toNat_natCast]
      obtain ⟨q1, q2, q3⟩ := posN_spec D R (M * D + k) t (by omega) (by omega) ht
      have := ok_iff D R N s l i ((M * D + k : Nat) : Int) w t hok (by rw [ho, q2]; omega)
      rw [ho, q2, hm] at this
      simp only [Function.comp]
      rw [this]
      simp
    rw [e, Int.natCast_add, ih', ← hm, Int.natCast_add, Int.natCast_one, Int.add_mul, Int.one_mul]
end Go.Proofs.Ytffdhckilhhejaa
