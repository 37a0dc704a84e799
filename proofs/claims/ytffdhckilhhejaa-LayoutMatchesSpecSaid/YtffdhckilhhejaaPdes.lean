/- Plain mathematics of designs (chapter 13): lists of numbers, no program in sight. -/
import Derived.WalkKit
namespace Go.Proofs.Ytffdhckilhhejaa

theorem getD_lt' {α : Type} (l : List α) (k : Nat) (d : α) (h : k < l.length) : l.getD k d = l[k] := by simp [List.getD_eq_getElem?_getD, List.getElem?_eq_getElem h]

def idxI (l : List Int) (x : Int) : Int := if x ∈ l then (l.idxOf x : Int) else -1

theorem idxI_at (l : List Int) (x : Int) (k : Nat) (hk : k < l.length) (h : x = l[k]) (hb : ∀ j, j < k → l.getD j 0 ≠ x) : idxI l x = k := by
  have hx : x ∈ l := by rw [h]; exact List.getElem_mem hk
  unfold idxI; rw [if_pos hx]
  have h1 : l.idxOf x < l.length := List.idxOf_lt_length_iff.2 hx
  have h2 : l[l.idxOf x] = x := List.getElem_idxOf h1
  have h4 : ¬ l.idxOf x < k := fun hlt => hb _ hlt (by rw [getD_lt' _ _ _ h1]; exact h2)
  have h5 : ¬ k < l.idxOf x := fun hlt => by
    have := List.not_of_lt_findIdx (xs := l) (p := (· == x)) (by simpa [List.idxOf] using hlt)
    simp [h] at this
  omega
theorem idxI_no (l : List Int) (x : Int) (hb : ∀ j, j < l.length → l.getD j 0 ≠ x) : idxI l x = -1 := by
  unfold idxI; rw [if_neg]
  intro hx
  obtain ⟨k, hk, h⟩ := List.getElem_of_mem hx
  exact hb k hk (by rw [getD_lt' _ _ _ hk]; exact h)

/-- The first index at which 'p' says yes, or -1. -/
def idxP (p : Int → Bool) (l : List Int) : Int := if l.any p then (l.findIdx p : Int) else -1
theorem idxP_at (l : List Int) (p : Int → Bool) (k : Nat) (hk : k < l.length) (h : p l[k] = true) (hb : ∀ j, j < k → p (l.getD j 0) = false) : idxP p l = k := by
  unfold idxP; rw [if_pos (List.any_eq_true.2 ⟨_, List.getElem_mem hk, h⟩)]
  have h1 : l.findIdx p < l.length := List.findIdx_lt_length_of_exists ⟨_, List.getElem_mem hk, h⟩
  have h2 := List.findIdx_getElem (w := h1)
  have h4 : ¬ l.findIdx p < k := fun hlt => by
    have h3 := hb _ hlt; rw [getD_lt' _ _ _ h1, h2] at h3; cases h3
  have h5 : ¬ k < l.findIdx p := fun hlt => by
    have := List.not_of_lt_findIdx hlt
    simp [h] at this
  omega
theorem idxP_no (l : List Int) (p : Int → Bool) (hb : ∀ j, j < l.length → p (l.getD j 0) = false) : idxP p l = -1 := by
  unfold idxP; rw [if_neg]
  intro hx
  obtain ⟨a, ha, hp⟩ := List.any_eq_true.1 hx
  obtain ⟨k, hk, h⟩ := List.getElem_of_mem ha
  have := hb k hk; rw [getD_lt' _ _ _ hk, h, hp] at this; cases this
theorem idxP_cases (p : Int → Bool) (l : List Int) : (idxP p l = -1 ∧ ∀ a ∈ l, p a = false) ∨ ∃ k : Nat, ∃ h : k < l.length, idxP p l = k ∧ p l[k] = true ∧ (∀ a ∈ l.take k, p a = false) := by
  unfold idxP
  by_cases hx : l.any p
  · rw [if_pos hx]
    obtain ⟨a, ha, hp⟩ := List.any_eq_true.1 hx
    have h1 : l.findIdx p < l.length := List.findIdx_lt_length_of_exists ⟨a, ha, hp⟩
    refine .inr ⟨l.findIdx p, h1, rfl, List.findIdx_getElem (w := h1), fun b hb => ?_⟩
    obtain ⟨j, hj, rfl⟩ := List.getElem_of_mem hb
    rw [List.length_take] at hj
    rw [List.getElem_take]
    have := List.not_of_lt_findIdx (xs := l) (p := p) (i := j) (by omega)
    simpa using this
  · rw [if_neg hx]
    refine .inl ⟨rfl, fun a ha => ?_⟩
    cases hp : p a
    · rfl
    · exact absurd (List.any_eq_true.2 ⟨a, ha, hp⟩) hx

theorem filter_take_one (l : List Int) (q : Int → Bool) (j : Nat) (h : j < l.length) : (l.take (j + 1)).filter q = (l.take j).filter q ++ (if q l[j] then [l[j]] else []) := by
  rw [List.take_succ_eq_append_getElem h, List.filter_append]
  congr 1
  cases hq : q l[j] <;> simp [hq]

/-- The step of 'delete in place' where the element is kept. -/
theorem del_keep (l ys : List Int) (q : Int → Bool) (i j : Nat) (hij : i < j) (hj : j < l.length) (hl : ys.length = l.length) (h1 : ys.take i = (l.take j).filter q) (h2 : ys.drop j = l.drop j) (hq : q l[j] = true) :
    (ys.set i l[j]).take (i + 1) = (l.take (j + 1)).filter q ∧ (ys.set i l[j]).drop (j + 1) = l.drop (j + 1) := by
  constructor
  · rw [filter_take_one l q j hj, hq, if_pos rfl, ← h1]
    rw [List.take_set]
    rw [List.take_succ_eq_append_getElem (by omega : i < ys.length)]
    rw [List.set_append_right _ _ (by simp; omega)]
    have : i - (List.take i ys).length = 0 := by simp; omega
    rw [this]; rfl
  · rw [List.drop_set_of_lt (by omega), ← List.drop_drop, h2, List.drop_drop]
theorem del_drop (l ys : List Int) (q : Int → Bool) (i j : Nat) (hj : j < l.length) (h1 : ys.take i = (l.take j).filter q) (h2 : ys.drop j = l.drop j) (hq : q l[j] = false) :
    ys.take i = (l.take (j + 1)).filter q ∧ ys.drop (j + 1) = l.drop (j + 1) := by
  constructor
  · rw [filter_take_one l q j hj, hq, h1]; simp
  · rw [← List.drop_drop, h2, List.drop_drop]
theorem getD_drop_eq (l ys : List Int) (j : Nat) (hj : j < l.length) (hl : ys.length = l.length) (h2 : ys.drop j = l.drop j) : ys.getD j 0 = l[j] := by
  have h3 : (ys.drop j)[0]? = (l.drop j)[0]? := by rw [h2]
  rw [List.getElem?_drop, List.getElem?_drop] at h3
  simp at h3
  rw [getD_lt' _ _ _ (by omega)]
  rw [List.getElem?_eq_getElem (by omega), List.getElem?_eq_getElem hj] at h3
  simpa using h3

/-! ### The multipliers -/
def prog (r k : Nat) : List Nat := (List.range k).map fun i => 1 + i * r
def cnt (d r : Nat) : Nat := (d - 1 + r - 1) / r
def muls (d r : Nat) : List Nat := if d = 1 then [1] else (prog r (cnt d r)).filter fun a => Nat.gcd a d == 1

theorem prog_succ (r k : Nat) : prog r (k + 1) = prog r k ++ [1 + k * r] := by simp [prog, List.range_succ]
theorem prog_length (r k : Nat) : (prog r k).length = k := by simp [prog]
theorem cnt_eq (d r k : Nat) (hr : 1 ≤ r) (h1 : d ≤ 1 + k * r) (h2 : k = 0 ∨ 1 + (k - 1) * r < d) (hd : 1 ≤ d) : k = cnt d r := by
  unfold cnt
  rcases h2 with h2 | h2
  · subst h2
    symm; apply Nat.div_eq_of_lt; omega
  · obtain ⟨j, rfl⟩ : ∃ j, k = j + 1 := by
      rcases Nat.eq_zero_or_pos k with h | h
      · subst h
        exact absurd h2 (by omega)
      · exact ⟨k - 1, by omega⟩
    symm
    rw [Nat.div_eq_iff (by omega)]
    simp only [Nat.add_sub_cancel] at h2
    rw [Nat.succ_mul] at h1 ⊢
    omega

def I (l : List Nat) : List Int := l.map fun n : Nat => (n : Int)
theorem I_length (l : List Nat) : (I l).length = l.length := by simp [I]
theorem I_getD (l : List Nat) (k : Nat) : (I l).getD k 0 = (l.getD k 0 : Nat) := by
  simp [I, List.getD_eq_getElem?_getD]
  cases l[k]? <;> simp
theorem I_append (l m : List Nat) : I (l ++ m) = I l ++ I m := by simp [I]

theorem prog_lt (r k d a : Nat) (h2 : k = 0 ∨ 1 + (k - 1) * r < d) (ha : a ∈ prog r k) : 1 ≤ a ∧ a < d := by
  simp only [prog, List.mem_map, List.mem_range] at ha
  obtain ⟨i, hi, rfl⟩ := ha
  have h1 : i * r ≤ (k - 1) * r := Nat.mul_le_mul_right _ (by omega)
  omega
theorem filter_I (l : List Nat) (d : Nat) : (I l).filter (fun a => !decide (1 < Nat.gcd a.toNat d)) = I (l.filter fun a => !decide (1 < Nat.gcd a d)) := by
  induction l with
  | nil => rfl
  | cons a l ih =>
    simp only [I, List.map_cons, List.filter_cons, Int.toNat_natCast] at ih ⊢
    rw [ih]
    split <;> simp
theorem prog_filter (d r k : Nat) (hd : 2 ≤ d) : (prog r k).filter (fun a => !decide (1 < Nat.gcd a d)) = (prog r k).filter fun a => Nat.gcd a d == 1 := by
  apply List.filter_congr
  intro a ha
  have h1 : 0 < Nat.gcd a d := Nat.gcd_pos_of_pos_right _ (by omega)
  rw [Bool.eq_iff_iff]
  simp; omega
theorem muls_length (d r : Nat) (hd : 1 ≤ d) (hd2 : d ≤ 64) (hr : 1 ≤ r) : (muls d r).length ≤ 64 := by
  unfold muls
  split
  · simp
  · refine Nat.le_trans (List.length_filter_le _ _) ?_
    rw [prog_length]; unfold cnt
    have : (d - 1 + r - 1) / r ≤ d - 1 := by
      rw [← Nat.lt_succ_iff, Nat.div_lt_iff_lt_mul (by omega), Nat.succ_mul]
      have := Nat.le_mul_of_pos_right (d - 1) (by omega : 0 < r)
      omega
    omega
theorem cnt_bd (d r : Nat) (hr : 1 ≤ r) (hd : 1 ≤ d) : cnt d r = 0 ∨ 1 + (cnt d r - 1) * r < d := by
  unfold cnt
  have h1 := Nat.div_mul_le_self (d - 1 + r - 1) r
  generalize hq : (d - 1 + r - 1) / r = q at *
  rcases Nat.eq_zero_or_pos q with h | h
  · exact .inl h
  · obtain ⟨j, rfl⟩ : ∃ j, q = j + 1 := ⟨q - 1, by omega⟩
    rw [Nat.succ_mul] at h1
    simp only [Nat.add_sub_cancel]
    omega
theorem muls_mem (d r a : Nat) (hd : 1 ≤ d) (hr : 1 ≤ r) (ha : a ∈ muls d r) : 1 ≤ a ∧ a ≤ d ∧ Nat.gcd a d = 1 ∧ (a < d ∨ d = 1) := by
  unfold muls at ha
  split at ha
  · simp at ha; subst ha; subst_vars; exact ⟨by omega, by omega, by simp, .inr rfl⟩
  · rw [List.mem_filter] at ha
    have := prog_lt r (cnt d r) d a (cnt_bd d r hr hd) ha.1
    exact ⟨this.1, by omega, by simpa using ha.2, .inl this.2⟩
theorem muls_mod (d r a : Nat) (ha : a ∈ muls d r) (hd : 2 ≤ d) : a % r = 1 % r := by
  unfold muls at ha
  rw [if_neg (by omega), List.mem_filter] at ha
  have ha := ha.1
  simp only [prog, List.mem_map, List.mem_range] at ha
  obtain ⟨i, _, rfl⟩ := ha
  exact Nat.add_mul_mod_self_right _ _ _
theorem cnt_pos (d r : Nat) (hd : 2 ≤ d) (hr : 1 ≤ r) : 1 ≤ cnt d r := by
  unfold cnt
  rw [Nat.le_div_iff_mul_le (by omega)]; omega
theorem muls_pos (d r : Nat) (hd : 1 ≤ d) (hr : 1 ≤ r) : 1 ≤ (muls d r).length := by
  unfold muls
  split
  · simp
  · have h1 : 1 ∈ (prog r (cnt d r)).filter fun a => Nat.gcd a d == 1 := by
      rw [List.mem_filter]
      exact ⟨by simp only [prog, List.mem_map, List.mem_range]; exact ⟨0, cnt_pos d r (by omega) hr, by simp⟩, by simp⟩
    exact List.length_pos_of_mem h1
end Go.Proofs.Ytffdhckilhhejaa
