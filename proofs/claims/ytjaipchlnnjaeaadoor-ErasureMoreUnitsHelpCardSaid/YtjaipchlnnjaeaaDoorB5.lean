import Derived.Test.YtjaipchlnnjaeaaDoorA8
import Derived.Test.YtjaipchlnnjaeaaDoorA6
import Derived.Test.YtjaipchlnnjaeaaDoorA9
import Derived.Test.YtjaipchlnnjaeaaDoorB4
/- Joined texts: La1 La2 La3 La4 La5 La6. -/
section
/- Linear algebra over a field of 2^M elements: sums, spans. Plain. -/
namespace Go.Proofs.YtjaipchlnnjaeaaDoor
open Go.RowKit
set_option linter.unusedVariables false
set_option linter.unusedSectionVars false

abbrev mu (M a b : Nat) : Nat := Gf.mul M (modN M) a b
section
variable {M : Nat} (hM : FldM M)
theorem mu_xor (a b c : Nat) : mu M a (b ^^^ c) = mu M a b ^^^ mu M a c := Gf.mul_xor a b c
theorem xor_mu (a b c : Nat) : mu M (a ^^^ b) c = mu M a c ^^^ mu M b c := Gf.xor_mul a b c
theorem mu_zero (a : Nat) : mu M a 0 = 0 := Gf.mul_zero a
theorem zero_mu (a : Nat) : mu M 0 a = 0 := Gf.zero_mul a
include hM
theorem mu_lt {a : Nat} (ha : a < 2 ^ M) (b : Nat) : mu M a b < 2 ^ M := Gf.mul_lt (FldM.gen hM).hm (FldM.gen hM).top (FldM.gen hM).lt ha b
theorem mu_one {a : Nat} (ha : a < 2 ^ M) : mu M a 1 = a := Gf.mul_one (FldM.gen hM).hm ha
theorem one_mu {a : Nat} (ha : a < 2 ^ M) : mu M 1 a = a := Gf.one_mul ha
theorem mu_comm {a b : Nat} (ha : a < 2 ^ M) (hb : b < 2 ^ M) : mu M a b = mu M b a := Gf.mul_comm ha hb
theorem mu_assoc {a b c : Nat} (ha : a < 2 ^ M) (hb : b < 2 ^ M) (hc : c < 2 ^ M) : mu M (mu M a b) c = mu M a (mu M b c) := Gf.mul_assoc (FldM.gen hM).hm (FldM.gen hM).top (FldM.gen hM).lt ha hb hc
theorem inv_mu {a : Nat} (h0 : a ≠ 0) (ha : a < 2 ^ M) : mu M (invN M a) a = 1 ∧ mu M a (invN M a) = 1 := by
  obtain ⟨b, h1, _, h3⟩ := (FldM.gen hM).inv h0 ha
  have e := invN_eq hM ha h1 h3
  rw [e]
  exact ⟨by rw [mu_comm hM h1 ha]; exact h3, h3⟩
theorem mu_eq_zero {a b : Nat} (ha : a < 2 ^ M) (hb : b < 2 ^ M) (h0 : a ≠ 0) (h : mu M a b = 0) : b = 0 := (FldM.gen hM).zero_of_mul ha hb h0 h
end
theorem xor_lt' {M a b : Nat} (ha : a < 2 ^ M) (hb : b < 2 ^ M) : a ^^^ b < 2 ^ M := Nat.xor_lt_two_pow ha hb
theorem xor_self_cancel (a b : Nat) : (a ^^^ b) ^^^ b = a := by rw [Nat.xor_assoc, Nat.xor_self, Nat.xor_zero]
theorem eq_of_xor {a b : Nat} (h : a ^^^ b = 0) : a = b := by
  have : (a ^^^ b) ^^^ b = 0 ^^^ b := by rw [h]
  rwa [xor_self_cancel, Nat.zero_xor] at this

/-- The sum of the first n. -/
def sg (f : Nat → Nat) : Nat → Nat
  | 0 => 0
  | n + 1 => sg f n ^^^ f n
theorem sg_congr {f g : Nat → Nat} : ∀ n, (∀ i, i < n → f i = g i) → sg f n = sg g n
  | 0, _ => rfl
  | n + 1, h => by rw [sg, sg, sg_congr n (fun i hi => h i (by omega)), h n (by omega)]
theorem sg_zero (n : Nat) : sg (fun _ => 0) n = 0 := by
  induction n with
  | zero => rfl
  | succ n ih => rw [sg, ih, Nat.xor_zero]
theorem sg_xor (f g : Nat → Nat) (n : Nat) : sg (fun i => f i ^^^ g i) n = sg f n ^^^ sg g n := by
  induction n with
  | zero => simp [sg]
  | succ n ih => rw [sg, sg, sg, ih]; exact Gf.xor4 _ _ _ _
theorem sg_mu {M : Nat} (c : Nat) (f : Nat → Nat) (n : Nat) : mu M c (sg f n) = sg (fun i => mu M c (f i)) n := by
  induction n with
  | zero => exact mu_zero c
  | succ n ih => rw [sg, sg, mu_xor, ih]
theorem mu_sg {M : Nat} (c : Nat) (f : Nat → Nat) (n : Nat) : mu M (sg f n) c = sg (fun i => mu M (f i) c) n := by
  induction n with
  | zero => exact zero_mu c
  | succ n ih => rw [sg, sg, xor_mu, ih]
theorem sg_swap (f : Nat → Nat → Nat) (m n : Nat) : sg (fun i => sg (fun j => f i j) m) n = sg (fun j => sg (fun i => f i j) n) m := by
  induction n with
  | zero => exact (sg_zero m).symm
  | succ n ih =>
    show sg (fun i => sg (fun j => f i j) m) n ^^^ sg (fun j => f n j) m = _
    rw [ih, ← sg_xor]
    rfl
theorem sg_one {f : Nat → Nat} {k : Nat} : ∀ n, (∀ i, i < n → i ≠ k → f i = 0) → sg f n = if k < n then f k else 0
  | 0, _ => by simp [sg]
  | n + 1, h => by
    rw [sg, sg_one n (fun i hi => h i (by omega))]
    by_cases e : n = k
    · subst e; rw [if_neg (by omega), if_pos (by omega), Nat.zero_xor]
    · rw [h n (by omega) e, Nat.xor_zero]
      by_cases hk : k < n
      · rw [if_pos hk, if_pos (by omega)]
      · rw [if_neg hk, if_neg (by omega)]
theorem sg_lt {M : Nat} {f : Nat → Nat} : ∀ n, (∀ i, i < n → f i < 2 ^ M) → sg f n < 2 ^ M
  | 0, _ => Nat.two_pow_pos M
  | n + 1, h => xor_lt' (sg_lt n fun i hi => h i (by omega)) (h n (by omega))

/-- Elements of the field, the first D. -/
def Vc (M D : Nat) (v : Nat → Nat) : Prop := ∀ x, x < D → v x < 2 ^ M
/-- Vectors that vectors span. -/
inductive Sp (M D : Nat) (S : (Nat → Nat) → Prop) : (Nat → Nat) → Prop
  | zero {v : Nat → Nat} (h : ∀ x, x < D → v x = 0) : Sp M D S v
  | step {u s v : Nat → Nat} {c : Nat} (hu : Sp M D S u) (hs : S s) (hc : c < 2 ^ M) (h : ∀ x, x < D → v x = u x ^^^ mu M c (s x)) : Sp M D S v
section
variable {M D : Nat} {S S' : (Nat → Nat) → Prop} {u v s : Nat → Nat}
theorem Sp.congr (h : Sp M D S u) (e : ∀ x, x < D → v x = u x) : Sp M D S v := by
  cases h with
  | zero h => exact .zero fun x hx => by rw [e x hx, h x hx]
  | step hu hs hc h => exact .step hu hs hc fun x hx => by rw [e x hx, h x hx]
theorem Sp.add (hu : Sp M D S u) (hv : Sp M D S v) : Sp M D S (fun x => u x ^^^ v x) := by
  induction hv with
  | zero h => exact hu.congr fun x hx => by rw [h x hx, Nat.xor_zero]
  | step h1 hs hc h ih => exact .step ih hs hc fun x hx => by rw [h x hx, Nat.xor_assoc]
theorem Sp.smul (hM : FldM M) (hS : ∀ s, S s → Vc M D s) {c : Nat} (hc : c < 2 ^ M) (hu : Sp M D S u) : Sp M D S (fun x => mu M c (u x)) := by
  induction hu with
  | zero h => exact .zero fun x hx => by rw [h x hx, mu_zero]
  | step h1 hs hc2 h ih => exact .step ih hs (mu_lt hM hc _) fun x hx => by rw [h x hx, mu_xor, mu_assoc hM hc hc2 (hS _ hs x hx)]
theorem Sp.of (hM : FldM M) (hS : ∀ s, S s → Vc M D s) (hs : S s) : Sp M D S s :=
  .step (.zero (v := fun _ => 0) fun _ _ => rfl) hs (one_lt hM) fun x hx => by rw [Nat.zero_xor, one_mu hM (hS s hs x hx)]
theorem Sp.trans (hM : FldM M) (hS' : ∀ s, S' s → Vc M D s) (h : ∀ s, S s → Sp M D S' s) (hv : Sp M D S v) : Sp M D S' v := by
  induction hv with
  | zero h => exact .zero h
  | step h1 hs hc h2 ih => exact (ih.add ((h _ hs).smul hM hS' hc)).congr h2
theorem Sp.mono (h : ∀ s, S s → S' s) (hv : Sp M D S v) : Sp M D S' v := by
  induction hv with
  | zero h => exact .zero h
  | step h1 hs hc h2 ih => exact .step ih (h _ hs) hc h2
theorem Sp.vc (hM : FldM M) (hS : ∀ s, S s → Vc M D s) (hv : Sp M D S v) : Vc M D v := by
  induction hv with
  | zero h => exact fun x hx => by rw [h x hx]; exact Nat.two_pow_pos M
  | step h1 hs hc h2 ih => exact fun x hx => by rw [h2 x hx]; exact xor_lt' (ih x hx) (mu_lt hM hc _)
/-- Where all vanish, what they span vanishes. -/
theorem Sp.vanish {x : Nat} (hx : x < D) (h : ∀ s, S s → s x = 0) (hv : Sp M D S v) : v x = 0 := by
  induction hv with
  | zero h => exact h x hx
  | step h1 hs hc h2 ih => rw [h2 x hx, ih, h _ hs, mu_zero, Nat.xor_zero]
theorem Sp.sum (hM : FldM M) (hS : ∀ s, S s → Vc M D s) {c : Nat → Nat} {w : Nat → Nat → Nat} : ∀ n, (∀ j, j < n → c j < 2 ^ M ∧ Sp M D S (w j)) → Sp M D S (fun x => sg (fun j => mu M (c j) (w j x)) n)
  | 0, _ => .zero fun _ _ => rfl
  | n + 1, h => (Sp.sum hM hS n fun j hj => h j (by omega)).add ((h n (by omega)).2.smul hM hS (h n (by omega)).1)
/-- A span of a vector and others: a multiple of it, and what the others span. -/
theorem Sp.split {r : Nat → Nat} (h : Sp M D (fun s => s = r ∨ S s) v) : ∃ c u, c < 2 ^ M ∧ Sp M D S u ∧ ∀ x, x < D → v x = u x ^^^ mu M c (r x) := by
  induction h with
  | zero h => exact ⟨0, fun _ => 0, Nat.two_pow_pos M, .zero fun _ _ => rfl, fun x hx => by rw [h x hx, zero_mu, Nat.xor_zero]⟩
  | step h1 hs hc h2 ih =>
    obtain ⟨c0, u0, e1, e2, e3⟩ := ih
    rcases hs with rfl | hs
    · exact ⟨_, u0, xor_lt' e1 hc, e2, fun x hx => by rw [h2 x hx, e3 x hx, xor_mu, Nat.xor_assoc]⟩
    · refine ⟨c0, _, e1, .step e2 hs hc fun x hx => rfl, fun x hx => ?_⟩
      rw [h2 x hx, e3 x hx, Nat.xor_assoc, Nat.xor_assoc, Nat.xor_comm (mu M c0 _)]
end
end Go.Proofs.YtjaipchlnnjaeaaDoor
end

section
/- Row operations as maps of columns; what reduce leaves. Plain. -/
namespace Go.Proofs.YtjaipchlnnjaeaaDoor
open Go.RowKit
set_option linter.unusedVariables false
set_option linter.unusedSectionVars false

/-- A map of columns that can be undone. -/
structure Iso (M D : Nat) (T S : (Nat → Nat) → Nat → Nat) : Prop where
  congr : ∀ u v, (∀ i, i < D → u i = v i) → ∀ i, i < D → T u i = T v i
  congrS : ∀ u v, (∀ i, i < D → u i = v i) → ∀ i, i < D → S u i = S v i
  lt : ∀ v, Vc M D v → Vc M D (T v)
  ltS : ∀ v, Vc M D v → Vc M D (S v)
  add : ∀ u v i, i < D → T (fun k => u k ^^^ v k) i = T u i ^^^ T v i
  smul : ∀ c v, c < 2 ^ M → Vc M D v → ∀ i, i < D → T (fun k => mu M c (v k)) i = mu M c (T v i)
  ts : ∀ v, Vc M D v → ∀ i, i < D → T (S v) i = v i
  st : ∀ v, Vc M D v → ∀ i, i < D → S (T v) i = v i
theorem Iso.id (M D : Nat) : Iso M D (fun v => v) (fun v => v) := ⟨fun _ _ h => h, fun _ _ h => h, fun _ h => h, fun _ h => h, fun _ _ _ _ => rfl, fun _ _ _ _ _ _ => rfl, fun _ _ _ _ => rfl, fun _ _ _ _ => rfl⟩
section
variable {M D : Nat} {T S T' S' : (Nat → Nat) → Nat → Nat}
theorem Iso.comp (h' : Iso M D T' S') (h : Iso M D T S) : Iso M D (fun v => T' (T v)) (fun v => S (S' v)) where
  congr u v e := h'.congr _ _ (h.congr u v e)
  congrS u v e := h.congrS _ _ (h'.congrS u v e)
  lt v hv := h'.lt _ (h.lt v hv)
  ltS v hv := h.ltS _ (h'.ltS v hv)
  add u v i hi := by
    rw [h'.congr _ _ (fun k hk => h.add u v k hk) i hi]
    exact h'.add _ _ i hi
  smul c v hc hv i hi := by
    rw [h'.congr _ _ (fun k hk => h.smul c v hc hv k hk) i hi]
    exact h'.smul c _ hc (h.lt v hv) i hi
  ts v hv i hi := by
    rw [h'.congr _ _ (fun k hk => h.ts _ (h'.ltS v hv) k hk) i hi]
    exact h'.ts v hv i hi
  st v hv i hi := by
    rw [h.congrS _ _ (fun k hk => h'.st _ (h.lt v hv) k hk) i hi]
    exact h.st v hv i hi
theorem Iso.zero (h : Iso M D T S) {v : Nat → Nat} (hv : ∀ i, i < D → v i = 0) (i : Nat) (hi : i < D) : T v i = 0 := by
  have h1 := h.add v v i hi
  rw [Nat.xor_self] at h1
  rw [← h1]
  exact h.congr _ _ (fun k hk => by rw [hv k hk, Nat.xor_self]) i hi
theorem Iso.sum (h : Iso M D T S) {c : Nat → Nat} {w : Nat → Nat → Nat} : ∀ n, (∀ j, j < n → c j < 2 ^ M ∧ Vc M D (w j)) → ∀ i, i < D → T (fun x => sg (fun j => mu M (c j) (w j x)) n) i = sg (fun j => mu M (c j) (T (w j) i)) n
  | 0, _, i, hi => h.zero (fun _ _ => rfl) i hi
  | n + 1, hc, i, hi => by
    show T (fun x => sg (fun j => mu M (c j) (w j x)) n ^^^ mu M (c n) (w n x)) i = _
    rw [h.add (fun x => sg (fun j => mu M (c j) (w j x)) n) (fun x => mu M (c n) (w n x)) i hi, Iso.sum h n (fun j hj => hc j (by omega)) i hi, h.smul _ _ (hc n (by omega)).1 (hc n (by omega)).2 i hi]
    rfl
theorem Iso.inj (h : Iso M D T S) {u v : Nat → Nat} (hu : Vc M D u) (hv : Vc M D v) (e : ∀ i, i < D → T u i = T v i) : ∀ i, i < D → u i = v i := fun i hi => by
  rw [← h.st u hu i hi, ← h.st v hv i hi]
  exact h.congrS _ _ e i hi
theorem iso_swap {i k : Nat} (hi : i < D) (hk : k < D) : Iso M D (fun v r => if r = i then v k else if r = k then v i else v r) (fun v r => if r = i then v k else if r = k then v i else v r) where
  congr u v e r hr := by
    (try dsimp only)
    split
    · exact e k hk
    · split
      · exact e i hi
      · exact e r hr
  congrS u v e r hr := by
    (try dsimp only)
    split
    · exact e k hk
    · split
      · exact e i hi
      · exact e r hr
  lt v hv r hr := by
    (try dsimp only)
    split
    · exact hv k hk
    · split
      · exact hv i hi
      · exact hv r hr
  ltS v hv r hr := by
    (try dsimp only)
    split
    · exact hv k hk
    · split
      · exact hv i hi
      · exact hv r hr
  add u v r hr := by
    (try dsimp only)
    split
    · rfl
    · split <;> rfl
  smul c v hc hv r hr := by
    (try dsimp only)
    split
    · rfl
    · split <;> rfl
  ts v hv r hr := by
    (try dsimp only)
    by_cases h1 : r = i
    · subst h1
      by_cases h2 : k = r
      · subst h2; simp
      · simp [h2]
    · by_cases h2 : r = k
      · subst h2; simp [h1]
      · simp [h1, h2]
  st v hv r hr := by
    (try dsimp only)
    by_cases h1 : r = i
    · subst h1
      by_cases h2 : k = r
      · subst h2; simp
      · simp [h2]
    · by_cases h2 : r = k
      · subst h2; simp [h1]
      · simp [h1, h2]
theorem iso_scale (hM : FldM M) {p f g : Nat} (hp : p < D) (hf : f < 2 ^ M) (hg : g < 2 ^ M) (h1 : mu M f g = 1) : Iso M D (fun v r => if r = p then mu M f (v p) else v r) (fun v r => if r = p then mu M g (v p) else v r) where
  congr u v e r hr := by
    show (if _ then _ else _) = if _ then _ else _
    split
    · rw [e p hp]
    · exact e r hr
  congrS u v e r hr := by
    show (if _ then _ else _) = if _ then _ else _
    split
    · rw [e p hp]
    · exact e r hr
  lt v hv r hr := by
    (try dsimp only)
    split
    · exact mu_lt hM hf _
    · exact hv r hr
  ltS v hv r hr := by
    (try dsimp only)
    split
    · exact mu_lt hM hg _
    · exact hv r hr
  add u v r hr := by
    (try dsimp only)
    split
    · exact mu_xor _ _ _
    · rfl
  smul c v hc hv r hr := by
    (try dsimp only)
    split
    · rw [← mu_assoc hM hf hc (hv p hp), mu_comm hM hf hc, mu_assoc hM hc hf (hv p hp)]
    · rfl
  ts v hv r hr := by
    (try dsimp only)
    by_cases h : r = p
    · subst h
      rw [if_pos rfl, if_pos rfl, ← mu_assoc hM hf hg (hv r hr), h1, one_mu hM (hv r hr)]
    · rw [if_neg h, if_neg h]
  st v hv r hr := by
    (try dsimp only)
    by_cases h : r = p
    · subst h
      rw [if_pos rfl, if_pos rfl, ← mu_assoc hM hg hf (hv r hr), mu_comm hM hg hf, h1, one_mu hM (hv r hr)]
    · rw [if_neg h, if_neg h]
theorem iso_clear (hM : FldM M) {p : Nat} {g : Nat → Nat} (hp : p < D) (hg : ∀ r, r < D → g r < 2 ^ M) : Iso M D (fun v r => if r = p then v p else v r ^^^ mu M (g r) (v p)) (fun v r => if r = p then v p else v r ^^^ mu M (g r) (v p)) where
  congr u v e r hr := by
    (try dsimp only)
    split
    · exact e p hp
    · rw [e r hr, e p hp]
  congrS u v e r hr := by
    (try dsimp only)
    split
    · exact e p hp
    · rw [e r hr, e p hp]
  lt v hv r hr := by
    (try dsimp only)
    split
    · exact hv p hp
    · exact xor_lt' (hv r hr) (mu_lt hM (hg r hr) _)
  ltS v hv r hr := by
    (try dsimp only)
    split
    · exact hv p hp
    · exact xor_lt' (hv r hr) (mu_lt hM (hg r hr) _)
  add u v r hr := by
    (try dsimp only)
    split
    · rfl
    · rw [mu_xor]; exact Gf.xor4 _ _ _ _
  smul c v hc hv r hr := by
    (try dsimp only)
    split
    · rfl
    · rw [mu_xor, ← mu_assoc hM (hg r hr) hc (hv p hp), mu_comm hM (hg r hr) hc, mu_assoc hM hc (hg r hr) (hv p hp)]
  ts v hv r hr := by
    (try dsimp only)
    by_cases h : r = p
    · subst h; simp
    · rw [if_neg h, if_neg h, if_pos rfl, xor_self_cancel]
  st v hv r hr := by
    (try dsimp only)
    by_cases h : r = p
    · subst h; simp
    · rw [if_neg h, if_neg h, if_pos rfl, xor_self_cancel]
end
/-- What reduce has done after n columns: the columns were mapped, the pivots' columns are unit vectors, a column is empty from the row on whose pivot comes later. -/
structure RedTo (M R C n : Nat) (L A : List Nat) (pv : List Nat) (T S : (Nat → Nat) → Nat → Nat) : Prop where
  iso : Iso M R T S
  col : ∀ c, c < C → ∀ r, r < R → gt C A r c = T (fun r => gt C L r c) r
  piv : ∀ q, q < pv.length → pv.getD q 0 < n ∧ ∀ r, r < R → gt C A r (pv.getD q 0) = if r = q then 1 else 0
  inc : ∀ q q', q < q' → q' < pv.length → pv.getD q 0 < pv.getD q' 0
  low : ∀ j, j < n → ∀ r, r < R → gt C A r j ≠ 0 → r < pv.length ∧ pv.getD r 0 ≤ j
theorem getD_app {α : Type} (l : List α) (x d : α) (q : Nat) : (l ++ [x]).getD q d = if q < l.length then l.getD q d else if q = l.length then x else d := by
  simp only [List.getD_eq_getElem?_getD]
  by_cases h : q < l.length
  · rw [if_pos h, List.getElem?_append_left h]
  · rw [if_neg h, List.getElem?_append_right (by omega)]
    by_cases e : q = l.length
    · subst e; simp
    · rw [if_neg e]
      have : q - l.length ≠ 0 := by omega
      obtain ⟨m, hm⟩ := Nat.exists_eq_succ_of_ne_zero this
      rw [hm]; simp
theorem red_to {M R C : Nat} {L : List Nat} (hM : FldM M) (hn : L.length = R * C) (hL : ∀ x ∈ L, x < 2 ^ M) : ∀ n, n ≤ C → ∃ T S, RedTo M R C n L (red M R C L n).1 (red M R C L n).2 T S
  | 0, _ => ⟨_, _, Iso.id M R, fun _ _ _ _ => rfl, fun q hq => by simp [red] at hq, fun q q' _ hq => by simp [red] at hq, fun j hj => by omega⟩
  | n + 1, hnC => by
    obtain ⟨T, S, ih⟩ := red_to hM hn hL n (by omega)
    have hok := red_ok hM hn hL n
    rw [red]
    generalize red M R C L n = s at ih hok
    obtain ⟨A, pv⟩ := s
    have h1 := hok.len
    have h2 := hok.lt
    have h3 := hok.pr
    dsimp only at ih h1 h2 h3
    have hf := findP_le n A (R - pv.length) pv.length (C := C)
    have hs := findP_spec (C := C) (L := A) n (R - pv.length) pv.length
    rw [redStep]
    dsimp only
    generalize findP C n A (R - pv.length) pv.length = i at hf hs
    have hAl : ∀ r c, gt C A r c < 2 ^ M := fun r c => getD_lt h2 _
    by_cases hiR : i = R
    · rw [if_pos hiR]
      refine ⟨T, S, ih.iso, ih.col, fun q hq => ⟨Nat.lt_succ_of_lt (ih.piv q hq).1, (ih.piv q hq).2⟩, ih.inc, fun j hj r hr h0 => ?_⟩
      by_cases hjn : j < n
      · exact ih.low j hjn r hr h0
      · have : j = n := by omega
        subst this
        by_cases hrp : r < pv.length
        · exact ⟨hrp, Nat.le_of_lt (ih.piv r hrp).1⟩
        · exact absurd (hs.1 r (by omega) (by omega)) h0
    · rw [if_neg hiR]
      have hiR' : i < R := by omega
      have hp : pv.length < R := by omega
      have hne := hs.2 (by omega)
      have hnC' : n < C := by omega
      have s1 : ∀ r c, c < C → gt C (swapAt (i * C) (pv.length * C) A C) r c = if r = i then gt C A pv.length c else if r = pv.length then gt C A i c else gt C A r c := fun r c hc => gt_swap h1 hiR' hp hc
      have l1 : (swapAt (i * C) (pv.length * C) A C).length = R * C := by rw [swapAt_length]; exact h1
      have b1 : ∀ x ∈ swapAt (i * C) (pv.length * C) A C, x < 2 ^ M := swapAt_lt _ _ h2 _
      have hx : gt C (swapAt (i * C) (pv.length * C) A C) pv.length n = gt C A i n := by
        rw [s1 _ _ hnC']
        by_cases e : pv.length = i
        · rw [if_pos e, e]
        · rw [if_neg e, if_pos rfl]
      have hxe : (swapAt (i * C) (pv.length * C) A C).getD (pv.length * C + n) 0 = gt C A i n := hx
      rw [hxe]
      generalize swapAt (i * C) (pv.length * C) A C = L1 at *
      have hxl := hAl i n
      obtain ⟨v1, v2⟩ := inv_mu hM hne hxl
      have hvl : invN M (gt C A i n) < 2 ^ M := invN_lt _
      generalize invN M (gt C A i n) = f at *
      generalize hxx : gt C A i n = x at *
      have s2 : ∀ r c, c < C → gt C (scaleAt M f (pv.length * C) L1 C) r c = if r = pv.length then mu M f (gt C L1 pv.length c) else gt C L1 r c := fun r c hc => gt_scale l1 hp hc
      have l2 : (scaleAt M f (pv.length * C) L1 C).length = R * C := by rw [scaleAt_length]; exact l1
      have b2 : ∀ y ∈ scaleAt M f (pv.length * C) L1 C, y < 2 ^ M := scaleAt_lt hM hvl _ b1 _
      generalize scaleAt M f (pv.length * C) L1 C = L2 at *
      have s3 : ∀ r c, r < R → c < C → gt C (clearAt M C n pv.length L2 R) r c = if r = pv.length then gt C L2 pv.length c else gt C L2 r c ^^^ mu M (gt C L2 r n) (gt C L2 pv.length c) := fun r c hr hc => gt_clear l2 hnC' hr hc
      generalize clearAt M C n pv.length L2 R = A2 at *
      have hg2 : ∀ r, r < R → gt C L2 r n < 2 ^ M := fun r _ => getD_lt b2 _
      -- the column of an earlier pivot or of none: nothing changes there
      have keep : ∀ c, c < C → (∀ r, pv.length ≤ r → r < R → gt C A r c = 0) → ∀ r, r < R → gt C A2 r c = gt C A r c := fun c hc hz r hr => by
        have z1 : ∀ r, r < R → gt C L1 r c = gt C A r c := fun r hr => by
          rw [s1 r c hc]
          by_cases e1 : r = i
          · rw [if_pos e1, e1, hz _ (Nat.le_refl _) hp, hz i (by omega) hiR']
          · rw [if_neg e1]
            by_cases e2 : r = pv.length
            · rw [if_pos e2, e2, hz _ (Nat.le_refl _) hp, hz i (by omega) hiR']
            · rw [if_neg e2]
        have z2 : ∀ r, r < R → gt C L2 r c = gt C A r c := fun r hr => by
          rw [s2 r c hc]
          by_cases e2 : r = pv.length
          · rw [if_pos e2, z1 _ hp, e2, hz _ (Nat.le_refl _) hp, mu_zero]
          · rw [if_neg e2, z1 r hr]
        rw [s3 r c hr hc]
        by_cases e2 : r = pv.length
        · rw [if_pos e2, e2, z2 _ hp]
        · rw [if_neg e2, z2 r hr, z2 _ hp, hz _ (Nat.le_refl _) hp, mu_zero, Nat.xor_zero]
      have pivn : ∀ r, r < R → gt C A2 r n = if r = pv.length then 1 else 0 := fun r hr => by
        have e0 : gt C L2 pv.length n = 1 := by rw [s2 _ _ hnC', if_pos rfl, hx]; exact v1
        rw [s3 r n hr hnC', e0]
        by_cases e2 : r = pv.length
        · rw [if_pos e2, if_pos e2]
        · rw [if_neg e2, if_neg e2, mu_one hM (hg2 r hr), Nat.xor_self]
      have i1 := iso_swap (M := M) (D := R) hiR' hp
      have i2 := iso_scale (M := M) (D := R) hM hp hvl hxl v1
      have i3 := iso_clear (M := M) (D := R) hM hp hg2
      have i4 := (i3.comp (i2.comp i1)).comp ih.iso
      refine ⟨_, _, i4, fun c hc r hr => ?_, fun q hq => ?_, fun q q' hqq hq => ?_, fun j hj r hr h0 => ?_⟩
      · have e1 : ∀ k, k < R → gt C A k c = T (fun r => gt C L r c) k := ih.col c hc
        have := (i3.comp (i2.comp i1)).congr _ _ e1 r hr
        rw [← this]
        rw [s3 r c hr hc, s2 _ _ hc, s2 _ _ hc, s1 _ _ hc, s1 _ _ hc]
      · rw [List.length_append, List.length_singleton] at hq
        rw [getD_app]
        by_cases hq1 : q < pv.length
        · rw [if_pos hq1]
          obtain ⟨q1, q2⟩ := ih.piv q hq1
          refine ⟨by omega, fun r hr => ?_⟩
          rw [keep _ (by omega) (fun r h4 h5 => by rw [q2 r h5, if_neg (by omega)]) r hr, q2 r hr]
        · have : q = pv.length := by omega
          subst this
          rw [if_neg (by omega), if_pos rfl]
          exact ⟨by omega, pivn⟩
      · rw [List.length_append, List.length_singleton] at hq
        rw [getD_app, getD_app, if_pos (by omega)]
        by_cases hq1 : q' < pv.length
        · rw [if_pos hq1]; exact ih.inc q q' hqq hq1
        · rw [if_neg hq1, if_pos (by omega)]
          exact (ih.piv q (by omega)).1
      · rw [List.length_append, List.length_singleton]
        by_cases hjn : j < n
        · have hz : ∀ r, pv.length ≤ r → r < R → gt C A r j = 0 := fun r h4 h5 => by
            by_cases e : gt C A r j = 0
            · exact e
            · have := (ih.low j hjn r h5 e).1; (try dsimp only at this); omega
          rw [keep j (by omega) hz r hr] at h0
          have := ih.low j hjn r hr h0
          (try dsimp only at this)
          refine ⟨by omega, ?_⟩
          rw [getD_app, if_pos this.1]; exact this.2
        · have : j = n := by omega
          subst this
          rw [pivn r hr] at h0
          have e : r = pv.length := by
            by_cases e : r = pv.length
            · exact e
            · rw [if_neg e] at h0; exact absurd rfl h0
          subst e
          refine ⟨by omega, ?_⟩
          rw [getD_app, if_neg (by omega), if_pos rfl]
          exact Nat.le_refl _
end Go.Proofs.YtjaipchlnnjaeaaDoor
end

section
/- The basis of the present units: plain law. -/
namespace Go.Proofs.YtjaipchlnnjaeaaDoor
open Go.RowKit
set_option linter.unusedVariables false
set_option linter.unusedSectionVars false

theorem gt_trAt {R C : Nat} {L B : List Nat} (hB : B.length = C * R) : ∀ n, n ≤ R * C → ∀ r c, r < R → c < C → gt R (trAt R C L B n) c r = if r * C + c < n then gt C L r c else gt R B c r
  | 0, _, r, c, _, _ => by rw [if_neg (by omega)]; rfl
  | n + 1, hn, r, c, hr, hc => by
    have ih := gt_trAt (L := L) hB n (by omega) r c hr hc
    have hC : 0 < C := by omega
    have h1 : n % C < C := Nat.mod_lt _ hC
    have h2 : n / C < R := by
      rw [Nat.div_lt_iff_lt_mul hC]; omega
    have h3 : n / C * C + n % C = n := by rw [Nat.mul_comm]; exact Nat.div_add_mod n C
    rw [trAt, gt_set (R := C) (C := R) (by rw [trAt_length]; exact hB) h1 h2 hr, ih]
    by_cases e : c = n % C ∧ r = n / C
    · obtain ⟨e1, e2⟩ := e
      rw [if_pos ⟨e1, e2⟩, if_pos (by rw [e1, e2, h3]; omega)]
      show L.getD n 0 = L.getD (r * C + c) 0
      rw [e1, e2, h3]
    · rw [if_neg e]
      have hne : r * C + c ≠ n := fun h => e (by
        rw [← h3] at h
        obtain ⟨a, b⟩ := idx_inj hc h1 h
        exact ⟨b, a⟩)
      by_cases hlt : r * C + c < n
      · rw [if_pos hlt, if_pos (by omega)]
      · rw [if_neg hlt, if_neg (by omega)]
theorem gt_tr {R C : Nat} {L : List Nat} {r c : Nat} (hr : r < R) (hc : c < C) : gt R (trN R C L) c r = gt C L r c := by
  unfold trN
  rw [gt_trAt (by simp) _ (Nat.le_refl _) r c hr hc, if_pos (idx_lt hr hc)]
theorem gt_pick {R C : Nat} {l : List Nat} (hn : l.length = R * C) {c : Nat} (hc : c < C) : ∀ (is : List Nat), (∀ i ∈ is, i < R) → ∀ k, k < is.length → gt C (pickN C l is) k c = gt C l (is.getD k 0) c
  | [], _, k, hk => by simp at hk
  | i :: is, h, k, hk => by
    have hi := h i (by simp)
    have h1 := Nat.mul_le_mul_right C (show i + 1 ≤ R from hi)
    rw [Nat.add_mul, Nat.one_mul] at h1
    have hl : ((l.drop (i * C)).take C).length = C := by rw [List.length_take, List.length_drop]; omega
    unfold gt
    rw [pickN, List.getD_eq_getElem?_getD]
    cases k with
    | zero =>
      rw [List.getElem?_append_left (by omega), Nat.zero_mul, Nat.zero_add, List.getElem?_take_of_lt hc, List.getElem?_drop]
      rfl
    | succ k =>
      rw [List.getElem?_append_right (by rw [hl, Nat.add_mul]; omega), hl, show (k + 1) * C + c - C = k * C + c by rw [Nat.add_mul]; omega]
      have := gt_pick hn hc is (fun x hx => h x (by simp [hx])) k (by simpa using hk)
      unfold gt at this
      rw [List.getD_eq_getElem?_getD] at this
      rw [this]
      rfl
/-- The row of a unit. -/
def U (D : Nat) (gen : List Nat) (u : Nat) : Nat → Nat := fun x => gt D gen u x
theorem U_vc {M R D : Nat} {gen : List Nat} (h : MxOk M R D gen) (u : Nat) : Vc M D (U D gen u) := fun x _ => getD_lt h.e _
theorem pres_inc (hv : List Bool) (n : Nat) : (presAt hv n).Pairwise (· < ·) := List.Pairwise.filter _ List.pairwise_lt_range
theorem getD_inc {l : List Nat} (h : l.Pairwise (· < ·)) {q q' : Nat} (hq : q < q') (hq' : q' < l.length) : l.getD q 0 < l.getD q' 0 := by
  rw [List.getD_eq_getElem?_getD, List.getD_eq_getElem?_getD, List.getElem?_eq_getElem hq', List.getElem?_eq_getElem (show q < l.length by omega)]
  exact List.pairwise_iff_getElem.1 h q q' _ _ hq
theorem getD_mem {l : List Nat} {q : Nat} (h : q < l.length) : l.getD q 0 ∈ l := by
  rw [List.getD_eq_getElem?_getD, List.getElem?_eq_getElem h]
  exact List.getElem_mem h
theorem mem_pres {hv : List Bool} {u : Nat} : u ∈ presN hv ↔ hv.getD u false = true := by
  unfold presN presAt
  rw [List.mem_filter, List.mem_range]
  constructor
  · exact fun h => h.2
  · intro h
    refine ⟨?_, h⟩
    by_cases hl : u < hv.length
    · exact hl
    · rw [List.getD_eq_getElem?_getD, List.getElem?_eq_none (by omega)] at h
      cases h
/-- What the basis of the present units is. -/
structure Bas (M D : Nat) (gen : List Nat) (hv : List Bool) (B : List Nat) (T S : (Nat → Nat) → Nat → Nat) : Prop where
  iso : Iso M D T S
  le : B.length ≤ D
  mem : ∀ q, q < B.length → hv.getD (B.getD q 0) false = true
  inc : ∀ q q', q < q' → q' < B.length → B.getD q 0 < B.getD q' 0
  unit : ∀ q, q < B.length → ∀ r, r < D → T (U D gen (B.getD q 0)) r = if r = q then 1 else 0
  low : ∀ u, hv.getD u false = true → ∀ r, r < D → T (U D gen u) r ≠ 0 → r < B.length ∧ B.getD r 0 ≤ u
theorem map_getD {α : Type} {f : Nat → α} {l : List Nat} {q : Nat} (d : α) (h : q < l.length) : (l.map f).getD q d = f (l.getD q 0) := by
  rw [List.getD_eq_getElem?_getD, List.getD_eq_getElem?_getD, List.getElem?_map, List.getElem?_eq_getElem h]
  rfl
theorem basis_to {M D : Nat} {ps : List (List Nat)} {hv : List Bool} (h : CodeOk M D ps) (hl : hv.length = D + ps.length) : ∃ T S, Bas M D (genN D ps) hv (basisN M D ps hv) T S := by
  have hgok := gen_ok h
  have hplt : ∀ x ∈ presN hv, x < D + ps.length := fun x hx => by have := presAt_lt hx; omega
  have hpl : (presN hv).length ≤ 32 := by have := presAt_length hv hv.length; have := h.w; show (presAt hv hv.length).length ≤ 32; omega
  have hpk := pick_ok hgok hplt hpl
  have hbl := basis_len h hl
  have hcol : ∀ c, c < (presN hv).length → ∀ r, r < D → gt (presN hv).length (trN (presN hv).length D (pickN D (genN D ps) (presN hv))) r c = U D (genN D ps) ((presN hv).getD c 0) r := fun c hc r hr => by
    rw [gt_tr hc hr, gt_pick hgok.n hr _ hplt c hc]
    rfl
  obtain ⟨T, S, hr⟩ := red_to (M := M) (R := D) (C := (presN hv).length) (L := trN (presN hv).length D (pickN D (genN D ps) (presN hv))) h.f (trN_length _ _ _) (trN_lt hpk.e) (presN hv).length (Nat.le_refl _)
  have hB : basisN M D ps hv = (red M D (presN hv).length (trN (presN hv).length D (pickN D (genN D ps) (presN hv))) (presN hv).length).2.map fun j => (presN hv).getD j 0 := rfl
  generalize (red M D (presN hv).length (trN (presN hv).length D (pickN D (genN D ps) (presN hv))) (presN hv).length).1 = A at *
  generalize (red M D (presN hv).length (trN (presN hv).length D (pickN D (genN D ps) (presN hv))) (presN hv).length).2 = pv at *
  have hBl : (basisN M D ps hv).length = pv.length := by rw [hB, List.length_map]
  have hBq : ∀ q, q < pv.length → (basisN M D ps hv).getD q 0 = (presN hv).getD (pv.getD q 0) 0 := fun q hq => by rw [hB]; exact map_getD 0 hq
  have hT : ∀ c, c < (presN hv).length → ∀ r, r < D → T (U D (genN D ps) ((presN hv).getD c 0)) r = gt (presN hv).length A r c := fun c hc r hr' => by
    rw [hr.col c hc r hr']
    exact hr.iso.congr _ _ (fun k hk => (hcol c hc k hk).symm) r hr'
  refine ⟨T, S, hr.iso, hbl, fun q hq => ?_, fun q q' h1 h2 => ?_, fun q hq r hr' => ?_, fun u hu r hr' h0 => ?_⟩
  · rw [hBl] at hq
    rw [hBq q hq]
    exact mem_pres.1 (getD_mem (hr.piv q hq).1)
  · rw [hBl] at h2
    rw [hBq q (by omega), hBq q' h2]
    exact getD_inc (pres_inc hv _) (hr.inc q q' h1 h2) (hr.piv q' h2).1
  · rw [hBl] at hq
    rw [hBq q hq, hT _ (hr.piv q hq).1 r hr']
    exact (hr.piv q hq).2 r hr'
  · obtain ⟨c, hc, e⟩ := List.getElem_of_mem (mem_pres.2 hu)
    have e2 : (presN hv).getD c 0 = u := by rw [List.getD_eq_getElem?_getD, List.getElem?_eq_getElem hc]; exact e
    rw [← e2, hT c hc r hr'] at h0
    obtain ⟨h1, h2⟩ := hr.low c hc r hr' h0
    refine ⟨by omega, ?_⟩
    rw [hBq r h1, ← e2]
    by_cases e3 : pv.getD r 0 = c
    · rw [e3]; exact Nat.le_refl _
    · exact Nat.le_of_lt (getD_inc (pres_inc hv _) (by omega) hc)
section
variable {M D : Nat} {gen : List Nat} {hv : List Bool} {B : List Nat} {T S : (Nat → Nat) → Nat → Nat}
/-- The rows of a basis. -/
def BS (D : Nat) (gen B : List Nat) : (Nat → Nat) → Prop := fun s => ∃ q, q < B.length ∧ s = U D gen (B.getD q 0)
/-- What the map leaves in the first rows is spanned. -/
theorem Bas.span (hM : FldM M) (hg : ∀ u, Vc M D (U D gen u)) (h : Bas M D gen hv B T S) {v : Nat → Nat} (hv' : Vc M D v) (hz : ∀ r, r < D → B.length ≤ r → T v r = 0) : Sp M D (BS D gen B) v := by
  have hS : ∀ s, BS D gen B s → Vc M D s := fun s ⟨q, _, e⟩ => by rw [e]; exact hg _
  have hsum := Sp.sum (M := M) (D := D) (S := BS D gen B) hM hS (c := fun q => T v q) (w := fun q => U D gen (B.getD q 0)) B.length (fun q hq => ⟨h.iso.lt v hv' q (by have := h.le; omega), Sp.of hM hS ⟨q, hq, rfl⟩⟩)
  refine hsum.congr fun x hx => ?_
  have hw : Vc M D (fun x => sg (fun q => mu M (T v q) (U D gen (B.getD q 0) x)) B.length) := hsum.vc hM hS
  refine (h.iso.inj hv' hw fun i hi => ?_) x hx
  rw [h.iso.sum B.length (fun q hq => ⟨h.iso.lt v hv' q (by have := h.le; omega), hg _⟩) i hi]
  rw [sg_congr B.length (fun q hq => show mu M (T v q) (T (U D gen (B.getD q 0)) i) = if q = i then T v i else 0 by
    rw [h.unit q hq i hi]
    by_cases e : i = q
    · subst e; rw [if_pos rfl, if_pos rfl, mu_one hM (h.iso.lt v hv' i hi)]
    · rw [if_neg e, if_neg (fun e2 => e e2.symm), mu_zero])]
  rw [sg_one (k := i) B.length (fun q _ hne => if_neg hne), if_pos rfl]
  by_cases e : i < B.length
  · rw [if_pos e]
  · rw [if_neg e, hz i hi (by omega)]
/-- And nothing else is. -/
theorem Bas.low' (hM : FldM M) (hg : ∀ u, Vc M D (U D gen u)) (h : Bas M D gen hv B T S) {v : Nat → Nat} (hsp : Sp M D (BS D gen B) v) : ∀ r, r < D → B.length ≤ r → T v r = 0 := by
  induction hsp with
  | zero h0 => exact fun r hr _ => h.iso.zero h0 r hr
  | step h1 hs hc h2 ih =>
    obtain ⟨q, hq, rfl⟩ := hs
    intro r hr hle
    rename_i u v c
    have hUv : T (U D gen (B.getD q 0)) r = 0 := by rw [h.unit q hq r hr, if_neg (by omega)]
    rw [h.iso.congr _ _ h2 r hr, h.iso.add u (fun x => mu M c (U D gen (B.getD q 0) x)) r hr, ih r hr hle, Nat.zero_xor]
    rw [h.iso.smul c _ hc (hg _) r hr, hUv, mu_zero]
/-- Every present unit's row is spanned by the basis. -/
theorem Bas.present (hM : FldM M) (hg : ∀ u, Vc M D (U D gen u)) (h : Bas M D gen hv B T S) {u : Nat} (hu : hv.getD u false = true) : Sp M D (BS D gen B) (U D gen u) :=
  h.span hM hg (hg u) fun r hr hle => by
    by_cases e : T (U D gen u) r = 0
    · exact e
    · have := (h.low u hu r hr e).1; omega
end
end Go.Proofs.YtjaipchlnnjaeaaDoor
end

section
/- The rows of a span, and what they leave of a row: plain law. -/
namespace Go.Proofs.YtjaipchlnnjaeaaDoor
open Go.RowKit
set_option linter.unusedVariables false
set_option linter.unusedSectionVars false

theorem addV_get (M f : Nat) (T l : List Nat) : ∀ k, k ≤ T.length → ∀ i, i < T.length → (addV M f T l k).getD i 0 = if i < k then T.getD i 0 ^^^ mu M f (l.getD i 0) else T.getD i 0
  | 0, _, i, _ => by rw [if_neg (by omega)]; rfl
  | k + 1, hk, i, hi => by
    have ih := addV_get M f T l k (by omega)
    rw [addV, set_getD _ _ _ _ (by rw [addV_length]; exact hi)]
    by_cases e : i = k
    · subst e
      rw [if_pos rfl, if_pos (by omega), ih i hi, if_neg (by omega)]
    · rw [if_neg e, ih i hi]
      by_cases h : i < k
      · rw [if_pos h, if_pos (by omega)]
      · rw [if_neg h, if_neg (by omega)]
abbrev Rd := Nat × List Nat × List Nat
section
variable {M D n : Nat} {s : List Nat × List Nat} {r : Rd}
theorem subR_1 (hs : SubOk M D n s) (hr : RedRow M D n r) {x : Nat} (hx : x < D) : (subR M s r).1.getD x 0 = s.1.getD x 0 ^^^ mu M (s.1.getD r.1 0) (r.2.1.getD x 0) := by
  unfold subR
  by_cases e : s.1.getD r.1 0 = 0
  · rw [if_pos e, e, zero_mu, Nat.xor_zero]
  · rw [if_neg e]
    show (addV M _ s.1 r.2.1 r.2.1.length).getD x 0 = _
    rw [addV_get _ _ _ _ _ (by rw [hs.l1, hr.l1]; exact Nat.le_refl _) x (by rw [hs.l1]; exact hx), if_pos (by rw [hr.l1]; exact hx)]
theorem subR_2 (hs : SubOk M D n s) (hr : RedRow M D n r) {q : Nat} (hq : q < n) : (subR M s r).2.getD q 0 = s.2.getD q 0 ^^^ mu M (s.1.getD r.1 0) (r.2.2.getD q 0) := by
  unfold subR
  by_cases e : s.1.getD r.1 0 = 0
  · rw [if_pos e, e, zero_mu, Nat.xor_zero]
  · rw [if_neg e]
    show (addV M _ s.2 r.2.2 r.2.2.length).getD q 0 = _
    rw [addV_get _ _ _ _ _ (by rw [hs.l2, hr.l2]; exact Nat.le_refl _) q (by rw [hs.l2]; exact hq), if_pos (by rw [hr.l2]; exact hq)]
end
/-- A row of a span: the sum that its coefficients tell; it begins with a 1. -/
structure Rw (M D n : Nat) (W : Nat → Nat → Nat) (r : Rd) : Prop where
  ok : RedRow M D n r
  comb : ∀ x, x < D → r.2.1.getD x 0 = sg (fun q => mu M (r.2.2.getD q 0) (W q x)) n
  lead : r.2.1.getD r.1 0 = 1
def Tri (rows : List Rd) : Prop := rows.Pairwise fun a b => b.2.1.getD a.1 0 = 0
def RS (rows : List Rd) : (Nat → Nat) → Prop := fun s => ∃ r, r ∈ rows ∧ s = fun x => r.2.1.getD x 0
section
variable {M D n : Nat} {W : Nat → Nat → Nat} {rows : List Rd}
theorem RS_vc (h : ∀ r ∈ rows, Rw M D n W r) : ∀ s, RS rows s → Vc M D s := fun s ⟨r, hr, e⟩ x hx => by rw [e]; exact getD_lt (h r hr).ok.e1 _
theorem tri_zero (hM : FldM M) : ∀ {rows : List Rd}, (∀ r ∈ rows, Rw M D n W r) → Tri rows → ∀ {v : Nat → Nat}, Sp M D (RS rows) v → (∀ r ∈ rows, v r.1 = 0) → ∀ x, x < D → v x = 0
  | [], _, _, v, hv, _ => by
    cases hv with
    | zero h => exact h
    | step _ hs _ _ => obtain ⟨r, hr, _⟩ := hs; simp at hr
  | r :: rows, h, ht, v, hv, h0 => by
    have hr := h r (by simp)
    obtain ⟨t1, t2⟩ := List.pairwise_cons.1 ht
    have hv2 : Sp M D (fun s => s = (fun x => r.2.1.getD x 0) ∨ RS rows s) v := hv.mono fun s ⟨a, ha, e⟩ => by
      rcases List.mem_cons.1 ha with rfl | ha
      · exact .inl e
      · exact .inr ⟨a, ha, e⟩
    obtain ⟨c, u, hc, hu, e⟩ := hv2.split
    have hcz : c = 0 := by
      have e1 := e r.1 hr.ok.c
      rw [h0 r (by simp), hr.lead, mu_one hM hc, hu.vanish hr.ok.c (fun s ⟨a, ha, e⟩ => by rw [e]; exact t1 a ha), Nat.zero_xor] at e1
      exact e1.symm
    subst hcz
    have e2 : ∀ x, x < D → v x = u x := fun x hx => by rw [e x hx, zero_mu, Nat.xor_zero]
    intro x hx
    rw [e2 x hx]
    exact tri_zero hM (fun a ha => h a (by simp [ha])) t2 hu (fun a ha => by rw [← e2 a.1 (h a (by simp [ha])).ok.c]; exact h0 a (by simp [ha])) x hx
/-- What is left of a row, in the midst. -/
structure Rst (M D n : Nat) (W : Nat → Nat → Nat) (row : Nat → Nat) (s : List Nat × List Nat) : Prop where
  ok : SubOk M D n s
  sum : ∀ x, x < D → s.1.getD x 0 = row x ^^^ sg (fun q => mu M (s.2.getD q 0) (W q x)) n
theorem fold_rst (hM : FldM M) (hW : ∀ q, Vc M D (W q)) {row : Nat → Nat} : ∀ (rows : List Rd), (∀ r ∈ rows, Rw M D n W r) → ∀ s, Rst M D n W row s → Rst M D n W row (rows.foldl (subR M) s)
  | [], _, s, h => h
  | r :: rows, hr, s, h => by
    refine fold_rst hM hW rows (fun a ha => hr a (by simp [ha])) _ ⟨sub_ok hM h.ok (hr r (by simp)).ok, fun x hx => ?_⟩
    have hr1 := hr r (by simp)
    rw [subR_1 h.ok hr1.ok hx, h.sum x hx, hr1.comb x hx, Nat.xor_assoc, sg_mu, ← sg_xor]
    congr 1
    refine sg_congr n fun q hq => ?_
    rw [subR_2 h.ok hr1.ok hq, xor_mu, mu_assoc hM (getD_lt h.ok.e1 _) (getD_lt hr1.ok.e2 _) (hW q x hx)]
theorem fold_keep {c : Nat} (hc : c < D) (hM : FldM M) : ∀ (rows : List Rd), (∀ r ∈ rows, RedRow M D n r ∧ r.2.1.getD c 0 = 0) → ∀ s, SubOk M D n s → (rows.foldl (subR M) s).1.getD c 0 = s.1.getD c 0
  | [], _, s, _ => rfl
  | r :: rows, hr, s, h => by
    obtain ⟨h1, h2⟩ := hr r (by simp)
    show (rows.foldl (subR M) (subR M s r)).1.getD c 0 = _
    rw [fold_keep hc hM rows (fun a ha => hr a (by simp [ha])) _ (sub_ok hM h h1), subR_1 h h1 hc, h2, mu_zero, Nat.xor_zero]
theorem fold_zero (hM : FldM M) : ∀ (rows : List Rd), (∀ r ∈ rows, Rw M D n W r) → Tri rows → ∀ s, SubOk M D n s → ∀ r ∈ rows, (rows.foldl (subR M) s).1.getD r.1 0 = 0
  | [], _, _, _, _, r, hr => by simp at hr
  | a :: rows, h, ht, s, hs, r, hr => by
    obtain ⟨t1, t2⟩ := List.pairwise_cons.1 ht
    have ha := h a (by simp)
    show (rows.foldl (subR M) (subR M s a)).1.getD r.1 0 = 0
    rcases List.mem_cons.1 hr with rfl | hr
    · rw [fold_keep ha.ok.c hM rows (fun b hb => ⟨(h b (by simp [hb])).ok, t1 b hb⟩) _ (sub_ok hM hs ha.ok), subR_1 hs ha.ok ha.ok.c, ha.lead, mu_one hM (getD_lt hs.e1 _), Nat.xor_self]
    · exact fold_zero hM rows (fun b hb => h b (by simp [hb])) t2 _ (sub_ok hM hs ha.ok) r hr
theorem fold_span (hM : FldM M) {all : List Rd} (hall : ∀ r ∈ all, Rw M D n W r) : ∀ (rows : List Rd), (∀ r ∈ rows, r ∈ all) → ∀ s, SubOk M D n s → Sp M D (RS all) (fun x => s.1.getD x 0 ^^^ (rows.foldl (subR M) s).1.getD x 0)
  | [], _, s, _ => .zero fun x hx => by simp
  | r :: rows, hr, s, hs => by
    have h1 := hall r (hr r (by simp))
    have ih := fold_span hM hall rows (fun a ha => hr a (by simp [ha])) _ (sub_ok hM hs h1.ok)
    refine .step ih ⟨r, hr r (by simp), rfl⟩ (c := s.1.getD r.1 0) (getD_lt hs.e1 _) fun x hx => ?_
    show s.1.getD x 0 ^^^ (rows.foldl (subR M) (subR M s r)).1.getD x 0 = _
    rw [subR_1 hs h1.ok hx]
    generalize s.1.getD x 0 = a
    generalize (rows.foldl (subR M) (subR M s r)).1.getD x 0 = b
    generalize mu M (s.1.getD r.1 0) (r.2.1.getD x 0) = c
    rw [Nat.xor_assoc a c b, Nat.xor_comm c b, ← Nat.xor_assoc, xor_self_cancel]
end
theorem findNZ_lt {l : List Nat} (h : findNZ l < l.length) : l.getD (findNZ l) 0 ≠ 0 := by
  have := List.findIdx_getElem (xs := l) (p := fun x => x != 0) (w := h)
  rw [List.getD_eq_getElem?_getD, List.getElem?_eq_getElem h]
  have h3 : ¬ (l[List.findIdx (fun x => x != 0) l]'h = 0) := by simpa using this
  exact h3
theorem findNZ_ge {l : List Nat} (h : ¬ findNZ l < l.length) (x : Nat) : l.getD x 0 = 0 := by
  rw [List.getD_eq_getElem?_getD]
  by_cases hx : x < l.length
  · rw [List.getElem?_eq_getElem hx]
    have h2 : findNZ l = l.length := by
      have := List.findIdx_le_length (xs := l) (p := fun x => x != 0)
      unfold findNZ at *; omega
    have := List.findIdx_eq_length.1 h2 l[x] (List.getElem_mem hx)
    simpa using this
  · rw [List.getElem?_eq_none (by omega)]; rfl
theorem row_getD {M R D u : Nat} {gen : List Nat} (h : MxOk M R D gen) (hu : u < R) {x : Nat} (hx : x < D) : ((gen.drop (u * D)).take D).getD x 0 = U D gen u x := by
  rw [List.getD_eq_getElem?_getD, List.getElem?_take_of_lt hx, List.getElem?_drop]
  unfold U gt
  rw [List.getD_eq_getElem?_getD]
/-- The rows of the span of the first k units of a basis. -/
structure SpTo (M D : Nat) (gen B : List Nat) (k : Nat) (rows : List Rd) : Prop where
  rw : ∀ r ∈ rows, Rw M D B.length (fun q => U D gen (B.getD q 0)) r
  tri : Tri rows
  all : ∀ q, q < k → Sp M D (RS rows) (U D gen (B.getD q 0))
theorem span_to {M R D : Nat} {gen B : List Nat} (hM : FldM M) (hg : MxOk M R D gen) (hB : ∀ u ∈ B, u < R) : ∀ k, k ≤ B.length → SpTo M D gen B k (spanAt M D B.length gen B k)
  | 0, _ => ⟨fun r hr => by simp [spanAt] at hr, List.Pairwise.nil, fun q hq => by omega⟩
  | k + 1, hk => by
    have ih := span_to hM hg hB k (by omega)
    have hok := span_ok (n := B.length) hM hg hB k (by omega)
    rw [spanAt]
    generalize spanAt M D B.length gen B k = rows at ih hok
    have hbk : B.getD k 0 < R := hB _ (getD_mem (by omega))
    obtain ⟨p1, p2⟩ := pick_row hg hbk
    have hW : ∀ q, Vc M D (U D gen (B.getD q 0)) := fun q => U_vc hg _
    have hs0 : SubOk M D B.length ((gen.drop (B.getD k 0 * D)).take D, List.replicate B.length 0) := ⟨p1, List.length_replicate, p2, fun x hx => by rw [List.eq_of_mem_replicate hx]; exact Nat.two_pow_pos M⟩
    have hr0 : Rst M D B.length (fun q => U D gen (B.getD q 0)) (U D gen (B.getD k 0)) ((gen.drop (B.getD k 0 * D)).take D, List.replicate B.length 0) := ⟨hs0, fun x hx => by
      rw [row_getD hg hbk hx, sg_congr B.length (fun q hq => show mu M ((List.replicate B.length 0).getD q 0) _ = 0 by
        rw [List.getD_eq_getElem?_getD, List.getElem?_replicate, if_pos hq]; exact zero_mu _), sg_zero, Nat.xor_zero]⟩
    have hr := fold_rst hM hW rows ih.rw _ hr0
    have hz := fold_zero hM rows ih.rw ih.tri _ hs0
    have hsp := fold_span hM ih.rw rows (fun _ h => h) _ hs0
    unfold spanStep
    dsimp only
    change Rst M D B.length _ _ (redV M B.length ((gen.drop (B.getD k 0 * D)).take D) rows) at hr
    change ∀ r ∈ rows, (redV M B.length ((gen.drop (B.getD k 0 * D)).take D) rows).1.getD r.1 0 = 0 at hz
    change Sp M D (RS rows) (fun x => ((gen.drop (B.getD k 0 * D)).take D).getD x 0 ^^^ (redV M B.length ((gen.drop (B.getD k 0 * D)).take D) rows).1.getD x 0) at hsp
    generalize redV M B.length ((gen.drop (B.getD k 0 * D)).take D) rows = s at *
    have hsp2 : Sp M D (RS rows) (fun x => U D gen (B.getD k 0) x ^^^ s.1.getD x 0) := hsp.congr fun x hx => by rw [row_getD hg hbk hx]
    have h1 := hr.ok
    have hc : ∀ x, x < D → s.1.getD x 0 = sg (fun q => mu M ((s.2.set k (s.2.getD k 0 ^^^ 1)).getD q 0) (U D gen (B.getD q 0) x)) B.length := fun x hx => by
      rw [hr.sum x hx, Nat.xor_comm]
      have e1 : U D gen (B.getD k 0) x = sg (fun q => if q = k then U D gen (B.getD k 0) x else 0) B.length := by
        rw [sg_one (k := k) B.length (fun q _ hne => if_neg hne), if_pos (by omega), if_pos rfl]
      rw [e1, ← sg_xor]
      refine sg_congr _ fun q hq => ?_
      rw [set_getD _ _ _ _ (by rw [h1.l2]; exact hq)]
      by_cases e : q = k
      · subst e
        rw [if_pos rfl, if_pos rfl, xor_mu, one_mu hM (hW q x hx)]
      · rw [if_neg e, if_neg e, Nat.xor_zero]
    have hcl : ∀ x ∈ s.2.set k (s.2.getD k 0 ^^^ 1), x < 2 ^ M := fun x hx => by
      rcases List.mem_or_eq_of_mem_set hx with hx | rfl
      · exact h1.e2 x hx
      · exact xor_lt' (getD_lt h1.e2 _) (one_lt hM)
    have hcn : (s.2.set k (s.2.getD k 0 ^^^ 1)).length = B.length := by rw [List.length_set]; exact h1.l2
    generalize s.2.set k (s.2.getD k 0 ^^^ 1) = c at *
    by_cases hf : findNZ s.1 < D
    · rw [if_pos hf]
      have hne := findNZ_lt (l := s.1) (by rw [h1.l1]; exact hf)
      generalize findNZ s.1 = col at *
      have hxl := getD_lt h1.e1 col
      obtain ⟨v1, v2⟩ := inv_mu hM hne hxl
      have hvl : invN M (s.1.getD col 0) < 2 ^ M := invN_lt _
      generalize invN M (s.1.getD col 0) = f at *
      have hrep : ∀ m i, (List.replicate m 0).getD i 0 = 0 := fun m i => by
        rw [List.getD_eq_getElem?_getD, List.getElem?_replicate]; split <;> rfl
      have hnr : ∀ x, x < D → (addV M f (List.replicate D 0) s.1 D).getD x 0 = mu M f (s.1.getD x 0) := fun x hx => by
        rw [addV_get _ _ _ _ _ (by simp) x (by simpa using hx), if_pos hx, hrep, Nat.zero_xor]
      have hnc : ∀ q, q < B.length → (addV M f (List.replicate B.length 0) c B.length).getD q 0 = mu M f (c.getD q 0) := fun q hq => by
        rw [addV_get _ _ _ _ _ (by simp) q (by simpa using hq), if_pos hq, hrep, Nat.zero_xor]
      have hz0 : ∀ m, ∀ x ∈ List.replicate m 0, x < 2 ^ M := fun m x hx => by rw [List.eq_of_mem_replicate hx]; exact Nat.two_pow_pos M
      have hok1 : RedRow M D B.length (col, addV M f (List.replicate D 0) s.1 D, addV M f (List.replicate B.length 0) c B.length) :=
        ⟨hf, by rw [addV_length, List.length_replicate], by rw [addV_length, List.length_replicate], addV_lt hM hvl (hz0 _) _, addV_lt hM hvl (hz0 _) _⟩
      have hrw1 : Rw M D B.length (fun q => U D gen (B.getD q 0)) (col, addV M f (List.replicate D 0) s.1 D, addV M f (List.replicate B.length 0) c B.length) := by
        refine ⟨hok1, fun x hx => ?_, ?_⟩
        · show (addV M f (List.replicate D 0) s.1 D).getD x 0 = _
          rw [hnr x hx, hc x hx, sg_mu]
          refine sg_congr _ fun q hq => ?_
          show _ = mu M ((addV M f (List.replicate B.length 0) c B.length).getD q 0) _
          rw [hnc q hq, mu_assoc hM hvl (getD_lt hcl _) (hW q x hx)]
        · show (addV M f (List.replicate D 0) s.1 D).getD col 0 = 1
          rw [hnr col hf]; exact v1
      have hmono : ∀ t, RS rows t → RS (rows ++ [(col, addV M f (List.replicate D 0) s.1 D, addV M f (List.replicate B.length 0) c B.length)]) t := fun t ⟨r, hr, e⟩ => ⟨r, by simp [hr], e⟩
      have hrwA : ∀ r ∈ rows ++ [(col, addV M f (List.replicate D 0) s.1 D, addV M f (List.replicate B.length 0) c B.length)], Rw M D B.length (fun q => U D gen (B.getD q 0)) r := fun r hr => by
        rcases List.mem_append.1 hr with hr | hr
        · exact ih.rw r hr
        · rw [List.mem_singleton.1 hr]; exact hrw1
      refine ⟨hrwA, ?_, fun q hq => ?_⟩
      · refine List.pairwise_append.2 ⟨ih.tri, List.pairwise_singleton _ _, fun a ha b hb => ?_⟩
        rw [List.mem_singleton.1 hb]
        show (addV M f (List.replicate D 0) s.1 D).getD a.1 0 = 0
        rw [hnr _ (ih.rw a ha).ok.c, hz a ha, mu_zero]
      · by_cases hqk : q < k
        · exact (ih.all q hqk).mono hmono
        · have : q = k := by omega
          subst this
          refine .step (hsp2.mono hmono) ⟨_, List.mem_append_right _ (List.mem_singleton.2 rfl), rfl⟩ (c := s.1.getD col 0) hxl fun x hx => ?_
          show U D gen (B.getD q 0) x = (U D gen (B.getD q 0) x ^^^ s.1.getD x 0) ^^^ mu M (s.1.getD col 0) ((addV M f (List.replicate D 0) s.1 D).getD x 0)
          rw [hnr x hx, ← mu_assoc hM hxl hvl (getD_lt h1.e1 _), v2, one_mu hM (getD_lt h1.e1 _), xor_self_cancel]
    · rw [if_neg hf]
      refine ⟨ih.rw, ih.tri, fun q hq => ?_⟩
      by_cases hqk : q < k
      · exact ih.all q hqk
      · have : q = k := by omega
        subst this
        exact hsp2.congr fun x hx => by rw [findNZ_ge (l := s.1) (by rw [h1.l1]; exact hf), Nat.xor_zero]
end Go.Proofs.YtjaipchlnnjaeaaDoor
end

section
/- What can be recovered: plain law. -/
namespace Go.Proofs.YtjaipchlnnjaeaaDoor
open Go.RowKit
set_option linter.unusedVariables false
set_option linter.unusedSectionVars false

/-- The rows of the present units. -/
def PS (D : Nat) (gen : List Nat) (hv : List Bool) : (Nat → Nat) → Prop := fun s => ∃ u, hv.getD u false = true ∧ s = U D gen u
theorem U_all {M D : Nat} {ps : List (List Nat)} (h : CodeOk M D ps) (u : Nat) : Vc M D (U D (genN D ps) u) := U_vc (gen_ok h) u
section
variable {M D : Nat} {ps : List (List Nat)} {hv : List Bool} (h : CodeOk M D ps) (hl : hv.length = D + ps.length)
include h hl
theorem hv_lt {u : Nat} (hu : hv.getD u false = true) : u < D + ps.length := by
  by_cases e : u < hv.length
  · omega
  · rw [List.getD_eq_getElem?_getD, List.getElem?_eq_none (by omega)] at hu; cases hu
theorem sp_BP {v : Nat → Nat} : Sp M D (BS D (genN D ps) (basisN M D ps hv)) v ↔ Sp M D (PS D (genN D ps) hv) v := by
  obtain ⟨T, S, hb⟩ := basis_to h hl
  constructor
  · exact Sp.mono fun s ⟨q, hq, e⟩ => ⟨_, hb.mem q hq, e⟩
  · exact Sp.trans h.f (fun s ⟨q, _, e⟩ => by rw [e]; exact U_all h _) fun s ⟨u, hu, e⟩ => by rw [e]; exact hb.present h.f (U_all h) hu
theorem red_left {u : Nat} (hu : u < D + ps.length) :
    Rst M D (basisN M D ps hv).length (fun q => U D (genN D ps) ((basisN M D ps hv).getD q 0)) (U D (genN D ps) u) (redV M (basisN M D ps hv).length (((genN D ps).drop (u * D)).take D) (spanN M D ps hv)) ∧
    ((redV M (basisN M D ps hv).length (((genN D ps).drop (u * D)).take D) (spanN M D ps hv)).1.all (fun x => decide (x = 0)) = true ↔ Sp M D (PS D (genN D ps) hv) (U D (genN D ps) u)) := by
  have hg := gen_ok h
  have hM := h.f
  have hsp := span_to hM hg (basis_lt hl) (basisN M D ps hv).length (Nat.le_refl _)
  have hW : ∀ q, Vc M D (U D (genN D ps) ((basisN M D ps hv).getD q 0)) := fun q => U_all h _
  obtain ⟨p1, p2⟩ := pick_row hg hu
  have hs0 : SubOk M D (basisN M D ps hv).length (((genN D ps).drop (u * D)).take D, List.replicate (basisN M D ps hv).length 0) := ⟨p1, List.length_replicate, p2, fun x hx => by rw [List.eq_of_mem_replicate hx]; exact Nat.two_pow_pos M⟩
  have hr0 : Rst M D (basisN M D ps hv).length (fun q => U D (genN D ps) ((basisN M D ps hv).getD q 0)) (U D (genN D ps) u) (((genN D ps).drop (u * D)).take D, List.replicate (basisN M D ps hv).length 0) := ⟨hs0, fun x hx => by
    rw [row_getD hg hu hx, sg_congr (basisN M D ps hv).length (fun q hq => show mu M ((List.replicate (basisN M D ps hv).length 0).getD q 0) _ = 0 by
      rw [List.getD_eq_getElem?_getD, List.getElem?_replicate, if_pos hq]; exact zero_mu _), sg_zero, Nat.xor_zero]⟩
  have hr := fold_rst hM hW (spanN M D ps hv) hsp.rw _ hr0
  have hz := fold_zero hM (spanN M D ps hv) hsp.rw hsp.tri _ hs0
  have hfs := fold_span hM hsp.rw (spanN M D ps hv) (fun _ h => h) _ hs0
  refine ⟨hr, ?_⟩
  rw [← sp_BP h hl]
  have hbs : ∀ s, BS D (genN D ps) (basisN M D ps hv) s → Vc M D s := fun s ⟨q, _, e⟩ => by rw [e]; exact U_all h _
  constructor
  · intro h0
    rw [List.all_eq_true] at h0
    have hsum := Sp.sum (M := M) (D := D) hM hbs (c := fun q => (redV M (basisN M D ps hv).length (((genN D ps).drop (u * D)).take D) (spanN M D ps hv)).2.getD q 0) (w := fun q => U D (genN D ps) ((basisN M D ps hv).getD q 0)) (basisN M D ps hv).length (fun q hq => ⟨getD_lt hr.ok.e2 _, Sp.of hM hbs ⟨q, hq, rfl⟩⟩)
    refine hsum.congr fun x hx => ?_
    have h1 := hr.sum x hx
    have h2 : (List.foldl (subR M) (((genN D ps).drop (u * D)).take D, List.replicate (basisN M D ps hv).length 0) (spanN M D ps hv)).1.getD x 0 = 0 := by
      have hx2 : x < (redV M (basisN M D ps hv).length (((genN D ps).drop (u * D)).take D) (spanN M D ps hv)).1.length := by
        have := hr.ok.l1; unfold redV; omega
      have := h0 _ (List.getElem_mem hx2)
      rw [List.getD_eq_getElem?_getD]
      have e : (redV M (basisN M D ps hv).length (((genN D ps).drop (u * D)).take D) (spanN M D ps hv)).1[x]? = some ((redV M (basisN M D ps hv).length (((genN D ps).drop (u * D)).take D) (spanN M D ps hv)).1[x]) := List.getElem?_eq_getElem hx2
      unfold redV at e this
      rw [e]
      simpa using this
    rw [h2] at h1
    exact eq_of_xor h1.symm
  · intro hs
    have hv2 : Sp M D (RS (spanN M D ps hv)) (U D (genN D ps) u) := Sp.trans hM (RS_vc hsp.rw) (fun s ⟨q, hq, e⟩ => by rw [e]; exact hsp.all q hq) hs
    have hrest : Sp M D (RS (spanN M D ps hv)) (fun x => (redV M (basisN M D ps hv).length (((genN D ps).drop (u * D)).take D) (spanN M D ps hv)).1.getD x 0) := (hv2.add hfs).congr fun x hx => by
      show _ = U D (genN D ps) u x ^^^ ((((genN D ps).drop (u * D)).take D).getD x 0 ^^^ _)
      rw [row_getD hg hu hx, ← Nat.xor_assoc, Nat.xor_self, Nat.zero_xor]
      rfl
    have h0 := tri_zero hM hsp.rw hsp.tri hrest hz
    rw [List.all_eq_true]
    intro y hy
    obtain ⟨x, hx, rfl⟩ := List.getElem_of_mem hy
    have hxD : x < D := by have := hr.ok.l1; unfold redV at hx; omega
    have := h0 x hxD
    rw [List.getD_eq_getElem?_getD, List.getElem?_eq_getElem hx] at this
    simpa using this
/-- Recoverable is spanned. -/
theorem comb_iff {u : Nat} (hu : u < D + ps.length) : (combN M D ps hv u).isSome = true ↔ Sp M D (PS D (genN D ps) hv) (U D (genN D ps) u) := by
  rw [← (red_left h hl hu).2]
  unfold combN termsN
  dsimp only
  split
  · rename_i e; simp [e]
  · rename_i e; simp [e]
/-- The terms of a recoverable unit. -/
theorem comb_some {u : Nat} (hu : u < D + ps.length) {l : List (Nat × Nat)} (hc : combN M D ps hv u = some l) : ∃ K : List Nat, K.length = (basisN M D ps hv).length ∧ (∀ x ∈ K, x < 2 ^ M) ∧ l = tmsAt (basisN M D ps hv) K (basisN M D ps hv).length ∧
    ∀ x, x < D → U D (genN D ps) u x = sg (fun q => mu M (K.getD q 0) (U D (genN D ps) ((basisN M D ps hv).getD q 0) x)) (basisN M D ps hv).length := by
  obtain ⟨hr, _⟩ := red_left h hl hu
  unfold combN termsN at hc
  dsimp only at hc
  generalize redV M (basisN M D ps hv).length (((genN D ps).drop (u * D)).take D) (spanN M D ps hv) = s at *
  split at hc
  · rename_i e
    refine ⟨s.2, hr.ok.l2, hr.ok.e2, (Option.some.inj hc).symm, fun x hx => ?_⟩
    have h1 := hr.sum x hx
    have hx2 : x < s.1.length := by have := hr.ok.l1; omega
    have h2 : s.1.getD x 0 = 0 := by
      rw [List.getD_eq_getElem?_getD, List.getElem?_eq_getElem hx2]
      rw [List.all_eq_true] at e
      simpa using e _ (List.getElem_mem hx2)
    rw [h2] at h1
    exact eq_of_xor h1.symm
  · cases hc
end
/-- Unit vectors. -/
def eu' (q : Nat) : Nat → Nat := fun x => if x = q then 1 else 0
theorem eu_vc {M D : Nat} (hM : FldM M) (q : Nat) : Vc M D (eu' q) := fun x _ => by
  unfold eu'
  split
  · exact one_lt hM
  · exact Nat.two_pow_pos M
def WS (w : Nat → Nat → Nat) (p : Nat) : (Nat → Nat) → Prop := fun s => ∃ r, r < p ∧ s = w r
/-- p vectors span at most p unit vectors. -/
theorem steinitz {M D : Nat} (hM : FldM M) : ∀ (p : Nat) (w : Nat → Nat → Nat) (m : Nat), (∀ r, r < p → Vc M D (w r)) → m ≤ D → (∀ q, q < m → Sp M D (WS w p) (eu' q)) → m ≤ p
  | 0, w, m, _, hm, h => by
    by_cases e : m = 0
    · omega
    · have := (h 0 (by omega)).vanish (x := 0) (by omega) (fun s ⟨r, hr, _⟩ => by omega)
      simp [eu'] at this
  | p + 1, w, m, hw, hm, h => by
    cases m with
    | zero => omega
    | succ m =>
      have hex : ∃ r, r < p + 1 ∧ w r m ≠ 0 := by
        apply Classical.byContradiction
        intro hne
        have := (h m (by omega)).vanish (x := m) (by omega) (fun s ⟨r, hr, e⟩ => by
          rw [e]
          exact Classical.byContradiction fun h0 => hne ⟨r, hr, h0⟩)
        simp [eu'] at this
      obtain ⟨r0, hr0, ht0⟩ := hex
      have htv := hw r0 hr0
      have htl := htv m (by omega)
      obtain ⟨v1, v2⟩ := inv_mu hM ht0 htl
      have hvl : invN M (w r0 m) < 2 ^ M := invN_lt _
      -- the others, cleared
      let w1 : Nat → Nat → Nat := fun r => if r = r0 then w p else w r
      have hw1 : ∀ r, r < p → Vc M D (w1 r) := fun r hr => by
        show Vc M D (if r = r0 then w p else w r)
        split
        · exact hw p (by omega)
        · exact hw r (by omega)
      let w2 : Nat → Nat → Nat := fun r x => w1 r x ^^^ mu M (mu M (w1 r m) (invN M (w r0 m))) (w r0 x)
      have hw2 : ∀ r, r < p → Vc M D (w2 r) := fun r hr x hx => xor_lt' (hw1 r hr x hx) (mu_lt hM (mu_lt hM (hw1 r hr m (by omega)) _) _)
      have hz2 : ∀ r, r < p → w2 r m = 0 := fun r hr => by
        show w1 r m ^^^ mu M (mu M (w1 r m) (invN M (w r0 m))) (w r0 m) = 0
        rw [mu_assoc hM (hw1 r hr m (by omega)) hvl htl, v1, mu_one hM (hw1 r hr m (by omega)), Nat.xor_self]
      have hvc2 : ∀ s, (s = w r0 ∨ WS w2 p s) → Vc M D s := fun s hs => by
        rcases hs with rfl | ⟨r, hr, rfl⟩
        · exact htv
        · exact hw2 r hr
      have hin : ∀ s, WS w (p + 1) s → Sp M D (fun s => s = w r0 ∨ WS w2 p s) s := fun s ⟨r, hr, e⟩ => by
        by_cases e0 : r = r0
        · rw [e, e0]; exact Sp.of hM hvc2 (.inl rfl)
        · have hex : ∃ r', r' < p ∧ w1 r' = w r := by
            by_cases e1 : r = p
            · refine ⟨r0, by omega, ?_⟩
              show (if r0 = r0 then w p else w r0) = w r
              rw [if_pos rfl, e1]
            · refine ⟨r, by omega, ?_⟩
              show (if r = r0 then w p else w r) = w r
              rw [if_neg e0]
          obtain ⟨r', hr', e'⟩ := hex
          rw [e]
          refine .step (Sp.of hM hvc2 (.inr ⟨r', hr', rfl⟩)) (.inl rfl) (c := mu M (w1 r' m) (invN M (w r0 m))) (mu_lt hM (hw1 r' hr' m (by omega)) _) fun x hx => ?_
          show w r x = (w1 r' x ^^^ mu M (mu M (w1 r' m) (invN M (w r0 m))) (w r0 x)) ^^^ _
          rw [xor_self_cancel, e']
      have := steinitz hM p w2 m hw2 (by omega) fun q hq => by
        obtain ⟨c, u, hc, hu, e⟩ := (Sp.trans hM hvc2 hin (h q (by omega))).split
        have e1 := e m (by omega)
        rw [hu.vanish (by omega) (fun s ⟨r, hr, e⟩ => by rw [e]; exact hz2 r hr), Nat.zero_xor] at e1
        have e2 : eu' q m = 0 := by unfold eu'; rw [if_neg (by omega)]
        rw [e2] at e1
        have hc0 : c = 0 := by
          apply Classical.byContradiction
          intro hne
          exact ht0 (mu_eq_zero hM hc htl hne e1.symm)
        refine hu.congr fun x hx => ?_
        rw [e x hx, hc0, zero_mu, Nat.xor_zero]
      omega
theorem Iso.sp {M D : Nat} {T S : (Nat → Nat) → Nat → Nat} (h : Iso M D T S) {A A' : (Nat → Nat) → Prop} (hA : ∀ s, A s → Vc M D s ∧ A' (T s)) {v : Nat → Nat} (hv : Sp M D A v) : Sp M D A' (T v) := by
  induction hv with
  | zero h0 => exact .zero fun x hx => h.zero h0 x hx
  | step h1 hs hc h2 ih =>
    rename_i u s v c
    obtain ⟨a1, a2⟩ := hA _ hs
    refine .step ih a2 hc fun x hx => ?_
    rw [h.congr _ _ h2 x hx, h.add u (fun k => mu M c (s k)) x hx, h.smul c s hc a1 x hx]
/-- A basis whose rows are spanned by p rows has at most p. -/
theorem Bas.dim {M D : Nat} {gen : List Nat} {hv : List Bool} {B : List Nat} {T S : (Nat → Nat) → Nat → Nat} (hM : FldM M) (h : Bas M D gen hv B T S) {w : Nat → Nat → Nat} {p : Nat} (hw : ∀ r, r < p → Vc M D (w r)) (hs : ∀ q, q < B.length → Sp M D (WS w p) (U D gen (B.getD q 0))) : B.length ≤ p := by
  refine steinitz hM p (fun r => T (w r)) B.length (fun r hr => h.iso.lt _ (hw r hr)) h.le fun q hq => ?_
  refine (h.iso.sp (A' := WS (fun r => T (w r)) p) (fun s ⟨r, hr, e⟩ => ⟨by rw [e]; exact hw r hr, ⟨r, hr, by rw [e]⟩⟩) (hs q hq)).congr fun x hx => ?_
  rw [h.unit q hq x hx]
  rfl
end Go.Proofs.YtjaipchlnnjaeaaDoor
end

section
/- Texts as lists of a field's elements; what a sound sum of units is: plain law. -/
namespace Go.Proofs.YtjaipchlnnjaeaaDoor
open Go.RowKit
set_option linter.unusedVariables false
set_option linter.unusedSectionVars false

theorem gt_id {D : Nat} : ∀ n, n ≤ D → ∀ r c, r < D → c < D → gt D (idAt D n) r c = if r < n ∧ r = c then 1 else 0
  | 0, _, r, c, _, _ => by
    rw [if_neg (by omega)]
    unfold gt idAt
    rw [List.getD_eq_getElem?_getD, List.getElem?_replicate]
    split <;> rfl
  | n + 1, hn, r, c, hr, hc => by
    rw [idAt, gt_set (R := D) (by rw [idAt_length]) (by omega) (by omega) hc, gt_id n (by omega) r c hr hc]
    by_cases h : r = n ∧ c = n
    · rw [if_pos h, if_pos (by omega)]
    · rw [if_neg h]
      by_cases h2 : r < n ∧ r = c
      · rw [if_pos h2, if_pos (by omega)]
      · rw [if_neg h2, if_neg (by omega)]
/-- A data unit's row is a unit vector. -/
theorem U_data {D : Nat} {ps : List (List Nat)} {u x : Nat} (hu : u < D) (hx : x < D) : U D (genN D ps) u x = eu' u x := by
  have h := gt_id D (Nat.le_refl _) u x hu hx
  unfold U gt genN
  unfold gt at h
  rw [List.getD_eq_getElem?_getD] at h ⊢
  rw [List.getElem?_append_left (by rw [idAt_length]; exact idx_lt hu hx), h]
  unfold eu'
  by_cases e : u = x
  · subst e; rw [if_pos ⟨hu, rfl⟩, if_pos rfl]
  · rw [if_neg (by omega), if_neg (fun e2 => e e2.symm)]
theorem flat_get {D x : Nat} (hx : x < D) : ∀ {ps : List (List Nat)} (_ : ∀ r ∈ ps, r.length = D) (i : Nat), i < ps.length → ps.flatten.getD (i * D + x) 0 = (ps.getD i []).getD x 0
  | [], _, i, h => by simp at h
  | r :: ps, hr, i, h => by
    have h0 := hr r (by simp)
    rw [List.flatten_cons, List.getD_eq_getElem?_getD]
    cases i with
    | zero => rw [List.getElem?_append_left (by omega), Nat.zero_mul, Nat.zero_add, ← List.getD_eq_getElem?_getD]; rfl
    | succ i =>
      have e : (i + 1) * D + x - r.length = i * D + x := by rw [Nat.add_mul]; omega
      rw [List.getElem?_append_right (by rw [Nat.add_mul]; omega), e, ← List.getD_eq_getElem?_getD, flat_get hx (fun s hs => hr s (by simp [hs])) i (by simpa using h)]
      rfl
/-- A parity unit's row. -/
theorem U_par {M D : Nat} {ps : List (List Nat)} (h : CodeOk M D ps) {i x : Nat} (hi : i < ps.length) (hx : x < D) : U D (genN D ps) (D + i) x = (ps.getD i []).getD x 0 := by
  rw [← flat_get hx (fun r hr => (h.row r hr).1) i hi]
  unfold U gt genN
  have e : (D + i) * D + x - (idAt D D).length = i * D + x := by rw [idAt_length, Nat.add_mul]; omega
  rw [List.getD_eq_getElem?_getD, List.getElem?_append_right (by rw [idAt_length, Nat.add_mul]; omega), e, ← List.getD_eq_getElem?_getD]
theorem U_ne {M D : Nat} {ps : List (List Nat)} (h : CodeOk M D ps) {u : Nat} (hu : u < D + ps.length) : ∃ x, x < D ∧ U D (genN D ps) u x ≠ 0 := by
  by_cases hd : u < D
  · exact ⟨u, hd, by rw [U_data hd hd]; simp [eu']⟩
  · obtain ⟨i, rfl⟩ : ∃ i, u = D + i := ⟨u - D, by omega⟩
    have hi : i < ps.length := by omega
    obtain ⟨h1, h2, y, h3, h4⟩ := h.row _ (List.getElem_mem hi)
    obtain ⟨x, hx, rfl⟩ := List.getElem_of_mem h3
    refine ⟨x, by omega, ?_⟩
    rw [U_par h hi (by omega), List.getD_eq_getElem?_getD (l := ps), List.getElem?_eq_getElem hi, Option.getD_some, List.getD_eq_getElem?_getD, List.getElem?_eq_getElem hx]
    exact h4

/-- The j-th element of a text. -/
def wd (M : Nat) (l : List Nat) (j : Nat) : Nat := if M = 8 then l.getD j 0 else 256 * l.getD (2 * j) 0 + l.getD (2 * j + 1) 0
theorem isB_getW {l : List Nat} (h : isB l) (j : Nat) : l.getD j 0 < 256 := by
  rw [List.getD_eq_getElem?_getD]
  by_cases hj : j < l.length
  · rw [List.getElem?_eq_getElem hj]; exact h _ (List.getElem_mem hj)
  · rw [List.getElem?_eq_none (by omega)]; show 0 < 256; omega
theorem wd_lt {M : Nat} (hM : FldM M) {l : List Nat} (h : isB l) (j : Nat) : wd M l j < 2 ^ M := by
  unfold wd
  rcases hM with rfl | rfl
  · rw [if_pos rfl]; exact isB_getW h j
  · rw [if_neg (by decide)]
    have := isB_getW h (2 * j)
    have := isB_getW h (2 * j + 1)
    show _ < 65536
    omega
theorem xorL_getW (a b : List Nat) (hl : a.length = b.length) (j : Nat) : (xorL a b).getD j 0 = a.getD j 0 ^^^ b.getD j 0 := by
  rw [List.getD_eq_getElem?_getD, List.getD_eq_getElem?_getD, List.getD_eq_getElem?_getD, xorL_get?]
  by_cases hj : j < a.length
  · rw [List.getElem?_eq_getElem hj, List.getElem?_eq_getElem (show j < b.length by omega)]; rfl
  · rw [List.getElem?_eq_none (show a.length ≤ j by omega), List.getElem?_eq_none (show b.length ≤ j by omega)]; rfl
theorem wd_xor (M : Nat) {a b : List Nat} (ha : isB a) (hb : isB b) (hl : a.length = b.length) (j : Nat) : wd M (xorL a b) j = wd M a j ^^^ wd M b j := by
  unfold wd
  split
  · exact xorL_getW a b hl j
  · rw [xorL_getW a b hl, xorL_getW a b hl, join_xor (isB_getW ha _) (isB_getW hb _)]
theorem scale16_getD (c : Nat) : ∀ (l : List Nat), l.length % 2 = 0 → ∀ j, 256 * (scale16 c l).getD (2 * j) 0 + (scale16 c l).getD (2 * j + 1) 0 = mu 16 c (256 * l.getD (2 * j) 0 + l.getD (2 * j + 1) 0)
  | [], _, j => by simp [scale16, mu_zero]
  | [_], h, _ => by simp at h
  | a :: b :: l, h, j => by
    simp only [scale16]
    cases j with
    | zero =>
      show 256 * (Gf.mul 16 (modN 16) c (256 * a + b) / 256) + Gf.mul 16 (modN 16) c (256 * a + b) % 256 = Gf.mul 16 (modN 16) c (256 * a + b)
      omega
    | succ j =>
      have ih := scale16_getD c l (by rw [List.length_cons, List.length_cons] at h; omega) j
      have e1 : 2 * (j + 1) = 2 * j + 1 + 1 := by omega
      rw [e1]
      simpa using ih
theorem wd_scale {M c : Nat} (hM : FldM M) {l : List Nat} (he : FitM M l.length) (j : Nat) : wd M (scaleM M c l) j = mu M c (wd M l j) := by
  unfold wd scaleM
  rcases hM with rfl | rfl
  · rw [if_pos rfl, if_pos rfl, if_pos rfl]
    unfold scale8
    rw [List.getD_eq_getElem?_getD, List.getD_eq_getElem?_getD, List.getElem?_map]
    cases l[j]? with
    | none => exact (mu_zero c).symm
    | some x => rfl
  · rw [if_neg (by decide), if_neg (by decide), if_neg (by decide)]
    exact scale16_getD c l (he rfl) j
theorem wd_zero (M n j : Nat) : wd M (List.replicate n 0) j = 0 := by
  have h : ∀ i, (List.replicate n 0).getD i 0 = 0 := fun i => by
    rw [List.getD_eq_getElem?_getD, List.getElem?_replicate]; split <;> rfl
  unfold wd
  rw [h, h, h]
  split <;> rfl
theorem wd_ext {M : Nat} (hM : FldM M) {a b : List Nat} (ha : isB a) (hb : isB b) (hl : a.length = b.length) (he : FitM M a.length) (h : ∀ j, wd M a j = wd M b j) : a = b := by
  apply List.ext_getElem hl
  intro k h1 h2
  have key : a.getD k 0 = b.getD k 0 := by
    rcases hM with rfl | rfl
    · exact h k
    · have h3 := h (k / 2)
      unfold wd at h3
      rw [if_neg (by decide), if_neg (by decide)] at h3
      have a1 := isB_getW ha (2 * (k / 2))
      have a2 := isB_getW ha (2 * (k / 2) + 1)
      have b1 := isB_getW hb (2 * (k / 2))
      have b2 := isB_getW hb (2 * (k / 2) + 1)
      by_cases e : k % 2 = 0
      · have : k = 2 * (k / 2) := by omega
        rw [this]; omega
      · have : k = 2 * (k / 2) + 1 := by omega
        rw [this]; omega
  rw [List.getD_eq_getElem?_getD, List.getD_eq_getElem?_getD, List.getElem?_eq_getElem h1, List.getElem?_eq_getElem h2] at key
  exact key
/-- The sum over a list. -/
def lx {α : Type} (f : α → Nat) : List α → Nat
  | [] => 0
  | a :: l => f a ^^^ lx f l
theorem lx_append {α : Type} (f : α → Nat) : ∀ l l' : List α, lx f (l ++ l') = lx f l ^^^ lx f l'
  | [], l' => by simp [lx]
  | a :: l, l' => by rw [List.cons_append, lx, lx, lx_append f l l', Nat.xor_assoc]
theorem lx_congr {α : Type} {f g : α → Nat} : ∀ {l : List α}, (∀ a ∈ l, f a = g a) → lx f l = lx g l
  | [], _ => rfl
  | a :: l, h => by rw [lx, lx, h a (by simp), lx_congr fun b hb => h b (by simp [hb])]
theorem wd_comb {M n : Nat} (hM : FldM M) (he : FitM M n) {α : Type} (c : α → Nat) (f : α → List Nat) (j : Nat) : ∀ (l : List α) (acc : List Nat), (∀ a ∈ l, c a < 2 ^ M ∧ isB (f a) ∧ (f a).length = n) → isB acc → acc.length = n →
    wd M (combM M n (l.map c) (l.map f) acc) j = wd M acc j ^^^ lx (fun a => mu M (c a) (wd M (f a) j)) l
  | [], acc, _, _, _ => by simp [combM, lx]
  | a :: l, acc, h, h1, h2 => by
    obtain ⟨g1, g2, g3⟩ := h a (by simp)
    have hs : (scaleM M (c a) (f a)).length = n := by rw [scaleM_length hM (by rw [g3]; exact he)]; exact g3
    have hb := isB_scaleM (l := f a) hM g1
    rw [List.map_cons, List.map_cons, combM, wd_comb hM he c f j l _ (fun b hb => h b (by simp [hb])) (isB_xor h1 hb) (by rw [xorL_length _ _ (by omega)]; exact h2), wd_xor M h1 hb (by omega), wd_scale hM (by rw [g3]; exact he), lx, Nat.xor_assoc]
theorem comb_idx {M n : Nat} (cs : List Nat) (us : List (List Nat)) (acc : List Nat) (h : cs.length = us.length) : combM M n cs us acc = combM M n ((List.range cs.length).map fun q => cs.getD q 0) ((List.range cs.length).map fun q => us.getD q []) acc := by
  have e1 : (List.range cs.length).map (fun q => cs.getD q 0) = cs := by
    apply List.ext_getElem (by simp)
    intro i h1 h2
    simp [List.getD_eq_getElem?_getD, h2]
  have e2 : (List.range cs.length).map (fun q => us.getD q []) = us := by
    apply List.ext_getElem (by simp [h])
    intro i h1 h2
    simp [List.getD_eq_getElem?_getD, h2]
  rw [e1, e2]
theorem lx_range (f : Nat → Nat) : ∀ n, lx f (List.range n) = sg f n
  | 0 => rfl
  | n + 1 => by rw [List.range_succ, lx_append, lx_range f n]; simp [lx, sg]
theorem mem_isB {us : List (List Nat)} {n : Nat} (hu : ∀ u ∈ us, isB u ∧ u.length = n) {q : Nat} (hq : q < us.length) : isB (us.getD q []) ∧ (us.getD q []).length = n := by
  rw [List.getD_eq_getElem?_getD, List.getElem?_eq_getElem hq]
  exact hu _ (List.getElem_mem hq)
section
variable {M D n : Nat} {ps us : List (List Nat)} (h : CodeOk M D ps) (hl : us.length = D) (hu : ∀ u ∈ us, isB u ∧ u.length = n) (he : FitM M n)
include h hl hu he
/-- An element of a unit of a stripe. -/
theorem wd_enc {u : Nat} (hlt : u < D + ps.length) (j : Nat) : wd M ((encN M ps us).getD u []) j = sg (fun x => mu M (U D (genN D ps) u x) (wd M (us.getD x []) j)) D := by
  have hM := h.f
  by_cases hd : u < D
  · rw [sg_congr D (fun x hx => show _ = if x = u then wd M (us.getD u []) j else 0 by
      rw [U_data hd hx]
      unfold eu'
      by_cases e : x = u
      · subst e
        rw [if_pos rfl, if_pos rfl, one_mu hM (wd_lt hM (mem_isB hu (by omega)).1 j)]
      · rw [if_neg e, if_neg e, zero_mu]), sg_one (k := u) D (fun x _ hne => if_neg hne), if_pos hd, if_pos rfl]
    congr 1
    unfold encN
    rw [List.getD_eq_getElem?_getD, List.getElem?_append_left (by omega), ← List.getD_eq_getElem?_getD]
  · obtain ⟨i, rfl⟩ : ∃ i, u = D + i := ⟨u - D, by omega⟩
    have hi : i < ps.length := by omega
    have h1 := h.d
    have hn : (us.headD []).length = n := headD_len (fun u hx => (hu u hx).2) (by omega)
    have e0 : (encN M ps us).getD (D + i) [] = combM M n ps[i] us (List.replicate n 0) := by
      unfold encN
      rw [List.getD_eq_getElem?_getD, List.getElem?_append_right (by omega), show D + i - us.length = i by omega, List.getElem?_map, List.getElem?_eq_getElem hi, hn]
      rfl
    obtain ⟨r1, r2, _⟩ := h.row _ (List.getElem_mem hi)
    rw [e0, comb_idx _ _ _ (by omega), wd_comb hM he _ _ j (List.range ps[i].length) _ (fun q hq => ⟨getD_lt r2 _, mem_isB hu (by have := List.mem_range.1 hq; omega)⟩) (isB_zero n) (by simp), wd_zero, Nat.zero_xor, r1, lx_range]
    refine sg_congr D fun x hx => ?_
    rw [U_par h hi hx, List.getD_eq_getElem?_getD (l := ps), List.getElem?_eq_getElem hi]
    rfl
end
/-- Terms whose sum is a unit. -/
def Sound (M D : Nat) (ps : List (List Nat)) (u : Nat) (l : List (Nat × Nat)) : Prop := ∀ x, x < D → lx (fun t => mu M t.2 (U D (genN D ps) t.1 x)) l = U D (genN D ps) u x
theorem lx_sg {M D : Nat} {G : Nat → Nat → Nat} {w : Nat → Nat} (hM : FldM M) (hG : ∀ u, Vc M D (G u)) (hw : ∀ x, x < D → w x < 2 ^ M) : ∀ l : List (Nat × Nat), (∀ t ∈ l, t.2 < 2 ^ M) → lx (fun t => mu M t.2 (sg (fun x => mu M (G t.1 x) (w x)) D)) l = sg (fun x => mu M (lx (fun t => mu M t.2 (G t.1 x)) l) (w x)) D
  | [], _ => by
    rw [sg_congr D (fun x _ => show mu M (lx _ []) (w x) = 0 from zero_mu _), sg_zero]; rfl
  | t :: l, h => by
    rw [lx, lx_sg hM hG hw l (fun s hs => h s (by simp [hs])), sg_mu, ← sg_xor]
    refine sg_congr D fun x hx => ?_
    rw [lx, xor_mu, mu_assoc hM (h t (by simp)) (hG _ x hx) (hw x hx)]
section
variable {M D n : Nat} {ps us : List (List Nat)} (h : CodeOk M D ps) (hl : us.length = D) (hu : ∀ u ∈ us, isB u ∧ u.length = n) (he : FitM M n)
include h hl hu he
/-- A sound sum of a stripe's units is the unit. -/
theorem sum_sound {u : Nat} (hlt : u < D + ps.length) {l : List (Nat × Nat)} (hs : Sound M D ps u l) {vs : List (List Nat)} (ht : ∀ t ∈ l, t.2 < 2 ^ M ∧ t.1 < D + ps.length ∧ vs.getD t.1 [] = (encN M ps us).getD t.1 []) : sumN M n vs l = (encN M ps us).getD u [] := by
  have hM := h.f
  have hst : ∀ k, k < D + ps.length → isB ((encN M ps us).getD k []) ∧ ((encN M ps us).getD k []).length = n := fun k hk => mem_isB (encN_ok h hl hu he) (by rw [encN_length]; omega)
  have hcl : ∀ t ∈ l, t.2 < 2 ^ M ∧ isB (vs.getD t.1 []) ∧ (vs.getD t.1 []).length = n := fun t htm => by
    obtain ⟨h1, h2, h3⟩ := ht t htm
    rw [h3]; exact ⟨h1, hst _ h2⟩
  obtain ⟨c1, c2⟩ := combM_ok hM he (l.map (·.2)) (l.map fun t => vs.getD t.1 []) (List.replicate n 0) (fun c hc => by
    obtain ⟨t, htm, rfl⟩ := List.mem_map.1 hc; exact (ht t htm).1) (fun v hv => by
    obtain ⟨t, htm, rfl⟩ := List.mem_map.1 hv; exact (hcl t htm).2.2) (isB_zero n) (by simp)
  obtain ⟨s1, s2⟩ := hst u hlt
  refine wd_ext hM c1 s1 (by rw [s2]; exact c2) (by rw [show (sumN M n vs l).length = n from c2]; exact he) fun j => ?_
  unfold sumN
  rw [wd_comb hM he (fun t : Nat × Nat => t.2) (fun t => vs.getD t.1 []) j l _ hcl (isB_zero n) (by simp), wd_zero, Nat.zero_xor]
  rw [lx_congr (g := fun t => mu M t.2 (sg (fun x => mu M (U D (genN D ps) t.1 x) (wd M (us.getD x []) j)) D)) fun t htm => by
    obtain ⟨h1, h2, h3⟩ := ht t htm
    rw [h3, wd_enc h hl hu he h2]]
  rw [lx_sg (G := fun u => U D (genN D ps) u) hM (U_all h) (fun x hx => wd_lt hM (mem_isB hu (by omega)).1 j) l (fun t htm => (ht t htm).1), wd_enc h hl hu he hlt]
  exact sg_congr D fun x hx => by rw [hs x hx]
end
theorem lx_tms (M : Nat) (B K : List Nat) (G : Nat → Nat) : ∀ n, lx (fun t => mu M t.2 (G t.1)) (tmsAt B K n) = sg (fun q => mu M (K.getD q 0) (G (B.getD q 0))) n
  | 0 => rfl
  | n + 1 => by
    rw [tmsAt_succ, sg]
    split
    · rename_i e
      rw [e, zero_mu, Nat.xor_zero]; exact lx_tms M B K G n
    · rw [lx_append, lx_tms M B K G n]
      simp [lx]
/-- What holds of a recoverable unit's terms. -/
structure CombOk (M D : Nat) (ps : List (List Nat)) (hv : List Bool) (u : Nat) (l : List (Nat × Nat)) : Prop where
  snd : Sound M D ps u l
  lt : ∀ t ∈ l, t.2 < 2 ^ M ∧ t.2 ≠ 0
  pres : ∀ t ∈ l, hv.getD t.1 false = true
  inc : l.Pairwise fun a b => a.1 < b.1
  le : l.length ≤ (basisN M D ps hv).length
theorem comb_ok {M D : Nat} {ps : List (List Nat)} {hv : List Bool} (h : CodeOk M D ps) (hl : hv.length = D + ps.length) {u : Nat} (hu : u < D + ps.length) {l : List (Nat × Nat)} (hc : combN M D ps hv u = some l) : CombOk M D ps hv u l := by
  obtain ⟨K, k1, k2, rfl, k4⟩ := comb_some h hl hu hc
  obtain ⟨T, S, hb⟩ := basis_to h hl
  have hmem : ∀ t ∈ tmsAt (basisN M D ps hv) K (basisN M D ps hv).length, ∃ q, q < (basisN M D ps hv).length ∧ K.getD q 0 ≠ 0 ∧ t = ((basisN M D ps hv).getD q 0, K.getD q 0) := fun t ht => by
    unfold tmsAt at ht
    obtain ⟨q, hq, rfl⟩ := List.mem_map.1 ht
    obtain ⟨q1, q2⟩ := List.mem_filter.1 hq
    exact ⟨q, List.mem_range.1 q1, by simpa using q2, rfl⟩
  refine ⟨fun x hx => ?_, fun t ht => ?_, fun t ht => ?_, ?_, tmsAt_length _ _ _⟩
  · rw [lx_tms M (basisN M D ps hv) K (fun u => U D (genN D ps) u x), k4 x hx]
  · obtain ⟨q, q1, q2, rfl⟩ := hmem t ht
    exact ⟨getD_lt k2 _, q2⟩
  · obtain ⟨q, q1, q2, rfl⟩ := hmem t ht
    exact hb.mem q q1
  · unfold tmsAt
    rw [List.pairwise_map]
    refine (List.Pairwise.filter _ List.pairwise_lt_range).imp_of_mem fun {a b} ha hb2 hab => ?_
    have hb3 := List.mem_range.1 (List.mem_filter.1 hb2).1
    exact hb.inc a b hab hb3
/-- A recoverable unit has terms. -/
theorem CombOk.pos {M D : Nat} {ps : List (List Nat)} {hv : List Bool} (h : CodeOk M D ps) {u : Nat} (hu : u < D + ps.length) {l : List (Nat × Nat)} (hc : CombOk M D ps hv u l) : 0 < l.length := by
  cases l with
  | nil =>
    obtain ⟨x, hx, hne⟩ := U_ne h hu
    exact absurd (hc.snd x hx).symm hne
  | cons a l => simp
end Go.Proofs.YtjaipchlnnjaeaaDoor
end
