import Derived.Test.YtaclmbbiegklcaaDoorMHealthSteps3
import Derived.WalkKit
import Derived.Laws.CopyRow
import Derived.Laws.IdiomCopy
import Derived.Shelf.Strings.Repeat
import Derived.Shelf.Bits.Mul64
import Derived.Test.YtaclmbbiegklcaaDoorProg
/- Joined texts: La2 La3 La4 La5 La6 La7 Ds1 Ds2 Rp2 Rp3 Xp3 St1 St2 Ds3 Ds4 Ds5 Ds6 Kern43 Shf Ds7. -/
set_option linter.unusedVariables false
set_option linter.unusedSimpArgs false
section
/- Row operations as maps of columns; what reduce leaves. Plain. -/
namespace Go.Proofs.YtaclmbbiegklcaaDoor
open Go.RowKit
set_option linter.unusedSectionVars false
structure Iso (M D : Nat) (T S : (Nat → Nat) → Nat → Nat) : Prop where
  congr : ∀ u v, (∀ i, i < D → u i = v i) → ∀ i, i < D → T u i = T v i
  congrS : ∀ u v, (∀ i, i < D → u i = v i) → ∀ i, i < D → S u i = S v i
  lt : ∀ v, Vc M D v → Vc M D (T v)
  ltS : ∀ v, Vc M D v → Vc M D (S v)
  add : ∀ u v i, i < D → T (fun k => u k ^^^ v k) i = T u i ^^^ T v i
  smul : ∀ c v, c < 2 ^ M → Vc M D v → ∀ i, i < D → T (fun k => mu M c (v k)) i = mu M c (T v i)
  ts : ∀ v, Vc M D v → ∀ i, i < D → T (S v) i = v i
  st : ∀ v, Vc M D v → ∀ i, i < D → S (T v) i = v i
theorem Iso.id (M D : Nat) : Iso M D (fun v => v) (fun v => v) := ⟨fun _ _ h => h, fun _ _ h => h, fun _ h => h, fun _ h => h, fun _ _ _ _ => rfl, fun _ _ _ _ _ _ => rfl, fun _ _ _ _ => rfl, fun _ _ _ _ => rfl⟩
section
variable {M D : Nat} {T S T' S' : (Nat → Nat) → Nat → Nat}
theorem Iso.comp (h' : Iso M D T' S') (h : Iso M D T S) : Iso M D (fun v => T' (T v)) (fun v => S (S' v)) where
  congr u v e := h'.congr _ _ (h.congr u v e)
  congrS u v e := h.congrS _ _ (h'.congrS u v e)
  lt v hv := h'.lt _ (h.lt v hv)
  ltS v hv := h.ltS _ (h'.ltS v hv)
  add u v i hi := by
    rw [h'.congr _ _ (fun k hk => h.add u v k hk) i hi]
    exact h'.add _ _ i hi
  smul c v hc hv i hi := by
    rw [h'.congr _ _ (fun k hk => h.smul c v hc hv k hk) i hi]
    exact h'.smul c _ hc (h.lt v hv) i hi
  ts v hv i hi := by
    rw [h'.congr _ _ (fun k hk => h.ts _ (h'.ltS v hv) k hk) i hi]
    exact h'.ts v hv i hi
  st v hv i hi := by
    rw [h.congrS _ _ (fun k hk => h'.st _ (h.lt v hv) k hk) i hi]
    exact h.st v hv i hi
theorem Iso.zero (h : Iso M D T S) {v : Nat → Nat} (hv : ∀ i, i < D → v i = 0) (i : Nat) (hi : i < D) : T v i = 0 := by
  have h1 := h.add v v i hi
  rw [Nat.xor_self] at h1
  rw [← h1]
  exact h.congr _ _ (fun k hk => by rw [hv k hk, Nat.xor_self]) i hi
theorem Iso.sum (h : Iso M D T S) {c : Nat → Nat} {w : Nat → Nat → Nat} : ∀ n, (∀ j, j < n → c j < 2 ^ M ∧ Vc M D (w j)) → ∀ i, i < D → T (fun x => sg (fun j => mu M (c j) (w j x)) n) i = sg (fun j => mu M (c j) (T (w j) i)) n
  | 0, _, i, hi => h.zero (fun _ _ => rfl) i hi
  | n + 1, hc, i, hi => by
    show T (fun x => sg (fun j => mu M (c j) (w j x)) n ^^^ mu M (c n) (w n x)) i = _
    rw [h.add (fun x => sg (fun j => mu M (c j) (w j x)) n) (fun x => mu M (c n) (w n x)) i hi, Iso.sum h n (fun j hj => hc j (by omega)) i hi, h.smul _ _ (hc n (by omega)).1 (hc n (by omega)).2 i hi]
    rfl
theorem Iso.inj (h : Iso M D T S) {u v : Nat → Nat} (hu : Vc M D u) (hv : Vc M D v) (e : ∀ i, i < D → T u i = T v i) : ∀ i, i < D → u i = v i := fun i hi => by
  rw [← h.st u hu i hi, ← h.st v hv i hi]
  exact h.congrS _ _ e i hi
theorem iso_swap {i k : Nat} (hi : i < D) (hk : k < D) : Iso M D (fun v r => if r = i then v k else if r = k then v i else v r) (fun v r => if r = i then v k else if r = k then v i else v r) where
  congr u v e r hr := by
    (try dsimp only)
    split
    · exact e k hk
    · split
      · exact e i hi
      · exact e r hr
  congrS u v e r hr := by
    (try dsimp only)
    split
    · exact e k hk
    · split
      · exact e i hi
      · exact e r hr
  lt v hv r hr := by
    (try dsimp only)
    split
    · exact hv k hk
    · split
      · exact hv i hi
      · exact hv r hr
  ltS v hv r hr := by
    (try dsimp only)
    split
    · exact hv k hk
    · split
      · exact hv i hi
      · exact hv r hr
  add u v r hr := by
    (try dsimp only)
    split
    · rfl
    · split <;> rfl
  smul c v hc hv r hr := by
    (try dsimp only)
    split
    · rfl
    · split <;> rfl
  ts v hv r hr := by
    (try dsimp only)
    by_cases h1 : r = i
    · subst h1
      by_cases h2 : k = r
      · subst h2; simp
      · simp [h2]
    · by_cases h2 : r = k
      · subst h2; simp [h1]
      · simp [h1, h2]
  st v hv r hr := by
    (try dsimp only)
    by_cases h1 : r = i
    · subst h1
      by_cases h2 : k = r
      · subst h2; simp
      · simp [h2]
    · by_cases h2 : r = k
      · subst h2; simp [h1]
      · simp [h1, h2]
theorem iso_scale (hM : FldM M) {p f g : Nat} (hp : p < D) (hf : f < 2 ^ M) (hg : g < 2 ^ M) (h1 : mu M f g = 1) : Iso M D (fun v r => if r = p then mu M f (v p) else v r) (fun v r => if r = p then mu M g (v p) else v r) where
  congr u v e r hr := by
    show (if _ then _ else _) = if _ then _ else _
    split
    · rw [e p hp]
    · exact e r hr
  congrS u v e r hr := by
    show (if _ then _ else _) = if _ then _ else _
    split
    · rw [e p hp]
    · exact e r hr
  lt v hv r hr := by
    (try dsimp only)
    split
    · exact mu_lt hM hf _
    · exact hv r hr
  ltS v hv r hr := by
    (try dsimp only)
    split
    · exact mu_lt hM hg _
    · exact hv r hr
  add u v r hr := by
    (try dsimp only)
    split
    · exact mu_xor _ _ _
    · rfl
  smul c v hc hv r hr := by
    (try dsimp only)
    split
    · rw [← mu_assoc hM hf hc (hv p hp), mu_comm hM hf hc, mu_assoc hM hc hf (hv p hp)]
    · rfl
  ts v hv r hr := by
    (try dsimp only)
    by_cases h : r = p
    · subst h
      rw [if_pos rfl, if_pos rfl, ← mu_assoc hM hf hg (hv r hr), h1, one_mu hM (hv r hr)]
    · rw [if_neg h, if_neg h]
  st v hv r hr := by
    (try dsimp only)
    by_cases h : r = p
    · subst h
      rw [if_pos rfl, if_pos rfl, ← mu_assoc hM hg hf (hv r hr), mu_comm hM hg hf, h1, one_mu hM (hv r hr)]
    · rw [if_neg h, if_neg h]
theorem iso_clear (hM : FldM M) {p : Nat} {g : Nat → Nat} (hp : p < D) (hg : ∀ r, r < D → g r < 2 ^ M) : Iso M D (fun v r => if r = p then v p else v r ^^^ mu M (g r) (v p)) (fun v r => if r = p then v p else v r ^^^ mu M (g r) (v p)) where
  congr u v e r hr := by
    (try dsimp only)
    split
    · exact e p hp
    · rw [e r hr, e p hp]
  congrS u v e r hr := by
    (try dsimp only)
    split
    · exact e p hp
    · rw [e r hr, e p hp]
  lt v hv r hr := by
    (try dsimp only)
    split
    · exact hv p hp
    · exact xor_lt' (hv r hr) (mu_lt hM (hg r hr) _)
  ltS v hv r hr := by
    (try dsimp only)
    split
    · exact hv p hp
    · exact xor_lt' (hv r hr) (mu_lt hM (hg r hr) _)
  add u v r hr := by
    (try dsimp only)
    split
    · rfl
    · rw [mu_xor]; exact Gf.xor4 _ _ _ _
  smul c v hc hv r hr := by
    (try dsimp only)
    split
    · rfl
    · rw [mu_xor, ← mu_assoc hM (hg r hr) hc (hv p hp), mu_comm hM (hg r hr) hc, mu_assoc hM hc (hg r hr) (hv p hp)]
  ts v hv r hr := by
    (try dsimp only)
    by_cases h : r = p
    · subst h; simp
    · rw [if_neg h, if_neg h, if_pos rfl, xor_self_cancel]
  st v hv r hr := by
    (try dsimp only)
    by_cases h : r = p
    · subst h; simp
    · rw [if_neg h, if_neg h, if_pos rfl, xor_self_cancel]
end
structure RedTo (M R C n : Nat) (L A : List Nat) (pv : List Nat) (T S : (Nat → Nat) → Nat → Nat) : Prop where
  iso : Iso M R T S
  col : ∀ c, c < C → ∀ r, r < R → gt C A r c = T (fun r => gt C L r c) r
  piv : ∀ q, q < pv.length → pv.getD q 0 < n ∧ ∀ r, r < R → gt C A r (pv.getD q 0) = if r = q then 1 else 0
  inc : ∀ q q', q < q' → q' < pv.length → pv.getD q 0 < pv.getD q' 0
  low : ∀ j, j < n → ∀ r, r < R → gt C A r j ≠ 0 → r < pv.length ∧ pv.getD r 0 ≤ j
theorem getD_app {α : Type} (l : List α) (x d : α) (q : Nat) : (l ++ [x]).getD q d = if q < l.length then l.getD q d else if q = l.length then x else d := by
  simp only [List.getD_eq_getElem?_getD]
  by_cases h : q < l.length
  · rw [if_pos h, List.getElem?_append_left h]
  · rw [if_neg h, List.getElem?_append_right (by omega)]
    by_cases e : q = l.length
    · subst e; simp
    · rw [if_neg e]
      have : q - l.length ≠ 0 := by omega
      obtain ⟨m, hm⟩ := Nat.exists_eq_succ_of_ne_zero this
      rw [hm]; simp
theorem red_to {M R C : Nat} {L : List Nat} (hM : FldM M) (hn : L.length = R * C) (hL : ∀ x ∈ L, x < 2 ^ M) : ∀ n, n ≤ C → ∃ T S, RedTo M R C n L (red M R C L n).1 (red M R C L n).2 T S
  | 0, _ => ⟨_, _, Iso.id M R, fun _ _ _ _ => rfl, fun q hq => by simp [red] at hq, fun q q' _ hq => by simp [red] at hq, fun j hj => by omega⟩
  | n + 1, hnC => by
    obtain ⟨T, S, ih⟩ := red_to hM hn hL n (by omega)
    have hok := red_ok hM hn hL n
    rw [red]
    generalize red M R C L n = s at ih hok
    obtain ⟨A, pv⟩ := s
    have h1 := hok.len
    have h2 := hok.lt
    have h3 := hok.pr
    dsimp only at ih h1 h2 h3
    have hf := findP_le n A (R - pv.length) pv.length (C := C)
    have hs := findP_spec (C := C) (L := A) n (R - pv.length) pv.length
    rw [redStep]
    dsimp only
    generalize findP C n A (R - pv.length) pv.length = i at hf hs
    have hAl : ∀ r c, gt C A r c < 2 ^ M := fun r c => getD_lt h2 _
    by_cases hiR : i = R
    · rw [if_pos hiR]
      refine ⟨T, S, ih.iso, ih.col, fun q hq => ⟨Nat.lt_succ_of_lt (ih.piv q hq).1, (ih.piv q hq).2⟩, ih.inc, fun j hj r hr h0 => ?_⟩
      by_cases hjn : j < n
      · exact ih.low j hjn r hr h0
      · have : j = n := by omega
        subst this
        by_cases hrp : r < pv.length
        · exact ⟨hrp, Nat.le_of_lt (ih.piv r hrp).1⟩
        · exact absurd (hs.1 r (by omega) (by omega)) h0
    · rw [if_neg hiR]
      have hiR' : i < R := by omega
      have hp : pv.length < R := by omega
      have hne := hs.2 (by omega)
      have hnC' : n < C := by omega
      have s1 : ∀ r c, c < C → gt C (swapAt (i * C) (pv.length * C) A C) r c = if r = i then gt C A pv.length c else if r = pv.length then gt C A i c else gt C A r c := fun r c hc => gt_swap h1 hiR' hp hc
      have l1 : (swapAt (i * C) (pv.length * C) A C).length = R * C := by rw [swapAt_length]; exact h1
      have b1 : ∀ x ∈ swapAt (i * C) (pv.length * C) A C, x < 2 ^ M := swapAt_lt _ _ h2 _
      have hx : gt C (swapAt (i * C) (pv.length * C) A C) pv.length n = gt C A i n := by
        rw [s1 _ _ hnC']
        by_cases e : pv.length = i
        · rw [if_pos e, e]
        · rw [if_neg e, if_pos rfl]
      have hxe : (swapAt (i * C) (pv.length * C) A C).getD (pv.length * C + n) 0 = gt C A i n := hx
      rw [hxe]
      generalize swapAt (i * C) (pv.length * C) A C = L1 at *
      have hxl := hAl i n
      obtain ⟨v1, v2⟩ := inv_mu hM hne hxl
      have hvl : invN M (gt C A i n) < 2 ^ M := invN_lt _
      generalize invN M (gt C A i n) = f at *
      generalize hxx : gt C A i n = x at *
      have s2 : ∀ r c, c < C → gt C (scaleAt M f (pv.length * C) L1 C) r c = if r = pv.length then mu M f (gt C L1 pv.length c) else gt C L1 r c := fun r c hc => gt_scale l1 hp hc
      have l2 : (scaleAt M f (pv.length * C) L1 C).length = R * C := by rw [scaleAt_length]; exact l1
      have b2 : ∀ y ∈ scaleAt M f (pv.length * C) L1 C, y < 2 ^ M := scaleAt_lt hM hvl _ b1 _
      generalize scaleAt M f (pv.length * C) L1 C = L2 at *
      have s3 : ∀ r c, r < R → c < C → gt C (clearAt M C n pv.length L2 R) r c = if r = pv.length then gt C L2 pv.length c else gt C L2 r c ^^^ mu M (gt C L2 r n) (gt C L2 pv.length c) := fun r c hr hc => gt_clear l2 hnC' hr hc
      generalize clearAt M C n pv.length L2 R = A2 at *
      have hg2 : ∀ r, r < R → gt C L2 r n < 2 ^ M := fun r _ => getD_lt b2 _
      -- the column of an earlier pivot or of none: nothing changes there
      have keep : ∀ c, c < C → (∀ r, pv.length ≤ r → r < R → gt C A r c = 0) → ∀ r, r < R → gt C A2 r c = gt C A r c := fun c hc hz r hr => by
        have z1 : ∀ r, r < R → gt C L1 r c = gt C A r c := fun r hr => by
          rw [s1 r c hc]
          by_cases e1 : r = i
          · rw [if_pos e1, e1, hz _ (Nat.le_refl _) hp, hz i (by omega) hiR']
          · rw [if_neg e1]
            by_cases e2 : r = pv.length
            · rw [if_pos e2, e2, hz _ (Nat.le_refl _) hp, hz i (by omega) hiR']
            · rw [if_neg e2]
        have z2 : ∀ r, r < R → gt C L2 r c = gt C A r c := fun r hr => by
          rw [s2 r c hc]
          by_cases e2 : r = pv.length
          · rw [if_pos e2, z1 _ hp, e2, hz _ (Nat.le_refl _) hp, mu_zero]
          · rw [if_neg e2, z1 r hr]
        rw [s3 r c hr hc]
        by_cases e2 : r = pv.length
        · rw [if_pos e2, e2, z2 _ hp]
        · rw [if_neg e2, z2 r hr, z2 _ hp, hz _ (Nat.le_refl _) hp, mu_zero, Nat.xor_zero]
      have pivn : ∀ r, r < R → gt C A2 r n = if r = pv.length then 1 else 0 := fun r hr => by
        have e0 : gt C L2 pv.length n = 1 := by rw [s2 _ _ hnC', if_pos rfl, hx]; exact v1
        rw [s3 r n hr hnC', e0]
        by_cases e2 : r = pv.length
        · rw [if_pos e2, if_pos e2]
        · rw [if_neg e2, if_neg e2, mu_one hM (hg2 r hr), Nat.xor_self]
      have i1 := iso_swap (M := M) (D := R) hiR' hp
      have i2 := iso_scale (M := M) (D := R) hM hp hvl hxl v1
      have i3 := iso_clear (M := M) (D := R) hM hp hg2
      have i4 := (i3.comp (i2.comp i1)).comp ih.iso
      refine ⟨_, _, i4, fun c hc r hr => ?_, fun q hq => ?_, fun q q' hqq hq => ?_, fun j hj r hr h0 => ?_⟩
      · have e1 : ∀ k, k < R → gt C A k c = T (fun r => gt C L r c) k := ih.col c hc
        have := (i3.comp (i2.comp i1)).congr _ _ e1 r hr
        rw [← this]
        rw [s3 r c hr hc, s2 _ _ hc, s2 _ _ hc, s1 _ _ hc, s1 _ _ hc]
      · rw [List.length_append, List.length_singleton] at hq
        rw [getD_app]
        by_cases hq1 : q < pv.length
        · rw [if_pos hq1]
          obtain ⟨q1, q2⟩ := ih.piv q hq1
          refine ⟨by omega, fun r hr => ?_⟩
          rw [keep _ (by omega) (fun r h4 h5 => by rw [q2 r h5, if_neg (by omega)]) r hr, q2 r hr]
        · have : q = pv.length := by omega
          subst this
          rw [if_neg (by omega), if_pos rfl]
          exact ⟨by omega, pivn⟩
      · rw [List.length_append, List.length_singleton] at hq
        rw [getD_app, getD_app, if_pos (by omega)]
        by_cases hq1 : q' < pv.length
        · rw [if_pos hq1]; exact ih.inc q q' hqq hq1
        · rw [if_neg hq1, if_pos (by omega)]
          exact (ih.piv q (by omega)).1
      · rw [List.length_append, List.length_singleton]
        by_cases hjn : j < n
        · have hz : ∀ r, pv.length ≤ r → r < R → gt C A r j = 0 := fun r h4 h5 => by
            by_cases e : gt C A r j = 0
            · exact e
            · have := (ih.low j hjn r h5 e).1; (try dsimp only at this); omega
          rw [keep j (by omega) hz r hr] at h0
          have := ih.low j hjn r hr h0
          (try dsimp only at this)
          refine ⟨by omega, ?_⟩
          rw [getD_app, if_pos this.1]; exact this.2
        · have : j = n := by omega
          subst this
          rw [pivn r hr] at h0
          have e : r = pv.length := by
            by_cases e : r = pv.length
            · exact e
            · rw [if_neg e] at h0; exact absurd rfl h0
          subst e
          refine ⟨by omega, ?_⟩
          rw [getD_app, if_neg (by omega), if_pos rfl]
          exact Nat.le_refl _
end Go.Proofs.YtaclmbbiegklcaaDoor
end
section
/- The basis of the present units: plain law. -/
namespace Go.Proofs.YtaclmbbiegklcaaDoor
open Go.RowKit
set_option linter.unusedSectionVars false
theorem gt_trAt {R C : Nat} {L B : List Nat} (hB : B.length = C * R) : ∀ n, n ≤ R * C → ∀ r c, r < R → c < C → gt R (trAt R C L B n) c r = if r * C + c < n then gt C L r c else gt R B c r
  | 0, _, r, c, _, _ => by rw [if_neg (by omega)]; rfl
  | n + 1, hn, r, c, hr, hc => by
    have ih := gt_trAt (L := L) hB n (by omega) r c hr hc
    have hC : 0 < C := by omega
    have h1 : n % C < C := Nat.mod_lt _ hC
    have h2 : n / C < R := by
      rw [Nat.div_lt_iff_lt_mul hC]; omega
    have h3 : n / C * C + n % C = n := by rw [Nat.mul_comm]; exact Nat.div_add_mod n C
    rw [trAt, gt_set (R := C) (C := R) (by rw [trAt_length]; exact hB) h1 h2 hr, ih]
    by_cases e : c = n % C ∧ r = n / C
    · obtain ⟨e1, e2⟩ := e
      rw [if_pos ⟨e1, e2⟩, if_pos (by rw [e1, e2, h3]; omega)]
      show L.getD n 0 = L.getD (r * C + c) 0
      rw [e1, e2, h3]
    · rw [if_neg e]
      have hne : r * C + c ≠ n := fun h => e (by
        rw [← h3] at h
        obtain ⟨a, b⟩ := idx_inj hc h1 h
        exact ⟨b, a⟩)
      by_cases hlt : r * C + c < n
      · rw [if_pos hlt, if_pos (by omega)]
      · rw [if_neg hlt, if_neg (by omega)]
theorem gt_tr {R C : Nat} {L : List Nat} {r c : Nat} (hr : r < R) (hc : c < C) : gt R (trN R C L) c r = gt C L r c := by
  unfold trN
  rw [gt_trAt (by simp) _ (Nat.le_refl _) r c hr hc, if_pos (idx_lt hr hc)]
theorem gt_pick {R C : Nat} {l : List Nat} (hn : l.length = R * C) {c : Nat} (hc : c < C) : ∀ (is : List Nat), (∀ i ∈ is, i < R) → ∀ k, k < is.length → gt C (pickN C l is) k c = gt C l (is.getD k 0) c
  | [], _, k, hk => by simp at hk
  | i :: is, h, k, hk => by
    have hi := h i (by simp)
    have h1 := Nat.mul_le_mul_right C (show i + 1 ≤ R from hi)
    rw [Nat.add_mul, Nat.one_mul] at h1
    have hl : ((l.drop (i * C)).take C).length = C := by rw [List.length_take, List.length_drop]; omega
    unfold gt
    rw [pickN, List.getD_eq_getElem?_getD]
    cases k with
    | zero =>
      rw [List.getElem?_append_left (by omega), Nat.zero_mul, Nat.zero_add, List.getElem?_take_of_lt hc, List.getElem?_drop]
      rfl
    | succ k =>
      rw [List.getElem?_append_right (by rw [hl, Nat.add_mul]; omega), hl, show (k + 1) * C + c - C = k * C + c by rw [Nat.add_mul]; omega]
      have := gt_pick hn hc is (fun x hx => h x (by simp [hx])) k (by simpa using hk)
      unfold gt at this
      rw [List.getD_eq_getElem?_getD] at this
      rw [this]
      rfl
def U (D : Nat) (gen : List Nat) (u : Nat) : Nat → Nat := fun x => gt D gen u x
theorem U_vc {M R D : Nat} {gen : List Nat} (h : MxOk M R D gen) (u : Nat) : Vc M D (U D gen u) := fun x _ => getD_lt h.e _
theorem pres_inc (hv : List Bool) (n : Nat) : (presAt hv n).Pairwise (· < ·) := List.Pairwise.filter _ List.pairwise_lt_range
theorem getD_inc {l : List Nat} (h : l.Pairwise (· < ·)) {q q' : Nat} (hq : q < q') (hq' : q' < l.length) : l.getD q 0 < l.getD q' 0 := by
  rw [List.getD_eq_getElem?_getD, List.getD_eq_getElem?_getD, List.getElem?_eq_getElem hq', List.getElem?_eq_getElem (show q < l.length by omega)]
  exact List.pairwise_iff_getElem.1 h q q' _ _ hq
theorem getD_mem {l : List Nat} {q : Nat} (h : q < l.length) : l.getD q 0 ∈ l := by
  rw [List.getD_eq_getElem?_getD, List.getElem?_eq_getElem h]
  exact List.getElem_mem h
theorem mem_pres {hv : List Bool} {u : Nat} : u ∈ presN hv ↔ hv.getD u false = true := by
  unfold presN presAt
  rw [List.mem_filter, List.mem_range]
  constructor
  · exact fun h => h.2
  · intro h
    refine ⟨?_, h⟩
    by_cases hl : u < hv.length
    · exact hl
    · rw [List.getD_eq_getElem?_getD, List.getElem?_eq_none (by omega)] at h
      cases h
structure Bas (M D : Nat) (gen : List Nat) (hv : List Bool) (B : List Nat) (T S : (Nat → Nat) → Nat → Nat) : Prop where
  iso : Iso M D T S
  le : B.length ≤ D
  mem : ∀ q, q < B.length → hv.getD (B.getD q 0) false = true
  inc : ∀ q q', q < q' → q' < B.length → B.getD q 0 < B.getD q' 0
  unit : ∀ q, q < B.length → ∀ r, r < D → T (U D gen (B.getD q 0)) r = if r = q then 1 else 0
  low : ∀ u, hv.getD u false = true → ∀ r, r < D → T (U D gen u) r ≠ 0 → r < B.length ∧ B.getD r 0 ≤ u
theorem map_getD {α : Type} {f : Nat → α} {l : List Nat} {q : Nat} (d : α) (h : q < l.length) : (l.map f).getD q d = f (l.getD q 0) := by
  rw [List.getD_eq_getElem?_getD, List.getD_eq_getElem?_getD, List.getElem?_map, List.getElem?_eq_getElem h]
  rfl
theorem basis_to {M D : Nat} {ps : List (List Nat)} {hv : List Bool} (h : CodeOk M D ps) (hl : hv.length = D + ps.length) : ∃ T S, Bas M D (genN D ps) hv (basisN M D ps hv) T S := by
  have hgok := gen_ok h
  have hplt : ∀ x ∈ presN hv, x < D + ps.length := fun x hx => by have := presAt_lt hx; omega
  have hpl : (presN hv).length ≤ 32 := by have := presAt_length hv hv.length; have := h.w; show (presAt hv hv.length).length ≤ 32; omega
  have hpk := pick_ok hgok hplt hpl
  have hbl := basis_len h hl
  have hcol : ∀ c, c < (presN hv).length → ∀ r, r < D → gt (presN hv).length (trN (presN hv).length D (pickN D (genN D ps) (presN hv))) r c = U D (genN D ps) ((presN hv).getD c 0) r := fun c hc r hr => by
    rw [gt_tr hc hr, gt_pick hgok.n hr _ hplt c hc]
    rfl
  obtain ⟨T, S, hr⟩ := red_to (M := M) (R := D) (C := (presN hv).length) (L := trN (presN hv).length D (pickN D (genN D ps) (presN hv))) h.f (trN_length _ _ _) (trN_lt hpk.e) (presN hv).length (Nat.le_refl _)
  have hB : basisN M D ps hv = (red M D (presN hv).length (trN (presN hv).length D (pickN D (genN D ps) (presN hv))) (presN hv).length).2.map fun j => (presN hv).getD j 0 := rfl
  generalize (red M D (presN hv).length (trN (presN hv).length D (pickN D (genN D ps) (presN hv))) (presN hv).length).1 = A at *
  generalize (red M D (presN hv).length (trN (presN hv).length D (pickN D (genN D ps) (presN hv))) (presN hv).length).2 = pv at *
  have hBl : (basisN M D ps hv).length = pv.length := by rw [hB, List.length_map]
  have hBq : ∀ q, q < pv.length → (basisN M D ps hv).getD q 0 = (presN hv).getD (pv.getD q 0) 0 := fun q hq => by rw [hB]; exact map_getD 0 hq
  have hT : ∀ c, c < (presN hv).length → ∀ r, r < D → T (U D (genN D ps) ((presN hv).getD c 0)) r = gt (presN hv).length A r c := fun c hc r hr' => by
    rw [hr.col c hc r hr']
    exact hr.iso.congr _ _ (fun k hk => (hcol c hc k hk).symm) r hr'
  refine ⟨T, S, hr.iso, hbl, fun q hq => ?_, fun q q' h1 h2 => ?_, fun q hq r hr' => ?_, fun u hu r hr' h0 => ?_⟩
  · rw [hBl] at hq
    rw [hBq q hq]
    exact mem_pres.1 (getD_mem (hr.piv q hq).1)
  · rw [hBl] at h2
    rw [hBq q (by omega), hBq q' h2]
    exact getD_inc (pres_inc hv _) (hr.inc q q' h1 h2) (hr.piv q' h2).1
  · rw [hBl] at hq
    rw [hBq q hq, hT _ (hr.piv q hq).1 r hr']
    exact (hr.piv q hq).2 r hr'
  · obtain ⟨c, hc, e⟩ := List.getElem_of_mem (mem_pres.2 hu)
    have e2 : (presN hv).getD c 0 = u := by rw [List.getD_eq_getElem?_getD, List.getElem?_eq_getElem hc]; exact e
    rw [← e2, hT c hc r hr'] at h0
    obtain ⟨h1, h2⟩ := hr.low c hc r hr' h0
    refine ⟨by omega, ?_⟩
    rw [hBq r h1, ← e2]
    by_cases e3 : pv.getD r 0 = c
    · rw [e3]; exact Nat.le_refl _
    · exact Nat.le_of_lt (getD_inc (pres_inc hv _) (by omega) hc)
section
variable {M D : Nat} {gen : List Nat} {hv : List Bool} {B : List Nat} {T S : (Nat → Nat) → Nat → Nat}
def BS (D : Nat) (gen B : List Nat) : (Nat → Nat) → Prop := fun s => ∃ q, q < B.length ∧ s = U D gen (B.getD q 0)
theorem Bas.span (hM : FldM M) (hg : ∀ u, Vc M D (U D gen u)) (h : Bas M D gen hv B T S) {v : Nat → Nat} (hv' : Vc M D v) (hz : ∀ r, r < D → B.length ≤ r → T v r = 0) : Sp M D (BS D gen B) v := by
  have hS : ∀ s, BS D gen B s → Vc M D s := fun s ⟨q, _, e⟩ => by rw [e]; exact hg _
  have hsum := Sp.sum (M := M) (D := D) (S := BS D gen B) hM hS (c := fun q => T v q) (w := fun q => U D gen (B.getD q 0)) B.length (fun q hq => ⟨h.iso.lt v hv' q (by have := h.le; omega), Sp.of hM hS ⟨q, hq, rfl⟩⟩)
  refine hsum.congr fun x hx => ?_
  have hw : Vc M D (fun x => sg (fun q => mu M (T v q) (U D gen (B.getD q 0) x)) B.length) := hsum.vc hM hS
  refine (h.iso.inj hv' hw fun i hi => ?_) x hx
  rw [h.iso.sum B.length (fun q hq => ⟨h.iso.lt v hv' q (by have := h.le; omega), hg _⟩) i hi]
  rw [sg_congr B.length (fun q hq => show mu M (T v q) (T (U D gen (B.getD q 0)) i) = if q = i then T v i else 0 by
    rw [h.unit q hq i hi]
    by_cases e : i = q
    · subst e; rw [if_pos rfl, if_pos rfl, mu_one hM (h.iso.lt v hv' i hi)]
    · rw [if_neg e, if_neg (fun e2 => e e2.symm), mu_zero])]
  rw [sg_one (k := i) B.length (fun q _ hne => if_neg hne), if_pos rfl]
  by_cases e : i < B.length
  · rw [if_pos e]
  · rw [if_neg e, hz i hi (by omega)]
theorem Bas.present (hM : FldM M) (hg : ∀ u, Vc M D (U D gen u)) (h : Bas M D gen hv B T S) {u : Nat} (hu : hv.getD u false = true) : Sp M D (BS D gen B) (U D gen u) :=
  h.span hM hg (hg u) fun r hr hle => by
    by_cases e : T (U D gen u) r = 0
    · exact e
    · have := (h.low u hu r hr e).1; omega
end
end Go.Proofs.YtaclmbbiegklcaaDoor
end
section
/- The rows of a span, and what they leave of a row: plain law. -/
namespace Go.Proofs.YtaclmbbiegklcaaDoor
open Go.RowKit
set_option linter.unusedSectionVars false
abbrev Rd := Nat × List Nat × List Nat
section
variable {M D n : Nat} {s : List Nat × List Nat} {r : Rd}
end
section
variable {M D n : Nat} {W : Nat → Nat → Nat} {rows : List Rd}
end
end Go.Proofs.YtaclmbbiegklcaaDoor
end
section
/- What can be recovered: plain law. -/
namespace Go.Proofs.YtaclmbbiegklcaaDoor
open Go.RowKit
set_option linter.unusedSectionVars false
def PS (D : Nat) (gen : List Nat) (hv : List Bool) : (Nat → Nat) → Prop := fun s => ∃ u, hv.getD u false = true ∧ s = U D gen u
theorem U_all {M D : Nat} {ps : List (List Nat)} (h : CodeOk M D ps) (u : Nat) : Vc M D (U D (genN D ps) u) := U_vc (gen_ok h) u
section
variable {M D : Nat} {ps : List (List Nat)} {hv : List Bool} (h : CodeOk M D ps) (hl : hv.length = D + ps.length)
include h hl
theorem sp_BP {v : Nat → Nat} : Sp M D (BS D (genN D ps) (basisN M D ps hv)) v ↔ Sp M D (PS D (genN D ps) hv) v := by
  obtain ⟨T, S, hb⟩ := basis_to h hl
  constructor
  · exact Sp.mono fun s ⟨q, hq, e⟩ => ⟨_, hb.mem q hq, e⟩
  · exact Sp.trans h.f (fun s ⟨q, _, e⟩ => by rw [e]; exact U_all h _) fun s ⟨u, hu, e⟩ => by rw [e]; exact hb.present h.f (U_all h) hu
end
def eu' (q : Nat) : Nat → Nat := fun x => if x = q then 1 else 0
def WS (w : Nat → Nat → Nat) (p : Nat) : (Nat → Nat) → Prop := fun s => ∃ r, r < p ∧ s = w r
theorem steinitz {M D : Nat} (hM : FldM M) : ∀ (p : Nat) (w : Nat → Nat → Nat) (m : Nat), (∀ r, r < p → Vc M D (w r)) → m ≤ D → (∀ q, q < m → Sp M D (WS w p) (eu' q)) → m ≤ p
  | 0, w, m, _, hm, h => by
    by_cases e : m = 0
    · omega
    · have := (h 0 (by omega)).vanish (x := 0) (by omega) (fun s ⟨r, hr, _⟩ => by omega)
      simp [eu'] at this
  | p + 1, w, m, hw, hm, h => by
    cases m with
    | zero => omega
    | succ m =>
      have hex : ∃ r, r < p + 1 ∧ w r m ≠ 0 := by
        apply Classical.byContradiction
        intro hne
        have := (h m (by omega)).vanish (x := m) (by omega) (fun s ⟨r, hr, e⟩ => by
          rw [e]
          exact Classical.byContradiction fun h0 => hne ⟨r, hr, h0⟩)
        simp [eu'] at this
      obtain ⟨r0, hr0, ht0⟩ := hex
      have htv := hw r0 hr0
      have htl := htv m (by omega)
      obtain ⟨v1, v2⟩ := inv_mu hM ht0 htl
      have hvl : invN M (w r0 m) < 2 ^ M := invN_lt _
      -- the others, cleared
      let w1 : Nat → Nat → Nat := fun r => if r = r0 then w p else w r
      have hw1 : ∀ r, r < p → Vc M D (w1 r) := fun r hr => by
        show Vc M D (if r = r0 then w p else w r)
        split
        · exact hw p (by omega)
        · exact hw r (by omega)
      let w2 : Nat → Nat → Nat := fun r x => w1 r x ^^^ mu M (mu M (w1 r m) (invN M (w r0 m))) (w r0 x)
      have hw2 : ∀ r, r < p → Vc M D (w2 r) := fun r hr x hx => xor_lt' (hw1 r hr x hx) (mu_lt hM (mu_lt hM (hw1 r hr m (by omega)) _) _)
      have hz2 : ∀ r, r < p → w2 r m = 0 := fun r hr => by
        show w1 r m ^^^ mu M (mu M (w1 r m) (invN M (w r0 m))) (w r0 m) = 0
        rw [mu_assoc hM (hw1 r hr m (by omega)) hvl htl, v1, mu_one hM (hw1 r hr m (by omega)), Nat.xor_self]
      have hvc2 : ∀ s, (s = w r0 ∨ WS w2 p s) → Vc M D s := fun s hs => by
        rcases hs with rfl | ⟨r, hr, rfl⟩
        · exact htv
        · exact hw2 r hr
      have hin : ∀ s, WS w (p + 1) s → Sp M D (fun s => s = w r0 ∨ WS w2 p s) s := fun s ⟨r, hr, e⟩ => by
        by_cases e0 : r = r0
        · rw [e, e0]; exact Sp.of hM hvc2 (.inl rfl)
        · have hex : ∃ r', r' < p ∧ w1 r' = w r := by
            by_cases e1 : r = p
            · refine ⟨r0, by omega, ?_⟩
              show (if r0 = r0 then w p else w r0) = w r
              rw [if_pos rfl, e1]
            · refine ⟨r, by omega, ?_⟩
              show (if r = r0 then w p else w r) = w r
              rw [if_neg e0]
          obtain ⟨r', hr', e'⟩ := hex
          rw [e]
          refine .step (Sp.of hM hvc2 (.inr ⟨r', hr', rfl⟩)) (.inl rfl) (c := mu M (w1 r' m) (invN M (w r0 m))) (mu_lt hM (hw1 r' hr' m (by omega)) _) fun x hx => ?_
          show w r x = (w1 r' x ^^^ mu M (mu M (w1 r' m) (invN M (w r0 m))) (w r0 x)) ^^^ _
          rw [xor_self_cancel, e']
      have := steinitz hM p w2 m hw2 (by omega) fun q hq => by
        obtain ⟨c, u, hc, hu, e⟩ := (Sp.trans hM hvc2 hin (h q (by omega))).split
        have e1 := e m (by omega)
        rw [hu.vanish (by omega) (fun s ⟨r, hr, e⟩ => by rw [e]; exact hz2 r hr), Nat.zero_xor] at e1
        have e2 : eu' q m = 0 := by unfold eu'; rw [if_neg (by omega)]
        rw [e2] at e1
        have hc0 : c = 0 := by
          apply Classical.byContradiction
          intro hne
          exact ht0 (mu_eq_zero hM hc htl hne e1.symm)
        refine hu.congr fun x hx => ?_
        rw [e x hx, hc0, zero_mu, Nat.xor_zero]
      omega
theorem Iso.sp {M D : Nat} {T S : (Nat → Nat) → Nat → Nat} (h : Iso M D T S) {A A' : (Nat → Nat) → Prop} (hA : ∀ s, A s → Vc M D s ∧ A' (T s)) {v : Nat → Nat} (hv : Sp M D A v) : Sp M D A' (T v) := by
  induction hv with
  | zero h0 => exact .zero fun x hx => h.zero h0 x hx
  | step h1 hs hc h2 ih =>
    rename_i u s v c
    obtain ⟨a1, a2⟩ := hA _ hs
    refine .step ih a2 hc fun x hx => ?_
    rw [h.congr _ _ h2 x hx, h.add u (fun k => mu M c (s k)) x hx, h.smul c s hc a1 x hx]
theorem Bas.dim {M D : Nat} {gen : List Nat} {hv : List Bool} {B : List Nat} {T S : (Nat → Nat) → Nat → Nat} (hM : FldM M) (h : Bas M D gen hv B T S) {w : Nat → Nat → Nat} {p : Nat} (hw : ∀ r, r < p → Vc M D (w r)) (hs : ∀ q, q < B.length → Sp M D (WS w p) (U D gen (B.getD q 0))) : B.length ≤ p := by
  refine steinitz hM p (fun r => T (w r)) B.length (fun r hr => h.iso.lt _ (hw r hr)) h.le fun q hq => ?_
  refine (h.iso.sp (A' := WS (fun r => T (w r)) p) (fun s ⟨r, hr, e⟩ => ⟨by rw [e]; exact hw r hr, ⟨r, hr, by rw [e]⟩⟩) (hs q hq)).congr fun x hx => ?_
  rw [h.unit q hq x hx]
  rfl
end Go.Proofs.YtaclmbbiegklcaaDoor
end
section
/- Texts as lists of a field's elements; what a sound sum of units is: plain law. -/
namespace Go.Proofs.YtaclmbbiegklcaaDoor
open Go.RowKit
set_option linter.unusedSectionVars false
theorem gt_id {D : Nat} : ∀ n, n ≤ D → ∀ r c, r < D → c < D → gt D (idAt D n) r c = if r < n ∧ r = c then 1 else 0
  | 0, _, r, c, _, _ => by
    rw [if_neg (by omega)]
    unfold gt idAt
    rw [List.getD_eq_getElem?_getD, List.getElem?_replicate]
    split <;> rfl
  | n + 1, hn, r, c, hr, hc => by
    rw [idAt, gt_set (R := D) (by rw [idAt_length]) (by omega) (by omega) hc, gt_id n (by omega) r c hr hc]
    by_cases h : r = n ∧ c = n
    · rw [if_pos h, if_pos (by omega)]
    · rw [if_neg h]
      by_cases h2 : r < n ∧ r = c
      · rw [if_pos h2, if_pos (by omega)]
      · rw [if_neg h2, if_neg (by omega)]
theorem U_data {D : Nat} {ps : List (List Nat)} {u x : Nat} (hu : u < D) (hx : x < D) : U D (genN D ps) u x = eu' u x := by
  have h := gt_id D (Nat.le_refl _) u x hu hx
  unfold U gt genN
  unfold gt at h
  rw [List.getD_eq_getElem?_getD] at h ⊢
  rw [List.getElem?_append_left (by rw [idAt_length]; exact idx_lt hu hx), h]
  unfold eu'
  by_cases e : u = x
  · subst e; rw [if_pos ⟨hu, rfl⟩, if_pos rfl]
  · rw [if_neg (by omega), if_neg (fun e2 => e e2.symm)]
theorem flat_get {D x : Nat} (hx : x < D) : ∀ {ps : List (List Nat)} (_ : ∀ r ∈ ps, r.length = D) (i : Nat), i < ps.length → ps.flatten.getD (i * D + x) 0 = (ps.getD i []).getD x 0
  | [], _, i, h => by simp at h
  | r :: ps, hr, i, h => by
    have h0 := hr r (by simp)
    rw [List.flatten_cons, List.getD_eq_getElem?_getD]
    cases i with
    | zero => rw [List.getElem?_append_left (by omega), Nat.zero_mul, Nat.zero_add, ← List.getD_eq_getElem?_getD]; rfl
    | succ i =>
      have e : (i + 1) * D + x - r.length = i * D + x := by rw [Nat.add_mul]; omega
      rw [List.getElem?_append_right (by rw [Nat.add_mul]; omega), e, ← List.getD_eq_getElem?_getD, flat_get hx (fun s hs => hr s (by simp [hs])) i (by simpa using h)]
      rfl
theorem U_par {M D : Nat} {ps : List (List Nat)} (h : CodeOk M D ps) {i x : Nat} (hi : i < ps.length) (hx : x < D) : U D (genN D ps) (D + i) x = (ps.getD i []).getD x 0 := by
  rw [← flat_get hx (fun r hr => (h.row r hr).1) i hi]
  unfold U gt genN
  have e : (D + i) * D + x - (idAt D D).length = i * D + x := by rw [idAt_length, Nat.add_mul]; omega
  rw [List.getD_eq_getElem?_getD, List.getElem?_append_right (by rw [idAt_length, Nat.add_mul]; omega), e, ← List.getD_eq_getElem?_getD]
theorem U_ne {M D : Nat} {ps : List (List Nat)} (h : CodeOk M D ps) {u : Nat} (hu : u < D + ps.length) : ∃ x, x < D ∧ U D (genN D ps) u x ≠ 0 := by
  by_cases hd : u < D
  · exact ⟨u, hd, by rw [U_data hd hd]; simp [eu']⟩
  · obtain ⟨i, rfl⟩ : ∃ i, u = D + i := ⟨u - D, by omega⟩
    have hi : i < ps.length := by omega
    obtain ⟨h1, h2, y, h3, h4⟩ := h.row _ (List.getElem_mem hi)
    obtain ⟨x, hx, rfl⟩ := List.getElem_of_mem h3
    refine ⟨x, by omega, ?_⟩
    rw [U_par h hi (by omega), List.getD_eq_getElem?_getD (l := ps), List.getElem?_eq_getElem hi, Option.getD_some, List.getD_eq_getElem?_getD, List.getElem?_eq_getElem hx]
    exact h4
def lx {α : Type} (f : α → Nat) : List α → Nat
  | [] => 0
  | a :: l => f a ^^^ lx f l
section
variable {M D n : Nat} {ps us : List (List Nat)} (h : CodeOk M D ps) (hl : us.length = D) (hu : ∀ u ∈ us, isB u ∧ u.length = n) (he : FitM M n)
include h hl hu he
end
def Sound (M D : Nat) (ps : List (List Nat)) (u : Nat) (l : List (Nat × Nat)) : Prop := ∀ x, x < D → lx (fun t => mu M t.2 (U D (genN D ps) t.1 x)) l = U D (genN D ps) u x
section
variable {M D n : Nat} {ps us : List (List Nat)} (h : CodeOk M D ps) (hl : us.length = D) (hu : ∀ u ∈ us, isB u ∧ u.length = n) (he : FitM M n)
include h hl hu he
end
structure CombOk (M D : Nat) (ps : List (List Nat)) (hv : List Bool) (u : Nat) (l : List (Nat × Nat)) : Prop where
  snd : Sound M D ps u l
  lt : ∀ t ∈ l, t.2 < 2 ^ M ∧ t.2 ≠ 0
  pres : ∀ t ∈ l, hv.getD t.1 false = true
  inc : l.Pairwise fun a b => a.1 < b.1
  le : l.length ≤ (basisN M D ps hv).length
theorem CombOk.pos {M D : Nat} {ps : List (List Nat)} {hv : List Bool} (h : CodeOk M D ps) {u : Nat} (hu : u < D + ps.length) {l : List (Nat × Nat)} (hc : CombOk M D ps hv u l) : 0 < l.length := by
  cases l with
  | nil =>
    obtain ⟨x, hx, hne⟩ := U_ne h hu
    exact absurd (hc.snd x hx).symm hne
  | cons a l => simp
end Go.Proofs.YtaclmbbiegklcaaDoor
end
section
/- Full bases; one unit more; stripes with gaps: plain law. -/
namespace Go.Proofs.YtaclmbbiegklcaaDoor
open Go.RowKit
set_option linter.unusedSectionVars false
set_option maxHeartbeats 4000000
set_option maxRecDepth 100000
section
variable {M D : Nat} {ps : List (List Nat)} {hv : List Bool} (h : CodeOk M D ps) (hl : hv.length = D + ps.length)
include h hl
end
theorem setB_getD {hv : List Bool} {k : Nat} (hk : k < hv.length) (b : Bool) (i : Nat) : (hv.set k b).getD i false = if i = k then b else hv.getD i false := by
  rw [List.getD_eq_getElem?_getD, List.getElem?_set, List.getD_eq_getElem?_getD]
  by_cases e : k = i
  · subst e; rw [if_pos rfl, if_pos hk, if_pos rfl]; rfl
  · rw [if_neg e, if_neg (fun e2 => e e2.symm)]
section
variable {M D k : Nat} {ps : List (List Nat)} {hv : List Bool} (h : CodeOk M D ps) (hl : hv.length = D + ps.length) (hk : k < D + ps.length)
include h hl hk
theorem PS_set {s : Nat → Nat} : PS D (genN D ps) (hv.set k true) s ↔ s = U D (genN D ps) k ∨ PS D (genN D ps) hv s := by
  constructor
  · rintro ⟨u, hu, e⟩
    rw [setB_getD (by omega)] at hu
    split at hu
    · rename_i e2; subst e2; exact .inl e
    · exact .inr ⟨u, hu, e⟩
  · rintro (e | ⟨u, hu, e⟩)
    · exact ⟨k, by rw [setB_getD (by omega), if_pos rfl], e⟩
    · refine ⟨u, ?_, e⟩
      rw [setB_getD (by omega)]
      split
      · rfl
      · exact hu
theorem more_le : (basisN M D ps hv).length ≤ (basisN M D ps (hv.set k true)).length := by
  have hl2 : (hv.set k true).length = D + ps.length := by rw [List.length_set]; exact hl
  obtain ⟨T, S, hb⟩ := basis_to h hl
  refine hb.dim h.f (w := fun r => U D (genN D ps) ((basisN M D ps (hv.set k true)).getD r 0)) (fun r _ => U_all h _) fun q hq => ?_
  have h1 : Sp M D (PS D (genN D ps) (hv.set k true)) (U D (genN D ps) ((basisN M D ps hv).getD q 0)) := Sp.of h.f (fun s ⟨u, _, e⟩ => by rw [e]; exact U_all h _) ((PS_set h hl hk).2 (.inr ⟨_, hb.mem q hq, rfl⟩))
  exact (sp_BP h hl2).2 h1
end
section
variable {M D n : Nat} {ps us : List (List Nat)} {hv : List Bool} {nz : List Nat} (h : CodeOk M D ps) (hl : us.length = D) (hu : ∀ u ∈ us, isB u ∧ u.length = n) (he : FitM M n) (hvl : hv.length = D + ps.length)
include h hl hu he hvl
end
end Go.Proofs.YtaclmbbiegklcaaDoor
end
section
/- Layer 9, the plain law: how many further units may be missing. No program in sight. -/
namespace Go.Proofs.YtaclmbbiegklcaaDoor
def minusN (hv : List Bool) (L : List Nat) : List Bool := L.foldl (fun h u => h.set u false) hv
theorem minusN_length : ∀ (L : List Nat) (hv : List Bool), (minusN hv L).length = hv.length
  | [], hv => rfl
  | u :: L, hv => by
    have := minusN_length L (hv.set u false)
    rw [List.length_set] at this
    exact this
theorem getD_setB (hv : List Bool) (u j : Nat) (b : Bool) : (hv.set u b).getD j false = if j = u then (if u < hv.length then b else false) else hv.getD j false := by
  rw [List.getD_eq_getElem?_getD, List.getD_eq_getElem?_getD, List.getElem?_set]
  by_cases e : j = u
  · subst e
    rw [if_pos rfl, if_pos rfl]
    split <;> rfl
  · rw [if_neg (Ne.symm e), if_neg e]
theorem minusN_get : ∀ (L : List Nat) (hv : List Bool) (j : Nat), (minusN hv L).getD j false = if j ∈ L then false else hv.getD j false
  | [], hv, j => by simp [minusN]
  | u :: L, hv, j => by
    have := minusN_get L (hv.set u false) j
    rw [show minusN hv (u :: L) = minusN (hv.set u false) L from rfl, this, getD_setB]
    by_cases h : j ∈ L
    · rw [if_pos h, if_pos (by simp [h])]
    · rw [if_neg h]
      by_cases e : j = u
      · have h8 : j ∈ u :: L := by rw [e]; exact List.mem_cons_self
        rw [if_pos e, if_pos h8]; split <;> rfl
      · have h8 : j ∉ u :: L := fun h9 => (List.mem_cons.1 h9).elim e h
        rw [if_neg e, if_neg h8]
theorem boolL_ext {a b : List Bool} (hl : a.length = b.length) (h : ∀ j, a.getD j false = b.getD j false) : a = b := by
  apply List.ext_getElem hl
  intro j h1 h2
  have := h j
  rw [List.getD_eq_getElem?_getD, List.getD_eq_getElem?_getD, List.getElem?_eq_getElem h1, List.getElem?_eq_getElem h2] at this
  exact this
def upN (hv : List Bool) : List Nat := (List.range hv.length).filter fun i => hv.getD i false
theorem mem_upN {hv : List Bool} {i : Nat} : i ∈ upN hv ↔ hv.getD i false = true := by
  unfold upN
  rw [List.mem_filter, List.mem_range]
  constructor
  · exact fun h => h.2
  · intro h
    refine ⟨?_, h⟩
    by_cases e : i < hv.length
    · exact e
    · rw [List.getD_eq_getElem?_getD, List.getElem?_eq_none (by omega)] at h; cases h
theorem upN_nodup (hv : List Bool) : (upN hv).Nodup := List.Nodup.sublist List.filter_sublist List.nodup_range
def subsN : List Nat → Nat → List (List Nat)
  | _, 0 => [[]]
  | [], _ + 1 => []
  | x :: l, k + 1 => (subsN l k).map (x :: ·) ++ subsN l (k + 1)
theorem mem_subsN : ∀ {l : List Nat} {k : Nat} {s : List Nat}, s ∈ subsN l k ↔ s.Sublist l ∧ s.length = k
  | l, 0, s => by
    unfold subsN
    rw [List.mem_singleton]
    constructor
    · rintro rfl; exact ⟨List.nil_sublist _, rfl⟩
    · exact fun h => List.eq_nil_of_length_eq_zero h.2
  | [], k + 1, s => by
    unfold subsN
    constructor
    · intro h; cases h
    · rintro ⟨h1, h2⟩
      have := h1.length_le
      simp only [List.length_nil] at this
      omega
  | x :: l, k + 1, s => by
    unfold subsN
    rw [List.mem_append, List.mem_map]
    constructor
    · rintro (⟨t, h1, rfl⟩ | h1)
      · obtain ⟨h2, h3⟩ := mem_subsN.1 h1
        exact ⟨h2.cons_cons x, by simp [h3]⟩
      · obtain ⟨h2, h3⟩ := mem_subsN.1 h1
        exact ⟨h2.cons x, h3⟩
    · rintro ⟨h1, h2⟩
      cases h1 with
      | cons _ h3 => exact .inr (mem_subsN.2 ⟨h3, h2⟩)
      | cons_cons _ h3 => exact .inl ⟨_, mem_subsN.2 ⟨h3, by simpa using h2⟩, rfl⟩
theorem nodup_le : ∀ (T L : List Nat), T.Nodup → (∀ x ∈ T, x ∈ L) → T.length ≤ L.length
  | [], L, _, _ => by simp
  | x :: T, L, hn, h => by
    rw [List.nodup_cons] at hn
    have hx := h x (by simp)
    have ih := nodup_le T (L.erase x) hn.2 fun y hy => (List.mem_erase_of_ne (fun e => hn.1 (by rw [← e]; exact hy))).2 (h y (by simp [hy]))
    rw [List.length_erase_of_mem hx] at ih
    have := List.length_pos_of_mem hx
    simp only [List.length_cons]
    omega
def badN (dec : List Bool → Bool) (hv : List Bool) (f : Nat) : Bool := (subsN (upN hv) (f + 1)).any fun s => !dec (minusN hv s)
def leftN (dec : List Bool → Bool) (hv : List Bool) : Int := if dec hv then (((List.range 4).find? (badN dec hv)).getD 4 : Nat) else -1
theorem find_lt {p : Nat → Bool} {n f : Nat} (hf : f ≤ n) : f ≤ ((List.range n).find? p).getD n ↔ ∀ g, g < f → p g = false := by
  cases hq : (List.range n).find? p with
  | none =>
    rw [List.find?_eq_none] at hq
    simp only [Option.getD_none]
    refine ⟨fun _ g hg => ?_, fun _ => hf⟩
    have := hq g (List.mem_range.2 (by omega))
    simpa using this
  | some x =>
    simp only [Option.getD_some]
    rw [List.find?_range_eq_some] at hq
    obtain ⟨h1, h2, h3⟩ := hq
    constructor
    · intro h g hg
      have := h3 g (by omega)
      simpa using this
    · intro h
      by_cases e : f ≤ x
      · exact e
      · have := h x (by omega)
        rw [h1] at this; cases this
theorem left_iff {dec : List Bool → Bool} {hv : List Bool} {f : Nat} (hf : f ≤ 4) : (f : Int) ≤ leftN dec hv ↔ ∀ L : List Nat, L.length ≤ f → dec (minusN hv L) = true := by
  unfold leftN
  constructor
  · intro h L hL
    cases hd : dec hv with
    | false => rw [hd, if_neg (by decide)] at h; omega
    | true =>
      rw [hd, if_pos rfl] at h
      have h2 := (find_lt (p := badN dec hv) hf).1 (by omega)
      have hT : minusN hv L = minusN hv ((upN hv).filter fun i => decide (i ∈ L)) := boolL_ext (by rw [minusN_length, minusN_length]) fun j => by
        rw [minusN_get, minusN_get]
        by_cases h5 : j ∈ L
        · rw [if_pos h5]
          by_cases h6 : hv.getD j false = true
          · rw [if_pos (List.mem_filter.2 ⟨mem_upN.2 h6, by simpa using h5⟩)]
          · rw [if_neg (fun h7 => h6 (mem_upN.1 (List.mem_filter.1 h7).1))]
            simpa using h6
        · rw [if_neg h5, if_neg (fun h7 => h5 (by simpa using (List.mem_filter.1 h7).2))]
      have hsub : ((upN hv).filter fun i => decide (i ∈ L)).Sublist (upN hv) := List.filter_sublist
      have hlen : ((upN hv).filter fun i => decide (i ∈ L)).length ≤ L.length := nodup_le _ _ ((upN_nodup hv).sublist hsub) fun x hx => by simpa using (List.mem_filter.1 hx).2
      rw [hT]
      generalize (upN hv).filter (fun i => decide (i ∈ L)) = T at *
      cases hTl : T.length with
      | zero => rw [List.eq_nil_of_length_eq_zero hTl]; exact hd
      | succ g =>
        have h8 := h2 g (by omega)
        unfold badN at h8
        rw [List.any_eq_false] at h8
        have := h8 T (mem_subsN.2 ⟨hsub, hTl⟩)
        simpa using this
  · intro h
    have hd : dec hv = true := h [] (Nat.zero_le _)
    rw [hd, if_pos rfl]
    have := (find_lt (p := badN dec hv) hf).2 fun g hg => by
      unfold badN
      rw [List.any_eq_false]
      intro s hs
      have := h s (by rw [(mem_subsN.1 hs).2]; omega)
      simp [this]
    omega
theorem left_ge (dec : List Bool → Bool) (hv : List Bool) : -1 ≤ leftN dec hv := by
  unfold leftN; split <;> omega
theorem left_le (dec : List Bool → Bool) (hv : List Bool) : leftN dec hv ≤ 4 := by
  unfold leftN
  split
  · cases hq : (List.range 4).find? (badN dec hv) with
    | none => simp
    | some x =>
      have := List.mem_range.1 (List.mem_of_find?_eq_some hq)
      simp only [Option.getD_some]
      omega
  · omega
def MonoD (dec : List Bool → Bool) : Prop := ∀ h h' : List Bool, h.length = h'.length → (∀ j, h.getD j false = true → h'.getD j false = true) → dec h = true → dec h' = true
theorem left_mono {dec : List Bool → Bool} (hm : MonoD dec) {h h' : List Bool} (hl : h.length = h'.length) (hj : ∀ j, h.getD j false = true → h'.getD j false = true) : leftN dec h ≤ leftN dec h' := by
  have h1 := left_ge dec h
  have h2 := left_le dec h
  by_cases e : leftN dec h = -1
  · have := left_ge dec h'; omega
  · have e1 : ((leftN dec h).toNat : Int) = leftN dec h := by omega
    have := (left_iff (dec := dec) (hv := h') (f := (leftN dec h).toNat) (by omega)).2 fun L hL => by
      refine hm (minusN h L) _ (by rw [minusN_length, minusN_length, hl]) (fun j => ?_) ((left_iff (dec := dec) (hv := h) (by omega)).1 (by omega) L hL)
      rw [minusN_get, minusN_get]
      split
      · exact id
      · exact hj j
    omega
theorem left_step {dec : List Bool → Bool} (hm : MonoD dec) {h h' : List Bool} {u : Nat} (hl : h.length = h'.length) (hj : ∀ j, j ≠ u → h.getD j false = true → h'.getD j false = true) : leftN dec h - 1 ≤ leftN dec h' := by
  have h1 := left_ge dec h
  have h2 := left_le dec h
  have h3 := left_ge dec h'
  by_cases e : leftN dec h ≤ 0
  · omega
  · have := (left_iff (dec := dec) (hv := h') (f := (leftN dec h - 1).toNat) (by omega)).2 fun L hL => by
      refine hm (minusN h (u :: L)) _ (by rw [minusN_length, minusN_length, hl]) (fun j => ?_) ((left_iff (dec := dec) (hv := h) (f := (leftN dec h).toNat) (by omega)).1 (by omega) (u :: L) (by simp only [List.length_cons]; omega))
      rw [minusN_get, minusN_get]
      by_cases h5 : j ∈ L
      · rw [if_pos h5, if_pos (by simp [h5])]; exact id
      · rw [if_neg h5]
        by_cases h6 : j = u
        · rw [if_pos (by simp [h6])]; intro h7; cases h7
        · rw [if_neg (by simp [h5, h6])]; exact hj j h6
    omega
end Go.Proofs.YtaclmbbiegklcaaDoor
end
section
/- Layer 9, the plain law: more units present, still sufficient. -/
namespace Go.Proofs.YtaclmbbiegklcaaDoor
theorem mono_steps {p : List Bool → Prop} (hs : ∀ (hv : List Bool) (k : Nat), p hv → p (hv.set k true)) {h h' : List Bool} (hl : h.length = h'.length) (hj : ∀ j, h.getD j false = true → h'.getD j false = true) (h0 : p h) : p h' := by
  have key : ∀ k, k ≤ h.length → p ((List.range h.length).map fun j => if j < k then h'.getD j false else h.getD j false) := by
    intro k
    induction k with
    | zero =>
      intro _
      have e : ((List.range h.length).map fun j => if j < 0 then h'.getD j false else h.getD j false) = h := by
        apply List.ext_getElem (by simp)
        intro j h1 h2
        simp [h2]
      rw [e]; exact h0
    | succ k ih =>
      intro hk
      have ih := ih (by omega)
      cases hq : h'.getD k false with
      | true =>
        have := hs _ k ih
        have e : ((List.range h.length).map fun j => if j < k then h'.getD j false else h.getD j false).set k true = (List.range h.length).map fun j => if j < k + 1 then h'.getD j false else h.getD j false := by
          apply List.ext_getElem (by simp)
          intro j h1 h2
          rw [List.getElem_set]
          simp only [List.getElem_map, List.getElem_range]
          by_cases e : k = j
          · subst e; rw [if_pos rfl, if_pos (by omega), hq]
          · rw [if_neg e]
            by_cases e2 : j < k
            · rw [if_pos e2, if_pos (by omega)]
            · rw [if_neg e2, if_neg (by omega)]
        rw [← e]; exact this
      | false =>
        have hf : h.getD k false = false := by
          cases hq2 : h.getD k false with
          | false => rfl
          | true => have := hj k hq2; rw [hq] at this; cases this
        have e : ((List.range h.length).map fun j => if j < k then h'.getD j false else h.getD j false) = (List.range h.length).map fun j => if j < k + 1 then h'.getD j false else h.getD j false := by
          apply List.map_congr_left
          intro j _
          by_cases e : j = k
          · subst e; rw [if_neg (by omega), if_pos (by omega), hq, hf]
          · by_cases e2 : j < k
            · rw [if_pos e2, if_pos (by omega)]
            · rw [if_neg e2, if_neg (by omega)]
        rw [← e]; exact ih
  have := key h.length (Nat.le_refl _)
  have e : ((List.range h.length).map fun j => if j < h.length then h'.getD j false else h.getD j false) = h' := by
    apply List.ext_getElem (by simp [hl])
    intro j h1 h2
    simp only [List.getElem_map, List.getElem_range]
    rw [if_pos (by omega), List.getD_eq_getElem?_getD, List.getElem?_eq_getElem h2]
    rfl
  rw [e] at this; exact this
def decN (M D : Nat) (ps : List (List Nat)) (hv : List Bool) : Bool := decide (hv.length = D + ps.length) && decide ((basisN M D ps hv).length = D)
theorem dec_mono {M D : Nat} {ps : List (List Nat)} (h : CodeOk M D ps) : MonoD (decN M D ps) := fun a b hl hj hd => by
  refine mono_steps (p := fun hv => decN M D ps hv = true) (fun hv k hp => ?_) hl hj hd
  unfold decN at hp ⊢
  rw [Bool.and_eq_true, decide_eq_true_eq, decide_eq_true_eq] at hp ⊢
  refine ⟨by rw [List.length_set]; exact hp.1, ?_⟩
  have h1 := basis_len h (hv := hv.set k true) (by rw [List.length_set]; exact hp.1)
  by_cases hk : k < D + ps.length
  · have h2 := more_le h hp.1 hk
    omega
  · rw [List.set_eq_of_length_le (by omega)]; exact hp.2
end Go.Proofs.YtaclmbbiegklcaaDoor
end
section
/- Package repair over the machine of abstract values: comparisons, the least of lists of terms. -/
namespace Go.Proofs.YtaclmbbiegklcaaDoor
open Go.RowKit
set_option maxHeartbeats 4000000
set_option maxRecDepth 100000
def cmpI (x y : Int) : Int := if x < y then -1 else if y < x then 1 else 0
attribute [local irreducible] Quiet Eff OpOk AWPG ACont ABlock ACalls AGoto
theorem A_isNaN (x : Int) : ACalls Tryd.prog 132 [iV x] [] (bV false) [] := by
  refine acalls_of_bodyO Tryd.func132 rfl (Nat.le_of_ble_eq_true rfl) ?_
  (repeat' (first
  | (apply W.qd; (first
    | (apply q_mv; (first|exact vD|exact vO|exact vP|exact vA|exact vF|exact vR|exact vN|exact vY|exact vT|exact vM|exact vL|exact vX))|(apply q_as; (first|exact vD|exact vO|exact vP|exact vA|exact vF|exact vR|exact vN|exact vY|exact vT|exact vM|exact vL|exact vX))
    | (apply q_neq; exact rfl; exact rfl)))|(apply AWP.seq)|(apply ACont_normal)|(apply W.region; kernel_rfl)|(apply Walk.nil)
  | (apply AWP.ret)))
  all_goals exact ⟨.inl rfl, [], [bV (!decide (x = x))], rfl, rfl, ⟨rfl, trivial⟩, AVle.of_eq (congrArg bV (show (!decide (x = x)) = false by simp)), rfl⟩
theorem A_cmp (x y : Int) : ACalls Tryd.prog 98 [iV x, iV y] [] (iV (cmpI x y)) [] := by
  refine acalls_of_bodyO Tryd.func98 rfl (Nat.le_of_ble_eq_true rfl) ?_
  have h1 := A_isNaN x
  have h2 := A_isNaN y
  unfold cmpI
  by_cases hxy : x < y
  · rw [if_pos hxy]
    (repeat' (first
  | (apply W.qd; (first
    | (apply (q_callC (h1)); exact rfl; exact rfl; kernel_rfl; kernel_rfl; kernel_rfl)|(apply (q_callC (h2)); exact rfl; exact rfl; kernel_rfl; kernel_rfl; kernel_rfl)|(apply q_mv; (first|exact vD|exact vO|exact vP|exact vA|exact vF|exact vR|exact vN|exact vY|exact vT|exact vM|exact vL|exact vX))|(apply q_as; (first|exact vD|exact vO|exact vP|exact vA|exact vF|exact vR|exact vN|exact vY|exact vT|exact vM|exact vL|exact vX))
    | (apply q_lss; exact rfl; exact rfl)))|(apply AWP.seq)|(apply ACont_normal)|(apply W.region; kernel_rfl)|(apply Walk.nil)|(apply AWP.skip)|(apply AWP.ret)|(apply ACont_ret)|(apply W.condF; exact rfl)
  | (refine W.cond _ rfl (fun hb => ?_) (fun hb => ?_) <;> ((try simp only [hb, Bool.not_true, Bool.not_false]) <;> (try simp only [decide_eq_true_eq, decide_eq_false_iff_not, Bool.not_eq_true', Bool.not_eq_false', Int.not_lt, Int.not_le, List.length_map, not_true_eq_false] at hb) <;> (try (exfalso; omega))))))
    all_goals exact ⟨.inl rfl, [], [iV (-1)], rfl, rfl, ⟨rfl, trivial⟩, AVle.of_eq rfl, rfl⟩
  · rw [if_neg hxy]
    by_cases hyx : y < x
    · rw [if_pos hyx]
      (repeat' (first
  | (apply W.qd; (first
    | (apply (q_callC (h1)); exact rfl; exact rfl; kernel_rfl; kernel_rfl; kernel_rfl)|(apply (q_callC (h2)); exact rfl; exact rfl; kernel_rfl; kernel_rfl; kernel_rfl)|(apply q_mv; (first|exact vD|exact vO|exact vP|exact vA|exact vF|exact vR|exact vN|exact vY|exact vT|exact vM|exact vL|exact vX))|(apply q_as; (first|exact vD|exact vO|exact vP|exact vA|exact vF|exact vR|exact vN|exact vY|exact vT|exact vM|exact vL|exact vX))|(apply q_lss; exact rfl; exact rfl)
    | (apply q_gtr; exact rfl; exact rfl)))|(apply AWP.seq)|(apply ACont_normal)|(apply W.region; kernel_rfl)|(apply Walk.nil)|(apply AWP.skip)|(apply AWP.ret)|(apply ACont_ret)|(apply W.condF; exact rfl)
  | (refine W.cond _ rfl (fun hb => ?_) (fun hb => ?_) <;> ((try simp only [hb, Bool.not_true, Bool.not_false]) <;> (try simp only [decide_eq_true_eq, decide_eq_false_iff_not, Bool.not_eq_true', Bool.not_eq_false', Int.not_lt, Int.not_le, List.length_map, not_true_eq_false] at hb) <;> (try (exfalso; omega))))))
      all_goals exact ⟨.inl rfl, [], [iV 1], rfl, rfl, ⟨rfl, trivial⟩, AVle.of_eq rfl, rfl⟩
    · rw [if_neg hyx]
      (repeat' (first
  | (apply W.qd; (first
    | (apply (q_callC (h1)); exact rfl; exact rfl; kernel_rfl; kernel_rfl; kernel_rfl)|(apply (q_callC (h2)); exact rfl; exact rfl; kernel_rfl; kernel_rfl; kernel_rfl)|(apply q_mv; (first|exact vD|exact vO|exact vP|exact vA|exact vF|exact vR|exact vN|exact vY|exact vT|exact vM|exact vL|exact vX))|(apply q_as; (first|exact vD|exact vO|exact vP|exact vA|exact vF|exact vR|exact vN|exact vY|exact vT|exact vM|exact vL|exact vX))|(apply q_lss; exact rfl; exact rfl)
    | (apply q_gtr; exact rfl; exact rfl)))|(apply AWP.seq)|(apply ACont_normal)|(apply W.region; kernel_rfl)|(apply Walk.nil)|(apply AWP.skip)|(apply AWP.ret)|(apply W.condF; exact rfl)
  | (refine W.cond _ rfl (fun hb => ?_) (fun hb => ?_) <;> ((try simp only [hb, Bool.not_true, Bool.not_false]) <;> (try simp only [decide_eq_true_eq, decide_eq_false_iff_not, Bool.not_eq_true', Bool.not_eq_false', Int.not_lt, Int.not_le, List.length_map, not_true_eq_false] at hb) <;> (try (exfalso; omega))))))
      all_goals exact ⟨.inl rfl, [], [iV 0], rfl, rfl, ⟨rfl, trivial⟩, AVle.of_eq rfl, rfl⟩
def orI : List Int → Int
  | [] => 0
  | x :: l => if x ≠ 0 then x else orI l
theorem orI_drop : ∀ (k : Nat) (l : List Int), (∀ x ∈ l.take k, x = 0) → orI l = orI (l.drop k)
  | 0, _, _ => rfl
  | k + 1, [], _ => rfl
  | k + 1, x :: l, h => by
    rw [orI, if_neg (by simpa using h x (by simp)), orI_drop k l fun y hy => h y (by simp [hy])]
    rfl
theorem A_or (l : List Int) (hl : l.length ≤ 1000000) : ACalls Tryd.prog 97 [ints l] [] (iV (orI l)) [] := by
  refine acalls_of_bodyO Tryd.func97 rfl (Nat.le_of_ble_eq_true rfl) ?_
  have hml : (l.map iD).length = l.length := List.length_map _
  (repeat' (first
  | (apply W.qd; (first
    | (apply q_mv; (first|exact vD|exact vO|exact vP|exact vA|exact vF|exact vR|exact vN|exact vY|exact vT|exact vM|exact vL|exact vX))|(apply q_as; (first|exact vD|exact vO|exact vP|exact vA|exact vF|exact vR|exact vN|exact vY|exact vT|exact vM|exact vL|exact vX))
    | (apply q_len_sl; exact rfl; exact rfl)))|(apply AWP.seq)|(apply ACont_normal)|(apply W.region; kernel_rfl)|(apply Walk.nil)
  | (apply AWP.block)))
  refine AWP.loopW (α := Nat) (fun k => k ≤ l.length ∧ ∀ x ∈ l.take k, x = 0) (fun k => ⟨[(8, iV k), (7, iV l.length), (6, ints l), (3, iV 0)], []⟩) (fun k => l.length - k) 0 ⟨by omega, by simp⟩ ⟨[], rfl, rfl, rfl, rfl, iV_eq (by simp), rfl, rfl, trivial⟩ fun k hk => ?_
  by_cases hkl : k < l.length
  · have ho : orI l = if l[k] ≠ 0 then l[k] else orI (l.drop (k + 1)) := by
      rw [orI_drop k l hk.2, List.drop_eq_getElem_cons hkl]
      rfl
    by_cases hz : l[k] = 0
    · (repeat' (first
  | (apply W.qd; (first
    | (apply q_mv; (first|exact vD|exact vO|exact vP|exact vA|exact vF|exact vR|exact vN|exact vY|exact vT|exact vM|exact vL|exact vX))|(apply q_as; (first|exact vD|exact vO|exact vP|exact vA|exact vF|exact vR|exact vN|exact vY|exact vT|exact vM|exact vL|exact vX))|(apply q_lss; exact rfl; exact rfl)|(apply q_neq; exact rfl; exact rfl)|(apply q_add; exact rfl; exact rfl; omega)|(apply q_ld_map; exact rfl; exact rfl; exact rfl; (first | omega | (focus (simp; done))))
    | (apply q_ix_slF; exact rfl; exact rfl; exact rfl; exact rfl; (first | (with_reducible exact rfl) | exact natI_spec rfl | assumption | exact (Int.toNat_of_nonneg (by omega)).symm); (first | omega | (focus (simp only [List.length_map]; omega)) | (focus (simp; done)) | (focus (simp; omega))))))|(apply AWP.seq)|(apply ACont_normal)|(apply W.region; kernel_rfl)|(apply Walk.nil)|(apply AWP.block)|(apply AWP.skip)|(apply ABlock_normal)
  | (refine W.cond _ rfl (fun hb => ?_) (fun hb => ?_) <;> ((try simp only [hb, Bool.not_true, Bool.not_false]) <;> (try simp only [decide_eq_true_eq, decide_eq_false_iff_not, Bool.not_eq_true', Bool.not_eq_false', Int.not_lt, Int.not_le, List.length_map, not_true_eq_false] at hb) <;> (try (exfalso; omega))))))
      refine ⟨k + 1, ⟨by omega, fun x hx => ?_⟩, by omega, [], rfl, rfl, rfl, iV_eq (by omega), rfl, rfl, rfl, trivial⟩
      rw [List.take_succ_eq_append_getElem hkl] at hx
      rcases List.mem_append.1 hx with hx | hx
      · exact hk.2 x hx
      · rw [List.mem_singleton.1 hx]; exact hz
    · rw [if_pos hz] at ho
      rw [ho]
      (repeat' (first
  | (apply W.qd; (first
    | (apply q_mv; (first|exact vD|exact vO|exact vP|exact vA|exact vF|exact vR|exact vN|exact vY|exact vT|exact vM|exact vL|exact vX))|(apply q_as; (first|exact vD|exact vO|exact vP|exact vA|exact vF|exact vR|exact vN|exact vY|exact vT|exact vM|exact vL|exact vX))|(apply q_lss; exact rfl; exact rfl)|(apply q_neq; exact rfl; exact rfl)|(apply q_ld_map; exact rfl; exact rfl; exact rfl; (first | omega | (focus (simp; done))))
    | (apply q_ix_slF; exact rfl; exact rfl; exact rfl; exact rfl; (first | (with_reducible exact rfl) | exact natI_spec rfl | assumption | exact (Int.toNat_of_nonneg (by omega)).symm); (first | omega | (focus (simp only [List.length_map]; omega)) | (focus (simp; done)) | (focus (simp; omega))))))|(apply AWP.seq)|(apply ACont_normal)|(apply W.region; kernel_rfl)|(apply Walk.nil)|(apply AWP.block)|(apply AWP.skip)|(apply AWP.ret)|(apply ACont_ret)|(apply ABlock_ret)
  | (refine W.cond _ rfl (fun hb => ?_) (fun hb => ?_) <;> ((try simp only [hb, Bool.not_true, Bool.not_false]) <;> (try simp only [decide_eq_true_eq, decide_eq_false_iff_not, Bool.not_eq_true', Bool.not_eq_false', Int.not_lt, Int.not_le, List.length_map, not_true_eq_false] at hb) <;> (try (exfalso; omega))))))
      exact ⟨.inl rfl, [], [iV l[k]], rfl, rfl, ⟨rfl, trivial⟩, AVle.of_eq rfl, rfl⟩
  · have ho : orI l = 0 := by
      rw [orI_drop k l hk.2, List.drop_eq_nil_of_le (by omega)]; rfl
    rw [ho]
    (repeat' (first
  | (apply W.qd; (first
    | (apply q_mv; (first|exact vD|exact vO|exact vP|exact vA|exact vF|exact vR|exact vN|exact vY|exact vT|exact vM|exact vL|exact vX))|(apply q_as; (first|exact vD|exact vO|exact vP|exact vA|exact vF|exact vR|exact vN|exact vY|exact vT|exact vM|exact vL|exact vX))
    | (apply q_lss; exact rfl; exact rfl)))|(apply AWP.seq)|(apply ACont_normal)|(apply W.region; kernel_rfl)|(apply Walk.nil)|(apply AWP.exit)|(apply AWP.ret)|(apply ACont_exit)|(apply ABlock_exit)
  | (refine W.cond _ rfl (fun hb => ?_) (fun hb => ?_) <;> ((try simp only [hb, Bool.not_true, Bool.not_false]) <;> (try simp only [decide_eq_true_eq, decide_eq_false_iff_not, Bool.not_eq_true', Bool.not_eq_false', Int.not_lt, Int.not_le, List.length_map, not_true_eq_false] at hb) <;> (try (exfalso; omega))))))
    exact ⟨.inl rfl, [], [iV 0], rfl, rfl, ⟨rfl, trivial⟩, AVle.of_eq rfl, rfl⟩
end Go.Proofs.YtaclmbbiegklcaaDoor
end
section
/- Package repair over the machine of abstract values: checks, their terms. -/
namespace Go.Proofs.YtaclmbbiegklcaaDoor
open Go.RowKit
set_option maxHeartbeats 4000000
set_option maxRecDepth 100000
attribute [local irreducible] Quiet Eff OpOk AWPG ACont ABlock ACalls AGoto
theorem A_cloneB {l : List Bool} (h0 : 0 < l.length) (hl : l.length ≤ 1000000) : ACalls Tryd.prog 129 [bools l] [] (.osl 0 1 0 l.length) [.row 1 1 4 (l.map tD)] := by
  refine acalls_of_bodyO Tryd.func129 rfl (Nat.le_of_ble_eq_true rfl) ?_
  have hm : (l.map tD).length = l.length := List.length_map _
  (repeat' (first
  | (apply W.ed; (apply e_lit0F; exact rfl; exact rfl; exact rfl; exact rfl; exact rfl))
  | (apply W.qd; (first
    | (apply q_mv; (first|exact vD|exact vO|exact vP|exact vA|exact vF|exact vR|exact vN|exact vY|exact vT|exact vM|exact vL|exact vX))|(apply q_as; (first|exact vD|exact vO|exact vP|exact vA|exact vF|exact vR|exact vN|exact vY|exact vT|exact vM|exact vL|exact vX))
    | (apply q_eqnilm; exact rfl; exact rfl; exact rfl; (first | assumption | omega))))|(apply W.ed; (apply e_appF; exact rfl; exact rfl; exact rfl; exact rfl; exact rfl; exact rfl; exact rfl; exact rfl; (first | rfl | simp); (first | exact Nat.zero_lt_one | (focus (simp; done)) | omega); (first | (focus (simp; done)) | (focus (simp; omega)) | omega)))|(apply AWP.seq)|(apply ACont_normal)|(apply W.region; kernel_rfl)|(apply Walk.nil)|(apply AWP.skip)|(apply AWP.ret)
  | (apply W.condF; exact rfl)))
  refine ⟨.inl rfl, [0], [.osl 0 1 0 ((([] : List Nat).length) + (l.map tD).length)], rfl, rfl, ⟨rfl, trivial⟩, AVle.of_eq ?_, rfl⟩
  show AV.osl 0 1 0 (0 + (l.map tD).length) = .osl 0 1 0 l.length
  rw [hm, Nat.zero_add]
end Go.Proofs.YtaclmbbiegklcaaDoor
end
section
/- The reference's elimination over the machine of abstract values: eliminate. -/
namespace Go.Proofs.YtaclmbbiegklcaaDoor
open Go.RowKit
set_option maxHeartbeats 4000000
set_option maxRecDepth 100000
structure SysOk (M D C : Nat) (pm : List Nat) (Bl : List (List Nat)) : Prop where
  pl : pm.length = D
  nd : ∀ q q', q < D → q' < D → pm.getD q 0 = pm.getD q' 0 → q = q'
  lt : ∀ q, q < D → pm.getD q 0 < D
  bl : Bl.length = D
  rl : ∀ l ∈ Bl, l.length = C
  rx : ∀ l ∈ Bl, ∀ x ∈ l, x < 2 ^ M
theorem SysOk.set {M D C : Nat} {pm : List Nat} {Bl : List (List Nat)} (h : SysOk M D C pm Bl) (a : Nat) {l : List Nat} (h1 : l.length = C) (h2 : ∀ x ∈ l, x < 2 ^ M) : SysOk M D C pm (Bl.set a l) :=
  ⟨h.pl, h.nd, h.lt, by rw [List.length_set]; exact h.bl, fun x hx => (List.mem_or_eq_of_mem_set hx).elim (h.rl x) fun e => e ▸ h1, fun x hx => (List.mem_or_eq_of_mem_set hx).elim (h.rx x) fun e => e ▸ h2⟩
attribute [local irreducible] Quiet Eff OpOk AWPG ACont ABlock ACalls AGoto
end Go.Proofs.YtaclmbbiegklcaaDoor
end
section
/- Stable sorting, the plain law. No program in sight. -/
namespace Go.Proofs.YtaclmbbiegklcaaDoor
structure Weak {α : Type} (lt : α → α → Bool) : Prop where
  irr : ∀ a, lt a a = false
  trans : ∀ a b c, lt a b = true → lt b c = true → lt a c = true
  neg : ∀ a b c, lt a c = true → lt a b = true ∨ lt b c = true
def eqvB {α : Type} (lt : α → α → Bool) (c x : α) : Bool := !lt c x && !lt x c
def Srt {α : Type} (lt : α → α → Bool) (l : List α) : Prop := l.Pairwise fun a b => lt b a = false
def Stb {α : Type} (lt : α → α → Bool) (X Z : List α) : Prop := ∀ c, Z.filter (eqvB lt c) = X.filter (eqvB lt c)
section
variable {α : Type} {lt : α → α → Bool}
theorem Weak.asymm (h : Weak lt) {a b : α} (h1 : lt a b = true) : lt b a = false := by
  cases h2 : lt b a with
  | false => rfl
  | true => have := h.trans _ _ _ h1 h2; rw [h.irr] at this; cases this
theorem Weak.le_trans (h : Weak lt) {a b c : α} (h1 : lt b a = false) (h2 : lt c b = false) : lt c a = false := by
  cases h3 : lt c a with
  | false => rfl
  | true => rcases h.neg c b a h3 with h4 | h4 <;> simp_all
theorem Weak.lt_le (h : Weak lt) {a b c : α} (h1 : lt a b = true) (h2 : lt c b = false) : lt a c = true := by
  rcases h.neg a c b h1 with h4 | h4
  · exact h4
  · rw [h2] at h4; cases h4
theorem Weak.le_lt (h : Weak lt) {a b c : α} (h1 : lt b a = false) (h2 : lt b c = true) : lt a c = true := by
  rcases h.neg b a c h2 with h4 | h4
  · rw [h1] at h4; cases h4
  · exact h4
theorem eqv_self (h : Weak lt) (c : α) : eqvB lt c c = true := by unfold eqvB; rw [h.irr]; rfl
theorem eqv_not_lt (h : Weak lt) {c x u : α} (h1 : eqvB lt c x = true) (h2 : eqvB lt c u = true) : lt x u = false := by
  unfold eqvB at h1 h2
  simp only [Bool.and_eq_true, Bool.not_eq_true'] at h1 h2
  cases h3 : lt x u with
  | false => rfl
  | true => rcases h.neg x c u h3 with h4 | h4 <;> simp_all
theorem Stb.refl (X : List α) : Stb lt X X := fun _ => rfl
theorem Stb.trans {X Y Z : List α} (h1 : Stb lt X Y) (h2 : Stb lt Y Z) : Stb lt X Z := fun c => (h2 c).trans (h1 c)
theorem Stb.symm {X Y : List α} (h1 : Stb lt X Y) : Stb lt Y X := fun c => (h1 c).symm
theorem Stb.app {X Z X' Z' : List α} (h1 : Stb lt X Z) (h2 : Stb lt X' Z') : Stb lt (X ++ X') (Z ++ Z') := fun c => by
  rw [List.filter_append, List.filter_append, h1 c, h2 c]
theorem Stb.mem (h : Weak lt) {X Z : List α} (h1 : Stb lt X Z) (x : α) : x ∈ Z ↔ x ∈ X := by
  have := h1 x
  constructor
  · intro hx
    have : x ∈ X.filter (eqvB lt x) := by rw [← this]; exact List.mem_filter.2 ⟨hx, eqv_self h x⟩
    exact (List.mem_filter.1 this).1
  · intro hx
    have : x ∈ Z.filter (eqvB lt x) := by rw [this]; exact List.mem_filter.2 ⟨hx, eqv_self h x⟩
    exact (List.mem_filter.1 this).1
theorem Stb.count [DecidableEq α] (h : Weak lt) {X Z : List α} (h1 : Stb lt X Z) (x : α) : Z.count x = X.count x := by
  rw [← List.count_filter (eqv_self h x), ← List.count_filter (l := X) (eqv_self h x), h1 x]
theorem Stb.len [DecidableEq α] (h : Weak lt) {X Z : List α} (h1 : Stb lt X Z) : Z.length = X.length :=
  (List.perm_iff_count.2 fun x => h1.count h x).length_eq
theorem Stb.swap (h : Weak lt) {U X : List α} (hx : ∀ x ∈ X, ∀ u ∈ U, lt x u = true) : Stb lt (U ++ X) (X ++ U) := fun c => by
  rw [List.filter_append, List.filter_append]
  by_cases hu : U.filter (eqvB lt c) = []
  · rw [hu]; simp
  · have : X.filter (eqvB lt c) = [] := by
      rw [List.filter_eq_nil_iff]
      intro x hxm hc
      obtain ⟨u, hum⟩ := List.exists_mem_of_ne_nil _ hu
      obtain ⟨h2, h3⟩ := List.mem_filter.1 hum
      have := hx x hxm u h2
      rw [eqv_not_lt h hc h3] at this
      cases this
    rw [this]; simp
theorem srt_app {X Y : List α} : Srt lt (X ++ Y) ↔ Srt lt X ∧ Srt lt Y ∧ ∀ x ∈ X, ∀ y ∈ Y, lt y x = false := List.pairwise_append
theorem Srt.left {X Y : List α} (h : Srt lt (X ++ Y)) : Srt lt X := (srt_app.1 h).1
theorem Srt.right {X Y : List α} (h : Srt lt (X ++ Y)) : Srt lt Y := (srt_app.1 h).2.1
theorem Srt.last (h : Weak lt) {X : List α} {u : α} (hs : Srt lt (X ++ [u])) {x : α} (hx : x ∈ X ++ [u]) : lt u x = false := by
  rcases List.mem_append.1 hx with h1 | h1
  · exact (srt_app.1 hs).2.2 x h1 u (by simp)
  · rw [List.mem_singleton.1 h1]; exact h.irr u
theorem Srt.head (h : Weak lt) {X : List α} {u : α} (hs : Srt lt (u :: X)) {x : α} (hx : x ∈ u :: X) : lt x u = false := by
  rcases List.mem_cons.1 hx with rfl | h1
  · exact h.irr x
  · exact (List.pairwise_cons.1 hs).1 x h1
theorem srt_unique (h : Weak lt) : ∀ {X Z : List α}, Srt lt X → Srt lt Z → Stb lt X Z → X = Z
  | [], [], _, _, _ => rfl
  | [], z :: Z, _, _, hs => by have := (hs.mem h z).1 (by simp); simp at this
  | x :: X, [], _, _, hs => by have := (hs.mem h x).2 (by simp); simp at this
  | x :: X, z :: Z, hx, hz, hs => by
    have h1 : lt z x = false := hx.head h ((hs.mem h z).1 (by simp))
    have h2 : lt x z = false := hz.head h ((hs.mem h x).2 (by simp))
    have h3 := hs x
    have e : x = z := by
      rw [List.filter_cons, List.filter_cons, if_pos (eqv_self h x), if_pos (by unfold eqvB; rw [h1, h2]; rfl)] at h3
      injection h3 with h4 _; exact h4.symm
    subst e
    have ih := srt_unique h (X := X) (Z := Z) (List.pairwise_cons.1 hx).2 (List.pairwise_cons.1 hz).2 fun c => by
      have h4 := hs c
      rw [List.filter_cons, List.filter_cons] at h4
      split at h4
      · injection h4
      · exact h4
    rw [ih]
theorem srt_insert (h : Weak lt) {A B : List α} {x : α} (hs : Srt lt (A ++ B)) (hA : ∀ a ∈ A, lt x a = false) (hB : ∀ b ∈ B, lt b x = false) : Srt lt (A ++ x :: B) := by
  obtain ⟨h1, h2, h3⟩ := srt_app.1 hs
  refine srt_app.2 ⟨h1, List.pairwise_cons.2 ⟨hB, h2⟩, fun a ha b hb => ?_⟩
  rcases List.mem_cons.1 hb with rfl | hb
  · exact hA a ha
  · exact h3 a ha b hb
theorem merge_cut (h : Weak lt) {X1 X2 Y1 Y2 Z1 Z2 : List α} (hX : Srt lt (X1 ++ X2)) (hY : Srt lt (Y1 ++ Y2)) (h1 : ∀ y ∈ Y1, ∀ x ∈ X2, lt y x = true) (h2 : ∀ x ∈ X1, ∀ y ∈ Y2, lt y x = false)
    (s1 : Srt lt Z1) (s2 : Srt lt Z2) (b1 : Stb lt (X1 ++ Y1) Z1) (b2 : Stb lt (X2 ++ Y2) Z2) : Srt lt (Z1 ++ Z2) ∧ Stb lt ((X1 ++ X2) ++ (Y1 ++ Y2)) (Z1 ++ Z2) := by
  constructor
  · refine srt_app.2 ⟨s1, s2, fun a ha b hb => ?_⟩
    rw [b1.mem h, List.mem_append] at ha
    rw [b2.mem h, List.mem_append] at hb
    rcases ha with ha | ha <;> rcases hb with hb | hb
    · exact (srt_app.1 hX).2.2 a ha b hb
    · exact h2 a ha b hb
    · exact h.asymm (h1 a ha b hb)
    · exact (srt_app.1 hY).2.2 a ha b hb
  · refine Stb.trans ?_ (b1.app b2)
    have := ((Stb.refl X1).app (Stb.swap (lt := lt) h (U := X2) (X := Y1) fun y hy x hx => h1 y hy x hx)).app (Stb.refl Y2)
    simpa [List.append_assoc] using this
def insN (lt : α → α → Bool) (x : α) : List α → List α
  | [] => [x]
  | y :: l => if lt y x = true then y :: insN lt x l else x :: y :: l
def sortN (lt : α → α → Bool) : List α → List α
  | [] => []
  | x :: l => insN lt x (sortN lt l)
theorem insN_form (h : Weak lt) (x : α) : ∀ {l : List α}, Srt lt l → ∃ A B, l = A ++ B ∧ insN lt x l = A ++ x :: B ∧ (∀ a ∈ A, lt a x = true) ∧ ∀ b ∈ B, lt b x = false
  | [], _ => ⟨[], [], rfl, rfl, by simp, by simp⟩
  | y :: l, hs => by
    unfold insN
    by_cases hy : lt y x = true
    · rw [if_pos hy]
      obtain ⟨A, B, rfl, e, h1, h2⟩ := insN_form h x (List.pairwise_cons.1 hs).2
      refine ⟨y :: A, B, rfl, by rw [e]; rfl, fun a ha => ?_, h2⟩
      rcases List.mem_cons.1 ha with rfl | ha
      · exact hy
      · exact h1 a ha
    · rw [if_neg hy]
      refine ⟨[], y :: l, rfl, rfl, by simp, fun b hb => ?_⟩
      have hy := Bool.eq_false_iff.2 hy
      rcases List.mem_cons.1 hb with rfl | hb
      · exact hy
      · exact h.le_trans hy ((List.pairwise_cons.1 hs).1 b hb)
theorem sortN_spec (h : Weak lt) : ∀ l : List α, Srt lt (sortN lt l) ∧ Stb lt l (sortN lt l)
  | [] => ⟨List.Pairwise.nil, Stb.refl _⟩
  | x :: l => by
    obtain ⟨h1, h2⟩ := sortN_spec h l
    unfold sortN
    obtain ⟨A, B, e, e2, hA, hB⟩ := insN_form h x h1
    rw [e2]
    rw [e] at h1 h2
    refine ⟨srt_insert h h1 (fun a ha => h.asymm (hA a ha)) hB, ?_⟩
    have k1 : Stb lt ([x] ++ l) ([x] ++ (A ++ B)) := (Stb.refl [x]).app h2
    have k2 : Stb lt (([x] ++ A) ++ B) ((A ++ [x]) ++ B) := (Stb.swap h (U := [x]) (X := A) fun a ha u hu => by rw [List.mem_singleton.1 hu]; exact hA a ha).app (Stb.refl B)
    refine Stb.trans k1 ?_
    simpa using k2
theorem sortN_eq (h : Weak lt) {l Z : List α} (h1 : Srt lt Z) (h2 : Stb lt l Z) : Z = sortN lt l := by
  obtain ⟨k1, k2⟩ := sortN_spec h l
  exact srt_unique h h1 k1 (h2.symm.trans k2)
theorem sortN_self (h : Weak lt) {l : List α} (h1 : Srt lt l) : sortN lt l = l := (sortN_eq h h1 (Stb.refl l)).symm
theorem insN_len (x : α) : ∀ l : List α, (insN lt x l).length = l.length + 1
  | [] => rfl
  | y :: l => by
    unfold insN
    split
    · simp [insN_len x l]
    · rfl
theorem sortN_len : ∀ l : List α, (sortN lt l).length = l.length
  | [] => rfl
  | x :: l => by unfold sortN; rw [insN_len, sortN_len l]; rfl
end
end Go.Proofs.YtaclmbbiegklcaaDoor
end
section
/- The steps of the library's stable sort, as lists. No program in sight. -/
namespace Go.Proofs.YtaclmbbiegklcaaDoor
def bsN (p : Nat → Bool) (lo hi : Nat) : Nat :=
  if h : lo < hi then (if p ((lo + hi) / 2) then bsN p lo ((lo + hi) / 2) else bsN p ((lo + hi) / 2 + 1) hi) else lo
termination_by hi - lo
theorem bs_spec (p : Nat → Bool) : ∀ (n lo hi : Nat), hi - lo ≤ n → lo ≤ hi → lo ≤ bsN p lo hi ∧ bsN p lo hi ≤ hi ∧ (lo < bsN p lo hi → p (bsN p lo hi - 1) = false) ∧ (bsN p lo hi < hi → p (bsN p lo hi) = true)
  | n, lo, hi, hn, h => by
    rw [bsN]
    by_cases hlt : lo < hi
    · rw [dif_pos hlt]
      cases hp : p ((lo + hi) / 2) with
      | true =>
        rw [if_pos rfl]
        obtain ⟨m, rfl⟩ : ∃ m, n = m + 1 := ⟨n - 1, by omega⟩
        obtain ⟨h1, h2, h3, h4⟩ := bs_spec p m lo ((lo + hi) / 2) (by omega) (by omega)
        refine ⟨h1, by omega, h3, fun hr => ?_⟩
        by_cases e : bsN p lo ((lo + hi) / 2) < (lo + hi) / 2
        · exact h4 e
        · rw [show bsN p lo ((lo + hi) / 2) = (lo + hi) / 2 by omega]; exact hp
      | false =>
        rw [if_neg (by decide)]
        obtain ⟨m, rfl⟩ : ∃ m, n = m + 1 := ⟨n - 1, by omega⟩
        obtain ⟨h1, h2, h3, h4⟩ := bs_spec p m ((lo + hi) / 2 + 1) hi (by omega) (by omega)
        refine ⟨by omega, h2, fun hr => ?_, h4⟩
        by_cases e : (lo + hi) / 2 + 1 < bsN p ((lo + hi) / 2 + 1) hi
        · exact h3 e
        · rw [show bsN p ((lo + hi) / 2 + 1) hi = (lo + hi) / 2 + 1 by omega]; exact hp
    · rw [dif_neg hlt]
      exact ⟨Nat.le_refl _, h, fun e => by omega, fun e => by omega⟩
theorem bs_done (p : Nat → Bool) {lo hi : Nat} (h : ¬ lo < hi) : bsN p lo hi = lo := by rw [bsN, dif_neg h]
theorem bs_left {p : Nat → Bool} {lo hi : Nat} (h : lo < hi) (hp : p ((lo + hi) / 2) = true) : bsN p lo hi = bsN p lo ((lo + hi) / 2) := by rw [bsN, dif_pos h, if_pos hp]
theorem bs_right {p : Nat → Bool} {lo hi : Nat} (h : lo < hi) (hp : p ((lo + hi) / 2) = false) : bsN p lo hi = bsN p ((lo + hi) / 2 + 1) hi := by rw [bsN, dif_pos h, if_neg (by rw [hp]; decide)]
section
variable {α : Type}
def swpN (d : α) (L : List α) (a b : Nat) : List α := (L.set a (L.getD b d)).set b (L.getD a d)
theorem set_mid (P S : List α) (x y : α) : (P ++ x :: S).set P.length y = P ++ y :: S := by
  rw [List.set_append_right _ _ (Nat.le_refl _), Nat.sub_self]; rfl
theorem getD_mid (d : α) (P S : List α) (x : α) : (P ++ x :: S).getD P.length d = x := by
  rw [List.getD_eq_getElem?_getD, List.getElem?_append_right (Nat.le_refl _), Nat.sub_self]; rfl
theorem swp_mid (d : α) (P M S : List α) (u v : α) : swpN d (P ++ u :: (M ++ v :: S)) P.length (P.length + 1 + M.length) = P ++ v :: (M ++ u :: S) := by
  have e1 : P ++ u :: (M ++ v :: S) = (P ++ u :: M) ++ v :: S := by simp
  have e2 : P.length + 1 + M.length = (P ++ u :: M).length := by simp; omega
  unfold swpN
  rw [getD_mid]
  rw [e1, e2, getD_mid, ← e1, set_mid]
  have e3 : P ++ v :: (M ++ v :: S) = (P ++ v :: M) ++ v :: S := by simp
  rw [e3, show (P ++ u :: M).length = (P ++ v :: M).length by simp, set_mid]
  simp
theorem swp_comm (d : α) (L : List α) (a b : Nat) (h : a ≠ b) : swpN d L a b = swpN d L b a := by
  unfold swpN
  exact List.set_comm _ _ h
theorem swp_adj (d : α) (P S : List α) (u v : α) : swpN d (P ++ u :: v :: S) P.length (P.length + 1) = P ++ v :: u :: S := swp_mid d P [] S u v
theorem swp_adj' (d : α) (P S : List α) (u v : α) : swpN d (P ++ u :: v :: S) (P.length + 1) P.length = P ++ v :: u :: S := by
  rw [swp_comm d _ _ _ (by omega)]; exact swp_adj d P S u v
def swpF (d : α) : Nat → List α → Nat → Nat → List α
  | 0, L, _, _ => L
  | n + 1, L, a, b => swpF d n (swpN d L a b) (a + 1) (b + 1)
theorem swpF_block (d : α) : ∀ (U V P M S : List α), U.length = V.length → swpF d U.length (P ++ (U ++ (M ++ (V ++ S)))) P.length (P.length + U.length + M.length) = P ++ (V ++ (M ++ (U ++ S)))
  | [], [], P, M, S, _ => by simp [swpF]
  | [], _ :: _, P, M, S, h => by simp at h
  | _ :: _, [], P, M, S, h => by simp at h
  | u :: U, v :: V, P, M, S, h => by
    have h2 : U.length = V.length := by simpa using h
    have e0 : P ++ ((u :: U) ++ (M ++ ((v :: V) ++ S))) = P ++ u :: ((U ++ M) ++ v :: (V ++ S)) := by simp
    have e1 : P.length + (u :: U).length + M.length = P.length + 1 + (U ++ M).length := by simp; omega
    rw [List.length_cons, swpF, e0]
    rw [show P.length + (U.length + 1) + M.length = P.length + 1 + (U ++ M).length by simp; omega, swp_mid]
    have ih := swpF_block d U V (P ++ [v]) (M ++ [u]) S h2
    have e2 : P ++ v :: ((U ++ M) ++ u :: (V ++ S)) = (P ++ [v]) ++ (U ++ ((M ++ [u]) ++ (V ++ S))) := by simp
    rw [e2, show P.length + 1 = (P ++ [v]).length by simp, show (P ++ [v]).length + (U ++ M).length + 1 = (P ++ [v]).length + U.length + (M ++ [u]).length by simp; omega, ih]
    simp
def Blk (lt : α → α → Bool) (s : Nat) (Q : List α) : Prop := ∀ i, Srt lt ((Q.drop (i * s)).take s)
theorem blk_nil (lt : α → α → Bool) (s : Nat) : Blk lt s [] := fun i => by simp [Srt]
theorem blk_app {lt : α → α → Bool} {s k : Nat} {Q S : List α} (h : Blk lt s Q) (hl : Q.length = k * s) (hs : S.length ≤ s) (h2 : Srt lt S) : Blk lt s (Q ++ S) := fun i => by
  rcases Nat.lt_trichotomy i k with h1 | h1 | h1
  · have h3 := h i
    have h4 : i * s + s ≤ Q.length := by
      rw [hl]
      have := Nat.mul_le_mul_right s (show i + 1 ≤ k from h1)
      rwa [Nat.succ_mul] at this
    rw [List.drop_append_of_le_length (by omega), List.take_append_of_le_length (by rw [List.length_drop]; omega)]
    exact h3
  · subst h1
    rw [← hl, List.drop_left, List.take_of_length_le hs]
    exact h2
  · have h4 : k * s + s ≤ i * s := by
      have := Nat.mul_le_mul_right s (show k + 1 ≤ i from h1)
      rwa [Nat.succ_mul] at this
    rw [List.drop_eq_nil_of_le (by rw [List.length_append]; omega)]
    simp [Srt]
theorem blk_whole {lt : α → α → Bool} {s : Nat} {Q : List α} (h : Blk lt s Q) (hs : Q.length ≤ s) : Srt lt Q := by
  have := h 0
  rw [Nat.zero_mul, List.drop_zero, List.take_of_length_le hs] at this
  exact this
end
end Go.Proofs.YtaclmbbiegklcaaDoor
end
section
/- Layer 7 over the machine of abstract values: is a code valid, with its name and its domain? slices.Min, slices.Max. -/
namespace Go.Proofs.YtaclmbbiegklcaaDoor
open Go.RowKit
set_option maxHeartbeats 4000000
set_option maxRecDepth 100000
def letB (c : Nat) : Bool := decide (97 ≤ c) && decide (c ≤ 122)
def digB (c : Nat) : Bool := decide (48 ≤ c) && decide (c ≤ 57)
def wordAt (s : List Nat) (k : Nat) : Bool := letB (s.getD k 0) || (decide (k ≠ 0) && digB (s.getD k 0))
def wordB (s : List Nat) : Bool := decide (s ≠ []) && (List.range s.length).all (wordAt s)
def minK (l : List Int) : Nat → Int
  | 0 => l.getD 0 0
  | k + 1 => if l.getD (k + 1) 0 < minK l k then l.getD (k + 1) 0 else minK l k
def maxK (l : List Int) : Nat → Int
  | 0 => l.getD 0 0
  | k + 1 => if l.getD (k + 1) 0 > maxK l k then l.getD (k + 1) 0 else maxK l k
theorem minK_spec (l : List Int) : ∀ k, (∀ j, j ≤ k → minK l k ≤ l.getD j 0) ∧ ∃ j, j ≤ k ∧ minK l k = l.getD j 0
  | 0 => ⟨fun j hj => by obtain rfl : j = 0 := by omega
                         exact Int.le_refl _, 0, Nat.le_refl _, rfl⟩
  | k + 1 => by
    obtain ⟨h1, j, h2, h3⟩ := minK_spec l k
    unfold minK
    split
    · refine ⟨fun j hj => ?_, k + 1, Nat.le_refl _, rfl⟩
      by_cases e : j = k + 1
      · subst e; exact Int.le_refl _
      · have := h1 j (by omega); omega
    · refine ⟨fun j hj => ?_, j, by omega, h3⟩
      by_cases e : j = k + 1
      · subst e; omega
      · exact h1 j (by omega)
theorem maxK_spec (l : List Int) : ∀ k, (∀ j, j ≤ k → l.getD j 0 ≤ maxK l k) ∧ ∃ j, j ≤ k ∧ maxK l k = l.getD j 0
  | 0 => ⟨fun j hj => by obtain rfl : j = 0 := by omega
                         exact Int.le_refl _, 0, Nat.le_refl _, rfl⟩
  | k + 1 => by
    obtain ⟨h1, j, h2, h3⟩ := maxK_spec l k
    unfold maxK
    split
    · refine ⟨fun j hj => ?_, k + 1, Nat.le_refl _, rfl⟩
      by_cases e : j = k + 1
      · subst e; exact Int.le_refl _
      · have := h1 j (by omega); omega
    · refine ⟨fun j hj => ?_, j, by omega, h3⟩
      by_cases e : j = k + 1
      · subst e; omega
      · exact h1 j (by omega)
theorem getDI_mem {l : List Int} {j : Nat} (h : j < l.length) : l.getD j 0 ∈ l := by
  rw [List.getD_eq_getElem?_getD, List.getElem?_eq_getElem h]; exact List.getElem_mem h
theorem memI_getD {l : List Int} {x : Int} (h : x ∈ l) : ∃ j, j < l.length ∧ l.getD j 0 = x := by
  obtain ⟨j, hj, rfl⟩ := List.getElem_of_mem h
  exact ⟨j, hj, by rw [List.getD_eq_getElem?_getD, List.getElem?_eq_getElem hj]; rfl⟩
theorem rowOk_min {M D : Int} {r : List Int} (hM : M = 8 ∨ M = 16) (hl : (r.length : Int) = D) (h0 : 0 < r.length) : rowOk M D r = (decide (0 ≤ minK r (r.length - 1)) && (decide (1 ≤ maxK r (r.length - 1)) && decide (maxK r (r.length - 1) < if M = 8 then 256 else 65536))) := by
  obtain ⟨n1, i, n2, n3⟩ := minK_spec r (r.length - 1)
  obtain ⟨x1, j, x2, x3⟩ := maxK_spec r (r.length - 1)
  unfold rowOk
  rw [decide_eq_true hl, Bool.true_and, Bool.eq_iff_iff]
  simp only [Bool.and_eq_true, decide_eq_true_eq, List.all_eq_true, Bool.not_eq_true', List.all_eq_false, allF, inF, List.all_cons, List.all_nil, Bool.and_true]
  constructor
  · rintro ⟨h1, x, hx, h2⟩
    have hi := h1 _ (getDI_mem (l := r) (j := i) (by omega))
    have hj := h1 _ (getDI_mem (l := r) (j := j) (by omega))
    obtain ⟨q, hq, rfl⟩ := memI_getD hx
    have h3 := (h1 _ hx).2.1
    have h4 := x1 q (by omega)
    refine ⟨by rw [n3]; exact hi.2.1, by omega, by rw [x3]; exact hj.2.2⟩
  · rintro ⟨h1, h2, h3⟩
    refine ⟨fun x hx => ?_, r.getD j 0, getDI_mem (by omega), by rw [← x3]; omega⟩
    obtain ⟨q, hq, rfl⟩ := memI_getD hx
    have h4 := n1 q (by omega)
    have h5 := x1 q (by omega)
    exact ⟨hM, by omega, by omega⟩
def chkC (nm : List Nat) (M D : Int) (par : List (List Int)) (dom : Int) : Bool :=
  (wordB nm && decide (nm.length ≤ 12)) && (decide (M = 8 ∨ M = 16) && decide (1 ≤ D) && decide (D ≤ 31) && decide (par.length ≠ 0) && decide (D + (par.length : Int) ≤ 32)) && par.all (rowOk M D) && (decide (1 ≤ dom) && decide (dom ≤ D + (par.length : Int)))
theorem chk_valid {nm : List Nat} {M D dom : Int} {par : List (List Int)} (h : chkC nm M D par dom = true) : validC M D par = true := by
  unfold chkC at h
  simp only [Bool.and_eq_true, decide_eq_true_eq] at h
  obtain ⟨⟨⟨h1, ⟨⟨⟨h2, h3⟩, h4⟩, h5⟩, h6⟩, h7⟩, h8⟩ := h
  unfold validC
  simp only [Bool.and_eq_true, decide_eq_true_eq]
  refine ⟨⟨⟨⟨?_, h3⟩, by omega⟩, by omega⟩, h7⟩
  unfold allF
  rw [decide_eq_true h2]
  rcases h2 with rfl | rfl <;> rfl
abbrev cdF (nm : List Nat) (M D : Int) (par : List (List Int)) (dom : Int) : AV := .agg [bS nm, iV M, iV D, rowsA par, iV dom]
theorem cdF_le {nm : List Nat} {M D dom : Int} {par : List (List Int)} {F : Nat → Prop} {own : List Ent} {κ : List (Option Nat)} {w : World} {u : Value} (h : AV.sat F own κ w (cdF nm M D par dom) u) : AV.sat F own κ w (cdA M D par) u := by
  rw [AV.sat] at h ⊢
  obtain ⟨us, h1, h2⟩ := h
  refine ⟨us, h1, ?_⟩
  generalize us.toList = l at h2
  rcases l with _ | ⟨a, _ | ⟨b, _ | ⟨c, _ | ⟨d, _ | ⟨e, l⟩⟩⟩⟩⟩ <;> simp only [AV.satL, and_false, and_assoc] at h2 ⊢
  obtain ⟨h3, h4, h5, h6, h7, h8⟩ := h2
  rw [sat_v] at h3 h7
  subst h3; subst h7
  refine ⟨?_, h4, h5, h6, ?_, h8⟩
  · rw [AV.sat, Dat.sat]; rfl
  · rw [AV.sat, Dat.sat]; rfl
theorem ACalls.cdF {P : Program} {f : FuncId} {nm : List Nat} {M D dom : Int} {par : List (List Int)} {l : List AV} {r : AV} {own own' : List Ent} (h : ACalls P f (cdA M D par :: l) own r own') : ACalls P f (cdF nm M D par dom :: l) own r own' :=
  h.le fun F κ w vs => satL_le1 (fun F own κ w u => cdF_le) F own κ w vs
attribute [local irreducible] Quiet Eff OpOk AWPG ACont ABlock ACalls AGoto
theorem A_letter (c : Nat) : ACalls Tryd.prog 119 [.d (.v (.int .u8 c))] [] (bV (letB c)) [] := by
  refine acalls_of_body Tryd.func119 rfl (Nat.le_of_ble_eq_true rfl) ?_
  unfold letB
  (repeat' (first
  | (apply W.gOn; exact rfl; exact rfl)
  | (apply W.qd; (first
    | (apply q_mv; (first|exact vD|exact vO|exact vP|exact vA|exact vF|exact vR|exact vN|exact vY|exact vT|exact vM|exact vL|exact vX))|(apply q_as; (first|exact vD|exact vO|exact vP|exact vA|exact vF|exact vR|exact vN|exact vY|exact vT|exact vM|exact vL|exact vX))|(apply q_leq; exact rfl; exact rfl)|(apply q_geq; exact rfl; exact rfl)|(apply (q_pickT (u := .d _)); exact rfl; exact rfl)
    | (apply (q_pickF (u := .d _)); exact rfl; exact rfl)))|(refine W.gOff _ _ rfl rfl (by intro h; cases h) ?_)|(apply AWP.seq)|(apply ACont_normal)|(apply W.region; kernel_rfl)|(apply Walk.nil)|(apply AWP.ret)
  | (refine W.gT _ _ rfl rfl (fun hb => ?_) (fun hb => ?_) <;> ((try simp only [hb, Bool.not_true, Bool.not_false]) <;> (try simp only [decide_eq_true_eq, decide_eq_false_iff_not, Bool.not_eq_true', Bool.not_eq_false', Int.not_lt, Int.not_le, List.length_map, not_true_eq_false] at hb) <;> (try (exfalso; omega))))))
  all_goals refine Ends.b rfl ?_
  all_goals first | (rw [Bool.eq_iff_iff]; simp; omega) | (simp; omega)
theorem A_digit (c : Nat) : ACalls Tryd.prog 120 [.d (.v (.int .u8 c))] [] (bV (digB c)) [] := by
  refine acalls_of_body Tryd.func120 rfl (Nat.le_of_ble_eq_true rfl) ?_
  unfold digB
  (repeat' (first
  | (apply W.gOn; exact rfl; exact rfl)
  | (apply W.qd; (first
    | (apply q_mv; (first|exact vD|exact vO|exact vP|exact vA|exact vF|exact vR|exact vN|exact vY|exact vT|exact vM|exact vL|exact vX))|(apply q_as; (first|exact vD|exact vO|exact vP|exact vA|exact vF|exact vR|exact vN|exact vY|exact vT|exact vM|exact vL|exact vX))|(apply q_leq; exact rfl; exact rfl)|(apply q_geq; exact rfl; exact rfl)|(apply (q_pickT (u := .d _)); exact rfl; exact rfl)
    | (apply (q_pickF (u := .d _)); exact rfl; exact rfl)))|(refine W.gOff _ _ rfl rfl (by intro h; cases h) ?_)|(apply AWP.seq)|(apply ACont_normal)|(apply W.region; kernel_rfl)|(apply Walk.nil)|(apply AWP.ret)
  | (refine W.gT _ _ rfl rfl (fun hb => ?_) (fun hb => ?_) <;> ((try simp only [hb, Bool.not_true, Bool.not_false]) <;> (try simp only [decide_eq_true_eq, decide_eq_false_iff_not, Bool.not_eq_true', Bool.not_eq_false', Int.not_lt, Int.not_le, List.length_map, not_true_eq_false] at hb) <;> (try (exfalso; omega))))))
  all_goals refine Ends.b rfl ?_
  all_goals first | (rw [Bool.eq_iff_iff]; simp; omega) | (simp; omega)
theorem A_isField (M : Int) : ACalls Tryd.prog 75 [iV M] [] (bV (decide (M = 8 ∨ M = 16))) [] := by
  refine acalls_of_body Tryd.func75 rfl (Nat.le_of_ble_eq_true rfl) ?_
  (repeat' (first
  | (apply W.gOn; exact rfl; exact rfl)
  | (apply W.qd; (first
    | (apply q_mv; (first|exact vD|exact vO|exact vP|exact vA|exact vF|exact vR|exact vN|exact vY|exact vT|exact vM|exact vL|exact vX))|(apply q_as; (first|exact vD|exact vO|exact vP|exact vA|exact vF|exact vR|exact vN|exact vY|exact vT|exact vM|exact vL|exact vX))|(apply q_eql; exact rfl; exact rfl)|(apply (q_pickT (u := .d _)); exact rfl; exact rfl)
    | (apply (q_pickF (u := .d _)); exact rfl; exact rfl)))|(refine W.gOff _ _ rfl rfl (by intro h; cases h) ?_)|(apply AWP.seq)|(apply ACont_normal)|(apply W.region; kernel_rfl)|(apply Walk.nil)|(apply AWP.ret)
  | (refine W.gF _ _ rfl rfl (fun hb => ?_) (fun hb => ?_) <;> ((try simp only [hb, Bool.not_true, Bool.not_false]) <;> (try simp only [decide_eq_true_eq, decide_eq_false_iff_not, Bool.not_eq_true', Bool.not_eq_false', Int.not_lt, Int.not_le, List.length_map, not_true_eq_false] at hb) <;> (try (exfalso; omega))))))
  all_goals refine Ends.b rfl ?_
  all_goals first | (rw [Bool.eq_iff_iff]; simp; omega) | (simp; omega)
theorem A_isWord {s : List Nat} (hs : isB s) (hl : s.length < 9223372036854775808) : ACalls Tryd.prog 74 [bS s] [] (bV (wordB s)) [] := by
  refine acalls_of_body Tryd.func74 rfl (Nat.le_of_ble_eq_true rfl) ?_
  have hL := A_letter
  have hG := A_digit
  (repeat' (first
  | (apply W.qd; (first
    | (apply q_mv; (first|exact vD|exact vO|exact vP|exact vA|exact vF|exact vR|exact vN|exact vY|exact vT|exact vM|exact vL|exact vX))|(apply q_as; (first|exact vD|exact vO|exact vP|exact vA|exact vF|exact vR|exact vN|exact vY|exact vT|exact vM|exact vL|exact vX))
    | (apply q_len_bs; exact rfl; exact rfl)))|(apply AWP.seq)|(apply ACont_normal)|(apply (W.regionS 2); exact rfl; kernel_rfl)|(apply Walk.nil)
  | (apply AWP.block)))
  refine AWP.loopW (α := Nat) (fun k => k ≤ s.length ∧ ∀ j, j < k → wordAt s j = true) (fun k => ⟨[(6, iV k), (5, iV s.length), (0, bS s)], []⟩) (fun k => s.length - k) 0 ⟨Nat.zero_le _, fun j hj => by omega⟩ ⟨[], rfl, rfl, rfl, by (repeat (first | exact trivial | refine ⟨rfl, ?_⟩))⟩ fun k hk => ?_
  by_cases hkl : k < s.length
  · have eg : s.getD k 0 = s[k] := by rw [List.getD_eq_getElem?_getD, List.getElem?_eq_getElem hkl]; rfl
    have hnext : wordAt s k = true → ∀ j, j < k + 1 → wordAt s j = true := fun h j hj => by
      by_cases e : j = k
      · subst e; exact h
      · exact hk.2 j (by omega)
    have hbad : wordAt s k = false → wordB s = false := fun h => by
      unfold wordB
      rw [Bool.and_eq_false_iff]
      right
      rw [List.all_eq_false]
      exact ⟨k, List.mem_range.2 hkl, by rw [h]; decide⟩
    have hwa : wordAt s k = (letB s[k] || (decide (k ≠ 0) && digB s[k])) := by unfold wordAt; rw [eg]
    replace hwa := Lib.hid hwa
    (repeat' (first
  | (apply W.gOn; exact rfl; exact rfl)
  | (apply W.qd; (first
    | (apply (q_callC (hL s[k])); exact rfl; exact rfl; kernel_rfl; kernel_rfl; kernel_rfl)|(apply (q_callC (hG s[k])); exact rfl; exact rfl; kernel_rfl; kernel_rfl; kernel_rfl)|(apply q_mv; (first|exact vD|exact vO|exact vP|exact vA|exact vF|exact vR|exact vN|exact vY|exact vT|exact vM|exact vL|exact vX))|(apply q_as; (first|exact vD|exact vO|exact vP|exact vA|exact vF|exact vR|exact vN|exact vY|exact vT|exact vM|exact vL|exact vX))|(apply q_lss; exact rfl; exact rfl)|(apply q_eql; exact rfl; exact rfl)|(apply q_not; exact rfl)|(apply q_add; exact rfl; exact rfl; omega)|(apply q_ix_bs; exact rfl; exact rfl; exact rfl; (first | (with_reducible exact rfl) | exact natI_spec rfl | assumption | exact (Int.toNat_of_nonneg (by omega)).symm); (first | omega | (focus (simp only [List.length_map]; omega)) | (focus (simp; done)) | (focus (simp; omega))); assumption)|(apply (q_pickT (u := .d _)); exact rfl; exact rfl)
    | (apply (q_pickF (u := .d _)); exact rfl; exact rfl)))|(refine W.gOff _ _ rfl rfl (by intro h; cases h) ?_)|(apply AWP.seq)|(apply ACont_normal)|(apply W.region; kernel_rfl)|(apply Walk.nil)|(apply AWP.block)|(apply AWP.skip)|(apply AWP.ret)|(apply ACont_ret)|(apply ABlock_normal)|(apply ABlock_ret)|(apply W.condT; exact rfl)|(apply W.condF; exact rfl)|(refine W.gT _ _ rfl rfl (fun hb => ?_) (fun hb => ?_) <;> ((try simp only [hb, Bool.not_true, Bool.not_false]) <;> (try simp only [decide_eq_true_eq, decide_eq_false_iff_not, Bool.not_eq_true', Bool.not_eq_false', Int.not_lt, Int.not_le, List.length_map, not_true_eq_false] at hb) <;> (try (exfalso; omega))))|(refine W.gF _ _ rfl rfl (fun hb => ?_) (fun hb => ?_) <;> ((try simp only [hb, Bool.not_true, Bool.not_false]) <;> (try simp only [decide_eq_true_eq, decide_eq_false_iff_not, Bool.not_eq_true', Bool.not_eq_false', Int.not_lt, Int.not_le, List.length_map, not_true_eq_false] at hb) <;> (try (exfalso; omega))))
  | (refine W.cond _ rfl (fun hb => ?_) (fun hb => ?_) <;> ((try simp only [hb, Bool.not_true, Bool.not_false]) <;> (try simp only [decide_eq_true_eq, decide_eq_false_iff_not, Bool.not_eq_true', Bool.not_eq_false', Int.not_lt, Int.not_le, List.length_map, not_true_eq_false] at hb) <;> (try (exfalso; omega))))))
    all_goals first
      | (refine Ends.b rfl (hbad ?_).symm; rw [hwa.out, Bool.or_eq_false_iff, Bool.and_eq_false_iff]; exact ⟨by assumption, by first | exact .inl (decide_eq_false (by omega)) | exact .inr (by assumption)⟩)|(refine ⟨k + 1, ⟨by omega, hnext ?_⟩, by omega, [], rfl, rfl, rfl, iV_eq (by omega), rfl, rfl, trivial⟩; rw [hwa.out, Bool.or_eq_true, Bool.and_eq_true]; first | exact .inl (by assumption) | exact .inr ⟨decide_eq_true (by omega), by assumption⟩)
  · have hall : (List.range s.length).all (wordAt s) = true := by
      rw [List.all_eq_true]
      intro j hj
      exact hk.2 j (by have := List.mem_range.1 hj; omega)
    unfold wordB
    rw [hall, Bool.and_true]
    (repeat' (first
  | (apply W.qd; (first
    | ((apply (q_neqS (l' := [])); exact rfl; exact rfl; assumption; exact isB_nil))|(apply q_mv; (first|exact vD|exact vO|exact vP|exact vA|exact vF|exact vR|exact vN|exact vY|exact vT|exact vM|exact vL|exact vX))|(apply q_as; (first|exact vD|exact vO|exact vP|exact vA|exact vF|exact vR|exact vN|exact vY|exact vT|exact vM|exact vL|exact vX))
    | (apply q_lss; exact rfl; exact rfl)))|(apply AWP.seq)|(apply ACont_normal)|(apply W.region; kernel_rfl)|(apply Walk.nil)|(apply AWP.exit)|(apply AWP.ret)|(apply ACont_exit)|(apply ABlock_exit)
  | (refine W.cond _ rfl (fun hb => ?_) (fun hb => ?_) <;> ((try simp only [hb, Bool.not_true, Bool.not_false]) <;> (try simp only [decide_eq_true_eq, decide_eq_false_iff_not, Bool.not_eq_true', Bool.not_eq_false', Int.not_lt, Int.not_le, List.length_map, not_true_eq_false] at hb) <;> (try (exfalso; omega))))))
    refine Ends.b rfl ?_
    simp
theorem A_minI {l : List Int} (h0 : 0 < l.length) (hl : l.length ≤ 1000000) : ACalls Tryd.prog 76 [ints l] [] (iV (minK l (l.length - 1))) [] := by
  refine acalls_of_body Tryd.func76 rfl (Nat.le_of_ble_eq_true rfl) ?_
  have hml : (l.map iD).length = l.length := List.length_map _
  have e0 : minK l 0 = l[0] := by show l.getD 0 0 = _; rw [List.getD_eq_getElem?_getD, List.getElem?_eq_getElem h0]; rfl
  (repeat' (first
  | (apply W.qd; (first
    | (apply q_mv; (first|exact vD|exact vO|exact vP|exact vA|exact vF|exact vR|exact vN|exact vY|exact vT|exact vM|exact vL|exact vX))|(apply q_as; (first|exact vD|exact vO|exact vP|exact vA|exact vF|exact vR|exact vN|exact vY|exact vT|exact vM|exact vL|exact vX))|(apply q_lss; exact rfl; exact rfl)|(apply q_len_sl; exact rfl; exact rfl)|(apply q_ld_map; exact rfl; exact rfl; exact rfl; (first | omega | (focus (simp; done))))
    | (apply q_ix_slF; exact rfl; exact rfl; exact rfl; exact rfl; (first | (with_reducible exact rfl) | exact natI_spec rfl | assumption | exact (Int.toNat_of_nonneg (by omega)).symm); (first | omega | (focus (simp only [List.length_map]; omega)) | (focus (simp; done)) | (focus (simp; omega))))))|(apply AWP.seq)|(apply ACont_normal)|(apply (W.regionS 5); exact rfl; kernel_rfl)|(apply Walk.nil)|(apply AWP.block)|(apply AWP.skip)
  | (refine W.cond _ rfl (fun hb => ?_) (fun hb => ?_) <;> ((try simp only [hb, Bool.not_true, Bool.not_false]) <;> (try simp only [decide_eq_true_eq, decide_eq_false_iff_not, Bool.not_eq_true', Bool.not_eq_false', Int.not_lt, Int.not_le, List.length_map, not_true_eq_false] at hb) <;> (try (exfalso; omega))))))
  refine AWP.loopW (α := Nat) (fun k => k < l.length) (fun k => ⟨[(4, iV ((k + 1 : Nat) : Int)), (3, iV (minK l k)), (0, ints l)], []⟩) (fun k => l.length - k) 0 h0 (by rw [e0]; exact ⟨[], rfl, rfl, rfl, by (repeat (first | exact trivial | refine ⟨rfl, ?_⟩))⟩) fun k hk => ?_
  by_cases hkl : k + 1 < l.length
  · have e1 : minK l (k + 1) = if l[k + 1] < minK l k then l[k + 1] else minK l k := by
      show (if l.getD (k + 1) 0 < minK l k then l.getD (k + 1) 0 else minK l k) = _
      have : l.getD (k + 1) 0 = l[k + 1] := by rw [List.getD_eq_getElem?_getD, List.getElem?_eq_getElem hkl]; rfl
      rw [this]
    replace e1 := Lib.hid e1
    generalize minK l k = a at *
    (repeat' (first
  | (apply W.qd; (first
    | (apply q_mv; (first|exact vD|exact vO|exact vP|exact vA|exact vF|exact vR|exact vN|exact vY|exact vT|exact vM|exact vL|exact vX))|(apply q_as; (first|exact vD|exact vO|exact vP|exact vA|exact vF|exact vR|exact vN|exact vY|exact vT|exact vM|exact vL|exact vX))|(apply q_lss; exact rfl; exact rfl)|(apply q_add; exact rfl; exact rfl; omega)|(apply q_len_sl; exact rfl; exact rfl)|(apply q_ld_map; exact rfl; exact rfl; exact rfl; (first | omega | (focus (simp; done))))|(apply q_ix_slF; exact rfl; exact rfl; exact rfl; exact rfl; (first | (with_reducible exact rfl) | exact natI_spec rfl | assumption | exact (Int.toNat_of_nonneg (by omega)).symm); (first | omega | (focus (simp only [List.length_map]; omega)) | (focus (simp; done)) | (focus (simp; omega))))
    | (apply q_min; exact rfl; exact rfl)))|(apply AWP.seq)|(apply ACont_normal)|(apply W.region; kernel_rfl)|(apply Walk.nil)|(apply AWP.block)|(apply AWP.skip)|(apply ABlock_normal)
  | (refine W.cond _ rfl (fun hb => ?_) (fun hb => ?_) <;> ((try simp only [hb, Bool.not_true, Bool.not_false]) <;> (try simp only [decide_eq_true_eq, decide_eq_false_iff_not, Bool.not_eq_true', Bool.not_eq_false', Int.not_lt, Int.not_le, List.length_map, not_true_eq_false] at hb) <;> (try (exfalso; omega))))))
    refine ⟨k + 1, hkl, by omega, ?_⟩
    rw [e1.out]
    exact ⟨[], rfl, rfl, rfl, iV_eq (by omega), rfl, rfl, trivial⟩
  · have : k = l.length - 1 := by omega
    subst this
    generalize minK l (l.length - 1) = a at *
    (repeat' (first
  | (apply W.qd; (first
    | (apply q_mv; (first|exact vD|exact vO|exact vP|exact vA|exact vF|exact vR|exact vN|exact vY|exact vT|exact vM|exact vL|exact vX))|(apply q_as; (first|exact vD|exact vO|exact vP|exact vA|exact vF|exact vR|exact vN|exact vY|exact vT|exact vM|exact vL|exact vX))|(apply q_lss; exact rfl; exact rfl)
    | (apply q_len_sl; exact rfl; exact rfl)))|(apply AWP.seq)|(apply ACont_normal)|(apply W.region; kernel_rfl)|(apply Walk.nil)|(apply AWP.exit)|(apply AWP.ret)|(apply ACont_exit)|(apply ABlock_exit)
  | (refine W.cond _ rfl (fun hb => ?_) (fun hb => ?_) <;> ((try simp only [hb, Bool.not_true, Bool.not_false]) <;> (try simp only [decide_eq_true_eq, decide_eq_false_iff_not, Bool.not_eq_true', Bool.not_eq_false', Int.not_lt, Int.not_le, List.length_map, not_true_eq_false] at hb) <;> (try (exfalso; omega))))))
    exact Ends.i rfl rfl
theorem A_maxI {l : List Int} (h0 : 0 < l.length) (hl : l.length ≤ 1000000) : ACalls Tryd.prog 77 [ints l] [] (iV (maxK l (l.length - 1))) [] := by
  refine acalls_of_body Tryd.func77 rfl (Nat.le_of_ble_eq_true rfl) ?_
  have hml : (l.map iD).length = l.length := List.length_map _
  have e0 : maxK l 0 = l[0] := by show l.getD 0 0 = _; rw [List.getD_eq_getElem?_getD, List.getElem?_eq_getElem h0]; rfl
  (repeat' (first
  | (apply W.qd; (first
    | (apply q_mv; (first|exact vD|exact vO|exact vP|exact vA|exact vF|exact vR|exact vN|exact vY|exact vT|exact vM|exact vL|exact vX))|(apply q_as; (first|exact vD|exact vO|exact vP|exact vA|exact vF|exact vR|exact vN|exact vY|exact vT|exact vM|exact vL|exact vX))|(apply q_lss; exact rfl; exact rfl)|(apply q_len_sl; exact rfl; exact rfl)|(apply q_ld_map; exact rfl; exact rfl; exact rfl; (first | omega | (focus (simp; done))))
    | (apply q_ix_slF; exact rfl; exact rfl; exact rfl; exact rfl; (first | (with_reducible exact rfl) | exact natI_spec rfl | assumption | exact (Int.toNat_of_nonneg (by omega)).symm); (first | omega | (focus (simp only [List.length_map]; omega)) | (focus (simp; done)) | (focus (simp; omega))))))|(apply AWP.seq)|(apply ACont_normal)|(apply (W.regionS 5); exact rfl; kernel_rfl)|(apply Walk.nil)|(apply AWP.block)|(apply AWP.skip)
  | (refine W.cond _ rfl (fun hb => ?_) (fun hb => ?_) <;> ((try simp only [hb, Bool.not_true, Bool.not_false]) <;> (try simp only [decide_eq_true_eq, decide_eq_false_iff_not, Bool.not_eq_true', Bool.not_eq_false', Int.not_lt, Int.not_le, List.length_map, not_true_eq_false] at hb) <;> (try (exfalso; omega))))))
  refine AWP.loopW (α := Nat) (fun k => k < l.length) (fun k => ⟨[(4, iV ((k + 1 : Nat) : Int)), (3, iV (maxK l k)), (0, ints l)], []⟩) (fun k => l.length - k) 0 h0 (by rw [e0]; exact ⟨[], rfl, rfl, rfl, by (repeat (first | exact trivial | refine ⟨rfl, ?_⟩))⟩) fun k hk => ?_
  by_cases hkl : k + 1 < l.length
  · have e1 : maxK l (k + 1) = if l[k + 1] > maxK l k then l[k + 1] else maxK l k := by
      show (if l.getD (k + 1) 0 > maxK l k then l.getD (k + 1) 0 else maxK l k) = _
      have : l.getD (k + 1) 0 = l[k + 1] := by rw [List.getD_eq_getElem?_getD, List.getElem?_eq_getElem hkl]; rfl
      rw [this]
    replace e1 := Lib.hid e1
    generalize maxK l k = a at *
    (repeat' (first
  | (apply W.qd; (first
    | (apply q_mv; (first|exact vD|exact vO|exact vP|exact vA|exact vF|exact vR|exact vN|exact vY|exact vT|exact vM|exact vL|exact vX))|(apply q_as; (first|exact vD|exact vO|exact vP|exact vA|exact vF|exact vR|exact vN|exact vY|exact vT|exact vM|exact vL|exact vX))|(apply q_lss; exact rfl; exact rfl)|(apply q_add; exact rfl; exact rfl; omega)|(apply q_len_sl; exact rfl; exact rfl)|(apply q_ld_map; exact rfl; exact rfl; exact rfl; (first | omega | (focus (simp; done))))|(apply q_ix_slF; exact rfl; exact rfl; exact rfl; exact rfl; (first | (with_reducible exact rfl) | exact natI_spec rfl | assumption | exact (Int.toNat_of_nonneg (by omega)).symm); (first | omega | (focus (simp only [List.length_map]; omega)) | (focus (simp; done)) | (focus (simp; omega))))
    | (apply q_max; exact rfl; exact rfl)))|(apply AWP.seq)|(apply ACont_normal)|(apply W.region; kernel_rfl)|(apply Walk.nil)|(apply AWP.block)|(apply AWP.skip)|(apply ABlock_normal)
  | (refine W.cond _ rfl (fun hb => ?_) (fun hb => ?_) <;> ((try simp only [hb, Bool.not_true, Bool.not_false]) <;> (try simp only [decide_eq_true_eq, decide_eq_false_iff_not, Bool.not_eq_true', Bool.not_eq_false', Int.not_lt, Int.not_le, List.length_map, not_true_eq_false] at hb) <;> (try (exfalso; omega))))))
    refine ⟨k + 1, hkl, by omega, ?_⟩
    rw [e1.out]
    exact ⟨[], rfl, rfl, rfl, iV_eq (by omega), rfl, rfl, trivial⟩
  · have : k = l.length - 1 := by omega
    subst this
    generalize maxK l (l.length - 1) = a at *
    (repeat' (first
  | (apply W.qd; (first
    | (apply q_mv; (first|exact vD|exact vO|exact vP|exact vA|exact vF|exact vR|exact vN|exact vY|exact vT|exact vM|exact vL|exact vX))|(apply q_as; (first|exact vD|exact vO|exact vP|exact vA|exact vF|exact vR|exact vN|exact vY|exact vT|exact vM|exact vL|exact vX))|(apply q_lss; exact rfl; exact rfl)
    | (apply q_len_sl; exact rfl; exact rfl)))|(apply AWP.seq)|(apply ACont_normal)|(apply W.region; kernel_rfl)|(apply Walk.nil)|(apply AWP.exit)|(apply AWP.ret)|(apply ACont_exit)|(apply ABlock_exit)
  | (refine W.cond _ rfl (fun hb => ?_) (fun hb => ?_) <;> ((try simp only [hb, Bool.not_true, Bool.not_false]) <;> (try simp only [decide_eq_true_eq, decide_eq_false_iff_not, Bool.not_eq_true', Bool.not_eq_false', Int.not_lt, Int.not_le, List.length_map, not_true_eq_false] at hb) <;> (try (exfalso; omega))))))
    exact Ends.i rfl rfl
end Go.Proofs.YtaclmbbiegklcaaDoor
end
section
/- Layer 7 over the machine of abstract values: codelang.Check. -/
namespace Go.Proofs.YtaclmbbiegklcaaDoor
open Go.RowKit
set_option maxHeartbeats 4000000
set_option maxRecDepth 100000
attribute [local irreducible] Quiet Eff OpOk AWPG ACont ABlock ACalls AGoto
theorem shr8 {x : Int} (h : 0 ≤ x) : (0 < ((x.toNat >>> 8 : Nat) : Int)) ↔ 256 ≤ x := by
  rw [Nat.shiftRight_eq_div_pow]; omega
theorem shr16 {x : Int} (h : 0 ≤ x) : (0 < ((x.toNat >>> 16 : Nat) : Int)) ↔ 65536 ≤ x := by
  rw [Nat.shiftRight_eq_div_pow]; omega
theorem A_lcheck {nm : List Nat} {M D dom : Int} {par : List (List Int)} (hn : isB nm) (hnl : nm.length < 9223372036854775808) (hD : 0 ≤ D ∧ D ≤ 1000000) (hP : par.length ≤ 1000000) :
    ∃ e : Int, ACalls Tryd.prog 37 [cdF nm M D par dom] [] (iV e) [] ∧ (e = 0 ↔ chkC nm M D par dom = true) := by
  have hW := A_isWord hn hnl
  have hI := A_isField M
  have hmp : (par.map rD).length = par.length := List.length_map _
  by_cases c1 : wordB nm = true
  case neg =>
    have c1 := Bool.eq_false_iff.2 c1
    refine ⟨4, ?_, by unfold chkC; rw [c1]; simp⟩
    rw [c1] at hW
    refine acalls_of_body Tryd.func37 rfl (Nat.le_of_ble_eq_true rfl) ?_
    (repeat' (first
  | (apply W.qd; (first
    | (apply (q_callC (hW)); exact rfl; exact rfl; kernel_rfl; kernel_rfl; kernel_rfl)|(apply q_as; (first|exact vD|exact vO|exact vP|exact vA|exact vF|exact vR|exact vN|exact vY|exact vT|exact vM|exact vL|exact vX))|(apply q_fld_optF; exact rfl; exact rfl; exact rfl)|(apply q_ld_box; exact rfl; exact rfl; exact rfl; exact rfl)|(apply q_not; exact rfl)|(apply q_add; exact rfl; exact rfl; omega)
    | (apply q_len_sl; exact rfl; exact rfl)))|(apply W.ed; (apply e_boxF; exact rfl; exact rfl; exact rfl; kernel_rfl; kernel_rfl))|(apply AWP.seq)|(apply ACont_normal)|(apply W.region; kernel_rfl)|(apply Walk.nil)|(apply AWP.block)|(apply AWP.ret)|(apply ACont_ret)|(apply ABlock_ret)
  | (apply W.condT; exact rfl)))
    exact Ends.i rfl rfl
  rw [c1] at hW
  by_cases c2 : nm.length ≤ 12
  case neg =>
    refine ⟨2, ?_, by unfold chkC; rw [decide_eq_false c2]; simp⟩
    refine acalls_of_body Tryd.func37 rfl (Nat.le_of_ble_eq_true rfl) ?_
    (repeat' (first
  | (apply W.qd; (first
    | (apply (q_callC (hW)); exact rfl; exact rfl; kernel_rfl; kernel_rfl; kernel_rfl)|(apply q_as; (first|exact vD|exact vO|exact vP|exact vA|exact vF|exact vR|exact vN|exact vY|exact vT|exact vM|exact vL|exact vX))|(apply q_fld_optF; exact rfl; exact rfl; exact rfl)|(apply q_ld_box; exact rfl; exact rfl; exact rfl; exact rfl)|(apply q_gtr; exact rfl; exact rfl)|(apply q_not; exact rfl)|(apply q_add; exact rfl; exact rfl; omega)|(apply q_len_sl; exact rfl; exact rfl)
    | (apply q_len_bs; exact rfl; exact rfl)))|(apply W.ed; (apply e_boxF; exact rfl; exact rfl; exact rfl; kernel_rfl; kernel_rfl))|(apply AWP.seq)|(apply ACont_normal)|(apply W.region; kernel_rfl)|(apply Walk.nil)|(apply AWP.block)|(apply AWP.ret)|(apply ACont_ret)|(apply ABlock_ret)|(apply W.condF; exact rfl)
  | (refine W.cond _ rfl (fun hb => ?_) (fun hb => ?_) <;> ((try simp only [hb, Bool.not_true, Bool.not_false]) <;> (try simp only [decide_eq_true_eq, decide_eq_false_iff_not, Bool.not_eq_true', Bool.not_eq_false', Int.not_lt, Int.not_le, List.length_map, not_true_eq_false] at hb) <;> (try (exfalso; omega))))))
    exact Ends.i rfl rfl
  by_cases c3 : (M = 8 ∨ M = 16) ∧ 1 ≤ D ∧ D ≤ 31 ∧ par.length ≠ 0
  case neg =>
    refine ⟨1, ?_, ?_⟩
    · refine acalls_of_body Tryd.func37 rfl (Nat.le_of_ble_eq_true rfl) ?_
      (repeat' (first
  | (apply W.gOn; exact rfl; exact rfl)
  | (apply W.qd; (first
    | (apply (q_callC (hW)); exact rfl; exact rfl; kernel_rfl; kernel_rfl; kernel_rfl)|(apply (q_callC (hI)); exact rfl; exact rfl; kernel_rfl; kernel_rfl; kernel_rfl)|(apply q_mv; (first|exact vD|exact vO|exact vP|exact vA|exact vF|exact vR|exact vN|exact vY|exact vT|exact vM|exact vL|exact vX))|(apply q_as; (first|exact vD|exact vO|exact vP|exact vA|exact vF|exact vR|exact vN|exact vY|exact vT|exact vM|exact vL|exact vX))|(apply q_fld_optF; exact rfl; exact rfl; exact rfl)|(apply q_ld_box; exact rfl; exact rfl; exact rfl; exact rfl)|(apply q_lss; exact rfl; exact rfl)|(apply q_gtr; exact rfl; exact rfl)|(apply q_eql; exact rfl; exact rfl)|(apply q_not; exact rfl)|(apply q_add; exact rfl; exact rfl; omega)|(apply q_len_sl; exact rfl; exact rfl)|(apply q_len_bs; exact rfl; exact rfl)|(apply (q_pickT (u := .d _)); exact rfl; exact rfl)
    | (apply (q_pickF (u := .d _)); exact rfl; exact rfl)))|(apply W.ed; (apply e_boxF; exact rfl; exact rfl; exact rfl; kernel_rfl; kernel_rfl))|(refine W.gOff _ _ rfl rfl (by intro h; cases h) ?_)|(apply AWP.seq)|(apply ACont_normal)|(apply W.region; kernel_rfl)|(apply Walk.nil)|(apply AWP.block)|(apply AWP.ret)|(apply ACont_ret)|(apply ABlock_ret)|(apply W.condT; exact rfl)|(apply W.condF; exact rfl)|(refine W.gF _ _ rfl rfl (fun hb => ?_) (fun hb => ?_) <;> ((try simp only [hb, Bool.not_true, Bool.not_false]) <;> (try simp only [decide_eq_true_eq, decide_eq_false_iff_not, Bool.not_eq_true', Bool.not_eq_false', Int.not_lt, Int.not_le, List.length_map, not_true_eq_false] at hb) <;> (try (exfalso; omega))))
  | (refine W.cond _ rfl (fun hb => ?_) (fun hb => ?_) <;> ((try simp only [hb, Bool.not_true, Bool.not_false]) <;> (try simp only [decide_eq_true_eq, decide_eq_false_iff_not, Bool.not_eq_true', Bool.not_eq_false', Int.not_lt, Int.not_le, List.length_map, not_true_eq_false] at hb) <;> (try (exfalso; omega))))))
      all_goals first | exact Ends.i rfl rfl | (exfalso; apply c3; refine ⟨by assumption, by omega, by omega, by omega⟩)
    · refine ⟨fun h => by omega, fun h => ?_⟩
      unfold chkC at h
      simp only [Bool.and_eq_true, decide_eq_true_eq] at h
      exact absurd ⟨h.1.1.2.1.1.1.1, h.1.1.2.1.1.1.2, h.1.1.2.1.1.2, h.1.1.2.1.2⟩ c3
  obtain ⟨c3, c4, c5, c6⟩ := c3
  rw [decide_eq_true c3] at hI
  by_cases c7 : D + (par.length : Int) ≤ 32
  case neg =>
    refine ⟨2, ?_, by unfold chkC; rw [decide_eq_false c7]; simp⟩
    refine acalls_of_body Tryd.func37 rfl (Nat.le_of_ble_eq_true rfl) ?_
    (repeat' (first
  | (apply W.gOn; exact rfl; exact rfl)
  | (apply W.qd; (first
    | (apply (q_callC (hW)); exact rfl; exact rfl; kernel_rfl; kernel_rfl; kernel_rfl)|(apply (q_callC (hI)); exact rfl; exact rfl; kernel_rfl; kernel_rfl; kernel_rfl)|(apply q_mv; (first|exact vD|exact vO|exact vP|exact vA|exact vF|exact vR|exact vN|exact vY|exact vT|exact vM|exact vL|exact vX))|(apply q_as; (first|exact vD|exact vO|exact vP|exact vA|exact vF|exact vR|exact vN|exact vY|exact vT|exact vM|exact vL|exact vX))|(apply q_fld_optF; exact rfl; exact rfl; exact rfl)|(apply q_ld_box; exact rfl; exact rfl; exact rfl; exact rfl)|(apply q_lss; exact rfl; exact rfl)|(apply q_gtr; exact rfl; exact rfl)|(apply q_eql; exact rfl; exact rfl)|(apply q_not; exact rfl)|(apply q_add; exact rfl; exact rfl; omega)|(apply q_len_sl; exact rfl; exact rfl)|(apply q_len_bs; exact rfl; exact rfl)
    | (apply (q_pickF (u := .d _)); exact rfl; exact rfl)))|(apply W.ed; (apply e_boxF; exact rfl; exact rfl; exact rfl; kernel_rfl; kernel_rfl))|(apply AWP.seq)|(apply ACont_normal)|(apply W.region; kernel_rfl)|(apply Walk.nil)|(apply AWP.block)|(apply AWP.ret)|(apply ACont_ret)|(apply ABlock_ret)|(apply W.condF; exact rfl)|(refine W.gF _ _ rfl rfl (fun hb => ?_) (fun hb => ?_) <;> ((try simp only [hb, Bool.not_true, Bool.not_false]) <;> (try simp only [decide_eq_true_eq, decide_eq_false_iff_not, Bool.not_eq_true', Bool.not_eq_false', Int.not_lt, Int.not_le, List.length_map, not_true_eq_false] at hb) <;> (try (exfalso; omega))))
  | (refine W.cond _ rfl (fun hb => ?_) (fun hb => ?_) <;> ((try simp only [hb, Bool.not_true, Bool.not_false]) <;> (try simp only [decide_eq_true_eq, decide_eq_false_iff_not, Bool.not_eq_true', Bool.not_eq_false', Int.not_lt, Int.not_le, List.length_map, not_true_eq_false] at hb) <;> (try (exfalso; omega))))))
    exact Ends.i rfl rfl
  have hall : ∀ e : Int, (par.all (rowOk M D) = false → e = 1) → (par.all (rowOk M D) = true → e = if 1 ≤ dom ∧ dom ≤ D + (par.length : Int) then 0 else 1) → ACalls Tryd.prog 37 [cdF nm M D par dom] [] (iV e) [] := fun e he0 he1 => by
    refine acalls_of_body Tryd.func37 rfl (Nat.le_of_ble_eq_true rfl) ?_
    (repeat' (first
  | (apply W.gOn; exact rfl; exact rfl)
  | (apply W.qd; (first
    | (apply (q_callC (hW)); exact rfl; exact rfl; kernel_rfl; kernel_rfl; kernel_rfl)|(apply (q_callC (hI)); exact rfl; exact rfl; kernel_rfl; kernel_rfl; kernel_rfl)|(apply q_mv; (first|exact vD|exact vO|exact vP|exact vA|exact vF|exact vR|exact vN|exact vY|exact vT|exact vM|exact vL|exact vX))|(apply q_as; (first|exact vD|exact vO|exact vP|exact vA|exact vF|exact vR|exact vN|exact vY|exact vT|exact vM|exact vL|exact vX))|(apply q_fld_optF; exact rfl; exact rfl; exact rfl)|(apply q_ld_box; exact rfl; exact rfl; exact rfl; exact rfl)|(apply q_lss; exact rfl; exact rfl)|(apply q_gtr; exact rfl; exact rfl)|(apply q_eql; exact rfl; exact rfl)|(apply q_not; exact rfl)|(apply q_add; exact rfl; exact rfl; omega)|(apply q_len_sl; exact rfl; exact rfl)|(apply q_len_bs; exact rfl; exact rfl)
    | (apply (q_pickF (u := .d _)); exact rfl; exact rfl)))|(apply W.ed; (apply e_boxF; exact rfl; exact rfl; exact rfl; kernel_rfl; kernel_rfl))|(apply AWP.seq)|(apply ACont_normal)|(apply (W.regionS 11); exact rfl; kernel_rfl)|(apply Walk.nil)|(apply AWP.block)|(apply AWP.skip)|(apply ABlock_normal)|(apply W.condF; exact rfl)|(refine W.gF _ _ rfl rfl (fun hb => ?_) (fun hb => ?_) <;> ((try simp only [hb, Bool.not_true, Bool.not_false]) <;> (try simp only [decide_eq_true_eq, decide_eq_false_iff_not, Bool.not_eq_true', Bool.not_eq_false', Int.not_lt, Int.not_le, List.length_map, not_true_eq_false] at hb) <;> (try (exfalso; omega))))
  | (refine W.cond _ rfl (fun hb => ?_) (fun hb => ?_) <;> ((try simp only [hb, Bool.not_true, Bool.not_false]) <;> (try simp only [decide_eq_true_eq, decide_eq_false_iff_not, Bool.not_eq_true', Bool.not_eq_false', Int.not_lt, Int.not_le, List.length_map, not_true_eq_false] at hb) <;> (try (exfalso; omega))))))
    refine AWP.loopW (α := Nat) (fun k => k ≤ par.length ∧ ∀ j, j < k → rowOk M D (par.getD j []) = true) (fun k => ⟨[(49, iV k), (48, iV par.length), (47, rowsA par), (3, iV (D + (par.length : Int))), (1, .opt 0 0)], [.box [bS nm, iV M, iV D, rowsA par, iV dom]]⟩) (fun k => par.length - k) 0 ⟨Nat.zero_le _, fun j hj => by omega⟩ ?wk0 fun k hk => ?_
    case wk0 => exact ⟨[0], rfl, rfl, rfl, rfl, iV_eq (by omega), rfl, iV_eq (by omega), rfl, trivial⟩
    by_cases hkl : k < par.length
    · have eg : par.getD k [] = par[k] := by rw [List.getD_eq_getElem?_getD, List.getElem?_eq_getElem hkl]; rfl
      have hnext : rowOk M D par[k] = true → ∀ j, j < k + 1 → rowOk M D (par.getD j []) = true := fun h j hj => by
        by_cases e : j = k
        · subst e; rw [eg]; exact h
        · exact hk.2 j (by omega)
      have hbad : rowOk M D par[k] = false → e = 1 := fun h => he0 (by rw [List.all_eq_false]; exact ⟨par[k], List.getElem_mem hkl, by rw [h]; decide⟩)
      generalize hr : par[k] = r at hnext hbad
      have hmr : (r.map iD).length = r.length := List.length_map _
      by_cases hrl : (r.length : Int) = D
      · have h0 : 0 < r.length := by omega
        have hmn := A_minI h0 (by omega)
        have hmx := A_maxI h0 (by omega)
        have hro := rowOk_min (M := M) c3 hrl h0
        generalize minK r (r.length - 1) = mn at *
        generalize maxK r (r.length - 1) = mx at *
        rw [← hr] at hmn hmx hrl
        clear he0 he1 hk
        rcases c3 with rfl | rfl
        · rw [if_pos rfl] at hro
          have hsh := fun h => shr8 (x := mx) h
          replace hro := Lib.hid hro
          (repeat' (first
  | (apply W.gOn; exact rfl; exact rfl)
  | (apply W.qd; (first
    | (apply (q_callC (hmn)); exact rfl; exact rfl; kernel_rfl; kernel_rfl; kernel_rfl)|(apply (q_callC (hmx)); exact rfl; exact rfl; kernel_rfl; kernel_rfl; kernel_rfl)|(apply q_mv; (first|exact vD|exact vO|exact vP|exact vA|exact vF|exact vR|exact vN|exact vY|exact vT|exact vM|exact vL|exact vX))|(apply q_as; (first|exact vD|exact vO|exact vP|exact vA|exact vF|exact vR|exact vN|exact vY|exact vT|exact vM|exact vL|exact vX))|(apply q_fld_optF; exact rfl; exact rfl; exact rfl)|(apply q_ld_box; exact rfl; exact rfl; exact rfl; exact rfl)|(apply q_lss; exact rfl; exact rfl)|(apply q_gtr; exact rfl; exact rfl)|(apply q_neq; exact rfl; exact rfl)|(apply q_add; exact rfl; exact rfl; omega)|(apply q_len_sl; exact rfl; exact rfl)|(apply q_ld_map; exact rfl; exact rfl; exact rfl; (first | omega | (focus (simp; done))))|(apply q_ix_slF; exact rfl; exact rfl; exact rfl; exact rfl; (first | (with_reducible exact rfl) | exact natI_spec rfl | assumption | exact (Int.toNat_of_nonneg (by omega)).symm); (first | omega | (focus (simp only [List.length_map]; omega)) | (focus (simp; done)) | (focus (simp; omega))))|(apply (q_pickT (u := .d _)); exact rfl; exact rfl)|(apply (q_pickF (u := .d _)); exact rfl; exact rfl)
    | (apply q_shrN; exact rfl; exact rfl; (first | (with_reducible exact rfl) | exact natI_spec rfl | assumption | exact (Int.toNat_of_nonneg (by omega)).symm); (first | (with_reducible exact rfl) | exact natI_spec rfl | assumption | exact (Int.toNat_of_nonneg (by omega)).symm); focus (show _ ≤ 64; omega))))|(refine W.gOff _ _ rfl rfl (by intro h; cases h) ?_)|(apply AWP.seq)|(apply ACont_normal)|(apply W.region; kernel_rfl)|(apply W.regionD; exact rfl; kernel_rfl)|(apply Walk.nil)|(apply W.chk; kernel_rfl)|(apply AWP.block)|(apply AWP.skip)|(apply AWP.ret)|(apply ACont_ret)|(apply ABlock_normal)|(apply ABlock_ret)|(apply W.condT; exact rfl)|(refine W.gF _ _ rfl rfl (fun hb => ?_) (fun hb => ?_) <;> ((try simp only [hb, Bool.not_true, Bool.not_false]) <;> (try simp only [decide_eq_true_eq, decide_eq_false_iff_not, Bool.not_eq_true', Bool.not_eq_false', Int.not_lt, Int.not_le, List.length_map, not_true_eq_false] at hb) <;> (try (exfalso; omega))))
  | (refine W.cond _ rfl (fun hb => ?_) (fun hb => ?_) <;> ((try simp only [hb, Bool.not_true, Bool.not_false]) <;> (try simp only [decide_eq_true_eq, decide_eq_false_iff_not, Bool.not_eq_true', Bool.not_eq_false', Int.not_lt, Int.not_le, List.length_map, not_true_eq_false] at hb) <;> (try (exfalso; omega))))))
          all_goals first
            | (refine Ends.i rfl (hbad ?_).symm; rw [hro.out, Bool.and_eq_false_iff, Bool.and_eq_false_iff, decide_eq_false_iff_not, decide_eq_false_iff_not, decide_eq_false_iff_not]; omega)|(refine ⟨k + 1, ⟨by omega, hnext ?_⟩, by omega, [0], rfl, rfl, rfl, iV_eq (by omega), rfl, rfl, rfl, rfl, trivial⟩; rw [hro.out, Bool.and_eq_true, Bool.and_eq_true, decide_eq_true_eq, decide_eq_true_eq, decide_eq_true_eq]; omega)
        · rw [if_neg (by decide)] at hro
          have hsh := fun h => shr16 (x := mx) h
          replace hro := Lib.hid hro
          (repeat' (first
  | (apply W.gOn; exact rfl; exact rfl)
  | (apply W.qd; (first
    | (apply (q_callC (hmn)); exact rfl; exact rfl; kernel_rfl; kernel_rfl; kernel_rfl)|(apply (q_callC (hmx)); exact rfl; exact rfl; kernel_rfl; kernel_rfl; kernel_rfl)|(apply q_mv; (first|exact vD|exact vO|exact vP|exact vA|exact vF|exact vR|exact vN|exact vY|exact vT|exact vM|exact vL|exact vX))|(apply q_as; (first|exact vD|exact vO|exact vP|exact vA|exact vF|exact vR|exact vN|exact vY|exact vT|exact vM|exact vL|exact vX))|(apply q_fld_optF; exact rfl; exact rfl; exact rfl)|(apply q_ld_box; exact rfl; exact rfl; exact rfl; exact rfl)|(apply q_lss; exact rfl; exact rfl)|(apply q_gtr; exact rfl; exact rfl)|(apply q_neq; exact rfl; exact rfl)|(apply q_add; exact rfl; exact rfl; omega)|(apply q_len_sl; exact rfl; exact rfl)|(apply q_ld_map; exact rfl; exact rfl; exact rfl; (first | omega | (focus (simp; done))))|(apply q_ix_slF; exact rfl; exact rfl; exact rfl; exact rfl; (first | (with_reducible exact rfl) | exact natI_spec rfl | assumption | exact (Int.toNat_of_nonneg (by omega)).symm); (first | omega | (focus (simp only [List.length_map]; omega)) | (focus (simp; done)) | (focus (simp; omega))))|(apply (q_pickT (u := .d _)); exact rfl; exact rfl)|(apply (q_pickF (u := .d _)); exact rfl; exact rfl)
    | (apply q_shrN; exact rfl; exact rfl; (first | (with_reducible exact rfl) | exact natI_spec rfl | assumption | exact (Int.toNat_of_nonneg (by omega)).symm); (first | (with_reducible exact rfl) | exact natI_spec rfl | assumption | exact (Int.toNat_of_nonneg (by omega)).symm); focus (show _ ≤ 64; omega))))|(refine W.gOff _ _ rfl rfl (by intro h; cases h) ?_)|(apply AWP.seq)|(apply ACont_normal)|(apply W.region; kernel_rfl)|(apply W.regionD; exact rfl; kernel_rfl)|(apply Walk.nil)|(apply W.chk; kernel_rfl)|(apply AWP.block)|(apply AWP.skip)|(apply AWP.ret)|(apply ACont_ret)|(apply ABlock_normal)|(apply ABlock_ret)|(apply W.condT; exact rfl)|(refine W.gF _ _ rfl rfl (fun hb => ?_) (fun hb => ?_) <;> ((try simp only [hb, Bool.not_true, Bool.not_false]) <;> (try simp only [decide_eq_true_eq, decide_eq_false_iff_not, Bool.not_eq_true', Bool.not_eq_false', Int.not_lt, Int.not_le, List.length_map, not_true_eq_false] at hb) <;> (try (exfalso; omega))))
  | (refine W.cond _ rfl (fun hb => ?_) (fun hb => ?_) <;> ((try simp only [hb, Bool.not_true, Bool.not_false]) <;> (try simp only [decide_eq_true_eq, decide_eq_false_iff_not, Bool.not_eq_true', Bool.not_eq_false', Int.not_lt, Int.not_le, List.length_map, not_true_eq_false] at hb) <;> (try (exfalso; omega))))))
          all_goals first
            | (refine Ends.i rfl (hbad ?_).symm; rw [hro.out, Bool.and_eq_false_iff, Bool.and_eq_false_iff, decide_eq_false_iff_not, decide_eq_false_iff_not, decide_eq_false_iff_not]; omega)|(refine ⟨k + 1, ⟨by omega, hnext ?_⟩, by omega, [0], rfl, rfl, rfl, iV_eq (by omega), rfl, rfl, rfl, rfl, trivial⟩; rw [hro.out, Bool.and_eq_true, Bool.and_eq_true, decide_eq_true_eq, decide_eq_true_eq, decide_eq_true_eq]; omega)
      · have hb0 : e = 1 := hbad (by unfold rowOk; rw [decide_eq_false hrl]; rfl)
        rw [← hr] at hrl
        clear he0 he1 hk
        (repeat' (first
  | (apply W.qd; (first
    | (apply q_mv; (first|exact vD|exact vO|exact vP|exact vA|exact vF|exact vR|exact vN|exact vY|exact vT|exact vM|exact vL|exact vX))|(apply q_as; (first|exact vD|exact vO|exact vP|exact vA|exact vF|exact vR|exact vN|exact vY|exact vT|exact vM|exact vL|exact vX))|(apply q_fld_optF; exact rfl; exact rfl; exact rfl)|(apply q_ld_box; exact rfl; exact rfl; exact rfl; exact rfl)|(apply q_lss; exact rfl; exact rfl)|(apply q_neq; exact rfl; exact rfl)|(apply q_len_sl; exact rfl; exact rfl)|(apply q_ld_map; exact rfl; exact rfl; exact rfl; (first | omega | (focus (simp; done))))|(apply q_ix_slF; exact rfl; exact rfl; exact rfl; exact rfl; (first | (with_reducible exact rfl) | exact natI_spec rfl | assumption | exact (Int.toNat_of_nonneg (by omega)).symm); (first | omega | (focus (simp only [List.length_map]; omega)) | (focus (simp; done)) | (focus (simp; omega))))
    | (apply (q_pickT (u := .d _)); exact rfl; exact rfl)))|(refine W.gOff _ _ rfl rfl (by intro h; cases h) ?_)|(apply AWP.seq)|(apply ACont_normal)|(apply W.region; kernel_rfl)|(apply W.regionD; exact rfl; kernel_rfl)|(apply Walk.nil)|(apply W.chk; kernel_rfl)|(apply AWP.block)|(apply AWP.skip)|(apply AWP.ret)|(apply ACont_ret)|(apply ABlock_ret)|(apply W.condT; exact rfl)|(refine W.gF _ _ rfl rfl (fun hb => ?_) (fun hb => ?_) <;> ((try simp only [hb, Bool.not_true, Bool.not_false]) <;> (try simp only [decide_eq_true_eq, decide_eq_false_iff_not, Bool.not_eq_true', Bool.not_eq_false', Int.not_lt, Int.not_le, List.length_map, not_true_eq_false] at hb) <;> (try (exfalso; omega))))
  | (refine W.cond _ rfl (fun hb => ?_) (fun hb => ?_) <;> ((try simp only [hb, Bool.not_true, Bool.not_false]) <;> (try simp only [decide_eq_true_eq, decide_eq_false_iff_not, Bool.not_eq_true', Bool.not_eq_false', Int.not_lt, Int.not_le, List.length_map, not_true_eq_false] at hb) <;> (try (exfalso; omega))))))
        all_goals first | exact Ends.i rfl hb0.symm | (exfalso; omega)
    · have ha : par.all (rowOk M D) = true := by
        rw [List.all_eq_true]
        intro r hr
        obtain ⟨j, hj, rfl⟩ := List.getElem_of_mem hr
        have := hk.2 j (by omega)
        rwa [List.getD_eq_getElem?_getD, List.getElem?_eq_getElem hj] at this
      have he := he1 ha
      clear he0 he1 hk
      (repeat' (first
  | (apply W.gOn; exact rfl; exact rfl)
  | (apply W.qd; (first
    | (apply q_mv; (first|exact vD|exact vO|exact vP|exact vA|exact vF|exact vR|exact vN|exact vY|exact vT|exact vM|exact vL|exact vX))|(apply q_as; (first|exact vD|exact vO|exact vP|exact vA|exact vF|exact vR|exact vN|exact vY|exact vT|exact vM|exact vL|exact vX))|(apply q_fld_optF; exact rfl; exact rfl; exact rfl)|(apply q_ld_box; exact rfl; exact rfl; exact rfl; exact rfl)|(apply q_lss; exact rfl; exact rfl)|(apply q_gtr; exact rfl; exact rfl)|(apply (q_pickT (u := .d _)); exact rfl; exact rfl)
    | (apply (q_pickF (u := .d _)); exact rfl; exact rfl)))|(refine W.gOff _ _ rfl rfl (by intro h; cases h) ?_)|(apply AWP.seq)|(apply ACont_normal)|(apply W.region; kernel_rfl)|(apply Walk.nil)|(apply AWP.skip)|(apply AWP.exit)|(apply AWP.ret)|(apply ACont_exit)|(apply ACont_ret)|(apply ABlock_exit)|(apply W.condT; exact rfl)|(refine W.gF _ _ rfl rfl (fun hb => ?_) (fun hb => ?_) <;> ((try simp only [hb, Bool.not_true, Bool.not_false]) <;> (try simp only [decide_eq_true_eq, decide_eq_false_iff_not, Bool.not_eq_true', Bool.not_eq_false', Int.not_lt, Int.not_le, List.length_map, not_true_eq_false] at hb) <;> (try (exfalso; omega))))
  | (refine W.cond _ rfl (fun hb => ?_) (fun hb => ?_) <;> ((try simp only [hb, Bool.not_true, Bool.not_false]) <;> (try simp only [decide_eq_true_eq, decide_eq_false_iff_not, Bool.not_eq_true', Bool.not_eq_false', Int.not_lt, Int.not_le, List.length_map, not_true_eq_false] at hb) <;> (try (exfalso; omega))))))
      all_goals (refine Ends.i rfl ?_; rw [he]; first | (rw [if_pos (by omega)]; done) | (rw [if_neg (by omega)]; done))
  have hc : chkC nm M D par dom = (par.all (rowOk M D) && (decide (1 ≤ dom) && decide (dom ≤ D + (par.length : Int)))) := by
    unfold chkC
    rw [c1, decide_eq_true c2, decide_eq_true c3, decide_eq_true c4, decide_eq_true c5, decide_eq_true c6, decide_eq_true c7]
    rfl
  refine ⟨if par.all (rowOk M D) = true then (if 1 ≤ dom ∧ dom ≤ D + (par.length : Int) then 0 else 1) else 1, hall _ (fun h => by rw [h]; rfl) (fun h => by rw [if_pos h]), ?_⟩
  rw [hc]
  cases par.all (rowOk M D) with
  | false => simp
  | true =>
    rw [if_pos rfl, Bool.true_and, Bool.and_eq_true, decide_eq_true_eq, decide_eq_true_eq]
    split <;> simp_all
end Go.Proofs.YtaclmbbiegklcaaDoor
end
section
/- Layer 9 over the machine of abstract values: the present units, the subsets of a list. -/
namespace Go.Proofs.YtaclmbbiegklcaaDoor
open Go.RowKit
set_option maxHeartbeats 4000000
set_option maxRecDepth 100000
def upK (hv : List Bool) (k : Nat) : List Nat := (List.range k).filter fun i => hv.getD i false
theorem upK_succ (hv : List Bool) (k : Nat) : upK hv (k + 1) = if hv.getD k false = true then upK hv k ++ [k] else upK hv k := by
  unfold upK
  rw [List.range_succ, List.filter_append]
  cases h : hv.getD k false with
  | true => rw [if_pos rfl]; simp only [List.filter_cons, h, if_true, List.filter_nil]
  | false => rw [if_neg (by decide)]; simp only [List.filter_cons, h, Bool.false_eq_true, if_false, List.filter_nil, List.append_nil]
theorem upK_len (hv : List Bool) (k : Nat) : (upK hv k).length ≤ k := Nat.le_trans (List.length_filter_le _ _) (by simp)
def badF (g : List Nat → Bool) (S : List (List Nat)) : Option (List Nat) := S.find? fun s => !g s
theorem badF_app (g : List Nat → Bool) (A B : List (List Nat)) : badF g (A ++ B) = (badF g A).or (badF g B) := List.find?_append
def subT (l : List Nat) (i k : Nat) (set : List Nat) : List (List Nat) := (subsN (l.drop i) (k - set.length)).map (set ++ ·)
theorem subT_step {l : List Nat} {i k : Nat} {set : List Nat} (hi : i < l.length) (hs : set.length < k) : subT l i k set = subT l (i + 1) k (set ++ [l[i]]) ++ subT l (i + 1) k set := by
  unfold subT
  rw [List.drop_eq_getElem_cons hi, show k - set.length = (k - set.length - 1) + 1 by omega, subsN, List.map_append, List.map_map]
  rw [show k - (set ++ [l[i]]).length = k - set.length - 1 by simp; omega]
  congr 1
  congr 1
  funext s
  simp
theorem subT_full {l : List Nat} {i k : Nat} {set : List Nat} (h : set.length = k) : subT l i k set = [set] := by
  unfold subT
  rw [show k - set.length = 0 by omega]
  have : subsN (l.drop i) 0 = [[]] := by unfold subsN; rfl
  rw [this]; simp
theorem subT_end {l : List Nat} {k : Nat} {set : List Nat} (h : set.length < k) : subT l l.length k set = [] := by
  unfold subT
  rw [show k - set.length = (k - set.length - 1) + 1 by omega, List.drop_length, subsN]; rfl
attribute [local irreducible] Quiet Eff OpOk AWPG ACont ABlock ACalls AGoto
theorem A_present {hv : List Bool} (hl : hv.length ≤ 1000000) : ACalls Tryd.prog 127 [bools hv] [] (nats (upN hv)) [] := by
  refine acalls_of_body Tryd.func127 rfl (Nat.le_of_ble_eq_true rfl) ?_
  have hmh : (hv.map tD).length = hv.length := List.length_map _
  (repeat' (first
  | (apply W.qd; (apply q_as; (first|exact vD|exact vO|exact vP|exact vA|exact vF|exact vR|exact vN|exact vY|exact vT|exact vM|exact vL|exact vX)))|(apply AWP.seq)|(apply ACont_normal)|(apply (W.regionS 1); exact rfl; kernel_rfl)
  | (apply Walk.nil)))
  refine AWP.nilRow 2 1 3 rfl (by omega) ?_
  (repeat' (first
  | (apply W.qd; (first
    | (apply q_mv; (first|exact vD|exact vO|exact vP|exact vA|exact vF|exact vR|exact vN|exact vY|exact vT|exact vM|exact vL|exact vX))
    | (apply q_len_sl; exact rfl; exact rfl)))|(apply ACont_normal)|(apply W.region; kernel_rfl)|(apply Walk.nil)
  | (apply AWP.block)))
  refine AWP.loopW (α := Nat) (fun k => k ≤ hv.length) (fun k => ⟨[(7, iV k), (6, iV hv.length), (5, bools hv), (2, .osl 0 (upK hv k).length 0 (upK hv k).length)], [.row (upK hv k).length 1 3 ((upK hv k).map kD)]⟩) (fun k => hv.length - k) 0 (Nat.zero_le _) ?wk0 fun k hk => ?_
  case wk0 => exact ⟨[0], rfl, rfl, rfl, rfl, iV_eq (by rw [hmh]), rfl, rfl, trivial⟩
  have hln := upK_len hv k
  by_cases hkl : k < hv.length
  · have eg : hv.getD k false = hv[k] := by rw [List.getD_eq_getElem?_getD, List.getElem?_eq_getElem hkl]; rfl
    have hs := Lib.hid (upK_succ hv k)
    rw [eg] at hs
    generalize upK hv k = A at *
    (repeat' (first
  | (apply W.qd; (first
    | (apply q_mv; (first|exact vD|exact vO|exact vP|exact vA|exact vF|exact vR|exact vN|exact vY|exact vT|exact vM|exact vL|exact vX))|(apply q_as; (first|exact vD|exact vO|exact vP|exact vA|exact vF|exact vR|exact vN|exact vY|exact vT|exact vM|exact vL|exact vX))|(apply q_lss; exact rfl; exact rfl)|(apply q_add; exact rfl; exact rfl; omega)|(apply q_ld_map; exact rfl; exact rfl; exact rfl; (first | omega | (focus (simp; done))))|(apply q_litF; exact rfl; exact rfl; exact rfl; exact rfl; exact rfl; kernel_rfl; kernel_rfl; exact rfl)
    | (apply q_ix_slF; exact rfl; exact rfl; exact rfl; exact rfl; (first | (with_reducible exact rfl) | exact natI_spec rfl | assumption | exact (Int.toNat_of_nonneg (by omega)).symm); (first | omega | (focus (simp only [List.length_map]; omega)) | (focus (simp; done)) | (focus (simp; omega))))))|(apply W.ld; (apply l_app1; exact rfl; exact rfl; exact rfl; exact rfl; exact rfl; exact rfl; exact rfl; exact rfl; (first | omega | (focus (simp; omega)) | (focus (simp; done)))))|(apply AWP.seq)|(apply ACont_normal)|(apply W.region; kernel_rfl)|(apply Walk.nil)|(apply AWP.block)|(apply AWP.skip)|(apply ABlock_normal)
  | (refine W.cond _ rfl (fun hb => ?_) (fun hb => ?_) <;> ((try simp only [hb, Bool.not_true, Bool.not_false]) <;> (try simp only [decide_eq_true_eq, decide_eq_false_iff_not, Bool.not_eq_true', Bool.not_eq_false', Int.not_lt, Int.not_le, List.length_map, not_true_eq_false] at hb) <;> (try (exfalso; omega))))))
    · replace hs := Lib.hid (hs.out.trans (if_pos hb))
      refine ⟨k + 1, by omega, by omega, ?_⟩
      rw [hs.out, show (A ++ [k]).length = A.length + 1 by simp]
      exact ⟨[0], rfl, rfl, rfl, iV_eq (by omega), rfl, rfl, congrArg (AV.osl 0 (A.length + 1) 0) (by simp), trivial⟩
    · replace hs := Lib.hid (hs.out.trans (if_neg (by rw [hb]; decide)))
      refine ⟨k + 1, by omega, by omega, ?_⟩
      rw [hs.out]
      exact ⟨[0], rfl, rfl, rfl, iV_eq (by omega), rfl, rfl, rfl, trivial⟩
  · have e : k = hv.length := by omega
    subst e
    rw [show upN hv = upK hv hv.length from rfl]
    generalize upK hv hv.length = A at *
    (repeat' (first
  | (apply W.qd; (first
    | (apply q_mv; (first|exact vD|exact vO|exact vP|exact vA|exact vF|exact vR|exact vN|exact vY|exact vT|exact vM|exact vL|exact vX))|(apply q_as; (first|exact vD|exact vO|exact vP|exact vA|exact vF|exact vR|exact vN|exact vY|exact vT|exact vM|exact vL|exact vX))
    | (apply q_lss; exact rfl; exact rfl)))|(apply AWP.seq)|(apply ACont_normal)|(apply W.region; kernel_rfl)|(apply Walk.nil)|(apply AWP.exit)|(apply AWP.ret)|(apply ACont_exit)|(apply ABlock_exit)
  | (refine W.cond _ rfl (fun hb => ?_) (fun hb => ?_) <;> ((try simp only [hb, Bool.not_true, Bool.not_false]) <;> (try simp only [decide_eq_true_eq, decide_eq_false_iff_not, Bool.not_eq_true', Bool.not_eq_false', Int.not_lt, Int.not_le, List.length_map, not_true_eq_false] at hb) <;> (try (exfalso; omega))))))
    exact Ends.osl rfl rfl (by simp) rfl
theorem A_cloneN {l : List Nat} (h0 : 0 < l.length) (hl : l.length ≤ 1000000) : ACalls Tryd.prog 82 [nats l] [] (nats l) [] := by
  refine acalls_of_body Tryd.func82 rfl (Nat.le_of_ble_eq_true rfl) ?_
  have hm : (l.map kD).length = l.length := List.length_map _
  (repeat' (first
  | (apply W.ed; (apply e_lit0F; exact rfl; exact rfl; exact rfl; exact rfl; exact rfl))
  | (apply W.qd; (first
    | (apply q_mv; (first|exact vD|exact vO|exact vP|exact vA|exact vF|exact vR|exact vN|exact vY|exact vT|exact vM|exact vL|exact vX))|(apply q_as; (first|exact vD|exact vO|exact vP|exact vA|exact vF|exact vR|exact vN|exact vY|exact vT|exact vM|exact vL|exact vX))
    | (apply q_eqnilm; exact rfl; exact rfl; exact rfl; (first | assumption | omega))))|(apply W.ed; (apply e_appF; exact rfl; exact rfl; exact rfl; exact rfl; exact rfl; exact rfl; exact rfl; exact rfl; (first | rfl | simp); (first | exact Nat.zero_lt_one | (focus (simp; done)) | omega); (first | (focus (simp; done)) | (focus (simp; omega)) | omega)))|(apply AWP.seq)|(apply ACont_normal)|(apply W.region; kernel_rfl)|(apply Walk.nil)|(apply AWP.skip)|(apply AWP.ret)
  | (apply W.condF; exact rfl)))
  exact Ends.osl rfl rfl (by simp) rfl
abbrev subO (E0 E1 E2 E3 E4 : Ent) (l : List Nat) (k : Nat) (L : Ent) : List Ent := [E0, E1, E2, E3, E4, .box [nats l], .box [iV k], L, .box [.yl 7], .box [.fn 157 [.opt 6 0, .opt 8 0, .opt 5 0, .opt 9 0]]]
def outB (o : Option (List Nat)) : Bool := o.isNone
section
variable {l : List Nat} {k : Nat} {g : List Nat → Bool} {E0 E1 E2 E3 E4 L : Ent} {F2 F7 : Ent} {F3 : List Nat → Ent}
abbrev subE (o : Option (List Nat)) (F : List Nat → Ent) (E : Ent) : Ent := match o with | none => E | some s => F s
abbrev subX (E0 E1 E2 E3 E4 : Ent) (l : List Nat) (k : Nat) (L : Ent) (F2 F7 : Ent) (F3 : List Nat → Ent) (o : Option (List Nat)) : List Ent := subO E0 E1 (subE o (fun _ => F2) E2) (subE o F3 E3) E4 l k (subE o (fun _ => F7) L)
theorem A_fromStep {i : Nat} {set : List Nat} (hl : l.length ≤ 1000) (hk1 : 1 ≤ k) (hk : k ≤ 1000)
    (hY : ∀ s : List Nat, s.Sublist l → s.length = k → YAt Tryd.prog 7 (subO E0 E1 E2 E3 E4 l k L) [nats s] (g s) (if g s = true then subO E0 E1 E2 E3 E4 l k L else subO E0 E1 F2 (F3 s) E4 l k F7))
    (hi : i ≤ l.length) (hs : set.length ≤ k) (hsub : set.Sublist (l.take i))
    (ih : ∀ (j : Nat) (set' : List Nat), i < j → j ≤ l.length → set'.length ≤ k → set'.Sublist (l.take j) →
      ACalls Tryd.prog 157 [iV j, nats set', .opt 6 0, .opt 8 0, .opt 5 0, .opt 9 0] (subO E0 E1 E2 E3 E4 l k L) (bV (outB (badF g (subT l j k set')))) (subX E0 E1 E2 E3 E4 l k L F2 F7 F3 (badF g (subT l j k set')))) :
    ACalls Tryd.prog 157 [iV i, nats set, .opt 6 0, .opt 8 0, .opt 5 0, .opt 9 0] (subO E0 E1 E2 E3 E4 l k L) (bV (outB (badF g (subT l i k set)))) (subX E0 E1 E2 E3 E4 l k L F2 F7 F3 (badF g (subT l i k set))) := by
  have hms : (set.map kD).length = set.length := List.length_map _
  have hml : (l.map kD).length = l.length := List.length_map _
  by_cases hfull : set.length = k
  · have hy := hY set (hsub.trans (List.take_sublist _ _)) hfull
    have hcl := A_cloneN (l := set) (by omega) (by omega)
    rw [subT_full hfull]
    have hb0 : badF g [set] = if g set = true then none else some set := by
      unfold badF
      cases hg : g set <;> simp [hg]
    rw [hb0]
    cases hg : g set with
    | true =>
      rw [hg, if_pos rfl] at hy
      rw [if_pos rfl]
      refine acalls_of_bodyS Tryd.func157 rfl (Nat.le_of_ble_eq_true rfl) ?_
      (repeat' (first
  | (apply W.qd; (first
    | (apply (q_callC (hcl)); exact rfl; exact rfl; kernel_rfl; kernel_rfl; kernel_rfl)|(apply q_mv; (first|exact vD|exact vO|exact vP|exact vA|exact vF|exact vR|exact vN|exact vY|exact vT|exact vM|exact vL|exact vX))|(apply q_as; (first|exact vD|exact vO|exact vP|exact vA|exact vF|exact vR|exact vN|exact vY|exact vT|exact vM|exact vL|exact vX))|(apply q_ld_box; exact rfl; exact rfl; exact rfl; exact rfl)|(apply q_eql; exact rfl; exact rfl)
    | (apply q_len_sl; exact rfl; exact rfl)))|(apply W.ed; ((exact e_yield hy rfl rfl)))|(apply AWP.seq)|(apply ACont_normal)|(apply W.region; kernel_rfl)|(apply W.regionD; exact rfl; kernel_rfl)|(apply Walk.nil)|(apply W.chk; kernel_rfl)|(apply AWP.ret)|(apply ACont_ret)
  | (refine W.cond _ rfl (fun hb => ?_) (fun hb => ?_) <;> ((try simp only [hb, Bool.not_true, Bool.not_false]) <;> (try simp only [decide_eq_true_eq, decide_eq_false_iff_not, Bool.not_eq_true', Bool.not_eq_false', Int.not_lt, Int.not_le, List.length_map, not_true_eq_false] at hb) <;> (try (exfalso; omega))))))
      exact EndsS.b rfl rfl
    | false =>
      rw [hg, if_neg (by decide)] at hy
      rw [if_neg (by decide)]
      refine acalls_of_bodyS Tryd.func157 rfl (Nat.le_of_ble_eq_true rfl) ?_
      (repeat' (first
  | (apply W.qd; (first
    | (apply (q_callC (hcl)); exact rfl; exact rfl; kernel_rfl; kernel_rfl; kernel_rfl)|(apply q_mv; (first|exact vD|exact vO|exact vP|exact vA|exact vF|exact vR|exact vN|exact vY|exact vT|exact vM|exact vL|exact vX))|(apply q_as; (first|exact vD|exact vO|exact vP|exact vA|exact vF|exact vR|exact vN|exact vY|exact vT|exact vM|exact vL|exact vX))|(apply q_ld_box; exact rfl; exact rfl; exact rfl; exact rfl)|(apply q_eql; exact rfl; exact rfl)
    | (apply q_len_sl; exact rfl; exact rfl)))|(apply W.ed; ((exact e_yield hy rfl rfl)))|(apply AWP.seq)|(apply ACont_normal)|(apply W.region; kernel_rfl)|(apply W.regionD; exact rfl; kernel_rfl)|(apply Walk.nil)|(apply W.chk; kernel_rfl)|(apply AWP.ret)|(apply ACont_ret)
  | (refine W.cond _ rfl (fun hb => ?_) (fun hb => ?_) <;> ((try simp only [hb, Bool.not_true, Bool.not_false]) <;> (try simp only [decide_eq_true_eq, decide_eq_false_iff_not, Bool.not_eq_true', Bool.not_eq_false', Int.not_lt, Int.not_le, List.length_map, not_true_eq_false] at hb) <;> (try (exfalso; omega))))))
      exact EndsS.b rfl rfl
  · generalize hR : badF g (subT l i k set) = R
    refine acalls_of_bodyS Tryd.func157 rfl (Nat.le_of_ble_eq_true rfl) ?_
    (repeat' (first
  | (apply W.qd; (first
    | (apply q_mv; (first|exact vD|exact vO|exact vP|exact vA|exact vF|exact vR|exact vN|exact vY|exact vT|exact vM|exact vL|exact vX))|(apply q_as; (first|exact vD|exact vO|exact vP|exact vA|exact vF|exact vR|exact vN|exact vY|exact vT|exact vM|exact vL|exact vX))|(apply q_ld_box; exact rfl; exact rfl; exact rfl; exact rfl)|(apply q_eql; exact rfl; exact rfl)
    | (apply q_len_sl; exact rfl; exact rfl)))|(apply AWP.seq)|(apply ACont_normal)|(apply W.region; kernel_rfl)|(apply Walk.nil)|(apply AWP.block)|(apply AWP.skip)
  | (refine W.cond _ rfl (fun hb => ?_) (fun hb => ?_) <;> ((try simp only [hb, Bool.not_true, Bool.not_false]) <;> (try simp only [decide_eq_true_eq, decide_eq_false_iff_not, Bool.not_eq_true', Bool.not_eq_false', Int.not_lt, Int.not_le, List.length_map, not_true_eq_false] at hb) <;> (try (exfalso; omega))))))
    refine AWP.loopE (α := Nat) (fun j => i ≤ j ∧ j ≤ l.length ∧ badF g (subT l j k set) = R) (fun j => ⟨[(0, iV j), (1, nats set), (2, .opt 6 0), (3, .opt 8 0), (4, .opt 5 0), (5, .opt 9 0)], subO E0 E1 E2 E3 E4 l k L⟩) (fun j => l.length - j) i ⟨Nat.le_refl _, hi, hR⟩ ⟨rfl, by (repeat (first | exact trivial | refine ⟨rfl, ?_⟩))⟩ fun j hj => ?_
    obtain ⟨hj1, hj2, hj3⟩ := hj
    by_cases hjl : j < l.length
    · have hst := subT_step (k := k) (set := set) hjl (by omega)
      have hih := ih (j + 1) (set ++ [l[j]]) (by omega) (by omega) (by simp; omega) (by
        rw [List.take_succ_eq_append_getElem hjl]
        refine List.Sublist.append (hsub.trans ?_) (List.Sublist.refl _)
        have : l.take i = (l.take j).take i := by rw [List.take_take, Nat.min_eq_left hj1]
        rw [this]; exact List.take_sublist _ _)
      rw [hst, badF_app] at hj3
      rw [show nats (set ++ [l[j]]) = .d (.sl 1 (set.map kD ++ [kD l[j]])) by show AV.d (.sl 1 ((set ++ [l[j]]).map kD)) = _; rw [List.map_append]; rfl] at hih
      have ej : iV ((j + 1 : Nat) : Int) = iV ((j : Int) + 1) := iV_eq (by omega)
      rw [ej] at hih
      cases hB : badF g (subT l (j + 1) k (set ++ [l[j]])) with
      | none =>
        rw [hB] at hih hj3
        clear ih hY
        (repeat' (first
  | (apply W.qd; (first
    | (apply q_mv; (first|exact vD|exact vO|exact vP|exact vA|exact vF|exact vR|exact vN|exact vY|exact vT|exact vM|exact vL|exact vX))|(apply q_as; (first|exact vD|exact vO|exact vP|exact vA|exact vF|exact vR|exact vN|exact vY|exact vT|exact vM|exact vL|exact vX))|(apply q_ld_box; exact rfl; exact rfl; exact rfl; exact rfl)|(apply q_lss; exact rfl; exact rfl)|(apply q_not; exact rfl)|(apply q_add; exact rfl; exact rfl; omega)|(apply q_len_sl; exact rfl; exact rfl)|(apply q_ld_map; exact rfl; exact rfl; exact rfl; (first | omega | (focus (simp; done))))|(apply q_litF; exact rfl; exact rfl; exact rfl; exact rfl; exact rfl; kernel_rfl; kernel_rfl; exact rfl)|(apply q_ix_slF; exact rfl; exact rfl; exact rfl; exact rfl; (first | (with_reducible exact rfl) | exact natI_spec rfl | assumption | exact (Int.toNat_of_nonneg (by omega)).symm); (first | omega | (focus (simp only [List.length_map]; omega)) | (focus (simp; done)) | (focus (simp; omega))))|(apply q_slc3; exact rfl; exact rfl; exact rfl; (first | exact ⟨_, _, rfl, rfl⟩ | exact ⟨_, _, rfl, natI_spec rfl⟩ | exact ⟨_, _, rfl, (Int.toNat_of_nonneg (by omega)).symm⟩ | exact rfl); (first | exact ⟨_, _, rfl, rfl⟩ | exact ⟨_, _, rfl, natI_spec rfl⟩ | exact ⟨_, _, rfl, (Int.toNat_of_nonneg (by omega)).symm⟩ | exact rfl); exact rfl; exact rfl)
    | (apply q_appcl; exact rfl; exact rfl; exact rfl; exact rfl; exact rfl; exact rfl; (first | exact Nat.zero_lt_one | (focus (simp; done)) | omega); (first | (focus (simp; done)) | (focus (simp; omega)) | omega))))|(apply W.ed; ((exact e_callA hih rfl rfl rfl)))|(apply AWP.seq)|(apply ACont_normal)|(apply W.region; kernel_rfl)|(apply W.regionD; exact rfl; kernel_rfl)|(apply Walk.nil)|(apply W.chk; kernel_rfl)|(apply AWP.block)|(apply AWP.skip)|(apply ABlock_normal)|(apply W.condF; exact rfl)
  | (refine W.cond _ rfl (fun hb => ?_) (fun hb => ?_) <;> ((try simp only [hb, Bool.not_true, Bool.not_false]) <;> (try simp only [decide_eq_true_eq, decide_eq_false_iff_not, Bool.not_eq_true', Bool.not_eq_false', Int.not_lt, Int.not_le, List.length_map, not_true_eq_false] at hb) <;> (try (exfalso; omega))))))
        exact ⟨j + 1, ⟨by omega, by omega, hj3⟩, by omega, rfl, iV_eq (by omega), rfl, rfl, rfl, rfl, rfl, trivial⟩
      | some s =>
        rw [hB] at hih hj3
        obtain rfl : some s = R := hj3
        clear ih hY
        (repeat' (first
  | (apply W.qd; (first
    | (apply q_mv; (first|exact vD|exact vO|exact vP|exact vA|exact vF|exact vR|exact vN|exact vY|exact vT|exact vM|exact vL|exact vX))|(apply q_as; (first|exact vD|exact vO|exact vP|exact vA|exact vF|exact vR|exact vN|exact vY|exact vT|exact vM|exact vL|exact vX))|(apply q_ld_box; exact rfl; exact rfl; exact rfl; exact rfl)|(apply q_lss; exact rfl; exact rfl)|(apply q_not; exact rfl)|(apply q_add; exact rfl; exact rfl; omega)|(apply q_len_sl; exact rfl; exact rfl)|(apply q_ld_map; exact rfl; exact rfl; exact rfl; (first | omega | (focus (simp; done))))|(apply q_litF; exact rfl; exact rfl; exact rfl; exact rfl; exact rfl; kernel_rfl; kernel_rfl; exact rfl)|(apply q_ix_slF; exact rfl; exact rfl; exact rfl; exact rfl; (first | (with_reducible exact rfl) | exact natI_spec rfl | assumption | exact (Int.toNat_of_nonneg (by omega)).symm); (first | omega | (focus (simp only [List.length_map]; omega)) | (focus (simp; done)) | (focus (simp; omega))))|(apply q_slc3; exact rfl; exact rfl; exact rfl; (first | exact ⟨_, _, rfl, rfl⟩ | exact ⟨_, _, rfl, natI_spec rfl⟩ | exact ⟨_, _, rfl, (Int.toNat_of_nonneg (by omega)).symm⟩ | exact rfl); (first | exact ⟨_, _, rfl, rfl⟩ | exact ⟨_, _, rfl, natI_spec rfl⟩ | exact ⟨_, _, rfl, (Int.toNat_of_nonneg (by omega)).symm⟩ | exact rfl); exact rfl; exact rfl)
    | (apply q_appcl; exact rfl; exact rfl; exact rfl; exact rfl; exact rfl; exact rfl; (first | exact Nat.zero_lt_one | (focus (simp; done)) | omega); (first | (focus (simp; done)) | (focus (simp; omega)) | omega))))|(apply W.ed; ((exact e_callA hih rfl rfl rfl)))|(apply AWP.seq)|(apply ACont_normal)|(apply W.region; kernel_rfl)|(apply W.regionD; exact rfl; kernel_rfl)|(apply Walk.nil)|(apply W.chk; kernel_rfl)|(apply AWP.block)|(apply AWP.skip)|(apply AWP.ret)|(apply ACont_ret)|(apply ABlock_ret)|(apply W.condT; exact rfl)
  | (refine W.cond _ rfl (fun hb => ?_) (fun hb => ?_) <;> ((try simp only [hb, Bool.not_true, Bool.not_false]) <;> (try simp only [decide_eq_true_eq, decide_eq_false_iff_not, Bool.not_eq_true', Bool.not_eq_false', Int.not_lt, Int.not_le, List.length_map, not_true_eq_false] at hb) <;> (try (exfalso; omega))))))
        exact EndsS.b rfl rfl
    · have ejl : j = l.length := by omega
      subst ejl
      rw [subT_end (by omega)] at hj3
      obtain rfl : none = R := hj3
      clear ih hY
      (repeat' (first
  | (apply W.qd; (first
    | (apply q_mv; (first|exact vD|exact vO|exact vP|exact vA|exact vF|exact vR|exact vN|exact vY|exact vT|exact vM|exact vL|exact vX))|(apply q_as; (first|exact vD|exact vO|exact vP|exact vA|exact vF|exact vR|exact vN|exact vY|exact vT|exact vM|exact vL|exact vX))|(apply q_ld_box; exact rfl; exact rfl; exact rfl; exact rfl)|(apply q_lss; exact rfl; exact rfl)
    | (apply q_len_sl; exact rfl; exact rfl)))|(apply AWP.seq)|(apply ACont_normal)|(apply W.region; kernel_rfl)|(apply Walk.nil)|(apply AWP.exit)|(apply AWP.ret)|(apply ACont_exit)|(apply ABlock_exit)
  | (refine W.cond _ rfl (fun hb => ?_) (fun hb => ?_) <;> ((try simp only [hb, Bool.not_true, Bool.not_false]) <;> (try simp only [decide_eq_true_eq, decide_eq_false_iff_not, Bool.not_eq_true', Bool.not_eq_false', Int.not_lt, Int.not_le, List.length_map, not_true_eq_false] at hb) <;> (try (exfalso; omega))))))
      exact EndsS.b rfl rfl
theorem A_from (hl : l.length ≤ 1000) (hk1 : 1 ≤ k) (hk : k ≤ 1000)
    (hY : ∀ s : List Nat, s.Sublist l → s.length = k → YAt Tryd.prog 7 (subO E0 E1 E2 E3 E4 l k L) [nats s] (g s) (if g s = true then subO E0 E1 E2 E3 E4 l k L else subO E0 E1 F2 (F3 s) E4 l k F7)) :
    ∀ (n i : Nat) (set : List Nat), l.length - i ≤ n → i ≤ l.length → set.length ≤ k → set.Sublist (l.take i) →
    ACalls Tryd.prog 157 [iV i, nats set, .opt 6 0, .opt 8 0, .opt 5 0, .opt 9 0] (subO E0 E1 E2 E3 E4 l k L) (bV (outB (badF g (subT l i k set)))) (subX E0 E1 E2 E3 E4 l k L F2 F7 F3 (badF g (subT l i k set)))
  | 0, i, set, hn, hi, hs, hsub => A_fromStep hl hk1 hk hY hi hs hsub fun j set' h1 h2 => by omega
  | n + 1, i, set, hn, hi, hs, hsub => A_fromStep hl hk1 hk hY hi hs hsub fun j set' h1 h2 h3 h4 => A_from hl hk1 hk hY n j set' (by omega) h2 h3 h4
theorem A_subIter {R : Option (List Nat)} (hl : l.length ≤ 1000) (hk1 : 1 ≤ k) (hk : k ≤ 1000) (hB : badF g (subsN l k) = R)
    (hY : ∀ s : List Nat, s.Sublist l → s.length = k → YAt Tryd.prog 7 (subO E0 E1 E2 E3 E4 l k L) [nats s] (g s) (if g s = true then subO E0 E1 E2 E3 E4 l k L else subO E0 E1 F2 (F3 s) E4 l k F7)) :
    ACalls Tryd.prog 156 [.yl 7, .opt 6 0, .opt 5 0] [E0, E1, E2, E3, E4, .box [nats l], .box [iV k], L] (.tup []) (subX E0 E1 E2 E3 E4 l k L F2 F7 F3 R) := by
  have h0 := A_from hl hk1 hk hY l.length 0 [] (by omega) (by omega) (by simp) (List.nil_sublist _)
  have e : subT l 0 k [] = subsN l k := by unfold subT; simp
  rw [e, hB] at h0
  have h0 := h0.le (args' := [iV 0, .d (.v (.slice none 0 0)), .opt 6 0, .opt 8 0, .opt 5 0, .opt 9 0]) fun F κ w vs hs => by
    refine AVleL.sat (xs := [iV 0, .d (.v (.slice none 0 0)), .opt 6 0, .opt 8 0, .opt 5 0, .opt 9 0]) ?_ F _ κ w vs hs
    exact ⟨AVle.refl _, AVle.nil 1, AVle.refl _, AVle.refl _, AVle.refl _, AVle.refl _, trivial⟩
  refine acalls_of_bodyS Tryd.func156 rfl (Nat.le_of_ble_eq_true rfl) ?_
  (repeat' (first
  | (apply W.qd; (first
    | (apply q_ld_box; exact rfl; exact rfl; exact rfl; exact rfl)
    | (apply q_makeFunc)))
  | (apply W.ed; (first
    | ((exact e_callA h0 rfl rfl rfl))|(apply e_boxF; exact rfl; exact rfl; exact rfl; kernel_rfl; kernel_rfl)
    | (apply e_allocF; exact rfl; exact rfl; exact rfl; kernel_rfl)))|(apply W.ln; (apply l_st_box; exact rfl; exact rfl; exact rfl; exact rfl; exact rfl; exact rfl; kernel_rfl; kernel_rfl; kernel_rfl))|(apply AWP.seq)|(apply ACont_normal)|(apply W.region; kernel_rfl)
  | (apply Walk.nil)))
  exact ⟨.inr rfl, [], trivial, AVle.of_eq rfl, rfl⟩
end
end Go.Proofs.YtaclmbbiegklcaaDoor
end
section
/- Layer 9 over the machine of abstract values: distance.search, Left. -/
namespace Go.Proofs.YtaclmbbiegklcaaDoor
open Go.RowKit
set_option maxHeartbeats 4000000
set_option maxRecDepth 100000
theorem AWP.toX {Γ : Ctx} {P : Program} {n m : Nat} {c : Code} {s : St} {own' : List Ent} {e0 : Exit} (h : AWPG Γ P n m c (fun e s => e = e0 ∧ Wk m s ⟨[], own'⟩) s) : AWPG Γ P n m c (fun e s => e = e0 ∧ s.own = own') s := fun F W κ0 a κ w hH hm hs =>
  wpIn_mono (h F W κ0 a κ w hH hm hs) fun e a' w' ⟨s', κ', ⟨he, hw⟩, hs'⟩ => by
    obtain ⟨κ2, h2⟩ := hs'.wk hm hw
    exact ⟨_, κ2, ⟨he, rfl⟩, h2⟩
theorem AVle.anyV {v : Value} (h : v.oneCell' = true) : AVle (.d (.v v)) (.d .any) := fun F own κ w u hs => by
  rw [sat_v] at hs
  subst hs
  rw [AV.sat, Dat.sat]; exact h
theorem AVle.anyS (sz : Nat) (l : List (List Dat)) : AVle (.d (.sl sz l)) (.d .any) := fun F own κ w u hs => by
  rw [AV.sat, Dat.sat] at hs
  obtain ⟨A, c, rfl, _⟩ := hs
  rw [AV.sat, Dat.sat]; rfl
theorem minusN_snoc (hv : List Bool) (L : List Nat) (u : Nat) : minusN hv (L ++ [u]) = (minusN hv L).set u false := by
  unfold minusN
  rw [List.foldl_append]; rfl
theorem badN_iff {dec : List Bool → Bool} {hv : List Bool} {f : Nat} : badN dec hv f = (badF (fun s => dec (minusN hv s)) (subsN (upN hv) (f + 1))).isSome := by
  unfold badN badF
  rw [Bool.eq_iff_iff, List.any_eq_true, List.find?_isSome]
theorem gen_entE {motive : Ent → Prop} (E : Ent) (h : ∀ L, L = E → motive L) : motive E := h E rfl
attribute [local irreducible] Quiet Eff OpOk AWPG ACont ABlock ACalls AGoto
theorem A_subsets0 {l : List Nat} {f : Nat} : ACalls Tryd.prog 128 [nats l, iV ((f : Int) + 1)] [] (.fn 156 [.opt 1 0, .opt 0 0]) [.box [nats l], .box [iV ((f + 1 : Nat) : Int)]] := by
  rw [show iV ((f : Int) + 1) = iV ((f + 1 : Nat) : Int) from iV_eq (by omega)]
  refine acalls_of_bodyO Tryd.func128 rfl (Nat.le_of_ble_eq_true rfl) ?_
  (repeat' (first
  | (apply W.qd; (first
    | (apply q_as; (first|exact vD|exact vO|exact vP|exact vA|exact vF|exact vR|exact vN|exact vY|exact vT|exact vM|exact vL|exact vX))
    | (apply q_makeFunc)))|(apply W.ed; (apply e_boxF; exact rfl; exact rfl; exact rfl; kernel_rfl; kernel_rfl))|(apply AWP.seq)|(apply ACont_normal)|(apply W.region; kernel_rfl)|(apply Walk.nil)
  | (apply AWP.ret)))
  exact ⟨.inl rfl, [0, 1], [.fn 156 [.opt 1 0, .opt 0 0]], rfl, rfl, ⟨rfl, trivial⟩, AVle.of_eq rfl, rfl⟩
abbrev srcB0 (M D : Nat) (ps : List (List Nat)) : Ent := .box [.d .any, iV M, iV D, rowsN ps, .d .any]
abbrev srcEnv (hv : List Bool) (f : Nat) : List (Nat × AV) := [(24, .fn 156 [.opt 6 0, .opt 5 0]), (2, .opt 0 0), (3, .opt 1 0), (4, .opt 2 0), (5, .opt 3 0), (6, nats (upN hv)), (7, .opt 4 0), (18, iV f)]
theorem A_search {M D : Nat} {ps : List (List Nat)} {hv : List Bool} (h : CodeOk M D ps) (hl : hv.length = D + ps.length) : ACalls Tryd.prog 92 [cdN M D ps, bools hv] [] (.tup [iV (leftN (decN M D ps) hv), .d .any]) [] := by
  have h1 := h.d
  have h2 := h.w
  have hdec := A_decodable h hl
  have hpre := A_present (hv := hv) (by omega)
  have hd0 : decN M D ps hv = decide ((basisN M D ps hv).length = D) := by unfold decN; rw [decide_eq_true hl, Bool.true_and]
  rw [← hd0] at hdec
  have hcl := A_cloneB (l := hv) (by omega) (by omega)
  have hdecs : ∀ s : List Nat, ACalls Tryd.prog 21 [cdN M D ps, bools (minusN hv s)] [] (bV (decN M D ps (minusN hv s))) [] := fun s => by
    have hls : (minusN hv s).length = D + ps.length := by rw [minusN_length]; exact hl
    have := A_decodable h hls
    have hd1 : decN M D ps (minusN hv s) = decide ((basisN M D ps (minusN hv s)).length = D) := by unfold decN; rw [decide_eq_true hls, Bool.true_and]
    rwa [← hd1] at this
  have hup : ∀ u ∈ upN hv, u < hv.length := fun u hu => by
    have := (List.mem_filter.1 hu).1
    exact List.mem_range.1 this
  have hupl : (upN hv).length ≤ 1000 := by have := upK_len hv hv.length; have e : (upN hv).length = (upK hv hv.length).length := rfl; omega
  unfold leftN
  generalize decN M D ps = dec at *
  refine acalls_of_body Tryd.func92 rfl (Nat.le_of_ble_eq_true rfl) ?_
  cases hd : dec hv with
  | false =>
    rw [if_neg (by decide)]
    rw [hd] at hdec
    (repeat' (first
  | (apply W.qd; (first
    | (apply (q_callC (hdec)); exact rfl; exact rfl; kernel_rfl; kernel_rfl; kernel_rfl)|(apply q_ld_box; exact rfl; exact rfl; exact rfl; exact rfl)|(apply q_ld_boxF; exact rfl; exact rfl; exact rfl; exact rfl)
    | (apply q_not; exact rfl)))
  | (apply W.ed; (first
    | (apply e_boxF; exact rfl; exact rfl; exact rfl; kernel_rfl; kernel_rfl)
    | (apply e_allocF; exact rfl; exact rfl; exact rfl; kernel_rfl)))|(apply W.ln; (apply l_st_box; exact rfl; exact rfl; exact rfl; exact rfl; exact rfl; exact rfl; kernel_rfl; kernel_rfl; kernel_rfl))|(apply AWP.seq)|(apply ACont_normal)|(apply W.region; kernel_rfl)|(apply Walk.nil)|(apply AWP.ret)|(apply ACont_ret)
  | (apply W.condT; exact rfl)))
    exact ⟨.inl rfl, [], [iV (-1), .d (.v (.slice none 0 0))], rfl, ⟨⟨2, [iV (-1)], false, rfl, rfl, rfl, rfl⟩, ⟨3, [.d (.v (.slice none 0 0))], false, rfl, rfl, rfl, rfl⟩, trivial⟩, AVle.tup2 (AVle.refl _) (AVle.anyV rfl), rfl⟩
  | true =>
    rw [if_pos rfl]
    rw [hd] at hdec
    generalize hR : ((List.range 4).find? (badN dec hv)).getD 4 = R
    (repeat' (first
  | (apply W.qd; (first
    | (apply (q_callC (hdec)); exact rfl; exact rfl; kernel_rfl; kernel_rfl; kernel_rfl)|(apply (q_callC (hpre)); exact rfl; exact rfl; kernel_rfl; kernel_rfl; kernel_rfl)|(apply q_mv; (first|exact vD|exact vO|exact vP|exact vA|exact vF|exact vR|exact vN|exact vY|exact vT|exact vM|exact vL|exact vX))|(apply q_as; (first|exact vD|exact vO|exact vP|exact vA|exact vF|exact vR|exact vN|exact vY|exact vT|exact vM|exact vL|exact vX))|(apply q_ld_box; exact rfl; exact rfl; exact rfl; exact rfl)|(apply q_ld_boxF; exact rfl; exact rfl; exact rfl; exact rfl)
    | (apply q_not; exact rfl)))
  | (apply W.ed; (first
    | (apply e_boxF; exact rfl; exact rfl; exact rfl; kernel_rfl; kernel_rfl)
    | (apply e_allocF; exact rfl; exact rfl; exact rfl; kernel_rfl)))|(apply AWP.seq)|(apply ACont_normal)|(apply W.region; kernel_rfl)|(apply Walk.nil)|(apply AWP.block)|(apply AWP.skip)
  | (apply W.condF; exact rfl)))
    refine AWP.loopW (α := Nat) (fun f => f ≤ 4 ∧ ∀ g, g < f → badN dec hv g = false) (fun f => ⟨[(18, iV f), (6, nats (upN hv)), (2, .opt 0 0), (3, .opt 1 0), (4, .opt 2 0), (5, .opt 3 0)], [.box [.d .any, iV M, iV D, rowsN ps, .d .any], .box [bools hv], .box [iV 0], .box [.d (.v (.slice none 0 0))]]⟩) (fun f => 4 - f) 0 ⟨by omega, fun g hg => by omega⟩ ⟨[0, 1, 2, 3], rfl, rfl, rfl, by (repeat (first | exact trivial | refine ⟨rfl, ?_⟩))⟩ fun f hf => ?_
    by_cases hf4 : f < 4
    · have hs0 := A_subsets0 (l := upN hv) (f := f)
      (repeat' (first
  | (apply W.qd; (first
    | (apply q_mv; (first|exact vD|exact vO|exact vP|exact vA|exact vF|exact vR|exact vN|exact vY|exact vT|exact vM|exact vL|exact vX))|(apply q_ld_box; exact rfl; exact rfl; exact rfl; exact rfl)|(apply q_lss; exact rfl; exact rfl)
    | (apply q_add; exact rfl; exact rfl; omega)))
  | (apply W.ed; (first
    | (apply (e_callJ (js := []) (hs0)); exact rfl; exact rfl; exact rfl; exact rfl; exact rfl; kernel_rfl; kernel_rfl)
    | (apply e_allocF; exact rfl; exact rfl; exact rfl; kernel_rfl)))|(apply W.ln; (apply l_st_box; exact rfl; exact rfl; exact rfl; exact rfl; exact rfl; exact rfl; kernel_rfl; kernel_rfl; kernel_rfl))|(apply AWP.seq)|(apply ACont_normal)|(apply W.region; kernel_rfl)|(apply Walk.nil)|(apply AWP.block)|(apply AWP.skip)
  | (refine W.cond _ rfl (fun hb => ?_) (fun hb => ?_) <;> ((try simp only [hb, Bool.not_true, Bool.not_false]) <;> (try simp only [decide_eq_true_eq, decide_eq_false_iff_not, Bool.not_eq_true', Bool.not_eq_false', Int.not_lt, Int.not_le, List.length_map, not_true_eq_false] at hb) <;> (try (exfalso; omega))))))
      refine AWP.wk ⟨srcEnv hv f, [.box [.d .any, iV M, iV D, rowsN ps, .d .any], .box [bools hv], .box [iV 0], .box [.d (.v (.slice none 0 0))], .box [iV f], .box [nats (upN hv)], .box [iV ((f + 1 : Nat) : Int)]]⟩ ⟨[0, 1, 2, 3, 4, 5, 6], rfl, rfl, rfl, by (repeat (first | exact trivial | refine ⟨rfl, ?_⟩))⟩ ?_
      have hbI := badN_iff (dec := dec) (hv := hv) (f := f)
      cases hB : badF (fun s => dec (minusN hv s)) (subsN (upN hv) (f + 1)) with
      | none =>
        rw [hB] at hbI
        refine AWP.range (s2 := ⟨[(18, iV f), (6, nats (upN hv)), (2, .opt 0 0), (3, .opt 1 0), (4, .opt 2 0), (5, .opt 3 0)], [srcB0 M D ps, .box [bools hv], .box [iV 0], .box [.d (.v (.slice none 0 0))]]⟩) rfl (by kernel_rfl) (A_subIter (F2 := .box []) (F7 := .box []) (F3 := fun _ => .box []) hupl (by omega) (by omega) hB fun s hs1 hs2 => ?_) rfl (by decide) ⟨[0, 1, 2, 3], rfl, rfl, rfl, by (repeat (first | exact trivial | refine ⟨rfl, ?_⟩))⟩ ?_
        · have hg : dec (minusN hv s) = true := by
            unfold badF at hB
            rw [List.find?_eq_none] at hB
            have := hB s (mem_subsN.2 ⟨hs1, hs2⟩)
            simpa using this
          rw [hg, if_pos rfl]
          refine YAt.ok (own1 := subO (srcB0 M D ps) (.box [bools hv]) (.box [iV 0]) (.box [.d (.v (.slice none 0 0))]) (.box [iV f]) (upN hv) (f + 1) (.lp .busy none #[25] _ _ _)) (s2 := ⟨(8, nats s) :: srcEnv hv f, _⟩) rfl rfl rfl rfl (fun g => ?_) rfl (fun g => ?_) rfl rfl
          · refine AWP.toW ?_
            (repeat' (first
  | (apply W.qd; (apply q_as; (first|exact vD|exact vO|exact vP|exact vA|exact vF|exact vR|exact vN|exact vY|exact vT|exact vM|exact vL|exact vX)))|(apply W.region; kernel_rfl)
  | (apply Walk.nil)))
            exact ⟨rfl, ⟨[0, 1, 2, 3, 4, 5, 6, 7, 8, 9], rfl, rfl, rfl, by (repeat (first | exact trivial | refine ⟨rfl, ?_⟩))⟩⟩
          · refine AWP.toO ?_
            refine gen_entE (motive := fun L => AWPG (Ctx.round g) Tryd.prog Tryd.f92.ntmps 10 _ (fun e s9 => e = .normal ∧ Wk 10 s9 ⟨[], subO (srcB0 M D ps) (.box [bools hv]) (.box [iV 0]) (.box [.d (.v (.slice none 0 0))]) (.box [iV f]) (upN hv) (f + 1) L⟩) ⟨(8, nats s) :: srcEnv hv f, subO (srcB0 M D ps) (.box [bools hv]) (.box [iV 0]) (.box [.d (.v (.slice none 0 0))]) (.box [iV f]) (upN hv) (f + 1) L⟩) _ fun L hL => ?_
            obtain ⟨cA, cB, hL⟩ : ∃ cA cB, L = .lp .busy none #[25] cA cB (tmpsOf (srcEnv hv f) Tryd.f92.ntmps) := ⟨_, _, hL⟩
            subst hL
            have hms : (s.map kD).length = s.length := List.length_map _
            (repeat' (first
  | (apply W.qd; (first
    | (apply q_mv; (first|exact vD|exact vO|exact vP|exact vA|exact vF|exact vR|exact vN|exact vY|exact vT|exact vM|exact vL|exact vX))|(apply q_as; (first|exact vD|exact vO|exact vP|exact vA|exact vF|exact vR|exact vN|exact vY|exact vT|exact vM|exact vL|exact vX))|(apply q_ld_box; exact rfl; exact rfl; exact rfl; exact rfl)
    | (apply q_len_sl; exact rfl; exact rfl)))|(apply W.ed; (apply (e_callJ (js := []) (hcl)); exact rfl; exact rfl; exact rfl; exact rfl; exact rfl; kernel_rfl; kernel_rfl))|(apply AWP.seq)|(apply ACont_normal)|(apply W.region; kernel_rfl)|(apply Walk.nil)
  | (apply AWP.block)))
            refine AWP.loopW (α := Nat) (fun j => j ≤ s.length) (fun j => ⟨[(30, iV j), (29, iV s.length), (28, nats s), (9, .osl 10 1 0 hv.length), (8, nats s), (2, .opt 0 0), (4, .opt 2 0), (5, .opt 3 0), (7, .opt 4 0)], subO (srcB0 M D ps) (.box [bools hv]) (.box [iV 0]) (.box [.d (.v (.slice none 0 0))]) (.box [iV f]) (upN hv) (f + 1) (.lp .busy none #[25] cA cB (tmpsOf (srcEnv hv f) Tryd.f92.ntmps)) ++ [.row 1 1 4 ((minusN hv (s.take j)).map tD)]⟩) (fun j => s.length - j) 0 (Nat.zero_le _) ?wkr1 fun j hj => ?_
            case wkr1 => exact ⟨[0, 1, 2, 3, 4, 5, 6, 7, 8, 9, 10], rfl, rfl, rfl, rfl, iV_eq (by rw [hms]), rfl, rfl, rfl, rfl, rfl, rfl, rfl, trivial⟩
            by_cases hjl : j < s.length
            · have hu := hup s[j] (hs1.subset (List.getElem_mem hjl))
              have hmn := minusN_length (s.take j) hv
              have hsn := minusN_snoc hv (s.take j) s[j]
              rw [← List.take_succ_eq_append_getElem hjl] at hsn
              replace hsn := Lib.hid hsn
              generalize minusN hv (s.take j) = A at *
              (repeat' (first
  | (apply W.qd; (first
    | (apply q_mv; (first|exact vD|exact vO|exact vP|exact vA|exact vF|exact vR|exact vN|exact vY|exact vT|exact vM|exact vL|exact vX))|(apply q_as; (first|exact vD|exact vO|exact vP|exact vA|exact vF|exact vR|exact vN|exact vY|exact vT|exact vM|exact vL|exact vX))|(apply q_lss; exact rfl; exact rfl)|(apply q_add; exact rfl; exact rfl; omega)|(apply q_ld_map; exact rfl; exact rfl; exact rfl; (first | omega | (focus (simp; done))))|(apply q_ix_slF; exact rfl; exact rfl; exact rfl; exact rfl; (first | (with_reducible exact rfl) | exact natI_spec rfl | assumption | exact (Int.toNat_of_nonneg (by omega)).symm); (first | omega | (focus (simp only [List.length_map]; omega)) | (focus (simp; done)) | (focus (simp; omega))))
    | (apply q_ix_osl0; exact rfl; exact rfl; exact rfl; exact rfl; (first | (with_reducible exact rfl) | exact natI_spec rfl | assumption | exact (Int.toNat_of_nonneg (by omega)).symm); (first | omega | (focus (simp only [List.length_map]; omega)) | (focus (simp; done)) | (focus (simp; omega))))))|(apply W.ln; (apply l_st_rpt; exact rfl; exact rfl; exact rfl; exact rfl; exact rfl; exact rfl; exact rfl; exact fun _ => rfl; (first | omega | (focus (simp only [List.length_map]; omega)) | (focus (simp; omega)))))|(apply AWP.seq)|(apply ACont_normal)|(apply W.region; kernel_rfl)|(apply Walk.nil)|(apply AWP.block)|(apply AWP.skip)|(apply ABlock_normal)
  | (refine W.cond _ rfl (fun hb => ?_) (fun hb => ?_) <;> ((try simp only [hb, Bool.not_true, Bool.not_false]) <;> (try simp only [decide_eq_true_eq, decide_eq_false_iff_not, Bool.not_eq_true', Bool.not_eq_false', Int.not_lt, Int.not_le, List.length_map, not_true_eq_false] at hb) <;> (try (exfalso; omega))))))
              refine ⟨j + 1, by omega, by omega, ?_⟩
              rw [hsn.out]
              exact ⟨[0, 1, 2, 3, 4, 5, 6, 7, 8, 9, 10], rfl, rfl, rfl, iV_eq (by omega), rfl, rfl, rfl, rfl, rfl, rfl, rfl, rfl, trivial⟩
            have ejl : j = s.length := by omega
            subst ejl
            rw [List.take_length]
            have hmn := minusN_length s hv
            (repeat' (first
  | (apply W.qd; (apply q_lss; exact rfl; exact rfl))|(apply AWP.seq)|(apply ACont_normal)|(apply (W.regionS 15); exact rfl; kernel_rfl)|(apply Walk.nil)|(apply AWP.exit)|(apply ACont_exit)|(apply ABlock_exit)
  | (refine W.cond _ rfl (fun hb => ?_) (fun hb => ?_) <;> ((try simp only [hb, Bool.not_true, Bool.not_false]) <;> (try simp only [decide_eq_true_eq, decide_eq_false_iff_not, Bool.not_eq_true', Bool.not_eq_false', Int.not_lt, Int.not_le, List.length_map, not_true_eq_false] at hb) <;> (try (exfalso; omega))))))
            refine AWP.wk ⟨[(9, bools (minusN hv s)), (8, nats s), (2, .opt 0 0), (4, .opt 2 0), (5, .opt 3 0), (7, .opt 4 0)], subO (srcB0 M D ps) (.box [bools hv]) (.box [iV 0]) (.box [.d (.v (.slice none 0 0))]) (.box [iV f]) (upN hv) (f + 1) (.lp .busy none #[25] cA cB (tmpsOf (srcEnv hv f) Tryd.f92.ntmps))⟩ ?wkf1 ?_
            case wkf1 => exact ⟨[0, 1, 2, 3, 4, 5, 6, 7, 8, 9], rfl, rfl, rfl, (frz_rowJ (i := 10) (ver := 1) (n := hv.length) (l := (minusN hv s).map tD) rfl rfl (by rw [List.length_map, hmn])).symm, rfl, rfl, rfl, rfl, rfl, trivial⟩
            have hds := hdecs s
            rw [show dec (minusN hv s) = true from hg] at hds
            (repeat' (first
  | (apply W.qd; (first
    | (apply (q_callC (hds)); exact rfl; exact rfl; kernel_rfl; kernel_rfl; kernel_rfl)|(apply q_mv; (first|exact vD|exact vO|exact vP|exact vA|exact vF|exact vR|exact vN|exact vY|exact vT|exact vM|exact vL|exact vX))|(apply q_ld_boxF; exact rfl; exact rfl; exact rfl; exact rfl)
    | (apply q_not; exact rfl)))|(apply ACont_normal)|(apply W.region; kernel_rfl)|(apply Walk.nil)|(apply AWP.skip)|(apply ABlock_normal)
  | (apply W.condF; exact rfl)))
            exact ⟨rfl, ⟨[0, 1, 2, 3, 4, 5, 6, 7, 8, 9], rfl, rfl, rfl, by (repeat (first | exact trivial | refine ⟨rfl, ?_⟩))⟩⟩
        dsimp only
        (repeat' (first
  | (apply W.qd; (first
    | (apply q_mv; (first|exact vD|exact vO|exact vP|exact vA|exact vF|exact vR|exact vN|exact vY|exact vT|exact vM|exact vL|exact vX))
    | (apply q_add; exact rfl; exact rfl; omega)))|(apply ACont_normal)|(apply W.region; kernel_rfl)|(apply Walk.nil)
  | (apply ABlock_normal)))
        refine ⟨f + 1, ⟨by omega, fun g hg => ?_⟩, by omega, [0, 1, 2, 3], rfl, rfl, rfl, iV_eq (by omega), rfl, rfl, rfl, rfl, rfl, trivial⟩
        by_cases e : g = f
        · subst e; exact hbI
        · exact hf.2 g (by omega)
      | some s0 =>
        rw [hB] at hbI
        have hfr : f = R := by
          have hq : (List.range 4).find? (badN dec hv) = some f := List.find?_range_eq_some.2 ⟨hbI, List.mem_range.2 hf4, fun g hg => by rw [hf.2 g hg]; rfl⟩
          rw [hq] at hR; exact hR
        subst hfr
        refine AWP.range (s2 := ⟨[(4, .opt 2 0), (5, .opt 3 0)], [srcB0 M D ps, .box [bools hv], .box [iV f], .box [nats s0]]⟩) rfl (by kernel_rfl) (A_subIter (F2 := .box [iV f]) (F7 := .lp .done (some .ret) _ _ _ (tmpsOf (srcEnv hv f) Tryd.f92.ntmps)) (F3 := fun s => .box [nats s]) hupl (by omega) (by omega) hB fun s hs1 hs2 => ?_) rfl (by decide) ⟨[0, 1, 2, 3], rfl, rfl, rfl, by (repeat (first | exact trivial | refine ⟨rfl, ?_⟩))⟩ ?_
        · cases hg : dec (minusN hv s) with
          | true =>
            rw [if_pos rfl]
            refine YAt.ok (own1 := subO (srcB0 M D ps) (.box [bools hv]) (.box [iV 0]) (.box [.d (.v (.slice none 0 0))]) (.box [iV f]) (upN hv) (f + 1) (.lp .busy none #[25] _ _ _)) (s2 := ⟨(8, nats s) :: srcEnv hv f, _⟩) rfl rfl rfl rfl (fun g => ?_) rfl (fun g => ?_) rfl rfl
            · refine AWP.toW ?_
              (repeat' (first
  | (apply W.qd; (apply q_as; (first|exact vD|exact vO|exact vP|exact vA|exact vF|exact vR|exact vN|exact vY|exact vT|exact vM|exact vL|exact vX)))|(apply W.region; kernel_rfl)
  | (apply Walk.nil)))
              exact ⟨rfl, ⟨[0, 1, 2, 3, 4, 5, 6, 7, 8, 9], rfl, rfl, rfl, by (repeat (first | exact trivial | refine ⟨rfl, ?_⟩))⟩⟩
            · refine AWP.toO ?_
              refine gen_entE (motive := fun L => AWPG (Ctx.round g) Tryd.prog Tryd.f92.ntmps 10 _ (fun e s9 => e = .normal ∧ Wk 10 s9 ⟨[], subO (srcB0 M D ps) (.box [bools hv]) (.box [iV 0]) (.box [.d (.v (.slice none 0 0))]) (.box [iV f]) (upN hv) (f + 1) L⟩) ⟨(8, nats s) :: srcEnv hv f, subO (srcB0 M D ps) (.box [bools hv]) (.box [iV 0]) (.box [.d (.v (.slice none 0 0))]) (.box [iV f]) (upN hv) (f + 1) L⟩) _ fun L hL => ?_
              obtain ⟨cA, cB, hL⟩ : ∃ cA cB, L = .lp .busy none #[25] cA cB (tmpsOf (srcEnv hv f) Tryd.f92.ntmps) := ⟨_, _, hL⟩
              subst hL
              have hms : (s.map kD).length = s.length := List.length_map _
              (repeat' (first
  | (apply W.qd; (first
    | (apply q_mv; (first|exact vD|exact vO|exact vP|exact vA|exact vF|exact vR|exact vN|exact vY|exact vT|exact vM|exact vL|exact vX))|(apply q_as; (first|exact vD|exact vO|exact vP|exact vA|exact vF|exact vR|exact vN|exact vY|exact vT|exact vM|exact vL|exact vX))|(apply q_ld_box; exact rfl; exact rfl; exact rfl; exact rfl)
    | (apply q_len_sl; exact rfl; exact rfl)))|(apply W.ed; (apply (e_callJ (js := []) (hcl)); exact rfl; exact rfl; exact rfl; exact rfl; exact rfl; kernel_rfl; kernel_rfl))|(apply AWP.seq)|(apply ACont_normal)|(apply W.region; kernel_rfl)|(apply Walk.nil)
  | (apply AWP.block)))
              refine AWP.loopW (α := Nat) (fun j => j ≤ s.length) (fun j => ⟨[(30, iV j), (29, iV s.length), (28, nats s), (9, .osl 10 1 0 hv.length), (8, nats s), (2, .opt 0 0), (4, .opt 2 0), (5, .opt 3 0), (7, .opt 4 0)], subO (srcB0 M D ps) (.box [bools hv]) (.box [iV 0]) (.box [.d (.v (.slice none 0 0))]) (.box [iV f]) (upN hv) (f + 1) (.lp .busy none #[25] cA cB (tmpsOf (srcEnv hv f) Tryd.f92.ntmps)) ++ [.row 1 1 4 ((minusN hv (s.take j)).map tD)]⟩) (fun j => s.length - j) 0 (Nat.zero_le _) ?wkr2 fun j hj => ?_
              case wkr2 => exact ⟨[0, 1, 2, 3, 4, 5, 6, 7, 8, 9, 10], rfl, rfl, rfl, rfl, iV_eq (by rw [hms]), rfl, rfl, rfl, rfl, rfl, rfl, rfl, trivial⟩
              by_cases hjl : j < s.length
              · have hu := hup s[j] (hs1.subset (List.getElem_mem hjl))
                have hmn := minusN_length (s.take j) hv
                have hsn := minusN_snoc hv (s.take j) s[j]
                rw [← List.take_succ_eq_append_getElem hjl] at hsn
                replace hsn := Lib.hid hsn
                generalize minusN hv (s.take j) = A at *
                (repeat' (first
  | (apply W.qd; (first
    | (apply q_mv; (first|exact vD|exact vO|exact vP|exact vA|exact vF|exact vR|exact vN|exact vY|exact vT|exact vM|exact vL|exact vX))|(apply q_as; (first|exact vD|exact vO|exact vP|exact vA|exact vF|exact vR|exact vN|exact vY|exact vT|exact vM|exact vL|exact vX))|(apply q_lss; exact rfl; exact rfl)|(apply q_add; exact rfl; exact rfl; omega)|(apply q_ld_map; exact rfl; exact rfl; exact rfl; (first | omega | (focus (simp; done))))|(apply q_ix_slF; exact rfl; exact rfl; exact rfl; exact rfl; (first | (with_reducible exact rfl) | exact natI_spec rfl | assumption | exact (Int.toNat_of_nonneg (by omega)).symm); (first | omega | (focus (simp only [List.length_map]; omega)) | (focus (simp; done)) | (focus (simp; omega))))
    | (apply q_ix_osl0; exact rfl; exact rfl; exact rfl; exact rfl; (first | (with_reducible exact rfl) | exact natI_spec rfl | assumption | exact (Int.toNat_of_nonneg (by omega)).symm); (first | omega | (focus (simp only [List.length_map]; omega)) | (focus (simp; done)) | (focus (simp; omega))))))|(apply W.ln; (apply l_st_rpt; exact rfl; exact rfl; exact rfl; exact rfl; exact rfl; exact rfl; exact rfl; exact fun _ => rfl; (first | omega | (focus (simp only [List.length_map]; omega)) | (focus (simp; omega)))))|(apply AWP.seq)|(apply ACont_normal)|(apply W.region; kernel_rfl)|(apply Walk.nil)|(apply AWP.block)|(apply AWP.skip)|(apply ABlock_normal)
  | (refine W.cond _ rfl (fun hb => ?_) (fun hb => ?_) <;> ((try simp only [hb, Bool.not_true, Bool.not_false]) <;> (try simp only [decide_eq_true_eq, decide_eq_false_iff_not, Bool.not_eq_true', Bool.not_eq_false', Int.not_lt, Int.not_le, List.length_map, not_true_eq_false] at hb) <;> (try (exfalso; omega))))))
                refine ⟨j + 1, by omega, by omega, ?_⟩
                rw [hsn.out]
                exact ⟨[0, 1, 2, 3, 4, 5, 6, 7, 8, 9, 10], rfl, rfl, rfl, iV_eq (by omega), rfl, rfl, rfl, rfl, rfl, rfl, rfl, rfl, trivial⟩
              have ejl : j = s.length := by omega
              subst ejl
              rw [List.take_length]
              have hmn := minusN_length s hv
              (repeat' (first
  | (apply W.qd; (apply q_lss; exact rfl; exact rfl))|(apply AWP.seq)|(apply ACont_normal)|(apply (W.regionS 15); exact rfl; kernel_rfl)|(apply Walk.nil)|(apply AWP.exit)|(apply ACont_exit)|(apply ABlock_exit)
  | (refine W.cond _ rfl (fun hb => ?_) (fun hb => ?_) <;> ((try simp only [hb, Bool.not_true, Bool.not_false]) <;> (try simp only [decide_eq_true_eq, decide_eq_false_iff_not, Bool.not_eq_true', Bool.not_eq_false', Int.not_lt, Int.not_le, List.length_map, not_true_eq_false] at hb) <;> (try (exfalso; omega))))))
              refine AWP.wk ⟨[(9, bools (minusN hv s)), (8, nats s), (2, .opt 0 0), (4, .opt 2 0), (5, .opt 3 0), (7, .opt 4 0)], subO (srcB0 M D ps) (.box [bools hv]) (.box [iV 0]) (.box [.d (.v (.slice none 0 0))]) (.box [iV f]) (upN hv) (f + 1) (.lp .busy none #[25] cA cB (tmpsOf (srcEnv hv f) Tryd.f92.ntmps))⟩ ?wkf2 ?_
              case wkf2 => exact ⟨[0, 1, 2, 3, 4, 5, 6, 7, 8, 9], rfl, rfl, rfl, (frz_rowJ (i := 10) (ver := 1) (n := hv.length) (l := (minusN hv s).map tD) rfl rfl (by rw [List.length_map, hmn])).symm, rfl, rfl, rfl, rfl, rfl, trivial⟩
              have hds := hdecs s
              rw [hg] at hds
              (repeat' (first
  | (apply W.qd; (first
    | (apply (q_callC (hds)); exact rfl; exact rfl; kernel_rfl; kernel_rfl; kernel_rfl)|(apply q_mv; (first|exact vD|exact vO|exact vP|exact vA|exact vF|exact vR|exact vN|exact vY|exact vT|exact vM|exact vL|exact vX))|(apply q_ld_boxF; exact rfl; exact rfl; exact rfl; exact rfl)
    | (apply q_not; exact rfl)))|(apply ACont_normal)|(apply W.region; kernel_rfl)|(apply Walk.nil)|(apply AWP.skip)|(apply ABlock_normal)
  | (apply W.condF; exact rfl)))
              exact ⟨rfl, ⟨[0, 1, 2, 3, 4, 5, 6, 7, 8, 9], rfl, rfl, rfl, by (repeat (first | exact trivial | refine ⟨rfl, ?_⟩))⟩⟩
          | false =>
            rw [if_neg (by decide)]
            refine YAt.ret (own1 := subO (srcB0 M D ps) (.box [bools hv]) (.box [iV f]) (.box [nats s]) (.box [iV f]) (upN hv) (f + 1) (.lp .busy none #[25] _ _ _)) (s2 := ⟨(8, nats s) :: srcEnv hv f, _⟩) rfl rfl rfl rfl (fun g => ?_) rfl (fun g => ?_) rfl rfl
            · refine AWP.toW ?_
              (repeat' (first
  | (apply W.qd; (apply q_as; (first|exact vD|exact vO|exact vP|exact vA|exact vF|exact vR|exact vN|exact vY|exact vT|exact vM|exact vL|exact vX)))|(apply W.region; kernel_rfl)
  | (apply Walk.nil)))
              exact ⟨rfl, ⟨[0, 1, 2, 3, 4, 5, 6, 7, 8, 9], rfl, rfl, rfl, by (repeat (first | exact trivial | refine ⟨rfl, ?_⟩))⟩⟩
            · refine AWP.toX ?_
              refine gen_entE (motive := fun L => AWPG (Ctx.round g) Tryd.prog Tryd.f92.ntmps 10 _ (fun e s9 => e = .ret ∧ Wk 10 s9 ⟨[], subO (srcB0 M D ps) (.box [bools hv]) (.box [iV f]) (.box [nats s]) (.box [iV f]) (upN hv) (f + 1) L⟩) ⟨(8, nats s) :: srcEnv hv f, subO (srcB0 M D ps) (.box [bools hv]) (.box [iV 0]) (.box [.d (.v (.slice none 0 0))]) (.box [iV f]) (upN hv) (f + 1) L⟩) _ fun L hL => ?_
              obtain ⟨cA, cB, hL⟩ : ∃ cA cB, L = .lp .busy none #[25] cA cB (tmpsOf (srcEnv hv f) Tryd.f92.ntmps) := ⟨_, _, hL⟩
              subst hL
              have hms : (s.map kD).length = s.length := List.length_map _
              (repeat' (first
  | (apply W.qd; (first
    | (apply q_mv; (first|exact vD|exact vO|exact vP|exact vA|exact vF|exact vR|exact vN|exact vY|exact vT|exact vM|exact vL|exact vX))|(apply q_as; (first|exact vD|exact vO|exact vP|exact vA|exact vF|exact vR|exact vN|exact vY|exact vT|exact vM|exact vL|exact vX))|(apply q_ld_box; exact rfl; exact rfl; exact rfl; exact rfl)
    | (apply q_len_sl; exact rfl; exact rfl)))|(apply W.ed; (apply (e_callJ (js := []) (hcl)); exact rfl; exact rfl; exact rfl; exact rfl; exact rfl; kernel_rfl; kernel_rfl))|(apply AWP.seq)|(apply ACont_normal)|(apply W.region; kernel_rfl)|(apply Walk.nil)
  | (apply AWP.block)))
              refine AWP.loopW (α := Nat) (fun j => j ≤ s.length) (fun j => ⟨[(30, iV j), (29, iV s.length), (28, nats s), (9, .osl 10 1 0 hv.length), (8, nats s), (2, .opt 0 0), (4, .opt 2 0), (5, .opt 3 0), (7, .opt 4 0)], subO (srcB0 M D ps) (.box [bools hv]) (.box [iV 0]) (.box [.d (.v (.slice none 0 0))]) (.box [iV f]) (upN hv) (f + 1) (.lp .busy none #[25] cA cB (tmpsOf (srcEnv hv f) Tryd.f92.ntmps)) ++ [.row 1 1 4 ((minusN hv (s.take j)).map tD)]⟩) (fun j => s.length - j) 0 (Nat.zero_le _) ?wkr3 fun j hj => ?_
              case wkr3 => exact ⟨[0, 1, 2, 3, 4, 5, 6, 7, 8, 9, 10], rfl, rfl, rfl, rfl, iV_eq (by rw [hms]), rfl, rfl, rfl, rfl, rfl, rfl, rfl, trivial⟩
              by_cases hjl : j < s.length
              · have hu := hup s[j] (hs1.subset (List.getElem_mem hjl))
                have hmn := minusN_length (s.take j) hv
                have hsn := minusN_snoc hv (s.take j) s[j]
                rw [← List.take_succ_eq_append_getElem hjl] at hsn
                replace hsn := Lib.hid hsn
                generalize minusN hv (s.take j) = A at *
                (repeat' (first
  | (apply W.qd; (first
    | (apply q_mv; (first|exact vD|exact vO|exact vP|exact vA|exact vF|exact vR|exact vN|exact vY|exact vT|exact vM|exact vL|exact vX))|(apply q_as; (first|exact vD|exact vO|exact vP|exact vA|exact vF|exact vR|exact vN|exact vY|exact vT|exact vM|exact vL|exact vX))|(apply q_lss; exact rfl; exact rfl)|(apply q_add; exact rfl; exact rfl; omega)|(apply q_ld_map; exact rfl; exact rfl; exact rfl; (first | omega | (focus (simp; done))))|(apply q_ix_slF; exact rfl; exact rfl; exact rfl; exact rfl; (first | (with_reducible exact rfl) | exact natI_spec rfl | assumption | exact (Int.toNat_of_nonneg (by omega)).symm); (first | omega | (focus (simp only [List.length_map]; omega)) | (focus (simp; done)) | (focus (simp; omega))))
    | (apply q_ix_osl0; exact rfl; exact rfl; exact rfl; exact rfl; (first | (with_reducible exact rfl) | exact natI_spec rfl | assumption | exact (Int.toNat_of_nonneg (by omega)).symm); (first | omega | (focus (simp only [List.length_map]; omega)) | (focus (simp; done)) | (focus (simp; omega))))))|(apply W.ln; (apply l_st_rpt; exact rfl; exact rfl; exact rfl; exact rfl; exact rfl; exact rfl; exact rfl; exact fun _ => rfl; (first | omega | (focus (simp only [List.length_map]; omega)) | (focus (simp; omega)))))|(apply AWP.seq)|(apply ACont_normal)|(apply W.region; kernel_rfl)|(apply Walk.nil)|(apply AWP.block)|(apply AWP.skip)|(apply ABlock_normal)
  | (refine W.cond _ rfl (fun hb => ?_) (fun hb => ?_) <;> ((try simp only [hb, Bool.not_true, Bool.not_false]) <;> (try simp only [decide_eq_true_eq, decide_eq_false_iff_not, Bool.not_eq_true', Bool.not_eq_false', Int.not_lt, Int.not_le, List.length_map, not_true_eq_false] at hb) <;> (try (exfalso; omega))))))
                refine ⟨j + 1, by omega, by omega, ?_⟩
                rw [hsn.out]
                exact ⟨[0, 1, 2, 3, 4, 5, 6, 7, 8, 9, 10], rfl, rfl, rfl, iV_eq (by omega), rfl, rfl, rfl, rfl, rfl, rfl, rfl, rfl, trivial⟩
              have ejl : j = s.length := by omega
              subst ejl
              rw [List.take_length]
              have hmn := minusN_length s hv
              (repeat' (first
  | (apply W.qd; (apply q_lss; exact rfl; exact rfl))|(apply AWP.seq)|(apply ACont_normal)|(apply (W.regionS 15); exact rfl; kernel_rfl)|(apply Walk.nil)|(apply AWP.exit)|(apply ACont_exit)|(apply ABlock_exit)
  | (refine W.cond _ rfl (fun hb => ?_) (fun hb => ?_) <;> ((try simp only [hb, Bool.not_true, Bool.not_false]) <;> (try simp only [decide_eq_true_eq, decide_eq_false_iff_not, Bool.not_eq_true', Bool.not_eq_false', Int.not_lt, Int.not_le, List.length_map, not_true_eq_false] at hb) <;> (try (exfalso; omega))))))
              refine AWP.wk ⟨[(9, bools (minusN hv s)), (8, nats s), (2, .opt 0 0), (4, .opt 2 0), (5, .opt 3 0), (7, .opt 4 0)], subO (srcB0 M D ps) (.box [bools hv]) (.box [iV 0]) (.box [.d (.v (.slice none 0 0))]) (.box [iV f]) (upN hv) (f + 1) (.lp .busy none #[25] cA cB (tmpsOf (srcEnv hv f) Tryd.f92.ntmps))⟩ ?wkf3 ?_
              case wkf3 => exact ⟨[0, 1, 2, 3, 4, 5, 6, 7, 8, 9], rfl, rfl, rfl, (frz_rowJ (i := 10) (ver := 1) (n := hv.length) (l := (minusN hv s).map tD) rfl rfl (by rw [List.length_map, hmn])).symm, rfl, rfl, rfl, rfl, rfl, trivial⟩
              have hds := hdecs s
              rw [hg] at hds
              (repeat' (first
  | (apply W.qd; (first
    | (apply (q_callC (hds)); exact rfl; exact rfl; kernel_rfl; kernel_rfl; kernel_rfl)|(apply q_mv; (first|exact vD|exact vO|exact vP|exact vA|exact vF|exact vR|exact vN|exact vY|exact vT|exact vM|exact vL|exact vX))|(apply q_ld_box; exact rfl; exact rfl; exact rfl; exact rfl)|(apply q_ld_boxF; exact rfl; exact rfl; exact rfl; exact rfl)
    | (apply q_not; exact rfl)))|(apply W.ln; (apply l_st_box; exact rfl; exact rfl; exact rfl; exact rfl; exact rfl; exact rfl; kernel_rfl; kernel_rfl; kernel_rfl))|(apply AWP.seq)|(apply ACont_normal)|(apply W.region; kernel_rfl)|(apply Walk.nil)|(apply AWP.ret)|(apply ABlock_ret)
  | (apply W.condT; exact rfl)))
              exact ⟨rfl, ⟨[0, 1, 2, 3, 4, 5, 6, 7, 8, 9], rfl, rfl, rfl, by (repeat (first | exact trivial | refine ⟨rfl, ?_⟩))⟩⟩
        dsimp only
        (repeat' (first
  | (apply AWP.ret)|(apply ACont_ret)
  | (apply ABlock_ret)))
        exact ⟨.inl rfl, [], [iV f, nats s0], rfl, ⟨⟨2, [iV f], false, rfl, rfl, rfl, rfl⟩, ⟨3, [nats s0], false, rfl, rfl, rfl, rfl⟩, trivial⟩, AVle.tup2 (AVle.refl _) (AVle.anyS _ _), rfl⟩
    · have e4 : f = 4 := by omega
      subst e4
      have hn : (List.range 4).find? (badN dec hv) = none := by
        rw [List.find?_eq_none]
        intro g hg
        rw [hf.2 g (List.mem_range.1 hg)]; decide
      rw [hn] at hR
      obtain rfl : 4 = R := hR
      (repeat' (first
  | (apply W.qd; (apply q_lss; exact rfl; exact rfl))|(apply W.ln; (apply l_st_box; exact rfl; exact rfl; exact rfl; exact rfl; exact rfl; exact rfl; kernel_rfl; kernel_rfl; kernel_rfl))|(apply AWP.seq)|(apply ACont_normal)|(apply W.region; kernel_rfl)|(apply Walk.nil)|(apply AWP.exit)|(apply AWP.ret)|(apply ACont_exit)|(apply ABlock_exit)
  | (apply W.condF; exact rfl)))
      exact ⟨.inl rfl, [], [iV 4, .d (.v (.slice none 0 0))], rfl, ⟨⟨2, [iV 4], false, rfl, rfl, rfl, rfl⟩, ⟨3, [.d (.v (.slice none 0 0))], false, rfl, rfl, rfl, rfl⟩, trivial⟩, AVle.tup2 (AVle.refl _) (AVle.anyV rfl), rfl⟩
end Go.Proofs.YtaclmbbiegklcaaDoor
end
section
/- A row of the call's own gets other elements, of the same number: a whole element of several cells is stored, elements are cleared, elements are copied. No program in sight. -/
namespace Go.Proofs.YtaclmbbiegklcaaDoor
open Go.RowKit
theorem seg_get (l us : List Value) (o x : Nat) (h : o + us.length ≤ l.length) : (l.take o ++ us ++ l.drop (o + us.length))[x]? = if o ≤ x ∧ x < o + us.length then us[x - o]? else l[x]? := by
  have ht : (l.take o).length = o := by rw [List.length_take]; omega
  by_cases h1 : x < o
  · rw [if_neg (by omega), List.append_assoc, List.getElem?_append_left (by omega), List.getElem?_take, if_pos h1]
  · by_cases h2 : x < o + us.length
    · rw [if_pos ⟨by omega, h2⟩, List.append_assoc, List.getElem?_append_right (by omega), ht, List.getElem?_append_left (by omega)]
    · rw [if_neg (by omega), List.getElem?_append_right (by rw [List.length_append, ht]; omega), List.length_append, ht, List.getElem?_drop]
      congr 1
      omega
theorem setK_same {κ : List (Option Nat)} {i : Nat} {og : Option Nat} (h : κ[i]? = some og) : κ.set i og = κ := List.ext_getElem? fun j => by
  by_cases hj : j = i
  · subst hj; rw [List.getElem?_set_self (List.getElem?_eq_some_iff.1 h).1, h]
  · rw [List.getElem?_set_ne (Ne.symm hj)]
theorem row_put {F : Nat → Prop} {κ : List (Option Nat)} {w : World} {m : Nat} {own : List Ent} {i ver sz g : Nat} {e : TypeId} {l l' : List (List Dat)} {cur cur' : Array Value} (ho : OwnSat F own κ w) (hi : own[i]? = some (.row ver sz e l)) (h3 : κ[i]? = some (some g)) (h5 : w.heap[g]? = some (.cells cur e (0, 0))) (h0 : 0 < sz) (hs : cur'.size = cur.size) (hl : l'.length = l.length) (h6 : l.length * sz ≤ cur.size)
    (hr : ∀ j e', l'[j]? = some e' → e'.length = sz ∧ ∀ q y, e'[q]? = some y → ∃ u, cur'[j * sz + q]? = some u ∧ u.oneCell' = true ∧ Dat.sat (badK F κ) w y u) :
    OwnSat F (own.set i (.row ver sz e l')) κ (w.setRow g cur') ∧ Tr F m own κ w (own.set i (.row ver sz e l')) κ (w.setRow g cur') := by
  have hrow := setRow_heap w g cur cur' e (0, 0) h5
  have key := step_upd (m := m) (x' := .row ver sz e l') (og := some g) (og' := some g) (w' := w.setRow g cur') ho hi h3 rfl rfl rfl (by simp [World.setRow]) (fun b hb hne => by
        simp only [World.setRow, Array.getElem?_modify]
        rw [if_neg (fun e => hne (by rw [e]))]) (.inl rfl) (.inr rfl) (.inr ⟨rfl, rfl, rfl, hl.symm, rfl, fun g' hg' cur2 t' fz' hcur' => by
          obtain rfl : g = g' := by simpa using hg'
          rw [h5] at hcur'
          obtain ⟨rfl, rfl, rfl⟩ : cur = cur2 ∧ e = t' ∧ (0, 0) = fz' := by simpa using hcur'
          exact ⟨_, _, _, hrow, hs.symm⟩⟩) (fun hst => ⟨h0, .inr ⟨g, rfl, _, hrow, by rw [hl, hs]; exact h6, by
            rw [Dat.rowsSat_iff]
            intro j' e' hj'
            obtain ⟨h8, h9⟩ := hr j' e' hj'
            refine ⟨h8, ?_⟩
            rw [Dat.rowSat_iff]
            intro q y hq
            obtain ⟨u, q1, q2, q3⟩ := h9 q y hq
            refine ⟨u, ?_, q2, Dat.sat_wide hst.wide y q3⟩
            rw [cell_of_row _ g _ _ e (0, 0) hrow, Nat.zero_add]
            exact q1⟩⟩)
  rw [setK_same h3] at key
  exact key
theorem row_cells {F : Nat → Prop} {κ : List (Option Nat)} {w : World} {own : List Ent} {i ver sz g : Nat} {e : TypeId} {l : List (List Dat)} (ho : OwnSat F own κ w) (hi : own[i]? = some (.row ver sz e l)) (h3 : κ[i]? = some (some g)) :
    0 < sz ∧ ∃ cur, w.heap[g]? = some (.cells cur e (0, 0)) ∧ l.length * sz ≤ cur.size ∧ ∀ j e', l[j]? = some e' → e'.length = sz ∧ ∀ q y, e'[q]? = some y → ∃ u, cur[j * sz + q]? = some u ∧ u.oneCell' = true ∧ Dat.sat (badK F κ) w y u := by
  obtain ⟨h0, hent⟩ := ho.ent i _ hi
  rw [getD_some h3] at hent
  rcases hent with ⟨hxx, _⟩ | ⟨g', hg', cur, h5, h6, h7⟩
  · cases hxx
  · obtain rfl : g = g' := by simpa using hg'
    refine ⟨h0, cur, h5, h6, fun j e' hj => ?_⟩
    rw [Dat.rowsSat_iff] at h7
    obtain ⟨h8, h9⟩ := h7 j e' hj
    refine ⟨h8, fun q y hq => ?_⟩
    rw [Dat.rowSat_iff] at h9
    obtain ⟨u, q1, q2, q3⟩ := h9 q y hq
    rw [cell_of_row w g _ cur e (0, 0) h5, Nat.zero_add] at q1
    exact ⟨u, q1, q2, q3⟩
theorem row1_vals {B : Nat → Prop} {w : World} {b o : Nat} {s : List (List Dat)} (h : Dat.rowsSat B w b 1 o s) : ∃ us : List Value, us.length = s.length ∧ (∀ (j : Nat) (u : Value), us[j]? = some u → w.cell? ⟨b, o + j, none⟩ = some u) ∧ ∀ (j : Nat) (e' : List Dat), s[j]? = some e' → e'.length = 1 ∧ ∀ y, e'[0]? = some y → ∃ u, us[j]? = some u ∧ u.oneCell' = true ∧ Dat.sat B w y u := by
  rw [Dat.rowsSat_iff] at h
  have each : ∀ (j : Nat) (e' : List Dat), s[j]? = some e' → e'.length = 1 ∧ ∀ y, e'[0]? = some y → ∃ u, w.cell? ⟨b, o + j, none⟩ = some u ∧ u.oneCell' = true ∧ Dat.sat B w y u := fun j e' hj => by
    obtain ⟨h8, h9⟩ := h j e' hj
    refine ⟨h8, fun y hy => ?_⟩
    rw [Dat.rowSat_iff] at h9
    have := h9 0 y hy
    rwa [Nat.mul_one, Nat.add_zero] at this
  refine ⟨(List.range s.length).map fun i => ((w.cell? ⟨b, o + i, none⟩).getD undef), by simp, fun j u hu => ?_, fun j e' hj => ?_⟩
  · have hlt : j < s.length := by have := (List.getElem?_eq_some_iff.1 hu).1; simpa using this
    obtain ⟨h8, h9⟩ := each j _ (List.getElem?_eq_getElem hlt)
    obtain ⟨u', q1, _, _⟩ := h9 _ (List.getElem?_eq_getElem (by omega))
    rw [List.getElem?_map, List.getElem?_range hlt] at hu
    simp only [Option.map_some, q1, Option.getD_some, Option.some.injEq] at hu
    subst hu; exact q1
  · have hlt : j < s.length := (List.getElem?_eq_some_iff.1 hj).1
    obtain ⟨h8, h9⟩ := each j e' hj
    refine ⟨h8, fun y hy => ?_⟩
    obtain ⟨u, q1, q2, q3⟩ := h9 y hy
    exact ⟨u, by rw [List.getElem?_map, List.getElem?_range hlt]; simp [q1], q2, q3⟩
theorem vals1_one {B : Nat → Prop} {w : World} {s : List (List Dat)} {us : List Value} (hl : us.length = s.length) (h : ∀ (j : Nat) (e' : List Dat), s[j]? = some e' → e'.length = 1 ∧ ∀ y, e'[0]? = some y → ∃ u, us[j]? = some u ∧ u.oneCell' = true ∧ Dat.sat B w y u) : ∀ u ∈ us, u.oneCell' = true := fun u hu => by
  obtain ⟨j, hj⟩ := List.mem_iff_getElem?.1 hu
  have hlt : j < s.length := by rw [← hl]; exact (List.getElem?_eq_some_iff.1 hj).1
  obtain ⟨h8, h9⟩ := h j _ (List.getElem?_eq_getElem hlt)
  obtain ⟨u', q1, q2, _⟩ := h9 _ (List.getElem?_eq_getElem (by omega))
  rw [hj] at q1
  obtain rfl : u = u' := by simpa using q1
  exact q2
theorem idx_ne {j j' q o sz : Nat} (hq : q < sz) (ho : o < sz) (h : j' ≠ j) : ¬ (j * sz ≤ j' * sz + q ∧ j' * sz + q < j * sz + sz) := fun ⟨a, b⟩ => by
  rcases Nat.lt_or_gt_of_ne h with h1 | h1
  · have := Nat.mul_le_mul_right sz (show j' + 1 ≤ j from h1)
    rw [Nat.succ_mul] at this; omega
  · have := Nat.mul_le_mul_right sz (show j + 1 ≤ j' from h1)
    rw [Nat.succ_mul] at this; omega
section
variable {P : Program} {m : Nat} {env : List (Nat × AV)} {own : List Ent} {dst : Option Tmp} {ty : TypeId} {pos : String} {af : Array Edge} {gd : Option (Nat × Bool)}
theorem e_st_rpts {t : TypeId} {k : Nat} {b : Bool} {x y : Operand} {i ver j sz : Nat} {e : TypeId} {l : List (List Dat)} {ds : List Dat} {own' : List Ent} (hx : lookO env x = .rpt i ver j 0) (hi : own[i]? = some (.row ver sz e l)) (ht : tyInfo P t = some (b, k)) (hk : k = sz) (hy : cellsD (lookO env y) = some ds) (hds : ds.length = sz) (h1 : ds.all (fun d => oneA (.d d)) = true) (ho' : setF own i (.row ver sz e (l.set j ds)) = some own') :
    Eff P m ⟨dst, .store t x y, ty, pos, af, gd⟩ env own [i] (.d (.v undef)) own' := by
  rw [setF_spec ho']
  exact Eff.mk (set_same _ i) fun F κ a w hs ho hm => by
    subst hk
    have hx1 := hs x (by simp [Op.operands]); rw [hx, AV.sat] at hx1
    have hy1 := hs y (by simp [Op.operands])
    obtain ⟨hcA, hok⟩ := cellsD_A hy
    have hcs := cellsA_sat hcA hy1 hok
    have hcl := satL_length hcs
    obtain ⟨hj, g, h3, h4⟩ := hx1.2 k e l hi
    obtain ⟨h0, cur, h5, h6, h7⟩ := row_cells ho hi h3
    have hvn : (a.eval y).cells.size = k := by
      rw [List.length_map, hds] at hcl
      rw [← Array.length_toList]; exact hcl.symm
    have hvl : (a.eval y).cells.toList.length = k := by rw [Array.length_toList]; exact hvn
    have hus : ∀ q d, ds[q]? = some d → ∃ u, (a.eval y).cells.toList[q]? = some u ∧ u.oneCell' = true ∧ Dat.sat (badK F κ) w d u := fun q d hq => by
      obtain ⟨u, q1, q2⟩ := satL_get hcs q (.d d) (by rw [List.getElem?_map, hq]; rfl)
      have q3 := List.all_eq_true.1 h1 d (List.mem_of_getElem? hq)
      refine ⟨u, q1, one_of_cellsA q3 q2, ?_⟩
      rw [AV.sat] at q2; exact q2
    have hone : ∀ u ∈ (a.eval y).cells.toList, u.oneCell' = true := fun u hu => by
      obtain ⟨q, hq⟩ := List.mem_iff_getElem?.1 hu
      have hlt : q < ds.length := by have := (List.getElem?_eq_some_iff.1 hq).1; omega
      obtain ⟨u', q1, q2, _⟩ := hus q _ (List.getElem?_eq_getElem hlt)
      rw [hq] at q1
      obtain rfl : u = u' := by simpa using q1
      exact q2
    have hjk : j * k + k ≤ l.length * k := by
      have := Nat.mul_le_mul_right k (show j + 1 ≤ l.length from hj)
      rw [Nat.succ_mul] at this; omega
    have hrun : (execOp a.eval ⟨dst, .store t x y, ty, pos, af, gd⟩).run P w = .ok .skip (w.setRow g (cur.toList.take (j * k) ++ (a.eval y).cells.toList ++ cur.toList.drop (j * k + (a.eval y).cells.toList.length)).toArray) := by
      have := run_storeAt (P := P) ht h5 (v := a.eval y) (o := j * k) hvn (by omega) hone
      rw [Nat.add_zero] at h4
      exact exec_u (by rw [h4]; exact this)
    rw [hrun]
    have hcs2 : cur.toList.length = cur.size := Array.length_toList
    obtain ⟨r1, r2⟩ := row_put (m := m) (cur' := (cur.toList.take (j * k) ++ (a.eval y).cells.toList ++ cur.toList.drop (j * k + (a.eval y).cells.toList.length)).toArray) (l' := l.set j ds) ho hi h3 h5 h0 (by simp; omega) (by simp) h6 (fun j' e' hj' => by
      have hget : ∀ x, (cur.toList.take (j * k) ++ (a.eval y).cells.toList ++ cur.toList.drop (j * k + (a.eval y).cells.toList.length)).toArray[x]? = if j * k ≤ x ∧ x < j * k + k then (a.eval y).cells.toList[x - j * k]? else cur[x]? := fun x => by
        have ec : cur.toList[x]? = cur[x]? := Array.getElem?_toList
        rw [List.getElem?_toArray, seg_get _ _ _ _ (by omega), hvl, ec]
      by_cases hjj : j' = j
      · subst hjj
        rw [List.getElem?_set_self hj] at hj'
        obtain rfl : ds = e' := by simpa using hj'
        refine ⟨hds, fun q y' hq => ?_⟩
        have hql : q < k := by have := (List.getElem?_eq_some_iff.1 hq).1; omega
        obtain ⟨u, q1, q2, q3⟩ := hus q y' hq
        refine ⟨u, ?_, q2, q3⟩
        rw [hget, if_pos ⟨by omega, by omega⟩, show j' * k + q - j' * k = q by omega]
        exact q1
      · rw [List.getElem?_set_ne (Ne.symm hjj)] at hj'
        obtain ⟨h8, h9⟩ := h7 j' e' hj'
        refine ⟨h8, fun q y' hq => ?_⟩
        have hql : q < k := by have := (List.getElem?_eq_some_iff.1 hq).1; omega
        obtain ⟨u, q1, q2, q3⟩ := h9 q y' hq
        exact ⟨u, by rw [hget, if_neg (idx_ne hql h0 hjj)]; exact q1, q2, q3⟩)
    exact ⟨κ, by rw [AV.sat, Dat.sat], r1, r2⟩
theorem e_st_rptM {α : Type} {f : α → List Dat} {l : List α} {t : TypeId} {k : Nat} {b : Bool} {x y : Operand} {i ver j sz : Nat} {e : TypeId} {ds : List Dat} {own' : List Ent} (v : α) (hx : lookO env x = .rpt i ver j 0) (hi : own[i]? = some (.row ver sz e (l.map f))) (ht : tyInfo P t = some (b, k)) (hk : k = sz) (hy : cellsD (lookO env y) = some ds) (hv : f v = ds) (hds : (f v).length = sz) (h1 : (f v).all (fun d => oneA (.d d)) = true) (ho' : setF own i (.row ver sz e ((l.set j v).map f)) = some own') :
    Eff P m ⟨dst, .store t x y, ty, pos, af, gd⟩ env own [i] (.d (.v undef)) own' := by
  subst hv
  refine e_st_rpts hx hi ht hk hy hds h1 ?_
  rw [List.map_set] at ho'
  exact ho'
theorem sat_slice_own {F : Nat → Prop} {κ : List (Option Nat)} {w : World} {p ver q n sz : Nat} {e : TypeId} {l : List (List Dat)} {u : Value} (hp : own[p]? = some (.row ver sz e l)) (h : AV.sat F own κ w (.osl p ver q n) u) (hn : 0 < n) : q + n ≤ l.length ∧ ∃ g c, κ[p]? = some (some g) ∧ u = .slice (some ⟨g, q * sz, none⟩) n c := by
  rw [AV.sat] at h
  obtain ⟨h1, A, c, h2, h3, h4, h5⟩ := h.2 sz e l hp
  rcases h5 (.inl hn) with ⟨g, g1, rfl, _⟩ | ⟨_, _, hc⟩
  · exact ⟨h1, g, c, g1, h2⟩
  · omega
theorem copy_fin {F : Nat → Prop} {κ : List (Option Nat)} {w : World} {p ver q n k g : Nat} {e : TypeId} {l s : List (List Dat)} {cs : List Value} {cur : Array Value} (ho : OwnSat F own κ w) (hp : own[p]? = some (.row ver 1 e l)) (hg : κ[p]? = some (some g)) (h5 : w.heap[g]? = some (.cells cur e (0, 0))) (hqn : q + n ≤ l.length) (hk : k ≤ n) (hks : k ≤ s.length) (hcs : cs.length = k)
    (hv : ∀ j e', s[j]? = some e' → j < k → e'.length = 1 ∧ ∀ y, e'[0]? = some y → ∃ u, cs[j]? = some u ∧ u.oneCell' = true ∧ Dat.sat (badK F κ) w y u) :
    OwnSat F (own.set p (.row ver 1 e (l.take q ++ s.take k ++ l.drop (q + k)))) κ (w.setRow g (cur.toList.take q ++ cs ++ cur.toList.drop (q + cs.length)).toArray) ∧ Tr F m own κ w (own.set p (.row ver 1 e (l.take q ++ s.take k ++ l.drop (q + k)))) κ (w.setRow g (cur.toList.take q ++ cs ++ cur.toList.drop (q + cs.length)).toArray) := by
  obtain ⟨h0, cur2, h5', h6, h7⟩ := row_cells ho hp hg
  obtain rfl : cur = cur2 := by rw [h5] at h5'; simpa using h5'
  have hcl : cur.toList.length = cur.size := Array.length_toList
  rw [Nat.mul_one] at h6
  have hlt : (l.take q).length = q := by rw [List.length_take]; omega
  have hls : (s.take k).length = k := by rw [List.length_take]; omega
  refine row_put (l' := l.take q ++ s.take k ++ l.drop (q + k)) ho hp hg h5 h0 (by simp; omega) (by simp; omega) (by rw [Nat.mul_one]; exact h6) fun j e' hj => ?_
  have hget : ∀ x, (cur.toList.take q ++ cs ++ cur.toList.drop (q + cs.length)).toArray[x]? = if q ≤ x ∧ x < q + k then cs[x - q]? else cur[x]? := fun x => by
    have ec : cur.toList[x]? = cur[x]? := Array.getElem?_toList
    rw [List.getElem?_toArray, seg_get _ _ _ _ (by omega), hcs, ec]
  have old : ∀ j' e2, l[j']? = some e2 → ¬ (q ≤ j' ∧ j' < q + k) → e2.length = 1 ∧ ∀ q' y, e2[q']? = some y → ∃ u, (cur.toList.take q ++ cs ++ cur.toList.drop (q + cs.length)).toArray[j' * 1 + q']? = some u ∧ u.oneCell' = true ∧ Dat.sat (badK F κ) w y u := fun j' e2 h hn => by
    obtain ⟨h8, h9⟩ := h7 j' e2 h
    refine ⟨h8, fun q' y hq => ?_⟩
    have hq0 : q' = 0 := by have := (List.getElem?_eq_some_iff.1 hq).1; omega
    subst hq0
    obtain ⟨u, q1, q2, q3⟩ := h9 0 y hq
    refine ⟨u, ?_, q2, q3⟩
    rw [hget, if_neg (by omega)]; exact q1
  by_cases h1 : j < q
  · rw [List.append_assoc, List.getElem?_append_left (by omega), List.getElem?_take, if_pos h1] at hj
    exact old j e' hj (by omega)
  · by_cases h2 : j < q + k
    · rw [List.append_assoc, List.getElem?_append_right (by omega), hlt, List.getElem?_append_left (by omega), List.getElem?_take, if_pos (by omega)] at hj
      obtain ⟨h8, h9⟩ := hv _ _ hj (by omega)
      refine ⟨h8, fun q' y hq => ?_⟩
      have hq0 : q' = 0 := by have := (List.getElem?_eq_some_iff.1 hq).1; omega
      subst hq0
      obtain ⟨u, q1, q2, q3⟩ := h9 y hq
      refine ⟨u, ?_, q2, q3⟩
      rw [hget, Nat.mul_one, Nat.add_zero, if_pos ⟨by omega, h2⟩]; exact q1
    · rw [List.getElem?_append_right (by rw [List.length_append]; omega), List.length_append, hlt, hls, List.getElem?_drop, show q + k + (j - (q + k)) = j by omega] at hj
      exact old j e' hj (by omega)
theorem info_one {t e : TypeId} {by' : Nat} {z : Value} (ht : slInfo P t = some (e, 1, by', z)) : P.underlying t = some (.slice e) ∧ (P.info? e).map (·.size) = some 1 := by
  obtain ⟨h1, i, h2, h3, _⟩ := slInfo_spec ht
  exact ⟨h1, by rw [h2]; simp [h3]⟩
theorem e_copyD {t t2 e e' : TypeId} {by' : Nat} {z : Value} {x y : Operand} {p ver q n : Nat} {l s : List (List Dat)} {own' : List Ent} (k : Nat) (hx : lookO env x = .osl p ver q n) (hp : own[p]? = some (.row ver 1 e l)) (hy : lookO env y = .d (.sl 1 s)) (ht : slInfo P t = some (e', 1, by', z)) (hk : k = min s.length n) (h0 : 0 < k) (ho' : setF own p (.row ver 1 e (l.take q ++ s.take k ++ l.drop (q + k))) = some own') :
    Eff P m ⟨dst, .call ⟨.builtin .copy, #[x, y], #[t, t2]⟩, ty, pos, af, gd⟩ env own [p] (iV k) own' := by
  rw [setF_spec ho']
  exact Eff.mk (set_same _ p) fun F κ a w hs ho hm => by
    have hx1 := hs x (by simp [Op.operands, Call.operands]); rw [hx] at hx1
    have hy1 := hs y (by simp [Op.operands, Call.operands]); rw [hy, AV.sat, Dat.sat] at hy1
    obtain ⟨h1, g, c, hg, hxv⟩ := sat_slice_own hp hx1 (by omega)
    obtain ⟨A, c2, hyv, _, _, h4⟩ := hy1
    obtain ⟨b, o, rfl, hb1, hb2, hb3⟩ := h4 (by omega)
    obtain ⟨h00, cur, h5, h6, h7⟩ := row_cells ho hp hg
    obtain ⟨us, hul, hv2, hv1⟩ := row1_vals hb3
    obtain ⟨hu, hsz⟩ := info_one ht
    rw [Nat.mul_one] at hxv
    have hct : (us.take k).length = k := by rw [List.length_take]; omega
    have hrun := run_copy_row (P := P) w t t2 ty e' g q n c ⟨b, o, none⟩ s.length c2 cur e (us.take k) hu hsz h5 (by rw [hct, hk]) (fun j v hj => by
      rw [List.getElem?_take] at hj
      split at hj
      · rw [add_none]; exact hv2 j v hj
      · cases hj) (by rw [hct]; omega) (fun v hv => vals1_one hul hv1 v (List.mem_of_mem_take hv))
    have hex : (execOp a.eval ⟨dst, .call ⟨.builtin .copy, #[x, y], #[t, t2]⟩, ty, pos, af, gd⟩).run P w = .ok (.value (goInt k)) (w.setRow g (cur.toList.take q ++ us.take k ++ cur.toList.drop (q + (us.take k).length)).toArray) := by
      rw [exec_builtin]
      simp only [builtin, List.map_toArray, List.map_cons, List.map_nil]
      rw [hxv, hyv]
      have := exec_v hrun
      rw [hct] at this ⊢
      exact this
    rw [hex]
    obtain ⟨r1, r2⟩ := copy_fin (m := m) (n := n) (s := s) ho hp hg h5 h1 (by omega) (by omega) hct (fun j e2 hj hjk => by
      obtain ⟨h8, h9⟩ := hv1 j e2 hj
      refine ⟨h8, fun y2 hy2 => ?_⟩
      obtain ⟨u, q1, q2, q3⟩ := h9 y2 hy2
      exact ⟨u, by rw [List.getElem?_take, if_pos hjk]; exact q1, q2, q3⟩)
    exact ⟨κ, by rw [AV.sat, Dat.sat]; rfl, r1, r2⟩
theorem e_copyO {t t2 e e' : TypeId} {by' : Nat} {z : Value} {x y : Operand} {p ver q n q2 n2 : Nat} {l : List (List Dat)} {own' : List Ent} (k : Nat) (hx : lookO env x = .osl p ver q n) (hp : own[p]? = some (.row ver 1 e l)) (hy : lookO env y = .osl p ver q2 n2) (ht : slInfo P t = some (e', 1, by', z)) (hk : k = min n2 n) (h0 : 0 < k) (ho' : setF own p (.row ver 1 e (l.take q ++ (l.drop q2).take k ++ l.drop (q + k))) = some own') :
    Eff P m ⟨dst, .call ⟨.builtin .copy, #[x, y], #[t, t2]⟩, ty, pos, af, gd⟩ env own [p] (iV k) own' := by
  rw [setF_spec ho']
  exact Eff.mk (set_same _ p) fun F κ a w hs ho hm => by
    have hx1 := hs x (by simp [Op.operands, Call.operands]); rw [hx] at hx1
    have hy1 := hs y (by simp [Op.operands, Call.operands]); rw [hy] at hy1
    obtain ⟨h1, g, c, hg, hxv⟩ := sat_slice_own hp hx1 (by omega)
    obtain ⟨h2, g2, c2, hg2, hyv⟩ := sat_slice_own hp hy1 (by omega)
    obtain rfl : g = g2 := by rw [hg] at hg2; simpa using hg2
    obtain ⟨h00, cur, h5, h6, h7⟩ := row_cells ho hp hg
    rw [Nat.mul_one] at h6
    obtain ⟨hu, hsz⟩ := info_one ht
    rw [Nat.mul_one] at hxv hyv
    have hcl : cur.toList.length = cur.size := Array.length_toList
    have hct : ((cur.toList.drop q2).take k).length = k := by rw [List.length_take, List.length_drop]; omega
    have hgc : ∀ j u, ((cur.toList.drop q2).take k)[j]? = some u → cur[q2 + j]? = some u := fun j u hj => by
      rw [List.getElem?_take] at hj
      split at hj
      · rw [List.getElem?_drop] at hj
        have ec : cur.toList[q2 + j]? = cur[q2 + j]? := Array.getElem?_toList
        rw [← ec]; exact hj
      · cases hj
    have hv : ∀ (j : Nat) (e2 : List Dat), (l.drop q2)[j]? = some e2 → j < k → e2.length = 1 ∧ ∀ y2, e2[0]? = some y2 → ∃ u, ((cur.toList.drop q2).take k)[j]? = some u ∧ u.oneCell' = true ∧ Dat.sat (badK F κ) w y2 u := fun j e2 hj hjk => by
      rw [List.getElem?_drop] at hj
      obtain ⟨h8, h9⟩ := h7 _ e2 hj
      refine ⟨h8, fun y2 hy2 => ?_⟩
      obtain ⟨u, q1, q3, q4⟩ := h9 0 y2 hy2
      rw [Nat.mul_one, Nat.add_zero] at q1
      have ec : cur.toList[q2 + j]? = cur[q2 + j]? := Array.getElem?_toList
      exact ⟨u, by rw [List.getElem?_take, if_pos hjk, List.getElem?_drop, ec]; exact q1, q3, q4⟩
    have hone : ∀ v ∈ (cur.toList.drop q2).take k, v.oneCell' = true := fun v hvm => by
      obtain ⟨j, hj⟩ := List.mem_iff_getElem?.1 hvm
      have hjk : j < k := by have := (List.getElem?_eq_some_iff.1 hj).1; omega
      obtain ⟨h8, h9⟩ := hv j _ (List.getElem?_eq_getElem (show j < (l.drop q2).length by rw [List.length_drop]; omega)) hjk
      obtain ⟨u, q1, q3, _⟩ := h9 _ (List.getElem?_eq_getElem (by omega))
      rw [hj] at q1
      obtain rfl : v = u := by simpa using q1
      exact q3
    have hrun := run_copy_row (P := P) w t t2 ty e' g q n c ⟨g, q2, none⟩ n2 c2 cur e ((cur.toList.drop q2).take k) hu hsz h5 (by rw [hct, hk]) (fun j v hj => by
      rw [add_none, cell_of_row w g _ cur e (0, 0) h5]
      exact hgc j v hj) (by rw [hct]; omega) hone
    have hex : (execOp a.eval ⟨dst, .call ⟨.builtin .copy, #[x, y], #[t, t2]⟩, ty, pos, af, gd⟩).run P w = .ok (.value (goInt k)) (w.setRow g (cur.toList.take q ++ (cur.toList.drop q2).take k ++ cur.toList.drop (q + ((cur.toList.drop q2).take k).length)).toArray) := by
      rw [exec_builtin]
      simp only [builtin, List.map_toArray, List.map_cons, List.map_nil]
      rw [hxv, hyv]
      have := exec_v hrun
      rw [hct] at this ⊢
      exact this
    rw [hex]
    obtain ⟨r1, r2⟩ := copy_fin (m := m) (n := n) (s := l.drop q2) ho hp hg h5 h1 (by omega) (by rw [List.length_drop]; omega) hct hv
    exact ⟨κ, by rw [AV.sat, Dat.sat]; rfl, r1, r2⟩
theorem zero_get (z : Array Value) (n x : Nat) (hx : x < n * z.size) : (Builtin.zeroCells z n).toList[x]? = z[x % z.size]? := by
  have h0 : 0 < z.size := by
    by_cases h : z.size = 0
    · rw [h] at hx; omega
    · omega
  have hm := Nat.mod_lt x h0
  rw [Array.getElem?_toList]
  simp only [Builtin.zeroCells, Array.getElem?_map, Array.getElem?_range, hx, if_true, Option.map_some]
  rw [Array.getElem?_eq_getElem hm, getElem!_pos z (x % z.size) hm]
theorem e_clear {t e e' : TypeId} {by' sz : Nat} {z : Value} {zs : List Dat} {x : Operand} {p ver q n : Nat} {l : List (List Dat)} {own' : List Ent} (hx : lookO env x = .osl p ver q n) (hp : own[p]? = some (.row ver sz e l)) (ht : slInfo P t = some (e', sz, by', z)) (hz : z.cells.size = sz) (hz1 : z.cells.toList = zs.map fun d => match d with | .v u => u | _ => undef) (hz2 : zs.all (fun d => match d with | .v u => u.oneCell' | _ => false) = true) (hqn : q + n ≤ l.length) (ho' : setF own p (.row ver sz e (l.take q ++ List.replicate n zs ++ l.drop (q + n))) = some own') :
    Eff P m ⟨dst, .call ⟨.builtin .clear, #[x], #[t]⟩, ty, pos, af, gd⟩ env own [p] (.tup []) own' := by
  rw [setF_spec ho']
  exact Eff.mk (set_same _ p) fun F κ a w hs ho hm => by
    have hx1 := hs x (by simp [Op.operands, Call.operands]); rw [hx] at hx1
    obtain ⟨he, inf, hi1, hi2, _, hzz⟩ := slInfo_spec ht
    have hzl : zs.length = sz := by
      have := congrArg List.length hz1
      rw [List.length_map, Array.length_toList] at this
      omega
    by_cases hn : n = 0
    · subst hn
      rw [AV.sat] at hx1
      obtain ⟨h1, A, c, hxv, _⟩ := hx1.2 sz e l hp
      have hrun : (Builtin.clear_ #[t] ty #[a.eval x]).run P w = .ok (.tuple #[]) w := by
        rw [hxv]
        cases A <;> simp [Builtin.clear_, run_underlying he]
      have hex : (execOp a.eval ⟨dst, .call ⟨.builtin .clear, #[x], #[t]⟩, ty, pos, af, gd⟩).run P w = .ok (.value (.tuple #[])) w := by
        rw [exec_builtin]
        simp only [builtin, List.map_toArray, List.map_cons, List.map_nil]
        exact exec_v hrun
      rw [hex]
      have el : l.take q ++ List.replicate 0 zs ++ l.drop (q + 0) = l := by simp
      rw [el]
      have eo : own.set p (.row ver sz e l) = own := by
        apply List.ext_getElem?
        intro j
        by_cases hj : j = p
        · subst hj; rw [List.getElem?_set_self (List.getElem?_eq_some_iff.1 hp).1, hp]
        · rw [List.getElem?_set_ne (Ne.symm hj)]
      rw [eo]
      exact ⟨κ, by rw [AV.sat]; exact ⟨#[], rfl, by simp [AV.satL]⟩, ho, Tr.refl _ _ _ _ _⟩
    · obtain ⟨h1, g, c, hg, hxv⟩ := sat_slice_own hp hx1 (by omega)
      obtain ⟨h0, cur, h5, h6, h7⟩ := row_cells ho hp hg
      have hcl : cur.toList.length = cur.size := Array.length_toList
      have hzcl : (Builtin.zeroCells z.cells n).toList.length = n * sz := by simp [Builtin.zeroCells, hz]
      have hqs : q * sz + n * sz ≤ l.length * sz := by rw [← Nat.add_mul]; exact Nat.mul_le_mul_right _ h1
      have hzone : ∀ u ∈ z.cells.toList, u.oneCell' = true := fun u hu => by
        rw [hz1] at hu
        obtain ⟨d, hd, rfl⟩ := List.mem_map.1 hu
        have := List.all_eq_true.1 hz2 d hd
        cases d <;> simp_all
      have hz3 : ∀ x, x < n * sz → ∃ d u, zs[x % sz]? = some d ∧ d = .v u ∧ (Builtin.zeroCells z.cells n).toList[x]? = some u ∧ u.oneCell' = true := fun x hx => by
        have hm := Nat.mod_lt x h0
        have hq := zero_get z.cells n x (by rw [hz]; exact hx)
        rw [hz] at hq
        have e1 : z.cells.toList[x % sz]? = z.cells[x % sz]? := Array.getElem?_toList
        rw [hq, ← e1, hz1, List.getElem?_map, List.getElem?_eq_getElem (show x % sz < zs.length by omega)]
        have := List.all_eq_true.1 hz2 (zs[x % sz]'(by omega)) (List.getElem_mem _)
        generalize zs[x % sz]'(by omega) = d at this
        cases d with
        | v u => exact ⟨_, u, rfl, rfl, rfl, this⟩
        | any => cases this
        | sl => cases this
      have hst := run_storeCells_at P g (q * sz) e (Builtin.zeroCells z.cells n).toList 0 cur w h5 (by rw [hzcl]; omega) (fun v hv => by
        obtain ⟨x, hx⟩ := List.mem_iff_getElem?.1 hv
        have hxl : x < n * sz := by rw [← hzcl]; exact (List.getElem?_eq_some_iff.1 hx).1
        obtain ⟨d, u, _, _, q3, q4⟩ := hz3 x hxl
        rw [hx] at q3
        obtain rfl : v = u := by simpa using q3
        exact q4)
      rw [Nat.add_zero] at hst
      have hzv : ∀ w, (zeroValue e').run P w = .ok z w := fun w => by simp [zeroValue, typeInfo, hi1, hzz]
      have hrun : (Builtin.clear_ #[t] ty #[a.eval x]).run P w = .ok (.tuple #[]) (w.setRow g (cur.toList.take (q * sz) ++ (Builtin.zeroCells z.cells n).toList ++ cur.toList.drop (q * sz + (Builtin.zeroCells z.cells n).toList.length)).toArray) := by
        rw [hxv]
        obtain ⟨n', rfl⟩ : ∃ n', n = n' + 1 := ⟨n - 1, by omega⟩
        simp [Builtin.clear_, run_underlying he, hzv, hst]
      have hex : (execOp a.eval ⟨dst, .call ⟨.builtin .clear, #[x], #[t]⟩, ty, pos, af, gd⟩).run P w = .ok (.value (.tuple #[])) (w.setRow g (cur.toList.take (q * sz) ++ (Builtin.zeroCells z.cells n).toList ++ cur.toList.drop (q * sz + (Builtin.zeroCells z.cells n).toList.length)).toArray) := by
        rw [exec_builtin]
        simp only [builtin, List.map_toArray, List.map_cons, List.map_nil]
        exact exec_v hrun
      rw [hex]
      have hlt : (l.take q).length = q := by rw [List.length_take]; omega
      obtain ⟨r1, r2⟩ := row_put (m := m) (cur' := (cur.toList.take (q * sz) ++ (Builtin.zeroCells z.cells n).toList ++ cur.toList.drop (q * sz + (Builtin.zeroCells z.cells n).toList.length)).toArray) (l' := l.take q ++ List.replicate n zs ++ l.drop (q + n)) ho hp hg h5 h0 (by simp only [List.size_toArray, List.length_append, List.length_take, List.length_drop, hzcl, hcl]; omega) (by simp; omega) h6 (fun j e2 hj => by
        have hget : ∀ x, (cur.toList.take (q * sz) ++ (Builtin.zeroCells z.cells n).toList ++ cur.toList.drop (q * sz + (Builtin.zeroCells z.cells n).toList.length)).toArray[x]? = if q * sz ≤ x ∧ x < q * sz + n * sz then (Builtin.zeroCells z.cells n).toList[x - q * sz]? else cur[x]? := fun x => by
          have ec : cur.toList[x]? = cur[x]? := Array.getElem?_toList
          rw [List.getElem?_toArray, seg_get _ _ _ _ (by omega), hzcl, ec]
        have old : ∀ (e3 : List Dat), l[j]? = some e3 → (j < q ∨ q + n ≤ j) → e3.length = sz ∧ ∀ (q' : Nat) (y : Dat), e3[q']? = some y → ∃ u, (cur.toList.take (q * sz) ++ (Builtin.zeroCells z.cells n).toList ++ cur.toList.drop (q * sz + (Builtin.zeroCells z.cells n).toList.length)).toArray[j * sz + q']? = some u ∧ u.oneCell' = true ∧ Dat.sat (badK F κ) w y u := fun e3 h hn => by
          obtain ⟨h8, h9⟩ := h7 j e3 h
          refine ⟨h8, fun q' y hq => ?_⟩
          have hql : q' < sz := by have := (List.getElem?_eq_some_iff.1 hq).1; omega
          obtain ⟨u, q1, q2, q3⟩ := h9 q' y hq
          have hne : ¬ (q * sz ≤ j * sz + q' ∧ j * sz + q' < q * sz + n * sz) := fun ⟨a1, a2⟩ => by
            rcases hn with hn | hn
            · have := Nat.mul_le_mul_right sz (show j + 1 ≤ q from hn)
              rw [Nat.succ_mul] at this; omega
            · have := Nat.mul_le_mul_right sz hn
              rw [Nat.add_mul] at this; omega
          exact ⟨u, by rw [hget, if_neg hne]; exact q1, q2, q3⟩
        by_cases h8 : j < q
        · rw [List.append_assoc, List.getElem?_append_left (by omega), List.getElem?_take, if_pos h8] at hj
          exact old e2 hj (.inl h8)
        · by_cases h9 : j < q + n
          · rw [List.append_assoc, List.getElem?_append_right (by omega), hlt, List.getElem?_append_left (by rw [List.length_replicate]; omega), List.getElem?_replicate, if_pos (by omega)] at hj
            obtain rfl : zs = e2 := by simpa using hj
            refine ⟨hzl, fun q' y hq => ?_⟩
            have hql : q' < sz := by have := (List.getElem?_eq_some_iff.1 hq).1; omega
            have e6 : j * sz + q' - q * sz = (j - q) * sz + q' := by
              have := Nat.sub_mul j q sz
              have := Nat.mul_le_mul_right sz (show q ≤ j by omega)
              omega
            have e7 : (j - q) * sz + q' < n * sz := by
              have := Nat.mul_le_mul_right sz (show (j - q) + 1 ≤ n by omega)
              rw [Nat.succ_mul] at this; omega
            obtain ⟨d, u, k1, k2, k3, k4⟩ := hz3 _ e7
            have e8 : ((j - q) * sz + q') % sz = q' := by rw [Nat.mul_comm, Nat.mul_add_mod, Nat.mod_eq_of_lt hql]
            rw [e8] at k1
            rw [hq] at k1
            obtain rfl : y = d := by simpa using k1
            subst k2
            refine ⟨u, ?_, k4, rfl⟩
            have hge : q * sz ≤ j * sz := Nat.mul_le_mul_right sz (show q ≤ j by omega)
            rw [hget, if_pos ⟨by omega, by omega⟩, e6]; exact k3
          · rw [List.getElem?_append_right (by rw [List.length_append, List.length_replicate]; omega), List.length_append, hlt, List.length_replicate, List.getElem?_drop, show q + n + (j - (q + n)) = j by omega] at hj
            exact old e2 hj (.inr (by omega)))
      exact ⟨κ, by rw [AV.sat]; exact ⟨#[], rfl, by simp [AV.satL]⟩, r1, r2⟩
theorem e_copyDm {t t2 e e' : TypeId} {by' : Nat} {z : Value} {x y : Operand} {p ver q n : Nat} {l s l' : List (List Dat)} {own' : List Ent} (k : Nat) (hx : lookO env x = .osl p ver q n) (hp : own[p]? = some (.row ver 1 e l)) (hy : lookO env y = .d (.sl 1 s)) (ht : slInfo P t = some (e', 1, by', z)) (hk : k = min s.length n) (h0 : 0 < k) (hl : l.take q ++ s.take k ++ l.drop (q + k) = l') (ho' : setF own p (.row ver 1 e l') = some own') :
    Eff P m ⟨dst, .call ⟨.builtin .copy, #[x, y], #[t, t2]⟩, ty, pos, af, gd⟩ env own [p] (iV k) own' := by
  subst hl
  exact e_copyD k hx hp hy ht hk h0 ho'
theorem e_copyOm {t t2 e e' : TypeId} {by' : Nat} {z : Value} {x y : Operand} {p ver q n q2 n2 : Nat} {l l' : List (List Dat)} {own' : List Ent} (k : Nat) (hx : lookO env x = .osl p ver q n) (hp : own[p]? = some (.row ver 1 e l)) (hy : lookO env y = .osl p ver q2 n2) (ht : slInfo P t = some (e', 1, by', z)) (hk : k = min n2 n) (h0 : 0 < k) (hl : l.take q ++ (l.drop q2).take k ++ l.drop (q + k) = l') (ho' : setF own p (.row ver 1 e l') = some own') :
    Eff P m ⟨dst, .call ⟨.builtin .copy, #[x, y], #[t, t2]⟩, ty, pos, af, gd⟩ env own [p] (iV k) own' := by
  subst hl
  exact e_copyO k hx hp hy ht hk h0 ho'
end
end Go.Proofs.YtaclmbbiegklcaaDoor
end
section
/- The shelf's contracts at this program: layings in plain words. -/
namespace Go.Proofs.YtaclmbbiegklcaaDoor
open Go.Shelf Go.RowKit
def layRepeat_ren : Go.Shelf.Ren := ⟨fun | 105 => 66 | 212 => 109 | 99 => 110 | 165 => 111 | 166 => 112 | 170 => 113 | 169 => 114 | 263 => 139 | 264 => 140 | 206 => 141 | 240 => 142 | 241 => 143 | 276 => 165 | 277 => 166 | n => n, fun | 9 => 9 | 3 => 3 | 4 => 4 | 20 => 20 | 0 => 0 | 46 => 153 | 109 => 154 | 5 => 5 | 72 => 160 | 76 => 164 | 51 => 191 | 146 => 192 | 53 => 194 | 148 => 195 | 70 => 157 | 37 => 158 | 75 => 163 | 127 => 197 | 164 => 217 | 80 => 167 | n => n, fun | n => n⟩
theorem layRepeat : Go.Proofs.Lays.n105 Tryd.prog layRepeat_ren := {
  mixed := by kernel_rfl
  f99 := Tryd.func110.trans (congrArg some (by kernel_rfl))
  f105 := Tryd.func66.trans (congrArg some (by kernel_rfl))
  f165 := Tryd.func111.trans (congrArg some (by kernel_rfl))
  f166 := Tryd.func112.trans (congrArg some (by kernel_rfl))
  f169 := Tryd.func114.trans (congrArg some (by kernel_rfl))
  f170 := Tryd.func113.trans (congrArg some (by kernel_rfl))
  f206 := Tryd.func141.trans (congrArg some (by kernel_rfl))
  f212 := Tryd.func109.trans (congrArg some (by kernel_rfl))
  f240 := Tryd.func142.trans (congrArg some (by kernel_rfl))
  f241 := Tryd.func143.trans (congrArg some (by kernel_rfl))
  f263 := Tryd.func139.trans (congrArg some (by kernel_rfl))
  f264 := Tryd.func140.trans (congrArg some (by kernel_rfl))
  f276 := Tryd.func165.trans (congrArg some (by kernel_rfl))
  f277 := Tryd.func166.trans (congrArg some (by kernel_rfl))
  t0 := Tryd.underlying0
  a0 := Tryd.isAgg0
  z0 := Tryd.sizeOf0
  v0 := Tryd.zeroValue0
  t3 := Tryd.underlying3
  a3 := Tryd.isAgg3
  z3 := Tryd.sizeOf3
  v3 := Tryd.zeroValue3
  t4 := Tryd.underlying4
  a4 := Tryd.isAgg4
  z4 := Tryd.sizeOf4
  v4 := Tryd.zeroValue4
  t5 := Tryd.underlying5
  a5 := Tryd.isAgg5
  z5 := Tryd.sizeOf5
  v5 := Tryd.zeroValue5
  t9 := Tryd.underlying9
  a9 := Tryd.isAgg9
  z9 := Tryd.sizeOf9
  v9 := Tryd.zeroValue9
  t20 := Tryd.underlying20
  a20 := Tryd.isAgg20
  z20 := Tryd.sizeOf20
  v20 := Tryd.zeroValue20
  t37 := Tryd.underlying158
  a37 := Tryd.isAgg158
  z37 := Tryd.sizeOf158
  v37 := Tryd.zeroValue158
  t46 := Tryd.underlying153
  a46 := Tryd.isAgg153
  z46 := Tryd.sizeOf153
  v46 := Tryd.zeroValue153
  t51 := Tryd.underlying191
  a51 := Tryd.isAgg191
  z51 := Tryd.sizeOf191
  v51 := Tryd.zeroValue191
  t53 := Tryd.underlying194
  a53 := Tryd.isAgg194
  z53 := Tryd.sizeOf194
  v53 := Tryd.zeroValue194
  t70 := Tryd.underlying157
  a70 := Tryd.isAgg157
  z70 := Tryd.sizeOf157
  v70 := Tryd.zeroValue157
  t72 := Tryd.underlying160
  a72 := Tryd.isAgg160
  z72 := Tryd.sizeOf160
  v72 := Tryd.zeroValue160
  t75 := Tryd.underlying163
  a75 := Tryd.isAgg163
  z75 := Tryd.sizeOf163
  v75 := Tryd.zeroValue163
  t76 := Tryd.underlying164
  a76 := Tryd.isAgg164
  z76 := Tryd.sizeOf164
  v76 := Tryd.zeroValue164
  t109 := Tryd.underlying154
  a109 := Tryd.isAgg154
  z109 := Tryd.sizeOf154
  v109 := Tryd.zeroValue154
  t127 := Tryd.underlying197
  a127 := Tryd.isAgg197
  z127 := Tryd.sizeOf197
  v127 := Tryd.zeroValue197
  t146 := Tryd.underlying192
  a146 := Tryd.isAgg192
  z146 := Tryd.sizeOf192
  v146 := Tryd.zeroValue192
  t148 := Tryd.underlying195
  a148 := Tryd.isAgg195
  z148 := Tryd.sizeOf195
  v148 := Tryd.zeroValue195
  t164 := Tryd.underlying217
  a164 := Tryd.isAgg217
  z164 := Tryd.sizeOf217
  v164 := Tryd.zeroValue217 }
abbrev mul_ren : Ren := layRepeat_ren
theorem mulLay : Go.Proofs.Lays.n212 Tryd.prog mul_ren := { layRepeat with }
end Go.Proofs.YtaclmbbiegklcaaDoor
end
section
/- Layer 9 over the machine of abstract values: slices.Repeat of one truth value, distance.valid, Left, Losses. -/
namespace Go.Proofs.YtaclmbbiegklcaaDoor
open Go.RowKit
set_option maxHeartbeats 4000000
set_option maxRecDepth 100000
theorem ACalls.ler {P : Program} {f : FuncId} {args : List AV} {r r' : AV} {own own' : List Ent} (h : ACalls P f args own r own') (hle : AVle r r') : ACalls P f args own r' own' := fun F κ w vs ho hsat => (h F κ w vs ho hsat).mono fun e w' ⟨v, κ', h1, h2, h3, h4⟩ => ⟨v, κ', h1, hle _ _ _ _ _ h2, h3, h4⟩
theorem AVle.tupV (a b : Value) : AVle (.d (.v (.tuple #[a, b]))) (.tup [.d (.v a), .d (.v b)]) := fun F own κ w u hs => by
  rw [sat_v] at hs
  subst hs
  rw [AV.sat]
  exact ⟨_, rfl, by simp [AV.satL, sat_v]⟩
theorem A_bmul {x y : Nat} (h : x * y < 18446744073709551616) (hx : x < 18446744073709551616) (hy : y < 18446744073709551616) : ACalls Tryd.prog 109 [.d (.v (.int .u64 x)), .d (.v (.int .u64 y))] [] (.tup [.d (.v (.int .u64 (0 : Nat))), .d (.v (.int .u64 (x * y : Nat)))]) [] := by
  refine ACalls.ler (r := .d (.v (.tuple #[.int .u64 (0 : Nat), .int .u64 (x * y : Nat)]))) ?_ (AVle.tupV _ _)
  refine acalls_of_exact rfl fun w => ?_
  have := Go.Proofs.Any.bits_Mul mulLay x y hx hy w
  rw [Nat.div_eq_of_lt h, Nat.mod_eq_of_lt h] at this
  exact this.mono fun e w' ⟨h1, h2⟩ => ⟨h1, h2 ▸ Below.refl _ _⟩
section
variable {P : Program} {m : Nat} {env : List (Nat × AV)} {own : List Ent} {dst : Option Tmp} {ty : TypeId} {pos : String} {af : Array Edge} {gd : Option (Nat × Bool)}
theorem q_convU {src dst' : TypeId} {x : Operand} {k : IntKind} {n : Int} {v : Nat} (hx : lookO env x = .d (.v (.int k n))) (hs : (P.underlying src).isSome = true) (hd : isInt P dst' .u64 = true) (hn : n = (v : Int)) (h : v < 18446744073709551616) :
    Quiet P m ⟨dst, .convert src dst' x, ty, pos, af, gd⟩ env own [] (.d (.v (.int .u64 (v : Int)))) := by
  have := q_conv (P := P) (m := m) (env := env) (own := own) (dst := dst) (ty := ty) (pos := pos) (af := af) (gd := gd) (src := src) .u64 hs hd hx
  rwa [hn, capK_wrap (k := .u64) h] at this
end
def repT (w n : Nat) : List Bool := List.replicate n true ++ List.replicate (w - n) false
theorem rep_first {w : Nat} (h : 1 ≤ w) : ((List.replicate w false).map tD).take 0 ++ ([true].map tD).take 1 ++ ((List.replicate w false).map tD).drop (0 + 1) = (repT w 1).map tD := by
  unfold repT
  simp
theorem rep_step {w n : Nat} (h : 1 ≤ n) (hl : n < w) : ((repT w n).map tD).take n ++ (((repT w n).map tD).drop 0).take (min n (w - n)) ++ ((repT w n).map tD).drop (n + min n (w - n)) = (repT w (n + min n (w - n))).map tD := by
  generalize hk : min n (w - n) = k
  have a1 : (repT w n).take n = List.replicate n true := List.take_left' (by simp)
  have a2 : ((repT w n).drop 0).take k = List.replicate k true := by
    unfold repT
    rw [List.drop_zero, List.take_append_of_le_length (by simp; omega), List.take_replicate, Nat.min_eq_left (by omega)]
  have a3 : (repT w n).drop (n + k) = List.replicate (w - (n + k)) false := by
    unfold repT
    rw [List.drop_append]
    simp
    omega
  rw [← List.map_take, ← List.map_drop, ← List.map_drop, ← List.map_take, a1, a2, a3, ← List.map_append, ← List.map_append, List.replicate_append_replicate]
  rfl
attribute [local irreducible] Quiet Eff OpOk AWPG ACont ABlock ACalls AGoto
theorem A_repeatT {w : Nat} (h1 : 1 ≤ w) (hw : w ≤ 1000000) : ACalls Tryd.prog 72 [bools [true], iV w] [] (bools (List.replicate w true)) [] := by
  refine acalls_of_body Tryd.func72 rfl (Nat.le_of_ble_eq_true rfl) ?_
  have hm := A_bmul (x := 1) (y := w) (by omega) (by omega) (by omega)
  rw [Nat.one_mul] at hm
  have hx : (([true] : List Bool).map tD).length = 1 := rfl
  have hT : ∀ n, (repT w n).length = n + (w - n) := fun n => by unfold repT; simp
  (repeat' (first
  | (apply W.gOn; exact rfl; exact rfl)
  | (apply W.qd; (first
    | (apply (q_callC (hm)); exact rfl; exact rfl; kernel_rfl; kernel_rfl; kernel_rfl)
    | ((apply q_convU; exact rfl; exact rfl; exact rfl; with_reducible exact rfl; omega))|(apply q_mv; (first|exact vD|exact vO|exact vP|exact vA|exact vF|exact vR|exact vN|exact vY|exact vT|exact vM|exact vL|exact vX))|(apply q_as; (first|exact vD|exact vO|exact vP|exact vA|exact vF|exact vR|exact vN|exact vY|exact vT|exact vM|exact vL|exact vX))|(apply q_lss; exact rfl; exact rfl)|(apply q_gtr; exact rfl; exact rfl)|(apply q_extract; exact rfl; exact rfl)|(apply q_len_sl; exact rfl; exact rfl)|(apply (q_pickF (u := .d _)); exact rfl; exact rfl)
    | (apply q_convI; exact rfl; exact rfl; exact rfl; omega)))|(apply W.ed; ((apply (e_makeG (f := tD) false); exact rfl; exact rfl; exact rfl; exact rfl; exact rfl; exact rfl; exact rfl; exact rfl; exact rfl; exact rfl; omega)))|(apply AWP.seq)|(apply ACont_normal)|(apply (W.regionS 7); exact rfl; kernel_rfl)|(apply Walk.nil)|(apply AWP.skip)|(apply W.condF; exact rfl)
  | (refine W.cond _ rfl (fun hb => ?_) (fun hb => ?_) <;> ((try simp only [hb, Bool.not_true, Bool.not_false]) <;> (try simp only [decide_eq_true_eq, decide_eq_false_iff_not, Bool.not_eq_true', Bool.not_eq_false', Int.not_lt, Int.not_le, List.length_map, not_true_eq_false] at hb) <;> (try (exfalso; omega))))))
  (repeat' (first
  | (apply W.qd; (first
    | (apply q_mv; (first|exact vD|exact vO|exact vP|exact vA|exact vF|exact vR|exact vN|exact vY|exact vT|exact vM|exact vL|exact vX))
    | (apply q_as; (first|exact vD|exact vO|exact vP|exact vA|exact vF|exact vR|exact vN|exact vY|exact vT|exact vM|exact vL|exact vX))))|(apply W.ed; ((exact e_copyDm 1 rfl rfl rfl rfl (show 1 = min ([true].map tD).length w by simp; omega) (by omega) (rep_first h1) rfl)))|(apply AWP.seq)|(apply ACont_normal)|(apply W.region; kernel_rfl)|(apply Walk.nil)
  | (apply AWP.block)))
  refine AWP.loopW (α := Nat) (fun n => 1 ≤ n ∧ n ≤ w) (fun n => ⟨[(8, iV n), (7, .osl 0 0 0 w)], [.row 0 1 4 ((repT w n).map tD)]⟩) (fun n => w - n) 1 ⟨Nat.le_refl _, h1⟩ ⟨[0], rfl, rfl, rfl, by (repeat (first | exact trivial | refine ⟨rfl, ?_⟩))⟩ fun n hn => ?_
  obtain ⟨hn1, hn2⟩ := hn
  by_cases hlt : n < w
  · have hst := rep_step hn1 hlt
    have hTn := hT n
    generalize hk : min n (w - n) = k at *
    (repeat' (first
  | (apply W.qd; (first
    | (apply q_mv; (first|exact vD|exact vO|exact vP|exact vA|exact vF|exact vR|exact vN|exact vY|exact vT|exact vM|exact vL|exact vX))|(apply q_as; (first|exact vD|exact vO|exact vP|exact vA|exact vF|exact vR|exact vN|exact vY|exact vT|exact vM|exact vL|exact vX))|(apply q_lss; exact rfl; exact rfl)|(apply q_add; exact rfl; exact rfl; omega)|(apply q_len_osl; exact rfl; exact rfl; exact rfl)
    | (apply q_slc_osl; exact rfl; exact rfl; exact rfl; (first | exact ⟨_, _, rfl, rfl⟩ | exact ⟨_, _, rfl, natI_spec rfl⟩ | exact ⟨_, _, rfl, (Int.toNat_of_nonneg (by omega)).symm⟩ | exact rfl); (first | exact ⟨_, _, rfl, rfl⟩ | exact ⟨_, _, rfl, natI_spec rfl⟩ | exact ⟨_, _, rfl, (Int.toNat_of_nonneg (by omega)).symm⟩ | exact rfl); omega; omega)))|(apply W.ed; ((exact e_copyOm k rfl rfl rfl rfl (show k = min (n - 0) (w - n) by omega) (by omega) (by simp only [Nat.zero_add]; exact hst) rfl)))|(apply AWP.seq)|(apply ACont_normal)|(apply W.region; kernel_rfl)|(apply W.regionD; exact rfl; kernel_rfl)|(apply Walk.nil)|(apply W.chk; kernel_rfl)|(apply AWP.block)|(apply AWP.skip)|(apply ABlock_normal)
  | (refine W.cond _ rfl (fun hb => ?_) (fun hb => ?_) <;> ((try simp only [hb, Bool.not_true, Bool.not_false]) <;> (try simp only [decide_eq_true_eq, decide_eq_false_iff_not, Bool.not_eq_true', Bool.not_eq_false', Int.not_lt, Int.not_le, List.length_map, not_true_eq_false] at hb) <;> (try (exfalso; omega))))))
    refine ⟨n + k, ⟨by omega, by omega⟩, by omega, [0], rfl, rfl, rfl, iV_eq (by omega), rfl, trivial⟩
  · have e : n = w := by omega
    subst e
    have e2 : repT n n = List.replicate n true := by unfold repT; simp
    rw [e2]
    (repeat' (first
  | (apply W.qd; (first
    | (apply q_mv; (first|exact vD|exact vO|exact vP|exact vA|exact vF|exact vR|exact vN|exact vY|exact vT|exact vM|exact vL|exact vX))|(apply q_as; (first|exact vD|exact vO|exact vP|exact vA|exact vF|exact vR|exact vN|exact vY|exact vT|exact vM|exact vL|exact vX))|(apply q_lss; exact rfl; exact rfl)
    | (apply q_len_osl; exact rfl; exact rfl; exact rfl)))|(apply AWP.seq)|(apply ACont_normal)|(apply W.region; kernel_rfl)|(apply Walk.nil)|(apply AWP.exit)|(apply AWP.ret)|(apply ACont_exit)|(apply ABlock_exit)
  | (refine W.cond _ rfl (fun hb => ?_) (fun hb => ?_) <;> ((try simp only [hb, Bool.not_true, Bool.not_false]) <;> (try simp only [decide_eq_true_eq, decide_eq_false_iff_not, Bool.not_eq_true', Bool.not_eq_false', Int.not_lt, Int.not_le, List.length_map, not_true_eq_false] at hb) <;> (try (exfalso; omega))))))
    exact Ends.osl rfl rfl (by simp) rfl
end Go.Proofs.YtaclmbbiegklcaaDoor
end
