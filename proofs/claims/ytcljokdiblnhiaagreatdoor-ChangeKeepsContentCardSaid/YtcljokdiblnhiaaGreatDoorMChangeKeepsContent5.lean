import Derived.Test.YtcljokdiblnhiaaGreatDoorMChangeKeepsContent4
import Derived.Laws.CopyRow
import Derived.Laws.IdiomCopy
import Derived.Shelf.Strings.Repeat
import Derived.Shelf.Bits.Mul64
import Derived.Test.YtcljokdiblnhiaaGreatDoorProg
/- Joined texts: Ds3 Ds4 Ds5 Ds6 Kern43 Shf Ch3 Ds7 Ds8 He0 He5 Cl1 Cl2 Cl4 Cl6 Cl7 Cl8 Cl10 Ch5 Ch6 Ch7 Ch8 Ch9 Ch12. -/
set_option linter.unusedVariables false
set_option linter.unusedSimpArgs false
section
namespace Go.Proofs.YtcljokdiblnhiaaGreatDoor
open Go.RowKit
set_option maxHeartbeats 4000000
set_option maxRecDepth 100000
def letB (c : Nat) : Bool := decide (97 ≤ c) && decide (c ≤ 122)
def digB (c : Nat) : Bool := decide (48 ≤ c) && decide (c ≤ 57)
def wordAt (s : List Nat) (k : Nat) : Bool := letB (s.getD k 0) || (decide (k ≠ 0) && digB (s.getD k 0))
def wordB (s : List Nat) : Bool := decide (s ≠ []) && (List.range s.length).all (wordAt s)
def minK (l : List Int) : Nat → Int
  | 0 => l.getD 0 0
  | k + 1 => if l.getD (k + 1) 0 < minK l k then l.getD (k + 1) 0 else minK l k
def maxK (l : List Int) : Nat → Int
  | 0 => l.getD 0 0
  | k + 1 => if l.getD (k + 1) 0 > maxK l k then l.getD (k + 1) 0 else maxK l k
theorem minK_spec (l : List Int) : ∀ k, (∀ j, j ≤ k → minK l k ≤ l.getD j 0) ∧ ∃ j, j ≤ k ∧ minK l k = l.getD j 0
  | 0 => ⟨fun j hj => by obtain rfl : j = 0 := by omega
                         exact Int.le_refl _, 0, Nat.le_refl _, rfl⟩
  | k + 1 => by
    obtain ⟨h1, j, h2, h3⟩ := minK_spec l k
    unfold minK
    split
    · refine ⟨fun j hj => ?_, k + 1, Nat.le_refl _, rfl⟩
      by_cases e : j = k + 1
      · subst e; exact Int.le_refl _
      · have := h1 j (by omega); omega
    · refine ⟨fun j hj => ?_, j, by omega, h3⟩
      by_cases e : j = k + 1
      · subst e; omega
      · exact h1 j (by omega)
theorem maxK_spec (l : List Int) : ∀ k, (∀ j, j ≤ k → l.getD j 0 ≤ maxK l k) ∧ ∃ j, j ≤ k ∧ maxK l k = l.getD j 0
  | 0 => ⟨fun j hj => by obtain rfl : j = 0 := by omega
                         exact Int.le_refl _, 0, Nat.le_refl _, rfl⟩
  | k + 1 => by
    obtain ⟨h1, j, h2, h3⟩ := maxK_spec l k
    unfold maxK
    split
    · refine ⟨fun j hj => ?_, k + 1, Nat.le_refl _, rfl⟩
      by_cases e : j = k + 1
      · subst e; exact Int.le_refl _
      · have := h1 j (by omega); omega
    · refine ⟨fun j hj => ?_, j, by omega, h3⟩
      by_cases e : j = k + 1
      · subst e; omega
      · exact h1 j (by omega)
theorem getDI_mem {l : List Int} {j : Nat} (h : j < l.length) : l.getD j 0 ∈ l := by
  rw [List.getD_eq_getElem?_getD, List.getElem?_eq_getElem h]; exact List.getElem_mem h
theorem memI_getD {l : List Int} {x : Int} (h : x ∈ l) : ∃ j, j < l.length ∧ l.getD j 0 = x := by
  obtain ⟨j, hj, rfl⟩ := List.getElem_of_mem h
  exact ⟨j, hj, by rw [List.getD_eq_getElem?_getD, List.getElem?_eq_getElem hj]; rfl⟩
theorem rowOk_min {M D : Int} {r : List Int} (hM : M = 8 ∨ M = 16) (hl : (r.length : Int) = D) (h0 : 0 < r.length) : rowOk M D r = (decide (0 ≤ minK r (r.length - 1)) && (decide (1 ≤ maxK r (r.length - 1)) && decide (maxK r (r.length - 1) < if M = 8 then 256 else 65536))) := by
  obtain ⟨n1, i, n2, n3⟩ := minK_spec r (r.length - 1)
  obtain ⟨x1, j, x2, x3⟩ := maxK_spec r (r.length - 1)
  unfold rowOk
  rw [decide_eq_true hl, Bool.true_and, Bool.eq_iff_iff]
  simp only [Bool.and_eq_true, decide_eq_true_eq, List.all_eq_true, Bool.not_eq_true', List.all_eq_false, allF, inF, List.all_cons, List.all_nil, Bool.and_true]
  constructor
  · rintro ⟨h1, x, hx, h2⟩
    have hi := h1 _ (getDI_mem (l := r) (j := i) (by omega))
    have hj := h1 _ (getDI_mem (l := r) (j := j) (by omega))
    obtain ⟨q, hq, rfl⟩ := memI_getD hx
    have h3 := (h1 _ hx).2.1
    have h4 := x1 q (by omega)
    refine ⟨by rw [n3]; exact hi.2.1, by omega, by rw [x3]; exact hj.2.2⟩
  · rintro ⟨h1, h2, h3⟩
    refine ⟨fun x hx => ?_, r.getD j 0, getDI_mem (by omega), by rw [← x3]; omega⟩
    obtain ⟨q, hq, rfl⟩ := memI_getD hx
    have h4 := n1 q (by omega)
    have h5 := x1 q (by omega)
    exact ⟨hM, by omega, by omega⟩
def chkC (nm : List Nat) (M D : Int) (par : List (List Int)) (dom : Int) : Bool :=
  (wordB nm && decide (nm.length ≤ 12)) && (decide (M = 8 ∨ M = 16) && decide (1 ≤ D) && decide (D ≤ 31) && decide (par.length ≠ 0) && decide (D + (par.length : Int) ≤ 32)) && par.all (rowOk M D) && (decide (1 ≤ dom) && decide (dom ≤ D + (par.length : Int)))
theorem chk_valid {nm : List Nat} {M D dom : Int} {par : List (List Int)} (h : chkC nm M D par dom = true) : validC M D par = true := by
  unfold chkC at h
  simp only [Bool.and_eq_true, decide_eq_true_eq] at h
  obtain ⟨⟨⟨h1, ⟨⟨⟨h2, h3⟩, h4⟩, h5⟩, h6⟩, h7⟩, h8⟩ := h
  unfold validC
  simp only [Bool.and_eq_true, decide_eq_true_eq]
  refine ⟨⟨⟨⟨?_, h3⟩, by omega⟩, by omega⟩, h7⟩
  unfold allF
  rw [decide_eq_true h2]
  rcases h2 with rfl | rfl <;> rfl
abbrev cdF (nm : List Nat) (M D : Int) (par : List (List Int)) (dom : Int) : AV := .agg [bS nm, iV M, iV D, rowsA par, iV dom]
theorem cdF_le {nm : List Nat} {M D dom : Int} {par : List (List Int)} {F : Nat → Prop} {own : List Ent} {κ : List (Option Nat)} {w : World} {u : Value} (h : AV.sat F own κ w (cdF nm M D par dom) u) : AV.sat F own κ w (cdA M D par) u := by
  rw [AV.sat] at h ⊢
  obtain ⟨us, h1, h2⟩ := h
  refine ⟨us, h1, ?_⟩
  generalize us.toList = l at h2
  rcases l with _ | ⟨a, _ | ⟨b, _ | ⟨c, _ | ⟨d, _ | ⟨e, l⟩⟩⟩⟩⟩ <;> simp only [AV.satL, and_false, and_assoc] at h2 ⊢
  obtain ⟨h3, h4, h5, h6, h7, h8⟩ := h2
  rw [sat_v] at h3 h7
  subst h3; subst h7
  refine ⟨?_, h4, h5, h6, ?_, h8⟩
  · rw [AV.sat, Dat.sat]; rfl
  · rw [AV.sat, Dat.sat]; rfl
theorem ACalls.cdF {P : Program} {f : FuncId} {nm : List Nat} {M D dom : Int} {par : List (List Int)} {l : List AV} {r : AV} {own own' : List Ent} (h : ACalls P f (cdA M D par :: l) own r own') : ACalls P f (cdF nm M D par dom :: l) own r own' :=
  h.le fun F κ w vs => satL_le1 (fun F own κ w u => cdF_le) F own κ w vs
attribute [local irreducible] Quiet Eff OpOk AWPG ACont ABlock ACalls AGoto
theorem A_letter (c : Nat) : ACalls Tryz.prog 163 [.d (.v (.int .u8 c))] [] (bV (letB c)) [] := by
  refine acalls_of_body Tryz.func163 rfl (Nat.le_of_ble_eq_true rfl) ?_
  unfold letB
  (repeat' (first
  | (apply yFb; exact rfl; exact rfl)
  | (apply W.qd; (first
    | (apply q_mv; (conv => lhs; whnf))|(apply q_as; (conv => lhs; whnf))|(apply q_leq; exact rfl; exact rfl)|(apply q_geq; exact rfl; exact rfl)|(apply (yEb (u := .d _)); exact rfl; exact rfl)
    | (apply (yDb (u := .d _)); exact rfl; exact rfl)))|(refine W.gOff _ _ rfl rfl (by intro h; cases h) ?_)|(apply yA)|(apply yB)|(apply yC; kernel_rfl)|(apply yE)|(apply yJ)
  | (refine W.gT _ _ rfl rfl (fun hb => ?_) (fun hb => ?_) <;> ((try simp only [hb, zA, zB]) <;> (try simp only [zC, zD, zE, zF, zG, zH, zI, zJ] at hb) <;> (try (exfalso; omega))))))
  all_goals refine Ends.b rfl ?_
  all_goals first | (rw [Bool.eq_iff_iff]; simp; omega) | (simp; omega)
theorem A_digit (c : Nat) : ACalls Tryz.prog 164 [.d (.v (.int .u8 c))] [] (bV (digB c)) [] := by
  refine acalls_of_body Tryz.func164 rfl (Nat.le_of_ble_eq_true rfl) ?_
  unfold digB
  (repeat' (first
  | (apply yFb; exact rfl; exact rfl)
  | (apply W.qd; (first
    | (apply q_mv; (conv => lhs; whnf))|(apply q_as; (conv => lhs; whnf))|(apply q_leq; exact rfl; exact rfl)|(apply q_geq; exact rfl; exact rfl)|(apply (yEb (u := .d _)); exact rfl; exact rfl)
    | (apply (yDb (u := .d _)); exact rfl; exact rfl)))|(refine W.gOff _ _ rfl rfl (by intro h; cases h) ?_)|(apply yA)|(apply yB)|(apply yC; kernel_rfl)|(apply yE)|(apply yJ)
  | (refine W.gT _ _ rfl rfl (fun hb => ?_) (fun hb => ?_) <;> ((try simp only [hb, zA, zB]) <;> (try simp only [zC, zD, zE, zF, zG, zH, zI, zJ] at hb) <;> (try (exfalso; omega))))))
  all_goals refine Ends.b rfl ?_
  all_goals first | (rw [Bool.eq_iff_iff]; simp; omega) | (simp; omega)
theorem A_isField (M : Int) : ACalls Tryz.prog 109 [iV M] [] (bV (decide (M = 8 ∨ M = 16))) [] := by
  refine acalls_of_body Tryz.func109 rfl (Nat.le_of_ble_eq_true rfl) ?_
  (repeat' (first
  | (apply yFb; exact rfl; exact rfl)
  | (apply W.qd; (first
    | (apply q_mv; (conv => lhs; whnf))|(apply q_as; (conv => lhs; whnf))|(apply q_eql; exact rfl; exact rfl)|(apply (yEb (u := .d _)); exact rfl; exact rfl)
    | (apply (yDb (u := .d _)); exact rfl; exact rfl)))|(refine W.gOff _ _ rfl rfl (by intro h; cases h) ?_)|(apply yA)|(apply yB)|(apply yC; kernel_rfl)|(apply yE)|(apply yJ)
  | (refine W.gF _ _ rfl rfl (fun hb => ?_) (fun hb => ?_) <;> ((try simp only [hb, zA, zB]) <;> (try simp only [zC, zD, zE, zF, zG, zH, zI, zJ] at hb) <;> (try (exfalso; omega))))))
  all_goals refine Ends.b rfl ?_
  all_goals first | (rw [Bool.eq_iff_iff]; simp; omega) | (simp; omega)
theorem A_isWord {s : List Nat} (hs : isB s) (hl : s.length < 9223372036854775808) : ACalls Tryz.prog 108 [bS s] [] (bV (wordB s)) [] := by
  refine acalls_of_body Tryz.func108 rfl (Nat.le_of_ble_eq_true rfl) ?_
  have hL := A_letter
  have hG := A_digit
  (repeat' (first
  | (apply W.qd; (first
    | (apply q_mv; (conv => lhs; whnf))|(apply q_as; (conv => lhs; whnf))
    | (apply q_len_bs; exact rfl; exact rfl)))|(apply yA)|(apply yB)|(apply (W.regionS 2); exact rfl; kernel_rfl)|(apply yE)
  | (apply yG)))
  refine AWP.loopW (α := Nat) (fun k => k ≤ s.length ∧ ∀ j, j < k → wordAt s j = true) (fun k => ⟨[(6, iV k), (5, iV s.length), (0, bS s)], []⟩) (fun k => s.length - k) 0 ⟨Nat.zero_le _, fun j hj => by omega⟩ ⟨[], rfl, rfl, rfl, by (repeat (first | exact trivial | refine ⟨rfl, ?_⟩))⟩ fun k hk => ?_
  by_cases hkl : k < s.length
  · have eg : s.getD k 0 = s[k] := by rw [List.getD_eq_getElem?_getD, List.getElem?_eq_getElem hkl]; rfl
    have hnext : wordAt s k = true → ∀ j, j < k + 1 → wordAt s j = true := fun h j hj => by
      by_cases e : j = k
      · subst e; exact h
      · exact hk.2 j (by omega)
    have hbad : wordAt s k = false → wordB s = false := fun h => by
      unfold wordB
      rw [Bool.and_eq_false_iff]
      right
      rw [List.all_eq_false]
      exact ⟨k, List.mem_range.2 hkl, by rw [h]; decide⟩
    have hwa : wordAt s k = (letB s[k] || (decide (k ≠ 0) && digB s[k])) := by unfold wordAt; rw [eg]
    replace hwa := Lib.hid hwa
    (repeat' (first
  | (apply yFb; exact rfl; exact rfl)
  | (apply W.qd; (first
    | (apply (yW (hL s[k])); exact rfl; exact rfl; (iterate 3 kernel_rfl))|(apply (yW (hG s[k])); exact rfl; exact rfl; (iterate 3 kernel_rfl))|(apply q_mv; (conv => lhs; whnf))|(apply q_as; (conv => lhs; whnf))|(apply q_lss; exact rfl; exact rfl)|(apply q_eql; exact rfl; exact rfl)|(apply q_not; exact rfl)|(apply q_add; exact rfl; exact rfl; omega)|(apply q_ix_bs; (iterate 3 exact rfl); (first | (with_reducible exact rfl) | exact natI_spec rfl | assumption | exact (Int.toNat_of_nonneg (by omega)).symm); (first | omega | (focus (simp only [List.length_map]; omega)) | (focus (simp; done)) | (focus (simp; omega))); assumption)|(apply (yEb (u := .d _)); exact rfl; exact rfl)
    | (apply (yDb (u := .d _)); exact rfl; exact rfl)))|(refine W.gOff _ _ rfl rfl (by intro h; cases h) ?_)|(apply yA)|(apply yB)|(apply yC; kernel_rfl)|(apply yE)|(apply yG)|(apply yH)|(apply yJ)|(apply yP)|(apply yL)|(apply yN)|(apply yQ; exact rfl)|(apply yR; exact rfl)|(refine W.gT _ _ rfl rfl (fun hb => ?_) (fun hb => ?_) <;> ((try simp only [hb, zA, zB]) <;> (try simp only [zC, zD, zE, zF, zG, zH, zI, zJ] at hb) <;> (try (exfalso; omega))))|(refine W.gF _ _ rfl rfl (fun hb => ?_) (fun hb => ?_) <;> ((try simp only [hb, zA, zB]) <;> (try simp only [zC, zD, zE, zF, zG, zH, zI, zJ] at hb) <;> (try (exfalso; omega))))
  | (refine W.cond _ rfl (fun hb => ?_) (fun hb => ?_) <;> ((try simp only [hb, zA, zB]) <;> (try simp only [zC, zD, zE, zF, zG, zH, zI, zJ] at hb) <;> (try (exfalso; omega))))))
    all_goals first
      | (refine Ends.b rfl (hbad ?_).symm; rw [hwa.out, Bool.or_eq_false_iff, Bool.and_eq_false_iff]; exact ⟨by assumption, by first | exact .inl (decide_eq_false (by omega)) | exact .inr (by assumption)⟩)|(refine ⟨k + 1, ⟨by omega, hnext ?_⟩, by omega, [], rfl, rfl, rfl, iV_eq (by omega), rfl, rfl, trivial⟩; rw [hwa.out, Bool.or_eq_true, Bool.and_eq_true]; first | exact .inl (by assumption) | exact .inr ⟨decide_eq_true (by omega), by assumption⟩)
  · have hall : (List.range s.length).all (wordAt s) = true := by
      rw [List.all_eq_true]
      intro j hj
      exact hk.2 j (by have := List.mem_range.1 hj; omega)
    unfold wordB
    rw [hall, Bool.and_true]
    (repeat' (first
  | (apply W.qd; (first
    | ((apply (q_neqS (l' := [])); exact rfl; exact rfl; assumption; exact isB_nil))|(apply q_mv; (conv => lhs; whnf))|(apply q_as; (conv => lhs; whnf))
    | (apply q_lss; exact rfl; exact rfl)))|(apply yA)|(apply yB)|(apply yC; kernel_rfl)|(apply yE)|(apply yI)|(apply yJ)|(apply yK)|(apply yM)
  | (refine W.cond _ rfl (fun hb => ?_) (fun hb => ?_) <;> ((try simp only [hb, zA, zB]) <;> (try simp only [zC, zD, zE, zF, zG, zH, zI, zJ] at hb) <;> (try (exfalso; omega))))))
    refine Ends.b rfl ?_
    simp
theorem A_minI {l : List Int} (h0 : 0 < l.length) (hl : l.length ≤ 1000000) : ACalls Tryz.prog 110 [ints l] [] (iV (minK l (l.length - 1))) [] := by
  refine acalls_of_body Tryz.func110 rfl (Nat.le_of_ble_eq_true rfl) ?_
  have hml : (l.map iD).length = l.length := List.length_map _
  have e0 : minK l 0 = l[0] := by show l.getD 0 0 = _; rw [List.getD_eq_getElem?_getD, List.getElem?_eq_getElem h0]; rfl
  (repeat' (first
  | (apply W.qd; (first
    | (apply q_mv; (conv => lhs; whnf))|(apply q_as; (conv => lhs; whnf))|(apply q_lss; exact rfl; exact rfl)|(apply yV; exact rfl; exact rfl)|(apply yX; (iterate 3 exact rfl); (first | omega | (focus (simp; done))))
    | (apply yGb; (iterate 4 exact rfl); (first | (with_reducible exact rfl) | exact natI_spec rfl | assumption | exact (Int.toNat_of_nonneg (by omega)).symm); (first | omega | (focus (simp only [List.length_map]; omega)) | (focus (simp; done)) | (focus (simp; omega))))))|(apply yA)|(apply yB)|(apply (W.regionS 5); exact rfl; kernel_rfl)|(apply yE)|(apply yG)|(apply yH)
  | (refine W.cond _ rfl (fun hb => ?_) (fun hb => ?_) <;> ((try simp only [hb, zA, zB]) <;> (try simp only [zC, zD, zE, zF, zG, zH, zI, zJ] at hb) <;> (try (exfalso; omega))))))
  refine AWP.loopW (α := Nat) (fun k => k < l.length) (fun k => ⟨[(4, iV ((k + 1 : Nat) : Int)), (3, iV (minK l k)), (0, ints l)], []⟩) (fun k => l.length - k) 0 h0 (by rw [e0]; exact ⟨[], rfl, rfl, rfl, by (repeat (first | exact trivial | refine ⟨rfl, ?_⟩))⟩) fun k hk => ?_
  by_cases hkl : k + 1 < l.length
  · have e1 : minK l (k + 1) = if l[k + 1] < minK l k then l[k + 1] else minK l k := by
      show (if l.getD (k + 1) 0 < minK l k then l.getD (k + 1) 0 else minK l k) = _
      have : l.getD (k + 1) 0 = l[k + 1] := by rw [List.getD_eq_getElem?_getD, List.getElem?_eq_getElem hkl]; rfl
      rw [this]
    replace e1 := Lib.hid e1
    generalize minK l k = a at *
    (repeat' (first
  | (apply W.qd; (first
    | (apply q_mv; (conv => lhs; whnf))|(apply q_as; (conv => lhs; whnf))|(apply q_lss; exact rfl; exact rfl)|(apply q_add; exact rfl; exact rfl; omega)|(apply yV; exact rfl; exact rfl)|(apply yX; (iterate 3 exact rfl); (first | omega | (focus (simp; done))))|(apply yGb; (iterate 4 exact rfl); (first | (with_reducible exact rfl) | exact natI_spec rfl | assumption | exact (Int.toNat_of_nonneg (by omega)).symm); (first | omega | (focus (simp only [List.length_map]; omega)) | (focus (simp; done)) | (focus (simp; omega))))
    | (apply q_min; exact rfl; exact rfl)))|(apply yA)|(apply yB)|(apply yC; kernel_rfl)|(apply yE)|(apply yG)|(apply yH)|(apply yL)
  | (refine W.cond _ rfl (fun hb => ?_) (fun hb => ?_) <;> ((try simp only [hb, zA, zB]) <;> (try simp only [zC, zD, zE, zF, zG, zH, zI, zJ] at hb) <;> (try (exfalso; omega))))))
    refine ⟨k + 1, hkl, by omega, ?_⟩
    rw [e1.out]
    exact ⟨[], rfl, rfl, rfl, iV_eq (by omega), rfl, rfl, trivial⟩
  · have : k = l.length - 1 := by omega
    subst this
    generalize minK l (l.length - 1) = a at *
    (repeat' (first
  | (apply W.qd; (first
    | (apply q_mv; (conv => lhs; whnf))|(apply q_as; (conv => lhs; whnf))|(apply q_lss; exact rfl; exact rfl)
    | (apply yV; exact rfl; exact rfl)))|(apply yA)|(apply yB)|(apply yC; kernel_rfl)|(apply yE)|(apply yI)|(apply yJ)|(apply yK)|(apply yM)
  | (refine W.cond _ rfl (fun hb => ?_) (fun hb => ?_) <;> ((try simp only [hb, zA, zB]) <;> (try simp only [zC, zD, zE, zF, zG, zH, zI, zJ] at hb) <;> (try (exfalso; omega))))))
    exact Ends.i rfl rfl
theorem A_maxI {l : List Int} (h0 : 0 < l.length) (hl : l.length ≤ 1000000) : ACalls Tryz.prog 111 [ints l] [] (iV (maxK l (l.length - 1))) [] := by
  refine acalls_of_body Tryz.func111 rfl (Nat.le_of_ble_eq_true rfl) ?_
  have hml : (l.map iD).length = l.length := List.length_map _
  have e0 : maxK l 0 = l[0] := by show l.getD 0 0 = _; rw [List.getD_eq_getElem?_getD, List.getElem?_eq_getElem h0]; rfl
  (repeat' (first
  | (apply W.qd; (first
    | (apply q_mv; (conv => lhs; whnf))|(apply q_as; (conv => lhs; whnf))|(apply q_lss; exact rfl; exact rfl)|(apply yV; exact rfl; exact rfl)|(apply yX; (iterate 3 exact rfl); (first | omega | (focus (simp; done))))
    | (apply yGb; (iterate 4 exact rfl); (first | (with_reducible exact rfl) | exact natI_spec rfl | assumption | exact (Int.toNat_of_nonneg (by omega)).symm); (first | omega | (focus (simp only [List.length_map]; omega)) | (focus (simp; done)) | (focus (simp; omega))))))|(apply yA)|(apply yB)|(apply (W.regionS 5); exact rfl; kernel_rfl)|(apply yE)|(apply yG)|(apply yH)
  | (refine W.cond _ rfl (fun hb => ?_) (fun hb => ?_) <;> ((try simp only [hb, zA, zB]) <;> (try simp only [zC, zD, zE, zF, zG, zH, zI, zJ] at hb) <;> (try (exfalso; omega))))))
  refine AWP.loopW (α := Nat) (fun k => k < l.length) (fun k => ⟨[(4, iV ((k + 1 : Nat) : Int)), (3, iV (maxK l k)), (0, ints l)], []⟩) (fun k => l.length - k) 0 h0 (by rw [e0]; exact ⟨[], rfl, rfl, rfl, by (repeat (first | exact trivial | refine ⟨rfl, ?_⟩))⟩) fun k hk => ?_
  by_cases hkl : k + 1 < l.length
  · have e1 : maxK l (k + 1) = if l[k + 1] > maxK l k then l[k + 1] else maxK l k := by
      show (if l.getD (k + 1) 0 > maxK l k then l.getD (k + 1) 0 else maxK l k) = _
      have : l.getD (k + 1) 0 = l[k + 1] := by rw [List.getD_eq_getElem?_getD, List.getElem?_eq_getElem hkl]; rfl
      rw [this]
    replace e1 := Lib.hid e1
    generalize maxK l k = a at *
    (repeat' (first
  | (apply W.qd; (first
    | (apply q_mv; (conv => lhs; whnf))|(apply q_as; (conv => lhs; whnf))|(apply q_lss; exact rfl; exact rfl)|(apply q_add; exact rfl; exact rfl; omega)|(apply yV; exact rfl; exact rfl)|(apply yX; (iterate 3 exact rfl); (first | omega | (focus (simp; done))))|(apply yGb; (iterate 4 exact rfl); (first | (with_reducible exact rfl) | exact natI_spec rfl | assumption | exact (Int.toNat_of_nonneg (by omega)).symm); (first | omega | (focus (simp only [List.length_map]; omega)) | (focus (simp; done)) | (focus (simp; omega))))
    | (apply q_max; exact rfl; exact rfl)))|(apply yA)|(apply yB)|(apply yC; kernel_rfl)|(apply yE)|(apply yG)|(apply yH)|(apply yL)
  | (refine W.cond _ rfl (fun hb => ?_) (fun hb => ?_) <;> ((try simp only [hb, zA, zB]) <;> (try simp only [zC, zD, zE, zF, zG, zH, zI, zJ] at hb) <;> (try (exfalso; omega))))))
    refine ⟨k + 1, hkl, by omega, ?_⟩
    rw [e1.out]
    exact ⟨[], rfl, rfl, rfl, iV_eq (by omega), rfl, rfl, trivial⟩
  · have : k = l.length - 1 := by omega
    subst this
    generalize maxK l (l.length - 1) = a at *
    (repeat' (first
  | (apply W.qd; (first
    | (apply q_mv; (conv => lhs; whnf))|(apply q_as; (conv => lhs; whnf))|(apply q_lss; exact rfl; exact rfl)
    | (apply yV; exact rfl; exact rfl)))|(apply yA)|(apply yB)|(apply yC; kernel_rfl)|(apply yE)|(apply yI)|(apply yJ)|(apply yK)|(apply yM)
  | (refine W.cond _ rfl (fun hb => ?_) (fun hb => ?_) <;> ((try simp only [hb, zA, zB]) <;> (try simp only [zC, zD, zE, zF, zG, zH, zI, zJ] at hb) <;> (try (exfalso; omega))))))
    exact Ends.i rfl rfl
end Go.Proofs.YtcljokdiblnhiaaGreatDoor
end
section
namespace Go.Proofs.YtcljokdiblnhiaaGreatDoor
open Go.RowKit
set_option maxHeartbeats 4000000
set_option maxRecDepth 100000
attribute [local irreducible] Quiet Eff OpOk AWPG ACont ABlock ACalls AGoto
theorem shr8 {x : Int} (h : 0 ≤ x) : (0 < ((x.toNat >>> 8 : Nat) : Int)) ↔ 256 ≤ x := by
  rw [Nat.shiftRight_eq_div_pow]; omega
theorem shr16 {x : Int} (h : 0 ≤ x) : (0 < ((x.toNat >>> 16 : Nat) : Int)) ↔ 65536 ≤ x := by
  rw [Nat.shiftRight_eq_div_pow]; omega
theorem A_lcheck {nm : List Nat} {M D dom : Int} {par : List (List Int)} (hn : isB nm) (hnl : nm.length < 9223372036854775808) (hD : 0 ≤ D ∧ D ≤ 1000000) (hP : par.length ≤ 1000000) :
    ∃ e : Int, ACalls Tryz.prog 53 [cdF nm M D par dom] [] (iV e) [] ∧ (e = 0 ↔ chkC nm M D par dom = true) := by
  have hW := A_isWord hn hnl
  have hI := A_isField M
  have hmp : (par.map rD).length = par.length := List.length_map _
  by_cases c1 : wordB nm = true
  case neg =>
    have c1 := Bool.eq_false_iff.2 c1
    refine ⟨4, ?_, by unfold chkC; rw [c1]; simp⟩
    rw [c1] at hW
    refine acalls_of_body Tryz.func53 rfl (Nat.le_of_ble_eq_true rfl) ?_
    (repeat' (first
  | (apply W.qd; (first
    | (apply (yW (hW)); exact rfl; exact rfl; (iterate 3 kernel_rfl))|(apply q_as; (conv => lhs; whnf))|(apply yS; (iterate 3 exact rfl))|(apply yT; (iterate 4 exact rfl))|(apply q_not; exact rfl)|(apply q_add; exact rfl; exact rfl; omega)
    | (apply yV; exact rfl; exact rfl)))|(apply W.ed; (apply yBb; (iterate 3 exact rfl); kernel_rfl; kernel_rfl))|(apply yA)|(apply yB)|(apply yC; kernel_rfl)|(apply yE)|(apply yG)|(apply yJ)|(apply yP)|(apply yN)
  | (apply yQ; exact rfl)))
    exact Ends.i rfl rfl
  rw [c1] at hW
  by_cases c2 : nm.length ≤ 12
  case neg =>
    refine ⟨2, ?_, by unfold chkC; rw [decide_eq_false c2]; simp⟩
    refine acalls_of_body Tryz.func53 rfl (Nat.le_of_ble_eq_true rfl) ?_
    (repeat' (first
  | (apply W.qd; (first
    | (apply (yW (hW)); exact rfl; exact rfl; (iterate 3 kernel_rfl))|(apply q_as; (conv => lhs; whnf))|(apply yS; (iterate 3 exact rfl))|(apply yT; (iterate 4 exact rfl))|(apply q_gtr; exact rfl; exact rfl)|(apply q_not; exact rfl)|(apply q_add; exact rfl; exact rfl; omega)|(apply yV; exact rfl; exact rfl)
    | (apply q_len_bs; exact rfl; exact rfl)))|(apply W.ed; (apply yBb; (iterate 3 exact rfl); kernel_rfl; kernel_rfl))|(apply yA)|(apply yB)|(apply yC; kernel_rfl)|(apply yE)|(apply yG)|(apply yJ)|(apply yP)|(apply yN)|(apply yR; exact rfl)
  | (refine W.cond _ rfl (fun hb => ?_) (fun hb => ?_) <;> ((try simp only [hb, zA, zB]) <;> (try simp only [zC, zD, zE, zF, zG, zH, zI, zJ] at hb) <;> (try (exfalso; omega))))))
    exact Ends.i rfl rfl
  by_cases c3 : (M = 8 ∨ M = 16) ∧ 1 ≤ D ∧ D ≤ 31 ∧ par.length ≠ 0
  case neg =>
    refine ⟨1, ?_, ?_⟩
    · refine acalls_of_body Tryz.func53 rfl (Nat.le_of_ble_eq_true rfl) ?_
      (repeat' (first
  | (apply yFb; exact rfl; exact rfl)
  | (apply W.qd; (first
    | (apply (yW (hW)); exact rfl; exact rfl; (iterate 3 kernel_rfl))|(apply (yW (hI)); exact rfl; exact rfl; (iterate 3 kernel_rfl))|(apply q_mv; (conv => lhs; whnf))|(apply q_as; (conv => lhs; whnf))|(apply yS; (iterate 3 exact rfl))|(apply yT; (iterate 4 exact rfl))|(apply q_lss; exact rfl; exact rfl)|(apply q_gtr; exact rfl; exact rfl)|(apply q_eql; exact rfl; exact rfl)|(apply q_not; exact rfl)|(apply q_add; exact rfl; exact rfl; omega)|(apply yV; exact rfl; exact rfl)|(apply q_len_bs; exact rfl; exact rfl)|(apply (yEb (u := .d _)); exact rfl; exact rfl)
    | (apply (yDb (u := .d _)); exact rfl; exact rfl)))|(apply W.ed; (apply yBb; (iterate 3 exact rfl); kernel_rfl; kernel_rfl))|(refine W.gOff _ _ rfl rfl (by intro h; cases h) ?_)|(apply yA)|(apply yB)|(apply yC; kernel_rfl)|(apply yE)|(apply yG)|(apply yJ)|(apply yP)|(apply yN)|(apply yQ; exact rfl)|(apply yR; exact rfl)|(refine W.gF _ _ rfl rfl (fun hb => ?_) (fun hb => ?_) <;> ((try simp only [hb, zA, zB]) <;> (try simp only [zC, zD, zE, zF, zG, zH, zI, zJ] at hb) <;> (try (exfalso; omega))))
  | (refine W.cond _ rfl (fun hb => ?_) (fun hb => ?_) <;> ((try simp only [hb, zA, zB]) <;> (try simp only [zC, zD, zE, zF, zG, zH, zI, zJ] at hb) <;> (try (exfalso; omega))))))
      all_goals first | exact Ends.i rfl rfl | (exfalso; apply c3; refine ⟨by assumption, by omega, by omega, by omega⟩)
    · refine ⟨fun h => by omega, fun h => ?_⟩
      unfold chkC at h
      simp only [Bool.and_eq_true, decide_eq_true_eq] at h
      exact absurd ⟨h.1.1.2.1.1.1.1, h.1.1.2.1.1.1.2, h.1.1.2.1.1.2, h.1.1.2.1.2⟩ c3
  obtain ⟨c3, c4, c5, c6⟩ := c3
  rw [decide_eq_true c3] at hI
  by_cases c7 : D + (par.length : Int) ≤ 32
  case neg =>
    refine ⟨2, ?_, by unfold chkC; rw [decide_eq_false c7]; simp⟩
    refine acalls_of_body Tryz.func53 rfl (Nat.le_of_ble_eq_true rfl) ?_
    (repeat' (first
  | (apply yFb; exact rfl; exact rfl)
  | (apply W.qd; (first
    | (apply (yW (hW)); exact rfl; exact rfl; (iterate 3 kernel_rfl))|(apply (yW (hI)); exact rfl; exact rfl; (iterate 3 kernel_rfl))|(apply q_mv; (conv => lhs; whnf))|(apply q_as; (conv => lhs; whnf))|(apply yS; (iterate 3 exact rfl))|(apply yT; (iterate 4 exact rfl))|(apply q_lss; exact rfl; exact rfl)|(apply q_gtr; exact rfl; exact rfl)|(apply q_eql; exact rfl; exact rfl)|(apply q_not; exact rfl)|(apply q_add; exact rfl; exact rfl; omega)|(apply yV; exact rfl; exact rfl)|(apply q_len_bs; exact rfl; exact rfl)
    | (apply (yDb (u := .d _)); exact rfl; exact rfl)))|(apply W.ed; (apply yBb; (iterate 3 exact rfl); kernel_rfl; kernel_rfl))|(apply yA)|(apply yB)|(apply yC; kernel_rfl)|(apply yE)|(apply yG)|(apply yJ)|(apply yP)|(apply yN)|(apply yR; exact rfl)|(refine W.gF _ _ rfl rfl (fun hb => ?_) (fun hb => ?_) <;> ((try simp only [hb, zA, zB]) <;> (try simp only [zC, zD, zE, zF, zG, zH, zI, zJ] at hb) <;> (try (exfalso; omega))))
  | (refine W.cond _ rfl (fun hb => ?_) (fun hb => ?_) <;> ((try simp only [hb, zA, zB]) <;> (try simp only [zC, zD, zE, zF, zG, zH, zI, zJ] at hb) <;> (try (exfalso; omega))))))
    exact Ends.i rfl rfl
  have hall : ∀ e : Int, (par.all (rowOk M D) = false → e = 1) → (par.all (rowOk M D) = true → e = if 1 ≤ dom ∧ dom ≤ D + (par.length : Int) then 0 else 1) → ACalls Tryz.prog 53 [cdF nm M D par dom] [] (iV e) [] := fun e he0 he1 => by
    refine acalls_of_body Tryz.func53 rfl (Nat.le_of_ble_eq_true rfl) ?_
    (repeat' (first
  | (apply yFb; exact rfl; exact rfl)
  | (apply W.qd; (first
    | (apply (yW (hW)); exact rfl; exact rfl; (iterate 3 kernel_rfl))|(apply (yW (hI)); exact rfl; exact rfl; (iterate 3 kernel_rfl))|(apply q_mv; (conv => lhs; whnf))|(apply q_as; (conv => lhs; whnf))|(apply yS; (iterate 3 exact rfl))|(apply yT; (iterate 4 exact rfl))|(apply q_lss; exact rfl; exact rfl)|(apply q_gtr; exact rfl; exact rfl)|(apply q_eql; exact rfl; exact rfl)|(apply q_not; exact rfl)|(apply q_add; exact rfl; exact rfl; omega)|(apply yV; exact rfl; exact rfl)|(apply q_len_bs; exact rfl; exact rfl)
    | (apply (yDb (u := .d _)); exact rfl; exact rfl)))|(apply W.ed; (apply yBb; (iterate 3 exact rfl); kernel_rfl; kernel_rfl))|(apply yA)|(apply yB)|(apply (W.regionS 11); exact rfl; kernel_rfl)|(apply yE)|(apply yG)|(apply yH)|(apply yL)|(apply yR; exact rfl)|(refine W.gF _ _ rfl rfl (fun hb => ?_) (fun hb => ?_) <;> ((try simp only [hb, zA, zB]) <;> (try simp only [zC, zD, zE, zF, zG, zH, zI, zJ] at hb) <;> (try (exfalso; omega))))
  | (refine W.cond _ rfl (fun hb => ?_) (fun hb => ?_) <;> ((try simp only [hb, zA, zB]) <;> (try simp only [zC, zD, zE, zF, zG, zH, zI, zJ] at hb) <;> (try (exfalso; omega))))))
    refine AWP.loopW (α := Nat) (fun k => k ≤ par.length ∧ ∀ j, j < k → rowOk M D (par.getD j []) = true) (fun k => ⟨[(49, iV k), (48, iV par.length), (47, rowsA par), (3, iV (D + (par.length : Int))), (1, .opt 0 0)], [.box [bS nm, iV M, iV D, rowsA par, iV dom]]⟩) (fun k => par.length - k) 0 ⟨Nat.zero_le _, fun j hj => by omega⟩ ?wk0 fun k hk => ?_
    case wk0 => exact ⟨[0], rfl, rfl, rfl, rfl, iV_eq (by omega), rfl, iV_eq (by omega), rfl, trivial⟩
    by_cases hkl : k < par.length
    · have eg : par.getD k [] = par[k] := by rw [List.getD_eq_getElem?_getD, List.getElem?_eq_getElem hkl]; rfl
      have hnext : rowOk M D par[k] = true → ∀ j, j < k + 1 → rowOk M D (par.getD j []) = true := fun h j hj => by
        by_cases e : j = k
        · subst e; rw [eg]; exact h
        · exact hk.2 j (by omega)
      have hbad : rowOk M D par[k] = false → e = 1 := fun h => he0 (by rw [List.all_eq_false]; exact ⟨par[k], List.getElem_mem hkl, by rw [h]; decide⟩)
      generalize hr : par[k] = r at hnext hbad
      have hmr : (r.map iD).length = r.length := List.length_map _
      by_cases hrl : (r.length : Int) = D
      · have h0 : 0 < r.length := by omega
        have hmn := A_minI h0 (by omega)
        have hmx := A_maxI h0 (by omega)
        have hro := rowOk_min (M := M) c3 hrl h0
        generalize minK r (r.length - 1) = mn at *
        generalize maxK r (r.length - 1) = mx at *
        rw [← hr] at hmn hmx hrl
        clear he0 he1 hk
        rcases c3 with rfl | rfl
        · rw [if_pos rfl] at hro
          have hsh := fun h => shr8 (x := mx) h
          replace hro := Lib.hid hro
          (repeat' (first
  | (apply yFb; exact rfl; exact rfl)
  | (apply W.qd; (first
    | (apply (yW (hmn)); exact rfl; exact rfl; (iterate 3 kernel_rfl))|(apply (yW (hmx)); exact rfl; exact rfl; (iterate 3 kernel_rfl))|(apply q_mv; (conv => lhs; whnf))|(apply q_as; (conv => lhs; whnf))|(apply yS; (iterate 3 exact rfl))|(apply yT; (iterate 4 exact rfl))|(apply q_lss; exact rfl; exact rfl)|(apply q_gtr; exact rfl; exact rfl)|(apply q_neq; exact rfl; exact rfl)|(apply q_add; exact rfl; exact rfl; omega)|(apply yV; exact rfl; exact rfl)|(apply yX; (iterate 3 exact rfl); (first | omega | (focus (simp; done))))|(apply yGb; (iterate 4 exact rfl); (first | (with_reducible exact rfl) | exact natI_spec rfl | assumption | exact (Int.toNat_of_nonneg (by omega)).symm); (first | omega | (focus (simp only [List.length_map]; omega)) | (focus (simp; done)) | (focus (simp; omega))))|(apply (yEb (u := .d _)); exact rfl; exact rfl)|(apply (yDb (u := .d _)); exact rfl; exact rfl)
    | (apply q_shrN; exact rfl; exact rfl; (first | (with_reducible exact rfl) | exact natI_spec rfl | assumption | exact (Int.toNat_of_nonneg (by omega)).symm); (first | (with_reducible exact rfl) | exact natI_spec rfl | assumption | exact (Int.toNat_of_nonneg (by omega)).symm); focus (show _ ≤ 64; omega))))|(refine W.gOff _ _ rfl rfl (by intro h; cases h) ?_)|(apply yA)|(apply yB)|(apply yC; kernel_rfl)|(apply yD; exact rfl; kernel_rfl)|(apply yE)|(apply yF; kernel_rfl)|(apply yG)|(apply yH)|(apply yJ)|(apply yP)|(apply yL)|(apply yN)|(apply yQ; exact rfl)|(refine W.gF _ _ rfl rfl (fun hb => ?_) (fun hb => ?_) <;> ((try simp only [hb, zA, zB]) <;> (try simp only [zC, zD, zE, zF, zG, zH, zI, zJ] at hb) <;> (try (exfalso; omega))))
  | (refine W.cond _ rfl (fun hb => ?_) (fun hb => ?_) <;> ((try simp only [hb, zA, zB]) <;> (try simp only [zC, zD, zE, zF, zG, zH, zI, zJ] at hb) <;> (try (exfalso; omega))))))
          all_goals first
            | (refine Ends.i rfl (hbad ?_).symm; rw [hro.out, Bool.and_eq_false_iff, Bool.and_eq_false_iff, decide_eq_false_iff_not, decide_eq_false_iff_not, decide_eq_false_iff_not]; omega)|(refine ⟨k + 1, ⟨by omega, hnext ?_⟩, by omega, [0], rfl, rfl, rfl, iV_eq (by omega), rfl, rfl, rfl, rfl, trivial⟩; rw [hro.out, Bool.and_eq_true, Bool.and_eq_true, decide_eq_true_eq, decide_eq_true_eq, decide_eq_true_eq]; omega)
        · rw [if_neg (by decide)] at hro
          have hsh := fun h => shr16 (x := mx) h
          replace hro := Lib.hid hro
          (repeat' (first
  | (apply yFb; exact rfl; exact rfl)
  | (apply W.qd; (first
    | (apply (yW (hmn)); exact rfl; exact rfl; (iterate 3 kernel_rfl))|(apply (yW (hmx)); exact rfl; exact rfl; (iterate 3 kernel_rfl))|(apply q_mv; (conv => lhs; whnf))|(apply q_as; (conv => lhs; whnf))|(apply yS; (iterate 3 exact rfl))|(apply yT; (iterate 4 exact rfl))|(apply q_lss; exact rfl; exact rfl)|(apply q_gtr; exact rfl; exact rfl)|(apply q_neq; exact rfl; exact rfl)|(apply q_add; exact rfl; exact rfl; omega)|(apply yV; exact rfl; exact rfl)|(apply yX; (iterate 3 exact rfl); (first | omega | (focus (simp; done))))|(apply yGb; (iterate 4 exact rfl); (first | (with_reducible exact rfl) | exact natI_spec rfl | assumption | exact (Int.toNat_of_nonneg (by omega)).symm); (first | omega | (focus (simp only [List.length_map]; omega)) | (focus (simp; done)) | (focus (simp; omega))))|(apply (yEb (u := .d _)); exact rfl; exact rfl)|(apply (yDb (u := .d _)); exact rfl; exact rfl)
    | (apply q_shrN; exact rfl; exact rfl; (first | (with_reducible exact rfl) | exact natI_spec rfl | assumption | exact (Int.toNat_of_nonneg (by omega)).symm); (first | (with_reducible exact rfl) | exact natI_spec rfl | assumption | exact (Int.toNat_of_nonneg (by omega)).symm); focus (show _ ≤ 64; omega))))|(refine W.gOff _ _ rfl rfl (by intro h; cases h) ?_)|(apply yA)|(apply yB)|(apply yC; kernel_rfl)|(apply yD; exact rfl; kernel_rfl)|(apply yE)|(apply yF; kernel_rfl)|(apply yG)|(apply yH)|(apply yJ)|(apply yP)|(apply yL)|(apply yN)|(apply yQ; exact rfl)|(refine W.gF _ _ rfl rfl (fun hb => ?_) (fun hb => ?_) <;> ((try simp only [hb, zA, zB]) <;> (try simp only [zC, zD, zE, zF, zG, zH, zI, zJ] at hb) <;> (try (exfalso; omega))))
  | (refine W.cond _ rfl (fun hb => ?_) (fun hb => ?_) <;> ((try simp only [hb, zA, zB]) <;> (try simp only [zC, zD, zE, zF, zG, zH, zI, zJ] at hb) <;> (try (exfalso; omega))))))
          all_goals first
            | (refine Ends.i rfl (hbad ?_).symm; rw [hro.out, Bool.and_eq_false_iff, Bool.and_eq_false_iff, decide_eq_false_iff_not, decide_eq_false_iff_not, decide_eq_false_iff_not]; omega)|(refine ⟨k + 1, ⟨by omega, hnext ?_⟩, by omega, [0], rfl, rfl, rfl, iV_eq (by omega), rfl, rfl, rfl, rfl, trivial⟩; rw [hro.out, Bool.and_eq_true, Bool.and_eq_true, decide_eq_true_eq, decide_eq_true_eq, decide_eq_true_eq]; omega)
      · have hb0 : e = 1 := hbad (by unfold rowOk; rw [decide_eq_false hrl]; rfl)
        rw [← hr] at hrl
        clear he0 he1 hk
        (repeat' (first
  | (apply W.qd; (first
    | (apply q_mv; (conv => lhs; whnf))|(apply q_as; (conv => lhs; whnf))|(apply yS; (iterate 3 exact rfl))|(apply yT; (iterate 4 exact rfl))|(apply q_lss; exact rfl; exact rfl)|(apply q_neq; exact rfl; exact rfl)|(apply yV; exact rfl; exact rfl)|(apply yX; (iterate 3 exact rfl); (first | omega | (focus (simp; done))))|(apply yGb; (iterate 4 exact rfl); (first | (with_reducible exact rfl) | exact natI_spec rfl | assumption | exact (Int.toNat_of_nonneg (by omega)).symm); (first | omega | (focus (simp only [List.length_map]; omega)) | (focus (simp; done)) | (focus (simp; omega))))
    | (apply (yEb (u := .d _)); exact rfl; exact rfl)))|(refine W.gOff _ _ rfl rfl (by intro h; cases h) ?_)|(apply yA)|(apply yB)|(apply yC; kernel_rfl)|(apply yD; exact rfl; kernel_rfl)|(apply yE)|(apply yF; kernel_rfl)|(apply yG)|(apply yH)|(apply yJ)|(apply yP)|(apply yN)|(apply yQ; exact rfl)|(refine W.gF _ _ rfl rfl (fun hb => ?_) (fun hb => ?_) <;> ((try simp only [hb, zA, zB]) <;> (try simp only [zC, zD, zE, zF, zG, zH, zI, zJ] at hb) <;> (try (exfalso; omega))))
  | (refine W.cond _ rfl (fun hb => ?_) (fun hb => ?_) <;> ((try simp only [hb, zA, zB]) <;> (try simp only [zC, zD, zE, zF, zG, zH, zI, zJ] at hb) <;> (try (exfalso; omega))))))
        all_goals first | exact Ends.i rfl hb0.symm | (exfalso; omega)
    · have ha : par.all (rowOk M D) = true := by
        rw [List.all_eq_true]
        intro r hr
        obtain ⟨j, hj, rfl⟩ := List.getElem_of_mem hr
        have := hk.2 j (by omega)
        rwa [List.getD_eq_getElem?_getD, List.getElem?_eq_getElem hj] at this
      have he := he1 ha
      clear he0 he1 hk
      (repeat' (first
  | (apply yFb; exact rfl; exact rfl)
  | (apply W.qd; (first
    | (apply q_mv; (conv => lhs; whnf))|(apply q_as; (conv => lhs; whnf))|(apply yS; (iterate 3 exact rfl))|(apply yT; (iterate 4 exact rfl))|(apply q_lss; exact rfl; exact rfl)|(apply q_gtr; exact rfl; exact rfl)|(apply (yEb (u := .d _)); exact rfl; exact rfl)
    | (apply (yDb (u := .d _)); exact rfl; exact rfl)))|(refine W.gOff _ _ rfl rfl (by intro h; cases h) ?_)|(apply yA)|(apply yB)|(apply yC; kernel_rfl)|(apply yE)|(apply yH)|(apply yI)|(apply yJ)|(apply yK)|(apply yP)|(apply yM)|(apply yQ; exact rfl)|(refine W.gF _ _ rfl rfl (fun hb => ?_) (fun hb => ?_) <;> ((try simp only [hb, zA, zB]) <;> (try simp only [zC, zD, zE, zF, zG, zH, zI, zJ] at hb) <;> (try (exfalso; omega))))
  | (refine W.cond _ rfl (fun hb => ?_) (fun hb => ?_) <;> ((try simp only [hb, zA, zB]) <;> (try simp only [zC, zD, zE, zF, zG, zH, zI, zJ] at hb) <;> (try (exfalso; omega))))))
      all_goals (refine Ends.i rfl ?_; rw [he]; first | (rw [if_pos (by omega)]; done) | (rw [if_neg (by omega)]; done))
  have hc : chkC nm M D par dom = (par.all (rowOk M D) && (decide (1 ≤ dom) && decide (dom ≤ D + (par.length : Int)))) := by
    unfold chkC
    rw [c1, decide_eq_true c2, decide_eq_true c3, decide_eq_true c4, decide_eq_true c5, decide_eq_true c6, decide_eq_true c7]
    rfl
  refine ⟨if par.all (rowOk M D) = true then (if 1 ≤ dom ∧ dom ≤ D + (par.length : Int) then 0 else 1) else 1, hall _ (fun h => by rw [h]; rfl) (fun h => by rw [if_pos h]), ?_⟩
  rw [hc]
  cases par.all (rowOk M D) with
  | false => simp
  | true =>
    rw [if_pos rfl, Bool.true_and, Bool.and_eq_true, decide_eq_true_eq, decide_eq_true_eq]
    split <;> simp_all
end Go.Proofs.YtcljokdiblnhiaaGreatDoor
end
section
namespace Go.Proofs.YtcljokdiblnhiaaGreatDoor
open Go.RowKit
set_option maxHeartbeats 4000000
set_option maxRecDepth 100000
def upK (hv : List Bool) (k : Nat) : List Nat := (List.range k).filter fun i => hv.getD i false
theorem upK_succ (hv : List Bool) (k : Nat) : upK hv (k + 1) = if hv.getD k false = true then upK hv k ++ [k] else upK hv k := by
  unfold upK
  rw [List.range_succ, List.filter_append]
  cases h : hv.getD k false with
  | true => rw [if_pos rfl]; simp only [List.filter_cons, h, if_true, List.filter_nil]
  | false => rw [if_neg (by decide)]; simp only [List.filter_cons, h, Bool.false_eq_true, if_false, List.filter_nil, List.append_nil]
theorem upK_len (hv : List Bool) (k : Nat) : (upK hv k).length ≤ k := Nat.le_trans (List.length_filter_le _ _) (by simp)
def badF (g : List Nat → Bool) (S : List (List Nat)) : Option (List Nat) := S.find? fun s => !g s
theorem badF_app (g : List Nat → Bool) (A B : List (List Nat)) : badF g (A ++ B) = (badF g A).or (badF g B) := List.find?_append
def subT (l : List Nat) (i k : Nat) (set : List Nat) : List (List Nat) := (subsN (l.drop i) (k - set.length)).map (set ++ ·)
theorem subT_step {l : List Nat} {i k : Nat} {set : List Nat} (hi : i < l.length) (hs : set.length < k) : subT l i k set = subT l (i + 1) k (set ++ [l[i]]) ++ subT l (i + 1) k set := by
  unfold subT
  rw [List.drop_eq_getElem_cons hi, show k - set.length = (k - set.length - 1) + 1 by omega, subsN, List.map_append, List.map_map]
  rw [show k - (set ++ [l[i]]).length = k - set.length - 1 by simp; omega]
  congr 1
  congr 1
  funext s
  simp
theorem subT_full {l : List Nat} {i k : Nat} {set : List Nat} (h : set.length = k) : subT l i k set = [set] := by
  unfold subT
  rw [show k - set.length = 0 by omega]
  have : subsN (l.drop i) 0 = [[]] := by unfold subsN; rfl
  rw [this]; simp
theorem subT_end {l : List Nat} {k : Nat} {set : List Nat} (h : set.length < k) : subT l l.length k set = [] := by
  unfold subT
  rw [show k - set.length = (k - set.length - 1) + 1 by omega, List.drop_length, subsN]; rfl
attribute [local irreducible] Quiet Eff OpOk AWPG ACont ABlock ACalls AGoto
theorem A_present {hv : List Bool} (hl : hv.length ≤ 1000000) : ACalls Tryz.prog 165 [bools hv] [] (nats (upN hv)) [] := by
  refine acalls_of_body Tryz.func165 rfl (Nat.le_of_ble_eq_true rfl) ?_
  have hmh : (hv.map tD).length = hv.length := List.length_map _
  (repeat' (first
  | (apply W.qd; (apply q_as; (conv => lhs; whnf)))|(apply yA)|(apply yB)|(apply (W.regionS 1); exact rfl; kernel_rfl)
  | (apply yE)))
  refine AWP.nilRow 2 1 3 rfl (by omega) ?_
  (repeat' (first
  | (apply W.qd; (first
    | (apply q_mv; (conv => lhs; whnf))
    | (apply yV; exact rfl; exact rfl)))|(apply yB)|(apply yC; kernel_rfl)|(apply yE)
  | (apply yG)))
  refine AWP.loopW (α := Nat) (fun k => k ≤ hv.length) (fun k => ⟨[(7, iV k), (6, iV hv.length), (5, bools hv), (2, .osl 0 (upK hv k).length 0 (upK hv k).length)], [.row (upK hv k).length 1 3 ((upK hv k).map kD)]⟩) (fun k => hv.length - k) 0 (Nat.zero_le _) ?wk0 fun k hk => ?_
  case wk0 => exact ⟨[0], rfl, rfl, rfl, rfl, iV_eq (by rw [hmh]), rfl, rfl, trivial⟩
  have hln := upK_len hv k
  by_cases hkl : k < hv.length
  · have eg : hv.getD k false = hv[k] := by rw [List.getD_eq_getElem?_getD, List.getElem?_eq_getElem hkl]; rfl
    have hs := Lib.hid (upK_succ hv k)
    rw [eg] at hs
    generalize upK hv k = A at *
    (repeat' (first
  | (apply W.qd; (first
    | (apply q_mv; (conv => lhs; whnf))|(apply q_as; (conv => lhs; whnf))|(apply q_lss; exact rfl; exact rfl)|(apply q_add; exact rfl; exact rfl; omega)|(apply yX; (iterate 3 exact rfl); (first | omega | (focus (simp; done))))|(apply q_litF; (iterate 5 exact rfl); kernel_rfl; kernel_rfl; exact rfl)
    | (apply yGb; (iterate 4 exact rfl); (first | (with_reducible exact rfl) | exact natI_spec rfl | assumption | exact (Int.toNat_of_nonneg (by omega)).symm); (first | omega | (focus (simp only [List.length_map]; omega)) | (focus (simp; done)) | (focus (simp; omega))))))|(apply W.ld; (apply l_app1; (iterate 8 exact rfl); (first | omega | (focus (simp; omega)) | (focus (simp; done)))))|(apply yA)|(apply yB)|(apply yC; kernel_rfl)|(apply yE)|(apply yG)|(apply yH)|(apply yL)
  | (refine W.cond _ rfl (fun hb => ?_) (fun hb => ?_) <;> ((try simp only [hb, zA, zB]) <;> (try simp only [zC, zD, zE, zF, zG, zH, zI, zJ] at hb) <;> (try (exfalso; omega))))))
    · replace hs := Lib.hid (hs.out.trans (if_pos hb))
      refine ⟨k + 1, by omega, by omega, ?_⟩
      rw [hs.out, show (A ++ [k]).length = A.length + 1 by simp]
      exact ⟨[0], rfl, rfl, rfl, iV_eq (by omega), rfl, rfl, congrArg (AV.osl 0 (A.length + 1) 0) (by simp), trivial⟩
    · replace hs := Lib.hid (hs.out.trans (if_neg (by rw [hb]; decide)))
      refine ⟨k + 1, by omega, by omega, ?_⟩
      rw [hs.out]
      exact ⟨[0], rfl, rfl, rfl, iV_eq (by omega), rfl, rfl, rfl, trivial⟩
  · have e : k = hv.length := by omega
    subst e
    rw [show upN hv = upK hv hv.length from rfl]
    generalize upK hv hv.length = A at *
    (repeat' (first
  | (apply W.qd; (first
    | (apply q_mv; (conv => lhs; whnf))|(apply q_as; (conv => lhs; whnf))
    | (apply q_lss; exact rfl; exact rfl)))|(apply yA)|(apply yB)|(apply yC; kernel_rfl)|(apply yE)|(apply yI)|(apply yJ)|(apply yK)|(apply yM)
  | (refine W.cond _ rfl (fun hb => ?_) (fun hb => ?_) <;> ((try simp only [hb, zA, zB]) <;> (try simp only [zC, zD, zE, zF, zG, zH, zI, zJ] at hb) <;> (try (exfalso; omega))))))
    exact Ends.osl rfl rfl (by simp) rfl
theorem A_cloneN {l : List Nat} (h0 : 0 < l.length) (hl : l.length ≤ 1000000) : ACalls Tryz.prog 184 [nats l] [] (nats l) [] := by
  refine acalls_of_body Tryz.func184 rfl (Nat.le_of_ble_eq_true rfl) ?_
  have hm : (l.map kD).length = l.length := List.length_map _
  (repeat' (first
  | (apply W.ed; (apply e_lit0F; (iterate 5 exact rfl)))
  | (apply W.qd; (first
    | (apply q_mv; (conv => lhs; whnf))|(apply q_as; (conv => lhs; whnf))
    | (apply q_eqnilm; (iterate 3 exact rfl); (first | assumption | omega))))|(apply W.ed; (apply e_appF; (iterate 8 exact rfl); (first | rfl | simp); (first | exact Nat.zero_lt_one | (focus (simp; done)) | omega); (first | (focus (simp; done)) | (focus (simp; omega)) | omega)))|(apply yA)|(apply yB)|(apply yC; kernel_rfl)|(apply yE)|(apply yH)|(apply yJ)
  | (apply yR; exact rfl)))
  exact Ends.osl rfl rfl (by simp) rfl
abbrev subO (E0 E1 E2 E3 E4 : Ent) (l : List Nat) (k : Nat) (L : Ent) : List Ent := [E0, E1, E2, E3, E4, .box [nats l], .box [iV k], L, .box [.yl 7], .box [.fn 206 [.opt 6 0, .opt 8 0, .opt 5 0, .opt 9 0]]]
def outB (o : Option (List Nat)) : Bool := o.isNone
section
variable {l : List Nat} {k : Nat} {g : List Nat → Bool} {E0 E1 E2 E3 E4 L : Ent} {F2 F7 : Ent} {F3 : List Nat → Ent}
abbrev subE (o : Option (List Nat)) (F : List Nat → Ent) (E : Ent) : Ent := match o with | none => E | some s => F s
abbrev subX (E0 E1 E2 E3 E4 : Ent) (l : List Nat) (k : Nat) (L : Ent) (F2 F7 : Ent) (F3 : List Nat → Ent) (o : Option (List Nat)) : List Ent := subO E0 E1 (subE o (fun _ => F2) E2) (subE o F3 E3) E4 l k (subE o (fun _ => F7) L)
theorem A_fromStep {i : Nat} {set : List Nat} (hl : l.length ≤ 1000) (hk1 : 1 ≤ k) (hk : k ≤ 1000)
    (hY : ∀ s : List Nat, s.Sublist l → s.length = k → YAt Tryz.prog 7 (subO E0 E1 E2 E3 E4 l k L) [nats s] (g s) (if g s = true then subO E0 E1 E2 E3 E4 l k L else subO E0 E1 F2 (F3 s) E4 l k F7))
    (hi : i ≤ l.length) (hs : set.length ≤ k) (hsub : set.Sublist (l.take i))
    (ih : ∀ (j : Nat) (set' : List Nat), i < j → j ≤ l.length → set'.length ≤ k → set'.Sublist (l.take j) →
      ACalls Tryz.prog 206 [iV j, nats set', .opt 6 0, .opt 8 0, .opt 5 0, .opt 9 0] (subO E0 E1 E2 E3 E4 l k L) (bV (outB (badF g (subT l j k set')))) (subX E0 E1 E2 E3 E4 l k L F2 F7 F3 (badF g (subT l j k set')))) :
    ACalls Tryz.prog 206 [iV i, nats set, .opt 6 0, .opt 8 0, .opt 5 0, .opt 9 0] (subO E0 E1 E2 E3 E4 l k L) (bV (outB (badF g (subT l i k set)))) (subX E0 E1 E2 E3 E4 l k L F2 F7 F3 (badF g (subT l i k set))) := by
  have hms : (set.map kD).length = set.length := List.length_map _
  have hml : (l.map kD).length = l.length := List.length_map _
  by_cases hfull : set.length = k
  · have hy := hY set (hsub.trans (List.take_sublist _ _)) hfull
    have hcl := A_cloneN (l := set) (by omega) (by omega)
    rw [subT_full hfull]
    have hb0 : badF g [set] = if g set = true then none else some set := by
      unfold badF
      cases hg : g set <;> simp [hg]
    rw [hb0]
    cases hg : g set with
    | true =>
      rw [hg, if_pos rfl] at hy
      rw [if_pos rfl]
      refine acalls_of_bodyS Tryz.func206 rfl (Nat.le_of_ble_eq_true rfl) ?_
      (repeat' (first
  | (apply W.qd; (first
    | (apply (yW (hcl)); exact rfl; exact rfl; (iterate 3 kernel_rfl))|(apply q_mv; (conv => lhs; whnf))|(apply q_as; (conv => lhs; whnf))|(apply yT; (iterate 4 exact rfl))|(apply q_eql; exact rfl; exact rfl)
    | (apply yV; exact rfl; exact rfl)))|(apply W.ed; ((exact e_yield hy rfl rfl)))|(apply yA)|(apply yB)|(apply yC; kernel_rfl)|(apply yD; exact rfl; kernel_rfl)|(apply yE)|(apply yF; kernel_rfl)|(apply yJ)|(apply yP)
  | (refine W.cond _ rfl (fun hb => ?_) (fun hb => ?_) <;> ((try simp only [hb, zA, zB]) <;> (try simp only [zC, zD, zE, zF, zG, zH, zI, zJ] at hb) <;> (try (exfalso; omega))))))
      exact EndsS.b rfl rfl
    | false =>
      rw [hg, if_neg (by decide)] at hy
      rw [if_neg (by decide)]
      refine acalls_of_bodyS Tryz.func206 rfl (Nat.le_of_ble_eq_true rfl) ?_
      (repeat' (first
  | (apply W.qd; (first
    | (apply (yW (hcl)); exact rfl; exact rfl; (iterate 3 kernel_rfl))|(apply q_mv; (conv => lhs; whnf))|(apply q_as; (conv => lhs; whnf))|(apply yT; (iterate 4 exact rfl))|(apply q_eql; exact rfl; exact rfl)
    | (apply yV; exact rfl; exact rfl)))|(apply W.ed; ((exact e_yield hy rfl rfl)))|(apply yA)|(apply yB)|(apply yC; kernel_rfl)|(apply yD; exact rfl; kernel_rfl)|(apply yE)|(apply yF; kernel_rfl)|(apply yJ)|(apply yP)
  | (refine W.cond _ rfl (fun hb => ?_) (fun hb => ?_) <;> ((try simp only [hb, zA, zB]) <;> (try simp only [zC, zD, zE, zF, zG, zH, zI, zJ] at hb) <;> (try (exfalso; omega))))))
      exact EndsS.b rfl rfl
  · generalize hR : badF g (subT l i k set) = R
    refine acalls_of_bodyS Tryz.func206 rfl (Nat.le_of_ble_eq_true rfl) ?_
    (repeat' (first
  | (apply W.qd; (first
    | (apply q_mv; (conv => lhs; whnf))|(apply q_as; (conv => lhs; whnf))|(apply yT; (iterate 4 exact rfl))|(apply q_eql; exact rfl; exact rfl)
    | (apply yV; exact rfl; exact rfl)))|(apply yA)|(apply yB)|(apply yC; kernel_rfl)|(apply yE)|(apply yG)|(apply yH)
  | (refine W.cond _ rfl (fun hb => ?_) (fun hb => ?_) <;> ((try simp only [hb, zA, zB]) <;> (try simp only [zC, zD, zE, zF, zG, zH, zI, zJ] at hb) <;> (try (exfalso; omega))))))
    refine AWP.loopE (α := Nat) (fun j => i ≤ j ∧ j ≤ l.length ∧ badF g (subT l j k set) = R) (fun j => ⟨[(0, iV j), (1, nats set), (2, .opt 6 0), (3, .opt 8 0), (4, .opt 5 0), (5, .opt 9 0)], subO E0 E1 E2 E3 E4 l k L⟩) (fun j => l.length - j) i ⟨Nat.le_refl _, hi, hR⟩ ⟨rfl, by (repeat (first | exact trivial | refine ⟨rfl, ?_⟩))⟩ fun j hj => ?_
    obtain ⟨hj1, hj2, hj3⟩ := hj
    by_cases hjl : j < l.length
    · have hst := subT_step (k := k) (set := set) hjl (by omega)
      have hih := ih (j + 1) (set ++ [l[j]]) (by omega) (by omega) (by simp; omega) (by
        rw [List.take_succ_eq_append_getElem hjl]
        refine List.Sublist.append (hsub.trans ?_) (List.Sublist.refl _)
        have : l.take i = (l.take j).take i := by rw [List.take_take, Nat.min_eq_left hj1]
        rw [this]; exact List.take_sublist _ _)
      rw [hst, badF_app] at hj3
      rw [show nats (set ++ [l[j]]) = .d (.sl 1 (set.map kD ++ [kD l[j]])) by show AV.d (.sl 1 ((set ++ [l[j]]).map kD)) = _; rw [List.map_append]; rfl] at hih
      have ej : iV ((j + 1 : Nat) : Int) = iV ((j : Int) + 1) := iV_eq (by omega)
      rw [ej] at hih
      cases hB : badF g (subT l (j + 1) k (set ++ [l[j]])) with
      | none =>
        rw [hB] at hih hj3
        clear ih hY
        (repeat' (first
  | (apply W.qd; (first
    | (apply q_mv; (conv => lhs; whnf))|(apply q_as; (conv => lhs; whnf))|(apply yT; (iterate 4 exact rfl))|(apply q_lss; exact rfl; exact rfl)|(apply q_not; exact rfl)|(apply q_add; exact rfl; exact rfl; omega)|(apply yV; exact rfl; exact rfl)|(apply yX; (iterate 3 exact rfl); (first | omega | (focus (simp; done))))|(apply q_litF; (iterate 5 exact rfl); kernel_rfl; kernel_rfl; exact rfl)|(apply yGb; (iterate 4 exact rfl); (first | (with_reducible exact rfl) | exact natI_spec rfl | assumption | exact (Int.toNat_of_nonneg (by omega)).symm); (first | omega | (focus (simp only [List.length_map]; omega)) | (focus (simp; done)) | (focus (simp; omega))))|(apply q_slc3; (iterate 3 exact rfl); (first | exact ⟨_, _, rfl, rfl⟩ | exact ⟨_, _, rfl, natI_spec rfl⟩ | exact ⟨_, _, rfl, (Int.toNat_of_nonneg (by omega)).symm⟩ | exact rfl); (first | exact ⟨_, _, rfl, rfl⟩ | exact ⟨_, _, rfl, natI_spec rfl⟩ | exact ⟨_, _, rfl, (Int.toNat_of_nonneg (by omega)).symm⟩ | exact rfl); exact rfl; exact rfl)
    | (apply q_appcl; (iterate 6 exact rfl); (first | exact Nat.zero_lt_one | (focus (simp; done)) | omega); (first | (focus (simp; done)) | (focus (simp; omega)) | omega))))|(apply W.ed; ((exact e_callA hih rfl rfl rfl)))|(apply yA)|(apply yB)|(apply yC; kernel_rfl)|(apply yD; exact rfl; kernel_rfl)|(apply yE)|(apply yF; kernel_rfl)|(apply yG)|(apply yH)|(apply yL)|(apply yR; exact rfl)
  | (refine W.cond _ rfl (fun hb => ?_) (fun hb => ?_) <;> ((try simp only [hb, zA, zB]) <;> (try simp only [zC, zD, zE, zF, zG, zH, zI, zJ] at hb) <;> (try (exfalso; omega))))))
        exact ⟨j + 1, ⟨by omega, by omega, hj3⟩, by omega, rfl, iV_eq (by omega), rfl, rfl, rfl, rfl, rfl, trivial⟩
      | some s =>
        rw [hB] at hih hj3
        obtain rfl : some s = R := hj3
        clear ih hY
        (repeat' (first
  | (apply W.qd; (first
    | (apply q_mv; (conv => lhs; whnf))|(apply q_as; (conv => lhs; whnf))|(apply yT; (iterate 4 exact rfl))|(apply q_lss; exact rfl; exact rfl)|(apply q_not; exact rfl)|(apply q_add; exact rfl; exact rfl; omega)|(apply yV; exact rfl; exact rfl)|(apply yX; (iterate 3 exact rfl); (first | omega | (focus (simp; done))))|(apply q_litF; (iterate 5 exact rfl); kernel_rfl; kernel_rfl; exact rfl)|(apply yGb; (iterate 4 exact rfl); (first | (with_reducible exact rfl) | exact natI_spec rfl | assumption | exact (Int.toNat_of_nonneg (by omega)).symm); (first | omega | (focus (simp only [List.length_map]; omega)) | (focus (simp; done)) | (focus (simp; omega))))|(apply q_slc3; (iterate 3 exact rfl); (first | exact ⟨_, _, rfl, rfl⟩ | exact ⟨_, _, rfl, natI_spec rfl⟩ | exact ⟨_, _, rfl, (Int.toNat_of_nonneg (by omega)).symm⟩ | exact rfl); (first | exact ⟨_, _, rfl, rfl⟩ | exact ⟨_, _, rfl, natI_spec rfl⟩ | exact ⟨_, _, rfl, (Int.toNat_of_nonneg (by omega)).symm⟩ | exact rfl); exact rfl; exact rfl)
    | (apply q_appcl; (iterate 6 exact rfl); (first | exact Nat.zero_lt_one | (focus (simp; done)) | omega); (first | (focus (simp; done)) | (focus (simp; omega)) | omega))))|(apply W.ed; ((exact e_callA hih rfl rfl rfl)))|(apply yA)|(apply yB)|(apply yC; kernel_rfl)|(apply yD; exact rfl; kernel_rfl)|(apply yE)|(apply yF; kernel_rfl)|(apply yG)|(apply yH)|(apply yJ)|(apply yP)|(apply yN)|(apply yQ; exact rfl)
  | (refine W.cond _ rfl (fun hb => ?_) (fun hb => ?_) <;> ((try simp only [hb, zA, zB]) <;> (try simp only [zC, zD, zE, zF, zG, zH, zI, zJ] at hb) <;> (try (exfalso; omega))))))
        exact EndsS.b rfl rfl
    · have ejl : j = l.length := by omega
      subst ejl
      rw [subT_end (by omega)] at hj3
      obtain rfl : none = R := hj3
      clear ih hY
      (repeat' (first
  | (apply W.qd; (first
    | (apply q_mv; (conv => lhs; whnf))|(apply q_as; (conv => lhs; whnf))|(apply yT; (iterate 4 exact rfl))|(apply q_lss; exact rfl; exact rfl)
    | (apply yV; exact rfl; exact rfl)))|(apply yA)|(apply yB)|(apply yC; kernel_rfl)|(apply yE)|(apply yI)|(apply yJ)|(apply yK)|(apply yM)
  | (refine W.cond _ rfl (fun hb => ?_) (fun hb => ?_) <;> ((try simp only [hb, zA, zB]) <;> (try simp only [zC, zD, zE, zF, zG, zH, zI, zJ] at hb) <;> (try (exfalso; omega))))))
      exact EndsS.b rfl rfl
theorem A_from (hl : l.length ≤ 1000) (hk1 : 1 ≤ k) (hk : k ≤ 1000)
    (hY : ∀ s : List Nat, s.Sublist l → s.length = k → YAt Tryz.prog 7 (subO E0 E1 E2 E3 E4 l k L) [nats s] (g s) (if g s = true then subO E0 E1 E2 E3 E4 l k L else subO E0 E1 F2 (F3 s) E4 l k F7)) :
    ∀ (n i : Nat) (set : List Nat), l.length - i ≤ n → i ≤ l.length → set.length ≤ k → set.Sublist (l.take i) →
    ACalls Tryz.prog 206 [iV i, nats set, .opt 6 0, .opt 8 0, .opt 5 0, .opt 9 0] (subO E0 E1 E2 E3 E4 l k L) (bV (outB (badF g (subT l i k set)))) (subX E0 E1 E2 E3 E4 l k L F2 F7 F3 (badF g (subT l i k set)))
  | 0, i, set, hn, hi, hs, hsub => A_fromStep hl hk1 hk hY hi hs hsub fun j set' h1 h2 => by omega
  | n + 1, i, set, hn, hi, hs, hsub => A_fromStep hl hk1 hk hY hi hs hsub fun j set' h1 h2 h3 h4 => A_from hl hk1 hk hY n j set' (by omega) h2 h3 h4
theorem A_subIter {R : Option (List Nat)} (hl : l.length ≤ 1000) (hk1 : 1 ≤ k) (hk : k ≤ 1000) (hB : badF g (subsN l k) = R)
    (hY : ∀ s : List Nat, s.Sublist l → s.length = k → YAt Tryz.prog 7 (subO E0 E1 E2 E3 E4 l k L) [nats s] (g s) (if g s = true then subO E0 E1 E2 E3 E4 l k L else subO E0 E1 F2 (F3 s) E4 l k F7)) :
    ACalls Tryz.prog 205 [.yl 7, .opt 6 0, .opt 5 0] [E0, E1, E2, E3, E4, .box [nats l], .box [iV k], L] (.tup []) (subX E0 E1 E2 E3 E4 l k L F2 F7 F3 R) := by
  have h0 := A_from hl hk1 hk hY l.length 0 [] (by omega) (by omega) (by simp) (List.nil_sublist _)
  have e : subT l 0 k [] = subsN l k := by unfold subT; simp
  rw [e, hB] at h0
  have h0 := h0.le (args' := [iV 0, .d (.v (.slice none 0 0)), .opt 6 0, .opt 8 0, .opt 5 0, .opt 9 0]) fun F κ w vs hs => by
    refine AVleL.sat (xs := [iV 0, .d (.v (.slice none 0 0)), .opt 6 0, .opt 8 0, .opt 5 0, .opt 9 0]) ?_ F _ κ w vs hs
    exact ⟨AVle.refl _, AVle.nil 1, AVle.refl _, AVle.refl _, AVle.refl _, AVle.refl _, trivial⟩
  refine acalls_of_bodyS Tryz.func205 rfl (Nat.le_of_ble_eq_true rfl) ?_
  (repeat' (first
  | (apply W.qd; (first
    | (apply yT; (iterate 4 exact rfl))
    | (apply q_makeFunc)))
  | (apply W.ed; (first
    | ((exact e_callA h0 rfl rfl rfl))|(apply yBb; (iterate 3 exact rfl); kernel_rfl; kernel_rfl)
    | (apply yCb; (iterate 3 exact rfl); kernel_rfl)))|(apply W.ln; (apply l_st_box; (iterate 6 exact rfl); (iterate 3 kernel_rfl)))|(apply yA)|(apply yB)|(apply yC; kernel_rfl)
  | (apply yE)))
  exact ⟨.inr rfl, [], trivial, AVle.of_eq rfl, rfl⟩
end
end Go.Proofs.YtcljokdiblnhiaaGreatDoor
end
section
namespace Go.Proofs.YtcljokdiblnhiaaGreatDoor
open Go.RowKit
set_option maxHeartbeats 4000000
set_option maxRecDepth 100000
theorem AWP.toX {Γ : Ctx} {P : Program} {n m : Nat} {c : Code} {s : St} {own' : List Ent} {e0 : Exit} (h : AWPG Γ P n m c (fun e s => e = e0 ∧ Wk m s ⟨[], own'⟩) s) : AWPG Γ P n m c (fun e s => e = e0 ∧ s.own = own') s := fun F W κ0 a κ w hH hm hs =>
  wpIn_mono (h F W κ0 a κ w hH hm hs) fun e a' w' ⟨s', κ', ⟨he, hw⟩, hs'⟩ => by
    obtain ⟨κ2, h2⟩ := hs'.wk hm hw
    exact ⟨_, κ2, ⟨he, rfl⟩, h2⟩
theorem AVle.anyV {v : Value} (h : v.oneCell' = true) : AVle (.d (.v v)) (.d .any) := fun F own κ w u hs => by
  rw [sat_v] at hs
  subst hs
  rw [AV.sat, Dat.sat]; exact h
theorem AVle.anyS (sz : Nat) (l : List (List Dat)) : AVle (.d (.sl sz l)) (.d .any) := fun F own κ w u hs => by
  rw [AV.sat, Dat.sat] at hs
  obtain ⟨A, c, rfl, _⟩ := hs
  rw [AV.sat, Dat.sat]; rfl
theorem minusN_snoc (hv : List Bool) (L : List Nat) (u : Nat) : minusN hv (L ++ [u]) = (minusN hv L).set u false := by
  unfold minusN
  rw [List.foldl_append]; rfl
theorem badN_iff {dec : List Bool → Bool} {hv : List Bool} {f : Nat} : badN dec hv f = (badF (fun s => dec (minusN hv s)) (subsN (upN hv) (f + 1))).isSome := by
  unfold badN badF
  rw [Bool.eq_iff_iff, List.any_eq_true, List.find?_isSome]
theorem gen_entE {motive : Ent → Prop} (E : Ent) (h : ∀ L, L = E → motive L) : motive E := h E rfl
attribute [local irreducible] Quiet Eff OpOk AWPG ACont ABlock ACalls AGoto
theorem A_subsets0 {l : List Nat} {f : Nat} : ACalls Tryz.prog 166 [nats l, iV ((f : Int) + 1)] [] (.fn 205 [.opt 1 0, .opt 0 0]) [.box [nats l], .box [iV ((f + 1 : Nat) : Int)]] := by
  rw [show iV ((f : Int) + 1) = iV ((f + 1 : Nat) : Int) from iV_eq (by omega)]
  refine acalls_of_bodyO Tryz.func166 rfl (Nat.le_of_ble_eq_true rfl) ?_
  (repeat' (first
  | (apply W.qd; (first
    | (apply q_as; (conv => lhs; whnf))
    | (apply q_makeFunc)))|(apply W.ed; (apply yBb; (iterate 3 exact rfl); kernel_rfl; kernel_rfl))|(apply yA)|(apply yB)|(apply yC; kernel_rfl)|(apply yE)
  | (apply yJ)))
  exact ⟨.inl rfl, [0, 1], [.fn 205 [.opt 1 0, .opt 0 0]], rfl, rfl, ⟨rfl, trivial⟩, AVle.of_eq rfl, rfl⟩
abbrev srcB0 (M D : Nat) (ps : List (List Nat)) : Ent := .box [.d .any, iV M, iV D, rowsN ps, .d .any]
abbrev srcEnv (hv : List Bool) (f : Nat) : List (Nat × AV) := [(24, .fn 205 [.opt 6 0, .opt 5 0]), (2, .opt 0 0), (3, .opt 1 0), (4, .opt 2 0), (5, .opt 3 0), (6, nats (upN hv)), (7, .opt 4 0), (18, iV f)]
theorem A_search {M D : Nat} {ps : List (List Nat)} {hv : List Bool} (h : CodeOk M D ps) (hl : hv.length = D + ps.length) : ACalls Tryz.prog 113 [cdN M D ps, bools hv] [] (.tup [iV (leftN (decN M D ps) hv), .d .any]) [] := by
  have h1 := h.d
  have h2 := h.w
  have hdec := A_decodable h hl
  have hpre := A_present (hv := hv) (by omega)
  have hd0 : decN M D ps hv = decide ((basisN M D ps hv).length = D) := by unfold decN; rw [decide_eq_true hl, Bool.true_and]
  rw [← hd0] at hdec
  have hcl := A_cloneB (l := hv) (by omega) (by omega)
  have hdecs : ∀ s : List Nat, ACalls Tryz.prog 35 [cdN M D ps, bools (minusN hv s)] [] (bV (decN M D ps (minusN hv s))) [] := fun s => by
    have hls : (minusN hv s).length = D + ps.length := by rw [minusN_length]; exact hl
    have := A_decodable h hls
    have hd1 : decN M D ps (minusN hv s) = decide ((basisN M D ps (minusN hv s)).length = D) := by unfold decN; rw [decide_eq_true hls, Bool.true_and]
    rwa [← hd1] at this
  have hup : ∀ u ∈ upN hv, u < hv.length := fun u hu => by
    have := (List.mem_filter.1 hu).1
    exact List.mem_range.1 this
  have hupl : (upN hv).length ≤ 1000 := by have := upK_len hv hv.length; have e : (upN hv).length = (upK hv hv.length).length := rfl; omega
  unfold leftN
  generalize decN M D ps = dec at *
  refine acalls_of_body Tryz.func113 rfl (Nat.le_of_ble_eq_true rfl) ?_
  cases hd : dec hv with
  | false =>
    rw [if_neg (by decide)]
    rw [hd] at hdec
    (repeat' (first
  | (apply W.qd; (first
    | (apply (yW (hdec)); exact rfl; exact rfl; (iterate 3 kernel_rfl))|(apply yT; (iterate 4 exact rfl))|(apply yU; (iterate 4 exact rfl))
    | (apply q_not; exact rfl)))
  | (apply W.ed; (first
    | (apply yBb; (iterate 3 exact rfl); kernel_rfl; kernel_rfl)
    | (apply yCb; (iterate 3 exact rfl); kernel_rfl)))|(apply W.ln; (apply l_st_box; (iterate 6 exact rfl); (iterate 3 kernel_rfl)))|(apply yA)|(apply yB)|(apply yC; kernel_rfl)|(apply yE)|(apply yJ)|(apply yP)
  | (apply yQ; exact rfl)))
    exact ⟨.inl rfl, [], [iV (-1), .d (.v (.slice none 0 0))], rfl, ⟨⟨2, [iV (-1)], false, rfl, rfl, rfl, rfl⟩, ⟨3, [.d (.v (.slice none 0 0))], false, rfl, rfl, rfl, rfl⟩, trivial⟩, AVle.tup2 (AVle.refl _) (AVle.anyV rfl), rfl⟩
  | true =>
    rw [if_pos rfl]
    rw [hd] at hdec
    generalize hR : ((List.range 4).find? (badN dec hv)).getD 4 = R
    (repeat' (first
  | (apply W.qd; (first
    | (apply (yW (hdec)); exact rfl; exact rfl; (iterate 3 kernel_rfl))|(apply (yW (hpre)); exact rfl; exact rfl; (iterate 3 kernel_rfl))|(apply q_mv; (conv => lhs; whnf))|(apply q_as; (conv => lhs; whnf))|(apply yT; (iterate 4 exact rfl))|(apply yU; (iterate 4 exact rfl))
    | (apply q_not; exact rfl)))
  | (apply W.ed; (first
    | (apply yBb; (iterate 3 exact rfl); kernel_rfl; kernel_rfl)
    | (apply yCb; (iterate 3 exact rfl); kernel_rfl)))|(apply yA)|(apply yB)|(apply yC; kernel_rfl)|(apply yE)|(apply yG)|(apply yH)
  | (apply yR; exact rfl)))
    refine AWP.loopW (α := Nat) (fun f => f ≤ 4 ∧ ∀ g, g < f → badN dec hv g = false) (fun f => ⟨[(18, iV f), (6, nats (upN hv)), (2, .opt 0 0), (3, .opt 1 0), (4, .opt 2 0), (5, .opt 3 0)], [.box [.d .any, iV M, iV D, rowsN ps, .d .any], .box [bools hv], .box [iV 0], .box [.d (.v (.slice none 0 0))]]⟩) (fun f => 4 - f) 0 ⟨by omega, fun g hg => by omega⟩ ⟨[0, 1, 2, 3], rfl, rfl, rfl, by (repeat (first | exact trivial | refine ⟨rfl, ?_⟩))⟩ fun f hf => ?_
    by_cases hf4 : f < 4
    · have hs0 := A_subsets0 (l := upN hv) (f := f)
      (repeat' (first
  | (apply W.qd; (first
    | (apply q_mv; (conv => lhs; whnf))|(apply yT; (iterate 4 exact rfl))|(apply q_lss; exact rfl; exact rfl)
    | (apply q_add; exact rfl; exact rfl; omega)))
  | (apply W.ed; (first
    | (apply (e_callJ (js := []) (hs0)); (iterate 5 exact rfl); kernel_rfl; kernel_rfl)
    | (apply yCb; (iterate 3 exact rfl); kernel_rfl)))|(apply W.ln; (apply l_st_box; (iterate 6 exact rfl); (iterate 3 kernel_rfl)))|(apply yA)|(apply yB)|(apply yC; kernel_rfl)|(apply yE)|(apply yG)|(apply yH)
  | (refine W.cond _ rfl (fun hb => ?_) (fun hb => ?_) <;> ((try simp only [hb, zA, zB]) <;> (try simp only [zC, zD, zE, zF, zG, zH, zI, zJ] at hb) <;> (try (exfalso; omega))))))
      refine AWP.wk ⟨srcEnv hv f, [.box [.d .any, iV M, iV D, rowsN ps, .d .any], .box [bools hv], .box [iV 0], .box [.d (.v (.slice none 0 0))], .box [iV f], .box [nats (upN hv)], .box [iV ((f + 1 : Nat) : Int)]]⟩ ⟨[0, 1, 2, 3, 4, 5, 6], rfl, rfl, rfl, by (repeat (first | exact trivial | refine ⟨rfl, ?_⟩))⟩ ?_
      have hbI := badN_iff (dec := dec) (hv := hv) (f := f)
      cases hB : badF (fun s => dec (minusN hv s)) (subsN (upN hv) (f + 1)) with
      | none =>
        rw [hB] at hbI
        refine AWP.range (s2 := ⟨[(18, iV f), (6, nats (upN hv)), (2, .opt 0 0), (3, .opt 1 0), (4, .opt 2 0), (5, .opt 3 0)], [srcB0 M D ps, .box [bools hv], .box [iV 0], .box [.d (.v (.slice none 0 0))]]⟩) rfl (by kernel_rfl) (A_subIter (F2 := .box []) (F7 := .box []) (F3 := fun _ => .box []) hupl (by omega) (by omega) hB fun s hs1 hs2 => ?_) rfl (by decide) ⟨[0, 1, 2, 3], rfl, rfl, rfl, by (repeat (first | exact trivial | refine ⟨rfl, ?_⟩))⟩ ?_
        · have hg : dec (minusN hv s) = true := by
            unfold badF at hB
            rw [List.find?_eq_none] at hB
            have := hB s (mem_subsN.2 ⟨hs1, hs2⟩)
            simpa using this
          rw [hg, if_pos rfl]
          refine YAt.ok (own1 := subO (srcB0 M D ps) (.box [bools hv]) (.box [iV 0]) (.box [.d (.v (.slice none 0 0))]) (.box [iV f]) (upN hv) (f + 1) (.lp .busy none #[25] _ _ _)) (s2 := ⟨(8, nats s) :: srcEnv hv f, _⟩) rfl rfl rfl rfl (fun g => ?_) rfl (fun g => ?_) rfl rfl
          · refine AWP.toW ?_
            (repeat' (first
  | (apply W.qd; (apply q_as; (conv => lhs; whnf)))|(apply yC; kernel_rfl)
  | (apply yE)))
            exact ⟨rfl, ⟨[0, 1, 2, 3, 4, 5, 6, 7, 8, 9], rfl, rfl, rfl, by (repeat (first | exact trivial | refine ⟨rfl, ?_⟩))⟩⟩
          · refine AWP.toO ?_
            refine gen_entE (motive := fun L => AWPG (Ctx.round g) Tryz.prog Tryz.f113.ntmps 10 _ (fun e s9 => e = .normal ∧ Wk 10 s9 ⟨[], subO (srcB0 M D ps) (.box [bools hv]) (.box [iV 0]) (.box [.d (.v (.slice none 0 0))]) (.box [iV f]) (upN hv) (f + 1) L⟩) ⟨(8, nats s) :: srcEnv hv f, subO (srcB0 M D ps) (.box [bools hv]) (.box [iV 0]) (.box [.d (.v (.slice none 0 0))]) (.box [iV f]) (upN hv) (f + 1) L⟩) _ fun L hL => ?_
            obtain ⟨cA, cB, hL⟩ : ∃ cA cB, L = .lp .busy none #[25] cA cB (tmpsOf (srcEnv hv f) Tryz.f113.ntmps) := ⟨_, _, hL⟩
            subst hL
            have hms : (s.map kD).length = s.length := List.length_map _
            (repeat' (first
  | (apply W.qd; (first
    | (apply q_mv; (conv => lhs; whnf))|(apply q_as; (conv => lhs; whnf))|(apply yT; (iterate 4 exact rfl))
    | (apply yV; exact rfl; exact rfl)))|(apply W.ed; (apply (e_callJ (js := []) (hcl)); (iterate 5 exact rfl); kernel_rfl; kernel_rfl))|(apply yA)|(apply yB)|(apply yC; kernel_rfl)|(apply yE)
  | (apply yG)))
            refine AWP.loopW (α := Nat) (fun j => j ≤ s.length) (fun j => ⟨[(30, iV j), (29, iV s.length), (28, nats s), (9, .osl 10 1 0 hv.length), (8, nats s), (2, .opt 0 0), (4, .opt 2 0), (5, .opt 3 0), (7, .opt 4 0)], subO (srcB0 M D ps) (.box [bools hv]) (.box [iV 0]) (.box [.d (.v (.slice none 0 0))]) (.box [iV f]) (upN hv) (f + 1) (.lp .busy none #[25] cA cB (tmpsOf (srcEnv hv f) Tryz.f113.ntmps)) ++ [.row 1 1 4 ((minusN hv (s.take j)).map tD)]⟩) (fun j => s.length - j) 0 (Nat.zero_le _) ?wkr1 fun j hj => ?_
            case wkr1 => exact ⟨[0, 1, 2, 3, 4, 5, 6, 7, 8, 9, 10], rfl, rfl, rfl, rfl, iV_eq (by rw [hms]), rfl, rfl, rfl, rfl, rfl, rfl, rfl, trivial⟩
            by_cases hjl : j < s.length
            · have hu := hup s[j] (hs1.subset (List.getElem_mem hjl))
              have hmn := minusN_length (s.take j) hv
              have hsn := minusN_snoc hv (s.take j) s[j]
              rw [← List.take_succ_eq_append_getElem hjl] at hsn
              replace hsn := Lib.hid hsn
              generalize minusN hv (s.take j) = A at *
              (repeat' (first
  | (apply W.qd; (first
    | (apply q_mv; (conv => lhs; whnf))|(apply q_as; (conv => lhs; whnf))|(apply q_lss; exact rfl; exact rfl)|(apply q_add; exact rfl; exact rfl; omega)|(apply yX; (iterate 3 exact rfl); (first | omega | (focus (simp; done))))|(apply yGb; (iterate 4 exact rfl); (first | (with_reducible exact rfl) | exact natI_spec rfl | assumption | exact (Int.toNat_of_nonneg (by omega)).symm); (first | omega | (focus (simp only [List.length_map]; omega)) | (focus (simp; done)) | (focus (simp; omega))))
    | (apply q_ix_osl0; (iterate 4 exact rfl); (first | (with_reducible exact rfl) | exact natI_spec rfl | assumption | exact (Int.toNat_of_nonneg (by omega)).symm); (first | omega | (focus (simp only [List.length_map]; omega)) | (focus (simp; done)) | (focus (simp; omega))))))|(apply W.ln; (apply l_st_rpt; (iterate 7 exact rfl); exact fun _ => rfl; (first | omega | (focus (simp only [List.length_map]; omega)) | (focus (simp; omega)))))|(apply yA)|(apply yB)|(apply yC; kernel_rfl)|(apply yE)|(apply yG)|(apply yH)|(apply yL)
  | (refine W.cond _ rfl (fun hb => ?_) (fun hb => ?_) <;> ((try simp only [hb, zA, zB]) <;> (try simp only [zC, zD, zE, zF, zG, zH, zI, zJ] at hb) <;> (try (exfalso; omega))))))
              refine ⟨j + 1, by omega, by omega, ?_⟩
              rw [hsn.out]
              exact ⟨[0, 1, 2, 3, 4, 5, 6, 7, 8, 9, 10], rfl, rfl, rfl, iV_eq (by omega), rfl, rfl, rfl, rfl, rfl, rfl, rfl, rfl, trivial⟩
            have ejl : j = s.length := by omega
            subst ejl
            rw [List.take_length]
            have hmn := minusN_length s hv
            (repeat' (first
  | (apply W.qd; (apply q_lss; exact rfl; exact rfl))|(apply yA)|(apply yB)|(apply (W.regionS 15); exact rfl; kernel_rfl)|(apply yE)|(apply yI)|(apply yK)|(apply yM)
  | (refine W.cond _ rfl (fun hb => ?_) (fun hb => ?_) <;> ((try simp only [hb, zA, zB]) <;> (try simp only [zC, zD, zE, zF, zG, zH, zI, zJ] at hb) <;> (try (exfalso; omega))))))
            refine AWP.wk ⟨[(9, bools (minusN hv s)), (8, nats s), (2, .opt 0 0), (4, .opt 2 0), (5, .opt 3 0), (7, .opt 4 0)], subO (srcB0 M D ps) (.box [bools hv]) (.box [iV 0]) (.box [.d (.v (.slice none 0 0))]) (.box [iV f]) (upN hv) (f + 1) (.lp .busy none #[25] cA cB (tmpsOf (srcEnv hv f) Tryz.f113.ntmps))⟩ ?wkf1 ?_
            case wkf1 => exact ⟨[0, 1, 2, 3, 4, 5, 6, 7, 8, 9], rfl, rfl, rfl, (frz_rowJ (i := 10) (ver := 1) (n := hv.length) (l := (minusN hv s).map tD) rfl rfl (by rw [List.length_map, hmn])).symm, rfl, rfl, rfl, rfl, rfl, trivial⟩
            have hds := hdecs s
            rw [show dec (minusN hv s) = true from hg] at hds
            (repeat' (first
  | (apply W.qd; (first
    | (apply (yW (hds)); exact rfl; exact rfl; (iterate 3 kernel_rfl))|(apply q_mv; (conv => lhs; whnf))|(apply yU; (iterate 4 exact rfl))
    | (apply q_not; exact rfl)))|(apply yB)|(apply yC; kernel_rfl)|(apply yE)|(apply yH)|(apply yL)
  | (apply yR; exact rfl)))
            exact ⟨rfl, ⟨[0, 1, 2, 3, 4, 5, 6, 7, 8, 9], rfl, rfl, rfl, by (repeat (first | exact trivial | refine ⟨rfl, ?_⟩))⟩⟩
        dsimp only
        (repeat' (first
  | (apply W.qd; (first
    | (apply q_mv; (conv => lhs; whnf))
    | (apply q_add; exact rfl; exact rfl; omega)))|(apply yB)|(apply yC; kernel_rfl)|(apply yE)
  | (apply yL)))
        refine ⟨f + 1, ⟨by omega, fun g hg => ?_⟩, by omega, [0, 1, 2, 3], rfl, rfl, rfl, iV_eq (by omega), rfl, rfl, rfl, rfl, rfl, trivial⟩
        by_cases e : g = f
        · subst e; exact hbI
        · exact hf.2 g (by omega)
      | some s0 =>
        rw [hB] at hbI
        have hfr : f = R := by
          have hq : (List.range 4).find? (badN dec hv) = some f := List.find?_range_eq_some.2 ⟨hbI, List.mem_range.2 hf4, fun g hg => by rw [hf.2 g hg]; rfl⟩
          rw [hq] at hR; exact hR
        subst hfr
        refine AWP.range (s2 := ⟨[(4, .opt 2 0), (5, .opt 3 0)], [srcB0 M D ps, .box [bools hv], .box [iV f], .box [nats s0]]⟩) rfl (by kernel_rfl) (A_subIter (F2 := .box [iV f]) (F7 := .lp .done (some .ret) _ _ _ (tmpsOf (srcEnv hv f) Tryz.f113.ntmps)) (F3 := fun s => .box [nats s]) hupl (by omega) (by omega) hB fun s hs1 hs2 => ?_) rfl (by decide) ⟨[0, 1, 2, 3], rfl, rfl, rfl, by (repeat (first | exact trivial | refine ⟨rfl, ?_⟩))⟩ ?_
        · cases hg : dec (minusN hv s) with
          | true =>
            rw [if_pos rfl]
            refine YAt.ok (own1 := subO (srcB0 M D ps) (.box [bools hv]) (.box [iV 0]) (.box [.d (.v (.slice none 0 0))]) (.box [iV f]) (upN hv) (f + 1) (.lp .busy none #[25] _ _ _)) (s2 := ⟨(8, nats s) :: srcEnv hv f, _⟩) rfl rfl rfl rfl (fun g => ?_) rfl (fun g => ?_) rfl rfl
            · refine AWP.toW ?_
              (repeat' (first
  | (apply W.qd; (apply q_as; (conv => lhs; whnf)))|(apply yC; kernel_rfl)
  | (apply yE)))
              exact ⟨rfl, ⟨[0, 1, 2, 3, 4, 5, 6, 7, 8, 9], rfl, rfl, rfl, by (repeat (first | exact trivial | refine ⟨rfl, ?_⟩))⟩⟩
            · refine AWP.toO ?_
              refine gen_entE (motive := fun L => AWPG (Ctx.round g) Tryz.prog Tryz.f113.ntmps 10 _ (fun e s9 => e = .normal ∧ Wk 10 s9 ⟨[], subO (srcB0 M D ps) (.box [bools hv]) (.box [iV 0]) (.box [.d (.v (.slice none 0 0))]) (.box [iV f]) (upN hv) (f + 1) L⟩) ⟨(8, nats s) :: srcEnv hv f, subO (srcB0 M D ps) (.box [bools hv]) (.box [iV 0]) (.box [.d (.v (.slice none 0 0))]) (.box [iV f]) (upN hv) (f + 1) L⟩) _ fun L hL => ?_
              obtain ⟨cA, cB, hL⟩ : ∃ cA cB, L = .lp .busy none #[25] cA cB (tmpsOf (srcEnv hv f) Tryz.f113.ntmps) := ⟨_, _, hL⟩
              subst hL
              have hms : (s.map kD).length = s.length := List.length_map _
              (repeat' (first
  | (apply W.qd; (first
    | (apply q_mv; (conv => lhs; whnf))|(apply q_as; (conv => lhs; whnf))|(apply yT; (iterate 4 exact rfl))
    | (apply yV; exact rfl; exact rfl)))|(apply W.ed; (apply (e_callJ (js := []) (hcl)); (iterate 5 exact rfl); kernel_rfl; kernel_rfl))|(apply yA)|(apply yB)|(apply yC; kernel_rfl)|(apply yE)
  | (apply yG)))
              refine AWP.loopW (α := Nat) (fun j => j ≤ s.length) (fun j => ⟨[(30, iV j), (29, iV s.length), (28, nats s), (9, .osl 10 1 0 hv.length), (8, nats s), (2, .opt 0 0), (4, .opt 2 0), (5, .opt 3 0), (7, .opt 4 0)], subO (srcB0 M D ps) (.box [bools hv]) (.box [iV 0]) (.box [.d (.v (.slice none 0 0))]) (.box [iV f]) (upN hv) (f + 1) (.lp .busy none #[25] cA cB (tmpsOf (srcEnv hv f) Tryz.f113.ntmps)) ++ [.row 1 1 4 ((minusN hv (s.take j)).map tD)]⟩) (fun j => s.length - j) 0 (Nat.zero_le _) ?wkr2 fun j hj => ?_
              case wkr2 => exact ⟨[0, 1, 2, 3, 4, 5, 6, 7, 8, 9, 10], rfl, rfl, rfl, rfl, iV_eq (by rw [hms]), rfl, rfl, rfl, rfl, rfl, rfl, rfl, trivial⟩
              by_cases hjl : j < s.length
              · have hu := hup s[j] (hs1.subset (List.getElem_mem hjl))
                have hmn := minusN_length (s.take j) hv
                have hsn := minusN_snoc hv (s.take j) s[j]
                rw [← List.take_succ_eq_append_getElem hjl] at hsn
                replace hsn := Lib.hid hsn
                generalize minusN hv (s.take j) = A at *
                (repeat' (first
  | (apply W.qd; (first
    | (apply q_mv; (conv => lhs; whnf))|(apply q_as; (conv => lhs; whnf))|(apply q_lss; exact rfl; exact rfl)|(apply q_add; exact rfl; exact rfl; omega)|(apply yX; (iterate 3 exact rfl); (first | omega | (focus (simp; done))))|(apply yGb; (iterate 4 exact rfl); (first | (with_reducible exact rfl) | exact natI_spec rfl | assumption | exact (Int.toNat_of_nonneg (by omega)).symm); (first | omega | (focus (simp only [List.length_map]; omega)) | (focus (simp; done)) | (focus (simp; omega))))
    | (apply q_ix_osl0; (iterate 4 exact rfl); (first | (with_reducible exact rfl) | exact natI_spec rfl | assumption | exact (Int.toNat_of_nonneg (by omega)).symm); (first | omega | (focus (simp only [List.length_map]; omega)) | (focus (simp; done)) | (focus (simp; omega))))))|(apply W.ln; (apply l_st_rpt; (iterate 7 exact rfl); exact fun _ => rfl; (first | omega | (focus (simp only [List.length_map]; omega)) | (focus (simp; omega)))))|(apply yA)|(apply yB)|(apply yC; kernel_rfl)|(apply yE)|(apply yG)|(apply yH)|(apply yL)
  | (refine W.cond _ rfl (fun hb => ?_) (fun hb => ?_) <;> ((try simp only [hb, zA, zB]) <;> (try simp only [zC, zD, zE, zF, zG, zH, zI, zJ] at hb) <;> (try (exfalso; omega))))))
                refine ⟨j + 1, by omega, by omega, ?_⟩
                rw [hsn.out]
                exact ⟨[0, 1, 2, 3, 4, 5, 6, 7, 8, 9, 10], rfl, rfl, rfl, iV_eq (by omega), rfl, rfl, rfl, rfl, rfl, rfl, rfl, rfl, trivial⟩
              have ejl : j = s.length := by omega
              subst ejl
              rw [List.take_length]
              have hmn := minusN_length s hv
              (repeat' (first
  | (apply W.qd; (apply q_lss; exact rfl; exact rfl))|(apply yA)|(apply yB)|(apply (W.regionS 15); exact rfl; kernel_rfl)|(apply yE)|(apply yI)|(apply yK)|(apply yM)
  | (refine W.cond _ rfl (fun hb => ?_) (fun hb => ?_) <;> ((try simp only [hb, zA, zB]) <;> (try simp only [zC, zD, zE, zF, zG, zH, zI, zJ] at hb) <;> (try (exfalso; omega))))))
              refine AWP.wk ⟨[(9, bools (minusN hv s)), (8, nats s), (2, .opt 0 0), (4, .opt 2 0), (5, .opt 3 0), (7, .opt 4 0)], subO (srcB0 M D ps) (.box [bools hv]) (.box [iV 0]) (.box [.d (.v (.slice none 0 0))]) (.box [iV f]) (upN hv) (f + 1) (.lp .busy none #[25] cA cB (tmpsOf (srcEnv hv f) Tryz.f113.ntmps))⟩ ?wkf2 ?_
              case wkf2 => exact ⟨[0, 1, 2, 3, 4, 5, 6, 7, 8, 9], rfl, rfl, rfl, (frz_rowJ (i := 10) (ver := 1) (n := hv.length) (l := (minusN hv s).map tD) rfl rfl (by rw [List.length_map, hmn])).symm, rfl, rfl, rfl, rfl, rfl, trivial⟩
              have hds := hdecs s
              rw [hg] at hds
              (repeat' (first
  | (apply W.qd; (first
    | (apply (yW (hds)); exact rfl; exact rfl; (iterate 3 kernel_rfl))|(apply q_mv; (conv => lhs; whnf))|(apply yU; (iterate 4 exact rfl))
    | (apply q_not; exact rfl)))|(apply yB)|(apply yC; kernel_rfl)|(apply yE)|(apply yH)|(apply yL)
  | (apply yR; exact rfl)))
              exact ⟨rfl, ⟨[0, 1, 2, 3, 4, 5, 6, 7, 8, 9], rfl, rfl, rfl, by (repeat (first | exact trivial | refine ⟨rfl, ?_⟩))⟩⟩
          | false =>
            rw [if_neg (by decide)]
            refine YAt.ret (own1 := subO (srcB0 M D ps) (.box [bools hv]) (.box [iV f]) (.box [nats s]) (.box [iV f]) (upN hv) (f + 1) (.lp .busy none #[25] _ _ _)) (s2 := ⟨(8, nats s) :: srcEnv hv f, _⟩) rfl rfl rfl rfl (fun g => ?_) rfl (fun g => ?_) rfl rfl
            · refine AWP.toW ?_
              (repeat' (first
  | (apply W.qd; (apply q_as; (conv => lhs; whnf)))|(apply yC; kernel_rfl)
  | (apply yE)))
              exact ⟨rfl, ⟨[0, 1, 2, 3, 4, 5, 6, 7, 8, 9], rfl, rfl, rfl, by (repeat (first | exact trivial | refine ⟨rfl, ?_⟩))⟩⟩
            · refine AWP.toX ?_
              refine gen_entE (motive := fun L => AWPG (Ctx.round g) Tryz.prog Tryz.f113.ntmps 10 _ (fun e s9 => e = .ret ∧ Wk 10 s9 ⟨[], subO (srcB0 M D ps) (.box [bools hv]) (.box [iV f]) (.box [nats s]) (.box [iV f]) (upN hv) (f + 1) L⟩) ⟨(8, nats s) :: srcEnv hv f, subO (srcB0 M D ps) (.box [bools hv]) (.box [iV 0]) (.box [.d (.v (.slice none 0 0))]) (.box [iV f]) (upN hv) (f + 1) L⟩) _ fun L hL => ?_
              obtain ⟨cA, cB, hL⟩ : ∃ cA cB, L = .lp .busy none #[25] cA cB (tmpsOf (srcEnv hv f) Tryz.f113.ntmps) := ⟨_, _, hL⟩
              subst hL
              have hms : (s.map kD).length = s.length := List.length_map _
              (repeat' (first
  | (apply W.qd; (first
    | (apply q_mv; (conv => lhs; whnf))|(apply q_as; (conv => lhs; whnf))|(apply yT; (iterate 4 exact rfl))
    | (apply yV; exact rfl; exact rfl)))|(apply W.ed; (apply (e_callJ (js := []) (hcl)); (iterate 5 exact rfl); kernel_rfl; kernel_rfl))|(apply yA)|(apply yB)|(apply yC; kernel_rfl)|(apply yE)
  | (apply yG)))
              refine AWP.loopW (α := Nat) (fun j => j ≤ s.length) (fun j => ⟨[(30, iV j), (29, iV s.length), (28, nats s), (9, .osl 10 1 0 hv.length), (8, nats s), (2, .opt 0 0), (4, .opt 2 0), (5, .opt 3 0), (7, .opt 4 0)], subO (srcB0 M D ps) (.box [bools hv]) (.box [iV 0]) (.box [.d (.v (.slice none 0 0))]) (.box [iV f]) (upN hv) (f + 1) (.lp .busy none #[25] cA cB (tmpsOf (srcEnv hv f) Tryz.f113.ntmps)) ++ [.row 1 1 4 ((minusN hv (s.take j)).map tD)]⟩) (fun j => s.length - j) 0 (Nat.zero_le _) ?wkr3 fun j hj => ?_
              case wkr3 => exact ⟨[0, 1, 2, 3, 4, 5, 6, 7, 8, 9, 10], rfl, rfl, rfl, rfl, iV_eq (by rw [hms]), rfl, rfl, rfl, rfl, rfl, rfl, rfl, trivial⟩
              by_cases hjl : j < s.length
              · have hu := hup s[j] (hs1.subset (List.getElem_mem hjl))
                have hmn := minusN_length (s.take j) hv
                have hsn := minusN_snoc hv (s.take j) s[j]
                rw [← List.take_succ_eq_append_getElem hjl] at hsn
                replace hsn := Lib.hid hsn
                generalize minusN hv (s.take j) = A at *
                (repeat' (first
  | (apply W.qd; (first
    | (apply q_mv; (conv => lhs; whnf))|(apply q_as; (conv => lhs; whnf))|(apply q_lss; exact rfl; exact rfl)|(apply q_add; exact rfl; exact rfl; omega)|(apply yX; (iterate 3 exact rfl); (first | omega | (focus (simp; done))))|(apply yGb; (iterate 4 exact rfl); (first | (with_reducible exact rfl) | exact natI_spec rfl | assumption | exact (Int.toNat_of_nonneg (by omega)).symm); (first | omega | (focus (simp only [List.length_map]; omega)) | (focus (simp; done)) | (focus (simp; omega))))
    | (apply q_ix_osl0; (iterate 4 exact rfl); (first | (with_reducible exact rfl) | exact natI_spec rfl | assumption | exact (Int.toNat_of_nonneg (by omega)).symm); (first | omega | (focus (simp only [List.length_map]; omega)) | (focus (simp; done)) | (focus (simp; omega))))))|(apply W.ln; (apply l_st_rpt; (iterate 7 exact rfl); exact fun _ => rfl; (first | omega | (focus (simp only [List.length_map]; omega)) | (focus (simp; omega)))))|(apply yA)|(apply yB)|(apply yC; kernel_rfl)|(apply yE)|(apply yG)|(apply yH)|(apply yL)
  | (refine W.cond _ rfl (fun hb => ?_) (fun hb => ?_) <;> ((try simp only [hb, zA, zB]) <;> (try simp only [zC, zD, zE, zF, zG, zH, zI, zJ] at hb) <;> (try (exfalso; omega))))))
                refine ⟨j + 1, by omega, by omega, ?_⟩
                rw [hsn.out]
                exact ⟨[0, 1, 2, 3, 4, 5, 6, 7, 8, 9, 10], rfl, rfl, rfl, iV_eq (by omega), rfl, rfl, rfl, rfl, rfl, rfl, rfl, rfl, trivial⟩
              have ejl : j = s.length := by omega
              subst ejl
              rw [List.take_length]
              have hmn := minusN_length s hv
              (repeat' (first
  | (apply W.qd; (apply q_lss; exact rfl; exact rfl))|(apply yA)|(apply yB)|(apply (W.regionS 15); exact rfl; kernel_rfl)|(apply yE)|(apply yI)|(apply yK)|(apply yM)
  | (refine W.cond _ rfl (fun hb => ?_) (fun hb => ?_) <;> ((try simp only [hb, zA, zB]) <;> (try simp only [zC, zD, zE, zF, zG, zH, zI, zJ] at hb) <;> (try (exfalso; omega))))))
              refine AWP.wk ⟨[(9, bools (minusN hv s)), (8, nats s), (2, .opt 0 0), (4, .opt 2 0), (5, .opt 3 0), (7, .opt 4 0)], subO (srcB0 M D ps) (.box [bools hv]) (.box [iV 0]) (.box [.d (.v (.slice none 0 0))]) (.box [iV f]) (upN hv) (f + 1) (.lp .busy none #[25] cA cB (tmpsOf (srcEnv hv f) Tryz.f113.ntmps))⟩ ?wkf3 ?_
              case wkf3 => exact ⟨[0, 1, 2, 3, 4, 5, 6, 7, 8, 9], rfl, rfl, rfl, (frz_rowJ (i := 10) (ver := 1) (n := hv.length) (l := (minusN hv s).map tD) rfl rfl (by rw [List.length_map, hmn])).symm, rfl, rfl, rfl, rfl, rfl, trivial⟩
              have hds := hdecs s
              rw [hg] at hds
              (repeat' (first
  | (apply W.qd; (first
    | (apply (yW (hds)); exact rfl; exact rfl; (iterate 3 kernel_rfl))|(apply q_mv; (conv => lhs; whnf))|(apply yT; (iterate 4 exact rfl))|(apply yU; (iterate 4 exact rfl))
    | (apply q_not; exact rfl)))|(apply W.ln; (apply l_st_box; (iterate 6 exact rfl); (iterate 3 kernel_rfl)))|(apply yA)|(apply yB)|(apply yC; kernel_rfl)|(apply yE)|(apply yJ)|(apply yN)
  | (apply yQ; exact rfl)))
              exact ⟨rfl, ⟨[0, 1, 2, 3, 4, 5, 6, 7, 8, 9], rfl, rfl, rfl, by (repeat (first | exact trivial | refine ⟨rfl, ?_⟩))⟩⟩
        dsimp only
        (repeat' (first
  | (apply yJ)|(apply yP)
  | (apply yN)))
        exact ⟨.inl rfl, [], [iV f, nats s0], rfl, ⟨⟨2, [iV f], false, rfl, rfl, rfl, rfl⟩, ⟨3, [nats s0], false, rfl, rfl, rfl, rfl⟩, trivial⟩, AVle.tup2 (AVle.refl _) (AVle.anyS _ _), rfl⟩
    · have e4 : f = 4 := by omega
      subst e4
      have hn : (List.range 4).find? (badN dec hv) = none := by
        rw [List.find?_eq_none]
        intro g hg
        rw [hf.2 g (List.mem_range.1 hg)]; decide
      rw [hn] at hR
      obtain rfl : 4 = R := hR
      (repeat' (first
  | (apply W.qd; (apply q_lss; exact rfl; exact rfl))|(apply W.ln; (apply l_st_box; (iterate 6 exact rfl); (iterate 3 kernel_rfl)))|(apply yA)|(apply yB)|(apply yC; kernel_rfl)|(apply yE)|(apply yI)|(apply yJ)|(apply yK)|(apply yM)
  | (apply yR; exact rfl)))
      exact ⟨.inl rfl, [], [iV 4, .d (.v (.slice none 0 0))], rfl, ⟨⟨2, [iV 4], false, rfl, rfl, rfl, rfl⟩, ⟨3, [.d (.v (.slice none 0 0))], false, rfl, rfl, rfl, rfl⟩, trivial⟩, AVle.tup2 (AVle.refl _) (AVle.anyV rfl), rfl⟩
end Go.Proofs.YtcljokdiblnhiaaGreatDoor
end
section
namespace Go.Proofs.YtcljokdiblnhiaaGreatDoor
open Go.RowKit
theorem seg_get (l us : List Value) (o x : Nat) (h : o + us.length ≤ l.length) : (l.take o ++ us ++ l.drop (o + us.length))[x]? = if o ≤ x ∧ x < o + us.length then us[x - o]? else l[x]? := by
  have ht : (l.take o).length = o := by rw [List.length_take]; omega
  by_cases h1 : x < o
  · rw [if_neg (by omega), List.append_assoc, List.getElem?_append_left (by omega), List.getElem?_take, if_pos h1]
  · by_cases h2 : x < o + us.length
    · rw [if_pos ⟨by omega, h2⟩, List.append_assoc, List.getElem?_append_right (by omega), ht, List.getElem?_append_left (by omega)]
    · rw [if_neg (by omega), List.getElem?_append_right (by rw [List.length_append, ht]; omega), List.length_append, ht, List.getElem?_drop]
      congr 1
      omega
theorem setK_same {κ : List (Option Nat)} {i : Nat} {og : Option Nat} (h : κ[i]? = some og) : κ.set i og = κ := List.ext_getElem? fun j => by
  by_cases hj : j = i
  · subst hj; rw [List.getElem?_set_self (List.getElem?_eq_some_iff.1 h).1, h]
  · rw [List.getElem?_set_ne (Ne.symm hj)]
theorem row_put {F : Nat → Prop} {κ : List (Option Nat)} {w : World} {m : Nat} {own : List Ent} {i ver sz g : Nat} {e : TypeId} {l l' : List (List Dat)} {cur cur' : Array Value} (ho : OwnSat F own κ w) (hi : own[i]? = some (.row ver sz e l)) (h3 : κ[i]? = some (some g)) (h5 : w.heap[g]? = some (.cells cur e (0, 0))) (h0 : 0 < sz) (hs : cur'.size = cur.size) (hl : l'.length = l.length) (h6 : l.length * sz ≤ cur.size)
    (hr : ∀ j e', l'[j]? = some e' → e'.length = sz ∧ ∀ q y, e'[q]? = some y → ∃ u, cur'[j * sz + q]? = some u ∧ u.oneCell' = true ∧ Dat.sat (badK F κ) w y u) :
    OwnSat F (own.set i (.row ver sz e l')) κ (w.setRow g cur') ∧ Tr F m own κ w (own.set i (.row ver sz e l')) κ (w.setRow g cur') := by
  have hrow := setRow_heap w g cur cur' e (0, 0) h5
  have key := step_upd (m := m) (x' := .row ver sz e l') (og := some g) (og' := some g) (w' := w.setRow g cur') ho hi h3 rfl rfl rfl (by simp [World.setRow]) (fun b hb hne => by
        simp only [World.setRow, Array.getElem?_modify]
        rw [if_neg (fun e => hne (by rw [e]))]) (.inl rfl) (.inr rfl) (.inr ⟨rfl, rfl, rfl, hl.symm, rfl, fun g' hg' cur2 t' fz' hcur' => by
          obtain rfl : g = g' := by simpa using hg'
          rw [h5] at hcur'
          obtain ⟨rfl, rfl, rfl⟩ : cur = cur2 ∧ e = t' ∧ (0, 0) = fz' := by simpa using hcur'
          exact ⟨_, _, _, hrow, hs.symm⟩⟩) (fun hst => ⟨h0, .inr ⟨g, rfl, _, hrow, by rw [hl, hs]; exact h6, by
            rw [Dat.rowsSat_iff]
            intro j' e' hj'
            obtain ⟨h8, h9⟩ := hr j' e' hj'
            refine ⟨h8, ?_⟩
            rw [Dat.rowSat_iff]
            intro q y hq
            obtain ⟨u, q1, q2, q3⟩ := h9 q y hq
            refine ⟨u, ?_, q2, Dat.sat_wide hst.wide y q3⟩
            rw [cell_of_row _ g _ _ e (0, 0) hrow, Nat.zero_add]
            exact q1⟩⟩)
  rw [setK_same h3] at key
  exact key
theorem row_cells {F : Nat → Prop} {κ : List (Option Nat)} {w : World} {own : List Ent} {i ver sz g : Nat} {e : TypeId} {l : List (List Dat)} (ho : OwnSat F own κ w) (hi : own[i]? = some (.row ver sz e l)) (h3 : κ[i]? = some (some g)) :
    0 < sz ∧ ∃ cur, w.heap[g]? = some (.cells cur e (0, 0)) ∧ l.length * sz ≤ cur.size ∧ ∀ j e', l[j]? = some e' → e'.length = sz ∧ ∀ q y, e'[q]? = some y → ∃ u, cur[j * sz + q]? = some u ∧ u.oneCell' = true ∧ Dat.sat (badK F κ) w y u := by
  obtain ⟨h0, hent⟩ := ho.ent i _ hi
  rw [getD_some h3] at hent
  rcases hent with ⟨hxx, _⟩ | ⟨g', hg', cur, h5, h6, h7⟩
  · cases hxx
  · obtain rfl : g = g' := by simpa using hg'
    refine ⟨h0, cur, h5, h6, fun j e' hj => ?_⟩
    rw [Dat.rowsSat_iff] at h7
    obtain ⟨h8, h9⟩ := h7 j e' hj
    refine ⟨h8, fun q y hq => ?_⟩
    rw [Dat.rowSat_iff] at h9
    obtain ⟨u, q1, q2, q3⟩ := h9 q y hq
    rw [cell_of_row w g _ cur e (0, 0) h5, Nat.zero_add] at q1
    exact ⟨u, q1, q2, q3⟩
theorem row1_vals {B : Nat → Prop} {w : World} {b o : Nat} {s : List (List Dat)} (h : Dat.rowsSat B w b 1 o s) : ∃ us : List Value, us.length = s.length ∧ (∀ (j : Nat) (u : Value), us[j]? = some u → w.cell? ⟨b, o + j, none⟩ = some u) ∧ ∀ (j : Nat) (e' : List Dat), s[j]? = some e' → e'.length = 1 ∧ ∀ y, e'[0]? = some y → ∃ u, us[j]? = some u ∧ u.oneCell' = true ∧ Dat.sat B w y u := by
  rw [Dat.rowsSat_iff] at h
  have each : ∀ (j : Nat) (e' : List Dat), s[j]? = some e' → e'.length = 1 ∧ ∀ y, e'[0]? = some y → ∃ u, w.cell? ⟨b, o + j, none⟩ = some u ∧ u.oneCell' = true ∧ Dat.sat B w y u := fun j e' hj => by
    obtain ⟨h8, h9⟩ := h j e' hj
    refine ⟨h8, fun y hy => ?_⟩
    rw [Dat.rowSat_iff] at h9
    have := h9 0 y hy
    rwa [Nat.mul_one, Nat.add_zero] at this
  refine ⟨(List.range s.length).map fun i => ((w.cell? ⟨b, o + i, none⟩).getD undef), by simp, fun j u hu => ?_, fun j e' hj => ?_⟩
  · have hlt : j < s.length := by have := (List.getElem?_eq_some_iff.1 hu).1; simpa using this
    obtain ⟨h8, h9⟩ := each j _ (List.getElem?_eq_getElem hlt)
    obtain ⟨u', q1, _, _⟩ := h9 _ (List.getElem?_eq_getElem (by omega))
    rw [List.getElem?_map, List.getElem?_range hlt] at hu
    simp only [Option.map_some, q1, Option.getD_some, Option.some.injEq] at hu
    subst hu; exact q1
  · have hlt : j < s.length := (List.getElem?_eq_some_iff.1 hj).1
    obtain ⟨h8, h9⟩ := each j e' hj
    refine ⟨h8, fun y hy => ?_⟩
    obtain ⟨u, q1, q2, q3⟩ := h9 y hy
    exact ⟨u, by rw [List.getElem?_map, List.getElem?_range hlt]; simp [q1], q2, q3⟩
theorem vals1_one {B : Nat → Prop} {w : World} {s : List (List Dat)} {us : List Value} (hl : us.length = s.length) (h : ∀ (j : Nat) (e' : List Dat), s[j]? = some e' → e'.length = 1 ∧ ∀ y, e'[0]? = some y → ∃ u, us[j]? = some u ∧ u.oneCell' = true ∧ Dat.sat B w y u) : ∀ u ∈ us, u.oneCell' = true := fun u hu => by
  obtain ⟨j, hj⟩ := List.mem_iff_getElem?.1 hu
  have hlt : j < s.length := by rw [← hl]; exact (List.getElem?_eq_some_iff.1 hj).1
  obtain ⟨h8, h9⟩ := h j _ (List.getElem?_eq_getElem hlt)
  obtain ⟨u', q1, q2, _⟩ := h9 _ (List.getElem?_eq_getElem (by omega))
  rw [hj] at q1
  obtain rfl : u = u' := by simpa using q1
  exact q2
section
variable {P : Program} {m : Nat} {env : List (Nat × AV)} {own : List Ent} {dst : Option Tmp} {ty : TypeId} {pos : String} {af : Array Edge} {gd : Option (Nat × Bool)}
theorem sat_slice_own {F : Nat → Prop} {κ : List (Option Nat)} {w : World} {p ver q n sz : Nat} {e : TypeId} {l : List (List Dat)} {u : Value} (hp : own[p]? = some (.row ver sz e l)) (h : AV.sat F own κ w (.osl p ver q n) u) (hn : 0 < n) : q + n ≤ l.length ∧ ∃ g c, κ[p]? = some (some g) ∧ u = .slice (some ⟨g, q * sz, none⟩) n c := by
  rw [AV.sat] at h
  obtain ⟨h1, A, c, h2, h3, h4, h5⟩ := h.2 sz e l hp
  rcases h5 (.inl hn) with ⟨g, g1, rfl, _⟩ | ⟨_, _, hc⟩
  · exact ⟨h1, g, c, g1, h2⟩
  · omega
theorem copy_fin {F : Nat → Prop} {κ : List (Option Nat)} {w : World} {p ver q n k g : Nat} {e : TypeId} {l s : List (List Dat)} {cs : List Value} {cur : Array Value} (ho : OwnSat F own κ w) (hp : own[p]? = some (.row ver 1 e l)) (hg : κ[p]? = some (some g)) (h5 : w.heap[g]? = some (.cells cur e (0, 0))) (hqn : q + n ≤ l.length) (hk : k ≤ n) (hks : k ≤ s.length) (hcs : cs.length = k)
    (hv : ∀ j e', s[j]? = some e' → j < k → e'.length = 1 ∧ ∀ y, e'[0]? = some y → ∃ u, cs[j]? = some u ∧ u.oneCell' = true ∧ Dat.sat (badK F κ) w y u) :
    OwnSat F (own.set p (.row ver 1 e (l.take q ++ s.take k ++ l.drop (q + k)))) κ (w.setRow g (cur.toList.take q ++ cs ++ cur.toList.drop (q + cs.length)).toArray) ∧ Tr F m own κ w (own.set p (.row ver 1 e (l.take q ++ s.take k ++ l.drop (q + k)))) κ (w.setRow g (cur.toList.take q ++ cs ++ cur.toList.drop (q + cs.length)).toArray) := by
  obtain ⟨h0, cur2, h5', h6, h7⟩ := row_cells ho hp hg
  obtain rfl : cur = cur2 := by rw [h5] at h5'; simpa using h5'
  have hcl : cur.toList.length = cur.size := Array.length_toList
  rw [Nat.mul_one] at h6
  have hlt : (l.take q).length = q := by rw [List.length_take]; omega
  have hls : (s.take k).length = k := by rw [List.length_take]; omega
  refine row_put (l' := l.take q ++ s.take k ++ l.drop (q + k)) ho hp hg h5 h0 (by simp; omega) (by simp; omega) (by rw [Nat.mul_one]; exact h6) fun j e' hj => ?_
  have hget : ∀ x, (cur.toList.take q ++ cs ++ cur.toList.drop (q + cs.length)).toArray[x]? = if q ≤ x ∧ x < q + k then cs[x - q]? else cur[x]? := fun x => by
    have ec : cur.toList[x]? = cur[x]? := Array.getElem?_toList
    rw [List.getElem?_toArray, seg_get _ _ _ _ (by omega), hcs, ec]
  have old : ∀ j' e2, l[j']? = some e2 → ¬ (q ≤ j' ∧ j' < q + k) → e2.length = 1 ∧ ∀ q' y, e2[q']? = some y → ∃ u, (cur.toList.take q ++ cs ++ cur.toList.drop (q + cs.length)).toArray[j' * 1 + q']? = some u ∧ u.oneCell' = true ∧ Dat.sat (badK F κ) w y u := fun j' e2 h hn => by
    obtain ⟨h8, h9⟩ := h7 j' e2 h
    refine ⟨h8, fun q' y hq => ?_⟩
    have hq0 : q' = 0 := by have := (List.getElem?_eq_some_iff.1 hq).1; omega
    subst hq0
    obtain ⟨u, q1, q2, q3⟩ := h9 0 y hq
    refine ⟨u, ?_, q2, q3⟩
    rw [hget, if_neg (by omega)]; exact q1
  by_cases h1 : j < q
  · rw [List.append_assoc, List.getElem?_append_left (by omega), List.getElem?_take, if_pos h1] at hj
    exact old j e' hj (by omega)
  · by_cases h2 : j < q + k
    · rw [List.append_assoc, List.getElem?_append_right (by omega), hlt, List.getElem?_append_left (by omega), List.getElem?_take, if_pos (by omega)] at hj
      obtain ⟨h8, h9⟩ := hv _ _ hj (by omega)
      refine ⟨h8, fun q' y hq => ?_⟩
      have hq0 : q' = 0 := by have := (List.getElem?_eq_some_iff.1 hq).1; omega
      subst hq0
      obtain ⟨u, q1, q2, q3⟩ := h9 y hq
      refine ⟨u, ?_, q2, q3⟩
      rw [hget, Nat.mul_one, Nat.add_zero, if_pos ⟨by omega, h2⟩]; exact q1
    · rw [List.getElem?_append_right (by rw [List.length_append]; omega), List.length_append, hlt, hls, List.getElem?_drop, show q + k + (j - (q + k)) = j by omega] at hj
      exact old j e' hj (by omega)
theorem info_one {t e : TypeId} {by' : Nat} {z : Value} (ht : slInfo P t = some (e, 1, by', z)) : P.underlying t = some (.slice e) ∧ (P.info? e).map (·.size) = some 1 := by
  obtain ⟨h1, i, h2, h3, _⟩ := slInfo_spec ht
  exact ⟨h1, by rw [h2]; simp [h3]⟩
theorem e_copyD {t t2 e e' : TypeId} {by' : Nat} {z : Value} {x y : Operand} {p ver q n : Nat} {l s : List (List Dat)} {own' : List Ent} (k : Nat) (hx : lookO env x = .osl p ver q n) (hp : own[p]? = some (.row ver 1 e l)) (hy : lookO env y = .d (.sl 1 s)) (ht : slInfo P t = some (e', 1, by', z)) (hk : k = min s.length n) (h0 : 0 < k) (ho' : setF own p (.row ver 1 e (l.take q ++ s.take k ++ l.drop (q + k))) = some own') :
    Eff P m ⟨dst, .call ⟨.builtin .copy, #[x, y], #[t, t2]⟩, ty, pos, af, gd⟩ env own [p] (iV k) own' := by
  rw [setF_spec ho']
  exact Eff.mk (set_same _ p) fun F κ a w hs ho hm => by
    have hx1 := hs x (by simp [Op.operands, Call.operands]); rw [hx] at hx1
    have hy1 := hs y (by simp [Op.operands, Call.operands]); rw [hy, AV.sat, Dat.sat] at hy1
    obtain ⟨h1, g, c, hg, hxv⟩ := sat_slice_own hp hx1 (by omega)
    obtain ⟨A, c2, hyv, _, _, h4⟩ := hy1
    obtain ⟨b, o, rfl, hb1, hb2, hb3⟩ := h4 (by omega)
    obtain ⟨h00, cur, h5, h6, h7⟩ := row_cells ho hp hg
    obtain ⟨us, hul, hv2, hv1⟩ := row1_vals hb3
    obtain ⟨hu, hsz⟩ := info_one ht
    rw [Nat.mul_one] at hxv
    have hct : (us.take k).length = k := by rw [List.length_take]; omega
    have hrun := run_copy_row (P := P) w t t2 ty e' g q n c ⟨b, o, none⟩ s.length c2 cur e (us.take k) hu hsz h5 (by rw [hct, hk]) (fun j v hj => by
      rw [List.getElem?_take] at hj
      split at hj
      · rw [add_none]; exact hv2 j v hj
      · cases hj) (by rw [hct]; omega) (fun v hv => vals1_one hul hv1 v (List.mem_of_mem_take hv))
    have hex : (execOp a.eval ⟨dst, .call ⟨.builtin .copy, #[x, y], #[t, t2]⟩, ty, pos, af, gd⟩).run P w = .ok (.value (goInt k)) (w.setRow g (cur.toList.take q ++ us.take k ++ cur.toList.drop (q + (us.take k).length)).toArray) := by
      rw [exec_builtin]
      simp only [builtin, List.map_toArray, List.map_cons, List.map_nil]
      rw [hxv, hyv]
      have := exec_v hrun
      rw [hct] at this ⊢
      exact this
    rw [hex]
    obtain ⟨r1, r2⟩ := copy_fin (m := m) (n := n) (s := s) ho hp hg h5 h1 (by omega) (by omega) hct (fun j e2 hj hjk => by
      obtain ⟨h8, h9⟩ := hv1 j e2 hj
      refine ⟨h8, fun y2 hy2 => ?_⟩
      obtain ⟨u, q1, q2, q3⟩ := h9 y2 hy2
      exact ⟨u, by rw [List.getElem?_take, if_pos hjk]; exact q1, q2, q3⟩)
    exact ⟨κ, by rw [AV.sat, Dat.sat]; rfl, r1, r2⟩
theorem e_copyO {t t2 e e' : TypeId} {by' : Nat} {z : Value} {x y : Operand} {p ver q n q2 n2 : Nat} {l : List (List Dat)} {own' : List Ent} (k : Nat) (hx : lookO env x = .osl p ver q n) (hp : own[p]? = some (.row ver 1 e l)) (hy : lookO env y = .osl p ver q2 n2) (ht : slInfo P t = some (e', 1, by', z)) (hk : k = min n2 n) (h0 : 0 < k) (ho' : setF own p (.row ver 1 e (l.take q ++ (l.drop q2).take k ++ l.drop (q + k))) = some own') :
    Eff P m ⟨dst, .call ⟨.builtin .copy, #[x, y], #[t, t2]⟩, ty, pos, af, gd⟩ env own [p] (iV k) own' := by
  rw [setF_spec ho']
  exact Eff.mk (set_same _ p) fun F κ a w hs ho hm => by
    have hx1 := hs x (by simp [Op.operands, Call.operands]); rw [hx] at hx1
    have hy1 := hs y (by simp [Op.operands, Call.operands]); rw [hy] at hy1
    obtain ⟨h1, g, c, hg, hxv⟩ := sat_slice_own hp hx1 (by omega)
    obtain ⟨h2, g2, c2, hg2, hyv⟩ := sat_slice_own hp hy1 (by omega)
    obtain rfl : g = g2 := by rw [hg] at hg2; simpa using hg2
    obtain ⟨h00, cur, h5, h6, h7⟩ := row_cells ho hp hg
    rw [Nat.mul_one] at h6
    obtain ⟨hu, hsz⟩ := info_one ht
    rw [Nat.mul_one] at hxv hyv
    have hcl : cur.toList.length = cur.size := Array.length_toList
    have hct : ((cur.toList.drop q2).take k).length = k := by rw [List.length_take, List.length_drop]; omega
    have hgc : ∀ j u, ((cur.toList.drop q2).take k)[j]? = some u → cur[q2 + j]? = some u := fun j u hj => by
      rw [List.getElem?_take] at hj
      split at hj
      · rw [List.getElem?_drop] at hj
        have ec : cur.toList[q2 + j]? = cur[q2 + j]? := Array.getElem?_toList
        rw [← ec]; exact hj
      · cases hj
    have hv : ∀ (j : Nat) (e2 : List Dat), (l.drop q2)[j]? = some e2 → j < k → e2.length = 1 ∧ ∀ y2, e2[0]? = some y2 → ∃ u, ((cur.toList.drop q2).take k)[j]? = some u ∧ u.oneCell' = true ∧ Dat.sat (badK F κ) w y2 u := fun j e2 hj hjk => by
      rw [List.getElem?_drop] at hj
      obtain ⟨h8, h9⟩ := h7 _ e2 hj
      refine ⟨h8, fun y2 hy2 => ?_⟩
      obtain ⟨u, q1, q3, q4⟩ := h9 0 y2 hy2
      rw [Nat.mul_one, Nat.add_zero] at q1
      have ec : cur.toList[q2 + j]? = cur[q2 + j]? := Array.getElem?_toList
      exact ⟨u, by rw [List.getElem?_take, if_pos hjk, List.getElem?_drop, ec]; exact q1, q3, q4⟩
    have hone : ∀ v ∈ (cur.toList.drop q2).take k, v.oneCell' = true := fun v hvm => by
      obtain ⟨j, hj⟩ := List.mem_iff_getElem?.1 hvm
      have hjk : j < k := by have := (List.getElem?_eq_some_iff.1 hj).1; omega
      obtain ⟨h8, h9⟩ := hv j _ (List.getElem?_eq_getElem (show j < (l.drop q2).length by rw [List.length_drop]; omega)) hjk
      obtain ⟨u, q1, q3, _⟩ := h9 _ (List.getElem?_eq_getElem (by omega))
      rw [hj] at q1
      obtain rfl : v = u := by simpa using q1
      exact q3
    have hrun := run_copy_row (P := P) w t t2 ty e' g q n c ⟨g, q2, none⟩ n2 c2 cur e ((cur.toList.drop q2).take k) hu hsz h5 (by rw [hct, hk]) (fun j v hj => by
      rw [add_none, cell_of_row w g _ cur e (0, 0) h5]
      exact hgc j v hj) (by rw [hct]; omega) hone
    have hex : (execOp a.eval ⟨dst, .call ⟨.builtin .copy, #[x, y], #[t, t2]⟩, ty, pos, af, gd⟩).run P w = .ok (.value (goInt k)) (w.setRow g (cur.toList.take q ++ (cur.toList.drop q2).take k ++ cur.toList.drop (q + ((cur.toList.drop q2).take k).length)).toArray) := by
      rw [exec_builtin]
      simp only [builtin, List.map_toArray, List.map_cons, List.map_nil]
      rw [hxv, hyv]
      have := exec_v hrun
      rw [hct] at this ⊢
      exact this
    rw [hex]
    obtain ⟨r1, r2⟩ := copy_fin (m := m) (n := n) (s := l.drop q2) ho hp hg h5 h1 (by omega) (by rw [List.length_drop]; omega) hct hv
    exact ⟨κ, by rw [AV.sat, Dat.sat]; rfl, r1, r2⟩
theorem e_copyDm {t t2 e e' : TypeId} {by' : Nat} {z : Value} {x y : Operand} {p ver q n : Nat} {l s l' : List (List Dat)} {own' : List Ent} (k : Nat) (hx : lookO env x = .osl p ver q n) (hp : own[p]? = some (.row ver 1 e l)) (hy : lookO env y = .d (.sl 1 s)) (ht : slInfo P t = some (e', 1, by', z)) (hk : k = min s.length n) (h0 : 0 < k) (hl : l.take q ++ s.take k ++ l.drop (q + k) = l') (ho' : setF own p (.row ver 1 e l') = some own') :
    Eff P m ⟨dst, .call ⟨.builtin .copy, #[x, y], #[t, t2]⟩, ty, pos, af, gd⟩ env own [p] (iV k) own' := by
  subst hl
  exact e_copyD k hx hp hy ht hk h0 ho'
theorem e_copyOm {t t2 e e' : TypeId} {by' : Nat} {z : Value} {x y : Operand} {p ver q n q2 n2 : Nat} {l l' : List (List Dat)} {own' : List Ent} (k : Nat) (hx : lookO env x = .osl p ver q n) (hp : own[p]? = some (.row ver 1 e l)) (hy : lookO env y = .osl p ver q2 n2) (ht : slInfo P t = some (e', 1, by', z)) (hk : k = min n2 n) (h0 : 0 < k) (hl : l.take q ++ (l.drop q2).take k ++ l.drop (q + k) = l') (ho' : setF own p (.row ver 1 e l') = some own') :
    Eff P m ⟨dst, .call ⟨.builtin .copy, #[x, y], #[t, t2]⟩, ty, pos, af, gd⟩ env own [p] (iV k) own' := by
  subst hl
  exact e_copyO k hx hp hy ht hk h0 ho'
end
end Go.Proofs.YtcljokdiblnhiaaGreatDoor
end
section
namespace Go.Proofs.YtcljokdiblnhiaaGreatDoor
open Go.Shelf Go.RowKit
def layRepeat_ren : Go.Shelf.Ren := ⟨fun | 105 => 59 | 212 => 114 | 99 => 122 | 165 => 123 | 166 => 124 | 170 => 125 | 169 => 126 | 263 => 167 | 264 => 168 | 206 => 172 | 240 => 173 | 241 => 174 | 276 => 208 | 277 => 209 | n => n, fun | 9 => 9 | 3 => 3 | 4 => 4 | 20 => 20 | 0 => 0 | 46 => 185 | 109 => 186 | 5 => 5 | 72 => 194 | 76 => 198 | 51 => 239 | 146 => 240 | 53 => 242 | 148 => 243 | 70 => 192 | 37 => 173 | 75 => 197 | 127 => 245 | 164 => 270 | 80 => 201 | n => n, fun | n => n⟩
theorem layRepeat : Go.Proofs.Lays.n105 Tryz.prog layRepeat_ren := {
  mixed := by kernel_rfl
  f99 := Tryz.func122.trans (congrArg some (by kernel_rfl))
  f105 := Tryz.func59.trans (congrArg some (by kernel_rfl))
  f165 := Tryz.func123.trans (congrArg some (by kernel_rfl))
  f166 := Tryz.func124.trans (congrArg some (by kernel_rfl))
  f169 := Tryz.func126.trans (congrArg some (by kernel_rfl))
  f170 := Tryz.func125.trans (congrArg some (by kernel_rfl))
  f206 := Tryz.func172.trans (congrArg some (by kernel_rfl))
  f212 := Tryz.func114.trans (congrArg some (by kernel_rfl))
  f240 := Tryz.func173.trans (congrArg some (by kernel_rfl))
  f241 := Tryz.func174.trans (congrArg some (by kernel_rfl))
  f263 := Tryz.func167.trans (congrArg some (by kernel_rfl))
  f264 := Tryz.func168.trans (congrArg some (by kernel_rfl))
  f276 := Tryz.func208.trans (congrArg some (by kernel_rfl))
  f277 := Tryz.func209.trans (congrArg some (by kernel_rfl))
  t0 := Tryz.underlying0
  a0 := Tryz.isAgg0
  z0 := Tryz.sizeOf0
  v0 := Tryz.zeroValue0
  t3 := Tryz.underlying3
  a3 := Tryz.isAgg3
  z3 := Tryz.sizeOf3
  v3 := Tryz.zeroValue3
  t4 := Tryz.underlying4
  a4 := Tryz.isAgg4
  z4 := Tryz.sizeOf4
  v4 := Tryz.zeroValue4
  t5 := Tryz.underlying5
  a5 := Tryz.isAgg5
  z5 := Tryz.sizeOf5
  v5 := Tryz.zeroValue5
  t9 := Tryz.underlying9
  a9 := Tryz.isAgg9
  z9 := Tryz.sizeOf9
  v9 := Tryz.zeroValue9
  t20 := Tryz.underlying20
  a20 := Tryz.isAgg20
  z20 := Tryz.sizeOf20
  v20 := Tryz.zeroValue20
  t37 := Tryz.underlying173
  a37 := Tryz.isAgg173
  z37 := Tryz.sizeOf173
  v37 := Tryz.zeroValue173
  t46 := Tryz.underlying185
  a46 := Tryz.isAgg185
  z46 := Tryz.sizeOf185
  v46 := Tryz.zeroValue185
  t51 := Tryz.underlying239
  a51 := Tryz.isAgg239
  z51 := Tryz.sizeOf239
  v51 := Tryz.zeroValue239
  t53 := Tryz.underlying242
  a53 := Tryz.isAgg242
  z53 := Tryz.sizeOf242
  v53 := Tryz.zeroValue242
  t70 := Tryz.underlying192
  a70 := Tryz.isAgg192
  z70 := Tryz.sizeOf192
  v70 := Tryz.zeroValue192
  t72 := Tryz.underlying194
  a72 := Tryz.isAgg194
  z72 := Tryz.sizeOf194
  v72 := Tryz.zeroValue194
  t75 := Tryz.underlying197
  a75 := Tryz.isAgg197
  z75 := Tryz.sizeOf197
  v75 := Tryz.zeroValue197
  t76 := Tryz.underlying198
  a76 := Tryz.isAgg198
  z76 := Tryz.sizeOf198
  v76 := Tryz.zeroValue198
  t109 := Tryz.underlying186
  a109 := Tryz.isAgg186
  z109 := Tryz.sizeOf186
  v109 := Tryz.zeroValue186
  t127 := Tryz.underlying245
  a127 := Tryz.isAgg245
  z127 := Tryz.sizeOf245
  v127 := Tryz.zeroValue245
  t146 := Tryz.underlying240
  a146 := Tryz.isAgg240
  z146 := Tryz.sizeOf240
  v146 := Tryz.zeroValue240
  t148 := Tryz.underlying243
  a148 := Tryz.isAgg243
  z148 := Tryz.sizeOf243
  v148 := Tryz.zeroValue243
  t164 := Tryz.underlying270
  a164 := Tryz.isAgg270
  z164 := Tryz.sizeOf270
  v164 := Tryz.zeroValue270 }
abbrev mul_ren : Ren := layRepeat_ren
theorem mulLay : Go.Proofs.Lays.n212 Tryz.prog mul_ren := { layRepeat with }
end Go.Proofs.YtcljokdiblnhiaaGreatDoor
end
section
namespace Go.Proofs.YtcljokdiblnhiaaGreatDoor
open Go.Shelf Go.RowKit
theorem extra_repeat : Builder.Extra Tryz.prog layRepeat_ren where
  sizeBuilder := by kernel_rfl
  liesBuilder := by kernel_rfl
  t5 := layRepeat.t5
  a5 := layRepeat.a5
  z5 := layRepeat.z5
  v5 := layRepeat.v5
  infoByte := by kernel_rfl
  cellsByte := by kernel_rfl
  sizeByte := by kernel_rfl
  neB5 := by decide
theorem A_zero : ACalls Tryz.prog 59 [.d (.v (.string ⟨#[0]⟩)), iV 32] [] (bS (List.replicate 32 0)) [] :=
  acalls_of_exact rfl fun w => Any.strings_Repeat layRepeat extra_repeat ⟨#[0]⟩ 32 w (by omega) (by decide)
end Go.Proofs.YtcljokdiblnhiaaGreatDoor
end
section
namespace Go.Proofs.YtcljokdiblnhiaaGreatDoor
open Go.RowKit
set_option maxHeartbeats 4000000
set_option maxRecDepth 100000
theorem ACalls.ler {P : Program} {f : FuncId} {args : List AV} {r r' : AV} {own own' : List Ent} (h : ACalls P f args own r own') (hle : AVle r r') : ACalls P f args own r' own' := fun F κ w vs ho hsat => (h F κ w vs ho hsat).mono fun e w' ⟨v, κ', h1, h2, h3, h4⟩ => ⟨v, κ', h1, hle _ _ _ _ _ h2, h3, h4⟩
theorem AVle.tupV (a b : Value) : AVle (.d (.v (.tuple #[a, b]))) (.tup [.d (.v a), .d (.v b)]) := fun F own κ w u hs => by
  rw [sat_v] at hs
  subst hs
  rw [AV.sat]
  exact ⟨_, rfl, by simp [AV.satL, sat_v]⟩
theorem A_bmul {x y : Nat} (h : x * y < 18446744073709551616) (hx : x < 18446744073709551616) (hy : y < 18446744073709551616) : ACalls Tryz.prog 114 [.d (.v (.int .u64 x)), .d (.v (.int .u64 y))] [] (.tup [.d (.v (.int .u64 (0 : Nat))), .d (.v (.int .u64 (x * y : Nat)))]) [] := by
  refine ACalls.ler (r := .d (.v (.tuple #[.int .u64 (0 : Nat), .int .u64 (x * y : Nat)]))) ?_ (AVle.tupV _ _)
  refine acalls_of_exact rfl fun w => ?_
  have := Go.Proofs.Any.bits_Mul mulLay x y hx hy w
  rw [Nat.div_eq_of_lt h, Nat.mod_eq_of_lt h] at this
  exact this.mono fun e w' ⟨h1, h2⟩ => ⟨h1, h2 ▸ Below.refl _ _⟩
section
variable {P : Program} {m : Nat} {env : List (Nat × AV)} {own : List Ent} {dst : Option Tmp} {ty : TypeId} {pos : String} {af : Array Edge} {gd : Option (Nat × Bool)}
theorem q_convU {src dst' : TypeId} {x : Operand} {k : IntKind} {n : Int} {v : Nat} (hx : lookO env x = .d (.v (.int k n))) (hs : (P.underlying src).isSome = true) (hd : isInt P dst' .u64 = true) (hn : n = (v : Int)) (h : v < 18446744073709551616) :
    Quiet P m ⟨dst, .convert src dst' x, ty, pos, af, gd⟩ env own [] (.d (.v (.int .u64 (v : Int)))) := by
  have := q_conv (P := P) (m := m) (env := env) (own := own) (dst := dst) (ty := ty) (pos := pos) (af := af) (gd := gd) (src := src) .u64 hs hd hx
  rwa [hn, capK_wrap (k := .u64) h] at this
end
def repT (w n : Nat) : List Bool := List.replicate n true ++ List.replicate (w - n) false
theorem rep_first {w : Nat} (h : 1 ≤ w) : ((List.replicate w false).map tD).take 0 ++ ([true].map tD).take 1 ++ ((List.replicate w false).map tD).drop (0 + 1) = (repT w 1).map tD := by
  unfold repT
  simp
theorem rep_step {w n : Nat} (h : 1 ≤ n) (hl : n < w) : ((repT w n).map tD).take n ++ (((repT w n).map tD).drop 0).take (min n (w - n)) ++ ((repT w n).map tD).drop (n + min n (w - n)) = (repT w (n + min n (w - n))).map tD := by
  generalize hk : min n (w - n) = k
  have a1 : (repT w n).take n = List.replicate n true := List.take_left' (by simp)
  have a2 : ((repT w n).drop 0).take k = List.replicate k true := by
    unfold repT
    rw [List.drop_zero, List.take_append_of_le_length (by simp; omega), List.take_replicate, Nat.min_eq_left (by omega)]
  have a3 : (repT w n).drop (n + k) = List.replicate (w - (n + k)) false := by
    unfold repT
    rw [List.drop_append]
    simp
    omega
  rw [← List.map_take, ← List.map_drop, ← List.map_drop, ← List.map_take, a1, a2, a3, ← List.map_append, ← List.map_append, List.replicate_append_replicate]
  rfl
attribute [local irreducible] Quiet Eff OpOk AWPG ACont ABlock ACalls AGoto
theorem A_repeatT {w : Nat} (h1 : 1 ≤ w) (hw : w ≤ 1000000) : ACalls Tryz.prog 55 [bools [true], iV w] [] (bools (List.replicate w true)) [] := by
  refine acalls_of_body Tryz.func55 rfl (Nat.le_of_ble_eq_true rfl) ?_
  have hm := A_bmul (x := 1) (y := w) (by omega) (by omega) (by omega)
  rw [Nat.one_mul] at hm
  have hx : (([true] : List Bool).map tD).length = 1 := rfl
  have hT : ∀ n, (repT w n).length = n + (w - n) := fun n => by unfold repT; simp
  (repeat' (first
  | (apply yFb; exact rfl; exact rfl)
  | (apply W.qd; (first
    | (apply (yW (hm)); exact rfl; exact rfl; (iterate 3 kernel_rfl))
    | ((apply q_convU; (iterate 3 exact rfl); with_reducible exact rfl; omega))|(apply q_mv; (conv => lhs; whnf))|(apply q_as; (conv => lhs; whnf))|(apply q_lss; exact rfl; exact rfl)|(apply q_gtr; exact rfl; exact rfl)|(apply yAb; exact rfl; exact rfl)|(apply yV; exact rfl; exact rfl)|(apply (yDb (u := .d _)); exact rfl; exact rfl)
    | (apply q_convI; (iterate 3 exact rfl); omega)))|(apply W.ed; ((apply (e_makeG (f := tD) false); (iterate 10 exact rfl); omega)))|(apply yA)|(apply yB)|(apply (W.regionS 7); exact rfl; kernel_rfl)|(apply yE)|(apply yH)|(apply yR; exact rfl)
  | (refine W.cond _ rfl (fun hb => ?_) (fun hb => ?_) <;> ((try simp only [hb, zA, zB]) <;> (try simp only [zC, zD, zE, zF, zG, zH, zI, zJ] at hb) <;> (try (exfalso; omega))))))
  (repeat' (first
  | (apply W.qd; (first
    | (apply q_mv; (conv => lhs; whnf))
    | (apply q_as; (conv => lhs; whnf))))|(apply W.ed; ((exact e_copyDm 1 rfl rfl rfl rfl (show 1 = min ([true].map tD).length w by simp; omega) (by omega) (rep_first h1) rfl)))|(apply yA)|(apply yB)|(apply yC; kernel_rfl)|(apply yE)
  | (apply yG)))
  refine AWP.loopW (α := Nat) (fun n => 1 ≤ n ∧ n ≤ w) (fun n => ⟨[(8, iV n), (7, .osl 0 0 0 w)], [.row 0 1 4 ((repT w n).map tD)]⟩) (fun n => w - n) 1 ⟨Nat.le_refl _, h1⟩ ⟨[0], rfl, rfl, rfl, by (repeat (first | exact trivial | refine ⟨rfl, ?_⟩))⟩ fun n hn => ?_
  obtain ⟨hn1, hn2⟩ := hn
  by_cases hlt : n < w
  · have hst := rep_step hn1 hlt
    have hTn := hT n
    generalize hk : min n (w - n) = k at *
    (repeat' (first
  | (apply W.qd; (first
    | (apply q_mv; (conv => lhs; whnf))|(apply q_as; (conv => lhs; whnf))|(apply q_lss; exact rfl; exact rfl)|(apply q_add; exact rfl; exact rfl; omega)|(apply q_len_osl; (iterate 3 exact rfl))
    | (apply q_slc_osl; (iterate 3 exact rfl); (first | exact ⟨_, _, rfl, rfl⟩ | exact ⟨_, _, rfl, natI_spec rfl⟩ | exact ⟨_, _, rfl, (Int.toNat_of_nonneg (by omega)).symm⟩ | exact rfl); (first | exact ⟨_, _, rfl, rfl⟩ | exact ⟨_, _, rfl, natI_spec rfl⟩ | exact ⟨_, _, rfl, (Int.toNat_of_nonneg (by omega)).symm⟩ | exact rfl); omega; omega)))|(apply W.ed; ((exact e_copyOm k rfl rfl rfl rfl (show k = min (n - 0) (w - n) by omega) (by omega) (by simp only [Nat.zero_add]; exact hst) rfl)))|(apply yA)|(apply yB)|(apply yC; kernel_rfl)|(apply yD; exact rfl; kernel_rfl)|(apply yE)|(apply yF; kernel_rfl)|(apply yG)|(apply yH)|(apply yL)
  | (refine W.cond _ rfl (fun hb => ?_) (fun hb => ?_) <;> ((try simp only [hb, zA, zB]) <;> (try simp only [zC, zD, zE, zF, zG, zH, zI, zJ] at hb) <;> (try (exfalso; omega))))))
    refine ⟨n + k, ⟨by omega, by omega⟩, by omega, [0], rfl, rfl, rfl, iV_eq (by omega), rfl, trivial⟩
  · have e : n = w := by omega
    subst e
    have e2 : repT n n = List.replicate n true := by unfold repT; simp
    rw [e2]
    (repeat' (first
  | (apply W.qd; (first
    | (apply q_mv; (conv => lhs; whnf))|(apply q_as; (conv => lhs; whnf))|(apply q_lss; exact rfl; exact rfl)
    | (apply q_len_osl; (iterate 3 exact rfl))))|(apply yA)|(apply yB)|(apply yC; kernel_rfl)|(apply yE)|(apply yI)|(apply yJ)|(apply yK)|(apply yM)
  | (refine W.cond _ rfl (fun hb => ?_) (fun hb => ?_) <;> ((try simp only [hb, zA, zB]) <;> (try simp only [zC, zD, zE, zF, zG, zH, zI, zJ] at hb) <;> (try (exfalso; omega))))))
    exact Ends.osl rfl rfl (by simp) rfl
end Go.Proofs.YtcljokdiblnhiaaGreatDoor
end
section
namespace Go.Proofs.YtcljokdiblnhiaaGreatDoor
open Go.RowKit
set_option maxHeartbeats 4000000
set_option maxRecDepth 100000
def decZ (M D : Int) (par : List (List Int)) : List Bool → Bool := decN M.toNat D.toNat (par.map fun r => r.map Int.toNat)
def leftC (nm : List Nat) (M D : Int) (par : List (List Int)) (dom : Int) (hv : List Bool) : Int := if chkC nm M D par dom = true ∧ (hv.length : Int) = D + (par.length : Int) then leftN (decZ M D par) hv else -1
def lossC (nm : List Nat) (M D : Int) (par : List (List Int)) (dom : Int) : Int := leftC nm M D par dom (List.replicate (D + (par.length : Int)).toNat true)
structure FIn (nm : List Nat) (D : Int) (par : List (List Int)) : Prop where
  n : isB nm
  l : nm.length < 9223372036854775808
  d : 0 ≤ D ∧ D ≤ 1000000
  p : par.length ≤ 1000000
theorem toZ_back (ps : List (List Nat)) : ((toZ ps).map fun r => r.map Int.toNat) = ps := by
  unfold toZ
  rw [List.map_map]
  have : ((fun r : List Int => r.map Int.toNat) ∘ fun r : List Nat => r.map fun n : Nat => (n : Int)) = id := by
    funext r
    simp [Function.comp_def]
  rw [this]; simp
theorem decZ_nat (M D : Nat) (ps : List (List Nat)) : decZ M D (toZ ps) = decN M D ps := by
  unfold decZ
  rw [toZ_back]; rfl
theorem chk_code {nm : List Nat} {M D dom : Int} {par : List (List Int)} (h : chkC nm M D par dom = true) : ∃ (m d : Nat) (ps : List (List Nat)), M = m ∧ D = d ∧ par = toZ ps ∧ CodeOk m d ps := ok_valid (chk_valid h)
attribute [local irreducible] Quiet Eff OpOk AWPG ACont ABlock ACalls AGoto
theorem A_dvalid {nm : List Nat} {M D dom : Int} {par : List (List Int)} {n : Nat} (h : FIn nm D par) : ACalls Tryz.prog 112 [cdF nm M D par dom, iV n] [] (bV (decide (chkC nm M D par dom = true ∧ (n : Int) = D + (par.length : Int)))) [] := by
  obtain ⟨e, hc, he⟩ := A_lcheck (M := M) (dom := dom) h.n h.l h.d h.p
  refine acalls_of_body Tryz.func112 rfl (Nat.le_of_ble_eq_true rfl) ?_
  by_cases hk : chkC nm M D par dom = true
  · obtain rfl : e = 0 := he.2 hk
    have hV := chk_valid hk
    obtain ⟨m, d, ps, rfl, rfl, rfl, hok⟩ := chk_code hk
    have hw := (A_ewidth (M := m) (D := d) (code_in hok)).cdF (nm := nm) (dom := dom)
    rw [if_pos hV] at hw
    (repeat' (first
  | (apply yFb; exact rfl; exact rfl)
  | (apply W.qd; (first
    | (apply (yW (hc)); exact rfl; exact rfl; (iterate 3 kernel_rfl))|(apply (yW (hw)); exact rfl; exact rfl; (iterate 3 kernel_rfl))|(apply q_mv; (conv => lhs; whnf))|(apply q_as; (conv => lhs; whnf))|(apply yU; (iterate 4 exact rfl))|(apply q_eql; exact rfl; exact rfl)
    | (apply (yEb (u := .d _)); exact rfl; exact rfl)))|(apply W.ed; (apply yBb; (iterate 3 exact rfl); kernel_rfl; kernel_rfl))|(apply yA)|(apply yB)|(apply yC; kernel_rfl)|(apply yE)
  | (apply yJ)))
    refine Ends.b rfl ?_
    rw [decide_eq_decide]
    exact ⟨fun h => ⟨hk, h⟩, fun h => h.2⟩
  · have hne : e ≠ 0 := fun h0 => hk (he.1 h0)
    (repeat' (first
  | (apply W.qd; (first
    | (apply (yW (hc)); exact rfl; exact rfl; (iterate 3 kernel_rfl))|(apply q_mv; (conv => lhs; whnf))|(apply q_as; (conv => lhs; whnf))|(apply yU; (iterate 4 exact rfl))|(apply q_eql; exact rfl; exact rfl)
    | (apply (yDb (u := .d _)); exact rfl; exact rfl)))|(apply W.ed; (apply yBb; (iterate 3 exact rfl); kernel_rfl; kernel_rfl))|(refine W.gOff _ _ rfl rfl (by intro h; cases h) ?_)|(apply yA)|(apply yB)|(apply yC; kernel_rfl)|(apply yE)|(apply yJ)
  | (refine W.gT _ _ rfl rfl (fun hb => ?_) (fun hb => ?_) <;> ((try simp only [hb, zA, zB]) <;> (try simp only [zC, zD, zE, zF, zG, zH, zI, zJ] at hb) <;> (try (exfalso; omega))))))
    exact Ends.b rfl (decide_eq_false fun h => hk h.1).symm
theorem A_left {nm : List Nat} {M D dom : Int} {par : List (List Int)} {hv : List Bool} (h : FIn nm D par) (hl : hv.length < 9223372036854775808) : ACalls Tryz.prog 54 [cdF nm M D par dom, bools hv] [] (iV (leftC nm M D par dom hv)) [] := by
  have hv0 := A_dvalid (M := M) (dom := dom) (n := hv.length) h
  refine acalls_of_body Tryz.func54 rfl (Nat.le_of_ble_eq_true rfl) ?_
  have hmh : (hv.map tD).length = hv.length := List.length_map _
  rw [← hmh] at hv0
  unfold leftC
  by_cases hk : chkC nm M D par dom = true ∧ (hv.length : Int) = D + (par.length : Int)
  · rw [if_pos hk]
    rw [hmh, decide_eq_true hk, ← hmh] at hv0
    obtain ⟨m, d, ps, rfl, rfl, rfl, hok⟩ := chk_code hk.1
    have hpl : (toZ ps).length = ps.length := List.length_map _
    have hs := A_search hok (hv := hv) (by omega)
    rw [cdN_A] at hs
    have hs := hs.cdF (nm := nm) (dom := dom)
    rw [decZ_nat]
    (repeat' (first
  | (apply W.qd; (first
    | (apply (yW (hv0)); exact rfl; exact rfl; (iterate 3 kernel_rfl))|(apply (yW (hs)); exact rfl; exact rfl; (iterate 3 kernel_rfl))|(apply q_mv; (conv => lhs; whnf))|(apply q_as; (conv => lhs; whnf))|(apply yU; (iterate 4 exact rfl))|(apply q_not; exact rfl)|(apply yAb; exact rfl; exact rfl)
    | (apply yV; exact rfl; exact rfl)))|(apply W.ed; (apply yBb; (iterate 3 exact rfl); kernel_rfl; kernel_rfl))|(apply yA)|(apply yB)|(apply yC; kernel_rfl)|(apply yE)|(apply yH)|(apply yJ)
  | (apply yR; exact rfl)))
    exact Ends.i rfl rfl
  · rw [if_neg hk]
    rw [hmh, decide_eq_false hk, ← hmh] at hv0
    (repeat' (first
  | (apply W.qd; (first
    | (apply (yW (hv0)); exact rfl; exact rfl; (iterate 3 kernel_rfl))|(apply q_mv; (conv => lhs; whnf))|(apply q_as; (conv => lhs; whnf))|(apply yU; (iterate 4 exact rfl))|(apply q_not; exact rfl)
    | (apply yV; exact rfl; exact rfl)))|(apply W.ed; (apply yBb; (iterate 3 exact rfl); kernel_rfl; kernel_rfl))|(apply yA)|(apply yB)|(apply yC; kernel_rfl)|(apply yE)|(apply yJ)|(apply yP)
  | (apply yQ; exact rfl)))
    exact Ends.i rfl rfl
theorem A_losses {nm : List Nat} {M D dom : Int} {par : List (List Int)} (h : FIn nm D par) : ACalls Tryz.prog 21 [cdF nm M D par dom] [] (iV (lossC nm M D par dom)) [] := by
  obtain ⟨e, hc, he⟩ := A_lcheck (M := M) (dom := dom) h.n h.l h.d h.p
  refine acalls_of_body Tryz.func21 rfl (Nat.le_of_ble_eq_true rfl) ?_
  by_cases hk : chkC nm M D par dom = true
  · obtain rfl : e = 0 := he.2 hk
    have hV := chk_valid hk
    have hl := A_left (M := M) (dom := dom) (hv := List.replicate (D + (par.length : Int)).toNat true) h (by have := h.d; have := h.p; simp; omega)
    rw [show leftC nm M D par dom (List.replicate (D + (par.length : Int)).toNat true) = lossC nm M D par dom from rfl] at hl
    obtain ⟨m, d, ps, rfl, rfl, rfl, hok⟩ := chk_code hk
    have hw := (A_ewidth (M := m) (D := d) (code_in hok)).cdF (nm := nm) (dom := dom)
    rw [if_pos hV] at hw
    have hd1 := hok.d
    have hw1 := hok.w
    have hpl : (toZ ps).length = ps.length := List.length_map _
    have eW : ((d : Int) + ((toZ ps).length : Int)) = ((d + ps.length : Nat) : Int) := by omega
    rw [eW] at hw hl
    have hr := A_repeatT (w := d + ps.length) (by omega) (by omega)
    rw [Int.toNat_natCast] at hl
    (repeat' (first
  | (apply W.qd; (first
    | (apply (yW (hc)); exact rfl; exact rfl; (iterate 3 kernel_rfl))|(apply (yW (hw)); exact rfl; exact rfl; (iterate 3 kernel_rfl))|(apply (yW (hr)); exact rfl; exact rfl; (iterate 3 kernel_rfl))|(apply (yW (hl)); exact rfl; exact rfl; (iterate 3 kernel_rfl))|(apply q_as; (conv => lhs; whnf))|(apply yU; (iterate 4 exact rfl))|(apply q_neq; exact rfl; exact rfl)
    | (apply q_litF; (iterate 5 exact rfl); kernel_rfl; kernel_rfl; exact rfl)))|(apply W.ed; (apply yBb; (iterate 3 exact rfl); kernel_rfl; kernel_rfl))|(apply yA)|(apply yB)|(apply yC; kernel_rfl)|(apply yD; exact rfl; kernel_rfl)|(apply yE)|(apply yF; kernel_rfl)|(apply yH)|(apply yJ)
  | (apply yR; exact rfl)))
    exact Ends.i rfl rfl
  · have hne : e ≠ 0 := fun h0 => hk (he.1 h0)
    have e1 : lossC nm M D par dom = -1 := if_neg fun h => hk h.1
    rw [e1]
    (repeat' (first
  | (apply W.qd; (first
    | (apply (yW (hc)); exact rfl; exact rfl; (iterate 3 kernel_rfl))|(apply q_as; (conv => lhs; whnf))|(apply yU; (iterate 4 exact rfl))
    | (apply q_neq; exact rfl; exact rfl)))|(apply W.ed; (apply yBb; (iterate 3 exact rfl); kernel_rfl; kernel_rfl))|(apply yA)|(apply yB)|(apply yC; kernel_rfl)|(apply yE)|(apply yJ)|(apply yP)
  | (refine W.cond _ rfl (fun hb => ?_) (fun hb => ?_) <;> ((try simp only [hb, zA, zB]) <;> (try simp only [zC, zD, zE, zF, zG, zH, zI, zJ] at hb) <;> (try (exfalso; omega))))))
    exact Ends.i rfl rfl
end Go.Proofs.YtcljokdiblnhiaaGreatDoor
end
section
namespace Go.Proofs.YtcljokdiblnhiaaGreatDoor
open Go.RowKit
abbrev Hl := Int × Int × Int × Int
def hlD (h : Hl) : List Dat := [.v (.int .i64 h.1), .v (.int .i64 h.2.1), .v (.int .i64 h.2.2.1), .v (.int .i64 h.2.2.2)]
abbrev hls (l : List Hl) : AV := .d (.sl 4 (l.map hlD))
def hl0 : Hl := (0, 0, 0, 0)
end Go.Proofs.YtcljokdiblnhiaaGreatDoor
end
section
namespace Go.Proofs.YtcljokdiblnhiaaGreatDoor
open Go.RowKit
set_option maxHeartbeats 4000000
set_option maxRecDepth 100000
def inN (n : Nat) (l : List Int) : List Nat := l.filterMap fun x : Int => if 0 ≤ x ∧ x < (n : Int) then some x.toNat else none
theorem inN_snoc (n : Nat) (l : List Int) (x : Int) : inN n (l ++ [x]) = inN n l ++ (if 0 ≤ x ∧ x < (n : Int) then [x.toNat] else []) := by
  unfold inN
  rw [List.filterMap_append]
  congr 1
  by_cases h : 0 ≤ x ∧ x < (n : Int)
  · rw [if_pos h]
    simp [h]
  · rw [if_neg h]
    simp [h]
theorem inN_len (n : Nat) (l : List Int) : (inN n l).length ≤ l.length := List.length_filterMap_le _ _
theorem promise {nm : List Nat} {M D dom : Int} {par : List (List Int)} {hv : List Bool} {n : Nat} (h : (n : Int) ≤ leftC nm M D par dom hv) : (chkC nm M D par dom = true ∧ (hv.length : Int) = D + (par.length : Int)) ∧ ∀ L : List Nat, L.length ≤ n → decZ M D par (minusN hv L) = true := by
  unfold leftC at h
  split at h
  · rename_i hc
    refine ⟨hc, fun L hL => ?_⟩
    have h4 := left_le (decZ M D par) hv
    exact (left_iff (f := n) (by omega)).1 h L hL
  · omega
attribute [local irreducible] Quiet Eff OpOk AWPG ACont ABlock ACalls AGoto
end Go.Proofs.YtcljokdiblnhiaaGreatDoor
end
section
namespace Go.Proofs.YtcljokdiblnhiaaGreatDoor
open Go.RowKit
set_option maxHeartbeats 4000000
set_option maxRecDepth 100000
abbrev Cd := List Nat × Int × Int × List (List Int) × Int
abbrev Sv := List Nat × Int × Int × Int × Int
def cdD (c : Cd) : List Dat := [.v (.string (bytesOf c.1)), .v (.int .i64 c.2.1), .v (.int .i64 c.2.2.1), .sl 1 (c.2.2.2.1.map rD), .v (.int .i64 c.2.2.2.2)]
abbrev cdA1 (c : Cd) : AV := .agg ((cdD c).map .d)
def cd0 : Cd := ([], 0, 0, [], 0)
def chkD (c : Cd) : Bool := chkC c.1 c.2.1 c.2.2.1 c.2.2.2.1 c.2.2.2.2
def losD (c : Cd) : Int := lossC c.1 c.2.1 c.2.2.1 c.2.2.2.1 c.2.2.2.2
def FInD (c : Cd) : Prop := FIn c.1 c.2.2.1 c.2.2.2.1
structure NameIn (s : List Nat) : Prop where
  b : isB s
  l : s.length < 9223372036854775808
def nameB (s : List Nat) : Bool := (decide (1 ≤ s.length) && decide (s.length ≤ 12)) && (List.range s.length).all (wordAt s)
def fcI (cs : List Cd) (nm : List Nat) : Int := idxA (fun c => decide (c.1 = nm)) cs
def fvI (vs : List Sv) (nm : List Nat) : Int := idxA (fun v => decide (v.1 = nm)) vs
def hasB (n : Nat) (k : Int) : Bool := decide (0 ≤ k) && decide (k < (n : Int))
def keepsB (cs : List Cd) (k n : Int) : Bool := hasB cs.length k && decide (n ≤ losD (cs.getD k.toNat cd0))
def plausB (nm : List Nat) (l w : Int) : Bool := nameB nm && (decide (0 ≤ l) && (decide (l ≤ 4) && (decide (1 ≤ w) && decide (w ≤ 1048576))))
def usesB (k : Int) (v : Sv) : Bool := decide (v.2.1 = k) || decide (v.2.2.1 = k)
def userI (vs : List Sv) (k : Int) : Int := idxA (usesB k) vs
attribute [local irreducible] Quiet Eff OpOk AWPG ACont ABlock ACalls AGoto
theorem A_losD {c : Cd} (h : FInD c) : ACalls Tryz.prog 21 [cdA1 c] [] (iV (losD c)) [] := A_losses h
end Go.Proofs.YtcljokdiblnhiaaGreatDoor
end
section
namespace Go.Proofs.YtcljokdiblnhiaaGreatDoor
open Go.RowKit
set_option maxHeartbeats 4000000
set_option maxRecDepth 100000
structure LibIn (cs : List Cd) (vs : List Sv) : Prop where
  cn : ∀ c ∈ cs, NameIn c.1
  cp : ∀ c ∈ cs, c.2.2.2.1.length ≤ 9223372036854775807
  vn : ∀ v ∈ vs, NameIn v.1
  cl : cs.length ≤ 9223372036854775807
  vl : vs.length ≤ 9223372036854775807
theorem fin_chk {c : Cd} (h : chkD c = true) (hn : NameIn c.1) : FInD c := by
  have hv := chk_valid h
  unfold validC at hv
  simp only [Bool.and_eq_true, decide_eq_true_eq] at hv
  exact ⟨hn.b, hn.l, by omega, by omega⟩
attribute [local irreducible] Quiet Eff OpOk AWPG ACont ABlock ACalls AGoto
end Go.Proofs.YtcljokdiblnhiaaGreatDoor
end
section
namespace Go.Proofs.YtcljokdiblnhiaaGreatDoor
open Go.RowKit
set_option maxHeartbeats 4000000
set_option maxRecDepth 100000
structure LibOk (cs : List Cd) (vs : List Sv) : Prop where
  cn : ∀ c ∈ cs, NameIn c.1
  ck : ∀ c ∈ cs, chkD c = true
  vn : ∀ v ∈ vs, NameIn v.1
  cl : cs.length ≤ 1000
  vl : vs.length ≤ 1000
abbrev Lb := List Cd × List Sv
def lb0 : Lb := ([], [])
def addCN (cs : List Cd) (vs : List Sv) (c : Cd) : Lb × Int × Int :=
  if chkD c = false then (lb0, 0, 1) else if 0 ≤ fcI cs c.1 then (lb0, 0, 20) else if 8 ≤ cs.length then (lb0, 0, 2) else ((cs ++ [c], vs), (cs.length : Int), 0)
theorem chk_rows {c : Cd} (h : chkD c = true) : c.2.2.2.1.length ≤ 31 ∧ ∀ r ∈ c.2.2.2.1, r.length ≤ 31 := by
  have hv := chk_valid h
  unfold validC at hv
  simp only [Bool.and_eq_true, decide_eq_true_eq, List.all_eq_true] at hv
  obtain ⟨⟨⟨⟨h1, h2⟩, h3⟩, h4⟩, h5⟩ := hv
  have h6 : c.2.2.1 ≤ 31 := by
    unfold chkD chkC at h
    simp only [Bool.and_eq_true, decide_eq_true_eq] at h
    have := h.1.1.2
    omega
  refine ⟨by omega, fun r hr => ?_⟩
  have := h5 r hr
  unfold rowOk at this
  simp only [Bool.and_eq_true, decide_eq_true_eq] at this
  omega
theorem LibOk.fin {cs : List Cd} {vs : List Sv} (h : LibOk cs vs) : ∀ c ∈ cs, FInD c := fun c hc => fin_chk (h.ck c hc) (h.cn c hc)
attribute [local irreducible] Quiet Eff OpOk AWPG ACont ABlock ACalls AGoto
end Go.Proofs.YtcljokdiblnhiaaGreatDoor
end
section
namespace Go.Proofs.YtcljokdiblnhiaaGreatDoor
open Go.RowKit
set_option maxHeartbeats 4000000
set_option maxRecDepth 100000
section
variable {α : Type} {q : α → Bool} {l : List α}
end
structure VOk (cs : List Cd) (vs : List Sv) (i : Nat) (v : Sv) : Prop where
  nm : fvI vs v.1 = (i : Int)
  pl : plausB v.1 v.2.2.2.1 v.2.2.2.2 = true
  kp : keepsB cs v.2.1 v.2.2.2.1 = true
  ne : v.2.2.1 ≠ v.2.1
  kn : v.2.2.1 = -1 ∨ keepsB cs v.2.2.1 v.2.2.2.1 = true
  us : userI vs v.2.1 = (i : Int)
  un : v.2.2.1 = -1 ∨ userI vs v.2.2.1 = (i : Int)
structure Vld (cs : List Cd) (vs : List Sv) : Prop where
  cl : cs.length ≤ 8
  vl : vs.length ≤ 8
  c : ∀ (i : Nat) (h : i < cs.length), fcI cs cs[i].1 = (i : Int) ∧ chkD cs[i] = true
  v : ∀ (i : Nat) (h : i < vs.length), VOk cs vs i vs[i]
end Go.Proofs.YtcljokdiblnhiaaGreatDoor
end
section
namespace Go.Proofs.YtcljokdiblnhiaaGreatDoor
open Go.RowKit
set_option maxHeartbeats 4000000
set_option maxRecDepth 100000
def few30 (c : Cd) : Bool := decide (0 ≤ c.2.2.1) && (decide (c.2.2.1 ≤ 5) && (decide (c.2.2.2.1.length ≤ 5) && decide (c.2.2.1 + (c.2.2.2.1.length : Int) ≤ 7)))
theorem LibOk.nil : LibOk [] [] := ⟨by simp, by simp, by simp, by decide, by decide⟩
theorem LibOk.addC {cs : List Cd} {vs : List Sv} (h : LibOk cs vs) (c : Cd) (h1 : NameIn c.1) (h2 : chkD c = true) (h3 : cs.length < 900) : LibOk (cs ++ [c]) vs where
  cn x hx := by
    rcases List.mem_append.1 hx with h4 | h4
    · exact h.cn x h4
    · rw [List.mem_singleton.1 h4]; exact h1
  ck x hx := by
    rcases List.mem_append.1 hx with h4 | h4
    · exact h.ck x h4
    · rw [List.mem_singleton.1 h4]; exact h2
  vn := h.vn
  cl := by simp; omega
  vl := h.vl
theorem LibOk.addV {cs : List Cd} {vs : List Sv} (h : LibOk cs vs) (v : Sv) (h1 : NameIn v.1) (h3 : vs.length < 900) : LibOk cs (vs ++ [v]) where
  cn := h.cn
  ck := h.ck
  vn x hx := by
    rcases List.mem_append.1 hx with h4 | h4
    · exact h.vn x h4
    · rw [List.mem_singleton.1 h4]; exact h1
  cl := h.cl
  vl := by simp; omega
theorem LibOk.lin {cs : List Cd} {vs : List Sv} (h : LibOk cs vs) : LibIn cs vs where
  cn := h.cn
  cp c hc := by have := (chk_rows (h.ck c hc)).1; omega
  vn := h.vn
  cl := by have := h.cl; omega
  vl := by have := h.vl; omega
def rs30 : Cd := ([114, 115], 8, 2, [[1, 1], [1, 2]], 1)
def pa30 : Cd := ([112, 97, 114], 8, 2, [[1, 1]], 1)
def pb30 : Cd := ([112, 97, 114], 8, 2, [[1, 2]], 1)
def pc30 : Cd := ([112, 97, 114, 50], 8, 2, [[1, 2]], 1)
theorem n_rs : NameIn rs30.1 := ⟨by unfold isB rs30; decide, by decide⟩
theorem n_pa : NameIn pa30.1 := ⟨by unfold isB pa30; decide, by decide⟩
theorem L1 : LibOk [rs30] [] := LibOk.nil.addC rs30 n_rs (by kernel_rfl) (by decide)
theorem L2 : LibOk [rs30, pa30] [] := L1.addC pa30 n_pa (by kernel_rfl) (by decide)
theorem r1 : addCN [] [] rs30 = (([rs30], []), 0, 0) := by kernel_rfl
theorem r2 : addCN [rs30] [] pa30 = (([rs30, pa30], []), 1, 0) := by kernel_rfl
theorem r3 : addCN [rs30, pa30] [] pb30 = (lb0, 0, 20) := by kernel_rfl
theorem r4 : addCN [rs30, pa30] [] pc30 = (([rs30, pa30, pc30], []), 2, 0) := by kernel_rfl
attribute [local irreducible] Quiet Eff OpOk AWPG ACont ABlock ACalls AGoto
end Go.Proofs.YtcljokdiblnhiaaGreatDoor
end
section
namespace Go.Proofs.YtcljokdiblnhiaaGreatDoor
open Go.RowKit
set_option maxHeartbeats 4000000
set_option maxRecDepth 100000
theorem Vld.ok {cs : List Cd} {vs : List Sv} (h : Vld cs vs) (hi : LibIn cs vs) : LibOk cs vs where
  cn := hi.cn
  ck c hc := by
    obtain ⟨i, hi, rfl⟩ := List.getElem_of_mem hc
    exact (h.c i hi).2
  vn := hi.vn
  cl := by have := h.cl; omega
  vl := by have := h.vl; omega
theorem Vld.nil : Vld [] [] := ⟨by decide, by decide, fun i h => absurd h (by simp), fun i h => absurd h (by simp)⟩
structure Gd30 (cs : List Cd) (vs : List Sv) : Prop where
  v : Vld cs vs
  n : LibIn cs vs
theorem Gd30.nil : Gd30 [] [] := ⟨Vld.nil, LibOk.nil.lin⟩
attribute [local irreducible] Quiet Eff OpOk AWPG ACont ABlock ACalls AGoto
end Go.Proofs.YtcljokdiblnhiaaGreatDoor
end
section
namespace Go.Proofs.YtcljokdiblnhiaaGreatDoor
open Go.RowKit
set_option maxHeartbeats 4000000
set_option maxRecDepth 100000
theorem promise30 {c : Cd} {n : Nat} (h : (n : Int) ≤ losD c) : (chkD c = true) ∧ ∀ L : List Nat, L.length ≤ n → decZ c.2.1 c.2.2.1 c.2.2.2.1 (minusN (List.replicate (c.2.2.1 + (c.2.2.2.1.length : Int)).toNat true) L) = true := by
  obtain ⟨⟨h1, _⟩, h2⟩ := promise (nm := c.1) (M := c.2.1) (D := c.2.2.1) (par := c.2.2.2.1) (dom := c.2.2.2.2) (hv := List.replicate (c.2.2.1 + (c.2.2.2.1.length : Int)).toNat true) h
  exact ⟨h1, h2⟩
attribute [local irreducible] Quiet Eff OpOk AWPG ACont ABlock ACalls AGoto
end Go.Proofs.YtcljokdiblnhiaaGreatDoor
end
section
namespace Go.Proofs.YtcljokdiblnhiaaGreatDoor
open Go.RowKit
set_option maxHeartbeats 4000000
set_option maxRecDepth 100000
abbrev Sr := Cd × List (List Nat) × List Bool × List Int
def sr0 : Sr := (cd0, [], [], [])
def srD (s : Sr) : List Dat := [.v (.string (bytesOf s.1.1)), .v (.int .i64 s.1.2.1), .v (.int .i64 s.1.2.2.1), .sl 1 (s.1.2.2.2.1.map rD), .v (.int .i64 s.1.2.2.2.2), .sl 1 (s.2.1.map sD), .sl 1 (s.2.2.1.map tD), .sl 1 (s.2.2.2.map iD)]
abbrev srcs (l : List Sr) : AV := .d (.sl 8 (l.map srD))
abbrev srA1 (s : Sr) : AV := .agg ((srD s).map .d)
def srB (s : Sr) : Bool := srcB s.1.2.1 s.1.2.2.1 s.1.2.2.2.1 s.2.1 s.2.2.1 s.2.2.2
structure SrIn (s : Sr) : Prop where
  c : CodeIn s.1.2.2.2.1
  us : s.2.1.length ≤ 10000000
  hv : s.2.2.1.length ≤ 10000000
  ll : s.2.2.2.length ≤ 10000000
  b : ∀ x ∈ s.2.1, isB x ∧ x.length < 9223372036854775808
def recSr (s : Sr) (u : Nat) : Option (List Nat) := recN s.1.2.1.toNat s.1.2.2.1.toNat (s.1.2.2.2.1.map fun r => r.map Int.toNat) s.2.1 s.2.2.1 u
theorem getDs {ss : List Sr} {i : Nat} (h : i < ss.length) : ss.getD i sr0 = ss[i] := by rw [List.getD_eq_getElem?_getD, List.getElem?_eq_getElem h]; rfl
theorem sr_ok {s : Sr} (h : srB s = true) (hb : ∀ x ∈ s.2.1, isB x ∧ x.length < 9223372036854775808) : ∃ (M D : Nat) (ps : List (List Nat)), s.1.2.1 = M ∧ s.1.2.2.1 = D ∧ s.1.2.2.2.1 = toZ ps ∧ SrcOk M D ps s.2.1 s.2.2.1 ∧ ∀ k (hk : k < s.2.2.2.length), 0 ≤ s.2.2.2[k] ∧ s.2.2.2[k] < (D : Int) := by
  unfold srB srcB at h
  simp only [Bool.and_eq_true, decide_eq_true_eq] at h
  obtain ⟨⟨⟨⟨h1, h2⟩, h3⟩, h4⟩, h5⟩ := h
  obtain ⟨M, D, ps, e1, e2, e3, hok⟩ := ok_valid h1
  have hpl : (toZ ps).length = ps.length := List.length_map _
  rw [e2, e3, hpl] at h2 h3
  refine ⟨M, D, ps, e1, e2, e3, ⟨hok, by omega, by omega, fun i hi => ?_, hb⟩, fun k hk => ?_⟩
  · unfold lenB at h4
    rw [List.all_eq_true] at h4
    have hil : i < s.2.2.1.length := by
      rcases Nat.lt_or_ge i s.2.2.1.length with h6 | h6
      · exact h6
      · rw [List.getD_eq_getElem?_getD, List.getElem?_eq_none h6] at hi; cases hi
    have := h4 i (List.mem_range.2 hil)
    rw [hi] at this
    simpa using this
  · have h6 := (incB_drop _ _ _).1 h5
    have hall : ∀ j (hj : j < s.2.2.2.length), 0 ≤ s.2.2.2[j] ∧ s.2.2.2[j] < s.1.2.2.1 := fun j => by
      induction j with
      | zero =>
        intro hj
        have := h6 0 hj
        rw [if_pos rfl] at this
        omega
      | succ j ih =>
        intro hj
        have h7 := h6 (j + 1) hj
        have h8 := ih (by omega)
        rw [if_neg (by omega), Nat.add_sub_cancel, List.getD_eq_getElem?_getD, List.getElem?_eq_getElem (by omega)] at h7
        simp only [Option.getD_some] at h7
        omega
    have := hall k hk
    rw [e2] at this
    exact this
theorem sr_rec {s : Sr} {M D : Nat} {ps : List (List Nat)} (e1 : s.1.2.1 = M) (e2 : s.1.2.2.1 = D) (e3 : s.1.2.2.2.1 = toZ ps) (u : Nat) : recSr s u = recN M D ps s.2.1 s.2.2.1 u := by
  unfold recSr
  rw [e1, e2, e3, toZ_back, Int.toNat_natCast, Int.toNat_natCast]
def liveTo (ss : List Sr) (n : Nat) : List (Nat × Nat) := ((List.range n).map fun j => (ss.getD j sr0).2.2.2.map fun u => (j, u.toNat)).flatten
def preL (ss : List Sr) (i k : Nat) : List (Nat × Nat) := liveTo ss i ++ ((ss.getD i sr0).2.2.2.take k).map fun u => (i, u.toNat)
theorem liveTo_succ (ss : List Sr) (n : Nat) : liveTo ss (n + 1) = liveTo ss n ++ (ss.getD n sr0).2.2.2.map fun u => (n, u.toNat) := by
  unfold liveTo
  rw [List.range_succ, List.map_append, List.flatten_append]
  simp
theorem preL_zero (ss : List Sr) (i : Nat) : preL ss i 0 = liveTo ss i := by unfold preL; simp
theorem preL_succ {ss : List Sr} {i k : Nat} (hi : i < ss.length) (hk : k < ss[i].2.2.2.length) : preL ss i (k + 1) = preL ss i k ++ [(i, ss[i].2.2.2[k].toNat)] := by
  unfold preL
  rw [getDs hi, List.take_succ_eq_append_getElem hk, List.map_append, List.append_assoc]; rfl
theorem preL_next {ss : List Sr} {i : Nat} (hi : i < ss.length) : preL ss i ss[i].2.2.2.length = preL ss (i + 1) 0 := by
  rw [preL_zero, liveTo_succ]
  unfold preL
  rw [getDs hi, List.take_length]
theorem liveTo_le (ss : List Sr) {n m : Nat} (h : n ≤ m) : (liveTo ss n).length ≤ (liveTo ss m).length := by
  induction m with
  | zero => obtain rfl : n = 0 := by omega
            exact Nat.le_refl _
  | succ m ih =>
    by_cases e : n = m + 1
    · rw [e]; exact Nat.le_refl _
    · rw [liveTo_succ, List.length_append]
      have := ih (by omega)
      omega
theorem preL_le {ss : List Sr} {i k : Nat} (hi : i < ss.length) : (preL ss i k).length ≤ (liveTo ss ss.length).length := by
  refine Nat.le_trans ?_ (liveTo_le ss (show i + 1 ≤ ss.length by omega))
  rw [liveTo_succ]
  unfold preL
  rw [List.length_append, List.length_append, List.length_map, List.length_map, List.length_take]
  omega
def recAt (ss : List Sr) (i u : Nat) : Option (List Nat) := recSr (ss.getD i sr0) u
abbrev Mv := Nat × Nat × Nat × Nat
def mvD (m : Mv) : List Dat := [.v (.int .i64 m.1), .v (.int .i64 m.2.1), .v (.int .i64 m.2.2.1), .v (.int .i64 m.2.2.2)]
def stD (u : List (List Nat)) : List Dat := [.sl 1 (u.map sD)]
def movN (D : Nat) (l : List (Nat × Nat)) : List Mv := l.zipIdx.map fun p => (p.1.1, p.1.2, p.2 / D, p.2 % D)
theorem movN_len (D : Nat) (l : List (Nat × Nat)) : (movN D l).length = l.length := by unfold movN; simp
theorem movN_snoc (D : Nat) (l : List (Nat × Nat)) (p : Nat × Nat) : movN D (l ++ [p]) = movN D l ++ [(p.1, p.2, l.length / D, l.length % D)] := by
  unfold movN
  rw [List.zipIdx_append, List.map_append]; simp
abbrev pkA (st : List (List (List Nat))) (mv : List Mv) (lo : List (Nat × Nat)) : AV := .agg [.d (.sl 1 (st.map stD)), .d (.sl 4 (mv.map mvD)), .d (.sl 2 (lo.map tmD))]
def cutN (M D : Nat) (ps : List (List Nat)) (pd : List (List Nat)) (q : Nat) : List (List (List Nat)) := (List.range q).map fun j => encN M ps ((pd.drop (j * D)).take D)
theorem cutN_succ (M D : Nat) (ps : List (List Nat)) (pd : List (List Nat)) (q : Nat) : cutN M D ps pd (q + 1) = cutN M D ps pd q ++ [encN M ps ((pd.drop (q * D)).take D)] := by
  unfold cutN
  rw [List.range_succ, List.map_append]; rfl
theorem cutN_len (M D : Nat) (ps : List (List Nat)) (pd : List (List Nat)) (q : Nat) : (cutN M D ps pd q).length = q := by unfold cutN; simp
def zero32 : List Nat := List.replicate 32 0
theorem pad_ge (D : Nat) (z : List Nat) (l : List (List Nat)) : l.length ≤ (padN D z l).length ∧ (padN D z l).length ≤ l.length + D := by
  unfold padN
  rw [List.length_append, List.length_replicate]
  refine ⟨by omega, ?_⟩
  rcases Nat.eq_zero_or_pos D with h | h
  · subst h; simp
  · have := Nat.mod_lt (D - l.length % D) h; omega
theorem pad_mem {D : Nat} {z : List Nat} {l : List (List Nat)} {x : List Nat} (h : x ∈ padN D z l) : x ∈ l ∨ x = z := by
  unfold padN at h
  rcases List.mem_append.1 h with h1 | h1
  · exact .inl h1
  · exact .inr (List.eq_of_mem_replicate h1)
structure Pkd where
  st : List (List (List Nat))
  mv : List Mv
  lo : List (Nat × Nat)
  e : Int
def packS (ss : List Sr) : PackS := packN (recAt ss) (liveTo ss ss.length)
def padS (D : Nat) (ss : List Sr) : List (List Nat) := padN D zero32 (packS ss).data
def repOk (M D : Nat) (ps : List (List Nat)) (ss : List Sr) : Pkd := ⟨cutN M D ps (padS D ss) ((padS D ss).length / D), movN D (packS ss).from', (packS ss).lost, 0⟩
def repN (tc : Cd) (ss : List Sr) : Pkd := if validC tc.2.1 tc.2.2.1 tc.2.2.2.1 = true ∧ ss.all srB = true then repOk tc.2.1.toNat tc.2.2.1.toNat (tc.2.2.2.1.map fun r => r.map Int.toNat) ss else ⟨[], [], [], 1⟩
abbrev repA (p : Pkd) : AV := .tup [pkA p.st p.mv p.lo, iV p.e]
theorem srA1_le {s : Sr} {F : Nat → Prop} {own : List Ent} {κ : List (Option Nat)} {w : World} {u : Value} (h : AV.sat F own κ w (srA1 s) u) : AV.sat F own κ w (srcA s.1.2.1 s.1.2.2.1 s.1.2.2.2.1 s.2.1 s.2.2.1 s.2.2.2) u := by
  unfold srA1 srD at h
  unfold srcA
  rw [AV.sat] at h ⊢
  obtain ⟨us, h1, h2⟩ := h
  refine ⟨us, h1, ?_⟩
  generalize us.toList = l at h2
  simp only [List.map_cons, List.map_nil] at h2
  rcases l with _ | ⟨a, _ | ⟨b, _ | ⟨c, _ | ⟨d, _ | ⟨e, _ | ⟨f, _ | ⟨g, _ | ⟨i, l⟩⟩⟩⟩⟩⟩⟩⟩ <;> simp only [AV.satL, and_false, and_assoc] at h2 ⊢
  obtain ⟨h3, h4, h5, h6, h7, h8⟩ := h2
  rw [sat_v] at h3 h7
  subst h3; subst h7
  refine ⟨?_, h4, h5, h6, ?_, h8⟩
  · rw [AV.sat, Dat.sat]; rfl
  · rw [AV.sat, Dat.sat]; rfl
theorem ACalls.srF {P : Program} {f : FuncId} {s : Sr} {l : List AV} {r : AV} {own own' : List Ent} (h : ACalls P f (srcA s.1.2.1 s.1.2.2.1 s.1.2.2.2.1 s.2.1 s.2.2.1 s.2.2.2 :: l) own r own') : ACalls P f (srA1 s :: l) own r own' :=
  h.le fun F κ w vs => satL_le1 (fun F own κ w u => srA1_le) F own κ w vs
attribute [local irreducible] Quiet Eff OpOk AWPG ACont ABlock ACalls AGoto
theorem A_srv {s : Sr} (h : SrIn s) : ACalls Tryz.prog 57 [srA1 s] [] (bV (srB s)) [] :=
  (A_cvalid h.c h.us h.hv h.ll (fun u hu => (h.b u hu).2)).srF
theorem A_srec {s : Sr} (hv : srB s = true) (h : SrIn s) {k : Nat} (hk : k < s.2.2.2.length) : ACalls Tryz.prog 25 [cdA1 s.1, strs s.2.1, bools s.2.2.1, iV s.2.2.2[k]] [] (recR (recSr s s.2.2.2[k].toNat)) [] := by
  obtain ⟨M, D, ps, e1, e2, e3, hs, hl⟩ := sr_ok hv h.b
  have hk2 := hl k hk
  have hw := hs.c.w
  have := A_erecS (u := s.2.2.2[k].toNat) hs (by omega)
  rw [← sr_rec e1 e2 e3, Int.toNat_of_nonneg hk2.1, cdN_A, ← e1, ← e2, ← e3] at this
  exact this.cdF (nm := s.1.1) (dom := s.1.2.2.2.2)
theorem sr_rlen {s : Sr} (hv : srB s = true) (h : SrIn s) {k : Nat} (hk : k < s.2.2.2.length) {x : List Nat} (hr : recSr s s.2.2.2[k].toNat = some x) : isB x ∧ x.length = 32 := by
  obtain ⟨M, D, ps, e1, e2, e3, hs, hl⟩ := sr_ok hv h.b
  have hk2 := hl k hk
  rw [sr_rec e1 e2 e3] at hr
  exact hs.rec_len (by have := hs.c.w; omega) hr
end Go.Proofs.YtcljokdiblnhiaaGreatDoor
end
section
namespace Go.Proofs.YtcljokdiblnhiaaGreatDoor
open Go.RowKit
set_option maxHeartbeats 4000000
set_option maxRecDepth 100000
attribute [local irreducible] Quiet Eff OpOk AWPG ACont ABlock ACalls AGoto
theorem A_live0 {ss : List Sr} : ACalls Tryz.prog 58 [srcs ss] [] (.fn 121 [.opt 0 0]) [.box [srcs ss]] := by
  refine acalls_of_bodyO Tryz.func58 rfl (Nat.le_of_ble_eq_true rfl) ?_
  (repeat' (first
  | (apply W.qd; (first
    | (apply q_as; (conv => lhs; whnf))
    | (apply q_makeFunc)))|(apply W.ed; (apply yBb; (iterate 3 exact rfl); kernel_rfl; kernel_rfl))|(apply yA)|(apply yB)|(apply yC; kernel_rfl)|(apply yE)
  | (apply yJ)))
  exact ⟨.inl rfl, [0], [.fn 121 [.opt 0 0]], rfl, rfl, ⟨rfl, trivial⟩, AVle.of_eq rfl, rfl⟩
theorem A_liveIter {ss : List Sr} {E0 E1 E2 E5 L : Ent} {e3 e4 e6 e7 e8 : List (Nat × Nat) → Ent} (hl : ss.length ≤ 10000000) (hll : ∀ s ∈ ss, s.2.2.2.length ≤ 10000000)
    (hcl : ∀ (p : List (Nat × Nat)) (Y : List Ent), selOwn (E0 :: E1 :: E2 :: e3 p :: e4 p :: E5 :: e6 p :: e7 p :: e8 p :: .box [srcs ss] :: L :: Y) [0, 1, 2, 3, 4, 5, 6, 7, 8, 9, 10] = [E0, E1, E2, e3 p, e4 p, E5, e6 p, e7 p, e8 p, .box [srcs ss], L])
    (h : ∀ i (hi : i < ss.length) k (hk : k < ss[i].2.2.2.length), YAt Tryz.prog 10 [E0, E1, E2, e3 (preL ss i k), e4 (preL ss i k), E5, e6 (preL ss i k), e7 (preL ss i k), e8 (preL ss i k), .box [srcs ss], L, .box ((srD ss[i]).map .d)] [iV i, iV ss[i].2.2.2[k]] true [E0, E1, E2, e3 (preL ss i (k + 1)), e4 (preL ss i (k + 1)), E5, e6 (preL ss i (k + 1)), e7 (preL ss i (k + 1)), e8 (preL ss i (k + 1)), .box [srcs ss], L, .box ((srD ss[i]).map .d)]) :
    ACalls Tryz.prog 121 [.yl 10, .opt 9 0] [E0, E1, E2, e3 (preL ss 0 0), e4 (preL ss 0 0), E5, e6 (preL ss 0 0), e7 (preL ss 0 0), e8 (preL ss 0 0), .box [srcs ss], L] (.tup []) [E0, E1, E2, e3 (preL ss ss.length 0), e4 (preL ss ss.length 0), E5, e6 (preL ss ss.length 0), e7 (preL ss ss.length 0), e8 (preL ss ss.length 0), .box [srcs ss], L] := by
  refine acalls_of_bodyS Tryz.func121 rfl (Nat.le_of_ble_eq_true rfl) ?_
  have hm : (ss.map srD).length = ss.length := List.length_map _
  (repeat' (first
  | (apply W.qd; (first
    | (apply q_mv; (conv => lhs; whnf))|(apply yT; (iterate 4 exact rfl))
    | (apply yV; exact rfl; exact rfl)))|(apply yA)|(apply yB)|(apply (W.regionS 1); exact rfl; kernel_rfl)|(apply yE)
  | (apply yG)))
  refine AWP.loopW (α := Nat) (fun i => i ≤ ss.length) (fun i => ⟨[(9, iV i), (8, iV ss.length), (7, srcs ss), (0, .yl 10), (1, .opt 9 0)], [E0, E1, E2, e3 (preL ss i 0), e4 (preL ss i 0), E5, e6 (preL ss i 0), e7 (preL ss i 0), e8 (preL ss i 0), .box [srcs ss], L]⟩) (fun i => ss.length - i) 0 (Nat.zero_le _) ?wkA fun i hi => ?_
  case wkA =>
    refine ⟨[0, 1, 2, 3, 4, 5, 6, 7, 8, 9, 10], rfl, rfl, ?_, rfl, iV_eq (by rw [hm]), rfl, rfl, rfl, trivial⟩
    exact (hcl (preL ss 0 0) []).symm
  by_cases hil : i < ss.length
  · have hli := hll _ (List.getElem_mem hil)
    have hmi : (ss[i].2.2.2.map iD).length = ss[i].2.2.2.length := List.length_map _
    have hY := h i hil
    have hnx := preL_next hil
    (repeat' (first
  | (apply W.qd; (first
    | (apply q_mv; (conv => lhs; whnf))|(apply q_as; (conv => lhs; whnf))|(apply yS; (iterate 3 exact rfl))|(apply yT; (iterate 4 exact rfl))|(apply q_lss; exact rfl; exact rfl)|(apply yV; exact rfl; exact rfl)|(apply yY; (iterate 3 exact rfl); (first | omega | (focus (simp; done))))
    | (apply yGb; (iterate 4 exact rfl); (first | (with_reducible exact rfl) | exact natI_spec rfl | assumption | exact (Int.toNat_of_nonneg (by omega)).symm); (first | omega | (focus (simp only [List.length_map]; omega)) | (focus (simp; done)) | (focus (simp; omega))))))|(apply W.ed; (apply yCb; (iterate 3 exact rfl); kernel_rfl))|(apply W.ln; (apply l_st_box; (iterate 6 exact rfl); (iterate 3 kernel_rfl)))|(apply yA)|(apply yB)|(apply (W.regionS 4); exact rfl; kernel_rfl)|(apply yE)|(apply yG)|(apply yH)
  | (refine W.cond _ rfl (fun hb => ?_) (fun hb => ?_) <;> ((try simp only [hb, zA, zB]) <;> (try simp only [zC, zD, zE, zF, zG, zH, zI, zJ] at hb) <;> (try (exfalso; omega))))))
    refine AWP.loopE (α := Nat) (fun k => k ≤ ss[i].2.2.2.length) (fun k => ⟨[(17, iV k), (16, iV ss[i].2.2.2.length), (15, ints ss[i].2.2.2), (3, iV i), (9, iV i), (8, iV ss.length), (7, srcs ss), (0, .yl 10), (1, .opt 9 0)], [E0, E1, E2, e3 (preL ss i k), e4 (preL ss i k), E5, e6 (preL ss i k), e7 (preL ss i k), e8 (preL ss i k), .box [srcs ss], L, .box ((srD ss[i]).map .d)]⟩) (fun k => ss[i].2.2.2.length - k) 0 (Nat.zero_le _) ⟨rfl, rfl, iV_eq (by rw [hmi]), rfl, rfl, rfl, rfl, rfl, rfl, rfl, trivial⟩ fun k hk => ?_
    by_cases hkl : k < ss[i].2.2.2.length
    · (repeat' (first
  | (apply W.qd; (first
    | (apply q_mv; (conv => lhs; whnf))|(apply q_as; (conv => lhs; whnf))|(apply q_lss; exact rfl; exact rfl)|(apply q_not; exact rfl)|(apply q_add; exact rfl; exact rfl; omega)|(apply yX; (iterate 3 exact rfl); (first | omega | (focus (simp; done))))
    | (apply yGb; (iterate 4 exact rfl); (first | (with_reducible exact rfl) | exact natI_spec rfl | assumption | exact (Int.toNat_of_nonneg (by omega)).symm); (first | omega | (focus (simp only [List.length_map]; omega)) | (focus (simp; done)) | (focus (simp; omega))))))|(apply W.ed; ((exact e_yield (hY k hkl) rfl rfl)))|(apply yA)|(apply yB)|(apply yC; kernel_rfl)|(apply yE)|(apply yG)|(apply yH)|(apply yL)|(apply yR; exact rfl)
  | (refine W.cond _ rfl (fun hb => ?_) (fun hb => ?_) <;> ((try simp only [hb, zA, zB]) <;> (try simp only [zC, zD, zE, zF, zG, zH, zI, zJ] at hb) <;> (try (exfalso; omega))))))
      exact ⟨k + 1, by omega, by omega, rfl, iV_eq (by omega), rfl, rfl, rfl, rfl, rfl, rfl, rfl, rfl, trivial⟩
    · obtain rfl : k = ss[i].2.2.2.length := by omega
      rw [hnx]
      (repeat' (first
  | (apply W.qd; (first
    | (apply q_mv; (conv => lhs; whnf))|(apply q_lss; exact rfl; exact rfl)
    | (apply q_add; exact rfl; exact rfl; omega)))|(apply yA)|(apply yB)|(apply yC; kernel_rfl)|(apply yE)|(apply yI)|(apply yK)|(apply yL)|(apply yM)
  | (refine W.cond _ rfl (fun hb => ?_) (fun hb => ?_) <;> ((try simp only [hb, zA, zB]) <;> (try simp only [zC, zD, zE, zF, zG, zH, zI, zJ] at hb) <;> (try (exfalso; omega))))))
      refine ⟨i + 1, by omega, by omega, [0, 1, 2, 3, 4, 5, 6, 7, 8, 9, 10], rfl, rfl, ?_, iV_eq (by omega), rfl, rfl, rfl, rfl, trivial⟩
      exact (hcl (preL ss (i + 1) 0) [_]).symm
  · obtain rfl : i = ss.length := by omega
    (repeat' (first
  | (apply W.qd; (apply q_lss; exact rfl; exact rfl))|(apply yA)|(apply yB)|(apply yC; kernel_rfl)|(apply yE)|(apply yI)|(apply yK)|(apply yM)
  | (refine W.cond _ rfl (fun hb => ?_) (fun hb => ?_) <;> ((try simp only [hb, zA, zB]) <;> (try simp only [zC, zD, zE, zF, zG, zH, zI, zJ] at hb) <;> (try (exfalso; omega))))))
    exact ⟨.inr rfl, [], trivial, AVle.of_eq rfl, rfl⟩
end Go.Proofs.YtcljokdiblnhiaaGreatDoor
end
section
namespace Go.Proofs.YtcljokdiblnhiaaGreatDoor
open Go.RowKit
set_option maxHeartbeats 8000000
set_option maxRecDepth 100000
structure RepIn (tc : Cd) (ss : List Sr) : Prop where
  c : CodeIn tc.2.2.2.1
  sl : ss.length ≤ 10000000
  s : ∀ s ∈ ss, SrIn s
  tot : (liveTo ss ss.length).length ≤ 10000000
theorem pack_some {ss : List Sr} {i k : Nat} (hi : i < ss.length) (hk : k < ss[i].2.2.2.length) {x : List Nat} (hr : recSr ss[i] ss[i].2.2.2[k].toNat = some x) : packN (recAt ss) (preL ss i (k + 1)) = ⟨(packN (recAt ss) (preL ss i k)).data ++ [x], (packN (recAt ss) (preL ss i k)).from' ++ [(i, ss[i].2.2.2[k].toNat)], (packN (recAt ss) (preL ss i k)).lost⟩ := by
  rw [preL_succ hi hk, packN_succ]
  unfold packStep
  have : recAt ss i ss[i].2.2.2[k].toNat = some x := by unfold recAt; rw [getDs hi]; exact hr
  dsimp only
  rw [this]
theorem pack_none {ss : List Sr} {i k : Nat} (hi : i < ss.length) (hk : k < ss[i].2.2.2.length) (hr : recSr ss[i] ss[i].2.2.2[k].toNat = none) : packN (recAt ss) (preL ss i (k + 1)) = ⟨(packN (recAt ss) (preL ss i k)).data, (packN (recAt ss) (preL ss i k)).from', (packN (recAt ss) (preL ss i k)).lost ++ [(i, ss[i].2.2.2[k].toNat)]⟩ := by
  rw [preL_succ hi hk, packN_succ]
  unfold packStep
  have : recAt ss i ss[i].2.2.2[k].toNat = none := by unfold recAt; rw [getDs hi]; exact hr
  dsimp only
  rw [this]
theorem pack_units {ss : List Sr} (hv : ∀ i (hi : i < ss.length), srB ss[i] = true) (hs : ∀ s ∈ ss, SrIn s) : ∀ x ∈ (packS ss).data, isB x ∧ x.length = 32 := fun x hx => by
  unfold packS packN at hx
  rcases pack_data _ _ _ _ hx with h1 | ⟨p, h1, h2⟩
  · cases h1
  · unfold liveTo at h1
    rw [List.mem_flatten] at h1
    obtain ⟨l, h3, h4⟩ := h1
    rw [List.mem_map] at h3
    obtain ⟨j, h5, rfl⟩ := h3
    have hj := List.mem_range.1 h5
    rw [getDs hj, List.mem_map] at h4
    obtain ⟨u, h6, rfl⟩ := h4
    obtain ⟨k, hk, rfl⟩ := List.getElem_of_mem h6
    unfold recAt at h2
    rw [getDs hj] at h2
    exact sr_rlen (hv j hj) (hs _ (List.getElem_mem hj)) hk h2
theorem rep_bad {tc : Cd} {ss : List Sr} (h : ¬ (validC tc.2.1 tc.2.2.1 tc.2.2.2.1 = true ∧ ss.all srB = true)) : repN tc ss = ⟨[], [], [], 1⟩ := by
  unfold repN
  rw [if_neg h]
theorem repA_err : AVle (.tup [.agg [.d (.v (.slice none 0 0)), .d (.v (.slice none 0 0)), .d (.v (.slice none 0 0))], iV 1]) (repA ⟨[], [], [], 1⟩) := AVle.tup ⟨AVle.agg ⟨AVle.nil 1, AVle.nil 4, AVle.nil 2, trivial⟩, AVle.refl _, trivial⟩
attribute [local irreducible] Quiet Eff OpOk AWPG ACont ABlock ACalls AGoto
theorem A_repack {tc : Cd} {ss : List Sr} (h : RepIn tc ss) : ACalls Tryz.prog 24 [cdA1 tc, srcs ss] [] (repA (repN tc ss)) [] := by
  have hva : ACalls Tryz.prog 56 [cdA1 tc] [] (bV (validC tc.2.1 tc.2.2.1 tc.2.2.2.1)) [] := (A_evalid h.c).cdF (nm := tc.1) (dom := tc.2.2.2.2)
  have hsl := h.sl
  have hms : (ss.map srD).length = ss.length := List.length_map _
  refine acalls_of_body Tryz.func24 rfl (Nat.le_of_ble_eq_true rfl) ?_
  cases hV : validC tc.2.1 tc.2.2.1 tc.2.2.2.1 with
  | false =>
    rw [hV] at hva
    rw [rep_bad (by rw [hV]; simp)]
    (repeat' (first
  | (apply W.qd; (first
    | (apply (yW (hva)); exact rfl; exact rfl; (iterate 3 kernel_rfl))|(apply q_as; (conv => lhs; whnf))|(apply yU; (iterate 4 exact rfl))|(apply q_not; exact rfl)
    | (apply yZ; exact rfl; exact rfl; kernel_rfl)))
  | (apply W.ed; (first
    | (apply yBb; (iterate 3 exact rfl); kernel_rfl; kernel_rfl)
    | (apply yCb; (iterate 3 exact rfl); kernel_rfl)))|(apply W.ln; (apply l_st_box; (iterate 6 exact rfl); (iterate 3 kernel_rfl)))|(apply yA)|(apply yB)|(apply yC; kernel_rfl)|(apply yE)|(apply yJ)|(apply yP)
  | (apply yQ; exact rfl)))
    all_goals exact ⟨.inl rfl, [], [.agg [.d (.v (.slice none 0 0)), .d (.v (.slice none 0 0)), .d (.v (.slice none 0 0))], iV 1], rfl, ⟨⟨2, _, true, rfl, rfl, rfl, rfl⟩, rfl, trivial⟩, repA_err, rfl⟩
  | true =>
  rw [hV] at hva
  have hbad : ∀ i (hi : i < ss.length), srB ss[i] = false → repN tc ss = ⟨[], [], [], 1⟩ := fun i hi h1 => rep_bad fun h2 => by
    have := List.all_eq_true.1 h2.2 _ (List.getElem_mem hi)
    rw [h1] at this; cases this
  have hgood : (∀ i (hi : i < ss.length), srB ss[i] = true) → repN tc ss = repOk tc.2.1.toNat tc.2.2.1.toNat (tc.2.2.2.1.map fun r => r.map Int.toNat) ss := fun h1 => by
    unfold repN
    rw [if_pos]
    refine ⟨hV, List.all_eq_true.2 fun x hx => ?_⟩
    obtain ⟨i, hi, rfl⟩ := List.getElem_of_mem hx
    exact h1 i hi
  generalize repN tc ss = R at *
  (repeat' (first
  | (apply W.qd; (first
    | (apply (yW (hva)); exact rfl; exact rfl; (iterate 3 kernel_rfl))|(apply q_mv; (conv => lhs; whnf))|(apply q_as; (conv => lhs; whnf))|(apply yT; (iterate 4 exact rfl))|(apply yU; (iterate 4 exact rfl))|(apply q_not; exact rfl)
    | (apply yV; exact rfl; exact rfl)))
  | (apply W.ed; (first
    | (apply yBb; (iterate 3 exact rfl); kernel_rfl; kernel_rfl)
    | (apply yCb; (iterate 3 exact rfl); kernel_rfl)))|(apply yA)|(apply yB)|(apply (W.regionS 4); exact rfl; kernel_rfl)|(apply yE)|(apply yG)|(apply yH)
  | (apply yR; exact rfl)))
  refine AWP.loopW (α := Nat) (fun k => k ≤ ss.length ∧ ∀ j (hj : j < ss.length), j < k → srB ss[j] = true) (fun k => ⟨[(24, iV k), (23, iV ss.length), (22, srcs ss), (2, .opt 0 0), (3, .opt 1 0), (4, .opt 2 0)], [.box ((cdD tc).map .d), .box [srcs ss], .box [.d (.v (.slice none 0 0)), .d (.v (.slice none 0 0)), .d (.v (.slice none 0 0))]]⟩) (fun k => ss.length - k) 0 ⟨Nat.zero_le _, fun j hj h => by omega⟩ ?wkA fun k hk => ?_
  case wkA => exact ⟨[0, 1, 2], rfl, rfl, rfl, rfl, iV_eq (by rw [hms]), rfl, rfl, rfl, rfl, trivial⟩
  by_cases hkl : k < ss.length
  · have hv := A_srv (h.s _ (List.getElem_mem hkl))
    have hb0 := hbad k hkl
    have hnx : srB ss[k] = true → ∀ j (hj : j < ss.length), j < k + 1 → srB ss[j] = true := fun h1 j hj hjk => by
      by_cases e : j = k
      · subst e; exact h1
      · exact hk.2 j hj (by omega)
    clear hk hbad hgood
    generalize srB ss[k] = b at *
    cases b with
    | false =>
      rw [hb0 rfl]
      (repeat' (first
  | (apply W.qd; (first
    | (apply (yW (hv)); exact rfl; exact rfl; (iterate 3 kernel_rfl))|(apply q_as; (conv => lhs; whnf))|(apply yU; (iterate 4 exact rfl))|(apply q_lss; exact rfl; exact rfl)|(apply q_not; exact rfl)|(apply yY; (iterate 3 exact rfl); (first | omega | (focus (simp; done))))|(apply yZ; exact rfl; exact rfl; kernel_rfl)
    | (apply yGb; (iterate 4 exact rfl); (first | (with_reducible exact rfl) | exact natI_spec rfl | assumption | exact (Int.toNat_of_nonneg (by omega)).symm); (first | omega | (focus (simp only [List.length_map]; omega)) | (focus (simp; done)) | (focus (simp; omega))))))|(apply W.ed; (apply yCb; (iterate 3 exact rfl); kernel_rfl))|(apply W.ln; (apply l_st_box; (iterate 6 exact rfl); (iterate 3 kernel_rfl)))|(apply yA)|(apply yB)|(apply yC; kernel_rfl)|(apply yE)|(apply yG)|(apply yH)|(apply yJ)|(apply yP)|(apply yN)|(apply yQ; exact rfl)
  | (refine W.cond _ rfl (fun hb => ?_) (fun hb => ?_) <;> ((try simp only [hb, zA, zB]) <;> (try simp only [zC, zD, zE, zF, zG, zH, zI, zJ] at hb) <;> (try (exfalso; omega))))))
      all_goals exact ⟨.inl rfl, [], [.agg [.d (.v (.slice none 0 0)), .d (.v (.slice none 0 0)), .d (.v (.slice none 0 0))], iV 1], rfl, ⟨⟨2, _, true, rfl, rfl, rfl, rfl⟩, rfl, trivial⟩, repA_err, rfl⟩
    | true =>
      (repeat' (first
  | (apply W.qd; (first
    | (apply (yW (hv)); exact rfl; exact rfl; (iterate 3 kernel_rfl))|(apply q_mv; (conv => lhs; whnf))|(apply yU; (iterate 4 exact rfl))|(apply q_lss; exact rfl; exact rfl)|(apply q_not; exact rfl)|(apply q_add; exact rfl; exact rfl; omega)|(apply yY; (iterate 3 exact rfl); (first | omega | (focus (simp; done))))
    | (apply yGb; (iterate 4 exact rfl); (first | (with_reducible exact rfl) | exact natI_spec rfl | assumption | exact (Int.toNat_of_nonneg (by omega)).symm); (first | omega | (focus (simp only [List.length_map]; omega)) | (focus (simp; done)) | (focus (simp; omega))))))|(apply W.ed; (apply yCb; (iterate 3 exact rfl); kernel_rfl))|(apply W.ln; (apply l_st_box; (iterate 6 exact rfl); (iterate 3 kernel_rfl)))|(apply yA)|(apply yB)|(apply yC; kernel_rfl)|(apply yE)|(apply yG)|(apply yH)|(apply yL)|(apply yR; exact rfl)
  | (refine W.cond _ rfl (fun hb => ?_) (fun hb => ?_) <;> ((try simp only [hb, zA, zB]) <;> (try simp only [zC, zD, zE, zF, zG, zH, zI, zJ] at hb) <;> (try (exfalso; omega))))))
      all_goals exact ⟨k + 1, ⟨by omega, hnx rfl⟩, by omega, [0, 1, 2], rfl, rfl, rfl, iV_eq (by omega), rfl, rfl, rfl, rfl, rfl, trivial⟩
  have hall : ∀ i (hi : i < ss.length), srB ss[i] = true := fun i hi => hk.2 i hi (by omega)
  have hR := hgood hall
  clear hbad hgood hk
  subst hR
  obtain ⟨M, D, ps, e1, e2, e3, hok⟩ := ok_valid hV
  rw [e1, e2, e3, Int.toNat_natCast, Int.toNat_natCast, toZ_back]
  have hD1 := hok.d
  have hw1 := hok.w
  have hlive := A_live0 (ss := ss)
  obtain ⟨nm, M', D', par, dom⟩ := tc
  dsimp only at e1 e2 e3
  subst e1 e2 e3
  (repeat' (first
  | (apply W.qd; (apply q_lss; exact rfl; exact rfl))|(apply W.ed; (apply yCb; (iterate 3 exact rfl); kernel_rfl))|(apply yA)|(apply yB)|(apply (W.regionS 11); exact rfl; kernel_rfl)|(apply yE)|(apply yI)|(apply yK)|(apply yM)
  | (refine W.cond _ rfl (fun hb => ?_) (fun hb => ?_) <;> ((try simp only [hb, zA, zB]) <;> (try simp only [zC, zD, zE, zF, zG, zH, zI, zJ] at hb) <;> (try (exfalso; omega))))))
  refine AWP.nilBox (l' := [.osl 5 0 0 0, .d (.v (.slice none 0 0)), .d (.v (.slice none 0 0))]) 3 0 1 47 rfl rfl (by omega) rfl rfl rfl rfl ?_
  refine AWP.nilBox (l' := [.osl 5 0 0 0, .osl 6 0 0 0, .d (.v (.slice none 0 0))]) 3 1 4 65 rfl rfl (by omega) rfl rfl rfl rfl ?_
  refine AWP.nilBox (l' := [.osl 5 0 0 0, .osl 6 0 0 0, .osl 7 0 0 0]) 3 2 2 129 rfl rfl (by omega) rfl rfl rfl rfl ?_
  refine AWP.nilBox (l' := [.osl 8 0 0 0]) 4 0 1 9 rfl rfl (by omega) rfl rfl rfl rfl ?_
  (repeat' (first
  | (apply W.qd; (apply yT; (iterate 4 exact rfl)))|(apply W.ed; (apply (e_callJ (js := []) (hlive)); (iterate 5 exact rfl); kernel_rfl; kernel_rfl))|(apply yB)|(apply yC; kernel_rfl)|(apply yE)
  | (apply yG)))
  have hP0 : packN (recAt ss) (preL ss 0 0) = ⟨[], [], []⟩ := by rw [preL_zero]; rfl
  refine AWP.wk ⟨[(34, .fn 121 [.opt 9 0]), (2, .opt 0 0), (3, .opt 1 0), (4, .opt 2 0), (8, .opt 3 0), (9, .opt 4 0)], [.box [bS nm, iV (M : Int), iV (D : Int), rowsA (toZ ps), iV dom], .box [srcs ss], .box [.d (.v (.slice none 0 0)), .d (.v (.slice none 0 0)), .d (.v (.slice none 0 0))], .box [.osl 5 0 0 0, .osl 6 (movN D (packN (recAt ss) (preL ss 0 0)).from').length 0 (movN D (packN (recAt ss) (preL ss 0 0)).from').length, .osl 7 (packN (recAt ss) (preL ss 0 0)).lost.length 0 (packN (recAt ss) (preL ss 0 0)).lost.length], .box [.osl 8 (packN (recAt ss) (preL ss 0 0)).data.length 0 (packN (recAt ss) (preL ss 0 0)).data.length], .row 0 1 47 [], .row (movN D (packN (recAt ss) (preL ss 0 0)).from').length 4 65 ((movN D (packN (recAt ss) (preL ss 0 0)).from').map mvD), .row (packN (recAt ss) (preL ss 0 0)).lost.length 2 129 ((packN (recAt ss) (preL ss 0 0)).lost.map tmD), .row (packN (recAt ss) (preL ss 0 0)).data.length 1 9 ((packN (recAt ss) (preL ss 0 0)).data.map sD), .box [srcs ss]]⟩ (by rw [hP0]; exact ⟨[0, 1, 2, 3, 4, 5, 6, 7, 8, 9], rfl, rfl, rfl, by (repeat (first | exact trivial | refine ⟨rfl, ?_⟩))⟩) ?_
  refine AWP.range (s2 := ⟨[(2, .opt 0 0), (4, .opt 2 0), (8, .opt 3 0), (9, .opt 4 0)], [.box [bS nm, iV (M : Int), iV (D : Int), rowsA (toZ ps), iV dom], .box [srcs ss], .box [.d (.v (.slice none 0 0)), .d (.v (.slice none 0 0)), .d (.v (.slice none 0 0))], .box [.osl 5 0 0 0, .osl 6 (movN D (packN (recAt ss) (preL ss ss.length 0)).from').length 0 (movN D (packN (recAt ss) (preL ss ss.length 0)).from').length, .osl 7 (packN (recAt ss) (preL ss ss.length 0)).lost.length 0 (packN (recAt ss) (preL ss ss.length 0)).lost.length], .box [.osl 8 (packN (recAt ss) (preL ss ss.length 0)).data.length 0 (packN (recAt ss) (preL ss ss.length 0)).data.length], .row 0 1 47 [], .row (movN D (packN (recAt ss) (preL ss ss.length 0)).from').length 4 65 ((movN D (packN (recAt ss) (preL ss ss.length 0)).from').map mvD), .row (packN (recAt ss) (preL ss ss.length 0)).lost.length 2 129 ((packN (recAt ss) (preL ss ss.length 0)).lost.map tmD), .row (packN (recAt ss) (preL ss ss.length 0)).data.length 1 9 ((packN (recAt ss) (preL ss ss.length 0)).data.map sD)]⟩) rfl (by kernel_rfl)
    (A_liveIter (e3 := fun p => .box [.osl 5 0 0 0, .osl 6 (movN D (packN (recAt ss) p).from').length 0 (movN D (packN (recAt ss) p).from').length, .osl 7 (packN (recAt ss) p).lost.length 0 (packN (recAt ss) p).lost.length]) (e4 := fun p => .box [.osl 8 (packN (recAt ss) p).data.length 0 (packN (recAt ss) p).data.length]) (e6 := fun p => .row (movN D (packN (recAt ss) p).from').length 4 65 ((movN D (packN (recAt ss) p).from').map mvD)) (e7 := fun p => .row (packN (recAt ss) p).lost.length 2 129 ((packN (recAt ss) p).lost.map tmD)) (e8 := fun p => .row (packN (recAt ss) p).data.length 1 9 ((packN (recAt ss) p).data.map sD)) hsl (fun s hs => (h.s s hs).ll) (fun p Y => rfl) (fun i hi k hk => ?_)) rfl (by decide) ⟨[0, 1, 2, 3, 4, 5, 6, 7, 8], rfl, rfl, rfl, by (repeat (first | exact trivial | refine ⟨rfl, ?_⟩))⟩ ?_
  · have hvi := hall i hi
    have hSi := h.s _ (List.getElem_mem hi)
    have hrec := A_srec hvi hSi hk
    have hlen := pack_len (recAt ss) (preL ss i k)
    have hple := preL_le (k := k) hi
    have htot := h.tot
    obtain ⟨_, _, _, _, _, _, _, hnn⟩ := sr_ok hvi hSi.b
    have hnn := (hnn k hk).1
    obtain ⟨v, hv⟩ : ∃ v : Nat, ss[i].2.2.2[k] = v := ⟨ss[i].2.2.2[k].toNat, by omega⟩
    have hmvl := movN_len D (packN (recAt ss) (preL ss i k)).from'
    cases hr : recSr ss[i] ss[i].2.2.2[k].toNat with
    | none =>
      have hst := pack_none hi hk hr
      rw [hr] at hrec
      unfold recR at hrec
      dsimp only at hrec ⊢
      rw [hv, Int.toNat_natCast] at hst
      rw [hv] at hrec ⊢
      have e9 : ((packN (recAt ss) (preL ss i k)).lost ++ [(i, v)]).length = (packN (recAt ss) (preL ss i k)).lost.length + 1 := by simp
      rw [hst]
      dsimp only
      generalize packN (recAt ss) (preL ss i k) = PK at *
      obtain ⟨C, A0, B⟩ := PK
      dsimp only at *
      generalize movN D A0 = A at *
      refine YAt.ok (own1 := [.box [bS nm, iV (M : Int), iV (D : Int), rowsA (toZ ps), iV dom], .box [srcs ss], .box [.d (.v (.slice none 0 0)), .d (.v (.slice none 0 0)), .d (.v (.slice none 0 0))], .box [.osl 5 0 0 0, .osl 6 A.length 0 A.length, .osl 7 (B.length + 1) 0 (B ++ [(i, v)]).length], .box [.osl 8 C.length 0 C.length], .row 0 1 47 [], .row A.length 4 65 (A.map mvD), .row (B.length + 1) 2 129 ((B ++ [(i, v)]).map tmD), .row C.length 1 9 (C.map sD), .box [srcs ss], .lp .busy none #[35, 36] _ _ _, .box ((srD ss[i]).map .d)]) (s2 := ⟨[(10, iV i), (11, iV v), (2, .opt 0 0), (3, .opt 1 0), (8, .opt 3 0), (9, .opt 4 0)], _⟩) rfl rfl rfl rfl (fun g => ?_) rfl (fun g => ?_) rfl (by rw [e9]; rfl)
      · refine AWP.toW ?_
        (repeat' (first
  | (apply W.qd; (apply q_as; (conv => lhs; whnf)))|(apply yA)|(apply yB)|(apply yC; kernel_rfl)
  | (apply yE)))
        exact ⟨rfl, ⟨[0, 1, 2, 3, 4, 5, 6, 7, 8, 9, 10, 11], rfl, rfl, rfl, by (repeat (first | exact trivial | refine ⟨rfl, ?_⟩))⟩⟩
      · refine AWP.toO ?_
        (repeat' (first
  | (apply W.qd; (first
    | (apply (yW (hrec)); exact rfl; exact rfl; (iterate 3 kernel_rfl))|(apply q_mv; (conv => lhs; whnf))|(apply q_as; (conv => lhs; whnf))|(apply yS; (iterate 3 exact rfl))|(apply yT; (iterate 4 exact rfl))|(apply yU; (iterate 4 exact rfl))|(apply q_neq; exact rfl; exact rfl)|(apply yAb; exact rfl; exact rfl)|(apply yY; (iterate 3 exact rfl); (first | omega | (focus (simp; done))))|(apply yZ; exact rfl; exact rfl; kernel_rfl)|(apply q_litF; (iterate 5 exact rfl); kernel_rfl; kernel_rfl; exact rfl)
    | (apply yGb; (iterate 4 exact rfl); (first | (with_reducible exact rfl) | exact natI_spec rfl | assumption | exact (Int.toNat_of_nonneg (by omega)).symm); (first | omega | (focus (simp only [List.length_map]; omega)) | (focus (simp; done)) | (focus (simp; omega))))))
  | (apply W.ed; (first
    | ((apply (e_app1F (f := tmD) (i, v)); (iterate 8 exact rfl); omega))
    | (apply yCb; (iterate 3 exact rfl); kernel_rfl)))|(apply W.ln; (apply l_st_box; (iterate 6 exact rfl); (iterate 3 kernel_rfl)))|(apply yA)|(apply yB)|(apply yC; kernel_rfl)|(apply yE)|(apply yG)|(apply yI)|(apply yK)|(apply yM)
  | (apply yQ; exact rfl)))
        exact ⟨rfl, ⟨[0, 1, 2, 3, 4, 5, 6, 7, 8, 9, 10, 11], rfl, rfl, rfl, by (repeat (first | exact trivial | refine ⟨rfl, ?_⟩))⟩⟩
    | some x =>
      have hst := pack_some hi hk hr
      rw [hr] at hrec
      unfold recR at hrec
      dsimp only at hrec ⊢
      rw [hv, Int.toNat_natCast] at hst
      rw [hv] at hrec ⊢
      rw [hst]
      dsimp only
      rw [movN_snoc]
      dsimp only
      generalize packN (recAt ss) (preL ss i k) = PK at *
      obtain ⟨C, A0, B⟩ := PK
      dsimp only at *
      rw [← hlen.1]
      generalize movN D A0 = A at *
      have e8 : (A ++ [((i, v, C.length / D, C.length % D) : Mv)]).length = A.length + 1 := by simp
      have e9 : (C ++ [x]).length = C.length + 1 := by simp
      refine YAt.ok (own1 := [.box [bS nm, iV (M : Int), iV (D : Int), rowsA (toZ ps), iV dom], .box [srcs ss], .box [.d (.v (.slice none 0 0)), .d (.v (.slice none 0 0)), .d (.v (.slice none 0 0))], .box [.osl 5 0 0 0, .osl 6 (A.length + 1) 0 (A ++ [((i, v, C.length / D, C.length % D) : Mv)]).length, .osl 7 B.length 0 B.length], .box [.osl 8 (C.length + 1) 0 (C ++ [x]).length], .row 0 1 47 [], .row (A.length + 1) 4 65 ((A ++ [((i, v, C.length / D, C.length % D) : Mv)]).map mvD), .row B.length 2 129 (B.map tmD), .row (C.length + 1) 1 9 ((C ++ [x]).map sD), .box [srcs ss], .lp .busy none #[35, 36] _ _ _, .box ((srD ss[i]).map .d)]) (s2 := ⟨[(10, iV i), (11, iV v), (2, .opt 0 0), (3, .opt 1 0), (8, .opt 3 0), (9, .opt 4 0)], _⟩) rfl rfl rfl rfl (fun g => ?_) rfl (fun g => ?_) rfl (by rw [e8, e9]; rfl)
      · refine AWP.toW ?_
        (repeat' (first
  | (apply W.qd; (apply q_as; (conv => lhs; whnf)))|(apply yA)|(apply yB)|(apply yC; kernel_rfl)
  | (apply yE)))
        exact ⟨rfl, ⟨[0, 1, 2, 3, 4, 5, 6, 7, 8, 9, 10, 11], rfl, rfl, rfl, by (repeat (first | exact trivial | refine ⟨rfl, ?_⟩))⟩⟩
      · refine AWP.toO ?_
        (repeat' (first
  | (apply W.qd; (first
    | (apply (yW (hrec)); exact rfl; exact rfl; (iterate 3 kernel_rfl))|(apply q_mv; (conv => lhs; whnf))|(apply q_as; (conv => lhs; whnf))|(apply yS; (iterate 3 exact rfl))|(apply yT; (iterate 4 exact rfl))|(apply yU; (iterate 4 exact rfl))|(apply q_neq; exact rfl; exact rfl)|(apply q_quo; exact rfl; exact rfl; omega; omega; omega)|(apply q_rem; exact rfl; exact rfl; omega; omega)|(apply yAb; exact rfl; exact rfl)|(apply q_len_osl; (iterate 3 exact rfl))|(apply yY; (iterate 3 exact rfl); (first | omega | (focus (simp; done))))|(apply yZ; exact rfl; exact rfl; kernel_rfl)|(apply q_litF; (iterate 5 exact rfl); kernel_rfl; kernel_rfl; exact rfl)
    | (apply yGb; (iterate 4 exact rfl); (first | (with_reducible exact rfl) | exact natI_spec rfl | assumption | exact (Int.toNat_of_nonneg (by omega)).symm); (first | omega | (focus (simp only [List.length_map]; omega)) | (focus (simp; done)) | (focus (simp; omega))))))|(apply W.ld; (apply l_app1; (iterate 8 exact rfl); (first | omega | (focus (simp; omega)) | (focus (simp; done)))))
  | (apply W.ed; (first
    | ((apply (e_app1F (f := mvD) (i, v, C.length / D, C.length % D)); (iterate 8 exact rfl); omega))
    | (apply yCb; (iterate 3 exact rfl); kernel_rfl)))|(apply W.ln; (apply l_st_box; (iterate 6 exact rfl); (iterate 3 kernel_rfl)))|(apply yA)|(apply yB)|(apply yC; kernel_rfl)|(apply yD; exact rfl; kernel_rfl)|(apply yE)|(apply yF; kernel_rfl)|(apply yG)|(apply yH)|(apply yL)
  | (apply yR; exact rfl)))
        exact ⟨rfl, ⟨[0, 1, 2, 3, 4, 5, 6, 7, 8, 9, 10, 11], rfl, rfl, rfl, by (repeat (first | exact trivial | refine ⟨rfl, ?_⟩))⟩⟩
  dsimp only
  rw [preL_zero]
  have hun := pack_units hall h.s
  have hpl := pack_len (recAt ss) (liveTo ss ss.length)
  have htot := h.tot
  unfold repOk padS
  have hPS : packS ss = packN (recAt ss) (liveTo ss ss.length) := rfl
  rw [← hPS] at hpl ⊢
  generalize packS ss = PK at *
  clear hPS hP0
  obtain ⟨C, A0, B⟩ := PK
  dsimp only at *
  have hAl := movN_len D A0
  generalize movN D A0 = A at *
  have hz := A_zero
  have hpg := pad_ge D zero32 C
  have hps := fun l => pad_step (D := D) (by omega) zero32 l
  have hpd := fun l => pad_done (D := D) zero32 l
  have hpm := pad_mod (D := D) (by omega) zero32 C
  have hpu : ∀ x ∈ padN D zero32 C, isB x ∧ x.length = 32 := fun x hx => by
    rcases pad_mem hx with h1 | rfl
    · exact hun x h1
    · exact ⟨isB_zero 32, by simp [zero32]⟩
  have hps2 : ∀ l, padN D zero32 l = padN D zero32 C → l.length % D ≠ 0 → padN D zero32 (l ++ [zero32]) = padN D zero32 C ∧ l.length + 1 ≤ (padN D zero32 C).length := fun l h1 h2 => by
    have h3 := hps l h2
    refine ⟨h3.trans h1, ?_⟩
    have h4 := (pad_ge D zero32 (l ++ [zero32])).1
    rw [h3, h1, List.length_append, List.length_singleton] at h4
    exact h4
  have hpd2 : ∀ l, padN D zero32 l = padN D zero32 C → l.length % D = 0 → l = padN D zero32 C := fun l h1 h2 => by rw [← h1, hpd l h2]
  have hpC : padN D zero32 C = padN D zero32 C := rfl
  have hzz : zero32 = List.replicate 32 0 := rfl
  rw [← hzz] at hz
  clear hps hpd hun hzz hall
  generalize hPD : padN D zero32 C = PD at *
  clear hpC
  (repeat' (first
  | (apply W.qd; (first
    | (apply (yW (hz)); exact rfl; exact rfl; (iterate 3 kernel_rfl))
    | (apply q_as; (conv => lhs; whnf))))|(apply yA)|(apply yB)|(apply (W.regionS 21); exact rfl; kernel_rfl)|(apply yE)|(apply yG)
  | (apply yL)))
  refine AWP.loopW (α := List (List Nat)) (fun l => padN D zero32 l = PD ∧ l.length ≤ PD.length) (fun l => ⟨[(15, bS zero32), (2, .opt 0 0), (4, .opt 2 0), (8, .opt 3 0), (9, .opt 4 0)], [.box [bS nm, iV (M : Int), iV (D : Int), rowsA (toZ ps), iV dom], .box [srcs ss], .box [.d (.v (.slice none 0 0)), .d (.v (.slice none 0 0)), .d (.v (.slice none 0 0))], .box [.osl 5 0 0 0, .osl 6 A.length 0 A.length, .osl 7 B.length 0 B.length], .box [.osl 8 l.length 0 l.length], .row 0 1 47 [], .row A.length 4 65 (A.map mvD), .row B.length 2 129 (B.map tmD), .row l.length 1 9 (l.map sD)]⟩) (fun l => PD.length - l.length) C ⟨hPD, by omega⟩ ⟨[0, 1, 2, 3, 4, 5, 6, 7, 8], rfl, rfl, rfl, by (repeat (first | exact trivial | refine ⟨rfl, ?_⟩))⟩ fun l hl => ?_
  have hmz : ((l.length : Int) % (D : Int)) = ((l.length % D : Nat) : Int) := rfl
  by_cases hm0 : l.length % D ≠ 0
  · have hp2 := hps2 l hl.1 hm0
    have e9 : (l ++ [zero32]).length = l.length + 1 := by simp
    clear hps2 hpd2 hpu
    (repeat' (first
  | (apply W.qd; (first
    | (apply q_mv; (conv => lhs; whnf))|(apply yS; (iterate 3 exact rfl))|(apply yT; (iterate 4 exact rfl))|(apply q_neq; exact rfl; exact rfl)|(apply q_rem; exact rfl; exact rfl; omega; omega)|(apply q_len_osl; (iterate 3 exact rfl))
    | (apply q_litF; (iterate 5 exact rfl); kernel_rfl; kernel_rfl; exact rfl)))|(apply W.ld; (apply l_app1; (iterate 8 exact rfl); (first | omega | (focus (simp; omega)) | (focus (simp; done)))))|(apply W.ln; (apply l_st_box; (iterate 6 exact rfl); (iterate 3 kernel_rfl)))|(apply yA)|(apply yB)|(apply yC; kernel_rfl)|(apply yE)|(apply yG)|(apply yH)|(apply yL)
  | (refine W.cond _ rfl (fun hb => ?_) (fun hb => ?_) <;> ((try simp only [hb, zA, zB]) <;> (try simp only [zC, zD, zE, zF, zG, zH, zI, zJ] at hb) <;> (try (exfalso; omega))))))
    all_goals first
      | (exfalso; omega)|(refine ⟨l ++ [zero32], ⟨hp2.1, by omega⟩, by omega, ?_⟩; (try dsimp only); rw [show @AV.osl 8 (l ++ [zero32]).length 0 (l ++ [zero32]).length = .osl 8 (l.length + 1) 0 (l ++ [zero32]).length by rw [e9], show Ent.row (l ++ [zero32]).length 1 9 ((l ++ [zero32]).map sD) = .row (l.length + 1) 1 9 ((l ++ [zero32]).map sD) by rw [e9]]; exact ⟨[0, 1, 2, 3, 4, 5, 6, 7, 8], rfl, rfl, rfl, by (repeat (first | exact trivial | refine ⟨rfl, ?_⟩))⟩)
  obtain rfl : l = PD := hpd2 l hl.1 (by omega)
  clear hps2 hpd2 hl hPD
  obtain ⟨N, hN⟩ : ∃ N, l.length = N * D := ⟨l.length / D, by rw [Nat.div_mul_cancel (Nat.dvd_of_mod_eq_zero hpm)]⟩
  have hND : l.length / D = N := by rw [hN, Nat.mul_div_cancel _ (by omega)]
  rw [hND]
  (repeat' (first
  | (apply W.qd; (first
    | (apply yS; (iterate 3 exact rfl))|(apply yT; (iterate 4 exact rfl))|(apply q_neq; exact rfl; exact rfl)|(apply q_rem; exact rfl; exact rfl; omega; omega)
    | (apply q_len_osl; (iterate 3 exact rfl))))|(apply yA)|(apply yB)|(apply (W.regionS 23); exact rfl; kernel_rfl)|(apply yE)|(apply yG)|(apply yI)|(apply yK)|(apply yM)
  | (refine W.cond _ rfl (fun hb => ?_) (fun hb => ?_) <;> ((try simp only [hb, zA, zB]) <;> (try simp only [zC, zD, zE, zF, zG, zH, zI, zJ] at hb) <;> (try (exfalso; omega))))))
  all_goals try (exfalso; omega)
  have hcs := fun q => cutN_succ M D ps l q
  have hcl := fun q => cutN_len M D ps l q
  have hc0 : cutN M D ps l 0 = [] := rfl
  have hNle : N ≤ l.length := by rw [hN]; exact Nat.le_mul_of_pos_right N (by omega)
  refine AWP.loopW (α := Nat) (fun q => q ≤ N) (fun q => ⟨[(2, .opt 0 0), (4, .opt 2 0), (8, .opt 3 0), (9, .opt 4 0)], [.box [bS nm, iV (M : Int), iV (D : Int), rowsA (toZ ps), iV dom], .box [srcs ss], .box [.d (.v (.slice none 0 0)), .d (.v (.slice none 0 0)), .d (.v (.slice none 0 0))], .box [.osl 5 q 0 (cutN M D ps l q).length, .osl 6 A.length 0 A.length, .osl 7 B.length 0 B.length], .box [strs (l.drop (q * D))], .row q 1 47 ((cutN M D ps l q).map stD), .row A.length 4 65 (A.map mvD), .row B.length 2 129 (B.map tmD)]⟩) (fun q => N - q) 0 (Nat.zero_le _) ?wkC fun q hq => ?_
  case wkC =>
    refine ⟨[0, 1, 2, 3, 4, 5, 6, 7], rfl, rfl, ?_, rfl, rfl, rfl, rfl, trivial⟩
    simp [selOwn, Ent.frz, AV.frz, AV.frzL, plc, frzSl, hc0]
    exact (List.take_of_length_le (by simp)).symm
  have hqs : q < N → q * D + D ≤ l.length := fun h => by
    have := Nat.mul_le_mul_right D (show q + 1 ≤ N by omega)
    rw [Nat.add_mul, Nat.one_mul] at this; omega
  have hRl : (l.drop (q * D)).length = l.length - q * D := List.length_drop
  have hRm : ((l.drop (q * D)).map sD).length = (l.drop (q * D)).length := List.length_map _
  have hSl := hcl q
  by_cases hqN : q < N
  · have h1 := hqs hqN
    have hen := A_encode hok (us := (l.drop (q * D)).take D) (by rw [List.length_take]; omega) (fun u hu => hpu u (List.mem_of_mem_drop (List.mem_of_mem_take hu))) (n := 32) (by omega) (fit32 hok.f)
    rw [cdN_A] at hen
    have hen := hen.cdF (nm := nm) (dom := dom)
    have hrest : ((l.drop (q * D)).drop D).take ((l.drop (q * D)).length - D) = l.drop ((q + 1) * D) := by
      rw [List.take_of_length_le (by rw [List.length_drop]; omega), List.drop_drop, Nat.add_mul, Nat.one_mul]
    have hcq := hcs q
    clear hcs hcl hpu
    replace hcq := Lib.hid hcq
    replace hrest := Lib.hid hrest
    generalize encN M ps ((l.drop (q * D)).take D) = U at *
    generalize cutN M D ps l q = S at *
    generalize l.drop (q * D) = R at *
    have hen : ACalls Tryz.prog 41 [cdF nm M D (toZ ps) dom, strs ((R.drop 0).take (D - 0))] [] (.tup [strs U, iV 0]) [] := hen
    (repeat' (first
  | (apply W.qd; (first
    | (apply (yW (hen)); exact rfl; exact rfl; (iterate 3 kernel_rfl))|(apply q_mv; (conv => lhs; whnf))|(apply q_as; (conv => lhs; whnf))|(apply yS; (iterate 3 exact rfl))|(apply yT; (iterate 4 exact rfl))|(apply yU; (iterate 4 exact rfl))|(apply q_gtr; exact rfl; exact rfl)|(apply q_neq; exact rfl; exact rfl)|(apply yAb; exact rfl; exact rfl)|(apply yV; exact rfl; exact rfl)|(apply q_litF; (iterate 5 exact rfl); kernel_rfl; kernel_rfl; exact rfl)
    | (apply q_slc_map; exact rfl; exact rfl; (first | exact ⟨_, _, rfl, rfl⟩ | exact ⟨_, _, rfl, natI_spec rfl⟩ | exact ⟨_, _, rfl, (Int.toNat_of_nonneg (by omega)).symm⟩ | exact rfl); (first | exact ⟨_, _, rfl, rfl⟩ | exact ⟨_, _, rfl, natI_spec rfl⟩ | exact ⟨_, _, rfl, (Int.toNat_of_nonneg (by omega)).symm⟩ | exact rfl); (first | omega | (focus (simp only [List.length_map]; omega)) | (focus (simp; done)) | (focus (simp; omega))); (first | omega | (focus (simp only [List.length_map]; omega)) | (focus (simp; done)) | (focus (simp; omega))); exact Or.inl rfl)))|(apply W.ld; (apply l_app1; (iterate 8 exact rfl); (first | omega | (focus (simp; omega)) | (focus (simp; done)))))|(apply W.ln; (apply l_st_box; (iterate 6 exact rfl); (iterate 3 kernel_rfl)))|(apply yA)|(apply yB)|(apply yC; kernel_rfl)|(apply yD; exact rfl; kernel_rfl)|(apply yE)|(apply yF; kernel_rfl)|(apply yG)|(apply yH)|(apply yL)|(apply yR; exact rfl)
  | (refine W.cond _ rfl (fun hb => ?_) (fun hb => ?_) <;> ((try simp only [hb, zA, zB]) <;> (try simp only [zC, zD, zE, zF, zG, zH, zI, zJ] at hb) <;> (try (exfalso; omega))))))
    all_goals try (exfalso; omega)
    refine ⟨q + 1, by omega, by omega, ?_⟩
    rw [hcq.out, ← hrest.out]
    exact ⟨[0, 1, 2, 3, 4, 5, 6, 7], rfl, rfl, rfl, by (repeat (first | exact trivial | refine ⟨rfl, ?_⟩))⟩
  · obtain rfl : q = N := by omega
    clear hcs hcl hpu
    generalize cutN M D ps l q = S at *
    generalize l.drop (q * D) = R at *
    (repeat' (first
  | (apply W.qd; (first
    | (apply q_as; (conv => lhs; whnf))|(apply yT; (iterate 4 exact rfl))|(apply yU; (iterate 4 exact rfl))|(apply q_gtr; exact rfl; exact rfl)
    | (apply yV; exact rfl; exact rfl)))|(apply W.ln; (apply l_st_box; (iterate 6 exact rfl); (iterate 3 kernel_rfl)))|(apply yA)|(apply yB)|(apply yC; kernel_rfl)|(apply yE)|(apply yI)|(apply yJ)|(apply yK)|(apply yM)
  | (refine W.cond _ rfl (fun hb => ?_) (fun hb => ?_) <;> ((try simp only [hb, zA, zB]) <;> (try simp only [zC, zD, zE, zF, zG, zH, zI, zJ] at hb) <;> (try (exfalso; omega))))))
    all_goals try (exfalso; omega)
    refine ⟨.inl rfl, [], [.agg [.osl 5 q 0 S.length, .osl 6 A.length 0 A.length, .osl 7 B.length 0 B.length], iV 0], rfl, ⟨⟨2, _, true, rfl, rfl, rfl, rfl⟩, rfl, trivial⟩, AVle.of_eq ?_, rfl⟩
    show AV.tup [AV.agg [AV.frz _ [] (.osl 5 q 0 S.length), AV.frz _ [] (.osl 6 A.length 0 A.length), AV.frz _ [] (.osl 7 B.length 0 B.length)], iV 0] = _
    rw [frz_rowJ (i := 5) (ver := q) (n := S.length) (l := S.map stD) rfl rfl (by simp), frz_rowJ (i := 6) (ver := A.length) (n := A.length) (l := A.map mvD) rfl rfl (by simp), frz_rowJ (i := 7) (ver := B.length) (n := B.length) (l := B.map tmD) rfl rfl (by simp)]
end Go.Proofs.YtcljokdiblnhiaaGreatDoor
end
section
namespace Go.Proofs.YtcljokdiblnhiaaGreatDoor
open Go.RowKit
set_option maxHeartbeats 8000000
set_option maxRecDepth 100000
def u32 (b : Nat) : List Nat := List.replicate 32 b
theorem isB_u32 {b : Nat} (h : b < 256) : isB (u32 b) := fun x hx => by rw [List.eq_of_mem_replicate hx]; exact h
attribute [local irreducible] Quiet Eff OpOk AWPG ACont ABlock ACalls AGoto
theorem A_few39 {c : Cd} : ACalls Tryz.prog 20 [cdA1 c] [] (bV (few30 c)) [] := by
  obtain ⟨nm, M, D, par, dom⟩ := c
  show ACalls Tryz.prog 20 [cdF nm M D par dom] [] (bV (few30 (nm, M, D, par, dom))) []
  refine acalls_of_body Tryz.func20 rfl (Nat.le_of_ble_eq_true rfl) ?_
  have hmp : (par.map rD).length = par.length := List.length_map _
  unfold few30
  dsimp only
  by_cases h1 : 0 ≤ D
  · by_cases h2 : D ≤ 5
    · by_cases h3 : par.length ≤ 5
      · rw [decide_eq_true h1, decide_eq_true h2, decide_eq_true h3]
        (repeat' (first
  | (apply yFb; exact rfl; exact rfl)
  | (apply W.qd; (first
    | (apply q_mv; (conv => lhs; whnf))|(apply q_as; (conv => lhs; whnf))|(apply yS; (iterate 3 exact rfl))|(apply yT; (iterate 4 exact rfl))|(apply q_leq; exact rfl; exact rfl)|(apply q_geq; exact rfl; exact rfl)|(apply q_add; exact rfl; exact rfl; omega)|(apply yV; exact rfl; exact rfl)
    | (apply (yEb (u := .d _)); exact rfl; exact rfl)))|(apply W.ed; (apply yBb; (iterate 3 exact rfl); kernel_rfl; kernel_rfl))|(apply yA)|(apply yB)|(apply yC; kernel_rfl)|(apply yE)|(apply yJ)
  | (refine W.gT _ _ rfl rfl (fun hb => ?_) (fun hb => ?_) <;> ((try simp only [hb, zA, zB]) <;> (try simp only [zC, zD, zE, zF, zG, zH, zI, zJ] at hb) <;> (try (exfalso; omega))))))
        all_goals refine Ends.b rfl ?_
        all_goals simp [hmp]
      · rw [decide_eq_true h1, decide_eq_true h2, decide_eq_false h3]
        (repeat' (first
  | (apply yFb; exact rfl; exact rfl)
  | (apply W.qd; (first
    | (apply q_mv; (conv => lhs; whnf))|(apply q_as; (conv => lhs; whnf))|(apply yS; (iterate 3 exact rfl))|(apply yT; (iterate 4 exact rfl))|(apply q_leq; exact rfl; exact rfl)|(apply q_geq; exact rfl; exact rfl)|(apply yV; exact rfl; exact rfl)|(apply (yEb (u := .d _)); exact rfl; exact rfl)
    | (apply (yDb (u := .d _)); exact rfl; exact rfl)))|(apply W.ed; (apply yBb; (iterate 3 exact rfl); kernel_rfl; kernel_rfl))|(refine W.gOff _ _ rfl rfl (by intro h; cases h) ?_)|(apply yA)|(apply yB)|(apply yC; kernel_rfl)|(apply yE)|(apply yJ)
  | (refine W.gT _ _ rfl rfl (fun hb => ?_) (fun hb => ?_) <;> ((try simp only [hb, zA, zB]) <;> (try simp only [zC, zD, zE, zF, zG, zH, zI, zJ] at hb) <;> (try (exfalso; omega))))))
        all_goals exact Ends.b rfl rfl
    · rw [decide_eq_true h1, decide_eq_false h2]
      (repeat' (first
  | (apply yFb; exact rfl; exact rfl)
  | (apply W.qd; (first
    | (apply q_mv; (conv => lhs; whnf))|(apply q_as; (conv => lhs; whnf))|(apply yS; (iterate 3 exact rfl))|(apply yT; (iterate 4 exact rfl))|(apply q_leq; exact rfl; exact rfl)|(apply q_geq; exact rfl; exact rfl)|(apply (yEb (u := .d _)); exact rfl; exact rfl)
    | (apply (yDb (u := .d _)); exact rfl; exact rfl)))|(apply W.ed; (apply yBb; (iterate 3 exact rfl); kernel_rfl; kernel_rfl))|(refine W.gOff _ _ rfl rfl (by intro h; cases h) ?_)|(apply yA)|(apply yB)|(apply yC; kernel_rfl)|(apply yE)|(apply yJ)
  | (refine W.gT _ _ rfl rfl (fun hb => ?_) (fun hb => ?_) <;> ((try simp only [hb, zA, zB]) <;> (try simp only [zC, zD, zE, zF, zG, zH, zI, zJ] at hb) <;> (try (exfalso; omega))))))
      all_goals exact Ends.b rfl rfl
  · rw [decide_eq_false h1]
    (repeat' (first
  | (apply W.qd; (first
    | (apply q_mv; (conv => lhs; whnf))|(apply q_as; (conv => lhs; whnf))|(apply yS; (iterate 3 exact rfl))|(apply yT; (iterate 4 exact rfl))|(apply q_geq; exact rfl; exact rfl)
    | (apply (yDb (u := .d _)); exact rfl; exact rfl)))|(apply W.ed; (apply yBb; (iterate 3 exact rfl); kernel_rfl; kernel_rfl))|(refine W.gOff _ _ rfl rfl (by intro h; cases h) ?_)|(apply yA)|(apply yB)|(apply yC; kernel_rfl)|(apply yE)|(apply yJ)
  | (refine W.gT _ _ rfl rfl (fun hb => ?_) (fun hb => ?_) <;> ((try simp only [hb, zA, zB]) <;> (try simp only [zC, zD, zE, zF, zG, zH, zI, zJ] at hb) <;> (try (exfalso; omega))))))
    all_goals exact Ends.b rfl rfl
theorem A_unit39 {b : Nat} (hb : b < 256) : ACalls Tryz.prog 45 [.d (.v (.int .u8 b))] [] (bS (u32 b)) [] := by
  refine acalls_of_body Tryz.func45 rfl (Nat.le_of_ble_eq_true rfl) ?_
  (repeat' (first
  | (apply W.qd; (apply q_as; (conv => lhs; whnf)))|(apply yA)|(apply yB)|(apply (W.regionS 2); exact rfl; kernel_rfl)
  | (apply yE)))
  refine AWP.nilRow 3 1 5 rfl (by omega) ?_
  (repeat' (first
  | (apply W.qd; (apply q_as; (conv => lhs; whnf)))|(apply yB)|(apply (W.regionS 3); exact rfl; kernel_rfl)|(apply yE)
  | (apply yG)))
  refine AWP.loopW (α := Nat) (fun i => i ≤ 32) (fun i => ⟨[(4, iV i), (3, .osl 0 i 0 (List.replicate i b).length), (0, .d (.v (.int .u8 b)))], [.row i 1 5 ((List.replicate i b).map nD)]⟩) (fun i => 32 - i) 0 (Nat.zero_le _) ⟨[0], rfl, rfl, rfl, by (repeat (first | exact trivial | refine ⟨rfl, ?_⟩))⟩ fun i hi => ?_
  by_cases hil : i < 32
  · have hrp : List.replicate (i + 1) b = List.replicate i b ++ [b] := List.replicate_succ'
    have hln : (List.replicate i b).length = i := List.length_replicate
    replace hrp := Lib.hid hrp
    generalize List.replicate i b = A at *
    (repeat' (first
  | (apply W.qd; (first
    | (apply q_mv; (conv => lhs; whnf))|(apply q_as; (conv => lhs; whnf))|(apply q_lss; exact rfl; exact rfl)|(apply q_add; exact rfl; exact rfl; omega)
    | (apply q_litF; (iterate 5 exact rfl); kernel_rfl; kernel_rfl; exact rfl)))|(apply W.ld; (apply l_app1; (iterate 8 exact rfl); (first | omega | (focus (simp; omega)) | (focus (simp; done)))))|(apply yA)|(apply yB)|(apply yC; kernel_rfl)|(apply yE)|(apply yG)|(apply yH)|(apply yL)
  | (refine W.cond _ rfl (fun hb => ?_) (fun hb => ?_) <;> ((try simp only [hb, zA, zB]) <;> (try simp only [zC, zD, zE, zF, zG, zH, zI, zJ] at hb) <;> (try (exfalso; omega))))))
    all_goals try (exfalso; omega)
    refine ⟨i + 1, by omega, by omega, ?_⟩
    rw [hrp.out]
    exact ⟨[0], rfl, rfl, rfl, iV_eq (by omega), rfl, rfl, trivial⟩
  · obtain rfl : i = 32 := by omega
    have hu := isB_u32 hb
    rw [show List.replicate 32 b = u32 b from rfl]
    have hul : (u32 b).length = 32 := List.length_replicate
    generalize u32 b = U at *
    (repeat' (first
  | (apply W.qd; (first
    | (apply q_mv; (conv => lhs; whnf))|(apply q_as; (conv => lhs; whnf))|(apply q_lss; exact rfl; exact rfl)
    | (apply q_str_osl; (iterate 4 exact rfl); (first | rfl | (focus (simp; done))); assumption)))|(apply yA)|(apply yB)|(apply yC; kernel_rfl)|(apply yE)|(apply yI)|(apply yJ)|(apply yK)|(apply yM)
  | (apply yR; exact rfl)))
    exact Ends.d rfl rfl
def rngI (n : Nat) : List Int := (List.range n).map fun i : Nat => (i : Int)
theorem rngI_succ (n : Nat) : rngI (n + 1) = rngI n ++ [(n : Int)] := by unfold rngI; rw [List.range_succ, List.map_append]; rfl
def fullS (c : Cd) (U : List (List Nat)) (D : Nat) : Sr := (c, U, List.replicate U.length true, rngI D)
theorem A_fullOk {M D : Nat} {ps us : List (List Nat)} {nm : List Nat} {dom : Int} (hok : CodeOk M D ps) (hl : us.length = D) (hu : ∀ u ∈ us, isB u ∧ u.length = 32) : ACalls Tryz.prog 22 [cdA1 (nm, M, D, toZ ps, dom), strs us] [] (srA1 (fullS (nm, M, D, toZ ps, dom) (encN M ps us) D)) [] := by
  have hD1 := hok.d
  have hw1 := hok.w
  have hen := A_encode hok hl hu (by omega) (fit32 hok.f)
  rw [cdN_A] at hen
  have hen := hen.cdF (nm := nm) (dom := dom)
  have hUl : (encN M ps us).length = D + ps.length := by unfold encN; simp [hl]
  unfold fullS
  generalize encN M ps us = U at *
  have hmU : (U.map sD).length = U.length := List.length_map _
  refine acalls_of_body Tryz.func22 rfl (Nat.le_of_ble_eq_true rfl) ?_
  show AWP _ _ _ _ _ ⟨env0 0 [cdF nm M D (toZ ps) dom, strs us], []⟩
  (repeat' (first
  | (apply W.qd; (first
    | (apply (yW (hen)); exact rfl; exact rfl; (iterate 3 kernel_rfl))|(apply q_mv; (conv => lhs; whnf))|(apply q_as; (conv => lhs; whnf))|(apply yU; (iterate 4 exact rfl))|(apply q_neq; exact rfl; exact rfl)|(apply yAb; exact rfl; exact rfl)
    | (apply yZ; exact rfl; exact rfl; kernel_rfl)))
  | (apply W.ed; (first
    | (apply yBb; (iterate 3 exact rfl); kernel_rfl; kernel_rfl)
    | (apply yCb; (iterate 3 exact rfl); kernel_rfl)))|(apply W.ln; (apply l_st_box; (iterate 6 exact rfl); (iterate 3 kernel_rfl)))|(apply yA)|(apply yB)|(apply (W.regionS 5); exact rfl; kernel_rfl)|(apply yE)|(apply yH)
  | (apply yR; exact rfl)))
  refine AWP.nilBox (l' := [bS nm, iV (M : Int), iV (D : Int), rowsA (toZ ps), iV dom, strs U, .osl 3 0 0 0, .d (.v (.slice none 0 0))]) 2 6 1 4 rfl rfl (by omega) rfl rfl rfl rfl ?_
  refine AWP.nilBox (l' := [bS nm, iV (M : Int), iV (D : Int), rowsA (toZ ps), iV dom, strs U, .osl 3 0 0 0, .osl 4 0 0 0]) 2 7 1 3 rfl rfl (by omega) rfl rfl rfl rfl ?_
  (repeat' (first
  | (apply W.qd; (apply q_as; (conv => lhs; whnf)))|(apply yB)|(apply (W.regionS 6); exact rfl; kernel_rfl)|(apply yE)
  | (apply yG)))
  refine AWP.loopW (α := Nat) (fun i => i ≤ U.length) (fun i => ⟨[(8, iV i), (5, strs U), (2, .opt 0 0), (4, .opt 1 0), (7, .opt 2 0)], [.box [bS nm, iV (M : Int), iV (D : Int), rowsA (toZ ps), iV dom], .box [.d (.v (.string ⟨#[]⟩)), iV 0, iV 0, .d (.v (.slice none 0 0)), iV 0, .d (.v (.slice none 0 0)), .d (.v (.slice none 0 0)), .d (.v (.slice none 0 0))], .box [bS nm, iV (M : Int), iV (D : Int), rowsA (toZ ps), iV dom, strs U, .osl 3 i 0 (List.replicate i true).length, .osl 4 (min i D) 0 (rngI (min i D)).length], .row i 1 4 ((List.replicate i true).map tD), .row (min i D) 1 3 ((rngI (min i D)).map iD)]⟩) (fun i => U.length - i) 0 (Nat.zero_le _) ?wk0 fun i hi => ?_
  case wk0 =>
    rw [Nat.zero_min]
    exact ⟨[0, 1, 2, 3, 4], rfl, rfl, rfl, by (repeat (first | exact trivial | refine ⟨rfl, ?_⟩))⟩
  by_cases hil : i < U.length
  · have hrp : List.replicate (i + 1) true = List.replicate i true ++ [true] := List.replicate_succ'
    have hln : (List.replicate i true).length = i := List.length_replicate
    replace hrp := Lib.hid hrp
    generalize List.replicate i true = A at *
    by_cases hiD : i < D
    · have hr := rngI_succ i
      rw [Nat.min_eq_left (by omega)]
      have hrl : (rngI i).length = i := by unfold rngI; simp
      replace hr := Lib.hid hr
      generalize rngI i = Z at *
      (repeat' (first
  | (apply W.qd; (first
    | (apply q_mv; (conv => lhs; whnf))|(apply q_as; (conv => lhs; whnf))|(apply yS; (iterate 3 exact rfl))|(apply yT; (iterate 4 exact rfl))|(apply q_lss; exact rfl; exact rfl)|(apply q_add; exact rfl; exact rfl; omega)|(apply yV; exact rfl; exact rfl)
    | (apply q_litF; (iterate 5 exact rfl); kernel_rfl; kernel_rfl; exact rfl)))|(apply W.ld; (apply l_app1; (iterate 8 exact rfl); (first | omega | (focus (simp; omega)) | (focus (simp; done)))))|(apply W.ln; (apply l_st_box; (iterate 6 exact rfl); (iterate 3 kernel_rfl)))|(apply yA)|(apply yB)|(apply yC; kernel_rfl)|(apply yE)|(apply yG)|(apply yH)|(apply yL)
  | (refine W.cond _ rfl (fun hb => ?_) (fun hb => ?_) <;> ((try simp only [hb, zA, zB]) <;> (try simp only [zC, zD, zE, zF, zG, zH, zI, zJ] at hb) <;> (try (exfalso; omega))))))
      all_goals try (exfalso; omega)
      refine ⟨i + 1, by omega, by omega, ?_⟩
      rw [hrp.out, Nat.min_eq_left (show i + 1 ≤ D by omega), hr.out]
      exact ⟨[0, 1, 2, 3, 4], rfl, rfl, rfl, iV_eq (by omega), rfl, rfl, rfl, rfl, trivial⟩
    · rw [Nat.min_eq_right (show D ≤ i by omega)]
      (repeat' (first
  | (apply W.qd; (first
    | (apply q_mv; (conv => lhs; whnf))|(apply q_as; (conv => lhs; whnf))|(apply yS; (iterate 3 exact rfl))|(apply yT; (iterate 4 exact rfl))|(apply q_lss; exact rfl; exact rfl)|(apply q_add; exact rfl; exact rfl; omega)|(apply yV; exact rfl; exact rfl)
    | (apply q_litF; (iterate 5 exact rfl); kernel_rfl; kernel_rfl; exact rfl)))|(apply W.ld; (apply l_app1; (iterate 8 exact rfl); (first | omega | (focus (simp; omega)) | (focus (simp; done)))))|(apply W.ln; (apply l_st_box; (iterate 6 exact rfl); (iterate 3 kernel_rfl)))|(apply yA)|(apply yB)|(apply yC; kernel_rfl)|(apply yE)|(apply yG)|(apply yH)|(apply yL)
  | (refine W.cond _ rfl (fun hb => ?_) (fun hb => ?_) <;> ((try simp only [hb, zA, zB]) <;> (try simp only [zC, zD, zE, zF, zG, zH, zI, zJ] at hb) <;> (try (exfalso; omega))))))
      all_goals try (exfalso; omega)
      refine ⟨i + 1, by omega, by omega, ?_⟩
      rw [hrp.out, Nat.min_eq_right (show D ≤ i + 1 by omega)]
      exact ⟨[0, 1, 2, 3, 4], rfl, rfl, rfl, iV_eq (by omega), rfl, rfl, rfl, rfl, trivial⟩
  · obtain rfl : i = U.length := by omega
    rw [Nat.min_eq_right (by omega)]
    generalize List.replicate U.length true = A at *
    generalize rngI D = Z at *
    (repeat' (first
  | (apply W.qd; (first
    | (apply q_mv; (conv => lhs; whnf))|(apply yU; (iterate 4 exact rfl))|(apply q_lss; exact rfl; exact rfl)
    | (apply yV; exact rfl; exact rfl)))|(apply W.ln; (apply l_st_box; (iterate 6 exact rfl); (iterate 3 kernel_rfl)))|(apply yA)|(apply yB)|(apply yC; kernel_rfl)|(apply yE)|(apply yI)|(apply yJ)|(apply yK)|(apply yM)
  | (refine W.cond _ rfl (fun hb => ?_) (fun hb => ?_) <;> ((try simp only [hb, zA, zB]) <;> (try simp only [zC, zD, zE, zF, zG, zH, zI, zJ] at hb) <;> (try (exfalso; omega))))))
    refine ⟨.inl rfl, [], [.agg [bS nm, iV (M : Int), iV (D : Int), rowsA (toZ ps), iV dom, strs U, .osl 3 U.length 0 A.length, .osl 4 D 0 Z.length]], rfl, ⟨⟨1, _, true, rfl, rfl, rfl, rfl⟩, trivial⟩, AVle.of_eq ?_, rfl⟩
    show AV.agg [bS nm, iV (M : Int), iV (D : Int), rowsA (toZ ps), iV dom, strs U, AV.frz _ [] (.osl 3 U.length 0 A.length), AV.frz _ [] (.osl 4 D 0 Z.length)] = _
    rw [frz_rowJ (i := 3) (ver := U.length) (n := A.length) (l := A.map tD) rfl rfl (by simp), frz_rowJ (i := 4) (ver := D) (n := Z.length) (l := Z.map iD) rfl rfl (by simp)]
    rfl
end Go.Proofs.YtcljokdiblnhiaaGreatDoor
end
section
namespace Go.Proofs.YtcljokdiblnhiaaGreatDoor
open Go.RowKit
set_option maxHeartbeats 8000000
set_option maxRecDepth 100000
def par39 : Cd := ([112, 97, 114], 8, 2, [[1, 1]], 3)
def tri39 : Cd := ([116, 114, 105], 8, 3, [[1, 1, 1]], 4)
def sa39 : Sr := (par39, [u32 1, u32 2, u32 3], [true, true, true], [0, 1])
def sb39 : Sr := (par39, [u32 3, u32 4, u32 7], [true, true, true], [0, 1])
def sc39 : Sr := (par39, [u32 1, u32 2, u32 3], [false, false, true], [0, 1])
def sd39 : Sr := (par39, [u32 1, u32 2, u32 3], [true, true, true], [2])
theorem s39_1 : repN tri39 [sa39, sb39] = ⟨[[u32 1, u32 2, u32 3, u32 0], [u32 4, u32 0, u32 0, u32 4]], [(0, 0, 0, 0), (0, 1, 0, 1), (1, 0, 0, 2), (1, 1, 1, 0)], [], 0⟩ := by kernel_rfl
theorem s39_2 : repN tri39 [sc39, sb39] = ⟨[[u32 3, u32 4, u32 0, u32 7]], [(1, 0, 0, 0), (1, 1, 0, 1)], [(0, 0), (0, 1)], 0⟩ := by kernel_rfl
theorem s39_3 : repN tri39 [sd39] = ⟨[], [], [], 1⟩ := by kernel_rfl
theorem s39_4 : repN tri39 [] = ⟨[], [], [], 0⟩ := by kernel_rfl
theorem s39_5 : encN 8 [[1, 1]] [u32 1, u32 2] = [u32 1, u32 2, u32 3] := by kernel_rfl
theorem s39_6 : encN 8 [[1, 1]] [u32 3, u32 4] = [u32 3, u32 4, u32 7] := by kernel_rfl
theorem ok_par : CodeOk 8 2 [[1, 1]] := by
  obtain ⟨m, d, ps, e1, e2, e3, h⟩ := ok_valid (M := 8) (D := 2) (par := [[1, 1]]) (by kernel_rfl)
  obtain rfl : m = 8 := by omega
  obtain rfl : d = 2 := by omega
  have : ps = [[1, 1]] := by
    have h2 := congrArg (fun p => p.map fun r => r.map Int.toNat) e3
    rw [toZ_back] at h2
    exact h2.symm
  rwa [this] at h
theorem in39 {c : Cd} (h : c = par39 ∨ c = tri39) : CodeIn c.2.2.2.1 := ⟨fun r hr x hx => by
  rcases h with rfl | rfl
  · simp [par39] at hr; subst hr; simp at hx; omega
  · simp [tri39] at hr; subst hr; simp at hx; omega⟩
theorem srIn39 {us : List (List Nat)} {hv : List Bool} {l : List Int} (h1 : us.length ≤ 10) (h2 : hv.length ≤ 10) (h3 : l.length ≤ 10) (h4 : ∀ x ∈ us, ∃ b, b < 256 ∧ x = u32 b) : SrIn (par39, us, hv, l) where
  c := in39 (.inl rfl)
  us := by dsimp only; omega
  hv := by dsimp only; omega
  ll := by dsimp only; omega
  b x hx := by
    obtain ⟨b, hb, rfl⟩ := h4 x hx
    exact ⟨isB_u32 hb, by simp [u32]⟩
theorem mem3 {a b c : Nat} (h : a < 256 ∧ b < 256 ∧ c < 256) : ∀ x ∈ [u32 a, u32 b, u32 c], ∃ n, n < 256 ∧ x = u32 n := fun x hx => by
  simp at hx
  rcases hx with rfl | rfl | rfl
  · exact ⟨a, h.1, rfl⟩
  · exact ⟨b, h.2.1, rfl⟩
  · exact ⟨c, h.2.2, rfl⟩
theorem sIn_a : SrIn sa39 := srIn39 (by decide) (by decide) (by decide) (mem3 (by decide))
theorem sIn_b : SrIn sb39 := srIn39 (by decide) (by decide) (by decide) (mem3 (by decide))
theorem sIn_c : SrIn sc39 := srIn39 (by decide) (by decide) (by decide) (mem3 (by decide))
theorem sIn_d : SrIn sd39 := srIn39 (by decide) (by decide) (by decide) (mem3 (by decide))
theorem rIn39 {ss : List Sr} (h1 : ss.length ≤ 10) (h2 : ∀ s ∈ ss, SrIn s) (h3 : (liveTo ss ss.length).length ≤ 1000) : RepIn tri39 ss := ⟨in39 (.inr rfl), by omega, h2, by omega⟩
theorem mem2S {a b : Sr} (h1 : SrIn a) (h2 : SrIn b) : ∀ s ∈ [a, b], SrIn s := fun s hs => by
  simp at hs
  rcases hs with rfl | rfl
  · exact h1
  · exact h2
theorem fi_tg : fldsInt Tryz.prog 65 = some [0, 1, 2, 3] := by kernel_rfl
attribute [local irreducible] Quiet Eff OpOk AWPG ACont ABlock ACalls AGoto
theorem A_sanity39 : ACalls Tryz.prog 12 [] [] (bV true) [] := by
  refine acalls_of_body Tryz.func12 rfl (Nat.le_of_ble_eq_true rfl) ?_
  have u0 := A_unit39 (b := 0) (by decide)
  have u1 := A_unit39 (b := 1) (by decide)
  have u2 := A_unit39 (b := 2) (by decide)
  have u3 := A_unit39 (b := 3) (by decide)
  have u4 := A_unit39 (b := 4) (by decide)
  have hB0 := isB_u32 (b := 0) (by decide)
  have hB4 := isB_u32 (b := 4) (by decide)
  have f1 := A_fullOk (us := [u32 1, u32 2]) (nm := par39.1) (dom := 3) ok_par rfl (fun u hu => by simp at hu; rcases hu with rfl | rfl <;> exact ⟨isB_u32 (by decide), by simp [u32]⟩)
  rw [s39_5] at f1
  have f1 : ACalls Tryz.prog 22 [cdA1 par39, strs [u32 1, u32 2]] [] (srA1 sa39) [] := f1
  have f2 := A_fullOk (us := [u32 3, u32 4]) (nm := par39.1) (dom := 3) ok_par rfl (fun u hu => by simp at hu; rcases hu with rfl | rfl <;> exact ⟨isB_u32 (by decide), by simp [u32]⟩)
  rw [s39_6] at f2
  have f2 : ACalls Tryz.prog 22 [cdA1 par39, strs [u32 3, u32 4]] [] (srA1 sb39) [] := f2
  have k1 := A_repack (rIn39 (ss := [sa39, sb39]) (by decide) (mem2S sIn_a sIn_b) (by decide))
  rw [s39_1] at k1
  have k2 := A_repack (rIn39 (ss := [sc39, sb39]) (by decide) (mem2S sIn_c sIn_b) (by decide))
  rw [s39_2] at k2
  have k3 := A_repack (rIn39 (ss := [sd39]) (by decide) (fun s hs => by rw [List.mem_singleton.1 hs]; exact sIn_d) (by decide))
  rw [s39_3] at k3
  have k4 := (A_repack (rIn39 (ss := []) (by decide) (fun s hs => by simp at hs) (by decide))).le (args' := [cdA1 tri39, .d (.v (.slice none 0 0))]) fun F κ w us hs => AVleL.sat (xs := [cdA1 tri39, .d (.v (.slice none 0 0))]) (ys := [cdA1 tri39, srcs []]) ⟨AVle.refl _, AVle.nil 8, trivial⟩ F _ κ w us hs
  rw [s39_4] at k4
  (repeat' (first
  | (apply yFb; exact rfl; exact rfl)
  | (apply W.qd; (first
    | (apply (yW (u0)); exact rfl; exact rfl; (iterate 3 kernel_rfl))|(apply (yW (u1)); exact rfl; exact rfl; (iterate 3 kernel_rfl))|(apply (yW (u2)); exact rfl; exact rfl; (iterate 3 kernel_rfl))|(apply (yW (u3)); exact rfl; exact rfl; (iterate 3 kernel_rfl))|(apply (yW (u4)); exact rfl; exact rfl; (iterate 3 kernel_rfl))|(apply (yW (f1)); exact rfl; exact rfl; (iterate 3 kernel_rfl))|(apply (yW (f2)); exact rfl; exact rfl; (iterate 3 kernel_rfl))|(apply (yW (k1)); exact rfl; exact rfl; (iterate 3 kernel_rfl))|(apply (yW (k2)); exact rfl; exact rfl; (iterate 3 kernel_rfl))|(apply (yW (k3)); exact rfl; exact rfl; (iterate 3 kernel_rfl))|(apply (yW (k4)); exact rfl; exact rfl; (iterate 3 kernel_rfl))|(first | (apply (q_eqsI fi_tg); (iterate 5 exact rfl)) | (apply (q_nesI fi_tg); (iterate 5 exact rfl)))|(apply q_mv; (conv => lhs; whnf))|(apply q_as; (conv => lhs; whnf))|(apply yS; (iterate 3 exact rfl))|(apply yT; (iterate 4 exact rfl))|(apply yU; (iterate 4 exact rfl))|(apply q_eql; exact rfl; exact rfl)|(apply q_neq; exact rfl; exact rfl)|(apply yAb; exact rfl; exact rfl)|(apply yV; exact rfl; exact rfl)|(apply yX; (iterate 3 exact rfl); (first | omega | (focus (simp; done))))|(apply yY; (iterate 3 exact rfl); (first | omega | (focus (simp; done))))|(apply yZ; exact rfl; exact rfl; kernel_rfl)|(apply q_litF; (iterate 5 exact rfl); kernel_rfl; kernel_rfl; exact rfl)|(apply yGb; (iterate 4 exact rfl); (first | (with_reducible exact rfl) | exact natI_spec rfl | assumption | exact (Int.toNat_of_nonneg (by omega)).symm); (first | omega | (focus (simp only [List.length_map]; omega)) | (focus (simp; done)) | (focus (simp; omega))))|(apply (yEb (u := .d _)); exact rfl; exact rfl)|(apply (yDb (u := .d _)); exact rfl; exact rfl)
    | (apply q_eqlS; exact rfl; exact rfl; (first | assumption | exact isB_nil | exact isB_xor (by assumption) (by assumption)); (first | assumption | exact isB_nil | exact isB_xor (by assumption) (by assumption)))))|(apply W.ed; (apply yCb; (iterate 3 exact rfl); kernel_rfl))|(apply W.ln; (apply l_st_box; (iterate 6 exact rfl); (iterate 3 kernel_rfl)))|(apply yA)|(apply yB)|(apply yC; kernel_rfl)|(apply yD; exact rfl; kernel_rfl)|(apply yE)|(apply yF; kernel_rfl)|(apply yH)|(apply yJ)
  | (apply yR; exact rfl)))
  all_goals first | exact Ends.b rfl rfl | (exfalso; simp at hb; done)
end Go.Proofs.YtcljokdiblnhiaaGreatDoor
end
section
namespace Go.Proofs.YtcljokdiblnhiaaGreatDoor
open Go.RowKit
set_option maxHeartbeats 8000000
set_option maxRecDepth 100000
theorem rec_full {M D u : Nat} {ps us : List (List Nat)} {hv : List Bool} (h : CodeOk M D ps) (hl : us.length = D) (hu : ∀ u ∈ us, isB u ∧ u.length = 32) (hvl : hv.length = D + ps.length) (hd : decN M D ps hv = true) (hlt : u < D + ps.length) : recN M D ps (encN M ps us) hv u = some ((encN M ps us).getD u []) := by
  unfold decN at hd
  rw [Bool.and_eq_true, decide_eq_true_eq, decide_eq_true_eq] at hd
  obtain ⟨l, hc⟩ := Option.isSome_iff_exists.1 ((full_iff_rec h hvl).1 hd.2 u hlt)
  unfold recN
  rw [hc]
  have hok := comb_ok h hvl hlt hc
  have := sum_sound (n := 32) h hl hu (fit32 h.f) hlt hok.snd (vs := encN M ps us) fun t ht => ⟨(hok.lt t ht).1, hv_lt h hvl (hok.pres t ht), rfl⟩
  simp only [Option.map_some, this]
theorem enc_data {M u : Nat} {ps us : List (List Nat)} (hu : u < us.length) : (encN M ps us).getD u [] = us.getD u [] := by
  unfold encN
  rw [List.getD_eq_getElem?_getD, List.getElem?_append_left hu, List.getD_eq_getElem?_getD]
theorem pack_all {R : Nat → Nat → Option (List Nat)} {f : Nat × Nat → List Nat} : ∀ (ps : List (Nat × Nat)) (s : PackS), (∀ p ∈ ps, R p.1 p.2 = some (f p)) → ps.foldl (packStep R) s = ⟨s.data ++ ps.map f, s.from' ++ ps, s.lost⟩
  | [], s, _ => by simp
  | p :: ps, s, h => by
    have h1 : packStep R s p = ⟨s.data ++ [f p], s.from' ++ [p], s.lost⟩ := by
      unfold packStep
      rw [h p (by simp)]
    rw [List.foldl_cons, h1, pack_all ps _ fun q hq => h q (by simp [hq])]
    simp
theorem rec_chunk {M D i : Nat} {ps us : List (List Nat)} {hv : List Bool} (h : CodeOk M D ps) (hu : ∀ u ∈ us, isB u ∧ u.length = 32) (hi : i < us.length) (hvl : hv.length = D + ps.length) (hd : decN M D ps hv = true) :
    i / D < (padN D zero32 us).length / D ∧ recN M D ps (encN M ps (((padN D zero32 us).drop (i / D * D)).take D)) hv (i % D) = some (us.getD i []) := by
  have hD := h.d
  have hpm := pad_mod (D := D) (by omega) zero32 us
  have hpg := pad_ge D zero32 us
  obtain ⟨N, hN⟩ : ∃ N, (padN D zero32 us).length = N * D := ⟨(padN D zero32 us).length / D, by rw [Nat.div_mul_cancel (Nat.dvd_of_mod_eq_zero hpm)]⟩
  have hND : (padN D zero32 us).length / D = N := by rw [hN, Nat.mul_div_cancel _ (by omega)]
  have hq : i / D < N := Nat.div_lt_of_lt_mul (by rw [Nat.mul_comm]; omega)
  have hmm := Nat.mod_lt i (show D > 0 by omega)
  have hdm := Nat.div_add_mod i D
  rw [Nat.mul_comm] at hdm
  have hle : i / D * D + D ≤ (padN D zero32 us).length := by
    have := Nat.mul_le_mul_right D (show i / D + 1 ≤ N by omega)
    rw [Nat.add_mul, Nat.one_mul] at this; omega
  have hpu : ∀ x ∈ padN D zero32 us, isB x ∧ x.length = 32 := fun x hx => by
    rcases pad_mem hx with h1 | rfl
    · exact hu x h1
    · exact ⟨isB_zero 32, by simp [zero32]⟩
  have hcl : (((padN D zero32 us).drop (i / D * D)).take D).length = D := by rw [List.length_take, List.length_drop]; omega
  refine ⟨by omega, ?_⟩
  rw [rec_full h hcl (fun u hu => hpu u (List.mem_of_mem_drop (List.mem_of_mem_take hu))) hvl hd (by omega), enc_data (by omega)]
  congr 1
  rw [List.getD_eq_getElem?_getD, List.getElem?_take, if_pos hmm, List.getElem?_drop, hdm, List.getD_eq_getElem?_getD]
  unfold padN
  rw [List.getElem?_append_left hi]
theorem minusN_rep (n : Nat) (l : List Int) : (minusN (List.replicate n true) (inN n l)).length = n := by
  rw [minusN_length, List.length_replicate]
def lostS (c : Cd) (U : List (List Nat)) (D : Nat) (hv : List Bool) : Sr := (c, U, hv, rngI D)
theorem rngI_len (n : Nat) : (rngI n).length = n := by unfold rngI; simp
theorem rngI_get? {n k : Nat} (h : k < n) : (rngI n)[k]? = some (k : Int) := by
  unfold rngI
  rw [List.getElem?_map, List.getElem?_range h]; rfl
theorem rngI_get {n k : Nat} (h : k < (rngI n).length) : (rngI n)[k] = (k : Int) := by
  have h1 := rngI_get? (n := n) (k := k) (by rw [rngI_len] at h; exact h)
  rw [List.getElem?_eq_getElem h] at h1
  exact Option.some.inj h1
theorem lost_valid {M D : Nat} {ps us : List (List Nat)} {nm : List Nat} {dom : Int} {hv : List Bool} (h : CodeOk M D ps) (hV : validC M D (toZ ps) = true) (hl : us.length = D) (hu : ∀ u ∈ us, isB u ∧ u.length = 32) (hvl : hv.length = D + ps.length) : srB (lostS (nm, M, D, toZ ps, dom) (encN M ps us) D hv) = true := by
  have hpl : (toZ ps).length = ps.length := List.length_map _
  unfold srB srcB lostS
  dsimp only
  have h1 : lenB (encN M ps us) hv = true := by
    unfold lenB
    rw [List.all_eq_true]
    intro j hj
    have hj := List.mem_range.1 hj
    have := (mem_isB (encN_ok h hl hu (fit32 h.f)) (q := j) (by rw [encN_length]; omega)).2
    rw [decide_eq_true this, Bool.or_true]
  have h2 : incB D (-1) (rngI D) = true := (incB_drop _ _ _).2 fun k hk => by
    have hk2 : k < D := by rw [rngI_len] at hk; exact hk
    rw [rngI_get hk]
    split
    · rename_i e; subst e; omega
    · rw [List.getD_eq_getElem?_getD, List.getElem?_eq_getElem (by rw [rngI_len]; omega), Option.getD_some, rngI_get]
      omega
  rw [hV, h1, h2, encN_length, hl, hpl, hvl]
  simp
theorem lost_live {c : Cd} {U : List (List Nat)} {D : Nat} {hv : List Bool} : liveTo [lostS c U D hv] 1 = (List.range D).map fun i => (0, i) := by
  rw [liveTo_succ]
  unfold liveTo lostS rngI
  simp [Function.comp_def]
theorem lost_pack {M D : Nat} {ps us : List (List Nat)} {nm : List Nat} {dom : Int} {hv : List Bool} (h : CodeOk M D ps) (hl : us.length = D) (hu : ∀ u ∈ us, isB u ∧ u.length = 32) (hvl : hv.length = D + ps.length) (hd : decN M D ps hv = true) : packS [lostS (nm, M, D, toZ ps, dom) (encN M ps us) D hv] = ⟨us, (List.range D).map fun i => (0, i), []⟩ := by
  unfold packS packN
  rw [show [lostS (nm, (M : Int), (D : Int), toZ ps, dom) (encN M ps us) D hv].length = 1 from rfl, lost_live]
  have hR : ∀ p ∈ (List.range D).map (fun i => (0, i)), recAt [lostS (nm, M, D, toZ ps, dom) (encN M ps us) D hv] p.1 p.2 = some (us.getD p.2 []) := fun p hp => by
    obtain ⟨i, hi, rfl⟩ := List.mem_map.1 hp
    have hi := List.mem_range.1 hi
    show recSr (lostS (nm, M, D, toZ ps, dom) (encN M ps us) D hv) i = _
    rw [sr_rec (M := M) (D := D) (ps := ps) rfl rfl rfl]
    show recN M D ps (encN M ps us) hv i = _
    rw [rec_full h hl hu hvl hd (by omega), enc_data (by omega)]
  rw [pack_all (f := fun p => us.getD p.2 []) _ _ hR]
  simp only [List.nil_append, List.map_map]
  congr 1
  apply List.ext_getElem
  · simp [hl]
  · intro i h1 h2
    simp [List.getD_eq_getElem?_getD, h2]
end Go.Proofs.YtcljokdiblnhiaaGreatDoor
end
