import Derived.Test.YtaclmbbiegklcaaDoorMClassSeparate3
import Derived.Laws.CopyRow
import Derived.Laws.IdiomCopy
import Derived.Shelf.Strings.Repeat
import Derived.Shelf.Bits.Mul64
import Derived.Test.YtaclmbbiegklcaaDoorProg
import Derived.Lib.SliceRun
/- Joined texts: Ds3 Ds4 Ds5 Ds6 Kern43 Shf Ds7 Ds8 Kern44 Kern45 Kern47 Cl0 Cl1 Cl2. -/
set_option linter.unusedVariables false
set_option linter.unusedSimpArgs false
section
/- Layer 7 over the machine of abstract values: is a code valid, with its name and its domain? slices.Min, slices.Max. -/
namespace Go.Proofs.YtaclmbbiegklcaaDoor
open Go.RowKit
set_option maxHeartbeats 4000000
set_option maxRecDepth 100000
def letB (c : Nat) : Bool := decide (97 ≤ c) && decide (c ≤ 122)
def digB (c : Nat) : Bool := decide (48 ≤ c) && decide (c ≤ 57)
def wordAt (s : List Nat) (k : Nat) : Bool := letB (s.getD k 0) || (decide (k ≠ 0) && digB (s.getD k 0))
def wordB (s : List Nat) : Bool := decide (s ≠ []) && (List.range s.length).all (wordAt s)
def minK (l : List Int) : Nat → Int
  | 0 => l.getD 0 0
  | k + 1 => if l.getD (k + 1) 0 < minK l k then l.getD (k + 1) 0 else minK l k
def maxK (l : List Int) : Nat → Int
  | 0 => l.getD 0 0
  | k + 1 => if l.getD (k + 1) 0 > maxK l k then l.getD (k + 1) 0 else maxK l k
theorem minK_spec (l : List Int) : ∀ k, (∀ j, j ≤ k → minK l k ≤ l.getD j 0) ∧ ∃ j, j ≤ k ∧ minK l k = l.getD j 0
  | 0 => ⟨fun j hj => by obtain rfl : j = 0 := by omega
                         exact Int.le_refl _, 0, Nat.le_refl _, rfl⟩
  | k + 1 => by
    obtain ⟨h1, j, h2, h3⟩ := minK_spec l k
    unfold minK
    split
    · refine ⟨fun j hj => ?_, k + 1, Nat.le_refl _, rfl⟩
      by_cases e : j = k + 1
      · subst e; exact Int.le_refl _
      · have := h1 j (by omega); omega
    · refine ⟨fun j hj => ?_, j, by omega, h3⟩
      by_cases e : j = k + 1
      · subst e; omega
      · exact h1 j (by omega)
theorem maxK_spec (l : List Int) : ∀ k, (∀ j, j ≤ k → l.getD j 0 ≤ maxK l k) ∧ ∃ j, j ≤ k ∧ maxK l k = l.getD j 0
  | 0 => ⟨fun j hj => by obtain rfl : j = 0 := by omega
                         exact Int.le_refl _, 0, Nat.le_refl _, rfl⟩
  | k + 1 => by
    obtain ⟨h1, j, h2, h3⟩ := maxK_spec l k
    unfold maxK
    split
    · refine ⟨fun j hj => ?_, k + 1, Nat.le_refl _, rfl⟩
      by_cases e : j = k + 1
      · subst e; exact Int.le_refl _
      · have := h1 j (by omega); omega
    · refine ⟨fun j hj => ?_, j, by omega, h3⟩
      by_cases e : j = k + 1
      · subst e; omega
      · exact h1 j (by omega)
theorem getDI_mem {l : List Int} {j : Nat} (h : j < l.length) : l.getD j 0 ∈ l := by
  rw [List.getD_eq_getElem?_getD, List.getElem?_eq_getElem h]; exact List.getElem_mem h
theorem memI_getD {l : List Int} {x : Int} (h : x ∈ l) : ∃ j, j < l.length ∧ l.getD j 0 = x := by
  obtain ⟨j, hj, rfl⟩ := List.getElem_of_mem h
  exact ⟨j, hj, by rw [List.getD_eq_getElem?_getD, List.getElem?_eq_getElem hj]; rfl⟩
theorem rowOk_min {M D : Int} {r : List Int} (hM : M = 8 ∨ M = 16) (hl : (r.length : Int) = D) (h0 : 0 < r.length) : rowOk M D r = (decide (0 ≤ minK r (r.length - 1)) && (decide (1 ≤ maxK r (r.length - 1)) && decide (maxK r (r.length - 1) < if M = 8 then 256 else 65536))) := by
  obtain ⟨n1, i, n2, n3⟩ := minK_spec r (r.length - 1)
  obtain ⟨x1, j, x2, x3⟩ := maxK_spec r (r.length - 1)
  unfold rowOk
  rw [decide_eq_true hl, Bool.true_and, Bool.eq_iff_iff]
  simp only [Bool.and_eq_true, decide_eq_true_eq, List.all_eq_true, Bool.not_eq_true', List.all_eq_false, allF, inF, List.all_cons, List.all_nil, Bool.and_true]
  constructor
  · rintro ⟨h1, x, hx, h2⟩
    have hi := h1 _ (getDI_mem (l := r) (j := i) (by omega))
    have hj := h1 _ (getDI_mem (l := r) (j := j) (by omega))
    obtain ⟨q, hq, rfl⟩ := memI_getD hx
    have h3 := (h1 _ hx).2.1
    have h4 := x1 q (by omega)
    refine ⟨by rw [n3]; exact hi.2.1, by omega, by rw [x3]; exact hj.2.2⟩
  · rintro ⟨h1, h2, h3⟩
    refine ⟨fun x hx => ?_, r.getD j 0, getDI_mem (by omega), by rw [← x3]; omega⟩
    obtain ⟨q, hq, rfl⟩ := memI_getD hx
    have h4 := n1 q (by omega)
    have h5 := x1 q (by omega)
    exact ⟨hM, by omega, by omega⟩
def chkC (nm : List Nat) (M D : Int) (par : List (List Int)) (dom : Int) : Bool :=
  (wordB nm && decide (nm.length ≤ 12)) && (decide (M = 8 ∨ M = 16) && decide (1 ≤ D) && decide (D ≤ 31) && decide (par.length ≠ 0) && decide (D + (par.length : Int) ≤ 32)) && par.all (rowOk M D) && (decide (1 ≤ dom) && decide (dom ≤ D + (par.length : Int)))
theorem chk_valid {nm : List Nat} {M D dom : Int} {par : List (List Int)} (h : chkC nm M D par dom = true) : validC M D par = true := by
  unfold chkC at h
  simp only [Bool.and_eq_true, decide_eq_true_eq] at h
  obtain ⟨⟨⟨h1, ⟨⟨⟨h2, h3⟩, h4⟩, h5⟩, h6⟩, h7⟩, h8⟩ := h
  unfold validC
  simp only [Bool.and_eq_true, decide_eq_true_eq]
  refine ⟨⟨⟨⟨?_, h3⟩, by omega⟩, by omega⟩, h7⟩
  unfold allF
  rw [decide_eq_true h2]
  rcases h2 with rfl | rfl <;> rfl
abbrev cdF (nm : List Nat) (M D : Int) (par : List (List Int)) (dom : Int) : AV := .agg [bS nm, iV M, iV D, rowsA par, iV dom]
theorem cdF_le {nm : List Nat} {M D dom : Int} {par : List (List Int)} {F : Nat → Prop} {own : List Ent} {κ : List (Option Nat)} {w : World} {u : Value} (h : AV.sat F own κ w (cdF nm M D par dom) u) : AV.sat F own κ w (cdA M D par) u := by
  rw [AV.sat] at h ⊢
  obtain ⟨us, h1, h2⟩ := h
  refine ⟨us, h1, ?_⟩
  generalize us.toList = l at h2
  rcases l with _ | ⟨a, _ | ⟨b, _ | ⟨c, _ | ⟨d, _ | ⟨e, l⟩⟩⟩⟩⟩ <;> simp only [AV.satL, and_false, and_assoc] at h2 ⊢
  obtain ⟨h3, h4, h5, h6, h7, h8⟩ := h2
  rw [sat_v] at h3 h7
  subst h3; subst h7
  refine ⟨?_, h4, h5, h6, ?_, h8⟩
  · rw [AV.sat, Dat.sat]; rfl
  · rw [AV.sat, Dat.sat]; rfl
theorem ACalls.cdF {P : Program} {f : FuncId} {nm : List Nat} {M D dom : Int} {par : List (List Int)} {l : List AV} {r : AV} {own own' : List Ent} (h : ACalls P f (cdA M D par :: l) own r own') : ACalls P f (cdF nm M D par dom :: l) own r own' :=
  h.le fun F κ w vs => satL_le1 (fun F own κ w u => cdF_le) F own κ w vs
attribute [local irreducible] Quiet Eff OpOk AWPG ACont ABlock ACalls AGoto
theorem A_letter (c : Nat) : ACalls Tryd.prog 119 [.d (.v (.int .u8 c))] [] (bV (letB c)) [] := by
  refine acalls_of_body Tryd.func119 rfl (Nat.le_of_ble_eq_true rfl) ?_
  unfold letB
  (repeat' (first
  | (apply W.gOn; exact rfl; exact rfl)
  | (apply W.qd; (first
    | (apply q_mv; (first|exact vD|exact vO|exact vP|exact vA|exact vF|exact vR|exact vN|exact vY|exact vT|exact vM|exact vL|exact vX))|(apply q_as; (first|exact vD|exact vO|exact vP|exact vA|exact vF|exact vR|exact vN|exact vY|exact vT|exact vM|exact vL|exact vX))|(apply q_leq; exact rfl; exact rfl)|(apply q_geq; exact rfl; exact rfl)|(apply (q_pickT (u := .d _)); exact rfl; exact rfl)
    | (apply (q_pickF (u := .d _)); exact rfl; exact rfl)))|(refine W.gOff _ _ rfl rfl (by intro h; cases h) ?_)|(apply AWP.seq)|(apply ACont_normal)|(apply W.region; kernel_rfl)|(apply Walk.nil)|(apply AWP.ret)
  | (refine W.gT _ _ rfl rfl (fun hb => ?_) (fun hb => ?_) <;> ((try simp only [hb, zA, zB]) <;> (try simp only [zC, zD, zE, zF, zG, zH, zI, zJ] at hb) <;> (try (exfalso; omega))))))
  all_goals refine Ends.b rfl ?_
  all_goals first | (rw [Bool.eq_iff_iff]; simp; omega) | (simp; omega)
theorem A_digit (c : Nat) : ACalls Tryd.prog 120 [.d (.v (.int .u8 c))] [] (bV (digB c)) [] := by
  refine acalls_of_body Tryd.func120 rfl (Nat.le_of_ble_eq_true rfl) ?_
  unfold digB
  (repeat' (first
  | (apply W.gOn; exact rfl; exact rfl)
  | (apply W.qd; (first
    | (apply q_mv; (first|exact vD|exact vO|exact vP|exact vA|exact vF|exact vR|exact vN|exact vY|exact vT|exact vM|exact vL|exact vX))|(apply q_as; (first|exact vD|exact vO|exact vP|exact vA|exact vF|exact vR|exact vN|exact vY|exact vT|exact vM|exact vL|exact vX))|(apply q_leq; exact rfl; exact rfl)|(apply q_geq; exact rfl; exact rfl)|(apply (q_pickT (u := .d _)); exact rfl; exact rfl)
    | (apply (q_pickF (u := .d _)); exact rfl; exact rfl)))|(refine W.gOff _ _ rfl rfl (by intro h; cases h) ?_)|(apply AWP.seq)|(apply ACont_normal)|(apply W.region; kernel_rfl)|(apply Walk.nil)|(apply AWP.ret)
  | (refine W.gT _ _ rfl rfl (fun hb => ?_) (fun hb => ?_) <;> ((try simp only [hb, zA, zB]) <;> (try simp only [zC, zD, zE, zF, zG, zH, zI, zJ] at hb) <;> (try (exfalso; omega))))))
  all_goals refine Ends.b rfl ?_
  all_goals first | (rw [Bool.eq_iff_iff]; simp; omega) | (simp; omega)
theorem A_isField (M : Int) : ACalls Tryd.prog 75 [iV M] [] (bV (decide (M = 8 ∨ M = 16))) [] := by
  refine acalls_of_body Tryd.func75 rfl (Nat.le_of_ble_eq_true rfl) ?_
  (repeat' (first
  | (apply W.gOn; exact rfl; exact rfl)
  | (apply W.qd; (first
    | (apply q_mv; (first|exact vD|exact vO|exact vP|exact vA|exact vF|exact vR|exact vN|exact vY|exact vT|exact vM|exact vL|exact vX))|(apply q_as; (first|exact vD|exact vO|exact vP|exact vA|exact vF|exact vR|exact vN|exact vY|exact vT|exact vM|exact vL|exact vX))|(apply q_eql; exact rfl; exact rfl)|(apply (q_pickT (u := .d _)); exact rfl; exact rfl)
    | (apply (q_pickF (u := .d _)); exact rfl; exact rfl)))|(refine W.gOff _ _ rfl rfl (by intro h; cases h) ?_)|(apply AWP.seq)|(apply ACont_normal)|(apply W.region; kernel_rfl)|(apply Walk.nil)|(apply AWP.ret)
  | (refine W.gF _ _ rfl rfl (fun hb => ?_) (fun hb => ?_) <;> ((try simp only [hb, zA, zB]) <;> (try simp only [zC, zD, zE, zF, zG, zH, zI, zJ] at hb) <;> (try (exfalso; omega))))))
  all_goals refine Ends.b rfl ?_
  all_goals first | (rw [Bool.eq_iff_iff]; simp; omega) | (simp; omega)
theorem A_isWord {s : List Nat} (hs : isB s) (hl : s.length < 9223372036854775808) : ACalls Tryd.prog 74 [bS s] [] (bV (wordB s)) [] := by
  refine acalls_of_body Tryd.func74 rfl (Nat.le_of_ble_eq_true rfl) ?_
  have hL := A_letter
  have hG := A_digit
  (repeat' (first
  | (apply W.qd; (first
    | (apply q_mv; (first|exact vD|exact vO|exact vP|exact vA|exact vF|exact vR|exact vN|exact vY|exact vT|exact vM|exact vL|exact vX))|(apply q_as; (first|exact vD|exact vO|exact vP|exact vA|exact vF|exact vR|exact vN|exact vY|exact vT|exact vM|exact vL|exact vX))
    | (apply q_len_bs; exact rfl; exact rfl)))|(apply AWP.seq)|(apply ACont_normal)|(apply (W.regionS 2); exact rfl; kernel_rfl)|(apply Walk.nil)
  | (apply AWP.block)))
  refine AWP.loopW (α := Nat) (fun k => k ≤ s.length ∧ ∀ j, j < k → wordAt s j = true) (fun k => ⟨[(6, iV k), (5, iV s.length), (0, bS s)], []⟩) (fun k => s.length - k) 0 ⟨Nat.zero_le _, fun j hj => by omega⟩ ⟨[], rfl, rfl, rfl, by (repeat (first | exact trivial | refine ⟨rfl, ?_⟩))⟩ fun k hk => ?_
  by_cases hkl : k < s.length
  · have eg : s.getD k 0 = s[k] := by rw [List.getD_eq_getElem?_getD, List.getElem?_eq_getElem hkl]; rfl
    have hnext : wordAt s k = true → ∀ j, j < k + 1 → wordAt s j = true := fun h j hj => by
      by_cases e : j = k
      · subst e; exact h
      · exact hk.2 j (by omega)
    have hbad : wordAt s k = false → wordB s = false := fun h => by
      unfold wordB
      rw [Bool.and_eq_false_iff]
      right
      rw [List.all_eq_false]
      exact ⟨k, List.mem_range.2 hkl, by rw [h]; decide⟩
    have hwa : wordAt s k = (letB s[k] || (decide (k ≠ 0) && digB s[k])) := by unfold wordAt; rw [eg]
    replace hwa := Lib.hid hwa
    (repeat' (first
  | (apply W.gOn; exact rfl; exact rfl)
  | (apply W.qd; (first
    | (apply (q_callC (hL s[k])); exact rfl; exact rfl; kernel_rfl; kernel_rfl; kernel_rfl)|(apply (q_callC (hG s[k])); exact rfl; exact rfl; kernel_rfl; kernel_rfl; kernel_rfl)|(apply q_mv; (first|exact vD|exact vO|exact vP|exact vA|exact vF|exact vR|exact vN|exact vY|exact vT|exact vM|exact vL|exact vX))|(apply q_as; (first|exact vD|exact vO|exact vP|exact vA|exact vF|exact vR|exact vN|exact vY|exact vT|exact vM|exact vL|exact vX))|(apply q_lss; exact rfl; exact rfl)|(apply q_eql; exact rfl; exact rfl)|(apply q_not; exact rfl)|(apply q_add; exact rfl; exact rfl; omega)|(apply q_ix_bs; (iterate 3 exact rfl); (first | (with_reducible exact rfl) | exact natI_spec rfl | assumption | exact (Int.toNat_of_nonneg (by omega)).symm); (first | omega | (focus (simp only [List.length_map]; omega)) | (focus (simp; done)) | (focus (simp; omega))); assumption)|(apply (q_pickT (u := .d _)); exact rfl; exact rfl)
    | (apply (q_pickF (u := .d _)); exact rfl; exact rfl)))|(refine W.gOff _ _ rfl rfl (by intro h; cases h) ?_)|(apply AWP.seq)|(apply ACont_normal)|(apply W.region; kernel_rfl)|(apply Walk.nil)|(apply AWP.block)|(apply AWP.skip)|(apply AWP.ret)|(apply ACont_ret)|(apply ABlock_normal)|(apply ABlock_ret)|(apply W.condT; exact rfl)|(apply W.condF; exact rfl)|(refine W.gT _ _ rfl rfl (fun hb => ?_) (fun hb => ?_) <;> ((try simp only [hb, zA, zB]) <;> (try simp only [zC, zD, zE, zF, zG, zH, zI, zJ] at hb) <;> (try (exfalso; omega))))|(refine W.gF _ _ rfl rfl (fun hb => ?_) (fun hb => ?_) <;> ((try simp only [hb, zA, zB]) <;> (try simp only [zC, zD, zE, zF, zG, zH, zI, zJ] at hb) <;> (try (exfalso; omega))))
  | (refine W.cond _ rfl (fun hb => ?_) (fun hb => ?_) <;> ((try simp only [hb, zA, zB]) <;> (try simp only [zC, zD, zE, zF, zG, zH, zI, zJ] at hb) <;> (try (exfalso; omega))))))
    all_goals first
      | (refine Ends.b rfl (hbad ?_).symm; rw [hwa.out, Bool.or_eq_false_iff, Bool.and_eq_false_iff]; exact ⟨by assumption, by first | exact .inl (decide_eq_false (by omega)) | exact .inr (by assumption)⟩)|(refine ⟨k + 1, ⟨by omega, hnext ?_⟩, by omega, [], rfl, rfl, rfl, iV_eq (by omega), rfl, rfl, trivial⟩; rw [hwa.out, Bool.or_eq_true, Bool.and_eq_true]; first | exact .inl (by assumption) | exact .inr ⟨decide_eq_true (by omega), by assumption⟩)
  · have hall : (List.range s.length).all (wordAt s) = true := by
      rw [List.all_eq_true]
      intro j hj
      exact hk.2 j (by have := List.mem_range.1 hj; omega)
    unfold wordB
    rw [hall, Bool.and_true]
    (repeat' (first
  | (apply W.qd; (first
    | ((apply (q_neqS (l' := [])); exact rfl; exact rfl; assumption; exact isB_nil))|(apply q_mv; (first|exact vD|exact vO|exact vP|exact vA|exact vF|exact vR|exact vN|exact vY|exact vT|exact vM|exact vL|exact vX))|(apply q_as; (first|exact vD|exact vO|exact vP|exact vA|exact vF|exact vR|exact vN|exact vY|exact vT|exact vM|exact vL|exact vX))
    | (apply q_lss; exact rfl; exact rfl)))|(apply AWP.seq)|(apply ACont_normal)|(apply W.region; kernel_rfl)|(apply Walk.nil)|(apply AWP.exit)|(apply AWP.ret)|(apply ACont_exit)|(apply ABlock_exit)
  | (refine W.cond _ rfl (fun hb => ?_) (fun hb => ?_) <;> ((try simp only [hb, zA, zB]) <;> (try simp only [zC, zD, zE, zF, zG, zH, zI, zJ] at hb) <;> (try (exfalso; omega))))))
    refine Ends.b rfl ?_
    simp
theorem A_minI {l : List Int} (h0 : 0 < l.length) (hl : l.length ≤ 1000000) : ACalls Tryd.prog 76 [ints l] [] (iV (minK l (l.length - 1))) [] := by
  refine acalls_of_body Tryd.func76 rfl (Nat.le_of_ble_eq_true rfl) ?_
  have hml : (l.map iD).length = l.length := List.length_map _
  have e0 : minK l 0 = l[0] := by show l.getD 0 0 = _; rw [List.getD_eq_getElem?_getD, List.getElem?_eq_getElem h0]; rfl
  (repeat' (first
  | (apply W.qd; (first
    | (apply q_mv; (first|exact vD|exact vO|exact vP|exact vA|exact vF|exact vR|exact vN|exact vY|exact vT|exact vM|exact vL|exact vX))|(apply q_as; (first|exact vD|exact vO|exact vP|exact vA|exact vF|exact vR|exact vN|exact vY|exact vT|exact vM|exact vL|exact vX))|(apply q_lss; exact rfl; exact rfl)|(apply q_len_sl; exact rfl; exact rfl)|(apply q_ld_map; (iterate 3 exact rfl); (first | omega | (focus (simp; done))))
    | (apply q_ix_slF; (iterate 4 exact rfl); (first | (with_reducible exact rfl) | exact natI_spec rfl | assumption | exact (Int.toNat_of_nonneg (by omega)).symm); (first | omega | (focus (simp only [List.length_map]; omega)) | (focus (simp; done)) | (focus (simp; omega))))))|(apply AWP.seq)|(apply ACont_normal)|(apply (W.regionS 5); exact rfl; kernel_rfl)|(apply Walk.nil)|(apply AWP.block)|(apply AWP.skip)
  | (refine W.cond _ rfl (fun hb => ?_) (fun hb => ?_) <;> ((try simp only [hb, zA, zB]) <;> (try simp only [zC, zD, zE, zF, zG, zH, zI, zJ] at hb) <;> (try (exfalso; omega))))))
  refine AWP.loopW (α := Nat) (fun k => k < l.length) (fun k => ⟨[(4, iV ((k + 1 : Nat) : Int)), (3, iV (minK l k)), (0, ints l)], []⟩) (fun k => l.length - k) 0 h0 (by rw [e0]; exact ⟨[], rfl, rfl, rfl, by (repeat (first | exact trivial | refine ⟨rfl, ?_⟩))⟩) fun k hk => ?_
  by_cases hkl : k + 1 < l.length
  · have e1 : minK l (k + 1) = if l[k + 1] < minK l k then l[k + 1] else minK l k := by
      show (if l.getD (k + 1) 0 < minK l k then l.getD (k + 1) 0 else minK l k) = _
      have : l.getD (k + 1) 0 = l[k + 1] := by rw [List.getD_eq_getElem?_getD, List.getElem?_eq_getElem hkl]; rfl
      rw [this]
    replace e1 := Lib.hid e1
    generalize minK l k = a at *
    (repeat' (first
  | (apply W.qd; (first
    | (apply q_mv; (first|exact vD|exact vO|exact vP|exact vA|exact vF|exact vR|exact vN|exact vY|exact vT|exact vM|exact vL|exact vX))|(apply q_as; (first|exact vD|exact vO|exact vP|exact vA|exact vF|exact vR|exact vN|exact vY|exact vT|exact vM|exact vL|exact vX))|(apply q_lss; exact rfl; exact rfl)|(apply q_add; exact rfl; exact rfl; omega)|(apply q_len_sl; exact rfl; exact rfl)|(apply q_ld_map; (iterate 3 exact rfl); (first | omega | (focus (simp; done))))|(apply q_ix_slF; (iterate 4 exact rfl); (first | (with_reducible exact rfl) | exact natI_spec rfl | assumption | exact (Int.toNat_of_nonneg (by omega)).symm); (first | omega | (focus (simp only [List.length_map]; omega)) | (focus (simp; done)) | (focus (simp; omega))))
    | (apply q_min; exact rfl; exact rfl)))|(apply AWP.seq)|(apply ACont_normal)|(apply W.region; kernel_rfl)|(apply Walk.nil)|(apply AWP.block)|(apply AWP.skip)|(apply ABlock_normal)
  | (refine W.cond _ rfl (fun hb => ?_) (fun hb => ?_) <;> ((try simp only [hb, zA, zB]) <;> (try simp only [zC, zD, zE, zF, zG, zH, zI, zJ] at hb) <;> (try (exfalso; omega))))))
    refine ⟨k + 1, hkl, by omega, ?_⟩
    rw [e1.out]
    exact ⟨[], rfl, rfl, rfl, iV_eq (by omega), rfl, rfl, trivial⟩
  · have : k = l.length - 1 := by omega
    subst this
    generalize minK l (l.length - 1) = a at *
    (repeat' (first
  | (apply W.qd; (first
    | (apply q_mv; (first|exact vD|exact vO|exact vP|exact vA|exact vF|exact vR|exact vN|exact vY|exact vT|exact vM|exact vL|exact vX))|(apply q_as; (first|exact vD|exact vO|exact vP|exact vA|exact vF|exact vR|exact vN|exact vY|exact vT|exact vM|exact vL|exact vX))|(apply q_lss; exact rfl; exact rfl)
    | (apply q_len_sl; exact rfl; exact rfl)))|(apply AWP.seq)|(apply ACont_normal)|(apply W.region; kernel_rfl)|(apply Walk.nil)|(apply AWP.exit)|(apply AWP.ret)|(apply ACont_exit)|(apply ABlock_exit)
  | (refine W.cond _ rfl (fun hb => ?_) (fun hb => ?_) <;> ((try simp only [hb, zA, zB]) <;> (try simp only [zC, zD, zE, zF, zG, zH, zI, zJ] at hb) <;> (try (exfalso; omega))))))
    exact Ends.i rfl rfl
theorem A_maxI {l : List Int} (h0 : 0 < l.length) (hl : l.length ≤ 1000000) : ACalls Tryd.prog 77 [ints l] [] (iV (maxK l (l.length - 1))) [] := by
  refine acalls_of_body Tryd.func77 rfl (Nat.le_of_ble_eq_true rfl) ?_
  have hml : (l.map iD).length = l.length := List.length_map _
  have e0 : maxK l 0 = l[0] := by show l.getD 0 0 = _; rw [List.getD_eq_getElem?_getD, List.getElem?_eq_getElem h0]; rfl
  (repeat' (first
  | (apply W.qd; (first
    | (apply q_mv; (first|exact vD|exact vO|exact vP|exact vA|exact vF|exact vR|exact vN|exact vY|exact vT|exact vM|exact vL|exact vX))|(apply q_as; (first|exact vD|exact vO|exact vP|exact vA|exact vF|exact vR|exact vN|exact vY|exact vT|exact vM|exact vL|exact vX))|(apply q_lss; exact rfl; exact rfl)|(apply q_len_sl; exact rfl; exact rfl)|(apply q_ld_map; (iterate 3 exact rfl); (first | omega | (focus (simp; done))))
    | (apply q_ix_slF; (iterate 4 exact rfl); (first | (with_reducible exact rfl) | exact natI_spec rfl | assumption | exact (Int.toNat_of_nonneg (by omega)).symm); (first | omega | (focus (simp only [List.length_map]; omega)) | (focus (simp; done)) | (focus (simp; omega))))))|(apply AWP.seq)|(apply ACont_normal)|(apply (W.regionS 5); exact rfl; kernel_rfl)|(apply Walk.nil)|(apply AWP.block)|(apply AWP.skip)
  | (refine W.cond _ rfl (fun hb => ?_) (fun hb => ?_) <;> ((try simp only [hb, zA, zB]) <;> (try simp only [zC, zD, zE, zF, zG, zH, zI, zJ] at hb) <;> (try (exfalso; omega))))))
  refine AWP.loopW (α := Nat) (fun k => k < l.length) (fun k => ⟨[(4, iV ((k + 1 : Nat) : Int)), (3, iV (maxK l k)), (0, ints l)], []⟩) (fun k => l.length - k) 0 h0 (by rw [e0]; exact ⟨[], rfl, rfl, rfl, by (repeat (first | exact trivial | refine ⟨rfl, ?_⟩))⟩) fun k hk => ?_
  by_cases hkl : k + 1 < l.length
  · have e1 : maxK l (k + 1) = if l[k + 1] > maxK l k then l[k + 1] else maxK l k := by
      show (if l.getD (k + 1) 0 > maxK l k then l.getD (k + 1) 0 else maxK l k) = _
      have : l.getD (k + 1) 0 = l[k + 1] := by rw [List.getD_eq_getElem?_getD, List.getElem?_eq_getElem hkl]; rfl
      rw [this]
    replace e1 := Lib.hid e1
    generalize maxK l k = a at *
    (repeat' (first
  | (apply W.qd; (first
    | (apply q_mv; (first|exact vD|exact vO|exact vP|exact vA|exact vF|exact vR|exact vN|exact vY|exact vT|exact vM|exact vL|exact vX))|(apply q_as; (first|exact vD|exact vO|exact vP|exact vA|exact vF|exact vR|exact vN|exact vY|exact vT|exact vM|exact vL|exact vX))|(apply q_lss; exact rfl; exact rfl)|(apply q_add; exact rfl; exact rfl; omega)|(apply q_len_sl; exact rfl; exact rfl)|(apply q_ld_map; (iterate 3 exact rfl); (first | omega | (focus (simp; done))))|(apply q_ix_slF; (iterate 4 exact rfl); (first | (with_reducible exact rfl) | exact natI_spec rfl | assumption | exact (Int.toNat_of_nonneg (by omega)).symm); (first | omega | (focus (simp only [List.length_map]; omega)) | (focus (simp; done)) | (focus (simp; omega))))
    | (apply q_max; exact rfl; exact rfl)))|(apply AWP.seq)|(apply ACont_normal)|(apply W.region; kernel_rfl)|(apply Walk.nil)|(apply AWP.block)|(apply AWP.skip)|(apply ABlock_normal)
  | (refine W.cond _ rfl (fun hb => ?_) (fun hb => ?_) <;> ((try simp only [hb, zA, zB]) <;> (try simp only [zC, zD, zE, zF, zG, zH, zI, zJ] at hb) <;> (try (exfalso; omega))))))
    refine ⟨k + 1, hkl, by omega, ?_⟩
    rw [e1.out]
    exact ⟨[], rfl, rfl, rfl, iV_eq (by omega), rfl, rfl, trivial⟩
  · have : k = l.length - 1 := by omega
    subst this
    generalize maxK l (l.length - 1) = a at *
    (repeat' (first
  | (apply W.qd; (first
    | (apply q_mv; (first|exact vD|exact vO|exact vP|exact vA|exact vF|exact vR|exact vN|exact vY|exact vT|exact vM|exact vL|exact vX))|(apply q_as; (first|exact vD|exact vO|exact vP|exact vA|exact vF|exact vR|exact vN|exact vY|exact vT|exact vM|exact vL|exact vX))|(apply q_lss; exact rfl; exact rfl)
    | (apply q_len_sl; exact rfl; exact rfl)))|(apply AWP.seq)|(apply ACont_normal)|(apply W.region; kernel_rfl)|(apply Walk.nil)|(apply AWP.exit)|(apply AWP.ret)|(apply ACont_exit)|(apply ABlock_exit)
  | (refine W.cond _ rfl (fun hb => ?_) (fun hb => ?_) <;> ((try simp only [hb, zA, zB]) <;> (try simp only [zC, zD, zE, zF, zG, zH, zI, zJ] at hb) <;> (try (exfalso; omega))))))
    exact Ends.i rfl rfl
end Go.Proofs.YtaclmbbiegklcaaDoor
end
section
/- Layer 7 over the machine of abstract values: codelang.Check. -/
namespace Go.Proofs.YtaclmbbiegklcaaDoor
open Go.RowKit
set_option maxHeartbeats 4000000
set_option maxRecDepth 100000
attribute [local irreducible] Quiet Eff OpOk AWPG ACont ABlock ACalls AGoto
theorem shr8 {x : Int} (h : 0 ≤ x) : (0 < ((x.toNat >>> 8 : Nat) : Int)) ↔ 256 ≤ x := by
  rw [Nat.shiftRight_eq_div_pow]; omega
theorem shr16 {x : Int} (h : 0 ≤ x) : (0 < ((x.toNat >>> 16 : Nat) : Int)) ↔ 65536 ≤ x := by
  rw [Nat.shiftRight_eq_div_pow]; omega
theorem A_lcheck {nm : List Nat} {M D dom : Int} {par : List (List Int)} (hn : isB nm) (hnl : nm.length < 9223372036854775808) (hD : 0 ≤ D ∧ D ≤ 1000000) (hP : par.length ≤ 1000000) :
    ∃ e : Int, ACalls Tryd.prog 37 [cdF nm M D par dom] [] (iV e) [] ∧ (e = 0 ↔ chkC nm M D par dom = true) := by
  have hW := A_isWord hn hnl
  have hI := A_isField M
  have hmp : (par.map rD).length = par.length := List.length_map _
  by_cases c1 : wordB nm = true
  case neg =>
    have c1 := Bool.eq_false_iff.2 c1
    refine ⟨4, ?_, by unfold chkC; rw [c1]; simp⟩
    rw [c1] at hW
    refine acalls_of_body Tryd.func37 rfl (Nat.le_of_ble_eq_true rfl) ?_
    (repeat' (first
  | (apply W.qd; (first
    | (apply (q_callC (hW)); exact rfl; exact rfl; kernel_rfl; kernel_rfl; kernel_rfl)|(apply q_as; (first|exact vD|exact vO|exact vP|exact vA|exact vF|exact vR|exact vN|exact vY|exact vT|exact vM|exact vL|exact vX))|(apply q_fld_optF; (iterate 3 exact rfl))|(apply q_ld_box; (iterate 4 exact rfl))|(apply q_not; exact rfl)|(apply q_add; exact rfl; exact rfl; omega)
    | (apply q_len_sl; exact rfl; exact rfl)))|(apply W.ed; (apply e_boxF; (iterate 3 exact rfl); kernel_rfl; kernel_rfl))|(apply AWP.seq)|(apply ACont_normal)|(apply W.region; kernel_rfl)|(apply Walk.nil)|(apply AWP.block)|(apply AWP.ret)|(apply ACont_ret)|(apply ABlock_ret)
  | (apply W.condT; exact rfl)))
    exact Ends.i rfl rfl
  rw [c1] at hW
  by_cases c2 : nm.length ≤ 12
  case neg =>
    refine ⟨2, ?_, by unfold chkC; rw [decide_eq_false c2]; simp⟩
    refine acalls_of_body Tryd.func37 rfl (Nat.le_of_ble_eq_true rfl) ?_
    (repeat' (first
  | (apply W.qd; (first
    | (apply (q_callC (hW)); exact rfl; exact rfl; kernel_rfl; kernel_rfl; kernel_rfl)|(apply q_as; (first|exact vD|exact vO|exact vP|exact vA|exact vF|exact vR|exact vN|exact vY|exact vT|exact vM|exact vL|exact vX))|(apply q_fld_optF; (iterate 3 exact rfl))|(apply q_ld_box; (iterate 4 exact rfl))|(apply q_gtr; exact rfl; exact rfl)|(apply q_not; exact rfl)|(apply q_add; exact rfl; exact rfl; omega)|(apply q_len_sl; exact rfl; exact rfl)
    | (apply q_len_bs; exact rfl; exact rfl)))|(apply W.ed; (apply e_boxF; (iterate 3 exact rfl); kernel_rfl; kernel_rfl))|(apply AWP.seq)|(apply ACont_normal)|(apply W.region; kernel_rfl)|(apply Walk.nil)|(apply AWP.block)|(apply AWP.ret)|(apply ACont_ret)|(apply ABlock_ret)|(apply W.condF; exact rfl)
  | (refine W.cond _ rfl (fun hb => ?_) (fun hb => ?_) <;> ((try simp only [hb, zA, zB]) <;> (try simp only [zC, zD, zE, zF, zG, zH, zI, zJ] at hb) <;> (try (exfalso; omega))))))
    exact Ends.i rfl rfl
  by_cases c3 : (M = 8 ∨ M = 16) ∧ 1 ≤ D ∧ D ≤ 31 ∧ par.length ≠ 0
  case neg =>
    refine ⟨1, ?_, ?_⟩
    · refine acalls_of_body Tryd.func37 rfl (Nat.le_of_ble_eq_true rfl) ?_
      (repeat' (first
  | (apply W.gOn; exact rfl; exact rfl)
  | (apply W.qd; (first
    | (apply (q_callC (hW)); exact rfl; exact rfl; kernel_rfl; kernel_rfl; kernel_rfl)|(apply (q_callC (hI)); exact rfl; exact rfl; kernel_rfl; kernel_rfl; kernel_rfl)|(apply q_mv; (first|exact vD|exact vO|exact vP|exact vA|exact vF|exact vR|exact vN|exact vY|exact vT|exact vM|exact vL|exact vX))|(apply q_as; (first|exact vD|exact vO|exact vP|exact vA|exact vF|exact vR|exact vN|exact vY|exact vT|exact vM|exact vL|exact vX))|(apply q_fld_optF; (iterate 3 exact rfl))|(apply q_ld_box; (iterate 4 exact rfl))|(apply q_lss; exact rfl; exact rfl)|(apply q_gtr; exact rfl; exact rfl)|(apply q_eql; exact rfl; exact rfl)|(apply q_not; exact rfl)|(apply q_add; exact rfl; exact rfl; omega)|(apply q_len_sl; exact rfl; exact rfl)|(apply q_len_bs; exact rfl; exact rfl)|(apply (q_pickT (u := .d _)); exact rfl; exact rfl)
    | (apply (q_pickF (u := .d _)); exact rfl; exact rfl)))|(apply W.ed; (apply e_boxF; (iterate 3 exact rfl); kernel_rfl; kernel_rfl))|(refine W.gOff _ _ rfl rfl (by intro h; cases h) ?_)|(apply AWP.seq)|(apply ACont_normal)|(apply W.region; kernel_rfl)|(apply Walk.nil)|(apply AWP.block)|(apply AWP.ret)|(apply ACont_ret)|(apply ABlock_ret)|(apply W.condT; exact rfl)|(apply W.condF; exact rfl)|(refine W.gF _ _ rfl rfl (fun hb => ?_) (fun hb => ?_) <;> ((try simp only [hb, zA, zB]) <;> (try simp only [zC, zD, zE, zF, zG, zH, zI, zJ] at hb) <;> (try (exfalso; omega))))
  | (refine W.cond _ rfl (fun hb => ?_) (fun hb => ?_) <;> ((try simp only [hb, zA, zB]) <;> (try simp only [zC, zD, zE, zF, zG, zH, zI, zJ] at hb) <;> (try (exfalso; omega))))))
      all_goals first | exact Ends.i rfl rfl | (exfalso; apply c3; refine ⟨by assumption, by omega, by omega, by omega⟩)
    · refine ⟨fun h => by omega, fun h => ?_⟩
      unfold chkC at h
      simp only [Bool.and_eq_true, decide_eq_true_eq] at h
      exact absurd ⟨h.1.1.2.1.1.1.1, h.1.1.2.1.1.1.2, h.1.1.2.1.1.2, h.1.1.2.1.2⟩ c3
  obtain ⟨c3, c4, c5, c6⟩ := c3
  rw [decide_eq_true c3] at hI
  by_cases c7 : D + (par.length : Int) ≤ 32
  case neg =>
    refine ⟨2, ?_, by unfold chkC; rw [decide_eq_false c7]; simp⟩
    refine acalls_of_body Tryd.func37 rfl (Nat.le_of_ble_eq_true rfl) ?_
    (repeat' (first
  | (apply W.gOn; exact rfl; exact rfl)
  | (apply W.qd; (first
    | (apply (q_callC (hW)); exact rfl; exact rfl; kernel_rfl; kernel_rfl; kernel_rfl)|(apply (q_callC (hI)); exact rfl; exact rfl; kernel_rfl; kernel_rfl; kernel_rfl)|(apply q_mv; (first|exact vD|exact vO|exact vP|exact vA|exact vF|exact vR|exact vN|exact vY|exact vT|exact vM|exact vL|exact vX))|(apply q_as; (first|exact vD|exact vO|exact vP|exact vA|exact vF|exact vR|exact vN|exact vY|exact vT|exact vM|exact vL|exact vX))|(apply q_fld_optF; (iterate 3 exact rfl))|(apply q_ld_box; (iterate 4 exact rfl))|(apply q_lss; exact rfl; exact rfl)|(apply q_gtr; exact rfl; exact rfl)|(apply q_eql; exact rfl; exact rfl)|(apply q_not; exact rfl)|(apply q_add; exact rfl; exact rfl; omega)|(apply q_len_sl; exact rfl; exact rfl)|(apply q_len_bs; exact rfl; exact rfl)
    | (apply (q_pickF (u := .d _)); exact rfl; exact rfl)))|(apply W.ed; (apply e_boxF; (iterate 3 exact rfl); kernel_rfl; kernel_rfl))|(apply AWP.seq)|(apply ACont_normal)|(apply W.region; kernel_rfl)|(apply Walk.nil)|(apply AWP.block)|(apply AWP.ret)|(apply ACont_ret)|(apply ABlock_ret)|(apply W.condF; exact rfl)|(refine W.gF _ _ rfl rfl (fun hb => ?_) (fun hb => ?_) <;> ((try simp only [hb, zA, zB]) <;> (try simp only [zC, zD, zE, zF, zG, zH, zI, zJ] at hb) <;> (try (exfalso; omega))))
  | (refine W.cond _ rfl (fun hb => ?_) (fun hb => ?_) <;> ((try simp only [hb, zA, zB]) <;> (try simp only [zC, zD, zE, zF, zG, zH, zI, zJ] at hb) <;> (try (exfalso; omega))))))
    exact Ends.i rfl rfl
  have hall : ∀ e : Int, (par.all (rowOk M D) = false → e = 1) → (par.all (rowOk M D) = true → e = if 1 ≤ dom ∧ dom ≤ D + (par.length : Int) then 0 else 1) → ACalls Tryd.prog 37 [cdF nm M D par dom] [] (iV e) [] := fun e he0 he1 => by
    refine acalls_of_body Tryd.func37 rfl (Nat.le_of_ble_eq_true rfl) ?_
    (repeat' (first
  | (apply W.gOn; exact rfl; exact rfl)
  | (apply W.qd; (first
    | (apply (q_callC (hW)); exact rfl; exact rfl; kernel_rfl; kernel_rfl; kernel_rfl)|(apply (q_callC (hI)); exact rfl; exact rfl; kernel_rfl; kernel_rfl; kernel_rfl)|(apply q_mv; (first|exact vD|exact vO|exact vP|exact vA|exact vF|exact vR|exact vN|exact vY|exact vT|exact vM|exact vL|exact vX))|(apply q_as; (first|exact vD|exact vO|exact vP|exact vA|exact vF|exact vR|exact vN|exact vY|exact vT|exact vM|exact vL|exact vX))|(apply q_fld_optF; (iterate 3 exact rfl))|(apply q_ld_box; (iterate 4 exact rfl))|(apply q_lss; exact rfl; exact rfl)|(apply q_gtr; exact rfl; exact rfl)|(apply q_eql; exact rfl; exact rfl)|(apply q_not; exact rfl)|(apply q_add; exact rfl; exact rfl; omega)|(apply q_len_sl; exact rfl; exact rfl)|(apply q_len_bs; exact rfl; exact rfl)
    | (apply (q_pickF (u := .d _)); exact rfl; exact rfl)))|(apply W.ed; (apply e_boxF; (iterate 3 exact rfl); kernel_rfl; kernel_rfl))|(apply AWP.seq)|(apply ACont_normal)|(apply (W.regionS 11); exact rfl; kernel_rfl)|(apply Walk.nil)|(apply AWP.block)|(apply AWP.skip)|(apply ABlock_normal)|(apply W.condF; exact rfl)|(refine W.gF _ _ rfl rfl (fun hb => ?_) (fun hb => ?_) <;> ((try simp only [hb, zA, zB]) <;> (try simp only [zC, zD, zE, zF, zG, zH, zI, zJ] at hb) <;> (try (exfalso; omega))))
  | (refine W.cond _ rfl (fun hb => ?_) (fun hb => ?_) <;> ((try simp only [hb, zA, zB]) <;> (try simp only [zC, zD, zE, zF, zG, zH, zI, zJ] at hb) <;> (try (exfalso; omega))))))
    refine AWP.loopW (α := Nat) (fun k => k ≤ par.length ∧ ∀ j, j < k → rowOk M D (par.getD j []) = true) (fun k => ⟨[(49, iV k), (48, iV par.length), (47, rowsA par), (3, iV (D + (par.length : Int))), (1, .opt 0 0)], [.box [bS nm, iV M, iV D, rowsA par, iV dom]]⟩) (fun k => par.length - k) 0 ⟨Nat.zero_le _, fun j hj => by omega⟩ ?wk0 fun k hk => ?_
    case wk0 => exact ⟨[0], rfl, rfl, rfl, rfl, iV_eq (by omega), rfl, iV_eq (by omega), rfl, trivial⟩
    by_cases hkl : k < par.length
    · have eg : par.getD k [] = par[k] := by rw [List.getD_eq_getElem?_getD, List.getElem?_eq_getElem hkl]; rfl
      have hnext : rowOk M D par[k] = true → ∀ j, j < k + 1 → rowOk M D (par.getD j []) = true := fun h j hj => by
        by_cases e : j = k
        · subst e; rw [eg]; exact h
        · exact hk.2 j (by omega)
      have hbad : rowOk M D par[k] = false → e = 1 := fun h => he0 (by rw [List.all_eq_false]; exact ⟨par[k], List.getElem_mem hkl, by rw [h]; decide⟩)
      generalize hr : par[k] = r at hnext hbad
      have hmr : (r.map iD).length = r.length := List.length_map _
      by_cases hrl : (r.length : Int) = D
      · have h0 : 0 < r.length := by omega
        have hmn := A_minI h0 (by omega)
        have hmx := A_maxI h0 (by omega)
        have hro := rowOk_min (M := M) c3 hrl h0
        generalize minK r (r.length - 1) = mn at *
        generalize maxK r (r.length - 1) = mx at *
        rw [← hr] at hmn hmx hrl
        clear he0 he1 hk
        rcases c3 with rfl | rfl
        · rw [if_pos rfl] at hro
          have hsh := fun h => shr8 (x := mx) h
          replace hro := Lib.hid hro
          (repeat' (first
  | (apply W.gOn; exact rfl; exact rfl)
  | (apply W.qd; (first
    | (apply (q_callC (hmn)); exact rfl; exact rfl; kernel_rfl; kernel_rfl; kernel_rfl)|(apply (q_callC (hmx)); exact rfl; exact rfl; kernel_rfl; kernel_rfl; kernel_rfl)|(apply q_mv; (first|exact vD|exact vO|exact vP|exact vA|exact vF|exact vR|exact vN|exact vY|exact vT|exact vM|exact vL|exact vX))|(apply q_as; (first|exact vD|exact vO|exact vP|exact vA|exact vF|exact vR|exact vN|exact vY|exact vT|exact vM|exact vL|exact vX))|(apply q_fld_optF; (iterate 3 exact rfl))|(apply q_ld_box; (iterate 4 exact rfl))|(apply q_lss; exact rfl; exact rfl)|(apply q_gtr; exact rfl; exact rfl)|(apply q_neq; exact rfl; exact rfl)|(apply q_add; exact rfl; exact rfl; omega)|(apply q_len_sl; exact rfl; exact rfl)|(apply q_ld_map; (iterate 3 exact rfl); (first | omega | (focus (simp; done))))|(apply q_ix_slF; (iterate 4 exact rfl); (first | (with_reducible exact rfl) | exact natI_spec rfl | assumption | exact (Int.toNat_of_nonneg (by omega)).symm); (first | omega | (focus (simp only [List.length_map]; omega)) | (focus (simp; done)) | (focus (simp; omega))))|(apply (q_pickT (u := .d _)); exact rfl; exact rfl)|(apply (q_pickF (u := .d _)); exact rfl; exact rfl)
    | (apply q_shrN; exact rfl; exact rfl; (first | (with_reducible exact rfl) | exact natI_spec rfl | assumption | exact (Int.toNat_of_nonneg (by omega)).symm); (first | (with_reducible exact rfl) | exact natI_spec rfl | assumption | exact (Int.toNat_of_nonneg (by omega)).symm); focus (show _ ≤ 64; omega))))|(refine W.gOff _ _ rfl rfl (by intro h; cases h) ?_)|(apply AWP.seq)|(apply ACont_normal)|(apply W.region; kernel_rfl)|(apply W.regionD; exact rfl; kernel_rfl)|(apply Walk.nil)|(apply W.chk; kernel_rfl)|(apply AWP.block)|(apply AWP.skip)|(apply AWP.ret)|(apply ACont_ret)|(apply ABlock_normal)|(apply ABlock_ret)|(apply W.condT; exact rfl)|(refine W.gF _ _ rfl rfl (fun hb => ?_) (fun hb => ?_) <;> ((try simp only [hb, zA, zB]) <;> (try simp only [zC, zD, zE, zF, zG, zH, zI, zJ] at hb) <;> (try (exfalso; omega))))
  | (refine W.cond _ rfl (fun hb => ?_) (fun hb => ?_) <;> ((try simp only [hb, zA, zB]) <;> (try simp only [zC, zD, zE, zF, zG, zH, zI, zJ] at hb) <;> (try (exfalso; omega))))))
          all_goals first
            | (refine Ends.i rfl (hbad ?_).symm; rw [hro.out, Bool.and_eq_false_iff, Bool.and_eq_false_iff, decide_eq_false_iff_not, decide_eq_false_iff_not, decide_eq_false_iff_not]; omega)|(refine ⟨k + 1, ⟨by omega, hnext ?_⟩, by omega, [0], rfl, rfl, rfl, iV_eq (by omega), rfl, rfl, rfl, rfl, trivial⟩; rw [hro.out, Bool.and_eq_true, Bool.and_eq_true, decide_eq_true_eq, decide_eq_true_eq, decide_eq_true_eq]; omega)
        · rw [if_neg (by decide)] at hro
          have hsh := fun h => shr16 (x := mx) h
          replace hro := Lib.hid hro
          (repeat' (first
  | (apply W.gOn; exact rfl; exact rfl)
  | (apply W.qd; (first
    | (apply (q_callC (hmn)); exact rfl; exact rfl; kernel_rfl; kernel_rfl; kernel_rfl)|(apply (q_callC (hmx)); exact rfl; exact rfl; kernel_rfl; kernel_rfl; kernel_rfl)|(apply q_mv; (first|exact vD|exact vO|exact vP|exact vA|exact vF|exact vR|exact vN|exact vY|exact vT|exact vM|exact vL|exact vX))|(apply q_as; (first|exact vD|exact vO|exact vP|exact vA|exact vF|exact vR|exact vN|exact vY|exact vT|exact vM|exact vL|exact vX))|(apply q_fld_optF; (iterate 3 exact rfl))|(apply q_ld_box; (iterate 4 exact rfl))|(apply q_lss; exact rfl; exact rfl)|(apply q_gtr; exact rfl; exact rfl)|(apply q_neq; exact rfl; exact rfl)|(apply q_add; exact rfl; exact rfl; omega)|(apply q_len_sl; exact rfl; exact rfl)|(apply q_ld_map; (iterate 3 exact rfl); (first | omega | (focus (simp; done))))|(apply q_ix_slF; (iterate 4 exact rfl); (first | (with_reducible exact rfl) | exact natI_spec rfl | assumption | exact (Int.toNat_of_nonneg (by omega)).symm); (first | omega | (focus (simp only [List.length_map]; omega)) | (focus (simp; done)) | (focus (simp; omega))))|(apply (q_pickT (u := .d _)); exact rfl; exact rfl)|(apply (q_pickF (u := .d _)); exact rfl; exact rfl)
    | (apply q_shrN; exact rfl; exact rfl; (first | (with_reducible exact rfl) | exact natI_spec rfl | assumption | exact (Int.toNat_of_nonneg (by omega)).symm); (first | (with_reducible exact rfl) | exact natI_spec rfl | assumption | exact (Int.toNat_of_nonneg (by omega)).symm); focus (show _ ≤ 64; omega))))|(refine W.gOff _ _ rfl rfl (by intro h; cases h) ?_)|(apply AWP.seq)|(apply ACont_normal)|(apply W.region; kernel_rfl)|(apply W.regionD; exact rfl; kernel_rfl)|(apply Walk.nil)|(apply W.chk; kernel_rfl)|(apply AWP.block)|(apply AWP.skip)|(apply AWP.ret)|(apply ACont_ret)|(apply ABlock_normal)|(apply ABlock_ret)|(apply W.condT; exact rfl)|(refine W.gF _ _ rfl rfl (fun hb => ?_) (fun hb => ?_) <;> ((try simp only [hb, zA, zB]) <;> (try simp only [zC, zD, zE, zF, zG, zH, zI, zJ] at hb) <;> (try (exfalso; omega))))
  | (refine W.cond _ rfl (fun hb => ?_) (fun hb => ?_) <;> ((try simp only [hb, zA, zB]) <;> (try simp only [zC, zD, zE, zF, zG, zH, zI, zJ] at hb) <;> (try (exfalso; omega))))))
          all_goals first
            | (refine Ends.i rfl (hbad ?_).symm; rw [hro.out, Bool.and_eq_false_iff, Bool.and_eq_false_iff, decide_eq_false_iff_not, decide_eq_false_iff_not, decide_eq_false_iff_not]; omega)|(refine ⟨k + 1, ⟨by omega, hnext ?_⟩, by omega, [0], rfl, rfl, rfl, iV_eq (by omega), rfl, rfl, rfl, rfl, trivial⟩; rw [hro.out, Bool.and_eq_true, Bool.and_eq_true, decide_eq_true_eq, decide_eq_true_eq, decide_eq_true_eq]; omega)
      · have hb0 : e = 1 := hbad (by unfold rowOk; rw [decide_eq_false hrl]; rfl)
        rw [← hr] at hrl
        clear he0 he1 hk
        (repeat' (first
  | (apply W.qd; (first
    | (apply q_mv; (first|exact vD|exact vO|exact vP|exact vA|exact vF|exact vR|exact vN|exact vY|exact vT|exact vM|exact vL|exact vX))|(apply q_as; (first|exact vD|exact vO|exact vP|exact vA|exact vF|exact vR|exact vN|exact vY|exact vT|exact vM|exact vL|exact vX))|(apply q_fld_optF; (iterate 3 exact rfl))|(apply q_ld_box; (iterate 4 exact rfl))|(apply q_lss; exact rfl; exact rfl)|(apply q_neq; exact rfl; exact rfl)|(apply q_len_sl; exact rfl; exact rfl)|(apply q_ld_map; (iterate 3 exact rfl); (first | omega | (focus (simp; done))))|(apply q_ix_slF; (iterate 4 exact rfl); (first | (with_reducible exact rfl) | exact natI_spec rfl | assumption | exact (Int.toNat_of_nonneg (by omega)).symm); (first | omega | (focus (simp only [List.length_map]; omega)) | (focus (simp; done)) | (focus (simp; omega))))
    | (apply (q_pickT (u := .d _)); exact rfl; exact rfl)))|(refine W.gOff _ _ rfl rfl (by intro h; cases h) ?_)|(apply AWP.seq)|(apply ACont_normal)|(apply W.region; kernel_rfl)|(apply W.regionD; exact rfl; kernel_rfl)|(apply Walk.nil)|(apply W.chk; kernel_rfl)|(apply AWP.block)|(apply AWP.skip)|(apply AWP.ret)|(apply ACont_ret)|(apply ABlock_ret)|(apply W.condT; exact rfl)|(refine W.gF _ _ rfl rfl (fun hb => ?_) (fun hb => ?_) <;> ((try simp only [hb, zA, zB]) <;> (try simp only [zC, zD, zE, zF, zG, zH, zI, zJ] at hb) <;> (try (exfalso; omega))))
  | (refine W.cond _ rfl (fun hb => ?_) (fun hb => ?_) <;> ((try simp only [hb, zA, zB]) <;> (try simp only [zC, zD, zE, zF, zG, zH, zI, zJ] at hb) <;> (try (exfalso; omega))))))
        all_goals first | exact Ends.i rfl hb0.symm | (exfalso; omega)
    · have ha : par.all (rowOk M D) = true := by
        rw [List.all_eq_true]
        intro r hr
        obtain ⟨j, hj, rfl⟩ := List.getElem_of_mem hr
        have := hk.2 j (by omega)
        rwa [List.getD_eq_getElem?_getD, List.getElem?_eq_getElem hj] at this
      have he := he1 ha
      clear he0 he1 hk
      (repeat' (first
  | (apply W.gOn; exact rfl; exact rfl)
  | (apply W.qd; (first
    | (apply q_mv; (first|exact vD|exact vO|exact vP|exact vA|exact vF|exact vR|exact vN|exact vY|exact vT|exact vM|exact vL|exact vX))|(apply q_as; (first|exact vD|exact vO|exact vP|exact vA|exact vF|exact vR|exact vN|exact vY|exact vT|exact vM|exact vL|exact vX))|(apply q_fld_optF; (iterate 3 exact rfl))|(apply q_ld_box; (iterate 4 exact rfl))|(apply q_lss; exact rfl; exact rfl)|(apply q_gtr; exact rfl; exact rfl)|(apply (q_pickT (u := .d _)); exact rfl; exact rfl)
    | (apply (q_pickF (u := .d _)); exact rfl; exact rfl)))|(refine W.gOff _ _ rfl rfl (by intro h; cases h) ?_)|(apply AWP.seq)|(apply ACont_normal)|(apply W.region; kernel_rfl)|(apply Walk.nil)|(apply AWP.skip)|(apply AWP.exit)|(apply AWP.ret)|(apply ACont_exit)|(apply ACont_ret)|(apply ABlock_exit)|(apply W.condT; exact rfl)|(refine W.gF _ _ rfl rfl (fun hb => ?_) (fun hb => ?_) <;> ((try simp only [hb, zA, zB]) <;> (try simp only [zC, zD, zE, zF, zG, zH, zI, zJ] at hb) <;> (try (exfalso; omega))))
  | (refine W.cond _ rfl (fun hb => ?_) (fun hb => ?_) <;> ((try simp only [hb, zA, zB]) <;> (try simp only [zC, zD, zE, zF, zG, zH, zI, zJ] at hb) <;> (try (exfalso; omega))))))
      all_goals (refine Ends.i rfl ?_; rw [he]; first | (rw [if_pos (by omega)]; done) | (rw [if_neg (by omega)]; done))
  have hc : chkC nm M D par dom = (par.all (rowOk M D) && (decide (1 ≤ dom) && decide (dom ≤ D + (par.length : Int)))) := by
    unfold chkC
    rw [c1, decide_eq_true c2, decide_eq_true c3, decide_eq_true c4, decide_eq_true c5, decide_eq_true c6, decide_eq_true c7]
    rfl
  refine ⟨if par.all (rowOk M D) = true then (if 1 ≤ dom ∧ dom ≤ D + (par.length : Int) then 0 else 1) else 1, hall _ (fun h => by rw [h]; rfl) (fun h => by rw [if_pos h]), ?_⟩
  rw [hc]
  cases par.all (rowOk M D) with
  | false => simp
  | true =>
    rw [if_pos rfl, Bool.true_and, Bool.and_eq_true, decide_eq_true_eq, decide_eq_true_eq]
    split <;> simp_all
end Go.Proofs.YtaclmbbiegklcaaDoor
end
section
/- Layer 9 over the machine of abstract values: the present units, the subsets of a list. -/
namespace Go.Proofs.YtaclmbbiegklcaaDoor
open Go.RowKit
set_option maxHeartbeats 4000000
set_option maxRecDepth 100000
def upK (hv : List Bool) (k : Nat) : List Nat := (List.range k).filter fun i => hv.getD i false
theorem upK_succ (hv : List Bool) (k : Nat) : upK hv (k + 1) = if hv.getD k false = true then upK hv k ++ [k] else upK hv k := by
  unfold upK
  rw [List.range_succ, List.filter_append]
  cases h : hv.getD k false with
  | true => rw [if_pos rfl]; simp only [List.filter_cons, h, if_true, List.filter_nil]
  | false => rw [if_neg (by decide)]; simp only [List.filter_cons, h, Bool.false_eq_true, if_false, List.filter_nil, List.append_nil]
theorem upK_len (hv : List Bool) (k : Nat) : (upK hv k).length ≤ k := Nat.le_trans (List.length_filter_le _ _) (by simp)
def badF (g : List Nat → Bool) (S : List (List Nat)) : Option (List Nat) := S.find? fun s => !g s
theorem badF_app (g : List Nat → Bool) (A B : List (List Nat)) : badF g (A ++ B) = (badF g A).or (badF g B) := List.find?_append
def subT (l : List Nat) (i k : Nat) (set : List Nat) : List (List Nat) := (subsN (l.drop i) (k - set.length)).map (set ++ ·)
theorem subT_step {l : List Nat} {i k : Nat} {set : List Nat} (hi : i < l.length) (hs : set.length < k) : subT l i k set = subT l (i + 1) k (set ++ [l[i]]) ++ subT l (i + 1) k set := by
  unfold subT
  rw [List.drop_eq_getElem_cons hi, show k - set.length = (k - set.length - 1) + 1 by omega, subsN, List.map_append, List.map_map]
  rw [show k - (set ++ [l[i]]).length = k - set.length - 1 by simp; omega]
  congr 1
  congr 1
  funext s
  simp
theorem subT_full {l : List Nat} {i k : Nat} {set : List Nat} (h : set.length = k) : subT l i k set = [set] := by
  unfold subT
  rw [show k - set.length = 0 by omega]
  have : subsN (l.drop i) 0 = [[]] := by unfold subsN; rfl
  rw [this]; simp
theorem subT_end {l : List Nat} {k : Nat} {set : List Nat} (h : set.length < k) : subT l l.length k set = [] := by
  unfold subT
  rw [show k - set.length = (k - set.length - 1) + 1 by omega, List.drop_length, subsN]; rfl
attribute [local irreducible] Quiet Eff OpOk AWPG ACont ABlock ACalls AGoto
theorem A_present {hv : List Bool} (hl : hv.length ≤ 1000000) : ACalls Tryd.prog 127 [bools hv] [] (nats (upN hv)) [] := by
  refine acalls_of_body Tryd.func127 rfl (Nat.le_of_ble_eq_true rfl) ?_
  have hmh : (hv.map tD).length = hv.length := List.length_map _
  (repeat' (first
  | (apply W.qd; (apply q_as; (first|exact vD|exact vO|exact vP|exact vA|exact vF|exact vR|exact vN|exact vY|exact vT|exact vM|exact vL|exact vX)))|(apply AWP.seq)|(apply ACont_normal)|(apply (W.regionS 1); exact rfl; kernel_rfl)
  | (apply Walk.nil)))
  refine AWP.nilRow 2 1 3 rfl (by omega) ?_
  (repeat' (first
  | (apply W.qd; (first
    | (apply q_mv; (first|exact vD|exact vO|exact vP|exact vA|exact vF|exact vR|exact vN|exact vY|exact vT|exact vM|exact vL|exact vX))
    | (apply q_len_sl; exact rfl; exact rfl)))|(apply ACont_normal)|(apply W.region; kernel_rfl)|(apply Walk.nil)
  | (apply AWP.block)))
  refine AWP.loopW (α := Nat) (fun k => k ≤ hv.length) (fun k => ⟨[(7, iV k), (6, iV hv.length), (5, bools hv), (2, .osl 0 (upK hv k).length 0 (upK hv k).length)], [.row (upK hv k).length 1 3 ((upK hv k).map kD)]⟩) (fun k => hv.length - k) 0 (Nat.zero_le _) ?wk0 fun k hk => ?_
  case wk0 => exact ⟨[0], rfl, rfl, rfl, rfl, iV_eq (by rw [hmh]), rfl, rfl, trivial⟩
  have hln := upK_len hv k
  by_cases hkl : k < hv.length
  · have eg : hv.getD k false = hv[k] := by rw [List.getD_eq_getElem?_getD, List.getElem?_eq_getElem hkl]; rfl
    have hs := Lib.hid (upK_succ hv k)
    rw [eg] at hs
    generalize upK hv k = A at *
    (repeat' (first
  | (apply W.qd; (first
    | (apply q_mv; (first|exact vD|exact vO|exact vP|exact vA|exact vF|exact vR|exact vN|exact vY|exact vT|exact vM|exact vL|exact vX))|(apply q_as; (first|exact vD|exact vO|exact vP|exact vA|exact vF|exact vR|exact vN|exact vY|exact vT|exact vM|exact vL|exact vX))|(apply q_lss; exact rfl; exact rfl)|(apply q_add; exact rfl; exact rfl; omega)|(apply q_ld_map; (iterate 3 exact rfl); (first | omega | (focus (simp; done))))|(apply q_litF; (iterate 5 exact rfl); kernel_rfl; kernel_rfl; exact rfl)
    | (apply q_ix_slF; (iterate 4 exact rfl); (first | (with_reducible exact rfl) | exact natI_spec rfl | assumption | exact (Int.toNat_of_nonneg (by omega)).symm); (first | omega | (focus (simp only [List.length_map]; omega)) | (focus (simp; done)) | (focus (simp; omega))))))|(apply W.ld; (apply l_app1; (iterate 8 exact rfl); (first | omega | (focus (simp; omega)) | (focus (simp; done)))))|(apply AWP.seq)|(apply ACont_normal)|(apply W.region; kernel_rfl)|(apply Walk.nil)|(apply AWP.block)|(apply AWP.skip)|(apply ABlock_normal)
  | (refine W.cond _ rfl (fun hb => ?_) (fun hb => ?_) <;> ((try simp only [hb, zA, zB]) <;> (try simp only [zC, zD, zE, zF, zG, zH, zI, zJ] at hb) <;> (try (exfalso; omega))))))
    · replace hs := Lib.hid (hs.out.trans (if_pos hb))
      refine ⟨k + 1, by omega, by omega, ?_⟩
      rw [hs.out, show (A ++ [k]).length = A.length + 1 by simp]
      exact ⟨[0], rfl, rfl, rfl, iV_eq (by omega), rfl, rfl, congrArg (AV.osl 0 (A.length + 1) 0) (by simp), trivial⟩
    · replace hs := Lib.hid (hs.out.trans (if_neg (by rw [hb]; decide)))
      refine ⟨k + 1, by omega, by omega, ?_⟩
      rw [hs.out]
      exact ⟨[0], rfl, rfl, rfl, iV_eq (by omega), rfl, rfl, rfl, trivial⟩
  · have e : k = hv.length := by omega
    subst e
    rw [show upN hv = upK hv hv.length from rfl]
    generalize upK hv hv.length = A at *
    (repeat' (first
  | (apply W.qd; (first
    | (apply q_mv; (first|exact vD|exact vO|exact vP|exact vA|exact vF|exact vR|exact vN|exact vY|exact vT|exact vM|exact vL|exact vX))|(apply q_as; (first|exact vD|exact vO|exact vP|exact vA|exact vF|exact vR|exact vN|exact vY|exact vT|exact vM|exact vL|exact vX))
    | (apply q_lss; exact rfl; exact rfl)))|(apply AWP.seq)|(apply ACont_normal)|(apply W.region; kernel_rfl)|(apply Walk.nil)|(apply AWP.exit)|(apply AWP.ret)|(apply ACont_exit)|(apply ABlock_exit)
  | (refine W.cond _ rfl (fun hb => ?_) (fun hb => ?_) <;> ((try simp only [hb, zA, zB]) <;> (try simp only [zC, zD, zE, zF, zG, zH, zI, zJ] at hb) <;> (try (exfalso; omega))))))
    exact Ends.osl rfl rfl (by simp) rfl
theorem A_cloneN {l : List Nat} (h0 : 0 < l.length) (hl : l.length ≤ 1000000) : ACalls Tryd.prog 82 [nats l] [] (nats l) [] := by
  refine acalls_of_body Tryd.func82 rfl (Nat.le_of_ble_eq_true rfl) ?_
  have hm : (l.map kD).length = l.length := List.length_map _
  (repeat' (first
  | (apply W.ed; (apply e_lit0F; (iterate 5 exact rfl)))
  | (apply W.qd; (first
    | (apply q_mv; (first|exact vD|exact vO|exact vP|exact vA|exact vF|exact vR|exact vN|exact vY|exact vT|exact vM|exact vL|exact vX))|(apply q_as; (first|exact vD|exact vO|exact vP|exact vA|exact vF|exact vR|exact vN|exact vY|exact vT|exact vM|exact vL|exact vX))
    | (apply q_eqnilm; (iterate 3 exact rfl); (first | assumption | omega))))|(apply W.ed; (apply e_appF; (iterate 8 exact rfl); (first | rfl | simp); (first | exact Nat.zero_lt_one | (focus (simp; done)) | omega); (first | (focus (simp; done)) | (focus (simp; omega)) | omega)))|(apply AWP.seq)|(apply ACont_normal)|(apply W.region; kernel_rfl)|(apply Walk.nil)|(apply AWP.skip)|(apply AWP.ret)
  | (apply W.condF; exact rfl)))
  exact Ends.osl rfl rfl (by simp) rfl
abbrev subO (E0 E1 E2 E3 E4 : Ent) (l : List Nat) (k : Nat) (L : Ent) : List Ent := [E0, E1, E2, E3, E4, .box [nats l], .box [iV k], L, .box [.yl 7], .box [.fn 157 [.opt 6 0, .opt 8 0, .opt 5 0, .opt 9 0]]]
def outB (o : Option (List Nat)) : Bool := o.isNone
section
variable {l : List Nat} {k : Nat} {g : List Nat → Bool} {E0 E1 E2 E3 E4 L : Ent} {F2 F7 : Ent} {F3 : List Nat → Ent}
abbrev subE (o : Option (List Nat)) (F : List Nat → Ent) (E : Ent) : Ent := match o with | none => E | some s => F s
abbrev subX (E0 E1 E2 E3 E4 : Ent) (l : List Nat) (k : Nat) (L : Ent) (F2 F7 : Ent) (F3 : List Nat → Ent) (o : Option (List Nat)) : List Ent := subO E0 E1 (subE o (fun _ => F2) E2) (subE o F3 E3) E4 l k (subE o (fun _ => F7) L)
theorem A_fromStep {i : Nat} {set : List Nat} (hl : l.length ≤ 1000) (hk1 : 1 ≤ k) (hk : k ≤ 1000)
    (hY : ∀ s : List Nat, s.Sublist l → s.length = k → YAt Tryd.prog 7 (subO E0 E1 E2 E3 E4 l k L) [nats s] (g s) (if g s = true then subO E0 E1 E2 E3 E4 l k L else subO E0 E1 F2 (F3 s) E4 l k F7))
    (hi : i ≤ l.length) (hs : set.length ≤ k) (hsub : set.Sublist (l.take i))
    (ih : ∀ (j : Nat) (set' : List Nat), i < j → j ≤ l.length → set'.length ≤ k → set'.Sublist (l.take j) →
      ACalls Tryd.prog 157 [iV j, nats set', .opt 6 0, .opt 8 0, .opt 5 0, .opt 9 0] (subO E0 E1 E2 E3 E4 l k L) (bV (outB (badF g (subT l j k set')))) (subX E0 E1 E2 E3 E4 l k L F2 F7 F3 (badF g (subT l j k set')))) :
    ACalls Tryd.prog 157 [iV i, nats set, .opt 6 0, .opt 8 0, .opt 5 0, .opt 9 0] (subO E0 E1 E2 E3 E4 l k L) (bV (outB (badF g (subT l i k set)))) (subX E0 E1 E2 E3 E4 l k L F2 F7 F3 (badF g (subT l i k set))) := by
  have hms : (set.map kD).length = set.length := List.length_map _
  have hml : (l.map kD).length = l.length := List.length_map _
  by_cases hfull : set.length = k
  · have hy := hY set (hsub.trans (List.take_sublist _ _)) hfull
    have hcl := A_cloneN (l := set) (by omega) (by omega)
    rw [subT_full hfull]
    have hb0 : badF g [set] = if g set = true then none else some set := by
      unfold badF
      cases hg : g set <;> simp [hg]
    rw [hb0]
    cases hg : g set with
    | true =>
      rw [hg, if_pos rfl] at hy
      rw [if_pos rfl]
      refine acalls_of_bodyS Tryd.func157 rfl (Nat.le_of_ble_eq_true rfl) ?_
      (repeat' (first
  | (apply W.qd; (first
    | (apply (q_callC (hcl)); exact rfl; exact rfl; kernel_rfl; kernel_rfl; kernel_rfl)|(apply q_mv; (first|exact vD|exact vO|exact vP|exact vA|exact vF|exact vR|exact vN|exact vY|exact vT|exact vM|exact vL|exact vX))|(apply q_as; (first|exact vD|exact vO|exact vP|exact vA|exact vF|exact vR|exact vN|exact vY|exact vT|exact vM|exact vL|exact vX))|(apply q_ld_box; (iterate 4 exact rfl))|(apply q_eql; exact rfl; exact rfl)
    | (apply q_len_sl; exact rfl; exact rfl)))|(apply W.ed; ((exact e_yield hy rfl rfl)))|(apply AWP.seq)|(apply ACont_normal)|(apply W.region; kernel_rfl)|(apply W.regionD; exact rfl; kernel_rfl)|(apply Walk.nil)|(apply W.chk; kernel_rfl)|(apply AWP.ret)|(apply ACont_ret)
  | (refine W.cond _ rfl (fun hb => ?_) (fun hb => ?_) <;> ((try simp only [hb, zA, zB]) <;> (try simp only [zC, zD, zE, zF, zG, zH, zI, zJ] at hb) <;> (try (exfalso; omega))))))
      exact EndsS.b rfl rfl
    | false =>
      rw [hg, if_neg (by decide)] at hy
      rw [if_neg (by decide)]
      refine acalls_of_bodyS Tryd.func157 rfl (Nat.le_of_ble_eq_true rfl) ?_
      (repeat' (first
  | (apply W.qd; (first
    | (apply (q_callC (hcl)); exact rfl; exact rfl; kernel_rfl; kernel_rfl; kernel_rfl)|(apply q_mv; (first|exact vD|exact vO|exact vP|exact vA|exact vF|exact vR|exact vN|exact vY|exact vT|exact vM|exact vL|exact vX))|(apply q_as; (first|exact vD|exact vO|exact vP|exact vA|exact vF|exact vR|exact vN|exact vY|exact vT|exact vM|exact vL|exact vX))|(apply q_ld_box; (iterate 4 exact rfl))|(apply q_eql; exact rfl; exact rfl)
    | (apply q_len_sl; exact rfl; exact rfl)))|(apply W.ed; ((exact e_yield hy rfl rfl)))|(apply AWP.seq)|(apply ACont_normal)|(apply W.region; kernel_rfl)|(apply W.regionD; exact rfl; kernel_rfl)|(apply Walk.nil)|(apply W.chk; kernel_rfl)|(apply AWP.ret)|(apply ACont_ret)
  | (refine W.cond _ rfl (fun hb => ?_) (fun hb => ?_) <;> ((try simp only [hb, zA, zB]) <;> (try simp only [zC, zD, zE, zF, zG, zH, zI, zJ] at hb) <;> (try (exfalso; omega))))))
      exact EndsS.b rfl rfl
  · generalize hR : badF g (subT l i k set) = R
    refine acalls_of_bodyS Tryd.func157 rfl (Nat.le_of_ble_eq_true rfl) ?_
    (repeat' (first
  | (apply W.qd; (first
    | (apply q_mv; (first|exact vD|exact vO|exact vP|exact vA|exact vF|exact vR|exact vN|exact vY|exact vT|exact vM|exact vL|exact vX))|(apply q_as; (first|exact vD|exact vO|exact vP|exact vA|exact vF|exact vR|exact vN|exact vY|exact vT|exact vM|exact vL|exact vX))|(apply q_ld_box; (iterate 4 exact rfl))|(apply q_eql; exact rfl; exact rfl)
    | (apply q_len_sl; exact rfl; exact rfl)))|(apply AWP.seq)|(apply ACont_normal)|(apply W.region; kernel_rfl)|(apply Walk.nil)|(apply AWP.block)|(apply AWP.skip)
  | (refine W.cond _ rfl (fun hb => ?_) (fun hb => ?_) <;> ((try simp only [hb, zA, zB]) <;> (try simp only [zC, zD, zE, zF, zG, zH, zI, zJ] at hb) <;> (try (exfalso; omega))))))
    refine AWP.loopE (α := Nat) (fun j => i ≤ j ∧ j ≤ l.length ∧ badF g (subT l j k set) = R) (fun j => ⟨[(0, iV j), (1, nats set), (2, .opt 6 0), (3, .opt 8 0), (4, .opt 5 0), (5, .opt 9 0)], subO E0 E1 E2 E3 E4 l k L⟩) (fun j => l.length - j) i ⟨Nat.le_refl _, hi, hR⟩ ⟨rfl, by (repeat (first | exact trivial | refine ⟨rfl, ?_⟩))⟩ fun j hj => ?_
    obtain ⟨hj1, hj2, hj3⟩ := hj
    by_cases hjl : j < l.length
    · have hst := subT_step (k := k) (set := set) hjl (by omega)
      have hih := ih (j + 1) (set ++ [l[j]]) (by omega) (by omega) (by simp; omega) (by
        rw [List.take_succ_eq_append_getElem hjl]
        refine List.Sublist.append (hsub.trans ?_) (List.Sublist.refl _)
        have : l.take i = (l.take j).take i := by rw [List.take_take, Nat.min_eq_left hj1]
        rw [this]; exact List.take_sublist _ _)
      rw [hst, badF_app] at hj3
      rw [show nats (set ++ [l[j]]) = .d (.sl 1 (set.map kD ++ [kD l[j]])) by show AV.d (.sl 1 ((set ++ [l[j]]).map kD)) = _; rw [List.map_append]; rfl] at hih
      have ej : iV ((j + 1 : Nat) : Int) = iV ((j : Int) + 1) := iV_eq (by omega)
      rw [ej] at hih
      cases hB : badF g (subT l (j + 1) k (set ++ [l[j]])) with
      | none =>
        rw [hB] at hih hj3
        clear ih hY
        (repeat' (first
  | (apply W.qd; (first
    | (apply q_mv; (first|exact vD|exact vO|exact vP|exact vA|exact vF|exact vR|exact vN|exact vY|exact vT|exact vM|exact vL|exact vX))|(apply q_as; (first|exact vD|exact vO|exact vP|exact vA|exact vF|exact vR|exact vN|exact vY|exact vT|exact vM|exact vL|exact vX))|(apply q_ld_box; (iterate 4 exact rfl))|(apply q_lss; exact rfl; exact rfl)|(apply q_not; exact rfl)|(apply q_add; exact rfl; exact rfl; omega)|(apply q_len_sl; exact rfl; exact rfl)|(apply q_ld_map; (iterate 3 exact rfl); (first | omega | (focus (simp; done))))|(apply q_litF; (iterate 5 exact rfl); kernel_rfl; kernel_rfl; exact rfl)|(apply q_ix_slF; (iterate 4 exact rfl); (first | (with_reducible exact rfl) | exact natI_spec rfl | assumption | exact (Int.toNat_of_nonneg (by omega)).symm); (first | omega | (focus (simp only [List.length_map]; omega)) | (focus (simp; done)) | (focus (simp; omega))))|(apply q_slc3; (iterate 3 exact rfl); (first | exact ⟨_, _, rfl, rfl⟩ | exact ⟨_, _, rfl, natI_spec rfl⟩ | exact ⟨_, _, rfl, (Int.toNat_of_nonneg (by omega)).symm⟩ | exact rfl); (first | exact ⟨_, _, rfl, rfl⟩ | exact ⟨_, _, rfl, natI_spec rfl⟩ | exact ⟨_, _, rfl, (Int.toNat_of_nonneg (by omega)).symm⟩ | exact rfl); exact rfl; exact rfl)
    | (apply q_appcl; (iterate 6 exact rfl); (first | exact Nat.zero_lt_one | (focus (simp; done)) | omega); (first | (focus (simp; done)) | (focus (simp; omega)) | omega))))|(apply W.ed; ((exact e_callA hih rfl rfl rfl)))|(apply AWP.seq)|(apply ACont_normal)|(apply W.region; kernel_rfl)|(apply W.regionD; exact rfl; kernel_rfl)|(apply Walk.nil)|(apply W.chk; kernel_rfl)|(apply AWP.block)|(apply AWP.skip)|(apply ABlock_normal)|(apply W.condF; exact rfl)
  | (refine W.cond _ rfl (fun hb => ?_) (fun hb => ?_) <;> ((try simp only [hb, zA, zB]) <;> (try simp only [zC, zD, zE, zF, zG, zH, zI, zJ] at hb) <;> (try (exfalso; omega))))))
        exact ⟨j + 1, ⟨by omega, by omega, hj3⟩, by omega, rfl, iV_eq (by omega), rfl, rfl, rfl, rfl, rfl, trivial⟩
      | some s =>
        rw [hB] at hih hj3
        obtain rfl : some s = R := hj3
        clear ih hY
        (repeat' (first
  | (apply W.qd; (first
    | (apply q_mv; (first|exact vD|exact vO|exact vP|exact vA|exact vF|exact vR|exact vN|exact vY|exact vT|exact vM|exact vL|exact vX))|(apply q_as; (first|exact vD|exact vO|exact vP|exact vA|exact vF|exact vR|exact vN|exact vY|exact vT|exact vM|exact vL|exact vX))|(apply q_ld_box; (iterate 4 exact rfl))|(apply q_lss; exact rfl; exact rfl)|(apply q_not; exact rfl)|(apply q_add; exact rfl; exact rfl; omega)|(apply q_len_sl; exact rfl; exact rfl)|(apply q_ld_map; (iterate 3 exact rfl); (first | omega | (focus (simp; done))))|(apply q_litF; (iterate 5 exact rfl); kernel_rfl; kernel_rfl; exact rfl)|(apply q_ix_slF; (iterate 4 exact rfl); (first | (with_reducible exact rfl) | exact natI_spec rfl | assumption | exact (Int.toNat_of_nonneg (by omega)).symm); (first | omega | (focus (simp only [List.length_map]; omega)) | (focus (simp; done)) | (focus (simp; omega))))|(apply q_slc3; (iterate 3 exact rfl); (first | exact ⟨_, _, rfl, rfl⟩ | exact ⟨_, _, rfl, natI_spec rfl⟩ | exact ⟨_, _, rfl, (Int.toNat_of_nonneg (by omega)).symm⟩ | exact rfl); (first | exact ⟨_, _, rfl, rfl⟩ | exact ⟨_, _, rfl, natI_spec rfl⟩ | exact ⟨_, _, rfl, (Int.toNat_of_nonneg (by omega)).symm⟩ | exact rfl); exact rfl; exact rfl)
    | (apply q_appcl; (iterate 6 exact rfl); (first | exact Nat.zero_lt_one | (focus (simp; done)) | omega); (first | (focus (simp; done)) | (focus (simp; omega)) | omega))))|(apply W.ed; ((exact e_callA hih rfl rfl rfl)))|(apply AWP.seq)|(apply ACont_normal)|(apply W.region; kernel_rfl)|(apply W.regionD; exact rfl; kernel_rfl)|(apply Walk.nil)|(apply W.chk; kernel_rfl)|(apply AWP.block)|(apply AWP.skip)|(apply AWP.ret)|(apply ACont_ret)|(apply ABlock_ret)|(apply W.condT; exact rfl)
  | (refine W.cond _ rfl (fun hb => ?_) (fun hb => ?_) <;> ((try simp only [hb, zA, zB]) <;> (try simp only [zC, zD, zE, zF, zG, zH, zI, zJ] at hb) <;> (try (exfalso; omega))))))
        exact EndsS.b rfl rfl
    · have ejl : j = l.length := by omega
      subst ejl
      rw [subT_end (by omega)] at hj3
      obtain rfl : none = R := hj3
      clear ih hY
      (repeat' (first
  | (apply W.qd; (first
    | (apply q_mv; (first|exact vD|exact vO|exact vP|exact vA|exact vF|exact vR|exact vN|exact vY|exact vT|exact vM|exact vL|exact vX))|(apply q_as; (first|exact vD|exact vO|exact vP|exact vA|exact vF|exact vR|exact vN|exact vY|exact vT|exact vM|exact vL|exact vX))|(apply q_ld_box; (iterate 4 exact rfl))|(apply q_lss; exact rfl; exact rfl)
    | (apply q_len_sl; exact rfl; exact rfl)))|(apply AWP.seq)|(apply ACont_normal)|(apply W.region; kernel_rfl)|(apply Walk.nil)|(apply AWP.exit)|(apply AWP.ret)|(apply ACont_exit)|(apply ABlock_exit)
  | (refine W.cond _ rfl (fun hb => ?_) (fun hb => ?_) <;> ((try simp only [hb, zA, zB]) <;> (try simp only [zC, zD, zE, zF, zG, zH, zI, zJ] at hb) <;> (try (exfalso; omega))))))
      exact EndsS.b rfl rfl
theorem A_from (hl : l.length ≤ 1000) (hk1 : 1 ≤ k) (hk : k ≤ 1000)
    (hY : ∀ s : List Nat, s.Sublist l → s.length = k → YAt Tryd.prog 7 (subO E0 E1 E2 E3 E4 l k L) [nats s] (g s) (if g s = true then subO E0 E1 E2 E3 E4 l k L else subO E0 E1 F2 (F3 s) E4 l k F7)) :
    ∀ (n i : Nat) (set : List Nat), l.length - i ≤ n → i ≤ l.length → set.length ≤ k → set.Sublist (l.take i) →
    ACalls Tryd.prog 157 [iV i, nats set, .opt 6 0, .opt 8 0, .opt 5 0, .opt 9 0] (subO E0 E1 E2 E3 E4 l k L) (bV (outB (badF g (subT l i k set)))) (subX E0 E1 E2 E3 E4 l k L F2 F7 F3 (badF g (subT l i k set)))
  | 0, i, set, hn, hi, hs, hsub => A_fromStep hl hk1 hk hY hi hs hsub fun j set' h1 h2 => by omega
  | n + 1, i, set, hn, hi, hs, hsub => A_fromStep hl hk1 hk hY hi hs hsub fun j set' h1 h2 h3 h4 => A_from hl hk1 hk hY n j set' (by omega) h2 h3 h4
theorem A_subIter {R : Option (List Nat)} (hl : l.length ≤ 1000) (hk1 : 1 ≤ k) (hk : k ≤ 1000) (hB : badF g (subsN l k) = R)
    (hY : ∀ s : List Nat, s.Sublist l → s.length = k → YAt Tryd.prog 7 (subO E0 E1 E2 E3 E4 l k L) [nats s] (g s) (if g s = true then subO E0 E1 E2 E3 E4 l k L else subO E0 E1 F2 (F3 s) E4 l k F7)) :
    ACalls Tryd.prog 156 [.yl 7, .opt 6 0, .opt 5 0] [E0, E1, E2, E3, E4, .box [nats l], .box [iV k], L] (.tup []) (subX E0 E1 E2 E3 E4 l k L F2 F7 F3 R) := by
  have h0 := A_from hl hk1 hk hY l.length 0 [] (by omega) (by omega) (by simp) (List.nil_sublist _)
  have e : subT l 0 k [] = subsN l k := by unfold subT; simp
  rw [e, hB] at h0
  have h0 := h0.le (args' := [iV 0, .d (.v (.slice none 0 0)), .opt 6 0, .opt 8 0, .opt 5 0, .opt 9 0]) fun F κ w vs hs => by
    refine AVleL.sat (xs := [iV 0, .d (.v (.slice none 0 0)), .opt 6 0, .opt 8 0, .opt 5 0, .opt 9 0]) ?_ F _ κ w vs hs
    exact ⟨AVle.refl _, AVle.nil 1, AVle.refl _, AVle.refl _, AVle.refl _, AVle.refl _, trivial⟩
  refine acalls_of_bodyS Tryd.func156 rfl (Nat.le_of_ble_eq_true rfl) ?_
  (repeat' (first
  | (apply W.qd; (first
    | (apply q_ld_box; (iterate 4 exact rfl))
    | (apply q_makeFunc)))
  | (apply W.ed; (first
    | ((exact e_callA h0 rfl rfl rfl))|(apply e_boxF; (iterate 3 exact rfl); kernel_rfl; kernel_rfl)
    | (apply e_allocF; (iterate 3 exact rfl); kernel_rfl)))|(apply W.ln; (apply l_st_box; (iterate 6 exact rfl); kernel_rfl; kernel_rfl; kernel_rfl))|(apply AWP.seq)|(apply ACont_normal)|(apply W.region; kernel_rfl)
  | (apply Walk.nil)))
  exact ⟨.inr rfl, [], trivial, AVle.of_eq rfl, rfl⟩
end
end Go.Proofs.YtaclmbbiegklcaaDoor
end
section
/- Layer 9 over the machine of abstract values: distance.search, Left. -/
namespace Go.Proofs.YtaclmbbiegklcaaDoor
open Go.RowKit
set_option maxHeartbeats 4000000
set_option maxRecDepth 100000
theorem AWP.toX {Γ : Ctx} {P : Program} {n m : Nat} {c : Code} {s : St} {own' : List Ent} {e0 : Exit} (h : AWPG Γ P n m c (fun e s => e = e0 ∧ Wk m s ⟨[], own'⟩) s) : AWPG Γ P n m c (fun e s => e = e0 ∧ s.own = own') s := fun F W κ0 a κ w hH hm hs =>
  wpIn_mono (h F W κ0 a κ w hH hm hs) fun e a' w' ⟨s', κ', ⟨he, hw⟩, hs'⟩ => by
    obtain ⟨κ2, h2⟩ := hs'.wk hm hw
    exact ⟨_, κ2, ⟨he, rfl⟩, h2⟩
theorem AVle.anyV {v : Value} (h : v.oneCell' = true) : AVle (.d (.v v)) (.d .any) := fun F own κ w u hs => by
  rw [sat_v] at hs
  subst hs
  rw [AV.sat, Dat.sat]; exact h
theorem AVle.anyS (sz : Nat) (l : List (List Dat)) : AVle (.d (.sl sz l)) (.d .any) := fun F own κ w u hs => by
  rw [AV.sat, Dat.sat] at hs
  obtain ⟨A, c, rfl, _⟩ := hs
  rw [AV.sat, Dat.sat]; rfl
theorem minusN_snoc (hv : List Bool) (L : List Nat) (u : Nat) : minusN hv (L ++ [u]) = (minusN hv L).set u false := by
  unfold minusN
  rw [List.foldl_append]; rfl
theorem badN_iff {dec : List Bool → Bool} {hv : List Bool} {f : Nat} : badN dec hv f = (badF (fun s => dec (minusN hv s)) (subsN (upN hv) (f + 1))).isSome := by
  unfold badN badF
  rw [Bool.eq_iff_iff, List.any_eq_true, List.find?_isSome]
theorem gen_entE {motive : Ent → Prop} (E : Ent) (h : ∀ L, L = E → motive L) : motive E := h E rfl
attribute [local irreducible] Quiet Eff OpOk AWPG ACont ABlock ACalls AGoto
theorem A_subsets0 {l : List Nat} {f : Nat} : ACalls Tryd.prog 128 [nats l, iV ((f : Int) + 1)] [] (.fn 156 [.opt 1 0, .opt 0 0]) [.box [nats l], .box [iV ((f + 1 : Nat) : Int)]] := by
  rw [show iV ((f : Int) + 1) = iV ((f + 1 : Nat) : Int) from iV_eq (by omega)]
  refine acalls_of_bodyO Tryd.func128 rfl (Nat.le_of_ble_eq_true rfl) ?_
  (repeat' (first
  | (apply W.qd; (first
    | (apply q_as; (first|exact vD|exact vO|exact vP|exact vA|exact vF|exact vR|exact vN|exact vY|exact vT|exact vM|exact vL|exact vX))
    | (apply q_makeFunc)))|(apply W.ed; (apply e_boxF; (iterate 3 exact rfl); kernel_rfl; kernel_rfl))|(apply AWP.seq)|(apply ACont_normal)|(apply W.region; kernel_rfl)|(apply Walk.nil)
  | (apply AWP.ret)))
  exact ⟨.inl rfl, [0, 1], [.fn 156 [.opt 1 0, .opt 0 0]], rfl, rfl, ⟨rfl, trivial⟩, AVle.of_eq rfl, rfl⟩
abbrev srcB0 (M D : Nat) (ps : List (List Nat)) : Ent := .box [.d .any, iV M, iV D, rowsN ps, .d .any]
abbrev srcEnv (hv : List Bool) (f : Nat) : List (Nat × AV) := [(24, .fn 156 [.opt 6 0, .opt 5 0]), (2, .opt 0 0), (3, .opt 1 0), (4, .opt 2 0), (5, .opt 3 0), (6, nats (upN hv)), (7, .opt 4 0), (18, iV f)]
theorem A_search {M D : Nat} {ps : List (List Nat)} {hv : List Bool} (h : CodeOk M D ps) (hl : hv.length = D + ps.length) : ACalls Tryd.prog 92 [cdN M D ps, bools hv] [] (.tup [iV (leftN (decN M D ps) hv), .d .any]) [] := by
  have h1 := h.d
  have h2 := h.w
  have hdec := A_decodable h hl
  have hpre := A_present (hv := hv) (by omega)
  have hd0 : decN M D ps hv = decide ((basisN M D ps hv).length = D) := by unfold decN; rw [decide_eq_true hl, Bool.true_and]
  rw [← hd0] at hdec
  have hcl := A_cloneB (l := hv) (by omega) (by omega)
  have hdecs : ∀ s : List Nat, ACalls Tryd.prog 21 [cdN M D ps, bools (minusN hv s)] [] (bV (decN M D ps (minusN hv s))) [] := fun s => by
    have hls : (minusN hv s).length = D + ps.length := by rw [minusN_length]; exact hl
    have := A_decodable h hls
    have hd1 : decN M D ps (minusN hv s) = decide ((basisN M D ps (minusN hv s)).length = D) := by unfold decN; rw [decide_eq_true hls, Bool.true_and]
    rwa [← hd1] at this
  have hup : ∀ u ∈ upN hv, u < hv.length := fun u hu => by
    have := (List.mem_filter.1 hu).1
    exact List.mem_range.1 this
  have hupl : (upN hv).length ≤ 1000 := by have := upK_len hv hv.length; have e : (upN hv).length = (upK hv hv.length).length := rfl; omega
  unfold leftN
  generalize decN M D ps = dec at *
  refine acalls_of_body Tryd.func92 rfl (Nat.le_of_ble_eq_true rfl) ?_
  cases hd : dec hv with
  | false =>
    rw [if_neg (by decide)]
    rw [hd] at hdec
    (repeat' (first
  | (apply W.qd; (first
    | (apply (q_callC (hdec)); exact rfl; exact rfl; kernel_rfl; kernel_rfl; kernel_rfl)|(apply q_ld_box; (iterate 4 exact rfl))|(apply q_ld_boxF; (iterate 4 exact rfl))
    | (apply q_not; exact rfl)))
  | (apply W.ed; (first
    | (apply e_boxF; (iterate 3 exact rfl); kernel_rfl; kernel_rfl)
    | (apply e_allocF; (iterate 3 exact rfl); kernel_rfl)))|(apply W.ln; (apply l_st_box; (iterate 6 exact rfl); kernel_rfl; kernel_rfl; kernel_rfl))|(apply AWP.seq)|(apply ACont_normal)|(apply W.region; kernel_rfl)|(apply Walk.nil)|(apply AWP.ret)|(apply ACont_ret)
  | (apply W.condT; exact rfl)))
    exact ⟨.inl rfl, [], [iV (-1), .d (.v (.slice none 0 0))], rfl, ⟨⟨2, [iV (-1)], false, rfl, rfl, rfl, rfl⟩, ⟨3, [.d (.v (.slice none 0 0))], false, rfl, rfl, rfl, rfl⟩, trivial⟩, AVle.tup2 (AVle.refl _) (AVle.anyV rfl), rfl⟩
  | true =>
    rw [if_pos rfl]
    rw [hd] at hdec
    generalize hR : ((List.range 4).find? (badN dec hv)).getD 4 = R
    (repeat' (first
  | (apply W.qd; (first
    | (apply (q_callC (hdec)); exact rfl; exact rfl; kernel_rfl; kernel_rfl; kernel_rfl)|(apply (q_callC (hpre)); exact rfl; exact rfl; kernel_rfl; kernel_rfl; kernel_rfl)|(apply q_mv; (first|exact vD|exact vO|exact vP|exact vA|exact vF|exact vR|exact vN|exact vY|exact vT|exact vM|exact vL|exact vX))|(apply q_as; (first|exact vD|exact vO|exact vP|exact vA|exact vF|exact vR|exact vN|exact vY|exact vT|exact vM|exact vL|exact vX))|(apply q_ld_box; (iterate 4 exact rfl))|(apply q_ld_boxF; (iterate 4 exact rfl))
    | (apply q_not; exact rfl)))
  | (apply W.ed; (first
    | (apply e_boxF; (iterate 3 exact rfl); kernel_rfl; kernel_rfl)
    | (apply e_allocF; (iterate 3 exact rfl); kernel_rfl)))|(apply AWP.seq)|(apply ACont_normal)|(apply W.region; kernel_rfl)|(apply Walk.nil)|(apply AWP.block)|(apply AWP.skip)
  | (apply W.condF; exact rfl)))
    refine AWP.loopW (α := Nat) (fun f => f ≤ 4 ∧ ∀ g, g < f → badN dec hv g = false) (fun f => ⟨[(18, iV f), (6, nats (upN hv)), (2, .opt 0 0), (3, .opt 1 0), (4, .opt 2 0), (5, .opt 3 0)], [.box [.d .any, iV M, iV D, rowsN ps, .d .any], .box [bools hv], .box [iV 0], .box [.d (.v (.slice none 0 0))]]⟩) (fun f => 4 - f) 0 ⟨by omega, fun g hg => by omega⟩ ⟨[0, 1, 2, 3], rfl, rfl, rfl, by (repeat (first | exact trivial | refine ⟨rfl, ?_⟩))⟩ fun f hf => ?_
    by_cases hf4 : f < 4
    · have hs0 := A_subsets0 (l := upN hv) (f := f)
      (repeat' (first
  | (apply W.qd; (first
    | (apply q_mv; (first|exact vD|exact vO|exact vP|exact vA|exact vF|exact vR|exact vN|exact vY|exact vT|exact vM|exact vL|exact vX))|(apply q_ld_box; (iterate 4 exact rfl))|(apply q_lss; exact rfl; exact rfl)
    | (apply q_add; exact rfl; exact rfl; omega)))
  | (apply W.ed; (first
    | (apply (e_callJ (js := []) (hs0)); (iterate 5 exact rfl); kernel_rfl; kernel_rfl)
    | (apply e_allocF; (iterate 3 exact rfl); kernel_rfl)))|(apply W.ln; (apply l_st_box; (iterate 6 exact rfl); kernel_rfl; kernel_rfl; kernel_rfl))|(apply AWP.seq)|(apply ACont_normal)|(apply W.region; kernel_rfl)|(apply Walk.nil)|(apply AWP.block)|(apply AWP.skip)
  | (refine W.cond _ rfl (fun hb => ?_) (fun hb => ?_) <;> ((try simp only [hb, zA, zB]) <;> (try simp only [zC, zD, zE, zF, zG, zH, zI, zJ] at hb) <;> (try (exfalso; omega))))))
      refine AWP.wk ⟨srcEnv hv f, [.box [.d .any, iV M, iV D, rowsN ps, .d .any], .box [bools hv], .box [iV 0], .box [.d (.v (.slice none 0 0))], .box [iV f], .box [nats (upN hv)], .box [iV ((f + 1 : Nat) : Int)]]⟩ ⟨[0, 1, 2, 3, 4, 5, 6], rfl, rfl, rfl, by (repeat (first | exact trivial | refine ⟨rfl, ?_⟩))⟩ ?_
      have hbI := badN_iff (dec := dec) (hv := hv) (f := f)
      cases hB : badF (fun s => dec (minusN hv s)) (subsN (upN hv) (f + 1)) with
      | none =>
        rw [hB] at hbI
        refine AWP.range (s2 := ⟨[(18, iV f), (6, nats (upN hv)), (2, .opt 0 0), (3, .opt 1 0), (4, .opt 2 0), (5, .opt 3 0)], [srcB0 M D ps, .box [bools hv], .box [iV 0], .box [.d (.v (.slice none 0 0))]]⟩) rfl (by kernel_rfl) (A_subIter (F2 := .box []) (F7 := .box []) (F3 := fun _ => .box []) hupl (by omega) (by omega) hB fun s hs1 hs2 => ?_) rfl (by decide) ⟨[0, 1, 2, 3], rfl, rfl, rfl, by (repeat (first | exact trivial | refine ⟨rfl, ?_⟩))⟩ ?_
        · have hg : dec (minusN hv s) = true := by
            unfold badF at hB
            rw [List.find?_eq_none] at hB
            have := hB s (mem_subsN.2 ⟨hs1, hs2⟩)
            simpa using this
          rw [hg, if_pos rfl]
          refine YAt.ok (own1 := subO (srcB0 M D ps) (.box [bools hv]) (.box [iV 0]) (.box [.d (.v (.slice none 0 0))]) (.box [iV f]) (upN hv) (f + 1) (.lp .busy none #[25] _ _ _)) (s2 := ⟨(8, nats s) :: srcEnv hv f, _⟩) rfl rfl rfl rfl (fun g => ?_) rfl (fun g => ?_) rfl rfl
          · refine AWP.toW ?_
            (repeat' (first
  | (apply W.qd; (apply q_as; (first|exact vD|exact vO|exact vP|exact vA|exact vF|exact vR|exact vN|exact vY|exact vT|exact vM|exact vL|exact vX)))|(apply W.region; kernel_rfl)
  | (apply Walk.nil)))
            exact ⟨rfl, ⟨[0, 1, 2, 3, 4, 5, 6, 7, 8, 9], rfl, rfl, rfl, by (repeat (first | exact trivial | refine ⟨rfl, ?_⟩))⟩⟩
          · refine AWP.toO ?_
            refine gen_entE (motive := fun L => AWPG (Ctx.round g) Tryd.prog Tryd.f92.ntmps 10 _ (fun e s9 => e = .normal ∧ Wk 10 s9 ⟨[], subO (srcB0 M D ps) (.box [bools hv]) (.box [iV 0]) (.box [.d (.v (.slice none 0 0))]) (.box [iV f]) (upN hv) (f + 1) L⟩) ⟨(8, nats s) :: srcEnv hv f, subO (srcB0 M D ps) (.box [bools hv]) (.box [iV 0]) (.box [.d (.v (.slice none 0 0))]) (.box [iV f]) (upN hv) (f + 1) L⟩) _ fun L hL => ?_
            obtain ⟨cA, cB, hL⟩ : ∃ cA cB, L = .lp .busy none #[25] cA cB (tmpsOf (srcEnv hv f) Tryd.f92.ntmps) := ⟨_, _, hL⟩
            subst hL
            have hms : (s.map kD).length = s.length := List.length_map _
            (repeat' (first
  | (apply W.qd; (first
    | (apply q_mv; (first|exact vD|exact vO|exact vP|exact vA|exact vF|exact vR|exact vN|exact vY|exact vT|exact vM|exact vL|exact vX))|(apply q_as; (first|exact vD|exact vO|exact vP|exact vA|exact vF|exact vR|exact vN|exact vY|exact vT|exact vM|exact vL|exact vX))|(apply q_ld_box; (iterate 4 exact rfl))
    | (apply q_len_sl; exact rfl; exact rfl)))|(apply W.ed; (apply (e_callJ (js := []) (hcl)); (iterate 5 exact rfl); kernel_rfl; kernel_rfl))|(apply AWP.seq)|(apply ACont_normal)|(apply W.region; kernel_rfl)|(apply Walk.nil)
  | (apply AWP.block)))
            refine AWP.loopW (α := Nat) (fun j => j ≤ s.length) (fun j => ⟨[(30, iV j), (29, iV s.length), (28, nats s), (9, .osl 10 1 0 hv.length), (8, nats s), (2, .opt 0 0), (4, .opt 2 0), (5, .opt 3 0), (7, .opt 4 0)], subO (srcB0 M D ps) (.box [bools hv]) (.box [iV 0]) (.box [.d (.v (.slice none 0 0))]) (.box [iV f]) (upN hv) (f + 1) (.lp .busy none #[25] cA cB (tmpsOf (srcEnv hv f) Tryd.f92.ntmps)) ++ [.row 1 1 4 ((minusN hv (s.take j)).map tD)]⟩) (fun j => s.length - j) 0 (Nat.zero_le _) ?wkr1 fun j hj => ?_
            case wkr1 => exact ⟨[0, 1, 2, 3, 4, 5, 6, 7, 8, 9, 10], rfl, rfl, rfl, rfl, iV_eq (by rw [hms]), rfl, rfl, rfl, rfl, rfl, rfl, rfl, trivial⟩
            by_cases hjl : j < s.length
            · have hu := hup s[j] (hs1.subset (List.getElem_mem hjl))
              have hmn := minusN_length (s.take j) hv
              have hsn := minusN_snoc hv (s.take j) s[j]
              rw [← List.take_succ_eq_append_getElem hjl] at hsn
              replace hsn := Lib.hid hsn
              generalize minusN hv (s.take j) = A at *
              (repeat' (first
  | (apply W.qd; (first
    | (apply q_mv; (first|exact vD|exact vO|exact vP|exact vA|exact vF|exact vR|exact vN|exact vY|exact vT|exact vM|exact vL|exact vX))|(apply q_as; (first|exact vD|exact vO|exact vP|exact vA|exact vF|exact vR|exact vN|exact vY|exact vT|exact vM|exact vL|exact vX))|(apply q_lss; exact rfl; exact rfl)|(apply q_add; exact rfl; exact rfl; omega)|(apply q_ld_map; (iterate 3 exact rfl); (first | omega | (focus (simp; done))))|(apply q_ix_slF; (iterate 4 exact rfl); (first | (with_reducible exact rfl) | exact natI_spec rfl | assumption | exact (Int.toNat_of_nonneg (by omega)).symm); (first | omega | (focus (simp only [List.length_map]; omega)) | (focus (simp; done)) | (focus (simp; omega))))
    | (apply q_ix_osl0; (iterate 4 exact rfl); (first | (with_reducible exact rfl) | exact natI_spec rfl | assumption | exact (Int.toNat_of_nonneg (by omega)).symm); (first | omega | (focus (simp only [List.length_map]; omega)) | (focus (simp; done)) | (focus (simp; omega))))))|(apply W.ln; (apply l_st_rpt; (iterate 7 exact rfl); exact fun _ => rfl; (first | omega | (focus (simp only [List.length_map]; omega)) | (focus (simp; omega)))))|(apply AWP.seq)|(apply ACont_normal)|(apply W.region; kernel_rfl)|(apply Walk.nil)|(apply AWP.block)|(apply AWP.skip)|(apply ABlock_normal)
  | (refine W.cond _ rfl (fun hb => ?_) (fun hb => ?_) <;> ((try simp only [hb, zA, zB]) <;> (try simp only [zC, zD, zE, zF, zG, zH, zI, zJ] at hb) <;> (try (exfalso; omega))))))
              refine ⟨j + 1, by omega, by omega, ?_⟩
              rw [hsn.out]
              exact ⟨[0, 1, 2, 3, 4, 5, 6, 7, 8, 9, 10], rfl, rfl, rfl, iV_eq (by omega), rfl, rfl, rfl, rfl, rfl, rfl, rfl, rfl, trivial⟩
            have ejl : j = s.length := by omega
            subst ejl
            rw [List.take_length]
            have hmn := minusN_length s hv
            (repeat' (first
  | (apply W.qd; (apply q_lss; exact rfl; exact rfl))|(apply AWP.seq)|(apply ACont_normal)|(apply (W.regionS 15); exact rfl; kernel_rfl)|(apply Walk.nil)|(apply AWP.exit)|(apply ACont_exit)|(apply ABlock_exit)
  | (refine W.cond _ rfl (fun hb => ?_) (fun hb => ?_) <;> ((try simp only [hb, zA, zB]) <;> (try simp only [zC, zD, zE, zF, zG, zH, zI, zJ] at hb) <;> (try (exfalso; omega))))))
            refine AWP.wk ⟨[(9, bools (minusN hv s)), (8, nats s), (2, .opt 0 0), (4, .opt 2 0), (5, .opt 3 0), (7, .opt 4 0)], subO (srcB0 M D ps) (.box [bools hv]) (.box [iV 0]) (.box [.d (.v (.slice none 0 0))]) (.box [iV f]) (upN hv) (f + 1) (.lp .busy none #[25] cA cB (tmpsOf (srcEnv hv f) Tryd.f92.ntmps))⟩ ?wkf1 ?_
            case wkf1 => exact ⟨[0, 1, 2, 3, 4, 5, 6, 7, 8, 9], rfl, rfl, rfl, (frz_rowJ (i := 10) (ver := 1) (n := hv.length) (l := (minusN hv s).map tD) rfl rfl (by rw [List.length_map, hmn])).symm, rfl, rfl, rfl, rfl, rfl, trivial⟩
            have hds := hdecs s
            rw [show dec (minusN hv s) = true from hg] at hds
            (repeat' (first
  | (apply W.qd; (first
    | (apply (q_callC (hds)); exact rfl; exact rfl; kernel_rfl; kernel_rfl; kernel_rfl)|(apply q_mv; (first|exact vD|exact vO|exact vP|exact vA|exact vF|exact vR|exact vN|exact vY|exact vT|exact vM|exact vL|exact vX))|(apply q_ld_boxF; (iterate 4 exact rfl))
    | (apply q_not; exact rfl)))|(apply ACont_normal)|(apply W.region; kernel_rfl)|(apply Walk.nil)|(apply AWP.skip)|(apply ABlock_normal)
  | (apply W.condF; exact rfl)))
            exact ⟨rfl, ⟨[0, 1, 2, 3, 4, 5, 6, 7, 8, 9], rfl, rfl, rfl, by (repeat (first | exact trivial | refine ⟨rfl, ?_⟩))⟩⟩
        dsimp only
        (repeat' (first
  | (apply W.qd; (first
    | (apply q_mv; (first|exact vD|exact vO|exact vP|exact vA|exact vF|exact vR|exact vN|exact vY|exact vT|exact vM|exact vL|exact vX))
    | (apply q_add; exact rfl; exact rfl; omega)))|(apply ACont_normal)|(apply W.region; kernel_rfl)|(apply Walk.nil)
  | (apply ABlock_normal)))
        refine ⟨f + 1, ⟨by omega, fun g hg => ?_⟩, by omega, [0, 1, 2, 3], rfl, rfl, rfl, iV_eq (by omega), rfl, rfl, rfl, rfl, rfl, trivial⟩
        by_cases e : g = f
        · subst e; exact hbI
        · exact hf.2 g (by omega)
      | some s0 =>
        rw [hB] at hbI
        have hfr : f = R := by
          have hq : (List.range 4).find? (badN dec hv) = some f := List.find?_range_eq_some.2 ⟨hbI, List.mem_range.2 hf4, fun g hg => by rw [hf.2 g hg]; rfl⟩
          rw [hq] at hR; exact hR
        subst hfr
        refine AWP.range (s2 := ⟨[(4, .opt 2 0), (5, .opt 3 0)], [srcB0 M D ps, .box [bools hv], .box [iV f], .box [nats s0]]⟩) rfl (by kernel_rfl) (A_subIter (F2 := .box [iV f]) (F7 := .lp .done (some .ret) _ _ _ (tmpsOf (srcEnv hv f) Tryd.f92.ntmps)) (F3 := fun s => .box [nats s]) hupl (by omega) (by omega) hB fun s hs1 hs2 => ?_) rfl (by decide) ⟨[0, 1, 2, 3], rfl, rfl, rfl, by (repeat (first | exact trivial | refine ⟨rfl, ?_⟩))⟩ ?_
        · cases hg : dec (minusN hv s) with
          | true =>
            rw [if_pos rfl]
            refine YAt.ok (own1 := subO (srcB0 M D ps) (.box [bools hv]) (.box [iV 0]) (.box [.d (.v (.slice none 0 0))]) (.box [iV f]) (upN hv) (f + 1) (.lp .busy none #[25] _ _ _)) (s2 := ⟨(8, nats s) :: srcEnv hv f, _⟩) rfl rfl rfl rfl (fun g => ?_) rfl (fun g => ?_) rfl rfl
            · refine AWP.toW ?_
              (repeat' (first
  | (apply W.qd; (apply q_as; (first|exact vD|exact vO|exact vP|exact vA|exact vF|exact vR|exact vN|exact vY|exact vT|exact vM|exact vL|exact vX)))|(apply W.region; kernel_rfl)
  | (apply Walk.nil)))
              exact ⟨rfl, ⟨[0, 1, 2, 3, 4, 5, 6, 7, 8, 9], rfl, rfl, rfl, by (repeat (first | exact trivial | refine ⟨rfl, ?_⟩))⟩⟩
            · refine AWP.toO ?_
              refine gen_entE (motive := fun L => AWPG (Ctx.round g) Tryd.prog Tryd.f92.ntmps 10 _ (fun e s9 => e = .normal ∧ Wk 10 s9 ⟨[], subO (srcB0 M D ps) (.box [bools hv]) (.box [iV 0]) (.box [.d (.v (.slice none 0 0))]) (.box [iV f]) (upN hv) (f + 1) L⟩) ⟨(8, nats s) :: srcEnv hv f, subO (srcB0 M D ps) (.box [bools hv]) (.box [iV 0]) (.box [.d (.v (.slice none 0 0))]) (.box [iV f]) (upN hv) (f + 1) L⟩) _ fun L hL => ?_
              obtain ⟨cA, cB, hL⟩ : ∃ cA cB, L = .lp .busy none #[25] cA cB (tmpsOf (srcEnv hv f) Tryd.f92.ntmps) := ⟨_, _, hL⟩
              subst hL
              have hms : (s.map kD).length = s.length := List.length_map _
              (repeat' (first
  | (apply W.qd; (first
    | (apply q_mv; (first|exact vD|exact vO|exact vP|exact vA|exact vF|exact vR|exact vN|exact vY|exact vT|exact vM|exact vL|exact vX))|(apply q_as; (first|exact vD|exact vO|exact vP|exact vA|exact vF|exact vR|exact vN|exact vY|exact vT|exact vM|exact vL|exact vX))|(apply q_ld_box; (iterate 4 exact rfl))
    | (apply q_len_sl; exact rfl; exact rfl)))|(apply W.ed; (apply (e_callJ (js := []) (hcl)); (iterate 5 exact rfl); kernel_rfl; kernel_rfl))|(apply AWP.seq)|(apply ACont_normal)|(apply W.region; kernel_rfl)|(apply Walk.nil)
  | (apply AWP.block)))
              refine AWP.loopW (α := Nat) (fun j => j ≤ s.length) (fun j => ⟨[(30, iV j), (29, iV s.length), (28, nats s), (9, .osl 10 1 0 hv.length), (8, nats s), (2, .opt 0 0), (4, .opt 2 0), (5, .opt 3 0), (7, .opt 4 0)], subO (srcB0 M D ps) (.box [bools hv]) (.box [iV 0]) (.box [.d (.v (.slice none 0 0))]) (.box [iV f]) (upN hv) (f + 1) (.lp .busy none #[25] cA cB (tmpsOf (srcEnv hv f) Tryd.f92.ntmps)) ++ [.row 1 1 4 ((minusN hv (s.take j)).map tD)]⟩) (fun j => s.length - j) 0 (Nat.zero_le _) ?wkr2 fun j hj => ?_
              case wkr2 => exact ⟨[0, 1, 2, 3, 4, 5, 6, 7, 8, 9, 10], rfl, rfl, rfl, rfl, iV_eq (by rw [hms]), rfl, rfl, rfl, rfl, rfl, rfl, rfl, trivial⟩
              by_cases hjl : j < s.length
              · have hu := hup s[j] (hs1.subset (List.getElem_mem hjl))
                have hmn := minusN_length (s.take j) hv
                have hsn := minusN_snoc hv (s.take j) s[j]
                rw [← List.take_succ_eq_append_getElem hjl] at hsn
                replace hsn := Lib.hid hsn
                generalize minusN hv (s.take j) = A at *
                (repeat' (first
  | (apply W.qd; (first
    | (apply q_mv; (first|exact vD|exact vO|exact vP|exact vA|exact vF|exact vR|exact vN|exact vY|exact vT|exact vM|exact vL|exact vX))|(apply q_as; (first|exact vD|exact vO|exact vP|exact vA|exact vF|exact vR|exact vN|exact vY|exact vT|exact vM|exact vL|exact vX))|(apply q_lss; exact rfl; exact rfl)|(apply q_add; exact rfl; exact rfl; omega)|(apply q_ld_map; (iterate 3 exact rfl); (first | omega | (focus (simp; done))))|(apply q_ix_slF; (iterate 4 exact rfl); (first | (with_reducible exact rfl) | exact natI_spec rfl | assumption | exact (Int.toNat_of_nonneg (by omega)).symm); (first | omega | (focus (simp only [List.length_map]; omega)) | (focus (simp; done)) | (focus (simp; omega))))
    | (apply q_ix_osl0; (iterate 4 exact rfl); (first | (with_reducible exact rfl) | exact natI_spec rfl | assumption | exact (Int.toNat_of_nonneg (by omega)).symm); (first | omega | (focus (simp only [List.length_map]; omega)) | (focus (simp; done)) | (focus (simp; omega))))))|(apply W.ln; (apply l_st_rpt; (iterate 7 exact rfl); exact fun _ => rfl; (first | omega | (focus (simp only [List.length_map]; omega)) | (focus (simp; omega)))))|(apply AWP.seq)|(apply ACont_normal)|(apply W.region; kernel_rfl)|(apply Walk.nil)|(apply AWP.block)|(apply AWP.skip)|(apply ABlock_normal)
  | (refine W.cond _ rfl (fun hb => ?_) (fun hb => ?_) <;> ((try simp only [hb, zA, zB]) <;> (try simp only [zC, zD, zE, zF, zG, zH, zI, zJ] at hb) <;> (try (exfalso; omega))))))
                refine ⟨j + 1, by omega, by omega, ?_⟩
                rw [hsn.out]
                exact ⟨[0, 1, 2, 3, 4, 5, 6, 7, 8, 9, 10], rfl, rfl, rfl, iV_eq (by omega), rfl, rfl, rfl, rfl, rfl, rfl, rfl, rfl, trivial⟩
              have ejl : j = s.length := by omega
              subst ejl
              rw [List.take_length]
              have hmn := minusN_length s hv
              (repeat' (first
  | (apply W.qd; (apply q_lss; exact rfl; exact rfl))|(apply AWP.seq)|(apply ACont_normal)|(apply (W.regionS 15); exact rfl; kernel_rfl)|(apply Walk.nil)|(apply AWP.exit)|(apply ACont_exit)|(apply ABlock_exit)
  | (refine W.cond _ rfl (fun hb => ?_) (fun hb => ?_) <;> ((try simp only [hb, zA, zB]) <;> (try simp only [zC, zD, zE, zF, zG, zH, zI, zJ] at hb) <;> (try (exfalso; omega))))))
              refine AWP.wk ⟨[(9, bools (minusN hv s)), (8, nats s), (2, .opt 0 0), (4, .opt 2 0), (5, .opt 3 0), (7, .opt 4 0)], subO (srcB0 M D ps) (.box [bools hv]) (.box [iV 0]) (.box [.d (.v (.slice none 0 0))]) (.box [iV f]) (upN hv) (f + 1) (.lp .busy none #[25] cA cB (tmpsOf (srcEnv hv f) Tryd.f92.ntmps))⟩ ?wkf2 ?_
              case wkf2 => exact ⟨[0, 1, 2, 3, 4, 5, 6, 7, 8, 9], rfl, rfl, rfl, (frz_rowJ (i := 10) (ver := 1) (n := hv.length) (l := (minusN hv s).map tD) rfl rfl (by rw [List.length_map, hmn])).symm, rfl, rfl, rfl, rfl, rfl, trivial⟩
              have hds := hdecs s
              rw [hg] at hds
              (repeat' (first
  | (apply W.qd; (first
    | (apply (q_callC (hds)); exact rfl; exact rfl; kernel_rfl; kernel_rfl; kernel_rfl)|(apply q_mv; (first|exact vD|exact vO|exact vP|exact vA|exact vF|exact vR|exact vN|exact vY|exact vT|exact vM|exact vL|exact vX))|(apply q_ld_boxF; (iterate 4 exact rfl))
    | (apply q_not; exact rfl)))|(apply ACont_normal)|(apply W.region; kernel_rfl)|(apply Walk.nil)|(apply AWP.skip)|(apply ABlock_normal)
  | (apply W.condF; exact rfl)))
              exact ⟨rfl, ⟨[0, 1, 2, 3, 4, 5, 6, 7, 8, 9], rfl, rfl, rfl, by (repeat (first | exact trivial | refine ⟨rfl, ?_⟩))⟩⟩
          | false =>
            rw [if_neg (by decide)]
            refine YAt.ret (own1 := subO (srcB0 M D ps) (.box [bools hv]) (.box [iV f]) (.box [nats s]) (.box [iV f]) (upN hv) (f + 1) (.lp .busy none #[25] _ _ _)) (s2 := ⟨(8, nats s) :: srcEnv hv f, _⟩) rfl rfl rfl rfl (fun g => ?_) rfl (fun g => ?_) rfl rfl
            · refine AWP.toW ?_
              (repeat' (first
  | (apply W.qd; (apply q_as; (first|exact vD|exact vO|exact vP|exact vA|exact vF|exact vR|exact vN|exact vY|exact vT|exact vM|exact vL|exact vX)))|(apply W.region; kernel_rfl)
  | (apply Walk.nil)))
              exact ⟨rfl, ⟨[0, 1, 2, 3, 4, 5, 6, 7, 8, 9], rfl, rfl, rfl, by (repeat (first | exact trivial | refine ⟨rfl, ?_⟩))⟩⟩
            · refine AWP.toX ?_
              refine gen_entE (motive := fun L => AWPG (Ctx.round g) Tryd.prog Tryd.f92.ntmps 10 _ (fun e s9 => e = .ret ∧ Wk 10 s9 ⟨[], subO (srcB0 M D ps) (.box [bools hv]) (.box [iV f]) (.box [nats s]) (.box [iV f]) (upN hv) (f + 1) L⟩) ⟨(8, nats s) :: srcEnv hv f, subO (srcB0 M D ps) (.box [bools hv]) (.box [iV 0]) (.box [.d (.v (.slice none 0 0))]) (.box [iV f]) (upN hv) (f + 1) L⟩) _ fun L hL => ?_
              obtain ⟨cA, cB, hL⟩ : ∃ cA cB, L = .lp .busy none #[25] cA cB (tmpsOf (srcEnv hv f) Tryd.f92.ntmps) := ⟨_, _, hL⟩
              subst hL
              have hms : (s.map kD).length = s.length := List.length_map _
              (repeat' (first
  | (apply W.qd; (first
    | (apply q_mv; (first|exact vD|exact vO|exact vP|exact vA|exact vF|exact vR|exact vN|exact vY|exact vT|exact vM|exact vL|exact vX))|(apply q_as; (first|exact vD|exact vO|exact vP|exact vA|exact vF|exact vR|exact vN|exact vY|exact vT|exact vM|exact vL|exact vX))|(apply q_ld_box; (iterate 4 exact rfl))
    | (apply q_len_sl; exact rfl; exact rfl)))|(apply W.ed; (apply (e_callJ (js := []) (hcl)); (iterate 5 exact rfl); kernel_rfl; kernel_rfl))|(apply AWP.seq)|(apply ACont_normal)|(apply W.region; kernel_rfl)|(apply Walk.nil)
  | (apply AWP.block)))
              refine AWP.loopW (α := Nat) (fun j => j ≤ s.length) (fun j => ⟨[(30, iV j), (29, iV s.length), (28, nats s), (9, .osl 10 1 0 hv.length), (8, nats s), (2, .opt 0 0), (4, .opt 2 0), (5, .opt 3 0), (7, .opt 4 0)], subO (srcB0 M D ps) (.box [bools hv]) (.box [iV 0]) (.box [.d (.v (.slice none 0 0))]) (.box [iV f]) (upN hv) (f + 1) (.lp .busy none #[25] cA cB (tmpsOf (srcEnv hv f) Tryd.f92.ntmps)) ++ [.row 1 1 4 ((minusN hv (s.take j)).map tD)]⟩) (fun j => s.length - j) 0 (Nat.zero_le _) ?wkr3 fun j hj => ?_
              case wkr3 => exact ⟨[0, 1, 2, 3, 4, 5, 6, 7, 8, 9, 10], rfl, rfl, rfl, rfl, iV_eq (by rw [hms]), rfl, rfl, rfl, rfl, rfl, rfl, rfl, trivial⟩
              by_cases hjl : j < s.length
              · have hu := hup s[j] (hs1.subset (List.getElem_mem hjl))
                have hmn := minusN_length (s.take j) hv
                have hsn := minusN_snoc hv (s.take j) s[j]
                rw [← List.take_succ_eq_append_getElem hjl] at hsn
                replace hsn := Lib.hid hsn
                generalize minusN hv (s.take j) = A at *
                (repeat' (first
  | (apply W.qd; (first
    | (apply q_mv; (first|exact vD|exact vO|exact vP|exact vA|exact vF|exact vR|exact vN|exact vY|exact vT|exact vM|exact vL|exact vX))|(apply q_as; (first|exact vD|exact vO|exact vP|exact vA|exact vF|exact vR|exact vN|exact vY|exact vT|exact vM|exact vL|exact vX))|(apply q_lss; exact rfl; exact rfl)|(apply q_add; exact rfl; exact rfl; omega)|(apply q_ld_map; (iterate 3 exact rfl); (first | omega | (focus (simp; done))))|(apply q_ix_slF; (iterate 4 exact rfl); (first | (with_reducible exact rfl) | exact natI_spec rfl | assumption | exact (Int.toNat_of_nonneg (by omega)).symm); (first | omega | (focus (simp only [List.length_map]; omega)) | (focus (simp; done)) | (focus (simp; omega))))
    | (apply q_ix_osl0; (iterate 4 exact rfl); (first | (with_reducible exact rfl) | exact natI_spec rfl | assumption | exact (Int.toNat_of_nonneg (by omega)).symm); (first | omega | (focus (simp only [List.length_map]; omega)) | (focus (simp; done)) | (focus (simp; omega))))))|(apply W.ln; (apply l_st_rpt; (iterate 7 exact rfl); exact fun _ => rfl; (first | omega | (focus (simp only [List.length_map]; omega)) | (focus (simp; omega)))))|(apply AWP.seq)|(apply ACont_normal)|(apply W.region; kernel_rfl)|(apply Walk.nil)|(apply AWP.block)|(apply AWP.skip)|(apply ABlock_normal)
  | (refine W.cond _ rfl (fun hb => ?_) (fun hb => ?_) <;> ((try simp only [hb, zA, zB]) <;> (try simp only [zC, zD, zE, zF, zG, zH, zI, zJ] at hb) <;> (try (exfalso; omega))))))
                refine ⟨j + 1, by omega, by omega, ?_⟩
                rw [hsn.out]
                exact ⟨[0, 1, 2, 3, 4, 5, 6, 7, 8, 9, 10], rfl, rfl, rfl, iV_eq (by omega), rfl, rfl, rfl, rfl, rfl, rfl, rfl, rfl, trivial⟩
              have ejl : j = s.length := by omega
              subst ejl
              rw [List.take_length]
              have hmn := minusN_length s hv
              (repeat' (first
  | (apply W.qd; (apply q_lss; exact rfl; exact rfl))|(apply AWP.seq)|(apply ACont_normal)|(apply (W.regionS 15); exact rfl; kernel_rfl)|(apply Walk.nil)|(apply AWP.exit)|(apply ACont_exit)|(apply ABlock_exit)
  | (refine W.cond _ rfl (fun hb => ?_) (fun hb => ?_) <;> ((try simp only [hb, zA, zB]) <;> (try simp only [zC, zD, zE, zF, zG, zH, zI, zJ] at hb) <;> (try (exfalso; omega))))))
              refine AWP.wk ⟨[(9, bools (minusN hv s)), (8, nats s), (2, .opt 0 0), (4, .opt 2 0), (5, .opt 3 0), (7, .opt 4 0)], subO (srcB0 M D ps) (.box [bools hv]) (.box [iV 0]) (.box [.d (.v (.slice none 0 0))]) (.box [iV f]) (upN hv) (f + 1) (.lp .busy none #[25] cA cB (tmpsOf (srcEnv hv f) Tryd.f92.ntmps))⟩ ?wkf3 ?_
              case wkf3 => exact ⟨[0, 1, 2, 3, 4, 5, 6, 7, 8, 9], rfl, rfl, rfl, (frz_rowJ (i := 10) (ver := 1) (n := hv.length) (l := (minusN hv s).map tD) rfl rfl (by rw [List.length_map, hmn])).symm, rfl, rfl, rfl, rfl, rfl, trivial⟩
              have hds := hdecs s
              rw [hg] at hds
              (repeat' (first
  | (apply W.qd; (first
    | (apply (q_callC (hds)); exact rfl; exact rfl; kernel_rfl; kernel_rfl; kernel_rfl)|(apply q_mv; (first|exact vD|exact vO|exact vP|exact vA|exact vF|exact vR|exact vN|exact vY|exact vT|exact vM|exact vL|exact vX))|(apply q_ld_box; (iterate 4 exact rfl))|(apply q_ld_boxF; (iterate 4 exact rfl))
    | (apply q_not; exact rfl)))|(apply W.ln; (apply l_st_box; (iterate 6 exact rfl); kernel_rfl; kernel_rfl; kernel_rfl))|(apply AWP.seq)|(apply ACont_normal)|(apply W.region; kernel_rfl)|(apply Walk.nil)|(apply AWP.ret)|(apply ABlock_ret)
  | (apply W.condT; exact rfl)))
              exact ⟨rfl, ⟨[0, 1, 2, 3, 4, 5, 6, 7, 8, 9], rfl, rfl, rfl, by (repeat (first | exact trivial | refine ⟨rfl, ?_⟩))⟩⟩
        dsimp only
        (repeat' (first
  | (apply AWP.ret)|(apply ACont_ret)
  | (apply ABlock_ret)))
        exact ⟨.inl rfl, [], [iV f, nats s0], rfl, ⟨⟨2, [iV f], false, rfl, rfl, rfl, rfl⟩, ⟨3, [nats s0], false, rfl, rfl, rfl, rfl⟩, trivial⟩, AVle.tup2 (AVle.refl _) (AVle.anyS _ _), rfl⟩
    · have e4 : f = 4 := by omega
      subst e4
      have hn : (List.range 4).find? (badN dec hv) = none := by
        rw [List.find?_eq_none]
        intro g hg
        rw [hf.2 g (List.mem_range.1 hg)]; decide
      rw [hn] at hR
      obtain rfl : 4 = R := hR
      (repeat' (first
  | (apply W.qd; (apply q_lss; exact rfl; exact rfl))|(apply W.ln; (apply l_st_box; (iterate 6 exact rfl); kernel_rfl; kernel_rfl; kernel_rfl))|(apply AWP.seq)|(apply ACont_normal)|(apply W.region; kernel_rfl)|(apply Walk.nil)|(apply AWP.exit)|(apply AWP.ret)|(apply ACont_exit)|(apply ABlock_exit)
  | (apply W.condF; exact rfl)))
      exact ⟨.inl rfl, [], [iV 4, .d (.v (.slice none 0 0))], rfl, ⟨⟨2, [iV 4], false, rfl, rfl, rfl, rfl⟩, ⟨3, [.d (.v (.slice none 0 0))], false, rfl, rfl, rfl, rfl⟩, trivial⟩, AVle.tup2 (AVle.refl _) (AVle.anyV rfl), rfl⟩
end Go.Proofs.YtaclmbbiegklcaaDoor
end
section
/- A row of the call's own gets other elements, of the same number: a whole element of several cells is stored, elements are cleared, elements are copied. No program in sight. -/
namespace Go.Proofs.YtaclmbbiegklcaaDoor
open Go.RowKit
theorem seg_get (l us : List Value) (o x : Nat) (h : o + us.length ≤ l.length) : (l.take o ++ us ++ l.drop (o + us.length))[x]? = if o ≤ x ∧ x < o + us.length then us[x - o]? else l[x]? := by
  have ht : (l.take o).length = o := by rw [List.length_take]; omega
  by_cases h1 : x < o
  · rw [if_neg (by omega), List.append_assoc, List.getElem?_append_left (by omega), List.getElem?_take, if_pos h1]
  · by_cases h2 : x < o + us.length
    · rw [if_pos ⟨by omega, h2⟩, List.append_assoc, List.getElem?_append_right (by omega), ht, List.getElem?_append_left (by omega)]
    · rw [if_neg (by omega), List.getElem?_append_right (by rw [List.length_append, ht]; omega), List.length_append, ht, List.getElem?_drop]
      congr 1
      omega
theorem setK_same {κ : List (Option Nat)} {i : Nat} {og : Option Nat} (h : κ[i]? = some og) : κ.set i og = κ := List.ext_getElem? fun j => by
  by_cases hj : j = i
  · subst hj; rw [List.getElem?_set_self (List.getElem?_eq_some_iff.1 h).1, h]
  · rw [List.getElem?_set_ne (Ne.symm hj)]
theorem row_put {F : Nat → Prop} {κ : List (Option Nat)} {w : World} {m : Nat} {own : List Ent} {i ver sz g : Nat} {e : TypeId} {l l' : List (List Dat)} {cur cur' : Array Value} (ho : OwnSat F own κ w) (hi : own[i]? = some (.row ver sz e l)) (h3 : κ[i]? = some (some g)) (h5 : w.heap[g]? = some (.cells cur e (0, 0))) (h0 : 0 < sz) (hs : cur'.size = cur.size) (hl : l'.length = l.length) (h6 : l.length * sz ≤ cur.size)
    (hr : ∀ j e', l'[j]? = some e' → e'.length = sz ∧ ∀ q y, e'[q]? = some y → ∃ u, cur'[j * sz + q]? = some u ∧ u.oneCell' = true ∧ Dat.sat (badK F κ) w y u) :
    OwnSat F (own.set i (.row ver sz e l')) κ (w.setRow g cur') ∧ Tr F m own κ w (own.set i (.row ver sz e l')) κ (w.setRow g cur') := by
  have hrow := setRow_heap w g cur cur' e (0, 0) h5
  have key := step_upd (m := m) (x' := .row ver sz e l') (og := some g) (og' := some g) (w' := w.setRow g cur') ho hi h3 rfl rfl rfl (by simp [World.setRow]) (fun b hb hne => by
        simp only [World.setRow, Array.getElem?_modify]
        rw [if_neg (fun e => hne (by rw [e]))]) (.inl rfl) (.inr rfl) (.inr ⟨rfl, rfl, rfl, hl.symm, rfl, fun g' hg' cur2 t' fz' hcur' => by
          obtain rfl : g = g' := by simpa using hg'
          rw [h5] at hcur'
          obtain ⟨rfl, rfl, rfl⟩ : cur = cur2 ∧ e = t' ∧ (0, 0) = fz' := by simpa using hcur'
          exact ⟨_, _, _, hrow, hs.symm⟩⟩) (fun hst => ⟨h0, .inr ⟨g, rfl, _, hrow, by rw [hl, hs]; exact h6, by
            rw [Dat.rowsSat_iff]
            intro j' e' hj'
            obtain ⟨h8, h9⟩ := hr j' e' hj'
            refine ⟨h8, ?_⟩
            rw [Dat.rowSat_iff]
            intro q y hq
            obtain ⟨u, q1, q2, q3⟩ := h9 q y hq
            refine ⟨u, ?_, q2, Dat.sat_wide hst.wide y q3⟩
            rw [cell_of_row _ g _ _ e (0, 0) hrow, Nat.zero_add]
            exact q1⟩⟩)
  rw [setK_same h3] at key
  exact key
theorem row_cells {F : Nat → Prop} {κ : List (Option Nat)} {w : World} {own : List Ent} {i ver sz g : Nat} {e : TypeId} {l : List (List Dat)} (ho : OwnSat F own κ w) (hi : own[i]? = some (.row ver sz e l)) (h3 : κ[i]? = some (some g)) :
    0 < sz ∧ ∃ cur, w.heap[g]? = some (.cells cur e (0, 0)) ∧ l.length * sz ≤ cur.size ∧ ∀ j e', l[j]? = some e' → e'.length = sz ∧ ∀ q y, e'[q]? = some y → ∃ u, cur[j * sz + q]? = some u ∧ u.oneCell' = true ∧ Dat.sat (badK F κ) w y u := by
  obtain ⟨h0, hent⟩ := ho.ent i _ hi
  rw [getD_some h3] at hent
  rcases hent with ⟨hxx, _⟩ | ⟨g', hg', cur, h5, h6, h7⟩
  · cases hxx
  · obtain rfl : g = g' := by simpa using hg'
    refine ⟨h0, cur, h5, h6, fun j e' hj => ?_⟩
    rw [Dat.rowsSat_iff] at h7
    obtain ⟨h8, h9⟩ := h7 j e' hj
    refine ⟨h8, fun q y hq => ?_⟩
    rw [Dat.rowSat_iff] at h9
    obtain ⟨u, q1, q2, q3⟩ := h9 q y hq
    rw [cell_of_row w g _ cur e (0, 0) h5, Nat.zero_add] at q1
    exact ⟨u, q1, q2, q3⟩
theorem row1_vals {B : Nat → Prop} {w : World} {b o : Nat} {s : List (List Dat)} (h : Dat.rowsSat B w b 1 o s) : ∃ us : List Value, us.length = s.length ∧ (∀ (j : Nat) (u : Value), us[j]? = some u → w.cell? ⟨b, o + j, none⟩ = some u) ∧ ∀ (j : Nat) (e' : List Dat), s[j]? = some e' → e'.length = 1 ∧ ∀ y, e'[0]? = some y → ∃ u, us[j]? = some u ∧ u.oneCell' = true ∧ Dat.sat B w y u := by
  rw [Dat.rowsSat_iff] at h
  have each : ∀ (j : Nat) (e' : List Dat), s[j]? = some e' → e'.length = 1 ∧ ∀ y, e'[0]? = some y → ∃ u, w.cell? ⟨b, o + j, none⟩ = some u ∧ u.oneCell' = true ∧ Dat.sat B w y u := fun j e' hj => by
    obtain ⟨h8, h9⟩ := h j e' hj
    refine ⟨h8, fun y hy => ?_⟩
    rw [Dat.rowSat_iff] at h9
    have := h9 0 y hy
    rwa [Nat.mul_one, Nat.add_zero] at this
  refine ⟨(List.range s.length).map fun i => ((w.cell? ⟨b, o + i, none⟩).getD undef), by simp, fun j u hu => ?_, fun j e' hj => ?_⟩
  · have hlt : j < s.length := by have := (List.getElem?_eq_some_iff.1 hu).1; simpa using this
    obtain ⟨h8, h9⟩ := each j _ (List.getElem?_eq_getElem hlt)
    obtain ⟨u', q1, _, _⟩ := h9 _ (List.getElem?_eq_getElem (by omega))
    rw [List.getElem?_map, List.getElem?_range hlt] at hu
    simp only [Option.map_some, q1, Option.getD_some, Option.some.injEq] at hu
    subst hu; exact q1
  · have hlt : j < s.length := (List.getElem?_eq_some_iff.1 hj).1
    obtain ⟨h8, h9⟩ := each j e' hj
    refine ⟨h8, fun y hy => ?_⟩
    obtain ⟨u, q1, q2, q3⟩ := h9 y hy
    exact ⟨u, by rw [List.getElem?_map, List.getElem?_range hlt]; simp [q1], q2, q3⟩
theorem vals1_one {B : Nat → Prop} {w : World} {s : List (List Dat)} {us : List Value} (hl : us.length = s.length) (h : ∀ (j : Nat) (e' : List Dat), s[j]? = some e' → e'.length = 1 ∧ ∀ y, e'[0]? = some y → ∃ u, us[j]? = some u ∧ u.oneCell' = true ∧ Dat.sat B w y u) : ∀ u ∈ us, u.oneCell' = true := fun u hu => by
  obtain ⟨j, hj⟩ := List.mem_iff_getElem?.1 hu
  have hlt : j < s.length := by rw [← hl]; exact (List.getElem?_eq_some_iff.1 hj).1
  obtain ⟨h8, h9⟩ := h j _ (List.getElem?_eq_getElem hlt)
  obtain ⟨u', q1, q2, _⟩ := h9 _ (List.getElem?_eq_getElem (by omega))
  rw [hj] at q1
  obtain rfl : u = u' := by simpa using q1
  exact q2
theorem idx_ne {j j' q o sz : Nat} (hq : q < sz) (ho : o < sz) (h : j' ≠ j) : ¬ (j * sz ≤ j' * sz + q ∧ j' * sz + q < j * sz + sz) := fun ⟨a, b⟩ => by
  rcases Nat.lt_or_gt_of_ne h with h1 | h1
  · have := Nat.mul_le_mul_right sz (show j' + 1 ≤ j from h1)
    rw [Nat.succ_mul] at this; omega
  · have := Nat.mul_le_mul_right sz (show j + 1 ≤ j' from h1)
    rw [Nat.succ_mul] at this; omega
section
variable {P : Program} {m : Nat} {env : List (Nat × AV)} {own : List Ent} {dst : Option Tmp} {ty : TypeId} {pos : String} {af : Array Edge} {gd : Option (Nat × Bool)}
theorem e_st_rpts {t : TypeId} {k : Nat} {b : Bool} {x y : Operand} {i ver j sz : Nat} {e : TypeId} {l : List (List Dat)} {ds : List Dat} {own' : List Ent} (hx : lookO env x = .rpt i ver j 0) (hi : own[i]? = some (.row ver sz e l)) (ht : tyInfo P t = some (b, k)) (hk : k = sz) (hy : cellsD (lookO env y) = some ds) (hds : ds.length = sz) (h1 : ds.all (fun d => oneA (.d d)) = true) (ho' : setF own i (.row ver sz e (l.set j ds)) = some own') :
    Eff P m ⟨dst, .store t x y, ty, pos, af, gd⟩ env own [i] (.d (.v undef)) own' := by
  rw [setF_spec ho']
  exact Eff.mk (set_same _ i) fun F κ a w hs ho hm => by
    subst hk
    have hx1 := hs x (by simp [Op.operands]); rw [hx, AV.sat] at hx1
    have hy1 := hs y (by simp [Op.operands])
    obtain ⟨hcA, hok⟩ := cellsD_A hy
    have hcs := cellsA_sat hcA hy1 hok
    have hcl := satL_length hcs
    obtain ⟨hj, g, h3, h4⟩ := hx1.2 k e l hi
    obtain ⟨h0, cur, h5, h6, h7⟩ := row_cells ho hi h3
    have hvn : (a.eval y).cells.size = k := by
      rw [List.length_map, hds] at hcl
      rw [← Array.length_toList]; exact hcl.symm
    have hvl : (a.eval y).cells.toList.length = k := by rw [Array.length_toList]; exact hvn
    have hus : ∀ q d, ds[q]? = some d → ∃ u, (a.eval y).cells.toList[q]? = some u ∧ u.oneCell' = true ∧ Dat.sat (badK F κ) w d u := fun q d hq => by
      obtain ⟨u, q1, q2⟩ := satL_get hcs q (.d d) (by rw [List.getElem?_map, hq]; rfl)
      have q3 := List.all_eq_true.1 h1 d (List.mem_of_getElem? hq)
      refine ⟨u, q1, one_of_cellsA q3 q2, ?_⟩
      rw [AV.sat] at q2; exact q2
    have hone : ∀ u ∈ (a.eval y).cells.toList, u.oneCell' = true := fun u hu => by
      obtain ⟨q, hq⟩ := List.mem_iff_getElem?.1 hu
      have hlt : q < ds.length := by have := (List.getElem?_eq_some_iff.1 hq).1; omega
      obtain ⟨u', q1, q2, _⟩ := hus q _ (List.getElem?_eq_getElem hlt)
      rw [hq] at q1
      obtain rfl : u = u' := by simpa using q1
      exact q2
    have hjk : j * k + k ≤ l.length * k := by
      have := Nat.mul_le_mul_right k (show j + 1 ≤ l.length from hj)
      rw [Nat.succ_mul] at this; omega
    have hrun : (execOp a.eval ⟨dst, .store t x y, ty, pos, af, gd⟩).run P w = .ok .skip (w.setRow g (cur.toList.take (j * k) ++ (a.eval y).cells.toList ++ cur.toList.drop (j * k + (a.eval y).cells.toList.length)).toArray) := by
      have := run_storeAt (P := P) ht h5 (v := a.eval y) (o := j * k) hvn (by omega) hone
      rw [Nat.add_zero] at h4
      exact exec_u (by rw [h4]; exact this)
    rw [hrun]
    have hcs2 : cur.toList.length = cur.size := Array.length_toList
    obtain ⟨r1, r2⟩ := row_put (m := m) (cur' := (cur.toList.take (j * k) ++ (a.eval y).cells.toList ++ cur.toList.drop (j * k + (a.eval y).cells.toList.length)).toArray) (l' := l.set j ds) ho hi h3 h5 h0 (by simp; omega) (by simp) h6 (fun j' e' hj' => by
      have hget : ∀ x, (cur.toList.take (j * k) ++ (a.eval y).cells.toList ++ cur.toList.drop (j * k + (a.eval y).cells.toList.length)).toArray[x]? = if j * k ≤ x ∧ x < j * k + k then (a.eval y).cells.toList[x - j * k]? else cur[x]? := fun x => by
        have ec : cur.toList[x]? = cur[x]? := Array.getElem?_toList
        rw [List.getElem?_toArray, seg_get _ _ _ _ (by omega), hvl, ec]
      by_cases hjj : j' = j
      · subst hjj
        rw [List.getElem?_set_self hj] at hj'
        obtain rfl : ds = e' := by simpa using hj'
        refine ⟨hds, fun q y' hq => ?_⟩
        have hql : q < k := by have := (List.getElem?_eq_some_iff.1 hq).1; omega
        obtain ⟨u, q1, q2, q3⟩ := hus q y' hq
        refine ⟨u, ?_, q2, q3⟩
        rw [hget, if_pos ⟨by omega, by omega⟩, show j' * k + q - j' * k = q by omega]
        exact q1
      · rw [List.getElem?_set_ne (Ne.symm hjj)] at hj'
        obtain ⟨h8, h9⟩ := h7 j' e' hj'
        refine ⟨h8, fun q y' hq => ?_⟩
        have hql : q < k := by have := (List.getElem?_eq_some_iff.1 hq).1; omega
        obtain ⟨u, q1, q2, q3⟩ := h9 q y' hq
        exact ⟨u, by rw [hget, if_neg (idx_ne hql h0 hjj)]; exact q1, q2, q3⟩)
    exact ⟨κ, by rw [AV.sat, Dat.sat], r1, r2⟩
theorem e_st_rptM {α : Type} {f : α → List Dat} {l : List α} {t : TypeId} {k : Nat} {b : Bool} {x y : Operand} {i ver j sz : Nat} {e : TypeId} {ds : List Dat} {own' : List Ent} (v : α) (hx : lookO env x = .rpt i ver j 0) (hi : own[i]? = some (.row ver sz e (l.map f))) (ht : tyInfo P t = some (b, k)) (hk : k = sz) (hy : cellsD (lookO env y) = some ds) (hv : f v = ds) (hds : (f v).length = sz) (h1 : (f v).all (fun d => oneA (.d d)) = true) (ho' : setF own i (.row ver sz e ((l.set j v).map f)) = some own') :
    Eff P m ⟨dst, .store t x y, ty, pos, af, gd⟩ env own [i] (.d (.v undef)) own' := by
  subst hv
  refine e_st_rpts hx hi ht hk hy hds h1 ?_
  rw [List.map_set] at ho'
  exact ho'
theorem sat_slice_own {F : Nat → Prop} {κ : List (Option Nat)} {w : World} {p ver q n sz : Nat} {e : TypeId} {l : List (List Dat)} {u : Value} (hp : own[p]? = some (.row ver sz e l)) (h : AV.sat F own κ w (.osl p ver q n) u) (hn : 0 < n) : q + n ≤ l.length ∧ ∃ g c, κ[p]? = some (some g) ∧ u = .slice (some ⟨g, q * sz, none⟩) n c := by
  rw [AV.sat] at h
  obtain ⟨h1, A, c, h2, h3, h4, h5⟩ := h.2 sz e l hp
  rcases h5 (.inl hn) with ⟨g, g1, rfl, _⟩ | ⟨_, _, hc⟩
  · exact ⟨h1, g, c, g1, h2⟩
  · omega
theorem copy_fin {F : Nat → Prop} {κ : List (Option Nat)} {w : World} {p ver q n k g : Nat} {e : TypeId} {l s : List (List Dat)} {cs : List Value} {cur : Array Value} (ho : OwnSat F own κ w) (hp : own[p]? = some (.row ver 1 e l)) (hg : κ[p]? = some (some g)) (h5 : w.heap[g]? = some (.cells cur e (0, 0))) (hqn : q + n ≤ l.length) (hk : k ≤ n) (hks : k ≤ s.length) (hcs : cs.length = k)
    (hv : ∀ j e', s[j]? = some e' → j < k → e'.length = 1 ∧ ∀ y, e'[0]? = some y → ∃ u, cs[j]? = some u ∧ u.oneCell' = true ∧ Dat.sat (badK F κ) w y u) :
    OwnSat F (own.set p (.row ver 1 e (l.take q ++ s.take k ++ l.drop (q + k)))) κ (w.setRow g (cur.toList.take q ++ cs ++ cur.toList.drop (q + cs.length)).toArray) ∧ Tr F m own κ w (own.set p (.row ver 1 e (l.take q ++ s.take k ++ l.drop (q + k)))) κ (w.setRow g (cur.toList.take q ++ cs ++ cur.toList.drop (q + cs.length)).toArray) := by
  obtain ⟨h0, cur2, h5', h6, h7⟩ := row_cells ho hp hg
  obtain rfl : cur = cur2 := by rw [h5] at h5'; simpa using h5'
  have hcl : cur.toList.length = cur.size := Array.length_toList
  rw [Nat.mul_one] at h6
  have hlt : (l.take q).length = q := by rw [List.length_take]; omega
  have hls : (s.take k).length = k := by rw [List.length_take]; omega
  refine row_put (l' := l.take q ++ s.take k ++ l.drop (q + k)) ho hp hg h5 h0 (by simp; omega) (by simp; omega) (by rw [Nat.mul_one]; exact h6) fun j e' hj => ?_
  have hget : ∀ x, (cur.toList.take q ++ cs ++ cur.toList.drop (q + cs.length)).toArray[x]? = if q ≤ x ∧ x < q + k then cs[x - q]? else cur[x]? := fun x => by
    have ec : cur.toList[x]? = cur[x]? := Array.getElem?_toList
    rw [List.getElem?_toArray, seg_get _ _ _ _ (by omega), hcs, ec]
  have old : ∀ j' e2, l[j']? = some e2 → ¬ (q ≤ j' ∧ j' < q + k) → e2.length = 1 ∧ ∀ q' y, e2[q']? = some y → ∃ u, (cur.toList.take q ++ cs ++ cur.toList.drop (q + cs.length)).toArray[j' * 1 + q']? = some u ∧ u.oneCell' = true ∧ Dat.sat (badK F κ) w y u := fun j' e2 h hn => by
    obtain ⟨h8, h9⟩ := h7 j' e2 h
    refine ⟨h8, fun q' y hq => ?_⟩
    have hq0 : q' = 0 := by have := (List.getElem?_eq_some_iff.1 hq).1; omega
    subst hq0
    obtain ⟨u, q1, q2, q3⟩ := h9 0 y hq
    refine ⟨u, ?_, q2, q3⟩
    rw [hget, if_neg (by omega)]; exact q1
  by_cases h1 : j < q
  · rw [List.append_assoc, List.getElem?_append_left (by omega), List.getElem?_take, if_pos h1] at hj
    exact old j e' hj (by omega)
  · by_cases h2 : j < q + k
    · rw [List.append_assoc, List.getElem?_append_right (by omega), hlt, List.getElem?_append_left (by omega), List.getElem?_take, if_pos (by omega)] at hj
      obtain ⟨h8, h9⟩ := hv _ _ hj (by omega)
      refine ⟨h8, fun q' y hq => ?_⟩
      have hq0 : q' = 0 := by have := (List.getElem?_eq_some_iff.1 hq).1; omega
      subst hq0
      obtain ⟨u, q1, q2, q3⟩ := h9 y hq
      refine ⟨u, ?_, q2, q3⟩
      rw [hget, Nat.mul_one, Nat.add_zero, if_pos ⟨by omega, h2⟩]; exact q1
    · rw [List.getElem?_append_right (by rw [List.length_append]; omega), List.length_append, hlt, hls, List.getElem?_drop, show q + k + (j - (q + k)) = j by omega] at hj
      exact old j e' hj (by omega)
theorem info_one {t e : TypeId} {by' : Nat} {z : Value} (ht : slInfo P t = some (e, 1, by', z)) : P.underlying t = some (.slice e) ∧ (P.info? e).map (·.size) = some 1 := by
  obtain ⟨h1, i, h2, h3, _⟩ := slInfo_spec ht
  exact ⟨h1, by rw [h2]; simp [h3]⟩
theorem e_copyD {t t2 e e' : TypeId} {by' : Nat} {z : Value} {x y : Operand} {p ver q n : Nat} {l s : List (List Dat)} {own' : List Ent} (k : Nat) (hx : lookO env x = .osl p ver q n) (hp : own[p]? = some (.row ver 1 e l)) (hy : lookO env y = .d (.sl 1 s)) (ht : slInfo P t = some (e', 1, by', z)) (hk : k = min s.length n) (h0 : 0 < k) (ho' : setF own p (.row ver 1 e (l.take q ++ s.take k ++ l.drop (q + k))) = some own') :
    Eff P m ⟨dst, .call ⟨.builtin .copy, #[x, y], #[t, t2]⟩, ty, pos, af, gd⟩ env own [p] (iV k) own' := by
  rw [setF_spec ho']
  exact Eff.mk (set_same _ p) fun F κ a w hs ho hm => by
    have hx1 := hs x (by simp [Op.operands, Call.operands]); rw [hx] at hx1
    have hy1 := hs y (by simp [Op.operands, Call.operands]); rw [hy, AV.sat, Dat.sat] at hy1
    obtain ⟨h1, g, c, hg, hxv⟩ := sat_slice_own hp hx1 (by omega)
    obtain ⟨A, c2, hyv, _, _, h4⟩ := hy1
    obtain ⟨b, o, rfl, hb1, hb2, hb3⟩ := h4 (by omega)
    obtain ⟨h00, cur, h5, h6, h7⟩ := row_cells ho hp hg
    obtain ⟨us, hul, hv2, hv1⟩ := row1_vals hb3
    obtain ⟨hu, hsz⟩ := info_one ht
    rw [Nat.mul_one] at hxv
    have hct : (us.take k).length = k := by rw [List.length_take]; omega
    have hrun := run_copy_row (P := P) w t t2 ty e' g q n c ⟨b, o, none⟩ s.length c2 cur e (us.take k) hu hsz h5 (by rw [hct, hk]) (fun j v hj => by
      rw [List.getElem?_take] at hj
      split at hj
      · rw [add_none]; exact hv2 j v hj
      · cases hj) (by rw [hct]; omega) (fun v hv => vals1_one hul hv1 v (List.mem_of_mem_take hv))
    have hex : (execOp a.eval ⟨dst, .call ⟨.builtin .copy, #[x, y], #[t, t2]⟩, ty, pos, af, gd⟩).run P w = .ok (.value (goInt k)) (w.setRow g (cur.toList.take q ++ us.take k ++ cur.toList.drop (q + (us.take k).length)).toArray) := by
      rw [exec_builtin]
      simp only [builtin, List.map_toArray, List.map_cons, List.map_nil]
      rw [hxv, hyv]
      have := exec_v hrun
      rw [hct] at this ⊢
      exact this
    rw [hex]
    obtain ⟨r1, r2⟩ := copy_fin (m := m) (n := n) (s := s) ho hp hg h5 h1 (by omega) (by omega) hct (fun j e2 hj hjk => by
      obtain ⟨h8, h9⟩ := hv1 j e2 hj
      refine ⟨h8, fun y2 hy2 => ?_⟩
      obtain ⟨u, q1, q2, q3⟩ := h9 y2 hy2
      exact ⟨u, by rw [List.getElem?_take, if_pos hjk]; exact q1, q2, q3⟩)
    exact ⟨κ, by rw [AV.sat, Dat.sat]; rfl, r1, r2⟩
theorem e_copyO {t t2 e e' : TypeId} {by' : Nat} {z : Value} {x y : Operand} {p ver q n q2 n2 : Nat} {l : List (List Dat)} {own' : List Ent} (k : Nat) (hx : lookO env x = .osl p ver q n) (hp : own[p]? = some (.row ver 1 e l)) (hy : lookO env y = .osl p ver q2 n2) (ht : slInfo P t = some (e', 1, by', z)) (hk : k = min n2 n) (h0 : 0 < k) (ho' : setF own p (.row ver 1 e (l.take q ++ (l.drop q2).take k ++ l.drop (q + k))) = some own') :
    Eff P m ⟨dst, .call ⟨.builtin .copy, #[x, y], #[t, t2]⟩, ty, pos, af, gd⟩ env own [p] (iV k) own' := by
  rw [setF_spec ho']
  exact Eff.mk (set_same _ p) fun F κ a w hs ho hm => by
    have hx1 := hs x (by simp [Op.operands, Call.operands]); rw [hx] at hx1
    have hy1 := hs y (by simp [Op.operands, Call.operands]); rw [hy] at hy1
    obtain ⟨h1, g, c, hg, hxv⟩ := sat_slice_own hp hx1 (by omega)
    obtain ⟨h2, g2, c2, hg2, hyv⟩ := sat_slice_own hp hy1 (by omega)
    obtain rfl : g = g2 := by rw [hg] at hg2; simpa using hg2
    obtain ⟨h00, cur, h5, h6, h7⟩ := row_cells ho hp hg
    rw [Nat.mul_one] at h6
    obtain ⟨hu, hsz⟩ := info_one ht
    rw [Nat.mul_one] at hxv hyv
    have hcl : cur.toList.length = cur.size := Array.length_toList
    have hct : ((cur.toList.drop q2).take k).length = k := by rw [List.length_take, List.length_drop]; omega
    have hgc : ∀ j u, ((cur.toList.drop q2).take k)[j]? = some u → cur[q2 + j]? = some u := fun j u hj => by
      rw [List.getElem?_take] at hj
      split at hj
      · rw [List.getElem?_drop] at hj
        have ec : cur.toList[q2 + j]? = cur[q2 + j]? := Array.getElem?_toList
        rw [← ec]; exact hj
      · cases hj
    have hv : ∀ (j : Nat) (e2 : List Dat), (l.drop q2)[j]? = some e2 → j < k → e2.length = 1 ∧ ∀ y2, e2[0]? = some y2 → ∃ u, ((cur.toList.drop q2).take k)[j]? = some u ∧ u.oneCell' = true ∧ Dat.sat (badK F κ) w y2 u := fun j e2 hj hjk => by
      rw [List.getElem?_drop] at hj
      obtain ⟨h8, h9⟩ := h7 _ e2 hj
      refine ⟨h8, fun y2 hy2 => ?_⟩
      obtain ⟨u, q1, q3, q4⟩ := h9 0 y2 hy2
      rw [Nat.mul_one, Nat.add_zero] at q1
      have ec : cur.toList[q2 + j]? = cur[q2 + j]? := Array.getElem?_toList
      exact ⟨u, by rw [List.getElem?_take, if_pos hjk, List.getElem?_drop, ec]; exact q1, q3, q4⟩
    have hone : ∀ v ∈ (cur.toList.drop q2).take k, v.oneCell' = true := fun v hvm => by
      obtain ⟨j, hj⟩ := List.mem_iff_getElem?.1 hvm
      have hjk : j < k := by have := (List.getElem?_eq_some_iff.1 hj).1; omega
      obtain ⟨h8, h9⟩ := hv j _ (List.getElem?_eq_getElem (show j < (l.drop q2).length by rw [List.length_drop]; omega)) hjk
      obtain ⟨u, q1, q3, _⟩ := h9 _ (List.getElem?_eq_getElem (by omega))
      rw [hj] at q1
      obtain rfl : v = u := by simpa using q1
      exact q3
    have hrun := run_copy_row (P := P) w t t2 ty e' g q n c ⟨g, q2, none⟩ n2 c2 cur e ((cur.toList.drop q2).take k) hu hsz h5 (by rw [hct, hk]) (fun j v hj => by
      rw [add_none, cell_of_row w g _ cur e (0, 0) h5]
      exact hgc j v hj) (by rw [hct]; omega) hone
    have hex : (execOp a.eval ⟨dst, .call ⟨.builtin .copy, #[x, y], #[t, t2]⟩, ty, pos, af, gd⟩).run P w = .ok (.value (goInt k)) (w.setRow g (cur.toList.take q ++ (cur.toList.drop q2).take k ++ cur.toList.drop (q + ((cur.toList.drop q2).take k).length)).toArray) := by
      rw [exec_builtin]
      simp only [builtin, List.map_toArray, List.map_cons, List.map_nil]
      rw [hxv, hyv]
      have := exec_v hrun
      rw [hct] at this ⊢
      exact this
    rw [hex]
    obtain ⟨r1, r2⟩ := copy_fin (m := m) (n := n) (s := l.drop q2) ho hp hg h5 h1 (by omega) (by rw [List.length_drop]; omega) hct hv
    exact ⟨κ, by rw [AV.sat, Dat.sat]; rfl, r1, r2⟩
theorem e_copyDm {t t2 e e' : TypeId} {by' : Nat} {z : Value} {x y : Operand} {p ver q n : Nat} {l s l' : List (List Dat)} {own' : List Ent} (k : Nat) (hx : lookO env x = .osl p ver q n) (hp : own[p]? = some (.row ver 1 e l)) (hy : lookO env y = .d (.sl 1 s)) (ht : slInfo P t = some (e', 1, by', z)) (hk : k = min s.length n) (h0 : 0 < k) (hl : l.take q ++ s.take k ++ l.drop (q + k) = l') (ho' : setF own p (.row ver 1 e l') = some own') :
    Eff P m ⟨dst, .call ⟨.builtin .copy, #[x, y], #[t, t2]⟩, ty, pos, af, gd⟩ env own [p] (iV k) own' := by
  subst hl
  exact e_copyD k hx hp hy ht hk h0 ho'
theorem e_copyOm {t t2 e e' : TypeId} {by' : Nat} {z : Value} {x y : Operand} {p ver q n q2 n2 : Nat} {l l' : List (List Dat)} {own' : List Ent} (k : Nat) (hx : lookO env x = .osl p ver q n) (hp : own[p]? = some (.row ver 1 e l)) (hy : lookO env y = .osl p ver q2 n2) (ht : slInfo P t = some (e', 1, by', z)) (hk : k = min n2 n) (h0 : 0 < k) (hl : l.take q ++ (l.drop q2).take k ++ l.drop (q + k) = l') (ho' : setF own p (.row ver 1 e l') = some own') :
    Eff P m ⟨dst, .call ⟨.builtin .copy, #[x, y], #[t, t2]⟩, ty, pos, af, gd⟩ env own [p] (iV k) own' := by
  subst hl
  exact e_copyO k hx hp hy ht hk h0 ho'
end
end Go.Proofs.YtaclmbbiegklcaaDoor
end
section
/- The shelf's contracts at this program: layings in plain words. -/
namespace Go.Proofs.YtaclmbbiegklcaaDoor
open Go.Shelf Go.RowKit
def layRepeat_ren : Go.Shelf.Ren := ⟨fun | 105 => 66 | 212 => 109 | 99 => 110 | 165 => 111 | 166 => 112 | 170 => 113 | 169 => 114 | 263 => 139 | 264 => 140 | 206 => 141 | 240 => 142 | 241 => 143 | 276 => 165 | 277 => 166 | n => n, fun | 9 => 9 | 3 => 3 | 4 => 4 | 20 => 20 | 0 => 0 | 46 => 153 | 109 => 154 | 5 => 5 | 72 => 160 | 76 => 164 | 51 => 191 | 146 => 192 | 53 => 194 | 148 => 195 | 70 => 157 | 37 => 158 | 75 => 163 | 127 => 197 | 164 => 217 | 80 => 167 | n => n, fun | n => n⟩
theorem layRepeat : Go.Proofs.Lays.n105 Tryd.prog layRepeat_ren := {
  mixed := by kernel_rfl
  f99 := Tryd.func110.trans (congrArg some (by kernel_rfl))
  f105 := Tryd.func66.trans (congrArg some (by kernel_rfl))
  f165 := Tryd.func111.trans (congrArg some (by kernel_rfl))
  f166 := Tryd.func112.trans (congrArg some (by kernel_rfl))
  f169 := Tryd.func114.trans (congrArg some (by kernel_rfl))
  f170 := Tryd.func113.trans (congrArg some (by kernel_rfl))
  f206 := Tryd.func141.trans (congrArg some (by kernel_rfl))
  f212 := Tryd.func109.trans (congrArg some (by kernel_rfl))
  f240 := Tryd.func142.trans (congrArg some (by kernel_rfl))
  f241 := Tryd.func143.trans (congrArg some (by kernel_rfl))
  f263 := Tryd.func139.trans (congrArg some (by kernel_rfl))
  f264 := Tryd.func140.trans (congrArg some (by kernel_rfl))
  f276 := Tryd.func165.trans (congrArg some (by kernel_rfl))
  f277 := Tryd.func166.trans (congrArg some (by kernel_rfl))
  t0 := Tryd.underlying0
  a0 := Tryd.isAgg0
  z0 := Tryd.sizeOf0
  v0 := Tryd.zeroValue0
  t3 := Tryd.underlying3
  a3 := Tryd.isAgg3
  z3 := Tryd.sizeOf3
  v3 := Tryd.zeroValue3
  t4 := Tryd.underlying4
  a4 := Tryd.isAgg4
  z4 := Tryd.sizeOf4
  v4 := Tryd.zeroValue4
  t5 := Tryd.underlying5
  a5 := Tryd.isAgg5
  z5 := Tryd.sizeOf5
  v5 := Tryd.zeroValue5
  t9 := Tryd.underlying9
  a9 := Tryd.isAgg9
  z9 := Tryd.sizeOf9
  v9 := Tryd.zeroValue9
  t20 := Tryd.underlying20
  a20 := Tryd.isAgg20
  z20 := Tryd.sizeOf20
  v20 := Tryd.zeroValue20
  t37 := Tryd.underlying158
  a37 := Tryd.isAgg158
  z37 := Tryd.sizeOf158
  v37 := Tryd.zeroValue158
  t46 := Tryd.underlying153
  a46 := Tryd.isAgg153
  z46 := Tryd.sizeOf153
  v46 := Tryd.zeroValue153
  t51 := Tryd.underlying191
  a51 := Tryd.isAgg191
  z51 := Tryd.sizeOf191
  v51 := Tryd.zeroValue191
  t53 := Tryd.underlying194
  a53 := Tryd.isAgg194
  z53 := Tryd.sizeOf194
  v53 := Tryd.zeroValue194
  t70 := Tryd.underlying157
  a70 := Tryd.isAgg157
  z70 := Tryd.sizeOf157
  v70 := Tryd.zeroValue157
  t72 := Tryd.underlying160
  a72 := Tryd.isAgg160
  z72 := Tryd.sizeOf160
  v72 := Tryd.zeroValue160
  t75 := Tryd.underlying163
  a75 := Tryd.isAgg163
  z75 := Tryd.sizeOf163
  v75 := Tryd.zeroValue163
  t76 := Tryd.underlying164
  a76 := Tryd.isAgg164
  z76 := Tryd.sizeOf164
  v76 := Tryd.zeroValue164
  t109 := Tryd.underlying154
  a109 := Tryd.isAgg154
  z109 := Tryd.sizeOf154
  v109 := Tryd.zeroValue154
  t127 := Tryd.underlying197
  a127 := Tryd.isAgg197
  z127 := Tryd.sizeOf197
  v127 := Tryd.zeroValue197
  t146 := Tryd.underlying192
  a146 := Tryd.isAgg192
  z146 := Tryd.sizeOf192
  v146 := Tryd.zeroValue192
  t148 := Tryd.underlying195
  a148 := Tryd.isAgg195
  z148 := Tryd.sizeOf195
  v148 := Tryd.zeroValue195
  t164 := Tryd.underlying217
  a164 := Tryd.isAgg217
  z164 := Tryd.sizeOf217
  v164 := Tryd.zeroValue217 }
abbrev mul_ren : Ren := layRepeat_ren
theorem mulLay : Go.Proofs.Lays.n212 Tryd.prog mul_ren := { layRepeat with }
end Go.Proofs.YtaclmbbiegklcaaDoor
end
section
/- Layer 9 over the machine of abstract values: slices.Repeat of one truth value, distance.valid, Left, Losses. -/
namespace Go.Proofs.YtaclmbbiegklcaaDoor
open Go.RowKit
set_option maxHeartbeats 4000000
set_option maxRecDepth 100000
theorem ACalls.ler {P : Program} {f : FuncId} {args : List AV} {r r' : AV} {own own' : List Ent} (h : ACalls P f args own r own') (hle : AVle r r') : ACalls P f args own r' own' := fun F κ w vs ho hsat => (h F κ w vs ho hsat).mono fun e w' ⟨v, κ', h1, h2, h3, h4⟩ => ⟨v, κ', h1, hle _ _ _ _ _ h2, h3, h4⟩
theorem AVle.tupV (a b : Value) : AVle (.d (.v (.tuple #[a, b]))) (.tup [.d (.v a), .d (.v b)]) := fun F own κ w u hs => by
  rw [sat_v] at hs
  subst hs
  rw [AV.sat]
  exact ⟨_, rfl, by simp [AV.satL, sat_v]⟩
theorem A_bmul {x y : Nat} (h : x * y < 18446744073709551616) (hx : x < 18446744073709551616) (hy : y < 18446744073709551616) : ACalls Tryd.prog 109 [.d (.v (.int .u64 x)), .d (.v (.int .u64 y))] [] (.tup [.d (.v (.int .u64 (0 : Nat))), .d (.v (.int .u64 (x * y : Nat)))]) [] := by
  refine ACalls.ler (r := .d (.v (.tuple #[.int .u64 (0 : Nat), .int .u64 (x * y : Nat)]))) ?_ (AVle.tupV _ _)
  refine acalls_of_exact rfl fun w => ?_
  have := Go.Proofs.Any.bits_Mul mulLay x y hx hy w
  rw [Nat.div_eq_of_lt h, Nat.mod_eq_of_lt h] at this
  exact this.mono fun e w' ⟨h1, h2⟩ => ⟨h1, h2 ▸ Below.refl _ _⟩
section
variable {P : Program} {m : Nat} {env : List (Nat × AV)} {own : List Ent} {dst : Option Tmp} {ty : TypeId} {pos : String} {af : Array Edge} {gd : Option (Nat × Bool)}
theorem q_convU {src dst' : TypeId} {x : Operand} {k : IntKind} {n : Int} {v : Nat} (hx : lookO env x = .d (.v (.int k n))) (hs : (P.underlying src).isSome = true) (hd : isInt P dst' .u64 = true) (hn : n = (v : Int)) (h : v < 18446744073709551616) :
    Quiet P m ⟨dst, .convert src dst' x, ty, pos, af, gd⟩ env own [] (.d (.v (.int .u64 (v : Int)))) := by
  have := q_conv (P := P) (m := m) (env := env) (own := own) (dst := dst) (ty := ty) (pos := pos) (af := af) (gd := gd) (src := src) .u64 hs hd hx
  rwa [hn, capK_wrap (k := .u64) h] at this
end
def repT (w n : Nat) : List Bool := List.replicate n true ++ List.replicate (w - n) false
theorem rep_first {w : Nat} (h : 1 ≤ w) : ((List.replicate w false).map tD).take 0 ++ ([true].map tD).take 1 ++ ((List.replicate w false).map tD).drop (0 + 1) = (repT w 1).map tD := by
  unfold repT
  simp
theorem rep_step {w n : Nat} (h : 1 ≤ n) (hl : n < w) : ((repT w n).map tD).take n ++ (((repT w n).map tD).drop 0).take (min n (w - n)) ++ ((repT w n).map tD).drop (n + min n (w - n)) = (repT w (n + min n (w - n))).map tD := by
  generalize hk : min n (w - n) = k
  have a1 : (repT w n).take n = List.replicate n true := List.take_left' (by simp)
  have a2 : ((repT w n).drop 0).take k = List.replicate k true := by
    unfold repT
    rw [List.drop_zero, List.take_append_of_le_length (by simp; omega), List.take_replicate, Nat.min_eq_left (by omega)]
  have a3 : (repT w n).drop (n + k) = List.replicate (w - (n + k)) false := by
    unfold repT
    rw [List.drop_append]
    simp
    omega
  rw [← List.map_take, ← List.map_drop, ← List.map_drop, ← List.map_take, a1, a2, a3, ← List.map_append, ← List.map_append, List.replicate_append_replicate]
  rfl
attribute [local irreducible] Quiet Eff OpOk AWPG ACont ABlock ACalls AGoto
theorem A_repeatT {w : Nat} (h1 : 1 ≤ w) (hw : w ≤ 1000000) : ACalls Tryd.prog 72 [bools [true], iV w] [] (bools (List.replicate w true)) [] := by
  refine acalls_of_body Tryd.func72 rfl (Nat.le_of_ble_eq_true rfl) ?_
  have hm := A_bmul (x := 1) (y := w) (by omega) (by omega) (by omega)
  rw [Nat.one_mul] at hm
  have hx : (([true] : List Bool).map tD).length = 1 := rfl
  have hT : ∀ n, (repT w n).length = n + (w - n) := fun n => by unfold repT; simp
  (repeat' (first
  | (apply W.gOn; exact rfl; exact rfl)
  | (apply W.qd; (first
    | (apply (q_callC (hm)); exact rfl; exact rfl; kernel_rfl; kernel_rfl; kernel_rfl)
    | ((apply q_convU; (iterate 3 exact rfl); with_reducible exact rfl; omega))|(apply q_mv; (first|exact vD|exact vO|exact vP|exact vA|exact vF|exact vR|exact vN|exact vY|exact vT|exact vM|exact vL|exact vX))|(apply q_as; (first|exact vD|exact vO|exact vP|exact vA|exact vF|exact vR|exact vN|exact vY|exact vT|exact vM|exact vL|exact vX))|(apply q_lss; exact rfl; exact rfl)|(apply q_gtr; exact rfl; exact rfl)|(apply q_extract; exact rfl; exact rfl)|(apply q_len_sl; exact rfl; exact rfl)|(apply (q_pickF (u := .d _)); exact rfl; exact rfl)
    | (apply q_convI; (iterate 3 exact rfl); omega)))|(apply W.ed; ((apply (e_makeG (f := tD) false); (iterate 10 exact rfl); omega)))|(apply AWP.seq)|(apply ACont_normal)|(apply (W.regionS 7); exact rfl; kernel_rfl)|(apply Walk.nil)|(apply AWP.skip)|(apply W.condF; exact rfl)
  | (refine W.cond _ rfl (fun hb => ?_) (fun hb => ?_) <;> ((try simp only [hb, zA, zB]) <;> (try simp only [zC, zD, zE, zF, zG, zH, zI, zJ] at hb) <;> (try (exfalso; omega))))))
  (repeat' (first
  | (apply W.qd; (first
    | (apply q_mv; (first|exact vD|exact vO|exact vP|exact vA|exact vF|exact vR|exact vN|exact vY|exact vT|exact vM|exact vL|exact vX))
    | (apply q_as; (first|exact vD|exact vO|exact vP|exact vA|exact vF|exact vR|exact vN|exact vY|exact vT|exact vM|exact vL|exact vX))))|(apply W.ed; ((exact e_copyDm 1 rfl rfl rfl rfl (show 1 = min ([true].map tD).length w by simp; omega) (by omega) (rep_first h1) rfl)))|(apply AWP.seq)|(apply ACont_normal)|(apply W.region; kernel_rfl)|(apply Walk.nil)
  | (apply AWP.block)))
  refine AWP.loopW (α := Nat) (fun n => 1 ≤ n ∧ n ≤ w) (fun n => ⟨[(8, iV n), (7, .osl 0 0 0 w)], [.row 0 1 4 ((repT w n).map tD)]⟩) (fun n => w - n) 1 ⟨Nat.le_refl _, h1⟩ ⟨[0], rfl, rfl, rfl, by (repeat (first | exact trivial | refine ⟨rfl, ?_⟩))⟩ fun n hn => ?_
  obtain ⟨hn1, hn2⟩ := hn
  by_cases hlt : n < w
  · have hst := rep_step hn1 hlt
    have hTn := hT n
    generalize hk : min n (w - n) = k at *
    (repeat' (first
  | (apply W.qd; (first
    | (apply q_mv; (first|exact vD|exact vO|exact vP|exact vA|exact vF|exact vR|exact vN|exact vY|exact vT|exact vM|exact vL|exact vX))|(apply q_as; (first|exact vD|exact vO|exact vP|exact vA|exact vF|exact vR|exact vN|exact vY|exact vT|exact vM|exact vL|exact vX))|(apply q_lss; exact rfl; exact rfl)|(apply q_add; exact rfl; exact rfl; omega)|(apply q_len_osl; (iterate 3 exact rfl))
    | (apply q_slc_osl; (iterate 3 exact rfl); (first | exact ⟨_, _, rfl, rfl⟩ | exact ⟨_, _, rfl, natI_spec rfl⟩ | exact ⟨_, _, rfl, (Int.toNat_of_nonneg (by omega)).symm⟩ | exact rfl); (first | exact ⟨_, _, rfl, rfl⟩ | exact ⟨_, _, rfl, natI_spec rfl⟩ | exact ⟨_, _, rfl, (Int.toNat_of_nonneg (by omega)).symm⟩ | exact rfl); omega; omega)))|(apply W.ed; ((exact e_copyOm k rfl rfl rfl rfl (show k = min (n - 0) (w - n) by omega) (by omega) (by simp only [Nat.zero_add]; exact hst) rfl)))|(apply AWP.seq)|(apply ACont_normal)|(apply W.region; kernel_rfl)|(apply W.regionD; exact rfl; kernel_rfl)|(apply Walk.nil)|(apply W.chk; kernel_rfl)|(apply AWP.block)|(apply AWP.skip)|(apply ABlock_normal)
  | (refine W.cond _ rfl (fun hb => ?_) (fun hb => ?_) <;> ((try simp only [hb, zA, zB]) <;> (try simp only [zC, zD, zE, zF, zG, zH, zI, zJ] at hb) <;> (try (exfalso; omega))))))
    refine ⟨n + k, ⟨by omega, by omega⟩, by omega, [0], rfl, rfl, rfl, iV_eq (by omega), rfl, trivial⟩
  · have e : n = w := by omega
    subst e
    have e2 : repT n n = List.replicate n true := by unfold repT; simp
    rw [e2]
    (repeat' (first
  | (apply W.qd; (first
    | (apply q_mv; (first|exact vD|exact vO|exact vP|exact vA|exact vF|exact vR|exact vN|exact vY|exact vT|exact vM|exact vL|exact vX))|(apply q_as; (first|exact vD|exact vO|exact vP|exact vA|exact vF|exact vR|exact vN|exact vY|exact vT|exact vM|exact vL|exact vX))|(apply q_lss; exact rfl; exact rfl)
    | (apply q_len_osl; (iterate 3 exact rfl))))|(apply AWP.seq)|(apply ACont_normal)|(apply W.region; kernel_rfl)|(apply Walk.nil)|(apply AWP.exit)|(apply AWP.ret)|(apply ACont_exit)|(apply ABlock_exit)
  | (refine W.cond _ rfl (fun hb => ?_) (fun hb => ?_) <;> ((try simp only [hb, zA, zB]) <;> (try simp only [zC, zD, zE, zF, zG, zH, zI, zJ] at hb) <;> (try (exfalso; omega))))))
    exact Ends.osl rfl rfl (by simp) rfl
end Go.Proofs.YtaclmbbiegklcaaDoor
end
section
/- Layer 9 over the machine of abstract values: distance.valid, Left, Losses, of any code. -/
namespace Go.Proofs.YtaclmbbiegklcaaDoor
open Go.RowKit
set_option maxHeartbeats 4000000
set_option maxRecDepth 100000
def decZ (M D : Int) (par : List (List Int)) : List Bool → Bool := decN M.toNat D.toNat (par.map fun r => r.map Int.toNat)
def leftC (nm : List Nat) (M D : Int) (par : List (List Int)) (dom : Int) (hv : List Bool) : Int := if chkC nm M D par dom = true ∧ (hv.length : Int) = D + (par.length : Int) then leftN (decZ M D par) hv else -1
def lossC (nm : List Nat) (M D : Int) (par : List (List Int)) (dom : Int) : Int := leftC nm M D par dom (List.replicate (D + (par.length : Int)).toNat true)
structure FIn (nm : List Nat) (D : Int) (par : List (List Int)) : Prop where
  n : isB nm
  l : nm.length < 9223372036854775808
  d : 0 ≤ D ∧ D ≤ 1000000
  p : par.length ≤ 1000000
theorem toZ_back (ps : List (List Nat)) : ((toZ ps).map fun r => r.map Int.toNat) = ps := by
  unfold toZ
  rw [List.map_map]
  have : ((fun r : List Int => r.map Int.toNat) ∘ fun r : List Nat => r.map fun n : Nat => (n : Int)) = id := by
    funext r
    simp [Function.comp_def]
  rw [this]; simp
theorem decZ_nat (M D : Nat) (ps : List (List Nat)) : decZ M D (toZ ps) = decN M D ps := by
  unfold decZ
  rw [toZ_back]; rfl
theorem chk_code {nm : List Nat} {M D dom : Int} {par : List (List Int)} (h : chkC nm M D par dom = true) : ∃ (m d : Nat) (ps : List (List Nat)), M = m ∧ D = d ∧ par = toZ ps ∧ CodeOk m d ps := ok_valid (chk_valid h)
attribute [local irreducible] Quiet Eff OpOk AWPG ACont ABlock ACalls AGoto
theorem A_dvalid {nm : List Nat} {M D dom : Int} {par : List (List Int)} {n : Nat} (h : FIn nm D par) : ACalls Tryd.prog 91 [cdF nm M D par dom, iV n] [] (bV (decide (chkC nm M D par dom = true ∧ (n : Int) = D + (par.length : Int)))) [] := by
  obtain ⟨e, hc, he⟩ := A_lcheck (M := M) (dom := dom) h.n h.l h.d h.p
  refine acalls_of_body Tryd.func91 rfl (Nat.le_of_ble_eq_true rfl) ?_
  by_cases hk : chkC nm M D par dom = true
  · obtain rfl : e = 0 := he.2 hk
    have hV := chk_valid hk
    obtain ⟨m, d, ps, rfl, rfl, rfl, hok⟩ := chk_code hk
    have hw := (A_ewidth (M := m) (D := d) (code_in hok)).cdF (nm := nm) (dom := dom)
    rw [if_pos hV] at hw
    (repeat' (first
  | (apply W.gOn; exact rfl; exact rfl)
  | (apply W.qd; (first
    | (apply (q_callC (hc)); exact rfl; exact rfl; kernel_rfl; kernel_rfl; kernel_rfl)|(apply (q_callC (hw)); exact rfl; exact rfl; kernel_rfl; kernel_rfl; kernel_rfl)|(apply q_mv; (first|exact vD|exact vO|exact vP|exact vA|exact vF|exact vR|exact vN|exact vY|exact vT|exact vM|exact vL|exact vX))|(apply q_as; (first|exact vD|exact vO|exact vP|exact vA|exact vF|exact vR|exact vN|exact vY|exact vT|exact vM|exact vL|exact vX))|(apply q_ld_boxF; (iterate 4 exact rfl))|(apply q_eql; exact rfl; exact rfl)
    | (apply (q_pickT (u := .d _)); exact rfl; exact rfl)))|(apply W.ed; (apply e_boxF; (iterate 3 exact rfl); kernel_rfl; kernel_rfl))|(apply AWP.seq)|(apply ACont_normal)|(apply W.region; kernel_rfl)|(apply Walk.nil)
  | (apply AWP.ret)))
    refine Ends.b rfl ?_
    rw [decide_eq_decide]
    exact ⟨fun h => ⟨hk, h⟩, fun h => h.2⟩
  · have hne : e ≠ 0 := fun h0 => hk (he.1 h0)
    (repeat' (first
  | (apply W.qd; (first
    | (apply (q_callC (hc)); exact rfl; exact rfl; kernel_rfl; kernel_rfl; kernel_rfl)|(apply q_mv; (first|exact vD|exact vO|exact vP|exact vA|exact vF|exact vR|exact vN|exact vY|exact vT|exact vM|exact vL|exact vX))|(apply q_as; (first|exact vD|exact vO|exact vP|exact vA|exact vF|exact vR|exact vN|exact vY|exact vT|exact vM|exact vL|exact vX))|(apply q_ld_boxF; (iterate 4 exact rfl))|(apply q_eql; exact rfl; exact rfl)
    | (apply (q_pickF (u := .d _)); exact rfl; exact rfl)))|(apply W.ed; (apply e_boxF; (iterate 3 exact rfl); kernel_rfl; kernel_rfl))|(refine W.gOff _ _ rfl rfl (by intro h; cases h) ?_)|(apply AWP.seq)|(apply ACont_normal)|(apply W.region; kernel_rfl)|(apply Walk.nil)|(apply AWP.ret)
  | (refine W.gT _ _ rfl rfl (fun hb => ?_) (fun hb => ?_) <;> ((try simp only [hb, zA, zB]) <;> (try simp only [zC, zD, zE, zF, zG, zH, zI, zJ] at hb) <;> (try (exfalso; omega))))))
    exact Ends.b rfl (decide_eq_false fun h => hk h.1).symm
theorem A_left {nm : List Nat} {M D dom : Int} {par : List (List Int)} {hv : List Bool} (h : FIn nm D par) (hl : hv.length < 9223372036854775808) : ACalls Tryd.prog 55 [cdF nm M D par dom, bools hv] [] (iV (leftC nm M D par dom hv)) [] := by
  have hv0 := A_dvalid (M := M) (dom := dom) (n := hv.length) h
  refine acalls_of_body Tryd.func55 rfl (Nat.le_of_ble_eq_true rfl) ?_
  have hmh : (hv.map tD).length = hv.length := List.length_map _
  rw [← hmh] at hv0
  unfold leftC
  by_cases hk : chkC nm M D par dom = true ∧ (hv.length : Int) = D + (par.length : Int)
  · rw [if_pos hk]
    rw [hmh, decide_eq_true hk, ← hmh] at hv0
    obtain ⟨m, d, ps, rfl, rfl, rfl, hok⟩ := chk_code hk.1
    have hpl : (toZ ps).length = ps.length := List.length_map _
    have hs := A_search hok (hv := hv) (by omega)
    rw [cdN_A] at hs
    have hs := hs.cdF (nm := nm) (dom := dom)
    rw [decZ_nat]
    (repeat' (first
  | (apply W.qd; (first
    | (apply (q_callC (hv0)); exact rfl; exact rfl; kernel_rfl; kernel_rfl; kernel_rfl)|(apply (q_callC (hs)); exact rfl; exact rfl; kernel_rfl; kernel_rfl; kernel_rfl)|(apply q_mv; (first|exact vD|exact vO|exact vP|exact vA|exact vF|exact vR|exact vN|exact vY|exact vT|exact vM|exact vL|exact vX))|(apply q_as; (first|exact vD|exact vO|exact vP|exact vA|exact vF|exact vR|exact vN|exact vY|exact vT|exact vM|exact vL|exact vX))|(apply q_ld_boxF; (iterate 4 exact rfl))|(apply q_not; exact rfl)|(apply q_extract; exact rfl; exact rfl)
    | (apply q_len_sl; exact rfl; exact rfl)))|(apply W.ed; (apply e_boxF; (iterate 3 exact rfl); kernel_rfl; kernel_rfl))|(apply AWP.seq)|(apply ACont_normal)|(apply W.region; kernel_rfl)|(apply Walk.nil)|(apply AWP.skip)|(apply AWP.ret)
  | (apply W.condF; exact rfl)))
    exact Ends.i rfl rfl
  · rw [if_neg hk]
    rw [hmh, decide_eq_false hk, ← hmh] at hv0
    (repeat' (first
  | (apply W.qd; (first
    | (apply (q_callC (hv0)); exact rfl; exact rfl; kernel_rfl; kernel_rfl; kernel_rfl)|(apply q_mv; (first|exact vD|exact vO|exact vP|exact vA|exact vF|exact vR|exact vN|exact vY|exact vT|exact vM|exact vL|exact vX))|(apply q_as; (first|exact vD|exact vO|exact vP|exact vA|exact vF|exact vR|exact vN|exact vY|exact vT|exact vM|exact vL|exact vX))|(apply q_ld_boxF; (iterate 4 exact rfl))|(apply q_not; exact rfl)
    | (apply q_len_sl; exact rfl; exact rfl)))|(apply W.ed; (apply e_boxF; (iterate 3 exact rfl); kernel_rfl; kernel_rfl))|(apply AWP.seq)|(apply ACont_normal)|(apply W.region; kernel_rfl)|(apply Walk.nil)|(apply AWP.ret)|(apply ACont_ret)
  | (apply W.condT; exact rfl)))
    exact Ends.i rfl rfl
theorem A_losses {nm : List Nat} {M D dom : Int} {par : List (List Int)} (h : FIn nm D par) : ACalls Tryd.prog 36 [cdF nm M D par dom] [] (iV (lossC nm M D par dom)) [] := by
  obtain ⟨e, hc, he⟩ := A_lcheck (M := M) (dom := dom) h.n h.l h.d h.p
  refine acalls_of_body Tryd.func36 rfl (Nat.le_of_ble_eq_true rfl) ?_
  by_cases hk : chkC nm M D par dom = true
  · obtain rfl : e = 0 := he.2 hk
    have hV := chk_valid hk
    have hl := A_left (M := M) (dom := dom) (hv := List.replicate (D + (par.length : Int)).toNat true) h (by have := h.d; have := h.p; simp; omega)
    rw [show leftC nm M D par dom (List.replicate (D + (par.length : Int)).toNat true) = lossC nm M D par dom from rfl] at hl
    obtain ⟨m, d, ps, rfl, rfl, rfl, hok⟩ := chk_code hk
    have hw := (A_ewidth (M := m) (D := d) (code_in hok)).cdF (nm := nm) (dom := dom)
    rw [if_pos hV] at hw
    have hd1 := hok.d
    have hw1 := hok.w
    have hpl : (toZ ps).length = ps.length := List.length_map _
    have eW : ((d : Int) + ((toZ ps).length : Int)) = ((d + ps.length : Nat) : Int) := by omega
    rw [eW] at hw hl
    have hr := A_repeatT (w := d + ps.length) (by omega) (by omega)
    rw [Int.toNat_natCast] at hl
    (repeat' (first
  | (apply W.qd; (first
    | (apply (q_callC (hc)); exact rfl; exact rfl; kernel_rfl; kernel_rfl; kernel_rfl)|(apply (q_callC (hw)); exact rfl; exact rfl; kernel_rfl; kernel_rfl; kernel_rfl)|(apply (q_callC (hr)); exact rfl; exact rfl; kernel_rfl; kernel_rfl; kernel_rfl)|(apply (q_callC (hl)); exact rfl; exact rfl; kernel_rfl; kernel_rfl; kernel_rfl)|(apply q_as; (first|exact vD|exact vO|exact vP|exact vA|exact vF|exact vR|exact vN|exact vY|exact vT|exact vM|exact vL|exact vX))|(apply q_ld_boxF; (iterate 4 exact rfl))|(apply q_neq; exact rfl; exact rfl)
    | (apply q_litF; (iterate 5 exact rfl); kernel_rfl; kernel_rfl; exact rfl)))|(apply W.ed; (apply e_boxF; (iterate 3 exact rfl); kernel_rfl; kernel_rfl))|(apply AWP.seq)|(apply ACont_normal)|(apply W.region; kernel_rfl)|(apply W.regionD; exact rfl; kernel_rfl)|(apply Walk.nil)|(apply W.chk; kernel_rfl)|(apply AWP.skip)|(apply AWP.ret)
  | (apply W.condF; exact rfl)))
    exact Ends.i rfl rfl
  · have hne : e ≠ 0 := fun h0 => hk (he.1 h0)
    have e1 : lossC nm M D par dom = -1 := if_neg fun h => hk h.1
    rw [e1]
    (repeat' (first
  | (apply W.qd; (first
    | (apply (q_callC (hc)); exact rfl; exact rfl; kernel_rfl; kernel_rfl; kernel_rfl)|(apply q_as; (first|exact vD|exact vO|exact vP|exact vA|exact vF|exact vR|exact vN|exact vY|exact vT|exact vM|exact vL|exact vX))|(apply q_ld_boxF; (iterate 4 exact rfl))
    | (apply q_neq; exact rfl; exact rfl)))|(apply W.ed; (apply e_boxF; (iterate 3 exact rfl); kernel_rfl; kernel_rfl))|(apply AWP.seq)|(apply ACont_normal)|(apply W.region; kernel_rfl)|(apply Walk.nil)|(apply AWP.ret)|(apply ACont_ret)
  | (refine W.cond _ rfl (fun hb => ?_) (fun hb => ?_) <;> ((try simp only [hb, zA, zB]) <;> (try simp only [zC, zD, zE, zF, zG, zH, zI, zJ] at hb) <;> (try (exfalso; omega))))))
    exact Ends.i rfl rfl
end Go.Proofs.YtaclmbbiegklcaaDoor
end
section
/- A slice of data without elements: it may be nil or not. No program in sight. -/
namespace Go.Proofs.YtaclmbbiegklcaaDoor
open Go.RowKit
theorem acalls_empty {P : Program} {f : FuncId} {sz : Nat} {args : List AV} {r : AV} {own own' : List Ent} (h : ∀ (A : Option Addr) (c : Nat), c ≤ maxLen → ACalls P f (.d (.v (.slice A 0 c)) :: args) own r own') : ACalls P f (.d (.sl sz []) :: args) own r own' := fun F κ w vs ho hsat => by
  cases vs with
  | nil => simp [AV.satL] at hsat
  | cons v vs =>
    rw [AV.satL] at hsat
    obtain ⟨h1, h2⟩ := hsat
    rw [AV.sat, Dat.sat] at h1
    obtain ⟨A, c, rfl, _, h4, _⟩ := h1
    exact h A c h4 F κ w _ ho (by rw [AV.satL]; exact ⟨sat_v.2 rfl, h2⟩)
theorem AVle.empty {A : Option Addr} {c : Nat} (h : c ≤ maxLen) (sz : Nat) : AVle (.d (.v (.slice A 0 c))) (.d (.sl sz [])) := fun F own κ w u hs => by
  rw [sat_v] at hs
  subst hs
  rw [AV.sat, Dat.sat]
  exact ⟨A, c, rfl, Nat.zero_le _, h, fun h => by simp at h⟩
section
variable {P : Program} {m : Nat} {env : List (Nat × AV)} {own : List Ent} {dst : Option Tmp} {ty : TypeId} {pos : String} {af : Array Edge} {gd : Option (Nat × Bool)}
theorem q_eqnilV {t t' : TypeId} {x y : Operand} {A : Option Addr} {n c : Nat} (hx : lookO env x = .d (.v (.slice A n c))) (hy : lookO env y = .d (.v (.slice none 0 0))) (ht : isSl P t = true) :
    Quiet P m ⟨dst, .binOp .eql t x y t', ty, pos, af, gd⟩ env own [] (bV A.isNone) := q_bin hx hy fun w => by
  obtain ⟨e, he⟩ := isSl_spec ht
  have h6 := Go.Lib.run_eql_slice_nil (P := P) w t e A n c 0 0 he
  have h5 : (eqGuard .eql t x y (.slice A n c) (.slice none 0 0)).run P w = .ok () w := by simp [eqGuard]
  simp only [Sem.run_bind, h5, Result.andThen_ok, h6]
end
end Go.Proofs.YtaclmbbiegklcaaDoor
end
section
/- Structs of numbers and texts, and of structs of such, compared. No program in sight. -/
namespace Go.Proofs.YtaclmbbiegklcaaDoor
open Go.RowKit
inductive Lf where
  | i (o : Nat)
  | s (o : Nat)
def fldsD (P : Program) : Nat → Nat → Nat → List Field → Option (List Lf)
  | 0, _, _, _ => none
  | n + 1, off, sz, [] => some []
  | n + 1, off, sz, f :: fs =>
    if f.name = "_" then none else
    match fldsD P n off sz fs with
    | none => none
    | some rest =>
      match P.underlying f.type with
      | some (.int _) => if f.offset < sz then some (.i (off + f.offset) :: rest) else none
      | some .string => if f.offset < sz then some (.s (off + f.offset) :: rest) else none
      | some (.struct fs2) => if P.stoodInHeld f.type then none else
        match P.info? f.type with
        | none => none
        | some inf => if f.offset + inf.size ≤ sz then (match fldsD P n (off + f.offset) inf.size fs2.toList with | some l => some (l ++ rest) | none => none) else none
      | _ => none
def eqLf (xs ys : Array Value) : List Lf → Option Bool
  | [] => some true
  | .i o :: os => match xs[o]?, ys[o]?, eqLf xs ys os with
    | some (.int k a), some (.int k' b), some r => if k = k' then some (decide (a = b) && r) else none
    | _, _, _ => none
  | .s o :: os => match xs[o]?, ys[o]?, eqLf xs ys os with
    | some (.string a), some (.string b), some r => some ((a.toList == b.toList) && r)
    | _, _, _ => none
theorem eqLf_app {xs ys : Array Value} : ∀ {A B : List Lf} {b : Bool}, eqLf xs ys (A ++ B) = some b → ∃ b1 b2, eqLf xs ys A = some b1 ∧ eqLf xs ys B = some b2 ∧ b = (b1 && b2)
  | [], B, b, h => ⟨true, b, rfl, h, by simp⟩
  | .i o :: A, B, b, h => by
    simp only [List.cons_append, eqLf] at h ⊢
    split at h
    · rename_i k a k' a' r h1 h2 h3
      split at h
      · rename_i hk
        obtain ⟨b1, b2, e1, e2, rfl⟩ := eqLf_app h3
        rw [h1, h2, e1]
        simp only [Option.some.injEq] at h
        exact ⟨decide (a = a') && b1, b2, by simp [hk], e2, by rw [← h, Bool.and_assoc]⟩
      · cases h
    · cases h
  | .s o :: A, B, b, h => by
    simp only [List.cons_append, eqLf] at h ⊢
    split at h
    · rename_i a a' r h1 h2 h3
      obtain ⟨b1, b2, e1, e2, rfl⟩ := eqLf_app h3
      rw [h1, h2, e1]
      simp only [Option.some.injEq] at h
      exact ⟨(a.toList == a'.toList) && b1, b2, rfl, e2, by rw [← h, Bool.and_assoc]⟩
    · cases h
theorem run_eqD {P : Program} {w : World} : ∀ (n d off sz : Nat) (fs : List Field) (os : List Lf) (xs ys X Y : Array Value) (b : Bool), fldsD P n off sz fs = some os → (∀ i, i < sz → X[i]? = xs[off + i]?) → (∀ i, i < sz → Y[i]? = ys[off + i]?) → eqLf xs ys os = some b → (Op.eqFields (d + n) X Y fs).run P w = .ok b w
  | 0, d, off, sz, fs, os, xs, ys, X, Y, b, h, hX, hY, hb => by simp [fldsD] at h
  | n + 1, d, off, sz, [], os, xs, ys, X, Y, b, h, hX, hY, hb => by
    simp only [fldsD, Option.some.injEq] at h
    subst h
    simp only [eqLf, Option.some.injEq] at hb
    subst hb
    rfl
  | n + 1, d, off, sz, f :: fs, os, xs, ys, X, Y, b, h, hX, hY, hb => by
    simp only [fldsD] at h
    split at h
    · cases h
    · rename_i hne
      split at h
      · cases h
      · rename_i rest hrest
        have tail : ∀ r, eqLf xs ys rest = some r → (Op.eqFields (d + (n + 1)) X Y fs).run P w = .ok r w := fun r hr => by
          have := run_eqD (w := w) n (d + 1) off sz fs rest xs ys X Y r hrest hX hY hr
          rwa [show d + 1 + n = d + (n + 1) by omega] at this
        have fin : ∀ (a c : Value) (q r : Bool), (part f.type X f.offset).run P w = .ok a w → (part f.type Y f.offset).run P w = .ok c w → (Op.equalIn (d + (n + 1)) f.type a c).run P w = .ok q w → eqLf xs ys rest = some r → (Op.eqFields (d + (n + 1)) X Y (f :: fs)).run P w = .ok (q && r) w := fun a c q r e1 e2 e3 hr => by
          simp only [Op.eqFields, hne, ne_eq, not_false_eq_true, if_true, Sem.run_bind, e1, e2, e3, Result.andThen_ok, Sem.run_ite]
          cases q with
          | true => simpa using tail r hr
          | false => simp
        split at h
        · rename_i k hk
          split at h
          · rename_i hlt
            obtain rfl : Lf.i (off + f.offset) :: rest = os := by simpa using h
            simp only [eqLf] at hb
            split at hb
            · rename_i k1 a k2 c r h1 h2 h3
              split at hb
              · rename_i hkk
                subst hkk
                obtain rfl : (decide (a = c) && r) = b := by simpa using hb
                have hia : (isAgg f.type).run P w = .ok false w := by simp [isAgg, run_underlying hk]
                refine fin (.int k1 a) (.int k1 c) (decide (a = c)) r (by simp [part, hia, hX _ hlt, h1]) (by simp [part, hia, hY _ hlt, h2]) ?_ h3
                rw [show d + (n + 1) = (d + n) + 1 by omega, run_equalIn_int w (d + n) f.type k1 k a c hk]
                congr 1
              · cases hb
            · cases hb
          · cases h
        · rename_i hk
          split at h
          · rename_i hlt
            obtain rfl : Lf.s (off + f.offset) :: rest = os := by simpa using h
            simp only [eqLf] at hb
            split at hb
            · rename_i a c r h1 h2 h3
              obtain rfl : ((a.toList == c.toList) && r) = b := by simpa using hb
              have hia : (isAgg f.type).run P w = .ok false w := by simp [isAgg, run_underlying hk]
              refine fin (.string a) (.string c) (a.toList == c.toList) r (by simp [part, hia, hX _ hlt, h1]) (by simp [part, hia, hY _ hlt, h2]) ?_ h3
              rw [show d + (n + 1) = (d + n) + 1 by omega, run_equalIn_string w (d + n) f.type a c hk]
            · cases hb
          · cases h
        · rename_i fs2 hk
          split at h
          · cases h
          · rename_i hst
            split at h
            · cases h
            · rename_i inf hi
              split at h
              · rename_i hfit
                split at h
                · rename_i l hl
                  obtain rfl : l ++ rest = os := by simpa using h
                  obtain ⟨b1, b2, g1, g2, rfl⟩ := eqLf_app hb
                  have hia : (isAgg f.type).run P w = .ok true w := by simp [isAgg, run_underlying hk]
                  have hsz : (sizeOf f.type).run P w = .ok inf.size w := by simp [sizeOf, typeInfo, hi]
                  have hfo : P.fieldsOf f.type = fs2 := by simp [Program.fieldsOf, hk]
                  refine fin (.agg (X.extract f.offset (f.offset + inf.size))) (.agg (Y.extract f.offset (f.offset + inf.size))) b1 b2 (by simp [part, hia, hsz]) (by simp [part, hia, hsz]) ?_ g2
                  rw [show d + (n + 1) = (d + n) + 1 by omega, run_equalIn_struct w (d + n) f.type _ _ (by rw [hfo]; exact hk) (by simpa using hst), hfo]
                  refine run_eqD n d (off + f.offset) inf.size fs2.toList l xs ys _ _ b1 hl (fun i hi => ?_) (fun i hi => ?_) g1
                  · have := hX (f.offset + i) (by omega)
                    rw [show off + f.offset + i = off + (f.offset + i) by omega, ← this, Array.getElem?_extract]
                    split
                    · rfl
                    · rename_i hne2
                      rw [Array.getElem?_eq_none (by omega)]
                  · have := hY (f.offset + i) (by omega)
                    rw [show off + f.offset + i = off + (f.offset + i) by omega, ← this, Array.getElem?_extract]
                    split
                    · rfl
                    · rename_i hne2
                      rw [Array.getElem?_eq_none (by omega)]
                · cases h
              · cases h
        · cases h
def fldsT (P : Program) (t : TypeId) : Option (List Lf) :=
  match P.underlying t, P.info? t with
  | some (.struct fs), some inf => if P.stoodInHeld t || P.eqGuardType P.depth t then none else fldsD P 30 0 inf.size fs.toList
  | _, _ => none
theorem run_eqT {P : Program} {t : TypeId} {os : List Lf} (h : fldsT P t = some os) {xs ys : Array Value} {b : Bool} (hb : eqLf xs ys os = some b) (x y : Operand) (w : World) :
    (do eqGuard .eql t x y (.agg xs) (.agg ys); binOp .eql t (.agg xs) (.agg ys) : Sem Value).run P w = .ok (.bool b) w ∧ (do eqGuard .neq t x y (.agg xs) (.agg ys); binOp .neq t (.agg xs) (.agg ys) : Sem Value).run P w = .ok (.bool (!b)) w := by
  unfold fldsT at h
  split at h
  · rename_i fs inf hu hi
    split at h
    · cases h
    · rename_i hc
      simp only [Bool.or_eq_true, not_or, Bool.not_eq_true] at hc
      have hfo : P.fieldsOf t = fs := by simp [Program.fieldsOf, hu]
      have e := run_eqD (P := P) (w := w) 30 9969 0 inf.size fs.toList os xs ys xs ys b h (fun i _ => by rw [Nat.zero_add]) (fun i _ => by rw [Nat.zero_add]) hb
      have e2 : (Op.equalIn 10000 t (.agg xs) (.agg ys)).run P w = .ok b w := by
        rw [run_equalIn_struct w 9999 t xs ys (by rw [hfo]; exact hu) hc.1, hfo]; exact e
      constructor
      · rw [Sem.run_bind, run_eqGuard_agg _ _ _ _ _ _ _ hc.2, Result.andThen_ok, run_eql_struct, e2]; rfl
      · rw [Sem.run_bind, run_eqGuard_agg _ _ _ _ _ _ _ hc.2, Result.andThen_ok, run_neq_struct, e2]; rfl
  · cases h
section
variable {P : Program} {m : Nat} {dst : Option Tmp} {ty : TypeId} {pos : String} {af : Array Edge} {env : List (Nat × AV)} {own : List Ent} {gd : Option (Nat × Bool)}
theorem q_eqT {t t' : TypeId} {os : List Lf} {x y : Operand} {l1 l2 : List AV} {vs1 vs2 : List Value} {b b' : Bool} (hf : fldsT P t = some os) (hx : lookO env x = .agg l1) (hy : lookO env y = .agg l2) (h1 : l1.mapM valA = some vs1) (h2 : l2.mapM valA = some vs2) (hb : eqLf vs1.toArray vs2.toArray os = some b) (he : b = b') :
    Quiet P m ⟨dst, .binOp .eql t x y t', ty, pos, af, gd⟩ env own [] (bV b') := Quiet.val fun F own' κ a w hs _ _ _ => by
  subst he
  have g1 := hs x (by simp [Op.operands]); rw [hx] at g1
  have g2 := hs y (by simp [Op.operands]); rw [hy] at g2
  refine ⟨.bool b, exec_v ?_, sat_v.2 rfl⟩
  rw [valL_eq h1 g1, valL_eq h2 g2]; exact (run_eqT hf hb x y w).1
theorem q_neT {t t' : TypeId} {os : List Lf} {x y : Operand} {l1 l2 : List AV} {vs1 vs2 : List Value} {b b' : Bool} (hf : fldsT P t = some os) (hx : lookO env x = .agg l1) (hy : lookO env y = .agg l2) (h1 : l1.mapM valA = some vs1) (h2 : l2.mapM valA = some vs2) (hb : eqLf vs1.toArray vs2.toArray os = some b) (he : (!b) = b') :
    Quiet P m ⟨dst, .binOp .neq t x y t', ty, pos, af, gd⟩ env own [] (bV b') := Quiet.val fun F own' κ a w hs _ _ _ => by
  subst he
  have g1 := hs x (by simp [Op.operands]); rw [hx] at g1
  have g2 := hs y (by simp [Op.operands]); rw [hy] at g2
  refine ⟨.bool (!b), exec_v ?_, sat_v.2 rfl⟩
  rw [valL_eq h1 g1, valL_eq h2 g2]; exact (run_eqT hf hb x y w).2
end
end Go.Proofs.YtaclmbbiegklcaaDoor
end
section
/- The machine of abstract values: a nil slice as an empty row of any version; a store into a field of an element. -/
namespace Go.Proofs.YtaclmbbiegklcaaDoor
open Go.RowKit
section
variable {P : Program} {Γ : Ctx} {n m : Nat} {c : Code} {Q : Exit → St → Prop} {env : List (Nat × AV)} {own : List Ent}
end
theorem acalls_nilrow {P : Program} {f : FuncId} {args : List AV} {own own' : List Ent} (v sz : Nat) (e : TypeId) (hs : 0 < sz) (h : ACalls P f args own (.d (.v (.slice none 0 0))) own') : ACalls P f args own (.osl own'.length v 0 0) (own' ++ [.row v sz e []]) := fun F κ w vs ho hsat =>
  (h F κ w vs ho hsat).mono fun ex w' ⟨u, κ', h1, h2, h3, h4⟩ => by
    rw [sat_v] at h2
    have hle : own.length ≤ κ'.length := h4.pre (by rw [← ho.len]; exact Nat.le_refl _)
    obtain ⟨g1, g2⟩ := step_push (m := own.length) (x := .row v sz e []) (og := none) (w' := w') hle h3 rfl rfl rfl (Nat.le_refl _) (fun _ _ => rfl) (.inl rfl) (fun hst => ⟨hs, .inl ⟨rfl, rfl⟩⟩)
    refine ⟨u, κ' ++ [none], h1, ?_, g1, h4.trans g2⟩
    rw [h2, AV.sat]
    refine ⟨⟨.row v sz e [], by rw [List.getElem?_concat_length], Nat.le_refl _, rfl⟩, fun sz2 e2 c2 hcc => ?_⟩
    rw [List.getElem?_concat_length] at hcc
    obtain ⟨rfl, rfl, rfl⟩ : sz = sz2 ∧ e = e2 ∧ [] = c2 := by simpa using hcc
    refine ⟨by simp, none, 0, rfl, Nat.le_refl _, by simp [maxLen], fun _ => .inr ⟨?_, rfl, rfl⟩⟩
    have hl : own'.length = κ'.length := h3.len
    rw [hl, List.getElem?_concat_length]
section
variable {P : Program} {m : Nat} {env : List (Nat × AV)} {own : List Ent} {dst : Option Tmp} {ty : TypeId} {pos : String} {af : Array Edge} {gd : Option (Nat × Bool)}
theorem e_st_rptF {α : Type} {f : α → List Dat} {l : List α} {t : TypeId} {x y : Operand} {i ver j o sz : Nat} {e : TypeId} {d : Dat} {own' : List Ent} (v : α) (hx : lookO env x = .rpt i ver j o) (hi : own[i]? = some (.row ver sz e (l.map f))) (ht : tyInfo P t = some (false, 1)) (hy : cellsD (lookO env y) = some [d]) (h1 : oneA (.d d) = true) (hj : j < l.length) (hv : f v = (f l[j]).set o d) (ho2 : Nat.blt o sz = true) (ho' : setF own i (.row ver sz e ((l.set j v).map f)) = some own') :
    Eff P m ⟨dst, .store t x y, ty, pos, af, gd⟩ env own [i] (.d (.v undef)) own' := by
  have ho2 : o < sz := Nat.le_of_ble_eq_true ho2
  have := e_st_rpt (P := P) (m := m) (dst := dst) (ty := ty) (pos := pos) (af := af) (gd := gd) (c := f l[j]) ht rfl hx hi (by rw [List.getElem?_map, List.getElem?_eq_getElem hj]; rfl) ho2 hy h1
  have e1 : (l.map f).set j ((f l[j]).set o d) = (l.set j v).map f := by
    rw [List.map_set, hv]
  rw [setF_spec ho']
  rwa [e1] at this
theorem q_fld_rptF {s f off o' : Nat} {t : TypeId} {x : Operand} {i ver j o sz : Nat} {e : TypeId} {l : List (List Dat)} (hx : lookO env x = .rpt i ver j o) (hi : own[i]? = some (.row ver sz e l)) (h : fldInfo P s f = some (off, t)) (hn : natF (o + off) = some o') : Quiet P m ⟨dst, .fieldAddr s x f, ty, pos, af, gd⟩ env own [i] (.rpt i ver j o') := by
  rw [natF_spec hn]; exact q_fld_rpt h hx hi
theorem q_nil_rpt {x : Operand} {i ver j o sz : Nat} {e : TypeId} {l : List (List Dat)} (hx : lookO env x = .rpt i ver j o) (hi : own[i]? = some (.row ver sz e l)) : Quiet P m ⟨dst, .nilCheck x, ty, pos, af, gd⟩ env own [i] (.rpt i ver j o) :=
  Quiet.val fun F own' κ a w hs _ hsame _ => by
    have h1 := hs x (by simp [Op.operands]); rw [hx] at h1
    have h2 := h1
    rw [AV.sat] at h1
    have hp' : own'[i]? = some (.row ver sz e l) := by rw [hsame i (by simp)]; exact hi
    obtain ⟨_, g, h3, h4⟩ := h1.2 sz e l hp'
    refine ⟨a.eval x, ?_, h2⟩
    simp only [execOp]
    rw [h4]
    rfl
end
end Go.Proofs.YtaclmbbiegklcaaDoor
end
section
/- Layer 30: the data of a library; codelang.Check of any code. -/
namespace Go.Proofs.YtaclmbbiegklcaaDoor
open Go.RowKit
set_option maxHeartbeats 4000000
set_option maxRecDepth 100000
theorem wrap_sum {a : Int} {n : Nat} (ha : 1 ≤ a ∧ a ≤ 31) (hn : n ≤ 9223372036854775807) : (a + (n : Int) < 9223372036854775808 ∧ IntKind.i64.wrap (a + (n : Int)) = a + (n : Int)) ∨ (9223372036854775808 ≤ a + (n : Int) ∧ IntKind.i64.wrap (a + (n : Int)) < 0) := by
  by_cases h : a + (n : Int) < 9223372036854775808
  · exact .inl ⟨h, wrap_in ⟨by omega, h⟩⟩
  · refine .inr ⟨by omega, ?_⟩
    rw [IntKind.wrap_i64]; omega
section
variable {P : Program} {m : Nat} {env : List (Nat × AV)} {own : List Ent} {dst : Option Tmp} {ty : TypeId} {pos : String} {af : Array Edge} {gd : Option (Nat × Bool)}
theorem q_addV (wd : Int) {t t' : TypeId} {x y : Operand} {a b : Int} (hx : lookO env x = iV a) (hy : lookO env y = iV b) (h : IntKind.i64.wrap (a + b) = wd) :
    Quiet P m ⟨dst, .binOp .add t x y t', ty, pos, af, gd⟩ env own [] (iV wd) := by
  subst h; exact q_addw hx hy
end
attribute [local irreducible] Quiet Eff OpOk AWPG ACont ABlock ACalls AGoto
theorem A_lcheckG {nm : List Nat} {M D dom : Int} {par : List (List Int)} (hn : isB nm) (hnl : nm.length < 9223372036854775808) (hP : par.length ≤ 9223372036854775807) :
    ∃ e : Int, ACalls Tryd.prog 37 [cdF nm M D par dom] [] (iV e) [] ∧ (e = 0 ↔ chkC nm M D par dom = true) := by
  have hW := A_isWord hn hnl
  have hI := A_isField M
  have hmp : (par.map rD).length = par.length := List.length_map _
  obtain ⟨wd, hWe⟩ : ∃ wd, IntKind.i64.wrap (D + ((par.map rD).length : Int)) = wd := ⟨_, rfl⟩
  by_cases c1 : wordB nm = true
  case neg =>
    have c1 := Bool.eq_false_iff.2 c1
    refine ⟨4, ?_, by unfold chkC; rw [c1]; simp⟩
    rw [c1] at hW
    refine acalls_of_body Tryd.func37 rfl (Nat.le_of_ble_eq_true rfl) ?_
    (repeat' (first
  | (apply W.qd; (first
    | ((apply (q_addV wd); exact rfl; exact rfl; assumption))|(apply (q_callC (hW)); exact rfl; exact rfl; kernel_rfl; kernel_rfl; kernel_rfl)|(apply q_as; (first|exact vD|exact vO|exact vP|exact vA|exact vF|exact vR|exact vN|exact vY|exact vT|exact vM|exact vL|exact vX))|(apply q_fld_optF; (iterate 3 exact rfl))|(apply q_ld_box; (iterate 4 exact rfl))|(apply q_not; exact rfl)
    | (apply q_len_sl; exact rfl; exact rfl)))|(apply W.ed; (apply e_boxF; (iterate 3 exact rfl); kernel_rfl; kernel_rfl))|(apply AWP.seq)|(apply ACont_normal)|(apply W.region; kernel_rfl)|(apply Walk.nil)|(apply AWP.block)|(apply AWP.ret)|(apply ACont_ret)|(apply ABlock_ret)
  | (apply W.condT; exact rfl)))
    exact Ends.i rfl rfl
  rw [c1] at hW
  by_cases c2 : nm.length ≤ 12
  case neg =>
    refine ⟨2, ?_, by unfold chkC; rw [decide_eq_false c2]; simp⟩
    refine acalls_of_body Tryd.func37 rfl (Nat.le_of_ble_eq_true rfl) ?_
    (repeat' (first
  | (apply W.qd; (first
    | ((apply (q_addV wd); exact rfl; exact rfl; assumption))|(apply (q_callC (hW)); exact rfl; exact rfl; kernel_rfl; kernel_rfl; kernel_rfl)|(apply q_as; (first|exact vD|exact vO|exact vP|exact vA|exact vF|exact vR|exact vN|exact vY|exact vT|exact vM|exact vL|exact vX))|(apply q_fld_optF; (iterate 3 exact rfl))|(apply q_ld_box; (iterate 4 exact rfl))|(apply q_gtr; exact rfl; exact rfl)|(apply q_not; exact rfl)|(apply q_len_sl; exact rfl; exact rfl)
    | (apply q_len_bs; exact rfl; exact rfl)))|(apply W.ed; (apply e_boxF; (iterate 3 exact rfl); kernel_rfl; kernel_rfl))|(apply AWP.seq)|(apply ACont_normal)|(apply W.region; kernel_rfl)|(apply Walk.nil)|(apply AWP.block)|(apply AWP.ret)|(apply ACont_ret)|(apply ABlock_ret)|(apply W.condF; exact rfl)
  | (refine W.cond _ rfl (fun hb => ?_) (fun hb => ?_) <;> ((try simp only [hb, zA, zB]) <;> (try simp only [zC, zD, zE, zF, zG, zH, zI, zJ] at hb) <;> (try (exfalso; omega))))))
    exact Ends.i rfl rfl
  by_cases c3 : (M = 8 ∨ M = 16) ∧ 1 ≤ D ∧ D ≤ 31 ∧ par.length ≠ 0
  case neg =>
    refine ⟨1, ?_, ?_⟩
    · refine acalls_of_body Tryd.func37 rfl (Nat.le_of_ble_eq_true rfl) ?_
      (repeat' (first
  | (apply W.gOn; exact rfl; exact rfl)
  | (apply W.qd; (first
    | ((apply (q_addV wd); exact rfl; exact rfl; assumption))|(apply (q_callC (hW)); exact rfl; exact rfl; kernel_rfl; kernel_rfl; kernel_rfl)|(apply (q_callC (hI)); exact rfl; exact rfl; kernel_rfl; kernel_rfl; kernel_rfl)|(apply q_mv; (first|exact vD|exact vO|exact vP|exact vA|exact vF|exact vR|exact vN|exact vY|exact vT|exact vM|exact vL|exact vX))|(apply q_as; (first|exact vD|exact vO|exact vP|exact vA|exact vF|exact vR|exact vN|exact vY|exact vT|exact vM|exact vL|exact vX))|(apply q_fld_optF; (iterate 3 exact rfl))|(apply q_ld_box; (iterate 4 exact rfl))|(apply q_lss; exact rfl; exact rfl)|(apply q_gtr; exact rfl; exact rfl)|(apply q_eql; exact rfl; exact rfl)|(apply q_not; exact rfl)|(apply q_len_sl; exact rfl; exact rfl)|(apply q_len_bs; exact rfl; exact rfl)|(apply (q_pickT (u := .d _)); exact rfl; exact rfl)
    | (apply (q_pickF (u := .d _)); exact rfl; exact rfl)))|(apply W.ed; (apply e_boxF; (iterate 3 exact rfl); kernel_rfl; kernel_rfl))|(refine W.gOff _ _ rfl rfl (by intro h; cases h) ?_)|(apply AWP.seq)|(apply ACont_normal)|(apply W.region; kernel_rfl)|(apply Walk.nil)|(apply AWP.block)|(apply AWP.ret)|(apply ACont_ret)|(apply ABlock_ret)|(apply W.condT; exact rfl)|(apply W.condF; exact rfl)|(refine W.gF _ _ rfl rfl (fun hb => ?_) (fun hb => ?_) <;> ((try simp only [hb, zA, zB]) <;> (try simp only [zC, zD, zE, zF, zG, zH, zI, zJ] at hb) <;> (try (exfalso; omega))))
  | (refine W.cond _ rfl (fun hb => ?_) (fun hb => ?_) <;> ((try simp only [hb, zA, zB]) <;> (try simp only [zC, zD, zE, zF, zG, zH, zI, zJ] at hb) <;> (try (exfalso; omega))))))
      all_goals first | exact Ends.i rfl rfl | (exfalso; apply c3; refine ⟨by assumption, by omega, by omega, by omega⟩)
    · refine ⟨fun h => by omega, fun h => ?_⟩
      unfold chkC at h
      simp only [Bool.and_eq_true, decide_eq_true_eq] at h
      exact absurd ⟨h.1.1.2.1.1.1.1, h.1.1.2.1.1.1.2, h.1.1.2.1.1.2, h.1.1.2.1.2⟩ c3
  obtain ⟨c3, c4, c5, c6⟩ := c3
  rw [decide_eq_true c3] at hI
  have hWv := wrap_sum (a := D) (n := par.length) (by omega) hP
  rw [← hmp, hWe, hmp] at hWv
  by_cases c7 : wd ≤ 32
  case neg =>
    refine ⟨2, ?_, by unfold chkC; rw [decide_eq_false (show ¬ D + (par.length : Int) ≤ 32 by omega)]; simp⟩
    refine acalls_of_body Tryd.func37 rfl (Nat.le_of_ble_eq_true rfl) ?_
    (repeat' (first
  | (apply W.gOn; exact rfl; exact rfl)
  | (apply W.qd; (first
    | ((apply (q_addV wd); exact rfl; exact rfl; assumption))|(apply (q_callC (hW)); exact rfl; exact rfl; kernel_rfl; kernel_rfl; kernel_rfl)|(apply (q_callC (hI)); exact rfl; exact rfl; kernel_rfl; kernel_rfl; kernel_rfl)|(apply q_mv; (first|exact vD|exact vO|exact vP|exact vA|exact vF|exact vR|exact vN|exact vY|exact vT|exact vM|exact vL|exact vX))|(apply q_as; (first|exact vD|exact vO|exact vP|exact vA|exact vF|exact vR|exact vN|exact vY|exact vT|exact vM|exact vL|exact vX))|(apply q_fld_optF; (iterate 3 exact rfl))|(apply q_ld_box; (iterate 4 exact rfl))|(apply q_lss; exact rfl; exact rfl)|(apply q_gtr; exact rfl; exact rfl)|(apply q_eql; exact rfl; exact rfl)|(apply q_not; exact rfl)|(apply q_len_sl; exact rfl; exact rfl)|(apply q_len_bs; exact rfl; exact rfl)
    | (apply (q_pickF (u := .d _)); exact rfl; exact rfl)))|(apply W.ed; (apply e_boxF; (iterate 3 exact rfl); kernel_rfl; kernel_rfl))|(apply AWP.seq)|(apply ACont_normal)|(apply W.region; kernel_rfl)|(apply Walk.nil)|(apply AWP.block)|(apply AWP.ret)|(apply ACont_ret)|(apply ABlock_ret)|(apply W.condF; exact rfl)|(refine W.gF _ _ rfl rfl (fun hb => ?_) (fun hb => ?_) <;> ((try simp only [hb, zA, zB]) <;> (try simp only [zC, zD, zE, zF, zG, zH, zI, zJ] at hb) <;> (try (exfalso; omega))))
  | (refine W.cond _ rfl (fun hb => ?_) (fun hb => ?_) <;> ((try simp only [hb, zA, zB]) <;> (try simp only [zC, zD, zE, zF, zG, zH, zI, zJ] at hb) <;> (try (exfalso; omega))))))
    exact Ends.i rfl rfl
  have hall : ∀ e : Int, (par.all (rowOk M D) = false → e = 1) → (par.all (rowOk M D) = true → e = if 1 ≤ dom ∧ dom ≤ wd then 0 else 1) → ACalls Tryd.prog 37 [cdF nm M D par dom] [] (iV e) [] := fun e he0 he1 => by
    refine acalls_of_body Tryd.func37 rfl (Nat.le_of_ble_eq_true rfl) ?_
    (repeat' (first
  | (apply W.gOn; exact rfl; exact rfl)
  | (apply W.qd; (first
    | ((apply (q_addV wd); exact rfl; exact rfl; assumption))|(apply (q_callC (hW)); exact rfl; exact rfl; kernel_rfl; kernel_rfl; kernel_rfl)|(apply (q_callC (hI)); exact rfl; exact rfl; kernel_rfl; kernel_rfl; kernel_rfl)|(apply q_mv; (first|exact vD|exact vO|exact vP|exact vA|exact vF|exact vR|exact vN|exact vY|exact vT|exact vM|exact vL|exact vX))|(apply q_as; (first|exact vD|exact vO|exact vP|exact vA|exact vF|exact vR|exact vN|exact vY|exact vT|exact vM|exact vL|exact vX))|(apply q_fld_optF; (iterate 3 exact rfl))|(apply q_ld_box; (iterate 4 exact rfl))|(apply q_lss; exact rfl; exact rfl)|(apply q_gtr; exact rfl; exact rfl)|(apply q_eql; exact rfl; exact rfl)|(apply q_not; exact rfl)|(apply q_len_sl; exact rfl; exact rfl)|(apply q_len_bs; exact rfl; exact rfl)
    | (apply (q_pickF (u := .d _)); exact rfl; exact rfl)))|(apply W.ed; (apply e_boxF; (iterate 3 exact rfl); kernel_rfl; kernel_rfl))|(apply AWP.seq)|(apply ACont_normal)|(apply (W.regionS 11); exact rfl; kernel_rfl)|(apply Walk.nil)|(apply AWP.block)|(apply AWP.skip)|(apply ABlock_normal)|(apply W.condF; exact rfl)|(refine W.gF _ _ rfl rfl (fun hb => ?_) (fun hb => ?_) <;> ((try simp only [hb, zA, zB]) <;> (try simp only [zC, zD, zE, zF, zG, zH, zI, zJ] at hb) <;> (try (exfalso; omega))))
  | (refine W.cond _ rfl (fun hb => ?_) (fun hb => ?_) <;> ((try simp only [hb, zA, zB]) <;> (try simp only [zC, zD, zE, zF, zG, zH, zI, zJ] at hb) <;> (try (exfalso; omega))))))
    refine AWP.loopW (α := Nat) (fun k => k ≤ par.length ∧ ∀ j, j < k → rowOk M D (par.getD j []) = true) (fun k => ⟨[(49, iV k), (48, iV par.length), (47, rowsA par), (3, iV wd), (1, .opt 0 0)], [.box [bS nm, iV M, iV D, rowsA par, iV dom]]⟩) (fun k => par.length - k) 0 ⟨Nat.zero_le _, fun j hj => by omega⟩ ?wk0 fun k hk => ?_
    case wk0 => exact ⟨[0], rfl, rfl, rfl, rfl, iV_eq (by omega), rfl, rfl, rfl, trivial⟩
    by_cases hkl : k < par.length
    · have eg : par.getD k [] = par[k] := by rw [List.getD_eq_getElem?_getD, List.getElem?_eq_getElem hkl]; rfl
      have hnext : rowOk M D par[k] = true → ∀ j, j < k + 1 → rowOk M D (par.getD j []) = true := fun h j hj => by
        by_cases e : j = k
        · subst e; rw [eg]; exact h
        · exact hk.2 j (by omega)
      have hbad : rowOk M D par[k] = false → e = 1 := fun h => he0 (by rw [List.all_eq_false]; exact ⟨par[k], List.getElem_mem hkl, by rw [h]; decide⟩)
      generalize hr : par[k] = r at hnext hbad
      have hmr : (r.map iD).length = r.length := List.length_map _
      by_cases hrl : (r.length : Int) = D
      · have h0 : 0 < r.length := by omega
        have hmn := A_minI h0 (by omega)
        have hmx := A_maxI h0 (by omega)
        have hro := rowOk_min (M := M) c3 hrl h0
        generalize minK r (r.length - 1) = mn at *
        generalize maxK r (r.length - 1) = mx at *
        rw [← hr] at hmn hmx hrl
        clear he0 he1 hk
        rcases c3 with rfl | rfl
        · rw [if_pos rfl] at hro
          have hsh := fun h => shr8 (x := mx) h
          replace hro := Lib.hid hro
          (repeat' (first
  | (apply W.gOn; exact rfl; exact rfl)
  | (apply W.qd; (first
    | (apply (q_callC (hmn)); exact rfl; exact rfl; kernel_rfl; kernel_rfl; kernel_rfl)|(apply (q_callC (hmx)); exact rfl; exact rfl; kernel_rfl; kernel_rfl; kernel_rfl)|(apply q_mv; (first|exact vD|exact vO|exact vP|exact vA|exact vF|exact vR|exact vN|exact vY|exact vT|exact vM|exact vL|exact vX))|(apply q_as; (first|exact vD|exact vO|exact vP|exact vA|exact vF|exact vR|exact vN|exact vY|exact vT|exact vM|exact vL|exact vX))|(apply q_fld_optF; (iterate 3 exact rfl))|(apply q_ld_box; (iterate 4 exact rfl))|(apply q_lss; exact rfl; exact rfl)|(apply q_gtr; exact rfl; exact rfl)|(apply q_neq; exact rfl; exact rfl)|(apply q_add; exact rfl; exact rfl; omega)|(apply q_len_sl; exact rfl; exact rfl)|(apply q_ld_map; (iterate 3 exact rfl); (first | omega | (focus (simp; done))))|(apply q_ix_slF; (iterate 4 exact rfl); (first | (with_reducible exact rfl) | exact natI_spec rfl | assumption | exact (Int.toNat_of_nonneg (by omega)).symm); (first | omega | (focus (simp only [List.length_map]; omega)) | (focus (simp; done)) | (focus (simp; omega))))|(apply (q_pickT (u := .d _)); exact rfl; exact rfl)|(apply (q_pickF (u := .d _)); exact rfl; exact rfl)
    | (apply q_shrN; exact rfl; exact rfl; (first | (with_reducible exact rfl) | exact natI_spec rfl | assumption | exact (Int.toNat_of_nonneg (by omega)).symm); (first | (with_reducible exact rfl) | exact natI_spec rfl | assumption | exact (Int.toNat_of_nonneg (by omega)).symm); focus (show _ ≤ 64; omega))))|(refine W.gOff _ _ rfl rfl (by intro h; cases h) ?_)|(apply AWP.seq)|(apply ACont_normal)|(apply W.region; kernel_rfl)|(apply W.regionD; exact rfl; kernel_rfl)|(apply Walk.nil)|(apply W.chk; kernel_rfl)|(apply AWP.block)|(apply AWP.skip)|(apply AWP.ret)|(apply ACont_ret)|(apply ABlock_normal)|(apply ABlock_ret)|(apply W.condT; exact rfl)|(refine W.gF _ _ rfl rfl (fun hb => ?_) (fun hb => ?_) <;> ((try simp only [hb, zA, zB]) <;> (try simp only [zC, zD, zE, zF, zG, zH, zI, zJ] at hb) <;> (try (exfalso; omega))))
  | (refine W.cond _ rfl (fun hb => ?_) (fun hb => ?_) <;> ((try simp only [hb, zA, zB]) <;> (try simp only [zC, zD, zE, zF, zG, zH, zI, zJ] at hb) <;> (try (exfalso; omega))))))
          all_goals first
            | (refine Ends.i rfl (hbad ?_).symm; rw [hro.out, Bool.and_eq_false_iff, Bool.and_eq_false_iff, decide_eq_false_iff_not, decide_eq_false_iff_not, decide_eq_false_iff_not]; omega)|(refine ⟨k + 1, ⟨by omega, hnext ?_⟩, by omega, [0], rfl, rfl, rfl, iV_eq (by omega), rfl, rfl, rfl, rfl, trivial⟩; rw [hro.out, Bool.and_eq_true, Bool.and_eq_true, decide_eq_true_eq, decide_eq_true_eq, decide_eq_true_eq]; omega)
        · rw [if_neg (by decide)] at hro
          have hsh := fun h => shr16 (x := mx) h
          replace hro := Lib.hid hro
          (repeat' (first
  | (apply W.gOn; exact rfl; exact rfl)
  | (apply W.qd; (first
    | (apply (q_callC (hmn)); exact rfl; exact rfl; kernel_rfl; kernel_rfl; kernel_rfl)|(apply (q_callC (hmx)); exact rfl; exact rfl; kernel_rfl; kernel_rfl; kernel_rfl)|(apply q_mv; (first|exact vD|exact vO|exact vP|exact vA|exact vF|exact vR|exact vN|exact vY|exact vT|exact vM|exact vL|exact vX))|(apply q_as; (first|exact vD|exact vO|exact vP|exact vA|exact vF|exact vR|exact vN|exact vY|exact vT|exact vM|exact vL|exact vX))|(apply q_fld_optF; (iterate 3 exact rfl))|(apply q_ld_box; (iterate 4 exact rfl))|(apply q_lss; exact rfl; exact rfl)|(apply q_gtr; exact rfl; exact rfl)|(apply q_neq; exact rfl; exact rfl)|(apply q_add; exact rfl; exact rfl; omega)|(apply q_len_sl; exact rfl; exact rfl)|(apply q_ld_map; (iterate 3 exact rfl); (first | omega | (focus (simp; done))))|(apply q_ix_slF; (iterate 4 exact rfl); (first | (with_reducible exact rfl) | exact natI_spec rfl | assumption | exact (Int.toNat_of_nonneg (by omega)).symm); (first | omega | (focus (simp only [List.length_map]; omega)) | (focus (simp; done)) | (focus (simp; omega))))|(apply (q_pickT (u := .d _)); exact rfl; exact rfl)|(apply (q_pickF (u := .d _)); exact rfl; exact rfl)
    | (apply q_shrN; exact rfl; exact rfl; (first | (with_reducible exact rfl) | exact natI_spec rfl | assumption | exact (Int.toNat_of_nonneg (by omega)).symm); (first | (with_reducible exact rfl) | exact natI_spec rfl | assumption | exact (Int.toNat_of_nonneg (by omega)).symm); focus (show _ ≤ 64; omega))))|(refine W.gOff _ _ rfl rfl (by intro h; cases h) ?_)|(apply AWP.seq)|(apply ACont_normal)|(apply W.region; kernel_rfl)|(apply W.regionD; exact rfl; kernel_rfl)|(apply Walk.nil)|(apply W.chk; kernel_rfl)|(apply AWP.block)|(apply AWP.skip)|(apply AWP.ret)|(apply ACont_ret)|(apply ABlock_normal)|(apply ABlock_ret)|(apply W.condT; exact rfl)|(refine W.gF _ _ rfl rfl (fun hb => ?_) (fun hb => ?_) <;> ((try simp only [hb, zA, zB]) <;> (try simp only [zC, zD, zE, zF, zG, zH, zI, zJ] at hb) <;> (try (exfalso; omega))))
  | (refine W.cond _ rfl (fun hb => ?_) (fun hb => ?_) <;> ((try simp only [hb, zA, zB]) <;> (try simp only [zC, zD, zE, zF, zG, zH, zI, zJ] at hb) <;> (try (exfalso; omega))))))
          all_goals first
            | (refine Ends.i rfl (hbad ?_).symm; rw [hro.out, Bool.and_eq_false_iff, Bool.and_eq_false_iff, decide_eq_false_iff_not, decide_eq_false_iff_not, decide_eq_false_iff_not]; omega)|(refine ⟨k + 1, ⟨by omega, hnext ?_⟩, by omega, [0], rfl, rfl, rfl, iV_eq (by omega), rfl, rfl, rfl, rfl, trivial⟩; rw [hro.out, Bool.and_eq_true, Bool.and_eq_true, decide_eq_true_eq, decide_eq_true_eq, decide_eq_true_eq]; omega)
      · have hb0 : e = 1 := hbad (by unfold rowOk; rw [decide_eq_false hrl]; rfl)
        rw [← hr] at hrl
        clear he0 he1 hk
        (repeat' (first
  | (apply W.qd; (first
    | (apply q_mv; (first|exact vD|exact vO|exact vP|exact vA|exact vF|exact vR|exact vN|exact vY|exact vT|exact vM|exact vL|exact vX))|(apply q_as; (first|exact vD|exact vO|exact vP|exact vA|exact vF|exact vR|exact vN|exact vY|exact vT|exact vM|exact vL|exact vX))|(apply q_fld_optF; (iterate 3 exact rfl))|(apply q_ld_box; (iterate 4 exact rfl))|(apply q_lss; exact rfl; exact rfl)|(apply q_neq; exact rfl; exact rfl)|(apply q_len_sl; exact rfl; exact rfl)|(apply q_ld_map; (iterate 3 exact rfl); (first | omega | (focus (simp; done))))|(apply q_ix_slF; (iterate 4 exact rfl); (first | (with_reducible exact rfl) | exact natI_spec rfl | assumption | exact (Int.toNat_of_nonneg (by omega)).symm); (first | omega | (focus (simp only [List.length_map]; omega)) | (focus (simp; done)) | (focus (simp; omega))))
    | (apply (q_pickT (u := .d _)); exact rfl; exact rfl)))|(refine W.gOff _ _ rfl rfl (by intro h; cases h) ?_)|(apply AWP.seq)|(apply ACont_normal)|(apply W.region; kernel_rfl)|(apply W.regionD; exact rfl; kernel_rfl)|(apply Walk.nil)|(apply W.chk; kernel_rfl)|(apply AWP.block)|(apply AWP.skip)|(apply AWP.ret)|(apply ACont_ret)|(apply ABlock_ret)|(apply W.condT; exact rfl)|(refine W.gF _ _ rfl rfl (fun hb => ?_) (fun hb => ?_) <;> ((try simp only [hb, zA, zB]) <;> (try simp only [zC, zD, zE, zF, zG, zH, zI, zJ] at hb) <;> (try (exfalso; omega))))
  | (refine W.cond _ rfl (fun hb => ?_) (fun hb => ?_) <;> ((try simp only [hb, zA, zB]) <;> (try simp only [zC, zD, zE, zF, zG, zH, zI, zJ] at hb) <;> (try (exfalso; omega))))))
        all_goals first | exact Ends.i rfl hb0.symm | (exfalso; omega)
    · have ha : par.all (rowOk M D) = true := by
        rw [List.all_eq_true]
        intro r hr
        obtain ⟨j, hj, rfl⟩ := List.getElem_of_mem hr
        have := hk.2 j (by omega)
        rwa [List.getD_eq_getElem?_getD, List.getElem?_eq_getElem hj] at this
      have he := he1 ha
      clear he0 he1 hk
      (repeat' (first
  | (apply W.gOn; exact rfl; exact rfl)
  | (apply W.qd; (first
    | (apply q_mv; (first|exact vD|exact vO|exact vP|exact vA|exact vF|exact vR|exact vN|exact vY|exact vT|exact vM|exact vL|exact vX))|(apply q_as; (first|exact vD|exact vO|exact vP|exact vA|exact vF|exact vR|exact vN|exact vY|exact vT|exact vM|exact vL|exact vX))|(apply q_fld_optF; (iterate 3 exact rfl))|(apply q_ld_box; (iterate 4 exact rfl))|(apply q_lss; exact rfl; exact rfl)|(apply q_gtr; exact rfl; exact rfl)|(apply (q_pickT (u := .d _)); exact rfl; exact rfl)
    | (apply (q_pickF (u := .d _)); exact rfl; exact rfl)))|(refine W.gOff _ _ rfl rfl (by intro h; cases h) ?_)|(apply AWP.seq)|(apply ACont_normal)|(apply W.region; kernel_rfl)|(apply Walk.nil)|(apply AWP.skip)|(apply AWP.exit)|(apply AWP.ret)|(apply ACont_exit)|(apply ACont_ret)|(apply ABlock_exit)|(apply W.condT; exact rfl)|(refine W.gF _ _ rfl rfl (fun hb => ?_) (fun hb => ?_) <;> ((try simp only [hb, zA, zB]) <;> (try simp only [zC, zD, zE, zF, zG, zH, zI, zJ] at hb) <;> (try (exfalso; omega))))
  | (refine W.cond _ rfl (fun hb => ?_) (fun hb => ?_) <;> ((try simp only [hb, zA, zB]) <;> (try simp only [zC, zD, zE, zF, zG, zH, zI, zJ] at hb) <;> (try (exfalso; omega))))))
      all_goals (refine Ends.i rfl ?_; rw [he]; first | (rw [if_pos (by omega)]; done) | (rw [if_neg (by omega)]; done))
  by_cases c8 : D + (par.length : Int) ≤ 32
  case neg =>
    refine ⟨1, hall 1 (fun _ => rfl) (fun _ => by rw [if_neg (by omega)]), by unfold chkC; rw [decide_eq_false c8]; simp⟩
  have hWq : wd = D + (par.length : Int) := by omega
  rw [hWq] at hall
  have hc : chkC nm M D par dom = (par.all (rowOk M D) && (decide (1 ≤ dom) && decide (dom ≤ D + (par.length : Int)))) := by
    unfold chkC
    rw [c1, decide_eq_true c2, decide_eq_true c3, decide_eq_true c4, decide_eq_true c5, decide_eq_true c6, decide_eq_true c8]
    rfl
  refine ⟨if par.all (rowOk M D) = true then (if 1 ≤ dom ∧ dom ≤ D + (par.length : Int) then 0 else 1) else 1, hall _ (fun h => by rw [h]; rfl) (fun h => by rw [if_pos h]), ?_⟩
  rw [hc]
  cases par.all (rowOk M D) with
  | false => simp
  | true =>
    rw [if_pos rfl, Bool.true_and, Bool.and_eq_true, decide_eq_true_eq, decide_eq_true_eq]
    split <;> simp_all
end Go.Proofs.YtaclmbbiegklcaaDoor
end
section
/- Layer 30 over the machine of abstract values: names, searches, users of codes. -/
namespace Go.Proofs.YtaclmbbiegklcaaDoor
open Go.RowKit
set_option maxHeartbeats 4000000
set_option maxRecDepth 100000
abbrev Cd := List Nat × Int × Int × List (List Int) × Int
abbrev Sv := List Nat × Int × Int × Int × Int
def cdD (c : Cd) : List Dat := [.v (.string (bytesOf c.1)), .v (.int .i64 c.2.1), .v (.int .i64 c.2.2.1), .sl 1 (c.2.2.2.1.map rD), .v (.int .i64 c.2.2.2.2)]
def svD (v : Sv) : List Dat := [.v (.string (bytesOf v.1)), .v (.int .i64 v.2.1), .v (.int .i64 v.2.2.1), .v (.int .i64 v.2.2.2.1), .v (.int .i64 v.2.2.2.2)]
abbrev cdA1 (c : Cd) : AV := .agg ((cdD c).map .d)
abbrev svA1 (v : Sv) : AV := .agg ((svD v).map .d)
abbrev cds (l : List Cd) : AV := .d (.sl 5 (l.map cdD))
abbrev svs (l : List Sv) : AV := .d (.sl 5 (l.map svD))
abbrev lib (cs : List Cd) (vs : List Sv) : AV := .agg [cds cs, svs vs]
def cd0 : Cd := ([], 0, 0, [], 0)
def sv0 : Sv := ([], 0, 0, 0, 0)
def chkD (c : Cd) : Bool := chkC c.1 c.2.1 c.2.2.1 c.2.2.2.1 c.2.2.2.2
def losD (c : Cd) : Int := lossC c.1 c.2.1 c.2.2.1 c.2.2.2.1 c.2.2.2.2
def FInD (c : Cd) : Prop := FIn c.1 c.2.2.1 c.2.2.2.1
structure NameIn (s : List Nat) : Prop where
  b : isB s
  l : s.length < 9223372036854775808
def nameB (s : List Nat) : Bool := (decide (1 ≤ s.length) && decide (s.length ≤ 12)) && (List.range s.length).all (wordAt s)
def fxI (i : Int) : Int := if i < 0 then 0 else i
def fxE (i : Int) : Int := if i < 0 then 12 else 0
abbrev findA (i : Int) : AV := .tup [iV (fxI i), iV (fxE i)]
def fcI (cs : List Cd) (nm : List Nat) : Int := idxA (fun c => decide (c.1 = nm)) cs
def fvI (vs : List Sv) (nm : List Nat) : Int := idxA (fun v => decide (v.1 = nm)) vs
def hasB (n : Nat) (k : Int) : Bool := decide (0 ≤ k) && decide (k < (n : Int))
def keepsB (cs : List Cd) (k n : Int) : Bool := hasB cs.length k && decide (n ≤ losD (cs.getD k.toNat cd0))
def plausB (nm : List Nat) (l w : Int) : Bool := nameB nm && (decide (0 ≤ l) && (decide (l ≤ 4) && (decide (1 ≤ w) && decide (w ≤ 1048576))))
def usesB (k : Int) (v : Sv) : Bool := decide (v.2.1 = k) || decide (v.2.2.1 = k)
def userI (vs : List Sv) (k : Int) : Int := idxA (usesB k) vs
def aloneB (vs : List Sv) (i : Nat) : Bool := decide (userI vs (vs.getD i sv0).2.1 = (i : Int)) && (decide ((vs.getD i sv0).2.2.1 = -1) || decide (userI vs (vs.getD i sv0).2.2.1 = (i : Int)))
attribute [local irreducible] Quiet Eff OpOk AWPG ACont ABlock ACalls AGoto
theorem A_small30 (c : Nat) : ACalls Tryd.prog 121 [.d (.v (.int .u8 c))] [] (bV (letB c)) [] := by
  refine acalls_of_body Tryd.func121 rfl (Nat.le_of_ble_eq_true rfl) ?_
  unfold letB
  (repeat' (first
  | (apply W.gOn; exact rfl; exact rfl)
  | (apply W.qd; (first
    | (apply q_mv; (first|exact vD|exact vO|exact vP|exact vA|exact vF|exact vR|exact vN|exact vY|exact vT|exact vM|exact vL|exact vX))|(apply q_as; (first|exact vD|exact vO|exact vP|exact vA|exact vF|exact vR|exact vN|exact vY|exact vT|exact vM|exact vL|exact vX))|(apply q_leq; exact rfl; exact rfl)|(apply q_geq; exact rfl; exact rfl)|(apply (q_pickT (u := .d _)); exact rfl; exact rfl)
    | (apply (q_pickF (u := .d _)); exact rfl; exact rfl)))|(refine W.gOff _ _ rfl rfl (by intro h; cases h) ?_)|(apply AWP.seq)|(apply ACont_normal)|(apply W.region; kernel_rfl)|(apply Walk.nil)|(apply AWP.ret)
  | (refine W.gT _ _ rfl rfl (fun hb => ?_) (fun hb => ?_) <;> ((try simp only [hb, zA, zB]) <;> (try simp only [zC, zD, zE, zF, zG, zH, zI, zJ] at hb) <;> (try (exfalso; omega))))))
  all_goals refine Ends.b rfl ?_
  all_goals first | (rw [Bool.eq_iff_iff]; simp <;> omega) | (simp; omega)
theorem A_name30 {s : List Nat} (h : NameIn s) : ACalls Tryd.prog 78 [bS s] [] (bV (nameB s)) [] := by
  refine acalls_of_body Tryd.func78 rfl (Nat.le_of_ble_eq_true rfl) ?_
  have hs := h.b
  have hl := h.l
  have hL := A_small30
  (repeat' (first
  | (apply W.qd; (first
    | (apply q_mv; (first|exact vD|exact vO|exact vP|exact vA|exact vF|exact vR|exact vN|exact vY|exact vT|exact vM|exact vL|exact vX))|(apply q_as; (first|exact vD|exact vO|exact vP|exact vA|exact vF|exact vR|exact vN|exact vY|exact vT|exact vM|exact vL|exact vX))
    | (apply q_len_bs; exact rfl; exact rfl)))|(apply AWP.seq)|(apply ACont_normal)|(apply (W.regionS 3); exact rfl; kernel_rfl)|(apply Walk.nil)
  | (apply AWP.block)))
  refine AWP.loopW (α := Nat) (fun k => k ≤ s.length ∧ ∀ j, j < k → wordAt s j = true) (fun k => ⟨[(8, iV k), (7, iV s.length), (3, .fn 121 []), (0, bS s)], []⟩) (fun k => s.length - k) 0 ⟨Nat.zero_le _, fun j hj => by omega⟩ ⟨[], rfl, rfl, rfl, by (repeat (first | exact trivial | refine ⟨rfl, ?_⟩))⟩ fun k hk => ?_
  by_cases hkl : k < s.length
  · have eg : s.getD k 0 = s[k] := by rw [List.getD_eq_getElem?_getD, List.getElem?_eq_getElem hkl]; rfl
    have hnext : wordAt s k = true → ∀ j, j < k + 1 → wordAt s j = true := fun h j hj => by
      by_cases e : j = k
      · subst e; exact h
      · exact hk.2 j (by omega)
    have hbad : wordAt s k = false → nameB s = false := fun h => by
      unfold nameB
      rw [Bool.and_eq_false_iff]
      right
      rw [List.all_eq_false]
      exact ⟨k, List.mem_range.2 hkl, by rw [h]; decide⟩
    have hwa : wordAt s k = (letB s[k] || (decide (k ≠ 0) && (decide (48 ≤ s[k]) && decide (s[k] ≤ 57)))) := by unfold wordAt digB; rw [eg]
    replace hwa := Lib.hid hwa
    clear hk
    (repeat' (first
  | (apply W.gOn; exact rfl; exact rfl)
  | (apply W.qd; (first
    | (apply (q_callC (hL s[k])); exact rfl; exact rfl; kernel_rfl; kernel_rfl; kernel_rfl)|(apply q_mv; (first|exact vD|exact vO|exact vP|exact vA|exact vF|exact vR|exact vN|exact vY|exact vT|exact vM|exact vL|exact vX))|(apply q_as; (first|exact vD|exact vO|exact vP|exact vA|exact vF|exact vR|exact vN|exact vY|exact vT|exact vM|exact vL|exact vX))|(apply q_lss; exact rfl; exact rfl)|(apply q_gtr; exact rfl; exact rfl)|(apply q_eql; exact rfl; exact rfl)|(apply q_not; exact rfl)|(apply q_add; exact rfl; exact rfl; omega)|(apply q_ix_bs; (iterate 3 exact rfl); (first | (with_reducible exact rfl) | exact natI_spec rfl | assumption | exact (Int.toNat_of_nonneg (by omega)).symm); (first | omega | (focus (simp only [List.length_map]; omega)) | (focus (simp; done)) | (focus (simp; omega))); assumption)|(apply (q_pickT (u := .d _)); exact rfl; exact rfl)
    | (apply (q_pickF (u := .d _)); exact rfl; exact rfl)))|(refine W.gOff _ _ rfl rfl (by intro h; cases h) ?_)|(apply AWP.seq)|(apply ACont_normal)|(apply W.region; kernel_rfl)|(apply Walk.nil)|(apply AWP.block)|(apply AWP.skip)|(apply AWP.ret)|(apply ACont_ret)|(apply ABlock_normal)|(apply ABlock_ret)|(apply W.condT; exact rfl)|(apply W.condF; exact rfl)|(refine W.gT _ _ rfl rfl (fun hb => ?_) (fun hb => ?_) <;> ((try simp only [hb, zA, zB]) <;> (try simp only [zC, zD, zE, zF, zG, zH, zI, zJ] at hb) <;> (try (exfalso; omega))))|(refine W.gF _ _ rfl rfl (fun hb => ?_) (fun hb => ?_) <;> ((try simp only [hb, zA, zB]) <;> (try simp only [zC, zD, zE, zF, zG, zH, zI, zJ] at hb) <;> (try (exfalso; omega))))
  | (refine W.cond _ rfl (fun hb => ?_) (fun hb => ?_) <;> ((try simp only [hb, zA, zB]) <;> (try simp only [zC, zD, zE, zF, zG, zH, zI, zJ] at hb) <;> (try (exfalso; omega))))))
    all_goals first
      | (refine Ends.b rfl (hbad ?_).symm; rw [hwa.out, Bool.or_eq_false_iff]; refine ⟨by assumption, ?_⟩; simp; omega)|(refine ⟨k + 1, ⟨by omega, hnext ?_⟩, by omega, [], rfl, rfl, rfl, iV_eq (by omega), rfl, rfl, rfl, trivial⟩; rw [hwa.out, Bool.or_eq_true]; first | exact .inl (by assumption) | (refine .inr ?_; simp; omega))
  · have hall : (List.range s.length).all (wordAt s) = true := by
      rw [List.all_eq_true]
      intro j hj
      exact hk.2 j (by have := List.mem_range.1 hj; omega)
    unfold nameB
    rw [hall, Bool.and_true]
    clear hk hall
    (repeat' (first
  | (apply W.gOn; exact rfl; exact rfl)
  | (apply W.qd; (first
    | (apply q_mv; (first|exact vD|exact vO|exact vP|exact vA|exact vF|exact vR|exact vN|exact vY|exact vT|exact vM|exact vL|exact vX))|(apply q_as; (first|exact vD|exact vO|exact vP|exact vA|exact vF|exact vR|exact vN|exact vY|exact vT|exact vM|exact vL|exact vX))|(apply q_lss; exact rfl; exact rfl)|(apply q_leq; exact rfl; exact rfl)|(apply q_geq; exact rfl; exact rfl)|(apply q_len_bs; exact rfl; exact rfl)|(apply (q_pickT (u := .d _)); exact rfl; exact rfl)
    | (apply (q_pickF (u := .d _)); exact rfl; exact rfl)))|(refine W.gOff _ _ rfl rfl (by intro h; cases h) ?_)|(apply AWP.seq)|(apply ACont_normal)|(apply W.region; kernel_rfl)|(apply Walk.nil)|(apply AWP.exit)|(apply AWP.ret)|(apply ACont_exit)|(apply ABlock_exit)|(refine W.gT _ _ rfl rfl (fun hb => ?_) (fun hb => ?_) <;> ((try simp only [hb, zA, zB]) <;> (try simp only [zC, zD, zE, zF, zG, zH, zI, zJ] at hb) <;> (try (exfalso; omega))))
  | (refine W.cond _ rfl (fun hb => ?_) (fun hb => ?_) <;> ((try simp only [hb, zA, zB]) <;> (try simp only [zC, zD, zE, zF, zG, zH, zI, zJ] at hb) <;> (try (exfalso; omega))))))
    all_goals (refine Ends.b rfl ?_; rw [Bool.eq_iff_iff]; simp <;> omega)
theorem A_plausible {nm : List Nat} {l w : Int} (h : NameIn nm) : ACalls Tryd.prog 38 [bS nm, iV l, iV w] [] (bV (plausB nm l w)) [] := by
  refine acalls_of_body Tryd.func38 rfl (Nat.le_of_ble_eq_true rfl) ?_
  have hn := A_name30 h
  unfold plausB
  cases hq : nameB nm with
  | false =>
    rw [hq] at hn
    (repeat' (first
  | (apply W.qd; (first
    | (apply (q_callC (hn)); exact rfl; exact rfl; kernel_rfl; kernel_rfl; kernel_rfl)|(apply q_mv; (first|exact vD|exact vO|exact vP|exact vA|exact vF|exact vR|exact vN|exact vY|exact vT|exact vM|exact vL|exact vX))|(apply q_as; (first|exact vD|exact vO|exact vP|exact vA|exact vF|exact vR|exact vN|exact vY|exact vT|exact vM|exact vL|exact vX))
    | (apply (q_pickF (u := .d _)); exact rfl; exact rfl)))|(refine W.gOff _ _ rfl rfl (by intro h; cases h) ?_)|(apply AWP.seq)|(apply ACont_normal)|(apply W.region; kernel_rfl)|(apply Walk.nil)
  | (apply AWP.ret)))
    all_goals exact Ends.b rfl rfl
  | true =>
    rw [hq] at hn
    (repeat' (first
  | (apply W.gOn; exact rfl; exact rfl)
  | (apply W.qd; (first
    | (apply (q_callC (hn)); exact rfl; exact rfl; kernel_rfl; kernel_rfl; kernel_rfl)|(apply q_mv; (first|exact vD|exact vO|exact vP|exact vA|exact vF|exact vR|exact vN|exact vY|exact vT|exact vM|exact vL|exact vX))|(apply q_as; (first|exact vD|exact vO|exact vP|exact vA|exact vF|exact vR|exact vN|exact vY|exact vT|exact vM|exact vL|exact vX))|(apply q_leq; exact rfl; exact rfl)|(apply q_geq; exact rfl; exact rfl)|(apply (q_pickT (u := .d _)); exact rfl; exact rfl)
    | (apply (q_pickF (u := .d _)); exact rfl; exact rfl)))|(refine W.gOff _ _ rfl rfl (by intro h; cases h) ?_)|(apply AWP.seq)|(apply ACont_normal)|(apply W.region; kernel_rfl)|(apply Walk.nil)|(apply AWP.ret)
  | (refine W.gT _ _ rfl rfl (fun hb => ?_) (fun hb => ?_) <;> ((try simp only [hb, zA, zB]) <;> (try simp only [zC, zD, zE, zF, zG, zH, zI, zJ] at hb) <;> (try (exfalso; omega))))))
    all_goals (refine Ends.b rfl ?_; rw [Bool.eq_iff_iff]; simp <;> omega)
theorem A_nmC (c : Cd) : ACalls Tryd.prog 49 [cdA1 c] [] (bS c.1) [] := by
  refine acalls_of_body Tryd.func49 rfl (Nat.le_of_ble_eq_true rfl) ?_
  (repeat' (first
  | (apply W.qd; (first
    | (apply q_as; (first|exact vD|exact vO|exact vP|exact vA|exact vF|exact vR|exact vN|exact vY|exact vT|exact vM|exact vL|exact vX))|(apply q_fld_optF; (iterate 3 exact rfl))
    | (apply q_ld_box; (iterate 4 exact rfl))))|(apply W.ed; (apply e_boxF; (iterate 3 exact rfl); kernel_rfl; kernel_rfl))|(apply AWP.seq)|(apply ACont_normal)|(apply W.region; kernel_rfl)|(apply Walk.nil)
  | (apply AWP.ret)))
  exact Ends.d rfl rfl
theorem A_ixC {O : List Ent} {g : FuncId} {caps : List AV} (q : Cd → Bool) (l : List Cd) (hl : l.length ≤ 9223372036854775807) (hgf : isFn Tryd.prog g = true) (hg : ∀ x ∈ l, ACalls Tryd.prog g (cdA1 x :: caps) O (bV (q x)) O) : ACalls Tryd.prog 88 [cds l, .fn g caps] O (iV (idxA q l)) O := by
  refine acalls_of_bodyS Tryd.func88 rfl (Nat.le_of_ble_eq_true rfl) ?_
  have hm : (l.map cdD).length = l.length := List.length_map _
  (repeat (first
  | (apply W.qd; (first
    | (apply q_mv; (first|exact vD|exact vO|exact vP|exact vA|exact vF|exact vR|exact vN|exact vY|exact vT|exact vM|exact vL|exact vX))|(apply q_as; (first|exact vD|exact vO|exact vP|exact vA|exact vF|exact vR|exact vN|exact vY|exact vT|exact vM|exact vL|exact vX))
    | (apply q_len_sl; exact rfl; exact rfl)))|(apply AWP.seq)|(apply ACont_normal)|(apply W.region; kernel_rfl)|(apply Walk.nil)
  | (apply AWP.block)))
  refine AWP.loopE (α := Nat) (fun k => k ≤ l.length ∧ ∀ x ∈ l.take k, q x = false) (fun k => ⟨[(8, iV k), (7, iV l.length), (0, cds l), (1, .fn g caps)], O⟩) (fun k => l.length - k) 0 ⟨by omega, by simp⟩ ⟨rfl, rfl, iV_eq (by rw [hm]), rfl, rfl, trivial⟩ fun k hk => ?_
  by_cases hkl : k < l.length
  · have hx := hg l[k] (List.getElem_mem hkl)
    (repeat' (first
  | (apply W.qd; (first
    | (apply q_mv; (first|exact vD|exact vO|exact vP|exact vA|exact vF|exact vR|exact vN|exact vY|exact vT|exact vM|exact vL|exact vX))|(apply q_as; (first|exact vD|exact vO|exact vP|exact vA|exact vF|exact vR|exact vN|exact vY|exact vT|exact vM|exact vL|exact vX))|(apply q_lss; exact rfl; exact rfl)|(apply q_add; exact rfl; exact rfl; omega)|(apply q_ld_maps; (iterate 3 exact rfl); (first | omega | (focus (simp; done))))
    | (apply q_ix_slF; (iterate 4 exact rfl); (first | (with_reducible exact rfl) | exact natI_spec rfl | assumption | exact (Int.toNat_of_nonneg (by omega)).symm); (first | omega | (focus (simp only [List.length_map]; omega)) | (focus (simp; done)) | (focus (simp; omega))))))|(apply W.ed; (apply (e_callS (hx)); exact rfl; exact rfl; (first | assumption | kernel_rfl)))|(apply AWP.seq)|(apply ACont_normal)|(apply W.region; kernel_rfl)|(apply Walk.nil)|(apply AWP.block)|(apply AWP.skip)|(apply AWP.ret)|(apply ACont_ret)|(apply ABlock_normal)|(apply ABlock_ret)
  | (refine W.cond _ rfl (fun hb => ?_) (fun hb => ?_) <;> ((try simp only [hb, zA, zB]) <;> (try simp only [zC, zD, zE, zF, zG, zH, zI, zJ] at hb) <;> (try (exfalso; omega))))))
    · exact EndsS.i rfl (idxA_hit hkl hb hk.2).symm
    · refine ⟨k + 1, ⟨by omega, fun x hx => ?_⟩, by omega, ⟨rfl, by (repeat (first | exact trivial | refine ⟨rfl, ?_⟩))⟩⟩
      rw [List.take_succ_eq_append_getElem hkl] at hx
      rcases List.mem_append.1 hx with hx | hx
      · exact hk.2 x hx
      · rw [List.mem_singleton.1 hx]; exact hb
  · (repeat' (first
  | (apply W.qd; (first
    | (apply q_as; (first|exact vD|exact vO|exact vP|exact vA|exact vF|exact vR|exact vN|exact vY|exact vT|exact vM|exact vL|exact vX))
    | (apply q_lss; exact rfl; exact rfl)))|(apply AWP.seq)|(apply ACont_normal)|(apply W.region; kernel_rfl)|(apply Walk.nil)|(apply AWP.exit)|(apply AWP.ret)|(apply ACont_exit)|(apply ABlock_exit)
  | (refine W.cond _ rfl (fun hb => ?_) (fun hb => ?_) <;> ((try simp only [hb, zA, zB]) <;> (try simp only [zC, zD, zE, zF, zG, zH, zI, zJ] at hb) <;> (try (exfalso; omega))))))
    refine EndsS.i rfl (idxA_miss fun x hx => hk.2 x ?_).symm
    rwa [List.take_of_length_le (by omega)]
abbrev findOC (nm : List Nat) : List Ent := [.box [.fn 49 []], .box [bS nm]]
theorem A_find1C (c : Cd) {nm : List Nat} (h1 : isB c.1) (h2 : isB nm) : ACalls Tryd.prog 89 [cdA1 c, .opt 0 0, .opt 1 0] (findOC nm) (bV (decide (c.1 = nm))) (findOC nm) := by
  refine acalls_of_bodyO Tryd.func89 rfl (Nat.le_of_ble_eq_true rfl) ?_
  have hn := A_nmC c
  (repeat' (first
  | (apply W.qd; (first
    | (apply (q_callC (hn)); exact rfl; exact rfl; kernel_rfl; kernel_rfl; kernel_rfl)|(apply q_as; (first|exact vD|exact vO|exact vP|exact vA|exact vF|exact vR|exact vN|exact vY|exact vT|exact vM|exact vL|exact vX))|(apply q_ld_box; (iterate 4 exact rfl))|(apply q_ld_boxF; (iterate 4 exact rfl))
    | (apply q_eqlS; exact rfl; exact rfl; (first | assumption | exact isB_nil | exact isB_xor (by assumption) (by assumption)); (first | assumption | exact isB_nil | exact isB_xor (by assumption) (by assumption)))))|(apply W.ed; (apply e_boxF; (iterate 3 exact rfl); kernel_rfl; kernel_rfl))|(apply AWP.seq)|(apply ACont_normal)|(apply W.region; kernel_rfl)|(apply W.regionD; exact rfl; kernel_rfl)|(apply Walk.nil)|(apply W.chk; kernel_rfl)
  | (apply AWP.ret)))
  exact ⟨.inl rfl, [0, 1], [bV (decide (c.1 = nm))], rfl, rfl, ⟨rfl, trivial⟩, AVle.of_eq rfl, rfl⟩
theorem A_findFC {l : List Cd} {nm : List Nat} (hl : l.length ≤ 9223372036854775807) (hb1 : ∀ c ∈ l, isB c.1) (h2 : isB nm) : ACalls Tryd.prog 48 [cds l, .fn 49 [], bS nm] [] (findA (fcI l nm)) [] := by
  refine acalls_of_body Tryd.func48 rfl (Nat.le_of_ble_eq_true rfl) ?_
  have hi := A_ixC (O := findOC nm) (g := 89) (caps := [.opt 0 0, .opt 1 0]) (fun c => decide (c.1 = nm)) l hl (by kernel_rfl) (fun c hc => A_find1C c (hb1 c hc) h2)
  rw [show idxA (fun c : Cd => decide (c.1 = nm)) l = fcI l nm from rfl] at hi
  unfold findA fxI fxE
  generalize fcI l nm = i at *
  by_cases hi0 : i < 0
  · rw [if_pos hi0, if_pos hi0]
    (repeat' (first
  | (apply W.qd; (first
    | (apply q_mv; (first|exact vD|exact vO|exact vP|exact vA|exact vF|exact vR|exact vN|exact vY|exact vT|exact vM|exact vL|exact vX))|(apply q_as; (first|exact vD|exact vO|exact vP|exact vA|exact vF|exact vR|exact vN|exact vY|exact vT|exact vM|exact vL|exact vX))|(apply q_lss; exact rfl; exact rfl)
    | (apply q_makeFunc)))
  | (apply W.ed; (first
    | (apply (e_callS (hi)); exact rfl; exact rfl; (first | assumption | kernel_rfl))
    | (apply e_boxF; (iterate 3 exact rfl); kernel_rfl; kernel_rfl)))|(apply AWP.seq)|(apply ACont_normal)|(apply W.region; kernel_rfl)|(apply Walk.nil)|(apply AWP.ret)|(apply ACont_ret)
  | (refine W.cond _ rfl (fun hb => ?_) (fun hb => ?_) <;> ((try simp only [hb, zA, zB]) <;> (try simp only [zC, zD, zE, zF, zG, zH, zI, zJ] at hb) <;> (try (exfalso; omega))))))
    exact Ends.two rfl rfl rfl
  · rw [if_neg hi0, if_neg hi0]
    (repeat' (first
  | (apply W.qd; (first
    | (apply q_mv; (first|exact vD|exact vO|exact vP|exact vA|exact vF|exact vR|exact vN|exact vY|exact vT|exact vM|exact vL|exact vX))|(apply q_as; (first|exact vD|exact vO|exact vP|exact vA|exact vF|exact vR|exact vN|exact vY|exact vT|exact vM|exact vL|exact vX))|(apply q_lss; exact rfl; exact rfl)
    | (apply q_makeFunc)))
  | (apply W.ed; (first
    | (apply (e_callS (hi)); exact rfl; exact rfl; (first | assumption | kernel_rfl))
    | (apply e_boxF; (iterate 3 exact rfl); kernel_rfl; kernel_rfl)))|(apply AWP.seq)|(apply ACont_normal)|(apply W.region; kernel_rfl)|(apply Walk.nil)|(apply AWP.skip)|(apply AWP.ret)
  | (refine W.cond _ rfl (fun hb => ?_) (fun hb => ?_) <;> ((try simp only [hb, zA, zB]) <;> (try simp only [zC, zD, zE, zF, zG, zH, zI, zJ] at hb) <;> (try (exfalso; omega))))))
    exact Ends.two rfl rfl rfl
theorem A_findC {cs : List Cd} {vs : List Sv} {nm : List Nat} (hl : cs.length ≤ 9223372036854775807) (hb1 : ∀ c ∈ cs, isB c.1) (h2 : isB nm) : ACalls Tryd.prog 23 [lib cs vs, bS nm] [] (findA (fcI cs nm)) [] := by
  refine acalls_of_body Tryd.func23 rfl (Nat.le_of_ble_eq_true rfl) ?_
  have hf := A_findFC hl hb1 h2
  (repeat' (first
  | (apply W.qd; (first
    | (apply (q_callC (hf)); exact rfl; exact rfl; kernel_rfl; kernel_rfl; kernel_rfl)|(apply q_mv; (first|exact vD|exact vO|exact vP|exact vA|exact vF|exact vR|exact vN|exact vY|exact vT|exact vM|exact vL|exact vX))|(apply q_as; (first|exact vD|exact vO|exact vP|exact vA|exact vF|exact vR|exact vN|exact vY|exact vT|exact vM|exact vL|exact vX))|(apply q_fld_optF; (iterate 3 exact rfl))|(apply q_ld_box; (iterate 4 exact rfl))
    | (apply q_extract; exact rfl; exact rfl)))|(apply W.ed; (apply e_boxF; (iterate 3 exact rfl); kernel_rfl; kernel_rfl))|(apply AWP.seq)|(apply ACont_normal)|(apply W.region; kernel_rfl)|(apply Walk.nil)
  | (apply AWP.ret)))
  exact Ends.two rfl rfl rfl
theorem A_nmV (c : Sv) : ACalls Tryd.prog 51 [svA1 c] [] (bS c.1) [] := by
  refine acalls_of_body Tryd.func51 rfl (Nat.le_of_ble_eq_true rfl) ?_
  (repeat' (first
  | (apply W.qd; (first
    | (apply q_as; (first|exact vD|exact vO|exact vP|exact vA|exact vF|exact vR|exact vN|exact vY|exact vT|exact vM|exact vL|exact vX))|(apply q_fld_optF; (iterate 3 exact rfl))
    | (apply q_ld_box; (iterate 4 exact rfl))))|(apply W.ed; (apply e_boxF; (iterate 3 exact rfl); kernel_rfl; kernel_rfl))|(apply AWP.seq)|(apply ACont_normal)|(apply W.region; kernel_rfl)|(apply Walk.nil)
  | (apply AWP.ret)))
  exact Ends.d rfl rfl
theorem A_ixV {O : List Ent} {g : FuncId} {caps : List AV} (q : Sv → Bool) (l : List Sv) (hl : l.length ≤ 9223372036854775807) (hgf : isFn Tryd.prog g = true) (hg : ∀ x ∈ l, ACalls Tryd.prog g (svA1 x :: caps) O (bV (q x)) O) : ACalls Tryd.prog 83 [svs l, .fn g caps] O (iV (idxA q l)) O := by
  refine acalls_of_bodyS Tryd.func83 rfl (Nat.le_of_ble_eq_true rfl) ?_
  have hm : (l.map svD).length = l.length := List.length_map _
  (repeat (first
  | (apply W.qd; (first
    | (apply q_mv; (first|exact vD|exact vO|exact vP|exact vA|exact vF|exact vR|exact vN|exact vY|exact vT|exact vM|exact vL|exact vX))|(apply q_as; (first|exact vD|exact vO|exact vP|exact vA|exact vF|exact vR|exact vN|exact vY|exact vT|exact vM|exact vL|exact vX))
    | (apply q_len_sl; exact rfl; exact rfl)))|(apply AWP.seq)|(apply ACont_normal)|(apply W.region; kernel_rfl)|(apply Walk.nil)
  | (apply AWP.block)))
  refine AWP.loopE (α := Nat) (fun k => k ≤ l.length ∧ ∀ x ∈ l.take k, q x = false) (fun k => ⟨[(8, iV k), (7, iV l.length), (0, svs l), (1, .fn g caps)], O⟩) (fun k => l.length - k) 0 ⟨by omega, by simp⟩ ⟨rfl, rfl, iV_eq (by rw [hm]), rfl, rfl, trivial⟩ fun k hk => ?_
  by_cases hkl : k < l.length
  · have hx := hg l[k] (List.getElem_mem hkl)
    (repeat' (first
  | (apply W.qd; (first
    | (apply q_mv; (first|exact vD|exact vO|exact vP|exact vA|exact vF|exact vR|exact vN|exact vY|exact vT|exact vM|exact vL|exact vX))|(apply q_as; (first|exact vD|exact vO|exact vP|exact vA|exact vF|exact vR|exact vN|exact vY|exact vT|exact vM|exact vL|exact vX))|(apply q_lss; exact rfl; exact rfl)|(apply q_add; exact rfl; exact rfl; omega)|(apply q_ld_maps; (iterate 3 exact rfl); (first | omega | (focus (simp; done))))
    | (apply q_ix_slF; (iterate 4 exact rfl); (first | (with_reducible exact rfl) | exact natI_spec rfl | assumption | exact (Int.toNat_of_nonneg (by omega)).symm); (first | omega | (focus (simp only [List.length_map]; omega)) | (focus (simp; done)) | (focus (simp; omega))))))|(apply W.ed; (apply (e_callS (hx)); exact rfl; exact rfl; (first | assumption | kernel_rfl)))|(apply AWP.seq)|(apply ACont_normal)|(apply W.region; kernel_rfl)|(apply Walk.nil)|(apply AWP.block)|(apply AWP.skip)|(apply AWP.ret)|(apply ACont_ret)|(apply ABlock_normal)|(apply ABlock_ret)
  | (refine W.cond _ rfl (fun hb => ?_) (fun hb => ?_) <;> ((try simp only [hb, zA, zB]) <;> (try simp only [zC, zD, zE, zF, zG, zH, zI, zJ] at hb) <;> (try (exfalso; omega))))))
    · exact EndsS.i rfl (idxA_hit hkl hb hk.2).symm
    · refine ⟨k + 1, ⟨by omega, fun x hx => ?_⟩, by omega, ⟨rfl, by (repeat (first | exact trivial | refine ⟨rfl, ?_⟩))⟩⟩
      rw [List.take_succ_eq_append_getElem hkl] at hx
      rcases List.mem_append.1 hx with hx | hx
      · exact hk.2 x hx
      · rw [List.mem_singleton.1 hx]; exact hb
  · (repeat' (first
  | (apply W.qd; (first
    | (apply q_as; (first|exact vD|exact vO|exact vP|exact vA|exact vF|exact vR|exact vN|exact vY|exact vT|exact vM|exact vL|exact vX))
    | (apply q_lss; exact rfl; exact rfl)))|(apply AWP.seq)|(apply ACont_normal)|(apply W.region; kernel_rfl)|(apply Walk.nil)|(apply AWP.exit)|(apply AWP.ret)|(apply ACont_exit)|(apply ABlock_exit)
  | (refine W.cond _ rfl (fun hb => ?_) (fun hb => ?_) <;> ((try simp only [hb, zA, zB]) <;> (try simp only [zC, zD, zE, zF, zG, zH, zI, zJ] at hb) <;> (try (exfalso; omega))))))
    refine EndsS.i rfl (idxA_miss fun x hx => hk.2 x ?_).symm
    rwa [List.take_of_length_le (by omega)]
abbrev findOV (nm : List Nat) : List Ent := [.box [.fn 51 []], .box [bS nm]]
theorem A_find1V (c : Sv) {nm : List Nat} (h1 : isB c.1) (h2 : isB nm) : ACalls Tryd.prog 90 [svA1 c, .opt 0 0, .opt 1 0] (findOV nm) (bV (decide (c.1 = nm))) (findOV nm) := by
  refine acalls_of_bodyO Tryd.func90 rfl (Nat.le_of_ble_eq_true rfl) ?_
  have hn := A_nmV c
  (repeat' (first
  | (apply W.qd; (first
    | (apply (q_callC (hn)); exact rfl; exact rfl; kernel_rfl; kernel_rfl; kernel_rfl)|(apply q_as; (first|exact vD|exact vO|exact vP|exact vA|exact vF|exact vR|exact vN|exact vY|exact vT|exact vM|exact vL|exact vX))|(apply q_ld_box; (iterate 4 exact rfl))|(apply q_ld_boxF; (iterate 4 exact rfl))
    | (apply q_eqlS; exact rfl; exact rfl; (first | assumption | exact isB_nil | exact isB_xor (by assumption) (by assumption)); (first | assumption | exact isB_nil | exact isB_xor (by assumption) (by assumption)))))|(apply W.ed; (apply e_boxF; (iterate 3 exact rfl); kernel_rfl; kernel_rfl))|(apply AWP.seq)|(apply ACont_normal)|(apply W.region; kernel_rfl)|(apply W.regionD; exact rfl; kernel_rfl)|(apply Walk.nil)|(apply W.chk; kernel_rfl)
  | (apply AWP.ret)))
  exact ⟨.inl rfl, [0, 1], [bV (decide (c.1 = nm))], rfl, rfl, ⟨rfl, trivial⟩, AVle.of_eq rfl, rfl⟩
theorem A_findFV {l : List Sv} {nm : List Nat} (hl : l.length ≤ 9223372036854775807) (hb1 : ∀ c ∈ l, isB c.1) (h2 : isB nm) : ACalls Tryd.prog 50 [svs l, .fn 51 [], bS nm] [] (findA (fvI l nm)) [] := by
  refine acalls_of_body Tryd.func50 rfl (Nat.le_of_ble_eq_true rfl) ?_
  have hi := A_ixV (O := findOV nm) (g := 90) (caps := [.opt 0 0, .opt 1 0]) (fun c => decide (c.1 = nm)) l hl (by kernel_rfl) (fun c hc => A_find1V c (hb1 c hc) h2)
  rw [show idxA (fun c : Sv => decide (c.1 = nm)) l = fvI l nm from rfl] at hi
  unfold findA fxI fxE
  generalize fvI l nm = i at *
  by_cases hi0 : i < 0
  · rw [if_pos hi0, if_pos hi0]
    (repeat' (first
  | (apply W.qd; (first
    | (apply q_mv; (first|exact vD|exact vO|exact vP|exact vA|exact vF|exact vR|exact vN|exact vY|exact vT|exact vM|exact vL|exact vX))|(apply q_as; (first|exact vD|exact vO|exact vP|exact vA|exact vF|exact vR|exact vN|exact vY|exact vT|exact vM|exact vL|exact vX))|(apply q_lss; exact rfl; exact rfl)
    | (apply q_makeFunc)))
  | (apply W.ed; (first
    | (apply (e_callS (hi)); exact rfl; exact rfl; (first | assumption | kernel_rfl))
    | (apply e_boxF; (iterate 3 exact rfl); kernel_rfl; kernel_rfl)))|(apply AWP.seq)|(apply ACont_normal)|(apply W.region; kernel_rfl)|(apply Walk.nil)|(apply AWP.ret)|(apply ACont_ret)
  | (refine W.cond _ rfl (fun hb => ?_) (fun hb => ?_) <;> ((try simp only [hb, zA, zB]) <;> (try simp only [zC, zD, zE, zF, zG, zH, zI, zJ] at hb) <;> (try (exfalso; omega))))))
    exact Ends.two rfl rfl rfl
  · rw [if_neg hi0, if_neg hi0]
    (repeat' (first
  | (apply W.qd; (first
    | (apply q_mv; (first|exact vD|exact vO|exact vP|exact vA|exact vF|exact vR|exact vN|exact vY|exact vT|exact vM|exact vL|exact vX))|(apply q_as; (first|exact vD|exact vO|exact vP|exact vA|exact vF|exact vR|exact vN|exact vY|exact vT|exact vM|exact vL|exact vX))|(apply q_lss; exact rfl; exact rfl)
    | (apply q_makeFunc)))
  | (apply W.ed; (first
    | (apply (e_callS (hi)); exact rfl; exact rfl; (first | assumption | kernel_rfl))
    | (apply e_boxF; (iterate 3 exact rfl); kernel_rfl; kernel_rfl)))|(apply AWP.seq)|(apply ACont_normal)|(apply W.region; kernel_rfl)|(apply Walk.nil)|(apply AWP.skip)|(apply AWP.ret)
  | (refine W.cond _ rfl (fun hb => ?_) (fun hb => ?_) <;> ((try simp only [hb, zA, zB]) <;> (try simp only [zC, zD, zE, zF, zG, zH, zI, zJ] at hb) <;> (try (exfalso; omega))))))
    exact Ends.two rfl rfl rfl
theorem A_findV {cs : List Cd} {vs : List Sv} {nm : List Nat} (hl : vs.length ≤ 9223372036854775807) (hb1 : ∀ c ∈ vs, isB c.1) (h2 : isB nm) : ACalls Tryd.prog 24 [lib cs vs, bS nm] [] (findA (fvI vs nm)) [] := by
  refine acalls_of_body Tryd.func24 rfl (Nat.le_of_ble_eq_true rfl) ?_
  have hf := A_findFV hl hb1 h2
  (repeat' (first
  | (apply W.qd; (first
    | (apply (q_callC (hf)); exact rfl; exact rfl; kernel_rfl; kernel_rfl; kernel_rfl)|(apply q_mv; (first|exact vD|exact vO|exact vP|exact vA|exact vF|exact vR|exact vN|exact vY|exact vT|exact vM|exact vL|exact vX))|(apply q_as; (first|exact vD|exact vO|exact vP|exact vA|exact vF|exact vR|exact vN|exact vY|exact vT|exact vM|exact vL|exact vX))|(apply q_fld_optF; (iterate 3 exact rfl))|(apply q_ld_box; (iterate 4 exact rfl))
    | (apply q_extract; exact rfl; exact rfl)))|(apply W.ed; (apply e_boxF; (iterate 3 exact rfl); kernel_rfl; kernel_rfl))|(apply AWP.seq)|(apply ACont_normal)|(apply W.region; kernel_rfl)|(apply Walk.nil)
  | (apply AWP.ret)))
  exact Ends.two rfl rfl rfl
theorem A_has {cs : List Cd} {vs : List Sv} {k : Int} : ACalls Tryd.prog 44 [lib cs vs, iV k] [] (bV (hasB cs.length k)) [] := by
  refine acalls_of_body Tryd.func44 rfl (Nat.le_of_ble_eq_true rfl) ?_
  have hm : (cs.map cdD).length = cs.length := List.length_map _
  unfold hasB
  (repeat' (first
  | (apply W.gOn; exact rfl; exact rfl)
  | (apply W.qd; (first
    | (apply q_mv; (first|exact vD|exact vO|exact vP|exact vA|exact vF|exact vR|exact vN|exact vY|exact vT|exact vM|exact vL|exact vX))|(apply q_as; (first|exact vD|exact vO|exact vP|exact vA|exact vF|exact vR|exact vN|exact vY|exact vT|exact vM|exact vL|exact vX))|(apply q_fld_optF; (iterate 3 exact rfl))|(apply q_ld_box; (iterate 4 exact rfl))|(apply q_lss; exact rfl; exact rfl)|(apply q_geq; exact rfl; exact rfl)|(apply q_len_sl; exact rfl; exact rfl)|(apply (q_pickT (u := .d _)); exact rfl; exact rfl)
    | (apply (q_pickF (u := .d _)); exact rfl; exact rfl)))|(apply W.ed; (apply e_boxF; (iterate 3 exact rfl); kernel_rfl; kernel_rfl))|(refine W.gOff _ _ rfl rfl (by intro h; cases h) ?_)|(apply AWP.seq)|(apply ACont_normal)|(apply W.region; kernel_rfl)|(apply Walk.nil)|(apply AWP.ret)
  | (refine W.gT _ _ rfl rfl (fun hb => ?_) (fun hb => ?_) <;> ((try simp only [hb, zA, zB]) <;> (try simp only [zC, zD, zE, zF, zG, zH, zI, zJ] at hb) <;> (try (exfalso; omega))))))
  all_goals (refine Ends.b rfl ?_; rw [Bool.eq_iff_iff]; simp <;> omega)
theorem A_known {cs : List Cd} {vs : List Sv} {k : Int} : ACalls Tryd.prog 46 [lib cs vs, iV k] [] (bV (hasB vs.length k)) [] := by
  refine acalls_of_body Tryd.func46 rfl (Nat.le_of_ble_eq_true rfl) ?_
  have hm : (vs.map svD).length = vs.length := List.length_map _
  unfold hasB
  (repeat' (first
  | (apply W.gOn; exact rfl; exact rfl)
  | (apply W.qd; (first
    | (apply q_mv; (first|exact vD|exact vO|exact vP|exact vA|exact vF|exact vR|exact vN|exact vY|exact vT|exact vM|exact vL|exact vX))|(apply q_as; (first|exact vD|exact vO|exact vP|exact vA|exact vF|exact vR|exact vN|exact vY|exact vT|exact vM|exact vL|exact vX))|(apply q_fld_optF; (iterate 3 exact rfl))|(apply q_ld_box; (iterate 4 exact rfl))|(apply q_lss; exact rfl; exact rfl)|(apply q_geq; exact rfl; exact rfl)|(apply q_len_sl; exact rfl; exact rfl)|(apply (q_pickT (u := .d _)); exact rfl; exact rfl)
    | (apply (q_pickF (u := .d _)); exact rfl; exact rfl)))|(apply W.ed; (apply e_boxF; (iterate 3 exact rfl); kernel_rfl; kernel_rfl))|(refine W.gOff _ _ rfl rfl (by intro h; cases h) ?_)|(apply AWP.seq)|(apply ACont_normal)|(apply W.region; kernel_rfl)|(apply Walk.nil)|(apply AWP.ret)
  | (refine W.gT _ _ rfl rfl (fun hb => ?_) (fun hb => ?_) <;> ((try simp only [hb, zA, zB]) <;> (try simp only [zC, zD, zE, zF, zG, zH, zI, zJ] at hb) <;> (try (exfalso; omega))))))
  all_goals (refine Ends.b rfl ?_; rw [Bool.eq_iff_iff]; simp <;> omega)
theorem A_losD {c : Cd} (h : FInD c) : ACalls Tryd.prog 36 [cdA1 c] [] (iV (losD c)) [] := A_losses h
theorem A_keeps {cs : List Cd} {vs : List Sv} {k n : Int} (hF : ∀ c ∈ cs, FInD c) : ACalls Tryd.prog 39 [lib cs vs, iV k, iV n] [] (bV (keepsB cs k n)) [] := by
  refine acalls_of_body Tryd.func39 rfl (Nat.le_of_ble_eq_true rfl) ?_
  have hm : (cs.map cdD).length = cs.length := List.length_map _
  have hh := A_has (cs := cs) (vs := vs) (k := k)
  unfold keepsB
  cases hq : hasB cs.length k with
  | false =>
    rw [hq] at hh
    (repeat' (first
  | (apply W.qd; (first
    | (apply (q_callC (hh)); exact rfl; exact rfl; kernel_rfl; kernel_rfl; kernel_rfl)|(apply q_mv; (first|exact vD|exact vO|exact vP|exact vA|exact vF|exact vR|exact vN|exact vY|exact vT|exact vM|exact vL|exact vX))|(apply q_as; (first|exact vD|exact vO|exact vP|exact vA|exact vF|exact vR|exact vN|exact vY|exact vT|exact vM|exact vL|exact vX))|(apply q_ld_boxF; (iterate 4 exact rfl))
    | (apply (q_pickF (u := .d _)); exact rfl; exact rfl)))|(apply W.ed; (apply e_boxF; (iterate 3 exact rfl); kernel_rfl; kernel_rfl))|(refine W.gOff _ _ rfl rfl (by intro h; cases h) ?_)|(apply AWP.seq)|(apply ACont_normal)|(apply W.region; kernel_rfl)|(apply Walk.nil)
  | (apply AWP.ret)))
    all_goals exact Ends.b rfl rfl
  | true =>
    rw [hq] at hh
    unfold hasB at hq
    rw [Bool.and_eq_true, decide_eq_true_eq, decide_eq_true_eq] at hq
    obtain ⟨j, rfl⟩ : ∃ j : Nat, k = j := ⟨k.toNat, by omega⟩
    have hj : j < cs.length := by omega
    have hls := A_losD (hF cs[j] (List.getElem_mem hj))
    have eg : cs.getD (j : Int).toNat cd0 = cs[j] := by rw [Int.toNat_natCast, List.getD_eq_getElem?_getD, List.getElem?_eq_getElem hj]; rfl
    rw [eg]
    (repeat' (first
  | (apply W.gOn; exact rfl; exact rfl)
  | (apply W.qd; (first
    | (apply (q_callC (hh)); exact rfl; exact rfl; kernel_rfl; kernel_rfl; kernel_rfl)|(apply (q_callC (hls)); exact rfl; exact rfl; kernel_rfl; kernel_rfl; kernel_rfl)|(apply q_mv; (first|exact vD|exact vO|exact vP|exact vA|exact vF|exact vR|exact vN|exact vY|exact vT|exact vM|exact vL|exact vX))|(apply q_as; (first|exact vD|exact vO|exact vP|exact vA|exact vF|exact vR|exact vN|exact vY|exact vT|exact vM|exact vL|exact vX))|(apply q_fld_optF; (iterate 3 exact rfl))|(apply q_ld_box; (iterate 4 exact rfl))|(apply q_ld_boxF; (iterate 4 exact rfl))|(apply q_geq; exact rfl; exact rfl)|(apply q_ld_maps; (iterate 3 exact rfl); (first | omega | (focus (simp; done))))|(apply q_ix_slF; (iterate 4 exact rfl); (first | (with_reducible exact rfl) | exact natI_spec rfl | assumption | exact (Int.toNat_of_nonneg (by omega)).symm); (first | omega | (focus (simp only [List.length_map]; omega)) | (focus (simp; done)) | (focus (simp; omega))))
    | (apply (q_pickT (u := .d _)); exact rfl; exact rfl)))|(apply W.ed; (apply e_boxF; (iterate 3 exact rfl); kernel_rfl; kernel_rfl))|(apply AWP.seq)|(apply ACont_normal)|(apply W.region; kernel_rfl)|(apply Walk.nil)
  | (apply AWP.ret)))
    all_goals exact Ends.b rfl (by simp)
theorem A_user1 (v : Sv) {cs : List Cd} {vs : List Sv} {k : Int} : ACalls Tryd.prog 84 [svA1 v, .opt 1 0] [.box [cds cs, svs vs], .box [iV k]] (bV (usesB k v)) [.box [cds cs, svs vs], .box [iV k]] := by
  refine acalls_of_bodyO Tryd.func84 rfl (Nat.le_of_ble_eq_true rfl) ?_
  unfold usesB
  (repeat' (first
  | (apply W.gOn; exact rfl; exact rfl)
  | (apply W.qd; (first
    | (apply q_mv; (first|exact vD|exact vO|exact vP|exact vA|exact vF|exact vR|exact vN|exact vY|exact vT|exact vM|exact vL|exact vX))|(apply q_as; (first|exact vD|exact vO|exact vP|exact vA|exact vF|exact vR|exact vN|exact vY|exact vT|exact vM|exact vL|exact vX))|(apply q_fld_optF; (iterate 3 exact rfl))|(apply q_ld_box; (iterate 4 exact rfl))|(apply q_eql; exact rfl; exact rfl)|(apply (q_pickT (u := .d _)); exact rfl; exact rfl)
    | (apply (q_pickF (u := .d _)); exact rfl; exact rfl)))|(apply W.ed; (apply e_boxF; (iterate 3 exact rfl); kernel_rfl; kernel_rfl))|(refine W.gOff _ _ rfl rfl (by intro h; cases h) ?_)|(apply AWP.seq)|(apply ACont_normal)|(apply W.region; kernel_rfl)|(apply Walk.nil)|(apply AWP.ret)
  | (refine W.gF _ _ rfl rfl (fun hb => ?_) (fun hb => ?_) <;> ((try simp only [hb, zA, zB]) <;> (try simp only [zC, zD, zE, zF, zG, zH, zI, zJ] at hb) <;> (try (exfalso; omega))))))
  all_goals (refine ⟨.inl rfl, [0, 1], [_], rfl, rfl, ⟨rfl, trivial⟩, AVle.of_eq (congrArg bV ?_), rfl⟩; rw [Bool.eq_iff_iff]; simp <;> omega)
theorem A_user {cs : List Cd} {vs : List Sv} {k : Int} (hl : vs.length ≤ 9223372036854775807) : ACalls Tryd.prog 45 [lib cs vs, iV k] [] (iV (userI vs k)) [] := by
  refine acalls_of_body Tryd.func45 rfl (Nat.le_of_ble_eq_true rfl) ?_
  have hi := A_ixV (O := [.box [cds cs, svs vs], .box [iV k]]) (g := 84) (caps := [.opt 1 0]) (usesB k) vs hl (by kernel_rfl) (fun v _ => A_user1 v)
  (repeat' (first
  | (apply W.qd; (first
    | (apply q_as; (first|exact vD|exact vO|exact vP|exact vA|exact vF|exact vR|exact vN|exact vY|exact vT|exact vM|exact vL|exact vX))|(apply q_fld_optF; (iterate 3 exact rfl))|(apply q_ld_box; (iterate 4 exact rfl))
    | (apply q_makeFunc)))
  | (apply W.ed; (first
    | (apply (e_callS (hi)); exact rfl; exact rfl; (first | assumption | kernel_rfl))
    | (apply e_boxF; (iterate 3 exact rfl); kernel_rfl; kernel_rfl)))|(apply AWP.seq)|(apply ACont_normal)|(apply W.region; kernel_rfl)|(apply Walk.nil)
  | (apply AWP.ret)))
  exact Ends.i rfl rfl
theorem A_alone {cs : List Cd} {vs : List Sv} {i : Nat} (hl : vs.length ≤ 9223372036854775807) (hi : i < vs.length) : ACalls Tryd.prog 40 [lib cs vs, iV i] [] (bV (aloneB vs i)) [] := by
  refine acalls_of_body Tryd.func40 rfl (Nat.le_of_ble_eq_true rfl) ?_
  have hm : (vs.map svD).length = vs.length := List.length_map _
  have eg : vs.getD i sv0 = vs[i] := by rw [List.getD_eq_getElem?_getD, List.getElem?_eq_getElem hi]; rfl
  have h1 := A_user (cs := cs) (vs := vs) (k := vs[i].2.1) hl
  have h2 := A_user (cs := cs) (vs := vs) (k := vs[i].2.2.1) hl
  unfold aloneB
  rw [eg]
  generalize userI vs vs[i].2.1 = u1 at *
  generalize userI vs vs[i].2.2.1 = u2 at *
  (repeat' (first
  | (apply W.gOn; exact rfl; exact rfl)
  | (apply W.qd; (first
    | (apply (q_callC (h1)); exact rfl; exact rfl; kernel_rfl; kernel_rfl; kernel_rfl)|(apply (q_callC (h2)); exact rfl; exact rfl; kernel_rfl; kernel_rfl; kernel_rfl)|(apply q_mv; (first|exact vD|exact vO|exact vP|exact vA|exact vF|exact vR|exact vN|exact vY|exact vT|exact vM|exact vL|exact vX))|(apply q_as; (first|exact vD|exact vO|exact vP|exact vA|exact vF|exact vR|exact vN|exact vY|exact vT|exact vM|exact vL|exact vX))|(apply q_fld_optF; (iterate 3 exact rfl))|(apply q_ld_box; (iterate 4 exact rfl))|(apply q_ld_boxF; (iterate 4 exact rfl))|(apply q_eql; exact rfl; exact rfl)|(apply q_ld_maps; (iterate 3 exact rfl); (first | omega | (focus (simp; done))))|(apply q_ix_slF; (iterate 4 exact rfl); (first | (with_reducible exact rfl) | exact natI_spec rfl | assumption | exact (Int.toNat_of_nonneg (by omega)).symm); (first | omega | (focus (simp only [List.length_map]; omega)) | (focus (simp; done)) | (focus (simp; omega))))|(apply (q_pickT (u := .d _)); exact rfl; exact rfl)
    | (apply (q_pickF (u := .d _)); exact rfl; exact rfl)))
  | (apply W.ed; (first
    | (apply e_boxF; (iterate 3 exact rfl); kernel_rfl; kernel_rfl)
    | (apply e_allocF; (iterate 3 exact rfl); kernel_rfl)))|(apply W.ln; (apply l_st_box; (iterate 6 exact rfl); kernel_rfl; kernel_rfl; kernel_rfl))|(refine W.gOff _ _ rfl rfl (by intro h; cases h) ?_)|(apply AWP.seq)|(apply ACont_normal)|(apply W.region; kernel_rfl)|(apply Walk.nil)|(apply AWP.ret)|(refine W.gT _ _ rfl rfl (fun hb => ?_) (fun hb => ?_) <;> ((try simp only [hb, zA, zB]) <;> (try simp only [zC, zD, zE, zF, zG, zH, zI, zJ] at hb) <;> (try (exfalso; omega))))
  | (refine W.gF _ _ rfl rfl (fun hb => ?_) (fun hb => ?_) <;> ((try simp only [hb, zA, zB]) <;> (try simp only [zC, zD, zE, zF, zG, zH, zI, zJ] at hb) <;> (try (exfalso; omega))))))
  all_goals (refine Ends.b rfl ?_; rw [Bool.eq_iff_iff]; simp <;> omega)
end Go.Proofs.YtaclmbbiegklcaaDoor
end
section
/- Layer 30 over the machine of abstract values: Valid. -/
namespace Go.Proofs.YtaclmbbiegklcaaDoor
open Go.RowKit
set_option maxHeartbeats 4000000
set_option maxRecDepth 100000
structure LibIn (cs : List Cd) (vs : List Sv) : Prop where
  cn : ∀ c ∈ cs, NameIn c.1
  cp : ∀ c ∈ cs, c.2.2.2.1.length ≤ 9223372036854775807
  vn : ∀ v ∈ vs, NameIn v.1
  cl : cs.length ≤ 9223372036854775807
  vl : vs.length ≤ 9223372036854775807
def okC (cs : List Cd) (i : Nat) : Bool := decide (fcI cs (cs.getD i cd0).1 = (i : Int)) && chkD (cs.getD i cd0)
def okV (cs : List Cd) (vs : List Sv) (i : Nat) : Bool := decide (fvI vs (vs.getD i sv0).1 = (i : Int)) && (plausB (vs.getD i sv0).1 (vs.getD i sv0).2.2.2.1 (vs.getD i sv0).2.2.2.2 && (keepsB cs (vs.getD i sv0).2.1 (vs.getD i sv0).2.2.2.1 && (decide ((vs.getD i sv0).2.2.1 ≠ (vs.getD i sv0).2.1) && ((decide ((vs.getD i sv0).2.2.1 = -1) || keepsB cs (vs.getD i sv0).2.2.1 (vs.getD i sv0).2.2.2.1) && aloneB vs i))))
def validB (cs : List Cd) (vs : List Sv) : Bool := (decide (cs.length ≤ 8) && decide (vs.length ≤ 8)) && ((List.range cs.length).all (okC cs) && (List.range vs.length).all (okV cs vs))
theorem idxA_nn {α : Type} {q : α → Bool} {l : List α} {x : α} (hx : x ∈ l) (h : q x = true) : 0 ≤ idxA q l := by
  unfold idxA
  split
  · omega
  · rename_i hn
    have := (List.findIdx?_eq_none_iff.1 hn) x hx
    rw [h] at this; cases this
theorem find_nn {i : Int} (h : 0 ≤ i) : findA i = .tup [iV i, iV 0] := by
  unfold findA fxI fxE
  rw [if_neg (by omega), if_neg (by omega)]
theorem fin_chk {c : Cd} (h : chkD c = true) (hn : NameIn c.1) : FInD c := by
  have hv := chk_valid h
  unfold validC at hv
  simp only [Bool.and_eq_true, decide_eq_true_eq] at hv
  exact ⟨hn.b, hn.l, by omega, by omega⟩
theorem all_range {n : Nat} {p : Nat → Bool} : (List.range n).all p = true ↔ ∀ i, i < n → p i = true := by
  rw [List.all_eq_true]
  exact ⟨fun h i hi => h i (List.mem_range.2 hi), fun h i hi => h i (List.mem_range.1 hi)⟩
theorem range_bad {n i : Nat} {p : Nat → Bool} (hi : i < n) (h : p i = false) : (List.range n).all p = false := by
  rw [List.all_eq_false]
  exact ⟨i, List.mem_range.2 hi, by rw [h]; decide⟩
attribute [local irreducible] Quiet Eff OpOk AWPG ACont ABlock ACalls AGoto
theorem A_valid30 {cs : List Cd} {vs : List Sv} (h : LibIn cs vs) : ACalls Tryd.prog 14 [lib cs vs] [] (bV (validB cs vs)) [] := by
  refine acalls_of_body Tryd.func14 rfl (Nat.le_of_ble_eq_true rfl) ?_
  have hmc : (cs.map cdD).length = cs.length := List.length_map _
  have hmv : (vs.map svD).length = vs.length := List.length_map _
  have hcl := h.cl
  have hvl := h.vl
  by_cases hg : cs.length ≤ 8 ∧ vs.length ≤ 8
  case neg =>
    have e : validB cs vs = false := by
      unfold validB
      rw [Bool.and_eq_false_iff]
      left
      rw [Bool.and_eq_false_iff, decide_eq_false_iff_not, decide_eq_false_iff_not]
      omega
    rw [e]
    (repeat' (first
  | (apply W.gOn; exact rfl; exact rfl)
  | (apply W.qd; (first
    | (apply q_mv; (first|exact vD|exact vO|exact vP|exact vA|exact vF|exact vR|exact vN|exact vY|exact vT|exact vM|exact vL|exact vX))|(apply q_as; (first|exact vD|exact vO|exact vP|exact vA|exact vF|exact vR|exact vN|exact vY|exact vT|exact vM|exact vL|exact vX))|(apply q_fld_optF; (iterate 3 exact rfl))|(apply q_ld_box; (iterate 4 exact rfl))|(apply q_gtr; exact rfl; exact rfl)|(apply q_len_sl; exact rfl; exact rfl)|(apply (q_pickT (u := .d _)); exact rfl; exact rfl)
    | (apply (q_pickF (u := .d _)); exact rfl; exact rfl)))|(apply W.ed; (apply e_boxF; (iterate 3 exact rfl); kernel_rfl; kernel_rfl))|(refine W.gOff _ _ rfl rfl (by intro h; cases h) ?_)|(apply AWP.seq)|(apply ACont_normal)|(apply (W.regionS 3); exact rfl; kernel_rfl)|(apply Walk.nil)|(apply AWP.ret)|(apply ACont_ret)|(apply W.condT; exact rfl)|(refine W.gF _ _ rfl rfl (fun hb => ?_) (fun hb => ?_) <;> ((try simp only [hb, zA, zB]) <;> (try simp only [zC, zD, zE, zF, zG, zH, zI, zJ] at hb) <;> (try (exfalso; omega))))
  | (refine W.cond _ rfl (fun hb => ?_) (fun hb => ?_) <;> ((try simp only [hb, zA, zB]) <;> (try simp only [zC, zD, zE, zF, zG, zH, zI, zJ] at hb) <;> (try (exfalso; omega))))))
    all_goals first | exact Ends.b rfl rfl | (exfalso; omega)
  obtain ⟨hg1, hg2⟩ := hg
  have hV : validB cs vs = ((List.range cs.length).all (okC cs) && (List.range vs.length).all (okV cs vs)) := by
    unfold validB
    rw [decide_eq_true hg1, decide_eq_true hg2]; rfl
  have hbC : ∀ i, i < cs.length → okC cs i = false → validB cs vs = false := fun i hi h1 => by rw [hV, range_bad hi h1]; rfl
  have hbV : ∀ i, i < vs.length → okV cs vs i = false → validB cs vs = false := fun i hi h1 => by rw [hV, range_bad hi h1, Bool.and_false]
  have hgV : (∀ i, i < cs.length → okC cs i = true) → (∀ i, i < vs.length → okV cs vs i = true) → validB cs vs = true := fun h1 h2 => by rw [hV, all_range.2 h1, all_range.2 h2]; rfl
  clear hV
  generalize validB cs vs = V at *
  (repeat' (first
  | (apply W.gOn; exact rfl; exact rfl)
  | (apply W.qd; (first
    | (apply q_mv; (first|exact vD|exact vO|exact vP|exact vA|exact vF|exact vR|exact vN|exact vY|exact vT|exact vM|exact vL|exact vX))|(apply q_as; (first|exact vD|exact vO|exact vP|exact vA|exact vF|exact vR|exact vN|exact vY|exact vT|exact vM|exact vL|exact vX))|(apply q_fld_optF; (iterate 3 exact rfl))|(apply q_ld_box; (iterate 4 exact rfl))|(apply q_gtr; exact rfl; exact rfl)|(apply q_len_sl; exact rfl; exact rfl)
    | (apply (q_pickF (u := .d _)); exact rfl; exact rfl)))|(apply W.ed; (apply e_boxF; (iterate 3 exact rfl); kernel_rfl; kernel_rfl))|(apply AWP.seq)|(apply ACont_normal)|(apply (W.regionS 4); exact rfl; kernel_rfl)|(apply Walk.nil)|(apply AWP.block)|(apply AWP.skip)|(refine W.gF _ _ rfl rfl (fun hb => ?_) (fun hb => ?_) <;> ((try simp only [hb, zA, zB]) <;> (try simp only [zC, zD, zE, zF, zG, zH, zI, zJ] at hb) <;> (try (exfalso; omega))))
  | (refine W.cond _ rfl (fun hb => ?_) (fun hb => ?_) <;> ((try simp only [hb, zA, zB]) <;> (try simp only [zC, zD, zE, zF, zG, zH, zI, zJ] at hb) <;> (try (exfalso; omega))))))
  all_goals try (exfalso; omega)
  refine AWP.loopW (α := Nat) (fun k => k ≤ cs.length ∧ ∀ j, j < k → okC cs j = true) (fun k => ⟨[(24, iV k), (23, iV cs.length), (22, cds cs), (1, .opt 0 0)], [.box [cds cs, svs vs]]⟩) (fun k => cs.length - k) 0 ⟨Nat.zero_le _, fun j hj => by omega⟩ ?wk0 fun k hk => ?_
  case wk0 => exact ⟨[0], rfl, rfl, rfl, rfl, iV_eq (by rw [hmc]), rfl, rfl, trivial⟩
  by_cases hkl : k < cs.length
  · have hmem := List.getElem_mem hkl
    have eg : cs.getD k cd0 = cs[k] := by rw [List.getD_eq_getElem?_getD, List.getElem?_eq_getElem hkl]; rfl
    have hn := h.cn _ hmem
    have hf := A_findC (cs := cs) (vs := vs) (nm := cs[k].1) hcl (fun c hc => (h.cn c hc).b) hn.b
    have hnn : 0 ≤ fcI cs cs[k].1 := idxA_nn hmem (decide_eq_true rfl)
    rw [find_nn hnn] at hf
    obtain ⟨e, hc, he⟩ := A_lcheckG (M := cs[k].2.1) (D := cs[k].2.2.1) (par := cs[k].2.2.2.1) (dom := cs[k].2.2.2.2) hn.b hn.l (h.cp _ hmem)
    have hok : okC cs k = (decide (fcI cs cs[k].1 = (k : Int)) && chkD cs[k]) := by unfold okC; rw [eg]
    have he2 : e = 0 ↔ chkD cs[k] = true := he
    replace hok := Lib.hid hok
    have hbk := hbC k hkl
    have hnx : okC cs k = true → ∀ j, j < k + 1 → okC cs j = true := fun h1 j hj => by
      by_cases e : j = k
      · subst e; exact h1
      · exact hk.2 j (by omega)
    clear hk hbC hbV hgV he
    generalize fcI cs cs[k].1 = fi at *
    generalize chkD cs[k] = ck at *
    (repeat' (first
  | (apply W.gOn; exact rfl; exact rfl)
  | (apply W.qd; (first
    | (apply (q_callC (hf)); exact rfl; exact rfl; kernel_rfl; kernel_rfl; kernel_rfl)|(apply (q_callC (hc)); exact rfl; exact rfl; kernel_rfl; kernel_rfl; kernel_rfl)|(apply q_mv; (first|exact vD|exact vO|exact vP|exact vA|exact vF|exact vR|exact vN|exact vY|exact vT|exact vM|exact vL|exact vX))|(apply q_as; (first|exact vD|exact vO|exact vP|exact vA|exact vF|exact vR|exact vN|exact vY|exact vT|exact vM|exact vL|exact vX))|(apply q_fld_optF; (iterate 3 exact rfl))|(apply q_ld_box; (iterate 4 exact rfl))|(apply q_ld_boxF; (iterate 4 exact rfl))|(apply q_lss; exact rfl; exact rfl)|(apply q_neq; exact rfl; exact rfl)|(apply q_add; exact rfl; exact rfl; omega)|(apply q_extract; exact rfl; exact rfl)|(apply q_ld_maps; (iterate 3 exact rfl); (first | omega | (focus (simp; done))))|(apply q_ix_slF; (iterate 4 exact rfl); (first | (with_reducible exact rfl) | exact natI_spec rfl | assumption | exact (Int.toNat_of_nonneg (by omega)).symm); (first | omega | (focus (simp only [List.length_map]; omega)) | (focus (simp; done)) | (focus (simp; omega))))|(apply (q_pickT (u := .d _)); exact rfl; exact rfl)
    | (apply (q_pickF (u := .d _)); exact rfl; exact rfl)))|(apply W.ed; (apply e_allocF; (iterate 3 exact rfl); kernel_rfl))|(apply W.ln; (apply l_st_box; (iterate 6 exact rfl); kernel_rfl; kernel_rfl; kernel_rfl))|(refine W.gOff _ _ rfl rfl (by intro h; cases h) ?_)|(apply AWP.seq)|(apply ACont_normal)|(apply W.region; kernel_rfl)|(apply Walk.nil)|(apply AWP.block)|(apply AWP.skip)|(apply AWP.ret)|(apply ACont_ret)|(apply ABlock_normal)|(apply ABlock_ret)|(apply W.condT; exact rfl)|(refine W.gF _ _ rfl rfl (fun hb => ?_) (fun hb => ?_) <;> ((try simp only [hb, zA, zB]) <;> (try simp only [zC, zD, zE, zF, zG, zH, zI, zJ] at hb) <;> (try (exfalso; omega))))
  | (refine W.cond _ rfl (fun hb => ?_) (fun hb => ?_) <;> ((try simp only [hb, zA, zB]) <;> (try simp only [zC, zD, zE, zF, zG, zH, zI, zJ] at hb) <;> (try (exfalso; omega))))))
    all_goals first
      | (refine Ends.b rfl (hbk ?_).symm; rw [hok.out, Bool.and_eq_false_iff, decide_eq_false_iff_not]; first | (left; omega) | (right; rw [Bool.eq_false_iff]; intro h9; have := he2.2 h9; omega))|(refine ⟨k + 1, ⟨by omega, hnx ?_⟩, by omega, [0], rfl, rfl, rfl, iV_eq (by omega), rfl, rfl, rfl, trivial⟩; rw [hok.out, Bool.and_eq_true, decide_eq_true_eq]; exact ⟨by omega, he2.1 (by omega)⟩)
  · have hC : ∀ i, i < cs.length → okC cs i = true := fun i hi => hk.2 i (by omega)
    have hF : ∀ c ∈ cs, FInD c := fun c hc => by
      obtain ⟨j, hj, rfl⟩ := List.getElem_of_mem hc
      have h1 := hC j hj
      unfold okC at h1
      rw [Bool.and_eq_true, List.getD_eq_getElem?_getD, List.getElem?_eq_getElem hj] at h1
      exact fin_chk h1.2 (h.cn _ hc)
    have hgV := hgV hC
    clear hk hbC hC
    (repeat' (first
  | (apply W.qd; (first
    | (apply q_mv; (first|exact vD|exact vO|exact vP|exact vA|exact vF|exact vR|exact vN|exact vY|exact vT|exact vM|exact vL|exact vX))|(apply q_fld_optF; (iterate 3 exact rfl))|(apply q_ld_box; (iterate 4 exact rfl))|(apply q_lss; exact rfl; exact rfl)
    | (apply q_len_sl; exact rfl; exact rfl)))|(apply AWP.seq)|(apply ACont_normal)|(apply (W.regionS 11); exact rfl; kernel_rfl)|(apply Walk.nil)|(apply AWP.block)|(apply AWP.exit)|(apply ACont_exit)|(apply ABlock_exit)
  | (refine W.cond _ rfl (fun hb => ?_) (fun hb => ?_) <;> ((try simp only [hb, zA, zB]) <;> (try simp only [zC, zD, zE, zF, zG, zH, zI, zJ] at hb) <;> (try (exfalso; omega))))))
    all_goals try (exfalso; omega)
    refine AWP.loopW (α := Nat) (fun k => k ≤ vs.length ∧ ∀ j, j < k → okV cs vs j = true) (fun k => ⟨[(48, iV k), (47, iV vs.length), (46, svs vs), (1, .opt 0 0)], [.box [cds cs, svs vs]]⟩) (fun k => vs.length - k) 0 ⟨Nat.zero_le _, fun j hj => by omega⟩ ?wk1 fun k hk => ?_
    case wk1 => exact ⟨[0], rfl, rfl, rfl, rfl, iV_eq (by rw [hmv]), rfl, rfl, trivial⟩
    by_cases hkv : k < vs.length
    · have hmem := List.getElem_mem hkv
      have eg : vs.getD k sv0 = vs[k] := by rw [List.getD_eq_getElem?_getD, List.getElem?_eq_getElem hkv]; rfl
      have hn := h.vn _ hmem
      have hf := A_findV (cs := cs) (vs := vs) (nm := vs[k].1) hvl (fun c hc => (h.vn c hc).b) hn.b
      have hnn : 0 ≤ fvI vs vs[k].1 := idxA_nn hmem (decide_eq_true rfl)
      rw [find_nn hnn] at hf
      have hp := A_plausible (l := vs[k].2.2.2.1) (w := vs[k].2.2.2.2) hn
      have hk1 := A_keeps (vs := vs) (k := vs[k].2.1) (n := vs[k].2.2.2.1) hF
      have hk2 := A_keeps (vs := vs) (k := vs[k].2.2.1) (n := vs[k].2.2.2.1) hF
      have ha := A_alone (cs := cs) (vs := vs) hvl hkv
      have hok : okV cs vs k = (decide (fvI vs vs[k].1 = (k : Int)) && (plausB vs[k].1 vs[k].2.2.2.1 vs[k].2.2.2.2 && (keepsB cs vs[k].2.1 vs[k].2.2.2.1 && (decide (vs[k].2.2.1 ≠ vs[k].2.1) && ((decide (vs[k].2.2.1 = -1) || keepsB cs vs[k].2.2.1 vs[k].2.2.2.1) && aloneB vs k))))) := by unfold okV; rw [eg]
      replace hok := Lib.hid hok
      have hbk := hbV k hkv
      have hnx : okV cs vs k = true → ∀ j, j < k + 1 → okV cs vs j = true := fun h1 j hj => by
        by_cases e : j = k
        · subst e; exact h1
        · exact hk.2 j (by omega)
      clear hk hbV hgV
      generalize fvI vs vs[k].1 = fi at *
      generalize plausB vs[k].1 vs[k].2.2.2.1 vs[k].2.2.2.2 = b1 at *
      generalize keepsB cs vs[k].2.1 vs[k].2.2.2.1 = b2 at *
      generalize keepsB cs vs[k].2.2.1 vs[k].2.2.2.1 = b3 at *
      generalize aloneB vs k = b4 at *
      (repeat' (first
  | (apply W.gOn; exact rfl; exact rfl)
  | (apply W.qd; (first
    | (apply (q_callC (hf)); exact rfl; exact rfl; kernel_rfl; kernel_rfl; kernel_rfl)|(apply (q_callC (hp)); exact rfl; exact rfl; kernel_rfl; kernel_rfl; kernel_rfl)|(apply (q_callC (hk1)); exact rfl; exact rfl; kernel_rfl; kernel_rfl; kernel_rfl)|(apply (q_callC (hk2)); exact rfl; exact rfl; kernel_rfl; kernel_rfl; kernel_rfl)|(apply (q_callC (ha)); exact rfl; exact rfl; kernel_rfl; kernel_rfl; kernel_rfl)|(apply q_mv; (first|exact vD|exact vO|exact vP|exact vA|exact vF|exact vR|exact vN|exact vY|exact vT|exact vM|exact vL|exact vX))|(apply q_as; (first|exact vD|exact vO|exact vP|exact vA|exact vF|exact vR|exact vN|exact vY|exact vT|exact vM|exact vL|exact vX))|(apply q_fld_optF; (iterate 3 exact rfl))|(apply q_ld_box; (iterate 4 exact rfl))|(apply q_ld_boxF; (iterate 4 exact rfl))|(apply q_lss; exact rfl; exact rfl)|(apply q_eql; exact rfl; exact rfl)|(apply q_neq; exact rfl; exact rfl)|(apply q_not; exact rfl)|(apply q_add; exact rfl; exact rfl; omega)|(apply q_extract; exact rfl; exact rfl)|(apply q_ld_maps; (iterate 3 exact rfl); (first | omega | (focus (simp; done))))|(apply q_ix_slF; (iterate 4 exact rfl); (first | (with_reducible exact rfl) | exact natI_spec rfl | assumption | exact (Int.toNat_of_nonneg (by omega)).symm); (first | omega | (focus (simp only [List.length_map]; omega)) | (focus (simp; done)) | (focus (simp; omega))))|(apply (q_pickT (u := .d _)); exact rfl; exact rfl)
    | (apply (q_pickF (u := .d _)); exact rfl; exact rfl)))|(apply W.ed; (apply e_allocF; (iterate 3 exact rfl); kernel_rfl))|(apply W.ln; (apply l_st_box; (iterate 6 exact rfl); kernel_rfl; kernel_rfl; kernel_rfl))|(refine W.gOff _ _ rfl rfl (by intro h; cases h) ?_)|(apply AWP.seq)|(apply ACont_normal)|(apply W.region; kernel_rfl)|(apply Walk.nil)|(apply AWP.block)|(apply AWP.skip)|(apply AWP.ret)|(apply ACont_ret)|(apply ABlock_normal)|(apply ABlock_ret)|(apply W.condT; exact rfl)|(refine W.gT _ _ rfl rfl (fun hb => ?_) (fun hb => ?_) <;> ((try simp only [hb, zA, zB]) <;> (try simp only [zC, zD, zE, zF, zG, zH, zI, zJ] at hb) <;> (try (exfalso; omega))))|(refine W.gF _ _ rfl rfl (fun hb => ?_) (fun hb => ?_) <;> ((try simp only [hb, zA, zB]) <;> (try simp only [zC, zD, zE, zF, zG, zH, zI, zJ] at hb) <;> (try (exfalso; omega))))
  | (refine W.cond _ rfl (fun hb => ?_) (fun hb => ?_) <;> ((try simp only [hb, zA, zB]) <;> (try simp only [zC, zD, zE, zF, zG, zH, zI, zJ] at hb) <;> (try (exfalso; omega))))))
      all_goals first
        | (refine Ends.b rfl (hbk ?_).symm; rw [hok.out]; simp [*] <;> omega)|(refine ⟨k + 1, ⟨by omega, hnx ?_⟩, by omega, [0], rfl, rfl, rfl, iV_eq (by omega), rfl, rfl, rfl, trivial⟩; rw [hok.out]; simp [*] <;> omega)
    · have e : V = true := hgV fun i hi => hk.2 i (by omega)
      subst e
      clear hk hbV hgV
      (repeat' (first
  | (apply W.qd; (first
    | (apply q_as; (first|exact vD|exact vO|exact vP|exact vA|exact vF|exact vR|exact vN|exact vY|exact vT|exact vM|exact vL|exact vX))
    | (apply q_lss; exact rfl; exact rfl)))|(apply AWP.seq)|(apply ACont_normal)|(apply W.region; kernel_rfl)|(apply Walk.nil)|(apply AWP.exit)|(apply AWP.ret)|(apply ACont_exit)|(apply ABlock_exit)
  | (refine W.cond _ rfl (fun hb => ?_) (fun hb => ?_) <;> ((try simp only [hb, zA, zB]) <;> (try simp only [zC, zD, zE, zF, zG, zH, zI, zJ] at hb) <;> (try (exfalso; omega))))))
      all_goals exact Ends.b rfl rfl
end Go.Proofs.YtaclmbbiegklcaaDoor
end
