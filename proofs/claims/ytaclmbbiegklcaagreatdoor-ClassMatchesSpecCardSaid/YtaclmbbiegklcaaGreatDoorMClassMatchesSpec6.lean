import Derived.Test.YtaclmbbiegklcaaGreatDoorMClassMatchesSpec5
/- Joined texts: Cl1 Cl2 Cl3 Cl4 Cl5 Cl6 Cl7 Cl8 Cl11 Rf30 Rf30b. -/
set_option linter.unusedVariables false
set_option linter.unusedSimpArgs false
section
namespace Go.Proofs.YtaclmbbiegklcaaGreatDoor
open Go.RowKit
set_option maxHeartbeats 4000000
set_option maxRecDepth 100000
abbrev Cd := List Nat × Int × Int × List (List Int) × Int
abbrev Sv := List Nat × Int × Int × Int × Int
def cdD (c : Cd) : List Dat := [.v (.string (bytesOf c.1)), .v (.int .i64 c.2.1), .v (.int .i64 c.2.2.1), .sl 1 (c.2.2.2.1.map rD), .v (.int .i64 c.2.2.2.2)]
def svD (v : Sv) : List Dat := [.v (.string (bytesOf v.1)), .v (.int .i64 v.2.1), .v (.int .i64 v.2.2.1), .v (.int .i64 v.2.2.2.1), .v (.int .i64 v.2.2.2.2)]
abbrev cdA1 (c : Cd) : AV := .agg ((cdD c).map .d)
abbrev svA1 (v : Sv) : AV := .agg ((svD v).map .d)
abbrev cds (l : List Cd) : AV := .d (.sl 5 (l.map cdD))
abbrev svs (l : List Sv) : AV := .d (.sl 5 (l.map svD))
abbrev lib (cs : List Cd) (vs : List Sv) : AV := .agg [cds cs, svs vs]
def cd0 : Cd := ([], 0, 0, [], 0)
def sv0 : Sv := ([], 0, 0, 0, 0)
def chkD (c : Cd) : Bool := chkC c.1 c.2.1 c.2.2.1 c.2.2.2.1 c.2.2.2.2
def losD (c : Cd) : Int := lossC c.1 c.2.1 c.2.2.1 c.2.2.2.1 c.2.2.2.2
def FInD (c : Cd) : Prop := FIn c.1 c.2.2.1 c.2.2.2.1
structure NameIn (s : List Nat) : Prop where
  b : isB s
  l : s.length < 9223372036854775808
def nameB (s : List Nat) : Bool := (decide (1 ≤ s.length) && decide (s.length ≤ 12)) && (List.range s.length).all (wordAt s)
def fxI (i : Int) : Int := if i < 0 then 0 else i
def fxE (i : Int) : Int := if i < 0 then 12 else 0
abbrev findA (i : Int) : AV := .tup [iV (fxI i), iV (fxE i)]
def fcI (cs : List Cd) (nm : List Nat) : Int := idxA (fun c => decide (c.1 = nm)) cs
def fvI (vs : List Sv) (nm : List Nat) : Int := idxA (fun v => decide (v.1 = nm)) vs
def hasB (n : Nat) (k : Int) : Bool := decide (0 ≤ k) && decide (k < (n : Int))
def keepsB (cs : List Cd) (k n : Int) : Bool := hasB cs.length k && decide (n ≤ losD (cs.getD k.toNat cd0))
def plausB (nm : List Nat) (l w : Int) : Bool := nameB nm && (decide (0 ≤ l) && (decide (l ≤ 4) && (decide (1 ≤ w) && decide (w ≤ 1048576))))
def usesB (k : Int) (v : Sv) : Bool := decide (v.2.1 = k) || decide (v.2.2.1 = k)
def userI (vs : List Sv) (k : Int) : Int := idxA (usesB k) vs
def aloneB (vs : List Sv) (i : Nat) : Bool := decide (userI vs (vs.getD i sv0).2.1 = (i : Int)) && (decide ((vs.getD i sv0).2.2.1 = -1) || decide (userI vs (vs.getD i sv0).2.2.1 = (i : Int)))
attribute [local irreducible] Quiet Eff OpOk AWPG ACont ABlock ACalls AGoto
theorem A_small30 (c : Nat) : ACalls Tryz.prog 152 [.d (.v (.int .u8 c))] [] (bV (letB c)) [] := by
  refine acalls_of_body Tryz.func152 rfl (Nat.le_of_ble_eq_true rfl) ?_
  unfold letB
  (repeat' (first
  | (apply yFb; exact rfl; exact rfl)
  | (apply W.qd; (first
    | (apply q_mv; (conv => lhs; whnf))|(apply q_as; (conv => lhs; whnf))|(apply q_leq; exact rfl; exact rfl)|(apply q_geq; exact rfl; exact rfl)|(apply (yEb (u := .d _)); exact rfl; exact rfl)
    | (apply (yDb (u := .d _)); exact rfl; exact rfl)))|(refine W.gOff _ _ rfl rfl (by intro h; cases h) ?_)|(apply yA)|(apply yB)|(apply yC; kernel_rfl)|(apply yE)|(apply yJ)
  | (refine W.gT _ _ rfl rfl (fun hb => ?_) (fun hb => ?_) <;> ((try simp only [hb, zA, zB]) <;> (try simp only [zC, zD, zE, zF, zG, zH, zI, zJ] at hb) <;> (try (exfalso; omega))))))
  all_goals refine Ends.b rfl ?_
  all_goals first | (rw [Bool.eq_iff_iff]; simp <;> omega) | (simp; omega)
theorem A_name30 {s : List Nat} (h : NameIn s) : ACalls Tryz.prog 99 [bS s] [] (bV (nameB s)) [] := by
  refine acalls_of_body Tryz.func99 rfl (Nat.le_of_ble_eq_true rfl) ?_
  have hs := h.b
  have hl := h.l
  have hL := A_small30
  (repeat' (first
  | (apply W.qd; (first
    | (apply q_mv; (conv => lhs; whnf))|(apply q_as; (conv => lhs; whnf))
    | (apply q_len_bs; exact rfl; exact rfl)))|(apply yA)|(apply yB)|(apply (W.regionS 3); exact rfl; kernel_rfl)|(apply yE)
  | (apply yG)))
  refine AWP.loopW (α := Nat) (fun k => k ≤ s.length ∧ ∀ j, j < k → wordAt s j = true) (fun k => ⟨[(8, iV k), (7, iV s.length), (3, .fn 152 []), (0, bS s)], []⟩) (fun k => s.length - k) 0 ⟨Nat.zero_le _, fun j hj => by omega⟩ ⟨[], rfl, rfl, rfl, by (repeat (first | exact trivial | refine ⟨rfl, ?_⟩))⟩ fun k hk => ?_
  by_cases hkl : k < s.length
  · have eg : s.getD k 0 = s[k] := by rw [List.getD_eq_getElem?_getD, List.getElem?_eq_getElem hkl]; rfl
    have hnext : wordAt s k = true → ∀ j, j < k + 1 → wordAt s j = true := fun h j hj => by
      by_cases e : j = k
      · subst e; exact h
      · exact hk.2 j (by omega)
    have hbad : wordAt s k = false → nameB s = false := fun h => by
      unfold nameB
      rw [Bool.and_eq_false_iff]
      right
      rw [List.all_eq_false]
      exact ⟨k, List.mem_range.2 hkl, by rw [h]; decide⟩
    have hwa : wordAt s k = (letB s[k] || (decide (k ≠ 0) && (decide (48 ≤ s[k]) && decide (s[k] ≤ 57)))) := by unfold wordAt digB; rw [eg]
    replace hwa := Lib.hid hwa
    clear hk
    (repeat' (first
  | (apply yFb; exact rfl; exact rfl)
  | (apply W.qd; (first
    | (apply (yW (hL s[k])); exact rfl; exact rfl; (iterate 3 kernel_rfl))|(apply q_mv; (conv => lhs; whnf))|(apply q_as; (conv => lhs; whnf))|(apply q_lss; exact rfl; exact rfl)|(apply q_gtr; exact rfl; exact rfl)|(apply q_eql; exact rfl; exact rfl)|(apply q_not; exact rfl)|(apply q_add; exact rfl; exact rfl; omega)|(apply q_ix_bs; (iterate 3 exact rfl); (first | (with_reducible exact rfl) | exact natI_spec rfl | assumption | exact (Int.toNat_of_nonneg (by omega)).symm); (first | omega | (focus (simp only [List.length_map]; omega)) | (focus (simp; done)) | (focus (simp; omega))); assumption)|(apply (yEb (u := .d _)); exact rfl; exact rfl)
    | (apply (yDb (u := .d _)); exact rfl; exact rfl)))|(refine W.gOff _ _ rfl rfl (by intro h; cases h) ?_)|(apply yA)|(apply yB)|(apply yC; kernel_rfl)|(apply yE)|(apply yG)|(apply yH)|(apply yJ)|(apply yP)|(apply yL)|(apply yN)|(apply yQ; exact rfl)|(apply yR; exact rfl)|(refine W.gT _ _ rfl rfl (fun hb => ?_) (fun hb => ?_) <;> ((try simp only [hb, zA, zB]) <;> (try simp only [zC, zD, zE, zF, zG, zH, zI, zJ] at hb) <;> (try (exfalso; omega))))|(refine W.gF _ _ rfl rfl (fun hb => ?_) (fun hb => ?_) <;> ((try simp only [hb, zA, zB]) <;> (try simp only [zC, zD, zE, zF, zG, zH, zI, zJ] at hb) <;> (try (exfalso; omega))))
  | (refine W.cond _ rfl (fun hb => ?_) (fun hb => ?_) <;> ((try simp only [hb, zA, zB]) <;> (try simp only [zC, zD, zE, zF, zG, zH, zI, zJ] at hb) <;> (try (exfalso; omega))))))
    all_goals first
      | (refine Ends.b rfl (hbad ?_).symm; rw [hwa.out, Bool.or_eq_false_iff]; refine ⟨by assumption, ?_⟩; simp; omega)|(refine ⟨k + 1, ⟨by omega, hnext ?_⟩, by omega, [], rfl, rfl, rfl, iV_eq (by omega), rfl, rfl, rfl, trivial⟩; rw [hwa.out, Bool.or_eq_true]; first | exact .inl (by assumption) | (refine .inr ?_; simp; omega))
  · have hall : (List.range s.length).all (wordAt s) = true := by
      rw [List.all_eq_true]
      intro j hj
      exact hk.2 j (by have := List.mem_range.1 hj; omega)
    unfold nameB
    rw [hall, Bool.and_true]
    clear hk hall
    (repeat' (first
  | (apply yFb; exact rfl; exact rfl)
  | (apply W.qd; (first
    | (apply q_mv; (conv => lhs; whnf))|(apply q_as; (conv => lhs; whnf))|(apply q_lss; exact rfl; exact rfl)|(apply q_leq; exact rfl; exact rfl)|(apply q_geq; exact rfl; exact rfl)|(apply q_len_bs; exact rfl; exact rfl)|(apply (yEb (u := .d _)); exact rfl; exact rfl)
    | (apply (yDb (u := .d _)); exact rfl; exact rfl)))|(refine W.gOff _ _ rfl rfl (by intro h; cases h) ?_)|(apply yA)|(apply yB)|(apply yC; kernel_rfl)|(apply yE)|(apply yI)|(apply yJ)|(apply yK)|(apply yM)|(refine W.gT _ _ rfl rfl (fun hb => ?_) (fun hb => ?_) <;> ((try simp only [hb, zA, zB]) <;> (try simp only [zC, zD, zE, zF, zG, zH, zI, zJ] at hb) <;> (try (exfalso; omega))))
  | (refine W.cond _ rfl (fun hb => ?_) (fun hb => ?_) <;> ((try simp only [hb, zA, zB]) <;> (try simp only [zC, zD, zE, zF, zG, zH, zI, zJ] at hb) <;> (try (exfalso; omega))))))
    all_goals (refine Ends.b rfl ?_; rw [Bool.eq_iff_iff]; simp <;> omega)
theorem A_plausible {nm : List Nat} {l w : Int} (h : NameIn nm) : ACalls Tryz.prog 49 [bS nm, iV l, iV w] [] (bV (plausB nm l w)) [] := by
  refine acalls_of_body Tryz.func49 rfl (Nat.le_of_ble_eq_true rfl) ?_
  have hn := A_name30 h
  unfold plausB
  cases hq : nameB nm with
  | false =>
    rw [hq] at hn
    (repeat' (first
  | (apply W.qd; (first
    | (apply (yW (hn)); exact rfl; exact rfl; (iterate 3 kernel_rfl))|(apply q_mv; (conv => lhs; whnf))|(apply q_as; (conv => lhs; whnf))
    | (apply (yDb (u := .d _)); exact rfl; exact rfl)))|(refine W.gOff _ _ rfl rfl (by intro h; cases h) ?_)|(apply yA)|(apply yB)|(apply yC; kernel_rfl)|(apply yE)
  | (apply yJ)))
    all_goals exact Ends.b rfl rfl
  | true =>
    rw [hq] at hn
    (repeat' (first
  | (apply yFb; exact rfl; exact rfl)
  | (apply W.qd; (first
    | (apply (yW (hn)); exact rfl; exact rfl; (iterate 3 kernel_rfl))|(apply q_mv; (conv => lhs; whnf))|(apply q_as; (conv => lhs; whnf))|(apply q_leq; exact rfl; exact rfl)|(apply q_geq; exact rfl; exact rfl)|(apply (yEb (u := .d _)); exact rfl; exact rfl)
    | (apply (yDb (u := .d _)); exact rfl; exact rfl)))|(refine W.gOff _ _ rfl rfl (by intro h; cases h) ?_)|(apply yA)|(apply yB)|(apply yC; kernel_rfl)|(apply yE)|(apply yJ)
  | (refine W.gT _ _ rfl rfl (fun hb => ?_) (fun hb => ?_) <;> ((try simp only [hb, zA, zB]) <;> (try simp only [zC, zD, zE, zF, zG, zH, zI, zJ] at hb) <;> (try (exfalso; omega))))))
    all_goals (refine Ends.b rfl ?_; rw [Bool.eq_iff_iff]; simp <;> omega)
theorem A_nmC (c : Cd) : ACalls Tryz.prog 92 [cdA1 c] [] (bS c.1) [] := by
  refine acalls_of_body Tryz.func92 rfl (Nat.le_of_ble_eq_true rfl) ?_
  (repeat' (first
  | (apply W.qd; (first
    | (apply q_as; (conv => lhs; whnf))|(apply yS; (iterate 3 exact rfl))
    | (apply yT; (iterate 4 exact rfl))))|(apply W.ed; (apply yBb; (iterate 3 exact rfl); kernel_rfl; kernel_rfl))|(apply yA)|(apply yB)|(apply yC; kernel_rfl)|(apply yE)
  | (apply yJ)))
  exact Ends.d rfl rfl
theorem A_ixC {O : List Ent} {g : FuncId} {caps : List AV} (q : Cd → Bool) (l : List Cd) (hl : l.length ≤ 9223372036854775807) (hgf : isFn Tryz.prog g = true) (hg : ∀ x ∈ l, ACalls Tryz.prog g (cdA1 x :: caps) O (bV (q x)) O) : ACalls Tryz.prog 147 [cds l, .fn g caps] O (iV (idxA q l)) O := by
  refine acalls_of_bodyS Tryz.func147 rfl (Nat.le_of_ble_eq_true rfl) ?_
  have hm : (l.map cdD).length = l.length := List.length_map _
  (repeat (first
  | (apply W.qd; (first
    | (apply q_mv; (conv => lhs; whnf))|(apply q_as; (conv => lhs; whnf))
    | (apply yV; exact rfl; exact rfl)))|(apply yA)|(apply yB)|(apply yC; kernel_rfl)|(apply yE)
  | (apply yG)))
  refine AWP.loopE (α := Nat) (fun k => k ≤ l.length ∧ ∀ x ∈ l.take k, q x = false) (fun k => ⟨[(8, iV k), (7, iV l.length), (0, cds l), (1, .fn g caps)], O⟩) (fun k => l.length - k) 0 ⟨by omega, by simp⟩ ⟨rfl, rfl, iV_eq (by rw [hm]), rfl, rfl, trivial⟩ fun k hk => ?_
  by_cases hkl : k < l.length
  · have hx := hg l[k] (List.getElem_mem hkl)
    (repeat' (first
  | (apply W.qd; (first
    | (apply q_mv; (conv => lhs; whnf))|(apply q_as; (conv => lhs; whnf))|(apply q_lss; exact rfl; exact rfl)|(apply q_add; exact rfl; exact rfl; omega)|(apply yY; (iterate 3 exact rfl); (first | omega | (focus (simp; done))))
    | (apply yGb; (iterate 4 exact rfl); (first | (with_reducible exact rfl) | exact natI_spec rfl | assumption | exact (Int.toNat_of_nonneg (by omega)).symm); (first | omega | (focus (simp only [List.length_map]; omega)) | (focus (simp; done)) | (focus (simp; omega))))))|(apply W.ed; (apply (e_callS (hx)); exact rfl; exact rfl; (first | assumption | kernel_rfl)))|(apply yA)|(apply yB)|(apply yC; kernel_rfl)|(apply yE)|(apply yG)|(apply yH)|(apply yJ)|(apply yP)|(apply yL)|(apply yN)
  | (refine W.cond _ rfl (fun hb => ?_) (fun hb => ?_) <;> ((try simp only [hb, zA, zB]) <;> (try simp only [zC, zD, zE, zF, zG, zH, zI, zJ] at hb) <;> (try (exfalso; omega))))))
    · exact EndsS.i rfl (idxA_hit hkl hb hk.2).symm
    · refine ⟨k + 1, ⟨by omega, fun x hx => ?_⟩, by omega, ⟨rfl, by (repeat (first | exact trivial | refine ⟨rfl, ?_⟩))⟩⟩
      rw [List.take_succ_eq_append_getElem hkl] at hx
      rcases List.mem_append.1 hx with hx | hx
      · exact hk.2 x hx
      · rw [List.mem_singleton.1 hx]; exact hb
  · (repeat' (first
  | (apply W.qd; (first
    | (apply q_as; (conv => lhs; whnf))
    | (apply q_lss; exact rfl; exact rfl)))|(apply yA)|(apply yB)|(apply yC; kernel_rfl)|(apply yE)|(apply yI)|(apply yJ)|(apply yK)|(apply yM)
  | (refine W.cond _ rfl (fun hb => ?_) (fun hb => ?_) <;> ((try simp only [hb, zA, zB]) <;> (try simp only [zC, zD, zE, zF, zG, zH, zI, zJ] at hb) <;> (try (exfalso; omega))))))
    refine EndsS.i rfl (idxA_miss fun x hx => hk.2 x ?_).symm
    rwa [List.take_of_length_le (by omega)]
abbrev findOC (nm : List Nat) : List Ent := [.box [.fn 92 []], .box [bS nm]]
theorem A_find1C (c : Cd) {nm : List Nat} (h1 : isB c.1) (h2 : isB nm) : ACalls Tryz.prog 148 [cdA1 c, .opt 0 0, .opt 1 0] (findOC nm) (bV (decide (c.1 = nm))) (findOC nm) := by
  refine acalls_of_bodyO Tryz.func148 rfl (Nat.le_of_ble_eq_true rfl) ?_
  have hn := A_nmC c
  (repeat' (first
  | (apply W.qd; (first
    | (apply (yW (hn)); exact rfl; exact rfl; (iterate 3 kernel_rfl))|(apply q_as; (conv => lhs; whnf))|(apply yT; (iterate 4 exact rfl))|(apply yU; (iterate 4 exact rfl))
    | (apply q_eqlS; exact rfl; exact rfl; (first | assumption | exact isB_nil | exact isB_xor (by assumption) (by assumption)); (first | assumption | exact isB_nil | exact isB_xor (by assumption) (by assumption)))))|(apply W.ed; (apply yBb; (iterate 3 exact rfl); kernel_rfl; kernel_rfl))|(apply yA)|(apply yB)|(apply yC; kernel_rfl)|(apply yD; exact rfl; kernel_rfl)|(apply yE)|(apply yF; kernel_rfl)
  | (apply yJ)))
  exact ⟨.inl rfl, [0, 1], [bV (decide (c.1 = nm))], rfl, rfl, ⟨rfl, trivial⟩, AVle.of_eq rfl, rfl⟩
theorem A_findFC {l : List Cd} {nm : List Nat} (hl : l.length ≤ 9223372036854775807) (hb1 : ∀ c ∈ l, isB c.1) (h2 : isB nm) : ACalls Tryz.prog 91 [cds l, .fn 92 [], bS nm] [] (findA (fcI l nm)) [] := by
  refine acalls_of_body Tryz.func91 rfl (Nat.le_of_ble_eq_true rfl) ?_
  have hi := A_ixC (O := findOC nm) (g := 148) (caps := [.opt 0 0, .opt 1 0]) (fun c => decide (c.1 = nm)) l hl (by kernel_rfl) (fun c hc => A_find1C c (hb1 c hc) h2)
  rw [show idxA (fun c : Cd => decide (c.1 = nm)) l = fcI l nm from rfl] at hi
  unfold findA fxI fxE
  generalize fcI l nm = i at *
  by_cases hi0 : i < 0
  · rw [if_pos hi0, if_pos hi0]
    (repeat' (first
  | (apply W.qd; (first
    | (apply q_mv; (conv => lhs; whnf))|(apply q_as; (conv => lhs; whnf))|(apply q_lss; exact rfl; exact rfl)
    | (apply q_makeFunc)))
  | (apply W.ed; (first
    | (apply (e_callS (hi)); exact rfl; exact rfl; (first | assumption | kernel_rfl))
    | (apply yBb; (iterate 3 exact rfl); kernel_rfl; kernel_rfl)))|(apply yA)|(apply yB)|(apply yC; kernel_rfl)|(apply yE)|(apply yJ)|(apply yP)
  | (refine W.cond _ rfl (fun hb => ?_) (fun hb => ?_) <;> ((try simp only [hb, zA, zB]) <;> (try simp only [zC, zD, zE, zF, zG, zH, zI, zJ] at hb) <;> (try (exfalso; omega))))))
    exact Ends.two rfl rfl rfl
  · rw [if_neg hi0, if_neg hi0]
    (repeat' (first
  | (apply W.qd; (first
    | (apply q_mv; (conv => lhs; whnf))|(apply q_as; (conv => lhs; whnf))|(apply q_lss; exact rfl; exact rfl)
    | (apply q_makeFunc)))
  | (apply W.ed; (first
    | (apply (e_callS (hi)); exact rfl; exact rfl; (first | assumption | kernel_rfl))
    | (apply yBb; (iterate 3 exact rfl); kernel_rfl; kernel_rfl)))|(apply yA)|(apply yB)|(apply yC; kernel_rfl)|(apply yE)|(apply yH)|(apply yJ)
  | (refine W.cond _ rfl (fun hb => ?_) (fun hb => ?_) <;> ((try simp only [hb, zA, zB]) <;> (try simp only [zC, zD, zE, zF, zG, zH, zI, zJ] at hb) <;> (try (exfalso; omega))))))
    exact Ends.two rfl rfl rfl
theorem A_findC {cs : List Cd} {vs : List Sv} {nm : List Nat} (hl : cs.length ≤ 9223372036854775807) (hb1 : ∀ c ∈ cs, isB c.1) (h2 : isB nm) : ACalls Tryz.prog 46 [lib cs vs, bS nm] [] (findA (fcI cs nm)) [] := by
  refine acalls_of_body Tryz.func46 rfl (Nat.le_of_ble_eq_true rfl) ?_
  have hf := A_findFC hl hb1 h2
  (repeat' (first
  | (apply W.qd; (first
    | (apply (yW (hf)); exact rfl; exact rfl; (iterate 3 kernel_rfl))|(apply q_mv; (conv => lhs; whnf))|(apply q_as; (conv => lhs; whnf))|(apply yS; (iterate 3 exact rfl))|(apply yT; (iterate 4 exact rfl))
    | (apply yAb; exact rfl; exact rfl)))|(apply W.ed; (apply yBb; (iterate 3 exact rfl); kernel_rfl; kernel_rfl))|(apply yA)|(apply yB)|(apply yC; kernel_rfl)|(apply yE)
  | (apply yJ)))
  exact Ends.two rfl rfl rfl
theorem A_nmV (c : Sv) : ACalls Tryz.prog 98 [svA1 c] [] (bS c.1) [] := by
  refine acalls_of_body Tryz.func98 rfl (Nat.le_of_ble_eq_true rfl) ?_
  (repeat' (first
  | (apply W.qd; (first
    | (apply q_as; (conv => lhs; whnf))|(apply yS; (iterate 3 exact rfl))
    | (apply yT; (iterate 4 exact rfl))))|(apply W.ed; (apply yBb; (iterate 3 exact rfl); kernel_rfl; kernel_rfl))|(apply yA)|(apply yB)|(apply yC; kernel_rfl)|(apply yE)
  | (apply yJ)))
  exact Ends.d rfl rfl
theorem A_ixV {O : List Ent} {g : FuncId} {caps : List AV} (q : Sv → Bool) (l : List Sv) (hl : l.length ≤ 9223372036854775807) (hgf : isFn Tryz.prog g = true) (hg : ∀ x ∈ l, ACalls Tryz.prog g (svA1 x :: caps) O (bV (q x)) O) : ACalls Tryz.prog 105 [svs l, .fn g caps] O (iV (idxA q l)) O := by
  refine acalls_of_bodyS Tryz.func105 rfl (Nat.le_of_ble_eq_true rfl) ?_
  have hm : (l.map svD).length = l.length := List.length_map _
  (repeat (first
  | (apply W.qd; (first
    | (apply q_mv; (conv => lhs; whnf))|(apply q_as; (conv => lhs; whnf))
    | (apply yV; exact rfl; exact rfl)))|(apply yA)|(apply yB)|(apply yC; kernel_rfl)|(apply yE)
  | (apply yG)))
  refine AWP.loopE (α := Nat) (fun k => k ≤ l.length ∧ ∀ x ∈ l.take k, q x = false) (fun k => ⟨[(8, iV k), (7, iV l.length), (0, svs l), (1, .fn g caps)], O⟩) (fun k => l.length - k) 0 ⟨by omega, by simp⟩ ⟨rfl, rfl, iV_eq (by rw [hm]), rfl, rfl, trivial⟩ fun k hk => ?_
  by_cases hkl : k < l.length
  · have hx := hg l[k] (List.getElem_mem hkl)
    (repeat' (first
  | (apply W.qd; (first
    | (apply q_mv; (conv => lhs; whnf))|(apply q_as; (conv => lhs; whnf))|(apply q_lss; exact rfl; exact rfl)|(apply q_add; exact rfl; exact rfl; omega)|(apply yY; (iterate 3 exact rfl); (first | omega | (focus (simp; done))))
    | (apply yGb; (iterate 4 exact rfl); (first | (with_reducible exact rfl) | exact natI_spec rfl | assumption | exact (Int.toNat_of_nonneg (by omega)).symm); (first | omega | (focus (simp only [List.length_map]; omega)) | (focus (simp; done)) | (focus (simp; omega))))))|(apply W.ed; (apply (e_callS (hx)); exact rfl; exact rfl; (first | assumption | kernel_rfl)))|(apply yA)|(apply yB)|(apply yC; kernel_rfl)|(apply yE)|(apply yG)|(apply yH)|(apply yJ)|(apply yP)|(apply yL)|(apply yN)
  | (refine W.cond _ rfl (fun hb => ?_) (fun hb => ?_) <;> ((try simp only [hb, zA, zB]) <;> (try simp only [zC, zD, zE, zF, zG, zH, zI, zJ] at hb) <;> (try (exfalso; omega))))))
    · exact EndsS.i rfl (idxA_hit hkl hb hk.2).symm
    · refine ⟨k + 1, ⟨by omega, fun x hx => ?_⟩, by omega, ⟨rfl, by (repeat (first | exact trivial | refine ⟨rfl, ?_⟩))⟩⟩
      rw [List.take_succ_eq_append_getElem hkl] at hx
      rcases List.mem_append.1 hx with hx | hx
      · exact hk.2 x hx
      · rw [List.mem_singleton.1 hx]; exact hb
  · (repeat' (first
  | (apply W.qd; (first
    | (apply q_as; (conv => lhs; whnf))
    | (apply q_lss; exact rfl; exact rfl)))|(apply yA)|(apply yB)|(apply yC; kernel_rfl)|(apply yE)|(apply yI)|(apply yJ)|(apply yK)|(apply yM)
  | (refine W.cond _ rfl (fun hb => ?_) (fun hb => ?_) <;> ((try simp only [hb, zA, zB]) <;> (try simp only [zC, zD, zE, zF, zG, zH, zI, zJ] at hb) <;> (try (exfalso; omega))))))
    refine EndsS.i rfl (idxA_miss fun x hx => hk.2 x ?_).symm
    rwa [List.take_of_length_le (by omega)]
abbrev findOV (nm : List Nat) : List Ent := [.box [.fn 98 []], .box [bS nm]]
theorem A_find1V (c : Sv) {nm : List Nat} (h1 : isB c.1) (h2 : isB nm) : ACalls Tryz.prog 151 [svA1 c, .opt 0 0, .opt 1 0] (findOV nm) (bV (decide (c.1 = nm))) (findOV nm) := by
  refine acalls_of_bodyO Tryz.func151 rfl (Nat.le_of_ble_eq_true rfl) ?_
  have hn := A_nmV c
  (repeat' (first
  | (apply W.qd; (first
    | (apply (yW (hn)); exact rfl; exact rfl; (iterate 3 kernel_rfl))|(apply q_as; (conv => lhs; whnf))|(apply yT; (iterate 4 exact rfl))|(apply yU; (iterate 4 exact rfl))
    | (apply q_eqlS; exact rfl; exact rfl; (first | assumption | exact isB_nil | exact isB_xor (by assumption) (by assumption)); (first | assumption | exact isB_nil | exact isB_xor (by assumption) (by assumption)))))|(apply W.ed; (apply yBb; (iterate 3 exact rfl); kernel_rfl; kernel_rfl))|(apply yA)|(apply yB)|(apply yC; kernel_rfl)|(apply yD; exact rfl; kernel_rfl)|(apply yE)|(apply yF; kernel_rfl)
  | (apply yJ)))
  exact ⟨.inl rfl, [0, 1], [bV (decide (c.1 = nm))], rfl, rfl, ⟨rfl, trivial⟩, AVle.of_eq rfl, rfl⟩
theorem A_findFV {l : List Sv} {nm : List Nat} (hl : l.length ≤ 9223372036854775807) (hb1 : ∀ c ∈ l, isB c.1) (h2 : isB nm) : ACalls Tryz.prog 97 [svs l, .fn 98 [], bS nm] [] (findA (fvI l nm)) [] := by
  refine acalls_of_body Tryz.func97 rfl (Nat.le_of_ble_eq_true rfl) ?_
  have hi := A_ixV (O := findOV nm) (g := 151) (caps := [.opt 0 0, .opt 1 0]) (fun c => decide (c.1 = nm)) l hl (by kernel_rfl) (fun c hc => A_find1V c (hb1 c hc) h2)
  rw [show idxA (fun c : Sv => decide (c.1 = nm)) l = fvI l nm from rfl] at hi
  unfold findA fxI fxE
  generalize fvI l nm = i at *
  by_cases hi0 : i < 0
  · rw [if_pos hi0, if_pos hi0]
    (repeat' (first
  | (apply W.qd; (first
    | (apply q_mv; (conv => lhs; whnf))|(apply q_as; (conv => lhs; whnf))|(apply q_lss; exact rfl; exact rfl)
    | (apply q_makeFunc)))
  | (apply W.ed; (first
    | (apply (e_callS (hi)); exact rfl; exact rfl; (first | assumption | kernel_rfl))
    | (apply yBb; (iterate 3 exact rfl); kernel_rfl; kernel_rfl)))|(apply yA)|(apply yB)|(apply yC; kernel_rfl)|(apply yE)|(apply yJ)|(apply yP)
  | (refine W.cond _ rfl (fun hb => ?_) (fun hb => ?_) <;> ((try simp only [hb, zA, zB]) <;> (try simp only [zC, zD, zE, zF, zG, zH, zI, zJ] at hb) <;> (try (exfalso; omega))))))
    exact Ends.two rfl rfl rfl
  · rw [if_neg hi0, if_neg hi0]
    (repeat' (first
  | (apply W.qd; (first
    | (apply q_mv; (conv => lhs; whnf))|(apply q_as; (conv => lhs; whnf))|(apply q_lss; exact rfl; exact rfl)
    | (apply q_makeFunc)))
  | (apply W.ed; (first
    | (apply (e_callS (hi)); exact rfl; exact rfl; (first | assumption | kernel_rfl))
    | (apply yBb; (iterate 3 exact rfl); kernel_rfl; kernel_rfl)))|(apply yA)|(apply yB)|(apply yC; kernel_rfl)|(apply yE)|(apply yH)|(apply yJ)
  | (refine W.cond _ rfl (fun hb => ?_) (fun hb => ?_) <;> ((try simp only [hb, zA, zB]) <;> (try simp only [zC, zD, zE, zF, zG, zH, zI, zJ] at hb) <;> (try (exfalso; omega))))))
    exact Ends.two rfl rfl rfl
theorem A_findV {cs : List Cd} {vs : List Sv} {nm : List Nat} (hl : vs.length ≤ 9223372036854775807) (hb1 : ∀ c ∈ vs, isB c.1) (h2 : isB nm) : ACalls Tryz.prog 48 [lib cs vs, bS nm] [] (findA (fvI vs nm)) [] := by
  refine acalls_of_body Tryz.func48 rfl (Nat.le_of_ble_eq_true rfl) ?_
  have hf := A_findFV hl hb1 h2
  (repeat' (first
  | (apply W.qd; (first
    | (apply (yW (hf)); exact rfl; exact rfl; (iterate 3 kernel_rfl))|(apply q_mv; (conv => lhs; whnf))|(apply q_as; (conv => lhs; whnf))|(apply yS; (iterate 3 exact rfl))|(apply yT; (iterate 4 exact rfl))
    | (apply yAb; exact rfl; exact rfl)))|(apply W.ed; (apply yBb; (iterate 3 exact rfl); kernel_rfl; kernel_rfl))|(apply yA)|(apply yB)|(apply yC; kernel_rfl)|(apply yE)
  | (apply yJ)))
  exact Ends.two rfl rfl rfl
theorem A_has {cs : List Cd} {vs : List Sv} {k : Int} : ACalls Tryz.prog 55 [lib cs vs, iV k] [] (bV (hasB cs.length k)) [] := by
  refine acalls_of_body Tryz.func55 rfl (Nat.le_of_ble_eq_true rfl) ?_
  have hm : (cs.map cdD).length = cs.length := List.length_map _
  unfold hasB
  (repeat' (first
  | (apply yFb; exact rfl; exact rfl)
  | (apply W.qd; (first
    | (apply q_mv; (conv => lhs; whnf))|(apply q_as; (conv => lhs; whnf))|(apply yS; (iterate 3 exact rfl))|(apply yT; (iterate 4 exact rfl))|(apply q_lss; exact rfl; exact rfl)|(apply q_geq; exact rfl; exact rfl)|(apply yV; exact rfl; exact rfl)|(apply (yEb (u := .d _)); exact rfl; exact rfl)
    | (apply (yDb (u := .d _)); exact rfl; exact rfl)))|(apply W.ed; (apply yBb; (iterate 3 exact rfl); kernel_rfl; kernel_rfl))|(refine W.gOff _ _ rfl rfl (by intro h; cases h) ?_)|(apply yA)|(apply yB)|(apply yC; kernel_rfl)|(apply yE)|(apply yJ)
  | (refine W.gT _ _ rfl rfl (fun hb => ?_) (fun hb => ?_) <;> ((try simp only [hb, zA, zB]) <;> (try simp only [zC, zD, zE, zF, zG, zH, zI, zJ] at hb) <;> (try (exfalso; omega))))))
  all_goals (refine Ends.b rfl ?_; rw [Bool.eq_iff_iff]; simp <;> omega)
theorem A_known {cs : List Cd} {vs : List Sv} {k : Int} : ACalls Tryz.prog 60 [lib cs vs, iV k] [] (bV (hasB vs.length k)) [] := by
  refine acalls_of_body Tryz.func60 rfl (Nat.le_of_ble_eq_true rfl) ?_
  have hm : (vs.map svD).length = vs.length := List.length_map _
  unfold hasB
  (repeat' (first
  | (apply yFb; exact rfl; exact rfl)
  | (apply W.qd; (first
    | (apply q_mv; (conv => lhs; whnf))|(apply q_as; (conv => lhs; whnf))|(apply yS; (iterate 3 exact rfl))|(apply yT; (iterate 4 exact rfl))|(apply q_lss; exact rfl; exact rfl)|(apply q_geq; exact rfl; exact rfl)|(apply yV; exact rfl; exact rfl)|(apply (yEb (u := .d _)); exact rfl; exact rfl)
    | (apply (yDb (u := .d _)); exact rfl; exact rfl)))|(apply W.ed; (apply yBb; (iterate 3 exact rfl); kernel_rfl; kernel_rfl))|(refine W.gOff _ _ rfl rfl (by intro h; cases h) ?_)|(apply yA)|(apply yB)|(apply yC; kernel_rfl)|(apply yE)|(apply yJ)
  | (refine W.gT _ _ rfl rfl (fun hb => ?_) (fun hb => ?_) <;> ((try simp only [hb, zA, zB]) <;> (try simp only [zC, zD, zE, zF, zG, zH, zI, zJ] at hb) <;> (try (exfalso; omega))))))
  all_goals (refine Ends.b rfl ?_; rw [Bool.eq_iff_iff]; simp <;> omega)
theorem A_losD {c : Cd} (h : FInD c) : ACalls Tryz.prog 100 [cdA1 c] [] (iV (losD c)) [] := A_losses h
theorem A_keeps {cs : List Cd} {vs : List Sv} {k n : Int} (hF : ∀ c ∈ cs, FInD c) : ACalls Tryz.prog 50 [lib cs vs, iV k, iV n] [] (bV (keepsB cs k n)) [] := by
  refine acalls_of_body Tryz.func50 rfl (Nat.le_of_ble_eq_true rfl) ?_
  have hm : (cs.map cdD).length = cs.length := List.length_map _
  have hh := A_has (cs := cs) (vs := vs) (k := k)
  unfold keepsB
  cases hq : hasB cs.length k with
  | false =>
    rw [hq] at hh
    (repeat' (first
  | (apply W.qd; (first
    | (apply (yW (hh)); exact rfl; exact rfl; (iterate 3 kernel_rfl))|(apply q_mv; (conv => lhs; whnf))|(apply q_as; (conv => lhs; whnf))|(apply yU; (iterate 4 exact rfl))
    | (apply (yDb (u := .d _)); exact rfl; exact rfl)))|(apply W.ed; (apply yBb; (iterate 3 exact rfl); kernel_rfl; kernel_rfl))|(refine W.gOff _ _ rfl rfl (by intro h; cases h) ?_)|(apply yA)|(apply yB)|(apply yC; kernel_rfl)|(apply yE)
  | (apply yJ)))
    all_goals exact Ends.b rfl rfl
  | true =>
    rw [hq] at hh
    unfold hasB at hq
    rw [Bool.and_eq_true, decide_eq_true_eq, decide_eq_true_eq] at hq
    obtain ⟨j, rfl⟩ : ∃ j : Nat, k = j := ⟨k.toNat, by omega⟩
    have hj : j < cs.length := by omega
    have hls := A_losD (hF cs[j] (List.getElem_mem hj))
    have eg : cs.getD (j : Int).toNat cd0 = cs[j] := by rw [Int.toNat_natCast, List.getD_eq_getElem?_getD, List.getElem?_eq_getElem hj]; rfl
    rw [eg]
    (repeat' (first
  | (apply yFb; exact rfl; exact rfl)
  | (apply W.qd; (first
    | (apply (yW (hh)); exact rfl; exact rfl; (iterate 3 kernel_rfl))|(apply (yW (hls)); exact rfl; exact rfl; (iterate 3 kernel_rfl))|(apply q_mv; (conv => lhs; whnf))|(apply q_as; (conv => lhs; whnf))|(apply yS; (iterate 3 exact rfl))|(apply yT; (iterate 4 exact rfl))|(apply yU; (iterate 4 exact rfl))|(apply q_geq; exact rfl; exact rfl)|(apply yY; (iterate 3 exact rfl); (first | omega | (focus (simp; done))))|(apply yGb; (iterate 4 exact rfl); (first | (with_reducible exact rfl) | exact natI_spec rfl | assumption | exact (Int.toNat_of_nonneg (by omega)).symm); (first | omega | (focus (simp only [List.length_map]; omega)) | (focus (simp; done)) | (focus (simp; omega))))
    | (apply (yEb (u := .d _)); exact rfl; exact rfl)))|(apply W.ed; (apply yBb; (iterate 3 exact rfl); kernel_rfl; kernel_rfl))|(apply yA)|(apply yB)|(apply yC; kernel_rfl)|(apply yE)
  | (apply yJ)))
    all_goals exact Ends.b rfl (by simp)
theorem A_user1 (v : Sv) {cs : List Cd} {vs : List Sv} {k : Int} : ACalls Tryz.prog 106 [svA1 v, .opt 1 0] [.box [cds cs, svs vs], .box [iV k]] (bV (usesB k v)) [.box [cds cs, svs vs], .box [iV k]] := by
  refine acalls_of_bodyO Tryz.func106 rfl (Nat.le_of_ble_eq_true rfl) ?_
  unfold usesB
  (repeat' (first
  | (apply yFb; exact rfl; exact rfl)
  | (apply W.qd; (first
    | (apply q_mv; (conv => lhs; whnf))|(apply q_as; (conv => lhs; whnf))|(apply yS; (iterate 3 exact rfl))|(apply yT; (iterate 4 exact rfl))|(apply q_eql; exact rfl; exact rfl)|(apply (yEb (u := .d _)); exact rfl; exact rfl)
    | (apply (yDb (u := .d _)); exact rfl; exact rfl)))|(apply W.ed; (apply yBb; (iterate 3 exact rfl); kernel_rfl; kernel_rfl))|(refine W.gOff _ _ rfl rfl (by intro h; cases h) ?_)|(apply yA)|(apply yB)|(apply yC; kernel_rfl)|(apply yE)|(apply yJ)
  | (refine W.gF _ _ rfl rfl (fun hb => ?_) (fun hb => ?_) <;> ((try simp only [hb, zA, zB]) <;> (try simp only [zC, zD, zE, zF, zG, zH, zI, zJ] at hb) <;> (try (exfalso; omega))))))
  all_goals (refine ⟨.inl rfl, [0, 1], [_], rfl, rfl, ⟨rfl, trivial⟩, AVle.of_eq (congrArg bV ?_), rfl⟩; rw [Bool.eq_iff_iff]; simp <;> omega)
theorem A_user {cs : List Cd} {vs : List Sv} {k : Int} (hl : vs.length ≤ 9223372036854775807) : ACalls Tryz.prog 56 [lib cs vs, iV k] [] (iV (userI vs k)) [] := by
  refine acalls_of_body Tryz.func56 rfl (Nat.le_of_ble_eq_true rfl) ?_
  have hi := A_ixV (O := [.box [cds cs, svs vs], .box [iV k]]) (g := 106) (caps := [.opt 1 0]) (usesB k) vs hl (by kernel_rfl) (fun v _ => A_user1 v)
  (repeat' (first
  | (apply W.qd; (first
    | (apply q_as; (conv => lhs; whnf))|(apply yS; (iterate 3 exact rfl))|(apply yT; (iterate 4 exact rfl))
    | (apply q_makeFunc)))
  | (apply W.ed; (first
    | (apply (e_callS (hi)); exact rfl; exact rfl; (first | assumption | kernel_rfl))
    | (apply yBb; (iterate 3 exact rfl); kernel_rfl; kernel_rfl)))|(apply yA)|(apply yB)|(apply yC; kernel_rfl)|(apply yE)
  | (apply yJ)))
  exact Ends.i rfl rfl
theorem A_alone {cs : List Cd} {vs : List Sv} {i : Nat} (hl : vs.length ≤ 9223372036854775807) (hi : i < vs.length) : ACalls Tryz.prog 51 [lib cs vs, iV i] [] (bV (aloneB vs i)) [] := by
  refine acalls_of_body Tryz.func51 rfl (Nat.le_of_ble_eq_true rfl) ?_
  have hm : (vs.map svD).length = vs.length := List.length_map _
  have eg : vs.getD i sv0 = vs[i] := by rw [List.getD_eq_getElem?_getD, List.getElem?_eq_getElem hi]; rfl
  have h1 := A_user (cs := cs) (vs := vs) (k := vs[i].2.1) hl
  have h2 := A_user (cs := cs) (vs := vs) (k := vs[i].2.2.1) hl
  unfold aloneB
  rw [eg]
  generalize userI vs vs[i].2.1 = u1 at *
  generalize userI vs vs[i].2.2.1 = u2 at *
  (repeat' (first
  | (apply yFb; exact rfl; exact rfl)
  | (apply W.qd; (first
    | (apply (yW (h1)); exact rfl; exact rfl; (iterate 3 kernel_rfl))|(apply (yW (h2)); exact rfl; exact rfl; (iterate 3 kernel_rfl))|(apply q_mv; (conv => lhs; whnf))|(apply q_as; (conv => lhs; whnf))|(apply yS; (iterate 3 exact rfl))|(apply yT; (iterate 4 exact rfl))|(apply yU; (iterate 4 exact rfl))|(apply q_eql; exact rfl; exact rfl)|(apply yY; (iterate 3 exact rfl); (first | omega | (focus (simp; done))))|(apply yGb; (iterate 4 exact rfl); (first | (with_reducible exact rfl) | exact natI_spec rfl | assumption | exact (Int.toNat_of_nonneg (by omega)).symm); (first | omega | (focus (simp only [List.length_map]; omega)) | (focus (simp; done)) | (focus (simp; omega))))|(apply (yEb (u := .d _)); exact rfl; exact rfl)
    | (apply (yDb (u := .d _)); exact rfl; exact rfl)))
  | (apply W.ed; (first
    | (apply yBb; (iterate 3 exact rfl); kernel_rfl; kernel_rfl)
    | (apply yCb; (iterate 3 exact rfl); kernel_rfl)))|(apply W.ln; (apply l_st_box; (iterate 6 exact rfl); (iterate 3 kernel_rfl)))|(refine W.gOff _ _ rfl rfl (by intro h; cases h) ?_)|(apply yA)|(apply yB)|(apply yC; kernel_rfl)|(apply yE)|(apply yJ)|(refine W.gT _ _ rfl rfl (fun hb => ?_) (fun hb => ?_) <;> ((try simp only [hb, zA, zB]) <;> (try simp only [zC, zD, zE, zF, zG, zH, zI, zJ] at hb) <;> (try (exfalso; omega))))
  | (refine W.gF _ _ rfl rfl (fun hb => ?_) (fun hb => ?_) <;> ((try simp only [hb, zA, zB]) <;> (try simp only [zC, zD, zE, zF, zG, zH, zI, zJ] at hb) <;> (try (exfalso; omega))))))
  all_goals (refine Ends.b rfl ?_; rw [Bool.eq_iff_iff]; simp <;> omega)
end Go.Proofs.YtaclmbbiegklcaaGreatDoor
end
section
namespace Go.Proofs.YtaclmbbiegklcaaGreatDoor
open Go.RowKit
set_option maxHeartbeats 4000000
set_option maxRecDepth 100000
structure LibIn (cs : List Cd) (vs : List Sv) : Prop where
  cn : ∀ c ∈ cs, NameIn c.1
  cp : ∀ c ∈ cs, c.2.2.2.1.length ≤ 9223372036854775807
  vn : ∀ v ∈ vs, NameIn v.1
  cl : cs.length ≤ 9223372036854775807
  vl : vs.length ≤ 9223372036854775807
def okC (cs : List Cd) (i : Nat) : Bool := decide (fcI cs (cs.getD i cd0).1 = (i : Int)) && chkD (cs.getD i cd0)
def okV (cs : List Cd) (vs : List Sv) (i : Nat) : Bool := decide (fvI vs (vs.getD i sv0).1 = (i : Int)) && (plausB (vs.getD i sv0).1 (vs.getD i sv0).2.2.2.1 (vs.getD i sv0).2.2.2.2 && (keepsB cs (vs.getD i sv0).2.1 (vs.getD i sv0).2.2.2.1 && (decide ((vs.getD i sv0).2.2.1 ≠ (vs.getD i sv0).2.1) && ((decide ((vs.getD i sv0).2.2.1 = -1) || keepsB cs (vs.getD i sv0).2.2.1 (vs.getD i sv0).2.2.2.1) && aloneB vs i))))
def validB (cs : List Cd) (vs : List Sv) : Bool := (decide (cs.length ≤ 8) && decide (vs.length ≤ 8)) && ((List.range cs.length).all (okC cs) && (List.range vs.length).all (okV cs vs))
theorem idxA_nn {α : Type} {q : α → Bool} {l : List α} {x : α} (hx : x ∈ l) (h : q x = true) : 0 ≤ idxA q l := by
  unfold idxA
  split
  · omega
  · rename_i hn
    have := (List.findIdx?_eq_none_iff.1 hn) x hx
    rw [h] at this; cases this
theorem find_nn {i : Int} (h : 0 ≤ i) : findA i = .tup [iV i, iV 0] := by
  unfold findA fxI fxE
  rw [if_neg (by omega), if_neg (by omega)]
theorem fin_chk {c : Cd} (h : chkD c = true) (hn : NameIn c.1) : FInD c := by
  have hv := chk_valid h
  unfold validC at hv
  simp only [Bool.and_eq_true, decide_eq_true_eq] at hv
  exact ⟨hn.b, hn.l, by omega, by omega⟩
theorem all_range {n : Nat} {p : Nat → Bool} : (List.range n).all p = true ↔ ∀ i, i < n → p i = true := by
  rw [List.all_eq_true]
  exact ⟨fun h i hi => h i (List.mem_range.2 hi), fun h i hi => h i (List.mem_range.1 hi)⟩
theorem range_bad {n i : Nat} {p : Nat → Bool} (hi : i < n) (h : p i = false) : (List.range n).all p = false := by
  rw [List.all_eq_false]
  exact ⟨i, List.mem_range.2 hi, by rw [h]; decide⟩
attribute [local irreducible] Quiet Eff OpOk AWPG ACont ABlock ACalls AGoto
theorem A_valid30 {cs : List Cd} {vs : List Sv} (h : LibIn cs vs) : ACalls Tryz.prog 10 [lib cs vs] [] (bV (validB cs vs)) [] := by
  refine acalls_of_body Tryz.func10 rfl (Nat.le_of_ble_eq_true rfl) ?_
  have hmc : (cs.map cdD).length = cs.length := List.length_map _
  have hmv : (vs.map svD).length = vs.length := List.length_map _
  have hcl := h.cl
  have hvl := h.vl
  by_cases hg : cs.length ≤ 8 ∧ vs.length ≤ 8
  case neg =>
    have e : validB cs vs = false := by
      unfold validB
      rw [Bool.and_eq_false_iff]
      left
      rw [Bool.and_eq_false_iff, decide_eq_false_iff_not, decide_eq_false_iff_not]
      omega
    rw [e]
    (repeat' (first
  | (apply yFb; exact rfl; exact rfl)
  | (apply W.qd; (first
    | (apply q_mv; (conv => lhs; whnf))|(apply q_as; (conv => lhs; whnf))|(apply yS; (iterate 3 exact rfl))|(apply yT; (iterate 4 exact rfl))|(apply q_gtr; exact rfl; exact rfl)|(apply yV; exact rfl; exact rfl)|(apply (yEb (u := .d _)); exact rfl; exact rfl)
    | (apply (yDb (u := .d _)); exact rfl; exact rfl)))|(apply W.ed; (apply yBb; (iterate 3 exact rfl); kernel_rfl; kernel_rfl))|(refine W.gOff _ _ rfl rfl (by intro h; cases h) ?_)|(apply yA)|(apply yB)|(apply (W.regionS 3); exact rfl; kernel_rfl)|(apply yE)|(apply yJ)|(apply yP)|(apply yQ; exact rfl)|(refine W.gF _ _ rfl rfl (fun hb => ?_) (fun hb => ?_) <;> ((try simp only [hb, zA, zB]) <;> (try simp only [zC, zD, zE, zF, zG, zH, zI, zJ] at hb) <;> (try (exfalso; omega))))
  | (refine W.cond _ rfl (fun hb => ?_) (fun hb => ?_) <;> ((try simp only [hb, zA, zB]) <;> (try simp only [zC, zD, zE, zF, zG, zH, zI, zJ] at hb) <;> (try (exfalso; omega))))))
    all_goals first | exact Ends.b rfl rfl | (exfalso; omega)
  obtain ⟨hg1, hg2⟩ := hg
  have hV : validB cs vs = ((List.range cs.length).all (okC cs) && (List.range vs.length).all (okV cs vs)) := by
    unfold validB
    rw [decide_eq_true hg1, decide_eq_true hg2]; rfl
  have hbC : ∀ i, i < cs.length → okC cs i = false → validB cs vs = false := fun i hi h1 => by rw [hV, range_bad hi h1]; rfl
  have hbV : ∀ i, i < vs.length → okV cs vs i = false → validB cs vs = false := fun i hi h1 => by rw [hV, range_bad hi h1, Bool.and_false]
  have hgV : (∀ i, i < cs.length → okC cs i = true) → (∀ i, i < vs.length → okV cs vs i = true) → validB cs vs = true := fun h1 h2 => by rw [hV, all_range.2 h1, all_range.2 h2]; rfl
  clear hV
  generalize validB cs vs = V at *
  (repeat' (first
  | (apply yFb; exact rfl; exact rfl)
  | (apply W.qd; (first
    | (apply q_mv; (conv => lhs; whnf))|(apply q_as; (conv => lhs; whnf))|(apply yS; (iterate 3 exact rfl))|(apply yT; (iterate 4 exact rfl))|(apply q_gtr; exact rfl; exact rfl)|(apply yV; exact rfl; exact rfl)
    | (apply (yDb (u := .d _)); exact rfl; exact rfl)))|(apply W.ed; (apply yBb; (iterate 3 exact rfl); kernel_rfl; kernel_rfl))|(apply yA)|(apply yB)|(apply (W.regionS 4); exact rfl; kernel_rfl)|(apply yE)|(apply yG)|(apply yH)|(refine W.gF _ _ rfl rfl (fun hb => ?_) (fun hb => ?_) <;> ((try simp only [hb, zA, zB]) <;> (try simp only [zC, zD, zE, zF, zG, zH, zI, zJ] at hb) <;> (try (exfalso; omega))))
  | (refine W.cond _ rfl (fun hb => ?_) (fun hb => ?_) <;> ((try simp only [hb, zA, zB]) <;> (try simp only [zC, zD, zE, zF, zG, zH, zI, zJ] at hb) <;> (try (exfalso; omega))))))
  all_goals try (exfalso; omega)
  refine AWP.loopW (α := Nat) (fun k => k ≤ cs.length ∧ ∀ j, j < k → okC cs j = true) (fun k => ⟨[(24, iV k), (23, iV cs.length), (22, cds cs), (1, .opt 0 0)], [.box [cds cs, svs vs]]⟩) (fun k => cs.length - k) 0 ⟨Nat.zero_le _, fun j hj => by omega⟩ ?wk0 fun k hk => ?_
  case wk0 => exact ⟨[0], rfl, rfl, rfl, rfl, iV_eq (by rw [hmc]), rfl, rfl, trivial⟩
  by_cases hkl : k < cs.length
  · have hmem := List.getElem_mem hkl
    have eg : cs.getD k cd0 = cs[k] := by rw [List.getD_eq_getElem?_getD, List.getElem?_eq_getElem hkl]; rfl
    have hn := h.cn _ hmem
    have hf := A_findC (cs := cs) (vs := vs) (nm := cs[k].1) hcl (fun c hc => (h.cn c hc).b) hn.b
    have hnn : 0 ≤ fcI cs cs[k].1 := idxA_nn hmem (decide_eq_true rfl)
    rw [find_nn hnn] at hf
    obtain ⟨e, hc, he⟩ := A_lcheckG (M := cs[k].2.1) (D := cs[k].2.2.1) (par := cs[k].2.2.2.1) (dom := cs[k].2.2.2.2) hn.b hn.l (h.cp _ hmem)
    have hok : okC cs k = (decide (fcI cs cs[k].1 = (k : Int)) && chkD cs[k]) := by unfold okC; rw [eg]
    have he2 : e = 0 ↔ chkD cs[k] = true := he
    replace hok := Lib.hid hok
    have hbk := hbC k hkl
    have hnx : okC cs k = true → ∀ j, j < k + 1 → okC cs j = true := fun h1 j hj => by
      by_cases e : j = k
      · subst e; exact h1
      · exact hk.2 j (by omega)
    clear hk hbC hbV hgV he
    generalize fcI cs cs[k].1 = fi at *
    generalize chkD cs[k] = ck at *
    (repeat' (first
  | (apply yFb; exact rfl; exact rfl)
  | (apply W.qd; (first
    | (apply (yW (hf)); exact rfl; exact rfl; (iterate 3 kernel_rfl))|(apply (yW (hc)); exact rfl; exact rfl; (iterate 3 kernel_rfl))|(apply q_mv; (conv => lhs; whnf))|(apply q_as; (conv => lhs; whnf))|(apply yS; (iterate 3 exact rfl))|(apply yT; (iterate 4 exact rfl))|(apply yU; (iterate 4 exact rfl))|(apply q_lss; exact rfl; exact rfl)|(apply q_neq; exact rfl; exact rfl)|(apply q_add; exact rfl; exact rfl; omega)|(apply yAb; exact rfl; exact rfl)|(apply yY; (iterate 3 exact rfl); (first | omega | (focus (simp; done))))|(apply yGb; (iterate 4 exact rfl); (first | (with_reducible exact rfl) | exact natI_spec rfl | assumption | exact (Int.toNat_of_nonneg (by omega)).symm); (first | omega | (focus (simp only [List.length_map]; omega)) | (focus (simp; done)) | (focus (simp; omega))))|(apply (yEb (u := .d _)); exact rfl; exact rfl)
    | (apply (yDb (u := .d _)); exact rfl; exact rfl)))|(apply W.ed; (apply yCb; (iterate 3 exact rfl); kernel_rfl))|(apply W.ln; (apply l_st_box; (iterate 6 exact rfl); (iterate 3 kernel_rfl)))|(refine W.gOff _ _ rfl rfl (by intro h; cases h) ?_)|(apply yA)|(apply yB)|(apply yC; kernel_rfl)|(apply yE)|(apply yG)|(apply yH)|(apply yJ)|(apply yP)|(apply yL)|(apply yN)|(apply yQ; exact rfl)|(refine W.gF _ _ rfl rfl (fun hb => ?_) (fun hb => ?_) <;> ((try simp only [hb, zA, zB]) <;> (try simp only [zC, zD, zE, zF, zG, zH, zI, zJ] at hb) <;> (try (exfalso; omega))))
  | (refine W.cond _ rfl (fun hb => ?_) (fun hb => ?_) <;> ((try simp only [hb, zA, zB]) <;> (try simp only [zC, zD, zE, zF, zG, zH, zI, zJ] at hb) <;> (try (exfalso; omega))))))
    all_goals first
      | (refine Ends.b rfl (hbk ?_).symm; rw [hok.out, Bool.and_eq_false_iff, decide_eq_false_iff_not]; first | (left; omega) | (right; rw [Bool.eq_false_iff]; intro h9; have := he2.2 h9; omega))|(refine ⟨k + 1, ⟨by omega, hnx ?_⟩, by omega, [0], rfl, rfl, rfl, iV_eq (by omega), rfl, rfl, rfl, trivial⟩; rw [hok.out, Bool.and_eq_true, decide_eq_true_eq]; exact ⟨by omega, he2.1 (by omega)⟩)
  · have hC : ∀ i, i < cs.length → okC cs i = true := fun i hi => hk.2 i (by omega)
    have hF : ∀ c ∈ cs, FInD c := fun c hc => by
      obtain ⟨j, hj, rfl⟩ := List.getElem_of_mem hc
      have h1 := hC j hj
      unfold okC at h1
      rw [Bool.and_eq_true, List.getD_eq_getElem?_getD, List.getElem?_eq_getElem hj] at h1
      exact fin_chk h1.2 (h.cn _ hc)
    have hgV := hgV hC
    clear hk hbC hC
    (repeat' (first
  | (apply W.qd; (first
    | (apply q_mv; (conv => lhs; whnf))|(apply yS; (iterate 3 exact rfl))|(apply yT; (iterate 4 exact rfl))|(apply q_lss; exact rfl; exact rfl)
    | (apply yV; exact rfl; exact rfl)))|(apply yA)|(apply yB)|(apply (W.regionS 11); exact rfl; kernel_rfl)|(apply yE)|(apply yG)|(apply yI)|(apply yK)|(apply yM)
  | (refine W.cond _ rfl (fun hb => ?_) (fun hb => ?_) <;> ((try simp only [hb, zA, zB]) <;> (try simp only [zC, zD, zE, zF, zG, zH, zI, zJ] at hb) <;> (try (exfalso; omega))))))
    all_goals try (exfalso; omega)
    refine AWP.loopW (α := Nat) (fun k => k ≤ vs.length ∧ ∀ j, j < k → okV cs vs j = true) (fun k => ⟨[(48, iV k), (47, iV vs.length), (46, svs vs), (1, .opt 0 0)], [.box [cds cs, svs vs]]⟩) (fun k => vs.length - k) 0 ⟨Nat.zero_le _, fun j hj => by omega⟩ ?wk1 fun k hk => ?_
    case wk1 => exact ⟨[0], rfl, rfl, rfl, rfl, iV_eq (by rw [hmv]), rfl, rfl, trivial⟩
    by_cases hkv : k < vs.length
    · have hmem := List.getElem_mem hkv
      have eg : vs.getD k sv0 = vs[k] := by rw [List.getD_eq_getElem?_getD, List.getElem?_eq_getElem hkv]; rfl
      have hn := h.vn _ hmem
      have hf := A_findV (cs := cs) (vs := vs) (nm := vs[k].1) hvl (fun c hc => (h.vn c hc).b) hn.b
      have hnn : 0 ≤ fvI vs vs[k].1 := idxA_nn hmem (decide_eq_true rfl)
      rw [find_nn hnn] at hf
      have hp := A_plausible (l := vs[k].2.2.2.1) (w := vs[k].2.2.2.2) hn
      have hk1 := A_keeps (vs := vs) (k := vs[k].2.1) (n := vs[k].2.2.2.1) hF
      have hk2 := A_keeps (vs := vs) (k := vs[k].2.2.1) (n := vs[k].2.2.2.1) hF
      have ha := A_alone (cs := cs) (vs := vs) hvl hkv
      have hok : okV cs vs k = (decide (fvI vs vs[k].1 = (k : Int)) && (plausB vs[k].1 vs[k].2.2.2.1 vs[k].2.2.2.2 && (keepsB cs vs[k].2.1 vs[k].2.2.2.1 && (decide (vs[k].2.2.1 ≠ vs[k].2.1) && ((decide (vs[k].2.2.1 = -1) || keepsB cs vs[k].2.2.1 vs[k].2.2.2.1) && aloneB vs k))))) := by unfold okV; rw [eg]
      replace hok := Lib.hid hok
      have hbk := hbV k hkv
      have hnx : okV cs vs k = true → ∀ j, j < k + 1 → okV cs vs j = true := fun h1 j hj => by
        by_cases e : j = k
        · subst e; exact h1
        · exact hk.2 j (by omega)
      clear hk hbV hgV
      generalize fvI vs vs[k].1 = fi at *
      generalize plausB vs[k].1 vs[k].2.2.2.1 vs[k].2.2.2.2 = b1 at *
      generalize keepsB cs vs[k].2.1 vs[k].2.2.2.1 = b2 at *
      generalize keepsB cs vs[k].2.2.1 vs[k].2.2.2.1 = b3 at *
      generalize aloneB vs k = b4 at *
      (repeat' (first
  | (apply yFb; exact rfl; exact rfl)
  | (apply W.qd; (first
    | (apply (yW (hf)); exact rfl; exact rfl; (iterate 3 kernel_rfl))|(apply (yW (hp)); exact rfl; exact rfl; (iterate 3 kernel_rfl))|(apply (yW (hk1)); exact rfl; exact rfl; (iterate 3 kernel_rfl))|(apply (yW (hk2)); exact rfl; exact rfl; (iterate 3 kernel_rfl))|(apply (yW (ha)); exact rfl; exact rfl; (iterate 3 kernel_rfl))|(apply q_mv; (conv => lhs; whnf))|(apply q_as; (conv => lhs; whnf))|(apply yS; (iterate 3 exact rfl))|(apply yT; (iterate 4 exact rfl))|(apply yU; (iterate 4 exact rfl))|(apply q_lss; exact rfl; exact rfl)|(apply q_eql; exact rfl; exact rfl)|(apply q_neq; exact rfl; exact rfl)|(apply q_not; exact rfl)|(apply q_add; exact rfl; exact rfl; omega)|(apply yAb; exact rfl; exact rfl)|(apply yY; (iterate 3 exact rfl); (first | omega | (focus (simp; done))))|(apply yGb; (iterate 4 exact rfl); (first | (with_reducible exact rfl) | exact natI_spec rfl | assumption | exact (Int.toNat_of_nonneg (by omega)).symm); (first | omega | (focus (simp only [List.length_map]; omega)) | (focus (simp; done)) | (focus (simp; omega))))|(apply (yEb (u := .d _)); exact rfl; exact rfl)
    | (apply (yDb (u := .d _)); exact rfl; exact rfl)))|(apply W.ed; (apply yCb; (iterate 3 exact rfl); kernel_rfl))|(apply W.ln; (apply l_st_box; (iterate 6 exact rfl); (iterate 3 kernel_rfl)))|(refine W.gOff _ _ rfl rfl (by intro h; cases h) ?_)|(apply yA)|(apply yB)|(apply yC; kernel_rfl)|(apply yE)|(apply yG)|(apply yH)|(apply yJ)|(apply yP)|(apply yL)|(apply yN)|(apply yQ; exact rfl)|(refine W.gT _ _ rfl rfl (fun hb => ?_) (fun hb => ?_) <;> ((try simp only [hb, zA, zB]) <;> (try simp only [zC, zD, zE, zF, zG, zH, zI, zJ] at hb) <;> (try (exfalso; omega))))|(refine W.gF _ _ rfl rfl (fun hb => ?_) (fun hb => ?_) <;> ((try simp only [hb, zA, zB]) <;> (try simp only [zC, zD, zE, zF, zG, zH, zI, zJ] at hb) <;> (try (exfalso; omega))))
  | (refine W.cond _ rfl (fun hb => ?_) (fun hb => ?_) <;> ((try simp only [hb, zA, zB]) <;> (try simp only [zC, zD, zE, zF, zG, zH, zI, zJ] at hb) <;> (try (exfalso; omega))))))
      all_goals first
        | (refine Ends.b rfl (hbk ?_).symm; rw [hok.out]; simp [*] <;> omega)|(refine ⟨k + 1, ⟨by omega, hnx ?_⟩, by omega, [0], rfl, rfl, rfl, iV_eq (by omega), rfl, rfl, rfl, trivial⟩; rw [hok.out]; simp [*] <;> omega)
    · have e : V = true := hgV fun i hi => hk.2 i (by omega)
      subst e
      clear hk hbV hgV
      (repeat' (first
  | (apply W.qd; (first
    | (apply q_as; (conv => lhs; whnf))
    | (apply q_lss; exact rfl; exact rfl)))|(apply yA)|(apply yB)|(apply yC; kernel_rfl)|(apply yE)|(apply yI)|(apply yJ)|(apply yK)|(apply yM)
  | (refine W.cond _ rfl (fun hb => ?_) (fun hb => ?_) <;> ((try simp only [hb, zA, zB]) <;> (try simp only [zC, zD, zE, zF, zG, zH, zI, zJ] at hb) <;> (try (exfalso; omega))))))
      all_goals exact Ends.b rfl rfl
end Go.Proofs.YtaclmbbiegklcaaGreatDoor
end
section
namespace Go.Proofs.YtaclmbbiegklcaaGreatDoor
open Go.RowKit
set_option maxHeartbeats 4000000
set_option maxRecDepth 100000
attribute [local irreducible] Quiet Eff OpOk AWPG ACont ABlock ACalls AGoto
theorem A_cloneC (l : List Cd) (hl : l.length ≤ 1000000) : ∃ ver, ACalls Tryz.prog 101 [cds l] [] (.osl 0 ver 0 l.length) [.row ver 5 28 (l.map cdD)] := by
  have hm : (l.map cdD).length = l.length := List.length_map _
  rcases Nat.eq_zero_or_pos l.length with h0 | h0
  · obtain rfl := List.eq_nil_of_length_eq_zero h0
    refine ⟨0, acalls_empty fun A c hc => ?_⟩
    cases A with
    | none =>
      refine acalls_nilrow (own' := []) 0 5 28 (by omega) ?_
      refine acalls_of_body Tryz.func101 rfl (Nat.le_of_ble_eq_true rfl) ?_
      (repeat' (first
  | (apply W.qd; (first
    | ((apply q_eqnilV; (iterate 3 exact rfl)))|(apply q_mv; (conv => lhs; whnf))
    | (apply q_as; (conv => lhs; whnf))))|(apply yA)|(apply yB)|(apply yC; kernel_rfl)|(apply yE)|(apply yJ)|(apply yP)
  | (apply yQ; exact rfl)))
      exact Ends.d rfl rfl
    | some b =>
      refine acalls_of_bodyO Tryz.func101 rfl (Nat.le_of_ble_eq_true rfl) ?_
      (repeat' (first
  | (apply W.qd; (first
    | ((apply q_eqnilV; (iterate 3 exact rfl)))|(apply q_mv; (conv => lhs; whnf))
    | (apply q_as; (conv => lhs; whnf))))|(apply yA)|(apply yB)|(apply (W.regionS 3); exact rfl; kernel_rfl)|(apply yE)|(apply yH)
  | (apply yR; exact rfl)))
      refine AWP.le 0 (cds []) rfl (AVle.empty hc 5) ?_
      (repeat' (first
  | (apply W.ed; (apply e_lit0F; (iterate 5 exact rfl)))
  | (apply W.qd; (first
    | (apply q_mv; (conv => lhs; whnf))|(apply q_as; (conv => lhs; whnf))
    | (apply q_app0; (iterate 4 exact rfl))))|(apply yB)|(apply yC; kernel_rfl)|(apply yE)
  | (apply yJ)))
      exact ⟨.inl rfl, [0], [.osl 0 0 0 0], rfl, rfl, ⟨rfl, trivial⟩, AVle.of_eq rfl, rfl⟩
  · refine ⟨1, ?_⟩
    refine acalls_of_bodyO Tryz.func101 rfl (Nat.le_of_ble_eq_true rfl) ?_
    (repeat' (first
  | (apply W.ed; (apply e_lit0F; (iterate 5 exact rfl)))
  | (apply W.qd; (first
    | (apply q_mv; (conv => lhs; whnf))|(apply q_as; (conv => lhs; whnf))
    | (apply q_eqnilm; (iterate 3 exact rfl); (first | assumption | omega))))|(apply W.ed; (apply e_appF; (iterate 8 exact rfl); (first | rfl | simp); (first | exact Nat.zero_lt_one | (focus (simp; done)) | omega); (first | (focus (simp; done)) | (focus (simp; omega)) | omega)))|(apply yA)|(apply yB)|(apply yC; kernel_rfl)|(apply yE)|(apply yH)|(apply yJ)
  | (apply yR; exact rfl)))
    refine ⟨.inl rfl, [0], [.osl 0 1 0 ((([] : List Nat).length) + (l.map cdD).length)], rfl, rfl, ⟨rfl, trivial⟩, AVle.of_eq ?_, rfl⟩
    show AV.osl 0 1 0 (0 + (l.map cdD).length) = .osl 0 1 0 l.length
    rw [hm, Nat.zero_add]
theorem A_cloneV (l : List Sv) (hl : l.length ≤ 1000000) : ∃ ver, ACalls Tryz.prog 102 [svs l] [] (.osl 0 ver 0 l.length) [.row ver 5 66 (l.map svD)] := by
  have hm : (l.map svD).length = l.length := List.length_map _
  rcases Nat.eq_zero_or_pos l.length with h0 | h0
  · obtain rfl := List.eq_nil_of_length_eq_zero h0
    refine ⟨0, acalls_empty fun A c hc => ?_⟩
    cases A with
    | none =>
      refine acalls_nilrow (own' := []) 0 5 66 (by omega) ?_
      refine acalls_of_body Tryz.func102 rfl (Nat.le_of_ble_eq_true rfl) ?_
      (repeat' (first
  | (apply W.qd; (first
    | ((apply q_eqnilV; (iterate 3 exact rfl)))|(apply q_mv; (conv => lhs; whnf))
    | (apply q_as; (conv => lhs; whnf))))|(apply yA)|(apply yB)|(apply yC; kernel_rfl)|(apply yE)|(apply yJ)|(apply yP)
  | (apply yQ; exact rfl)))
      exact Ends.d rfl rfl
    | some b =>
      refine acalls_of_bodyO Tryz.func102 rfl (Nat.le_of_ble_eq_true rfl) ?_
      (repeat' (first
  | (apply W.qd; (first
    | ((apply q_eqnilV; (iterate 3 exact rfl)))|(apply q_mv; (conv => lhs; whnf))
    | (apply q_as; (conv => lhs; whnf))))|(apply yA)|(apply yB)|(apply (W.regionS 3); exact rfl; kernel_rfl)|(apply yE)|(apply yH)
  | (apply yR; exact rfl)))
      refine AWP.le 0 (svs []) rfl (AVle.empty hc 5) ?_
      (repeat' (first
  | (apply W.ed; (apply e_lit0F; (iterate 5 exact rfl)))
  | (apply W.qd; (first
    | (apply q_mv; (conv => lhs; whnf))|(apply q_as; (conv => lhs; whnf))
    | (apply q_app0; (iterate 4 exact rfl))))|(apply yB)|(apply yC; kernel_rfl)|(apply yE)
  | (apply yJ)))
      exact ⟨.inl rfl, [0], [.osl 0 0 0 0], rfl, rfl, ⟨rfl, trivial⟩, AVle.of_eq rfl, rfl⟩
  · refine ⟨1, ?_⟩
    refine acalls_of_bodyO Tryz.func102 rfl (Nat.le_of_ble_eq_true rfl) ?_
    (repeat' (first
  | (apply W.ed; (apply e_lit0F; (iterate 5 exact rfl)))
  | (apply W.qd; (first
    | (apply q_mv; (conv => lhs; whnf))|(apply q_as; (conv => lhs; whnf))
    | (apply q_eqnilm; (iterate 3 exact rfl); (first | assumption | omega))))|(apply W.ed; (apply e_appF; (iterate 8 exact rfl); (first | rfl | simp); (first | exact Nat.zero_lt_one | (focus (simp; done)) | omega); (first | (focus (simp; done)) | (focus (simp; omega)) | omega)))|(apply yA)|(apply yB)|(apply yC; kernel_rfl)|(apply yE)|(apply yH)|(apply yJ)
  | (apply yR; exact rfl)))
    refine ⟨.inl rfl, [0], [.osl 0 1 0 ((([] : List Nat).length) + (l.map svD).length)], rfl, rfl, ⟨rfl, trivial⟩, AVle.of_eq ?_, rfl⟩
    show AV.osl 0 1 0 (0 + (l.map svD).length) = .osl 0 1 0 l.length
    rw [hm, Nat.zero_add]
theorem A_cloneP (l : List (List Int)) (hl : l.length ≤ 1000000) : ∃ ver, ACalls Tryz.prog 103 [rowsA l] [] (.osl 0 ver 0 l.length) [.row ver 1 42 (l.map rD)] := by
  have hm : (l.map rD).length = l.length := List.length_map _
  rcases Nat.eq_zero_or_pos l.length with h0 | h0
  · obtain rfl := List.eq_nil_of_length_eq_zero h0
    refine ⟨0, acalls_empty fun A c hc => ?_⟩
    cases A with
    | none =>
      refine acalls_nilrow (own' := []) 0 1 42 (by omega) ?_
      refine acalls_of_body Tryz.func103 rfl (Nat.le_of_ble_eq_true rfl) ?_
      (repeat' (first
  | (apply W.qd; (first
    | ((apply q_eqnilV; (iterate 3 exact rfl)))|(apply q_mv; (conv => lhs; whnf))
    | (apply q_as; (conv => lhs; whnf))))|(apply yA)|(apply yB)|(apply yC; kernel_rfl)|(apply yE)|(apply yJ)|(apply yP)
  | (apply yQ; exact rfl)))
      exact Ends.d rfl rfl
    | some b =>
      refine acalls_of_bodyO Tryz.func103 rfl (Nat.le_of_ble_eq_true rfl) ?_
      (repeat' (first
  | (apply W.qd; (first
    | ((apply q_eqnilV; (iterate 3 exact rfl)))|(apply q_mv; (conv => lhs; whnf))
    | (apply q_as; (conv => lhs; whnf))))|(apply yA)|(apply yB)|(apply (W.regionS 3); exact rfl; kernel_rfl)|(apply yE)|(apply yH)
  | (apply yR; exact rfl)))
      refine AWP.le 0 (rowsA []) rfl (AVle.empty hc 1) ?_
      (repeat' (first
  | (apply W.ed; (apply e_lit0F; (iterate 5 exact rfl)))
  | (apply W.qd; (first
    | (apply q_mv; (conv => lhs; whnf))|(apply q_as; (conv => lhs; whnf))
    | (apply q_app0; (iterate 4 exact rfl))))|(apply yB)|(apply yC; kernel_rfl)|(apply yE)
  | (apply yJ)))
      exact ⟨.inl rfl, [0], [.osl 0 0 0 0], rfl, rfl, ⟨rfl, trivial⟩, AVle.of_eq rfl, rfl⟩
  · refine ⟨1, ?_⟩
    refine acalls_of_bodyO Tryz.func103 rfl (Nat.le_of_ble_eq_true rfl) ?_
    (repeat' (first
  | (apply W.ed; (apply e_lit0F; (iterate 5 exact rfl)))
  | (apply W.qd; (first
    | (apply q_mv; (conv => lhs; whnf))|(apply q_as; (conv => lhs; whnf))
    | (apply q_eqnilm; (iterate 3 exact rfl); (first | assumption | omega))))|(apply W.ed; (apply e_appF; (iterate 8 exact rfl); (first | rfl | simp); (first | exact Nat.zero_lt_one | (focus (simp; done)) | omega); (first | (focus (simp; done)) | (focus (simp; omega)) | omega)))|(apply yA)|(apply yB)|(apply yC; kernel_rfl)|(apply yE)|(apply yH)|(apply yJ)
  | (apply yR; exact rfl)))
    refine ⟨.inl rfl, [0], [.osl 0 1 0 ((([] : List Nat).length) + (l.map rD).length)], rfl, rfl, ⟨rfl, trivial⟩, AVle.of_eq ?_, rfl⟩
    show AV.osl 0 1 0 (0 + (l.map rD).length) = .osl 0 1 0 l.length
    rw [hm, Nat.zero_add]
theorem A_cloneK (l : List Int) (hl : l.length ≤ 1000000) : ACalls Tryz.prog 104 [ints l] [] (ints l) [] := by
  rcases Nat.eq_zero_or_pos l.length with h0 | h0
  · obtain rfl := List.eq_nil_of_length_eq_zero h0
    refine acalls_empty fun A c hc => ?_
    refine acalls_of_body Tryz.func104 rfl (Nat.le_of_ble_eq_true rfl) ?_
    (repeat' (first
  | (apply W.qd; (first
    | ((apply q_eqnilV; (iterate 3 exact rfl)))|(apply q_mv; (conv => lhs; whnf))
    | (apply q_as; (conv => lhs; whnf))))|(apply yA)|(apply yB)|(apply (W.regionS 3); exact rfl; kernel_rfl)|(apply yE)|(apply yH)|(apply yJ)|(apply yP)
  | (refine W.cond _ rfl (fun hb => ?_) (fun hb => ?_) <;> ((try simp only [hb, zA, zB]) <;> (try simp only [zC, zD, zE, zF, zG, zH, zI, zJ] at hb) <;> (try (exfalso; omega))))))
    · exact Ends.nil rfl rfl
    · refine AWP.le 0 (ints []) rfl (AVle.empty hc 1) ?_
      (repeat' (first
  | (apply W.ed; (apply e_lit0F; (iterate 5 exact rfl)))
  | (apply W.qd; (first
    | (apply q_mv; (conv => lhs; whnf))|(apply q_as; (conv => lhs; whnf))
    | (apply q_app0; (iterate 4 exact rfl))))|(apply yB)|(apply yC; kernel_rfl)|(apply yE)
  | (apply yJ)))
      exact Ends.osl rfl rfl rfl rfl
  · refine acalls_of_body Tryz.func104 rfl (Nat.le_of_ble_eq_true rfl) ?_
    have hm : (l.map iD).length = l.length := List.length_map _
    (repeat' (first
  | (apply W.ed; (apply e_lit0F; (iterate 5 exact rfl)))
  | (apply W.qd; (first
    | (apply q_mv; (conv => lhs; whnf))|(apply q_as; (conv => lhs; whnf))
    | (apply q_eqnilm; (iterate 3 exact rfl); (first | assumption | omega))))|(apply W.ed; (apply e_appF; (iterate 8 exact rfl); (first | rfl | simp); (first | exact Nat.zero_lt_one | (focus (simp; done)) | omega); (first | (focus (simp; done)) | (focus (simp; omega)) | omega)))|(apply yA)|(apply yB)|(apply yC; kernel_rfl)|(apply yE)|(apply yH)|(apply yJ)
  | (apply yR; exact rfl)))
    exact Ends.osl rfl rfl (by simp) rfl
theorem A_fresh {c : Cd} (hp : c.2.2.2.1.length ≤ 1000000) (hr : ∀ r ∈ c.2.2.2.1, r.length ≤ 1000000) : ACalls Tryz.prog 53 [cdA1 c] [] (cdA1 c) [] := by
  obtain ⟨nm, M, D, par, dom⟩ := c
  dsimp only at hp hr
  have hm : (par.map rD).length = par.length := List.length_map _
  obtain ⟨ver, hc⟩ := A_cloneP par hp
  refine acalls_of_body Tryz.func53 rfl (Nat.le_of_ble_eq_true rfl) ?_
  (repeat' (first
  | (apply W.qd; (first
    | (apply q_mv; (conv => lhs; whnf))|(apply yS; (iterate 3 exact rfl))|(apply yT; (iterate 4 exact rfl))
    | (apply q_len_osl; (iterate 3 exact rfl))))
  | (apply W.ed; (first
    | (apply (e_callJ (js := []) (hc)); (iterate 5 exact rfl); kernel_rfl; kernel_rfl)|(apply yBb; (iterate 3 exact rfl); kernel_rfl; kernel_rfl)
    | (apply yCb; (iterate 3 exact rfl); kernel_rfl)))|(apply W.ln; (apply l_st_box; (iterate 6 exact rfl); (iterate 3 kernel_rfl)))|(apply yA)|(apply yB)|(apply (W.regionS 3); exact rfl; kernel_rfl)|(apply yE)
  | (apply yG)))
  refine AWP.loopW (α := Nat) (fun k => k ≤ par.length) (fun k => ⟨[(11, iV k), (10, iV par.length), (1, .opt 0 0), (2, .opt 1 0)], [.box [bS nm, iV M, iV D, .osl 2 ver 0 par.length, iV dom], .box [.d (.v (.string ⟨#[]⟩)), iV 0, iV 0, .d (.v (.slice none 0 0)), iV 0], .row ver 1 42 (par.map rD)]⟩) (fun k => par.length - k) 0 (Nat.zero_le _) ⟨[0, 1, 2], rfl, rfl, rfl, by (repeat (first | exact trivial | refine ⟨rfl, ?_⟩))⟩ fun k hk => ?_
  by_cases hkl : k < par.length
  · have hk1 := A_cloneK par[k] (hr _ (List.getElem_mem hkl))
    have hset : par.set k par[k] = par := List.set_getElem_self hkl
    (repeat' (first
  | (apply W.qd; (first
    | (apply (yW (hk1)); exact rfl; exact rfl; (iterate 3 kernel_rfl))|(apply q_mv; (conv => lhs; whnf))|(apply q_as; (conv => lhs; whnf))|(apply yS; (iterate 3 exact rfl))|(apply yT; (iterate 4 exact rfl))|(apply q_lss; exact rfl; exact rfl)|(apply q_add; exact rfl; exact rfl; omega)|(apply q_ix_osl0; (iterate 4 exact rfl); (first | (with_reducible exact rfl) | exact natI_spec rfl | assumption | exact (Int.toNat_of_nonneg (by omega)).symm); (first | omega | (focus (simp only [List.length_map]; omega)) | (focus (simp; done)) | (focus (simp; omega))))
    | (apply q_ld_rptm; (iterate 4 exact rfl); (first | omega | (focus (simp only [List.length_map]; omega)) | (focus (simp; done)) | (focus (simp; omega))))))|(apply W.ln; (apply l_st_rpt; (iterate 7 exact rfl); exact fun _ => rfl; (first | omega | (focus (simp only [List.length_map]; omega)) | (focus (simp; omega)))))|(apply yA)|(apply yB)|(apply yC; kernel_rfl)|(apply yD; exact rfl; kernel_rfl)|(apply yE)|(apply yF; kernel_rfl)|(apply yG)|(apply yH)|(apply yL)
  | (refine W.cond _ rfl (fun hb => ?_) (fun hb => ?_) <;> ((try simp only [hb, zA, zB]) <;> (try simp only [zC, zD, zE, zF, zG, zH, zI, zJ] at hb) <;> (try (exfalso; omega))))))
    refine ⟨k + 1, by omega, by omega, ?_⟩
    rw [hset]
    exact ⟨[0, 1, 2], rfl, rfl, rfl, iV_eq (by omega), rfl, rfl, rfl, trivial⟩
  · (repeat' (first
  | (apply W.qd; (first
    | (apply yU; (iterate 4 exact rfl))
    | (apply q_lss; exact rfl; exact rfl)))|(apply W.ln; (apply l_st_box; (iterate 6 exact rfl); (iterate 3 kernel_rfl)))|(apply yA)|(apply yB)|(apply yC; kernel_rfl)|(apply yE)|(apply yI)|(apply yJ)|(apply yK)|(apply yM)
  | (refine W.cond _ rfl (fun hb => ?_) (fun hb => ?_) <;> ((try simp only [hb, zA, zB]) <;> (try simp only [zC, zD, zE, zF, zG, zH, zI, zJ] at hb) <;> (try (exfalso; omega))))))
    refine Ends.cell1 (i := 1) (tyc := 28) rfl rfl rfl ?_
    show AV.agg [bS nm, iV M, iV D, AV.frz _ [] (.osl 2 ver 0 par.length), iV dom] = _
    rw [frz_rowJ (i := 2) (ver := ver) (n := par.length) (l := par.map rD) rfl rfl hm.symm]
    rfl
abbrev lbO (a b : Nat) (cs : List Cd) (vs : List Sv) : List Ent := [.row a 5 28 (cs.map cdD), .row b 5 66 (vs.map svD)]
abbrev lbA (a b i j : Nat) (cs : List Cd) (vs : List Sv) : AV := .agg [.osl i a 0 cs.length, .osl j b 0 vs.length]
theorem A_copied {cs : List Cd} {vs : List Sv} (hc : cs.length ≤ 1000000) (hv : vs.length ≤ 1000000) (hp : ∀ c ∈ cs, c.2.2.2.1.length ≤ 1000000) (hr : ∀ c ∈ cs, ∀ r ∈ c.2.2.2.1, r.length ≤ 1000000) : ∃ a b, ACalls Tryz.prog 52 [lib cs vs] [] (lbA a b 0 1 cs vs) (lbO a b cs vs) := by
  have hmc : (cs.map cdD).length = cs.length := List.length_map _
  have hmv : (vs.map svD).length = vs.length := List.length_map _
  obtain ⟨a, h1⟩ := A_cloneC cs hc
  obtain ⟨b, h2⟩ := A_cloneV vs hv
  refine ⟨a, b, ?_⟩
  refine acalls_of_bodyO Tryz.func52 rfl (Nat.le_of_ble_eq_true rfl) ?_
  (repeat' (first
  | (apply W.qd; (first
    | (apply q_mv; (conv => lhs; whnf))|(apply yS; (iterate 3 exact rfl))|(apply yT; (iterate 4 exact rfl))
    | (apply q_len_osl; (iterate 3 exact rfl))))
  | (apply W.ed; (first
    | (apply (e_callJ (js := []) (h1)); (iterate 5 exact rfl); kernel_rfl; kernel_rfl)|(apply (e_callJ (js := []) (h2)); (iterate 5 exact rfl); kernel_rfl; kernel_rfl)|(apply yBb; (iterate 3 exact rfl); kernel_rfl; kernel_rfl)
    | (apply yCb; (iterate 3 exact rfl); kernel_rfl)))|(apply W.ln; (apply l_st_box; (iterate 6 exact rfl); (iterate 3 kernel_rfl)))|(apply yA)|(apply yB)|(apply (W.regionS 3); exact rfl; kernel_rfl)|(apply (W.regionDS 3); exact rfl; exact rfl; kernel_rfl)|(apply yE)|(apply yF; kernel_rfl)
  | (apply yG)))
  refine AWP.loopW (α := Nat) (fun k => k ≤ cs.length) (fun k => ⟨[(15, iV k), (14, iV cs.length), (1, .opt 0 0), (2, .opt 1 0)], [.box [.osl 2 a 0 cs.length, .osl 3 b 0 vs.length], .box [.d (.v (.slice none 0 0)), .d (.v (.slice none 0 0))], .row a 5 28 (cs.map cdD), .row b 5 66 (vs.map svD)]⟩) (fun k => cs.length - k) 0 (Nat.zero_le _) ⟨[0, 1, 2, 3], rfl, rfl, rfl, by (repeat (first | exact trivial | refine ⟨rfl, ?_⟩))⟩ fun k hk => ?_
  by_cases hkl : k < cs.length
  · have hmem := List.getElem_mem hkl
    have hk1 := A_fresh (hp _ hmem) (hr _ hmem)
    have hset : cs.set k cs[k] = cs := List.set_getElem_self hkl
    (repeat' (first
  | (apply W.qd; (first
    | (apply (yW (hk1)); exact rfl; exact rfl; (iterate 3 kernel_rfl))|(apply q_mv; (conv => lhs; whnf))|(apply q_as; (conv => lhs; whnf))|(apply yS; (iterate 3 exact rfl))|(apply yT; (iterate 4 exact rfl))|(apply q_lss; exact rfl; exact rfl)|(apply q_add; exact rfl; exact rfl; omega)|(apply q_ix_osl0; (iterate 4 exact rfl); (first | (with_reducible exact rfl) | exact natI_spec rfl | assumption | exact (Int.toNat_of_nonneg (by omega)).symm); (first | omega | (focus (simp only [List.length_map]; omega)) | (focus (simp; done)) | (focus (simp; omega))))
    | (apply q_ld_rptsm; (iterate 4 exact rfl); (first | omega | (focus (simp only [List.length_map]; omega)) | (focus (simp; done)) | (focus (simp; omega))))))|(apply W.en; ((apply (e_st_rptM (f := cdD) cs[k]); (iterate 9 exact rfl))))|(apply yA)|(apply yB)|(apply yC; kernel_rfl)|(apply yD; exact rfl; kernel_rfl)|(apply yE)|(apply yF; kernel_rfl)|(apply yG)|(apply yH)|(apply yL)
  | (refine W.cond _ rfl (fun hb => ?_) (fun hb => ?_) <;> ((try simp only [hb, zA, zB]) <;> (try simp only [zC, zD, zE, zF, zG, zH, zI, zJ] at hb) <;> (try (exfalso; omega))))))
    refine ⟨k + 1, by omega, by omega, ?_⟩
    rw [hset]
    exact ⟨[0, 1, 2, 3], rfl, rfl, rfl, iV_eq (by omega), rfl, rfl, rfl, trivial⟩
  · (repeat' (first
  | (apply W.qd; (first
    | (apply yU; (iterate 4 exact rfl))
    | (apply q_lss; exact rfl; exact rfl)))|(apply W.ln; (apply l_st_box; (iterate 6 exact rfl); (iterate 3 kernel_rfl)))|(apply yA)|(apply yB)|(apply yC; kernel_rfl)|(apply yE)|(apply yI)|(apply yJ)|(apply yK)|(apply yM)
  | (refine W.cond _ rfl (fun hb => ?_) (fun hb => ?_) <;> ((try simp only [hb, zA, zB]) <;> (try simp only [zC, zD, zE, zF, zG, zH, zI, zJ] at hb) <;> (try (exfalso; omega))))))
    exact ⟨.inl rfl, [2, 3], [.agg [.osl 2 a 0 cs.length, .osl 3 b 0 vs.length]], rfl, rfl, ⟨⟨1, _, true, rfl, rfl, rfl, rfl⟩, trivial⟩, AVle.of_eq rfl, rfl⟩
end Go.Proofs.YtaclmbbiegklcaaGreatDoor
end
section
namespace Go.Proofs.YtaclmbbiegklcaaGreatDoor
open Go.RowKit
set_option maxHeartbeats 4000000
set_option maxRecDepth 100000
structure LibOk (cs : List Cd) (vs : List Sv) : Prop where
  cn : ∀ c ∈ cs, NameIn c.1
  ck : ∀ c ∈ cs, chkD c = true
  vn : ∀ v ∈ vs, NameIn v.1
  cl : cs.length ≤ 1000
  vl : vs.length ≤ 1000
abbrev Lb := List Cd × List Sv
def lb0 : Lb := ([], [])
abbrev res3 (r : Lb × Int × Int) : AV := .tup [lib r.1.1 r.1.2, iV r.2.1, iV r.2.2]
abbrev res2 (r : Lb × Int) : AV := .tup [lib r.1.1 r.1.2, iV r.2]
def addCN (cs : List Cd) (vs : List Sv) (c : Cd) : Lb × Int × Int :=
  if chkD c = false then (lb0, 0, 1) else if 0 ≤ fcI cs c.1 then (lb0, 0, 20) else if 8 ≤ cs.length then (lb0, 0, 2) else ((cs ++ [c], vs), (cs.length : Int), 0)
def addVN (cs : List Cd) (vs : List Sv) (nm : List Nat) (k l w : Int) : Lb × Int × Int :=
  if plausB nm l w = false then (lb0, 0, 1) else if 0 ≤ fvI vs nm then (lb0, 0, 20) else if 8 ≤ vs.length then (lb0, 0, 2) else if hasB cs.length k = false then (lb0, 0, 12) else if 0 ≤ userI vs k then (lb0, 0, 19) else if keepsB cs k l = false then (lb0, 0, 17) else ((cs, vs ++ [(nm, k, -1, l, w)]), (vs.length : Int), 0)
def atV (vs : List Sv) (k : Int) : Sv := vs.getD k.toNat sv0
def chgN (cs : List Cd) (vs : List Sv) (k c : Int) : Lb × Int :=
  if hasB vs.length k = false then (lb0, 12) else if hasB cs.length c = false then (lb0, 12) else if (atV vs k).2.2.1 ≠ -1 then (lb0, 19) else if (atV vs k).2.1 = c then (lb0, 1) else if 0 ≤ userI vs c then (lb0, 19) else if keepsB cs c (atV vs k).2.2.2.1 = false then (lb0, 17) else ((cs, vs.set k.toNat ((atV vs k).1, (atV vs k).2.1, c, (atV vs k).2.2.2)), 0)
def finN (cs : List Cd) (vs : List Sv) (k : Int) : Lb × Int :=
  if hasB vs.length k = false then (lb0, 12) else if (atV vs k).2.2.1 = -1 then (lb0, 19) else ((cs, vs.set k.toNat ((atV vs k).1, (atV vs k).2.2.1, -1, (atV vs k).2.2.2)), 0)
def tgtN (vs : List Sv) (k : Int) : Int × Int :=
  if hasB vs.length k = false then (0, 12) else if (atV vs k).2.2.1 ≠ -1 then ((atV vs k).2.2.1, 0) else ((atV vs k).2.1, 0)
theorem lib0_le : AVle (.agg [.d (.v (.slice none 0 0)), .d (.v (.slice none 0 0))]) (lib [] []) := AVle.agg ⟨AVle.nil 5, AVle.nil 5, trivial⟩
theorem err3_le (e : Int) : AVle (.tup [.agg [.d (.v (.slice none 0 0)), .d (.v (.slice none 0 0))], iV 0, iV e]) (res3 (lb0, 0, e)) := AVle.tup ⟨lib0_le, AVle.refl _, AVle.refl _, trivial⟩
theorem err2_le (e : Int) : AVle (.tup [.agg [.d (.v (.slice none 0 0)), .d (.v (.slice none 0 0))], iV e]) (res2 (lb0, e)) := AVle.tup ⟨lib0_le, AVle.refl _, trivial⟩
theorem chk_rows {c : Cd} (h : chkD c = true) : c.2.2.2.1.length ≤ 31 ∧ ∀ r ∈ c.2.2.2.1, r.length ≤ 31 := by
  have hv := chk_valid h
  unfold validC at hv
  simp only [Bool.and_eq_true, decide_eq_true_eq, List.all_eq_true] at hv
  obtain ⟨⟨⟨⟨h1, h2⟩, h3⟩, h4⟩, h5⟩ := hv
  have h6 : c.2.2.1 ≤ 31 := by
    unfold chkD chkC at h
    simp only [Bool.and_eq_true, decide_eq_true_eq] at h
    have := h.1.1.2
    omega
  refine ⟨by omega, fun r hr => ?_⟩
  have := h5 r hr
  unfold rowOk at this
  simp only [Bool.and_eq_true, decide_eq_true_eq] at this
  omega
theorem LibOk.fin {cs : List Cd} {vs : List Sv} (h : LibOk cs vs) : ∀ c ∈ cs, FInD c := fun c hc => fin_chk (h.ck c hc) (h.cn c hc)
theorem find_no {i : Int} (h : ¬ 0 ≤ i) : findA i = .tup [iV 0, iV 12] := by
  unfold findA fxI fxE
  rw [if_pos (by omega), if_pos (by omega)]
attribute [local irreducible] Quiet Eff OpOk AWPG ACont ABlock ACalls AGoto
theorem A_copy {cs : List Cd} {vs : List Sv} (h : LibOk cs vs) : ∃ a b, ACalls Tryz.prog 52 [lib cs vs] [] (lbA a b 0 1 cs vs) (lbO a b cs vs) := by
  have h1 := h.cl
  have h2 := h.vl
  exact A_copied (by omega) (by omega) (fun c hc => by have := (chk_rows (h.ck c hc)).1; omega) (fun c hc r hr => by have := (chk_rows (h.ck c hc)).2 r hr; omega)
theorem A_addCode {cs : List Cd} {vs : List Sv} {c : Cd} (h : LibOk cs vs) (hn : NameIn c.1) (hp : c.2.2.2.1.length ≤ 9223372036854775807) : ACalls Tryz.prog 11 [lib cs vs, cdA1 c] [] (res3 (addCN cs vs c)) [] := by
  have hcl := h.cl
  have hvl := h.vl
  have hmc : (cs.map cdD).length = cs.length := List.length_map _
  have hmv : (vs.map svD).length = vs.length := List.length_map _
  have hf := A_findC (cs := cs) (vs := vs) (nm := c.1) (by omega) (fun c hc => (h.cn c hc).b) hn.b
  obtain ⟨e, hc, he⟩ := A_lcheckG (M := c.2.1) (D := c.2.2.1) (par := c.2.2.2.1) (dom := c.2.2.2.2) hn.b hn.l hp
  have he : e = 0 ↔ chkD c = true := he
  unfold addCN
  refine acalls_of_body Tryz.func11 rfl (Nat.le_of_ble_eq_true rfl) ?_
  cases hq : chkD c with
  | false =>
    have hne : e ≠ 0 := fun h0 => by have := he.1 h0; rw [hq] at this; cases this
    rw [if_pos rfl]
    by_cases hi : 0 ≤ fcI cs c.1
    · rw [find_nn hi] at hf
      generalize fcI cs c.1 = i at *
      (repeat' (first
  | (apply W.qd; (first
    | (apply (yW (hf)); exact rfl; exact rfl; (iterate 3 kernel_rfl))|(apply (yW (hc)); exact rfl; exact rfl; (iterate 3 kernel_rfl))|(apply q_mv; (conv => lhs; whnf))|(apply q_as; (conv => lhs; whnf))|(apply yS; (iterate 3 exact rfl))|(apply yT; (iterate 4 exact rfl))|(apply yU; (iterate 4 exact rfl))|(apply q_neq; exact rfl; exact rfl)|(apply yAb; exact rfl; exact rfl)
    | (apply yZ; exact rfl; exact rfl; kernel_rfl)))
  | (apply W.ed; (first
    | (apply yBb; (iterate 3 exact rfl); kernel_rfl; kernel_rfl)
    | (apply yCb; (iterate 3 exact rfl); kernel_rfl)))|(apply W.ln; (apply l_st_box; (iterate 6 exact rfl); (iterate 3 kernel_rfl)))|(apply yA)|(apply yB)|(apply yC; kernel_rfl)|(apply yE)|(apply yG)|(apply yJ)|(apply yP)|(apply yN)
  | (refine W.cond _ rfl (fun hb => ?_) (fun hb => ?_) <;> ((try simp only [hb, zA, zB]) <;> (try simp only [zC, zD, zE, zF, zG, zH, zI, zJ] at hb) <;> (try (exfalso; omega))))))
      all_goals first | (exfalso; contradiction) | exact ⟨.inl rfl, [], [.agg [.d (.v (.slice none 0 0)), .d (.v (.slice none 0 0))], iV 0, iV 1], rfl, ⟨⟨2, _, true, rfl, rfl, rfl, rfl⟩, rfl, rfl, trivial⟩, err3_le 1, rfl⟩
    · rw [find_no hi] at hf
      (repeat' (first
  | (apply W.qd; (first
    | (apply (yW (hf)); exact rfl; exact rfl; (iterate 3 kernel_rfl))|(apply (yW (hc)); exact rfl; exact rfl; (iterate 3 kernel_rfl))|(apply q_mv; (conv => lhs; whnf))|(apply q_as; (conv => lhs; whnf))|(apply yS; (iterate 3 exact rfl))|(apply yT; (iterate 4 exact rfl))|(apply yU; (iterate 4 exact rfl))|(apply q_neq; exact rfl; exact rfl)|(apply yAb; exact rfl; exact rfl)
    | (apply yZ; exact rfl; exact rfl; kernel_rfl)))
  | (apply W.ed; (first
    | (apply yBb; (iterate 3 exact rfl); kernel_rfl; kernel_rfl)
    | (apply yCb; (iterate 3 exact rfl); kernel_rfl)))|(apply W.ln; (apply l_st_box; (iterate 6 exact rfl); (iterate 3 kernel_rfl)))|(apply yA)|(apply yB)|(apply yC; kernel_rfl)|(apply yE)|(apply yG)|(apply yJ)|(apply yP)|(apply yN)
  | (refine W.cond _ rfl (fun hb => ?_) (fun hb => ?_) <;> ((try simp only [hb, zA, zB]) <;> (try simp only [zC, zD, zE, zF, zG, zH, zI, zJ] at hb) <;> (try (exfalso; omega))))))
      all_goals first | (exfalso; contradiction) | exact ⟨.inl rfl, [], [.agg [.d (.v (.slice none 0 0)), .d (.v (.slice none 0 0))], iV 0, iV 1], rfl, ⟨⟨2, _, true, rfl, rfl, rfl, rfl⟩, rfl, rfl, trivial⟩, err3_le 1, rfl⟩
  | true =>
    obtain rfl := he.2 hq
    rw [if_neg (by decide)]
    by_cases hi : 0 ≤ fcI cs c.1
    · rw [if_pos hi]
      rw [find_nn hi] at hf
      generalize fcI cs c.1 = i at *
      (repeat' (first
  | (apply W.qd; (first
    | (apply (yW (hf)); exact rfl; exact rfl; (iterate 3 kernel_rfl))|(apply (yW (hc)); exact rfl; exact rfl; (iterate 3 kernel_rfl))|(apply q_mv; (conv => lhs; whnf))|(apply q_as; (conv => lhs; whnf))|(apply yS; (iterate 3 exact rfl))|(apply yT; (iterate 4 exact rfl))|(apply yU; (iterate 4 exact rfl))|(apply q_eql; exact rfl; exact rfl)|(apply q_neq; exact rfl; exact rfl)|(apply yAb; exact rfl; exact rfl)
    | (apply yZ; exact rfl; exact rfl; kernel_rfl)))
  | (apply W.ed; (first
    | (apply yBb; (iterate 3 exact rfl); kernel_rfl; kernel_rfl)
    | (apply yCb; (iterate 3 exact rfl); kernel_rfl)))|(apply W.ln; (apply l_st_box; (iterate 6 exact rfl); (iterate 3 kernel_rfl)))|(apply yA)|(apply yB)|(apply yC; kernel_rfl)|(apply yE)|(apply yG)|(apply yJ)|(apply yP)|(apply yN)|(apply yQ; exact rfl)
  | (apply yR; exact rfl)))
      all_goals exact ⟨.inl rfl, [], [.agg [.d (.v (.slice none 0 0)), .d (.v (.slice none 0 0))], iV 0, iV 20], rfl, ⟨⟨2, _, true, rfl, rfl, rfl, rfl⟩, rfl, rfl, trivial⟩, err3_le 20, rfl⟩
    · rw [if_neg hi]
      rw [find_no hi] at hf
      obtain ⟨a, b, hcp⟩ := A_copy h
      obtain ⟨hr1, hr2⟩ := chk_rows hq
      have hfr := A_fresh (c := c) (by omega) (fun r hr => by have := hr2 r hr; omega)
      by_cases h8 : 8 ≤ cs.length
      · rw [if_pos h8]
        (repeat' (first
  | (apply W.qd; (first
    | (apply (yW (hf)); exact rfl; exact rfl; (iterate 3 kernel_rfl))|(apply (yW (hc)); exact rfl; exact rfl; (iterate 3 kernel_rfl))|(apply q_mv; (conv => lhs; whnf))|(apply q_as; (conv => lhs; whnf))|(apply yS; (iterate 3 exact rfl))|(apply yT; (iterate 4 exact rfl))|(apply yU; (iterate 4 exact rfl))|(apply q_geq; exact rfl; exact rfl)|(apply q_eql; exact rfl; exact rfl)|(apply q_neq; exact rfl; exact rfl)|(apply yAb; exact rfl; exact rfl)|(apply yV; exact rfl; exact rfl)
    | (apply yZ; exact rfl; exact rfl; kernel_rfl)))
  | (apply W.ed; (first
    | (apply yBb; (iterate 3 exact rfl); kernel_rfl; kernel_rfl)
    | (apply yCb; (iterate 3 exact rfl); kernel_rfl)))|(apply W.ln; (apply l_st_box; (iterate 6 exact rfl); (iterate 3 kernel_rfl)))|(apply yA)|(apply yB)|(apply (W.regionS 8); exact rfl; kernel_rfl)|(apply yE)|(apply yG)|(apply yJ)|(apply yP)|(apply yN)|(apply yR; exact rfl)
  | (refine W.cond _ rfl (fun hb => ?_) (fun hb => ?_) <;> ((try simp only [hb, zA, zB]) <;> (try simp only [zC, zD, zE, zF, zG, zH, zI, zJ] at hb) <;> (try (exfalso; omega))))))
        all_goals first | (exfalso; omega) | exact ⟨.inl rfl, [], [.agg [.d (.v (.slice none 0 0)), .d (.v (.slice none 0 0))], iV 0, iV 2], rfl, ⟨⟨2, _, true, rfl, rfl, rfl, rfl⟩, rfl, rfl, trivial⟩, err3_le 2, rfl⟩
      · rw [if_neg h8]
        (repeat' (first
  | (apply W.qd; (first
    | (apply (yW (hf)); exact rfl; exact rfl; (iterate 3 kernel_rfl))|(apply (yW (hc)); exact rfl; exact rfl; (iterate 3 kernel_rfl))|(apply q_mv; (conv => lhs; whnf))|(apply q_as; (conv => lhs; whnf))|(apply yS; (iterate 3 exact rfl))|(apply yT; (iterate 4 exact rfl))|(apply yU; (iterate 4 exact rfl))|(apply q_geq; exact rfl; exact rfl)|(apply q_eql; exact rfl; exact rfl)|(apply q_neq; exact rfl; exact rfl)|(apply yAb; exact rfl; exact rfl)
    | (apply yV; exact rfl; exact rfl)))
  | (apply W.ed; (first
    | (apply yBb; (iterate 3 exact rfl); kernel_rfl; kernel_rfl)
    | (apply yCb; (iterate 3 exact rfl); kernel_rfl)))|(apply yA)|(apply yB)|(apply (W.regionS 8); exact rfl; kernel_rfl)|(apply yE)|(apply yG)|(apply yH)|(apply yL)|(apply yR; exact rfl)
  | (refine W.cond _ rfl (fun hb => ?_) (fun hb => ?_) <;> ((try simp only [hb, zA, zB]) <;> (try simp only [zC, zD, zE, zF, zG, zH, zI, zJ] at hb) <;> (try (exfalso; omega))))))
        all_goals try (exfalso; omega)
        (repeat' (first
  | (apply W.qd; (first
    | (apply (yW (hfr)); exact rfl; exact rfl; (iterate 3 kernel_rfl))|(apply q_mv; (conv => lhs; whnf))|(apply q_as; (conv => lhs; whnf))|(apply yS; (iterate 3 exact rfl))|(apply yT; (iterate 4 exact rfl))|(apply yU; (iterate 4 exact rfl))|(apply yV; exact rfl; exact rfl)
    | (apply q_litF; (iterate 5 exact rfl); kernel_rfl; kernel_rfl; exact rfl)))|(apply W.ld; (apply l_app1; (iterate 8 exact rfl); (first | omega | (focus (simp; omega)) | (focus (simp; done)))))|(apply W.ed; (apply (e_callJ (js := []) (hcp)); (iterate 5 exact rfl); kernel_rfl; kernel_rfl))|(apply W.ln; (apply l_st_box; (iterate 6 exact rfl); (iterate 3 kernel_rfl)))|(apply yA)|(apply yB)|(apply yC; kernel_rfl)|(apply yD; exact rfl; kernel_rfl)|(apply yE)|(apply yF; kernel_rfl)
  | (apply yJ)))
        refine ⟨.inl rfl, [], [.agg [.osl 3 (a + 1) 0 (cs ++ [c]).length, .osl 4 b 0 vs.length], iV cs.length, iV 0], rfl, ⟨⟨2, _, true, rfl, rfl, rfl, rfl⟩, iV_eq (by rw [hmc]), rfl, trivial⟩, AVle.of_eq ?_, rfl⟩
        show AV.tup [AV.agg [AV.frz _ [] (.osl 3 (a + 1) 0 (cs ++ [c]).length), AV.frz _ [] (.osl 4 b 0 vs.length)], iV cs.length, iV 0] = _
        rw [frz_rowJ (i := 3) (ver := a + 1) (n := (cs ++ [c]).length) (l := (cs ++ [c]).map cdD) rfl rfl (by simp), frz_rowJ (i := 4) (ver := b) (n := vs.length) (l := vs.map svD) rfl rfl hmv.symm]
end Go.Proofs.YtaclmbbiegklcaaGreatDoor
end
section
namespace Go.Proofs.YtaclmbbiegklcaaGreatDoor
open Go.RowKit
set_option maxHeartbeats 4000000
set_option maxRecDepth 100000
theorem hasB_nat {n : Nat} {k : Int} (h : hasB n k = true) : ∃ j : Nat, k = j ∧ j < n := by
  unfold hasB at h
  rw [Bool.and_eq_true, decide_eq_true_eq, decide_eq_true_eq] at h
  exact ⟨k.toNat, by omega, by omega⟩
attribute [local irreducible] Quiet Eff OpOk AWPG ACont ABlock ACalls AGoto
theorem A_addClass {cs : List Cd} {vs : List Sv} {nm : List Nat} {k l w : Int} (h : LibOk cs vs) (hn : NameIn nm) : ACalls Tryz.prog 13 [lib cs vs, bS nm, iV k, iV l, iV w] [] (res3 (addVN cs vs nm k l w)) [] := by
  have hcl := h.cl
  have hvl := h.vl
  have hmc : (cs.map cdD).length = cs.length := List.length_map _
  have hmv : (vs.map svD).length = vs.length := List.length_map _
  have hf := A_findV (cs := cs) (vs := vs) (nm := nm) (by omega) (fun c hc => (h.vn c hc).b) hn.b
  have hp := A_plausible (l := l) (w := w) hn
  have hh := A_has (cs := cs) (vs := vs) (k := k)
  have hu := A_user (cs := cs) (vs := vs) (k := k) (by omega)
  have hk := A_keeps (vs := vs) (k := k) (n := l) h.fin
  obtain ⟨a, b, hcp⟩ := A_copy h
  unfold addVN
  generalize fvI vs nm = i at *
  generalize userI vs k = u at *
  refine acalls_of_body Tryz.func13 rfl (Nat.le_of_ble_eq_true rfl) ?_
  have hfi : ∃ e x : Int, findA i = .tup [iV x, iV e] ∧ (e = 0 ↔ 0 ≤ i) := by
    by_cases hi : 0 ≤ i
    · exact ⟨0, i, find_nn hi, by simp [hi]⟩
    · exact ⟨12, 0, find_no hi, by simp [hi]⟩
  obtain ⟨e, x, hfe, hei⟩ := hfi
  rw [hfe] at hf
  cases hq : plausB nm l w with
  | false =>
    rw [hq] at hp
    rw [if_pos rfl]
    (repeat' (first
  | (apply W.qd; (first
    | (apply (yW (hf)); exact rfl; exact rfl; (iterate 3 kernel_rfl))|(apply (yW (hp)); exact rfl; exact rfl; (iterate 3 kernel_rfl))|(apply q_mv; (conv => lhs; whnf))|(apply q_as; (conv => lhs; whnf))|(apply yU; (iterate 4 exact rfl))|(apply q_not; exact rfl)|(apply yAb; exact rfl; exact rfl)
    | (apply yZ; exact rfl; exact rfl; kernel_rfl)))
  | (apply W.ed; (first
    | (apply yBb; (iterate 3 exact rfl); kernel_rfl; kernel_rfl)
    | (apply yCb; (iterate 3 exact rfl); kernel_rfl)))|(apply W.ln; (apply l_st_box; (iterate 6 exact rfl); (iterate 3 kernel_rfl)))|(apply yA)|(apply yB)|(apply yC; kernel_rfl)|(apply yE)|(apply yG)|(apply yJ)|(apply yP)|(apply yN)
  | (apply yQ; exact rfl)))
    all_goals exact ⟨.inl rfl, [], [.agg [.d (.v (.slice none 0 0)), .d (.v (.slice none 0 0))], iV 0, iV 1], rfl, ⟨⟨1, _, true, rfl, rfl, rfl, rfl⟩, rfl, rfl, trivial⟩, err3_le 1, rfl⟩
  | true =>
    rw [hq] at hp
    rw [if_neg (by decide)]
    by_cases hi : 0 ≤ i
    · obtain rfl := hei.2 hi
      rw [if_pos hi]
      (repeat' (first
  | (apply W.qd; (first
    | (apply (yW (hf)); exact rfl; exact rfl; (iterate 3 kernel_rfl))|(apply (yW (hp)); exact rfl; exact rfl; (iterate 3 kernel_rfl))|(apply q_mv; (conv => lhs; whnf))|(apply q_as; (conv => lhs; whnf))|(apply yU; (iterate 4 exact rfl))|(apply q_eql; exact rfl; exact rfl)|(apply q_not; exact rfl)|(apply yAb; exact rfl; exact rfl)
    | (apply yZ; exact rfl; exact rfl; kernel_rfl)))
  | (apply W.ed; (first
    | (apply yBb; (iterate 3 exact rfl); kernel_rfl; kernel_rfl)
    | (apply yCb; (iterate 3 exact rfl); kernel_rfl)))|(apply W.ln; (apply l_st_box; (iterate 6 exact rfl); (iterate 3 kernel_rfl)))|(apply yA)|(apply yB)|(apply yC; kernel_rfl)|(apply yE)|(apply yG)|(apply yJ)|(apply yP)|(apply yN)|(apply yQ; exact rfl)
  | (apply yR; exact rfl)))
      all_goals exact ⟨.inl rfl, [], [.agg [.d (.v (.slice none 0 0)), .d (.v (.slice none 0 0))], iV 0, iV 20], rfl, ⟨⟨1, _, true, rfl, rfl, rfl, rfl⟩, rfl, rfl, trivial⟩, err3_le 20, rfl⟩
    · have hne : e ≠ 0 := fun h0 => hi (hei.1 h0)
      rw [if_neg hi]
      by_cases h8 : 8 ≤ vs.length
      · rw [if_pos h8]
        (repeat' (first
  | (apply W.qd; (first
    | (apply (yW (hf)); exact rfl; exact rfl; (iterate 3 kernel_rfl))|(apply (yW (hp)); exact rfl; exact rfl; (iterate 3 kernel_rfl))|(apply q_mv; (conv => lhs; whnf))|(apply q_as; (conv => lhs; whnf))|(apply yS; (iterate 3 exact rfl))|(apply yT; (iterate 4 exact rfl))|(apply yU; (iterate 4 exact rfl))|(apply q_geq; exact rfl; exact rfl)|(apply q_eql; exact rfl; exact rfl)|(apply q_not; exact rfl)|(apply yAb; exact rfl; exact rfl)|(apply yV; exact rfl; exact rfl)
    | (apply yZ; exact rfl; exact rfl; kernel_rfl)))
  | (apply W.ed; (first
    | (apply yBb; (iterate 3 exact rfl); kernel_rfl; kernel_rfl)
    | (apply yCb; (iterate 3 exact rfl); kernel_rfl)))|(apply W.ln; (apply l_st_box; (iterate 6 exact rfl); (iterate 3 kernel_rfl)))|(apply yA)|(apply yB)|(apply (W.regionS 8); exact rfl; kernel_rfl)|(apply yE)|(apply yG)|(apply yJ)|(apply yP)|(apply yN)|(apply yR; exact rfl)
  | (refine W.cond _ rfl (fun hb => ?_) (fun hb => ?_) <;> ((try simp only [hb, zA, zB]) <;> (try simp only [zC, zD, zE, zF, zG, zH, zI, zJ] at hb) <;> (try (exfalso; omega))))))
        all_goals first | (exfalso; contradiction) | (exfalso; omega) | exact ⟨.inl rfl, [], [.agg [.d (.v (.slice none 0 0)), .d (.v (.slice none 0 0))], iV 0, iV 2], rfl, ⟨⟨1, _, true, rfl, rfl, rfl, rfl⟩, rfl, rfl, trivial⟩, err3_le 2, rfl⟩
      · rw [if_neg h8]
        cases hq2 : hasB cs.length k with
        | false =>
          rw [hq2] at hh
          rw [if_pos rfl]
          (repeat' (first
  | (apply W.qd; (first
    | (apply (yW (hf)); exact rfl; exact rfl; (iterate 3 kernel_rfl))|(apply (yW (hp)); exact rfl; exact rfl; (iterate 3 kernel_rfl))|(apply (yW (hh)); exact rfl; exact rfl; (iterate 3 kernel_rfl))|(apply q_mv; (conv => lhs; whnf))|(apply q_as; (conv => lhs; whnf))|(apply yS; (iterate 3 exact rfl))|(apply yT; (iterate 4 exact rfl))|(apply yU; (iterate 4 exact rfl))|(apply q_geq; exact rfl; exact rfl)|(apply q_eql; exact rfl; exact rfl)|(apply q_not; exact rfl)|(apply yAb; exact rfl; exact rfl)|(apply yV; exact rfl; exact rfl)
    | (apply yZ; exact rfl; exact rfl; kernel_rfl)))
  | (apply W.ed; (first
    | (apply yBb; (iterate 3 exact rfl); kernel_rfl; kernel_rfl)
    | (apply yCb; (iterate 3 exact rfl); kernel_rfl)))|(apply W.ln; (apply l_st_box; (iterate 6 exact rfl); (iterate 3 kernel_rfl)))|(apply yA)|(apply yB)|(apply (W.regionS 10); exact rfl; kernel_rfl)|(apply yE)|(apply yG)|(apply yJ)|(apply yP)|(apply yN)|(apply yQ; exact rfl)|(apply yR; exact rfl)
  | (refine W.cond _ rfl (fun hb => ?_) (fun hb => ?_) <;> ((try simp only [hb, zA, zB]) <;> (try simp only [zC, zD, zE, zF, zG, zH, zI, zJ] at hb) <;> (try (exfalso; omega))))))
          all_goals first | (exfalso; contradiction) | (exfalso; omega) | exact ⟨.inl rfl, [], [.agg [.d (.v (.slice none 0 0)), .d (.v (.slice none 0 0))], iV 0, iV 12], rfl, ⟨⟨1, _, true, rfl, rfl, rfl, rfl⟩, rfl, rfl, trivial⟩, err3_le 12, rfl⟩
        | true =>
          rw [hq2] at hh
          rw [if_neg (by decide)]
          by_cases hu0 : 0 ≤ u
          · rw [if_pos hu0]
            (repeat' (first
  | (apply W.qd; (first
    | (apply (yW (hf)); exact rfl; exact rfl; (iterate 3 kernel_rfl))|(apply (yW (hp)); exact rfl; exact rfl; (iterate 3 kernel_rfl))|(apply (yW (hh)); exact rfl; exact rfl; (iterate 3 kernel_rfl))|(apply (yW (hu)); exact rfl; exact rfl; (iterate 3 kernel_rfl))|(apply q_mv; (conv => lhs; whnf))|(apply q_as; (conv => lhs; whnf))|(apply yS; (iterate 3 exact rfl))|(apply yT; (iterate 4 exact rfl))|(apply yU; (iterate 4 exact rfl))|(apply q_geq; exact rfl; exact rfl)|(apply q_eql; exact rfl; exact rfl)|(apply q_not; exact rfl)|(apply yAb; exact rfl; exact rfl)|(apply yV; exact rfl; exact rfl)
    | (apply yZ; exact rfl; exact rfl; kernel_rfl)))
  | (apply W.ed; (first
    | (apply yBb; (iterate 3 exact rfl); kernel_rfl; kernel_rfl)
    | (apply yCb; (iterate 3 exact rfl); kernel_rfl)))|(apply W.ln; (apply l_st_box; (iterate 6 exact rfl); (iterate 3 kernel_rfl)))|(apply yA)|(apply yB)|(apply (W.regionS 12); exact rfl; kernel_rfl)|(apply yE)|(apply yG)|(apply yJ)|(apply yP)|(apply yN)|(apply yR; exact rfl)
  | (refine W.cond _ rfl (fun hb => ?_) (fun hb => ?_) <;> ((try simp only [hb, zA, zB]) <;> (try simp only [zC, zD, zE, zF, zG, zH, zI, zJ] at hb) <;> (try (exfalso; omega))))))
            all_goals first | (exfalso; contradiction) | (exfalso; omega) | exact ⟨.inl rfl, [], [.agg [.d (.v (.slice none 0 0)), .d (.v (.slice none 0 0))], iV 0, iV 19], rfl, ⟨⟨1, _, true, rfl, rfl, rfl, rfl⟩, rfl, rfl, trivial⟩, err3_le 19, rfl⟩
          · rw [if_neg hu0]
            cases hq3 : keepsB cs k l with
            | false =>
              rw [hq3] at hk
              rw [if_pos rfl]
              (repeat' (first
  | (apply W.qd; (first
    | (apply (yW (hf)); exact rfl; exact rfl; (iterate 3 kernel_rfl))|(apply (yW (hp)); exact rfl; exact rfl; (iterate 3 kernel_rfl))|(apply (yW (hh)); exact rfl; exact rfl; (iterate 3 kernel_rfl))|(apply (yW (hu)); exact rfl; exact rfl; (iterate 3 kernel_rfl))|(apply (yW (hk)); exact rfl; exact rfl; (iterate 3 kernel_rfl))|(apply q_mv; (conv => lhs; whnf))|(apply q_as; (conv => lhs; whnf))|(apply yS; (iterate 3 exact rfl))|(apply yT; (iterate 4 exact rfl))|(apply yU; (iterate 4 exact rfl))|(apply q_geq; exact rfl; exact rfl)|(apply q_eql; exact rfl; exact rfl)|(apply q_not; exact rfl)|(apply yAb; exact rfl; exact rfl)|(apply yV; exact rfl; exact rfl)
    | (apply yZ; exact rfl; exact rfl; kernel_rfl)))
  | (apply W.ed; (first
    | (apply yBb; (iterate 3 exact rfl); kernel_rfl; kernel_rfl)
    | (apply yCb; (iterate 3 exact rfl); kernel_rfl)))|(apply W.ln; (apply l_st_box; (iterate 6 exact rfl); (iterate 3 kernel_rfl)))|(apply yA)|(apply yB)|(apply (W.regionS 14); exact rfl; kernel_rfl)|(apply yE)|(apply yG)|(apply yJ)|(apply yP)|(apply yN)|(apply yQ; exact rfl)|(apply yR; exact rfl)
  | (refine W.cond _ rfl (fun hb => ?_) (fun hb => ?_) <;> ((try simp only [hb, zA, zB]) <;> (try simp only [zC, zD, zE, zF, zG, zH, zI, zJ] at hb) <;> (try (exfalso; omega))))))
              all_goals first | (exfalso; contradiction) | (exfalso; omega) | exact ⟨.inl rfl, [], [.agg [.d (.v (.slice none 0 0)), .d (.v (.slice none 0 0))], iV 0, iV 17], rfl, ⟨⟨1, _, true, rfl, rfl, rfl, rfl⟩, rfl, rfl, trivial⟩, err3_le 17, rfl⟩
            | true =>
              rw [hq3] at hk
              rw [if_neg (by decide)]
              (repeat' (first
  | (apply W.qd; (first
    | (apply (yW (hf)); exact rfl; exact rfl; (iterate 3 kernel_rfl))|(apply (yW (hp)); exact rfl; exact rfl; (iterate 3 kernel_rfl))|(apply (yW (hh)); exact rfl; exact rfl; (iterate 3 kernel_rfl))|(apply (yW (hu)); exact rfl; exact rfl; (iterate 3 kernel_rfl))|(apply (yW (hk)); exact rfl; exact rfl; (iterate 3 kernel_rfl))|(apply q_mv; (conv => lhs; whnf))|(apply q_as; (conv => lhs; whnf))|(apply yS; (iterate 3 exact rfl))|(apply yT; (iterate 4 exact rfl))|(apply yU; (iterate 4 exact rfl))|(apply q_geq; exact rfl; exact rfl)|(apply q_eql; exact rfl; exact rfl)|(apply q_not; exact rfl)|(apply yAb; exact rfl; exact rfl)
    | (apply yV; exact rfl; exact rfl)))
  | (apply W.ed; (first
    | (apply yBb; (iterate 3 exact rfl); kernel_rfl; kernel_rfl)
    | (apply yCb; (iterate 3 exact rfl); kernel_rfl)))|(apply yA)|(apply yB)|(apply (W.regionS 14); exact rfl; kernel_rfl)|(apply yE)|(apply yG)|(apply yH)|(apply yL)|(apply yR; exact rfl)
  | (refine W.cond _ rfl (fun hb => ?_) (fun hb => ?_) <;> ((try simp only [hb, zA, zB]) <;> (try simp only [zC, zD, zE, zF, zG, zH, zI, zJ] at hb) <;> (try (exfalso; omega))))))
              all_goals try first | (exfalso; contradiction) | (exfalso; omega)
              (repeat' (first
  | (apply W.qd; (first
    | (apply q_mv; (conv => lhs; whnf))|(apply q_as; (conv => lhs; whnf))|(apply yS; (iterate 3 exact rfl))|(apply yT; (iterate 4 exact rfl))|(apply yU; (iterate 4 exact rfl))|(apply yV; exact rfl; exact rfl)|(apply yZ; exact rfl; exact rfl; kernel_rfl)
    | (apply q_litF; (iterate 5 exact rfl); kernel_rfl; kernel_rfl; exact rfl)))
  | (apply W.ed; (first
    | (apply (e_callJ (js := []) (hcp)); (iterate 5 exact rfl); kernel_rfl; kernel_rfl)
    | ((apply (e_app1F (f := svD) (nm, k, -1, l, w)); (iterate 8 exact rfl); omega))))|(apply W.ln; (apply l_st_box; (iterate 6 exact rfl); (iterate 3 kernel_rfl)))|(apply yA)|(apply yB)|(apply yC; kernel_rfl)|(apply yE)
  | (apply yJ)))
              refine ⟨.inl rfl, [], [.agg [.osl 2 a 0 cs.length, .osl 3 (b + 1) 0 (vs ++ [((nm, k, -1, l, w) : Sv)]).length], iV vs.length, iV 0], rfl, ⟨⟨1, _, true, rfl, rfl, rfl, rfl⟩, iV_eq (by rw [hmv]), rfl, trivial⟩, AVle.of_eq ?_, rfl⟩
              show AV.tup [AV.agg [AV.frz _ [] (.osl 2 a 0 cs.length), AV.frz _ [] (.osl 3 (b + 1) 0 (vs ++ [((nm, k, -1, l, w) : Sv)]).length)], iV vs.length, iV 0] = _
              rw [frz_rowJ (i := 2) (ver := a) (n := cs.length) (l := cs.map cdD) rfl rfl hmc.symm, frz_rowJ (i := 3) (ver := b + 1) (n := (vs ++ [((nm, k, -1, l, w) : Sv)]).length) (l := (vs ++ [((nm, k, -1, l, w) : Sv)]).map svD) rfl rfl (by simp)]
theorem A_change {cs : List Cd} {vs : List Sv} {k c : Int} (h : LibOk cs vs) : ACalls Tryz.prog 16 [lib cs vs, iV k, iV c] [] (res2 (chgN cs vs k c)) [] := by
  have hcl := h.cl
  have hvl := h.vl
  have hmc : (cs.map cdD).length = cs.length := List.length_map _
  have hmv : (vs.map svD).length = vs.length := List.length_map _
  have hkn := A_known (cs := cs) (vs := vs) (k := k)
  have hh := A_has (cs := cs) (vs := vs) (k := c)
  have hu := A_user (cs := cs) (vs := vs) (k := c) (by omega)
  obtain ⟨a, b, hcp⟩ := A_copy h
  unfold chgN atV
  refine acalls_of_body Tryz.func16 rfl (Nat.le_of_ble_eq_true rfl) ?_
  cases hq1 : hasB vs.length k with
  | false =>
    rw [hq1] at hkn
    rw [if_pos rfl]
    (repeat' (first
  | (apply W.qd; (first
    | (apply (yW (hkn)); exact rfl; exact rfl; (iterate 3 kernel_rfl))|(apply q_mv; (conv => lhs; whnf))|(apply q_as; (conv => lhs; whnf))|(apply yU; (iterate 4 exact rfl))|(apply q_not; exact rfl)|(apply yZ; exact rfl; exact rfl; kernel_rfl)
    | (apply (yEb (u := .d _)); exact rfl; exact rfl)))
  | (apply W.ed; (first
    | (apply yBb; (iterate 3 exact rfl); kernel_rfl; kernel_rfl)
    | (apply yCb; (iterate 3 exact rfl); kernel_rfl)))|(apply W.ln; (apply l_st_box; (iterate 6 exact rfl); (iterate 3 kernel_rfl)))|(refine W.gOff _ _ rfl rfl (by intro h; cases h) ?_)|(apply yA)|(apply yB)|(apply yC; kernel_rfl)|(apply yE)|(apply yJ)|(apply yP)
  | (apply yQ; exact rfl)))
    all_goals exact ⟨.inl rfl, [], [.agg [.d (.v (.slice none 0 0)), .d (.v (.slice none 0 0))], iV 12], rfl, ⟨⟨1, _, true, rfl, rfl, rfl, rfl⟩, rfl, trivial⟩, err2_le 12, rfl⟩
  | true =>
    rw [hq1] at hkn
    rw [if_neg (by decide)]
    obtain ⟨j, rfl, hj⟩ := hasB_nat hq1
    have eg : vs.getD (j : Int).toNat sv0 = vs[j] := by rw [Int.toNat_natCast, List.getD_eq_getElem?_getD, List.getElem?_eq_getElem hj]; rfl
    rw [eg, Int.toNat_natCast]
    cases hq2 : hasB cs.length c with
    | false =>
      rw [hq2] at hh
      rw [if_pos rfl]
      (repeat' (first
  | (apply yFb; exact rfl; exact rfl)
  | (apply W.qd; (first
    | (apply (yW (hkn)); exact rfl; exact rfl; (iterate 3 kernel_rfl))|(apply (yW (hh)); exact rfl; exact rfl; (iterate 3 kernel_rfl))|(apply q_mv; (conv => lhs; whnf))|(apply q_as; (conv => lhs; whnf))|(apply yU; (iterate 4 exact rfl))|(apply q_not; exact rfl)|(apply yZ; exact rfl; exact rfl; kernel_rfl)
    | (apply (yDb (u := .d _)); exact rfl; exact rfl)))
  | (apply W.ed; (first
    | (apply yBb; (iterate 3 exact rfl); kernel_rfl; kernel_rfl)
    | (apply yCb; (iterate 3 exact rfl); kernel_rfl)))|(apply W.ln; (apply l_st_box; (iterate 6 exact rfl); (iterate 3 kernel_rfl)))|(apply yA)|(apply yB)|(apply yC; kernel_rfl)|(apply yE)|(apply yJ)|(apply yP)
  | (apply yQ; exact rfl)))
      all_goals exact ⟨.inl rfl, [], [.agg [.d (.v (.slice none 0 0)), .d (.v (.slice none 0 0))], iV 12], rfl, ⟨⟨1, _, true, rfl, rfl, rfl, rfl⟩, rfl, trivial⟩, err2_le 12, rfl⟩
    | true =>
      rw [hq2] at hh
      rw [if_neg (by decide)]
      have hk := A_keeps (vs := vs) (k := c) (n := vs[j].2.2.2.1) h.fin
      generalize userI vs c = u at *
      by_cases h1 : vs[j].2.2.1 ≠ -1
      · rw [if_pos h1]
        (repeat' (first
  | (apply yFb; exact rfl; exact rfl)
  | (apply W.qd; (first
    | (apply (yW (hkn)); exact rfl; exact rfl; (iterate 3 kernel_rfl))|(apply (yW (hh)); exact rfl; exact rfl; (iterate 3 kernel_rfl))|(apply q_mv; (conv => lhs; whnf))|(apply q_as; (conv => lhs; whnf))|(apply yS; (iterate 3 exact rfl))|(apply yT; (iterate 4 exact rfl))|(apply yU; (iterate 4 exact rfl))|(apply q_neq; exact rfl; exact rfl)|(apply q_not; exact rfl)|(apply yY; (iterate 3 exact rfl); (first | omega | (focus (simp; done))))|(apply yZ; exact rfl; exact rfl; kernel_rfl)|(apply yGb; (iterate 4 exact rfl); (first | (with_reducible exact rfl) | exact natI_spec rfl | assumption | exact (Int.toNat_of_nonneg (by omega)).symm); (first | omega | (focus (simp only [List.length_map]; omega)) | (focus (simp; done)) | (focus (simp; omega))))
    | (apply (yDb (u := .d _)); exact rfl; exact rfl)))
  | (apply W.ed; (first
    | (apply yBb; (iterate 3 exact rfl); kernel_rfl; kernel_rfl)
    | (apply yCb; (iterate 3 exact rfl); kernel_rfl)))|(apply W.ln; (apply l_st_box; (iterate 6 exact rfl); (iterate 3 kernel_rfl)))|(apply yA)|(apply yB)|(apply (W.regionS 6); exact rfl; kernel_rfl)|(apply yE)|(apply yG)|(apply yH)|(apply yJ)|(apply yP)|(apply yN)|(apply yR; exact rfl)
  | (refine W.cond _ rfl (fun hb => ?_) (fun hb => ?_) <;> ((try simp only [hb, zA, zB]) <;> (try simp only [zC, zD, zE, zF, zG, zH, zI, zJ] at hb) <;> (try (exfalso; omega))))))
        all_goals first | (exfalso; omega) | exact ⟨.inl rfl, [], [.agg [.d (.v (.slice none 0 0)), .d (.v (.slice none 0 0))], iV 19], rfl, ⟨⟨1, _, true, rfl, rfl, rfl, rfl⟩, rfl, trivial⟩, err2_le 19, rfl⟩
      · rw [if_neg h1]
        by_cases h2 : vs[j].2.1 = c
        · rw [if_pos h2]
          (repeat' (first
  | (apply yFb; exact rfl; exact rfl)
  | (apply W.qd; (first
    | (apply (yW (hkn)); exact rfl; exact rfl; (iterate 3 kernel_rfl))|(apply (yW (hh)); exact rfl; exact rfl; (iterate 3 kernel_rfl))|(apply q_mv; (conv => lhs; whnf))|(apply q_as; (conv => lhs; whnf))|(apply yS; (iterate 3 exact rfl))|(apply yT; (iterate 4 exact rfl))|(apply yU; (iterate 4 exact rfl))|(apply q_eql; exact rfl; exact rfl)|(apply q_neq; exact rfl; exact rfl)|(apply q_not; exact rfl)|(apply yY; (iterate 3 exact rfl); (first | omega | (focus (simp; done))))|(apply yZ; exact rfl; exact rfl; kernel_rfl)|(apply yGb; (iterate 4 exact rfl); (first | (with_reducible exact rfl) | exact natI_spec rfl | assumption | exact (Int.toNat_of_nonneg (by omega)).symm); (first | omega | (focus (simp only [List.length_map]; omega)) | (focus (simp; done)) | (focus (simp; omega))))
    | (apply (yDb (u := .d _)); exact rfl; exact rfl)))
  | (apply W.ed; (first
    | (apply yBb; (iterate 3 exact rfl); kernel_rfl; kernel_rfl)
    | (apply yCb; (iterate 3 exact rfl); kernel_rfl)))|(apply W.ln; (apply l_st_box; (iterate 6 exact rfl); (iterate 3 kernel_rfl)))|(apply yA)|(apply yB)|(apply (W.regionS 8); exact rfl; kernel_rfl)|(apply yE)|(apply yG)|(apply yH)|(apply yJ)|(apply yP)|(apply yN)|(apply yR; exact rfl)
  | (refine W.cond _ rfl (fun hb => ?_) (fun hb => ?_) <;> ((try simp only [hb, zA, zB]) <;> (try simp only [zC, zD, zE, zF, zG, zH, zI, zJ] at hb) <;> (try (exfalso; omega))))))
          all_goals first | (exfalso; omega) | exact ⟨.inl rfl, [], [.agg [.d (.v (.slice none 0 0)), .d (.v (.slice none 0 0))], iV 1], rfl, ⟨⟨1, _, true, rfl, rfl, rfl, rfl⟩, rfl, trivial⟩, err2_le 1, rfl⟩
        · rw [if_neg h2]
          by_cases hu0 : 0 ≤ u
          · rw [if_pos hu0]
            (repeat' (first
  | (apply yFb; exact rfl; exact rfl)
  | (apply W.qd; (first
    | (apply (yW (hkn)); exact rfl; exact rfl; (iterate 3 kernel_rfl))|(apply (yW (hh)); exact rfl; exact rfl; (iterate 3 kernel_rfl))|(apply (yW (hu)); exact rfl; exact rfl; (iterate 3 kernel_rfl))|(apply q_mv; (conv => lhs; whnf))|(apply q_as; (conv => lhs; whnf))|(apply yS; (iterate 3 exact rfl))|(apply yT; (iterate 4 exact rfl))|(apply yU; (iterate 4 exact rfl))|(apply q_geq; exact rfl; exact rfl)|(apply q_eql; exact rfl; exact rfl)|(apply q_neq; exact rfl; exact rfl)|(apply q_not; exact rfl)|(apply yY; (iterate 3 exact rfl); (first | omega | (focus (simp; done))))|(apply yZ; exact rfl; exact rfl; kernel_rfl)|(apply yGb; (iterate 4 exact rfl); (first | (with_reducible exact rfl) | exact natI_spec rfl | assumption | exact (Int.toNat_of_nonneg (by omega)).symm); (first | omega | (focus (simp only [List.length_map]; omega)) | (focus (simp; done)) | (focus (simp; omega))))
    | (apply (yDb (u := .d _)); exact rfl; exact rfl)))
  | (apply W.ed; (first
    | (apply yBb; (iterate 3 exact rfl); kernel_rfl; kernel_rfl)
    | (apply yCb; (iterate 3 exact rfl); kernel_rfl)))|(apply W.ln; (apply l_st_box; (iterate 6 exact rfl); (iterate 3 kernel_rfl)))|(apply yA)|(apply yB)|(apply (W.regionS 10); exact rfl; kernel_rfl)|(apply yE)|(apply yG)|(apply yH)|(apply yJ)|(apply yP)|(apply yN)|(apply yR; exact rfl)
  | (refine W.cond _ rfl (fun hb => ?_) (fun hb => ?_) <;> ((try simp only [hb, zA, zB]) <;> (try simp only [zC, zD, zE, zF, zG, zH, zI, zJ] at hb) <;> (try (exfalso; omega))))))
            all_goals first | (exfalso; omega) | exact ⟨.inl rfl, [], [.agg [.d (.v (.slice none 0 0)), .d (.v (.slice none 0 0))], iV 19], rfl, ⟨⟨1, _, true, rfl, rfl, rfl, rfl⟩, rfl, trivial⟩, err2_le 19, rfl⟩
          · rw [if_neg hu0]
            cases hq3 : keepsB cs c vs[j].2.2.2.1 with
            | false =>
              rw [hq3] at hk
              rw [if_pos rfl]
              (repeat' (first
  | (apply yFb; exact rfl; exact rfl)
  | (apply W.qd; (first
    | (apply (yW (hkn)); exact rfl; exact rfl; (iterate 3 kernel_rfl))|(apply (yW (hh)); exact rfl; exact rfl; (iterate 3 kernel_rfl))|(apply (yW (hu)); exact rfl; exact rfl; (iterate 3 kernel_rfl))|(apply (yW (hk)); exact rfl; exact rfl; (iterate 3 kernel_rfl))|(apply q_mv; (conv => lhs; whnf))|(apply q_as; (conv => lhs; whnf))|(apply yS; (iterate 3 exact rfl))|(apply yT; (iterate 4 exact rfl))|(apply yU; (iterate 4 exact rfl))|(apply q_geq; exact rfl; exact rfl)|(apply q_eql; exact rfl; exact rfl)|(apply q_neq; exact rfl; exact rfl)|(apply q_not; exact rfl)|(apply yY; (iterate 3 exact rfl); (first | omega | (focus (simp; done))))|(apply yZ; exact rfl; exact rfl; kernel_rfl)|(apply yGb; (iterate 4 exact rfl); (first | (with_reducible exact rfl) | exact natI_spec rfl | assumption | exact (Int.toNat_of_nonneg (by omega)).symm); (first | omega | (focus (simp only [List.length_map]; omega)) | (focus (simp; done)) | (focus (simp; omega))))
    | (apply (yDb (u := .d _)); exact rfl; exact rfl)))
  | (apply W.ed; (first
    | (apply yBb; (iterate 3 exact rfl); kernel_rfl; kernel_rfl)
    | (apply yCb; (iterate 3 exact rfl); kernel_rfl)))|(apply W.ln; (apply l_st_box; (iterate 6 exact rfl); (iterate 3 kernel_rfl)))|(apply yA)|(apply yB)|(apply (W.regionS 12); exact rfl; kernel_rfl)|(apply yE)|(apply yG)|(apply yH)|(apply yJ)|(apply yP)|(apply yN)|(apply yQ; exact rfl)|(apply yR; exact rfl)
  | (refine W.cond _ rfl (fun hb => ?_) (fun hb => ?_) <;> ((try simp only [hb, zA, zB]) <;> (try simp only [zC, zD, zE, zF, zG, zH, zI, zJ] at hb) <;> (try (exfalso; omega))))))
              all_goals first | (exfalso; omega) | exact ⟨.inl rfl, [], [.agg [.d (.v (.slice none 0 0)), .d (.v (.slice none 0 0))], iV 17], rfl, ⟨⟨1, _, true, rfl, rfl, rfl, rfl⟩, rfl, trivial⟩, err2_le 17, rfl⟩
            | true =>
              rw [hq3] at hk
              rw [if_neg (by decide)]
              (repeat' (first
  | (apply yFb; exact rfl; exact rfl)
  | (apply W.qd; (first
    | (apply (yW (hkn)); exact rfl; exact rfl; (iterate 3 kernel_rfl))|(apply (yW (hh)); exact rfl; exact rfl; (iterate 3 kernel_rfl))|(apply (yW (hu)); exact rfl; exact rfl; (iterate 3 kernel_rfl))|(apply (yW (hk)); exact rfl; exact rfl; (iterate 3 kernel_rfl))|(apply q_mv; (conv => lhs; whnf))|(apply q_as; (conv => lhs; whnf))|(apply yS; (iterate 3 exact rfl))|(apply yT; (iterate 4 exact rfl))|(apply yU; (iterate 4 exact rfl))|(apply q_geq; exact rfl; exact rfl)|(apply q_eql; exact rfl; exact rfl)|(apply q_neq; exact rfl; exact rfl)|(apply q_not; exact rfl)|(apply yY; (iterate 3 exact rfl); (first | omega | (focus (simp; done))))|(apply yGb; (iterate 4 exact rfl); (first | (with_reducible exact rfl) | exact natI_spec rfl | assumption | exact (Int.toNat_of_nonneg (by omega)).symm); (first | omega | (focus (simp only [List.length_map]; omega)) | (focus (simp; done)) | (focus (simp; omega))))
    | (apply (yDb (u := .d _)); exact rfl; exact rfl)))
  | (apply W.ed; (first
    | (apply yBb; (iterate 3 exact rfl); kernel_rfl; kernel_rfl)
    | (apply yCb; (iterate 3 exact rfl); kernel_rfl)))|(apply W.ln; (apply l_st_box; (iterate 6 exact rfl); (iterate 3 kernel_rfl)))|(apply yA)|(apply yB)|(apply (W.regionS 12); exact rfl; kernel_rfl)|(apply yE)|(apply yG)|(apply yH)|(apply yL)|(apply yR; exact rfl)
  | (refine W.cond _ rfl (fun hb => ?_) (fun hb => ?_) <;> ((try simp only [hb, zA, zB]) <;> (try simp only [zC, zD, zE, zF, zG, zH, zI, zJ] at hb) <;> (try (exfalso; omega))))))
              all_goals try (exfalso; omega)
              (repeat' (first
  | (apply W.qd; (first
    | ((apply q_fld_rptF; (iterate 4 exact rfl)))|(apply q_mv; (conv => lhs; whnf))|(apply q_as; (conv => lhs; whnf))|(apply yS; (iterate 3 exact rfl))|(apply yT; (iterate 4 exact rfl))|(apply yU; (iterate 4 exact rfl))
    | (apply q_ix_osl0; (iterate 4 exact rfl); (first | (with_reducible exact rfl) | exact natI_spec rfl | assumption | exact (Int.toNat_of_nonneg (by omega)).symm); (first | omega | (focus (simp only [List.length_map]; omega)) | (focus (simp; done)) | (focus (simp; omega))))))|(apply W.ed; (apply (e_callJ (js := []) (hcp)); (iterate 5 exact rfl); kernel_rfl; kernel_rfl))|(apply W.ln; (apply l_st_box; (iterate 6 exact rfl); (iterate 3 kernel_rfl)))|(apply W.en; ((apply (e_st_rptF (f := svD) (vs[j].1, vs[j].2.1, c, vs[j].2.2.2)); (iterate 8 exact rfl))))|(apply yA)|(apply yB)|(apply yC; kernel_rfl)|(apply yE)
  | (apply yJ)))
              refine ⟨.inl rfl, [], [.agg [.osl 3 a 0 cs.length, .osl 4 b 0 vs.length], iV 0], rfl, ⟨⟨1, _, true, rfl, rfl, rfl, rfl⟩, rfl, trivial⟩, AVle.of_eq ?_, rfl⟩
              show AV.tup [AV.agg [AV.frz _ [] (.osl 3 a 0 cs.length), AV.frz _ [] (.osl 4 b 0 vs.length)], iV 0] = _
              rw [frz_rowJ (i := 3) (ver := a) (n := cs.length) (l := cs.map cdD) rfl rfl hmc.symm, frz_rowJ (i := 4) (ver := b) (n := vs.length) (l := (vs.set j ((vs[j].1, vs[j].2.1, c, vs[j].2.2.2) : Sv)).map svD) rfl rfl (by simp)]
theorem A_finish {cs : List Cd} {vs : List Sv} {k : Int} (h : LibOk cs vs) : ACalls Tryz.prog 18 [lib cs vs, iV k] [] (res2 (finN cs vs k)) [] := by
  have hcl := h.cl
  have hvl := h.vl
  have hmc : (cs.map cdD).length = cs.length := List.length_map _
  have hmv : (vs.map svD).length = vs.length := List.length_map _
  have hkn := A_known (cs := cs) (vs := vs) (k := k)
  obtain ⟨a, b, hcp⟩ := A_copy h
  unfold finN atV
  refine acalls_of_body Tryz.func18 rfl (Nat.le_of_ble_eq_true rfl) ?_
  cases hq1 : hasB vs.length k with
  | false =>
    rw [hq1] at hkn
    rw [if_pos rfl]
    (repeat' (first
  | (apply W.qd; (first
    | (apply (yW (hkn)); exact rfl; exact rfl; (iterate 3 kernel_rfl))|(apply q_mv; (conv => lhs; whnf))|(apply q_as; (conv => lhs; whnf))|(apply yU; (iterate 4 exact rfl))|(apply q_not; exact rfl)
    | (apply yZ; exact rfl; exact rfl; kernel_rfl)))
  | (apply W.ed; (first
    | (apply yBb; (iterate 3 exact rfl); kernel_rfl; kernel_rfl)
    | (apply yCb; (iterate 3 exact rfl); kernel_rfl)))|(apply W.ln; (apply l_st_box; (iterate 6 exact rfl); (iterate 3 kernel_rfl)))|(apply yA)|(apply yB)|(apply yC; kernel_rfl)|(apply yE)|(apply yJ)|(apply yP)
  | (apply yQ; exact rfl)))
    all_goals exact ⟨.inl rfl, [], [.agg [.d (.v (.slice none 0 0)), .d (.v (.slice none 0 0))], iV 12], rfl, ⟨⟨1, _, true, rfl, rfl, rfl, rfl⟩, rfl, trivial⟩, err2_le 12, rfl⟩
  | true =>
    rw [hq1] at hkn
    rw [if_neg (by decide)]
    obtain ⟨j, rfl, hj⟩ := hasB_nat hq1
    have eg : vs.getD (j : Int).toNat sv0 = vs[j] := by rw [Int.toNat_natCast, List.getD_eq_getElem?_getD, List.getElem?_eq_getElem hj]; rfl
    rw [eg, Int.toNat_natCast]
    by_cases h1 : vs[j].2.2.1 = -1
    · rw [if_pos h1]
      (repeat' (first
  | (apply W.qd; (first
    | (apply (yW (hkn)); exact rfl; exact rfl; (iterate 3 kernel_rfl))|(apply q_mv; (conv => lhs; whnf))|(apply q_as; (conv => lhs; whnf))|(apply yS; (iterate 3 exact rfl))|(apply yT; (iterate 4 exact rfl))|(apply yU; (iterate 4 exact rfl))|(apply q_eql; exact rfl; exact rfl)|(apply q_not; exact rfl)|(apply yX; (iterate 3 exact rfl); (first | omega | (focus (simp; done))))|(apply q_fld_fptF; (iterate 3 exact rfl))|(apply yZ; exact rfl; exact rfl; kernel_rfl)
    | (apply yGb; (iterate 4 exact rfl); (first | (with_reducible exact rfl) | exact natI_spec rfl | assumption | exact (Int.toNat_of_nonneg (by omega)).symm); (first | omega | (focus (simp only [List.length_map]; omega)) | (focus (simp; done)) | (focus (simp; omega))))))
  | (apply W.ed; (first
    | (apply yBb; (iterate 3 exact rfl); kernel_rfl; kernel_rfl)
    | (apply yCb; (iterate 3 exact rfl); kernel_rfl)))|(apply W.ln; (apply l_st_box; (iterate 6 exact rfl); (iterate 3 kernel_rfl)))|(apply yA)|(apply yB)|(apply (W.regionS 5); exact rfl; kernel_rfl)|(apply yE)|(apply yH)|(apply yJ)|(apply yP)|(apply yR; exact rfl)
  | (refine W.cond _ rfl (fun hb => ?_) (fun hb => ?_) <;> ((try simp only [hb, zA, zB]) <;> (try simp only [zC, zD, zE, zF, zG, zH, zI, zJ] at hb) <;> (try (exfalso; omega))))))
      all_goals first | (exfalso; omega) | exact ⟨.inl rfl, [], [.agg [.d (.v (.slice none 0 0)), .d (.v (.slice none 0 0))], iV 19], rfl, ⟨⟨1, _, true, rfl, rfl, rfl, rfl⟩, rfl, trivial⟩, err2_le 19, rfl⟩
    · rw [if_neg h1]
      have hss : (vs.set j ((vs[j].1, vs[j].2.2.1, vs[j].2.2) : Sv)).set j ((vs[j].1, vs[j].2.2.1, -1, vs[j].2.2.2) : Sv) = vs.set j ((vs[j].1, vs[j].2.2.1, -1, vs[j].2.2.2) : Sv) := List.set_set _
      have hsv : svD (vs[j].1, vs[j].2.2.1, -1, vs[j].2.2.2) = (svD ((vs.set j ((vs[j].1, vs[j].2.2.1, vs[j].2.2) : Sv))[j]'(by rw [List.length_set]; exact hj))).set 2 (.v (.int .i64 (-1))) := by rw [List.getElem_set_self]; rfl
      (repeat' (first
  | (apply W.qd; (first
    | (apply (yW (hkn)); exact rfl; exact rfl; (iterate 3 kernel_rfl))|(apply q_mv; (conv => lhs; whnf))|(apply q_as; (conv => lhs; whnf))|(apply yS; (iterate 3 exact rfl))|(apply yT; (iterate 4 exact rfl))|(apply yU; (iterate 4 exact rfl))|(apply q_eql; exact rfl; exact rfl)|(apply q_not; exact rfl)|(apply yX; (iterate 3 exact rfl); (first | omega | (focus (simp; done))))|(apply q_fld_fptF; (iterate 3 exact rfl))
    | (apply yGb; (iterate 4 exact rfl); (first | (with_reducible exact rfl) | exact natI_spec rfl | assumption | exact (Int.toNat_of_nonneg (by omega)).symm); (first | omega | (focus (simp only [List.length_map]; omega)) | (focus (simp; done)) | (focus (simp; omega))))))
  | (apply W.ed; (first
    | (apply yBb; (iterate 3 exact rfl); kernel_rfl; kernel_rfl)
    | (apply yCb; (iterate 3 exact rfl); kernel_rfl)))|(apply yA)|(apply yB)|(apply (W.regionS 5); exact rfl; kernel_rfl)|(apply yE)|(apply yH)|(apply yR; exact rfl)
  | (refine W.cond _ rfl (fun hb => ?_) (fun hb => ?_) <;> ((try simp only [hb, zA, zB]) <;> (try simp only [zC, zD, zE, zF, zG, zH, zI, zJ] at hb) <;> (try (exfalso; omega))))))
      all_goals try (exfalso; omega)
      (repeat' (first
  | (apply W.qd; (first
    | ((apply q_nil_rpt; exact rfl; exact rfl))
    | ((apply q_fld_rptF; (iterate 4 exact rfl)))|(apply q_mv; (conv => lhs; whnf))|(apply q_as; (conv => lhs; whnf))|(apply yS; (iterate 3 exact rfl))|(apply yT; (iterate 4 exact rfl))|(apply yU; (iterate 4 exact rfl))|(apply q_ix_osl0; (iterate 4 exact rfl); (first | (with_reducible exact rfl) | exact natI_spec rfl | assumption | exact (Int.toNat_of_nonneg (by omega)).symm); (first | omega | (focus (simp only [List.length_map]; omega)) | (focus (simp; done)) | (focus (simp; omega))))
    | (apply q_ld_rptm; (iterate 4 exact rfl); (first | omega | (focus (simp only [List.length_map]; omega)) | (focus (simp; done)) | (focus (simp; omega))))))|(apply W.ed; (apply (e_callJ (js := []) (hcp)); (iterate 5 exact rfl); kernel_rfl; kernel_rfl))|(apply W.ln; (apply l_st_box; (iterate 6 exact rfl); (iterate 3 kernel_rfl)))
  | (apply W.en; (first
    | ((apply (e_st_rptF (f := svD) (vs[j].1, vs[j].2.2.1, vs[j].2.2)); (iterate 8 exact rfl)))
    | ((apply (e_st_rptF (f := svD) (l := vs.set j (vs[j].1, vs[j].2.2.1, vs[j].2.2)) (vs[j].1, vs[j].2.2.1, -1, vs[j].2.2.2)); (iterate 5 exact rfl); exact hsv; exact rfl; exact rfl))))|(apply yA)|(apply yB)|(apply yC; kernel_rfl)|(apply yE)
  | (apply yJ)))
      rw [← hss]
      refine ⟨.inl rfl, [], [.agg [.osl 2 a 0 cs.length, .osl 3 b 0 vs.length], iV 0], rfl, ⟨⟨1, _, true, rfl, rfl, rfl, rfl⟩, rfl, trivial⟩, AVle.of_eq ?_, rfl⟩
      show AV.tup [AV.agg [AV.frz _ [] (.osl 2 a 0 cs.length), AV.frz _ [] (.osl 3 b 0 vs.length)], iV 0] = _
      rw [frz_rowJ (i := 2) (ver := a) (n := cs.length) (l := cs.map cdD) rfl rfl hmc.symm, frz_rowJ (i := 3) (ver := b) (n := vs.length) (l := ((vs.set j ((vs[j].1, vs[j].2.2.1, vs[j].2.2) : Sv)).set j ((vs[j].1, vs[j].2.2.1, -1, vs[j].2.2.2) : Sv)).map svD) rfl rfl (by simp)]
theorem A_target {cs : List Cd} {vs : List Sv} {k : Int} : ACalls Tryz.prog 40 [lib cs vs, iV k] [] (.tup [iV (tgtN vs k).1, iV (tgtN vs k).2]) [] := by
  have hmv : (vs.map svD).length = vs.length := List.length_map _
  have hkn := A_known (cs := cs) (vs := vs) (k := k)
  unfold tgtN atV
  refine acalls_of_body Tryz.func40 rfl (Nat.le_of_ble_eq_true rfl) ?_
  cases hq1 : hasB vs.length k with
  | false =>
    rw [hq1] at hkn
    rw [if_pos rfl]
    (repeat' (first
  | (apply W.qd; (first
    | (apply (yW (hkn)); exact rfl; exact rfl; (iterate 3 kernel_rfl))|(apply q_mv; (conv => lhs; whnf))|(apply q_as; (conv => lhs; whnf))|(apply yU; (iterate 4 exact rfl))
    | (apply q_not; exact rfl)))|(apply W.ed; (apply yBb; (iterate 3 exact rfl); kernel_rfl; kernel_rfl))|(apply yA)|(apply yB)|(apply yC; kernel_rfl)|(apply yE)|(apply yJ)|(apply yP)
  | (apply yQ; exact rfl)))
    exact Ends.two rfl rfl rfl
  | true =>
    rw [hq1] at hkn
    rw [if_neg (by decide)]
    obtain ⟨j, rfl, hj⟩ := hasB_nat hq1
    have eg : vs.getD (j : Int).toNat sv0 = vs[j] := by rw [Int.toNat_natCast, List.getD_eq_getElem?_getD, List.getElem?_eq_getElem hj]; rfl
    rw [eg]
    by_cases h1 : vs[j].2.2.1 ≠ -1
    · rw [if_pos h1]
      (repeat' (first
  | (apply W.qd; (first
    | (apply (yW (hkn)); exact rfl; exact rfl; (iterate 3 kernel_rfl))|(apply q_mv; (conv => lhs; whnf))|(apply q_as; (conv => lhs; whnf))|(apply yS; (iterate 3 exact rfl))|(apply yT; (iterate 4 exact rfl))|(apply yU; (iterate 4 exact rfl))|(apply q_neq; exact rfl; exact rfl)|(apply q_not; exact rfl)|(apply yY; (iterate 3 exact rfl); (first | omega | (focus (simp; done))))
    | (apply yGb; (iterate 4 exact rfl); (first | (with_reducible exact rfl) | exact natI_spec rfl | assumption | exact (Int.toNat_of_nonneg (by omega)).symm); (first | omega | (focus (simp only [List.length_map]; omega)) | (focus (simp; done)) | (focus (simp; omega))))))
  | (apply W.ed; (first
    | (apply yBb; (iterate 3 exact rfl); kernel_rfl; kernel_rfl)
    | (apply yCb; (iterate 3 exact rfl); kernel_rfl)))|(apply W.ln; (apply l_st_box; (iterate 6 exact rfl); (iterate 3 kernel_rfl)))|(apply yA)|(apply yB)|(apply yC; kernel_rfl)|(apply yE)|(apply yH)|(apply yJ)|(apply yP)|(apply yR; exact rfl)
  | (refine W.cond _ rfl (fun hb => ?_) (fun hb => ?_) <;> ((try simp only [hb, zA, zB]) <;> (try simp only [zC, zD, zE, zF, zG, zH, zI, zJ] at hb) <;> (try (exfalso; omega))))))
      all_goals first | (exfalso; omega) | exact Ends.two rfl rfl rfl
    · rw [if_neg h1]
      (repeat' (first
  | (apply W.qd; (first
    | (apply (yW (hkn)); exact rfl; exact rfl; (iterate 3 kernel_rfl))|(apply q_mv; (conv => lhs; whnf))|(apply q_as; (conv => lhs; whnf))|(apply yS; (iterate 3 exact rfl))|(apply yT; (iterate 4 exact rfl))|(apply yU; (iterate 4 exact rfl))|(apply q_neq; exact rfl; exact rfl)|(apply q_not; exact rfl)|(apply yX; (iterate 3 exact rfl); (first | omega | (focus (simp; done))))|(apply yY; (iterate 3 exact rfl); (first | omega | (focus (simp; done))))|(apply q_fld_fptF; (iterate 3 exact rfl))
    | (apply yGb; (iterate 4 exact rfl); (first | (with_reducible exact rfl) | exact natI_spec rfl | assumption | exact (Int.toNat_of_nonneg (by omega)).symm); (first | omega | (focus (simp only [List.length_map]; omega)) | (focus (simp; done)) | (focus (simp; omega))))))
  | (apply W.ed; (first
    | (apply yBb; (iterate 3 exact rfl); kernel_rfl; kernel_rfl)
    | (apply yCb; (iterate 3 exact rfl); kernel_rfl)))|(apply W.ln; (apply l_st_box; (iterate 6 exact rfl); (iterate 3 kernel_rfl)))|(apply yA)|(apply yB)|(apply yC; kernel_rfl)|(apply yE)|(apply yH)|(apply yJ)|(apply yR; exact rfl)
  | (refine W.cond _ rfl (fun hb => ?_) (fun hb => ?_) <;> ((try simp only [hb, zA, zB]) <;> (try simp only [zC, zD, zE, zF, zG, zH, zI, zJ] at hb) <;> (try (exfalso; omega))))))
      all_goals first | (exfalso; omega) | exact Ends.two rfl rfl rfl
end Go.Proofs.YtaclmbbiegklcaaGreatDoor
end
section
namespace Go.Proofs.YtaclmbbiegklcaaGreatDoor
open Go.RowKit
set_option maxHeartbeats 4000000
set_option maxRecDepth 100000
section
variable {α : Type} {q : α → Bool} {l : List α}
theorem idxA_iff {i : Nat} : idxA q l = (i : Int) ↔ ∃ h : i < l.length, q l[i] = true ∧ ∀ (j : Nat) (hj : j < i), q (l[j]'(by omega)) = false := by
  unfold idxA
  constructor
  · intro h
    split at h
    · rename_i k hk
      obtain rfl : k = i := by omega
      obtain ⟨h1, h2, h3⟩ := List.findIdx?_eq_some_iff_getElem.1 hk
      exact ⟨h1, h2, fun j hj => by simpa using h3 j hj⟩
    · omega
  · rintro ⟨h1, h2, h3⟩
    have : l.findIdx? q = some i := List.findIdx?_eq_some_iff_getElem.2 ⟨h1, h2, fun j hj => by simpa using h3 j hj⟩
    rw [this]
theorem idxA_neg : ¬ 0 ≤ idxA q l ↔ ∀ x ∈ l, q x = false := by
  unfold idxA
  split
  · rename_i k hk
    obtain ⟨h1, h2, h3⟩ := List.findIdx?_eq_some_iff_getElem.1 hk
    constructor
    · intro h; omega
    · intro h
      rw [h _ (List.getElem_mem h1)] at h2; cases h2
  · rename_i hn
    exact ⟨fun _ => List.findIdx?_eq_none_iff.1 hn, fun _ => by omega⟩
theorem idxA_app {i : Nat} (m : List α) (h : idxA q l = (i : Int)) : idxA q (l ++ m) = (i : Int) := by
  obtain ⟨h1, h2, h3⟩ := idxA_iff.1 h
  refine idxA_iff.2 ⟨by simp; omega, by rw [List.getElem_append_left h1]; exact h2, fun j hj => ?_⟩
  rw [List.getElem_append_left (by omega)]; exact h3 j hj
theorem idxA_last {x : α} (h : ¬ 0 ≤ idxA q l) (hx : q x = true) : idxA q (l ++ [x]) = (l.length : Int) := by
  refine idxA_iff.2 ⟨by simp, by simpa using hx, fun j hj => ?_⟩
  rw [List.getElem_append_left hj]
  exact idxA_neg.1 h _ (List.getElem_mem hj)
theorem idxA_set {i j : Nat} {y : α} (h : idxA q l = (i : Int)) (h1 : i = j → q y = true) (h2 : j < i → q y = false) : idxA q (l.set j y) = (i : Int) := by
  obtain ⟨g1, g2, g3⟩ := idxA_iff.1 h
  refine idxA_iff.2 ⟨by simpa using g1, ?_, fun k hk => ?_⟩
  · rw [List.getElem_set]
    split
    · rename_i e; exact h1 e.symm
    · exact g2
  · rw [List.getElem_set]
    split
    · rename_i e; exact h2 (by omega)
    · exact g3 k hk
theorem idxA_new {j : Nat} {y : α} (h : ¬ 0 ≤ idxA q l) (hj : j < l.length) (hy : q y = true) : idxA q (l.set j y) = (j : Int) := by
  refine idxA_iff.2 ⟨by simpa using hj, by rw [List.getElem_set_self]; exact hy, fun k hk => ?_⟩
  rw [List.getElem_set_ne (by omega)]
  exact idxA_neg.1 h _ (List.getElem_mem (by omega))
end
theorem getDc {cs : List Cd} {i : Nat} (h : i < cs.length) : cs.getD i cd0 = cs[i] := by rw [List.getD_eq_getElem?_getD, List.getElem?_eq_getElem h]; rfl
theorem getDv {vs : List Sv} {i : Nat} (h : i < vs.length) : vs.getD i sv0 = vs[i] := by rw [List.getD_eq_getElem?_getD, List.getElem?_eq_getElem h]; rfl
structure VOk (cs : List Cd) (vs : List Sv) (i : Nat) (v : Sv) : Prop where
  nm : fvI vs v.1 = (i : Int)
  pl : plausB v.1 v.2.2.2.1 v.2.2.2.2 = true
  kp : keepsB cs v.2.1 v.2.2.2.1 = true
  ne : v.2.2.1 ≠ v.2.1
  kn : v.2.2.1 = -1 ∨ keepsB cs v.2.2.1 v.2.2.2.1 = true
  us : userI vs v.2.1 = (i : Int)
  un : v.2.2.1 = -1 ∨ userI vs v.2.2.1 = (i : Int)
theorem okV_iff {cs : List Cd} {vs : List Sv} {i : Nat} (h : i < vs.length) : okV cs vs i = true ↔ VOk cs vs i vs[i] := by
  unfold okV aloneB
  rw [getDv h]
  simp only [Bool.and_eq_true, Bool.or_eq_true, decide_eq_true_eq]
  exact ⟨fun ⟨h1, h2, h3, h4, h5, h6, h7⟩ => ⟨h1, h2, h3, h4, h5, h6, h7⟩, fun ⟨h1, h2, h3, h4, h5, h6, h7⟩ => ⟨h1, h2, h3, h4, h5, h6, h7⟩⟩
theorem okC_iff {cs : List Cd} {i : Nat} (h : i < cs.length) : okC cs i = true ↔ fcI cs cs[i].1 = (i : Int) ∧ chkD cs[i] = true := by
  unfold okC
  rw [getDc h, Bool.and_eq_true, decide_eq_true_eq]
structure Vld (cs : List Cd) (vs : List Sv) : Prop where
  cl : cs.length ≤ 8
  vl : vs.length ≤ 8
  c : ∀ (i : Nat) (h : i < cs.length), fcI cs cs[i].1 = (i : Int) ∧ chkD cs[i] = true
  v : ∀ (i : Nat) (h : i < vs.length), VOk cs vs i vs[i]
theorem valid_iff {cs : List Cd} {vs : List Sv} : validB cs vs = true ↔ Vld cs vs := by
  unfold validB
  simp only [Bool.and_eq_true, decide_eq_true_eq, all_range]
  exact ⟨fun ⟨⟨h1, h2⟩, h3, h4⟩ => ⟨h1, h2, fun i h => (okC_iff h).1 (h3 i h), fun i h => (okV_iff h).1 (h4 i h)⟩, fun ⟨h1, h2, h3, h4⟩ => ⟨⟨h1, h2⟩, fun i h => (okC_iff h).2 (h3 i h), fun i h => (okV_iff h).2 (h4 i h)⟩⟩
theorem keeps_has {cs : List Cd} {k n : Int} (h : keepsB cs k n = true) : 0 ≤ k ∧ k < cs.length := by
  unfold keepsB at h
  rw [Bool.and_eq_true] at h
  obtain ⟨j, rfl, hj⟩ := hasB_nat h.1
  omega
theorem keeps_app {cs : List Cd} {k n : Int} (c : Cd) (h : keepsB cs k n = true) : keepsB (cs ++ [c]) k n = true := by
  unfold keepsB at h ⊢
  rw [Bool.and_eq_true] at h ⊢
  obtain ⟨j, rfl, hj⟩ := hasB_nat h.1
  refine ⟨by unfold hasB; simp; omega, ?_⟩
  have h2 := h.2
  rw [Int.toNat_natCast, getDc hj] at h2
  rw [Int.toNat_natCast, getDc (by simp; omega), List.getElem_append_left hj]
  exact h2
theorem vld_addC {cs : List Cd} {vs : List Sv} {c : Cd} (h : Vld cs vs) (h1 : chkD c = true) (h2 : ¬ 0 ≤ fcI cs c.1) (h3 : ¬ 8 ≤ cs.length) : Vld (cs ++ [c]) vs where
  cl := by simp; omega
  vl := h.vl
  c i hi := by
    rw [List.length_append, List.length_singleton] at hi
    by_cases e : i < cs.length
    · rw [List.getElem_append_left e]
      exact ⟨idxA_app _ (h.c i e).1, (h.c i e).2⟩
    · obtain rfl : i = cs.length := by omega
      rw [List.getElem_concat_length rfl]
      exact ⟨idxA_last h2 (decide_eq_true rfl), h1⟩
  v i hi := by
    have := h.v i hi
    exact ⟨this.nm, this.pl, keeps_app c this.kp, this.ne, this.kn.imp id (keeps_app c), this.us, this.un⟩
theorem vld_addV {cs : List Cd} {vs : List Sv} {nm : List Nat} {k l w : Int} (h : Vld cs vs) (h1 : plausB nm l w = true) (h2 : ¬ 0 ≤ fvI vs nm) (h3 : ¬ 8 ≤ vs.length) (h4 : ¬ 0 ≤ userI vs k) (h5 : keepsB cs k l = true) : Vld cs (vs ++ [(nm, k, -1, l, w)]) where
  cl := h.cl
  vl := by simp; omega
  c := h.c
  v i hi := by
    rw [List.length_append, List.length_singleton] at hi
    by_cases e : i < vs.length
    · rw [List.getElem_append_left e]
      have := h.v i e
      exact ⟨idxA_app _ this.nm, this.pl, this.kp, this.ne, this.kn, idxA_app _ this.us, this.un.imp id fun h => idxA_app _ h⟩
    · obtain rfl : i = vs.length := by omega
      rw [List.getElem_concat_length rfl]
      have := keeps_has h5
      exact ⟨idxA_last h2 (decide_eq_true rfl), h1, h5, by dsimp only; omega, .inl rfl, idxA_last h4 (by unfold usesB; simp), .inl rfl⟩
theorem fv_set {vs : List Sv} {nm : List Nat} {i j : Nat} {y : Sv} (hj : j < vs.length) (hy : y.1 = vs[j].1) (h : fvI vs nm = (i : Int)) : fvI (vs.set j y) nm = (i : Int) := by
  obtain ⟨g1, g2, g3⟩ := idxA_iff.1 h
  refine idxA_set h (fun e => ?_) (fun e => ?_)
  · subst e; rw [hy]; exact g2
  · rw [hy]; exact g3 j e
theorem vld_chg {cs : List Cd} {vs : List Sv} {j : Nat} {c : Int} (h : Vld cs vs) (hj : j < vs.length) (h1 : vs[j].2.2.1 = -1) (h2 : vs[j].2.1 ≠ c) (h3 : ¬ 0 ≤ userI vs c) (h4 : keepsB cs c vs[j].2.2.2.1 = true) : Vld cs (vs.set j (vs[j].1, vs[j].2.1, c, vs[j].2.2.2)) where
  cl := h.cl
  vl := by simpa using h.vl
  c := h.c
  v i hi := by
    rw [List.length_set] at hi
    have hO := h.v i hi
    have hJ := h.v j hj
    have hno := idxA_neg.1 h3
    have hc0 := keeps_has h4
    have hu : ∀ q : Int, userI vs q = (i : Int) → q ≠ c → (i = j → vs[j].2.1 = q) → userI (vs.set j (vs[j].1, vs[j].2.1, c, vs[j].2.2.2)) q = (i : Int) := fun q hq hqc hij => by
      obtain ⟨g1, g2, g3⟩ := idxA_iff.1 hq
      refine idxA_set hq (fun e => ?_) (fun e => ?_)
      · unfold usesB; rw [decide_eq_true (hij e)]; rfl
      · have g4 := g3 j e
        unfold usesB at g4 ⊢
        rw [Bool.or_eq_false_iff] at g4
        rw [Bool.or_eq_false_iff]
        exact ⟨g4.1, decide_eq_false fun e2 => hqc e2.symm⟩
    rw [List.getElem_set]
    split
    · rename_i e
      subst e
      refine ⟨fv_set hj rfl hJ.nm, hJ.pl, hJ.kp, fun e => h2 e.symm, .inr h4, hu _ hJ.us h2 fun _ => rfl, .inr ?_⟩
      exact idxA_new h3 hj (by unfold usesB; simp)
    · rename_i e
      have hni := hno _ (List.getElem_mem hi)
      unfold usesB at hni
      rw [Bool.or_eq_false_iff, decide_eq_false_iff_not, decide_eq_false_iff_not] at hni
      refine ⟨fv_set hj rfl hO.nm, hO.pl, hO.kp, hO.ne, hO.kn, hu _ hO.us hni.1 (fun e2 => absurd e2.symm e), hO.un.imp id fun h => hu _ h hni.2 fun e2 => absurd e2.symm e⟩
theorem vld_fin {cs : List Cd} {vs : List Sv} {j : Nat} (h : Vld cs vs) (hj : j < vs.length) (h1 : vs[j].2.2.1 ≠ -1) : Vld cs (vs.set j (vs[j].1, vs[j].2.2.1, -1, vs[j].2.2.2)) where
  cl := h.cl
  vl := by simpa using h.vl
  c := h.c
  v i hi := by
    rw [List.length_set] at hi
    have hO := h.v i hi
    have hJ := h.v j hj
    have hu : ∀ q : Int, 0 ≤ q → userI vs q = (i : Int) → (i = j → vs[j].2.2.1 = q) → userI (vs.set j (vs[j].1, vs[j].2.2.1, -1, vs[j].2.2.2)) q = (i : Int) := fun q hq0 hq hij => by
      obtain ⟨g1, g2, g3⟩ := idxA_iff.1 hq
      refine idxA_set hq (fun e => ?_) (fun e => ?_)
      · unfold usesB; rw [decide_eq_true (hij e)]; rfl
      · have g4 := g3 j e
        unfold usesB at g4 ⊢
        rw [Bool.or_eq_false_iff] at g4
        rw [Bool.or_eq_false_iff]
        exact ⟨g4.2, decide_eq_false fun e2 : (-1 : Int) = q => by omega⟩
    rw [List.getElem_set]
    split
    · rename_i e
      subst e
      have hk := hJ.kn.resolve_left h1
      have hk0 := keeps_has hk
      exact ⟨fv_set hj rfl hJ.nm, hJ.pl, hk, fun e => h1 e.symm, .inl rfl, hu _ hk0.1 (hJ.un.resolve_left h1) fun _ => rfl, .inl rfl⟩
    · rename_i e
      refine ⟨fv_set hj rfl hO.nm, hO.pl, hO.kp, hO.ne, hO.kn, hu _ (keeps_has hO.kp).1 hO.us (fun e2 => absurd e2.symm e), ?_⟩
      rcases hO.un with h2 | h2
      · exact .inl h2
      · by_cases e3 : vs[i].2.2.1 = -1
        · exact .inl e3
        · exact .inr (hu _ (keeps_has (hO.kn.resolve_left e3)).1 h2 fun e2 => absurd e2.symm e)
end Go.Proofs.YtaclmbbiegklcaaGreatDoor
end
section
namespace Go.Proofs.YtaclmbbiegklcaaGreatDoor
open Go.RowKit
set_option maxHeartbeats 4000000
set_option maxRecDepth 100000
def few30 (c : Cd) : Bool := decide (0 ≤ c.2.2.1) && (decide (c.2.2.1 ≤ 5) && (decide (c.2.2.2.1.length ≤ 5) && decide (c.2.2.1 + (c.2.2.2.1.length : Int) ≤ 7)))
def small30 (cs : List Cd) (vs : List Sv) : Bool := (decide (cs.length ≤ 9) && decide (vs.length ≤ 9)) && cs.all few30
theorem LibOk.nil : LibOk [] [] := ⟨by simp, by simp, by simp, by decide, by decide⟩
theorem LibOk.addC {cs : List Cd} {vs : List Sv} (h : LibOk cs vs) (c : Cd) (h1 : NameIn c.1) (h2 : chkD c = true) (h3 : cs.length < 900) : LibOk (cs ++ [c]) vs where
  cn x hx := by
    rcases List.mem_append.1 hx with h4 | h4
    · exact h.cn x h4
    · rw [List.mem_singleton.1 h4]; exact h1
  ck x hx := by
    rcases List.mem_append.1 hx with h4 | h4
    · exact h.ck x h4
    · rw [List.mem_singleton.1 h4]; exact h2
  vn := h.vn
  cl := by simp; omega
  vl := h.vl
theorem LibOk.addV {cs : List Cd} {vs : List Sv} (h : LibOk cs vs) (v : Sv) (h1 : NameIn v.1) (h3 : vs.length < 900) : LibOk cs (vs ++ [v]) where
  cn := h.cn
  ck := h.ck
  vn x hx := by
    rcases List.mem_append.1 hx with h4 | h4
    · exact h.vn x h4
    · rw [List.mem_singleton.1 h4]; exact h1
  cl := h.cl
  vl := by simp; omega
theorem LibOk.lin {cs : List Cd} {vs : List Sv} (h : LibOk cs vs) : LibIn cs vs where
  cn := h.cn
  cp c hc := by have := (chk_rows (h.ck c hc)).1; omega
  vn := h.vn
  cl := by have := h.cl; omega
  vl := by have := h.vl; omega
def rs30 : Cd := ([114, 115], 8, 2, [[1, 1], [1, 2]], 1)
def pa30 : Cd := ([112, 97, 114], 8, 2, [[1, 1]], 1)
def pb30 : Cd := ([112, 97, 114], 8, 2, [[1, 2]], 1)
def pc30 : Cd := ([112, 97, 114, 50], 8, 2, [[1, 2]], 1)
def gold : Sv := ([103, 111, 108, 100], 0, -1, 2, 40)
def low1 : Sv := ([108, 111, 119], 1, -1, 1, 9)
def low2 : Sv := ([108, 111, 119], 1, 2, 1, 9)
def low3 : Sv := ([108, 111, 119], 2, -1, 1, 9)
theorem n_rs : NameIn rs30.1 := ⟨by unfold isB rs30; decide, by decide⟩
theorem n_pa : NameIn pa30.1 := ⟨by unfold isB pa30; decide, by decide⟩
theorem n_pc : NameIn pc30.1 := ⟨by unfold isB pc30; decide, by decide⟩
theorem n_gold : NameIn gold.1 := ⟨by unfold isB gold; decide, by decide⟩
theorem n_gold2 : NameIn [103, 111, 108, 100, 50] := ⟨by unfold isB; decide, by decide⟩
theorem n_low : NameIn low1.1 := ⟨by unfold isB low1; decide, by decide⟩
theorem L1 : LibOk [rs30] [] := LibOk.nil.addC rs30 n_rs (by kernel_rfl) (by decide)
theorem L2 : LibOk [rs30, pa30] [] := L1.addC pa30 n_pa (by kernel_rfl) (by decide)
theorem L3 : LibOk [rs30, pa30, pc30] [] := L2.addC pc30 n_pc (by kernel_rfl) (by decide)
theorem L4 : LibOk [rs30, pa30, pc30] [gold] := L3.addV gold n_gold (by decide)
theorem L5 : LibOk [rs30, pa30, pc30] [gold, low1] := L4.addV low1 n_low (by decide)
theorem L6 : LibOk [rs30, pa30, pc30] [gold, low2] := L4.addV low2 n_low (by decide)
theorem L7 : LibOk [rs30, pa30, pc30] [gold, low3] := L4.addV low3 n_low (by decide)
theorem r1 : addCN [] [] rs30 = (([rs30], []), 0, 0) := by kernel_rfl
theorem r2 : addCN [rs30] [] pa30 = (([rs30, pa30], []), 1, 0) := by kernel_rfl
theorem r3 : addCN [rs30, pa30] [] pb30 = (lb0, 0, 20) := by kernel_rfl
theorem r4 : addCN [rs30, pa30] [] pc30 = (([rs30, pa30, pc30], []), 2, 0) := by kernel_rfl
theorem r5 : addVN [rs30, pa30, pc30] [] gold.1 0 2 40 = (([rs30, pa30, pc30], [gold]), 0, 0) := by kernel_rfl
theorem r6 : addVN [rs30, pa30, pc30] [gold] [103, 111, 108, 100, 50] 0 2 40 = (lb0, 0, 19) := by kernel_rfl
theorem r7 : addVN [rs30, pa30, pc30] [gold] [103, 111, 108, 100, 50] 1 2 40 = (lb0, 0, 17) := by kernel_rfl
theorem r8 : chgN [rs30, pa30, pc30] [gold] 0 1 = (lb0, 17) := by kernel_rfl
theorem r9 : chgN [rs30, pa30, pc30] [gold] 0 0 = (lb0, 1) := by kernel_rfl
theorem r10 : chgN [rs30, pa30, pc30] [gold] 0 3 = (lb0, 12) := by kernel_rfl
theorem r11 : finN [rs30, pa30, pc30] [gold] 0 = (lb0, 19) := by kernel_rfl
theorem r12 : addVN [rs30, pa30, pc30] [gold] low1.1 1 1 9 = (([rs30, pa30, pc30], [gold, low1]), 1, 0) := by kernel_rfl
theorem r13 : chgN [rs30, pa30, pc30] [gold, low1] 1 2 = (([rs30, pa30, pc30], [gold, low2]), 0) := by kernel_rfl
theorem r14 : tgtN [gold, low2] 1 = (2, 0) := by kernel_rfl
theorem r15 : finN [rs30, pa30, pc30] [gold, low2] 1 = (([rs30, pa30, pc30], [gold, low3]), 0) := by kernel_rfl
theorem r16 : validB [rs30, pa30, pc30] [gold, low3] = true := by kernel_rfl
theorem fi_sv : fldsT Tryz.prog 66 = some [.s 0, .i 1, .i 2, .i 3, .i 4] := by kernel_rfl
attribute [local irreducible] Quiet Eff OpOk AWPG ACont ABlock ACalls AGoto
theorem A_few30 {c : Cd} : ACalls Tryz.prog 7 [cdA1 c] [] (bV (few30 c)) [] := by
  obtain ⟨nm, M, D, par, dom⟩ := c
  show ACalls Tryz.prog 7 [cdF nm M D par dom] [] (bV (few30 (nm, M, D, par, dom))) []
  refine acalls_of_body Tryz.func7 rfl (Nat.le_of_ble_eq_true rfl) ?_
  have hmp : (par.map rD).length = par.length := List.length_map _
  unfold few30
  dsimp only
  by_cases h1 : 0 ≤ D
  · by_cases h2 : D ≤ 5
    · by_cases h3 : par.length ≤ 5
      · rw [decide_eq_true h1, decide_eq_true h2, decide_eq_true h3]
        (repeat' (first
  | (apply yFb; exact rfl; exact rfl)
  | (apply W.qd; (first
    | (apply q_mv; (conv => lhs; whnf))|(apply q_as; (conv => lhs; whnf))|(apply yS; (iterate 3 exact rfl))|(apply yT; (iterate 4 exact rfl))|(apply q_leq; exact rfl; exact rfl)|(apply q_geq; exact rfl; exact rfl)|(apply q_add; exact rfl; exact rfl; omega)|(apply yV; exact rfl; exact rfl)
    | (apply (yEb (u := .d _)); exact rfl; exact rfl)))|(apply W.ed; (apply yBb; (iterate 3 exact rfl); kernel_rfl; kernel_rfl))|(apply yA)|(apply yB)|(apply yC; kernel_rfl)|(apply yE)|(apply yJ)
  | (refine W.gT _ _ rfl rfl (fun hb => ?_) (fun hb => ?_) <;> ((try simp only [hb, zA, zB]) <;> (try simp only [zC, zD, zE, zF, zG, zH, zI, zJ] at hb) <;> (try (exfalso; omega))))))
        all_goals refine Ends.b rfl ?_
        all_goals simp [hmp]
      · rw [decide_eq_true h1, decide_eq_true h2, decide_eq_false h3]
        (repeat' (first
  | (apply yFb; exact rfl; exact rfl)
  | (apply W.qd; (first
    | (apply q_mv; (conv => lhs; whnf))|(apply q_as; (conv => lhs; whnf))|(apply yS; (iterate 3 exact rfl))|(apply yT; (iterate 4 exact rfl))|(apply q_leq; exact rfl; exact rfl)|(apply q_geq; exact rfl; exact rfl)|(apply yV; exact rfl; exact rfl)|(apply (yEb (u := .d _)); exact rfl; exact rfl)
    | (apply (yDb (u := .d _)); exact rfl; exact rfl)))|(apply W.ed; (apply yBb; (iterate 3 exact rfl); kernel_rfl; kernel_rfl))|(refine W.gOff _ _ rfl rfl (by intro h; cases h) ?_)|(apply yA)|(apply yB)|(apply yC; kernel_rfl)|(apply yE)|(apply yJ)
  | (refine W.gT _ _ rfl rfl (fun hb => ?_) (fun hb => ?_) <;> ((try simp only [hb, zA, zB]) <;> (try simp only [zC, zD, zE, zF, zG, zH, zI, zJ] at hb) <;> (try (exfalso; omega))))))
        all_goals exact Ends.b rfl rfl
    · rw [decide_eq_true h1, decide_eq_false h2]
      (repeat' (first
  | (apply yFb; exact rfl; exact rfl)
  | (apply W.qd; (first
    | (apply q_mv; (conv => lhs; whnf))|(apply q_as; (conv => lhs; whnf))|(apply yS; (iterate 3 exact rfl))|(apply yT; (iterate 4 exact rfl))|(apply q_leq; exact rfl; exact rfl)|(apply q_geq; exact rfl; exact rfl)|(apply (yEb (u := .d _)); exact rfl; exact rfl)
    | (apply (yDb (u := .d _)); exact rfl; exact rfl)))|(apply W.ed; (apply yBb; (iterate 3 exact rfl); kernel_rfl; kernel_rfl))|(refine W.gOff _ _ rfl rfl (by intro h; cases h) ?_)|(apply yA)|(apply yB)|(apply yC; kernel_rfl)|(apply yE)|(apply yJ)
  | (refine W.gT _ _ rfl rfl (fun hb => ?_) (fun hb => ?_) <;> ((try simp only [hb, zA, zB]) <;> (try simp only [zC, zD, zE, zF, zG, zH, zI, zJ] at hb) <;> (try (exfalso; omega))))))
      all_goals exact Ends.b rfl rfl
  · rw [decide_eq_false h1]
    (repeat' (first
  | (apply W.qd; (first
    | (apply q_mv; (conv => lhs; whnf))|(apply q_as; (conv => lhs; whnf))|(apply yS; (iterate 3 exact rfl))|(apply yT; (iterate 4 exact rfl))|(apply q_geq; exact rfl; exact rfl)
    | (apply (yDb (u := .d _)); exact rfl; exact rfl)))|(apply W.ed; (apply yBb; (iterate 3 exact rfl); kernel_rfl; kernel_rfl))|(refine W.gOff _ _ rfl rfl (by intro h; cases h) ?_)|(apply yA)|(apply yB)|(apply yC; kernel_rfl)|(apply yE)|(apply yJ)
  | (refine W.gT _ _ rfl rfl (fun hb => ?_) (fun hb => ?_) <;> ((try simp only [hb, zA, zB]) <;> (try simp only [zC, zD, zE, zF, zG, zH, zI, zJ] at hb) <;> (try (exfalso; omega))))))
    all_goals exact Ends.b rfl rfl
theorem A_sml30 {cs : List Cd} {vs : List Sv} (hc : cs.length ≤ 9223372036854775807) (hv : vs.length ≤ 9223372036854775807) : ACalls Tryz.prog 6 [lib cs vs] [] (bV (small30 cs vs)) [] := by
  refine acalls_of_body Tryz.func6 rfl (Nat.le_of_ble_eq_true rfl) ?_
  have hmc : (cs.map cdD).length = cs.length := List.length_map _
  have hmv : (vs.map svD).length = vs.length := List.length_map _
  by_cases hg : cs.length ≤ 9 ∧ vs.length ≤ 9
  case neg =>
    have e : small30 cs vs = false := by
      unfold small30
      rw [Bool.and_eq_false_iff]
      left
      rw [Bool.and_eq_false_iff, decide_eq_false_iff_not, decide_eq_false_iff_not]
      omega
    rw [e]
    (repeat' (first
  | (apply yFb; exact rfl; exact rfl)
  | (apply W.qd; (first
    | (apply q_mv; (conv => lhs; whnf))|(apply q_as; (conv => lhs; whnf))|(apply yS; (iterate 3 exact rfl))|(apply yT; (iterate 4 exact rfl))|(apply q_gtr; exact rfl; exact rfl)|(apply yV; exact rfl; exact rfl)|(apply (yEb (u := .d _)); exact rfl; exact rfl)
    | (apply (yDb (u := .d _)); exact rfl; exact rfl)))|(apply W.ed; (apply yBb; (iterate 3 exact rfl); kernel_rfl; kernel_rfl))|(refine W.gOff _ _ rfl rfl (by intro h; cases h) ?_)|(apply yA)|(apply yB)|(apply (W.regionS 3); exact rfl; kernel_rfl)|(apply yE)|(apply yJ)|(apply yP)|(apply yQ; exact rfl)|(refine W.gF _ _ rfl rfl (fun hb => ?_) (fun hb => ?_) <;> ((try simp only [hb, zA, zB]) <;> (try simp only [zC, zD, zE, zF, zG, zH, zI, zJ] at hb) <;> (try (exfalso; omega))))
  | (refine W.cond _ rfl (fun hb => ?_) (fun hb => ?_) <;> ((try simp only [hb, zA, zB]) <;> (try simp only [zC, zD, zE, zF, zG, zH, zI, zJ] at hb) <;> (try (exfalso; omega))))))
    all_goals first | exact Ends.b rfl rfl | (exfalso; omega)
  obtain ⟨hg1, hg2⟩ := hg
  have hV : small30 cs vs = cs.all few30 := by unfold small30; rw [decide_eq_true hg1, decide_eq_true hg2]; rfl
  have hbad : ∀ i (hi : i < cs.length), few30 cs[i] = false → small30 cs vs = false := fun i hi h => by
    rw [hV, List.all_eq_false]; exact ⟨cs[i], List.getElem_mem hi, by rw [h]; decide⟩
  have hgood : (∀ i (hi : i < cs.length), few30 cs[i] = true) → small30 cs vs = true := fun h => by
    rw [hV, List.all_eq_true]
    intro x hx
    obtain ⟨i, hi, rfl⟩ := List.getElem_of_mem hx
    exact h i hi
  clear hV
  generalize small30 cs vs = V at *
  (repeat' (first
  | (apply yFb; exact rfl; exact rfl)
  | (apply W.qd; (first
    | (apply q_mv; (conv => lhs; whnf))|(apply q_as; (conv => lhs; whnf))|(apply yS; (iterate 3 exact rfl))|(apply yT; (iterate 4 exact rfl))|(apply q_gtr; exact rfl; exact rfl)|(apply yV; exact rfl; exact rfl)
    | (apply (yDb (u := .d _)); exact rfl; exact rfl)))|(apply W.ed; (apply yBb; (iterate 3 exact rfl); kernel_rfl; kernel_rfl))|(apply yA)|(apply yB)|(apply (W.regionS 4); exact rfl; kernel_rfl)|(apply yE)|(apply yG)|(apply yH)|(refine W.gF _ _ rfl rfl (fun hb => ?_) (fun hb => ?_) <;> ((try simp only [hb, zA, zB]) <;> (try simp only [zC, zD, zE, zF, zG, zH, zI, zJ] at hb) <;> (try (exfalso; omega))))
  | (refine W.cond _ rfl (fun hb => ?_) (fun hb => ?_) <;> ((try simp only [hb, zA, zB]) <;> (try simp only [zC, zD, zE, zF, zG, zH, zI, zJ] at hb) <;> (try (exfalso; omega))))))
  all_goals try (exfalso; omega)
  refine AWP.loopW (α := Nat) (fun k => k ≤ cs.length ∧ ∀ j (hj : j < cs.length), j < k → few30 cs[j] = true) (fun k => ⟨[(3, iV k), (1, .opt 0 0)], [.box [cds cs, svs vs]]⟩) (fun k => cs.length - k) 0 ⟨Nat.zero_le _, fun j hj h => by omega⟩ ⟨[0], rfl, rfl, rfl, by (repeat (first | exact trivial | refine ⟨rfl, ?_⟩))⟩ fun k hk => ?_
  by_cases hkl : k < cs.length
  · have hf := A_few30 (c := cs[k])
    have hbk := hbad k hkl
    have hnx : few30 cs[k] = true → ∀ j (hj : j < cs.length), j < k + 1 → few30 cs[j] = true := fun h1 j hj hjk => by
      by_cases e : j = k
      · subst e; exact h1
      · exact hk.2 j hj (by omega)
    clear hk hbad hgood
    generalize few30 cs[k] = fk at *
    (repeat' (first
  | (apply W.qd; (first
    | (apply (yW (hf)); exact rfl; exact rfl; (iterate 3 kernel_rfl))|(apply q_mv; (conv => lhs; whnf))|(apply q_as; (conv => lhs; whnf))|(apply yS; (iterate 3 exact rfl))|(apply yT; (iterate 4 exact rfl))|(apply q_lss; exact rfl; exact rfl)|(apply q_not; exact rfl)|(apply q_add; exact rfl; exact rfl; omega)|(apply yV; exact rfl; exact rfl)|(apply yY; (iterate 3 exact rfl); (first | omega | (focus (simp; done))))
    | (apply yGb; (iterate 4 exact rfl); (first | (with_reducible exact rfl) | exact natI_spec rfl | assumption | exact (Int.toNat_of_nonneg (by omega)).symm); (first | omega | (focus (simp only [List.length_map]; omega)) | (focus (simp; done)) | (focus (simp; omega))))))|(apply yA)|(apply yB)|(apply yC; kernel_rfl)|(apply yE)|(apply yG)|(apply yH)|(apply yJ)|(apply yP)|(apply yL)|(apply yN)
  | (refine W.cond _ rfl (fun hb => ?_) (fun hb => ?_) <;> ((try simp only [hb, zA, zB]) <;> (try simp only [zC, zD, zE, zF, zG, zH, zI, zJ] at hb) <;> (try (exfalso; omega))))))
    all_goals first
      | exact Ends.b rfl (hbk (by assumption)).symm
      | exact ⟨k + 1, ⟨by omega, hnx (by assumption)⟩, by omega, [0], rfl, rfl, rfl, iV_eq (by omega), rfl, trivial⟩
  · have e : V = true := hgood fun i hi => hk.2 i hi (by omega)
    subst e
    clear hk hbad hgood
    (repeat' (first
  | (apply W.qd; (first
    | (apply q_mv; (conv => lhs; whnf))|(apply q_as; (conv => lhs; whnf))|(apply yS; (iterate 3 exact rfl))|(apply yT; (iterate 4 exact rfl))|(apply q_lss; exact rfl; exact rfl)
    | (apply yV; exact rfl; exact rfl)))|(apply yA)|(apply yB)|(apply yC; kernel_rfl)|(apply yE)|(apply yI)|(apply yJ)|(apply yK)|(apply yM)
  | (refine W.cond _ rfl (fun hb => ?_) (fun hb => ?_) <;> ((try simp only [hb, zA, zB]) <;> (try simp only [zC, zD, zE, zF, zG, zH, zI, zJ] at hb) <;> (try (exfalso; omega))))))
    all_goals exact Ends.b rfl rfl
theorem A_code30 (nm : List Nat) (rows : List (List Int)) : ACalls Tryz.prog 39 [bS nm, rowsA rows] [] (cdA1 (nm, 8, 2, rows, 1)) [] := by
  refine acalls_of_body Tryz.func39 rfl (Nat.le_of_ble_eq_true rfl) ?_
  (repeat' (first
  | (apply W.qd; (first
    | (apply q_mv; (conv => lhs; whnf))
    | (apply yZ; exact rfl; exact rfl; kernel_rfl)))|(apply W.ed; (apply yCb; (iterate 3 exact rfl); kernel_rfl))|(apply W.ln; (apply l_st_box; (iterate 6 exact rfl); (iterate 3 kernel_rfl)))|(apply yA)|(apply yB)|(apply yC; kernel_rfl)|(apply yE)
  | (apply yJ)))
  exact Ends.cell1 (i := 0) (tyc := 28) rfl rfl rfl rfl
theorem A_sanity30 : ACalls Tryz.prog 8 [] [] (bV true) [] := by
  refine acalls_of_body Tryz.func8 rfl (Nat.le_of_ble_eq_true rfl) ?_
  have c1 := A_code30 [114, 115] [[1, 1], [1, 2]]
  have c2 := A_code30 [112, 97, 114] [[1, 1]]
  have c3 := A_code30 [112, 97, 114] [[1, 2]]
  have c4 := A_code30 [112, 97, 114, 50] [[1, 2]]
  have k1 := (A_addCode LibOk.nil n_rs (by decide)).le (args' := [.agg [.d (.v (.slice none 0 0)), .d (.v (.slice none 0 0))], cdA1 rs30]) fun F κ w us hs => AVleL.sat (xs := [.agg [.d (.v (.slice none 0 0)), .d (.v (.slice none 0 0))], cdA1 rs30]) (ys := [lib [] [], cdA1 rs30]) ⟨lib0_le, AVle.refl _, trivial⟩ F _ κ w us hs
  rw [r1] at k1
  have k2 := A_addCode L1 n_pa (by decide)
  rw [r2] at k2
  have k3 := A_addCode (c := pb30) L2 n_pa (by decide)
  rw [r3] at k3
  have k4 := A_addCode L2 n_pc (by decide)
  rw [r4] at k4
  have k5 := A_addClass (k := 0) (l := 2) (w := 40) L3 n_gold
  rw [r5] at k5
  have k6 := A_addClass (k := 0) (l := 2) (w := 40) L4 n_gold2
  rw [r6] at k6
  have k7 := A_addClass (k := 1) (l := 2) (w := 40) L4 n_gold2
  rw [r7] at k7
  have k8 := A_change (k := 0) (c := 1) L4
  rw [r8] at k8
  have k9 := A_change (k := 0) (c := 0) L4
  rw [r9] at k9
  have k10 := A_change (k := 0) (c := 3) L4
  rw [r10] at k10
  have k11 := A_finish (k := 0) L4
  rw [r11] at k11
  have k12 := A_addClass (k := 1) (l := 1) (w := 9) L4 n_low
  rw [r12] at k12
  have k13 := A_change (k := 1) (c := 2) L5
  rw [r13] at k13
  have k14 := A_target (cs := [rs30, pa30, pc30]) (vs := [gold, low2]) (k := 1)
  rw [r14] at k14
  have k15 := A_finish (k := 1) L6
  rw [r15] at k15
  have k16 := A_valid30 L7.lin
  rw [r16] at k16
  (repeat' (first
  | (apply yFb; exact rfl; exact rfl)
  | (apply W.qd; (first
    | (apply (yW (c1)); exact rfl; exact rfl; (iterate 3 kernel_rfl))|(apply (yW (c2)); exact rfl; exact rfl; (iterate 3 kernel_rfl))|(apply (yW (c3)); exact rfl; exact rfl; (iterate 3 kernel_rfl))|(apply (yW (c4)); exact rfl; exact rfl; (iterate 3 kernel_rfl))|(apply (yW (k1)); exact rfl; exact rfl; (iterate 3 kernel_rfl))|(apply (yW (k2)); exact rfl; exact rfl; (iterate 3 kernel_rfl))|(apply (yW (k3)); exact rfl; exact rfl; (iterate 3 kernel_rfl))|(apply (yW (k4)); exact rfl; exact rfl; (iterate 3 kernel_rfl))|(apply (yW (k5)); exact rfl; exact rfl; (iterate 3 kernel_rfl))|(apply (yW (k6)); exact rfl; exact rfl; (iterate 3 kernel_rfl))|(apply (yW (k7)); exact rfl; exact rfl; (iterate 3 kernel_rfl))|(apply (yW (k8)); exact rfl; exact rfl; (iterate 3 kernel_rfl))|(apply (yW (k9)); exact rfl; exact rfl; (iterate 3 kernel_rfl))|(apply (yW (k10)); exact rfl; exact rfl; (iterate 3 kernel_rfl))|(apply (yW (k11)); exact rfl; exact rfl; (iterate 3 kernel_rfl))|(apply (yW (k12)); exact rfl; exact rfl; (iterate 3 kernel_rfl))|(apply (yW (k13)); exact rfl; exact rfl; (iterate 3 kernel_rfl))|(apply (yW (k14)); exact rfl; exact rfl; (iterate 3 kernel_rfl))|(apply (yW (k15)); exact rfl; exact rfl; (iterate 3 kernel_rfl))|(apply (yW (k16)); exact rfl; exact rfl; (iterate 3 kernel_rfl))
    | ((apply (q_eqT fi_sv); (iterate 5 exact rfl); exact (show _ = true by kernel_rfl)))|(apply q_mv; (conv => lhs; whnf))|(apply q_as; (conv => lhs; whnf))|(apply yS; (iterate 3 exact rfl))|(apply yT; (iterate 4 exact rfl))|(apply yU; (iterate 4 exact rfl))|(apply q_eql; exact rfl; exact rfl)|(apply yAb; exact rfl; exact rfl)|(apply yV; exact rfl; exact rfl)|(apply yY; (iterate 3 exact rfl); (first | omega | (focus (simp; done))))|(apply yZ; exact rfl; exact rfl; kernel_rfl)|(apply q_litF; (iterate 5 exact rfl); kernel_rfl; kernel_rfl; exact rfl)|(apply yGb; (iterate 4 exact rfl); (first | (with_reducible exact rfl) | exact natI_spec rfl | assumption | exact (Int.toNat_of_nonneg (by omega)).symm); (first | omega | (focus (simp only [List.length_map]; omega)) | (focus (simp; done)) | (focus (simp; omega))))
    | (apply (yEb (u := .d _)); exact rfl; exact rfl)))|(apply W.ed; (apply yCb; (iterate 3 exact rfl); kernel_rfl))|(apply W.ln; (apply l_st_box; (iterate 6 exact rfl); (iterate 3 kernel_rfl)))|(apply yA)|(apply yB)|(apply yC; kernel_rfl)|(apply yD; exact rfl; kernel_rfl)|(apply yE)|(apply yF; kernel_rfl)
  | (apply yJ)))
  all_goals exact Ends.b rfl rfl
end Go.Proofs.YtaclmbbiegklcaaGreatDoor
end
section
namespace Go.Proofs.YtaclmbbiegklcaaGreatDoor
open Go.RowKit
set_option maxHeartbeats 4000000
set_option maxRecDepth 100000
theorem Vld.ok {cs : List Cd} {vs : List Sv} (h : Vld cs vs) (hi : LibIn cs vs) : LibOk cs vs where
  cn := hi.cn
  ck c hc := by
    obtain ⟨i, hi, rfl⟩ := List.getElem_of_mem hc
    exact (h.c i hi).2
  vn := hi.vn
  cl := by have := h.cl; omega
  vl := by have := h.vl; omega
theorem Vld.nil : Vld [] [] := ⟨by decide, by decide, fun i h => absurd h (by simp), fun i h => absurd h (by simp)⟩
structure Gd30 (cs : List Cd) (vs : List Sv) : Prop where
  v : Vld cs vs
  n : LibIn cs vs
theorem Gd30.nil : Gd30 [] [] := ⟨Vld.nil, LibOk.nil.lin⟩
theorem good_addC {cs : List Cd} {vs : List Sv} {c : Cd} (h : Gd30 cs vs) (hn : NameIn c.1) (hp : c.2.2.2.1.length ≤ 9223372036854775807) : Gd30 (addCN cs vs c).1.1 (addCN cs vs c).1.2 := by
  unfold addCN
  split
  · exact Gd30.nil
  · rename_i h1
    have h1 := Bool.not_eq_false _ ▸ h1
    split
    · exact Gd30.nil
    · split
      · exact Gd30.nil
      · rename_i h2 h3
        exact ⟨vld_addC h.v h1 h2 h3, ((h.v.ok h.n).addC c hn h1 (by omega)).lin⟩
theorem good_addV {cs : List Cd} {vs : List Sv} {nm : List Nat} {k l w : Int} (h : Gd30 cs vs) (hn : NameIn nm) : Gd30 (addVN cs vs nm k l w).1.1 (addVN cs vs nm k l w).1.2 := by
  unfold addVN
  split
  · exact Gd30.nil
  · rename_i h1
    have h1 := Bool.not_eq_false _ ▸ h1
    split
    · exact Gd30.nil
    · split
      · exact Gd30.nil
      · split
        · exact Gd30.nil
        · split
          · exact Gd30.nil
          · split
            · exact Gd30.nil
            · rename_i h2 h3 _ h4 h5
              have h5 := Bool.not_eq_false _ ▸ h5
              exact ⟨vld_addV h.v h1 h2 h3 h4 h5, ((h.v.ok h.n).addV _ hn (by omega)).lin⟩
theorem libin_set {cs : List Cd} {vs : List Sv} {j : Nat} {v : Sv} (h : LibIn cs vs) (hv : NameIn v.1) : LibIn cs (vs.set j v) where
  cn := h.cn
  cp := h.cp
  vn x hx := by
    rcases List.mem_or_eq_of_mem_set hx with h1 | rfl
    · exact h.vn x h1
    · exact hv
  cl := h.cl
  vl := by simpa using h.vl
theorem atV_nat {vs : List Sv} {j : Nat} (h : j < vs.length) : atV vs (j : Int) = vs[j] := by unfold atV; rw [Int.toNat_natCast, getDv h]
theorem good_chg {cs : List Cd} {vs : List Sv} {k c : Int} (h : Gd30 cs vs) : Gd30 (chgN cs vs k c).1.1 (chgN cs vs k c).1.2 := by
  unfold chgN
  split
  · exact Gd30.nil
  · rename_i h1
    obtain ⟨j, rfl, hj⟩ := hasB_nat (Bool.not_eq_false _ ▸ h1)
    rw [atV_nat hj]
    split
    · exact Gd30.nil
    · split
      · exact Gd30.nil
      · split
        · exact Gd30.nil
        · split
          · exact Gd30.nil
          · split
            · exact Gd30.nil
            · rename_i h2 h3 h4 h5
              rw [Int.toNat_natCast]
              exact ⟨vld_chg h.v hj (by omega) h3 h4 (Bool.not_eq_false _ ▸ h5), libin_set h.n (h.n.vn vs[j] (List.getElem_mem hj) :)⟩
theorem good_fin {cs : List Cd} {vs : List Sv} {k : Int} (h : Gd30 cs vs) : Gd30 (finN cs vs k).1.1 (finN cs vs k).1.2 := by
  unfold finN
  split
  · exact Gd30.nil
  · rename_i h1
    obtain ⟨j, rfl, hj⟩ := hasB_nat (Bool.not_eq_false _ ▸ h1)
    rw [atV_nat hj]
    split
    · exact Gd30.nil
    · rename_i h2
      rw [Int.toNat_natCast]
      exact ⟨vld_fin h.v hj h2, libin_set h.n (h.n.vn vs[j] (List.getElem_mem hj) :)⟩
attribute [local irreducible] Quiet Eff OpOk AWPG ACont ABlock ACalls AGoto
end Go.Proofs.YtaclmbbiegklcaaGreatDoor
end
section
namespace Go.Proofs.YtaclmbbiegklcaaGreatDoor
open Go.RowKit
set_option maxHeartbeats 4000000
set_option maxRecDepth 100000
attribute [local irreducible] Quiet Eff OpOk AWPG ACont ABlock ACalls AGoto
theorem A_sameSelf {c : Cd} (hn : NameIn c.1) (hp : c.2.2.2.1.length ≤ 1000000) (hr : ∀ r ∈ c.2.2.2.1, r.length ≤ 1000000) : ACalls Tryz.prog 59 [cdA1 c, cdA1 c] [] (bV true) [] := by
  obtain ⟨nm, M, D, par, dom⟩ := c
  dsimp only at hp hr
  have hb1 : isB nm := hn.b
  have hmp : (par.map rD).length = par.length := List.length_map _
  show ACalls Tryz.prog 59 [cdF nm M D par dom, cdF nm M D par dom] [] (bV true) []
  refine acalls_of_body Tryz.func59 rfl (Nat.le_of_ble_eq_true rfl) ?_
  (repeat' (first
  | (apply yFb; exact rfl; exact rfl)
  | (apply W.qd; (first
    | (apply q_mv; (conv => lhs; whnf))|(apply q_as; (conv => lhs; whnf))|(apply yS; (iterate 3 exact rfl))|(apply yT; (iterate 4 exact rfl))|(apply q_neq; exact rfl; exact rfl)|(apply yV; exact rfl; exact rfl)|(apply (yDb (u := .d _)); exact rfl; exact rfl)
    | (apply q_neqS; exact rfl; exact rfl; (first | assumption | exact isB_nil | exact isB_xor (by assumption) (by assumption)); (first | assumption | exact isB_nil | exact isB_xor (by assumption) (by assumption)))))|(apply W.ed; (apply yBb; (iterate 3 exact rfl); kernel_rfl; kernel_rfl))|(apply yA)|(apply yB)|(apply (W.regionS 4); exact rfl; kernel_rfl)|(apply yE)|(apply yG)|(apply yH)|(refine W.gF _ _ rfl rfl (fun hb => ?_) (fun hb => ?_) <;> ((try simp only [hb, zA, zB]) <;> (try simp only [zC, zD, zE, zF, zG, zH, zI, zJ] at hb) <;> (try (exfalso; omega))))
  | (refine W.cond _ rfl (fun hb => ?_) (fun hb => ?_) <;> ((try simp only [hb, zA, zB]) <;> (try simp only [zC, zD, zE, zF, zG, zH, zI, zJ] at hb) <;> (try (exfalso; omega))))))
  all_goals first | (exfalso; contradiction) | (exfalso; simp at hb; done) | skip
  refine AWP.loopW (α := Nat) (fun k => k ≤ par.length) (fun k => ⟨[(5, iV k), (2, .opt 0 0), (3, .opt 1 0)], [.box [bS nm, iV M, iV D, rowsA par, iV dom], .box [bS nm, iV M, iV D, rowsA par, iV dom]]⟩) (fun k => par.length - k) 0 (Nat.zero_le _) ⟨[0, 1], rfl, rfl, rfl, by (repeat (first | exact trivial | refine ⟨rfl, ?_⟩))⟩ fun k hk => ?_
  by_cases hkl : k < par.length
  · have hrl := hr _ (List.getElem_mem hkl)
    have hmr : (par[k].map iD).length = par[k].length := List.length_map _
    (repeat' (first
  | (apply W.qd; (first
    | (apply q_mv; (conv => lhs; whnf))|(apply q_as; (conv => lhs; whnf))|(apply yS; (iterate 3 exact rfl))|(apply yT; (iterate 4 exact rfl))|(apply q_lss; exact rfl; exact rfl)|(apply q_neq; exact rfl; exact rfl)|(apply yV; exact rfl; exact rfl)|(apply yX; (iterate 3 exact rfl); (first | omega | (focus (simp; done))))
    | (apply yGb; (iterate 4 exact rfl); (first | (with_reducible exact rfl) | exact natI_spec rfl | assumption | exact (Int.toNat_of_nonneg (by omega)).symm); (first | omega | (focus (simp only [List.length_map]; omega)) | (focus (simp; done)) | (focus (simp; omega))))))|(apply yA)|(apply yB)|(apply (W.regionS 9); exact rfl; kernel_rfl)|(apply (W.regionDS 9); exact rfl; exact rfl; kernel_rfl)|(apply yE)|(apply yF; kernel_rfl)|(apply yG)|(apply yH)
  | (refine W.cond _ rfl (fun hb => ?_) (fun hb => ?_) <;> ((try simp only [hb, zA, zB]) <;> (try simp only [zC, zD, zE, zF, zG, zH, zI, zJ] at hb) <;> (try (exfalso; omega))))))
    all_goals first | (exfalso; contradiction) | (exfalso; simp at hb; done) | skip
    refine AWP.loopW (α := Nat) (fun j => j ≤ par[k].length) (fun j => ⟨[(6, iV j), (5, iV k), (2, .opt 0 0), (3, .opt 1 0)], [.box [bS nm, iV M, iV D, rowsA par, iV dom], .box [bS nm, iV M, iV D, rowsA par, iV dom]]⟩) (fun j => par[k].length - j) 0 (Nat.zero_le _) ⟨[0, 1], rfl, rfl, rfl, by (repeat (first | exact trivial | refine ⟨rfl, ?_⟩))⟩ fun j hj => ?_
    by_cases hjl : j < par[k].length
    · (repeat' (first
  | (apply W.qd; (first
    | (apply q_mv; (conv => lhs; whnf))|(apply q_as; (conv => lhs; whnf))|(apply yS; (iterate 3 exact rfl))|(apply yT; (iterate 4 exact rfl))|(apply q_lss; exact rfl; exact rfl)|(apply q_neq; exact rfl; exact rfl)|(apply q_add; exact rfl; exact rfl; omega)|(apply yV; exact rfl; exact rfl)|(apply yX; (iterate 3 exact rfl); (first | omega | (focus (simp; done))))
    | (apply yGb; (iterate 4 exact rfl); (first | (with_reducible exact rfl) | exact natI_spec rfl | assumption | exact (Int.toNat_of_nonneg (by omega)).symm); (first | omega | (focus (simp only [List.length_map]; omega)) | (focus (simp; done)) | (focus (simp; omega))))))|(apply yA)|(apply yB)|(apply yC; kernel_rfl)|(apply yD; exact rfl; kernel_rfl)|(apply yE)|(apply yF; kernel_rfl)|(apply yG)|(apply yH)|(apply yL)
  | (refine W.cond _ rfl (fun hb => ?_) (fun hb => ?_) <;> ((try simp only [hb, zA, zB]) <;> (try simp only [zC, zD, zE, zF, zG, zH, zI, zJ] at hb) <;> (try (exfalso; omega))))))
      all_goals first
        | exact ⟨j + 1, by omega, by omega, [0, 1], rfl, rfl, rfl, iV_eq (by omega), rfl, rfl, rfl, trivial⟩
        | (exfalso; contradiction)
        | (exfalso; simp at hb; done)
    · (repeat' (first
  | (apply W.qd; (first
    | (apply q_mv; (conv => lhs; whnf))|(apply q_as; (conv => lhs; whnf))|(apply yS; (iterate 3 exact rfl))|(apply yT; (iterate 4 exact rfl))|(apply q_lss; exact rfl; exact rfl)|(apply q_add; exact rfl; exact rfl; omega)|(apply yV; exact rfl; exact rfl)|(apply yX; (iterate 3 exact rfl); (first | omega | (focus (simp; done))))
    | (apply yGb; (iterate 4 exact rfl); (first | (with_reducible exact rfl) | exact natI_spec rfl | assumption | exact (Int.toNat_of_nonneg (by omega)).symm); (first | omega | (focus (simp only [List.length_map]; omega)) | (focus (simp; done)) | (focus (simp; omega))))))|(apply yA)|(apply yB)|(apply yC; kernel_rfl)|(apply yE)|(apply yI)|(apply yK)|(apply yL)|(apply yM)
  | (refine W.cond _ rfl (fun hb => ?_) (fun hb => ?_) <;> ((try simp only [hb, zA, zB]) <;> (try simp only [zC, zD, zE, zF, zG, zH, zI, zJ] at hb) <;> (try (exfalso; omega))))))
      all_goals first
        | exact ⟨k + 1, by omega, by omega, [0, 1], rfl, rfl, rfl, iV_eq (by omega), rfl, rfl, trivial⟩
        | (exfalso; omega)
  · (repeat' (first
  | (apply W.qd; (first
    | (apply q_mv; (conv => lhs; whnf))|(apply q_as; (conv => lhs; whnf))|(apply yS; (iterate 3 exact rfl))|(apply yT; (iterate 4 exact rfl))|(apply q_lss; exact rfl; exact rfl)
    | (apply yV; exact rfl; exact rfl)))|(apply yA)|(apply yB)|(apply yC; kernel_rfl)|(apply yE)|(apply yI)|(apply yJ)|(apply yK)|(apply yM)
  | (refine W.cond _ rfl (fun hb => ?_) (fun hb => ?_) <;> ((try simp only [hb, zA, zB]) <;> (try simp only [zC, zD, zE, zF, zG, zH, zI, zJ] at hb) <;> (try (exfalso; omega))))))
    all_goals first | exact Ends.b rfl rfl | (exfalso; omega)
end Go.Proofs.YtaclmbbiegklcaaGreatDoor
end
section
namespace Go.Proofs.YtaclmbbiegklcaaGreatDoor
open Go.RowKit
set_option maxHeartbeats 4000000
set_option maxRecDepth 100000
def rightB (cs : List Cd) (v : Sv) : Bool := plausB v.1 v.2.2.2.1 v.2.2.2.2 && (keepsB cs v.2.1 v.2.2.2.1 && (decide (v.2.2.1 ≠ v.2.1) && (decide (v.2.2.1 = -1) || keepsB cs v.2.2.1 v.2.2.2.1)))
theorem okV_right {cs : List Cd} {vs : List Sv} {i : Nat} (h : i < vs.length) : okV cs vs i = (rightB cs vs[i] && (decide (fvI vs vs[i].1 = (i : Int)) && (decide (userI vs vs[i].2.1 = (i : Int)) && (decide (vs[i].2.2.1 = -1) || decide (userI vs vs[i].2.2.1 = (i : Int)))))) := by
  unfold okV aloneB rightB
  rw [getDv h]
  rw [Bool.eq_iff_iff]
  simp only [Bool.and_eq_true, Bool.or_eq_true, decide_eq_true_eq]
  constructor
  · rintro ⟨h1, h2, h3, h4, h5, h6, h7⟩
    exact ⟨⟨h2, h3, h4, h5⟩, h1, h6, h7⟩
  · rintro ⟨⟨h2, h3, h4, h5⟩, h1, h6, h7⟩
    exact ⟨h1, h2, h3, h4, h5, h6, h7⟩
attribute [local irreducible] Quiet Eff OpOk AWPG ACont ABlock ACalls AGoto
theorem A_all9 {n : Nat} (h : n ≤ 3000000) : ACalls Tryz.prog 154 [iV n] [] (bools (List.replicate n true)) [] := by
  refine acalls_of_body Tryz.func154 rfl (Nat.le_of_ble_eq_true rfl) ?_
  (repeat' (first
  | (apply W.qd; (apply q_as; (conv => lhs; whnf)))|(apply yA)|(apply yB)|(apply (W.regionS 2); exact rfl; kernel_rfl)
  | (apply yE)))
  refine AWP.nilRow 3 1 4 rfl (by omega) ?_
  (repeat' (first
  | (apply W.qd; (apply q_as; (conv => lhs; whnf)))|(apply yB)|(apply (W.regionS 3); exact rfl; kernel_rfl)|(apply yE)
  | (apply yG)))
  refine AWP.loopW (α := Nat) (fun i => i ≤ n) (fun i => ⟨[(4, iV i), (3, .osl 0 i 0 (List.replicate i true).length), (0, iV n)], [.row i 1 4 ((List.replicate i true).map tD)]⟩) (fun i => n - i) 0 (Nat.zero_le _) ⟨[0], rfl, rfl, rfl, by (repeat (first | exact trivial | refine ⟨rfl, ?_⟩))⟩ fun i hi => ?_
  by_cases hil : i < n
  · have hrp : List.replicate (i + 1) true = List.replicate i true ++ [true] := List.replicate_succ'
    have hln : (List.replicate i true).length = i := List.length_replicate
    replace hrp := Lib.hid hrp
    generalize List.replicate i true = A at *
    (repeat' (first
  | (apply W.qd; (first
    | (apply q_mv; (conv => lhs; whnf))|(apply q_as; (conv => lhs; whnf))|(apply q_lss; exact rfl; exact rfl)|(apply q_add; exact rfl; exact rfl; omega)
    | (apply q_litF; (iterate 5 exact rfl); kernel_rfl; kernel_rfl; exact rfl)))|(apply W.ld; (apply l_app1; (iterate 8 exact rfl); (first | omega | (focus (simp; omega)) | (focus (simp; done)))))|(apply yA)|(apply yB)|(apply yC; kernel_rfl)|(apply yE)|(apply yG)|(apply yH)|(apply yL)
  | (refine W.cond _ rfl (fun hb => ?_) (fun hb => ?_) <;> ((try simp only [hb, zA, zB]) <;> (try simp only [zC, zD, zE, zF, zG, zH, zI, zJ] at hb) <;> (try (exfalso; omega))))))
    refine ⟨i + 1, by omega, by omega, ?_⟩
    rw [hrp.out]
    exact ⟨[0], rfl, rfl, rfl, iV_eq (by omega), rfl, rfl, trivial⟩
  · obtain rfl : i = n := by omega
    (repeat' (first
  | (apply W.qd; (first
    | (apply q_mv; (conv => lhs; whnf))|(apply q_as; (conv => lhs; whnf))
    | (apply q_lss; exact rfl; exact rfl)))|(apply yA)|(apply yB)|(apply yC; kernel_rfl)|(apply yE)|(apply yI)|(apply yJ)|(apply yK)|(apply yM)
  | (refine W.cond _ rfl (fun hb => ?_) (fun hb => ?_) <;> ((try simp only [hb, zA, zB]) <;> (try simp only [zC, zD, zE, zF, zG, zH, zI, zJ] at hb) <;> (try (exfalso; omega))))))
    exact Ends.osl rfl rfl (by simp) rfl
theorem A_losses9 {nm : List Nat} {M D dom : Int} {par : List (List Int)} (h : FIn nm D par) : ACalls Tryz.prog 107 [cdF nm M D par dom] [] (iV (lossC nm M D par dom)) [] := by
  have h1 := h.d
  have h2 := h.p
  have hmp : (par.map rD).length = par.length := List.length_map _
  obtain ⟨w, hw⟩ : ∃ w : Nat, D + (par.length : Int) = w := ⟨(D + (par.length : Int)).toNat, by omega⟩
  have ha : ACalls Tryz.prog 154 [iV (D + ((par.map rD).length : Int))] [] (bools (List.replicate w true)) [] := by
    rw [hmp, hw]; exact A_all9 (by omega)
  have hl := A_left9 (M := M) (dom := dom) (hv := List.replicate w true) h (by simp; omega)
  have e : lossC nm M D par dom = leftC nm M D par dom (List.replicate w true) := by unfold lossC; rw [hw, Int.toNat_natCast]
  rw [e]
  generalize leftC nm M D par dom (List.replicate w true) = L at *
  generalize List.replicate w true = A at *
  refine acalls_of_body Tryz.func107 rfl (Nat.le_of_ble_eq_true rfl) ?_
  (repeat' (first
  | (apply W.qd; (first
    | (apply (yW (ha)); exact rfl; exact rfl; (iterate 3 kernel_rfl))|(apply (yW (hl)); exact rfl; exact rfl; (iterate 3 kernel_rfl))|(apply q_as; (conv => lhs; whnf))|(apply yS; (iterate 3 exact rfl))|(apply yT; (iterate 4 exact rfl))|(apply yU; (iterate 4 exact rfl))|(apply q_add; exact rfl; exact rfl; omega)
    | (apply yV; exact rfl; exact rfl)))|(apply W.ed; (apply yBb; (iterate 3 exact rfl); kernel_rfl; kernel_rfl))|(apply yA)|(apply yB)|(apply yC; kernel_rfl)|(apply yD; exact rfl; kernel_rfl)|(apply yE)|(apply yF; kernel_rfl)
  | (apply yJ)))
  exact Ends.i rfl rfl
theorem A_losD9 {c : Cd} (h : FInD c) : ACalls Tryz.prog 107 [cdA1 c] [] (iV (losD c)) [] := A_losses9 h
theorem A_rname {s : List Nat} (h : NameIn s) : ACalls Tryz.prog 57 [bS s] [] (bV (nameB s)) [] := by
  refine acalls_of_body Tryz.func57 rfl (Nat.le_of_ble_eq_true rfl) ?_
  have hs := h.b
  have hl := h.l
  have hnB : nameB s = ((decide (1 ≤ s.length) && decide (s.length ≤ 12)) && (List.range s.length).all (wordAt s)) := rfl
  by_cases hg : 1 ≤ s.length ∧ s.length ≤ 12
  case neg =>
    have e : nameB s = false := by
      rw [hnB, Bool.and_eq_false_iff]
      left
      rw [Bool.and_eq_false_iff, decide_eq_false_iff_not, decide_eq_false_iff_not]
      omega
    rw [e]
    (repeat' (first
  | (apply yFb; exact rfl; exact rfl)
  | (apply W.qd; (first
    | (apply q_mv; (conv => lhs; whnf))|(apply q_as; (conv => lhs; whnf))|(apply q_lss; exact rfl; exact rfl)|(apply q_gtr; exact rfl; exact rfl)|(apply q_len_bs; exact rfl; exact rfl)|(apply (yEb (u := .d _)); exact rfl; exact rfl)
    | (apply (yDb (u := .d _)); exact rfl; exact rfl)))|(refine W.gOff _ _ rfl rfl (by intro h; cases h) ?_)|(apply yA)|(apply yB)|(apply (W.regionS 3); exact rfl; kernel_rfl)|(apply yE)|(apply yJ)|(apply yP)|(apply yQ; exact rfl)
  | (refine W.gF _ _ rfl rfl (fun hb => ?_) (fun hb => ?_) <;> ((try simp only [hb, zA, zB]) <;> (try simp only [zC, zD, zE, zF, zG, zH, zI, zJ] at hb) <;> (try (exfalso; omega))))))
    all_goals first | exact Ends.b rfl rfl | (exfalso; omega)
  have hp : 0 < s.length := by omega
  have g0 : s.getD 0 0 = s[0] := by rw [List.getD_eq_getElem?_getD, List.getElem?_eq_getElem hp]; rfl
  rw [decide_eq_true hg.1, decide_eq_true hg.2, Bool.and_true, Bool.true_and] at hnB
  have hbad : ∀ k, k < s.length → wordAt s k = false → nameB s = false := fun k hk h => by
    rw [hnB, List.all_eq_false]
    exact ⟨k, List.mem_range.2 hk, by rw [h]; decide⟩
  have hgood : (∀ k, k < s.length → wordAt s k = true) → nameB s = true := fun h => by
    rw [hnB, List.all_eq_true]
    intro j hj
    exact h j (List.mem_range.1 hj)
  clear hnB
  generalize nameB s = V at *
  by_cases hc : 97 ≤ s[0] ∧ s[0] ≤ 122
  case neg =>
    have e := hbad 0 hp (by
      unfold wordAt letB
      rw [g0, Bool.or_eq_false_iff, Bool.and_eq_false_iff, decide_eq_false_iff_not, decide_eq_false_iff_not]
      exact ⟨by omega, by simp⟩)
    subst e
    (repeat' (first
  | (apply yFb; exact rfl; exact rfl)
  | (apply W.qd; (first
    | (apply q_mv; (conv => lhs; whnf))|(apply q_as; (conv => lhs; whnf))|(apply q_lss; exact rfl; exact rfl)|(apply q_gtr; exact rfl; exact rfl)|(apply q_len_bs; exact rfl; exact rfl)|(apply q_ix_bs; (iterate 3 exact rfl); (first | (with_reducible exact rfl) | exact natI_spec rfl | assumption | exact (Int.toNat_of_nonneg (by omega)).symm); (first | omega | (focus (simp only [List.length_map]; omega)) | (focus (simp; done)) | (focus (simp; omega))); assumption)|(apply (yEb (u := .d _)); exact rfl; exact rfl)
    | (apply (yDb (u := .d _)); exact rfl; exact rfl)))|(refine W.gOff _ _ rfl rfl (by intro h; cases h) ?_)|(apply yA)|(apply yB)|(apply (W.regionS 3); exact rfl; kernel_rfl)|(apply yE)|(apply yJ)|(apply yP)|(apply yQ; exact rfl)|(refine W.gF _ _ rfl rfl (fun hb => ?_) (fun hb => ?_) <;> ((try simp only [hb, zA, zB]) <;> (try simp only [zC, zD, zE, zF, zG, zH, zI, zJ] at hb) <;> (try (exfalso; omega))))
  | (refine W.cond _ rfl (fun hb => ?_) (fun hb => ?_) <;> ((try simp only [hb, zA, zB]) <;> (try simp only [zC, zD, zE, zF, zG, zH, zI, zJ] at hb) <;> (try (exfalso; omega))))))
    all_goals first | exact Ends.b rfl rfl | (exfalso; omega)
  (repeat' (first
  | (apply yFb; exact rfl; exact rfl)
  | (apply W.qd; (first
    | (apply q_mv; (conv => lhs; whnf))|(apply q_as; (conv => lhs; whnf))|(apply q_lss; exact rfl; exact rfl)|(apply q_gtr; exact rfl; exact rfl)|(apply q_len_bs; exact rfl; exact rfl)|(apply q_ix_bs; (iterate 3 exact rfl); (first | (with_reducible exact rfl) | exact natI_spec rfl | assumption | exact (Int.toNat_of_nonneg (by omega)).symm); (first | omega | (focus (simp only [List.length_map]; omega)) | (focus (simp; done)) | (focus (simp; omega))); assumption)
    | (apply (yDb (u := .d _)); exact rfl; exact rfl)))|(apply yA)|(apply yB)|(apply (W.regionS 4); exact rfl; kernel_rfl)|(apply yE)|(apply yG)|(apply yH)|(refine W.gF _ _ rfl rfl (fun hb => ?_) (fun hb => ?_) <;> ((try simp only [hb, zA, zB]) <;> (try simp only [zC, zD, zE, zF, zG, zH, zI, zJ] at hb) <;> (try (exfalso; omega))))
  | (refine W.cond _ rfl (fun hb => ?_) (fun hb => ?_) <;> ((try simp only [hb, zA, zB]) <;> (try simp only [zC, zD, zE, zF, zG, zH, zI, zJ] at hb) <;> (try (exfalso; omega))))))
  all_goals try (exfalso; omega)
  refine AWP.loopW (α := Nat) (fun k => k ≤ s.length ∧ ∀ j, j < k → wordAt s j = true) (fun k => ⟨[(3, iV k), (0, bS s)], []⟩) (fun k => s.length - k) 0 ⟨Nat.zero_le _, fun j hj => by omega⟩ ⟨[], rfl, rfl, rfl, by (repeat (first | exact trivial | refine ⟨rfl, ?_⟩))⟩ fun k hk => ?_
  by_cases hkl : k < s.length
  · have eg : s.getD k 0 = s[k] := by rw [List.getD_eq_getElem?_getD, List.getElem?_eq_getElem hkl]; rfl
    have hnext : wordAt s k = true → ∀ j, j < k + 1 → wordAt s j = true := fun h j hj => by
      by_cases e : j = k
      · subst e; exact h
      · exact hk.2 j (by omega)
    have hbk := hbad k hkl
    have hwa : wordAt s k = true ↔ (97 ≤ s[k] ∧ s[k] ≤ 122) ∨ (48 ≤ s[k] ∧ s[k] ≤ 57) := by
      unfold wordAt letB digB; rw [eg]
      simp only [Bool.or_eq_true, Bool.and_eq_true, decide_eq_true_eq]
      by_cases e : k = 0
      · subst e; exact ⟨fun h => .inl hc, fun h => .inl hc⟩
      · exact ⟨fun h => h.imp id (·.2), fun h => h.imp id fun h => ⟨e, h⟩⟩
    have hwf : ¬ ((97 ≤ s[k] ∧ s[k] ≤ 122) ∨ (48 ≤ s[k] ∧ s[k] ≤ 57)) → wordAt s k = false := fun h => Bool.eq_false_iff.2 fun h2 => h (hwa.1 h2)
    clear hk hbad hgood
    (repeat' (first
  | (apply yFb; exact rfl; exact rfl)
  | (apply W.qd; (first
    | (apply q_mv; (conv => lhs; whnf))|(apply q_as; (conv => lhs; whnf))|(apply q_lss; exact rfl; exact rfl)|(apply q_gtr; exact rfl; exact rfl)|(apply q_add; exact rfl; exact rfl; omega)|(apply q_len_bs; exact rfl; exact rfl)|(apply q_ix_bs; (iterate 3 exact rfl); (first | (with_reducible exact rfl) | exact natI_spec rfl | assumption | exact (Int.toNat_of_nonneg (by omega)).symm); (first | omega | (focus (simp only [List.length_map]; omega)) | (focus (simp; done)) | (focus (simp; omega))); assumption)|(apply (yEb (u := .d _)); exact rfl; exact rfl)
    | (apply (yDb (u := .d _)); exact rfl; exact rfl)))|(refine W.gOff _ _ rfl rfl (by intro h; cases h) ?_)|(apply yA)|(apply yB)|(apply yC; kernel_rfl)|(apply yE)|(apply yG)|(apply yH)|(apply yJ)|(apply yP)|(apply yL)|(apply yN)|(apply yQ; exact rfl)|(apply yR; exact rfl)|(refine W.gT _ _ rfl rfl (fun hb => ?_) (fun hb => ?_) <;> ((try simp only [hb, zA, zB]) <;> (try simp only [zC, zD, zE, zF, zG, zH, zI, zJ] at hb) <;> (try (exfalso; omega))))|(refine W.gF _ _ rfl rfl (fun hb => ?_) (fun hb => ?_) <;> ((try simp only [hb, zA, zB]) <;> (try simp only [zC, zD, zE, zF, zG, zH, zI, zJ] at hb) <;> (try (exfalso; omega))))
  | (refine W.cond _ rfl (fun hb => ?_) (fun hb => ?_) <;> ((try simp only [hb, zA, zB]) <;> (try simp only [zC, zD, zE, zF, zG, zH, zI, zJ] at hb) <;> (try (exfalso; omega))))))
    all_goals first
      | exact Ends.b rfl (hbk (hwf (by omega))).symm
      | exact ⟨k + 1, ⟨by omega, hnext (hwa.2 (by omega))⟩, by omega, [], rfl, rfl, rfl, iV_eq (by omega), rfl, trivial⟩
  · have e : V = true := hgood fun i hi => hk.2 i (by omega)
    subst e
    clear hk hbad hgood
    (repeat' (first
  | (apply W.qd; (first
    | (apply q_mv; (conv => lhs; whnf))|(apply q_as; (conv => lhs; whnf))|(apply q_lss; exact rfl; exact rfl)
    | (apply q_len_bs; exact rfl; exact rfl)))|(apply yA)|(apply yB)|(apply yC; kernel_rfl)|(apply yE)|(apply yI)|(apply yJ)|(apply yK)|(apply yM)
  | (refine W.cond _ rfl (fun hb => ?_) (fun hb => ?_) <;> ((try simp only [hb, zA, zB]) <;> (try simp only [zC, zD, zE, zF, zG, zH, zI, zJ] at hb) <;> (try (exfalso; omega))))))
    all_goals exact Ends.b rfl rfl
theorem A_rfindC {cs : List Cd} {vs : List Sv} {nm : List Nat} (hl : cs.length ≤ 9223372036854775807) (hb1 : ∀ c ∈ cs, isB c.1) (h2 : isB nm) : ACalls Tryz.prog 42 [lib cs vs, bS nm] [] (findA (fcI cs nm)) [] := by
  refine acalls_of_body Tryz.func42 rfl (Nat.le_of_ble_eq_true rfl) ?_
  have hm : (cs.map cdD).length = cs.length := List.length_map _
  (repeat' (first
  | (apply W.qd; (apply q_as; (conv => lhs; whnf)))|(apply W.ed; (apply yBb; (iterate 3 exact rfl); kernel_rfl; kernel_rfl))|(apply yA)|(apply yB)|(apply (W.regionS 2); exact rfl; kernel_rfl)|(apply yE)
  | (apply yG)))
  refine AWP.loopW (α := Nat) (fun k => k ≤ cs.length ∧ ∀ x ∈ cs.take k, decide (x.1 = nm) = false) (fun k => ⟨[(6, iV k), (1, bS nm), (2, .opt 0 0)], [.box [cds cs, svs vs]]⟩) (fun k => cs.length - k) 0 ⟨by omega, by simp⟩ ⟨[0], rfl, rfl, rfl, by (repeat (first | exact trivial | refine ⟨rfl, ?_⟩))⟩ fun k hk => ?_
  by_cases hkl : k < cs.length
  · have hx1 := hb1 cs[k] (List.getElem_mem hkl)
    (repeat' (first
  | (apply W.qd; (first
    | (apply q_mv; (conv => lhs; whnf))|(apply q_as; (conv => lhs; whnf))|(apply yS; (iterate 3 exact rfl))|(apply yT; (iterate 4 exact rfl))|(apply q_lss; exact rfl; exact rfl)|(apply q_add; exact rfl; exact rfl; omega)|(apply yV; exact rfl; exact rfl)|(apply yX; (iterate 3 exact rfl); (first | omega | (focus (simp; done))))|(apply q_fld_fptF; (iterate 3 exact rfl))|(apply yGb; (iterate 4 exact rfl); (first | (with_reducible exact rfl) | exact natI_spec rfl | assumption | exact (Int.toNat_of_nonneg (by omega)).symm); (first | omega | (focus (simp only [List.length_map]; omega)) | (focus (simp; done)) | (focus (simp; omega))))
    | (apply q_eqlS; exact rfl; exact rfl; (first | assumption | exact isB_nil | exact isB_xor (by assumption) (by assumption)); (first | assumption | exact isB_nil | exact isB_xor (by assumption) (by assumption)))))|(apply yA)|(apply yB)|(apply yC; kernel_rfl)|(apply yE)|(apply yG)|(apply yH)|(apply yJ)|(apply yP)|(apply yL)|(apply yN)
  | (refine W.cond _ rfl (fun hb => ?_) (fun hb => ?_) <;> ((try simp only [hb, zA, zB]) <;> (try simp only [zC, zD, zE, zF, zG, zH, zI, zJ] at hb) <;> (try (exfalso; omega))))))
    all_goals first
      | (rw [show fcI cs nm = (k : Int) from idxA_hit hkl (decide_eq_true hb) hk.2, find_nn (by omega)]; exact Ends.two rfl rfl rfl)|(refine ⟨k + 1, ⟨by omega, fun x hx => ?_⟩, by omega, [0], rfl, rfl, rfl, iV_eq (by omega), rfl, rfl, trivial⟩; rw [List.take_succ_eq_append_getElem hkl] at hx; rcases List.mem_append.1 hx with hx | hx <;> first | exact hk.2 x hx | (rw [List.mem_singleton.1 hx]; exact decide_eq_false hb))
  · rw [show fcI cs nm = -1 from idxA_miss fun x hx => hk.2 x (by rwa [List.take_of_length_le (by omega)]), find_no (by omega)]
    clear hk
    (repeat' (first
  | (apply W.qd; (first
    | (apply q_mv; (conv => lhs; whnf))|(apply q_as; (conv => lhs; whnf))|(apply yS; (iterate 3 exact rfl))|(apply yT; (iterate 4 exact rfl))|(apply q_lss; exact rfl; exact rfl)
    | (apply yV; exact rfl; exact rfl)))|(apply yA)|(apply yB)|(apply yC; kernel_rfl)|(apply yE)|(apply yI)|(apply yJ)|(apply yK)|(apply yM)
  | (refine W.cond _ rfl (fun hb => ?_) (fun hb => ?_) <;> ((try simp only [hb, zA, zB]) <;> (try simp only [zC, zD, zE, zF, zG, zH, zI, zJ] at hb) <;> (try (exfalso; omega))))))
    exact Ends.two rfl rfl rfl
theorem A_rfindV {cs : List Cd} {vs : List Sv} {nm : List Nat} (hl : vs.length ≤ 9223372036854775807) (hb1 : ∀ c ∈ vs, isB c.1) (h2 : isB nm) : ACalls Tryz.prog 44 [lib cs vs, bS nm] [] (findA (fvI vs nm)) [] := by
  refine acalls_of_body Tryz.func44 rfl (Nat.le_of_ble_eq_true rfl) ?_
  have hm : (vs.map svD).length = vs.length := List.length_map _
  (repeat' (first
  | (apply W.qd; (apply q_as; (conv => lhs; whnf)))|(apply W.ed; (apply yBb; (iterate 3 exact rfl); kernel_rfl; kernel_rfl))|(apply yA)|(apply yB)|(apply (W.regionS 2); exact rfl; kernel_rfl)|(apply yE)
  | (apply yG)))
  refine AWP.loopW (α := Nat) (fun k => k ≤ vs.length ∧ ∀ x ∈ vs.take k, decide (x.1 = nm) = false) (fun k => ⟨[(6, iV k), (1, bS nm), (2, .opt 0 0)], [.box [cds cs, svs vs]]⟩) (fun k => vs.length - k) 0 ⟨by omega, by simp⟩ ⟨[0], rfl, rfl, rfl, by (repeat (first | exact trivial | refine ⟨rfl, ?_⟩))⟩ fun k hk => ?_
  by_cases hkl : k < vs.length
  · have hx1 := hb1 vs[k] (List.getElem_mem hkl)
    (repeat' (first
  | (apply W.qd; (first
    | (apply q_mv; (conv => lhs; whnf))|(apply q_as; (conv => lhs; whnf))|(apply yS; (iterate 3 exact rfl))|(apply yT; (iterate 4 exact rfl))|(apply q_lss; exact rfl; exact rfl)|(apply q_add; exact rfl; exact rfl; omega)|(apply yV; exact rfl; exact rfl)|(apply yX; (iterate 3 exact rfl); (first | omega | (focus (simp; done))))|(apply q_fld_fptF; (iterate 3 exact rfl))|(apply yGb; (iterate 4 exact rfl); (first | (with_reducible exact rfl) | exact natI_spec rfl | assumption | exact (Int.toNat_of_nonneg (by omega)).symm); (first | omega | (focus (simp only [List.length_map]; omega)) | (focus (simp; done)) | (focus (simp; omega))))
    | (apply q_eqlS; exact rfl; exact rfl; (first | assumption | exact isB_nil | exact isB_xor (by assumption) (by assumption)); (first | assumption | exact isB_nil | exact isB_xor (by assumption) (by assumption)))))|(apply yA)|(apply yB)|(apply yC; kernel_rfl)|(apply yE)|(apply yG)|(apply yH)|(apply yJ)|(apply yP)|(apply yL)|(apply yN)
  | (refine W.cond _ rfl (fun hb => ?_) (fun hb => ?_) <;> ((try simp only [hb, zA, zB]) <;> (try simp only [zC, zD, zE, zF, zG, zH, zI, zJ] at hb) <;> (try (exfalso; omega))))))
    all_goals first
      | (rw [show fvI vs nm = (k : Int) from idxA_hit hkl (decide_eq_true hb) hk.2, find_nn (by omega)]; exact Ends.two rfl rfl rfl)|(refine ⟨k + 1, ⟨by omega, fun x hx => ?_⟩, by omega, [0], rfl, rfl, rfl, iV_eq (by omega), rfl, rfl, trivial⟩; rw [List.take_succ_eq_append_getElem hkl] at hx; rcases List.mem_append.1 hx with hx | hx <;> first | exact hk.2 x hx | (rw [List.mem_singleton.1 hx]; exact decide_eq_false hb))
  · rw [show fvI vs nm = -1 from idxA_miss fun x hx => hk.2 x (by rwa [List.take_of_length_le (by omega)]), find_no (by omega)]
    clear hk
    (repeat' (first
  | (apply W.qd; (first
    | (apply q_mv; (conv => lhs; whnf))|(apply q_as; (conv => lhs; whnf))|(apply yS; (iterate 3 exact rfl))|(apply yT; (iterate 4 exact rfl))|(apply q_lss; exact rfl; exact rfl)
    | (apply yV; exact rfl; exact rfl)))|(apply yA)|(apply yB)|(apply yC; kernel_rfl)|(apply yE)|(apply yI)|(apply yJ)|(apply yK)|(apply yM)
  | (refine W.cond _ rfl (fun hb => ?_) (fun hb => ?_) <;> ((try simp only [hb, zA, zB]) <;> (try simp only [zC, zD, zE, zF, zG, zH, zI, zJ] at hb) <;> (try (exfalso; omega))))))
    exact Ends.two rfl rfl rfl
theorem A_rkeeps {cs : List Cd} {vs : List Sv} {k n : Int} (hF : ∀ c ∈ cs, FInD c) : ACalls Tryz.prog 58 [lib cs vs, iV k, iV n] [] (bV (keepsB cs k n)) [] := by
  refine acalls_of_body Tryz.func58 rfl (Nat.le_of_ble_eq_true rfl) ?_
  have hm : (cs.map cdD).length = cs.length := List.length_map _
  unfold keepsB
  cases hq : hasB cs.length k with
  | false =>
    unfold hasB at hq
    rw [Bool.and_eq_false_iff, decide_eq_false_iff_not, decide_eq_false_iff_not] at hq
    (repeat' (first
  | (apply yFb; exact rfl; exact rfl)
  | (apply W.qd; (first
    | (apply q_mv; (conv => lhs; whnf))|(apply q_as; (conv => lhs; whnf))|(apply yS; (iterate 3 exact rfl))|(apply yT; (iterate 4 exact rfl))|(apply q_lss; exact rfl; exact rfl)|(apply q_geq; exact rfl; exact rfl)|(apply yV; exact rfl; exact rfl)|(apply (yEb (u := .d _)); exact rfl; exact rfl)
    | (apply (yDb (u := .d _)); exact rfl; exact rfl)))|(apply W.ed; (apply yBb; (iterate 3 exact rfl); kernel_rfl; kernel_rfl))|(refine W.gOff _ _ rfl rfl (by intro h; cases h) ?_)|(apply yA)|(apply yB)|(apply yC; kernel_rfl)|(apply yE)|(apply yJ)
  | (refine W.gT _ _ rfl rfl (fun hb => ?_) (fun hb => ?_) <;> ((try simp only [hb, zA, zB]) <;> (try simp only [zC, zD, zE, zF, zG, zH, zI, zJ] at hb) <;> (try (exfalso; omega))))))
    all_goals first | exact Ends.b rfl rfl | (exfalso; omega)
  | true =>
    unfold hasB at hq
    rw [Bool.and_eq_true, decide_eq_true_eq, decide_eq_true_eq] at hq
    obtain ⟨j, rfl⟩ : ∃ j : Nat, k = j := ⟨k.toNat, by omega⟩
    have hj : j < cs.length := by omega
    have hls := A_losD9 (hF cs[j] (List.getElem_mem hj))
    rw [Int.toNat_natCast, getDc hj]
    (repeat' (first
  | (apply yFb; exact rfl; exact rfl)
  | (apply W.qd; (first
    | (apply (yW (hls)); exact rfl; exact rfl; (iterate 3 kernel_rfl))|(apply q_mv; (conv => lhs; whnf))|(apply q_as; (conv => lhs; whnf))|(apply yS; (iterate 3 exact rfl))|(apply yT; (iterate 4 exact rfl))|(apply q_lss; exact rfl; exact rfl)|(apply q_geq; exact rfl; exact rfl)|(apply yV; exact rfl; exact rfl)|(apply yY; (iterate 3 exact rfl); (first | omega | (focus (simp; done))))|(apply yGb; (iterate 4 exact rfl); (first | (with_reducible exact rfl) | exact natI_spec rfl | assumption | exact (Int.toNat_of_nonneg (by omega)).symm); (first | omega | (focus (simp only [List.length_map]; omega)) | (focus (simp; done)) | (focus (simp; omega))))
    | (apply (yEb (u := .d _)); exact rfl; exact rfl)))|(apply W.ed; (apply yBb; (iterate 3 exact rfl); kernel_rfl; kernel_rfl))|(apply yA)|(apply yB)|(apply yC; kernel_rfl)|(apply yE)|(apply yJ)
  | (refine W.gT _ _ rfl rfl (fun hb => ?_) (fun hb => ?_) <;> ((try simp only [hb, zA, zB]) <;> (try simp only [zC, zD, zE, zF, zG, zH, zI, zJ] at hb) <;> (try (exfalso; omega))))))
    all_goals first | exact Ends.b rfl (by simp) | (exfalso; omega)
theorem A_ruser {cs : List Cd} {vs : List Sv} {q : Int} (hl : vs.length ≤ 9223372036854775807) : ACalls Tryz.prog 45 [lib cs vs, iV q] [] (iV (userI vs q)) [] := by
  refine acalls_of_body Tryz.func45 rfl (Nat.le_of_ble_eq_true rfl) ?_
  have hm : (vs.map svD).length = vs.length := List.length_map _
  (repeat' (first
  | (apply W.qd; (apply q_as; (conv => lhs; whnf)))|(apply W.ed; (apply yBb; (iterate 3 exact rfl); kernel_rfl; kernel_rfl))|(apply yA)|(apply yB)|(apply (W.regionS 2); exact rfl; kernel_rfl)|(apply yE)
  | (apply yG)))
  refine AWP.loopW (α := Nat) (fun k => k ≤ vs.length ∧ ∀ x ∈ vs.take k, usesB q x = false) (fun k => ⟨[(5, iV k), (1, iV q), (2, .opt 0 0)], [.box [cds cs, svs vs]]⟩) (fun k => vs.length - k) 0 ⟨by omega, by simp⟩ ⟨[0], rfl, rfl, rfl, by (repeat (first | exact trivial | refine ⟨rfl, ?_⟩))⟩ fun k hk => ?_
  by_cases hkl : k < vs.length
  · have hu : usesB q vs[k] = true ↔ (vs[k].2.1 = q ∨ vs[k].2.2.1 = q) := by unfold usesB; simp
    have hit : usesB q vs[k] = true → userI vs q = (k : Int) := fun h => idxA_hit hkl h hk.2
    have hnx : usesB q vs[k] = false → ∀ x ∈ vs.take (k + 1), usesB q x = false := fun h x hx => by
      rw [List.take_succ_eq_append_getElem hkl] at hx
      rcases List.mem_append.1 hx with hx | hx
      · exact hk.2 x hx
      · rw [List.mem_singleton.1 hx]; exact h
    clear hk
    generalize userI vs q = U at *
    generalize usesB q vs[k] = B at *
    (repeat' (first
  | (apply yFb; exact rfl; exact rfl)
  | (apply W.qd; (first
    | (apply q_mv; (conv => lhs; whnf))|(apply q_as; (conv => lhs; whnf))|(apply yS; (iterate 3 exact rfl))|(apply yT; (iterate 4 exact rfl))|(apply q_lss; exact rfl; exact rfl)|(apply q_eql; exact rfl; exact rfl)|(apply q_add; exact rfl; exact rfl; omega)|(apply yV; exact rfl; exact rfl)|(apply yX; (iterate 3 exact rfl); (first | omega | (focus (simp; done))))|(apply q_fld_fptF; (iterate 3 exact rfl))|(apply yGb; (iterate 4 exact rfl); (first | (with_reducible exact rfl) | exact natI_spec rfl | assumption | exact (Int.toNat_of_nonneg (by omega)).symm); (first | omega | (focus (simp only [List.length_map]; omega)) | (focus (simp; done)) | (focus (simp; omega))))|(apply (yEb (u := .d _)); exact rfl; exact rfl)
    | (apply (yDb (u := .d _)); exact rfl; exact rfl)))|(refine W.gOff _ _ rfl rfl (by intro h; cases h) ?_)|(apply yA)|(apply yB)|(apply yC; kernel_rfl)|(apply yE)|(apply yG)|(apply yH)|(apply yJ)|(apply yP)|(apply yL)|(apply yN)|(apply yQ; exact rfl)|(refine W.gF _ _ rfl rfl (fun hb => ?_) (fun hb => ?_) <;> ((try simp only [hb, zA, zB]) <;> (try simp only [zC, zD, zE, zF, zG, zH, zI, zJ] at hb) <;> (try (exfalso; omega))))
  | (refine W.cond _ rfl (fun hb => ?_) (fun hb => ?_) <;> ((try simp only [hb, zA, zB]) <;> (try simp only [zC, zD, zE, zF, zG, zH, zI, zJ] at hb) <;> (try (exfalso; omega))))))
    all_goals first
      | exact Ends.i rfl (hit (hu.2 (by omega))).symm
      | exact ⟨k + 1, ⟨by omega, hnx (Bool.eq_false_iff.2 fun h => by have := hu.1 h; omega)⟩, by omega, [0], rfl, rfl, rfl, iV_eq (by omega), rfl, rfl, trivial⟩
  · rw [show userI vs q = -1 from idxA_miss fun x hx => hk.2 x (by rwa [List.take_of_length_le (by omega)])]
    clear hk
    (repeat' (first
  | (apply W.qd; (first
    | (apply q_mv; (conv => lhs; whnf))|(apply q_as; (conv => lhs; whnf))|(apply yS; (iterate 3 exact rfl))|(apply yT; (iterate 4 exact rfl))|(apply q_lss; exact rfl; exact rfl)
    | (apply yV; exact rfl; exact rfl)))|(apply yA)|(apply yB)|(apply yC; kernel_rfl)|(apply yE)|(apply yI)|(apply yJ)|(apply yK)|(apply yM)
  | (refine W.cond _ rfl (fun hb => ?_) (fun hb => ?_) <;> ((try simp only [hb, zA, zB]) <;> (try simp only [zC, zD, zE, zF, zG, zH, zI, zJ] at hb) <;> (try (exfalso; omega))))))
    exact Ends.i rfl rfl
theorem A_rright {cs : List Cd} {vs : List Sv} {v : Sv} (hF : ∀ c ∈ cs, FInD c) (hn : NameIn v.1) : ACalls Tryz.prog 43 [lib cs vs, svA1 v] [] (bV (rightB cs v)) [] := by
  refine acalls_of_body Tryz.func43 rfl (Nat.le_of_ble_eq_true rfl) ?_
  have h1 := A_rname hn
  have h2 := A_rkeeps (vs := vs) (k := v.2.1) (n := v.2.2.2.1) hF
  have h3 := A_rkeeps (vs := vs) (k := v.2.2.1) (n := v.2.2.2.1) hF
  unfold rightB plausB
  generalize nameB v.1 = b1 at *
  generalize keepsB cs v.2.1 v.2.2.2.1 = b2 at *
  generalize keepsB cs v.2.2.1 v.2.2.2.1 = b3 at *
  (repeat' (first
  | (apply yFb; exact rfl; exact rfl)
  | (apply W.qd; (first
    | (apply (yW (h1)); exact rfl; exact rfl; (iterate 3 kernel_rfl))|(apply (yW (h2)); exact rfl; exact rfl; (iterate 3 kernel_rfl))|(apply (yW (h3)); exact rfl; exact rfl; (iterate 3 kernel_rfl))|(apply q_mv; (conv => lhs; whnf))|(apply q_as; (conv => lhs; whnf))|(apply yS; (iterate 3 exact rfl))|(apply yT; (iterate 4 exact rfl))|(apply yU; (iterate 4 exact rfl))|(apply q_lss; exact rfl; exact rfl)|(apply q_gtr; exact rfl; exact rfl)|(apply q_eql; exact rfl; exact rfl)|(apply q_not; exact rfl)|(apply (yEb (u := .d _)); exact rfl; exact rfl)
    | (apply (yDb (u := .d _)); exact rfl; exact rfl)))|(apply W.ed; (apply yBb; (iterate 3 exact rfl); kernel_rfl; kernel_rfl))|(refine W.gOff _ _ rfl rfl (by intro h; cases h) ?_)|(apply yA)|(apply yB)|(apply yC; kernel_rfl)|(apply yE)|(apply yH)|(apply yJ)|(apply yP)|(apply yQ; exact rfl)|(refine W.gF _ _ rfl rfl (fun hb => ?_) (fun hb => ?_) <;> ((try simp only [hb, zA, zB]) <;> (try simp only [zC, zD, zE, zF, zG, zH, zI, zJ] at hb) <;> (try (exfalso; omega))))
  | (refine W.cond _ rfl (fun hb => ?_) (fun hb => ?_) <;> ((try simp only [hb, zA, zB]) <;> (try simp only [zC, zD, zE, zF, zG, zH, zI, zJ] at hb) <;> (try (exfalso; omega))))))
  all_goals (refine Ends.b rfl ?_; simp [*] <;> omega)
end Go.Proofs.YtaclmbbiegklcaaGreatDoor
end
section
namespace Go.Proofs.YtaclmbbiegklcaaGreatDoor
open Go.RowKit
set_option maxHeartbeats 4000000
set_option maxRecDepth 100000
attribute [local irreducible] Quiet Eff OpOk AWPG ACont ABlock ACalls AGoto
theorem A_rvalid30 {cs : List Cd} {vs : List Sv} (h : LibIn cs vs) (hF : ∀ c ∈ cs, FInD c) : ACalls Tryz.prog 9 [lib cs vs] [] (bV (validB cs vs)) [] := by
  refine acalls_of_body Tryz.func9 rfl (Nat.le_of_ble_eq_true rfl) ?_
  have hmc : (cs.map cdD).length = cs.length := List.length_map _
  have hmv : (vs.map svD).length = vs.length := List.length_map _
  have hcl := h.cl
  have hvl := h.vl
  by_cases hg : cs.length ≤ 8 ∧ vs.length ≤ 8
  case neg =>
    have e : validB cs vs = false := by
      unfold validB
      rw [Bool.and_eq_false_iff]
      left
      rw [Bool.and_eq_false_iff, decide_eq_false_iff_not, decide_eq_false_iff_not]
      omega
    rw [e]
    (repeat' (first
  | (apply yFb; exact rfl; exact rfl)
  | (apply W.qd; (first
    | (apply q_mv; (conv => lhs; whnf))|(apply q_as; (conv => lhs; whnf))|(apply yS; (iterate 3 exact rfl))|(apply yT; (iterate 4 exact rfl))|(apply q_gtr; exact rfl; exact rfl)|(apply yV; exact rfl; exact rfl)|(apply (yEb (u := .d _)); exact rfl; exact rfl)
    | (apply (yDb (u := .d _)); exact rfl; exact rfl)))|(apply W.ed; (apply yBb; (iterate 3 exact rfl); kernel_rfl; kernel_rfl))|(refine W.gOff _ _ rfl rfl (by intro h; cases h) ?_)|(apply yA)|(apply yB)|(apply (W.regionS 3); exact rfl; kernel_rfl)|(apply yE)|(apply yJ)|(apply yP)|(apply yQ; exact rfl)|(refine W.gF _ _ rfl rfl (fun hb => ?_) (fun hb => ?_) <;> ((try simp only [hb, zA, zB]) <;> (try simp only [zC, zD, zE, zF, zG, zH, zI, zJ] at hb) <;> (try (exfalso; omega))))
  | (refine W.cond _ rfl (fun hb => ?_) (fun hb => ?_) <;> ((try simp only [hb, zA, zB]) <;> (try simp only [zC, zD, zE, zF, zG, zH, zI, zJ] at hb) <;> (try (exfalso; omega))))))
    all_goals first | exact Ends.b rfl rfl | (exfalso; omega)
  obtain ⟨hg1, hg2⟩ := hg
  have hV : validB cs vs = ((List.range cs.length).all (okC cs) && (List.range vs.length).all (okV cs vs)) := by
    unfold validB
    rw [decide_eq_true hg1, decide_eq_true hg2]; rfl
  have hbC : ∀ i, i < cs.length → okC cs i = false → validB cs vs = false := fun i hi h1 => by rw [hV, range_bad hi h1]; rfl
  have hbV : ∀ i, i < vs.length → okV cs vs i = false → validB cs vs = false := fun i hi h1 => by rw [hV, range_bad hi h1, Bool.and_false]
  have hgV : (∀ i, i < cs.length → okC cs i = true) → (∀ i, i < vs.length → okV cs vs i = true) → validB cs vs = true := fun h1 h2 => by rw [hV, all_range.2 h1, all_range.2 h2]; rfl
  clear hV
  generalize validB cs vs = V at *
  (repeat' (first
  | (apply yFb; exact rfl; exact rfl)
  | (apply W.qd; (first
    | (apply q_mv; (conv => lhs; whnf))|(apply q_as; (conv => lhs; whnf))|(apply yS; (iterate 3 exact rfl))|(apply yT; (iterate 4 exact rfl))|(apply q_gtr; exact rfl; exact rfl)|(apply yV; exact rfl; exact rfl)
    | (apply (yDb (u := .d _)); exact rfl; exact rfl)))|(apply W.ed; (apply yBb; (iterate 3 exact rfl); kernel_rfl; kernel_rfl))|(apply yA)|(apply yB)|(apply (W.regionS 4); exact rfl; kernel_rfl)|(apply yE)|(apply yG)|(apply yH)|(refine W.gF _ _ rfl rfl (fun hb => ?_) (fun hb => ?_) <;> ((try simp only [hb, zA, zB]) <;> (try simp only [zC, zD, zE, zF, zG, zH, zI, zJ] at hb) <;> (try (exfalso; omega))))
  | (refine W.cond _ rfl (fun hb => ?_) (fun hb => ?_) <;> ((try simp only [hb, zA, zB]) <;> (try simp only [zC, zD, zE, zF, zG, zH, zI, zJ] at hb) <;> (try (exfalso; omega))))))
  all_goals try (exfalso; omega)
  refine AWP.loopW (α := Nat) (fun k => k ≤ cs.length ∧ ∀ j, j < k → okC cs j = true) (fun k => ⟨[(3, iV k), (1, .opt 0 0)], [.box [cds cs, svs vs]]⟩) (fun k => cs.length - k) 0 ⟨Nat.zero_le _, fun j hj => by omega⟩ ⟨[0], rfl, rfl, rfl, by (repeat (first | exact trivial | refine ⟨rfl, ?_⟩))⟩ fun k hk => ?_
  by_cases hkl : k < cs.length
  · have hmem := List.getElem_mem hkl
    have hn := h.cn _ hmem
    have hf := A_rfindC (cs := cs) (vs := vs) (nm := cs[k].1) hcl (fun c hc => (h.cn c hc).b) hn.b
    have hnn : 0 ≤ fcI cs cs[k].1 := idxA_nn hmem (decide_eq_true rfl)
    rw [find_nn hnn] at hf
    have hFk := hF _ hmem
    obtain ⟨e, hc, he⟩ := A_check7 (M := cs[k].2.1) (D := cs[k].2.2.1) (par := cs[k].2.2.2.1) (dom := cs[k].2.2.2.2) hn.b hn.l hFk.d hFk.p
    have hok : okC cs k = (decide (fcI cs cs[k].1 = (k : Int)) && chkD cs[k]) := by unfold okC; rw [getDc hkl]
    have he2 : e = 0 ↔ chkD cs[k] = true := he
    replace hok := Lib.hid hok
    have hbk := hbC k hkl
    have hnx : okC cs k = true → ∀ j, j < k + 1 → okC cs j = true := fun h1 j hj => by
      by_cases e : j = k
      · subst e; exact h1
      · exact hk.2 j (by omega)
    clear hk hbC hbV hgV he
    generalize fcI cs cs[k].1 = fi at *
    generalize chkD cs[k] = ck at *
    (repeat' (first
  | (apply yFb; exact rfl; exact rfl)
  | (apply W.qd; (first
    | (apply (yW (hf)); exact rfl; exact rfl; (iterate 3 kernel_rfl))|(apply (yW (hc)); exact rfl; exact rfl; (iterate 3 kernel_rfl))|(apply q_mv; (conv => lhs; whnf))|(apply q_as; (conv => lhs; whnf))|(apply yS; (iterate 3 exact rfl))|(apply yT; (iterate 4 exact rfl))|(apply yU; (iterate 4 exact rfl))|(apply q_lss; exact rfl; exact rfl)|(apply q_neq; exact rfl; exact rfl)|(apply q_add; exact rfl; exact rfl; omega)|(apply yAb; exact rfl; exact rfl)|(apply yV; exact rfl; exact rfl)|(apply yX; (iterate 3 exact rfl); (first | omega | (focus (simp; done))))|(apply yY; (iterate 3 exact rfl); (first | omega | (focus (simp; done))))|(apply q_fld_fptF; (iterate 3 exact rfl))|(apply yGb; (iterate 4 exact rfl); (first | (with_reducible exact rfl) | exact natI_spec rfl | assumption | exact (Int.toNat_of_nonneg (by omega)).symm); (first | omega | (focus (simp only [List.length_map]; omega)) | (focus (simp; done)) | (focus (simp; omega))))|(apply (yEb (u := .d _)); exact rfl; exact rfl)
    | (apply (yDb (u := .d _)); exact rfl; exact rfl)))|(refine W.gOff _ _ rfl rfl (by intro h; cases h) ?_)|(apply yA)|(apply yB)|(apply yC; kernel_rfl)|(apply yD; exact rfl; kernel_rfl)|(apply yE)|(apply yF; kernel_rfl)|(apply yG)|(apply yH)|(apply yJ)|(apply yP)|(apply yL)|(apply yN)|(apply yQ; exact rfl)|(refine W.gF _ _ rfl rfl (fun hb => ?_) (fun hb => ?_) <;> ((try simp only [hb, zA, zB]) <;> (try simp only [zC, zD, zE, zF, zG, zH, zI, zJ] at hb) <;> (try (exfalso; omega))))
  | (refine W.cond _ rfl (fun hb => ?_) (fun hb => ?_) <;> ((try simp only [hb, zA, zB]) <;> (try simp only [zC, zD, zE, zF, zG, zH, zI, zJ] at hb) <;> (try (exfalso; omega))))))
    all_goals first
      | (refine Ends.b rfl (hbk ?_).symm; rw [hok.out, Bool.and_eq_false_iff, decide_eq_false_iff_not]; first | (left; omega) | (right; rw [Bool.eq_false_iff]; intro h9; have := he2.2 h9; omega))|(refine ⟨k + 1, ⟨by omega, hnx ?_⟩, by omega, [0], rfl, rfl, rfl, iV_eq (by omega), rfl, trivial⟩; rw [hok.out, Bool.and_eq_true, decide_eq_true_eq]; exact ⟨by omega, he2.1 (by omega)⟩)
  · have hC : ∀ i, i < cs.length → okC cs i = true := fun i hi => hk.2 i (by omega)
    have hgV := hgV hC
    clear hk hbC hC
    (repeat' (first
  | (apply W.qd; (first
    | (apply q_mv; (conv => lhs; whnf))|(apply q_as; (conv => lhs; whnf))|(apply yS; (iterate 3 exact rfl))|(apply yT; (iterate 4 exact rfl))|(apply q_lss; exact rfl; exact rfl)
    | (apply yV; exact rfl; exact rfl)))|(apply yA)|(apply yB)|(apply (W.regionS 11); exact rfl; kernel_rfl)|(apply yE)|(apply yG)|(apply yI)|(apply yK)|(apply yM)
  | (refine W.cond _ rfl (fun hb => ?_) (fun hb => ?_) <;> ((try simp only [hb, zA, zB]) <;> (try simp only [zC, zD, zE, zF, zG, zH, zI, zJ] at hb) <;> (try (exfalso; omega))))))
    all_goals try (exfalso; omega)
    refine AWP.loopW (α := Nat) (fun k => k ≤ vs.length ∧ ∀ j, j < k → okV cs vs j = true) (fun k => ⟨[(7, iV k), (1, .opt 0 0)], [.box [cds cs, svs vs]]⟩) (fun k => vs.length - k) 0 ⟨Nat.zero_le _, fun j hj => by omega⟩ ⟨[0], rfl, rfl, rfl, by (repeat (first | exact trivial | refine ⟨rfl, ?_⟩))⟩ fun k hk => ?_
    by_cases hkv : k < vs.length
    · have hmem := List.getElem_mem hkv
      have hn := h.vn _ hmem
      have hf := A_rfindV (cs := cs) (vs := vs) (nm := vs[k].1) hvl (fun c hc => (h.vn c hc).b) hn.b
      have hnn : 0 ≤ fvI vs vs[k].1 := idxA_nn hmem (decide_eq_true rfl)
      rw [find_nn hnn] at hf
      have hr := A_rright (cs := cs) (vs := vs) hF hn
      have hu1 := A_ruser (cs := cs) (vs := vs) (q := vs[k].2.1) hvl
      have hu2 := A_ruser (cs := cs) (vs := vs) (q := vs[k].2.2.1) hvl
      have hok := okV_right (cs := cs) hkv
      replace hok := Lib.hid hok
      have hbk := hbV k hkv
      have hnx : okV cs vs k = true → ∀ j, j < k + 1 → okV cs vs j = true := fun h1 j hj => by
        by_cases e : j = k
        · subst e; exact h1
        · exact hk.2 j (by omega)
      clear hk hbV hgV
      generalize fvI vs vs[k].1 = fi at *
      generalize userI vs vs[k].2.1 = u1 at *
      generalize userI vs vs[k].2.2.1 = u2 at *
      generalize rightB cs vs[k] = b1 at *
      (repeat' (first
  | (apply yFb; exact rfl; exact rfl)
  | (apply W.qd; (first
    | (apply (yW (hf)); exact rfl; exact rfl; (iterate 3 kernel_rfl))|(apply (yW (hr)); exact rfl; exact rfl; (iterate 3 kernel_rfl))|(apply (yW (hu1)); exact rfl; exact rfl; (iterate 3 kernel_rfl))|(apply (yW (hu2)); exact rfl; exact rfl; (iterate 3 kernel_rfl))|(apply q_mv; (conv => lhs; whnf))|(apply q_as; (conv => lhs; whnf))|(apply yS; (iterate 3 exact rfl))|(apply yT; (iterate 4 exact rfl))|(apply yU; (iterate 4 exact rfl))|(apply q_lss; exact rfl; exact rfl)|(apply q_neq; exact rfl; exact rfl)|(apply q_not; exact rfl)|(apply q_add; exact rfl; exact rfl; omega)|(apply yAb; exact rfl; exact rfl)|(apply yV; exact rfl; exact rfl)|(apply yX; (iterate 3 exact rfl); (first | omega | (focus (simp; done))))|(apply yY; (iterate 3 exact rfl); (first | omega | (focus (simp; done))))|(apply q_fld_fptF; (iterate 3 exact rfl))|(apply yGb; (iterate 4 exact rfl); (first | (with_reducible exact rfl) | exact natI_spec rfl | assumption | exact (Int.toNat_of_nonneg (by omega)).symm); (first | omega | (focus (simp only [List.length_map]; omega)) | (focus (simp; done)) | (focus (simp; omega))))|(apply (yEb (u := .d _)); exact rfl; exact rfl)
    | (apply (yDb (u := .d _)); exact rfl; exact rfl)))|(refine W.gOff _ _ rfl rfl (by intro h; cases h) ?_)|(apply yA)|(apply yB)|(apply yC; kernel_rfl)|(apply yD; exact rfl; kernel_rfl)|(apply yE)|(apply yF; kernel_rfl)|(apply yG)|(apply yH)|(apply yJ)|(apply yP)|(apply yL)|(apply yN)|(apply yQ; exact rfl)|(apply yR; exact rfl)|(refine W.gT _ _ rfl rfl (fun hb => ?_) (fun hb => ?_) <;> ((try simp only [hb, zA, zB]) <;> (try simp only [zC, zD, zE, zF, zG, zH, zI, zJ] at hb) <;> (try (exfalso; omega))))|(refine W.gF _ _ rfl rfl (fun hb => ?_) (fun hb => ?_) <;> ((try simp only [hb, zA, zB]) <;> (try simp only [zC, zD, zE, zF, zG, zH, zI, zJ] at hb) <;> (try (exfalso; omega))))
  | (refine W.cond _ rfl (fun hb => ?_) (fun hb => ?_) <;> ((try simp only [hb, zA, zB]) <;> (try simp only [zC, zD, zE, zF, zG, zH, zI, zJ] at hb) <;> (try (exfalso; omega))))))
      all_goals first
        | (refine Ends.b rfl (hbk ?_).symm; rw [hok.out]; simp [*] <;> omega)|(refine ⟨k + 1, ⟨by omega, hnx ?_⟩, by omega, [0], rfl, rfl, rfl, iV_eq (by omega), rfl, trivial⟩; rw [hok.out]; simp [*] <;> omega)
    · have e : V = true := hgV fun i hi => hk.2 i (by omega)
      subst e
      clear hk hbV hgV
      (repeat' (first
  | (apply W.qd; (first
    | (apply q_mv; (conv => lhs; whnf))|(apply q_as; (conv => lhs; whnf))|(apply yS; (iterate 3 exact rfl))|(apply yT; (iterate 4 exact rfl))|(apply q_lss; exact rfl; exact rfl)
    | (apply yV; exact rfl; exact rfl)))|(apply yA)|(apply yB)|(apply yC; kernel_rfl)|(apply yE)|(apply yI)|(apply yJ)|(apply yK)|(apply yM)
  | (refine W.cond _ rfl (fun hb => ?_) (fun hb => ?_) <;> ((try simp only [hb, zA, zB]) <;> (try simp only [zC, zD, zE, zF, zG, zH, zI, zJ] at hb) <;> (try (exfalso; omega))))))
      all_goals exact Ends.b rfl rfl
theorem A_rcopied {cs : List Cd} {vs : List Sv} (hc : cs.length ≤ 1000000) (hv : vs.length ≤ 1000000) : ACalls Tryz.prog 54 [lib cs vs] [] (lbA 1 1 0 1 cs vs) (lbO 1 1 cs vs) := by
  have hmc : (cs.map cdD).length = cs.length := List.length_map _
  have hmv : (vs.map svD).length = vs.length := List.length_map _
  refine acalls_of_bodyO Tryz.func54 rfl (Nat.le_of_ble_eq_true rfl) ?_
  (repeat' (first
  | (apply W.ed; (first
    | (apply yBb; (iterate 3 exact rfl); kernel_rfl; kernel_rfl)
    | (apply yCb; (iterate 3 exact rfl); kernel_rfl)))|(apply yA)|(apply yB)|(apply (W.regionS 2); exact rfl; kernel_rfl)
  | (apply yE)))
  refine AWP.nilBox (l' := [.osl 3 0 0 0, .d (.v (.slice none 0 0))]) 2 0 5 28 rfl rfl (by omega) rfl rfl rfl rfl ?_
  refine AWP.nilBox (l' := [.osl 3 0 0 0, .osl 4 0 0 0]) 2 1 5 66 rfl rfl (by omega) rfl rfl rfl rfl ?_
  (repeat' (first
  | (apply W.ed; (apply e_appE; (iterate 9 exact rfl); (simp; omega)))
  | (apply W.qd; (first
    | (apply yS; (iterate 3 exact rfl))|(apply yT; (iterate 4 exact rfl))
    | (apply yU; (iterate 4 exact rfl))))|(apply W.ln; (apply l_st_box; (iterate 6 exact rfl); (iterate 3 kernel_rfl)))|(apply yA)|(apply yB)|(apply yC; kernel_rfl)|(apply yE)
  | (apply yJ)))
  refine ⟨.inl rfl, [3, 4], [.agg [.osl 3 1 0 ((([] : List Nat).length) + (cs.map cdD).length), .osl 4 1 0 ((([] : List Nat).length) + (vs.map svD).length)]], rfl, rfl, ⟨⟨1, _, true, rfl, rfl, rfl, rfl⟩, trivial⟩, AVle.of_eq ?_, rfl⟩
  show AV.agg [AV.osl 0 1 0 (0 + (cs.map cdD).length), AV.osl 1 1 0 (0 + (vs.map svD).length)] = _
  rw [hmc, hmv, Nat.zero_add, Nat.zero_add]
theorem A_raddCode {cs : List Cd} {vs : List Sv} {c : Cd} (h : LibOk cs vs) (hf0 : FInD c) (hn : NameIn c.1) : ACalls Tryz.prog 12 [lib cs vs, cdA1 c] [] (res3 (addCN cs vs c)) [] := by
  have hcl := h.cl
  have hvl := h.vl
  have hmc : (cs.map cdD).length = cs.length := List.length_map _
  have hmv : (vs.map svD).length = vs.length := List.length_map _
  have hf := A_rfindC (cs := cs) (vs := vs) (nm := c.1) (by omega) (fun c hc => (h.cn c hc).b) hn.b
  obtain ⟨e, hc, he⟩ := A_check7 (M := c.2.1) (D := c.2.2.1) (par := c.2.2.2.1) (dom := c.2.2.2.2) hn.b hn.l hf0.d hf0.p
  have he : e = 0 ↔ chkD c = true := he
  have hcp := A_rcopied (cs := cs) (vs := vs) (by omega) (by omega)
  unfold addCN
  refine acalls_of_body Tryz.func12 rfl (Nat.le_of_ble_eq_true rfl) ?_
  cases hq : chkD c with
  | false =>
    have hne : e ≠ 0 := fun h0 => by have := he.1 h0; rw [hq] at this; cases this
    rw [if_pos rfl]
    (repeat' (first
  | (apply W.qd; (first
    | (apply (yW (hc)); exact rfl; exact rfl; (iterate 3 kernel_rfl))|(apply q_mv; (conv => lhs; whnf))|(apply q_as; (conv => lhs; whnf))|(apply yU; (iterate 4 exact rfl))|(apply q_neq; exact rfl; exact rfl)
    | (apply yZ; exact rfl; exact rfl; kernel_rfl)))
  | (apply W.ed; (first
    | (apply yBb; (iterate 3 exact rfl); kernel_rfl; kernel_rfl)
    | (apply yCb; (iterate 3 exact rfl); kernel_rfl)))|(apply W.ln; (apply l_st_box; (iterate 6 exact rfl); (iterate 3 kernel_rfl)))|(apply yA)|(apply yB)|(apply yC; kernel_rfl)|(apply yE)|(apply yJ)|(apply yP)
  | (refine W.cond _ rfl (fun hb => ?_) (fun hb => ?_) <;> ((try simp only [hb, zA, zB]) <;> (try simp only [zC, zD, zE, zF, zG, zH, zI, zJ] at hb) <;> (try (exfalso; omega))))))
    all_goals first | (exfalso; contradiction) | exact ⟨.inl rfl, [], [.agg [.d (.v (.slice none 0 0)), .d (.v (.slice none 0 0))], iV 0, iV 1], rfl, ⟨⟨2, _, true, rfl, rfl, rfl, rfl⟩, rfl, rfl, trivial⟩, err3_le 1, rfl⟩
  | true =>
    obtain rfl := he.2 hq
    rw [if_neg (by decide)]
    by_cases hi : 0 ≤ fcI cs c.1
    · rw [if_pos hi]
      rw [find_nn hi] at hf
      generalize fcI cs c.1 = i at *
      (repeat' (first
  | (apply W.qd; (first
    | (apply (yW (hf)); exact rfl; exact rfl; (iterate 3 kernel_rfl))|(apply (yW (hc)); exact rfl; exact rfl; (iterate 3 kernel_rfl))|(apply q_mv; (conv => lhs; whnf))|(apply q_as; (conv => lhs; whnf))|(apply yS; (iterate 3 exact rfl))|(apply yT; (iterate 4 exact rfl))|(apply yU; (iterate 4 exact rfl))|(apply q_eql; exact rfl; exact rfl)|(apply q_neq; exact rfl; exact rfl)|(apply yAb; exact rfl; exact rfl)
    | (apply yZ; exact rfl; exact rfl; kernel_rfl)))
  | (apply W.ed; (first
    | (apply yBb; (iterate 3 exact rfl); kernel_rfl; kernel_rfl)
    | (apply yCb; (iterate 3 exact rfl); kernel_rfl)))|(apply W.ln; (apply l_st_box; (iterate 6 exact rfl); (iterate 3 kernel_rfl)))|(apply yA)|(apply yB)|(apply yC; kernel_rfl)|(apply yE)|(apply yH)|(apply yJ)|(apply yP)|(apply yQ; exact rfl)
  | (apply yR; exact rfl)))
      all_goals first | (exfalso; contradiction) | exact ⟨.inl rfl, [], [.agg [.d (.v (.slice none 0 0)), .d (.v (.slice none 0 0))], iV 0, iV 20], rfl, ⟨⟨2, _, true, rfl, rfl, rfl, rfl⟩, rfl, rfl, trivial⟩, err3_le 20, rfl⟩
    · rw [if_neg hi]
      rw [find_no hi] at hf
      by_cases h8 : 8 ≤ cs.length
      · rw [if_pos h8]
        (repeat' (first
  | (apply W.qd; (first
    | (apply (yW (hf)); exact rfl; exact rfl; (iterate 3 kernel_rfl))|(apply (yW (hc)); exact rfl; exact rfl; (iterate 3 kernel_rfl))|(apply q_mv; (conv => lhs; whnf))|(apply q_as; (conv => lhs; whnf))|(apply yS; (iterate 3 exact rfl))|(apply yT; (iterate 4 exact rfl))|(apply yU; (iterate 4 exact rfl))|(apply q_geq; exact rfl; exact rfl)|(apply q_eql; exact rfl; exact rfl)|(apply q_neq; exact rfl; exact rfl)|(apply yAb; exact rfl; exact rfl)|(apply yV; exact rfl; exact rfl)
    | (apply yZ; exact rfl; exact rfl; kernel_rfl)))
  | (apply W.ed; (first
    | (apply yBb; (iterate 3 exact rfl); kernel_rfl; kernel_rfl)
    | (apply yCb; (iterate 3 exact rfl); kernel_rfl)))|(apply W.ln; (apply l_st_box; (iterate 6 exact rfl); (iterate 3 kernel_rfl)))|(apply yA)|(apply yB)|(apply yC; kernel_rfl)|(apply yE)|(apply yH)|(apply yJ)|(apply yP)|(apply yR; exact rfl)
  | (refine W.cond _ rfl (fun hb => ?_) (fun hb => ?_) <;> ((try simp only [hb, zA, zB]) <;> (try simp only [zC, zD, zE, zF, zG, zH, zI, zJ] at hb) <;> (try (exfalso; omega))))))
        all_goals first | (exfalso; contradiction) | (exfalso; omega) | exact ⟨.inl rfl, [], [.agg [.d (.v (.slice none 0 0)), .d (.v (.slice none 0 0))], iV 0, iV 2], rfl, ⟨⟨2, _, true, rfl, rfl, rfl, rfl⟩, rfl, rfl, trivial⟩, err3_le 2, rfl⟩
      · rw [if_neg h8]
        (repeat' (first
  | (apply W.qd; (first
    | (apply (yW (hf)); exact rfl; exact rfl; (iterate 3 kernel_rfl))|(apply (yW (hc)); exact rfl; exact rfl; (iterate 3 kernel_rfl))|(apply q_mv; (conv => lhs; whnf))|(apply q_as; (conv => lhs; whnf))|(apply yS; (iterate 3 exact rfl))|(apply yT; (iterate 4 exact rfl))|(apply yU; (iterate 4 exact rfl))|(apply q_geq; exact rfl; exact rfl)|(apply q_eql; exact rfl; exact rfl)|(apply q_neq; exact rfl; exact rfl)|(apply yAb; exact rfl; exact rfl)
    | (apply yV; exact rfl; exact rfl)))
  | (apply W.ed; (first
    | (apply yBb; (iterate 3 exact rfl); kernel_rfl; kernel_rfl)
    | (apply yCb; (iterate 3 exact rfl); kernel_rfl)))|(apply yA)|(apply yB)|(apply (W.regionS 9); exact rfl; kernel_rfl)|(apply yE)|(apply yH)|(apply yR; exact rfl)
  | (refine W.cond _ rfl (fun hb => ?_) (fun hb => ?_) <;> ((try simp only [hb, zA, zB]) <;> (try simp only [zC, zD, zE, zF, zG, zH, zI, zJ] at hb) <;> (try (exfalso; omega))))))
        all_goals try (exfalso; omega)
        (repeat' (first
  | (apply W.qd; (first
    | (apply q_as; (conv => lhs; whnf))|(apply yS; (iterate 3 exact rfl))|(apply yT; (iterate 4 exact rfl))|(apply yU; (iterate 4 exact rfl))|(apply yV; exact rfl; exact rfl)
    | (apply q_litF; (iterate 5 exact rfl); kernel_rfl; kernel_rfl; exact rfl)))|(apply W.ld; (apply l_app1; (iterate 8 exact rfl); (first | omega | (focus (simp; omega)) | (focus (simp; done)))))
  | (apply W.ed; (first
    | (apply (e_callJ (js := []) (hcp)); (iterate 5 exact rfl); kernel_rfl; kernel_rfl)
    | (apply yCb; (iterate 3 exact rfl); kernel_rfl)))|(apply W.ln; (apply l_st_box; (iterate 6 exact rfl); (iterate 3 kernel_rfl)))|(apply yA)|(apply yB)|(apply yC; kernel_rfl)|(apply yD; exact rfl; kernel_rfl)|(apply yE)|(apply yF; kernel_rfl)
  | (apply yJ)))
        refine ⟨.inl rfl, [], [.agg [.osl 3 2 0 (cs ++ [c]).length, .osl 4 1 0 vs.length], iV cs.length, iV 0], rfl, ⟨⟨2, _, true, rfl, rfl, rfl, rfl⟩, iV_eq (by rw [hmc]), rfl, trivial⟩, AVle.of_eq ?_, rfl⟩
        show AV.tup [AV.agg [AV.frz _ [] (.osl 3 2 0 (cs ++ [c]).length), AV.frz _ [] (.osl 4 1 0 vs.length)], iV cs.length, iV 0] = _
        rw [frz_rowJ (i := 3) (ver := 2) (n := (cs ++ [c]).length) (l := (cs ++ [c]).map cdD) rfl rfl (by simp), frz_rowJ (i := 4) (ver := 1) (n := vs.length) (l := vs.map svD) rfl rfl hmv.symm]
theorem A_rtarget {cs : List Cd} {vs : List Sv} {k : Int} : ACalls Tryz.prog 61 [lib cs vs, iV k] [] (.tup [iV (tgtN vs k).1, iV (tgtN vs k).2]) [] := by
  have hmv : (vs.map svD).length = vs.length := List.length_map _
  unfold tgtN atV
  refine acalls_of_body Tryz.func61 rfl (Nat.le_of_ble_eq_true rfl) ?_
  cases hq1 : hasB vs.length k with
  | false =>
    rw [if_pos rfl]
    unfold hasB at hq1
    rw [Bool.and_eq_false_iff, decide_eq_false_iff_not, decide_eq_false_iff_not] at hq1
    (repeat' (first
  | (apply yFb; exact rfl; exact rfl)
  | (apply W.qd; (first
    | (apply q_mv; (conv => lhs; whnf))|(apply q_as; (conv => lhs; whnf))|(apply yS; (iterate 3 exact rfl))|(apply yT; (iterate 4 exact rfl))|(apply q_lss; exact rfl; exact rfl)|(apply q_geq; exact rfl; exact rfl)|(apply yV; exact rfl; exact rfl)|(apply (yEb (u := .d _)); exact rfl; exact rfl)
    | (apply (yDb (u := .d _)); exact rfl; exact rfl)))|(apply W.ed; (apply yBb; (iterate 3 exact rfl); kernel_rfl; kernel_rfl))|(refine W.gOff _ _ rfl rfl (by intro h; cases h) ?_)|(apply yA)|(apply yB)|(apply (W.regionS 3); exact rfl; kernel_rfl)|(apply yE)|(apply yJ)|(apply yP)|(apply yQ; exact rfl)|(refine W.gF _ _ rfl rfl (fun hb => ?_) (fun hb => ?_) <;> ((try simp only [hb, zA, zB]) <;> (try simp only [zC, zD, zE, zF, zG, zH, zI, zJ] at hb) <;> (try (exfalso; omega))))
  | (refine W.cond _ rfl (fun hb => ?_) (fun hb => ?_) <;> ((try simp only [hb, zA, zB]) <;> (try simp only [zC, zD, zE, zF, zG, zH, zI, zJ] at hb) <;> (try (exfalso; omega))))))
    all_goals first | exact Ends.two rfl rfl rfl | (exfalso; omega)
  | true =>
    rw [if_neg (by decide)]
    obtain ⟨j, rfl, hj⟩ := hasB_nat hq1
    rw [Int.toNat_natCast, getDv hj]
    by_cases h1 : vs[j].2.2.1 ≠ -1
    · rw [if_pos h1]
      (repeat' (first
  | (apply yFb; exact rfl; exact rfl)
  | (apply W.qd; (first
    | (apply q_mv; (conv => lhs; whnf))|(apply q_as; (conv => lhs; whnf))|(apply yS; (iterate 3 exact rfl))|(apply yT; (iterate 4 exact rfl))|(apply q_lss; exact rfl; exact rfl)|(apply q_geq; exact rfl; exact rfl)|(apply q_neq; exact rfl; exact rfl)|(apply yV; exact rfl; exact rfl)|(apply yX; (iterate 3 exact rfl); (first | omega | (focus (simp; done))))|(apply q_fld_fptF; (iterate 3 exact rfl))|(apply yGb; (iterate 4 exact rfl); (first | (with_reducible exact rfl) | exact natI_spec rfl | assumption | exact (Int.toNat_of_nonneg (by omega)).symm); (first | omega | (focus (simp only [List.length_map]; omega)) | (focus (simp; done)) | (focus (simp; omega))))
    | (apply (yDb (u := .d _)); exact rfl; exact rfl)))|(apply W.ed; (apply yBb; (iterate 3 exact rfl); kernel_rfl; kernel_rfl))|(apply yA)|(apply yB)|(apply yC; kernel_rfl)|(apply yE)|(apply yH)|(apply yJ)|(apply yP)
  | (refine W.cond _ rfl (fun hb => ?_) (fun hb => ?_) <;> ((try simp only [hb, zA, zB]) <;> (try simp only [zC, zD, zE, zF, zG, zH, zI, zJ] at hb) <;> (try (exfalso; omega))))))
      all_goals first | (exfalso; omega) | exact Ends.two rfl rfl rfl
    · rw [if_neg h1]
      (repeat' (first
  | (apply yFb; exact rfl; exact rfl)
  | (apply W.qd; (first
    | (apply q_mv; (conv => lhs; whnf))|(apply q_as; (conv => lhs; whnf))|(apply yS; (iterate 3 exact rfl))|(apply yT; (iterate 4 exact rfl))|(apply q_lss; exact rfl; exact rfl)|(apply q_geq; exact rfl; exact rfl)|(apply q_neq; exact rfl; exact rfl)|(apply yV; exact rfl; exact rfl)|(apply yX; (iterate 3 exact rfl); (first | omega | (focus (simp; done))))|(apply q_fld_fptF; (iterate 3 exact rfl))|(apply yGb; (iterate 4 exact rfl); (first | (with_reducible exact rfl) | exact natI_spec rfl | assumption | exact (Int.toNat_of_nonneg (by omega)).symm); (first | omega | (focus (simp only [List.length_map]; omega)) | (focus (simp; done)) | (focus (simp; omega))))
    | (apply (yDb (u := .d _)); exact rfl; exact rfl)))|(apply W.ed; (apply yBb; (iterate 3 exact rfl); kernel_rfl; kernel_rfl))|(apply yA)|(apply yB)|(apply yC; kernel_rfl)|(apply yE)|(apply yH)|(apply yJ)
  | (refine W.cond _ rfl (fun hb => ?_) (fun hb => ?_) <;> ((try simp only [hb, zA, zB]) <;> (try simp only [zC, zD, zE, zF, zG, zH, zI, zJ] at hb) <;> (try (exfalso; omega))))))
      all_goals first | (exfalso; omega) | exact Ends.two rfl rfl rfl
end Go.Proofs.YtaclmbbiegklcaaGreatDoor
end
