import Derived.Test.YtcljokdiblnhiaaGreatDoorMHealTargetsAreFree5
/- Joined texts: Hl4 Hl5 Hl6 Hl7 Hl9 Hl10 Hl11 Hl12. -/
set_option linter.unusedVariables false
set_option linter.unusedSimpArgs false
section
namespace Go.Proofs.YtcljokdiblnhiaaGreatDoor
open Go.RowKit
set_option maxHeartbeats 8000000
set_option maxRecDepth 100000
def grStep (st se : List Int) (d r : Int) (rs : List Int) (k : Nat) : List Int := if st.getD k 0 = 1 ∧ 0 ≤ se.getD k 0 ∧ se.getD k 0 < d then (se.getD k 0 % r) :: rs else rs
def grTo (st se : List Int) (d r : Int) (k : Nat) : List Int := (List.range k).foldl (grStep st se d r) []
theorem grTo_succ (st se : List Int) (d r : Int) (k : Nat) : grTo st se d r (k + 1) = grStep st se d r (grTo st se d r k) k := by
  unfold grTo; rw [List.range_succ, List.foldl_append]; rfl
theorem grTo_len (st se : List Int) (d r : Int) : ∀ k, (grTo st se d r k).length ≤ k
  | 0 => by simp [grTo]
  | k + 1 => by
    have := grTo_len st se d r k
    rw [grTo_succ]
    unfold grStep
    split
    · rw [List.length_cons]; omega
    · omega
structure PlCx where
  pl : Nat → Option (List (Nat × Nat))
  hv : List Bool
  inn : List Bool
  sp : List Int
  d : Int
  r : Int
  se : List Int
  ho : List Int
  a : Int
  g : Int
def PlCx.tgt (c : PlCx) (s : List Int × List Rb) (u : Nat) : Int := tgtN38 c.inn c.sp c.r s.1 s.2 (c.se.getD u 0) (c.ho.getD u 0)
def psStep (c : PlCx) (s : List Int × List Rb) (u : Nat) : List Int × List Rb :=
  if c.hv.getD u false = true then s else match c.pl u with
    | none => s
    | some l => if 0 ≤ c.tgt s u then (if c.tgt s u < c.d then (c.tgt s u % c.r) :: s.1 else s.1, s.2 ++ [(c.a, c.g, (u : Int), c.tgt s u, l)]) else s
def psTo (c : PlCx) (rs : List Int) (k : Nat) : List Int × List Rb := (List.range k).foldl (psStep c) (rs, [])
theorem psTo_succ (c : PlCx) (rs : List Int) (k : Nat) : psTo c rs (k + 1) = psStep c (psTo c rs k) k := by
  unfold psTo; rw [List.range_succ, List.foldl_append]; rfl
theorem psTo_len (c : PlCx) (rs : List Int) : ∀ k, (psTo c rs k).1.length ≤ rs.length + k ∧ (psTo c rs k).2.length ≤ k
  | 0 => by simp [psTo]
  | k + 1 => by
    have := psTo_len c rs k
    rw [psTo_succ]
    unfold psStep
    split
    · omega
    · split
      · omega
      · split
        · refine ⟨?_, by rw [List.length_append, List.length_singleton]; omega⟩
          dsimp only
          split
          · rw [List.length_cons]; omega
          · omega
        · omega
abbrev tgO (d r n s l i : Int) (se ho : List Int) (inn : List Bool) (sp : List Int) (rs : List Int) (ver : Nat) (out : List Rb) : List Ent :=
  [.box [ints se], .box [ints ho], .box [bools inn], .box [ints sp], .box [.osl 7 ver 0 out.length], .box [.mp 8], .box [iV d, iV r, iV n, iV s, iV l, iV i], .row ver 5 84 (out.map rbD), .mp (mpI (ksR rs))]
attribute [local irreducible] Quiet Eff OpOk AWPG ACont ABlock ACalls AGoto
theorem A_target38 {d r n s l i : Int} {se ho : List Int} {inn : List Bool} {sp rs : List Int} {ver : Nat} {out : List Rb} {u : Nat} (hr : 1 ≤ r) (hsp : ∀ y ∈ sp, 0 ≤ y) (hspl : sp.length ≤ 1000) (hol : out.length ≤ 1000) (hu1 : u < se.length) (hu2 : u < ho.length) :
    ACalls Tryz.prog 73 [iV u, .opt 0 0, .opt 1 0, .opt 2 0, .opt 3 0, .opt 4 0, .opt 5 0, .opt 6 0] (tgO d r n s l i se ho inn sp rs ver out) (iV (tgtN38 inn sp r rs out se[u] ho[u])) (tgO d r n s l i se ho inn sp rs ver out) := by
  refine acalls_of_bodyO Tryz.func73 rfl (Nat.le_of_ble_eq_true rfl) ?_
  have h1 := A_serves (inn := inn) (d := se[u])
  have h2 := A_serves (inn := inn) (d := ho[u])
  have hf := A_filterFr (ver := ver) (out := out) (L := sp) (by omega) (by omega)
  have hmm : ∀ x L, sp.filter (leftB out) = x :: L → ACalls Tryz.prog 79 [ints (x :: L), .fn 80 [.opt 0 0, .opt 1 0]] (crwO d r n s l i rs) (iV (minF (fun y => rs.count (y % r)) x L)) (crwO d r n s l i rs) := fun x L h => by
    refine A_minF hr (fun y hy => ?_) ?_
    · rw [← h] at hy
      exact hsp y (List.mem_filter.1 hy).1
    · have h3 := List.length_filter_le (leftB out) sp
      rw [h, List.length_cons] at h3
      omega
  unfold tgtN38
  generalize hA : se[u] = A at *
  generalize hB : ho[u] = B at *
  (repeat' (first
  | (apply W.qd; (first
    | (apply q_mv; (conv => lhs; whnf))|(apply q_as; (conv => lhs; whnf))|(apply yT; (iterate 4 exact rfl))|(apply yV; exact rfl; exact rfl)|(apply yX; (iterate 3 exact rfl); (first | omega | (focus (simp; done))))|(apply q_litF; (iterate 5 exact rfl); kernel_rfl; kernel_rfl; exact rfl)
    | (apply yGb; (iterate 4 exact rfl); (first | (with_reducible exact rfl) | exact natI_spec rfl | assumption | exact (Int.toNat_of_nonneg (by omega)).symm); (first | omega | (focus (simp only [List.length_map]; omega)) | (focus (simp; done)) | (focus (simp; omega))))))|(apply yA)|(apply yB)|(apply (W.regionS 2); exact rfl; kernel_rfl)|(apply (W.regionDS 2); exact rfl; exact rfl; kernel_rfl)|(apply yE)|(apply yF; kernel_rfl)
  | (apply yG)))
  refine AWP.loopW (α := Nat) (fun k => k ≤ 2 ∧ (0 < k → srvB inn A = false) ∧ (1 < k → srvB inn B = false)) (fun k => ⟨[(23, iV k), (22, iV 2), (21, ints [A, B]), (3, .opt 2 0), (4, .opt 3 0), (5, .opt 4 0), (6, .opt 5 0), (7, .opt 6 0)], tgO d r n s l i se ho inn sp rs ver out⟩) (fun k => 2 - k) 0 ⟨by omega, fun h => by omega, fun h => by omega⟩ ?wkA fun k hk => ?_
  case wkA => subst hA hB; exact ⟨[0, 1, 2, 3, 4, 5, 6, 7, 8], rfl, rfl, rfl, by (repeat (first | exact trivial | refine ⟨rfl, ?_⟩))⟩
  obtain ⟨hk0, hk1, hk2⟩ := hk
  have hkc : k = 0 ∨ k = 1 ∨ k = 2 := by omega
  rcases hkc with rfl | rfl | rfl
  · clear hmm hf h2 hk1 hk2
    cases hq : srvB inn A with
    | true =>
      rw [hq] at h1
      rw [if_pos rfl]
      (repeat' (first
  | (apply W.qd; (first
    | (apply (yW (h1)); exact rfl; exact rfl; (iterate 3 kernel_rfl))|(apply q_mv; (conv => lhs; whnf))|(apply q_as; (conv => lhs; whnf))|(apply yT; (iterate 4 exact rfl))|(apply q_lss; exact rfl; exact rfl)|(apply yX; (iterate 3 exact rfl); (first | omega | (focus (simp; done))))
    | (apply yGb; (iterate 4 exact rfl); (first | (with_reducible exact rfl) | exact natI_spec rfl | assumption | exact (Int.toNat_of_nonneg (by omega)).symm); (first | omega | (focus (simp only [List.length_map]; omega)) | (focus (simp; done)) | (focus (simp; omega))))))|(apply yA)|(apply yB)|(apply yC; kernel_rfl)|(apply yE)|(apply yG)|(apply yH)|(apply yJ)|(apply yP)|(apply yN)
  | (apply yQ; exact rfl)))
      all_goals exact ⟨.inl rfl, [0, 1, 2, 3, 4, 5, 6, 7, 8], [iV A], rfl, rfl, ⟨rfl, trivial⟩, AVle.of_eq rfl, rfl⟩
    | false =>
      rw [hq] at h1
      (repeat' (first
  | (apply W.qd; (first
    | (apply (yW (h1)); exact rfl; exact rfl; (iterate 3 kernel_rfl))|(apply q_mv; (conv => lhs; whnf))|(apply q_as; (conv => lhs; whnf))|(apply yT; (iterate 4 exact rfl))|(apply q_lss; exact rfl; exact rfl)|(apply q_add; exact rfl; exact rfl; omega)|(apply yX; (iterate 3 exact rfl); (first | omega | (focus (simp; done))))
    | (apply yGb; (iterate 4 exact rfl); (first | (with_reducible exact rfl) | exact natI_spec rfl | assumption | exact (Int.toNat_of_nonneg (by omega)).symm); (first | omega | (focus (simp only [List.length_map]; omega)) | (focus (simp; done)) | (focus (simp; omega))))))|(apply yA)|(apply yB)|(apply yC; kernel_rfl)|(apply yE)|(apply yG)|(apply yH)|(apply yL)|(apply yQ; exact rfl)
  | (apply yR; exact rfl)))
      all_goals exact ⟨1, ⟨by omega, fun _ => by first | exact hq | rfl, fun h => by omega⟩, by omega, [0, 1, 2, 3, 4, 5, 6, 7, 8], rfl, rfl, rfl, iV_eq (by omega), rfl, rfl, rfl, rfl, rfl, rfl, rfl, trivial⟩
  · have hq1 := hk1 (by omega)
    rw [hq1, if_neg (by simp)]
    clear hmm hf h1 hk1 hk2
    cases hq : srvB inn B with
    | true =>
      rw [hq] at h2
      rw [if_pos rfl]
      (repeat' (first
  | (apply W.qd; (first
    | (apply (yW (h2)); exact rfl; exact rfl; (iterate 3 kernel_rfl))|(apply q_mv; (conv => lhs; whnf))|(apply q_as; (conv => lhs; whnf))|(apply yT; (iterate 4 exact rfl))|(apply q_lss; exact rfl; exact rfl)|(apply yX; (iterate 3 exact rfl); (first | omega | (focus (simp; done))))
    | (apply yGb; (iterate 4 exact rfl); (first | (with_reducible exact rfl) | exact natI_spec rfl | assumption | exact (Int.toNat_of_nonneg (by omega)).symm); (first | omega | (focus (simp only [List.length_map]; omega)) | (focus (simp; done)) | (focus (simp; omega))))))|(apply yA)|(apply yB)|(apply yC; kernel_rfl)|(apply yE)|(apply yG)|(apply yH)|(apply yJ)|(apply yP)|(apply yN)
  | (apply yQ; exact rfl)))
      all_goals exact ⟨.inl rfl, [0, 1, 2, 3, 4, 5, 6, 7, 8], [iV B], rfl, rfl, ⟨rfl, trivial⟩, AVle.of_eq rfl, rfl⟩
    | false =>
      rw [hq] at h2
      (repeat' (first
  | (apply W.qd; (first
    | (apply (yW (h2)); exact rfl; exact rfl; (iterate 3 kernel_rfl))|(apply q_mv; (conv => lhs; whnf))|(apply q_as; (conv => lhs; whnf))|(apply yT; (iterate 4 exact rfl))|(apply q_lss; exact rfl; exact rfl)|(apply q_add; exact rfl; exact rfl; omega)|(apply yX; (iterate 3 exact rfl); (first | omega | (focus (simp; done))))
    | (apply yGb; (iterate 4 exact rfl); (first | (with_reducible exact rfl) | exact natI_spec rfl | assumption | exact (Int.toNat_of_nonneg (by omega)).symm); (first | omega | (focus (simp only [List.length_map]; omega)) | (focus (simp; done)) | (focus (simp; omega))))))|(apply yA)|(apply yB)|(apply yC; kernel_rfl)|(apply yE)|(apply yG)|(apply yH)|(apply yL)|(apply yQ; exact rfl)
  | (apply yR; exact rfl)))
      all_goals exact ⟨2, ⟨by omega, fun _ => by first | exact hq1 | rfl, fun _ => by first | exact hq | rfl⟩, by omega, [0, 1, 2, 3, 4, 5, 6, 7, 8], rfl, rfl, rfl, iV_eq (by omega), rfl, rfl, rfl, rfl, rfl, rfl, rfl, trivial⟩
  · have hq1 := hk1 (by omega)
    have hq2 := hk2 (by omega)
    rw [hq1, hq2, if_neg (by simp), if_neg (by simp)]
    clear hk1 hk2 h1 h2
    cases hfl : sp.filter (leftB out) with
    | nil =>
      rw [hfl] at hf
      (repeat' (first
  | (apply W.qd; (first
    | (apply q_mv; (conv => lhs; whnf))|(apply q_as; (conv => lhs; whnf))|(apply yT; (iterate 4 exact rfl))|(apply q_lss; exact rfl; exact rfl)|(apply q_eql; exact rfl; exact rfl)|(apply yV; exact rfl; exact rfl)
    | (apply q_makeFunc)))|(apply W.ed; (apply (e_callJ (js := [4, 7]) (hf)); (iterate 5 exact rfl); kernel_rfl; kernel_rfl))|(apply yA)|(apply yB)|(apply yC; kernel_rfl)|(apply yE)|(apply yI)|(apply yJ)|(apply yK)|(apply yP)|(apply yM)|(apply yQ; exact rfl)
  | (apply yR; exact rfl)))
      all_goals first
        | (exfalso; omega)
        | exact ⟨.inl rfl, [0, 1, 2, 3, 4, 5, 6, 7, 8], [iV (-1)], rfl, rfl, ⟨rfl, trivial⟩, AVle.of_eq rfl, rfl⟩
    | cons x L =>
      have hmx := hmm x L hfl
      rw [hfl] at hf
      have hml : ((x :: L).map iD).length = L.length + 1 := by simp
      have hml2 : (x :: L).length = L.length + 1 := rfl
      unfold pick38
      dsimp only
      generalize minF (fun y => rs.count (y % r)) x L = V at *
      (repeat' (first
  | (apply W.qd; (first
    | (apply q_mv; (conv => lhs; whnf))|(apply q_as; (conv => lhs; whnf))|(apply yT; (iterate 4 exact rfl))|(apply q_lss; exact rfl; exact rfl)|(apply q_eql; exact rfl; exact rfl)|(apply yV; exact rfl; exact rfl)
    | (apply q_makeFunc)))
  | (apply W.ed; (first
    | (apply (e_callJ (js := [4, 7]) (hf)); (iterate 5 exact rfl); kernel_rfl; kernel_rfl)
    | (apply (e_callJ (js := [5, 6, 8]) (hmx)); (iterate 5 exact rfl); kernel_rfl; kernel_rfl)))|(apply yA)|(apply yB)|(apply yC; kernel_rfl)|(apply yE)|(apply yH)|(apply yI)|(apply yJ)|(apply yK)|(apply yM)
  | (apply yR; exact rfl)))
      all_goals first
        | (exfalso; omega)
        | exact ⟨.inl rfl, [0, 1, 2, 3, 4, 5, 6, 7, 8], [iV V], rfl, rfl, ⟨rfl, trivial⟩, AVle.of_eq rfl, rfl⟩
end Go.Proofs.YtcljokdiblnhiaaGreatDoor
end
section
namespace Go.Proofs.YtcljokdiblnhiaaGreatDoor
open Go.RowKit
set_option maxHeartbeats 8000000
set_option maxRecDepth 100000
def goodB (st : List Int) : List Bool := st.map fun x => decide (x = 1)
def fillB (L : List Bool) (p : Nat) : List Bool := L.take p ++ List.replicate (L.length - p) false
theorem fillB_zero (L : List Bool) : fillB L 0 = List.replicate L.length false := by unfold fillB; simp
theorem fillB_all (L : List Bool) : fillB L L.length = L := by unfold fillB; simp
theorem fillB_len {L : List Bool} {p : Nat} (h : p ≤ L.length) : (fillB L p).length = L.length := by unfold fillB; simp; omega
theorem fillB_set {L : List Bool} {p : Nat} (h : p < L.length) : (fillB L p).set p L[p] = fillB L (p + 1) := by
  unfold fillB
  have h1 : (L.take p).length = p := by rw [List.length_take]; omega
  rw [List.set_append_right _ _ (by rw [h1]; omega), h1, Nat.sub_self, show L.length - p = (L.length - (p + 1)) + 1 by omega, List.replicate_succ, List.set_cons_zero, List.take_succ_eq_append_getElem h, List.append_assoc]
  rfl
def plCx (M D : Nat) (ps : List (List Nat)) (d r n s l i a g : Int) (mv : List Se) (st : List Int) (inn : List Bool) : PlCx :=
  { pl := planN M D ps (goodB st), hv := goodB st, inn := inn, sp := spareN (sprI d r n s l i a (D + ps.length : Nat)) mv inn a, d := d, r := r, se := seatsN (plcI d r n s l i a (D + ps.length : Nat) g) mv a g, ho := plcI d r n s l i a (D + ps.length : Nat) g, a := a, g := g }
def planH (c : PlCx) (st : List Int) (k : Nat) : List Rb := (psTo c (grTo st c.se c.d c.r st.length) k).2
theorem plc_ok {d r n s l i a w g : Int} (h : plcI d r n s l i a w g ≠ []) : OkL d r n s l i w ∧ (0 ≤ a ∧ a < n) ∧ (0 ≤ g ∧ g < grpI d r n s l i w) ∧ ((plcI d r n s l i a w g).length : Int) = w := by
  have h0 : 0 ≤ g ∧ g < grpI d r n s l i w := by
    unfold plcI at h
    split at h
    · assumption
    · exact absurd rfl h
  have hne : (ordI d r n s l i a).length ≠ 0 := fun e => by
    have e2 := List.eq_nil_of_length_eq_zero e
    unfold plcI at h
    rw [if_pos h0, e2] at h
    simp at h
  have hok := grpI_pos h0.1 h0.2
  have hrow : 0 ≤ a ∧ a < n := by
    rcases Classical.em (OkC d r n s l i ∧ 0 ≤ a ∧ a < n) with h1 | h1
    · exact h1.2
    · rw [ordI_no h1] at hne; exact absurd rfl hne
  have hb := plc_bd hne h0.1 h0.2
  refine ⟨hok, hrow, h0, ?_⟩
  unfold plcI
  rw [if_pos h0, List.length_take, List.length_drop]
  omega
theorem ordI_nn {d r n s l i a y : Int} (h : y ∈ ordI d r n s l i a) : 0 ≤ y := by
  unfold ordI at h
  split at h
  · unfold I at h
    obtain ⟨x, _, rfl⟩ := List.mem_map.1 h
    omega
  · simp at h
theorem spare_nn {d r n s l i a w y : Int} {mv : List Se} {inn : List Bool} (h : y ∈ spareN (sprI d r n s l i a w) mv inn a) : 0 ≤ y := by
  unfold spareN at h
  have h1 := (List.mem_filter.1 h).1
  unfold sprI at h1
  split at h1
  · exact ordI_nn (List.mem_of_mem_drop h1)
  · simp at h1
theorem spare_len (d r n s l i a w : Int) (mv : List Se) (inn : List Bool) : (spareN (sprI d r n s l i a w) mv inn a).length ≤ 64 := by
  unfold spareN
  exact Nat.le_trans (List.length_filter_le _ _) (sprI_len _ _ _ _ _ _ _ _)
attribute [local irreducible] Quiet Eff OpOk AWPG ACont ABlock ACalls AGoto
theorem A_hplan_bad {d r n s l i a g M D : Int} {par : List (List Int)} {mv : List Se} {st : List Int} {inn : List Bool} (hp : CodeIn par) (h : ¬ (validC M D par = true ∧ plcI d r n s l i a (D + (par.length : Int)) g ≠ [] ∧ (st.length : Int) = D + (par.length : Int))) :
    ACalls Tryz.prog 33 [cfgA d r n s l i, cdA M D par, .agg [iV a, iV g], ses mv, ints st, bools inn] [] (.tup [rbs [], iV 1]) [] := by
  have hw := A_ewidth (M := M) (D := D) hp
  have hms : (st.map iD).length = st.length := List.length_map _
  refine acalls_of_body Tryz.func33 rfl (Nat.le_of_ble_eq_true rfl) ?_
  cases hV : validC M D par with
  | false =>
    rw [hV, if_neg (by simp)] at hw
    have hpl := A_lplace d r n s l i a 0 g
    have hle := plcI_len d r n s l i a 0 g
    generalize plcI d r n s l i a 0 g = L at *
    (repeat' (first
  | (apply W.qd; (first
    | (apply (yW (hw)); exact rfl; exact rfl; (iterate 3 kernel_rfl))|(apply (yW (hpl)); exact rfl; exact rfl; (iterate 3 kernel_rfl))|(apply q_mv; (conv => lhs; whnf))|(apply q_as; (conv => lhs; whnf))|(apply yS; (iterate 3 exact rfl))|(apply yT; (iterate 4 exact rfl))|(apply yU; (iterate 4 exact rfl))|(apply q_eql; exact rfl; exact rfl)
    | (apply (yEb (u := .d _)); exact rfl; exact rfl)))
  | (apply W.ed; (first
    | (apply yBb; (iterate 3 exact rfl); kernel_rfl; kernel_rfl)
    | (apply yCb; (iterate 3 exact rfl); kernel_rfl)))|(apply W.ln; (apply l_st_box; (iterate 6 exact rfl); (iterate 3 kernel_rfl)))|(refine W.gOff _ _ rfl rfl (by intro h; cases h) ?_)|(apply yA)|(apply yB)|(apply (W.regionS 5); exact rfl; kernel_rfl)|(apply yE)|(apply yJ)|(apply yP)
  | (apply yQ; exact rfl)))
    all_goals first
      | (exfalso; omega)
      | exact ⟨.inl rfl, [], [.d (.v (.slice none 0 0)), iV 1], rfl, ⟨rfl, rfl, trivial⟩, AVle.tup2 (AVle.nil 5) (AVle.of_eq rfl), rfl⟩
  | true =>
    rw [hV, if_pos rfl] at hw
    have hpl := A_lplace d r n s l i a (D + (par.length : Int)) g
    have hle := plcI_len d r n s l i a (D + (par.length : Int)) g
    have h2 : (plcI d r n s l i a (D + (par.length : Int)) g).length = 0 ∨ (st.length : Int) ≠ D + (par.length : Int) := by
      rcases Nat.eq_zero_or_pos (plcI d r n s l i a (D + (par.length : Int)) g).length with h3 | h3
      · exact .inl h3
      · refine .inr fun h4 => h ⟨hV, fun h5 => ?_, h4⟩
        rw [h5] at h3; simp at h3
    generalize plcI d r n s l i a (D + (par.length : Int)) g = L at *
    generalize D + (par.length : Int) = wN at *
    clear h
    (repeat' (first
  | (apply yFb; exact rfl; exact rfl)
  | (apply W.qd; (first
    | (apply (yW (hw)); exact rfl; exact rfl; (iterate 3 kernel_rfl))|(apply (yW (hpl)); exact rfl; exact rfl; (iterate 3 kernel_rfl))|(apply q_mv; (conv => lhs; whnf))|(apply q_as; (conv => lhs; whnf))|(apply yS; (iterate 3 exact rfl))|(apply yT; (iterate 4 exact rfl))|(apply yU; (iterate 4 exact rfl))|(apply q_eql; exact rfl; exact rfl)|(apply q_neq; exact rfl; exact rfl)|(apply yV; exact rfl; exact rfl)|(apply (yEb (u := .d _)); exact rfl; exact rfl)
    | (apply (yDb (u := .d _)); exact rfl; exact rfl)))
  | (apply W.ed; (first
    | (apply yBb; (iterate 3 exact rfl); kernel_rfl; kernel_rfl)
    | (apply yCb; (iterate 3 exact rfl); kernel_rfl)))|(apply W.ln; (apply l_st_box; (iterate 6 exact rfl); (iterate 3 kernel_rfl)))|(refine W.gOff _ _ rfl rfl (by intro h; cases h) ?_)|(apply yA)|(apply yB)|(apply (W.regionS 5); exact rfl; kernel_rfl)|(apply yE)|(apply yJ)|(apply yP)|(apply yQ; exact rfl)|(refine W.gF _ _ rfl rfl (fun hb => ?_) (fun hb => ?_) <;> ((try simp only [hb, zA, zB]) <;> (try simp only [zC, zD, zE, zF, zG, zH, zI, zJ] at hb) <;> (try (exfalso; omega))))
  | (refine W.cond _ rfl (fun hb => ?_) (fun hb => ?_) <;> ((try simp only [hb, zA, zB]) <;> (try simp only [zC, zD, zE, zF, zG, zH, zI, zJ] at hb) <;> (try (exfalso; omega))))))
    all_goals first
      | (exfalso; omega)
      | exact ⟨.inl rfl, [], [.d (.v (.slice none 0 0)), iV 1], rfl, ⟨rfl, rfl, trivial⟩, AVle.tup2 (AVle.nil 5) (AVle.of_eq rfl), rfl⟩
theorem A_hplan {d r n s l i a g : Int} {M D : Nat} {ps : List (List Nat)} {mv : List Se} {st : List Int} {inn : List Bool} (h : CodeOk M D ps) (hm : mv.length ≤ 1000000) (hst : st.length = D + ps.length) (hne : plcI d r n s l i a (D + ps.length : Nat) g ≠ []) :
    ACalls Tryz.prog 33 [cfgA d r n s l i, cdN M D ps, .agg [iV a, iV g], ses mv, ints st, bools inn] [] (.tup [rbs (planH (plCx M D ps d r n s l i a g mv st inn) st st.length), iV 0]) [] := by
  have hw := A_ewidthN h
  have hD := h.d
  have hW := h.w
  have hms : (st.map iD).length = st.length := List.length_map _
  have hpl := A_lplace d r n s l i a (D + ps.length : Nat) g
  have hse := A_seats (d := d) (r := r) (n := n) (s := s) (l := l) (i := i) (wd := (D + ps.length : Nat)) (a := a) (g := g) hm
  have hsp := A_spare (d := d) (r := r) (n := n) (s := s) (l := l) (i := i) (wd := (D + ps.length : Nat)) (row := a) (mv := mv) (inn := inn) hm
  obtain ⟨hok, hrow, hg, hpl2⟩ := plc_ok hne
  obtain ⟨b1, b2, b3, b4, b5⟩ := hok.bd
  have hsn : ∀ y ∈ spareN (sprI d r n s l i a (D + ps.length : Nat)) mv inn a, 0 ≤ y := fun y hy => spare_nn hy
  have hsl := spare_len d r n s l i a (D + ps.length : Nat) mv inn
  have hgl : (goodB st).length = D + ps.length := by unfold goodB; rw [List.length_map]; exact hst
  have hpn := fun k (hk : k < D + ps.length) => A_plan (u := k) (hv := goodB st) h hgl hk
  have hcx : (plCx M D ps d r n s l i a g mv st inn) = ⟨planN M D ps (goodB st), goodB st, inn, spareN (sprI d r n s l i a (D + ps.length : Nat)) mv inn a, d, r, seatsN (plcI d r n s l i a (D + ps.length : Nat) g) mv a g, plcI d r n s l i a (D + ps.length : Nat) g, a, g⟩ := rfl
  have hsel := seatsN_len (plcI d r n s l i a (D + ps.length : Nat) g) mv a g
  rw [hcx]
  unfold planH
  dsimp only
  generalize spareN (sprI d r n s l i a (D + ps.length : Nat)) mv inn a = sp at *
  generalize seatsN (plcI d r n s l i a (D + ps.length : Nat) g) mv a g = se at *
  generalize plcI d r n s l i a (D + ps.length : Nat) g = ho at *
  generalize planN M D ps (goodB st) = pl at *
  clear hcx hne hok
  generalize hWe : D + ps.length = wN at *
  have hhl : ho.length = wN := by omega
  have hsl2 : se.length = wN := by omega
  have hmh : (ho.map iD).length = wN := by rw [List.length_map]; exact hhl
  rw [hst]
  clear hpl2
  refine acalls_of_body Tryz.func33 rfl (Nat.le_of_ble_eq_true rfl) ?_
  (repeat' (first
  | (apply yFb; exact rfl; exact rfl)
  | (apply W.qd; (first
    | (apply (yW (hw)); exact rfl; exact rfl; (iterate 3 kernel_rfl))|(apply (yW (hpl)); exact rfl; exact rfl; (iterate 3 kernel_rfl))|(apply (yW (hse)); exact rfl; exact rfl; (iterate 3 kernel_rfl))|(apply q_mv; (conv => lhs; whnf))|(apply q_as; (conv => lhs; whnf))|(apply yS; (iterate 3 exact rfl))|(apply yT; (iterate 4 exact rfl))|(apply yU; (iterate 4 exact rfl))|(apply q_eql; exact rfl; exact rfl)|(apply q_neq; exact rfl; exact rfl)|(apply yV; exact rfl; exact rfl)|(apply q_len_osl; (iterate 3 exact rfl))
    | (apply (yDb (u := .d _)); exact rfl; exact rfl)))
  | (apply W.ed; (first
    | (apply e_mkmap; exact rfl; exact rfl)|(apply yBb; (iterate 3 exact rfl); kernel_rfl; kernel_rfl)|(apply yCb; (iterate 3 exact rfl); kernel_rfl)
    | (apply e_makeF; exact rfl; exact rfl; (first | (with_reducible exact rfl) | exact natI_spec rfl | assumption | exact (Int.toNat_of_nonneg (by omega)).symm); (iterate 6 exact rfl); omega)))|(apply W.ln; (apply l_st_box; (iterate 6 exact rfl); (iterate 3 kernel_rfl)))|(apply yA)|(apply yB)|(apply (W.regionS 9); exact rfl; kernel_rfl)|(apply yE)|(apply yG)|(apply yH)|(refine W.gF _ _ rfl rfl (fun hb => ?_) (fun hb => ?_) <;> ((try simp only [hb, zA, zB]) <;> (try simp only [zC, zD, zE, zF, zG, zH, zI, zJ] at hb) <;> (try (exfalso; omega))))
  | (refine W.cond _ rfl (fun hb => ?_) (fun hb => ?_) <;> ((try simp only [hb, zA, zB]) <;> (try simp only [zC, zD, zE, zF, zG, zH, zI, zJ] at hb) <;> (try (exfalso; omega))))))
  all_goals try (exfalso; omega)
  have hf0 := fillB_zero (goodB st)
  rw [hgl] at hf0
  rw [show (List.replicate wN (Value.bool false)).map (fun z => [Dat.v z]) = (List.replicate wN false).map tD from by simp [tD]]
  have hgg : ∀ k (hk : k < wN), (goodB st)[k]'(by omega) = decide (st[k]'(by omega) = 1) := fun k hk => by unfold goodB; rw [List.getElem_map]
  refine AWP.loopW (α := Nat) (fun k => k ≤ wN) (fun k => ⟨[(60, iV k), (59, iV wN), (17, .osl 6 0 0 wN), (16, .opt 5 0), (4, ints st), (6, .opt 0 0), (18, .opt 8 0), (14, iV wN), (7, .opt 1 0), (8, .opt 2 0), (11, .opt 3 0), (15, .opt 4 0), (3, ses mv)], [.box [iV d, iV r, iV n, iV s, iV l, iV i], .box [.d .any, iV M, iV D, rowsN ps, .d .any], .box [iV a, iV g], .box [bools inn], .box [ints ho], .box [ints se], .row 0 1 4 ((fillB (goodB st) k).map tD), .mp (mpI (ksR (grTo st se d r k))), .box [.mp 7]]⟩) (fun k => wN - k) 0 (Nat.zero_le _) ?wkA fun k hk => ?_
  case wkA => rw [hf0]; exact ⟨[0, 1, 2, 3, 4, 5, 6, 7, 8], rfl, rfl, rfl, by (repeat (first | exact trivial | refine ⟨rfl, ?_⟩))⟩
  by_cases hkl : k < wN
  · have hkst : k < st.length := by omega
    have hkse : k < se.length := by omega
    have hgk : (goodB st)[k]'(by omega) = decide (st[k]'hkst = 1) := hgg k hkl
    have hs := fillB_set (show k < (goodB st).length by omega)
    rw [hgk] at hs
    have hgs := grTo_succ st se d r k
    have hgrl := grTo_len st se d r k
    have eS : st.getD k 0 = st[k]'hkst := by rw [List.getD_eq_getElem?_getD, List.getElem?_eq_getElem hkst]; rfl
    have eE : se.getD k 0 = se[k]'hkse := by rw [List.getD_eq_getElem?_getD, List.getElem?_eq_getElem hkse]; rfl
    unfold grStep at hgs
    rw [eS, eE] at hgs
    have hks := ksR_get (grTo st se d r k)
    clear hgg hgk hf0 eS eE hpn hsn
    generalize grTo st se d r k = rs at *
    have hzl : (fillB (goodB st) k).length = wN := by rw [fillB_len (by omega), hgl]
    generalize fillB (goodB st) k = Z at hs hzl ⊢
    have hkz : k < (Z.set k (decide (st[k] = 1))).length := by rw [List.length_set]; omega
    by_cases hg1 : st[k] = 1
    · have hz1 : (tD ((Z.set k (decide (st[k] = 1)))[k]'hkz))[0]? = some (.v (.bool true)) := by rw [List.getElem_set_self, decide_eq_true hg1]; rfl
      by_cases hin : 0 ≤ se[k] ∧ se[k] < d
      · rw [if_pos ⟨hg1, hin⟩] at hgs
        have hk1 := hks (se[k] % r)
        have hcb : rs.count (se[k] % r) ≤ rs.length := List.count_le_length
        obtain ⟨hin1, hin2⟩ := hin
        (repeat' (first
  | (apply yFb; exact rfl; exact rfl)
  | (apply W.qd; (first
    | ((apply (q_lkupN hk1); (iterate 4 exact rfl)))|(apply q_mv; (conv => lhs; whnf))|(apply q_as; (conv => lhs; whnf))|(apply yS; (iterate 3 exact rfl))|(apply yT; (iterate 4 exact rfl))|(apply q_lss; exact rfl; exact rfl)|(apply q_geq; exact rfl; exact rfl)|(apply q_eql; exact rfl; exact rfl)|(apply q_add; exact rfl; exact rfl; omega)|(apply q_rem; exact rfl; exact rfl; omega; omega)|(apply yX; (iterate 3 exact rfl); (first | omega | (focus (simp; done))))|(apply yGb; (iterate 4 exact rfl); (first | (with_reducible exact rfl) | exact natI_spec rfl | assumption | exact (Int.toNat_of_nonneg (by omega)).symm); (first | omega | (focus (simp only [List.length_map]; omega)) | (focus (simp; done)) | (focus (simp; omega))))|(apply (yEb (u := .d _)); exact rfl; exact rfl)|(apply (yDb (u := .d _)); exact rfl; exact rfl)|(apply q_ix_osl0; (iterate 4 exact rfl); (first | (with_reducible exact rfl) | exact natI_spec rfl | assumption | exact (Int.toNat_of_nonneg (by omega)).symm); (first | omega | (focus (simp only [List.length_map]; omega)) | (focus (simp; done)) | (focus (simp; omega))))
    | (apply q_ld_rptm; (iterate 4 exact rfl); (first | omega | (focus (simp only [List.length_map]; omega)) | (focus (simp; done)) | (focus (simp; omega))))))|(apply W.ln; (apply l_st_rpt; (iterate 7 exact rfl); exact fun _ => rfl; (first | omega | (focus (simp only [List.length_map]; omega)) | (focus (simp; omega)))))|(apply W.en; (apply e_mapset; (iterate 6 exact rfl)))|(refine W.gOff _ _ rfl rfl (by intro h; cases h) ?_)|(apply yA)|(apply yB)|(apply yC; kernel_rfl)|(apply yD; exact rfl; kernel_rfl)|(apply yE)|(apply yF; kernel_rfl)|(apply yG)|(apply yH)|(apply yL)|(apply yR; exact rfl)|(refine W.gT _ _ rfl rfl (fun hb => ?_) (fun hb => ?_) <;> ((try simp only [hb, zA, zB]) <;> (try simp only [zC, zD, zE, zF, zG, zH, zI, zJ] at hb) <;> (try (exfalso; omega))))
  | (refine W.cond _ rfl (fun hb => ?_) (fun hb => ?_) <;> ((try simp only [hb, zA, zB]) <;> (try simp only [zC, zD, zE, zF, zG, zH, zI, zJ] at hb) <;> (try (exfalso; omega))))))
        all_goals first
          | (exfalso; omega)
          | (exfalso; rw [List.getElem_set_self, decide_eq_true hg1] at hb; exact absurd hb (by decide))|(refine ⟨k + 1, by omega, by omega, ?_⟩; rw [hgs, ← hs]; exact ⟨[0, 1, 2, 3, 4, 5, 6, 7, 8], rfl, rfl, rfl, iV_eq (by omega), rfl, rfl, rfl, rfl, rfl, rfl, rfl, rfl, rfl, rfl, rfl, rfl, trivial⟩)
      · rw [if_neg (fun h => hin h.2)] at hgs
        have hin2 : se[k] < 0 ∨ d ≤ se[k] := by omega
        (repeat' (first
  | (apply yFb; exact rfl; exact rfl)
  | (apply W.qd; (first
    | (apply q_mv; (conv => lhs; whnf))|(apply q_as; (conv => lhs; whnf))|(apply yS; (iterate 3 exact rfl))|(apply yT; (iterate 4 exact rfl))|(apply q_lss; exact rfl; exact rfl)|(apply q_geq; exact rfl; exact rfl)|(apply q_eql; exact rfl; exact rfl)|(apply q_add; exact rfl; exact rfl; omega)|(apply yX; (iterate 3 exact rfl); (first | omega | (focus (simp; done))))|(apply yGb; (iterate 4 exact rfl); (first | (with_reducible exact rfl) | exact natI_spec rfl | assumption | exact (Int.toNat_of_nonneg (by omega)).symm); (first | omega | (focus (simp only [List.length_map]; omega)) | (focus (simp; done)) | (focus (simp; omega))))|(apply (yEb (u := .d _)); exact rfl; exact rfl)|(apply (yDb (u := .d _)); exact rfl; exact rfl)|(apply q_ix_osl0; (iterate 4 exact rfl); (first | (with_reducible exact rfl) | exact natI_spec rfl | assumption | exact (Int.toNat_of_nonneg (by omega)).symm); (first | omega | (focus (simp only [List.length_map]; omega)) | (focus (simp; done)) | (focus (simp; omega))))
    | (apply q_ld_rptm; (iterate 4 exact rfl); (first | omega | (focus (simp only [List.length_map]; omega)) | (focus (simp; done)) | (focus (simp; omega))))))|(apply W.ln; (apply l_st_rpt; (iterate 7 exact rfl); exact fun _ => rfl; (first | omega | (focus (simp only [List.length_map]; omega)) | (focus (simp; omega)))))|(refine W.gOff _ _ rfl rfl (by intro h; cases h) ?_)|(apply yA)|(apply yB)|(apply yC; kernel_rfl)|(apply yD; exact rfl; kernel_rfl)|(apply yE)|(apply yF; kernel_rfl)|(apply yG)|(apply yH)|(apply yL)|(apply yR; exact rfl)|(refine W.gT _ _ rfl rfl (fun hb => ?_) (fun hb => ?_) <;> ((try simp only [hb, zA, zB]) <;> (try simp only [zC, zD, zE, zF, zG, zH, zI, zJ] at hb) <;> (try (exfalso; omega))))
  | (refine W.cond _ rfl (fun hb => ?_) (fun hb => ?_) <;> ((try simp only [hb, zA, zB]) <;> (try simp only [zC, zD, zE, zF, zG, zH, zI, zJ] at hb) <;> (try (exfalso; omega))))))
        all_goals first
          | (exfalso; omega)
          | (exfalso; rw [List.getElem_set_self, decide_eq_true hg1] at hb; exact absurd hb (by decide))|(refine ⟨k + 1, by omega, by omega, ?_⟩; rw [hgs, ← hs]; exact ⟨[0, 1, 2, 3, 4, 5, 6, 7, 8], rfl, rfl, rfl, iV_eq (by omega), rfl, rfl, rfl, rfl, rfl, rfl, rfl, rfl, rfl, rfl, rfl, rfl, trivial⟩)
    · have hz1 : (tD ((Z.set k (decide (st[k] = 1)))[k]'hkz))[0]? = some (.v (.bool false)) := by rw [List.getElem_set_self, decide_eq_false hg1]; rfl
      rw [if_neg (fun h => hg1 h.1)] at hgs
      (repeat' (first
  | (apply yFb; exact rfl; exact rfl)
  | (apply W.qd; (first
    | (apply q_mv; (conv => lhs; whnf))|(apply q_as; (conv => lhs; whnf))|(apply yS; (iterate 3 exact rfl))|(apply yT; (iterate 4 exact rfl))|(apply q_lss; exact rfl; exact rfl)|(apply q_geq; exact rfl; exact rfl)|(apply q_eql; exact rfl; exact rfl)|(apply q_add; exact rfl; exact rfl; omega)|(apply q_rem; exact rfl; exact rfl; omega; omega)|(apply yX; (iterate 3 exact rfl); (first | omega | (focus (simp; done))))|(apply yGb; (iterate 4 exact rfl); (first | (with_reducible exact rfl) | exact natI_spec rfl | assumption | exact (Int.toNat_of_nonneg (by omega)).symm); (first | omega | (focus (simp only [List.length_map]; omega)) | (focus (simp; done)) | (focus (simp; omega))))|(apply (yEb (u := .d _)); exact rfl; exact rfl)|(apply (yDb (u := .d _)); exact rfl; exact rfl)|(apply q_ix_osl0; (iterate 4 exact rfl); (first | (with_reducible exact rfl) | exact natI_spec rfl | assumption | exact (Int.toNat_of_nonneg (by omega)).symm); (first | omega | (focus (simp only [List.length_map]; omega)) | (focus (simp; done)) | (focus (simp; omega))))|(apply q_ld_rptm; (iterate 4 exact rfl); (first | omega | (focus (simp only [List.length_map]; omega)) | (focus (simp; done)) | (focus (simp; omega))))
    | (apply q_lkup; (iterate 4 exact rfl))))|(apply W.ln; (apply l_st_rpt; (iterate 7 exact rfl); exact fun _ => rfl; (first | omega | (focus (simp only [List.length_map]; omega)) | (focus (simp; omega)))))|(refine W.gOff _ _ rfl rfl (by intro h; cases h) ?_)|(apply yA)|(apply yB)|(apply yC; kernel_rfl)|(apply yD; exact rfl; kernel_rfl)|(apply yE)|(apply yF; kernel_rfl)|(apply yG)|(apply yH)|(apply yL)|(apply yR; exact rfl)|(refine W.gT _ _ rfl rfl (fun hb => ?_) (fun hb => ?_) <;> ((try simp only [hb, zA, zB]) <;> (try simp only [zC, zD, zE, zF, zG, zH, zI, zJ] at hb) <;> (try (exfalso; omega))))
  | (refine W.cond _ rfl (fun hb => ?_) (fun hb => ?_) <;> ((try simp only [hb, zA, zB]) <;> (try simp only [zC, zD, zE, zF, zG, zH, zI, zJ] at hb) <;> (try (exfalso; omega))))))
      all_goals first
        | (exfalso; omega)
        | (exfalso; exact absurd (show (Z.set k (decide (st[k] = 1)))[k]'hkz = true by assumption) (by rw [List.getElem_set_self, decide_eq_false hg1]; decide))|(refine ⟨k + 1, by omega, by omega, ?_⟩; rw [hgs, ← hs]; exact ⟨[0, 1, 2, 3, 4, 5, 6, 7, 8], rfl, rfl, rfl, iV_eq (by omega), rfl, rfl, rfl, rfl, rfl, rfl, rfl, rfl, rfl, rfl, rfl, rfl, trivial⟩)
  obtain rfl : k = wN := by omega
  have hfa := fillB_all (goodB st)
  rw [hgl] at hfa
  rw [hfa]
  have hgrl := grTo_len st se d r k
  generalize grTo st se d r k = rs0 at *
  clear hf0 hgg hfa hk hw hpl hse
  (repeat' (first
  | (apply W.qd; (first
    | (apply (yW (hsp)); exact rfl; exact rfl; (iterate 3 kernel_rfl))|(apply q_mv; (conv => lhs; whnf))|(apply q_as; (conv => lhs; whnf))|(apply yS; (iterate 3 exact rfl))|(apply yT; (iterate 4 exact rfl))|(apply yU; (iterate 4 exact rfl))|(apply q_lss; exact rfl; exact rfl)|(apply q_len_osl; (iterate 3 exact rfl))
    | (apply q_makeFunc)))|(apply W.ed; (apply yCb; (iterate 3 exact rfl); kernel_rfl))|(apply W.ln; (apply l_st_box; (iterate 6 exact rfl); (iterate 3 kernel_rfl)))|(apply yA)|(apply yB)|(apply (W.regionS 19); exact rfl; kernel_rfl)|(apply yE)|(apply yG)|(apply yI)|(apply yK)|(apply yM)
  | (refine W.cond _ rfl (fun hb => ?_) (fun hb => ?_) <;> ((try simp only [hb, zA, zB]) <;> (try simp only [zC, zD, zE, zF, zG, zH, zI, zJ] at hb) <;> (try (exfalso; omega))))))
  all_goals try (exfalso; omega)
  refine AWP.nilBox (l' := [.osl 11 0 0 0]) 10 0 5 84 rfl rfl (by omega) rfl rfl rfl rfl ?_
  have hSl := psTo_len ⟨pl, goodB st, inn, sp, d, r, se, ho, a, g⟩ rs0
  have hSs := psTo_succ ⟨pl, goodB st, inn, sp, d, r, se, ho, a, g⟩ rs0
  have hS0 : psTo ⟨pl, goodB st, inn, sp, d, r, se, ho, a, g⟩ rs0 0 = (rs0, []) := rfl
  generalize hS : psTo ⟨pl, goodB st, inn, sp, d, r, se, ho, a, g⟩ rs0 = S at *
  have hmg : ((goodB st).map tD).length = k := by rw [List.length_map]; exact hgl
  obtain ⟨wN, rfl⟩ : ∃ wN, wN = k := ⟨_, rfl⟩
  refine AWP.loopW (α := Nat) (fun k => k ≤ wN) (fun k => ⟨[(112, iV k), (111, iV wN), (110, bools (goodB st)), (17, bools (goodB st)), (22, .fn 73 [.opt 5 0, .opt 4 0, .opt 3 0, .opt 8 0, .opt 9 0, .opt 7 0, .opt 0 0]), (7, .opt 1 0), (8, .opt 2 0), (21, .opt 9 0), (6, .opt 0 0), (18, .opt 7 0)], [.box [iV d, iV r, iV n, iV s, iV l, iV i], .box [.d .any, iV M, iV D, rowsN ps, .d .any], .box [iV a, iV g], .box [bools inn], .box [ints ho], .box [ints se], .mp (mpI (ksR (S k).1)), .box [.mp 6], .box [ints sp], .box [.osl 10 (S k).2.length 0 (S k).2.length], .row (S k).2.length 5 84 ((S k).2.map rbD)]⟩) (fun k => wN - k) 0 (Nat.zero_le _) ?wkB fun k hk => ?_
  case wkB =>
    rw [hS0]
    exact ⟨[0, 1, 2, 3, 4, 5, 7, 8, 9, 10, 11], rfl, rfl, rfl, rfl, rfl, (frz_rowJ (i := 6) (ver := 0) (n := wN) (l := (goodB st).map tD) rfl rfl hmg.symm).symm, (frz_rowJ (i := 6) (ver := 0) (n := wN) (l := (goodB st).map tD) rfl rfl hmg.symm).symm, rfl, rfl, rfl, rfl, rfl, rfl, trivial⟩
  by_cases hkl : k < wN
  · have hls := hSl k
    have hst2 := hSs k
    have ht := A_target38 (d := d) (r := r) (n := n) (s := s) (l := l) (i := i) (se := se) (ho := ho) (inn := inn) (sp := sp) (rs := (S k).1) (ver := (S k).2.length) (out := (S k).2) (u := k) (by omega) hsn (by omega) (by omega) (by omega) (by omega)
    have hpk := hpn k (by omega)
    have hks := ksR_get (S k).1
    have eE : se.getD k 0 = se[k]'(by omega) := by rw [List.getD_eq_getElem?_getD, List.getElem?_eq_getElem (by omega)]; rfl
    have eH : ho.getD k 0 = ho[k]'(by omega) := by rw [List.getD_eq_getElem?_getD, List.getElem?_eq_getElem (by omega)]; rfl
    have eG : (goodB st).getD k false = (goodB st)[k]'(by omega) := by rw [List.getD_eq_getElem?_getD, List.getElem?_eq_getElem (by omega)]; rfl
    unfold psStep PlCx.tgt at hst2
    dsimp only at hst2
    rw [eE, eH, eG] at hst2
    generalize tgtN38 inn sp r (S k).1 (S k).2 (se[k]'(by omega)) (ho[k]'(by omega)) = t at *
    clear hS hSl hSs hS0 hpn hsp hsn eE eH eG
    generalize S k = Sk at *
    obtain ⟨rs, out⟩ := Sk
    dsimp only at *
    have hkg : k < (goodB st).length := by omega
    cases hq : (goodB st)[k] with
    | true =>
      rw [hq, if_pos rfl] at hst2
      (repeat' (first
  | (apply W.qd; (first
    | (apply q_mv; (conv => lhs; whnf))|(apply q_as; (conv => lhs; whnf))|(apply yU; (iterate 4 exact rfl))|(apply q_lss; exact rfl; exact rfl)|(apply q_add; exact rfl; exact rfl; omega)|(apply yX; (iterate 3 exact rfl); (first | omega | (focus (simp; done))))
    | (apply yGb; (iterate 4 exact rfl); (first | (with_reducible exact rfl) | exact natI_spec rfl | assumption | exact (Int.toNat_of_nonneg (by omega)).symm); (first | omega | (focus (simp only [List.length_map]; omega)) | (focus (simp; done)) | (focus (simp; omega))))))|(apply yA)|(apply yB)|(apply yC; kernel_rfl)|(apply yE)|(apply yG)|(apply yH)|(apply yI)|(apply yK)|(apply yM)
  | (refine W.cond _ rfl (fun hb => ?_) (fun hb => ?_) <;> ((try simp only [hb, zA, zB]) <;> (try simp only [zC, zD, zE, zF, zG, zH, zI, zJ] at hb) <;> (try (exfalso; omega))))))
      all_goals first
        | (exfalso; rw [hq] at hb; exact absurd hb (by decide))
        | (exfalso; omega)|(refine ⟨k + 1, by omega, by omega, ?_⟩; rw [hst2]; exact ⟨[0, 1, 2, 3, 4, 5, 6, 7, 8, 9, 10], rfl, rfl, rfl, iV_eq (by omega), rfl, rfl, rfl, rfl, rfl, rfl, rfl, rfl, rfl, trivial⟩)
    | false =>
      rw [hq, if_neg (by simp)] at hst2
      cases hp9 : pl k with
      | none =>
        rw [hp9] at hpk hst2
        unfold planA at hpk
        dsimp only at hst2 hpk
        (repeat' (first
  | (apply W.qd; (first
    | (apply (yW (hpk)); exact rfl; exact rfl; (iterate 3 kernel_rfl))|(apply q_mv; (conv => lhs; whnf))|(apply q_as; (conv => lhs; whnf))|(apply yU; (iterate 4 exact rfl))|(apply q_lss; exact rfl; exact rfl)|(apply q_eql; exact rfl; exact rfl)|(apply q_add; exact rfl; exact rfl; omega)|(apply yAb; exact rfl; exact rfl)|(apply yX; (iterate 3 exact rfl); (first | omega | (focus (simp; done))))|(apply yGb; (iterate 4 exact rfl); (first | (with_reducible exact rfl) | exact natI_spec rfl | assumption | exact (Int.toNat_of_nonneg (by omega)).symm); (first | omega | (focus (simp only [List.length_map]; omega)) | (focus (simp; done)) | (focus (simp; omega))))
    | (apply (yDb (u := .d _)); exact rfl; exact rfl)))
  | (apply W.ed; (first
    | (apply (e_callJ (js := [5, 4, 3, 8, 9, 7, 0, 10, 6]) (ht)); (iterate 5 exact rfl); kernel_rfl; kernel_rfl)
    | (apply yCb; (iterate 3 exact rfl); kernel_rfl)))|(apply W.ln; (apply l_st_box; (iterate 6 exact rfl); (iterate 3 kernel_rfl)))|(refine W.gOff _ _ rfl rfl (by intro h; cases h) ?_)|(apply yA)|(apply yB)|(apply yC; kernel_rfl)|(apply yE)|(apply yG)|(apply yH)|(apply yI)|(apply yK)|(apply yL)|(apply yM)|(apply yR; exact rfl)
  | (refine W.cond _ rfl (fun hb => ?_) (fun hb => ?_) <;> ((try simp only [hb, zA, zB]) <;> (try simp only [zC, zD, zE, zF, zG, zH, zI, zJ] at hb) <;> (try (exfalso; omega))))))
        all_goals first
          | (exfalso; rw [hq] at hb; exact absurd hb (by decide))
          | (exfalso; omega)|(refine ⟨k + 1, by omega, by omega, ?_⟩; rw [hst2]; exact ⟨[0, 1, 2, 3, 4, 5, 6, 7, 8, 9, 10], rfl, rfl, rfl, iV_eq (by omega), rfl, rfl, rfl, rfl, rfl, rfl, rfl, rfl, rfl, trivial⟩)
      | some tl =>
        rw [hp9] at hpk hst2
        unfold planA at hpk
        dsimp only at hst2 hpk
        by_cases ht0 : 0 ≤ t
        · rw [if_pos ht0] at hst2
          have el : (out ++ [((a, g, (k : Int), t, tl) : Rb)]).length = out.length + 1 := by simp
          by_cases htd : t < d
          · rw [if_pos htd] at hst2
            have hk1 := hks (t % r)
            have hcb : rs.count (t % r) ≤ rs.length := List.count_le_length
            (repeat' (first
  | (apply yFb; exact rfl; exact rfl)
  | (apply W.qd; (first
    | (apply (yW (hpk)); exact rfl; exact rfl; (iterate 3 kernel_rfl))
    | ((apply (q_lkupN hk1); (iterate 4 exact rfl)))|(apply q_mv; (conv => lhs; whnf))|(apply q_as; (conv => lhs; whnf))|(apply yS; (iterate 3 exact rfl))|(apply yT; (iterate 4 exact rfl))|(apply yU; (iterate 4 exact rfl))|(apply q_lss; exact rfl; exact rfl)|(apply q_geq; exact rfl; exact rfl)|(apply q_eql; exact rfl; exact rfl)|(apply q_add; exact rfl; exact rfl; omega)|(apply q_rem; exact rfl; exact rfl; omega; omega)|(apply yAb; exact rfl; exact rfl)|(apply yX; (iterate 3 exact rfl); (first | omega | (focus (simp; done))))|(apply yZ; exact rfl; exact rfl; kernel_rfl)|(apply q_litF; (iterate 5 exact rfl); kernel_rfl; kernel_rfl; exact rfl)|(apply yGb; (iterate 4 exact rfl); (first | (with_reducible exact rfl) | exact natI_spec rfl | assumption | exact (Int.toNat_of_nonneg (by omega)).symm); (first | omega | (focus (simp only [List.length_map]; omega)) | (focus (simp; done)) | (focus (simp; omega))))
    | (apply (yEb (u := .d _)); exact rfl; exact rfl)))
  | (apply W.ed; (first
    | (apply (e_callJ (js := [5, 4, 3, 8, 9, 7, 0, 10, 6]) (ht)); (iterate 5 exact rfl); kernel_rfl; kernel_rfl)
    | ((apply (e_app1F (f := rbD) (a, g, (k : Int), t, tl)); (iterate 8 exact rfl); omega))
    | (apply yCb; (iterate 3 exact rfl); kernel_rfl)))|(apply W.ln; (apply l_st_box; (iterate 6 exact rfl); (iterate 3 kernel_rfl)))|(apply W.en; (apply e_mapset; (iterate 6 exact rfl)))|(apply yA)|(apply yB)|(apply yC; kernel_rfl)|(apply yD; exact rfl; kernel_rfl)|(apply yE)|(apply yF; kernel_rfl)|(apply yG)|(apply yH)|(apply yI)|(apply yK)|(apply yL)|(apply yM)
  | (refine W.cond _ rfl (fun hb => ?_) (fun hb => ?_) <;> ((try simp only [hb, zA, zB]) <;> (try simp only [zC, zD, zE, zF, zG, zH, zI, zJ] at hb) <;> (try (exfalso; omega))))))
            all_goals first
              | (exfalso; rw [hq] at hb; exact absurd hb (by decide))
              | (exfalso; omega)|(refine ⟨k + 1, by omega, by omega, ?_⟩; rw [hst2]; dsimp only; rw [el]; exact ⟨[0, 1, 2, 3, 4, 5, 6, 7, 8, 9, 10], rfl, rfl, rfl, iV_eq (by omega), rfl, rfl, rfl, rfl, rfl, rfl, rfl, rfl, rfl, trivial⟩)
          · rw [if_neg htd] at hst2
            (repeat' (first
  | (apply yFb; exact rfl; exact rfl)
  | (apply W.qd; (first
    | (apply (yW (hpk)); exact rfl; exact rfl; (iterate 3 kernel_rfl))|(apply q_mv; (conv => lhs; whnf))|(apply q_as; (conv => lhs; whnf))|(apply yS; (iterate 3 exact rfl))|(apply yT; (iterate 4 exact rfl))|(apply yU; (iterate 4 exact rfl))|(apply q_lss; exact rfl; exact rfl)|(apply q_geq; exact rfl; exact rfl)|(apply q_eql; exact rfl; exact rfl)|(apply q_add; exact rfl; exact rfl; omega)|(apply yAb; exact rfl; exact rfl)|(apply yX; (iterate 3 exact rfl); (first | omega | (focus (simp; done))))|(apply yZ; exact rfl; exact rfl; kernel_rfl)|(apply q_litF; (iterate 5 exact rfl); kernel_rfl; kernel_rfl; exact rfl)|(apply yGb; (iterate 4 exact rfl); (first | (with_reducible exact rfl) | exact natI_spec rfl | assumption | exact (Int.toNat_of_nonneg (by omega)).symm); (first | omega | (focus (simp only [List.length_map]; omega)) | (focus (simp; done)) | (focus (simp; omega))))
    | (apply (yEb (u := .d _)); exact rfl; exact rfl)))
  | (apply W.ed; (first
    | (apply (e_callJ (js := [5, 4, 3, 8, 9, 7, 0, 10, 6]) (ht)); (iterate 5 exact rfl); kernel_rfl; kernel_rfl)
    | ((apply (e_app1F (f := rbD) (a, g, (k : Int), t, tl)); (iterate 8 exact rfl); omega))
    | (apply yCb; (iterate 3 exact rfl); kernel_rfl)))|(apply W.ln; (apply l_st_box; (iterate 6 exact rfl); (iterate 3 kernel_rfl)))|(apply yA)|(apply yB)|(apply yC; kernel_rfl)|(apply yE)|(apply yG)|(apply yH)|(apply yI)|(apply yK)|(apply yL)|(apply yM)
  | (refine W.cond _ rfl (fun hb => ?_) (fun hb => ?_) <;> ((try simp only [hb, zA, zB]) <;> (try simp only [zC, zD, zE, zF, zG, zH, zI, zJ] at hb) <;> (try (exfalso; omega))))))
            all_goals first
              | (exfalso; rw [hq] at hb; exact absurd hb (by decide))
              | (exfalso; omega)|(refine ⟨k + 1, by omega, by omega, ?_⟩; rw [hst2]; dsimp only; rw [el]; exact ⟨[0, 1, 2, 3, 4, 5, 6, 7, 8, 9, 10], rfl, rfl, rfl, iV_eq (by omega), rfl, rfl, rfl, rfl, rfl, rfl, rfl, rfl, rfl, trivial⟩)
        · rw [if_neg ht0] at hst2
          (repeat' (first
  | (apply yFb; exact rfl; exact rfl)
  | (apply W.qd; (first
    | (apply (yW (hpk)); exact rfl; exact rfl; (iterate 3 kernel_rfl))|(apply q_mv; (conv => lhs; whnf))|(apply q_as; (conv => lhs; whnf))|(apply yU; (iterate 4 exact rfl))|(apply q_lss; exact rfl; exact rfl)|(apply q_geq; exact rfl; exact rfl)|(apply q_eql; exact rfl; exact rfl)|(apply q_add; exact rfl; exact rfl; omega)|(apply yAb; exact rfl; exact rfl)|(apply yX; (iterate 3 exact rfl); (first | omega | (focus (simp; done))))|(apply yGb; (iterate 4 exact rfl); (first | (with_reducible exact rfl) | exact natI_spec rfl | assumption | exact (Int.toNat_of_nonneg (by omega)).symm); (first | omega | (focus (simp only [List.length_map]; omega)) | (focus (simp; done)) | (focus (simp; omega))))
    | (apply (yEb (u := .d _)); exact rfl; exact rfl)))
  | (apply W.ed; (first
    | (apply (e_callJ (js := [5, 4, 3, 8, 9, 7, 0, 10, 6]) (ht)); (iterate 5 exact rfl); kernel_rfl; kernel_rfl)
    | (apply yCb; (iterate 3 exact rfl); kernel_rfl)))|(apply W.ln; (apply l_st_box; (iterate 6 exact rfl); (iterate 3 kernel_rfl)))|(apply yA)|(apply yB)|(apply yC; kernel_rfl)|(apply yE)|(apply yG)|(apply yH)|(apply yI)|(apply yK)|(apply yL)|(apply yM)
  | (refine W.cond _ rfl (fun hb => ?_) (fun hb => ?_) <;> ((try simp only [hb, zA, zB]) <;> (try simp only [zC, zD, zE, zF, zG, zH, zI, zJ] at hb) <;> (try (exfalso; omega))))))
          all_goals first
            | (exfalso; rw [hq] at hb; exact absurd hb (by decide))
            | (exfalso; omega)|(refine ⟨k + 1, by omega, by omega, ?_⟩; rw [hst2]; exact ⟨[0, 1, 2, 3, 4, 5, 6, 7, 8, 9, 10], rfl, rfl, rfl, iV_eq (by omega), rfl, rfl, rfl, rfl, rfl, rfl, rfl, rfl, rfl, trivial⟩)
  · obtain rfl : k = wN := by omega
    have hls := hSl k
    clear hS hSl hSs hS0 hpn hsp hsn
    generalize S k = Sk at *
    obtain ⟨rs, out⟩ := Sk
    dsimp only at *
    (repeat' (first
  | (apply W.qd; (first
    | (apply q_as; (conv => lhs; whnf))|(apply yT; (iterate 4 exact rfl))
    | (apply q_lss; exact rfl; exact rfl)))|(apply yA)|(apply yB)|(apply yC; kernel_rfl)|(apply yE)|(apply yI)|(apply yJ)|(apply yK)|(apply yM)
  | (refine W.cond _ rfl (fun hb => ?_) (fun hb => ?_) <;> ((try simp only [hb, zA, zB]) <;> (try simp only [zC, zD, zE, zF, zG, zH, zI, zJ] at hb) <;> (try (exfalso; omega))))))
    exact ⟨.inl rfl, [], [.osl 10 out.length 0 out.length, iV 0], rfl, ⟨rfl, rfl, trivial⟩, AVle.tup2 (AVle.of_eq (frz_rowJ rfl rfl (by simp))) (AVle.of_eq rfl), rfl⟩
end Go.Proofs.YtcljokdiblnhiaaGreatDoor
end
section
namespace Go.Proofs.YtcljokdiblnhiaaGreatDoor
open Go.RowKit
set_option maxHeartbeats 4000000
set_option maxRecDepth 100000
attribute [local irreducible] Quiet Eff OpOk AWPG ACont ABlock ACalls AGoto
def smallH (d D : Int) (par : List (List Int)) (mv : List Se) : Bool := smallB D par && (decide (d ≤ 16) && decide (mv.length ≤ 40))
theorem A_small38 {d r n s l i M D : Int} {par : List (List Int)} {mv : List Se} : ACalls Tryz.prog 27 [cfgA d r n s l i, cdA M D par, ses mv] [] (bV (smallH d D par mv)) [] := by
  have hs := A_small (M := M) (D := D) (par := par)
  have hms : (mv.map seD).length = mv.length := List.length_map _
  unfold smallH
  refine acalls_of_body Tryz.func27 rfl (Nat.le_of_ble_eq_true rfl) ?_
  cases hq : smallB D par with
  | false =>
    rw [hq] at hs
    (repeat' (first
  | (apply W.qd; (first
    | (apply (yW (hs)); exact rfl; exact rfl; (iterate 3 kernel_rfl))|(apply q_mv; (conv => lhs; whnf))|(apply q_as; (conv => lhs; whnf))|(apply yU; (iterate 4 exact rfl))
    | (apply (yDb (u := .d _)); exact rfl; exact rfl)))|(apply W.ed; (apply yBb; (iterate 3 exact rfl); kernel_rfl; kernel_rfl))|(refine W.gOff _ _ rfl rfl (by intro h; cases h) ?_)|(apply yA)|(apply yB)|(apply yC; kernel_rfl)|(apply yE)
  | (apply yJ)))
    all_goals exact Ends.b rfl rfl
  | true =>
    rw [hq] at hs
    rw [Bool.true_and]
    (repeat' (first
  | (apply yFb; exact rfl; exact rfl)
  | (apply W.qd; (first
    | (apply (yW (hs)); exact rfl; exact rfl; (iterate 3 kernel_rfl))|(apply q_mv; (conv => lhs; whnf))|(apply q_as; (conv => lhs; whnf))|(apply yS; (iterate 3 exact rfl))|(apply yT; (iterate 4 exact rfl))|(apply yU; (iterate 4 exact rfl))|(apply q_leq; exact rfl; exact rfl)|(apply yV; exact rfl; exact rfl)|(apply (yEb (u := .d _)); exact rfl; exact rfl)
    | (apply (yDb (u := .d _)); exact rfl; exact rfl)))|(apply W.ed; (apply yBb; (iterate 3 exact rfl); kernel_rfl; kernel_rfl))|(refine W.gOff _ _ rfl rfl (by intro h; cases h) ?_)|(apply yA)|(apply yB)|(apply yC; kernel_rfl)|(apply yE)|(apply yJ)
  | (refine W.gT _ _ rfl rfl (fun hb => ?_) (fun hb => ?_) <;> ((try simp only [hb, zA, zB]) <;> (try simp only [zC, zD, zE, zF, zG, zH, zI, zJ] at hb) <;> (try (exfalso; omega))))))
    all_goals first | (refine Ends.b rfl ?_; rw [Bool.eq_iff_iff]; simp <;> omega)
end Go.Proofs.YtcljokdiblnhiaaGreatDoor
end
section
namespace Go.Proofs.YtcljokdiblnhiaaGreatDoor
open Go.RowKit
set_option maxHeartbeats 8000000
set_option maxRecDepth 100000
def rs38 : List (List Nat) := [[1, 1], [1, 2]]
theorem ok_rs38 : CodeOk 8 2 rs38 := by
  obtain ⟨m, d, ps, e1, e2, e3, h⟩ := ok_valid (M := 8) (D := 2) (par := [[1, 1], [1, 2]]) (by kernel_rfl)
  obtain rfl : m = 8 := by omega
  obtain rfl : d = 2 := by omega
  have : ps = rs38 := by
    have h2 := congrArg (fun p => p.map fun r => r.map Int.toNat) e3
    rw [toZ_back] at h2
    exact h2.symm
  rwa [this] at h
def in38 : List Bool := [true, true, false, true, true, true]
theorem v38_1 : planH (plCx 8 2 rs38 6 2 12 2 1 1 1 0 [] [1, 2, 1, 1] in38) [1, 2, 1, 1] 4 = [(1, 0, 1, 0, [(0, 1), (2, 1)])] := by kernel_rfl
theorem v38_2 : doneN (plcI 6 2 12 2 1 1 1 4 0) [] 1 0 1 0 = [(1, 0, 1, 0)] := by kernel_rfl
theorem v38_3 : seatsN (plcI 6 2 12 2 1 1 1 4 0) [(1, 0, 1, 0)] 1 0 = [1, 0, 3, 4] := by kernel_rfl
theorem v38_4 : spareN (sprI 6 2 12 2 1 1 1 4) [(1, 0, 1, 0)] in38 1 = [5] := by kernel_rfl
theorem v38_5 : plcI 6 2 12 2 1 1 1 4 0 = [1, 2, 3, 4] := by kernel_rfl
theorem cdF_avle {nm : List Nat} {M D dom : Int} {par : List (List Int)} : AVle (cdF nm M D par dom) (cdA M D par) := fun _ _ _ _ _ h => cdF_le h
theorem seatN_filter (mv : List Se) (a g h : Int) (u : Nat) : seatN mv a g h u = match mv.filter (atB a g u) with | [] => h | x :: _ => x.2.2.2 := by
  unfold seatN
  by_cases h0 : 0 ≤ idxA (atB a g u) mv
  · obtain ⟨j, hj, e⟩ := idxA_ge0 h0
    obtain ⟨_, h1, h2⟩ := idxA_iff.1 e
    rw [if_pos h0, e, Int.toNat_natCast, List.getD_eq_getElem?_getD, List.getElem?_eq_getElem hj, Option.getD_some]
    have h3 : mv.filter (atB a g u) = mv[j] :: (mv.drop (j + 1)).filter (atB a g u) := by
      conv => lhs; rw [← List.take_append_drop j mv, List.filter_append, List.drop_eq_getElem_cons hj]
      have h4 : (mv.take j).filter (atB a g u) = [] := by
        rw [List.filter_eq_nil_iff]
        intro x hx
        obtain ⟨q, hq, rfl⟩ := List.getElem_of_mem hx
        rw [List.length_take] at hq
        rw [List.getElem_take, h2 q (by omega)]; decide
      rw [h4, List.nil_append, List.filter_cons_of_pos h1]
    rw [h3]
  · rw [if_neg h0]
    have h3 : mv.filter (atB a g u) = [] := by
      rw [List.filter_eq_nil_iff]
      intro x hx
      rw [idxA_neg.1 h0 x hx]; decide
    rw [h3]
abbrev inC (d r n s l i M D : Int) (par : List (List Int)) (a g : Int) (mv : List Se) (st : List Int) (inn : List Bool) : List AV := [iV d, iV r, iV n, iV s, iV l, iV i, .d .any, iV M, iV D, rowsA par, .d .any, iV a, iV g, ses mv, ints st, bools inn]
attribute [local irreducible] Quiet Eff OpOk AWPG ACont ABlock ACalls AGoto
theorem A_sanity38 : ACalls Tryz.prog 26 [] [] (bV true) [] := by
  have p1 := A_hplan (d := 6) (r := 2) (n := 12) (s := 2) (l := 1) (i := 1) (a := 1) (g := 0) (mv := []) (st := [1, 2, 1, 1]) (inn := in38) ok_rs38 (by decide) rfl (by rw [show ((2 + rs38.length : Nat) : Int) = 4 from rfl, v38_5]; simp)
  rw [show [1, 2, 1, (1 : Int)].length = 4 from rfl, v38_1] at p1
  have p1 := p1.le (args' := [cfgA 6 2 12 2 1 1, cdF [] 8 2 (toZ rs38) 0, .agg [iV 1, iV 0], .d (.v (.slice none 0 0)), ints [1, 2, 1, 1], bools in38]) fun F κ w us hs => AVleL.sat (xs := [cfgA 6 2 12 2 1 1, cdF [] 8 2 (toZ rs38) 0, .agg [iV 1, iV 0], .d (.v (.slice none 0 0)), ints [1, 2, 1, 1], bools in38]) (ys := [cfgA 6 2 12 2 1 1, cdN 8 2 rs38, .agg [iV 1, iV 0], ses [], ints [1, 2, 1, 1], bools in38]) ⟨AVle.refl _, by rw [cdN_A]; exact cdF_avle, AVle.refl _, AVle.nil 4, AVle.refl _, AVle.refl _, trivial⟩ F _ κ w us hs
  have p2 := A_hplan_bad (d := 6) (r := 2) (n := 12) (s := 2) (l := 1) (i := 1) (a := 1) (g := 0) (M := 8) (D := 2) (par := toZ rs38) (mv := []) (st := [1, 2, 1]) (inn := in38) (code_in ok_rs38) (fun h => by have := h.2.2; revert this; decide)
  have p2 := p2.le (args' := [cfgA 6 2 12 2 1 1, cdF [] 8 2 (toZ rs38) 0, .agg [iV 1, iV 0], .d (.v (.slice none 0 0)), ints [1, 2, 1], bools in38]) fun F κ w us hs => AVleL.sat (xs := [cfgA 6 2 12 2 1 1, cdF [] 8 2 (toZ rs38) 0, .agg [iV 1, iV 0], .d (.v (.slice none 0 0)), ints [1, 2, 1], bools in38]) (ys := [cfgA 6 2 12 2 1 1, cdA 8 2 (toZ rs38), .agg [iV 1, iV 0], ses [], ints [1, 2, 1], bools in38]) ⟨AVle.refl _, cdF_avle, AVle.refl _, AVle.nil 4, AVle.refl _, AVle.refl _, trivial⟩ F _ κ w us hs
  have p3 := A_done (d := 6) (r := 2) (n := 12) (s := 2) (l := 1) (i := 1) (wd := 4) (a := 1) (g := 0) (u := 1) (dk := 0) (mv := []) (by decide)
  rw [v38_2] at p3
  have p3 := p3.le (args' := [cfgA 6 2 12 2 1 1, iV 4, .d (.v (.slice none 0 0)), .agg [iV 1, iV 0, iV 1], iV 0]) fun F κ w us hs => AVleL.sat (xs := [cfgA 6 2 12 2 1 1, iV 4, .d (.v (.slice none 0 0)), .agg [iV 1, iV 0, iV 1], iV 0]) (ys := [cfgA 6 2 12 2 1 1, iV 4, ses [], .agg [iV 1, iV 0, iV 1], iV 0]) ⟨AVle.refl _, AVle.refl _, AVle.nil 4, AVle.refl _, AVle.refl _, trivial⟩ F _ κ w us hs
  have p4 := A_seats (d := 6) (r := 2) (n := 12) (s := 2) (l := 1) (i := 1) (wd := 4) (a := 1) (g := 0) (mv := [(1, 0, 1, 0)]) (by decide)
  rw [v38_3] at p4
  have p5 := A_spare (d := 6) (r := 2) (n := 12) (s := 2) (l := 1) (i := 1) (wd := 4) (row := 1) (mv := [(1, 0, 1, 0)]) (inn := in38) (by decide)
  rw [v38_4] at p5
  refine acalls_of_body Tryz.func26 rfl (Nat.le_of_ble_eq_true rfl) ?_
  (repeat' (first
  | (apply yFb; exact rfl; exact rfl)
  | (apply W.qd; (first
    | (apply (yW (p1)); exact rfl; exact rfl; (iterate 3 kernel_rfl))|(apply (yW (p2)); exact rfl; exact rfl; (iterate 3 kernel_rfl))|(apply (yW (p3)); exact rfl; exact rfl; (iterate 3 kernel_rfl))|(apply (yW (p4)); exact rfl; exact rfl; (iterate 3 kernel_rfl))|(apply (yW (p5)); exact rfl; exact rfl; (iterate 3 kernel_rfl))|(apply q_mv; (conv => lhs; whnf))|(apply q_as; (conv => lhs; whnf))|(apply yU; (iterate 4 exact rfl))|(apply q_eql; exact rfl; exact rfl)|(apply yAb; exact rfl; exact rfl)|(apply yV; exact rfl; exact rfl)|(apply yX; (iterate 3 exact rfl); (first | omega | (focus (simp; done))))|(apply q_fld_fptF; (iterate 3 exact rfl))|(apply yZ; exact rfl; exact rfl; kernel_rfl)|(apply q_litF; (iterate 5 exact rfl); kernel_rfl; kernel_rfl; exact rfl)|(apply yGb; (iterate 4 exact rfl); (first | (with_reducible exact rfl) | exact natI_spec rfl | assumption | exact (Int.toNat_of_nonneg (by omega)).symm); (first | omega | (focus (simp only [List.length_map]; omega)) | (focus (simp; done)) | (focus (simp; omega))))
    | (apply (yEb (u := .d _)); exact rfl; exact rfl)))|(apply W.ed; (apply yCb; (iterate 3 exact rfl); kernel_rfl))|(apply W.ln; (apply l_st_box; (iterate 6 exact rfl); (iterate 3 kernel_rfl)))|(apply yA)|(apply yB)|(apply yC; kernel_rfl)|(apply yE)
  | (apply yJ)))
  all_goals exact Ends.b rfl rfl
end Go.Proofs.YtcljokdiblnhiaaGreatDoor
end
section
namespace Go.Proofs.YtcljokdiblnhiaaGreatDoor
open Go.RowKit
theorem any_le38 {v : Value} (h : v.oneCell' = true) : AVle (.d (.v v)) (.d .any) := fun F own κ w u hs => by
  rw [sat_v] at hs
  rw [AV.sat, Dat.sat, hs]; exact h
abbrev xinF (d r n s l i : Int) (nm : List Nat) (M D : Int) (par : List (List Int)) (dom a g : Int) (mv : List Se) (st : List Int) (inn : List Bool) : AV := .agg [iV d, iV r, iV n, iV s, iV l, iV i, bS nm, iV M, iV D, rowsA par, iV dom, iV a, iV g, ses mv, ints st, bools inn]
theorem inF_le {d r n s l i : Int} {nm : List Nat} {M D : Int} {par : List (List Int)} {dom a g : Int} {mv : List Se} {st : List Int} {inn : List Bool} : AVle (xinF d r n s l i nm M D par dom a g mv st inn) (.agg (inC d r n s l i M D par a g mv st inn)) :=
  AVle.agg ⟨AVle.refl _, AVle.refl _, AVle.refl _, AVle.refl _, AVle.refl _, AVle.refl _, any_le38 rfl, AVle.refl _, AVle.refl _, AVle.refl _, any_le38 rfl, AVle.refl _, AVle.refl _, AVle.refl _, AVle.refl _, AVle.refl _, trivial⟩
end Go.Proofs.YtcljokdiblnhiaaGreatDoor
end
section
namespace Go.Proofs.YtcljokdiblnhiaaGreatDoor
open Go.RowKit
set_option maxHeartbeats 8000000
set_option maxRecDepth 100000
theorem psTo_len2 (c : PlCx) (rs : List Int) (k : Nat) : (psTo c rs k).2.length ≤ k := (psTo_len c rs k).2
attribute [local irreducible] Quiet Eff OpOk AWPG ACont ABlock ACalls AGoto
end Go.Proofs.YtcljokdiblnhiaaGreatDoor
end
section
namespace Go.Proofs.YtcljokdiblnhiaaGreatDoor
open Go.RowKit
set_option maxHeartbeats 4000000
theorem lin_inj (a x d p q : Nat) (hg : Nat.gcd a d = 1) (hp : p < d) (hq : q < d) (h : (a * p + x) % d = (a * q + x) % d) : p = q := by
  have key : ∀ p q, p < d → q ≤ p → (a * p + x) % d = (a * q + x) % d → p = q := by
    intro p q hp hqp h
    have h1 := Nat.sub_mod_eq_zero_of_mod_eq h
    have h2 : a * p + x - (a * q + x) = a * (p - q) := by rw [Nat.mul_sub]; omega
    rw [h2] at h1
    have h3 : d ∣ a * (p - q) := Nat.dvd_of_mod_eq_zero h1
    have h4 : d ∣ p - q := (Nat.Coprime.symm hg).dvd_of_dvd_mul_left h3
    rcases Nat.eq_zero_or_pos (p - q) with h5 | h5
    · omega
    · have := Nat.le_of_dvd h5 h4; omega
  rcases Nat.le_total q p with hle | hle
  · exact key p q hp hle h
  · exact (key q p hq hle h.symm).symm
theorem ord_nodup (D R X : Nat) (hD : 1 ≤ D) (hR : 1 ≤ R) : (I (ord D R X)).Nodup := by
  have hm := muls_mem D R _ hD hR (mulAt_mem D R X hD hR)
  have h1 : (ord D R X).Nodup := by
    unfold ord
    rw [List.Nodup, List.pairwise_map]
    have h0 := List.nodup_range (n := D)
    rw [List.Nodup] at h0
    refine List.Pairwise.imp_of_mem (fun {p q} hp hq hne he => hne (lin_inj _ _ _ _ _ hm.2.2.1 (List.mem_range.1 hp) (List.mem_range.1 hq) he)) h0
  unfold I
  rw [List.Nodup, List.pairwise_map]
  exact h1.imp fun h e => h (by omega)
theorem ordI_nodup (d r n s l i a : Int) : (ordI d r n s l i a).Nodup := by
  unfold ordI
  split
  · rename_i h
    obtain ⟨D, R, rfl, rfl, h1, h2, h3, h4⟩ := h.1.nat2
    rw [Int.toNat_natCast, Int.toNat_natCast]
    exact ord_nodup D R _ h1 h3
  · simp
theorem nodup_ne {l : List Int} (h : l.Nodup) {p q : Nat} (hp : p < l.length) (hq : q < l.length) (hpq : p ≠ q) : l[p] ≠ l[q] := by
  have h1 := List.pairwise_iff_getElem.1 h
  rcases Nat.lt_or_gt_of_ne hpq with h2 | h2
  · exact h1 p q hp hq h2
  · exact fun e => h1 q p hq hp h2 e.symm
theorem plc_ne {d r n s l i a w g : Int} {p q : Nat} (hp : p < (plcI d r n s l i a w g).length) (hq : q < (plcI d r n s l i a w g).length) (hpq : p ≠ q) : (plcI d r n s l i a w g)[p] ≠ (plcI d r n s l i a w g)[q] := by
  refine nodup_ne ?_ hp hq hpq
  unfold plcI
  split
  · exact ((List.take_sublist _ _).trans (List.drop_sublist _ _)).nodup (ordI_nodup _ _ _ _ _ _ _)
  · simp
theorem plc_spare {d r n s l i a w g y : Int} {p : Nat} (hp : p < (plcI d r n s l i a w g).length) (hy : y ∈ sprI d r n s l i a w) : (plcI d r n s l i a w g)[p] ≠ y := by
  have hne : plcI d r n s l i a w g ≠ [] := fun e => by rw [e] at hp; simp at hp
  obtain ⟨hok, hrow, hg, hlen⟩ := plc_ok hne
  obtain ⟨b1, b2, b3, b4, b5⟩ := hok.bd
  obtain ⟨g1, g2, g3⟩ := grpI_bd hok
  have hnd := ordI_nodup d r n s l i a
  have hpe : (plcI d r n s l i a w g)[p]? = (ordI d r n s l i a)[(g * w).toNat + p]? := by
    unfold plcI
    rw [if_pos hg, List.getElem?_take, if_pos (by omega), List.getElem?_drop]
  rw [List.getElem?_eq_getElem hp] at hpe
  obtain ⟨hp2, hpe2⟩ := List.getElem?_eq_some_iff.1 hpe.symm
  unfold sprI at hy
  rw [if_pos hok] at hy
  obtain ⟨q, hq, rfl⟩ := List.getElem_of_mem hy
  rw [List.length_drop] at hq
  rw [List.getElem_drop, ← hpe2]
  have h7 : (g + 1) * w ≤ grpI d r n s l i w * w := Int.mul_le_mul_of_nonneg_right (by omega) (by omega)
  have h8 : 0 ≤ g * w := Int.mul_nonneg hg.1 (by omega)
  rw [Int.add_mul, Int.one_mul] at h7
  exact nodup_ne hnd _ _ (by omega)
theorem pick_mem {f : Int → Nat} {l : List Int} (h : 0 ≤ pick38 f l) : pick38 f l ∈ l := by
  cases l with
  | nil =>
    have e : pick38 f [] = -1 := rfl
    rw [e] at h; omega
  | cons x l => exact minF_mem f l x
theorem tgt_src {inn : List Bool} {sp : List Int} {r : Int} {rs : List Int} {out : List Rb} {se ho : Int} (hsp : ∀ y ∈ sp, srvB inn y = true) (h : 0 ≤ tgtN38 inn sp r rs out se ho) :
    srvB inn (tgtN38 inn sp r rs out se ho) = true ∧ (tgtN38 inn sp r rs out se ho = se ∨ tgtN38 inn sp r rs out se ho = ho ∨ (tgtN38 inn sp r rs out se ho ∈ sp ∧ leftB out (tgtN38 inn sp r rs out se ho) = true)) := by
  unfold tgtN38 at *
  split
  · rename_i h1; exact ⟨h1, .inl rfl⟩
  · rename_i h1
    rw [if_neg h1] at h
    split
    · rename_i h2; exact ⟨h2, .inr (.inl rfl)⟩
    · rename_i h2
      rw [if_neg h2] at h
      have h3 := List.mem_filter.1 (pick_mem h)
      exact ⟨hsp _ h3.1, .inr (.inr h3)⟩
structure FreeC (c : PlCx) (w : Nat) : Prop where
  sp : ∀ y ∈ c.sp, srvB c.inn y = true
  se : ∀ u v, u < w → v < w → u ≠ v → c.se.getD u 0 ≠ c.ho.getD v 0 ∧ c.se.getD u 0 ≠ c.se.getD v 0
  ho : ∀ u v, u < w → v < w → u ≠ v → c.ho.getD u 0 ≠ c.ho.getD v 0
  sd : ∀ u, u < w → ∀ y ∈ c.sp, c.se.getD u 0 ≠ y ∧ c.ho.getD u 0 ≠ y
def SrcD (c : PlCx) (j : Nat) (t : Int) : Prop := t = c.se.getD j 0 ∨ t = c.ho.getD j 0 ∨ t ∈ c.sp
structure RbOk (c : PlCx) (k : Nat) (x : Rb) : Prop where
  a : x.1 = c.a
  g : x.2.1 = c.g
  u : ∃ j, j < k ∧ c.hv.getD j false = false ∧ x.2.2.1 = (j : Int) ∧ SrcD c j x.2.2.2.1
  s : srvB c.inn x.2.2.2.1 = true
theorem psTo_free {c : PlCx} {w : Nat} (hc : FreeC c w) (rs : List Int) : ∀ k, k ≤ w → (∀ x ∈ (psTo c rs k).2, RbOk c k x) ∧ (psTo c rs k).2.Pairwise fun x y => x.2.2.1 < y.2.2.1 ∧ x.2.2.2.1 ≠ y.2.2.2.1
  | 0, _ => by simp [psTo]
  | k + 1, hk => by
    obtain ⟨ih1, ih2⟩ := psTo_free hc rs k (by omega)
    have up : ∀ x, RbOk c k x → RbOk c (k + 1) x := fun x h => ⟨h.a, h.g, by obtain ⟨j, h1, h2⟩ := h.u; exact ⟨j, by omega, h2⟩, h.s⟩
    rw [psTo_succ]
    unfold psStep
    split
    · exact ⟨fun x hx => up x (ih1 x hx), ih2⟩
    · rename_i hh
      split
      · exact ⟨fun x hx => up x (ih1 x hx), ih2⟩
      · rename_i tl hp
        split
        · rename_i ht
          dsimp only
          obtain ⟨h1, h2⟩ := tgt_src hc.sp (r := c.r) (rs := (psTo c rs k).1) (out := (psTo c rs k).2) (se := c.se.getD k 0) (ho := c.ho.getD k 0) ht
          change srvB c.inn (c.tgt (psTo c rs k) k) = true at h1
          change c.tgt (psTo c rs k) k = _ ∨ c.tgt (psTo c rs k) k = _ ∨ (c.tgt (psTo c rs k) k ∈ _ ∧ leftB (psTo c rs k).2 (c.tgt (psTo c rs k) k) = true) at h2
          generalize c.tgt (psTo c rs k) k = t at *
          generalize (psTo c rs k).2 = out at *
          refine ⟨fun x hx => ?_, ?_⟩
          · rcases List.mem_append.1 hx with h | h
            · exact up x (ih1 x h)
            · rw [List.mem_singleton] at h
              subst h
              refine ⟨rfl, rfl, ⟨k, by omega, by simpa using hh, rfl, ?_⟩, h1⟩
              rcases h2 with h3 | h3 | h3
              · exact .inl h3
              · exact .inr (.inl h3)
              · exact .inr (.inr h3.1)
          · rw [List.pairwise_append]
            refine ⟨ih2, List.pairwise_singleton _ _, fun x hx y hy => ?_⟩
            rw [List.mem_singleton] at hy
            subst hy
            dsimp only
            obtain ⟨j, hj, _, hxj, hsrc⟩ := (ih1 x hx).u
            refine ⟨by omega, fun e => ?_⟩
            have hjk : j ≠ k := by omega
            unfold SrcD at hsrc
            rcases h2 with h3 | h3 | h3
            · rcases hsrc with h4 | h4 | h4
              · exact (hc.se j k (by omega) (by omega) hjk).2 (by rw [← h4, e, h3])
              · exact (hc.se k j (by omega) (by omega) (Ne.symm hjk)).1 (by rw [← h3, ← e, h4])
              · exact (hc.sd k (by omega) _ h4).1 (by rw [← h3, ← e])
            · rcases hsrc with h4 | h4 | h4
              · exact (hc.se j k (by omega) (by omega) hjk).1 (by rw [← h4, e, h3])
              · exact hc.ho j k (by omega) (by omega) hjk (by rw [← h4, e, h3])
              · exact (hc.sd k (by omega) _ h4).2 (by rw [← h3, ← e])
            · have h5 := h3.2
              unfold leftB at h5
              rw [Bool.not_eq_true', decide_eq_false_iff_not] at h5
              have h6 := idxA_neg.1 h5 x hx
              unfold onDisk at h6
              rw [decide_eq_false_iff_not] at h6
              exact h6 e
        · exact ⟨fun x hx => up x (ih1 x hx), ih2⟩
theorem rb_good {c : PlCx} {w k : Nat} (hc : FreeC c w) (hk : k ≤ w) {x : Rb} (h : RbOk c k x) {v : Nat} (hv : v < w) (hg : c.hv.getD v false = true) : c.se.getD v 0 ≠ x.2.2.2.1 := by
  obtain ⟨j, hj, hb, _, hsrc⟩ := h.u
  have hvj : v ≠ j := fun e => by rw [e, hb] at hg; cases hg
  unfold SrcD at hsrc
  rcases hsrc with h4 | h4 | h4
  · rw [h4]; exact (hc.se v j hv (by omega) hvj).2
  · rw [h4]; exact (hc.se v j hv (by omega) hvj).1
  · exact (hc.sd v hv _ h4).1
theorem seat_spare {d r n s l i a w g y : Int} {mv : List Se} {inn : List Bool} {u : Nat} (hu : u < (plcI d r n s l i a w g).length) (hy : y ∈ spareN (sprI d r n s l i a w) mv inn a) : (seatsN (plcI d r n s l i a w g) mv a g).getD u 0 ≠ y := by
  unfold spareN at hy
  obtain ⟨h1, h2⟩ := List.mem_filter.1 hy
  rw [List.getD_eq_getElem?_getD, List.getElem?_eq_getElem (by rw [seatsN_len]; exact hu), Option.getD_some, seatsN_get hu]
  unfold seatN
  split
  · rename_i h0
    obtain ⟨j, hj, e⟩ := idxA_ge0 h0
    obtain ⟨_, h3, _⟩ := idxA_iff.1 e
    rw [e, Int.toNat_natCast, List.getD_eq_getElem?_getD, List.getElem?_eq_getElem hj, Option.getD_some]
    intro e2
    unfold freeB at h2
    rw [Bool.and_eq_true, Bool.not_eq_true', decide_eq_false_iff_not] at h2
    have h4 := idxA_neg.1 h2.2 _ (List.getElem_mem hj)
    unfold atDisk at h4
    unfold atB at h3
    simp only [Bool.and_eq_true, decide_eq_true_eq] at h3
    rw [e2, h3.1] at h4
    simp at h4
  · exact plc_spare hu h1
theorem free_ok {M D : Nat} {ps : List (List Nat)} {d r n s l i a g : Int} {mv : List Se} {st : List Int} {inn : List Bool} (hne : plcI d r n s l i a (D + ps.length : Nat) g ≠ []) (hc : ∀ u v, u < D + ps.length → v < D + ps.length → u ≠ v → (seatsN (plcI d r n s l i a (D + ps.length : Nat) g) mv a g).getD u 0 ≠ (plcI d r n s l i a (D + ps.length : Nat) g).getD v 0 ∧ (seatsN (plcI d r n s l i a (D + ps.length : Nat) g) mv a g).getD u 0 ≠ (seatsN (plcI d r n s l i a (D + ps.length : Nat) g) mv a g).getD v 0) : FreeC (plCx M D ps d r n s l i a g mv st inn) (D + ps.length) := by
  obtain ⟨hok, hrow, hg, hlen⟩ := plc_ok hne
  have hl : (plcI d r n s l i a (D + ps.length : Nat) g).length = D + ps.length := by omega
  refine ⟨fun y hy => ?_, hc, fun u v hu hv huv => ?_, fun u hu y hy => ⟨seat_spare (by omega) hy, ?_⟩⟩
  · change y ∈ spareN _ mv inn a at hy
    unfold spareN at hy
    have := (List.mem_filter.1 hy).2
    unfold freeB at this
    rw [Bool.and_eq_true] at this
    exact this.1
  · show (plcI d r n s l i a (D + ps.length : Nat) g).getD u 0 ≠ (plcI d r n s l i a (D + ps.length : Nat) g).getD v 0
    rw [List.getD_eq_getElem?_getD, List.getElem?_eq_getElem (by omega), Option.getD_some, List.getD_eq_getElem?_getD, List.getElem?_eq_getElem (by omega), Option.getD_some]
    exact plc_ne _ _ huv
  · show (plcI d r n s l i a (D + ps.length : Nat) g).getD u 0 ≠ y
    rw [List.getD_eq_getElem?_getD, List.getElem?_eq_getElem (by omega), Option.getD_some]
    change y ∈ spareN _ mv inn a at hy
    unfold spareN at hy
    exact plc_spare _ (List.mem_filter.1 hy).1
end Go.Proofs.YtcljokdiblnhiaaGreatDoor
end
section
namespace Go.Proofs.YtcljokdiblnhiaaGreatDoor
open Go.RowKit
set_option maxHeartbeats 8000000
set_option maxRecDepth 100000
theorem seatsN_nil (L : List Int) (a g : Int) : seatsN L [] a g = L := by
  apply List.ext_getElem
  · rw [seatsN_len]
  · intro u h1 h2
    rw [seatsN_get h2, seatN_filter]; rfl
theorem fi_stT : fldsT Tryz.prog 33 = some [.i 0, .i 1] := by kernel_rfl
attribute [local irreducible] Quiet Eff OpOk AWPG ACont ABlock ACalls AGoto
theorem A_lserves38 {d r n s l i M D a g dk : Int} {par : List (List Int)} {mv : List Se} {st : List Int} {inn : List Bool} : ACalls Tryz.prog 34 [.agg (inC d r n s l i M D par a g mv st inn), iV dk] [] (bV (srvB inn dk)) [] := by
  refine acalls_of_body Tryz.func34 rfl (Nat.le_of_ble_eq_true rfl) ?_
  have hm : (inn.map tD).length = inn.length := List.length_map _
  unfold srvB
  by_cases h : 0 ≤ dk ∧ dk < (inn.length : Int)
  · obtain ⟨K, rfl⟩ := Int.eq_ofNat_of_zero_le h.1
    have hd : K < inn.length := by omega
    have e : inn.getD K false = inn[K] := by rw [List.getD_eq_getElem?_getD, List.getElem?_eq_getElem hd]; rfl
    rw [decide_eq_true h.1, decide_eq_true h.2, Int.toNat_natCast, e, Bool.true_and, Bool.true_and]
    generalize hq : inn[K] = b at *
    (repeat' (first
  | (apply yFb; exact rfl; exact rfl)
  | (apply W.qd; (first
    | (apply q_mv; (conv => lhs; whnf))|(apply q_as; (conv => lhs; whnf))|(apply yS; (iterate 3 exact rfl))|(apply yT; (iterate 4 exact rfl))|(apply q_lss; exact rfl; exact rfl)|(apply q_geq; exact rfl; exact rfl)|(apply yV; exact rfl; exact rfl)|(apply yX; (iterate 3 exact rfl); (first | omega | (focus (simp; done))))|(apply yGb; (iterate 4 exact rfl); (first | (with_reducible exact rfl) | exact natI_spec rfl | assumption | exact (Int.toNat_of_nonneg (by omega)).symm); (first | omega | (focus (simp only [List.length_map]; omega)) | (focus (simp; done)) | (focus (simp; omega))))
    | (apply (yEb (u := .d _)); exact rfl; exact rfl)))|(apply W.ed; (apply yBb; (iterate 3 exact rfl); kernel_rfl; kernel_rfl))|(apply yA)|(apply yB)|(apply yC; kernel_rfl)|(apply yE)|(apply yJ)
  | (refine W.gT _ _ rfl rfl (fun hb => ?_) (fun hb => ?_) <;> ((try simp only [hb, zA, zB]) <;> (try simp only [zC, zD, zE, zF, zG, zH, zI, zJ] at hb) <;> (try (exfalso; omega))))))
    all_goals first | (exfalso; omega) | exact Ends.b rfl rfl | (refine Ends.b rfl ?_; rw [← hq])
  · have hx : (decide (0 ≤ dk) && (decide (dk < (inn.length : Int)) && inn.getD dk.toNat false)) = false := by
      rcases Int.lt_or_le dk 0 with h1 | h1
      · rw [decide_eq_false (by omega), Bool.false_and]
      · rw [decide_eq_false (show ¬ dk < (inn.length : Int) from fun h2 => h ⟨h1, h2⟩), Bool.false_and, Bool.and_false]
    rw [hx]
    (repeat' (first
  | (apply yFb; exact rfl; exact rfl)
  | (apply W.qd; (first
    | (apply q_mv; (conv => lhs; whnf))|(apply q_as; (conv => lhs; whnf))|(apply yS; (iterate 3 exact rfl))|(apply yT; (iterate 4 exact rfl))|(apply q_lss; exact rfl; exact rfl)|(apply q_geq; exact rfl; exact rfl)|(apply yV; exact rfl; exact rfl)|(apply (yEb (u := .d _)); exact rfl; exact rfl)
    | (apply (yDb (u := .d _)); exact rfl; exact rfl)))|(apply W.ed; (apply yBb; (iterate 3 exact rfl); kernel_rfl; kernel_rfl))|(refine W.gOff _ _ rfl rfl (by intro h; cases h) ?_)|(apply yA)|(apply yB)|(apply yC; kernel_rfl)|(apply yE)|(apply yJ)
  | (refine W.gT _ _ rfl rfl (fun hb => ?_) (fun hb => ?_) <;> ((try simp only [hb, zA, zB]) <;> (try simp only [zC, zD, zE, zF, zG, zH, zI, zJ] at hb) <;> (try (exfalso; omega))))))
    all_goals first | (exfalso; omega) | exact Ends.b rfl rfl
theorem A_seatsNil {d r n s l i wd a g : Int} : ACalls Tryz.prog 32 [cfgA d r n s l i, iV wd, .agg [iV a, iV g], .d (.v (.slice none 0 0))] [] (ints (plcI d r n s l i a wd g)) [] := by
  have h := A_seats (d := d) (r := r) (n := n) (s := s) (l := l) (i := i) (wd := wd) (a := a) (g := g) (mv := []) (by decide)
  rw [seatsN_nil] at h
  exact h.le fun F κ w us hs => AVleL.sat (xs := [cfgA d r n s l i, iV wd, .agg [iV a, iV g], .d (.v (.slice none 0 0))]) (ys := [cfgA d r n s l i, iV wd, .agg [iV a, iV g], ses []]) ⟨AVle.refl _, AVle.refl _, AVle.refl _, AVle.nil 4, trivial⟩ F _ κ w us hs
theorem A_healFree {d r n s l i M D a g : Int} {par : List (List Int)} {mv : List Se} {st : List Int} {inn : List Bool} (hp : CodeIn par) (hmv : mv.length ≤ 9223372036854775807) : ACalls Tryz.prog 7 [.agg (inC d r n s l i M D par a g mv st inn)] [] (bV true) [] := by
  have hsa := A_sanity38
  have hsm := A_small38 (d := d) (r := r) (n := n) (s := s) (l := l) (i := i) (M := M) (D := D) (par := par) (mv := mv)
  have hmi : (inn.map tD).length = inn.length := List.length_map _
  refine acalls_of_body Tryz.func7 rfl (Nat.le_of_ble_eq_true rfl) ?_
  by_cases hg0 : smallH d D par mv = true ∧ inn.length ≤ 40
  case neg =>
    cases h1 : smallH d D par mv with
    | false =>
      rw [h1] at hsm
      (repeat' (first
  | (apply W.qd; (first
    | (apply (yW (hsa)); exact rfl; exact rfl; (iterate 3 kernel_rfl))|(apply (yW (hsm)); exact rfl; exact rfl; (iterate 3 kernel_rfl))|(apply q_mv; (conv => lhs; whnf))|(apply q_as; (conv => lhs; whnf))|(apply yS; (iterate 3 exact rfl))|(apply yT; (iterate 4 exact rfl))|(apply yU; (iterate 4 exact rfl))|(apply q_not; exact rfl)
    | (apply (yEb (u := .d _)); exact rfl; exact rfl)))|(apply W.ed; (apply yBb; (iterate 3 exact rfl); kernel_rfl; kernel_rfl))|(refine W.gOff _ _ rfl rfl (by intro h; cases h) ?_)|(apply yA)|(apply yB)|(apply yC; kernel_rfl)|(apply yE)|(apply yJ)|(apply yP)
  | (apply yQ; exact rfl)))
      all_goals exact Ends.b rfl rfl
    | true =>
      rw [h1] at hsm
      have h3 : ¬ inn.length ≤ 40 := fun h3 => hg0 ⟨h1, h3⟩
      (repeat' (first
  | (apply yFb; exact rfl; exact rfl)
  | (apply W.qd; (first
    | (apply (yW (hsa)); exact rfl; exact rfl; (iterate 3 kernel_rfl))|(apply (yW (hsm)); exact rfl; exact rfl; (iterate 3 kernel_rfl))|(apply q_mv; (conv => lhs; whnf))|(apply q_as; (conv => lhs; whnf))|(apply yS; (iterate 3 exact rfl))|(apply yT; (iterate 4 exact rfl))|(apply yU; (iterate 4 exact rfl))|(apply q_gtr; exact rfl; exact rfl)|(apply q_not; exact rfl)|(apply yV; exact rfl; exact rfl)
    | (apply (yDb (u := .d _)); exact rfl; exact rfl)))|(apply W.ed; (apply yBb; (iterate 3 exact rfl); kernel_rfl; kernel_rfl))|(apply yA)|(apply yB)|(apply (W.regionS 4); exact rfl; kernel_rfl)|(apply yE)|(apply yJ)|(apply yP)
  | (refine W.cond _ rfl (fun hb => ?_) (fun hb => ?_) <;> ((try simp only [hb, zA, zB]) <;> (try simp only [zC, zD, zE, zF, zG, zH, zI, zJ] at hb) <;> (try (exfalso; omega))))))
      all_goals first | (exfalso; omega) | exact Ends.b rfl rfl
  obtain ⟨h1, h3⟩ := hg0
  rw [h1] at hsm
  have hm40 : mv.length ≤ 40 := by
    unfold smallH at h1
    simp only [Bool.and_eq_true, decide_eq_true_eq] at h1
    exact h1.2.2
  by_cases hP : validC M D par = true ∧ plcI d r n s l i a (D + (par.length : Int)) g ≠ [] ∧ (st.length : Int) = D + (par.length : Int)
  case neg =>
    have hpl := A_hplan_bad (d := d) (r := r) (n := n) (s := s) (l := l) (i := i) (a := a) (g := g) (mv := mv) (st := st) (inn := inn) hp hP
    have hw := A_ewidth (M := M) (D := D) hp
    generalize (if validC M D par = true then D + (par.length : Int) else 0) = w at *
    have hs1 := A_seats (d := d) (r := r) (n := n) (s := s) (l := l) (i := i) (wd := w) (a := a) (g := g) (mv := mv) (by omega)
    have hs2 := A_seatsNil (d := d) (r := r) (n := n) (s := s) (l := l) (i := i) (wd := w) (a := a) (g := g)
    (repeat' (first
  | (apply yFb; exact rfl; exact rfl)
  | (apply W.qd; (first
    | (apply (yW (hsa)); exact rfl; exact rfl; (iterate 3 kernel_rfl))|(apply (yW (hsm)); exact rfl; exact rfl; (iterate 3 kernel_rfl))|(apply (yW (hpl)); exact rfl; exact rfl; (iterate 3 kernel_rfl))|(apply (yW (hw)); exact rfl; exact rfl; (iterate 3 kernel_rfl))|(apply (yW (hs1)); exact rfl; exact rfl; (iterate 3 kernel_rfl))|(apply (yW (hs2)); exact rfl; exact rfl; (iterate 3 kernel_rfl))|(apply q_mv; (conv => lhs; whnf))|(apply q_as; (conv => lhs; whnf))|(apply yS; (iterate 3 exact rfl))|(apply yT; (iterate 4 exact rfl))|(apply yU; (iterate 4 exact rfl))|(apply q_gtr; exact rfl; exact rfl)|(apply q_eql; exact rfl; exact rfl)|(apply q_neq; exact rfl; exact rfl)|(apply q_not; exact rfl)|(apply yAb; exact rfl; exact rfl)|(apply yV; exact rfl; exact rfl)|(apply (yEb (u := .d _)); exact rfl; exact rfl)
    | (apply (yDb (u := .d _)); exact rfl; exact rfl)))|(apply W.ed; (apply yBb; (iterate 3 exact rfl); kernel_rfl; kernel_rfl))|(apply yA)|(apply yB)|(apply (W.regionS 10); exact rfl; kernel_rfl)|(apply yE)|(apply yH)|(apply yJ)|(apply yP)|(apply yQ; exact rfl)
  | (refine W.cond _ rfl (fun hb => ?_) (fun hb => ?_) <;> ((try simp only [hb, zA, zB]) <;> (try simp only [zC, zD, zE, zF, zG, zH, zI, zJ] at hb) <;> (try (exfalso; omega))))))
    all_goals first | (exfalso; omega) | exact Ends.b rfl rfl
  obtain ⟨hV, hne, hst⟩ := hP
  obtain ⟨m, d', ps, rfl, rfl, rfl, hok⟩ := ok_valid hV
  have hpn : (toZ ps).length = ps.length := List.length_map _
  rw [hpn] at hne hst
  have hne : plcI d r n s l i a (d' + ps.length : Nat) g ≠ [] := by rw [show ((d' + ps.length : Nat) : Int) = (d' : Int) + (ps.length : Int) by omega]; exact hne
  have hst : st.length = d' + ps.length := by omega
  have hpl := A_hplan (d := d) (r := r) (n := n) (s := s) (l := l) (i := i) (a := a) (g := g) (mv := mv) (st := st) (inn := inn) hok (by omega) hst hne
  have hw := A_ewidthN hok
  rw [cdN_A] at hpl hw
  have hs1 := A_seats (d := d) (r := r) (n := n) (s := s) (l := l) (i := i) (wd := (d' + ps.length : Nat)) (a := a) (g := g) (mv := mv) (by omega)
  have hs2 := A_seatsNil (d := d) (r := r) (n := n) (s := s) (l := l) (i := i) (wd := (d' + ps.length : Nat)) (a := a) (g := g)
  have hsv := fun dk => A_lserves38 (d := d) (r := r) (n := n) (s := s) (l := l) (i := i) (M := m) (D := d') (par := toZ ps) (a := a) (g := g) (mv := mv) (st := st) (inn := inn) (dk := dk)
  have hwd := hok.w
  have hfr := fun hc => psTo_free (free_ok (M := m) (D := d') (ps := ps) (st := st) (inn := inn) (mv := mv) hne hc) (grTo st (plCx m d' ps d r n s l i a g mv st inn).se (plCx m d' ps d r n s l i a g mv st inn).d (plCx m d' ps d r n s l i a g mv st inn).r st.length) st.length (by omega)
  have hgd := fun hc (x : Rb) (hx : RbOk (plCx m d' ps d r n s l i a g mv st inn) st.length x) v hv => rb_good (free_ok (M := m) (D := d') (ps := ps) (st := st) (inn := inn) (mv := mv) hne hc) (by omega) hx (v := v) hv
  have hLl : (planH (plCx m d' ps d r n s l i a g mv st inn) st st.length).length ≤ st.length := psTo_len2 _ _ _
  obtain ⟨_, _, _, hpll⟩ := plc_ok hne
  have hsel := seatsN_len (plcI d r n s l i a (d' + ps.length : Nat) g) mv a g
  have e1 : (plCx m d' ps d r n s l i a g mv st inn).se = seatsN (plcI d r n s l i a (d' + ps.length : Nat) g) mv a g := rfl
  have e2 : (plCx m d' ps d r n s l i a g mv st inn).hv = goodB st := rfl
  have e3 : (plCx m d' ps d r n s l i a g mv st inn).a = a := rfl
  have e4 : (plCx m d' ps d r n s l i a g mv st inn).g = g := rfl
  have e5 : (plCx m d' ps d r n s l i a g mv st inn).inn = inn := rfl
  change ∀ _, (∀ x ∈ planH (plCx m d' ps d r n s l i a g mv st inn) st st.length, _) ∧ (planH (plCx m d' ps d r n s l i a g mv st inn) st st.length).Pairwise _ at hfr
  generalize planH (plCx m d' ps d r n s l i a g mv st inn) st st.length = L at *
  generalize plCx m d' ps d r n s l i a g mv st inn = cx at *
  generalize seatsN (plcI d r n s l i a (d' + ps.length : Nat) g) mv a g = se at *
  generalize plcI d r n s l i a (d' + ps.length : Nat) g = ho at *
  generalize hwe : d' + ps.length = wN at *
  have hho : ho.length = wN := by omega
  have hse : se.length = wN := by omega
  clear hne hV hpll hsel
  have gS : ∀ u (h : u < wN), se.getD u 0 = se[u]'(by omega) := fun u h => by rw [List.getD_eq_getElem?_getD, List.getElem?_eq_getElem (by omega)]; rfl
  have gH : ∀ u (h : u < wN), ho.getD u 0 = ho[u]'(by omega) := fun u h => by rw [List.getD_eq_getElem?_getD, List.getElem?_eq_getElem (by omega)]; rfl
  have hmL : (L.map rbD).length = L.length := List.length_map _
  (repeat' (first
  | (apply yFb; exact rfl; exact rfl)
  | (apply W.qd; (first
    | (apply (yW (hsa)); exact rfl; exact rfl; (iterate 3 kernel_rfl))|(apply (yW (hsm)); exact rfl; exact rfl; (iterate 3 kernel_rfl))|(apply (yW (hpl)); exact rfl; exact rfl; (iterate 3 kernel_rfl))|(apply (yW (hw)); exact rfl; exact rfl; (iterate 3 kernel_rfl))|(apply (yW (hs1)); exact rfl; exact rfl; (iterate 3 kernel_rfl))|(apply (yW (hs2)); exact rfl; exact rfl; (iterate 3 kernel_rfl))|(apply q_mv; (conv => lhs; whnf))|(apply q_as; (conv => lhs; whnf))|(apply yS; (iterate 3 exact rfl))|(apply yT; (iterate 4 exact rfl))|(apply yU; (iterate 4 exact rfl))|(apply q_gtr; exact rfl; exact rfl)|(apply q_neq; exact rfl; exact rfl)|(apply q_not; exact rfl)|(apply yAb; exact rfl; exact rfl)|(apply yV; exact rfl; exact rfl)
    | (apply (yDb (u := .d _)); exact rfl; exact rfl)))|(apply W.ed; (apply yBb; (iterate 3 exact rfl); kernel_rfl; kernel_rfl))|(apply yA)|(apply yB)|(apply (W.regionS 11); exact rfl; kernel_rfl)|(apply yE)|(apply yG)|(apply yH)|(apply yR; exact rfl)
  | (refine W.cond _ rfl (fun hb => ?_) (fun hb => ?_) <;> ((try simp only [hb, zA, zB]) <;> (try simp only [zC, zD, zE, zF, zG, zH, zI, zJ] at hb) <;> (try (exfalso; omega))))))
  all_goals try (exfalso; omega)
  refine AWP.loopW (α := Nat) (fun u => u ≤ wN ∧ ∀ p q, p < u → q < wN → p ≠ q → se.getD p 0 ≠ ho.getD q 0 ∧ se.getD p 0 ≠ se.getD q 0) (fun u => ⟨[(9, iV u), (6, iV wN), (7, ints se), (8, ints ho), (4, rbs L), (1, .opt 0 0), (3, bV true)], [.box (inC d r n s l i m d' (toZ ps) a g mv st inn)]⟩) (fun u => wN - u) 0 ⟨Nat.zero_le _, fun p q h => by omega⟩ ⟨[0], rfl, rfl, rfl, by (repeat (first | exact trivial | refine ⟨rfl, ?_⟩))⟩ fun u hu => ?_
  by_cases hul : u < wN
  · clear hfr hgd hsv
    (repeat' (first
  | (apply W.qd; (first
    | (apply q_mv; (conv => lhs; whnf))|(apply q_as; (conv => lhs; whnf))
    | (apply q_lss; exact rfl; exact rfl)))|(apply yA)|(apply yB)|(apply (W.regionS 14); exact rfl; kernel_rfl)|(apply yE)|(apply yG)|(apply yH)
  | (refine W.cond _ rfl (fun hb => ?_) (fun hb => ?_) <;> ((try simp only [hb, zA, zB]) <;> (try simp only [zC, zD, zE, zF, zG, zH, zI, zJ] at hb) <;> (try (exfalso; omega))))))
    all_goals try (exfalso; omega)
    refine AWP.loopW (α := Nat) (fun v => v ≤ wN ∧ ∀ q, q < v → u ≠ q → se.getD u 0 ≠ ho.getD q 0 ∧ se.getD u 0 ≠ se.getD q 0) (fun v => ⟨[(10, iV v), (9, iV u), (6, iV wN), (7, ints se), (8, ints ho), (4, rbs L), (1, .opt 0 0), (3, bV true)], [.box (inC d r n s l i m d' (toZ ps) a g mv st inn)]⟩) (fun v => wN - v) 0 ⟨Nat.zero_le _, fun q h => by omega⟩ ⟨[0], rfl, rfl, rfl, by (repeat (first | exact trivial | refine ⟨rfl, ?_⟩))⟩ fun v hv => ?_
    by_cases hvl : v < wN
    · have hus : u < se.length := by omega
      have hvs : v < se.length := by omega
      have hvh : v < ho.length := by omega
      have g1 := gS u hul
      have g2 := gH v hvl
      have g3 := gS v hvl
      have hnx : (u ≠ v → se[u]'hus ≠ ho[v]'hvh ∧ se[u]'hus ≠ se[v]'hvs) → ∀ q, q < v + 1 → u ≠ q → se.getD u 0 ≠ ho.getD q 0 ∧ se.getD u 0 ≠ se.getD q 0 := fun h q hq hne => by
        by_cases e : q = v
        · subst e; rw [g1, g2, g3]; exact h hne
        · exact hv.2 q (by omega) hne
      clear hv hu gS gH g1 g2 g3
      by_cases huv : u = v
      · (repeat' (first
  | (apply W.qd; (first
    | (apply q_mv; (conv => lhs; whnf))|(apply q_as; (conv => lhs; whnf))|(apply q_lss; exact rfl; exact rfl)|(apply q_neq; exact rfl; exact rfl)|(apply q_add; exact rfl; exact rfl; omega)
    | (apply (yDb (u := .d _)); exact rfl; exact rfl)))|(refine W.gOff _ _ rfl rfl (by intro h; cases h) ?_)|(apply yA)|(apply yB)|(apply yC; kernel_rfl)|(apply yD; exact rfl; kernel_rfl)|(apply yE)|(apply yF; kernel_rfl)|(apply yG)|(apply yH)|(apply yL)|(apply yR; exact rfl)|(refine W.gT _ _ rfl rfl (fun hb => ?_) (fun hb => ?_) <;> ((try simp only [hb, zA, zB]) <;> (try simp only [zC, zD, zE, zF, zG, zH, zI, zJ] at hb) <;> (try (exfalso; omega))))
  | (refine W.cond _ rfl (fun hb => ?_) (fun hb => ?_) <;> ((try simp only [hb, zA, zB]) <;> (try simp only [zC, zD, zE, zF, zG, zH, zI, zJ] at hb) <;> (try (exfalso; omega))))))
        all_goals first
          | (exfalso; omega)
          | exact ⟨v + 1, ⟨by omega, hnx fun h => absurd huv h⟩, by omega, [0], rfl, rfl, rfl, iV_eq (by omega), rfl, rfl, rfl, rfl, rfl, rfl, rfl, trivial⟩
      · by_cases hq1 : se[u] = ho[v] ∨ se[u] = se[v]
        · (repeat' (first
  | (apply yFb; exact rfl; exact rfl)
  | (apply W.qd; (first
    | (apply q_mv; (conv => lhs; whnf))|(apply q_as; (conv => lhs; whnf))|(apply q_lss; exact rfl; exact rfl)|(apply q_eql; exact rfl; exact rfl)|(apply q_neq; exact rfl; exact rfl)|(apply yX; (iterate 3 exact rfl); (first | omega | (focus (simp; done))))|(apply yGb; (iterate 4 exact rfl); (first | (with_reducible exact rfl) | exact natI_spec rfl | assumption | exact (Int.toNat_of_nonneg (by omega)).symm); (first | omega | (focus (simp only [List.length_map]; omega)) | (focus (simp; done)) | (focus (simp; omega))))|(apply (yEb (u := .d _)); exact rfl; exact rfl)
    | (apply (yDb (u := .d _)); exact rfl; exact rfl)))|(refine W.gOff _ _ rfl rfl (by intro h; cases h) ?_)|(apply yA)|(apply yB)|(apply yC; kernel_rfl)|(apply yD; exact rfl; kernel_rfl)|(apply yE)|(apply yF; kernel_rfl)|(apply yG)|(apply yH)|(apply yJ)|(apply yP)|(apply yN)|(apply yQ; exact rfl)|(refine W.gT _ _ rfl rfl (fun hb => ?_) (fun hb => ?_) <;> ((try simp only [hb, zA, zB]) <;> (try simp only [zC, zD, zE, zF, zG, zH, zI, zJ] at hb) <;> (try (exfalso; omega))))|(refine W.gF _ _ rfl rfl (fun hb => ?_) (fun hb => ?_) <;> ((try simp only [hb, zA, zB]) <;> (try simp only [zC, zD, zE, zF, zG, zH, zI, zJ] at hb) <;> (try (exfalso; omega))))
  | (refine W.cond _ rfl (fun hb => ?_) (fun hb => ?_) <;> ((try simp only [hb, zA, zB]) <;> (try simp only [zC, zD, zE, zF, zG, zH, zI, zJ] at hb) <;> (try (exfalso; omega))))))
          all_goals first
            | (exfalso; omega)
            | exact Ends.b rfl rfl
        · have hq2 : se[u] ≠ ho[v] ∧ se[u] ≠ se[v] := ⟨fun h => hq1 (.inl h), fun h => hq1 (.inr h)⟩
          (repeat' (first
  | (apply yFb; exact rfl; exact rfl)
  | (apply W.qd; (first
    | (apply q_mv; (conv => lhs; whnf))|(apply q_as; (conv => lhs; whnf))|(apply q_lss; exact rfl; exact rfl)|(apply q_eql; exact rfl; exact rfl)|(apply q_neq; exact rfl; exact rfl)|(apply q_add; exact rfl; exact rfl; omega)|(apply yX; (iterate 3 exact rfl); (first | omega | (focus (simp; done))))|(apply yGb; (iterate 4 exact rfl); (first | (with_reducible exact rfl) | exact natI_spec rfl | assumption | exact (Int.toNat_of_nonneg (by omega)).symm); (first | omega | (focus (simp only [List.length_map]; omega)) | (focus (simp; done)) | (focus (simp; omega))))|(apply (yEb (u := .d _)); exact rfl; exact rfl)
    | (apply (yDb (u := .d _)); exact rfl; exact rfl)))|(apply yA)|(apply yB)|(apply yC; kernel_rfl)|(apply yD; exact rfl; kernel_rfl)|(apply yE)|(apply yF; kernel_rfl)|(apply yG)|(apply yH)|(apply yL)|(refine W.gT _ _ rfl rfl (fun hb => ?_) (fun hb => ?_) <;> ((try simp only [hb, zA, zB]) <;> (try simp only [zC, zD, zE, zF, zG, zH, zI, zJ] at hb) <;> (try (exfalso; omega))))|(refine W.gF _ _ rfl rfl (fun hb => ?_) (fun hb => ?_) <;> ((try simp only [hb, zA, zB]) <;> (try simp only [zC, zD, zE, zF, zG, zH, zI, zJ] at hb) <;> (try (exfalso; omega))))
  | (refine W.cond _ rfl (fun hb => ?_) (fun hb => ?_) <;> ((try simp only [hb, zA, zB]) <;> (try simp only [zC, zD, zE, zF, zG, zH, zI, zJ] at hb) <;> (try (exfalso; omega))))))
          all_goals first
            | (exfalso; omega)
            | exact ⟨v + 1, ⟨by omega, hnx fun _ => hq2⟩, by omega, [0], rfl, rfl, rfl, iV_eq (by omega), rfl, rfl, rfl, rfl, rfl, rfl, rfl, trivial⟩
    · have hnx : ∀ p q, p < u + 1 → q < wN → p ≠ q → se.getD p 0 ≠ ho.getD q 0 ∧ se.getD p 0 ≠ se.getD q 0 := fun p q hpu hq hpq => by
        by_cases e : p = u
        · subst e; exact hv.2 q (by omega) hpq
        · exact hu.2 p q (by omega) hq hpq
      clear hv hu gS gH
      (repeat' (first
  | (apply W.qd; (first
    | (apply q_mv; (conv => lhs; whnf))|(apply q_as; (conv => lhs; whnf))|(apply q_lss; exact rfl; exact rfl)
    | (apply q_add; exact rfl; exact rfl; omega)))|(apply yA)|(apply yB)|(apply yC; kernel_rfl)|(apply yE)|(apply yI)|(apply yK)|(apply yL)|(apply yM)
  | (refine W.cond _ rfl (fun hb => ?_) (fun hb => ?_) <;> ((try simp only [hb, zA, zB]) <;> (try simp only [zC, zD, zE, zF, zG, zH, zI, zJ] at hb) <;> (try (exfalso; omega))))))
      all_goals first
        | (exfalso; omega)
        | exact ⟨u + 1, ⟨by omega, hnx⟩, by omega, [0], rfl, rfl, rfl, iV_eq (by omega), rfl, rfl, rfl, rfl, rfl, rfl, trivial⟩
  have hC : ∀ p q, p < wN → q < wN → p ≠ q → se.getD p 0 ≠ ho.getD q 0 ∧ se.getD p 0 ≠ se.getD q 0 := fun p q h1 h2 h3 => hu.2 p q (by omega) h2 h3
  obtain ⟨hR1, hR2⟩ := hfr hC
  have hR3 := hgd hC
  clear hfr hgd hu gH hC
  (repeat' (first
  | (apply W.qd; (first
    | (apply q_mv; (conv => lhs; whnf))|(apply q_as; (conv => lhs; whnf))
    | (apply q_lss; exact rfl; exact rfl)))|(apply yA)|(apply yB)|(apply (W.regionS 19); exact rfl; kernel_rfl)|(apply yE)|(apply yG)|(apply yI)|(apply yK)|(apply yM)
  | (refine W.cond _ rfl (fun hb => ?_) (fun hb => ?_) <;> ((try simp only [hb, zA, zB]) <;> (try simp only [zC, zD, zE, zF, zG, zH, zI, zJ] at hb) <;> (try (exfalso; omega))))))
  all_goals try (exfalso; omega)
  refine AWP.loopW (α := Nat) (fun k => k ≤ L.length) (fun k => ⟨[(11, iV k), (6, iV wN), (7, ints se), (4, rbs L), (1, .opt 0 0), (3, bV true)], [.box (inC d r n s l i m d' (toZ ps) a g mv st inn)]⟩) (fun k => L.length - k) 0 (Nat.zero_le _) ⟨[0], rfl, rfl, rfl, by (repeat (first | exact trivial | refine ⟨rfl, ?_⟩))⟩ fun k hk => ?_
  by_cases hkl : k < L.length
  · have hx := hR1 _ (List.getElem_mem hkl)
    have hx3 := hR3 _ hx
    have hxa := hx.a
    have hxg := hx.g
    have hxs := hx.s
    obtain ⟨j, hj, hjb, hju, _⟩ := hx.u
    have hpw := fun q (hq : q < k) => (List.pairwise_iff_getElem.1 hR2) q k (by omega) hkl hq
    rw [e3] at hxa
    rw [e4] at hxg
    rw [e5] at hxs
    rw [e2] at hjb hx3
    rw [e1] at hx3
    have hjs : j < st.length := hj
    have hsj : st[j] ≠ 1 := fun e => by
      unfold goodB at hjb
      rw [List.getD_eq_getElem?_getD, List.getElem?_map, List.getElem?_eq_getElem hjs] at hjb
      simp [e] at hjb
    have hgv : ∀ v (h : v < wN), st[v]'(by omega) = 1 → se[v]'(by omega) ≠ L[k].2.2.2.1 := fun v h h5 => by
      have := hx3 v h (by
        unfold goodB
        rw [List.getD_eq_getElem?_getD, List.getElem?_map, List.getElem?_eq_getElem (by omega)]
        simp [h5])
      rwa [gS v h] at this
    have hv9 := hsv L[k].2.2.2.1
    rw [hxs] at hv9
    clear hR1 hR2 hR3 hx hx3 gS hsv hxs hjb
    (repeat' (first
  | (apply yFb; exact rfl; exact rfl)
  | (apply W.qd; (first
    | (apply (yW (hv9)); exact rfl; exact rfl; (iterate 3 kernel_rfl))
    | ((apply q_ld_mapp; (iterate 3 exact rfl); omega))
    | ((apply (q_neT fi_stT); (iterate 5 exact rfl); exact (show _ = false by simp [hxa, hxg])))|(apply q_mv; (conv => lhs; whnf))|(apply q_as; (conv => lhs; whnf))|(apply yS; (iterate 3 exact rfl))|(apply yT; (iterate 4 exact rfl))|(apply yU; (iterate 4 exact rfl))|(apply q_lss; exact rfl; exact rfl)|(apply q_eql; exact rfl; exact rfl)|(apply q_not; exact rfl)|(apply yV; exact rfl; exact rfl)|(apply yX; (iterate 3 exact rfl); (first | omega | (focus (simp; done))))|(apply q_fld_fptF; (iterate 3 exact rfl))|(apply yGb; (iterate 4 exact rfl); (first | (with_reducible exact rfl) | exact natI_spec rfl | assumption | exact (Int.toNat_of_nonneg (by omega)).symm); (first | omega | (focus (simp only [List.length_map]; omega)) | (focus (simp; done)) | (focus (simp; omega))))
    | (apply (yDb (u := .d _)); exact rfl; exact rfl)))|(apply yA)|(apply yB)|(apply (W.regionS 25); exact rfl; kernel_rfl)|(apply (W.regionDS 25); exact rfl; exact rfl; kernel_rfl)|(apply yE)|(apply yF; kernel_rfl)|(apply yG)|(apply yH)
  | (refine W.cond _ rfl (fun hb => ?_) (fun hb => ?_) <;> ((try simp only [hb, zA, zB]) <;> (try simp only [zC, zD, zE, zF, zG, zH, zI, zJ] at hb) <;> (try (exfalso; omega))))))
    all_goals try (exfalso; omega)
    refine AWP.loopW (α := Nat) (fun q => q ≤ k) (fun q => ⟨[(13, iV q), (12, iV L[k].2.2.2.1), (11, iV k), (6, iV wN), (7, ints se), (4, rbs L), (1, .opt 0 0), (3, bV true)], [.box (inC d r n s l i m d' (toZ ps) a g mv st inn)]⟩) (fun q => k - q) 0 (Nat.zero_le _) ⟨[0], rfl, rfl, rfl, by (repeat (first | exact trivial | refine ⟨rfl, ?_⟩))⟩ fun q hq => ?_
    by_cases hql : q < k
    · obtain ⟨p1, p2⟩ := hpw q hql
      have hqL : q < L.length := by omega
      clear hpw hgv
      (repeat' (first
  | (apply yFb; exact rfl; exact rfl)
  | (apply W.qd; (first
    | (apply q_mv; (conv => lhs; whnf))|(apply q_as; (conv => lhs; whnf))|(apply q_lss; exact rfl; exact rfl)|(apply q_geq; exact rfl; exact rfl)|(apply q_eql; exact rfl; exact rfl)|(apply q_add; exact rfl; exact rfl; omega)|(apply yX; (iterate 3 exact rfl); (first | omega | (focus (simp; done))))|(apply q_fld_fptF; (iterate 3 exact rfl))|(apply yGb; (iterate 4 exact rfl); (first | (with_reducible exact rfl) | exact natI_spec rfl | assumption | exact (Int.toNat_of_nonneg (by omega)).symm); (first | omega | (focus (simp only [List.length_map]; omega)) | (focus (simp; done)) | (focus (simp; omega))))
    | (apply (yDb (u := .d _)); exact rfl; exact rfl)))|(apply yA)|(apply yB)|(apply yC; kernel_rfl)|(apply yD; exact rfl; kernel_rfl)|(apply yE)|(apply yF; kernel_rfl)|(apply yG)|(apply yH)|(apply yL)|(refine W.gF _ _ rfl rfl (fun hb => ?_) (fun hb => ?_) <;> ((try simp only [hb, zA, zB]) <;> (try simp only [zC, zD, zE, zF, zG, zH, zI, zJ] at hb) <;> (try (exfalso; omega))))
  | (refine W.cond _ rfl (fun hb => ?_) (fun hb => ?_) <;> ((try simp only [hb, zA, zB]) <;> (try simp only [zC, zD, zE, zF, zG, zH, zI, zJ] at hb) <;> (try (exfalso; omega))))))
      all_goals first
        | (exfalso; omega)
        | exact ⟨q + 1, by omega, by omega, [0], rfl, rfl, rfl, iV_eq (by omega), rfl, rfl, rfl, rfl, rfl, rfl, rfl, trivial⟩
    clear hpw
    (repeat' (first
  | (apply W.qd; (first
    | (apply q_mv; (conv => lhs; whnf))|(apply q_as; (conv => lhs; whnf))
    | (apply q_lss; exact rfl; exact rfl)))|(apply yA)|(apply yB)|(apply (W.regionS 30); exact rfl; kernel_rfl)|(apply yE)|(apply yG)|(apply yI)|(apply yK)|(apply yM)
  | (refine W.cond _ rfl (fun hb => ?_) (fun hb => ?_) <;> ((try simp only [hb, zA, zB]) <;> (try simp only [zC, zD, zE, zF, zG, zH, zI, zJ] at hb) <;> (try (exfalso; omega))))))
    all_goals try (exfalso; omega)
    refine AWP.loopW (α := Nat) (fun v => v ≤ wN) (fun v => ⟨[(14, iV v), (12, iV L[k].2.2.2.1), (11, iV k), (6, iV wN), (7, ints se), (4, rbs L), (1, .opt 0 0), (3, bV true)], [.box (inC d r n s l i m d' (toZ ps) a g mv st inn)]⟩) (fun v => wN - v) 0 (Nat.zero_le _) ⟨[0], rfl, rfl, rfl, by (repeat (first | exact trivial | refine ⟨rfl, ?_⟩))⟩ fun v hv => ?_
    by_cases hvl : v < wN
    · have hvs : v < se.length := by omega
      have hvt : v < st.length := by omega
      have h5 : st[v]'hvt = 1 → se[v]'hvs ≠ L[k].2.2.2.1 := hgv v hvl
      clear hgv
      by_cases h6 : st[v]'hvt = 1
      · have h7 := h5 h6
        (repeat' (first
  | (apply yFb; exact rfl; exact rfl)
  | (apply W.qd; (first
    | (apply q_mv; (conv => lhs; whnf))|(apply q_as; (conv => lhs; whnf))|(apply yS; (iterate 3 exact rfl))|(apply yT; (iterate 4 exact rfl))|(apply q_lss; exact rfl; exact rfl)|(apply q_eql; exact rfl; exact rfl)|(apply q_add; exact rfl; exact rfl; omega)|(apply yX; (iterate 3 exact rfl); (first | omega | (focus (simp; done))))|(apply yGb; (iterate 4 exact rfl); (first | (with_reducible exact rfl) | exact natI_spec rfl | assumption | exact (Int.toNat_of_nonneg (by omega)).symm); (first | omega | (focus (simp only [List.length_map]; omega)) | (focus (simp; done)) | (focus (simp; omega))))
    | (apply (yEb (u := .d _)); exact rfl; exact rfl)))|(apply yA)|(apply yB)|(apply yC; kernel_rfl)|(apply yE)|(apply yG)|(apply yH)|(apply yL)|(refine W.gT _ _ rfl rfl (fun hb => ?_) (fun hb => ?_) <;> ((try simp only [hb, zA, zB]) <;> (try simp only [zC, zD, zE, zF, zG, zH, zI, zJ] at hb) <;> (try (exfalso; omega))))
  | (refine W.cond _ rfl (fun hb => ?_) (fun hb => ?_) <;> ((try simp only [hb, zA, zB]) <;> (try simp only [zC, zD, zE, zF, zG, zH, zI, zJ] at hb) <;> (try (exfalso; omega))))))
        all_goals first
          | (exfalso; omega)
          | exact ⟨v + 1, by omega, by omega, [0], rfl, rfl, rfl, iV_eq (by omega), rfl, rfl, rfl, rfl, rfl, rfl, rfl, trivial⟩
      · clear h5
        (repeat' (first
  | (apply W.qd; (first
    | (apply q_mv; (conv => lhs; whnf))|(apply q_as; (conv => lhs; whnf))|(apply yS; (iterate 3 exact rfl))|(apply yT; (iterate 4 exact rfl))|(apply q_lss; exact rfl; exact rfl)|(apply q_eql; exact rfl; exact rfl)|(apply q_add; exact rfl; exact rfl; omega)|(apply yX; (iterate 3 exact rfl); (first | omega | (focus (simp; done))))|(apply yGb; (iterate 4 exact rfl); (first | (with_reducible exact rfl) | exact natI_spec rfl | assumption | exact (Int.toNat_of_nonneg (by omega)).symm); (first | omega | (focus (simp only [List.length_map]; omega)) | (focus (simp; done)) | (focus (simp; omega))))
    | (apply (yDb (u := .d _)); exact rfl; exact rfl)))|(refine W.gOff _ _ rfl rfl (by intro h; cases h) ?_)|(apply yA)|(apply yB)|(apply yC; kernel_rfl)|(apply yE)|(apply yG)|(apply yH)|(apply yL)|(apply yR; exact rfl)|(refine W.gT _ _ rfl rfl (fun hb => ?_) (fun hb => ?_) <;> ((try simp only [hb, zA, zB]) <;> (try simp only [zC, zD, zE, zF, zG, zH, zI, zJ] at hb) <;> (try (exfalso; omega))))
  | (refine W.cond _ rfl (fun hb => ?_) (fun hb => ?_) <;> ((try simp only [hb, zA, zB]) <;> (try simp only [zC, zD, zE, zF, zG, zH, zI, zJ] at hb) <;> (try (exfalso; omega))))))
        all_goals first
          | (exfalso; omega)
          | exact ⟨v + 1, by omega, by omega, [0], rfl, rfl, rfl, iV_eq (by omega), rfl, rfl, rfl, rfl, rfl, rfl, rfl, trivial⟩
    · clear hgv
      (repeat' (first
  | (apply W.qd; (first
    | (apply q_mv; (conv => lhs; whnf))|(apply q_as; (conv => lhs; whnf))|(apply q_lss; exact rfl; exact rfl)
    | (apply q_add; exact rfl; exact rfl; omega)))|(apply yA)|(apply yB)|(apply yC; kernel_rfl)|(apply yE)|(apply yI)|(apply yK)|(apply yL)|(apply yM)
  | (refine W.cond _ rfl (fun hb => ?_) (fun hb => ?_) <;> ((try simp only [hb, zA, zB]) <;> (try simp only [zC, zD, zE, zF, zG, zH, zI, zJ] at hb) <;> (try (exfalso; omega))))))
      all_goals first
        | (exfalso; omega)
        | exact ⟨k + 1, by omega, by omega, [0], rfl, rfl, rfl, iV_eq (by omega), rfl, rfl, rfl, rfl, rfl, trivial⟩
  · clear hR1 hR2 hR3 gS hsv
    (repeat' (first
  | (apply W.qd; (first
    | (apply q_mv; (conv => lhs; whnf))|(apply q_as; (conv => lhs; whnf))|(apply q_lss; exact rfl; exact rfl)
    | (apply yV; exact rfl; exact rfl)))|(apply yA)|(apply yB)|(apply yC; kernel_rfl)|(apply yE)|(apply yI)|(apply yJ)|(apply yK)|(apply yM)
  | (refine W.cond _ rfl (fun hb => ?_) (fun hb => ?_) <;> ((try simp only [hb, zA, zB]) <;> (try simp only [zC, zD, zE, zF, zG, zH, zI, zJ] at hb) <;> (try (exfalso; omega))))))
    all_goals first | (exfalso; omega) | exact Ends.b rfl rfl
theorem A_healFreeF {d r n s l i M D dom a g : Int} {nm : List Nat} {par : List (List Int)} {mv : List Se} {st : List Int} {inn : List Bool} (hp : CodeIn par) (hmv : mv.length ≤ 9223372036854775807) : ACalls Tryz.prog 7 [xinF d r n s l i nm M D par dom a g mv st inn] [] (bV true) [] :=
  (A_healFree (d := d) (r := r) (n := n) (s := s) (l := l) (i := i) (M := M) (D := D) (a := a) (g := g) (mv := mv) (st := st) (inn := inn) hp hmv).le (args' := [xinF d r n s l i nm M D par dom a g mv st inn]) fun F κ w vs hs => AVleL.sat (xs := [xinF d r n s l i nm M D par dom a g mv st inn]) (ys := [.agg (inC d r n s l i M D par a g mv st inn)]) ⟨inF_le, trivial⟩ F _ κ w vs hs
end Go.Proofs.YtcljokdiblnhiaaGreatDoor
end
