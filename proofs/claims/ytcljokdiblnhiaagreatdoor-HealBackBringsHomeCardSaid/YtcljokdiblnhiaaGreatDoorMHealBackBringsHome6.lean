import Derived.Test.YtcljokdiblnhiaaGreatDoorMHealBackBringsHome5
/- Joined texts: Hl4 Hl5 Hl6 Hl7 Hl9 Hl12 Hb1 Hb2 Hb3. -/
set_option linter.unusedVariables false
set_option linter.unusedSimpArgs false
section
namespace Go.Proofs.YtcljokdiblnhiaaGreatDoor
open Go.RowKit
set_option maxHeartbeats 8000000
set_option maxRecDepth 100000
def grStep (st se : List Int) (d r : Int) (rs : List Int) (k : Nat) : List Int := if st.getD k 0 = 1 ∧ 0 ≤ se.getD k 0 ∧ se.getD k 0 < d then (se.getD k 0 % r) :: rs else rs
def grTo (st se : List Int) (d r : Int) (k : Nat) : List Int := (List.range k).foldl (grStep st se d r) []
theorem grTo_succ (st se : List Int) (d r : Int) (k : Nat) : grTo st se d r (k + 1) = grStep st se d r (grTo st se d r k) k := by
  unfold grTo; rw [List.range_succ, List.foldl_append]; rfl
theorem grTo_len (st se : List Int) (d r : Int) : ∀ k, (grTo st se d r k).length ≤ k
  | 0 => by simp [grTo]
  | k + 1 => by
    have := grTo_len st se d r k
    rw [grTo_succ]
    unfold grStep
    split
    · rw [List.length_cons]; omega
    · omega
structure PlCx where
  pl : Nat → Option (List (Nat × Nat))
  hv : List Bool
  inn : List Bool
  sp : List Int
  d : Int
  r : Int
  se : List Int
  ho : List Int
  a : Int
  g : Int
def PlCx.tgt (c : PlCx) (s : List Int × List Rb) (u : Nat) : Int := tgtN38 c.inn c.sp c.r s.1 s.2 (c.se.getD u 0) (c.ho.getD u 0)
def psStep (c : PlCx) (s : List Int × List Rb) (u : Nat) : List Int × List Rb :=
  if c.hv.getD u false = true then s else match c.pl u with
    | none => s
    | some l => if 0 ≤ c.tgt s u then (if c.tgt s u < c.d then (c.tgt s u % c.r) :: s.1 else s.1, s.2 ++ [(c.a, c.g, (u : Int), c.tgt s u, l)]) else s
def psTo (c : PlCx) (rs : List Int) (k : Nat) : List Int × List Rb := (List.range k).foldl (psStep c) (rs, [])
theorem psTo_succ (c : PlCx) (rs : List Int) (k : Nat) : psTo c rs (k + 1) = psStep c (psTo c rs k) k := by
  unfold psTo; rw [List.range_succ, List.foldl_append]; rfl
theorem psTo_len (c : PlCx) (rs : List Int) : ∀ k, (psTo c rs k).1.length ≤ rs.length + k ∧ (psTo c rs k).2.length ≤ k
  | 0 => by simp [psTo]
  | k + 1 => by
    have := psTo_len c rs k
    rw [psTo_succ]
    unfold psStep
    split
    · omega
    · split
      · omega
      · split
        · refine ⟨?_, by rw [List.length_append, List.length_singleton]; omega⟩
          dsimp only
          split
          · rw [List.length_cons]; omega
          · omega
        · omega
abbrev tgO (d r n s l i : Int) (se ho : List Int) (inn : List Bool) (sp : List Int) (rs : List Int) (ver : Nat) (out : List Rb) : List Ent :=
  [.box [ints se], .box [ints ho], .box [bools inn], .box [ints sp], .box [.osl 7 ver 0 out.length], .box [.mp 8], .box [iV d, iV r, iV n, iV s, iV l, iV i], .row ver 5 84 (out.map rbD), .mp (mpI (ksR rs))]
attribute [local irreducible] Quiet Eff OpOk AWPG ACont ABlock ACalls AGoto
theorem A_target38 {d r n s l i : Int} {se ho : List Int} {inn : List Bool} {sp rs : List Int} {ver : Nat} {out : List Rb} {u : Nat} (hr : 1 ≤ r) (hsp : ∀ y ∈ sp, 0 ≤ y) (hspl : sp.length ≤ 1000) (hol : out.length ≤ 1000) (hu1 : u < se.length) (hu2 : u < ho.length) :
    ACalls Tryz.prog 73 [iV u, .opt 0 0, .opt 1 0, .opt 2 0, .opt 3 0, .opt 4 0, .opt 5 0, .opt 6 0] (tgO d r n s l i se ho inn sp rs ver out) (iV (tgtN38 inn sp r rs out se[u] ho[u])) (tgO d r n s l i se ho inn sp rs ver out) := by
  refine acalls_of_bodyO Tryz.func73 rfl (Nat.le_of_ble_eq_true rfl) ?_
  have h1 := A_serves (inn := inn) (d := se[u])
  have h2 := A_serves (inn := inn) (d := ho[u])
  have hf := A_filterFr (ver := ver) (out := out) (L := sp) (by omega) (by omega)
  have hmm : ∀ x L, sp.filter (leftB out) = x :: L → ACalls Tryz.prog 79 [ints (x :: L), .fn 80 [.opt 0 0, .opt 1 0]] (crwO d r n s l i rs) (iV (minF (fun y => rs.count (y % r)) x L)) (crwO d r n s l i rs) := fun x L h => by
    refine A_minF hr (fun y hy => ?_) ?_
    · rw [← h] at hy
      exact hsp y (List.mem_filter.1 hy).1
    · have h3 := List.length_filter_le (leftB out) sp
      rw [h, List.length_cons] at h3
      omega
  unfold tgtN38
  generalize hA : se[u] = A at *
  generalize hB : ho[u] = B at *
  (repeat' (first
  | (apply W.qd; (first
    | (apply q_mv; (conv => lhs; whnf))|(apply q_as; (conv => lhs; whnf))|(apply yT; (iterate 4 exact rfl))|(apply yV; exact rfl; exact rfl)|(apply yX; (iterate 3 exact rfl); (first | omega | (focus (simp; done))))|(apply q_litF; (iterate 5 exact rfl); kernel_rfl; kernel_rfl; exact rfl)
    | (apply yGb; (iterate 4 exact rfl); (first | (with_reducible exact rfl) | exact natI_spec rfl | assumption | exact (Int.toNat_of_nonneg (by omega)).symm); (first | omega | (focus (simp only [List.length_map]; omega)) | (focus (simp; done)) | (focus (simp; omega))))))|(apply yA)|(apply yB)|(apply (W.regionS 2); exact rfl; kernel_rfl)|(apply (W.regionDS 2); exact rfl; exact rfl; kernel_rfl)|(apply yE)|(apply yF; kernel_rfl)
  | (apply yG)))
  refine AWP.loopW (α := Nat) (fun k => k ≤ 2 ∧ (0 < k → srvB inn A = false) ∧ (1 < k → srvB inn B = false)) (fun k => ⟨[(23, iV k), (22, iV 2), (21, ints [A, B]), (3, .opt 2 0), (4, .opt 3 0), (5, .opt 4 0), (6, .opt 5 0), (7, .opt 6 0)], tgO d r n s l i se ho inn sp rs ver out⟩) (fun k => 2 - k) 0 ⟨by omega, fun h => by omega, fun h => by omega⟩ ?wkA fun k hk => ?_
  case wkA => subst hA hB; exact ⟨[0, 1, 2, 3, 4, 5, 6, 7, 8], rfl, rfl, rfl, by (repeat (first | exact trivial | refine ⟨rfl, ?_⟩))⟩
  obtain ⟨hk0, hk1, hk2⟩ := hk
  have hkc : k = 0 ∨ k = 1 ∨ k = 2 := by omega
  rcases hkc with rfl | rfl | rfl
  · clear hmm hf h2 hk1 hk2
    cases hq : srvB inn A with
    | true =>
      rw [hq] at h1
      rw [if_pos rfl]
      (repeat' (first
  | (apply W.qd; (first
    | (apply (yW (h1)); exact rfl; exact rfl; (iterate 3 kernel_rfl))|(apply q_mv; (conv => lhs; whnf))|(apply q_as; (conv => lhs; whnf))|(apply yT; (iterate 4 exact rfl))|(apply q_lss; exact rfl; exact rfl)|(apply yX; (iterate 3 exact rfl); (first | omega | (focus (simp; done))))
    | (apply yGb; (iterate 4 exact rfl); (first | (with_reducible exact rfl) | exact natI_spec rfl | assumption | exact (Int.toNat_of_nonneg (by omega)).symm); (first | omega | (focus (simp only [List.length_map]; omega)) | (focus (simp; done)) | (focus (simp; omega))))))|(apply yA)|(apply yB)|(apply yC; kernel_rfl)|(apply yE)|(apply yG)|(apply yH)|(apply yJ)|(apply yP)|(apply yN)
  | (apply yQ; exact rfl)))
      all_goals exact ⟨.inl rfl, [0, 1, 2, 3, 4, 5, 6, 7, 8], [iV A], rfl, rfl, ⟨rfl, trivial⟩, AVle.of_eq rfl, rfl⟩
    | false =>
      rw [hq] at h1
      (repeat' (first
  | (apply W.qd; (first
    | (apply (yW (h1)); exact rfl; exact rfl; (iterate 3 kernel_rfl))|(apply q_mv; (conv => lhs; whnf))|(apply q_as; (conv => lhs; whnf))|(apply yT; (iterate 4 exact rfl))|(apply q_lss; exact rfl; exact rfl)|(apply q_add; exact rfl; exact rfl; omega)|(apply yX; (iterate 3 exact rfl); (first | omega | (focus (simp; done))))
    | (apply yGb; (iterate 4 exact rfl); (first | (with_reducible exact rfl) | exact natI_spec rfl | assumption | exact (Int.toNat_of_nonneg (by omega)).symm); (first | omega | (focus (simp only [List.length_map]; omega)) | (focus (simp; done)) | (focus (simp; omega))))))|(apply yA)|(apply yB)|(apply yC; kernel_rfl)|(apply yE)|(apply yG)|(apply yH)|(apply yL)|(apply yQ; exact rfl)
  | (apply yR; exact rfl)))
      all_goals exact ⟨1, ⟨by omega, fun _ => by first | exact hq | rfl, fun h => by omega⟩, by omega, [0, 1, 2, 3, 4, 5, 6, 7, 8], rfl, rfl, rfl, iV_eq (by omega), rfl, rfl, rfl, rfl, rfl, rfl, rfl, trivial⟩
  · have hq1 := hk1 (by omega)
    rw [hq1, if_neg (by simp)]
    clear hmm hf h1 hk1 hk2
    cases hq : srvB inn B with
    | true =>
      rw [hq] at h2
      rw [if_pos rfl]
      (repeat' (first
  | (apply W.qd; (first
    | (apply (yW (h2)); exact rfl; exact rfl; (iterate 3 kernel_rfl))|(apply q_mv; (conv => lhs; whnf))|(apply q_as; (conv => lhs; whnf))|(apply yT; (iterate 4 exact rfl))|(apply q_lss; exact rfl; exact rfl)|(apply yX; (iterate 3 exact rfl); (first | omega | (focus (simp; done))))
    | (apply yGb; (iterate 4 exact rfl); (first | (with_reducible exact rfl) | exact natI_spec rfl | assumption | exact (Int.toNat_of_nonneg (by omega)).symm); (first | omega | (focus (simp only [List.length_map]; omega)) | (focus (simp; done)) | (focus (simp; omega))))))|(apply yA)|(apply yB)|(apply yC; kernel_rfl)|(apply yE)|(apply yG)|(apply yH)|(apply yJ)|(apply yP)|(apply yN)
  | (apply yQ; exact rfl)))
      all_goals exact ⟨.inl rfl, [0, 1, 2, 3, 4, 5, 6, 7, 8], [iV B], rfl, rfl, ⟨rfl, trivial⟩, AVle.of_eq rfl, rfl⟩
    | false =>
      rw [hq] at h2
      (repeat' (first
  | (apply W.qd; (first
    | (apply (yW (h2)); exact rfl; exact rfl; (iterate 3 kernel_rfl))|(apply q_mv; (conv => lhs; whnf))|(apply q_as; (conv => lhs; whnf))|(apply yT; (iterate 4 exact rfl))|(apply q_lss; exact rfl; exact rfl)|(apply q_add; exact rfl; exact rfl; omega)|(apply yX; (iterate 3 exact rfl); (first | omega | (focus (simp; done))))
    | (apply yGb; (iterate 4 exact rfl); (first | (with_reducible exact rfl) | exact natI_spec rfl | assumption | exact (Int.toNat_of_nonneg (by omega)).symm); (first | omega | (focus (simp only [List.length_map]; omega)) | (focus (simp; done)) | (focus (simp; omega))))))|(apply yA)|(apply yB)|(apply yC; kernel_rfl)|(apply yE)|(apply yG)|(apply yH)|(apply yL)|(apply yQ; exact rfl)
  | (apply yR; exact rfl)))
      all_goals exact ⟨2, ⟨by omega, fun _ => by first | exact hq1 | rfl, fun _ => by first | exact hq | rfl⟩, by omega, [0, 1, 2, 3, 4, 5, 6, 7, 8], rfl, rfl, rfl, iV_eq (by omega), rfl, rfl, rfl, rfl, rfl, rfl, rfl, trivial⟩
  · have hq1 := hk1 (by omega)
    have hq2 := hk2 (by omega)
    rw [hq1, hq2, if_neg (by simp), if_neg (by simp)]
    clear hk1 hk2 h1 h2
    cases hfl : sp.filter (leftB out) with
    | nil =>
      rw [hfl] at hf
      (repeat' (first
  | (apply W.qd; (first
    | (apply q_mv; (conv => lhs; whnf))|(apply q_as; (conv => lhs; whnf))|(apply yT; (iterate 4 exact rfl))|(apply q_lss; exact rfl; exact rfl)|(apply q_eql; exact rfl; exact rfl)|(apply yV; exact rfl; exact rfl)
    | (apply q_makeFunc)))|(apply W.ed; (apply (e_callJ (js := [4, 7]) (hf)); (iterate 5 exact rfl); kernel_rfl; kernel_rfl))|(apply yA)|(apply yB)|(apply yC; kernel_rfl)|(apply yE)|(apply yI)|(apply yJ)|(apply yK)|(apply yP)|(apply yM)|(apply yQ; exact rfl)
  | (apply yR; exact rfl)))
      all_goals first
        | (exfalso; omega)
        | exact ⟨.inl rfl, [0, 1, 2, 3, 4, 5, 6, 7, 8], [iV (-1)], rfl, rfl, ⟨rfl, trivial⟩, AVle.of_eq rfl, rfl⟩
    | cons x L =>
      have hmx := hmm x L hfl
      rw [hfl] at hf
      have hml : ((x :: L).map iD).length = L.length + 1 := by simp
      have hml2 : (x :: L).length = L.length + 1 := rfl
      unfold pick38
      dsimp only
      generalize minF (fun y => rs.count (y % r)) x L = V at *
      (repeat' (first
  | (apply W.qd; (first
    | (apply q_mv; (conv => lhs; whnf))|(apply q_as; (conv => lhs; whnf))|(apply yT; (iterate 4 exact rfl))|(apply q_lss; exact rfl; exact rfl)|(apply q_eql; exact rfl; exact rfl)|(apply yV; exact rfl; exact rfl)
    | (apply q_makeFunc)))
  | (apply W.ed; (first
    | (apply (e_callJ (js := [4, 7]) (hf)); (iterate 5 exact rfl); kernel_rfl; kernel_rfl)
    | (apply (e_callJ (js := [5, 6, 8]) (hmx)); (iterate 5 exact rfl); kernel_rfl; kernel_rfl)))|(apply yA)|(apply yB)|(apply yC; kernel_rfl)|(apply yE)|(apply yH)|(apply yI)|(apply yJ)|(apply yK)|(apply yM)
  | (apply yR; exact rfl)))
      all_goals first
        | (exfalso; omega)
        | exact ⟨.inl rfl, [0, 1, 2, 3, 4, 5, 6, 7, 8], [iV V], rfl, rfl, ⟨rfl, trivial⟩, AVle.of_eq rfl, rfl⟩
end Go.Proofs.YtcljokdiblnhiaaGreatDoor
end
section
namespace Go.Proofs.YtcljokdiblnhiaaGreatDoor
open Go.RowKit
set_option maxHeartbeats 8000000
set_option maxRecDepth 100000
def goodB (st : List Int) : List Bool := st.map fun x => decide (x = 1)
def fillB (L : List Bool) (p : Nat) : List Bool := L.take p ++ List.replicate (L.length - p) false
theorem fillB_zero (L : List Bool) : fillB L 0 = List.replicate L.length false := by unfold fillB; simp
theorem fillB_all (L : List Bool) : fillB L L.length = L := by unfold fillB; simp
theorem fillB_len {L : List Bool} {p : Nat} (h : p ≤ L.length) : (fillB L p).length = L.length := by unfold fillB; simp; omega
theorem fillB_set {L : List Bool} {p : Nat} (h : p < L.length) : (fillB L p).set p L[p] = fillB L (p + 1) := by
  unfold fillB
  have h1 : (L.take p).length = p := by rw [List.length_take]; omega
  rw [List.set_append_right _ _ (by rw [h1]; omega), h1, Nat.sub_self, show L.length - p = (L.length - (p + 1)) + 1 by omega, List.replicate_succ, List.set_cons_zero, List.take_succ_eq_append_getElem h, List.append_assoc]
  rfl
def plCx (M D : Nat) (ps : List (List Nat)) (d r n s l i a g : Int) (mv : List Se) (st : List Int) (inn : List Bool) : PlCx :=
  { pl := planN M D ps (goodB st), hv := goodB st, inn := inn, sp := spareN (sprI d r n s l i a (D + ps.length : Nat)) mv inn a, d := d, r := r, se := seatsN (plcI d r n s l i a (D + ps.length : Nat) g) mv a g, ho := plcI d r n s l i a (D + ps.length : Nat) g, a := a, g := g }
def planH (c : PlCx) (st : List Int) (k : Nat) : List Rb := (psTo c (grTo st c.se c.d c.r st.length) k).2
theorem plc_ok {d r n s l i a w g : Int} (h : plcI d r n s l i a w g ≠ []) : OkL d r n s l i w ∧ (0 ≤ a ∧ a < n) ∧ (0 ≤ g ∧ g < grpI d r n s l i w) ∧ ((plcI d r n s l i a w g).length : Int) = w := by
  have h0 : 0 ≤ g ∧ g < grpI d r n s l i w := by
    unfold plcI at h
    split at h
    · assumption
    · exact absurd rfl h
  have hne : (ordI d r n s l i a).length ≠ 0 := fun e => by
    have e2 := List.eq_nil_of_length_eq_zero e
    unfold plcI at h
    rw [if_pos h0, e2] at h
    simp at h
  have hok := grpI_pos h0.1 h0.2
  have hrow : 0 ≤ a ∧ a < n := by
    rcases Classical.em (OkC d r n s l i ∧ 0 ≤ a ∧ a < n) with h1 | h1
    · exact h1.2
    · rw [ordI_no h1] at hne; exact absurd rfl hne
  have hb := plc_bd hne h0.1 h0.2
  refine ⟨hok, hrow, h0, ?_⟩
  unfold plcI
  rw [if_pos h0, List.length_take, List.length_drop]
  omega
theorem ordI_nn {d r n s l i a y : Int} (h : y ∈ ordI d r n s l i a) : 0 ≤ y := by
  unfold ordI at h
  split at h
  · unfold I at h
    obtain ⟨x, _, rfl⟩ := List.mem_map.1 h
    omega
  · simp at h
theorem spare_nn {d r n s l i a w y : Int} {mv : List Se} {inn : List Bool} (h : y ∈ spareN (sprI d r n s l i a w) mv inn a) : 0 ≤ y := by
  unfold spareN at h
  have h1 := (List.mem_filter.1 h).1
  unfold sprI at h1
  split at h1
  · exact ordI_nn (List.mem_of_mem_drop h1)
  · simp at h1
theorem spare_len (d r n s l i a w : Int) (mv : List Se) (inn : List Bool) : (spareN (sprI d r n s l i a w) mv inn a).length ≤ 64 := by
  unfold spareN
  exact Nat.le_trans (List.length_filter_le _ _) (sprI_len _ _ _ _ _ _ _ _)
attribute [local irreducible] Quiet Eff OpOk AWPG ACont ABlock ACalls AGoto
theorem A_hplan_bad {d r n s l i a g M D : Int} {par : List (List Int)} {mv : List Se} {st : List Int} {inn : List Bool} (hp : CodeIn par) (h : ¬ (validC M D par = true ∧ plcI d r n s l i a (D + (par.length : Int)) g ≠ [] ∧ (st.length : Int) = D + (par.length : Int))) :
    ACalls Tryz.prog 33 [cfgA d r n s l i, cdA M D par, .agg [iV a, iV g], ses mv, ints st, bools inn] [] (.tup [rbs [], iV 1]) [] := by
  have hw := A_ewidth (M := M) (D := D) hp
  have hms : (st.map iD).length = st.length := List.length_map _
  refine acalls_of_body Tryz.func33 rfl (Nat.le_of_ble_eq_true rfl) ?_
  cases hV : validC M D par with
  | false =>
    rw [hV, if_neg (by simp)] at hw
    have hpl := A_lplace d r n s l i a 0 g
    have hle := plcI_len d r n s l i a 0 g
    generalize plcI d r n s l i a 0 g = L at *
    (repeat' (first
  | (apply W.qd; (first
    | (apply (yW (hw)); exact rfl; exact rfl; (iterate 3 kernel_rfl))|(apply (yW (hpl)); exact rfl; exact rfl; (iterate 3 kernel_rfl))|(apply q_mv; (conv => lhs; whnf))|(apply q_as; (conv => lhs; whnf))|(apply yS; (iterate 3 exact rfl))|(apply yT; (iterate 4 exact rfl))|(apply yU; (iterate 4 exact rfl))|(apply q_eql; exact rfl; exact rfl)
    | (apply (yEb (u := .d _)); exact rfl; exact rfl)))
  | (apply W.ed; (first
    | (apply yBb; (iterate 3 exact rfl); kernel_rfl; kernel_rfl)
    | (apply yCb; (iterate 3 exact rfl); kernel_rfl)))|(apply W.ln; (apply l_st_box; (iterate 6 exact rfl); (iterate 3 kernel_rfl)))|(refine W.gOff _ _ rfl rfl (by intro h; cases h) ?_)|(apply yA)|(apply yB)|(apply (W.regionS 5); exact rfl; kernel_rfl)|(apply yE)|(apply yJ)|(apply yP)
  | (apply yQ; exact rfl)))
    all_goals first
      | (exfalso; omega)
      | exact ⟨.inl rfl, [], [.d (.v (.slice none 0 0)), iV 1], rfl, ⟨rfl, rfl, trivial⟩, AVle.tup2 (AVle.nil 5) (AVle.of_eq rfl), rfl⟩
  | true =>
    rw [hV, if_pos rfl] at hw
    have hpl := A_lplace d r n s l i a (D + (par.length : Int)) g
    have hle := plcI_len d r n s l i a (D + (par.length : Int)) g
    have h2 : (plcI d r n s l i a (D + (par.length : Int)) g).length = 0 ∨ (st.length : Int) ≠ D + (par.length : Int) := by
      rcases Nat.eq_zero_or_pos (plcI d r n s l i a (D + (par.length : Int)) g).length with h3 | h3
      · exact .inl h3
      · refine .inr fun h4 => h ⟨hV, fun h5 => ?_, h4⟩
        rw [h5] at h3; simp at h3
    generalize plcI d r n s l i a (D + (par.length : Int)) g = L at *
    generalize D + (par.length : Int) = wN at *
    clear h
    (repeat' (first
  | (apply yFb; exact rfl; exact rfl)
  | (apply W.qd; (first
    | (apply (yW (hw)); exact rfl; exact rfl; (iterate 3 kernel_rfl))|(apply (yW (hpl)); exact rfl; exact rfl; (iterate 3 kernel_rfl))|(apply q_mv; (conv => lhs; whnf))|(apply q_as; (conv => lhs; whnf))|(apply yS; (iterate 3 exact rfl))|(apply yT; (iterate 4 exact rfl))|(apply yU; (iterate 4 exact rfl))|(apply q_eql; exact rfl; exact rfl)|(apply q_neq; exact rfl; exact rfl)|(apply yV; exact rfl; exact rfl)|(apply (yEb (u := .d _)); exact rfl; exact rfl)
    | (apply (yDb (u := .d _)); exact rfl; exact rfl)))
  | (apply W.ed; (first
    | (apply yBb; (iterate 3 exact rfl); kernel_rfl; kernel_rfl)
    | (apply yCb; (iterate 3 exact rfl); kernel_rfl)))|(apply W.ln; (apply l_st_box; (iterate 6 exact rfl); (iterate 3 kernel_rfl)))|(refine W.gOff _ _ rfl rfl (by intro h; cases h) ?_)|(apply yA)|(apply yB)|(apply (W.regionS 5); exact rfl; kernel_rfl)|(apply yE)|(apply yJ)|(apply yP)|(apply yQ; exact rfl)|(refine W.gF _ _ rfl rfl (fun hb => ?_) (fun hb => ?_) <;> ((try simp only [hb, zA, zB]) <;> (try simp only [zC, zD, zE, zF, zG, zH, zI, zJ] at hb) <;> (try (exfalso; omega))))
  | (refine W.cond _ rfl (fun hb => ?_) (fun hb => ?_) <;> ((try simp only [hb, zA, zB]) <;> (try simp only [zC, zD, zE, zF, zG, zH, zI, zJ] at hb) <;> (try (exfalso; omega))))))
    all_goals first
      | (exfalso; omega)
      | exact ⟨.inl rfl, [], [.d (.v (.slice none 0 0)), iV 1], rfl, ⟨rfl, rfl, trivial⟩, AVle.tup2 (AVle.nil 5) (AVle.of_eq rfl), rfl⟩
theorem A_hplan {d r n s l i a g : Int} {M D : Nat} {ps : List (List Nat)} {mv : List Se} {st : List Int} {inn : List Bool} (h : CodeOk M D ps) (hm : mv.length ≤ 1000000) (hst : st.length = D + ps.length) (hne : plcI d r n s l i a (D + ps.length : Nat) g ≠ []) :
    ACalls Tryz.prog 33 [cfgA d r n s l i, cdN M D ps, .agg [iV a, iV g], ses mv, ints st, bools inn] [] (.tup [rbs (planH (plCx M D ps d r n s l i a g mv st inn) st st.length), iV 0]) [] := by
  have hw := A_ewidthN h
  have hD := h.d
  have hW := h.w
  have hms : (st.map iD).length = st.length := List.length_map _
  have hpl := A_lplace d r n s l i a (D + ps.length : Nat) g
  have hse := A_seats (d := d) (r := r) (n := n) (s := s) (l := l) (i := i) (wd := (D + ps.length : Nat)) (a := a) (g := g) hm
  have hsp := A_spare (d := d) (r := r) (n := n) (s := s) (l := l) (i := i) (wd := (D + ps.length : Nat)) (row := a) (mv := mv) (inn := inn) hm
  obtain ⟨hok, hrow, hg, hpl2⟩ := plc_ok hne
  obtain ⟨b1, b2, b3, b4, b5⟩ := hok.bd
  have hsn : ∀ y ∈ spareN (sprI d r n s l i a (D + ps.length : Nat)) mv inn a, 0 ≤ y := fun y hy => spare_nn hy
  have hsl := spare_len d r n s l i a (D + ps.length : Nat) mv inn
  have hgl : (goodB st).length = D + ps.length := by unfold goodB; rw [List.length_map]; exact hst
  have hpn := fun k (hk : k < D + ps.length) => A_plan (u := k) (hv := goodB st) h hgl hk
  have hcx : (plCx M D ps d r n s l i a g mv st inn) = ⟨planN M D ps (goodB st), goodB st, inn, spareN (sprI d r n s l i a (D + ps.length : Nat)) mv inn a, d, r, seatsN (plcI d r n s l i a (D + ps.length : Nat) g) mv a g, plcI d r n s l i a (D + ps.length : Nat) g, a, g⟩ := rfl
  have hsel := seatsN_len (plcI d r n s l i a (D + ps.length : Nat) g) mv a g
  rw [hcx]
  unfold planH
  dsimp only
  generalize spareN (sprI d r n s l i a (D + ps.length : Nat)) mv inn a = sp at *
  generalize seatsN (plcI d r n s l i a (D + ps.length : Nat) g) mv a g = se at *
  generalize plcI d r n s l i a (D + ps.length : Nat) g = ho at *
  generalize planN M D ps (goodB st) = pl at *
  clear hcx hne hok
  generalize hWe : D + ps.length = wN at *
  have hhl : ho.length = wN := by omega
  have hsl2 : se.length = wN := by omega
  have hmh : (ho.map iD).length = wN := by rw [List.length_map]; exact hhl
  rw [hst]
  clear hpl2
  refine acalls_of_body Tryz.func33 rfl (Nat.le_of_ble_eq_true rfl) ?_
  (repeat' (first
  | (apply yFb; exact rfl; exact rfl)
  | (apply W.qd; (first
    | (apply (yW (hw)); exact rfl; exact rfl; (iterate 3 kernel_rfl))|(apply (yW (hpl)); exact rfl; exact rfl; (iterate 3 kernel_rfl))|(apply (yW (hse)); exact rfl; exact rfl; (iterate 3 kernel_rfl))|(apply q_mv; (conv => lhs; whnf))|(apply q_as; (conv => lhs; whnf))|(apply yS; (iterate 3 exact rfl))|(apply yT; (iterate 4 exact rfl))|(apply yU; (iterate 4 exact rfl))|(apply q_eql; exact rfl; exact rfl)|(apply q_neq; exact rfl; exact rfl)|(apply yV; exact rfl; exact rfl)|(apply q_len_osl; (iterate 3 exact rfl))
    | (apply (yDb (u := .d _)); exact rfl; exact rfl)))
  | (apply W.ed; (first
    | (apply e_mkmap; exact rfl; exact rfl)|(apply yBb; (iterate 3 exact rfl); kernel_rfl; kernel_rfl)|(apply yCb; (iterate 3 exact rfl); kernel_rfl)
    | (apply e_makeF; exact rfl; exact rfl; (first | (with_reducible exact rfl) | exact natI_spec rfl | assumption | exact (Int.toNat_of_nonneg (by omega)).symm); (iterate 6 exact rfl); omega)))|(apply W.ln; (apply l_st_box; (iterate 6 exact rfl); (iterate 3 kernel_rfl)))|(apply yA)|(apply yB)|(apply (W.regionS 9); exact rfl; kernel_rfl)|(apply yE)|(apply yG)|(apply yH)|(refine W.gF _ _ rfl rfl (fun hb => ?_) (fun hb => ?_) <;> ((try simp only [hb, zA, zB]) <;> (try simp only [zC, zD, zE, zF, zG, zH, zI, zJ] at hb) <;> (try (exfalso; omega))))
  | (refine W.cond _ rfl (fun hb => ?_) (fun hb => ?_) <;> ((try simp only [hb, zA, zB]) <;> (try simp only [zC, zD, zE, zF, zG, zH, zI, zJ] at hb) <;> (try (exfalso; omega))))))
  all_goals try (exfalso; omega)
  have hf0 := fillB_zero (goodB st)
  rw [hgl] at hf0
  rw [show (List.replicate wN (Value.bool false)).map (fun z => [Dat.v z]) = (List.replicate wN false).map tD from by simp [tD]]
  have hgg : ∀ k (hk : k < wN), (goodB st)[k]'(by omega) = decide (st[k]'(by omega) = 1) := fun k hk => by unfold goodB; rw [List.getElem_map]
  refine AWP.loopW (α := Nat) (fun k => k ≤ wN) (fun k => ⟨[(60, iV k), (59, iV wN), (17, .osl 6 0 0 wN), (16, .opt 5 0), (4, ints st), (6, .opt 0 0), (18, .opt 8 0), (14, iV wN), (7, .opt 1 0), (8, .opt 2 0), (11, .opt 3 0), (15, .opt 4 0), (3, ses mv)], [.box [iV d, iV r, iV n, iV s, iV l, iV i], .box [.d .any, iV M, iV D, rowsN ps, .d .any], .box [iV a, iV g], .box [bools inn], .box [ints ho], .box [ints se], .row 0 1 4 ((fillB (goodB st) k).map tD), .mp (mpI (ksR (grTo st se d r k))), .box [.mp 7]]⟩) (fun k => wN - k) 0 (Nat.zero_le _) ?wkA fun k hk => ?_
  case wkA => rw [hf0]; exact ⟨[0, 1, 2, 3, 4, 5, 6, 7, 8], rfl, rfl, rfl, by (repeat (first | exact trivial | refine ⟨rfl, ?_⟩))⟩
  by_cases hkl : k < wN
  · have hkst : k < st.length := by omega
    have hkse : k < se.length := by omega
    have hgk : (goodB st)[k]'(by omega) = decide (st[k]'hkst = 1) := hgg k hkl
    have hs := fillB_set (show k < (goodB st).length by omega)
    rw [hgk] at hs
    have hgs := grTo_succ st se d r k
    have hgrl := grTo_len st se d r k
    have eS : st.getD k 0 = st[k]'hkst := by rw [List.getD_eq_getElem?_getD, List.getElem?_eq_getElem hkst]; rfl
    have eE : se.getD k 0 = se[k]'hkse := by rw [List.getD_eq_getElem?_getD, List.getElem?_eq_getElem hkse]; rfl
    unfold grStep at hgs
    rw [eS, eE] at hgs
    have hks := ksR_get (grTo st se d r k)
    clear hgg hgk hf0 eS eE hpn hsn
    generalize grTo st se d r k = rs at *
    have hzl : (fillB (goodB st) k).length = wN := by rw [fillB_len (by omega), hgl]
    generalize fillB (goodB st) k = Z at hs hzl ⊢
    have hkz : k < (Z.set k (decide (st[k] = 1))).length := by rw [List.length_set]; omega
    by_cases hg1 : st[k] = 1
    · have hz1 : (tD ((Z.set k (decide (st[k] = 1)))[k]'hkz))[0]? = some (.v (.bool true)) := by rw [List.getElem_set_self, decide_eq_true hg1]; rfl
      by_cases hin : 0 ≤ se[k] ∧ se[k] < d
      · rw [if_pos ⟨hg1, hin⟩] at hgs
        have hk1 := hks (se[k] % r)
        have hcb : rs.count (se[k] % r) ≤ rs.length := List.count_le_length
        obtain ⟨hin1, hin2⟩ := hin
        (repeat' (first
  | (apply yFb; exact rfl; exact rfl)
  | (apply W.qd; (first
    | ((apply (q_lkupN hk1); (iterate 4 exact rfl)))|(apply q_mv; (conv => lhs; whnf))|(apply q_as; (conv => lhs; whnf))|(apply yS; (iterate 3 exact rfl))|(apply yT; (iterate 4 exact rfl))|(apply q_lss; exact rfl; exact rfl)|(apply q_geq; exact rfl; exact rfl)|(apply q_eql; exact rfl; exact rfl)|(apply q_add; exact rfl; exact rfl; omega)|(apply q_rem; exact rfl; exact rfl; omega; omega)|(apply yX; (iterate 3 exact rfl); (first | omega | (focus (simp; done))))|(apply yGb; (iterate 4 exact rfl); (first | (with_reducible exact rfl) | exact natI_spec rfl | assumption | exact (Int.toNat_of_nonneg (by omega)).symm); (first | omega | (focus (simp only [List.length_map]; omega)) | (focus (simp; done)) | (focus (simp; omega))))|(apply (yEb (u := .d _)); exact rfl; exact rfl)|(apply (yDb (u := .d _)); exact rfl; exact rfl)|(apply q_ix_osl0; (iterate 4 exact rfl); (first | (with_reducible exact rfl) | exact natI_spec rfl | assumption | exact (Int.toNat_of_nonneg (by omega)).symm); (first | omega | (focus (simp only [List.length_map]; omega)) | (focus (simp; done)) | (focus (simp; omega))))
    | (apply q_ld_rptm; (iterate 4 exact rfl); (first | omega | (focus (simp only [List.length_map]; omega)) | (focus (simp; done)) | (focus (simp; omega))))))|(apply W.ln; (apply l_st_rpt; (iterate 7 exact rfl); exact fun _ => rfl; (first | omega | (focus (simp only [List.length_map]; omega)) | (focus (simp; omega)))))|(apply W.en; (apply e_mapset; (iterate 6 exact rfl)))|(refine W.gOff _ _ rfl rfl (by intro h; cases h) ?_)|(apply yA)|(apply yB)|(apply yC; kernel_rfl)|(apply yD; exact rfl; kernel_rfl)|(apply yE)|(apply yF; kernel_rfl)|(apply yG)|(apply yH)|(apply yL)|(apply yR; exact rfl)|(refine W.gT _ _ rfl rfl (fun hb => ?_) (fun hb => ?_) <;> ((try simp only [hb, zA, zB]) <;> (try simp only [zC, zD, zE, zF, zG, zH, zI, zJ] at hb) <;> (try (exfalso; omega))))
  | (refine W.cond _ rfl (fun hb => ?_) (fun hb => ?_) <;> ((try simp only [hb, zA, zB]) <;> (try simp only [zC, zD, zE, zF, zG, zH, zI, zJ] at hb) <;> (try (exfalso; omega))))))
        all_goals first
          | (exfalso; omega)
          | (exfalso; rw [List.getElem_set_self, decide_eq_true hg1] at hb; exact absurd hb (by decide))|(refine ⟨k + 1, by omega, by omega, ?_⟩; rw [hgs, ← hs]; exact ⟨[0, 1, 2, 3, 4, 5, 6, 7, 8], rfl, rfl, rfl, iV_eq (by omega), rfl, rfl, rfl, rfl, rfl, rfl, rfl, rfl, rfl, rfl, rfl, rfl, trivial⟩)
      · rw [if_neg (fun h => hin h.2)] at hgs
        have hin2 : se[k] < 0 ∨ d ≤ se[k] := by omega
        (repeat' (first
  | (apply yFb; exact rfl; exact rfl)
  | (apply W.qd; (first
    | (apply q_mv; (conv => lhs; whnf))|(apply q_as; (conv => lhs; whnf))|(apply yS; (iterate 3 exact rfl))|(apply yT; (iterate 4 exact rfl))|(apply q_lss; exact rfl; exact rfl)|(apply q_geq; exact rfl; exact rfl)|(apply q_eql; exact rfl; exact rfl)|(apply q_add; exact rfl; exact rfl; omega)|(apply yX; (iterate 3 exact rfl); (first | omega | (focus (simp; done))))|(apply yGb; (iterate 4 exact rfl); (first | (with_reducible exact rfl) | exact natI_spec rfl | assumption | exact (Int.toNat_of_nonneg (by omega)).symm); (first | omega | (focus (simp only [List.length_map]; omega)) | (focus (simp; done)) | (focus (simp; omega))))|(apply (yEb (u := .d _)); exact rfl; exact rfl)|(apply (yDb (u := .d _)); exact rfl; exact rfl)|(apply q_ix_osl0; (iterate 4 exact rfl); (first | (with_reducible exact rfl) | exact natI_spec rfl | assumption | exact (Int.toNat_of_nonneg (by omega)).symm); (first | omega | (focus (simp only [List.length_map]; omega)) | (focus (simp; done)) | (focus (simp; omega))))
    | (apply q_ld_rptm; (iterate 4 exact rfl); (first | omega | (focus (simp only [List.length_map]; omega)) | (focus (simp; done)) | (focus (simp; omega))))))|(apply W.ln; (apply l_st_rpt; (iterate 7 exact rfl); exact fun _ => rfl; (first | omega | (focus (simp only [List.length_map]; omega)) | (focus (simp; omega)))))|(refine W.gOff _ _ rfl rfl (by intro h; cases h) ?_)|(apply yA)|(apply yB)|(apply yC; kernel_rfl)|(apply yD; exact rfl; kernel_rfl)|(apply yE)|(apply yF; kernel_rfl)|(apply yG)|(apply yH)|(apply yL)|(apply yR; exact rfl)|(refine W.gT _ _ rfl rfl (fun hb => ?_) (fun hb => ?_) <;> ((try simp only [hb, zA, zB]) <;> (try simp only [zC, zD, zE, zF, zG, zH, zI, zJ] at hb) <;> (try (exfalso; omega))))
  | (refine W.cond _ rfl (fun hb => ?_) (fun hb => ?_) <;> ((try simp only [hb, zA, zB]) <;> (try simp only [zC, zD, zE, zF, zG, zH, zI, zJ] at hb) <;> (try (exfalso; omega))))))
        all_goals first
          | (exfalso; omega)
          | (exfalso; rw [List.getElem_set_self, decide_eq_true hg1] at hb; exact absurd hb (by decide))|(refine ⟨k + 1, by omega, by omega, ?_⟩; rw [hgs, ← hs]; exact ⟨[0, 1, 2, 3, 4, 5, 6, 7, 8], rfl, rfl, rfl, iV_eq (by omega), rfl, rfl, rfl, rfl, rfl, rfl, rfl, rfl, rfl, rfl, rfl, rfl, trivial⟩)
    · have hz1 : (tD ((Z.set k (decide (st[k] = 1)))[k]'hkz))[0]? = some (.v (.bool false)) := by rw [List.getElem_set_self, decide_eq_false hg1]; rfl
      rw [if_neg (fun h => hg1 h.1)] at hgs
      (repeat' (first
  | (apply yFb; exact rfl; exact rfl)
  | (apply W.qd; (first
    | (apply q_mv; (conv => lhs; whnf))|(apply q_as; (conv => lhs; whnf))|(apply yS; (iterate 3 exact rfl))|(apply yT; (iterate 4 exact rfl))|(apply q_lss; exact rfl; exact rfl)|(apply q_geq; exact rfl; exact rfl)|(apply q_eql; exact rfl; exact rfl)|(apply q_add; exact rfl; exact rfl; omega)|(apply q_rem; exact rfl; exact rfl; omega; omega)|(apply yX; (iterate 3 exact rfl); (first | omega | (focus (simp; done))))|(apply yGb; (iterate 4 exact rfl); (first | (with_reducible exact rfl) | exact natI_spec rfl | assumption | exact (Int.toNat_of_nonneg (by omega)).symm); (first | omega | (focus (simp only [List.length_map]; omega)) | (focus (simp; done)) | (focus (simp; omega))))|(apply (yEb (u := .d _)); exact rfl; exact rfl)|(apply (yDb (u := .d _)); exact rfl; exact rfl)|(apply q_ix_osl0; (iterate 4 exact rfl); (first | (with_reducible exact rfl) | exact natI_spec rfl | assumption | exact (Int.toNat_of_nonneg (by omega)).symm); (first | omega | (focus (simp only [List.length_map]; omega)) | (focus (simp; done)) | (focus (simp; omega))))|(apply q_ld_rptm; (iterate 4 exact rfl); (first | omega | (focus (simp only [List.length_map]; omega)) | (focus (simp; done)) | (focus (simp; omega))))
    | (apply q_lkup; (iterate 4 exact rfl))))|(apply W.ln; (apply l_st_rpt; (iterate 7 exact rfl); exact fun _ => rfl; (first | omega | (focus (simp only [List.length_map]; omega)) | (focus (simp; omega)))))|(refine W.gOff _ _ rfl rfl (by intro h; cases h) ?_)|(apply yA)|(apply yB)|(apply yC; kernel_rfl)|(apply yD; exact rfl; kernel_rfl)|(apply yE)|(apply yF; kernel_rfl)|(apply yG)|(apply yH)|(apply yL)|(apply yR; exact rfl)|(refine W.gT _ _ rfl rfl (fun hb => ?_) (fun hb => ?_) <;> ((try simp only [hb, zA, zB]) <;> (try simp only [zC, zD, zE, zF, zG, zH, zI, zJ] at hb) <;> (try (exfalso; omega))))
  | (refine W.cond _ rfl (fun hb => ?_) (fun hb => ?_) <;> ((try simp only [hb, zA, zB]) <;> (try simp only [zC, zD, zE, zF, zG, zH, zI, zJ] at hb) <;> (try (exfalso; omega))))))
      all_goals first
        | (exfalso; omega)
        | (exfalso; exact absurd (show (Z.set k (decide (st[k] = 1)))[k]'hkz = true by assumption) (by rw [List.getElem_set_self, decide_eq_false hg1]; decide))|(refine ⟨k + 1, by omega, by omega, ?_⟩; rw [hgs, ← hs]; exact ⟨[0, 1, 2, 3, 4, 5, 6, 7, 8], rfl, rfl, rfl, iV_eq (by omega), rfl, rfl, rfl, rfl, rfl, rfl, rfl, rfl, rfl, rfl, rfl, rfl, trivial⟩)
  obtain rfl : k = wN := by omega
  have hfa := fillB_all (goodB st)
  rw [hgl] at hfa
  rw [hfa]
  have hgrl := grTo_len st se d r k
  generalize grTo st se d r k = rs0 at *
  clear hf0 hgg hfa hk hw hpl hse
  (repeat' (first
  | (apply W.qd; (first
    | (apply (yW (hsp)); exact rfl; exact rfl; (iterate 3 kernel_rfl))|(apply q_mv; (conv => lhs; whnf))|(apply q_as; (conv => lhs; whnf))|(apply yS; (iterate 3 exact rfl))|(apply yT; (iterate 4 exact rfl))|(apply yU; (iterate 4 exact rfl))|(apply q_lss; exact rfl; exact rfl)|(apply q_len_osl; (iterate 3 exact rfl))
    | (apply q_makeFunc)))|(apply W.ed; (apply yCb; (iterate 3 exact rfl); kernel_rfl))|(apply W.ln; (apply l_st_box; (iterate 6 exact rfl); (iterate 3 kernel_rfl)))|(apply yA)|(apply yB)|(apply (W.regionS 19); exact rfl; kernel_rfl)|(apply yE)|(apply yG)|(apply yI)|(apply yK)|(apply yM)
  | (refine W.cond _ rfl (fun hb => ?_) (fun hb => ?_) <;> ((try simp only [hb, zA, zB]) <;> (try simp only [zC, zD, zE, zF, zG, zH, zI, zJ] at hb) <;> (try (exfalso; omega))))))
  all_goals try (exfalso; omega)
  refine AWP.nilBox (l' := [.osl 11 0 0 0]) 10 0 5 84 rfl rfl (by omega) rfl rfl rfl rfl ?_
  have hSl := psTo_len ⟨pl, goodB st, inn, sp, d, r, se, ho, a, g⟩ rs0
  have hSs := psTo_succ ⟨pl, goodB st, inn, sp, d, r, se, ho, a, g⟩ rs0
  have hS0 : psTo ⟨pl, goodB st, inn, sp, d, r, se, ho, a, g⟩ rs0 0 = (rs0, []) := rfl
  generalize hS : psTo ⟨pl, goodB st, inn, sp, d, r, se, ho, a, g⟩ rs0 = S at *
  have hmg : ((goodB st).map tD).length = k := by rw [List.length_map]; exact hgl
  obtain ⟨wN, rfl⟩ : ∃ wN, wN = k := ⟨_, rfl⟩
  refine AWP.loopW (α := Nat) (fun k => k ≤ wN) (fun k => ⟨[(112, iV k), (111, iV wN), (110, bools (goodB st)), (17, bools (goodB st)), (22, .fn 73 [.opt 5 0, .opt 4 0, .opt 3 0, .opt 8 0, .opt 9 0, .opt 7 0, .opt 0 0]), (7, .opt 1 0), (8, .opt 2 0), (21, .opt 9 0), (6, .opt 0 0), (18, .opt 7 0)], [.box [iV d, iV r, iV n, iV s, iV l, iV i], .box [.d .any, iV M, iV D, rowsN ps, .d .any], .box [iV a, iV g], .box [bools inn], .box [ints ho], .box [ints se], .mp (mpI (ksR (S k).1)), .box [.mp 6], .box [ints sp], .box [.osl 10 (S k).2.length 0 (S k).2.length], .row (S k).2.length 5 84 ((S k).2.map rbD)]⟩) (fun k => wN - k) 0 (Nat.zero_le _) ?wkB fun k hk => ?_
  case wkB =>
    rw [hS0]
    exact ⟨[0, 1, 2, 3, 4, 5, 7, 8, 9, 10, 11], rfl, rfl, rfl, rfl, rfl, (frz_rowJ (i := 6) (ver := 0) (n := wN) (l := (goodB st).map tD) rfl rfl hmg.symm).symm, (frz_rowJ (i := 6) (ver := 0) (n := wN) (l := (goodB st).map tD) rfl rfl hmg.symm).symm, rfl, rfl, rfl, rfl, rfl, rfl, trivial⟩
  by_cases hkl : k < wN
  · have hls := hSl k
    have hst2 := hSs k
    have ht := A_target38 (d := d) (r := r) (n := n) (s := s) (l := l) (i := i) (se := se) (ho := ho) (inn := inn) (sp := sp) (rs := (S k).1) (ver := (S k).2.length) (out := (S k).2) (u := k) (by omega) hsn (by omega) (by omega) (by omega) (by omega)
    have hpk := hpn k (by omega)
    have hks := ksR_get (S k).1
    have eE : se.getD k 0 = se[k]'(by omega) := by rw [List.getD_eq_getElem?_getD, List.getElem?_eq_getElem (by omega)]; rfl
    have eH : ho.getD k 0 = ho[k]'(by omega) := by rw [List.getD_eq_getElem?_getD, List.getElem?_eq_getElem (by omega)]; rfl
    have eG : (goodB st).getD k false = (goodB st)[k]'(by omega) := by rw [List.getD_eq_getElem?_getD, List.getElem?_eq_getElem (by omega)]; rfl
    unfold psStep PlCx.tgt at hst2
    dsimp only at hst2
    rw [eE, eH, eG] at hst2
    generalize tgtN38 inn sp r (S k).1 (S k).2 (se[k]'(by omega)) (ho[k]'(by omega)) = t at *
    clear hS hSl hSs hS0 hpn hsp hsn eE eH eG
    generalize S k = Sk at *
    obtain ⟨rs, out⟩ := Sk
    dsimp only at *
    have hkg : k < (goodB st).length := by omega
    cases hq : (goodB st)[k] with
    | true =>
      rw [hq, if_pos rfl] at hst2
      (repeat' (first
  | (apply W.qd; (first
    | (apply q_mv; (conv => lhs; whnf))|(apply q_as; (conv => lhs; whnf))|(apply yU; (iterate 4 exact rfl))|(apply q_lss; exact rfl; exact rfl)|(apply q_add; exact rfl; exact rfl; omega)|(apply yX; (iterate 3 exact rfl); (first | omega | (focus (simp; done))))
    | (apply yGb; (iterate 4 exact rfl); (first | (with_reducible exact rfl) | exact natI_spec rfl | assumption | exact (Int.toNat_of_nonneg (by omega)).symm); (first | omega | (focus (simp only [List.length_map]; omega)) | (focus (simp; done)) | (focus (simp; omega))))))|(apply yA)|(apply yB)|(apply yC; kernel_rfl)|(apply yE)|(apply yG)|(apply yH)|(apply yI)|(apply yK)|(apply yM)
  | (refine W.cond _ rfl (fun hb => ?_) (fun hb => ?_) <;> ((try simp only [hb, zA, zB]) <;> (try simp only [zC, zD, zE, zF, zG, zH, zI, zJ] at hb) <;> (try (exfalso; omega))))))
      all_goals first
        | (exfalso; rw [hq] at hb; exact absurd hb (by decide))
        | (exfalso; omega)|(refine ⟨k + 1, by omega, by omega, ?_⟩; rw [hst2]; exact ⟨[0, 1, 2, 3, 4, 5, 6, 7, 8, 9, 10], rfl, rfl, rfl, iV_eq (by omega), rfl, rfl, rfl, rfl, rfl, rfl, rfl, rfl, rfl, trivial⟩)
    | false =>
      rw [hq, if_neg (by simp)] at hst2
      cases hp9 : pl k with
      | none =>
        rw [hp9] at hpk hst2
        unfold planA at hpk
        dsimp only at hst2 hpk
        (repeat' (first
  | (apply W.qd; (first
    | (apply (yW (hpk)); exact rfl; exact rfl; (iterate 3 kernel_rfl))|(apply q_mv; (conv => lhs; whnf))|(apply q_as; (conv => lhs; whnf))|(apply yU; (iterate 4 exact rfl))|(apply q_lss; exact rfl; exact rfl)|(apply q_eql; exact rfl; exact rfl)|(apply q_add; exact rfl; exact rfl; omega)|(apply yAb; exact rfl; exact rfl)|(apply yX; (iterate 3 exact rfl); (first | omega | (focus (simp; done))))|(apply yGb; (iterate 4 exact rfl); (first | (with_reducible exact rfl) | exact natI_spec rfl | assumption | exact (Int.toNat_of_nonneg (by omega)).symm); (first | omega | (focus (simp only [List.length_map]; omega)) | (focus (simp; done)) | (focus (simp; omega))))
    | (apply (yDb (u := .d _)); exact rfl; exact rfl)))
  | (apply W.ed; (first
    | (apply (e_callJ (js := [5, 4, 3, 8, 9, 7, 0, 10, 6]) (ht)); (iterate 5 exact rfl); kernel_rfl; kernel_rfl)
    | (apply yCb; (iterate 3 exact rfl); kernel_rfl)))|(apply W.ln; (apply l_st_box; (iterate 6 exact rfl); (iterate 3 kernel_rfl)))|(refine W.gOff _ _ rfl rfl (by intro h; cases h) ?_)|(apply yA)|(apply yB)|(apply yC; kernel_rfl)|(apply yE)|(apply yG)|(apply yH)|(apply yI)|(apply yK)|(apply yL)|(apply yM)|(apply yR; exact rfl)
  | (refine W.cond _ rfl (fun hb => ?_) (fun hb => ?_) <;> ((try simp only [hb, zA, zB]) <;> (try simp only [zC, zD, zE, zF, zG, zH, zI, zJ] at hb) <;> (try (exfalso; omega))))))
        all_goals first
          | (exfalso; rw [hq] at hb; exact absurd hb (by decide))
          | (exfalso; omega)|(refine ⟨k + 1, by omega, by omega, ?_⟩; rw [hst2]; exact ⟨[0, 1, 2, 3, 4, 5, 6, 7, 8, 9, 10], rfl, rfl, rfl, iV_eq (by omega), rfl, rfl, rfl, rfl, rfl, rfl, rfl, rfl, rfl, trivial⟩)
      | some tl =>
        rw [hp9] at hpk hst2
        unfold planA at hpk
        dsimp only at hst2 hpk
        by_cases ht0 : 0 ≤ t
        · rw [if_pos ht0] at hst2
          have el : (out ++ [((a, g, (k : Int), t, tl) : Rb)]).length = out.length + 1 := by simp
          by_cases htd : t < d
          · rw [if_pos htd] at hst2
            have hk1 := hks (t % r)
            have hcb : rs.count (t % r) ≤ rs.length := List.count_le_length
            (repeat' (first
  | (apply yFb; exact rfl; exact rfl)
  | (apply W.qd; (first
    | (apply (yW (hpk)); exact rfl; exact rfl; (iterate 3 kernel_rfl))
    | ((apply (q_lkupN hk1); (iterate 4 exact rfl)))|(apply q_mv; (conv => lhs; whnf))|(apply q_as; (conv => lhs; whnf))|(apply yS; (iterate 3 exact rfl))|(apply yT; (iterate 4 exact rfl))|(apply yU; (iterate 4 exact rfl))|(apply q_lss; exact rfl; exact rfl)|(apply q_geq; exact rfl; exact rfl)|(apply q_eql; exact rfl; exact rfl)|(apply q_add; exact rfl; exact rfl; omega)|(apply q_rem; exact rfl; exact rfl; omega; omega)|(apply yAb; exact rfl; exact rfl)|(apply yX; (iterate 3 exact rfl); (first | omega | (focus (simp; done))))|(apply yZ; exact rfl; exact rfl; kernel_rfl)|(apply q_litF; (iterate 5 exact rfl); kernel_rfl; kernel_rfl; exact rfl)|(apply yGb; (iterate 4 exact rfl); (first | (with_reducible exact rfl) | exact natI_spec rfl | assumption | exact (Int.toNat_of_nonneg (by omega)).symm); (first | omega | (focus (simp only [List.length_map]; omega)) | (focus (simp; done)) | (focus (simp; omega))))
    | (apply (yEb (u := .d _)); exact rfl; exact rfl)))
  | (apply W.ed; (first
    | (apply (e_callJ (js := [5, 4, 3, 8, 9, 7, 0, 10, 6]) (ht)); (iterate 5 exact rfl); kernel_rfl; kernel_rfl)
    | ((apply (e_app1F (f := rbD) (a, g, (k : Int), t, tl)); (iterate 8 exact rfl); omega))
    | (apply yCb; (iterate 3 exact rfl); kernel_rfl)))|(apply W.ln; (apply l_st_box; (iterate 6 exact rfl); (iterate 3 kernel_rfl)))|(apply W.en; (apply e_mapset; (iterate 6 exact rfl)))|(apply yA)|(apply yB)|(apply yC; kernel_rfl)|(apply yD; exact rfl; kernel_rfl)|(apply yE)|(apply yF; kernel_rfl)|(apply yG)|(apply yH)|(apply yI)|(apply yK)|(apply yL)|(apply yM)
  | (refine W.cond _ rfl (fun hb => ?_) (fun hb => ?_) <;> ((try simp only [hb, zA, zB]) <;> (try simp only [zC, zD, zE, zF, zG, zH, zI, zJ] at hb) <;> (try (exfalso; omega))))))
            all_goals first
              | (exfalso; rw [hq] at hb; exact absurd hb (by decide))
              | (exfalso; omega)|(refine ⟨k + 1, by omega, by omega, ?_⟩; rw [hst2]; dsimp only; rw [el]; exact ⟨[0, 1, 2, 3, 4, 5, 6, 7, 8, 9, 10], rfl, rfl, rfl, iV_eq (by omega), rfl, rfl, rfl, rfl, rfl, rfl, rfl, rfl, rfl, trivial⟩)
          · rw [if_neg htd] at hst2
            (repeat' (first
  | (apply yFb; exact rfl; exact rfl)
  | (apply W.qd; (first
    | (apply (yW (hpk)); exact rfl; exact rfl; (iterate 3 kernel_rfl))|(apply q_mv; (conv => lhs; whnf))|(apply q_as; (conv => lhs; whnf))|(apply yS; (iterate 3 exact rfl))|(apply yT; (iterate 4 exact rfl))|(apply yU; (iterate 4 exact rfl))|(apply q_lss; exact rfl; exact rfl)|(apply q_geq; exact rfl; exact rfl)|(apply q_eql; exact rfl; exact rfl)|(apply q_add; exact rfl; exact rfl; omega)|(apply yAb; exact rfl; exact rfl)|(apply yX; (iterate 3 exact rfl); (first | omega | (focus (simp; done))))|(apply yZ; exact rfl; exact rfl; kernel_rfl)|(apply q_litF; (iterate 5 exact rfl); kernel_rfl; kernel_rfl; exact rfl)|(apply yGb; (iterate 4 exact rfl); (first | (with_reducible exact rfl) | exact natI_spec rfl | assumption | exact (Int.toNat_of_nonneg (by omega)).symm); (first | omega | (focus (simp only [List.length_map]; omega)) | (focus (simp; done)) | (focus (simp; omega))))
    | (apply (yEb (u := .d _)); exact rfl; exact rfl)))
  | (apply W.ed; (first
    | (apply (e_callJ (js := [5, 4, 3, 8, 9, 7, 0, 10, 6]) (ht)); (iterate 5 exact rfl); kernel_rfl; kernel_rfl)
    | ((apply (e_app1F (f := rbD) (a, g, (k : Int), t, tl)); (iterate 8 exact rfl); omega))
    | (apply yCb; (iterate 3 exact rfl); kernel_rfl)))|(apply W.ln; (apply l_st_box; (iterate 6 exact rfl); (iterate 3 kernel_rfl)))|(apply yA)|(apply yB)|(apply yC; kernel_rfl)|(apply yE)|(apply yG)|(apply yH)|(apply yI)|(apply yK)|(apply yL)|(apply yM)
  | (refine W.cond _ rfl (fun hb => ?_) (fun hb => ?_) <;> ((try simp only [hb, zA, zB]) <;> (try simp only [zC, zD, zE, zF, zG, zH, zI, zJ] at hb) <;> (try (exfalso; omega))))))
            all_goals first
              | (exfalso; rw [hq] at hb; exact absurd hb (by decide))
              | (exfalso; omega)|(refine ⟨k + 1, by omega, by omega, ?_⟩; rw [hst2]; dsimp only; rw [el]; exact ⟨[0, 1, 2, 3, 4, 5, 6, 7, 8, 9, 10], rfl, rfl, rfl, iV_eq (by omega), rfl, rfl, rfl, rfl, rfl, rfl, rfl, rfl, rfl, trivial⟩)
        · rw [if_neg ht0] at hst2
          (repeat' (first
  | (apply yFb; exact rfl; exact rfl)
  | (apply W.qd; (first
    | (apply (yW (hpk)); exact rfl; exact rfl; (iterate 3 kernel_rfl))|(apply q_mv; (conv => lhs; whnf))|(apply q_as; (conv => lhs; whnf))|(apply yU; (iterate 4 exact rfl))|(apply q_lss; exact rfl; exact rfl)|(apply q_geq; exact rfl; exact rfl)|(apply q_eql; exact rfl; exact rfl)|(apply q_add; exact rfl; exact rfl; omega)|(apply yAb; exact rfl; exact rfl)|(apply yX; (iterate 3 exact rfl); (first | omega | (focus (simp; done))))|(apply yGb; (iterate 4 exact rfl); (first | (with_reducible exact rfl) | exact natI_spec rfl | assumption | exact (Int.toNat_of_nonneg (by omega)).symm); (first | omega | (focus (simp only [List.length_map]; omega)) | (focus (simp; done)) | (focus (simp; omega))))
    | (apply (yEb (u := .d _)); exact rfl; exact rfl)))
  | (apply W.ed; (first
    | (apply (e_callJ (js := [5, 4, 3, 8, 9, 7, 0, 10, 6]) (ht)); (iterate 5 exact rfl); kernel_rfl; kernel_rfl)
    | (apply yCb; (iterate 3 exact rfl); kernel_rfl)))|(apply W.ln; (apply l_st_box; (iterate 6 exact rfl); (iterate 3 kernel_rfl)))|(apply yA)|(apply yB)|(apply yC; kernel_rfl)|(apply yE)|(apply yG)|(apply yH)|(apply yI)|(apply yK)|(apply yL)|(apply yM)
  | (refine W.cond _ rfl (fun hb => ?_) (fun hb => ?_) <;> ((try simp only [hb, zA, zB]) <;> (try simp only [zC, zD, zE, zF, zG, zH, zI, zJ] at hb) <;> (try (exfalso; omega))))))
          all_goals first
            | (exfalso; rw [hq] at hb; exact absurd hb (by decide))
            | (exfalso; omega)|(refine ⟨k + 1, by omega, by omega, ?_⟩; rw [hst2]; exact ⟨[0, 1, 2, 3, 4, 5, 6, 7, 8, 9, 10], rfl, rfl, rfl, iV_eq (by omega), rfl, rfl, rfl, rfl, rfl, rfl, rfl, rfl, rfl, trivial⟩)
  · obtain rfl : k = wN := by omega
    have hls := hSl k
    clear hS hSl hSs hS0 hpn hsp hsn
    generalize S k = Sk at *
    obtain ⟨rs, out⟩ := Sk
    dsimp only at *
    (repeat' (first
  | (apply W.qd; (first
    | (apply q_as; (conv => lhs; whnf))|(apply yT; (iterate 4 exact rfl))
    | (apply q_lss; exact rfl; exact rfl)))|(apply yA)|(apply yB)|(apply yC; kernel_rfl)|(apply yE)|(apply yI)|(apply yJ)|(apply yK)|(apply yM)
  | (refine W.cond _ rfl (fun hb => ?_) (fun hb => ?_) <;> ((try simp only [hb, zA, zB]) <;> (try simp only [zC, zD, zE, zF, zG, zH, zI, zJ] at hb) <;> (try (exfalso; omega))))))
    exact ⟨.inl rfl, [], [.osl 10 out.length 0 out.length, iV 0], rfl, ⟨rfl, rfl, trivial⟩, AVle.tup2 (AVle.of_eq (frz_rowJ rfl rfl (by simp))) (AVle.of_eq rfl), rfl⟩
end Go.Proofs.YtcljokdiblnhiaaGreatDoor
end
section
namespace Go.Proofs.YtcljokdiblnhiaaGreatDoor
open Go.RowKit
set_option maxHeartbeats 4000000
set_option maxRecDepth 100000
attribute [local irreducible] Quiet Eff OpOk AWPG ACont ABlock ACalls AGoto
def smallH (d D : Int) (par : List (List Int)) (mv : List Se) : Bool := smallB D par && (decide (d ≤ 16) && decide (mv.length ≤ 40))
theorem A_small38 {d r n s l i M D : Int} {par : List (List Int)} {mv : List Se} : ACalls Tryz.prog 27 [cfgA d r n s l i, cdA M D par, ses mv] [] (bV (smallH d D par mv)) [] := by
  have hs := A_small (M := M) (D := D) (par := par)
  have hms : (mv.map seD).length = mv.length := List.length_map _
  unfold smallH
  refine acalls_of_body Tryz.func27 rfl (Nat.le_of_ble_eq_true rfl) ?_
  cases hq : smallB D par with
  | false =>
    rw [hq] at hs
    (repeat' (first
  | (apply W.qd; (first
    | (apply (yW (hs)); exact rfl; exact rfl; (iterate 3 kernel_rfl))|(apply q_mv; (conv => lhs; whnf))|(apply q_as; (conv => lhs; whnf))|(apply yU; (iterate 4 exact rfl))
    | (apply (yDb (u := .d _)); exact rfl; exact rfl)))|(apply W.ed; (apply yBb; (iterate 3 exact rfl); kernel_rfl; kernel_rfl))|(refine W.gOff _ _ rfl rfl (by intro h; cases h) ?_)|(apply yA)|(apply yB)|(apply yC; kernel_rfl)|(apply yE)
  | (apply yJ)))
    all_goals exact Ends.b rfl rfl
  | true =>
    rw [hq] at hs
    rw [Bool.true_and]
    (repeat' (first
  | (apply yFb; exact rfl; exact rfl)
  | (apply W.qd; (first
    | (apply (yW (hs)); exact rfl; exact rfl; (iterate 3 kernel_rfl))|(apply q_mv; (conv => lhs; whnf))|(apply q_as; (conv => lhs; whnf))|(apply yS; (iterate 3 exact rfl))|(apply yT; (iterate 4 exact rfl))|(apply yU; (iterate 4 exact rfl))|(apply q_leq; exact rfl; exact rfl)|(apply yV; exact rfl; exact rfl)|(apply (yEb (u := .d _)); exact rfl; exact rfl)
    | (apply (yDb (u := .d _)); exact rfl; exact rfl)))|(apply W.ed; (apply yBb; (iterate 3 exact rfl); kernel_rfl; kernel_rfl))|(refine W.gOff _ _ rfl rfl (by intro h; cases h) ?_)|(apply yA)|(apply yB)|(apply yC; kernel_rfl)|(apply yE)|(apply yJ)
  | (refine W.gT _ _ rfl rfl (fun hb => ?_) (fun hb => ?_) <;> ((try simp only [hb, zA, zB]) <;> (try simp only [zC, zD, zE, zF, zG, zH, zI, zJ] at hb) <;> (try (exfalso; omega))))))
    all_goals first | (refine Ends.b rfl ?_; rw [Bool.eq_iff_iff]; simp <;> omega)
end Go.Proofs.YtcljokdiblnhiaaGreatDoor
end
section
namespace Go.Proofs.YtcljokdiblnhiaaGreatDoor
open Go.RowKit
set_option maxHeartbeats 8000000
set_option maxRecDepth 100000
def rs38 : List (List Nat) := [[1, 1], [1, 2]]
theorem ok_rs38 : CodeOk 8 2 rs38 := by
  obtain ⟨m, d, ps, e1, e2, e3, h⟩ := ok_valid (M := 8) (D := 2) (par := [[1, 1], [1, 2]]) (by kernel_rfl)
  obtain rfl : m = 8 := by omega
  obtain rfl : d = 2 := by omega
  have : ps = rs38 := by
    have h2 := congrArg (fun p => p.map fun r => r.map Int.toNat) e3
    rw [toZ_back] at h2
    exact h2.symm
  rwa [this] at h
def in38 : List Bool := [true, true, false, true, true, true]
theorem v38_1 : planH (plCx 8 2 rs38 6 2 12 2 1 1 1 0 [] [1, 2, 1, 1] in38) [1, 2, 1, 1] 4 = [(1, 0, 1, 0, [(0, 1), (2, 1)])] := by kernel_rfl
theorem v38_2 : doneN (plcI 6 2 12 2 1 1 1 4 0) [] 1 0 1 0 = [(1, 0, 1, 0)] := by kernel_rfl
theorem v38_3 : seatsN (plcI 6 2 12 2 1 1 1 4 0) [(1, 0, 1, 0)] 1 0 = [1, 0, 3, 4] := by kernel_rfl
theorem v38_4 : spareN (sprI 6 2 12 2 1 1 1 4) [(1, 0, 1, 0)] in38 1 = [5] := by kernel_rfl
theorem v38_5 : plcI 6 2 12 2 1 1 1 4 0 = [1, 2, 3, 4] := by kernel_rfl
theorem cdF_avle {nm : List Nat} {M D dom : Int} {par : List (List Int)} : AVle (cdF nm M D par dom) (cdA M D par) := fun _ _ _ _ _ h => cdF_le h
theorem seatN_filter (mv : List Se) (a g h : Int) (u : Nat) : seatN mv a g h u = match mv.filter (atB a g u) with | [] => h | x :: _ => x.2.2.2 := by
  unfold seatN
  by_cases h0 : 0 ≤ idxA (atB a g u) mv
  · obtain ⟨j, hj, e⟩ := idxA_ge0 h0
    obtain ⟨_, h1, h2⟩ := idxA_iff.1 e
    rw [if_pos h0, e, Int.toNat_natCast, List.getD_eq_getElem?_getD, List.getElem?_eq_getElem hj, Option.getD_some]
    have h3 : mv.filter (atB a g u) = mv[j] :: (mv.drop (j + 1)).filter (atB a g u) := by
      conv => lhs; rw [← List.take_append_drop j mv, List.filter_append, List.drop_eq_getElem_cons hj]
      have h4 : (mv.take j).filter (atB a g u) = [] := by
        rw [List.filter_eq_nil_iff]
        intro x hx
        obtain ⟨q, hq, rfl⟩ := List.getElem_of_mem hx
        rw [List.length_take] at hq
        rw [List.getElem_take, h2 q (by omega)]; decide
      rw [h4, List.nil_append, List.filter_cons_of_pos h1]
    rw [h3]
  · rw [if_neg h0]
    have h3 : mv.filter (atB a g u) = [] := by
      rw [List.filter_eq_nil_iff]
      intro x hx
      rw [idxA_neg.1 h0 x hx]; decide
    rw [h3]
theorem atB_eqv (a g u : Int) (x : Se) : atB a g u x = eqvB (ltS cmpS) (a, g, u, 0) x := by
  unfold eqvB atB
  rw [Bool.eq_iff_iff]
  have h1 := ltS_iff (a, g, u, 0) x
  have h2 := ltS_iff x (a, g, u, 0)
  dsimp only at h1 h2
  cases hb1 : ltS cmpS (a, g, u, 0) x <;> cases hb2 : ltS cmpS x (a, g, u, 0) <;> rw [hb1] at h1 <;> rw [hb2] at h2 <;> simp at h1 h2 ⊢ <;> omega
theorem done_filter (L : List Int) (mv : List Se) (a g u dk : Int) (j : Int) : (doneN L mv a g u dk).filter (atB a g j) = if j = u then (if homeB L u dk = true then [] else [(a, g, u, dk)]) else mv.filter (atB a g j) := by
  have e : atB a g j = eqvB (ltS cmpS) (a, g, j, 0) := funext fun x => atB_eqv a g j x
  have h1 : ∀ X : List Se, (sortN (ltS cmpS) X).filter (atB a g j) = X.filter (atB a g j) := fun X => by
    rw [e]; exact (sortN_spec weakS X).2 _
  have h2 : (mv.filter (otherB a g u)).filter (atB a g j) = if j = u then [] else mv.filter (atB a g j) := by
    rw [List.filter_filter]
    by_cases hj : j = u
    · rw [if_pos hj, List.filter_eq_nil_iff]
      intro x _
      subst hj
      unfold otherB
      cases atB a g j x <;> simp
    · rw [if_neg hj]
      refine List.filter_congr fun x _ => ?_
      unfold otherB atB
      rw [Bool.eq_iff_iff]; simp
      intro h3 h4 h5
      exact .inr (.inr (by omega))
  unfold doneN
  rw [h1]
  by_cases hh : homeB L u dk = true
  · rw [if_pos hh, if_pos hh, h2]
  · rw [if_neg hh, if_neg hh, List.filter_append, h2]
    by_cases hj : j = u
    · subst hj
      rw [if_pos rfl, if_pos rfl]
      have : atB a g j (a, g, j, dk) = true := by unfold atB; simp
      rw [List.filter_cons_of_pos this]; rfl
    · rw [if_neg hj, if_neg hj]
      have : atB a g j (a, g, u, dk) = false := by unfold atB; simp; omega
      rw [List.filter_cons_of_neg (by rw [this]; decide)]; simp
abbrev inC (d r n s l i M D : Int) (par : List (List Int)) (a g : Int) (mv : List Se) (st : List Int) (inn : List Bool) : List AV := [iV d, iV r, iV n, iV s, iV l, iV i, .d .any, iV M, iV D, rowsA par, .d .any, iV a, iV g, ses mv, ints st, bools inn]
attribute [local irreducible] Quiet Eff OpOk AWPG ACont ABlock ACalls AGoto
theorem A_sanity38 : ACalls Tryz.prog 26 [] [] (bV true) [] := by
  have p1 := A_hplan (d := 6) (r := 2) (n := 12) (s := 2) (l := 1) (i := 1) (a := 1) (g := 0) (mv := []) (st := [1, 2, 1, 1]) (inn := in38) ok_rs38 (by decide) rfl (by rw [show ((2 + rs38.length : Nat) : Int) = 4 from rfl, v38_5]; simp)
  rw [show [1, 2, 1, (1 : Int)].length = 4 from rfl, v38_1] at p1
  have p1 := p1.le (args' := [cfgA 6 2 12 2 1 1, cdF [] 8 2 (toZ rs38) 0, .agg [iV 1, iV 0], .d (.v (.slice none 0 0)), ints [1, 2, 1, 1], bools in38]) fun F κ w us hs => AVleL.sat (xs := [cfgA 6 2 12 2 1 1, cdF [] 8 2 (toZ rs38) 0, .agg [iV 1, iV 0], .d (.v (.slice none 0 0)), ints [1, 2, 1, 1], bools in38]) (ys := [cfgA 6 2 12 2 1 1, cdN 8 2 rs38, .agg [iV 1, iV 0], ses [], ints [1, 2, 1, 1], bools in38]) ⟨AVle.refl _, by rw [cdN_A]; exact cdF_avle, AVle.refl _, AVle.nil 4, AVle.refl _, AVle.refl _, trivial⟩ F _ κ w us hs
  have p2 := A_hplan_bad (d := 6) (r := 2) (n := 12) (s := 2) (l := 1) (i := 1) (a := 1) (g := 0) (M := 8) (D := 2) (par := toZ rs38) (mv := []) (st := [1, 2, 1]) (inn := in38) (code_in ok_rs38) (fun h => by have := h.2.2; revert this; decide)
  have p2 := p2.le (args' := [cfgA 6 2 12 2 1 1, cdF [] 8 2 (toZ rs38) 0, .agg [iV 1, iV 0], .d (.v (.slice none 0 0)), ints [1, 2, 1], bools in38]) fun F κ w us hs => AVleL.sat (xs := [cfgA 6 2 12 2 1 1, cdF [] 8 2 (toZ rs38) 0, .agg [iV 1, iV 0], .d (.v (.slice none 0 0)), ints [1, 2, 1], bools in38]) (ys := [cfgA 6 2 12 2 1 1, cdA 8 2 (toZ rs38), .agg [iV 1, iV 0], ses [], ints [1, 2, 1], bools in38]) ⟨AVle.refl _, cdF_avle, AVle.refl _, AVle.nil 4, AVle.refl _, AVle.refl _, trivial⟩ F _ κ w us hs
  have p3 := A_done (d := 6) (r := 2) (n := 12) (s := 2) (l := 1) (i := 1) (wd := 4) (a := 1) (g := 0) (u := 1) (dk := 0) (mv := []) (by decide)
  rw [v38_2] at p3
  have p3 := p3.le (args' := [cfgA 6 2 12 2 1 1, iV 4, .d (.v (.slice none 0 0)), .agg [iV 1, iV 0, iV 1], iV 0]) fun F κ w us hs => AVleL.sat (xs := [cfgA 6 2 12 2 1 1, iV 4, .d (.v (.slice none 0 0)), .agg [iV 1, iV 0, iV 1], iV 0]) (ys := [cfgA 6 2 12 2 1 1, iV 4, ses [], .agg [iV 1, iV 0, iV 1], iV 0]) ⟨AVle.refl _, AVle.refl _, AVle.nil 4, AVle.refl _, AVle.refl _, trivial⟩ F _ κ w us hs
  have p4 := A_seats (d := 6) (r := 2) (n := 12) (s := 2) (l := 1) (i := 1) (wd := 4) (a := 1) (g := 0) (mv := [(1, 0, 1, 0)]) (by decide)
  rw [v38_3] at p4
  have p5 := A_spare (d := 6) (r := 2) (n := 12) (s := 2) (l := 1) (i := 1) (wd := 4) (row := 1) (mv := [(1, 0, 1, 0)]) (inn := in38) (by decide)
  rw [v38_4] at p5
  refine acalls_of_body Tryz.func26 rfl (Nat.le_of_ble_eq_true rfl) ?_
  (repeat' (first
  | (apply yFb; exact rfl; exact rfl)
  | (apply W.qd; (first
    | (apply (yW (p1)); exact rfl; exact rfl; (iterate 3 kernel_rfl))|(apply (yW (p2)); exact rfl; exact rfl; (iterate 3 kernel_rfl))|(apply (yW (p3)); exact rfl; exact rfl; (iterate 3 kernel_rfl))|(apply (yW (p4)); exact rfl; exact rfl; (iterate 3 kernel_rfl))|(apply (yW (p5)); exact rfl; exact rfl; (iterate 3 kernel_rfl))|(apply q_mv; (conv => lhs; whnf))|(apply q_as; (conv => lhs; whnf))|(apply yU; (iterate 4 exact rfl))|(apply q_eql; exact rfl; exact rfl)|(apply yAb; exact rfl; exact rfl)|(apply yV; exact rfl; exact rfl)|(apply yX; (iterate 3 exact rfl); (first | omega | (focus (simp; done))))|(apply q_fld_fptF; (iterate 3 exact rfl))|(apply yZ; exact rfl; exact rfl; kernel_rfl)|(apply q_litF; (iterate 5 exact rfl); kernel_rfl; kernel_rfl; exact rfl)|(apply yGb; (iterate 4 exact rfl); (first | (with_reducible exact rfl) | exact natI_spec rfl | assumption | exact (Int.toNat_of_nonneg (by omega)).symm); (first | omega | (focus (simp only [List.length_map]; omega)) | (focus (simp; done)) | (focus (simp; omega))))
    | (apply (yEb (u := .d _)); exact rfl; exact rfl)))|(apply W.ed; (apply yCb; (iterate 3 exact rfl); kernel_rfl))|(apply W.ln; (apply l_st_box; (iterate 6 exact rfl); (iterate 3 kernel_rfl)))|(apply yA)|(apply yB)|(apply yC; kernel_rfl)|(apply yE)
  | (apply yJ)))
  all_goals exact Ends.b rfl rfl
end Go.Proofs.YtcljokdiblnhiaaGreatDoor
end
section
namespace Go.Proofs.YtcljokdiblnhiaaGreatDoor
open Go.RowKit
theorem any_le38 {v : Value} (h : v.oneCell' = true) : AVle (.d (.v v)) (.d .any) := fun F own κ w u hs => by
  rw [sat_v] at hs
  rw [AV.sat, Dat.sat, hs]; exact h
abbrev xinF (d r n s l i : Int) (nm : List Nat) (M D : Int) (par : List (List Int)) (dom a g : Int) (mv : List Se) (st : List Int) (inn : List Bool) : AV := .agg [iV d, iV r, iV n, iV s, iV l, iV i, bS nm, iV M, iV D, rowsA par, iV dom, iV a, iV g, ses mv, ints st, bools inn]
theorem inF_le {d r n s l i : Int} {nm : List Nat} {M D : Int} {par : List (List Int)} {dom a g : Int} {mv : List Se} {st : List Int} {inn : List Bool} : AVle (xinF d r n s l i nm M D par dom a g mv st inn) (.agg (inC d r n s l i M D par a g mv st inn)) :=
  AVle.agg ⟨AVle.refl _, AVle.refl _, AVle.refl _, AVle.refl _, AVle.refl _, AVle.refl _, any_le38 rfl, AVle.refl _, AVle.refl _, AVle.refl _, any_le38 rfl, AVle.refl _, AVle.refl _, AVle.refl _, AVle.refl _, AVle.refl _, trivial⟩
end Go.Proofs.YtcljokdiblnhiaaGreatDoor
end
section
namespace Go.Proofs.YtcljokdiblnhiaaGreatDoor
open Go.RowKit
set_option maxHeartbeats 8000000
set_option maxRecDepth 100000
theorem fi_stT : fldsT Tryz.prog 33 = some [.i 0, .i 1] := by kernel_rfl
attribute [local irreducible] Quiet Eff OpOk AWPG ACont ABlock ACalls AGoto
end Go.Proofs.YtcljokdiblnhiaaGreatDoor
end
section
namespace Go.Proofs.YtcljokdiblnhiaaGreatDoor
open Go.RowKit
set_option maxHeartbeats 8000000
set_option maxRecDepth 100000
def bkB (st se ho : List Int) (inn : List Bool) (u : Nat) : Bool := decide (st.getD u 0 = 1) && (!decide (se.getD u 0 = ho.getD u 0) && srvB inn (ho.getD u 0))
def bkI (ho : List Int) (a g : Int) (u : Nat) : Rb := (a, g, (u : Int), ho.getD u 0, [(u, 1)])
def backTo (st se ho : List Int) (inn : List Bool) (a g : Int) (k : Nat) : List Rb := ((List.range k).filter (bkB st se ho inn)).map (bkI ho a g)
theorem backTo_succ (st se ho : List Int) (inn : List Bool) (a g : Int) (k : Nat) : backTo st se ho inn a g (k + 1) = backTo st se ho inn a g k ++ (if bkB st se ho inn k = true then [bkI ho a g k] else []) := by
  unfold backTo
  rw [List.range_succ, List.filter_append, List.map_append]
  congr 1
  cases hb : bkB st se ho inn k <;> simp [hb]
theorem backTo_len (st se ho : List Int) (inn : List Bool) (a g : Int) (k : Nat) : (backTo st se ho inn a g k).length ≤ k := by
  unfold backTo
  rw [List.length_map]
  exact Nat.le_trans (List.length_filter_le _ _) (by simp)
theorem insN_perm {α : Type} (lt : α → α → Bool) (x : α) : ∀ l : List α, (insN lt x l).Perm (x :: l)
  | [] => List.Perm.refl _
  | y :: l => by
    unfold insN
    split
    · exact ((insN_perm lt x l).cons y).trans (List.Perm.swap x y l)
    · exact List.Perm.refl _
theorem sortN_perm {α : Type} (lt : α → α → Bool) : ∀ l : List α, (sortN lt l).Perm l
  | [] => List.Perm.refl _
  | x :: l => by
    unfold sortN
    exact (insN_perm lt x _).trans ((sortN_perm lt l).cons x)
def othS (a g : Int) (x : Se) : Bool := !(decide (x.1 = a) && decide (x.2.1 = g))
theorem done_others {L : List Int} {mv : List Se} {a g u dk : Int} (h : homeB L u dk = true) : ((doneN L mv a g u dk).filter (othS a g)).length = (mv.filter (othS a g)).length := by
  unfold doneN
  rw [if_pos h]
  have h1 := ((sortN_perm (ltS cmpS) (mv.filter (otherB a g u))).filter (othS a g)).length_eq
  rw [h1, List.filter_filter]
  congr 1
  refine List.filter_congr fun x _ => ?_
  unfold othS otherB atB
  rw [Bool.eq_iff_iff]; simp
  intro h2
  rcases h2 with h2 | h2
  · exact .inl h2
  · exact .inr (.inl h2)
def runB (L : List Int) (a g : Int) (mv : List Se) (l : List Rb) : List Se := l.foldl (fun m x => doneN L m a g x.2.2.1 x.2.2.2.1) mv
theorem runB_snoc (L : List Int) (a g : Int) (mv : List Se) (l : List Rb) (x : Rb) : runB L a g mv (l ++ [x]) = doneN L (runB L a g mv l) a g x.2.2.1 x.2.2.2.1 := by
  unfold runB; rw [List.foldl_append]; rfl
theorem home_bk {ho : List Int} {a g : Int} {u : Nat} (h : u < ho.length) : homeB ho (bkI ho a g u).2.2.1 (bkI ho a g u).2.2.2.1 = true := by
  unfold homeB bkI
  dsimp only
  rw [decide_eq_true (by omega), decide_eq_true (by omega), Int.toNat_natCast, decide_eq_true rfl]; rfl
theorem run_others {ho : List Int} {a g : Int} : ∀ (us : List Nat) (mv : List Se), (∀ u ∈ us, u < ho.length) → ((runB ho a g mv (us.map (bkI ho a g))).filter (othS a g)).length = (mv.filter (othS a g)).length
  | [], _, _ => rfl
  | u :: us, mv, h => by
    have h1 := run_others (a := a) (g := g) us (doneN ho mv a g (bkI ho a g u).2.2.1 (bkI ho a g u).2.2.2.1) fun v hv => h v (by simp [hv])
    rw [done_others (home_bk (h u (by simp)))] at h1
    exact h1
theorem run_filter {ho : List Int} {a g : Int} (j : Int) : ∀ (us : List Nat) (mv : List Se), (∀ u ∈ us, u < ho.length) → (runB ho a g mv (us.map (bkI ho a g))).filter (atB a g j) = if (∃ u ∈ us, (u : Int) = j) then [] else mv.filter (atB a g j)
  | [], mv, _ => by rw [if_neg (by simp)]; rfl
  | u :: us, mv, h => by
    have h1 := run_filter (a := a) (g := g) j us (doneN ho mv a g (bkI ho a g u).2.2.1 (bkI ho a g u).2.2.2.1) fun v hv => h v (by simp [hv])
    have h2 := done_filter ho mv a g (bkI ho a g u).2.2.1 (bkI ho a g u).2.2.2.1 j
    rw [home_bk (h u (by simp)), if_pos rfl] at h2
    rw [h2] at h1
    show (runB ho a g (doneN ho mv a g (bkI ho a g u).2.2.1 (bkI ho a g u).2.2.2.1) (us.map (bkI ho a g))).filter (atB a g j) = _
    rw [h1]
    by_cases e : j = (u : Int)
    · have hE : ∃ v ∈ u :: us, (v : Int) = j := ⟨u, by simp, e.symm⟩
      rw [if_pos hE]
      split
      · rfl
      · rw [if_pos (show j = (bkI ho a g u).2.2.1 from e)]
    · rw [if_neg (show ¬ j = (bkI ho a g u).2.2.1 from e)]
      by_cases e2 : ∃ v ∈ us, (v : Int) = j
      · obtain ⟨v, hv, e3⟩ := e2
        have hE : ∃ v ∈ u :: us, (v : Int) = j := ⟨v, by simp [hv], e3⟩
        have hE2 : ∃ v ∈ us, (v : Int) = j := ⟨v, hv, e3⟩
        rw [if_pos hE, if_pos hE2]
      · have hE : ¬ ∃ v ∈ u :: us, (v : Int) = j := by
          rintro ⟨v, hv, e3⟩
          rcases List.mem_cons.1 hv with h4 | h4
          · subst h4; exact e e3.symm
          · exact e2 ⟨v, h4, e3⟩
        rw [if_neg hE, if_neg e2]
end Go.Proofs.YtcljokdiblnhiaaGreatDoor
end
section
namespace Go.Proofs.YtcljokdiblnhiaaGreatDoor
open Go.RowKit
set_option maxHeartbeats 8000000
set_option maxRecDepth 100000
attribute [local irreducible] Quiet Eff OpOk AWPG ACont ABlock ACalls AGoto
theorem A_back {d r n s l i a g : Int} {mv : List Se} {st : List Int} {inn : List Bool} (hm : mv.length ≤ 1000000) (hstl : st.length ≤ 1000000) : ACalls Tryz.prog 38 [cfgA d r n s l i, iV (st.length : Nat), .agg [iV a, iV g], ses mv, ints st, bools inn] [] (rbs (backTo st (seatsN (plcI d r n s l i a (st.length : Nat) g) mv a g) (plcI d r n s l i a (st.length : Nat) g) inn a g (plcI d r n s l i a (st.length : Nat) g).length)) [] := by
  have hse := A_seats (d := d) (r := r) (n := n) (s := s) (l := l) (i := i) (wd := (st.length : Nat)) (a := a) (g := g) hm
  have hpl := A_lplace d r n s l i a (st.length : Nat) g
  have hms : (st.map iD).length = st.length := List.length_map _
  have hsel := seatsN_len (plcI d r n s l i a (st.length : Nat) g) mv a g
  have hle : (plcI d r n s l i a (st.length : Nat) g).length ≤ st.length := by
    by_cases h : plcI d r n s l i a (st.length : Nat) g = []
    · rw [h]; simp
    · have := (plc_ok h).2.2.2; omega
  generalize seatsN (plcI d r n s l i a (st.length : Nat) g) mv a g = se at *
  generalize plcI d r n s l i a (st.length : Nat) g = ho at *
  have hsv := fun dk => A_serves (inn := inn) (d := dk)
  have hbs := backTo_succ st se ho inn a g
  have hbl := backTo_len st se ho inn a g
  have hb0 : backTo st se ho inn a g 0 = [] := rfl
  have hbk : ∀ k, bkB st se ho inn k = (decide (st.getD k 0 = 1) && (!decide (se.getD k 0 = ho.getD k 0) && srvB inn (ho.getD k 0))) := fun k => rfl
  have hbi : ∀ k, bkI ho a g k = (a, g, (k : Int), ho.getD k 0, [(k, 1)]) := fun k => rfl
  generalize backTo st se ho inn a g = A at *
  have hmh : (ho.map iD).length = ho.length := List.length_map _
  refine acalls_of_body Tryz.func38 rfl (Nat.le_of_ble_eq_true rfl) ?_
  (repeat' (first
  | (apply W.qd; (first
    | (apply (yW (hse)); exact rfl; exact rfl; (iterate 3 kernel_rfl))|(apply q_mv; (conv => lhs; whnf))|(apply q_as; (conv => lhs; whnf))|(apply yU; (iterate 4 exact rfl))|(apply q_neq; exact rfl; exact rfl)
    | (apply yV; exact rfl; exact rfl)))|(apply W.ed; (apply yBb; (iterate 3 exact rfl); kernel_rfl; kernel_rfl))|(apply yA)|(apply yB)|(apply (W.regionS 5); exact rfl; kernel_rfl)|(apply yE)|(apply yH)
  | (refine W.cond _ rfl (fun hb => ?_) (fun hb => ?_) <;> ((try simp only [hb, zA, zB]) <;> (try simp only [zC, zD, zE, zF, zG, zH, zI, zJ] at hb) <;> (try (exfalso; omega))))))
  all_goals try (exfalso; omega)
  refine AWP.nilRow 14 5 84 rfl (by omega) ?_
  (repeat' (first
  | (apply W.qd; (first
    | (apply (yW (hpl)); exact rfl; exact rfl; (iterate 3 kernel_rfl))|(apply q_mv; (conv => lhs; whnf))|(apply yS; (iterate 3 exact rfl))|(apply yT; (iterate 4 exact rfl))|(apply yU; (iterate 4 exact rfl))
    | (apply yV; exact rfl; exact rfl)))|(apply yB)|(apply (W.regionS 6); exact rfl; kernel_rfl)|(apply yE)
  | (apply yG)))
  refine AWP.loopW (α := Nat) (fun k => k ≤ ho.length) (fun k => ⟨[(34, iV k), (33, iV ho.length), (32, ints ho), (14, .osl 2 (A k).length 0 (A k).length), (13, ints se), (4, ints st), (5, bools inn), (8, .opt 1 0)], [.box [iV d, iV r, iV n, iV s, iV l, iV i], .box [iV a, iV g], .row (A k).length 5 84 ((A k).map rbD)]⟩) (fun k => ho.length - k) 0 (Nat.zero_le _) ?wkA fun k hk => ?_
  case wkA => rw [hb0]; exact ⟨[0, 1, 2], rfl, rfl, rfl, rfl, iV_eq (by rw [hmh]), rfl, rfl, rfl, rfl, rfl, rfl, trivial⟩
  by_cases hkl : k < ho.length
  · have hks : k < st.length := by omega
    have hke : k < se.length := by omega
    have g1 : st.getD k 0 = st[k] := by rw [List.getD_eq_getElem?_getD, List.getElem?_eq_getElem hks]; rfl
    have g2 : se.getD k 0 = se[k] := by rw [List.getD_eq_getElem?_getD, List.getElem?_eq_getElem hke]; rfl
    have g3 : ho.getD k 0 = ho[k] := by rw [List.getD_eq_getElem?_getD, List.getElem?_eq_getElem hkl]; rfl
    have h1 := hbs k
    have h2 := hbl k
    rw [hbk, hbi, g1, g2, g3] at h1
    have h3 := hsv ho[k]
    clear hbs hbl hbk hbi hsv hb0
    generalize A k = Ak at *
    by_cases c1 : st[k] = 1
    · by_cases c2 : se[k] = ho[k]
      · rw [decide_eq_true c2, Bool.not_true, Bool.false_and, Bool.and_false, if_neg (by simp), List.append_nil] at h1
        (repeat' (first
  | (apply yFb; exact rfl; exact rfl)
  | (apply W.qd; (first
    | (apply q_mv; (conv => lhs; whnf))|(apply q_as; (conv => lhs; whnf))|(apply q_lss; exact rfl; exact rfl)|(apply q_eql; exact rfl; exact rfl)|(apply q_neq; exact rfl; exact rfl)|(apply q_add; exact rfl; exact rfl; omega)|(apply yX; (iterate 3 exact rfl); (first | omega | (focus (simp; done))))|(apply yGb; (iterate 4 exact rfl); (first | (with_reducible exact rfl) | exact natI_spec rfl | assumption | exact (Int.toNat_of_nonneg (by omega)).symm); (first | omega | (focus (simp only [List.length_map]; omega)) | (focus (simp; done)) | (focus (simp; omega))))|(apply (yEb (u := .d _)); exact rfl; exact rfl)
    | (apply (yDb (u := .d _)); exact rfl; exact rfl)))|(refine W.gOff _ _ rfl rfl (by intro h; cases h) ?_)|(apply yA)|(apply yB)|(apply yC; kernel_rfl)|(apply yE)|(apply yG)|(apply yH)|(apply yL)|(apply yR; exact rfl)|(refine W.gT _ _ rfl rfl (fun hb => ?_) (fun hb => ?_) <;> ((try simp only [hb, zA, zB]) <;> (try simp only [zC, zD, zE, zF, zG, zH, zI, zJ] at hb) <;> (try (exfalso; omega))))
  | (refine W.cond _ rfl (fun hb => ?_) (fun hb => ?_) <;> ((try simp only [hb, zA, zB]) <;> (try simp only [zC, zD, zE, zF, zG, zH, zI, zJ] at hb) <;> (try (exfalso; omega))))))
        all_goals first
          | (exfalso; omega)|(refine ⟨k + 1, by omega, by omega, ?_⟩; rw [h1]; exact ⟨[0, 1, 2], rfl, rfl, rfl, iV_eq (by omega), rfl, rfl, rfl, rfl, rfl, rfl, rfl, trivial⟩)
      · rw [decide_eq_true c1, decide_eq_false c2, Bool.true_and, Bool.not_false, Bool.true_and] at h1
        cases hq : srvB inn ho[k] with
        | true =>
          rw [hq, if_pos rfl] at h1
          rw [hq] at h3
          have el : (Ak ++ [((a, g, (k : Int), ho[k], [(k, 1)]) : Rb)]).length = Ak.length + 1 := by simp
          (repeat' (first
  | (apply yFb; exact rfl; exact rfl)
  | (apply W.qd; (first
    | (apply (yW (h3)); exact rfl; exact rfl; (iterate 3 kernel_rfl))|(apply q_mv; (conv => lhs; whnf))|(apply q_as; (conv => lhs; whnf))|(apply yU; (iterate 4 exact rfl))|(apply q_lss; exact rfl; exact rfl)|(apply q_eql; exact rfl; exact rfl)|(apply q_neq; exact rfl; exact rfl)|(apply q_add; exact rfl; exact rfl; omega)|(apply yX; (iterate 3 exact rfl); (first | omega | (focus (simp; done))))|(apply yZ; exact rfl; exact rfl; kernel_rfl)|(apply q_litF; (iterate 5 exact rfl); kernel_rfl; kernel_rfl; exact rfl)|(apply yGb; (iterate 4 exact rfl); (first | (with_reducible exact rfl) | exact natI_spec rfl | assumption | exact (Int.toNat_of_nonneg (by omega)).symm); (first | omega | (focus (simp only [List.length_map]; omega)) | (focus (simp; done)) | (focus (simp; omega))))
    | (apply (yEb (u := .d _)); exact rfl; exact rfl)))|(apply W.ed; ((apply (e_app1F (f := rbD) (a, g, (k : Int), ho[k], [(k, 1)])); (iterate 8 exact rfl); omega)))|(apply yA)|(apply yB)|(apply yC; kernel_rfl)|(apply yE)|(apply yG)|(apply yH)|(apply yL)|(apply yQ; exact rfl)|(refine W.gT _ _ rfl rfl (fun hb => ?_) (fun hb => ?_) <;> ((try simp only [hb, zA, zB]) <;> (try simp only [zC, zD, zE, zF, zG, zH, zI, zJ] at hb) <;> (try (exfalso; omega))))
  | (refine W.cond _ rfl (fun hb => ?_) (fun hb => ?_) <;> ((try simp only [hb, zA, zB]) <;> (try simp only [zC, zD, zE, zF, zG, zH, zI, zJ] at hb) <;> (try (exfalso; omega))))))
          all_goals first
            | (exfalso; omega)|(refine ⟨k + 1, by omega, by omega, ?_⟩; rw [h1, el]; exact ⟨[0, 1, 2], rfl, rfl, rfl, iV_eq (by omega), rfl, rfl, congrArg (AV.osl 2 (Ak.length + 1) 0) (by simp), rfl, rfl, rfl, rfl, trivial⟩)
        | false =>
          rw [hq, if_neg (by simp), List.append_nil] at h1
          rw [hq] at h3
          (repeat' (first
  | (apply yFb; exact rfl; exact rfl)
  | (apply W.qd; (first
    | (apply (yW (h3)); exact rfl; exact rfl; (iterate 3 kernel_rfl))|(apply q_mv; (conv => lhs; whnf))|(apply q_as; (conv => lhs; whnf))|(apply q_lss; exact rfl; exact rfl)|(apply q_eql; exact rfl; exact rfl)|(apply q_neq; exact rfl; exact rfl)|(apply q_add; exact rfl; exact rfl; omega)|(apply yX; (iterate 3 exact rfl); (first | omega | (focus (simp; done))))|(apply yGb; (iterate 4 exact rfl); (first | (with_reducible exact rfl) | exact natI_spec rfl | assumption | exact (Int.toNat_of_nonneg (by omega)).symm); (first | omega | (focus (simp only [List.length_map]; omega)) | (focus (simp; done)) | (focus (simp; omega))))
    | (apply (yEb (u := .d _)); exact rfl; exact rfl)))|(apply yA)|(apply yB)|(apply yC; kernel_rfl)|(apply yE)|(apply yG)|(apply yH)|(apply yL)|(apply yR; exact rfl)|(refine W.gT _ _ rfl rfl (fun hb => ?_) (fun hb => ?_) <;> ((try simp only [hb, zA, zB]) <;> (try simp only [zC, zD, zE, zF, zG, zH, zI, zJ] at hb) <;> (try (exfalso; omega))))
  | (refine W.cond _ rfl (fun hb => ?_) (fun hb => ?_) <;> ((try simp only [hb, zA, zB]) <;> (try simp only [zC, zD, zE, zF, zG, zH, zI, zJ] at hb) <;> (try (exfalso; omega))))))
          all_goals first
            | (exfalso; omega)|(refine ⟨k + 1, by omega, by omega, ?_⟩; rw [h1]; exact ⟨[0, 1, 2], rfl, rfl, rfl, iV_eq (by omega), rfl, rfl, rfl, rfl, rfl, rfl, rfl, trivial⟩)
    · rw [decide_eq_false c1, Bool.false_and, if_neg (by simp), List.append_nil] at h1
      (repeat' (first
  | (apply W.qd; (first
    | (apply q_mv; (conv => lhs; whnf))|(apply q_as; (conv => lhs; whnf))|(apply q_lss; exact rfl; exact rfl)|(apply q_eql; exact rfl; exact rfl)|(apply q_add; exact rfl; exact rfl; omega)|(apply yX; (iterate 3 exact rfl); (first | omega | (focus (simp; done))))|(apply yGb; (iterate 4 exact rfl); (first | (with_reducible exact rfl) | exact natI_spec rfl | assumption | exact (Int.toNat_of_nonneg (by omega)).symm); (first | omega | (focus (simp only [List.length_map]; omega)) | (focus (simp; done)) | (focus (simp; omega))))
    | (apply (yDb (u := .d _)); exact rfl; exact rfl)))|(refine W.gOff _ _ rfl rfl (by intro h; cases h) ?_)|(apply yA)|(apply yB)|(apply yC; kernel_rfl)|(apply yE)|(apply yG)|(apply yH)|(apply yL)|(apply yR; exact rfl)|(refine W.gT _ _ rfl rfl (fun hb => ?_) (fun hb => ?_) <;> ((try simp only [hb, zA, zB]) <;> (try simp only [zC, zD, zE, zF, zG, zH, zI, zJ] at hb) <;> (try (exfalso; omega))))
  | (refine W.cond _ rfl (fun hb => ?_) (fun hb => ?_) <;> ((try simp only [hb, zA, zB]) <;> (try simp only [zC, zD, zE, zF, zG, zH, zI, zJ] at hb) <;> (try (exfalso; omega))))))
      all_goals first
        | (exfalso; omega)|(refine ⟨k + 1, by omega, by omega, ?_⟩; rw [h1]; exact ⟨[0, 1, 2], rfl, rfl, rfl, iV_eq (by omega), rfl, rfl, rfl, rfl, rfl, rfl, rfl, trivial⟩)
  · obtain rfl : k = ho.length := by omega
    have h2 := hbl ho.length
    clear hbs hbl hbk hbi hsv hb0
    generalize A ho.length = Ak at *
    (repeat' (first
  | (apply W.qd; (first
    | (apply q_mv; (conv => lhs; whnf))|(apply q_as; (conv => lhs; whnf))
    | (apply q_lss; exact rfl; exact rfl)))|(apply yA)|(apply yB)|(apply yC; kernel_rfl)|(apply yE)|(apply yI)|(apply yJ)|(apply yK)|(apply yM)
  | (refine W.cond _ rfl (fun hb => ?_) (fun hb => ?_) <;> ((try simp only [hb, zA, zB]) <;> (try simp only [zC, zD, zE, zF, zG, zH, zI, zJ] at hb) <;> (try (exfalso; omega))))))
    exact Ends.osl rfl rfl (by simp) rfl
end Go.Proofs.YtcljokdiblnhiaaGreatDoor
end
section
namespace Go.Proofs.YtcljokdiblnhiaaGreatDoor
open Go.RowKit
set_option maxHeartbeats 8000000
set_option maxRecDepth 100000
theorem run_len (L : List Int) (a g : Int) : ∀ (l : List Rb) (mv : List Se), (runB L a g mv l).length ≤ mv.length + l.length
  | [], mv => by simp [runB]
  | x :: l, mv => by
    have h1 := run_len L a g l (doneN L mv a g x.2.2.1 x.2.2.2.1)
    have h2 := doneN_len L mv a g x.2.2.1 x.2.2.2.1
    have h3 : runB L a g mv (x :: l) = runB L a g (doneN L mv a g x.2.2.1 x.2.2.2.1) l := rfl
    rw [h3, List.length_cons]; omega
theorem ordI_lt {d r n s l i a y : Int} (h : y ∈ ordI d r n s l i a) : 0 ≤ y ∧ y < d := by
  refine ⟨ordI_nn h, ?_⟩
  unfold ordI at h
  split at h
  · rename_i hk
    obtain ⟨D, R, rfl, rfl, h1, h2, h3, h4⟩ := hk.1.nat2
    unfold I ord at h
    obtain ⟨x, hx, rfl⟩ := List.mem_map.1 h
    obtain ⟨p, hp, rfl⟩ := List.mem_map.1 hx
    rw [Int.toNat_natCast]
    have := Nat.mod_lt (mulAt D (R : Int).toNat a.toNat * p + a.toNat) (show 0 < D by omega)
    rw [Int.toNat_natCast] at *
    omega
  · simp at h
theorem plc_lt {d r n s l i a w g y : Int} (h : y ∈ plcI d r n s l i a w g) : 0 ≤ y ∧ y < d := by
  unfold plcI at h
  split at h
  · exact ordI_lt (List.mem_of_mem_drop (List.mem_of_mem_take h))
  · simp at h
theorem srv_all {dN : Nat} {y : Int} (h : 0 ≤ y ∧ y < (dN : Int)) : srvB (List.replicate dN true) y = true := by
  unfold srvB
  rw [decide_eq_true h.1, List.length_replicate, decide_eq_true h.2, List.getD_eq_getElem?_getD, List.getElem?_replicate, if_pos (by omega)]; rfl
def goN (wN dN : Nat) (ho : List Int) (mv : List Se) (a g : Int) : List Nat := (List.range ho.length).filter (bkB (List.replicate wN 1) (seatsN ho mv a g) ho (List.replicate dN true))
theorem goN_lt {wN dN : Nat} {ho : List Int} {mv : List Se} {a g : Int} : ∀ u ∈ goN wN dN ho mv a g, u < ho.length := fun u h => by
  unfold goN at h
  exact List.mem_range.1 (List.mem_filter.1 h).1
theorem goN_not {wN dN : Nat} {ho : List Int} {mv : List Se} {a g : Int} (hw : ho.length = wN) (hd : ∀ y ∈ ho, 0 ≤ y ∧ y < (dN : Int)) {u : Nat} (hu : u < ho.length) (h : ¬ u ∈ goN wN dN ho mv a g) : seatN mv a g ho[u] u = ho[u] := by
  have h1 : ¬ bkB (List.replicate wN 1) (seatsN ho mv a g) ho (List.replicate dN true) u = true := fun h2 => h (by unfold goN; exact List.mem_filter.2 ⟨List.mem_range.2 hu, h2⟩)
  unfold bkB at h1
  have e1 : (List.replicate wN (1 : Int)).getD u 0 = 1 := by rw [List.getD_eq_getElem?_getD, List.getElem?_replicate, if_pos (by omega)]; rfl
  have e2 : ho.getD u 0 = ho[u] := by rw [List.getD_eq_getElem?_getD, List.getElem?_eq_getElem hu]; rfl
  have e3 : (seatsN ho mv a g).getD u 0 = seatN mv a g ho[u] u := by rw [List.getD_eq_getElem?_getD, List.getElem?_eq_getElem (by rw [seatsN_len]; exact hu), Option.getD_some, seatsN_get hu]
  rw [e1, e2, e3, srv_all (hd _ (List.getElem_mem hu))] at h1
  by_cases e : seatN mv a g ho[u] u = ho[u]
  · exact e
  · rw [decide_eq_false e] at h1
    exact absurd rfl h1
theorem back_home {wN dN : Nat} {ho : List Int} {mv : List Se} {a g : Int} (hw : ho.length = wN) (hd : ∀ y ∈ ho, 0 ≤ y ∧ y < (dN : Int)) : seatsN ho (runB ho a g mv ((goN wN dN ho mv a g).map (bkI ho a g))) a g = ho := by
  apply List.ext_getElem
  · rw [seatsN_len]
  · intro u h1 h2
    rw [seatsN_get h2, seatN_filter, run_filter (u : Int) _ mv goN_lt]
    by_cases e : u ∈ goN wN dN ho mv a g
    · have hE : ∃ v ∈ goN wN dN ho mv a g, (v : Int) = (u : Int) := ⟨u, e, rfl⟩
      rw [if_pos hE]
    · have hE : ¬ ∃ v ∈ goN wN dN ho mv a g, (v : Int) = (u : Int) := by
        rintro ⟨v, hv, e2⟩
        obtain rfl : v = u := by omega
        exact e hv
      rw [if_neg hE, ← seatN_filter]
      exact goN_not hw hd h2 e
theorem back_none (st ho : List Int) (inn : List Bool) (a g : Int) (k : Nat) : backTo st ho ho inn a g k = [] := by
  unfold backTo
  have : (List.range k).filter (bkB st ho ho inn) = [] := by
    rw [List.filter_eq_nil_iff]
    intro u _
    unfold bkB
    rw [decide_eq_true rfl]; simp
  rw [this]; rfl
theorem goN_back {wN dN : Nat} {ho : List Int} {mv : List Se} {a g : Int} : backTo (List.replicate wN 1) (seatsN ho mv a g) ho (List.replicate dN true) a g ho.length = (goN wN dN ho mv a g).map (bkI ho a g) := rfl
theorem filt_take {l : List Se} {q : Se → Bool} {k : Nat} (h : k < l.length) : ((l.take (k + 1)).filter q).length = ((l.take k).filter q).length + (if q l[k] = true then 1 else 0) := by
  rw [List.take_succ_eq_append_getElem h, List.filter_append, List.length_append]
  congr 1
  cases hq : q l[k] <;> simp [hq]
theorem fi_trm : fldsT Tryz.prog 92 = some [.i 0, .i 1] := by kernel_rfl
attribute [local irreducible] Quiet Eff OpOk AWPG ACont ABlock ACalls AGoto
theorem A_healBack {d r n s l i M D a g : Int} {par : List (List Int)} {mv : List Se} {st : List Int} {inn : List Bool} (hp : CodeIn par) (hmv : mv.length ≤ 9223372036854775807) : ACalls Tryz.prog 9 [.agg (inC d r n s l i M D par a g mv st inn)] [] (bV true) [] := by
  have hsa := A_sanity38
  have hsm := A_small38 (d := d) (r := r) (n := n) (s := s) (l := l) (i := i) (M := M) (D := D) (par := par) (mv := mv)
  have hw := A_ewidth (M := M) (D := D) hp
  have hms : (mv.map seD).length = mv.length := List.length_map _
  generalize (if validC M D par = true then D + (par.length : Int) else 0) = w at *
  have hpl := A_lplace d r n s l i a w g
  have hple := plcI_len d r n s l i a w g
  refine acalls_of_body Tryz.func9 rfl (Nat.le_of_ble_eq_true rfl) ?_
  cases hq : smallH d D par mv with
  | false =>
    rw [hq] at hsm
    generalize plcI d r n s l i a w g = ho at *
    (repeat' (first
  | (apply W.qd; (first
    | (apply (yW (hsa)); exact rfl; exact rfl; (iterate 3 kernel_rfl))|(apply (yW (hsm)); exact rfl; exact rfl; (iterate 3 kernel_rfl))|(apply (yW (hw)); exact rfl; exact rfl; (iterate 3 kernel_rfl))|(apply (yW (hpl)); exact rfl; exact rfl; (iterate 3 kernel_rfl))|(apply q_mv; (conv => lhs; whnf))|(apply q_as; (conv => lhs; whnf))|(apply yS; (iterate 3 exact rfl))|(apply yT; (iterate 4 exact rfl))|(apply yU; (iterate 4 exact rfl))|(apply q_not; exact rfl)
    | (apply (yEb (u := .d _)); exact rfl; exact rfl)))|(apply W.ed; (apply yBb; (iterate 3 exact rfl); kernel_rfl; kernel_rfl))|(refine W.gOff _ _ rfl rfl (by intro h; cases h) ?_)|(apply yA)|(apply yB)|(apply (W.regionS 6); exact rfl; kernel_rfl)|(apply yE)|(apply yJ)|(apply yP)
  | (apply yQ; exact rfl)))
    all_goals first | (exfalso; omega) | exact Ends.b rfl rfl
  | true =>
  rw [hq] at hsm
  have hm40 : mv.length ≤ 40 := by
    unfold smallH at hq
    simp only [Bool.and_eq_true, decide_eq_true_eq] at hq
    exact hq.2.2
  by_cases hne : plcI d r n s l i a w g = []
  · rw [hne] at hpl
    (repeat' (first
  | (apply yFb; exact rfl; exact rfl)
  | (apply W.qd; (first
    | (apply (yW (hsa)); exact rfl; exact rfl; (iterate 3 kernel_rfl))|(apply (yW (hsm)); exact rfl; exact rfl; (iterate 3 kernel_rfl))|(apply (yW (hw)); exact rfl; exact rfl; (iterate 3 kernel_rfl))|(apply (yW (hpl)); exact rfl; exact rfl; (iterate 3 kernel_rfl))|(apply q_mv; (conv => lhs; whnf))|(apply q_as; (conv => lhs; whnf))|(apply yS; (iterate 3 exact rfl))|(apply yT; (iterate 4 exact rfl))|(apply yU; (iterate 4 exact rfl))|(apply q_eql; exact rfl; exact rfl)|(apply q_not; exact rfl)|(apply yV; exact rfl; exact rfl)
    | (apply (yDb (u := .d _)); exact rfl; exact rfl)))|(apply W.ed; (apply yBb; (iterate 3 exact rfl); kernel_rfl; kernel_rfl))|(apply yA)|(apply yB)|(apply (W.regionS 6); exact rfl; kernel_rfl)|(apply yE)|(apply yJ)|(apply yP)
  | (apply yQ; exact rfl)))
    all_goals first | (exfalso; omega) | exact Ends.b rfl rfl
  obtain ⟨hok, hrow, hgg, hlen⟩ := plc_ok hne
  obtain ⟨b1, b2, b3, b4, b5⟩ := hok.bd
  obtain ⟨dN, rfl⟩ := Int.eq_ofNat_of_zero_le (show 0 ≤ d by omega)
  obtain ⟨wN, rfl⟩ := Int.eq_ofNat_of_zero_le (show 0 ≤ w by omega)
  have hhd : ∀ y ∈ plcI dN r n s l i a wN g, 0 ≤ y ∧ y < (dN : Int) := fun y hy => plc_lt hy
  have hhw : (plcI dN r n s l i a wN g).length = wN := by omega
  have hB1 := A_back (d := dN) (r := r) (n := n) (s := s) (l := l) (i := i) (a := a) (g := g) (mv := mv) (st := List.replicate wN 1) (inn := List.replicate dN true) (by omega) (by rw [List.length_replicate]; omega)
  have hL1 := run_len (plcI dN r n s l i a wN g) a g ((goN wN dN (plcI dN r n s l i a wN g) mv a g).map (bkI (plcI dN r n s l i a wN g) a g)) mv
  have hUl : (goN wN dN (plcI dN r n s l i a wN g) mv a g).length ≤ wN := by
    unfold goN
    exact Nat.le_trans (List.length_filter_le _ _) (by rw [List.length_range]; omega)
  rw [List.length_map] at hL1
  have hB2 := A_back (d := dN) (r := r) (n := n) (s := s) (l := l) (i := i) (a := a) (g := g) (mv := runB (plcI dN r n s l i a wN g) a g mv ((goN wN dN (plcI dN r n s l i a wN g) mv a g).map (bkI (plcI dN r n s l i a wN g) a g))) (st := List.replicate wN 1) (inn := List.replicate dN true) (by omega) (by rw [List.length_replicate]; omega)
  have hS2 := A_seats (d := dN) (r := r) (n := n) (s := s) (l := l) (i := i) (wd := wN) (a := a) (g := g) (mv := runB (plcI dN r n s l i a wN g) a g mv ((goN wN dN (plcI dN r n s l i a wN g) mv a g).map (bkI (plcI dN r n s l i a wN g) a g))) (by omega)
  rw [List.length_replicate] at hB1 hB2
  rw [goN_back] at hB1
  rw [back_home hhw hhd, back_none] at hB2
  rw [back_home hhw hhd] at hS2
  have hQ := A_same13 (plcI dN r n s l i a wN g) (plcI dN r n s l i a wN g)
  rw [decide_eq_true rfl] at hQ
  have hoth := run_others (a := a) (g := g) (goN wN dN (plcI dN r n s l i a wN g) mv a g) mv goN_lt
  have hDn := fun (k : Nat) (x : Rb) (mk : List Se) (hmk : mk.length ≤ 900000) => A_done (d := dN) (r := r) (n := n) (s := s) (l := l) (i := i) (wd := wN) (a := x.1) (g := x.2.1) (u := x.2.2.1) (dk := x.2.2.2.1) (mv := mk) hmk
  have hrl := fun ll : List Rb => run_len (plcI dN r n s l i a wN g) a g ll mv
  clear hok hgg hlen
  have hpe : plcI dN r n s l i a wN g = plcI dN r n s l i a wN g := rfl
  generalize hho : plcI dN r n s l i a wN g = ho at *
  generalize hU : goN wN dN ho mv a g = U at *
  clear hne hpe
  have hmU : (U.map (bkI ho a g)).length = U.length := List.length_map _
  have hmU2 : ((U.map (bkI ho a g)).map rbD).length = U.length := by rw [List.length_map, List.length_map]
  (repeat' (first
  | (apply yFb; exact rfl; exact rfl)
  | (apply W.qd; (first
    | (apply (yW (hsa)); exact rfl; exact rfl; (iterate 3 kernel_rfl))|(apply (yW (hsm)); exact rfl; exact rfl; (iterate 3 kernel_rfl))|(apply (yW (hw)); exact rfl; exact rfl; (iterate 3 kernel_rfl))|(apply (yW (hpl)); exact rfl; exact rfl; (iterate 3 kernel_rfl))|(apply q_mv; (conv => lhs; whnf))|(apply q_as; (conv => lhs; whnf))|(apply yS; (iterate 3 exact rfl))|(apply yT; (iterate 4 exact rfl))|(apply yU; (iterate 4 exact rfl))|(apply q_eql; exact rfl; exact rfl)|(apply q_not; exact rfl)|(apply yV; exact rfl; exact rfl)
    | (apply (yDb (u := .d _)); exact rfl; exact rfl)))|(apply W.ed; (apply yBb; (iterate 3 exact rfl); kernel_rfl; kernel_rfl))|(apply yA)|(apply yB)|(apply (W.regionS 7); exact rfl; kernel_rfl)|(apply yE)|(apply yH)
  | (refine W.cond _ rfl (fun hb => ?_) (fun hb => ?_) <;> ((try simp only [hb, zA, zB]) <;> (try simp only [zC, zD, zE, zF, zG, zH, zI, zJ] at hb) <;> (try (exfalso; omega))))))
  all_goals try (exfalso; omega)
  refine AWP.nilRow 6 1 4 rfl (by omega) ?_
  (repeat' (first
  | (apply W.qd; (apply q_as; (conv => lhs; whnf)))|(apply yB)|(apply (W.regionS 8); exact rfl; kernel_rfl)|(apply yE)
  | (apply yG)))
  refine AWP.loopW (α := Nat) (fun k => k ≤ dN) (fun k => ⟨[(7, iV k), (6, .osl 1 k 0 (List.replicate k true).length), (1, .opt 0 0), (3, bV true), (4, iV wN), (5, ints ho)], [.box (inC dN r n s l i M D par a g mv st inn), .row k 1 4 ((List.replicate k true).map tD)]⟩) (fun k => dN - k) 0 (Nat.zero_le _) ⟨[0, 1], rfl, rfl, rfl, by (repeat (first | exact trivial | refine ⟨rfl, ?_⟩))⟩ fun k hk => ?_
  by_cases hkl : k < dN
  · have hrp : List.replicate (k + 1) true = List.replicate k true ++ [true] := List.replicate_succ'
    have hln : (List.replicate k true).length = k := List.length_replicate
    replace hrp := Lib.hid hrp
    clear hB1 hB2 hS2 hDn hrl hoth
    generalize List.replicate k true = A at *
    (repeat' (first
  | (apply W.qd; (first
    | (apply q_mv; (conv => lhs; whnf))|(apply q_as; (conv => lhs; whnf))|(apply yS; (iterate 3 exact rfl))|(apply yT; (iterate 4 exact rfl))|(apply q_lss; exact rfl; exact rfl)|(apply q_add; exact rfl; exact rfl; omega)
    | (apply q_litF; (iterate 5 exact rfl); kernel_rfl; kernel_rfl; exact rfl)))|(apply W.ld; (apply l_app1; (iterate 8 exact rfl); (first | omega | (focus (simp; omega)) | (focus (simp; done)))))|(apply yA)|(apply yB)|(apply yC; kernel_rfl)|(apply yE)|(apply yG)|(apply yH)|(apply yL)
  | (refine W.cond _ rfl (fun hb => ?_) (fun hb => ?_) <;> ((try simp only [hb, zA, zB]) <;> (try simp only [zC, zD, zE, zF, zG, zH, zI, zJ] at hb) <;> (try (exfalso; omega))))))
    all_goals first
      | (exfalso; omega)|(refine ⟨k + 1, by omega, by omega, ?_⟩; rw [hrp.out]; exact ⟨[0, 1], rfl, rfl, rfl, iV_eq (by omega), rfl, rfl, rfl, rfl, rfl, trivial⟩)
  obtain rfl : k = dN := by omega
  (repeat' (first
  | (apply W.qd; (first
    | (apply q_mv; (conv => lhs; whnf))|(apply q_as; (conv => lhs; whnf))|(apply yS; (iterate 3 exact rfl))|(apply yT; (iterate 4 exact rfl))
    | (apply q_lss; exact rfl; exact rfl)))|(apply yA)|(apply yB)|(apply (W.regionS 12); exact rfl; kernel_rfl)|(apply yE)|(apply yI)|(apply yK)|(apply yM)
  | (refine W.cond _ rfl (fun hb => ?_) (fun hb => ?_) <;> ((try simp only [hb, zA, zB]) <;> (try simp only [zC, zD, zE, zF, zG, zH, zI, zJ] at hb) <;> (try (exfalso; omega))))))
  all_goals try (exfalso; omega)
  refine AWP.nilRow 8 1 3 rfl (by omega) ?_
  (repeat' (first
  | (apply W.qd; (apply q_as; (conv => lhs; whnf)))|(apply yB)|(apply (W.regionS 13); exact rfl; kernel_rfl)|(apply yE)
  | (apply yG)))
  obtain ⟨dN, rfl⟩ : ∃ dN, dN = k := ⟨_, rfl⟩
  refine AWP.loopW (α := Nat) (fun k => k ≤ wN) (fun k => ⟨[(9, iV k), (8, .osl 1 k 0 (List.replicate k (1 : Int)).length), (6, bools (List.replicate dN true)), (1, .opt 0 0), (3, bV true), (4, iV wN), (5, ints ho)], [.box (inC dN r n s l i M D par a g mv st inn), .row k 1 3 ((List.replicate k (1 : Int)).map iD)]⟩) (fun k => wN - k) 0 (Nat.zero_le _) ?wkB fun k hk => ?_
  case wkB => exact ⟨[0, 2], rfl, rfl, rfl, rfl, rfl, (frz_rowJ (i := 1) (ver := dN) (n := (List.replicate dN true).length) (l := (List.replicate dN true).map tD) rfl rfl (by simp)).symm, rfl, rfl, rfl, rfl, trivial⟩
  by_cases hkl : k < wN
  · have hrp : List.replicate (k + 1) (1 : Int) = List.replicate k 1 ++ [1] := List.replicate_succ'
    have hln : (List.replicate k (1 : Int)).length = k := List.length_replicate
    replace hrp := Lib.hid hrp
    clear hB1 hB2 hS2 hDn hrl hoth
    generalize List.replicate k (1 : Int) = A at *
    (repeat' (first
  | (apply W.qd; (first
    | (apply q_mv; (conv => lhs; whnf))|(apply q_as; (conv => lhs; whnf))|(apply q_lss; exact rfl; exact rfl)|(apply q_add; exact rfl; exact rfl; omega)
    | (apply q_litF; (iterate 5 exact rfl); kernel_rfl; kernel_rfl; exact rfl)))|(apply W.ld; (apply l_app1; (iterate 8 exact rfl); (first | omega | (focus (simp; omega)) | (focus (simp; done)))))|(apply yA)|(apply yB)|(apply yC; kernel_rfl)|(apply yE)|(apply yG)|(apply yH)|(apply yL)
  | (refine W.cond _ rfl (fun hb => ?_) (fun hb => ?_) <;> ((try simp only [hb, zA, zB]) <;> (try simp only [zC, zD, zE, zF, zG, zH, zI, zJ] at hb) <;> (try (exfalso; omega))))))
    all_goals first
      | (exfalso; omega)|(refine ⟨k + 1, by omega, by omega, ?_⟩; rw [hrp.out]; exact ⟨[0, 1], rfl, rfl, rfl, iV_eq (by omega), rfl, rfl, rfl, rfl, rfl, rfl, trivial⟩)
  obtain rfl : k = wN := by omega
  (repeat' (first
  | (apply W.qd; (first
    | (apply q_mv; (conv => lhs; whnf))
    | (apply q_lss; exact rfl; exact rfl)))|(apply yA)|(apply yB)|(apply (W.regionS 16); exact rfl; kernel_rfl)|(apply yE)|(apply yI)|(apply yK)|(apply yM)
  | (refine W.cond _ rfl (fun hb => ?_) (fun hb => ?_) <;> ((try simp only [hb, zA, zB]) <;> (try simp only [zC, zD, zE, zF, zG, zH, zI, zJ] at hb) <;> (try (exfalso; omega))))))
  all_goals try (exfalso; omega)
  obtain ⟨wN, rfl⟩ : ∃ wN, wN = k := ⟨_, rfl⟩
  refine AWP.wk ⟨[(8, ints (List.replicate wN 1)), (6, bools (List.replicate dN true)), (1, .opt 0 0), (3, bV true), (4, iV wN), (5, ints ho)], [.box (inC dN r n s l i M D par a g mv st inn)]⟩ ⟨[0], rfl, rfl, rfl, (frz_rowJ (i := 1) (ver := wN) (n := (List.replicate wN (1 : Int)).length) (l := (List.replicate wN (1 : Int)).map iD) rfl rfl (by simp)).symm, rfl, rfl, rfl, rfl, rfl, trivial⟩ ?_
  have hUm : ∀ k (hk : k < U.length), (U.map (bkI ho a g))[k]'(by rw [hmU]; exact hk) = bkI ho a g U[k] := fun k hk => List.getElem_map _
  have hUk : ∀ k (hk : k < U.length), runB ho a g mv ((U.take (k + 1)).map (bkI ho a g)) = doneN ho (runB ho a g mv ((U.take k).map (bkI ho a g))) a g (bkI ho a g U[k]).2.2.1 (bkI ho a g U[k]).2.2.2.1 := fun k hk => by
    rw [List.take_succ_eq_append_getElem hk, List.map_append, List.map_singleton, runB_snoc]
  generalize hLL : U.map (bkI ho a g) = LL at *
  generalize hAA : List.replicate wN (1 : Int) = AA at *
  generalize hBB : List.replicate dN true = BB at *
  (repeat' (first
  | (apply W.qd; (first
    | (apply (yW (hB1)); exact rfl; exact rfl; (iterate 3 kernel_rfl))|(apply q_mv; (conv => lhs; whnf))|(apply q_as; (conv => lhs; whnf))|(apply yS; (iterate 3 exact rfl))|(apply yT; (iterate 4 exact rfl))
    | (apply yU; (iterate 4 exact rfl))))|(apply yA)|(apply yB)|(apply (W.regionS 19); exact rfl; kernel_rfl)|(apply yE)
  | (apply yG)))
  all_goals try (exfalso; omega)
  refine AWP.loopW (α := Nat) (fun k => k ≤ U.length) (fun k => ⟨[(12, iV k), (11, ses (runB ho a g mv ((U.take k).map (bkI ho a g)))), (10, rbs LL), (8, ints AA), (6, bools BB), (1, .opt 0 0), (3, bV true), (4, iV wN), (5, ints ho)], [.box (inC dN r n s l i M D par a g mv st inn)]⟩) (fun k => U.length - k) 0 (Nat.zero_le _) ⟨[0], rfl, rfl, rfl, by (repeat (first | exact trivial | refine ⟨rfl, ?_⟩))⟩ fun k hk => ?_
  by_cases hkl : k < U.length
  · have hkL : k < LL.length := by omega
    have hx : LL[k]'hkL = bkI ho a g U[k] := hUm k hkl
    have hr := hUk k hkl
    rw [← hx] at hr
    have x1 : (LL[k]'hkL).1 = a := by rw [hx]; rfl
    have x2 : (LL[k]'hkL).2.1 = g := by rw [hx]; rfl
    have x3 : (LL[k]'hkL).2.2.2.2.length = 1 := by rw [hx]; rfl
    have x4 : ((LL[k]'hkL).2.2.2.2)[0]'(by omega) = (U[k], 1) := by simp only [hx]; rfl
    have x5 : (LL[k]'hkL).2.2.1 = (U[k] : Int) := by rw [hx]; rfl
    have hml1 : (((LL[k]'hkL).2.2.2.2).map tmD).length = 1 := by rw [List.length_map]; exact x3
    have hrk := hrl ((U.take k).map (bkI ho a g))
    rw [List.length_map, List.length_take] at hrk
    have hD := hDn 0 (LL[k]'hkL) (runB ho a g mv ((U.take k).map (bkI ho a g))) (by omega)
    have eR : doneN (plcI dN r n s l i (LL[k]'hkL).1 wN (LL[k]'hkL).2.1) (runB ho a g mv ((U.take k).map (bkI ho a g))) (LL[k]'hkL).1 (LL[k]'hkL).2.1 (LL[k]'hkL).2.2.1 (LL[k]'hkL).2.2.2.1 = runB ho a g mv ((U.take (k + 1)).map (bkI ho a g)) := by rw [hr, x1, x2, hho]
    rw [eR] at hD
    clear hB1 hB2 hS2 hDn hrl hoth hUm hUk hr eR hx
    generalize hR1 : runB ho a g mv ((U.take (k + 1)).map (bkI ho a g)) = R1 at *
    generalize runB ho a g mv ((U.take k).map (bkI ho a g)) = R0 at *
    (repeat' (first
  | (apply yFb; exact rfl; exact rfl)
  | (apply W.qd; (first
    | (apply (yW (hD)); exact rfl; exact rfl; (iterate 3 kernel_rfl))
    | ((apply q_ld_mapp; (iterate 3 exact rfl); omega))
    | ((apply (q_neT fi_trm); (iterate 5 exact rfl); exact (show _ = false by simp [x4, x5])))|(apply q_mv; (conv => lhs; whnf))|(apply q_as; (conv => lhs; whnf))|(apply yS; (iterate 3 exact rfl))|(apply yU; (iterate 4 exact rfl))|(apply q_lss; exact rfl; exact rfl)|(apply q_neq; exact rfl; exact rfl)|(apply q_add; exact rfl; exact rfl; omega)|(apply yV; exact rfl; exact rfl)|(apply yX; (iterate 3 exact rfl); (first | omega | (focus (simp; done))))|(apply q_fld_fptF; (iterate 3 exact rfl))|(apply yZ; exact rfl; exact rfl; kernel_rfl)|(apply yGb; (iterate 4 exact rfl); (first | (with_reducible exact rfl) | exact natI_spec rfl | assumption | exact (Int.toNat_of_nonneg (by omega)).symm); (first | omega | (focus (simp only [List.length_map]; omega)) | (focus (simp; done)) | (focus (simp; omega))))
    | (apply (yDb (u := .d _)); exact rfl; exact rfl)))|(apply yA)|(apply yB)|(apply yC; kernel_rfl)|(apply yD; exact rfl; kernel_rfl)|(apply yE)|(apply yF; kernel_rfl)|(apply yG)|(apply yH)|(apply yL)|(apply yR; exact rfl)|(refine W.gF _ _ rfl rfl (fun hb => ?_) (fun hb => ?_) <;> ((try simp only [hb, zA, zB]) <;> (try simp only [zC, zD, zE, zF, zG, zH, zI, zJ] at hb) <;> (try (exfalso; omega))))
  | (refine W.cond _ rfl (fun hb => ?_) (fun hb => ?_) <;> ((try simp only [hb, zA, zB]) <;> (try simp only [zC, zD, zE, zF, zG, zH, zI, zJ] at hb) <;> (try (exfalso; omega))))))
    all_goals first
      | (exfalso; omega)|(refine ⟨k + 1, by omega, by omega, ?_⟩; rw [hR1]; exact ⟨[0], rfl, rfl, rfl, iV_eq (by omega), rfl, rfl, rfl, rfl, rfl, rfl, rfl, rfl, trivial⟩)
  obtain rfl : k = U.length := by omega
  rw [List.take_length, hLL]
  have hrF := hrl LL
  clear hB1 hDn hrl hUm hUk
  generalize runB ho a g mv LL = RF at *
  have hmF : (RF.map seD).length = RF.length := List.length_map _
  (repeat' (first
  | (apply W.qd; (first
    | (apply q_mv; (conv => lhs; whnf))|(apply q_as; (conv => lhs; whnf))|(apply q_lss; exact rfl; exact rfl)
    | (apply yV; exact rfl; exact rfl)))|(apply yA)|(apply yB)|(apply (W.regionS 26); exact rfl; kernel_rfl)|(apply yE)|(apply yG)|(apply yI)|(apply yK)|(apply yM)
  | (refine W.cond _ rfl (fun hb => ?_) (fun hb => ?_) <;> ((try simp only [hb, zA, zB]) <;> (try simp only [zC, zD, zE, zF, zG, zH, zI, zJ] at hb) <;> (try (exfalso; omega))))))
  all_goals try (exfalso; omega)
  refine AWP.loopW (α := Nat) (fun k => k ≤ mv.length) (fun k => ⟨[(14, iV k), (13, iV ((mv.take k).filter (othS a g)).length), (11, ses RF), (8, ints AA), (6, bools BB), (1, .opt 0 0), (3, bV true), (4, iV wN), (5, ints ho)], [.box (inC dN r n s l i M D par a g mv st inn)]⟩) (fun k => mv.length - k) 0 (Nat.zero_le _) ⟨[0], rfl, rfl, rfl, by (repeat (first | exact trivial | refine ⟨rfl, ?_⟩))⟩ fun k hk => ?_
  by_cases hkl : k < mv.length
  · have hf := filt_take (q := othS a g) hkl
    have hfl : ((mv.take k).filter (othS a g)).length ≤ k := Nat.le_trans (List.length_filter_le _ _) (by rw [List.length_take]; omega)
    clear hB2 hS2 hoth
    cases hq9 : othS a g mv[k] with
    | true =>
      rw [hq9, if_pos rfl] at hf
      generalize ((mv.take k).filter (othS a g)).length = c0 at *
      (repeat' (first
  | (apply W.qd; (first
    | ((apply q_ld_mapp; (iterate 3 exact rfl); omega))
    | ((apply (q_neT fi_stT); (iterate 5 exact rfl); exact ((show _ = othS a g mv[k] by unfold othS; rw [Bool.eq_iff_iff]; simp).trans hq9)))|(apply q_mv; (conv => lhs; whnf))|(apply q_as; (conv => lhs; whnf))|(apply yS; (iterate 3 exact rfl))|(apply yT; (iterate 4 exact rfl))|(apply yU; (iterate 4 exact rfl))|(apply q_lss; exact rfl; exact rfl)|(apply q_add; exact rfl; exact rfl; omega)|(apply yV; exact rfl; exact rfl)|(apply q_fld_fptF; (iterate 3 exact rfl))
    | (apply yGb; (iterate 4 exact rfl); (first | (with_reducible exact rfl) | exact natI_spec rfl | assumption | exact (Int.toNat_of_nonneg (by omega)).symm); (first | omega | (focus (simp only [List.length_map]; omega)) | (focus (simp; done)) | (focus (simp; omega))))))|(apply yA)|(apply yB)|(apply yC; kernel_rfl)|(apply yD; exact rfl; kernel_rfl)|(apply yE)|(apply yF; kernel_rfl)|(apply yG)|(apply yH)|(apply yL)|(apply yQ; exact rfl)
  | (refine W.cond _ rfl (fun hb => ?_) (fun hb => ?_) <;> ((try simp only [hb, zA, zB]) <;> (try simp only [zC, zD, zE, zF, zG, zH, zI, zJ] at hb) <;> (try (exfalso; omega))))))
      all_goals first
        | (exfalso; omega)
        | exact ⟨k + 1, by omega, by omega, [0], rfl, rfl, rfl, iV_eq (by omega), iV_eq (by rw [hf]; omega), rfl, rfl, rfl, rfl, rfl, rfl, rfl, trivial⟩
    | false =>
      rw [hq9, if_neg (by simp)] at hf
      generalize ((mv.take k).filter (othS a g)).length = c0 at *
      (repeat' (first
  | (apply W.qd; (first
    | ((apply q_ld_mapp; (iterate 3 exact rfl); omega))
    | ((apply (q_neT fi_stT); (iterate 5 exact rfl); exact ((show _ = othS a g mv[k] by unfold othS; rw [Bool.eq_iff_iff]; simp).trans hq9)))|(apply q_mv; (conv => lhs; whnf))|(apply q_as; (conv => lhs; whnf))|(apply yS; (iterate 3 exact rfl))|(apply yT; (iterate 4 exact rfl))|(apply yU; (iterate 4 exact rfl))|(apply q_lss; exact rfl; exact rfl)|(apply q_add; exact rfl; exact rfl; omega)|(apply yV; exact rfl; exact rfl)|(apply q_fld_fptF; (iterate 3 exact rfl))
    | (apply yGb; (iterate 4 exact rfl); (first | (with_reducible exact rfl) | exact natI_spec rfl | assumption | exact (Int.toNat_of_nonneg (by omega)).symm); (first | omega | (focus (simp only [List.length_map]; omega)) | (focus (simp; done)) | (focus (simp; omega))))))|(apply yA)|(apply yB)|(apply yC; kernel_rfl)|(apply yD; exact rfl; kernel_rfl)|(apply yE)|(apply yF; kernel_rfl)|(apply yG)|(apply yH)|(apply yL)|(apply yR; exact rfl)
  | (refine W.cond _ rfl (fun hb => ?_) (fun hb => ?_) <;> ((try simp only [hb, zA, zB]) <;> (try simp only [zC, zD, zE, zF, zG, zH, zI, zJ] at hb) <;> (try (exfalso; omega))))))
      all_goals first
        | (exfalso; omega)
        | exact ⟨k + 1, by omega, by omega, [0], rfl, rfl, rfl, iV_eq (by omega), iV_eq (by rw [hf]; omega), rfl, rfl, rfl, rfl, rfl, rfl, rfl, trivial⟩
  obtain rfl : k = mv.length := by omega
  rw [List.take_length]
  have hc0 : (mv.filter (othS a g)).length ≤ mv.length := List.length_filter_le _ _
  generalize (mv.filter (othS a g)).length = c0 at *
  (repeat' (first
  | (apply W.qd; (first
    | (apply q_mv; (conv => lhs; whnf))|(apply q_as; (conv => lhs; whnf))|(apply yS; (iterate 3 exact rfl))|(apply yT; (iterate 4 exact rfl))|(apply q_lss; exact rfl; exact rfl)
    | (apply yV; exact rfl; exact rfl)))|(apply yA)|(apply yB)|(apply (W.regionS 32); exact rfl; kernel_rfl)|(apply yE)|(apply yG)|(apply yI)|(apply yK)|(apply yM)
  | (refine W.cond _ rfl (fun hb => ?_) (fun hb => ?_) <;> ((try simp only [hb, zA, zB]) <;> (try simp only [zC, zD, zE, zF, zG, zH, zI, zJ] at hb) <;> (try (exfalso; omega))))))
  all_goals try (exfalso; omega)
  refine AWP.loopW (α := Nat) (fun k => k ≤ RF.length) (fun k => ⟨[(16, iV k), (15, iV ((RF.take k).filter (othS a g)).length), (13, iV c0), (11, ses RF), (8, ints AA), (6, bools BB), (1, .opt 0 0), (3, bV true), (4, iV wN), (5, ints ho)], [.box (inC dN r n s l i M D par a g mv st inn)]⟩) (fun k => RF.length - k) 0 (Nat.zero_le _) ⟨[0], rfl, rfl, rfl, by (repeat (first | exact trivial | refine ⟨rfl, ?_⟩))⟩ fun k hk => ?_
  by_cases hkl : k < RF.length
  · have hf := filt_take (q := othS a g) hkl
    have hfl : ((RF.take k).filter (othS a g)).length ≤ k := Nat.le_trans (List.length_filter_le _ _) (by rw [List.length_take]; omega)
    clear hB2 hS2 hoth
    cases hq9 : othS a g RF[k] with
    | true =>
      rw [hq9, if_pos rfl] at hf
      generalize ((RF.take k).filter (othS a g)).length = c1 at *
      (repeat' (first
  | (apply W.qd; (first
    | ((apply q_ld_mapp; (iterate 3 exact rfl); omega))
    | ((apply (q_neT fi_stT); (iterate 5 exact rfl); exact ((show _ = othS a g RF[k] by unfold othS; rw [Bool.eq_iff_iff]; simp).trans hq9)))|(apply q_mv; (conv => lhs; whnf))|(apply q_as; (conv => lhs; whnf))|(apply yS; (iterate 3 exact rfl))|(apply yU; (iterate 4 exact rfl))|(apply q_lss; exact rfl; exact rfl)|(apply q_add; exact rfl; exact rfl; omega)|(apply yV; exact rfl; exact rfl)|(apply q_fld_fptF; (iterate 3 exact rfl))
    | (apply yGb; (iterate 4 exact rfl); (first | (with_reducible exact rfl) | exact natI_spec rfl | assumption | exact (Int.toNat_of_nonneg (by omega)).symm); (first | omega | (focus (simp only [List.length_map]; omega)) | (focus (simp; done)) | (focus (simp; omega))))))|(apply yA)|(apply yB)|(apply yC; kernel_rfl)|(apply yD; exact rfl; kernel_rfl)|(apply yE)|(apply yF; kernel_rfl)|(apply yG)|(apply yH)|(apply yL)|(apply yQ; exact rfl)
  | (refine W.cond _ rfl (fun hb => ?_) (fun hb => ?_) <;> ((try simp only [hb, zA, zB]) <;> (try simp only [zC, zD, zE, zF, zG, zH, zI, zJ] at hb) <;> (try (exfalso; omega))))))
      all_goals first
        | (exfalso; omega)
        | exact ⟨k + 1, by omega, by omega, [0], rfl, rfl, rfl, iV_eq (by omega), iV_eq (by rw [hf]; omega), rfl, rfl, rfl, rfl, rfl, rfl, rfl, rfl, trivial⟩
    | false =>
      rw [hq9, if_neg (by simp)] at hf
      generalize ((RF.take k).filter (othS a g)).length = c1 at *
      (repeat' (first
  | (apply W.qd; (first
    | ((apply q_ld_mapp; (iterate 3 exact rfl); omega))
    | ((apply (q_neT fi_stT); (iterate 5 exact rfl); exact ((show _ = othS a g RF[k] by unfold othS; rw [Bool.eq_iff_iff]; simp).trans hq9)))|(apply q_mv; (conv => lhs; whnf))|(apply q_as; (conv => lhs; whnf))|(apply yS; (iterate 3 exact rfl))|(apply yU; (iterate 4 exact rfl))|(apply q_lss; exact rfl; exact rfl)|(apply q_add; exact rfl; exact rfl; omega)|(apply yV; exact rfl; exact rfl)|(apply q_fld_fptF; (iterate 3 exact rfl))
    | (apply yGb; (iterate 4 exact rfl); (first | (with_reducible exact rfl) | exact natI_spec rfl | assumption | exact (Int.toNat_of_nonneg (by omega)).symm); (first | omega | (focus (simp only [List.length_map]; omega)) | (focus (simp; done)) | (focus (simp; omega))))))|(apply yA)|(apply yB)|(apply yC; kernel_rfl)|(apply yD; exact rfl; kernel_rfl)|(apply yE)|(apply yF; kernel_rfl)|(apply yG)|(apply yH)|(apply yL)|(apply yR; exact rfl)
  | (refine W.cond _ rfl (fun hb => ?_) (fun hb => ?_) <;> ((try simp only [hb, zA, zB]) <;> (try simp only [zC, zD, zE, zF, zG, zH, zI, zJ] at hb) <;> (try (exfalso; omega))))))
      all_goals first
        | (exfalso; omega)
        | exact ⟨k + 1, by omega, by omega, [0], rfl, rfl, rfl, iV_eq (by omega), iV_eq (by rw [hf]; omega), rfl, rfl, rfl, rfl, rfl, rfl, rfl, rfl, trivial⟩
  obtain rfl : k = RF.length := by omega
  rw [List.take_length, hoth]
  (repeat' (first
  | (apply yFb; exact rfl; exact rfl)
  | (apply W.qd; (first
    | (apply (yW (hB2)); exact rfl; exact rfl; (iterate 3 kernel_rfl))|(apply (yW (hS2)); exact rfl; exact rfl; (iterate 3 kernel_rfl))|(apply (yW (hQ)); exact rfl; exact rfl; (iterate 3 kernel_rfl))|(apply q_mv; (conv => lhs; whnf))|(apply q_as; (conv => lhs; whnf))|(apply yS; (iterate 3 exact rfl))|(apply yU; (iterate 4 exact rfl))|(apply q_lss; exact rfl; exact rfl)|(apply q_eql; exact rfl; exact rfl)|(apply yV; exact rfl; exact rfl)
    | (apply (yEb (u := .d _)); exact rfl; exact rfl)))|(apply yA)|(apply yB)|(apply yC; kernel_rfl)|(apply yE)|(apply yI)|(apply yJ)|(apply yK)|(apply yM)|(refine W.gT _ _ rfl rfl (fun hb => ?_) (fun hb => ?_) <;> ((try simp only [hb, zA, zB]) <;> (try simp only [zC, zD, zE, zF, zG, zH, zI, zJ] at hb) <;> (try (exfalso; omega))))
  | (refine W.cond _ rfl (fun hb => ?_) (fun hb => ?_) <;> ((try simp only [hb, zA, zB]) <;> (try simp only [zC, zD, zE, zF, zG, zH, zI, zJ] at hb) <;> (try (exfalso; omega))))))
  all_goals first | (exfalso; omega) | exact Ends.b rfl rfl
theorem A_healBackF {d r n s l i M D dom a g : Int} {nm : List Nat} {par : List (List Int)} {mv : List Se} {st : List Int} {inn : List Bool} (hp : CodeIn par) (hmv : mv.length ≤ 9223372036854775807) : ACalls Tryz.prog 9 [xinF d r n s l i nm M D par dom a g mv st inn] [] (bV true) [] :=
  (A_healBack (d := d) (r := r) (n := n) (s := s) (l := l) (i := i) (M := M) (D := D) (a := a) (g := g) (mv := mv) (st := st) (inn := inn) hp hmv).le (args' := [xinF d r n s l i nm M D par dom a g mv st inn]) fun F κ w vs hs => AVleL.sat (xs := [xinF d r n s l i nm M D par dom a g mv st inn]) (ys := [.agg (inC d r n s l i M D par a g mv st inn)]) ⟨inF_le, trivial⟩ F _ κ w vs hs
end Go.Proofs.YtcljokdiblnhiaaGreatDoor
end
