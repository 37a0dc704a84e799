import Derived.Test.YtaclmbbiegklcaaGreatDoorMClassMatchesSpec6
/- Joined texts: Rf30c Cl13. -/
set_option linter.unusedVariables false
set_option linter.unusedSimpArgs false
section
namespace Go.Proofs.YtaclmbbiegklcaaGreatDoor
open Go.RowKit
set_option maxHeartbeats 4000000
set_option maxRecDepth 100000
attribute [local irreducible] Quiet Eff OpOk AWPG ACont ABlock ACalls AGoto
theorem A_raddClass {cs : List Cd} {vs : List Sv} {nm : List Nat} {k l w : Int} (h : LibOk cs vs) (hn : NameIn nm) : ACalls Tryz.prog 14 [lib cs vs, bS nm, iV k, iV l, iV w] [] (res3 (addVN cs vs nm k l w)) [] := by
  have hcl := h.cl
  have hvl := h.vl
  have hmc : (cs.map cdD).length = cs.length := List.length_map _
  have hmv : (vs.map svD).length = vs.length := List.length_map _
  have hf := A_rfindV (cs := cs) (vs := vs) (nm := nm) (by omega) (fun c hc => (h.vn c hc).b) hn.b
  have hp := A_rname hn
  have hu := A_ruser (cs := cs) (vs := vs) (q := k) (by omega)
  have hk := A_rkeeps (vs := vs) (k := k) (n := l) h.fin
  have hcp := A_rcopied (cs := cs) (vs := vs) (by omega) (by omega)
  unfold addVN
  generalize fvI vs nm = i at *
  generalize userI vs k = u at *
  refine acalls_of_body Tryz.func14 rfl (Nat.le_of_ble_eq_true rfl) ?_
  have hfi : ∃ e x : Int, findA i = .tup [iV x, iV e] ∧ (e = 0 ↔ 0 ≤ i) := by
    by_cases hi : 0 ≤ i
    · exact ⟨0, i, find_nn hi, by simp [hi]⟩
    · exact ⟨12, 0, find_no hi, by simp [hi]⟩
  obtain ⟨e, x, hfe, hei⟩ := hfi
  rw [hfe] at hf
  cases hq : plausB nm l w with
  | false =>
    rw [if_pos rfl]
    unfold plausB at hq
    cases hqn : nameB nm with
    | false =>
      rw [hqn] at hp
      (repeat' (first
  | (apply W.qd; (first
    | (apply (yW (hp)); exact rfl; exact rfl; (iterate 3 kernel_rfl))|(apply q_mv; (conv => lhs; whnf))|(apply q_as; (conv => lhs; whnf))|(apply q_not; exact rfl)|(apply yZ; exact rfl; exact rfl; kernel_rfl)
    | (apply (yEb (u := .d _)); exact rfl; exact rfl)))
  | (apply W.ed; (first
    | (apply yBb; (iterate 3 exact rfl); kernel_rfl; kernel_rfl)
    | (apply yCb; (iterate 3 exact rfl); kernel_rfl)))|(apply W.ln; (apply l_st_box; (iterate 6 exact rfl); (iterate 3 kernel_rfl)))|(refine W.gOff _ _ rfl rfl (by intro h; cases h) ?_)|(apply yA)|(apply yB)|(apply yC; kernel_rfl)|(apply yE)|(apply yJ)|(apply yP)
  | (apply yQ; exact rfl)))
      all_goals exact ⟨.inl rfl, [], [.agg [.d (.v (.slice none 0 0)), .d (.v (.slice none 0 0))], iV 0, iV 1], rfl, ⟨⟨1, _, true, rfl, rfl, rfl, rfl⟩, rfl, rfl, trivial⟩, err3_le 1, rfl⟩
    | true =>
      rw [hqn] at hp hq
      rw [Bool.true_and, Bool.and_eq_false_iff, Bool.and_eq_false_iff, Bool.and_eq_false_iff, decide_eq_false_iff_not, decide_eq_false_iff_not, decide_eq_false_iff_not, decide_eq_false_iff_not] at hq
      (repeat' (first
  | (apply yFb; exact rfl; exact rfl)
  | (apply W.qd; (first
    | (apply (yW (hp)); exact rfl; exact rfl; (iterate 3 kernel_rfl))|(apply q_mv; (conv => lhs; whnf))|(apply q_as; (conv => lhs; whnf))|(apply q_lss; exact rfl; exact rfl)|(apply q_gtr; exact rfl; exact rfl)|(apply q_not; exact rfl)|(apply yZ; exact rfl; exact rfl; kernel_rfl)|(apply (yEb (u := .d _)); exact rfl; exact rfl)
    | (apply (yDb (u := .d _)); exact rfl; exact rfl)))
  | (apply W.ed; (first
    | (apply yBb; (iterate 3 exact rfl); kernel_rfl; kernel_rfl)
    | (apply yCb; (iterate 3 exact rfl); kernel_rfl)))|(apply W.ln; (apply l_st_box; (iterate 6 exact rfl); (iterate 3 kernel_rfl)))|(refine W.gOff _ _ rfl rfl (by intro h; cases h) ?_)|(apply yA)|(apply yB)|(apply (W.regionS 4); exact rfl; kernel_rfl)|(apply yE)|(apply yJ)|(apply yP)|(apply yQ; exact rfl)|(refine W.gF _ _ rfl rfl (fun hb => ?_) (fun hb => ?_) <;> ((try simp only [hb, zA, zB]) <;> (try simp only [zC, zD, zE, zF, zG, zH, zI, zJ] at hb) <;> (try (exfalso; omega))))
  | (refine W.cond _ rfl (fun hb => ?_) (fun hb => ?_) <;> ((try simp only [hb, zA, zB]) <;> (try simp only [zC, zD, zE, zF, zG, zH, zI, zJ] at hb) <;> (try (exfalso; omega))))))
      all_goals first | (exfalso; omega) | exact ⟨.inl rfl, [], [.agg [.d (.v (.slice none 0 0)), .d (.v (.slice none 0 0))], iV 0, iV 1], rfl, ⟨⟨1, _, true, rfl, rfl, rfl, rfl⟩, rfl, rfl, trivial⟩, err3_le 1, rfl⟩
  | true =>
    rw [if_neg (by decide)]
    unfold plausB at hq
    simp only [Bool.and_eq_true, decide_eq_true_eq] at hq
    obtain ⟨hq0, hq1, hq2, hq3, hq4⟩ := hq
    rw [hq0] at hp
    by_cases hi : 0 ≤ i
    · obtain rfl := hei.2 hi
      rw [if_pos hi]
      (repeat' (first
  | (apply yFb; exact rfl; exact rfl)
  | (apply W.qd; (first
    | (apply (yW (hf)); exact rfl; exact rfl; (iterate 3 kernel_rfl))|(apply (yW (hp)); exact rfl; exact rfl; (iterate 3 kernel_rfl))|(apply q_mv; (conv => lhs; whnf))|(apply q_as; (conv => lhs; whnf))|(apply yU; (iterate 4 exact rfl))|(apply q_lss; exact rfl; exact rfl)|(apply q_gtr; exact rfl; exact rfl)|(apply q_eql; exact rfl; exact rfl)|(apply q_not; exact rfl)|(apply yAb; exact rfl; exact rfl)|(apply yZ; exact rfl; exact rfl; kernel_rfl)
    | (apply (yDb (u := .d _)); exact rfl; exact rfl)))
  | (apply W.ed; (first
    | (apply yBb; (iterate 3 exact rfl); kernel_rfl; kernel_rfl)
    | (apply yCb; (iterate 3 exact rfl); kernel_rfl)))|(apply W.ln; (apply l_st_box; (iterate 6 exact rfl); (iterate 3 kernel_rfl)))|(apply yA)|(apply yB)|(apply yC; kernel_rfl)|(apply yE)|(apply yH)|(apply yJ)|(apply yP)|(apply yQ; exact rfl)|(refine W.gF _ _ rfl rfl (fun hb => ?_) (fun hb => ?_) <;> ((try simp only [hb, zA, zB]) <;> (try simp only [zC, zD, zE, zF, zG, zH, zI, zJ] at hb) <;> (try (exfalso; omega))))
  | (refine W.cond _ rfl (fun hb => ?_) (fun hb => ?_) <;> ((try simp only [hb, zA, zB]) <;> (try simp only [zC, zD, zE, zF, zG, zH, zI, zJ] at hb) <;> (try (exfalso; omega))))))
      all_goals first | (exfalso; contradiction) | (exfalso; omega) | exact ⟨.inl rfl, [], [.agg [.d (.v (.slice none 0 0)), .d (.v (.slice none 0 0))], iV 0, iV 20], rfl, ⟨⟨1, _, true, rfl, rfl, rfl, rfl⟩, rfl, rfl, trivial⟩, err3_le 20, rfl⟩
    · have hne : e ≠ 0 := fun h0 => hi (hei.1 h0)
      rw [if_neg hi]
      by_cases h8 : 8 ≤ vs.length
      · rw [if_pos h8]
        (repeat' (first
  | (apply yFb; exact rfl; exact rfl)
  | (apply W.qd; (first
    | (apply (yW (hf)); exact rfl; exact rfl; (iterate 3 kernel_rfl))|(apply (yW (hp)); exact rfl; exact rfl; (iterate 3 kernel_rfl))|(apply q_mv; (conv => lhs; whnf))|(apply q_as; (conv => lhs; whnf))|(apply yS; (iterate 3 exact rfl))|(apply yT; (iterate 4 exact rfl))|(apply yU; (iterate 4 exact rfl))|(apply q_lss; exact rfl; exact rfl)|(apply q_gtr; exact rfl; exact rfl)|(apply q_geq; exact rfl; exact rfl)|(apply q_eql; exact rfl; exact rfl)|(apply q_not; exact rfl)|(apply yAb; exact rfl; exact rfl)|(apply yV; exact rfl; exact rfl)|(apply yZ; exact rfl; exact rfl; kernel_rfl)
    | (apply (yDb (u := .d _)); exact rfl; exact rfl)))
  | (apply W.ed; (first
    | (apply yBb; (iterate 3 exact rfl); kernel_rfl; kernel_rfl)
    | (apply yCb; (iterate 3 exact rfl); kernel_rfl)))|(apply W.ln; (apply l_st_box; (iterate 6 exact rfl); (iterate 3 kernel_rfl)))|(apply yA)|(apply yB)|(apply (W.regionS 9); exact rfl; kernel_rfl)|(apply yE)|(apply yH)|(apply yJ)|(apply yP)|(refine W.gF _ _ rfl rfl (fun hb => ?_) (fun hb => ?_) <;> ((try simp only [hb, zA, zB]) <;> (try simp only [zC, zD, zE, zF, zG, zH, zI, zJ] at hb) <;> (try (exfalso; omega))))
  | (refine W.cond _ rfl (fun hb => ?_) (fun hb => ?_) <;> ((try simp only [hb, zA, zB]) <;> (try simp only [zC, zD, zE, zF, zG, zH, zI, zJ] at hb) <;> (try (exfalso; omega))))))
        all_goals first | (exfalso; contradiction) | (exfalso; omega) | exact ⟨.inl rfl, [], [.agg [.d (.v (.slice none 0 0)), .d (.v (.slice none 0 0))], iV 0, iV 2], rfl, ⟨⟨1, _, true, rfl, rfl, rfl, rfl⟩, rfl, rfl, trivial⟩, err3_le 2, rfl⟩
      · rw [if_neg h8]
        cases hq2 : hasB cs.length k with
        | false =>
          rw [if_pos rfl]
          unfold hasB at hq2
          rw [Bool.and_eq_false_iff, decide_eq_false_iff_not, decide_eq_false_iff_not] at hq2
          (repeat' (first
  | (apply yFb; exact rfl; exact rfl)
  | (apply W.qd; (first
    | (apply (yW (hf)); exact rfl; exact rfl; (iterate 3 kernel_rfl))|(apply (yW (hp)); exact rfl; exact rfl; (iterate 3 kernel_rfl))|(apply q_mv; (conv => lhs; whnf))|(apply q_as; (conv => lhs; whnf))|(apply yS; (iterate 3 exact rfl))|(apply yT; (iterate 4 exact rfl))|(apply yU; (iterate 4 exact rfl))|(apply q_lss; exact rfl; exact rfl)|(apply q_gtr; exact rfl; exact rfl)|(apply q_geq; exact rfl; exact rfl)|(apply q_eql; exact rfl; exact rfl)|(apply q_not; exact rfl)|(apply yAb; exact rfl; exact rfl)|(apply yV; exact rfl; exact rfl)|(apply yZ; exact rfl; exact rfl; kernel_rfl)|(apply (yEb (u := .d _)); exact rfl; exact rfl)
    | (apply (yDb (u := .d _)); exact rfl; exact rfl)))
  | (apply W.ed; (first
    | (apply yBb; (iterate 3 exact rfl); kernel_rfl; kernel_rfl)
    | (apply yCb; (iterate 3 exact rfl); kernel_rfl)))|(apply W.ln; (apply l_st_box; (iterate 6 exact rfl); (iterate 3 kernel_rfl)))|(refine W.gOff _ _ rfl rfl (by intro h; cases h) ?_)|(apply yA)|(apply yB)|(apply (W.regionS 11); exact rfl; kernel_rfl)|(apply yE)|(apply yH)|(apply yJ)|(apply yP)|(apply yQ; exact rfl)|(refine W.gF _ _ rfl rfl (fun hb => ?_) (fun hb => ?_) <;> ((try simp only [hb, zA, zB]) <;> (try simp only [zC, zD, zE, zF, zG, zH, zI, zJ] at hb) <;> (try (exfalso; omega))))
  | (refine W.cond _ rfl (fun hb => ?_) (fun hb => ?_) <;> ((try simp only [hb, zA, zB]) <;> (try simp only [zC, zD, zE, zF, zG, zH, zI, zJ] at hb) <;> (try (exfalso; omega))))))
          all_goals first | (exfalso; contradiction) | (exfalso; omega) | exact ⟨.inl rfl, [], [.agg [.d (.v (.slice none 0 0)), .d (.v (.slice none 0 0))], iV 0, iV 12], rfl, ⟨⟨1, _, true, rfl, rfl, rfl, rfl⟩, rfl, rfl, trivial⟩, err3_le 12, rfl⟩
        | true =>
          rw [if_neg (by decide)]
          unfold hasB at hq2
          rw [Bool.and_eq_true, decide_eq_true_eq, decide_eq_true_eq] at hq2
          by_cases hu0 : 0 ≤ u
          · rw [if_pos hu0]
            (repeat' (first
  | (apply yFb; exact rfl; exact rfl)
  | (apply W.qd; (first
    | (apply (yW (hf)); exact rfl; exact rfl; (iterate 3 kernel_rfl))|(apply (yW (hp)); exact rfl; exact rfl; (iterate 3 kernel_rfl))|(apply (yW (hu)); exact rfl; exact rfl; (iterate 3 kernel_rfl))|(apply q_mv; (conv => lhs; whnf))|(apply q_as; (conv => lhs; whnf))|(apply yS; (iterate 3 exact rfl))|(apply yT; (iterate 4 exact rfl))|(apply yU; (iterate 4 exact rfl))|(apply q_lss; exact rfl; exact rfl)|(apply q_gtr; exact rfl; exact rfl)|(apply q_geq; exact rfl; exact rfl)|(apply q_eql; exact rfl; exact rfl)|(apply q_not; exact rfl)|(apply yAb; exact rfl; exact rfl)|(apply yV; exact rfl; exact rfl)|(apply yZ; exact rfl; exact rfl; kernel_rfl)
    | (apply (yDb (u := .d _)); exact rfl; exact rfl)))
  | (apply W.ed; (first
    | (apply yBb; (iterate 3 exact rfl); kernel_rfl; kernel_rfl)
    | (apply yCb; (iterate 3 exact rfl); kernel_rfl)))|(apply W.ln; (apply l_st_box; (iterate 6 exact rfl); (iterate 3 kernel_rfl)))|(apply yA)|(apply yB)|(apply (W.regionS 13); exact rfl; kernel_rfl)|(apply yE)|(apply yH)|(apply yJ)|(apply yP)|(refine W.gF _ _ rfl rfl (fun hb => ?_) (fun hb => ?_) <;> ((try simp only [hb, zA, zB]) <;> (try simp only [zC, zD, zE, zF, zG, zH, zI, zJ] at hb) <;> (try (exfalso; omega))))
  | (refine W.cond _ rfl (fun hb => ?_) (fun hb => ?_) <;> ((try simp only [hb, zA, zB]) <;> (try simp only [zC, zD, zE, zF, zG, zH, zI, zJ] at hb) <;> (try (exfalso; omega))))))
            all_goals first | (exfalso; contradiction) | (exfalso; omega) | exact ⟨.inl rfl, [], [.agg [.d (.v (.slice none 0 0)), .d (.v (.slice none 0 0))], iV 0, iV 19], rfl, ⟨⟨1, _, true, rfl, rfl, rfl, rfl⟩, rfl, rfl, trivial⟩, err3_le 19, rfl⟩
          · rw [if_neg hu0]
            cases hq3 : keepsB cs k l with
            | false =>
              rw [hq3] at hk
              rw [if_pos rfl]
              (repeat' (first
  | (apply yFb; exact rfl; exact rfl)
  | (apply W.qd; (first
    | (apply (yW (hf)); exact rfl; exact rfl; (iterate 3 kernel_rfl))|(apply (yW (hp)); exact rfl; exact rfl; (iterate 3 kernel_rfl))|(apply (yW (hu)); exact rfl; exact rfl; (iterate 3 kernel_rfl))|(apply (yW (hk)); exact rfl; exact rfl; (iterate 3 kernel_rfl))|(apply q_mv; (conv => lhs; whnf))|(apply q_as; (conv => lhs; whnf))|(apply yS; (iterate 3 exact rfl))|(apply yT; (iterate 4 exact rfl))|(apply yU; (iterate 4 exact rfl))|(apply q_lss; exact rfl; exact rfl)|(apply q_gtr; exact rfl; exact rfl)|(apply q_geq; exact rfl; exact rfl)|(apply q_eql; exact rfl; exact rfl)|(apply q_not; exact rfl)|(apply yAb; exact rfl; exact rfl)|(apply yV; exact rfl; exact rfl)|(apply yZ; exact rfl; exact rfl; kernel_rfl)
    | (apply (yDb (u := .d _)); exact rfl; exact rfl)))
  | (apply W.ed; (first
    | (apply yBb; (iterate 3 exact rfl); kernel_rfl; kernel_rfl)
    | (apply yCb; (iterate 3 exact rfl); kernel_rfl)))|(apply W.ln; (apply l_st_box; (iterate 6 exact rfl); (iterate 3 kernel_rfl)))|(apply yA)|(apply yB)|(apply (W.regionS 16); exact rfl; kernel_rfl)|(apply yE)|(apply yH)|(apply yJ)|(apply yP)|(apply yQ; exact rfl)|(refine W.gF _ _ rfl rfl (fun hb => ?_) (fun hb => ?_) <;> ((try simp only [hb, zA, zB]) <;> (try simp only [zC, zD, zE, zF, zG, zH, zI, zJ] at hb) <;> (try (exfalso; omega))))
  | (refine W.cond _ rfl (fun hb => ?_) (fun hb => ?_) <;> ((try simp only [hb, zA, zB]) <;> (try simp only [zC, zD, zE, zF, zG, zH, zI, zJ] at hb) <;> (try (exfalso; omega))))))
              all_goals first | (exfalso; contradiction) | (exfalso; omega) | exact ⟨.inl rfl, [], [.agg [.d (.v (.slice none 0 0)), .d (.v (.slice none 0 0))], iV 0, iV 17], rfl, ⟨⟨1, _, true, rfl, rfl, rfl, rfl⟩, rfl, rfl, trivial⟩, err3_le 17, rfl⟩
            | true =>
              rw [hq3] at hk
              rw [if_neg (by decide)]
              (repeat' (first
  | (apply yFb; exact rfl; exact rfl)
  | (apply W.qd; (first
    | (apply (yW (hf)); exact rfl; exact rfl; (iterate 3 kernel_rfl))|(apply (yW (hp)); exact rfl; exact rfl; (iterate 3 kernel_rfl))|(apply (yW (hu)); exact rfl; exact rfl; (iterate 3 kernel_rfl))|(apply (yW (hk)); exact rfl; exact rfl; (iterate 3 kernel_rfl))|(apply q_mv; (conv => lhs; whnf))|(apply q_as; (conv => lhs; whnf))|(apply yS; (iterate 3 exact rfl))|(apply yT; (iterate 4 exact rfl))|(apply yU; (iterate 4 exact rfl))|(apply q_lss; exact rfl; exact rfl)|(apply q_gtr; exact rfl; exact rfl)|(apply q_geq; exact rfl; exact rfl)|(apply q_eql; exact rfl; exact rfl)|(apply q_not; exact rfl)|(apply yAb; exact rfl; exact rfl)|(apply yV; exact rfl; exact rfl)
    | (apply (yDb (u := .d _)); exact rfl; exact rfl)))
  | (apply W.ed; (first
    | (apply yBb; (iterate 3 exact rfl); kernel_rfl; kernel_rfl)
    | (apply yCb; (iterate 3 exact rfl); kernel_rfl)))|(apply yA)|(apply yB)|(apply (W.regionS 16); exact rfl; kernel_rfl)|(apply yE)|(apply yH)|(apply yR; exact rfl)|(refine W.gF _ _ rfl rfl (fun hb => ?_) (fun hb => ?_) <;> ((try simp only [hb, zA, zB]) <;> (try simp only [zC, zD, zE, zF, zG, zH, zI, zJ] at hb) <;> (try (exfalso; omega))))
  | (refine W.cond _ rfl (fun hb => ?_) (fun hb => ?_) <;> ((try simp only [hb, zA, zB]) <;> (try simp only [zC, zD, zE, zF, zG, zH, zI, zJ] at hb) <;> (try (exfalso; omega))))))
              all_goals try first | (exfalso; contradiction) | (exfalso; omega)
              (repeat' (first
  | (apply W.qd; (first
    | (apply q_mv; (conv => lhs; whnf))|(apply q_as; (conv => lhs; whnf))|(apply yS; (iterate 3 exact rfl))|(apply yT; (iterate 4 exact rfl))|(apply yU; (iterate 4 exact rfl))|(apply yV; exact rfl; exact rfl)|(apply yZ; exact rfl; exact rfl; kernel_rfl)
    | (apply q_litF; (iterate 5 exact rfl); kernel_rfl; kernel_rfl; exact rfl)))
  | (apply W.ed; (first
    | (apply (e_callJ (js := []) (hcp)); (iterate 5 exact rfl); kernel_rfl; kernel_rfl)
    | ((apply (e_app1F (f := svD) (nm, k, -1, l, w)); (iterate 8 exact rfl); omega))
    | (apply yCb; (iterate 3 exact rfl); kernel_rfl)))|(apply W.ln; (apply l_st_box; (iterate 6 exact rfl); (iterate 3 kernel_rfl)))|(apply yA)|(apply yB)|(apply yC; kernel_rfl)|(apply yD; exact rfl; kernel_rfl)|(apply yE)|(apply yF; kernel_rfl)
  | (apply yJ)))
              refine ⟨.inl rfl, [], [.agg [.osl 2 1 0 cs.length, .osl 3 2 0 (vs ++ [((nm, k, -1, l, w) : Sv)]).length], iV vs.length, iV 0], rfl, ⟨⟨1, _, true, rfl, rfl, rfl, rfl⟩, iV_eq (by rw [hmv]), rfl, trivial⟩, AVle.of_eq ?_, rfl⟩
              show AV.tup [AV.agg [AV.frz _ [] (.osl 2 1 0 cs.length), AV.frz _ [] (.osl 3 2 0 (vs ++ [((nm, k, -1, l, w) : Sv)]).length)], iV vs.length, iV 0] = _
              rw [frz_rowJ (i := 2) (ver := 1) (n := cs.length) (l := cs.map cdD) rfl rfl hmc.symm, frz_rowJ (i := 3) (ver := 2) (n := (vs ++ [((nm, k, -1, l, w) : Sv)]).length) (l := (vs ++ [((nm, k, -1, l, w) : Sv)]).map svD) rfl rfl (by simp)]
theorem A_rchange {cs : List Cd} {vs : List Sv} {k c : Int} (h : LibOk cs vs) : ACalls Tryz.prog 17 [lib cs vs, iV k, iV c] [] (res2 (chgN cs vs k c)) [] := by
  have hcl := h.cl
  have hvl := h.vl
  have hmc : (cs.map cdD).length = cs.length := List.length_map _
  have hmv : (vs.map svD).length = vs.length := List.length_map _
  have hu := A_ruser (cs := cs) (vs := vs) (q := c) (by omega)
  have hcp := A_rcopied (cs := cs) (vs := vs) (by omega) (by omega)
  unfold chgN atV
  refine acalls_of_body Tryz.func17 rfl (Nat.le_of_ble_eq_true rfl) ?_
  cases hq1 : hasB vs.length k with
  | false =>
    rw [if_pos rfl]
    unfold hasB at hq1
    rw [Bool.and_eq_false_iff, decide_eq_false_iff_not, decide_eq_false_iff_not] at hq1
    (repeat' (first
  | (apply yFb; exact rfl; exact rfl)
  | (apply W.qd; (first
    | (apply q_mv; (conv => lhs; whnf))|(apply q_as; (conv => lhs; whnf))|(apply yS; (iterate 3 exact rfl))|(apply yT; (iterate 4 exact rfl))|(apply q_lss; exact rfl; exact rfl)|(apply q_geq; exact rfl; exact rfl)|(apply yV; exact rfl; exact rfl)|(apply yZ; exact rfl; exact rfl; kernel_rfl)|(apply (yEb (u := .d _)); exact rfl; exact rfl)
    | (apply (yDb (u := .d _)); exact rfl; exact rfl)))
  | (apply W.ed; (first
    | (apply yBb; (iterate 3 exact rfl); kernel_rfl; kernel_rfl)
    | (apply yCb; (iterate 3 exact rfl); kernel_rfl)))|(apply W.ln; (apply l_st_box; (iterate 6 exact rfl); (iterate 3 kernel_rfl)))|(refine W.gOff _ _ rfl rfl (by intro h; cases h) ?_)|(apply yA)|(apply yB)|(apply (W.regionS 3); exact rfl; kernel_rfl)|(apply yE)|(apply yJ)|(apply yP)|(apply yQ; exact rfl)
  | (refine W.gF _ _ rfl rfl (fun hb => ?_) (fun hb => ?_) <;> ((try simp only [hb, zA, zB]) <;> (try simp only [zC, zD, zE, zF, zG, zH, zI, zJ] at hb) <;> (try (exfalso; omega))))))
    all_goals first | (exfalso; omega) | exact ⟨.inl rfl, [], [.agg [.d (.v (.slice none 0 0)), .d (.v (.slice none 0 0))], iV 12], rfl, ⟨⟨1, _, true, rfl, rfl, rfl, rfl⟩, rfl, trivial⟩, err2_le 12, rfl⟩
  | true =>
    rw [if_neg (by decide)]
    obtain ⟨j, rfl, hj⟩ := hasB_nat hq1
    have eg : vs.getD (j : Int).toNat sv0 = vs[j] := by rw [Int.toNat_natCast, getDv hj]
    rw [eg, Int.toNat_natCast]
    cases hq2 : hasB cs.length c with
    | false =>
      rw [if_pos rfl]
      unfold hasB at hq2
      rw [Bool.and_eq_false_iff, decide_eq_false_iff_not, decide_eq_false_iff_not] at hq2
      (repeat' (first
  | (apply yFb; exact rfl; exact rfl)
  | (apply W.qd; (first
    | (apply q_mv; (conv => lhs; whnf))|(apply q_as; (conv => lhs; whnf))|(apply yS; (iterate 3 exact rfl))|(apply yT; (iterate 4 exact rfl))|(apply q_lss; exact rfl; exact rfl)|(apply q_geq; exact rfl; exact rfl)|(apply yV; exact rfl; exact rfl)|(apply yZ; exact rfl; exact rfl; kernel_rfl)|(apply (yEb (u := .d _)); exact rfl; exact rfl)
    | (apply (yDb (u := .d _)); exact rfl; exact rfl)))
  | (apply W.ed; (first
    | (apply yBb; (iterate 3 exact rfl); kernel_rfl; kernel_rfl)
    | (apply yCb; (iterate 3 exact rfl); kernel_rfl)))|(apply W.ln; (apply l_st_box; (iterate 6 exact rfl); (iterate 3 kernel_rfl)))|(refine W.gOff _ _ rfl rfl (by intro h; cases h) ?_)|(apply yA)|(apply yB)|(apply (W.regionS 3); exact rfl; kernel_rfl)|(apply yE)|(apply yJ)|(apply yP)|(apply yQ; exact rfl)|(refine W.gF _ _ rfl rfl (fun hb => ?_) (fun hb => ?_) <;> ((try simp only [hb, zA, zB]) <;> (try simp only [zC, zD, zE, zF, zG, zH, zI, zJ] at hb) <;> (try (exfalso; omega))))
  | (refine W.cond _ rfl (fun hb => ?_) (fun hb => ?_) <;> ((try simp only [hb, zA, zB]) <;> (try simp only [zC, zD, zE, zF, zG, zH, zI, zJ] at hb) <;> (try (exfalso; omega))))))
      all_goals first | (exfalso; omega) | exact ⟨.inl rfl, [], [.agg [.d (.v (.slice none 0 0)), .d (.v (.slice none 0 0))], iV 12], rfl, ⟨⟨1, _, true, rfl, rfl, rfl, rfl⟩, rfl, trivial⟩, err2_le 12, rfl⟩
    | true =>
      rw [if_neg (by decide)]
      have hk := A_rkeeps (vs := vs) (k := c) (n := vs[j].2.2.2.1) h.fin
      unfold hasB at hq2
      rw [Bool.and_eq_true, decide_eq_true_eq, decide_eq_true_eq] at hq2
      generalize userI vs c = u at *
      by_cases h1 : vs[j].2.2.1 ≠ -1
      · rw [if_pos h1]
        (repeat' (first
  | (apply yFb; exact rfl; exact rfl)
  | (apply W.qd; (first
    | (apply q_mv; (conv => lhs; whnf))|(apply q_as; (conv => lhs; whnf))|(apply yS; (iterate 3 exact rfl))|(apply yT; (iterate 4 exact rfl))|(apply q_lss; exact rfl; exact rfl)|(apply q_geq; exact rfl; exact rfl)|(apply q_neq; exact rfl; exact rfl)|(apply yV; exact rfl; exact rfl)|(apply yY; (iterate 3 exact rfl); (first | omega | (focus (simp; done))))|(apply yZ; exact rfl; exact rfl; kernel_rfl)|(apply yGb; (iterate 4 exact rfl); (first | (with_reducible exact rfl) | exact natI_spec rfl | assumption | exact (Int.toNat_of_nonneg (by omega)).symm); (first | omega | (focus (simp only [List.length_map]; omega)) | (focus (simp; done)) | (focus (simp; omega))))
    | (apply (yDb (u := .d _)); exact rfl; exact rfl)))
  | (apply W.ed; (first
    | (apply yBb; (iterate 3 exact rfl); kernel_rfl; kernel_rfl)
    | (apply yCb; (iterate 3 exact rfl); kernel_rfl)))|(apply W.ln; (apply l_st_box; (iterate 6 exact rfl); (iterate 3 kernel_rfl)))|(apply yA)|(apply yB)|(apply (W.regionS 6); exact rfl; kernel_rfl)|(apply yE)|(apply yH)|(apply yJ)|(apply yP)|(refine W.gF _ _ rfl rfl (fun hb => ?_) (fun hb => ?_) <;> ((try simp only [hb, zA, zB]) <;> (try simp only [zC, zD, zE, zF, zG, zH, zI, zJ] at hb) <;> (try (exfalso; omega))))
  | (refine W.cond _ rfl (fun hb => ?_) (fun hb => ?_) <;> ((try simp only [hb, zA, zB]) <;> (try simp only [zC, zD, zE, zF, zG, zH, zI, zJ] at hb) <;> (try (exfalso; omega))))))
        all_goals first | (exfalso; omega) | exact ⟨.inl rfl, [], [.agg [.d (.v (.slice none 0 0)), .d (.v (.slice none 0 0))], iV 19], rfl, ⟨⟨1, _, true, rfl, rfl, rfl, rfl⟩, rfl, trivial⟩, err2_le 19, rfl⟩
      · rw [if_neg h1]
        by_cases h2 : vs[j].2.1 = c
        · rw [if_pos h2]
          (repeat' (first
  | (apply yFb; exact rfl; exact rfl)
  | (apply W.qd; (first
    | (apply q_mv; (conv => lhs; whnf))|(apply q_as; (conv => lhs; whnf))|(apply yS; (iterate 3 exact rfl))|(apply yT; (iterate 4 exact rfl))|(apply q_lss; exact rfl; exact rfl)|(apply q_geq; exact rfl; exact rfl)|(apply q_eql; exact rfl; exact rfl)|(apply q_neq; exact rfl; exact rfl)|(apply yV; exact rfl; exact rfl)|(apply yY; (iterate 3 exact rfl); (first | omega | (focus (simp; done))))|(apply yZ; exact rfl; exact rfl; kernel_rfl)|(apply yGb; (iterate 4 exact rfl); (first | (with_reducible exact rfl) | exact natI_spec rfl | assumption | exact (Int.toNat_of_nonneg (by omega)).symm); (first | omega | (focus (simp only [List.length_map]; omega)) | (focus (simp; done)) | (focus (simp; omega))))
    | (apply (yDb (u := .d _)); exact rfl; exact rfl)))
  | (apply W.ed; (first
    | (apply yBb; (iterate 3 exact rfl); kernel_rfl; kernel_rfl)
    | (apply yCb; (iterate 3 exact rfl); kernel_rfl)))|(apply W.ln; (apply l_st_box; (iterate 6 exact rfl); (iterate 3 kernel_rfl)))|(apply yA)|(apply yB)|(apply (W.regionS 8); exact rfl; kernel_rfl)|(apply yE)|(apply yH)|(apply yJ)|(apply yP)|(refine W.gF _ _ rfl rfl (fun hb => ?_) (fun hb => ?_) <;> ((try simp only [hb, zA, zB]) <;> (try simp only [zC, zD, zE, zF, zG, zH, zI, zJ] at hb) <;> (try (exfalso; omega))))
  | (refine W.cond _ rfl (fun hb => ?_) (fun hb => ?_) <;> ((try simp only [hb, zA, zB]) <;> (try simp only [zC, zD, zE, zF, zG, zH, zI, zJ] at hb) <;> (try (exfalso; omega))))))
          all_goals first | (exfalso; omega) | exact ⟨.inl rfl, [], [.agg [.d (.v (.slice none 0 0)), .d (.v (.slice none 0 0))], iV 1], rfl, ⟨⟨1, _, true, rfl, rfl, rfl, rfl⟩, rfl, trivial⟩, err2_le 1, rfl⟩
        · rw [if_neg h2]
          by_cases hu0 : 0 ≤ u
          · rw [if_pos hu0]
            (repeat' (first
  | (apply yFb; exact rfl; exact rfl)
  | (apply W.qd; (first
    | (apply (yW (hu)); exact rfl; exact rfl; (iterate 3 kernel_rfl))|(apply q_mv; (conv => lhs; whnf))|(apply q_as; (conv => lhs; whnf))|(apply yS; (iterate 3 exact rfl))|(apply yT; (iterate 4 exact rfl))|(apply yU; (iterate 4 exact rfl))|(apply q_lss; exact rfl; exact rfl)|(apply q_geq; exact rfl; exact rfl)|(apply q_eql; exact rfl; exact rfl)|(apply q_neq; exact rfl; exact rfl)|(apply yV; exact rfl; exact rfl)|(apply yY; (iterate 3 exact rfl); (first | omega | (focus (simp; done))))|(apply yZ; exact rfl; exact rfl; kernel_rfl)|(apply yGb; (iterate 4 exact rfl); (first | (with_reducible exact rfl) | exact natI_spec rfl | assumption | exact (Int.toNat_of_nonneg (by omega)).symm); (first | omega | (focus (simp only [List.length_map]; omega)) | (focus (simp; done)) | (focus (simp; omega))))
    | (apply (yDb (u := .d _)); exact rfl; exact rfl)))
  | (apply W.ed; (first
    | (apply yBb; (iterate 3 exact rfl); kernel_rfl; kernel_rfl)
    | (apply yCb; (iterate 3 exact rfl); kernel_rfl)))|(apply W.ln; (apply l_st_box; (iterate 6 exact rfl); (iterate 3 kernel_rfl)))|(apply yA)|(apply yB)|(apply (W.regionS 10); exact rfl; kernel_rfl)|(apply yE)|(apply yH)|(apply yJ)|(apply yP)|(refine W.gF _ _ rfl rfl (fun hb => ?_) (fun hb => ?_) <;> ((try simp only [hb, zA, zB]) <;> (try simp only [zC, zD, zE, zF, zG, zH, zI, zJ] at hb) <;> (try (exfalso; omega))))
  | (refine W.cond _ rfl (fun hb => ?_) (fun hb => ?_) <;> ((try simp only [hb, zA, zB]) <;> (try simp only [zC, zD, zE, zF, zG, zH, zI, zJ] at hb) <;> (try (exfalso; omega))))))
            all_goals first | (exfalso; omega) | exact ⟨.inl rfl, [], [.agg [.d (.v (.slice none 0 0)), .d (.v (.slice none 0 0))], iV 19], rfl, ⟨⟨1, _, true, rfl, rfl, rfl, rfl⟩, rfl, trivial⟩, err2_le 19, rfl⟩
          · rw [if_neg hu0]
            cases hq3 : keepsB cs c vs[j].2.2.2.1 with
            | false =>
              rw [hq3] at hk
              rw [if_pos rfl]
              (repeat' (first
  | (apply yFb; exact rfl; exact rfl)
  | (apply W.qd; (first
    | (apply (yW (hu)); exact rfl; exact rfl; (iterate 3 kernel_rfl))|(apply (yW (hk)); exact rfl; exact rfl; (iterate 3 kernel_rfl))|(apply q_mv; (conv => lhs; whnf))|(apply q_as; (conv => lhs; whnf))|(apply yS; (iterate 3 exact rfl))|(apply yT; (iterate 4 exact rfl))|(apply yU; (iterate 4 exact rfl))|(apply q_lss; exact rfl; exact rfl)|(apply q_geq; exact rfl; exact rfl)|(apply q_eql; exact rfl; exact rfl)|(apply q_neq; exact rfl; exact rfl)|(apply q_not; exact rfl)|(apply yV; exact rfl; exact rfl)|(apply yY; (iterate 3 exact rfl); (first | omega | (focus (simp; done))))|(apply yZ; exact rfl; exact rfl; kernel_rfl)|(apply yGb; (iterate 4 exact rfl); (first | (with_reducible exact rfl) | exact natI_spec rfl | assumption | exact (Int.toNat_of_nonneg (by omega)).symm); (first | omega | (focus (simp only [List.length_map]; omega)) | (focus (simp; done)) | (focus (simp; omega))))
    | (apply (yDb (u := .d _)); exact rfl; exact rfl)))
  | (apply W.ed; (first
    | (apply yBb; (iterate 3 exact rfl); kernel_rfl; kernel_rfl)
    | (apply yCb; (iterate 3 exact rfl); kernel_rfl)))|(apply W.ln; (apply l_st_box; (iterate 6 exact rfl); (iterate 3 kernel_rfl)))|(apply yA)|(apply yB)|(apply (W.regionS 13); exact rfl; kernel_rfl)|(apply yE)|(apply yH)|(apply yJ)|(apply yP)|(apply yQ; exact rfl)|(refine W.gF _ _ rfl rfl (fun hb => ?_) (fun hb => ?_) <;> ((try simp only [hb, zA, zB]) <;> (try simp only [zC, zD, zE, zF, zG, zH, zI, zJ] at hb) <;> (try (exfalso; omega))))
  | (refine W.cond _ rfl (fun hb => ?_) (fun hb => ?_) <;> ((try simp only [hb, zA, zB]) <;> (try simp only [zC, zD, zE, zF, zG, zH, zI, zJ] at hb) <;> (try (exfalso; omega))))))
              all_goals first | (exfalso; omega) | exact ⟨.inl rfl, [], [.agg [.d (.v (.slice none 0 0)), .d (.v (.slice none 0 0))], iV 17], rfl, ⟨⟨1, _, true, rfl, rfl, rfl, rfl⟩, rfl, trivial⟩, err2_le 17, rfl⟩
            | true =>
              rw [hq3] at hk
              rw [if_neg (by decide)]
              (repeat' (first
  | (apply yFb; exact rfl; exact rfl)
  | (apply W.qd; (first
    | (apply (yW (hu)); exact rfl; exact rfl; (iterate 3 kernel_rfl))|(apply (yW (hk)); exact rfl; exact rfl; (iterate 3 kernel_rfl))|(apply q_mv; (conv => lhs; whnf))|(apply q_as; (conv => lhs; whnf))|(apply yS; (iterate 3 exact rfl))|(apply yT; (iterate 4 exact rfl))|(apply yU; (iterate 4 exact rfl))|(apply q_lss; exact rfl; exact rfl)|(apply q_geq; exact rfl; exact rfl)|(apply q_eql; exact rfl; exact rfl)|(apply q_neq; exact rfl; exact rfl)|(apply q_not; exact rfl)|(apply yV; exact rfl; exact rfl)|(apply yY; (iterate 3 exact rfl); (first | omega | (focus (simp; done))))|(apply yGb; (iterate 4 exact rfl); (first | (with_reducible exact rfl) | exact natI_spec rfl | assumption | exact (Int.toNat_of_nonneg (by omega)).symm); (first | omega | (focus (simp only [List.length_map]; omega)) | (focus (simp; done)) | (focus (simp; omega))))
    | (apply (yDb (u := .d _)); exact rfl; exact rfl)))
  | (apply W.ed; (first
    | (apply yBb; (iterate 3 exact rfl); kernel_rfl; kernel_rfl)
    | (apply yCb; (iterate 3 exact rfl); kernel_rfl)))|(apply W.ln; (apply l_st_box; (iterate 6 exact rfl); (iterate 3 kernel_rfl)))|(apply yA)|(apply yB)|(apply (W.regionS 13); exact rfl; kernel_rfl)|(apply yE)|(apply yH)|(apply yR; exact rfl)|(refine W.gF _ _ rfl rfl (fun hb => ?_) (fun hb => ?_) <;> ((try simp only [hb, zA, zB]) <;> (try simp only [zC, zD, zE, zF, zG, zH, zI, zJ] at hb) <;> (try (exfalso; omega))))
  | (refine W.cond _ rfl (fun hb => ?_) (fun hb => ?_) <;> ((try simp only [hb, zA, zB]) <;> (try simp only [zC, zD, zE, zF, zG, zH, zI, zJ] at hb) <;> (try (exfalso; omega))))))
              all_goals try (exfalso; omega)
              (repeat' (first
  | (apply W.qd; (first
    | ((apply q_fld_rptF; (iterate 4 exact rfl)))|(apply q_mv; (conv => lhs; whnf))|(apply q_as; (conv => lhs; whnf))|(apply yS; (iterate 3 exact rfl))|(apply yT; (iterate 4 exact rfl))|(apply yU; (iterate 4 exact rfl))
    | (apply q_ix_osl0; (iterate 4 exact rfl); (first | (with_reducible exact rfl) | exact natI_spec rfl | assumption | exact (Int.toNat_of_nonneg (by omega)).symm); (first | omega | (focus (simp only [List.length_map]; omega)) | (focus (simp; done)) | (focus (simp; omega))))))
  | (apply W.ed; (first
    | (apply (e_callJ (js := []) (hcp)); (iterate 5 exact rfl); kernel_rfl; kernel_rfl)
    | (apply yCb; (iterate 3 exact rfl); kernel_rfl)))|(apply W.ln; (apply l_st_box; (iterate 6 exact rfl); (iterate 3 kernel_rfl)))|(apply W.en; ((apply (e_st_rptF (f := svD) (vs[j].1, vs[j].2.1, c, vs[j].2.2.2)); (iterate 8 exact rfl))))|(apply yA)|(apply yB)|(apply yC; kernel_rfl)|(apply yE)
  | (apply yJ)))
              refine ⟨.inl rfl, [], [.agg [.osl 3 1 0 cs.length, .osl 4 1 0 vs.length], iV 0], rfl, ⟨⟨1, _, true, rfl, rfl, rfl, rfl⟩, rfl, trivial⟩, AVle.of_eq ?_, rfl⟩
              show AV.tup [AV.agg [AV.frz _ [] (.osl 3 1 0 cs.length), AV.frz _ [] (.osl 4 1 0 vs.length)], iV 0] = _
              rw [frz_rowJ (i := 3) (ver := 1) (n := cs.length) (l := cs.map cdD) rfl rfl hmc.symm, frz_rowJ (i := 4) (ver := 1) (n := vs.length) (l := (vs.set j ((vs[j].1, vs[j].2.1, c, vs[j].2.2.2) : Sv)).map svD) rfl rfl (by simp)]
theorem A_rfinish {cs : List Cd} {vs : List Sv} {k : Int} (h : LibOk cs vs) : ACalls Tryz.prog 19 [lib cs vs, iV k] [] (res2 (finN cs vs k)) [] := by
  have hcl := h.cl
  have hvl := h.vl
  have hmc : (cs.map cdD).length = cs.length := List.length_map _
  have hmv : (vs.map svD).length = vs.length := List.length_map _
  have hcp := A_rcopied (cs := cs) (vs := vs) (by omega) (by omega)
  unfold finN atV
  refine acalls_of_body Tryz.func19 rfl (Nat.le_of_ble_eq_true rfl) ?_
  cases hq1 : hasB vs.length k with
  | false =>
    rw [if_pos rfl]
    unfold hasB at hq1
    rw [Bool.and_eq_false_iff, decide_eq_false_iff_not, decide_eq_false_iff_not] at hq1
    (repeat' (first
  | (apply yFb; exact rfl; exact rfl)
  | (apply W.qd; (first
    | (apply q_mv; (conv => lhs; whnf))|(apply q_as; (conv => lhs; whnf))|(apply yS; (iterate 3 exact rfl))|(apply yT; (iterate 4 exact rfl))|(apply q_lss; exact rfl; exact rfl)|(apply q_geq; exact rfl; exact rfl)|(apply yV; exact rfl; exact rfl)|(apply yZ; exact rfl; exact rfl; kernel_rfl)|(apply (yEb (u := .d _)); exact rfl; exact rfl)
    | (apply (yDb (u := .d _)); exact rfl; exact rfl)))
  | (apply W.ed; (first
    | (apply yBb; (iterate 3 exact rfl); kernel_rfl; kernel_rfl)
    | (apply yCb; (iterate 3 exact rfl); kernel_rfl)))|(apply W.ln; (apply l_st_box; (iterate 6 exact rfl); (iterate 3 kernel_rfl)))|(refine W.gOff _ _ rfl rfl (by intro h; cases h) ?_)|(apply yA)|(apply yB)|(apply (W.regionS 3); exact rfl; kernel_rfl)|(apply yE)|(apply yJ)|(apply yP)|(apply yQ; exact rfl)|(refine W.gF _ _ rfl rfl (fun hb => ?_) (fun hb => ?_) <;> ((try simp only [hb, zA, zB]) <;> (try simp only [zC, zD, zE, zF, zG, zH, zI, zJ] at hb) <;> (try (exfalso; omega))))
  | (refine W.cond _ rfl (fun hb => ?_) (fun hb => ?_) <;> ((try simp only [hb, zA, zB]) <;> (try simp only [zC, zD, zE, zF, zG, zH, zI, zJ] at hb) <;> (try (exfalso; omega))))))
    all_goals first | (exfalso; omega) | exact ⟨.inl rfl, [], [.agg [.d (.v (.slice none 0 0)), .d (.v (.slice none 0 0))], iV 12], rfl, ⟨⟨1, _, true, rfl, rfl, rfl, rfl⟩, rfl, trivial⟩, err2_le 12, rfl⟩
  | true =>
    rw [if_neg (by decide)]
    obtain ⟨j, rfl, hj⟩ := hasB_nat hq1
    have eg : vs.getD (j : Int).toNat sv0 = vs[j] := by rw [Int.toNat_natCast, getDv hj]
    rw [eg, Int.toNat_natCast]
    by_cases h1 : vs[j].2.2.1 = -1
    · rw [if_pos h1]
      (repeat' (first
  | (apply yFb; exact rfl; exact rfl)
  | (apply W.qd; (first
    | (apply q_mv; (conv => lhs; whnf))|(apply q_as; (conv => lhs; whnf))|(apply yS; (iterate 3 exact rfl))|(apply yT; (iterate 4 exact rfl))|(apply q_lss; exact rfl; exact rfl)|(apply q_geq; exact rfl; exact rfl)|(apply q_eql; exact rfl; exact rfl)|(apply yV; exact rfl; exact rfl)|(apply yX; (iterate 3 exact rfl); (first | omega | (focus (simp; done))))|(apply q_fld_fptF; (iterate 3 exact rfl))|(apply yZ; exact rfl; exact rfl; kernel_rfl)|(apply yGb; (iterate 4 exact rfl); (first | (with_reducible exact rfl) | exact natI_spec rfl | assumption | exact (Int.toNat_of_nonneg (by omega)).symm); (first | omega | (focus (simp only [List.length_map]; omega)) | (focus (simp; done)) | (focus (simp; omega))))
    | (apply (yDb (u := .d _)); exact rfl; exact rfl)))
  | (apply W.ed; (first
    | (apply yBb; (iterate 3 exact rfl); kernel_rfl; kernel_rfl)
    | (apply yCb; (iterate 3 exact rfl); kernel_rfl)))|(apply W.ln; (apply l_st_box; (iterate 6 exact rfl); (iterate 3 kernel_rfl)))|(apply yA)|(apply yB)|(apply (W.regionS 5); exact rfl; kernel_rfl)|(apply yE)|(apply yH)|(apply yJ)|(apply yP)
  | (refine W.cond _ rfl (fun hb => ?_) (fun hb => ?_) <;> ((try simp only [hb, zA, zB]) <;> (try simp only [zC, zD, zE, zF, zG, zH, zI, zJ] at hb) <;> (try (exfalso; omega))))))
      all_goals first | (exfalso; omega) | exact ⟨.inl rfl, [], [.agg [.d (.v (.slice none 0 0)), .d (.v (.slice none 0 0))], iV 19], rfl, ⟨⟨1, _, true, rfl, rfl, rfl, rfl⟩, rfl, trivial⟩, err2_le 19, rfl⟩
    · rw [if_neg h1]
      have hss : (vs.set j ((vs[j].1, vs[j].2.2.1, vs[j].2.2) : Sv)).set j ((vs[j].1, vs[j].2.2.1, -1, vs[j].2.2.2) : Sv) = vs.set j ((vs[j].1, vs[j].2.2.1, -1, vs[j].2.2.2) : Sv) := List.set_set _
      have hsv : svD (vs[j].1, vs[j].2.2.1, -1, vs[j].2.2.2) = (svD ((vs.set j ((vs[j].1, vs[j].2.2.1, vs[j].2.2) : Sv))[j]'(by rw [List.length_set]; exact hj))).set 2 (.v (.int .i64 (-1))) := by rw [List.getElem_set_self]; rfl
      have hls : (vs.set j ((vs[j].1, vs[j].2.2.1, vs[j].2.2) : Sv)).length = vs.length := List.length_set
      (repeat' (first
  | (apply yFb; exact rfl; exact rfl)
  | (apply W.qd; (first
    | (apply q_mv; (conv => lhs; whnf))|(apply q_as; (conv => lhs; whnf))|(apply yS; (iterate 3 exact rfl))|(apply yT; (iterate 4 exact rfl))|(apply q_lss; exact rfl; exact rfl)|(apply q_geq; exact rfl; exact rfl)|(apply q_eql; exact rfl; exact rfl)|(apply yV; exact rfl; exact rfl)|(apply yX; (iterate 3 exact rfl); (first | omega | (focus (simp; done))))|(apply q_fld_fptF; (iterate 3 exact rfl))|(apply yGb; (iterate 4 exact rfl); (first | (with_reducible exact rfl) | exact natI_spec rfl | assumption | exact (Int.toNat_of_nonneg (by omega)).symm); (first | omega | (focus (simp only [List.length_map]; omega)) | (focus (simp; done)) | (focus (simp; omega))))
    | (apply (yDb (u := .d _)); exact rfl; exact rfl)))
  | (apply W.ed; (first
    | (apply yBb; (iterate 3 exact rfl); kernel_rfl; kernel_rfl)
    | (apply yCb; (iterate 3 exact rfl); kernel_rfl)))|(apply yA)|(apply yB)|(apply (W.regionS 5); exact rfl; kernel_rfl)|(apply yE)|(apply yH)
  | (refine W.cond _ rfl (fun hb => ?_) (fun hb => ?_) <;> ((try simp only [hb, zA, zB]) <;> (try simp only [zC, zD, zE, zF, zG, zH, zI, zJ] at hb) <;> (try (exfalso; omega))))))
      all_goals try (exfalso; omega)
      (repeat' (first
  | (apply W.qd; (first
    | ((apply q_fld_rptF; (iterate 4 exact rfl)))|(apply q_mv; (conv => lhs; whnf))|(apply q_as; (conv => lhs; whnf))|(apply yS; (iterate 3 exact rfl))|(apply yT; (iterate 4 exact rfl))|(apply yU; (iterate 4 exact rfl))|(apply q_ix_osl0; (iterate 4 exact rfl); (first | (with_reducible exact rfl) | exact natI_spec rfl | assumption | exact (Int.toNat_of_nonneg (by omega)).symm); (first | omega | (focus (simp only [List.length_map]; omega)) | (focus (simp; done)) | (focus (simp; omega))))
    | (apply q_ld_rptm; (iterate 4 exact rfl); (first | omega | (focus (simp only [List.length_map]; omega)) | (focus (simp; done)) | (focus (simp; omega))))))
  | (apply W.ed; (first
    | (apply (e_callJ (js := []) (hcp)); (iterate 5 exact rfl); kernel_rfl; kernel_rfl)
    | (apply yCb; (iterate 3 exact rfl); kernel_rfl)))|(apply W.ln; (apply l_st_box; (iterate 6 exact rfl); (iterate 3 kernel_rfl)))
  | (apply W.en; (first
    | ((apply (e_st_rptF (f := svD) (vs[j].1, vs[j].2.2.1, vs[j].2.2)); (iterate 8 exact rfl)))
    | ((apply (e_st_rptF (f := svD) (l := vs.set j (vs[j].1, vs[j].2.2.1, vs[j].2.2)) (vs[j].1, vs[j].2.2.1, -1, vs[j].2.2.2)); (iterate 5 exact rfl); exact hsv; exact rfl; exact rfl))))|(apply yA)|(apply yB)|(apply yC; kernel_rfl)|(apply yD; exact rfl; kernel_rfl)|(apply yE)|(apply yF; kernel_rfl)
  | (apply yJ)))
      rw [← hss]
      refine ⟨.inl rfl, [], [.agg [.osl 2 1 0 cs.length, .osl 3 1 0 vs.length], iV 0], rfl, ⟨⟨1, _, true, rfl, rfl, rfl, rfl⟩, rfl, trivial⟩, AVle.of_eq ?_, rfl⟩
      show AV.tup [AV.agg [AV.frz _ [] (.osl 2 1 0 cs.length), AV.frz _ [] (.osl 3 1 0 vs.length)], iV 0] = _
      rw [frz_rowJ (i := 2) (ver := 1) (n := cs.length) (l := cs.map cdD) rfl rfl hmc.symm, frz_rowJ (i := 3) (ver := 1) (n := vs.length) (l := ((vs.set j ((vs[j].1, vs[j].2.2.1, vs[j].2.2) : Sv)).set j ((vs[j].1, vs[j].2.2.1, -1, vs[j].2.2.2) : Sv)).map svD) rfl rfl (by simp)]
theorem A_sameLib {cs : List Cd} {vs : List Sv} (h : LibOk cs vs) : ACalls Tryz.prog 15 [lib cs vs, lib cs vs] [] (bV true) [] := by
  have hcl := h.cl
  have hvl := h.vl
  have hmc : (cs.map cdD).length = cs.length := List.length_map _
  have hmv : (vs.map svD).length = vs.length := List.length_map _
  refine acalls_of_body Tryz.func15 rfl (Nat.le_of_ble_eq_true rfl) ?_
  (repeat' (first
  | (apply yFb; exact rfl; exact rfl)
  | (apply W.qd; (first
    | (apply q_mv; (conv => lhs; whnf))|(apply q_as; (conv => lhs; whnf))|(apply yS; (iterate 3 exact rfl))|(apply yT; (iterate 4 exact rfl))|(apply q_neq; exact rfl; exact rfl)|(apply yV; exact rfl; exact rfl)
    | (apply (yDb (u := .d _)); exact rfl; exact rfl)))|(apply W.ed; (apply yBb; (iterate 3 exact rfl); kernel_rfl; kernel_rfl))|(apply yA)|(apply yB)|(apply (W.regionS 4); exact rfl; kernel_rfl)|(apply yE)|(apply yG)|(apply yH)|(refine W.gF _ _ rfl rfl (fun hb => ?_) (fun hb => ?_) <;> ((try simp only [hb, zA, zB]) <;> (try simp only [zC, zD, zE, zF, zG, zH, zI, zJ] at hb) <;> (try (exfalso; omega))))
  | (refine W.cond _ rfl (fun hb => ?_) (fun hb => ?_) <;> ((try simp only [hb, zA, zB]) <;> (try simp only [zC, zD, zE, zF, zG, zH, zI, zJ] at hb) <;> (try (exfalso; omega))))))
  all_goals try (exfalso; omega)
  refine AWP.loopW (α := Nat) (fun k => k ≤ cs.length) (fun k => ⟨[(5, iV k), (2, .opt 0 0), (3, .opt 1 0)], [.box [cds cs, svs vs], .box [cds cs, svs vs]]⟩) (fun k => cs.length - k) 0 (Nat.zero_le _) ⟨[0, 1], rfl, rfl, rfl, by (repeat (first | exact trivial | refine ⟨rfl, ?_⟩))⟩ fun k hk => ?_
  by_cases hkl : k < cs.length
  · have hmem := List.getElem_mem hkl
    obtain ⟨hr1, hr2⟩ := chk_rows (h.ck _ hmem)
    have hs := A_sameSelf (c := cs[k]) (h.cn _ hmem) (by omega) (fun r hr => by have := hr2 r hr; omega)
    (repeat' (first
  | (apply W.qd; (first
    | (apply (yW (hs)); exact rfl; exact rfl; (iterate 3 kernel_rfl))|(apply q_mv; (conv => lhs; whnf))|(apply q_as; (conv => lhs; whnf))|(apply yS; (iterate 3 exact rfl))|(apply yT; (iterate 4 exact rfl))|(apply q_lss; exact rfl; exact rfl)|(apply q_not; exact rfl)|(apply q_add; exact rfl; exact rfl; omega)|(apply yV; exact rfl; exact rfl)|(apply yY; (iterate 3 exact rfl); (first | omega | (focus (simp; done))))
    | (apply yGb; (iterate 4 exact rfl); (first | (with_reducible exact rfl) | exact natI_spec rfl | assumption | exact (Int.toNat_of_nonneg (by omega)).symm); (first | omega | (focus (simp only [List.length_map]; omega)) | (focus (simp; done)) | (focus (simp; omega))))))|(apply yA)|(apply yB)|(apply yC; kernel_rfl)|(apply yD; exact rfl; kernel_rfl)|(apply yE)|(apply yF; kernel_rfl)|(apply yG)|(apply yH)|(apply yL)|(apply yR; exact rfl)
  | (refine W.cond _ rfl (fun hb => ?_) (fun hb => ?_) <;> ((try simp only [hb, zA, zB]) <;> (try simp only [zC, zD, zE, zF, zG, zH, zI, zJ] at hb) <;> (try (exfalso; omega))))))
    all_goals exact ⟨k + 1, by omega, by omega, [0, 1], rfl, rfl, rfl, iV_eq (by omega), rfl, rfl, trivial⟩
  · (repeat' (first
  | (apply W.qd; (first
    | (apply q_mv; (conv => lhs; whnf))|(apply q_as; (conv => lhs; whnf))|(apply yS; (iterate 3 exact rfl))|(apply yT; (iterate 4 exact rfl))|(apply q_lss; exact rfl; exact rfl)
    | (apply yV; exact rfl; exact rfl)))|(apply yA)|(apply yB)|(apply (W.regionS 10); exact rfl; kernel_rfl)|(apply yE)|(apply yG)|(apply yI)|(apply yK)|(apply yM)
  | (refine W.cond _ rfl (fun hb => ?_) (fun hb => ?_) <;> ((try simp only [hb, zA, zB]) <;> (try simp only [zC, zD, zE, zF, zG, zH, zI, zJ] at hb) <;> (try (exfalso; omega))))))
    refine AWP.loopW (α := Nat) (fun k => k ≤ vs.length) (fun k => ⟨[(7, iV k), (2, .opt 0 0), (3, .opt 1 0)], [.box [cds cs, svs vs], .box [cds cs, svs vs]]⟩) (fun k => vs.length - k) 0 (Nat.zero_le _) ⟨[0, 1], rfl, rfl, rfl, by (repeat (first | exact trivial | refine ⟨rfl, ?_⟩))⟩ fun k hk => ?_
    by_cases hkv : k < vs.length
    · have hb2 := (h.vn _ (List.getElem_mem hkv)).b
      (repeat' (first
  | (apply W.qd; (first
    | ((apply (q_neT fi_sv); (iterate 5 exact rfl); exact (show _ = false by simp)))|(apply q_mv; (conv => lhs; whnf))|(apply q_as; (conv => lhs; whnf))|(apply yS; (iterate 3 exact rfl))|(apply yT; (iterate 4 exact rfl))|(apply q_lss; exact rfl; exact rfl)|(apply q_add; exact rfl; exact rfl; omega)|(apply yV; exact rfl; exact rfl)|(apply yY; (iterate 3 exact rfl); (first | omega | (focus (simp; done))))
    | (apply yGb; (iterate 4 exact rfl); (first | (with_reducible exact rfl) | exact natI_spec rfl | assumption | exact (Int.toNat_of_nonneg (by omega)).symm); (first | omega | (focus (simp only [List.length_map]; omega)) | (focus (simp; done)) | (focus (simp; omega))))))|(apply yA)|(apply yB)|(apply yC; kernel_rfl)|(apply yD; exact rfl; kernel_rfl)|(apply yE)|(apply yF; kernel_rfl)|(apply yG)|(apply yH)|(apply yL)|(apply yR; exact rfl)
  | (refine W.cond _ rfl (fun hb => ?_) (fun hb => ?_) <;> ((try simp only [hb, zA, zB]) <;> (try simp only [zC, zD, zE, zF, zG, zH, zI, zJ] at hb) <;> (try (exfalso; omega))))))
      all_goals exact ⟨k + 1, by omega, by omega, [0, 1], rfl, rfl, rfl, iV_eq (by omega), rfl, rfl, trivial⟩
    · (repeat' (first
  | (apply W.qd; (first
    | (apply q_mv; (conv => lhs; whnf))|(apply q_as; (conv => lhs; whnf))|(apply yS; (iterate 3 exact rfl))|(apply yT; (iterate 4 exact rfl))|(apply q_lss; exact rfl; exact rfl)
    | (apply yV; exact rfl; exact rfl)))|(apply yA)|(apply yB)|(apply yC; kernel_rfl)|(apply yE)|(apply yI)|(apply yJ)|(apply yK)|(apply yM)
  | (refine W.cond _ rfl (fun hb => ?_) (fun hb => ?_) <;> ((try simp only [hb, zA, zB]) <;> (try simp only [zC, zD, zE, zF, zG, zH, zI, zJ] at hb) <;> (try (exfalso; omega))))))
      all_goals exact Ends.b rfl rfl
end Go.Proofs.YtaclmbbiegklcaaGreatDoor
end
section
namespace Go.Proofs.YtaclmbbiegklcaaGreatDoor
open Go.RowKit
set_option maxHeartbeats 4000000
set_option maxRecDepth 100000
theorem small_fin {cs : List Cd} {vs : List Sv} (h : small30 cs vs = true) (hi : LibIn cs vs) : ∀ c ∈ cs, FInD c := fun c hc => by
  unfold small30 at h
  rw [Bool.and_eq_true, List.all_eq_true] at h
  have h1 := h.2 c hc
  unfold few30 at h1
  simp only [Bool.and_eq_true, decide_eq_true_eq] at h1
  exact ⟨(hi.cn c hc).b, (hi.cn c hc).l, by omega, by omega⟩
attribute [local irreducible] Quiet Eff OpOk AWPG ACont ABlock ACalls AGoto
theorem A_finds {cs : List Cd} {vs : List Sv} {nm : List Nat} {k : Int} (h : LibOk cs vs) (hn : NameIn nm) : ACalls Tryz.prog 20 [lib cs vs, bS nm, iV k] [] (bV true) [] := by
  have hcl := h.cl
  have hvl := h.vl
  have f1 := A_findC (cs := cs) (vs := vs) (nm := nm) (by omega) (fun c hc => (h.cn c hc).b) hn.b
  have f2 := A_rfindC (cs := cs) (vs := vs) (nm := nm) (by omega) (fun c hc => (h.cn c hc).b) hn.b
  have f3 := A_findV (cs := cs) (vs := vs) (nm := nm) (by omega) (fun c hc => (h.vn c hc).b) hn.b
  have f4 := A_rfindV (cs := cs) (vs := vs) (nm := nm) (by omega) (fun c hc => (h.vn c hc).b) hn.b
  have f5 := A_target (cs := cs) (vs := vs) (k := k)
  have f6 := A_rtarget (cs := cs) (vs := vs) (k := k)
  unfold findA at f1 f2 f3 f4
  generalize fxI (fcI cs nm) = a1 at *
  generalize fxE (fcI cs nm) = a2 at *
  generalize fxI (fvI vs nm) = a3 at *
  generalize fxE (fvI vs nm) = a4 at *
  generalize (tgtN vs k).1 = a5 at *
  generalize (tgtN vs k).2 = a6 at *
  refine acalls_of_body Tryz.func20 rfl (Nat.le_of_ble_eq_true rfl) ?_
  (repeat' (first
  | (apply yFb; exact rfl; exact rfl)
  | (apply W.qd; (first
    | (apply (yW (f1)); exact rfl; exact rfl; (iterate 3 kernel_rfl))|(apply (yW (f2)); exact rfl; exact rfl; (iterate 3 kernel_rfl))|(apply (yW (f3)); exact rfl; exact rfl; (iterate 3 kernel_rfl))|(apply (yW (f4)); exact rfl; exact rfl; (iterate 3 kernel_rfl))|(apply (yW (f5)); exact rfl; exact rfl; (iterate 3 kernel_rfl))|(apply (yW (f6)); exact rfl; exact rfl; (iterate 3 kernel_rfl))|(apply q_mv; (conv => lhs; whnf))|(apply q_as; (conv => lhs; whnf))|(apply yU; (iterate 4 exact rfl))|(apply q_eql; exact rfl; exact rfl)|(apply yAb; exact rfl; exact rfl)
    | (apply (yEb (u := .d _)); exact rfl; exact rfl)))|(apply W.ed; (apply yBb; (iterate 3 exact rfl); kernel_rfl; kernel_rfl))|(apply yA)|(apply yB)|(apply yC; kernel_rfl)|(apply yE)|(apply yJ)
  | (refine W.gT _ _ rfl rfl (fun hb => ?_) (fun hb => ?_) <;> ((try simp only [hb, zA, zB]) <;> (try simp only [zC, zD, zE, zF, zG, zH, zI, zJ] at hb) <;> (try (exfalso; omega))))))
  all_goals exact Ends.b rfl (by simp)
theorem A_matches30 {cs : List Cd} {vs : List Sv} {c : Cd} {nm : List Nat} {i k l w : Int} (h : LibIn cs vs) (hc : NameIn c.1) (hcp : c.2.2.2.1.length ≤ 9223372036854775807) (hn : NameIn nm) : ACalls Tryz.prog 3 [lib cs vs, cdA1 c, bS nm, iV i, iV k, iV l, iV w] [] (bV true) [] := by
  refine acalls_of_body Tryz.func3 rfl (Nat.le_of_ble_eq_true rfl) ?_
  have hsa := A_sanity30
  have hs := A_sml30 (cs := cs) (vs := vs) h.cl h.vl
  have hf := A_few30 (c := c)
  have hv := A_valid30 h
  by_cases hfit : small30 cs vs = true ∧ few30 c = true
  case neg =>
    cases h1 : small30 cs vs with
    | false =>
      rw [h1] at hs
      (repeat' (first
  | (apply W.qd; (first
    | (apply (yW (hs)); exact rfl; exact rfl; (iterate 3 kernel_rfl))|(apply (yW (hsa)); exact rfl; exact rfl; (iterate 3 kernel_rfl))|(apply q_mv; (conv => lhs; whnf))|(apply q_as; (conv => lhs; whnf))|(apply yU; (iterate 4 exact rfl))|(apply q_not; exact rfl)
    | (apply (yDb (u := .d _)); exact rfl; exact rfl)))|(apply W.ed; (apply yBb; (iterate 3 exact rfl); kernel_rfl; kernel_rfl))|(refine W.gOff _ _ rfl rfl (by intro h; cases h) ?_)|(apply yA)|(apply yB)|(apply yC; kernel_rfl)|(apply yE)|(apply yJ)|(apply yP)
  | (apply yQ; exact rfl)))
      all_goals exact Ends.b rfl rfl
    | true =>
      have h2 : few30 c = false := Bool.eq_false_iff.2 fun h2 => hfit ⟨h1, h2⟩
      rw [h1] at hs
      rw [h2] at hf
      (repeat' (first
  | (apply yFb; exact rfl; exact rfl)
  | (apply W.qd; (first
    | (apply (yW (hs)); exact rfl; exact rfl; (iterate 3 kernel_rfl))|(apply (yW (hf)); exact rfl; exact rfl; (iterate 3 kernel_rfl))|(apply (yW (hsa)); exact rfl; exact rfl; (iterate 3 kernel_rfl))|(apply q_mv; (conv => lhs; whnf))|(apply q_as; (conv => lhs; whnf))|(apply yU; (iterate 4 exact rfl))|(apply q_not; exact rfl)
    | (apply (yEb (u := .d _)); exact rfl; exact rfl)))|(apply W.ed; (apply yBb; (iterate 3 exact rfl); kernel_rfl; kernel_rfl))|(apply yA)|(apply yB)|(apply yC; kernel_rfl)|(apply yE)|(apply yJ)|(apply yP)
  | (apply yQ; exact rfl)))
      all_goals exact Ends.b rfl rfl
  have hrv := A_rvalid30 h (small_fin hfit.1 h)
  have hfc : FInD c := by
    have h1 := hfit.2
    unfold few30 at h1
    simp only [Bool.and_eq_true, decide_eq_true_eq] at h1
    exact ⟨hc.b, hc.l, by omega, by omega⟩
  rw [hfit.1] at hs
  rw [hfit.2] at hf
  cases hq : validB cs vs with
  | false =>
    rw [hq] at hv hrv
    (repeat' (first
  | (apply yFb; exact rfl; exact rfl)
  | (apply W.qd; (first
    | (apply (yW (hs)); exact rfl; exact rfl; (iterate 3 kernel_rfl))|(apply (yW (hf)); exact rfl; exact rfl; (iterate 3 kernel_rfl))|(apply (yW (hsa)); exact rfl; exact rfl; (iterate 3 kernel_rfl))|(apply (yW (hv)); exact rfl; exact rfl; (iterate 3 kernel_rfl))|(apply (yW (hrv)); exact rfl; exact rfl; (iterate 3 kernel_rfl))|(apply q_mv; (conv => lhs; whnf))|(apply q_as; (conv => lhs; whnf))|(apply yU; (iterate 4 exact rfl))|(apply q_not; exact rfl)|(apply (yEb (u := .d _)); exact rfl; exact rfl)
    | (apply q_neqB; (iterate 3 exact rfl))))|(apply W.ed; (apply yBb; (iterate 3 exact rfl); kernel_rfl; kernel_rfl))|(apply yA)|(apply yB)|(apply yC; kernel_rfl)|(apply yE)|(apply yH)|(apply yJ)|(apply yP)|(apply yQ; exact rfl)
  | (apply yR; exact rfl)))
    all_goals exact Ends.b rfl rfl
  | true =>
    rw [hq] at hv hrv
    have hg : Gd30 cs vs := ⟨valid_iff.1 hq, h⟩
    have hok := hg.v.ok h
    have k1 := A_addCode hok hc hcp
    have k2 := A_addClass (k := i) (l := l) (w := w) hok hn
    have k3 := A_change (k := k) (c := i) hok
    have k4 := A_finish (k := k) hok
    have m1 := A_raddCode hok hfc hc
    have m2 := A_raddClass (k := i) (l := l) (w := w) hok hn
    have m3 := A_rchange (k := k) (c := i) hok
    have m4 := A_rfinish (k := k) hok
    have g1 := good_addC hg hc hcp
    have g2 := good_addV (k := i) (l := l) (w := w) hg hn
    have g3 := good_chg (k := k) (c := i) hg
    have g4 := good_fin (k := k) hg
    have v1 := A_sameLib (g1.v.ok g1.n)
    have v2 := A_sameLib (g2.v.ok g2.n)
    have v3 := A_sameLib (g3.v.ok g3.n)
    have v4 := A_sameLib (g4.v.ok g4.n)
    have hfi := A_finds (k := k) hok hn
    clear g1 g2 g3 g4
    generalize addCN cs vs c = r1 at *
    generalize addVN cs vs nm i l w = r2 at *
    generalize chgN cs vs k i = r3 at *
    generalize finN cs vs k = r4 at *
    (repeat' (first
  | (apply yFb; exact rfl; exact rfl)
  | (apply W.qd; (first
    | (apply (yW (hs)); exact rfl; exact rfl; (iterate 3 kernel_rfl))|(apply (yW (hf)); exact rfl; exact rfl; (iterate 3 kernel_rfl))|(apply (yW (hsa)); exact rfl; exact rfl; (iterate 3 kernel_rfl))|(apply (yW (hv)); exact rfl; exact rfl; (iterate 3 kernel_rfl))|(apply (yW (hrv)); exact rfl; exact rfl; (iterate 3 kernel_rfl))|(apply (yW (k1)); exact rfl; exact rfl; (iterate 3 kernel_rfl))|(apply (yW (k2)); exact rfl; exact rfl; (iterate 3 kernel_rfl))|(apply (yW (k3)); exact rfl; exact rfl; (iterate 3 kernel_rfl))|(apply (yW (k4)); exact rfl; exact rfl; (iterate 3 kernel_rfl))|(apply (yW (m1)); exact rfl; exact rfl; (iterate 3 kernel_rfl))|(apply (yW (m2)); exact rfl; exact rfl; (iterate 3 kernel_rfl))|(apply (yW (m3)); exact rfl; exact rfl; (iterate 3 kernel_rfl))|(apply (yW (m4)); exact rfl; exact rfl; (iterate 3 kernel_rfl))|(apply (yW (v1)); exact rfl; exact rfl; (iterate 3 kernel_rfl))|(apply (yW (v2)); exact rfl; exact rfl; (iterate 3 kernel_rfl))|(apply (yW (v3)); exact rfl; exact rfl; (iterate 3 kernel_rfl))|(apply (yW (v4)); exact rfl; exact rfl; (iterate 3 kernel_rfl))|(apply (yW (hfi)); exact rfl; exact rfl; (iterate 3 kernel_rfl))|(apply q_mv; (conv => lhs; whnf))|(apply q_as; (conv => lhs; whnf))|(apply yU; (iterate 4 exact rfl))|(apply q_eql; exact rfl; exact rfl)|(apply q_not; exact rfl)|(apply yAb; exact rfl; exact rfl)|(apply (yEb (u := .d _)); exact rfl; exact rfl)
    | (apply q_neqB; (iterate 3 exact rfl))))
  | (apply W.ed; (first
    | (apply yBb; (iterate 3 exact rfl); kernel_rfl; kernel_rfl)
    | (apply yCb; (iterate 3 exact rfl); kernel_rfl)))|(apply W.ln; (apply l_st_box; (iterate 6 exact rfl); (iterate 3 kernel_rfl)))|(apply yA)|(apply yB)|(apply yC; kernel_rfl)|(apply yE)|(apply yH)|(apply yJ)|(apply yR; exact rfl)
  | (refine W.gT _ _ rfl rfl (fun hb => ?_) (fun hb => ?_) <;> ((try simp only [hb, zA, zB]) <;> (try simp only [zC, zD, zE, zF, zG, zH, zI, zJ] at hb) <;> (try (exfalso; omega))))))
    all_goals exact Ends.b rfl (by simp)
end Go.Proofs.YtaclmbbiegklcaaGreatDoor
end
