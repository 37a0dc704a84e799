import Derived.Test.YtilpljehfcpjeaaGreatDoorMRepairAllMatchesSpec6
/- Joined texts: Rp14 Rp15 Rp16 Rp17. -/
set_option linter.unusedVariables false
set_option linter.unusedSimpArgs false
section
/- The reference of layer 10 over the machine of abstract values: check, Checks, terms, better, Plan. -/
namespace Go.Proofs.YtilpljehfcpjeaaGreatDoor
open Go.RowKit
set_option maxHeartbeats 4000000
set_option maxRecDepth 100000
attribute [local irreducible] Quiet Eff OpOk AWPG ACont ABlock ACalls AGoto
theorem A_r10check {M D i : Nat} {ps : List (List Nat)} (h : CodeOk M D ps) (hi : i < ps.length) : ACalls Tryz.prog 41 [cdN M D ps, iV i] [] (nats (checkN D i (ps.getD i []))) [] := by
  refine acalls_of_body Tryz.func41 rfl (Nat.le_of_ble_eq_true rfl) ?_
  have h1 := h.d
  have h2 := h.w
  have hr := (h.row _ (List.getElem_mem hi)).1
  have e : ps.getD i [] = ps[i] := by rw [List.getD_eq_getElem?_getD, List.getElem?_eq_getElem hi]; rfl
  rw [e]
  have hmr : (ps[i].map kD).length = D := by rw [List.length_map]; exact hr
  (repeat' (first
  | (apply W.qd; (apply q_as; (first|exact vD|exact vO|exact vP|exact vA|exact vF|exact vR|exact vN|exact vY|exact vT|exact vX)))|(apply W.ed; (apply e_boxF; exact rfl; exact rfl; exact rfl; kernel_rfl; kernel_rfl))|(apply AWP.seq)|(apply ACont_normal)|(apply (W.regionS 2); exact rfl; kernel_rfl)
  | (apply Walk.nil)))
  refine AWP.nilRow 5 1 3 rfl (by omega) ?_
  (repeat' (first
  | (apply W.qd; (apply q_as; (first|exact vD|exact vO|exact vP|exact vA|exact vF|exact vR|exact vN|exact vY|exact vT|exact vX)))|(apply ACont_normal)|(apply (W.regionS 3); exact rfl; kernel_rfl)|(apply Walk.nil)
  | (apply AWP.block)))
  refine AWP.loopW (α := Nat) (fun k => k ≤ D) (fun k => ⟨[(6, iV k), (5, .osl 1 (dataC D ps[i] k).length 0 (dataC D ps[i] k).length), (2, .opt 0 0), (1, iV i)], [.box [.d .any, iV M, iV D, rowsN ps, .d .any], .row (dataC D ps[i] k).length 1 3 ((dataC D ps[i] k).map kD)]⟩) (fun k => D - k) 0 (by omega) ?wk0 fun k hk => ?_
  case wk0 =>
    rw [show dataC D ps[i] 0 = [] from rfl]
    exact ⟨[0, 1], rfl, rfl, rfl, by (repeat (first | exact trivial | refine ⟨rfl, ?_⟩))⟩
  have hlc := dataC_length D ps[i] k
  by_cases hkD : k < D
  · have hs := Lib.hid (dataC_succ D ps[i] k)
    have e2 : ps[i].getD k 0 = ps[i][k]'(by omega) := by rw [List.getD_eq_getElem?_getD, List.getElem?_eq_getElem (show k < ps[i].length by omega)]; rfl
    rw [e2] at hs
    generalize dataC D ps[i] k = A at *
    (repeat' (first
  | (apply W.qd; (first
    | (apply q_mv; (first|exact vD|exact vO|exact vP|exact vA|exact vF|exact vR|exact vN|exact vY|exact vT|exact vX))|(apply q_as; (first|exact vD|exact vO|exact vP|exact vA|exact vF|exact vR|exact vN|exact vY|exact vT|exact vX))|(apply q_fld_optF; exact rfl; exact rfl; exact rfl)|(apply q_ld_box; exact rfl; exact rfl; exact rfl; exact rfl)|(apply q_lss; exact rfl; exact rfl)|(apply q_neq; exact rfl; exact rfl)|(apply q_add; exact rfl; exact rfl; omega)|(apply q_ld_map; exact rfl; exact rfl; exact rfl; (first | omega | (focus (simp; done))))|(apply q_litF; exact rfl; exact rfl; exact rfl; exact rfl; exact rfl; kernel_rfl; kernel_rfl; exact rfl)
    | (apply q_ix_slF; exact rfl; exact rfl; exact rfl; exact rfl; (first | (with_reducible exact rfl) | exact natI_spec rfl | assumption | exact (Int.toNat_of_nonneg (by omega)).symm); (first | omega | (focus (simp only [List.length_map]; omega)) | (focus (simp; done)) | (focus (simp; omega))))))|(apply W.ld; (apply l_app1; exact rfl; exact rfl; exact rfl; exact rfl; exact rfl; exact rfl; exact rfl; exact rfl; (first | omega | (focus (simp; omega)) | (focus (simp; done)))))|(apply AWP.seq)|(apply ACont_normal)|(apply W.region; kernel_rfl)|(apply Walk.nil)|(apply AWP.block)|(apply AWP.skip)|(apply ABlock_normal)
  | (refine W.cond _ rfl (fun hb => ?_) (fun hb => ?_) <;> ((try simp only [hb, Bool.not_true, Bool.not_false]) <;> (try simp only [decide_eq_true_eq, decide_eq_false_iff_not, Bool.not_eq_true', Bool.not_eq_false', Int.not_lt, Int.not_le, List.length_map, not_true_eq_false] at hb) <;> (try (exfalso; omega))))))
    · rw [if_neg (by omega)] at hs
      refine ⟨k + 1, by omega, by omega, ?_⟩
      rw [hs.out, show (A ++ [k]).length = A.length + 1 by simp]
      exact ⟨[0, 1], rfl, rfl, rfl, iV_eq (by omega), congrArg (AV.osl 1 (A.length + 1) 0) (by simp), rfl, rfl, trivial⟩
    · rw [if_pos (by omega)] at hs
      refine ⟨k + 1, by omega, by omega, ?_⟩
      rw [hs.out]
      exact ⟨[0, 1], rfl, rfl, rfl, iV_eq (by omega), rfl, rfl, rfl, trivial⟩
  · have e3 : k = D := by omega
    subst e3
    unfold checkN
    generalize dataC k ps[i] k = A at *
    (repeat' (first
  | (apply W.qd; (first
    | (apply q_mv; (first|exact vD|exact vO|exact vP|exact vA|exact vF|exact vR|exact vN|exact vY|exact vT|exact vX))|(apply q_as; (first|exact vD|exact vO|exact vP|exact vA|exact vF|exact vR|exact vN|exact vY|exact vT|exact vX))|(apply q_fld_optF; exact rfl; exact rfl; exact rfl)|(apply q_ld_box; exact rfl; exact rfl; exact rfl; exact rfl)|(apply q_lss; exact rfl; exact rfl)|(apply q_add; exact rfl; exact rfl; omega)
    | (apply q_litF; exact rfl; exact rfl; exact rfl; exact rfl; exact rfl; kernel_rfl; kernel_rfl; exact rfl)))|(apply W.ld; (apply l_app1; exact rfl; exact rfl; exact rfl; exact rfl; exact rfl; exact rfl; exact rfl; exact rfl; (first | omega | (focus (simp; omega)) | (focus (simp; done)))))|(apply AWP.seq)|(apply ACont_normal)|(apply W.region; kernel_rfl)|(apply Walk.nil)|(apply AWP.exit)|(apply AWP.ret)|(apply ACont_exit)|(apply ABlock_exit)
  | (refine W.cond _ rfl (fun hb => ?_) (fun hb => ?_) <;> ((try simp only [hb, Bool.not_true, Bool.not_false]) <;> (try simp only [decide_eq_true_eq, decide_eq_false_iff_not, Bool.not_eq_true', Bool.not_eq_false', Int.not_lt, Int.not_le, List.length_map, not_true_eq_false] at hb) <;> (try (exfalso; omega))))))
    exact Ends.osl rfl rfl (by simp) rfl
theorem A_r10has {l : List Nat} {u : Int} (hl : l.length ≤ 1000000) : ACalls Tryz.prog 42 [nats l, iV u] [] (bV (l.any fun x => decide (u = (x : Int)))) [] := by
  refine acalls_of_bodyO Tryz.func42 rfl (Nat.le_of_ble_eq_true rfl) ?_
  have hml : (l.map kD).length = l.length := List.length_map _
  (repeat' (first
  | (apply W.qd; (apply q_as; (first|exact vD|exact vO|exact vP|exact vA|exact vF|exact vR|exact vN|exact vY|exact vT|exact vX)))|(apply AWP.seq)|(apply ACont_normal)|(apply (W.regionS 2); exact rfl; kernel_rfl)|(apply Walk.nil)
  | (apply AWP.block)))
  refine AWP.loopW (α := Nat) (fun k => k ≤ l.length ∧ (l.take k).any (fun x => decide (u = (x : Int))) = false) (fun k => ⟨[(5, iV k), (0, nats l), (1, iV u)], []⟩) (fun k => l.length - k) 0 ⟨Nat.zero_le _, rfl⟩ ⟨[], rfl, rfl, rfl, by (repeat (first | exact trivial | refine ⟨rfl, ?_⟩))⟩ fun k hk => ?_
  by_cases hkl : k < l.length
  · by_cases he : (l[k] : Int) = u
    · have hany : l.any (fun x => decide (u = (x : Int))) = true := List.any_eq_true.2 ⟨l[k], List.getElem_mem hkl, by simpa using he.symm⟩
      rw [hany]
      (repeat' (first
  | (apply W.qd; (first
    | (apply q_mv; (first|exact vD|exact vO|exact vP|exact vA|exact vF|exact vR|exact vN|exact vY|exact vT|exact vX))|(apply q_as; (first|exact vD|exact vO|exact vP|exact vA|exact vF|exact vR|exact vN|exact vY|exact vT|exact vX))|(apply q_lss; exact rfl; exact rfl)|(apply q_eql; exact rfl; exact rfl)|(apply q_len_sl; exact rfl; exact rfl)|(apply q_ld_map; exact rfl; exact rfl; exact rfl; (first | omega | (focus (simp; done))))
    | (apply q_ix_slF; exact rfl; exact rfl; exact rfl; exact rfl; (first | (with_reducible exact rfl) | exact natI_spec rfl | assumption | exact (Int.toNat_of_nonneg (by omega)).symm); (first | omega | (focus (simp only [List.length_map]; omega)) | (focus (simp; done)) | (focus (simp; omega))))))|(apply AWP.seq)|(apply ACont_normal)|(apply W.region; kernel_rfl)|(apply Walk.nil)|(apply AWP.block)|(apply AWP.skip)|(apply AWP.ret)|(apply ACont_ret)|(apply ABlock_ret)
  | (refine W.cond _ rfl (fun hb => ?_) (fun hb => ?_) <;> ((try simp only [hb, Bool.not_true, Bool.not_false]) <;> (try simp only [decide_eq_true_eq, decide_eq_false_iff_not, Bool.not_eq_true', Bool.not_eq_false', Int.not_lt, Int.not_le, List.length_map, not_true_eq_false] at hb) <;> (try (exfalso; omega))))))
      exact ⟨.inl rfl, [], [bV true], rfl, rfl, ⟨rfl, trivial⟩, AVle.of_eq rfl, rfl⟩
    · (repeat' (first
  | (apply W.qd; (first
    | (apply q_mv; (first|exact vD|exact vO|exact vP|exact vA|exact vF|exact vR|exact vN|exact vY|exact vT|exact vX))|(apply q_as; (first|exact vD|exact vO|exact vP|exact vA|exact vF|exact vR|exact vN|exact vY|exact vT|exact vX))|(apply q_lss; exact rfl; exact rfl)|(apply q_eql; exact rfl; exact rfl)|(apply q_add; exact rfl; exact rfl; omega)|(apply q_len_sl; exact rfl; exact rfl)|(apply q_ld_map; exact rfl; exact rfl; exact rfl; (first | omega | (focus (simp; done))))
    | (apply q_ix_slF; exact rfl; exact rfl; exact rfl; exact rfl; (first | (with_reducible exact rfl) | exact natI_spec rfl | assumption | exact (Int.toNat_of_nonneg (by omega)).symm); (first | omega | (focus (simp only [List.length_map]; omega)) | (focus (simp; done)) | (focus (simp; omega))))))|(apply AWP.seq)|(apply ACont_normal)|(apply W.region; kernel_rfl)|(apply Walk.nil)|(apply AWP.block)|(apply AWP.skip)|(apply ABlock_normal)
  | (refine W.cond _ rfl (fun hb => ?_) (fun hb => ?_) <;> ((try simp only [hb, Bool.not_true, Bool.not_false]) <;> (try simp only [decide_eq_true_eq, decide_eq_false_iff_not, Bool.not_eq_true', Bool.not_eq_false', Int.not_lt, Int.not_le, List.length_map, not_true_eq_false] at hb) <;> (try (exfalso; omega))))))
      refine ⟨k + 1, ⟨by omega, ?_⟩, by omega, [], rfl, rfl, rfl, iV_eq (by omega), rfl, rfl, trivial⟩
      rw [List.take_succ_eq_append_getElem hkl, List.any_append, hk.2]
      simp only [List.any_cons, List.any_nil, Bool.or_false, Bool.false_or, decide_eq_false_iff_not]
      exact fun e => he e.symm
  · have h2 := hk.2
    rw [List.take_of_length_le (by omega)] at h2
    rw [h2]
    (repeat' (first
  | (apply W.qd; (first
    | (apply q_mv; (first|exact vD|exact vO|exact vP|exact vA|exact vF|exact vR|exact vN|exact vY|exact vT|exact vX))|(apply q_as; (first|exact vD|exact vO|exact vP|exact vA|exact vF|exact vR|exact vN|exact vY|exact vT|exact vX))|(apply q_lss; exact rfl; exact rfl)
    | (apply q_len_sl; exact rfl; exact rfl)))|(apply AWP.seq)|(apply ACont_normal)|(apply W.region; kernel_rfl)|(apply Walk.nil)|(apply AWP.exit)|(apply AWP.ret)|(apply ACont_exit)|(apply ABlock_exit)
  | (refine W.cond _ rfl (fun hb => ?_) (fun hb => ?_) <;> ((try simp only [hb, Bool.not_true, Bool.not_false]) <;> (try simp only [decide_eq_true_eq, decide_eq_false_iff_not, Bool.not_eq_true', Bool.not_eq_false', Int.not_lt, Int.not_le, List.length_map, not_true_eq_false] at hb) <;> (try (exfalso; omega))))))
    exact ⟨.inl rfl, [], [bV false], rfl, rfl, ⟨rfl, trivial⟩, AVle.of_eq rfl, rfl⟩
theorem chkZ_neg {D : Nat} {ps : List (List Nat)} {u : Int} (hu : u < 0) (n : Nat) : chkZ D ps u n = [] := by
  unfold chkZ
  rw [List.filter_eq_nil_iff]
  intro i _
  rw [Bool.not_eq_true, List.any_eq_false]
  intro x _
  simp only [decide_eq_true_eq]
  omega
theorem A_r10checks {M D : Nat} {u : Int} {ps : List (List Nat)} (h : CodeOk M D ps) : ACalls Tryz.prog 11 [cdN M D ps, iV u] [] (rowsN ((chkZ D ps u ps.length).map fun i => checkN D i (ps.getD i []))) [] := by
  refine acalls_of_bodyO Tryz.func11 rfl (Nat.le_of_ble_eq_true rfl) ?_
  have h1 := h.d
  have h2 := h.w
  have hpl : (toZ ps).length = ps.length := List.length_map _
  have h0 := A_r8valid (M := M) (D := D) (par := toZ ps) (by omega) (by omega)
  rw [valid_ok h, ← cdN_A] at h0
  by_cases hu : u < 0
  · rw [chkZ_neg hu]
    (repeat' (first
  | (apply W.gOn; exact rfl; exact rfl)
  | (apply W.qd; (first
    | (apply (q_callC (h0)); exact rfl; exact rfl; kernel_rfl; kernel_rfl; kernel_rfl)|(apply q_mv; (first|exact vD|exact vO|exact vP|exact vA|exact vF|exact vR|exact vN|exact vY|exact vT|exact vX))|(apply q_as; (first|exact vD|exact vO|exact vP|exact vA|exact vF|exact vR|exact vN|exact vY|exact vT|exact vX))|(apply q_ld_boxF; exact rfl; exact rfl; exact rfl; exact rfl)|(apply q_lss; exact rfl; exact rfl)|(apply q_not; exact rfl)
    | (apply (q_pickF (u := .d _)); exact rfl; exact rfl)))|(apply W.ed; (apply e_boxF; exact rfl; exact rfl; exact rfl; kernel_rfl; kernel_rfl))|(apply AWP.seq)|(apply ACont_normal)|(apply W.region; kernel_rfl)|(apply Walk.nil)|(apply AWP.ret)|(apply ACont_ret)
  | (refine W.cond _ rfl (fun hb => ?_) (fun hb => ?_) <;> ((try simp only [hb, Bool.not_true, Bool.not_false]) <;> (try simp only [decide_eq_true_eq, decide_eq_false_iff_not, Bool.not_eq_true', Bool.not_eq_false', Int.not_lt, Int.not_le, List.length_map, not_true_eq_false] at hb) <;> (try (exfalso; omega))))))
    all_goals exact ⟨.inl rfl, [], [.d (.v (.slice none 0 0))], rfl, rfl, ⟨rfl, trivial⟩, AVle.nil 1, rfl⟩
  · have hck := fun i (hi : i < ps.length) => A_r10check h hi
    have hmp : (ps.map rnD).length = ps.length := List.length_map _
    have hs := fun k => Lib.hid (chkZ_succ D ps u k)
    have hl := fun k => chkZ_length D ps u k
    have hz : chkZ D ps u 0 = [] := rfl
    have hcl := fun k => checkN_length D k (ps.getD k [])
    generalize chkZ D ps u = CZ at *
    generalize hC : (fun i => checkN D i (ps.getD i [])) = C
    have hC' : ∀ i, checkN D i (ps.getD i []) = C i := fun i => congrFun hC i
    simp only [hC'] at hck hs hcl
    (repeat' (first
  | (apply W.gOn; exact rfl; exact rfl)
  | (apply W.qd; (first
    | (apply (q_callC (h0)); exact rfl; exact rfl; kernel_rfl; kernel_rfl; kernel_rfl)|(apply q_mv; (first|exact vD|exact vO|exact vP|exact vA|exact vF|exact vR|exact vN|exact vY|exact vT|exact vX))|(apply q_as; (first|exact vD|exact vO|exact vP|exact vA|exact vF|exact vR|exact vN|exact vY|exact vT|exact vX))|(apply q_ld_boxF; exact rfl; exact rfl; exact rfl; exact rfl)|(apply q_lss; exact rfl; exact rfl)|(apply q_not; exact rfl)
    | (apply (q_pickF (u := .d _)); exact rfl; exact rfl)))|(apply W.ed; (apply e_boxF; exact rfl; exact rfl; exact rfl; kernel_rfl; kernel_rfl))|(apply AWP.seq)|(apply ACont_normal)|(apply (W.regionS 4); exact rfl; kernel_rfl)|(apply Walk.nil)|(apply AWP.skip)
  | (refine W.cond _ rfl (fun hb => ?_) (fun hb => ?_) <;> ((try simp only [hb, Bool.not_true, Bool.not_false]) <;> (try simp only [decide_eq_true_eq, decide_eq_false_iff_not, Bool.not_eq_true', Bool.not_eq_false', Int.not_lt, Int.not_le, List.length_map, not_true_eq_false] at hb) <;> (try (exfalso; omega))))))
    refine AWP.nilRow 5 1 36 rfl (by omega) ?_
    (repeat' (first
  | (apply W.qd; (apply q_as; (first|exact vD|exact vO|exact vP|exact vA|exact vF|exact vR|exact vN|exact vY|exact vT|exact vX)))|(apply ACont_normal)|(apply (W.regionS 5); exact rfl; kernel_rfl)|(apply Walk.nil)
  | (apply AWP.block)))
    refine AWP.loopW (α := Nat) (fun k => k ≤ ps.length) (fun k => ⟨[(6, iV k), (5, .osl 1 (CZ k).length 0 (CZ k).length), (2, .opt 0 0), (1, iV u)], [.box [.d .any, iV M, iV D, rowsN ps, .d .any], .row (CZ k).length 1 36 (((CZ k).map C).map rnD)]⟩) (fun k => ps.length - k) 0 (by omega) ?wk0 fun k hk => ?_
    case wk0 =>
      rw [hz]
      exact ⟨[0, 1], rfl, rfl, rfl, by (repeat (first | exact trivial | refine ⟨rfl, ?_⟩))⟩
    have hlc := hl k
    by_cases hkl : k < ps.length
    · have hc := hck k hkl
      have hci := A_r10has (l := C k) (u := u) (by have := hcl k; omega)
      have hs2 := hs k
      clear hs hck hl
      cases hb2 : (C k).any fun x => decide (u = (x : Int)) <;> rw [hb2] at hci hs2
      · replace hs2 := Lib.hid (hs2.out.trans (if_neg (by decide)))
        (repeat' (first
  | (apply W.qd; (first
    | (apply (q_callC (hc)); exact rfl; exact rfl; kernel_rfl; kernel_rfl; kernel_rfl)|(apply (q_callC (hci)); exact rfl; exact rfl; kernel_rfl; kernel_rfl; kernel_rfl)|(apply q_mv; (first|exact vD|exact vO|exact vP|exact vA|exact vF|exact vR|exact vN|exact vY|exact vT|exact vX))|(apply q_as; (first|exact vD|exact vO|exact vP|exact vA|exact vF|exact vR|exact vN|exact vY|exact vT|exact vX))|(apply q_fld_optF; exact rfl; exact rfl; exact rfl)|(apply q_ld_box; exact rfl; exact rfl; exact rfl; exact rfl)|(apply q_ld_boxF; exact rfl; exact rfl; exact rfl; exact rfl)|(apply q_lss; exact rfl; exact rfl)|(apply q_add; exact rfl; exact rfl; omega)
    | (apply q_len_sl; exact rfl; exact rfl)))|(apply AWP.seq)|(apply ACont_normal)|(apply W.region; kernel_rfl)|(apply Walk.nil)|(apply AWP.block)|(apply AWP.skip)|(apply ABlock_normal)|(apply W.condF; exact rfl)
  | (refine W.cond _ rfl (fun hb => ?_) (fun hb => ?_) <;> ((try simp only [hb, Bool.not_true, Bool.not_false]) <;> (try simp only [decide_eq_true_eq, decide_eq_false_iff_not, Bool.not_eq_true', Bool.not_eq_false', Int.not_lt, Int.not_le, List.length_map, not_true_eq_false] at hb) <;> (try (exfalso; omega))))))
        refine ⟨k + 1, by omega, by omega, ?_⟩
        rw [hs2.out]
        exact ⟨[0, 1], rfl, rfl, rfl, iV_eq (by omega), rfl, rfl, rfl, trivial⟩
      · replace hs2 := Lib.hid (hs2.out.trans (if_pos rfl))
        have hln : (CZ k).length = ((CZ k).map C).length := by simp
        rw [hln]
        have hln2 : ((CZ k).map C).length ≤ 1000 := by rw [← hln]; omega
        have hs3 : (CZ (k + 1)).map C = (CZ k).map C ++ [C k] := by rw [hs2.out, List.map_append]; rfl
        have hs4 : (CZ (k + 1)).length = ((CZ k).map C).length + 1 := by rw [hs2.out]; simp
        replace hs3 := Lib.hid hs3
        replace hs4 := Lib.hid hs4
        generalize (CZ k).map C = A at *
        generalize C k = ck at *
        (repeat' (first
  | (apply W.qd; (first
    | (apply (q_callC (hc)); exact rfl; exact rfl; kernel_rfl; kernel_rfl; kernel_rfl)|(apply (q_callC (hci)); exact rfl; exact rfl; kernel_rfl; kernel_rfl; kernel_rfl)|(apply q_mv; (first|exact vD|exact vO|exact vP|exact vA|exact vF|exact vR|exact vN|exact vY|exact vT|exact vX))|(apply q_as; (first|exact vD|exact vO|exact vP|exact vA|exact vF|exact vR|exact vN|exact vY|exact vT|exact vX))|(apply q_fld_optF; exact rfl; exact rfl; exact rfl)|(apply q_ld_box; exact rfl; exact rfl; exact rfl; exact rfl)|(apply q_ld_boxF; exact rfl; exact rfl; exact rfl; exact rfl)|(apply q_lss; exact rfl; exact rfl)|(apply q_add; exact rfl; exact rfl; omega)|(apply q_len_sl; exact rfl; exact rfl)
    | (apply q_litF; exact rfl; exact rfl; exact rfl; exact rfl; exact rfl; kernel_rfl; kernel_rfl; exact rfl)))|(apply W.ld; (apply l_app1; exact rfl; exact rfl; exact rfl; exact rfl; exact rfl; exact rfl; exact rfl; exact rfl; (first | omega | (focus (simp; omega)) | (focus (simp; done)))))|(apply AWP.seq)|(apply ACont_normal)|(apply W.region; kernel_rfl)|(apply Walk.nil)|(apply AWP.block)|(apply AWP.skip)|(apply ABlock_normal)|(apply W.condT; exact rfl)
  | (refine W.cond _ rfl (fun hb => ?_) (fun hb => ?_) <;> ((try simp only [hb, Bool.not_true, Bool.not_false]) <;> (try simp only [decide_eq_true_eq, decide_eq_false_iff_not, Bool.not_eq_true', Bool.not_eq_false', Int.not_lt, Int.not_le, List.length_map, not_true_eq_false] at hb) <;> (try (exfalso; omega))))))
        refine ⟨k + 1, by omega, by omega, ?_⟩
        rw [hs3.out, hs4.out]
        exact ⟨[0, 1], rfl, rfl, rfl, iV_eq (by omega), congrArg (AV.osl 1 (A.length + 1) 0) (by simp), rfl, rfl, trivial⟩
    · have e : k = ps.length := by omega
      subst e
      have hln : (CZ ps.length).length = ((CZ ps.length).map C).length := by simp
      rw [hln]
      generalize (CZ ps.length).map C = A at *
      (repeat' (first
  | (apply W.qd; (first
    | (apply q_mv; (first|exact vD|exact vO|exact vP|exact vA|exact vF|exact vR|exact vN|exact vY|exact vT|exact vX))|(apply q_as; (first|exact vD|exact vO|exact vP|exact vA|exact vF|exact vR|exact vN|exact vY|exact vT|exact vX))|(apply q_fld_optF; exact rfl; exact rfl; exact rfl)|(apply q_ld_box; exact rfl; exact rfl; exact rfl; exact rfl)|(apply q_lss; exact rfl; exact rfl)
    | (apply q_len_sl; exact rfl; exact rfl)))|(apply AWP.seq)|(apply ACont_normal)|(apply W.region; kernel_rfl)|(apply Walk.nil)|(apply AWP.exit)|(apply AWP.ret)|(apply ACont_exit)|(apply ABlock_exit)
  | (refine W.cond _ rfl (fun hb => ?_) (fun hb => ?_) <;> ((try simp only [hb, Bool.not_true, Bool.not_false]) <;> (try simp only [decide_eq_true_eq, decide_eq_false_iff_not, Bool.not_eq_true', Bool.not_eq_false', Int.not_lt, Int.not_le, List.length_map, not_true_eq_false] at hb) <;> (try (exfalso; omega))))))
      exact ⟨.inl rfl, [], [.osl 1 A.length 0 A.length], rfl, rfl, ⟨rfl, trivial⟩, AVle.of_eq (frz_rowJ rfl rfl (by simp)), rfl⟩
theorem A_rdiv {M : Nat} {a b : Nat} (hM : FldM M) (ha : a < 2 ^ M) (hb : b < 2 ^ M) (h0 : b ≠ 0) : ACalls Tryz.prog 57 [iV M, iV a, iV b] [] (.tup [iV (mu M a (invN M b) : Nat), iV 0]) [] := by
  refine acalls_of_body Tryz.func57 rfl (Nat.le_of_ble_eq_true rfl) ?_
  have h1 := A_rfvalid M a
  have h2 := A_rfvalid M b
  rw [all2 hM ha] at h1
  rw [all2 hM hb] at h2
  have hi := A_rinv hM hb h0
  have hp := A_times hM ha (b := invN M b) (invN_lt _)
  have hp2 := A_rmul hM ha (b := invN M b) (invN_lt _)
  (repeat' (first
  | (apply W.gOn; exact rfl; exact rfl)
  | (apply W.qd; (first
    | (apply (q_callC (h1)); exact rfl; exact rfl; kernel_rfl; kernel_rfl; kernel_rfl)|(apply (q_callC (h2)); exact rfl; exact rfl; kernel_rfl; kernel_rfl; kernel_rfl)|(apply (q_callC (hi)); exact rfl; exact rfl; kernel_rfl; kernel_rfl; kernel_rfl)|(apply (q_callC (hp)); exact rfl; exact rfl; kernel_rfl; kernel_rfl; kernel_rfl)|(apply q_mv; (first|exact vD|exact vO|exact vP|exact vA|exact vF|exact vR|exact vN|exact vY|exact vT|exact vX))|(apply q_as; (first|exact vD|exact vO|exact vP|exact vA|exact vF|exact vR|exact vN|exact vY|exact vT|exact vX))|(apply q_neq; exact rfl; exact rfl)|(apply q_not; exact rfl)|(apply q_extract; exact rfl; exact rfl)
    | (apply (q_pickF (u := .d _)); exact rfl; exact rfl)))|(apply AWP.seq)|(apply ACont_normal)|(apply W.region; kernel_rfl)|(apply Walk.nil)|(apply AWP.skip)|(apply AWP.ret)
  | (apply W.condF; exact rfl)))
  all_goals exact Ends.two rfl rfl rfl
theorem A_r10terms {M D i u : Nat} {ps : List (List Nat)} (h : CodeOk M D ps) (hi : i < ps.length) (hu : u ∈ checkN D i (ps.getD i [])) : ACalls Tryz.prog 36 [cdN M D ps, nats (checkN D i (ps.getD i [])), iV u] [] (tmsA (ctermsN M D (ps.getD i []) (checkN D i (ps.getD i [])) u)) [] := by
  refine acalls_of_body Tryz.func36 rfl (Nat.le_of_ble_eq_true rfl) ?_
  have h1 := h.d
  have h2 := h.w
  have hM := h.f
  have hck := fun k (hk : k ∈ checkN D i (ps.getD i [])) => coef_ok h hi hk
  have hr := (h.row _ (List.getElem_mem hi)).1
  have e : ps.getD i [] = ps[i] := by rw [List.getD_eq_getElem?_getD, List.getElem?_eq_getElem hi]; rfl
  have hLl : (checkN D i (ps.getD i [])).length = (dataC D (ps.getD i []) D).length + 1 := by simp [checkN]
  have hLv : ∀ h : (dataC D (ps.getD i []) D).length < (checkN D i (ps.getD i [])).length, (checkN D i (ps.getD i []))[(dataC D (ps.getD i []) D).length] = D + i := fun h => by simp [checkN]
  have hLc := checkN_length D i (ps.getD i [])
  rw [e] at hck hLl hLv hLc hu ⊢
  generalize (dataC D ps[i] D).length = n at *
  have hs := fun k (hk : k < (checkN D i ps[i]).length) => Lib.hid (cterms_take M D ps[i] (checkN D i ps[i]) u k hk)
  have hle := fun k => cterms_le M D ps[i] ((checkN D i ps[i]).take k) u
  have h00 : ctermsN M D ps[i] ((checkN D i ps[i]).take 0) u = [] := rfl
  have hfull : ctermsN M D ps[i] ((checkN D i ps[i]).take (checkN D i ps[i]).length) u = ctermsN M D ps[i] (checkN D i ps[i]) u := by rw [List.take_length]
  generalize checkN D i ps[i] = L at *
  have hml : (L.map kD).length = L.length := List.length_map _
  have hi1 : (((L.map kD).length : Int) - 1) = ((n : Nat) : Int) := by omega
  have hv := hLv (by omega)
  have hi2 : ((L[n]'(by omega) : Nat) : Int) - (D : Int) = ((i : Nat) : Int) := by omega
  have hlr : (ps[i]).length = D := hr
  have hcn : ∀ k, k < D → ∀ hh : k < (ps[i]).length, coefN ps[i] D k = (ps[i])[k]'hh := fun k hk hh => by
    unfold coefN
    rw [if_pos hk, List.getD_eq_getElem?_getD, List.getElem?_eq_getElem hh]; rfl
  have hcn1 : ∀ k, ¬ k < D → coefN ps[i] D k = 1 := fun k hk => if_neg hk
  generalize hC : (fun k => ctermsN M D ps[i] (L.take k) u) = CT
  have hC' : ∀ k, ctermsN M D ps[i] (L.take k) u = CT k := fun k => congrFun hC k
  simp only [hC'] at hs hle h00 hfull
  rw [← hfull]
  have huc := hck u hu
  -- the slots behind the first lines, whichever the unit is
  obtain ⟨a, ha⟩ : ∃ a, coefN ps[i] D u = a := ⟨_, rfl⟩
  rw [ha] at huc
  by_cases huD : u < D
  · have ha2 := hcn u huD (by omega)
    rw [ha] at ha2
    (repeat' (first
  | (apply W.qd; (first
    | (apply q_mv; (first|exact vD|exact vO|exact vP|exact vA|exact vF|exact vR|exact vN|exact vY|exact vT|exact vX))|(apply q_as; (first|exact vD|exact vO|exact vP|exact vA|exact vF|exact vR|exact vN|exact vY|exact vT|exact vX))|(apply q_fld_optF; exact rfl; exact rfl; exact rfl)|(apply q_ld_box; exact rfl; exact rfl; exact rfl; exact rfl)|(apply q_lss; exact rfl; exact rfl)|(apply q_sub; exact rfl; exact rfl; omega)|(apply q_len_sl; exact rfl; exact rfl)|(apply q_ld_map; exact rfl; exact rfl; exact rfl; (first | omega | (focus (simp; done))))
    | (apply q_ix_slF; exact rfl; exact rfl; exact rfl; exact rfl; (first | (with_reducible exact rfl) | exact natI_spec rfl | assumption | exact (Int.toNat_of_nonneg (by omega)).symm); (first | omega | (focus (simp only [List.length_map]; omega)) | (focus (simp; done)) | (focus (simp; omega))))))|(apply W.ed; (apply e_boxF; exact rfl; exact rfl; exact rfl; kernel_rfl; kernel_rfl))|(apply AWP.seq)|(apply ACont_normal)|(apply (W.regionS 7); exact rfl; kernel_rfl)|(apply Walk.nil)
  | (refine W.cond _ rfl (fun hb => ?_) (fun hb => ?_) <;> ((try simp only [hb, Bool.not_true, Bool.not_false]) <;> (try simp only [decide_eq_true_eq, decide_eq_false_iff_not, Bool.not_eq_true', Bool.not_eq_false', Int.not_lt, Int.not_le, List.length_map, not_true_eq_false] at hb) <;> (try (exfalso; omega))))))
    refine AWP.nilRow 10 2 52 rfl (by omega) ?_
    refine AWP.le 9 (iV a) rfl (AVle.of_eq (by rw [ha2]; rfl)) ?_
    (repeat' (first
  | (apply W.qd; (apply q_as; (first|exact vD|exact vO|exact vP|exact vA|exact vF|exact vR|exact vN|exact vY|exact vT|exact vX)))|(apply ACont_normal)|(apply (W.regionS 8); exact rfl; kernel_rfl)|(apply Walk.nil)
  | (apply AWP.block)))
    refine AWP.loopW (α := Nat) (fun k => k ≤ L.length) (fun k => ⟨[(11, iV k), (1, nats L), (2, iV u), (8, nats ps[i]), (9, iV a), (3, .opt 0 0), (10, .osl 1 (CT k).length 0 (CT k).length)], [.box [.d .any, iV M, iV D, rowsN ps, .d .any], .row (CT k).length 2 52 ((CT k).map tmD)]⟩) (fun k => L.length - k) 0 (by omega) ?wk0 fun k hk => ?_
    case wk0 =>
      rw [h00]
      exact ⟨[0, 1], rfl, rfl, rfl, by (repeat (first | exact trivial | refine ⟨rfl, ?_⟩))⟩
    have hlc := hle k
    have hlk : (L.take k).length ≤ 33 := by rw [List.length_take]; omega
    by_cases hkl : k < L.length
    · have hs2 := hs k hkl
      have hk1 := hck L[k] (List.getElem_mem hkl)
      have c3 := A_rdiv hM hk1.2.1 huc.2.1 huc.2.2
      by_cases hku : L[k] = u
      · replace hs2 := Lib.hid (hs2.out.trans (if_pos hku))
        (repeat' (first
  | (apply W.qd; (first
    | (apply q_mv; (first|exact vD|exact vO|exact vP|exact vA|exact vF|exact vR|exact vN|exact vY|exact vT|exact vX))|(apply q_as; (first|exact vD|exact vO|exact vP|exact vA|exact vF|exact vR|exact vN|exact vY|exact vT|exact vX))|(apply q_lss; exact rfl; exact rfl)|(apply q_eql; exact rfl; exact rfl)|(apply q_add; exact rfl; exact rfl; omega)|(apply q_len_sl; exact rfl; exact rfl)|(apply q_ld_map; exact rfl; exact rfl; exact rfl; (first | omega | (focus (simp; done))))
    | (apply q_ix_slF; exact rfl; exact rfl; exact rfl; exact rfl; (first | (with_reducible exact rfl) | exact natI_spec rfl | assumption | exact (Int.toNat_of_nonneg (by omega)).symm); (first | omega | (focus (simp only [List.length_map]; omega)) | (focus (simp; done)) | (focus (simp; omega))))))|(apply AWP.seq)|(apply ACont_normal)|(apply W.region; kernel_rfl)|(apply Walk.nil)|(apply AWP.block)|(apply AWP.skip)|(apply AWP.exit)|(apply ACont_exit)|(apply ABlock_exit)
  | (refine W.cond _ rfl (fun hb => ?_) (fun hb => ?_) <;> ((try simp only [hb, Bool.not_true, Bool.not_false]) <;> (try simp only [decide_eq_true_eq, decide_eq_false_iff_not, Bool.not_eq_true', Bool.not_eq_false', Int.not_lt, Int.not_le, List.length_map, not_true_eq_false] at hb) <;> (try (exfalso; omega))))))
        refine ⟨k + 1, by omega, by omega, ?_⟩
        rw [hs2.out]
        exact ⟨[0, 1], rfl, rfl, rfl, iV_eq (by omega), rfl, rfl, rfl, rfl, rfl, rfl, trivial⟩
      · replace hs2 := Lib.hid (hs2.out.trans (if_neg hku))
        rw [ha] at hs2
        by_cases hkD : L[k] < D
        · have e5 := hcn L[k] hkD (by omega)
          rw [e5] at c3 hs2
          (repeat' (first
  | (apply W.qd; (first
    | (apply (q_callC (c3)); exact rfl; exact rfl; kernel_rfl; kernel_rfl; kernel_rfl)|(apply q_mv; (first|exact vD|exact vO|exact vP|exact vA|exact vF|exact vR|exact vN|exact vY|exact vT|exact vX))|(apply q_as; (first|exact vD|exact vO|exact vP|exact vA|exact vF|exact vR|exact vN|exact vY|exact vT|exact vX))|(apply q_fld_optF; exact rfl; exact rfl; exact rfl)|(apply q_ld_box; exact rfl; exact rfl; exact rfl; exact rfl)|(apply q_lss; exact rfl; exact rfl)|(apply q_eql; exact rfl; exact rfl)|(apply q_add; exact rfl; exact rfl; omega)|(apply q_extract; exact rfl; exact rfl)|(apply q_len_sl; exact rfl; exact rfl)|(apply q_ld_map; exact rfl; exact rfl; exact rfl; (first | omega | (focus (simp; done))))|(apply q_buildF; exact rfl; exact rfl; kernel_rfl)|(apply q_litF; exact rfl; exact rfl; exact rfl; exact rfl; exact rfl; kernel_rfl; kernel_rfl; exact rfl)
    | (apply q_ix_slF; exact rfl; exact rfl; exact rfl; exact rfl; (first | (with_reducible exact rfl) | exact natI_spec rfl | assumption | exact (Int.toNat_of_nonneg (by omega)).symm); (first | omega | (focus (simp only [List.length_map]; omega)) | (focus (simp; done)) | (focus (simp; omega))))))|(apply W.ed; ((apply (e_app1F (f := tmD) (L[k], mu M ((ps[i])[L[k]]'(by omega)) (invN M a))); exact rfl; exact rfl; exact rfl; exact rfl; exact rfl; exact rfl; exact rfl; exact rfl; omega)))|(apply AWP.seq)|(apply ACont_normal)|(apply W.region; kernel_rfl)|(apply W.regionD; exact rfl; kernel_rfl)|(apply Walk.nil)|(apply W.chk; kernel_rfl)|(apply AWP.block)|(apply AWP.skip)|(apply ABlock_normal)
  | (refine W.cond _ rfl (fun hb => ?_) (fun hb => ?_) <;> ((try simp only [hb, Bool.not_true, Bool.not_false]) <;> (try simp only [decide_eq_true_eq, decide_eq_false_iff_not, Bool.not_eq_true', Bool.not_eq_false', Int.not_lt, Int.not_le, List.length_map, not_true_eq_false] at hb) <;> (try (exfalso; omega))))))
          refine ⟨k + 1, by omega, by omega, ?_⟩
          rw [hs2.out, show (CT k ++ [(L[k], mu M ((ps[i])[L[k]]'(by omega)) (invN M a))]).length = (CT k).length + 1 by simp]
          exact ⟨[0, 1], rfl, rfl, rfl, iV_eq (by omega), rfl, rfl, rfl, rfl, rfl, congrArg (AV.osl 1 ((CT k).length + 1) 0) (by simp), trivial⟩
        · rw [hcn1 L[k] hkD] at c3 hs2
          (repeat' (first
  | (apply W.qd; (first
    | (apply (q_callC (c3)); exact rfl; exact rfl; kernel_rfl; kernel_rfl; kernel_rfl)|(apply q_mv; (first|exact vD|exact vO|exact vP|exact vA|exact vF|exact vR|exact vN|exact vY|exact vT|exact vX))|(apply q_as; (first|exact vD|exact vO|exact vP|exact vA|exact vF|exact vR|exact vN|exact vY|exact vT|exact vX))|(apply q_fld_optF; exact rfl; exact rfl; exact rfl)|(apply q_ld_box; exact rfl; exact rfl; exact rfl; exact rfl)|(apply q_lss; exact rfl; exact rfl)|(apply q_eql; exact rfl; exact rfl)|(apply q_add; exact rfl; exact rfl; omega)|(apply q_extract; exact rfl; exact rfl)|(apply q_len_sl; exact rfl; exact rfl)|(apply q_ld_map; exact rfl; exact rfl; exact rfl; (first | omega | (focus (simp; done))))|(apply q_buildF; exact rfl; exact rfl; kernel_rfl)|(apply q_litF; exact rfl; exact rfl; exact rfl; exact rfl; exact rfl; kernel_rfl; kernel_rfl; exact rfl)
    | (apply q_ix_slF; exact rfl; exact rfl; exact rfl; exact rfl; (first | (with_reducible exact rfl) | exact natI_spec rfl | assumption | exact (Int.toNat_of_nonneg (by omega)).symm); (first | omega | (focus (simp only [List.length_map]; omega)) | (focus (simp; done)) | (focus (simp; omega))))))|(apply W.ed; ((apply (e_app1F (f := tmD) (L[k], mu M 1 (invN M a))); exact rfl; exact rfl; exact rfl; exact rfl; exact rfl; exact rfl; exact rfl; exact rfl; omega)))|(apply AWP.seq)|(apply ACont_normal)|(apply W.region; kernel_rfl)|(apply W.regionD; exact rfl; kernel_rfl)|(apply Walk.nil)|(apply W.chk; kernel_rfl)|(apply AWP.block)|(apply AWP.skip)|(apply ABlock_normal)
  | (refine W.cond _ rfl (fun hb => ?_) (fun hb => ?_) <;> ((try simp only [hb, Bool.not_true, Bool.not_false]) <;> (try simp only [decide_eq_true_eq, decide_eq_false_iff_not, Bool.not_eq_true', Bool.not_eq_false', Int.not_lt, Int.not_le, List.length_map, not_true_eq_false] at hb) <;> (try (exfalso; omega))))))
          refine ⟨k + 1, by omega, by omega, ?_⟩
          rw [hs2.out, show (CT k ++ [(L[k], mu M 1 (invN M a))]).length = (CT k).length + 1 by simp]
          exact ⟨[0, 1], rfl, rfl, rfl, iV_eq (by omega), rfl, rfl, rfl, rfl, rfl, congrArg (AV.osl 1 ((CT k).length + 1) 0) (by simp), trivial⟩
    · have e4 : k = L.length := by omega
      subst e4
      generalize CT L.length = A at *
      (repeat' (first
  | (apply W.qd; (first
    | (apply q_mv; (first|exact vD|exact vO|exact vP|exact vA|exact vF|exact vR|exact vN|exact vY|exact vT|exact vX))|(apply q_as; (first|exact vD|exact vO|exact vP|exact vA|exact vF|exact vR|exact vN|exact vY|exact vT|exact vX))|(apply q_lss; exact rfl; exact rfl)
    | (apply q_len_sl; exact rfl; exact rfl)))|(apply AWP.seq)|(apply ACont_normal)|(apply W.region; kernel_rfl)|(apply Walk.nil)|(apply AWP.exit)|(apply AWP.ret)|(apply ACont_exit)|(apply ABlock_exit)
  | (refine W.cond _ rfl (fun hb => ?_) (fun hb => ?_) <;> ((try simp only [hb, Bool.not_true, Bool.not_false]) <;> (try simp only [decide_eq_true_eq, decide_eq_false_iff_not, Bool.not_eq_true', Bool.not_eq_false', Int.not_lt, Int.not_le, List.length_map, not_true_eq_false] at hb) <;> (try (exfalso; omega))))))
      exact Ends.osl rfl rfl (by simp) rfl
  · have ha2 := hcn1 u huD
    rw [ha] at ha2
    subst ha2
    (repeat' (first
  | (apply W.qd; (first
    | (apply q_mv; (first|exact vD|exact vO|exact vP|exact vA|exact vF|exact vR|exact vN|exact vY|exact vT|exact vX))|(apply q_as; (first|exact vD|exact vO|exact vP|exact vA|exact vF|exact vR|exact vN|exact vY|exact vT|exact vX))|(apply q_fld_optF; exact rfl; exact rfl; exact rfl)|(apply q_ld_box; exact rfl; exact rfl; exact rfl; exact rfl)|(apply q_lss; exact rfl; exact rfl)|(apply q_sub; exact rfl; exact rfl; omega)|(apply q_len_sl; exact rfl; exact rfl)|(apply q_ld_map; exact rfl; exact rfl; exact rfl; (first | omega | (focus (simp; done))))
    | (apply q_ix_slF; exact rfl; exact rfl; exact rfl; exact rfl; (first | (with_reducible exact rfl) | exact natI_spec rfl | assumption | exact (Int.toNat_of_nonneg (by omega)).symm); (first | omega | (focus (simp only [List.length_map]; omega)) | (focus (simp; done)) | (focus (simp; omega))))))|(apply W.ed; (apply e_boxF; exact rfl; exact rfl; exact rfl; kernel_rfl; kernel_rfl))|(apply AWP.seq)|(apply ACont_normal)|(apply (W.regionS 7); exact rfl; kernel_rfl)|(apply Walk.nil)|(apply AWP.skip)
  | (refine W.cond _ rfl (fun hb => ?_) (fun hb => ?_) <;> ((try simp only [hb, Bool.not_true, Bool.not_false]) <;> (try simp only [decide_eq_true_eq, decide_eq_false_iff_not, Bool.not_eq_true', Bool.not_eq_false', Int.not_lt, Int.not_le, List.length_map, not_true_eq_false] at hb) <;> (try (exfalso; omega))))))
    refine AWP.nilRow 10 2 52 rfl (by omega) ?_
    (repeat' (first
  | (apply W.qd; (apply q_as; (first|exact vD|exact vO|exact vP|exact vA|exact vF|exact vR|exact vN|exact vY|exact vT|exact vX)))|(apply ACont_normal)|(apply (W.regionS 8); exact rfl; kernel_rfl)|(apply Walk.nil)
  | (apply AWP.block)))
    refine AWP.loopW (α := Nat) (fun k => k ≤ L.length) (fun k => ⟨[(11, iV k), (1, nats L), (2, iV u), (8, nats ps[i]), (9, iV (1 : Nat)), (3, .opt 0 0), (10, .osl 1 (CT k).length 0 (CT k).length)], [.box [.d .any, iV M, iV D, rowsN ps, .d .any], .row (CT k).length 2 52 ((CT k).map tmD)]⟩) (fun k => L.length - k) 0 (by omega) ?wk0 fun k hk => ?_
    case wk0 =>
      rw [h00]
      exact ⟨[0, 1], rfl, rfl, rfl, by (repeat (first | exact trivial | refine ⟨rfl, ?_⟩))⟩
    have hlc := hle k
    have hlk : (L.take k).length ≤ 33 := by rw [List.length_take]; omega
    by_cases hkl : k < L.length
    · have hs2 := hs k hkl
      have hk1 := hck L[k] (List.getElem_mem hkl)
      have c3 := A_rdiv hM hk1.2.1 huc.2.1 huc.2.2
      by_cases hku : L[k] = u
      · replace hs2 := Lib.hid (hs2.out.trans (if_pos hku))
        (repeat' (first
  | (apply W.qd; (first
    | (apply q_mv; (first|exact vD|exact vO|exact vP|exact vA|exact vF|exact vR|exact vN|exact vY|exact vT|exact vX))|(apply q_as; (first|exact vD|exact vO|exact vP|exact vA|exact vF|exact vR|exact vN|exact vY|exact vT|exact vX))|(apply q_lss; exact rfl; exact rfl)|(apply q_eql; exact rfl; exact rfl)|(apply q_add; exact rfl; exact rfl; omega)|(apply q_len_sl; exact rfl; exact rfl)|(apply q_ld_map; exact rfl; exact rfl; exact rfl; (first | omega | (focus (simp; done))))
    | (apply q_ix_slF; exact rfl; exact rfl; exact rfl; exact rfl; (first | (with_reducible exact rfl) | exact natI_spec rfl | assumption | exact (Int.toNat_of_nonneg (by omega)).symm); (first | omega | (focus (simp only [List.length_map]; omega)) | (focus (simp; done)) | (focus (simp; omega))))))|(apply AWP.seq)|(apply ACont_normal)|(apply W.region; kernel_rfl)|(apply Walk.nil)|(apply AWP.block)|(apply AWP.skip)|(apply AWP.exit)|(apply ACont_exit)|(apply ABlock_exit)
  | (refine W.cond _ rfl (fun hb => ?_) (fun hb => ?_) <;> ((try simp only [hb, Bool.not_true, Bool.not_false]) <;> (try simp only [decide_eq_true_eq, decide_eq_false_iff_not, Bool.not_eq_true', Bool.not_eq_false', Int.not_lt, Int.not_le, List.length_map, not_true_eq_false] at hb) <;> (try (exfalso; omega))))))
        refine ⟨k + 1, by omega, by omega, ?_⟩
        rw [hs2.out]
        exact ⟨[0, 1], rfl, rfl, rfl, iV_eq (by omega), rfl, rfl, rfl, rfl, rfl, rfl, trivial⟩
      · replace hs2 := Lib.hid (hs2.out.trans (if_neg hku))
        rw [ha] at hs2
        by_cases hkD : L[k] < D
        · have e5 := hcn L[k] hkD (by omega)
          rw [e5] at c3 hs2
          (repeat' (first
  | (apply W.qd; (first
    | (apply (q_callC (c3)); exact rfl; exact rfl; kernel_rfl; kernel_rfl; kernel_rfl)|(apply q_mv; (first|exact vD|exact vO|exact vP|exact vA|exact vF|exact vR|exact vN|exact vY|exact vT|exact vX))|(apply q_as; (first|exact vD|exact vO|exact vP|exact vA|exact vF|exact vR|exact vN|exact vY|exact vT|exact vX))|(apply q_fld_optF; exact rfl; exact rfl; exact rfl)|(apply q_ld_box; exact rfl; exact rfl; exact rfl; exact rfl)|(apply q_lss; exact rfl; exact rfl)|(apply q_eql; exact rfl; exact rfl)|(apply q_add; exact rfl; exact rfl; omega)|(apply q_extract; exact rfl; exact rfl)|(apply q_len_sl; exact rfl; exact rfl)|(apply q_ld_map; exact rfl; exact rfl; exact rfl; (first | omega | (focus (simp; done))))|(apply q_buildF; exact rfl; exact rfl; kernel_rfl)|(apply q_litF; exact rfl; exact rfl; exact rfl; exact rfl; exact rfl; kernel_rfl; kernel_rfl; exact rfl)
    | (apply q_ix_slF; exact rfl; exact rfl; exact rfl; exact rfl; (first | (with_reducible exact rfl) | exact natI_spec rfl | assumption | exact (Int.toNat_of_nonneg (by omega)).symm); (first | omega | (focus (simp only [List.length_map]; omega)) | (focus (simp; done)) | (focus (simp; omega))))))|(apply W.ed; ((apply (e_app1F (f := tmD) (L[k], mu M ((ps[i])[L[k]]'(by omega)) (invN M 1))); exact rfl; exact rfl; exact rfl; exact rfl; exact rfl; exact rfl; exact rfl; exact rfl; omega)))|(apply AWP.seq)|(apply ACont_normal)|(apply W.region; kernel_rfl)|(apply W.regionD; exact rfl; kernel_rfl)|(apply Walk.nil)|(apply W.chk; kernel_rfl)|(apply AWP.block)|(apply AWP.skip)|(apply ABlock_normal)
  | (refine W.cond _ rfl (fun hb => ?_) (fun hb => ?_) <;> ((try simp only [hb, Bool.not_true, Bool.not_false]) <;> (try simp only [decide_eq_true_eq, decide_eq_false_iff_not, Bool.not_eq_true', Bool.not_eq_false', Int.not_lt, Int.not_le, List.length_map, not_true_eq_false] at hb) <;> (try (exfalso; omega))))))
          refine ⟨k + 1, by omega, by omega, ?_⟩
          rw [hs2.out, show (CT k ++ [(L[k], mu M ((ps[i])[L[k]]'(by omega)) (invN M 1))]).length = (CT k).length + 1 by simp]
          exact ⟨[0, 1], rfl, rfl, rfl, iV_eq (by omega), rfl, rfl, rfl, rfl, rfl, congrArg (AV.osl 1 ((CT k).length + 1) 0) (by simp), trivial⟩
        · rw [hcn1 L[k] hkD] at c3 hs2
          (repeat' (first
  | (apply W.qd; (first
    | (apply (q_callC (c3)); exact rfl; exact rfl; kernel_rfl; kernel_rfl; kernel_rfl)|(apply q_mv; (first|exact vD|exact vO|exact vP|exact vA|exact vF|exact vR|exact vN|exact vY|exact vT|exact vX))|(apply q_as; (first|exact vD|exact vO|exact vP|exact vA|exact vF|exact vR|exact vN|exact vY|exact vT|exact vX))|(apply q_fld_optF; exact rfl; exact rfl; exact rfl)|(apply q_ld_box; exact rfl; exact rfl; exact rfl; exact rfl)|(apply q_lss; exact rfl; exact rfl)|(apply q_eql; exact rfl; exact rfl)|(apply q_add; exact rfl; exact rfl; omega)|(apply q_extract; exact rfl; exact rfl)|(apply q_len_sl; exact rfl; exact rfl)|(apply q_ld_map; exact rfl; exact rfl; exact rfl; (first | omega | (focus (simp; done))))|(apply q_buildF; exact rfl; exact rfl; kernel_rfl)|(apply q_litF; exact rfl; exact rfl; exact rfl; exact rfl; exact rfl; kernel_rfl; kernel_rfl; exact rfl)
    | (apply q_ix_slF; exact rfl; exact rfl; exact rfl; exact rfl; (first | (with_reducible exact rfl) | exact natI_spec rfl | assumption | exact (Int.toNat_of_nonneg (by omega)).symm); (first | omega | (focus (simp only [List.length_map]; omega)) | (focus (simp; done)) | (focus (simp; omega))))))|(apply W.ed; ((apply (e_app1F (f := tmD) (L[k], mu M 1 (invN M 1))); exact rfl; exact rfl; exact rfl; exact rfl; exact rfl; exact rfl; exact rfl; exact rfl; omega)))|(apply AWP.seq)|(apply ACont_normal)|(apply W.region; kernel_rfl)|(apply W.regionD; exact rfl; kernel_rfl)|(apply Walk.nil)|(apply W.chk; kernel_rfl)|(apply AWP.block)|(apply AWP.skip)|(apply ABlock_normal)
  | (refine W.cond _ rfl (fun hb => ?_) (fun hb => ?_) <;> ((try simp only [hb, Bool.not_true, Bool.not_false]) <;> (try simp only [decide_eq_true_eq, decide_eq_false_iff_not, Bool.not_eq_true', Bool.not_eq_false', Int.not_lt, Int.not_le, List.length_map, not_true_eq_false] at hb) <;> (try (exfalso; omega))))))
          refine ⟨k + 1, by omega, by omega, ?_⟩
          rw [hs2.out, show (CT k ++ [(L[k], mu M 1 (invN M 1))]).length = (CT k).length + 1 by simp]
          exact ⟨[0, 1], rfl, rfl, rfl, iV_eq (by omega), rfl, rfl, rfl, rfl, rfl, congrArg (AV.osl 1 ((CT k).length + 1) 0) (by simp), trivial⟩
    · have e4 : k = L.length := by omega
      subst e4
      generalize CT L.length = A at *
      (repeat' (first
  | (apply W.qd; (first
    | (apply q_mv; (first|exact vD|exact vO|exact vP|exact vA|exact vF|exact vR|exact vN|exact vY|exact vT|exact vX))|(apply q_as; (first|exact vD|exact vO|exact vP|exact vA|exact vF|exact vR|exact vN|exact vY|exact vT|exact vX))|(apply q_lss; exact rfl; exact rfl)
    | (apply q_len_sl; exact rfl; exact rfl)))|(apply AWP.seq)|(apply ACont_normal)|(apply W.region; kernel_rfl)|(apply Walk.nil)|(apply AWP.exit)|(apply AWP.ret)|(apply ACont_exit)|(apply ABlock_exit)
  | (refine W.cond _ rfl (fun hb => ?_) (fun hb => ?_) <;> ((try simp only [hb, Bool.not_true, Bool.not_false]) <;> (try simp only [decide_eq_true_eq, decide_eq_false_iff_not, Bool.not_eq_true', Bool.not_eq_false', Int.not_lt, Int.not_le, List.length_map, not_true_eq_false] at hb) <;> (try (exfalso; omega))))))
      exact Ends.osl rfl rfl (by simp) rfl
end Go.Proofs.YtilpljehfcpjeaaGreatDoor
end
section
/- The reference of layer 10 over the machine of abstract values: better, Plan. -/
namespace Go.Proofs.YtilpljehfcpjeaaGreatDoor
open Go.RowKit
set_option maxHeartbeats 4000000
set_option maxRecDepth 100000
theorem lexL_drop (k : Nat) (a b : List Nat) (h : a.take k = b.take k) (h1 : k ≤ a.length) (h2 : k ≤ b.length) : lexL a b = lexL (a.drop k) (b.drop k) := by
  rw [← cmpL_lt, ← cmpL_lt, cmpL_drop k a b h h1 h2]
theorem bestN_snoc (l : List (List (Nat × Nat))) (x : List (Nat × Nat)) : bestN (l ++ [x]) = some (match bestN l with | none => x | some m => if ltT x m then x else m) := by
  cases l with
  | nil => rfl
  | cons a l =>
    show some (minT a (l ++ [x])) = _
    unfold minT
    rw [List.foldl_append]; rfl
theorem fullC_take {oth : List Bool} {l : List Nat} {u k : Nat} (h : k < l.length) : fullC oth (l.take (k + 1)) u = (fullC oth (l.take k) u && (l[k] == u || oth.getD l[k] false)) := by
  unfold fullC
  rw [List.take_succ_eq_append_getElem h, List.all_append]
  simp
def planB (u : Nat) : Option (List (Nat × Nat)) → AV
  | some l => .tup [.agg [iV u, tmsA l], iV 0]
  | none => .tup [.agg [iV 0, .d (.v (.slice none 0 0))], iV 11]
theorem planB_le (u : Nat) (l : Option (List (Nat × Nat))) : AVle (planB u l) (planA u l) := by
  cases l with
  | none => exact pl0_le 11
  | some l => exact AVle.refl _
attribute [local irreducible] Quiet Eff OpOk AWPG ACont ABlock ACalls AGoto
theorem A_better {a b : List (Nat × Nat)} (ha : a.length ≤ 1000000) (hb : b.length ≤ 1000000) : ACalls Tryz.prog 37 [tmsA a, tmsA b] [] (bV (ltT a b)) [] := by
  refine acalls_of_bodyO Tryz.func37 rfl (Nat.le_of_ble_eq_true rfl) ?_
  have hma : (a.map tmD).length = a.length := List.length_map _
  have hmb : (b.map tmD).length = b.length := List.length_map _
  by_cases hl : a.length = b.length
  · have hlt : ltT a b = lexL (a.map (·.1)) (b.map (·.1)) := by
      unfold ltT
      rw [decide_eq_false (by omega), decide_eq_true hl]; simp
    rw [hlt]
    (repeat' (first
  | (apply W.qd; (first
    | (apply q_mv; (first|exact vD|exact vO|exact vP|exact vA|exact vF|exact vR|exact vN|exact vY|exact vT|exact vX))|(apply q_as; (first|exact vD|exact vO|exact vP|exact vA|exact vF|exact vR|exact vN|exact vY|exact vT|exact vX))|(apply q_neq; exact rfl; exact rfl)
    | (apply q_len_sl; exact rfl; exact rfl)))|(apply AWP.seq)|(apply ACont_normal)|(apply (W.regionS 4); exact rfl; kernel_rfl)|(apply Walk.nil)|(apply AWP.block)|(apply AWP.skip)
  | (refine W.cond _ rfl (fun hb => ?_) (fun hb => ?_) <;> ((try simp only [hb, Bool.not_true, Bool.not_false]) <;> (try simp only [decide_eq_true_eq, decide_eq_false_iff_not, Bool.not_eq_true', Bool.not_eq_false', Int.not_lt, Int.not_le, List.length_map, not_true_eq_false] at hb) <;> (try (exfalso; omega))))))
    refine AWP.loopW (α := Nat) (fun k => k ≤ a.length ∧ (a.map (·.1)).take k = (b.map (·.1)).take k) (fun k => ⟨[(5, iV k), (0, tmsA a), (1, tmsA b)], []⟩) (fun k => a.length - k) 0 ⟨Nat.zero_le _, rfl⟩ ⟨[], rfl, rfl, rfl, by (repeat (first | exact trivial | refine ⟨rfl, ?_⟩))⟩ fun k hk => ?_
    have hd := lexL_drop k (a.map (·.1)) (b.map (·.1)) hk.2 (by rw [List.length_map]; omega) (by rw [List.length_map]; omega)
    by_cases hka : k < a.length
    · have hkb : k < b.length := by omega
      have ea : (a.map (·.1)).drop k = a[k].1 :: (a.map (·.1)).drop (k + 1) := by rw [List.drop_eq_getElem_cons (by simpa using hka)]; simp
      have eb : (b.map (·.1)).drop k = b[k].1 :: (b.map (·.1)).drop (k + 1) := by rw [List.drop_eq_getElem_cons (by simpa using hkb)]; simp
      rw [ea, eb, lexL] at hd
      by_cases he : a[k].1 = b[k].1
      · (repeat' (first
  | (apply W.qd; (first
    | (apply q_mv; (first|exact vD|exact vO|exact vP|exact vA|exact vF|exact vR|exact vN|exact vY|exact vT|exact vX))|(apply q_as; (first|exact vD|exact vO|exact vP|exact vA|exact vF|exact vR|exact vN|exact vY|exact vT|exact vX))|(apply q_lss; exact rfl; exact rfl)|(apply q_neq; exact rfl; exact rfl)|(apply q_add; exact rfl; exact rfl; omega)|(apply q_len_sl; exact rfl; exact rfl)|(apply q_ld_map; exact rfl; exact rfl; exact rfl; (first | omega | (focus (simp; done))))|(apply q_fld_fptF; exact rfl; exact rfl; exact rfl)
    | (apply q_ix_slF; exact rfl; exact rfl; exact rfl; exact rfl; (first | (with_reducible exact rfl) | exact natI_spec rfl | assumption | exact (Int.toNat_of_nonneg (by omega)).symm); (first | omega | (focus (simp only [List.length_map]; omega)) | (focus (simp; done)) | (focus (simp; omega))))))|(apply AWP.seq)|(apply ACont_normal)|(apply W.region; kernel_rfl)|(apply W.regionD; exact rfl; kernel_rfl)|(apply Walk.nil)|(apply W.chk; kernel_rfl)|(apply AWP.block)|(apply AWP.skip)|(apply ABlock_normal)
  | (refine W.cond _ rfl (fun hb => ?_) (fun hb => ?_) <;> ((try simp only [hb, Bool.not_true, Bool.not_false]) <;> (try simp only [decide_eq_true_eq, decide_eq_false_iff_not, Bool.not_eq_true', Bool.not_eq_false', Int.not_lt, Int.not_le, List.length_map, not_true_eq_false] at hb) <;> (try (exfalso; omega))))))
        refine ⟨k + 1, ⟨by omega, ?_⟩, by omega, [], rfl, rfl, rfl, iV_eq (by omega), rfl, rfl, trivial⟩
        rw [List.take_succ_eq_append_getElem (by simpa using hka), List.take_succ_eq_append_getElem (by simpa using hkb), hk.2]
        simp [he]
      · rw [decide_eq_false he, Bool.false_and, Bool.or_false] at hd
        rw [hd]
        (repeat' (first
  | (apply W.qd; (first
    | (apply q_mv; (first|exact vD|exact vO|exact vP|exact vA|exact vF|exact vR|exact vN|exact vY|exact vT|exact vX))|(apply q_as; (first|exact vD|exact vO|exact vP|exact vA|exact vF|exact vR|exact vN|exact vY|exact vT|exact vX))|(apply q_lss; exact rfl; exact rfl)|(apply q_neq; exact rfl; exact rfl)|(apply q_len_sl; exact rfl; exact rfl)|(apply q_ld_map; exact rfl; exact rfl; exact rfl; (first | omega | (focus (simp; done))))|(apply q_fld_fptF; exact rfl; exact rfl; exact rfl)
    | (apply q_ix_slF; exact rfl; exact rfl; exact rfl; exact rfl; (first | (with_reducible exact rfl) | exact natI_spec rfl | assumption | exact (Int.toNat_of_nonneg (by omega)).symm); (first | omega | (focus (simp only [List.length_map]; omega)) | (focus (simp; done)) | (focus (simp; omega))))))|(apply AWP.seq)|(apply ACont_normal)|(apply W.region; kernel_rfl)|(apply W.regionD; exact rfl; kernel_rfl)|(apply Walk.nil)|(apply W.chk; kernel_rfl)|(apply AWP.block)|(apply AWP.skip)|(apply AWP.ret)|(apply ACont_ret)|(apply ABlock_ret)
  | (refine W.cond _ rfl (fun hb => ?_) (fun hb => ?_) <;> ((try simp only [hb, Bool.not_true, Bool.not_false]) <;> (try simp only [decide_eq_true_eq, decide_eq_false_iff_not, Bool.not_eq_true', Bool.not_eq_false', Int.not_lt, Int.not_le, List.length_map, not_true_eq_false] at hb) <;> (try (exfalso; omega))))))
        exact ⟨.inl rfl, [], [bV (decide ((a[k].1 : Int) < (b[k].1 : Int)))], rfl, rfl, ⟨rfl, trivial⟩, AVle.of_eq (congrArg bV (by rw [decide_eq_decide]; omega)), rfl⟩
    · rw [List.drop_eq_nil_of_le (by rw [List.length_map]; omega), List.drop_eq_nil_of_le (by rw [List.length_map]; omega), lexL] at hd
      rw [hd]
      (repeat' (first
  | (apply W.qd; (first
    | (apply q_mv; (first|exact vD|exact vO|exact vP|exact vA|exact vF|exact vR|exact vN|exact vY|exact vT|exact vX))|(apply q_as; (first|exact vD|exact vO|exact vP|exact vA|exact vF|exact vR|exact vN|exact vY|exact vT|exact vX))|(apply q_lss; exact rfl; exact rfl)
    | (apply q_len_sl; exact rfl; exact rfl)))|(apply AWP.seq)|(apply ACont_normal)|(apply W.region; kernel_rfl)|(apply Walk.nil)|(apply AWP.exit)|(apply AWP.ret)|(apply ACont_exit)|(apply ABlock_exit)
  | (refine W.cond _ rfl (fun hb => ?_) (fun hb => ?_) <;> ((try simp only [hb, Bool.not_true, Bool.not_false]) <;> (try simp only [decide_eq_true_eq, decide_eq_false_iff_not, Bool.not_eq_true', Bool.not_eq_false', Int.not_lt, Int.not_le, List.length_map, not_true_eq_false] at hb) <;> (try (exfalso; omega))))))
      exact ⟨.inl rfl, [], [bV false], rfl, rfl, ⟨rfl, trivial⟩, AVle.of_eq rfl, rfl⟩
  · have hlt : ltT a b = decide (a.length < b.length) := by
      unfold ltT
      rw [decide_eq_false hl]; simp
    rw [hlt]
    (repeat' (first
  | (apply W.qd; (first
    | (apply q_mv; (first|exact vD|exact vO|exact vP|exact vA|exact vF|exact vR|exact vN|exact vY|exact vT|exact vX))|(apply q_as; (first|exact vD|exact vO|exact vP|exact vA|exact vF|exact vR|exact vN|exact vY|exact vT|exact vX))|(apply q_lss; exact rfl; exact rfl)|(apply q_neq; exact rfl; exact rfl)
    | (apply q_len_sl; exact rfl; exact rfl)))|(apply AWP.seq)|(apply ACont_normal)|(apply W.region; kernel_rfl)|(apply Walk.nil)|(apply AWP.ret)|(apply ACont_ret)
  | (refine W.cond _ rfl (fun hb => ?_) (fun hb => ?_) <;> ((try simp only [hb, Bool.not_true, Bool.not_false]) <;> (try simp only [decide_eq_true_eq, decide_eq_false_iff_not, Bool.not_eq_true', Bool.not_eq_false', Int.not_lt, Int.not_le, List.length_map, not_true_eq_false] at hb) <;> (try (exfalso; omega))))))
    all_goals exact ⟨.inl rfl, [], [bV (decide (((a.map tmD).length : Int) < ((b.map tmD).length : Int)))], rfl, rfl, ⟨rfl, trivial⟩, AVle.of_eq (congrArg bV (by rw [hma, hmb, decide_eq_decide]; omega)), rfl⟩
theorem A_r10plan {M D u : Nat} {ps : List (List Nat)} {hv : List Bool} (h : CodeOk M D ps) (hl : hv.length = D + ps.length) (hu : u < D + ps.length) : ACalls Tryz.prog 9 [cdN M D ps, bools hv, iV u] [] (planA u (planN M D ps hv u)) [] := by
  have hl2 : (hv.set u false).length = D + ps.length := by rw [List.length_set]; exact hl
  have h1 := h.d
  have h2 := h.w
  have hw := A_r8widthN h
  have hcomb := A_r8comb h hl2 hu
  have hchk := A_r10checks (u := (u : Int)) h
  rw [chkZ_nat] at hchk
  have hIlt : ∀ i ∈ chkI D ps u ps.length, i < ps.length ∧ u ∈ checkN D i (ps.getD i []) := fun i hi => by
    obtain ⟨q1, q2⟩ := List.mem_filter.1 hi
    exact ⟨List.mem_range.1 q1, by simpa using q2⟩
  have hIl : (chkI D ps u ps.length).length ≤ ps.length := by rw [← chkZ_nat]; exact chkZ_length _ _ _ _
  have hterm := fun i hi => A_r10terms h (hIlt i hi).1 (hIlt i hi).2
  have hcb := fun i => checkN_length D i (ps.getD i [])
  have hmem : ∀ i ∈ chkI D ps u ps.length, ∀ k ∈ checkN D i (ps.getD i []), k < D + ps.length := fun i hi k hk => (coef_ok h (hIlt i hi).1 hk).1
  have hcs := fun k (hk : k < (chkI D ps u ps.length).length) => Lib.hid (candC_take M D ps (hv.set u false) u (chkI D ps u ps.length) k hk)
  have hP : planN M D ps hv u = bestN ((combN M D ps (hv.set u false) u).toList ++ candC M D ps (hv.set u false) u ((chkI D ps u ps.length).take (chkI D ps u ps.length).length)) := by rw [List.take_length]; rfl
  have hc0 : candC M D ps (hv.set u false) u ((chkI D ps u ps.length).take 0) = [] := rfl
  have hall : ∀ k, ∀ x ∈ (combN M D ps (hv.set u false) u).toList ++ candC M D ps (hv.set u false) u ((chkI D ps u ps.length).take k), x.length ≤ 1000 := fun k x hx => by
    rcases List.mem_append.1 hx with hx | hx
    · cases hc : combN M D ps (hv.set u false) u with
      | none => rw [hc] at hx; simp at hx
      | some y =>
        rw [hc] at hx
        obtain rfl : x = y := by simpa using hx
        have := (comb_ok h hl2 hu hc).le
        have := basis_len h hl2
        omega
    · unfold candC at hx
      obtain ⟨i, _, rfl⟩ := List.mem_map.1 hx
      have := cterms_le M D (ps.getD i []) (checkN D i (ps.getD i [])) u
      have := checkN_length D i (ps.getD i [])
      omega
  have hOT : ∀ k (hk : k < hv.length) (hk2 : k < (hv.set u false).length), (hv.set u false)[k]'hk2 = (hv[k] && !decide ((k : Int) = (u : Int))) := fun k hk hk2 => by
    by_cases e : u = k
    · subst e; rw [List.getElem_set_self]; simp
    · rw [List.getElem_set_ne e]
      have : decide ((k : Int) = (u : Int)) = false := decide_eq_false (by omega)
      rw [this]; simp
  generalize chkI D ps u ps.length = I at *
  generalize planN M D ps hv u = PL at *
  generalize hC : (fun k => candC M D ps (hv.set u false) u (I.take k)) = CC at *
  have hC' : ∀ k, candC M D ps (hv.set u false) u (I.take k) = CC k := fun k => congrFun hC k
  simp only [hC'] at hcs hP hc0 hall
  generalize combN M D ps (hv.set u false) u = CO at *
  generalize hCh : (fun i => checkN D i (ps.getD i [])) = CK at *
  have hCh' : ∀ i, checkN D i (ps.getD i []) = CK i := fun i => congrFun hCh i
  simp only [hCh'] at hterm hcb hmem hcs
  have hlo : (hv.set u false).length = D + ps.length := hl2
  have hmh : (hv.map tD).length = hv.length := List.length_map _
  have hbl : ∀ k m, bestN (CO.toList ++ CC k) = some m → m.length ≤ 1000 := fun k m hm => by
    cases hL : CO.toList ++ CC k with
    | nil => rw [hL] at hm; cases hm
    | cons a r =>
      rw [hL] at hm
      obtain rfl := Option.some.inj hm
      rcases (minT_spec r a).1 with e | e
      · rw [e]; exact hall k a (by rw [hL]; simp)
      · exact hall k _ (by rw [hL]; simp [e])
  refine ACalls.leR (r := planB u PL) ?_ (planB_le u PL)
  refine acalls_of_body Tryz.func9 rfl (Nat.le_of_ble_eq_true rfl) ?_
  (repeat' (first
  | (apply W.gOn; exact rfl; exact rfl)
  | (apply W.qd; (first
    | (apply (q_callC (hw)); exact rfl; exact rfl; kernel_rfl; kernel_rfl; kernel_rfl)|(apply q_mv; (first|exact vD|exact vO|exact vP|exact vA|exact vF|exact vR|exact vN|exact vY|exact vT|exact vX))|(apply q_as; (first|exact vD|exact vO|exact vP|exact vA|exact vF|exact vR|exact vN|exact vY|exact vT|exact vX))|(apply q_ld_boxF; exact rfl; exact rfl; exact rfl; exact rfl)|(apply q_lss; exact rfl; exact rfl)|(apply q_geq; exact rfl; exact rfl)|(apply q_eql; exact rfl; exact rfl)|(apply q_neq; exact rfl; exact rfl)|(apply q_len_sl; exact rfl; exact rfl)
    | (apply (q_pickF (u := .d _)); exact rfl; exact rfl)))
  | (apply W.ed; (first
    | (apply e_boxF; exact rfl; exact rfl; exact rfl; kernel_rfl; kernel_rfl)
    | (apply e_allocF; exact rfl; exact rfl; exact rfl; kernel_rfl)))|(apply AWP.seq)|(apply ACont_normal)|(apply (W.regionS 5); exact rfl; kernel_rfl)|(apply Walk.nil)|(apply AWP.skip)|(refine W.gF _ _ rfl rfl (fun hb => ?_) (fun hb => ?_) <;> ((try simp only [hb, Bool.not_true, Bool.not_false]) <;> (try simp only [decide_eq_true_eq, decide_eq_false_iff_not, Bool.not_eq_true', Bool.not_eq_false', Int.not_lt, Int.not_le, List.length_map, not_true_eq_false] at hb) <;> (try (exfalso; omega))))
  | (refine W.cond _ rfl (fun hb => ?_) (fun hb => ?_) <;> ((try simp only [hb, Bool.not_true, Bool.not_false]) <;> (try simp only [decide_eq_true_eq, decide_eq_false_iff_not, Bool.not_eq_true', Bool.not_eq_false', Int.not_lt, Int.not_le, List.length_map, not_true_eq_false] at hb) <;> (try (exfalso; omega))))))
  refine AWP.nilRow 9 1 4 rfl (by omega) ?_
  (repeat' (first
  | (apply W.qd; (apply q_as; (first|exact vD|exact vO|exact vP|exact vA|exact vF|exact vR|exact vN|exact vY|exact vT|exact vX)))|(apply ACont_normal)|(apply (W.regionS 6); exact rfl; kernel_rfl)|(apply Walk.nil)
  | (apply AWP.block)))
  refine AWP.loopW (α := Nat) (fun k => k ≤ D + ps.length) (fun k => ⟨[(10, iV k), (8, iV (D + ps.length : Nat)), (9, .osl 2 k 0 ((hv.set u false).take k).length), (1, bools hv), (2, iV u), (3, .opt 0 0), (6, .opt 1 0)], [.box [.d .any, iV M, iV D, rowsN ps, .d .any], .box [iV 0, .d (.v (.slice none 0 0))], .row k 1 4 (((hv.set u false).take k).map tD)]⟩) (fun k => D + ps.length - k) 0 (Nat.zero_le _) ⟨[0, 1, 2], rfl, rfl, rfl, by (repeat (first | exact trivial | refine ⟨rfl, ?_⟩))⟩ fun k hk => ?_
  have htk : ((hv.set u false).take k).length ≤ 1000 := by rw [List.length_take]; omega
  by_cases hkW : k < D + ps.length
  · have hs := List.take_succ_eq_append_getElem (show k < (hv.set u false).length by omega)
    rw [hOT k (by omega) (by omega)] at hs
    clear hcs hterm hall hbl hOT hchk hcomb
    generalize hT : (hv.set u false).take k = T at *
    (repeat' (first
  | (apply W.gOn; exact rfl; exact rfl)
  | (apply W.qd; (first
    | (apply q_mv; (first|exact vD|exact vO|exact vP|exact vA|exact vF|exact vR|exact vN|exact vY|exact vT|exact vX))|(apply q_as; (first|exact vD|exact vO|exact vP|exact vA|exact vF|exact vR|exact vN|exact vY|exact vT|exact vX))|(apply q_lss; exact rfl; exact rfl)|(apply q_neq; exact rfl; exact rfl)|(apply q_add; exact rfl; exact rfl; omega)|(apply q_ld_map; exact rfl; exact rfl; exact rfl; (first | omega | (focus (simp; done))))|(apply q_litF; exact rfl; exact rfl; exact rfl; exact rfl; exact rfl; kernel_rfl; kernel_rfl; exact rfl)|(apply q_ix_slF; exact rfl; exact rfl; exact rfl; exact rfl; (first | (with_reducible exact rfl) | exact natI_spec rfl | assumption | exact (Int.toNat_of_nonneg (by omega)).symm); (first | omega | (focus (simp only [List.length_map]; omega)) | (focus (simp; done)) | (focus (simp; omega))))|(apply (q_pickT (u := .d _)); exact rfl; exact rfl)
    | (apply (q_pickF (u := .d _)); exact rfl; exact rfl)))|(apply W.ld; (apply l_app1; exact rfl; exact rfl; exact rfl; exact rfl; exact rfl; exact rfl; exact rfl; exact rfl; (first | omega | (focus (simp; omega)) | (focus (simp; done)))))|(refine W.gOff _ _ rfl rfl (by intro h; cases h) ?_)|(apply AWP.seq)|(apply ACont_normal)|(apply W.region; kernel_rfl)|(apply Walk.nil)|(apply AWP.block)|(apply AWP.skip)|(apply ABlock_normal)|(refine W.gT _ _ rfl rfl (fun hb => ?_) (fun hb => ?_) <;> ((try simp only [hb, Bool.not_true, Bool.not_false]) <;> (try simp only [decide_eq_true_eq, decide_eq_false_iff_not, Bool.not_eq_true', Bool.not_eq_false', Int.not_lt, Int.not_le, List.length_map, not_true_eq_false] at hb) <;> (try (exfalso; omega))))
  | (refine W.cond _ rfl (fun hb => ?_) (fun hb => ?_) <;> ((try simp only [hb, Bool.not_true, Bool.not_false]) <;> (try simp only [decide_eq_true_eq, decide_eq_false_iff_not, Bool.not_eq_true', Bool.not_eq_false', Int.not_lt, Int.not_le, List.length_map, not_true_eq_false] at hb) <;> (try (exfalso; omega))))))
    · rw [hb, Bool.true_and] at hs
      refine ⟨k + 1, by omega, by omega, ?_⟩
      rw [hs]
      exact ⟨[0, 1, 2], rfl, rfl, rfl, iV_eq (by omega), rfl, congrArg (AV.osl 2 (k + 1) 0) (by simp), rfl, rfl, rfl, rfl, trivial⟩
    · rw [hb, Bool.false_and] at hs
      refine ⟨k + 1, by omega, by omega, ?_⟩
      rw [hs]
      exact ⟨[0, 1, 2], rfl, rfl, rfl, iV_eq (by omega), rfl, congrArg (AV.osl 2 (k + 1) 0) (by simp), rfl, rfl, rfl, rfl, trivial⟩
  have hkW' : k = D + ps.length := by omega
  subst hkW'
  have e9 : (hv.set u false).take (D + ps.length) = hv.set u false := List.take_of_length_le (by omega)
  refine AWP.wk ⟨[(10, iV (D + ps.length : Nat)), (8, iV (D + ps.length : Nat)), (9, bools (hv.set u false)), (2, iV u), (3, .opt 0 0), (6, .opt 1 0)], [.box [.d .any, iV M, iV D, rowsN ps, .d .any], .box [iV 0, .d (.v (.slice none 0 0))]]⟩ ⟨[0, 1], rfl, rfl, rfl, rfl, rfl, (congrArg (fun l => bools l) e9.symm).trans (frz_rowJ rfl rfl (by simp)).symm, rfl, rfl, rfl, trivial⟩ ?_
  clear hOT htk e9
  generalize hv.set u false = OT at *
  have hmO : (OT.map tD).length = OT.length := List.length_map _
  have hmi : ((I.map CK).map rnD).length = I.length := by simp
  have hmi2 : (I.map CK).length = I.length := by simp
  obtain ⟨t0, e0, hcomb2, he0, ht0⟩ : ∃ (t0 : List (Nat × Nat)) (e0 : Int), ACalls Tryz.prog 21 [cdN M D ps, bools OT, iV u] [] (.tup [tmsA t0, iV e0]) [] ∧ decide (e0 = 0) = CO.isSome ∧ t0 = CO.getD [] := by
    cases CO with
    | none => exact ⟨[], 11, hcomb, rfl, rfl⟩
    | some l => exact ⟨l, 0, hcomb, rfl, rfl⟩
  have hb0 : bestN (CO.toList ++ CC 0) = CO := by
    rw [hc0]
    cases CO with
    | none => rfl
    | some l => rfl
  clear hcomb
  (repeat' (first
  | (apply W.qd; (first
    | (apply (q_callC (hcomb2)); exact rfl; exact rfl; kernel_rfl; kernel_rfl; kernel_rfl)|(apply q_mv; (first|exact vD|exact vO|exact vP|exact vA|exact vF|exact vR|exact vN|exact vY|exact vT|exact vX))|(apply q_as; (first|exact vD|exact vO|exact vP|exact vA|exact vF|exact vR|exact vN|exact vY|exact vT|exact vX))|(apply q_ld_boxF; exact rfl; exact rfl; exact rfl; exact rfl)|(apply q_lss; exact rfl; exact rfl)
    | (apply q_extract; exact rfl; exact rfl)))|(apply AWP.seq)|(apply ACont_normal)|(apply (W.regionS 10); exact rfl; kernel_rfl)|(apply Walk.nil)|(apply AWP.exit)|(apply ACont_exit)|(apply ABlock_exit)
  | (refine W.cond _ rfl (fun hb => ?_) (fun hb => ?_) <;> ((try simp only [hb, Bool.not_true, Bool.not_false]) <;> (try simp only [decide_eq_true_eq, decide_eq_false_iff_not, Bool.not_eq_true', Bool.not_eq_false', Int.not_lt, Int.not_le, List.length_map, not_true_eq_false] at hb) <;> (try (exfalso; omega))))))
  (repeat' (first
  | (apply W.qd; (first
    | (apply (q_callC (hchk)); exact rfl; exact rfl; kernel_rfl; kernel_rfl; kernel_rfl)|(apply q_mv; (first|exact vD|exact vO|exact vP|exact vA|exact vF|exact vR|exact vN|exact vY|exact vT|exact vX))|(apply q_as; (first|exact vD|exact vO|exact vP|exact vA|exact vF|exact vR|exact vN|exact vY|exact vT|exact vX))|(apply q_ld_boxF; exact rfl; exact rfl; exact rfl; exact rfl)
    | (apply q_eql; exact rfl; exact rfl)))|(apply AWP.seq)|(apply ACont_normal)|(apply (W.regionS 12); exact rfl; kernel_rfl)
  | (apply Walk.nil)))
  refine AWP.wk ⟨[(14, rowsN (I.map CK)), (11, tmsA ((bestN (CO.toList ++ CC 0)).getD [])), (13, bV (bestN (CO.toList ++ CC 0)).isSome), (9, bools OT), (2, iV u), (3, .opt 0 0), (6, .opt 1 0)], [.box [.d .any, iV M, iV D, rowsN ps, .d .any], .box [iV 0, .d (.v (.slice none 0 0))]]⟩ ⟨[0, 1], rfl, rfl, rfl, rfl, by rw [hb0, ← ht0]; rfl, by rw [hb0, ← he0]; rfl, rfl, rfl, rfl, rfl, trivial⟩ ?_
  clear hb0 hcomb2 he0 ht0
  (repeat' (first
  | (apply W.qd; (apply q_as; (first|exact vD|exact vO|exact vP|exact vA|exact vF|exact vR|exact vN|exact vY|exact vT|exact vX)))|(apply ACont_normal)|(apply (W.regionS 13); exact rfl; kernel_rfl)|(apply Walk.nil)
  | (apply AWP.block)))
  refine AWP.loopW (α := Nat) (fun i => i ≤ I.length) (fun i => ⟨[(15, iV i), (14, rowsN (I.map CK)), (11, tmsA ((bestN (CO.toList ++ CC i)).getD [])), (13, bV (bestN (CO.toList ++ CC i)).isSome), (9, bools OT), (2, iV u), (3, .opt 0 0), (6, .opt 1 0)], [.box [.d .any, iV M, iV D, rowsN ps, .d .any], .box [iV 0, .d (.v (.slice none 0 0))]]⟩) (fun i => I.length - i) 0 (Nat.zero_le _) ⟨[0, 1], rfl, rfl, rfl, by (repeat (first | exact trivial | refine ⟨rfl, ?_⟩))⟩ fun i hi => ?_
  by_cases hiI : i < I.length
  · have hIi := List.getElem_mem hiI
    have eK : (I.map CK)[i]'(by simpa using hiI) = CK I[i] := List.getElem_map _
    have hs2 := hcs i hiI
    have ht1 := hterm I[i] hIi
    have hcbk := hcb I[i]
    have hmemi := hmem _ hIi
    have hbli := hbl i
    have htl := cterms_le M D (ps.getD I[i] []) (CK I[i]) u
    generalize ctermsN M D (ps.getD I[i] []) (CK I[i]) u = TT at *
    clear hcs hterm hcb hmem hbl hall hP
    have hsn := bestN_snoc (CO.toList ++ CC i) TT
    rw [List.append_assoc] at hsn
    rw [← eK] at ht1 hs2 hcbk hmemi htl
    have hmL : (((I.map CK)[i]'(by simpa using hiI)).map kD).length = ((I.map CK)[i]'(by simpa using hiI)).length := List.length_map _
    have hft := fun k (h : k < ((I.map CK)[i]'(by simpa using hiI)).length) => fullC_take (oth := OT) (u := u) h
    have hf0 : fullC OT (((I.map CK)[i]'(by simpa using hiI)).take 0) u = true := rfl
    (repeat' (first
  | (apply W.qd; (first
    | (apply q_mv; (first|exact vD|exact vO|exact vP|exact vA|exact vF|exact vR|exact vN|exact vY|exact vT|exact vX))|(apply q_as; (first|exact vD|exact vO|exact vP|exact vA|exact vF|exact vR|exact vN|exact vY|exact vT|exact vX))|(apply q_lss; exact rfl; exact rfl)
    | (apply q_len_sl; exact rfl; exact rfl)))|(apply AWP.seq)|(apply ACont_normal)|(apply (W.regionS 17); exact rfl; kernel_rfl)|(apply Walk.nil)|(apply AWP.block)|(apply AWP.skip)
  | (refine W.cond _ rfl (fun hb => ?_) (fun hb => ?_) <;> ((try simp only [hb, Bool.not_true, Bool.not_false]) <;> (try simp only [decide_eq_true_eq, decide_eq_false_iff_not, Bool.not_eq_true', Bool.not_eq_false', Int.not_lt, Int.not_le, List.length_map, not_true_eq_false] at hb) <;> (try (exfalso; omega))))))
    refine AWP.loopW (α := Nat) (fun k => k ≤ ((I.map CK)[i]'(by simpa using hiI)).length) (fun k => ⟨[(17, iV k), (16, bV (fullC OT (((I.map CK)[i]'(by simpa using hiI)).take k) u)), (15, iV i), (14, rowsN (I.map CK)), (11, tmsA ((bestN (CO.toList ++ CC i)).getD [])), (13, bV (bestN (CO.toList ++ CC i)).isSome), (9, bools OT), (2, iV u), (3, .opt 0 0), (6, .opt 1 0)], [.box [.d .any, iV M, iV D, rowsN ps, .d .any], .box [iV 0, .d (.v (.slice none 0 0))]]⟩) (fun k => ((I.map CK)[i]'(by simpa using hiI)).length - k) 0 (Nat.zero_le _) ⟨[0, 1], rfl, rfl, rfl, by (repeat (first | exact trivial | refine ⟨rfl, ?_⟩))⟩ fun k hk => ?_
    by_cases hkL : k < ((I.map CK)[i]'(by simpa using hiI)).length
    · have hf := hft k hkL
      have hx := hmemi _ (List.getElem_mem hkL)
      have eg : OT.getD (((I.map CK)[i]'(by simpa using hiI))[k]) false = OT[((I.map CK)[i]'(by simpa using hiI))[k]]'(by omega) := by rw [List.getD_eq_getElem?_getD, List.getElem?_eq_getElem (by omega)]; rfl
      rw [eg] at hf
      clear hft ht1 hs2 hsn hbli
      cases hfk : fullC OT (((I.map CK)[i]'(by simpa using hiI)).take k) u with
      | false =>
        rw [hfk, Bool.false_and] at hf
        (repeat' (first
  | (apply W.qd; (first
    | (apply q_mv; (first|exact vD|exact vO|exact vP|exact vA|exact vF|exact vR|exact vN|exact vY|exact vT|exact vX))|(apply q_as; (first|exact vD|exact vO|exact vP|exact vA|exact vF|exact vR|exact vN|exact vY|exact vT|exact vX))|(apply q_lss; exact rfl; exact rfl)|(apply q_add; exact rfl; exact rfl; omega)|(apply q_len_sl; exact rfl; exact rfl)|(apply q_ld_map; exact rfl; exact rfl; exact rfl; (first | omega | (focus (simp; done))))|(apply q_ix_slF; exact rfl; exact rfl; exact rfl; exact rfl; (first | (with_reducible exact rfl) | exact natI_spec rfl | assumption | exact (Int.toNat_of_nonneg (by omega)).symm); (first | omega | (focus (simp only [List.length_map]; omega)) | (focus (simp; done)) | (focus (simp; omega))))
    | (apply (q_pickF (u := .d _)); exact rfl; exact rfl)))|(refine W.gOff _ _ rfl rfl (by intro h; cases h) ?_)|(apply AWP.seq)|(apply ACont_normal)|(apply W.region; kernel_rfl)|(apply Walk.nil)|(apply AWP.block)|(apply AWP.skip)|(apply ABlock_normal)
  | (refine W.cond _ rfl (fun hb => ?_) (fun hb => ?_) <;> ((try simp only [hb, Bool.not_true, Bool.not_false]) <;> (try simp only [decide_eq_true_eq, decide_eq_false_iff_not, Bool.not_eq_true', Bool.not_eq_false', Int.not_lt, Int.not_le, List.length_map, not_true_eq_false] at hb) <;> (try (exfalso; omega))))))
        -- @2
        refine ⟨k + 1, by omega, by omega, ?_⟩
        rw [hf]
        exact ⟨[0, 1], rfl, rfl, rfl, iV_eq (by omega), rfl, rfl, rfl, rfl, rfl, rfl, rfl, rfl, rfl, trivial⟩
      | true =>
        rw [hfk, Bool.true_and] at hf
        cases hO : OT[((I.map CK)[i]'(by simpa using hiI))[k]]'(by omega) with
        | true =>
          rw [hO, Bool.or_true] at hf
          (repeat' (first
  | (apply W.gOn; exact rfl; exact rfl)
  | (apply W.qd; (first
    | (apply q_mv; (first|exact vD|exact vO|exact vP|exact vA|exact vF|exact vR|exact vN|exact vY|exact vT|exact vX))|(apply q_as; (first|exact vD|exact vO|exact vP|exact vA|exact vF|exact vR|exact vN|exact vY|exact vT|exact vX))|(apply q_lss; exact rfl; exact rfl)|(apply q_eql; exact rfl; exact rfl)|(apply q_add; exact rfl; exact rfl; omega)|(apply q_len_sl; exact rfl; exact rfl)|(apply q_ld_map; exact rfl; exact rfl; exact rfl; (first | omega | (focus (simp; done))))|(apply q_ix_slF; exact rfl; exact rfl; exact rfl; exact rfl; (first | (with_reducible exact rfl) | exact natI_spec rfl | assumption | exact (Int.toNat_of_nonneg (by omega)).symm); (first | omega | (focus (simp only [List.length_map]; omega)) | (focus (simp; done)) | (focus (simp; omega))))|(apply (q_pickT (u := .d _)); exact rfl; exact rfl)
    | (apply (q_pickF (u := .d _)); exact rfl; exact rfl)))|(refine W.gOff _ _ rfl rfl (by intro h; cases h) ?_)|(apply AWP.seq)|(apply ACont_normal)|(apply W.region; kernel_rfl)|(apply Walk.nil)|(apply AWP.block)|(apply AWP.skip)|(apply ABlock_normal)|(refine W.gF _ _ rfl rfl (fun hb => ?_) (fun hb => ?_) <;> ((try simp only [hb, Bool.not_true, Bool.not_false]) <;> (try simp only [decide_eq_true_eq, decide_eq_false_iff_not, Bool.not_eq_true', Bool.not_eq_false', Int.not_lt, Int.not_le, List.length_map, not_true_eq_false] at hb) <;> (try (exfalso; omega))))
  | (refine W.cond _ rfl (fun hb => ?_) (fun hb => ?_) <;> ((try simp only [hb, Bool.not_true, Bool.not_false]) <;> (try simp only [decide_eq_true_eq, decide_eq_false_iff_not, Bool.not_eq_true', Bool.not_eq_false', Int.not_lt, Int.not_le, List.length_map, not_true_eq_false] at hb) <;> (try (exfalso; omega))))))
          (all_goals (try (exfalso; exact absurd ((‹OT[((I.map CK)[i]'(by simpa using hiI))[k]] = true› : OT[((I.map CK)[i]'(by simpa using hiI))[k]] = true).symm.trans (‹OT[((I.map CK)[i]'(by simpa using hiI))[k]] = false› : OT[((I.map CK)[i]'(by simpa using hiI))[k]] = false)) (by decide))))
          all_goals refine ⟨k + 1, by omega, by omega, ?_⟩
          all_goals rw [hf]
          all_goals exact ⟨[0, 1], rfl, rfl, rfl, iV_eq (by omega), rfl, rfl, rfl, rfl, rfl, rfl, rfl, rfl, rfl, trivial⟩
        | false =>
          rw [hO, Bool.or_false] at hf
          (repeat' (first
  | (apply W.gOn; exact rfl; exact rfl)
  | (apply W.qd; (first
    | (apply q_mv; (first|exact vD|exact vO|exact vP|exact vA|exact vF|exact vR|exact vN|exact vY|exact vT|exact vX))|(apply q_as; (first|exact vD|exact vO|exact vP|exact vA|exact vF|exact vR|exact vN|exact vY|exact vT|exact vX))|(apply q_lss; exact rfl; exact rfl)|(apply q_eql; exact rfl; exact rfl)|(apply q_add; exact rfl; exact rfl; omega)|(apply q_len_sl; exact rfl; exact rfl)|(apply q_ld_map; exact rfl; exact rfl; exact rfl; (first | omega | (focus (simp; done))))|(apply q_ix_slF; exact rfl; exact rfl; exact rfl; exact rfl; (first | (with_reducible exact rfl) | exact natI_spec rfl | assumption | exact (Int.toNat_of_nonneg (by omega)).symm); (first | omega | (focus (simp only [List.length_map]; omega)) | (focus (simp; done)) | (focus (simp; omega))))|(apply (q_pickT (u := .d _)); exact rfl; exact rfl)
    | (apply (q_pickF (u := .d _)); exact rfl; exact rfl)))|(refine W.gOff _ _ rfl rfl (by intro h; cases h) ?_)|(apply AWP.seq)|(apply ACont_normal)|(apply W.region; kernel_rfl)|(apply Walk.nil)|(apply AWP.block)|(apply AWP.skip)|(apply ABlock_normal)|(refine W.gF _ _ rfl rfl (fun hb => ?_) (fun hb => ?_) <;> ((try simp only [hb, Bool.not_true, Bool.not_false]) <;> (try simp only [decide_eq_true_eq, decide_eq_false_iff_not, Bool.not_eq_true', Bool.not_eq_false', Int.not_lt, Int.not_le, List.length_map, not_true_eq_false] at hb) <;> (try (exfalso; omega))))
  | (refine W.cond _ rfl (fun hb => ?_) (fun hb => ?_) <;> ((try simp only [hb, Bool.not_true, Bool.not_false]) <;> (try simp only [decide_eq_true_eq, decide_eq_false_iff_not, Bool.not_eq_true', Bool.not_eq_false', Int.not_lt, Int.not_le, List.length_map, not_true_eq_false] at hb) <;> (try (exfalso; omega))))))
          (all_goals (try (exfalso; exact absurd ((‹OT[((I.map CK)[i]'(by simpa using hiI))[k]] = true› : OT[((I.map CK)[i]'(by simpa using hiI))[k]] = true).symm.trans (‹OT[((I.map CK)[i]'(by simpa using hiI))[k]] = false› : OT[((I.map CK)[i]'(by simpa using hiI))[k]] = false)) (by decide))))
          all_goals refine ⟨k + 1, by omega, by omega, ?_⟩
          all_goals rw [hf]
          all_goals exact ⟨[0, 1], rfl, rfl, rfl, iV_eq (by omega), congrArg bV (by rw [Bool.eq_iff_iff, decide_eq_true_eq, beq_iff_eq]; omega), rfl, rfl, rfl, rfl, rfl, rfl, rfl, rfl, trivial⟩
    · have hkL' : k = ((I.map CK)[i]'(by simpa using hiI)).length := by omega
      subst hkL'
      rw [List.take_length]
      clear hft hf0
      cases hfu : fullC OT ((I.map CK)[i]'(by simpa using hiI)) u <;> rw [hfu] at hs2
      · replace hs2 := Lib.hid (hs2.out.trans (if_neg (by decide)))
        (repeat' (first
  | (apply W.qd; (first
    | (apply q_mv; (first|exact vD|exact vO|exact vP|exact vA|exact vF|exact vR|exact vN|exact vY|exact vT|exact vX))|(apply q_as; (first|exact vD|exact vO|exact vP|exact vA|exact vF|exact vR|exact vN|exact vY|exact vT|exact vX))|(apply q_lss; exact rfl; exact rfl)|(apply q_not; exact rfl)|(apply q_add; exact rfl; exact rfl; omega)|(apply q_len_sl; exact rfl; exact rfl)|(apply q_ld_map; exact rfl; exact rfl; exact rfl; (first | omega | (focus (simp; done))))
    | (apply q_ix_slF; exact rfl; exact rfl; exact rfl; exact rfl; (first | (with_reducible exact rfl) | exact natI_spec rfl | assumption | exact (Int.toNat_of_nonneg (by omega)).symm); (first | omega | (focus (simp only [List.length_map]; omega)) | (focus (simp; done)) | (focus (simp; omega))))))|(apply AWP.seq)|(apply ACont_normal)|(apply W.region; kernel_rfl)|(apply Walk.nil)|(apply AWP.exit)|(apply ACont_exit)|(apply ABlock_exit)|(apply W.condT; exact rfl)
  | (refine W.cond _ rfl (fun hb => ?_) (fun hb => ?_) <;> ((try simp only [hb, Bool.not_true, Bool.not_false]) <;> (try simp only [decide_eq_true_eq, decide_eq_false_iff_not, Bool.not_eq_true', Bool.not_eq_false', Int.not_lt, Int.not_le, List.length_map, not_true_eq_false] at hb) <;> (try (exfalso; omega))))))
        refine ⟨i + 1, by omega, by omega, ?_⟩
        rw [hs2.out]
        exact ⟨[0, 1], rfl, rfl, rfl, iV_eq (by omega), rfl, rfl, rfl, rfl, rfl, rfl, rfl, trivial⟩
      · have hs3 := hs2.out.trans (if_pos rfl)
        rw [← hs3] at hsn
        replace hsn := Lib.hid hsn
        clear hs2 hs3
        cases hB : bestN (CO.toList ++ CC i) with
        | none =>
          rw [hB] at hsn
          (repeat' (first
  | (apply W.qd; (first
    | (apply (q_callC (ht1)); exact rfl; exact rfl; kernel_rfl; kernel_rfl; kernel_rfl)|(apply q_mv; (first|exact vD|exact vO|exact vP|exact vA|exact vF|exact vR|exact vN|exact vY|exact vT|exact vX))|(apply q_as; (first|exact vD|exact vO|exact vP|exact vA|exact vF|exact vR|exact vN|exact vY|exact vT|exact vX))|(apply q_ld_boxF; exact rfl; exact rfl; exact rfl; exact rfl)|(apply q_lss; exact rfl; exact rfl)|(apply q_not; exact rfl)|(apply q_add; exact rfl; exact rfl; omega)|(apply q_len_sl; exact rfl; exact rfl)|(apply q_ld_map; exact rfl; exact rfl; exact rfl; (first | omega | (focus (simp; done))))|(apply q_ix_slF; exact rfl; exact rfl; exact rfl; exact rfl; (first | (with_reducible exact rfl) | exact natI_spec rfl | assumption | exact (Int.toNat_of_nonneg (by omega)).symm); (first | omega | (focus (simp only [List.length_map]; omega)) | (focus (simp; done)) | (focus (simp; omega))))
    | (apply (q_pickT (u := .d _)); exact rfl; exact rfl)))|(refine W.gOff _ _ rfl rfl (by intro h; cases h) ?_)|(apply AWP.seq)|(apply ACont_normal)|(apply W.region; kernel_rfl)|(apply W.regionD; exact rfl; kernel_rfl)|(apply Walk.nil)|(apply W.chk; kernel_rfl)|(apply AWP.skip)|(apply AWP.exit)|(apply ACont_exit)|(apply ABlock_normal)|(apply ABlock_exit)|(apply W.condT; exact rfl)|(apply W.condF; exact rfl)
  | (refine W.cond _ rfl (fun hb => ?_) (fun hb => ?_) <;> ((try simp only [hb, Bool.not_true, Bool.not_false]) <;> (try simp only [decide_eq_true_eq, decide_eq_false_iff_not, Bool.not_eq_true', Bool.not_eq_false', Int.not_lt, Int.not_le, List.length_map, not_true_eq_false] at hb) <;> (try (exfalso; omega))))))
          refine ⟨i + 1, by omega, by omega, ?_⟩
          rw [hsn.out]
          exact ⟨[0, 1], rfl, rfl, rfl, iV_eq (by omega), rfl, rfl, rfl, rfl, rfl, rfl, rfl, trivial⟩
        | some m =>
          rw [hB] at hsn
          have hbm := hbli m hB
          have hbt := A_better (a := TT) (b := m) (by omega) (by omega)
          cases hlt : ltT TT m with
          | true =>
            have hsn2 := hsn.out
            dsimp only at hsn2
            rw [hlt] at hbt hsn2
            replace hsn2 := Lib.hid hsn2
            clear hsn
            (repeat' (first
  | (apply W.gOn; exact rfl; exact rfl)
  | (apply W.qd; (first
    | (apply (q_callC (ht1)); exact rfl; exact rfl; kernel_rfl; kernel_rfl; kernel_rfl)|(apply (q_callC (hbt)); exact rfl; exact rfl; kernel_rfl; kernel_rfl; kernel_rfl)|(apply q_mv; (first|exact vD|exact vO|exact vP|exact vA|exact vF|exact vR|exact vN|exact vY|exact vT|exact vX))|(apply q_as; (first|exact vD|exact vO|exact vP|exact vA|exact vF|exact vR|exact vN|exact vY|exact vT|exact vX))|(apply q_ld_boxF; exact rfl; exact rfl; exact rfl; exact rfl)|(apply q_lss; exact rfl; exact rfl)|(apply q_not; exact rfl)|(apply q_add; exact rfl; exact rfl; omega)|(apply q_len_sl; exact rfl; exact rfl)|(apply q_ld_map; exact rfl; exact rfl; exact rfl; (first | omega | (focus (simp; done))))|(apply q_ix_slF; exact rfl; exact rfl; exact rfl; exact rfl; (first | (with_reducible exact rfl) | exact natI_spec rfl | assumption | exact (Int.toNat_of_nonneg (by omega)).symm); (first | omega | (focus (simp only [List.length_map]; omega)) | (focus (simp; done)) | (focus (simp; omega))))
    | (apply (q_pickF (u := .d _)); exact rfl; exact rfl)))|(apply AWP.seq)|(apply ACont_normal)|(apply W.region; kernel_rfl)|(apply W.regionD; exact rfl; kernel_rfl)|(apply Walk.nil)|(apply W.chk; kernel_rfl)|(apply AWP.skip)|(apply AWP.exit)|(apply ACont_exit)|(apply ABlock_normal)|(apply ABlock_exit)|(apply W.condT; exact rfl)|(apply W.condF; exact rfl)
  | (refine W.cond _ rfl (fun hb => ?_) (fun hb => ?_) <;> ((try simp only [hb, Bool.not_true, Bool.not_false]) <;> (try simp only [decide_eq_true_eq, decide_eq_false_iff_not, Bool.not_eq_true', Bool.not_eq_false', Int.not_lt, Int.not_le, List.length_map, not_true_eq_false] at hb) <;> (try (exfalso; omega))))))
            refine ⟨i + 1, by omega, by omega, ?_⟩
            rw [hsn2.out]
            exact ⟨[0, 1], rfl, rfl, rfl, iV_eq (by omega), rfl, rfl, rfl, rfl, rfl, rfl, rfl, trivial⟩
          | false =>
            have hsn2 := hsn.out
            dsimp only at hsn2
            rw [hlt] at hbt hsn2
            replace hsn2 := Lib.hid hsn2
            clear hsn
            (repeat' (first
  | (apply W.gOn; exact rfl; exact rfl)
  | (apply W.qd; (first
    | (apply (q_callC (ht1)); exact rfl; exact rfl; kernel_rfl; kernel_rfl; kernel_rfl)|(apply (q_callC (hbt)); exact rfl; exact rfl; kernel_rfl; kernel_rfl; kernel_rfl)|(apply q_mv; (first|exact vD|exact vO|exact vP|exact vA|exact vF|exact vR|exact vN|exact vY|exact vT|exact vX))|(apply q_as; (first|exact vD|exact vO|exact vP|exact vA|exact vF|exact vR|exact vN|exact vY|exact vT|exact vX))|(apply q_ld_boxF; exact rfl; exact rfl; exact rfl; exact rfl)|(apply q_lss; exact rfl; exact rfl)|(apply q_not; exact rfl)|(apply q_add; exact rfl; exact rfl; omega)|(apply q_len_sl; exact rfl; exact rfl)|(apply q_ld_map; exact rfl; exact rfl; exact rfl; (first | omega | (focus (simp; done))))|(apply q_ix_slF; exact rfl; exact rfl; exact rfl; exact rfl; (first | (with_reducible exact rfl) | exact natI_spec rfl | assumption | exact (Int.toNat_of_nonneg (by omega)).symm); (first | omega | (focus (simp only [List.length_map]; omega)) | (focus (simp; done)) | (focus (simp; omega))))
    | (apply (q_pickF (u := .d _)); exact rfl; exact rfl)))|(apply AWP.seq)|(apply ACont_normal)|(apply W.region; kernel_rfl)|(apply W.regionD; exact rfl; kernel_rfl)|(apply Walk.nil)|(apply W.chk; kernel_rfl)|(apply AWP.skip)|(apply AWP.exit)|(apply ACont_exit)|(apply ABlock_normal)|(apply ABlock_exit)|(apply W.condF; exact rfl)
  | (refine W.cond _ rfl (fun hb => ?_) (fun hb => ?_) <;> ((try simp only [hb, Bool.not_true, Bool.not_false]) <;> (try simp only [decide_eq_true_eq, decide_eq_false_iff_not, Bool.not_eq_true', Bool.not_eq_false', Int.not_lt, Int.not_le, List.length_map, not_true_eq_false] at hb) <;> (try (exfalso; omega))))))
            refine ⟨i + 1, by omega, by omega, ?_⟩
            rw [hsn2.out]
            exact ⟨[0, 1], rfl, rfl, rfl, iV_eq (by omega), rfl, rfl, rfl, rfl, rfl, rfl, rfl, trivial⟩
  · have hiI' : i = I.length := by omega
    subst hiI'
    rw [hP]
    clear hcs hterm hcb hmem hbl hall hP
    cases hB : bestN (CO.toList ++ CC I.length) with
    | none =>
      (repeat' (first
  | (apply W.qd; (first
    | (apply q_mv; (first|exact vD|exact vO|exact vP|exact vA|exact vF|exact vR|exact vN|exact vY|exact vT|exact vX))|(apply q_as; (first|exact vD|exact vO|exact vP|exact vA|exact vF|exact vR|exact vN|exact vY|exact vT|exact vX))|(apply q_lss; exact rfl; exact rfl)|(apply q_not; exact rfl)|(apply q_len_sl; exact rfl; exact rfl)
    | (apply q_buildF; exact rfl; exact rfl; kernel_rfl)))|(apply W.ln; (apply l_st_box; exact rfl; exact rfl; exact rfl; exact rfl; exact rfl; exact rfl; kernel_rfl; kernel_rfl; kernel_rfl))|(apply AWP.seq)|(apply ACont_normal)|(apply W.region; kernel_rfl)|(apply Walk.nil)|(apply AWP.exit)|(apply AWP.ret)|(apply ACont_exit)|(apply ACont_ret)|(apply ABlock_exit)|(apply W.condT; exact rfl)
  | (refine W.cond _ rfl (fun hb => ?_) (fun hb => ?_) <;> ((try simp only [hb, Bool.not_true, Bool.not_false]) <;> (try simp only [decide_eq_true_eq, decide_eq_false_iff_not, Bool.not_eq_true', Bool.not_eq_false', Int.not_lt, Int.not_le, List.length_map, not_true_eq_false] at hb) <;> (try (exfalso; omega))))))
      exact Ends.cell2 rfl rfl rfl rfl rfl
    | some m =>
      (repeat' (first
  | (apply W.qd; (first
    | (apply q_mv; (first|exact vD|exact vO|exact vP|exact vA|exact vF|exact vR|exact vN|exact vY|exact vT|exact vX))|(apply q_as; (first|exact vD|exact vO|exact vP|exact vA|exact vF|exact vR|exact vN|exact vY|exact vT|exact vX))|(apply q_lss; exact rfl; exact rfl)|(apply q_not; exact rfl)|(apply q_len_sl; exact rfl; exact rfl)
    | (apply q_buildF; exact rfl; exact rfl; kernel_rfl)))|(apply W.ln; (apply l_st_box; exact rfl; exact rfl; exact rfl; exact rfl; exact rfl; exact rfl; kernel_rfl; kernel_rfl; kernel_rfl))|(apply AWP.seq)|(apply ACont_normal)|(apply W.region; kernel_rfl)|(apply Walk.nil)|(apply AWP.skip)|(apply AWP.exit)|(apply AWP.ret)|(apply ACont_exit)|(apply ABlock_exit)|(apply W.condF; exact rfl)
  | (refine W.cond _ rfl (fun hb => ?_) (fun hb => ?_) <;> ((try simp only [hb, Bool.not_true, Bool.not_false]) <;> (try simp only [decide_eq_true_eq, decide_eq_false_iff_not, Bool.not_eq_true', Bool.not_eq_false', Int.not_lt, Int.not_le, List.length_map, not_true_eq_false] at hb) <;> (try (exfalso; omega))))))
      exact Ends.cell2 rfl rfl rfl rfl rfl
end Go.Proofs.YtilpljehfcpjeaaGreatDoor
end
section
/- The laws RepairPlanMatchesSpec and RepairAllMatchesSpec: the walks. -/
namespace Go.Proofs.YtilpljehfcpjeaaGreatDoor
open Go.RowKit
set_option maxHeartbeats 4000000
set_option maxRecDepth 100000
attribute [local irreducible] Quiet Eff OpOk AWPG ACont ABlock ACalls AGoto
theorem same_plan {w : Nat} {l : List (Nat × Nat)} (hl : l.length ≤ 1000000) : ACalls Tryz.prog 13 [.agg [iV w, tmsA l], .agg [iV w, tmsA l]] [] (bV true) [] := by
  have hsame := A_samePlan (u := (w : Int)) (v := (w : Int)) (a := l.map fun t => ((t.1 : Int), (t.2 : Int))) (b := l.map fun t => ((t.1 : Int), (t.2 : Int))) (by simp; omega) (by simp; omega)
  rw [← tms_tmsZ, decide_eq_true rfl, decide_eq_true rfl, Bool.true_and] at hsame
  exact hsame
theorem first_bad (M D : Nat) (ps : List (List Nat)) (hv : List Bool) : ∃ q, q ≤ hv.length ∧ (∀ k, k < q → hv.getD k false = false → (planN M D ps hv k).isSome = true) ∧ (q < hv.length → hv.getD q false = false ∧ planN M D ps hv q = none) := by
  obtain ⟨q, q1, q2, q3, _⟩ := first_none (fun k => if hv.getD k false = true then some [] else planN M D ps hv k) hv.length
  refine ⟨q, q1, fun k hk hb => ?_, fun hq => ?_⟩
  · have := q2 k hk
    rw [if_neg (by rw [hb]; simp)] at this
    exact this
  · have := q3 hq
    by_cases e : hv.getD q false = true
    · rw [if_pos e] at this; cases this
    · rw [if_neg e] at this
      exact ⟨by simpa using e, this⟩
theorem A_r10all_bad {M D : Int} {par : List (List Int)} {hv : List Bool} (hD : D ≤ 1000000) (hP : par.length ≤ 1000000) (h : ¬ (validC M D par = true ∧ (hv.length : Int) = D + (par.length : Int))) : ACalls Tryz.prog 17 [cdA M D par, bools hv] [] (.tup [plsA [], iV 1]) [] := by
  refine acalls_of_bodyO Tryz.func17 rfl (Nat.le_of_ble_eq_true rfl) ?_
  have hw := A_r8width (M := M) hD hP
  have hmh : (hv.map tD).length = hv.length := List.length_map _
  cases hv0 : validC M D par with
  | false =>
    rw [hv0, if_neg (by decide)] at hw
    (repeat' (first
  | (apply W.qd; (first
    | (apply (q_callC (hw)); exact rfl; exact rfl; kernel_rfl; kernel_rfl; kernel_rfl)|(apply q_mv; (first|exact vD|exact vO|exact vP|exact vA|exact vF|exact vR|exact vN|exact vY|exact vT|exact vX))|(apply q_as; (first|exact vD|exact vO|exact vP|exact vA|exact vF|exact vR|exact vN|exact vY|exact vT|exact vX))|(apply q_ld_boxF; exact rfl; exact rfl; exact rfl; exact rfl)|(apply q_eql; exact rfl; exact rfl)
    | (apply (q_pickT (u := .d _)); exact rfl; exact rfl)))|(apply W.ed; (apply e_boxF; exact rfl; exact rfl; exact rfl; kernel_rfl; kernel_rfl))|(refine W.gOff _ _ rfl rfl (by intro h; cases h) ?_)|(apply AWP.seq)|(apply ACont_normal)|(apply W.region; kernel_rfl)|(apply Walk.nil)|(apply AWP.ret)|(apply ACont_ret)
  | (apply W.condT; exact rfl)))
    all_goals exact ⟨.inl rfl, [], [.d (.v (.slice none 0 0)), iV 1], rfl, rfl, ⟨rfl, rfl, trivial⟩, AVle.tup2 (AVle.nil 2) (AVle.refl _), rfl⟩
  | true =>
    rw [hv0, if_pos rfl] at hw
    have hne : ¬ (hv.length : Int) = D + (par.length : Int) := fun e => h ⟨hv0, e⟩
    (repeat' (first
  | (apply W.gOn; exact rfl; exact rfl)
  | (apply W.qd; (first
    | (apply (q_callC (hw)); exact rfl; exact rfl; kernel_rfl; kernel_rfl; kernel_rfl)|(apply q_mv; (first|exact vD|exact vO|exact vP|exact vA|exact vF|exact vR|exact vN|exact vY|exact vT|exact vX))|(apply q_as; (first|exact vD|exact vO|exact vP|exact vA|exact vF|exact vR|exact vN|exact vY|exact vT|exact vX))|(apply q_ld_boxF; exact rfl; exact rfl; exact rfl; exact rfl)|(apply q_eql; exact rfl; exact rfl)|(apply q_neq; exact rfl; exact rfl)|(apply q_len_sl; exact rfl; exact rfl)|(apply (q_pickT (u := .d _)); exact rfl; exact rfl)
    | (apply (q_pickF (u := .d _)); exact rfl; exact rfl)))|(apply W.ed; (apply e_boxF; exact rfl; exact rfl; exact rfl; kernel_rfl; kernel_rfl))|(refine W.gOff _ _ rfl rfl (by intro h; cases h) ?_)|(apply AWP.seq)|(apply ACont_normal)|(apply W.region; kernel_rfl)|(apply Walk.nil)|(apply AWP.ret)|(apply ACont_ret)|(apply W.condT; exact rfl)|(refine W.gF _ _ rfl rfl (fun hb => ?_) (fun hb => ?_) <;> ((try simp only [hb, Bool.not_true, Bool.not_false]) <;> (try simp only [decide_eq_true_eq, decide_eq_false_iff_not, Bool.not_eq_true', Bool.not_eq_false', Int.not_lt, Int.not_le, List.length_map, not_true_eq_false] at hb) <;> (try (exfalso; omega))))
  | (refine W.cond _ rfl (fun hb => ?_) (fun hb => ?_) <;> ((try simp only [hb, Bool.not_true, Bool.not_false]) <;> (try simp only [decide_eq_true_eq, decide_eq_false_iff_not, Bool.not_eq_true', Bool.not_eq_false', Int.not_lt, Int.not_le, List.length_map, not_true_eq_false] at hb) <;> (try (exfalso; omega))))))
    all_goals exact ⟨.inl rfl, [], [.d (.v (.slice none 0 0)), iV 1], rfl, rfl, ⟨rfl, rfl, trivial⟩, AVle.tup2 (AVle.nil 2) (AVle.refl _), rfl⟩
def allA (M D : Nat) (ps : List (List Nat)) (hv : List Bool) (q : Nat) : AV := if q < hv.length then .tup [plsA [], iV 11] else .tup [plsA (plansTo M D ps hv hv.length), iV 0]
theorem A_r10all {M D q : Nat} {ps : List (List Nat)} {hv : List Bool} (h : CodeOk M D ps) (hl : hv.length = D + ps.length) (hq : q ≤ hv.length) (hall : ∀ k, k < q → hv.getD k false = false → (planN M D ps hv k).isSome = true) (hbad : q < hv.length → hv.getD q false = false ∧ planN M D ps hv q = none) :
    ACalls Tryz.prog 17 [cdN M D ps, bools hv] [] (allA M D ps hv q) [] := by
  refine acalls_of_bodyO Tryz.func17 rfl (Nat.le_of_ble_eq_true rfl) ?_
  have h1 := h.d
  have h2 := h.w
  have hw := A_r8widthN h
  rw [← hl] at hw
  have hmh : (hv.map tD).length = hv.length := List.length_map _
  have hplan := fun k (hk : k < D + ps.length) => A_r10plan (u := k) h hl hk
  have hs := fun k => Lib.hid (plansTo_succ M D ps hv k)
  have hle := plansTo_le M D ps hv
  have hP0 : plansTo M D ps hv 0 = [] := rfl
  unfold allA
  generalize hPN : planN M D ps hv = PN at *
  generalize plansTo M D ps hv = PL at *
  (repeat' (first
  | (apply W.gOn; exact rfl; exact rfl)
  | (apply W.qd; (first
    | (apply (q_callC (hw)); exact rfl; exact rfl; kernel_rfl; kernel_rfl; kernel_rfl)|(apply q_mv; (first|exact vD|exact vO|exact vP|exact vA|exact vF|exact vR|exact vN|exact vY|exact vT|exact vX))|(apply q_as; (first|exact vD|exact vO|exact vP|exact vA|exact vF|exact vR|exact vN|exact vY|exact vT|exact vX))|(apply q_ld_boxF; exact rfl; exact rfl; exact rfl; exact rfl)|(apply q_eql; exact rfl; exact rfl)|(apply q_neq; exact rfl; exact rfl)|(apply q_len_sl; exact rfl; exact rfl)
    | (apply (q_pickF (u := .d _)); exact rfl; exact rfl)))|(apply W.ed; (apply e_boxF; exact rfl; exact rfl; exact rfl; kernel_rfl; kernel_rfl))|(apply AWP.seq)|(apply ACont_normal)|(apply (W.regionS 5); exact rfl; kernel_rfl)|(apply Walk.nil)|(apply AWP.skip)|(refine W.gF _ _ rfl rfl (fun hb => ?_) (fun hb => ?_) <;> ((try simp only [hb, Bool.not_true, Bool.not_false]) <;> (try simp only [decide_eq_true_eq, decide_eq_false_iff_not, Bool.not_eq_true', Bool.not_eq_false', Int.not_lt, Int.not_le, List.length_map, not_true_eq_false] at hb) <;> (try (exfalso; omega))))
  | (refine W.cond _ rfl (fun hb => ?_) (fun hb => ?_) <;> ((try simp only [hb, Bool.not_true, Bool.not_false]) <;> (try simp only [decide_eq_true_eq, decide_eq_false_iff_not, Bool.not_eq_true', Bool.not_eq_false', Int.not_lt, Int.not_le, List.length_map, not_true_eq_false] at hb) <;> (try (exfalso; omega))))))
  refine AWP.nilRow 7 2 30 rfl (by omega) ?_
  (repeat' (first
  | (apply W.qd; (apply q_as; (first|exact vD|exact vO|exact vP|exact vA|exact vF|exact vR|exact vN|exact vY|exact vT|exact vX)))|(apply ACont_normal)|(apply (W.regionS 6); exact rfl; kernel_rfl)|(apply Walk.nil)
  | (apply AWP.block)))
  refine AWP.loopW (α := Nat) (fun k => k ≤ q) (fun k => ⟨[(8, iV k), (6, iV hv.length), (7, .osl 1 (PL k).length 0 (PL k).length), (1, bools hv), (2, .opt 0 0)], [.box [.d .any, iV M, iV D, rowsN ps, .d .any], .row (PL k).length 2 30 ((PL k).map plD)]⟩) (fun k => q - k) 0 (Nat.zero_le _) ?wk0 fun k hk => ?_
  case wk0 =>
    rw [hP0]
    exact ⟨[0, 1], rfl, rfl, rfl, by (repeat (first | exact trivial | refine ⟨rfl, ?_⟩))⟩
  have hle2 := hle k
  by_cases hkq : k < q
  · have eg : hv.getD k false = hv[k]'(by omega) := by rw [List.getD_eq_getElem?_getD, List.getElem?_eq_getElem (show k < hv.length by omega)]; rfl
    have hs2 := (hs k).out
    rw [eg] at hs2
    have hk2 := hplan k (by omega)
    have hal := hall k hkq
    rw [eg] at hal
    clear hs hplan hle hbad hall
    cases hb0 : hv[k]'(by omega) with
    | true =>
      rw [hb0, if_pos rfl] at hs2
      replace hs2 := Lib.hid hs2
      generalize PL k = A at *
      (repeat' (first
  | (apply W.qd; (first
    | (apply q_mv; (first|exact vD|exact vO|exact vP|exact vA|exact vF|exact vR|exact vN|exact vY|exact vT|exact vX))|(apply q_as; (first|exact vD|exact vO|exact vP|exact vA|exact vF|exact vR|exact vN|exact vY|exact vT|exact vX))|(apply q_ld_boxF; exact rfl; exact rfl; exact rfl; exact rfl)|(apply q_lss; exact rfl; exact rfl)|(apply q_add; exact rfl; exact rfl; omega)|(apply q_ld_map; exact rfl; exact rfl; exact rfl; (first | omega | (focus (simp; done))))
    | (apply q_ix_slF; exact rfl; exact rfl; exact rfl; exact rfl; (first | (with_reducible exact rfl) | exact natI_spec rfl | assumption | exact (Int.toNat_of_nonneg (by omega)).symm); (first | omega | (focus (simp only [List.length_map]; omega)) | (focus (simp; done)) | (focus (simp; omega))))))|(apply AWP.seq)|(apply ACont_normal)|(apply W.region; kernel_rfl)|(apply Walk.nil)|(apply AWP.block)|(apply AWP.skip)|(apply AWP.exit)|(apply ACont_exit)|(apply ABlock_exit)
  | (refine W.cond _ rfl (fun hb => ?_) (fun hb => ?_) <;> ((try simp only [hb, Bool.not_true, Bool.not_false]) <;> (try simp only [decide_eq_true_eq, decide_eq_false_iff_not, Bool.not_eq_true', Bool.not_eq_false', Int.not_lt, Int.not_le, List.length_map, not_true_eq_false] at hb) <;> (try (exfalso; omega))))))
      (all_goals (try (exfalso; exact absurd ((‹hv[k] = true› : hv[k] = true).symm.trans (‹hv[k] = false› : hv[k] = false)) (by decide))))
      all_goals refine ⟨k + 1, by omega, by omega, ?_⟩
      all_goals rw [hs2.out]
      all_goals exact ⟨[0, 1], rfl, rfl, rfl, iV_eq (by omega), rfl, rfl, rfl, rfl, trivial⟩
    | false =>
      obtain ⟨l, hl2⟩ := Option.isSome_iff_exists.1 (hal hb0)
      rw [hb0, if_neg (by simp), hl2] at hs2
      rw [hl2] at hk2
      unfold planA at hk2
      dsimp only at hk2
      replace hs2 := Lib.hid hs2
      generalize PL k = A at *
      (repeat' (first
  | (apply W.qd; (first
    | (apply (q_callC (hk2)); exact rfl; exact rfl; kernel_rfl; kernel_rfl; kernel_rfl)|(apply q_mv; (first|exact vD|exact vO|exact vP|exact vA|exact vF|exact vR|exact vN|exact vY|exact vT|exact vX))|(apply q_as; (first|exact vD|exact vO|exact vP|exact vA|exact vF|exact vR|exact vN|exact vY|exact vT|exact vX))|(apply q_ld_boxF; exact rfl; exact rfl; exact rfl; exact rfl)|(apply q_lss; exact rfl; exact rfl)|(apply q_neq; exact rfl; exact rfl)|(apply q_add; exact rfl; exact rfl; omega)|(apply q_extract; exact rfl; exact rfl)|(apply q_ld_map; exact rfl; exact rfl; exact rfl; (first | omega | (focus (simp; done))))|(apply q_litF; exact rfl; exact rfl; exact rfl; exact rfl; exact rfl; kernel_rfl; kernel_rfl; exact rfl)
    | (apply q_ix_slF; exact rfl; exact rfl; exact rfl; exact rfl; (first | (with_reducible exact rfl) | exact natI_spec rfl | assumption | exact (Int.toNat_of_nonneg (by omega)).symm); (first | omega | (focus (simp only [List.length_map]; omega)) | (focus (simp; done)) | (focus (simp; omega))))))
  | (apply W.ed; (first
    | ((apply (e_app1F (f := plD) (k, l)); exact rfl; exact rfl; exact rfl; exact rfl; exact rfl; exact rfl; exact rfl; exact rfl; omega))
    | (apply e_allocF; exact rfl; exact rfl; exact rfl; kernel_rfl)))|(apply W.ln; (apply l_st_box; exact rfl; exact rfl; exact rfl; exact rfl; exact rfl; exact rfl; kernel_rfl; kernel_rfl; kernel_rfl))|(apply AWP.seq)|(apply ACont_normal)|(apply W.region; kernel_rfl)|(apply Walk.nil)|(apply AWP.block)|(apply AWP.skip)|(apply AWP.exit)|(apply ACont_exit)|(apply ABlock_normal)|(apply ABlock_exit)|(apply W.condF; exact rfl)
  | (refine W.cond _ rfl (fun hb => ?_) (fun hb => ?_) <;> ((try simp only [hb, Bool.not_true, Bool.not_false]) <;> (try simp only [decide_eq_true_eq, decide_eq_false_iff_not, Bool.not_eq_true', Bool.not_eq_false', Int.not_lt, Int.not_le, List.length_map, not_true_eq_false] at hb) <;> (try (exfalso; omega))))))
      (all_goals (try (exfalso; exact absurd ((‹hv[k] = true› : hv[k] = true).symm.trans (‹hv[k] = false› : hv[k] = false)) (by decide))))
      all_goals refine ⟨k + 1, by omega, by omega, ?_⟩
      all_goals rw [hs2.out, show (A ++ [(k, (some l).getD [])]).length = A.length + 1 by simp]
      all_goals exact ⟨[0, 1], rfl, rfl, rfl, iV_eq (by omega), rfl, congrArg (AV.osl 1 (A.length + 1) 0) (by simp), rfl, rfl, trivial⟩
  · have hkq' : k = q := by omega
    subst hkq'
    by_cases hkW : k < hv.length
    · obtain ⟨b1, b2⟩ := hbad hkW
      have eg : hv.getD k false = hv[k] := by rw [List.getD_eq_getElem?_getD, List.getElem?_eq_getElem hkW]; rfl
      rw [eg] at b1
      have hk2 := hplan k (by omega)
      rw [b2] at hk2
      unfold planA at hk2
      dsimp only at hk2
      rw [if_pos hkW]
      clear hs hplan hle hbad hall
      generalize PL k = A at *
      (repeat' (first
  | (apply W.qd; (first
    | (apply (q_callC (hk2)); exact rfl; exact rfl; kernel_rfl; kernel_rfl; kernel_rfl)|(apply q_mv; (first|exact vD|exact vO|exact vP|exact vA|exact vF|exact vR|exact vN|exact vY|exact vT|exact vX))|(apply q_as; (first|exact vD|exact vO|exact vP|exact vA|exact vF|exact vR|exact vN|exact vY|exact vT|exact vX))|(apply q_ld_boxF; exact rfl; exact rfl; exact rfl; exact rfl)|(apply q_lss; exact rfl; exact rfl)|(apply q_neq; exact rfl; exact rfl)|(apply q_add; exact rfl; exact rfl; omega)|(apply q_extract; exact rfl; exact rfl)|(apply q_ld_map; exact rfl; exact rfl; exact rfl; (first | omega | (focus (simp; done))))
    | (apply q_ix_slF; exact rfl; exact rfl; exact rfl; exact rfl; (first | (with_reducible exact rfl) | exact natI_spec rfl | assumption | exact (Int.toNat_of_nonneg (by omega)).symm); (first | omega | (focus (simp only [List.length_map]; omega)) | (focus (simp; done)) | (focus (simp; omega))))))|(apply W.ed; (apply e_allocF; exact rfl; exact rfl; exact rfl; kernel_rfl))|(apply W.ln; (apply l_st_box; exact rfl; exact rfl; exact rfl; exact rfl; exact rfl; exact rfl; kernel_rfl; kernel_rfl; kernel_rfl))|(apply AWP.seq)|(apply ACont_normal)|(apply W.region; kernel_rfl)|(apply Walk.nil)|(apply AWP.block)|(apply AWP.skip)|(apply AWP.exit)|(apply AWP.ret)|(apply ACont_exit)|(apply ACont_ret)|(apply ABlock_exit)|(apply ABlock_ret)|(apply W.condT; exact rfl)
  | (refine W.cond _ rfl (fun hb => ?_) (fun hb => ?_) <;> ((try simp only [hb, Bool.not_true, Bool.not_false]) <;> (try simp only [decide_eq_true_eq, decide_eq_false_iff_not, Bool.not_eq_true', Bool.not_eq_false', Int.not_lt, Int.not_le, List.length_map, not_true_eq_false] at hb) <;> (try (exfalso; omega))))))
      (all_goals (try (exfalso; exact absurd ((‹hv[k] = true› : hv[k] = true).symm.trans (‹hv[k] = false› : hv[k] = false)) (by decide))))
      all_goals exact ⟨.inl rfl, [], [.d (.v (.slice none 0 0)), iV 11], rfl, rfl, ⟨rfl, rfl, trivial⟩, AVle.tup2 (AVle.nil 2) (AVle.refl _), rfl⟩
    · have hkW' : k = hv.length := by omega
      subst hkW'
      rw [if_neg (by omega)]
      clear hs hplan hle hbad hall
      generalize PL hv.length = A at *
      (repeat' (first
  | (apply W.qd; (first
    | (apply q_mv; (first|exact vD|exact vO|exact vP|exact vA|exact vF|exact vR|exact vN|exact vY|exact vT|exact vX))|(apply q_as; (first|exact vD|exact vO|exact vP|exact vA|exact vF|exact vR|exact vN|exact vY|exact vT|exact vX))
    | (apply q_lss; exact rfl; exact rfl)))|(apply AWP.seq)|(apply ACont_normal)|(apply W.region; kernel_rfl)|(apply Walk.nil)|(apply AWP.exit)|(apply AWP.ret)|(apply ACont_exit)|(apply ABlock_exit)
  | (refine W.cond _ rfl (fun hb => ?_) (fun hb => ?_) <;> ((try simp only [hb, Bool.not_true, Bool.not_false]) <;> (try simp only [decide_eq_true_eq, decide_eq_false_iff_not, Bool.not_eq_true', Bool.not_eq_false', Int.not_lt, Int.not_le, List.length_map, not_true_eq_false] at hb) <;> (try (exfalso; omega))))))
      exact ⟨.inl rfl, [], [.osl 1 A.length 0 A.length, iV 0], rfl, rfl, ⟨rfl, rfl, trivial⟩, AVle.tup2 (AVle.of_eq (frz_rowJ rfl rfl (by simp))) (AVle.of_eq rfl), rfl⟩
end Go.Proofs.YtilpljehfcpjeaaGreatDoor
end
section
/- Package repair over the machine of abstract values: All, where a missing unit has no plan; the law RepairAllMatchesSpec. -/
namespace Go.Proofs.YtilpljehfcpjeaaGreatDoor
open Go.RowKit
set_option maxHeartbeats 4000000
set_option maxRecDepth 100000
theorem AWP.toE {Γ : Ctx} {P : Program} {n m : Nat} {c : Code} {s : St} {own' : List Ent} {e0 : Exit} (h : AWPG Γ P n m c (fun e s => e = e0 ∧ Wk m s ⟨[], own'⟩) s) : AWPG Γ P n m c (fun e s => e = e0 ∧ s.own = own') s := fun F W κ0 a κ w hH hm hs =>
  wpIn_mono (h F W κ0 a κ w hH hm hs) fun e a' w' ⟨s', κ', ⟨he, hw⟩, hs'⟩ => by
    obtain ⟨κ2, h2⟩ := hs'.wk hm hw
    exact ⟨_, κ2, ⟨he, rfl⟩, h2⟩
attribute [local irreducible] Quiet Eff OpOk AWPG ACont ABlock ACalls AGoto
theorem A_missStop {hv : List Bool} {q : Nat} {E0 E1 E2 E3 L : Ent} {e4 e5 : Nat → Ent} {ownF : List Ent} (hl : hv.length ≤ 1000000) (hq : q < hv.length) (hqb : hv.getD q false = false)
    (h1 : ∀ k, k < q → hv.getD k false = true → e4 (k + 1) = e4 k ∧ e5 (k + 1) = e5 k)
    (h2 : ∀ k, k < q → hv.getD k false = false → YAt Tryz.prog 7 [E0, E1, E2, E3, e4 k, e5 k, .box [bools hv], L] [iV (k : Nat)] true [E0, E1, E2, E3, e4 (k + 1), e5 (k + 1), .box [bools hv], L])
    (h3 : YAt Tryz.prog 7 [E0, E1, E2, E3, e4 q, e5 q, .box [bools hv], L] [iV (q : Nat)] false ownF) :
    ACalls Tryz.prog 65 [.yl 7, .opt 6 0] [E0, E1, E2, E3, e4 0, e5 0, .box [bools hv], L] (.tup []) ownF := by
  refine acalls_of_bodyS Tryz.func65 rfl (Nat.le_of_ble_eq_true rfl) ?_
  have hmh : (hv.map tD).length = hv.length := List.length_map _
  (repeat' (first
  | (apply W.qd; (first
    | (apply q_mv; (first|exact vD|exact vO|exact vP|exact vA|exact vF|exact vR|exact vN|exact vY|exact vT|exact vX))|(apply q_ld_box; exact rfl; exact rfl; exact rfl; exact rfl)
    | (apply q_len_sl; exact rfl; exact rfl)))|(apply AWP.seq)|(apply ACont_normal)|(apply (W.regionS 5); exact rfl; kernel_rfl)|(apply Walk.nil)
  | (apply AWP.block)))
  refine AWP.loopE (α := Nat) (fun k => k ≤ q) (fun k => ⟨[(7, iV (k : Nat)), (6, iV hv.length), (5, bools hv), (0, .yl 7), (1, .opt 6 0)], [E0, E1, E2, E3, e4 k, e5 k, .box [bools hv], L]⟩) (fun k => q - k) 0 (by omega) ⟨rfl, rfl, iV_eq (by rw [hmh]), rfl, rfl, rfl, trivial⟩ fun k hk => ?_
  have hkl : k < hv.length := by omega
  have eg : hv.getD k false = hv[k] := by rw [List.getD_eq_getElem?_getD, List.getElem?_eq_getElem hkl]; rfl
  by_cases hkq : k < q
  · have q1 := h1 k hkq
    have q2 := h2 k hkq
    rw [eg] at q1 q2
    (repeat' (first
  | (apply W.gOn; exact rfl; exact rfl)
  | (apply W.qd; (first
    | (apply q_mv; (first|exact vD|exact vO|exact vP|exact vA|exact vF|exact vR|exact vN|exact vY|exact vT|exact vX))|(apply q_as; (first|exact vD|exact vO|exact vP|exact vA|exact vF|exact vR|exact vN|exact vY|exact vT|exact vX))|(apply q_lss; exact rfl; exact rfl)|(apply q_not; exact rfl)|(apply q_add; exact rfl; exact rfl; omega)|(apply q_ld_map; exact rfl; exact rfl; exact rfl; (first | omega | (focus (simp; done))))|(apply q_ix_slF; exact rfl; exact rfl; exact rfl; exact rfl; (first | (with_reducible exact rfl) | exact natI_spec rfl | assumption | exact (Int.toNat_of_nonneg (by omega)).symm); (first | omega | (focus (simp only [List.length_map]; omega)) | (focus (simp; done)) | (focus (simp; omega))))|(apply (q_pickT (u := .d _)); exact rfl; exact rfl)
    | (apply (q_pickF (u := .d _)); exact rfl; exact rfl)))|(apply W.ed; ((exact e_yield (q2 hb) rfl rfl)))|(refine W.gOff _ _ rfl rfl (by intro h; cases h) ?_)|(apply AWP.seq)|(apply ACont_normal)|(apply W.region; kernel_rfl)|(apply Walk.nil)|(apply AWP.block)|(apply AWP.skip)|(apply ABlock_normal)|(apply W.condF; exact rfl)|(refine W.gT _ _ rfl rfl (fun hb => ?_) (fun hb => ?_) <;> ((try simp only [hb, Bool.not_true, Bool.not_false]) <;> (try simp only [decide_eq_true_eq, decide_eq_false_iff_not, Bool.not_eq_true', Bool.not_eq_false', Int.not_lt, Int.not_le, List.length_map, not_true_eq_false] at hb) <;> (try (exfalso; omega))))
  | (refine W.cond _ rfl (fun hb => ?_) (fun hb => ?_) <;> ((try simp only [hb, Bool.not_true, Bool.not_false]) <;> (try simp only [decide_eq_true_eq, decide_eq_false_iff_not, Bool.not_eq_true', Bool.not_eq_false', Int.not_lt, Int.not_le, List.length_map, not_true_eq_false] at hb) <;> (try (exfalso; omega))))))
    · exact ⟨k + 1, by omega, by omega, rfl, iV_eq (by omega), rfl, rfl, rfl, rfl, trivial⟩
    · refine ⟨k + 1, by omega, by omega, ?_⟩
      rw [(q1 hb).1, (q1 hb).2]
      exact ⟨rfl, iV_eq (by omega), rfl, rfl, rfl, rfl, trivial⟩
  · have hkq' : k = q := by omega
    subst hkq'
    rw [eg] at hqb
    clear h1 h2
    (repeat' (first
  | (apply W.gOn; exact rfl; exact rfl)
  | (apply W.qd; (first
    | (apply q_mv; (first|exact vD|exact vO|exact vP|exact vA|exact vF|exact vR|exact vN|exact vY|exact vT|exact vX))|(apply q_as; (first|exact vD|exact vO|exact vP|exact vA|exact vF|exact vR|exact vN|exact vY|exact vT|exact vX))|(apply q_lss; exact rfl; exact rfl)|(apply q_not; exact rfl)|(apply q_add; exact rfl; exact rfl; omega)|(apply q_ld_map; exact rfl; exact rfl; exact rfl; (first | omega | (focus (simp; done))))|(apply q_ix_slF; exact rfl; exact rfl; exact rfl; exact rfl; (first | (with_reducible exact rfl) | exact natI_spec rfl | assumption | exact (Int.toNat_of_nonneg (by omega)).symm); (first | omega | (focus (simp only [List.length_map]; omega)) | (focus (simp; done)) | (focus (simp; omega))))|(apply (q_pickT (u := .d _)); exact rfl; exact rfl)
    | (apply (q_pickF (u := .d _)); exact rfl; exact rfl)))|(apply W.ed; ((exact e_yield h3 rfl rfl)))|(refine W.gOff _ _ rfl rfl (by intro h; cases h) ?_)|(apply AWP.seq)|(apply ACont_normal)|(apply W.region; kernel_rfl)|(apply Walk.nil)|(apply AWP.block)|(apply AWP.skip)|(apply AWP.ret)|(apply ACont_ret)|(apply ABlock_normal)|(apply ABlock_ret)|(apply W.condT; exact rfl)|(apply W.condF; exact rfl)|(refine W.gT _ _ rfl rfl (fun hb => ?_) (fun hb => ?_) <;> ((try simp only [hb, Bool.not_true, Bool.not_false]) <;> (try simp only [decide_eq_true_eq, decide_eq_false_iff_not, Bool.not_eq_true', Bool.not_eq_false', Int.not_lt, Int.not_le, List.length_map, not_true_eq_false] at hb) <;> (try (exfalso; omega))))
  | (refine W.cond _ rfl (fun hb => ?_) (fun hb => ?_) <;> ((try simp only [hb, Bool.not_true, Bool.not_false]) <;> (try simp only [decide_eq_true_eq, decide_eq_false_iff_not, Bool.not_eq_true', Bool.not_eq_false', Int.not_lt, Int.not_le, List.length_map, not_true_eq_false] at hb) <;> (try (exfalso; omega))))))
    (all_goals (try (exfalso; exact absurd ((‹hv[k] = true› : hv[k] = true).symm.trans (‹hv[k] = false› : hv[k] = false)) (by decide))))
    all_goals exact ⟨.inl rfl, [], trivial, AVle.of_eq rfl, rfl⟩
theorem A_allErr {M D q : Nat} {ps : List (List Nat)} {hv : List Bool} (h : CodeOk M D ps) (hl : hv.length = D + ps.length) (hq : q < hv.length) (hqb : hv.getD q false = false) (hqn : planN M D ps hv q = none) (hall : ∀ k, k < q → hv.getD k false = false → (planN M D ps hv k).isSome = true) :
    ACalls Tryz.prog 16 [cdN M D ps, bools hv] [] (.tup [plsA [], iV 11]) [] := by
  have h1 := h.d
  have h2 := h.w
  have hfit := A_fits (M := M) (D := D) (hv := hv) (code_in h)
  have hpl : (toZ ps).length = ps.length := List.length_map _
  rw [valid_ok h, hpl, decide_eq_true (show (hv.length : Int) = D + (ps.length : Int) by omega), ← cdN_A] at hfit
  have hmis := A_missing0 (hv := hv)
  have hplan := fun k (hk : k < D + ps.length) => A_plan (u := k) h hl hk
  have hplq := hplan q (by omega)
  rw [hqn] at hplq
  unfold planA at hplq
  dsimp only at hplq
  have hs := fun k => Lib.hid (plansTo_succ M D ps hv k)
  have hle := plansTo_le M D ps hv
  have hP0 : plansTo M D ps hv 0 = [] := rfl
  generalize hPN : planN M D ps hv = PN at *
  generalize plansTo M D ps hv = PL at *
  refine acalls_of_body Tryz.func16 rfl (Nat.le_of_ble_eq_true rfl) ?_
  (repeat' (first
  | (apply W.qd; (first
    | (apply (q_callC (hfit)); exact rfl; exact rfl; kernel_rfl; kernel_rfl; kernel_rfl)|(apply q_ld_box; exact rfl; exact rfl; exact rfl; exact rfl)|(apply q_ld_boxF; exact rfl; exact rfl; exact rfl; exact rfl)
    | (apply q_not; exact rfl)))
  | (apply W.ed; (first
    | (apply e_boxF; exact rfl; exact rfl; exact rfl; kernel_rfl; kernel_rfl)
    | (apply e_allocF; exact rfl; exact rfl; exact rfl; kernel_rfl)))|(apply AWP.seq)|(apply ACont_normal)|(apply (W.regionS 4); exact rfl; kernel_rfl)|(apply Walk.nil)|(apply AWP.skip)
  | (apply W.condF; exact rfl)))
  refine AWP.nilBox (l' := [.osl 5 0 0 0]) 4 0 2 30 rfl rfl (by omega) rfl rfl rfl rfl ?_
  (repeat' (first
  | (apply W.qd; (apply q_ld_box; exact rfl; exact rfl; exact rfl; exact rfl))|(apply W.ed; (apply (e_callJ (js := []) (hmis)); exact rfl; exact rfl; exact rfl; exact rfl; exact rfl; kernel_rfl; kernel_rfl))|(apply ACont_normal)|(apply W.region; kernel_rfl)|(apply Walk.nil)
  | (apply AWP.block)))
  refine AWP.wk ⟨[(15, .fn 65 [.opt 6 0]), (2, .opt 0 0), (3, .opt 1 0), (4, .opt 2 0), (5, .opt 3 0), (6, .opt 4 0)], [.box [.d .any, iV M, iV D, rowsN ps, .d .any], .box [bools hv], .box [.d (.v (.slice none 0 0))], .box [iV 0], .box [.osl 5 (PL 0).length 0 (PL 0).length], .row (PL 0).length 2 30 ((PL 0).map plD), .box [bools hv]]⟩ (by rw [hP0]; exact ⟨[0, 1, 2, 3, 4, 5, 6], rfl, rfl, rfl, by (repeat (first | exact trivial | refine ⟨rfl, ?_⟩))⟩) ?_
  refine AWP.range (s2 := ⟨[(4, .opt 2 0), (5, .opt 3 0)], [.box [.d .any, iV M, iV D, rowsN ps, .d .any], .box [bools hv], .box [.d (.v (.slice none 0 0))], .box [iV 11]]⟩) (ownE := [.box [.d .any, iV M, iV D, rowsN ps, .d .any], .box [bools hv], .box [.d (.v (.slice none 0 0))], .box [iV 11], .box [.osl 5 (PL q).length 0 (PL q).length], .row (PL q).length 2 30 ((PL q).map plD), .box [bools hv], .lp .done (some .ret) _ _ _ (tmpsOf [(15, .fn 65 [.opt 6 0]), (2, .opt 0 0), (3, .opt 1 0), (4, .opt 2 0), (5, .opt 3 0), (6, .opt 4 0)] Tryz.f16.ntmps)]) rfl (by kernel_rfl) (A_missStop (q := q) (e4 := fun k => .box [.osl 5 (PL k).length 0 (PL k).length]) (e5 := fun k => .row (PL k).length 2 30 ((PL k).map plD)) (by omega) hq hqb (fun k hk hb => ?_) (fun k hk hb => ?_) ?_) rfl (by decide) ⟨[0, 1, 2, 3], rfl, rfl, rfl, by (repeat (first | exact trivial | refine ⟨rfl, ?_⟩))⟩ ?_
  · have e := (hs k).out
    rw [if_pos hb] at e
    rw [e]
    exact ⟨rfl, rfl⟩
  · have hk2 := hplan k (by omega)
    obtain ⟨l, hl2⟩ := Option.isSome_iff_exists.1 (hall k hk hb)
    have hs2 : PL (k + 1) = PL k ++ [(k, l)] := by rw [(hs k).out, if_neg (by rw [hb]; simp), hl2]; rfl
    have hle2 := hle k
    rw [hl2] at hk2
    have e9 : (PL k ++ [(k, l)]).length = (PL k).length + 1 := by simp
    refine YAt.ok (own1 := [.box [.d .any, iV M, iV D, rowsN ps, .d .any], .box [bools hv], .box [.d (.v (.slice none 0 0))], .box [iV 0], .box [.osl 5 ((PL k).length + 1) 0 (PL k ++ [(k, l)]).length], .row ((PL k).length + 1) 2 30 ((PL k ++ [(k, l)]).map plD), .box [bools hv], .lp .busy none #[16] _ _ _]) (s2 := ⟨[(7, iV k), (2, .opt 0 0), (3, .opt 1 0), (4, .opt 2 0), (5, .opt 3 0), (6, .opt 4 0)], _⟩) rfl rfl rfl rfl (fun g => ?_) rfl (fun g => ?_) rfl (by rw [hs2, e9]; rfl)
    · refine AWP.toW ?_
      (repeat' (first
  | (apply W.qd; (apply q_as; (first|exact vD|exact vO|exact vP|exact vA|exact vF|exact vR|exact vN|exact vY|exact vT|exact vX)))|(apply W.region; kernel_rfl)
  | (apply Walk.nil)))
      exact ⟨rfl, ⟨[0, 1, 2, 3, 4, 5, 6, 7], rfl, rfl, rfl, by (repeat (first | exact trivial | refine ⟨rfl, ?_⟩))⟩⟩
    · refine AWP.toO ?_
      generalize PL k = A at *
      unfold planA at hk2
      dsimp only at hk2
      (repeat' (first
  | (apply W.qd; (first
    | (apply (q_callC (hk2)); exact rfl; exact rfl; kernel_rfl; kernel_rfl; kernel_rfl)|(apply q_mv; (first|exact vD|exact vO|exact vP|exact vA|exact vF|exact vR|exact vN|exact vY|exact vT|exact vX))|(apply q_as; (first|exact vD|exact vO|exact vP|exact vA|exact vF|exact vR|exact vN|exact vY|exact vT|exact vX))|(apply q_ld_box; exact rfl; exact rfl; exact rfl; exact rfl)|(apply q_ld_boxF; exact rfl; exact rfl; exact rfl; exact rfl)|(apply q_neq; exact rfl; exact rfl)|(apply q_extract; exact rfl; exact rfl)
    | (apply q_litF; exact rfl; exact rfl; exact rfl; exact rfl; exact rfl; kernel_rfl; kernel_rfl; exact rfl)))
  | (apply W.ed; (first
    | ((apply (e_app1F (f := plD) (k, l)); exact rfl; exact rfl; exact rfl; exact rfl; exact rfl; exact rfl; exact rfl; exact rfl; omega))
    | (apply e_allocF; exact rfl; exact rfl; exact rfl; kernel_rfl)))|(apply W.ln; (apply l_st_box; exact rfl; exact rfl; exact rfl; exact rfl; exact rfl; exact rfl; kernel_rfl; kernel_rfl; kernel_rfl))|(apply AWP.seq)|(apply ACont_normal)|(apply W.region; kernel_rfl)|(apply Walk.nil)|(apply AWP.block)|(apply AWP.skip)|(apply ABlock_normal)
  | (apply W.condF; exact rfl)))
      exact ⟨rfl, ⟨[0, 1, 2, 3, 4, 5, 6, 7], rfl, rfl, rfl, by (repeat (first | exact trivial | refine ⟨rfl, ?_⟩))⟩⟩
  · refine YAt.ret (own1 := [.box [.d .any, iV M, iV D, rowsN ps, .d .any], .box [bools hv], .box [.d (.v (.slice none 0 0))], .box [iV 11], .box [.osl 5 (PL q).length 0 (PL q).length], .row (PL q).length 2 30 ((PL q).map plD), .box [bools hv], .lp .busy none #[16] _ _ _]) (s2 := ⟨[(7, iV q), (2, .opt 0 0), (3, .opt 1 0), (4, .opt 2 0), (5, .opt 3 0), (6, .opt 4 0)], _⟩) rfl rfl rfl rfl (fun g => ?_) rfl (fun g => ?_) rfl rfl
    · refine AWP.toW ?_
      (repeat' (first
  | (apply W.qd; (apply q_as; (first|exact vD|exact vO|exact vP|exact vA|exact vF|exact vR|exact vN|exact vY|exact vT|exact vX)))|(apply W.region; kernel_rfl)
  | (apply Walk.nil)))
      exact ⟨rfl, ⟨[0, 1, 2, 3, 4, 5, 6, 7], rfl, rfl, rfl, by (repeat (first | exact trivial | refine ⟨rfl, ?_⟩))⟩⟩
    · refine AWP.toE ?_
      generalize PL q = A at *
      (repeat' (first
  | (apply W.qd; (first
    | (apply (q_callC (hplq)); exact rfl; exact rfl; kernel_rfl; kernel_rfl; kernel_rfl)|(apply q_mv; (first|exact vD|exact vO|exact vP|exact vA|exact vF|exact vR|exact vN|exact vY|exact vT|exact vX))|(apply q_as; (first|exact vD|exact vO|exact vP|exact vA|exact vF|exact vR|exact vN|exact vY|exact vT|exact vX))|(apply q_ld_box; exact rfl; exact rfl; exact rfl; exact rfl)|(apply q_ld_boxF; exact rfl; exact rfl; exact rfl; exact rfl)|(apply q_neq; exact rfl; exact rfl)
    | (apply q_extract; exact rfl; exact rfl)))|(apply W.ed; (apply e_allocF; exact rfl; exact rfl; exact rfl; kernel_rfl))|(apply W.ln; (apply l_st_box; exact rfl; exact rfl; exact rfl; exact rfl; exact rfl; exact rfl; kernel_rfl; kernel_rfl; kernel_rfl))|(apply AWP.seq)|(apply ACont_normal)|(apply W.region; kernel_rfl)|(apply Walk.nil)|(apply AWP.block)|(apply AWP.ret)|(apply ACont_ret)|(apply ABlock_ret)
  | (apply W.condT; exact rfl)))
      exact ⟨rfl, ⟨[0, 1, 2, 3, 4, 5, 6, 7], rfl, rfl, rfl, by (repeat (first | exact trivial | refine ⟨rfl, ?_⟩))⟩⟩
  dsimp only
  (repeat' (first
  | (apply AWP.ret)|(apply ACont_ret)
  | (apply ABlock_ret)))
  exact ⟨.inl rfl, [], [.d (.v (.slice none 0 0)), iV 11], rfl, ⟨⟨2, [.d (.v (.slice none 0 0))], false, rfl, rfl, rfl, rfl⟩, ⟨3, [iV 11], false, rfl, rfl, rfl, rfl⟩, trivial⟩, AVle.tup2 (AVle.nil 2) (AVle.refl _), rfl⟩
theorem A_all_bad {M D : Int} {par : List (List Int)} {hv : List Bool} (hp : CodeIn par) (h : ¬ (validC M D par = true ∧ (hv.length : Int) = D + (par.length : Int))) : ACalls Tryz.prog 16 [cdA M D par, bools hv] [] (.tup [plsA [], iV 1]) [] := by
  refine acalls_of_body Tryz.func16 rfl (Nat.le_of_ble_eq_true rfl) ?_
  have h0 := A_fits (M := M) (D := D) (hv := hv) hp
  have e : (validC M D par && decide ((hv.length : Int) = D + (par.length : Int))) = false := by
    rw [Bool.eq_false_iff]
    intro e
    rw [Bool.and_eq_true, decide_eq_true_eq] at e
    exact h e
  rw [e] at h0
  (repeat' (first
  | (apply W.qd; (first
    | (apply (q_callC (h0)); exact rfl; exact rfl; kernel_rfl; kernel_rfl; kernel_rfl)|(apply q_ld_box; exact rfl; exact rfl; exact rfl; exact rfl)|(apply q_ld_boxF; exact rfl; exact rfl; exact rfl; exact rfl)
    | (apply q_not; exact rfl)))
  | (apply W.ed; (first
    | (apply e_boxF; exact rfl; exact rfl; exact rfl; kernel_rfl; kernel_rfl)
    | (apply e_allocF; exact rfl; exact rfl; exact rfl; kernel_rfl)))|(apply W.ln; (apply l_st_box; exact rfl; exact rfl; exact rfl; exact rfl; exact rfl; exact rfl; kernel_rfl; kernel_rfl; kernel_rfl))|(apply AWP.seq)|(apply ACont_normal)|(apply W.region; kernel_rfl)|(apply Walk.nil)|(apply AWP.ret)|(apply ACont_ret)
  | (apply W.condT; exact rfl)))
  all_goals exact ⟨.inl rfl, [], [.d (.v (.slice none 0 0)), iV 1], rfl, ⟨⟨2, [.d (.v (.slice none 0 0))], false, rfl, rfl, rfl, rfl⟩, ⟨3, [iV 1], false, rfl, rfl, rfl, rfl⟩, trivial⟩, AVle.tup2 (AVle.nil 2) (AVle.refl _), rfl⟩
theorem all2R {M D : Int} {par : List (List Int)} {hv : List Bool} (hp : CodeIn par) (hD : D ≤ 1000000) (hP : par.length ≤ 1000000) : ∃ (L : List (Nat × List (Nat × Nat))) (e : Int), L.length ≤ 1000 ∧ (∀ p ∈ L, p.2.length ≤ 1000) ∧ ACalls Tryz.prog 16 [cdA M D par, bools hv] [] (.tup [plsA L, iV e]) [] ∧ ACalls Tryz.prog 17 [cdA M D par, bools hv] [] (.tup [plsA L, iV e]) [] := by
  by_cases hg : validC M D par = true ∧ (hv.length : Int) = D + (par.length : Int)
  · obtain ⟨g2, g3⟩ := hg
    obtain ⟨m, d, ps, rfl, rfl, rfl, hok⟩ := ok_valid g2
    have hpl : (toZ ps).length = ps.length := List.length_map _
    rw [hpl] at g3
    have hl : hv.length = d + ps.length := by omega
    have hwd := hok.w
    obtain ⟨q, q1, q2, q3⟩ := first_bad m d ps hv
    have h2 := A_r10all hok hl q1 q2 q3
    unfold allA at h2
    by_cases hq : q < hv.length
    · rw [if_pos hq] at h2
      have h1 := A_allErr hok hl hq (q3 hq).1 (q3 hq).2 q2
      rw [cdN_A] at h1 h2
      exact ⟨[], 11, Nat.zero_le _, fun p hp => by simp at hp, h1, h2⟩
    · rw [if_neg hq] at h2
      have h1 := A_allP hok hl fun k hk hb => q2 k (by omega) hb
      rw [cdN_A] at h1 h2
      refine ⟨_, 0, ?_, fun p hp => ?_, h1, h2⟩
      · have := plansTo_le m d ps hv hv.length; omega
      · unfold plansTo at hp
        obtain ⟨k, hk, rfl⟩ := List.mem_map.1 hp
        have hk2 := List.mem_range.1 (List.mem_filter.1 hk).1
        cases hc : planN m d ps hv k with
        | none => simp
        | some l =>
          have := (plan_le hok hl (by omega) hc).1
          show l.length ≤ 1000
          omega
  · exact ⟨[], 1, Nat.zero_le _, fun p hp => by simp at hp, A_all_bad hp hg, A_r10all_bad hD hP hg⟩
theorem A_allMatches {M D : Int} {par : List (List Int)} {hv : List Bool} (hpar : ∀ r ∈ par, ∀ x ∈ r, x < 9223372036854775808) :
    ACalls Tryz.prog 4 [cdA M D par, bools hv] [] (bV true) [] := by
  refine acalls_of_body Tryz.func4 rfl (Nat.le_of_ble_eq_true rfl) ?_
  have hca : CodeIn par := ⟨hpar⟩
  have hsan := A_sanity10
  have hsm := A_small (M := M) (D := D) (par := par)
  cases hS : smallB D par <;> rw [hS] at hsm
  · (repeat' (first
  | (apply W.qd; (first
    | (apply (q_callC (hsan)); exact rfl; exact rfl; kernel_rfl; kernel_rfl; kernel_rfl)|(apply (q_callC (hsm)); exact rfl; exact rfl; kernel_rfl; kernel_rfl; kernel_rfl)|(apply q_as; (first|exact vD|exact vO|exact vP|exact vA|exact vF|exact vR|exact vN|exact vY|exact vT|exact vX))|(apply q_ld_boxF; exact rfl; exact rfl; exact rfl; exact rfl)
    | (apply q_not; exact rfl)))|(apply W.ed; (apply e_boxF; exact rfl; exact rfl; exact rfl; kernel_rfl; kernel_rfl))|(apply AWP.seq)|(apply ACont_normal)|(apply W.region; kernel_rfl)|(apply Walk.nil)|(apply AWP.ret)|(apply ACont_ret)
  | (apply W.condT; exact rfl)))
    all_goals exact Ends.b rfl rfl
  · unfold smallB at hS
    simp only [Bool.and_eq_true, decide_eq_true_eq, List.all_eq_true] at hS
    obtain ⟨L, e, l1, l2, p1, p2⟩ := all2R (M := M) (D := D) (hv := hv) hca (by omega) (by omega)
    have hmL : (L.map plD).length = L.length := List.length_map _
    have hsx := fun k (h : k < L.length) => same_plan (w := L[k].1) (l := L[k].2) (by have := l2 _ (List.getElem_mem h); omega)
    (repeat' (first
  | (apply W.gOn; exact rfl; exact rfl)
  | (apply W.qd; (first
    | (apply (q_callC (hsm)); exact rfl; exact rfl; kernel_rfl; kernel_rfl; kernel_rfl)|(apply (q_callC (p1)); exact rfl; exact rfl; kernel_rfl; kernel_rfl; kernel_rfl)|(apply (q_callC (p2)); exact rfl; exact rfl; kernel_rfl; kernel_rfl; kernel_rfl)|(apply q_mv; (first|exact vD|exact vO|exact vP|exact vA|exact vF|exact vR|exact vN|exact vY|exact vT|exact vX))|(apply q_as; (first|exact vD|exact vO|exact vP|exact vA|exact vF|exact vR|exact vN|exact vY|exact vT|exact vX))|(apply q_ld_boxF; exact rfl; exact rfl; exact rfl; exact rfl)|(apply q_neq; exact rfl; exact rfl)|(apply q_not; exact rfl)|(apply q_extract; exact rfl; exact rfl)|(apply q_len_sl; exact rfl; exact rfl)
    | (apply (q_pickF (u := .d _)); exact rfl; exact rfl)))|(apply W.ed; (apply e_boxF; exact rfl; exact rfl; exact rfl; kernel_rfl; kernel_rfl))|(apply AWP.seq)|(apply ACont_normal)|(apply (W.regionS 7); exact rfl; kernel_rfl)|(apply Walk.nil)|(apply AWP.skip)|(apply W.condF; exact rfl)|(refine W.gF _ _ rfl rfl (fun hb => ?_) (fun hb => ?_) <;> ((try simp only [hb, Bool.not_true, Bool.not_false]) <;> (try simp only [decide_eq_true_eq, decide_eq_false_iff_not, Bool.not_eq_true', Bool.not_eq_false', Int.not_lt, Int.not_le, List.length_map, not_true_eq_false] at hb) <;> (try (exfalso; omega))))
  | (refine W.cond _ rfl (fun hb => ?_) (fun hb => ?_) <;> ((try simp only [hb, Bool.not_true, Bool.not_false]) <;> (try simp only [decide_eq_true_eq, decide_eq_false_iff_not, Bool.not_eq_true', Bool.not_eq_false', Int.not_lt, Int.not_le, List.length_map, not_true_eq_false] at hb) <;> (try (exfalso; omega))))))
    (repeat' (first
  | (apply W.qd; (first
    | (apply q_mv; (first|exact vD|exact vO|exact vP|exact vA|exact vF|exact vR|exact vN|exact vY|exact vT|exact vX))
    | (apply q_len_sl; exact rfl; exact rfl)))|(apply ACont_normal)|(apply (W.regionS 8); exact rfl; kernel_rfl)|(apply Walk.nil)
  | (apply AWP.block)))
    refine AWP.loopW (α := Nat) (fun k => k ≤ L.length) (fun k => ⟨[(38, iV k), (37, iV L.length), (5, plsA L), (7, plsA L)], []⟩) (fun k => L.length - k) 0 (Nat.zero_le _) ⟨[], rfl, rfl, rfl, rfl, iV_eq (by rw [hmL]), rfl, rfl, trivial⟩ fun k hk => ?_
    by_cases hkX : k < L.length
    · have h3 := hsx k hkX
      (repeat' (first
  | (apply W.qd; (first
    | (apply (q_callC (h3)); exact rfl; exact rfl; kernel_rfl; kernel_rfl; kernel_rfl)|(apply q_mv; (first|exact vD|exact vO|exact vP|exact vA|exact vF|exact vR|exact vN|exact vY|exact vT|exact vX))|(apply q_as; (first|exact vD|exact vO|exact vP|exact vA|exact vF|exact vR|exact vN|exact vY|exact vT|exact vX))|(apply q_lss; exact rfl; exact rfl)|(apply q_not; exact rfl)|(apply q_add; exact rfl; exact rfl; omega)|(apply q_ld_maps; exact rfl; exact rfl; exact rfl; (first | omega | (focus (simp; done))))
    | (apply q_ix_slF; exact rfl; exact rfl; exact rfl; exact rfl; (first | (with_reducible exact rfl) | exact natI_spec rfl | assumption | exact (Int.toNat_of_nonneg (by omega)).symm); (first | omega | (focus (simp only [List.length_map]; omega)) | (focus (simp; done)) | (focus (simp; omega))))))|(apply AWP.seq)|(apply ACont_normal)|(apply W.region; kernel_rfl)|(apply W.regionD; exact rfl; kernel_rfl)|(apply Walk.nil)|(apply W.chk; kernel_rfl)|(apply AWP.block)|(apply AWP.skip)|(apply ABlock_normal)|(apply W.condF; exact rfl)
  | (refine W.cond _ rfl (fun hb => ?_) (fun hb => ?_) <;> ((try simp only [hb, Bool.not_true, Bool.not_false]) <;> (try simp only [decide_eq_true_eq, decide_eq_false_iff_not, Bool.not_eq_true', Bool.not_eq_false', Int.not_lt, Int.not_le, List.length_map, not_true_eq_false] at hb) <;> (try (exfalso; omega))))))
      exact ⟨k + 1, by omega, by omega, [], rfl, rfl, rfl, iV_eq (by omega), rfl, rfl, rfl, trivial⟩
    · (repeat' (first
  | (apply W.qd; (first
    | (apply (q_callC (hsan)); exact rfl; exact rfl; kernel_rfl; kernel_rfl; kernel_rfl)|(apply q_as; (first|exact vD|exact vO|exact vP|exact vA|exact vF|exact vR|exact vN|exact vY|exact vT|exact vX))
    | (apply q_lss; exact rfl; exact rfl)))|(apply AWP.seq)|(apply ACont_normal)|(apply W.region; kernel_rfl)|(apply Walk.nil)|(apply AWP.exit)|(apply AWP.ret)|(apply ACont_exit)|(apply ABlock_exit)
  | (refine W.cond _ rfl (fun hb => ?_) (fun hb => ?_) <;> ((try simp only [hb, Bool.not_true, Bool.not_false]) <;> (try simp only [decide_eq_true_eq, decide_eq_false_iff_not, Bool.not_eq_true', Bool.not_eq_false', Int.not_lt, Int.not_le, List.length_map, not_true_eq_false] at hb) <;> (try (exfalso; omega))))))
      all_goals exact Ends.b rfl rfl
end Go.Proofs.YtilpljehfcpjeaaGreatDoor
end
