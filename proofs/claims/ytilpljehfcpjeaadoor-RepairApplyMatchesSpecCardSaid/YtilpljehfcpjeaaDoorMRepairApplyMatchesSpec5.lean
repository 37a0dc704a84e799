import Derived.Test.YtilpljehfcpjeaaDoorMRepairApplyMatchesSpec4
/- Joined texts: Rf0 La1 La2 La3 La4 La5 La6 La7 Rf1 Rf2 Fd9 Rp1 Rp2 Rp3. -/
section
/- The reference of layer 8: Small, Few. -/
namespace Go.Proofs.YtilpljehfcpjeaaDoor
open Go.RowKit
set_option linter.unusedVariables false
set_option linter.unusedSimpArgs false
set_option linter.unusedSectionVars false
set_option maxHeartbeats 4000000
set_option maxRecDepth 100000

theorem ACalls.le {P : Program} {f : FuncId} {args args' : List AV} {r : AV} {own own' : List Ent} (h : ACalls P f args own r own') (hle : ∀ F κ w vs, AV.satL F own κ w args' vs → AV.satL F own κ w args vs) : ACalls P f args' own r own' := fun F κ w vs ho hsat => h F κ w vs ho (hle F κ w vs hsat)
attribute [local irreducible] Quiet Eff OpOk AWPG ACont ABlock ACalls AGoto
def smallB (D : Int) (par : List (List Int)) : Bool := decide (D ≤ 12) && (decide (par.length ≤ 8) && par.all fun r => decide (r.length ≤ 12))
theorem A_small {M D : Int} {par : List (List Int)} : ACalls Tryd.prog 7 [cdA M D par] [] (bV (smallB D par)) [] := by
  refine acalls_of_bodyO Tryd.func7 rfl (Nat.le_of_ble_eq_true rfl) ?_
  have hmp : (par.map rD).length = par.length := List.length_map _
  by_cases hD : D ≤ 12
  · by_cases hP : par.length ≤ 8
    · unfold smallB
      rw [decide_eq_true hD, decide_eq_true hP]
      (repeat' (first
  | (apply W.gOn; exact rfl; exact rfl)
  | (apply W.qd; (first
    | (apply q_mv; (first
    | exact Eq.refl (AV.d _)
    | exact Eq.refl (AV.osl _ _ _ _)
    | exact Eq.refl (AV.opt _ _)
    | exact Eq.refl (AV.agg _)
    | exact Eq.refl (AV.fpt _ _ _ _)
    | exact Eq.refl (AV.rpt _ _ _ _)
    | exact Eq.refl (AV.fn _ _)
    | exact Eq.refl (AV.yl _)
    | exact Eq.refl (AV.tup _)
    | exact Eq.refl AV.top))
    | (apply q_as; (first
    | exact Eq.refl (AV.d _)
    | exact Eq.refl (AV.osl _ _ _ _)
    | exact Eq.refl (AV.opt _ _)
    | exact Eq.refl (AV.agg _)
    | exact Eq.refl (AV.fpt _ _ _ _)
    | exact Eq.refl (AV.rpt _ _ _ _)
    | exact Eq.refl (AV.fn _ _)
    | exact Eq.refl (AV.yl _)
    | exact Eq.refl (AV.tup _)
    | exact Eq.refl AV.top))
    | (apply q_fld_optF; exact rfl; exact rfl; exact rfl)
    | (apply q_ld_box; exact rfl; exact rfl; exact rfl; exact rfl)
    | (apply q_gtr; exact rfl; exact rfl)
    | (apply q_len_sl; exact rfl; exact rfl)
    | (apply (q_pickF (u := .d _)); exact rfl; exact rfl)))
  | (apply W.ed; (apply e_boxF; exact rfl; exact rfl; exact rfl; kernel_rfl; kernel_rfl))
  | (apply AWP.seq)
  | (apply ACont_normal)
  | (apply W.region; kernel_rfl)
  | (apply Walk.nil)
  | (apply AWP.block)
  | (apply AWP.skip)
  | (refine W.gF _ _ rfl rfl (fun hb => ?_) (fun hb => ?_) <;> ((try simp only [hb, Bool.not_true, Bool.not_false]) <;> (try simp only [decide_eq_true_eq, decide_eq_false_iff_not, Bool.not_eq_true', Bool.not_eq_false', Int.not_lt, Int.not_le, List.length_map, not_true_eq_false] at hb) <;> (try (exfalso; omega))))
  | (refine W.cond _ rfl (fun hb => ?_) (fun hb => ?_) <;> ((try simp only [hb, Bool.not_true, Bool.not_false]) <;> (try simp only [decide_eq_true_eq, decide_eq_false_iff_not, Bool.not_eq_true', Bool.not_eq_false', Int.not_lt, Int.not_le, List.length_map, not_true_eq_false] at hb) <;> (try (exfalso; omega))))))
      refine AWP.loopW (α := Nat) (fun k => k ≤ par.length ∧ ∀ r ∈ par.take k, r.length ≤ 12) (fun k => ⟨[(3, iV k), (1, .opt 0 0)], [.box [.d .any, iV M, iV D, rowsA par, .d .any]]⟩) (fun k => par.length - k) 0 ⟨by omega, by simp⟩ ⟨[0], rfl, rfl, rfl, by (repeat (first | exact trivial | refine ⟨rfl, ?_⟩))⟩ fun k hk => ?_
      by_cases hkl : k < par.length
      · (repeat' (first
  | (apply W.qd; (first
    | (apply q_mv; (first
    | exact Eq.refl (AV.d _)
    | exact Eq.refl (AV.osl _ _ _ _)
    | exact Eq.refl (AV.opt _ _)
    | exact Eq.refl (AV.agg _)
    | exact Eq.refl (AV.fpt _ _ _ _)
    | exact Eq.refl (AV.rpt _ _ _ _)
    | exact Eq.refl (AV.fn _ _)
    | exact Eq.refl (AV.yl _)
    | exact Eq.refl (AV.tup _)
    | exact Eq.refl AV.top))
    | (apply q_as; (first
    | exact Eq.refl (AV.d _)
    | exact Eq.refl (AV.osl _ _ _ _)
    | exact Eq.refl (AV.opt _ _)
    | exact Eq.refl (AV.agg _)
    | exact Eq.refl (AV.fpt _ _ _ _)
    | exact Eq.refl (AV.rpt _ _ _ _)
    | exact Eq.refl (AV.fn _ _)
    | exact Eq.refl (AV.yl _)
    | exact Eq.refl (AV.tup _)
    | exact Eq.refl AV.top))
    | (apply q_fld_optF; exact rfl; exact rfl; exact rfl)
    | (apply q_ld_box; exact rfl; exact rfl; exact rfl; exact rfl)
    | (apply q_lss; exact rfl; exact rfl)
    | (apply q_gtr; exact rfl; exact rfl)
    | (apply q_add; exact rfl; exact rfl; omega)
    | (apply q_len_sl; exact rfl; exact rfl)
    | (apply q_ld_map; exact rfl; exact rfl; exact rfl; (first | omega | (focus (simp; done))))
    | (apply q_ix_slF; exact rfl; exact rfl; exact rfl; exact rfl; (first | (with_reducible exact rfl) | exact natI_spec rfl | assumption | exact (Int.toNat_of_nonneg (by omega)).symm); (first | omega | (focus (simp only [List.length_map]; omega)) | (focus (simp; done)) | (focus (simp; omega))))))
  | (apply AWP.seq)
  | (apply ACont_normal)
  | (apply W.region; kernel_rfl)
  | (apply Walk.nil)
  | (apply AWP.block)
  | (apply AWP.skip)
  | (apply AWP.ret)
  | (apply ACont_ret)
  | (apply ABlock_normal)
  | (apply ABlock_ret)
  | (refine W.cond _ rfl (fun hb => ?_) (fun hb => ?_) <;> ((try simp only [hb, Bool.not_true, Bool.not_false]) <;> (try simp only [decide_eq_true_eq, decide_eq_false_iff_not, Bool.not_eq_true', Bool.not_eq_false', Int.not_lt, Int.not_le, List.length_map, not_true_eq_false] at hb) <;> (try (exfalso; omega))))))
        · have e : par.all (fun r => decide (r.length ≤ 12)) = false := by
            rw [List.all_eq_false]
            exact ⟨par[k], List.getElem_mem _, by simp; omega⟩
          rw [e]
          exact ⟨.inl rfl, [], [bV false], rfl, rfl, ⟨rfl, trivial⟩, AVle.of_eq rfl, rfl⟩
        · refine ⟨k + 1, ⟨by omega, fun r hr => ?_⟩, by omega, [0], rfl, rfl, rfl, iV_eq (by omega), rfl, trivial⟩
          rw [List.take_succ_eq_append_getElem hkl] at hr
          rcases List.mem_append.1 hr with hr | hr
          · exact hk.2 r hr
          · rw [List.mem_singleton.1 hr]; omega
      · have e : par.all (fun r => decide (r.length ≤ 12)) = true := by
          rw [List.all_eq_true]
          intro r hr
          rw [decide_eq_true_eq]
          exact hk.2 r (by rwa [List.take_of_length_le (by omega)])
        rw [e]
        (repeat' (first
  | (apply W.qd; (first
    | (apply q_mv; (first
    | exact Eq.refl (AV.d _)
    | exact Eq.refl (AV.osl _ _ _ _)
    | exact Eq.refl (AV.opt _ _)
    | exact Eq.refl (AV.agg _)
    | exact Eq.refl (AV.fpt _ _ _ _)
    | exact Eq.refl (AV.rpt _ _ _ _)
    | exact Eq.refl (AV.fn _ _)
    | exact Eq.refl (AV.yl _)
    | exact Eq.refl (AV.tup _)
    | exact Eq.refl AV.top))
    | (apply q_as; (first
    | exact Eq.refl (AV.d _)
    | exact Eq.refl (AV.osl _ _ _ _)
    | exact Eq.refl (AV.opt _ _)
    | exact Eq.refl (AV.agg _)
    | exact Eq.refl (AV.fpt _ _ _ _)
    | exact Eq.refl (AV.rpt _ _ _ _)
    | exact Eq.refl (AV.fn _ _)
    | exact Eq.refl (AV.yl _)
    | exact Eq.refl (AV.tup _)
    | exact Eq.refl AV.top))
    | (apply q_fld_optF; exact rfl; exact rfl; exact rfl)
    | (apply q_ld_box; exact rfl; exact rfl; exact rfl; exact rfl)
    | (apply q_lss; exact rfl; exact rfl)
    | (apply q_len_sl; exact rfl; exact rfl)))
  | (apply AWP.seq)
  | (apply ACont_normal)
  | (apply W.region; kernel_rfl)
  | (apply Walk.nil)
  | (apply AWP.exit)
  | (apply AWP.ret)
  | (apply ACont_exit)
  | (apply ABlock_exit)
  | (refine W.cond _ rfl (fun hb => ?_) (fun hb => ?_) <;> ((try simp only [hb, Bool.not_true, Bool.not_false]) <;> (try simp only [decide_eq_true_eq, decide_eq_false_iff_not, Bool.not_eq_true', Bool.not_eq_false', Int.not_lt, Int.not_le, List.length_map, not_true_eq_false] at hb) <;> (try (exfalso; omega))))))
        exact ⟨.inl rfl, [], [bV true], rfl, rfl, ⟨rfl, trivial⟩, AVle.of_eq rfl, rfl⟩
    · unfold smallB
      rw [decide_eq_true hD, decide_eq_false hP]
      (repeat' (first
  | (apply W.gOn; exact rfl; exact rfl)
  | (apply W.qd; (first
    | (apply q_mv; (first
    | exact Eq.refl (AV.d _)
    | exact Eq.refl (AV.osl _ _ _ _)
    | exact Eq.refl (AV.opt _ _)
    | exact Eq.refl (AV.agg _)
    | exact Eq.refl (AV.fpt _ _ _ _)
    | exact Eq.refl (AV.rpt _ _ _ _)
    | exact Eq.refl (AV.fn _ _)
    | exact Eq.refl (AV.yl _)
    | exact Eq.refl (AV.tup _)
    | exact Eq.refl AV.top))
    | (apply q_as; (first
    | exact Eq.refl (AV.d _)
    | exact Eq.refl (AV.osl _ _ _ _)
    | exact Eq.refl (AV.opt _ _)
    | exact Eq.refl (AV.agg _)
    | exact Eq.refl (AV.fpt _ _ _ _)
    | exact Eq.refl (AV.rpt _ _ _ _)
    | exact Eq.refl (AV.fn _ _)
    | exact Eq.refl (AV.yl _)
    | exact Eq.refl (AV.tup _)
    | exact Eq.refl AV.top))
    | (apply q_fld_optF; exact rfl; exact rfl; exact rfl)
    | (apply q_ld_box; exact rfl; exact rfl; exact rfl; exact rfl)
    | (apply q_gtr; exact rfl; exact rfl)
    | (apply q_len_sl; exact rfl; exact rfl)
    | (apply (q_pickF (u := .d _)); exact rfl; exact rfl)))
  | (apply W.ed; (apply e_boxF; exact rfl; exact rfl; exact rfl; kernel_rfl; kernel_rfl))
  | (apply AWP.seq)
  | (apply ACont_normal)
  | (apply W.region; kernel_rfl)
  | (apply Walk.nil)
  | (apply AWP.ret)
  | (apply ACont_ret)
  | (refine W.gF _ _ rfl rfl (fun hb => ?_) (fun hb => ?_) <;> ((try simp only [hb, Bool.not_true, Bool.not_false]) <;> (try simp only [decide_eq_true_eq, decide_eq_false_iff_not, Bool.not_eq_true', Bool.not_eq_false', Int.not_lt, Int.not_le, List.length_map, not_true_eq_false] at hb) <;> (try (exfalso; omega))))
  | (refine W.cond _ rfl (fun hb => ?_) (fun hb => ?_) <;> ((try simp only [hb, Bool.not_true, Bool.not_false]) <;> (try simp only [decide_eq_true_eq, decide_eq_false_iff_not, Bool.not_eq_true', Bool.not_eq_false', Int.not_lt, Int.not_le, List.length_map, not_true_eq_false] at hb) <;> (try (exfalso; omega))))))
      all_goals exact ⟨.inl rfl, [], [bV false], rfl, rfl, ⟨rfl, trivial⟩, AVle.of_eq rfl, rfl⟩
  · unfold smallB
    rw [decide_eq_false hD]
    (repeat' (first
  | (apply W.qd; (first
    | (apply q_mv; (first
    | exact Eq.refl (AV.d _)
    | exact Eq.refl (AV.osl _ _ _ _)
    | exact Eq.refl (AV.opt _ _)
    | exact Eq.refl (AV.agg _)
    | exact Eq.refl (AV.fpt _ _ _ _)
    | exact Eq.refl (AV.rpt _ _ _ _)
    | exact Eq.refl (AV.fn _ _)
    | exact Eq.refl (AV.yl _)
    | exact Eq.refl (AV.tup _)
    | exact Eq.refl AV.top))
    | (apply q_as; (first
    | exact Eq.refl (AV.d _)
    | exact Eq.refl (AV.osl _ _ _ _)
    | exact Eq.refl (AV.opt _ _)
    | exact Eq.refl (AV.agg _)
    | exact Eq.refl (AV.fpt _ _ _ _)
    | exact Eq.refl (AV.rpt _ _ _ _)
    | exact Eq.refl (AV.fn _ _)
    | exact Eq.refl (AV.yl _)
    | exact Eq.refl (AV.tup _)
    | exact Eq.refl AV.top))
    | (apply q_fld_optF; exact rfl; exact rfl; exact rfl)
    | (apply q_ld_box; exact rfl; exact rfl; exact rfl; exact rfl)
    | (apply q_gtr; exact rfl; exact rfl)
    | (apply (q_pickT (u := .d _)); exact rfl; exact rfl)))
  | (apply W.ed; (apply e_boxF; exact rfl; exact rfl; exact rfl; kernel_rfl; kernel_rfl))
  | (refine W.gOff _ _ rfl rfl (by intro h; cases h) ?_)
  | (apply AWP.seq)
  | (apply ACont_normal)
  | (apply W.region; kernel_rfl)
  | (apply Walk.nil)
  | (apply AWP.ret)
  | (apply ACont_ret)
  | (apply W.condT; exact rfl)
  | (refine W.gF _ _ rfl rfl (fun hb => ?_) (fun hb => ?_) <;> ((try simp only [hb, Bool.not_true, Bool.not_false]) <;> (try simp only [decide_eq_true_eq, decide_eq_false_iff_not, Bool.not_eq_true', Bool.not_eq_false', Int.not_lt, Int.not_le, List.length_map, not_true_eq_false] at hb) <;> (try (exfalso; omega))))))
    all_goals exact ⟨.inl rfl, [], [bV false], rfl, rfl, ⟨rfl, trivial⟩, AVle.of_eq rfl, rfl⟩
def fewB (us : List (List Nat)) : Bool := decide (us.length ≤ 24) && us.all fun u => decide (u.length ≤ 64)
theorem A_few {us : List (List Nat)} : ACalls Tryd.prog 8 [strs us] [] (bV (fewB us)) [] := by
  refine acalls_of_bodyO Tryd.func8 rfl (Nat.le_of_ble_eq_true rfl) ?_
  have hmp : (us.map sD).length = us.length := List.length_map _
  by_cases hP : us.length ≤ 24
  · unfold fewB
    rw [decide_eq_true hP]
    (repeat' (first
  | (apply W.qd; (first
    | (apply q_mv; (first
    | exact Eq.refl (AV.d _)
    | exact Eq.refl (AV.osl _ _ _ _)
    | exact Eq.refl (AV.opt _ _)
    | exact Eq.refl (AV.agg _)
    | exact Eq.refl (AV.fpt _ _ _ _)
    | exact Eq.refl (AV.rpt _ _ _ _)
    | exact Eq.refl (AV.fn _ _)
    | exact Eq.refl (AV.yl _)
    | exact Eq.refl (AV.tup _)
    | exact Eq.refl AV.top))
    | (apply q_as; (first
    | exact Eq.refl (AV.d _)
    | exact Eq.refl (AV.osl _ _ _ _)
    | exact Eq.refl (AV.opt _ _)
    | exact Eq.refl (AV.agg _)
    | exact Eq.refl (AV.fpt _ _ _ _)
    | exact Eq.refl (AV.rpt _ _ _ _)
    | exact Eq.refl (AV.fn _ _)
    | exact Eq.refl (AV.yl _)
    | exact Eq.refl (AV.tup _)
    | exact Eq.refl AV.top))
    | (apply q_gtr; exact rfl; exact rfl)
    | (apply q_len_sl; exact rfl; exact rfl)))
  | (apply AWP.seq)
  | (apply ACont_normal)
  | (apply W.region; kernel_rfl)
  | (apply Walk.nil)
  | (apply AWP.block)
  | (apply AWP.skip)
  | (refine W.cond _ rfl (fun hb => ?_) (fun hb => ?_) <;> ((try simp only [hb, Bool.not_true, Bool.not_false]) <;> (try simp only [decide_eq_true_eq, decide_eq_false_iff_not, Bool.not_eq_true', Bool.not_eq_false', Int.not_lt, Int.not_le, List.length_map, not_true_eq_false] at hb) <;> (try (exfalso; omega))))))
    refine AWP.loopW (α := Nat) (fun k => k ≤ us.length ∧ ∀ r ∈ us.take k, r.length ≤ 64) (fun k => ⟨[(3, iV k), (0, strs us)], []⟩) (fun k => us.length - k) 0 ⟨by omega, by simp⟩ ⟨[], rfl, rfl, rfl, by (repeat (first | exact trivial | refine ⟨rfl, ?_⟩))⟩ fun k hk => ?_
    by_cases hkl : k < us.length
    · (repeat' (first
  | (apply W.qd; (first
    | (apply q_mv; (first
    | exact Eq.refl (AV.d _)
    | exact Eq.refl (AV.osl _ _ _ _)
    | exact Eq.refl (AV.opt _ _)
    | exact Eq.refl (AV.agg _)
    | exact Eq.refl (AV.fpt _ _ _ _)
    | exact Eq.refl (AV.rpt _ _ _ _)
    | exact Eq.refl (AV.fn _ _)
    | exact Eq.refl (AV.yl _)
    | exact Eq.refl (AV.tup _)
    | exact Eq.refl AV.top))
    | (apply q_as; (first
    | exact Eq.refl (AV.d _)
    | exact Eq.refl (AV.osl _ _ _ _)
    | exact Eq.refl (AV.opt _ _)
    | exact Eq.refl (AV.agg _)
    | exact Eq.refl (AV.fpt _ _ _ _)
    | exact Eq.refl (AV.rpt _ _ _ _)
    | exact Eq.refl (AV.fn _ _)
    | exact Eq.refl (AV.yl _)
    | exact Eq.refl (AV.tup _)
    | exact Eq.refl AV.top))
    | (apply q_lss; exact rfl; exact rfl)
    | (apply q_gtr; exact rfl; exact rfl)
    | (apply q_add; exact rfl; exact rfl; omega)
    | (apply q_len_sl; exact rfl; exact rfl)
    | (apply q_len_bs; exact rfl; exact rfl)
    | (apply q_ld_map; exact rfl; exact rfl; exact rfl; (first | omega | (focus (simp; done))))
    | (apply q_ix_slF; exact rfl; exact rfl; exact rfl; exact rfl; (first | (with_reducible exact rfl) | exact natI_spec rfl | assumption | exact (Int.toNat_of_nonneg (by omega)).symm); (first | omega | (focus (simp only [List.length_map]; omega)) | (focus (simp; done)) | (focus (simp; omega))))))
  | (apply AWP.seq)
  | (apply ACont_normal)
  | (apply W.region; kernel_rfl)
  | (apply Walk.nil)
  | (apply AWP.block)
  | (apply AWP.skip)
  | (apply AWP.ret)
  | (apply ACont_ret)
  | (apply ABlock_normal)
  | (apply ABlock_ret)
  | (refine W.cond _ rfl (fun hb => ?_) (fun hb => ?_) <;> ((try simp only [hb, Bool.not_true, Bool.not_false]) <;> (try simp only [decide_eq_true_eq, decide_eq_false_iff_not, Bool.not_eq_true', Bool.not_eq_false', Int.not_lt, Int.not_le, List.length_map, not_true_eq_false] at hb) <;> (try (exfalso; omega))))))
      · have e : us.all (fun r => decide (r.length ≤ 64)) = false := by
          rw [List.all_eq_false]
          exact ⟨us[k], List.getElem_mem _, by simp; omega⟩
        rw [e]
        exact ⟨.inl rfl, [], [bV false], rfl, rfl, ⟨rfl, trivial⟩, AVle.of_eq rfl, rfl⟩
      · refine ⟨k + 1, ⟨by omega, fun r hr => ?_⟩, by omega, [], rfl, rfl, rfl, iV_eq (by omega), rfl, trivial⟩
        rw [List.take_succ_eq_append_getElem hkl] at hr
        rcases List.mem_append.1 hr with hr | hr
        · exact hk.2 r hr
        · rw [List.mem_singleton.1 hr]; omega
    · have e : us.all (fun r => decide (r.length ≤ 64)) = true := by
        rw [List.all_eq_true]
        intro r hr
        rw [decide_eq_true_eq]
        exact hk.2 r (by rwa [List.take_of_length_le (by omega)])
      rw [e]
      (repeat' (first
  | (apply W.qd; (first
    | (apply q_mv; (first
    | exact Eq.refl (AV.d _)
    | exact Eq.refl (AV.osl _ _ _ _)
    | exact Eq.refl (AV.opt _ _)
    | exact Eq.refl (AV.agg _)
    | exact Eq.refl (AV.fpt _ _ _ _)
    | exact Eq.refl (AV.rpt _ _ _ _)
    | exact Eq.refl (AV.fn _ _)
    | exact Eq.refl (AV.yl _)
    | exact Eq.refl (AV.tup _)
    | exact Eq.refl AV.top))
    | (apply q_as; (first
    | exact Eq.refl (AV.d _)
    | exact Eq.refl (AV.osl _ _ _ _)
    | exact Eq.refl (AV.opt _ _)
    | exact Eq.refl (AV.agg _)
    | exact Eq.refl (AV.fpt _ _ _ _)
    | exact Eq.refl (AV.rpt _ _ _ _)
    | exact Eq.refl (AV.fn _ _)
    | exact Eq.refl (AV.yl _)
    | exact Eq.refl (AV.tup _)
    | exact Eq.refl AV.top))
    | (apply q_lss; exact rfl; exact rfl)
    | (apply q_len_sl; exact rfl; exact rfl)))
  | (apply AWP.seq)
  | (apply ACont_normal)
  | (apply W.region; kernel_rfl)
  | (apply Walk.nil)
  | (apply AWP.exit)
  | (apply AWP.ret)
  | (apply ACont_exit)
  | (apply ABlock_exit)
  | (refine W.cond _ rfl (fun hb => ?_) (fun hb => ?_) <;> ((try simp only [hb, Bool.not_true, Bool.not_false]) <;> (try simp only [decide_eq_true_eq, decide_eq_false_iff_not, Bool.not_eq_true', Bool.not_eq_false', Int.not_lt, Int.not_le, List.length_map, not_true_eq_false] at hb) <;> (try (exfalso; omega))))))
      exact ⟨.inl rfl, [], [bV true], rfl, rfl, ⟨rfl, trivial⟩, AVle.of_eq rfl, rfl⟩
  · unfold fewB
    rw [decide_eq_false hP]
    (repeat' (first
  | (apply W.qd; (first
    | (apply q_mv; (first
    | exact Eq.refl (AV.d _)
    | exact Eq.refl (AV.osl _ _ _ _)
    | exact Eq.refl (AV.opt _ _)
    | exact Eq.refl (AV.agg _)
    | exact Eq.refl (AV.fpt _ _ _ _)
    | exact Eq.refl (AV.rpt _ _ _ _)
    | exact Eq.refl (AV.fn _ _)
    | exact Eq.refl (AV.yl _)
    | exact Eq.refl (AV.tup _)
    | exact Eq.refl AV.top))
    | (apply q_as; (first
    | exact Eq.refl (AV.d _)
    | exact Eq.refl (AV.osl _ _ _ _)
    | exact Eq.refl (AV.opt _ _)
    | exact Eq.refl (AV.agg _)
    | exact Eq.refl (AV.fpt _ _ _ _)
    | exact Eq.refl (AV.rpt _ _ _ _)
    | exact Eq.refl (AV.fn _ _)
    | exact Eq.refl (AV.yl _)
    | exact Eq.refl (AV.tup _)
    | exact Eq.refl AV.top))
    | (apply q_gtr; exact rfl; exact rfl)
    | (apply q_len_sl; exact rfl; exact rfl)))
  | (apply AWP.seq)
  | (apply ACont_normal)
  | (apply W.region; kernel_rfl)
  | (apply Walk.nil)
  | (apply AWP.ret)
  | (apply ACont_ret)
  | (refine W.cond _ rfl (fun hb => ?_) (fun hb => ?_) <;> ((try simp only [hb, Bool.not_true, Bool.not_false]) <;> (try simp only [decide_eq_true_eq, decide_eq_false_iff_not, Bool.not_eq_true', Bool.not_eq_false', Int.not_lt, Int.not_le, List.length_map, not_true_eq_false] at hb) <;> (try (exfalso; omega))))))
    all_goals exact ⟨.inl rfl, [], [bV false], rfl, rfl, ⟨rfl, trivial⟩, AVle.of_eq rfl, rfl⟩
end Go.Proofs.YtilpljehfcpjeaaDoor
end

section
/- Linear algebra over a field of 2^M elements: sums, spans. Plain. -/
namespace Go.Proofs.YtilpljehfcpjeaaDoor
open Go.RowKit
set_option linter.unusedVariables false
set_option linter.unusedSectionVars false

abbrev mu (M a b : Nat) : Nat := Gf.mul M (modN M) a b
section
variable {M : Nat} (hM : FldM M)
theorem mu_xor (a b c : Nat) : mu M a (b ^^^ c) = mu M a b ^^^ mu M a c := Gf.mul_xor a b c
theorem xor_mu (a b c : Nat) : mu M (a ^^^ b) c = mu M a c ^^^ mu M b c := Gf.xor_mul a b c
theorem mu_zero (a : Nat) : mu M a 0 = 0 := Gf.mul_zero a
theorem zero_mu (a : Nat) : mu M 0 a = 0 := Gf.zero_mul a
include hM
theorem mu_lt {a : Nat} (ha : a < 2 ^ M) (b : Nat) : mu M a b < 2 ^ M := Gf.mul_lt (FldM.gen hM).hm (FldM.gen hM).top (FldM.gen hM).lt ha b
theorem mu_one {a : Nat} (ha : a < 2 ^ M) : mu M a 1 = a := Gf.mul_one (FldM.gen hM).hm ha
theorem one_mu {a : Nat} (ha : a < 2 ^ M) : mu M 1 a = a := Gf.one_mul ha
theorem mu_comm {a b : Nat} (ha : a < 2 ^ M) (hb : b < 2 ^ M) : mu M a b = mu M b a := Gf.mul_comm ha hb
theorem mu_assoc {a b c : Nat} (ha : a < 2 ^ M) (hb : b < 2 ^ M) (hc : c < 2 ^ M) : mu M (mu M a b) c = mu M a (mu M b c) := Gf.mul_assoc (FldM.gen hM).hm (FldM.gen hM).top (FldM.gen hM).lt ha hb hc
theorem inv_mu {a : Nat} (h0 : a ≠ 0) (ha : a < 2 ^ M) : mu M (invN M a) a = 1 ∧ mu M a (invN M a) = 1 := by
  obtain ⟨b, h1, _, h3⟩ := (FldM.gen hM).inv h0 ha
  have e := invN_eq hM ha h1 h3
  rw [e]
  exact ⟨by rw [mu_comm hM h1 ha]; exact h3, h3⟩
end
theorem xor_lt' {M a b : Nat} (ha : a < 2 ^ M) (hb : b < 2 ^ M) : a ^^^ b < 2 ^ M := Nat.xor_lt_two_pow ha hb
theorem xor_self_cancel (a b : Nat) : (a ^^^ b) ^^^ b = a := by rw [Nat.xor_assoc, Nat.xor_self, Nat.xor_zero]
theorem eq_of_xor {a b : Nat} (h : a ^^^ b = 0) : a = b := by
  have : (a ^^^ b) ^^^ b = 0 ^^^ b := by rw [h]
  rwa [xor_self_cancel, Nat.zero_xor] at this

/-- The sum of the first n. -/
def sg (f : Nat → Nat) : Nat → Nat
  | 0 => 0
  | n + 1 => sg f n ^^^ f n
theorem sg_congr {f g : Nat → Nat} : ∀ n, (∀ i, i < n → f i = g i) → sg f n = sg g n
  | 0, _ => rfl
  | n + 1, h => by rw [sg, sg, sg_congr n (fun i hi => h i (by omega)), h n (by omega)]
theorem sg_zero (n : Nat) : sg (fun _ => 0) n = 0 := by
  induction n with
  | zero => rfl
  | succ n ih => rw [sg, ih, Nat.xor_zero]
theorem sg_xor (f g : Nat → Nat) (n : Nat) : sg (fun i => f i ^^^ g i) n = sg f n ^^^ sg g n := by
  induction n with
  | zero => simp [sg]
  | succ n ih => rw [sg, sg, sg, ih]; exact Gf.xor4 _ _ _ _
theorem sg_mu {M : Nat} (c : Nat) (f : Nat → Nat) (n : Nat) : mu M c (sg f n) = sg (fun i => mu M c (f i)) n := by
  induction n with
  | zero => exact mu_zero c
  | succ n ih => rw [sg, sg, mu_xor, ih]
theorem sg_one {f : Nat → Nat} {k : Nat} : ∀ n, (∀ i, i < n → i ≠ k → f i = 0) → sg f n = if k < n then f k else 0
  | 0, _ => by simp [sg]
  | n + 1, h => by
    rw [sg, sg_one n (fun i hi => h i (by omega))]
    by_cases e : n = k
    · subst e; rw [if_neg (by omega), if_pos (by omega), Nat.zero_xor]
    · rw [h n (by omega) e, Nat.xor_zero]
      by_cases hk : k < n
      · rw [if_pos hk, if_pos (by omega)]
      · rw [if_neg hk, if_neg (by omega)]

/-- Elements of the field, the first D. -/
def Vc (M D : Nat) (v : Nat → Nat) : Prop := ∀ x, x < D → v x < 2 ^ M
/-- Vectors that vectors span. -/
inductive Sp (M D : Nat) (S : (Nat → Nat) → Prop) : (Nat → Nat) → Prop
  | zero {v : Nat → Nat} (h : ∀ x, x < D → v x = 0) : Sp M D S v
  | step {u s v : Nat → Nat} {c : Nat} (hu : Sp M D S u) (hs : S s) (hc : c < 2 ^ M) (h : ∀ x, x < D → v x = u x ^^^ mu M c (s x)) : Sp M D S v
section
variable {M D : Nat} {S S' : (Nat → Nat) → Prop} {u v s : Nat → Nat}
theorem Sp.congr (h : Sp M D S u) (e : ∀ x, x < D → v x = u x) : Sp M D S v := by
  cases h with
  | zero h => exact .zero fun x hx => by rw [e x hx, h x hx]
  | step hu hs hc h => exact .step hu hs hc fun x hx => by rw [e x hx, h x hx]
theorem Sp.add (hu : Sp M D S u) (hv : Sp M D S v) : Sp M D S (fun x => u x ^^^ v x) := by
  induction hv with
  | zero h => exact hu.congr fun x hx => by rw [h x hx, Nat.xor_zero]
  | step h1 hs hc h ih => exact .step ih hs hc fun x hx => by rw [h x hx, Nat.xor_assoc]
theorem Sp.smul (hM : FldM M) (hS : ∀ s, S s → Vc M D s) {c : Nat} (hc : c < 2 ^ M) (hu : Sp M D S u) : Sp M D S (fun x => mu M c (u x)) := by
  induction hu with
  | zero h => exact .zero fun x hx => by rw [h x hx, mu_zero]
  | step h1 hs hc2 h ih => exact .step ih hs (mu_lt hM hc _) fun x hx => by rw [h x hx, mu_xor, mu_assoc hM hc hc2 (hS _ hs x hx)]
theorem Sp.of (hM : FldM M) (hS : ∀ s, S s → Vc M D s) (hs : S s) : Sp M D S s :=
  .step (.zero (v := fun _ => 0) fun _ _ => rfl) hs (one_lt hM) fun x hx => by rw [Nat.zero_xor, one_mu hM (hS s hs x hx)]
theorem Sp.trans (hM : FldM M) (hS' : ∀ s, S' s → Vc M D s) (h : ∀ s, S s → Sp M D S' s) (hv : Sp M D S v) : Sp M D S' v := by
  induction hv with
  | zero h => exact .zero h
  | step h1 hs hc h2 ih => exact (ih.add ((h _ hs).smul hM hS' hc)).congr h2
theorem Sp.mono (h : ∀ s, S s → S' s) (hv : Sp M D S v) : Sp M D S' v := by
  induction hv with
  | zero h => exact .zero h
  | step h1 hs hc h2 ih => exact .step ih (h _ hs) hc h2
theorem Sp.vc (hM : FldM M) (hS : ∀ s, S s → Vc M D s) (hv : Sp M D S v) : Vc M D v := by
  induction hv with
  | zero h => exact fun x hx => by rw [h x hx]; exact Nat.two_pow_pos M
  | step h1 hs hc h2 ih => exact fun x hx => by rw [h2 x hx]; exact xor_lt' (ih x hx) (mu_lt hM hc _)
/-- Where all vanish, what they span vanishes. -/
theorem Sp.vanish {x : Nat} (hx : x < D) (h : ∀ s, S s → s x = 0) (hv : Sp M D S v) : v x = 0 := by
  induction hv with
  | zero h => exact h x hx
  | step h1 hs hc h2 ih => rw [h2 x hx, ih, h _ hs, mu_zero, Nat.xor_zero]
theorem Sp.sum (hM : FldM M) (hS : ∀ s, S s → Vc M D s) {c : Nat → Nat} {w : Nat → Nat → Nat} : ∀ n, (∀ j, j < n → c j < 2 ^ M ∧ Sp M D S (w j)) → Sp M D S (fun x => sg (fun j => mu M (c j) (w j x)) n)
  | 0, _ => .zero fun _ _ => rfl
  | n + 1, h => (Sp.sum hM hS n fun j hj => h j (by omega)).add ((h n (by omega)).2.smul hM hS (h n (by omega)).1)
/-- A span of a vector and others: a multiple of it, and what the others span. -/
theorem Sp.split {r : Nat → Nat} (h : Sp M D (fun s => s = r ∨ S s) v) : ∃ c u, c < 2 ^ M ∧ Sp M D S u ∧ ∀ x, x < D → v x = u x ^^^ mu M c (r x) := by
  induction h with
  | zero h => exact ⟨0, fun _ => 0, Nat.two_pow_pos M, .zero fun _ _ => rfl, fun x hx => by rw [h x hx, zero_mu, Nat.xor_zero]⟩
  | step h1 hs hc h2 ih =>
    obtain ⟨c0, u0, e1, e2, e3⟩ := ih
    rcases hs with rfl | hs
    · exact ⟨_, u0, xor_lt' e1 hc, e2, fun x hx => by rw [h2 x hx, e3 x hx, xor_mu, Nat.xor_assoc]⟩
    · refine ⟨c0, _, e1, .step e2 hs hc fun x hx => rfl, fun x hx => ?_⟩
      rw [h2 x hx, e3 x hx, Nat.xor_assoc, Nat.xor_assoc, Nat.xor_comm (mu M c0 _)]
end
end Go.Proofs.YtilpljehfcpjeaaDoor
end

section
/- Row operations as maps of columns; what reduce leaves. Plain. -/
namespace Go.Proofs.YtilpljehfcpjeaaDoor
open Go.RowKit
set_option linter.unusedVariables false
set_option linter.unusedSectionVars false

/-- A map of columns that can be undone. -/
structure Iso (M D : Nat) (T S : (Nat → Nat) → Nat → Nat) : Prop where
  congr : ∀ u v, (∀ i, i < D → u i = v i) → ∀ i, i < D → T u i = T v i
  congrS : ∀ u v, (∀ i, i < D → u i = v i) → ∀ i, i < D → S u i = S v i
  lt : ∀ v, Vc M D v → Vc M D (T v)
  ltS : ∀ v, Vc M D v → Vc M D (S v)
  add : ∀ u v i, i < D → T (fun k => u k ^^^ v k) i = T u i ^^^ T v i
  smul : ∀ c v, c < 2 ^ M → Vc M D v → ∀ i, i < D → T (fun k => mu M c (v k)) i = mu M c (T v i)
  ts : ∀ v, Vc M D v → ∀ i, i < D → T (S v) i = v i
  st : ∀ v, Vc M D v → ∀ i, i < D → S (T v) i = v i
theorem Iso.id (M D : Nat) : Iso M D (fun v => v) (fun v => v) := ⟨fun _ _ h => h, fun _ _ h => h, fun _ h => h, fun _ h => h, fun _ _ _ _ => rfl, fun _ _ _ _ _ _ => rfl, fun _ _ _ _ => rfl, fun _ _ _ _ => rfl⟩
section
variable {M D : Nat} {T S T' S' : (Nat → Nat) → Nat → Nat}
theorem Iso.comp (h' : Iso M D T' S') (h : Iso M D T S) : Iso M D (fun v => T' (T v)) (fun v => S (S' v)) where
  congr u v e := h'.congr _ _ (h.congr u v e)
  congrS u v e := h.congrS _ _ (h'.congrS u v e)
  lt v hv := h'.lt _ (h.lt v hv)
  ltS v hv := h.ltS _ (h'.ltS v hv)
  add u v i hi := by
    rw [h'.congr _ _ (fun k hk => h.add u v k hk) i hi]
    exact h'.add _ _ i hi
  smul c v hc hv i hi := by
    rw [h'.congr _ _ (fun k hk => h.smul c v hc hv k hk) i hi]
    exact h'.smul c _ hc (h.lt v hv) i hi
  ts v hv i hi := by
    rw [h'.congr _ _ (fun k hk => h.ts _ (h'.ltS v hv) k hk) i hi]
    exact h'.ts v hv i hi
  st v hv i hi := by
    rw [h.congrS _ _ (fun k hk => h'.st _ (h.lt v hv) k hk) i hi]
    exact h.st v hv i hi
theorem Iso.zero (h : Iso M D T S) {v : Nat → Nat} (hv : ∀ i, i < D → v i = 0) (i : Nat) (hi : i < D) : T v i = 0 := by
  have h1 := h.add v v i hi
  rw [Nat.xor_self] at h1
  rw [← h1]
  exact h.congr _ _ (fun k hk => by rw [hv k hk, Nat.xor_self]) i hi
theorem Iso.sum (h : Iso M D T S) {c : Nat → Nat} {w : Nat → Nat → Nat} : ∀ n, (∀ j, j < n → c j < 2 ^ M ∧ Vc M D (w j)) → ∀ i, i < D → T (fun x => sg (fun j => mu M (c j) (w j x)) n) i = sg (fun j => mu M (c j) (T (w j) i)) n
  | 0, _, i, hi => h.zero (fun _ _ => rfl) i hi
  | n + 1, hc, i, hi => by
    show T (fun x => sg (fun j => mu M (c j) (w j x)) n ^^^ mu M (c n) (w n x)) i = _
    rw [h.add (fun x => sg (fun j => mu M (c j) (w j x)) n) (fun x => mu M (c n) (w n x)) i hi, Iso.sum h n (fun j hj => hc j (by omega)) i hi, h.smul _ _ (hc n (by omega)).1 (hc n (by omega)).2 i hi]
    rfl
theorem Iso.inj (h : Iso M D T S) {u v : Nat → Nat} (hu : Vc M D u) (hv : Vc M D v) (e : ∀ i, i < D → T u i = T v i) : ∀ i, i < D → u i = v i := fun i hi => by
  rw [← h.st u hu i hi, ← h.st v hv i hi]
  exact h.congrS _ _ e i hi
theorem iso_swap {i k : Nat} (hi : i < D) (hk : k < D) : Iso M D (fun v r => if r = i then v k else if r = k then v i else v r) (fun v r => if r = i then v k else if r = k then v i else v r) where
  congr u v e r hr := by
    (try dsimp only)
    split
    · exact e k hk
    · split
      · exact e i hi
      · exact e r hr
  congrS u v e r hr := by
    (try dsimp only)
    split
    · exact e k hk
    · split
      · exact e i hi
      · exact e r hr
  lt v hv r hr := by
    (try dsimp only)
    split
    · exact hv k hk
    · split
      · exact hv i hi
      · exact hv r hr
  ltS v hv r hr := by
    (try dsimp only)
    split
    · exact hv k hk
    · split
      · exact hv i hi
      · exact hv r hr
  add u v r hr := by
    (try dsimp only)
    split
    · rfl
    · split <;> rfl
  smul c v hc hv r hr := by
    (try dsimp only)
    split
    · rfl
    · split <;> rfl
  ts v hv r hr := by
    (try dsimp only)
    by_cases h1 : r = i
    · subst h1
      by_cases h2 : k = r
      · subst h2; simp
      · simp [h2]
    · by_cases h2 : r = k
      · subst h2; simp [h1]
      · simp [h1, h2]
  st v hv r hr := by
    (try dsimp only)
    by_cases h1 : r = i
    · subst h1
      by_cases h2 : k = r
      · subst h2; simp
      · simp [h2]
    · by_cases h2 : r = k
      · subst h2; simp [h1]
      · simp [h1, h2]
theorem iso_scale (hM : FldM M) {p f g : Nat} (hp : p < D) (hf : f < 2 ^ M) (hg : g < 2 ^ M) (h1 : mu M f g = 1) : Iso M D (fun v r => if r = p then mu M f (v p) else v r) (fun v r => if r = p then mu M g (v p) else v r) where
  congr u v e r hr := by
    show (if _ then _ else _) = if _ then _ else _
    split
    · rw [e p hp]
    · exact e r hr
  congrS u v e r hr := by
    show (if _ then _ else _) = if _ then _ else _
    split
    · rw [e p hp]
    · exact e r hr
  lt v hv r hr := by
    (try dsimp only)
    split
    · exact mu_lt hM hf _
    · exact hv r hr
  ltS v hv r hr := by
    (try dsimp only)
    split
    · exact mu_lt hM hg _
    · exact hv r hr
  add u v r hr := by
    (try dsimp only)
    split
    · exact mu_xor _ _ _
    · rfl
  smul c v hc hv r hr := by
    (try dsimp only)
    split
    · rw [← mu_assoc hM hf hc (hv p hp), mu_comm hM hf hc, mu_assoc hM hc hf (hv p hp)]
    · rfl
  ts v hv r hr := by
    (try dsimp only)
    by_cases h : r = p
    · subst h
      rw [if_pos rfl, if_pos rfl, ← mu_assoc hM hf hg (hv r hr), h1, one_mu hM (hv r hr)]
    · rw [if_neg h, if_neg h]
  st v hv r hr := by
    (try dsimp only)
    by_cases h : r = p
    · subst h
      rw [if_pos rfl, if_pos rfl, ← mu_assoc hM hg hf (hv r hr), mu_comm hM hg hf, h1, one_mu hM (hv r hr)]
    · rw [if_neg h, if_neg h]
theorem iso_clear (hM : FldM M) {p : Nat} {g : Nat → Nat} (hp : p < D) (hg : ∀ r, r < D → g r < 2 ^ M) : Iso M D (fun v r => if r = p then v p else v r ^^^ mu M (g r) (v p)) (fun v r => if r = p then v p else v r ^^^ mu M (g r) (v p)) where
  congr u v e r hr := by
    (try dsimp only)
    split
    · exact e p hp
    · rw [e r hr, e p hp]
  congrS u v e r hr := by
    (try dsimp only)
    split
    · exact e p hp
    · rw [e r hr, e p hp]
  lt v hv r hr := by
    (try dsimp only)
    split
    · exact hv p hp
    · exact xor_lt' (hv r hr) (mu_lt hM (hg r hr) _)
  ltS v hv r hr := by
    (try dsimp only)
    split
    · exact hv p hp
    · exact xor_lt' (hv r hr) (mu_lt hM (hg r hr) _)
  add u v r hr := by
    (try dsimp only)
    split
    · rfl
    · rw [mu_xor]; exact Gf.xor4 _ _ _ _
  smul c v hc hv r hr := by
    (try dsimp only)
    split
    · rfl
    · rw [mu_xor, ← mu_assoc hM (hg r hr) hc (hv p hp), mu_comm hM (hg r hr) hc, mu_assoc hM hc (hg r hr) (hv p hp)]
  ts v hv r hr := by
    (try dsimp only)
    by_cases h : r = p
    · subst h; simp
    · rw [if_neg h, if_neg h, if_pos rfl, xor_self_cancel]
  st v hv r hr := by
    (try dsimp only)
    by_cases h : r = p
    · subst h; simp
    · rw [if_neg h, if_neg h, if_pos rfl, xor_self_cancel]
end
/-- What reduce has done after n columns: the columns were mapped, the pivots' columns are unit vectors, a column is empty from the row on whose pivot comes later. -/
structure RedTo (M R C n : Nat) (L A : List Nat) (pv : List Nat) (T S : (Nat → Nat) → Nat → Nat) : Prop where
  iso : Iso M R T S
  col : ∀ c, c < C → ∀ r, r < R → gt C A r c = T (fun r => gt C L r c) r
  piv : ∀ q, q < pv.length → pv.getD q 0 < n ∧ ∀ r, r < R → gt C A r (pv.getD q 0) = if r = q then 1 else 0
  inc : ∀ q q', q < q' → q' < pv.length → pv.getD q 0 < pv.getD q' 0
  low : ∀ j, j < n → ∀ r, r < R → gt C A r j ≠ 0 → r < pv.length ∧ pv.getD r 0 ≤ j
theorem getD_app {α : Type} (l : List α) (x d : α) (q : Nat) : (l ++ [x]).getD q d = if q < l.length then l.getD q d else if q = l.length then x else d := by
  simp only [List.getD_eq_getElem?_getD]
  by_cases h : q < l.length
  · rw [if_pos h, List.getElem?_append_left h]
  · rw [if_neg h, List.getElem?_append_right (by omega)]
    by_cases e : q = l.length
    · subst e; simp
    · rw [if_neg e]
      have : q - l.length ≠ 0 := by omega
      obtain ⟨m, hm⟩ := Nat.exists_eq_succ_of_ne_zero this
      rw [hm]; simp
theorem red_to {M R C : Nat} {L : List Nat} (hM : FldM M) (hn : L.length = R * C) (hL : ∀ x ∈ L, x < 2 ^ M) : ∀ n, n ≤ C → ∃ T S, RedTo M R C n L (red M R C L n).1 (red M R C L n).2 T S
  | 0, _ => ⟨_, _, Iso.id M R, fun _ _ _ _ => rfl, fun q hq => by simp [red] at hq, fun q q' _ hq => by simp [red] at hq, fun j hj => by omega⟩
  | n + 1, hnC => by
    obtain ⟨T, S, ih⟩ := red_to hM hn hL n (by omega)
    have hok := red_ok hM hn hL n
    rw [red]
    generalize red M R C L n = s at ih hok
    obtain ⟨A, pv⟩ := s
    have h1 := hok.len
    have h2 := hok.lt
    have h3 := hok.pr
    dsimp only at ih h1 h2 h3
    have hf := findP_le n A (R - pv.length) pv.length (C := C)
    have hs := findP_spec (C := C) (L := A) n (R - pv.length) pv.length
    rw [redStep]
    dsimp only
    generalize findP C n A (R - pv.length) pv.length = i at hf hs
    have hAl : ∀ r c, gt C A r c < 2 ^ M := fun r c => getD_lt h2 _
    by_cases hiR : i = R
    · rw [if_pos hiR]
      refine ⟨T, S, ih.iso, ih.col, fun q hq => ⟨Nat.lt_succ_of_lt (ih.piv q hq).1, (ih.piv q hq).2⟩, ih.inc, fun j hj r hr h0 => ?_⟩
      by_cases hjn : j < n
      · exact ih.low j hjn r hr h0
      · have : j = n := by omega
        subst this
        by_cases hrp : r < pv.length
        · exact ⟨hrp, Nat.le_of_lt (ih.piv r hrp).1⟩
        · exact absurd (hs.1 r (by omega) (by omega)) h0
    · rw [if_neg hiR]
      have hiR' : i < R := by omega
      have hp : pv.length < R := by omega
      have hne := hs.2 (by omega)
      have hnC' : n < C := by omega
      have s1 : ∀ r c, c < C → gt C (swapAt (i * C) (pv.length * C) A C) r c = if r = i then gt C A pv.length c else if r = pv.length then gt C A i c else gt C A r c := fun r c hc => gt_swap h1 hiR' hp hc
      have l1 : (swapAt (i * C) (pv.length * C) A C).length = R * C := by rw [swapAt_length]; exact h1
      have b1 : ∀ x ∈ swapAt (i * C) (pv.length * C) A C, x < 2 ^ M := swapAt_lt _ _ h2 _
      have hx : gt C (swapAt (i * C) (pv.length * C) A C) pv.length n = gt C A i n := by
        rw [s1 _ _ hnC']
        by_cases e : pv.length = i
        · rw [if_pos e, e]
        · rw [if_neg e, if_pos rfl]
      have hxe : (swapAt (i * C) (pv.length * C) A C).getD (pv.length * C + n) 0 = gt C A i n := hx
      rw [hxe]
      generalize swapAt (i * C) (pv.length * C) A C = L1 at *
      have hxl := hAl i n
      obtain ⟨v1, v2⟩ := inv_mu hM hne hxl
      have hvl : invN M (gt C A i n) < 2 ^ M := invN_lt _
      generalize invN M (gt C A i n) = f at *
      generalize hxx : gt C A i n = x at *
      have s2 : ∀ r c, c < C → gt C (scaleAt M f (pv.length * C) L1 C) r c = if r = pv.length then mu M f (gt C L1 pv.length c) else gt C L1 r c := fun r c hc => gt_scale l1 hp hc
      have l2 : (scaleAt M f (pv.length * C) L1 C).length = R * C := by rw [scaleAt_length]; exact l1
      have b2 : ∀ y ∈ scaleAt M f (pv.length * C) L1 C, y < 2 ^ M := scaleAt_lt hM hvl _ b1 _
      generalize scaleAt M f (pv.length * C) L1 C = L2 at *
      have s3 : ∀ r c, r < R → c < C → gt C (clearAt M C n pv.length L2 R) r c = if r = pv.length then gt C L2 pv.length c else gt C L2 r c ^^^ mu M (gt C L2 r n) (gt C L2 pv.length c) := fun r c hr hc => gt_clear l2 hnC' hr hc
      generalize clearAt M C n pv.length L2 R = A2 at *
      have hg2 : ∀ r, r < R → gt C L2 r n < 2 ^ M := fun r _ => getD_lt b2 _
      -- the column of an earlier pivot or of none: nothing changes there
      have keep : ∀ c, c < C → (∀ r, pv.length ≤ r → r < R → gt C A r c = 0) → ∀ r, r < R → gt C A2 r c = gt C A r c := fun c hc hz r hr => by
        have z1 : ∀ r, r < R → gt C L1 r c = gt C A r c := fun r hr => by
          rw [s1 r c hc]
          by_cases e1 : r = i
          · rw [if_pos e1, e1, hz _ (Nat.le_refl _) hp, hz i (by omega) hiR']
          · rw [if_neg e1]
            by_cases e2 : r = pv.length
            · rw [if_pos e2, e2, hz _ (Nat.le_refl _) hp, hz i (by omega) hiR']
            · rw [if_neg e2]
        have z2 : ∀ r, r < R → gt C L2 r c = gt C A r c := fun r hr => by
          rw [s2 r c hc]
          by_cases e2 : r = pv.length
          · rw [if_pos e2, z1 _ hp, e2, hz _ (Nat.le_refl _) hp, mu_zero]
          · rw [if_neg e2, z1 r hr]
        rw [s3 r c hr hc]
        by_cases e2 : r = pv.length
        · rw [if_pos e2, e2, z2 _ hp]
        · rw [if_neg e2, z2 r hr, z2 _ hp, hz _ (Nat.le_refl _) hp, mu_zero, Nat.xor_zero]
      have pivn : ∀ r, r < R → gt C A2 r n = if r = pv.length then 1 else 0 := fun r hr => by
        have e0 : gt C L2 pv.length n = 1 := by rw [s2 _ _ hnC', if_pos rfl, hx]; exact v1
        rw [s3 r n hr hnC', e0]
        by_cases e2 : r = pv.length
        · rw [if_pos e2, if_pos e2]
        · rw [if_neg e2, if_neg e2, mu_one hM (hg2 r hr), Nat.xor_self]
      have i1 := iso_swap (M := M) (D := R) hiR' hp
      have i2 := iso_scale (M := M) (D := R) hM hp hvl hxl v1
      have i3 := iso_clear (M := M) (D := R) hM hp hg2
      have i4 := (i3.comp (i2.comp i1)).comp ih.iso
      refine ⟨_, _, i4, fun c hc r hr => ?_, fun q hq => ?_, fun q q' hqq hq => ?_, fun j hj r hr h0 => ?_⟩
      · have e1 : ∀ k, k < R → gt C A k c = T (fun r => gt C L r c) k := ih.col c hc
        have := (i3.comp (i2.comp i1)).congr _ _ e1 r hr
        rw [← this]
        rw [s3 r c hr hc, s2 _ _ hc, s2 _ _ hc, s1 _ _ hc, s1 _ _ hc]
      · rw [List.length_append, List.length_singleton] at hq
        rw [getD_app]
        by_cases hq1 : q < pv.length
        · rw [if_pos hq1]
          obtain ⟨q1, q2⟩ := ih.piv q hq1
          refine ⟨by omega, fun r hr => ?_⟩
          rw [keep _ (by omega) (fun r h4 h5 => by rw [q2 r h5, if_neg (by omega)]) r hr, q2 r hr]
        · have : q = pv.length := by omega
          subst this
          rw [if_neg (by omega), if_pos rfl]
          exact ⟨by omega, pivn⟩
      · rw [List.length_append, List.length_singleton] at hq
        rw [getD_app, getD_app, if_pos (by omega)]
        by_cases hq1 : q' < pv.length
        · rw [if_pos hq1]; exact ih.inc q q' hqq hq1
        · rw [if_neg hq1, if_pos (by omega)]
          exact (ih.piv q (by omega)).1
      · rw [List.length_append, List.length_singleton]
        by_cases hjn : j < n
        · have hz : ∀ r, pv.length ≤ r → r < R → gt C A r j = 0 := fun r h4 h5 => by
            by_cases e : gt C A r j = 0
            · exact e
            · have := (ih.low j hjn r h5 e).1; (try dsimp only at this); omega
          rw [keep j (by omega) hz r hr] at h0
          have := ih.low j hjn r hr h0
          (try dsimp only at this)
          refine ⟨by omega, ?_⟩
          rw [getD_app, if_pos this.1]; exact this.2
        · have : j = n := by omega
          subst this
          rw [pivn r hr] at h0
          have e : r = pv.length := by
            by_cases e : r = pv.length
            · exact e
            · rw [if_neg e] at h0; exact absurd rfl h0
          subst e
          refine ⟨by omega, ?_⟩
          rw [getD_app, if_neg (by omega), if_pos rfl]
          exact Nat.le_refl _
end Go.Proofs.YtilpljehfcpjeaaDoor
end

section
/- The basis of the present units: plain law. -/
namespace Go.Proofs.YtilpljehfcpjeaaDoor
open Go.RowKit
set_option linter.unusedVariables false
set_option linter.unusedSectionVars false

theorem gt_trAt {R C : Nat} {L B : List Nat} (hB : B.length = C * R) : ∀ n, n ≤ R * C → ∀ r c, r < R → c < C → gt R (trAt R C L B n) c r = if r * C + c < n then gt C L r c else gt R B c r
  | 0, _, r, c, _, _ => by rw [if_neg (by omega)]; rfl
  | n + 1, hn, r, c, hr, hc => by
    have ih := gt_trAt (L := L) hB n (by omega) r c hr hc
    have hC : 0 < C := by omega
    have h1 : n % C < C := Nat.mod_lt _ hC
    have h2 : n / C < R := by
      rw [Nat.div_lt_iff_lt_mul hC]; omega
    have h3 : n / C * C + n % C = n := by rw [Nat.mul_comm]; exact Nat.div_add_mod n C
    rw [trAt, gt_set (R := C) (C := R) (by rw [trAt_length]; exact hB) h1 h2 hr, ih]
    by_cases e : c = n % C ∧ r = n / C
    · obtain ⟨e1, e2⟩ := e
      rw [if_pos ⟨e1, e2⟩, if_pos (by rw [e1, e2, h3]; omega)]
      show L.getD n 0 = L.getD (r * C + c) 0
      rw [e1, e2, h3]
    · rw [if_neg e]
      have hne : r * C + c ≠ n := fun h => e (by
        rw [← h3] at h
        obtain ⟨a, b⟩ := idx_inj hc h1 h
        exact ⟨b, a⟩)
      by_cases hlt : r * C + c < n
      · rw [if_pos hlt, if_pos (by omega)]
      · rw [if_neg hlt, if_neg (by omega)]
theorem gt_tr {R C : Nat} {L : List Nat} {r c : Nat} (hr : r < R) (hc : c < C) : gt R (trN R C L) c r = gt C L r c := by
  unfold trN
  rw [gt_trAt (by simp) _ (Nat.le_refl _) r c hr hc, if_pos (idx_lt hr hc)]
theorem gt_pick {R C : Nat} {l : List Nat} (hn : l.length = R * C) {c : Nat} (hc : c < C) : ∀ (is : List Nat), (∀ i ∈ is, i < R) → ∀ k, k < is.length → gt C (pickN C l is) k c = gt C l (is.getD k 0) c
  | [], _, k, hk => by simp at hk
  | i :: is, h, k, hk => by
    have hi := h i (by simp)
    have h1 := Nat.mul_le_mul_right C (show i + 1 ≤ R from hi)
    rw [Nat.add_mul, Nat.one_mul] at h1
    have hl : ((l.drop (i * C)).take C).length = C := by rw [List.length_take, List.length_drop]; omega
    unfold gt
    rw [pickN, List.getD_eq_getElem?_getD]
    cases k with
    | zero =>
      rw [List.getElem?_append_left (by omega), Nat.zero_mul, Nat.zero_add, List.getElem?_take_of_lt hc, List.getElem?_drop]
      rfl
    | succ k =>
      rw [List.getElem?_append_right (by rw [hl, Nat.add_mul]; omega), hl, show (k + 1) * C + c - C = k * C + c by rw [Nat.add_mul]; omega]
      have := gt_pick hn hc is (fun x hx => h x (by simp [hx])) k (by simpa using hk)
      unfold gt at this
      rw [List.getD_eq_getElem?_getD] at this
      rw [this]
      rfl
/-- The row of a unit. -/
def U (D : Nat) (gen : List Nat) (u : Nat) : Nat → Nat := fun x => gt D gen u x
theorem U_vc {M R D : Nat} {gen : List Nat} (h : MxOk M R D gen) (u : Nat) : Vc M D (U D gen u) := fun x _ => getD_lt h.e _
theorem pres_inc (hv : List Bool) (n : Nat) : (presAt hv n).Pairwise (· < ·) := List.Pairwise.filter _ List.pairwise_lt_range
theorem getD_inc {l : List Nat} (h : l.Pairwise (· < ·)) {q q' : Nat} (hq : q < q') (hq' : q' < l.length) : l.getD q 0 < l.getD q' 0 := by
  rw [List.getD_eq_getElem?_getD, List.getD_eq_getElem?_getD, List.getElem?_eq_getElem hq', List.getElem?_eq_getElem (show q < l.length by omega)]
  exact List.pairwise_iff_getElem.1 h q q' _ _ hq
theorem getD_mem {l : List Nat} {q : Nat} (h : q < l.length) : l.getD q 0 ∈ l := by
  rw [List.getD_eq_getElem?_getD, List.getElem?_eq_getElem h]
  exact List.getElem_mem h
theorem mem_pres {hv : List Bool} {u : Nat} : u ∈ presN hv ↔ hv.getD u false = true := by
  unfold presN presAt
  rw [List.mem_filter, List.mem_range]
  constructor
  · exact fun h => h.2
  · intro h
    refine ⟨?_, h⟩
    by_cases hl : u < hv.length
    · exact hl
    · rw [List.getD_eq_getElem?_getD, List.getElem?_eq_none (by omega)] at h
      cases h
/-- What the basis of the present units is. -/
structure Bas (M D : Nat) (gen : List Nat) (hv : List Bool) (B : List Nat) (T S : (Nat → Nat) → Nat → Nat) : Prop where
  iso : Iso M D T S
  le : B.length ≤ D
  mem : ∀ q, q < B.length → hv.getD (B.getD q 0) false = true
  inc : ∀ q q', q < q' → q' < B.length → B.getD q 0 < B.getD q' 0
  unit : ∀ q, q < B.length → ∀ r, r < D → T (U D gen (B.getD q 0)) r = if r = q then 1 else 0
  low : ∀ u, hv.getD u false = true → ∀ r, r < D → T (U D gen u) r ≠ 0 → r < B.length ∧ B.getD r 0 ≤ u
theorem map_getD {α : Type} {f : Nat → α} {l : List Nat} {q : Nat} (d : α) (h : q < l.length) : (l.map f).getD q d = f (l.getD q 0) := by
  rw [List.getD_eq_getElem?_getD, List.getD_eq_getElem?_getD, List.getElem?_map, List.getElem?_eq_getElem h]
  rfl
theorem basis_to {M D : Nat} {ps : List (List Nat)} {hv : List Bool} (h : CodeOk M D ps) (hl : hv.length = D + ps.length) : ∃ T S, Bas M D (genN D ps) hv (basisN M D ps hv) T S := by
  have hgok := gen_ok h
  have hplt : ∀ x ∈ presN hv, x < D + ps.length := fun x hx => by have := presAt_lt hx; omega
  have hpl : (presN hv).length ≤ 32 := by have := presAt_length hv hv.length; have := h.w; show (presAt hv hv.length).length ≤ 32; omega
  have hpk := pick_ok hgok hplt hpl
  have hbl := basis_len h hl
  have hcol : ∀ c, c < (presN hv).length → ∀ r, r < D → gt (presN hv).length (trN (presN hv).length D (pickN D (genN D ps) (presN hv))) r c = U D (genN D ps) ((presN hv).getD c 0) r := fun c hc r hr => by
    rw [gt_tr hc hr, gt_pick hgok.n hr _ hplt c hc]
    rfl
  obtain ⟨T, S, hr⟩ := red_to (M := M) (R := D) (C := (presN hv).length) (L := trN (presN hv).length D (pickN D (genN D ps) (presN hv))) h.f (trN_length _ _ _) (trN_lt hpk.e) (presN hv).length (Nat.le_refl _)
  have hB : basisN M D ps hv = (red M D (presN hv).length (trN (presN hv).length D (pickN D (genN D ps) (presN hv))) (presN hv).length).2.map fun j => (presN hv).getD j 0 := rfl
  generalize (red M D (presN hv).length (trN (presN hv).length D (pickN D (genN D ps) (presN hv))) (presN hv).length).1 = A at *
  generalize (red M D (presN hv).length (trN (presN hv).length D (pickN D (genN D ps) (presN hv))) (presN hv).length).2 = pv at *
  have hBl : (basisN M D ps hv).length = pv.length := by rw [hB, List.length_map]
  have hBq : ∀ q, q < pv.length → (basisN M D ps hv).getD q 0 = (presN hv).getD (pv.getD q 0) 0 := fun q hq => by rw [hB]; exact map_getD 0 hq
  have hT : ∀ c, c < (presN hv).length → ∀ r, r < D → T (U D (genN D ps) ((presN hv).getD c 0)) r = gt (presN hv).length A r c := fun c hc r hr' => by
    rw [hr.col c hc r hr']
    exact hr.iso.congr _ _ (fun k hk => (hcol c hc k hk).symm) r hr'
  refine ⟨T, S, hr.iso, hbl, fun q hq => ?_, fun q q' h1 h2 => ?_, fun q hq r hr' => ?_, fun u hu r hr' h0 => ?_⟩
  · rw [hBl] at hq
    rw [hBq q hq]
    exact mem_pres.1 (getD_mem (hr.piv q hq).1)
  · rw [hBl] at h2
    rw [hBq q (by omega), hBq q' h2]
    exact getD_inc (pres_inc hv _) (hr.inc q q' h1 h2) (hr.piv q' h2).1
  · rw [hBl] at hq
    rw [hBq q hq, hT _ (hr.piv q hq).1 r hr']
    exact (hr.piv q hq).2 r hr'
  · obtain ⟨c, hc, e⟩ := List.getElem_of_mem (mem_pres.2 hu)
    have e2 : (presN hv).getD c 0 = u := by rw [List.getD_eq_getElem?_getD, List.getElem?_eq_getElem hc]; exact e
    rw [← e2, hT c hc r hr'] at h0
    obtain ⟨h1, h2⟩ := hr.low c hc r hr' h0
    refine ⟨by omega, ?_⟩
    rw [hBq r h1, ← e2]
    by_cases e3 : pv.getD r 0 = c
    · rw [e3]; exact Nat.le_refl _
    · exact Nat.le_of_lt (getD_inc (pres_inc hv _) (by omega) hc)
section
variable {M D : Nat} {gen : List Nat} {hv : List Bool} {B : List Nat} {T S : (Nat → Nat) → Nat → Nat}
/-- The rows of a basis. -/
def BS (D : Nat) (gen B : List Nat) : (Nat → Nat) → Prop := fun s => ∃ q, q < B.length ∧ s = U D gen (B.getD q 0)
/-- What the map leaves in the first rows is spanned. -/
theorem Bas.span (hM : FldM M) (hg : ∀ u, Vc M D (U D gen u)) (h : Bas M D gen hv B T S) {v : Nat → Nat} (hv' : Vc M D v) (hz : ∀ r, r < D → B.length ≤ r → T v r = 0) : Sp M D (BS D gen B) v := by
  have hS : ∀ s, BS D gen B s → Vc M D s := fun s ⟨q, _, e⟩ => by rw [e]; exact hg _
  have hsum := Sp.sum (M := M) (D := D) (S := BS D gen B) hM hS (c := fun q => T v q) (w := fun q => U D gen (B.getD q 0)) B.length (fun q hq => ⟨h.iso.lt v hv' q (by have := h.le; omega), Sp.of hM hS ⟨q, hq, rfl⟩⟩)
  refine hsum.congr fun x hx => ?_
  have hw : Vc M D (fun x => sg (fun q => mu M (T v q) (U D gen (B.getD q 0) x)) B.length) := hsum.vc hM hS
  refine (h.iso.inj hv' hw fun i hi => ?_) x hx
  rw [h.iso.sum B.length (fun q hq => ⟨h.iso.lt v hv' q (by have := h.le; omega), hg _⟩) i hi]
  rw [sg_congr B.length (fun q hq => show mu M (T v q) (T (U D gen (B.getD q 0)) i) = if q = i then T v i else 0 by
    rw [h.unit q hq i hi]
    by_cases e : i = q
    · subst e; rw [if_pos rfl, if_pos rfl, mu_one hM (h.iso.lt v hv' i hi)]
    · rw [if_neg e, if_neg (fun e2 => e e2.symm), mu_zero])]
  rw [sg_one (k := i) B.length (fun q _ hne => if_neg hne), if_pos rfl]
  by_cases e : i < B.length
  · rw [if_pos e]
  · rw [if_neg e, hz i hi (by omega)]
/-- Every present unit's row is spanned by the basis. -/
theorem Bas.present (hM : FldM M) (hg : ∀ u, Vc M D (U D gen u)) (h : Bas M D gen hv B T S) {u : Nat} (hu : hv.getD u false = true) : Sp M D (BS D gen B) (U D gen u) :=
  h.span hM hg (hg u) fun r hr hle => by
    by_cases e : T (U D gen u) r = 0
    · exact e
    · have := (h.low u hu r hr e).1; omega
end
end Go.Proofs.YtilpljehfcpjeaaDoor
end

section
/- The rows of a span, and what they leave of a row: plain law. -/
namespace Go.Proofs.YtilpljehfcpjeaaDoor
open Go.RowKit
set_option linter.unusedVariables false
set_option linter.unusedSectionVars false

theorem addV_get (M f : Nat) (T l : List Nat) : ∀ k, k ≤ T.length → ∀ i, i < T.length → (addV M f T l k).getD i 0 = if i < k then T.getD i 0 ^^^ mu M f (l.getD i 0) else T.getD i 0
  | 0, _, i, _ => by rw [if_neg (by omega)]; rfl
  | k + 1, hk, i, hi => by
    have ih := addV_get M f T l k (by omega)
    rw [addV, set_getD _ _ _ _ (by rw [addV_length]; exact hi)]
    by_cases e : i = k
    · subst e
      rw [if_pos rfl, if_pos (by omega), ih i hi, if_neg (by omega)]
    · rw [if_neg e, ih i hi]
      by_cases h : i < k
      · rw [if_pos h, if_pos (by omega)]
      · rw [if_neg h, if_neg (by omega)]
abbrev Rd := Nat × List Nat × List Nat
section
variable {M D n : Nat} {s : List Nat × List Nat} {r : Rd}
theorem subR_1 (hs : SubOk M D n s) (hr : RedRow M D n r) {x : Nat} (hx : x < D) : (subR M s r).1.getD x 0 = s.1.getD x 0 ^^^ mu M (s.1.getD r.1 0) (r.2.1.getD x 0) := by
  unfold subR
  by_cases e : s.1.getD r.1 0 = 0
  · rw [if_pos e, e, zero_mu, Nat.xor_zero]
  · rw [if_neg e]
    show (addV M _ s.1 r.2.1 r.2.1.length).getD x 0 = _
    rw [addV_get _ _ _ _ _ (by rw [hs.l1, hr.l1]; exact Nat.le_refl _) x (by rw [hs.l1]; exact hx), if_pos (by rw [hr.l1]; exact hx)]
theorem subR_2 (hs : SubOk M D n s) (hr : RedRow M D n r) {q : Nat} (hq : q < n) : (subR M s r).2.getD q 0 = s.2.getD q 0 ^^^ mu M (s.1.getD r.1 0) (r.2.2.getD q 0) := by
  unfold subR
  by_cases e : s.1.getD r.1 0 = 0
  · rw [if_pos e, e, zero_mu, Nat.xor_zero]
  · rw [if_neg e]
    show (addV M _ s.2 r.2.2 r.2.2.length).getD q 0 = _
    rw [addV_get _ _ _ _ _ (by rw [hs.l2, hr.l2]; exact Nat.le_refl _) q (by rw [hs.l2]; exact hq), if_pos (by rw [hr.l2]; exact hq)]
end
/-- A row of a span: the sum that its coefficients tell; it begins with a 1. -/
structure Rw (M D n : Nat) (W : Nat → Nat → Nat) (r : Rd) : Prop where
  ok : RedRow M D n r
  comb : ∀ x, x < D → r.2.1.getD x 0 = sg (fun q => mu M (r.2.2.getD q 0) (W q x)) n
  lead : r.2.1.getD r.1 0 = 1
def Tri (rows : List Rd) : Prop := rows.Pairwise fun a b => b.2.1.getD a.1 0 = 0
def RS (rows : List Rd) : (Nat → Nat) → Prop := fun s => ∃ r, r ∈ rows ∧ s = fun x => r.2.1.getD x 0
section
variable {M D n : Nat} {W : Nat → Nat → Nat} {rows : List Rd}
theorem RS_vc (h : ∀ r ∈ rows, Rw M D n W r) : ∀ s, RS rows s → Vc M D s := fun s ⟨r, hr, e⟩ x hx => by rw [e]; exact getD_lt (h r hr).ok.e1 _
theorem tri_zero (hM : FldM M) : ∀ {rows : List Rd}, (∀ r ∈ rows, Rw M D n W r) → Tri rows → ∀ {v : Nat → Nat}, Sp M D (RS rows) v → (∀ r ∈ rows, v r.1 = 0) → ∀ x, x < D → v x = 0
  | [], _, _, v, hv, _ => by
    cases hv with
    | zero h => exact h
    | step _ hs _ _ => obtain ⟨r, hr, _⟩ := hs; simp at hr
  | r :: rows, h, ht, v, hv, h0 => by
    have hr := h r (by simp)
    obtain ⟨t1, t2⟩ := List.pairwise_cons.1 ht
    have hv2 : Sp M D (fun s => s = (fun x => r.2.1.getD x 0) ∨ RS rows s) v := hv.mono fun s ⟨a, ha, e⟩ => by
      rcases List.mem_cons.1 ha with rfl | ha
      · exact .inl e
      · exact .inr ⟨a, ha, e⟩
    obtain ⟨c, u, hc, hu, e⟩ := hv2.split
    have hcz : c = 0 := by
      have e1 := e r.1 hr.ok.c
      rw [h0 r (by simp), hr.lead, mu_one hM hc, hu.vanish hr.ok.c (fun s ⟨a, ha, e⟩ => by rw [e]; exact t1 a ha), Nat.zero_xor] at e1
      exact e1.symm
    subst hcz
    have e2 : ∀ x, x < D → v x = u x := fun x hx => by rw [e x hx, zero_mu, Nat.xor_zero]
    intro x hx
    rw [e2 x hx]
    exact tri_zero hM (fun a ha => h a (by simp [ha])) t2 hu (fun a ha => by rw [← e2 a.1 (h a (by simp [ha])).ok.c]; exact h0 a (by simp [ha])) x hx
/-- What is left of a row, in the midst. -/
structure Rst (M D n : Nat) (W : Nat → Nat → Nat) (row : Nat → Nat) (s : List Nat × List Nat) : Prop where
  ok : SubOk M D n s
  sum : ∀ x, x < D → s.1.getD x 0 = row x ^^^ sg (fun q => mu M (s.2.getD q 0) (W q x)) n
theorem fold_rst (hM : FldM M) (hW : ∀ q, Vc M D (W q)) {row : Nat → Nat} : ∀ (rows : List Rd), (∀ r ∈ rows, Rw M D n W r) → ∀ s, Rst M D n W row s → Rst M D n W row (rows.foldl (subR M) s)
  | [], _, s, h => h
  | r :: rows, hr, s, h => by
    refine fold_rst hM hW rows (fun a ha => hr a (by simp [ha])) _ ⟨sub_ok hM h.ok (hr r (by simp)).ok, fun x hx => ?_⟩
    have hr1 := hr r (by simp)
    rw [subR_1 h.ok hr1.ok hx, h.sum x hx, hr1.comb x hx, Nat.xor_assoc, sg_mu, ← sg_xor]
    congr 1
    refine sg_congr n fun q hq => ?_
    rw [subR_2 h.ok hr1.ok hq, xor_mu, mu_assoc hM (getD_lt h.ok.e1 _) (getD_lt hr1.ok.e2 _) (hW q x hx)]
theorem fold_keep {c : Nat} (hc : c < D) (hM : FldM M) : ∀ (rows : List Rd), (∀ r ∈ rows, RedRow M D n r ∧ r.2.1.getD c 0 = 0) → ∀ s, SubOk M D n s → (rows.foldl (subR M) s).1.getD c 0 = s.1.getD c 0
  | [], _, s, _ => rfl
  | r :: rows, hr, s, h => by
    obtain ⟨h1, h2⟩ := hr r (by simp)
    show (rows.foldl (subR M) (subR M s r)).1.getD c 0 = _
    rw [fold_keep hc hM rows (fun a ha => hr a (by simp [ha])) _ (sub_ok hM h h1), subR_1 h h1 hc, h2, mu_zero, Nat.xor_zero]
theorem fold_zero (hM : FldM M) : ∀ (rows : List Rd), (∀ r ∈ rows, Rw M D n W r) → Tri rows → ∀ s, SubOk M D n s → ∀ r ∈ rows, (rows.foldl (subR M) s).1.getD r.1 0 = 0
  | [], _, _, _, _, r, hr => by simp at hr
  | a :: rows, h, ht, s, hs, r, hr => by
    obtain ⟨t1, t2⟩ := List.pairwise_cons.1 ht
    have ha := h a (by simp)
    show (rows.foldl (subR M) (subR M s a)).1.getD r.1 0 = 0
    rcases List.mem_cons.1 hr with rfl | hr
    · rw [fold_keep ha.ok.c hM rows (fun b hb => ⟨(h b (by simp [hb])).ok, t1 b hb⟩) _ (sub_ok hM hs ha.ok), subR_1 hs ha.ok ha.ok.c, ha.lead, mu_one hM (getD_lt hs.e1 _), Nat.xor_self]
    · exact fold_zero hM rows (fun b hb => h b (by simp [hb])) t2 _ (sub_ok hM hs ha.ok) r hr
theorem fold_span (hM : FldM M) {all : List Rd} (hall : ∀ r ∈ all, Rw M D n W r) : ∀ (rows : List Rd), (∀ r ∈ rows, r ∈ all) → ∀ s, SubOk M D n s → Sp M D (RS all) (fun x => s.1.getD x 0 ^^^ (rows.foldl (subR M) s).1.getD x 0)
  | [], _, s, _ => .zero fun x hx => by simp
  | r :: rows, hr, s, hs => by
    have h1 := hall r (hr r (by simp))
    have ih := fold_span hM hall rows (fun a ha => hr a (by simp [ha])) _ (sub_ok hM hs h1.ok)
    refine .step ih ⟨r, hr r (by simp), rfl⟩ (c := s.1.getD r.1 0) (getD_lt hs.e1 _) fun x hx => ?_
    show s.1.getD x 0 ^^^ (rows.foldl (subR M) (subR M s r)).1.getD x 0 = _
    rw [subR_1 hs h1.ok hx]
    generalize s.1.getD x 0 = a
    generalize (rows.foldl (subR M) (subR M s r)).1.getD x 0 = b
    generalize mu M (s.1.getD r.1 0) (r.2.1.getD x 0) = c
    rw [Nat.xor_assoc a c b, Nat.xor_comm c b, ← Nat.xor_assoc, xor_self_cancel]
end
theorem findNZ_lt {l : List Nat} (h : findNZ l < l.length) : l.getD (findNZ l) 0 ≠ 0 := by
  have := List.findIdx_getElem (xs := l) (p := fun x => x != 0) (w := h)
  rw [List.getD_eq_getElem?_getD, List.getElem?_eq_getElem h]
  have h3 : ¬ (l[List.findIdx (fun x => x != 0) l]'h = 0) := by simpa using this
  exact h3
theorem findNZ_ge {l : List Nat} (h : ¬ findNZ l < l.length) (x : Nat) : l.getD x 0 = 0 := by
  rw [List.getD_eq_getElem?_getD]
  by_cases hx : x < l.length
  · rw [List.getElem?_eq_getElem hx]
    have h2 : findNZ l = l.length := by
      have := List.findIdx_le_length (xs := l) (p := fun x => x != 0)
      unfold findNZ at *; omega
    have := List.findIdx_eq_length.1 h2 l[x] (List.getElem_mem hx)
    simpa using this
  · rw [List.getElem?_eq_none (by omega)]; rfl
theorem row_getD {M R D u : Nat} {gen : List Nat} (h : MxOk M R D gen) (hu : u < R) {x : Nat} (hx : x < D) : ((gen.drop (u * D)).take D).getD x 0 = U D gen u x := by
  rw [List.getD_eq_getElem?_getD, List.getElem?_take_of_lt hx, List.getElem?_drop]
  unfold U gt
  rw [List.getD_eq_getElem?_getD]
/-- The rows of the span of the first k units of a basis. -/
structure SpTo (M D : Nat) (gen B : List Nat) (k : Nat) (rows : List Rd) : Prop where
  rw : ∀ r ∈ rows, Rw M D B.length (fun q => U D gen (B.getD q 0)) r
  tri : Tri rows
  all : ∀ q, q < k → Sp M D (RS rows) (U D gen (B.getD q 0))
theorem span_to {M R D : Nat} {gen B : List Nat} (hM : FldM M) (hg : MxOk M R D gen) (hB : ∀ u ∈ B, u < R) : ∀ k, k ≤ B.length → SpTo M D gen B k (spanAt M D B.length gen B k)
  | 0, _ => ⟨fun r hr => by simp [spanAt] at hr, List.Pairwise.nil, fun q hq => by omega⟩
  | k + 1, hk => by
    have ih := span_to hM hg hB k (by omega)
    have hok := span_ok (n := B.length) hM hg hB k (by omega)
    rw [spanAt]
    generalize spanAt M D B.length gen B k = rows at ih hok
    have hbk : B.getD k 0 < R := hB _ (getD_mem (by omega))
    obtain ⟨p1, p2⟩ := pick_row hg hbk
    have hW : ∀ q, Vc M D (U D gen (B.getD q 0)) := fun q => U_vc hg _
    have hs0 : SubOk M D B.length ((gen.drop (B.getD k 0 * D)).take D, List.replicate B.length 0) := ⟨p1, List.length_replicate, p2, fun x hx => by rw [List.eq_of_mem_replicate hx]; exact Nat.two_pow_pos M⟩
    have hr0 : Rst M D B.length (fun q => U D gen (B.getD q 0)) (U D gen (B.getD k 0)) ((gen.drop (B.getD k 0 * D)).take D, List.replicate B.length 0) := ⟨hs0, fun x hx => by
      rw [row_getD hg hbk hx, sg_congr B.length (fun q hq => show mu M ((List.replicate B.length 0).getD q 0) _ = 0 by
        rw [List.getD_eq_getElem?_getD, List.getElem?_replicate, if_pos hq]; exact zero_mu _), sg_zero, Nat.xor_zero]⟩
    have hr := fold_rst hM hW rows ih.rw _ hr0
    have hz := fold_zero hM rows ih.rw ih.tri _ hs0
    have hsp := fold_span hM ih.rw rows (fun _ h => h) _ hs0
    unfold spanStep
    dsimp only
    change Rst M D B.length _ _ (redV M B.length ((gen.drop (B.getD k 0 * D)).take D) rows) at hr
    change ∀ r ∈ rows, (redV M B.length ((gen.drop (B.getD k 0 * D)).take D) rows).1.getD r.1 0 = 0 at hz
    change Sp M D (RS rows) (fun x => ((gen.drop (B.getD k 0 * D)).take D).getD x 0 ^^^ (redV M B.length ((gen.drop (B.getD k 0 * D)).take D) rows).1.getD x 0) at hsp
    generalize redV M B.length ((gen.drop (B.getD k 0 * D)).take D) rows = s at *
    have hsp2 : Sp M D (RS rows) (fun x => U D gen (B.getD k 0) x ^^^ s.1.getD x 0) := hsp.congr fun x hx => by rw [row_getD hg hbk hx]
    have h1 := hr.ok
    have hc : ∀ x, x < D → s.1.getD x 0 = sg (fun q => mu M ((s.2.set k (s.2.getD k 0 ^^^ 1)).getD q 0) (U D gen (B.getD q 0) x)) B.length := fun x hx => by
      rw [hr.sum x hx, Nat.xor_comm]
      have e1 : U D gen (B.getD k 0) x = sg (fun q => if q = k then U D gen (B.getD k 0) x else 0) B.length := by
        rw [sg_one (k := k) B.length (fun q _ hne => if_neg hne), if_pos (by omega), if_pos rfl]
      rw [e1, ← sg_xor]
      refine sg_congr _ fun q hq => ?_
      rw [set_getD _ _ _ _ (by rw [h1.l2]; exact hq)]
      by_cases e : q = k
      · subst e
        rw [if_pos rfl, if_pos rfl, xor_mu, one_mu hM (hW q x hx)]
      · rw [if_neg e, if_neg e, Nat.xor_zero]
    have hcl : ∀ x ∈ s.2.set k (s.2.getD k 0 ^^^ 1), x < 2 ^ M := fun x hx => by
      rcases List.mem_or_eq_of_mem_set hx with hx | rfl
      · exact h1.e2 x hx
      · exact xor_lt' (getD_lt h1.e2 _) (one_lt hM)
    have hcn : (s.2.set k (s.2.getD k 0 ^^^ 1)).length = B.length := by rw [List.length_set]; exact h1.l2
    generalize s.2.set k (s.2.getD k 0 ^^^ 1) = c at *
    by_cases hf : findNZ s.1 < D
    · rw [if_pos hf]
      have hne := findNZ_lt (l := s.1) (by rw [h1.l1]; exact hf)
      generalize findNZ s.1 = col at *
      have hxl := getD_lt h1.e1 col
      obtain ⟨v1, v2⟩ := inv_mu hM hne hxl
      have hvl : invN M (s.1.getD col 0) < 2 ^ M := invN_lt _
      generalize invN M (s.1.getD col 0) = f at *
      have hrep : ∀ m i, (List.replicate m 0).getD i 0 = 0 := fun m i => by
        rw [List.getD_eq_getElem?_getD, List.getElem?_replicate]; split <;> rfl
      have hnr : ∀ x, x < D → (addV M f (List.replicate D 0) s.1 D).getD x 0 = mu M f (s.1.getD x 0) := fun x hx => by
        rw [addV_get _ _ _ _ _ (by simp) x (by simpa using hx), if_pos hx, hrep, Nat.zero_xor]
      have hnc : ∀ q, q < B.length → (addV M f (List.replicate B.length 0) c B.length).getD q 0 = mu M f (c.getD q 0) := fun q hq => by
        rw [addV_get _ _ _ _ _ (by simp) q (by simpa using hq), if_pos hq, hrep, Nat.zero_xor]
      have hz0 : ∀ m, ∀ x ∈ List.replicate m 0, x < 2 ^ M := fun m x hx => by rw [List.eq_of_mem_replicate hx]; exact Nat.two_pow_pos M
      have hok1 : RedRow M D B.length (col, addV M f (List.replicate D 0) s.1 D, addV M f (List.replicate B.length 0) c B.length) :=
        ⟨hf, by rw [addV_length, List.length_replicate], by rw [addV_length, List.length_replicate], addV_lt hM hvl (hz0 _) _, addV_lt hM hvl (hz0 _) _⟩
      have hrw1 : Rw M D B.length (fun q => U D gen (B.getD q 0)) (col, addV M f (List.replicate D 0) s.1 D, addV M f (List.replicate B.length 0) c B.length) := by
        refine ⟨hok1, fun x hx => ?_, ?_⟩
        · show (addV M f (List.replicate D 0) s.1 D).getD x 0 = _
          rw [hnr x hx, hc x hx, sg_mu]
          refine sg_congr _ fun q hq => ?_
          show _ = mu M ((addV M f (List.replicate B.length 0) c B.length).getD q 0) _
          rw [hnc q hq, mu_assoc hM hvl (getD_lt hcl _) (hW q x hx)]
        · show (addV M f (List.replicate D 0) s.1 D).getD col 0 = 1
          rw [hnr col hf]; exact v1
      have hmono : ∀ t, RS rows t → RS (rows ++ [(col, addV M f (List.replicate D 0) s.1 D, addV M f (List.replicate B.length 0) c B.length)]) t := fun t ⟨r, hr, e⟩ => ⟨r, by simp [hr], e⟩
      have hrwA : ∀ r ∈ rows ++ [(col, addV M f (List.replicate D 0) s.1 D, addV M f (List.replicate B.length 0) c B.length)], Rw M D B.length (fun q => U D gen (B.getD q 0)) r := fun r hr => by
        rcases List.mem_append.1 hr with hr | hr
        · exact ih.rw r hr
        · rw [List.mem_singleton.1 hr]; exact hrw1
      refine ⟨hrwA, ?_, fun q hq => ?_⟩
      · refine List.pairwise_append.2 ⟨ih.tri, List.pairwise_singleton _ _, fun a ha b hb => ?_⟩
        rw [List.mem_singleton.1 hb]
        show (addV M f (List.replicate D 0) s.1 D).getD a.1 0 = 0
        rw [hnr _ (ih.rw a ha).ok.c, hz a ha, mu_zero]
      · by_cases hqk : q < k
        · exact (ih.all q hqk).mono hmono
        · have : q = k := by omega
          subst this
          refine .step (hsp2.mono hmono) ⟨_, List.mem_append_right _ (List.mem_singleton.2 rfl), rfl⟩ (c := s.1.getD col 0) hxl fun x hx => ?_
          show U D gen (B.getD q 0) x = (U D gen (B.getD q 0) x ^^^ s.1.getD x 0) ^^^ mu M (s.1.getD col 0) ((addV M f (List.replicate D 0) s.1 D).getD x 0)
          rw [hnr x hx, ← mu_assoc hM hxl hvl (getD_lt h1.e1 _), v2, one_mu hM (getD_lt h1.e1 _), xor_self_cancel]
    · rw [if_neg hf]
      refine ⟨ih.rw, ih.tri, fun q hq => ?_⟩
      by_cases hqk : q < k
      · exact ih.all q hqk
      · have : q = k := by omega
        subst this
        exact hsp2.congr fun x hx => by rw [findNZ_ge (l := s.1) (by rw [h1.l1]; exact hf), Nat.xor_zero]
end Go.Proofs.YtilpljehfcpjeaaDoor
end

section
/- What can be recovered: plain law. -/
namespace Go.Proofs.YtilpljehfcpjeaaDoor
open Go.RowKit
set_option linter.unusedVariables false
set_option linter.unusedSectionVars false

/-- The rows of the present units. -/
def PS (D : Nat) (gen : List Nat) (hv : List Bool) : (Nat → Nat) → Prop := fun s => ∃ u, hv.getD u false = true ∧ s = U D gen u
theorem U_all {M D : Nat} {ps : List (List Nat)} (h : CodeOk M D ps) (u : Nat) : Vc M D (U D (genN D ps) u) := U_vc (gen_ok h) u
section
variable {M D : Nat} {ps : List (List Nat)} {hv : List Bool} (h : CodeOk M D ps) (hl : hv.length = D + ps.length)
include h hl
theorem sp_BP {v : Nat → Nat} : Sp M D (BS D (genN D ps) (basisN M D ps hv)) v ↔ Sp M D (PS D (genN D ps) hv) v := by
  obtain ⟨T, S, hb⟩ := basis_to h hl
  constructor
  · exact Sp.mono fun s ⟨q, hq, e⟩ => ⟨_, hb.mem q hq, e⟩
  · exact Sp.trans h.f (fun s ⟨q, _, e⟩ => by rw [e]; exact U_all h _) fun s ⟨u, hu, e⟩ => by rw [e]; exact hb.present h.f (U_all h) hu
theorem red_left {u : Nat} (hu : u < D + ps.length) :
    Rst M D (basisN M D ps hv).length (fun q => U D (genN D ps) ((basisN M D ps hv).getD q 0)) (U D (genN D ps) u) (redV M (basisN M D ps hv).length (((genN D ps).drop (u * D)).take D) (spanN M D ps hv)) ∧
    ((redV M (basisN M D ps hv).length (((genN D ps).drop (u * D)).take D) (spanN M D ps hv)).1.all (fun x => decide (x = 0)) = true ↔ Sp M D (PS D (genN D ps) hv) (U D (genN D ps) u)) := by
  have hg := gen_ok h
  have hM := h.f
  have hsp := span_to hM hg (basis_lt hl) (basisN M D ps hv).length (Nat.le_refl _)
  have hW : ∀ q, Vc M D (U D (genN D ps) ((basisN M D ps hv).getD q 0)) := fun q => U_all h _
  obtain ⟨p1, p2⟩ := pick_row hg hu
  have hs0 : SubOk M D (basisN M D ps hv).length (((genN D ps).drop (u * D)).take D, List.replicate (basisN M D ps hv).length 0) := ⟨p1, List.length_replicate, p2, fun x hx => by rw [List.eq_of_mem_replicate hx]; exact Nat.two_pow_pos M⟩
  have hr0 : Rst M D (basisN M D ps hv).length (fun q => U D (genN D ps) ((basisN M D ps hv).getD q 0)) (U D (genN D ps) u) (((genN D ps).drop (u * D)).take D, List.replicate (basisN M D ps hv).length 0) := ⟨hs0, fun x hx => by
    rw [row_getD hg hu hx, sg_congr (basisN M D ps hv).length (fun q hq => show mu M ((List.replicate (basisN M D ps hv).length 0).getD q 0) _ = 0 by
      rw [List.getD_eq_getElem?_getD, List.getElem?_replicate, if_pos hq]; exact zero_mu _), sg_zero, Nat.xor_zero]⟩
  have hr := fold_rst hM hW (spanN M D ps hv) hsp.rw _ hr0
  have hz := fold_zero hM (spanN M D ps hv) hsp.rw hsp.tri _ hs0
  have hfs := fold_span hM hsp.rw (spanN M D ps hv) (fun _ h => h) _ hs0
  refine ⟨hr, ?_⟩
  rw [← sp_BP h hl]
  have hbs : ∀ s, BS D (genN D ps) (basisN M D ps hv) s → Vc M D s := fun s ⟨q, _, e⟩ => by rw [e]; exact U_all h _
  constructor
  · intro h0
    rw [List.all_eq_true] at h0
    have hsum := Sp.sum (M := M) (D := D) hM hbs (c := fun q => (redV M (basisN M D ps hv).length (((genN D ps).drop (u * D)).take D) (spanN M D ps hv)).2.getD q 0) (w := fun q => U D (genN D ps) ((basisN M D ps hv).getD q 0)) (basisN M D ps hv).length (fun q hq => ⟨getD_lt hr.ok.e2 _, Sp.of hM hbs ⟨q, hq, rfl⟩⟩)
    refine hsum.congr fun x hx => ?_
    have h1 := hr.sum x hx
    have h2 : (List.foldl (subR M) (((genN D ps).drop (u * D)).take D, List.replicate (basisN M D ps hv).length 0) (spanN M D ps hv)).1.getD x 0 = 0 := by
      have hx2 : x < (redV M (basisN M D ps hv).length (((genN D ps).drop (u * D)).take D) (spanN M D ps hv)).1.length := by
        have := hr.ok.l1; unfold redV; omega
      have := h0 _ (List.getElem_mem hx2)
      rw [List.getD_eq_getElem?_getD]
      have e : (redV M (basisN M D ps hv).length (((genN D ps).drop (u * D)).take D) (spanN M D ps hv)).1[x]? = some ((redV M (basisN M D ps hv).length (((genN D ps).drop (u * D)).take D) (spanN M D ps hv)).1[x]) := List.getElem?_eq_getElem hx2
      unfold redV at e this
      rw [e]
      simpa using this
    rw [h2] at h1
    exact eq_of_xor h1.symm
  · intro hs
    have hv2 : Sp M D (RS (spanN M D ps hv)) (U D (genN D ps) u) := Sp.trans hM (RS_vc hsp.rw) (fun s ⟨q, hq, e⟩ => by rw [e]; exact hsp.all q hq) hs
    have hrest : Sp M D (RS (spanN M D ps hv)) (fun x => (redV M (basisN M D ps hv).length (((genN D ps).drop (u * D)).take D) (spanN M D ps hv)).1.getD x 0) := (hv2.add hfs).congr fun x hx => by
      show _ = U D (genN D ps) u x ^^^ ((((genN D ps).drop (u * D)).take D).getD x 0 ^^^ _)
      rw [row_getD hg hu hx, ← Nat.xor_assoc, Nat.xor_self, Nat.zero_xor]
      rfl
    have h0 := tri_zero hM hsp.rw hsp.tri hrest hz
    rw [List.all_eq_true]
    intro y hy
    obtain ⟨x, hx, rfl⟩ := List.getElem_of_mem hy
    have hxD : x < D := by have := hr.ok.l1; unfold redV at hx; omega
    have := h0 x hxD
    rw [List.getD_eq_getElem?_getD, List.getElem?_eq_getElem hx] at this
    simpa using this
/-- The terms of a recoverable unit. -/
theorem comb_some {u : Nat} (hu : u < D + ps.length) {l : List (Nat × Nat)} (hc : combN M D ps hv u = some l) : ∃ K : List Nat, K.length = (basisN M D ps hv).length ∧ (∀ x ∈ K, x < 2 ^ M) ∧ l = tmsAt (basisN M D ps hv) K (basisN M D ps hv).length ∧
    ∀ x, x < D → U D (genN D ps) u x = sg (fun q => mu M (K.getD q 0) (U D (genN D ps) ((basisN M D ps hv).getD q 0) x)) (basisN M D ps hv).length := by
  obtain ⟨hr, _⟩ := red_left h hl hu
  unfold combN termsN at hc
  dsimp only at hc
  generalize redV M (basisN M D ps hv).length (((genN D ps).drop (u * D)).take D) (spanN M D ps hv) = s at *
  split at hc
  · rename_i e
    refine ⟨s.2, hr.ok.l2, hr.ok.e2, (Option.some.inj hc).symm, fun x hx => ?_⟩
    have h1 := hr.sum x hx
    have hx2 : x < s.1.length := by have := hr.ok.l1; omega
    have h2 : s.1.getD x 0 = 0 := by
      rw [List.getD_eq_getElem?_getD, List.getElem?_eq_getElem hx2]
      rw [List.all_eq_true] at e
      simpa using e _ (List.getElem_mem hx2)
    rw [h2] at h1
    exact eq_of_xor h1.symm
  · cases hc
end
/-- Unit vectors. -/
def eu' (q : Nat) : Nat → Nat := fun x => if x = q then 1 else 0
theorem Iso.sp {M D : Nat} {T S : (Nat → Nat) → Nat → Nat} (h : Iso M D T S) {A A' : (Nat → Nat) → Prop} (hA : ∀ s, A s → Vc M D s ∧ A' (T s)) {v : Nat → Nat} (hv : Sp M D A v) : Sp M D A' (T v) := by
  induction hv with
  | zero h0 => exact .zero fun x hx => h.zero h0 x hx
  | step h1 hs hc h2 ih =>
    rename_i u s v c
    obtain ⟨a1, a2⟩ := hA _ hs
    refine .step ih a2 hc fun x hx => ?_
    rw [h.congr _ _ h2 x hx, h.add u (fun k => mu M c (s k)) x hx, h.smul c s hc a1 x hx]
end Go.Proofs.YtilpljehfcpjeaaDoor
end

section
/- Texts as lists of a field's elements; what a sound sum of units is: plain law. -/
namespace Go.Proofs.YtilpljehfcpjeaaDoor
open Go.RowKit
set_option linter.unusedVariables false
set_option linter.unusedSectionVars false

theorem gt_id {D : Nat} : ∀ n, n ≤ D → ∀ r c, r < D → c < D → gt D (idAt D n) r c = if r < n ∧ r = c then 1 else 0
  | 0, _, r, c, _, _ => by
    rw [if_neg (by omega)]
    unfold gt idAt
    rw [List.getD_eq_getElem?_getD, List.getElem?_replicate]
    split <;> rfl
  | n + 1, hn, r, c, hr, hc => by
    rw [idAt, gt_set (R := D) (by rw [idAt_length]) (by omega) (by omega) hc, gt_id n (by omega) r c hr hc]
    by_cases h : r = n ∧ c = n
    · rw [if_pos h, if_pos (by omega)]
    · rw [if_neg h]
      by_cases h2 : r < n ∧ r = c
      · rw [if_pos h2, if_pos (by omega)]
      · rw [if_neg h2, if_neg (by omega)]
/-- A data unit's row is a unit vector. -/
theorem U_data {D : Nat} {ps : List (List Nat)} {u x : Nat} (hu : u < D) (hx : x < D) : U D (genN D ps) u x = eu' u x := by
  have h := gt_id D (Nat.le_refl _) u x hu hx
  unfold U gt genN
  unfold gt at h
  rw [List.getD_eq_getElem?_getD] at h ⊢
  rw [List.getElem?_append_left (by rw [idAt_length]; exact idx_lt hu hx), h]
  unfold eu'
  by_cases e : u = x
  · subst e; rw [if_pos ⟨hu, rfl⟩, if_pos rfl]
  · rw [if_neg (by omega), if_neg (fun e2 => e e2.symm)]
theorem flat_get {D x : Nat} (hx : x < D) : ∀ {ps : List (List Nat)} (_ : ∀ r ∈ ps, r.length = D) (i : Nat), i < ps.length → ps.flatten.getD (i * D + x) 0 = (ps.getD i []).getD x 0
  | [], _, i, h => by simp at h
  | r :: ps, hr, i, h => by
    have h0 := hr r (by simp)
    rw [List.flatten_cons, List.getD_eq_getElem?_getD]
    cases i with
    | zero => rw [List.getElem?_append_left (by omega), Nat.zero_mul, Nat.zero_add, ← List.getD_eq_getElem?_getD]; rfl
    | succ i =>
      have e : (i + 1) * D + x - r.length = i * D + x := by rw [Nat.add_mul]; omega
      rw [List.getElem?_append_right (by rw [Nat.add_mul]; omega), e, ← List.getD_eq_getElem?_getD, flat_get hx (fun s hs => hr s (by simp [hs])) i (by simpa using h)]
      rfl
/-- A parity unit's row. -/
theorem U_par {M D : Nat} {ps : List (List Nat)} (h : CodeOk M D ps) {i x : Nat} (hi : i < ps.length) (hx : x < D) : U D (genN D ps) (D + i) x = (ps.getD i []).getD x 0 := by
  rw [← flat_get hx (fun r hr => (h.row r hr).1) i hi]
  unfold U gt genN
  have e : (D + i) * D + x - (idAt D D).length = i * D + x := by rw [idAt_length, Nat.add_mul]; omega
  rw [List.getD_eq_getElem?_getD, List.getElem?_append_right (by rw [idAt_length, Nat.add_mul]; omega), e, ← List.getD_eq_getElem?_getD]
theorem U_ne {M D : Nat} {ps : List (List Nat)} (h : CodeOk M D ps) {u : Nat} (hu : u < D + ps.length) : ∃ x, x < D ∧ U D (genN D ps) u x ≠ 0 := by
  by_cases hd : u < D
  · exact ⟨u, hd, by rw [U_data hd hd]; simp [eu']⟩
  · obtain ⟨i, rfl⟩ : ∃ i, u = D + i := ⟨u - D, by omega⟩
    have hi : i < ps.length := by omega
    obtain ⟨h1, h2, y, h3, h4⟩ := h.row _ (List.getElem_mem hi)
    obtain ⟨x, hx, rfl⟩ := List.getElem_of_mem h3
    refine ⟨x, by omega, ?_⟩
    rw [U_par h hi (by omega), List.getD_eq_getElem?_getD (l := ps), List.getElem?_eq_getElem hi, Option.getD_some, List.getD_eq_getElem?_getD, List.getElem?_eq_getElem hx]
    exact h4

/-- The sum over a list. -/
def lx {α : Type} (f : α → Nat) : List α → Nat
  | [] => 0
  | a :: l => f a ^^^ lx f l
theorem lx_append {α : Type} (f : α → Nat) : ∀ l l' : List α, lx f (l ++ l') = lx f l ^^^ lx f l'
  | [], l' => by simp [lx]
  | a :: l, l' => by rw [List.cons_append, lx, lx, lx_append f l l', Nat.xor_assoc]
section
variable {M D n : Nat} {ps us : List (List Nat)} (h : CodeOk M D ps) (hl : us.length = D) (hu : ∀ u ∈ us, isB u ∧ u.length = n) (he : FitM M n)
include h hl hu he
end
/-- Terms whose sum is a unit. -/
def Sound (M D : Nat) (ps : List (List Nat)) (u : Nat) (l : List (Nat × Nat)) : Prop := ∀ x, x < D → lx (fun t => mu M t.2 (U D (genN D ps) t.1 x)) l = U D (genN D ps) u x
section
variable {M D n : Nat} {ps us : List (List Nat)} (h : CodeOk M D ps) (hl : us.length = D) (hu : ∀ u ∈ us, isB u ∧ u.length = n) (he : FitM M n)
include h hl hu he
end
theorem lx_tms (M : Nat) (B K : List Nat) (G : Nat → Nat) : ∀ n, lx (fun t => mu M t.2 (G t.1)) (tmsAt B K n) = sg (fun q => mu M (K.getD q 0) (G (B.getD q 0))) n
  | 0 => rfl
  | n + 1 => by
    rw [tmsAt_succ, sg]
    split
    · rename_i e
      rw [e, zero_mu, Nat.xor_zero]; exact lx_tms M B K G n
    · rw [lx_append, lx_tms M B K G n]
      simp [lx]
/-- What holds of a recoverable unit's terms. -/
structure CombOk (M D : Nat) (ps : List (List Nat)) (hv : List Bool) (u : Nat) (l : List (Nat × Nat)) : Prop where
  snd : Sound M D ps u l
  lt : ∀ t ∈ l, t.2 < 2 ^ M ∧ t.2 ≠ 0
  pres : ∀ t ∈ l, hv.getD t.1 false = true
  inc : l.Pairwise fun a b => a.1 < b.1
  le : l.length ≤ (basisN M D ps hv).length
theorem comb_ok {M D : Nat} {ps : List (List Nat)} {hv : List Bool} (h : CodeOk M D ps) (hl : hv.length = D + ps.length) {u : Nat} (hu : u < D + ps.length) {l : List (Nat × Nat)} (hc : combN M D ps hv u = some l) : CombOk M D ps hv u l := by
  obtain ⟨K, k1, k2, rfl, k4⟩ := comb_some h hl hu hc
  obtain ⟨T, S, hb⟩ := basis_to h hl
  have hmem : ∀ t ∈ tmsAt (basisN M D ps hv) K (basisN M D ps hv).length, ∃ q, q < (basisN M D ps hv).length ∧ K.getD q 0 ≠ 0 ∧ t = ((basisN M D ps hv).getD q 0, K.getD q 0) := fun t ht => by
    unfold tmsAt at ht
    obtain ⟨q, hq, rfl⟩ := List.mem_map.1 ht
    obtain ⟨q1, q2⟩ := List.mem_filter.1 hq
    exact ⟨q, List.mem_range.1 q1, by simpa using q2, rfl⟩
  refine ⟨fun x hx => ?_, fun t ht => ?_, fun t ht => ?_, ?_, tmsAt_length _ _ _⟩
  · rw [lx_tms M (basisN M D ps hv) K (fun u => U D (genN D ps) u x), k4 x hx]
  · obtain ⟨q, q1, q2, rfl⟩ := hmem t ht
    exact ⟨getD_lt k2 _, q2⟩
  · obtain ⟨q, q1, q2, rfl⟩ := hmem t ht
    exact hb.mem q q1
  · unfold tmsAt
    rw [List.pairwise_map]
    refine (List.Pairwise.filter _ List.pairwise_lt_range).imp_of_mem fun {a b} ha hb2 hab => ?_
    have hb3 := List.mem_range.1 (List.mem_filter.1 hb2).1
    exact hb.inc a b hab hb3
/-- A recoverable unit has terms. -/
theorem CombOk.pos {M D : Nat} {ps : List (List Nat)} {hv : List Bool} (h : CodeOk M D ps) {u : Nat} (hu : u < D + ps.length) {l : List (Nat × Nat)} (hc : CombOk M D ps hv u l) : 0 < l.length := by
  cases l with
  | nil =>
    obtain ⟨x, hx, hne⟩ := U_ne h hu
    exact absurd (hc.snd x hx).symm hne
  | cons a l => simp
end Go.Proofs.YtilpljehfcpjeaaDoor
end

section
/- Full bases; one unit more; stripes with gaps: plain law. -/
namespace Go.Proofs.YtilpljehfcpjeaaDoor
open Go.RowKit
set_option linter.unusedVariables false
set_option linter.unusedSimpArgs false
set_option linter.unusedSectionVars false
set_option maxHeartbeats 4000000
set_option maxRecDepth 100000

section
variable {M D : Nat} {ps : List (List Nat)} {hv : List Bool} (h : CodeOk M D ps) (hl : hv.length = D + ps.length)
include h hl
end
section
variable {M D k : Nat} {ps : List (List Nat)} {hv : List Bool} (h : CodeOk M D ps) (hl : hv.length = D + ps.length) (hk : k < D + ps.length)
include h hl hk
end
section
variable {M D n : Nat} {ps us : List (List Nat)} {hv : List Bool} {nz : List Nat} (h : CodeOk M D ps) (hl : us.length = D) (hu : ∀ u ∈ us, isB u ∧ u.length = n) (he : FitM M n) (hvl : hv.length = D + ps.length)
include h hl hu he hvl
end
/-- Are the first k all there? -/
def allS {α : Type} (C : Nat → Option α) (k : Nat) : Bool := (List.range k).all fun i => (C i).isSome
theorem allS_succ {α : Type} (C : Nat → Option α) (k : Nat) : allS C (k + 1) = (allS C k && (C k).isSome) := by
  unfold allS; rw [List.range_succ, List.all_append]; simp
/-- The first that is not there. -/
theorem first_none {α : Type} (C : Nat → Option α) : ∀ W, ∃ q, q ≤ W ∧ (∀ i, i < q → (C i).isSome = true) ∧ (q < W → C q = none) ∧ allS C W = decide (q = W)
  | 0 => ⟨0, Nat.le_refl _, fun i h => by omega, fun h => by omega, rfl⟩
  | W + 1 => by
    obtain ⟨q, h1, h2, h3, h4⟩ := first_none C W
    by_cases e : q = W
    · subst e
      cases hc : C q with
      | none => exact ⟨q, by omega, h2, fun _ => hc, by rw [allS_succ, hc]; simp⟩
      | some x => exact ⟨q + 1, by omega, fun i hi => by
          by_cases e : i = q
          · rw [e, hc]; rfl
          · exact h2 i (by omega), fun h => by omega, by rw [allS_succ, h4, hc]; simp⟩
    · exact ⟨q, by omega, h2, fun _ => h3 (by omega), by rw [allS_succ, h4, decide_eq_false e, decide_eq_false (by omega)]; rfl⟩
end Go.Proofs.YtilpljehfcpjeaaDoor
end

section
/- The reference of layer 8 over the machine of abstract values: Valid, Width, Row, SameInts, SameTexts. -/
namespace Go.Proofs.YtilpljehfcpjeaaDoor
open Go.RowKit
set_option linter.unusedVariables false
set_option linter.unusedSimpArgs false
set_option maxHeartbeats 4000000
set_option maxRecDepth 100000
attribute [local irreducible] Quiet Eff OpOk AWPG ACont ABlock ACalls AGoto

/-- Is one of the first j elements not 0? -/
def someB (r : List Int) (j : Nat) : Bool := !((r.take j).all fun x => decide (x = 0))
theorem someB_succ (r : List Int) (j : Nat) (h : j < r.length) : someB r (j + 1) = (someB r j || decide (r[j] ≠ 0)) := by
  unfold someB
  rw [List.take_succ_eq_append_getElem h, List.all_append]
  simp [Bool.not_and]
theorem A_r8valid {M D : Int} {par : List (List Int)} (hD : D ≤ 1000000) (hP : par.length ≤ 1000000) : ACalls Tryd.prog 28 [cdA M D par] [] (bV (validC M D par)) [] := by
  refine acalls_of_bodyO Tryd.func28 rfl (Nat.le_of_ble_eq_true rfl) ?_
  have hmp : (par.map rD).length = par.length := List.length_map _
  have h0 : allF M [0] = decide (M = 8 ∨ M = 16) := by
    unfold allF
    by_cases h : M = 8 ∨ M = 16
    · rw [decide_eq_true h]
      rcases h with rfl | rfl <;> rfl
    · rw [decide_eq_false h]; rfl
  by_cases hg : (M = 8 ∨ M = 16) ∧ 1 ≤ D ∧ D + par.length ≤ 32
  · obtain ⟨g1, g2, g3⟩ := hg
    have hv : validC M D par = par.all (rowOk M D) := by
      unfold validC
      rw [h0, decide_eq_true g1, decide_eq_true g2, decide_eq_true (show par.length ≤ 32 by omega), decide_eq_true (show D ≤ 32 - (par.length : Int) by omega)]
      rfl
    rw [hv]
    have hbad : ∀ k (h : k < par.length), rowOk M D par[k] = false → par.all (rowOk M D) = false := fun k h e => List.all_eq_false.2 ⟨par[k], List.getElem_mem h, by rw [e]; decide⟩
    have hall : (∀ r ∈ par, rowOk M D r = true) → par.all (rowOk M D) = true := fun h => List.all_eq_true.2 h
    generalize par.all (rowOk M D) = V at *
    clear hv h0
    (repeat' (first
  | (apply W.gOn; exact rfl; exact rfl)
  | (apply W.qd; (first
    | (apply q_mv; (first
    | exact Eq.refl (AV.d _)
    | exact Eq.refl (AV.osl _ _ _ _)
    | exact Eq.refl (AV.opt _ _)
    | exact Eq.refl (AV.agg _)
    | exact Eq.refl (AV.fpt _ _ _ _)
    | exact Eq.refl (AV.rpt _ _ _ _)
    | exact Eq.refl (AV.fn _ _)
    | exact Eq.refl (AV.yl _)
    | exact Eq.refl (AV.tup _)
    | exact Eq.refl AV.top))
    | (apply q_as; (first
    | exact Eq.refl (AV.d _)
    | exact Eq.refl (AV.osl _ _ _ _)
    | exact Eq.refl (AV.opt _ _)
    | exact Eq.refl (AV.agg _)
    | exact Eq.refl (AV.fpt _ _ _ _)
    | exact Eq.refl (AV.rpt _ _ _ _)
    | exact Eq.refl (AV.fn _ _)
    | exact Eq.refl (AV.yl _)
    | exact Eq.refl (AV.tup _)
    | exact Eq.refl AV.top))
    | (apply q_fld_optF; exact rfl; exact rfl; exact rfl)
    | (apply q_ld_box; exact rfl; exact rfl; exact rfl; exact rfl)
    | (apply q_lss; exact rfl; exact rfl)
    | (apply q_gtr; exact rfl; exact rfl)
    | (apply q_neq; exact rfl; exact rfl)
    | (apply q_add; exact rfl; exact rfl; omega)
    | (apply q_len_sl; exact rfl; exact rfl)
    | (apply (q_pickT (u := .d _)); exact rfl; exact rfl)
    | (apply (q_pickF (u := .d _)); exact rfl; exact rfl)))
  | (apply W.ed; (apply e_boxF; exact rfl; exact rfl; exact rfl; kernel_rfl; kernel_rfl))
  | (refine W.gOff _ _ rfl rfl (by intro h; cases h) ?_)
  | (apply AWP.seq)
  | (apply ACont_normal)
  | (apply W.region; kernel_rfl)
  | (apply Walk.nil)
  | (apply AWP.block)
  | (apply AWP.skip)
  | (refine W.gT _ _ rfl rfl (fun hb => ?_) (fun hb => ?_) <;> ((try simp only [hb, Bool.not_true, Bool.not_false]) <;> (try simp only [decide_eq_true_eq, decide_eq_false_iff_not, Bool.not_eq_true', Bool.not_eq_false', Int.not_lt, Int.not_le, List.length_map, not_true_eq_false] at hb) <;> (try (exfalso; omega))))
  | (refine W.gF _ _ rfl rfl (fun hb => ?_) (fun hb => ?_) <;> ((try simp only [hb, Bool.not_true, Bool.not_false]) <;> (try simp only [decide_eq_true_eq, decide_eq_false_iff_not, Bool.not_eq_true', Bool.not_eq_false', Int.not_lt, Int.not_le, List.length_map, not_true_eq_false] at hb) <;> (try (exfalso; omega))))
  | (refine W.cond _ rfl (fun hb => ?_) (fun hb => ?_) <;> ((try simp only [hb, Bool.not_true, Bool.not_false]) <;> (try simp only [decide_eq_true_eq, decide_eq_false_iff_not, Bool.not_eq_true', Bool.not_eq_false', Int.not_lt, Int.not_le, List.length_map, not_true_eq_false] at hb) <;> (try (exfalso; omega))))))
    all_goals
      refine AWP.loopW (α := Nat) (fun k => k ≤ par.length ∧ ∀ r ∈ par.take k, rowOk M D r = true) (fun k => ⟨[(3, iV k), (1, .opt 0 0)], [.box [.d .any, iV M, iV D, rowsA par, .d .any]]⟩) (fun k => par.length - k) 0 ⟨by omega, by simp⟩ ⟨[0], rfl, rfl, rfl, by (repeat (first | exact trivial | refine ⟨rfl, ?_⟩))⟩ fun k hk => ?_
      by_cases hkl : k < par.length
      · have hbk := hbad k hkl
        by_cases hrl : (par[k].length : Int) = D
        · have hro : rowOk M D par[k] = (par[k].all (fun x => allF M [x]) && !(par[k].all fun x => decide (x = 0))) := by
            unfold rowOk; rw [decide_eq_true hrl, Bool.true_and]
          (repeat' (first
  | (apply W.qd; (first
    | (apply q_mv; (first
    | exact Eq.refl (AV.d _)
    | exact Eq.refl (AV.osl _ _ _ _)
    | exact Eq.refl (AV.opt _ _)
    | exact Eq.refl (AV.agg _)
    | exact Eq.refl (AV.fpt _ _ _ _)
    | exact Eq.refl (AV.rpt _ _ _ _)
    | exact Eq.refl (AV.fn _ _)
    | exact Eq.refl (AV.yl _)
    | exact Eq.refl (AV.tup _)
    | exact Eq.refl AV.top))
    | (apply q_as; (first
    | exact Eq.refl (AV.d _)
    | exact Eq.refl (AV.osl _ _ _ _)
    | exact Eq.refl (AV.opt _ _)
    | exact Eq.refl (AV.agg _)
    | exact Eq.refl (AV.fpt _ _ _ _)
    | exact Eq.refl (AV.rpt _ _ _ _)
    | exact Eq.refl (AV.fn _ _)
    | exact Eq.refl (AV.yl _)
    | exact Eq.refl (AV.tup _)
    | exact Eq.refl AV.top))
    | (apply q_fld_optF; exact rfl; exact rfl; exact rfl)
    | (apply q_ld_box; exact rfl; exact rfl; exact rfl; exact rfl)
    | (apply q_lss; exact rfl; exact rfl)
    | (apply q_neq; exact rfl; exact rfl)
    | (apply q_len_sl; exact rfl; exact rfl)
    | (apply q_ld_map; exact rfl; exact rfl; exact rfl; (first | omega | (focus (simp; done))))
    | (apply q_ix_slF; exact rfl; exact rfl; exact rfl; exact rfl; (first | (with_reducible exact rfl) | exact natI_spec rfl | assumption | exact (Int.toNat_of_nonneg (by omega)).symm); (first | omega | (focus (simp only [List.length_map]; omega)) | (focus (simp; done)) | (focus (simp; omega))))))
  | (apply AWP.seq)
  | (apply ACont_normal)
  | (apply W.region; kernel_rfl)
  | (apply W.regionD; exact rfl; kernel_rfl)
  | (apply Walk.nil)
  | (apply W.chk; kernel_rfl)
  | (apply AWP.block)
  | (apply AWP.skip)
  | (refine W.cond _ rfl (fun hb => ?_) (fun hb => ?_) <;> ((try simp only [hb, Bool.not_true, Bool.not_false]) <;> (try simp only [decide_eq_true_eq, decide_eq_false_iff_not, Bool.not_eq_true', Bool.not_eq_false', Int.not_lt, Int.not_le, List.length_map, not_true_eq_false] at hb) <;> (try (exfalso; omega))))))
          refine AWP.loopW (α := Nat) (fun j => j ≤ par[k].length ∧ ∀ x ∈ par[k].take j, allF M [x] = true) (fun j => ⟨[(5, iV j), (4, bV (someB par[k] j)), (3, iV k), (1, .opt 0 0)], [.box [.d .any, iV M, iV D, rowsA par, .d .any]]⟩) (fun j => par[k].length - j) 0 ⟨by omega, by simp⟩ ⟨[0], rfl, rfl, rfl, by (repeat (first | exact trivial | refine ⟨rfl, ?_⟩))⟩ fun j hj => ?_
          by_cases hjl : j < par[k].length
          · have hx := A_rfvalid M (par[k][j])
            have hss := someB_succ par[k] j hjl
            cases hf : allF M [par[k][j]] <;> rw [hf] at hx
            · have hV : V = false := hbk (by
                rw [hro, List.all_eq_false.2 ⟨par[k][j], List.getElem_mem _, by rw [hf]; decide⟩]; rfl)
              subst hV
              (repeat' (first
  | (apply W.qd; (first
    | (apply (q_callC (hx)); exact rfl; exact rfl; kernel_rfl; kernel_rfl; kernel_rfl)
    | (apply q_mv; (first
    | exact Eq.refl (AV.d _)
    | exact Eq.refl (AV.osl _ _ _ _)
    | exact Eq.refl (AV.opt _ _)
    | exact Eq.refl (AV.agg _)
    | exact Eq.refl (AV.fpt _ _ _ _)
    | exact Eq.refl (AV.rpt _ _ _ _)
    | exact Eq.refl (AV.fn _ _)
    | exact Eq.refl (AV.yl _)
    | exact Eq.refl (AV.tup _)
    | exact Eq.refl AV.top))
    | (apply q_as; (first
    | exact Eq.refl (AV.d _)
    | exact Eq.refl (AV.osl _ _ _ _)
    | exact Eq.refl (AV.opt _ _)
    | exact Eq.refl (AV.agg _)
    | exact Eq.refl (AV.fpt _ _ _ _)
    | exact Eq.refl (AV.rpt _ _ _ _)
    | exact Eq.refl (AV.fn _ _)
    | exact Eq.refl (AV.yl _)
    | exact Eq.refl (AV.tup _)
    | exact Eq.refl AV.top))
    | (apply q_fld_optF; exact rfl; exact rfl; exact rfl)
    | (apply q_ld_box; exact rfl; exact rfl; exact rfl; exact rfl)
    | (apply q_lss; exact rfl; exact rfl)
    | (apply q_not; exact rfl)
    | (apply q_ld_map; exact rfl; exact rfl; exact rfl; (first | omega | (focus (simp; done))))
    | (apply q_ix_slF; exact rfl; exact rfl; exact rfl; exact rfl; (first | (with_reducible exact rfl) | exact natI_spec rfl | assumption | exact (Int.toNat_of_nonneg (by omega)).symm); (first | omega | (focus (simp only [List.length_map]; omega)) | (focus (simp; done)) | (focus (simp; omega))))))
  | (apply AWP.seq)
  | (apply ACont_normal)
  | (apply W.region; kernel_rfl)
  | (apply W.regionD; exact rfl; kernel_rfl)
  | (apply Walk.nil)
  | (apply W.chk; kernel_rfl)
  | (apply AWP.block)
  | (apply AWP.skip)
  | (apply AWP.ret)
  | (apply ACont_ret)
  | (apply ABlock_ret)
  | (apply W.condT; exact rfl)
  | (refine W.cond _ rfl (fun hb => ?_) (fun hb => ?_) <;> ((try simp only [hb, Bool.not_true, Bool.not_false]) <;> (try simp only [decide_eq_true_eq, decide_eq_false_iff_not, Bool.not_eq_true', Bool.not_eq_false', Int.not_lt, Int.not_le, List.length_map, not_true_eq_false] at hb) <;> (try (exfalso; omega))))))
              all_goals exact ⟨.inl rfl, [], [bV false], rfl, rfl, ⟨rfl, trivial⟩, AVle.of_eq rfl, rfl⟩
            · have hj2 : ∀ x ∈ par[k].take (j + 1), allF M [x] = true := fun x hx2 => by
                rw [List.take_succ_eq_append_getElem hjl] at hx2
                rcases List.mem_append.1 hx2 with h | h
                · exact hj.2 x h
                · rw [List.mem_singleton.1 h]; exact hf
              generalize someB par[k] j = s at *
              replace hss := Lib.hid hss
              cases s
              · (repeat' (first
  | (apply W.gOn; exact rfl; exact rfl)
  | (apply W.qd; (first
    | (apply (q_callC (hx)); exact rfl; exact rfl; kernel_rfl; kernel_rfl; kernel_rfl)
    | (apply q_mv; (first
    | exact Eq.refl (AV.d _)
    | exact Eq.refl (AV.osl _ _ _ _)
    | exact Eq.refl (AV.opt _ _)
    | exact Eq.refl (AV.agg _)
    | exact Eq.refl (AV.fpt _ _ _ _)
    | exact Eq.refl (AV.rpt _ _ _ _)
    | exact Eq.refl (AV.fn _ _)
    | exact Eq.refl (AV.yl _)
    | exact Eq.refl (AV.tup _)
    | exact Eq.refl AV.top))
    | (apply q_as; (first
    | exact Eq.refl (AV.d _)
    | exact Eq.refl (AV.osl _ _ _ _)
    | exact Eq.refl (AV.opt _ _)
    | exact Eq.refl (AV.agg _)
    | exact Eq.refl (AV.fpt _ _ _ _)
    | exact Eq.refl (AV.rpt _ _ _ _)
    | exact Eq.refl (AV.fn _ _)
    | exact Eq.refl (AV.yl _)
    | exact Eq.refl (AV.tup _)
    | exact Eq.refl AV.top))
    | (apply q_fld_optF; exact rfl; exact rfl; exact rfl)
    | (apply q_ld_box; exact rfl; exact rfl; exact rfl; exact rfl)
    | (apply q_lss; exact rfl; exact rfl)
    | (apply q_neq; exact rfl; exact rfl)
    | (apply q_not; exact rfl)
    | (apply q_add; exact rfl; exact rfl; omega)
    | (apply q_ld_map; exact rfl; exact rfl; exact rfl; (first | omega | (focus (simp; done))))
    | (apply q_ix_slF; exact rfl; exact rfl; exact rfl; exact rfl; (first | (with_reducible exact rfl) | exact natI_spec rfl | assumption | exact (Int.toNat_of_nonneg (by omega)).symm); (first | omega | (focus (simp only [List.length_map]; omega)) | (focus (simp; done)) | (focus (simp; omega))))
    | (apply (q_pickF (u := .d _)); exact rfl; exact rfl)))
  | (apply AWP.seq)
  | (apply ACont_normal)
  | (apply W.region; kernel_rfl)
  | (apply W.regionD; exact rfl; kernel_rfl)
  | (apply Walk.nil)
  | (apply W.chk; kernel_rfl)
  | (apply AWP.block)
  | (apply AWP.skip)
  | (apply ABlock_normal)
  | (apply W.condF; exact rfl)
  | (refine W.cond _ rfl (fun hb => ?_) (fun hb => ?_) <;> ((try simp only [hb, Bool.not_true, Bool.not_false]) <;> (try simp only [decide_eq_true_eq, decide_eq_false_iff_not, Bool.not_eq_true', Bool.not_eq_false', Int.not_lt, Int.not_le, List.length_map, not_true_eq_false] at hb) <;> (try (exfalso; omega))))))
                refine ⟨j + 1, ⟨by omega, hj2⟩, by omega, [0], rfl, rfl, rfl, iV_eq (by omega), ?_, rfl, rfl, trivial⟩
                rw [hss.out]
                exact congrArg bV (show (false || decide (par[k][j] ≠ 0)) = !decide (par[k][j] = 0) by simp)
              · (repeat' (first
  | (apply W.qd; (first
    | (apply (q_callC (hx)); exact rfl; exact rfl; kernel_rfl; kernel_rfl; kernel_rfl)
    | (apply q_mv; (first
    | exact Eq.refl (AV.d _)
    | exact Eq.refl (AV.osl _ _ _ _)
    | exact Eq.refl (AV.opt _ _)
    | exact Eq.refl (AV.agg _)
    | exact Eq.refl (AV.fpt _ _ _ _)
    | exact Eq.refl (AV.rpt _ _ _ _)
    | exact Eq.refl (AV.fn _ _)
    | exact Eq.refl (AV.yl _)
    | exact Eq.refl (AV.tup _)
    | exact Eq.refl AV.top))
    | (apply q_as; (first
    | exact Eq.refl (AV.d _)
    | exact Eq.refl (AV.osl _ _ _ _)
    | exact Eq.refl (AV.opt _ _)
    | exact Eq.refl (AV.agg _)
    | exact Eq.refl (AV.fpt _ _ _ _)
    | exact Eq.refl (AV.rpt _ _ _ _)
    | exact Eq.refl (AV.fn _ _)
    | exact Eq.refl (AV.yl _)
    | exact Eq.refl (AV.tup _)
    | exact Eq.refl AV.top))
    | (apply q_fld_optF; exact rfl; exact rfl; exact rfl)
    | (apply q_ld_box; exact rfl; exact rfl; exact rfl; exact rfl)
    | (apply q_lss; exact rfl; exact rfl)
    | (apply q_not; exact rfl)
    | (apply q_add; exact rfl; exact rfl; omega)
    | (apply q_ld_map; exact rfl; exact rfl; exact rfl; (first | omega | (focus (simp; done))))
    | (apply q_ix_slF; exact rfl; exact rfl; exact rfl; exact rfl; (first | (with_reducible exact rfl) | exact natI_spec rfl | assumption | exact (Int.toNat_of_nonneg (by omega)).symm); (first | omega | (focus (simp only [List.length_map]; omega)) | (focus (simp; done)) | (focus (simp; omega))))
    | (apply (q_pickT (u := .d _)); exact rfl; exact rfl)))
  | (refine W.gOff _ _ rfl rfl (by intro h; cases h) ?_)
  | (apply AWP.seq)
  | (apply ACont_normal)
  | (apply W.region; kernel_rfl)
  | (apply W.regionD; exact rfl; kernel_rfl)
  | (apply Walk.nil)
  | (apply W.chk; kernel_rfl)
  | (apply AWP.block)
  | (apply AWP.skip)
  | (apply ABlock_normal)
  | (apply W.condF; exact rfl)
  | (refine W.cond _ rfl (fun hb => ?_) (fun hb => ?_) <;> ((try simp only [hb, Bool.not_true, Bool.not_false]) <;> (try simp only [decide_eq_true_eq, decide_eq_false_iff_not, Bool.not_eq_true', Bool.not_eq_false', Int.not_lt, Int.not_le, List.length_map, not_true_eq_false] at hb) <;> (try (exfalso; omega))))))
                refine ⟨j + 1, ⟨by omega, hj2⟩, by omega, [0], rfl, rfl, rfl, iV_eq (by omega), ?_, rfl, rfl, trivial⟩
                rw [hss.out]
                rfl
          · have hfull : par[k].take j = par[k] := List.take_of_length_le (by omega)
            have hsv : someB par[k] j = !(par[k].all fun x => decide (x = 0)) := by unfold someB; rw [hfull]
            have hav : par[k].all (fun x => allF M [x]) = true := List.all_eq_true.2 fun x hx => hj.2 x (by rw [hfull]; exact hx)
            rw [hav, ← hsv, Bool.true_and] at hro
            generalize someB par[k] j = s at *
            cases s
            · have hV : V = false := hbk hro
              subst hV
              (repeat' (first
  | (apply W.qd; (first
    | (apply q_mv; (first
    | exact Eq.refl (AV.d _)
    | exact Eq.refl (AV.osl _ _ _ _)
    | exact Eq.refl (AV.opt _ _)
    | exact Eq.refl (AV.agg _)
    | exact Eq.refl (AV.fpt _ _ _ _)
    | exact Eq.refl (AV.rpt _ _ _ _)
    | exact Eq.refl (AV.fn _ _)
    | exact Eq.refl (AV.yl _)
    | exact Eq.refl (AV.tup _)
    | exact Eq.refl AV.top))
    | (apply q_as; (first
    | exact Eq.refl (AV.d _)
    | exact Eq.refl (AV.osl _ _ _ _)
    | exact Eq.refl (AV.opt _ _)
    | exact Eq.refl (AV.agg _)
    | exact Eq.refl (AV.fpt _ _ _ _)
    | exact Eq.refl (AV.rpt _ _ _ _)
    | exact Eq.refl (AV.fn _ _)
    | exact Eq.refl (AV.yl _)
    | exact Eq.refl (AV.tup _)
    | exact Eq.refl AV.top))
    | (apply q_fld_optF; exact rfl; exact rfl; exact rfl)
    | (apply q_ld_box; exact rfl; exact rfl; exact rfl; exact rfl)
    | (apply q_lss; exact rfl; exact rfl)
    | (apply q_not; exact rfl)))
  | (apply AWP.seq)
  | (apply ACont_normal)
  | (apply W.region; kernel_rfl)
  | (apply Walk.nil)
  | (apply AWP.exit)
  | (apply AWP.ret)
  | (apply ACont_exit)
  | (apply ACont_ret)
  | (apply ABlock_exit)
  | (apply ABlock_ret)
  | (apply W.condT; exact rfl)
  | (refine W.cond _ rfl (fun hb => ?_) (fun hb => ?_) <;> ((try simp only [hb, Bool.not_true, Bool.not_false]) <;> (try simp only [decide_eq_true_eq, decide_eq_false_iff_not, Bool.not_eq_true', Bool.not_eq_false', Int.not_lt, Int.not_le, List.length_map, not_true_eq_false] at hb) <;> (try (exfalso; omega))))))
              all_goals exact ⟨.inl rfl, [], [bV false], rfl, rfl, ⟨rfl, trivial⟩, AVle.of_eq rfl, rfl⟩
            · (repeat' (first
  | (apply W.qd; (first
    | (apply q_mv; (first
    | exact Eq.refl (AV.d _)
    | exact Eq.refl (AV.osl _ _ _ _)
    | exact Eq.refl (AV.opt _ _)
    | exact Eq.refl (AV.agg _)
    | exact Eq.refl (AV.fpt _ _ _ _)
    | exact Eq.refl (AV.rpt _ _ _ _)
    | exact Eq.refl (AV.fn _ _)
    | exact Eq.refl (AV.yl _)
    | exact Eq.refl (AV.tup _)
    | exact Eq.refl AV.top))
    | (apply q_as; (first
    | exact Eq.refl (AV.d _)
    | exact Eq.refl (AV.osl _ _ _ _)
    | exact Eq.refl (AV.opt _ _)
    | exact Eq.refl (AV.agg _)
    | exact Eq.refl (AV.fpt _ _ _ _)
    | exact Eq.refl (AV.rpt _ _ _ _)
    | exact Eq.refl (AV.fn _ _)
    | exact Eq.refl (AV.yl _)
    | exact Eq.refl (AV.tup _)
    | exact Eq.refl AV.top))
    | (apply q_fld_optF; exact rfl; exact rfl; exact rfl)
    | (apply q_ld_box; exact rfl; exact rfl; exact rfl; exact rfl)
    | (apply q_lss; exact rfl; exact rfl)
    | (apply q_not; exact rfl)
    | (apply q_add; exact rfl; exact rfl; omega)))
  | (apply AWP.seq)
  | (apply ACont_normal)
  | (apply W.region; kernel_rfl)
  | (apply Walk.nil)
  | (apply AWP.skip)
  | (apply AWP.exit)
  | (apply ACont_exit)
  | (apply ABlock_normal)
  | (apply ABlock_exit)
  | (apply W.condF; exact rfl)
  | (refine W.cond _ rfl (fun hb => ?_) (fun hb => ?_) <;> ((try simp only [hb, Bool.not_true, Bool.not_false]) <;> (try simp only [decide_eq_true_eq, decide_eq_false_iff_not, Bool.not_eq_true', Bool.not_eq_false', Int.not_lt, Int.not_le, List.length_map, not_true_eq_false] at hb) <;> (try (exfalso; omega))))))
              refine ⟨k + 1, ⟨by omega, fun r hr => ?_⟩, by omega, [0], rfl, rfl, rfl, iV_eq (by omega), rfl, trivial⟩
              rw [List.take_succ_eq_append_getElem hkl] at hr
              rcases List.mem_append.1 hr with h | h
              · exact hk.2 r h
              · rw [List.mem_singleton.1 h]; exact hro
        · have hV : V = false := hbk (by unfold rowOk; rw [decide_eq_false hrl]; rfl)
          subst hV
          (repeat' (first
  | (apply W.qd; (first
    | (apply q_mv; (first
    | exact Eq.refl (AV.d _)
    | exact Eq.refl (AV.osl _ _ _ _)
    | exact Eq.refl (AV.opt _ _)
    | exact Eq.refl (AV.agg _)
    | exact Eq.refl (AV.fpt _ _ _ _)
    | exact Eq.refl (AV.rpt _ _ _ _)
    | exact Eq.refl (AV.fn _ _)
    | exact Eq.refl (AV.yl _)
    | exact Eq.refl (AV.tup _)
    | exact Eq.refl AV.top))
    | (apply q_as; (first
    | exact Eq.refl (AV.d _)
    | exact Eq.refl (AV.osl _ _ _ _)
    | exact Eq.refl (AV.opt _ _)
    | exact Eq.refl (AV.agg _)
    | exact Eq.refl (AV.fpt _ _ _ _)
    | exact Eq.refl (AV.rpt _ _ _ _)
    | exact Eq.refl (AV.fn _ _)
    | exact Eq.refl (AV.yl _)
    | exact Eq.refl (AV.tup _)
    | exact Eq.refl AV.top))
    | (apply q_fld_optF; exact rfl; exact rfl; exact rfl)
    | (apply q_ld_box; exact rfl; exact rfl; exact rfl; exact rfl)
    | (apply q_lss; exact rfl; exact rfl)
    | (apply q_neq; exact rfl; exact rfl)
    | (apply q_len_sl; exact rfl; exact rfl)
    | (apply q_ld_map; exact rfl; exact rfl; exact rfl; (first | omega | (focus (simp; done))))
    | (apply q_ix_slF; exact rfl; exact rfl; exact rfl; exact rfl; (first | (with_reducible exact rfl) | exact natI_spec rfl | assumption | exact (Int.toNat_of_nonneg (by omega)).symm); (first | omega | (focus (simp only [List.length_map]; omega)) | (focus (simp; done)) | (focus (simp; omega))))))
  | (apply AWP.seq)
  | (apply ACont_normal)
  | (apply W.region; kernel_rfl)
  | (apply W.regionD; exact rfl; kernel_rfl)
  | (apply Walk.nil)
  | (apply W.chk; kernel_rfl)
  | (apply AWP.block)
  | (apply AWP.skip)
  | (apply AWP.ret)
  | (apply ACont_ret)
  | (apply ABlock_ret)
  | (refine W.cond _ rfl (fun hb => ?_) (fun hb => ?_) <;> ((try simp only [hb, Bool.not_true, Bool.not_false]) <;> (try simp only [decide_eq_true_eq, decide_eq_false_iff_not, Bool.not_eq_true', Bool.not_eq_false', Int.not_lt, Int.not_le, List.length_map, not_true_eq_false] at hb) <;> (try (exfalso; omega))))))
          all_goals exact ⟨.inl rfl, [], [bV false], rfl, rfl, ⟨rfl, trivial⟩, AVle.of_eq rfl, rfl⟩
      · have hV : V = true := hall fun r hr => hk.2 r (by rwa [List.take_of_length_le (by omega)])
        subst hV
        (repeat' (first
  | (apply W.qd; (first
    | (apply q_mv; (first
    | exact Eq.refl (AV.d _)
    | exact Eq.refl (AV.osl _ _ _ _)
    | exact Eq.refl (AV.opt _ _)
    | exact Eq.refl (AV.agg _)
    | exact Eq.refl (AV.fpt _ _ _ _)
    | exact Eq.refl (AV.rpt _ _ _ _)
    | exact Eq.refl (AV.fn _ _)
    | exact Eq.refl (AV.yl _)
    | exact Eq.refl (AV.tup _)
    | exact Eq.refl AV.top))
    | (apply q_as; (first
    | exact Eq.refl (AV.d _)
    | exact Eq.refl (AV.osl _ _ _ _)
    | exact Eq.refl (AV.opt _ _)
    | exact Eq.refl (AV.agg _)
    | exact Eq.refl (AV.fpt _ _ _ _)
    | exact Eq.refl (AV.rpt _ _ _ _)
    | exact Eq.refl (AV.fn _ _)
    | exact Eq.refl (AV.yl _)
    | exact Eq.refl (AV.tup _)
    | exact Eq.refl AV.top))
    | (apply q_fld_optF; exact rfl; exact rfl; exact rfl)
    | (apply q_ld_box; exact rfl; exact rfl; exact rfl; exact rfl)
    | (apply q_lss; exact rfl; exact rfl)
    | (apply q_len_sl; exact rfl; exact rfl)))
  | (apply AWP.seq)
  | (apply ACont_normal)
  | (apply W.region; kernel_rfl)
  | (apply Walk.nil)
  | (apply AWP.exit)
  | (apply AWP.ret)
  | (apply ACont_exit)
  | (apply ABlock_exit)
  | (refine W.cond _ rfl (fun hb => ?_) (fun hb => ?_) <;> ((try simp only [hb, Bool.not_true, Bool.not_false]) <;> (try simp only [decide_eq_true_eq, decide_eq_false_iff_not, Bool.not_eq_true', Bool.not_eq_false', Int.not_lt, Int.not_le, List.length_map, not_true_eq_false] at hb) <;> (try (exfalso; omega))))))
        exact ⟨.inl rfl, [], [bV true], rfl, rfl, ⟨rfl, trivial⟩, AVle.of_eq rfl, rfl⟩
  · have hv : validC M D par = false := by
      rw [Bool.eq_false_iff]
      intro h
      unfold validC at h
      rw [h0] at h
      simp only [Bool.and_eq_true, decide_eq_true_eq] at h
      exact hg ⟨h.1.1.1.1, h.1.1.1.2, by omega⟩
    rw [hv]
    clear hv h0
    (repeat' (first
  | (apply W.gOn; exact rfl; exact rfl)
  | (apply W.qd; (first
    | (apply q_mv; (first
    | exact Eq.refl (AV.d _)
    | exact Eq.refl (AV.osl _ _ _ _)
    | exact Eq.refl (AV.opt _ _)
    | exact Eq.refl (AV.agg _)
    | exact Eq.refl (AV.fpt _ _ _ _)
    | exact Eq.refl (AV.rpt _ _ _ _)
    | exact Eq.refl (AV.fn _ _)
    | exact Eq.refl (AV.yl _)
    | exact Eq.refl (AV.tup _)
    | exact Eq.refl AV.top))
    | (apply q_as; (first
    | exact Eq.refl (AV.d _)
    | exact Eq.refl (AV.osl _ _ _ _)
    | exact Eq.refl (AV.opt _ _)
    | exact Eq.refl (AV.agg _)
    | exact Eq.refl (AV.fpt _ _ _ _)
    | exact Eq.refl (AV.rpt _ _ _ _)
    | exact Eq.refl (AV.fn _ _)
    | exact Eq.refl (AV.yl _)
    | exact Eq.refl (AV.tup _)
    | exact Eq.refl AV.top))
    | (apply q_fld_optF; exact rfl; exact rfl; exact rfl)
    | (apply q_ld_box; exact rfl; exact rfl; exact rfl; exact rfl)
    | (apply q_lss; exact rfl; exact rfl)
    | (apply q_gtr; exact rfl; exact rfl)
    | (apply q_neq; exact rfl; exact rfl)
    | (apply q_add; exact rfl; exact rfl; omega)
    | (apply q_len_sl; exact rfl; exact rfl)
    | (apply (q_pickT (u := .d _)); exact rfl; exact rfl)
    | (apply (q_pickF (u := .d _)); exact rfl; exact rfl)))
  | (apply W.ed; (apply e_boxF; exact rfl; exact rfl; exact rfl; kernel_rfl; kernel_rfl))
  | (refine W.gOff _ _ rfl rfl (by intro h; cases h) ?_)
  | (apply AWP.seq)
  | (apply ACont_normal)
  | (apply W.region; kernel_rfl)
  | (apply Walk.nil)
  | (apply AWP.ret)
  | (apply ACont_ret)
  | (apply W.condT; exact rfl)
  | (refine W.gT _ _ rfl rfl (fun hb => ?_) (fun hb => ?_) <;> ((try simp only [hb, Bool.not_true, Bool.not_false]) <;> (try simp only [decide_eq_true_eq, decide_eq_false_iff_not, Bool.not_eq_true', Bool.not_eq_false', Int.not_lt, Int.not_le, List.length_map, not_true_eq_false] at hb) <;> (try (exfalso; omega))))
  | (refine W.gF _ _ rfl rfl (fun hb => ?_) (fun hb => ?_) <;> ((try simp only [hb, Bool.not_true, Bool.not_false]) <;> (try simp only [decide_eq_true_eq, decide_eq_false_iff_not, Bool.not_eq_true', Bool.not_eq_false', Int.not_lt, Int.not_le, List.length_map, not_true_eq_false] at hb) <;> (try (exfalso; omega))))
  | (refine W.cond _ rfl (fun hb => ?_) (fun hb => ?_) <;> ((try simp only [hb, Bool.not_true, Bool.not_false]) <;> (try simp only [decide_eq_true_eq, decide_eq_false_iff_not, Bool.not_eq_true', Bool.not_eq_false', Int.not_lt, Int.not_le, List.length_map, not_true_eq_false] at hb) <;> (try (exfalso; omega))))))
    all_goals exact ⟨.inl rfl, [], [bV false], rfl, rfl, ⟨rfl, trivial⟩, AVle.of_eq rfl, rfl⟩
theorem A_r8width {M D : Int} {par : List (List Int)} (hD : D ≤ 1000000) (hP : par.length ≤ 1000000) : ACalls Tryd.prog 26 [cdA M D par] [] (iV (if validC M D par then D + (par.length : Int) else 0)) [] := by
  refine acalls_of_bodyO Tryd.func26 rfl (Nat.le_of_ble_eq_true rfl) ?_
  have h0 := A_r8valid (M := M) hD hP
  have hml : (par.map rD).length = par.length := List.length_map _
  cases hv : validC M D par
  · rw [hv] at h0
    (repeat' (first
  | (apply W.qd; (first
    | (apply (q_callC (h0)); exact rfl; exact rfl; kernel_rfl; kernel_rfl; kernel_rfl)
    | (apply q_mv; (first
    | exact Eq.refl (AV.d _)
    | exact Eq.refl (AV.osl _ _ _ _)
    | exact Eq.refl (AV.opt _ _)
    | exact Eq.refl (AV.agg _)
    | exact Eq.refl (AV.fpt _ _ _ _)
    | exact Eq.refl (AV.rpt _ _ _ _)
    | exact Eq.refl (AV.fn _ _)
    | exact Eq.refl (AV.yl _)
    | exact Eq.refl (AV.tup _)
    | exact Eq.refl AV.top))
    | (apply q_as; (first
    | exact Eq.refl (AV.d _)
    | exact Eq.refl (AV.osl _ _ _ _)
    | exact Eq.refl (AV.opt _ _)
    | exact Eq.refl (AV.agg _)
    | exact Eq.refl (AV.fpt _ _ _ _)
    | exact Eq.refl (AV.rpt _ _ _ _)
    | exact Eq.refl (AV.fn _ _)
    | exact Eq.refl (AV.yl _)
    | exact Eq.refl (AV.tup _)
    | exact Eq.refl AV.top))
    | (apply q_ld_boxF; exact rfl; exact rfl; exact rfl; exact rfl)
    | (apply q_not; exact rfl)))
  | (apply W.ed; (apply e_boxF; exact rfl; exact rfl; exact rfl; kernel_rfl; kernel_rfl))
  | (apply AWP.seq)
  | (apply ACont_normal)
  | (apply W.region; kernel_rfl)
  | (apply Walk.nil)
  | (apply AWP.ret)
  | (apply ACont_ret)
  | (apply W.condT; exact rfl)))
    exact ⟨.inl rfl, [], [iV 0], rfl, rfl, ⟨rfl, trivial⟩, AVle.of_eq rfl, rfl⟩
  · rw [hv] at h0
    have hD : 1 ≤ D := by
      unfold validC at hv
      simp only [Bool.and_eq_true, decide_eq_true_eq] at hv
      omega
    (repeat' (first
  | (apply W.qd; (first
    | (apply (q_callC (h0)); exact rfl; exact rfl; kernel_rfl; kernel_rfl; kernel_rfl)
    | (apply q_mv; (first
    | exact Eq.refl (AV.d _)
    | exact Eq.refl (AV.osl _ _ _ _)
    | exact Eq.refl (AV.opt _ _)
    | exact Eq.refl (AV.agg _)
    | exact Eq.refl (AV.fpt _ _ _ _)
    | exact Eq.refl (AV.rpt _ _ _ _)
    | exact Eq.refl (AV.fn _ _)
    | exact Eq.refl (AV.yl _)
    | exact Eq.refl (AV.tup _)
    | exact Eq.refl AV.top))
    | (apply q_as; (first
    | exact Eq.refl (AV.d _)
    | exact Eq.refl (AV.osl _ _ _ _)
    | exact Eq.refl (AV.opt _ _)
    | exact Eq.refl (AV.agg _)
    | exact Eq.refl (AV.fpt _ _ _ _)
    | exact Eq.refl (AV.rpt _ _ _ _)
    | exact Eq.refl (AV.fn _ _)
    | exact Eq.refl (AV.yl _)
    | exact Eq.refl (AV.tup _)
    | exact Eq.refl AV.top))
    | (apply q_fld_optF; exact rfl; exact rfl; exact rfl)
    | (apply q_ld_box; exact rfl; exact rfl; exact rfl; exact rfl)
    | (apply q_ld_boxF; exact rfl; exact rfl; exact rfl; exact rfl)
    | (apply q_not; exact rfl)
    | (apply q_add; exact rfl; exact rfl; omega)
    | (apply q_len_sl; exact rfl; exact rfl)))
  | (apply W.ed; (apply e_boxF; exact rfl; exact rfl; exact rfl; kernel_rfl; kernel_rfl))
  | (apply AWP.seq)
  | (apply ACont_normal)
  | (apply W.region; kernel_rfl)
  | (apply Walk.nil)
  | (apply AWP.skip)
  | (apply AWP.ret)
  | (apply W.condF; exact rfl)))
    refine ⟨.inl rfl, [], [_], rfl, rfl, ⟨rfl, trivial⟩, AVle.of_eq ?_, rfl⟩
    rw [hml, if_pos rfl]
    rfl
theorem A_same_ints {a b : List Int} (ha : a.length ≤ 1000000) (hb : b.length ≤ 1000000) : ACalls Tryd.prog 12 [ints a, ints b] [] (bV (decide (a = b))) [] := by
  refine acalls_of_bodyO Tryd.func12 rfl (Nat.le_of_ble_eq_true rfl) ?_
  have hma : (a.map iD).length = a.length := List.length_map _
  have hmb : (b.map iD).length = b.length := List.length_map _
  by_cases hl : a.length = b.length
  · (repeat' (first
  | (apply W.qd; (first
    | (apply q_mv; (first
    | exact Eq.refl (AV.d _)
    | exact Eq.refl (AV.osl _ _ _ _)
    | exact Eq.refl (AV.opt _ _)
    | exact Eq.refl (AV.agg _)
    | exact Eq.refl (AV.fpt _ _ _ _)
    | exact Eq.refl (AV.rpt _ _ _ _)
    | exact Eq.refl (AV.fn _ _)
    | exact Eq.refl (AV.yl _)
    | exact Eq.refl (AV.tup _)
    | exact Eq.refl AV.top))
    | (apply q_as; (first
    | exact Eq.refl (AV.d _)
    | exact Eq.refl (AV.osl _ _ _ _)
    | exact Eq.refl (AV.opt _ _)
    | exact Eq.refl (AV.agg _)
    | exact Eq.refl (AV.fpt _ _ _ _)
    | exact Eq.refl (AV.rpt _ _ _ _)
    | exact Eq.refl (AV.fn _ _)
    | exact Eq.refl (AV.yl _)
    | exact Eq.refl (AV.tup _)
    | exact Eq.refl AV.top))
    | (apply q_neq; exact rfl; exact rfl)
    | (apply q_len_sl; exact rfl; exact rfl)))
  | (apply AWP.seq)
  | (apply ACont_normal)
  | (apply W.region; kernel_rfl)
  | (apply Walk.nil)
  | (apply AWP.block)
  | (apply AWP.skip)
  | (refine W.cond _ rfl (fun hb => ?_) (fun hb => ?_) <;> ((try simp only [hb, Bool.not_true, Bool.not_false]) <;> (try simp only [decide_eq_true_eq, decide_eq_false_iff_not, Bool.not_eq_true', Bool.not_eq_false', Int.not_lt, Int.not_le, List.length_map, not_true_eq_false] at hb) <;> (try (exfalso; omega))))))
    refine AWP.loopW (α := Nat) (fun k => k ≤ a.length ∧ a.take k = b.take k) (fun k => ⟨[(5, iV k), (0, ints a), (1, ints b)], []⟩) (fun k => a.length - k) 0 ⟨by omega, by simp⟩ ⟨[], rfl, rfl, rfl, by (repeat (first | exact trivial | refine ⟨rfl, ?_⟩))⟩ fun k hk => ?_
    by_cases hka : k < a.length
    · by_cases he : a[k] = b[k]'(by omega)
      · (repeat' (first
  | (apply W.qd; (first
    | (apply q_mv; (first
    | exact Eq.refl (AV.d _)
    | exact Eq.refl (AV.osl _ _ _ _)
    | exact Eq.refl (AV.opt _ _)
    | exact Eq.refl (AV.agg _)
    | exact Eq.refl (AV.fpt _ _ _ _)
    | exact Eq.refl (AV.rpt _ _ _ _)
    | exact Eq.refl (AV.fn _ _)
    | exact Eq.refl (AV.yl _)
    | exact Eq.refl (AV.tup _)
    | exact Eq.refl AV.top))
    | (apply q_as; (first
    | exact Eq.refl (AV.d _)
    | exact Eq.refl (AV.osl _ _ _ _)
    | exact Eq.refl (AV.opt _ _)
    | exact Eq.refl (AV.agg _)
    | exact Eq.refl (AV.fpt _ _ _ _)
    | exact Eq.refl (AV.rpt _ _ _ _)
    | exact Eq.refl (AV.fn _ _)
    | exact Eq.refl (AV.yl _)
    | exact Eq.refl (AV.tup _)
    | exact Eq.refl AV.top))
    | (apply q_lss; exact rfl; exact rfl)
    | (apply q_neq; exact rfl; exact rfl)
    | (apply q_add; exact rfl; exact rfl; omega)
    | (apply q_len_sl; exact rfl; exact rfl)
    | (apply q_ld_map; exact rfl; exact rfl; exact rfl; (first | omega | (focus (simp; done))))
    | (apply q_ix_slF; exact rfl; exact rfl; exact rfl; exact rfl; (first | (with_reducible exact rfl) | exact natI_spec rfl | assumption | exact (Int.toNat_of_nonneg (by omega)).symm); (first | omega | (focus (simp only [List.length_map]; omega)) | (focus (simp; done)) | (focus (simp; omega))))))
  | (apply AWP.seq)
  | (apply ACont_normal)
  | (apply W.region; kernel_rfl)
  | (apply W.regionD; exact rfl; kernel_rfl)
  | (apply Walk.nil)
  | (apply W.chk; kernel_rfl)
  | (apply AWP.block)
  | (apply AWP.skip)
  | (apply ABlock_normal)
  | (refine W.cond _ rfl (fun hb => ?_) (fun hb => ?_) <;> ((try simp only [hb, Bool.not_true, Bool.not_false]) <;> (try simp only [decide_eq_true_eq, decide_eq_false_iff_not, Bool.not_eq_true', Bool.not_eq_false', Int.not_lt, Int.not_le, List.length_map, not_true_eq_false] at hb) <;> (try (exfalso; omega))))))
        exact ⟨k + 1, ⟨by omega, by rw [List.take_succ_eq_append_getElem hka, List.take_succ_eq_append_getElem (show k < b.length by omega), hk.2, he]⟩, by omega, [], rfl, rfl, rfl, iV_eq (by omega), rfl, rfl, trivial⟩
      · have hne : a ≠ b := fun e => he (by subst e; rfl)
        rw [decide_eq_false hne]
        (repeat' (first
  | (apply W.qd; (first
    | (apply q_mv; (first
    | exact Eq.refl (AV.d _)
    | exact Eq.refl (AV.osl _ _ _ _)
    | exact Eq.refl (AV.opt _ _)
    | exact Eq.refl (AV.agg _)
    | exact Eq.refl (AV.fpt _ _ _ _)
    | exact Eq.refl (AV.rpt _ _ _ _)
    | exact Eq.refl (AV.fn _ _)
    | exact Eq.refl (AV.yl _)
    | exact Eq.refl (AV.tup _)
    | exact Eq.refl AV.top))
    | (apply q_as; (first
    | exact Eq.refl (AV.d _)
    | exact Eq.refl (AV.osl _ _ _ _)
    | exact Eq.refl (AV.opt _ _)
    | exact Eq.refl (AV.agg _)
    | exact Eq.refl (AV.fpt _ _ _ _)
    | exact Eq.refl (AV.rpt _ _ _ _)
    | exact Eq.refl (AV.fn _ _)
    | exact Eq.refl (AV.yl _)
    | exact Eq.refl (AV.tup _)
    | exact Eq.refl AV.top))
    | (apply q_lss; exact rfl; exact rfl)
    | (apply q_neq; exact rfl; exact rfl)
    | (apply q_len_sl; exact rfl; exact rfl)
    | (apply q_ld_map; exact rfl; exact rfl; exact rfl; (first | omega | (focus (simp; done))))
    | (apply q_ix_slF; exact rfl; exact rfl; exact rfl; exact rfl; (first | (with_reducible exact rfl) | exact natI_spec rfl | assumption | exact (Int.toNat_of_nonneg (by omega)).symm); (first | omega | (focus (simp only [List.length_map]; omega)) | (focus (simp; done)) | (focus (simp; omega))))))
  | (apply AWP.seq)
  | (apply ACont_normal)
  | (apply W.region; kernel_rfl)
  | (apply W.regionD; exact rfl; kernel_rfl)
  | (apply Walk.nil)
  | (apply W.chk; kernel_rfl)
  | (apply AWP.block)
  | (apply AWP.skip)
  | (apply AWP.ret)
  | (apply ACont_ret)
  | (apply ABlock_ret)
  | (refine W.cond _ rfl (fun hb => ?_) (fun hb => ?_) <;> ((try simp only [hb, Bool.not_true, Bool.not_false]) <;> (try simp only [decide_eq_true_eq, decide_eq_false_iff_not, Bool.not_eq_true', Bool.not_eq_false', Int.not_lt, Int.not_le, List.length_map, not_true_eq_false] at hb) <;> (try (exfalso; omega))))))
        exact ⟨.inl rfl, [], [bV false], rfl, rfl, ⟨rfl, trivial⟩, AVle.of_eq rfl, rfl⟩
    · have he : a = b := by
        have := hk.2
        rwa [List.take_of_length_le (by omega), List.take_of_length_le (by omega)] at this
      rw [decide_eq_true he]
      (repeat' (first
  | (apply W.qd; (first
    | (apply q_mv; (first
    | exact Eq.refl (AV.d _)
    | exact Eq.refl (AV.osl _ _ _ _)
    | exact Eq.refl (AV.opt _ _)
    | exact Eq.refl (AV.agg _)
    | exact Eq.refl (AV.fpt _ _ _ _)
    | exact Eq.refl (AV.rpt _ _ _ _)
    | exact Eq.refl (AV.fn _ _)
    | exact Eq.refl (AV.yl _)
    | exact Eq.refl (AV.tup _)
    | exact Eq.refl AV.top))
    | (apply q_as; (first
    | exact Eq.refl (AV.d _)
    | exact Eq.refl (AV.osl _ _ _ _)
    | exact Eq.refl (AV.opt _ _)
    | exact Eq.refl (AV.agg _)
    | exact Eq.refl (AV.fpt _ _ _ _)
    | exact Eq.refl (AV.rpt _ _ _ _)
    | exact Eq.refl (AV.fn _ _)
    | exact Eq.refl (AV.yl _)
    | exact Eq.refl (AV.tup _)
    | exact Eq.refl AV.top))
    | (apply q_lss; exact rfl; exact rfl)
    | (apply q_len_sl; exact rfl; exact rfl)))
  | (apply AWP.seq)
  | (apply ACont_normal)
  | (apply W.region; kernel_rfl)
  | (apply Walk.nil)
  | (apply AWP.exit)
  | (apply AWP.ret)
  | (apply ACont_exit)
  | (apply ABlock_exit)
  | (refine W.cond _ rfl (fun hb => ?_) (fun hb => ?_) <;> ((try simp only [hb, Bool.not_true, Bool.not_false]) <;> (try simp only [decide_eq_true_eq, decide_eq_false_iff_not, Bool.not_eq_true', Bool.not_eq_false', Int.not_lt, Int.not_le, List.length_map, not_true_eq_false] at hb) <;> (try (exfalso; omega))))))
      exact ⟨.inl rfl, [], [bV true], rfl, rfl, ⟨rfl, trivial⟩, AVle.of_eq rfl, rfl⟩
  · have hne : a ≠ b := fun e => hl (by rw [e])
    rw [decide_eq_false hne]
    (repeat' (first
  | (apply W.qd; (first
    | (apply q_mv; (first
    | exact Eq.refl (AV.d _)
    | exact Eq.refl (AV.osl _ _ _ _)
    | exact Eq.refl (AV.opt _ _)
    | exact Eq.refl (AV.agg _)
    | exact Eq.refl (AV.fpt _ _ _ _)
    | exact Eq.refl (AV.rpt _ _ _ _)
    | exact Eq.refl (AV.fn _ _)
    | exact Eq.refl (AV.yl _)
    | exact Eq.refl (AV.tup _)
    | exact Eq.refl AV.top))
    | (apply q_as; (first
    | exact Eq.refl (AV.d _)
    | exact Eq.refl (AV.osl _ _ _ _)
    | exact Eq.refl (AV.opt _ _)
    | exact Eq.refl (AV.agg _)
    | exact Eq.refl (AV.fpt _ _ _ _)
    | exact Eq.refl (AV.rpt _ _ _ _)
    | exact Eq.refl (AV.fn _ _)
    | exact Eq.refl (AV.yl _)
    | exact Eq.refl (AV.tup _)
    | exact Eq.refl AV.top))
    | (apply q_neq; exact rfl; exact rfl)
    | (apply q_len_sl; exact rfl; exact rfl)))
  | (apply AWP.seq)
  | (apply ACont_normal)
  | (apply W.region; kernel_rfl)
  | (apply Walk.nil)
  | (apply AWP.ret)
  | (apply ACont_ret)
  | (refine W.cond _ rfl (fun hb => ?_) (fun hb => ?_) <;> ((try simp only [hb, Bool.not_true, Bool.not_false]) <;> (try simp only [decide_eq_true_eq, decide_eq_false_iff_not, Bool.not_eq_true', Bool.not_eq_false', Int.not_lt, Int.not_le, List.length_map, not_true_eq_false] at hb) <;> (try (exfalso; omega))))))
    exact ⟨.inl rfl, [], [bV false], rfl, rfl, ⟨rfl, trivial⟩, AVle.of_eq rfl, rfl⟩
end Go.Proofs.YtilpljehfcpjeaaDoor
end

section
/- The reference of layer 8: Generator, Encode. -/
namespace Go.Proofs.YtilpljehfcpjeaaDoor
open Go.RowKit
set_option linter.unusedVariables false
set_option linter.unusedSimpArgs false
set_option linter.unusedSectionVars false
set_option maxHeartbeats 4000000
set_option maxRecDepth 100000

theorem ACalls.leR {P : Program} {f : FuncId} {args : List AV} {r r' : AV} {own own' : List Ent} (h : ACalls P f args own r own') (hle : AVle r r') : ACalls P f args own r' own' := fun F κ w vs ho hs =>
  (h F κ w vs ho hs).mono fun e w' ⟨v, κ', h1, h2, h3, h4⟩ => ⟨v, κ', h1, hle _ _ _ _ _ h2, h3, h4⟩
attribute [local irreducible] Quiet Eff OpOk AWPG ACont ABlock ACalls AGoto

end Go.Proofs.YtilpljehfcpjeaaDoor
end

section
/- Sums of multiples of units that do not fit: package field and its reference. -/
namespace Go.Proofs.YtilpljehfcpjeaaDoor
open Go.RowKit
set_option linter.unusedVariables false
set_option linter.unusedSimpArgs false
set_option maxHeartbeats 4000000
set_option maxRecDepth 100000
theorem allF_one {M : Nat} {x : Int} (hM : FldM M) : allF M [x] = inF M x := by
  unfold allF
  rw [decide_eq_true (by unfold FldM at hM; omega)]
  simp
theorem allF_all {M : Nat} {l : List Int} (hM : FldM M) : allF M l = l.all (inF M) := by
  unfold allF
  rw [decide_eq_true (by unfold FldM at hM; omega), Bool.true_and]
/-- Do coefficients and units fit? -/
def fitC (M : Nat) (cs : List Int) (us : List (List Nat)) : Prop := 0 < cs.length ∧ (∀ x ∈ cs, inF M x = true) ∧ FitM M (us.headD []).length ∧ ∀ u ∈ us, u.length = (us.headD []).length
instance decFit (M n : Nat) : Decidable (FitM M n) := by unfold FitM; infer_instance
instance decFitC (M : Nat) (cs : List Int) (us : List (List Nat)) : Decidable (fitC M cs us) := by unfold fitC; infer_instance
attribute [local irreducible] Quiet Eff OpOk AWPG ACont ABlock ACalls AGoto
theorem A_fcombine_bad {M : Nat} {cs : List Int} {us : List (List Nat)} (hM : FldM M) (hlen : cs.length = us.length) (hcs : ∀ x ∈ cs, x < 9223372036854775808) (hus : ∀ u ∈ us, u.length ≤ 1000000) (hk : cs.length ≤ 1000000) (h : ¬ fitC M cs us) :
    ACalls Tryd.prog 25 [iV M, ints cs, strs us] [] (.tup [bS [], iV 1]) [] := by
  refine acalls_of_bodyO Tryd.func25 rfl (Nat.le_of_ble_eq_true rfl) ?_
  have hall := A_all M cs (by omega) hcs
  have hmc : (cs.map iD).length = cs.length := List.length_map _
  have hmu : (us.map sD).length = us.length := List.length_map _
  rw [allF_all hM] at hall
  cases ha : cs.all (inF M) with
  | false =>
    rw [ha] at hall
    (repeat' (first
  | (apply W.qd; (first
    | (apply (q_callC (hall)); exact rfl; exact rfl; kernel_rfl; kernel_rfl; kernel_rfl)
    | (apply q_mv; (first
    | exact Eq.refl (AV.d _)
    | exact Eq.refl (AV.osl _ _ _ _)
    | exact Eq.refl (AV.opt _ _)
    | exact Eq.refl (AV.agg _)
    | exact Eq.refl (AV.fpt _ _ _ _)
    | exact Eq.refl (AV.rpt _ _ _ _)
    | exact Eq.refl (AV.fn _ _)
    | exact Eq.refl (AV.yl _)
    | exact Eq.refl (AV.tup _)
    | exact Eq.refl AV.top))
    | (apply q_as; (first
    | exact Eq.refl (AV.d _)
    | exact Eq.refl (AV.osl _ _ _ _)
    | exact Eq.refl (AV.opt _ _)
    | exact Eq.refl (AV.agg _)
    | exact Eq.refl (AV.fpt _ _ _ _)
    | exact Eq.refl (AV.rpt _ _ _ _)
    | exact Eq.refl (AV.fn _ _)
    | exact Eq.refl (AV.yl _)
    | exact Eq.refl (AV.tup _)
    | exact Eq.refl AV.top))
    | (apply q_not; exact rfl)
    | (apply (q_pickT (u := .d _)); exact rfl; exact rfl)))
  | (refine W.gOff _ _ rfl rfl (by intro h; cases h) ?_)
  | (apply AWP.seq)
  | (apply ACont_normal)
  | (apply W.region; kernel_rfl)
  | (apply Walk.nil)
  | (apply AWP.ret)
  | (apply ACont_ret)
  | (apply W.condT; exact rfl)))
    all_goals exact ⟨.inl rfl, [], [bS [], iV 1], rfl, rfl, ⟨rfl, rfl, trivial⟩, AVle.of_eq rfl, rfl⟩
  | true =>
    rw [ha] at hall
    by_cases h0 : 0 < cs.length
    · have hU : 0 < us.length := by omega
      have hh : us.headD [] = us[0]'hU := by cases us with | nil => simp at hU | cons a l => rfl
      have hn := hus _ (List.getElem_mem hU)
      have hev := A_fevery (n := (us[0]'hU).length) us (by omega) (fun x hx => by have := hus x hx; omega)
      have hz : ((M : Int) / 8) = ((M / 8 : Nat) : Int) := by omega
      have hz1 : 1 ≤ M / 8 ∧ M / 8 ≤ 2 := by rcases hM with rfl | rfl <;> decide
      have hv1 : ((us[0]'hU).length : Int) < 9223372036854775808 := by omega
      by_cases hF : FitM M (us[0]'hU).length
      · have hmod : (us[0]'hU).length % (M / 8) = 0 := by
          rcases hM with rfl | rfl
          · show _ % 1 = 0; omega
          · exact hF rfl
        have hmod2 : ((us[0]'hU).length : Int) % ((M : Int) / 8) = 0 := by rw [hz]; omega
        have hno : us.all (fun x => decide ((x.length : Int) = ((us[0]'hU).length : Nat))) = false := by
          rw [Bool.eq_false_iff]
          intro e
          rw [List.all_eq_true] at e
          refine h ⟨h0, List.all_eq_true.1 ha, by rw [hh]; exact hF, fun u hu => ?_⟩
          have := e u hu
          rw [decide_eq_true_eq] at this
          rw [hh]; omega
        rw [hno] at hev
        (repeat' (first
  | (apply W.gOn; exact rfl; exact rfl)
  | (apply W.qd; (first
    | (apply (q_callC (hall)); exact rfl; exact rfl; kernel_rfl; kernel_rfl; kernel_rfl)
    | (apply q_mv; (first
    | exact Eq.refl (AV.d _)
    | exact Eq.refl (AV.osl _ _ _ _)
    | exact Eq.refl (AV.opt _ _)
    | exact Eq.refl (AV.agg _)
    | exact Eq.refl (AV.fpt _ _ _ _)
    | exact Eq.refl (AV.rpt _ _ _ _)
    | exact Eq.refl (AV.fn _ _)
    | exact Eq.refl (AV.yl _)
    | exact Eq.refl (AV.tup _)
    | exact Eq.refl AV.top))
    | (apply q_as; (first
    | exact Eq.refl (AV.d _)
    | exact Eq.refl (AV.osl _ _ _ _)
    | exact Eq.refl (AV.opt _ _)
    | exact Eq.refl (AV.agg _)
    | exact Eq.refl (AV.fpt _ _ _ _)
    | exact Eq.refl (AV.rpt _ _ _ _)
    | exact Eq.refl (AV.fn _ _)
    | exact Eq.refl (AV.yl _)
    | exact Eq.refl (AV.tup _)
    | exact Eq.refl AV.top))
    | (apply q_ld_box; exact rfl; exact rfl; exact rfl; exact rfl)
    | (apply q_eql; exact rfl; exact rfl)
    | (apply q_neq; exact rfl; exact rfl)
    | (apply q_not; exact rfl)
    | (apply q_quo; exact rfl; exact rfl; omega; omega; omega)
    | (apply q_rem; exact rfl; exact rfl; omega; omega)
    | (apply q_len_sl; exact rfl; exact rfl)
    | (apply q_len_bs; exact rfl; exact rfl)
    | (apply q_ld_map; exact rfl; exact rfl; exact rfl; (first | omega | (focus (simp; done))))
    | (apply q_makeFunc)
    | (apply q_ix_slF; exact rfl; exact rfl; exact rfl; exact rfl; (first | (with_reducible exact rfl) | exact natI_spec rfl | assumption | exact (Int.toNat_of_nonneg (by omega)).symm); (first | omega | (focus (simp only [List.length_map]; omega)) | (focus (simp; done)) | (focus (simp; omega))))
    | (apply (q_pickF (u := .d _)); exact rfl; exact rfl)))
  | (apply W.ed; (first
    | (apply (e_callJ (js := [0]) (hev)); exact rfl; exact rfl; exact rfl; exact rfl; exact rfl; kernel_rfl; kernel_rfl)
    | (apply e_allocF; exact rfl; exact rfl; exact rfl; kernel_rfl)))
  | (apply W.ln; (apply l_st_box; exact rfl; exact rfl; exact rfl; exact rfl; exact rfl; exact rfl; kernel_rfl; kernel_rfl; kernel_rfl))
  | (apply AWP.seq)
  | (apply ACont_normal)
  | (apply W.region; kernel_rfl)
  | (apply Walk.nil)
  | (apply AWP.skip)
  | (apply AWP.ret)
  | (apply ACont_ret)
  | (apply W.condT; exact rfl)
  | (refine W.gF _ _ rfl rfl (fun hb => ?_) (fun hb => ?_) <;> ((try simp only [hb, Bool.not_true, Bool.not_false]) <;> (try simp only [decide_eq_true_eq, decide_eq_false_iff_not, Bool.not_eq_true', Bool.not_eq_false', Int.not_lt, Int.not_le, List.length_map, not_true_eq_false] at hb) <;> (try (exfalso; omega))))
  | (refine W.cond _ rfl (fun hb => ?_) (fun hb => ?_) <;> ((try simp only [hb, Bool.not_true, Bool.not_false]) <;> (try simp only [decide_eq_true_eq, decide_eq_false_iff_not, Bool.not_eq_true', Bool.not_eq_false', Int.not_lt, Int.not_le, List.length_map, not_true_eq_false] at hb) <;> (try (exfalso; omega))))))
        all_goals exact ⟨.inl rfl, [], [bS [], iV 1], rfl, rfl, ⟨rfl, rfl, trivial⟩, AVle.of_eq rfl, rfl⟩
      · have hmod2 : ¬ ((us[0]'hU).length : Int) % ((M : Int) / 8) = 0 := by
          rcases hM with rfl | rfl
          · exact absurd (fun e => by cases e) hF
          · intro e
            apply hF
            intro _
            rw [hz] at e
            have : ((us[0]'hU).length : Int) % ((2 : Nat) : Int) = 0 := e
            omega
        (repeat' (first
  | (apply W.gOn; exact rfl; exact rfl)
  | (apply W.qd; (first
    | (apply (q_callC (hall)); exact rfl; exact rfl; kernel_rfl; kernel_rfl; kernel_rfl)
    | (apply q_mv; (first
    | exact Eq.refl (AV.d _)
    | exact Eq.refl (AV.osl _ _ _ _)
    | exact Eq.refl (AV.opt _ _)
    | exact Eq.refl (AV.agg _)
    | exact Eq.refl (AV.fpt _ _ _ _)
    | exact Eq.refl (AV.rpt _ _ _ _)
    | exact Eq.refl (AV.fn _ _)
    | exact Eq.refl (AV.yl _)
    | exact Eq.refl (AV.tup _)
    | exact Eq.refl AV.top))
    | (apply q_as; (first
    | exact Eq.refl (AV.d _)
    | exact Eq.refl (AV.osl _ _ _ _)
    | exact Eq.refl (AV.opt _ _)
    | exact Eq.refl (AV.agg _)
    | exact Eq.refl (AV.fpt _ _ _ _)
    | exact Eq.refl (AV.rpt _ _ _ _)
    | exact Eq.refl (AV.fn _ _)
    | exact Eq.refl (AV.yl _)
    | exact Eq.refl (AV.tup _)
    | exact Eq.refl AV.top))
    | (apply q_ld_box; exact rfl; exact rfl; exact rfl; exact rfl)
    | (apply q_eql; exact rfl; exact rfl)
    | (apply q_neq; exact rfl; exact rfl)
    | (apply q_not; exact rfl)
    | (apply q_quo; exact rfl; exact rfl; omega; omega; omega)
    | (apply q_rem; exact rfl; exact rfl; omega; omega)
    | (apply q_len_sl; exact rfl; exact rfl)
    | (apply q_len_bs; exact rfl; exact rfl)
    | (apply q_ld_map; exact rfl; exact rfl; exact rfl; (first | omega | (focus (simp; done))))
    | (apply q_ix_slF; exact rfl; exact rfl; exact rfl; exact rfl; (first | (with_reducible exact rfl) | exact natI_spec rfl | assumption | exact (Int.toNat_of_nonneg (by omega)).symm); (first | omega | (focus (simp only [List.length_map]; omega)) | (focus (simp; done)) | (focus (simp; omega))))
    | (apply (q_pickT (u := .d _)); exact rfl; exact rfl)
    | (apply (q_pickF (u := .d _)); exact rfl; exact rfl)))
  | (apply W.ed; (apply e_allocF; exact rfl; exact rfl; exact rfl; kernel_rfl))
  | (apply W.ln; (apply l_st_box; exact rfl; exact rfl; exact rfl; exact rfl; exact rfl; exact rfl; kernel_rfl; kernel_rfl; kernel_rfl))
  | (refine W.gOff _ _ rfl rfl (by intro h; cases h) ?_)
  | (apply AWP.seq)
  | (apply ACont_normal)
  | (apply W.region; kernel_rfl)
  | (apply Walk.nil)
  | (apply AWP.skip)
  | (apply AWP.ret)
  | (apply ACont_ret)
  | (apply W.condT; exact rfl)
  | (refine W.gF _ _ rfl rfl (fun hb => ?_) (fun hb => ?_) <;> ((try simp only [hb, Bool.not_true, Bool.not_false]) <;> (try simp only [decide_eq_true_eq, decide_eq_false_iff_not, Bool.not_eq_true', Bool.not_eq_false', Int.not_lt, Int.not_le, List.length_map, not_true_eq_false] at hb) <;> (try (exfalso; omega))))
  | (refine W.cond _ rfl (fun hb => ?_) (fun hb => ?_) <;> ((try simp only [hb, Bool.not_true, Bool.not_false]) <;> (try simp only [decide_eq_true_eq, decide_eq_false_iff_not, Bool.not_eq_true', Bool.not_eq_false', Int.not_lt, Int.not_le, List.length_map, not_true_eq_false] at hb) <;> (try (exfalso; omega))))))
        all_goals exact ⟨.inl rfl, [], [bS [], iV 1], rfl, rfl, ⟨rfl, rfl, trivial⟩, AVle.of_eq rfl, rfl⟩
    · (repeat' (first
  | (apply W.gOn; exact rfl; exact rfl)
  | (apply W.qd; (first
    | (apply (q_callC (hall)); exact rfl; exact rfl; kernel_rfl; kernel_rfl; kernel_rfl)
    | (apply q_mv; (first
    | exact Eq.refl (AV.d _)
    | exact Eq.refl (AV.osl _ _ _ _)
    | exact Eq.refl (AV.opt _ _)
    | exact Eq.refl (AV.agg _)
    | exact Eq.refl (AV.fpt _ _ _ _)
    | exact Eq.refl (AV.rpt _ _ _ _)
    | exact Eq.refl (AV.fn _ _)
    | exact Eq.refl (AV.yl _)
    | exact Eq.refl (AV.tup _)
    | exact Eq.refl AV.top))
    | (apply q_as; (first
    | exact Eq.refl (AV.d _)
    | exact Eq.refl (AV.osl _ _ _ _)
    | exact Eq.refl (AV.opt _ _)
    | exact Eq.refl (AV.agg _)
    | exact Eq.refl (AV.fpt _ _ _ _)
    | exact Eq.refl (AV.rpt _ _ _ _)
    | exact Eq.refl (AV.fn _ _)
    | exact Eq.refl (AV.yl _)
    | exact Eq.refl (AV.tup _)
    | exact Eq.refl AV.top))
    | (apply q_eql; exact rfl; exact rfl)
    | (apply q_not; exact rfl)
    | (apply q_len_sl; exact rfl; exact rfl)
    | (apply (q_pickT (u := .d _)); exact rfl; exact rfl)
    | (apply (q_pickF (u := .d _)); exact rfl; exact rfl)))
  | (refine W.gOff _ _ rfl rfl (by intro h; cases h) ?_)
  | (apply AWP.seq)
  | (apply ACont_normal)
  | (apply W.region; kernel_rfl)
  | (apply Walk.nil)
  | (apply AWP.ret)
  | (apply ACont_ret)
  | (apply W.condT; exact rfl)
  | (refine W.gF _ _ rfl rfl (fun hb => ?_) (fun hb => ?_) <;> ((try simp only [hb, Bool.not_true, Bool.not_false]) <;> (try simp only [decide_eq_true_eq, decide_eq_false_iff_not, Bool.not_eq_true', Bool.not_eq_false', Int.not_lt, Int.not_le, List.length_map, not_true_eq_false] at hb) <;> (try (exfalso; omega))))))
      all_goals exact ⟨.inl rfl, [], [bS [], iV 1], rfl, rfl, ⟨rfl, rfl, trivial⟩, AVle.of_eq rfl, rfl⟩
theorem A_rscale_bad {M : Nat} {x : Int} {l : List Nat} (hM : FldM M) (hn : l.length ≤ 1000000) (h : inF M x = false ∨ ¬ FitM M l.length) : ACalls Tryd.prog 55 [iV M, iV x, bS l] [] (.tup [bS [], iV 1]) [] := by
  refine acalls_of_bodyO Tryd.func55 rfl (Nat.le_of_ble_eq_true rfl) ?_
  have hv := A_rfvalid M x
  rw [allF_one hM] at hv
  cases hi : inF M x with
  | false =>
    rw [hi] at hv
    (repeat' (first
  | (apply W.qd; (first
    | (apply (q_callC (hv)); exact rfl; exact rfl; kernel_rfl; kernel_rfl; kernel_rfl)
    | (apply q_mv; (first
    | exact Eq.refl (AV.d _)
    | exact Eq.refl (AV.osl _ _ _ _)
    | exact Eq.refl (AV.opt _ _)
    | exact Eq.refl (AV.agg _)
    | exact Eq.refl (AV.fpt _ _ _ _)
    | exact Eq.refl (AV.rpt _ _ _ _)
    | exact Eq.refl (AV.fn _ _)
    | exact Eq.refl (AV.yl _)
    | exact Eq.refl (AV.tup _)
    | exact Eq.refl AV.top))
    | (apply q_as; (first
    | exact Eq.refl (AV.d _)
    | exact Eq.refl (AV.osl _ _ _ _)
    | exact Eq.refl (AV.opt _ _)
    | exact Eq.refl (AV.agg _)
    | exact Eq.refl (AV.fpt _ _ _ _)
    | exact Eq.refl (AV.rpt _ _ _ _)
    | exact Eq.refl (AV.fn _ _)
    | exact Eq.refl (AV.yl _)
    | exact Eq.refl (AV.tup _)
    | exact Eq.refl AV.top))
    | (apply q_not; exact rfl)
    | (apply (q_pickT (u := .d _)); exact rfl; exact rfl)))
  | (refine W.gOff _ _ rfl rfl (by intro h; cases h) ?_)
  | (apply AWP.seq)
  | (apply ACont_normal)
  | (apply W.region; kernel_rfl)
  | (apply Walk.nil)
  | (apply AWP.ret)
  | (apply ACont_ret)
  | (apply W.condT; exact rfl)))
    all_goals exact ⟨.inl rfl, [], [bS [], iV 1], rfl, rfl, ⟨rfl, rfl, trivial⟩, AVle.of_eq rfl, rfl⟩
  | true =>
    rw [hi] at hv
    have hF : ¬ FitM M l.length := h.resolve_left (by rw [hi]; simp)
    have h16 : M = 16 ∧ l.length % 2 = 1 := by
      unfold FitM at hF
      by_cases e : M = 16
      · exact ⟨e, by
          by_cases e2 : l.length % 2 = 0
          · exact absurd (fun _ => e2) hF
          · omega⟩
      · exact absurd (fun e2 => absurd e2 e) hF
    obtain ⟨rfl, hodd⟩ := h16
    (repeat' (first
  | (apply W.gOn; exact rfl; exact rfl)
  | (apply W.qd; (first
    | (apply (q_callC (hv)); exact rfl; exact rfl; kernel_rfl; kernel_rfl; kernel_rfl)
    | (apply q_mv; (first
    | exact Eq.refl (AV.d _)
    | exact Eq.refl (AV.osl _ _ _ _)
    | exact Eq.refl (AV.opt _ _)
    | exact Eq.refl (AV.agg _)
    | exact Eq.refl (AV.fpt _ _ _ _)
    | exact Eq.refl (AV.rpt _ _ _ _)
    | exact Eq.refl (AV.fn _ _)
    | exact Eq.refl (AV.yl _)
    | exact Eq.refl (AV.tup _)
    | exact Eq.refl AV.top))
    | (apply q_as; (first
    | exact Eq.refl (AV.d _)
    | exact Eq.refl (AV.osl _ _ _ _)
    | exact Eq.refl (AV.opt _ _)
    | exact Eq.refl (AV.agg _)
    | exact Eq.refl (AV.fpt _ _ _ _)
    | exact Eq.refl (AV.rpt _ _ _ _)
    | exact Eq.refl (AV.fn _ _)
    | exact Eq.refl (AV.yl _)
    | exact Eq.refl (AV.tup _)
    | exact Eq.refl AV.top))
    | (apply q_eql; exact rfl; exact rfl)
    | (apply q_not; exact rfl)
    | (apply q_rem; exact rfl; exact rfl; omega; omega)
    | (apply q_len_bs; exact rfl; exact rfl)
    | (apply (q_pickT (u := .d _)); exact rfl; exact rfl)
    | (apply (q_pickF (u := .d _)); exact rfl; exact rfl)))
  | (apply AWP.seq)
  | (apply ACont_normal)
  | (apply W.region; kernel_rfl)
  | (apply Walk.nil)
  | (apply AWP.ret)
  | (apply ACont_ret)
  | (refine W.cond _ rfl (fun hb => ?_) (fun hb => ?_) <;> ((try simp only [hb, Bool.not_true, Bool.not_false]) <;> (try simp only [decide_eq_true_eq, decide_eq_false_iff_not, Bool.not_eq_true', Bool.not_eq_false', Int.not_lt, Int.not_le, List.length_map, not_true_eq_false] at hb) <;> (try (exfalso; omega))))))
    all_goals exact ⟨.inl rfl, [], [bS [], iV 1], rfl, rfl, ⟨rfl, rfl, trivial⟩, AVle.of_eq rfl, rfl⟩
theorem A_rcombine_bad {M : Nat} {cs : List Int} {us : List (List Nat)} (hM : FldM M) (hlen : cs.length = us.length) (hus : ∀ u ∈ us, isB u ∧ u.length ≤ 1000000) (hk : cs.length ≤ 1000000) (h : ¬ fitC M cs us) :
    ACalls Tryd.prog 27 [iV M, ints cs, strs us] [] (.tup [bS [], iV 1]) [] := by
  refine acalls_of_body Tryd.func27 rfl (Nat.le_of_ble_eq_true rfl) ?_
  have hmc : (cs.map iD).length = cs.length := List.length_map _
  have hmu : (us.map sD).length = us.length := List.length_map _
  by_cases h0 : 0 < cs.length
  · have hU : 0 < us.length := by omega
    have hh : us.headD [] = us[0]'hU := by cases us with | nil => simp at hU | cons a l => rfl
    have hn := (hus _ (List.getElem_mem hU)).2
    obtain ⟨n, hnn⟩ : ∃ n, (us[0]'hU).length = n := ⟨_, rfl⟩
    obtain ⟨q, q1, q2, q3, q4⟩ := first_none (fun i => if inF M (cs.getD i 0) = true ∧ (us.getD i []).length = n ∧ FitM M n then some () else none) cs.length
    have hq : q < cs.length := by
      by_cases e : q < cs.length
      · exact e
      · exfalso
        have hgood : ∀ i, i < cs.length → inF M (cs.getD i 0) = true ∧ (us.getD i []).length = n ∧ FitM M n := fun i hi => by
          have := q2 i (by omega)
          by_cases e : inF M (cs.getD i 0) = true ∧ (us.getD i []).length = n ∧ FitM M n
          · exact e
          · rw [if_neg e] at this; cases this
        refine h ⟨h0, fun x hx => ?_, ?_, fun u hu => ?_⟩
        · obtain ⟨i, hi, rfl⟩ := List.getElem_of_mem hx
          have := (hgood i hi).1
          rwa [List.getD_eq_getElem?_getD, List.getElem?_eq_getElem hi] at this
        · rw [hh, hnn]; exact (hgood 0 h0).2.2
        · obtain ⟨i, hi, rfl⟩ := List.getElem_of_mem hu
          have := (hgood i (by omega)).2.1
          rw [List.getD_eq_getElem?_getD, List.getElem?_eq_getElem hi] at this
          rw [hh, hnn]; exact this
    have hbad : ¬ (inF M (cs.getD q 0) = true ∧ (us.getD q []).length = n ∧ FitM M n) := fun e => by
      have := q3 hq
      rw [if_pos e] at this; cases this
    have hgd : ∀ i, i < q → ∃ (hi : i < cs.length) (hi2 : i < us.length) (c : Nat), cs[i] = (c : Int) ∧ c < 2 ^ M ∧ us[i].length = n ∧ FitM M n := fun i hi => by
      have := q2 i hi
      have e : inF M (cs.getD i 0) = true ∧ (us.getD i []).length = n ∧ FitM M n := by
        by_cases e : inF M (cs.getD i 0) = true ∧ (us.getD i []).length = n ∧ FitM M n
        · exact e
        · rw [if_neg e] at this; cases this
      have hi1 : i < cs.length := by omega
      have hi2 : i < us.length := by omega
      rw [List.getD_eq_getElem?_getD, List.getElem?_eq_getElem hi1, List.getD_eq_getElem?_getD, List.getElem?_eq_getElem hi2] at e
      obtain ⟨c, hc1, hc2⟩ := inF_nat hM e.1
      exact ⟨hi1, hi2, c, hc1, hc2, e.2.1, e.2.2⟩
    clear q2 q3 q4
    have hB0 := isB_zero n
    -- the sum of the first k, as long as they fit
    have hacc : ∀ k, k ≤ q → ∃ R : List Nat, isB R ∧ R.length = n := fun k _ => ⟨_, hB0, by simp⟩
    have hst : ∃ S : Nat → List Nat, S 0 = List.replicate n 0 ∧ ∀ k, k < q → S (k + 1) = xorL (S k) (scaleM M (cs.getD k 0).toNat (us.getD k [])) :=
      ⟨fun k => Nat.rec (List.replicate n 0) (fun k R => xorL R (scaleM M (cs.getD k 0).toNat (us.getD k []))) k, rfl, fun k _ => rfl⟩
    obtain ⟨S, hS0, hS1⟩ := hst
    have hSok : ∀ k, k ≤ q → isB (S k) ∧ (S k).length = n := by
      intro k
      induction k with
      | zero => intro _; rw [hS0]; exact ⟨hB0, by simp⟩
      | succ k ih =>
        intro hk2
        obtain ⟨i1, i2⟩ := ih (by omega)
        obtain ⟨hi, hi2, c, c1, c2, c3, c4⟩ := hgd k (by omega)
        have e1 : (cs.getD k 0).toNat = c := by rw [List.getD_eq_getElem?_getD, List.getElem?_eq_getElem hi]; show (cs[k]).toNat = c; rw [c1]; rfl
        have e2 : us.getD k [] = us[k] := by rw [List.getD_eq_getElem?_getD, List.getElem?_eq_getElem hi2]; rfl
        rw [hS1 k (by omega), e1, e2]
        have hsl := scaleM_length (c := c) (l := us[k]) hM (by rw [c3]; exact c4)
        exact ⟨isB_xor i1 (isB_scaleM hM c2), by rw [xorL_length _ _ (by omega)]; exact i2⟩
    subst hnn
    (repeat' (first
  | (apply W.gOn; exact rfl; exact rfl)
  | (apply W.qd; (first
    | (apply q_mv; (first
    | exact Eq.refl (AV.d _)
    | exact Eq.refl (AV.osl _ _ _ _)
    | exact Eq.refl (AV.opt _ _)
    | exact Eq.refl (AV.agg _)
    | exact Eq.refl (AV.fpt _ _ _ _)
    | exact Eq.refl (AV.rpt _ _ _ _)
    | exact Eq.refl (AV.fn _ _)
    | exact Eq.refl (AV.yl _)
    | exact Eq.refl (AV.tup _)
    | exact Eq.refl AV.top))
    | (apply q_as; (first
    | exact Eq.refl (AV.d _)
    | exact Eq.refl (AV.osl _ _ _ _)
    | exact Eq.refl (AV.opt _ _)
    | exact Eq.refl (AV.agg _)
    | exact Eq.refl (AV.fpt _ _ _ _)
    | exact Eq.refl (AV.rpt _ _ _ _)
    | exact Eq.refl (AV.fn _ _)
    | exact Eq.refl (AV.yl _)
    | exact Eq.refl (AV.tup _)
    | exact Eq.refl AV.top))
    | (apply q_eql; exact rfl; exact rfl)
    | (apply q_neq; exact rfl; exact rfl)
    | (apply q_len_sl; exact rfl; exact rfl)
    | (apply q_len_bs; exact rfl; exact rfl)
    | (apply q_ld_map; exact rfl; exact rfl; exact rfl; (first | omega | (focus (simp; done))))
    | (apply q_ix_slF; exact rfl; exact rfl; exact rfl; exact rfl; (first | (with_reducible exact rfl) | exact natI_spec rfl | assumption | exact (Int.toNat_of_nonneg (by omega)).symm); (first | omega | (focus (simp only [List.length_map]; omega)) | (focus (simp; done)) | (focus (simp; omega))))
    | (apply (q_pickF (u := .d _)); exact rfl; exact rfl)
    | (apply q_str_osl; exact rfl; exact rfl; exact rfl; exact rfl; (first | rfl | (focus (simp; done))); assumption)))
  | (apply W.ed; (apply (e_makeG (f := nD) 0); exact rfl; exact rfl; (first | (with_reducible exact rfl) | exact natI_spec rfl | assumption | exact (Int.toNat_of_nonneg (by omega)).symm); exact rfl; exact rfl; exact rfl; exact rfl; exact rfl; exact rfl; exact rfl; omega))
  | (apply AWP.seq)
  | (apply ACont_normal)
  | (apply W.region; kernel_rfl)
  | (apply Walk.nil)
  | (apply AWP.block)
  | (apply AWP.skip)
  | (refine W.gF _ _ rfl rfl (fun hb => ?_) (fun hb => ?_) <;> ((try simp only [hb, Bool.not_true, Bool.not_false]) <;> (try simp only [decide_eq_true_eq, decide_eq_false_iff_not, Bool.not_eq_true', Bool.not_eq_false', Int.not_lt, Int.not_le, List.length_map, not_true_eq_false] at hb) <;> (try (exfalso; omega))))
  | (refine W.cond _ rfl (fun hb => ?_) (fun hb => ?_) <;> ((try simp only [hb, Bool.not_true, Bool.not_false]) <;> (try simp only [decide_eq_true_eq, decide_eq_false_iff_not, Bool.not_eq_true', Bool.not_eq_false', Int.not_lt, Int.not_le, List.length_map, not_true_eq_false] at hb) <;> (try (exfalso; omega))))))
    generalize (us[0]'hU).length = n at *
    refine AWP.loopW (α := Nat) (fun k => k ≤ q) (fun k => ⟨[(9, iV k), (8, bS (S k)), (0, iV M), (1, ints cs), (2, strs us)], []⟩) (fun k => cs.length - k) 0 (Nat.zero_le _) ?wk0 fun k hk2 => ?_
    case wk0 =>
      rw [hS0]
      exact ⟨[], rfl, rfl, rfl, by (repeat (first | exact trivial | refine ⟨rfl, ?_⟩))⟩
    obtain ⟨s1, s2⟩ := hSok k hk2
    by_cases hkq : k < q
    · obtain ⟨hi, hi2, c, c1, c2, c3, c4⟩ := hgd k hkq
      have hu := hus _ (List.getElem_mem hi2)
      have e1 : (cs.getD k 0).toNat = c := by rw [List.getD_eq_getElem?_getD, List.getElem?_eq_getElem hi]; show (cs[k]).toNat = c; rw [c1]; rfl
      have e2 : us.getD k [] = us[k] := by rw [List.getD_eq_getElem?_getD, List.getElem?_eq_getElem hi2]; rfl
      have hs2 := hS1 k hkq
      rw [e1, e2] at hs2
      have hsl := scaleM_length (c := c) (l := us[k]) hM (by rw [c3]; exact c4)
      have hsc := A_rscale (l := us[k]) hM c2 hu.1 hu.2 (by rw [c3]; exact c4)
      rw [← c1] at hsc
      have hx := A_rxor s1 (isB_scaleM (l := us[k]) hM c2) (by omega) (by omega)
      rw [if_pos (by omega), ← hs2] at hx
      clear hS1 hSok hgd hacc
      (repeat' (first
  | (apply W.qd; (first
    | (apply (q_callC (hsc)); exact rfl; exact rfl; kernel_rfl; kernel_rfl; kernel_rfl)
    | (apply (q_callC (hx)); exact rfl; exact rfl; kernel_rfl; kernel_rfl; kernel_rfl)
    | (apply q_mv; (first
    | exact Eq.refl (AV.d _)
    | exact Eq.refl (AV.osl _ _ _ _)
    | exact Eq.refl (AV.opt _ _)
    | exact Eq.refl (AV.agg _)
    | exact Eq.refl (AV.fpt _ _ _ _)
    | exact Eq.refl (AV.rpt _ _ _ _)
    | exact Eq.refl (AV.fn _ _)
    | exact Eq.refl (AV.yl _)
    | exact Eq.refl (AV.tup _)
    | exact Eq.refl AV.top))
    | (apply q_as; (first
    | exact Eq.refl (AV.d _)
    | exact Eq.refl (AV.osl _ _ _ _)
    | exact Eq.refl (AV.opt _ _)
    | exact Eq.refl (AV.agg _)
    | exact Eq.refl (AV.fpt _ _ _ _)
    | exact Eq.refl (AV.rpt _ _ _ _)
    | exact Eq.refl (AV.fn _ _)
    | exact Eq.refl (AV.yl _)
    | exact Eq.refl (AV.tup _)
    | exact Eq.refl AV.top))
    | (apply q_lss; exact rfl; exact rfl)
    | (apply q_neq; exact rfl; exact rfl)
    | (apply q_add; exact rfl; exact rfl; omega)
    | (apply q_extract; exact rfl; exact rfl)
    | (apply q_len_sl; exact rfl; exact rfl)
    | (apply q_ld_map; exact rfl; exact rfl; exact rfl; (first | omega | (focus (simp; done))))
    | (apply q_ix_slF; exact rfl; exact rfl; exact rfl; exact rfl; (first | (with_reducible exact rfl) | exact natI_spec rfl | assumption | exact (Int.toNat_of_nonneg (by omega)).symm); (first | omega | (focus (simp only [List.length_map]; omega)) | (focus (simp; done)) | (focus (simp; omega))))))
  | (apply AWP.seq)
  | (apply ACont_normal)
  | (apply W.region; kernel_rfl)
  | (apply W.regionD; exact rfl; kernel_rfl)
  | (apply Walk.nil)
  | (apply W.chk; kernel_rfl)
  | (apply AWP.block)
  | (apply AWP.skip)
  | (apply ABlock_normal)
  | (apply W.condF; exact rfl)
  | (refine W.cond _ rfl (fun hb => ?_) (fun hb => ?_) <;> ((try simp only [hb, Bool.not_true, Bool.not_false]) <;> (try simp only [decide_eq_true_eq, decide_eq_false_iff_not, Bool.not_eq_true', Bool.not_eq_false', Int.not_lt, Int.not_le, List.length_map, not_true_eq_false] at hb) <;> (try (exfalso; omega))))))
      exact ⟨k + 1, by omega, by omega, ⟨[], rfl, rfl, rfl, by (repeat (first | exact trivial | refine ⟨rfl, ?_⟩))⟩⟩
    · have hkq' : k = q := by omega
      subst hkq'
      have hk2' : k < us.length := by omega
      have hu := hus _ (List.getElem_mem hk2')
      rw [List.getD_eq_getElem?_getD, List.getElem?_eq_getElem hq, List.getD_eq_getElem?_getD, List.getElem?_eq_getElem hk2'] at hbad
      change ¬ (inF M cs[k] = true ∧ us[k].length = n ∧ FitM M n) at hbad
      clear hS1 hSok hgd hacc
      by_cases hb : inF M cs[k] = false ∨ ¬ FitM M us[k].length
      · have hsc := A_rscale_bad hM hu.2 hb
        (repeat' (first
  | (apply W.qd; (first
    | (apply (q_callC (hsc)); exact rfl; exact rfl; kernel_rfl; kernel_rfl; kernel_rfl)
    | (apply q_mv; (first
    | exact Eq.refl (AV.d _)
    | exact Eq.refl (AV.osl _ _ _ _)
    | exact Eq.refl (AV.opt _ _)
    | exact Eq.refl (AV.agg _)
    | exact Eq.refl (AV.fpt _ _ _ _)
    | exact Eq.refl (AV.rpt _ _ _ _)
    | exact Eq.refl (AV.fn _ _)
    | exact Eq.refl (AV.yl _)
    | exact Eq.refl (AV.tup _)
    | exact Eq.refl AV.top))
    | (apply q_as; (first
    | exact Eq.refl (AV.d _)
    | exact Eq.refl (AV.osl _ _ _ _)
    | exact Eq.refl (AV.opt _ _)
    | exact Eq.refl (AV.agg _)
    | exact Eq.refl (AV.fpt _ _ _ _)
    | exact Eq.refl (AV.rpt _ _ _ _)
    | exact Eq.refl (AV.fn _ _)
    | exact Eq.refl (AV.yl _)
    | exact Eq.refl (AV.tup _)
    | exact Eq.refl AV.top))
    | (apply q_lss; exact rfl; exact rfl)
    | (apply q_neq; exact rfl; exact rfl)
    | (apply q_extract; exact rfl; exact rfl)
    | (apply q_len_sl; exact rfl; exact rfl)
    | (apply q_ld_map; exact rfl; exact rfl; exact rfl; (first | omega | (focus (simp; done))))
    | (apply q_ix_slF; exact rfl; exact rfl; exact rfl; exact rfl; (first | (with_reducible exact rfl) | exact natI_spec rfl | assumption | exact (Int.toNat_of_nonneg (by omega)).symm); (first | omega | (focus (simp only [List.length_map]; omega)) | (focus (simp; done)) | (focus (simp; omega))))))
  | (apply AWP.seq)
  | (apply ACont_normal)
  | (apply W.region; kernel_rfl)
  | (apply W.regionD; exact rfl; kernel_rfl)
  | (apply Walk.nil)
  | (apply W.chk; kernel_rfl)
  | (apply AWP.block)
  | (apply AWP.skip)
  | (apply AWP.ret)
  | (apply ACont_ret)
  | (apply ABlock_ret)
  | (apply W.condT; exact rfl)
  | (refine W.cond _ rfl (fun hb => ?_) (fun hb => ?_) <;> ((try simp only [hb, Bool.not_true, Bool.not_false]) <;> (try simp only [decide_eq_true_eq, decide_eq_false_iff_not, Bool.not_eq_true', Bool.not_eq_false', Int.not_lt, Int.not_le, List.length_map, not_true_eq_false] at hb) <;> (try (exfalso; omega))))))
        all_goals exact Ends.two rfl rfl rfl
      · have hin : inF M cs[k] = true := by
          cases e : inF M cs[k] with
          | true => rfl
          | false => exact absurd (.inl e) hb
        have hF : FitM M us[k].length := by
          by_cases e : FitM M us[k].length
          · exact e
          · exact absurd (.inr e) hb
        obtain ⟨c, c1, c2⟩ := inF_nat hM hin
        have hsl := scaleM_length (c := c) (l := us[k]) hM hF
        have hne : us[k].length ≠ n := fun e => hbad ⟨hin, e, by rw [← e]; exact hF⟩
        have hsc := A_rscale (l := us[k]) hM c2 hu.1 hu.2 hF
        rw [← c1] at hsc
        have hx := A_rxor s1 (isB_scaleM (l := us[k]) hM c2) (by omega) (by omega)
        rw [if_neg (by omega)] at hx
        (repeat' (first
  | (apply W.qd; (first
    | (apply (q_callC (hsc)); exact rfl; exact rfl; kernel_rfl; kernel_rfl; kernel_rfl)
    | (apply (q_callC (hx)); exact rfl; exact rfl; kernel_rfl; kernel_rfl; kernel_rfl)
    | (apply q_mv; (first
    | exact Eq.refl (AV.d _)
    | exact Eq.refl (AV.osl _ _ _ _)
    | exact Eq.refl (AV.opt _ _)
    | exact Eq.refl (AV.agg _)
    | exact Eq.refl (AV.fpt _ _ _ _)
    | exact Eq.refl (AV.rpt _ _ _ _)
    | exact Eq.refl (AV.fn _ _)
    | exact Eq.refl (AV.yl _)
    | exact Eq.refl (AV.tup _)
    | exact Eq.refl AV.top))
    | (apply q_as; (first
    | exact Eq.refl (AV.d _)
    | exact Eq.refl (AV.osl _ _ _ _)
    | exact Eq.refl (AV.opt _ _)
    | exact Eq.refl (AV.agg _)
    | exact Eq.refl (AV.fpt _ _ _ _)
    | exact Eq.refl (AV.rpt _ _ _ _)
    | exact Eq.refl (AV.fn _ _)
    | exact Eq.refl (AV.yl _)
    | exact Eq.refl (AV.tup _)
    | exact Eq.refl AV.top))
    | (apply q_lss; exact rfl; exact rfl)
    | (apply q_neq; exact rfl; exact rfl)
    | (apply q_extract; exact rfl; exact rfl)
    | (apply q_len_sl; exact rfl; exact rfl)
    | (apply q_ld_map; exact rfl; exact rfl; exact rfl; (first | omega | (focus (simp; done))))
    | (apply q_ix_slF; exact rfl; exact rfl; exact rfl; exact rfl; (first | (with_reducible exact rfl) | exact natI_spec rfl | assumption | exact (Int.toNat_of_nonneg (by omega)).symm); (first | omega | (focus (simp only [List.length_map]; omega)) | (focus (simp; done)) | (focus (simp; omega))))))
  | (apply AWP.seq)
  | (apply ACont_normal)
  | (apply W.region; kernel_rfl)
  | (apply W.regionD; exact rfl; kernel_rfl)
  | (apply Walk.nil)
  | (apply W.chk; kernel_rfl)
  | (apply AWP.block)
  | (apply AWP.skip)
  | (apply AWP.ret)
  | (apply ACont_ret)
  | (apply ABlock_ret)
  | (apply W.condT; exact rfl)
  | (apply W.condF; exact rfl)
  | (refine W.cond _ rfl (fun hb => ?_) (fun hb => ?_) <;> ((try simp only [hb, Bool.not_true, Bool.not_false]) <;> (try simp only [decide_eq_true_eq, decide_eq_false_iff_not, Bool.not_eq_true', Bool.not_eq_false', Int.not_lt, Int.not_le, List.length_map, not_true_eq_false] at hb) <;> (try (exfalso; omega))))))
        all_goals exact Ends.two rfl rfl rfl
  · (repeat' (first
  | (apply W.qd; (first
    | (apply q_mv; (first
    | exact Eq.refl (AV.d _)
    | exact Eq.refl (AV.osl _ _ _ _)
    | exact Eq.refl (AV.opt _ _)
    | exact Eq.refl (AV.agg _)
    | exact Eq.refl (AV.fpt _ _ _ _)
    | exact Eq.refl (AV.rpt _ _ _ _)
    | exact Eq.refl (AV.fn _ _)
    | exact Eq.refl (AV.yl _)
    | exact Eq.refl (AV.tup _)
    | exact Eq.refl AV.top))
    | (apply q_as; (first
    | exact Eq.refl (AV.d _)
    | exact Eq.refl (AV.osl _ _ _ _)
    | exact Eq.refl (AV.opt _ _)
    | exact Eq.refl (AV.agg _)
    | exact Eq.refl (AV.fpt _ _ _ _)
    | exact Eq.refl (AV.rpt _ _ _ _)
    | exact Eq.refl (AV.fn _ _)
    | exact Eq.refl (AV.yl _)
    | exact Eq.refl (AV.tup _)
    | exact Eq.refl AV.top))
    | (apply q_eql; exact rfl; exact rfl)
    | (apply q_len_sl; exact rfl; exact rfl)
    | (apply (q_pickT (u := .d _)); exact rfl; exact rfl)))
  | (refine W.gOff _ _ rfl rfl (by intro h; cases h) ?_)
  | (apply AWP.seq)
  | (apply ACont_normal)
  | (apply W.region; kernel_rfl)
  | (apply Walk.nil)
  | (apply AWP.ret)
  | (apply ACont_ret)
  | (apply W.condT; exact rfl)
  | (refine W.gF _ _ rfl rfl (fun hb => ?_) (fun hb => ?_) <;> ((try simp only [hb, Bool.not_true, Bool.not_false]) <;> (try simp only [decide_eq_true_eq, decide_eq_false_iff_not, Bool.not_eq_true', Bool.not_eq_false', Int.not_lt, Int.not_le, List.length_map, not_true_eq_false] at hb) <;> (try (exfalso; omega))))))
    all_goals exact Ends.two rfl rfl rfl
end Go.Proofs.YtilpljehfcpjeaaDoor
end

section
/- Repair: checks, their terms, plans: plain law. -/
namespace Go.Proofs.YtilpljehfcpjeaaDoor
open Go.RowKit
set_option linter.unusedVariables false
set_option linter.unusedSimpArgs false
set_option linter.unusedSectionVars false

/-- A check's coefficient of a unit. -/
def coefN (row : List Nat) (D k : Nat) : Nat := if k < D then row.getD k 0 else 1
def dataC (D : Nat) (row : List Nat) (n : Nat) : List Nat := (List.range n).filter fun j => row.getD j 0 != 0
theorem dataC_succ (D : Nat) (row : List Nat) (n : Nat) : dataC D row (n + 1) = if row.getD n 0 = 0 then dataC D row n else dataC D row n ++ [n] := by
  unfold dataC
  rw [List.range_succ, List.filter_append]
  by_cases h : row.getD n 0 = 0
  · rw [if_pos h]; simp only [List.filter_cons, h]; simp
  · have h2 : (row.getD n 0 != 0) = true := by simpa using h
    rw [if_neg h]; simp only [List.filter_cons, h2, if_true, List.filter_nil]
theorem dataC_length (D : Nat) (row : List Nat) (n : Nat) : (dataC D row n).length ≤ n := Nat.le_trans (List.length_filter_le _ _) (by simp)
/-- The units of a check. -/
def checkN (D i : Nat) (row : List Nat) : List Nat := dataC D row D ++ [D + i]
theorem checkN_length (D i : Nat) (row : List Nat) : (checkN D i row).length ≤ D + 1 := by
  have := dataC_length D row D
  simp [checkN]; omega
theorem mem_dataC {D j n : Nat} {row : List Nat} : j ∈ dataC D row n ↔ j < n ∧ row.getD j 0 ≠ 0 := by
  unfold dataC
  rw [List.mem_filter, List.mem_range, bne_iff_ne]
/-- The terms by which a check determines one of its units. -/
def ctermsN (M D : Nat) (row l : List Nat) (u : Nat) : List (Nat × Nat) := (l.filter fun k => k != u).map fun k => (k, mu M (coefN row D k) (invN M (coefN row D u)))
section
variable {M D : Nat} {ps : List (List Nat)} (h : CodeOk M D ps)
include h
theorem coef_ok {i k : Nat} (hi : i < ps.length) (hk : k ∈ checkN D i (ps.getD i [])) : k < D + ps.length ∧ coefN (ps.getD i []) D k < 2 ^ M ∧ coefN (ps.getD i []) D k ≠ 0 := by
  have hr := h.row _ (List.getElem_mem hi)
  have e : ps.getD i [] = ps[i] := by rw [List.getD_eq_getElem?_getD, List.getElem?_eq_getElem hi]; rfl
  rw [e] at hk ⊢
  unfold checkN at hk
  rcases List.mem_append.1 hk with hk | hk
  · obtain ⟨h1, h2⟩ := mem_dataC.1 hk
    unfold coefN
    rw [if_pos h1]
    exact ⟨by omega, getD_lt hr.2.1 _, h2⟩
  · rw [List.mem_singleton.1 hk]
    unfold coefN
    rw [if_neg (by omega)]
    exact ⟨by omega, one_lt h.f, by decide⟩
end
def lexL : List Nat → List Nat → Bool
  | x :: xs, y :: ys => decide (x < y) || (decide (x = y) && lexL xs ys)
  | [], _ :: _ => true
  | _, [] => false
/-- Is a list of terms better than another? -/
def ltT (a b : List (Nat × Nat)) : Bool := decide (a.length < b.length) || (decide (a.length = b.length) && lexL (a.map (·.1)) (b.map (·.1)))
def minT (a : List (Nat × Nat)) (l : List (List (Nat × Nat))) : List (Nat × Nat) := l.foldl (fun m x => if ltT x m then x else m) a
theorem minT_spec : ∀ (l : List (List (Nat × Nat))) (a : List (Nat × Nat)), (minT a l = a ∨ minT a l ∈ l) ∧ (minT a l).length ≤ a.length ∧ ∀ x ∈ l, (minT a l).length ≤ x.length
  | [], a => ⟨.inl rfl, Nat.le_refl _, fun x h => by simp at h⟩
  | b :: l, a => by
    have hlt : ltT b a = false → a.length ≤ b.length := fun e => by
      unfold ltT at e
      simp only [Bool.or_eq_false_iff, decide_eq_false_iff_not] at e
      omega
    have hlt2 : ltT b a = true → b.length ≤ a.length := fun e => by
      unfold ltT at e
      simp only [Bool.or_eq_true, Bool.and_eq_true, decide_eq_true_eq] at e
      omega
    obtain ⟨h1, h2, h3⟩ := minT_spec l (if ltT b a then b else a)
    change (minT a (b :: l) = _ ∨ minT a (b :: l) ∈ l) at h1
    change (minT a (b :: l)).length ≤ _ at h2
    change ∀ x ∈ l, (minT a (b :: l)).length ≤ _ at h3
    cases e : ltT b a
    · rw [e] at h1 h2
      have := hlt e
      refine ⟨h1.imp id fun h => by simp [h], h2, fun x hx => ?_⟩
      rcases List.mem_cons.1 hx with rfl | hx
      · exact Nat.le_trans h2 this
      · exact h3 x hx
    · rw [e] at h1 h2
      have := hlt2 e
      refine ⟨.inr (by rcases h1 with h1 | h1
                       · rw [h1]; simp
                       · simp [h1]), Nat.le_trans h2 this, fun x hx => ?_⟩
      rcases List.mem_cons.1 hx with rfl | hx
      · exact h2
      · exact h3 x hx
def bestN : List (List (Nat × Nat)) → Option (List (Nat × Nat))
  | [] => none
  | a :: l => some (minT a l)
/-- The checks that contain a unit. -/
def chkI (D : Nat) (ps : List (List Nat)) (u n : Nat) : List Nat := (List.range n).filter fun i => (checkN D i (ps.getD i [])).contains u
/-- Are all other units of a check present? -/
def fullC (oth : List Bool) (l : List Nat) (u : Nat) : Bool := l.all fun k => k == u || oth.getD k false
/-- The sums from which a plan is taken. -/
def candN (M D : Nat) (ps : List (List Nat)) (oth : List Bool) (u : Nat) : List (List (Nat × Nat)) :=
  (combN M D ps oth u).toList ++ ((chkI D ps u ps.length).filter fun i => fullC oth (checkN D i (ps.getD i [])) u).map fun i => ctermsN M D (ps.getD i []) (checkN D i (ps.getD i [])) u
def planN (M D : Nat) (ps : List (List Nat)) (hv : List Bool) (u : Nat) : Option (List (Nat × Nat)) := bestN (candN M D ps (hv.set u false) u)
section
variable {M D : Nat} {ps : List (List Nat)} (h : CodeOk M D ps)
include h
end
end Go.Proofs.YtilpljehfcpjeaaDoor
end

section
/- Package repair over the machine of abstract values: comparisons, the least of lists of terms. -/
namespace Go.Proofs.YtilpljehfcpjeaaDoor
open Go.RowKit
set_option linter.unusedVariables false
set_option linter.unusedSimpArgs false
set_option maxHeartbeats 4000000
set_option maxRecDepth 100000

def cmpI (x y : Int) : Int := if x < y then -1 else if y < x then 1 else 0
def cmpL : List Nat → List Nat → Int
  | x :: xs, y :: ys => if x < y then -1 else if y < x then 1 else cmpL xs ys
  | [], [] => 0
  | [], _ :: _ => -1
  | _ :: _, [] => 1
theorem cmpL_lt : ∀ a b : List Nat, decide (cmpL a b < 0) = lexL a b
  | x :: xs, y :: ys => by
    rw [cmpL, lexL, ← cmpL_lt xs ys]
    by_cases h1 : x < y
    · rw [if_pos h1, decide_eq_true h1]; rfl
    · rw [if_neg h1, decide_eq_false h1]
      by_cases h2 : y < x
      · rw [if_pos h2, decide_eq_false (show ¬ x = y by omega)]; rfl
      · rw [if_neg h2, decide_eq_true (show x = y by omega)]; simp
  | [], [] => rfl
  | [], _ :: _ => rfl
  | _ :: _, [] => rfl
theorem cmpL_drop : ∀ (k : Nat) (a b : List Nat), a.take k = b.take k → k ≤ a.length → k ≤ b.length → cmpL a b = cmpL (a.drop k) (b.drop k)
  | 0, _, _, _, _, _ => rfl
  | k + 1, x :: xs, y :: ys, h, h1, h2 => by
    simp only [List.take_succ_cons, List.cons.injEq] at h
    obtain ⟨rfl, h⟩ := h
    rw [cmpL, if_neg (Nat.lt_irrefl _), if_neg (Nat.lt_irrefl _), cmpL_drop k xs ys h (by simpa using h1) (by simpa using h2)]
    rfl
  | k + 1, [], _, _, h1, _ => by simp at h1
  | k + 1, _ :: _, [], _, _, h2 => by simp at h2
/-- How two lists of terms compare. -/
def cmpT (a b : List (Nat × Nat)) : Int := if cmpI a.length b.length ≠ 0 then cmpI a.length b.length else cmpL (a.map (·.1)) (b.map (·.1))
theorem cmpT_lt (a b : List (Nat × Nat)) : decide (cmpT a b < 0) = ltT a b := by
  unfold cmpT ltT
  rw [← cmpL_lt]
  unfold cmpI
  by_cases h1 : a.length < b.length
  · rw [if_pos (show (a.length : Int) < b.length by omega), decide_eq_true h1]; rfl
  · rw [if_neg (show ¬ (a.length : Int) < b.length by omega), decide_eq_false h1]
    by_cases h2 : b.length < a.length
    · rw [if_pos (show (b.length : Int) < a.length by omega), decide_eq_false (show ¬ a.length = b.length by omega)]; rfl
    · rw [if_neg (show ¬ (b.length : Int) < a.length by omega), decide_eq_true (show a.length = b.length by omega)]; simp
/-- A list of terms, as data. -/
def tlD (l : List (Nat × Nat)) : List Dat := [.sl 2 (l.map tmD)]
abbrev tlsA (l : List (List (Nat × Nat))) : AV := .d (.sl 1 (l.map tlD))
attribute [local irreducible] Quiet Eff OpOk AWPG ACont ABlock ACalls AGoto

theorem A_isNaN (x : Int) : ACalls Tryd.prog 63 [iV x] [] (bV false) [] := by
  refine acalls_of_bodyO Tryd.func63 rfl (Nat.le_of_ble_eq_true rfl) ?_
  (repeat' (first
  | (apply W.qd; (first
    | (apply q_mv; (first
    | exact Eq.refl (AV.d _)
    | exact Eq.refl (AV.osl _ _ _ _)
    | exact Eq.refl (AV.opt _ _)
    | exact Eq.refl (AV.agg _)
    | exact Eq.refl (AV.fpt _ _ _ _)
    | exact Eq.refl (AV.rpt _ _ _ _)
    | exact Eq.refl (AV.fn _ _)
    | exact Eq.refl (AV.yl _)
    | exact Eq.refl (AV.tup _)
    | exact Eq.refl AV.top))
    | (apply q_as; (first
    | exact Eq.refl (AV.d _)
    | exact Eq.refl (AV.osl _ _ _ _)
    | exact Eq.refl (AV.opt _ _)
    | exact Eq.refl (AV.agg _)
    | exact Eq.refl (AV.fpt _ _ _ _)
    | exact Eq.refl (AV.rpt _ _ _ _)
    | exact Eq.refl (AV.fn _ _)
    | exact Eq.refl (AV.yl _)
    | exact Eq.refl (AV.tup _)
    | exact Eq.refl AV.top))
    | (apply q_neq; exact rfl; exact rfl)))
  | (apply AWP.seq)
  | (apply ACont_normal)
  | (apply W.region; kernel_rfl)
  | (apply Walk.nil)
  | (apply AWP.ret)))
  all_goals exact ⟨.inl rfl, [], [bV (!decide (x = x))], rfl, rfl, ⟨rfl, trivial⟩, AVle.of_eq (congrArg bV (show (!decide (x = x)) = false by simp)), rfl⟩
theorem A_cmp (x y : Int) : ACalls Tryd.prog 35 [iV x, iV y] [] (iV (cmpI x y)) [] := by
  refine acalls_of_bodyO Tryd.func35 rfl (Nat.le_of_ble_eq_true rfl) ?_
  have h1 := A_isNaN x
  have h2 := A_isNaN y
  unfold cmpI
  by_cases hxy : x < y
  · rw [if_pos hxy]
    (repeat' (first
  | (apply W.qd; (first
    | (apply (q_callC (h1)); exact rfl; exact rfl; kernel_rfl; kernel_rfl; kernel_rfl)
    | (apply (q_callC (h2)); exact rfl; exact rfl; kernel_rfl; kernel_rfl; kernel_rfl)
    | (apply q_mv; (first
    | exact Eq.refl (AV.d _)
    | exact Eq.refl (AV.osl _ _ _ _)
    | exact Eq.refl (AV.opt _ _)
    | exact Eq.refl (AV.agg _)
    | exact Eq.refl (AV.fpt _ _ _ _)
    | exact Eq.refl (AV.rpt _ _ _ _)
    | exact Eq.refl (AV.fn _ _)
    | exact Eq.refl (AV.yl _)
    | exact Eq.refl (AV.tup _)
    | exact Eq.refl AV.top))
    | (apply q_as; (first
    | exact Eq.refl (AV.d _)
    | exact Eq.refl (AV.osl _ _ _ _)
    | exact Eq.refl (AV.opt _ _)
    | exact Eq.refl (AV.agg _)
    | exact Eq.refl (AV.fpt _ _ _ _)
    | exact Eq.refl (AV.rpt _ _ _ _)
    | exact Eq.refl (AV.fn _ _)
    | exact Eq.refl (AV.yl _)
    | exact Eq.refl (AV.tup _)
    | exact Eq.refl AV.top))
    | (apply q_lss; exact rfl; exact rfl)))
  | (apply AWP.seq)
  | (apply ACont_normal)
  | (apply W.region; kernel_rfl)
  | (apply Walk.nil)
  | (apply AWP.skip)
  | (apply AWP.ret)
  | (apply ACont_ret)
  | (apply W.condF; exact rfl)
  | (refine W.cond _ rfl (fun hb => ?_) (fun hb => ?_) <;> ((try simp only [hb, Bool.not_true, Bool.not_false]) <;> (try simp only [decide_eq_true_eq, decide_eq_false_iff_not, Bool.not_eq_true', Bool.not_eq_false', Int.not_lt, Int.not_le, List.length_map, not_true_eq_false] at hb) <;> (try (exfalso; omega))))))
    all_goals exact ⟨.inl rfl, [], [iV (-1)], rfl, rfl, ⟨rfl, trivial⟩, AVle.of_eq rfl, rfl⟩
  · rw [if_neg hxy]
    by_cases hyx : y < x
    · rw [if_pos hyx]
      (repeat' (first
  | (apply W.qd; (first
    | (apply (q_callC (h1)); exact rfl; exact rfl; kernel_rfl; kernel_rfl; kernel_rfl)
    | (apply (q_callC (h2)); exact rfl; exact rfl; kernel_rfl; kernel_rfl; kernel_rfl)
    | (apply q_mv; (first
    | exact Eq.refl (AV.d _)
    | exact Eq.refl (AV.osl _ _ _ _)
    | exact Eq.refl (AV.opt _ _)
    | exact Eq.refl (AV.agg _)
    | exact Eq.refl (AV.fpt _ _ _ _)
    | exact Eq.refl (AV.rpt _ _ _ _)
    | exact Eq.refl (AV.fn _ _)
    | exact Eq.refl (AV.yl _)
    | exact Eq.refl (AV.tup _)
    | exact Eq.refl AV.top))
    | (apply q_as; (first
    | exact Eq.refl (AV.d _)
    | exact Eq.refl (AV.osl _ _ _ _)
    | exact Eq.refl (AV.opt _ _)
    | exact Eq.refl (AV.agg _)
    | exact Eq.refl (AV.fpt _ _ _ _)
    | exact Eq.refl (AV.rpt _ _ _ _)
    | exact Eq.refl (AV.fn _ _)
    | exact Eq.refl (AV.yl _)
    | exact Eq.refl (AV.tup _)
    | exact Eq.refl AV.top))
    | (apply q_lss; exact rfl; exact rfl)
    | (apply q_gtr; exact rfl; exact rfl)))
  | (apply AWP.seq)
  | (apply ACont_normal)
  | (apply W.region; kernel_rfl)
  | (apply Walk.nil)
  | (apply AWP.skip)
  | (apply AWP.ret)
  | (apply ACont_ret)
  | (apply W.condF; exact rfl)
  | (refine W.cond _ rfl (fun hb => ?_) (fun hb => ?_) <;> ((try simp only [hb, Bool.not_true, Bool.not_false]) <;> (try simp only [decide_eq_true_eq, decide_eq_false_iff_not, Bool.not_eq_true', Bool.not_eq_false', Int.not_lt, Int.not_le, List.length_map, not_true_eq_false] at hb) <;> (try (exfalso; omega))))))
      all_goals exact ⟨.inl rfl, [], [iV 1], rfl, rfl, ⟨rfl, trivial⟩, AVle.of_eq rfl, rfl⟩
    · rw [if_neg hyx]
      (repeat' (first
  | (apply W.qd; (first
    | (apply (q_callC (h1)); exact rfl; exact rfl; kernel_rfl; kernel_rfl; kernel_rfl)
    | (apply (q_callC (h2)); exact rfl; exact rfl; kernel_rfl; kernel_rfl; kernel_rfl)
    | (apply q_mv; (first
    | exact Eq.refl (AV.d _)
    | exact Eq.refl (AV.osl _ _ _ _)
    | exact Eq.refl (AV.opt _ _)
    | exact Eq.refl (AV.agg _)
    | exact Eq.refl (AV.fpt _ _ _ _)
    | exact Eq.refl (AV.rpt _ _ _ _)
    | exact Eq.refl (AV.fn _ _)
    | exact Eq.refl (AV.yl _)
    | exact Eq.refl (AV.tup _)
    | exact Eq.refl AV.top))
    | (apply q_as; (first
    | exact Eq.refl (AV.d _)
    | exact Eq.refl (AV.osl _ _ _ _)
    | exact Eq.refl (AV.opt _ _)
    | exact Eq.refl (AV.agg _)
    | exact Eq.refl (AV.fpt _ _ _ _)
    | exact Eq.refl (AV.rpt _ _ _ _)
    | exact Eq.refl (AV.fn _ _)
    | exact Eq.refl (AV.yl _)
    | exact Eq.refl (AV.tup _)
    | exact Eq.refl AV.top))
    | (apply q_lss; exact rfl; exact rfl)
    | (apply q_gtr; exact rfl; exact rfl)))
  | (apply AWP.seq)
  | (apply ACont_normal)
  | (apply W.region; kernel_rfl)
  | (apply Walk.nil)
  | (apply AWP.skip)
  | (apply AWP.ret)
  | (apply W.condF; exact rfl)
  | (refine W.cond _ rfl (fun hb => ?_) (fun hb => ?_) <;> ((try simp only [hb, Bool.not_true, Bool.not_false]) <;> (try simp only [decide_eq_true_eq, decide_eq_false_iff_not, Bool.not_eq_true', Bool.not_eq_false', Int.not_lt, Int.not_le, List.length_map, not_true_eq_false] at hb) <;> (try (exfalso; omega))))))
      all_goals exact ⟨.inl rfl, [], [iV 0], rfl, rfl, ⟨rfl, trivial⟩, AVle.of_eq rfl, rfl⟩
def orI : List Int → Int
  | [] => 0
  | x :: l => if x ≠ 0 then x else orI l
theorem orI_drop : ∀ (k : Nat) (l : List Int), (∀ x ∈ l.take k, x = 0) → orI l = orI (l.drop k)
  | 0, _, _ => rfl
  | k + 1, [], _ => rfl
  | k + 1, x :: l, h => by
    rw [orI, if_neg (by simpa using h x (by simp)), orI_drop k l fun y hy => h y (by simp [hy])]
    rfl
theorem A_or (l : List Int) (hl : l.length ≤ 1000000) : ACalls Tryd.prog 38 [ints l] [] (iV (orI l)) [] := by
  refine acalls_of_bodyO Tryd.func38 rfl (Nat.le_of_ble_eq_true rfl) ?_
  have hml : (l.map iD).length = l.length := List.length_map _
  (repeat' (first
  | (apply W.qd; (first
    | (apply q_mv; (first
    | exact Eq.refl (AV.d _)
    | exact Eq.refl (AV.osl _ _ _ _)
    | exact Eq.refl (AV.opt _ _)
    | exact Eq.refl (AV.agg _)
    | exact Eq.refl (AV.fpt _ _ _ _)
    | exact Eq.refl (AV.rpt _ _ _ _)
    | exact Eq.refl (AV.fn _ _)
    | exact Eq.refl (AV.yl _)
    | exact Eq.refl (AV.tup _)
    | exact Eq.refl AV.top))
    | (apply q_as; (first
    | exact Eq.refl (AV.d _)
    | exact Eq.refl (AV.osl _ _ _ _)
    | exact Eq.refl (AV.opt _ _)
    | exact Eq.refl (AV.agg _)
    | exact Eq.refl (AV.fpt _ _ _ _)
    | exact Eq.refl (AV.rpt _ _ _ _)
    | exact Eq.refl (AV.fn _ _)
    | exact Eq.refl (AV.yl _)
    | exact Eq.refl (AV.tup _)
    | exact Eq.refl AV.top))
    | (apply q_len_sl; exact rfl; exact rfl)))
  | (apply AWP.seq)
  | (apply ACont_normal)
  | (apply W.region; kernel_rfl)
  | (apply Walk.nil)
  | (apply AWP.block)))
  refine AWP.loopW (α := Nat) (fun k => k ≤ l.length ∧ ∀ x ∈ l.take k, x = 0) (fun k => ⟨[(8, iV k), (7, iV l.length), (6, ints l), (3, iV 0)], []⟩) (fun k => l.length - k) 0 ⟨by omega, by simp⟩ ⟨[], rfl, rfl, rfl, rfl, iV_eq (by simp), rfl, rfl, trivial⟩ fun k hk => ?_
  by_cases hkl : k < l.length
  · have ho : orI l = if l[k] ≠ 0 then l[k] else orI (l.drop (k + 1)) := by
      rw [orI_drop k l hk.2, List.drop_eq_getElem_cons hkl]
      rfl
    by_cases hz : l[k] = 0
    · (repeat' (first
  | (apply W.qd; (first
    | (apply q_mv; (first
    | exact Eq.refl (AV.d _)
    | exact Eq.refl (AV.osl _ _ _ _)
    | exact Eq.refl (AV.opt _ _)
    | exact Eq.refl (AV.agg _)
    | exact Eq.refl (AV.fpt _ _ _ _)
    | exact Eq.refl (AV.rpt _ _ _ _)
    | exact Eq.refl (AV.fn _ _)
    | exact Eq.refl (AV.yl _)
    | exact Eq.refl (AV.tup _)
    | exact Eq.refl AV.top))
    | (apply q_as; (first
    | exact Eq.refl (AV.d _)
    | exact Eq.refl (AV.osl _ _ _ _)
    | exact Eq.refl (AV.opt _ _)
    | exact Eq.refl (AV.agg _)
    | exact Eq.refl (AV.fpt _ _ _ _)
    | exact Eq.refl (AV.rpt _ _ _ _)
    | exact Eq.refl (AV.fn _ _)
    | exact Eq.refl (AV.yl _)
    | exact Eq.refl (AV.tup _)
    | exact Eq.refl AV.top))
    | (apply q_lss; exact rfl; exact rfl)
    | (apply q_neq; exact rfl; exact rfl)
    | (apply q_add; exact rfl; exact rfl; omega)
    | (apply q_ld_map; exact rfl; exact rfl; exact rfl; (first | omega | (focus (simp; done))))
    | (apply q_ix_slF; exact rfl; exact rfl; exact rfl; exact rfl; (first | (with_reducible exact rfl) | exact natI_spec rfl | assumption | exact (Int.toNat_of_nonneg (by omega)).symm); (first | omega | (focus (simp only [List.length_map]; omega)) | (focus (simp; done)) | (focus (simp; omega))))))
  | (apply AWP.seq)
  | (apply ACont_normal)
  | (apply W.region; kernel_rfl)
  | (apply Walk.nil)
  | (apply AWP.block)
  | (apply AWP.skip)
  | (apply ABlock_normal)
  | (refine W.cond _ rfl (fun hb => ?_) (fun hb => ?_) <;> ((try simp only [hb, Bool.not_true, Bool.not_false]) <;> (try simp only [decide_eq_true_eq, decide_eq_false_iff_not, Bool.not_eq_true', Bool.not_eq_false', Int.not_lt, Int.not_le, List.length_map, not_true_eq_false] at hb) <;> (try (exfalso; omega))))))
      refine ⟨k + 1, ⟨by omega, fun x hx => ?_⟩, by omega, [], rfl, rfl, rfl, iV_eq (by omega), rfl, rfl, rfl, trivial⟩
      rw [List.take_succ_eq_append_getElem hkl] at hx
      rcases List.mem_append.1 hx with hx | hx
      · exact hk.2 x hx
      · rw [List.mem_singleton.1 hx]; exact hz
    · rw [if_pos hz] at ho
      rw [ho]
      (repeat' (first
  | (apply W.qd; (first
    | (apply q_mv; (first
    | exact Eq.refl (AV.d _)
    | exact Eq.refl (AV.osl _ _ _ _)
    | exact Eq.refl (AV.opt _ _)
    | exact Eq.refl (AV.agg _)
    | exact Eq.refl (AV.fpt _ _ _ _)
    | exact Eq.refl (AV.rpt _ _ _ _)
    | exact Eq.refl (AV.fn _ _)
    | exact Eq.refl (AV.yl _)
    | exact Eq.refl (AV.tup _)
    | exact Eq.refl AV.top))
    | (apply q_as; (first
    | exact Eq.refl (AV.d _)
    | exact Eq.refl (AV.osl _ _ _ _)
    | exact Eq.refl (AV.opt _ _)
    | exact Eq.refl (AV.agg _)
    | exact Eq.refl (AV.fpt _ _ _ _)
    | exact Eq.refl (AV.rpt _ _ _ _)
    | exact Eq.refl (AV.fn _ _)
    | exact Eq.refl (AV.yl _)
    | exact Eq.refl (AV.tup _)
    | exact Eq.refl AV.top))
    | (apply q_lss; exact rfl; exact rfl)
    | (apply q_neq; exact rfl; exact rfl)
    | (apply q_ld_map; exact rfl; exact rfl; exact rfl; (first | omega | (focus (simp; done))))
    | (apply q_ix_slF; exact rfl; exact rfl; exact rfl; exact rfl; (first | (with_reducible exact rfl) | exact natI_spec rfl | assumption | exact (Int.toNat_of_nonneg (by omega)).symm); (first | omega | (focus (simp only [List.length_map]; omega)) | (focus (simp; done)) | (focus (simp; omega))))))
  | (apply AWP.seq)
  | (apply ACont_normal)
  | (apply W.region; kernel_rfl)
  | (apply Walk.nil)
  | (apply AWP.block)
  | (apply AWP.skip)
  | (apply AWP.ret)
  | (apply ACont_ret)
  | (apply ABlock_ret)
  | (refine W.cond _ rfl (fun hb => ?_) (fun hb => ?_) <;> ((try simp only [hb, Bool.not_true, Bool.not_false]) <;> (try simp only [decide_eq_true_eq, decide_eq_false_iff_not, Bool.not_eq_true', Bool.not_eq_false', Int.not_lt, Int.not_le, List.length_map, not_true_eq_false] at hb) <;> (try (exfalso; omega))))))
      exact ⟨.inl rfl, [], [iV l[k]], rfl, rfl, ⟨rfl, trivial⟩, AVle.of_eq rfl, rfl⟩
  · have ho : orI l = 0 := by
      rw [orI_drop k l hk.2, List.drop_eq_nil_of_le (by omega)]; rfl
    rw [ho]
    (repeat' (first
  | (apply W.qd; (first
    | (apply q_mv; (first
    | exact Eq.refl (AV.d _)
    | exact Eq.refl (AV.osl _ _ _ _)
    | exact Eq.refl (AV.opt _ _)
    | exact Eq.refl (AV.agg _)
    | exact Eq.refl (AV.fpt _ _ _ _)
    | exact Eq.refl (AV.rpt _ _ _ _)
    | exact Eq.refl (AV.fn _ _)
    | exact Eq.refl (AV.yl _)
    | exact Eq.refl (AV.tup _)
    | exact Eq.refl AV.top))
    | (apply q_as; (first
    | exact Eq.refl (AV.d _)
    | exact Eq.refl (AV.osl _ _ _ _)
    | exact Eq.refl (AV.opt _ _)
    | exact Eq.refl (AV.agg _)
    | exact Eq.refl (AV.fpt _ _ _ _)
    | exact Eq.refl (AV.rpt _ _ _ _)
    | exact Eq.refl (AV.fn _ _)
    | exact Eq.refl (AV.yl _)
    | exact Eq.refl (AV.tup _)
    | exact Eq.refl AV.top))
    | (apply q_lss; exact rfl; exact rfl)))
  | (apply AWP.seq)
  | (apply ACont_normal)
  | (apply W.region; kernel_rfl)
  | (apply Walk.nil)
  | (apply AWP.exit)
  | (apply AWP.ret)
  | (apply ACont_exit)
  | (apply ABlock_exit)
  | (refine W.cond _ rfl (fun hb => ?_) (fun hb => ?_) <;> ((try simp only [hb, Bool.not_true, Bool.not_false]) <;> (try simp only [decide_eq_true_eq, decide_eq_false_iff_not, Bool.not_eq_true', Bool.not_eq_false', Int.not_lt, Int.not_le, List.length_map, not_true_eq_false] at hb) <;> (try (exfalso; omega))))))
    exact ⟨.inl rfl, [], [iV 0], rfl, rfl, ⟨rfl, trivial⟩, AVle.of_eq rfl, rfl⟩
theorem A_first (a b : Nat × Nat) : ACalls Tryd.prog 34 [.agg [iV a.1, iV a.2], .agg [iV b.1, iV b.2]] [] (iV (cmpI a.1 b.1)) [] := by
  refine acalls_of_bodyO Tryd.func34 rfl (Nat.le_of_ble_eq_true rfl) ?_
  have h := A_cmp a.1 b.1
  (repeat' (first
  | (apply W.qd; (first
    | (apply (q_callC (h)); exact rfl; exact rfl; kernel_rfl; kernel_rfl; kernel_rfl)
    | (apply q_as; (first
    | exact Eq.refl (AV.d _)
    | exact Eq.refl (AV.osl _ _ _ _)
    | exact Eq.refl (AV.opt _ _)
    | exact Eq.refl (AV.agg _)
    | exact Eq.refl (AV.fpt _ _ _ _)
    | exact Eq.refl (AV.rpt _ _ _ _)
    | exact Eq.refl (AV.fn _ _)
    | exact Eq.refl (AV.yl _)
    | exact Eq.refl (AV.tup _)
    | exact Eq.refl AV.top))
    | (apply q_fld_optF; exact rfl; exact rfl; exact rfl)
    | (apply q_ld_box; exact rfl; exact rfl; exact rfl; exact rfl)))
  | (apply W.ed; (apply e_boxF; exact rfl; exact rfl; exact rfl; kernel_rfl; kernel_rfl))
  | (apply AWP.seq)
  | (apply ACont_normal)
  | (apply W.region; kernel_rfl)
  | (apply Walk.nil)
  | (apply AWP.ret)))
  exact ⟨.inl rfl, [], [iV (cmpI a.1 b.1)], rfl, rfl, ⟨rfl, trivial⟩, AVle.of_eq rfl, rfl⟩
theorem A_cmpFunc (a b : List (Nat × Nat)) (ha : a.length ≤ 1000000) (hb0 : b.length ≤ 1000000) : ACalls Tryd.prog 39 [tmsA a, tmsA b, .fn 34 []] [] (iV (cmpL (a.map (·.1)) (b.map (·.1)))) [] := by
  refine acalls_of_bodyO Tryd.func39 rfl (Nat.le_of_ble_eq_true rfl) ?_
  have hma : (a.map tmD).length = a.length := List.length_map _
  have hmb : (b.map tmD).length = b.length := List.length_map _
  have hla : (a.map (·.1)).length = a.length := List.length_map _
  have hlb : (b.map (·.1)).length = b.length := List.length_map _
  (repeat' (first
  | (apply W.qd; (first
    | (apply q_mv; (first
    | exact Eq.refl (AV.d _)
    | exact Eq.refl (AV.osl _ _ _ _)
    | exact Eq.refl (AV.opt _ _)
    | exact Eq.refl (AV.agg _)
    | exact Eq.refl (AV.fpt _ _ _ _)
    | exact Eq.refl (AV.rpt _ _ _ _)
    | exact Eq.refl (AV.fn _ _)
    | exact Eq.refl (AV.yl _)
    | exact Eq.refl (AV.tup _)
    | exact Eq.refl AV.top))
    | (apply q_as; (first
    | exact Eq.refl (AV.d _)
    | exact Eq.refl (AV.osl _ _ _ _)
    | exact Eq.refl (AV.opt _ _)
    | exact Eq.refl (AV.agg _)
    | exact Eq.refl (AV.fpt _ _ _ _)
    | exact Eq.refl (AV.rpt _ _ _ _)
    | exact Eq.refl (AV.fn _ _)
    | exact Eq.refl (AV.yl _)
    | exact Eq.refl (AV.tup _)
    | exact Eq.refl AV.top))
    | (apply q_len_sl; exact rfl; exact rfl)))
  | (apply AWP.seq)
  | (apply ACont_normal)
  | (apply W.region; kernel_rfl)
  | (apply Walk.nil)
  | (apply AWP.block)))
  refine AWP.loopW (α := Nat) (fun k => k ≤ a.length ∧ k ≤ b.length ∧ (a.map (·.1)).take k = (b.map (·.1)).take k) (fun k => ⟨[(13, iV k), (12, iV a.length), (11, tmsA a), (0, tmsA a), (1, tmsA b), (2, .fn 34 [])], []⟩) (fun k => a.length - k) 0 ⟨by omega, by omega, rfl⟩ ⟨[], rfl, rfl, rfl, rfl, iV_eq (by simp), rfl, rfl, rfl, rfl, trivial⟩ fun k hk => ?_
  obtain ⟨hk1, hk2, hk3⟩ := hk
  have hd := cmpL_drop k _ _ hk3 (by omega) (by omega)
  by_cases hka : k < a.length
  · have ea : (a.map (·.1)).drop k = a[k].1 :: (a.map (·.1)).drop (k + 1) := by
      rw [List.drop_eq_getElem_cons (by omega)]; simp
    by_cases hkb : k < b.length
    · have eb : (b.map (·.1)).drop k = b[k].1 :: (b.map (·.1)).drop (k + 1) := by
        rw [List.drop_eq_getElem_cons (by omega)]; simp
      rw [ea, eb, cmpL] at hd
      have hf := A_first a[k] b[k]
      unfold cmpI at hf
      by_cases h1 : a[k].1 < b[k].1
      · rw [if_pos h1] at hd
        rw [if_pos (show (a[k].1 : Int) < b[k].1 by omega)] at hf
        rw [hd]
        (repeat' (first
  | (apply W.qd; (first
    | (apply (q_callC (hf)); exact rfl; exact rfl; kernel_rfl; kernel_rfl; kernel_rfl)
    | (apply q_mv; (first
    | exact Eq.refl (AV.d _)
    | exact Eq.refl (AV.osl _ _ _ _)
    | exact Eq.refl (AV.opt _ _)
    | exact Eq.refl (AV.agg _)
    | exact Eq.refl (AV.fpt _ _ _ _)
    | exact Eq.refl (AV.rpt _ _ _ _)
    | exact Eq.refl (AV.fn _ _)
    | exact Eq.refl (AV.yl _)
    | exact Eq.refl (AV.tup _)
    | exact Eq.refl AV.top))
    | (apply q_as; (first
    | exact Eq.refl (AV.d _)
    | exact Eq.refl (AV.osl _ _ _ _)
    | exact Eq.refl (AV.opt _ _)
    | exact Eq.refl (AV.agg _)
    | exact Eq.refl (AV.fpt _ _ _ _)
    | exact Eq.refl (AV.rpt _ _ _ _)
    | exact Eq.refl (AV.fn _ _)
    | exact Eq.refl (AV.yl _)
    | exact Eq.refl (AV.tup _)
    | exact Eq.refl AV.top))
    | (apply q_ld_boxF; exact rfl; exact rfl; exact rfl; exact rfl)
    | (apply q_lss; exact rfl; exact rfl)
    | (apply q_geq; exact rfl; exact rfl)
    | (apply q_neq; exact rfl; exact rfl)
    | (apply q_len_sl; exact rfl; exact rfl)
    | (apply q_ld_maps; exact rfl; exact rfl; exact rfl; (first | omega | (focus (simp; done))))
    | (apply q_ix_slF; exact rfl; exact rfl; exact rfl; exact rfl; (first | (with_reducible exact rfl) | exact natI_spec rfl | assumption | exact (Int.toNat_of_nonneg (by omega)).symm); (first | omega | (focus (simp only [List.length_map]; omega)) | (focus (simp; done)) | (focus (simp; omega))))))
  | (apply W.ed; (apply e_allocF; exact rfl; exact rfl; exact rfl; kernel_rfl))
  | (apply W.ln; (apply l_st_box; exact rfl; exact rfl; exact rfl; exact rfl; exact rfl; exact rfl; kernel_rfl; kernel_rfl; kernel_rfl))
  | (apply AWP.seq)
  | (apply ACont_normal)
  | (apply W.region; kernel_rfl)
  | (apply Walk.nil)
  | (apply AWP.block)
  | (apply AWP.skip)
  | (apply AWP.ret)
  | (apply ACont_ret)
  | (apply ABlock_ret)
  | (apply W.condT; exact rfl)
  | (refine W.cond _ rfl (fun hb => ?_) (fun hb => ?_) <;> ((try simp only [hb, Bool.not_true, Bool.not_false]) <;> (try simp only [decide_eq_true_eq, decide_eq_false_iff_not, Bool.not_eq_true', Bool.not_eq_false', Int.not_lt, Int.not_le, List.length_map, not_true_eq_false] at hb) <;> (try (exfalso; omega))))))
        exact ⟨.inl rfl, [], [iV (-1)], rfl, rfl, ⟨rfl, trivial⟩, AVle.of_eq rfl, rfl⟩
      · rw [if_neg h1] at hd
        rw [if_neg (show ¬ (a[k].1 : Int) < b[k].1 by omega)] at hf
        by_cases h2 : b[k].1 < a[k].1
        · rw [if_pos h2] at hd
          rw [if_pos (show (b[k].1 : Int) < a[k].1 by omega)] at hf
          rw [hd]
          (repeat' (first
  | (apply W.qd; (first
    | (apply (q_callC (hf)); exact rfl; exact rfl; kernel_rfl; kernel_rfl; kernel_rfl)
    | (apply q_mv; (first
    | exact Eq.refl (AV.d _)
    | exact Eq.refl (AV.osl _ _ _ _)
    | exact Eq.refl (AV.opt _ _)
    | exact Eq.refl (AV.agg _)
    | exact Eq.refl (AV.fpt _ _ _ _)
    | exact Eq.refl (AV.rpt _ _ _ _)
    | exact Eq.refl (AV.fn _ _)
    | exact Eq.refl (AV.yl _)
    | exact Eq.refl (AV.tup _)
    | exact Eq.refl AV.top))
    | (apply q_as; (first
    | exact Eq.refl (AV.d _)
    | exact Eq.refl (AV.osl _ _ _ _)
    | exact Eq.refl (AV.opt _ _)
    | exact Eq.refl (AV.agg _)
    | exact Eq.refl (AV.fpt _ _ _ _)
    | exact Eq.refl (AV.rpt _ _ _ _)
    | exact Eq.refl (AV.fn _ _)
    | exact Eq.refl (AV.yl _)
    | exact Eq.refl (AV.tup _)
    | exact Eq.refl AV.top))
    | (apply q_ld_boxF; exact rfl; exact rfl; exact rfl; exact rfl)
    | (apply q_lss; exact rfl; exact rfl)
    | (apply q_geq; exact rfl; exact rfl)
    | (apply q_neq; exact rfl; exact rfl)
    | (apply q_len_sl; exact rfl; exact rfl)
    | (apply q_ld_maps; exact rfl; exact rfl; exact rfl; (first | omega | (focus (simp; done))))
    | (apply q_ix_slF; exact rfl; exact rfl; exact rfl; exact rfl; (first | (with_reducible exact rfl) | exact natI_spec rfl | assumption | exact (Int.toNat_of_nonneg (by omega)).symm); (first | omega | (focus (simp only [List.length_map]; omega)) | (focus (simp; done)) | (focus (simp; omega))))))
  | (apply W.ed; (apply e_allocF; exact rfl; exact rfl; exact rfl; kernel_rfl))
  | (apply W.ln; (apply l_st_box; exact rfl; exact rfl; exact rfl; exact rfl; exact rfl; exact rfl; kernel_rfl; kernel_rfl; kernel_rfl))
  | (apply AWP.seq)
  | (apply ACont_normal)
  | (apply W.region; kernel_rfl)
  | (apply Walk.nil)
  | (apply AWP.block)
  | (apply AWP.skip)
  | (apply AWP.ret)
  | (apply ACont_ret)
  | (apply ABlock_ret)
  | (apply W.condT; exact rfl)
  | (refine W.cond _ rfl (fun hb => ?_) (fun hb => ?_) <;> ((try simp only [hb, Bool.not_true, Bool.not_false]) <;> (try simp only [decide_eq_true_eq, decide_eq_false_iff_not, Bool.not_eq_true', Bool.not_eq_false', Int.not_lt, Int.not_le, List.length_map, not_true_eq_false] at hb) <;> (try (exfalso; omega))))))
          exact ⟨.inl rfl, [], [iV 1], rfl, rfl, ⟨rfl, trivial⟩, AVle.of_eq rfl, rfl⟩
        · rw [if_neg (show ¬ (b[k].1 : Int) < a[k].1 by omega)] at hf
          (repeat' (first
  | (apply W.qd; (first
    | (apply (q_callC (hf)); exact rfl; exact rfl; kernel_rfl; kernel_rfl; kernel_rfl)
    | (apply q_mv; (first
    | exact Eq.refl (AV.d _)
    | exact Eq.refl (AV.osl _ _ _ _)
    | exact Eq.refl (AV.opt _ _)
    | exact Eq.refl (AV.agg _)
    | exact Eq.refl (AV.fpt _ _ _ _)
    | exact Eq.refl (AV.rpt _ _ _ _)
    | exact Eq.refl (AV.fn _ _)
    | exact Eq.refl (AV.yl _)
    | exact Eq.refl (AV.tup _)
    | exact Eq.refl AV.top))
    | (apply q_as; (first
    | exact Eq.refl (AV.d _)
    | exact Eq.refl (AV.osl _ _ _ _)
    | exact Eq.refl (AV.opt _ _)
    | exact Eq.refl (AV.agg _)
    | exact Eq.refl (AV.fpt _ _ _ _)
    | exact Eq.refl (AV.rpt _ _ _ _)
    | exact Eq.refl (AV.fn _ _)
    | exact Eq.refl (AV.yl _)
    | exact Eq.refl (AV.tup _)
    | exact Eq.refl AV.top))
    | (apply q_ld_boxF; exact rfl; exact rfl; exact rfl; exact rfl)
    | (apply q_lss; exact rfl; exact rfl)
    | (apply q_geq; exact rfl; exact rfl)
    | (apply q_neq; exact rfl; exact rfl)
    | (apply q_add; exact rfl; exact rfl; omega)
    | (apply q_len_sl; exact rfl; exact rfl)
    | (apply q_ld_maps; exact rfl; exact rfl; exact rfl; (first | omega | (focus (simp; done))))
    | (apply q_ix_slF; exact rfl; exact rfl; exact rfl; exact rfl; (first | (with_reducible exact rfl) | exact natI_spec rfl | assumption | exact (Int.toNat_of_nonneg (by omega)).symm); (first | omega | (focus (simp only [List.length_map]; omega)) | (focus (simp; done)) | (focus (simp; omega))))))
  | (apply W.ed; (apply e_allocF; exact rfl; exact rfl; exact rfl; kernel_rfl))
  | (apply W.ln; (apply l_st_box; exact rfl; exact rfl; exact rfl; exact rfl; exact rfl; exact rfl; kernel_rfl; kernel_rfl; kernel_rfl))
  | (apply AWP.seq)
  | (apply ACont_normal)
  | (apply W.region; kernel_rfl)
  | (apply Walk.nil)
  | (apply AWP.block)
  | (apply AWP.skip)
  | (apply ABlock_normal)
  | (apply W.condF; exact rfl)
  | (refine W.cond _ rfl (fun hb => ?_) (fun hb => ?_) <;> ((try simp only [hb, Bool.not_true, Bool.not_false]) <;> (try simp only [decide_eq_true_eq, decide_eq_false_iff_not, Bool.not_eq_true', Bool.not_eq_false', Int.not_lt, Int.not_le, List.length_map, not_true_eq_false] at hb) <;> (try (exfalso; omega))))))
          refine ⟨k + 1, ⟨by omega, by omega, ?_⟩, by omega, [], rfl, rfl, rfl, iV_eq (by omega), rfl, rfl, rfl, rfl, rfl, trivial⟩
          rw [List.take_succ_eq_append_getElem (by omega), List.take_succ_eq_append_getElem (by omega), hk3]
          congr 2
          simp only [List.getElem_map]
          omega
    · have eb : (b.map (·.1)).drop k = [] := List.drop_eq_nil_of_le (by omega)
      rw [ea, eb] at hd
      rw [hd]
      (repeat' (first
  | (apply W.qd; (first
    | (apply q_mv; (first
    | exact Eq.refl (AV.d _)
    | exact Eq.refl (AV.osl _ _ _ _)
    | exact Eq.refl (AV.opt _ _)
    | exact Eq.refl (AV.agg _)
    | exact Eq.refl (AV.fpt _ _ _ _)
    | exact Eq.refl (AV.rpt _ _ _ _)
    | exact Eq.refl (AV.fn _ _)
    | exact Eq.refl (AV.yl _)
    | exact Eq.refl (AV.tup _)
    | exact Eq.refl AV.top))
    | (apply q_as; (first
    | exact Eq.refl (AV.d _)
    | exact Eq.refl (AV.osl _ _ _ _)
    | exact Eq.refl (AV.opt _ _)
    | exact Eq.refl (AV.agg _)
    | exact Eq.refl (AV.fpt _ _ _ _)
    | exact Eq.refl (AV.rpt _ _ _ _)
    | exact Eq.refl (AV.fn _ _)
    | exact Eq.refl (AV.yl _)
    | exact Eq.refl (AV.tup _)
    | exact Eq.refl AV.top))
    | (apply q_lss; exact rfl; exact rfl)
    | (apply q_geq; exact rfl; exact rfl)
    | (apply q_len_sl; exact rfl; exact rfl)
    | (apply q_ld_maps; exact rfl; exact rfl; exact rfl; (first | omega | (focus (simp; done))))
    | (apply q_ix_slF; exact rfl; exact rfl; exact rfl; exact rfl; (first | (with_reducible exact rfl) | exact natI_spec rfl | assumption | exact (Int.toNat_of_nonneg (by omega)).symm); (first | omega | (focus (simp only [List.length_map]; omega)) | (focus (simp; done)) | (focus (simp; omega))))))
  | (apply W.ed; (apply e_allocF; exact rfl; exact rfl; exact rfl; kernel_rfl))
  | (apply W.ln; (apply l_st_box; exact rfl; exact rfl; exact rfl; exact rfl; exact rfl; exact rfl; kernel_rfl; kernel_rfl; kernel_rfl))
  | (apply AWP.seq)
  | (apply ACont_normal)
  | (apply W.region; kernel_rfl)
  | (apply Walk.nil)
  | (apply AWP.block)
  | (apply AWP.skip)
  | (apply AWP.ret)
  | (apply ACont_ret)
  | (apply ABlock_ret)
  | (refine W.cond _ rfl (fun hb => ?_) (fun hb => ?_) <;> ((try simp only [hb, Bool.not_true, Bool.not_false]) <;> (try simp only [decide_eq_true_eq, decide_eq_false_iff_not, Bool.not_eq_true', Bool.not_eq_false', Int.not_lt, Int.not_le, List.length_map, not_true_eq_false] at hb) <;> (try (exfalso; omega))))))
      exact ⟨.inl rfl, [], [iV 1], rfl, rfl, ⟨rfl, trivial⟩, AVle.of_eq rfl, rfl⟩
  · have ea : (a.map (·.1)).drop k = [] := List.drop_eq_nil_of_le (by omega)
    rw [ea] at hd
    by_cases hkb : k < b.length
    · have eb : (b.map (·.1)).drop k = b[k].1 :: (b.map (·.1)).drop (k + 1) := by
        rw [List.drop_eq_getElem_cons (by omega)]; simp
      rw [eb] at hd
      rw [hd]
      (repeat' (first
  | (apply W.qd; (first
    | (apply q_mv; (first
    | exact Eq.refl (AV.d _)
    | exact Eq.refl (AV.osl _ _ _ _)
    | exact Eq.refl (AV.opt _ _)
    | exact Eq.refl (AV.agg _)
    | exact Eq.refl (AV.fpt _ _ _ _)
    | exact Eq.refl (AV.rpt _ _ _ _)
    | exact Eq.refl (AV.fn _ _)
    | exact Eq.refl (AV.yl _)
    | exact Eq.refl (AV.tup _)
    | exact Eq.refl AV.top))
    | (apply q_as; (first
    | exact Eq.refl (AV.d _)
    | exact Eq.refl (AV.osl _ _ _ _)
    | exact Eq.refl (AV.opt _ _)
    | exact Eq.refl (AV.agg _)
    | exact Eq.refl (AV.fpt _ _ _ _)
    | exact Eq.refl (AV.rpt _ _ _ _)
    | exact Eq.refl (AV.fn _ _)
    | exact Eq.refl (AV.yl _)
    | exact Eq.refl (AV.tup _)
    | exact Eq.refl AV.top))
    | (apply q_lss; exact rfl; exact rfl)
    | (apply q_len_sl; exact rfl; exact rfl)))
  | (apply AWP.seq)
  | (apply ACont_normal)
  | (apply W.region; kernel_rfl)
  | (apply Walk.nil)
  | (apply AWP.exit)
  | (apply AWP.ret)
  | (apply ACont_exit)
  | (apply ACont_ret)
  | (apply ABlock_exit)
  | (refine W.cond _ rfl (fun hb => ?_) (fun hb => ?_) <;> ((try simp only [hb, Bool.not_true, Bool.not_false]) <;> (try simp only [decide_eq_true_eq, decide_eq_false_iff_not, Bool.not_eq_true', Bool.not_eq_false', Int.not_lt, Int.not_le, List.length_map, not_true_eq_false] at hb) <;> (try (exfalso; omega))))))
      exact ⟨.inl rfl, [], [iV (-1)], rfl, rfl, ⟨rfl, trivial⟩, AVle.of_eq rfl, rfl⟩
    · have eb : (b.map (·.1)).drop k = [] := List.drop_eq_nil_of_le (by omega)
      rw [eb] at hd
      rw [hd]
      (repeat' (first
  | (apply W.qd; (first
    | (apply q_mv; (first
    | exact Eq.refl (AV.d _)
    | exact Eq.refl (AV.osl _ _ _ _)
    | exact Eq.refl (AV.opt _ _)
    | exact Eq.refl (AV.agg _)
    | exact Eq.refl (AV.fpt _ _ _ _)
    | exact Eq.refl (AV.rpt _ _ _ _)
    | exact Eq.refl (AV.fn _ _)
    | exact Eq.refl (AV.yl _)
    | exact Eq.refl (AV.tup _)
    | exact Eq.refl AV.top))
    | (apply q_as; (first
    | exact Eq.refl (AV.d _)
    | exact Eq.refl (AV.osl _ _ _ _)
    | exact Eq.refl (AV.opt _ _)
    | exact Eq.refl (AV.agg _)
    | exact Eq.refl (AV.fpt _ _ _ _)
    | exact Eq.refl (AV.rpt _ _ _ _)
    | exact Eq.refl (AV.fn _ _)
    | exact Eq.refl (AV.yl _)
    | exact Eq.refl (AV.tup _)
    | exact Eq.refl AV.top))
    | (apply q_lss; exact rfl; exact rfl)
    | (apply q_len_sl; exact rfl; exact rfl)))
  | (apply AWP.seq)
  | (apply ACont_normal)
  | (apply W.region; kernel_rfl)
  | (apply Walk.nil)
  | (apply AWP.skip)
  | (apply AWP.exit)
  | (apply AWP.ret)
  | (apply ACont_exit)
  | (apply ABlock_exit)
  | (refine W.cond _ rfl (fun hb => ?_) (fun hb => ?_) <;> ((try simp only [hb, Bool.not_true, Bool.not_false]) <;> (try simp only [decide_eq_true_eq, decide_eq_false_iff_not, Bool.not_eq_true', Bool.not_eq_false', Int.not_lt, Int.not_le, List.length_map, not_true_eq_false] at hb) <;> (try (exfalso; omega))))))
      exact ⟨.inl rfl, [], [iV 0], rfl, rfl, ⟨rfl, trivial⟩, AVle.of_eq rfl, rfl⟩
theorem A_cmpT (a b : List (Nat × Nat)) (ha : a.length ≤ 1000000) (hb0 : b.length ≤ 1000000) : ACalls Tryd.prog 37 [tmsA a, tmsA b, .opt 0 0] [.box [.fn 34 []]] (iV (cmpT a b)) [.box [.fn 34 []]] := by
  refine acalls_of_bodyO Tryd.func37 rfl (Nat.le_of_ble_eq_true rfl) ?_
  have hma : (a.map tmD).length = a.length := List.length_map _
  have hmb : (b.map tmD).length = b.length := List.length_map _
  have h1 := A_cmp a.length b.length
  have h2 := A_cmpFunc a b ha hb0
  have h3 := A_or [cmpI a.length b.length, cmpL (a.map (·.1)) (b.map (·.1))] (by simp)
  have e : orI [cmpI a.length b.length, cmpL (a.map (·.1)) (b.map (·.1))] = cmpT a b := by
    show (if cmpI a.length b.length ≠ 0 then cmpI a.length b.length else if cmpL (a.map (·.1)) (b.map (·.1)) ≠ 0 then cmpL (a.map (·.1)) (b.map (·.1)) else 0) = _
    unfold cmpT
    split
    · rfl
    · split
      · rfl
      · rename_i h; exact (Classical.not_not.1 h).symm
  rw [e] at h3
  rw [← hma, ← hmb] at h1
  rw [← hma, ← hmb] at h3
  generalize cmpT a b = r at *
  generalize cmpL (a.map (·.1)) (b.map (·.1)) = c at *
  (repeat' (first
  | (apply W.qd; (first
    | (apply (q_callC (h1)); exact rfl; exact rfl; kernel_rfl; kernel_rfl; kernel_rfl)
    | (apply (q_callC (h2)); exact rfl; exact rfl; kernel_rfl; kernel_rfl; kernel_rfl)
    | (apply (q_callC (h3)); exact rfl; exact rfl; kernel_rfl; kernel_rfl; kernel_rfl)
    | (apply q_mv; (first
    | exact Eq.refl (AV.d _)
    | exact Eq.refl (AV.osl _ _ _ _)
    | exact Eq.refl (AV.opt _ _)
    | exact Eq.refl (AV.agg _)
    | exact Eq.refl (AV.fpt _ _ _ _)
    | exact Eq.refl (AV.rpt _ _ _ _)
    | exact Eq.refl (AV.fn _ _)
    | exact Eq.refl (AV.yl _)
    | exact Eq.refl (AV.tup _)
    | exact Eq.refl AV.top))
    | (apply q_as; (first
    | exact Eq.refl (AV.d _)
    | exact Eq.refl (AV.osl _ _ _ _)
    | exact Eq.refl (AV.opt _ _)
    | exact Eq.refl (AV.agg _)
    | exact Eq.refl (AV.fpt _ _ _ _)
    | exact Eq.refl (AV.rpt _ _ _ _)
    | exact Eq.refl (AV.fn _ _)
    | exact Eq.refl (AV.yl _)
    | exact Eq.refl (AV.tup _)
    | exact Eq.refl AV.top))
    | (apply q_ld_box; exact rfl; exact rfl; exact rfl; exact rfl)
    | (apply q_len_sl; exact rfl; exact rfl)
    | (apply q_litF; exact rfl; exact rfl; exact rfl; exact rfl; exact rfl; kernel_rfl; kernel_rfl; exact rfl)))
  | (apply AWP.seq)
  | (apply ACont_normal)
  | (apply W.region; kernel_rfl)
  | (apply W.regionD; exact rfl; kernel_rfl)
  | (apply Walk.nil)
  | (apply W.chk; kernel_rfl)
  | (apply AWP.ret)))
  all_goals exact ⟨.inl rfl, [0], [iV r], rfl, rfl, ⟨rfl, trivial⟩, AVle.of_eq rfl, rfl⟩
theorem minT_take (a : List (Nat × Nat)) (l : List (List (Nat × Nat))) (k : Nat) (h : k < l.length) : minT a (l.take (k + 1)) = if ltT l[k] (minT a (l.take k)) then l[k] else minT a (l.take k) := by
  unfold minT
  rw [List.take_succ_eq_append_getElem h, List.foldl_append]
  rfl
theorem A_minFunc (l : List (List (Nat × Nat))) (hl0 : 0 < l.length) (hl : l.length ≤ 1000000) (hel : ∀ t ∈ l, t.length ≤ 1000000) : ACalls Tryd.prog 36 [tlsA l, .fn 37 [.opt 0 0]] [.box [.fn 34 []]] (tmsA ((bestN l).getD [])) [.box [.fn 34 []]] := by
  refine acalls_of_bodyO Tryd.func36 rfl (Nat.le_of_ble_eq_true rfl) ?_
  have hml : (l.map tlD).length = l.length := List.length_map _
  obtain ⟨a, l, rfl⟩ := List.exists_cons_of_length_pos hl0
  rw [show (bestN (a :: l)).getD [] = minT a l from rfl]
  have hb2 : ∀ k, (minT a (l.take k)).length ≤ 1000000 := fun k => Nat.le_trans (minT_spec (l.take k) a).2.1 (hel a (by simp))
  have hs := minT_take a l
  have h0 : minT a (l.take 0) = a := rfl
  have hfull : minT a (l.take l.length) = minT a l := by rw [List.take_length]
  have hll : (a :: l).length = l.length + 1 := rfl
  generalize hm : (fun k => minT a (l.take k)) = MT
  have hm' : ∀ k, minT a (l.take k) = MT k := fun k => congrFun hm k
  simp only [hm'] at hb2 hs h0 hfull
  rw [← hfull]
  (repeat' (first
  | (apply W.qd; (first
    | (apply q_mv; (first
    | exact Eq.refl (AV.d _)
    | exact Eq.refl (AV.osl _ _ _ _)
    | exact Eq.refl (AV.opt _ _)
    | exact Eq.refl (AV.agg _)
    | exact Eq.refl (AV.fpt _ _ _ _)
    | exact Eq.refl (AV.rpt _ _ _ _)
    | exact Eq.refl (AV.fn _ _)
    | exact Eq.refl (AV.yl _)
    | exact Eq.refl (AV.tup _)
    | exact Eq.refl AV.top))
    | (apply q_as; (first
    | exact Eq.refl (AV.d _)
    | exact Eq.refl (AV.osl _ _ _ _)
    | exact Eq.refl (AV.opt _ _)
    | exact Eq.refl (AV.agg _)
    | exact Eq.refl (AV.fpt _ _ _ _)
    | exact Eq.refl (AV.rpt _ _ _ _)
    | exact Eq.refl (AV.fn _ _)
    | exact Eq.refl (AV.yl _)
    | exact Eq.refl (AV.tup _)
    | exact Eq.refl AV.top))
    | (apply q_lss; exact rfl; exact rfl)
    | (apply q_len_sl; exact rfl; exact rfl)
    | (apply q_ld_map; exact rfl; exact rfl; exact rfl; (first | omega | (focus (simp; done))))
    | (apply q_ix_slF; exact rfl; exact rfl; exact rfl; exact rfl; (first | (with_reducible exact rfl) | exact natI_spec rfl | assumption | exact (Int.toNat_of_nonneg (by omega)).symm); (first | omega | (focus (simp only [List.length_map]; omega)) | (focus (simp; done)) | (focus (simp; omega))))))
  | (apply AWP.seq)
  | (apply ACont_normal)
  | (apply W.region; kernel_rfl)
  | (apply Walk.nil)
  | (apply AWP.block)
  | (apply AWP.skip)
  | (apply W.condF; exact rfl)))
  refine AWP.loopW (α := Nat) (fun k => k ≤ l.length) (fun k => ⟨[(6, iV (k + 1 : Nat)), (5, tmsA (MT k)), (0, tlsA (a :: l)), (1, .fn 37 [.opt 0 0])], [.box [.fn 34 []]]⟩) (fun k => l.length - k) 0 (by omega) ?wk0 fun k hk => ?_
  case wk0 =>
    rw [h0]
    exact ⟨[0], rfl, rfl, rfl, by (repeat (first | exact trivial | refine ⟨rfl, ?_⟩))⟩
  by_cases hkl : k < l.length
  · have hc := A_cmpT ((a :: l)[k + 1]'(by simp; omega)) (MT k) (hel _ (List.getElem_mem _)) (hb2 k)
    have hlt := cmpT_lt ((a :: l)[k + 1]'(by simp; omega)) (MT k)
    have hs2 := Lib.hid (hs k hkl)
    have eL : (a :: l)[k + 1]'(by simp; omega) = l[k] := rfl
    (repeat' (first
  | (apply W.qd; (first
    | (apply q_mv; (first
    | exact Eq.refl (AV.d _)
    | exact Eq.refl (AV.osl _ _ _ _)
    | exact Eq.refl (AV.opt _ _)
    | exact Eq.refl (AV.agg _)
    | exact Eq.refl (AV.fpt _ _ _ _)
    | exact Eq.refl (AV.rpt _ _ _ _)
    | exact Eq.refl (AV.fn _ _)
    | exact Eq.refl (AV.yl _)
    | exact Eq.refl (AV.tup _)
    | exact Eq.refl AV.top))
    | (apply q_as; (first
    | exact Eq.refl (AV.d _)
    | exact Eq.refl (AV.osl _ _ _ _)
    | exact Eq.refl (AV.opt _ _)
    | exact Eq.refl (AV.agg _)
    | exact Eq.refl (AV.fpt _ _ _ _)
    | exact Eq.refl (AV.rpt _ _ _ _)
    | exact Eq.refl (AV.fn _ _)
    | exact Eq.refl (AV.yl _)
    | exact Eq.refl (AV.tup _)
    | exact Eq.refl AV.top))
    | (apply q_lss; exact rfl; exact rfl)
    | (apply q_add; exact rfl; exact rfl; omega)
    | (apply q_len_sl; exact rfl; exact rfl)
    | (apply q_ld_map; exact rfl; exact rfl; exact rfl; (first | omega | (focus (simp; done))))
    | (apply q_ix_slF; exact rfl; exact rfl; exact rfl; exact rfl; (first | (with_reducible exact rfl) | exact natI_spec rfl | assumption | exact (Int.toNat_of_nonneg (by omega)).symm); (first | omega | (focus (simp only [List.length_map]; omega)) | (focus (simp; done)) | (focus (simp; omega))))))
  | (apply W.ed; (apply (e_callJ (js := [0]) (hc)); exact rfl; exact rfl; exact rfl; exact rfl; exact rfl; kernel_rfl; kernel_rfl))
  | (apply AWP.seq)
  | (apply ACont_normal)
  | (apply W.region; kernel_rfl)
  | (apply Walk.nil)
  | (apply AWP.block)
  | (apply AWP.skip)
  | (apply ABlock_normal)
  | (refine W.cond _ rfl (fun hb => ?_) (fun hb => ?_) <;> ((try simp only [hb, Bool.not_true, Bool.not_false]) <;> (try simp only [decide_eq_true_eq, decide_eq_false_iff_not, Bool.not_eq_true', Bool.not_eq_false', Int.not_lt, Int.not_le, List.length_map, not_true_eq_false] at hb) <;> (try (exfalso; omega))))))
    · rw [decide_eq_true hb, eL] at hlt
      refine ⟨k + 1, by omega, by omega, ?_⟩
      rw [hs2.out, ← hlt]
      exact ⟨[0], rfl, rfl, rfl, iV_eq (by omega), rfl, rfl, rfl, trivial⟩
    · rw [decide_eq_false (by omega), eL] at hlt
      refine ⟨k + 1, by omega, by omega, ?_⟩
      rw [hs2.out, ← hlt]
      exact ⟨[0], rfl, rfl, rfl, iV_eq (by omega), rfl, rfl, rfl, trivial⟩
  · have e : k = l.length := by omega
    subst e
    generalize MT l.length = R at *
    (repeat' (first
  | (apply W.qd; (first
    | (apply q_mv; (first
    | exact Eq.refl (AV.d _)
    | exact Eq.refl (AV.osl _ _ _ _)
    | exact Eq.refl (AV.opt _ _)
    | exact Eq.refl (AV.agg _)
    | exact Eq.refl (AV.fpt _ _ _ _)
    | exact Eq.refl (AV.rpt _ _ _ _)
    | exact Eq.refl (AV.fn _ _)
    | exact Eq.refl (AV.yl _)
    | exact Eq.refl (AV.tup _)
    | exact Eq.refl AV.top))
    | (apply q_as; (first
    | exact Eq.refl (AV.d _)
    | exact Eq.refl (AV.osl _ _ _ _)
    | exact Eq.refl (AV.opt _ _)
    | exact Eq.refl (AV.agg _)
    | exact Eq.refl (AV.fpt _ _ _ _)
    | exact Eq.refl (AV.rpt _ _ _ _)
    | exact Eq.refl (AV.fn _ _)
    | exact Eq.refl (AV.yl _)
    | exact Eq.refl (AV.tup _)
    | exact Eq.refl AV.top))
    | (apply q_lss; exact rfl; exact rfl)
    | (apply q_len_sl; exact rfl; exact rfl)))
  | (apply AWP.seq)
  | (apply ACont_normal)
  | (apply W.region; kernel_rfl)
  | (apply Walk.nil)
  | (apply AWP.exit)
  | (apply AWP.ret)
  | (apply ACont_exit)
  | (apply ABlock_exit)
  | (refine W.cond _ rfl (fun hb => ?_) (fun hb => ?_) <;> ((try simp only [hb, Bool.not_true, Bool.not_false]) <;> (try simp only [decide_eq_true_eq, decide_eq_false_iff_not, Bool.not_eq_true', Bool.not_eq_false', Int.not_lt, Int.not_le, List.length_map, not_true_eq_false] at hb) <;> (try (exfalso; omega))))))
    exact ⟨.inl rfl, [0], [tmsA R], rfl, rfl, ⟨rfl, trivial⟩, AVle.of_eq rfl, rfl⟩
end Go.Proofs.YtilpljehfcpjeaaDoor
end

section
/- Package repair over the machine of abstract values: checks, their terms. -/
namespace Go.Proofs.YtilpljehfcpjeaaDoor
open Go.RowKit
set_option linter.unusedVariables false
set_option linter.unusedSimpArgs false
set_option maxHeartbeats 4000000
set_option maxRecDepth 100000

/-- The checks that contain a unit, whatever its number. -/
def chkZ (D : Nat) (ps : List (List Nat)) (u : Int) (n : Nat) : List Nat := (List.range n).filter fun i => (checkN D i (ps.getD i [])).any fun x => decide (u = (x : Int))
theorem chkZ_succ (D : Nat) (ps : List (List Nat)) (u : Int) (n : Nat) : chkZ D ps u (n + 1) = if ((checkN D n (ps.getD n [])).any fun x => decide (u = (x : Int))) = true then chkZ D ps u n ++ [n] else chkZ D ps u n := by
  unfold chkZ
  rw [List.range_succ, List.filter_append]
  by_cases h : ((checkN D n (ps.getD n [])).any fun x => decide (u = (x : Int))) = true
  · rw [if_pos h]; simp only [List.filter_cons, h, if_true, List.filter_nil]
  · have h' := Bool.eq_false_iff.2 h
    rw [if_neg h]; simp only [List.filter_cons, h', Bool.false_eq_true, if_false, List.filter_nil, List.append_nil]
theorem chkZ_nat (D : Nat) (ps : List (List Nat)) (u n : Nat) : chkZ D ps u n = chkI D ps u n := by
  unfold chkZ chkI
  congr 1
  funext i
  rw [Bool.eq_iff_iff, List.any_eq_true]
  constructor
  · rintro ⟨x, hx, e⟩
    have : u = x := by
      have e2 : (u : Int) = x := of_decide_eq_true e
      omega
    rw [List.contains_iff_mem]
    exact this ▸ hx
  · intro h
    exact ⟨u, by simpa using h, by simp⟩
theorem chkZ_length (D : Nat) (ps : List (List Nat)) (u : Int) (n : Nat) : (chkZ D ps u n).length ≤ n := Nat.le_trans (List.length_filter_le _ _) (by simp)
attribute [local irreducible] Quiet Eff OpOk AWPG ACont ABlock ACalls AGoto

theorem A_indexI (l : List Int) (v : Int) (hl : l.length ≤ 1000000) : ACalls Tryd.prog 64 [ints l, iV v] [] (iV (idxA (fun x => decide (v = x)) l)) [] := by
  refine acalls_of_bodyO Tryd.func64 rfl (Nat.le_of_ble_eq_true rfl) ?_
  have hml : (l.map iD).length = l.length := List.length_map _
  (repeat' (first
  | (apply W.qd; (first
    | (apply q_mv; (first
    | exact Eq.refl (AV.d _)
    | exact Eq.refl (AV.osl _ _ _ _)
    | exact Eq.refl (AV.opt _ _)
    | exact Eq.refl (AV.agg _)
    | exact Eq.refl (AV.fpt _ _ _ _)
    | exact Eq.refl (AV.rpt _ _ _ _)
    | exact Eq.refl (AV.fn _ _)
    | exact Eq.refl (AV.yl _)
    | exact Eq.refl (AV.tup _)
    | exact Eq.refl AV.top))
    | (apply q_as; (first
    | exact Eq.refl (AV.d _)
    | exact Eq.refl (AV.osl _ _ _ _)
    | exact Eq.refl (AV.opt _ _)
    | exact Eq.refl (AV.agg _)
    | exact Eq.refl (AV.fpt _ _ _ _)
    | exact Eq.refl (AV.rpt _ _ _ _)
    | exact Eq.refl (AV.fn _ _)
    | exact Eq.refl (AV.yl _)
    | exact Eq.refl (AV.tup _)
    | exact Eq.refl AV.top))
    | (apply q_len_sl; exact rfl; exact rfl)))
  | (apply AWP.seq)
  | (apply ACont_normal)
  | (apply W.region; kernel_rfl)
  | (apply Walk.nil)
  | (apply AWP.block)))
  refine AWP.loopW (α := Nat) (fun k => k ≤ l.length ∧ ∀ x ∈ l.take k, decide (v = x) = false) (fun k => ⟨[(8, iV k), (7, iV l.length), (0, ints l), (1, iV v)], []⟩) (fun k => l.length - k) 0 ⟨by omega, by simp⟩ ⟨[], rfl, rfl, rfl, rfl, iV_eq (by simp), rfl, rfl, trivial⟩ fun k hk => ?_
  by_cases hkl : k < l.length
  · by_cases hv : v = l[k]
    · rw [idxA_hit hkl (decide_eq_true hv) hk.2]
      (repeat' (first
  | (apply W.qd; (first
    | (apply q_mv; (first
    | exact Eq.refl (AV.d _)
    | exact Eq.refl (AV.osl _ _ _ _)
    | exact Eq.refl (AV.opt _ _)
    | exact Eq.refl (AV.agg _)
    | exact Eq.refl (AV.fpt _ _ _ _)
    | exact Eq.refl (AV.rpt _ _ _ _)
    | exact Eq.refl (AV.fn _ _)
    | exact Eq.refl (AV.yl _)
    | exact Eq.refl (AV.tup _)
    | exact Eq.refl AV.top))
    | (apply q_as; (first
    | exact Eq.refl (AV.d _)
    | exact Eq.refl (AV.osl _ _ _ _)
    | exact Eq.refl (AV.opt _ _)
    | exact Eq.refl (AV.agg _)
    | exact Eq.refl (AV.fpt _ _ _ _)
    | exact Eq.refl (AV.rpt _ _ _ _)
    | exact Eq.refl (AV.fn _ _)
    | exact Eq.refl (AV.yl _)
    | exact Eq.refl (AV.tup _)
    | exact Eq.refl AV.top))
    | (apply q_lss; exact rfl; exact rfl)
    | (apply q_eql; exact rfl; exact rfl)
    | (apply q_ld_map; exact rfl; exact rfl; exact rfl; (first | omega | (focus (simp; done))))
    | (apply q_ix_slF; exact rfl; exact rfl; exact rfl; exact rfl; (first | (with_reducible exact rfl) | exact natI_spec rfl | assumption | exact (Int.toNat_of_nonneg (by omega)).symm); (first | omega | (focus (simp only [List.length_map]; omega)) | (focus (simp; done)) | (focus (simp; omega))))))
  | (apply AWP.seq)
  | (apply ACont_normal)
  | (apply W.region; kernel_rfl)
  | (apply Walk.nil)
  | (apply AWP.block)
  | (apply AWP.skip)
  | (apply AWP.ret)
  | (apply ACont_ret)
  | (apply ABlock_ret)
  | (refine W.cond _ rfl (fun hb => ?_) (fun hb => ?_) <;> ((try simp only [hb, Bool.not_true, Bool.not_false]) <;> (try simp only [decide_eq_true_eq, decide_eq_false_iff_not, Bool.not_eq_true', Bool.not_eq_false', Int.not_lt, Int.not_le, List.length_map, not_true_eq_false] at hb) <;> (try (exfalso; omega))))))
      exact ⟨.inl rfl, [], [iV k], rfl, rfl, ⟨rfl, trivial⟩, AVle.of_eq rfl, rfl⟩
    · (repeat' (first
  | (apply W.qd; (first
    | (apply q_mv; (first
    | exact Eq.refl (AV.d _)
    | exact Eq.refl (AV.osl _ _ _ _)
    | exact Eq.refl (AV.opt _ _)
    | exact Eq.refl (AV.agg _)
    | exact Eq.refl (AV.fpt _ _ _ _)
    | exact Eq.refl (AV.rpt _ _ _ _)
    | exact Eq.refl (AV.fn _ _)
    | exact Eq.refl (AV.yl _)
    | exact Eq.refl (AV.tup _)
    | exact Eq.refl AV.top))
    | (apply q_as; (first
    | exact Eq.refl (AV.d _)
    | exact Eq.refl (AV.osl _ _ _ _)
    | exact Eq.refl (AV.opt _ _)
    | exact Eq.refl (AV.agg _)
    | exact Eq.refl (AV.fpt _ _ _ _)
    | exact Eq.refl (AV.rpt _ _ _ _)
    | exact Eq.refl (AV.fn _ _)
    | exact Eq.refl (AV.yl _)
    | exact Eq.refl (AV.tup _)
    | exact Eq.refl AV.top))
    | (apply q_lss; exact rfl; exact rfl)
    | (apply q_eql; exact rfl; exact rfl)
    | (apply q_add; exact rfl; exact rfl; omega)
    | (apply q_ld_map; exact rfl; exact rfl; exact rfl; (first | omega | (focus (simp; done))))
    | (apply q_ix_slF; exact rfl; exact rfl; exact rfl; exact rfl; (first | (with_reducible exact rfl) | exact natI_spec rfl | assumption | exact (Int.toNat_of_nonneg (by omega)).symm); (first | omega | (focus (simp only [List.length_map]; omega)) | (focus (simp; done)) | (focus (simp; omega))))))
  | (apply AWP.seq)
  | (apply ACont_normal)
  | (apply W.region; kernel_rfl)
  | (apply Walk.nil)
  | (apply AWP.block)
  | (apply AWP.skip)
  | (apply ABlock_normal)
  | (refine W.cond _ rfl (fun hb => ?_) (fun hb => ?_) <;> ((try simp only [hb, Bool.not_true, Bool.not_false]) <;> (try simp only [decide_eq_true_eq, decide_eq_false_iff_not, Bool.not_eq_true', Bool.not_eq_false', Int.not_lt, Int.not_le, List.length_map, not_true_eq_false] at hb) <;> (try (exfalso; omega))))))
      refine ⟨k + 1, ⟨by omega, fun x hx => ?_⟩, by omega, [], rfl, rfl, rfl, iV_eq (by omega), rfl, rfl, rfl, trivial⟩
      rw [List.take_succ_eq_append_getElem hkl] at hx
      rcases List.mem_append.1 hx with hx | hx
      · exact hk.2 x hx
      · rw [List.mem_singleton.1 hx]; exact decide_eq_false hv
  · rw [idxA_miss fun x hx => hk.2 x (by rwa [List.take_of_length_le (by omega)])]
    (repeat' (first
  | (apply W.qd; (first
    | (apply q_as; (first
    | exact Eq.refl (AV.d _)
    | exact Eq.refl (AV.osl _ _ _ _)
    | exact Eq.refl (AV.opt _ _)
    | exact Eq.refl (AV.agg _)
    | exact Eq.refl (AV.fpt _ _ _ _)
    | exact Eq.refl (AV.rpt _ _ _ _)
    | exact Eq.refl (AV.fn _ _)
    | exact Eq.refl (AV.yl _)
    | exact Eq.refl (AV.tup _)
    | exact Eq.refl AV.top))
    | (apply q_lss; exact rfl; exact rfl)))
  | (apply AWP.seq)
  | (apply ACont_normal)
  | (apply W.region; kernel_rfl)
  | (apply Walk.nil)
  | (apply AWP.exit)
  | (apply AWP.ret)
  | (apply ACont_exit)
  | (apply ABlock_exit)
  | (refine W.cond _ rfl (fun hb => ?_) (fun hb => ?_) <;> ((try simp only [hb, Bool.not_true, Bool.not_false]) <;> (try simp only [decide_eq_true_eq, decide_eq_false_iff_not, Bool.not_eq_true', Bool.not_eq_false', Int.not_lt, Int.not_le, List.length_map, not_true_eq_false] at hb) <;> (try (exfalso; omega))))))
    exact ⟨.inl rfl, [], [iV (-1)], rfl, rfl, ⟨rfl, trivial⟩, AVle.of_eq rfl, rfl⟩
theorem A_containsI (l : List Int) (v : Int) (hl : l.length ≤ 1000000) : ACalls Tryd.prog 42 [ints l, iV v] [] (bV (l.any fun x => decide (v = x))) [] := by
  refine acalls_of_bodyO Tryd.func42 rfl (Nat.le_of_ble_eq_true rfl) ?_
  have h := A_indexI l v hl
  have e := idxA_any (fun x => decide (v = x)) l
  generalize idxA (fun x => decide (v = x)) l = r at *
  (repeat' (first
  | (apply W.qd; (first
    | (apply (q_callC (h)); exact rfl; exact rfl; kernel_rfl; kernel_rfl; kernel_rfl)
    | (apply q_mv; (first
    | exact Eq.refl (AV.d _)
    | exact Eq.refl (AV.osl _ _ _ _)
    | exact Eq.refl (AV.opt _ _)
    | exact Eq.refl (AV.agg _)
    | exact Eq.refl (AV.fpt _ _ _ _)
    | exact Eq.refl (AV.rpt _ _ _ _)
    | exact Eq.refl (AV.fn _ _)
    | exact Eq.refl (AV.yl _)
    | exact Eq.refl (AV.tup _)
    | exact Eq.refl AV.top))
    | (apply q_as; (first
    | exact Eq.refl (AV.d _)
    | exact Eq.refl (AV.osl _ _ _ _)
    | exact Eq.refl (AV.opt _ _)
    | exact Eq.refl (AV.agg _)
    | exact Eq.refl (AV.fpt _ _ _ _)
    | exact Eq.refl (AV.rpt _ _ _ _)
    | exact Eq.refl (AV.fn _ _)
    | exact Eq.refl (AV.yl _)
    | exact Eq.refl (AV.tup _)
    | exact Eq.refl AV.top))
    | (apply q_geq; exact rfl; exact rfl)))
  | (apply AWP.seq)
  | (apply ACont_normal)
  | (apply W.region; kernel_rfl)
  | (apply Walk.nil)
  | (apply AWP.ret)))
  exact ⟨.inl rfl, [], [bV (decide (0 ≤ r))], rfl, rfl, ⟨rfl, trivial⟩, AVle.of_eq (congrArg bV e), rfl⟩
theorem A_check {M D i : Nat} {ps : List (List Nat)} (h : CodeOk M D ps) (hi : i < ps.length) : ACalls Tryd.prog 41 [cdN M D ps, iV i] [] (nats (checkN D i (ps.getD i []))) [] := by
  refine acalls_of_body Tryd.func41 rfl (Nat.le_of_ble_eq_true rfl) ?_
  have h1 := h.d
  have h2 := h.w
  have hr := (h.row _ (List.getElem_mem hi)).1
  have e : ps.getD i [] = ps[i] := by rw [List.getD_eq_getElem?_getD, List.getElem?_eq_getElem hi]; rfl
  rw [e]
  have hmr : (ps[i].map kD).length = D := by rw [List.length_map]; exact hr
  (repeat' (first
  | (apply W.qd; (first
    | (apply q_mv; (first
    | exact Eq.refl (AV.d _)
    | exact Eq.refl (AV.osl _ _ _ _)
    | exact Eq.refl (AV.opt _ _)
    | exact Eq.refl (AV.agg _)
    | exact Eq.refl (AV.fpt _ _ _ _)
    | exact Eq.refl (AV.rpt _ _ _ _)
    | exact Eq.refl (AV.fn _ _)
    | exact Eq.refl (AV.yl _)
    | exact Eq.refl (AV.tup _)
    | exact Eq.refl AV.top))
    | (apply q_as; (first
    | exact Eq.refl (AV.d _)
    | exact Eq.refl (AV.osl _ _ _ _)
    | exact Eq.refl (AV.opt _ _)
    | exact Eq.refl (AV.agg _)
    | exact Eq.refl (AV.fpt _ _ _ _)
    | exact Eq.refl (AV.rpt _ _ _ _)
    | exact Eq.refl (AV.fn _ _)
    | exact Eq.refl (AV.yl _)
    | exact Eq.refl (AV.tup _)
    | exact Eq.refl AV.top))
    | (apply q_fld_optF; exact rfl; exact rfl; exact rfl)
    | (apply q_ld_box; exact rfl; exact rfl; exact rfl; exact rfl)
    | (apply q_len_sl; exact rfl; exact rfl)
    | (apply q_ld_map; exact rfl; exact rfl; exact rfl; (first | omega | (focus (simp; done))))
    | (apply q_ix_slF; exact rfl; exact rfl; exact rfl; exact rfl; (first | (with_reducible exact rfl) | exact natI_spec rfl | assumption | exact (Int.toNat_of_nonneg (by omega)).symm); (first | omega | (focus (simp only [List.length_map]; omega)) | (focus (simp; done)) | (focus (simp; omega))))))
  | (apply W.ed; (apply e_boxF; exact rfl; exact rfl; exact rfl; kernel_rfl; kernel_rfl))
  | (apply AWP.seq)
  | (apply ACont_normal)
  | (apply W.region; kernel_rfl)
  | (apply Walk.nil)
  | (apply AWP.block)))
  rw [hmr]
  refine AWP.nilRow 5 1 3 rfl (by omega) ?_
  refine AWP.loopW (α := Nat) (fun k => k ≤ D) (fun k => ⟨[(14, iV k), (13, iV D), (12, nats ps[i]), (5, .osl 1 (dataC D ps[i] k).length 0 (dataC D ps[i] k).length), (2, .opt 0 0), (1, iV i)], [.box [.d .any, iV M, iV D, rowsN ps, .d .any], .row (dataC D ps[i] k).length 1 3 ((dataC D ps[i] k).map kD)]⟩) (fun k => D - k) 0 (by omega) ?wk0 fun k hk => ?_
  case wk0 =>
    rw [show dataC D ps[i] 0 = [] from rfl]
    exact ⟨[0, 1], rfl, rfl, rfl, by (repeat (first | exact trivial | refine ⟨rfl, ?_⟩))⟩
  have hlc := dataC_length D ps[i] k
  by_cases hkD : k < D
  · have hs := Lib.hid (dataC_succ D ps[i] k)
    have e2 : ps[i].getD k 0 = ps[i][k]'(by omega) := by rw [List.getD_eq_getElem?_getD, List.getElem?_eq_getElem (show k < ps[i].length by omega)]; rfl
    rw [e2] at hs
    generalize dataC D ps[i] k = A at *
    (repeat' (first
  | (apply W.qd; (first
    | (apply q_mv; (first
    | exact Eq.refl (AV.d _)
    | exact Eq.refl (AV.osl _ _ _ _)
    | exact Eq.refl (AV.opt _ _)
    | exact Eq.refl (AV.agg _)
    | exact Eq.refl (AV.fpt _ _ _ _)
    | exact Eq.refl (AV.rpt _ _ _ _)
    | exact Eq.refl (AV.fn _ _)
    | exact Eq.refl (AV.yl _)
    | exact Eq.refl (AV.tup _)
    | exact Eq.refl AV.top))
    | (apply q_as; (first
    | exact Eq.refl (AV.d _)
    | exact Eq.refl (AV.osl _ _ _ _)
    | exact Eq.refl (AV.opt _ _)
    | exact Eq.refl (AV.agg _)
    | exact Eq.refl (AV.fpt _ _ _ _)
    | exact Eq.refl (AV.rpt _ _ _ _)
    | exact Eq.refl (AV.fn _ _)
    | exact Eq.refl (AV.yl _)
    | exact Eq.refl (AV.tup _)
    | exact Eq.refl AV.top))
    | (apply q_lss; exact rfl; exact rfl)
    | (apply q_neq; exact rfl; exact rfl)
    | (apply q_add; exact rfl; exact rfl; omega)
    | (apply q_ld_map; exact rfl; exact rfl; exact rfl; (first | omega | (focus (simp; done))))
    | (apply q_litF; exact rfl; exact rfl; exact rfl; exact rfl; exact rfl; kernel_rfl; kernel_rfl; exact rfl)
    | (apply q_ix_slF; exact rfl; exact rfl; exact rfl; exact rfl; (first | (with_reducible exact rfl) | exact natI_spec rfl | assumption | exact (Int.toNat_of_nonneg (by omega)).symm); (first | omega | (focus (simp only [List.length_map]; omega)) | (focus (simp; done)) | (focus (simp; omega))))))
  | (apply W.ld; (apply l_app1; exact rfl; exact rfl; exact rfl; exact rfl; exact rfl; exact rfl; exact rfl; exact rfl; (first | omega | (focus (simp; omega)) | (focus (simp; done)))))
  | (apply AWP.seq)
  | (apply ACont_normal)
  | (apply W.region; kernel_rfl)
  | (apply Walk.nil)
  | (apply AWP.block)
  | (apply AWP.skip)
  | (apply ABlock_normal)
  | (refine W.cond _ rfl (fun hb => ?_) (fun hb => ?_) <;> ((try simp only [hb, Bool.not_true, Bool.not_false]) <;> (try simp only [decide_eq_true_eq, decide_eq_false_iff_not, Bool.not_eq_true', Bool.not_eq_false', Int.not_lt, Int.not_le, List.length_map, not_true_eq_false] at hb) <;> (try (exfalso; omega))))))
    · rw [if_neg (by omega)] at hs
      refine ⟨k + 1, by omega, by omega, ?_⟩
      rw [hs.out, show (A ++ [k]).length = A.length + 1 by simp]
      exact ⟨[0, 1], rfl, rfl, rfl, iV_eq (by omega), rfl, rfl, congrArg (AV.osl 1 (A.length + 1) 0) (by simp), rfl, rfl, trivial⟩
    · rw [if_pos (by omega)] at hs
      refine ⟨k + 1, by omega, by omega, ?_⟩
      rw [hs.out]
      exact ⟨[0, 1], rfl, rfl, rfl, iV_eq (by omega), rfl, rfl, rfl, rfl, rfl, trivial⟩
  · have e3 : k = D := by omega
    subst e3
    unfold checkN
    generalize dataC k ps[i] k = A at *
    (repeat' (first
  | (apply W.qd; (first
    | (apply q_mv; (first
    | exact Eq.refl (AV.d _)
    | exact Eq.refl (AV.osl _ _ _ _)
    | exact Eq.refl (AV.opt _ _)
    | exact Eq.refl (AV.agg _)
    | exact Eq.refl (AV.fpt _ _ _ _)
    | exact Eq.refl (AV.rpt _ _ _ _)
    | exact Eq.refl (AV.fn _ _)
    | exact Eq.refl (AV.yl _)
    | exact Eq.refl (AV.tup _)
    | exact Eq.refl AV.top))
    | (apply q_as; (first
    | exact Eq.refl (AV.d _)
    | exact Eq.refl (AV.osl _ _ _ _)
    | exact Eq.refl (AV.opt _ _)
    | exact Eq.refl (AV.agg _)
    | exact Eq.refl (AV.fpt _ _ _ _)
    | exact Eq.refl (AV.rpt _ _ _ _)
    | exact Eq.refl (AV.fn _ _)
    | exact Eq.refl (AV.yl _)
    | exact Eq.refl (AV.tup _)
    | exact Eq.refl AV.top))
    | (apply q_fld_optF; exact rfl; exact rfl; exact rfl)
    | (apply q_ld_box; exact rfl; exact rfl; exact rfl; exact rfl)
    | (apply q_lss; exact rfl; exact rfl)
    | (apply q_add; exact rfl; exact rfl; omega)
    | (apply q_litF; exact rfl; exact rfl; exact rfl; exact rfl; exact rfl; kernel_rfl; kernel_rfl; exact rfl)))
  | (apply W.ld; (apply l_app1; exact rfl; exact rfl; exact rfl; exact rfl; exact rfl; exact rfl; exact rfl; exact rfl; (first | omega | (focus (simp; omega)) | (focus (simp; done)))))
  | (apply AWP.seq)
  | (apply ACont_normal)
  | (apply W.region; kernel_rfl)
  | (apply Walk.nil)
  | (apply AWP.exit)
  | (apply AWP.ret)
  | (apply ACont_exit)
  | (apply ABlock_exit)
  | (refine W.cond _ rfl (fun hb => ?_) (fun hb => ?_) <;> ((try simp only [hb, Bool.not_true, Bool.not_false]) <;> (try simp only [decide_eq_true_eq, decide_eq_false_iff_not, Bool.not_eq_true', Bool.not_eq_false', Int.not_lt, Int.not_le, List.length_map, not_true_eq_false] at hb) <;> (try (exfalso; omega))))))
    exact Ends.osl rfl rfl (by simp) rfl
theorem A_checks {M D : Nat} {u : Int} {ps : List (List Nat)} (h : CodeOk M D ps) : ACalls Tryd.prog 19 [cdN M D ps, iV u] [] (rowsN ((chkZ D ps u ps.length).map fun i => checkN D i (ps.getD i []))) [] := by
  refine acalls_of_body Tryd.func19 rfl (Nat.le_of_ble_eq_true rfl) ?_
  have h1 := h.d
  have h2 := h.w
  have h0 := A_evalidN h
  have hck := fun i (hi : i < ps.length) => A_check h hi
  have hmp : (ps.map rnD).length = ps.length := List.length_map _
  have hs := fun k => Lib.hid (chkZ_succ D ps u k)
  have hl := fun k => chkZ_length D ps u k
  have hz : chkZ D ps u 0 = [] := rfl
  have hcl := fun k => checkN_length D k (ps.getD k [])
  generalize chkZ D ps u = CZ at *
  generalize hC : (fun i => checkN D i (ps.getD i [])) = C
  have hC' : ∀ i, checkN D i (ps.getD i []) = C i := fun i => congrFun hC i
  simp only [hC'] at hck hs hcl
  (repeat' (first
  | (apply W.qd; (first
    | (apply (q_callC (h0)); exact rfl; exact rfl; kernel_rfl; kernel_rfl; kernel_rfl)
    | (apply q_mv; (first
    | exact Eq.refl (AV.d _)
    | exact Eq.refl (AV.osl _ _ _ _)
    | exact Eq.refl (AV.opt _ _)
    | exact Eq.refl (AV.agg _)
    | exact Eq.refl (AV.fpt _ _ _ _)
    | exact Eq.refl (AV.rpt _ _ _ _)
    | exact Eq.refl (AV.fn _ _)
    | exact Eq.refl (AV.yl _)
    | exact Eq.refl (AV.tup _)
    | exact Eq.refl AV.top))
    | (apply q_as; (first
    | exact Eq.refl (AV.d _)
    | exact Eq.refl (AV.osl _ _ _ _)
    | exact Eq.refl (AV.opt _ _)
    | exact Eq.refl (AV.agg _)
    | exact Eq.refl (AV.fpt _ _ _ _)
    | exact Eq.refl (AV.rpt _ _ _ _)
    | exact Eq.refl (AV.fn _ _)
    | exact Eq.refl (AV.yl _)
    | exact Eq.refl (AV.tup _)
    | exact Eq.refl AV.top))
    | (apply q_fld_optF; exact rfl; exact rfl; exact rfl)
    | (apply q_ld_box; exact rfl; exact rfl; exact rfl; exact rfl)
    | (apply q_ld_boxF; exact rfl; exact rfl; exact rfl; exact rfl)
    | (apply q_not; exact rfl)
    | (apply q_len_sl; exact rfl; exact rfl)))
  | (apply W.ed; (apply e_boxF; exact rfl; exact rfl; exact rfl; kernel_rfl; kernel_rfl))
  | (apply AWP.seq)
  | (apply ACont_normal)
  | (apply W.region; kernel_rfl)
  | (apply Walk.nil)
  | (apply AWP.block)
  | (apply AWP.skip)
  | (apply W.condF; exact rfl)))
  refine AWP.nilRow 5 1 36 rfl (by omega) ?_
  refine AWP.loopW (α := Nat) (fun k => k ≤ ps.length) (fun k => ⟨[(14, iV k), (13, iV ps.length), (5, .osl 1 (CZ k).length 0 (CZ k).length), (2, .opt 0 0), (1, iV u)], [.box [.d .any, iV M, iV D, rowsN ps, .d .any], .row (CZ k).length 1 36 (((CZ k).map C).map rnD)]⟩) (fun k => ps.length - k) 0 (by omega) ?wk0 fun k hk => ?_
  case wk0 =>
    rw [hz]
    exact ⟨[0, 1], rfl, rfl, rfl, rfl, iV_eq (by simp), rfl, rfl, rfl, trivial⟩
  have hlc := hl k
  by_cases hkl : k < ps.length
  · have hc := hck k hkl
    have hci := A_containsI ((C k).map fun n : Nat => (n : Int)) u (by rw [List.length_map]; have := hcl k; omega)
    rw [← nats_ints] at hci
    have hs2 := hs k
    have e : ((C k).map fun n : Nat => (n : Int)).any (fun x => decide (u = x)) = (C k).any fun x => decide (u = (x : Int)) := by rw [List.any_map]; rfl
    rw [e] at hci
    clear hs hck hl
    cases hb2 : (C k).any fun x => decide (u = (x : Int)) <;> rw [hb2] at hci hs2
    · replace hs2 := Lib.hid (hs2.out.trans (if_neg (by decide)))
      (repeat' (first
  | (apply W.qd; (first
    | (apply (q_callC (hc)); exact rfl; exact rfl; kernel_rfl; kernel_rfl; kernel_rfl)
    | (apply (q_callC (hci)); exact rfl; exact rfl; kernel_rfl; kernel_rfl; kernel_rfl)
    | (apply q_mv; (first
    | exact Eq.refl (AV.d _)
    | exact Eq.refl (AV.osl _ _ _ _)
    | exact Eq.refl (AV.opt _ _)
    | exact Eq.refl (AV.agg _)
    | exact Eq.refl (AV.fpt _ _ _ _)
    | exact Eq.refl (AV.rpt _ _ _ _)
    | exact Eq.refl (AV.fn _ _)
    | exact Eq.refl (AV.yl _)
    | exact Eq.refl (AV.tup _)
    | exact Eq.refl AV.top))
    | (apply q_as; (first
    | exact Eq.refl (AV.d _)
    | exact Eq.refl (AV.osl _ _ _ _)
    | exact Eq.refl (AV.opt _ _)
    | exact Eq.refl (AV.agg _)
    | exact Eq.refl (AV.fpt _ _ _ _)
    | exact Eq.refl (AV.rpt _ _ _ _)
    | exact Eq.refl (AV.fn _ _)
    | exact Eq.refl (AV.yl _)
    | exact Eq.refl (AV.tup _)
    | exact Eq.refl AV.top))
    | (apply q_ld_boxF; exact rfl; exact rfl; exact rfl; exact rfl)
    | (apply q_lss; exact rfl; exact rfl)
    | (apply q_add; exact rfl; exact rfl; omega)))
  | (apply AWP.seq)
  | (apply ACont_normal)
  | (apply W.region; kernel_rfl)
  | (apply Walk.nil)
  | (apply AWP.block)
  | (apply AWP.skip)
  | (apply ABlock_normal)
  | (apply W.condF; exact rfl)
  | (refine W.cond _ rfl (fun hb => ?_) (fun hb => ?_) <;> ((try simp only [hb, Bool.not_true, Bool.not_false]) <;> (try simp only [decide_eq_true_eq, decide_eq_false_iff_not, Bool.not_eq_true', Bool.not_eq_false', Int.not_lt, Int.not_le, List.length_map, not_true_eq_false] at hb) <;> (try (exfalso; omega))))))
      refine ⟨k + 1, by omega, by omega, ?_⟩
      rw [hs2.out]
      exact ⟨[0, 1], rfl, rfl, rfl, iV_eq (by omega), rfl, rfl, rfl, rfl, trivial⟩
    · replace hs2 := Lib.hid (hs2.out.trans (if_pos rfl))
      have hln : (CZ k).length = ((CZ k).map C).length := by simp
      rw [hln]
      have hln2 : ((CZ k).map C).length ≤ 1000 := by rw [← hln]; omega
      have hs3 : (CZ (k + 1)).map C = (CZ k).map C ++ [C k] := by rw [hs2.out, List.map_append]; rfl
      have hs4 : (CZ (k + 1)).length = ((CZ k).map C).length + 1 := by rw [hs2.out]; simp
      replace hs3 := Lib.hid hs3
      replace hs4 := Lib.hid hs4
      generalize (CZ k).map C = A at *
      (repeat' (first
  | (apply W.qd; (first
    | (apply (q_callC (hc)); exact rfl; exact rfl; kernel_rfl; kernel_rfl; kernel_rfl)
    | (apply (q_callC (hci)); exact rfl; exact rfl; kernel_rfl; kernel_rfl; kernel_rfl)
    | (apply q_mv; (first
    | exact Eq.refl (AV.d _)
    | exact Eq.refl (AV.osl _ _ _ _)
    | exact Eq.refl (AV.opt _ _)
    | exact Eq.refl (AV.agg _)
    | exact Eq.refl (AV.fpt _ _ _ _)
    | exact Eq.refl (AV.rpt _ _ _ _)
    | exact Eq.refl (AV.fn _ _)
    | exact Eq.refl (AV.yl _)
    | exact Eq.refl (AV.tup _)
    | exact Eq.refl AV.top))
    | (apply q_as; (first
    | exact Eq.refl (AV.d _)
    | exact Eq.refl (AV.osl _ _ _ _)
    | exact Eq.refl (AV.opt _ _)
    | exact Eq.refl (AV.agg _)
    | exact Eq.refl (AV.fpt _ _ _ _)
    | exact Eq.refl (AV.rpt _ _ _ _)
    | exact Eq.refl (AV.fn _ _)
    | exact Eq.refl (AV.yl _)
    | exact Eq.refl (AV.tup _)
    | exact Eq.refl AV.top))
    | (apply q_ld_boxF; exact rfl; exact rfl; exact rfl; exact rfl)
    | (apply q_lss; exact rfl; exact rfl)
    | (apply q_add; exact rfl; exact rfl; omega)
    | (apply q_litF; exact rfl; exact rfl; exact rfl; exact rfl; exact rfl; kernel_rfl; kernel_rfl; exact rfl)))
  | (apply W.ld; (apply l_app1; exact rfl; exact rfl; exact rfl; exact rfl; exact rfl; exact rfl; exact rfl; exact rfl; (first | omega | (focus (simp; omega)) | (focus (simp; done)))))
  | (apply AWP.seq)
  | (apply ACont_normal)
  | (apply W.region; kernel_rfl)
  | (apply Walk.nil)
  | (apply AWP.block)
  | (apply AWP.skip)
  | (apply ABlock_normal)
  | (apply W.condT; exact rfl)
  | (refine W.cond _ rfl (fun hb => ?_) (fun hb => ?_) <;> ((try simp only [hb, Bool.not_true, Bool.not_false]) <;> (try simp only [decide_eq_true_eq, decide_eq_false_iff_not, Bool.not_eq_true', Bool.not_eq_false', Int.not_lt, Int.not_le, List.length_map, not_true_eq_false] at hb) <;> (try (exfalso; omega))))))
      refine ⟨k + 1, by omega, by omega, ?_⟩
      rw [hs3.out, hs4.out]
      exact ⟨[0, 1], rfl, rfl, rfl, iV_eq (by omega), rfl, congrArg (AV.osl 1 (A.length + 1) 0) (by simp), rfl, rfl, trivial⟩
  · have e : k = ps.length := by omega
    subst e
    have hln : (CZ ps.length).length = ((CZ ps.length).map C).length := by simp
    rw [hln]
    generalize (CZ ps.length).map C = A at *
    (repeat' (first
  | (apply W.qd; (first
    | (apply q_mv; (first
    | exact Eq.refl (AV.d _)
    | exact Eq.refl (AV.osl _ _ _ _)
    | exact Eq.refl (AV.opt _ _)
    | exact Eq.refl (AV.agg _)
    | exact Eq.refl (AV.fpt _ _ _ _)
    | exact Eq.refl (AV.rpt _ _ _ _)
    | exact Eq.refl (AV.fn _ _)
    | exact Eq.refl (AV.yl _)
    | exact Eq.refl (AV.tup _)
    | exact Eq.refl AV.top))
    | (apply q_as; (first
    | exact Eq.refl (AV.d _)
    | exact Eq.refl (AV.osl _ _ _ _)
    | exact Eq.refl (AV.opt _ _)
    | exact Eq.refl (AV.agg _)
    | exact Eq.refl (AV.fpt _ _ _ _)
    | exact Eq.refl (AV.rpt _ _ _ _)
    | exact Eq.refl (AV.fn _ _)
    | exact Eq.refl (AV.yl _)
    | exact Eq.refl (AV.tup _)
    | exact Eq.refl AV.top))
    | (apply q_lss; exact rfl; exact rfl)))
  | (apply AWP.seq)
  | (apply ACont_normal)
  | (apply W.region; kernel_rfl)
  | (apply Walk.nil)
  | (apply AWP.exit)
  | (apply AWP.ret)
  | (apply ACont_exit)
  | (apply ABlock_exit)
  | (refine W.cond _ rfl (fun hb => ?_) (fun hb => ?_) <;> ((try simp only [hb, Bool.not_true, Bool.not_false]) <;> (try simp only [decide_eq_true_eq, decide_eq_false_iff_not, Bool.not_eq_true', Bool.not_eq_false', Int.not_lt, Int.not_le, List.length_map, not_true_eq_false] at hb) <;> (try (exfalso; omega))))))
    exact Ends.osl rfl rfl (by simp) rfl
theorem A_div {M : Nat} {a b : Nat} (hM : FldM M) (ha : a < 2 ^ M) (hb : b < 2 ^ M) (h0 : b ≠ 0) : ACalls Tryd.prog 62 [iV M, iV a, iV b] [] (.tup [iV (mu M a (invN M b) : Nat), iV 0]) [] := by
  refine acalls_of_body Tryd.func62 rfl (Nat.le_of_ble_eq_true rfl) ?_
  have ha' := hM.cap ha
  have hb' := hM.cap hb
  have hc := A_all M [a, b] (by simp) (by simp; omega)
  have hall : allF M [(a : Int), (b : Int)] = true := by
    unfold allF
    rw [decide_eq_true (by unfold FldM at hM; omega)]
    simp [inF_lt hM ha, inF_lt hM hb]
  rw [hall] at hc
  have hi := A_inverse hM hb h0
  have hp := A_product hM ha (b := invN M b) (invN_lt _)
  (repeat' (first
  | (apply W.qd; (first
    | (apply (q_callC (hc)); exact rfl; exact rfl; kernel_rfl; kernel_rfl; kernel_rfl)
    | (apply (q_callC (hi)); exact rfl; exact rfl; kernel_rfl; kernel_rfl; kernel_rfl)
    | (apply (q_callC (hp)); exact rfl; exact rfl; kernel_rfl; kernel_rfl; kernel_rfl)
    | (apply q_mv; (first
    | exact Eq.refl (AV.d _)
    | exact Eq.refl (AV.osl _ _ _ _)
    | exact Eq.refl (AV.opt _ _)
    | exact Eq.refl (AV.agg _)
    | exact Eq.refl (AV.fpt _ _ _ _)
    | exact Eq.refl (AV.rpt _ _ _ _)
    | exact Eq.refl (AV.fn _ _)
    | exact Eq.refl (AV.yl _)
    | exact Eq.refl (AV.tup _)
    | exact Eq.refl AV.top))
    | (apply q_as; (first
    | exact Eq.refl (AV.d _)
    | exact Eq.refl (AV.osl _ _ _ _)
    | exact Eq.refl (AV.opt _ _)
    | exact Eq.refl (AV.agg _)
    | exact Eq.refl (AV.fpt _ _ _ _)
    | exact Eq.refl (AV.rpt _ _ _ _)
    | exact Eq.refl (AV.fn _ _)
    | exact Eq.refl (AV.yl _)
    | exact Eq.refl (AV.tup _)
    | exact Eq.refl AV.top))
    | (apply q_eql; exact rfl; exact rfl)
    | (apply q_not; exact rfl)
    | (apply q_litF; exact rfl; exact rfl; exact rfl; exact rfl; exact rfl; kernel_rfl; kernel_rfl; exact rfl)))
  | (apply AWP.seq)
  | (apply ACont_normal)
  | (apply W.region; kernel_rfl)
  | (apply Walk.nil)
  | (apply AWP.block)
  | (apply AWP.skip)
  | (apply AWP.ret)
  | (apply ABlock_normal)
  | (apply W.condF; exact rfl)
  | (refine W.cond _ rfl (fun hb => ?_) (fun hb => ?_) <;> ((try simp only [hb, Bool.not_true, Bool.not_false]) <;> (try simp only [decide_eq_true_eq, decide_eq_false_iff_not, Bool.not_eq_true', Bool.not_eq_false', Int.not_lt, Int.not_le, List.length_map, not_true_eq_false] at hb) <;> (try (exfalso; omega))))))
  exact Ends.two rfl rfl rfl
theorem A_coef {M D k : Nat} {ps : List (List Nat)} {row : List Nat} (hk : k < 1000) (hr : row.length = D) (hD : D ≤ 32) : ACalls Tryd.prog 61 [iV k, .opt 1 0, .opt 0 0] [.box [.d .any, iV M, iV D, rowsN ps, .d .any], .box [.osl 2 2 0 (D + 1)], .row 2 1 3 ((row ++ [1]).map kD)] (iV (coefN row D k)) [.box [.d .any, iV M, iV D, rowsN ps, .d .any], .box [.osl 2 2 0 (D + 1)], .row 2 1 3 ((row ++ [1]).map kD)] := by
  refine acalls_of_bodyO Tryd.func61 rfl (Nat.le_of_ble_eq_true rfl) ?_
  have hl : (row ++ [1]).length = D + 1 := by simp [hr]
  unfold coefN
  by_cases hkD : k < D
  · rw [if_pos hkD]
    have hmin : (if (D : Int) < (k : Int) then (D : Int) else (k : Int)) = ((k : Nat) : Int) := if_neg (by omega)
    (repeat' (first
  | (apply W.qd; (first
    | (apply q_mv; (first
    | exact Eq.refl (AV.d _)
    | exact Eq.refl (AV.osl _ _ _ _)
    | exact Eq.refl (AV.opt _ _)
    | exact Eq.refl (AV.agg _)
    | exact Eq.refl (AV.fpt _ _ _ _)
    | exact Eq.refl (AV.rpt _ _ _ _)
    | exact Eq.refl (AV.fn _ _)
    | exact Eq.refl (AV.yl _)
    | exact Eq.refl (AV.tup _)
    | exact Eq.refl AV.top))
    | (apply q_as; (first
    | exact Eq.refl (AV.d _)
    | exact Eq.refl (AV.osl _ _ _ _)
    | exact Eq.refl (AV.opt _ _)
    | exact Eq.refl (AV.agg _)
    | exact Eq.refl (AV.fpt _ _ _ _)
    | exact Eq.refl (AV.rpt _ _ _ _)
    | exact Eq.refl (AV.fn _ _)
    | exact Eq.refl (AV.yl _)
    | exact Eq.refl (AV.tup _)
    | exact Eq.refl AV.top))
    | (apply q_fld_optF; exact rfl; exact rfl; exact rfl)
    | (apply q_ld_box; exact rfl; exact rfl; exact rfl; exact rfl)
    | (apply q_min; exact rfl; exact rfl)
    | (apply q_ix_osl0; exact rfl; exact rfl; exact rfl; exact rfl; (first | (with_reducible exact rfl) | exact natI_spec rfl | assumption | exact (Int.toNat_of_nonneg (by omega)).symm); (first | omega | (focus (simp only [List.length_map]; omega)) | (focus (simp; done)) | (focus (simp; omega))))
    | (apply q_ld_rptm; exact rfl; exact rfl; exact rfl; exact rfl; (first | omega | (focus (simp only [List.length_map]; omega)) | (focus (simp; done)) | (focus (simp; omega))))))
  | (apply AWP.seq)
  | (apply ACont_normal)
  | (apply W.region; kernel_rfl)
  | (apply Walk.nil)
  | (apply AWP.ret)))
    refine ⟨.inl rfl, [0, 1, 2], [_], rfl, rfl, ⟨rfl, trivial⟩, AVle.of_eq (iV_eq ?_), rfl⟩
    rw [List.getElem_append_left (by omega), List.getD_eq_getElem?_getD, List.getElem?_eq_getElem (show k < row.length by omega)]
    rfl
  · rw [if_neg hkD]
    have hmin : (if (D : Int) < (k : Int) then (D : Int) else (k : Int)) = ((D : Nat) : Int) := by split <;> omega
    (repeat' (first
  | (apply W.qd; (first
    | (apply q_mv; (first
    | exact Eq.refl (AV.d _)
    | exact Eq.refl (AV.osl _ _ _ _)
    | exact Eq.refl (AV.opt _ _)
    | exact Eq.refl (AV.agg _)
    | exact Eq.refl (AV.fpt _ _ _ _)
    | exact Eq.refl (AV.rpt _ _ _ _)
    | exact Eq.refl (AV.fn _ _)
    | exact Eq.refl (AV.yl _)
    | exact Eq.refl (AV.tup _)
    | exact Eq.refl AV.top))
    | (apply q_as; (first
    | exact Eq.refl (AV.d _)
    | exact Eq.refl (AV.osl _ _ _ _)
    | exact Eq.refl (AV.opt _ _)
    | exact Eq.refl (AV.agg _)
    | exact Eq.refl (AV.fpt _ _ _ _)
    | exact Eq.refl (AV.rpt _ _ _ _)
    | exact Eq.refl (AV.fn _ _)
    | exact Eq.refl (AV.yl _)
    | exact Eq.refl (AV.tup _)
    | exact Eq.refl AV.top))
    | (apply q_fld_optF; exact rfl; exact rfl; exact rfl)
    | (apply q_ld_box; exact rfl; exact rfl; exact rfl; exact rfl)
    | (apply q_min; exact rfl; exact rfl)
    | (apply q_ix_osl0; exact rfl; exact rfl; exact rfl; exact rfl; (first | (with_reducible exact rfl) | exact natI_spec rfl | assumption | exact (Int.toNat_of_nonneg (by omega)).symm); (first | omega | (focus (simp only [List.length_map]; omega)) | (focus (simp; done)) | (focus (simp; omega))))
    | (apply q_ld_rptm; exact rfl; exact rfl; exact rfl; exact rfl; (first | omega | (focus (simp only [List.length_map]; omega)) | (focus (simp; done)) | (focus (simp; omega))))))
  | (apply AWP.seq)
  | (apply ACont_normal)
  | (apply W.region; kernel_rfl)
  | (apply Walk.nil)
  | (apply AWP.ret)))
    refine ⟨.inl rfl, [0, 1, 2], [_], rfl, rfl, ⟨rfl, trivial⟩, AVle.of_eq (iV_eq ?_), rfl⟩
    rw [List.getElem_append_right (by omega)]
    simp
end Go.Proofs.YtilpljehfcpjeaaDoor
end
