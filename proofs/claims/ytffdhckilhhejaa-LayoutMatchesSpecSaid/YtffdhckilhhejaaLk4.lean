/- The reference of the layout over the machine of abstract values: Place, Spares. -/
import Derived.Test.YtffdhckilhhejaaLk3
namespace Go.Proofs.Ytffdhckilhhejaa
open Go.RowKit
set_option linter.unusedVariables false
set_option linter.unusedSimpArgs false
set_option maxHeartbeats 2000000
attribute [local irreducible] Quiet Eff OpOk AWP ACont ABlock ACalls

theorem take_snoc {α : Type} (L : List α) (F u : Nat) (h : F + u < L.length) : (L.drop F).take u ++ [L[F + u]] = (L.drop F).take (u + 1) := by
  rw [List.take_succ_eq_append_getElem (by simp; omega), List.getElem_drop]
theorem ordI_ok {d r n s l i row w : Int} (h : OkL d r n s l i w) (h0 : 0 ≤ row) (h1 : row < n) : (ordI d r n s l i row).length ≠ 0 := by
  have h2 := h.bd.1
  rw [ordI_yes ⟨h.1, h0, h1⟩, I_length, ord_length]; omega

theorem A_rplace (d r n s l i row wd gr : Int) : ACalls Try.prog 38 [cfgA d r n s l i, iV row, iV wd, iV gr] [] (ints (plcI d r n s l i row wd gr)) [] := by
  refine acalls_of_body Try.func38 rfl (Nat.le_of_ble_eq_true rfl) ?_
  have hlen := ordI_len d r n s l i row
  have hno : ¬ (0 ≤ row ∧ row < n) → ordI d r n s l i row = [] := fun h => ordI_no fun h' => h h'.2
  (repeat' (first | (first | (apply W.gOn; exact rfl; exact rfl) | (apply W.qd; (first
    | (apply (q_callC (A_rorder _ _ _ _ _ _ _)); exact rfl; exact rfl; kernel_rfl; kernel_rfl; kernel_rfl)
    | (apply (q_callC (A_rgroups _ _ _ _ _ _ _)); exact rfl; exact rfl; kernel_rfl; kernel_rfl; kernel_rfl)
    | (apply q_mv; (first
    | exact Eq.refl (AV.d _)
    | exact Eq.refl (AV.osl _ _ _ _)
    | exact Eq.refl (AV.opt _ _)
    | exact Eq.refl (AV.agg _)
    | exact Eq.refl (AV.fpt _ _ _ _)
    | exact Eq.refl (AV.rpt _ _ _ _)
    | exact Eq.refl (AV.fn _ _)
    | exact Eq.refl (AV.tup _)
    | exact Eq.refl AV.top))
    | (apply q_as; (first
    | exact Eq.refl (AV.d _)
    | exact Eq.refl (AV.osl _ _ _ _)
    | exact Eq.refl (AV.opt _ _)
    | exact Eq.refl (AV.agg _)
    | exact Eq.refl (AV.fpt _ _ _ _)
    | exact Eq.refl (AV.rpt _ _ _ _)
    | exact Eq.refl (AV.fn _ _)
    | exact Eq.refl (AV.tup _)
    | exact Eq.refl AV.top))
    | (apply q_fld_optF; exact rfl; exact rfl; exact rfl)
    | (apply q_ld_box; exact rfl; exact rfl; exact rfl; exact rfl)
    | (apply q_ld_boxF; exact rfl; exact rfl; exact rfl; exact rfl)
    | (apply q_lss; exact rfl; exact rfl)
    | (apply q_leq; exact rfl; exact rfl)
    | (apply q_gtr; exact rfl; exact rfl)
    | (apply q_geq; exact rfl; exact rfl)
    | (apply q_eql; exact rfl; exact rfl)
    | (apply q_neq; exact rfl; exact rfl)
    | (apply q_not; exact rfl)
    | (apply q_add; exact rfl; exact rfl; omega)
    | (apply q_sub; exact rfl; exact rfl; omega)
    | (apply q_mul; exact rfl; exact rfl; (first | omega | assumption))
    | (apply q_quo; exact rfl; exact rfl; omega; omega; omega)
    | (apply q_rem; exact rfl; exact rfl; omega; omega)
    | (apply q_neg; exact rfl; omega)
    | (apply q_extract; exact rfl; exact rfl)
    | (apply q_len_sl; exact rfl; exact rfl)
    | (apply q_len_str; exact rfl; exact rfl)
    | (apply q_len_osl; exact rfl; exact rfl; exact rfl)
    | (apply q_len_nil; exact rfl; exact rfl)
    | (apply q_ld_map; exact rfl; exact rfl; exact rfl; (first | omega | (focus (simp; done))))
    | (apply q_ld_maps; exact rfl; exact rfl; exact rfl; (first | omega | (focus (simp; done))))
    | (apply q_ld_fpt; exact rfl; exact rfl; (first | assumption | exact rfl); exact rfl)
    | (apply q_fld_fptF; exact rfl; exact rfl; exact rfl)
    | (apply q_buildF; exact rfl; exact rfl; kernel_rfl)
    | (apply q_field; exact rfl; exact rfl; exact rfl; exact rfl)
    | (apply q_fieldsF; exact rfl; exact rfl; exact rfl; exact rfl)
    | (apply q_makeFunc)
    | (apply q_nil_opt; exact rfl)
    | (apply q_nil_fpt; exact rfl)
    | (apply q_nil_fn; exact rfl)
    | (apply q_index_str; exact rfl; exact rfl; exact rfl; exact rfl; omega)
    | (apply q_litF; exact rfl; exact rfl; exact rfl; exact rfl; exact rfl; kernel_rfl; kernel_rfl; exact rfl)
    | (apply q_remK; exact rfl; exact rfl; omega; omega)
    | (apply q_ix_slF; exact rfl; exact rfl; exact rfl; exact rfl; exact rfl; (first | omega | (focus (simp only [List.length_map]; omega)) | (focus (simp; done))))
    | (apply (q_ix_slF (j := Int.toNat _)); exact rfl; exact rfl; exact rfl; exact rfl; exact (Int.toNat_of_nonneg (by omega)).symm; (first | omega | (focus (simp only [List.length_map]; omega)) | (focus (simp; done))))
    | (apply q_min; exact rfl; exact rfl)
    | (apply q_max; exact rfl; exact rfl)
    | (apply (q_pickT (u := .d _)); exact rfl; exact rfl)
    | (apply (q_pickF (u := .d _)); exact rfl; exact rfl)
    | (apply q_convI; exact rfl; exact rfl; exact rfl; omega)
    | (apply q_ix_osl0; exact rfl; exact rfl; exact rfl; exact rfl; exact rfl; (first | omega | (focus (simp only [List.length_map]; omega))))
    | (apply (q_ix_osl0 (j := Int.toNat _)); exact rfl; exact rfl; exact rfl; exact rfl; (first | exact rfl | (exact (Int.toNat_of_nonneg (by omega)).symm)); (first | omega | (focus (simp only [List.length_map]; omega))))
    | (apply q_ix_oslm; exact rfl; exact rfl; exact rfl; exact rfl; exact rfl; (first | omega | (focus (simp only [List.length_map]; omega))))
    | (apply (q_ix_oslm (j := Int.toNat _)); exact rfl; exact rfl; exact rfl; exact rfl; exact (Int.toNat_of_nonneg (by omega)).symm; (first | omega | (focus (simp only [List.length_map]; omega))))
    | (apply q_ld_rptm; exact rfl; exact rfl; exact rfl; exact rfl; (first | omega | (focus (simp only [List.length_map]; omega)) | (focus (simp; omega)))))) | (apply W.ed; (first
    | (apply e_boxF; exact rfl; exact rfl; exact rfl; kernel_rfl; kernel_rfl)
    | (apply e_allocF; exact rfl; exact rfl; exact rfl; kernel_rfl)
    | (apply e_app1F; exact rfl; exact rfl; exact rfl; exact rfl; exact rfl; exact rfl; exact rfl; exact rfl; (first | omega | (focus (simp; omega)) | (focus (simp; done))))
    | (apply e_appF; exact rfl; exact rfl; exact rfl; exact rfl; exact rfl; exact rfl; exact rfl; exact rfl; (first | rfl | simp); (first | exact Nat.zero_lt_one | (focus (simp; done)) | omega); (first | (focus (simp; done)) | (focus (simp; omega)) | omega))
    | (apply e_makeF; exact rfl; exact rfl; (first | exact rfl | (exact (Int.toNat_of_nonneg (by omega)).symm)); exact rfl; exact rfl; exact rfl; exact rfl; exact rfl; exact rfl; omega))) | (apply W.en; (first
    | (apply e_st_boxF; exact rfl; exact rfl; exact rfl; exact rfl; exact rfl; exact rfl; kernel_rfl; kernel_rfl; kernel_rfl)
    | (apply e_st_rptm; exact rfl; exact rfl; exact rfl; exact rfl; exact rfl; exact rfl; exact rfl; exact fun _ => rfl; (first | omega | (focus (simp only [List.length_map]; omega)) | (focus (simp; omega)))))) | (refine W.gOff _ _ rfl rfl (by intro h; cases h) ?_)) | (first
    | (apply AWP.seq)
    | (apply ACont_normal)
    | (apply W.region; kernel_rfl)
    | (apply W.regionD; exact rfl; kernel_rfl)
    | (apply Walk.nil)
    | (apply W.chk; kernel_rfl)
    | (apply AWP.block)
    | (apply AWP.skip)
    | (apply AWP.exit)
    | (apply AWP.ret)
    | (apply ACont_exit)
    | (apply ACont_ret)
    | (apply ABlock_normal)
    | (apply ABlock_exit)
    | (apply ABlock_ret)
    | (apply ABlock_exit'; exact rfl)
    | (apply W.condT; exact rfl)
    | (apply W.condF; exact rfl)) | refine W.gT _ _ rfl rfl (fun hb => ?_) (fun hb => ?_) <;> ((try simp only [hb, Bool.not_true, Bool.not_false]) <;> (try simp only [decide_eq_true_eq, decide_eq_false_iff_not, Bool.not_eq_true', Bool.not_eq_false', Int.not_lt, Int.not_le, List.length_map] at hb) <;> (try (exfalso; omega))) | refine W.gF _ _ rfl rfl (fun hb => ?_) (fun hb => ?_) <;> ((try simp only [hb, Bool.not_true, Bool.not_false]) <;> (try simp only [decide_eq_true_eq, decide_eq_false_iff_not, Bool.not_eq_true', Bool.not_eq_false', Int.not_lt, Int.not_le, List.length_map] at hb) <;> (try (exfalso; omega))) | refine W.cond _ rfl (fun hb => ?_) (fun hb => ?_) <;> ((try simp only [hb, Bool.not_true, Bool.not_false]) <;> (try simp only [decide_eq_true_eq, decide_eq_false_iff_not, Bool.not_eq_true', Bool.not_eq_false', Int.not_lt, Int.not_le, List.length_map] at hb) <;> (try (exfalso; omega)))))
  · exact Ends.nil rfl (by unfold plcI; rw [if_neg (by omega)]; rfl)
  · rename_i h0 h1 h2
    have hok := grpI_pos h2 hb
    have h9 := ordI_ok hok h0 h1
    have hF := plc_bd h9 h2 hb
    have hF2 : -9223372036854775808 ≤ gr * wd ∧ gr * wd < 9223372036854775808 := by omega
    obtain ⟨F, hFe⟩ := Int.eq_ofNat_of_zero_le hF.1
    obtain ⟨V, rfl⟩ := Int.eq_ofNat_of_zero_le (show 0 ≤ wd by omega)
    have hplc : plcI d r n s l i row V gr = ((ordI d r n s l i row).drop F).take V := by unfold plcI; rw [if_pos ⟨h2, hb⟩, hFe]; rfl
    rw [hplc]
    generalize ordI d r n s l i row = L at *
    refine AWP.nilRow 10 1 3 rfl (by omega) ?_
    refine AWP.loopW (α := Nat) (fun u => u ≤ V) (fun u => ⟨[(11, iV u), (2, iV V), (3, iV gr), (9, ints L), (10, .osl 1 u 0 ((L.drop F).take u).length)], [.box [iV d, iV r, iV n, iV s, iV l, iV i], .row u 1 3 (((L.drop F).take u).map iD)]⟩) (fun u => V - u) 0 (by omega) ⟨[0, 1], rfl, rfl, rfl, by (repeat (first | exact trivial | refine ⟨rfl, ?_⟩))⟩ fun u hu => ?_
    have hle : ((L.drop F).take u).length ≤ 64 := by simp only [List.length_take, List.length_drop]; omega
    (repeat' (first | (first | (apply W.gOn; exact rfl; exact rfl) | (apply W.qd; (first
    | (apply q_mv; (first
    | exact Eq.refl (AV.d _)
    | exact Eq.refl (AV.osl _ _ _ _)
    | exact Eq.refl (AV.opt _ _)
    | exact Eq.refl (AV.agg _)
    | exact Eq.refl (AV.fpt _ _ _ _)
    | exact Eq.refl (AV.rpt _ _ _ _)
    | exact Eq.refl (AV.fn _ _)
    | exact Eq.refl (AV.tup _)
    | exact Eq.refl AV.top))
    | (apply q_as; (first
    | exact Eq.refl (AV.d _)
    | exact Eq.refl (AV.osl _ _ _ _)
    | exact Eq.refl (AV.opt _ _)
    | exact Eq.refl (AV.agg _)
    | exact Eq.refl (AV.fpt _ _ _ _)
    | exact Eq.refl (AV.rpt _ _ _ _)
    | exact Eq.refl (AV.fn _ _)
    | exact Eq.refl (AV.tup _)
    | exact Eq.refl AV.top))
    | (apply q_fld_optF; exact rfl; exact rfl; exact rfl)
    | (apply q_ld_box; exact rfl; exact rfl; exact rfl; exact rfl)
    | (apply q_ld_boxF; exact rfl; exact rfl; exact rfl; exact rfl)
    | (apply q_lss; exact rfl; exact rfl)
    | (apply q_leq; exact rfl; exact rfl)
    | (apply q_gtr; exact rfl; exact rfl)
    | (apply q_geq; exact rfl; exact rfl)
    | (apply q_eql; exact rfl; exact rfl)
    | (apply q_neq; exact rfl; exact rfl)
    | (apply q_not; exact rfl)
    | (apply q_add; exact rfl; exact rfl; omega)
    | (apply q_sub; exact rfl; exact rfl; omega)
    | (apply q_mul; exact rfl; exact rfl; (first | omega | assumption))
    | (apply q_quo; exact rfl; exact rfl; omega; omega; omega)
    | (apply q_rem; exact rfl; exact rfl; omega; omega)
    | (apply q_neg; exact rfl; omega)
    | (apply q_extract; exact rfl; exact rfl)
    | (apply q_len_sl; exact rfl; exact rfl)
    | (apply q_len_str; exact rfl; exact rfl)
    | (apply q_len_osl; exact rfl; exact rfl; exact rfl)
    | (apply q_len_nil; exact rfl; exact rfl)
    | (apply q_ld_map; exact rfl; exact rfl; exact rfl; (first | omega | (focus (simp; done))))
    | (apply q_ld_maps; exact rfl; exact rfl; exact rfl; (first | omega | (focus (simp; done))))
    | (apply q_ld_fpt; exact rfl; exact rfl; (first | assumption | exact rfl); exact rfl)
    | (apply q_fld_fptF; exact rfl; exact rfl; exact rfl)
    | (apply q_buildF; exact rfl; exact rfl; kernel_rfl)
    | (apply q_field; exact rfl; exact rfl; exact rfl; exact rfl)
    | (apply q_fieldsF; exact rfl; exact rfl; exact rfl; exact rfl)
    | (apply q_makeFunc)
    | (apply q_nil_opt; exact rfl)
    | (apply q_nil_fpt; exact rfl)
    | (apply q_nil_fn; exact rfl)
    | (apply q_index_str; exact rfl; exact rfl; exact rfl; exact rfl; omega)
    | (apply q_litF; exact rfl; exact rfl; exact rfl; exact rfl; exact rfl; kernel_rfl; kernel_rfl; exact rfl)
    | (apply q_remK; exact rfl; exact rfl; omega; omega)
    | (apply q_ix_slF; exact rfl; exact rfl; exact rfl; exact rfl; exact rfl; (first | omega | (focus (simp only [List.length_map]; omega)) | (focus (simp; done))))
    | (apply (q_ix_slF (j := Int.toNat _)); exact rfl; exact rfl; exact rfl; exact rfl; exact (Int.toNat_of_nonneg (by omega)).symm; (first | omega | (focus (simp only [List.length_map]; omega)) | (focus (simp; done))))
    | (apply q_min; exact rfl; exact rfl)
    | (apply q_max; exact rfl; exact rfl)
    | (apply (q_pickT (u := .d _)); exact rfl; exact rfl)
    | (apply (q_pickF (u := .d _)); exact rfl; exact rfl)
    | (apply q_convI; exact rfl; exact rfl; exact rfl; omega)
    | (apply q_ix_osl0; exact rfl; exact rfl; exact rfl; exact rfl; exact rfl; (first | omega | (focus (simp only [List.length_map]; omega))))
    | (apply (q_ix_osl0 (j := Int.toNat _)); exact rfl; exact rfl; exact rfl; exact rfl; (first | exact rfl | (exact (Int.toNat_of_nonneg (by omega)).symm)); (first | omega | (focus (simp only [List.length_map]; omega))))
    | (apply q_ix_oslm; exact rfl; exact rfl; exact rfl; exact rfl; exact rfl; (first | omega | (focus (simp only [List.length_map]; omega))))
    | (apply (q_ix_oslm (j := Int.toNat _)); exact rfl; exact rfl; exact rfl; exact rfl; exact (Int.toNat_of_nonneg (by omega)).symm; (first | omega | (focus (simp only [List.length_map]; omega))))
    | (apply q_ld_rptm; exact rfl; exact rfl; exact rfl; exact rfl; (first | omega | (focus (simp only [List.length_map]; omega)) | (focus (simp; omega)))))) | (apply W.ed; (first
    | (apply e_boxF; exact rfl; exact rfl; exact rfl; kernel_rfl; kernel_rfl)
    | (apply e_allocF; exact rfl; exact rfl; exact rfl; kernel_rfl)
    | (apply e_app1F; exact rfl; exact rfl; exact rfl; exact rfl; exact rfl; exact rfl; exact rfl; exact rfl; (first | omega | (focus (simp; omega)) | (focus (simp; done))))
    | (apply e_appF; exact rfl; exact rfl; exact rfl; exact rfl; exact rfl; exact rfl; exact rfl; exact rfl; (first | rfl | simp); (first | exact Nat.zero_lt_one | (focus (simp; done)) | omega); (first | (focus (simp; done)) | (focus (simp; omega)) | omega))
    | (apply e_makeF; exact rfl; exact rfl; (first | exact rfl | (exact (Int.toNat_of_nonneg (by omega)).symm)); exact rfl; exact rfl; exact rfl; exact rfl; exact rfl; exact rfl; omega))) | (apply W.en; (first
    | (apply e_st_boxF; exact rfl; exact rfl; exact rfl; exact rfl; exact rfl; exact rfl; kernel_rfl; kernel_rfl; kernel_rfl)
    | (apply e_st_rptm; exact rfl; exact rfl; exact rfl; exact rfl; exact rfl; exact rfl; exact rfl; exact fun _ => rfl; (first | omega | (focus (simp only [List.length_map]; omega)) | (focus (simp; omega)))))) | (refine W.gOff _ _ rfl rfl (by intro h; cases h) ?_)) | (first
    | (apply AWP.seq)
    | (apply ACont_normal)
    | (apply W.region; kernel_rfl)
    | (apply W.regionD; exact rfl; kernel_rfl)
    | (apply Walk.nil)
    | (apply W.chk; kernel_rfl)
    | (apply AWP.block)
    | (apply AWP.skip)
    | (apply AWP.exit)
    | (apply AWP.ret)
    | (apply ACont_exit)
    | (apply ACont_ret)
    | (apply ABlock_normal)
    | (apply ABlock_exit)
    | (apply ABlock_ret)
    | (apply ABlock_exit'; exact rfl)
    | (apply W.condT; exact rfl)
    | (apply W.condF; exact rfl)) | refine W.gT _ _ rfl rfl (fun hb => ?_) (fun hb => ?_) <;> ((try simp only [hb, Bool.not_true, Bool.not_false]) <;> (try simp only [decide_eq_true_eq, decide_eq_false_iff_not, Bool.not_eq_true', Bool.not_eq_false', Int.not_lt, Int.not_le, List.length_map] at hb) <;> (try (exfalso; omega))) | refine W.gF _ _ rfl rfl (fun hb => ?_) (fun hb => ?_) <;> ((try simp only [hb, Bool.not_true, Bool.not_false]) <;> (try simp only [decide_eq_true_eq, decide_eq_false_iff_not, Bool.not_eq_true', Bool.not_eq_false', Int.not_lt, Int.not_le, List.length_map] at hb) <;> (try (exfalso; omega))) | refine W.cond _ rfl (fun hb => ?_) (fun hb => ?_) <;> ((try simp only [hb, Bool.not_true, Bool.not_false]) <;> (try simp only [decide_eq_true_eq, decide_eq_false_iff_not, Bool.not_eq_true', Bool.not_eq_false', Int.not_lt, Int.not_le, List.length_map] at hb) <;> (try (exfalso; omega)))))
    · have hx : F + u < L.length := by omega
      have ht := take_snoc L F u hx
      have hix : (gr * V + u : Int).toNat = F + u := by omega
      refine ⟨u + 1, by omega, by omega, [0, 1], rfl, rfl, ?_, rfl, rfl, rfl, rfl, ?_, trivial⟩
      · rw [← ht]; simp only [← hix]; rfl
      · rw [← ht]; simp only [← hix]; rfl
    · have hu2 : u = V := by omega
      subst hu2
      exact Ends.osl rfl rfl (by simp) rfl
  · exact Ends.nil rfl (by unfold plcI; rw [if_neg (by omega)]; rfl)
  · exact Ends.nil rfl (by unfold plcI; rw [hno (by omega)]; split <;> simp)
  · exact Ends.nil rfl (by unfold plcI; rw [hno (by omega)]; split <;> simp)
end Go.Proofs.Ytffdhckilhhejaa
