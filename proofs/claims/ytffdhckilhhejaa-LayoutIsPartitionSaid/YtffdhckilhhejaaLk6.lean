/- The statements' own functions over the machine of abstract values: sanity; places and units compared. -/
import Derived.Test.YtffdhckilhhejaaLk5
namespace Go.Proofs.Ytffdhckilhhejaa
open Go.RowKit
set_option linter.unusedVariables false
set_option linter.unusedSimpArgs false
set_option maxHeartbeats 4000000
attribute [local irreducible] Quiet Eff OpOk AWP ACont ABlock ACalls

theorem eq_unit (a b c a' b' c' : Int) (x y : Operand) (w : World) :
    (do eqGuard .neq 45 x y (.agg [Value.int .i64 a, .int .i64 b, .int .i64 c].toArray) (.agg [Value.int .i64 a', .int .i64 b', .int .i64 c'].toArray); binOp .neq 45 (.agg [Value.int .i64 a, .int .i64 b, .int .i64 c].toArray) (.agg [Value.int .i64 a', .int .i64 b', .int .i64 c'].toArray) : Sem Value).run Try.prog w = .ok (.bool (!(decide (a = a') && decide (b = b') && decide (c = c')))) w := by
  have h1 : Try.prog.stoodInHeld 45 = false := by kernel_rfl
  have h1' : Try.prog.stoodInHeld 43 = false := by kernel_rfl
  have h2 : Try.prog.eqGuardType Try.prog.depth 45 = false := by kernel_rfl
  have h3 : Try.prog.fieldsOf 45 = #[{ name := "Stripe", type := 43, offset := 0, embedded := false, tag := "", pkgPath := "", byteOffset := 0 }, { name := "Unit", type := 3, offset := 2, embedded := false, tag := "", pkgPath := "", byteOffset := 16 }] := by kernel_rfl
  have h4 : Try.prog.fieldsOf 43 = #[{ name := "Row", type := 3, offset := 0, embedded := false, tag := "", pkgPath := "", byteOffset := 0 }, { name := "Group", type := 3, offset := 1, embedded := false, tag := "", pkgPath := "", byteOffset := 8 }] := by kernel_rfl
  have h5 : (Try.prog.info? 43).map (·.size) = some 2 := by kernel_rfl
  obtain ⟨inf, hi, hs⟩ : ∃ inf, Try.prog.info? 43 = some inf ∧ inf.size = 2 := by
    cases h : Try.prog.info? 43 with
    | none => rw [h] at h5; cases h5
    | some i => rw [h] at h5; exact ⟨i, rfl, by simpa using h5⟩
  rw [Sem.run_bind, run_eqGuard_agg _ _ _ _ _ _ _ h2, Result.andThen_ok, run_neq_struct, run_equalIn_struct w 9999 45 _ _ (by rw [h3]; exact Try.underlying45) h1, h3]
  have e1 := fun (xs ys : Array Value) => run_equalIn_struct w 9998 43 xs ys (by rw [h4]; exact Try.underlying43) h1'
  rw [h4] at e1
  simp [Op.eqFields, part, isAgg, run_underlying Try.underlying3, run_underlying Try.underlying43, sizeOf, typeInfo, hi, hs, e1, run_equalIn_int _ _ _ _ _ _ _ Try.underlying3]
  by_cases g1 : a = a' <;> by_cases g2 : b = b' <;> by_cases g3 : c = c' <;> simp [g1, g2, g3]

theorem fi_place : fldsInt Try.prog 49 = some [0, 1, 2] := by kernel_rfl
theorem fi_stripe : fldsInt Try.prog 43 = some [0, 1] := by kernel_rfl
theorem A_sanity : ACalls Try.prog 31 [] [] (bV true) [] := by
  refine acalls_of_body Try.func31 rfl (Nat.le_of_ble_eq_true rfl) ?_
  have h1 := A_at 6 2 12 1 1 1 2 7 0 1
  rw [show atA (plcI 6 2 12 1 1 1 7 2 0) 7 1 = .tup [.agg [iV 0, iV 4, iV 7], iV 0] from by kernel_rfl] at h1
  have h2 := A_find 6 2 12 1 1 1 7 2 3
  rw [show fndA 6 2 12 1 1 1 7 2 3 = .tup [.agg [iV 0, iV 0, iV 0], iV 12] from by kernel_rfl] at h2
  have h3 := A_groups 6 2 12 1 1 1 2
  rw [show grpI 6 2 12 1 1 1 2 = 2 from by kernel_rfl] at h3
  have h4 := A_crowd 6 2 12 1 1 1 3
  rw [show crdI 6 2 12 1 1 1 3 = 2 from by kernel_rfl] at h4
  have h5 := A_spares 6 2 12 1 1 1 1 2
  obtain ⟨S, hS, hSl⟩ : ∃ S, S = sprI 6 2 12 1 1 1 1 2 ∧ S.length = 2 := ⟨_, rfl, by kernel_rfl⟩
  rw [← hS] at h5
  have h6 := A_units 6 2 12 1 1 1 2 3 6 (by omega)
  rw [show untI 6 2 12 1 1 1 2 3 6 = 4 from by kernel_rfl] at h6
  (repeat' (first | (first | (apply W.gOn; exact rfl; exact rfl) | (apply W.qd; (first
    | (apply (q_callC (h1)); exact rfl; exact rfl; kernel_rfl; kernel_rfl; kernel_rfl)
    | (apply (q_callC (h2)); exact rfl; exact rfl; kernel_rfl; kernel_rfl; kernel_rfl)
    | (apply (q_callC (h3)); exact rfl; exact rfl; kernel_rfl; kernel_rfl; kernel_rfl)
    | (apply (q_callC (h4)); exact rfl; exact rfl; kernel_rfl; kernel_rfl; kernel_rfl)
    | (apply (q_callC (h5)); exact rfl; exact rfl; kernel_rfl; kernel_rfl; kernel_rfl)
    | (apply (q_callC (h6)); exact rfl; exact rfl; kernel_rfl; kernel_rfl; kernel_rfl)
    | (apply (q_eqsI fi_place); exact rfl; exact rfl; exact rfl; exact rfl; exact rfl) | (apply (q_nesI fi_place); exact rfl; exact rfl; exact rfl; exact rfl; exact rfl)
    | (apply q_mv; (first
    | exact Eq.refl (AV.d _)
    | exact Eq.refl (AV.osl _ _ _ _)
    | exact Eq.refl (AV.opt _ _)
    | exact Eq.refl (AV.agg _)
    | exact Eq.refl (AV.fpt _ _ _ _)
    | exact Eq.refl (AV.rpt _ _ _ _)
    | exact Eq.refl (AV.fn _ _)
    | exact Eq.refl (AV.tup _)
    | exact Eq.refl AV.top))
    | (apply q_as; (first
    | exact Eq.refl (AV.d _)
    | exact Eq.refl (AV.osl _ _ _ _)
    | exact Eq.refl (AV.opt _ _)
    | exact Eq.refl (AV.agg _)
    | exact Eq.refl (AV.fpt _ _ _ _)
    | exact Eq.refl (AV.rpt _ _ _ _)
    | exact Eq.refl (AV.fn _ _)
    | exact Eq.refl (AV.tup _)
    | exact Eq.refl AV.top))
    | (apply q_fld_optF; exact rfl; exact rfl; exact rfl)
    | (apply q_ld_box; exact rfl; exact rfl; exact rfl; exact rfl)
    | (apply q_ld_boxF; exact rfl; exact rfl; exact rfl; exact rfl)
    | (apply q_lss; exact rfl; exact rfl)
    | (apply q_leq; exact rfl; exact rfl)
    | (apply q_gtr; exact rfl; exact rfl)
    | (apply q_geq; exact rfl; exact rfl)
    | (apply q_eql; exact rfl; exact rfl)
    | (apply q_neq; exact rfl; exact rfl)
    | (apply q_not; exact rfl)
    | (apply q_add; exact rfl; exact rfl; omega)
    | (apply q_sub; exact rfl; exact rfl; omega)
    | (apply q_mul; exact rfl; exact rfl; (first | omega | assumption))
    | (apply q_quo; exact rfl; exact rfl; omega; omega; omega)
    | (apply q_rem; exact rfl; exact rfl; omega; omega)
    | (apply q_neg; exact rfl; omega)
    | (apply q_extract; exact rfl; exact rfl)
    | (apply q_len_sl; exact rfl; exact rfl)
    | (apply q_len_str; exact rfl; exact rfl)
    | (apply q_len_osl; exact rfl; exact rfl; exact rfl)
    | (apply q_len_nil; exact rfl; exact rfl)
    | (apply q_ld_map; exact rfl; exact rfl; exact rfl; (first | omega | (focus (simp; done))))
    | (apply q_ld_maps; exact rfl; exact rfl; exact rfl; (first | omega | (focus (simp; done))))
    | (apply q_ld_fpt; exact rfl; exact rfl; (first | assumption | exact rfl); exact rfl)
    | (apply q_fld_fptF; exact rfl; exact rfl; exact rfl)
    | (apply q_buildF; exact rfl; exact rfl; kernel_rfl)
    | (apply q_field; exact rfl; exact rfl; exact rfl; exact rfl)
    | (apply q_fieldsF; exact rfl; exact rfl; exact rfl; exact rfl)
    | (apply q_makeFunc)
    | (apply q_nil_opt; exact rfl)
    | (apply q_nil_fpt; exact rfl)
    | (apply q_nil_fn; exact rfl)
    | (apply q_index_str; exact rfl; exact rfl; exact rfl; exact rfl; omega)
    | (apply q_litF; exact rfl; exact rfl; exact rfl; exact rfl; exact rfl; kernel_rfl; kernel_rfl; exact rfl)
    | (apply q_remK; exact rfl; exact rfl; omega; omega)
    | (apply q_ix_slF; exact rfl; exact rfl; exact rfl; exact rfl; exact rfl; (first | omega | (focus (simp only [List.length_map]; omega)) | (focus (simp; done))))
    | (apply (q_ix_slF (j := Int.toNat _)); exact rfl; exact rfl; exact rfl; exact rfl; exact (Int.toNat_of_nonneg (by omega)).symm; (first | omega | (focus (simp only [List.length_map]; omega)) | (focus (simp; done))))
    | (apply q_min; exact rfl; exact rfl)
    | (apply q_max; exact rfl; exact rfl)
    | (apply (q_pickT (u := .d _)); exact rfl; exact rfl)
    | (apply (q_pickF (u := .d _)); exact rfl; exact rfl)
    | (apply q_convI; exact rfl; exact rfl; exact rfl; omega)
    | (apply q_ix_osl0; exact rfl; exact rfl; exact rfl; exact rfl; exact rfl; (first | omega | (focus (simp only [List.length_map]; omega))))
    | (apply (q_ix_osl0 (j := Int.toNat _)); exact rfl; exact rfl; exact rfl; exact rfl; (first | exact rfl | (exact (Int.toNat_of_nonneg (by omega)).symm)); (first | omega | (focus (simp only [List.length_map]; omega))))
    | (apply q_ix_oslm; exact rfl; exact rfl; exact rfl; exact rfl; exact rfl; (first | omega | (focus (simp only [List.length_map]; omega))))
    | (apply (q_ix_oslm (j := Int.toNat _)); exact rfl; exact rfl; exact rfl; exact rfl; exact (Int.toNat_of_nonneg (by omega)).symm; (first | omega | (focus (simp only [List.length_map]; omega))))
    | (apply q_ld_rptm; exact rfl; exact rfl; exact rfl; exact rfl; (first | omega | (focus (simp only [List.length_map]; omega)) | (focus (simp; omega)))))) | (apply W.ed; (first
    | (apply e_boxF; exact rfl; exact rfl; exact rfl; kernel_rfl; kernel_rfl)
    | (apply e_allocF; exact rfl; exact rfl; exact rfl; kernel_rfl)
    | (apply e_app1F; exact rfl; exact rfl; exact rfl; exact rfl; exact rfl; exact rfl; exact rfl; exact rfl; (first | omega | (focus (simp; omega)) | (focus (simp; done))))
    | (apply e_appF; exact rfl; exact rfl; exact rfl; exact rfl; exact rfl; exact rfl; exact rfl; exact rfl; (first | rfl | simp); (first | exact Nat.zero_lt_one | (focus (simp; done)) | omega); (first | (focus (simp; done)) | (focus (simp; omega)) | omega))
    | (apply e_makeF; exact rfl; exact rfl; (first | exact rfl | (exact (Int.toNat_of_nonneg (by omega)).symm)); exact rfl; exact rfl; exact rfl; exact rfl; exact rfl; exact rfl; omega))) | (apply W.en; (first
    | (apply e_st_boxF; exact rfl; exact rfl; exact rfl; exact rfl; exact rfl; exact rfl; kernel_rfl; kernel_rfl; kernel_rfl)
    | (apply e_st_rptm; exact rfl; exact rfl; exact rfl; exact rfl; exact rfl; exact rfl; exact rfl; exact fun _ => rfl; (first | omega | (focus (simp only [List.length_map]; omega)) | (focus (simp; omega)))))) | (refine W.gOff _ _ rfl rfl (by intro h; cases h) ?_)) | (first
    | (apply AWP.seq)
    | (apply ACont_normal)
    | (apply W.region; kernel_rfl)
    | (apply W.regionD; exact rfl; kernel_rfl)
    | (apply Walk.nil)
    | (apply W.chk; kernel_rfl)
    | (apply AWP.block)
    | (apply AWP.skip)
    | (apply AWP.exit)
    | (apply AWP.ret)
    | (apply ACont_exit)
    | (apply ACont_ret)
    | (apply ABlock_normal)
    | (apply ABlock_exit)
    | (apply ABlock_ret)
    | (apply ABlock_exit'; exact rfl)
    | (apply W.condT; exact rfl)
    | (apply W.condF; exact rfl)) | refine W.gT _ _ rfl rfl (fun hb => ?_) (fun hb => ?_) <;> ((try simp only [hb, Bool.not_true, Bool.not_false]) <;> (try simp only [decide_eq_true_eq, decide_eq_false_iff_not, Bool.not_eq_true', Bool.not_eq_false', Int.not_lt, Int.not_le, List.length_map] at hb) <;> (try (exfalso; omega))) | refine W.gF _ _ rfl rfl (fun hb => ?_) (fun hb => ?_) <;> ((try simp only [hb, Bool.not_true, Bool.not_false]) <;> (try simp only [decide_eq_true_eq, decide_eq_false_iff_not, Bool.not_eq_true', Bool.not_eq_false', Int.not_lt, Int.not_le, List.length_map] at hb) <;> (try (exfalso; omega))) | refine W.cond _ rfl (fun hb => ?_) (fun hb => ?_) <;> ((try simp only [hb, Bool.not_true, Bool.not_false]) <;> (try simp only [decide_eq_true_eq, decide_eq_false_iff_not, Bool.not_eq_true', Bool.not_eq_false', Int.not_lt, Int.not_le, List.length_map] at hb) <;> (try (exfalso; omega)))))
  all_goals exact Ends.b rfl (by first | rfl | simp_all)

theorem atA_form (l : List Int) (row u : Int) : ∃ a b c e : Int, atA l row u = .tup [.agg [iV a, iV b, iV c], iV e] := by
  unfold atA; split
  · exact ⟨_, _, _, _, rfl⟩
  · exact ⟨_, _, _, _, rfl⟩
theorem L_matches (d r n s l i wd row gr u k m : Int) (hm : m < 9223372036854775808) : ACalls Try.prog 9 [.agg [iV d, iV r, iV n, iV s, iV l, iV i, iV wd, iV row, iV gr, iV u, iV k, iV m]] [] (bV true) [] := by
  refine acalls_of_body Try.func9 rfl (Nat.le_of_ble_eq_true rfl) ?_
  have h0 := A_sanity
  have h1 := A_small d r n s l i
  have h2 := A_at d r n s l i wd row gr u
  have h3 := A_rat d r n s l i wd row gr u
  obtain ⟨a, b, c, e, hf⟩ := atA_form (plcI d r n s l i row wd gr) row u
  rw [hf] at h2 h3
  have h4 := A_find d r n s l i row wd k
  have h5 := A_rfind d r n s l i row wd k
  obtain ⟨a', b', c', e', hf', _⟩ := fndA_form d r n s l i row wd k
  rw [hf'] at h4 h5
  have h6 := A_place d r n s l i row wd gr
  have h7 := A_rplace d r n s l i row wd gr
  have h8 := A_spares d r n s l i row wd
  have h9 := A_rspares d r n s l i row wd
  have h10 := A_units d r n s l i wd k m hm
  have h11 := A_runits d r n s l i wd k m hm
  have h12 := A_groups d r n s l i wd
  have h13 := A_rgroups d r n s l i wd
  have h14 := A_crowd d r n s l i wd
  have h15 := A_rcrowd d r n s l i wd
  generalize plcI d r n s l i row wd gr = L1 at *
  generalize sprI d r n s l i row wd = L2 at *
  generalize untI d r n s l i wd k m = z1 at *
  generalize grpI d r n s l i wd = z2 at *
  generalize crdI d r n s l i wd = z3 at *
  (repeat' (first | (first | (apply W.gOn; exact rfl; exact rfl) | (apply W.qd; (first
    | (apply (q_callC (h0)); exact rfl; exact rfl; kernel_rfl; kernel_rfl; kernel_rfl)
    | (apply (q_callC (h1)); exact rfl; exact rfl; kernel_rfl; kernel_rfl; kernel_rfl)
    | (apply (q_callC (h2)); exact rfl; exact rfl; kernel_rfl; kernel_rfl; kernel_rfl)
    | (apply (q_callC (h3)); exact rfl; exact rfl; kernel_rfl; kernel_rfl; kernel_rfl)
    | (apply (q_callC (h4)); exact rfl; exact rfl; kernel_rfl; kernel_rfl; kernel_rfl)
    | (apply (q_callC (h5)); exact rfl; exact rfl; kernel_rfl; kernel_rfl; kernel_rfl)
    | (apply (q_callC (h6)); exact rfl; exact rfl; kernel_rfl; kernel_rfl; kernel_rfl)
    | (apply (q_callC (h7)); exact rfl; exact rfl; kernel_rfl; kernel_rfl; kernel_rfl)
    | (apply (q_callC (h8)); exact rfl; exact rfl; kernel_rfl; kernel_rfl; kernel_rfl)
    | (apply (q_callC (h9)); exact rfl; exact rfl; kernel_rfl; kernel_rfl; kernel_rfl)
    | (apply (q_callC (h10)); exact rfl; exact rfl; kernel_rfl; kernel_rfl; kernel_rfl)
    | (apply (q_callC (h11)); exact rfl; exact rfl; kernel_rfl; kernel_rfl; kernel_rfl)
    | (apply (q_callC (h12)); exact rfl; exact rfl; kernel_rfl; kernel_rfl; kernel_rfl)
    | (apply (q_callC (h13)); exact rfl; exact rfl; kernel_rfl; kernel_rfl; kernel_rfl)
    | (apply (q_callC (h14)); exact rfl; exact rfl; kernel_rfl; kernel_rfl; kernel_rfl)
    | (apply (q_callC (h15)); exact rfl; exact rfl; kernel_rfl; kernel_rfl; kernel_rfl)
    | (apply (q_callC (A_same _ _)); exact rfl; exact rfl; kernel_rfl; kernel_rfl; kernel_rfl)
    | (apply (q_eqsI fi_place); exact rfl; exact rfl; exact rfl; exact rfl; exact rfl) | (apply (q_nesI fi_place); exact rfl; exact rfl; exact rfl; exact rfl; exact rfl)
    | (apply q_nes; exact rfl; exact rfl; exact rfl; exact rfl; exact eq_unit _ _ _ _ _ _)
    | (apply q_mv; (first
    | exact Eq.refl (AV.d _)
    | exact Eq.refl (AV.osl _ _ _ _)
    | exact Eq.refl (AV.opt _ _)
    | exact Eq.refl (AV.agg _)
    | exact Eq.refl (AV.fpt _ _ _ _)
    | exact Eq.refl (AV.rpt _ _ _ _)
    | exact Eq.refl (AV.fn _ _)
    | exact Eq.refl (AV.tup _)
    | exact Eq.refl AV.top))
    | (apply q_as; (first
    | exact Eq.refl (AV.d _)
    | exact Eq.refl (AV.osl _ _ _ _)
    | exact Eq.refl (AV.opt _ _)
    | exact Eq.refl (AV.agg _)
    | exact Eq.refl (AV.fpt _ _ _ _)
    | exact Eq.refl (AV.rpt _ _ _ _)
    | exact Eq.refl (AV.fn _ _)
    | exact Eq.refl (AV.tup _)
    | exact Eq.refl AV.top))
    | (apply q_fld_optF; exact rfl; exact rfl; exact rfl)
    | (apply q_ld_box; exact rfl; exact rfl; exact rfl; exact rfl)
    | (apply q_ld_boxF; exact rfl; exact rfl; exact rfl; exact rfl)
    | (apply q_lss; exact rfl; exact rfl)
    | (apply q_leq; exact rfl; exact rfl)
    | (apply q_gtr; exact rfl; exact rfl)
    | (apply q_geq; exact rfl; exact rfl)
    | (apply q_eql; exact rfl; exact rfl)
    | (apply q_neq; exact rfl; exact rfl)
    | (apply q_not; exact rfl)
    | (apply q_add; exact rfl; exact rfl; omega)
    | (apply q_sub; exact rfl; exact rfl; omega)
    | (apply q_mul; exact rfl; exact rfl; (first | omega | assumption))
    | (apply q_quo; exact rfl; exact rfl; omega; omega; omega)
    | (apply q_rem; exact rfl; exact rfl; omega; omega)
    | (apply q_neg; exact rfl; omega)
    | (apply q_extract; exact rfl; exact rfl)
    | (apply q_len_sl; exact rfl; exact rfl)
    | (apply q_len_str; exact rfl; exact rfl)
    | (apply q_len_osl; exact rfl; exact rfl; exact rfl)
    | (apply q_len_nil; exact rfl; exact rfl)
    | (apply q_ld_map; exact rfl; exact rfl; exact rfl; (first | omega | (focus (simp; done))))
    | (apply q_ld_maps; exact rfl; exact rfl; exact rfl; (first | omega | (focus (simp; done))))
    | (apply q_ld_fpt; exact rfl; exact rfl; (first | assumption | exact rfl); exact rfl)
    | (apply q_fld_fptF; exact rfl; exact rfl; exact rfl)
    | (apply q_buildF; exact rfl; exact rfl; kernel_rfl)
    | (apply q_field; exact rfl; exact rfl; exact rfl; exact rfl)
    | (apply q_fieldsF; exact rfl; exact rfl; exact rfl; exact rfl)
    | (apply q_makeFunc)
    | (apply q_nil_opt; exact rfl)
    | (apply q_nil_fpt; exact rfl)
    | (apply q_nil_fn; exact rfl)
    | (apply q_index_str; exact rfl; exact rfl; exact rfl; exact rfl; omega)
    | (apply q_litF; exact rfl; exact rfl; exact rfl; exact rfl; exact rfl; kernel_rfl; kernel_rfl; exact rfl)
    | (apply q_remK; exact rfl; exact rfl; omega; omega)
    | (apply q_ix_slF; exact rfl; exact rfl; exact rfl; exact rfl; exact rfl; (first | omega | (focus (simp only [List.length_map]; omega)) | (focus (simp; done))))
    | (apply (q_ix_slF (j := Int.toNat _)); exact rfl; exact rfl; exact rfl; exact rfl; exact (Int.toNat_of_nonneg (by omega)).symm; (first | omega | (focus (simp only [List.length_map]; omega)) | (focus (simp; done))))
    | (apply q_min; exact rfl; exact rfl)
    | (apply q_max; exact rfl; exact rfl)
    | (apply (q_pickT (u := .d _)); exact rfl; exact rfl)
    | (apply (q_pickF (u := .d _)); exact rfl; exact rfl)
    | (apply q_convI; exact rfl; exact rfl; exact rfl; omega)
    | (apply q_ix_osl0; exact rfl; exact rfl; exact rfl; exact rfl; exact rfl; (first | omega | (focus (simp only [List.length_map]; omega))))
    | (apply (q_ix_osl0 (j := Int.toNat _)); exact rfl; exact rfl; exact rfl; exact rfl; (first | exact rfl | (exact (Int.toNat_of_nonneg (by omega)).symm)); (first | omega | (focus (simp only [List.length_map]; omega))))
    | (apply q_ix_oslm; exact rfl; exact rfl; exact rfl; exact rfl; exact rfl; (first | omega | (focus (simp only [List.length_map]; omega))))
    | (apply (q_ix_oslm (j := Int.toNat _)); exact rfl; exact rfl; exact rfl; exact rfl; exact (Int.toNat_of_nonneg (by omega)).symm; (first | omega | (focus (simp only [List.length_map]; omega))))
    | (apply q_ld_rptm; exact rfl; exact rfl; exact rfl; exact rfl; (first | omega | (focus (simp only [List.length_map]; omega)) | (focus (simp; omega)))))) | (apply W.ed; (first
    | (apply e_boxF; exact rfl; exact rfl; exact rfl; kernel_rfl; kernel_rfl)
    | (apply e_allocF; exact rfl; exact rfl; exact rfl; kernel_rfl)
    | (apply e_app1F; exact rfl; exact rfl; exact rfl; exact rfl; exact rfl; exact rfl; exact rfl; exact rfl; (first | omega | (focus (simp; omega)) | (focus (simp; done))))
    | (apply e_appF; exact rfl; exact rfl; exact rfl; exact rfl; exact rfl; exact rfl; exact rfl; exact rfl; (first | rfl | simp); (first | exact Nat.zero_lt_one | (focus (simp; done)) | omega); (first | (focus (simp; done)) | (focus (simp; omega)) | omega))
    | (apply e_makeF; exact rfl; exact rfl; (first | exact rfl | (exact (Int.toNat_of_nonneg (by omega)).symm)); exact rfl; exact rfl; exact rfl; exact rfl; exact rfl; exact rfl; omega))) | (apply W.en; (first
    | (apply e_st_boxF; exact rfl; exact rfl; exact rfl; exact rfl; exact rfl; exact rfl; kernel_rfl; kernel_rfl; kernel_rfl)
    | (apply e_st_rptm; exact rfl; exact rfl; exact rfl; exact rfl; exact rfl; exact rfl; exact rfl; exact fun _ => rfl; (first | omega | (focus (simp only [List.length_map]; omega)) | (focus (simp; omega)))))) | (refine W.gOff _ _ rfl rfl (by intro h; cases h) ?_)) | (first
    | (apply AWP.seq)
    | (apply ACont_normal)
    | (apply W.region; kernel_rfl)
    | (apply W.regionD; exact rfl; kernel_rfl)
    | (apply Walk.nil)
    | (apply W.chk; kernel_rfl)
    | (apply AWP.block)
    | (apply AWP.skip)
    | (apply AWP.exit)
    | (apply AWP.ret)
    | (apply ACont_exit)
    | (apply ACont_ret)
    | (apply ABlock_normal)
    | (apply ABlock_exit)
    | (apply ABlock_ret)
    | (apply ABlock_exit'; exact rfl)
    | (apply W.condT; exact rfl)
    | (apply W.condF; exact rfl)) | refine W.gT _ _ rfl rfl (fun hb => ?_) (fun hb => ?_) <;> ((try simp only [hb, Bool.not_true, Bool.not_false]) <;> (try simp only [decide_eq_true_eq, decide_eq_false_iff_not, Bool.not_eq_true', Bool.not_eq_false', Int.not_lt, Int.not_le, List.length_map] at hb) <;> (try (exfalso; omega))) | refine W.gF _ _ rfl rfl (fun hb => ?_) (fun hb => ?_) <;> ((try simp only [hb, Bool.not_true, Bool.not_false]) <;> (try simp only [decide_eq_true_eq, decide_eq_false_iff_not, Bool.not_eq_true', Bool.not_eq_false', Int.not_lt, Int.not_le, List.length_map] at hb) <;> (try (exfalso; omega))) | refine W.cond _ rfl (fun hb => ?_) (fun hb => ?_) <;> ((try simp only [hb, Bool.not_true, Bool.not_false]) <;> (try simp only [decide_eq_true_eq, decide_eq_false_iff_not, Bool.not_eq_true', Bool.not_eq_false', Int.not_lt, Int.not_le, List.length_map] at hb) <;> (try (exfalso; omega)))))
  all_goals first
    | exact absurd trivial hb
    | (exfalso; simp at hb; done)
    | exact Ends.b rfl (by first | rfl | simp_all)
end Go.Proofs.Ytffdhckilhhejaa
