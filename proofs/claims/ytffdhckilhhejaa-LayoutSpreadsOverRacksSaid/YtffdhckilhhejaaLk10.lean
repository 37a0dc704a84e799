/- LayoutSpreadsOverRacks over the machine of abstract values. -/
import Derived.Test.YtffdhckilhhejaaLk9
namespace Go.Proofs.Ytffdhckilhhejaa
open Go.RowKit
set_option linter.unusedVariables false
set_option linter.unusedSimpArgs false
set_option maxHeartbeats 4000000

theorem ord_rackL (D R X p : Nat) (hD : 1 ≤ D) (hR : 1 ≤ R) (hdv : R ∣ D) (hp : p < D) : (ord D R X).getD p 0 % R = (X + p) % R := by
  rw [getD_lt _ _ _ (by rw [ord_length]; exact hp)]
  simp only [ord, List.getElem_map, List.getElem_range]
  have hm := mulAt_mem D R X hD hR
  have := mod_mul_one (mulAt D R X) p X D R hD hdv (by
    rcases Nat.lt_or_ge 1 D with h | h
    · exact .inl (muls_mod D R _ hm h)
    · exact .inr (by omega))
  rw [this, Nat.add_mod p, Nat.mod_mod_of_dvd _ hdv, ← Nat.add_mod, Nat.add_comm]

set_option maxHeartbeats 8000000 in
set_option maxRecDepth 100000 in
/-- How many of the first u positions from B on are in rack k. -/
def cN (R B k u : Nat) : Nat := (u + (R - 1 - (k + R - B % R) % R)) / R
theorem cN_zero (R B k : Nat) (h1 : 1 ≤ R) : cN R B k 0 = 0 := by
  unfold cN
  exact Nat.div_eq_of_lt (by omega)
theorem cN_succ (R B k u : Nat) (h1 : 1 ≤ R) (h8 : R ≤ 8) (hk : k < R) : cN R B k (u + 1) = cN R B k u + if k = (B + u) % R then 1 else 0 := by
  unfold cN
  have : R = 1 ∨ R = 2 ∨ R = 3 ∨ R = 4 ∨ R = 5 ∨ R = 6 ∨ R = 7 ∨ R = 8 := by omega
  rcases this with rfl | rfl | rfl | rfl | rfl | rfl | rfl | rfl <;> split <;> omega
theorem cN_at (R B u : Nat) (h1 : 1 ≤ R) (h8 : R ≤ 8) : cN R B ((B + u) % R) u = u / R := by
  unfold cN
  have : R = 1 ∨ R = 2 ∨ R = 3 ∨ R = 4 ∨ R = 5 ∨ R = 6 ∨ R = 7 ∨ R = 8 := by omega
  rcases this with rfl | rfl | rfl | rfl | rfl | rfl | rfl | rfl <;> omega
theorem most_succ (R u : Nat) (h1 : 1 ≤ R) (h8 : R ≤ 8) : (u + 1 + R - 1) / R = u / R + 1 ∧ (u + R - 1) / R ≤ u / R + 1 := by
  have : R = 1 ∨ R = 2 ∨ R = 3 ∨ R = 4 ∨ R = 5 ∨ R = 6 ∨ R = 7 ∨ R = 8 := by omega
  rcases this with rfl | rfl | rfl | rfl | rfl | rfl | rfl | rfl <;> omega
def cntL (R B u : Nat) : List Int := (List.range R).map fun k => (cN R B k u : Int)
theorem cntL_length (R B u : Nat) : (cntL R B u).length = R := by simp [cntL]
theorem cntL_zero (R B : Nat) (h1 : 1 ≤ R) : List.replicate R (0 : Int) = cntL R B 0 := by
  apply List.ext_getElem
  · simp [cntL]
  · intro k h2 h3
    simp [cntL, cN_zero R B k h1]
theorem cntL_get (R B u j : Nat) (h : j < (cntL R B u).length) : (cntL R B u)[j] = cN R B j u := by simp [cntL]
theorem cntL_set (R B u j : Nat) (h1 : 1 ≤ R) (h8 : R ≤ 8) (hj : j = (B + u) % R) (z : Int) (hz : z = (cN R B j u : Int) + 1) : (cntL R B u).set j z = cntL R B (u + 1) := by
  apply List.ext_getElem
  · simp [cntL]
  · intro k h2 h3
    rw [cntL_get, List.getElem_set]
    have hk : k < R := by simpa [cntL] using h3
    rw [cN_succ R B k u h1 h8 hk]
    by_cases e : j = k
    · rw [if_pos e, if_pos (by omega), hz, e]; simp
    · rw [if_neg e, if_neg (by omega), cntL_get]; simp
attribute [local irreducible] Quiet Eff OpOk AWP ACont ABlock ACalls

theorem L_spreads (d r n s l i wd x : Int) (hx : 0 ≤ x ∧ x < 65536) : ACalls Try.prog 11 [cfgA d r n s l i, iV wd, .d (.v (.int .u16 x))] [] (bV true) [] := by
  refine acalls_of_body Try.func11 rfl (Nat.le_of_ble_eq_true rfl) ?_
  have hsan := A_sanity
  have hpr := A_proper d r n s l i wd
  by_cases hp : d ≤ 16 ∧ n ≤ 64 ∧ OkL d r n s l i wd
  · rw [decide_eq_true hp] at hpr
    obtain ⟨p1, p2, hok⟩ := hp
    obtain ⟨D, R, N, rfl, rfl, rfl, hD1, hD2, hR1, hR2, hN1, hN2, hRD⟩ := hok.1.nat
    obtain ⟨b1, b2, b3, h4, h5⟩ := hok.bd
    obtain ⟨X, hX⟩ := Int.eq_ofNat_of_zero_le (show 0 ≤ x % (N : Int) from Int.emod_nonneg _ (by omega))
    have hXN : X < N := by have := Int.emod_lt_of_pos x (show (0 : Int) < N by omega); omega
    have e1 := ordI_nat hok.1 hXN
    obtain ⟨g1, g2, g3⟩ := grpI_bd hok
    obtain ⟨V, rfl⟩ := Int.eq_ofNat_of_zero_le (show 0 ≤ wd by omega)
    have hgr := A_groups D R N s l i V
    have hcr := A_crowd D R N s l i V
    have hcrd : crdI D R N s l i V = (((V + R - 1) / R : Nat) : Int) := by
      unfold crdI
      rw [if_pos hok, Int.natCast_ediv]
      congr 1
      omega
    rw [hcrd] at hcr
    (repeat' (first | (first | (apply W.gOn; exact rfl; exact rfl) | (apply W.qd; (first
    | (apply (q_callC (hsan)); exact rfl; exact rfl; kernel_rfl; kernel_rfl; kernel_rfl)
    | (apply (q_callC (hpr)); exact rfl; exact rfl; kernel_rfl; kernel_rfl; kernel_rfl)
    | (apply q_mv; (first
    | exact Eq.refl (AV.d _)
    | exact Eq.refl (AV.osl _ _ _ _)
    | exact Eq.refl (AV.opt _ _)
    | exact Eq.refl (AV.agg _)
    | exact Eq.refl (AV.fpt _ _ _ _)
    | exact Eq.refl (AV.rpt _ _ _ _)
    | exact Eq.refl (AV.fn _ _)
    | exact Eq.refl (AV.tup _)
    | exact Eq.refl AV.top))
    | (apply q_as; (first
    | exact Eq.refl (AV.d _)
    | exact Eq.refl (AV.osl _ _ _ _)
    | exact Eq.refl (AV.opt _ _)
    | exact Eq.refl (AV.agg _)
    | exact Eq.refl (AV.fpt _ _ _ _)
    | exact Eq.refl (AV.rpt _ _ _ _)
    | exact Eq.refl (AV.fn _ _)
    | exact Eq.refl (AV.tup _)
    | exact Eq.refl AV.top))
    | (apply q_fld_optF; exact rfl; exact rfl; exact rfl)
    | (apply q_ld_box; exact rfl; exact rfl; exact rfl; exact rfl)
    | (apply q_ld_boxF; exact rfl; exact rfl; exact rfl; exact rfl)
    | (apply q_lss; exact rfl; exact rfl)
    | (apply q_leq; exact rfl; exact rfl)
    | (apply q_gtr; exact rfl; exact rfl)
    | (apply q_geq; exact rfl; exact rfl)
    | (apply q_eql; exact rfl; exact rfl)
    | (apply q_neq; exact rfl; exact rfl)
    | (apply q_not; exact rfl)
    | (apply q_add; exact rfl; exact rfl; omega)
    | (apply q_sub; exact rfl; exact rfl; omega)
    | (apply q_mul; exact rfl; exact rfl; (first | omega | assumption))
    | (apply q_quo; exact rfl; exact rfl; omega; omega; omega)
    | (apply q_rem; exact rfl; exact rfl; omega; omega)
    | (apply q_neg; exact rfl; omega)
    | (apply q_extract; exact rfl; exact rfl)
    | (apply q_len_sl; exact rfl; exact rfl)
    | (apply q_len_str; exact rfl; exact rfl)
    | (apply q_len_osl; exact rfl; exact rfl; exact rfl)
    | (apply q_len_nil; exact rfl; exact rfl)
    | (apply q_ld_map; exact rfl; exact rfl; exact rfl; (first | omega | (focus (simp; done))))
    | (apply q_ld_maps; exact rfl; exact rfl; exact rfl; (first | omega | (focus (simp; done))))
    | (apply q_ld_fpt; exact rfl; exact rfl; (first | assumption | exact rfl); exact rfl)
    | (apply q_fld_fptF; exact rfl; exact rfl; exact rfl)
    | (apply q_buildF; exact rfl; exact rfl; kernel_rfl)
    | (apply q_field; exact rfl; exact rfl; exact rfl; exact rfl)
    | (apply q_fieldsF; exact rfl; exact rfl; exact rfl; exact rfl)
    | (apply q_makeFunc)
    | (apply q_nil_opt; exact rfl)
    | (apply q_nil_fpt; exact rfl)
    | (apply q_nil_fn; exact rfl)
    | (apply q_index_str; exact rfl; exact rfl; exact rfl; exact rfl; omega)
    | (apply q_litF; exact rfl; exact rfl; exact rfl; exact rfl; exact rfl; kernel_rfl; kernel_rfl; exact rfl)
    | (apply q_remK; exact rfl; exact rfl; omega; omega)
    | (apply q_ix_slF; exact rfl; exact rfl; exact rfl; exact rfl; exact rfl; (first | omega | (focus (simp only [List.length_map]; omega)) | (focus (simp; done))))
    | (apply (q_ix_slF (j := Int.toNat _)); exact rfl; exact rfl; exact rfl; exact rfl; exact (Int.toNat_of_nonneg (by omega)).symm; (first | omega | (focus (simp only [List.length_map]; omega)) | (focus (simp; done))))
    | (apply q_min; exact rfl; exact rfl)
    | (apply q_max; exact rfl; exact rfl)
    | (apply (q_pickT (u := .d _)); exact rfl; exact rfl)
    | (apply (q_pickF (u := .d _)); exact rfl; exact rfl)
    | (apply q_convI; exact rfl; exact rfl; exact rfl; omega)
    | (apply q_ix_osl0; exact rfl; exact rfl; exact rfl; exact rfl; exact rfl; (first | omega | (focus (simp only [List.length_map]; omega))))
    | (apply (q_ix_osl0 (j := Int.toNat _)); exact rfl; exact rfl; exact rfl; exact rfl; (first | exact rfl | (exact (Int.toNat_of_nonneg (by omega)).symm)); (first | omega | (focus (simp only [List.length_map]; omega))))
    | (apply q_ix_oslm; exact rfl; exact rfl; exact rfl; exact rfl; exact rfl; (first | omega | (focus (simp only [List.length_map]; omega))))
    | (apply (q_ix_oslm (j := Int.toNat _)); exact rfl; exact rfl; exact rfl; exact rfl; exact (Int.toNat_of_nonneg (by omega)).symm; (first | omega | (focus (simp only [List.length_map]; omega))))
    | (apply q_ld_rptm; exact rfl; exact rfl; exact rfl; exact rfl; (first | omega | (focus (simp only [List.length_map]; omega)) | (focus (simp; omega)))))) | (apply W.ed; (first
    | (apply e_boxF; exact rfl; exact rfl; exact rfl; kernel_rfl; kernel_rfl)
    | (apply e_allocF; exact rfl; exact rfl; exact rfl; kernel_rfl)
    | (apply e_app1F; exact rfl; exact rfl; exact rfl; exact rfl; exact rfl; exact rfl; exact rfl; exact rfl; (first | omega | (focus (simp; omega)) | (focus (simp; done))))
    | (apply e_appF; exact rfl; exact rfl; exact rfl; exact rfl; exact rfl; exact rfl; exact rfl; exact rfl; (first | rfl | simp); (first | exact Nat.zero_lt_one | (focus (simp; done)) | omega); (first | (focus (simp; done)) | (focus (simp; omega)) | omega))
    | (apply e_makeF; exact rfl; exact rfl; (first | exact rfl | (exact (Int.toNat_of_nonneg (by omega)).symm)); exact rfl; exact rfl; exact rfl; exact rfl; exact rfl; exact rfl; omega))) | (apply W.en; (first
    | (apply e_st_boxF; exact rfl; exact rfl; exact rfl; exact rfl; exact rfl; exact rfl; kernel_rfl; kernel_rfl; kernel_rfl)
    | (apply e_st_rptm; exact rfl; exact rfl; exact rfl; exact rfl; exact rfl; exact rfl; exact rfl; exact fun _ => rfl; (first | omega | (focus (simp only [List.length_map]; omega)) | (focus (simp; omega)))))) | (refine W.gOff _ _ rfl rfl (by intro h; cases h) ?_)) | (first
    | (apply AWP.seq)
    | (apply ACont_normal)
    | (apply W.region; kernel_rfl)
    | (apply W.regionD; exact rfl; kernel_rfl)
    | (apply Walk.nil)
    | (apply W.chk; kernel_rfl)
    | (apply AWP.block)
    | (apply AWP.skip)
    | (apply AWP.exit)
    | (apply AWP.ret)
    | (apply ACont_exit)
    | (apply ACont_ret)
    | (apply ABlock_normal)
    | (apply ABlock_exit)
    | (apply ABlock_ret)
    | (apply ABlock_exit'; exact rfl)
    | (apply W.condT; exact rfl)
    | (apply W.condF; exact rfl)) | refine W.gT _ _ rfl rfl (fun hb => ?_) (fun hb => ?_) <;> ((try simp only [hb, Bool.not_true, Bool.not_false]) <;> (try simp only [decide_eq_true_eq, decide_eq_false_iff_not, Bool.not_eq_true', Bool.not_eq_false', Int.not_lt, Int.not_le, List.length_map] at hb) <;> (try (exfalso; omega))) | refine W.gF _ _ rfl rfl (fun hb => ?_) (fun hb => ?_) <;> ((try simp only [hb, Bool.not_true, Bool.not_false]) <;> (try simp only [decide_eq_true_eq, decide_eq_false_iff_not, Bool.not_eq_true', Bool.not_eq_false', Int.not_lt, Int.not_le, List.length_map] at hb) <;> (try (exfalso; omega))) | refine W.cond _ rfl (fun hb => ?_) (fun hb => ?_) <;> ((try simp only [hb, Bool.not_true, Bool.not_false]) <;> (try simp only [decide_eq_true_eq, decide_eq_false_iff_not, Bool.not_eq_true', Bool.not_eq_false', Int.not_lt, Int.not_le, List.length_map] at hb) <;> (try (exfalso; omega)))))
    rw [hX]
    (repeat' (first | (first | (apply W.gOn; exact rfl; exact rfl) | (apply W.qd; (first
    | (apply (q_callC (hcr)); exact rfl; exact rfl; kernel_rfl; kernel_rfl; kernel_rfl)
    | (apply q_mv; (first
    | exact Eq.refl (AV.d _)
    | exact Eq.refl (AV.osl _ _ _ _)
    | exact Eq.refl (AV.opt _ _)
    | exact Eq.refl (AV.agg _)
    | exact Eq.refl (AV.fpt _ _ _ _)
    | exact Eq.refl (AV.rpt _ _ _ _)
    | exact Eq.refl (AV.fn _ _)
    | exact Eq.refl (AV.tup _)
    | exact Eq.refl AV.top))
    | (apply q_as; (first
    | exact Eq.refl (AV.d _)
    | exact Eq.refl (AV.osl _ _ _ _)
    | exact Eq.refl (AV.opt _ _)
    | exact Eq.refl (AV.agg _)
    | exact Eq.refl (AV.fpt _ _ _ _)
    | exact Eq.refl (AV.rpt _ _ _ _)
    | exact Eq.refl (AV.fn _ _)
    | exact Eq.refl (AV.tup _)
    | exact Eq.refl AV.top))
    | (apply q_fld_optF; exact rfl; exact rfl; exact rfl)
    | (apply q_ld_box; exact rfl; exact rfl; exact rfl; exact rfl)
    | (apply q_ld_boxF; exact rfl; exact rfl; exact rfl; exact rfl)
    | (apply q_lss; exact rfl; exact rfl)
    | (apply q_leq; exact rfl; exact rfl)
    | (apply q_gtr; exact rfl; exact rfl)
    | (apply q_geq; exact rfl; exact rfl)
    | (apply q_eql; exact rfl; exact rfl)
    | (apply q_neq; exact rfl; exact rfl)
    | (apply q_not; exact rfl)
    | (apply q_add; exact rfl; exact rfl; omega)
    | (apply q_sub; exact rfl; exact rfl; omega)
    | (apply q_mul; exact rfl; exact rfl; (first | omega | assumption))
    | (apply q_quo; exact rfl; exact rfl; omega; omega; omega)
    | (apply q_rem; exact rfl; exact rfl; omega; omega)
    | (apply q_neg; exact rfl; omega)
    | (apply q_extract; exact rfl; exact rfl)
    | (apply q_len_sl; exact rfl; exact rfl)
    | (apply q_len_str; exact rfl; exact rfl)
    | (apply q_len_osl; exact rfl; exact rfl; exact rfl)
    | (apply q_len_nil; exact rfl; exact rfl)
    | (apply q_ld_map; exact rfl; exact rfl; exact rfl; (first | omega | (focus (simp; done))))
    | (apply q_ld_maps; exact rfl; exact rfl; exact rfl; (first | omega | (focus (simp; done))))
    | (apply q_ld_fpt; exact rfl; exact rfl; (first | assumption | exact rfl); exact rfl)
    | (apply q_fld_fptF; exact rfl; exact rfl; exact rfl)
    | (apply q_buildF; exact rfl; exact rfl; kernel_rfl)
    | (apply q_field; exact rfl; exact rfl; exact rfl; exact rfl)
    | (apply q_fieldsF; exact rfl; exact rfl; exact rfl; exact rfl)
    | (apply q_makeFunc)
    | (apply q_nil_opt; exact rfl)
    | (apply q_nil_fpt; exact rfl)
    | (apply q_nil_fn; exact rfl)
    | (apply q_index_str; exact rfl; exact rfl; exact rfl; exact rfl; omega)
    | (apply q_litF; exact rfl; exact rfl; exact rfl; exact rfl; exact rfl; kernel_rfl; kernel_rfl; exact rfl)
    | (apply q_remK; exact rfl; exact rfl; omega; omega)
    | (apply q_ix_slF; exact rfl; exact rfl; exact rfl; exact rfl; exact rfl; (first | omega | (focus (simp only [List.length_map]; omega)) | (focus (simp; done))))
    | (apply (q_ix_slF (j := Int.toNat _)); exact rfl; exact rfl; exact rfl; exact rfl; exact (Int.toNat_of_nonneg (by omega)).symm; (first | omega | (focus (simp only [List.length_map]; omega)) | (focus (simp; done))))
    | (apply q_min; exact rfl; exact rfl)
    | (apply q_max; exact rfl; exact rfl)
    | (apply (q_pickT (u := .d _)); exact rfl; exact rfl)
    | (apply (q_pickF (u := .d _)); exact rfl; exact rfl)
    | (apply q_convI; exact rfl; exact rfl; exact rfl; omega)
    | (apply q_ix_osl0; exact rfl; exact rfl; exact rfl; exact rfl; exact rfl; (first | omega | (focus (simp only [List.length_map]; omega))))
    | (apply (q_ix_osl0 (j := Int.toNat _)); exact rfl; exact rfl; exact rfl; exact rfl; (first | exact rfl | (exact (Int.toNat_of_nonneg (by omega)).symm)); (first | omega | (focus (simp only [List.length_map]; omega))))
    | (apply q_ix_oslm; exact rfl; exact rfl; exact rfl; exact rfl; exact rfl; (first | omega | (focus (simp only [List.length_map]; omega))))
    | (apply (q_ix_oslm (j := Int.toNat _)); exact rfl; exact rfl; exact rfl; exact rfl; exact (Int.toNat_of_nonneg (by omega)).symm; (first | omega | (focus (simp only [List.length_map]; omega))))
    | (apply q_ld_rptm; exact rfl; exact rfl; exact rfl; exact rfl; (first | omega | (focus (simp only [List.length_map]; omega)) | (focus (simp; omega)))))) | (apply W.ed; (first
    | (apply e_boxF; exact rfl; exact rfl; exact rfl; kernel_rfl; kernel_rfl)
    | (apply e_allocF; exact rfl; exact rfl; exact rfl; kernel_rfl)
    | (apply e_app1F; exact rfl; exact rfl; exact rfl; exact rfl; exact rfl; exact rfl; exact rfl; exact rfl; (first | omega | (focus (simp; omega)) | (focus (simp; done))))
    | (apply e_appF; exact rfl; exact rfl; exact rfl; exact rfl; exact rfl; exact rfl; exact rfl; exact rfl; (first | rfl | simp); (first | exact Nat.zero_lt_one | (focus (simp; done)) | omega); (first | (focus (simp; done)) | (focus (simp; omega)) | omega))
    | (apply e_makeF; exact rfl; exact rfl; (first | exact rfl | (exact (Int.toNat_of_nonneg (by omega)).symm)); exact rfl; exact rfl; exact rfl; exact rfl; exact rfl; exact rfl; omega))) | (apply W.en; (first
    | (apply e_st_boxF; exact rfl; exact rfl; exact rfl; exact rfl; exact rfl; exact rfl; kernel_rfl; kernel_rfl; kernel_rfl)
    | (apply e_st_rptm; exact rfl; exact rfl; exact rfl; exact rfl; exact rfl; exact rfl; exact rfl; exact fun _ => rfl; (first | omega | (focus (simp only [List.length_map]; omega)) | (focus (simp; omega)))))) | (refine W.gOff _ _ rfl rfl (by intro h; cases h) ?_)) | (first
    | (apply AWP.seq)
    | (apply ACont_normal)
    | (apply W.region; kernel_rfl)
    | (apply W.regionD; exact rfl; kernel_rfl)
    | (apply Walk.nil)
    | (apply W.chk; kernel_rfl)
    | (apply AWP.block)
    | (apply AWP.skip)
    | (apply AWP.exit)
    | (apply AWP.ret)
    | (apply ACont_exit)
    | (apply ACont_ret)
    | (apply ABlock_normal)
    | (apply ABlock_exit)
    | (apply ABlock_ret)
    | (apply ABlock_exit'; exact rfl)
    | (apply W.condT; exact rfl)
    | (apply W.condF; exact rfl)) | refine W.gT _ _ rfl rfl (fun hb => ?_) (fun hb => ?_) <;> ((try simp only [hb, Bool.not_true, Bool.not_false]) <;> (try simp only [decide_eq_true_eq, decide_eq_false_iff_not, Bool.not_eq_true', Bool.not_eq_false', Int.not_lt, Int.not_le, List.length_map] at hb) <;> (try (exfalso; omega))) | refine W.gF _ _ rfl rfl (fun hb => ?_) (fun hb => ?_) <;> ((try simp only [hb, Bool.not_true, Bool.not_false]) <;> (try simp only [decide_eq_true_eq, decide_eq_false_iff_not, Bool.not_eq_true', Bool.not_eq_false', Int.not_lt, Int.not_le, List.length_map] at hb) <;> (try (exfalso; omega))) | refine W.cond _ rfl (fun hb => ?_) (fun hb => ?_) <;> ((try simp only [hb, Bool.not_true, Bool.not_false]) <;> (try simp only [decide_eq_true_eq, decide_eq_false_iff_not, Bool.not_eq_true', Bool.not_eq_false', Int.not_lt, Int.not_le, List.length_map] at hb) <;> (try (exfalso; omega)))))
    refine AWP.loopW (α := Nat) (fun g => g ≤ 64) (fun g => ⟨[(10, iV g), (9, iV (((V + R - 1) / R : Nat) : Int)), (8, iV X), (1, iV V), (3, .opt 0 0), (7, bV true)], [.box [iV D, iV R, iV N, iV s, iV l, iV i]]⟩) (fun g => 64 - g) 0 (by omega) ⟨[0], rfl, rfl, rfl, by (repeat (first | exact trivial | refine ⟨rfl, ?_⟩))⟩ fun g hg => ?_
    by_cases hgg : (g : Int) < grpI D R N s l i V
    · have hpl := A_place D R N s l i X V g
      obtain ⟨f1, f2, f3, f4⟩ := plc_bd (by rw [e1, I_length, ord_length]; omega) (show (0 : Int) ≤ g by omega) hgg
      rw [e1, I_length, ord_length] at f2
      have e2 : plcI D R N s l i X V g = ((I (ord D R X)).drop (g * V)).take V := by
        unfold plcI
        rw [if_pos ⟨by omega, hgg⟩, e1]
        have : ((g : Int) * (V : Int)).toNat = g * V := by rw [← Int.natCast_mul, Int.toNat_natCast]
        rw [this]; simp
      have f2' : g * V + V ≤ D := by rw [← Int.natCast_mul] at f2; omega
      have hLlen : (plcI D R N s l i X V g).length = V := by rw [e2]; simp [I_length, ord_length]; omega
      have hLget : ∀ u (h : u < (plcI D R N s l i X V g).length), 0 ≤ (plcI D R N s l i X V g)[u] ∧ ((plcI D R N s l i X V g)[u] % (R : Int)).toNat = (X + g * V + u) % R := fun u h => by
        have h2 : g * V + u < (I (ord D R X)).length := by rw [I_length, ord_length]; omega
        have h3 : (plcI D R N s l i X V g)[u] = (((ord D R X).getD (g * V + u) 0 : Nat) : Int) := by
          rw [← I_getD, getD_lt _ _ _ h2]
          simp only [e2, List.getElem_take, List.getElem_drop]
        have h4 := ord_rackL D R X (g * V + u) (by omega) hR1 hRD (by omega)
        rw [h3]
        refine ⟨by omega, ?_⟩
        rw [← Int.natCast_emod, Int.toNat_natCast, h4, Nat.add_assoc]
      generalize plcI D R N s l i X V g = L at *
      (repeat' (first | (first | (apply W.gOn; exact rfl; exact rfl) | (apply W.qd; (first
    | (apply (q_callC (hgr)); exact rfl; exact rfl; kernel_rfl; kernel_rfl; kernel_rfl)
    | (apply (q_callC (hpl)); exact rfl; exact rfl; kernel_rfl; kernel_rfl; kernel_rfl)
    | (apply q_mv; (first
    | exact Eq.refl (AV.d _)
    | exact Eq.refl (AV.osl _ _ _ _)
    | exact Eq.refl (AV.opt _ _)
    | exact Eq.refl (AV.agg _)
    | exact Eq.refl (AV.fpt _ _ _ _)
    | exact Eq.refl (AV.rpt _ _ _ _)
    | exact Eq.refl (AV.fn _ _)
    | exact Eq.refl (AV.tup _)
    | exact Eq.refl AV.top))
    | (apply q_as; (first
    | exact Eq.refl (AV.d _)
    | exact Eq.refl (AV.osl _ _ _ _)
    | exact Eq.refl (AV.opt _ _)
    | exact Eq.refl (AV.agg _)
    | exact Eq.refl (AV.fpt _ _ _ _)
    | exact Eq.refl (AV.rpt _ _ _ _)
    | exact Eq.refl (AV.fn _ _)
    | exact Eq.refl (AV.tup _)
    | exact Eq.refl AV.top))
    | (apply q_fld_optF; exact rfl; exact rfl; exact rfl)
    | (apply q_ld_box; exact rfl; exact rfl; exact rfl; exact rfl)
    | (apply q_ld_boxF; exact rfl; exact rfl; exact rfl; exact rfl)
    | (apply q_lss; exact rfl; exact rfl)
    | (apply q_leq; exact rfl; exact rfl)
    | (apply q_gtr; exact rfl; exact rfl)
    | (apply q_geq; exact rfl; exact rfl)
    | (apply q_eql; exact rfl; exact rfl)
    | (apply q_neq; exact rfl; exact rfl)
    | (apply q_not; exact rfl)
    | (apply q_add; exact rfl; exact rfl; omega)
    | (apply q_sub; exact rfl; exact rfl; omega)
    | (apply q_mul; exact rfl; exact rfl; (first | omega | assumption))
    | (apply q_quo; exact rfl; exact rfl; omega; omega; omega)
    | (apply q_rem; exact rfl; exact rfl; omega; omega)
    | (apply q_neg; exact rfl; omega)
    | (apply q_extract; exact rfl; exact rfl)
    | (apply q_len_sl; exact rfl; exact rfl)
    | (apply q_len_str; exact rfl; exact rfl)
    | (apply q_len_osl; exact rfl; exact rfl; exact rfl)
    | (apply q_len_nil; exact rfl; exact rfl)
    | (apply q_ld_map; exact rfl; exact rfl; exact rfl; (first | omega | (focus (simp; done))))
    | (apply q_ld_maps; exact rfl; exact rfl; exact rfl; (first | omega | (focus (simp; done))))
    | (apply q_ld_fpt; exact rfl; exact rfl; (first | assumption | exact rfl); exact rfl)
    | (apply q_fld_fptF; exact rfl; exact rfl; exact rfl)
    | (apply q_buildF; exact rfl; exact rfl; kernel_rfl)
    | (apply q_field; exact rfl; exact rfl; exact rfl; exact rfl)
    | (apply q_fieldsF; exact rfl; exact rfl; exact rfl; exact rfl)
    | (apply q_makeFunc)
    | (apply q_nil_opt; exact rfl)
    | (apply q_nil_fpt; exact rfl)
    | (apply q_nil_fn; exact rfl)
    | (apply q_index_str; exact rfl; exact rfl; exact rfl; exact rfl; omega)
    | (apply q_litF; exact rfl; exact rfl; exact rfl; exact rfl; exact rfl; kernel_rfl; kernel_rfl; exact rfl)
    | (apply q_remK; exact rfl; exact rfl; omega; omega)
    | (apply q_ix_slF; exact rfl; exact rfl; exact rfl; exact rfl; exact rfl; (first | omega | (focus (simp only [List.length_map]; omega)) | (focus (simp; done))))
    | (apply (q_ix_slF (j := Int.toNat _)); exact rfl; exact rfl; exact rfl; exact rfl; exact (Int.toNat_of_nonneg (by omega)).symm; (first | omega | (focus (simp only [List.length_map]; omega)) | (focus (simp; done))))
    | (apply q_min; exact rfl; exact rfl)
    | (apply q_max; exact rfl; exact rfl)
    | (apply (q_pickT (u := .d _)); exact rfl; exact rfl)
    | (apply (q_pickF (u := .d _)); exact rfl; exact rfl)
    | (apply q_convI; exact rfl; exact rfl; exact rfl; omega)
    | (apply q_ix_osl0; exact rfl; exact rfl; exact rfl; exact rfl; exact rfl; (first | omega | (focus (simp only [List.length_map]; omega))))
    | (apply (q_ix_osl0 (j := Int.toNat _)); exact rfl; exact rfl; exact rfl; exact rfl; (first | exact rfl | (exact (Int.toNat_of_nonneg (by omega)).symm)); (first | omega | (focus (simp only [List.length_map]; omega))))
    | (apply q_ix_oslm; exact rfl; exact rfl; exact rfl; exact rfl; exact rfl; (first | omega | (focus (simp only [List.length_map]; omega))))
    | (apply (q_ix_oslm (j := Int.toNat _)); exact rfl; exact rfl; exact rfl; exact rfl; exact (Int.toNat_of_nonneg (by omega)).symm; (first | omega | (focus (simp only [List.length_map]; omega))))
    | (apply q_ld_rptm; exact rfl; exact rfl; exact rfl; exact rfl; (first | omega | (focus (simp only [List.length_map]; omega)) | (focus (simp; omega)))))) | (apply W.ed; (first
    | (apply e_boxF; exact rfl; exact rfl; exact rfl; kernel_rfl; kernel_rfl)
    | (apply e_allocF; exact rfl; exact rfl; exact rfl; kernel_rfl)
    | (apply e_app1F; exact rfl; exact rfl; exact rfl; exact rfl; exact rfl; exact rfl; exact rfl; exact rfl; (first | omega | (focus (simp; omega)) | (focus (simp; done))))
    | (apply e_appF; exact rfl; exact rfl; exact rfl; exact rfl; exact rfl; exact rfl; exact rfl; exact rfl; (first | rfl | simp); (first | exact Nat.zero_lt_one | (focus (simp; done)) | omega); (first | (focus (simp; done)) | (focus (simp; omega)) | omega))
    | (apply e_makeF; exact rfl; exact rfl; (first | exact rfl | (exact (Int.toNat_of_nonneg (by omega)).symm)); exact rfl; exact rfl; exact rfl; exact rfl; exact rfl; exact rfl; omega))) | (apply W.en; (first
    | (apply e_st_boxF; exact rfl; exact rfl; exact rfl; exact rfl; exact rfl; exact rfl; kernel_rfl; kernel_rfl; kernel_rfl)
    | (apply e_st_rptm; exact rfl; exact rfl; exact rfl; exact rfl; exact rfl; exact rfl; exact rfl; exact fun _ => rfl; (first | omega | (focus (simp only [List.length_map]; omega)) | (focus (simp; omega)))))) | (refine W.gOff _ _ rfl rfl (by intro h; cases h) ?_)) | (first
    | (apply AWP.seq)
    | (apply ACont_normal)
    | (apply W.region; kernel_rfl)
    | (apply W.regionD; exact rfl; kernel_rfl)
    | (apply Walk.nil)
    | (apply W.chk; kernel_rfl)
    | (apply AWP.block)
    | (apply AWP.skip)
    | (apply AWP.exit)
    | (apply AWP.ret)
    | (apply ACont_exit)
    | (apply ACont_ret)
    | (apply ABlock_normal)
    | (apply ABlock_exit)
    | (apply ABlock_ret)
    | (apply ABlock_exit'; exact rfl)
    | (apply W.condT; exact rfl)
    | (apply W.condF; exact rfl)) | refine W.gT _ _ rfl rfl (fun hb => ?_) (fun hb => ?_) <;> ((try simp only [hb, Bool.not_true, Bool.not_false]) <;> (try simp only [decide_eq_true_eq, decide_eq_false_iff_not, Bool.not_eq_true', Bool.not_eq_false', Int.not_lt, Int.not_le, List.length_map] at hb) <;> (try (exfalso; omega))) | refine W.gF _ _ rfl rfl (fun hb => ?_) (fun hb => ?_) <;> ((try simp only [hb, Bool.not_true, Bool.not_false]) <;> (try simp only [decide_eq_true_eq, decide_eq_false_iff_not, Bool.not_eq_true', Bool.not_eq_false', Int.not_lt, Int.not_le, List.length_map] at hb) <;> (try (exfalso; omega))) | refine W.cond _ rfl (fun hb => ?_) (fun hb => ?_) <;> ((try simp only [hb, Bool.not_true, Bool.not_false]) <;> (try simp only [decide_eq_true_eq, decide_eq_false_iff_not, Bool.not_eq_true', Bool.not_eq_false', Int.not_lt, Int.not_le, List.length_map] at hb) <;> (try (exfalso; omega)))))
      refine AWP.loopW (α := Nat) (fun u => u ≤ V) (fun u => ⟨[(14, iV u), (13, iV (((u + R - 1) / R : Nat) : Int)), (12, .osl 1 0 0 R), (11, ints L), (10, iV g), (9, iV (((V + R - 1) / R : Nat) : Int)), (8, iV X), (1, iV V), (3, .opt 0 0), (7, bV true)], [.box [iV D, iV R, iV N, iV s, iV l, iV i], .row 0 1 3 ((cntL R (X + g * V) u).map iD)]⟩) (fun u => V - u) 0 (by omega) ?_ fun u hu => ?_
      · refine ⟨[0, 1], rfl, rfl, ?_, rfl, ?_, rfl, rfl, rfl, rfl, rfl, rfl, rfl, rfl, trivial⟩
        · rw [← cntL_zero R _ hR1]; simp only [List.map_replicate]; rfl
        · rw [Nat.zero_add, Nat.div_eq_of_lt (by omega)]; rfl
      by_cases huV : u < V
      · obtain ⟨k1, k2⟩ := hLget u (by omega)
        have k3 : 0 ≤ L[u]'(by omega) % (R : Int) ∧ L[u]'(by omega) % (R : Int) < R := ⟨Int.emod_nonneg _ (by omega), Int.emod_lt_of_pos _ (by omega)⟩
        have k4 := cntL_length R (X + g * V) u
        have k5 : ((cntL R (X + g * V) u)[(L[u]'(by omega) % (R : Int)).toNat]'(by omega)) = ((u / R : Nat) : Int) := by
          rw [cntL_get, k2, cN_at R _ u hR1 hR2]
        have k6 : u / R ≤ u := Nat.div_le_self _ _
        obtain ⟨m1, m2⟩ := most_succ R u hR1 hR2
        obtain ⟨Z, hZ⟩ : ∃ Z, Z = u / R := ⟨_, rfl⟩
        rw [← hZ] at k5 k6 m1 m2
        have k7 : 0 ≤ ((cntL R (X + g * V) u)[(L[u]'(by omega) % (R : Int)).toNat]'(by omega)) ∧ ((cntL R (X + g * V) u)[(L[u]'(by omega) % (R : Int)).toNat]'(by omega)) ≤ 64 := by rw [k5]; omega
        (repeat' (first | (first | (apply W.gOn; exact rfl; exact rfl) | (apply W.qd; (first
    | (apply q_mv; (first
    | exact Eq.refl (AV.d _)
    | exact Eq.refl (AV.osl _ _ _ _)
    | exact Eq.refl (AV.opt _ _)
    | exact Eq.refl (AV.agg _)
    | exact Eq.refl (AV.fpt _ _ _ _)
    | exact Eq.refl (AV.rpt _ _ _ _)
    | exact Eq.refl (AV.fn _ _)
    | exact Eq.refl (AV.tup _)
    | exact Eq.refl AV.top))
    | (apply q_as; (first
    | exact Eq.refl (AV.d _)
    | exact Eq.refl (AV.osl _ _ _ _)
    | exact Eq.refl (AV.opt _ _)
    | exact Eq.refl (AV.agg _)
    | exact Eq.refl (AV.fpt _ _ _ _)
    | exact Eq.refl (AV.rpt _ _ _ _)
    | exact Eq.refl (AV.fn _ _)
    | exact Eq.refl (AV.tup _)
    | exact Eq.refl AV.top))
    | (apply q_fld_optF; exact rfl; exact rfl; exact rfl)
    | (apply q_ld_box; exact rfl; exact rfl; exact rfl; exact rfl)
    | (apply q_ld_boxF; exact rfl; exact rfl; exact rfl; exact rfl)
    | (apply q_lss; exact rfl; exact rfl)
    | (apply q_leq; exact rfl; exact rfl)
    | (apply q_gtr; exact rfl; exact rfl)
    | (apply q_geq; exact rfl; exact rfl)
    | (apply q_eql; exact rfl; exact rfl)
    | (apply q_neq; exact rfl; exact rfl)
    | (apply q_not; exact rfl)
    | (apply q_add; exact rfl; exact rfl; omega)
    | (apply q_sub; exact rfl; exact rfl; omega)
    | (apply q_mul; exact rfl; exact rfl; (first | omega | assumption))
    | (apply q_quo; exact rfl; exact rfl; omega; omega; omega)
    | (apply q_rem; exact rfl; exact rfl; omega; omega)
    | (apply q_neg; exact rfl; omega)
    | (apply q_extract; exact rfl; exact rfl)
    | (apply q_len_sl; exact rfl; exact rfl)
    | (apply q_len_str; exact rfl; exact rfl)
    | (apply q_len_osl; exact rfl; exact rfl; exact rfl)
    | (apply q_len_nil; exact rfl; exact rfl)
    | (apply q_ld_map; exact rfl; exact rfl; exact rfl; (first | omega | (focus (simp; done))))
    | (apply q_ld_maps; exact rfl; exact rfl; exact rfl; (first | omega | (focus (simp; done))))
    | (apply q_ld_fpt; exact rfl; exact rfl; (first | assumption | exact rfl); exact rfl)
    | (apply q_fld_fptF; exact rfl; exact rfl; exact rfl)
    | (apply q_buildF; exact rfl; exact rfl; kernel_rfl)
    | (apply q_field; exact rfl; exact rfl; exact rfl; exact rfl)
    | (apply q_fieldsF; exact rfl; exact rfl; exact rfl; exact rfl)
    | (apply q_makeFunc)
    | (apply q_nil_opt; exact rfl)
    | (apply q_nil_fpt; exact rfl)
    | (apply q_nil_fn; exact rfl)
    | (apply q_index_str; exact rfl; exact rfl; exact rfl; exact rfl; omega)
    | (apply q_litF; exact rfl; exact rfl; exact rfl; exact rfl; exact rfl; kernel_rfl; kernel_rfl; exact rfl)
    | (apply q_remK; exact rfl; exact rfl; omega; omega)
    | (apply q_ix_slF; exact rfl; exact rfl; exact rfl; exact rfl; exact rfl; (first | omega | (focus (simp only [List.length_map]; omega)) | (focus (simp; done))))
    | (apply (q_ix_slF (j := Int.toNat _)); exact rfl; exact rfl; exact rfl; exact rfl; exact (Int.toNat_of_nonneg (by omega)).symm; (first | omega | (focus (simp only [List.length_map]; omega)) | (focus (simp; done))))
    | (apply q_min; exact rfl; exact rfl)
    | (apply q_max; exact rfl; exact rfl)
    | (apply (q_pickT (u := .d _)); exact rfl; exact rfl)
    | (apply (q_pickF (u := .d _)); exact rfl; exact rfl)
    | (apply q_convI; exact rfl; exact rfl; exact rfl; omega)
    | (apply q_ix_osl0; exact rfl; exact rfl; exact rfl; exact rfl; exact rfl; (first | omega | (focus (simp only [List.length_map]; omega))))
    | (apply (q_ix_osl0 (j := Int.toNat _)); exact rfl; exact rfl; exact rfl; exact rfl; (first | exact rfl | (exact (Int.toNat_of_nonneg (by omega)).symm)); (first | omega | (focus (simp only [List.length_map]; omega))))
    | (apply q_ix_oslm; exact rfl; exact rfl; exact rfl; exact rfl; exact rfl; (first | omega | (focus (simp only [List.length_map]; omega))))
    | (apply (q_ix_oslm (j := Int.toNat _)); exact rfl; exact rfl; exact rfl; exact rfl; exact (Int.toNat_of_nonneg (by omega)).symm; (first | omega | (focus (simp only [List.length_map]; omega))))
    | (apply q_ld_rptm; exact rfl; exact rfl; exact rfl; exact rfl; (first | omega | (focus (simp only [List.length_map]; omega)) | (focus (simp; omega)))))) | (apply W.ed; (first
    | (apply e_boxF; exact rfl; exact rfl; exact rfl; kernel_rfl; kernel_rfl)
    | (apply e_allocF; exact rfl; exact rfl; exact rfl; kernel_rfl)
    | (apply e_app1F; exact rfl; exact rfl; exact rfl; exact rfl; exact rfl; exact rfl; exact rfl; exact rfl; (first | omega | (focus (simp; omega)) | (focus (simp; done))))
    | (apply e_appF; exact rfl; exact rfl; exact rfl; exact rfl; exact rfl; exact rfl; exact rfl; exact rfl; (first | rfl | simp); (first | exact Nat.zero_lt_one | (focus (simp; done)) | omega); (first | (focus (simp; done)) | (focus (simp; omega)) | omega))
    | (apply e_makeF; exact rfl; exact rfl; (first | exact rfl | (exact (Int.toNat_of_nonneg (by omega)).symm)); exact rfl; exact rfl; exact rfl; exact rfl; exact rfl; exact rfl; omega))) | (apply W.en; (first
    | (apply e_st_boxF; exact rfl; exact rfl; exact rfl; exact rfl; exact rfl; exact rfl; kernel_rfl; kernel_rfl; kernel_rfl)
    | (apply e_st_rptm; exact rfl; exact rfl; exact rfl; exact rfl; exact rfl; exact rfl; exact rfl; exact fun _ => rfl; (first | omega | (focus (simp only [List.length_map]; omega)) | (focus (simp; omega)))))) | (refine W.gOff _ _ rfl rfl (by intro h; cases h) ?_)) | (first
    | (apply AWP.seq)
    | (apply ACont_normal)
    | (apply W.region; kernel_rfl)
    | (apply W.regionD; exact rfl; kernel_rfl)
    | (apply Walk.nil)
    | (apply W.chk; kernel_rfl)
    | (apply AWP.block)
    | (apply AWP.skip)
    | (apply AWP.exit)
    | (apply AWP.ret)
    | (apply ACont_exit)
    | (apply ACont_ret)
    | (apply ABlock_normal)
    | (apply ABlock_exit)
    | (apply ABlock_ret)
    | (apply ABlock_exit'; exact rfl)
    | (apply W.condT; exact rfl)
    | (apply W.condF; exact rfl)) | refine W.gT _ _ rfl rfl (fun hb => ?_) (fun hb => ?_) <;> ((try simp only [hb, Bool.not_true, Bool.not_false]) <;> (try simp only [decide_eq_true_eq, decide_eq_false_iff_not, Bool.not_eq_true', Bool.not_eq_false', Int.not_lt, Int.not_le, List.length_map] at hb) <;> (try (exfalso; omega))) | refine W.gF _ _ rfl rfl (fun hb => ?_) (fun hb => ?_) <;> ((try simp only [hb, Bool.not_true, Bool.not_false]) <;> (try simp only [decide_eq_true_eq, decide_eq_false_iff_not, Bool.not_eq_true', Bool.not_eq_false', Int.not_lt, Int.not_le, List.length_map] at hb) <;> (try (exfalso; omega))) | refine W.cond _ rfl (fun hb => ?_) (fun hb => ?_) <;> ((try simp only [hb, Bool.not_true, Bool.not_false]) <;> (try simp only [decide_eq_true_eq, decide_eq_false_iff_not, Bool.not_eq_true', Bool.not_eq_false', Int.not_lt, Int.not_le, List.length_map] at hb) <;> (try (exfalso; omega)))))
        refine ⟨u + 1, by omega, by omega, [0, 1], rfl, rfl, ?_, rfl, ?_, rfl, rfl, rfl, rfl, rfl, rfl, rfl, rfl, trivial⟩
        · rw [← cntL_set R (X + g * V) u _ hR1 hR2 k2 ((Z : Int) + 1) (by rw [k2, cN_at R _ u hR1 hR2, hZ])]
          simp only [k5]
          rfl
        · simp only [m1, List.getElem_set_self, k5]
          show iV _ = iV _
          congr 3
          split <;> omega
      · obtain rfl : u = V := by omega
        (repeat' (first | (first | (apply W.gOn; exact rfl; exact rfl) | (apply W.qd; (first
    | (apply q_mv; (first
    | exact Eq.refl (AV.d _)
    | exact Eq.refl (AV.osl _ _ _ _)
    | exact Eq.refl (AV.opt _ _)
    | exact Eq.refl (AV.agg _)
    | exact Eq.refl (AV.fpt _ _ _ _)
    | exact Eq.refl (AV.rpt _ _ _ _)
    | exact Eq.refl (AV.fn _ _)
    | exact Eq.refl (AV.tup _)
    | exact Eq.refl AV.top))
    | (apply q_as; (first
    | exact Eq.refl (AV.d _)
    | exact Eq.refl (AV.osl _ _ _ _)
    | exact Eq.refl (AV.opt _ _)
    | exact Eq.refl (AV.agg _)
    | exact Eq.refl (AV.fpt _ _ _ _)
    | exact Eq.refl (AV.rpt _ _ _ _)
    | exact Eq.refl (AV.fn _ _)
    | exact Eq.refl (AV.tup _)
    | exact Eq.refl AV.top))
    | (apply q_fld_optF; exact rfl; exact rfl; exact rfl)
    | (apply q_ld_box; exact rfl; exact rfl; exact rfl; exact rfl)
    | (apply q_ld_boxF; exact rfl; exact rfl; exact rfl; exact rfl)
    | (apply q_lss; exact rfl; exact rfl)
    | (apply q_leq; exact rfl; exact rfl)
    | (apply q_gtr; exact rfl; exact rfl)
    | (apply q_geq; exact rfl; exact rfl)
    | (apply q_eql; exact rfl; exact rfl)
    | (apply q_neq; exact rfl; exact rfl)
    | (apply q_not; exact rfl)
    | (apply q_add; exact rfl; exact rfl; omega)
    | (apply q_sub; exact rfl; exact rfl; omega)
    | (apply q_mul; exact rfl; exact rfl; (first | omega | assumption))
    | (apply q_quo; exact rfl; exact rfl; omega; omega; omega)
    | (apply q_rem; exact rfl; exact rfl; omega; omega)
    | (apply q_neg; exact rfl; omega)
    | (apply q_extract; exact rfl; exact rfl)
    | (apply q_len_sl; exact rfl; exact rfl)
    | (apply q_len_str; exact rfl; exact rfl)
    | (apply q_len_osl; exact rfl; exact rfl; exact rfl)
    | (apply q_len_nil; exact rfl; exact rfl)
    | (apply q_ld_map; exact rfl; exact rfl; exact rfl; (first | omega | (focus (simp; done))))
    | (apply q_ld_maps; exact rfl; exact rfl; exact rfl; (first | omega | (focus (simp; done))))
    | (apply q_ld_fpt; exact rfl; exact rfl; (first | assumption | exact rfl); exact rfl)
    | (apply q_fld_fptF; exact rfl; exact rfl; exact rfl)
    | (apply q_buildF; exact rfl; exact rfl; kernel_rfl)
    | (apply q_field; exact rfl; exact rfl; exact rfl; exact rfl)
    | (apply q_fieldsF; exact rfl; exact rfl; exact rfl; exact rfl)
    | (apply q_makeFunc)
    | (apply q_nil_opt; exact rfl)
    | (apply q_nil_fpt; exact rfl)
    | (apply q_nil_fn; exact rfl)
    | (apply q_index_str; exact rfl; exact rfl; exact rfl; exact rfl; omega)
    | (apply q_litF; exact rfl; exact rfl; exact rfl; exact rfl; exact rfl; kernel_rfl; kernel_rfl; exact rfl)
    | (apply q_remK; exact rfl; exact rfl; omega; omega)
    | (apply q_ix_slF; exact rfl; exact rfl; exact rfl; exact rfl; exact rfl; (first | omega | (focus (simp only [List.length_map]; omega)) | (focus (simp; done))))
    | (apply (q_ix_slF (j := Int.toNat _)); exact rfl; exact rfl; exact rfl; exact rfl; exact (Int.toNat_of_nonneg (by omega)).symm; (first | omega | (focus (simp only [List.length_map]; omega)) | (focus (simp; done))))
    | (apply q_min; exact rfl; exact rfl)
    | (apply q_max; exact rfl; exact rfl)
    | (apply (q_pickT (u := .d _)); exact rfl; exact rfl)
    | (apply (q_pickF (u := .d _)); exact rfl; exact rfl)
    | (apply q_convI; exact rfl; exact rfl; exact rfl; omega)
    | (apply q_ix_osl0; exact rfl; exact rfl; exact rfl; exact rfl; exact rfl; (first | omega | (focus (simp only [List.length_map]; omega))))
    | (apply (q_ix_osl0 (j := Int.toNat _)); exact rfl; exact rfl; exact rfl; exact rfl; (first | exact rfl | (exact (Int.toNat_of_nonneg (by omega)).symm)); (first | omega | (focus (simp only [List.length_map]; omega))))
    | (apply q_ix_oslm; exact rfl; exact rfl; exact rfl; exact rfl; exact rfl; (first | omega | (focus (simp only [List.length_map]; omega))))
    | (apply (q_ix_oslm (j := Int.toNat _)); exact rfl; exact rfl; exact rfl; exact rfl; exact (Int.toNat_of_nonneg (by omega)).symm; (first | omega | (focus (simp only [List.length_map]; omega))))
    | (apply q_ld_rptm; exact rfl; exact rfl; exact rfl; exact rfl; (first | omega | (focus (simp only [List.length_map]; omega)) | (focus (simp; omega)))))) | (apply W.ed; (first
    | (apply e_boxF; exact rfl; exact rfl; exact rfl; kernel_rfl; kernel_rfl)
    | (apply e_allocF; exact rfl; exact rfl; exact rfl; kernel_rfl)
    | (apply e_app1F; exact rfl; exact rfl; exact rfl; exact rfl; exact rfl; exact rfl; exact rfl; exact rfl; (first | omega | (focus (simp; omega)) | (focus (simp; done))))
    | (apply e_appF; exact rfl; exact rfl; exact rfl; exact rfl; exact rfl; exact rfl; exact rfl; exact rfl; (first | rfl | simp); (first | exact Nat.zero_lt_one | (focus (simp; done)) | omega); (first | (focus (simp; done)) | (focus (simp; omega)) | omega))
    | (apply e_makeF; exact rfl; exact rfl; (first | exact rfl | (exact (Int.toNat_of_nonneg (by omega)).symm)); exact rfl; exact rfl; exact rfl; exact rfl; exact rfl; exact rfl; omega))) | (apply W.en; (first
    | (apply e_st_boxF; exact rfl; exact rfl; exact rfl; exact rfl; exact rfl; exact rfl; kernel_rfl; kernel_rfl; kernel_rfl)
    | (apply e_st_rptm; exact rfl; exact rfl; exact rfl; exact rfl; exact rfl; exact rfl; exact rfl; exact fun _ => rfl; (first | omega | (focus (simp only [List.length_map]; omega)) | (focus (simp; omega)))))) | (refine W.gOff _ _ rfl rfl (by intro h; cases h) ?_)) | (first
    | (apply AWP.seq)
    | (apply ACont_normal)
    | (apply W.region; kernel_rfl)
    | (apply W.regionD; exact rfl; kernel_rfl)
    | (apply Walk.nil)
    | (apply W.chk; kernel_rfl)
    | (apply AWP.block)
    | (apply AWP.skip)
    | (apply AWP.exit)
    | (apply AWP.ret)
    | (apply ACont_exit)
    | (apply ACont_ret)
    | (apply ABlock_normal)
    | (apply ABlock_exit)
    | (apply ABlock_ret)
    | (apply ABlock_exit'; exact rfl)
    | (apply W.condT; exact rfl)
    | (apply W.condF; exact rfl)) | refine W.gT _ _ rfl rfl (fun hb => ?_) (fun hb => ?_) <;> ((try simp only [hb, Bool.not_true, Bool.not_false]) <;> (try simp only [decide_eq_true_eq, decide_eq_false_iff_not, Bool.not_eq_true', Bool.not_eq_false', Int.not_lt, Int.not_le, List.length_map] at hb) <;> (try (exfalso; omega))) | refine W.gF _ _ rfl rfl (fun hb => ?_) (fun hb => ?_) <;> ((try simp only [hb, Bool.not_true, Bool.not_false]) <;> (try simp only [decide_eq_true_eq, decide_eq_false_iff_not, Bool.not_eq_true', Bool.not_eq_false', Int.not_lt, Int.not_le, List.length_map] at hb) <;> (try (exfalso; omega))) | refine W.cond _ rfl (fun hb => ?_) (fun hb => ?_) <;> ((try simp only [hb, Bool.not_true, Bool.not_false]) <;> (try simp only [decide_eq_true_eq, decide_eq_false_iff_not, Bool.not_eq_true', Bool.not_eq_false', Int.not_lt, Int.not_le, List.length_map] at hb) <;> (try (exfalso; omega)))))
        all_goals first
          | (exfalso; simp_all; done)
          | exact ⟨g + 1, by omega, by omega, ⟨[0], rfl, rfl, rfl, by (repeat (first | exact trivial | refine ⟨rfl, ?_⟩))⟩⟩
    · (repeat' (first | (first | (apply W.gOn; exact rfl; exact rfl) | (apply W.qd; (first
    | (apply (q_callC (hgr)); exact rfl; exact rfl; kernel_rfl; kernel_rfl; kernel_rfl)
    | (apply q_mv; (first
    | exact Eq.refl (AV.d _)
    | exact Eq.refl (AV.osl _ _ _ _)
    | exact Eq.refl (AV.opt _ _)
    | exact Eq.refl (AV.agg _)
    | exact Eq.refl (AV.fpt _ _ _ _)
    | exact Eq.refl (AV.rpt _ _ _ _)
    | exact Eq.refl (AV.fn _ _)
    | exact Eq.refl (AV.tup _)
    | exact Eq.refl AV.top))
    | (apply q_as; (first
    | exact Eq.refl (AV.d _)
    | exact Eq.refl (AV.osl _ _ _ _)
    | exact Eq.refl (AV.opt _ _)
    | exact Eq.refl (AV.agg _)
    | exact Eq.refl (AV.fpt _ _ _ _)
    | exact Eq.refl (AV.rpt _ _ _ _)
    | exact Eq.refl (AV.fn _ _)
    | exact Eq.refl (AV.tup _)
    | exact Eq.refl AV.top))
    | (apply q_fld_optF; exact rfl; exact rfl; exact rfl)
    | (apply q_ld_box; exact rfl; exact rfl; exact rfl; exact rfl)
    | (apply q_ld_boxF; exact rfl; exact rfl; exact rfl; exact rfl)
    | (apply q_lss; exact rfl; exact rfl)
    | (apply q_leq; exact rfl; exact rfl)
    | (apply q_gtr; exact rfl; exact rfl)
    | (apply q_geq; exact rfl; exact rfl)
    | (apply q_eql; exact rfl; exact rfl)
    | (apply q_neq; exact rfl; exact rfl)
    | (apply q_not; exact rfl)
    | (apply q_add; exact rfl; exact rfl; omega)
    | (apply q_sub; exact rfl; exact rfl; omega)
    | (apply q_mul; exact rfl; exact rfl; (first | omega | assumption))
    | (apply q_quo; exact rfl; exact rfl; omega; omega; omega)
    | (apply q_rem; exact rfl; exact rfl; omega; omega)
    | (apply q_neg; exact rfl; omega)
    | (apply q_extract; exact rfl; exact rfl)
    | (apply q_len_sl; exact rfl; exact rfl)
    | (apply q_len_str; exact rfl; exact rfl)
    | (apply q_len_osl; exact rfl; exact rfl; exact rfl)
    | (apply q_len_nil; exact rfl; exact rfl)
    | (apply q_ld_map; exact rfl; exact rfl; exact rfl; (first | omega | (focus (simp; done))))
    | (apply q_ld_maps; exact rfl; exact rfl; exact rfl; (first | omega | (focus (simp; done))))
    | (apply q_ld_fpt; exact rfl; exact rfl; (first | assumption | exact rfl); exact rfl)
    | (apply q_fld_fptF; exact rfl; exact rfl; exact rfl)
    | (apply q_buildF; exact rfl; exact rfl; kernel_rfl)
    | (apply q_field; exact rfl; exact rfl; exact rfl; exact rfl)
    | (apply q_fieldsF; exact rfl; exact rfl; exact rfl; exact rfl)
    | (apply q_makeFunc)
    | (apply q_nil_opt; exact rfl)
    | (apply q_nil_fpt; exact rfl)
    | (apply q_nil_fn; exact rfl)
    | (apply q_index_str; exact rfl; exact rfl; exact rfl; exact rfl; omega)
    | (apply q_litF; exact rfl; exact rfl; exact rfl; exact rfl; exact rfl; kernel_rfl; kernel_rfl; exact rfl)
    | (apply q_remK; exact rfl; exact rfl; omega; omega)
    | (apply q_ix_slF; exact rfl; exact rfl; exact rfl; exact rfl; exact rfl; (first | omega | (focus (simp only [List.length_map]; omega)) | (focus (simp; done))))
    | (apply (q_ix_slF (j := Int.toNat _)); exact rfl; exact rfl; exact rfl; exact rfl; exact (Int.toNat_of_nonneg (by omega)).symm; (first | omega | (focus (simp only [List.length_map]; omega)) | (focus (simp; done))))
    | (apply q_min; exact rfl; exact rfl)
    | (apply q_max; exact rfl; exact rfl)
    | (apply (q_pickT (u := .d _)); exact rfl; exact rfl)
    | (apply (q_pickF (u := .d _)); exact rfl; exact rfl)
    | (apply q_convI; exact rfl; exact rfl; exact rfl; omega)
    | (apply q_ix_osl0; exact rfl; exact rfl; exact rfl; exact rfl; exact rfl; (first | omega | (focus (simp only [List.length_map]; omega))))
    | (apply (q_ix_osl0 (j := Int.toNat _)); exact rfl; exact rfl; exact rfl; exact rfl; (first | exact rfl | (exact (Int.toNat_of_nonneg (by omega)).symm)); (first | omega | (focus (simp only [List.length_map]; omega))))
    | (apply q_ix_oslm; exact rfl; exact rfl; exact rfl; exact rfl; exact rfl; (first | omega | (focus (simp only [List.length_map]; omega))))
    | (apply (q_ix_oslm (j := Int.toNat _)); exact rfl; exact rfl; exact rfl; exact rfl; exact (Int.toNat_of_nonneg (by omega)).symm; (first | omega | (focus (simp only [List.length_map]; omega))))
    | (apply q_ld_rptm; exact rfl; exact rfl; exact rfl; exact rfl; (first | omega | (focus (simp only [List.length_map]; omega)) | (focus (simp; omega)))))) | (apply W.ed; (first
    | (apply e_boxF; exact rfl; exact rfl; exact rfl; kernel_rfl; kernel_rfl)
    | (apply e_allocF; exact rfl; exact rfl; exact rfl; kernel_rfl)
    | (apply e_app1F; exact rfl; exact rfl; exact rfl; exact rfl; exact rfl; exact rfl; exact rfl; exact rfl; (first | omega | (focus (simp; omega)) | (focus (simp; done))))
    | (apply e_appF; exact rfl; exact rfl; exact rfl; exact rfl; exact rfl; exact rfl; exact rfl; exact rfl; (first | rfl | simp); (first | exact Nat.zero_lt_one | (focus (simp; done)) | omega); (first | (focus (simp; done)) | (focus (simp; omega)) | omega))
    | (apply e_makeF; exact rfl; exact rfl; (first | exact rfl | (exact (Int.toNat_of_nonneg (by omega)).symm)); exact rfl; exact rfl; exact rfl; exact rfl; exact rfl; exact rfl; omega))) | (apply W.en; (first
    | (apply e_st_boxF; exact rfl; exact rfl; exact rfl; exact rfl; exact rfl; exact rfl; kernel_rfl; kernel_rfl; kernel_rfl)
    | (apply e_st_rptm; exact rfl; exact rfl; exact rfl; exact rfl; exact rfl; exact rfl; exact rfl; exact fun _ => rfl; (first | omega | (focus (simp only [List.length_map]; omega)) | (focus (simp; omega)))))) | (refine W.gOff _ _ rfl rfl (by intro h; cases h) ?_)) | (first
    | (apply AWP.seq)
    | (apply ACont_normal)
    | (apply W.region; kernel_rfl)
    | (apply W.regionD; exact rfl; kernel_rfl)
    | (apply Walk.nil)
    | (apply W.chk; kernel_rfl)
    | (apply AWP.block)
    | (apply AWP.skip)
    | (apply AWP.exit)
    | (apply AWP.ret)
    | (apply ACont_exit)
    | (apply ACont_ret)
    | (apply ABlock_normal)
    | (apply ABlock_exit)
    | (apply ABlock_ret)
    | (apply ABlock_exit'; exact rfl)
    | (apply W.condT; exact rfl)
    | (apply W.condF; exact rfl)) | refine W.gT _ _ rfl rfl (fun hb => ?_) (fun hb => ?_) <;> ((try simp only [hb, Bool.not_true, Bool.not_false]) <;> (try simp only [decide_eq_true_eq, decide_eq_false_iff_not, Bool.not_eq_true', Bool.not_eq_false', Int.not_lt, Int.not_le, List.length_map] at hb) <;> (try (exfalso; omega))) | refine W.gF _ _ rfl rfl (fun hb => ?_) (fun hb => ?_) <;> ((try simp only [hb, Bool.not_true, Bool.not_false]) <;> (try simp only [decide_eq_true_eq, decide_eq_false_iff_not, Bool.not_eq_true', Bool.not_eq_false', Int.not_lt, Int.not_le, List.length_map] at hb) <;> (try (exfalso; omega))) | refine W.cond _ rfl (fun hb => ?_) (fun hb => ?_) <;> ((try simp only [hb, Bool.not_true, Bool.not_false]) <;> (try simp only [decide_eq_true_eq, decide_eq_false_iff_not, Bool.not_eq_true', Bool.not_eq_false', Int.not_lt, Int.not_le, List.length_map] at hb) <;> (try (exfalso; omega)))))
      exact Ends.b rfl rfl
  · rw [decide_eq_false hp] at hpr
    (repeat' (first | (first | (apply W.gOn; exact rfl; exact rfl) | (apply W.qd; (first
    | (apply (q_callC (hsan)); exact rfl; exact rfl; kernel_rfl; kernel_rfl; kernel_rfl)
    | (apply (q_callC (hpr)); exact rfl; exact rfl; kernel_rfl; kernel_rfl; kernel_rfl)
    | (apply q_mv; (first
    | exact Eq.refl (AV.d _)
    | exact Eq.refl (AV.osl _ _ _ _)
    | exact Eq.refl (AV.opt _ _)
    | exact Eq.refl (AV.agg _)
    | exact Eq.refl (AV.fpt _ _ _ _)
    | exact Eq.refl (AV.rpt _ _ _ _)
    | exact Eq.refl (AV.fn _ _)
    | exact Eq.refl (AV.tup _)
    | exact Eq.refl AV.top))
    | (apply q_as; (first
    | exact Eq.refl (AV.d _)
    | exact Eq.refl (AV.osl _ _ _ _)
    | exact Eq.refl (AV.opt _ _)
    | exact Eq.refl (AV.agg _)
    | exact Eq.refl (AV.fpt _ _ _ _)
    | exact Eq.refl (AV.rpt _ _ _ _)
    | exact Eq.refl (AV.fn _ _)
    | exact Eq.refl (AV.tup _)
    | exact Eq.refl AV.top))
    | (apply q_fld_optF; exact rfl; exact rfl; exact rfl)
    | (apply q_ld_box; exact rfl; exact rfl; exact rfl; exact rfl)
    | (apply q_ld_boxF; exact rfl; exact rfl; exact rfl; exact rfl)
    | (apply q_lss; exact rfl; exact rfl)
    | (apply q_leq; exact rfl; exact rfl)
    | (apply q_gtr; exact rfl; exact rfl)
    | (apply q_geq; exact rfl; exact rfl)
    | (apply q_eql; exact rfl; exact rfl)
    | (apply q_neq; exact rfl; exact rfl)
    | (apply q_not; exact rfl)
    | (apply q_add; exact rfl; exact rfl; omega)
    | (apply q_sub; exact rfl; exact rfl; omega)
    | (apply q_mul; exact rfl; exact rfl; (first | omega | assumption))
    | (apply q_quo; exact rfl; exact rfl; omega; omega; omega)
    | (apply q_rem; exact rfl; exact rfl; omega; omega)
    | (apply q_neg; exact rfl; omega)
    | (apply q_extract; exact rfl; exact rfl)
    | (apply q_len_sl; exact rfl; exact rfl)
    | (apply q_len_str; exact rfl; exact rfl)
    | (apply q_len_osl; exact rfl; exact rfl; exact rfl)
    | (apply q_len_nil; exact rfl; exact rfl)
    | (apply q_ld_map; exact rfl; exact rfl; exact rfl; (first | omega | (focus (simp; done))))
    | (apply q_ld_maps; exact rfl; exact rfl; exact rfl; (first | omega | (focus (simp; done))))
    | (apply q_ld_fpt; exact rfl; exact rfl; (first | assumption | exact rfl); exact rfl)
    | (apply q_fld_fptF; exact rfl; exact rfl; exact rfl)
    | (apply q_buildF; exact rfl; exact rfl; kernel_rfl)
    | (apply q_field; exact rfl; exact rfl; exact rfl; exact rfl)
    | (apply q_fieldsF; exact rfl; exact rfl; exact rfl; exact rfl)
    | (apply q_makeFunc)
    | (apply q_nil_opt; exact rfl)
    | (apply q_nil_fpt; exact rfl)
    | (apply q_nil_fn; exact rfl)
    | (apply q_index_str; exact rfl; exact rfl; exact rfl; exact rfl; omega)
    | (apply q_litF; exact rfl; exact rfl; exact rfl; exact rfl; exact rfl; kernel_rfl; kernel_rfl; exact rfl)
    | (apply q_remK; exact rfl; exact rfl; omega; omega)
    | (apply q_ix_slF; exact rfl; exact rfl; exact rfl; exact rfl; exact rfl; (first | omega | (focus (simp only [List.length_map]; omega)) | (focus (simp; done))))
    | (apply (q_ix_slF (j := Int.toNat _)); exact rfl; exact rfl; exact rfl; exact rfl; exact (Int.toNat_of_nonneg (by omega)).symm; (first | omega | (focus (simp only [List.length_map]; omega)) | (focus (simp; done))))
    | (apply q_min; exact rfl; exact rfl)
    | (apply q_max; exact rfl; exact rfl)
    | (apply (q_pickT (u := .d _)); exact rfl; exact rfl)
    | (apply (q_pickF (u := .d _)); exact rfl; exact rfl)
    | (apply q_convI; exact rfl; exact rfl; exact rfl; omega)
    | (apply q_ix_osl0; exact rfl; exact rfl; exact rfl; exact rfl; exact rfl; (first | omega | (focus (simp only [List.length_map]; omega))))
    | (apply (q_ix_osl0 (j := Int.toNat _)); exact rfl; exact rfl; exact rfl; exact rfl; (first | exact rfl | (exact (Int.toNat_of_nonneg (by omega)).symm)); (first | omega | (focus (simp only [List.length_map]; omega))))
    | (apply q_ix_oslm; exact rfl; exact rfl; exact rfl; exact rfl; exact rfl; (first | omega | (focus (simp only [List.length_map]; omega))))
    | (apply (q_ix_oslm (j := Int.toNat _)); exact rfl; exact rfl; exact rfl; exact rfl; exact (Int.toNat_of_nonneg (by omega)).symm; (first | omega | (focus (simp only [List.length_map]; omega))))
    | (apply q_ld_rptm; exact rfl; exact rfl; exact rfl; exact rfl; (first | omega | (focus (simp only [List.length_map]; omega)) | (focus (simp; omega)))))) | (apply W.ed; (first
    | (apply e_boxF; exact rfl; exact rfl; exact rfl; kernel_rfl; kernel_rfl)
    | (apply e_allocF; exact rfl; exact rfl; exact rfl; kernel_rfl)
    | (apply e_app1F; exact rfl; exact rfl; exact rfl; exact rfl; exact rfl; exact rfl; exact rfl; exact rfl; (first | omega | (focus (simp; omega)) | (focus (simp; done))))
    | (apply e_appF; exact rfl; exact rfl; exact rfl; exact rfl; exact rfl; exact rfl; exact rfl; exact rfl; (first | rfl | simp); (first | exact Nat.zero_lt_one | (focus (simp; done)) | omega); (first | (focus (simp; done)) | (focus (simp; omega)) | omega))
    | (apply e_makeF; exact rfl; exact rfl; (first | exact rfl | (exact (Int.toNat_of_nonneg (by omega)).symm)); exact rfl; exact rfl; exact rfl; exact rfl; exact rfl; exact rfl; omega))) | (apply W.en; (first
    | (apply e_st_boxF; exact rfl; exact rfl; exact rfl; exact rfl; exact rfl; exact rfl; kernel_rfl; kernel_rfl; kernel_rfl)
    | (apply e_st_rptm; exact rfl; exact rfl; exact rfl; exact rfl; exact rfl; exact rfl; exact rfl; exact fun _ => rfl; (first | omega | (focus (simp only [List.length_map]; omega)) | (focus (simp; omega)))))) | (refine W.gOff _ _ rfl rfl (by intro h; cases h) ?_)) | (first
    | (apply AWP.seq)
    | (apply ACont_normal)
    | (apply W.region; kernel_rfl)
    | (apply W.regionD; exact rfl; kernel_rfl)
    | (apply Walk.nil)
    | (apply W.chk; kernel_rfl)
    | (apply AWP.block)
    | (apply AWP.skip)
    | (apply AWP.exit)
    | (apply AWP.ret)
    | (apply ACont_exit)
    | (apply ACont_ret)
    | (apply ABlock_normal)
    | (apply ABlock_exit)
    | (apply ABlock_ret)
    | (apply ABlock_exit'; exact rfl)
    | (apply W.condT; exact rfl)
    | (apply W.condF; exact rfl)) | refine W.gT _ _ rfl rfl (fun hb => ?_) (fun hb => ?_) <;> ((try simp only [hb, Bool.not_true, Bool.not_false]) <;> (try simp only [decide_eq_true_eq, decide_eq_false_iff_not, Bool.not_eq_true', Bool.not_eq_false', Int.not_lt, Int.not_le, List.length_map] at hb) <;> (try (exfalso; omega))) | refine W.gF _ _ rfl rfl (fun hb => ?_) (fun hb => ?_) <;> ((try simp only [hb, Bool.not_true, Bool.not_false]) <;> (try simp only [decide_eq_true_eq, decide_eq_false_iff_not, Bool.not_eq_true', Bool.not_eq_false', Int.not_lt, Int.not_le, List.length_map] at hb) <;> (try (exfalso; omega))) | refine W.cond _ rfl (fun hb => ?_) (fun hb => ?_) <;> ((try simp only [hb, Bool.not_true, Bool.not_false]) <;> (try simp only [decide_eq_true_eq, decide_eq_false_iff_not, Bool.not_eq_true', Bool.not_eq_false', Int.not_lt, Int.not_le, List.length_map] at hb) <;> (try (exfalso; omega)))))
    all_goals exact Ends.b rfl rfl
end Go.Proofs.Ytffdhckilhhejaa
