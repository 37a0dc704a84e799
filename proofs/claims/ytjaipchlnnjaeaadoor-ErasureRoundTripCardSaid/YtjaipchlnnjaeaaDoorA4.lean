import Derived.Test.YtjaipchlnnjaeaaDoorChecked
import Derived.Test.YtjaipchlnnjaeaaDoorA2
import Derived.Test.YtjaipchlnnjaeaaDoorA3
/- Joined texts: Fd1 Fd2 Fd3 Fd4 Fd5. -/
section
/- Package field over the machine of abstract values: modulus, product, degree. -/
namespace Go.Proofs.YtjaipchlnnjaeaaDoor
open Go.RowKit
set_option linter.unusedVariables false
set_option linter.unusedSimpArgs false
set_option maxHeartbeats 4000000
set_option maxRecDepth 100000
attribute [local irreducible] Quiet Eff OpOk AWPG ACont ABlock ACalls

/-- The modulus of a field; 0 if there is none. -/
def modN (m : Int) : Nat := if m = 8 then 285 else if m = 16 then 69643 else 0
theorem A_modulus (m : Int) : ACalls Tryd.prog 86 [iV m] [] (iV (modN m)) [] := by
  refine acalls_of_body Tryd.func86 rfl (Nat.le_of_ble_eq_true rfl) ?_
  (repeat' (first
  | (apply W.qd; (first
    | (apply q_mv; (first
    | exact Eq.refl (AV.d _)
    | exact Eq.refl (AV.osl _ _ _ _)
    | exact Eq.refl (AV.opt _ _)
    | exact Eq.refl (AV.agg _)
    | exact Eq.refl (AV.fpt _ _ _ _)
    | exact Eq.refl (AV.rpt _ _ _ _)
    | exact Eq.refl (AV.fn _ _)
    | exact Eq.refl (AV.tup _)
    | exact Eq.refl AV.top))
    | (apply q_as; (first
    | exact Eq.refl (AV.d _)
    | exact Eq.refl (AV.osl _ _ _ _)
    | exact Eq.refl (AV.opt _ _)
    | exact Eq.refl (AV.agg _)
    | exact Eq.refl (AV.fpt _ _ _ _)
    | exact Eq.refl (AV.rpt _ _ _ _)
    | exact Eq.refl (AV.fn _ _)
    | exact Eq.refl (AV.tup _)
    | exact Eq.refl AV.top))
    | (apply q_ld_glb; exact rfl; exact rfl; exact rfl; exact rfl; exact rfl)))
  | (apply AWP.seq)
  | (apply ACont_normal)
  | (apply W.region; kernel_rfl)
  | (apply Walk.nil)
  | (apply AWP.block)))
  refine AWP.loopW (α := Nat) (fun k => k ≤ 2 ∧ (1 ≤ k → m ≠ 8) ∧ (2 ≤ k → m ≠ 16)) (fun k => ⟨[(6, iV k), (5, .agg [iV 8, iV 285, iV 16, iV 69643]), (0, iV m)], []⟩) (fun k => 2 - k) 0 (by omega) ⟨[], rfl, rfl, rfl, by (repeat (first | exact trivial | refine ⟨rfl, ?_⟩))⟩ fun k hk => ?_
  have : k = 0 ∨ k = 1 ∨ k = 2 := by omega
  rcases this with rfl | rfl | rfl
  · (repeat' (first
  | (apply W.qd; (first
    | (apply q_mv; (first
    | exact Eq.refl (AV.d _)
    | exact Eq.refl (AV.osl _ _ _ _)
    | exact Eq.refl (AV.opt _ _)
    | exact Eq.refl (AV.agg _)
    | exact Eq.refl (AV.fpt _ _ _ _)
    | exact Eq.refl (AV.rpt _ _ _ _)
    | exact Eq.refl (AV.fn _ _)
    | exact Eq.refl (AV.tup _)
    | exact Eq.refl AV.top))
    | (apply q_as; (first
    | exact Eq.refl (AV.d _)
    | exact Eq.refl (AV.osl _ _ _ _)
    | exact Eq.refl (AV.opt _ _)
    | exact Eq.refl (AV.agg _)
    | exact Eq.refl (AV.fpt _ _ _ _)
    | exact Eq.refl (AV.rpt _ _ _ _)
    | exact Eq.refl (AV.fn _ _)
    | exact Eq.refl (AV.tup _)
    | exact Eq.refl AV.top))
    | (apply q_fld_optF; exact rfl; exact rfl; exact rfl)
    | (apply q_ld_box; exact rfl; exact rfl; exact rfl; exact rfl)
    | (apply q_lss; exact rfl; exact rfl)
    | (apply q_eql; exact rfl; exact rfl)
    | (apply q_add; exact rfl; exact rfl; omega)
    | (apply q_ix_ags; exact rfl; exact rfl; exact rfl; exact rfl; (first | (with_reducible exact rfl) | exact natI_spec rfl | assumption | exact (Int.toNat_of_nonneg (by omega)).symm); exact rfl; omega)))
  | (apply W.ed; (apply e_allocF; exact rfl; exact rfl; exact rfl; kernel_rfl))
  | (apply W.en; (apply e_st_boxF; exact rfl; exact rfl; exact rfl; exact rfl; exact rfl; exact rfl; kernel_rfl; kernel_rfl; kernel_rfl))
  | (apply AWP.seq)
  | (apply ACont_normal)
  | (apply W.region; kernel_rfl)
  | (apply Walk.nil)
  | (apply AWP.block)
  | (apply AWP.skip)
  | (apply AWP.ret)
  | (apply ACont_ret)
  | (apply ABlock_normal)
  | (apply ABlock_ret)
  | (apply W.condT; exact rfl)
  | (refine W.cond _ rfl (fun hb => ?_) (fun hb => ?_) <;> ((try simp only [hb, Bool.not_true, Bool.not_false]) <;> (try simp only [decide_eq_true_eq, decide_eq_false_iff_not, Bool.not_eq_true', Bool.not_eq_false', Int.not_lt, Int.not_le, List.length_map, not_true_eq_false] at hb) <;> (try (exfalso; omega))))))
    · exact Ends.i rfl (by unfold modN; rw [if_pos hb.symm]; rfl)
    · exact ⟨1, by omega, by omega, ⟨[], rfl, rfl, rfl, by (repeat (first | exact trivial | refine ⟨rfl, ?_⟩))⟩⟩
  · (repeat' (first
  | (apply W.qd; (first
    | (apply q_mv; (first
    | exact Eq.refl (AV.d _)
    | exact Eq.refl (AV.osl _ _ _ _)
    | exact Eq.refl (AV.opt _ _)
    | exact Eq.refl (AV.agg _)
    | exact Eq.refl (AV.fpt _ _ _ _)
    | exact Eq.refl (AV.rpt _ _ _ _)
    | exact Eq.refl (AV.fn _ _)
    | exact Eq.refl (AV.tup _)
    | exact Eq.refl AV.top))
    | (apply q_as; (first
    | exact Eq.refl (AV.d _)
    | exact Eq.refl (AV.osl _ _ _ _)
    | exact Eq.refl (AV.opt _ _)
    | exact Eq.refl (AV.agg _)
    | exact Eq.refl (AV.fpt _ _ _ _)
    | exact Eq.refl (AV.rpt _ _ _ _)
    | exact Eq.refl (AV.fn _ _)
    | exact Eq.refl (AV.tup _)
    | exact Eq.refl AV.top))
    | (apply q_fld_optF; exact rfl; exact rfl; exact rfl)
    | (apply q_ld_box; exact rfl; exact rfl; exact rfl; exact rfl)
    | (apply q_lss; exact rfl; exact rfl)
    | (apply q_eql; exact rfl; exact rfl)
    | (apply q_add; exact rfl; exact rfl; omega)
    | (apply q_ix_ags; exact rfl; exact rfl; exact rfl; exact rfl; (first | (with_reducible exact rfl) | exact natI_spec rfl | assumption | exact (Int.toNat_of_nonneg (by omega)).symm); exact rfl; omega)))
  | (apply W.ed; (apply e_allocF; exact rfl; exact rfl; exact rfl; kernel_rfl))
  | (apply W.en; (apply e_st_boxF; exact rfl; exact rfl; exact rfl; exact rfl; exact rfl; exact rfl; kernel_rfl; kernel_rfl; kernel_rfl))
  | (apply AWP.seq)
  | (apply ACont_normal)
  | (apply W.region; kernel_rfl)
  | (apply Walk.nil)
  | (apply AWP.block)
  | (apply AWP.skip)
  | (apply AWP.ret)
  | (apply ACont_ret)
  | (apply ABlock_normal)
  | (apply ABlock_ret)
  | (apply W.condT; exact rfl)
  | (refine W.cond _ rfl (fun hb => ?_) (fun hb => ?_) <;> ((try simp only [hb, Bool.not_true, Bool.not_false]) <;> (try simp only [decide_eq_true_eq, decide_eq_false_iff_not, Bool.not_eq_true', Bool.not_eq_false', Int.not_lt, Int.not_le, List.length_map, not_true_eq_false] at hb) <;> (try (exfalso; omega))))))
    · exact Ends.i rfl (by unfold modN; rw [if_neg (by omega), if_pos hb.symm]; rfl)
    · exact ⟨2, by omega, by omega, ⟨[], rfl, rfl, rfl, by (repeat (first | exact trivial | refine ⟨rfl, ?_⟩))⟩⟩
  · (repeat' (first
  | (apply W.qd; (first
    | (apply q_as; (first
    | exact Eq.refl (AV.d _)
    | exact Eq.refl (AV.osl _ _ _ _)
    | exact Eq.refl (AV.opt _ _)
    | exact Eq.refl (AV.agg _)
    | exact Eq.refl (AV.fpt _ _ _ _)
    | exact Eq.refl (AV.rpt _ _ _ _)
    | exact Eq.refl (AV.fn _ _)
    | exact Eq.refl (AV.tup _)
    | exact Eq.refl AV.top))
    | (apply q_lss; exact rfl; exact rfl)))
  | (apply AWP.seq)
  | (apply ACont_normal)
  | (apply W.region; kernel_rfl)
  | (apply Walk.nil)
  | (apply AWP.exit)
  | (apply AWP.ret)
  | (apply ACont_exit)
  | (apply ABlock_exit)
  | (apply W.condF; exact rfl)))
    exact Ends.i rfl (by unfold modN; rw [if_neg (by omega), if_neg (by omega)]; rfl)

/-- The two fields. -/
def FldM (M : Nat) : Prop := M = 8 ∨ M = 16
theorem FldM.gen {M : Nat} (h : FldM M) : Gf.Gen M (modN M) := by
  rcases h with rfl | rfl
  · exact Gf.gen8
  · exact Gf.gen16
theorem FldM.mod {M : Nat} (h : FldM M) : modN M ≠ 0 ∧ modN M < 131072 := by
  rcases h with rfl | rfl
  · exact ⟨by decide, by decide⟩
  · exact ⟨by decide, by decide⟩
theorem FldM.cap {M : Nat} (h : FldM M) {a : Nat} (ha : a < 2 ^ M) : a < 65536 := by
  rcases h with rfl | rfl
  · omega
  · omega
theorem iV_eq {a b : Int} (h : a = b) : iV a = iV b := by rw [h]
theorem xt_sh {M p o : Nat} (hM : 1 ≤ M) (ho : o < 2 ^ M) : ((o <<< 1) >>> M ≠ 0 → Gf.xt M p o = (o <<< 1) ^^^ p) ∧ ((o <<< 1) >>> M = 0 → Gf.xt M p o = o <<< 1) := by
  have e1 : o <<< 1 = 2 * o := by rw [Nat.shiftLeft_eq]; omega
  obtain ⟨k, rfl⟩ : ∃ k, M = k + 1 := ⟨M - 1, by omega⟩
  have e2 : (o <<< 1) >>> (k + 1) = o >>> k := by rw [e1, Nat.shiftRight_succ_inside, Nat.mul_div_cancel_left _ (by omega)]
  have e3 : o >>> k < 2 := by
    rw [Nat.shiftRight_eq_div_pow, Nat.div_lt_iff_lt_mul (Nat.two_pow_pos k)]
    rw [Nat.pow_succ] at ho; omega
  have e4 : o.testBit k = decide (o >>> k % 2 = 1) := by
    have := Nat.testBit_shiftRight (i := k) (j := 0) o
    rw [Nat.add_zero] at this
    rw [← this, Nat.testBit_zero]
  unfold Gf.xt
  rw [Nat.add_sub_cancel, e4, e2, ← e1]
  generalize o >>> k = z at e3
  constructor
  · intro h; rw [decide_eq_true (by omega)]; rfl
  · intro h; rw [decide_eq_false (by omega)]; simp
theorem bit_sh (b i : Nat) : ((b >>> i) &&& 1 ≠ 0 → (b >>> i).testBit 0 = true) ∧ ((b >>> i) &&& 1 = 0 → (b >>> i).testBit 0 = false) := by
  rw [Nat.and_one_is_mod, Nat.testBit_zero]
  exact ⟨fun h => decide_eq_true (by omega), fun h => decide_eq_false (by omega)⟩
theorem hor_step {M p a b j : Nat} (hj : 1 ≤ j) (hjM : j ≤ M) {o1 r : Nat} (h1 : o1 = Gf.xt M p (Gf.mulK M p (M - j) a (b >>> j))) (h2 : r = o1 ^^^ (bif (b >>> (j - 1)).testBit 0 then a else 0)) : r = Gf.mulK M p (M - (j - 1)) a (b >>> (j - 1)) := by
  obtain ⟨i, rfl⟩ : ∃ i, j = i + 1 := ⟨j - 1, by omega⟩
  rw [Nat.add_sub_cancel] at h2 ⊢
  rw [show M - i = (M - (i + 1)) + 1 from by omega, Gf.mulK_succ, h2, h1]
  have : b >>> (i + 1) = (b >>> i) / 2 := Nat.shiftRight_succ b i
  rw [this]
theorem A_product {M a b : Nat} (hM : FldM M) (ha : a < 2 ^ M) (hb : b < 2 ^ M) : ACalls Tryd.prog 90 [iV M, iV a, iV b] [] (iV (Gf.mul M (modN M) a b)) [] := by
  refine acalls_of_body Tryd.func90 rfl (Nat.le_of_ble_eq_true rfl) ?_
  have hmod := A_modulus M
  have hM16 : 1 ≤ M ∧ M ≤ 16 := by unfold FldM at hM; omega
  have hb16 := hM.cap hb
  have ha16 := hM.cap ha
  have hp := hM.mod
  have g := hM.gen
  (repeat' (first
  | (apply W.qd; (first
    | (apply (q_callC (hmod)); exact rfl; exact rfl; kernel_rfl; kernel_rfl; kernel_rfl)
    | (apply q_mv; (first
    | exact Eq.refl (AV.d _)
    | exact Eq.refl (AV.osl _ _ _ _)
    | exact Eq.refl (AV.opt _ _)
    | exact Eq.refl (AV.agg _)
    | exact Eq.refl (AV.fpt _ _ _ _)
    | exact Eq.refl (AV.rpt _ _ _ _)
    | exact Eq.refl (AV.fn _ _)
    | exact Eq.refl (AV.tup _)
    | exact Eq.refl AV.top))
    | (apply q_as; (first
    | exact Eq.refl (AV.d _)
    | exact Eq.refl (AV.osl _ _ _ _)
    | exact Eq.refl (AV.opt _ _)
    | exact Eq.refl (AV.agg _)
    | exact Eq.refl (AV.fpt _ _ _ _)
    | exact Eq.refl (AV.rpt _ _ _ _)
    | exact Eq.refl (AV.fn _ _)
    | exact Eq.refl (AV.tup _)
    | exact Eq.refl AV.top))
    | (apply q_sub; exact rfl; exact rfl; omega)))
  | (apply AWP.seq)
  | (apply ACont_normal)
  | (apply W.region; kernel_rfl)
  | (apply Walk.nil)
  | (apply AWP.block)))
  refine AWP.loopW (α := Nat) (fun j => j ≤ M) (fun j => ⟨[(9, iV ((j : Int) - 1)), (8, iV (Gf.mulK M (modN M) (M - j) a (b >>> j) : Nat)), (7, iV (modN M)), (0, iV M), (1, iV a), (2, iV b)], []⟩) (fun j => j) M (Nat.le_refl _) ?_ fun j hj => ?_
  · refine ⟨[], rfl, rfl, rfl, rfl, iV_eq ?_, rfl, rfl, rfl, rfl, trivial⟩
    rw [Nat.sub_self]; rfl
  have ho := Gf.mulK_lt g.hm g.top g.lt ha (M - j) (b >>> j)
  have hx := xt_sh (p := modN M) hM16.1 ho
  have hst := fun (h1 : 1 ≤ j) (r : Nat) => hor_step (M := M) (p := modN M) (a := a) (b := b) (r := r) h1 hj rfl
  have hfin : j = 0 → Gf.mul M (modN M) a b = Gf.mulK M (modN M) (M - j) a (b >>> j) := fun h => by subst h; rfl
  generalize Gf.mulK M (modN M) (M - j) a (b >>> j) = o at *
  have ho16 := hM.cap ho
  have e1 : o <<< 1 = 2 * o := by rw [Nat.shiftLeft_eq]; omega
  have c1 : o <<< 1 < 131072 := by omega
  have c2 : (o <<< 1) ^^^ modN M < 131072 := Nat.xor_lt_two_pow (n := 17) c1 hp.2
  have c3 : (o <<< 1) < 9223372036854775808 := by omega
  have c4 : (o <<< 1) ^^^ modN M < 9223372036854775808 := by omega
  by_cases hj1 : 1 ≤ j
  · have et : ((j : Int) - 1).toNat = j - 1 := by omega
    have c5 : b >>> ((j : Int) - 1).toNat < 9223372036854775808 := Nat.lt_of_le_of_lt (Nat.shiftRight_le b _) (by omega)
    have hbit := bit_sh b (j - 1)
    (repeat' (first
  | (apply W.qd; (first
    | (apply q_mv; (first
    | exact Eq.refl (AV.d _)
    | exact Eq.refl (AV.osl _ _ _ _)
    | exact Eq.refl (AV.opt _ _)
    | exact Eq.refl (AV.agg _)
    | exact Eq.refl (AV.fpt _ _ _ _)
    | exact Eq.refl (AV.rpt _ _ _ _)
    | exact Eq.refl (AV.fn _ _)
    | exact Eq.refl (AV.tup _)
    | exact Eq.refl AV.top))
    | (apply q_as; (first
    | exact Eq.refl (AV.d _)
    | exact Eq.refl (AV.osl _ _ _ _)
    | exact Eq.refl (AV.opt _ _)
    | exact Eq.refl (AV.agg _)
    | exact Eq.refl (AV.fpt _ _ _ _)
    | exact Eq.refl (AV.rpt _ _ _ _)
    | exact Eq.refl (AV.fn _ _)
    | exact Eq.refl (AV.tup _)
    | exact Eq.refl AV.top))
    | (apply q_geq; exact rfl; exact rfl)
    | (apply q_neq; exact rfl; exact rfl)
    | (apply q_sub; exact rfl; exact rfl; omega)
    | (apply q_xorN; exact rfl; exact rfl; (first | (with_reducible exact rfl) | exact natI_spec rfl | assumption | exact (Int.toNat_of_nonneg (by omega)).symm); (first | (with_reducible exact rfl) | exact natI_spec rfl | assumption | exact (Int.toNat_of_nonneg (by omega)).symm); (first | (apply hcap1; omega) | (apply hcap2; omega) | (apply hcap3; omega) | (apply hcap4; omega) | (focus (show _ < 9223372036854775808; omega)) | (focus (show _ < 256; omega)) | assumption); (first | (apply hcap1; omega) | (apply hcap2; omega) | (apply hcap3; omega) | (apply hcap4; omega) | (focus (show _ < 9223372036854775808; omega)) | (focus (show _ < 256; omega)) | assumption))
    | (apply q_andN; exact rfl; exact rfl; (first | (with_reducible exact rfl) | exact natI_spec rfl | assumption | exact (Int.toNat_of_nonneg (by omega)).symm); (first | (with_reducible exact rfl) | exact natI_spec rfl | assumption | exact (Int.toNat_of_nonneg (by omega)).symm); (first | (apply hcap1; omega) | (apply hcap2; omega) | (apply hcap3; omega) | (apply hcap4; omega) | (focus (show _ < 9223372036854775808; omega)) | (focus (show _ < 256; omega)) | assumption); (first | (apply hcap1; omega) | (apply hcap2; omega) | (apply hcap3; omega) | (apply hcap4; omega) | (focus (show _ < 9223372036854775808; omega)) | (focus (show _ < 256; omega)) | assumption))
    | (apply q_shlN; exact rfl; exact rfl; (first | (with_reducible exact rfl) | exact natI_spec rfl | assumption | exact (Int.toNat_of_nonneg (by omega)).symm); (first | (with_reducible exact rfl) | exact natI_spec rfl | assumption | exact (Int.toNat_of_nonneg (by omega)).symm); exact rfl; omega; (first | (apply hcap1; omega) | (apply hcap2; omega) | (apply hcap3; omega) | (apply hcap4; omega) | (focus (show _ < 9223372036854775808; omega)) | (focus (show _ < 256; omega)) | assumption))
    | (apply q_shrN; exact rfl; exact rfl; (first | (with_reducible exact rfl) | exact natI_spec rfl | assumption | exact (Int.toNat_of_nonneg (by omega)).symm); (first | (with_reducible exact rfl) | exact natI_spec rfl | assumption | exact (Int.toNat_of_nonneg (by omega)).symm); focus (show _ ≤ 64; omega))))
  | (apply AWP.seq)
  | (apply ACont_normal)
  | (apply W.region; kernel_rfl)
  | (apply Walk.nil)
  | (apply AWP.block)
  | (apply AWP.skip)
  | (apply ABlock_normal)
  | (refine W.cond _ rfl (fun hb => ?_) (fun hb => ?_) <;> ((try simp only [hb, Bool.not_true, Bool.not_false]) <;> (try simp only [decide_eq_true_eq, decide_eq_false_iff_not, Bool.not_eq_true', Bool.not_eq_false', Int.not_lt, Int.not_le, List.length_map, not_true_eq_false] at hb) <;> (try (exfalso; omega))))))
    all_goals (rw [et] at hb; rename_i hq)
    all_goals refine ⟨j - 1, by omega, by omega, [], rfl, rfl, rfl, iV_eq (by omega), iV_eq (congrArg _ (Eq.symm (hst hj1 _ ?_))), rfl, rfl, rfl, rfl, trivial⟩
    · rw [hx.1 fun e => hq (by rw [e]; rfl), hbit.1 fun e => hb (by rw [e]; rfl)]; rfl
    · rw [hx.1 fun e => hq (by rw [e]; rfl), hbit.2 (Int.natCast_eq_zero.1 hb)]; simp
    · rw [hx.2 (Int.natCast_eq_zero.1 hq), hbit.1 fun e => hb (by rw [e]; rfl)]; rfl
    · rw [hx.2 (Int.natCast_eq_zero.1 hq), hbit.2 (Int.natCast_eq_zero.1 hb)]; simp
  · (repeat' (first
  | (apply W.qd; (first
    | (apply q_mv; (first
    | exact Eq.refl (AV.d _)
    | exact Eq.refl (AV.osl _ _ _ _)
    | exact Eq.refl (AV.opt _ _)
    | exact Eq.refl (AV.agg _)
    | exact Eq.refl (AV.fpt _ _ _ _)
    | exact Eq.refl (AV.rpt _ _ _ _)
    | exact Eq.refl (AV.fn _ _)
    | exact Eq.refl (AV.tup _)
    | exact Eq.refl AV.top))
    | (apply q_as; (first
    | exact Eq.refl (AV.d _)
    | exact Eq.refl (AV.osl _ _ _ _)
    | exact Eq.refl (AV.opt _ _)
    | exact Eq.refl (AV.agg _)
    | exact Eq.refl (AV.fpt _ _ _ _)
    | exact Eq.refl (AV.rpt _ _ _ _)
    | exact Eq.refl (AV.fn _ _)
    | exact Eq.refl (AV.tup _)
    | exact Eq.refl AV.top))
    | (apply q_geq; exact rfl; exact rfl)))
  | (apply AWP.seq)
  | (apply ACont_normal)
  | (apply W.region; kernel_rfl)
  | (apply Walk.nil)
  | (apply AWP.exit)
  | (apply AWP.ret)
  | (apply ACont_exit)
  | (apply ABlock_exit)
  | (refine W.cond _ rfl (fun hb => ?_) (fun hb => ?_) <;> ((try simp only [hb, Bool.not_true, Bool.not_false]) <;> (try simp only [decide_eq_true_eq, decide_eq_false_iff_not, Bool.not_eq_true', Bool.not_eq_false', Int.not_lt, Int.not_le, List.length_map, not_true_eq_false] at hb) <;> (try (exfalso; omega))))))
    obtain rfl : j = 0 := by omega
    exact Ends.i rfl (congrArg _ (hfin rfl).symm)
end Go.Proofs.YtjaipchlnnjaeaaDoor
end

section
/- Package field over the machine of abstract values: degree, reduce, inverse. -/
namespace Go.Proofs.YtjaipchlnnjaeaaDoor
open Go.RowKit
set_option linter.unusedVariables false
set_option linter.unusedSimpArgs false
set_option maxHeartbeats 4000000
set_option maxRecDepth 100000
attribute [local irreducible] Quiet Eff OpOk AWPG ACont ABlock ACalls

theorem lt63 {n : Nat} (h : Gf.bl n ≤ 63) : n < 9223372036854775808 := Gf.bl_le.1 h
theorem A_degree (a : Nat) (ha : Gf.bl a ≤ 63) : ACalls Tryd.prog 106 [iV a] [] (iV ((Gf.bl a : Int) - 1)) [] := by
  refine acalls_of_body Tryd.func106 rfl (Nat.le_of_ble_eq_true rfl) ?_
  (repeat' (first
  | (apply W.qd; (apply q_as; (first
    | exact Eq.refl (AV.d _)
    | exact Eq.refl (AV.osl _ _ _ _)
    | exact Eq.refl (AV.opt _ _)
    | exact Eq.refl (AV.agg _)
    | exact Eq.refl (AV.fpt _ _ _ _)
    | exact Eq.refl (AV.rpt _ _ _ _)
    | exact Eq.refl (AV.fn _ _)
    | exact Eq.refl (AV.tup _)
    | exact Eq.refl AV.top)))
  | (apply AWP.seq)
  | (apply ACont_normal)
  | (apply W.region; kernel_rfl)
  | (apply Walk.nil)
  | (apply AWP.block)))
  refine AWP.loopW (α := Nat) (fun k => k ≤ Gf.bl a) (fun k => ⟨[(3, iV ((k : Int) - 1)), (0, iV (a >>> k : Nat))], []⟩) (fun k => Gf.bl a - k) 0 (by omega) ⟨[], rfl, rfl, rfl, by (repeat (first | exact trivial | refine ⟨rfl, ?_⟩))⟩ fun k hk => ?_
  have h1 : a >>> k < 9223372036854775808 := Nat.lt_of_le_of_lt (Nat.shiftRight_le a k) (Gf.bl_le.1 ha)
  have h2 : ¬ a >>> k = 0 → k < Gf.bl a := fun h => by
    refine Nat.lt_of_not_le fun hle => h ?_
    have := Gf.bl_le.1 hle
    rw [Nat.shiftRight_eq_div_pow, Nat.div_eq_of_lt this]
  have h3 : a >>> k = 0 → Gf.bl a ≤ k := fun h => by
    rw [Nat.shiftRight_eq_div_pow] at h
    refine Gf.bl_le.2 ?_
    rcases Nat.lt_or_ge a (2 ^ k) with h4 | h4
    · exact h4
    · have := Nat.div_pos h4 (Nat.two_pow_pos k); omega
  have h4 : a >>> (k + 1) = (a >>> k) >>> 1 := by rw [Nat.shiftRight_add]
  (repeat' (first
  | (apply W.qd; (first
    | (apply q_mv; (first
    | exact Eq.refl (AV.d _)
    | exact Eq.refl (AV.osl _ _ _ _)
    | exact Eq.refl (AV.opt _ _)
    | exact Eq.refl (AV.agg _)
    | exact Eq.refl (AV.fpt _ _ _ _)
    | exact Eq.refl (AV.rpt _ _ _ _)
    | exact Eq.refl (AV.fn _ _)
    | exact Eq.refl (AV.tup _)
    | exact Eq.refl AV.top))
    | (apply q_as; (first
    | exact Eq.refl (AV.d _)
    | exact Eq.refl (AV.osl _ _ _ _)
    | exact Eq.refl (AV.opt _ _)
    | exact Eq.refl (AV.agg _)
    | exact Eq.refl (AV.fpt _ _ _ _)
    | exact Eq.refl (AV.rpt _ _ _ _)
    | exact Eq.refl (AV.fn _ _)
    | exact Eq.refl (AV.tup _)
    | exact Eq.refl AV.top))
    | (apply q_neq; exact rfl; exact rfl)
    | (apply q_add; exact rfl; exact rfl; omega)
    | (apply q_shrN; exact rfl; exact rfl; (first | (with_reducible exact rfl) | exact natI_spec rfl | assumption | exact (Int.toNat_of_nonneg (by omega)).symm); (first | (with_reducible exact rfl) | exact natI_spec rfl | assumption | exact (Int.toNat_of_nonneg (by omega)).symm); focus (show _ ≤ 64; omega))))
  | (apply AWP.seq)
  | (apply ACont_normal)
  | (apply W.region; kernel_rfl)
  | (apply Walk.nil)
  | (apply AWP.block)
  | (apply AWP.skip)
  | (apply AWP.exit)
  | (apply AWP.ret)
  | (apply ACont_exit)
  | (apply ABlock_normal)
  | (apply ABlock_exit)
  | (refine W.cond _ rfl (fun hb => ?_) (fun hb => ?_) <;> ((try simp only [hb, Bool.not_true, Bool.not_false]) <;> (try simp only [decide_eq_true_eq, decide_eq_false_iff_not, Bool.not_eq_true', Bool.not_eq_false', Int.not_lt, Int.not_le, List.length_map, not_true_eq_false] at hb) <;> (try (exfalso; omega))))))
  · have := h2 fun e => hb (by rw [e]; rfl)
    exact ⟨k + 1, by omega, by omega, [], rfl, rfl, rfl, iV_eq (by omega), iV_eq (congrArg _ h4), trivial⟩
  · have := h3 (Int.natCast_eq_zero.1 hb)
    exact Ends.i rfl (by omega)

theorem A_freduce {M x : Nat} (hM : FldM M) (hx : Gf.bl x ≤ 63) : ACalls Tryd.prog 107 [iV M, iV x] [] (iV (Gf.ev M (modN M) x)) [] := by
  refine acalls_of_body Tryd.func107 rfl (Nat.le_of_ble_eq_true rfl) ?_
  have g := hM.gen
  have hM16 : 1 ≤ M ∧ M ≤ 16 := by unfold FldM at hM; omega
  have hp := hM.mod
  have hmod := A_modulus M
  have hd0 := A_degree x hx
  have hbp : Gf.bl (modN M) = M + 1 := Gf.bl_of g.lt g.top
  have hep := Gf.ev_mod g.hm (by omega) g.top g.lt
  (repeat' (first
  | (apply W.qd; (first
    | (apply (q_callC (hd0)); exact rfl; exact rfl; kernel_rfl; kernel_rfl; kernel_rfl)
    | (apply q_mv; (first
    | exact Eq.refl (AV.d _)
    | exact Eq.refl (AV.osl _ _ _ _)
    | exact Eq.refl (AV.opt _ _)
    | exact Eq.refl (AV.agg _)
    | exact Eq.refl (AV.fpt _ _ _ _)
    | exact Eq.refl (AV.rpt _ _ _ _)
    | exact Eq.refl (AV.fn _ _)
    | exact Eq.refl (AV.tup _)
    | exact Eq.refl AV.top))
    | (apply q_as; (first
    | exact Eq.refl (AV.d _)
    | exact Eq.refl (AV.osl _ _ _ _)
    | exact Eq.refl (AV.opt _ _)
    | exact Eq.refl (AV.agg _)
    | exact Eq.refl (AV.fpt _ _ _ _)
    | exact Eq.refl (AV.rpt _ _ _ _)
    | exact Eq.refl (AV.fn _ _)
    | exact Eq.refl (AV.tup _)
    | exact Eq.refl AV.top))))
  | (apply AWP.seq)
  | (apply ACont_normal)
  | (apply W.region; kernel_rfl)
  | (apply Walk.nil)
  | (apply AWP.block)))
  refine AWP.loopW (α := Nat) (fun y => Gf.ev M (modN M) y = Gf.ev M (modN M) x ∧ Gf.bl y ≤ 63) (fun y => ⟨[(5, iV ((Gf.bl y : Int) - 1)), (1, iV y), (0, iV M)], []⟩) (fun y => Gf.bl y) x ⟨rfl, hx⟩ ⟨[], rfl, rfl, rfl, by (repeat (first | exact trivial | refine ⟨rfl, ?_⟩))⟩ fun y hy => ?_
  obtain ⟨hy1, hy2⟩ := hy
  by_cases hle : M + 1 ≤ Gf.bl y
  · have es : ((Gf.bl y : Int) - 1 - M).toNat = Gf.bl y - (M + 1) := by omega
    have hsh := Gf.bl_shift hp.1 (Gf.bl y - (M + 1))
    have hlt : Gf.bl (y ^^^ modN M <<< (Gf.bl y - (M + 1))) < Gf.bl y := Gf.bl_xor_eq (a := y) (b := modN M <<< (Gf.bl y - (M + 1))) (by omega) (by omega)
    have hev : Gf.ev M (modN M) (y ^^^ modN M <<< (Gf.bl y - (M + 1))) = Gf.ev M (modN M) x := by
      rw [Gf.ev_xor, Gf.ev_shift _ (Gf.bl_le.1 (by omega)), hep, Gf.xi_zero, Nat.xor_zero, hy1]
    have hcap1 : ∀ s : Nat, s ≤ Gf.bl y - (M + 1) → modN M <<< s < 9223372036854775808 := fun s hs => lt63 (by rw [Gf.bl_shift hp.1 s]; omega)
    have c2 : y < 9223372036854775808 := lt63 hy2
    have hd := A_degree (y ^^^ modN M <<< (Gf.bl y - (M + 1))) (by omega)
    rw [← es] at hd
    (repeat' (first
  | (apply W.qd; (first
    | (apply (q_callC (hmod)); exact rfl; exact rfl; kernel_rfl; kernel_rfl; kernel_rfl)
    | (apply (q_callC (hd)); exact rfl; exact rfl; kernel_rfl; kernel_rfl; kernel_rfl)
    | (apply q_mv; (first
    | exact Eq.refl (AV.d _)
    | exact Eq.refl (AV.osl _ _ _ _)
    | exact Eq.refl (AV.opt _ _)
    | exact Eq.refl (AV.agg _)
    | exact Eq.refl (AV.fpt _ _ _ _)
    | exact Eq.refl (AV.rpt _ _ _ _)
    | exact Eq.refl (AV.fn _ _)
    | exact Eq.refl (AV.tup _)
    | exact Eq.refl AV.top))
    | (apply q_as; (first
    | exact Eq.refl (AV.d _)
    | exact Eq.refl (AV.osl _ _ _ _)
    | exact Eq.refl (AV.opt _ _)
    | exact Eq.refl (AV.agg _)
    | exact Eq.refl (AV.fpt _ _ _ _)
    | exact Eq.refl (AV.rpt _ _ _ _)
    | exact Eq.refl (AV.fn _ _)
    | exact Eq.refl (AV.tup _)
    | exact Eq.refl AV.top))
    | (apply q_geq; exact rfl; exact rfl)
    | (apply q_sub; exact rfl; exact rfl; omega)
    | (apply q_xorN; exact rfl; exact rfl; (first | (with_reducible exact rfl) | exact natI_spec rfl | assumption | exact (Int.toNat_of_nonneg (by omega)).symm); (first | (with_reducible exact rfl) | exact natI_spec rfl | assumption | exact (Int.toNat_of_nonneg (by omega)).symm); (first | (apply hcap1; omega) | (apply hcap2; omega) | (apply hcap3; omega) | (apply hcap4; omega) | (focus (show _ < 9223372036854775808; omega)) | (focus (show _ < 256; omega)) | assumption); (first | (apply hcap1; omega) | (apply hcap2; omega) | (apply hcap3; omega) | (apply hcap4; omega) | (focus (show _ < 9223372036854775808; omega)) | (focus (show _ < 256; omega)) | assumption))
    | (apply q_shlN; exact rfl; exact rfl; (first | (with_reducible exact rfl) | exact natI_spec rfl | assumption | exact (Int.toNat_of_nonneg (by omega)).symm); (first | (with_reducible exact rfl) | exact natI_spec rfl | assumption | exact (Int.toNat_of_nonneg (by omega)).symm); exact rfl; omega; (first | (apply hcap1; omega) | (apply hcap2; omega) | (apply hcap3; omega) | (apply hcap4; omega) | (focus (show _ < 9223372036854775808; omega)) | (focus (show _ < 256; omega)) | assumption))))
  | (apply AWP.seq)
  | (apply ACont_normal)
  | (apply W.region; kernel_rfl)
  | (apply Walk.nil)
  | (apply AWP.block)
  | (apply AWP.skip)
  | (apply ABlock_normal)
  | (refine W.cond _ rfl (fun hb => ?_) (fun hb => ?_) <;> ((try simp only [hb, Bool.not_true, Bool.not_false]) <;> (try simp only [decide_eq_true_eq, decide_eq_false_iff_not, Bool.not_eq_true', Bool.not_eq_false', Int.not_lt, Int.not_le, List.length_map, not_true_eq_false] at hb) <;> (try (exfalso; omega))))))
    exact ⟨y ^^^ modN M <<< (Gf.bl y - (M + 1)), ⟨hev, by omega⟩, hlt, [], rfl, rfl, rfl, by rw [← es]; rfl, by rw [← es]; rfl, rfl, trivial⟩
  · (repeat' (first
  | (apply W.qd; (first
    | (apply q_mv; (first
    | exact Eq.refl (AV.d _)
    | exact Eq.refl (AV.osl _ _ _ _)
    | exact Eq.refl (AV.opt _ _)
    | exact Eq.refl (AV.agg _)
    | exact Eq.refl (AV.fpt _ _ _ _)
    | exact Eq.refl (AV.rpt _ _ _ _)
    | exact Eq.refl (AV.fn _ _)
    | exact Eq.refl (AV.tup _)
    | exact Eq.refl AV.top))
    | (apply q_as; (first
    | exact Eq.refl (AV.d _)
    | exact Eq.refl (AV.osl _ _ _ _)
    | exact Eq.refl (AV.opt _ _)
    | exact Eq.refl (AV.agg _)
    | exact Eq.refl (AV.fpt _ _ _ _)
    | exact Eq.refl (AV.rpt _ _ _ _)
    | exact Eq.refl (AV.fn _ _)
    | exact Eq.refl (AV.tup _)
    | exact Eq.refl AV.top))
    | (apply q_geq; exact rfl; exact rfl)))
  | (apply AWP.seq)
  | (apply ACont_normal)
  | (apply W.region; kernel_rfl)
  | (apply Walk.nil)
  | (apply AWP.exit)
  | (apply AWP.ret)
  | (apply ACont_exit)
  | (apply ABlock_exit)
  | (refine W.cond _ rfl (fun hb => ?_) (fun hb => ?_) <;> ((try simp only [hb, Bool.not_true, Bool.not_false]) <;> (try simp only [decide_eq_true_eq, decide_eq_false_iff_not, Bool.not_eq_true', Bool.not_eq_false', Int.not_lt, Int.not_le, List.length_map, not_true_eq_false] at hb) <;> (try (exfalso; omega))))))
    refine Ends.i rfl (congrArg _ ?_)
    rw [← hy1, Gf.ev_small (by omega) (Gf.bl_le.1 (by omega))]

/-- The inverse of an element that is not 0; 0 of 0. -/
def invN (M a : Nat) : Nat := ((List.range (2 ^ M)).find? fun b => Gf.mul M (modN M) a b == 1).getD 0
theorem invN_eq {M a b : Nat} (hM : FldM M) (ha : a < 2 ^ M) (hb : b < 2 ^ M) (h : Gf.mul M (modN M) a b = 1) : invN M a = b := by
  unfold invN
  cases hq : (List.range (2 ^ M)).find? fun b => Gf.mul M (modN M) a b == 1 with
  | none =>
    rw [List.find?_eq_none] at hq
    have := hq b (by simpa using hb)
    simp [h] at this
  | some c =>
    have h1 := List.find?_some hq
    have h2 := List.mem_of_find?_eq_some hq
    have hc : c < 2 ^ M := by simpa using h2
    have h3 : Gf.mul M (modN M) a c = 1 := by simpa using h1
    show c = b
    have e1 : Gf.mul M (modN M) (Gf.mul M (modN M) a b) c = c := by rw [h]; exact Gf.one_mul hc
    rw [Gf.mul_right_comm, h3, Gf.one_mul hb] at e1
    exact e1.symm
theorem A_inverse {M a : Nat} (hM : FldM M) (ha : a < 2 ^ M) (h0 : a ≠ 0) : ACalls Tryd.prog 95 [iV M, iV a] [] (iV (invN M a)) [] := by
  refine acalls_of_body Tryd.func95 rfl (Nat.le_of_ble_eq_true rfl) ?_
  have g := hM.gen
  have hM16 : 1 ≤ M ∧ M ≤ 16 := by unfold FldM at hM; omega
  have hp := hM.mod
  have hmod := A_modulus M
  (repeat' (first
  | (apply W.qd; (first
    | (apply (q_callC (hmod)); exact rfl; exact rfl; kernel_rfl; kernel_rfl; kernel_rfl)
    | (apply q_mv; (first
    | exact Eq.refl (AV.d _)
    | exact Eq.refl (AV.osl _ _ _ _)
    | exact Eq.refl (AV.opt _ _)
    | exact Eq.refl (AV.agg _)
    | exact Eq.refl (AV.fpt _ _ _ _)
    | exact Eq.refl (AV.rpt _ _ _ _)
    | exact Eq.refl (AV.fn _ _)
    | exact Eq.refl (AV.tup _)
    | exact Eq.refl AV.top))
    | (apply q_as; (first
    | exact Eq.refl (AV.d _)
    | exact Eq.refl (AV.osl _ _ _ _)
    | exact Eq.refl (AV.opt _ _)
    | exact Eq.refl (AV.agg _)
    | exact Eq.refl (AV.fpt _ _ _ _)
    | exact Eq.refl (AV.rpt _ _ _ _)
    | exact Eq.refl (AV.fn _ _)
    | exact Eq.refl (AV.tup _)
    | exact Eq.refl AV.top))))
  | (apply AWP.seq)
  | (apply ACont_normal)
  | (apply W.region; kernel_rfl)
  | (apply Walk.nil)
  | (apply AWP.block)))
  refine AWP.loopW (α := Nat × Nat × Nat × Nat) (fun s => Gf.EGood M (modN M) a s.1 s.2.1 s.2.2.1 s.2.2.2 ∨ Gf.EDone M (modN M) a s.1 s.2.2.1) (fun s => ⟨[(5, iV s.1), (6, iV s.2.1), (7, iV s.2.2.1), (8, iV s.2.2.2), (0, iV M)], []⟩) (fun s => if s.1 = 1 then 0 else Gf.eMu s.1 s.2.1 + 1) (a, modN M, 1, 0) (.inl (Gf.EGood.init g (by omega) ha h0)) ⟨[], rfl, rfl, rfl, by (repeat (first | exact trivial | refine ⟨rfl, ?_⟩))⟩ fun s hs => ?_
  obtain ⟨u, v, x, y⟩ := s
  dsimp only at hs ⊢
  by_cases hu : u = 1
  · have hdone : Gf.EDone M (modN M) a u x := by
      rcases hs with hs | hs
      · subst hu; exact Gf.EInv.done g (by omega) hs.toEInv
      · exact hs
    have hbx := hdone.bx
    have hr := A_freduce hM (x := x) (by omega)
    (repeat' (first
  | (apply W.qd; (first
    | (apply (q_callC (hr)); exact rfl; exact rfl; kernel_rfl; kernel_rfl; kernel_rfl)
    | (apply q_mv; (first
    | exact Eq.refl (AV.d _)
    | exact Eq.refl (AV.osl _ _ _ _)
    | exact Eq.refl (AV.opt _ _)
    | exact Eq.refl (AV.agg _)
    | exact Eq.refl (AV.fpt _ _ _ _)
    | exact Eq.refl (AV.rpt _ _ _ _)
    | exact Eq.refl (AV.fn _ _)
    | exact Eq.refl (AV.tup _)
    | exact Eq.refl AV.top))
    | (apply q_as; (first
    | exact Eq.refl (AV.d _)
    | exact Eq.refl (AV.osl _ _ _ _)
    | exact Eq.refl (AV.opt _ _)
    | exact Eq.refl (AV.agg _)
    | exact Eq.refl (AV.fpt _ _ _ _)
    | exact Eq.refl (AV.rpt _ _ _ _)
    | exact Eq.refl (AV.fn _ _)
    | exact Eq.refl (AV.tup _)
    | exact Eq.refl AV.top))
    | (apply q_neq; exact rfl; exact rfl)))
  | (apply AWP.seq)
  | (apply ACont_normal)
  | (apply W.region; kernel_rfl)
  | (apply Walk.nil)
  | (apply AWP.exit)
  | (apply AWP.ret)
  | (apply ACont_exit)
  | (apply ABlock_exit)
  | (refine W.cond _ rfl (fun hb => ?_) (fun hb => ?_) <;> ((try simp only [hb, Bool.not_true, Bool.not_false]) <;> (try simp only [decide_eq_true_eq, decide_eq_false_iff_not, Bool.not_eq_true', Bool.not_eq_false', Int.not_lt, Int.not_le, List.length_map, not_true_eq_false] at hb) <;> (try (exfalso; omega))))))
    refine Ends.i rfl (congrArg _ ?_)
    exact (invN_eq hM ha (Gf.ev_lt g.hm g.top g.lt x) hdone.inv).symm
  · have hgood : Gf.EGood M (modN M) a u v x y := by
      rcases hs with hs | hs
      · exact hs
      · exact absurd hs.u1 hu
    have hnext := Gf.EGood.next g (by omega) ha h0 hgood hu
    have hbu := hgood.bu
    have hbv := hgood.bv
    have hbxy := hgood.toEInv.bxy
    have hdu := A_degree u (by omega)
    have hdv := A_degree v (by omega)
    have shl : ∀ z s : Nat, Gf.bl z + s ≤ 63 → z <<< s < 9223372036854775808 := fun z s h => by
      refine lt63 ?_
      by_cases hz : z = 0
      · subst hz; simp [Gf.bl_zero]
      · rw [Gf.bl_shift hz]; omega
    have hcap1 : ∀ s : Nat, s ≤ 18 → u <<< s < 9223372036854775808 := fun s h => shl u s (by omega)
    have hcap2 : ∀ s : Nat, s ≤ 18 → v <<< s < 9223372036854775808 := fun s h => shl v s (by omega)
    have hcap3 : ∀ s : Nat, s ≤ 18 → x <<< s < 9223372036854775808 := fun s h => shl x s (by omega)
    have hcap4 : ∀ s : Nat, s ≤ 18 → y <<< s < 9223372036854775808 := fun s h => shl y s (by omega)
    have cu : u < 9223372036854775808 := lt63 (show Gf.bl u ≤ 63 by omega)
    have cv : v < 9223372036854775808 := lt63 (show Gf.bl v ≤ 63 by omega)
    have cx : x < 9223372036854775808 := lt63 (show Gf.bl x ≤ 63 by omega)
    have cy : y < 9223372036854775808 := lt63 (show Gf.bl y ≤ 63 by omega)
    have hmu : ∀ u' v' x' y', Gf.EDone M (modN M) a u' x' ∨ Gf.EGood M (modN M) a u' v' x' y' ∧ Gf.eMu u' v' < Gf.eMu u v → (Gf.EGood M (modN M) a u' v' x' y' ∨ Gf.EDone M (modN M) a u' x') ∧ (if u' = 1 then 0 else Gf.eMu u' v' + 1) < (if u = 1 then 0 else Gf.eMu u v + 1) := fun u' v' x' y' h => by
      rw [if_neg hu]
      rcases h with h | ⟨h, h2⟩
      · exact ⟨.inr h, by rw [if_pos h.u1]; omega⟩
      · exact ⟨.inl h, by split <;> omega⟩
    by_cases hlt : Gf.bl u < Gf.bl v
    · have es : (-((Gf.bl u : Int) - 1 - ((Gf.bl v : Int) - 1))).toNat = Gf.bl v - Gf.bl u := by omega
      unfold Gf.eu at hnext
      rw [if_pos hlt] at hnext
      obtain ⟨n1, n2⟩ := hmu _ _ _ _ hnext
      (repeat' (first
  | (apply W.qd; (first
    | (apply (q_callC (hdu)); exact rfl; exact rfl; kernel_rfl; kernel_rfl; kernel_rfl)
    | (apply (q_callC (hdv)); exact rfl; exact rfl; kernel_rfl; kernel_rfl; kernel_rfl)
    | (apply q_mv; (first
    | exact Eq.refl (AV.d _)
    | exact Eq.refl (AV.osl _ _ _ _)
    | exact Eq.refl (AV.opt _ _)
    | exact Eq.refl (AV.agg _)
    | exact Eq.refl (AV.fpt _ _ _ _)
    | exact Eq.refl (AV.rpt _ _ _ _)
    | exact Eq.refl (AV.fn _ _)
    | exact Eq.refl (AV.tup _)
    | exact Eq.refl AV.top))
    | (apply q_as; (first
    | exact Eq.refl (AV.d _)
    | exact Eq.refl (AV.osl _ _ _ _)
    | exact Eq.refl (AV.opt _ _)
    | exact Eq.refl (AV.agg _)
    | exact Eq.refl (AV.fpt _ _ _ _)
    | exact Eq.refl (AV.rpt _ _ _ _)
    | exact Eq.refl (AV.fn _ _)
    | exact Eq.refl (AV.tup _)
    | exact Eq.refl AV.top))
    | (apply q_lss; exact rfl; exact rfl)
    | (apply q_neq; exact rfl; exact rfl)
    | (apply q_sub; exact rfl; exact rfl; omega)
    | (apply q_neg; exact rfl; omega)
    | (apply q_xorN; exact rfl; exact rfl; (first | (with_reducible exact rfl) | exact natI_spec rfl | assumption | exact (Int.toNat_of_nonneg (by omega)).symm); (first | (with_reducible exact rfl) | exact natI_spec rfl | assumption | exact (Int.toNat_of_nonneg (by omega)).symm); (first | (apply hcap1; omega) | (apply hcap2; omega) | (apply hcap3; omega) | (apply hcap4; omega) | (focus (show _ < 9223372036854775808; omega)) | (focus (show _ < 256; omega)) | assumption); (first | (apply hcap1; omega) | (apply hcap2; omega) | (apply hcap3; omega) | (apply hcap4; omega) | (focus (show _ < 9223372036854775808; omega)) | (focus (show _ < 256; omega)) | assumption))
    | (apply q_shlN; exact rfl; exact rfl; (first | (with_reducible exact rfl) | exact natI_spec rfl | assumption | exact (Int.toNat_of_nonneg (by omega)).symm); (first | (with_reducible exact rfl) | exact natI_spec rfl | assumption | exact (Int.toNat_of_nonneg (by omega)).symm); exact rfl; omega; (first | (apply hcap1; omega) | (apply hcap2; omega) | (apply hcap3; omega) | (apply hcap4; omega) | (focus (show _ < 9223372036854775808; omega)) | (focus (show _ < 256; omega)) | assumption))))
  | (apply AWP.seq)
  | (apply ACont_normal)
  | (apply W.region; kernel_rfl)
  | (apply Walk.nil)
  | (apply AWP.block)
  | (apply AWP.skip)
  | (apply ABlock_normal)
  | (refine W.cond _ rfl (fun hb => ?_) (fun hb => ?_) <;> ((try simp only [hb, Bool.not_true, Bool.not_false]) <;> (try simp only [decide_eq_true_eq, decide_eq_false_iff_not, Bool.not_eq_true', Bool.not_eq_false', Int.not_lt, Int.not_le, List.length_map, not_true_eq_false] at hb) <;> (try (exfalso; omega))))))
      exact ⟨_, n1, n2, [], rfl, rfl, rfl, by rw [← es]; rfl, rfl, by rw [← es]; rfl, rfl, rfl, trivial⟩
    · have es : ((Gf.bl u : Int) - 1 - ((Gf.bl v : Int) - 1)).toNat = Gf.bl u - Gf.bl v := by omega
      unfold Gf.eu at hnext
      rw [if_neg hlt] at hnext
      obtain ⟨n1, n2⟩ := hmu _ _ _ _ hnext
      (repeat' (first
  | (apply W.qd; (first
    | (apply (q_callC (hdu)); exact rfl; exact rfl; kernel_rfl; kernel_rfl; kernel_rfl)
    | (apply (q_callC (hdv)); exact rfl; exact rfl; kernel_rfl; kernel_rfl; kernel_rfl)
    | (apply q_mv; (first
    | exact Eq.refl (AV.d _)
    | exact Eq.refl (AV.osl _ _ _ _)
    | exact Eq.refl (AV.opt _ _)
    | exact Eq.refl (AV.agg _)
    | exact Eq.refl (AV.fpt _ _ _ _)
    | exact Eq.refl (AV.rpt _ _ _ _)
    | exact Eq.refl (AV.fn _ _)
    | exact Eq.refl (AV.tup _)
    | exact Eq.refl AV.top))
    | (apply q_as; (first
    | exact Eq.refl (AV.d _)
    | exact Eq.refl (AV.osl _ _ _ _)
    | exact Eq.refl (AV.opt _ _)
    | exact Eq.refl (AV.agg _)
    | exact Eq.refl (AV.fpt _ _ _ _)
    | exact Eq.refl (AV.rpt _ _ _ _)
    | exact Eq.refl (AV.fn _ _)
    | exact Eq.refl (AV.tup _)
    | exact Eq.refl AV.top))
    | (apply q_lss; exact rfl; exact rfl)
    | (apply q_neq; exact rfl; exact rfl)
    | (apply q_sub; exact rfl; exact rfl; omega)
    | (apply q_xorN; exact rfl; exact rfl; (first | (with_reducible exact rfl) | exact natI_spec rfl | assumption | exact (Int.toNat_of_nonneg (by omega)).symm); (first | (with_reducible exact rfl) | exact natI_spec rfl | assumption | exact (Int.toNat_of_nonneg (by omega)).symm); (first | (apply hcap1; omega) | (apply hcap2; omega) | (apply hcap3; omega) | (apply hcap4; omega) | (focus (show _ < 9223372036854775808; omega)) | (focus (show _ < 256; omega)) | assumption); (first | (apply hcap1; omega) | (apply hcap2; omega) | (apply hcap3; omega) | (apply hcap4; omega) | (focus (show _ < 9223372036854775808; omega)) | (focus (show _ < 256; omega)) | assumption))
    | (apply q_shlN; exact rfl; exact rfl; (first | (with_reducible exact rfl) | exact natI_spec rfl | assumption | exact (Int.toNat_of_nonneg (by omega)).symm); (first | (with_reducible exact rfl) | exact natI_spec rfl | assumption | exact (Int.toNat_of_nonneg (by omega)).symm); exact rfl; omega; (first | (apply hcap1; omega) | (apply hcap2; omega) | (apply hcap3; omega) | (apply hcap4; omega) | (focus (show _ < 9223372036854775808; omega)) | (focus (show _ < 256; omega)) | assumption))))
  | (apply AWP.seq)
  | (apply ACont_normal)
  | (apply W.region; kernel_rfl)
  | (apply Walk.nil)
  | (apply AWP.block)
  | (apply AWP.skip)
  | (apply ABlock_normal)
  | (refine W.cond _ rfl (fun hb => ?_) (fun hb => ?_) <;> ((try simp only [hb, Bool.not_true, Bool.not_false]) <;> (try simp only [decide_eq_true_eq, decide_eq_false_iff_not, Bool.not_eq_true', Bool.not_eq_false', Int.not_lt, Int.not_le, List.length_map, not_true_eq_false] at hb) <;> (try (exfalso; omega))))))
      exact ⟨_, n1, n2, [], rfl, rfl, rfl, by rw [← es]; rfl, rfl, by rw [← es]; rfl, rfl, rfl, trivial⟩
end Go.Proofs.YtjaipchlnnjaeaaDoor
end

section
/- slices.IndexFunc, slices.ContainsFunc over the machine of abstract values; package field: all, Valid, Mul, Inv. -/
namespace Go.Proofs.YtjaipchlnnjaeaaDoor
open Go.RowKit
set_option linter.unusedVariables false
set_option linter.unusedSimpArgs false
set_option maxHeartbeats 4000000
set_option maxRecDepth 100000

/-- The first element that meets a condition; -1 if there is none. -/
def idxA {α : Type} (q : α → Bool) (l : List α) : Int := match l.findIdx? q with | some k => k | none => -1
theorem idxA_hit {α : Type} {q : α → Bool} {l : List α} {k : Nat} (hk : k < l.length) (h : q l[k] = true) (hb : ∀ x ∈ l.take k, q x = false) : idxA q l = k := by
  unfold idxA
  have : l.findIdx? q = some k := by
    rw [List.findIdx?_eq_some_iff_getElem]
    refine ⟨hk, h, fun j hj => ?_⟩
    have := hb l[j] (by rw [List.mem_take_iff_getElem]; exact ⟨j, by omega, rfl⟩)
    simp [this]
  rw [this]
theorem idxA_miss {α : Type} {q : α → Bool} {l : List α} (h : ∀ x ∈ l, q x = false) : idxA q l = -1 := by
  unfold idxA
  have : l.findIdx? q = none := by
    rw [List.findIdx?_eq_none_iff]
    exact h
  rw [this]
theorem idxA_any {α : Type} (q : α → Bool) (l : List α) : decide (0 ≤ idxA q l) = l.any q := by
  unfold idxA
  cases h : l.findIdx? q with
  | some k =>
    have h1 := (List.findIdx?_eq_some_iff_getElem.1 h)
    obtain ⟨h1, h2, _⟩ := h1
    rw [decide_eq_true (show (0 : Int) ≤ ((k : Nat) : Int) by omega)]
    symm
    rw [List.any_eq_true]
    exact ⟨_, List.getElem_mem h1, h2⟩
  | none =>
    have h1 := List.findIdx?_eq_none_iff.1 h
    rw [decide_eq_false (show ¬ (0 : Int) ≤ -1 by omega)]
    symm
    rw [List.any_eq_false]
    intro x hx
    rw [h1 x hx]; simp
attribute [local irreducible] Quiet Eff OpOk AWPG ACont ABlock ACalls

theorem A_index_int {O : List Ent} {g : FuncId} {caps : List AV} (q : Int → Bool) (l : List Int) (hl : l.length ≤ 1000000000) (hgf : isFn Tryd.prog g = true) (hg : ∀ x ∈ l, ACalls Tryd.prog g (iV x :: caps) O (bV (q x)) O) : ACalls Tryd.prog 92 [ints l, .fn g caps] O (iV (idxA q l)) O := by
  refine acalls_of_bodyS Tryd.func92 rfl (Nat.le_of_ble_eq_true rfl) ?_
  (repeat (first
  | (apply W.qd; (first
    | (apply q_mv; (first
    | exact Eq.refl (AV.d _)
    | exact Eq.refl (AV.osl _ _ _ _)
    | exact Eq.refl (AV.opt _ _)
    | exact Eq.refl (AV.agg _)
    | exact Eq.refl (AV.fpt _ _ _ _)
    | exact Eq.refl (AV.rpt _ _ _ _)
    | exact Eq.refl (AV.fn _ _)
    | exact Eq.refl (AV.tup _)
    | exact Eq.refl AV.top))
    | (apply q_as; (first
    | exact Eq.refl (AV.d _)
    | exact Eq.refl (AV.osl _ _ _ _)
    | exact Eq.refl (AV.opt _ _)
    | exact Eq.refl (AV.agg _)
    | exact Eq.refl (AV.fpt _ _ _ _)
    | exact Eq.refl (AV.rpt _ _ _ _)
    | exact Eq.refl (AV.fn _ _)
    | exact Eq.refl (AV.tup _)
    | exact Eq.refl AV.top))
    | (apply q_len_sl; exact rfl; exact rfl)))
  | (apply AWP.seq)
  | (apply ACont_normal)
  | (apply W.region; kernel_rfl)
  | (apply Walk.nil)
  | (apply AWP.block)))
  refine AWP.loopE (α := Nat) (fun k => k ≤ l.length ∧ ∀ x ∈ l.take k, q x = false) (fun k => ⟨[(8, iV k), (7, iV l.length), (0, ints l), (1, .fn g caps)], O⟩) (fun k => l.length - k) 0 ⟨by omega, by simp⟩ ⟨rfl, rfl, by simp [look], rfl, rfl, trivial⟩ fun k hk => ?_
  by_cases hkl : k < l.length
  · have hx := hg l[k] (List.getElem_mem hkl)
    (repeat' (first
  | (apply W.qd; (first
    | (apply q_mv; (first
    | exact Eq.refl (AV.d _)
    | exact Eq.refl (AV.osl _ _ _ _)
    | exact Eq.refl (AV.opt _ _)
    | exact Eq.refl (AV.agg _)
    | exact Eq.refl (AV.fpt _ _ _ _)
    | exact Eq.refl (AV.rpt _ _ _ _)
    | exact Eq.refl (AV.fn _ _)
    | exact Eq.refl (AV.tup _)
    | exact Eq.refl AV.top))
    | (apply q_as; (first
    | exact Eq.refl (AV.d _)
    | exact Eq.refl (AV.osl _ _ _ _)
    | exact Eq.refl (AV.opt _ _)
    | exact Eq.refl (AV.agg _)
    | exact Eq.refl (AV.fpt _ _ _ _)
    | exact Eq.refl (AV.rpt _ _ _ _)
    | exact Eq.refl (AV.fn _ _)
    | exact Eq.refl (AV.tup _)
    | exact Eq.refl AV.top))
    | (apply q_lss; exact rfl; exact rfl)
    | (apply q_add; exact rfl; exact rfl; omega)
    | (apply q_ld_map; exact rfl; exact rfl; exact rfl; (first | omega | (focus (simp; done))))
    | (apply q_ix_slF; exact rfl; exact rfl; exact rfl; exact rfl; (first | (with_reducible exact rfl) | exact natI_spec rfl | assumption | exact (Int.toNat_of_nonneg (by omega)).symm); (first | omega | (focus (simp only [List.length_map]; omega)) | (focus (simp; done)) | (focus (simp; omega))))))
  | (apply W.ed; (apply (e_callS (hx)); exact rfl; exact rfl; (first | assumption | kernel_rfl)))
  | (apply AWP.seq)
  | (apply ACont_normal)
  | (apply W.region; kernel_rfl)
  | (apply Walk.nil)
  | (apply AWP.block)
  | (apply AWP.skip)
  | (apply AWP.ret)
  | (apply ACont_ret)
  | (apply ABlock_normal)
  | (apply ABlock_ret)
  | (refine W.cond _ rfl (fun hb => ?_) (fun hb => ?_) <;> ((try simp only [hb, Bool.not_true, Bool.not_false]) <;> (try simp only [decide_eq_true_eq, decide_eq_false_iff_not, Bool.not_eq_true', Bool.not_eq_false', Int.not_lt, Int.not_le, List.length_map, not_true_eq_false] at hb) <;> (try (exfalso; omega))))))
    · exact EndsS.i rfl (idxA_hit hkl hb hk.2).symm
    · refine ⟨k + 1, ⟨by omega, fun x hx => ?_⟩, by omega, ⟨rfl, by (repeat (first | exact trivial | refine ⟨rfl, ?_⟩))⟩⟩
      rw [List.take_succ_eq_append_getElem hkl] at hx
      rcases List.mem_append.1 hx with hx | hx
      · exact hk.2 x hx
      · rw [List.mem_singleton.1 hx]; exact hb
  · (repeat' (first
  | (apply W.qd; (first
    | (apply q_as; (first
    | exact Eq.refl (AV.d _)
    | exact Eq.refl (AV.osl _ _ _ _)
    | exact Eq.refl (AV.opt _ _)
    | exact Eq.refl (AV.agg _)
    | exact Eq.refl (AV.fpt _ _ _ _)
    | exact Eq.refl (AV.rpt _ _ _ _)
    | exact Eq.refl (AV.fn _ _)
    | exact Eq.refl (AV.tup _)
    | exact Eq.refl AV.top))
    | (apply q_lss; exact rfl; exact rfl)))
  | (apply AWP.seq)
  | (apply ACont_normal)
  | (apply W.region; kernel_rfl)
  | (apply Walk.nil)
  | (apply AWP.exit)
  | (apply AWP.ret)
  | (apply ACont_exit)
  | (apply ABlock_exit)
  | (refine W.cond _ rfl (fun hb => ?_) (fun hb => ?_) <;> ((try simp only [hb, Bool.not_true, Bool.not_false]) <;> (try simp only [decide_eq_true_eq, decide_eq_false_iff_not, Bool.not_eq_true', Bool.not_eq_false', Int.not_lt, Int.not_le, List.length_map, not_true_eq_false] at hb) <;> (try (exfalso; omega))))))
    refine EndsS.i rfl (idxA_miss fun x hx => hk.2 x ?_).symm
    rwa [List.take_of_length_le (by omega)]
theorem A_contains_int {O : List Ent} {g : FuncId} {caps : List AV} (q : Int → Bool) (l : List Int) (hl : l.length ≤ 1000000000) (hgf : isFn Tryd.prog g = true) (hg : ∀ x ∈ l, ACalls Tryd.prog g (iV x :: caps) O (bV (q x)) O) : ACalls Tryd.prog 72 [ints l, .fn g caps] O (bV (l.any q)) O := by
  refine acalls_of_bodyS Tryd.func72 rfl (Nat.le_of_ble_eq_true rfl) ?_
  have hi := A_index_int q l hl hgf hg
  (repeat' (first
  | (apply W.qd; (first
    | (apply q_mv; (first
    | exact Eq.refl (AV.d _)
    | exact Eq.refl (AV.osl _ _ _ _)
    | exact Eq.refl (AV.opt _ _)
    | exact Eq.refl (AV.agg _)
    | exact Eq.refl (AV.fpt _ _ _ _)
    | exact Eq.refl (AV.rpt _ _ _ _)
    | exact Eq.refl (AV.fn _ _)
    | exact Eq.refl (AV.tup _)
    | exact Eq.refl AV.top))
    | (apply q_as; (first
    | exact Eq.refl (AV.d _)
    | exact Eq.refl (AV.osl _ _ _ _)
    | exact Eq.refl (AV.opt _ _)
    | exact Eq.refl (AV.agg _)
    | exact Eq.refl (AV.fpt _ _ _ _)
    | exact Eq.refl (AV.rpt _ _ _ _)
    | exact Eq.refl (AV.fn _ _)
    | exact Eq.refl (AV.tup _)
    | exact Eq.refl AV.top))
    | (apply q_geq; exact rfl; exact rfl)))
  | (apply W.ed; (apply (e_callS (hi)); exact rfl; exact rfl; (first | assumption | kernel_rfl)))
  | (apply AWP.seq)
  | (apply ACont_normal)
  | (apply W.region; kernel_rfl)
  | (apply Walk.nil)
  | (apply AWP.ret)))
  exact EndsS.b rfl (idxA_any q l)

theorem A_index_str {O : List Ent} {g : FuncId} {caps : List AV} (q : (List Nat) → Bool) (l : List (List Nat)) (hl : l.length ≤ 1000000000) (hgf : isFn Tryd.prog g = true) (hg : ∀ x ∈ l, ACalls Tryd.prog g (bS x :: caps) O (bV (q x)) O) : ACalls Tryd.prog 104 [strs l, .fn g caps] O (iV (idxA q l)) O := by
  refine acalls_of_bodyS Tryd.func104 rfl (Nat.le_of_ble_eq_true rfl) ?_
  (repeat (first
  | (apply W.qd; (first
    | (apply q_mv; (first
    | exact Eq.refl (AV.d _)
    | exact Eq.refl (AV.osl _ _ _ _)
    | exact Eq.refl (AV.opt _ _)
    | exact Eq.refl (AV.agg _)
    | exact Eq.refl (AV.fpt _ _ _ _)
    | exact Eq.refl (AV.rpt _ _ _ _)
    | exact Eq.refl (AV.fn _ _)
    | exact Eq.refl (AV.tup _)
    | exact Eq.refl AV.top))
    | (apply q_as; (first
    | exact Eq.refl (AV.d _)
    | exact Eq.refl (AV.osl _ _ _ _)
    | exact Eq.refl (AV.opt _ _)
    | exact Eq.refl (AV.agg _)
    | exact Eq.refl (AV.fpt _ _ _ _)
    | exact Eq.refl (AV.rpt _ _ _ _)
    | exact Eq.refl (AV.fn _ _)
    | exact Eq.refl (AV.tup _)
    | exact Eq.refl AV.top))
    | (apply q_len_sl; exact rfl; exact rfl)))
  | (apply AWP.seq)
  | (apply ACont_normal)
  | (apply W.region; kernel_rfl)
  | (apply Walk.nil)
  | (apply AWP.block)))
  refine AWP.loopE (α := Nat) (fun k => k ≤ l.length ∧ ∀ x ∈ l.take k, q x = false) (fun k => ⟨[(8, iV k), (7, iV l.length), (0, strs l), (1, .fn g caps)], O⟩) (fun k => l.length - k) 0 ⟨by omega, by simp⟩ ⟨rfl, rfl, by simp [look], rfl, rfl, trivial⟩ fun k hk => ?_
  by_cases hkl : k < l.length
  · have hx := hg l[k] (List.getElem_mem hkl)
    (repeat' (first
  | (apply W.qd; (first
    | (apply q_mv; (first
    | exact Eq.refl (AV.d _)
    | exact Eq.refl (AV.osl _ _ _ _)
    | exact Eq.refl (AV.opt _ _)
    | exact Eq.refl (AV.agg _)
    | exact Eq.refl (AV.fpt _ _ _ _)
    | exact Eq.refl (AV.rpt _ _ _ _)
    | exact Eq.refl (AV.fn _ _)
    | exact Eq.refl (AV.tup _)
    | exact Eq.refl AV.top))
    | (apply q_as; (first
    | exact Eq.refl (AV.d _)
    | exact Eq.refl (AV.osl _ _ _ _)
    | exact Eq.refl (AV.opt _ _)
    | exact Eq.refl (AV.agg _)
    | exact Eq.refl (AV.fpt _ _ _ _)
    | exact Eq.refl (AV.rpt _ _ _ _)
    | exact Eq.refl (AV.fn _ _)
    | exact Eq.refl (AV.tup _)
    | exact Eq.refl AV.top))
    | (apply q_lss; exact rfl; exact rfl)
    | (apply q_add; exact rfl; exact rfl; omega)
    | (apply q_ld_map; exact rfl; exact rfl; exact rfl; (first | omega | (focus (simp; done))))
    | (apply q_ix_slF; exact rfl; exact rfl; exact rfl; exact rfl; (first | (with_reducible exact rfl) | exact natI_spec rfl | assumption | exact (Int.toNat_of_nonneg (by omega)).symm); (first | omega | (focus (simp only [List.length_map]; omega)) | (focus (simp; done)) | (focus (simp; omega))))))
  | (apply W.ed; (apply (e_callS (hx)); exact rfl; exact rfl; (first | assumption | kernel_rfl)))
  | (apply AWP.seq)
  | (apply ACont_normal)
  | (apply W.region; kernel_rfl)
  | (apply Walk.nil)
  | (apply AWP.block)
  | (apply AWP.skip)
  | (apply AWP.ret)
  | (apply ACont_ret)
  | (apply ABlock_normal)
  | (apply ABlock_ret)
  | (refine W.cond _ rfl (fun hb => ?_) (fun hb => ?_) <;> ((try simp only [hb, Bool.not_true, Bool.not_false]) <;> (try simp only [decide_eq_true_eq, decide_eq_false_iff_not, Bool.not_eq_true', Bool.not_eq_false', Int.not_lt, Int.not_le, List.length_map, not_true_eq_false] at hb) <;> (try (exfalso; omega))))))
    · exact EndsS.i rfl (idxA_hit hkl hb hk.2).symm
    · refine ⟨k + 1, ⟨by omega, fun x hx => ?_⟩, by omega, ⟨rfl, by (repeat (first | exact trivial | refine ⟨rfl, ?_⟩))⟩⟩
      rw [List.take_succ_eq_append_getElem hkl] at hx
      rcases List.mem_append.1 hx with hx | hx
      · exact hk.2 x hx
      · rw [List.mem_singleton.1 hx]; exact hb
  · (repeat' (first
  | (apply W.qd; (first
    | (apply q_as; (first
    | exact Eq.refl (AV.d _)
    | exact Eq.refl (AV.osl _ _ _ _)
    | exact Eq.refl (AV.opt _ _)
    | exact Eq.refl (AV.agg _)
    | exact Eq.refl (AV.fpt _ _ _ _)
    | exact Eq.refl (AV.rpt _ _ _ _)
    | exact Eq.refl (AV.fn _ _)
    | exact Eq.refl (AV.tup _)
    | exact Eq.refl AV.top))
    | (apply q_lss; exact rfl; exact rfl)))
  | (apply AWP.seq)
  | (apply ACont_normal)
  | (apply W.region; kernel_rfl)
  | (apply Walk.nil)
  | (apply AWP.exit)
  | (apply AWP.ret)
  | (apply ACont_exit)
  | (apply ABlock_exit)
  | (refine W.cond _ rfl (fun hb => ?_) (fun hb => ?_) <;> ((try simp only [hb, Bool.not_true, Bool.not_false]) <;> (try simp only [decide_eq_true_eq, decide_eq_false_iff_not, Bool.not_eq_true', Bool.not_eq_false', Int.not_lt, Int.not_le, List.length_map, not_true_eq_false] at hb) <;> (try (exfalso; omega))))))
    refine EndsS.i rfl (idxA_miss fun x hx => hk.2 x ?_).symm
    rwa [List.take_of_length_le (by omega)]
theorem A_contains_str {O : List Ent} {g : FuncId} {caps : List AV} (q : (List Nat) → Bool) (l : List (List Nat)) (hl : l.length ≤ 1000000000) (hgf : isFn Tryd.prog g = true) (hg : ∀ x ∈ l, ACalls Tryd.prog g (bS x :: caps) O (bV (q x)) O) : ACalls Tryd.prog 84 [strs l, .fn g caps] O (bV (l.any q)) O := by
  refine acalls_of_bodyS Tryd.func84 rfl (Nat.le_of_ble_eq_true rfl) ?_
  have hi := A_index_str q l hl hgf hg
  (repeat' (first
  | (apply W.qd; (first
    | (apply q_mv; (first
    | exact Eq.refl (AV.d _)
    | exact Eq.refl (AV.osl _ _ _ _)
    | exact Eq.refl (AV.opt _ _)
    | exact Eq.refl (AV.agg _)
    | exact Eq.refl (AV.fpt _ _ _ _)
    | exact Eq.refl (AV.rpt _ _ _ _)
    | exact Eq.refl (AV.fn _ _)
    | exact Eq.refl (AV.tup _)
    | exact Eq.refl AV.top))
    | (apply q_as; (first
    | exact Eq.refl (AV.d _)
    | exact Eq.refl (AV.osl _ _ _ _)
    | exact Eq.refl (AV.opt _ _)
    | exact Eq.refl (AV.agg _)
    | exact Eq.refl (AV.fpt _ _ _ _)
    | exact Eq.refl (AV.rpt _ _ _ _)
    | exact Eq.refl (AV.fn _ _)
    | exact Eq.refl (AV.tup _)
    | exact Eq.refl AV.top))
    | (apply q_geq; exact rfl; exact rfl)))
  | (apply W.ed; (apply (e_callS (hi)); exact rfl; exact rfl; (first | assumption | kernel_rfl)))
  | (apply AWP.seq)
  | (apply ACont_normal)
  | (apply W.region; kernel_rfl)
  | (apply Walk.nil)
  | (apply AWP.ret)))
  exact EndsS.b rfl (idxA_any q l)

theorem A_index_row {O : List Ent} {g : FuncId} {caps : List AV} (q : (List Int) → Bool) (l : List (List Int)) (hl : l.length ≤ 1000000000) (hgf : isFn Tryd.prog g = true) (hg : ∀ x ∈ l, ACalls Tryd.prog g (ints x :: caps) O (bV (q x)) O) : ACalls Tryd.prog 91 [rowsA l, .fn g caps] O (iV (idxA q l)) O := by
  refine acalls_of_bodyS Tryd.func91 rfl (Nat.le_of_ble_eq_true rfl) ?_
  (repeat (first
  | (apply W.qd; (first
    | (apply q_mv; (first
    | exact Eq.refl (AV.d _)
    | exact Eq.refl (AV.osl _ _ _ _)
    | exact Eq.refl (AV.opt _ _)
    | exact Eq.refl (AV.agg _)
    | exact Eq.refl (AV.fpt _ _ _ _)
    | exact Eq.refl (AV.rpt _ _ _ _)
    | exact Eq.refl (AV.fn _ _)
    | exact Eq.refl (AV.tup _)
    | exact Eq.refl AV.top))
    | (apply q_as; (first
    | exact Eq.refl (AV.d _)
    | exact Eq.refl (AV.osl _ _ _ _)
    | exact Eq.refl (AV.opt _ _)
    | exact Eq.refl (AV.agg _)
    | exact Eq.refl (AV.fpt _ _ _ _)
    | exact Eq.refl (AV.rpt _ _ _ _)
    | exact Eq.refl (AV.fn _ _)
    | exact Eq.refl (AV.tup _)
    | exact Eq.refl AV.top))
    | (apply q_len_sl; exact rfl; exact rfl)))
  | (apply AWP.seq)
  | (apply ACont_normal)
  | (apply W.region; kernel_rfl)
  | (apply Walk.nil)
  | (apply AWP.block)))
  refine AWP.loopE (α := Nat) (fun k => k ≤ l.length ∧ ∀ x ∈ l.take k, q x = false) (fun k => ⟨[(8, iV k), (7, iV l.length), (0, rowsA l), (1, .fn g caps)], O⟩) (fun k => l.length - k) 0 ⟨by omega, by simp⟩ ⟨rfl, rfl, by simp [look], rfl, rfl, trivial⟩ fun k hk => ?_
  by_cases hkl : k < l.length
  · have hx := hg l[k] (List.getElem_mem hkl)
    (repeat' (first
  | (apply W.qd; (first
    | (apply q_mv; (first
    | exact Eq.refl (AV.d _)
    | exact Eq.refl (AV.osl _ _ _ _)
    | exact Eq.refl (AV.opt _ _)
    | exact Eq.refl (AV.agg _)
    | exact Eq.refl (AV.fpt _ _ _ _)
    | exact Eq.refl (AV.rpt _ _ _ _)
    | exact Eq.refl (AV.fn _ _)
    | exact Eq.refl (AV.tup _)
    | exact Eq.refl AV.top))
    | (apply q_as; (first
    | exact Eq.refl (AV.d _)
    | exact Eq.refl (AV.osl _ _ _ _)
    | exact Eq.refl (AV.opt _ _)
    | exact Eq.refl (AV.agg _)
    | exact Eq.refl (AV.fpt _ _ _ _)
    | exact Eq.refl (AV.rpt _ _ _ _)
    | exact Eq.refl (AV.fn _ _)
    | exact Eq.refl (AV.tup _)
    | exact Eq.refl AV.top))
    | (apply q_lss; exact rfl; exact rfl)
    | (apply q_add; exact rfl; exact rfl; omega)
    | (apply q_ld_map; exact rfl; exact rfl; exact rfl; (first | omega | (focus (simp; done))))
    | (apply q_ix_slF; exact rfl; exact rfl; exact rfl; exact rfl; (first | (with_reducible exact rfl) | exact natI_spec rfl | assumption | exact (Int.toNat_of_nonneg (by omega)).symm); (first | omega | (focus (simp only [List.length_map]; omega)) | (focus (simp; done)) | (focus (simp; omega))))))
  | (apply W.ed; (apply (e_callS (hx)); exact rfl; exact rfl; (first | assumption | kernel_rfl)))
  | (apply AWP.seq)
  | (apply ACont_normal)
  | (apply W.region; kernel_rfl)
  | (apply Walk.nil)
  | (apply AWP.block)
  | (apply AWP.skip)
  | (apply AWP.ret)
  | (apply ACont_ret)
  | (apply ABlock_normal)
  | (apply ABlock_ret)
  | (refine W.cond _ rfl (fun hb => ?_) (fun hb => ?_) <;> ((try simp only [hb, Bool.not_true, Bool.not_false]) <;> (try simp only [decide_eq_true_eq, decide_eq_false_iff_not, Bool.not_eq_true', Bool.not_eq_false', Int.not_lt, Int.not_le, List.length_map, not_true_eq_false] at hb) <;> (try (exfalso; omega))))))
    · exact EndsS.i rfl (idxA_hit hkl hb hk.2).symm
    · refine ⟨k + 1, ⟨by omega, fun x hx => ?_⟩, by omega, ⟨rfl, by (repeat (first | exact trivial | refine ⟨rfl, ?_⟩))⟩⟩
      rw [List.take_succ_eq_append_getElem hkl] at hx
      rcases List.mem_append.1 hx with hx | hx
      · exact hk.2 x hx
      · rw [List.mem_singleton.1 hx]; exact hb
  · (repeat' (first
  | (apply W.qd; (first
    | (apply q_as; (first
    | exact Eq.refl (AV.d _)
    | exact Eq.refl (AV.osl _ _ _ _)
    | exact Eq.refl (AV.opt _ _)
    | exact Eq.refl (AV.agg _)
    | exact Eq.refl (AV.fpt _ _ _ _)
    | exact Eq.refl (AV.rpt _ _ _ _)
    | exact Eq.refl (AV.fn _ _)
    | exact Eq.refl (AV.tup _)
    | exact Eq.refl AV.top))
    | (apply q_lss; exact rfl; exact rfl)))
  | (apply AWP.seq)
  | (apply ACont_normal)
  | (apply W.region; kernel_rfl)
  | (apply Walk.nil)
  | (apply AWP.exit)
  | (apply AWP.ret)
  | (apply ACont_exit)
  | (apply ABlock_exit)
  | (refine W.cond _ rfl (fun hb => ?_) (fun hb => ?_) <;> ((try simp only [hb, Bool.not_true, Bool.not_false]) <;> (try simp only [decide_eq_true_eq, decide_eq_false_iff_not, Bool.not_eq_true', Bool.not_eq_false', Int.not_lt, Int.not_le, List.length_map, not_true_eq_false] at hb) <;> (try (exfalso; omega))))))
    refine EndsS.i rfl (idxA_miss fun x hx => hk.2 x ?_).symm
    rwa [List.take_of_length_le (by omega)]
theorem A_contains_row {O : List Ent} {g : FuncId} {caps : List AV} (q : (List Int) → Bool) (l : List (List Int)) (hl : l.length ≤ 1000000000) (hgf : isFn Tryd.prog g = true) (hg : ∀ x ∈ l, ACalls Tryd.prog g (ints x :: caps) O (bV (q x)) O) : ACalls Tryd.prog 70 [rowsA l, .fn g caps] O (bV (l.any q)) O := by
  refine acalls_of_bodyS Tryd.func70 rfl (Nat.le_of_ble_eq_true rfl) ?_
  have hi := A_index_row q l hl hgf hg
  (repeat' (first
  | (apply W.qd; (first
    | (apply q_mv; (first
    | exact Eq.refl (AV.d _)
    | exact Eq.refl (AV.osl _ _ _ _)
    | exact Eq.refl (AV.opt _ _)
    | exact Eq.refl (AV.agg _)
    | exact Eq.refl (AV.fpt _ _ _ _)
    | exact Eq.refl (AV.rpt _ _ _ _)
    | exact Eq.refl (AV.fn _ _)
    | exact Eq.refl (AV.tup _)
    | exact Eq.refl AV.top))
    | (apply q_as; (first
    | exact Eq.refl (AV.d _)
    | exact Eq.refl (AV.osl _ _ _ _)
    | exact Eq.refl (AV.opt _ _)
    | exact Eq.refl (AV.agg _)
    | exact Eq.refl (AV.fpt _ _ _ _)
    | exact Eq.refl (AV.rpt _ _ _ _)
    | exact Eq.refl (AV.fn _ _)
    | exact Eq.refl (AV.tup _)
    | exact Eq.refl AV.top))
    | (apply q_geq; exact rfl; exact rfl)))
  | (apply W.ed; (apply (e_callS (hi)); exact rfl; exact rfl; (first | assumption | kernel_rfl)))
  | (apply AWP.seq)
  | (apply ACont_normal)
  | (apply W.region; kernel_rfl)
  | (apply Walk.nil)
  | (apply AWP.ret)))
  exact EndsS.b rfl (idxA_any q l)

/-- Is a an element of a field? -/
def inF (m a : Int) : Bool := decide (0 ≤ a ∧ a < if m = 8 then 256 else 65536)
theorem shr_zero {M n : Nat} (hM : FldM M) : n >>> M = 0 ↔ (n : Int) < if (M : Int) = 8 then 256 else 65536 := by
  rw [Nat.shiftRight_eq_div_pow, Nat.div_eq_zero_iff]
  rcases hM with rfl | rfl
  · simp; omega
  · simp; omega
theorem inF_nat {M : Nat} {a : Int} (hM : FldM M) (h : inF M a = true) : ∃ n : Nat, a = n ∧ n < 2 ^ M := by
  unfold inF at h
  have h := of_decide_eq_true h
  obtain ⟨n, rfl⟩ := Int.eq_ofNat_of_zero_le h.1
  refine ⟨n, rfl, ?_⟩
  rcases hM with rfl | rfl
  · have h2 := h.2; rw [if_pos (show ((8 : Nat) : Int) = 8 from rfl)] at h2; omega
  · have h2 := h.2; rw [if_neg (show ¬ ((16 : Nat) : Int) = 8 by decide)] at h2; omega
theorem inF_lt {M n : Nat} (hM : FldM M) (h : n < 2 ^ M) : inF M n = true := by
  unfold inF
  refine decide_eq_true ⟨by omega, ?_⟩
  rcases hM with rfl | rfl
  · rw [if_pos (show ((8 : Nat) : Int) = 8 from rfl)]; omega
  · rw [if_neg (show ¬ ((16 : Nat) : Int) = 8 by decide)]; omega
theorem A_all1 {M : Nat} (a : Int) (hM : FldM M) (ha : a < 9223372036854775808) : ACalls Tryd.prog 87 [iV a, .opt 0 0] [.box [iV M]] (bV (!inF M a)) [.box [iV M]] := by
  refine acalls_of_bodyS Tryd.func87 rfl (Nat.le_of_ble_eq_true rfl) ?_
  have hM16 : 1 ≤ M ∧ M ≤ 16 := by unfold FldM at hM; omega
  by_cases h0 : 0 ≤ a
  · obtain ⟨n, rfl⟩ := Int.eq_ofNat_of_zero_le h0
    have hz := shr_zero (n := n) hM
    (repeat' (first
  | (apply W.gOn; exact rfl; exact rfl)
  | (apply W.qd; (first
    | (apply q_mv; (first
    | exact Eq.refl (AV.d _)
    | exact Eq.refl (AV.osl _ _ _ _)
    | exact Eq.refl (AV.opt _ _)
    | exact Eq.refl (AV.agg _)
    | exact Eq.refl (AV.fpt _ _ _ _)
    | exact Eq.refl (AV.rpt _ _ _ _)
    | exact Eq.refl (AV.fn _ _)
    | exact Eq.refl (AV.tup _)
    | exact Eq.refl AV.top))
    | (apply q_as; (first
    | exact Eq.refl (AV.d _)
    | exact Eq.refl (AV.osl _ _ _ _)
    | exact Eq.refl (AV.opt _ _)
    | exact Eq.refl (AV.agg _)
    | exact Eq.refl (AV.fpt _ _ _ _)
    | exact Eq.refl (AV.rpt _ _ _ _)
    | exact Eq.refl (AV.fn _ _)
    | exact Eq.refl (AV.tup _)
    | exact Eq.refl AV.top))
    | (apply q_ld_box; exact rfl; exact rfl; exact rfl; exact rfl)
    | (apply q_lss; exact rfl; exact rfl)
    | (apply q_neq; exact rfl; exact rfl)
    | (apply (q_pickF (u := .d _)); exact rfl; exact rfl)
    | (apply q_shrN; exact rfl; exact rfl; (first | (with_reducible exact rfl) | exact natI_spec rfl | assumption | exact (Int.toNat_of_nonneg (by omega)).symm); (first | (with_reducible exact rfl) | exact natI_spec rfl | assumption | exact (Int.toNat_of_nonneg (by omega)).symm); focus (show _ ≤ 64; omega))))
  | (apply AWP.seq)
  | (apply ACont_normal)
  | (apply W.region; kernel_rfl)
  | (apply Walk.nil)
  | (apply AWP.ret)))
    refine EndsS.b rfl ?_
    unfold inF
    congr 1
    rw [decide_eq_decide, Int.natCast_eq_zero, hz]
    constructor
    · intro h; exact ⟨by omega, h⟩
    · exact fun h => h.2
  · (repeat' (first
  | (apply W.qd; (first
    | (apply q_mv; (first
    | exact Eq.refl (AV.d _)
    | exact Eq.refl (AV.osl _ _ _ _)
    | exact Eq.refl (AV.opt _ _)
    | exact Eq.refl (AV.agg _)
    | exact Eq.refl (AV.fpt _ _ _ _)
    | exact Eq.refl (AV.rpt _ _ _ _)
    | exact Eq.refl (AV.fn _ _)
    | exact Eq.refl (AV.tup _)
    | exact Eq.refl AV.top))
    | (apply q_as; (first
    | exact Eq.refl (AV.d _)
    | exact Eq.refl (AV.osl _ _ _ _)
    | exact Eq.refl (AV.opt _ _)
    | exact Eq.refl (AV.agg _)
    | exact Eq.refl (AV.fpt _ _ _ _)
    | exact Eq.refl (AV.rpt _ _ _ _)
    | exact Eq.refl (AV.fn _ _)
    | exact Eq.refl (AV.tup _)
    | exact Eq.refl AV.top))
    | (apply q_lss; exact rfl; exact rfl)
    | (apply (q_pickT (u := .d _)); exact rfl; exact rfl)))
  | (refine W.gOff _ _ rfl rfl (by intro h; cases h) ?_)
  | (apply AWP.seq)
  | (apply ACont_normal)
  | (apply W.region; kernel_rfl)
  | (apply Walk.nil)
  | (apply AWP.ret)
  | (refine W.gF _ _ rfl rfl (fun hb => ?_) (fun hb => ?_) <;> ((try simp only [hb, Bool.not_true, Bool.not_false]) <;> (try simp only [decide_eq_true_eq, decide_eq_false_iff_not, Bool.not_eq_true', Bool.not_eq_false', Int.not_lt, Int.not_le, List.length_map, not_true_eq_false] at hb) <;> (try (exfalso; omega))))))
    refine EndsS.b rfl ?_
    unfold inF
    rw [decide_eq_false fun h => h0 h.1]; rfl
/-- Are m a field and all numbers of l its elements? -/
def allF (m : Int) (l : List Int) : Bool := decide (m = 8 ∨ m = 16) && l.all (inF m)
theorem A_all (m : Int) (l : List Int) (hl : l.length ≤ 1000000000) (hb : ∀ x ∈ l, x < 9223372036854775808) : ACalls Tryd.prog 65 [iV m, ints l] [] (bV (allF m l)) [] := by
  refine acalls_of_body Tryd.func65 rfl (Nat.le_of_ble_eq_true rfl) ?_
  have hmod := A_modulus m
  by_cases hm : m = 8 ∨ m = 16
  · obtain ⟨M, rfl⟩ := Int.eq_ofNat_of_zero_le (show 0 ≤ m by omega)
    have hM : FldM M := by unfold FldM; omega
    have hp := hM.mod
    have hc := A_contains_int (O := [.box [iV M]]) (g := 87) (caps := [.opt 0 0]) (fun a => !inF M a) l hl (by kernel_rfl) (fun x hx => A_all1 x hM (hb x hx))
    have hneq : ((modN M : Nat) : Int) ≠ 0 := by have := hp.1; omega
    (repeat' (first
  | (apply W.gOn; exact rfl; exact rfl)
  | (apply W.qd; (first
    | (apply (q_callC (hmod)); exact rfl; exact rfl; kernel_rfl; kernel_rfl; kernel_rfl)
    | (apply q_mv; (first
    | exact Eq.refl (AV.d _)
    | exact Eq.refl (AV.osl _ _ _ _)
    | exact Eq.refl (AV.opt _ _)
    | exact Eq.refl (AV.agg _)
    | exact Eq.refl (AV.fpt _ _ _ _)
    | exact Eq.refl (AV.rpt _ _ _ _)
    | exact Eq.refl (AV.fn _ _)
    | exact Eq.refl (AV.tup _)
    | exact Eq.refl AV.top))
    | (apply q_as; (first
    | exact Eq.refl (AV.d _)
    | exact Eq.refl (AV.osl _ _ _ _)
    | exact Eq.refl (AV.opt _ _)
    | exact Eq.refl (AV.agg _)
    | exact Eq.refl (AV.fpt _ _ _ _)
    | exact Eq.refl (AV.rpt _ _ _ _)
    | exact Eq.refl (AV.fn _ _)
    | exact Eq.refl (AV.tup _)
    | exact Eq.refl AV.top))
    | (apply q_ld_box; exact rfl; exact rfl; exact rfl; exact rfl)
    | (apply q_neq; exact rfl; exact rfl)
    | (apply q_not; exact rfl)
    | (apply q_makeFunc)
    | (apply (q_pickT (u := .d _)); exact rfl; exact rfl)))
  | (apply W.ed; (first
    | (apply (e_callS (hc)); exact rfl; exact rfl; (first | assumption | kernel_rfl))
    | (apply e_boxF; exact rfl; exact rfl; exact rfl; kernel_rfl; kernel_rfl)))
  | (apply AWP.seq)
  | (apply ACont_normal)
  | (apply W.region; kernel_rfl)
  | (apply Walk.nil)
  | (apply AWP.ret)
  | (refine W.gT _ _ rfl rfl (fun hb => ?_) (fun hb => ?_) <;> ((try simp only [hb, Bool.not_true, Bool.not_false]) <;> (try simp only [decide_eq_true_eq, decide_eq_false_iff_not, Bool.not_eq_true', Bool.not_eq_false', Int.not_lt, Int.not_le, List.length_map, not_true_eq_false] at hb) <;> (try (exfalso; omega))))))
    · refine Ends.b rfl ?_
      unfold allF
      rw [decide_eq_true hm, Bool.true_and, List.all_eq_not_any_not]
  · have h0 : modN m = 0 := by unfold modN; rw [if_neg (by omega), if_neg (by omega)]
    rw [h0] at hmod
    (repeat' (first
  | (apply W.qd; (first
    | (apply (q_callC (hmod)); exact rfl; exact rfl; kernel_rfl; kernel_rfl; kernel_rfl)
    | (apply q_mv; (first
    | exact Eq.refl (AV.d _)
    | exact Eq.refl (AV.osl _ _ _ _)
    | exact Eq.refl (AV.opt _ _)
    | exact Eq.refl (AV.agg _)
    | exact Eq.refl (AV.fpt _ _ _ _)
    | exact Eq.refl (AV.rpt _ _ _ _)
    | exact Eq.refl (AV.fn _ _)
    | exact Eq.refl (AV.tup _)
    | exact Eq.refl AV.top))
    | (apply q_as; (first
    | exact Eq.refl (AV.d _)
    | exact Eq.refl (AV.osl _ _ _ _)
    | exact Eq.refl (AV.opt _ _)
    | exact Eq.refl (AV.agg _)
    | exact Eq.refl (AV.fpt _ _ _ _)
    | exact Eq.refl (AV.rpt _ _ _ _)
    | exact Eq.refl (AV.fn _ _)
    | exact Eq.refl (AV.tup _)
    | exact Eq.refl AV.top))
    | (apply q_ld_box; exact rfl; exact rfl; exact rfl; exact rfl)
    | (apply q_neq; exact rfl; exact rfl)
    | (apply (q_pickF (u := .d _)); exact rfl; exact rfl)))
  | (apply W.ed; (apply e_boxF; exact rfl; exact rfl; exact rfl; kernel_rfl; kernel_rfl))
  | (refine W.gOff _ _ rfl rfl (by intro h; cases h) ?_)
  | (apply AWP.seq)
  | (apply ACont_normal)
  | (apply W.region; kernel_rfl)
  | (apply Walk.nil)
  | (apply AWP.ret)))
    exact Ends.b rfl (by unfold allF; rw [decide_eq_false hm]; rfl)
theorem A_fvalid (m a : Int) (hb : a < 9223372036854775808) : ACalls Tryd.prog 45 [iV m, iV a] [] (bV (allF m [a])) [] := by
  refine acalls_of_body Tryd.func45 rfl (Nat.le_of_ble_eq_true rfl) ?_
  have hc := A_all m [a] (by simp) (by simpa using hb)
  (repeat' (first
  | (apply W.qd; (first
    | (apply (q_callC (hc)); exact rfl; exact rfl; kernel_rfl; kernel_rfl; kernel_rfl)
    | (apply q_mv; (first
    | exact Eq.refl (AV.d _)
    | exact Eq.refl (AV.osl _ _ _ _)
    | exact Eq.refl (AV.opt _ _)
    | exact Eq.refl (AV.agg _)
    | exact Eq.refl (AV.fpt _ _ _ _)
    | exact Eq.refl (AV.rpt _ _ _ _)
    | exact Eq.refl (AV.fn _ _)
    | exact Eq.refl (AV.tup _)
    | exact Eq.refl AV.top))
    | (apply q_as; (first
    | exact Eq.refl (AV.d _)
    | exact Eq.refl (AV.osl _ _ _ _)
    | exact Eq.refl (AV.opt _ _)
    | exact Eq.refl (AV.agg _)
    | exact Eq.refl (AV.fpt _ _ _ _)
    | exact Eq.refl (AV.rpt _ _ _ _)
    | exact Eq.refl (AV.fn _ _)
    | exact Eq.refl (AV.tup _)
    | exact Eq.refl AV.top))
    | (apply q_litF; exact rfl; exact rfl; exact rfl; exact rfl; exact rfl; kernel_rfl; kernel_rfl; exact rfl)))
  | (apply AWP.seq)
  | (apply ACont_normal)
  | (apply W.region; kernel_rfl)
  | (apply Walk.nil)
  | (apply AWP.ret)))
  exact Ends.b rfl rfl
/-- A product of elements of a field. -/
def mulZ (m a b : Int) : Int := (Gf.mul m.toNat (modN m) a.toNat b.toNat : Nat)
theorem A_mul {M : Nat} {a b : Nat} (hM : FldM M) (ha : a < 2 ^ M) (hb : b < 2 ^ M) : ACalls Tryd.prog 96 [iV M, iV a, iV b] [] (.tup [iV (Gf.mul M (modN M) a b : Nat), iV 0]) [] := by
  refine acalls_of_body Tryd.func96 rfl (Nat.le_of_ble_eq_true rfl) ?_
  have ha' := hM.cap ha
  have hb' := hM.cap hb
  have hc := A_all M [a, b] (by simp) (by simp; omega)
  have hall : allF M [(a : Int), (b : Int)] = true := by
    unfold allF
    rw [decide_eq_true (by unfold FldM at hM; omega)]
    simp [inF_lt hM ha, inF_lt hM hb]
  rw [hall] at hc
  have hp := A_product hM ha hb
  (repeat' (first
  | (apply W.qd; (first
    | (apply (q_callC (hc)); exact rfl; exact rfl; kernel_rfl; kernel_rfl; kernel_rfl)
    | (apply (q_callC (hp)); exact rfl; exact rfl; kernel_rfl; kernel_rfl; kernel_rfl)
    | (apply q_mv; (first
    | exact Eq.refl (AV.d _)
    | exact Eq.refl (AV.osl _ _ _ _)
    | exact Eq.refl (AV.opt _ _)
    | exact Eq.refl (AV.agg _)
    | exact Eq.refl (AV.fpt _ _ _ _)
    | exact Eq.refl (AV.rpt _ _ _ _)
    | exact Eq.refl (AV.fn _ _)
    | exact Eq.refl (AV.tup _)
    | exact Eq.refl AV.top))
    | (apply q_as; (first
    | exact Eq.refl (AV.d _)
    | exact Eq.refl (AV.osl _ _ _ _)
    | exact Eq.refl (AV.opt _ _)
    | exact Eq.refl (AV.agg _)
    | exact Eq.refl (AV.fpt _ _ _ _)
    | exact Eq.refl (AV.rpt _ _ _ _)
    | exact Eq.refl (AV.fn _ _)
    | exact Eq.refl (AV.tup _)
    | exact Eq.refl AV.top))
    | (apply q_not; exact rfl)
    | (apply q_litF; exact rfl; exact rfl; exact rfl; exact rfl; exact rfl; kernel_rfl; kernel_rfl; exact rfl)))
  | (apply AWP.seq)
  | (apply ACont_normal)
  | (apply W.region; kernel_rfl)
  | (apply Walk.nil)
  | (apply AWP.skip)
  | (apply AWP.ret)
  | (apply W.condF; exact rfl)))
  exact Ends.two rfl rfl rfl
theorem A_inv {M : Nat} {a : Nat} (hM : FldM M) (ha : a < 2 ^ M) (h0 : a ≠ 0) : ACalls Tryd.prog 76 [iV M, iV a] [] (.tup [iV (invN M a : Nat), iV 0]) [] := by
  refine acalls_of_body Tryd.func76 rfl (Nat.le_of_ble_eq_true rfl) ?_
  have ha' := hM.cap ha
  have hc := A_all M [a] (by simp) (by simp; omega)
  have hall : allF M [(a : Int)] = true := by
    unfold allF
    rw [decide_eq_true (by unfold FldM at hM; omega)]
    simp [inF_lt hM ha]
  rw [hall] at hc
  have hp := A_inverse hM ha h0
  (repeat' (first
  | (apply W.qd; (first
    | (apply (q_callC (hc)); exact rfl; exact rfl; kernel_rfl; kernel_rfl; kernel_rfl)
    | (apply (q_callC (hp)); exact rfl; exact rfl; kernel_rfl; kernel_rfl; kernel_rfl)
    | (apply q_mv; (first
    | exact Eq.refl (AV.d _)
    | exact Eq.refl (AV.osl _ _ _ _)
    | exact Eq.refl (AV.opt _ _)
    | exact Eq.refl (AV.agg _)
    | exact Eq.refl (AV.fpt _ _ _ _)
    | exact Eq.refl (AV.rpt _ _ _ _)
    | exact Eq.refl (AV.fn _ _)
    | exact Eq.refl (AV.tup _)
    | exact Eq.refl AV.top))
    | (apply q_as; (first
    | exact Eq.refl (AV.d _)
    | exact Eq.refl (AV.osl _ _ _ _)
    | exact Eq.refl (AV.opt _ _)
    | exact Eq.refl (AV.agg _)
    | exact Eq.refl (AV.fpt _ _ _ _)
    | exact Eq.refl (AV.rpt _ _ _ _)
    | exact Eq.refl (AV.fn _ _)
    | exact Eq.refl (AV.tup _)
    | exact Eq.refl AV.top))
    | (apply q_eql; exact rfl; exact rfl)
    | (apply q_not; exact rfl)
    | (apply q_litF; exact rfl; exact rfl; exact rfl; exact rfl; exact rfl; kernel_rfl; kernel_rfl; exact rfl)))
  | (apply AWP.seq)
  | (apply ACont_normal)
  | (apply W.region; kernel_rfl)
  | (apply Walk.nil)
  | (apply AWP.block)
  | (apply AWP.skip)
  | (apply AWP.ret)
  | (apply ABlock_normal)
  | (apply W.condF; exact rfl)
  | (refine W.cond _ rfl (fun hb => ?_) (fun hb => ?_) <;> ((try simp only [hb, Bool.not_true, Bool.not_false]) <;> (try simp only [decide_eq_true_eq, decide_eq_false_iff_not, Bool.not_eq_true', Bool.not_eq_false', Int.not_lt, Int.not_le, List.length_map, not_true_eq_false] at hb) <;> (try (exfalso; omega))))))
  exact Ends.two rfl rfl rfl
end Go.Proofs.YtjaipchlnnjaeaaDoor
end

section
/- The reference of package field over the machine of abstract values: polynomial, Valid, times, Mul, power, Inv. -/
namespace Go.Proofs.YtjaipchlnnjaeaaDoor
open Go.RowKit
set_option linter.unusedVariables false
set_option linter.unusedSimpArgs false
set_option maxHeartbeats 4000000
set_option maxRecDepth 100000
attribute [local irreducible] Quiet Eff OpOk AWPG ACont ABlock ACalls

theorem A_poly (m : Int) : ACalls Tryd.prog 74 [iV m] [] (iV (modN m)) [] := by
  refine acalls_of_body Tryd.func74 rfl (Nat.le_of_ble_eq_true rfl) ?_
  (repeat' (first
  | (apply W.qd; (first
    | (apply q_mv; (first
    | exact Eq.refl (AV.d _)
    | exact Eq.refl (AV.osl _ _ _ _)
    | exact Eq.refl (AV.opt _ _)
    | exact Eq.refl (AV.agg _)
    | exact Eq.refl (AV.fpt _ _ _ _)
    | exact Eq.refl (AV.rpt _ _ _ _)
    | exact Eq.refl (AV.fn _ _)
    | exact Eq.refl (AV.tup _)
    | exact Eq.refl AV.top))
    | (apply q_as; (first
    | exact Eq.refl (AV.d _)
    | exact Eq.refl (AV.osl _ _ _ _)
    | exact Eq.refl (AV.opt _ _)
    | exact Eq.refl (AV.agg _)
    | exact Eq.refl (AV.fpt _ _ _ _)
    | exact Eq.refl (AV.rpt _ _ _ _)
    | exact Eq.refl (AV.fn _ _)
    | exact Eq.refl (AV.tup _)
    | exact Eq.refl AV.top))
    | (apply q_eql; exact rfl; exact rfl)))
  | (apply AWP.seq)
  | (apply ACont_normal)
  | (apply W.region; kernel_rfl)
  | (apply Walk.nil)
  | (apply AWP.skip)
  | (apply AWP.ret)
  | (apply ACont_ret)
  | (refine W.cond _ rfl (fun hb => ?_) (fun hb => ?_) <;> ((try simp only [hb, Bool.not_true, Bool.not_false]) <;> (try simp only [decide_eq_true_eq, decide_eq_false_iff_not, Bool.not_eq_true', Bool.not_eq_false', Int.not_lt, Int.not_le, List.length_map, not_true_eq_false] at hb) <;> (try (exfalso; omega))))))
  · exact Ends.i rfl (by unfold modN; rw [if_pos hb]; rfl)
  · rename_i h
    exact Ends.i rfl (by unfold modN; rw [if_neg h, if_pos hb]; rfl)
  · rename_i h
    exact Ends.i rfl (by unfold modN; rw [if_neg h, if_neg hb]; rfl)
theorem one_shl (M : Nat) : 1 <<< M = 2 ^ M := by rw [Nat.shiftLeft_eq, Nat.one_mul]
theorem FldM.pow {M : Nat} (h : FldM M) : 2 ^ M ≤ 65536 ∧ 256 ≤ 2 ^ M := by
  rcases h with rfl | rfl
  · exact ⟨by decide, by decide⟩
  · exact ⟨by decide, by decide⟩
theorem A_rfvalid (m a : Int) : ACalls Tryd.prog 51 [iV m, iV a] [] (bV (allF m [a])) [] := by
  refine acalls_of_body Tryd.func51 rfl (Nat.le_of_ble_eq_true rfl) ?_
  have hmod := A_poly m
  by_cases hm : m = 8 ∨ m = 16
  · obtain ⟨M, rfl⟩ := Int.eq_ofNat_of_zero_le (show 0 ≤ m by omega)
    have hM : FldM M := by unfold FldM; omega
    have hp := hM.mod
    have hpw := hM.pow
    have h1 := one_shl M
    have hcap1 : ∀ s : Nat, s ≤ M → 1 <<< s < 9223372036854775808 := fun s hs => by
      rw [one_shl]
      have := Nat.pow_le_pow_right (show 0 < 2 by omega) hs
      omega
    have hneq : ((modN M : Nat) : Int) ≠ 0 := by have := hp.1; omega
    have hM16 : 1 ≤ M ∧ M ≤ 16 := by unfold FldM at hM; omega
    have key : allF M [a] = decide (0 ≤ a ∧ a < ((1 <<< M : Nat) : Int)) := by
      unfold allF
      rw [decide_eq_true hm]
      simp only [List.all_cons, List.all_nil, Bool.and_true, Bool.true_and]
      unfold inF
      rcases hM with rfl | rfl <;> rfl
    rw [key]
    (repeat' (first
  | (apply W.gOn; exact rfl; exact rfl)
  | (apply W.qd; (first
    | (apply (q_callC (hmod)); exact rfl; exact rfl; kernel_rfl; kernel_rfl; kernel_rfl)
    | (apply q_mv; (first
    | exact Eq.refl (AV.d _)
    | exact Eq.refl (AV.osl _ _ _ _)
    | exact Eq.refl (AV.opt _ _)
    | exact Eq.refl (AV.agg _)
    | exact Eq.refl (AV.fpt _ _ _ _)
    | exact Eq.refl (AV.rpt _ _ _ _)
    | exact Eq.refl (AV.fn _ _)
    | exact Eq.refl (AV.tup _)
    | exact Eq.refl AV.top))
    | (apply q_as; (first
    | exact Eq.refl (AV.d _)
    | exact Eq.refl (AV.osl _ _ _ _)
    | exact Eq.refl (AV.opt _ _)
    | exact Eq.refl (AV.agg _)
    | exact Eq.refl (AV.fpt _ _ _ _)
    | exact Eq.refl (AV.rpt _ _ _ _)
    | exact Eq.refl (AV.fn _ _)
    | exact Eq.refl (AV.tup _)
    | exact Eq.refl AV.top))
    | (apply q_lss; exact rfl; exact rfl)
    | (apply q_geq; exact rfl; exact rfl)
    | (apply q_neq; exact rfl; exact rfl)
    | (apply (q_pickT (u := .d _)); exact rfl; exact rfl)
    | (apply (q_pickF (u := .d _)); exact rfl; exact rfl)
    | (apply q_shlN; exact rfl; exact rfl; (first | (with_reducible exact rfl) | exact natI_spec rfl | assumption | exact (Int.toNat_of_nonneg (by omega)).symm); (first | (with_reducible exact rfl) | exact natI_spec rfl | assumption | exact (Int.toNat_of_nonneg (by omega)).symm); exact rfl; omega; (first | (apply hcap1; omega) | (apply hcap2; omega) | (apply hcap3; omega) | (apply hcap4; omega) | (focus (show _ < 9223372036854775808; omega)) | (focus (show _ < 256; omega)) | assumption))))
  | (refine W.gOff _ _ rfl rfl (by intro h; cases h) ?_)
  | (apply AWP.seq)
  | (apply ACont_normal)
  | (apply W.region; kernel_rfl)
  | (apply Walk.nil)
  | (apply AWP.ret)
  | (refine W.gT _ _ rfl rfl (fun hb => ?_) (fun hb => ?_) <;> ((try simp only [hb, Bool.not_true, Bool.not_false]) <;> (try simp only [decide_eq_true_eq, decide_eq_false_iff_not, Bool.not_eq_true', Bool.not_eq_false', Int.not_lt, Int.not_le, List.length_map, not_true_eq_false] at hb) <;> (try (exfalso; omega))))))
    all_goals refine Ends.b rfl ?_
    all_goals generalize ((1 <<< M : Nat) : Int) = z
    all_goals first
      | (rw [decide_eq_decide]; omega)
      | (symm; rw [decide_eq_false_iff_not]; omega)
  · have h0 : modN m = 0 := by unfold modN; rw [if_neg (by omega), if_neg (by omega)]
    rw [h0] at hmod
    (repeat' (first
  | (apply W.qd; (first
    | (apply (q_callC (hmod)); exact rfl; exact rfl; kernel_rfl; kernel_rfl; kernel_rfl)
    | (apply q_mv; (first
    | exact Eq.refl (AV.d _)
    | exact Eq.refl (AV.osl _ _ _ _)
    | exact Eq.refl (AV.opt _ _)
    | exact Eq.refl (AV.agg _)
    | exact Eq.refl (AV.fpt _ _ _ _)
    | exact Eq.refl (AV.rpt _ _ _ _)
    | exact Eq.refl (AV.fn _ _)
    | exact Eq.refl (AV.tup _)
    | exact Eq.refl AV.top))
    | (apply q_as; (first
    | exact Eq.refl (AV.d _)
    | exact Eq.refl (AV.osl _ _ _ _)
    | exact Eq.refl (AV.opt _ _)
    | exact Eq.refl (AV.agg _)
    | exact Eq.refl (AV.fpt _ _ _ _)
    | exact Eq.refl (AV.rpt _ _ _ _)
    | exact Eq.refl (AV.fn _ _)
    | exact Eq.refl (AV.tup _)
    | exact Eq.refl AV.top))
    | (apply q_neq; exact rfl; exact rfl)
    | (apply (q_pickF (u := .d _)); exact rfl; exact rfl)))
  | (refine W.gOff _ _ rfl rfl (by intro h; cases h) ?_)
  | (apply AWP.seq)
  | (apply ACont_normal)
  | (apply W.region; kernel_rfl)
  | (apply Walk.nil)
  | (apply AWP.ret)))
    exact Ends.b rfl (by unfold allF; rw [decide_eq_false hm]; rfl)
theorem A_times {M a b : Nat} (hM : FldM M) (ha : a < 2 ^ M) (hb : b < 2 ^ M) : ACalls Tryd.prog 54 [iV M, iV a, iV b] [] (iV (Gf.mul M (modN M) a b : Nat)) [] := by
  refine acalls_of_body Tryd.func54 rfl (Nat.le_of_ble_eq_true rfl) ?_
  have hmod := A_poly M
  have g := hM.gen
  have hp := hM.mod
  have hpw := hM.pow
  have hM16 : 1 ≤ M ∧ M ≤ 16 := by unfold FldM at hM; omega
  have h1 := one_shl M
  have hcap1 : ∀ s : Nat, s ≤ M → 1 <<< s < 9223372036854775808 := fun s hs => by
    rw [one_shl]
    have := Nat.pow_le_pow_right (show 0 < 2 by omega) hs
    omega
  (repeat' (first
  | (apply W.qd; (first
    | (apply (q_callC (hmod)); exact rfl; exact rfl; kernel_rfl; kernel_rfl; kernel_rfl)
    | (apply q_mv; (first
    | exact Eq.refl (AV.d _)
    | exact Eq.refl (AV.osl _ _ _ _)
    | exact Eq.refl (AV.opt _ _)
    | exact Eq.refl (AV.agg _)
    | exact Eq.refl (AV.fpt _ _ _ _)
    | exact Eq.refl (AV.rpt _ _ _ _)
    | exact Eq.refl (AV.fn _ _)
    | exact Eq.refl (AV.tup _)
    | exact Eq.refl AV.top))
    | (apply q_as; (first
    | exact Eq.refl (AV.d _)
    | exact Eq.refl (AV.osl _ _ _ _)
    | exact Eq.refl (AV.opt _ _)
    | exact Eq.refl (AV.agg _)
    | exact Eq.refl (AV.fpt _ _ _ _)
    | exact Eq.refl (AV.rpt _ _ _ _)
    | exact Eq.refl (AV.fn _ _)
    | exact Eq.refl (AV.tup _)
    | exact Eq.refl AV.top))))
  | (apply AWP.seq)
  | (apply ACont_normal)
  | (apply W.region; kernel_rfl)
  | (apply Walk.nil)
  | (apply AWP.block)))
  refine AWP.loopW (α := Nat × Nat × Nat × Nat) (fun s => s.1 ≤ M ∧ s.2.1 < 2 ^ M ∧ s.2.2.1 < 2 ^ M ∧ s.2.2.2 < 2 ^ s.1 ∧ s.2.1 ^^^ Gf.mulK M (modN M) s.1 s.2.2.1 s.2.2.2 = Gf.mul M (modN M) a b) (fun s => ⟨[(8, iV s.2.1), (1, iV s.2.2.1), (2, iV s.2.2.2), (7, iV (modN M)), (0, iV M)], []⟩) (fun s => s.2.2.2) (M, 0, a, b) ⟨Nat.le_refl _, Nat.two_pow_pos M, ha, hb, by rw [Nat.zero_xor]; rfl⟩ ⟨[], rfl, rfl, rfl, by (repeat (first | exact trivial | refine ⟨rfl, ?_⟩))⟩ fun s hs => ?_
  obtain ⟨k, o, x, c⟩ := s
  dsimp only at hs ⊢
  obtain ⟨s1, s2, s3, s4, s5⟩ := hs
  have c1 := hM.cap s2
  have c2 := hM.cap s3
  have c3 : c < 65536 := by have := Nat.pow_le_pow_right (show 0 < 2 by omega) s1; omega
  by_cases hc : c = 0
  · (repeat' (first
  | (apply W.qd; (first
    | (apply q_mv; (first
    | exact Eq.refl (AV.d _)
    | exact Eq.refl (AV.osl _ _ _ _)
    | exact Eq.refl (AV.opt _ _)
    | exact Eq.refl (AV.agg _)
    | exact Eq.refl (AV.fpt _ _ _ _)
    | exact Eq.refl (AV.rpt _ _ _ _)
    | exact Eq.refl (AV.fn _ _)
    | exact Eq.refl (AV.tup _)
    | exact Eq.refl AV.top))
    | (apply q_as; (first
    | exact Eq.refl (AV.d _)
    | exact Eq.refl (AV.osl _ _ _ _)
    | exact Eq.refl (AV.opt _ _)
    | exact Eq.refl (AV.agg _)
    | exact Eq.refl (AV.fpt _ _ _ _)
    | exact Eq.refl (AV.rpt _ _ _ _)
    | exact Eq.refl (AV.fn _ _)
    | exact Eq.refl (AV.tup _)
    | exact Eq.refl AV.top))
    | (apply q_gtr; exact rfl; exact rfl)))
  | (apply AWP.seq)
  | (apply ACont_normal)
  | (apply W.region; kernel_rfl)
  | (apply Walk.nil)
  | (apply AWP.exit)
  | (apply AWP.ret)
  | (apply ACont_exit)
  | (apply ABlock_exit)
  | (refine W.cond _ rfl (fun hb => ?_) (fun hb => ?_) <;> ((try simp only [hb, Bool.not_true, Bool.not_false]) <;> (try simp only [decide_eq_true_eq, decide_eq_false_iff_not, Bool.not_eq_true', Bool.not_eq_false', Int.not_lt, Int.not_le, List.length_map, not_true_eq_false] at hb) <;> (try (exfalso; omega))))))
    refine Ends.i rfl (congrArg _ ?_)
    rw [hc, Gf.mulK_zero_right, Nat.xor_zero] at s5
    exact s5
  · obtain ⟨k', rfl⟩ : ∃ k', k = k' + 1 := by
      cases k with
      | zero => simp at s4; omega
      | succ k => exact ⟨k, rfl⟩
    have hxt := Gf.xt_ge (p := modN M) hM16.1 s3
    have hxl := Gf.xt_lt (p := modN M) g.hm g.top g.lt s3
    have e2 : (2 * (x : Int)).toNat = 2 * x := by omega
    have c4 : 2 * x ^^^ modN M < 131072 := Nat.xor_lt_two_pow (n := 17) (by omega) hp.2
    have hox : o ^^^ x < 2 ^ M := Nat.xor_lt_two_pow s2 s3
    have hc2 : c / 2 < 2 ^ k' := by rw [Nat.pow_succ] at s4; omega
    rw [Gf.mulK_succ', Nat.testBit_zero] at s5
    have hodd : c % 2 = 1 → (o ^^^ x) ^^^ Gf.mulK M (modN M) k' (Gf.xt M (modN M) x) (c / 2) = Gf.mul M (modN M) a b := fun h => by
      rw [decide_eq_true h] at s5
      rw [Nat.xor_assoc]; exact s5
    have heven : ¬ c % 2 = 1 → o ^^^ Gf.mulK M (modN M) k' (Gf.xt M (modN M) x) (c / 2) = Gf.mul M (modN M) a b := fun h => by
      rw [decide_eq_false h] at s5
      simpa using s5
    (repeat' (first
  | (apply W.qd; (first
    | (apply q_mv; (first
    | exact Eq.refl (AV.d _)
    | exact Eq.refl (AV.osl _ _ _ _)
    | exact Eq.refl (AV.opt _ _)
    | exact Eq.refl (AV.agg _)
    | exact Eq.refl (AV.fpt _ _ _ _)
    | exact Eq.refl (AV.rpt _ _ _ _)
    | exact Eq.refl (AV.fn _ _)
    | exact Eq.refl (AV.tup _)
    | exact Eq.refl AV.top))
    | (apply q_as; (first
    | exact Eq.refl (AV.d _)
    | exact Eq.refl (AV.osl _ _ _ _)
    | exact Eq.refl (AV.opt _ _)
    | exact Eq.refl (AV.agg _)
    | exact Eq.refl (AV.fpt _ _ _ _)
    | exact Eq.refl (AV.rpt _ _ _ _)
    | exact Eq.refl (AV.fn _ _)
    | exact Eq.refl (AV.tup _)
    | exact Eq.refl AV.top))
    | (apply q_gtr; exact rfl; exact rfl)
    | (apply q_geq; exact rfl; exact rfl)
    | (apply q_eql; exact rfl; exact rfl)
    | (apply q_mul; exact rfl; exact rfl; (first | omega | assumption))
    | (apply q_quo; exact rfl; exact rfl; omega; omega; omega)
    | (apply q_rem; exact rfl; exact rfl; omega; omega)
    | (apply q_xorN; exact rfl; exact rfl; (first | (with_reducible exact rfl) | exact natI_spec rfl | assumption | exact (Int.toNat_of_nonneg (by omega)).symm); (first | (with_reducible exact rfl) | exact natI_spec rfl | assumption | exact (Int.toNat_of_nonneg (by omega)).symm); (first | (apply hcap1; omega) | (apply hcap2; omega) | (apply hcap3; omega) | (apply hcap4; omega) | (focus (show _ < 9223372036854775808; omega)) | (focus (show _ < 256; omega)) | assumption); (first | (apply hcap1; omega) | (apply hcap2; omega) | (apply hcap3; omega) | (apply hcap4; omega) | (focus (show _ < 9223372036854775808; omega)) | (focus (show _ < 256; omega)) | assumption))
    | (apply q_shlN; exact rfl; exact rfl; (first | (with_reducible exact rfl) | exact natI_spec rfl | assumption | exact (Int.toNat_of_nonneg (by omega)).symm); (first | (with_reducible exact rfl) | exact natI_spec rfl | assumption | exact (Int.toNat_of_nonneg (by omega)).symm); exact rfl; omega; (first | (apply hcap1; omega) | (apply hcap2; omega) | (apply hcap3; omega) | (apply hcap4; omega) | (focus (show _ < 9223372036854775808; omega)) | (focus (show _ < 256; omega)) | assumption))))
  | (apply AWP.seq)
  | (apply ACont_normal)
  | (apply W.region; kernel_rfl)
  | (apply Walk.nil)
  | (apply AWP.block)
  | (apply AWP.skip)
  | (apply ABlock_normal)
  | (refine W.cond _ rfl (fun hb => ?_) (fun hb => ?_) <;> ((try simp only [hb, Bool.not_true, Bool.not_false]) <;> (try simp only [decide_eq_true_eq, decide_eq_false_iff_not, Bool.not_eq_true', Bool.not_eq_false', Int.not_lt, Int.not_le, List.length_map, not_true_eq_false] at hb) <;> (try (exfalso; omega))))))
    all_goals (rename_i hq)
    · exact ⟨(k', o ^^^ x, Gf.xt M (modN M) x, c / 2), ⟨by omega, hox, hxl, hc2, hodd (by omega)⟩, by dsimp only; omega, [], rfl, rfl, rfl, rfl, iV_eq (by dsimp only; rw [hxt.1 (by omega), e2]), iV_eq (by dsimp only; omega), rfl, rfl, trivial⟩
    · exact ⟨(k', o ^^^ x, Gf.xt M (modN M) x, c / 2), ⟨by omega, hox, hxl, hc2, hodd (by omega)⟩, by dsimp only; omega, [], rfl, rfl, rfl, rfl, iV_eq (by dsimp only; rw [hxt.2 (by omega)]; omega), iV_eq (by dsimp only; omega), rfl, rfl, trivial⟩
    · exact ⟨(k', o, Gf.xt M (modN M) x, c / 2), ⟨by omega, s2, hxl, hc2, heven (by omega)⟩, by dsimp only; omega, [], rfl, rfl, rfl, rfl, iV_eq (by dsimp only; rw [hxt.1 (by omega), e2]), iV_eq (by dsimp only; omega), rfl, rfl, trivial⟩
    · exact ⟨(k', o, Gf.xt M (modN M) x, c / 2), ⟨by omega, s2, hxl, hc2, heven (by omega)⟩, by dsimp only; omega, [], rfl, rfl, rfl, rfl, iV_eq (by dsimp only; rw [hxt.2 (by omega)]; omega), iV_eq (by dsimp only; omega), rfl, rfl, trivial⟩
theorem A_power {M a n : Nat} (hM : FldM M) (ha : a < 2 ^ M) (hn : n < 65536) : ACalls Tryd.prog 109 [iV M, iV a, iV n] [] (iV (Gf.pw M (modN M) a n : Nat)) [] := by
  refine acalls_of_body Tryd.func109 rfl (Nat.le_of_ble_eq_true rfl) ?_
  have g := hM.gen
  (repeat' (first
  | (apply W.qd; (apply q_as; (first
    | exact Eq.refl (AV.d _)
    | exact Eq.refl (AV.osl _ _ _ _)
    | exact Eq.refl (AV.opt _ _)
    | exact Eq.refl (AV.agg _)
    | exact Eq.refl (AV.fpt _ _ _ _)
    | exact Eq.refl (AV.rpt _ _ _ _)
    | exact Eq.refl (AV.fn _ _)
    | exact Eq.refl (AV.tup _)
    | exact Eq.refl AV.top)))
  | (apply AWP.seq)
  | (apply ACont_normal)
  | (apply W.region; kernel_rfl)
  | (apply Walk.nil)
  | (apply AWP.block)))
  refine AWP.loopW (α := Nat × Nat × Nat) (fun s => s.1 < 2 ^ M ∧ s.2.1 < 2 ^ M ∧ s.2.2 < 65536 ∧ Gf.mul M (modN M) s.1 (Gf.pw M (modN M) s.2.1 s.2.2) = Gf.pw M (modN M) a n) (fun s => ⟨[(7, iV s.1), (1, iV s.2.1), (2, iV s.2.2), (0, iV M)], []⟩) (fun s => s.2.2) (1, a, n) ⟨g.pos, ha, hn, Gf.one_mul (Gf.pw_lt g ha n)⟩ ⟨[], rfl, rfl, rfl, by (repeat (first | exact trivial | refine ⟨rfl, ?_⟩))⟩ fun s hs => ?_
  obtain ⟨o, x, c⟩ := s
  dsimp only at hs ⊢
  obtain ⟨s1, s2, s3, s4⟩ := hs
  by_cases hc : c = 0
  · (repeat' (first
  | (apply W.qd; (first
    | (apply q_mv; (first
    | exact Eq.refl (AV.d _)
    | exact Eq.refl (AV.osl _ _ _ _)
    | exact Eq.refl (AV.opt _ _)
    | exact Eq.refl (AV.agg _)
    | exact Eq.refl (AV.fpt _ _ _ _)
    | exact Eq.refl (AV.rpt _ _ _ _)
    | exact Eq.refl (AV.fn _ _)
    | exact Eq.refl (AV.tup _)
    | exact Eq.refl AV.top))
    | (apply q_as; (first
    | exact Eq.refl (AV.d _)
    | exact Eq.refl (AV.osl _ _ _ _)
    | exact Eq.refl (AV.opt _ _)
    | exact Eq.refl (AV.agg _)
    | exact Eq.refl (AV.fpt _ _ _ _)
    | exact Eq.refl (AV.rpt _ _ _ _)
    | exact Eq.refl (AV.fn _ _)
    | exact Eq.refl (AV.tup _)
    | exact Eq.refl AV.top))
    | (apply q_gtr; exact rfl; exact rfl)))
  | (apply AWP.seq)
  | (apply ACont_normal)
  | (apply W.region; kernel_rfl)
  | (apply Walk.nil)
  | (apply AWP.exit)
  | (apply AWP.ret)
  | (apply ACont_exit)
  | (apply ABlock_exit)
  | (refine W.cond _ rfl (fun hb => ?_) (fun hb => ?_) <;> ((try simp only [hb, Bool.not_true, Bool.not_false]) <;> (try simp only [decide_eq_true_eq, decide_eq_false_iff_not, Bool.not_eq_true', Bool.not_eq_false', Int.not_lt, Int.not_le, List.length_map, not_true_eq_false] at hb) <;> (try (exfalso; omega))))))
    refine Ends.i rfl (congrArg _ ?_)
    rw [hc] at s4
    rw [← s4, Gf.pw, Gf.mul_one g.hm s1]
  · have ht1 := A_times hM s1 s2
    have ht2 := A_times hM s2 s2
    have l1 := Gf.mul_lt g.hm g.top g.lt s1 x
    have l2 := Gf.mul_lt g.hm g.top g.lt s2 x
    have hsq := Gf.pw_sq g s2 (c / 2)
    have lp := Gf.pw_lt g s2 (2 * (c / 2))
    have hodd : c % 2 = 1 → Gf.mul M (modN M) (Gf.mul M (modN M) o x) (Gf.pw M (modN M) (Gf.mul M (modN M) x x) (c / 2)) = Gf.pw M (modN M) a n := fun h => by
      have e : c = 2 * (c / 2) + 1 := by omega
      rw [hsq, Gf.mul_right_comm, Gf.mul_assoc g.hm g.top g.lt s1 lp s2, ← s4]
      congr 1
      show Gf.pw M (modN M) x (2 * (c / 2) + 1) = _
      rw [← e]
    have heven : ¬ c % 2 = 1 → Gf.mul M (modN M) o (Gf.pw M (modN M) (Gf.mul M (modN M) x x) (c / 2)) = Gf.pw M (modN M) a n := fun h => by
      rw [hsq, show 2 * (c / 2) = c from by omega]; exact s4
    (repeat' (first
  | (apply W.qd; (first
    | (apply (q_callC (ht1)); exact rfl; exact rfl; kernel_rfl; kernel_rfl; kernel_rfl)
    | (apply (q_callC (ht2)); exact rfl; exact rfl; kernel_rfl; kernel_rfl; kernel_rfl)
    | (apply q_mv; (first
    | exact Eq.refl (AV.d _)
    | exact Eq.refl (AV.osl _ _ _ _)
    | exact Eq.refl (AV.opt _ _)
    | exact Eq.refl (AV.agg _)
    | exact Eq.refl (AV.fpt _ _ _ _)
    | exact Eq.refl (AV.rpt _ _ _ _)
    | exact Eq.refl (AV.fn _ _)
    | exact Eq.refl (AV.tup _)
    | exact Eq.refl AV.top))
    | (apply q_as; (first
    | exact Eq.refl (AV.d _)
    | exact Eq.refl (AV.osl _ _ _ _)
    | exact Eq.refl (AV.opt _ _)
    | exact Eq.refl (AV.agg _)
    | exact Eq.refl (AV.fpt _ _ _ _)
    | exact Eq.refl (AV.rpt _ _ _ _)
    | exact Eq.refl (AV.fn _ _)
    | exact Eq.refl (AV.tup _)
    | exact Eq.refl AV.top))
    | (apply q_gtr; exact rfl; exact rfl)
    | (apply q_eql; exact rfl; exact rfl)
    | (apply q_quo; exact rfl; exact rfl; omega; omega; omega)
    | (apply q_rem; exact rfl; exact rfl; omega; omega)))
  | (apply AWP.seq)
  | (apply ACont_normal)
  | (apply W.region; kernel_rfl)
  | (apply Walk.nil)
  | (apply AWP.block)
  | (apply AWP.skip)
  | (apply ABlock_normal)
  | (refine W.cond _ rfl (fun hb => ?_) (fun hb => ?_) <;> ((try simp only [hb, Bool.not_true, Bool.not_false]) <;> (try simp only [decide_eq_true_eq, decide_eq_false_iff_not, Bool.not_eq_true', Bool.not_eq_false', Int.not_lt, Int.not_le, List.length_map, not_true_eq_false] at hb) <;> (try (exfalso; omega))))))
    · exact ⟨(Gf.mul M (modN M) o x, Gf.mul M (modN M) x x, c / 2), ⟨l1, l2, by dsimp only; omega, hodd (by omega)⟩, by dsimp only; omega, [], rfl, rfl, rfl, rfl, rfl, iV_eq (by dsimp only; omega), rfl, trivial⟩
    · exact ⟨(o, Gf.mul M (modN M) x x, c / 2), ⟨s1, l2, by dsimp only; omega, heven (by omega)⟩, by dsimp only; omega, [], rfl, rfl, rfl, rfl, rfl, iV_eq (by dsimp only; omega), rfl, trivial⟩
theorem all2 {M : Nat} {a : Nat} (hM : FldM M) (ha : a < 2 ^ M) : allF M [(a : Int)] = true := by
  unfold allF
  rw [decide_eq_true (by unfold FldM at hM; omega)]
  simp [inF_lt hM ha]
theorem A_rmul {M : Nat} {a b : Nat} (hM : FldM M) (ha : a < 2 ^ M) (hb : b < 2 ^ M) : ACalls Tryd.prog 27 [iV M, iV a, iV b] [] (.tup [iV (Gf.mul M (modN M) a b : Nat), iV 0]) [] := by
  refine acalls_of_body Tryd.func27 rfl (Nat.le_of_ble_eq_true rfl) ?_
  have h1 := A_rfvalid M a
  have h2 := A_rfvalid M b
  rw [all2 hM ha] at h1
  rw [all2 hM hb] at h2
  have hp := A_times hM ha hb
  (repeat' (first
  | (apply W.gOn; exact rfl; exact rfl)
  | (apply W.qd; (first
    | (apply (q_callC (h1)); exact rfl; exact rfl; kernel_rfl; kernel_rfl; kernel_rfl)
    | (apply (q_callC (h2)); exact rfl; exact rfl; kernel_rfl; kernel_rfl; kernel_rfl)
    | (apply (q_callC (hp)); exact rfl; exact rfl; kernel_rfl; kernel_rfl; kernel_rfl)
    | (apply q_mv; (first
    | exact Eq.refl (AV.d _)
    | exact Eq.refl (AV.osl _ _ _ _)
    | exact Eq.refl (AV.opt _ _)
    | exact Eq.refl (AV.agg _)
    | exact Eq.refl (AV.fpt _ _ _ _)
    | exact Eq.refl (AV.rpt _ _ _ _)
    | exact Eq.refl (AV.fn _ _)
    | exact Eq.refl (AV.tup _)
    | exact Eq.refl AV.top))
    | (apply q_as; (first
    | exact Eq.refl (AV.d _)
    | exact Eq.refl (AV.osl _ _ _ _)
    | exact Eq.refl (AV.opt _ _)
    | exact Eq.refl (AV.agg _)
    | exact Eq.refl (AV.fpt _ _ _ _)
    | exact Eq.refl (AV.rpt _ _ _ _)
    | exact Eq.refl (AV.fn _ _)
    | exact Eq.refl (AV.tup _)
    | exact Eq.refl AV.top))
    | (apply q_not; exact rfl)
    | (apply (q_pickF (u := .d _)); exact rfl; exact rfl)))
  | (apply AWP.seq)
  | (apply ACont_normal)
  | (apply W.region; kernel_rfl)
  | (apply Walk.nil)
  | (apply AWP.skip)
  | (apply AWP.ret)
  | (apply W.condF; exact rfl)))
  exact Ends.two rfl rfl rfl
theorem A_rinv {M : Nat} {a : Nat} (hM : FldM M) (ha : a < 2 ^ M) (h0 : a ≠ 0) : ACalls Tryd.prog 108 [iV M, iV a] [] (.tup [iV (invN M a : Nat), iV 0]) [] := by
  refine acalls_of_body Tryd.func108 rfl (Nat.le_of_ble_eq_true rfl) ?_
  have g := hM.gen
  have h1 := A_rfvalid M a
  rw [all2 hM ha] at h1
  have hpw := hM.pow
  have hsh := one_shl M
  have hp := A_power hM ha (n := 2 ^ M - 2) (by omega)
  have hM16 : 1 ≤ M ∧ M ≤ 16 := by unfold FldM at hM; omega
  have hcap1 : ∀ s : Nat, s ≤ M → 1 <<< s < 9223372036854775808 := fun s hs => by
    rw [one_shl]
    have := Nat.pow_le_pow_right (show 0 < 2 by omega) hs
    omega
  have e : ((1 <<< M : Nat) : Int) - 2 = ((2 ^ M - 2 : Nat) : Int) := by rw [hsh]; omega
  have hb : ((1 <<< M : Nat) : Int) ≤ 65536 ∧ 0 ≤ ((1 <<< M : Nat) : Int) := by rw [hsh]; omega
  rw [← e] at hp
  (repeat' (first
  | (apply W.qd; (first
    | (apply (q_callC (h1)); exact rfl; exact rfl; kernel_rfl; kernel_rfl; kernel_rfl)
    | (apply (q_callC (hp)); exact rfl; exact rfl; kernel_rfl; kernel_rfl; kernel_rfl)
    | (apply q_mv; (first
    | exact Eq.refl (AV.d _)
    | exact Eq.refl (AV.osl _ _ _ _)
    | exact Eq.refl (AV.opt _ _)
    | exact Eq.refl (AV.agg _)
    | exact Eq.refl (AV.fpt _ _ _ _)
    | exact Eq.refl (AV.rpt _ _ _ _)
    | exact Eq.refl (AV.fn _ _)
    | exact Eq.refl (AV.tup _)
    | exact Eq.refl AV.top))
    | (apply q_as; (first
    | exact Eq.refl (AV.d _)
    | exact Eq.refl (AV.osl _ _ _ _)
    | exact Eq.refl (AV.opt _ _)
    | exact Eq.refl (AV.agg _)
    | exact Eq.refl (AV.fpt _ _ _ _)
    | exact Eq.refl (AV.rpt _ _ _ _)
    | exact Eq.refl (AV.fn _ _)
    | exact Eq.refl (AV.tup _)
    | exact Eq.refl AV.top))
    | (apply q_eql; exact rfl; exact rfl)
    | (apply q_not; exact rfl)
    | (apply q_sub; exact rfl; exact rfl; omega)
    | (apply q_shlN; exact rfl; exact rfl; (first | (with_reducible exact rfl) | exact natI_spec rfl | assumption | exact (Int.toNat_of_nonneg (by omega)).symm); (first | (with_reducible exact rfl) | exact natI_spec rfl | assumption | exact (Int.toNat_of_nonneg (by omega)).symm); exact rfl; omega; (first | (apply hcap1; omega) | (apply hcap2; omega) | (apply hcap3; omega) | (apply hcap4; omega) | (focus (show _ < 9223372036854775808; omega)) | (focus (show _ < 256; omega)) | assumption))))
  | (apply AWP.seq)
  | (apply ACont_normal)
  | (apply W.region; kernel_rfl)
  | (apply Walk.nil)
  | (apply AWP.skip)
  | (apply AWP.ret)
  | (apply W.condF; exact rfl)
  | (refine W.cond _ rfl (fun hb => ?_) (fun hb => ?_) <;> ((try simp only [hb, Bool.not_true, Bool.not_false]) <;> (try simp only [decide_eq_true_eq, decide_eq_false_iff_not, Bool.not_eq_true', Bool.not_eq_false', Int.not_lt, Int.not_le, List.length_map, not_true_eq_false] at hb) <;> (try (exfalso; omega))))))
  refine Ends.two rfl rfl ?_
  rw [invN_eq hM ha (Gf.pw_lt g ha _) (Gf.pw_inv g ha h0)]
  rfl
end Go.Proofs.YtjaipchlnnjaeaaDoor
end

section
/- The reference of package field over the machine of abstract values: Xor, Scale, Combine. -/
namespace Go.Proofs.YtjaipchlnnjaeaaDoor
open Go.RowKit
set_option linter.unusedVariables false
set_option linter.unusedSimpArgs false
set_option maxHeartbeats 4000000
set_option maxRecDepth 100000
attribute [local irreducible] Quiet Eff OpOk AWPG ACont ABlock ACalls

def xorL (a b : List Nat) : List Nat := List.zipWith (· ^^^ ·) a b
theorem xorL_length (a b : List Nat) (h : a.length = b.length) : (xorL a b).length = a.length := by simp [xorL, h]
theorem xorL_get (a b : List Nat) (k : Nat) (h : k < (xorL a b).length) (ha : k < a.length) (hb : k < b.length) : (xorL a b)[k] = a[k] ^^^ b[k] := by simp [xorL]
theorem isB_xor {a b : List Nat} (ha : isB a) (hb : isB b) : isB (xorL a b) := fun x hx => by
  obtain ⟨k, hk, rfl⟩ := List.getElem_of_mem hx
  have h1 : k < a.length ∧ k < b.length := by simp [xorL] at hk; omega
  rw [xorL_get a b k hk h1.1 h1.2]
  exact Nat.xor_lt_two_pow (n := 8) (ha _ (List.getElem_mem _)) (hb _ (List.getElem_mem _))
theorem isB_take {l : List Nat} (h : isB l) (k : Nat) : isB (l.take k) := fun x hx => h x (List.mem_of_mem_take hx)
theorem take_snoc1 {α : Type} (l : List α) (k : Nat) (h : k < l.length) : l.take k ++ [l[k]] = l.take (k + 1) := (List.take_succ_eq_append_getElem h).symm

theorem A_rxor {a b : List Nat} (hBa : isB a) (hBb : isB b) (hl : a.length ≤ 1000000) (hl2 : b.length ≤ 1000000) : ACalls Tryd.prog 24 [bS a, bS b] [] (if a.length = b.length then .tup [bS (xorL a b), iV 0] else .tup [bS [], iV 1]) [] := by
  refine acalls_of_body Tryd.func24 rfl (Nat.le_of_ble_eq_true rfl) ?_
  by_cases hab : a.length = b.length
  · rw [if_pos hab]
    have hL := xorL_length a b hab
    (repeat' (first
  | (apply W.qd; (first
    | (apply q_mv; (first
    | exact Eq.refl (AV.d _)
    | exact Eq.refl (AV.osl _ _ _ _)
    | exact Eq.refl (AV.opt _ _)
    | exact Eq.refl (AV.agg _)
    | exact Eq.refl (AV.fpt _ _ _ _)
    | exact Eq.refl (AV.rpt _ _ _ _)
    | exact Eq.refl (AV.fn _ _)
    | exact Eq.refl (AV.tup _)
    | exact Eq.refl AV.top))
    | (apply q_as; (first
    | exact Eq.refl (AV.d _)
    | exact Eq.refl (AV.osl _ _ _ _)
    | exact Eq.refl (AV.opt _ _)
    | exact Eq.refl (AV.agg _)
    | exact Eq.refl (AV.fpt _ _ _ _)
    | exact Eq.refl (AV.rpt _ _ _ _)
    | exact Eq.refl (AV.fn _ _)
    | exact Eq.refl (AV.tup _)
    | exact Eq.refl AV.top))
    | (apply q_neq; exact rfl; exact rfl)
    | (apply q_len_bs; exact rfl; exact rfl)))
  | (apply AWP.seq)
  | (apply ACont_normal)
  | (apply W.region; kernel_rfl)
  | (apply Walk.nil)
  | (apply AWP.block)
  | (apply AWP.skip)
  | (refine W.cond _ rfl (fun hb => ?_) (fun hb => ?_) <;> ((try simp only [hb, Bool.not_true, Bool.not_false]) <;> (try simp only [decide_eq_true_eq, decide_eq_false_iff_not, Bool.not_eq_true', Bool.not_eq_false', Int.not_lt, Int.not_le, List.length_map, not_true_eq_false] at hb) <;> (try (exfalso; omega))))))
    refine AWP.nilRow 6 1 5 rfl (by omega) ?_
    refine AWP.loopW (α := Nat) (fun k => k ≤ a.length) (fun k => ⟨[(7, iV k), (6, .osl 0 k 0 ((xorL a b).take k).length), (0, bS a), (1, bS b)], [.row k 1 5 (((xorL a b).take k).map nD)]⟩) (fun k => a.length - k) 0 (by omega) ⟨[0], rfl, rfl, rfl, by (repeat (first | exact trivial | refine ⟨rfl, ?_⟩))⟩ fun k hk => ?_
    have hlt : ((xorL a b).take k).length ≤ 1000000 := by simp only [List.length_take]; omega
    by_cases hka : k < a.length
    · have c1 := hBa a[k] (List.getElem_mem hka)
      have c2 := hBb (b[k]'(by omega)) (List.getElem_mem _)
      have ht := take_snoc1 (xorL a b) k (by omega)
      rw [xorL_get a b k (by omega) hka (by omega)] at ht
      (repeat' (first
  | (apply W.qd; (first
    | (apply q_mv; (first
    | exact Eq.refl (AV.d _)
    | exact Eq.refl (AV.osl _ _ _ _)
    | exact Eq.refl (AV.opt _ _)
    | exact Eq.refl (AV.agg _)
    | exact Eq.refl (AV.fpt _ _ _ _)
    | exact Eq.refl (AV.rpt _ _ _ _)
    | exact Eq.refl (AV.fn _ _)
    | exact Eq.refl (AV.tup _)
    | exact Eq.refl AV.top))
    | (apply q_as; (first
    | exact Eq.refl (AV.d _)
    | exact Eq.refl (AV.osl _ _ _ _)
    | exact Eq.refl (AV.opt _ _)
    | exact Eq.refl (AV.agg _)
    | exact Eq.refl (AV.fpt _ _ _ _)
    | exact Eq.refl (AV.rpt _ _ _ _)
    | exact Eq.refl (AV.fn _ _)
    | exact Eq.refl (AV.tup _)
    | exact Eq.refl AV.top))
    | (apply q_lss; exact rfl; exact rfl)
    | (apply q_add; exact rfl; exact rfl; omega)
    | (apply q_len_bs; exact rfl; exact rfl)
    | (apply q_ix_bs; exact rfl; exact rfl; exact rfl; (first | (with_reducible exact rfl) | exact natI_spec rfl | assumption | exact (Int.toNat_of_nonneg (by omega)).symm); (first | omega | (focus (simp only [List.length_map]; omega)) | (focus (simp; done)) | (focus (simp; omega))); assumption)
    | (apply q_litF; exact rfl; exact rfl; exact rfl; exact rfl; exact rfl; kernel_rfl; kernel_rfl; exact rfl)
    | (apply q_xorN; exact rfl; exact rfl; (first | (with_reducible exact rfl) | exact natI_spec rfl | assumption | exact (Int.toNat_of_nonneg (by omega)).symm); (first | (with_reducible exact rfl) | exact natI_spec rfl | assumption | exact (Int.toNat_of_nonneg (by omega)).symm); (first | (apply hcap1; omega) | (apply hcap2; omega) | (apply hcap3; omega) | (apply hcap4; omega) | (focus (show _ < 9223372036854775808; omega)) | (focus (show _ < 256; omega)) | assumption); (first | (apply hcap1; omega) | (apply hcap2; omega) | (apply hcap3; omega) | (apply hcap4; omega) | (focus (show _ < 9223372036854775808; omega)) | (focus (show _ < 256; omega)) | assumption))))
  | (apply W.ed; (apply e_app1F; exact rfl; exact rfl; exact rfl; exact rfl; exact rfl; exact rfl; exact rfl; exact rfl; (first | omega | (focus (simp; omega)) | (focus (simp; done)))))
  | (apply AWP.seq)
  | (apply ACont_normal)
  | (apply W.region; kernel_rfl)
  | (apply W.regionD; exact rfl; kernel_rfl)
  | (apply Walk.nil)
  | (apply W.chk; kernel_rfl)
  | (apply AWP.block)
  | (apply AWP.skip)
  | (apply ABlock_normal)
  | (refine W.cond _ rfl (fun hb => ?_) (fun hb => ?_) <;> ((try simp only [hb, Bool.not_true, Bool.not_false]) <;> (try simp only [decide_eq_true_eq, decide_eq_false_iff_not, Bool.not_eq_true', Bool.not_eq_false', Int.not_lt, Int.not_le, List.length_map, not_true_eq_false] at hb) <;> (try (exfalso; omega))))))
      refine ⟨k + 1, by omega, by omega, [0], rfl, rfl, ?_, rfl, ?_, rfl, rfl, trivial⟩
      · rw [← ht]; rfl
      · rw [← ht]; rfl
    · have hfull : (xorL a b).take k = xorL a b := List.take_of_length_le (by omega)
      rw [hfull]
      have hB := isB_xor hBa hBb
      (repeat' (first
  | (apply W.qd; (first
    | (apply q_mv; (first
    | exact Eq.refl (AV.d _)
    | exact Eq.refl (AV.osl _ _ _ _)
    | exact Eq.refl (AV.opt _ _)
    | exact Eq.refl (AV.agg _)
    | exact Eq.refl (AV.fpt _ _ _ _)
    | exact Eq.refl (AV.rpt _ _ _ _)
    | exact Eq.refl (AV.fn _ _)
    | exact Eq.refl (AV.tup _)
    | exact Eq.refl AV.top))
    | (apply q_as; (first
    | exact Eq.refl (AV.d _)
    | exact Eq.refl (AV.osl _ _ _ _)
    | exact Eq.refl (AV.opt _ _)
    | exact Eq.refl (AV.agg _)
    | exact Eq.refl (AV.fpt _ _ _ _)
    | exact Eq.refl (AV.rpt _ _ _ _)
    | exact Eq.refl (AV.fn _ _)
    | exact Eq.refl (AV.tup _)
    | exact Eq.refl AV.top))
    | (apply q_lss; exact rfl; exact rfl)
    | (apply q_len_bs; exact rfl; exact rfl)
    | (apply q_str_osl; exact rfl; exact rfl; exact rfl; exact rfl; (first | rfl | (focus (simp; done))); assumption)))
  | (apply AWP.seq)
  | (apply ACont_normal)
  | (apply W.region; kernel_rfl)
  | (apply Walk.nil)
  | (apply AWP.exit)
  | (apply AWP.ret)
  | (apply ACont_exit)
  | (apply ABlock_exit)
  | (refine W.cond _ rfl (fun hb => ?_) (fun hb => ?_) <;> ((try simp only [hb, Bool.not_true, Bool.not_false]) <;> (try simp only [decide_eq_true_eq, decide_eq_false_iff_not, Bool.not_eq_true', Bool.not_eq_false', Int.not_lt, Int.not_le, List.length_map, not_true_eq_false] at hb) <;> (try (exfalso; omega))))))
      exact Ends.two rfl rfl rfl
  · rw [if_neg hab]
    (repeat' (first
  | (apply W.qd; (first
    | (apply q_mv; (first
    | exact Eq.refl (AV.d _)
    | exact Eq.refl (AV.osl _ _ _ _)
    | exact Eq.refl (AV.opt _ _)
    | exact Eq.refl (AV.agg _)
    | exact Eq.refl (AV.fpt _ _ _ _)
    | exact Eq.refl (AV.rpt _ _ _ _)
    | exact Eq.refl (AV.fn _ _)
    | exact Eq.refl (AV.tup _)
    | exact Eq.refl AV.top))
    | (apply q_as; (first
    | exact Eq.refl (AV.d _)
    | exact Eq.refl (AV.osl _ _ _ _)
    | exact Eq.refl (AV.opt _ _)
    | exact Eq.refl (AV.agg _)
    | exact Eq.refl (AV.fpt _ _ _ _)
    | exact Eq.refl (AV.rpt _ _ _ _)
    | exact Eq.refl (AV.fn _ _)
    | exact Eq.refl (AV.tup _)
    | exact Eq.refl AV.top))
    | (apply q_neq; exact rfl; exact rfl)
    | (apply q_len_bs; exact rfl; exact rfl)))
  | (apply AWP.seq)
  | (apply ACont_normal)
  | (apply W.region; kernel_rfl)
  | (apply Walk.nil)
  | (apply AWP.ret)
  | (apply ACont_ret)
  | (refine W.cond _ rfl (fun hb => ?_) (fun hb => ?_) <;> ((try simp only [hb, Bool.not_true, Bool.not_false]) <;> (try simp only [decide_eq_true_eq, decide_eq_false_iff_not, Bool.not_eq_true', Bool.not_eq_false', Int.not_lt, Int.not_le, List.length_map, not_true_eq_false] at hb) <;> (try (exfalso; omega))))))
    exact Ends.two rfl rfl rfl

/-- A unit times an element: symbols of one byte, of two. -/
def scale8 (c : Nat) (l : List Nat) : List Nat := l.map fun a => Gf.mul 8 (modN 8) c a
def scale16 (c : Nat) : List Nat → List Nat
  | a :: b :: l => Gf.mul 16 (modN 16) c (256 * a + b) / 256 :: Gf.mul 16 (modN 16) c (256 * a + b) % 256 :: scale16 c l
  | _ => []
theorem scale8_length (c : Nat) (l : List Nat) : (scale8 c l).length = l.length := by simp [scale8]
theorem isB_scale8 {c : Nat} {l : List Nat} (hc : c < 2 ^ 8) : isB (scale8 c l) := fun x hx => by
  obtain ⟨a, _, rfl⟩ := List.mem_map.1 hx
  exact Gf.mul_lt (FldM.gen (.inl rfl)).hm (FldM.gen (.inl rfl)).top (FldM.gen (.inl rfl)).lt hc a
theorem f8 : FldM 8 := .inl rfl
theorem f16 : FldM 16 := .inr rfl
theorem A_rscale8 {c : Nat} {l : List Nat} (hc : c < 2 ^ 8) (hl : isB l) (hn : l.length ≤ 1000000) : ACalls Tryd.prog 69 [iV (8 : Nat), iV c, bS l] [] (.tup [bS (scale8 c l), iV 0]) [] := by
  refine acalls_of_body Tryd.func69 rfl (Nat.le_of_ble_eq_true rfl) ?_
  have hv := A_rfvalid (8 : Nat) c
  rw [all2 f8 hc] at hv
  have hL := scale8_length c l
  (repeat' (first
  | (apply W.gOn; exact rfl; exact rfl)
  | (apply W.qd; (first
    | (apply (q_callC (hv)); exact rfl; exact rfl; kernel_rfl; kernel_rfl; kernel_rfl)
    | (apply q_mv; (first
    | exact Eq.refl (AV.d _)
    | exact Eq.refl (AV.osl _ _ _ _)
    | exact Eq.refl (AV.opt _ _)
    | exact Eq.refl (AV.agg _)
    | exact Eq.refl (AV.fpt _ _ _ _)
    | exact Eq.refl (AV.rpt _ _ _ _)
    | exact Eq.refl (AV.fn _ _)
    | exact Eq.refl (AV.tup _)
    | exact Eq.refl AV.top))
    | (apply q_as; (first
    | exact Eq.refl (AV.d _)
    | exact Eq.refl (AV.osl _ _ _ _)
    | exact Eq.refl (AV.opt _ _)
    | exact Eq.refl (AV.agg _)
    | exact Eq.refl (AV.fpt _ _ _ _)
    | exact Eq.refl (AV.rpt _ _ _ _)
    | exact Eq.refl (AV.fn _ _)
    | exact Eq.refl (AV.tup _)
    | exact Eq.refl AV.top))
    | (apply q_eql; exact rfl; exact rfl)
    | (apply q_not; exact rfl)
    | (apply (q_pickF (u := .d _)); exact rfl; exact rfl)))
  | (refine W.gOff _ _ rfl rfl (by intro h; cases h) ?_)
  | (apply AWP.seq)
  | (apply ACont_normal)
  | (apply W.region; kernel_rfl)
  | (apply Walk.nil)
  | (apply AWP.block)
  | (apply AWP.skip)
  | (apply W.condF; exact rfl)))
  refine AWP.nilRow 9 1 5 rfl (by omega) ?_
  refine AWP.loopW (α := Nat) (fun k => k ≤ l.length) (fun k => ⟨[(10, iV k), (9, .osl 0 k 0 ((scale8 c l).take k).length), (0, iV (8 : Nat)), (1, iV c), (2, bS l)], [.row k 1 5 (((scale8 c l).take k).map nD)]⟩) (fun k => l.length - k) 0 (by omega) ⟨[0], rfl, rfl, rfl, by (repeat (first | exact trivial | refine ⟨rfl, ?_⟩))⟩ fun k hk => ?_
  have hlt : ((scale8 c l).take k).length ≤ 1000000 := by simp only [List.length_take]; omega
  by_cases hkl : k < l.length
  · have c1 := hl l[k] (List.getElem_mem hkl)
    have ht := A_times f8 hc (b := l[k]) (by omega)
    have hlt2 := isB_scale8 (l := l) hc (Gf.mul 8 (modN 8) c l[k]) (List.mem_map.2 ⟨_, List.getElem_mem hkl, rfl⟩)
    have hs := take_snoc1 (scale8 c l) k (by omega)
    rw [show (scale8 c l)[k]'(by omega) = Gf.mul 8 (modN 8) c l[k] from by simp [scale8]] at hs
    (repeat' (first
  | (apply W.qd; (first
    | (apply (q_callC (ht)); exact rfl; exact rfl; kernel_rfl; kernel_rfl; kernel_rfl)
    | (apply q_mv; (first
    | exact Eq.refl (AV.d _)
    | exact Eq.refl (AV.osl _ _ _ _)
    | exact Eq.refl (AV.opt _ _)
    | exact Eq.refl (AV.agg _)
    | exact Eq.refl (AV.fpt _ _ _ _)
    | exact Eq.refl (AV.rpt _ _ _ _)
    | exact Eq.refl (AV.fn _ _)
    | exact Eq.refl (AV.tup _)
    | exact Eq.refl AV.top))
    | (apply q_as; (first
    | exact Eq.refl (AV.d _)
    | exact Eq.refl (AV.osl _ _ _ _)
    | exact Eq.refl (AV.opt _ _)
    | exact Eq.refl (AV.agg _)
    | exact Eq.refl (AV.fpt _ _ _ _)
    | exact Eq.refl (AV.rpt _ _ _ _)
    | exact Eq.refl (AV.fn _ _)
    | exact Eq.refl (AV.tup _)
    | exact Eq.refl AV.top))
    | (apply q_lss; exact rfl; exact rfl)
    | (apply q_eql; exact rfl; exact rfl)
    | (apply q_add; exact rfl; exact rfl; omega)
    | (apply q_quo; exact rfl; exact rfl; omega; omega; omega)
    | (apply q_len_bs; exact rfl; exact rfl)
    | (apply q_ix_bs; exact rfl; exact rfl; exact rfl; (first | (with_reducible exact rfl) | exact natI_spec rfl | assumption | exact (Int.toNat_of_nonneg (by omega)).symm); (first | omega | (focus (simp only [List.length_map]; omega)) | (focus (simp; done)) | (focus (simp; omega))); assumption)
    | (apply q_litF; exact rfl; exact rfl; exact rfl; exact rfl; exact rfl; kernel_rfl; kernel_rfl; exact rfl)
    | (apply q_convI; exact rfl; exact rfl; exact rfl; omega)
    | (apply q_conv8; exact rfl; exact rfl; exact rfl; (first | (with_reducible exact rfl) | exact natI_spec rfl | assumption | exact (Int.toNat_of_nonneg (by omega)).symm); omega)))
  | (apply W.ed; (apply e_app1F; exact rfl; exact rfl; exact rfl; exact rfl; exact rfl; exact rfl; exact rfl; exact rfl; (first | omega | (focus (simp; omega)) | (focus (simp; done)))))
  | (apply AWP.seq)
  | (apply ACont_normal)
  | (apply W.region; kernel_rfl)
  | (apply Walk.nil)
  | (apply AWP.block)
  | (apply AWP.skip)
  | (apply ABlock_normal)
  | (apply W.condT; exact rfl)
  | (refine W.cond _ rfl (fun hb => ?_) (fun hb => ?_) <;> ((try simp only [hb, Bool.not_true, Bool.not_false]) <;> (try simp only [decide_eq_true_eq, decide_eq_false_iff_not, Bool.not_eq_true', Bool.not_eq_false', Int.not_lt, Int.not_le, List.length_map, not_true_eq_false] at hb) <;> (try (exfalso; omega))))))
    refine ⟨k + 1, by omega, by omega, [0], rfl, rfl, ?_, iV_eq (by omega), ?_, rfl, rfl, rfl, trivial⟩
    · rw [← hs]; rfl
    · rw [← hs]; rfl
  · have hfull : (scale8 c l).take k = scale8 c l := List.take_of_length_le (by omega)
    rw [hfull]
    have hB := isB_scale8 (l := l) hc
    (repeat' (first
  | (apply W.qd; (first
    | (apply q_mv; (first
    | exact Eq.refl (AV.d _)
    | exact Eq.refl (AV.osl _ _ _ _)
    | exact Eq.refl (AV.opt _ _)
    | exact Eq.refl (AV.agg _)
    | exact Eq.refl (AV.fpt _ _ _ _)
    | exact Eq.refl (AV.rpt _ _ _ _)
    | exact Eq.refl (AV.fn _ _)
    | exact Eq.refl (AV.tup _)
    | exact Eq.refl AV.top))
    | (apply q_as; (first
    | exact Eq.refl (AV.d _)
    | exact Eq.refl (AV.osl _ _ _ _)
    | exact Eq.refl (AV.opt _ _)
    | exact Eq.refl (AV.agg _)
    | exact Eq.refl (AV.fpt _ _ _ _)
    | exact Eq.refl (AV.rpt _ _ _ _)
    | exact Eq.refl (AV.fn _ _)
    | exact Eq.refl (AV.tup _)
    | exact Eq.refl AV.top))
    | (apply q_lss; exact rfl; exact rfl)
    | (apply q_len_bs; exact rfl; exact rfl)
    | (apply q_str_osl; exact rfl; exact rfl; exact rfl; exact rfl; (first | rfl | (focus (simp; done))); assumption)))
  | (apply AWP.seq)
  | (apply ACont_normal)
  | (apply W.region; kernel_rfl)
  | (apply Walk.nil)
  | (apply AWP.exit)
  | (apply AWP.ret)
  | (apply ACont_exit)
  | (apply ABlock_exit)
  | (refine W.cond _ rfl (fun hb => ?_) (fun hb => ?_) <;> ((try simp only [hb, Bool.not_true, Bool.not_false]) <;> (try simp only [decide_eq_true_eq, decide_eq_false_iff_not, Bool.not_eq_true', Bool.not_eq_false', Int.not_lt, Int.not_le, List.length_map, not_true_eq_false] at hb) <;> (try (exfalso; omega))))))
    exact Ends.two rfl rfl rfl
theorem scale16_length (c : Nat) : ∀ l : List Nat, (scale16 c l).length = l.length / 2 * 2
  | [] => rfl
  | [_] => by simp [scale16]
  | a :: b :: l => by simp only [scale16, List.length_cons, scale16_length c l]; omega
theorem scale16_get (c : Nat) : ∀ (k : Nat) (l : List Nat) (h : 2 * k + 1 < l.length), (scale16 c l)[2 * k]? = some (Gf.mul 16 (modN 16) c (256 * l[2 * k] + l[2 * k + 1]) / 256) ∧ (scale16 c l)[2 * k + 1]? = some (Gf.mul 16 (modN 16) c (256 * l[2 * k] + l[2 * k + 1]) % 256)
  | 0, a :: b :: l, h => by simp [scale16]
  | k + 1, a :: b :: l, h => by
    have ih := scale16_get c k l (by simp at h; omega)
    simp only [scale16, show 2 * (k + 1) = 2 * k + 1 + 1 from by omega, List.getElem?_cons_succ, List.getElem_cons_succ]
    exact ih
  | _, [], h => by simp at h
  | _, [_], h => by simp at h
theorem isB_scale16 {c : Nat} (hc : c < 2 ^ 16) : ∀ l : List Nat, isB (scale16 c l)
  | [] => fun x hx => by simp [scale16] at hx
  | [_] => fun x hx => by simp [scale16] at hx
  | a :: b :: l => fun x hx => by
    have hm : Gf.mul 16 (modN 16) c (256 * a + b) < 2 ^ 16 := Gf.mul_lt (FldM.gen f16).hm (FldM.gen f16).top (FldM.gen f16).lt hc (256 * a + b)
    simp only [scale16, List.mem_cons] at hx
    rcases hx with rfl | rfl | hx
    · omega
    · omega
    · exact isB_scale16 hc l x hx
theorem take_two {α : Type} {l : List α} {k : Nat} {x y : α} (h1 : l[k]? = some x) (h2 : l[k + 1]? = some y) : l.take k ++ [x, y] = l.take (k + 2) := by
  obtain ⟨g1, e1⟩ := List.getElem?_eq_some_iff.1 h1
  obtain ⟨g2, e2⟩ := List.getElem?_eq_some_iff.1 h2
  rw [show k + 2 = k + 1 + 1 from rfl, List.take_succ_eq_append_getElem g2, List.take_succ_eq_append_getElem g1, e1, e2]
  simp
theorem A_rscale16 {c : Nat} {l : List Nat} (hc : c < 2 ^ 16) (hl : isB l) (hn : l.length ≤ 1000000) (he : l.length % 2 = 0) : ACalls Tryd.prog 69 [iV (16 : Nat), iV c, bS l] [] (.tup [bS (scale16 c l), iV 0]) [] := by
  refine acalls_of_body Tryd.func69 rfl (Nat.le_of_ble_eq_true rfl) ?_
  have hv := A_rfvalid (16 : Nat) c
  rw [all2 f16 hc] at hv
  have hL := scale16_length c l
  (repeat' (first
  | (apply W.gOn; exact rfl; exact rfl)
  | (apply W.qd; (first
    | (apply (q_callC (hv)); exact rfl; exact rfl; kernel_rfl; kernel_rfl; kernel_rfl)
    | (apply q_mv; (first
    | exact Eq.refl (AV.d _)
    | exact Eq.refl (AV.osl _ _ _ _)
    | exact Eq.refl (AV.opt _ _)
    | exact Eq.refl (AV.agg _)
    | exact Eq.refl (AV.fpt _ _ _ _)
    | exact Eq.refl (AV.rpt _ _ _ _)
    | exact Eq.refl (AV.fn _ _)
    | exact Eq.refl (AV.tup _)
    | exact Eq.refl AV.top))
    | (apply q_as; (first
    | exact Eq.refl (AV.d _)
    | exact Eq.refl (AV.osl _ _ _ _)
    | exact Eq.refl (AV.opt _ _)
    | exact Eq.refl (AV.agg _)
    | exact Eq.refl (AV.fpt _ _ _ _)
    | exact Eq.refl (AV.rpt _ _ _ _)
    | exact Eq.refl (AV.fn _ _)
    | exact Eq.refl (AV.tup _)
    | exact Eq.refl AV.top))
    | (apply q_eql; exact rfl; exact rfl)
    | (apply q_not; exact rfl)
    | (apply q_rem; exact rfl; exact rfl; omega; omega)
    | (apply q_len_bs; exact rfl; exact rfl)
    | (apply (q_pickT (u := .d _)); exact rfl; exact rfl)
    | (apply (q_pickF (u := .d _)); exact rfl; exact rfl)))
  | (apply AWP.seq)
  | (apply ACont_normal)
  | (apply W.region; kernel_rfl)
  | (apply Walk.nil)
  | (apply AWP.block)
  | (apply AWP.skip)
  | (refine W.cond _ rfl (fun hb => ?_) (fun hb => ?_) <;> ((try simp only [hb, Bool.not_true, Bool.not_false]) <;> (try simp only [decide_eq_true_eq, decide_eq_false_iff_not, Bool.not_eq_true', Bool.not_eq_false', Int.not_lt, Int.not_le, List.length_map, not_true_eq_false] at hb) <;> (try (exfalso; omega))))))
  refine AWP.nilRow 9 1 5 rfl (by omega) ?_
  refine AWP.loopW (α := Nat) (fun k => 2 * k ≤ l.length) (fun k => ⟨[(10, iV (2 * k : Nat)), (9, .osl 0 k 0 ((scale16 c l).take (2 * k)).length), (0, iV (16 : Nat)), (1, iV c), (2, bS l)], [.row k 1 5 (((scale16 c l).take (2 * k)).map nD)]⟩) (fun k => l.length - 2 * k) 0 (by omega) ⟨[0], rfl, rfl, rfl, by (repeat (first | exact trivial | refine ⟨rfl, ?_⟩))⟩ fun k hk => ?_
  have hlt : ((scale16 c l).take (2 * k)).length ≤ 1000000 := by simp only [List.length_take]; omega
  by_cases hkl : 2 * k < l.length
  · have c1 := hl l[2 * k] (List.getElem_mem hkl)
    have c2 := hl (l[2 * k + 1]'(by omega)) (List.getElem_mem _)
    have ei : (((2 * k : Nat) : Int) + 1).toNat = 2 * k + 1 := by omega
    have c3 : l[(((2 * k : Nat) : Int) + 1).toNat]'(by omega) = l[2 * k + 1]'(by omega) := by simp only [ei]
    have c4 : l[(((2 * k : Nat) : Int) + 1).toNat]'(by omega) < 256 := by rw [c3]; exact c2
    have ht := A_times f16 hc (b := 256 * l[2 * k] + l[2 * k + 1]'(by omega)) (by omega)
    have hm : Gf.mul 16 (modN 16) c (256 * l[2 * k] + l[2 * k + 1]'(by omega)) < 2 ^ 16 := Gf.mul_lt (FldM.gen f16).hm (FldM.gen f16).top (FldM.gen f16).lt hc (256 * l[2 * k] + l[2 * k + 1]'(by omega))
    have hg := scale16_get c k l (by omega)
    have hs := take_two hg.1 hg.2
    rw [show ((256 * l[2 * k] + l[2 * k + 1]'(by omega) : Nat) : Int) = 256 * (l[2 * k] : Int) + (l[(((2 * k : Nat) : Int) + 1).toNat]'(by omega) : Int) from by rw [c3]; simp] at ht
    generalize hz : Gf.mul 16 (modN 16) c (256 * l[2 * k] + l[2 * k + 1]'(by omega)) = z at hm hs
    rw [show Gf.mul 16 (modN (16 : Nat)) c (256 * l[2 * k] + l[2 * k + 1]'(by omega)) = z from hz] at ht
    (repeat' (first
  | (apply W.qd; (first
    | (apply (q_callC (ht)); exact rfl; exact rfl; kernel_rfl; kernel_rfl; kernel_rfl)
    | (apply q_mv; (first
    | exact Eq.refl (AV.d _)
    | exact Eq.refl (AV.osl _ _ _ _)
    | exact Eq.refl (AV.opt _ _)
    | exact Eq.refl (AV.agg _)
    | exact Eq.refl (AV.fpt _ _ _ _)
    | exact Eq.refl (AV.rpt _ _ _ _)
    | exact Eq.refl (AV.fn _ _)
    | exact Eq.refl (AV.tup _)
    | exact Eq.refl AV.top))
    | (apply q_as; (first
    | exact Eq.refl (AV.d _)
    | exact Eq.refl (AV.osl _ _ _ _)
    | exact Eq.refl (AV.opt _ _)
    | exact Eq.refl (AV.agg _)
    | exact Eq.refl (AV.fpt _ _ _ _)
    | exact Eq.refl (AV.rpt _ _ _ _)
    | exact Eq.refl (AV.fn _ _)
    | exact Eq.refl (AV.tup _)
    | exact Eq.refl AV.top))
    | (apply q_lss; exact rfl; exact rfl)
    | (apply q_eql; exact rfl; exact rfl)
    | (apply q_add; exact rfl; exact rfl; omega)
    | (apply q_mul; exact rfl; exact rfl; (first | omega | assumption))
    | (apply q_quo; exact rfl; exact rfl; omega; omega; omega)
    | (apply q_rem; exact rfl; exact rfl; omega; omega)
    | (apply q_len_bs; exact rfl; exact rfl)
    | (apply q_ix_bs; exact rfl; exact rfl; exact rfl; (first | (with_reducible exact rfl) | exact natI_spec rfl | assumption | exact (Int.toNat_of_nonneg (by omega)).symm); (first | omega | (focus (simp only [List.length_map]; omega)) | (focus (simp; done)) | (focus (simp; omega))); assumption)
    | (apply q_litF; exact rfl; exact rfl; exact rfl; exact rfl; exact rfl; kernel_rfl; kernel_rfl; exact rfl)
    | (apply q_convI; exact rfl; exact rfl; exact rfl; omega)
    | (apply q_conv8; exact rfl; exact rfl; exact rfl; (first | (with_reducible exact rfl) | exact natI_spec rfl | assumption | exact (Int.toNat_of_nonneg (by omega)).symm); omega)))
  | (apply W.ed; (apply e_appF; exact rfl; exact rfl; exact rfl; exact rfl; exact rfl; exact rfl; exact rfl; exact rfl; (first | rfl | simp); (first | exact Nat.zero_lt_one | (focus (simp; done)) | omega); (first | (focus (simp; done)) | (focus (simp; omega)) | omega)))
  | (apply AWP.seq)
  | (apply ACont_normal)
  | (apply W.region; kernel_rfl)
  | (apply W.regionD; exact rfl; kernel_rfl)
  | (apply Walk.nil)
  | (apply W.chk; kernel_rfl)
  | (apply AWP.block)
  | (apply AWP.skip)
  | (apply ABlock_normal)
  | (apply W.condF; exact rfl)
  | (refine W.cond _ rfl (fun hb => ?_) (fun hb => ?_) <;> ((try simp only [hb, Bool.not_true, Bool.not_false]) <;> (try simp only [decide_eq_true_eq, decide_eq_false_iff_not, Bool.not_eq_true', Bool.not_eq_false', Int.not_lt, Int.not_le, List.length_map, not_true_eq_false] at hb) <;> (try (exfalso; omega))))))
    refine ⟨k + 1, by omega, by omega, [0], rfl, rfl, ?_, iV_eq (by omega), ?_, rfl, rfl, rfl, trivial⟩
    · rw [show 2 * (k + 1) = 2 * k + 2 from by omega, ← hs, List.map_append]
      have e1 : ((z : Int) / 256).toNat = z / 256 := by omega
      have e2 : ((z : Int) % 256).toNat = z % 256 := by omega
      simp only [e1, e2]
      rfl
    · rw [show 2 * (k + 1) = 2 * k + 2 from by omega, ← hs]
      have e3 : ((List.take (2 * k) (scale16 c l)) ++ [z / 256, z % 256]).length = (List.take (2 * k) (scale16 c l)).length + 2 := by simp
      rw [e3, ← List.length_map (f := nD)]
      rfl
  · have hfull : (scale16 c l).take (2 * k) = scale16 c l := List.take_of_length_le (by omega)
    rw [hfull]
    have hB := isB_scale16 hc l
    (repeat' (first
  | (apply W.qd; (first
    | (apply q_mv; (first
    | exact Eq.refl (AV.d _)
    | exact Eq.refl (AV.osl _ _ _ _)
    | exact Eq.refl (AV.opt _ _)
    | exact Eq.refl (AV.agg _)
    | exact Eq.refl (AV.fpt _ _ _ _)
    | exact Eq.refl (AV.rpt _ _ _ _)
    | exact Eq.refl (AV.fn _ _)
    | exact Eq.refl (AV.tup _)
    | exact Eq.refl AV.top))
    | (apply q_as; (first
    | exact Eq.refl (AV.d _)
    | exact Eq.refl (AV.osl _ _ _ _)
    | exact Eq.refl (AV.opt _ _)
    | exact Eq.refl (AV.agg _)
    | exact Eq.refl (AV.fpt _ _ _ _)
    | exact Eq.refl (AV.rpt _ _ _ _)
    | exact Eq.refl (AV.fn _ _)
    | exact Eq.refl (AV.tup _)
    | exact Eq.refl AV.top))
    | (apply q_lss; exact rfl; exact rfl)
    | (apply q_len_bs; exact rfl; exact rfl)
    | (apply q_str_osl; exact rfl; exact rfl; exact rfl; exact rfl; (first | rfl | (focus (simp; done))); assumption)))
  | (apply AWP.seq)
  | (apply ACont_normal)
  | (apply W.region; kernel_rfl)
  | (apply Walk.nil)
  | (apply AWP.exit)
  | (apply AWP.ret)
  | (apply ACont_exit)
  | (apply ABlock_exit)
  | (refine W.cond _ rfl (fun hb => ?_) (fun hb => ?_) <;> ((try simp only [hb, Bool.not_true, Bool.not_false]) <;> (try simp only [decide_eq_true_eq, decide_eq_false_iff_not, Bool.not_eq_true', Bool.not_eq_false', Int.not_lt, Int.not_le, List.length_map, not_true_eq_false] at hb) <;> (try (exfalso; omega))))))
    exact Ends.two rfl rfl rfl

def kD (n : Nat) : List Dat := [.v (.int .i64 n)]
/-- Numbers that are not negative. -/
abbrev nats (l : List Nat) : AV := .d (.sl 1 (l.map kD))
theorem nats_ints (l : List Nat) : nats l = ints (l.map fun n : Nat => (n : Int)) := by
  show AV.d (.sl 1 (l.map kD)) = AV.d (.sl 1 ((l.map fun n : Nat => (n : Int)).map iD))
  rw [List.map_map]; rfl
def scaleM (M c : Nat) (l : List Nat) : List Nat := if M = 8 then scale8 c l else scale16 c l
/-- May a unit have n bytes? -/
def FitM (M n : Nat) : Prop := M = 16 → n % 2 = 0
theorem A_rscale {M c : Nat} {l : List Nat} (hM : FldM M) (hc : c < 2 ^ M) (hl : isB l) (hn : l.length ≤ 1000000) (he : FitM M l.length) : ACalls Tryd.prog 69 [iV M, iV c, bS l] [] (.tup [bS (scaleM M c l), iV 0]) [] := by
  rcases hM with rfl | rfl
  · exact A_rscale8 hc hl hn
  · exact A_rscale16 hc hl hn (he rfl)
theorem scaleM_length {M c : Nat} {l : List Nat} (hM : FldM M) (he : FitM M l.length) : (scaleM M c l).length = l.length := by
  rcases hM with rfl | rfl
  · exact scale8_length c l
  · have := scale16_length c l
    have := he rfl
    show (scale16 c l).length = _
    omega
theorem isB_scaleM {M c : Nat} {l : List Nat} (hM : FldM M) (hc : c < 2 ^ M) : isB (scaleM M c l) := by
  rcases hM with rfl | rfl
  · exact isB_scale8 hc
  · exact isB_scale16 hc l
/-- The sum of units times elements. -/
def combM (M n : Nat) : List Nat → List (List Nat) → List Nat → List Nat
  | c :: cs, u :: us, acc => combM M n cs us (xorL acc (scaleM M c u))
  | _, _, acc => acc
theorem combM_step (M n : Nat) : ∀ (cs : List Nat) (us : List (List Nat)) (acc : List Nat) (k : Nat) (h1 : k < cs.length) (h2 : k < us.length), combM M n (cs.take (k + 1)) (us.take (k + 1)) acc = xorL (combM M n (cs.take k) (us.take k) acc) (scaleM M cs[k] us[k])
  | c :: cs, u :: us, acc, 0, _, _ => by simp [combM]
  | c :: cs, u :: us, acc, k + 1, h1, h2 => by
    simp only [List.take_succ_cons, combM, List.getElem_cons_succ]
    exact combM_step M n cs us _ k (by simpa using h1) (by simpa using h2)
  | [], _, _, k, h, _ => by simp at h
  | _, [], _, k, _, h => by simp at h
theorem combM_ok {M n : Nat} (hM : FldM M) (he : FitM M n) : ∀ (cs : List Nat) (us : List (List Nat)) (acc : List Nat), (∀ c ∈ cs, c < 2 ^ M) → (∀ u ∈ us, u.length = n) → isB acc → acc.length = n → isB (combM M n cs us acc) ∧ (combM M n cs us acc).length = n
  | c :: cs, u :: us, acc, hc, hu, h1, h2 => by
    rw [combM]
    have hul := hu u (by simp)
    have hsl := scaleM_length (c := c) (l := u) hM (by rw [hul]; exact he)
    exact combM_ok hM he cs us _ (fun x hx => hc x (by simp [hx])) (fun x hx => hu x (by simp [hx])) (isB_xor h1 (isB_scaleM hM (hc c (by simp)))) (by rw [xorL_length _ _ (by omega)]; exact h2)
  | [], _, acc, _, _, h1, h2 => by rw [combM]; exact ⟨h1, h2⟩; simp
  | _ :: _, [], acc, _, _, h1, h2 => by rw [combM]; exact ⟨h1, h2⟩; simp
theorem isB_zero (n : Nat) : isB (List.replicate n 0) := fun x hx => by have := List.eq_of_mem_replicate hx; omega
theorem A_rcombine {M n : Nat} {cs : List Nat} {us : List (List Nat)} (hM : FldM M) (he : FitM M n) (hlen : cs.length = us.length) (hpos : 0 < cs.length) (hcs : ∀ c ∈ cs, c < 2 ^ M) (hus : ∀ u ∈ us, isB u ∧ u.length = n) (hn : n ≤ 1000000) (hk : cs.length ≤ 1000000) :
    ACalls Tryd.prog 44 [iV M, nats cs, strs us] [] (.tup [bS (combM M n cs us (List.replicate n 0)), iV 0]) [] := by
  refine acalls_of_body Tryd.func44 rfl (Nat.le_of_ble_eq_true rfl) ?_
  have hU : 0 < us.length := by omega
  have h0 := (hus (us[0]'hU) (List.getElem_mem _)).2
  subst h0
  have hB0 := isB_zero (us[0]'hU).length
  (repeat' (first
  | (apply W.gOn; exact rfl; exact rfl)
  | (apply W.qd; (first
    | (apply q_mv; (first
    | exact Eq.refl (AV.d _)
    | exact Eq.refl (AV.osl _ _ _ _)
    | exact Eq.refl (AV.opt _ _)
    | exact Eq.refl (AV.agg _)
    | exact Eq.refl (AV.fpt _ _ _ _)
    | exact Eq.refl (AV.rpt _ _ _ _)
    | exact Eq.refl (AV.fn _ _)
    | exact Eq.refl (AV.tup _)
    | exact Eq.refl AV.top))
    | (apply q_as; (first
    | exact Eq.refl (AV.d _)
    | exact Eq.refl (AV.osl _ _ _ _)
    | exact Eq.refl (AV.opt _ _)
    | exact Eq.refl (AV.agg _)
    | exact Eq.refl (AV.fpt _ _ _ _)
    | exact Eq.refl (AV.rpt _ _ _ _)
    | exact Eq.refl (AV.fn _ _)
    | exact Eq.refl (AV.tup _)
    | exact Eq.refl AV.top))
    | (apply q_eql; exact rfl; exact rfl)
    | (apply q_neq; exact rfl; exact rfl)
    | (apply q_len_sl; exact rfl; exact rfl)
    | (apply q_len_bs; exact rfl; exact rfl)
    | (apply q_ld_map; exact rfl; exact rfl; exact rfl; (first | omega | (focus (simp; done))))
    | (apply q_ix_slF; exact rfl; exact rfl; exact rfl; exact rfl; (first | (with_reducible exact rfl) | exact natI_spec rfl | assumption | exact (Int.toNat_of_nonneg (by omega)).symm); (first | omega | (focus (simp only [List.length_map]; omega)) | (focus (simp; done)) | (focus (simp; omega))))
    | (apply (q_pickF (u := .d _)); exact rfl; exact rfl)
    | (apply q_str_osl; exact rfl; exact rfl; exact rfl; exact rfl; (first | rfl | (focus (simp; done))); assumption)))
  | (apply W.ed; (apply (e_makeG (f := nD) 0); exact rfl; exact rfl; (first | (with_reducible exact rfl) | exact natI_spec rfl | assumption | exact (Int.toNat_of_nonneg (by omega)).symm); exact rfl; exact rfl; exact rfl; exact rfl; exact rfl; exact rfl; exact rfl; omega))
  | (apply AWP.seq)
  | (apply ACont_normal)
  | (apply W.region; kernel_rfl)
  | (apply Walk.nil)
  | (apply AWP.block)
  | (apply AWP.skip)
  | (refine W.gF _ _ rfl rfl (fun hb => ?_) (fun hb => ?_) <;> ((try simp only [hb, Bool.not_true, Bool.not_false]) <;> (try simp only [decide_eq_true_eq, decide_eq_false_iff_not, Bool.not_eq_true', Bool.not_eq_false', Int.not_lt, Int.not_le, List.length_map, not_true_eq_false] at hb) <;> (try (exfalso; omega))))
  | (refine W.cond _ rfl (fun hb => ?_) (fun hb => ?_) <;> ((try simp only [hb, Bool.not_true, Bool.not_false]) <;> (try simp only [decide_eq_true_eq, decide_eq_false_iff_not, Bool.not_eq_true', Bool.not_eq_false', Int.not_lt, Int.not_le, List.length_map, not_true_eq_false] at hb) <;> (try (exfalso; omega))))))
  generalize (us[0]'hU).length = n at *
  refine AWP.loopW (α := Nat) (fun k => k ≤ cs.length) (fun k => ⟨[(9, iV k), (8, bS (combM M n (cs.take k) (us.take k) (List.replicate n 0))), (0, iV M), (1, nats cs), (2, strs us)], []⟩) (fun k => cs.length - k) 0 (by omega) ⟨[], rfl, rfl, rfl, by (repeat (first | exact trivial | refine ⟨rfl, ?_⟩))⟩ fun k hk2 => ?_
  by_cases hkl : k < cs.length
  · have hst := combM_step M n cs us (List.replicate n 0) k hkl (by omega)
    have hu := hus (us[k]'(by omega)) (List.getElem_mem _)
    have hok := combM_ok hM he (cs.take k) (us.take k) (List.replicate n 0) (fun c hc => hcs c (List.mem_of_mem_take hc)) (fun u hu => (hus u (List.mem_of_mem_take hu)).2) hB0 (by simp)
    have hcm := hcs cs[k] (List.getElem_mem hkl)
    have hsl := scaleM_length (c := cs[k]) (l := us[k]'(by omega)) hM (by rw [hu.2]; exact he)
    have hsc := A_rscale (l := us[k]'(by omega)) hM hcm hu.1 (by omega) (by rw [hu.2]; exact he)
    have hx := A_rxor hok.1 (isB_scaleM (l := us[k]'(by omega)) hM hcm) (by omega) (by omega)
    rw [if_pos (by omega), ← hst] at hx
    (repeat' (first
  | (apply W.qd; (first
    | (apply (q_callC (hsc)); exact rfl; exact rfl; kernel_rfl; kernel_rfl; kernel_rfl)
    | (apply (q_callC (hx)); exact rfl; exact rfl; kernel_rfl; kernel_rfl; kernel_rfl)
    | (apply q_mv; (first
    | exact Eq.refl (AV.d _)
    | exact Eq.refl (AV.osl _ _ _ _)
    | exact Eq.refl (AV.opt _ _)
    | exact Eq.refl (AV.agg _)
    | exact Eq.refl (AV.fpt _ _ _ _)
    | exact Eq.refl (AV.rpt _ _ _ _)
    | exact Eq.refl (AV.fn _ _)
    | exact Eq.refl (AV.tup _)
    | exact Eq.refl AV.top))
    | (apply q_as; (first
    | exact Eq.refl (AV.d _)
    | exact Eq.refl (AV.osl _ _ _ _)
    | exact Eq.refl (AV.opt _ _)
    | exact Eq.refl (AV.agg _)
    | exact Eq.refl (AV.fpt _ _ _ _)
    | exact Eq.refl (AV.rpt _ _ _ _)
    | exact Eq.refl (AV.fn _ _)
    | exact Eq.refl (AV.tup _)
    | exact Eq.refl AV.top))
    | (apply q_lss; exact rfl; exact rfl)
    | (apply q_neq; exact rfl; exact rfl)
    | (apply q_add; exact rfl; exact rfl; omega)
    | (apply q_extract; exact rfl; exact rfl)
    | (apply q_len_sl; exact rfl; exact rfl)
    | (apply q_ld_map; exact rfl; exact rfl; exact rfl; (first | omega | (focus (simp; done))))
    | (apply q_ix_slF; exact rfl; exact rfl; exact rfl; exact rfl; (first | (with_reducible exact rfl) | exact natI_spec rfl | assumption | exact (Int.toNat_of_nonneg (by omega)).symm); (first | omega | (focus (simp only [List.length_map]; omega)) | (focus (simp; done)) | (focus (simp; omega))))))
  | (apply AWP.seq)
  | (apply ACont_normal)
  | (apply W.region; kernel_rfl)
  | (apply W.regionD; exact rfl; kernel_rfl)
  | (apply Walk.nil)
  | (apply W.chk; kernel_rfl)
  | (apply AWP.block)
  | (apply AWP.skip)
  | (apply ABlock_normal)
  | (apply W.condF; exact rfl)
  | (refine W.cond _ rfl (fun hb => ?_) (fun hb => ?_) <;> ((try simp only [hb, Bool.not_true, Bool.not_false]) <;> (try simp only [decide_eq_true_eq, decide_eq_false_iff_not, Bool.not_eq_true', Bool.not_eq_false', Int.not_lt, Int.not_le, List.length_map, not_true_eq_false] at hb) <;> (try (exfalso; omega))))))
    exact ⟨k + 1, by omega, by omega, ⟨[], rfl, rfl, rfl, by (repeat (first | exact trivial | refine ⟨rfl, ?_⟩))⟩⟩
  · have e1 : cs.take k = cs := List.take_of_length_le (by omega)
    have e2 : us.take k = us := List.take_of_length_le (by omega)
    rw [e1, e2]
    (repeat' (first
  | (apply W.qd; (first
    | (apply q_mv; (first
    | exact Eq.refl (AV.d _)
    | exact Eq.refl (AV.osl _ _ _ _)
    | exact Eq.refl (AV.opt _ _)
    | exact Eq.refl (AV.agg _)
    | exact Eq.refl (AV.fpt _ _ _ _)
    | exact Eq.refl (AV.rpt _ _ _ _)
    | exact Eq.refl (AV.fn _ _)
    | exact Eq.refl (AV.tup _)
    | exact Eq.refl AV.top))
    | (apply q_as; (first
    | exact Eq.refl (AV.d _)
    | exact Eq.refl (AV.osl _ _ _ _)
    | exact Eq.refl (AV.opt _ _)
    | exact Eq.refl (AV.agg _)
    | exact Eq.refl (AV.fpt _ _ _ _)
    | exact Eq.refl (AV.rpt _ _ _ _)
    | exact Eq.refl (AV.fn _ _)
    | exact Eq.refl (AV.tup _)
    | exact Eq.refl AV.top))
    | (apply q_lss; exact rfl; exact rfl)
    | (apply q_len_sl; exact rfl; exact rfl)))
  | (apply AWP.seq)
  | (apply ACont_normal)
  | (apply W.region; kernel_rfl)
  | (apply Walk.nil)
  | (apply AWP.exit)
  | (apply AWP.ret)
  | (apply ACont_exit)
  | (apply ABlock_exit)
  | (refine W.cond _ rfl (fun hb => ?_) (fun hb => ?_) <;> ((try simp only [hb, Bool.not_true, Bool.not_false]) <;> (try simp only [decide_eq_true_eq, decide_eq_false_iff_not, Bool.not_eq_true', Bool.not_eq_false', Int.not_lt, Int.not_le, List.length_map, not_true_eq_false] at hb) <;> (try (exfalso; omega))))))
    exact Ends.two rfl rfl rfl
end Go.Proofs.YtjaipchlnnjaeaaDoor
end
