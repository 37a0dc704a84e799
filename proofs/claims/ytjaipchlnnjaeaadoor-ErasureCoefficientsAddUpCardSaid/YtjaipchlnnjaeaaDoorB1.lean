import Derived.Test.YtjaipchlnnjaeaaDoorA8
import Derived.Test.YtjaipchlnnjaeaaDoorA9
/- Joined texts: Er9 Er10 Er11. -/
section
/- Package erasure over the machine of abstract values: uniform, Clone of texts, fit. -/
namespace Go.Proofs.YtjaipchlnnjaeaaDoor
open Go.RowKit
set_option linter.unusedVariables false
set_option linter.unusedSimpArgs false
set_option maxHeartbeats 4000000
set_option maxRecDepth 100000
attribute [local irreducible] Quiet Eff OpOk AWPG ACont ABlock ACalls AGoto

/-- Is x like the first unit, and of a length that the field permits? -/
def uniQ (M : Int) (us : List (List Nat)) (x : List Nat) : Bool := decide ((x.length : Int) = ((us.headD []).length : Int)) && (decide (M = 8) || decide ((x.length : Int) % 2 = 0))
def uniB (M : Int) (us : List (List Nat)) : Bool := us.all (uniQ M us)
theorem A_uni1 {M D : Int} {par : List (List Int)} {us : List (List Nat)} (x : List Nat) (h0 : 0 < us.length) (hx : x.length < 9223372036854775808) (hu : (us[0]'h0).length < 9223372036854775808) : ACalls Tryd.prog 64 [bS x, .opt 1 0, .opt 0 0] [.box [.d .any, iV M, iV D, rowsA par, .d .any], .box [strs us]] (bV (uniQ M us x)) [.box [.d .any, iV M, iV D, rowsA par, .d .any], .box [strs us]] := by
  refine acalls_of_bodyO Tryd.func64 rfl (Nat.le_of_ble_eq_true rfl) ?_
  have hd : us.headD [] = us[0]'h0 := by cases us with | nil => simp at h0 | cons a l => rfl
  unfold uniQ
  rw [hd]
  (repeat' (first
  | (apply W.gOn; exact rfl; exact rfl)
  | (apply W.qd; (first
    | (apply q_mv; (first
    | exact Eq.refl (AV.d _)
    | exact Eq.refl (AV.osl _ _ _ _)
    | exact Eq.refl (AV.opt _ _)
    | exact Eq.refl (AV.agg _)
    | exact Eq.refl (AV.fpt _ _ _ _)
    | exact Eq.refl (AV.rpt _ _ _ _)
    | exact Eq.refl (AV.fn _ _)
    | exact Eq.refl (AV.tup _)
    | exact Eq.refl AV.top))
    | (apply q_as; (first
    | exact Eq.refl (AV.d _)
    | exact Eq.refl (AV.osl _ _ _ _)
    | exact Eq.refl (AV.opt _ _)
    | exact Eq.refl (AV.agg _)
    | exact Eq.refl (AV.fpt _ _ _ _)
    | exact Eq.refl (AV.rpt _ _ _ _)
    | exact Eq.refl (AV.fn _ _)
    | exact Eq.refl (AV.tup _)
    | exact Eq.refl AV.top))
    | (apply q_fld_optF; exact rfl; exact rfl; exact rfl)
    | (apply q_ld_box; exact rfl; exact rfl; exact rfl; exact rfl)
    | (apply q_eql; exact rfl; exact rfl)
    | (apply q_rem; exact rfl; exact rfl; omega; omega)
    | (apply q_len_bs; exact rfl; exact rfl)
    | (apply q_ld_map; exact rfl; exact rfl; exact rfl; (first | omega | (focus (simp; done))))
    | (apply q_ix_slF; exact rfl; exact rfl; exact rfl; exact rfl; (first | (with_reducible exact rfl) | exact natI_spec rfl | assumption | exact (Int.toNat_of_nonneg (by omega)).symm); (first | omega | (focus (simp only [List.length_map]; omega)) | (focus (simp; done)) | (focus (simp; omega))))
    | (apply (q_pickT (u := .d _)); exact rfl; exact rfl)
    | (apply (q_pickF (u := .d _)); exact rfl; exact rfl)))
  | (refine W.gOff _ _ rfl rfl (by intro h; cases h) ?_)
  | (apply AWP.seq)
  | (apply ACont_normal)
  | (apply W.region; kernel_rfl)
  | (apply Walk.nil)
  | (apply AWP.ret)
  | (refine W.gT _ _ rfl rfl (fun hb => ?_) (fun hb => ?_) <;> ((try simp only [hb, Bool.not_true, Bool.not_false]) <;> (try simp only [decide_eq_true_eq, decide_eq_false_iff_not, Bool.not_eq_true', Bool.not_eq_false', Int.not_lt, Int.not_le, List.length_map, not_true_eq_false] at hb) <;> (try (exfalso; omega))))
  | (refine W.gF _ _ rfl rfl (fun hb => ?_) (fun hb => ?_) <;> ((try simp only [hb, Bool.not_true, Bool.not_false]) <;> (try simp only [decide_eq_true_eq, decide_eq_false_iff_not, Bool.not_eq_true', Bool.not_eq_false', Int.not_lt, Int.not_le, List.length_map, not_true_eq_false] at hb) <;> (try (exfalso; omega))))))
  all_goals exact ⟨.inl rfl, [0, 1], [_], rfl, rfl, ⟨rfl, trivial⟩, AVle.of_eq rfl, rfl⟩
theorem A_uniform {M D : Int} {par : List (List Int)} {us : List (List Nat)} (hl : us.length ≤ 1000000000) (hu : ∀ u ∈ us, u.length < 9223372036854775808) : ACalls Tryd.prog 41 [cdA M D par, strs us] [] (bV (uniB M us)) [] := by
  refine acalls_of_bodyO Tryd.func41 rfl (Nat.le_of_ble_eq_true rfl) ?_
  have hev := A_every_str2 (M := M) (D := D) (par := par) (us := us) (uniQ M us) us hl fun x hx => A_uni1 x (List.length_pos_of_mem hx) (hu x hx) (hu _ (List.getElem_mem _))
  (repeat' (first
  | (apply W.qd; (first
    | (apply q_as; (first
    | exact Eq.refl (AV.d _)
    | exact Eq.refl (AV.osl _ _ _ _)
    | exact Eq.refl (AV.opt _ _)
    | exact Eq.refl (AV.agg _)
    | exact Eq.refl (AV.fpt _ _ _ _)
    | exact Eq.refl (AV.rpt _ _ _ _)
    | exact Eq.refl (AV.fn _ _)
    | exact Eq.refl (AV.tup _)
    | exact Eq.refl AV.top))
    | (apply q_ld_box; exact rfl; exact rfl; exact rfl; exact rfl)
    | (apply q_makeFunc)))
  | (apply W.ed; (first
    | (apply (e_callJ (js := [0, 1]) (hev)); exact rfl; exact rfl; exact rfl; exact rfl; exact rfl; kernel_rfl; kernel_rfl)
    | (apply e_boxF; exact rfl; exact rfl; exact rfl; kernel_rfl; kernel_rfl)))
  | (apply AWP.seq)
  | (apply ACont_normal)
  | (apply W.region; kernel_rfl)
  | (apply Walk.nil)
  | (apply AWP.ret)))
  exact ⟨.inl rfl, [], [bV (uniB M us)], rfl, rfl, ⟨rfl, trivial⟩, AVle.of_eq rfl, rfl⟩
theorem A_clone_str {l : List (List Nat)} (h0 : 0 < l.length) (hl : l.length ≤ 1000000) : ACalls Tryd.prog 42 [strs l] [] (.osl 0 1 0 l.length) [.row 1 1 9 (l.map sD)] := by
  refine acalls_of_bodyO Tryd.func42 rfl (Nat.le_of_ble_eq_true rfl) ?_
  have hm : (l.map sD).length = l.length := List.length_map _
  (repeat' (first
  | (apply W.ed; (apply e_lit0F; exact rfl; exact rfl; exact rfl; exact rfl; exact rfl))
  | (apply W.qd; (first
    | (apply q_mv; (first
    | exact Eq.refl (AV.d _)
    | exact Eq.refl (AV.osl _ _ _ _)
    | exact Eq.refl (AV.opt _ _)
    | exact Eq.refl (AV.agg _)
    | exact Eq.refl (AV.fpt _ _ _ _)
    | exact Eq.refl (AV.rpt _ _ _ _)
    | exact Eq.refl (AV.fn _ _)
    | exact Eq.refl (AV.tup _)
    | exact Eq.refl AV.top))
    | (apply q_as; (first
    | exact Eq.refl (AV.d _)
    | exact Eq.refl (AV.osl _ _ _ _)
    | exact Eq.refl (AV.opt _ _)
    | exact Eq.refl (AV.agg _)
    | exact Eq.refl (AV.fpt _ _ _ _)
    | exact Eq.refl (AV.rpt _ _ _ _)
    | exact Eq.refl (AV.fn _ _)
    | exact Eq.refl (AV.tup _)
    | exact Eq.refl AV.top))
    | (apply q_eqnilm; exact rfl; exact rfl; exact rfl; (first | assumption | omega))))
  | (apply W.ed; (apply e_appF; exact rfl; exact rfl; exact rfl; exact rfl; exact rfl; exact rfl; exact rfl; exact rfl; (first | rfl | simp); (first | exact Nat.zero_lt_one | (focus (simp; done)) | omega); (first | (focus (simp; done)) | (focus (simp; omega)) | omega)))
  | (apply AWP.seq)
  | (apply ACont_normal)
  | (apply W.region; kernel_rfl)
  | (apply Walk.nil)
  | (apply AWP.skip)
  | (apply AWP.ret)
  | (apply W.condF; exact rfl)))
  refine ⟨.inl rfl, [0], [.osl 0 1 0 ((([] : List Nat).length) + (l.map sD).length)], rfl, rfl, ⟨rfl, trivial⟩, AVle.of_eq ?_, rfl⟩
  show AV.osl 0 1 0 (0 + (l.map sD).length) = .osl 0 1 0 l.length
  rw [hm, Nat.zero_add]
/-- The units that are present, the first k looked at. -/
def havU (us : List (List Nat)) (hv : List Bool) (k : Nat) : List (List Nat) := ((List.range k).filter fun i => hv.getD i false).map fun i => us.getD i []
theorem havU_succ (us : List (List Nat)) (hv : List Bool) (k : Nat) : havU us hv (k + 1) = if hv.getD k false = true then havU us hv k ++ [us.getD k []] else havU us hv k := by
  unfold havU
  rw [List.range_succ, List.filter_append, List.map_append]
  by_cases h : hv.getD k false = true
  · rw [if_pos h, List.filter_cons_of_pos (by simpa using h)]; rfl
  · rw [if_neg h, List.filter_cons_of_neg (by simpa using h)]; simp
theorem havU_length (us : List (List Nat)) (hv : List Bool) (k : Nat) : (havU us hv k).length ≤ k := by
  unfold havU
  rw [List.length_map]
  exact Nat.le_trans (List.length_filter_le _ _) (by simp)
def fitN (M D : Nat) (ps : List (List Nat)) (us : List (List Nat)) (hv : List Bool) : Bool := decide (us.length = D + ps.length) && decide (hv.length = D + ps.length) && uniB M (havU us hv us.length)
theorem A_fit {M D : Nat} {ps us : List (List Nat)} {hv : List Bool} (h : CodeOk M D ps) (hul : us.length ≤ 1000000) (hhl : hv.length ≤ 1000000) (hu : ∀ u ∈ us, u.length ≤ 1000000) : ACalls Tryd.prog 59 [cdN M D ps, strs us, bools hv] [] (bV (fitN M D ps us hv)) [] := by
  refine acalls_of_bodyO Tryd.func59 rfl (Nat.le_of_ble_eq_true rfl) ?_
  have h1 := h.d
  have h2 := h.w
  have hw := A_ewidthN h
  by_cases hlen : us.length = D + ps.length ∧ hv.length = D + ps.length
  · obtain ⟨hl1, hl2⟩ := hlen
    unfold fitN
    rw [decide_eq_true hl1, decide_eq_true hl2]
    have hv1 : ((D + ps.length : Nat) : Int) ≠ 0 := by omega
    have hlm1 : (us.map sD).length = D + ps.length := by rw [List.length_map]; exact hl1
    have hlm2 : (hv.map tD).length = D + ps.length := by rw [List.length_map]; exact hl2
    have hsucc := fun i => Lib.hid (havU_succ us hv i)
    have hpl0 := fun i => havU_length us hv i
    have hmem : ∀ i, ∀ u ∈ havU us hv i, u.length < 9223372036854775808 := fun i u hx => by
      unfold havU at hx
      obtain ⟨j, _, rfl⟩ := List.mem_map.1 hx
      rw [List.getD_eq_getElem?_getD]
      by_cases hj : j < us.length
      · rw [List.getElem?_eq_getElem hj]
        have := hu _ (List.getElem_mem hj)
        show (us[j]).length < _
        omega
      · rw [List.getElem?_eq_none (by omega)]
        show (0 : Nat) < _
        omega
    have huni : ACalls Tryd.prog 41 [cdN M D ps, strs (havU us hv us.length)] [] (bV (uniB M (havU us hv us.length))) [] := by
      rw [cdN_A]
      exact A_uniform (by have := hpl0 us.length; omega) (hmem us.length)
    (repeat' (first
  | (apply W.gOn; exact rfl; exact rfl)
  | (apply W.qd; (first
    | (apply (q_callC (hw)); exact rfl; exact rfl; kernel_rfl; kernel_rfl; kernel_rfl)
    | (apply q_mv; (first
    | exact Eq.refl (AV.d _)
    | exact Eq.refl (AV.osl _ _ _ _)
    | exact Eq.refl (AV.opt _ _)
    | exact Eq.refl (AV.agg _)
    | exact Eq.refl (AV.fpt _ _ _ _)
    | exact Eq.refl (AV.rpt _ _ _ _)
    | exact Eq.refl (AV.fn _ _)
    | exact Eq.refl (AV.tup _)
    | exact Eq.refl AV.top))
    | (apply q_as; (first
    | exact Eq.refl (AV.d _)
    | exact Eq.refl (AV.osl _ _ _ _)
    | exact Eq.refl (AV.opt _ _)
    | exact Eq.refl (AV.agg _)
    | exact Eq.refl (AV.fpt _ _ _ _)
    | exact Eq.refl (AV.rpt _ _ _ _)
    | exact Eq.refl (AV.fn _ _)
    | exact Eq.refl (AV.tup _)
    | exact Eq.refl AV.top))
    | (apply q_ld_boxF; exact rfl; exact rfl; exact rfl; exact rfl)
    | (apply q_eql; exact rfl; exact rfl)
    | (apply q_neq; exact rfl; exact rfl)
    | (apply q_len_sl; exact rfl; exact rfl)
    | (apply (q_pickF (u := .d _)); exact rfl; exact rfl)))
  | (apply W.ed; (apply e_boxF; exact rfl; exact rfl; exact rfl; kernel_rfl; kernel_rfl))
  | (apply AWP.seq)
  | (apply ACont_normal)
  | (apply W.region; kernel_rfl)
  | (apply Walk.nil)
  | (apply AWP.block)
  | (apply AWP.skip)
  | (refine W.gF _ _ rfl rfl (fun hb => ?_) (fun hb => ?_) <;> ((try simp only [hb, Bool.not_true, Bool.not_false]) <;> (try simp only [decide_eq_true_eq, decide_eq_false_iff_not, Bool.not_eq_true', Bool.not_eq_false', Int.not_lt, Int.not_le, List.length_map, not_true_eq_false] at hb) <;> (try (exfalso; omega))))
  | (refine W.cond _ rfl (fun hb => ?_) (fun hb => ?_) <;> ((try simp only [hb, Bool.not_true, Bool.not_false]) <;> (try simp only [decide_eq_true_eq, decide_eq_false_iff_not, Bool.not_eq_true', Bool.not_eq_false', Int.not_lt, Int.not_le, List.length_map, not_true_eq_false] at hb) <;> (try (exfalso; omega))))))
    refine AWP.nilRow 8 1 9 rfl (by omega) ?_
    refine AWP.loopW (α := Nat) (fun i => i ≤ us.length) (fun i => ⟨[(29, iV i), (28, iV us.length), (27, strs us), (2, bools hv), (8, .osl 1 (havU us hv i).length 0 (havU us hv i).length), (3, .opt 0 0)], [.box [.d .any, iV M, iV D, rowsN ps, .d .any], .row (havU us hv i).length 1 9 ((havU us hv i).map sD)]⟩) (fun i => us.length - i) 0 (by omega) ?wk0 fun i hi => ?_
    case wk0 =>
      rw [show havU us hv 0 = [] from rfl]
      exact ⟨[0, 1], rfl, rfl, rfl, rfl, iV_eq (by simp), rfl, rfl, rfl, rfl, trivial⟩
    by_cases hil : i < us.length
    · have hs := hsucc i
      have hi0 := hpl0 i
      have hih : i < hv.length := by omega
      rw [List.getD_eq_getElem?_getD, List.getD_eq_getElem?_getD, List.getElem?_eq_getElem hih, List.getElem?_eq_getElem hil] at hs
      generalize havU us hv i = P at *
      (repeat' (first
  | (apply W.qd; (first
    | (apply q_mv; (first
    | exact Eq.refl (AV.d _)
    | exact Eq.refl (AV.osl _ _ _ _)
    | exact Eq.refl (AV.opt _ _)
    | exact Eq.refl (AV.agg _)
    | exact Eq.refl (AV.fpt _ _ _ _)
    | exact Eq.refl (AV.rpt _ _ _ _)
    | exact Eq.refl (AV.fn _ _)
    | exact Eq.refl (AV.tup _)
    | exact Eq.refl AV.top))
    | (apply q_as; (first
    | exact Eq.refl (AV.d _)
    | exact Eq.refl (AV.osl _ _ _ _)
    | exact Eq.refl (AV.opt _ _)
    | exact Eq.refl (AV.agg _)
    | exact Eq.refl (AV.fpt _ _ _ _)
    | exact Eq.refl (AV.rpt _ _ _ _)
    | exact Eq.refl (AV.fn _ _)
    | exact Eq.refl (AV.tup _)
    | exact Eq.refl AV.top))
    | (apply q_lss; exact rfl; exact rfl)
    | (apply q_add; exact rfl; exact rfl; omega)
    | (apply q_ld_map; exact rfl; exact rfl; exact rfl; (first | omega | (focus (simp; done))))
    | (apply q_litF; exact rfl; exact rfl; exact rfl; exact rfl; exact rfl; kernel_rfl; kernel_rfl; exact rfl)
    | (apply q_ix_slF; exact rfl; exact rfl; exact rfl; exact rfl; (first | (with_reducible exact rfl) | exact natI_spec rfl | assumption | exact (Int.toNat_of_nonneg (by omega)).symm); (first | omega | (focus (simp only [List.length_map]; omega)) | (focus (simp; done)) | (focus (simp; omega))))))
  | (apply W.ld; (apply l_app1; exact rfl; exact rfl; exact rfl; exact rfl; exact rfl; exact rfl; exact rfl; exact rfl; (first | omega | (focus (simp; omega)) | (focus (simp; done)))))
  | (apply AWP.seq)
  | (apply ACont_normal)
  | (apply W.region; kernel_rfl)
  | (apply Walk.nil)
  | (apply AWP.block)
  | (apply AWP.skip)
  | (apply ABlock_normal)
  | (refine W.cond _ rfl (fun hb => ?_) (fun hb => ?_) <;> ((try simp only [hb, Bool.not_true, Bool.not_false]) <;> (try simp only [decide_eq_true_eq, decide_eq_false_iff_not, Bool.not_eq_true', Bool.not_eq_false', Int.not_lt, Int.not_le, List.length_map, not_true_eq_false] at hb) <;> (try (exfalso; omega))))))
      · rw [if_pos (by simpa using hb)] at hs
        refine ⟨i + 1, by omega, by omega, ?_⟩
        rw [hs.out, show (P ++ [(some us[i]).getD []]).length = P.length + 1 by simp]
        exact ⟨[0, 1], rfl, rfl, rfl, iV_eq (by omega), rfl, rfl, rfl, congrArg (AV.osl 1 (P.length + 1) 0) (by simp), rfl, trivial⟩
      · rw [if_neg (by simpa using hb)] at hs
        refine ⟨i + 1, by omega, by omega, ?_⟩
        rw [hs.out]
        exact ⟨[0, 1], rfl, rfl, rfl, iV_eq (by omega), rfl, rfl, rfl, rfl, rfl, trivial⟩
    · have e : us.length = i := by omega
      subst e
      clear hsucc hpl0 hmem
      generalize havU us hv us.length = P at *
      refine AWP.wk ⟨[(29, iV us.length), (28, iV us.length), (8, strs P), (3, .opt 0 0)], [.box [.d .any, iV M, iV D, rowsN ps, .d .any]]⟩ ⟨[0], rfl, rfl, rfl, rfl, rfl, (frz_rowJ rfl rfl (by simp)).symm, rfl, trivial⟩ ?_
      (repeat' (first
  | (apply W.qd; (first
    | (apply (q_callC (huni)); exact rfl; exact rfl; kernel_rfl; kernel_rfl; kernel_rfl)
    | (apply q_mv; (first
    | exact Eq.refl (AV.d _)
    | exact Eq.refl (AV.osl _ _ _ _)
    | exact Eq.refl (AV.opt _ _)
    | exact Eq.refl (AV.agg _)
    | exact Eq.refl (AV.fpt _ _ _ _)
    | exact Eq.refl (AV.rpt _ _ _ _)
    | exact Eq.refl (AV.fn _ _)
    | exact Eq.refl (AV.tup _)
    | exact Eq.refl AV.top))
    | (apply q_as; (first
    | exact Eq.refl (AV.d _)
    | exact Eq.refl (AV.osl _ _ _ _)
    | exact Eq.refl (AV.opt _ _)
    | exact Eq.refl (AV.agg _)
    | exact Eq.refl (AV.fpt _ _ _ _)
    | exact Eq.refl (AV.rpt _ _ _ _)
    | exact Eq.refl (AV.fn _ _)
    | exact Eq.refl (AV.tup _)
    | exact Eq.refl AV.top))
    | (apply q_ld_boxF; exact rfl; exact rfl; exact rfl; exact rfl)
    | (apply q_lss; exact rfl; exact rfl)))
  | (apply AWP.seq)
  | (apply ACont_normal)
  | (apply W.region; kernel_rfl)
  | (apply Walk.nil)
  | (apply AWP.exit)
  | (apply AWP.ret)
  | (apply ACont_exit)
  | (apply ABlock_exit)
  | (refine W.cond _ rfl (fun hb => ?_) (fun hb => ?_) <;> ((try simp only [hb, Bool.not_true, Bool.not_false]) <;> (try simp only [decide_eq_true_eq, decide_eq_false_iff_not, Bool.not_eq_true', Bool.not_eq_false', Int.not_lt, Int.not_le, List.length_map, not_true_eq_false] at hb) <;> (try (exfalso; omega))))))
      exact ⟨.inl rfl, [], [bV (uniB M P)], rfl, rfl, ⟨rfl, trivial⟩, AVle.of_eq rfl, rfl⟩
  · have hf : fitN M D ps us hv = false := by
      unfold fitN
      by_cases h3 : us.length = D + ps.length
      · rw [decide_eq_false (show ¬ hv.length = D + ps.length from fun h4 => hlen ⟨h3, h4⟩)]; simp
      · rw [decide_eq_false h3]; simp
    rw [hf]
    have hlm1 : (us.map sD).length = us.length := List.length_map _
    have hlm2 : (hv.map tD).length = hv.length := List.length_map _
    (repeat' (first
  | (apply W.gOn; exact rfl; exact rfl)
  | (apply W.qd; (first
    | (apply (q_callC (hw)); exact rfl; exact rfl; kernel_rfl; kernel_rfl; kernel_rfl)
    | (apply q_mv; (first
    | exact Eq.refl (AV.d _)
    | exact Eq.refl (AV.osl _ _ _ _)
    | exact Eq.refl (AV.opt _ _)
    | exact Eq.refl (AV.agg _)
    | exact Eq.refl (AV.fpt _ _ _ _)
    | exact Eq.refl (AV.rpt _ _ _ _)
    | exact Eq.refl (AV.fn _ _)
    | exact Eq.refl (AV.tup _)
    | exact Eq.refl AV.top))
    | (apply q_as; (first
    | exact Eq.refl (AV.d _)
    | exact Eq.refl (AV.osl _ _ _ _)
    | exact Eq.refl (AV.opt _ _)
    | exact Eq.refl (AV.agg _)
    | exact Eq.refl (AV.fpt _ _ _ _)
    | exact Eq.refl (AV.rpt _ _ _ _)
    | exact Eq.refl (AV.fn _ _)
    | exact Eq.refl (AV.tup _)
    | exact Eq.refl AV.top))
    | (apply q_ld_boxF; exact rfl; exact rfl; exact rfl; exact rfl)
    | (apply q_eql; exact rfl; exact rfl)
    | (apply q_neq; exact rfl; exact rfl)
    | (apply q_len_sl; exact rfl; exact rfl)
    | (apply (q_pickT (u := .d _)); exact rfl; exact rfl)
    | (apply (q_pickF (u := .d _)); exact rfl; exact rfl)))
  | (apply W.ed; (apply e_boxF; exact rfl; exact rfl; exact rfl; kernel_rfl; kernel_rfl))
  | (refine W.gOff _ _ rfl rfl (by intro h; cases h) ?_)
  | (apply AWP.seq)
  | (apply ACont_normal)
  | (apply W.region; kernel_rfl)
  | (apply Walk.nil)
  | (apply AWP.ret)
  | (apply ACont_ret)
  | (apply W.condT; exact rfl)
  | (refine W.gF _ _ rfl rfl (fun hb => ?_) (fun hb => ?_) <;> ((try simp only [hb, Bool.not_true, Bool.not_false]) <;> (try simp only [decide_eq_true_eq, decide_eq_false_iff_not, Bool.not_eq_true', Bool.not_eq_false', Int.not_lt, Int.not_le, List.length_map, not_true_eq_false] at hb) <;> (try (exfalso; omega))))
  | (refine W.cond _ rfl (fun hb => ?_) (fun hb => ?_) <;> ((try simp only [hb, Bool.not_true, Bool.not_false]) <;> (try simp only [decide_eq_true_eq, decide_eq_false_iff_not, Bool.not_eq_true', Bool.not_eq_false', Int.not_lt, Int.not_le, List.length_map, not_true_eq_false] at hb) <;> (try (exfalso; omega))))))
    all_goals exact ⟨.inl rfl, [], [bV false], rfl, rfl, ⟨rfl, trivial⟩, AVle.of_eq rfl, rfl⟩
end Go.Proofs.YtjaipchlnnjaeaaDoor
end

section
/- Package erasure over the machine of abstract values: sum, Encode. -/
namespace Go.Proofs.YtjaipchlnnjaeaaDoor
open Go.RowKit
set_option linter.unusedVariables false
set_option linter.unusedSimpArgs false
set_option maxHeartbeats 4000000
set_option maxRecDepth 100000
attribute [local irreducible] Quiet Eff OpOk AWPG ACont ABlock ACalls AGoto

/-- A combination of units. -/
def sumN (M n : Nat) (us : List (List Nat)) (l : List (Nat × Nat)) : List Nat := combM M n (l.map (·.2)) (l.map fun t => us.getD t.1 []) (List.replicate n 0)
theorem A_sum {M D n : Nat} {ps us : List (List Nat)} {l : List (Nat × Nat)} (hM : FldM M) (he : FitM M n) (hl0 : 0 < l.length) (hll : l.length ≤ 1000) (hn : n ≤ 1000000) (ht : ∀ t ∈ l, t.1 < us.length ∧ t.2 < 2 ^ M ∧ isB (us.getD t.1 []) ∧ (us.getD t.1 []).length = n) : ACalls Tryd.prog 60 [cdN M D ps, strs us, tmsA l] [] (bS (sumN M n us l)) [] := by
  refine acalls_of_bodyO Tryd.func60 rfl (Nat.le_of_ble_eq_true rfl) ?_
  have hcomb := A_fcombine (cs := l.map (·.2)) (us := l.map fun t => us.getD t.1 []) hM he (by simp) (by rw [List.length_map]; exact hl0) (fun c hc => by
    obtain ⟨t, h1, rfl⟩ := List.mem_map.1 hc; exact (ht t h1).2.1) (fun u hu => by
    obtain ⟨t, h1, rfl⟩ := List.mem_map.1 hu; exact (ht t h1).2.2) hn (by rw [List.length_map]; omega)
  have hs : combM M n (l.map (·.2)) (l.map fun t => us.getD t.1 []) (List.replicate n 0) = sumN M n us l := rfl
  rw [hs] at hcomb
  have hml : (l.map tmD).length = l.length := List.length_map _
  (repeat' (first
  | (apply W.qd; (first
    | (apply q_mv; (first
    | exact Eq.refl (AV.d _)
    | exact Eq.refl (AV.osl _ _ _ _)
    | exact Eq.refl (AV.opt _ _)
    | exact Eq.refl (AV.agg _)
    | exact Eq.refl (AV.fpt _ _ _ _)
    | exact Eq.refl (AV.rpt _ _ _ _)
    | exact Eq.refl (AV.fn _ _)
    | exact Eq.refl (AV.tup _)
    | exact Eq.refl AV.top))
    | (apply q_as; (first
    | exact Eq.refl (AV.d _)
    | exact Eq.refl (AV.osl _ _ _ _)
    | exact Eq.refl (AV.opt _ _)
    | exact Eq.refl (AV.agg _)
    | exact Eq.refl (AV.fpt _ _ _ _)
    | exact Eq.refl (AV.rpt _ _ _ _)
    | exact Eq.refl (AV.fn _ _)
    | exact Eq.refl (AV.tup _)
    | exact Eq.refl AV.top))
    | (apply q_len_sl; exact rfl; exact rfl)))
  | (apply W.ed; (apply e_boxF; exact rfl; exact rfl; exact rfl; kernel_rfl; kernel_rfl))
  | (apply AWP.seq)
  | (apply ACont_normal)
  | (apply W.region; kernel_rfl)
  | (apply Walk.nil)
  | (apply AWP.block)))
  refine AWP.nilRow 7 1 3 rfl (by omega) ?_
  refine AWP.nilRow 8 1 9 rfl (by omega) ?_
  refine AWP.loopW (α := Nat) (fun k => k ≤ l.length) (fun k => ⟨[(15, iV k), (14, iV l.length), (13, tmsA l), (1, strs us), (7, .osl 1 k 0 ((l.take k).map fun t : Nat × Nat => t.2).length), (8, .osl 2 k 0 ((l.take k).map fun t => us.getD t.1 []).length), (3, .opt 0 0)], [.box [.d .any, iV M, iV D, rowsN ps, .d .any], .row k 1 3 (((l.take k).map fun t : Nat × Nat => t.2).map kD), .row k 1 9 (((l.take k).map fun t => us.getD t.1 []).map sD)]⟩) (fun k => l.length - k) 0 (by omega) ?wk0 fun k hk => ?_
  case wk0 => exact ⟨[0, 1, 2], rfl, rfl, rfl, rfl, iV_eq (by simp), rfl, rfl, rfl, rfl, rfl, trivial⟩
  by_cases hkl : k < l.length
  · have hx := ht l[k] (List.getElem_mem _)
    have hxl := hx.1
    have h1 : (l.take (k + 1)).map (fun t : Nat × Nat => t.2) = (l.take k).map (fun t : Nat × Nat => t.2) ++ [l[k].2] := by
      rw [← List.take_append_getElem hkl, List.map_append]; rfl
    have h2 : (l.take (k + 1)).map (fun t => us.getD t.1 []) = (l.take k).map (fun t => us.getD t.1 []) ++ [us[l[k].1]'hxl] := by
      rw [← List.take_append_getElem hkl, List.map_append]
      simp [List.getD_eq_getElem?_getD, hxl]
    have hl1 : ((l.take k).map (fun t : Nat × Nat => t.2)).length ≤ 1024 := by simp; omega
    have hl2 : ((l.take k).map (fun t => us.getD t.1 [])).length ≤ 1024 := by simp; omega
    replace h1 := Lib.hid h1
    replace h2 := Lib.hid h2
    clear hx
    generalize (l.take k).map (fun t : Nat × Nat => t.2) = A at *
    generalize (l.take k).map (fun t => us.getD t.1 []) = B at *
    have hmu : (us.map sD).length = us.length := List.length_map _
    (repeat' (first
  | (apply W.qd; (first
    | (apply q_mv; (first
    | exact Eq.refl (AV.d _)
    | exact Eq.refl (AV.osl _ _ _ _)
    | exact Eq.refl (AV.opt _ _)
    | exact Eq.refl (AV.agg _)
    | exact Eq.refl (AV.fpt _ _ _ _)
    | exact Eq.refl (AV.rpt _ _ _ _)
    | exact Eq.refl (AV.fn _ _)
    | exact Eq.refl (AV.tup _)
    | exact Eq.refl AV.top))
    | (apply q_as; (first
    | exact Eq.refl (AV.d _)
    | exact Eq.refl (AV.osl _ _ _ _)
    | exact Eq.refl (AV.opt _ _)
    | exact Eq.refl (AV.agg _)
    | exact Eq.refl (AV.fpt _ _ _ _)
    | exact Eq.refl (AV.rpt _ _ _ _)
    | exact Eq.refl (AV.fn _ _)
    | exact Eq.refl (AV.tup _)
    | exact Eq.refl AV.top))
    | (apply q_fld_optF; exact rfl; exact rfl; exact rfl)
    | (apply q_ld_box; exact rfl; exact rfl; exact rfl; exact rfl)
    | (apply q_lss; exact rfl; exact rfl)
    | (apply q_add; exact rfl; exact rfl; omega)
    | (apply q_ld_map; exact rfl; exact rfl; exact rfl; (first | omega | (focus (simp; done))))
    | (apply q_ld_maps; exact rfl; exact rfl; exact rfl; (first | omega | (focus (simp; done))))
    | (apply q_litF; exact rfl; exact rfl; exact rfl; exact rfl; exact rfl; kernel_rfl; kernel_rfl; exact rfl)
    | (apply q_ix_slF; exact rfl; exact rfl; exact rfl; exact rfl; (first | (with_reducible exact rfl) | exact natI_spec rfl | assumption | exact (Int.toNat_of_nonneg (by omega)).symm); (first | omega | (focus (simp only [List.length_map]; omega)) | (focus (simp; done)) | (focus (simp; omega))))))
  | (apply W.ld; (apply l_app1; exact rfl; exact rfl; exact rfl; exact rfl; exact rfl; exact rfl; exact rfl; exact rfl; (first | omega | (focus (simp; omega)) | (focus (simp; done)))))
  | (apply W.ed; (apply e_allocF; exact rfl; exact rfl; exact rfl; kernel_rfl))
  | (apply W.ln; (apply l_st_box; exact rfl; exact rfl; exact rfl; exact rfl; exact rfl; exact rfl; kernel_rfl; kernel_rfl; kernel_rfl))
  | (apply AWP.seq)
  | (apply ACont_normal)
  | (apply W.region; kernel_rfl)
  | (apply W.regionD; exact rfl; kernel_rfl)
  | (apply Walk.nil)
  | (apply W.chk; kernel_rfl)
  | (apply AWP.block)
  | (apply AWP.skip)
  | (apply ABlock_normal)
  | (refine W.cond _ rfl (fun hb => ?_) (fun hb => ?_) <;> ((try simp only [hb, Bool.not_true, Bool.not_false]) <;> (try simp only [decide_eq_true_eq, decide_eq_false_iff_not, Bool.not_eq_true', Bool.not_eq_false', Int.not_lt, Int.not_le, List.length_map, not_true_eq_false] at hb) <;> (try (exfalso; omega))))))
    refine ⟨k + 1, by omega, by omega, ?_⟩
    rw [h1.out, h2.out]
    exact ⟨[0, 1, 2], rfl, rfl, rfl, iV_eq (by omega), rfl, rfl, rfl, rfl, rfl, rfl, trivial⟩
  · have e : l.length = k := by omega
    subst e
    rw [List.take_length]
    clear ht
    generalize sumN M n us l = R at *
    refine AWP.wk ⟨[(15, iV l.length), (14, iV l.length), (7, nats (l.map (·.2))), (8, strs (l.map fun t => us.getD t.1 [])), (3, .opt 0 0)], [.box [.d .any, iV M, iV D, rowsN ps, .d .any]]⟩ ⟨[0], rfl, rfl, rfl, rfl, rfl, (frz_rowJ rfl rfl (by simp)).symm, (frz_rowJ rfl rfl (by simp)).symm, rfl, trivial⟩ ?_
    (repeat' (first
  | (apply W.qd; (first
    | (apply (q_callC (hcomb)); exact rfl; exact rfl; kernel_rfl; kernel_rfl; kernel_rfl)
    | (apply q_mv; (first
    | exact Eq.refl (AV.d _)
    | exact Eq.refl (AV.osl _ _ _ _)
    | exact Eq.refl (AV.opt _ _)
    | exact Eq.refl (AV.agg _)
    | exact Eq.refl (AV.fpt _ _ _ _)
    | exact Eq.refl (AV.rpt _ _ _ _)
    | exact Eq.refl (AV.fn _ _)
    | exact Eq.refl (AV.tup _)
    | exact Eq.refl AV.top))
    | (apply q_as; (first
    | exact Eq.refl (AV.d _)
    | exact Eq.refl (AV.osl _ _ _ _)
    | exact Eq.refl (AV.opt _ _)
    | exact Eq.refl (AV.agg _)
    | exact Eq.refl (AV.fpt _ _ _ _)
    | exact Eq.refl (AV.rpt _ _ _ _)
    | exact Eq.refl (AV.fn _ _)
    | exact Eq.refl (AV.tup _)
    | exact Eq.refl AV.top))
    | (apply q_fld_optF; exact rfl; exact rfl; exact rfl)
    | (apply q_ld_box; exact rfl; exact rfl; exact rfl; exact rfl)
    | (apply q_lss; exact rfl; exact rfl)
    | (apply q_extract; exact rfl; exact rfl)))
  | (apply AWP.seq)
  | (apply ACont_normal)
  | (apply W.region; kernel_rfl)
  | (apply Walk.nil)
  | (apply AWP.exit)
  | (apply AWP.ret)
  | (apply ACont_exit)
  | (apply ABlock_exit)
  | (refine W.cond _ rfl (fun hb => ?_) (fun hb => ?_) <;> ((try simp only [hb, Bool.not_true, Bool.not_false]) <;> (try simp only [decide_eq_true_eq, decide_eq_false_iff_not, Bool.not_eq_true', Bool.not_eq_false', Int.not_lt, Int.not_le, List.length_map, not_true_eq_false] at hb) <;> (try (exfalso; omega))))))
    exact ⟨.inl rfl, [], [bS R], rfl, rfl, ⟨rfl, trivial⟩, AVle.of_eq rfl, rfl⟩

/-- All units of a stripe. -/
def encN (M : Nat) (ps us : List (List Nat)) : List (List Nat) := us ++ ps.map fun r => combM M (us.headD []).length r us (List.replicate (us.headD []).length 0)
theorem EndsO.bad2 {P : Program} {m : Nat} {env : List (Nat × AV)} {t t' sz : Nat} {y : AV} {own : List Ent} (hm : m = 0) (hx : look env t = .d (.v (.slice none 0 0))) (hy : look env t' = y) (hf : AV.frz own [] y = y) : EndsO P m [.tmp t, .tmp t'] (.tup [.d (.sl sz []), y]) [] .ret ⟨env, own⟩ := by
  subst hm
  exact EndsO.nil2 [] rfl rfl hx hy hf rfl
theorem A_encode_bad {M D : Int} {par : List (List Int)} {us : List (List Nat)} (hp : CodeIn par) (hl : us.length ≤ 1000000) (hu : ∀ u ∈ us, u.length ≤ 1000000) (h : ¬ (validC M D par = true ∧ (us.length : Int) = D ∧ uniB M us = true)) : ACalls Tryd.prog 16 [cdA M D par, strs us] [] (.tup [strs [], iV 1]) [] := by
  refine acalls_of_bodyO Tryd.func16 rfl (Nat.le_of_ble_eq_true rfl) ?_
  have hv := A_evalid (M := M) (D := D) hp
  have huni := A_uniform (M := M) (D := D) (par := par) (us := us) (by omega) (fun u h => by have := hu u h; omega)
  have hml : (us.map sD).length = us.length := List.length_map _
  cases hV : validC M D par with
  | false =>
    rw [hV] at hv
    (repeat' (first
  | (apply W.qd; (first
    | (apply (q_callC (hv)); exact rfl; exact rfl; kernel_rfl; kernel_rfl; kernel_rfl)
    | (apply q_mv; (first
    | exact Eq.refl (AV.d _)
    | exact Eq.refl (AV.osl _ _ _ _)
    | exact Eq.refl (AV.opt _ _)
    | exact Eq.refl (AV.agg _)
    | exact Eq.refl (AV.fpt _ _ _ _)
    | exact Eq.refl (AV.rpt _ _ _ _)
    | exact Eq.refl (AV.fn _ _)
    | exact Eq.refl (AV.tup _)
    | exact Eq.refl AV.top))
    | (apply q_as; (first
    | exact Eq.refl (AV.d _)
    | exact Eq.refl (AV.osl _ _ _ _)
    | exact Eq.refl (AV.opt _ _)
    | exact Eq.refl (AV.agg _)
    | exact Eq.refl (AV.fpt _ _ _ _)
    | exact Eq.refl (AV.rpt _ _ _ _)
    | exact Eq.refl (AV.fn _ _)
    | exact Eq.refl (AV.tup _)
    | exact Eq.refl AV.top))
    | (apply q_ld_boxF; exact rfl; exact rfl; exact rfl; exact rfl)
    | (apply q_not; exact rfl)
    | (apply (q_pickT (u := .d _)); exact rfl; exact rfl)))
  | (apply W.ed; (apply e_boxF; exact rfl; exact rfl; exact rfl; kernel_rfl; kernel_rfl))
  | (refine W.gOff _ _ rfl rfl (by intro h; cases h) ?_)
  | (apply AWP.seq)
  | (apply ACont_normal)
  | (apply W.region; kernel_rfl)
  | (apply Walk.nil)
  | (apply AWP.ret)
  | (apply ACont_ret)
  | (apply W.condT; exact rfl)))
    all_goals exact EndsO.bad2 rfl rfl rfl rfl
  | true =>
    rw [hV] at hv
    by_cases hD : (us.length : Int) = D
    · have hU : uniB M us = false := by
        cases hU : uniB M us with
        | false => rfl
        | true => exact absurd ⟨hV, hD, hU⟩ h
      rw [hU] at huni
      (repeat' (first
  | (apply W.gOn; exact rfl; exact rfl)
  | (apply W.qd; (first
    | (apply (q_callC (hv)); exact rfl; exact rfl; kernel_rfl; kernel_rfl; kernel_rfl)
    | (apply (q_callC (huni)); exact rfl; exact rfl; kernel_rfl; kernel_rfl; kernel_rfl)
    | (apply q_mv; (first
    | exact Eq.refl (AV.d _)
    | exact Eq.refl (AV.osl _ _ _ _)
    | exact Eq.refl (AV.opt _ _)
    | exact Eq.refl (AV.agg _)
    | exact Eq.refl (AV.fpt _ _ _ _)
    | exact Eq.refl (AV.rpt _ _ _ _)
    | exact Eq.refl (AV.fn _ _)
    | exact Eq.refl (AV.tup _)
    | exact Eq.refl AV.top))
    | (apply q_as; (first
    | exact Eq.refl (AV.d _)
    | exact Eq.refl (AV.osl _ _ _ _)
    | exact Eq.refl (AV.opt _ _)
    | exact Eq.refl (AV.agg _)
    | exact Eq.refl (AV.fpt _ _ _ _)
    | exact Eq.refl (AV.rpt _ _ _ _)
    | exact Eq.refl (AV.fn _ _)
    | exact Eq.refl (AV.tup _)
    | exact Eq.refl AV.top))
    | (apply q_fld_optF; exact rfl; exact rfl; exact rfl)
    | (apply q_ld_box; exact rfl; exact rfl; exact rfl; exact rfl)
    | (apply q_ld_boxF; exact rfl; exact rfl; exact rfl; exact rfl)
    | (apply q_neq; exact rfl; exact rfl)
    | (apply q_not; exact rfl)
    | (apply q_len_sl; exact rfl; exact rfl)
    | (apply (q_pickF (u := .d _)); exact rfl; exact rfl)))
  | (apply W.ed; (apply e_boxF; exact rfl; exact rfl; exact rfl; kernel_rfl; kernel_rfl))
  | (apply AWP.seq)
  | (apply ACont_normal)
  | (apply W.region; kernel_rfl)
  | (apply Walk.nil)
  | (apply AWP.ret)
  | (apply ACont_ret)
  | (apply W.condT; exact rfl)
  | (refine W.gF _ _ rfl rfl (fun hb => ?_) (fun hb => ?_) <;> ((try simp only [hb, Bool.not_true, Bool.not_false]) <;> (try simp only [decide_eq_true_eq, decide_eq_false_iff_not, Bool.not_eq_true', Bool.not_eq_false', Int.not_lt, Int.not_le, List.length_map, not_true_eq_false] at hb) <;> (try (exfalso; omega))))))
      all_goals exact EndsO.bad2 rfl rfl rfl rfl
    · (repeat' (first
  | (apply W.gOn; exact rfl; exact rfl)
  | (apply W.qd; (first
    | (apply (q_callC (hv)); exact rfl; exact rfl; kernel_rfl; kernel_rfl; kernel_rfl)
    | (apply q_mv; (first
    | exact Eq.refl (AV.d _)
    | exact Eq.refl (AV.osl _ _ _ _)
    | exact Eq.refl (AV.opt _ _)
    | exact Eq.refl (AV.agg _)
    | exact Eq.refl (AV.fpt _ _ _ _)
    | exact Eq.refl (AV.rpt _ _ _ _)
    | exact Eq.refl (AV.fn _ _)
    | exact Eq.refl (AV.tup _)
    | exact Eq.refl AV.top))
    | (apply q_as; (first
    | exact Eq.refl (AV.d _)
    | exact Eq.refl (AV.osl _ _ _ _)
    | exact Eq.refl (AV.opt _ _)
    | exact Eq.refl (AV.agg _)
    | exact Eq.refl (AV.fpt _ _ _ _)
    | exact Eq.refl (AV.rpt _ _ _ _)
    | exact Eq.refl (AV.fn _ _)
    | exact Eq.refl (AV.tup _)
    | exact Eq.refl AV.top))
    | (apply q_fld_optF; exact rfl; exact rfl; exact rfl)
    | (apply q_ld_box; exact rfl; exact rfl; exact rfl; exact rfl)
    | (apply q_ld_boxF; exact rfl; exact rfl; exact rfl; exact rfl)
    | (apply q_neq; exact rfl; exact rfl)
    | (apply q_not; exact rfl)
    | (apply q_len_sl; exact rfl; exact rfl)
    | (apply (q_pickT (u := .d _)); exact rfl; exact rfl)
    | (apply (q_pickF (u := .d _)); exact rfl; exact rfl)))
  | (apply W.ed; (apply e_boxF; exact rfl; exact rfl; exact rfl; kernel_rfl; kernel_rfl))
  | (refine W.gOff _ _ rfl rfl (by intro h; cases h) ?_)
  | (apply AWP.seq)
  | (apply ACont_normal)
  | (apply W.region; kernel_rfl)
  | (apply Walk.nil)
  | (apply AWP.ret)
  | (apply ACont_ret)
  | (apply W.condT; exact rfl)
  | (refine W.gF _ _ rfl rfl (fun hb => ?_) (fun hb => ?_) <;> ((try simp only [hb, Bool.not_true, Bool.not_false]) <;> (try simp only [decide_eq_true_eq, decide_eq_false_iff_not, Bool.not_eq_true', Bool.not_eq_false', Int.not_lt, Int.not_le, List.length_map, not_true_eq_false] at hb) <;> (try (exfalso; omega))))))
      all_goals exact EndsO.bad2 rfl rfl rfl rfl
theorem A_encode {M D n : Nat} {ps us : List (List Nat)} (h : CodeOk M D ps) (hl : us.length = D) (hu : ∀ u ∈ us, isB u ∧ u.length = n) (hn : n ≤ 1000000) (he : FitM M n) : ACalls Tryd.prog 16 [cdN M D ps, strs us] [] (.tup [strs (encN M ps us), iV 0]) [] := by
  refine acalls_of_bodyO Tryd.func16 rfl (Nat.le_of_ble_eq_true rfl) ?_
  have h1 := h.d
  have h2 := h.w
  have hv := A_evalidN h
  have huh : (us.headD []).length = n := by
    cases us with
    | nil => simp at hl; omega
    | cons a t => exact (hu a (by simp)).2
  have huni : ACalls Tryd.prog 41 [cdN M D ps, strs us] [] (bV true) [] := by
    have := A_uniform (M := M) (D := D) (par := toZ ps) (us := us) (by omega) (fun u h => by have := (hu u h).2; omega)
    rw [← cdN_A] at this
    have e : uniB M us = true := by
      unfold uniB
      rw [List.all_eq_true]
      intro x hx
      unfold uniQ
      rw [huh, (hu x hx).2, decide_eq_true rfl, Bool.true_and]
      rcases h.f with rfl | rfl
      · rfl
      · have := he rfl
        rw [decide_eq_true (show (n : Int) % 2 = 0 by omega), Bool.or_true]
    rwa [e] at this
  have hcl := A_clone_str (l := us) (by omega) (by omega)
  have hml : (us.map sD).length = us.length := List.length_map _
  have hmp : (ps.map rnD).length = ps.length := List.length_map _
  have hen : encN M ps us = us ++ ps.map fun r => combM M n r us (List.replicate n 0) := by unfold encN; rw [huh]
  rw [hen]
  (repeat' (first
  | (apply W.gOn; exact rfl; exact rfl)
  | (apply W.qd; (first
    | (apply (q_callC (hv)); exact rfl; exact rfl; kernel_rfl; kernel_rfl; kernel_rfl)
    | (apply (q_callC (huni)); exact rfl; exact rfl; kernel_rfl; kernel_rfl; kernel_rfl)
    | (apply q_mv; (first
    | exact Eq.refl (AV.d _)
    | exact Eq.refl (AV.osl _ _ _ _)
    | exact Eq.refl (AV.opt _ _)
    | exact Eq.refl (AV.agg _)
    | exact Eq.refl (AV.fpt _ _ _ _)
    | exact Eq.refl (AV.rpt _ _ _ _)
    | exact Eq.refl (AV.fn _ _)
    | exact Eq.refl (AV.tup _)
    | exact Eq.refl AV.top))
    | (apply q_as; (first
    | exact Eq.refl (AV.d _)
    | exact Eq.refl (AV.osl _ _ _ _)
    | exact Eq.refl (AV.opt _ _)
    | exact Eq.refl (AV.agg _)
    | exact Eq.refl (AV.fpt _ _ _ _)
    | exact Eq.refl (AV.rpt _ _ _ _)
    | exact Eq.refl (AV.fn _ _)
    | exact Eq.refl (AV.tup _)
    | exact Eq.refl AV.top))
    | (apply q_fld_optF; exact rfl; exact rfl; exact rfl)
    | (apply q_ld_box; exact rfl; exact rfl; exact rfl; exact rfl)
    | (apply q_ld_boxF; exact rfl; exact rfl; exact rfl; exact rfl)
    | (apply q_neq; exact rfl; exact rfl)
    | (apply q_not; exact rfl)
    | (apply q_len_sl; exact rfl; exact rfl)
    | (apply (q_pickF (u := .d _)); exact rfl; exact rfl)))
  | (apply W.ed; (first
    | (apply (e_callJ (js := []) (hcl)); exact rfl; exact rfl; exact rfl; exact rfl; exact rfl; kernel_rfl; kernel_rfl)
    | (apply e_boxF; exact rfl; exact rfl; exact rfl; kernel_rfl; kernel_rfl)))
  | (apply AWP.seq)
  | (apply ACont_normal)
  | (apply W.region; kernel_rfl)
  | (apply Walk.nil)
  | (apply AWP.block)
  | (apply AWP.skip)
  | (apply W.condF; exact rfl)
  | (refine W.gF _ _ rfl rfl (fun hb => ?_) (fun hb => ?_) <;> ((try simp only [hb, Bool.not_true, Bool.not_false]) <;> (try simp only [decide_eq_true_eq, decide_eq_false_iff_not, Bool.not_eq_true', Bool.not_eq_false', Int.not_lt, Int.not_le, List.length_map, not_true_eq_false] at hb) <;> (try (exfalso; omega))))))
  refine AWP.loopW (α := Nat) (fun k => k ≤ ps.length) (fun k => ⟨[(32, iV k), (31, iV ps.length), (30, rowsN ps), (1, strs us), (6, .osl 1 (k + 1) 0 (us ++ (ps.take k).map fun r => combM M n r us (List.replicate n 0)).length), (2, .opt 0 0)], [.box [.d .any, iV M, iV D, rowsN ps, .d .any], .row (k + 1) 1 9 ((us ++ (ps.take k).map fun r => combM M n r us (List.replicate n 0)).map sD)]⟩) (fun k => ps.length - k) 0 (by omega) ?wk0 fun k hk => ?_
  case wk0 =>
    rw [show (us ++ (ps.take 0).map fun r => combM M n r us (List.replicate n 0)) = us by simp]
    exact ⟨[0, 1], rfl, rfl, rfl, rfl, iV_eq (by simp), rfl, rfl, rfl, rfl, trivial⟩
  by_cases hkl : k < ps.length
  · have hr := h.row ps[k] (List.getElem_mem _)
    have hcomb := A_fcombine (cs := ps[k]) (us := us) h.f he (by rw [hr.1, hl]) (by omega) hr.2.1 hu hn (by omega)
    have h5 : (ps.take (k + 1)).map (fun r => combM M n r us (List.replicate n 0)) = (ps.take k).map (fun r => combM M n r us (List.replicate n 0)) ++ [combM M n ps[k] us (List.replicate n 0)] := by
      rw [← List.take_append_getElem hkl, List.map_append]; rfl
    have h6 : us ++ (ps.take (k + 1)).map (fun r => combM M n r us (List.replicate n 0)) = (us ++ (ps.take k).map (fun r => combM M n r us (List.replicate n 0))) ++ [combM M n ps[k] us (List.replicate n 0)] := by rw [h5, List.append_assoc]
    have hl2 : (us ++ (ps.take k).map (fun r => combM M n r us (List.replicate n 0))).length ≤ 1024 := by simp; omega
    clear h5
    replace h6 := Lib.hid h6
    generalize combM M n ps[k] us (List.replicate n 0) = R at *
    generalize us ++ (ps.take k).map (fun r => combM M n r us (List.replicate n 0)) = A at *
    clear hr
    (repeat' (first
  | (apply W.qd; (first
    | (apply (q_callC (hcomb)); exact rfl; exact rfl; kernel_rfl; kernel_rfl; kernel_rfl)
    | (apply q_mv; (first
    | exact Eq.refl (AV.d _)
    | exact Eq.refl (AV.osl _ _ _ _)
    | exact Eq.refl (AV.opt _ _)
    | exact Eq.refl (AV.agg _)
    | exact Eq.refl (AV.fpt _ _ _ _)
    | exact Eq.refl (AV.rpt _ _ _ _)
    | exact Eq.refl (AV.fn _ _)
    | exact Eq.refl (AV.tup _)
    | exact Eq.refl AV.top))
    | (apply q_as; (first
    | exact Eq.refl (AV.d _)
    | exact Eq.refl (AV.osl _ _ _ _)
    | exact Eq.refl (AV.opt _ _)
    | exact Eq.refl (AV.agg _)
    | exact Eq.refl (AV.fpt _ _ _ _)
    | exact Eq.refl (AV.rpt _ _ _ _)
    | exact Eq.refl (AV.fn _ _)
    | exact Eq.refl (AV.tup _)
    | exact Eq.refl AV.top))
    | (apply q_fld_optF; exact rfl; exact rfl; exact rfl)
    | (apply q_ld_box; exact rfl; exact rfl; exact rfl; exact rfl)
    | (apply q_lss; exact rfl; exact rfl)
    | (apply q_add; exact rfl; exact rfl; omega)
    | (apply q_extract; exact rfl; exact rfl)
    | (apply q_ld_map; exact rfl; exact rfl; exact rfl; (first | omega | (focus (simp; done))))
    | (apply q_litF; exact rfl; exact rfl; exact rfl; exact rfl; exact rfl; kernel_rfl; kernel_rfl; exact rfl)
    | (apply q_ix_slF; exact rfl; exact rfl; exact rfl; exact rfl; (first | (with_reducible exact rfl) | exact natI_spec rfl | assumption | exact (Int.toNat_of_nonneg (by omega)).symm); (first | omega | (focus (simp only [List.length_map]; omega)) | (focus (simp; done)) | (focus (simp; omega))))))
  | (apply W.ld; (apply l_app1; exact rfl; exact rfl; exact rfl; exact rfl; exact rfl; exact rfl; exact rfl; exact rfl; (first | omega | (focus (simp; omega)) | (focus (simp; done)))))
  | (apply AWP.seq)
  | (apply ACont_normal)
  | (apply W.region; kernel_rfl)
  | (apply Walk.nil)
  | (apply AWP.block)
  | (apply AWP.skip)
  | (apply ABlock_normal)
  | (refine W.cond _ rfl (fun hb => ?_) (fun hb => ?_) <;> ((try simp only [hb, Bool.not_true, Bool.not_false]) <;> (try simp only [decide_eq_true_eq, decide_eq_false_iff_not, Bool.not_eq_true', Bool.not_eq_false', Int.not_lt, Int.not_le, List.length_map, not_true_eq_false] at hb) <;> (try (exfalso; omega))))))
    refine ⟨k + 1, by omega, by omega, ?_⟩
    rw [h6.out]
    exact ⟨[0, 1], rfl, rfl, rfl, iV_eq (by omega), rfl, rfl, rfl, rfl, rfl, trivial⟩
  · have e : ps.length = k := by omega
    subst e
    rw [List.take_length]
    have hl2 : (us ++ ps.map fun r => combM M n r us (List.replicate n 0)).length ≤ 1024 := by simp; omega
    generalize us ++ ps.map (fun r => combM M n r us (List.replicate n 0)) = A at *
    (repeat' (first
  | (apply W.qd; (first
    | (apply q_mv; (first
    | exact Eq.refl (AV.d _)
    | exact Eq.refl (AV.osl _ _ _ _)
    | exact Eq.refl (AV.opt _ _)
    | exact Eq.refl (AV.agg _)
    | exact Eq.refl (AV.fpt _ _ _ _)
    | exact Eq.refl (AV.rpt _ _ _ _)
    | exact Eq.refl (AV.fn _ _)
    | exact Eq.refl (AV.tup _)
    | exact Eq.refl AV.top))
    | (apply q_as; (first
    | exact Eq.refl (AV.d _)
    | exact Eq.refl (AV.osl _ _ _ _)
    | exact Eq.refl (AV.opt _ _)
    | exact Eq.refl (AV.agg _)
    | exact Eq.refl (AV.fpt _ _ _ _)
    | exact Eq.refl (AV.rpt _ _ _ _)
    | exact Eq.refl (AV.fn _ _)
    | exact Eq.refl (AV.tup _)
    | exact Eq.refl AV.top))
    | (apply q_lss; exact rfl; exact rfl)))
  | (apply AWP.seq)
  | (apply ACont_normal)
  | (apply W.region; kernel_rfl)
  | (apply Walk.nil)
  | (apply AWP.exit)
  | (apply AWP.ret)
  | (apply ACont_exit)
  | (apply ABlock_exit)
  | (refine W.cond _ rfl (fun hb => ?_) (fun hb => ?_) <;> ((try simp only [hb, Bool.not_true, Bool.not_false]) <;> (try simp only [decide_eq_true_eq, decide_eq_false_iff_not, Bool.not_eq_true', Bool.not_eq_false', Int.not_lt, Int.not_le, List.length_map, not_true_eq_false] at hb) <;> (try (exfalso; omega))))))
    refine ⟨.inl rfl, [], [.osl 1 (ps.length + 1) 0 A.length, iV 0], rfl, rfl, ⟨rfl, rfl, trivial⟩, AVle.tup2 (AVle.of_eq (frz_rowJ rfl rfl (by simp))) (AVle.of_eq rfl), rfl⟩
end Go.Proofs.YtjaipchlnnjaeaaDoor
end

section
/- Package erasure over the machine of abstract values: Recover, Decode. -/
namespace Go.Proofs.YtjaipchlnnjaeaaDoor
open Go.RowKit
set_option linter.unusedVariables false
set_option linter.unusedSimpArgs false
set_option maxHeartbeats 4000000
set_option maxRecDepth 100000
attribute [local irreducible] Quiet Eff OpOk AWPG ACont ABlock ACalls AGoto

/-- Terms that fit the units. -/
structure TermsIn (M n : Nat) (us : List (List Nat)) (l : List (Nat × Nat)) : Prop where
  p : 0 < l.length
  le : l.length ≤ 1000
  t : ∀ t ∈ l, t.1 < us.length ∧ t.2 < 2 ^ M ∧ isB (us.getD t.1 []) ∧ (us.getD t.1 []).length = n
theorem A_recover_bad {M D u : Nat} {ps us : List (List Nat)} {hv : List Bool} (h : CodeOk M D ps) (hul : us.length ≤ 1000000) (hhl : hv.length ≤ 1000000) (hu : ∀ u ∈ us, u.length ≤ 1000000) (hf : fitN M D ps us hv = false) : ACalls Tryd.prog 36 [cdN M D ps, strs us, bools hv, iV u] [] (.tup [bS [], iV 1]) [] := by
  refine acalls_of_bodyO Tryd.func36 rfl (Nat.le_of_ble_eq_true rfl) ?_
  have hfit := A_fit h hul hhl hu
  rw [hf] at hfit
  (repeat' (first
  | (apply W.qd; (first
    | (apply (q_callC (hfit)); exact rfl; exact rfl; kernel_rfl; kernel_rfl; kernel_rfl)
    | (apply q_mv; (first
    | exact Eq.refl (AV.d _)
    | exact Eq.refl (AV.osl _ _ _ _)
    | exact Eq.refl (AV.opt _ _)
    | exact Eq.refl (AV.agg _)
    | exact Eq.refl (AV.fpt _ _ _ _)
    | exact Eq.refl (AV.rpt _ _ _ _)
    | exact Eq.refl (AV.fn _ _)
    | exact Eq.refl (AV.tup _)
    | exact Eq.refl AV.top))
    | (apply q_as; (first
    | exact Eq.refl (AV.d _)
    | exact Eq.refl (AV.osl _ _ _ _)
    | exact Eq.refl (AV.opt _ _)
    | exact Eq.refl (AV.agg _)
    | exact Eq.refl (AV.fpt _ _ _ _)
    | exact Eq.refl (AV.rpt _ _ _ _)
    | exact Eq.refl (AV.fn _ _)
    | exact Eq.refl (AV.tup _)
    | exact Eq.refl AV.top))
    | (apply q_ld_boxF; exact rfl; exact rfl; exact rfl; exact rfl)
    | (apply q_not; exact rfl)))
  | (apply W.ed; (apply e_boxF; exact rfl; exact rfl; exact rfl; kernel_rfl; kernel_rfl))
  | (apply AWP.seq)
  | (apply ACont_normal)
  | (apply W.region; kernel_rfl)
  | (apply Walk.nil)
  | (apply AWP.ret)
  | (apply ACont_ret)
  | (apply W.condT; exact rfl)))
  all_goals exact ⟨.inl rfl, [], [bS [], iV 1], rfl, rfl, ⟨rfl, rfl, trivial⟩, AVle.of_eq rfl, rfl⟩
theorem A_recover_lost {M D u : Nat} {ps us : List (List Nat)} {hv : List Bool} (h : CodeOk M D ps) (hul : us.length ≤ 1000000) (hhl : hv.length = D + ps.length) (hu : ∀ u ∈ us, u.length ≤ 1000000) (hf : fitN M D ps us hv = true) (hlt : u < D + ps.length) (hc : combN M D ps hv u = none) : ACalls Tryd.prog 36 [cdN M D ps, strs us, bools hv, iV u] [] (.tup [bS [], iV 11]) [] := by
  refine acalls_of_bodyO Tryd.func36 rfl (Nat.le_of_ble_eq_true rfl) ?_
  have h2 := h.w
  have hfit := A_fit (hv := hv) h hul (by omega) hu
  rw [hf] at hfit
  have hcomb := A_comb h hhl hlt
  rw [hc] at hcomb
  unfold termsA at hcomb
  dsimp only at hcomb
  (repeat' (first
  | (apply W.qd; (first
    | (apply (q_callC (hfit)); exact rfl; exact rfl; kernel_rfl; kernel_rfl; kernel_rfl)
    | (apply (q_callC (hcomb)); exact rfl; exact rfl; kernel_rfl; kernel_rfl; kernel_rfl)
    | (apply q_mv; (first
    | exact Eq.refl (AV.d _)
    | exact Eq.refl (AV.osl _ _ _ _)
    | exact Eq.refl (AV.opt _ _)
    | exact Eq.refl (AV.agg _)
    | exact Eq.refl (AV.fpt _ _ _ _)
    | exact Eq.refl (AV.rpt _ _ _ _)
    | exact Eq.refl (AV.fn _ _)
    | exact Eq.refl (AV.tup _)
    | exact Eq.refl AV.top))
    | (apply q_as; (first
    | exact Eq.refl (AV.d _)
    | exact Eq.refl (AV.osl _ _ _ _)
    | exact Eq.refl (AV.opt _ _)
    | exact Eq.refl (AV.agg _)
    | exact Eq.refl (AV.fpt _ _ _ _)
    | exact Eq.refl (AV.rpt _ _ _ _)
    | exact Eq.refl (AV.fn _ _)
    | exact Eq.refl (AV.tup _)
    | exact Eq.refl AV.top))
    | (apply q_ld_boxF; exact rfl; exact rfl; exact rfl; exact rfl)
    | (apply q_neq; exact rfl; exact rfl)
    | (apply q_not; exact rfl)
    | (apply q_extract; exact rfl; exact rfl)))
  | (apply W.ed; (apply e_boxF; exact rfl; exact rfl; exact rfl; kernel_rfl; kernel_rfl))
  | (apply AWP.seq)
  | (apply ACont_normal)
  | (apply W.region; kernel_rfl)
  | (apply Walk.nil)
  | (apply AWP.skip)
  | (apply AWP.ret)
  | (apply ACont_ret)
  | (apply W.condT; exact rfl)
  | (apply W.condF; exact rfl)))
  all_goals exact ⟨.inl rfl, [], [bS [], iV 11], rfl, rfl, ⟨rfl, rfl, trivial⟩, AVle.of_eq rfl, rfl⟩
theorem A_recover_ok {M D u n : Nat} {ps us : List (List Nat)} {hv : List Bool} {l : List (Nat × Nat)} (h : CodeOk M D ps) (hul : us.length ≤ 1000000) (hhl : hv.length = D + ps.length) (hu : ∀ u ∈ us, u.length ≤ 1000000) (hf : fitN M D ps us hv = true) (hlt : u < D + ps.length) (hc : combN M D ps hv u = some l) (ht : TermsIn M n us l) (he : FitM M n) (hn : n ≤ 1000000) : ACalls Tryd.prog 36 [cdN M D ps, strs us, bools hv, iV u] [] (.tup [bS (sumN M n us l), iV 0]) [] := by
  refine acalls_of_bodyO Tryd.func36 rfl (Nat.le_of_ble_eq_true rfl) ?_
  have h2 := h.w
  have hfit := A_fit (hv := hv) h hul (by omega) hu
  rw [hf] at hfit
  have hcomb := A_comb h hhl hlt
  rw [hc] at hcomb
  unfold termsA at hcomb
  dsimp only at hcomb
  have hsum := A_sum (D := D) (ps := ps) h.f he ht.p ht.le hn ht.t
  generalize sumN M n us l = R at *
  (repeat' (first
  | (apply W.qd; (first
    | (apply (q_callC (hfit)); exact rfl; exact rfl; kernel_rfl; kernel_rfl; kernel_rfl)
    | (apply (q_callC (hcomb)); exact rfl; exact rfl; kernel_rfl; kernel_rfl; kernel_rfl)
    | (apply (q_callC (hsum)); exact rfl; exact rfl; kernel_rfl; kernel_rfl; kernel_rfl)
    | (apply q_mv; (first
    | exact Eq.refl (AV.d _)
    | exact Eq.refl (AV.osl _ _ _ _)
    | exact Eq.refl (AV.opt _ _)
    | exact Eq.refl (AV.agg _)
    | exact Eq.refl (AV.fpt _ _ _ _)
    | exact Eq.refl (AV.rpt _ _ _ _)
    | exact Eq.refl (AV.fn _ _)
    | exact Eq.refl (AV.tup _)
    | exact Eq.refl AV.top))
    | (apply q_as; (first
    | exact Eq.refl (AV.d _)
    | exact Eq.refl (AV.osl _ _ _ _)
    | exact Eq.refl (AV.opt _ _)
    | exact Eq.refl (AV.agg _)
    | exact Eq.refl (AV.fpt _ _ _ _)
    | exact Eq.refl (AV.rpt _ _ _ _)
    | exact Eq.refl (AV.fn _ _)
    | exact Eq.refl (AV.tup _)
    | exact Eq.refl AV.top))
    | (apply q_ld_boxF; exact rfl; exact rfl; exact rfl; exact rfl)
    | (apply q_neq; exact rfl; exact rfl)
    | (apply q_not; exact rfl)
    | (apply q_extract; exact rfl; exact rfl)))
  | (apply W.ed; (apply e_boxF; exact rfl; exact rfl; exact rfl; kernel_rfl; kernel_rfl))
  | (apply AWP.seq)
  | (apply ACont_normal)
  | (apply W.region; kernel_rfl)
  | (apply Walk.nil)
  | (apply AWP.skip)
  | (apply AWP.ret)
  | (apply W.condF; exact rfl)))
  all_goals exact ⟨.inl rfl, [], [bS R, iV 0], rfl, rfl, ⟨rfl, rfl, trivial⟩, AVle.of_eq rfl, rfl⟩

theorem A_decode_bad {M D : Nat} {ps us : List (List Nat)} {hv : List Bool} (h : CodeOk M D ps) (hul : us.length ≤ 1000000) (hhl : hv.length ≤ 1000000) (hu : ∀ u ∈ us, u.length ≤ 1000000) (hf : fitN M D ps us hv = false) : ACalls Tryd.prog 38 [cdN M D ps, strs us, bools hv] [] (.tup [strs [], iV 1]) [] := by
  refine acalls_of_bodyO Tryd.func38 rfl (Nat.le_of_ble_eq_true rfl) ?_
  have hfit := A_fit h hul hhl hu
  rw [hf] at hfit
  (repeat' (first
  | (apply W.qd; (first
    | (apply (q_callC (hfit)); exact rfl; exact rfl; kernel_rfl; kernel_rfl; kernel_rfl)
    | (apply q_mv; (first
    | exact Eq.refl (AV.d _)
    | exact Eq.refl (AV.osl _ _ _ _)
    | exact Eq.refl (AV.opt _ _)
    | exact Eq.refl (AV.agg _)
    | exact Eq.refl (AV.fpt _ _ _ _)
    | exact Eq.refl (AV.rpt _ _ _ _)
    | exact Eq.refl (AV.fn _ _)
    | exact Eq.refl (AV.tup _)
    | exact Eq.refl AV.top))
    | (apply q_as; (first
    | exact Eq.refl (AV.d _)
    | exact Eq.refl (AV.osl _ _ _ _)
    | exact Eq.refl (AV.opt _ _)
    | exact Eq.refl (AV.agg _)
    | exact Eq.refl (AV.fpt _ _ _ _)
    | exact Eq.refl (AV.rpt _ _ _ _)
    | exact Eq.refl (AV.fn _ _)
    | exact Eq.refl (AV.tup _)
    | exact Eq.refl AV.top))
    | (apply q_ld_boxF; exact rfl; exact rfl; exact rfl; exact rfl)
    | (apply q_not; exact rfl)))
  | (apply W.ed; (apply e_boxF; exact rfl; exact rfl; exact rfl; kernel_rfl; kernel_rfl))
  | (apply AWP.seq)
  | (apply ACont_normal)
  | (apply W.region; kernel_rfl)
  | (apply Walk.nil)
  | (apply AWP.ret)
  | (apply ACont_ret)
  | (apply W.condT; exact rfl)))
  all_goals exact EndsO.bad2 rfl rfl rfl rfl
/-- What Decode returns: all units, or the first that is lost ends it. -/
def decR (M n : Nat) (us : List (List Nat)) (ls : Nat → List (Nat × Nat)) (W q : Nat) : AV := if q < W then .tup [strs [], iV 11] else .tup [strs ((List.range W).map fun i => sumN M n us (ls i)), iV 0]
theorem A_decode {M D n q : Nat} {ps us : List (List Nat)} {hv : List Bool} {ls : Nat → List (Nat × Nat)} (h : CodeOk M D ps) (hul : us.length = D + ps.length) (hhl : hv.length = D + ps.length) (hu : ∀ u ∈ us, u.length ≤ 1000000) (hf : fitN M D ps us hv = true) (he : FitM M n) (hn : n ≤ 1000000) (hq : q ≤ D + ps.length)
    (hc : ∀ i, i < q → combN M D ps hv i = some (ls i) ∧ TermsIn M n us (ls i)) (hc2 : q < D + ps.length → combN M D ps hv q = none) : ACalls Tryd.prog 38 [cdN M D ps, strs us, bools hv] [] (decR M n us ls (D + ps.length) q) [] := by
  refine acalls_of_bodyO Tryd.func38 rfl (Nat.le_of_ble_eq_true rfl) ?_
  have h1 := h.d
  have h2 := h.w
  have hfit := A_fit (us := us) (hv := hv) h (by omega) (by omega) hu
  rw [hf] at hfit
  have hsp := A_spanOf h hhl
  have hok := spanN_ok h hhl
  have hbl := basis_len h hhl
  have hokl := hok.l
  have ht : ∀ i, i < D + ps.length → ACalls Tryd.prog 53 [.opt 0 0, iV i] [spB M D ps (basisN M D ps hv) (spanN M D ps hv).length (spanN M D ps hv).length, spR (spanN M D ps hv).length (spanN M D ps hv)] (termsA (combN M D ps hv i)) [spB M D ps (basisN M D ps hv) (spanN M D ps hv).length (spanN M D ps hv).length, spR (spanN M D ps hv).length (spanN M D ps hv)] := fun i hi => A_terms (rv := (spanN M D ps hv).length) (rows := spanN M D ps hv) (us := basisN M D ps hv) h hi (by omega) (by omega) hok.r
  generalize spanN M D ps hv = S at *
  generalize basisN M D ps hv = B at *
  clear hok hbl
  have hmu : (us.map sD).length = us.length := List.length_map _
  (repeat' (first
  | (apply W.qd; (first
    | (apply (q_callC (hfit)); exact rfl; exact rfl; kernel_rfl; kernel_rfl; kernel_rfl)
    | (apply q_mv; (first
    | exact Eq.refl (AV.d _)
    | exact Eq.refl (AV.osl _ _ _ _)
    | exact Eq.refl (AV.opt _ _)
    | exact Eq.refl (AV.agg _)
    | exact Eq.refl (AV.fpt _ _ _ _)
    | exact Eq.refl (AV.rpt _ _ _ _)
    | exact Eq.refl (AV.fn _ _)
    | exact Eq.refl (AV.tup _)
    | exact Eq.refl AV.top))
    | (apply q_as; (first
    | exact Eq.refl (AV.d _)
    | exact Eq.refl (AV.osl _ _ _ _)
    | exact Eq.refl (AV.opt _ _)
    | exact Eq.refl (AV.agg _)
    | exact Eq.refl (AV.fpt _ _ _ _)
    | exact Eq.refl (AV.rpt _ _ _ _)
    | exact Eq.refl (AV.fn _ _)
    | exact Eq.refl (AV.tup _)
    | exact Eq.refl AV.top))
    | (apply q_ld_boxF; exact rfl; exact rfl; exact rfl; exact rfl)
    | (apply q_not; exact rfl)
    | (apply q_extract; exact rfl; exact rfl)
    | (apply q_len_sl; exact rfl; exact rfl)))
  | (apply W.ed; (first
    | (apply (e_callJ (js := []) (hsp)); exact rfl; exact rfl; exact rfl; exact rfl; exact rfl; kernel_rfl; kernel_rfl)
    | (apply e_boxF; exact rfl; exact rfl; exact rfl; kernel_rfl; kernel_rfl)))
  | (apply AWP.seq)
  | (apply ACont_normal)
  | (apply W.region; kernel_rfl)
  | (apply Walk.nil)
  | (apply AWP.block)
  | (apply AWP.skip)
  | (apply W.condF; exact rfl)))
  refine AWP.nilRow 10 1 9 rfl (by omega) ?_
  refine AWP.loopW (α := Nat) (fun k => k ≤ q) (fun k => ⟨[(27, iV k), (26, iV us.length), (25, strs us), (1, strs us), (8, .opt 1 0), (3, .opt 0 0), (10, .osl 3 k 0 ((List.range k).map fun i => sumN M n us (ls i)).length)], [.box [.d .any, iV M, iV D, rowsN ps, .d .any], .box [.d .any, iV M, iV D, rowsN ps, .d .any, nats B, .osl 2 S.length 0 S.length], spR S.length S, .row k 1 9 (((List.range k).map fun i => sumN M n us (ls i)).map sD)]⟩) (fun k => q - k) 0 (by omega) ?wk0 fun k hk => ?_
  case wk0 => exact ⟨[0, 1, 2, 3], rfl, rfl, rfl, rfl, iV_eq (by simp), rfl, rfl, rfl, rfl, rfl, trivial⟩
  by_cases hkq : k < q
  · obtain ⟨hc3, hti⟩ := hc k hkq
    have htk := ht k (by omega)
    rw [hc3] at htk
    unfold termsA at htk
    dsimp only at htk
    have hsum := A_sum (D := D) (ps := ps) h.f he hti.p hti.le hn hti.t
    have hs : (List.range (k + 1)).map (fun i => sumN M n us (ls i)) = (List.range k).map (fun i => sumN M n us (ls i)) ++ [sumN M n us (ls k)] := by
      rw [List.range_succ, List.map_append]; rfl
    have hl2 : ((List.range k).map (fun i => sumN M n us (ls i))).length ≤ 1024 := by simp; omega
    replace hs := Lib.hid hs
    generalize sumN M n us (ls k) = R at *
    generalize (List.range k).map (fun i => sumN M n us (ls i)) = A at *
    generalize ls k = L at *
    clear hti ht hc hc2
    (repeat' (first
  | (apply W.qd; (first
    | (apply (q_callC (hsum)); exact rfl; exact rfl; kernel_rfl; kernel_rfl; kernel_rfl)
    | (apply q_mv; (first
    | exact Eq.refl (AV.d _)
    | exact Eq.refl (AV.osl _ _ _ _)
    | exact Eq.refl (AV.opt _ _)
    | exact Eq.refl (AV.agg _)
    | exact Eq.refl (AV.fpt _ _ _ _)
    | exact Eq.refl (AV.rpt _ _ _ _)
    | exact Eq.refl (AV.fn _ _)
    | exact Eq.refl (AV.tup _)
    | exact Eq.refl AV.top))
    | (apply q_as; (first
    | exact Eq.refl (AV.d _)
    | exact Eq.refl (AV.osl _ _ _ _)
    | exact Eq.refl (AV.opt _ _)
    | exact Eq.refl (AV.agg _)
    | exact Eq.refl (AV.fpt _ _ _ _)
    | exact Eq.refl (AV.rpt _ _ _ _)
    | exact Eq.refl (AV.fn _ _)
    | exact Eq.refl (AV.tup _)
    | exact Eq.refl AV.top))
    | (apply q_ld_boxF; exact rfl; exact rfl; exact rfl; exact rfl)
    | (apply q_lss; exact rfl; exact rfl)
    | (apply q_neq; exact rfl; exact rfl)
    | (apply q_add; exact rfl; exact rfl; omega)
    | (apply q_extract; exact rfl; exact rfl)
    | (apply q_litF; exact rfl; exact rfl; exact rfl; exact rfl; exact rfl; kernel_rfl; kernel_rfl; exact rfl)))
  | (apply W.ld; (apply l_app1; exact rfl; exact rfl; exact rfl; exact rfl; exact rfl; exact rfl; exact rfl; exact rfl; (first | omega | (focus (simp; omega)) | (focus (simp; done)))))
  | (apply W.ed; (apply (e_callJ (js := [1, 2]) (htk)); exact rfl; exact rfl; exact rfl; exact rfl; exact rfl; kernel_rfl; kernel_rfl))
  | (apply AWP.seq)
  | (apply ACont_normal)
  | (apply W.region; kernel_rfl)
  | (apply Walk.nil)
  | (apply AWP.block)
  | (apply AWP.skip)
  | (apply ABlock_normal)
  | (apply W.condF; exact rfl)
  | (refine W.cond _ rfl (fun hb => ?_) (fun hb => ?_) <;> ((try simp only [hb, Bool.not_true, Bool.not_false]) <;> (try simp only [decide_eq_true_eq, decide_eq_false_iff_not, Bool.not_eq_true', Bool.not_eq_false', Int.not_lt, Int.not_le, List.length_map, not_true_eq_false] at hb) <;> (try (exfalso; omega))))))
    refine ⟨k + 1, by omega, by omega, ?_⟩
    rw [hs.out]
    exact ⟨[0, 1, 2, 3], rfl, rfl, rfl, iV_eq (by omega), rfl, rfl, rfl, rfl, rfl, rfl, trivial⟩
  · have e : k = q := by omega
    subst e
    by_cases hkW : k < D + ps.length
    · have htk := ht k hkW
      rw [hc2 hkW] at htk
      unfold termsA at htk
      dsimp only at htk
      clear ht hc hc2
      have hd : decR M n us ls (D + ps.length) k = .tup [strs [], iV 11] := if_pos hkW
      rw [hd]
      have hl2 : ((List.range k).map (fun i => sumN M n us (ls i))).length ≤ 1024 := by simp; omega
      generalize (List.range k).map (fun i => sumN M n us (ls i)) = A at *
      (repeat' (first
  | (apply W.qd; (first
    | (apply q_mv; (first
    | exact Eq.refl (AV.d _)
    | exact Eq.refl (AV.osl _ _ _ _)
    | exact Eq.refl (AV.opt _ _)
    | exact Eq.refl (AV.agg _)
    | exact Eq.refl (AV.fpt _ _ _ _)
    | exact Eq.refl (AV.rpt _ _ _ _)
    | exact Eq.refl (AV.fn _ _)
    | exact Eq.refl (AV.tup _)
    | exact Eq.refl AV.top))
    | (apply q_as; (first
    | exact Eq.refl (AV.d _)
    | exact Eq.refl (AV.osl _ _ _ _)
    | exact Eq.refl (AV.opt _ _)
    | exact Eq.refl (AV.agg _)
    | exact Eq.refl (AV.fpt _ _ _ _)
    | exact Eq.refl (AV.rpt _ _ _ _)
    | exact Eq.refl (AV.fn _ _)
    | exact Eq.refl (AV.tup _)
    | exact Eq.refl AV.top))
    | (apply q_lss; exact rfl; exact rfl)
    | (apply q_neq; exact rfl; exact rfl)
    | (apply q_extract; exact rfl; exact rfl)))
  | (apply W.ed; (apply (e_callJ (js := [1, 2]) (htk)); exact rfl; exact rfl; exact rfl; exact rfl; exact rfl; kernel_rfl; kernel_rfl))
  | (apply AWP.seq)
  | (apply ACont_normal)
  | (apply W.region; kernel_rfl)
  | (apply Walk.nil)
  | (apply AWP.block)
  | (apply AWP.skip)
  | (apply AWP.ret)
  | (apply ACont_ret)
  | (apply ABlock_ret)
  | (apply W.condT; exact rfl)
  | (refine W.cond _ rfl (fun hb => ?_) (fun hb => ?_) <;> ((try simp only [hb, Bool.not_true, Bool.not_false]) <;> (try simp only [decide_eq_true_eq, decide_eq_false_iff_not, Bool.not_eq_true', Bool.not_eq_false', Int.not_lt, Int.not_le, List.length_map, not_true_eq_false] at hb) <;> (try (exfalso; omega))))))
      exact EndsO.bad2 rfl rfl rfl rfl
    · have e : D + ps.length = k := by omega
      have hd : decR M n us ls (D + ps.length) k = .tup [strs ((List.range k).map fun i => sumN M n us (ls i)), iV 0] := by rw [decR, if_neg (by omega), e]
      rw [hd]
      clear ht hc hc2
      have hl2 : ((List.range k).map (fun i => sumN M n us (ls i))).length ≤ 1024 := by simp; omega
      generalize (List.range k).map (fun i => sumN M n us (ls i)) = A at *
      (repeat' (first
  | (apply W.qd; (first
    | (apply q_mv; (first
    | exact Eq.refl (AV.d _)
    | exact Eq.refl (AV.osl _ _ _ _)
    | exact Eq.refl (AV.opt _ _)
    | exact Eq.refl (AV.agg _)
    | exact Eq.refl (AV.fpt _ _ _ _)
    | exact Eq.refl (AV.rpt _ _ _ _)
    | exact Eq.refl (AV.fn _ _)
    | exact Eq.refl (AV.tup _)
    | exact Eq.refl AV.top))
    | (apply q_as; (first
    | exact Eq.refl (AV.d _)
    | exact Eq.refl (AV.osl _ _ _ _)
    | exact Eq.refl (AV.opt _ _)
    | exact Eq.refl (AV.agg _)
    | exact Eq.refl (AV.fpt _ _ _ _)
    | exact Eq.refl (AV.rpt _ _ _ _)
    | exact Eq.refl (AV.fn _ _)
    | exact Eq.refl (AV.tup _)
    | exact Eq.refl AV.top))
    | (apply q_lss; exact rfl; exact rfl)))
  | (apply AWP.seq)
  | (apply ACont_normal)
  | (apply W.region; kernel_rfl)
  | (apply Walk.nil)
  | (apply AWP.exit)
  | (apply AWP.ret)
  | (apply ACont_exit)
  | (apply ABlock_exit)
  | (refine W.cond _ rfl (fun hb => ?_) (fun hb => ?_) <;> ((try simp only [hb, Bool.not_true, Bool.not_false]) <;> (try simp only [decide_eq_true_eq, decide_eq_false_iff_not, Bool.not_eq_true', Bool.not_eq_false', Int.not_lt, Int.not_le, List.length_map, not_true_eq_false] at hb) <;> (try (exfalso; omega))))))
      exact ⟨.inl rfl, [], [.osl 3 k 0 A.length, iV 0], rfl, rfl, ⟨rfl, rfl, trivial⟩, AVle.tup2 (AVle.of_eq (frz_rowJ rfl rfl (by simp))) (AVle.of_eq rfl), rfl⟩
end Go.Proofs.YtjaipchlnnjaeaaDoor
end
